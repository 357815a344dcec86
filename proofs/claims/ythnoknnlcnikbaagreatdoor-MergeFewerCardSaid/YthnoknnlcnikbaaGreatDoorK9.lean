/- Part 9 of what the proofs of this seat share: the executor, data in memory, walks.
-/
import Derived.Test.YthnoknnlcnikbaaGreatDoorK8
import Derived.Test.YthnoknnlcnikbaaGreatDoorK2
import Derived.Test.YthnoknnlcnikbaaGreatDoorK5
import Derived.Test.YthnoknnlcnikbaaGreatDoorK4
import Derived.Lib.SliceRun
import Derived.Test.YthnoknnlcnikbaaGreatDoorK6
import Derived.Test.YthnoknnlcnikbaaGreatDoorK7
import Derived.Test.YthnoknnlcnikbaaGreatDoorK3
set_option linter.all false
set_option maxHeartbeats 8000000
set_option maxRecDepth 100000
namespace Go.V
open Go Go.Proofs
def ae6:=@List.eq_nil_iff_forall_not_mem
variable{S x X:aS}{I J I':aJ}{os:aQ}{ns ei:List al}{xs b3:List Value}{j r pc u c':Nat}{path ay p:List Int}{α:Type}{M M0:List aF}{g h:cg}{hi rule:Int}{F c9:List aR}{pa:Option Addr}{pl:List (ByteArray×Int)}{bf:bn}{s:Operand}{aP:Addr}{c6 aG:dR}
structure JV(ns:List al)(I:aJ)(os:aQ)(ei:List al)(J:aJ):Prop where
 a8:∀ b o,I b=some o->J b=some o
 os:os.ok 9 (ei.flatMap al.cells)
 ok:∀ d∈ei,d.ok J
 a9:∃ m,ei=ns++m
def zg(os bu:aQ)(iZ:List aF):Prop:=∀ g∈(os.ar 82).map (·.num),g∈(bu.ar 82++iZ).map (·.num)
def as4(S:aT)(tns ns:List al)(qc:List Nat)(os:aQ)(I:aJ)(v:Value)(I':aJ)(M':List aF):Prop:=
 ∃ (bu:aQ) (iX:List al) (iZ:List aF),v=.tuple #[bu.val,.int .i64 ((iX.length-1:Nat):Int)]/\M'=bu.ar 82++iZ/\zg os bu iZ/\JV ns I bu iX I'/\mc iX ((iX.length-1)::qc)/\iX.length=ns.length+S.cZ.length/\∃ ml:aT,ml.bw=iX.length-1/\cF iX ml/\ml.bare iX=S.bare tns
def F2(bC len e j:Nat):Int:=((bC+len-1-(e+j):Nat):Int)
def as5{S:aT}{q:List aT}(h:q=S::q.flatMap aT.sub)(i:Nat):fc q i<=q.length:=by
 have aa:=congrArg List.length h;have e:q.flatMap aT.sub=(q.take i).flatMap aT.sub++(q.drop i).flatMap aT.sub:=by rw[<-fX,pM]
 rw[eo,e,cm]at aa;unfold fc;omega
structure as6(bC len e az:Nat)(y:Nat×List Int):Prop where
 j:y.1<=az
 L:y.2.length=az
 eq:y.2.take y.1=(List.range y.1).map (F2 bC len e)
def ae7{t:bn}(au:t.ok I)(aB:∀ d∈t.ns,fits d d.aq.length=true){S:aT}(cv:cF t.ns S)(cc:os.ok 9 (ns.flatMap al.cells))(kO:∀ d∈ns,d.ok I){qc:List Nat}(ax:mc ns qc)(ag:ns.length+S.cZ.length<=1099511627776) :
  Spec Tryz.prog 176 [os.val,t.val,.int .i64 S.bw] I (os.ar 82) (as4 S t.ns ns qc os I):=by
 refine x2 [] a3 Tryz.func176 rfl rfl rfl ?_;intro B aw;have ho:=au.n;have ic:os.n=ns.length:=by have:=cc.len;rw[gL _ 9 al.cH]at this;omega
 refine bZ.mk λb1 iN T6=>?_;refine dx.inv (ι:=Nat×aQ×List aT) (λx=>{ bp:=[(0,.val os.val),(4,.ref 4 0),(8,.val x.2.1.val),(9,.val (.int .i64 x.1))],cl:=[(4,t.cells)],cP:=I,da:=x.2.1.ar 3++os.ar 82 }) (λx=>vX S x.2.2 x.1/\x.2.1.ok 1 ((e3 x.2.2).map (.int .i64 ·))/\∀ c∈x.2.2,cF t.ns c) (λx=>S.cZ.length-x.1) ?_ ?_
 ·refine⟨(0,⟨some b1,1,1,[.int .i64 S.bw]⟩,[S]),⟨vX.start S,⟨rfl,(λh=>by cases h),λeu jO=>⟨rfl,b2 _,by simp[maxLen],rfl⟩⟩,λc ao=>?_⟩,.refl,dY,.cons rfl (.nil)⟩;rw[eC.1 ao];exact cv
 rintro⟨i,ro,q⟩⟨bB,jd,eU⟩;simp only at bB jd eU;obtain⟨u0,wM⟩:=bB.len;have jw:=jd.pY;simp only[e3,bE]at jw;refine a5.mk (λh=>?_) (λh=>?_)
 ·have a4:i<q.length:=by have:(i:Int)<(ro.n:Int):=c5 h;omega
  have j5:=eU _ (bJ a4);have Di:=j5.np;obtain⟨Ut,Uu,en⟩:=aQ.Cr (I:=I) (e:=3) (M:=ro.ar 3++os.ar 82) jd (λx ad=>by simp[ad]) (j:=i) (by simp[e3,a4]);have zc:(e3 q)[i]'(by simp[e3,a4])=(q[i].bw:Int):=by simp[e3]
  rw[zc]at en;obtain⟨lz,nN,Bd⟩:=au.ba.row al.cH (j:=q[i].bw) (by omega) Di;have ah:=au.ns _ (bJ Di);have eL:=j5.w1;rw[gy Di]at eL;generalize t.ns[q[i].bw]=d at ah Bd eL;have fh:=ah.az;have p0:=ah.ba.cap;have cW:d.aq.length=q[i].sub.length:=by rw[eL];simp[e3]
  have fa:=bB.step a4;obtain⟨u1,MO⟩:=fa.len;rw[cm]at MO;refine c2.draw a3 rfl rfl rfl ?_;refine bA.mk Ut i Uu rfl (by show i<ro.n;omega) ?_;refine aV.mk _ en ?_;refine bA.mk lz q[i].bw nN rfl (by omega) ?_;refine aV.mk _ ((Bd _).part (k:=8) (m:=1) (by decide)) ?_;refine bF.An a3 rfl (by simp) (e:=3) rfl rfl rfl ro jd rfl (sa:=d.cf) (m:=d.az) (c':=d.cx) (b3:=d.aq.map (.int .i64 ·)) rfl (by rw[bE,fh];show _=d.az*1;omega) (λaw=>ah.ba.y3 _ aw) (FF _) [] (os.ar 82) rfl (by omega) (by show(ro.n+d.az)*8<=_;omega) ?_;intro tb adk adl iO;rw[<-cS,eL,<-FX]at iO;refine be.mk _ (dc (i:=i) (by omega)) ?_;refine⟨(i+1,tb,q++q[i].sub),⟨⟨fa,iO,λc ao=>?_⟩,by simp only;omega⟩,.refl,dY,.cons rfl (.nil)⟩;rcases cC.1 ao with ao | ao;·exact eU c ao
  ·exact j5.A6 c ao
 ·have c8:i=q.length:=by have:¬ (i:Int)<(ro.n:Int):=dP h;have:=bB.hi;omega
  subst c8;obtain⟨aM,a4,hA⟩:=bB.done;have yi:0<q.length:=by rw[aM];simp
  refine be.mk ((q.length:Int)-1) (by show IntKind.i64.wrap ((ro.n:Int)-1)=_;rw[wrap_i64 ⟨by omega,by omega⟩,jw]) ?_;refine dx.uR (ι:=Nat×aQ×List al×aJ×List aF) (λx=>{ bp:=[(0,.val x.2.1.val),(4,.ref 4 0),(8,.val ro.val),(10,.val (.int .i64 (fc q x.1))),(11,.val (.int .i64 ((x.1:Int)-1)))],cl:=[(4,t.cells)],cP:=x.2.2.2.1,da:=x.2.1.ar 82++(x.2.2.2.2++ro.ar 3) }) (λx=>xA t.ns ns.length qc q x.1 x.2.2.1/\JV ns I x.2.1 x.2.2.1 x.2.2.2.1/\zg os x.2.1 x.2.2.2.2) (λx=>x.1) ?_ ?_;·intro _;refine⟨(q.length,os,ns,I,[]),⟨xA.start aM ax,⟨λ_ _ h=>h,cc,kO,[],by simp⟩,λg ax=>by rw[dD];exact ax⟩,.perm eT .refl,.cons .refl (.cons .refl (.cons .refl (.cons ?_ (.cons .refl (.nil))))),.cons rfl (.nil)⟩;simp only;rw[aeU aM,<-jw];exact .refl
  rintro⟨i,no,ei,J,iZ⟩⟨g9,fa,yv⟩;simp only at g9 fa yv;have hn:=g9.len;have eD:=fa.os;have Uv:no.n=ei.length:=by have:=eD.len;rw[gL _ 9 al.cH]at this;omega
  refine a5.mk (λh=>?_) (λh=>?_)
  ·have ae8:(0:Int)<=(i:Int)-1:=c5 h;obtain⟨z,rfl⟩:∃ z,i=z+1:=⟨i-1,by omega⟩;have yf:z<q.length:=g9.hi;have j5:=eU _ (bJ yf);have Di:=j5.np;obtain⟨Ut,Uu,en⟩:=aQ.Cr (I:=J) (e:=3) (M:=no.ar 82++(iZ++ro.ar 3)) jd (λx ad=>by simp[ad]) (j:=z) (by simp[e3,yf]);have zc:(e3 q)[z]'(by simp[e3,yf])=(q[z].bw:Int):=by simp[e3]
   rw[zc]at en;obtain⟨lz,nN,Bd⟩:=(au.ba.mono fa.a8).row al.cH (j:=q[z].bw) (by omega) Di;have ah:=(au.ns _ (bJ Di)).mono fa.a8;have eL:=j5.w1;have mI:=gy Di;rw[mI]at eL;generalize t.ns[q[z].bw]=d at ah Bd eL mI;have fh:=ah.az;have p0:=ah.ba.cap;have cW:d.aq.length=q[z].sub.length:=by rw[eL];simp[e3]
   refine c2.draw a3 rfl rfl rfl ?_;refine bA.mk Ut z Uu (by show((z+1:Nat):Int)-1=z;omega) (by show z<ro.n;omega) ?_;refine aV.mk _ en ?_;refine bA.mk lz q[z].bw nN rfl (by omega) ?_;refine aV.mk _ (Bd _) ?_;refine bZ.mk λgW ae9 afa=>?_;refine cd.mk [] (no.ar 82++(iZ++ro.ar 3)) _ _ rfl rfl (bK rfl) rfl ?_;refine aV.mk [.slice d.cf d.az d.cx] (dq (cs:=d.cells) (k:=8) (n:=1) (T:=82) (.head _) (bK rfl)) ?_;have u7:=aeT yf;have ayt:=as5 aM (z+1);refine pE.mk d.az d.az rfl rfl (b2 _) (by show 8*d.az<=_;omega) (by omega) ?_;refine bZ.mk λlL ayu ayv=>?_;refine be.mk ((fc q z:Nat):Int) (by show IntKind.i64.wrap (((fc q (z+1):Nat):Int)-(d.az:Int))=_;rw[wrap_i64 ⟨by omega,by omega⟩];omega) ?_;have Ts:(rowOf [Value.int .i64 0] (d.az*1))=(List.replicate d.az (0:Int)).map (Value.int .i64):=by rw[BX,BI,gP]
   refine dx.inv (ι:=Nat×List Int) (λy=>{ bp:=[(0,.val no.val),(4,.ref 4 0),(8,.val ro.val),(10,.val (.int .i64 (fc q z))),(11,.val (.int .i64 (((z+1:Nat):Int)-1))),(12,.val (ptr gW)),(13,.val (.slice (some ⟨lL,0,none⟩) d.az d.az)),(60,.val (.int .i64 d.az)),(61,.val (.int .i64 y.1))],cl:=[(4,t.cells)],cP:=J,da:=dL lL y.2::⟨gW,.cells d.cells.toArray 82 (0,0)⟩::(no.ar 82++(iZ++ro.ar 3)) }) (as6 ns.length q.length (fc q z) d.az) (λy=>d.az-y.1) ?_ ?_;·refine⟨(0,List.replicate d.az 0),⟨dj _,zQ,rfl⟩,.l6 ?_,mS,.cons rfl (.nil)⟩;rw[Ts];rfl
   rintro⟨j,L⟩⟨ak,b8,vI⟩;simp only at ak b8 vI;refine a5.mk (λab=>?_) (λab=>?_)
   ·have gn:j<d.az:=by have:(j:Int)<(d.az:Int):=c5 ab;omega
    refine be.mk (((no.n+z:Nat)):Int) (by show IntKind.i64.wrap ((no.n:Int)+(((z+1:Nat):Int)-1))=_;rw[wrap_i64 ⟨by omega,by omega⟩];omega) ?_;refine be.mk (((fc q z+j:Nat)):Int) (by show IntKind.i64.wrap (((fc q z:Nat):Int)+(j:Int))=_;rw[wrap_i64 ⟨by omega,by omega⟩];omega) ?_;refine be.mk (F2 ns.length q.length (fc q z) j) (by show IntKind.i64.wrap (((no.n+z:Nat):Int)-((fc q z+j:Nat):Int))=_;rw[wrap_i64 ⟨by omega,by omega⟩];unfold F2;omega) ?_;refine bA.mk ⟨lL,0,none⟩ j rfl rfl gn ?_;refine cd.iP [] (⟨gW,.cells d.cells.toArray 82 (0,0)⟩::(no.ar 82++(iZ++ro.ar 3))) (L.map (Value.int .i64)) 3 rfl (by rw[nO,bE];show 0+j*1+1<=_;omega) rfl ((L.set j (F2 ns.length q.length (fc q z) j)).map (Value.int .i64)) (by rw[dp,gP];exact oT L j (by omega) _) ?_;refine be.mk _ (dc (i:=j) (by omega)) ?_;refine⟨(j+1,L.set j (F2 ns.length q.length (fc q z) j)),⟨⟨gn,by rw[rW];exact b8,?_⟩,by simp only;omega⟩,.refl,mS,.cons rfl (.nil)⟩;rw[EN,cS,<-vI,gH (by rw[rW];omega),List.getElem_set_self,List.take_set_of_le (b2 _)];rfl
   have c8:j=d.az:=by have:¬ (j:Int)<(d.az:Int):=dP ab;omega
   subst c8;rw[fS (by omega)]at vI;refine cd.iP [dL lL L] (no.ar 82++(iZ++ro.ar 3)) d.cells 82 rfl rfl rfl (d.row (some ⟨lL,0,none⟩) d.az d.az L).cells rfl ?_;refine aV.mk (d.row (some ⟨lL,0,none⟩) d.az d.az L).cells (dq (cs:=(d.row (some ⟨lL,0,none⟩) d.az d.az L).cells) (k:=0) (n:=9) (T:=82) (.tail _ (.head _)) (bK rfl)) ?_;refine bZ.mk λtd Df JW=>?_;refine bF.ae5 a3 rfl (by simp) (e:=82) rfl rfl rfl no eD rfl (cs:=(d.row (some ⟨lL,0,none⟩) d.az d.az L).cells) rfl rfl rfl [dL lL L,⟨gW,.cells (d.row (some ⟨lL,0,none⟩) d.az d.az L).cells.toArray 82 (0,0)⟩] (iZ++ro.ar 3) rfl (by omega) (by show(no.n+1)*96<=_;omega) ?_;intro JX cE aa ab ai e1;refine be.mk ((z:Int)-1) (by show IntKind.i64.wrap ((((z+1:Nat):Int)-1)-1)=_;rw[wrap_i64 ⟨by omega,by omega⟩];omega) ?_;intro eS;have Dj:zg os JX (cE++iZ):=λg ax=>by
    have dT:=yv g ax;rw[cS,cC]at dT;rw[<-ec,cS,cC];rcases dT with dT | dT;·exact .inl (e1 g dT)
    ·exact .inr dT
   have mb:([dL lL L,⟨gW,.cells (d.row (some ⟨lL,0,none⟩) d.az d.az L).cells.toArray 82 (0,0)⟩]++(JX.ar 82++(cE++(iZ++ro.ar 3)))).Perm ((⟨some lL,d.az,d.az,L.map (Value.int .i64)⟩:aQ).ar 3++(⟨gW,.cells (d.row (some ⟨lL,0,none⟩) d.az d.az L).cells.toArray 82 (0,0)⟩::(JX.ar 82++((cE++iZ)++ro.ar 3)))):=by rw[ec cE];exact .refl _
   have m6:=mj.F0 (J:=J) (os:=⟨some lL,d.az,d.az,L.map (Value.int .i64)⟩) (e:=3) (foot:=(os.ar 82).map (·.num)) eS mb (λx ad=>by
    have dT:=Dj x ad;rw[<-ec,ca,cS];exact .tail _ (im _ dT))
   have as7:(⟨some lL,d.az,d.az,L.map (Value.int .i64)⟩:aQ).ok 1 (L.map (.int .i64 ·)):=⟨by rw[bE];simp only;omega,(λh=>by cases h),λeu jO=>⟨by simp only[bE];omega,b2 _,by unfold maxLen;simp only;omega,fS (by rw[bE];simp only;omega)⟩⟩;obtain⟨mJ,hw,bk,dr,-⟩:=aQ.Ae (b:=8) (e:=3) as7 (by simp only;omega) m6 (⟨gW,.cells (d.row (some ⟨lL,0,none⟩) d.az d.az L).cells.toArray 82 (0,0)⟩::(JX.ar 82++((cE++iZ)++ro.ar 3)));have Ba:(d.row (some ⟨lL,0,none⟩) d.az d.az L).aq=(List.range (fc q (z+1)-fc q z)).map λj=>((ns.length+q.length-1-(fc q z+j):Nat):Int):=by rw[show fc q (z+1)-fc q z=d.az by omega];exact vI
   have as8:=xA.step aM a4 g9 j5 aB (x:=d.row (some ⟨lL,0,none⟩) d.az d.az L) (by rw[mI];rfl) Ba;have Uw:(d.row (some ⟨lL,0,none⟩) d.az d.az L).ok mJ:=(ah.mono bk).row dr λx ad=>by rw[vI]at ad;obtain⟨y,aE,rfl⟩:=c0.1 ad;unfold F2 ha;omega
   obtain⟨jT,q2⟩:=fa.a9;refine⟨(z,JX,ei++[d.row (some ⟨lL,0,none⟩) d.az d.az L],mJ,cE++iZ),⟨⟨as8,⟨λb o h=>bk _ _ (fa.a8 _ _ h),?_,λx ad=>?_,jT++[_],by rw[q2,ec]⟩,Dj⟩,by simp only;omega⟩,.perm mb (hw _ _ (.sub (.cons _ (.refl _)) .refl)),il,.cons rfl (.nil)⟩
   ·rw[fX];have:([d.row (some ⟨lL,0,none⟩) d.az d.az L].flatMap al.cells)=(d.row (some ⟨lL,0,none⟩) d.az d.az L).cells:=by simp
    rw[this];exact ai
   ·rcases cC.1 ad with ad | ad
    ·exact(fa.ok x ad).mono bk
    ·rw[eC.1 ad];exact Uw
  ·have ae8:i=0:=by have:¬ (0:Int)<=(i:Int)-1:=dP h;omega
   subst ae8;obtain⟨vY,ml,kv,h0,qf⟩:=g9.done aM;refine be.mk ((ei.length-1:Nat):Int) (by show IntKind.i64.wrap ((no.n:Int)-1)=_;rw[wrap_i64 ⟨by omega,by omega⟩];omega) ?_;intro _;refine⟨_,_,.sub (M1:=no.ar 82++iZ) ((Nv _).append (xq _ _)) .refl,no,ei,iZ,rfl,rfl,yv,fa,vY,by omega,ml,kv,h0,qf⟩
def cD.a9{a:Option Addr}{n c size b:Nat}{ys:List Value}(h:cD I a n c size b (xs++ys)){m:Nat}(hm:m<=n)(ad:xs.length=m*size)(c':Nat)(ao:m<=c'):cD I a m c' size b xs:=by
 refine⟨ad,⟨ao,ja (qn _ hm) h.cap.2⟩,?_⟩;by_cases aw:m=0
 ·exact .inl aw
 rcases h.rd with aa | ⟨aP,aa,ab,cs,T,an,ai,aL⟩
 ·omega
 ·refine .inr ⟨aP,aa,ab,cs,T,an,ai,?_⟩;have bq:((cs.toList.drop aP.off).take (n*size)).take (m*size)=xs:=by rw[aL,<-ad,wv]
  rw[zA,pC (qn _ hm)]at bq;exact bq
def as9{a:Option Addr}{n c:Nat}{l:List (Nat×Int)}{x:Nat×Int}(h:cD I a n c 2 16 ((l++[x]).flatMap ux)) :
  Spec Tryz.prog 227 [.slice a n c] I [] λv I' M'=>v=.tuple #[.agg #[.int .i64 x.1,.int .i64 x.2],.slice a l.length l.length]/\I'=I/\M'=[]:=by
 refine b0 [] a3 Tryz.func227 rfl rfl rfl ?_;intro B aw;have aA:n=l.length+1:=by have:=h.len;rw[gL ux 2 (λ_=>rfl),cm,o5]at this;omega
 have hy:=h.cap;obtain⟨aP,bI,bt⟩:=h.row (f:=ux) (λ_=>rfl) (j:=l.length) (by omega) (by simp);rw[acp rfl]at bt;refine be.mk ((l.length:Nat):Int) (by show IntKind.i64.wrap ((n:Int)-1)=_;rw[wrap_i64 ⟨by omega,by omega⟩];omega) ?_;refine c2.draw a3 rfl rfl rfl ?_;refine bA.mk aP l.length bI rfl (by omega) ?_;refine aV.mk _ (bt _) ?_;refine OI.mk l.length l.length rfl rfl (b2 _) (by omega) ?_;have di:(if l.length=0 then a else a.map (·.add (0*2)))=a:=by
  split;·rfl
  ·rcases h.rd with aa | ⟨aP,rfl,de,-⟩
   ·omega
   ·rw[lb,eO _ de];obtain⟨b,o,fL⟩:=aP;simp only at de;subst de;rfl
 refine⟨_,_,.refl,?_,rfl,rfl⟩;show Value.tuple #[Value.agg #[.int .i64 x.1,.int .i64 x.2],.slice (if l.length=0 then a else a.map (·.add (0*2))) (l.length-0) (l.length-0)]=_;rw[di];rfl
def ov(z n:Nat):List Nat:=(List.range n).filter λj=>!decide (j=z)
def JY(z n:Nat):ov z (n+1)=if n=z then ov z n else ov z n++[n]:=by
 unfold ov;rw[EN,EM,x5,List.filter_nil];by_cases e:n=z<;>simp[e]
def NW{z n:Nat}:j∈ov z n ↔ j<n/\j≠z:=by unfold ov;rw[n4,j0];simp
def afb{z n:Nat}(h:z<n):(ov z n++[z]).Perm (List.range n):=by
 have z':(ov z n++[z]).Nodup:=by refine uG.2 ⟨BJ.sublist zT,by simp,λa a6 b ag e=>?_⟩;rw[eC]at ag;subst ag;exact(NW.1 a6).2 e
 refine(TX z' BJ).2 λj=>?_;rw[cC,NW,eC,j0];omega
def uy(l:List aT)(z n:Nat):Nat:=((ov z n).map λj=>(l.getD j (.mk 0 [])).cZ.length).sum
def ata(l:List aT):hD l=((List.range l.length).map λj=>(l.getD j (.mk 0 [])).cZ.length).sum:=by unfold hD;congr 1;refine oH (by simp) λi hi cG=>?_;rw[gg,gg,wO,bM,dt (by simpa using hi)];rfl
def afc{l:List aT}{z:Nat}(bd:z<l.length):uy l z l.length+(l[z]).cZ.length=hD l:=by have h:=((afb bd).map λj=>(l.getD j (.mk 0 [])).cZ.length).sum_nat;rw[cS,pO,<-ata]at h;rw[<-h];unfold uy;simp[bM,bd]
def afd(l:List aT)(z:Nat){i n:Nat}(h:i<=n):uy l z i<=uy l z n:=by
 induction n with
 |zero=>
  obtain rfl:i=0:=by omega
  exact b2 _
 |succ n aN=>
  by_cases e:i=n+1;·subst e;exact b2 _
  ·refine ja (aN (by omega)) ?_;unfold uy;rw[JY];split
   ·exact b2 _
   ·rw[cS,pO];omega
def afe:∀ (p:List Int) (T:aT) (i:Int),T.go (p++[i])=(T.go p).bind λS=>if 0<=i/\i<(S.sub.length:Int)then some (S.sub.getD i.toNat S)else none
 |[],T,i=>by simp[aT.go]
 |j::p,T,i=>by
  rw[pN,aT.go,aT.go];split;·exact afe p _ i
  ·rfl
def aff:∀ (p:List Int) {T S:aT} (i:Int),T.go p=some S->T.pw (p++[i])=T.pw p++[(S.bw,i)]
 |[],T,S,i,h=>by obtain rfl:=e2 h;rfl
 |j::p,T,S,i,h=>by
  rw[aT.go]at h;split at h;·rw[pN,aT.pw,aT.pw,aff p i h];rfl
  ·cases h
def JZ:∀ (p:List Int) (T:aT),(T.pw p).length=p.length
 |[],_=>rfl| i::p,T=>by rw[aT.pw,eo,JZ p];rfl
def atb{tns:List al}{S R:aT}{z:Nat}(bd:z<S.sub.length){L:List Int}(b8:L.length=S.sub.length){Y:aS}(aX:cF ei R)(Be:R.bare ei=Y)(Ux:L.getD z 0=(R.bw:Int))(atc:∀ j,j<S.sub.length->j≠z->∃ T:aT,(T.bw:Int)=L.getD j 0/\cF ei T/\T.bare ei=(S.sub.getD j S).bare tns){x:al}(Ba:x.aq=L)(ku:x.bare=(nodeAt tns S.bw).bare) :
  ∃ yb:aT,yb.bw=ei.length/\cF (ei++[x]) yb/\yb.bare (ei++[x])=.mk (nodeAt tns S.bw).bare ((S.sub.map (aT.bare tns)).set z Y):=by
 obtain⟨ks,aa,ab⟩:=JI (R:=λ(j:Nat) (T:aT)=>(T.bw:Int)=L.getD j 0/\cF ei T/\T.bare ei=if j=z then Y else(S.sub.getD j S).bare tns) (l:=List.range S.sub.length) λj ak=>by
  have ak:=j0.1 ak;by_cases e:j=z;·subst e;exact⟨R,Ux.symm,aX,by rw[bT rfl];exact Be⟩
  ·obtain⟨T,ew,e9,fb⟩:=atc j ak e;exact⟨T,ew,e9,by rw[bP e];exact fb⟩
 rw[w2]at aa;have eL:∀ c∈ks,cF ei c:=λc ao=>by obtain⟨j,ak,rfl⟩:=hM ao;exact(ab j (by rw[w2];omega) ak).2.1
 refine⟨.mk ei.length ks,rfl,.mk (by simp) ?_ λc ao=>(eL c ao).app _,?_⟩
 ·rw[FU,Ba];refine oH (by rw[bE];omega) λj ak jM=>?_;rw[gg];have:=(ab j (by rw[w2];omega) (by omega)).1;rw[wO,bM,dt ak]at this;exact this.symm
 ·rw[aT.nq,FU,ku];congr 1;refine oH (by simp[aa]) λj ak jM=>?_;have vU:j<ks.length:=by simpa using ak
  rw[gg,aT.Dc ei (eL _ (bJ vU)),(ab j (by rw[w2];omega) vU).2.2,PD,wO];by_cases e:j=z;·subst e;rw[bT rfl,bT rfl]
  ·rw[bP e,bP (λa7=>e a7.symm),gg];congr 1;simp[bM,show j<S.sub.length by omega]
def atd{z:Nat}{L:List Int}(bd:z<L.length)(NX:∀ k∈L,0<=k)(Ux:L.getD z 0=(r:Int))(h:mc ei ((ov z L.length).map (ie L)++[r])){x:al}(Ba:x.aq=L)(afg:fits x L.length=true):mc (ei++[x]) [ei.length]:=by
 have aK:(List.range L.length).map (ie L)=L.map Int.toNat:=by refine oH (by simp) λj ak jM=>?_;rw[gg,gg,wO];unfold ie;rw[bM,dt (by simpa using ak)];rfl
 have aH:((ov z L.length).map (ie L)++[r]).Perm (L.map Int.toNat++[]):=by
  rw[dD,<-aK];have:=(afb bd).map (ie L);rw[cS,s']at this;have a7:ie L z=r:=by unfold ie;rw[Ux];exact gN r
  rwa [a7]at this
 refine(h.perm aH).add (by rw[bE];exact afg) ?_;rw[Ba,gh];refine((fT λk ae=>?_).trans (Nw _)).symm;have:=NX k ae;show((k.toNat:Nat):Int)=k;omega
def afh:∀ (p:List Int) {T S:aT},T.go p=some S->S.cZ.length<=T.cZ.length
 |[],T,S,h=>by obtain rfl:=e2 h;exact b2 _
 |i::p,T,S,h=>by
  rw[aT.go]at h;split at h
  ·rename_i hi;have aa:=afh p h;have ab:=FY T;have ai:(T.sub.getD i.toNat T).cZ.length<=hD T.sub:=by
    have aA:i.toNat<T.sub.length:=by omega
    rw[bM,dt aA];have:=afc aA;simp only[kK];omega
   omega
  ·cases h
structure afi(tns ns:List al)(I:aJ)(os:aQ)(S R:aT)(z:Nat)(Y:aS)(i:Nat)(L:List Int)(no:aQ)(ei:List al)(J:aJ)(iZ:List aF):Prop where
 hi:i<=S.sub.length
 b8:L.length=S.sub.length
 aI:JV ns I no ei J
 KV:zg os no iZ
 EQ:mc ei ((ov z i).map (ie L)++[R.bw])
 aY:cF ei R
 bare:R.bare ei=Y
 ov:∀ j,j<i->j≠z->∃ T:aT,(T.bw:Int)=L.getD j 0/\cF ei T/\T.bare ei=(S.sub.getD j S).bare tns
 ayw:z<i->L.getD z 0=(R.bw:Int)
 len:ei.length<=ns.length+(S.sub.getD z S).cZ.length+uy S.sub z i
structure afj(tns ns:List al)(I:aJ)(os:aQ)(T:aT)(path:List Int)(X:aS)(p:List Int)(sk:Option Addr)(gm:Nat)(R:aT)(no:aQ)(ei:List al)(J:aJ)(iZ:List aF):Prop where
 row:cD I sk p.length gm 2 16 ((T.pw p).flatMap ux)
 aI:JV ns I no ei J
 KV:zg os no iZ
 EQ:mc ei [R.bw]
 aY:cF ei R
 go:∃ S q,path=p++q/\T.go p=some S/\R.bare ei=(S.bare tns).put q X/\ei.length<=ns.length+S.cZ.length
def ate(T:aT)(tns ns:List al)(path:List Int)(X:aS)(os:aQ)(I:aJ)(v:Value)(I':aJ)(M':List aF):Prop:=
 ∃ (bu:aQ) (iX:List al) (iZ:List aF) (R:aT),v=.tuple #[bu.val,.int .i64 R.bw]/\M'=bu.ar 82++iZ/\JV ns I bu iX I'/\mc iX [R.bw]/\cF iX R/\R.bare iX=(T.bare tns).put path X/\iX.length<=ns.length+T.cZ.length
def afk{uw e4:aQ}{ix cE:List aF}(aa:zg os uw ix)(ab:zg uw e4 cE):zg os e4 (cE++ix):=λg ax=>by
 have dT:=aa g ax;rw[cS,cC]at dT;rw[<-ec,cS,cC];rcases dT with dT | dT
 ·exact .inl (ab g dT)
 ·exact .inr dT
def atf{t:bn}(au:t.ok I)(aB:∀ d∈t.ns,fits d d.aq.length=true)(ae:sg t.ns){T:aT}(bl:cF t.ns T){jW:aT}(eW:T.go path=some jW){a:Option Addr}{c:Nat}(wX:cD I a path.length c 2 16 ((T.pw path).flatMap ux))
 (cc:os.ok 9 (ns.flatMap al.cells)) (kO:∀ d∈ns,d.ok I) {vZ:aT} (ax:mc ns [vZ.bw]) (aX:cF ns vZ) (ag:ns.length+T.cZ.length<=1099511627776) (aD:t.n<=1099511627776) :
  Spec Tryz.prog 177 [os.val,t.val,.slice a path.length c,.int .i64 vZ.bw] I (os.ar 82) (ate T t.ns ns path (vZ.bare ns) os I):=by
 refine x2 [] a3 Tryz.func177 rfl rfl rfl ?_;intro B aw;have ho:=au.n;refine dx.uR (ι:=List Int×Option Addr×Nat×aT×aQ×List al×aJ×List aF) (λx=>{ bp:=[(0,.val x.2.2.2.2.1.val),(2,.val (.slice x.2.1 x.1.length x.2.2.1)),(3,.val (.int .i64 x.2.2.2.1.bw)),(5,.ref 5 0)],cl:=[(5,t.cells)],cP:=x.2.2.2.2.2.2.1,da:=x.2.2.2.2.1.ar 82++x.2.2.2.2.2.2.2 }) (λx=>afj t.ns ns I os T path (vZ.bare ns) x.1 x.2.1 x.2.2.1 x.2.2.2.1 x.2.2.2.2.1 x.2.2.2.2.2.1 x.2.2.2.2.2.2.1 x.2.2.2.2.2.2.2) (λx=>x.1.length) ?_ ?_
 ·intro _;exact⟨(path,a,c,vZ,os,ns,I,[]),⟨wX,⟨λ_ _ h=>h,cc,kO,[],by simp⟩,(λg ax=>by rw[dD];exact ax),ax,aX,jW,[],by simp,eW,rfl,by simp only;omega⟩,.l6 (by simp),dY,.cons rfl (.nil)⟩
 rintro⟨p,sk,gm,R,no,ei,J,iZ⟩eR;have eR:afj t.ns ns I os T path (vZ.bare ns) p sk gm R no ei J iZ:=eR;obtain⟨CV,fa,yv,vY,eU,F3,q,mX,Bf,Be,hn⟩:=eR;refine a5.mk (λh=>?_) (λh=>?_)
 ·have gC:0<p.length:=by have:(0:Int)<(p.length:Int):=c5 h;omega
  obtain⟨lg,m7,rfl⟩:∃ lg k,p=lg++[k]:=by
   rcases zR p with aa | ⟨r,k,aa⟩;·subst aa;simp at gC
   ·exact⟨r,k,by simpa using aa⟩
  rw[afe]at Bf;obtain⟨S,NY,Bf⟩:=KO.1 Bf;have vM:0<=m7/\m7<(S.sub.length:Int):=by
   by_cases e:0<=m7/\m7<(S.sub.length:Int);·exact e
   ·rw[bP e]at Bf;cases Bf
  rw[bT vM]at Bf;obtain⟨z,rfl⟩:=eF vM.1;have bd:z<S.sub.length:=by omega
  have F4:S.sub.getD z S=F3:=by have:=e2 Bf;rwa [gN]at this
  rw[aff lg _ NY]at CV;have Uy:=cF.go lg bl NY;have qe:=Uy.np;refine bc.mk [] _ _ (.refl _) (as9 (CV.mono fa.a8)) ?_;rintro v mJ M' -⟨aj,BP,rfl⟩;subst mJ;rw[JZ]at aj;subst aj;have atg:cD I sk lg.length lg.length 2 16 ((T.pw lg).flatMap ux):=by rw[fX]at CV;exact CV.a9 (by rw[cm];omega) (by rw[gL ux 2 (λ_=>rfl),JZ]) _ (b2 _)
  obtain⟨lz,nN,Bd⟩:=(au.ba.mono fa.a8).row al.cH (j:=S.bw) (by omega) qe;have ah:=(au.ns _ (bJ qe)).mono fa.a8;have eL:=Uy.w1;have mI:=gy qe;have F5:=aB _ (bJ qe);rw[mI]at eL;have fE:=au.ns _ (bJ qe);generalize t.ns[S.bw]=d at ah Bd eL mI F5 fE;have fh:=ah.az;have p0:=ah.ba.cap;have cW:d.aq.length=S.sub.length:=by rw[eL];simp[e3]
  refine bA.mk lz S.bw nN rfl (by omega) ?_;refine aV.mk _ (Bd _) ?_;refine pE.mk d.az d.az rfl rfl (b2 _) (by show 8*d.az<=_;omega) (by omega) ?_;refine bZ.mk λgW ae9 afa=>?_;have Tr:(rowOf [Value.int .i64 0] (d.az*1))=(List.replicate d.az (0:Int)).map (Value.int .i64):=by rw[BX,BI,gP]
  have u3:∀ j (h:j<S.sub.length),S.sub.getD j S=S.sub[j]:=λj h=>by simp[bM,h]
  have ath:∀ j (h:j<S.sub.length),S.sub.getD j (.mk 0 [])=S.sub[j]:=λj h=>by simp[bM,h]
  have ayx:=FY S;have ayy:=afc bd;have ayz:F3.cZ.length=(S.sub[z]).cZ.length:=by rw[<-F4,u3 z bd]
  have ayA:S.cZ.length<=T.cZ.length:=afh lg NY;refine dx.uR (ι:=Nat×List Int×aQ×List al×aJ×List aF) (λy=>{ bp:=[(0,.val y.2.2.1.val),(2,.val (.slice sk lg.length lg.length)),(3,.val (.int .i64 R.bw)),(5,.ref 5 0),(10,.ref 10 0),(11,.ref 11 0),(12,.val (.slice (some ⟨gW,0,none⟩) d.az d.az)),(34,.val (.slice d.cf d.az d.cx)),(35,.val (.int .i64 d.az)),(36,.val (.int .i64 y.1))],cl:=[(5,t.cells),(10,[.int .i64 S.bw,.int .i64 z]),(11,d.cells)],cP:=y.2.2.2.2.1,da:=y.2.2.1.ar 82++(y.2.2.2.2.2++[dL gW y.2.1]) }) (λy=>afi t.ns ns I os S R z ((F3.bare t.ns).put q (vZ.bare ns)) y.1 y.2.1 y.2.2.1 y.2.2.2.1 y.2.2.2.2.1 y.2.2.2.2.2) (λy=>d.az-y.1) ?_ ?_
  ·intro _;refine⟨(0,List.replicate d.az 0,no,ei,J,iZ),⟨dj _,by rw[zQ];omega,fa,yv,vY,eU,Be,λj ak=>absurd ak (ng _),λak=>absurd ak (ng _),?_⟩,.perm (M1:=no.ar 82++(iZ++[⟨gW,.cells (rowOf [Value.int .i64 0] (d.az*1)).toArray 3 (0,0)⟩])) ?_ (.l6 ?_),OZ,.cons rfl (.cons rfl (.cons rfl (.nil)))⟩
   ·rw[F4];simp only;omega
   ·have:=eT (l₁:=([⟨gW,.cells (rowOf [Value.int .i64 0] (d.az*1)).toArray 3 (0,0)⟩]:List aF)) (l₂:=no.ar 82++iZ);rw[ec]at this;exact this
   ·rw[Tr];rfl
  clear vY eU Be hn yv;have ayB:=fa.a8;rintro⟨i,L,qK,cM,ix,hg⟩eR;have eR:afi t.ns ns I os S R z ((F3.bare t.ns).put q (vZ.bare ns)) i L qK cM ix hg:=eR;obtain⟨hi,b8,re,NZ,Dk,vV,Uz,N0,N1,UA⟩:=eR;rw[F4]at UA;have nL:qK.n=cM.length:=by have:=re.os.len;rw[gL _ 9 al.cH]at this;omega
  have GY:=afd S.sub z hi;refine a5.mk (λab=>?_) (λab=>?_)
  ·have y8:i<d.az:=by have:(i:Int)<(d.az:Int):=c5 ab;omega
   have ed:i<S.sub.length:=by omega
   have De:cD ix d.cf d.az d.cx 1 8 (d.aq.flatMap iH):=by rw[oo];exact(fE.ba).mono re.a8
   have ob:d.aq[i]'(by omega)=((S.sub[i]).bw:Int):=by
    have:d.aq[i]?=(e3 S.sub)[i]?:=by rw[eL]
    rw[dt (by omega)]at this;unfold e3 at this;rw[ju,dt ed]at this;exact e2 this
   obtain⟨gv,fm,fe⟩:=De.row (f:=iH) (λ_=>rfl) (j:=i) (by omega) (by omega);rw[ob]at fe;refine bA.mk gv i fm rfl (by omega) ?_;refine aV.mk _ (fe _) ?_;refine a5.mk (λai=>?_) (λai=>?_)
   ·obtain rfl:i=z:=by have:(i:Int)=(z:Int):=c5 ai;omega
    refine bA.mk ⟨gW,0,none⟩ i rfl rfl y8 ?_;refine cd.iP (qK.ar 82++hg) [] (L.map (Value.int .i64)) 3 (ec _ _ _).symm (by rw[nO,bE];show 0+i*1+1<=_;omega) rfl ((L.set i (R.bw:Int)).map (Value.int .i64)) (by rw[dp,gP];exact oT L i (by omega) _) ?_;refine be.mk _ (dc (i:=i) (by omega)) ?_;intro _;refine⟨(i+1,L.set i (R.bw:Int),qK,cM,ix,hg),⟨⟨ed,by rw[rW];exact b8,re,NZ,?_,vV,Uz,λj ak bD=>?_,λ_=>?_,?_⟩,by simp only;omega⟩,.l6 (ec _ _ _),OZ,.cons rfl (.cons rfl (.cons rfl (.nil)))⟩
    ·rw[JY,bT rfl];have e:(ov i i).map (ie (L.set i (R.bw:Int)))=(ov i i).map (ie L):=fT λj ak=>by have:=(NW.1 ak).2;unfold ie;rw[bM,bM,iv,bP (λe=>this e.symm)]
     rw[e];exact Dk
    ·obtain⟨ml,ew,e9,fb⟩:=N0 j (by simp only at ak;omega) bD;refine⟨ml,?_,e9,fb⟩;rw[bM,iv,bP (λe=>bD e.symm),<-bM];exact ew
    ·rw[bM,iv,bT rfl,bT (by omega)];rfl
    ·rw[F4];show cM.length<=_+_+uy S.sub i (i+1);unfold uy at UA |-;rw[JY,bT rfl];exact UA
   ·have bD:i≠z:=λe=>by have:¬ (i:Int)=(z:Int):=dP ai;omega
    have ati:=Uy.A6 _ (bJ ed);have ayC:uy S.sub z (i+1)=uy S.sub z i+(S.sub[i]).cZ.length:=by unfold uy;rw[JY,bP bD,cS,pO,s',List.sum_singleton,ath i ed]
    have ayD:=afd S.sub z (show i+1<=S.sub.length by omega);have de:=ae7 (au.mono (λb o h=>re.a8 _ _ h)) aB ati re.os re.ok Dk (by omega);refine bc.mk (qK.ar 82) (hg++[dL gW L]) _ (.refl _) de ?_;rintro v cE dy -⟨j',m2,sm,rfl,rfl,Dj,Bg,F6,r9,ml,kv,h0,qf⟩;refine bA.mk ⟨gW,0,none⟩ i rfl rfl y8 ?_;refine cd.iP ((j'.ar 82++sm)++hg) [] (L.map (Value.int .i64)) 3 (ec _ _ _).symm (by rw[nO,bE];show 0+i*1+1<=_;omega) rfl ((L.set i ((m2.length-1:Nat):Int)).map (Value.int .i64)) (by rw[dp,gP];exact oT L i (by omega) _) ?_;refine be.mk _ (dc (i:=i) (by omega)) ?_;intro _;obtain⟨jT,q2⟩:=Bg.a9;obtain⟨sN,pg⟩:=re.a9;refine⟨(i+1,L.set i ((m2.length-1:Nat):Int),j',m2,cE,sm++hg),⟨⟨ed,by rw[rW];exact b8,⟨λb o h=>Bg.a8 _ _ (re.a8 _ _ h),Bg.os,Bg.ok,sN++jT,by rw[q2,pg,ec]⟩,afk NZ Dj,?_,?_,?_,λj ak atj=>?_,λafl=>?_,?_⟩,by simp only;omega⟩,.l6 ?_,OZ,.cons rfl (.cons rfl (.cons rfl (.nil)))⟩
    ·rw[JY,bP bD];have e:(ov z i).map (ie (L.set i ((m2.length-1:Nat):Int)))=(ov z i).map (ie L):=fT λj ak=>by have:=(NW.1 ak).1;unfold ie;rw[bM,bM,iv,bP (by omega)]
     have a7:ie (L.set i ((m2.length-1:Nat):Int)) i=m2.length-1:=by unfold ie;rw[bM,iv,bT rfl,bT (by omega)];rfl
     rw[cS,e,s',a7];refine F6.perm ?_;have:=na (a:=m2.length-1) (l₁:=(ov z i).map (ie L)) (l₂:=[R.bw]);simpa using this.symm
    ·show cF m2 R;rw[q2];exact vV.app jT
    ·show R.bare m2=_;rw[q2,aT.Dc cM vV];exact Uz
    ·by_cases e:j=i
     ·subst e;refine⟨ml,?_,h0,by rw[qf,u3 j ed]⟩;rw[bM,iv,bT rfl,bT (by omega),kv];rfl
     ·obtain⟨U,ew,e9,fb⟩:=N0 j (by simp only at ak;omega) atj;refine⟨U,?_,?_,?_⟩
      ·rw[bM,iv,bP (λa7=>e a7.symm),<-bM];exact ew
      ·show cF m2 U;rw[q2];exact e9.app jT
      ·show U.bare m2=_;rw[q2,aT.Dc cM e9];exact fb
    ·have afl:z<i+1:=afl;rw[bM,iv,bP (by omega),<-bM];exact N1 (by omega)
    ·rw[F4];show m2.length<=_+_+uy S.sub z (i+1);omega
    ·show((j'.ar 82++sm)++hg)++_=j'.ar 82++((sm++hg)++_);rw[ec,ec,ec];rfl
  ·have c8:i=S.sub.length:=by have:¬ (i:Int)<(d.az:Int):=dP ab;omega
   subst c8;have x0:∀ b o,I b=some o->ix b=some o:=re.a8;have ur:d.ok ix:=fE.mono x0;refine bZ.mk λtd Df JW=>?_;refine bF.ae5 a3 rfl (by simp) (e:=82) rfl rfl rfl qK re.os rfl (cs:=(d.row (some ⟨gW,0,none⟩) d.az d.az L).cells) rfl rfl rfl [] (hg++[dL gW L]) rfl (by omega) (by show(qK.n+1)*96<=_;omega) ?_;intro j' cE bq b' dZ e1;refine be.mk ((cM.length:Nat):Int) (by show IntKind.i64.wrap ((j'.n:Int)-1)=_;rw[wrap_i64 ⟨by omega,by omega⟩];omega) ?_;intro eS;have Dj:zg os j' (cE++hg):=afk NZ e1;have mb:([]++(j'.ar 82++(cE++(hg++[dL gW L])))).Perm ((⟨some gW,d.az,d.az,L.map (Value.int .i64)⟩:aQ).ar 3++(j'.ar 82++(cE++hg))):=by have:=eT (l₁:=j'.ar 82++(cE++hg)) (l₂:=[dL gW L]);rw[hX];rw[ec,ec]at this;exact this
   have m6:=mj.F0 (J:=ix) (os:=⟨some gW,d.az,d.az,L.map (Value.int .i64)⟩) (e:=3) (foot:=(os.ar 82).map (·.num)) eS mb (λx ad=>Dj x ad);have atk:(⟨some gW,d.az,d.az,L.map (Value.int .i64)⟩:aQ).ok 1 (L.map (.int .i64 ·)):=⟨by rw[bE];simp only;omega,(λh=>by cases h),λeu jO=>⟨by simp only[bE];omega,b2 _,by unfold maxLen;simp only;omega,fS (by rw[bE];simp only;omega)⟩⟩;obtain⟨mJ,hw,bk,dr,-⟩:=aQ.Ae (b:=8) (e:=3) atk (by simp only;omega) m6 (j'.ar 82++(cE++hg));have atl:∀ j,j<L.length->∃ U:aT,(U.bw:Int)=L.getD j 0/\cF cM U:=λj ak=>by
    by_cases e:j=z;·subst e;exact⟨R,(N1 (by omega)).symm,vV⟩
    ·obtain⟨U,ew,e9,-⟩:=N0 j (by omega) e;exact⟨U,ew,e9⟩
   have NX:∀ k∈L,0<=k/\k<cM.length:=λk ae=>by obtain⟨j,ak,rfl⟩:=hM ae;obtain⟨U,ew,e9⟩:=atl j ak;rw[bM,dt ak]at ew;have:=e9.np;have ew:(U.bw:Int)=L[j]:=ew;omega
   have Uw:(d.row (some ⟨gW,0,none⟩) d.az d.az L).ok mJ:=(ur.mono bk).row dr λx ad=>by have:=NX x ad;unfold ha;omega
   have atm:cM.length+1<=ns.length+S.cZ.length:=by omega
   rw[<-b8]at Dk;have F6:=atd (x:=d.row (some ⟨gW,0,none⟩) d.az d.az L) (by omega) (λk ae=>(NX k ae).1) (N1 (by omega)) Dk rfl (by
    have dT:fits d d.aq.length=true:=F5;show fits (d.row (some ⟨gW,0,none⟩) d.az d.az L) (L.length:Nat)=true;rw[b8,<-cW];exact dT)
   obtain⟨yb,h',m3,yV⟩:=atb (tns:=t.ns) bd b8 vV Uz (N1 (by omega)) (λj ak bD=>N0 j (by omega) bD) (x:=d.row (some ⟨gW,0,none⟩) d.az d.az L) rfl (by rw[mI];rfl);have Dl:aS.mk (nodeAt t.ns S.bw).bare ((S.sub.map (aT.bare t.ns)).set z ((F3.bare t.ns).put q (vZ.bare ns)))=(S.bare t.ns).put ((z:Int)::q) (vZ.bare ns):=by rw[aS.put,aeJ,aeS,gN,getD_map,F4]
   rw[Dl]at yV;obtain⟨sN,pg⟩:=re.a9;refine⟨(lg,sk,lg.length,yb,j',cM++[d.row (some ⟨gW,0,none⟩) d.az d.az L],mJ,cE++hg),⟨⟨atg,⟨λb o h=>bk _ _ (x0 _ _ h),?_,λx ad=>?_,sN++[_],by rw[pg,ec]⟩,Dj,by rw[h'];exact F6,m3,S,(z:Int)::q,by rw[mX,ec];rfl,NY,yV,by rw[cm,o5];exact atm⟩,by simp only[cm,o5];omega⟩,.perm mb (hw _ _ .refl),.cons .refl (.cons .refl (.cons ?_ (.cons .refl (.nil)))),.cons rfl (.nil)⟩
   ·rw[fX];have:([d.row (some ⟨gW,0,none⟩) d.az d.az L].flatMap al.cells)=(d.row (some ⟨gW,0,none⟩) d.az d.az L).cells:=by simp
    rw[this];exact dZ
   ·rcases cC.1 ad with ad | ad
    ·exact(re.ok x ad).mono bk
    ·rw[eC.1 ad];exact Uw
   ·simp only;rw[h'];exact .refl
 ·have atn:p.length=0:=by have:¬ (0:Int)<(p.length:Int):=dP h;omega
  obtain rfl:p=[]:=iD atn;obtain rfl:T=F3:=e2 Bf;rw[hX]at mX;subst mX;intro _;exact⟨_,_,.refl,no,ei,iZ,R,rfl,rfl,fa,vY,eU,Be,hn⟩
structure UB where
 d:al
 hE:List Nat
structure dV where
 n:Nat
 dF:Nat
 aI:Nat
structure px where
 bX:Nat
 pl:Nat
 sp:Nat
 dF:Nat
 n:Nat
structure rf where
 az:Nat->Nat->dV
 op:List px
 mw:Nat
structure gp where
 ns:List UB
 s:ByteArray
 bC:Nat
def ato:al:=⟨0,0,0,0,0,⟨#[]⟩,0,0,none,0,0,[]⟩
def gp.aY(P:gp)(k:Nat):UB:=P.ns.getD k ⟨ato,[]⟩
def uz:dV:=⟨0,0,0⟩
def xC(dF n:Nat):dV:=⟨min n 65537,dF,3⟩
def py:dV:=⟨0,0,2⟩
def N2(d:al)(b:Nat):Bool:=([d.cz,d.s1,d.s2,d.cV].getD (b/64) 0).toNat.testBit (b%64)
def preB(s t:ByteArray)(aY:Nat):Bool:=decide (aY+t.size<=s.size)&&decide (s.extract aY (aY+t.size)=t)
def atp(P:gp)(k aY:Nat):Option dV:=
 let d:=(P.aY k).d
 bif decide (d.k=0)then some (xC aY 0)else
 bif decide (d.k=1)then(match P.s.data[aY]? with
  |some b=>bif N2 d b.toNat then some (xC (aY+1) 0)else some py| none=>some py)else
 bif decide (d.k=2)then(bif preB P.s d.t aY then some (xC (aY+d.t.size) 0)else some py)else
 bif decide (d.k=6)&&decide (d.hi=0)then some (xC aY 0)else none
def N3(P:gp)(f:px):Nat×Nat:=
 let a:=P.aY f.bX
 bif decide (a.d.k=4)then(a.hE.getD f.sp 0,f.dF)else
 bif decide (a.d.k=5)then(a.hE.getD f.sp 0,f.pl)else(a.hE.getD 0 0,f.dF)
def px.add(f:px)(c:dV):px:=⟨f.bX,f.pl,f.sp+1,c.dF,min (f.n+c.n) 65537⟩
inductive atq where
 |loop| on (f:px) (c:dV) (done:Bool)
def atr(P:gp)(f:px)(c:dV):atq:=
 let a:=P.aY f.bX
 bif decide (a.d.k<4)then .on f c true else
 bif decide (a.d.k=4)then(bif Nat.beq c.aI 2 then .on f c true else .on (f.add c) (xC c.dF (min (f.n+c.n) 65537)) (decide (f.sp+1=a.hE.length)))else
 bif decide (a.d.k=5)then(bif Nat.beq c.aI 3 then .on f c true else .on { f with sp:=f.sp+1 } c (decide (f.sp+1=a.hE.length)))else
 bif decide (a.d.k=6)then
  (bif Nat.beq c.aI 2 then(bif decide ((f.sp:Int)<a.d.lo)then .on f c true else .on f (xC f.dF f.n) true)
   else bif decide (a.d.hi=-1)&&decide (c.dF=f.dF)then .loop else .on (f.add c) (xC c.dF (min (f.n+c.n) 65537)) (decide (((f.sp+1:Nat):Int)=a.d.hi)))else
 bif decide (a.d.k=7)then(bif Nat.beq c.aI 3 then .on f (xC f.pl 0) true else .on f c true)else
 bif decide (a.d.k=8)then(bif Nat.beq c.aI 2 then .on f (xC f.pl 0) true else .on f py true)else
 (bif Nat.beq c.aI 3 then .on f (xC c.dF (c.n+1)) true else .on f c true)
inductive UC where
 |begin(k aY:Nat)| hand (c:dV)
inductive afm where
 |err(e:Nat)| ok (c:dV) (S:rf)
inductive J0 where
 |stop(e:afm)| more (q:UC) (S:rf)
def UD(az:Nat->Nat->dV)(k p:Nat)(c:dV):Nat->Nat->dV:=λfu lg=>bif Nat.beq fu k&&Nat.beq lg p then c else az fu lg
def afn(P:gp)(c:dV)(S:rf):J0:=match S.op with
 |[]=>.stop (.err 9)
 |f::bo=>match bo with
  |[]=>.stop (.ok c { S with az:=UD S.az f.bX (f.pl-P.bC) c,op:=[] })| r::ba=>.more (.hand c) { S with az:=UD S.az f.bX (f.pl-P.bC) c,op:=r::ba }
def afo(P:gp)(S:rf):J0:=match S.op with
 |[]=>.stop (.err 9)
 |f::_=>
  let c:=S.az (N3 P f).1 ((N3 P f).2-P.bC)
  bif Nat.beq c.aI 0 then .more (.begin (N3 P f).1 (N3 P f).2) S else
  bif Nat.beq c.aI 1 then .stop (.err 1)else .more (.hand c) S
def afp(P:gp)(k aY:Nat)(S:rf):rf:=
 ⟨UD S.az k (aY-P.bC) { S.az k (aY-P.bC)with aI:=1 },⟨k,aY,0,aY,0⟩::S.op,S.mw+1⟩
def ats(P:gp)(k aY:Nat)(S:rf):J0:=match atp P k aY with
 |some c=>afn P c (afp P k aY S)| none=>afo P (afp P k aY S)
def att(P:gp)(c:dV)(S:rf):J0:=match S.op with
 |[]=>.stop (.err 9)
 |f::bo=>match atr P f c with
  | .loop=>.stop (.err 2)| .on tO c' done=>bif done then afn P c' ⟨S.az,tO::bo,S.mw+1⟩else afo P ⟨S.az,tO::bo,S.mw+1⟩
def atu(P:gp):UC->rf->J0
 | .begin k a,S=>ats P k a S| .hand c,S=>att P c S
def F7(P:gp):Nat->UC->rf->afm
 |0,_,_=>.err 0
 |n+1,q,S=>match atu P q S with
  | .stop e=>e| .more fP jo=>F7 P n fP jo
structure afq(P:gp)(pl:Nat)(c:dV):Prop where
 aI:c.aI<=3
 m:c.aI=3->pl<=c.dF/\c.dF<=P.s.size/\c.n<=65537
 f:c.aI≠3->c.n=0/\c.dF=0
def nr(c:dV):Prop:=c.aI=2\/c.aI=3
def N4(az:Nat->Nat->dV)(bC:Nat):List Nat->Nat->List (Nat×Nat)
 |[],_=>[]| k::L,a=>bif Nat.beq (az k (a-bC)).aI 3 then(bif Nat.beq (az k (a-bC)).n 0 then N4 az bC L (az k (a-bC)).dF else(k,a)::N4 az bC L (az k (a-bC)).dF)else N4 az bC L a
def allM(az:Nat->Nat->dV)(bC:Nat):List Nat->Nat->Prop
 |[],_=>True| k::L,a=>(az k (a-bC)).aI=3/\allM az bC L (az k (a-bC)).dF
def afr(az:Nat->Nat->dV)(bC:Nat):List Nat->Nat->List (Nat×Nat)
 |[],_=>[]| k::L,a=>bif Nat.beq (az k (a-bC)).aI 3 then(bif Nat.beq (az k (a-bC)).n 0 then []else [(k,a)])else afr az bC L a
def afs(az:Nat->Nat->dV)(bC:Nat):List Nat->Nat->Prop
 |[],_=>False| k::L,a=>(az k (a-bC)).aI=3\/((az k (a-bC)).aI=2/\afs az bC L a)
inductive xD(az:Nat->Nat->dV)(bC:Nat)(k:Nat)(hi:Int):Nat->Nat->List (Nat×Nat)->Prop
 |stop{t a:Nat}(h:(t:Int)=hi):xD az bC k hi t a []| fail {t a:Nat} (h:(t:Int)≠hi) (ab:(az k (a-bC)).aI=2):xD az bC k hi t a []| more {t a:Nat} {l:List (Nat×Nat)} (ag:t<=1000000) (h:(t:Int)≠hi) (ab:(az k (a-bC)).aI=3) (r:xD az bC k hi (t+1) (az k (a-bC)).dF l):xD az bC k hi t a ((bif Nat.beq (az k (a-bC)).n 0 then []else [(k,a)])++l)
def J1(P:gp)(az:Nat->Nat->dV)(k a:Nat)(l:List (Nat×Nat)):Prop:=
 if(P.aY k).d.k=6 then xD az P.bC ((P.aY k).hE.getD 0 0) (P.aY k).d.hi 0 a l
 else if(P.aY k).d.k=5 then afs az P.bC (P.aY k).hE a/\l=afr az P.bC (P.aY k).hE a else allM az P.bC (P.aY k).hE a/\l=N4 az P.bC (P.aY k).hE a
structure qg where
 name:ByteArray
 lo:Nat
 hi:Nat
def atv(P:gp)(az:Nat->Nat->dV)(k a:Nat):List qg:=bif decide ((P.aY k).d.k=9)then [⟨(P.aY k).d.t,a,(az k (a-P.bC)).dF⟩]else []
inductive qh(P:gp)(az:Nat->Nat->dV):Nat->List (Nat×Nat)->List qg->Prop
 |nil:qh P az 0 [] []| zero {n k a bo l} (ai:(az k (a-P.bC)).aI=3) (h:(az k (a-P.bC)).n=0) (r:qh P az n bo l):qh P az (n+1) ((k,a)::bo) l| node {n k a parts bo l} (ai:(az k (a-P.bC)).aI=3) (h:(az k (a-P.bC)).n≠0) (aH:J1 P az k a parts) (r:qh P az n (parts++bo) l):qh P az (n+1) ((k,a)::bo) (atv P az k a++l)
def qh.app{P:gp}{az:Nat->Nat->dV}{n m:Nat}{a b:List (Nat×Nat)}{l dC:List qg}(h:qh P az n a l)(bj:qh P az m b dC):qh P az (n+m) (a++b) (l++dC):=by
 induction h with
 |nil=>rw[dp];exact bj| @zero n k a bo l ai h r aN=>rw[Nat.add_right_comm];exact .zero ai h aN| @node n k a parts bo l ai h aH r aN=>rw[Nat.add_right_comm,ec];rw[ec]at aN;exact .node ai h aH aN
def Dm(l:List qg)(n:Nat):Prop:=(n<=65536->l.length=n)/\(65537<=n->65537<=l.length)
def Dm.app{l dC:List qg}{n m:Nat}(h:Dm l n)(bj:Dm dC m):Dm (l++dC) (n+m):=by unfold Dm at *;rw[cm];omega
inductive Dn:Nat->Nat->List qg->Prop
 |nil{a b}(h:a<=b):Dn a b []| app {a b c l dC} (h:Dn a b l) (bj:Dn b c dC):Dn a c (l++dC)| cap {a b l nm} (h:Dn a b l):Dn a b (⟨nm,a,b⟩::l)
def aft(P:gp)(az:Nat->Nat->dV):Prop:=∀ k p,(az k p).aI=3->∃ n l,qh P az n [(k,P.bC+p)] l/\Dm l (az k p).n/\Dn (P.bC+p) (az k p).dF l
def atw:Nat->Int
 |0=>44| 1=>42| 2=>43| _=>0
def dV.cells(c:dV):List Value:=[.int .i32 c.n,.int .i16 c.dF,.int .u8 c.aI]
def dV.cH(c:dV):c.cells.length=3:=rfl
def px.cells(f:px):List Value:=[.int .i32 f.bX,.int .i32 f.pl,.int .i32 f.sp,.int .i32 f.dF,.int .i32 f.n]
def px.cH(f:px):f.cells.length=5:=rfl
structure uA where
 d:al
 a:Option Addr
 n:Nat
 c:Nat
 hE:List Nat
def uA.cells(x:uA):List Value:=x.d.cells++[.slice x.a x.n x.c]
def uA.cH(x:uA):x.cells.length=10:=rfl
structure uA.ok(I:aJ)(x:uA):Prop where
 d:x.d.ok I
 ba:cD I x.a x.n x.c 1 8 (x.hE.map λ(k:Nat)=>Value.int .i64 (k:Int))
def uA.pn(x:uA):UB:=⟨x.d,x.hE⟩
structure J2 where
 xs:List uA
 a:Option Addr
 n:Nat
 c:Nat
structure J2.ok(I:aJ)(x:J2):Prop where
 ba:cD I x.a x.n x.c 10 0 (x.xs.flatMap uA.cells)
 xs:∀ y∈x.xs,y.ok I
def J2.ok.n{x:J2}(h:x.ok I):x.xs.length=x.n:=by have:=h.ba.len;rw[gL _ 10 uA.cH]at this;omega
structure dW where
 jC:Nat
 TC:Nat
 s:ByteArray
 bC:Nat
 eg:Nat
 ns:J2
def dW.Dp(m:dW):gp:=⟨m.ns.xs.map uA.pn,m.s,m.bC⟩
def dW.w(m:dW):Nat:=m.s.size-m.bC+1
def aQ.aY{f:α->List Value}{size:Nat}(aB:∀ x,(f x).length=size)(aw:0<size){l:List α}{e:Nat}(h:os.ok size (l.flatMap f))(bb:∀ x∈os.ar e,x∈M){g:Nat}(ax:os.a=some g){i:Nat}(hi:i<l.length):cY I M ⟨g,i*size,none⟩ size (f l[i]):=by obtain⟨aP,bI,bt⟩:=aQ.ok.row (I:=I) (M:=M) (e:=e) aB aw h bb hi;rw[ax]at bI;cases bI;rwa [eO _ rfl,dp]at bt
structure afu(os:aQ)(bo:List px)(f:px)(g:Nat):Prop where
 a:os.a=some g
 ok:os.ok 5 ((bo++[f]).flatMap px.cells)
section
end
def afu.n{bo:List px}{f:px}{g:Nat}(h:afu os bo f g):os.n=bo.length+1:=by have:=h.ok.len;rw[gL _ 5 px.cH]at this;simp at this;omega
def afv:Nat->List a0->List Nat
 |_,[]=>[]| b,d::ds=>(b+d.t.br.toNat)::afv (b+d.t.ns.length) ds
def atx(ds:List a0):Nat:=(ds.map λd=>d.t.ns.length).sum
def aty(ds:List a0)(b:Nat)(n:al):List Nat:=bif decide (n.k=3)then [(afv 0 ds).getD (eP n.t ds 0).toNat 0]else n.aq.map λk=>b+k.toNat
def jW:rf:=⟨λ_ _=>uz,[],0⟩
def xD.Dq{az:Nat->Nat->dV}{bC k:Nat}{t a:Nat}{l dC:List (Nat×Nat)}(h:xD az bC k hi t a l)(bj:xD az bC k hi t a dC):l=dC:=by
 induction h generalizing dC with
 |stop aa=>
  cases bj with
  |stop=>rfl| fail ab=>exact absurd aa ab| more _ ab=>exact absurd aa ab
 |fail aa ab=>
  cases bj with
  |stop ai=>exact absurd ai aa| fail=>rfl| more _ ai aL=>rw[ab]at aL;cases aL
 |more _ aa ab r aN=>
  cases bj with
  |stop ai=>exact absurd ai aa| fail ai aL=>rw[ab]at aL;cases aL| more _ ai aL mR=>rw[aN mR]
def J1.Dq{P:gp}{az:Nat->Nat->dV}{k a:Nat}{l dC:List (Nat×Nat)}(h:J1 P az k a l)(bj:J1 P az k a dC):l=dC:=by
 unfold J1 at h bj;by_cases b':(P.aY k).d.k=6
 ·rw[bT b']at h bj;exact h.Dq bj
 ·rw[bP b']at h bj;by_cases bq:(P.aY k).d.k=5
  ·rw[bT bq]at h bj;exact h.2.trans bj.2.symm
  ·rw[bP bq]at h bj;exact h.2.trans bj.2.symm
def qh.Dq{P:gp}{az:Nat->Nat->dV}{n m:Nat}{L:List (Nat×Nat)}{l dC:List qg}(h:qh P az n L l)(bj:qh P az m L dC):l=dC:=by
 induction h generalizing m dC with
 |nil=>cases bj;rfl
 |zero ai aw r aN=>
  cases bj with
  |zero sV hx mR=>exact aN mR| node sV hx=>exact absurd aw hx
 |node ai aw aH r aN=>
  cases bj with
  |zero sV hx=>exact absurd hx aw| node sV hx vn mR=>cases aH.Dq vn;rw[aN mR]
structure atz where
 ok:Bool
 dF:Nat
 ayE:List qg
inductive afw where
 |err(e:Int)| ok (o:atz) (mw:Nat)
inductive Bh(P:gp)(br aY eg:Nat):afw->Prop
 |err{e:Nat}(h:F7 P eg (.begin br aY) jW=.err e):Bh P br aY eg (.err (atw e))| fail {c:dV} {S:rf} (h:F7 P eg (.begin br aY) jW=.ok c S) (ab:c.aI=2):Bh P br aY eg (.ok ⟨false,0,[]⟩ S.mw)| many {c:dV} {S:rf} (h:F7 P eg (.begin br aY) jW=.ok c S) (ai:c.aI=3) (aD:65536<c.n):Bh P br aY eg (.err 40)| N5 {c:dV} {S:rf} (h:F7 P eg (.begin br aY) jW=.ok c S) (ai:c.aI=3) (aD:c.n<=65536) (aB:eg<S.mw+c.n):Bh P br aY eg (.err 44)| ok {c:dV} {S:rf} {n:Nat} {l:List qg} (h:F7 P eg (.begin br aY) jW=.ok c S) (ai:c.aI=3) (aD:c.n<=65536) (aB:S.mw+c.n<=eg) (ax:qh P S.az n [(br,aY)] l) (aA:l.length=c.n):Bh P br aY eg (.ok ⟨true,c.dF,l⟩ (S.mw+c.n))
def Bh.Dq{P:gp}{br aY eg:Nat}{r mR:afw}(h:Bh P br aY eg r)(bj:Bh P br aY eg mR):r=mR:=by
 cases h with
 |err aa=>
  cases bj with
  |err ab=>rw[aa]at ab;cases ab;rfl| _ ab=>rw[aa]at ab;cases ab
 |fail aa ej=>
  cases bj with
  |err ab=>rw[aa]at ab;cases ab| fail ab=>rw[aa]at ab;cases ab;rfl| _ ab dA=>rw[aa]at ab;cases ab;rw[ej]at dA;cases dA
 |many aa ek lz=>
  cases bj with
  |err ab=>rw[aa]at ab;cases ab| fail ab bW=>rw[aa]at ab;cases ab;rw[ek]at bW;cases bW| many=>rfl| N5 ab dA F8=>rw[aa]at ab;cases ab;omega| ok ab dA F8=>rw[aa]at ab;cases ab;omega
 |N5 aa ek lz Q0=>
  cases bj with
  |err ab=>rw[aa]at ab;cases ab| fail ab bW=>rw[aa]at ab;cases ab;rw[ek]at bW;cases bW| many ab dA F8=>rw[aa]at ab;cases ab;omega| N5=>rfl| ok ab dA F8 qT=>rw[aa]at ab;cases ab;omega
 |ok aa ek lz Q0 atA iT=>
  cases bj with
  |err ab=>rw[aa]at ab;cases ab| fail ab bW=>rw[aa]at ab;cases ab;rw[ek]at bW;cases bW| many ab dA F8=>rw[aa]at ab;cases ab;omega| N5 ab dA F8 qT=>rw[aa]at ab;cases ab;omega| ok ab dA F8 qT atB gE=>rw[aa]at ab;cases ab;rw[atA.Dq atB]
def atC(x:Nat×Nat):List Value:=[.int .i64 x.1,.int .i64 x.2]
def qg.cells(c:qg):List Value:=[.string c.name,.int .i64 c.lo,.int .i64 c.hi]
def qg.cH(c:qg):c.cells.length=3:=rfl
structure afx(m:dW)(az:Nat->Nat->dV)(x:Nat×Nat):Prop where
 k:x.1<m.ns.n
 lo:m.bC<=x.2
 hi:x.2<=m.s.size
 aI:(az x.1 (x.2-m.bC)).aI=3
def UE(m:dW)(az:Nat->Nat->dV)(x:Nat×Nat):Prop:=afx m az x/\(az x.1 (x.2-m.bC)).n≠0
section
variable{m:dW}{az:Nat->Nat->dV}
def atD(h:∀ k p,afq m.Dp (m.bC+p) (az k p)){q dF:Nat}(eZ:m.bC<=dF)(ai:(az q (dF-m.bC)).aI=3):m.bC<=(az q (dF-m.bC)).dF/\(az q (dF-m.bC)).dF<=m.s.size:=by have:=(h q (dF-m.bC)).m ai;rw[Nat.add_sub_cancel' eZ]at this;exact⟨by omega,this.2.1⟩
def xD.ok(h:∀ k p,afq m.Dp (m.bC+p) (az k p)){k:Nat}(ae:k<m.ns.n){t a:Nat}{l:List (Nat×Nat)}(hw:xD az m.bC k hi t a l):m.bC<=a->a<=m.s.size->∀ x∈l,UE m az x:=by
 induction hw with
 |stop=>exact λ_ _ x ad=>by cases ad
 |fail=>exact λ_ _ x ad=>by cases ad
 | @more t a l ag av ai r aN=>
  intro aa ab x ad;have aD:=atD h aa ai;rcases cC.1 ad with ad | ad
  ·cases aw:Nat.beq (az k (a-m.bC)).n 0 with
   |true=>rw[aw]at ad;cases ad| false=>rw[aw,cb,eC]at ad;subst ad;exact⟨⟨ae,aa,ab,ai⟩,λe=>by simp only at e;rw[e]at aw;cases aw⟩
  ·exact aN aD.1 aD.2 x ad
def afy(ax:aft m.Dp az):∀ (L:List (Nat×Nat)),(∀ x∈L,UE m az x)->∃ n l,qh m.Dp az n L l/\L.length<=l.length
 |[],_=>⟨0,[],.nil,b2 _⟩
 |(k,a)::L,h=>by
  obtain⟨n,l,aa,ab⟩:=afy ax L λx ad=>h x (.tail _ ad);obtain⟨⟨eK,cR,g',my⟩,I8⟩:=h (k,a) (.head _);obtain⟨gA,dC,AS,xo,-⟩:=ax k (a-m.bC) my;have e:m.Dp.bC+(a-m.bC)=a:=by show m.bC+(a-m.bC)=a;simp only at cR;omega
  rw[e]at AS;refine⟨gA+n,dC++l,AS.app aa,?_⟩;have:0<dC.length:=by unfold Dm at xo;simp only at I8;omega
  rw[cm,eo];omega
end
structure afz(m:dW)(az:Nat->Nat->dV)(l:List qg)(n:Nat)(L:List (Nat×Nat))(os UF:aQ):Prop where
 os:os.ok 2 (L.reverse.flatMap atC)
 fL:∀ x∈L,afx m az x
 atE:L.length<=1\/∀ x∈L,UE m az x
 g:∃ H' Fp,qh m.Dp az n L Fp/\H'++Fp=l/\UF.ok 3 (H'.flatMap qg.cells)
def afz.len{m:dW}{az:Nat->Nat->dV}{l:List qg}{n:Nat}{L:List (Nat×Nat)}{UF:aQ}(h:afz m az l n L os UF)(ax:aft m.Dp az)(aA:l.length<=65536):L.length<=65537:=by
 rcases h.atE with aa | aa
 ·omega
 ·obtain⟨H',Fp,a',bg,-⟩:=h.g;obtain⟨gA,dC,AS,xo⟩:=afy ax L aa;have e:=a'.Dq AS;subst e;have:=congrArg List.length bg;rw[cm]at this;omega
def F9{G F:Fr}{y:Operand}{r:dH}(h:dn G y=dn F y)(bj:bH F y=r):bH G y=r:=by simp only[bH,dB,h];exact bj
def aQ.atF(bs:uk I M J){e size b:Nat}(h:os.ok size xs)(bb:∀ x∈os.ar e,x∈M)(ag:os.n*b<=140737488355328):cD J (os.a.map λg=>⟨g,0,none⟩) os.n os.c size b xs:=by
 obtain⟨a,n,c,aU⟩:=os;cases a with
 |none=>obtain⟨aa,ab⟩:=h.nil rfl;exact⟨h.len,⟨by simp only at aa ab |-;omega,ag⟩,.inl aa⟩
 |some g=>obtain⟨aa,ab,ai,aL⟩:=h.cap g rfl;exact⟨h.len,⟨ab,ag⟩,.inr ⟨⟨g,0,none⟩,rfl,rfl,aU.toArray,e,(0,0),bs.az _ _ (.inr ⟨⟨g,.cells aU.toArray e (0,0)⟩,bb _ (.head _),rfl,rfl⟩),by simpa using aL⟩⟩
structure N6(P dU:gp)(n:Nat):Prop where
 ns:dU.ns=P.ns
 bC:dU.bC=P.bC+n
 s:∃ t:ByteArray,t.size=n/\dU.s=t++P.s
section
variable{P dU:gp}{n:Nat}
def N6.aY(h:N6 P dU n)(k:Nat):dU.aY k=P.aY k:=by unfold gp.aY;rw[h.ns]
def N6.size(h:N6 P dU n):dU.s.size=P.s.size+n:=by obtain⟨t,aa,ab⟩:=h.s;rw[ab,Hf];omega
section
end
end
section
end
def F'(a b:Nat):Nat:=min (a+b) 1099511627776
def uB(m:Nat->Nat->dV):List Nat->Nat->Nat->dV
 |[],a,n=>⟨n,a,3⟩| q::L,a,n=>bif Nat.beq (m q a).aI 3 then uB m L (m q a).dF (F' n (m q a).n)else⟨0,0,(m q a).aI⟩
def uC(m:Nat->Nat->dV):List Nat->Nat->dV
 |[],_=>py| q::L,a=>bif Nat.beq (m q a).aI 2 then uC m L a else m q a
def sq(m:Nat->Nat->dV)(q:Nat)(lo hi:Int):Nat->Nat->Nat->Nat->dV
 |0,_,a,n=>bif decide (hi=-1)then uz else⟨n,a,3⟩
 |j+1,i,a,n=>bif Nat.beq (m q a).aI 2 then(bif decide ((i:Int)<lo)then py else⟨n,a,3⟩)else
   bif Nat.beq (m q a).aI 3 then(bif decide (hi=-1)&&decide ((m q a).dF=a)then uz else sq m q lo hi j (i+1) (m q a).dF (F' n (m q a).n))else uz
def afA(P:gp)(d:al)(a:Nat):Nat:=bif decide (d.hi=-1)then P.s.size+1-a else d.hi.toNat
def kG(P:gp)(m:Nat->Nat->dV)(k a:Nat):dV:=
 let d:=(P.aY k).d
 let q:=(P.aY k).hE.getD 0 0
 bif decide (d.k=0)then⟨0,a,3⟩else
 bif decide (d.k=1)then(match P.s.data[a]? with
  |some b=>bif N2 d b.toNat then⟨0,a+1,3⟩else py| none=>py)else
 bif decide (d.k=2)then(bif preB P.s d.t a then⟨0,a+d.t.size,3⟩else py)else
 bif decide (d.k=3)then m q a else
 bif decide (d.k=4)then uB m (P.aY k).hE a 0 else
 bif decide (d.k=5)then uC m (P.aY k).hE a else
 bif decide (d.k=6)then sq m q d.lo d.hi (afA P d a) 0 a 0 else
 bif decide (d.k=7)then(bif Nat.beq (m q a).aI 3 then⟨0,a,3⟩else m q a)else
 bif decide (d.k=8)then(bif Nat.beq (m q a).aI 2 then⟨0,a,3⟩else bif Nat.beq (m q a).aI 3 then py else uz)else
 (bif Nat.beq (m q a).aI 3 then⟨F' (m q a).n 1,(m q a).dF,3⟩else m q a)
section
variable{P:gp}{m m':Nat->Nat->dV}{k a lo:Nat}
def UG(h:(P.aY k).d.k=0):kG P m k a=⟨0,a,3⟩:=by simp[kG,h]
def UH(h:(P.aY k).d.k=1):kG P m k a=match P.s.data[a]? with
  |some b=>bif N2 (P.aY k).d b.toNat then⟨0,a+1,3⟩else py| none=>py:=by simp[kG,h]
def UI(h:(P.aY k).d.k=2):kG P m k a=bif preB P.s (P.aY k).d.t a then⟨0,a+(P.aY k).d.t.size,3⟩else py:=by simp[kG,h]
def UJ(h:(P.aY k).d.k=3):kG P m k a=m ((P.aY k).hE.getD 0 0) a:=by simp[kG,h]
def UK(h:(P.aY k).d.k=4):kG P m k a=uB m (P.aY k).hE a 0:=by simp[kG,h]
def UL(h:(P.aY k).d.k=5):kG P m k a=uC m (P.aY k).hE a:=by simp[kG,h]
def UM(h:(P.aY k).d.k=6):kG P m k a=sq m ((P.aY k).hE.getD 0 0) (P.aY k).d.lo (P.aY k).d.hi (afA P (P.aY k).d a) 0 a 0:=by simp[kG,h]
def UN(h:(P.aY k).d.k=7):kG P m k a=bif Nat.beq (m ((P.aY k).hE.getD 0 0) a).aI 3 then⟨0,a,3⟩else m ((P.aY k).hE.getD 0 0) a:=by simp[kG,h]
def UO(h:(P.aY k).d.k=8):kG P m k a=bif Nat.beq (m ((P.aY k).hE.getD 0 0) a).aI 2 then⟨0,a,3⟩else bif Nat.beq (m ((P.aY k).hE.getD 0 0) a).aI 3 then py else uz:=by simp[kG,h]
def UP(aw:(P.aY k).d.k≠0)(aa:(P.aY k).d.k≠1)(ab:(P.aY k).d.k≠2)(ai:(P.aY k).d.k≠3)(aL:(P.aY k).d.k≠4)(bq:(P.aY k).d.k≠5)(b':(P.aY k).d.k≠6)(dZ:(P.aY k).d.k≠7)(eX:(P.aY k).d.k≠8) : kG P m k a=bif Nat.beq (m ((P.aY k).hE.getD 0 0) a).aI 3 then⟨F' (m ((P.aY k).hE.getD 0 0) a).n 1,(m ((P.aY k).hE.getD 0 0) a).dF,3⟩else m ((P.aY k).hE.getD 0 0) a:=by simp[kG,aw,aa,ab,ai,aL,bq,b',dZ,eX]
def afB(d:Int):d=0\/d=1\/d=2\/d=3\/d=4\/d=5\/d=6\/d=7\/d=8\/(d≠0/\d≠1/\d≠2/\d≠3/\d≠4/\d≠5/\d≠6/\d≠7/\d≠8):=by omega
def xE(lo:Nat)(m m':Nat->Nat->dV):Prop:=∀ q b,lo<=b->nr (m q b)->m' q b=m q b
def J3(m:Nat->Nat->dV):Prop:=∀ q b,(m q b).aI=3->b<=(m q b).dF
def xE.trans{afC:Nat->Nat->dV}(h:xE lo m m')(bj:xE lo m' afC):xE lo m afC:=λq b ag ah=>by have e:=h q b ag ah;rw[bj q b ag (by rw[e];exact ah),e]
def J4{c:dV}(h:Nat.beq c.aI 3=true):nr c:=.inr (dJ h)
def UQ{c:dV}(h:Nat.beq c.aI 2=true):nr c:=.inl (dJ h)
def N7:¬ nr uz:=λh=>by rcases h with h | h<;>cases h
def afD(h:xE lo m m')(ax:J3 m):∀ (L:List Nat) (a n:Nat),lo<=a->nr (uB m L a n)->uB m' L a n=uB m L a n
 |[],a,n,_,_=>rfl
 |q::L,a,n,a6,ah=>by
  cases ai:Nat.beq (m q a).aI 3 with
  |true=>have e:=h q a a6 (J4 ai);simp only[uB,e,ai,cp]at ah |-;exact afD h ax L _ _ (ja a6 (ax q a (dJ ai))) ah| false=>simp only[uB,ai,cb]at ah;have e:=h q a a6 ah;simp only[uB,e,ai,cb]
def afE(h:xE lo m m'):∀ (L:List Nat) (a:Nat),lo<=a->nr (uC m L a)->uC m' L a=uC m L a
 |[],a,_,_=>rfl
 |q::L,a,a6,ah=>by
  cases ab:Nat.beq (m q a).aI 2 with
  |true=>have e:=h q a a6 (UQ ab);simp only[uC,e,ab,cp]at ah |-;exact afE h L a a6 ah| false=>simp only[uC,ab,cb]at ah;have e:=h q a a6 ah;simp only[uC,e,ab,cb]
def afF(h:xE lo m m')(ax:J3 m){q:Nat}{l u:Int}:∀ (j i a n:Nat),lo<=a->nr (sq m q l u j i a n)->sq m' q l u j i a n=sq m q l u j i a n
 |0,i,a,n,_,_=>rfl
 |j+1,i,a,n,a6,ah=>by
  cases ab:Nat.beq (m q a).aI 2 with
  |true=>have e:=h q a a6 (UQ ab);simp only[sq,e,ab,cp]
  |false=>
   cases ai:Nat.beq (m q a).aI 3 with
   |true=>
    have e:=h q a a6 (J4 ai);simp only[sq,e,ab,ai,cp,cb]at ah |-;cases hu:decide (u=-1)&&decide ((m q a).dF=a)with
    |true=>rfl| false=>rw[hu,cb]at ah;exact afF h ax j _ _ _ (ja a6 (ax q a (dJ ai))) ah
   |false=>simp only[sq,ab,ai,cb]at ah;exact absurd ah N7
def atG(h:xE lo m m')(ax:J3 m)(a6:lo<=a)(ah:nr (kG P m k a)):kG P m' k a=kG P m k a:=by
 have one:∀ q:Nat,nr (m q a)->m' q a=m q a:=λq aM=>h q a a6 aM;rcases afB (P.aY k).d.k with e | e | e | e | e | e | e | e | e | ⟨di,aK,a7,ck,dM,jR,kA,vG,xj⟩
 ·rw[UG e,UG e]
 ·rw[UH e,UH e]
 ·rw[UI e,UI e]
 ·rw[UJ e]at ah |-;rw[UJ e];exact one _ ah
 ·rw[UK e]at ah |-;rw[UK e];exact afD h ax _ _ _ a6 ah
 ·rw[UL e]at ah |-;rw[UL e];exact afE h _ _ a6 ah
 ·rw[UM e]at ah |-;rw[UM e];exact afF h ax _ _ _ _ a6 ah
 ·rw[UN e]at ah |-;rw[UN e];generalize(P.aY k).hE.getD 0 0=q at ah |-;cases ai:Nat.beq (m q a).aI 3 with
  |true=>rw[one q (J4 ai),ai]| false=>rw[ai,cb]at ah;rw[one q ah,ai]
 ·rw[UO e]at ah |-;rw[UO e];generalize(P.aY k).hE.getD 0 0=q at ah |-;cases ab:Nat.beq (m q a).aI 2 with
  |true=>rw[one q (UQ ab),ab]
  |false=>
   cases ai:Nat.beq (m q a).aI 3 with
   |true=>rw[one q (J4 ai),ab,ai]| false=>rw[ab,ai]at ah;exact absurd ah N7
 ·rw[UP di aK a7 ck dM jR kA vG xj]at ah |-;rw[UP di aK a7 ck dM jR kA vG xj];generalize(P.aY k).hE.getD 0 0=q at ah |-;cases ai:Nat.beq (m q a).aI 3 with
  |true=>rw[one q (J4 ai),ai]| false=>rw[ai,cb]at ah;rw[one q ah,ai]
end
def mN(z a:Nat)(c:dV):Prop:=c=uz\/c=py\/(c.aI=3/\a<=c.dF/\(a<=z->c.dF<=z)/\c.n<=1099511627776)
def mN.m{z a dF n:Nat}(aa:a<=dF)(ab:a<=z->dF<=z)(ai:n<=1099511627776):mN z a ⟨n,dF,3⟩:=.inr (.inr ⟨rfl,aa,ab,ai⟩)
def mN.ge{z a:Nat}{c:dV}(h:mN z a c)(ai:c.aI=3):a<=c.dF/\(a<=z->c.dF<=z)/\c.n<=1099511627776:=by
 rcases h with rfl | rfl | h
 ·cases ai
 ·cases ai
 ·exact h.2
def mN.aI{z a:Nat}{c:dV}(h:mN z a c):c.aI=0\/c.aI=2\/c.aI=3:=by
 rcases h with rfl | rfl | h
 ·exact .inl rfl
 ·exact .inr (.inl rfl)
 ·exact .inr (.inr h.1)
def mN.atH{z a:Nat}{c:dV}(h:mN z a c)(ai:Nat.beq c.aI 3=false):(⟨0,0,c.aI⟩:dV)=c:=by
 rcases h with rfl | rfl | h
 ·rfl
 ·rfl
 ·rw[h.1]at ai;cases ai
def mN.KG{z a b:Nat}{c:dV}(h:mN z b c)(kX:a<=b)(bd:a<=z->b<=z):mN z a c:=by
 rcases h with h | h | ⟨aa,ab,ai,aL⟩
 ·exact .inl h
 ·exact .inr (.inl h)
 ·exact .inr (.inr ⟨aa,by omega,λh=>ai (bd h),aL⟩)
def N8(a b:Nat):F' a b<=1099511627776:=Nat.min_le_right _ _
section
variable{z:Nat}{m:Nat->Nat->dV}(hm:∀ q b,mN z b (m q b))
include hm
theorem afG:∀ (L:List Nat) (a n:Nat),n<=1099511627776->mN z a (uB m L a n)
 |[],a,n,aD=>.m (b2 _) id aD
 |q::L,a,n,aD=>by
  cases ai:Nat.beq (m q a).aI 3 with
  |true=>simp only[uB,ai,cp];obtain⟨a',bg,b5⟩:=(hm q a).ge (dJ ai);exact(afG L _ _ (N8 _ _)).KG a' bg
  |false=>simp only[uB,ai,cb];rw[(hm q a).atH ai];exact hm q a
theorem afH:∀ (L:List Nat) (a:Nat),mN z a (uC m L a)
 |[],a=>.inr (.inl rfl)
 |q::L,a=>by
  cases ab:Nat.beq (m q a).aI 2 with
  |true=>simp only[uC,ab,cp];exact afH L a| false=>simp only[uC,ab,cb];exact hm q a
theorem afI{q:Nat}{l u:Int}:∀ (j i a n:Nat),n<=1099511627776->mN z a (sq m q l u j i a n)
 |0,i,a,n,aD=>by
  unfold sq;cases decide (u=-1);·exact .m (b2 _) id aD
  ·exact .inl rfl
 |j+1,i,a,n,aD=>by
  cases ab:Nat.beq (m q a).aI 2 with
  |true=>
   simp only[sq,ab,cp];cases decide ((i:Int)<l);·exact .m (b2 _) id aD
   ·exact .inr (.inl rfl)
  |false=>
   cases ai:Nat.beq (m q a).aI 3 with
   |true=>
    simp only[sq,ab,ai,cp,cb];obtain⟨a',bg,b5⟩:=(hm q a).ge (dJ ai);cases decide (u=-1)&&decide ((m q a).dF=a)with
    |true=>exact .inl rfl| false=>exact(afI j _ _ _ (N8 _ _)).KG a' bg
   |false=>simp only[sq,ab,ai,cb];exact .inl rfl
theorem atI{P:gp}(bd:P.s.size=z)(k a:Nat):mN z a (kG P m k a):=by
 rcases afB (P.aY k).d.k with e | e | e | e | e | e | e | e | e | ⟨di,aK,a7,ck,dM,jR,kA,vG,xj⟩
 ·rw[UG e];exact .m (b2 _) id (by omega)
 ·rw[UH e];cases ag:P.s.data[a]? with
  |none=>exact .inr (.inl rfl)
  |some b=>
   have a4:a<P.s.data.size:=(k8.1 ag).1;have:P.s.data.size=P.s.size:=rfl;simp only;cases N2 (P.aY k).d b.toNat;·exact .inr (.inl rfl)
   ·exact .m (by omega) (by omega) (by omega)
 ·rw[UI e];cases aH:preB P.s (P.aY k).d.t a with
  |false=>exact .inr (.inl rfl)| true=>simp only[preB,cw,hS]at aH;exact .m (by omega) (by omega) (by omega)
 ·rw[UJ e];exact hm _ a
 ·rw[UK e];exact afG hm _ _ _ (by omega)
 ·rw[UL e];exact afH hm _ _
 ·rw[UM e];exact afI hm _ _ _ _ (by omega)
 ·rw[UN e];cases Nat.beq (m ((P.aY k).hE.getD 0 0) a).aI 3
  ·exact hm _ a
  ·exact .m (b2 _) id (by omega)
 ·rw[UO e];cases Nat.beq (m ((P.aY k).hE.getD 0 0) a).aI 2 with
  |true=>exact .m (b2 _) id (by omega)
  |false=>
   cases Nat.beq (m ((P.aY k).hE.getD 0 0) a).aI 3;·exact .inl rfl
   ·exact .inr (.inl rfl)
 ·rw[UP di aK a7 ck dM jR kA vG xj];cases ai:Nat.beq (m ((P.aY k).hE.getD 0 0) a).aI 3 with
  |false=>exact hm _ a| true=>obtain⟨a',bg,b5⟩:=(hm _ a).ge (dJ ai);exact .m a' bg (N8 _ _)
end
def nY(P:gp):Nat->Nat->Nat->dV
 |0,_,_=>uz| n+1,k,a=>kG P (nY P n) k a
def UR(P:gp):∀ (n k a:Nat),mN P.s.size a (nY P n k a)
 |0,_,_=>.inl rfl| n+1,k,a=>atI (UR P n) rfl k a
def atJ(P:gp)(n:Nat):J3 (nY P n):=λq b ai=>((UR P n q b).ge ai).1
def afJ(P:gp):∀ n,xE 0 (nY P n) (nY P (n+1))
 |0=>λq b _ ah=>absurd ah N7
 |n+1=>λq b ag ah=>atG (afJ P n) (atJ P n) ag ah
def afK(P:gp){n gA:Nat}(h:n<=gA):xE 0 (nY P n) (nY P gA):=by
 induction h with
 |refl=>exact λ_ _ _ _=>rfl
 |step _ aN=>exact aN.trans (afJ P _)
open Classical in
noncomputable def tf(P:gp)(k a:Nat):dV:=if h:∃ n,nr (nY P n k a)then nY P h.choose k a else uz
def afL{P:gp}{n k a:Nat}(h:nr (nY P n k a)):tf P k a=nY P n k a:=by have ad:∃ n,nr (nY P n k a):=⟨n,h⟩;unfold tf;rw[dif_pos ad];have ao:=ad.choose_spec;have aK:=afK P (Nat.le_max_left n ad.choose) k a (dj _) h;have a7:=afK P (Nat.le_max_right n ad.choose) k a (dj _) ao;rw[<-aK,<-a7]
def atK{P:gp}{k a:Nat}(h:nr (tf P k a)):∃ n,nY P n k a=tf P k a:=by
 by_cases ad:∃ n,nr (nY P n k a)
 ·obtain⟨n,aD⟩:=ad;exact⟨n,(afL aD).symm⟩
 ·unfold tf at h;rw[dif_neg ad]at h;exact absurd h N7
def atL(P:gp)(k a:Nat):mN P.s.size a (tf P k a):=by
 by_cases ah:nr (tf P k a)
 ·obtain⟨n,aD⟩:=atK ah;rw[<-aD];exact UR P n k a
 ·by_cases ad:∃ n,nr (nY P n k a)
  ·obtain⟨n,aD⟩:=ad;rw[afL aD]at ah;exact absurd aD ah
  ·unfold tf;rw[dif_neg ad];exact .inl rfl
section
end
structure qi where
 n:Nat
 dF:Nat
 aI:Nat
 sp:Nat
def qi.ce(c:qi):dV:=bif Nat.beq c.aI 2 then⟨c.n,c.dF,3⟩else bif Nat.beq c.aI 1 then py else uz
def afM(T:Nat->Nat->qi):Nat->Nat->dV:=λk a=>(T k a).ce
def atM{c:qi}(h:c.aI<=2):(c.aI=0/\c.ce=uz)\/(c.aI=1/\c.ce=py)\/(c.aI=2/\c.ce=⟨c.n,c.dF,3⟩):=by
 have:c.aI=0\/c.aI=1\/c.aI=2:=by omega
 rcases this with e | e | e
 ·exact .inl ⟨e,by simp only[qi.ce,e];rfl⟩
 ·exact .inr (.inl ⟨e,by simp only[qi.ce,e];rfl⟩)
 ·exact .inr (.inr ⟨e,by simp only[qi.ce,e];rfl⟩)
section
end
inductive Ga(m:Nat->Nat->dV)(q:Nat):Nat->Nat->Nat->Nat->Prop
 |stop{a}(h:(m q a).aI=2):Ga m q a 0 a 0| more {a t dF n} (h:(m q a).aI=3) (aD:(m q a).dF≠a) (r:Ga m q (m q a).dF t dF n):Ga m q a (t+1) dF (F' (m q a).n n)
def Ga.len{m:Nat->Nat->dV}{z q a t dF n:Nat}(hm:∀ q b,mN z b (m q b))(ao:Ga m q a t dF n):a+t<=dF/\(a<=z->dF<=z)/\n<=1099511627776:=by
 induction ao with
 |stop aa=>exact⟨b2 _,id,dj _⟩| @more a t dF n aa aD r aN=>obtain⟨a',bg,b5⟩:=(hm q a).ge aa;obtain⟨i1,i2,i3⟩:=aN;exact⟨by omega,λh=>i2 (bg h),N8 _ _⟩
structure N9(P:gp)(N:Nat)(T:Nat->Nat->qi):Prop where
 aI:∀ k a,(T k a).aI<=2
 snd:∀ k a,(T k a).aI≠0->tf P k a=(T k a).ce
 DO:∀ k a,k<N->a<=P.s.size->(P.aY k).d.k=6->(P.aY k).d.hi=-1->(T k a).aI≠0->∃ t,Ga (tf P) ((P.aY k).hE.getD 0 0) a t (T k a).dF (T k a).n/\(T k a).sp=min t 99
 rg:∀ k a,k<N->a<=P.s.size->(T k a).n<=1099511627776/\(T k a).dF<=P.s.size/\(T k a).sp<=99
 out:∀ k a,¬ (k<N/\a<=P.s.size)->(T k a).ce=tf P k a
section
variable{P:gp}{N:Nat}{T:Nat->Nat->qi}
def N9.a1(h:N9 P N T)(q b:Nat):mN P.s.size b (afM T q b):=by
 by_cases e:(T q b).aI=0
 ·rcases atM (h.aI q b)with⟨_,cU⟩ | ⟨a7,_⟩ | ⟨a7,_⟩
  ·exact .inl cU
  ·omega
  ·omega
 ·show mN _ _ (T q b).ce;rw[<-h.snd q b e];exact atL P q b
def N9.ge(h:N9 P N T):J3 (afM T):=λq b ai=>((h.a1 q b).ge ai).1
end
section
end
structure atN(P:gp)(f g:(Nat->Nat->dV)->dV):Prop where
 l:f (tf P)=g (tf P)
 d:∀ n,nr (f (nY P n))->nr (g (nY P n))
def US(P:gp)(A:Nat->Nat->Prop)(f:(Nat->Nat->dV)->dV):Prop:=∀ n,nr (f (nY P n))->∃ k a gA,gA<=n/\A k a/\nr (nY P gA k a)
def US.dF{P:gp}{A:Nat->Nat->Prop}{f g:(Nat->Nat->dV)->dV}(h:US P A g)(au:atN P f g):US P A f:=λn ah=>h n (au.d n ah)
section
end
def qi.cells(c:qi):List Value:=[.int .i64 c.n,.int .i32 c.dF,.int .u8 c.aI,.int .u8 c.sp]
def qi.cH(c:qi):c.cells.length=4:=rfl
structure xF where
 atO:Nat
 s:ByteArray
 afN:Value
 AF:Value
 ys:List al
 afO:Option Addr
 uD:Nat
 afP:Nat
 sk:Option Addr
 gm:Nat
 rows:List Addr
 n0:Nat
 Cz:Nat
def xF.w(t:xF):Nat:=t.s.size+1
def xF.cO(t:xF):List Value:=[.string t.s,t.afN,t.AF,.slice t.afO t.uD t.afP,.slice t.sk t.uD t.gm]
def atP(T:Nat->Nat->qi)(k w:Nat):List Value:=(List.range w).flatMap λa=>(T k a).cells
structure xF.ok(I:aJ)(t:xF)(T:Nat->Nat->qi):Prop where
 aI:I t.atO=some (.cells t.cO.toArray 169 (0,0))
 ns:cD I t.afO t.uD t.afP 9 96 (t.ys.flatMap al.cells)
 ys:∀ y∈t.ys,y.ok I
 ayF:∀ y∈t.ys,y.t.size<=4096
 cj:∀ y∈t.ys,∀ x∈y.aq,0<=x/\x.toNat<t.uD
 rw:cD I t.sk t.uD t.gm 1 24 (t.rows.map λa=>Value.slice (some a) t.w t.w)
 fL:∀ a∈t.rows,a.spot=none
 dK:∀ k (h:k<t.rows.length),k<t.n0->∃ cs UT an,I t.rows[k].block=some (.cells cs UT an)/\(cs.toList.drop t.rows[k].off).take (t.w*4)=atP T k t.w
 new:∀ k (h:k<t.rows.length),t.n0<=k->t.rows[k]=⟨t.Cz,(k-t.n0)*(t.w*4),none⟩
 sz:t.s.size<=4096
 many:t.uD<=4096
section
variable{I:aJ}{t:xF}{T:Nat->Nat->qi}
def xF.ok.uD(h:t.ok I T):t.ys.length=t.uD:=by have:=h.ns.len;rw[gL _ 9 al.cH]at this;omega
end
section
end
section
end
section
end
def atQ(k:Nat):Value:=.int .i64 (k:Int)
def atS(b:Nat)(L:List Nat)(n:al):al:={ n with cf:=some ⟨b,0,none⟩,az:=L.length,cx:=L.length,aq:=L.map λ(k:Nat)=>(k:Int) }
def afQ(tV:List (Nat×List Nat))(ns:List al):List al:=List.zipWith (λp n=>atS p.1 p.2 n) tV ns
def me(J:aJ)(os:aQ)(e:Nat):aJ:=match os.a with
 |some g=>ins J g (.cells os.aU.toArray e (0,0))| none=>J
def N'{foot:List Nat}{e:Nat}{post:List aF}(aB:∀ g,os.a=some g->g ∉ foot):h6 foot J (os.ar e++post) (me J os e) post:=by
 obtain⟨a,n,c,aU⟩:=os;cases a with
 |none=>exact .refl| some g=>exact .n1 rfl (aB g rfl) .refl
def Gb{e:Nat}(h:∀ x∈os.ar e++M,J x.num=none):∀ b o,J b=some o->me J os e b=some o:=by
 obtain⟨a,n,c,aU⟩:=os;cases a with
 |none=>exact λ_ _ h=>h
 |some g=>exact mz (h ⟨g,_⟩ (.head _))
def Oa{size e b:Nat}(h:os.ok size xs)(ag:os.n*b<=140737488355328):cD (me J os e) (os.a.map λg=>⟨g,0,none⟩) os.n os.c size b xs:=by
 obtain⟨a,n,c,aU⟩:=os;cases a with
 |none=>obtain⟨aa,ab⟩:=h.nil rfl;exact⟨h.len,⟨by simp only at aa ab |-;omega,ag⟩,.inl aa⟩
 |some g=>obtain⟨aa,ab,ai,aL⟩:=h.cap g rfl;exact⟨h.len,⟨ab,ag⟩,.inr ⟨⟨g,0,none⟩,rfl,rfl,aU.toArray,e,(0,0),pS ..,by simpa using aL⟩⟩
section
end
section
end
def atT(ao:m5 I){t:bn}(au:t.ok I)(af:right t=true)(aD:t.n<=1099511627776){node:Nat}(FH:node<t.n) :
  Spec Tryz.prog 171 [t.val,.int .i64 node] I M0 λv I' M'=>(∀ b o,I b=some o->I' b=some o)/\M'=M0/\∃ bf:bn,v=.tuple #[bf.val,.bool true]/\bf.ok I'/\p2 t node bf:=by
 refine b0 [] a3 Tryz.func171 rfl rfl rfl ?_;intro B aw;refine bc.mk [] M0 _ (.refl _) (oR ao au) ?_;rintro v J N -⟨rfl,a8,rfl⟩;subst J;refine cT.mk (λ_=>?_) (λh=>absurd h (by simp[af]));have eZ:decide (((node:Nat):Int)<0)=false:=fo (by omega);have gI:decide (((t.n:Nat):Int)<=((node:Nat):Int))=false:=fo (by omega);refine cT.mk (λ_=>?_) (λh=>absurd (eZ.symm.trans h) (by simp));refine a5.mk (λh=>absurd (gI.symm.trans h) (by simp)) (λ_=>?_);refine bc.whole _ (TH au af aD FH) ?_;rintro v J N -⟨a8,rfl,bf,rfl,jI,av⟩;exact⟨_,_,.refl,a8,rfl,bf,rfl,jI,av⟩
def afR{t:bn}(au:t.ok I)(ae:sg t.ns){T:aT}(bl:cF t.ns T)(pQ:t.br=(T.bw:Int))(aD:t.n<=1099511627776){pn:Nat}(aH:cD I pa pn pc 1 8 (path.map (.int .i64 ·))) :
  Spec Tryz.prog 170 [t.val,.slice pa pn pc] I M0 λv I' M'=>(∀ b o,I b=some o->I' b=some o)/\M'=M0/\∃ (sk:Option Addr) (II gm k:Nat) (b:Bool),v=.tuple #[.slice sk II gm,.int .i64 k,.bool b] /\
   match T.go path with
   |none=>b=false| some S=>b=true/\k=S.bw/\II=path.length/\cD I' sk path.length gm 2 16 ((T.pw path).flatMap ux):=by
 refine Spec.mH (Spec.frame (Spec.jq (asY au ae bl pQ aD aH))) ?_;rintro v J M⟨M',rfl,-,a8,rfl,-,I',M1,⟨rfl,os,l,k,b,rfl,rfl,cc,h⟩,bs⟩;have asZ:=bl.np;have ho:=au.n;refine⟨a8,rfl,os.a.map λg=>⟨g,0,none⟩,os.n,os.c,k,b,rfl,?_⟩;cases ax:T.go path with
 |none=>rw[ax]at h;exact h
 |some S=>
  rw[ax]at h;obtain⟨aa,ab,rfl,aL⟩:=h;have ic:os.n=path.length:=by have:=cc.len;rw[gL ux 2 (λ_=>rfl),JZ]at this;omega
  have:=aQ.jq (b:=16) (e:=268) bs cc (λz bd=>bd) (by rw[JZ]at aL;omega);rw[ic]at this;exact⟨aa,ab,ic,this⟩
def hf.Gc{t:bn}(h:hf t):∃ T:aT,t.br=(T.bw:Int)/\cF t.ns T/\bU t=T.bare t.ns/\T.cZ.Nodup/\T.cZ.length<=t.ns.length:=by obtain⟨gG,hd⟩:=h.br;obtain⟨r,en⟩:=eF gG;obtain⟨T,aa,ab,ai,aL⟩:=h.lt (j:=r) (by omega);refine⟨T,by rw[aa];exact en,ab,by unfold bU;rw[en];exact ai,aL,Nu aL λx ad=>ab.lt x ad⟩
def m5.mono(h:m5 I)(bB:∀ b o,I b=some o->I' b=some o):m5 I':=by obtain⟨T,an,h⟩:=h;exact⟨T,an,bB _ _ h⟩
def UU:Value:=.agg #[.slice none 0 0,.int .i64 0]
def ow(X:Option aS)(I:aJ)(M0:List aF)(v:Value)(I':aJ)(M':List aF):Prop:=(∀ b o,I b=some o->I' b=some o)/\M'=M0 /\
 match X with
 |none=>v=.tuple #[UU,.bool false]| some X=>∃ bf:bn,v=.tuple #[bf.val,.bool true]/\bf.ok I'/\k7 bf X/\eY X/\jr X
def atU(ao:m5 I){t:bn}(au:t.ok I)(af:right t=true)(aD:t.n<=1099511627776){pn:Nat}(aH:cD I pa pn pc 1 8 (path.map (.int .i64 ·))) :
  Spec Tryz.prog 106 [t.val,.slice pa pn pc] I M0 (ow ((bU t).go path) I M0):=by
 have aX:=jm.1 af;obtain⟨T,kv,h0,qf,UW,atV⟩:=aX.Gc;have ho:=au.n;rw[show(bU t).go path=(T.go path).map (aT.bare t.ns)from by rw[qf,bare_go]];refine b0 [] a3 Tryz.func106 rfl rfl rfl ?_;intro B aw;have dr:=oR ao au;rw[af]at dr;refine bc.mk [] M0 _ (.refl _) dr ?_;rintro v J N -⟨rfl,a8,rfl⟩;subst J;refine a5.mk (λh=>by cases h) (λ_=>?_);refine bc.mk [] M0 _ (.refl _) (afR (M0:=[]) au aX.xz h0 kv aD aH) ?_;rintro v J M1 -⟨a8,rfl,sk,II,gm,k,b,rfl,h⟩;refine a5.mk (λag=>?_) (λag=>?_)
 ·have ag:(!b)=true:=ag;refine⟨_,_,.refl,a8,rfl,?_⟩;cases ax:T.go path with
  |none=>rfl| some S=>rw[ax]at h;obtain⟨rfl,-⟩:=h;cases ag
 ·have ag:(!b)=false:=ag;obtain⟨S,ax⟩:∃ S,T.go path=some S:=by
   cases ax:T.go path with
   |none=>rw[ax]at h;have h:b=false:=h;rw[h]at ag;cases ag| some S=>exact⟨S,rfl⟩
  rw[ax]at h;obtain⟨rfl,rfl,-,-⟩:=h;have cv:=cF.go path h0 ax;have qe:=cv.np;refine bc.mk [] M0 _ (.refl _) (atT (M0:=[]) (ao.mono a8) (au.mono a8) af aD (show S.bw<t.n by omega)) ?_;rintro v cE dy -⟨cI,rfl,bf,rfl,jI,av⟩;refine⟨_,_,.refl,λb o h=>cI _ _ (a8 _ _ h),rfl,?_⟩;rw[ax];refine⟨bf,rfl,jI,?_,?_,?_⟩;·have:=aep aX qe av;rwa [ND aX.xz cv]at this
  ·exact NE aX.fit cv
  ·exact aer _ _
def atW(zh:ff I ay){t x:bn}(au:t.ok I)(ad:x.ok I)(af:right t=true)(ph:right x=true)(aD:t.n+x.n<=1099511627776){pn:Nat}(aH:cD I pa pn pc 1 8 (path.map (.int .i64 ·))) :
  Spec Tryz.prog 113 [t.val,.slice pa pn pc,x.val] I [] (ow (((bU t).go path).map λ_=>((bU t).put path (bU x)).lK) I []):=by
 have aX:=jm.1 af;have afS:=jm.1 ph;obtain⟨T,kv,h0,qf,UW,atV⟩:=aX.Gc;obtain⟨X,atX,atY,afT,ayG,atZ⟩:=afS.Gc;have ho:=au.n;have q3:=ad.n;rw[show((bU t).go path).map (λ_=>((bU t).put path (bU x)).lK)=(T.go path).map (λ_=>((bU t).put path (bU x)).lK)from by rw[show(bU t).go path=(T.go path).map (aT.bare t.ns)from by rw[qf,bare_go],Option.map_map];rfl];refine b0 [] a3 Tryz.func113 rfl rfl rfl ?_;intro B aw;have dr:=oR zh.c au;rw[af]at dr;have afU:=oR zh.c ad;rw[ph]at afU;refine bc.mk [] [] _ (.refl _) dr ?_;rintro v J N -⟨rfl,a8,rfl⟩;subst J;refine cT.mk (λh=>?_) (λh=>by cases h);refine bc.mk [] [] _ (.refl _) afU ?_;rintro v J N -⟨rfl,a8,rfl⟩;subst J;refine a5.mk (λh=>by cases h) (λ_=>?_);refine bc.mk [] [] _ (.refl _) (afR (M0:=[]) au aX.xz h0 kv (by omega) aH) ?_;rintro v J M1 -⟨a8,rfl,sk,II,gm,k,b,rfl,h⟩;refine a5.mk (λag=>?_) (λag=>?_)
 ·have ag:(!b)=true:=ag;refine⟨_,_,.refl,a8,rfl,?_⟩;cases ax:T.go path with
  |none=>rfl| some S=>rw[ax]at h;obtain⟨rfl,-⟩:=h;cases ag
 ·have ag:(!b)=false:=ag;obtain⟨S,ax⟩:∃ S,T.go path=some S:=by
   cases ax:T.go path with
   |none=>rw[ax]at h;have h:b=false:=h;rw[h]at ag;cases ag| some S=>exact⟨S,rfl⟩
  rw[ax]at h;obtain⟨rfl,rfl,rfl,wX⟩:=h;have xV:=ae7 (ad.mono a8) afS.fit atY (os:=h3) (ns:=[]) (k0 9) (λd ah=>by cases ah) mc.nil (by simp only[g3];omega);rw[<-atX]at xV;refine bc.mk [] [] _ (.refl _) xV ?_;rintro v ix M1 hr⟨qK,cM,hg,rfl,rfl,NZ,re,Dk,FP,ayH,h',at0,Be⟩;have ayI:cM.length=X.cZ.length:=by simpa using FP
  rw[<-h']at Dk;have fK:=atf (au.mono (λb o h=>hr _ _ (a8 _ _ h))) aX.fit aX.xz h0 ax (wX.mono hr) re.os re.ok Dk at0 (by omega) (by omega);rw[h']at fK;refine bc.mk (qK.ar 82) hg _ (by rw[dD]) fK ?_;rintro v cE dy cI⟨j',m2,sm,UX,rfl,rfl,Bg,F6,UY,afV,r9⟩;have lG:j'.n=m2.length:=by have:=Bg.os.len;rw[gL _ 9 al.cH]at this;omega
  refine bc.wi λeS=>?_;have mb:((j'.ar 82++sm)++hg).Perm (j'.ar 82++(sm++hg)):=by rw[ec]
  have at1:=mj.F0 (os:=j') (e:=82) (foot:=[]) eS mb (λx ad=>by cases ad);obtain⟨iG,hw,bk,at2,-⟩:=aQ.Ae (b:=96) (e:=82) Bg.os (by omega) at1 (sm++hg);have ayJ:=UY.np;obtain⟨t3,yy⟩:∃ t3:bn,t3=⟨m2,j'.a.map λg=>⟨g,0,none⟩,j'.n,j'.c,UX.bw⟩:=⟨_,rfl⟩;have zJ:t3.ok iG:=by rw[yy];exact⟨at2,λd ah=>(Bg.ok d ah).mono bk,⟨by simp only;omega,by simp only;omega⟩⟩
  have yV:hf t3:=F6.right (by rw[yy]) (by rw[yy]);have ir:bU t3=(bU t).put path (bU x):=by rw[qf,afT,<-Be,<-afV,yy];exact ND F6.wd.aq UY
  have at3:eY (bU t3):=by have:=NE yV.fit (T:=UX) (by rw[yy];exact UY);rw[ir,qf,afT,<-Be,<-afV];rw[yy]at this;exact this
  have HL:=NU (M0:=[]) ((zh.mono (λb o h=>bk _ _ (cI _ _ (hr _ _ (a8 _ _ h)))))) zJ (jm.2 yV) (by rw[yy];simp only;omega);rw[show t3.val=.agg #[j'.val,.int .i64 UX.bw]from by rw[yy];rfl]at HL;refine bc.zo iG [] (sm++hg) _ (.perm mb (hw _ _ .refl)) HL ?_;rintro v ox rI lM -⟨-,rfl,bf,rfl,jI,dm⟩;refine⟨_,_,.sub (fC _) .refl,λb o h=>lM _ _ (bk _ _ (cI _ _ (hr _ _ (a8 _ _ h)))),rfl,?_⟩;rw[ax];refine⟨bf,rfl,jI,?_,?_,JU _⟩;·rw[<-ir];exact dm
  ·rw[<-ir];exact Dh at3
def at4(zh:ff I ay){t x:bn}(au:t.ok I)(ad:x.ok I)(af:right t=true)(ph:right x=true)(aD:t.n+x.n<=1099511627776){pn:Nat}(aH:cD I pa pn pc 1 8 (path.map (.int .i64 ·))) :
  Spec Tryz.prog 113 [t.val,.slice pa pn pc,x.val] I M0 (ow (((bU t).go path).map λ_=>((bU t).put path (bU x)).lK) I M0):=by
 refine(Spec.frame (atW zh au ad af ph aD aH)).NG ?_;rintro v I' M'⟨M1,rfl,-,-,aa,rfl,ab⟩;exact⟨aa,rfl,ab⟩
def qj(g:cg)(rule:Int)(path:List Int):Option aS:=if 0<=rule/\rule<(g.ds.length:Int)then(bU (g.ds.getD rule.toNat iY).t).go path else none
structure UZ(g:cg):Prop where
 r:∀ d∈g.ds,right d.t=true
 n:∀ d∈g.ds,d.t.n<=549755813888
def J5(rule:Int)(pa:Option Addr)(pn pc:Nat):Value:=.agg #[.int .i64 rule,.slice pa pn pc]
def ow.shape{X:Option aS}{v:Value}{M':List aF}(h:ow X I M0 v I' M'):∃ a n c r b,v=.tuple #[.agg #[.slice a n c,.int .i64 r],.bool b]/\b=X.isSome:=by
 obtain⟨-,-,h⟩:=h;cases X with
 |none=>exact⟨none,0,0,0,false,h,rfl⟩| some X=>obtain⟨bf,rfl,-⟩:=h;exact⟨_,_,_,_,true,rfl,rfl⟩
def afW(ao:m5 I)(ax:g.ok I)(g9:UZ g){pn:Nat}(aH:cD I pa pn pc 1 8 (path.map (.int .i64 ·))) :
  Spec Tryz.prog 52 [g.val,J5 rule pa pn pc] I M0 (ow (qj g rule path) I M0):=by
 have hL:=ax.n;refine b0 [] a3 Tryz.func52 rfl rfl rfl ?_;intro B aw;refine cT.mk (λh=>?_) (λh=>?_)
 ·have aa:¬ rule<0:=dP h;refine a5.mk (λab=>?_) (λab=>?_)
  ·have ab:(g.n:Int)<=rule:=c5 ab;refine⟨_,_,.refl,λ_ _ h=>h,rfl,?_⟩;unfold qj;rw[bP (by omega)];rfl
  ·have ab:¬ (g.n:Int)<=rule:=dP ab;obtain⟨u,rfl⟩:=eF (show 0<=rule by omega);have hu:u<g.ds.length:=by omega
   obtain⟨aP,bI,bt⟩:=ax.ba.row a0.cH (j:=u) (by omega) hu;have ah:=ax.ds _ (bJ hu);have af:=g9.r _ (bJ hu);have Uv:=g9.n _ (bJ hu);have eW:qj g (u:Int) path=(bU g.ds[u].t).go path:=by unfold qj;rw[bT (by omega),gN];simp[bM,hu]
   have eU:=atU (M0:=[]) ao ah.t af (by omega) aH;rw[<-eW]at eU;refine c2.draw a3 rfl rfl rfl ?_;refine bA.mk aP u bI rfl (by omega) ?_;refine aV.mk _ ((bt _).part (k:=1) (m:=2) (by decide)) ?_;refine bc.mk [] M0 _ (.refl _) eU ?_;rintro v J M1-h;obtain⟨a,n,c,r,b,rfl,-⟩:=h.shape;obtain⟨ew,rfl,fb⟩:=h;exact⟨_,_,.refl,ew,rfl,fb⟩
 ·have aa:rule<0:=c5 h;refine⟨_,_,.refl,λ_ _ h=>h,rfl,?_⟩;unfold qj;rw[bP (by omega)];rfl
def at5(g:cg)(rule:Int)(X:Option aS)(I:aJ)(M0:List aF)(v:Value)(I':aJ)(M':List aF):Prop:=(∀ b o,I b=some o->I' b=some o)/\M'=M0 /\
 match X with
 |none=>v=.tuple #[.agg #[.slice none 0 0],.bool false]| some X=>∃ (h:cg) (bf:bn),v=.tuple #[h.val,.bool true]/\h.ok I'/\h.n=g.n/\h.ds.map a0.a1=(g.ds.set rule.toNat ⟨(g.ds.getD rule.toNat iY).name,bf⟩).map a0.a1/\k7 bf X/\eY X/\jr X
def v0(g:cg)(rule:Int)(path:List Int)(x:aS):Option aS:=(qj g rule path).map λ_=>((bU (g.ds.getD rule.toNat iY).t).put path x).lK
def at6(zh:ff I ay)(ax:g.ok I)(g9:UZ g)(yu:g.n<=1000000){x:bn}(ad:x.ok I)(ph:right x=true)(q3:x.n<=549755813888){pn:Nat}(aH:cD I pa pn pc 1 8 (path.map (.int .i64 ·))) :
  Spec Tryz.prog 58 [g.val,J5 rule pa pn pc,x.val] I M0 (at5 g rule (v0 g rule path (bU x)) I M0):=by
 have hL:=ax.n;refine b0 [] a3 Tryz.func58 rfl rfl rfl ?_;intro B aw;refine cT.mk (λh=>?_) (λh=>?_)
 ·have aa:¬ rule<0:=dP h;refine a5.mk (λab=>?_) (λab=>?_)
  ·have ab:(g.n:Int)<=rule:=c5 ab;refine⟨_,_,.refl,λ_ _ h=>h,rfl,?_⟩;unfold v0 qj;rw[bP (by omega)];rfl
  ·have ab:¬ (g.n:Int)<=rule:=dP ab;obtain⟨u,rfl⟩:=eF (show 0<=rule by omega);have hu:u<g.ds.length:=by omega
   obtain⟨aP,bI,bt⟩:=ax.ba.row a0.cH (j:=u) (by omega) hu;have ah:=ax.ds _ (bJ hu);have af:=g9.r _ (bJ hu);have Uv:=g9.n _ (bJ hu);have u3:g.ds.getD u iY=g.ds[u]:=by simp[bM,hu]
   have eW:v0 g (u:Int) path (bU x)=((bU g.ds[u].t).go path).map λ_=>((bU g.ds[u].t).put path (bU x)).lK:=by unfold v0 qj;rw[bT (by omega),gN,u3]
   have eU:=at4 (M0:=[]) zh ah.t ad af ph (by omega) aH;rw[<-eW]at eU;refine c2.BO a3 rfl rfl rfl (ι:=Nat×Option Addr×Nat×Nat×Int×Bool×aJ) (λy=>{ bp:=[(3,.ref 3 0),(4,.ref 4 0),(6,.ref 6 0),(8,.val (ptr y.1)),(9,.val (.bool y.2.2.2.2.2.1))],cl:=[(3,[.slice g.a g.n g.c]),(4,[.int .i64 u,.slice pa pn pc]),(6,[.slice none 0 0])],cP:=y.2.2.2.2.2.2,da:=⟨y.1,.cells #[.slice y.2.1 y.2.2.1 y.2.2.2.1,.int .i64 y.2.2.2.2.1] 56 (0,0)⟩::M0 }) (λy=>ow (v0 g (u:Int) path (bU x)) I [] (.tuple #[.agg #[.slice y.2.1 y.2.2.1 y.2.2.2.1,.int .i64 y.2.2.2.2.1],.bool y.2.2.2.2.2.1]) y.2.2.2.2.2.2 []) ?_ ?_
   ·refine bA.mk aP u bI rfl (by omega) ?_;refine aV.mk _ ((bt _).part (k:=1) (m:=2) (by decide)) ?_;refine⟨?_,?_⟩
    ·refine bc.mk [] M0 _ (.refl _) eU ?_;rintro v J M1 a8 h;obtain⟨a,n,c,r,b,rfl,-⟩:=h.shape;obtain⟨ew,rfl,fb⟩:=h;refine bZ.mk λdQ sZ v3=>?_;refine cd.mk [] M0 _ _ rfl rfl (bK rfl) rfl ?_;exact⟨(dQ,a,n,c,r,b,J),⟨ew,rfl,fb⟩,.refl,il,.cons rfl (.cons rfl (.cons rfl (.nil)))⟩
    ·refine bZ.mk λdQ sZ v3=>?_;refine eH.mk _ eU ?_;rintro v J M1 a8 h;obtain⟨a,n,c,r,b,rfl,-⟩:=h.shape;obtain⟨ew,rfl,fb⟩:=h;refine cd.mk [] M0 _ _ rfl rfl (bK rfl) rfl ?_;exact⟨(dQ,a,n,c,r,b,J),⟨ew,rfl,fb⟩,.refl,il,.cons rfl (.cons rfl (.cons rfl (.nil)))⟩
   rintro⟨dQ,a,n,c,r,b,J⟩at7;obtain⟨ew,-,fb⟩:=at7;simp only at ew fb;refine a5.mk (λag=>?_) (λag=>?_)
   ·have ag:(!b)=true:=ag;refine⟨_,_,.sub (.cons _ (.refl _)) .refl,ew,rfl,?_⟩;cases ht:v0 g (u:Int) path (bU x)with
    |none=>rfl
    |some X=>
     rw[ht]at fb;obtain⟨bf,e,-⟩:=fb;injection e with e
     simp at e;rw[e.2]at ag;cases ag
   ·have ag:(!b)=false:=ag;obtain⟨X,ht⟩:∃ X,v0 g (u:Int) path (bU x)=some X:=by
     cases ht:v0 g (u:Int) path (bU x)with
     |none=>
      rw[ht]at fb;have fb:Value.tuple #[.agg #[.slice a n c,.int .i64 r],.bool b]=.tuple #[UU,.bool false]:=fb;injection fb with e
      simp[UU]at e;rw[e.2]at ag;cases ag
     |some X=>exact⟨X,rfl⟩
    rw[ht]at fb;obtain⟨bf,e,jI,dm,bi,tg⟩:=fb;have a7:Value.agg #[.slice a n c,.int .i64 r]=bf.val:=by
     injection e with e
     simp at e;rw[<-e.1]
    have rN:=ap7 (M0:=[]) (ax.mono ew) hu (by omega) jI;rw[<-a7]at rN;refine aV.mk [.slice a n c,.int .i64 r] ⟨rfl,_,_,_,.inr ⟨_,.head _,rfl,rfl⟩,rfl,rfl⟩ ?_;refine bc.mk [] _ _ (.refl _) rN ?_;rintro v cE dy -⟨cI,rfl,bj,rfl,kE,x8,ey⟩;refine⟨_,_,.sub (.cons _ (.refl _)) .refl,λb o h=>cI _ _ (ew _ _ h),rfl,?_⟩;rw[ht];refine⟨bj,bf,rfl,kE,x8,?_,dm,bi,tg⟩;rw[gN,u3];exact ey
 ·have aa:rule<0:=c5 h;refine⟨_,_,.refl,λ_ _ h=>h,rfl,?_⟩;unfold v0 qj;rw[bP (by omega)];rfl
def U0{X:aS}(ht:eY X):∀ (p:List Int) {T:aS},eY T->eY (T.put p X)
 |[],T,h=>ht
 |i::p,.mk d ks,h=>by
  obtain⟨aB,ae⟩:=h.inv;rw[aS.put];show eY (aS.mk d (ks.set i.toNat ((ks.getD i.toNat (.mk d ks)).put p X)));refine .mk (by rw[rW];exact aB) λc ao=>?_;rcases xp ao with ao | rfl;·exact ae c ao
  ·refine U0 ht p ?_;rw[bM];cases e:ks[i.toNat]? with
   |none=>exact h| some c=>exact ae c (rv e)
def afX{P:al->Prop}:∀ (p:List Int) {T S:aS},ig P T->T.go p=some S->ig P S
 |[],T,S,h,e=>by rw[aS.go]at e;cases e;exact h
 |i::p,.mk d ks,S,h,e=>by
  rw[aS.go]at e;split at e
  ·refine afX p ?_ e;show ig P (ks.getD i.toNat (.mk d ks));rw[bM];cases e:ks[i.toNat]? with
   |none=>exact h| some c=>exact h.inv.2 c (rv e)
  ·cases e
def afY:∀ (p:List Int) {T S:aS},eY T->T.go p=some S->eY S
 |[],T,S,h,e=>by rw[aS.go]at e;cases e;exact h
 |i::p,.mk d ks,S,h,e=>by
  rw[aS.go]at e;split at e
  ·refine afY p ?_ e;show eY (ks.getD i.toNat (.mk d ks));rw[bM];cases e:ks[i.toNat]? with
   |none=>exact h| some c=>exact h.inv.2 c (rv e)
  ·cases e
def U1{t:bn}(h:right t=true):eY (bU t):=by obtain⟨T,aa,ab,ai,aL,bq⟩:=(jm.1 h).Gc;rw[ai];exact NE (jm.1 h).fit ab
def Ob{t:bn}(h:right t=true):uu pl F t=(bU t).fold (h4 pl F):=by obtain⟨gG,hd⟩:=lZ h;obtain⟨r,af⟩:=eF gG;unfold uu adK bU;rw[af];exact arF (λd l=>rfl) (jm.1 h) (by omega)
def xG(ay:List Int)(g:cg)(u:Nat)(X:aS):Bool:=decide (du ay (sf (ez g.ds u (jD X.post)))=0)
structure Gd(ay:List Int)(g:cg)(F:List aR):Prop where
 n:g.ds.length=g.n
 m:du ay g=0
 Jm:hp g.ds F
 left:(q6 g.ds F).length=0
 loops:(pk g.ds F).length=0
def lI.Dr(aD:g.ds.length=g.n){r:Int×Int}(h:lI ay g r)(aw:r.2=0):∃ F,Gd ay g F:=by
 have hm:du ay g=0:=by
  rcases h with⟨a,e⟩ | ⟨a,-⟩;·rw[e]at aw;exact aw
  ·exact a
 obtain⟨aa,ab⟩:=(h.get hm).1 aw;rcases h with⟨a,-⟩ | ⟨-,F,bs,-⟩
 ·exact absurd hm a
 rw[Tn bs]at aa ab;exact⟨F,aD,hm,bs,aa,ab⟩
def aua(hm:du ay g=0){d:a0}(ah:d∈g.ds):normal d.t=true:=by have:=fV.1 (JC.1 hm).2.1 d ah;rw[cw]at this;exact this.2
def pz(hm:du ay g=0){d:a0}(ah:d∈g.ds):right d.t=true:=(Uq.1 (aua hm ah)).1
def aub{t:bn}(h:k7 t X)(aD:t.ns.length=t.n):t.a1=(jD X.post).a1:=by
 have aA:X.post.length=t.ns.length:=by rw[<-h.a1,bE]
 have e:X.post.map al.a1=X.post:=by refine oH (by simp) λi aa ab=>?_;rw[gg];exact ael X _ (bJ _)
 unfold bn.a1 jD;simp only[h.a1,e,h.br,aA,aD]
def auc{ds:List a0}{y G0:bn}(h:y.a1=G0.a1):(ez ds u y).map a0.a1=(ez ds u G0).map a0.a1:=by unfold ez;rw[qy,qy];congr 1;unfold a0.a1;rw[h]
def aud(hL:g.ds.length=g.n)(dm:k7 bf X)(aD:bf.ns.length=bf.n)(te:h.n=g.n)(ao:h.ds.map a0.a1=(ez g.ds u bf).map a0.a1):xG ay g u X=decide (du ay h=0):=by
 unfold xG;congr 1;have:du ay (sf (ez g.ds u (jD X.post)))=du ay h:=by rw[<-Cy,<-Cy ay h];congr 1;unfold cg.a1 sf;rw[ao,te,sj,hL,auc (aub dm aD)]
 rw[this]
section
end
structure mf(x y:xw):Prop where
 bp:x.1.1.le y.1.1
 J6:∀ k∈x.1.2,k∈y.1.2
 e8:x.2=true->y.2=true
def mf.rfl'(x:xw):mf x x:=⟨aR.le_refl _,λ_ h=>h,λh=>h⟩
def mf.trans{x y z:xw}(h:mf x y)(bj:mf y z):mf x z:=⟨h.bp.trans bj.bp,λk ae=>bj.J6 k (h.J6 k ae),λe=>bj.e8 (h.e8 e)⟩
def afZ:∀ {xs ys:List (aR×List Nat)},xs.length=ys.length->(∀ i (h:i<xs.length) (bj:i<ys.length),(xs[i].1.z=true->ys[i].1.z=true)/\∀ k∈xs[i].2,k∈ys[i].2)->∀ k∈ke xs,k∈ke ys
 |[],[],_,_,k,h=>by cases h
 |x::xs,y::ys,aA,h,k,ae=>by
  have aw:=h 0 (by simp) (by simp);simp only[tw]at aw;rw[ke]at ae |-;rcases cC.1 ae with ae | ae;·exact im _ (aw.2 k ae)
  ·cases bd:x.1.z with
   |false=>rw[bd]at ae;cases ae
   |true=>
    rw[bd]at ae;rw[aw.1 bd];exact sF _ (afZ (xs:=xs) (ys:=ys) (by simpa using aA) (λi g eu=>by
     have aa:=h (i+1) (by simp;omega) (by simp;omega);simpa only[GS]using aa) k ae)
def dX.IB{a b:List aR}(aA:a.length=b.length)(h:∀ i (aa:i<a.length) (ab:i<b.length),(a[i]).le b[i]):dX a b:=by
 refine dX.of aA λi hi=>?_;have ab:i<b.length:=by omega
 have:=h i hi ab;simpa[bM,hi,ab]using this
def U2(bs:dX c9 F)(d:al){xs ys:List xw}(aA:xs.length=ys.length)(h:∀ i (ad:i<xs.length) (aE:i<ys.length),mf xs[i] ys[i]):mf (h4 pl c9 d xs) (h4 pl F d ys):=by
 have hm:dX ((xs.map (·.1)).map (·.1)) ((ys.map (·.1)).map (·.1)):=by refine dX.IB (by simpa using aA) λi aa ab=>?_;simp only[gg];exact(h i (by simpa using aa) (by simpa using ab)).bp
 have S':∀ k∈(xs.map (·.1)).flatMap (·.2),k∈(ys.map (·.1)).flatMap (·.2):=by
  intro k ae;obtain⟨x,ad,ae⟩:=hc.1 ae;obtain⟨q,aM,rfl⟩:=hM ad;simp only[gg]at ae;have aM:q<xs.length:=by simpa using aM
  have fq:(ys[q]'(by omega)).1∈ys.map (·.1):=xy (bJ _);exact hc.2 ⟨_,fq,(h q aM (by omega)).J6 k ae⟩
 refine⟨?_,?_,?_⟩
 ·refine YX d (dX.append hm ?_);cases decide (d.k=3)with
  |true=>exact .cons (dX.getD bs _) .nil| false=>exact .nil
 ·show ∀ k∈lA pl d (xs.map (·.1)),k∈lA pl d (ys.map (·.1));unfold lA;by_cases ck:d.k=3
  ·rw[iQ ck];exact λk ae=>ae
  rw[fo ck];by_cases dM:d.k=4;·rw[iQ dM];refine afZ (by simpa using aA) λi aa ab=>?_;simp only[gg];have:=h i (by simpa using aa) (by simpa using ab);exact⟨this.bp.z,this.J6⟩
  rw[fo dM];by_cases kA:d.k=6/\d.hi=0;·rw[iQ kA.1,iQ kA.2];exact λk ae=>ae
  ·have e:(decide (d.k=6)&&decide (d.hi=0))=false:=by rw[<-JK];exact fo kA
   rw[e];exact S'
 ·show y0 pl c9 d xs=true->y0 pl F d ys=true;intro aw;obtain⟨x,ad,aw⟩:=Fh.1 aw;obtain⟨q,aM,rfl⟩:=hM ad;have aX:=h q aM (by omega);refine Fh.2 ⟨_,bJ (show q<ys.length by omega),?_⟩;rcases aqW aw with aa | aa
  ·rw[cw,cw]at aa;rw[aa.1,aa.2.1,aX.bp.z aa.2.2];rfl
  ·rw[aX.e8 aa,L0]
def aue(bs:dX c9 F):∀ T:aS,mf (T.fold (h4 pl c9)) (T.fold (h4 pl F)):=by
 intro T
 induction T using aS.ind with
 |h d ks aN=>rw[aS.fold_eq,aS.fold_eq];refine U2 bs d (by simp) λi aa ab=>?_;simp only[gg];exact aN _ (bJ _)
def af0{pl:List (ByteArray×Int)}{F:List aR}{X S:aS}(ht:mf (X.fold (h4 pl F)) (S.fold (h4 pl F))):∀ (p:List Int) (T:aS),T.go p=some S->mf ((T.put p X).fold (h4 pl F)) (T.fold (h4 pl F))
 |[],T,h=>by rw[aS.go]at h;cases h;exact ht
 |i::p,.mk d ks,h=>by
  rw[aS.go]at h;split at h
  ·rename_i hi;have hi:0<=i/\i<(ks.length:Int):=hi;obtain⟨q,rfl⟩:=eF hi.1;have aM:q<ks.length:=by omega
   have aN:=af0 ht p _ h;rw[aS.put];show mf ((aS.mk d (ks.set q ((ks.getD q (.mk d ks)).put p X))).fold _) _;rw[aS.fold_eq,aS.fold_eq];refine U2 (dX.refl _) d (by simp) λj aa ab=>?_;rw[gg,gg,PD];split
   ·rename_i e;subst e;have a7:(aS.mk d ks).sub.getD ((q:Int)).toNat (.mk d ks)=ks[q]:=by show ks.getD q _=_;simp[bM,aM]
    rw[a7]at aN;have ck:ks.getD q (.mk d ks)=ks[q]:=by simp[bM,aM]
    rw[ck];exact aN
   ·exact mf.rfl' _
  ·cases h
structure xH(ds:List a0)(u:Nat)(y:bn):Prop where
 ul:u<ds.length
 r:right y=true
 rel:∀ F:List aR,mf (uu (bL ds) F y) (uu (bL ds) F (ds.getD u iY).t)
section
variable{ds:List a0}{u:Nat}{y:bn}(hz:xH ds u y)(af:∀ d∈ds,right d.t=true)
include hz af
theorem xH.auf:ds.getD u iY=ds[u]'hz.ul:=by have:=hz.ul;simp[bM,this]
theorem xH.aY{i:Nat}(hi:i<(ez ds u y).length):right ((ez ds u y)[i]).t=true/\∀ F,mf (uu (bL ds) F ((ez ds u y)[i]).t) (uu (bL ds) F (ds[i]'(by rw[sj]at hi;exact hi)).t):=by
 have cG:i<ds.length:=by rw[sj]at hi;exact hi
 by_cases e:i=u
 ·subst e;have ai:=NV (y:=y) hz.ul;rw[dt hi]at ai;rw[e2 ai];refine⟨hz.r,λF=>?_⟩;have:=hz.rel F;rw[hz.auf af]at this;exact this
 ·have ai:=Uo (ds:=ds) (y:=y) e;rw[dt hi,dt cG]at ai;rw[e2 ai];exact⟨af _ (bJ cG),λF=>mf.rfl' _⟩
theorem xH.Jm(bs:hp ds F)(mP:hp (ez ds u y) c9):dX c9 F:=by
 refine mP.least F (by rw[sj];exact bs.len) λi hi=>?_;have cG:i<ds.length:=by rw[sj]at hi;exact hi
 obtain⟨aa,ab⟩:=hz.aY af hi;rw[Un,aeY aa,bs.fix i cG,aeY (af _ (bJ cG))];exact(ab F).bp
theorem xH.bH(bs:hp ds F)(mP:hp (ez ds u y) c9){i:Nat}(hi:i<(ez ds u y).length):mf (uu (bL ds) c9 ((ez ds u y)[i]).t) (uu (bL ds) F (ds[i]'(by rw[sj]at hi;exact hi)).t):=by obtain⟨aa,ab⟩:=hz.aY af hi;refine mf.trans ?_ (ab F);rw[Ob aa,Ob aa];exact aue (hz.Jm af bs mP) _
theorem xH.af1(bs:hp ds F)(mP:hp (ez ds u y) c9){i k:Nat}(ae:k∈ma (ez ds u y) c9 i):k∈ma ds F i:=by
 by_cases hi:i<(ez ds u y).length
 ·have cG:i<ds.length:=by rw[sj]at hi;exact hi
  obtain⟨aa,-⟩:=hz.aY af hi;unfold ma at ae |-;rw[dt hi,Un]at ae;rw[dt cG];have ae:k∈(gz (bL ds) c9 (ez ds u y)[i].t.ns (ez ds u y)[i].t.br).2:=ae;show k∈(gz (bL ds) F ds[i].t.ns ds[i].t.br).2;rw[<-aeZ aa]at ae;rw[<-aeZ (af _ (bJ cG))];exact(hz.bH af bs mP hi).J6 k ae
 ·rw[acQ (by omega)]at ae;cases ae
theorem xH.comes(bs:hp ds F)(mP:hp (ez ds u y) c9){i k:Nat}(ao:kD (ma (ez ds u y) c9) i k):kD (ma ds F) i k:=by
 induction ao with
 |one ae=>exact .one (hz.af1 af bs mP ae)| step ak _ aN=>exact .step (hz.af1 af bs mP ak) aN
theorem xH.aug(bs:hp ds F)(mP:hp (ez ds u y) c9){i:Nat}(he:xt (ez ds u y) c9 i=true):xt ds F i=true:=by
 by_cases hi:i<(ez ds u y).length
 ·have cG:i<ds.length:=by rw[sj]at hi;exact hi
  unfold xt at he |-;rw[dt hi,Un]at he;rw[dt cG];exact(hz.bH af bs mP hi).e8 he
 ·unfold xt at he;rw[qv (by omega)]at he;cases he
theorem xH.Dr(bs:hp ds F)(aA:(q6 ds F).length=0)(eZ:(pk ds F).length=0){ds':List a0}(ao:ds'.map a0.a1=(ez ds u y).map a0.a1)(mP:hp ds' c9):(q6 ds' c9).length=0/\(pk ds' c9).length=0:=by
 have MN:hp (ez ds u y) c9:=ac6 (by rw[<-ao];exact alr mP);have cQ:ds'.length=ds.length:=by have:=congrArg List.length ao;rw[bE,bE,sj]at this;exact this
 refine⟨?_,?_⟩
 ·rw[List.length_eq_zero_iff,ae6]at aA |-;intro i hi;rw[adH]at hi;refine aA i (adH.2 ⟨by omega,hz.comes af bs MN ?_⟩);have e:ma ds' c9=ma (ez ds u y) c9:=by funext i;rw[<-Tv,ao,Tv]
  rw[<-e];exact hi.2
 ·rw[List.length_eq_zero_iff,ae6]at eZ |-;intro i hi;rw[<-Tw,ao,Tw]at hi;unfold pk at hi eZ;rw[n4,j0,sj]at hi;exact eZ i (n4.2 ⟨j0.2 hi.1,hz.aug af bs MN hi.2⟩)
end
def jK(g:cg)(u:Nat)(p:List Int)(x:aS):aS:=((bU (g.ds.getD u iY).t).put p x).lK
structure Oc(g:cg)(S x:aS):Prop where
 ok:eY x
 nm:ig (Bb g.ds) S->ig (Bb g.ds) x
 le:∀ F:List aR,mf (x.fold (h4 (bL g.ds) F)) (S.fold (h4 (bL g.ds) F))
section
variable{ay:List Int}{g:cg}{F:List aR}(hw:Gd ay g F)
include hw
theorem af2(hu:u<g.ds.length)(ad:eY x):eY (jK g u p x)/\jr (jK g u p x)/\rc (jK g u p x):=by
 have kH:g.ds.getD u iY=g.ds[u]:=by simp[bM,hu]
 unfold jK;rw[kH];exact⟨Dh (U0 ad p (U1 (pz hw.m (bJ hu)))),JU _,asM _⟩
theorem auh(hu:u<g.ds.length)(cv:(bU g.ds[u].t).go p=some S)(ad:Oc g S x)(dm:k7 bf (jK g u p x))(ho:bf.ns.length=bf.n)(te:h.n=g.n)(ayK:h.ds.length=h.n)(ao:h.ds.map a0.a1=(ez g.ds u bf).map a0.a1) :
  (du ay h=0\/du ay h=40)/\xG ay g u (jK g u p x)=decide (du ay h=0)/\∀ r,lI ay h r->(r.2=0 ↔ du ay h=0):=by
 obtain⟨bi,ag,Ey⟩:=af2 hw (p:=p) hu ad.ok;have kH:g.ds.getD u iY=g.ds[u]:=by simp[bM,hu]
 have pq:=dm.right bi;have ir:=dm.bU bi ag;have Ge:=pz hw.m (bJ hu);have aui:∀ d∈g.ds,right d.t=true:=λd ah=>pz hw.m ah;have eD:normal bf=true:=Uq.2 ⟨pq,by rw[ir];exact Ey⟩;have mq:∀ d∈bf.ns,Bb g.ds d:=by
  have eX:=(JC.1 hw.m).2.2.2.2;have a6:ig (Bb g.ds) (bU g.ds[u].t):=(ae2 Ge).2 λd ah=>eX _ (bJ hu) d ah;have:ig (Bb g.ds) (bU bf):=by rw[ir];unfold jK;rw[kH];exact Ur (λd ah=>ah) (λh=>by cases h) (λh=>by cases h) (ae3 (ad.nm (afX p a6 cv)) p a6)
  exact(ae2 pq).1 this
 have auj:=asQ hw.n hw.m hu eD mq te ao;have aX:xH g.ds u bf:=by refine⟨hu,pq,λc9=>?_⟩;rw[kH,Ob pq,ir];unfold jK;rw[kH,Um (TV _ _) (U0 ad.ok p (U1 Ge)),Ob Ge];exact af0 (ad.le c9) p _ cv
 refine⟨auj,aud hw.n dm ho te ao,λr af=>?_⟩;constructor
 ·intro aw;rcases af with⟨a,e⟩ | ⟨a,-⟩
  ·rw[e]at aw;exact aw
  ·exact a
 ·intro hm;rw[af.get hm];rcases af with⟨a,-⟩ | ⟨-,c9,mP,-⟩
  ·exact absurd hm a
  ·rw[Tn mP];exact aX.Dr aui hw.Jm hw.left hw.loops ao mP
end
def auk(_:al)(xs:List Nat):Nat:=xs.sum+1
def dG(T:aS):Nat:=T.fold auk
def lN(d:al)(ks:List aS):dG (.mk d ks)=(ks.map dG).sum+1:=by unfold dG;rw[aS.fold_eq];rfl
def Bi(T:aS):0<dG T:=by
 cases T with
 |mk d ks=>rw[lN];omega
def Ds:∀ T:aS,T.post.length=dG T:=by
 intro T
 induction T using aS.ind with
 |h d ks aN=>rw[aS.k1,aqT,lN,gh];congr 2;exact fT λc ao=>aN c ao
def aul(ns:List al):∀ T:aT,dG (T.bare ns)=T.cZ.length:=by
 intro T
 induction T using aT.ind with
 |h k ks aN=>rw[aT.nq,lN,aT.mK,cm,yp,gh,o5];congr 2;exact fT λc ao=>aN c ao
def af3{α:Type}(f:α->Nat)(p:α->Bool):∀ l:List α,((l.filter p).map f).sum<=(l.map f).sum
 |[]=>b2 _
 |a::l=>by
  have:=af3 f p l;rw[x5];split<;>simp only[ca,hz]<;>omega
def aum(d:al)(xs:List aS):dG (nW d xs)<=(xs.map dG).sum+1:=by
 rw[JQ];split
 ·have h:=af3 dG (kh d) xs;generalize xs.filter (kh d)=bp at h
  match bp,h with
  |[],_=>rw[lN];simp| [y],h=>simp only[ca,hH,hz,B0]at h;show dG y<=_;omega| JS::JT::l,h=>rw[lN];omega
 ·rw[lN];exact b2 _
def aun:∀ T:aS,dG (T.fold nW)<=dG T:=by
 intro T
 induction T using aS.ind with
 |h d ks aN=>rw[aS.fold_eq,lN];refine ja (aum d _) ?_;rw[gh];have:=Ns (l:=ks) (f:=dG ∘ aS.fold nW) (g:=dG) λc ao=>aN c ao;omega
def U3(f:aS->List aS):∀ l:List aS,((l.flatMap f).map dG).sum=(l.map λc=>((f c).map dG).sum).sum
 |[]=>rfl| a::l=>by rw[jf,cS,pO,U3 f l];rfl
def auo:∀ T:aS,dG T.bx<=dG T/\∀ cj,((T.ga cj).map dG).sum<=dG T:=by
 intro T
 induction T using aS.ind with
 |h d ks aN=>
  have pu:dG (aS.mk d ks).bx<=dG (.mk d ks):=by show dG (.mk d (ks.flatMap (aS.ga (iI d))))<=_;rw[lN,lN,U3];have:=Ns (l:=ks) (f:=λc=>((c.ga (iI d)).map dG).sum) (g:=dG) λc ao=>(aN c ao).2 _;omega
  refine⟨pu,λcj=>?_⟩;rw[aS.q8];split;·rw[U3,lN];have:=Ns (l:=ks) (f:=λc=>((c.ga cj).map dG).sum) (g:=dG) λc ao=>(aN c ao).2 _;omega
  ·simpa using pu
def Od(T:aS):dG T.lK<=dG T:=ja (auo _).1 (aun T)
def U4:∀ (l:List Nat) (i x:Nat) (h:i<l.length),(l.set i x).sum+l[i]=l.sum+x
 |[],i,x,h=>by simp at h
 |a::l,0,x,h=>by simp;omega
 |a::l,i+1,x,h=>by have:=U4 l i x (by simpa using h);simp only[List.set_cons_succ,hz,GS];omega
def Gf{X S:aS}:∀ (p:List Int) (T:aS),T.go p=some S->dG (T.put p X)+dG S=dG T+dG X
 |[],T,h=>by rw[aS.go]at h;cases h;rw[aS.put];omega
 |i::p,.mk d ks,h=>by
  rw[aS.go]at h;split at h
  ·rename_i hi;have hi:0<=i/\i<(ks.length:Int):=hi;obtain⟨q,rfl⟩:=eF hi.1;have aM:q<ks.length:=by omega
   have a7:ks.getD q (.mk d ks)=ks[q]:=by simp[bM,aM]
   have aN:=Gf (X:=X) p _ h;rw[aS.put];show dG (aS.mk d (ks.set q ((ks.getD q (.mk d ks)).put p X)))+_=_;have aN:dG ((ks.getD q (.mk d ks)).put p X)+dG S=dG (ks.getD q (.mk d ks))+dG X:=aN;rw[a7]at aN |-;rw[lN,lN,qy];have ai:=U4 (ks.map dG) q (dG (ks[q].put p X)) (by rw[bE];exact aM);rw[gg]at ai;omega
  ·cases h
def zi{t:bn}(h:right t=true):dG (bU t)<=t.ns.length:=by obtain⟨T,aa,ab,ai,aL,bq⟩:=(jm.1 h).Gc;rw[ai,aul];exact bq
def bh.minus(x y:bh):bh:=⟨x.a &&& ~~~y.a,x.b &&& ~~~y.b,x.c &&& ~~~y.c,x.d &&& ~~~y.d⟩
def J7(w:bh):al:=⟨1,w.a.toNat,w.b.toNat,w.c.toNat,w.d.toNat,⟨#[]⟩,0,0,none,0,0,[]⟩
def ki(w:bh):aS:=.mk (J7 w) []
def sr(T:aS):Option bh:=if T.d.k=1 then some T.d.ws else none
def v5(T:aS):Option bh:=if T.d.k=1 then some T.d.ws else if T.d.k=2/\T.d.t.size=1 then some (oc T.d.t.data.toList)else none
def xI(k:Int)(T:aS):Option bh:=if T.d.k=k then(match T.sub with
 |c::_=>sr c| []=>none)else none
def ss(f:bh->bh->bh):Option bh->Option bh->Option bh
 |some x,some y=>some (f x y)| _,_=>none
def v7(w:Int)(A B:aS):Option bh:=
 if w=1 then ss bh.or (v5 A) (v5 B)
 else if w=2 then ss (λx y=>y.minus x) (xI 8 A) (sr B)
 else if w=3 then ss bh.and (xI 7 A) (sr B)
 else none
def i'(w:Int):Int:=if w=1 then 5 else 4
def rh(k:Int)(l:List aS):aS:=match l with
 |[]=>.mk (nothing (k-4)) []| [x]=>x.lK| x::y::l=>(aS.mk (nothing k) (x::y::l)).lK
def nt(w aY:Int)(S:aS):Option aS:=if S.d.k=i' w/\0<=aY/\aY+1<S.sub.length then(v7 w (S.sub.getD aY.toNat S) (S.sub.getD (aY.toNat+1) S)).map λs=>rh (i' w) (S.sub.take aY.toNat++ki s::S.sub.drop (aY.toNat+2))else none
def nZ(g:cg)(u:Nat)(p:List Int)(w aY:Int):Option aS:=((bU (g.ds.getD u iY).t).go p).bind λS=>(nt w aY S).map λx=>jK g u p x
def lO(ay:List Int)(g:cg)(u:Nat)(p:List Int)(w aY:Int):Bool:=match nZ g u p w aY with
 |some X=>xG ay g u X| none=>false
def aup(w:Int):i' w=4\/i' w=5:=by
 unfold i';split<;>simp
def Oe{k:Int}(h:k=4\/k=5){n:Nat}(aD:2<=n):Go.V.fits (nothing k) n=true:=by
 have ab:¬ ((n:Int)<2):=by omega
 rcases h with rfl | rfl
 ·simp[Go.V.fits,nothing,oQ,nF,jy,al.kT];omega
 ·simp[Go.V.fits,nothing,oQ,nF,jy,al.kT];omega
def U5(w:bh):eY (ki w):=.mk (by
 simp[Go.V.fits,J7,oQ,nF,jy]) λc ao=>by cases ao
def auq{k:Int}(ae:k=4\/k=5){l:List aS}(aA:∀ c∈l,eY c):eY (rh k l):=by
 cases l with
 |nil=>exact aeP (d:=nothing k) ae
 |cons x l=>
  cases l with
  |nil=>exact Dh (aA x (.head _))| cons y l=>exact Dh (.mk (Oe ae (by simp)) aA)
def aur{P:al->Prop}(ag:∀ d,P d->P d.bare)(aw:∀ k,k≠3->P (nothing k)){k:Int}(ae:k=4\/k=5){l:List aS}(aA:∀ c∈l,ig P c):ig P (rh k l):=by
 have aa:=ag _ (aw 0 (by decide));have ab:=ag _ (aw 1 (by decide));cases l with
 |nil=>exact .mk (aw _ (by omega)) λc ao=>by cases ao
 |cons x l=>
  cases l with
  |nil=>exact Ur ag aa ab (aA x (.head _))| cons y l=>exact Ur ag aa ab (.mk (aw _ (by omega)) aA)
def aus(k:Int)(l:List aS):dG (rh k l)<=(l.map dG).sum+1:=by
 cases l with
 |nil=>exact Nat.le_of_eq (lN _ _)
 |cons x l=>
  cases l with
  |nil=>exact Nat.le_succ_of_le (ja (Od x) (by simp))| cons y l=>exact ja (Od _) (Nat.le_of_eq (lN _ _))
section
variable{α:Type}{F:al->List α->α}(bs:C9 F)
include bs
theorem aut{d d':al}(h:d.k=4\/d.k=5)(bj:d'.k=d.k)(xs:List α):F d xs=F d' xs:=by have aa:=bs.nest d d' [] xs [] h bj;simp only[hX,dD]at aa;rw[<-aa,bs.one d _ h]
theorem auu{k:Int}(ae:k=4\/k=5){l:List aS}(aA:∀ c∈l,eY c)(bD:l≠[]):(rh k l).fold F=F (nothing k) (l.map (aS.fold F)):=by
 cases l with
 |nil=>exact absurd rfl bD
 |cons x l=>
  cases l with
  |nil=>show x.lK.fold F=F (nothing k) [x.fold F];rw[Um bs (aA x (.head _)),bs.one (nothing k) _ ae]| cons y l=>show(aS.mk (nothing k) (x::y::l)).lK.fold F=_;rw[Um bs (.mk (Oe ae (by simp)) aA),aS.fold_eq]
theorem auv{d:al}(h:d.k=4\/d.k=5)(a9:List α)(a b:α)(post:List α):F d (a9++a::b::post)=F (nothing d.k) (a9++F (nothing d.k) [a,b]::post):=by rw[aut bs h (d':=nothing d.k) rfl];exact(bs.nest (nothing d.k) (nothing d.k) a9 [a,b] post h rfl).symm
end
def U6(l:List α)(i:Nat)(h:i+1<l.length):l=l.take i++l[i]'(by omega)::l[i+1]::l.drop (i+2):=by have aa:l.drop i=l[i]'(by omega)::l.drop (i+1):=fi (by omega);have ab:l.drop (i+1)=l[i+1]::l.drop (i+2):=fi h;rw[<-ab,<-aa,pM]
def J8{w aY:Int}(h:nt w aY S=some x):∃ (i:Nat) (s:bh),aY=(i:Int)/\S.d.k=i' w/\∃ hi:i+1<S.sub.length,v7 w (S.sub[i]'(by omega)) (S.sub[i+1])=some s/\x=rh (i' w) (S.sub.take i++ki s::S.sub.drop (i+2)):=by
 unfold nt at h;split at h
 ·rename_i ao;obtain⟨i,rfl⟩:=eF ao.2.1;have hi:i+1<S.sub.length:=by omega
  have aK:S.sub.getD ((i:Nat):Int).toNat S=S.sub[i]'(by omega):=by
   show S.sub.getD i S=_;have:i<S.sub.length:=by omega
   simp[bM,this]
  have a7:S.sub.getD (((i:Nat):Int).toNat+1) S=S.sub[i+1]:=by show S.sub.getD (i+1) S=_;simp[bM,hi]
  rw[aK,a7]at h;cases au:v7 w (S.sub[i]'(by omega)) (S.sub[i+1])with
  |none=>rw[au]at h;cases h| some s=>rw[au]at h;exact⟨i,s,rfl,ao.1,hi,au,(e2 h).symm⟩
 ·cases h
def eY.A6(h:eY S):∀ c∈S.sub,eY c:=by
 cases S with
 |mk d ks=>exact h.inv.2
def aS.eta(S:aS):S=.mk S.d S.sub:=by cases S;rfl
def auw(cv:eY S){i:Nat}{s:bh}:∀ c∈S.sub.take i++ki s::S.sub.drop (i+2),eY c:=by
 intro c ao;rcases cC.1 ao with ao | ao
 ·exact cv.A6 c (u5 ao)
 ·rcases eA.1 ao with rfl | ao
  ·exact U5 s
  ·exact cv.A6 c (Fx ao)
def auy{d:al}(h:d.kT=true):d.ws=bh.zero:=by unfold al.kT at h;simp only[cw,beq_iff_eq]at h;obtain⟨aw,aa,ab,ai⟩:=h;unfold al.ws;rw[aw,aa,ab,ai];rfl
def auz(w:bh):(J7 w).kT=decide (w=bh.zero):=by
 have bd:∀ x:BitVec 64,((x.toNat:Int) == 0)=decide (x=0):=λx=>by have:=EK (x:=x) (y:=0);simpa using this
 unfold al.kT J7;simp only[bd];rw[<-JK,<-JK,<-JK];refine decide_eq_decide.2 ⟨λh=>?_,λh=>?_⟩
 ·exact bh.ext' h.1 h.2.1 h.2.2.1 h.2.2.2
 ·subst h;exact⟨rfl,rfl,rfl,rfl⟩
def bh.auA(y:bh):bh.zero.minus y=bh.zero:=by unfold bh.minus bh.zero;simp
def bh.and_zero(x:bh):x.and bh.zero=bh.zero:=by unfold bh.and bh.zero;simp
def bh.zero_and(x:bh):bh.zero.and x=bh.zero:=by unfold bh.and bh.zero;simp
section
variable{pl:List (ByteArray×Int)}{F:List aR}
def uE(pl:List (ByteArray×Int))(F:List aR)(T:aS):aR:=(T.fold (h4 pl F)).1.1
def Of(d:al)(ks:List aS)(ai:d.k≠3):uE pl F (.mk d ks)=gD d (ks.map (uE pl F)):=by unfold uE;rw[aS.fold_eq];show gD d _=_;rw[fo ai];simp[gh];rfl
def auB{d:al}(h:d.k=1)(ks:List aS):uE pl F (.mk d ks)=⟨false,!d.kT,true⟩:=by rw[Of d ks (by omega)];simp[gD,h]
def J9{T:aS}{x:bh}(h:sr T=some x):∃ b,uE pl F T=⟨false,b,true⟩/\(x≠bh.zero->b=true):=by
 cases T with
 |mk d ks=>
 unfold sr at h;split at h
 ·rename_i aa;have aa:d.k=1:=aa;refine⟨_,auB aa ks,λad=>?_⟩;cases bd:d.kT with
  |false=>rfl| true=>have:=auy bd;exact absurd (by rw[<-this];exact(e2 h).symm) ad
 ·cases h
def af4{T:aS}{x:bh}(h:v5 T=some x):∃ b,uE pl F T=⟨false,b,true⟩/\(x≠bh.zero->b=true):=by
 by_cases aa:T.d.k=1
 ·refine J9 (x:=x) ?_;unfold v5 at h;rw[bT aa]at h;unfold sr;rw[bT aa,h]
 ·cases T with
  |mk d ks=>
  unfold v5 at h;rw[bP aa]at h;have aa:¬ d.k=1:=aa;split at h;·rename_i ab;have ab:d.k=2:=ab.1;refine⟨true,?_,λ_=>rfl⟩;rw[Of d ks (by omega)];simp[gD,ab]
  ·cases h
def af5{T:aS}{k:Int}{x:bh}(h:xI k T=some x):∃ d c cs,T=.mk d (c::cs)/\d.k=k/\sr c=some x:=by
 cases T with
 |mk d ks=>
 unfold xI at h;split at h
 ·rename_i aa;cases ks with
  |nil=>cases h| cons c cs=>exact⟨d,c,cs,rfl,aa,h⟩
 ·cases h
def auC{w:Int}{A B:aS}{s:bh}(h:v7 w A B=some s):mf ((ki s).fold (h4 pl F)) (h4 pl F (nothing (i' w)) [A.fold (h4 pl F),B.fold (h4 pl F)]):=by
 have aK:(ki s).fold (h4 pl F)=((⟨false,!(J7 s).kT,true⟩,[]),false):=by unfold ki;rw[aS.fold_eq];rfl
 rw[aK,auz];have iL:∀ {f:bh->bh->bh} {a b:Option bh},ss f a b=some s->∃ x y,a=some x/\b=some y/\s=f x y:=by
  intro f a b ag;cases a with
  |none=>cases ag
  |some x=>
   cases b with
   |none=>cases ag| some y=>exact⟨x,y,rfl,rfl,(e2 ag).symm⟩
 suffices l3:aR.le ⟨false,!decide (s=bh.zero),true⟩ (h4 pl F (nothing (i' w)) [A.fold (h4 pl F),B.fold (h4 pl F)]).1.1 from⟨l3,λk ae=>(by cases ae),λh=>by cases h⟩
 unfold v7 at h;by_cases aa:w=1
 ·rw[bT aa]at h;obtain⟨x,y,ad,aE,rfl⟩:=iL h;obtain⟨a,a6,s3⟩:=af4 (pl:=pl) (F:=F) ad;obtain⟨b,ag,hk⟩:=af4 (pl:=pl) (F:=F) aE;have jR:i' w=5:=bT aa;rw[jR,FR rfl];show aR.le _ (pZ [uE pl F A,uE pl F B]);rw[a6,ag];refine⟨λh=>(by cases h),λav=>?_,λ_=>rfl⟩;have av:x.or y≠bh.zero:=by simpa using av
  by_cases fQ:x=bh.zero
  ·have:y≠bh.zero:=λe=>av (by rw[fQ,e];exact bh.zero_or _);rw[hk this];cases a<;>rfl
  ·rw[s3 fQ];rfl
 rw[bP aa]at h;have dM:i' w=4:=bP aa;rw[dM,A5 rfl];show aR.le _ (hB [uE pl F A,uE pl F B]);by_cases ab:w=2
 ·rw[bT ab]at h;obtain⟨x,y,ad,aE,rfl⟩:=iL h;obtain⟨d,c,cs,rfl,ah,ao⟩:=af5 ad;obtain⟨a,a6,s3⟩:=J9 (pl:=pl) (F:=F) ao;obtain⟨b,ag,hk⟩:=J9 (pl:=pl) (F:=F) aE;have nk:uE pl F (.mk d (c::cs))=⟨true,false,a⟩:=by rw[Of _ _ (by omega),ca,a6];simp[gD,ah,aR.hO]
  rw[nk,ag];refine⟨λh=>(by cases h),λav=>?_,λ_=>?_⟩
  ·have av:y.minus x≠bh.zero:=by simpa using av
   have:y≠bh.zero:=λe=>av (by rw[e];exact bh.auA _);rw[hk this];cases a<;>rfl
  ·cases a<;>cases b<;>rfl
 rw[bP ab]at h;by_cases ai:w=3
 ·rw[bT ai]at h;obtain⟨x,y,ad,aE,rfl⟩:=iL h;obtain⟨d,c,cs,rfl,ah,ao⟩:=af5 ad;obtain⟨a,a6,s3⟩:=J9 (pl:=pl) (F:=F) ao;obtain⟨b,ag,hk⟩:=J9 (pl:=pl) (F:=F) aE;have nk:uE pl F (.mk d (c::cs))=⟨a,false,true⟩:=by rw[Of _ _ (by omega),ca,a6];simp[gD,ah,aR.hO]
  rw[nk,ag];refine⟨λh=>(by cases h),λav=>?_,λ_=>?_⟩
  ·have av:x.and y≠bh.zero:=by simpa using av
   have aL:y≠bh.zero:=λe=>av (by rw[e];exact bh.and_zero _);have bq:x≠bh.zero:=λe=>av (by rw[e];exact bh.zero_and _);rw[hk aL,s3 bq];rfl
  ·cases a<;>cases b<;>rfl
 ·rw[bP ai]at h;cases h
end
def af6{w aY:Int}(cv:eY S)(h:nt w aY S=some x):Oc g S x:=by
 obtain⟨i,s,rfl,ae,hi,au,rfl⟩:=J8 h;have hR:=aup w;have e0:S.d.k=4\/S.d.k=5:=by rw[ae];exact hR
 have rM:=auw cv (i:=i) (s:=s);refine⟨auq hR rM,λa6=>?_,λF=>?_⟩
 ·have av:∀ c∈S.sub,ig (Bb g.ds) c:=by rw[S.eta]at a6;exact a6.inv.2
  refine aur (λd ah=>ah) (λk ae ai=>absurd ai ae) hR λc ao=>?_;rcases cC.1 ao with ao | ao;·exact av c (u5 ao)
  ·rcases eA.1 ao with rfl | ao
   ·exact .mk (λai=>absurd (show(1:Int)=3 from ai) (by decide)) λc ao=>by cases ao
   ·exact av c (Fx ao)
 ·rw[auu (TV _ _) hR rM (by simp)]
  conv=>rhs;rw[S.eta,aS.fold_eq,U6 S.sub i hi]
  rw[cS,cS,ca,ca,ca,auv (TV _ _) e0,ae];refine U2 (dX.refl _) _ (by simp) λj aa ab=>?_;rw[List.getElem_append,List.getElem_append];split;·exact mf.rfl' _
  ·rw[O1,O1];split
   ·exact auC au
   ·exact mf.rfl' _
def auD(l:List aS)(i:Nat)(h:i+1<l.length):((l.take i).map dG).sum+(dG (l[i]'(by omega))+(dG l[i+1]+((l.drop (i+2)).map dG).sum))=(l.map dG).sum:=by
 conv=>rhs;rw[U6 l i h]
 rw[cS,pO,ca,ca,hz,hz]
def U7{w aY:Int}(h:nt w aY S=some x):dG x<dG S:=by
 obtain⟨i,s,rfl,ae,hi,au,rfl⟩:=J8 h;have aa:=aus (i' w) (S.sub.take i++ki s::S.sub.drop (i+2));have ab:=auD S.sub i hi;have ai:=Bi (S.sub[i]'(by omega));have aL:=Bi S.sub[i+1];have bq:dG S=(S.sub.map dG).sum+1:=by
  conv=>lhs;rw[S.eta]
  exact lN _ _
 have b':dG (ki s)=1:=lN _ _;rw[cS,ca,pO,hz]at aa;omega
def auE{w aY:Int}(hu:u<g.ds.length)(h:nZ g u p w aY=some X):∃ S x,(bU g.ds[u].t).go p=some S/\nt w aY S=some x/\X=jK g u p x:=by
 have kH:g.ds.getD u iY=g.ds[u]:=by simp[bM,hu]
 unfold nZ at h;rw[kH]at h;cases cv:(bU g.ds[u].t).go p with
 |none=>rw[cv]at h;cases h
 |some S=>
  rw[cv]at h;have h:((nt w aY S).map λx=>jK g u p x)=some X:=h;cases ad:nt w aY S with
  |none=>rw[ad]at h;cases h| some x=>rw[ad]at h;exact⟨S,x,rfl,ad,(e2 h).symm⟩
def auF{w aY:Int}(hu:u<g.ds.length)(h:nZ g u p w aY=some X):dG X<dG (bU g.ds[u].t):=by
 obtain⟨S,x,cv,ad,rfl⟩:=auE hu h;have kH:g.ds.getD u iY=g.ds[u]:=by simp[bM,hu]
 unfold jK;rw[kH];have aa:=Od ((bU g.ds[u].t).put p x);have ab:=Gf (X:=x) p _ cv;have ai:=U7 ad;omega
section
variable{P:Program}{w:World}
def auG(t u ty e:Nat)(i:TypeInfo)(z:Value)(au:P.underlying t=some (.slice e)){mu:TypeDesc}(hu:P.underlying u=some mu)(n5:∀ k,mu≠.int k)(hi:P.info? e=some i)(bd:i.zero=some z)(qF:z.cells.size=i.size)
 {n:Nat} (kb:xs.length=n*i.size) (HR:∀ w':World,w'.heap=w.heap->∀ j v,xs[j]?=some v->w'.cell? (aP.add j)=some v)
  {x:Value} {m:Nat} (hm:0<m) (aA:b3.length=m*i.size)
  (cQ:∀ w',(Builtin.lenOf x).run P w'=.ok m w') (eV:∀ w':World,w'.heap=w.heap->(Builtin.firstCells i.size m x).run P w'=.ok b3.toArray w')
  (b1:n+m<=maxLen) (bW:(n+m)*i.bytes<=140737488355328) :
  ∃ (c:Nat) (aU:List Value),(Builtin.append_ #[t,u] ty #[.slice (some aP) n n,x]).run P w=.ok (.slice (some ⟨w.heap.size,0,none⟩) (n+m) c) (w.drew.alloc (.cells aU.toArray e (0,0)))/\aU.length=c*i.size/\n+m<=c/\c<=maxLen/\aU.take ((n+m)*i.size)=xs++b3:=by
 have D3:(xs++b3).length=(n+m)*i.size:=by rw[cm,kb,aA,lT]
 have K3:∀ dK,(xs++b3++(Builtin.zeroCells z.cells (grownCap w (n+m) dK e-(n+m))).toList).length=grownCap w (n+m) dK e*i.size/\n+m<=grownCap w (n+m) dK e/\grownCap w (n+m) dK e<=maxLen /\
   (xs++b3++(Builtin.zeroCells z.cells (grownCap w (n+m) dK e-(n+m))).toList).take ((n+m)*i.size)=xs++b3:=by
  intro dK;have c8:=grownCap_ge w (n+m) dK e;have lX:grownCap w (n+m) dK e<=maxLen:=grownCap_le_maxLen w (n+m) dK e b1;refine⟨?_,c8,lX,?_⟩;·rw[cm,D3,x4,size_zeroCells,qF,<-lT];congr 1;omega
  ·rw[<-D3];exact wv
 have iN:n+m<=9223372036854775807:=by simp only[maxLen]at b1;exact b1
 have aD:m≠0:=by omega
 have u2:¬ (n+m<=n):=by omega
 have BT:¬ (9223372036854775807<((n:Int)+(m:Int))):=by omega
 have BU:¬ (281474976710656<Builtin.nextslicecap (n+m) n*i.bytes):=by have:=growslice_fits (by omega:n<n+m) bW;omega
 have aB:=eV w.drew rfl;have Pm:=run_firstCells_some (P:=P) w.drew i.size n aP n n xs kb (HR w.drew rfl);obtain⟨a',bg,b5,gf⟩:=K3 n;refine⟨grownCap w (n+m) n e,_,?_,a',bg,b5,gf⟩;simp[Builtin.append_,run_underlying au,run_underlying hu,sizeOf,typeInfo,zeroValue,hi,bd,cQ,aD,u2,BT,BU,Question.forced,aB,Pm,newRow,grownCap];congr 2;apply gX;simp
end
section
variable{X:c1}{β:Nat->Nat}{a:Act}{w:World}{F:Fr}{C:dO}{I:aJ}{M:List aF}{o:Oper}{K:gr}
def auH{P:Program}{m size:Nat}(aD:cY I M aP (m*size) b3){w:World}(hw:eN I M w):(Builtin.firstCells size m (.slice (some aP) m c')).run P w=.ok b3.toArray w:=by
 obtain⟨de,cs,T,an,fh,aj,aA⟩:=aD;refine run_firstCells_some (P:=P) w size m aP m c' b3 aA λj v ak=>?_;rw[eO _ de,ts (fh.heap hw)];rw[<-aj,k9]at ak;split at ak
 ·rw[nw]at ak;simpa using ak
 ·cases ak
def af7{n:Nat}(h:cY I M aP n xs):xs.length=n:=by obtain⟨_,_,_,_,_,_,h⟩:=h;exact h
def kM.auI{K:dH->aJ->List aF->Prop}(aO:cX X.P X.E){x:Operand}{t:Nat}(aC:o.op=.call { callee:=.builtin .append,args:=#[s,x],argTypes:=#[t,t] })
  {e:Nat} (au:X.E t=some c6) (dz:c6.bQ=.slice e) (he:X.E e=some aG)
  {sa:Addr} {n:Nat} (av:bH F s=.val (.slice (some sa) n n)) (bt:cY I M sa (n*aG.size) xs)
 {m:Nat} (ad:bH F x=.val (.slice (some aP) m c')) (hm:0<m) (aD:cY I M aP (m*aG.size) b3) (b1:n+m<=maxLen) (bW:(n+m)*aG.bytes<=140737488355328)
  (M':aQ->List aF) (yQ:∀ bu:aQ,(bu.ar e++M).Perm (M' bu))
  (k:∀ bu:aQ,bu.n=n+m->(∀ g,bu.a=some g->I g=none/\g ∉ X.foot)->bu.ok aG.size (xs++b3)->K (.val bu.val) I (M' bu)):kM X o F C I M K:=by
 refine⟨fun β a w Q aX=>?_⟩;have kb:=af7 bt;have y':=af7 aD;have eV:∀ w,eN I M w->(Builtin.firstCells aG.size m (.slice (some aP) m c')).run X.P w=.ok b3.toArray w:=λw hw=>auH aD hw;obtain⟨inf,z,hi,fv,hW,ik,j4⟩:=(aO _ _ he).inf;obtain⟨g2,iO,kS⟩:=(aO _ _ au).ft;have oO:g2=.slice e:=by rw[dz]at kS;cases g2<;>simp_all[fs]
 subst oO;have qF:z.cells.size=inf.size:=by rw[fv,<-(aO _ _ he).len,<-j4];simp
 rw[<-fv]at kb y' eV;obtain⟨c,aU,e',a',bg,b5,gf⟩:=auG (P:=X.P) (w:=w) t t o.type e inf z iO iO (λk cU=>by cases cU) hi ik qF kb (λw' yc j v ak=>bt.MA (aX.holds.heap yc) j v ak) (x:=.slice (some aP) m c') hm y' (λ_=>rfl) (λw' yc=>eV w' (aX.holds.heap yc)) b1 (by rw[hW];exact bW);rw[fv]at a' gf kb y';have zN:I w.heap.size=none:=by
  cases bB:I w.heap.size with
  |none=>rfl| some nD=>have:=aX.holds.i _ _ bB;simp at this
 have es:=dh aX.an av;have ex:=dh aX.an ad;have kE:(⟨some w.heap.size,n+m,c,aU⟩:aQ).ok aG.size (xs++b3):=by
  refine⟨?_,(λh=>by cases h),λeu ax=>?_⟩;·rw[cm,kb,y',<-lT]
  ·cases ax;exact⟨a',bg,b5,gf⟩
 refine iJ (by rw[aC];simp) (v:=.slice (some ⟨w.heap.size,0,none⟩) (n+m) c) (w':=w.drew.alloc (.cells aU.toArray e (0,0))) ?_ ⟨_,.val (.slice (some ⟨w.heap.size,0,none⟩) (n+m) c),I,M' ⟨some w.heap.size,n+m,c,aU⟩,rfl,rfl,?_,k ⟨some w.heap.size,n+m,c,aU⟩ rfl (λeu ax=>by cases ax;exact⟨zN,λhm=>by have aa:=aX.fy _ hm;have ab:=aX.sz;omega⟩) kE,rfl⟩
 ·unfold execOp;simp only[aC,resolve,invoke,builtin,cu,c7,bY,rz,ca,hH,es,ex,e']
 ·refine cL.h7 ?_ (.perm (yQ _) .refl);have ab:cL X β a w.drew F C I M:=aX.world rfl;exact ab.n2 (.cells aU.toArray e (0,0))
end
inductive Bj
 |own(os:aQ)| an (sa:Addr) (n:Nat)
def Bj.a:Bj->Option Addr
 | .own os=>os.a.map λg=>⟨g,0,none⟩
 | .an sa _=>some sa
def Bj.n:Bj->Nat
 | .own os=>os.n| .an _ n=>n
def Bj.c:Bj->Nat
 | .own os=>os.c| .an _ n=>n
def Bj.ok(I:aJ)(size:Nat)(xs:List Value):Bj->Prop
 | .own os=>os.ok size xs| .an sa n=>∀ M,cY I M sa (n*size) xs
section
end
section
end
section
end
section
end
section
end
def Dt(I:aJ):List aF->aJ
 |[]=>I| x::L=>Dt (ins I x.num x.obj) L
def af8{foot:List Nat}{M:List aF}:∀ {I:aJ} (L:List aF),(∀ x∈L,x.num ∉ foot)->h6 foot I (L++M) (Dt I L) M
 |I,[],_=>.refl| I,x::L,h=>.n1 rfl (h x (.head _)) (af8 L λq aM=>h q (.tail _ aM))
def U8:∀ {I:aJ} (L:List aF),(∀ x∈L,I x.num=none)->(L.map (λx:aF=>x.num)).Nodup->(∀ b o,I b=some o->Dt I L b=some o)/\∀ x∈L,Dt I L x.num=some x.obj
 |I,[],_,_=>⟨λ_ _ h=>h,λx ad=>by cases ad⟩
 |I,p::L,h,aD=>by
  rw[ca,mg]at aD;have bB:∀ q∈L,(ins I p.num p.obj) q.num=none:=λq aM=>by unfold ins;rw[hF λe=>aD.1 (c0.2 ⟨q,aM,e⟩)];exact h q (.tail _ aM)
  obtain⟨aa,ab⟩:=U8 L bB aD.2;refine⟨λb o ag=>aa b o (mz (h p (.head _)) b o ag),λq aM=>?_⟩;rcases eA.1 aM with rfl | aM;·exact aa _ _ (pS ..)
  ·exact ab q aM
def af9(t:xF)(x:bn)(tV:List (Nat×List Nat))(b9:Nat)(os Gg:aQ)(Cz:Nat):xF:=
 ⟨b9,t.s,t.afN,t.AF,t.ys++afQ tV x.ns,os.a.map λg=>⟨g,0,none⟩,t.uD+x.n,os.c,Gg.a.map λg=>⟨g,0,none⟩,Gg.c,t.rows++(List.range x.n).map λk=>⟨Cz,k*(t.w*4),none⟩,t.uD,Cz⟩
section
end
section
section
end
section
end
end
def U9(bl:ff I ay){t:bn}(au:t.ok I)(af:right t=true)(aD:t.n<=1099511627776)(en:t.br=(r:Int)) :
  Spec Tryz.prog 53 [t.val] I M0 λv J M'=>(∀ b o,I b=some o->J b=some o)/\M'=M0/\∃ (a:Option Addr) (n c:Nat) (L:List bn),v=.slice a n c/\cD J a n c 2 0 (L.flatMap bn.cells)/\L.length=(nodeAt t.ns r).aq.length/\∀ q (h:q<L.length),(L[q]).ok J/\p2 t ((nodeAt t.ns r).aq.getD q 0) L[q]:=by
 refine Spec.mH (Spec.frame (Spec.jq (aqJ (M0:=[]) bl au af aD en))) ?_;rintro v J M⟨M',rfl,-,a8,rfl,-,I',M1,⟨bB,os,L,bi,rfl,rfl,aA,eI⟩,bs⟩;exact⟨a8,rfl,os.a.map λg=>⟨g,0,none⟩,os.n,os.c,L,rfl,aQ.atF bs bi (λ_ h=>im _ h) (by omega),aA,λq h=>⟨(eI q h).1.mono bs.le,(eI q h).2⟩⟩
def qk(x y:Int):Int:=IntKind.u64.wrap ((BitVec.ofInt 64 x &&& ~~~(BitVec.ofInt 64 y)).toNat:Int)
def Og(x y:BitVec 64):qk x.toNat y.toNat=((x &&& ~~~y).toNat:Int):=by unfold qk;rw[CA,CA,Q1]
def auL(x y:bh):Nat->List Value
 |0=>[.int .u64 x.a.toNat,.int .u64 x.b.toNat,.int .u64 x.c.toNat,.int .u64 x.d.toNat]| 1=>[.int .u64 (qk x.a.toNat y.a.toNat),.int .u64 x.b.toNat,.int .u64 x.c.toNat,.int .u64 x.d.toNat]| 2=>[.int .u64 (qk x.a.toNat y.a.toNat),.int .u64 (qk x.b.toNat y.b.toNat),.int .u64 x.c.toNat,.int .u64 x.d.toNat]| 3=>[.int .u64 (qk x.a.toNat y.a.toNat),.int .u64 (qk x.b.toNat y.b.toNat),.int .u64 (qk x.c.toNat y.c.toNat),.int .u64 x.d.toNat]| _=>[.int .u64 (qk x.a.toNat y.a.toNat),.int .u64 (qk x.b.toNat y.b.toNat),.int .u64 (qk x.c.toNat y.c.toNat),.int .u64 (qk x.d.toNat y.d.toNat)]
def auM(x y:bh):Spec Tryz.prog 154 [x.val,y.val] I M λr I' M'=>r=(x.minus y).val/\I'=I/\M'=M:=by
 refine b0 [] a3 Tryz.func154 rfl rfl rfl ?_;intro B aw;refine dx.inv (ι:=Nat) (λi=>{ bp:=[(2,.ref 2 0),(4,.ref 4 0),(7,.val y.val),(8,.val (.int .i64 i))],cl:=[(2,auL x y i),(4,bh.zero.cells)],cP:=I,da:=M }) (λi=>i<=4) (λi=>4-i) ?_ ?_
 ·exact⟨0,by simp,.refl,dY,.cons rfl (.cons rfl (.nil))⟩
 ·intro i hi
  match i,hi with
  |0,_=>refine a5.mk (λ_=>?_) (λh=>by simp at h);refine cA.mk 0 rfl (by decide) ?_;refine cA.mk 0 rfl (by decide) ?_;refine cA.mk 0 rfl (by decide) ?_;refine be.mk 1 (by decide) ?_;exact⟨1,⟨by simp,by simp⟩,.refl,dY,.cons rfl (.cons rfl (.nil))⟩| 1,_=>refine a5.mk (λ_=>?_) (λh=>by simp at h);refine cA.mk 1 rfl (by decide) ?_;refine cA.mk 1 rfl (by decide) ?_;refine cA.mk 1 rfl (by decide) ?_;refine be.mk 2 (by decide) ?_;exact⟨2,⟨by simp,by simp⟩,.refl,dY,.cons rfl (.cons rfl (.nil))⟩| 2,_=>refine a5.mk (λ_=>?_) (λh=>by simp at h);refine cA.mk 2 rfl (by decide) ?_;refine cA.mk 2 rfl (by decide) ?_;refine cA.mk 2 rfl (by decide) ?_;refine be.mk 3 (by decide) ?_;exact⟨3,⟨by simp,by simp⟩,.refl,dY,.cons rfl (.cons rfl (.nil))⟩| 3,_=>refine a5.mk (λ_=>?_) (λh=>by simp at h);refine cA.mk 3 rfl (by decide) ?_;refine cA.mk 3 rfl (by decide) ?_;refine cA.mk 3 rfl (by decide) ?_;refine be.mk 4 (by decide) ?_;exact⟨4,⟨by simp,by simp⟩,.refl,dY,.cons rfl (.cons rfl (.nil))⟩| 4,_=>refine a5.mk (λh=>by simp at h) (λ_=>?_);refine⟨_,_,.refl,?_,rfl,rfl⟩;show Value.agg #[.int .u64 (qk x.a.toNat y.a.toNat),.int .u64 (qk x.b.toNat y.b.toNat),.int .u64 (qk x.c.toNat y.c.toNat),.int .u64 (qk x.d.toNat y.d.toNat)]=_;rw[Og,Og,Og,Og];rfl
def Gh(o:Option bh)(v:Value):Prop:=∃ (w:bh) (b:Bool),v=.tuple #[w.val,.bool b]/\o=(bif b then some w else none)/\(b=false->w=bh.zero)
def U'(o:Option bh)(v:Value):Prop:=∃ (w:bh) (b:Bool),v=.tuple #[w.val,.bool b]/\o=bif b then some w else none
def js(t:bn)(f:aS->Option bh):Option bh:=bif right t then f (bU t)else none
def J'{t:bn}(af:right t=true)(en:t.br=(r:Int))(eJ:r<t.ns.length):bU t=.mk t.ns[r].bare (t.ns[r].aq.map (fr t.ns)):=by unfold bU;rw[en];exact zf af eJ
def aga{d:al}(aw:fl d.cz)(aa:fl d.s1)(ab:fl d.s2)(ai:fl d.cV):d.ws.val=.agg #[.int .u64 d.cz,.int .u64 d.s1,.int .u64 d.s2,.int .u64 d.cV]:=by simp only[bh.val,al.ws,Mw aw,Mw aa,Mw ab,Mw ai]
def Va(bl:ff I ay){t:bn}(au:t.ok I):Spec Tryz.prog 153 [t.val] I M0 λv I' M'=>I'=I/\M'=M0/\Gh (js t sr) v:=by
 refine b0 [] a3 Tryz.func153 rfl rfl rfl ?_;intro B aw;have ho:=au.n;refine bc.mk [] M0 _ (.refl _) (oR bl.c au) ?_;rintro v J N -⟨rfl,rfl,rfl⟩;cases af:right t with
 |false=>refine cT.mk (λh=>absurd h (by simp)) (λ_=>?_);exact⟨_,_,.refl,rfl,rfl,.zero,false,rfl,by simp[js,af],λ_=>rfl⟩| true=>
 obtain⟨gG,hd⟩:=lZ af;obtain⟨r,en⟩:=eF gG;have eJ:r<t.ns.length:=by omega
 obtain⟨aP,bI,bt⟩:=au.ba.row al.cH (show r<t.n by omega) eJ;have bi:=au.ns _ (bJ eJ);have ir:=J' af en eJ;have e:js t sr=if t.ns[r].k=1 then some t.ns[r].ws else none:=by unfold js;rw[af,ir];rfl
 rw[e];generalize t.ns[r]=d at bt bi;refine cT.mk (λ_=>?_) (λh=>absurd h (by simp));refine bA.mk aP r bI en (by omega) ?_;refine aV.mk _ ((bt _).part (k:=0) (m:=1) (by decide)) ?_;refine a5.mk (λh=>?_) (λh=>?_)
 ·have aa:¬ d.k=1:=by have:(!decide (d.k=1))=true:=h;simpa using this
  exact⟨_,_,.refl,rfl,rfl,.zero,false,rfl,by rw[bP aa];rfl,λ_=>rfl⟩
 ·have aa:d.k=1:=by have:(!decide (d.k=1))=false:=h;simpa using this
  refine bA.mk aP r bI en (by omega) ?_;refine aV.mk _ ((bt _).part (k:=1) (m:=4) (by decide)) ?_;refine⟨_,_,.refl,rfl,rfl,d.ws,true,?_,by rw[bT aa];rfl,λh=>by cases h⟩;rw[aga bi.cz bi.s1 bi.s2 bi.cV];rfl
def agb(bl:ff I ay){t:bn}(au:t.ok I):Spec Tryz.prog 39 [t.val] I M0 λv I' M'=>I'=I/\M'=M0/\Gh (js t v5) v:=by
 refine b0 [] a3 Tryz.func39 rfl rfl rfl ?_;intro B aw;have ho:=au.n;refine bc.mk [] M0 _ (.refl _) (oR bl.c au) ?_;rintro v J N -⟨rfl,rfl,rfl⟩;cases af:right t with
 |false=>refine a5.mk (λ_=>?_) (λh=>absurd h (by simp));exact⟨_,_,.refl,rfl,rfl,.zero,false,rfl,by simp[js,af],λ_=>rfl⟩| true=>
 obtain⟨gG,hd⟩:=lZ af;obtain⟨r,en⟩:=eF gG;have eJ:r<t.ns.length:=by omega
 obtain⟨aP,bI,bt⟩:=au.ba.row al.cH (show r<t.n by omega) eJ;have bi:=au.ns _ (bJ eJ);have ir:=J' af en eJ;have iu:=(jm.1 af).fit _ (bJ eJ);have e:js t v5=if t.ns[r].k=1 then some t.ns[r].ws else if t.ns[r].k=2/\t.ns[r].t.size=1 then some (oc t.ns[r].t.data.toList)else none:=by unfold js;rw[af,ir];rfl
 rw[e];generalize t.ns[r]=d at bt bi;refine a5.mk (λh=>absurd h (by simp)) (λ_=>?_);refine bA.mk aP r bI en (by omega) ?_;refine aV.mk _ (bt _) ?_;refine a5.mk (λh=>?_) (λh=>?_)
 ·have aa:d.k=1:=c5 h;refine⟨_,_,.refl,rfl,rfl,d.ws,true,?_,by rw[bT aa];rfl,λh=>by cases h⟩;rw[aga bi.cz bi.s1 bi.s2 bi.cV];rfl
 have aa:¬ d.k=1:=dP h;rw[bP aa];by_cases ab:d.k=2
 rotate_left
 ·refine cT.mk (λh=>absurd h (by simp[ab])) (λ_=>?_);exact⟨_,_,.refl,rfl,rfl,.zero,false,rfl,by rw[bP λh=>ab h.1];rfl,λ_=>rfl⟩
 refine cT.mk (λ_=>?_) (λh=>absurd h (by simp[ab]));refine a5.mk (λh=>?_) (λh=>?_)
 ·have ai:(d.t.size:Int)=1:=c5 h;refine bc.mk [] M0 _ (.refl _) (aaI d.t (by omega)) ?_;rintro v J N -⟨rfl,rfl,rfl⟩;exact⟨_,_,.refl,rfl,rfl,_,true,rfl,by rw[bT ⟨ab,by omega⟩];rfl,λh=>by cases h⟩
 ·have ai:¬ (d.t.size:Int)=1:=dP h;exact⟨_,_,.refl,rfl,rfl,.zero,false,rfl,by rw[bP λh=>ai (by omega)];rfl,λ_=>rfl⟩
def auN{t:bn}{T:aS}(h:k7 t T)(bl:eY T)(ag:jr T)(f:aS->Option bh):js t f=f T:=by unfold js;rw[h.right bl,h.bU bl ag];rfl
def auO{t:bn}(af:right t=true)(ak:j<t.ns.length){k:Int}(ae:k∈t.ns[j].aq):∃ q:Nat,k=(q:Int)/\q<t.ns.length:=by have aa:=(jm.1 af).xz j ak k ae;obtain⟨q,rfl⟩:=eF aa.1;exact⟨q,rfl,by omega⟩
def agc{t:bn}(af:right t=true)(ak:j<t.ns.length){k:Int}(ae:k∈t.ns[j].aq)(h:p2 t k bf):k7 bf (fr t.ns k)/\eY (fr t.ns k)/\jr (fr t.ns k):=by obtain⟨q,rfl,aM⟩:=auO af ak ae;have aX:=jm.1 af;exact⟨aep aX aM h,aen aX aM,aes aX aM⟩
def auP{d:al}(h:d.k=7\/d.k=8){n:Nat}(aB:Go.V.fits d n=true):n=1:=by
 rcases h with h | h
 ·unfold Go.V.fits at aB;simp[h,oQ,nF,jy]at aB;omega
 ·unfold Go.V.fits at aB;simp[h,oQ,nF,jy]at aB;omega
def agd(bl:ff I ay){t:bn}(au:t.ok I)(aD:t.n<=1099511627776){k:Int}(ae:k=7\/k=8):Spec Tryz.prog 152 [t.val,.int .u8 k] I M0 λv I' M'=>(∀ b o,I b=some o->I' b=some o)/\M'=M0/\Gh (js t (xI k)) v:=by
 refine b0 [] a3 Tryz.func152 rfl rfl rfl ?_;intro B aw;have ho:=au.n;refine bc.mk [] M0 _ (.refl _) (oR bl.c au) ?_;rintro v J N -⟨rfl,rfl,rfl⟩;cases af:right t with
 |false=>refine cT.mk (λh=>absurd h (by simp)) (λ_=>?_);exact⟨_,_,.refl,λ_ _ h=>h,rfl,.zero,false,rfl,by simp[js,af],λ_=>rfl⟩| true=>
 obtain⟨gG,hd⟩:=lZ af;obtain⟨r,en⟩:=eF gG;have eJ:r<t.ns.length:=by omega
 obtain⟨aP,bI,bt⟩:=au.ba.row al.cH (show r<t.n by omega) eJ;have bi:=au.ns _ (bJ eJ);have ir:=J' af en eJ;have rM:=U9 (M0:=[]) bl au af aD en;rw[gy eJ]at rM;have dm:=fun {k} (h:k∈t.ns[r].aq) {bf} (av:p2 t k bf)=>agc af eJ h av;have iu:=(jm.1 af).fit _ (bJ eJ);have e:js t (xI k)=if t.ns[r].k=k then(match t.ns[r].aq.map (fr t.ns)with
  |c::_=>sr c| []=>none)else none:=by
  unfold js;rw[af,ir];rfl
 rw[e];generalize t.ns[r]=d at bt bi rM dm iu;refine cT.mk (λ_=>?_) (λh=>absurd h (by simp));refine bA.mk aP r bI en (by omega) ?_;refine aV.mk _ ((bt _).part (k:=0) (m:=1) (by decide)) ?_;refine a5.mk (λh=>?_) (λh=>?_)
 ·have aa:¬ d.k=k:=by have:(!decide (d.k=k))=true:=h;simpa using this
  exact⟨_,_,.refl,λ_ _ h=>h,rfl,.zero,false,rfl,by rw[bP aa];rfl,λ_=>rfl⟩
 ·have aa:d.k=k:=by have:(!decide (d.k=k))=false:=h;simpa using this
  have qs:=auP (by omega) iu;obtain⟨q,aM⟩:∃ q,d.aq=[q]:=TZ.1 qs;rw[aM]at rM;refine bc.mk [] M0 _ (.refl _) rM ?_;rintro v J N a8⟨-,rfl,a,n,c,L,rfl,dr,b8,eI⟩;have AM:L.length=1:=b8;obtain⟨x,rfl⟩:=TZ.1 AM;obtain⟨ad,av⟩:=eI 0 (by simp);have av:p2 t q x:=av;have nL:n=1:=by have:=dr.len;simp[bn.cells]at this;omega
  obtain⟨gv,fm,fe⟩:=dr.row (f:=bn.cells) (λ_=>rfl) (j:=0) (by omega) (by simp);obtain⟨fF,fB,l0⟩:=dm (by rw[aM];exact .head _) av;refine bA.mk gv 0 fm rfl (by omega) ?_;refine aV.mk _ (fe _) ?_;refine bc.mk [] M0 _ (.refl _) (Va (t:=x) (bl.mono a8) ad) ?_;rintro v cE N -⟨cI,rfl,w,b,rfl,hw,ag⟩;subst cE;refine⟨_,_,.refl,a8,rfl,w,b,rfl,?_,ag⟩;rw[bT aa,aM,<-hw,auN fF fB l0];rfl
def Gi(f:bh->bh->bh)(x y:bh)(b c:Bool):ss f (bif b then some x else none) (bif c then some y else none)=bif b&&c then some (f x y)else none:=by cases b<;>cases c<;>rfl
section
variable{I:aJ}{M0:List aF}{ay:List Int}(bl:ff I ay){x y:bn}(ad:x.ok I)(aE:y.ok I)
include bl ad aE
theorem auQ:Spec Tryz.prog 149 [x.val,y.val] I M0 λv I' M'=>(∀ b o,I b=some o->I' b=some o)/\M'=M0/\U' (ss bh.or (js x v5) (js y v5)) v:=by
 refine b0 [] a3 Tryz.func149 rfl rfl rfl ?_;intro B aw;refine bc.mk [] M0 _ (.refl _) (agb bl ad) ?_;rintro v J N -⟨a8,rfl,w,b,rfl,hw,-⟩;subst J;refine bc.mk [] M0 _ (.refl _) (agb bl aE) ?_;rintro v J N -⟨a8,rfl,u,c,rfl,hu,-⟩;subst J;refine bc.mk [] M0 _ (.refl _) (amc w u) ?_;rintro v J N -⟨rfl,a8,rfl⟩;subst J;cases b with
 |true=>refine cT.mk (λ_=>?_) (λh=>absurd h (by simp));exact⟨_,_,.refl,λ_ _ h=>h,rfl,w.or u,c,rfl,by rw[hw,hu,Gi];rfl⟩| false=>refine cT.mk (λh=>absurd h (by simp)) (λ_=>?_);exact⟨_,_,.refl,λ_ _ h=>h,rfl,w.or u,false,rfl,by rw[hw,hu,Gi];rfl⟩
theorem auR(aD:x.n<=1099511627776):Spec Tryz.prog 151 [x.val,y.val] I M0 λv I' M'=>(∀ b o,I b=some o->I' b=some o)/\M'=M0/\U' (ss (λx y=>y.minus x) (js x (xI 8)) (js y sr)) v:=by
 refine b0 [] a3 Tryz.func151 rfl rfl rfl ?_;intro B aw;refine bc.mk [] M0 _ (.refl _) (agd bl ad aD (.inr rfl)) ?_;rintro v J N a8⟨-,rfl,w,b,rfl,hw,-⟩;refine bc.mk [] M0 _ (.refl _) (Va (bl.mono a8) (aE.mono a8)) ?_;rintro v cE N -⟨cI,rfl,u,c,rfl,hu,-⟩;subst cE;refine bc.mk [] M0 _ (.refl _) (auM u w) ?_;rintro v cE N -⟨rfl,cI,rfl⟩;subst cE;cases b with
 |true=>refine cT.mk (λ_=>?_) (λh=>absurd h (by simp));exact⟨_,_,.refl,a8,rfl,u.minus w,c,rfl,by rw[hw,hu,Gi];rfl⟩| false=>refine cT.mk (λh=>absurd h (by simp)) (λ_=>?_);exact⟨_,_,.refl,a8,rfl,u.minus w,false,rfl,by rw[hw,hu,Gi];rfl⟩
theorem auS(aD:x.n<=1099511627776):Spec Tryz.prog 155 [x.val,y.val] I M0 λv I' M'=>(∀ b o,I b=some o->I' b=some o)/\M'=M0/\U' (ss bh.and (js x (xI 7)) (js y sr)) v:=by
 refine b0 [] a3 Tryz.func155 rfl rfl rfl ?_;intro B aw;refine bc.mk [] M0 _ (.refl _) (agd bl ad aD (.inl rfl)) ?_;rintro v J N a8⟨-,rfl,w,b,rfl,hw,-⟩;refine bc.mk [] M0 _ (.refl _) (Va (bl.mono a8) (aE.mono a8)) ?_;rintro v cE N -⟨cI,rfl,u,c,rfl,hu,-⟩;subst cE;refine bc.mk [] M0 _ (.refl _) (ame w u) ?_;rintro v cE N -⟨rfl,cI,rfl⟩;subst cE;cases b with
 |true=>refine cT.mk (λ_=>?_) (λh=>absurd h (by simp));exact⟨_,_,.refl,a8,rfl,w.and u,c,rfl,by rw[hw,hu,Gi];rfl⟩| false=>refine cT.mk (λh=>absurd h (by simp)) (λ_=>?_);exact⟨_,_,.refl,a8,rfl,w.and u,false,rfl,by rw[hw,hu,Gi];rfl⟩
end
def auT:List Value:=[.nilFunc,.func (.func 149) #[] #[],.func (.func 151) #[] #[],.func (.func 155) #[] #[]]
def Gj:Spec Tryz.prog 91 [] I [] λv I' M'=>v=.agg auT.toArray/\I'=I/\M'=[]:=by refine b0 [] a3 Tryz.func91 rfl rfl rfl ?_;intro B aw;exact⟨_,_,.refl,rfl,rfl,rfl⟩
def oy(w:Int)(x y:bn):Option bh:=bif right x&&right y then v7 w (bU x) (bU y)else none
def Vb(f:bh->bh->bh)(p q:aS->Option bh)(x y:bn):ss f (js x p) (js y q)=bif right x&&right y then ss f (p (bU x)) (q (bU y))else none:=by
 unfold js;cases right x<;>cases right y<;>simp[ss]
def auU(x y:bn):oy 1 x y=ss bh.or (js x v5) (js y v5):=by rw[Vb];rfl
def auV(x y:bn):oy 2 x y=ss (λx y=>y.minus x) (js x (xI 8)) (js y sr):=by rw[Vb];rfl
def auW(x y:bn):oy 3 x y=ss bh.and (js x (xI 7)) (js y sr):=by rw[Vb];rfl
def age{w:Int}(aa:w≠1)(ab:w≠2)(ai:w≠3)(x y:bn):oy w x y=none:=by
 unfold oy v7;rw[bP aa,bP ab,bP ai];cases right x&&right y<;>rfl
def agf(bl:ff I ay){w:Int}(hw:0<=w){x y:bn}(ad:x.ok I)(aE:y.ok I)(aD:x.n<=1099511627776):Spec Tryz.prog 37 [.int .u8 w,x.val,y.val] I M0 λv I' M'=>(∀ b o,I b=some o->I' b=some o)/\M'=M0/\Gh (oy w x y) v:=by
 refine b0 [] a3 Tryz.func37 rfl rfl rfl ?_;intro B aw;have fin:∀ {J:aJ} {o:Option bh} {w:bh} {b:Bool},(∀ b o,I b=some o->J b=some o)->(o=bif b then some w else none)->Gh o (.tuple #[(bif b then w else bh.zero).val,.bool b]):=by intro J o w b a8 aC;exact⟨_,b,rfl,by rw[aC];cases b<;>rfl,λe=>by rw[e];rfl⟩
 by_cases z0:w=0
 ·subst z0;refine cT.mk (λh=>absurd h (by simp)) (λ_=>?_);exact⟨_,_,.refl,λ_ _ h=>h,rfl,.zero,false,rfl,age (by decide) (by decide) (by decide) x y,λ_=>rfl⟩
 refine cT.mk (λ_=>?_) (λh=>absurd h (by simp[z0]));by_cases Vc:4<=w
 ·refine a5.mk (λ_=>?_) (λh=>absurd h (by simp[Vc]));exact⟨_,_,.refl,λ_ _ h=>h,rfl,.zero,false,rfl,age (by omega) (by omega) (by omega) x y,λ_=>rfl⟩
 have cM:=auQ (M0:=[]) bl ad aE;have m2:=auR (M0:=[]) bl ad aE aD;have sN:=auS (M0:=[]) bl ad aE aD;rw[<-auU]at cM;rw[<-auV]at m2;rw[<-auW]at sN;rcases(show w=1\/w=2\/w=3 by omega)with rfl | rfl | rfl
 ·generalize oy 1 x y=o at *;refine a5.mk (λh=>absurd h (by simp)) (λ_=>?_);refine c2.BO a3 rfl rfl rfl (ι:=Nat×bh×Bool×aJ) (λz=>{ bp:=[(6,.ref 6 0),(8,.val (ptr z.1)),(9,.val (.bool z.2.2.1))],cl:=[(6,bh.zero.cells)],cP:=z.2.2.2,da:=⟨z.1,.cells z.2.1.cells.toArray 62 (0,0)⟩::M0 }) (λz=>(∀ b o,I b=some o->z.2.2.2 b=some o)/\o=bif z.2.2.1 then some z.2.1 else none) ?_ ?_
  ·refine⟨?_,?_⟩
   ·refine eH.mk _ Gj ?_;rintro v J N -⟨rfl,a8,hC⟩;subst J;subst N;refine cA.mk 1 rfl (by decide) ?_;refine⟨?_,?_⟩
    ·refine bc.mk [] M0 _ (.refl _) cM ?_;rintro v J N a8⟨-,rfl,s,b,rfl,aC⟩;refine bZ.mk λdQ sZ v3=>?_;refine cd.mk [] M0 _ _ rfl rfl (bK rfl) rfl ?_;exact⟨(dQ,s,b,J),⟨a8,aC⟩,.refl,fw,.cons rfl (.nil)⟩
    ·refine bZ.mk λdQ sZ v3=>?_;refine eH.mk _ cM ?_;rintro v J N a8⟨-,rfl,s,b,rfl,aC⟩;refine cd.mk [] M0 _ _ rfl rfl (bK rfl) rfl ?_;exact⟨(dQ,s,b,J),⟨a8,aC⟩,.refl,fw,.cons rfl (.nil)⟩
   ·refine bZ.mk λdQ sZ v3=>?_;refine eH.mk _ Gj ?_;rintro v J N -⟨rfl,a8,hC⟩;subst J;subst N;refine cA.mk 1 rfl (by decide) ?_;refine eH.mk _ cM ?_;rintro v J N a8⟨-,rfl,s,b,rfl,aC⟩;refine cd.mk [] M0 _ _ rfl rfl (bK rfl) rfl ?_;exact⟨(dQ,s,b,J),⟨a8,aC⟩,.refl,fw,.cons rfl (.nil)⟩
  rintro⟨dQ,s,b,J⟩⟨a8,aC⟩;simp only at a8 aC;refine a5.mk (λh=>?_) (λh=>?_)
  ·have ag:b=false:=by simpa using h
   exact⟨_,_,.sub (wK _ _) .refl,a8,rfl,.zero,false,rfl,by rw[aC,ag];rfl,λ_=>rfl⟩
  ·have ag:b=true:=by simpa using h
   refine aV.mk s.cells ⟨rfl,_,_,_,.inr ⟨_,.head _,rfl,rfl⟩,rfl,rfl⟩ ?_;exact⟨_,_,.sub (wK _ _) .refl,a8,rfl,s,true,rfl,by rw[aC,ag],λh=>by cases h⟩
 ·generalize oy 2 x y=o at *;refine a5.mk (λh=>absurd h (by simp)) (λ_=>?_);refine c2.BO a3 rfl rfl rfl (ι:=Nat×bh×Bool×aJ) (λz=>{ bp:=[(6,.ref 6 0),(8,.val (ptr z.1)),(9,.val (.bool z.2.2.1))],cl:=[(6,bh.zero.cells)],cP:=z.2.2.2,da:=⟨z.1,.cells z.2.1.cells.toArray 62 (0,0)⟩::M0 }) (λz=>(∀ b o,I b=some o->z.2.2.2 b=some o)/\o=bif z.2.2.1 then some z.2.1 else none) ?_ ?_
  ·refine⟨?_,?_⟩
   ·refine eH.mk _ Gj ?_;rintro v J N -⟨rfl,a8,hC⟩;subst J;subst N;refine cA.mk 2 rfl (by decide) ?_;refine⟨?_,?_⟩
    ·refine bc.mk [] M0 _ (.refl _) m2 ?_;rintro v J N a8⟨-,rfl,s,b,rfl,aC⟩;refine bZ.mk λdQ sZ v3=>?_;refine cd.mk [] M0 _ _ rfl rfl (bK rfl) rfl ?_;exact⟨(dQ,s,b,J),⟨a8,aC⟩,.refl,fw,.cons rfl (.nil)⟩
    ·refine bZ.mk λdQ sZ v3=>?_;refine eH.mk _ m2 ?_;rintro v J N a8⟨-,rfl,s,b,rfl,aC⟩;refine cd.mk [] M0 _ _ rfl rfl (bK rfl) rfl ?_;exact⟨(dQ,s,b,J),⟨a8,aC⟩,.refl,fw,.cons rfl (.nil)⟩
   ·refine bZ.mk λdQ sZ v3=>?_;refine eH.mk _ Gj ?_;rintro v J N -⟨rfl,a8,hC⟩;subst J;subst N;refine cA.mk 2 rfl (by decide) ?_;refine eH.mk _ m2 ?_;rintro v J N a8⟨-,rfl,s,b,rfl,aC⟩;refine cd.mk [] M0 _ _ rfl rfl (bK rfl) rfl ?_;exact⟨(dQ,s,b,J),⟨a8,aC⟩,.refl,fw,.cons rfl (.nil)⟩
  rintro⟨dQ,s,b,J⟩⟨a8,aC⟩;simp only at a8 aC;refine a5.mk (λh=>?_) (λh=>?_)
  ·have ag:b=false:=by simpa using h
   exact⟨_,_,.sub (wK _ _) .refl,a8,rfl,.zero,false,rfl,by rw[aC,ag];rfl,λ_=>rfl⟩
  ·have ag:b=true:=by simpa using h
   refine aV.mk s.cells ⟨rfl,_,_,_,.inr ⟨_,.head _,rfl,rfl⟩,rfl,rfl⟩ ?_;exact⟨_,_,.sub (wK _ _) .refl,a8,rfl,s,true,rfl,by rw[aC,ag],λh=>by cases h⟩
 ·generalize oy 3 x y=o at *;refine a5.mk (λh=>absurd h (by simp)) (λ_=>?_);refine c2.BO a3 rfl rfl rfl (ι:=Nat×bh×Bool×aJ) (λz=>{ bp:=[(6,.ref 6 0),(8,.val (ptr z.1)),(9,.val (.bool z.2.2.1))],cl:=[(6,bh.zero.cells)],cP:=z.2.2.2,da:=⟨z.1,.cells z.2.1.cells.toArray 62 (0,0)⟩::M0 }) (λz=>(∀ b o,I b=some o->z.2.2.2 b=some o)/\o=bif z.2.2.1 then some z.2.1 else none) ?_ ?_
  ·refine⟨?_,?_⟩
   ·refine eH.mk _ Gj ?_;rintro v J N -⟨rfl,a8,hC⟩;subst J;subst N;refine cA.mk 3 rfl (by decide) ?_;refine⟨?_,?_⟩
    ·refine bc.mk [] M0 _ (.refl _) sN ?_;rintro v J N a8⟨-,rfl,s,b,rfl,aC⟩;refine bZ.mk λdQ sZ v3=>?_;refine cd.mk [] M0 _ _ rfl rfl (bK rfl) rfl ?_;exact⟨(dQ,s,b,J),⟨a8,aC⟩,.refl,fw,.cons rfl (.nil)⟩
    ·refine bZ.mk λdQ sZ v3=>?_;refine eH.mk _ sN ?_;rintro v J N a8⟨-,rfl,s,b,rfl,aC⟩;refine cd.mk [] M0 _ _ rfl rfl (bK rfl) rfl ?_;exact⟨(dQ,s,b,J),⟨a8,aC⟩,.refl,fw,.cons rfl (.nil)⟩
   ·refine bZ.mk λdQ sZ v3=>?_;refine eH.mk _ Gj ?_;rintro v J N -⟨rfl,a8,hC⟩;subst J;subst N;refine cA.mk 3 rfl (by decide) ?_;refine eH.mk _ sN ?_;rintro v J N a8⟨-,rfl,s,b,rfl,aC⟩;refine cd.mk [] M0 _ _ rfl rfl (bK rfl) rfl ?_;exact⟨(dQ,s,b,J),⟨a8,aC⟩,.refl,fw,.cons rfl (.nil)⟩
  rintro⟨dQ,s,b,J⟩⟨a8,aC⟩;simp only at a8 aC;refine a5.mk (λh=>?_) (λh=>?_)
  ·have ag:b=false:=by simpa using h
   exact⟨_,_,.sub (wK _ _) .refl,a8,rfl,.zero,false,rfl,by rw[aC,ag];rfl,λ_=>rfl⟩
  ·have ag:b=true:=by simpa using h
   refine aV.mk s.cells ⟨rfl,_,_,_,.inr ⟨_,.head _,rfl,rfl⟩,rfl,rfl⟩ ?_;exact⟨_,_,.sub (wK _ _) .refl,a8,rfl,s,true,rfl,by rw[aC,ag],λh=>by cases h⟩
structure v8(I:aJ)(a:Option Addr)(c:Nat)(L:List bn):Prop where
 ba:cD I a L.length c 2 32 (L.flatMap bn.cells)
 ok:∀ t∈L,t.ok I/\right t=true
 n:(L.map (·.n)).sum<=549755813887
 l:L.length<=1099511627776
def auX{t:bn}(h:right t=true):tW t=(bU t).post:=by obtain⟨gG,hd⟩:=lZ h;obtain⟨r,en⟩:=eF gG;unfold tW bU;rw[en];exact aeo (jm.1 h) (by omega)
def Oh{t:bn}(h:right t=true):eY (bU t)/\jr (bU t):=by obtain⟨gG,hd⟩:=lZ h;obtain⟨r,en⟩:=eF gG;unfold bU;rw[en];exact⟨aen (jm.1 h) (by omega),aes (jm.1 h) (by omega)⟩
def agh:∀ L:List bn,(∀ t∈L,right t=true/\t.ns.length=t.n)->((L.map bU).map dG).sum<=(L.map (·.n)).sum
 |[],_=>b2 _| t::L,h=>by have aa:=agh L λt au=>h t (.tail _ au);obtain⟨ab,ai⟩:=h t (.head _);have aL:=zi ab;simp only[ca,hz];omega
def agi(bl:ff I ay){d:al}(ah:d.ok I)(ag:d.bare=d){a:Option Addr}{c:Nat}{L:List bn}(b8:v8 I a c L)(aB:Go.V.fits d L.length=true) :
  Spec Tryz.prog 112 [d.val,.slice a L.length c] I M0 (ow (some (aS.mk d (L.map bU)).lK) I M0):=by
 refine b0 [] a3 Tryz.func112 rfl rfl rfl ?_;intro B aw;have FG:=b8.n;refine bc.mk [] M0 _ (.refl _) (aqD bl ah b8.ba b8.ok (by omega) b8.l aB) ?_;rintro v J N a8⟨-,rfl,bf,rfl,jI,pQ,ey⟩;refine a5.mk (λh=>by cases h) (λ_=>?_);have Vd:eY (aS.mk d (L.map bU)):=.mk (by rw[bE];exact aB) λx ad=>by obtain⟨t,au,rfl⟩:=c0.1 ad;exact(Oh (b8.ok t au).2).1
 have zh:jr (aS.mk d (L.map bU)):=.mk ag λx ad=>by obtain⟨t,au,rfl⟩:=c0.1 ad;exact(Oh (b8.ok t au).2).2
 have dm:k7 bf (aS.mk d (L.map bU)):=by refine⟨?_,pQ⟩;rw[ey,aS.k1,gh];congr 1;exact fT λt au=>auX (b8.ok t au).2
 have fA:=dm.right Vd;have ir:=dm.bU Vd zh;have x8:bf.n<=1099511627776:=by have aa:=congrArg List.length dm.a1;rw[bE,Ds,lN]at aa;have ab:=agh L λt au=>⟨(b8.ok t au).2,(b8.ok t au).1.n⟩;have ai:=jI.n;omega
 refine bc.mk [] M0 _ (.refl _) (NU (M0:=[]) (bl.mono a8) jI fA x8) ?_;rintro v cE N cI⟨-,rfl,t2,rfl,nM,Bk⟩;refine⟨_,_,.refl,λb o h=>cI _ _ (a8 _ _ h),rfl,t2,rfl,nM,?_,Dh Vd,JU _⟩;rw[<-ir];exact Bk
def ow.agj{d:al}(bB:∀ b o,I b=some o->I' b=some o){t:bn}(au:t.ok I')(aa:t.ns=[d])(ab:t.br=0)(ag:d.bare=d)(aB:Go.V.fits d 0=true):ow (some (.mk d [])) I M0 (.tuple #[t.val,.bool true]) I' M0:=by
 have bi:eY (.mk d []):=.mk aB λc ao=>by cases ao
 refine⟨bB,rfl,t,rfl,au,⟨?_,?_⟩,bi,.mk ag λc ao=>by cases ao⟩
 ·rw[aa,aS.k1];show [d.a1]=[d.ep []];have:d.a1=d.bare:=by rw[<-ag];rfl
  rw[this];rfl
 ·rw[aa,ab];rfl
def auY(bl:ff I ay){a:Option Addr}{c:Nat}{L:List bn}(b8:v8 I a c L) :
  Spec Tryz.prog 56 [.slice a L.length c] I M0 (ow (some (rh 4 (L.map bU))) I M0):=by
 refine b0 [] a3 Tryz.func56 rfl rfl rfl ?_;intro B aw
 match L,b8 with
 |[],b8=>refine a5.mk (λ_=>?_) (λh=>absurd h (by simp));refine bc.mk [] M0 _ (.refl _) akF ?_;rintro v J N a8⟨-,t,rfl,au,aa,ab,rfl⟩;exact⟨_,_,.refl,ow.agj (d:=nothing 0) a8 au aa ab rfl (by simp[Go.V.fits,nothing,oQ,nF,jy,al.kT])⟩
 |[x],b8=>
  refine a5.mk (λh=>absurd h (by simp)) (λ_=>?_);refine a5.mk (λ_=>?_) (λh=>absurd h (by simp));obtain⟨aP,bI,bt⟩:=b8.ba.row (f:=bn.cells) (λ_=>rfl) (j:=0) (by simp) (by simp);obtain⟨ad,af⟩:=b8.ok x (.head _);have aD:=b8.n;have aD:x.n<=549755813887:=by simpa using aD
  refine bA.mk aP 0 bI rfl (by simp) ?_;refine aV.mk _ (bt _) ?_;refine bc.mk [] M0 _ (.refl _) (NU (M0:=[]) (t:=x) bl ad af (by omega)) ?_;rintro v cE N cI⟨-,rfl,t2,rfl,nM,Bk⟩;exact⟨_,_,.refl,cI,rfl,t2,rfl,nM,Bk,Dh (Oh af).1,JU _⟩
 |x::y::L,b8=>have Bl:=agi (M0:=[]) bl (NF I (k:=4) (by decide)) rfl b8 (Oe (.inl rfl) (by simp));refine a5.mk (λh=>absurd h (by simp;omega)) (λ_=>?_);refine a5.mk (λh=>absurd h (by simp;omega)) (λ_=>?_);refine bc.mk [] M0 _ (.refl _) Bl ?_;rintro v cE N cI⟨-,rfl,t2,rfl,ai⟩;exact⟨_,_,.refl,cI,rfl,t2,rfl,ai⟩
def auZ(bl:ff I ay){a:Option Addr}{c:Nat}{L:List bn}(b8:v8 I a c L) :
  Spec Tryz.prog 57 [.slice a L.length c] I M0 (ow (some (rh 5 (L.map bU))) I M0):=by
 refine b0 [] a3 Tryz.func57 rfl rfl rfl ?_;intro B aw
 match L,b8 with
 |[],b8=>refine a5.mk (λ_=>?_) (λh=>absurd h (by simp));refine bc.mk [] M0 _ (.refl _) (acC (a:=0) (b:=0) (c:=0) (d:=0) (by unfold fl;omega) (by unfold fl;omega) (by unfold fl;omega) (by unfold fl;omega)) ?_;rintro v J N a8⟨-,t,rfl,au,aa,ab,rfl⟩;exact⟨_,_,.refl,ow.agj (d:=nothing 1) a8 au aa ab rfl (by simp[Go.V.fits,nothing,oQ,nF,jy])⟩
 |[x],b8=>
  refine a5.mk (λh=>absurd h (by simp)) (λ_=>?_);refine a5.mk (λ_=>?_) (λh=>absurd h (by simp));obtain⟨aP,bI,bt⟩:=b8.ba.row (f:=bn.cells) (λ_=>rfl) (j:=0) (by simp) (by simp);obtain⟨ad,af⟩:=b8.ok x (.head _);have aD:=b8.n;have aD:x.n<=549755813887:=by simpa using aD
  refine bA.mk aP 0 bI rfl (by simp) ?_;refine aV.mk _ (bt _) ?_;refine bc.mk [] M0 _ (.refl _) (NU (M0:=[]) (t:=x) bl ad af (by omega)) ?_;rintro v cE N cI⟨-,rfl,t2,rfl,nM,Bk⟩;exact⟨_,_,.refl,cI,rfl,t2,rfl,nM,Bk,Dh (Oh af).1,JU _⟩
 |x::y::L,b8=>have Bl:=agi (M0:=[]) bl (NF I (k:=5) (by decide)) rfl b8 (Oe (.inr rfl) (by simp));refine a5.mk (λh=>absurd h (by simp;omega)) (λ_=>?_);refine a5.mk (λh=>absurd h (by simp;omega)) (λ_=>?_);refine bc.mk [] M0 _ (.refl _) Bl ?_;rintro v cE N cI⟨-,rfl,t2,rfl,ai⟩;exact⟨_,_,.refl,cI,rfl,t2,rfl,ai⟩
namespace aS
mutual
def paths:aS->List (List Int)
 |mk _ ks=>[]::v9 0 ks
def v9:Nat->List aS->List (List Int)
 |_,[]=>[]| i,c::cs=>c.paths.map (λp=>(i:Int)::p)++v9 (i+1) cs
end
def Ka(d:al)(ks:List aS):(mk d ks).paths=[]::v9 0 ks:=by rw[paths]
def Ve(i:Nat)(c:aS)(cs:List aS):v9 i (c::cs)=c.paths.map (λp=>(i:Int)::p)++v9 (i+1) cs:=by rw[v9]
def Vf(i:Nat):v9 i []=[]:=by rw[v9]
def agk(T:aS):0<T.paths.length:=by
 cases T with
 |mk d ks=>rw[Ka];simp
end aS
def kI(l:List Int):List Value:=l.map (.int .i64 ·)
def au0(I:aJ)(p:List Int)(v:Value):Prop:=∃ a c,v=.slice a p.length c/\cD I a p.length c 1 8 (kI p)/\(p.length=0->a=none)
def Vg{b c:Nat}{o:Obj}(h:c≠b):ins I b o c=I c:=by unfold ins;rw[hF h];rfl
def agl(t:bn)(k:Int)(a:Option Addr)(n c:Nat):Spec Tryz.prog 105 [t.val,.int .i64 k,.slice a n c] I [] λr I' M'=>∃ b1 bW dA,r=.func (.func 169) #[] #[ptr b1,ptr bW,ptr dA]/\I' b1=some (.cells #[.slice a n c] 38 (0,0))/\I' bW=some (.cells #[.slice t.a t.n t.c,.int .i64 t.br] 56 (0,0))/\I' dA=some (.cells #[.int .i64 k] 3 (0,0))/\(∀ b o,I b=some o->I' b=some o)/\M'=[]:=by
 refine b0 [3,4,5] a3 Tryz.func105 rfl rfl rfl ?_;intro B aw;refine bZ.mk λdA Ay Vh=>?_;refine bZ.mk λgT Fb yW=>?_;refine bZ.mk λea Cm NB=>?_;have au1:dA≠gT:=yW _ (.head _);have au2:gT≠ea:=NB _ (.head _);have au3:dA≠ea:=NB _ (.tail _ (.head _));have aL:ins I ea (.cells #[.slice a n c] 38 (0,0)) gT=none:=by rw[Vg au2];exact Fb
 have ai:ins (ins I ea (.cells #[.slice a n c] 38 (0,0))) gT (.cells #[.int .i64 k] 3 (0,0)) dA=none:=by rw[Vg au1,Vg au3];exact Ay
 refine⟨_,_,.n1 rfl (by simp) (.n1 rfl (by simp) (.n1 rfl (by simp) .refl)),ea,dA,gT,rfl,?_,pS ..,?_,λb o h=>mz ai _ _ (mz aL _ _ (mz Cm _ _ h)),rfl⟩
 ·exact mz ai _ _ (mz aL _ _ (pS ..))
 ·exact mz ai _ _ (pS ..)
def au4(a9:List Int)(T:aS)(j:Nat)(vs:List Value)(I:aJ):Prop:=∃ p v,T.paths[j]?=some p/\vs=[v]/\au0 I (a9++p) v
def kM.au5{X:c1}{F:Fr}{C:dO}{o:Oper}{K:dH->aJ->List aF->Prop}(aO:cX X.P X.E){x:Operand}{t:Nat}(aC:o.op=.call { callee:=.builtin .append,args:=#[s,x],argTypes:=#[t,t] })
  {e:Nat} (au:X.E t=some c6) (dz:c6.bQ=.slice e) (he:X.E e=some aG) (kr:aG.size=1)
  {a:Option Addr} {n c:Nat} (af:cD I a n c 1 8 (kI p)) (aw:n=0->a=none) (av:bH F s=.val (.slice (if n=0 then a else a.map (·.add (0*1))) (n-0) (n-0)))
  {b9:Nat} {cs:List Value} (ad:bH F x=.val (.slice (some ⟨b9,0,none⟩) 1 c')) (aA:cs.length=aG.size) (aa:fJ cs=true)
  (bb:(⟨b9,.cells cs.toArray e (0,0)⟩:aF)∈M) (b1:n+1<=9223372036854775807) (bW:(n+1)*aG.bytes<=140737488355328)
  (k:∀ bu:aQ,bu.n=n+1->(∀ g,bu.a=some g->I g=none/\g ∉ X.foot)->bu.ok 1 (kI p++cs)->K (.val bu.val) I (bu.ar e++M)):kM X o F C I M K:=by
 have rp:=af.len;have agm:cY I M ⟨b9,0,none⟩ (1*aG.size) cs:=by rw[oI];refine⟨rfl,_,_,_,.inr ⟨⟨b9,.cells cs.toArray e (0,0)⟩,bb,rfl,rfl⟩,?_,aA⟩;simp only[tA];exact fS (by omega)
 by_cases aD:n=0
 ·subst aD;have aH:kI p=[]:=iD (by omega);rw[aH]at k;rw[aw rfl]at av;refine .aec aO aC au dz he h3 (xs:=[]) (k0 _) (av.trans rfl) ad (by decide) agm aa (Mr:=M) (.refl _) (by unfold maxLen;exact b1) bW _ (λ_=>.refl _) λbu ab ai aL=>k bu ab (λg ax=>⟨(ai g ax).1,(ai g ax).2 rfl⟩) (by rw[kr]at aL;exact aL)
 ·rcases af.rd with h | ⟨aP,bI,de,Qq,T,an,bB,aj⟩
  ·exact absurd h aD
  rw[bP aD,bI]at av;refine .auI aO aC au dz he (sa:=aP.add (0*1)) (n:=n) (xs:=kI p) (av.trans rfl) ?_ ad (by decide) agm (by unfold maxLen;exact b1) bW _ (λ_=>.refl _) λbu ab ai aL=>k bu ab ai (by rw[kr]at aL;exact aL);rw[kr];exact⟨de,Qq,T,an,.inl bB,by simpa[Addr.add]using aj,rp⟩
def agn{t:bn}(af:right t=true)(ho:t.n<=1099511627776):∀ (m k:Nat),k<m->(ae:k<t.ns.length)->∀ {I:aJ} (au:t.ok I) {a9:List Int} {a:Option Addr} {n c:Nat} (rQ:a9.length=n) (cQ:n+k<=1099511627776) (Oi:cD I a n c 1 8 (kI a9)) (gC:n=0->a=none) {b1 bW dA:Nat} (iN:I b1=some (.cells #[.slice a n c] 38 (0,0))) (iC:I bW=some (.cells #[.slice t.a t.n t.c,.int .i64 t.br] 56 (0,0))) (Ay:I dA=some (.cells #[.int .i64 (k:Int)] 3 (0,0))),WD Tryz.prog 169 [ptr b1,ptr bW,ptr dA] I (fr t.ns k).paths.length (au4 a9 (fr t.ns k))
 |0,k,h,_,_,_,_,_,_,_,_,_,_,_,_,_,_,_,_,_=>absurd h (ng _)
 |m+1,k,Np,ae,I,au,a9,a,n,c,rQ,cQ,Oi,gC,b1,bW,dA,iN,iC,Ay=>by
  intro y R lr uZ rO dS M0 oV iM;have Uv:=au.n;refine BF [4] a3 Tryz.func169 rfl rfl rfl ?_;intro B aw;have Du:∀ (I1:aJ) (M:List aF),(∀ b o,I b=some o->I1 b=some o)->cY I1 M ⟨b1,0,none⟩ 1 [.slice a n c]:=λI1 M db=>⟨rfl,_,_,_,.inl (db _ _ iN),rfl,rfl⟩;have zd:∀ (I1:aJ) (M:List aF),(∀ b o,I b=some o->I1 b=some o)->cY I1 M ⟨bW,0,none⟩ 2 [.slice t.a t.n t.c,.int .i64 t.br]:=λI1 M db=>⟨rfl,_,_,_,.inl (db _ _ iC),rfl,rfl⟩;have au6:∀ (I1:aJ) (M:List aF),(∀ b o,I b=some o->I1 b=some o)->cY I1 M ((⟨bW,0,none⟩:Addr).add 0) 1 [.slice t.a t.n t.c]:=λI1 M db=>⟨rfl,_,_,_,.inl (db _ _ iC),rfl,rfl⟩;have NN:∀ (I1:aJ) (M:List aF),(∀ b o,I b=some o->I1 b=some o)->cY I1 M ⟨dA,0,none⟩ 1 [.int .i64 (k:Int)]:=λI1 M db=>⟨rfl,_,_,_,.inl (db _ _ Ay),rfl,rfl⟩;have bl:=zf af ae;have mo:=aS.agk (fr t.ns k);have au7:(fr t.ns k).paths[0]?=some []:=by rw[bl,aS.Ka];rfl
  refine bZ.mk λgT Fb yW=>?_;refine aV.mk [.func (.yield y) #[] #[]] (dq (cs:=[.func (.yield y) #[] #[]]) (k:=0) (n:=1) (.head _) (by simp)) ?_;refine aV.mk _ (Du _ _ oV) ?_;refine bF.yield rfl (by simp) rfl rfl ?_;have aE:=rO 0 mo [.slice a n c] dS M0 oV ⟨[],_,au7,rfl,a,c,by rw[dD,rQ],by rw[dD,rQ];exact Oi.mono oV,by rw[dD,rQ];exact gC⟩ iM;refine BQ.mk M0 [_] _ (PB _ _).symm aE ?_;rintro v eE dy gx (⟨rfl,m3⟩ | ⟨rfl,ad⟩)
  rotate_left
  ·refine a5.mk (λ_=>?_) (λh=>by simp at h);exact⟨_,_,.sub (xq _ _) .refl,.inr ad⟩
  refine a5.mk (λh=>by simp at h) (λ_=>?_);have Gk:∀ b o,I b=some o->eE b=some o:=λb o h=>gx _ _ (oV _ _ h);obtain⟨aP,bI,au8⟩:=au.ba.row al.cH (j:=k) (by omega) ae;have gu:=au.ns _ (bJ ae);have fh:=gu.az;have p0:=gu.ba.cap;refine aV.mk _ (au6 _ _ Gk) ?_;refine aV.mk _ (NN _ _ Gk) ?_;refine bA.mk aP k bI rfl (by omega) ?_;refine aV.mk _ (((au8 _).mono Gk).part (k:=8) (m:=1) (by decide)) ?_;have Dv:gT ∉ M0.map (·.num):=λhm=>by obtain⟨x,ad,e⟩:=c0.1 hm;exact yW x ad e
  refine dx.uR (ι:=Nat×Nat×aJ×List aF) (λx=>{ bp:=[(1,.val (ptr b1)),(2,.val (ptr bW)),(3,.val (ptr dA)),(4,.val (ptr gT)),(17,.val (.slice t.ns[k].cf t.ns[k].az t.ns[k].cx)),(18,.val (.int .i64 t.ns[k].az)),(19,.val (.int .i64 (x.1:Int)))],cP:=x.2.2.1,da:=x.2.2.2 }) (λx=>x.1<=t.ns[k].az/\(∀ b o,I b=some o->x.2.2.1 b=some o)/\x.2.2.1 gT=some (.cells #[.func (.yield y) #[] #[]] 210 (0,0))/\R x.2.1 x.2.2.1 x.2.2.2/\x.2.1<=(fr t.ns k).paths.length/\(fr t.ns k).paths.drop x.2.1=aS.v9 x.1 ((t.ns[k].aq.map (fr t.ns)).drop x.1)) (λx=>t.ns[k].az-x.1) ?_ ?_;·intro eS;have ago:eE gT=none:=eS.d _ (sF _ (.head _));refine⟨(0,1,ins eE gT _,dy),⟨dj _,λb o h=>mz ago _ _ (Gk _ _ h),pS ..,uZ _ _ _ _ (mz ago) m3,by simp only;omega,?_⟩,.perm (PB _ _) (.n1 rfl Dv .refl),ru,.nil⟩;simp only[tA];rw[bl,aS.Ka];rfl
  rintro⟨i,vO,J,M1⟩⟨hi,a8,lM,h',Fo,k5⟩;simp only at hi a8 lM h' Fo k5;refine a5.mk (λh=>?_) (λh=>?_)
  rotate_left
  ·have c8:¬ (i:Int)<(t.ns[k].az:Int):=dP h;have aK:(t.ns[k].aq.map (fr t.ns)).drop i=[]:=mr (by rw[bE];omega);rw[aK,aS.Vf,Hg]at k5;have:vO=(fr t.ns k).paths.length:=by omega
   subst this;exact⟨_,_,.refl,.inl h'⟩
  have a4:i<t.ns[k].az:=by have:(i:Int)<(t.ns[k].az:Int):=c5 h;omega
  have cJ:i<t.ns[k].aq.length:=by omega
  obtain⟨ac,au9,Fm⟩:=gu.ba.one a4 cJ;have vM:=ly af k ae _ (bJ cJ);obtain⟨q,aM⟩:=eF vM.1;have ayL:q<k:=by omega
  rw[aM]at Fm;have FW:(t.ns[k].aq.map (fr t.ns)).drop i=fr t.ns q::(t.ns[k].aq.map (fr t.ns)).drop (i+1):=by rw[fi (by rw[bE];exact cJ),gg,aM]
  rw[FW,aS.Ve]at k5;refine bA.mk ac i au9 rfl a4 ?_;refine aV.mk _ ((Fm _).mono a8) ?_;refine c2.Pe (λi=>Nat.beq i 0) a3 rfl rfl rfl ?_;refine aV.mk _ (zd _ _ a8) ?_;refine aV.mk _ (Du _ _ a8) ?_;refine aV.mk _ (Du _ _ a8) ?_;refine aV.mk _ (Du _ _ a8) ?_;refine OI.mk n n rfl rfl (b2 _) Oi.cap.1 ?_;refine bZ.mk λb9 m8 uv=>?_;intro G g9;refine kM.au5 a3 rfl (e:=3) rfl rfl rfl rfl (Oi.mono a8) gC (NA (g9 _ (by simp[Op.operands,Call.operands])) rfl) (b9:=b9) (cs:=[.int .i64 (i:Int)]) (NA (g9 _ (by simp[Op.operands,Call.operands])) rfl) rfl rfl (.head _) (by omega) (by show(n+1)*8<=_;omega) ?_;intro os FO adD cc;refine bc.DG [] _ _ (.refl _) (agl t q (os.a.map λg=>⟨g,0,none⟩) os.n os.c) ?_;rintro v cE oM cI uQ⟨fF,fB,l0,rfl,yN,yO,Oj,-,rfl⟩;have agp:∀ b o,I b=some o->cE b=some o:=λb o h=>cI _ _ (a8 _ _ h);have Dw:∀ b o,cE b=some o->me cE os 3 b=some o:=Gb (M:=[]) λx ad=>uQ x (by
   simp only[dD]at ad;simp[ad])
  have jG:∀ b o,I b=some o->me cE os 3 b=some o:=λb o h=>Dw _ _ (agp _ _ h);have ava:kI a9++[.int .i64 (i:Int)]=kI (a9++[(i:Int)]):=by simp[kI]
  rw[ava]at cc;have avb:(a9++[(i:Int)]).length=os.n:=by rw[cm,o5];omega
  have uY:=agn af ho m q (by omega) (by omega) (au.mono jG) (a9:=a9++[(i:Int)]) (a:=os.a.map λg=>⟨g,0,none⟩) (n:=os.n) (c:=os.c) avb (by omega) (Oa cc (by omega)) (λh=>by omega) (Dw _ _ yN) (Dw _ _ yO) (Dw _ _ Oj);refine c2.Ha (A:=tE) tE.cons a3 rfl rfl rfl (I1:=me cE os 3) (M1:=M1) (.sub ((wK _ _).append_left _) (N' λg ax=>(adD g ax).2)) uY (λk vs I h aM=>by
    obtain⟨p,v,-,rfl,-⟩:=aM;rfl) (λj I M=>R (vO+j) I M) (λex I M=>ex=.ret/\lr I M) (λk I I' M h aX=>uZ _ _ _ _ h aX) (uZ _ _ _ _ (λb o h=>Dw _ _ (cI _ _ h)) h') ?_ ?_ ?_
  ·rintro j ak vs I' M' gl⟨p,v,aH,rfl,CZ⟩rG l B aw hx;refine aV.mk [.func (.yield y) #[] #[]] ⟨rfl,_,_,_,.inl (gl _ _ (Dw _ _ (cI _ _ lM))),rfl,rfl⟩ ?_;refine bF.yield rfl (by simp) rfl rfl ?_;have eU:(fr t.ns k).paths[vO+j]?=some ((i:Int)::p):=by rw[<-nw,k5,qu (by rw[bE];exact ak),ju,aH];rfl
   have ae4:=(iz.1 eU).1;have aE:=rO (vO+j) ae4 [v] I' M' (λb o h=>gl _ _ (jG _ _ h)) ⟨_,v,eU,rfl,by rw[ec,qO]at CZ;exact CZ⟩ rG;refine BQ.mk M' [] _ (by simp) aE ?_;rintro w ls rI mA (⟨rfl,h⟩ | ⟨rfl,h⟩);·refine a5.mk (λh=>by simp at h) (λ_=>?_);exact⟨_,_,.perm (by simp) .refl,h⟩
   ·refine a5.mk (λ_=>?_) (λh=>by simp at h);exact⟨_,_,.perm (by simp) .refl,rfl,h⟩
  ·intro I' M' gl rG;refine be.mk _ (dc (i:=i) (by omega)) ?_;intro _;refine⟨(i+1,vO+(fr t.ns q).paths.length,I',M'),⟨⟨a4,λb o h=>gl _ _ (jG _ _ h),gl _ _ (Dw _ _ (cI _ _ lM)),rG,?_,?_⟩,by simp only;omega⟩,.refl,ru,.nil⟩
   ·have:=congrArg List.length k5;rw[qw,cm,bE]at this;have:=(fr t.ns q).agk;simp only;omega
   ·simp only;rw[<-DU,k5,Hh (by rw[bE])]
  ·rintro ex I' M' gl⟨rfl,h⟩;exact⟨by simp,_,_,.refl,.inr h⟩
structure jt where
 rule:Nat
 path:List Int
 a:Option Addr
 c:Nat
def jt.cells(x:jt):List Value:=[.int .i64 x.rule,.slice x.a x.path.length x.c]
def jt.cH(x:jt):x.cells.length=2:=rfl
structure jt.ok(I:aJ)(x:jt):Prop where
 ba:cD I x.a x.path.length x.c 1 8 (kI x.path)
def jt.ok.mono{x:jt}(h:x.ok I)(bB:∀ b o,I b=some o->I' b=some o):x.ok I':=⟨h.ba.mono bB⟩
def jt.nu(x:jt):Nat×List Int:=(x.rule,x.path)
def kj:Nat->List a0->List (Nat×List Int)
 |_,[]=>[]| i,d::ds=>(bU d.t).paths.map (λp=>(i,p))++kj (i+1) ds
def Vi:∀ (ds:List a0) (d:a0) (i:Nat),kj i (ds++[d])=kj i ds++(bU d.t).paths.map (λp=>(i+ds.length,p))
 |[],d,i=>by simp[kj]
 |e::ds,d,i=>by rw[pN,kj,kj,Vi ds d (i+1),ec,eo,show i+1+ds.length=i+(ds.length+1) by omega]
def avc(l:List aT):(l.flatMap aT.cZ).length=(l.map λc=>c.cZ.length).sum:=by rw[yp]
def agq:∀ (i:Nat) (l:List aS),(aS.v9 i l).length=(l.map λc=>c.paths.length).sum
 |_,[]=>by rw[aS.Vf];rfl
 |i,c::l=>by rw[aS.Ve,cm,bE,agq (i+1) l];rfl
def avd(ns:List al):∀ T:aT,(T.bare ns).paths.length=T.cZ.length:=by
 intro T
 induction T using aT.ind with
 |h k ks aN=>rw[aT.nq,aS.Ka,aT.mK,eo,agq,cm,avc,gh,o5];congr 2;exact fT λc ao=>aN c ao
def ave{t:bn}(h:hf t):(bU t).paths.length<=t.ns.length:=by obtain⟨T,aa,ab,ai,aL,bq⟩:=h.Gc;rw[ai,avd];exact bq
def Ok:∀ (ds:List a0) (i:Nat),(∀ d∈ds,right d.t=true)->(kj i ds).length<=(ds.map λd=>d.t.ns.length).sum
 |[],_,_=>b2 _| d::ds,i,h=>by have aa:=ave (jm.1 (h d (.head _)));have ab:=Ok ds (i+1) λe he=>h e (.tail _ he);rw[kj,cm,bE,ca,hz];omega
def avf(ds:List a0)(n:Nat):((ds.take n).map λd=>d.t.ns.length).sum<=(ds.map λd=>d.t.ns.length).sum:=by
 conv=>rhs;rw[<-pM n ds,cS,pO]
 omega
def avg(bl:ff I ay)(ax:g.ok I)(ag:(g.ds.map λd=>d.t.ns.length).sum<=1048576):Spec Tryz.prog 51 [g.val] I [] λv I' M'=>(∀ b o,I b=some o->I' b=some o) /\
  ∃ (os:aQ) (L:List jt),v=os.val/\os.ok 2 (L.flatMap jt.cells)/\(∀ x∈L,x.ok I')/\M'=os.ar 77/\L.map jt.nu=if du ay g=0 then kj 0 g.ds else []:=by
 refine b0 [3,4] a3 Tryz.func51 rfl rfl rfl ?_;intro B aw;have hL:=ax.n;have hy:=ax.ba.cap;refine bc.mk [] [] _ (.refl _) (X6 bl ax) ?_;rintro v J N -⟨rfl,a8,rfl⟩;refine a5.mk (λh=>?_) (λh=>?_)
 ·have hm:du ay g≠0:=by have:(!decide (du ay g=0))=true:=h;simpa using this
  refine⟨_,_,.refl,a8,h3,[],rfl,k0 2,(λx ad=>by cases ad),rfl,?_⟩;rw[bP hm];rfl
 have hm:du ay g=0:=by have:(!decide (du ay g=0))=false:=h;simpa using this
 have af:∀ d∈g.ds,right d.t=true:=λd ah=>by have:=fV.1 (JC.1 hm).2.1 d ah;rw[cw]at this;exact(Uq.1 this.2).1
 refine bZ.mk λdA Ay Vh=>?_;refine dx.inv (ι:=Nat×aQ×List jt×aJ) (λx=>{ bp:=[(1,.ref 1 0),(3,.val (ptr dA)),(11,.val (.slice g.a g.n g.c)),(12,.val (.int .i64 g.n)),(13,.val (.int .i64 (x.1:Int)))],cl:=[(1,[.slice g.a g.n g.c])],cP:=x.2.2.2,da:=⟨dA,.cells #[x.2.1.val] 74 (0,0)⟩::x.2.1.ar 77 }) (λx=>x.1<=g.n/\(∀ b o,I b=some o->x.2.2.2 b=some o)/\x.2.1.ok 2 (x.2.2.1.flatMap jt.cells)/\(∀ y∈x.2.2.1,y.ok x.2.2.2)/\x.2.2.1.map jt.nu=kj 0 (g.ds.take x.1)) (λx=>g.n-x.1) ?_ ?_
 ·exact⟨(0,h3,[],J),⟨dj _,a8,k0 2,(λy aE=>by cases aE),rfl⟩,.refl,il,.cons rfl (.nil)⟩
 rintro⟨i,os,L,K⟩⟨hi,eG,cc,b8,nX⟩;simp only at hi eG cc b8 nX;refine a5.mk (λh=>?_) (λh=>?_)
 rotate_left
 ·have c8:¬ (i:Int)<(g.n:Int):=dP h;refine aV.mk [os.val] (dq (cs:=[os.val]) (k:=0) (n:=1) (T:=74) (.head _) (by simp)) ?_;refine⟨_,_,.sub (wK _ _) .refl,eG,os,L,rfl,cc,b8,rfl,?_⟩;rw[bT hm,nX,fS (by omega)]
 have a4:i<g.n:=by have:(i:Int)<(g.n:Int):=c5 h;omega
 have cJ:i<g.ds.length:=by omega
 obtain⟨aP,bI,bt⟩:=ax.ba.row a0.cH a4 cJ;have ah:=ax.ds _ (bJ cJ);have AH:=af _ (bJ cJ);have m1:g.ds.take (i+1)=g.ds.take i++[g.ds[i]]:=gH cJ;have FP:=Ok (g.ds.take (i+1)) 0 λd ah=>af d (u5 ah);have r9:=avf g.ds (i+1);rw[m1,Vi,cm,bE,<-nX,bE]at FP;rw[m1]at r9;have ho:=ah.t.n;obtain⟨gG,hd⟩:=lZ AH;obtain⟨r,en⟩:=eF gG;have ayM:g.ds[i].t.ns.length<=1048576:=by rw[cS,pO]at r9;simp only[ca,hH,hz,B0]at r9;omega
 generalize u3:g.ds[i]=d at *;obtain⟨Jh,⟨ns,z7,ym,z8,jH⟩⟩:=d;refine bA.mk aP i bI rfl a4 ?_;refine aV.mk _ ((bt _).mono eG) ?_;refine bZ.mk λgT Fb yW=>?_;refine cd.mk [] (⟨dA,.cells #[os.val] 74 (0,0)⟩::os.ar 77) #[.int .i64 0] 3 rfl rfl (bK rfl) rfl ?_;refine bc.DG [] _ _ (.refl _) (agl ⟨ns,z7,ym,z8,jH⟩ jH none 0 0) ?_;rintro v cE oM cI uQ⟨fF,fB,l0,rfl,yN,yO,Oj,-,rfl⟩;have lM:cE gT=none:=uQ _ (.head _);have za:∀ b o,cE b=some o->ins cE gT (.cells #[.int .i64 (i:Int)] 3 (0,0)) b=some o:=mz lM;have agr:∀ b o,I b=some o->ins cE gT (.cells #[.int .i64 (i:Int)] 3 (0,0)) b=some o:=λb o h=>za _ _ (cI _ _ (eG _ _ h));have kS:=ah.t.mono agr;have Vj:ns.length=ym:=ho;have eJ:r<ns.length:=by have ayN:jH<(ns.length:Int):=hd;have ayO:jH=(r:Int):=en;omega
 rw[show jH=(r:Int)from en]at Oj;have uY:=agn AH (by omega) (r+1) r (Bo _) eJ kS (a9:=[]) (a:=none) (n:=0) (c:=0) rfl (by omega) ⟨rfl,⟨b2 _,by omega⟩,.inl rfl⟩ (λ_=>rfl) (za _ _ yN) (za _ _ yO) (za _ _ Oj);have ir:bU ⟨ns,z7,ym,z8,jH⟩=fr ns (r:Int):=by unfold bU;rw[show jH=(r:Int)from en]
 have ayP:L.length+(fr ns (r:Int)).paths.length<=1048576:=by have aa:L.length+(bU ⟨ns,z7,ym,z8,jH⟩).paths.length<=_:=FP;rw[ir]at aa;omega
 refine c2.Ha (A:=tE) tE.cons a3 rfl rfl rfl (I1:=ins cE gT (.cells #[.int .i64 (i:Int)] 3 (0,0))) (M1:=⟨dA,.cells #[os.val] 74 (0,0)⟩::os.ar 77) (.n1 rfl (by simp) .refl) uY (λk vs I h aM=>by
   obtain⟨p,v,-,rfl,-⟩:=aM;rfl) (λj I' M'=>∃ (e4:aQ) (jE:List jt),M'=⟨dA,.cells #[e4.val] 74 (0,0)⟩::e4.ar 77/\e4.ok 2 (jE.flatMap jt.cells)/\(∀ y∈jE,y.ok I')/\jE.map jt.nu=kj 0 (g.ds.take i)++((fr ns (r:Int)).paths.take j).map λp=>(i,p)) (λex I M=>False)
  (λk I I' M h ⟨e4,jE,aa,ab,ai,aL⟩=>⟨e4,jE,aa,ab,λy aE=>(ai y aE).mono h,aL⟩) ⟨os,L,rfl,cc,λy aE=>(b8 y aE).mono (λb o h=>za _ _ (cI _ _ h)),by simpa using nX⟩ ?_ ?_ (λex I' M' _ h=>h.elim)
 ·rintro j ak vs I' M' gl⟨p,v,aH,rfl,a,c,rfl,ags,gC⟩⟨e4,jE,rfl,kF,oi,zj⟩l B aw hx;rw[hX]at ags gC;simp only[hX];have bq:=congrArg List.length zj;rw[bE,cm,bE,fR,<-nX,bE]at bq;have b':=kF.len;rw[gL _ 2 jt.cH]at b';refine aV.mk [e4.val] (dq (cs:=[e4.val]) (k:=0) (n:=1) (T:=74) (.head _) (by simp)) ?_;refine aV.mk [.int .i64 (i:Int)] ⟨rfl,_,_,_,.inl (gl _ _ (pS ..)),rfl,rfl⟩ ?_;refine bZ.mk λb9 m8 uv=>?_;refine bF.l7 a3 rfl (by simp) (e:=77) rfl rfl rfl e4 kF rfl (cs:=[.int .i64 (i:Int),.slice a p.length c]) rfl rfl rfl [_] [] (by rw[dD];rfl) (by omega) (by show(e4.n+1)*32<=_;omega) ?_;intro fO aa ab ai;refine cd.mk [] (fO.ar 77++[]) #[e4.val] 74 rfl rfl (bK rfl) rfl ?_;refine⟨_,_,.l6 (by rw[dD];rfl),fO,jE++[⟨i,p,a,c⟩],rfl,?_,?_,?_⟩
  ·rw[fX,o0];exact ai
  ·intro y aE;rcases cC.1 aE with aE | aE
   ·exact oi y aE
   ·rw[eC.1 aE];exact⟨ags⟩
  ·obtain⟨tH,f'⟩:=iz.1 aH;rw[cS,zj,gH tH,cS,f',ec];rfl
 ·rintro I' M' gl⟨e4,jE,rfl,kF,oi,zj⟩;refine be.mk _ (dc (i:=i) (by omega)) ?_;refine⟨(i+1,e4,jE,I'),⟨⟨a4,λb o h=>gl _ _ (agr _ _ h),kF,oi,?_⟩,by simp only;omega⟩,.refl,il,.cons rfl (.nil)⟩;simp only;rw[zj,m1,Vi,fS (b2 _),<-ir,fR,dp,pC (by omega)]
def agt{t:bn}(au:t.ok I)(af:right t=true)(aD:t.n<=1099511627776):vz t:=λd ah=>by have aX:=jm.1 af;obtain⟨j,ak,rfl⟩:=hM ah;obtain⟨T,aa,ab,-,aL⟩:=aX.lt ak;have ae:=ab.w1;rw[aa,gy ak]at ae;have bq:=Nu aL λx ad=>ab.lt x ad;have b':=FY T;have dZ:=A8 T.sub;have eX:=(au.ns _ (bJ ak)).az;have dT:=au.n;rw[ae]at eX;simp only[e3,bE]at eX;omega
def Vk(hm:du ay g=0)(aD:∀ d∈g.ds,d.t.n<=549755813888):UZ g:=⟨λd ah=>pz hm ah,aD⟩
end Go.V
