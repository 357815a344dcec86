/- Part 9 of what the proofs of this seat share: the executor, data in memory, walks.
-/
import Derived.Test.YtjaibbcbjfapaaaGreatDoorK4
import Derived.Test.YtjaibbcbjfapaaaGreatDoorK8
import Derived.Test.YtjaibbcbjfapaaaGreatDoorK2
import Derived.Test.YtjaibbcbjfapaaaGreatDoorK5
import Derived.Test.YtjaibbcbjfapaaaGreatDoorK3
import Derived.Lib.SliceRun
import Derived.Test.YtjaibbcbjfapaaaGreatDoorK7
import Derived.Test.YtjaibbcbjfapaaaGreatDoorK6
set_option linter.all false
set_option maxHeartbeats 8000000
set_option maxRecDepth 100000
namespace Go.V
open Go
def aew:=@List.eq_nil_iff_forall_not_mem
variable{s x:Operand}{t be:bf}{u m b9 c' n c size b j r pn pc:Nat}{dd aH:dV}{xs cb cs:List Value}{S T:aU}{I J I':aI}{os:aO}{ns eh:List ak}{a pa sa:Option Addr}{l:List aU}{path aB p:List Int}{F df:List a0}{M M0:List aD}{g h:cR}{rule k w:Int}{pl:List (ByteArray×Int)}{ad:Addr}{K:dK->aI->List aD->Prop}
section
variable{X:c3}{β:Nat->Nat}{a:Act}{w:World}{F:Fr}{C:dB}{I:aI}{M:List aD}{o:Oper}{K:gx}
theorem asC(aQ:cX X.P X.E){t:Nat}(aG:o.op=.call { callee:=.builtin .append,args:=#[s,x],argTypes:=#[t,u] })(aj:∀ d,o.dst=some d->d<X.n)
  {e:Nat} {mE:dV} (au:X.E t=some dd) (dA:dd.bM=.slice e) (hu:X.E u=some mE) (fP:∀ k,mE.bM≠.int k) (he:X.E e=some aH)
  (os:aO) (bl:os.ok aH.size xs) (aw:bI F s=.val os.val)
  {qy:Value} (ae:bI F x=.val qy) (hm:0<m) (ay:cb.length=m*aH.size) (aa:fG cb=true)
  (c0:∀ w',(Builtin.lenOf qy).run X.P w'=.ok m w') (e3:∀ w,eJ I M w->(Builtin.firstCells aH.size m qy).run X.P w=.ok cb.toArray w)
  {Mr:List aD} (bd:M.Perm (os.aq e++Mr)) (b1:os.n+m<=maxLen) (b8:(os.n+m)*aH.bytes<=140737488355328)
  (k:∀ (g c:Nat) (aR:List Value) (J:List aD),I g=none->aR.length=c*aH.size->os.n+m<=c->c<=maxLen->aR.take ((os.n+m)*aH.size)=xs++cb->((os.a=some g/\J=[])\/J=os.aq e) ->
   K (put o.dst (.val (.slice (some ⟨g,0,none⟩) (os.n+m) c)) F) C I (⟨g,.cells aR.toArray e (0,0)⟩::(J++Mr))):bz X o F C I M K:=by
 refine⟨λa w Q ⟨β,iT⟩=>?_⟩;have aZ:cT X β a w F C I (os.aq e++Mr):=iT.h6 (.perm bd .refl);obtain⟨inf,z,hi,fp,hs,h8,j'⟩:=(aQ _ _ he).inf;obtain⟨d,fQ,eZ⟩:=(aQ _ _ hu).fA;obtain⟨g7,iu,k2⟩:=(aQ _ _ au).fA;have oY:g7=.slice e:=by rw[dA]at k2;cases g7<;>simp_all[fz]
 subst oY;have qB:z.cells.size=inf.size:=by rw[fp,<-(aQ _ _ he).len,<-j'];simp
 rw[<-fp]at bl ay e3;obtain⟨g,c,aR,w',fk,bb,bh,b2,gg,oc⟩:=O0 (P:=X.P) (w:=w) t u o.type e inf z iu fQ (λk cY=>fP k ask) hi h8 qB bl (λg az=>aZ.holds.m ⟨g,.cells os.aR.toArray e (0,0)⟩ lm) (x:=qy) hm ay (zh aa) c0 (λw' xX=>e3 w' (iT.holds.heap xX)) b1 as';rw[fp]at bb gg;have zK:I g=none:=by
  rcases oc with⟨az,_⟩ | ⟨rfl,_⟩;·exact aZ.holds.d ⟨g,.cells os.aR.toArray e (0,0)⟩ lm
  ·cases bG:I w.heap.size with
   |none=>rfl| some nM=>have:=aZ.holds.i _ _ bG;simp at this
 have es:=dt aZ.ap aw;have ex:=dt aZ.ap ae;rcases oc with⟨az,hw⟩ | ⟨rfl,hw⟩
 ·refine iQ f9 (v:=.slice (some ⟨g,0,none⟩) (os.n+m) c) (w':=w') ?_ ⟨_,_,_,_,⟨β,cT.put (x:=.val (.slice (some ⟨g,0,none⟩) (os.n+m) c)) ?_ aj rfl⟩,k g c aR [] zK bb bh b2 gg (.inl ⟨az,rfl⟩)⟩
  ·unfold execOp;simp only[aG,resolve,invoke,builtin,cz,dn,cd,rs,ch,hd,es,ex,fk]
  ·subst hw;have ah:os.aq e=[⟨g,.cells os.aR.toArray e (0,0)⟩]:=by simp[aO.aq,az]
   rw[ah]at aZ;exact aZ.xK (ba:=[]) (post:=Mr) rfl
 ·refine iQ f9 (v:=.slice (some ⟨_,0,none⟩) (os.n+m) c) (w':=w') ?_ ⟨_,_,_,_,⟨β,cT.put (x:=.val (.slice (some ⟨_,0,none⟩) (os.n+m) c)) ?_ aj rfl⟩,k _ c aR (os.aq e) zK bb bh b2 gg (.inr rfl)⟩
  ·unfold execOp;simp only[aG,resolve,invoke,builtin,cz,dn,cd,rs,ch,hd,es,ex,fk]
  ·subst hw;have ab:cT X β a w.drew F C I (os.aq e++Mr):=aZ.world rfl;exact ab.n' (.cells aR.toArray e (0,0))
def bz.aex(aQ:cX X.P X.E){t:Nat}(aG:o.op=.call { callee:=.builtin .append,args:=#[s,x],argTypes:=#[t,t] })(aj:∀ d,o.dst=some d->d<X.n)
  {e:Nat} (au:X.E t=some dd) (dA:dd.bM=.slice e) (he:X.E e=some aH)
  (os:aO) (bl:os.ok aH.size xs) (aw:bI F s=.val os.val)
 (ae:bI F x=.val (.slice (some ⟨b9,0,none⟩) 1 c')) (ay:cs.length=aH.size) (aa:fG cs=true)
  (ba post:List aD) (bd:M=⟨b9,.cells cs.toArray e (0,0)⟩::(ba++(os.aq e++post))) (b1:os.n+1<=9223372036854775807) (b8:(os.n+1)*aH.bytes<=140737488355328)
  (k:∀ (br:aO) (J:List aD),br.n=os.n+1->(∀ g,br.a=some g->I g=none)->br.ok aH.size (xs++cs)->(∀ g∈(os.aq e).map (·.num),g∈(br.aq e++J).map (·.num))->K (put o.dst (.val br.val) F) C I (ba++(br.aq e++(J++post)))):bz X o F C I M K:=by
 refine .h6 (asC aQ aG aj au dA au (λk=>by rw[dA];simp) he os bl aw ae (m:=1) (cb:=cs) bv (by rw[m6];exact ay) aa (λ_=>rfl) (λw hw=>?_) (Mr:=⟨b9,.cells cs.toArray e (0,0)⟩::(ba++post)) ?_ t9 b8 ?_)
 ·refine run_firstCells_some (P:=X.P) w aH.size 1 ⟨b9,0,none⟩ 1 c' cs (by rw[m6];exact ay) λj v ai=>?_;have ah:w.heap[b9]?=some (.cells cs.toArray e (0,0)):=hw.m ⟨b9,.cells cs.toArray e (0,0)⟩ ayX;rw[eK _ rfl,th ah];simpa using ai
 ·rw[bd];have ab:(⟨b9,.cells cs.toArray e (0,0)⟩::(ba++(os.aq e++post)):List aD).Perm (⟨b9,.cells cs.toArray e (0,0)⟩::(os.aq e++(ba++post))):=.cons _ (wM _ _ _);exact ab.trans lL.symm
 ·intro g c aR J bG ee eO eS jq a6;refine⟨I,ba++((⟨some g,os.n+1,c,aR⟩:aO).aq e++(J++post)),.perm (M1:=⟨b9,.cells cs.toArray e (0,0)⟩::(ba++((⟨some g,os.n+1,c,aR⟩:aO).aq e++(J++post)))) ?_ (.sub (.cons _ (.refl _)) .refl),k ⟨some g,os.n+1,c,aR⟩ J rfl (λet az=>by cases az;exact bG) ⟨?_,(λh=>ci),λet az=>?_⟩ λx ae=>?_⟩
  ·have aN:((⟨some g,os.n+1,c,aR⟩:aO).aq e)=[⟨g,.cells aR.toArray e (0,0)⟩]:=rfl;rw[aN];have BU:(⟨g,.cells aR.toArray e (0,0)⟩::(J++(⟨b9,.cells cs.toArray e (0,0)⟩::(ba++post))):List aD).Perm (⟨b9,.cells cs.toArray e (0,0)⟩::(⟨g,.cells aR.toArray e (0,0)⟩::(J++(ba++post)))):=(List.Perm.cons _ lL).trans (List.Perm.swap _ _ _);refine BU.trans (List.Perm.cons _ ?_);have BV:(⟨g,.cells aR.toArray e (0,0)⟩::(J++(ba++post)):List aD).Perm (⟨g,.cells aR.toArray e (0,0)⟩::(ba++(J++post))):=List.Perm.cons _ (wM _ _ _);exact BV.trans lL.symm
  ·rw[ct,bl.len,ay,kD,m6]
  ·cases az;exact⟨ee,eO,eS,jq⟩
  ·rw[cJ,cW];rcases a6 with⟨aa,rfl⟩ | rfl
   ·left
    have:os.aq e=[⟨g,.cells os.aR.toArray e (0,0)⟩]:=by simp[aO.aq,aa]
    rw[this]at ae;simpa[aO.aq]using ae
   ·exact .inr ae
end
open Go Go.Proofs
structure JB(ns:List ak)(I:aI)(os:aO)(eh:List ak)(J:aI):Prop where
 a6:∀ b o,I b=some o->J b=some o
 os:os.ok 9 (eh.flatMap ak.cells)
 ok:∀ d∈eh,d.ok J
 ba:∃ m,eh=ns++m
def y7(os br:aO)(jc:List aD):Prop:=∀ g∈(os.aq 88).map (·.num),g∈(br.aq 88++jc).map (·.num)
def asD(S:aP)(tns ns:List ak)(qe:List Nat)(os:aO)(I:aI)(v:Value)(I':aI)(M':List aD):Prop:=
 ∃ (br:aO) (jz:List ak) (jc:List aD),v=.tuple #[br.val,.int .i64 ((jz.length-1:Nat):Int)]/\M'=br.aq 88++jc/\y7 os br jc/\JB ns I br jz I'/\mr jz ((jz.length-1)::qe)/\jz.length=ns.length+S.c5.length/\∃ mB:aP,mB.bs=jz.length-1/\cI jz mB/\mB.bare jz=S.bare tns
def FZ(da len e j:Nat):Int:=((da+len-1-(e+j):Nat):Int)
def asE{S:aP}{q:List aP}(h:q=S::q.flatMap aP.sub)(i:Nat):fl q i<=q.length:=by
 have aa:=congrArg List.length h;have e:q.flatMap aP.sub=(q.take i).flatMap aP.sub++(q.drop i).flatMap aP.sub:=by rw[<-fL,pO]
 rw[ey,e,ct]at aa;unfold fl;omega
structure asF(da len e aA:Nat)(y:Nat×List Int):Prop where
 j:y.1<=aA
 L:y.2.length=aA
 eq:y.2.take y.1=(List.range y.1).map (FZ da len e)
def aey(au:t.ok I)(aC:∀ d∈t.ns,fits d d.ao.length=true){S:aP}(cQ:cI t.ns S)(bV:os.ok 9 (ns.flatMap ak.cells))(kT:∀ d∈ns,d.ok I){qe:List Nat}(az:mr ns qe)(ah:ns.length+S.c5.length<=1099511627776) :
  Spec Tryz.prog 215 [os.val,t.val,.int .i64 S.bs] I (os.aq 88) (asD S t.ns ns qe os I):=by
 refine wg [] aT Tryz.func215 rfl rfl rfl ?_;intro B ax;have gu:=au.n;have gK:os.n=ns.length:=by have:=bV.len;rw[gz _ 9 ak.cq]at this;omega
 refine bN.mk λb1 iU TO=>?_;refine c2.inv (ι:=Nat×aO×List aP) (λx=>{ bn:=[(0,.val os.val),(4,.ref 4 0),(8,.val x.2.1.val),(9,.val (.int .i64 x.1))],cl:=[(4,t.cells)],cm:=I,cK:=x.2.1.aq 3++os.aq 88 }) (λx=>vL S x.2.2 x.1/\x.2.1.ok 1 ((e7 x.2.2).map (.int .i64 ·))/\∀ c∈x.2.2,cI t.ns c) (λx=>S.c5.length-x.1) ?_ ?_
 ·refine⟨(0,⟨some b1,1,1,[.int .i64 S.bs]⟩,[S]),⟨vL.start S,⟨rfl,(λh=>ci),λet jF=>⟨rfl,cf _,ayU,rfl⟩⟩,λc ar=>?_⟩,.refl,dS,.cons rfl (.nil)⟩;rw[ep.1 ar];exact cQ
 rintro⟨i,ro,q⟩⟨bG,iA,fa⟩;simp only at bG iA fa;obtain⟨uL,wH⟩:=bG.len;have hv:=iA.nX;simp only[e7,bA]at hv;refine aS.mk (λh=>?_) (λh=>?_)
 ·have aV:i<q.length:=by have:(i:Int)<(ro.n:Int):=cv h;omega
  have gk:=fa _ (bD aV);have Dp:=gk.nz;obtain⟨Ub,Uc,dD⟩:=aO.yf (I:=I) (e:=3) (M:=ro.aq 3++os.aq 88) iA (λx ae=>f0) (j:=i) (by simp[e7,aV]);have y2:(e7 q)[i]'(by simp[e7,aV])=(q[i].bs:Int):=by simp[e7]
  rw[y2]at dD;obtain⟨k8,k9,A6⟩:=au.a'.row ak.cq (j:=q[i].bs) Z Dp;have aj:=au.ns _ (bD Dp);have eH:=gk.AY;rw[fw Dp]at eH;generalize t.ns[q[i].bs]=d at aj A6 eH;have eF:=aj.aA;have mL:=aj.a'.cap;have cL:d.ao.length=q[i].sub.length:=by rw[eH];simp[e7]
  have fB:=bG.step aV;obtain⟨uM,Mq⟩:=fB.len;rw[ct]at Mq;refine cN.draw aT rfl rfl rfl ?_;refine bi.mk Ub i Uc rfl (by show i<ro.n;omega) ?_;refine aJ.mk _ dD ?_;refine bi.mk k8 q[i].bs k9 rfl Z ?_;refine aJ.mk _ ((A6 _).part (k:=8) (m:=1) bv) ?_;refine bz.w0 aT rfl am (e:=3) rfl rfl rfl ro iA rfl (sa:=d.bX) (m:=d.aA) (c':=d.b5) (cb:=d.ao.map (.int .i64 ·)) rfl (by rw[bA,eF];show _=d.aA*1;omega) (λax=>aj.a'.vD _ ax) (Dd _) [] (os.aq 88) rfl Z (by show(ro.n+d.aA)*8<=_;omega) ?_;intro pd acO acP iu;rw[<-cJ,eH,<-FW]at iu;refine a3.mk _ (cC (i:=i) Z) ?_;refine⟨(i+1,pd,q++q[i].sub),⟨⟨fB,iu,λc ar=>?_⟩,ce⟩,.refl,dS,.cons rfl (.nil)⟩;rcases cW.1 ar with ar | ar;·exact fa c ar
  ·exact gk.AZ c ar
 ·have cM:i=q.length:=by have:¬ (i:Int)<(ro.n:Int):=db h;have:=bG.hi;omega
  subst cM;obtain⟨aM,aV,hA⟩:=bG.done;have x6:0<q.length:=by rw[aM];simp
  refine a3.mk ((q.length:Int)-1) (by show IntKind.i64.wrap ((ro.n:Int)-1)=_;rw[wrap_i64 ⟨Z,Z⟩,hv]) ?_;refine c2.rc (ι:=Nat×aO×List ak×aI×List aD) (λx=>{ bn:=[(0,.val x.2.1.val),(4,.ref 4 0),(8,.val ro.val),(10,.val (.int .i64 (fl q x.1))),(11,.val (.int .i64 ((x.1:Int)-1)))],cl:=[(4,t.cells)],cm:=x.2.2.2.1,cK:=x.2.1.aq 88++(x.2.2.2.2++ro.aq 3) }) (λx=>xv t.ns ns.length qe q x.1 x.2.2.1/\JB ns I x.2.1 x.2.2.1 x.2.2.2.1/\y7 os x.2.1 x.2.2.2.2) (λx=>x.1) ?_ ?_;·intro _;refine⟨(q.length,os,ns,I,[]),⟨xv.start aM az,⟨λ_ _ h=>h,bV,kT,[],am⟩,λg az=>by rw[dE];exact az⟩,.perm eM .refl,.cons .refl (.cons .refl (.cons .refl (.cons ?_ (.cons .refl (.nil))))),.cons rfl (.nil)⟩;simp only;rw[ael aM,<-hv];exact .refl
  rintro⟨i,no,eh,J,jc⟩⟨hc,fB,yc⟩;simp only at hc fB yc;have gn:=hc.len;have eV:=fB.os;have Ud:no.n=eh.length:=by have:=eV.len;rw[gz _ 9 ak.cq]at this;omega
  refine aS.mk (λh=>?_) (λh=>?_)
  ·have aez:(0:Int)<=(i:Int)-1:=cv h;obtain⟨z,rfl⟩:∃ z,i=z+1:=⟨i-1,Z⟩;have x0:z<q.length:=hc.hi;have gk:=fa _ (bD x0);have Dp:=gk.nz;obtain⟨Ub,Uc,dD⟩:=aO.yf (I:=J) (e:=3) (M:=no.aq 88++(jc++ro.aq 3)) iA (λx ae=>f0) (j:=z) (by simp[e7,x0]);have y2:(e7 q)[z]'(by simp[e7,x0])=(q[z].bs:Int):=by simp[e7]
   rw[y2]at dD;obtain⟨k8,k9,A6⟩:=(au.a'.mono fB.a6).row ak.cq (j:=q[z].bs) Z Dp;have aj:=(au.ns _ (bD Dp)).mono fB.a6;have eH:=gk.AY;have jL:=fw Dp;rw[jL]at eH;generalize t.ns[q[z].bs]=d at aj A6 eH jL;have eF:=aj.aA;have mL:=aj.a'.cap;have cL:d.ao.length=q[z].sub.length:=by rw[eH];simp[e7]
   refine cN.draw aT rfl rfl rfl ?_;refine bi.mk Ub z Uc (by show((z+1:Nat):Int)-1=z;omega) (by show z<ro.n;omega) ?_;refine aJ.mk _ dD ?_;refine bi.mk k8 q[z].bs k9 rfl Z ?_;refine aJ.mk _ (A6 _) ?_;refine bN.mk λfc Qi aeA=>?_;refine b'.mk [] (no.aq 88++(jc++ro.aq 3)) _ _ rfl rfl (bJ rfl) rfl ?_;refine aJ.mk [.slice d.bX d.aA d.b5] (dj (cs:=d.cells) (k:=8) (n:=1) (T:=88) (.head _) (bJ rfl)) ?_;have Eb:=aek x0;have aeB:=asE aM (z+1);refine n9.mk d.aA d.aA rfl rfl (cf _) aq' Z ?_;refine bN.mk λkn akc axO=>?_;refine a3.mk ((fl q z:Nat):Int) (by show IntKind.i64.wrap (((fl q (z+1):Nat):Int)-(d.aA:Int))=_;rw[wrap_i64 ⟨Z,Z⟩];omega) ?_;have Tf:(rowOf [Value.int .i64 0] (d.aA*1))=(List.replicate d.aA (0:Int)).map (Value.int .i64):=by rw[xY,xT,gm]
   refine c2.inv (ι:=Nat×List Int) (λy=>{ bn:=[(0,.val no.val),(4,.ref 4 0),(8,.val ro.val),(10,.val (.int .i64 (fl q z))),(11,.val (.int .i64 (((z+1:Nat):Int)-1))),(12,.val (ptr fc)),(13,.val (.slice (some ⟨kn,0,none⟩) d.aA d.aA)),(60,.val (.int .i64 d.aA)),(61,.val (.int .i64 y.1))],cl:=[(4,t.cells)],cm:=J,cK:=cV kn y.2::⟨fc,.cells d.cells.toArray 88 (0,0)⟩::(no.aq 88++(jc++ro.aq 3)) }) (asF ns.length q.length (fl q z) d.aA) (λy=>d.aA-y.1) ?_ ?_;·refine⟨(0,List.replicate d.aA 0),⟨dh _,zx,rfl⟩,.mc ?_,l3,.cons rfl (.nil)⟩;rw[Tf];rfl
   rintro⟨j,L⟩⟨ai,ca,vx⟩;simp only at ai ca vx;refine aS.mk (λab=>?_) (λab=>?_)
   ·have fY:j<d.aA:=by have:(j:Int)<(d.aA:Int):=cv ab;omega
    refine a3.mk (((no.n+z:Nat)):Int) (by show IntKind.i64.wrap ((no.n:Int)+(((z+1:Nat):Int)-1))=_;rw[wrap_i64 ⟨Z,Z⟩];omega) ?_;refine a3.mk (((fl q z+j:Nat)):Int) (by show IntKind.i64.wrap (((fl q z:Nat):Int)+(j:Int))=_;rw[wrap_i64 ⟨Z,Z⟩];omega) ?_;refine a3.mk (FZ ns.length q.length (fl q z) j) (by show IntKind.i64.wrap (((no.n+z:Nat):Int)-((fl q z+j:Nat):Int))=_;rw[wrap_i64 ⟨Z,Z⟩];unfold FZ;omega) ?_;refine bi.mk ⟨kn,0,none⟩ j rfl rfl fY ?_;refine b'.iC [] (⟨fc,.cells d.cells.toArray 88 (0,0)⟩::(no.aq 88++(jc++ro.aq 3))) (L.map (Value.int .i64)) 3 rfl (by rw[nY,bA];show 0+j*1+1<=_;omega) rfl ((L.set j (FZ ns.length q.length (fl q z) j)).map (Value.int .i64)) (by rw[dg,gm];exact nO L j Z _) ?_;refine a3.mk _ (cC (i:=j) Z) ?_;refine⟨(j+1,L.set j (FZ ns.length q.length (fl q z) j)),⟨⟨fY,by rw[rL];exact ca,?_⟩,ce⟩,.refl,l3,.cons rfl (.nil)⟩;rw[Ey,cJ,<-vx,gi (by rw[rL];omega),List.getElem_set_self,List.take_set_of_le (cf _)];rfl
   have cM:j=d.aA:=by have:¬ (j:Int)<(d.aA:Int):=db ab;omega
   subst cM;rw[fE Z]at vx;refine b'.iC [cV kn L] (no.aq 88++(jc++ro.aq 3)) d.cells 88 rfl rfl rfl (d.row (some ⟨kn,0,none⟩) d.aA d.aA L).cells rfl ?_;refine aJ.mk (d.row (some ⟨kn,0,none⟩) d.aA d.aA L).cells (dj (cs:=(d.row (some ⟨kn,0,none⟩) d.aA d.aA L).cells) (k:=0) (n:=9) (T:=88) (.tail _ (.head _)) (bJ rfl)) ?_;refine bN.mk λs5 Dk JC=>?_;refine bz.aex aT rfl am (e:=88) rfl rfl rfl no eV rfl (cs:=(d.row (some ⟨kn,0,none⟩) d.aA d.aA L).cells) rfl rfl rfl [cV kn L,⟨fc,.cells (d.row (some ⟨kn,0,none⟩) d.aA d.aA L).cells.toArray 88 (0,0)⟩] (jc++ro.aq 3) rfl Z (by show(no.n+1)*96<=_;omega) ?_;intro JD cS aa ab al e4;refine a3.mk ((z:Int)-1) (by show IntKind.i64.wrap ((((z+1:Nat):Int)-1)-1)=_;rw[wrap_i64 ⟨Z,Z⟩];omega) ?_;intro ew;have Dq:y7 os JD (cS++jc):=λg az=>by
    have dW:=yc g az;rw[cJ,cW]at dW;rw[<-ej,cJ,cW];rcases dW with dW | dW;·exact .inl (e4 g dW)
    ·exact .inr dW
   have mo:([cV kn L,⟨fc,.cells (d.row (some ⟨kn,0,none⟩) d.aA d.aA L).cells.toArray 88 (0,0)⟩]++(JD.aq 88++(cS++(jc++ro.aq 3)))).Perm ((⟨some kn,d.aA,d.aA,L.map (Value.int .i64)⟩:aO).aq 3++(⟨fc,.cells (d.row (some ⟨kn,0,none⟩) d.aA d.aA L).cells.toArray 88 (0,0)⟩::(JD.aq 88++((cS++jc)++ro.aq 3)))):=by rw[ej cS];exact .refl _
   have l8:=mA.FY (J:=J) (os:=⟨some kn,d.aA,d.aA,L.map (Value.int .i64)⟩) (e:=3) (foot:=(os.aq 88).map (·.num)) ew mo (λx ae=>by
    have dW:=Dq x ae;rw[<-ej,ch,cJ];exact .tail _ (iy _ dW))
   have asG:(⟨some kn,d.aA,d.aA,L.map (Value.int .i64)⟩:aO).ok 1 (L.map (.int .i64 ·)):=⟨qr,(λh=>ci),λet jF=>⟨axz,cf _,jp,fE qr⟩⟩;obtain⟨kM,hw,bo,dM,-⟩:=aO.z7 (b:=8) (e:=3) asG ce l8 (⟨fc,.cells (d.row (some ⟨kn,0,none⟩) d.aA d.aA L).cells.toArray 88 (0,0)⟩::(JD.aq 88++((cS++jc)++ro.aq 3)));have vM:(d.row (some ⟨kn,0,none⟩) d.aA d.aA L).ao=(List.range (fl q (z+1)-fl q z)).map λj=>((ns.length+q.length-1-(fl q z+j):Nat):Int):=by rw[show fl q (z+1)-fl q z=d.aA by omega];exact vx
   have asH:=xv.step aM aV hc gk aC (x:=d.row (some ⟨kn,0,none⟩) d.aA d.aA L) (by rw[jL];rfl) vM;have Ue:(d.row (some ⟨kn,0,none⟩) d.aA d.aA L).ok kM:=(aj.mono bo).row dM λx ae=>by rw[vx]at ae;obtain⟨y,aF,rfl⟩:=c6.1 ae;unfold FZ hy;omega
   obtain⟨jw,uc⟩:=fB.ba;refine⟨(z,JD,eh++[d.row (some ⟨kn,0,none⟩) d.aA d.aA L],kM,cS++jc),⟨⟨asH,⟨λb o h=>bo _ _ (fB.a6 _ _ h),?_,λx ae=>?_,jw++[_],by rw[uc,ej]⟩,Dq⟩,ce⟩,.perm mo (hw _ _ (.sub (.cons _ (.refl _)) .refl)),fh,.cons rfl (.nil)⟩
   ·rw[fL];have:([d.row (some ⟨kn,0,none⟩) d.aA d.aA L].flatMap ak.cells)=(d.row (some ⟨kn,0,none⟩) d.aA d.aA L).cells:=by simp
    rw[this];exact al
   ·rcases cW.1 ae with ae | ae
    ·exact(fB.ok x ae).mono bo
    ·rw[ep.1 ae];exact Ue
  ·have aez:i=0:=by have:¬ (0:Int)<=(i:Int)-1:=db h;omega
   subst aez;obtain⟨vN,mB,lI,hY,qg⟩:=hc.done aM;refine a3.mk ((eh.length-1:Nat):Int) (by show IntKind.i64.wrap ((no.n:Int)-1)=_;rw[wrap_i64 ⟨Z,Z⟩];omega) ?_;intro _;refine⟨_,_,.sub (M1:=no.aq 88++jc) ((M3 _).append (tK _ _)) .refl,no,eh,jc,rfl,rfl,yc,fB,vN,Z,mB,lI,hY,qg⟩
def cZ.ba{ys:List Value}(h:cZ I a n c size b (xs++ys))(hm:m<=n)(ae:xs.length=m*size)(c':Nat)(ar:m<=c'):cZ I a m c' size b xs:=by
 refine⟨ae,⟨ar,iO (oJ _ hm) h.cap.2⟩,?_⟩;by_cases ax:m=0
 ·exact .inl ax
 rcases h.rd with aa | ⟨ad,aa,ab,cs,T,ap,al,aL⟩
 ·omega
 ·refine .inr ⟨ad,aa,ab,cs,T,ap,al,?_⟩;have bB:((cs.toList.drop ad.off).take (n*size)).take (m*size)=xs:=by rw[aL,<-ae,wy]
  rw[zC,pE (oJ _ hm)]at bB;exact bB
def asI{l:List (Nat×Int)}{x:Nat×Int}(h:cZ I a n c 2 16 ((l++[x]).flatMap uj)) :
  Spec Tryz.prog 285 [.slice a n c] I [] λv I' M'=>v=.tuple #[.agg #[.int .i64 x.1,.int .i64 x.2],.slice a l.length l.length]/\I'=I/\M'=[]:=by
 refine bR [] aT Tryz.func285 rfl rfl rfl ?_;intro B ax;have ay:n=l.length+1:=by have:=h.len;rw[gz uj 2 (λ_=>rfl),ct,pi]at this;omega
 have g8:=h.cap;obtain⟨ad,bt,bj⟩:=h.row (f:=uj) (λ_=>rfl) (j:=l.length) Z am;rw[Le rfl]at bj;refine a3.mk ((l.length:Nat):Int) (by show IntKind.i64.wrap ((n:Int)-1)=_;rw[wrap_i64 ⟨Z,Z⟩];omega) ?_;refine cN.draw aT rfl rfl rfl ?_;refine bi.mk ad l.length bt rfl Z ?_;refine aJ.mk _ (bj _) ?_;refine Og.mk l.length l.length rfl rfl (cf _) Z ?_;have dC:(if l.length=0 then a else a.map (·.add (0*2)))=a:=by
  split;·rfl
  ·rcases h.rd with aa | ⟨ad,rfl,de,-⟩
   ·omega
   ·rw[lx,eK _ de];obtain⟨b,o,gI⟩:=ad;simp only at de;subst de;rfl
 refine⟨_,_,.refl,?_,rfl,rfl⟩;show Value.tuple #[Value.agg #[.int .i64 x.1,.int .i64 x.2],.slice (if l.length=0 then a else a.map (·.add (0*2))) (l.length-0) (l.length-0)]=_;rw[dC];rfl
def oE(z n:Nat):List Nat:=(List.range n).filter λj=>!decide (j=z)
def JE(z n:Nat):oE z (n+1)=if n=z then oE z n else oE z n++[n]:=by
 unfold oE;rw[Ey,Ex,CY,List.filter_nil];by_cases e:n=z<;>simp[e]
def Ny{z:Nat}:j∈oE z n ↔ j<n/\j≠z:=by unfold oE;rw[n8,kx];simp
def aeC{z:Nat}(h:z<n):(oE z n++[z]).Perm (List.range n):=by
 have z1:(oE z n++[z]).Nodup:=by refine uw.2 ⟨Fl.sublist zz,am,λa a8 b ah e=>?_⟩;rw[ep]at ah;subst ah;exact(Ny.1 a8).2 e
 refine(TD z1 Fl).2 λj=>?_;rw[cW,Ny,ep,kx];omega
def uk(l:List aP)(z n:Nat):Nat:=((oE z n).map λj=>(l.getD j (.mk 0 [])).c5.length).sum
def asJ(l:List aP):hF l=((List.range l.length).map λj=>(l.getD j (.mk 0 [])).c5.length).sum:=by unfold hF;congr 1;refine oV am λi hi ck=>?_;rw[gl,gl,wN,bP,du i7];rfl
def aeD{l:List aP}{z:Nat}(bg:z<l.length):uk l z l.length+(l[z]).c5.length=hF l:=by have h:=((aeC bg).map λj=>(l.getD j (.mk 0 [])).c5.length).sum_nat;rw[cJ,pW,<-asJ]at h;rw[<-h];unfold uk;simp[bP,bg]
def aeE(l:List aP)(z:Nat){i:Nat}(h:i<=n):uk l z i<=uk l z n:=by
 induction n with
 |zero=>
  obtain rfl:i=0:=by omega
  exact cf _
 |succ n aX=>
  by_cases e:i=n+1;·subst e;exact cf _
  ·refine iO (aX Z) ?_;unfold uk;rw[JE];split
   ·exact cf _
   ·rw[cJ,pW];omega
def aeF:∀ (p:List Int) (T:aP) (i:Int),T.go (p++[i])=(T.go p).bind λS=>if 0<=i/\i<(S.sub.length:Int)then some (S.sub.getD i.toNat S)else none
 |[],T,i=>by simp[aP.go]
 |j::p,T,i=>by
  rw[pP,aP.go,aP.go];split;·exact aeF p _ i
  ·rfl
def aeG:∀ (p:List Int) {T S:aP} (i:Int),T.go p=some S->T.pD (p++[i])=T.pD p++[(S.bs,i)]
 |[],T,S,i,h=>by obtain rfl:=eX h;rfl
 |j::p,T,S,i,h=>by
  rw[aP.go]at h;split at h;·rw[pP,aP.pD,aP.pD,aeG p i h];rfl
  ·cases h
def JF:∀ (p:List Int) (T:aP),(T.pD p).length=p.length
 |[],_=>rfl| i::p,T=>by rw[aP.pD,ey,JF p];rfl
def asK{tns:List ak}{S R:aP}{z:Nat}(bg:z<S.sub.length){L:List Int}(ca:L.length=S.sub.length){Y:aU}(aZ:cI eh R)(A7:R.bare eh=Y)(Uf:L.getD z 0=(R.bs:Int))(asL:∀ j,j<S.sub.length->j≠z->∃ T:aP,(T.bs:Int)=L.getD j 0/\cI eh T/\T.bare eh=(S.sub.getD j S).bare tns){x:ak}(vM:x.ao=L)(kH:x.bare=(nodeAt tns S.bs).bare) :
  ∃ xW:aP,xW.bs=eh.length/\cI (eh++[x]) xW/\xW.bare (eh++[x])=.mk (nodeAt tns S.bs).bare ((S.sub.map (aP.bare tns)).set z Y):=by
 obtain⟨ks,aa,ab⟩:=Jo (R:=λ(j:Nat) (T:aP)=>(T.bs:Int)=L.getD j 0/\cI eh T/\T.bare eh=if j=z then Y else(S.sub.getD j S).bare tns) (l:=List.range S.sub.length) λj ai=>by
  have ai:=kx.1 ai;by_cases e:j=z;·subst e;exact⟨R,Uf.symm,aZ,by rw[bY rfl];exact A7⟩
  ·obtain⟨T,ee,eO,eS⟩:=asL j ai e;exact⟨T,ee,eO,by rw[bK e];exact eS⟩
 rw[w1]at aa;have eH:∀ c∈ks,cI eh c:=λc ar=>by obtain⟨j,ai,rfl⟩:=hL ar;exact(ab j (by rw[w1];omega) ai).2.1
 refine⟨.mk eh.length ks,rfl,.mk am ?_ λc ar=>(eH c ar).app _,?_⟩
 ·rw[FT,vM];refine oV au' λj ai jT=>?_;rw[gl];have:=(ab j (by rw[w1];omega) Z).1;rw[wN,bP,du ai]at this;exact this.symm
 ·rw[aP.nA,FT,kH];congr 1;refine oV ayP λj ai jT=>?_;have r5:j<ks.length:=by simpa using ai
  rw[gl,aP.Di eh (eH _ (bD r5)),(ab j (by rw[w1];omega) r5).2.2,OW,wN];by_cases e:j=z;·subst e;rw[bY rfl,bY rfl]
  ·rw[bK e,bK (λbc=>e bc.symm),gl];congr 1;simp[bP,show j<S.sub.length by omega]
def asM{z:Nat}{L:List Int}(bg:z<L.length)(Nz:∀ k∈L,0<=k)(Uf:L.getD z 0=(r:Int))(h:mr eh ((oE z L.length).map (ig L)++[r])){x:ak}(vM:x.ao=L)(asN:fits x L.length=true):mr (eh++[x]) [eh.length]:=by
 have aN:(List.range L.length).map (ig L)=L.map Int.toNat:=by refine oV am λj ai jT=>?_;rw[gl,gl,wN];unfold ig;rw[bP,du mt];rfl
 have aK:((oE z L.length).map (ig L)++[r]).Perm (L.map Int.toNat++[]):=by
  rw[dE,<-aN];have:=(aeC bg).map (ig L);rw[cJ,s3]at this;have bc:ig L z=r:=by unfold ig;rw[Uf];exact h2 r
  rwa [bc]at this
 refine(h.perm aK).add (by rw[bA];exact asN) ?_;rw[vM,gE];refine((fX λk af=>?_).trans (M4 _)).symm;have:=Nz k af;show((k.toNat:Nat):Int)=k;omega
def aeH:∀ (p:List Int) {T S:aP},T.go p=some S->S.c5.length<=T.c5.length
 |[],T,S,h=>by obtain rfl:=eX h;exact cf _
 |i::p,T,S,h=>by
  rw[aP.go]at h;split at h
  ·rename_i hi;have aa:=aeH p h;have ab:=FX T;have al:(T.sub.getD i.toNat T).c5.length<=hF T.sub:=by
    have ay:i.toNat<T.sub.length:=by omega
    rw[bP,du ay];have:=aeD ay;simp only[kX];omega
   omega
  ·cases h
structure aeI(tns ns:List ak)(I:aI)(os:aO)(S R:aP)(z:Nat)(Y:aU)(i:Nat)(L:List Int)(no:aO)(eh:List ak)(J:aI)(jc:List aD):Prop where
 hi:i<=S.sub.length
 ca:L.length=S.sub.length
 a2:JB ns I no eh J
 Kk:y7 os no jc
 EU:mr eh ((oE z i).map (ig L)++[R.bs])
 bF:cI eh R
 bare:R.bare eh=Y
 oE:∀ j,j<i->j≠z->∃ T:aP,(T.bs:Int)=L.getD j 0/\cI eh T/\T.bare eh=(S.sub.getD j S).bare tns
 axP:z<i->L.getD z 0=(R.bs:Int)
 len:eh.length<=ns.length+(S.sub.getD z S).c5.length+uk S.sub z i
structure aeJ(tns ns:List ak)(I:aI)(os:aO)(T:aP)(path:List Int)(X:aU)(p:List Int)(vO:Option Addr)(gR:Nat)(R:aP)(no:aO)(eh:List ak)(J:aI)(jc:List aD):Prop where
 row:cZ I vO p.length gR 2 16 ((T.pD p).flatMap uj)
 a2:JB ns I no eh J
 Kk:y7 os no jc
 EU:mr eh [R.bs]
 bF:cI eh R
 go:∃ S q,path=p++q/\T.go p=some S/\R.bare eh=(S.bare tns).put q X/\eh.length<=ns.length+S.c5.length
def asO(T:aP)(tns ns:List ak)(path:List Int)(X:aU)(os:aO)(I:aI)(v:Value)(I':aI)(M':List aD):Prop:=
 ∃ (br:aO) (jz:List ak) (jc:List aD) (R:aP),v=.tuple #[br.val,.int .i64 R.bs]/\M'=br.aq 88++jc/\JB ns I br jz I'/\mr jz [R.bs]/\cI jz R/\R.bare jz=(T.bare tns).put path X/\jz.length<=ns.length+T.c5.length
def aeK{ui e8:aO}{iL cS:List aD}(aa:y7 os ui iL)(ab:y7 ui e8 cS):y7 os e8 (cS++iL):=λg az=>by
 have dW:=aa g az;rw[cJ,cW]at dW;rw[<-ej,cJ,cW];rcases dW with dW | dW
 ·exact .inl (ab g dW)
 ·exact .inr dW
def asP(au:t.ok I)(aC:∀ d∈t.ns,fits d d.ao.length=true)(af:r2 t.ns){T:aP}(bm:cI t.ns T){mQ:aP}(fy:T.go path=some mQ)(sQ:cZ I a path.length c 2 16 ((T.pD path).flatMap uj))
 (bV:os.ok 9 (ns.flatMap ak.cells)) (kT:∀ d∈ns,d.ok I) {vP:aP} (az:mr ns [vP.bs]) (aZ:cI ns vP) (ah:ns.length+T.c5.length<=1099511627776) (aE:t.n<=1099511627776) :
  Spec Tryz.prog 216 [os.val,t.val,.slice a path.length c,.int .i64 vP.bs] I (os.aq 88) (asO T t.ns ns path (vP.bare ns) os I):=by
 refine wg [] aT Tryz.func216 rfl rfl rfl ?_;intro B ax;have gu:=au.n;refine c2.rc (ι:=List Int×Option Addr×Nat×aP×aO×List ak×aI×List aD) (λx=>{ bn:=[(0,.val x.2.2.2.2.1.val),(2,.val (.slice x.2.1 x.1.length x.2.2.1)),(3,.val (.int .i64 x.2.2.2.1.bs)),(5,.ref 5 0)],cl:=[(5,t.cells)],cm:=x.2.2.2.2.2.2.1,cK:=x.2.2.2.2.1.aq 88++x.2.2.2.2.2.2.2 }) (λx=>aeJ t.ns ns I os T path (vP.bare ns) x.1 x.2.1 x.2.2.1 x.2.2.2.1 x.2.2.2.2.1 x.2.2.2.2.2.1 x.2.2.2.2.2.2.1 x.2.2.2.2.2.2.2) (λx=>x.1.length) ?_ ?_
 ·intro _;exact⟨(path,a,c,vP,os,ns,I,[]),⟨sQ,⟨λ_ _ h=>h,bV,kT,[],am⟩,(λg az=>by rw[dE];exact az),az,aZ,mQ,[],am,fy,rfl,ce⟩,.mc am,dS,.cons rfl (.nil)⟩
 rintro⟨p,vO,gR,R,no,eh,J,jc⟩eP;have eP:aeJ t.ns ns I os T path (vP.bare ns) p vO gR R no eh J jc:=eP;obtain⟨II,fB,yc,vN,fa,F0,q,m3,A8,A7,gn⟩:=eP;refine aS.mk (λh=>?_) (λh=>?_)
 ·have gD:0<p.length:=by have:(0:Int)<(p.length:Int):=cv h;omega
  obtain⟨mX,k4,rfl⟩:∃ mX k,p=mX++[k]:=by
   rcases xS p with aa | ⟨r,k,aa⟩;·subst aa;simp at gD
   ·exact⟨r,k,ol⟩
  rw[aeF]at A8;obtain⟨S,NA,A8⟩:=Pu.1 A8;have AO:0<=k4/\k4<(S.sub.length:Int):=by
   by_cases e:0<=k4/\k4<(S.sub.length:Int);·exact e
   ·rw[bK e]at A8;cases A8
  rw[bY AO]at A8;obtain⟨z,rfl⟩:=dZ AO.1;have bg:z<S.sub.length:=by omega
  have F1:S.sub.getD z S=F0:=by have:=eX A8;rwa [h2]at this
  rw[aeG mX _ NA]at II;have Ug:=cI.go mX bm NA;have qf:=Ug.nz;refine a9.mk [] _ _ (.refl _) (asI (II.mono fB.a6)) ?_;rintro v kM M' -⟨an,BI,rfl⟩;subst kM;rw[JF]at an;subst an;have asQ:cZ I vO mX.length mX.length 2 16 ((T.pD mX).flatMap uj):=by rw[fL]at II;exact II.ba ay3 (by rw[gz uj 2 (λ_=>rfl),JF]) _ (cf _)
  obtain⟨k8,k9,A6⟩:=(au.a'.mono fB.a6).row ak.cq (j:=S.bs) Z qf;have aj:=(au.ns _ (bD qf)).mono fB.a6;have eH:=Ug.AY;have jL:=fw qf;have F2:=aC _ (bD qf);rw[jL]at eH;have fW:=au.ns _ (bD qf);generalize t.ns[S.bs]=d at aj A6 eH jL F2 fW;have eF:=aj.aA;have mL:=aj.a'.cap;have cL:d.ao.length=S.sub.length:=by rw[eH];simp[e7]
  refine bi.mk k8 S.bs k9 rfl Z ?_;refine aJ.mk _ (A6 _) ?_;refine n9.mk d.aA d.aA rfl rfl (cf _) aq' Z ?_;refine bN.mk λfc Qi aeA=>?_;have I5:(rowOf [Value.int .i64 0] (d.aA*1))=(List.replicate d.aA (0:Int)).map (Value.int .i64):=by rw[xY,xT,gm]
  have rv:∀ j (h:j<S.sub.length),S.sub.getD j S=S.sub[j]:=λj h=>by simp[bP,h]
  have asR:∀ j (h:j<S.sub.length),S.sub.getD j (.mk 0 [])=S.sub[j]:=λj h=>by simp[bP,h]
  have axQ:=FX S;have axR:=aeD bg;have axS:F0.c5.length=(S.sub[z]).c5.length:=by rw[<-F1,rv z bg]
  have axT:S.c5.length<=T.c5.length:=aeH mX NA;refine c2.rc (ι:=Nat×List Int×aO×List ak×aI×List aD) (λy=>{ bn:=[(0,.val y.2.2.1.val),(2,.val (.slice vO mX.length mX.length)),(3,.val (.int .i64 R.bs)),(5,.ref 5 0),(10,.ref 10 0),(11,.ref 11 0),(12,.val (.slice (some ⟨fc,0,none⟩) d.aA d.aA)),(34,.val (.slice d.bX d.aA d.b5)),(35,.val (.int .i64 d.aA)),(36,.val (.int .i64 y.1))],cl:=[(5,t.cells),(10,[.int .i64 S.bs,.int .i64 z]),(11,d.cells)],cm:=y.2.2.2.2.1,cK:=y.2.2.1.aq 88++(y.2.2.2.2.2++[cV fc y.2.1]) }) (λy=>aeI t.ns ns I os S R z ((F0.bare t.ns).put q (vP.bare ns)) y.1 y.2.1 y.2.2.1 y.2.2.2.1 y.2.2.2.2.1 y.2.2.2.2.2) (λy=>d.aA-y.1) ?_ ?_
  ·intro _;refine⟨(0,List.replicate d.aA 0,no,eh,J,jc),⟨dh _,by rw[zx];omega,fB,yc,vN,fa,A7,λj ai=>absurd ai (mO _),λai=>absurd ai (mO _),?_⟩,.perm (M1:=no.aq 88++(jc++[⟨fc,.cells (rowOf [Value.int .i64 0] (d.aA*1)).toArray 3 (0,0)⟩])) ?_ (.mc ?_),OC,.cons rfl (.cons rfl (.cons rfl (.nil)))⟩
   ·rw[F1];simp only;omega
   ·have:=eM (l₁:=([⟨fc,.cells (rowOf [Value.int .i64 0] (d.aA*1)).toArray 3 (0,0)⟩]:List aD)) (l₂:=no.aq 88++jc);rw[ej]at this;exact this
   ·rw[I5];rfl
  clear vN fa A7 gn yc;have axU:=fB.a6;rintro⟨i,L,rB,c4,iL,hE⟩eP;have eP:aeI t.ns ns I os S R z ((F0.bare t.ns).put q (vP.bare ns)) i L rB c4 iL hE:=eP;obtain⟨hi,ca,q2,NB,Dr,vJ,Uh,NC,ND,Ui⟩:=eP;rw[F1]at Ui;have nV:rB.n=c4.length:=by have:=q2.os.len;rw[gz _ 9 ak.cq]at this;omega
  have Kh:=aeE S.sub z hi;refine aS.mk (λab=>?_) (λab=>?_)
  ·have yW:i<d.aA:=by have:(i:Int)<(d.aA:Int):=cv ab;omega
   have dP:i<S.sub.length:=by omega
   have Dj:cZ iL d.bX d.aA d.b5 1 8 (d.ao.flatMap iK):=by rw[oA];exact(fW.a').mono q2.a6
   have ot:d.ao[i]' Z=((S.sub[i]).bs:Int):=by
    have:d.ao[i]?=(e7 S.sub)[i]?:=by rw[eH]
    rw[du Z]at this;unfold e7 at this;rw[jJ,du dP]at this;exact eX this
   obtain⟨fq,eN,eL⟩:=Dj.row (f:=iK) (λ_=>rfl) (j:=i) Z Z;rw[ot]at eL;refine bi.mk fq i eN rfl Z ?_;refine aJ.mk _ (eL _) ?_;refine aS.mk (λal=>?_) (λal=>?_)
   ·obtain rfl:i=z:=by have:(i:Int)=(z:Int):=cv al;omega
    refine bi.mk ⟨fc,0,none⟩ i rfl rfl yW ?_;refine b'.iC (rB.aq 88++hE) [] (L.map (Value.int .i64)) 3 (ej _ _ _).symm fd rfl ((L.set i (R.bs:Int)).map (Value.int .i64)) (by rw[dg,gm];exact nO L i Z _) ?_;refine a3.mk _ (cC (i:=i) Z) ?_;intro _;refine⟨(i+1,L.set i (R.bs:Int),rB,c4,iL,hE),⟨⟨dP,by rw[rL];exact ca,q2,NB,?_,vJ,Uh,λj ai bH=>?_,λ_=>?_,?_⟩,ce⟩,.mc (ej _ _ _),OC,.cons rfl (.cons rfl (.cons rfl (.nil)))⟩
    ·rw[JE,bY rfl];have e:(oE i i).map (ig (L.set i (R.bs:Int)))=(oE i i).map (ig L):=fX λj ai=>by have:=(Ny.1 ai).2;unfold ig;rw[bP,bP,iq,bK (λe=>this e.symm)]
     rw[e];exact Dr
    ·obtain⟨mB,ee,eO,eS⟩:=NC j (by simp only at ai;omega) bH;refine⟨mB,?_,eO,eS⟩;rw[bP,iq,bK (λe=>bH e.symm),<-bP];exact ee
    ·rw[bP,iq,bY rfl,bY Z];rfl
    ·rw[F1];show c4.length<=_+_+uk S.sub i (i+1);unfold uk at Ui |-;rw[JE,bY rfl];exact Ui
   ·have bH:i≠z:=λe=>by have:¬ (i:Int)=(z:Int):=db al;omega
    have asS:=Ug.AZ _ (bD dP);have axV:uk S.sub z (i+1)=uk S.sub z i+(S.sub[i]).c5.length:=by unfold uk;rw[JE,bK bH,cJ,pW,s3,List.sum_singleton,asR i dP]
    have axW:=aeE S.sub z (show i+1<=S.sub.length by omega);have de:=aey (au.mono (λb o h=>q2.a6 _ _ h)) aC asS q2.os q2.ok Dr Z;refine a9.mk (rB.aq 88) (hE++[cV fc L]) _ (.refl _) de ?_;rintro v cS dp -⟨kG,m2,kr,rfl,rfl,Dq,A9,F3,rU,mB,lI,hY,qg⟩;refine bi.mk ⟨fc,0,none⟩ i rfl rfl yW ?_;refine b'.iC ((kG.aq 88++kr)++hE) [] (L.map (Value.int .i64)) 3 (ej _ _ _).symm fd rfl ((L.set i ((m2.length-1:Nat):Int)).map (Value.int .i64)) (by rw[dg,gm];exact nO L i Z _) ?_;refine a3.mk _ (cC (i:=i) Z) ?_;intro _;obtain⟨jw,uc⟩:=A9.ba;obtain⟨wG,rW⟩:=q2.ba;refine⟨(i+1,L.set i ((m2.length-1:Nat):Int),kG,m2,cS,kr++hE),⟨⟨dP,by rw[rL];exact ca,⟨λb o h=>A9.a6 _ _ (q2.a6 _ _ h),A9.os,A9.ok,wG++jw,by rw[uc,rW,ej]⟩,aeK NB Dq,?_,?_,?_,λj ai asT=>?_,λaeL=>?_,?_⟩,ce⟩,.mc ?_,OC,.cons rfl (.cons rfl (.cons rfl (.nil)))⟩
    ·rw[JE,bK bH];have e:(oE z i).map (ig (L.set i ((m2.length-1:Nat):Int)))=(oE z i).map (ig L):=fX λj ai=>by have:=(Ny.1 ai).1;unfold ig;rw[bP,bP,iq,bK Z]
     have bc:ig (L.set i ((m2.length-1:Nat):Int)) i=m2.length-1:=by unfold ig;rw[bP,iq,bY rfl,bY Z];rfl
     rw[cJ,e,s3,bc];refine F3.perm ?_;have:=lL (a:=m2.length-1) (l₁:=(oE z i).map (ig L)) (l₂:=[R.bs]);simpa using this.symm
    ·show cI m2 R;rw[uc];exact vJ.app jw
    ·show R.bare m2=_;rw[uc,aP.Di c4 vJ];exact Uh
    ·by_cases e:j=i
     ·subst e;refine⟨mB,?_,hY,by rw[qg,rv j dP]⟩;rw[bP,iq,bY rfl,bY Z,lI];rfl
     ·obtain⟨U,ee,eO,eS⟩:=NC j (by simp only at ai;omega) asT;refine⟨U,?_,?_,?_⟩
      ·rw[bP,iq,bK (λbc=>e bc.symm),<-bP];exact ee
      ·show cI m2 U;rw[uc];exact eO.app jw
      ·show U.bare m2=_;rw[uc,aP.Di c4 eO];exact eS
    ·have aeL:z<i+1:=aeL;rw[bP,iq,bK Z,<-bP];exact ND Z
    ·rw[F1];show m2.length<=_+_+uk S.sub z (i+1);omega
    ·show((kG.aq 88++kr)++hE)++_=kG.aq 88++((kr++hE)++_);rw[ej,ej,ej];rfl
  ·have cM:i=S.sub.length:=by have:¬ (i:Int)<(d.aA:Int):=db ab;omega
   subst cM;have xN:∀ b o,I b=some o->iL b=some o:=q2.a6;have ug:d.ok iL:=fW.mono xN;refine bN.mk λs5 Dk JC=>?_;refine bz.aex aT rfl am (e:=88) rfl rfl rfl rB q2.os rfl (cs:=(d.row (some ⟨fc,0,none⟩) d.aA d.aA L).cells) rfl rfl rfl [] (hE++[cV fc L]) rfl Z (by show(rB.n+1)*96<=_;omega) ?_;intro kG cS bB cA eB e4;refine a3.mk ((c4.length:Nat):Int) (by show IntKind.i64.wrap ((kG.n:Int)-1)=_;rw[wrap_i64 ⟨Z,Z⟩];omega) ?_;intro ew;have Dq:y7 os kG (cS++hE):=aeK NB e4;have mo:([]++(kG.aq 88++(cS++(hE++[cV fc L])))).Perm ((⟨some fc,d.aA,d.aA,L.map (Value.int .i64)⟩:aO).aq 3++(kG.aq 88++(cS++hE))):=by have:=eM (l₁:=kG.aq 88++(cS++hE)) (l₂:=[cV fc L]);rw[hW];rw[ej,ej]at this;exact this
   have l8:=mA.FY (J:=iL) (os:=⟨some fc,d.aA,d.aA,L.map (Value.int .i64)⟩) (e:=3) (foot:=(os.aq 88).map (·.num)) ew mo (λx ae=>Dq x ae);have asU:(⟨some fc,d.aA,d.aA,L.map (Value.int .i64)⟩:aO).ok 1 (L.map (.int .i64 ·)):=⟨qr,(λh=>ci),λet jF=>⟨axz,cf _,jp,fE qr⟩⟩;obtain⟨kM,hw,bo,dM,-⟩:=aO.z7 (b:=8) (e:=3) asU ce l8 (kG.aq 88++(cS++hE));have asV:∀ j,j<L.length->∃ U:aP,(U.bs:Int)=L.getD j 0/\cI c4 U:=λj ai=>by
    by_cases e:j=z;·subst e;exact⟨R,(ND Z).symm,vJ⟩
    ·obtain⟨U,ee,eO,-⟩:=NC j Z e;exact⟨U,ee,eO⟩
   have Nz:∀ k∈L,0<=k/\k<c4.length:=λk af=>by obtain⟨j,ai,rfl⟩:=hL af;obtain⟨U,ee,eO⟩:=asV j ai;rw[bP,du ai]at ee;have:=eO.nz;have ee:(U.bs:Int)=L[j]:=ee;omega
   have Ue:(d.row (some ⟨fc,0,none⟩) d.aA d.aA L).ok kM:=(ug.mono bo).row dM λx ae=>by have:=Nz x ae;unfold hy;omega
   have asW:c4.length+1<=ns.length+S.c5.length:=by omega
   rw[<-ca]at Dr;have F3:=asM (x:=d.row (some ⟨fc,0,none⟩) d.aA d.aA L) Z (λk af=>(Nz k af).1) (ND Z) Dr rfl (by
    have dW:fits d d.ao.length=true:=F2;show fits (d.row (some ⟨fc,0,none⟩) d.aA d.aA L) (L.length:Nat)=true;rw[ca,<-cL];exact dW)
   obtain⟨xW,h',nb,yN⟩:=asK (tns:=t.ns) bg ca vJ Uh (ND Z) (λj ai bH=>NC j Z bH) (x:=d.row (some ⟨fc,0,none⟩) d.aA d.aA L) rfl (by rw[jL];rfl);have Ds:aU.mk (nodeAt t.ns S.bs).bare ((S.sub.map (aP.bare t.ns)).set z ((F0.bare t.ns).put q (vP.bare ns)))=(S.bare t.ns).put ((z:Int)::q) (vP.bare ns):=by rw[aU.put,aeb,aej,h2,getD_map,F1]
   rw[Ds]at yN;obtain⟨wG,rW⟩:=q2.ba;refine⟨(mX,vO,mX.length,xW,kG,c4++[d.row (some ⟨fc,0,none⟩) d.aA d.aA L],kM,cS++hE),⟨⟨asQ,⟨λb o h=>bo _ _ (xN _ _ h),?_,λx ae=>?_,wG++[_],by rw[rW,ej]⟩,Dq,by rw[h'];exact F3,nb,S,(z:Int)::q,by rw[m3,ej];rfl,NA,yN,by rw[ct,pi];exact asW⟩,by simp only[ct,pi];omega⟩,.perm mo (hw _ _ .refl),.cons .refl (.cons .refl (.cons ?_ (.cons .refl (.nil)))),.cons rfl (.nil)⟩
   ·rw[fL];have:([d.row (some ⟨fc,0,none⟩) d.aA d.aA L].flatMap ak.cells)=(d.row (some ⟨fc,0,none⟩) d.aA d.aA L).cells:=by simp
    rw[this];exact eB
   ·rcases cW.1 ae with ae | ae
    ·exact(q2.ok x ae).mono bo
    ·rw[ep.1 ae];exact Ue
   ·simp only;rw[h'];exact .refl
 ·have asX:p.length=0:=by have:¬ (0:Int)<(p.length:Int):=db h;omega
  obtain rfl:p=[]:=iB asX;obtain rfl:T=F0:=eX A8;rw[hW]at m3;subst m3;intro _;exact⟨_,_,.refl,no,eh,jc,R,rfl,rfl,fB,vN,fa,A7,gn⟩
section
end
section
end
def F4{G F:Fr}{y:Operand}{r:dK}(h:dG G y=dG F y)(bu:bI F y=r):bI G y=r:=by simp only[bI,dL,h];exact bu
def aO.asY(bC:ud I M J){e:Nat}(h:os.ok size xs)(bd:∀ x∈os.aq e,x∈M)(ah:os.n*b<=140737488355328):cZ J (os.a.map λg=>⟨g,0,none⟩) os.n os.c size b xs:=by
 obtain⟨a,n,c,aR⟩:=os;cases a with
 |none=>obtain⟨aa,ab⟩:=h.nil rfl;exact⟨h.len,⟨at9,ah⟩,.inl aa⟩
 |some g=>obtain⟨aa,ab,al,aL⟩:=h.cap g rfl;exact⟨h.len,⟨ab,ah⟩,.inr ⟨⟨g,0,none⟩,rfl,rfl,aR.toArray,e,(0,0),bC.aA _ _ (.inr ⟨⟨g,.cells aR.toArray e (0,0)⟩,bd _ (.head _),rfl,rfl⟩),AC⟩⟩
section
section
end
end
section
end
section
end
section
end
section
end
section
end
section
end
section
end
section
end
section
end
section
end
section
end
section
end
def lr(J:aI)(os:aO)(e:Nat):aI:=match os.a with
 |some g=>ins J g (.cells os.aR.toArray e (0,0))| none=>J
def F5{foot:List Nat}{e:Nat}{post:List aD}(aC:∀ g,os.a=some g->g ∉ foot):h5 foot J (os.aq e++post) (lr J os e) post:=by
 obtain⟨a,n,c,aR⟩:=os;cases a with
 |none=>exact .refl| some g=>exact .nG rfl (aC g rfl) .refl
def A'{e:Nat}(h:∀ x∈os.aq e++M,J x.num=none):∀ b o,J b=some o->lr J os e b=some o:=by
 obtain⟨a,n,c,aR⟩:=os;cases a with
 |none=>exact λ_ _ h=>h
 |some g=>exact l9 (h ⟨g,_⟩ (.head _))
def F6{e:Nat}(h:os.ok size xs)(ah:os.n*b<=140737488355328):cZ (lr J os e) (os.a.map λg=>⟨g,0,none⟩) os.n os.c size b xs:=by
 obtain⟨a,n,c,aR⟩:=os;cases a with
 |none=>obtain⟨aa,ab⟩:=h.nil rfl;exact⟨h.len,⟨at9,ah⟩,.inl aa⟩
 |some g=>obtain⟨aa,ab,al,aL⟩:=h.cap g rfl;exact⟨h.len,⟨ab,ah⟩,.inr ⟨⟨g,0,none⟩,rfl,rfl,aR.toArray,e,(0,0),o3 ..,AC⟩⟩
section
end
section
end
def asZ(ar:nd I)(au:t.ok I)(ag:right t=true)(aE:t.n<=1099511627776){node:Nat}(Cr:node<t.n) :
  Spec Tryz.prog 211 [t.val,.int .i64 node] I M0 λv I' M'=>(∀ b o,I b=some o->I' b=some o)/\M'=M0/\∃ be:bf,v=.tuple #[be.val,.bool true]/\be.ok I'/\lg t node be:=by
 refine bR [] aT Tryz.func211 rfl rfl rfl ?_;intro B ax;refine a9.mk [] M0 _ (.refl _) (o0 ar au) ?_;rintro v J N -⟨rfl,a6,rfl⟩;subst J;refine bZ.mk (λ_=>?_) (λh=>absurd h (by simp[ag]));have ft:decide (((node:Nat):Int)<0)=false:=fb Z;have gO:decide (((t.n:Nat):Int)<=((node:Nat):Int))=false:=fb Z;refine bZ.mk (λ_=>?_) (λh=>absurd (ft.symm.trans h) am);refine aS.mk (λh=>absurd (gO.symm.trans h) am) (λ_=>?_);refine a9.whole _ (Tp au ag aE Cr) ?_;rintro v J N -⟨a6,rfl,be,rfl,hR,aw⟩;exact⟨_,_,.refl,a6,rfl,be,rfl,hR,aw⟩
def aeM(au:t.ok I)(af:r2 t.ns){T:aP}(bm:cI t.ns T)(pS:t.bp=(T.bs:Int))(aE:t.n<=1099511627776)(aK:cZ I pa pn pc 1 8 (path.map (.int .i64 ·))) :
  Spec Tryz.prog 214 [t.val,.slice pa pn pc] I M0 λv I' M'=>(∀ b o,I b=some o->I' b=some o)/\M'=M0/\∃ (vO:Option Addr) (Is gR k:Nat) (b:Bool),v=.tuple #[.slice vO Is gR,.int .i64 k,.bool b] /\
   match T.go path with
   |none=>b=false| some S=>b=true/\k=S.bs/\Is=path.length/\cZ I' vO path.length gR 2 16 ((T.pD path).flatMap uj):=by
 refine Spec.jy (Spec.frame (Spec.iI (asx au af bm pS aE aK))) ?_;rintro v J M⟨M',rfl,-,a6,rfl,-,I',M1,⟨rfl,os,l,k,b,rfl,rfl,bV,h⟩,bC⟩;have asy:=bm.nz;have gu:=au.n;refine⟨a6,rfl,os.a.map λg=>⟨g,0,none⟩,os.n,os.c,k,b,rfl,?_⟩;cases az:T.go path with
 |none=>rw[az]at h;exact h
 |some S=>
  rw[az]at h;obtain⟨aa,ab,rfl,aL⟩:=h;have gK:os.n=path.length:=by have:=bV.len;rw[gz uj 2 (λ_=>rfl),JF]at this;omega
  have:=aO.iI (b:=16) (e:=296) bC bV (λz bg=>bg) (by rw[JF]at aL;omega);rw[gK]at this;exact⟨aa,ab,gK,this⟩
def hg.F7(h:hg t):∃ T:aP,t.bp=(T.bs:Int)/\cI t.ns T/\b4 t=T.bare t.ns/\T.c5.Nodup/\T.c5.length<=t.ns.length:=by obtain⟨gH,fT⟩:=h.bp;obtain⟨r,dD⟩:=dZ gH;obtain⟨T,aa,ab,al,aL⟩:=h.lt (j:=r) Z;refine⟨T,by rw[aa];exact dD,ab,by unfold b4;rw[dD];exact al,aL,M6 aL λx ae=>ab.lt x ae⟩
def nd.mono(h:nd I)(bG:∀ b o,I b=some o->I' b=some o):nd I':=by obtain⟨T,ap,h⟩:=h;exact⟨T,ap,bG _ _ h⟩
def Uj:Value:=.agg #[.slice none 0 0,.int .i64 0]
def oF(X:Option aU)(I:aI)(M0:List aD)(v:Value)(I':aI)(M':List aD):Prop:=(∀ b o,I b=some o->I' b=some o)/\M'=M0 /\
 match X with
 |none=>v=.tuple #[Uj,.bool false]| some X=>∃ be:bf,v=.tuple #[be.val,.bool true]/\be.ok I'/\mq be X/\e0 X/\jA X
def as0(ar:nd I)(au:t.ok I)(ag:right t=true)(aE:t.n<=1099511627776)(aK:cZ I pa pn pc 1 8 (path.map (.int .i64 ·))) :
  Spec Tryz.prog 139 [t.val,.slice pa pn pc] I M0 (oF ((b4 t).go path) I M0):=by
 have aZ:=ix.1 ag;obtain⟨T,lI,hY,qg,Uk,as1⟩:=aZ.F7;have gu:=au.n;rw[show(b4 t).go path=(T.go path).map (aP.bare t.ns)from by rw[qg,bare_go]];refine bR [] aT Tryz.func139 rfl rfl rfl ?_;intro B ax;have dM:=o0 ar au;rw[ag]at dM;refine a9.mk [] M0 _ (.refl _) dM ?_;rintro v J N -⟨rfl,a6,rfl⟩;subst J;refine aS.mk (λh=>ci) (λ_=>?_);refine a9.mk [] M0 _ (.refl _) (aeM (M0:=[]) au aZ.xt hY lI aE aK) ?_;rintro v J M1 -⟨a6,rfl,vO,Is,gR,k,b,rfl,h⟩;refine aS.mk (λah=>?_) (λah=>?_)
 ·have ah:(!b)=true:=ah;refine⟨_,_,.refl,a6,rfl,?_⟩;cases az:T.go path with
  |none=>rfl| some S=>rw[az]at h;obtain⟨rfl,-⟩:=h;cases ah
 ·have ah:(!b)=false:=ah;obtain⟨S,az⟩:∃ S,T.go path=some S:=by
   cases az:T.go path with
   |none=>rw[az]at h;have h:b=false:=h;rw[h]at ah;cases ah| some S=>exact⟨S,rfl⟩
  rw[az]at h;obtain⟨rfl,rfl,-,-⟩:=h;have cQ:=cI.go path hY az;have qf:=cQ.nz;refine a9.mk [] M0 _ (.refl _) (asZ (M0:=[]) (ar.mono a6) (au.mono a6) ag aE (show S.bs<t.n by omega)) ?_;rintro v cS dp -⟨c1,rfl,be,rfl,hR,aw⟩;refine⟨_,_,.refl,λb o h=>c1 _ _ (a6 _ _ h),rfl,?_⟩;rw[az];refine⟨be,rfl,hR,?_,?_,?_⟩;·have:=adR aZ qf aw;rwa [Nd aZ.xt cQ]at this
  ·exact Nf aZ.fit cQ
  ·exact adT _ _
def as2(y8:fr I aB){x:bf}(au:t.ok I)(ae:x.ok I)(ag:right t=true)(nv:right x=true)(aE:t.n+x.n<=1099511627776)(aK:cZ I pa pn pc 1 8 (path.map (.int .i64 ·))) :
  Spec Tryz.prog 142 [t.val,.slice pa pn pc,x.val] I [] (oF (((b4 t).go path).map λ_=>((b4 t).put path (b4 x)).lU) I []):=by
 have aZ:=ix.1 ag;have aeN:=ix.1 nv;obtain⟨T,lI,hY,qg,Uk,as1⟩:=aZ.F7;obtain⟨X,as3,as4,aeO,axX,as5⟩:=aeN.F7;have gu:=au.n;have rX:=ae.n;rw[show((b4 t).go path).map (λ_=>((b4 t).put path (b4 x)).lU)=(T.go path).map (λ_=>((b4 t).put path (b4 x)).lU)from by rw[show(b4 t).go path=(T.go path).map (aP.bare t.ns)from by rw[qg,bare_go],Option.map_map];rfl];refine bR [] aT Tryz.func142 rfl rfl rfl ?_;intro B ax;have dM:=o0 y8.c au;rw[ag]at dM;have aeP:=o0 y8.c ae;rw[nv]at aeP;refine a9.mk [] [] _ (.refl _) dM ?_;rintro v J N -⟨rfl,a6,rfl⟩;subst J;refine bZ.mk (λh=>?_) (λh=>ci);refine a9.mk [] [] _ (.refl _) aeP ?_;rintro v J N -⟨rfl,a6,rfl⟩;subst J;refine aS.mk (λh=>ci) (λ_=>?_);refine a9.mk [] [] _ (.refl _) (aeM (M0:=[]) au aZ.xt hY lI Z aK) ?_;rintro v J M1 -⟨a6,rfl,vO,Is,gR,k,b,rfl,h⟩;refine aS.mk (λah=>?_) (λah=>?_)
 ·have ah:(!b)=true:=ah;refine⟨_,_,.refl,a6,rfl,?_⟩;cases az:T.go path with
  |none=>rfl| some S=>rw[az]at h;obtain⟨rfl,-⟩:=h;cases ah
 ·have ah:(!b)=false:=ah;obtain⟨S,az⟩:∃ S,T.go path=some S:=by
   cases az:T.go path with
   |none=>rw[az]at h;have h:b=false:=h;rw[h]at ah;cases ah| some S=>exact⟨S,rfl⟩
  rw[az]at h;obtain⟨rfl,rfl,rfl,sQ⟩:=h;have sp:=aey (ae.mono a6) aeN.fit as4 (os:=gV) (ns:=[]) (jt 9) (λd aj=>t7) mr.nil (by simp only[hl];omega);rw[<-as3]at sp;refine a9.mk [] [] _ (.refl _) sp ?_;rintro v iL M1 h1⟨rB,c4,hE,rfl,rfl,NB,q2,Dr,FN,axY,h',as6,A7⟩;have axZ:c4.length=X.c5.length:=by simpa using FN
  rw[<-h']at Dr;have fP:=asP (au.mono (λb o h=>h1 _ _ (a6 _ _ h))) aZ.fit aZ.xt hY az (sQ.mono h1) q2.os q2.ok Dr as6 Z Z;rw[h']at fP;refine a9.mk (rB.aq 88) hE _ Do fP ?_;rintro v cS dp c1⟨kG,m2,kr,Ul,rfl,rfl,A9,F3,Um,aeQ,rU⟩;have kQ:kG.n=m2.length:=by have:=A9.os.len;rw[gz _ 9 ak.cq]at this;omega
  refine a9.v0 λew=>?_;have mo:((kG.aq 88++kr)++hE).Perm (kG.aq 88++(kr++hE)):=by rw[ej]
  have as7:=mA.FY (os:=kG) (e:=88) (foot:=[]) ew mo (λx ae=>wt);obtain⟨mj,hw,bo,as8,-⟩:=aO.z7 (b:=96) (e:=88) A9.os Z as7 (kr++hE);have ax0:=Um.nz;obtain⟨t3,ye⟩:∃ t3:bf,t3=⟨m2,kG.a.map λg=>⟨g,0,none⟩,kG.n,kG.c,Ul.bs⟩:=⟨_,rfl⟩;have zG:t3.ok mj:=by rw[ye];exact⟨as8,λd aj=>(A9.ok d aj).mono bo,⟨ce,ce⟩⟩
  have yN:hg t3:=F3.right (by rw[ye]) (by rw[ye]);have hX:b4 t3=(b4 t).put path (b4 x):=by rw[qg,aeO,<-A7,<-aeQ,ye];exact Nd F3.wd.ao Um
  have as9:e0 (b4 t3):=by have:=Nf yN.fit (T:=Ul) (by rw[ye];exact Um);rw[hX,qg,aeO,<-A7,<-aeQ];rw[ye]at this;exact this
  have aeR:=Nw (M0:=[]) ((y8.mono (λb o h=>bo _ _ (c1 _ _ (h1 _ _ (a6 _ _ h)))))) zG (ix.2 yN) (by rw[ye];simp only;omega);rw[show t3.val=.agg #[kG.val,.int .i64 Ul.bs]from by rw[ye];rfl]at aeR;refine a9.xF mj [] (kr++hE) _ (.perm mo (hw _ _ .refl)) aeR ?_;rintro v F8 ru um -⟨-,rfl,be,rfl,hR,dN⟩;refine⟨_,_,.sub (eY _) .refl,λb o h=>um _ _ (bo _ _ (c1 _ _ (h1 _ _ (a6 _ _ h)))),rfl,?_⟩;rw[az];refine⟨be,rfl,hR,?_,?_,JA _⟩;·rw[<-hX];exact dN
  ·rw[<-hX];exact Dn as9
def ata(y8:fr I aB){x:bf}(au:t.ok I)(ae:x.ok I)(ag:right t=true)(nv:right x=true)(aE:t.n+x.n<=1099511627776)(aK:cZ I pa pn pc 1 8 (path.map (.int .i64 ·))) :
  Spec Tryz.prog 142 [t.val,.slice pa pn pc,x.val] I M0 (oF (((b4 t).go path).map λ_=>((b4 t).put path (b4 x)).lU) I M0):=by
 refine(Spec.frame (as2 y8 au ae ag nv aE aK)).Nh ?_;rintro v I' M'⟨M1,rfl,-,-,aa,rfl,ab⟩;exact⟨aa,rfl,ab⟩
def uo(g:cR)(rule:Int)(path:List Int):Option aU:=if 0<=rule/\rule<(g.ds.length:Int)then(b4 (g.ds.getD rule.toNat lq).t).go path else none
structure Un(g:cR):Prop where
 r:∀ d∈g.ds,right d.t=true
 n:∀ d∈g.ds,d.t.n<=549755813888
def NE(rule:Int)(pa:Option Addr)(pn pc:Nat):Value:=.agg #[.int .i64 rule,.slice pa pn pc]
def oF.shape{X:Option aU}{v:Value}{M':List aD}(h:oF X I M0 v I' M'):∃ a n c r b,v=.tuple #[.agg #[.slice a n c,.int .i64 r],.bool b]/\b=X.isSome:=by
 obtain⟨-,-,h⟩:=h;cases X with
 |none=>exact⟨none,0,0,0,false,h,rfl⟩| some X=>obtain⟨be,rfl,-⟩:=h;exact⟨_,_,_,_,true,rfl,rfl⟩
def atb(ar:nd I)(az:g.ok I)(hc:Un g)(aK:cZ I pa pn pc 1 8 (path.map (.int .i64 ·))) :
  Spec Tryz.prog 66 [g.val,NE rule pa pn pc] I M0 (oF (uo g rule path) I M0):=by
 have ib:=az.n;refine bR [] aT Tryz.func66 rfl rfl rfl ?_;intro B ax;refine bZ.mk (λh=>?_) (λh=>?_)
 ·have aa:¬ rule<0:=db h;refine aS.mk (λab=>?_) (λab=>?_)
  ·have ab:(g.n:Int)<=rule:=cv ab;refine⟨_,_,.refl,λ_ _ h=>h,rfl,?_⟩;unfold uo;rw[bK Z];rfl
  ·have ab:¬ (g.n:Int)<=rule:=db ab;obtain⟨u,rfl⟩:=dZ (show 0<=rule by omega);have hu:u<g.ds.length:=by omega
   obtain⟨ad,bt,bj⟩:=az.a'.row a4.cq (j:=u) Z hu;have aj:=az.ds _ (bD hu);have ag:=hc.r _ (bD hu);have Ud:=hc.n _ (bD hu);have fy:uo g (u:Int) path=(b4 g.ds[u].t).go path:=by unfold uo;rw[bY Z,h2];simp[bP,hu]
   have fa:=as0 (M0:=[]) ar aj.t ag Z aK;rw[<-fy]at fa;refine cN.draw aT rfl rfl rfl ?_;refine bi.mk ad u bt rfl Z ?_;refine aJ.mk _ ((bj _).part (k:=1) (m:=2) bv) ?_;refine a9.mk [] M0 _ (.refl _) fa ?_;rintro v J M1-h;obtain⟨a,n,c,r,b,rfl,-⟩:=h.shape;obtain⟨ee,rfl,eS⟩:=h;exact⟨_,_,.refl,ee,rfl,eS⟩
 ·have aa:rule<0:=cv h;refine⟨_,_,.refl,λ_ _ h=>h,rfl,?_⟩;unfold uo;rw[bK Z];rfl
def atc(g:cR)(rule:Int)(X:Option aU)(I:aI)(M0:List aD)(v:Value)(I':aI)(M':List aD):Prop:=(∀ b o,I b=some o->I' b=some o)/\M'=M0 /\
 match X with
 |none=>v=.tuple #[.agg #[.slice none 0 0],.bool false]| some X=>∃ (h:cR) (be:bf),v=.tuple #[h.val,.bool true]/\h.ok I'/\h.n=g.n/\h.ds.map a4.aW=(g.ds.set rule.toNat ⟨(g.ds.getD rule.toNat lq).name,be⟩).map a4.aW/\mq be X/\e0 X/\jA X
def vQ(g:cR)(rule:Int)(path:List Int)(x:aU):Option aU:=(uo g rule path).map λ_=>((b4 (g.ds.getD rule.toNat lq).t).put path x).lU
def atd(y8:fr I aB)(az:g.ok I)(hc:Un g)(yb:g.n<=1000000){x:bf}(ae:x.ok I)(nv:right x=true)(rX:x.n<=549755813888)(aK:cZ I pa pn pc 1 8 (path.map (.int .i64 ·))) :
  Spec Tryz.prog 69 [g.val,NE rule pa pn pc,x.val] I M0 (atc g rule (vQ g rule path (b4 x)) I M0):=by
 have ib:=az.n;refine bR [] aT Tryz.func69 rfl rfl rfl ?_;intro B ax;refine bZ.mk (λh=>?_) (λh=>?_)
 ·have aa:¬ rule<0:=db h;refine aS.mk (λab=>?_) (λab=>?_)
  ·have ab:(g.n:Int)<=rule:=cv ab;refine⟨_,_,.refl,λ_ _ h=>h,rfl,?_⟩;unfold vQ uo;rw[bK Z];rfl
  ·have ab:¬ (g.n:Int)<=rule:=db ab;obtain⟨u,rfl⟩:=dZ (show 0<=rule by omega);have hu:u<g.ds.length:=by omega
   obtain⟨ad,bt,bj⟩:=az.a'.row a4.cq (j:=u) Z hu;have aj:=az.ds _ (bD hu);have ag:=hc.r _ (bD hu);have Ud:=hc.n _ (bD hu);have rv:g.ds.getD u lq=g.ds[u]:=by simp[bP,hu]
   have fy:vQ g (u:Int) path (b4 x)=((b4 g.ds[u].t).go path).map λ_=>((b4 g.ds[u].t).put path (b4 x)).lU:=by unfold vQ uo;rw[bY Z,h2,rv]
   have fa:=ata (M0:=[]) y8 aj.t ae ag nv Z aK;rw[<-fy]at fa;refine cN.BH aT rfl rfl rfl (ι:=Nat×Option Addr×Nat×Nat×Int×Bool×aI) (λy=>{ bn:=[(3,.ref 3 0),(4,.ref 4 0),(6,.ref 6 0),(8,.val (ptr y.1)),(9,.val (.bool y.2.2.2.2.2.1))],cl:=[(3,[.slice g.a g.n g.c]),(4,[.int .i64 u,.slice pa pn pc]),(6,[.slice none 0 0])],cm:=y.2.2.2.2.2.2,cK:=⟨y.1,.cells #[.slice y.2.1 y.2.2.1 y.2.2.2.1,.int .i64 y.2.2.2.2.1] 24 (0,0)⟩::M0 }) (λy=>oF (vQ g (u:Int) path (b4 x)) I [] (.tuple #[.agg #[.slice y.2.1 y.2.2.1 y.2.2.2.1,.int .i64 y.2.2.2.2.1],.bool y.2.2.2.2.2.1]) y.2.2.2.2.2.2 []) ?_ ?_
   ·refine bi.mk ad u bt rfl Z ?_;refine aJ.mk _ ((bj _).part (k:=1) (m:=2) bv) ?_;refine⟨?_,?_⟩
    ·refine a9.mk [] M0 _ (.refl _) fa ?_;rintro v J M1 a6 h;obtain⟨a,n,c,r,b,rfl,-⟩:=h.shape;obtain⟨ee,rfl,eS⟩:=h;refine bN.mk λdx qK s7=>?_;refine b'.mk [] M0 _ _ rfl rfl (bJ rfl) rfl ?_;exact⟨(dx,a,n,c,r,b,J),⟨ee,rfl,eS⟩,.refl,fh,.cons rfl (.cons rfl (.cons rfl (.nil)))⟩
    ·refine bN.mk λdx qK s7=>?_;refine er.mk _ fa ?_;rintro v J M1 a6 h;obtain⟨a,n,c,r,b,rfl,-⟩:=h.shape;obtain⟨ee,rfl,eS⟩:=h;refine b'.mk [] M0 _ _ rfl rfl (bJ rfl) rfl ?_;exact⟨(dx,a,n,c,r,b,J),⟨ee,rfl,eS⟩,.refl,fh,.cons rfl (.cons rfl (.cons rfl (.nil)))⟩
   rintro⟨dx,a,n,c,r,b,J⟩ate;obtain⟨ee,-,eS⟩:=ate;simp only at ee eS;refine aS.mk (λah=>?_) (λah=>?_)
   ·have ah:(!b)=true:=ah;refine⟨_,_,.sub (.cons _ (.refl _)) .refl,ee,rfl,?_⟩;cases oD:vQ g (u:Int) path (b4 x)with
    |none=>rfl
    |some X=>
     rw[oD]at eS;obtain⟨be,e,-⟩:=eS;injection e with e
     simp at e;rw[e.2]at ah;cases ah
   ·have ah:(!b)=false:=ah;obtain⟨X,oD⟩:∃ X,vQ g (u:Int) path (b4 x)=some X:=by
     cases oD:vQ g (u:Int) path (b4 x)with
     |none=>
      rw[oD]at eS;have eS:Value.tuple #[.agg #[.slice a n c,.int .i64 r],.bool b]=.tuple #[Uj,.bool false]:=eS;injection eS with e
      simp[Uj]at e;rw[e.2]at ah;cases ah
     |some X=>exact⟨X,rfl⟩
    rw[oD]at eS;obtain⟨be,e,hR,dN,bl,vR⟩:=eS;have bc:Value.agg #[.slice a n c,.int .i64 r]=be.val:=by
     injection e with e
     simp at e;rw[<-e.1]
    have jo:=apN (M0:=[]) (az.mono ee) hu Z hR;rw[<-bc]at jo;refine aJ.mk [.slice a n c,.int .i64 r] ⟨rfl,_,_,_,.inr ⟨_,.head _,rfl,rfl⟩,rfl,rfl⟩ ?_;refine a9.mk [] _ _ (.refl _) jo ?_;rintro v cS dp -⟨c1,rfl,bu,rfl,kU,xR,dI⟩;refine⟨_,_,.sub (.cons _ (.refl _)) .refl,λb o h=>c1 _ _ (ee _ _ h),rfl,?_⟩;rw[oD];refine⟨bu,be,rfl,kU,xR,?_,dN,bl,vR⟩;rw[h2,rv];exact dI
 ·have aa:rule<0:=cv h;refine⟨_,_,.refl,λ_ _ h=>h,rfl,?_⟩;unfold vQ uo;rw[bK Z];rfl
def Uo{X:aU}(oD:e0 X):∀ (p:List Int) {T:aU},e0 T->e0 (T.put p X)
 |[],T,h=>oD
 |i::p,.mk d ks,h=>by
  obtain⟨aC,af⟩:=h.inv;rw[aU.put];show e0 (aU.mk d (ks.set i.toNat ((ks.getD i.toNat (.mk d ks)).put p X)));refine .mk (by rw[rL];exact aC) λc ar=>?_;rcases sD ar with ar | rfl;·exact af c ar
  ·refine Uo oD p ?_;rw[bP];cases e:ks[i.toNat]? with
   |none=>exact h| some c=>exact af c (sg e)
def aeS{P:ak->Prop}:∀ (p:List Int) {T S:aU},ih P T->T.go p=some S->ih P S
 |[],T,S,h,e=>by rw[aU.go]at e;cases e;exact h
 |i::p,.mk d ks,S,h,e=>by
  rw[aU.go]at e;split at e
  ·refine aeS p ?_ e;show ih P (ks.getD i.toNat (.mk d ks));rw[bP];cases e:ks[i.toNat]? with
   |none=>exact h| some c=>exact h.inv.2 c (sg e)
  ·cases e
def aeT:∀ (p:List Int) {T S:aU},e0 T->T.go p=some S->e0 S
 |[],T,S,h,e=>by rw[aU.go]at e;cases e;exact h
 |i::p,.mk d ks,S,h,e=>by
  rw[aU.go]at e;split at e
  ·refine aeT p ?_ e;show e0 (ks.getD i.toNat (.mk d ks));rw[bP];cases e:ks[i.toNat]? with
   |none=>exact h| some c=>exact h.inv.2 c (sg e)
  ·cases e
def Up(h:right t=true):e0 (b4 t):=by obtain⟨T,aa,ab,al,aL,bB⟩:=(ix.1 h).F7;rw[al];exact Nf (ix.1 h).fit ab
def NF(h:right t=true):uh pl F t=(b4 t).fold (hZ pl F):=by obtain⟨gH,fT⟩:=kh h;obtain⟨r,ag⟩:=dZ gH;unfold uh ade b4;rw[ag];exact ark (λd l=>rfl) (ix.1 h) Z
def y9(aB:List Int)(g:cR)(u:Nat)(X:aU):Bool:=decide (ea aB (r1 (eQ g.ds u (jM X.post)))=0)
structure JG(aB:List Int)(g:cR)(F:List a0):Prop where
 n:g.ds.length=g.n
 m:ea aB g=0
 I8:iw g.ds F
 left:(rY g.ds F).length=0
 loops:(qb g.ds F).length=0
def py.NG(aE:g.ds.length=g.n){r:Int×Int}(h:py aB g r)(ax:r.2=0):∃ F,JG aB g F:=by
 have hm:ea aB g=0:=by
  rcases h with⟨a,e⟩ | ⟨a,-⟩;·rw[e]at ax;exact ax
  ·exact a
 obtain⟨aa,ab⟩:=(h.get hm).1 ax;rcases h with⟨a,-⟩ | ⟨-,F,bC,-⟩
 ·exact absurd hm a
 rw[Tb bC]at aa ab;exact⟨F,aE,hm,bC,aa,ab⟩
def atf(hm:ea aB g=0){d:a4}(aj:d∈g.ds):normal d.t=true:=by have:=fV.1 (Ji.1 hm).2.1 d aj;rw[cH]at this;exact this.2
def r9(hm:ea aB g=0){d:a4}(aj:d∈g.ds):right d.t=true:=(T9.1 (atf hm aj)).1
def atg{X:aU}(h:mq t X)(aE:t.ns.length=t.n):t.aW=(jM X.post).aW:=by
 have ay:X.post.length=t.ns.length:=by rw[<-h.aW,bA]
 have e:X.post.map ak.aW=X.post:=by refine oV am λi aa ab=>?_;rw[gl];exact adN X _ (bD _)
 unfold bf.aW jM;simp only[h.aW,e,h.bp,ay,aE]
def ath{ds:List a4}{y OH:bf}(h:y.aW=OH.aW):(eQ ds u y).map a4.aW=(eQ ds u OH).map a4.aW:=by unfold eQ;rw[qx,qx];congr 1;unfold a4.aW;rw[h]
def ati(ib:g.ds.length=g.n){X:aU}(dN:mq be X)(aE:be.ns.length=be.n)(s6:h.n=g.n)(ar:h.ds.map a4.aW=(eQ g.ds u be).map a4.aW):y9 aB g u X=decide (ea aB h=0):=by
 unfold y9;congr 1;have:ea aB (r1 (eQ g.ds u (jM X.post)))=ea aB h:=by rw[<-CA,<-CA aB h];congr 1;unfold cR.aW r1;rw[ar,s6,r8,ib,ath (atg dN aE)]
 rw[this]
section
end
structure ms(x y:xq):Prop where
 bn:x.1.1.le y.1.1
 JH:∀ k∈x.1.2,k∈y.1.2
 fi:x.2=true->y.2=true
def ms.rfl'(x:xq):ms x x:=⟨a0.le_refl _,λ_ h=>h,λh=>h⟩
def ms.trans{x y z:xq}(h:ms x y)(bu:ms y z):ms x z:=⟨h.bn.trans bu.bn,λk af=>bu.JH k (h.JH k af),λe=>bu.fi (h.fi e)⟩
def aeU:∀ {xs ys:List (a0×List Nat)},xs.length=ys.length->(∀ i (h:i<xs.length) (bu:i<ys.length),(xs[i].1.z=true->ys[i].1.z=true)/\∀ k∈xs[i].2,k∈ys[i].2)->∀ k∈kp xs,k∈kp ys
 |[],[],_,_,k,h=>by cases h
 |x::xs,y::ys,ay,h,k,af=>by
  have ax:=h 0 am am;simp only[tp]at ax;rw[kp]at af |-;rcases cW.1 af with af | af;·exact iy _ (ax.2 k af)
  ·cases bg:x.1.z with
   |false=>rw[bg]at af;cases af
   |true=>
    rw[bg]at af;rw[ax.1 bg];exact sf _ (aeU (xs:=xs) (ys:=ys) rt (λi g et=>by
     have aa:=h (i+1) d7 d7;simpa only[GU]using aa) k af)
def dY.Ij{a b:List a0}(ay:a.length=b.length)(h:∀ i (aa:i<a.length) (ab:i<b.length),(a[i]).le b[i]):dY a b:=by
 refine dY.of ay λi hi=>?_;have ab:i<b.length:=by omega
 have:=h i hi ab;simpa[bP,hi,ab]using this
def Uq(bC:dY df F)(d:ak){xs ys:List xq}(ay:xs.length=ys.length)(h:∀ i (ae:i<xs.length) (aF:i<ys.length),ms xs[i] ys[i]):ms (hZ pl df d xs) (hZ pl F d ys):=by
 have hm:dY ((xs.map (·.1)).map (·.1)) ((ys.map (·.1)).map (·.1)):=by refine dY.Ij rt λi aa ab=>?_;simp only[gl];exact(h i ol In).bn
 have S1:∀ k∈(xs.map (·.1)).flatMap (·.2),k∈(ys.map (·.1)).flatMap (·.2):=by
  intro k af;obtain⟨x,ae,af⟩:=hB.1 af;obtain⟨q,aM,rfl⟩:=hL ae;simp only[gl]at af;have aM:q<xs.length:=by simpa using aM
  have fx:(ys[q]' Z).1∈ys.map (·.1):=AW (bD _);exact hB.2 ⟨_,fx,(h q aM Z).JH k af⟩
 refine⟨?_,?_,?_⟩
 ·refine YD d (dY.append hm ?_);cases decide (d.k=3)with
  |true=>exact .cons (dY.getD bC _) .nil| false=>exact .nil
 ·show ∀ k∈lM pl d (xs.map (·.1)),k∈lM pl d (ys.map (·.1));unfold lM;by_cases cy:d.k=3
  ·rw[hM cy];exact λk af=>af
  rw[fb cy];by_cases dX:d.k=4;·rw[hM dX];refine aeU rt λi aa ab=>?_;simp only[gl];have:=h i ol In;exact⟨this.bn.z,this.JH⟩
  rw[fb dX];by_cases mg:d.k=6/\d.hi=0;·rw[hM mg.1,hM mg.2];exact λk af=>af
  ·have e:(decide (d.k=6)&&decide (d.hi=0))=false:=by rw[<-Jk];exact fb mg
   rw[e];exact S1
 ·show yS pl df d xs=true->yS pl F d ys=true;intro ax;obtain⟨x,ae,ax⟩:=Fm.1 ax;obtain⟨q,aM,rfl⟩:=hL ae;have aZ:=h q aM Z;refine Fm.2 ⟨_,bD (show q<ys.length by omega),?_⟩;rcases aqB ax with aa | aa
  ·rw[cH,cH]at aa;rw[aa.1,aa.2.1,aZ.bn.z aa.2.2];rfl
  ·rw[aZ.fi aa,Li]
def atj(bC:dY df F):∀ T:aU,ms (T.fold (hZ pl df)) (T.fold (hZ pl F)):=by
 intro T
 induction T using aU.ind with
 |h d ks aX=>rw[aU.fold_eq,aU.fold_eq];refine Uq bC d am λi aa ab=>?_;simp only[gl];exact aX _ (bD _)
def aeV{pl:List (ByteArray×Int)}{F:List a0}{X S:aU}(oD:ms (X.fold (hZ pl F)) (S.fold (hZ pl F))):∀ (p:List Int) (T:aU),T.go p=some S->ms ((T.put p X).fold (hZ pl F)) (T.fold (hZ pl F))
 |[],T,h=>by rw[aU.go]at h;cases h;exact oD
 |i::p,.mk d ks,h=>by
  rw[aU.go]at h;split at h
  ·rename_i hi;have hi:0<=i/\i<(ks.length:Int):=hi;obtain⟨q,rfl⟩:=dZ hi.1;have aM:q<ks.length:=by omega
   have aX:=aeV oD p _ h;rw[aU.put];show ms ((aU.mk d (ks.set q ((ks.getD q (.mk d ks)).put p X))).fold _) _;rw[aU.fold_eq,aU.fold_eq];refine Uq (dY.refl _) d am λj aa ab=>?_;rw[gl,gl,OW];split
   ·rename_i e;subst e;have bc:(aU.mk d ks).sub.getD ((q:Int)).toNat (.mk d ks)=ks[q]:=by show ks.getD q _=_;simp[bP,aM]
    rw[bc]at aX;have cy:ks.getD q (.mk d ks)=ks[q]:=by simp[bP,aM]
    rw[cy];exact aX
   ·exact ms.rfl' _
  ·cases h
structure xx(ds:List a4)(u:Nat)(y:bf):Prop where
 ul:u<ds.length
 r:right y=true
 rel:∀ F:List a0,ms (uh (bL ds) F y) (uh (bL ds) F (ds.getD u lq).t)
section
variable{ds:List a4}{u:Nat}{y:bf}(gk:xx ds u y)(ag:∀ d∈ds,right d.t=true)
include gk ag
theorem xx.atk:ds.getD u lq=ds[u]'gk.ul:=by have:=gk.ul;simp[bP,this]
theorem xx.bF{i:Nat}(hi:i<(eQ ds u y).length):right ((eQ ds u y)[i]).t=true/\∀ F,ms (uh (bL ds) F ((eQ ds u y)[i]).t) (uh (bL ds) F (ds[i]'(by rw[r8]at hi;exact hi)).t):=by
 have ck:i<ds.length:=by rw[r8]at hi;exact hi
 by_cases e:i=u
 ·subst e;have al:=Nx (y:=y) gk.ul;rw[du hi]at al;rw[eX al];refine⟨gk.r,λF=>?_⟩;have:=gk.rel F;rw[gk.atk ag]at this;exact this
 ·have al:=T7 (ds:=ds) (y:=y) e;rw[du hi,du ck]at al;rw[eX al];exact⟨ag _ (bD ck),λF=>ms.rfl' _⟩
theorem xx.I8(bC:iw ds F)(mY:iw (eQ ds u y) df):dY df F:=by
 refine mY.least F (by rw[r8];exact bC.len) λi hi=>?_;have ck:i<ds.length:=by rw[r8]at hi;exact hi
 obtain⟨aa,ab⟩:=gk.bF ag hi;rw[T6,aep aa,bC.fix i ck,aep (ag _ (bD ck))];exact(ab F).bn
theorem xx.bI(bC:iw ds F)(mY:iw (eQ ds u y) df){i:Nat}(hi:i<(eQ ds u y).length):ms (uh (bL ds) df ((eQ ds u y)[i]).t) (uh (bL ds) F (ds[i]'(by rw[r8]at hi;exact hi)).t):=by obtain⟨aa,ab⟩:=gk.bF ag hi;refine ms.trans ?_ (ab F);rw[NF aa,NF aa];exact atj (gk.I8 ag bC mY) _
theorem xx.aeW(bC:iw ds F)(mY:iw (eQ ds u y) df){i k:Nat}(af:k∈ml (eQ ds u y) df i):k∈ml ds F i:=by
 by_cases hi:i<(eQ ds u y).length
 ·have ck:i<ds.length:=by rw[r8]at hi;exact hi
  obtain⟨aa,-⟩:=gk.bF ag hi;unfold ml at af |-;rw[du hi,T6]at af;rw[du ck];have af:k∈(gF (bL ds) df (eQ ds u y)[i].t.ns (eQ ds u y)[i].t.bp).2:=af;show k∈(gF (bL ds) F ds[i].t.ns ds[i].t.bp).2;rw[<-aeq aa]at af;rw[<-aeq (ag _ (bD ck))];exact(gk.bI ag bC mY hi).JH k af
 ·rw[acv Z]at af;cases af
theorem xx.comes(bC:iw ds F)(mY:iw (eQ ds u y) df){i k:Nat}(ar:mR (ml (eQ ds u y) df) i k):mR (ml ds F) i k:=by
 induction ar with
 |one af=>exact .one (gk.aeW ag bC mY af)| step ai _ aX=>exact .step (gk.aeW ag bC mY ai) aX
theorem xx.atl(bC:iw ds F)(mY:iw (eQ ds u y) df){i:Nat}(he:xm (eQ ds u y) df i=true):xm ds F i=true:=by
 by_cases hi:i<(eQ ds u y).length
 ·have ck:i<ds.length:=by rw[r8]at hi;exact hi
  unfold xm at he |-;rw[du hi,T6]at he;rw[du ck];exact(gk.bI ag bC mY hi).fi he
 ·unfold xm at he;rw[rp Z]at he;cases he
theorem xx.NG(bC:iw ds F)(ay:(rY ds F).length=0)(ft:(qb ds F).length=0){ds':List a4}(ar:ds'.map a4.aW=(eQ ds u y).map a4.aW)(mY:iw ds' df):(rY ds' df).length=0/\(qb ds' df).length=0:=by
 have Mn:iw (eQ ds u y) df:=acJ (by rw[<-ar];exact akU mY);have c0:ds'.length=ds.length:=by have:=congrArg List.length ar;rw[bA,bA,r8]at this;exact this
 refine⟨?_,?_⟩
 ·rw[List.length_eq_zero_iff,aew]at ay |-;intro i hi;rw[ac9]at hi;refine ay i (ac9.2 ⟨Z,gk.comes ag bC Mn ?_⟩);have e:ml ds' df=ml (eQ ds u y) df:=by funext i;rw[<-Th,ar,Th]
  rw[<-e];exact hi.2
 ·rw[List.length_eq_zero_iff,aew]at ft |-;intro i hi;rw[<-Ti,ar,Ti]at hi;unfold qb at hi ft;rw[n8,kx,r8]at hi;exact ft i (n8.2 ⟨kx.2 hi.1,gk.atl ag bC Mn hi.2⟩)
end
def mU(g:cR)(u:Nat)(p:List Int)(x:aU):aU:=((b4 (g.ds.getD u lq).t).put p x).lU
structure NH(g:cR)(S x:aU):Prop where
 ok:e0 x
 nm:ih (A4 g.ds) S->ih (A4 g.ds) x
 le:∀ F:List a0,ms (x.fold (hZ (bL g.ds) F)) (S.fold (hZ (bL g.ds) F))
section
variable{aB:List Int}{g:cR}{F:List a0}(hw:JG aB g F)
include hw
theorem aeX(hu:u<g.ds.length){x:aU}(ae:e0 x):e0 (mU g u p x)/\jA (mU g u p x)/\q1 (mU g u p x):=by
 have qi:g.ds.getD u lq=g.ds[u]:=by simp[bP,hu]
 unfold mU;rw[qi];exact⟨Dn (Uo ae p (Up (r9 hw.m (bD hu)))),JA _,asl _⟩
theorem atm{x:aU}(hu:u<g.ds.length)(cQ:(b4 g.ds[u].t).go p=some S)(ae:NH g S x)(dN:mq be (mU g u p x))(gu:be.ns.length=be.n)(s6:h.n=g.n)(ax1:h.ds.length=h.n)(ar:h.ds.map a4.aW=(eQ g.ds u be).map a4.aW) :
  (ea aB h=0\/ea aB h=40)/\y9 aB g u (mU g u p x)=decide (ea aB h=0)/\∀ r,py aB h r->(r.2=0 ↔ ea aB h=0):=by
 obtain⟨bl,ah,ED⟩:=aeX hw (p:=p) hu ae.ok;have qi:g.ds.getD u lq=g.ds[u]:=by simp[bP,hu]
 have pz:=dN.right bl;have hX:=dN.b4 bl ah;have Ur:=r9 hw.m (bD hu);have atn:∀ d∈g.ds,right d.t=true:=λd aj=>r9 hw.m aj;have eV:normal be=true:=T9.2 ⟨pz,by rw[hX];exact ED⟩;have kY:∀ d∈be.ns,A4 g.ds d:=by
  have e6:=(Ji.1 hw.m).2.2.2.2;have a8:ih (A4 g.ds) (b4 g.ds[u].t):=(aet Ur).2 λd aj=>e6 _ (bD hu) d aj;have:ih (A4 g.ds) (b4 be):=by rw[hX];unfold mU;rw[qi];exact T' (λd aj=>aj) (λh=>ci) (λh=>ci) (aeu (ae.nm (aeS p a8 cQ)) p a8)
  exact(aet pz).1 this
 have ato:=asp hw.n hw.m hu eV kY s6 ar;have aZ:xx g.ds u be:=by refine⟨hu,pz,λdf=>?_⟩;rw[qi,NF pz,hX];unfold mU;rw[qi,T5 (TI _ _) (Uo ae.ok p (Up Ur)),NF Ur];exact aeV (ae.le df) p _ cQ
 refine⟨ato,ati hw.n dN gu s6 ar,λr ag=>?_⟩;constructor
 ·intro ax;rcases ag with⟨a,e⟩ | ⟨a,-⟩
  ·rw[e]at ax;exact ax
  ·exact a
 ·intro hm;rw[ag.get hm];rcases ag with⟨a,-⟩ | ⟨-,df,mY,-⟩
  ·exact absurd hm a
  ·rw[Tb mY];exact aZ.NG atn hw.I8 hw.left hw.loops ar mY
end
def atp(_:ak)(xs:List Nat):Nat:=xs.sum+1
def dT(T:aU):Nat:=T.fold atp
def lV(d:ak)(ks:List aU):dT (.mk d ks)=(ks.map dT).sum+1:=by unfold dT;rw[aU.fold_eq];rfl
def Ba(T:aU):0<dT T:=by
 cases T with
 |mk d ks=>rw[lV];omega
def JI:∀ T:aU,T.post.length=dT T:=by
 intro T
 induction T using aU.ind with
 |h d ks aX=>rw[aU.ld,aqy,lV,gE];congr 2;exact fX λc ar=>aX c ar
def atq(ns:List ak):∀ T:aP,dT (T.bare ns)=T.c5.length:=by
 intro T
 induction T using aP.ind with
 |h k ks aX=>rw[aP.nA,lV,aP.mT,ct,yg,gE,pi];congr 2;exact fX λc ar=>aX c ar
def aeY{α:Type}(f:α->Nat)(p:α->Bool):∀ l:List α,((l.filter p).map f).sum<=(l.map f).sum
 |[]=>cf _
 |a::l=>by
  have:=aeY f p l;rw[CY];split<;>simp only[ch,hx]<;>omega
def atr(d:ak)(xs:List aU):dT (n6 d xs)<=(xs.map dT).sum+1:=by
 rw[Jw];split
 ·have h:=aeY dT (ku d) xs;generalize xs.filter (ku d)=bn at h
  match bn,h with
  |[],_=>rw[lV];simp| [y],h=>simp only[ch,hd,hx,x5]at h;show dT y<=_;omega| Jy::Jz::l,h=>rw[lV];omega
 ·rw[lV];exact cf _
def ats:∀ T:aU,dT (T.fold n6)<=dT T:=by
 intro T
 induction T using aU.ind with
 |h d ks aX=>rw[aU.fold_eq,lV];refine iO (atr d _) ?_;rw[gE];have:=M2 (l:=ks) (f:=dT ∘ aU.fold n6) (g:=dT) λc ar=>aX c ar;omega
def Us(f:aU->List aU):∀ l:List aU,((l.flatMap f).map dT).sum=(l.map λc=>((f c).map dT).sum).sum
 |[]=>rfl| a::l=>by rw[iS,cJ,pW,Us f l];rfl
def att:∀ T:aU,dT T.bw<=dT T/\∀ b3,((T.ga b3).map dT).sum<=dT T:=by
 intro T
 induction T using aU.ind with
 |h d ks aX=>
  have pC:dT (aU.mk d ks).bw<=dT (.mk d ks):=by show dT (.mk d (ks.flatMap (aU.ga (iM d))))<=_;rw[lV,lV,Us];have:=M2 (l:=ks) (f:=λc=>((c.ga (iM d)).map dT).sum) (g:=dT) λc ar=>(aX c ar).2 _;omega
  refine⟨pC,λb3=>?_⟩;rw[aU.qZ];split;·rw[Us,lV];have:=M2 (l:=ks) (f:=λc=>((c.ga b3).map dT).sum) (g:=dT) λc ar=>(aX c ar).2 _;omega
  ·simpa using pC
def Ut(T:aU):dT T.lU<=dT T:=iO (att _).1 (ats T)
def aeZ:∀ (l:List Nat) (i x:Nat) (h:i<l.length),(l.set i x).sum+l[i]=l.sum+x
 |[],i,x,h=>by simp at h
 |a::l,0,x,h=>by simp;omega
 |a::l,i+1,x,h=>by have:=aeZ l i x i9;simp only[List.set_cons_succ,hx,GU];omega
def JJ{X S:aU}:∀ (p:List Int) (T:aU),T.go p=some S->dT (T.put p X)+dT S=dT T+dT X
 |[],T,h=>by rw[aU.go]at h;cases h;rw[aU.put];omega
 |i::p,.mk d ks,h=>by
  rw[aU.go]at h;split at h
  ·rename_i hi;have hi:0<=i/\i<(ks.length:Int):=hi;obtain⟨q,rfl⟩:=dZ hi.1;have aM:q<ks.length:=by omega
   have bc:ks.getD q (.mk d ks)=ks[q]:=by simp[bP,aM]
   have aX:=JJ (X:=X) p _ h;rw[aU.put];show dT (aU.mk d (ks.set q ((ks.getD q (.mk d ks)).put p X)))+_=_;have aX:dT ((ks.getD q (.mk d ks)).put p X)+dT S=dT (ks.getD q (.mk d ks))+dT X:=aX;rw[bc]at aX |-;rw[lV,lV,qx];have al:=aeZ (ks.map dT) q (dT (ks[q].put p X)) (by rw[bA];exact aM);rw[gl]at al;omega
  ·cases h
def F9(h:right t=true):dT (b4 t)<=t.ns.length:=by obtain⟨T,aa,ab,al,aL,bB⟩:=(ix.1 h).F7;rw[al,atq];exact bB
def a5.minus(x y:a5):a5:=⟨x.a &&& ~~~y.a,x.b &&& ~~~y.b,x.c &&& ~~~y.c,x.d &&& ~~~y.d⟩
def JK(w:a5):ak:=⟨1,w.a.toNat,w.b.toNat,w.c.toNat,w.d.toNat,⟨#[]⟩,0,0,none,0,0,[]⟩
def kv(w:a5):aU:=.mk (JK w) []
def oG(T:aU):Option a5:=if T.d.k=1 then some T.d.ws else none
def q3(T:aU):Option a5:=if T.d.k=1 then some T.d.ws else if T.d.k=2/\T.d.t.size=1 then some (nn T.d.t.data.toList)else none
def oH(k:Int)(T:aU):Option a5:=if T.d.k=k then(match T.sub with
 |c::_=>oG c| []=>none)else none
def r'(f:a5->a5->a5):Option a5->Option a5->Option a5
 |some x,some y=>some (f x y)| _,_=>none
def xy(w:Int)(A B:aU):Option a5:=
 if w=1 then r' a5.or (q3 A) (q3 B)
 else if w=2 then r' (λx y=>y.minus x) (oH 8 A) (oG B)
 else if w=3 then r' a5.and (oH 7 A) (oG B)
 else none
def j6(w:Int):Int:=if w=1 then 5 else 4
def q4(k:Int)(l:List aU):aU:=match l with
 |[]=>.mk (nothing (k-4)) []| [x]=>x.lU| x::y::l=>(aU.mk (nothing k) (x::y::l)).lU
def s8(w bF:Int)(S:aU):Option aU:=if S.d.k=j6 w/\0<=bF/\bF+1<S.sub.length then(xy w (S.sub.getD bF.toNat S) (S.sub.getD (bF.toNat+1) S)).map λs=>q4 (j6 w) (S.sub.take bF.toNat++kv s::S.sub.drop (bF.toNat+2))else none
def vS(g:cR)(u:Nat)(p:List Int)(w bF:Int):Option aU:=((b4 (g.ds.getD u lq).t).go p).bind λS=>(s8 w bF S).map λx=>mU g u p x
def sb(aB:List Int)(g:cR)(u:Nat)(p:List Int)(w bF:Int):Bool:=match vS g u p w bF with
 |some X=>y9 aB g u X| none=>false
def atu(w:Int):j6 w=4\/j6 w=5:=by
 unfold j6;split<;>simp
def NI(h:k=4\/k=5)(aE:2<=n):Go.V.fits (nothing k) n=true:=by
 have ab:¬ ((n:Int)<2):=by omega
 rcases h with rfl | rfl
 ·simp[Go.V.fits,nothing,oe,nc,jl,ak.jW];omega
 ·simp[Go.V.fits,nothing,oe,nc,jl,ak.jW];omega
def Uu(w:a5):e0 (kv w):=.mk (by
 simp[Go.V.fits,JK,oe,nc,jl]) λc ar=>by cases ar
def atv(af:k=4\/k=5)(ay:∀ c∈l,e0 c):e0 (q4 k l):=by
 cases l with
 |nil=>exact aeg (d:=nothing k) af
 |cons x l=>
  cases l with
  |nil=>exact Dn (ay x (.head _))| cons y l=>exact Dn (.mk (NI af am) ay)
def atw{P:ak->Prop}(ah:∀ d,P d->P d.bare)(ax:∀ k,k≠3->P (nothing k))(af:k=4\/k=5)(ay:∀ c∈l,ih P c):ih P (q4 k l):=by
 have aa:=ah _ (ax 0 bv);have ab:=ah _ (ax 1 bv);cases l with
 |nil=>exact .mk (ax _ Z) λc ar=>by cases ar
 |cons x l=>
  cases l with
  |nil=>exact T' ah aa ab (ay x (.head _))| cons y l=>exact T' ah aa ab (.mk (ax _ Z) ay)
def atx(k:Int)(l:List aU):dT (q4 k l)<=(l.map dT).sum+1:=by
 cases l with
 |nil=>exact Nat.le_of_eq (lV _ _)
 |cons x l=>
  cases l with
  |nil=>exact Nat.le_succ_of_le (iO (Ut x) am)| cons y l=>exact iO (Ut _) (Nat.le_of_eq (lV _ _))
section
variable{α:Type}{F:ak->List α->α}(bC:TG F)
include bC
theorem aty{d d':ak}(h:d.k=4\/d.k=5)(bu:d'.k=d.k)(xs:List α):F d xs=F d' xs:=by have aa:=bC.nest d d' [] xs [] h bu;simp only[hW,dE]at aa;rw[<-aa,bC.one d _ h]
theorem atz(af:k=4\/k=5)(ay:∀ c∈l,e0 c)(bH:l≠[]):(q4 k l).fold F=F (nothing k) (l.map (aU.fold F)):=by
 cases l with
 |nil=>exact absurd rfl bH
 |cons x l=>
  cases l with
  |nil=>show x.lU.fold F=F (nothing k) [x.fold F];rw[T5 bC (ay x (.head _)),bC.one (nothing k) _ af]| cons y l=>show(aU.mk (nothing k) (x::y::l)).lU.fold F=_;rw[T5 bC (.mk (NI af am) ay),aU.fold_eq]
theorem atA{d:ak}(h:d.k=4\/d.k=5)(ba:List α)(a b:α)(post:List α):F d (ba++a::b::post)=F (nothing d.k) (ba++F (nothing d.k) [a,b]::post):=by rw[aty bC h (d':=nothing d.k) rfl];exact(bC.nest (nothing d.k) (nothing d.k) ba [a,b] post h rfl).symm
end
def Uv{α:Type}(l:List α)(i:Nat)(h:i+1<l.length):l=l.take i++l[i]' Z::l[i+1]::l.drop (i+2):=by have aa:l.drop i=l[i]' Z::l.drop (i+1):=e9 Z;have ab:l.drop (i+1)=l[i+1]::l.drop (i+2):=e9 h;rw[<-ab,<-aa,pO]
def ae0{bF:Int}{x:aU}(h:s8 w bF S=some x):∃ (i:Nat) (s:a5),bF=(i:Int)/\S.d.k=j6 w/\∃ hi:i+1<S.sub.length,xy w (S.sub[i]' Z) (S.sub[i+1])=some s/\x=q4 (j6 w) (S.sub.take i++kv s::S.sub.drop (i+2)):=by
 unfold s8 at h;split at h
 ·rename_i ar;obtain⟨i,rfl⟩:=dZ ar.2.1;have hi:i+1<S.sub.length:=by omega
  have aN:S.sub.getD ((i:Nat):Int).toNat S=S.sub[i]' Z:=by
   show S.sub.getD i S=_;have:i<S.sub.length:=by omega
   simp[bP,this]
  have bc:S.sub.getD (((i:Nat):Int).toNat+1) S=S.sub[i+1]:=by show S.sub.getD (i+1) S=_;simp[bP,hi]
  rw[aN,bc]at h;cases au:xy w (S.sub[i]' Z) (S.sub[i+1])with
  |none=>rw[au]at h;cases h| some s=>rw[au]at h;exact⟨i,s,rfl,ar.1,hi,au,(eX h).symm⟩
 ·cases h
def e0.AZ(h:e0 S):∀ c∈S.sub,e0 c:=by
 cases S with
 |mk d ks=>exact h.inv.2
def aU.eta(S:aU):S=.mk S.d S.sub:=by cases S;rfl
def atB(cQ:e0 S){i:Nat}{s:a5}:∀ c∈S.sub.take i++kv s::S.sub.drop (i+2),e0 c:=by
 intro c ar;rcases cW.1 ar with ar | ar
 ·exact cQ.AZ c (uW ar)
 ·rcases ez.1 ar with rfl | ar
  ·exact Uu s
  ·exact cQ.AZ c (Fz ar)
def atC{d:ak}(h:d.jW=true):d.ws=a5.zero:=by unfold ak.jW at h;simp only[cH,beq_iff_eq]at h;obtain⟨ax,aa,ab,al⟩:=h;unfold ak.ws;rw[ax,aa,ab,al];rfl
def atD(w:a5):(JK w).jW=decide (w=a5.zero):=by
 have bg:∀ x:BitVec 64,((x.toNat:Int) == 0)=decide (x=0):=λx=>by have:=EO (x:=x) (y:=0);simpa using this
 unfold ak.jW JK;simp only[bg];rw[<-Jk,<-Jk,<-Jk];refine decide_eq_decide.2 ⟨λh=>?_,λh=>?_⟩
 ·exact a5.ext' h.1 h.2.1 h.2.2.1 h.2.2.2
 ·subst h;exact⟨rfl,rfl,rfl,rfl⟩
def a5.atE(y:a5):a5.zero.minus y=a5.zero:=by unfold a5.minus a5.zero;simp
def a5.and_zero(x:a5):x.and a5.zero=a5.zero:=by unfold a5.and a5.zero;simp
def a5.zero_and(x:a5):a5.zero.and x=a5.zero:=by unfold a5.and a5.zero;simp
section
variable{pl:List (ByteArray×Int)}{F:List a0}
def uq(pl:List (ByteArray×Int))(F:List a0)(T:aU):a0:=(T.fold (hZ pl F)).1.1
def NJ(d:ak)(ks:List aU)(al:d.k≠3):uq pl F (.mk d ks)=gL d (ks.map (uq pl F)):=by unfold uq;rw[aU.fold_eq];show gL d _=_;rw[fb al];simp[gE];rfl
def atF{d:ak}(h:d.k=1)(ks:List aU):uq pl F (.mk d ks)=⟨false,!d.jW,true⟩:=by rw[NJ d ks Z];simp[gL,h]
def JL{x:a5}(h:oG T=some x):∃ b,uq pl F T=⟨false,b,true⟩/\(x≠a5.zero->b=true):=by
 cases T with
 |mk d ks=>
 unfold oG at h;split at h
 ·rename_i aa;have aa:d.k=1:=aa;refine⟨_,atF aa ks,λae=>?_⟩;cases bg:d.jW with
  |false=>rfl| true=>have:=atC bg;exact absurd (by rw[<-this];exact(eX h).symm) ae
 ·cases h
def ae1{x:a5}(h:q3 T=some x):∃ b,uq pl F T=⟨false,b,true⟩/\(x≠a5.zero->b=true):=by
 by_cases aa:T.d.k=1
 ·refine JL (x:=x) ?_;unfold q3 at h;rw[bY aa]at h;unfold oG;rw[bY aa,h]
 ·cases T with
  |mk d ks=>
  unfold q3 at h;rw[bK aa]at h;have aa:¬ d.k=1:=aa;split at h;·rename_i ab;have ab:d.k=2:=ab.1;refine⟨true,?_,λ_=>rfl⟩;rw[NJ d ks Z];simp[gL,ab]
  ·cases h
def ae2{x:a5}(h:oH k T=some x):∃ d c cs,T=.mk d (c::cs)/\d.k=k/\oG c=some x:=by
 cases T with
 |mk d ks=>
 unfold oH at h;split at h
 ·rename_i aa;cases ks with
  |nil=>cases h| cons c cs=>exact⟨d,c,cs,rfl,aa,h⟩
 ·cases h
def atG{A B:aU}{s:a5}(h:xy w A B=some s):ms ((kv s).fold (hZ pl F)) (hZ pl F (nothing (j6 w)) [A.fold (hZ pl F),B.fold (hZ pl F)]):=by
 have aN:(kv s).fold (hZ pl F)=((⟨false,!(JK s).jW,true⟩,[]),false):=by unfold kv;rw[aU.fold_eq];rfl
 rw[aN,atD];have jf:∀ {f:a5->a5->a5} {a b:Option a5},r' f a b=some s->∃ x y,a=some x/\b=some y/\s=f x y:=by
  intro f a b ah;cases a with
  |none=>cases ah
  |some x=>
   cases b with
   |none=>cases ah| some y=>exact⟨x,y,rfl,rfl,(eX ah).symm⟩
 suffices ma:a0.le ⟨false,!decide (s=a5.zero),true⟩ (hZ pl F (nothing (j6 w)) [A.fold (hZ pl F),B.fold (hZ pl F)]).1.1 from⟨ma,λk af=>aig,λh=>ci⟩
 unfold xy at h;by_cases aa:w=1
 ·rw[bY aa]at h;obtain⟨x,y,ae,aF,rfl⟩:=jf h;obtain⟨a,a8,sS⟩:=ae1 (pl:=pl) (F:=F) ae;obtain⟨b,ah,g2⟩:=ae1 (pl:=pl) (F:=F) aF;have k3:j6 w=5:=bY aa;rw[k3,FQ rfl];show a0.le _ (p1 [uq pl F A,uq pl F B]);rw[a8,ah];refine⟨λh=>ci,λaw=>?_,λ_=>rfl⟩;have aw:x.or y≠a5.zero:=by simpa using aw
  by_cases gj:x=a5.zero
  ·have:y≠a5.zero:=λe=>aw (by rw[gj,e];exact a5.zero_or _);rw[g2 this];cases a<;>rfl
  ·rw[sS gj];rfl
 rw[bK aa]at h;have dX:j6 w=4:=bK aa;rw[dX,AX rfl];show a0.le _ (hC [uq pl F A,uq pl F B]);by_cases ab:w=2
 ·rw[bY ab]at h;obtain⟨x,y,ae,aF,rfl⟩:=jf h;obtain⟨d,c,cs,rfl,aj,ar⟩:=ae2 ae;obtain⟨a,a8,sS⟩:=JL (pl:=pl) (F:=F) ar;obtain⟨b,ah,g2⟩:=JL (pl:=pl) (F:=F) aF;have mm:uq pl F (.mk d (c::cs))=⟨true,false,a⟩:=by rw[NJ _ _ Z,ch,a8];simp[gL,aj,a0.jZ]
  rw[mm,ah];refine⟨λh=>ci,λaw=>?_,λ_=>?_⟩
  ·have aw:y.minus x≠a5.zero:=by simpa using aw
   have:y≠a5.zero:=λe=>aw (by rw[e];exact a5.atE _);rw[g2 this];cases a<;>rfl
  ·cases a<;>cases b<;>rfl
 rw[bK ab]at h;by_cases al:w=3
 ·rw[bY al]at h;obtain⟨x,y,ae,aF,rfl⟩:=jf h;obtain⟨d,c,cs,rfl,aj,ar⟩:=ae2 ae;obtain⟨a,a8,sS⟩:=JL (pl:=pl) (F:=F) ar;obtain⟨b,ah,g2⟩:=JL (pl:=pl) (F:=F) aF;have mm:uq pl F (.mk d (c::cs))=⟨a,false,true⟩:=by rw[NJ _ _ Z,ch,a8];simp[gL,aj,a0.jZ]
  rw[mm,ah];refine⟨λh=>ci,λaw=>?_,λ_=>?_⟩
  ·have aw:x.and y≠a5.zero:=by simpa using aw
   have aL:y≠a5.zero:=λe=>aw (by rw[e];exact a5.and_zero _);have bB:x≠a5.zero:=λe=>aw (by rw[e];exact a5.zero_and _);rw[g2 aL,sS bB];rfl
  ·cases a<;>cases b<;>rfl
 ·rw[bK al]at h;cases h
end
def ae3{bF:Int}{x:aU}(cQ:e0 S)(h:s8 w bF S=some x):NH g S x:=by
 obtain⟨i,s,rfl,af,hi,au,rfl⟩:=ae0 h;have hQ:=atu w;have eR:S.d.k=4\/S.d.k=5:=by rw[af];exact hQ
 have qD:=atB cQ (i:=i) (s:=s);refine⟨atv hQ qD,λa8=>?_,λF=>?_⟩
 ·have aw:∀ c∈S.sub,ih (A4 g.ds) c:=by rw[S.eta]at a8;exact a8.inv.2
  refine atw (λd aj=>aj) (λk af al=>absurd al af) hQ λc ar=>?_;rcases cW.1 ar with ar | ar;·exact aw c (uW ar)
  ·rcases ez.1 ar with rfl | ar
   ·exact .mk (λal=>absurd (show(1:Int)=3 from al) bv) λc ar=>by cases ar
   ·exact aw c (Fz ar)
 ·rw[atz (TI _ _) hQ qD am]
  conv=>rhs;rw[S.eta,aU.fold_eq,Uv S.sub i hi]
  rw[cJ,cJ,ch,ch,ch,atA (TI _ _) eR,af];refine Uq (dY.refl _) _ am λj aa ab=>?_;rw[List.getElem_append,List.getElem_append];split;·exact ms.rfl' _
  ·rw[OV,OV];split
   ·exact atG au
   ·exact ms.rfl' _
def atH(l:List aU)(i:Nat)(h:i+1<l.length):((l.take i).map dT).sum+(dT (l[i]' Z)+(dT l[i+1]+((l.drop (i+2)).map dT).sum))=(l.map dT).sum:=by
 conv=>rhs;rw[Uv l i h]
 rw[cJ,pW,ch,ch,hx,hx]
def ae4{bF:Int}{x:aU}(h:s8 w bF S=some x):dT x<dT S:=by
 obtain⟨i,s,rfl,af,hi,au,rfl⟩:=ae0 h;have aa:=atx (j6 w) (S.sub.take i++kv s::S.sub.drop (i+2));have ab:=atH S.sub i hi;have al:=Ba (S.sub[i]' Z);have aL:=Ba S.sub[i+1];have bB:dT S=(S.sub.map dT).sum+1:=by
  conv=>lhs;rw[S.eta]
  exact lV _ _
 have cA:dT (kv s)=1:=lV _ _;rw[cJ,ch,pW,hx]at aa;omega
section
variable{P:Program}{w:World}
def atI(t u ty e:Nat)(i:TypeInfo)(z:Value)(au:P.underlying t=some (.slice e)){m7:TypeDesc}(hu:P.underlying u=some m7)(ob:∀ k,m7≠.int k)(hi:P.info? e=some i)(bg:i.zero=some z)(qB:z.cells.size=i.size)
 (kk:xs.length=n*i.size) (Hz:∀ w':World,w'.heap=w.heap->∀ j v,xs[j]?=some v->w'.cell? (ad.add j)=some v)
  {x:Value} (hm:0<m) (ay:cb.length=m*i.size)
  (c0:∀ w',(Builtin.lenOf x).run P w'=.ok m w') (e3:∀ w':World,w'.heap=w.heap->(Builtin.firstCells i.size m x).run P w'=.ok cb.toArray w')
  (b1:n+m<=maxLen) (b8:(n+m)*i.bytes<=140737488355328) :
  ∃ (c:Nat) (aR:List Value),(Builtin.append_ #[t,u] ty #[.slice (some ad) n n,x]).run P w=.ok (.slice (some ⟨w.heap.size,0,none⟩) (n+m) c) (w.drew.alloc (.cells aR.toArray e (0,0)))/\aR.length=c*i.size/\n+m<=c/\c<=maxLen/\aR.take ((n+m)*i.size)=xs++cb:=by
 have D6:(xs++cb).length=(n+m)*i.size:=by rw[ct,kk,ay,kD]
 have KD:∀ dR,(xs++cb++(Builtin.zeroCells z.cells (grownCap w (n+m) dR e-(n+m))).toList).length=grownCap w (n+m) dR e*i.size/\n+m<=grownCap w (n+m) dR e/\grownCap w (n+m) dR e<=maxLen /\
   (xs++cb++(Builtin.zeroCells z.cells (grownCap w (n+m) dR e-(n+m))).toList).take ((n+m)*i.size)=xs++cb:=by
  intro dR;have cM:=grownCap_ge w (n+m) dR e;have l6:grownCap w (n+m) dR e<=maxLen:=grownCap_le_maxLen w (n+m) dR e b1;refine⟨?_,cM,l6,?_⟩;·rw[ct,D6,wx,size_zeroCells,qB,<-kD];congr 1;omega
  ·rw[<-D6];exact wy
 have iU:n+m<=9223372036854775807:=by simp only[maxLen]at b1;exact b1
 have aE:m≠0:=by omega
 have uN:¬ (n+m<=n):=by omega
 have BN:¬ (9223372036854775807<((n:Int)+(m:Int))):=by omega
 have BO:¬ (281474976710656<Builtin.nextslicecap (n+m) n*i.bytes):=by have:=growslice_fits (by omega:n<n+m) b8;omega
 have aC:=e3 w.drew rfl;have O2:=run_firstCells_some (P:=P) w.drew i.size n ad n n xs kk (Hz w.drew rfl);obtain⟨bb,bh,b2,gg⟩:=KD n;refine⟨grownCap w (n+m) n e,_,?_,bb,bh,b2,gg⟩;simp[Builtin.append_,run_underlying au,run_underlying hu,sizeOf,typeInfo,zeroValue,hi,bg,c0,aE,uN,BN,BO,Question.forced,aC,O2,newRow,grownCap];congr 2;apply lY;simp
end
section
variable{X:c3}{β:Nat->Nat}{a:Act}{w:World}{F:Fr}{C:dB}{I:aI}{M:List aD}{o:Oper}{K:gx}
def atJ{P:Program}(aE:cG I M ad (m*size) cb){w:World}(hw:eJ I M w):(Builtin.firstCells size m (.slice (some ad) m c')).run P w=.ok cb.toArray w:=by
 obtain⟨de,cs,T,ap,eF,an,ay⟩:=aE;refine run_firstCells_some (P:=P) w size m ad m c' cb ay λj v ai=>?_;rw[eK _ de,th (eF.heap hw)];rw[<-an,lv]at ai;split at ai
 ·rw[nC]at ai;simpa using ai
 ·cases ai
def ae5(h:cG I M ad n xs):xs.length=n:=by obtain⟨_,_,_,_,_,_,h⟩:=h;exact h
theorem kZ.atK{K:dK->aI->List aD->Prop}(aQ:cX X.P X.E){t:Nat}(aG:o.op=.call { callee:=.builtin .append,args:=#[s,x],argTypes:=#[t,t] })
  {e:Nat} (au:X.E t=some dd) (dA:dd.bM=.slice e) (he:X.E e=some aH)
  {sa:Addr} (aw:bI F s=.val (.slice (some sa) n n)) (bj:cG I M sa (n*aH.size) xs)
 (ae:bI F x=.val (.slice (some ad) m c')) (hm:0<m) (aE:cG I M ad (m*aH.size) cb) (b1:n+m<=maxLen) (b8:(n+m)*aH.bytes<=140737488355328)
  (M':aO->List aD) (yH:∀ br:aO,(br.aq e++M).Perm (M' br))
  (k:∀ br:aO,br.n=n+m->(∀ g,br.a=some g->I g=none/\g ∉ X.foot)->br.ok aH.size (xs++cb)->K (.val br.val) I (M' br)):kZ X o F C I M K:=by
 refine⟨fun β a w Q aZ=>?_⟩;have kk:=ae5 bj;have yZ:=ae5 aE;have e3:∀ w,eJ I M w->(Builtin.firstCells aH.size m (.slice (some ad) m c')).run X.P w=.ok cb.toArray w:=λw hw=>atJ aE hw;obtain⟨inf,z,hi,fp,hs,h8,j'⟩:=(aQ _ _ he).inf;obtain⟨g7,iu,k2⟩:=(aQ _ _ au).fA;have oY:g7=.slice e:=by rw[dA]at k2;cases g7<;>simp_all[fz]
 subst oY;have qB:z.cells.size=inf.size:=by rw[fp,<-(aQ _ _ he).len,<-j'];simp
 rw[<-fp]at kk yZ e3;obtain⟨c,aR,fk,bb,bh,b2,gg⟩:=atI (P:=X.P) (w:=w) t t o.type e inf z iu iu (λk cY=>by cases cY) hi h8 qB kk (λw' xX j v ai=>bj.Mb (aZ.holds.heap xX) j v ai) (x:=.slice (some ad) m c') hm yZ (λ_=>rfl) (λw' xX=>e3 w' (aZ.holds.heap xX)) b1 as';rw[fp]at bb gg kk yZ;have zK:I w.heap.size=none:=by
  cases bG:I w.heap.size with
  |none=>rfl| some nM=>have:=aZ.holds.i _ _ bG;simp at this
 have es:=dt aZ.ap aw;have ex:=dt aZ.ap ae;have kU:(⟨some w.heap.size,n+m,c,aR⟩:aO).ok aH.size (xs++cb):=by
  refine⟨?_,(λh=>ci),λet az=>?_⟩;·rw[ct,kk,yZ,<-kD]
  ·cases az;exact⟨bb,bh,b2,gg⟩
 refine iQ f9 (v:=.slice (some ⟨w.heap.size,0,none⟩) (n+m) c) (w':=w.drew.alloc (.cells aR.toArray e (0,0))) ?_ ⟨_,.val (.slice (some ⟨w.heap.size,0,none⟩) (n+m) c),I,M' ⟨some w.heap.size,n+m,c,aR⟩,rfl,rfl,?_,k ⟨some w.heap.size,n+m,c,aR⟩ rfl (λet az=>by cases az;exact⟨zK,λhm=>by have aa:=aZ.fH _ hm;have ab:=aZ.sz;omega⟩) kU,rfl⟩
 ·unfold execOp;simp only[aG,resolve,invoke,builtin,cz,dn,cd,rs,ch,hd,es,ex,fk]
 ·refine cT.h6 ?_ (.perm (yH _) .refl);have ab:cT X β a w.drew F C I M:=aZ.world rfl;exact ab.n' (.cells aR.toArray e (0,0))
end
section
end
section
end
section
end
section
end
section
end
def Dt(I:aI):List aD->aI
 |[]=>I| x::L=>Dt (ins I x.num x.obj) L
def ae6{foot:List Nat}{M:List aD}:∀ {I:aI} (L:List aD),(∀ x∈L,x.num ∉ foot)->h5 foot I (L++M) (Dt I L) M
 |I,[],_=>.refl| I,x::L,h=>.nG rfl (h x (.head _)) (ae6 L λq aM=>h q (.tail _ aM))
def Uw:∀ {I:aI} (L:List aD),(∀ x∈L,I x.num=none)->(L.map (λx:aD=>x.num)).Nodup->(∀ b o,I b=some o->Dt I L b=some o)/\∀ x∈L,Dt I L x.num=some x.obj
 |I,[],_,_=>⟨λ_ _ h=>h,λx ae=>wt⟩
 |I,p::L,h,aE=>by
  rw[ch,mw]at aE;have bG:∀ q∈L,(ins I p.num p.obj) q.num=none:=λq aM=>by unfold ins;rw[hT λe=>aE.1 (c6.2 ⟨q,aM,e⟩)];exact h q (.tail _ aM)
  obtain⟨aa,ab⟩:=Uw L bG aE.2;refine⟨λb o ah=>aa b o (l9 (h p (.head _)) b o ah),λq aM=>?_⟩;rcases ez.1 aM with rfl | aM;·exact aa _ _ (o3 ..)
  ·exact ab q aM
section
end
section
end
section
section
end
section
end
end
def ae7(bm:fr I aB)(au:t.ok I)(ag:right t=true)(aE:t.n<=1099511627776)(dD:t.bp=(r:Int)) :
  Spec Tryz.prog 67 [t.val] I M0 λv J M'=>(∀ b o,I b=some o->J b=some o)/\M'=M0/\∃ (a:Option Addr) (n c:Nat) (L:List bf),v=.slice a n c/\cZ J a n c 2 0 (L.flatMap bf.cells)/\L.length=(nodeAt t.ns r).ao.length/\∀ q (h:q<L.length),(L[q]).ok J/\lg t ((nodeAt t.ns r).ao.getD q 0) L[q]:=by
 refine Spec.jy (Spec.frame (Spec.iI (aqo (M0:=[]) bm au ag aE dD))) ?_;rintro v J M⟨M',rfl,-,a6,rfl,-,I',M1,⟨bG,os,L,bl,rfl,rfl,ay,eG⟩,bC⟩;exact⟨a6,rfl,os.a.map λg=>⟨g,0,none⟩,os.n,os.c,L,rfl,aO.asY bC bl (λ_ h=>iy _ h) Z,ay,λq h=>⟨(eG q h).1.mono bC.le,(eG q h).2⟩⟩
def qj(x y:Int):Int:=IntKind.u64.wrap ((BitVec.ofInt 64 x &&& ~~~(BitVec.ofInt 64 y)).toNat:Int)
def NK(x y:BitVec 64):qj x.toNat y.toNat=((x &&& ~~~y).toNat:Int):=by unfold qj;rw[CC,CC,QN]
def atL(x y:a5):Nat->List Value
 |0=>[.int .u64 x.a.toNat,.int .u64 x.b.toNat,.int .u64 x.c.toNat,.int .u64 x.d.toNat]| 1=>[.int .u64 (qj x.a.toNat y.a.toNat),.int .u64 x.b.toNat,.int .u64 x.c.toNat,.int .u64 x.d.toNat]| 2=>[.int .u64 (qj x.a.toNat y.a.toNat),.int .u64 (qj x.b.toNat y.b.toNat),.int .u64 x.c.toNat,.int .u64 x.d.toNat]| 3=>[.int .u64 (qj x.a.toNat y.a.toNat),.int .u64 (qj x.b.toNat y.b.toNat),.int .u64 (qj x.c.toNat y.c.toNat),.int .u64 x.d.toNat]| _=>[.int .u64 (qj x.a.toNat y.a.toNat),.int .u64 (qj x.b.toNat y.b.toNat),.int .u64 (qj x.c.toNat y.c.toNat),.int .u64 (qj x.d.toNat y.d.toNat)]
def atM(x y:a5):Spec Tryz.prog 166 [x.val,y.val] I M λr I' M'=>r=(x.minus y).val/\I'=I/\M'=M:=by
 refine bR [] aT Tryz.func166 rfl rfl rfl ?_;intro B ax;refine c2.inv (ι:=Nat) (λi=>{ bn:=[(2,.ref 2 0),(4,.ref 4 0),(7,.val y.val),(8,.val (.int .i64 i))],cl:=[(2,atL x y i),(4,a5.zero.cells)],cm:=I,cK:=M }) (λi=>i<=4) (λi=>4-i) ?_ ?_
 ·exact⟨0,am,.refl,dS,.cons rfl (.cons rfl (.nil))⟩
 ·intro i hi
  match i,hi with
  |0,_=>refine aS.mk (λ_=>?_) (λh=>d5);refine cj.mk 0 rfl bv ?_;refine cj.mk 0 rfl bv ?_;refine cj.mk 0 rfl bv ?_;refine a3.mk 1 bv ?_;exact⟨1,⟨am,am⟩,.refl,dS,.cons rfl (.cons rfl (.nil))⟩| 1,_=>refine aS.mk (λ_=>?_) (λh=>d5);refine cj.mk 1 rfl bv ?_;refine cj.mk 1 rfl bv ?_;refine cj.mk 1 rfl bv ?_;refine a3.mk 2 bv ?_;exact⟨2,⟨am,am⟩,.refl,dS,.cons rfl (.cons rfl (.nil))⟩| 2,_=>refine aS.mk (λ_=>?_) (λh=>d5);refine cj.mk 2 rfl bv ?_;refine cj.mk 2 rfl bv ?_;refine cj.mk 2 rfl bv ?_;refine a3.mk 3 bv ?_;exact⟨3,⟨am,am⟩,.refl,dS,.cons rfl (.cons rfl (.nil))⟩| 3,_=>refine aS.mk (λ_=>?_) (λh=>d5);refine cj.mk 3 rfl bv ?_;refine cj.mk 3 rfl bv ?_;refine cj.mk 3 rfl bv ?_;refine a3.mk 4 bv ?_;exact⟨4,⟨am,am⟩,.refl,dS,.cons rfl (.cons rfl (.nil))⟩| 4,_=>refine aS.mk (λh=>d5) (λ_=>?_);refine⟨_,_,.refl,?_,rfl,rfl⟩;show Value.agg #[.int .u64 (qj x.a.toNat y.a.toNat),.int .u64 (qj x.b.toNat y.b.toNat),.int .u64 (qj x.c.toNat y.c.toNat),.int .u64 (qj x.d.toNat y.d.toNat)]=_;rw[NK,NK,NK,NK];rfl
def ur(o:Option a5)(v:Value):Prop:=∃ (w:a5) (b:Bool),v=.tuple #[w.val,.bool b]/\o=(bif b then some w else none)/\(b=false->w=a5.zero)
def Ux(o:Option a5)(v:Value):Prop:=∃ (w:a5) (b:Bool),v=.tuple #[w.val,.bool b]/\o=bif b then some w else none
def fN(t:bf)(f:aU->Option a5):Option a5:=bif right t then f (b4 t)else none
def Du(ag:right t=true)(dD:t.bp=(r:Int))(dw:r<t.ns.length):b4 t=.mk t.ns[r].bare (t.ns[r].ao.map (fs t.ns)):=by unfold b4;rw[dD];exact y6 ag dw
def NL{d:ak}(ax:eC d.b0)(aa:eC d.s1)(ab:eC d.s2)(al:eC d.cg):d.ws.val=.agg #[.int .u64 d.b0,.int .u64 d.s1,.int .u64 d.s2,.int .u64 d.cg]:=by simp only[a5.val,ak.ws,L7 ax,L7 aa,L7 ab,L7 al]
def Uy(bm:fr I aB)(au:t.ok I):Spec Tryz.prog 165 [t.val] I M0 λv I' M'=>I'=I/\M'=M0/\ur (fN t oG) v:=by
 refine bR [] aT Tryz.func165 rfl rfl rfl ?_;intro B ax;have gu:=au.n;refine a9.mk [] M0 _ (.refl _) (o0 bm.c au) ?_;rintro v J N -⟨rfl,rfl,rfl⟩;cases ag:right t with
 |false=>refine bZ.mk (λh=>absurd h am) (λ_=>?_);exact⟨_,_,.refl,rfl,rfl,.zero,false,rfl,by simp[fN,ag],λ_=>rfl⟩| true=>
 obtain⟨gH,fT⟩:=kh ag;obtain⟨r,dD⟩:=dZ gH;have dw:r<t.ns.length:=by omega
 obtain⟨ad,bt,bj⟩:=au.a'.row ak.cq (show r<t.n by omega) dw;have bl:=au.ns _ (bD dw);have hX:=Du ag dD dw;have e:fN t oG=if t.ns[r].k=1 then some t.ns[r].ws else none:=by unfold fN;rw[ag,hX];rfl
 rw[e];generalize t.ns[r]=d at bj bl;refine bZ.mk (λ_=>?_) (λh=>absurd h am);refine bi.mk ad r bt dD Z ?_;refine aJ.mk _ ((bj _).part (k:=0) (m:=1) bv) ?_;refine aS.mk (λh=>?_) (λh=>?_)
 ·have aa:¬ d.k=1:=by have:(!decide (d.k=1))=true:=h;simpa using this
  exact⟨_,_,.refl,rfl,rfl,.zero,false,rfl,by rw[bK aa];rfl,λ_=>rfl⟩
 ·have aa:d.k=1:=by have:(!decide (d.k=1))=false:=h;simpa using this
  refine bi.mk ad r bt dD Z ?_;refine aJ.mk _ ((bj _).part (k:=1) (m:=4) bv) ?_;refine⟨_,_,.refl,rfl,rfl,d.ws,true,?_,by rw[bY aa];rfl,λh=>ci⟩;rw[NL bl.b0 bl.s1 bl.s2 bl.cg];rfl
def Uz(bm:fr I aB)(au:t.ok I):Spec Tryz.prog 20 [t.val] I M0 λv I' M'=>I'=I/\M'=M0/\ur (fN t q3) v:=by
 refine bR [] aT Tryz.func20 rfl rfl rfl ?_;intro B ax;have gu:=au.n;refine a9.mk [] M0 _ (.refl _) (o0 bm.c au) ?_;rintro v J N -⟨rfl,rfl,rfl⟩;cases ag:right t with
 |false=>refine aS.mk (λ_=>?_) (λh=>absurd h am);exact⟨_,_,.refl,rfl,rfl,.zero,false,rfl,by simp[fN,ag],λ_=>rfl⟩| true=>
 obtain⟨gH,fT⟩:=kh ag;obtain⟨r,dD⟩:=dZ gH;have dw:r<t.ns.length:=by omega
 obtain⟨ad,bt,bj⟩:=au.a'.row ak.cq (show r<t.n by omega) dw;have bl:=au.ns _ (bD dw);have hX:=Du ag dD dw;have ir:=(ix.1 ag).fit _ (bD dw);have e:fN t q3=if t.ns[r].k=1 then some t.ns[r].ws else if t.ns[r].k=2/\t.ns[r].t.size=1 then some (nn t.ns[r].t.data.toList)else none:=by unfold fN;rw[ag,hX];rfl
 rw[e];generalize t.ns[r]=d at bj bl;refine aS.mk (λh=>absurd h am) (λ_=>?_);refine bi.mk ad r bt dD Z ?_;refine aJ.mk _ (bj _) ?_;refine aS.mk (λh=>?_) (λh=>?_)
 ·have aa:d.k=1:=cv h;refine⟨_,_,.refl,rfl,rfl,d.ws,true,?_,by rw[bY aa];rfl,λh=>ci⟩;rw[NL bl.b0 bl.s1 bl.s2 bl.cg];rfl
 have aa:¬ d.k=1:=db h;rw[bK aa];by_cases ab:d.k=2
 rotate_left
 ·refine bZ.mk (λh=>absurd h ah') (λ_=>?_);exact⟨_,_,.refl,rfl,rfl,.zero,false,rfl,by rw[bK λh=>ab h.1];rfl,λ_=>rfl⟩
 refine bZ.mk (λ_=>?_) (λh=>absurd h ah');refine aS.mk (λh=>?_) (λh=>?_)
 ·have al:(d.t.size:Int)=1:=cv h;refine a9.mk [] M0 _ (.refl _) (aao d.t Z) ?_;rintro v J N -⟨rfl,rfl,rfl⟩;exact⟨_,_,.refl,rfl,rfl,_,true,rfl,by rw[bY ⟨ab,Z⟩];rfl,λh=>ci⟩
 ·have al:¬ (d.t.size:Int)=1:=db h;exact⟨_,_,.refl,rfl,rfl,.zero,false,rfl,by rw[bK λh=>al Z];rfl,λ_=>rfl⟩
def ae8(h:mq t T)(bm:e0 T)(ah:jA T)(f:aU->Option a5):fN t f=f T:=by unfold fN;rw[h.right bm,h.b4 bm ah];rfl
def ae9(ag:right t=true)(ai:j<t.ns.length)(af:k∈t.ns[j].ao):∃ q:Nat,k=(q:Int)/\q<t.ns.length:=by have aa:=(ix.1 ag).xt j ai k af;obtain⟨q,rfl⟩:=dZ aa.1;exact⟨q,rfl,Z⟩
def UA(ag:right t=true)(ai:j<t.ns.length)(af:k∈t.ns[j].ao)(h:lg t k be):mq be (fs t.ns k)/\e0 (fs t.ns k)/\jA (fs t.ns k):=by obtain⟨q,rfl,aM⟩:=ae9 ag ai af;have aZ:=ix.1 ag;exact⟨adR aZ aM h,adP aZ aM,adU aZ aM⟩
def afa{d:ak}(h:d.k=7\/d.k=8)(aC:Go.V.fits d n=true):n=1:=by
 rcases h with h | h
 ·unfold Go.V.fits at aC;simp[h,oe,nc,jl]at aC;omega
 ·unfold Go.V.fits at aC;simp[h,oe,nc,jl]at aC;omega
def afb(bm:fr I aB)(au:t.ok I)(aE:t.n<=1099511627776)(af:k=7\/k=8):Spec Tryz.prog 164 [t.val,.int .u8 k] I M0 λv I' M'=>(∀ b o,I b=some o->I' b=some o)/\M'=M0/\ur (fN t (oH k)) v:=by
 refine bR [] aT Tryz.func164 rfl rfl rfl ?_;intro B ax;have gu:=au.n;refine a9.mk [] M0 _ (.refl _) (o0 bm.c au) ?_;rintro v J N -⟨rfl,rfl,rfl⟩;cases ag:right t with
 |false=>refine bZ.mk (λh=>absurd h am) (λ_=>?_);exact⟨_,_,.refl,λ_ _ h=>h,rfl,.zero,false,rfl,by simp[fN,ag],λ_=>rfl⟩| true=>
 obtain⟨gH,fT⟩:=kh ag;obtain⟨r,dD⟩:=dZ gH;have dw:r<t.ns.length:=by omega
 obtain⟨ad,bt,bj⟩:=au.a'.row ak.cq (show r<t.n by omega) dw;have bl:=au.ns _ (bD dw);have hX:=Du ag dD dw;have qD:=ae7 (M0:=[]) bm au ag aE dD;rw[fw dw]at qD;have dN:=fun {k} (h:k∈t.ns[r].ao) {be} (aw:lg t k be)=>UA ag dw h aw;have ir:=(ix.1 ag).fit _ (bD dw);have e:fN t (oH k)=if t.ns[r].k=k then(match t.ns[r].ao.map (fs t.ns)with
  |c::_=>oG c| []=>none)else none:=by
  unfold fN;rw[ag,hX];rfl
 rw[e];generalize t.ns[r]=d at bj bl qD dN ir;refine bZ.mk (λ_=>?_) (λh=>absurd h am);refine bi.mk ad r bt dD Z ?_;refine aJ.mk _ ((bj _).part (k:=0) (m:=1) bv) ?_;refine aS.mk (λh=>?_) (λh=>?_)
 ·have aa:¬ d.k=k:=by have:(!decide (d.k=k))=true:=h;simpa using this
  exact⟨_,_,.refl,λ_ _ h=>h,rfl,.zero,false,rfl,by rw[bK aa];rfl,λ_=>rfl⟩
 ·have aa:d.k=k:=by have:(!decide (d.k=k))=false:=h;simpa using this
  have oQ:=afa Z ir;obtain⟨q,aM⟩:∃ q,d.ao=[q]:=FP.1 oQ;rw[aM]at qD;refine a9.mk [] M0 _ (.refl _) qD ?_;rintro v J N a6⟨-,rfl,a,n,c,L,rfl,dM,ca,eG⟩;have yL:L.length=1:=ca;obtain⟨x,rfl⟩:=FP.1 yL;obtain⟨ae,aw⟩:=eG 0 am;have aw:lg t q x:=aw;have nV:n=1:=by have:=dM.len;simp[bf.cells]at this;omega
  obtain⟨fq,eN,eL⟩:=dM.row (f:=bf.cells) (λ_=>rfl) (j:=0) Z am;obtain⟨fg,e1,js⟩:=dN (by rw[aM];exact .head _) aw;refine bi.mk fq 0 eN rfl Z ?_;refine aJ.mk _ (eL _) ?_;refine a9.mk [] M0 _ (.refl _) (Uy (t:=x) (bm.mono a6) ae) ?_;rintro v cS N -⟨c1,rfl,w,b,rfl,hw,ah⟩;subst cS;refine⟨_,_,.refl,a6,rfl,w,b,rfl,?_,ah⟩;rw[bY aa,aM,<-hw,ae8 fg e1 js];rfl
def Dv(f:a5->a5->a5)(x y:a5)(b c:Bool):r' f (bif b then some x else none) (bif c then some y else none)=bif b&&c then some (f x y)else none:=by cases b<;>cases c<;>rfl
section
variable{I:aI}{M0:List aD}{aB:List Int}(bm:fr I aB){x y:bf}(ae:x.ok I)(aF:y.ok I)
include bm ae aF
theorem atN:Spec Tryz.prog 161 [x.val,y.val] I M0 λv I' M'=>(∀ b o,I b=some o->I' b=some o)/\M'=M0/\Ux (r' a5.or (fN x q3) (fN y q3)) v:=by
 refine bR [] aT Tryz.func161 rfl rfl rfl ?_;intro B ax;refine a9.mk [] M0 _ (.refl _) (Uz bm ae) ?_;rintro v J N -⟨a6,rfl,w,b,rfl,hw,-⟩;subst J;refine a9.mk [] M0 _ (.refl _) (Uz bm aF) ?_;rintro v J N -⟨a6,rfl,u,c,rfl,hu,-⟩;subst J;refine a9.mk [] M0 _ (.refl _) (alF w u) ?_;rintro v J N -⟨rfl,a6,rfl⟩;subst J;cases b with
 |true=>refine bZ.mk (λ_=>?_) (λh=>absurd h am);exact⟨_,_,.refl,λ_ _ h=>h,rfl,w.or u,c,rfl,LT⟩| false=>refine bZ.mk (λh=>absurd h am) (λ_=>?_);exact⟨_,_,.refl,λ_ _ h=>h,rfl,w.or u,false,rfl,LT⟩
theorem atO(aE:x.n<=1099511627776):Spec Tryz.prog 163 [x.val,y.val] I M0 λv I' M'=>(∀ b o,I b=some o->I' b=some o)/\M'=M0/\Ux (r' (λx y=>y.minus x) (fN x (oH 8)) (fN y oG)) v:=by
 refine bR [] aT Tryz.func163 rfl rfl rfl ?_;intro B ax;refine a9.mk [] M0 _ (.refl _) (afb bm ae aE (.inr rfl)) ?_;rintro v J N a6⟨-,rfl,w,b,rfl,hw,-⟩;refine a9.mk [] M0 _ (.refl _) (Uy (bm.mono a6) (aF.mono a6)) ?_;rintro v cS N -⟨c1,rfl,u,c,rfl,hu,-⟩;subst cS;refine a9.mk [] M0 _ (.refl _) (atM u w) ?_;rintro v cS N -⟨rfl,c1,rfl⟩;subst cS;cases b with
 |true=>refine bZ.mk (λ_=>?_) (λh=>absurd h am);exact⟨_,_,.refl,a6,rfl,u.minus w,c,rfl,LT⟩| false=>refine bZ.mk (λh=>absurd h am) (λ_=>?_);exact⟨_,_,.refl,a6,rfl,u.minus w,false,rfl,LT⟩
theorem atP(aE:x.n<=1099511627776):Spec Tryz.prog 167 [x.val,y.val] I M0 λv I' M'=>(∀ b o,I b=some o->I' b=some o)/\M'=M0/\Ux (r' a5.and (fN x (oH 7)) (fN y oG)) v:=by
 refine bR [] aT Tryz.func167 rfl rfl rfl ?_;intro B ax;refine a9.mk [] M0 _ (.refl _) (afb bm ae aE (.inl rfl)) ?_;rintro v J N a6⟨-,rfl,w,b,rfl,hw,-⟩;refine a9.mk [] M0 _ (.refl _) (Uy (bm.mono a6) (aF.mono a6)) ?_;rintro v cS N -⟨c1,rfl,u,c,rfl,hu,-⟩;subst cS;refine a9.mk [] M0 _ (.refl _) (alH w u) ?_;rintro v cS N -⟨rfl,c1,rfl⟩;subst cS;cases b with
 |true=>refine bZ.mk (λ_=>?_) (λh=>absurd h am);exact⟨_,_,.refl,a6,rfl,w.and u,c,rfl,LT⟩| false=>refine bZ.mk (λh=>absurd h am) (λ_=>?_);exact⟨_,_,.refl,a6,rfl,w.and u,false,rfl,LT⟩
end
def atQ:List Value:=[.nilFunc,.func (.func 161) #[] #[],.func (.func 163) #[] #[],.func (.func 167) #[] #[]]
def F':Spec Tryz.prog 83 [] I [] λv I' M'=>v=.agg atQ.toArray/\I'=I/\M'=[]:=by refine bR [] aT Tryz.func83 rfl rfl rfl ?_;intro B ax;exact⟨_,_,.refl,rfl,rfl,rfl⟩
def mu(w:Int)(x y:bf):Option a5:=bif right x&&right y then xy w (b4 x) (b4 y)else none
def UB(f:a5->a5->a5)(p q:aU->Option a5)(x y:bf):r' f (fN x p) (fN y q)=bif right x&&right y then r' f (p (b4 x)) (q (b4 y))else none:=by
 unfold fN;cases right x<;>cases right y<;>simp[r']
def afc(x y:bf):mu 1 x y=r' a5.or (fN x q3) (fN y q3):=by rw[UB];rfl
def afd(x y:bf):mu 2 x y=r' (λx y=>y.minus x) (fN x (oH 8)) (fN y oG):=by rw[UB];rfl
def afe(x y:bf):mu 3 x y=r' a5.and (fN x (oH 7)) (fN y oG):=by rw[UB];rfl
def UC(aa:w≠1)(ab:w≠2)(al:w≠3)(x y:bf):mu w x y=none:=by
 unfold mu xy;rw[bK aa,bK ab,bK al];cases right x&&right y<;>rfl
def UD(bm:fr I aB)(hw:0<=w){x y:bf}(ae:x.ok I)(aF:y.ok I)(aE:x.n<=1099511627776):Spec Tryz.prog 18 [.int .u8 w,x.val,y.val] I M0 λv I' M'=>(∀ b o,I b=some o->I' b=some o)/\M'=M0/\ur (mu w x y) v:=by
 refine bR [] aT Tryz.func18 rfl rfl rfl ?_;intro B ax;have fin:∀ {J:aI} {o:Option a5} {w:a5} {b:Bool},(∀ b o,I b=some o->J b=some o)->(o=bif b then some w else none)->ur o (.tuple #[(bif b then w else a5.zero).val,.bool b]):=by intro J o w b a6 aG;exact⟨_,b,rfl,by rw[aG];cases b<;>rfl,λe=>by rw[e];rfl⟩
 by_cases zR:w=0
 ·subst zR;refine bZ.mk (λh=>absurd h am) (λ_=>?_);exact⟨_,_,.refl,λ_ _ h=>h,rfl,.zero,false,rfl,UC bv bv bv x y,λ_=>rfl⟩
 refine bZ.mk (λ_=>?_) (λh=>absurd h (by simp[zR]));by_cases UE:4<=w
 ·refine aS.mk (λ_=>?_) (λh=>absurd h (by simp[UE]));exact⟨_,_,.refl,λ_ _ h=>h,rfl,.zero,false,rfl,UC Z Z Z x y,λ_=>rfl⟩
 have c4:=atN (M0:=[]) bm ae aF;have m2:=atO (M0:=[]) bm ae aF aE;have wG:=atP (M0:=[]) bm ae aF aE;rw[<-afc]at c4;rw[<-afd]at m2;rw[<-afe]at wG;rcases(show w=1\/w=2\/w=3 by omega)with rfl | rfl | rfl
 ·generalize mu 1 x y=o at *;refine aS.mk (λh=>absurd h am) (λ_=>?_);refine cN.BH aT rfl rfl rfl (ι:=Nat×a5×Bool×aI) (λz=>{ bn:=[(6,.ref 6 0),(8,.val (ptr z.1)),(9,.val (.bool z.2.2.1))],cl:=[(6,a5.zero.cells)],cm:=z.2.2.2,cK:=⟨z.1,.cells z.2.1.cells.toArray 36 (0,0)⟩::M0 }) (λz=>(∀ b o,I b=some o->z.2.2.2 b=some o)/\o=bif z.2.2.1 then some z.2.1 else none) ?_ ?_
  ·refine⟨?_,?_⟩
   ·refine er.mk _ F' ?_;rintro v J N -⟨rfl,a6,hp⟩;subst J;subst N;refine cj.mk 1 rfl bv ?_;refine⟨?_,?_⟩
    ·refine a9.mk [] M0 _ (.refl _) c4 ?_;rintro v J N a6⟨-,rfl,s,b,rfl,aG⟩;refine bN.mk λdx qK s7=>?_;refine b'.mk [] M0 _ _ rfl rfl (bJ rfl) rfl ?_;exact⟨(dx,s,b,J),⟨a6,aG⟩,.refl,e2,.cons rfl (.nil)⟩
    ·refine bN.mk λdx qK s7=>?_;refine er.mk _ c4 ?_;rintro v J N a6⟨-,rfl,s,b,rfl,aG⟩;refine b'.mk [] M0 _ _ rfl rfl (bJ rfl) rfl ?_;exact⟨(dx,s,b,J),⟨a6,aG⟩,.refl,e2,.cons rfl (.nil)⟩
   ·refine bN.mk λdx qK s7=>?_;refine er.mk _ F' ?_;rintro v J N -⟨rfl,a6,hp⟩;subst J;subst N;refine cj.mk 1 rfl bv ?_;refine er.mk _ c4 ?_;rintro v J N a6⟨-,rfl,s,b,rfl,aG⟩;refine b'.mk [] M0 _ _ rfl rfl (bJ rfl) rfl ?_;exact⟨(dx,s,b,J),⟨a6,aG⟩,.refl,e2,.cons rfl (.nil)⟩
  rintro⟨dx,s,b,J⟩⟨a6,aG⟩;simp only at a6 aG;refine aS.mk (λh=>?_) (λh=>?_)
  ·have ah:b=false:=by simpa using h
   exact⟨_,_,.sub (wv _ _) .refl,a6,rfl,.zero,false,rfl,by rw[aG,ah];rfl,λ_=>rfl⟩
  ·have ah:b=true:=by simpa using h
   refine aJ.mk s.cells ⟨rfl,_,_,_,.inr ⟨_,.head _,rfl,rfl⟩,rfl,rfl⟩ ?_;exact⟨_,_,.sub (wv _ _) .refl,a6,rfl,s,true,rfl,by rw[aG,ah],λh=>ci⟩
 ·generalize mu 2 x y=o at *;refine aS.mk (λh=>absurd h am) (λ_=>?_);refine cN.BH aT rfl rfl rfl (ι:=Nat×a5×Bool×aI) (λz=>{ bn:=[(6,.ref 6 0),(8,.val (ptr z.1)),(9,.val (.bool z.2.2.1))],cl:=[(6,a5.zero.cells)],cm:=z.2.2.2,cK:=⟨z.1,.cells z.2.1.cells.toArray 36 (0,0)⟩::M0 }) (λz=>(∀ b o,I b=some o->z.2.2.2 b=some o)/\o=bif z.2.2.1 then some z.2.1 else none) ?_ ?_
  ·refine⟨?_,?_⟩
   ·refine er.mk _ F' ?_;rintro v J N -⟨rfl,a6,hp⟩;subst J;subst N;refine cj.mk 2 rfl bv ?_;refine⟨?_,?_⟩
    ·refine a9.mk [] M0 _ (.refl _) m2 ?_;rintro v J N a6⟨-,rfl,s,b,rfl,aG⟩;refine bN.mk λdx qK s7=>?_;refine b'.mk [] M0 _ _ rfl rfl (bJ rfl) rfl ?_;exact⟨(dx,s,b,J),⟨a6,aG⟩,.refl,e2,.cons rfl (.nil)⟩
    ·refine bN.mk λdx qK s7=>?_;refine er.mk _ m2 ?_;rintro v J N a6⟨-,rfl,s,b,rfl,aG⟩;refine b'.mk [] M0 _ _ rfl rfl (bJ rfl) rfl ?_;exact⟨(dx,s,b,J),⟨a6,aG⟩,.refl,e2,.cons rfl (.nil)⟩
   ·refine bN.mk λdx qK s7=>?_;refine er.mk _ F' ?_;rintro v J N -⟨rfl,a6,hp⟩;subst J;subst N;refine cj.mk 2 rfl bv ?_;refine er.mk _ m2 ?_;rintro v J N a6⟨-,rfl,s,b,rfl,aG⟩;refine b'.mk [] M0 _ _ rfl rfl (bJ rfl) rfl ?_;exact⟨(dx,s,b,J),⟨a6,aG⟩,.refl,e2,.cons rfl (.nil)⟩
  rintro⟨dx,s,b,J⟩⟨a6,aG⟩;simp only at a6 aG;refine aS.mk (λh=>?_) (λh=>?_)
  ·have ah:b=false:=by simpa using h
   exact⟨_,_,.sub (wv _ _) .refl,a6,rfl,.zero,false,rfl,by rw[aG,ah];rfl,λ_=>rfl⟩
  ·have ah:b=true:=by simpa using h
   refine aJ.mk s.cells ⟨rfl,_,_,_,.inr ⟨_,.head _,rfl,rfl⟩,rfl,rfl⟩ ?_;exact⟨_,_,.sub (wv _ _) .refl,a6,rfl,s,true,rfl,by rw[aG,ah],λh=>ci⟩
 ·generalize mu 3 x y=o at *;refine aS.mk (λh=>absurd h am) (λ_=>?_);refine cN.BH aT rfl rfl rfl (ι:=Nat×a5×Bool×aI) (λz=>{ bn:=[(6,.ref 6 0),(8,.val (ptr z.1)),(9,.val (.bool z.2.2.1))],cl:=[(6,a5.zero.cells)],cm:=z.2.2.2,cK:=⟨z.1,.cells z.2.1.cells.toArray 36 (0,0)⟩::M0 }) (λz=>(∀ b o,I b=some o->z.2.2.2 b=some o)/\o=bif z.2.2.1 then some z.2.1 else none) ?_ ?_
  ·refine⟨?_,?_⟩
   ·refine er.mk _ F' ?_;rintro v J N -⟨rfl,a6,hp⟩;subst J;subst N;refine cj.mk 3 rfl bv ?_;refine⟨?_,?_⟩
    ·refine a9.mk [] M0 _ (.refl _) wG ?_;rintro v J N a6⟨-,rfl,s,b,rfl,aG⟩;refine bN.mk λdx qK s7=>?_;refine b'.mk [] M0 _ _ rfl rfl (bJ rfl) rfl ?_;exact⟨(dx,s,b,J),⟨a6,aG⟩,.refl,e2,.cons rfl (.nil)⟩
    ·refine bN.mk λdx qK s7=>?_;refine er.mk _ wG ?_;rintro v J N a6⟨-,rfl,s,b,rfl,aG⟩;refine b'.mk [] M0 _ _ rfl rfl (bJ rfl) rfl ?_;exact⟨(dx,s,b,J),⟨a6,aG⟩,.refl,e2,.cons rfl (.nil)⟩
   ·refine bN.mk λdx qK s7=>?_;refine er.mk _ F' ?_;rintro v J N -⟨rfl,a6,hp⟩;subst J;subst N;refine cj.mk 3 rfl bv ?_;refine er.mk _ wG ?_;rintro v J N a6⟨-,rfl,s,b,rfl,aG⟩;refine b'.mk [] M0 _ _ rfl rfl (bJ rfl) rfl ?_;exact⟨(dx,s,b,J),⟨a6,aG⟩,.refl,e2,.cons rfl (.nil)⟩
  rintro⟨dx,s,b,J⟩⟨a6,aG⟩;simp only at a6 aG;refine aS.mk (λh=>?_) (λh=>?_)
  ·have ah:b=false:=by simpa using h
   exact⟨_,_,.sub (wv _ _) .refl,a6,rfl,.zero,false,rfl,by rw[aG,ah];rfl,λ_=>rfl⟩
  ·have ah:b=true:=by simpa using h
   refine aJ.mk s.cells ⟨rfl,_,_,_,.inr ⟨_,.head _,rfl,rfl⟩,rfl,rfl⟩ ?_;exact⟨_,_,.sub (wv _ _) .refl,a6,rfl,s,true,rfl,by rw[aG,ah],λh=>ci⟩
structure vT(I:aI)(a:Option Addr)(c:Nat)(L:List bf):Prop where
 a':cZ I a L.length c 2 32 (L.flatMap bf.cells)
 ok:∀ t∈L,t.ok I/\right t=true
 n:(L.map (·.n)).sum<=549755813887
 l:L.length<=1099511627776
def atS(h:right t=true):tP t=(b4 t).post:=by obtain⟨gH,fT⟩:=kh h;obtain⟨r,dD⟩:=dZ gH;unfold tP b4;rw[dD];exact adQ (ix.1 h) Z
def NM(h:right t=true):e0 (b4 t)/\jA (b4 t):=by obtain⟨gH,fT⟩:=kh h;obtain⟨r,dD⟩:=dZ gH;unfold b4;rw[dD];exact⟨adP (ix.1 h) Z,adU (ix.1 h) Z⟩
def aff:∀ L:List bf,(∀ t∈L,right t=true/\t.ns.length=t.n)->((L.map b4).map dT).sum<=(L.map (·.n)).sum
 |[],_=>cf _| t::L,h=>by have aa:=aff L λt au=>h t (.tail _ au);obtain⟨ab,al⟩:=h t (.head _);have aL:=F9 ab;simp only[ch,hx];omega
def afg(bm:fr I aB){d:ak}(aj:d.ok I)(ah:d.bare=d){L:List bf}(ca:vT I a c L)(aC:Go.V.fits d L.length=true) :
  Spec Tryz.prog 106 [d.val,.slice a L.length c] I M0 (oF (some (aU.mk d (L.map b4)).lU) I M0):=by
 refine bR [] aT Tryz.func106 rfl rfl rfl ?_;intro B ax;have FJ:=ca.n;refine a9.mk [] M0 _ (.refl _) (aqi bm aj ca.a' ca.ok Z ca.l aC) ?_;rintro v J N a6⟨-,rfl,be,rfl,hR,pS,dI⟩;refine aS.mk (λh=>ci) (λ_=>?_);have UF:e0 (aU.mk d (L.map b4)):=.mk (by rw[bA];exact aC) λx ae=>by obtain⟨t,au,rfl⟩:=c6.1 ae;exact(NM (ca.ok t au).2).1
 have y8:jA (aU.mk d (L.map b4)):=.mk ah λx ae=>by obtain⟨t,au,rfl⟩:=c6.1 ae;exact(NM (ca.ok t au).2).2
 have dN:mq be (aU.mk d (L.map b4)):=by refine⟨?_,pS⟩;rw[dI,aU.ld,gE];congr 1;exact fX λt au=>atS (ca.ok t au).2
 have g4:=dN.right UF;have hX:=dN.b4 UF y8;have xR:be.n<=1099511627776:=by have aa:=congrArg List.length dN.aW;rw[bA,JI,lV]at aa;have ab:=aff L λt au=>⟨(ca.ok t au).2,(ca.ok t au).1.n⟩;have al:=hR.n;omega
 refine a9.mk [] M0 _ (.refl _) (Nw (M0:=[]) (bm.mono a6) hR g4 xR) ?_;rintro v cS N c1⟨-,rfl,t2,rfl,nW,Bb⟩;refine⟨_,_,.refl,λb o h=>c1 _ _ (a6 _ _ h),rfl,t2,rfl,nW,?_,Dn UF,JA _⟩;rw[<-hX];exact Bb
def oF.afh{d:ak}(bG:∀ b o,I b=some o->I' b=some o)(au:t.ok I')(aa:t.ns=[d])(ab:t.bp=0)(ah:d.bare=d)(aC:Go.V.fits d 0=true):oF (some (.mk d [])) I M0 (.tuple #[t.val,.bool true]) I' M0:=by
 have bl:e0 (.mk d []):=.mk aC λc ar=>by cases ar
 refine⟨bG,rfl,t,rfl,au,⟨?_,?_⟩,bl,.mk ah λc ar=>by cases ar⟩
 ·rw[aa,aU.ld];show [d.aW]=[d.dJ []];have:d.aW=d.bare:=by rw[<-ah];rfl
  rw[this];rfl
 ·rw[aa,ab];rfl
def atT(bm:fr I aB){L:List bf}(ca:vT I a c L) :
  Spec Tryz.prog 33 [.slice a L.length c] I M0 (oF (some (q4 4 (L.map b4))) I M0):=by
 refine bR [] aT Tryz.func33 rfl rfl rfl ?_;intro B ax
 match L,ca with
 |[],ca=>refine aS.mk (λ_=>?_) (λh=>absurd h am);refine a9.mk [] M0 _ (.refl _) ajM ?_;rintro v J N a6⟨-,t,rfl,au,aa,ab,rfl⟩;exact⟨_,_,.refl,oF.afh (d:=nothing 0) a6 au aa ab rfl (by simp[Go.V.fits,nothing,oe,nc,jl,ak.jW])⟩
 |[x],ca=>
  refine aS.mk (λh=>absurd h am) (λ_=>?_);refine aS.mk (λ_=>?_) (λh=>absurd h am);obtain⟨ad,bt,bj⟩:=ca.a'.row (f:=bf.cells) (λ_=>rfl) (j:=0) am am;obtain⟨ae,ag⟩:=ca.ok x (.head _);have aE:=ca.n;have aE:x.n<=549755813887:=by simpa using aE
  refine bi.mk ad 0 bt rfl am ?_;refine aJ.mk _ (bj _) ?_;refine a9.mk [] M0 _ (.refl _) (Nw (M0:=[]) (t:=x) bm ae ag Z) ?_;rintro v cS N c1⟨-,rfl,t2,rfl,nW,Bb⟩;exact⟨_,_,.refl,c1,rfl,t2,rfl,nW,Bb,Dn (NM ag).1,JA _⟩
 |x::y::L,ca=>have Bc:=afg (M0:=[]) bm (Ng I (k:=4) bv) rfl ca (NI (.inl rfl) am);refine aS.mk (λh=>absurd h d7) (λ_=>?_);refine aS.mk (λh=>absurd h d7) (λ_=>?_);refine a9.mk [] M0 _ (.refl _) Bc ?_;rintro v cS N c1⟨-,rfl,t2,rfl,al⟩;exact⟨_,_,.refl,c1,rfl,t2,rfl,al⟩
def atU(bm:fr I aB){L:List bf}(ca:vT I a c L) :
  Spec Tryz.prog 34 [.slice a L.length c] I M0 (oF (some (q4 5 (L.map b4))) I M0):=by
 refine bR [] aT Tryz.func34 rfl rfl rfl ?_;intro B ax
 match L,ca with
 |[],ca=>refine aS.mk (λ_=>?_) (λh=>absurd h am);refine a9.mk [] M0 _ (.refl _) (aci (a:=0) (b:=0) (c:=0) (d:=0) ayW ayW ayW ayW) ?_;rintro v J N a6⟨-,t,rfl,au,aa,ab,rfl⟩;exact⟨_,_,.refl,oF.afh (d:=nothing 1) a6 au aa ab rfl (by simp[Go.V.fits,nothing,oe,nc,jl])⟩
 |[x],ca=>
  refine aS.mk (λh=>absurd h am) (λ_=>?_);refine aS.mk (λ_=>?_) (λh=>absurd h am);obtain⟨ad,bt,bj⟩:=ca.a'.row (f:=bf.cells) (λ_=>rfl) (j:=0) am am;obtain⟨ae,ag⟩:=ca.ok x (.head _);have aE:=ca.n;have aE:x.n<=549755813887:=by simpa using aE
  refine bi.mk ad 0 bt rfl am ?_;refine aJ.mk _ (bj _) ?_;refine a9.mk [] M0 _ (.refl _) (Nw (M0:=[]) (t:=x) bm ae ag Z) ?_;rintro v cS N c1⟨-,rfl,t2,rfl,nW,Bb⟩;exact⟨_,_,.refl,c1,rfl,t2,rfl,nW,Bb,Dn (NM ag).1,JA _⟩
 |x::y::L,ca=>have Bc:=afg (M0:=[]) bm (Ng I (k:=5) bv) rfl ca (NI (.inr rfl) am);refine aS.mk (λh=>absurd h d7) (λ_=>?_);refine aS.mk (λh=>absurd h d7) (λ_=>?_);refine a9.mk [] M0 _ (.refl _) Bc ?_;rintro v cS N c1⟨-,rfl,t2,rfl,al⟩;exact⟨_,_,.refl,c1,rfl,t2,rfl,al⟩
namespace aU
mutual
def paths:aU->List (List Int)
 |mk _ ks=>[]::vU 0 ks
def vU:Nat->List aU->List (List Int)
 |_,[]=>[]| i,c::cs=>c.paths.map (λp=>(i:Int)::p)++vU (i+1) cs
end
def JM(d:ak)(ks:List aU):(mk d ks).paths=[]::vU 0 ks:=by rw[paths]
def UG(i:Nat)(c:aU)(cs:List aU):vU i (c::cs)=c.paths.map (λp=>(i:Int)::p)++vU (i+1) cs:=by rw[vU]
def UH(i:Nat):vU i []=[]:=by rw[vU]
def afi(T:aU):0<T.paths.length:=by
 cases T with
 |mk d ks=>rw[JM];simp
end aU
def ls(l:List Int):List Value:=l.map (.int .i64 ·)
def atV(I:aI)(p:List Int)(v:Value):Prop:=∃ a c,v=.slice a p.length c/\cZ I a p.length c 1 8 (ls p)/\(p.length=0->a=none)
def UI{o:Obj}(h:c≠b):ins I b o c=I c:=by unfold ins;rw[hT h];rfl
def afj(t:bf)(k:Int)(a:Option Addr)(n c:Nat):Spec Tryz.prog 138 [t.val,.int .i64 k,.slice a n c] I [] λr I' M'=>∃ b1 b8 eo,r=.func (.func 213) #[] #[ptr b1,ptr b8,ptr eo]/\I' b1=some (.cells #[.slice a n c] 42 (0,0))/\I' b8=some (.cells #[.slice t.a t.n t.c,.int .i64 t.bp] 24 (0,0))/\I' eo=some (.cells #[.int .i64 k] 3 (0,0))/\(∀ b o,I b=some o->I' b=some o)/\M'=[]:=by
 refine bR [3,4,5] aT Tryz.func138 rfl rfl rfl ?_;intro B ax;refine bN.mk λeo CS afk=>?_;refine bN.mk λgW Fg yO=>?_;refine bN.mk λeb Cb Nb=>?_;have atW:eo≠gW:=yO _ (.head _);have atX:gW≠eb:=Nb _ (.head _);have atY:eo≠eb:=Nb _ (.tail _ (.head _));have aL:ins I eb (.cells #[.slice a n c] 42 (0,0)) gW=none:=by rw[UI atX];exact Fg
 have al:ins (ins I eb (.cells #[.slice a n c] 42 (0,0))) gW (.cells #[.int .i64 k] 3 (0,0)) eo=none:=by rw[UI atW,UI atY];exact CS
 refine⟨_,_,.nG rfl am (.nG rfl am (.nG rfl am .refl)),eb,eo,gW,rfl,?_,o3 ..,?_,λb o h=>l9 al _ _ (l9 aL _ _ (l9 Cb _ _ h)),rfl⟩
 ·exact l9 al _ _ (l9 aL _ _ (o3 ..))
 ·exact l9 al _ _ (o3 ..)
def atZ(ba:List Int)(T:aU)(j:Nat)(vs:List Value)(I:aI):Prop:=∃ p v,T.paths[j]?=some p/\vs=[v]/\atV I (ba++p) v
def kZ.at0{X:c3}{F:Fr}{C:dB}{o:Oper}(aQ:cX X.P X.E){t:Nat}(aG:o.op=.call { callee:=.builtin .append,args:=#[s,x],argTypes:=#[t,t] })
  {e:Nat} (au:X.E t=some dd) (dA:dd.bM=.slice e) (he:X.E e=some aH) (jV:aH.size=1)
 (ag:cZ I a n c 1 8 (ls p)) (ax:n=0->a=none) (aw:bI F s=.val (.slice (if n=0 then a else a.map (·.add (0*1))) (n-0) (n-0)))
 (ae:bI F x=.val (.slice (some ⟨b9,0,none⟩) 1 c')) (ay:cs.length=aH.size) (aa:fG cs=true)
  (bd:(⟨b9,.cells cs.toArray e (0,0)⟩:aD)∈M) (b1:n+1<=9223372036854775807) (b8:(n+1)*aH.bytes<=140737488355328)
  (k:∀ br:aO,br.n=n+1->(∀ g,br.a=some g->I g=none/\g ∉ X.foot)->br.ok 1 (ls p++cs)->K (.val br.val) I (br.aq e++M)):kZ X o F C I M K:=by
 have ra:=ag.len;have afl:cG I M ⟨b9,0,none⟩ (1*aH.size) cs:=by rw[m6];refine⟨rfl,_,_,_,.inr ⟨⟨b9,.cells cs.toArray e (0,0)⟩,bd,rfl,rfl⟩,?_,ay⟩;simp only[tq];exact fE Z
 by_cases aE:n=0
 ·subst aE;have aK:ls p=[]:=iB Z;rw[aK]at k;rw[ax rfl]at aw;refine .adE aQ aG au dA he gV (xs:=[]) (jt _) (aw.trans rfl) ae bv afl aa (Mr:=M) (.refl _) t9 b8 _ (λ_=>.refl _) λbr ab al aL=>k br ab (λg az=>⟨(al g az).1,(al g az).2 rfl⟩) (by rw[jV]at aL;exact aL)
 ·rcases ag.rd with h | ⟨ad,bt,de,PU,T,ap,bG,an⟩
  ·exact absurd h aE
  rw[bK aE,bt]at aw;refine .atK aQ aG au dA he (sa:=ad.add (0*1)) (n:=n) (xs:=ls p) (aw.trans rfl) ?_ ae bv afl t9 b8 _ (λ_=>.refl _) λbr ab al aL=>k br ab al (by rw[jV]at aL;exact aL);rw[jV];exact⟨de,PU,T,ap,.inl bG,by simpa[Addr.add]using an,ra⟩
def afm{t:bf}(ag:right t=true)(gu:t.n<=1099511627776):∀ (m k:Nat),k<m->(af:k<t.ns.length)->∀ {I:aI} (au:t.ok I) {ba:List Int} {a:Option Addr} {n c:Nat} (rD:ba.length=n) (c0:n+k<=1099511627776) (NN:cZ I a n c 1 8 (ls ba)) (gD:n=0->a=none) {b1 b8 eo:Nat} (iU:I b1=some (.cells #[.slice a n c] 42 (0,0))) (iR:I b8=some (.cells #[.slice t.a t.n t.c,.int .i64 t.bp] 24 (0,0))) (CS:I eo=some (.cells #[.int .i64 (k:Int)] 3 (0,0))),V5 Tryz.prog 213 [ptr b1,ptr b8,ptr eo] I (fs t.ns k).paths.length (atZ ba (fs t.ns k))
 |0,k,h,_,_,_,_,_,_,_,_,_,_,_,_,_,_,_,_,_=>absurd h (mO _)
 |m+1,k,MX,af,I,au,ba,a,n,c,rD,c0,NN,gD,b1,b8,eo,iU,iR,CS=>by
  intro y R lE uK rA dU M0 oh iT;have Ud:=au.n;refine BA [4] aT Tryz.func213 rfl rfl rfl ?_;intro B ax;have Dw:∀ (I1:aI) (M:List aD),(∀ b o,I b=some o->I1 b=some o)->cG I1 M ⟨b1,0,none⟩ 1 [.slice a n c]:=λI1 M di=>⟨rfl,_,_,_,.inl (di _ _ iU),rfl,rfl⟩;have y3:∀ (I1:aI) (M:List aD),(∀ b o,I b=some o->I1 b=some o)->cG I1 M ⟨b8,0,none⟩ 2 [.slice t.a t.n t.c,.int .i64 t.bp]:=λI1 M di=>⟨rfl,_,_,_,.inl (di _ _ iR),rfl,rfl⟩;have at1:∀ (I1:aI) (M:List aD),(∀ b o,I b=some o->I1 b=some o)->cG I1 M ((⟨b8,0,none⟩:Addr).add 0) 1 [.slice t.a t.n t.c]:=λI1 M di=>⟨rfl,_,_,_,.inl (di _ _ iR),rfl,rfl⟩;have Np:∀ (I1:aI) (M:List aD),(∀ b o,I b=some o->I1 b=some o)->cG I1 M ⟨eo,0,none⟩ 1 [.int .i64 (k:Int)]:=λI1 M di=>⟨rfl,_,_,_,.inl (di _ _ CS),rfl,rfl⟩;have bm:=y6 ag af;have kB:=aU.afi (fs t.ns k);have at2:(fs t.ns k).paths[0]?=some []:=by rw[bm,aU.JM];rfl
  refine bN.mk λgW Fg yO=>?_;refine aJ.mk [.func (.yield y) #[] #[]] (dj (cs:=[.func (.yield y) #[] #[]]) (k:=0) (n:=1) (.head _) am) ?_;refine aJ.mk _ (Dw _ _ oh) ?_;refine bz.yield rfl am rfl rfl ?_;have aF:=rA 0 kB [.slice a n c] dU M0 oh ⟨[],_,at2,rfl,a,c,by rw[dE,rD],by rw[dE,rD];exact NN.mono oh,by rw[dE,rD];exact gD⟩ iT;refine BK.mk M0 [_] _ (Pt _ _).symm aF ?_;rintro v ed dp gq (⟨rfl,nb⟩ | ⟨rfl,ae⟩)
  rotate_left
  ·refine aS.mk (λ_=>?_) (λh=>d5);exact⟨_,_,.sub (tK _ _) .refl,.inr ae⟩
  refine aS.mk (λh=>d5) (λ_=>?_);have Ga:∀ b o,I b=some o->ed b=some o:=λb o h=>gq _ _ (oh _ _ h);obtain⟨ad,bt,at3⟩:=au.a'.row ak.cq (j:=k) Z af;have gB:=au.ns _ (bD af);have eF:=gB.aA;have mL:=gB.a'.cap;refine aJ.mk _ (at1 _ _ Ga) ?_;refine aJ.mk _ (Np _ _ Ga) ?_;refine bi.mk ad k bt rfl Z ?_;refine aJ.mk _ (((at3 _).mono Ga).part (k:=8) (m:=1) bv) ?_;have Dx:gW ∉ M0.map (·.num):=λhm=>by obtain⟨x,ae,e⟩:=c6.1 hm;exact yO x ae e
  refine c2.rc (ι:=Nat×Nat×aI×List aD) (λx=>{ bn:=[(1,.val (ptr b1)),(2,.val (ptr b8)),(3,.val (ptr eo)),(4,.val (ptr gW)),(17,.val (.slice t.ns[k].bX t.ns[k].aA t.ns[k].b5)),(18,.val (.int .i64 t.ns[k].aA)),(19,.val (.int .i64 (x.1:Int)))],cm:=x.2.2.1,cK:=x.2.2.2 }) (λx=>x.1<=t.ns[k].aA/\(∀ b o,I b=some o->x.2.2.1 b=some o)/\x.2.2.1 gW=some (.cells #[.func (.yield y) #[] #[]] 227 (0,0))/\R x.2.1 x.2.2.1 x.2.2.2/\x.2.1<=(fs t.ns k).paths.length/\(fs t.ns k).paths.drop x.2.1=aU.vU x.1 ((t.ns[k].ao.map (fs t.ns)).drop x.1)) (λx=>t.ns[k].aA-x.1) ?_ ?_;·intro ew;have afn:ed gW=none:=ew.d _ (sf _ (.head _));refine⟨(0,1,ins ed gW _,dp),⟨dh _,λb o h=>l9 afn _ _ (Ga _ _ h),o3 ..,uK _ _ _ _ (l9 afn) nb,ce,?_⟩,.perm (Pt _ _) (.nG rfl Dx .refl),pJ,.nil⟩;simp only[tq];rw[bm,aU.JM];rfl
  rintro⟨i,vC,J,M1⟩⟨hi,a6,um,h',Fu,lp⟩;simp only at hi a6 um h' Fu lp;refine aS.mk (λh=>?_) (λh=>?_)
  rotate_left
  ·have cM:¬ (i:Int)<(t.ns[k].aA:Int):=db h;have aN:(t.ns[k].ao.map (fs t.ns)).drop i=[]:=l5 au';rw[aN,aU.UH,GV]at lp;have:vC=(fs t.ns k).paths.length:=by omega
   subst this;exact⟨_,_,.refl,.inl h'⟩
  have aV:i<t.ns[k].aA:=by have:(i:Int)<(t.ns[k].aA:Int):=cv h;omega
  have cF:i<t.ns[k].ao.length:=by omega
  obtain⟨ac,at4,Ft⟩:=gB.a'.one aV cF;have AO:=jX ag k af _ (bD cF);obtain⟨q,aM⟩:=dZ AO.1;have ax2:q<k:=by omega
  rw[aM]at Ft;have FV:(t.ns[k].ao.map (fs t.ns)).drop i=fs t.ns q::(t.ns[k].ao.map (fs t.ns)).drop (i+1):=by rw[e9 (by rw[bA];exact cF),gl,aM]
  rw[FV,aU.UG]at lp;refine bi.mk ac i at4 rfl aV ?_;refine aJ.mk _ ((Ft _).mono a6) ?_;refine cN.OT (λi=>Nat.beq i 0) aT rfl rfl rfl ?_;refine aJ.mk _ (y3 _ _ a6) ?_;refine aJ.mk _ (Dw _ _ a6) ?_;refine aJ.mk _ (Dw _ _ a6) ?_;refine aJ.mk _ (Dw _ _ a6) ?_;refine Og.mk n n rfl rfl (cf _) NN.cap.1 ?_;refine bN.mk λb9 kI r3=>?_;intro G hc;refine kZ.at0 aT rfl (e:=3) rfl rfl rfl rfl (NN.mono a6) gD (Na (hc _ d9) rfl) (b9:=b9) (cs:=[.int .i64 (i:Int)]) (Na (hc _ d9) rfl) rfl rfl (.head _) Z (by show(n+1)*8<=_;omega) ?_;intro os AM ac5 bV;refine a9.DK [] _ _ (.refl _) (afj t q (os.a.map λg=>⟨g,0,none⟩) os.n os.c) ?_;rintro v cS oW c1 v9⟨fg,e1,js,rfl,yE,yF,NO,-,rfl⟩;have afo:∀ b o,I b=some o->cS b=some o:=λb o h=>c1 _ _ (a6 _ _ h);have Dy:∀ b o,cS b=some o->lr cS os 3 b=some o:=A' (M:=[]) λx ae=>v9 x (by
   simp only[dE]at ae;simp[ae])
  have oz:∀ b o,I b=some o->lr cS os 3 b=some o:=λb o h=>Dy _ _ (afo _ _ h);have at5:ls ba++[.int .i64 (i:Int)]=ls (ba++[(i:Int)]):=by simp[ls]
  rw[at5]at bV;have at6:(ba++[(i:Int)]).length=os.n:=by rw[ct,pi];omega
  have xU:=afm ag gu m q Z Z (au.mono oz) (ba:=ba++[(i:Int)]) (a:=os.a.map λg=>⟨g,0,none⟩) (n:=os.n) (c:=os.c) at6 Z (F6 bV Z) (λh=>Z) (Dy _ _ yE) (Dy _ _ yF) (Dy _ _ NO);refine cN.KB (A:=wz) wz.cons aT rfl rfl rfl (I1:=lr cS os 3) (M1:=M1) (.sub ((wv _ _).append_left _) (F5 λg az=>(ac5 g az).2)) xU (λk vs I h aM=>by
    obtain⟨p,v,-,rfl,-⟩:=aM;rfl) (λj I M=>R (vC+j) I M) (λex I M=>ex=.ret/\lE I M) (λk I I' M h aZ=>uK _ _ _ _ h aZ) (uK _ _ _ _ (λb o h=>Dy _ _ (c1 _ _ h)) h') ?_ ?_ ?_
  ·rintro j ai vs I' M' g3⟨p,v,aK,rfl,C5⟩rm l B ax jk;refine aJ.mk [.func (.yield y) #[] #[]] ⟨rfl,_,_,_,.inl (g3 _ _ (Dy _ _ (c1 _ _ um))),rfl,rfl⟩ ?_;refine bz.yield rfl am rfl rfl ?_;have fa:(fs t.ns k).paths[vC+j]?=some ((i:Int)::p):=by rw[<-nC,lp,sv (by rw[bA];exact ai),jJ,aK];rfl
   have aev:=(jd.1 fa).1;have aF:=rA (vC+j) aev [v] I' M' (λb o h=>g3 _ _ (oz _ _ h)) ⟨_,v,fa,rfl,by rw[ej,qJ]at C5;exact C5⟩ rm;refine BK.mk M' [] _ am aF ?_;rintro w lF ru mI (⟨rfl,h⟩ | ⟨rfl,h⟩);·refine aS.mk (λh=>d5) (λ_=>?_);exact⟨_,_,.perm am .refl,h⟩
   ·refine aS.mk (λ_=>?_) (λh=>d5);exact⟨_,_,.perm am .refl,rfl,h⟩
  ·intro I' M' g3 rm;refine a3.mk _ (cC (i:=i) Z) ?_;intro _;refine⟨(i+1,vC+(fs t.ns q).paths.length,I',M'),⟨⟨aV,λb o h=>g3 _ _ (oz _ _ h),g3 _ _ (Dy _ _ (c1 _ _ um)),rm,?_,?_⟩,ce⟩,.refl,pJ,.nil⟩
   ·have:=congrArg List.length lp;rw[oU,ct,bA]at this;have:=(fs t.ns q).afi;simp only;omega
   ·simp only;rw[<-D2,lp,GW (by rw[bA])]
  ·rintro ex I' M' g3⟨rfl,h⟩;exact⟨am,_,_,.refl,.inr h⟩
structure jB where
 rule:Nat
 path:List Int
 a:Option Addr
 c:Nat
def jB.cells(x:jB):List Value:=[.int .i64 x.rule,.slice x.a x.path.length x.c]
def jB.cq(x:jB):x.cells.length=2:=rfl
structure jB.ok(I:aI)(x:jB):Prop where
 a':cZ I x.a x.path.length x.c 1 8 (ls x.path)
def jB.ok.mono{x:jB}(h:x.ok I)(bG:∀ b o,I b=some o->I' b=some o):x.ok I':=⟨h.a'.mono bG⟩
def jB.oI(x:jB):Nat×List Int:=(x.rule,x.path)
def lu:Nat->List a4->List (Nat×List Int)
 |_,[]=>[]| i,d::ds=>(b4 d.t).paths.map (λp=>(i,p))++lu (i+1) ds
def UJ:∀ (ds:List a4) (d:a4) (i:Nat),lu i (ds++[d])=lu i ds++(b4 d.t).paths.map (λp=>(i+ds.length,p))
 |[],d,i=>by simp[lu]
 |e::ds,d,i=>by rw[pP,lu,lu,UJ ds d (i+1),ej,ey,show i+1+ds.length=i+(ds.length+1) by omega]
def at7(l:List aP):(l.flatMap aP.c5).length=(l.map λc=>c.c5.length).sum:=by rw[yg]
def afp:∀ (i:Nat) (l:List aU),(aU.vU i l).length=(l.map λc=>c.paths.length).sum
 |_,[]=>by rw[aU.UH];rfl
 |i,c::l=>by rw[aU.UG,ct,bA,afp (i+1) l];rfl
def aua(ns:List ak):∀ T:aP,(T.bare ns).paths.length=T.c5.length:=by
 intro T
 induction T using aP.ind with
 |h k ks aX=>rw[aP.nA,aU.JM,aP.mT,ey,afp,ct,at7,gE,pi];congr 2;exact fX λc ar=>aX c ar
def aub(h:hg t):(b4 t).paths.length<=t.ns.length:=by obtain⟨T,aa,ab,al,aL,bB⟩:=h.F7;rw[al,aua];exact bB
def NP:∀ (ds:List a4) (i:Nat),(∀ d∈ds,right d.t=true)->(lu i ds).length<=(ds.map λd=>d.t.ns.length).sum
 |[],_,_=>cf _| d::ds,i,h=>by have aa:=aub (ix.1 (h d (.head _)));have ab:=NP ds (i+1) λe he=>h e (.tail _ he);rw[lu,ct,bA,ch,hx];omega
def auc(ds:List a4)(n:Nat):((ds.take n).map λd=>d.t.ns.length).sum<=(ds.map λd=>d.t.ns.length).sum:=by
 conv=>rhs;rw[<-pO n ds,cJ,pW]
 omega
def aud(bm:fr I aB)(az:g.ok I)(ah:(g.ds.map λd=>d.t.ns.length).sum<=1048576):Spec Tryz.prog 65 [g.val] I [] λv I' M'=>(∀ b o,I b=some o->I' b=some o) /\
  ∃ (os:aO) (L:List jB),v=os.val/\os.ok 2 (L.flatMap jB.cells)/\(∀ x∈L,x.ok I')/\M'=os.aq 84/\L.map jB.oI=if ea aB g=0 then lu 0 g.ds else []:=by
 refine bR [3,4] aT Tryz.func65 rfl rfl rfl ?_;intro B ax;have ib:=az.n;have g8:=az.a'.cap;refine a9.mk [] [] _ (.refl _) (XC bm az) ?_;rintro v J N -⟨rfl,a6,rfl⟩;refine aS.mk (λh=>?_) (λh=>?_)
 ·have hm:ea aB g≠0:=by have:(!decide (ea aB g=0))=true:=h;simpa using this
  refine⟨_,_,.refl,a6,gV,[],rfl,jt 2,(λx ae=>wt),rfl,?_⟩;rw[bK hm];rfl
 have hm:ea aB g=0:=by have:(!decide (ea aB g=0))=false:=h;simpa using this
 have ag:∀ d∈g.ds,right d.t=true:=λd aj=>by have:=fV.1 (Ji.1 hm).2.1 d aj;rw[cH]at this;exact(T9.1 this.2).1
 refine bN.mk λeo CS afk=>?_;refine c2.inv (ι:=Nat×aO×List jB×aI) (λx=>{ bn:=[(1,.ref 1 0),(3,.val (ptr eo)),(11,.val (.slice g.a g.n g.c)),(12,.val (.int .i64 g.n)),(13,.val (.int .i64 (x.1:Int)))],cl:=[(1,[.slice g.a g.n g.c])],cm:=x.2.2.2,cK:=⟨eo,.cells #[x.2.1.val] 81 (0,0)⟩::x.2.1.aq 84 }) (λx=>x.1<=g.n/\(∀ b o,I b=some o->x.2.2.2 b=some o)/\x.2.1.ok 2 (x.2.2.1.flatMap jB.cells)/\(∀ y∈x.2.2.1,y.ok x.2.2.2)/\x.2.2.1.map jB.oI=lu 0 (g.ds.take x.1)) (λx=>g.n-x.1) ?_ ?_
 ·exact⟨(0,gV,[],J),⟨dh _,a6,jt 2,(λy aF=>by cases aF),rfl⟩,.refl,fh,.cons rfl (.nil)⟩
 rintro⟨i,os,L,K⟩⟨hi,c7,bV,ca,qh⟩;simp only at hi c7 bV ca qh;refine aS.mk (λh=>?_) (λh=>?_)
 rotate_left
 ·have cM:¬ (i:Int)<(g.n:Int):=db h;refine aJ.mk [os.val] (dj (cs:=[os.val]) (k:=0) (n:=1) (T:=81) (.head _) am) ?_;refine⟨_,_,.sub (wv _ _) .refl,c7,os,L,rfl,bV,ca,rfl,?_⟩;rw[bY hm,qh,fE Z]
 have aV:i<g.n:=by have:(i:Int)<(g.n:Int):=cv h;omega
 have cF:i<g.ds.length:=by omega
 obtain⟨ad,bt,bj⟩:=az.a'.row a4.cq aV cF;have aj:=az.ds _ (bD cF);have xe:=ag _ (bD cF);have lG:g.ds.take (i+1)=g.ds.take i++[g.ds[i]]:=gi cF;have FN:=NP (g.ds.take (i+1)) 0 λd aj=>ag d (uW aj);have rU:=auc g.ds (i+1);rw[lG,UJ,ct,bA,<-qh,bA]at FN;rw[lG]at rU;have gu:=aj.t.n;obtain⟨gH,fT⟩:=kh xe;obtain⟨r,dD⟩:=dZ gH;have ax3:g.ds[i].t.ns.length<=1048576:=by rw[cJ,pW]at rU;simp only[ch,hd,hx,x5]at rU;omega
 generalize rv:g.ds[i]=d at *;obtain⟨I3,⟨ns,zY,ya,zZ,jO⟩⟩:=d;refine bi.mk ad i bt rfl aV ?_;refine aJ.mk _ ((bj _).mono c7) ?_;refine bN.mk λgW Fg yO=>?_;refine b'.mk [] (⟨eo,.cells #[os.val] 81 (0,0)⟩::os.aq 84) #[.int .i64 0] 3 rfl rfl (bJ rfl) rfl ?_;refine a9.DK [] _ _ (.refl _) (afj ⟨ns,zY,ya,zZ,jO⟩ jO none 0 0) ?_;rintro v cS oW c1 v9⟨fg,e1,js,rfl,yE,yF,NO,-,rfl⟩;have um:cS gW=none:=v9 _ (.head _);have y0:∀ b o,cS b=some o->ins cS gW (.cells #[.int .i64 (i:Int)] 3 (0,0)) b=some o:=l9 um;have afq:∀ b o,I b=some o->ins cS gW (.cells #[.int .i64 (i:Int)] 3 (0,0)) b=some o:=λb o h=>y0 _ _ (c1 _ _ (c7 _ _ h));have k2:=aj.t.mono afq;have UK:ns.length=ya:=gu;have dw:r<ns.length:=by have ax4:jO<(ns.length:Int):=fT;have ax5:jO=(r:Int):=dD;omega
 rw[show jO=(r:Int)from dD]at NO;have xU:=afm xe Z (r+1) r (Bj _) dw k2 (ba:=[]) (a:=none) (n:=0) (c:=0) rfl Z ⟨rfl,⟨cf _,Z⟩,.inl rfl⟩ (λ_=>rfl) (y0 _ _ yE) (y0 _ _ yF) (y0 _ _ NO);have hX:b4 ⟨ns,zY,ya,zZ,jO⟩=fs ns (r:Int):=by unfold b4;rw[show jO=(r:Int)from dD]
 have ax6:L.length+(fs ns (r:Int)).paths.length<=1048576:=by have aa:L.length+(b4 ⟨ns,zY,ya,zZ,jO⟩).paths.length<=_:=FN;rw[hX]at aa;omega
 refine cN.KB (A:=wz) wz.cons aT rfl rfl rfl (I1:=ins cS gW (.cells #[.int .i64 (i:Int)] 3 (0,0))) (M1:=⟨eo,.cells #[os.val] 81 (0,0)⟩::os.aq 84) (.nG rfl am .refl) xU (λk vs I h aM=>by
   obtain⟨p,v,-,rfl,-⟩:=aM;rfl) (λj I' M'=>∃ (e8:aO) (jN:List jB),M'=⟨eo,.cells #[e8.val] 81 (0,0)⟩::e8.aq 84/\e8.ok 2 (jN.flatMap jB.cells)/\(∀ y∈jN,y.ok I')/\jN.map jB.oI=lu 0 (g.ds.take i)++((fs ns (r:Int)).paths.take j).map λp=>(i,p)) (λex I M=>False)
  (λk I I' M h ⟨e8,jN,aa,ab,al,aL⟩=>⟨e8,jN,aa,ab,λy aF=>(al y aF).mono h,aL⟩) ⟨os,L,rfl,bV,λy aF=>(ca y aF).mono (λb o h=>y0 _ _ (c1 _ _ h)),by simpa using qh⟩ ?_ ?_ (λex I' M' _ h=>h.elim)
 ·rintro j ai vs I' M' g3⟨p,v,aK,rfl,a,c,rfl,afr,gD⟩⟨e8,jN,rfl,kV,ox,y'⟩l B ax jk;rw[hW]at afr gD;simp only[hW];have bB:=congrArg List.length y';rw[bA,ct,bA,fF,<-qh,bA]at bB;have cA:=kV.len;rw[gz _ 2 jB.cq]at cA;refine aJ.mk [e8.val] (dj (cs:=[e8.val]) (k:=0) (n:=1) (T:=81) (.head _) am) ?_;refine aJ.mk [.int .i64 (i:Int)] ⟨rfl,_,_,_,.inl (g3 _ _ (o3 ..)),rfl,rfl⟩ ?_;refine bN.mk λb9 kI r3=>?_;refine bz.lh aT rfl am (e:=84) rfl rfl rfl e8 kV rfl (cs:=[.int .i64 (i:Int),.slice a p.length c]) rfl rfl rfl [_] [] ar' Z (by show(e8.n+1)*32<=_;omega) ?_;intro fS aa ab al;refine b'.mk [] (fS.aq 84++[]) #[e8.val] 81 rfl rfl (bJ rfl) rfl ?_;refine⟨_,_,.mc ar',fS,jN++[⟨i,p,a,c⟩],rfl,?_,?_,?_⟩
  ·rw[fL,o9];exact al
  ·intro y aF;rcases cW.1 aF with aF | aF
   ·exact ox y aF
   ·rw[ep.1 aF];exact⟨afr⟩
  ·obtain⟨tu,iH⟩:=jd.1 aK;rw[cJ,y',gi tu,cJ,iH,ej];rfl
 ·rintro I' M' g3⟨e8,jN,rfl,kV,ox,y'⟩;refine a3.mk _ (cC (i:=i) Z) ?_;refine⟨(i+1,e8,jN,I'),⟨⟨aV,λb o h=>g3 _ _ (afq _ _ h),kV,ox,?_⟩,ce⟩,.refl,fh,.cons rfl (.nil)⟩;simp only;rw[y',lG,UJ,fE (cf _),<-hX,fF,dg,pE Z]
def afs(au:t.ok I)(ag:right t=true)(aE:t.n<=1099511627776):vp t:=λd aj=>by have aZ:=ix.1 ag;obtain⟨j,ai,rfl⟩:=hL aj;obtain⟨T,aa,ab,-,aL⟩:=aZ.lt ai;have af:=ab.AY;rw[aa,fw ai]at af;have bB:=M6 aL λx ae=>ab.lt x ae;have cA:=FX T;have eB:=A1 T.sub;have e6:=(au.ns _ (bD ai)).aA;have dW:=au.n;rw[af]at e6;simp only[e7,bA]at e6;omega
def aft(hm:ea aB g=0)(aE:∀ d∈g.ds,d.t.n<=549755813888):Un g:=⟨λd aj=>r9 hm aj,aE⟩
section
variable{X:c3}{F:Fr}{C:dB}{I:aI}{M:List aD}{o:Oper}
theorem kZ.aue(aQ:cX X.P X.E){t:Nat}(aG:o.op=.call { callee:=.builtin .append,args:=#[s,x],argTypes:=#[t,t] })
  {e:Nat} (au:X.E t=some dd) (dA:dd.bM=.slice e) (he:X.E e=some aH)
 (aw:bI F s=.val (.slice sa n c)) (na:n<=c) {xa:Option Addr} (ae:bI F x=.val (.slice xa 0 c'))
  (h:K (.val (.slice sa n c)) I M):kZ X o F C I M K:=by
 refine⟨fun β a w Q aZ=>?_⟩;obtain⟨inf,z,hi,fp,hs,h8,j'⟩:=(aQ _ _ he).inf;obtain⟨g7,iu,k2⟩:=(aQ _ _ au).fA;have oY:g7=.slice e:=by rw[dA]at k2;cases g7<;>simp_all[fz]
 subst oY;have fk:=WT (w:=w) t t o.type e inf iu iu (λk cY=>by cases cY) hi (sa:=sa) na (.inl ⟨xa,c',rfl⟩);have es:=dt aZ.ap aw;have ex:=dt aZ.ap ae;refine iQ f9 (v:=.slice sa n c) (w':=w) ?_ ⟨_,.val (.slice sa n c),I,M,rfl,rfl,aZ,h,rfl⟩;unfold execOp;simp only[aG,resolve,invoke,builtin,cz,dn,cd,rs,ch,hd,es,ex,fk]
def kZ.UL(aQ:cX X.P X.E){t:Nat}(aG:o.op=.call { callee:=.builtin .append,args:=#[s,x],argTypes:=#[t,t] })
  {e:Nat} (au:X.E t=some dd) (dA:dd.bM=.slice e) (he:X.E e=some aH)
  (os:aO) (bl:os.ok aH.size xs) (aw:bI F s=.val os.val)
 (ae:bI F x=.val (.slice sa m c')) (ay:cb.length=m*aH.size) (aE:0<m->∃ ad,sa=some ad/\cG I M ad (m*aH.size) cb) (aa:fG cb=true)
  (ba post:List aD) (bd:M=ba++(os.aq e++post)) (b1:os.n+m<=maxLen) (b8:(os.n+m)*aH.bytes<=140737488355328)
  (k:∀ br:aO,br.n=os.n+m->br.ok aH.size (xs++cb)->K (.val br.val) I (ba++(br.aq e++post))):kZ X o F C I M K:=by
 by_cases ax:m=0
 ·subst ax;have nJ:cb=[]:=iB rt;subst nJ;refine kZ.aue aQ aG au dA he (sa:=os.a.map λg=>⟨g,0,none⟩) (n:=os.n) (c:=os.c) aw ?_ ae ?_
  ·cases a8:os.a with
   |none=>obtain⟨ee,eO⟩:=bl.nil a8;omega
   |some g=>exact(bl.cap g a8).2.1
  ·have:=k os rfl (by rw[dE];exact bl);rw[bd];exact this
 obtain⟨ad,rfl,bj⟩:=aE Z;refine kZ.adF aQ aG au dA he os bl aw ae Z bj aa (Mr:=ba++post) ?_ b1 b8 (λbr=>ba++(br.aq e++post)) (λbr=>?_) λbr aa _ ab=>k br aa ab
 ·rw[bd];exact wM _ _ _
 ·exact(wM _ _ _).symm
end
structure auf(aB:List Int)(g:cR)(u:Nat)(X:aU)(I':aI)(h:cR)(b:Bool):Prop where
 is:b=y9 aB g u X
 ok:b=true->h.ok I'/\h.n=g.n/\∃ be,mq be X/\be.ns.length=be.n/\h.ds.map a4.aW=(eQ g.ds u be).map a4.aW/\ea aB h=0/\∃ r,py aB h r/\r.2=0
def aug(hw:JG aB g F)(fy:∀ d∈g.ds,d.t.ns.length=d.t.n)(aE:∀ d∈g.ds,d.t.n<=549755813888)(hu:u<g.ds.length){x:aU}(cQ:(b4 g.ds[u].t).go p=some S)(ae:NH g S x)(rT:dT x<=549755813888)(cU:h.ok J)(s6:h.n=g.n)(dI:h.ds.map a4.aW=(eQ g.ds u be).map a4.aW)(dN:mq be (mU g u p x)) :
  be.ns.length=be.n/\(∀ e∈h.ds,vp e.t)/\(ea aB h=0\/ea aB h=40)/\y9 aB g u (mU g u p x)=decide (ea aB h=0)/\∀ r,py aB h r->(r.2=0 ↔ ea aB h=0):=by
 have qi:g.ds.getD u lq=g.ds[u]:=by simp[bP,hu]
 have UK:be.ns.length=be.n:=by
  have hm:=congrArg (λl:List a4=>l[u]?) dI;simp only[jJ]at hm;have Hc:u<h.ds.length:=by have:=cU.n;have:=hw.n;omega
  rw[Nx hu,du Hc]at hm;have hm:=eX hm;have aa:=(cU.ds _ (bD Hc)).t.n;have ab:h.ds[u].t.aW=be.aW:=congrArg a4.t hm;have al:h.ds[u].t.ns.length=be.ns.length:=by have:=congrArg (λt:bf=>t.ns.length) ab;simpa[bf.aW]using this
  have aL:h.ds[u].t.aW.n=be.aW.n:=congrArg bf.n ab;have aL:h.ds[u].t.n=be.n:=aL;omega
 obtain⟨s1,s2,auh⟩:=atm hw hu cQ ae dN UK s6 cU.n dI;refine⟨UK,λe he=>?_,s1,s2,auh⟩;have bB:e.aW∈(eQ g.ds u be).map a4.aW:=by rw[<-dI];exact c6.2 ⟨e,he,rfl⟩
 obtain⟨cY,ub,cA⟩:=c6.1 bB;have eB:e.t.aW=cY.t.aW:=(congrArg a4.t cA).symm;have e6:right cY.t=true/\cY.t.n<=1099511627776:=by
  obtain⟨i,hi,rfl⟩:=hL ub;by_cases aH:i=u;·subst aH;have dW:=Nx (y:=be) hu;rw[du hi]at dW;rw[eX dW];refine⟨dN.right (aeX hw (p:=p) hu ae.ok).1,?_⟩;have oZ:=congrArg List.length dN.aW;rw[bA,JI]at oZ;unfold mU at oZ;rw[qi]at oZ;have Sc:=Ut ((b4 g.ds[i].t).put p x);have ax7:=JJ (X:=x) p _ cQ;have ax8:=F9 (r9 hw.m (bD hu));have ax9:=fy _ (bD hu);have aya:=aE _ (bD hu);show be.n<=_;omega
  ·have dW:=T7 (ds:=g.ds) (y:=be) aH;have dP:i<g.ds.length:=by rw[r8]at hi;exact hi
   rw[du hi,du dP]at dW;rw[eX dW];exact⟨r9 hw.m (bD dP),by have:=aE _ (bD dP);omega⟩
 refine afs (cU.ds e he).t ?_ ?_
 ·rw[<-tV,eB,tV];exact e6.1
 ·have dW:e.t.aW.n=cY.t.aW.n:=congrArg bf.n eB;have dW:e.t.n=cY.t.n:=dW;omega
def aui(hu:u<g.ds.length)(cQ:(b4 g.ds[u].t).go p=some S)(x:aU):vQ g (u:Int) p x=some (mU g u p x):=by
 have qi:g.ds.getD u lq=g.ds[u]:=by simp[bP,hu]
 unfold vQ uo mU;rw[bY Z,h2,qi,cQ];rfl
def vT.mono{L:List bf}(h:vT I a c L)(bG:∀ b o,I b=some o->I' b=some o):vT I' a c L:=⟨h.a'.mono bG,λt au=>⟨(h.ok t au).1.mono bG,(h.ok t au).2⟩,h.n,h.l⟩
def UM(L:List bf):(L.flatMap bf.cells).length=L.length*2:=gz _ 2 (λ_=>rfl) L
def NQ:∀ L:List bf,fG (L.flatMap bf.cells)=true
 |[]=>rfl| t::L=>by rw[iS];show fG (.slice t.a t.n t.c::.int .i64 t.bp::L.flatMap bf.cells)=true;have:=NQ L;simpa[fG,Value.oneCell']using this
def Dz(w:Int):Nat:=if w=1 then 34 else 33
def auj(bm:fr I aB)(w:Int){L:List bf}(ca:vT I a c L):Spec Tryz.prog (Dz w) [.slice a L.length c] I M0 (oF (some (q4 (j6 w) (L.map b4))) I M0):=by
 unfold Dz j6;by_cases h:w=1
 ·rw[bY h,bY h];exact atU bm ca
 ·rw[bK h,bK h];exact atT bm ca
def NR(x:BitVec 64):eC (x.toNat:Int):=⟨ER _,by have:=x.isLt;omega⟩
def afu(bm:fr I aB)(hw:JG aB g F)(az:g.ok I)(aE:∀ d∈g.ds,d.t.n<=549755813888)(yb:g.n<=1000000)(hu:u<g.ds.length)(aK:cZ I pa pn pc 1 8 (ls path))(cQ:(b4 g.ds[u].t).go path=some S)
  {bX:Option Addr} {b5:Nat} {L:List bf} (ca:vT I bX b5 L) (JN:(L.map (·.n)).sum<=274877906944/\L.length<=274877906944) {bF:Nat} (fa:bF+1<L.length) {s:a5} {x:aU} (ae:x=q4 (j6 w) ((L.take bF).map b4++kv s::(L.drop (bF+2)).map b4)) (Ds:NH g S x) (rT:dT x<=549755813888)
  {b1 b8 eo gW eb:Nat} (aa:I b1=some (.cells #[.slice bX L.length b5] 55 (0,0))) (ab:I b8=some (.cells #[.int .i64 bF] 3 (0,0))) (al:I eo=some (.cells #[.func (.func (Dz w)) #[] #[]] 62 (0,0))) (aL:I gW=some (.cells #[.slice g.a g.n g.c] 28 (0,0))) (bB:I eb=some (.cells #[.int .i64 u,.slice pa pn pc] 84 (0,0))) :
  Spec Tryz.prog 182 [s.val,ptr b1,ptr b8,ptr eo,ptr gW,ptr eb] I [] λv I' M'=>(∀ b o,I b=some o->I' b=some o)/\M'=[]/\∃ (h:cR) (b:Bool),v=.tuple #[h.val,.bool b]/\auf aB g u (mU g u path x) I' h b:=by
 refine bR [] aT Tryz.func182 rfl rfl rfl ?_;intro B ax;have FJ:=ca.a'.len;have ayb:=ca.a'.cap;have Lq:∀ {J:aI} (M:List aD),(∀ b o,I b=some o->J b=some o)->cG J M ⟨b1,0,none⟩ 1 [.slice bX L.length b5]:=λM a6=>⟨rfl,_,_,_,.inl (a6 _ _ aa),rfl,rfl⟩;have KH:∀ {J:aI} (M:List aD),(∀ b o,I b=some o->J b=some o)->cG J M ⟨b8,0,none⟩ 1 [.int .i64 bF]:=λM a6=>⟨rfl,_,_,_,.inl (a6 _ _ ab),rfl,rfl⟩;have auk:∀ {J:aI} (M:List aD),(∀ b o,I b=some o->J b=some o)->cG J M ⟨eo,0,none⟩ 1 [.func (.func (Dz w)) #[] #[]]:=λM a6=>⟨rfl,_,_,_,.inl (a6 _ _ al),rfl,rfl⟩;have aul:∀ {J:aI} (M:List aD),(∀ b o,I b=some o->J b=some o)->cG J M ⟨gW,0,none⟩ 1 [.slice g.a g.n g.c]:=λM a6=>⟨rfl,_,_,_,.inl (a6 _ _ aL),rfl,rfl⟩;have Cy:∀ {J:aI} (M:List aD),(∀ b o,I b=some o->J b=some o)->cG J M ⟨eb,0,none⟩ 2 [.int .i64 u,.slice pa pn pc]:=λM a6=>⟨rfl,_,_,_,.inl (a6 _ _ bB),rfl,rfl⟩;have afv:=ca.a'.Tw (f:=bf.cells) (λ_=>rfl) (lo:=0) (hi:=bF) Z Z rfl;have Gb:=ca.a'.Tw (f:=bf.cells) (λ_=>rfl) (lo:=bF+2) (hi:=L.length) Z Z rfl;have aN:(if b5=0 then bX else bX.map (·.add (0*2)))=bX:=by
  split;·rfl
  ·cases bX with
   |none=>rfl| some ad=>simp[Addr.add]
 rw[aN,tq,EA,EA]at afv;rw[fE am]at Gb;refine aJ.mk _ (Lq _ λ_ _ h=>h) ?_;refine aJ.mk _ (KH _ λ_ _ h=>h) ?_;refine j7.mk 0 bF rfl rfl (dh _) Z ?_
 refine bz.w0 aT rfl am (e:=24) rfl rfl rfl gV (xs:=[]) (jt 2) rfl (sa:=bX) (m:=bF) (c':=b5) rfl (cb:=(L.take bF).flatMap bf.cells) arg (λh=>?_) (NQ _) [] [] rfl (by show 0+bF<=_;omega) (by show(0+bF)*32<=_;omega) ?_
 ·obtain⟨ad,bt,de,cs,T,ap,bG,ar⟩:=afv.rd.resolve_left Z;exact⟨ad,bt,de,cs,T,ap,.inl bG,ar,arg⟩
 intro ui nV _ UN;have dA:=aci (I:=I) (NR s.a) (NR s.b) (NR s.c) (NR s.d);refine a9.mk [] _ _ (.refl _) dA ?_;rintro v J N a6⟨-,ts,rfl,dA,UO,MV,rfl⟩;refine bN.mk λayc ayd aye=>?_;refine bz.lh aT rfl am (e:=24) rfl rfl rfl ui UN rfl (cs:=ts.cells) rfl rfl rfl [] [] rfl (by rw[nV];show 0+bF+1<=_;omega) (by rw[nV];show(0+bF+1)*32<=_;omega) ?_;intro e8 kQ _ kV;have kV:e8.ok 2 ((L.take bF++[ts]).flatMap bf.cells):=by rw[fL,o9];exact kV
 have kQ:e8.n=bF+1:=by
  rw[kQ,nV];show 0+bF+1=_
  omega
 have lI:=bm.mono a6;have NS:=ca.mono a6;have l2:mq ts (kv s):=by
  refine⟨?_,?_⟩;·rw[UO];unfold kv;rw[aU.ld];rfl
  ·rw[UO,MV];rfl
 have Jh:=l2.right (Uu s);have za:=l2.b4 (Uu s) (.mk rfl λc ar=>by cases ar);have ayf:ts.n=1:=by rw[<-dA.n,UO];rfl
 have wY:∀ fS:aO,fS.n=e8.n+(L.length-(bF+2))->fS.ok 2 ((L.take bF++[ts]).flatMap bf.cells++(L.drop (bF+2)).flatMap bf.cells)->(∀ b o,J b=some o->lr J fS 24 b=some o)->Spec Tryz.prog (Dz w) [.slice (fS.a.map λg=>⟨g,0,none⟩) fS.n fS.c] (lr J fS 24) [] (oF (some x) (lr J fS 24) []):=by
  intro fS De xz bo;rw[<-fL]at xz;have uM:(L.take bF++[ts]++L.drop (bF+2)).length=fS.n:=by simp only[ct,fF,oU,pi];omega
  have dM:=F6 (J:=J) (e:=24) (b:=32) xz Z;have iD:((L.take bF++[ts]++L.drop (bF+2)).map (·.n)).sum<=(L.map (·.n)).sum+1:=by
   have aa:=Uv L bF fa
   have ab:=congrArg (λl:List bf=>(l.map (·.n)).sum) aa;simp only[cJ,pW,ch,hx,hd,x5]at ab |-;omega
  have mI:vT (lr J fS 24) (fS.a.map λg=>⟨g,0,none⟩) fS.c (L.take bF++[ts]++L.drop (bF+2)):=by
   refine⟨by rw[uM];exact dM,λt au=>?_,Z,Z⟩;rcases cW.1 au with au | au
   ·rcases cW.1 au with au | au
    ·exact⟨(NS.ok t (uW au)).1.mono bo,(NS.ok t (uW au)).2⟩
    ·rw[ep.1 au];exact⟨dA.mono bo,Jh⟩
   ·exact⟨(NS.ok t (Fz au)).1.mono bo,(NS.ok t (Fz au)).2⟩
  have:=auj (M0:=[]) (lI.mono bo) w mI;rw[uM]at this;rw[ae];simpa only[cJ,ch,hd,za,ej,qJ]using this
 have Gb:=Gb.mono a6;have afw:∀ {M:List aD},0<L.length-(bF+2)->∃ ad,(if b5=bF+2 then bX else bX.map (·.add ((bF+2)*2)))=some ad/\cG J M ad ((L.length-(bF+2))*2) ((L.drop (bF+2)).flatMap bf.cells):=by intro M h;obtain⟨ad,bt,de,cs,T,ap,bG,ar⟩:=Gb.rd.resolve_left Z;exact⟨ad,bt,de,cs,T,ap,.inl bG,ar,Gb.len⟩
 have afx:=Gb.len;have ev:IntKind.i64.wrap ((bF:Int)+2)=((bF+2:Nat):Int):=iY am Z;refine cN.OS (im':=λi=>Nat.blt i 4) aT rfl rfl rfl (ι:=Nat×bf×aI) (λz=>{ bn:=[(4,.val (ptr gW)),(5,.val (ptr eb)),(7,.ref 7 0),(10,.val (ptr z.1)),(11,.val (.bool true))],cl:=[(7,[.slice none 0 0])],cm:=z.2.2,cK:=[⟨z.1,.cells z.2.1.cells.toArray 24 (0,0)⟩] }) (λz=>(∀ b o,I b=some o->z.2.2 b=some o)/\z.2.1.ok z.2.2/\mq z.2.1 x/\e0 x/\jA x) ?_ ?_
 ·refine aJ.mk _ (auk _ a6) ?_;refine aJ.mk _ (Lq _ a6) ?_;refine aJ.mk _ (KH _ a6) ?_;refine a3.mk _ ev ?_;refine j7.mk (bF+2) L.length rfl rfl Z Z ?_;refine⟨?_,?_⟩
  ·intro G hc;refine kZ.UL aT rfl (e:=24) rfl rfl rfl e8 kV (F4 (hc _ d9) rfl) (F4 (hc _ d9) rfl) afx afw (NQ _) [] [] rfl ay2 (by show(e8.n+_)*32<=_;omega) ?_;intro fS De xz;have NT:=wY fS De xz;refine⟨?_,?_⟩
   ·refine a9.v0 λew=>?_;have bo:∀ b o,J b=some o->lr J fS 24 b=some o:=A' (M:=[]) ew.d;refine a9.xF (lr J fS 24) [] [] _ (F5 (λg _=>am)) (NT bo) ?_;rintro v cS N c1 -⟨-,rfl,be,rfl,hR,dN,bl,vR⟩;refine bN.mk λzb afy afz=>?_;refine b'.mk [] [] _ _ rfl rfl (bJ rfl) rfl ?_;exact⟨(zb,be,cS),⟨λb o h=>c1 _ _ (bo _ _ (a6 _ _ h)),hR,dN,bl,vR⟩,.refl,fh,.cons rfl (.nil)⟩
   ·refine bN.mk λzb afy afz=>?_;refine er.v0 λew=>?_;have bo:∀ b o,J b=some o->lr J fS 24 b=some o:=A' (M:=[]) λy aF=>ew.d _ (.tail _ aF);cases vG:fS.a with
    |none=>have:=(xz.nil vG).1;omega| some b2=>
    have kf:fS.aq 24=[⟨b2,.cells fS.aR.toArray 24 (0,0)⟩]:=by simp[aO.aq,vG]
    have fx:lr J fS 24=ins J b2 (.cells fS.aR.toArray 24 (0,0)):=by simp[lr,vG]
    have Dx:=NT bo;rw[fx]at Dx bo;refine er.OE b2 (.cells fS.aR.toArray 24 (0,0)) [] [⟨zb,.cells #[.slice none 0 0,.int .i64 0] 24 (0,0)⟩] (oF (some x) (ins J b2 (.cells fS.aR.toArray 24 (0,0))) []) (by rw[kf];exact .swap _ _ _) am Dx (λv I' M' _ x ae=>wt) ?_;rintro v cS N c1 -⟨-,rfl,be,rfl,hR,dN,bl,vR⟩;refine b'.mk [] [] _ _ rfl rfl (bJ rfl) rfl ?_;exact⟨(zb,be,cS),⟨λb o h=>c1 _ _ (bo _ _ (a6 _ _ h)),hR,dN,bl,vR⟩,.refl,fh,.cons rfl (.nil)⟩
  ·refine bN.mk λzb afy afz=>?_;intro G hc;refine kZ.UL aT rfl (e:=24) rfl rfl rfl e8 kV (F4 (hc _ d9) rfl) (F4 (hc _ d9) rfl) afx afw (NQ _) [⟨zb,.cells #[.slice none 0 0,.int .i64 0] 24 (0,0)⟩] [] rfl ay2 (by show(e8.n+_)*32<=_;omega) ?_;intro fS De xz;have NT:=wY fS De xz;refine er.v0 λew=>?_;have bo:∀ b o,J b=some o->lr J fS 24 b=some o:=A' (M:=[]) λy aF=>ew.d _ (.tail _ aF);cases vG:fS.a with
   |none=>have:=(xz.nil vG).1;omega| some b2=>
   have kf:fS.aq 24=[⟨b2,.cells fS.aR.toArray 24 (0,0)⟩]:=by simp[aO.aq,vG]
   have fx:lr J fS 24=ins J b2 (.cells fS.aR.toArray 24 (0,0)):=by simp[lr,vG]
   have Dx:=NT bo;rw[fx]at Dx bo;refine er.OE b2 (.cells fS.aR.toArray 24 (0,0)) [] [⟨zb,.cells #[.slice none 0 0,.int .i64 0] 24 (0,0)⟩] (oF (some x) (ins J b2 (.cells fS.aR.toArray 24 (0,0))) []) (by rw[kf];exact .swap _ _ _) am Dx (λv I' M' _ x ae=>wt) ?_;rintro v cS N c1 -⟨-,rfl,be,rfl,hR,dN,bl,vR⟩;refine b'.mk [] [] _ _ rfl rfl (bJ rfl) rfl ?_;exact⟨(zb,be,cS),⟨λb o h=>c1 _ _ (bo _ _ (a6 _ _ h)),hR,dN,bl,vR⟩,.refl,fh,.cons rfl (.nil)⟩
 rintro⟨zb,be,cS⟩⟨c1,hR,dN,bl,vR⟩;simp only at c1 hR dN;have hY:=bm.mono c1;have l8:=az.mono c1;have iH:=aK.mono c1;have hX:=dN.b4 bl vR;have nv:=dN.right bl;have rX:be.n<=549755813888:=by have aa:=congrArg List.length dN.aW;rw[bA,JI]at aa;have:=hR.n;omega
 have afA:=atd (M0:=[]) hY l8 (aft hw.m aE) yb hR nv rX (rule:=(u:Int)) iH;rw[hX,aui hu cQ]at afA;refine aS.mk (λh=>ci) (λ_=>?_);refine aJ.mk _ (aul _ c1) ?_;refine aJ.mk _ (Cy _ c1) ?_;refine aJ.mk be.cells ⟨rfl,_,_,_,.inr ⟨_,.head _,rfl,rfl⟩,rfl,rfl⟩ ?_;refine a9.mk [] _ _ (.refl _) afA ?_;rintro v mj N oz⟨-,rfl,h,t2,rfl,cU,s6,dI,Bb,h9,ayg⟩;rw[h2]at dI;obtain⟨ee,eO,eS,jq,Er⟩:=aug hw (λd aj=>(az.ds d aj).t.n) aE hu cQ Ds rT cU s6 dI Bb;refine bZ.mk (λ_=>?_) (λh=>ci);refine a9.mk [] _ _ (.refl _) (acA (hY.mono oz) cU eO) ?_;rintro v F8 N um⟨-,rfl,r,rfl,ag⟩;have bo:∀ b o,I b=some o->F8 b=some o:=λb o h=>um _ _ (oz _ _ (c1 _ _ h));refine aS.mk (λbB=>?_) (λbB=>?_)
 ·have bB:¬ r.2=0:=by have:(!decide (r.2=0))=true:=bB;simpa using this
  exact⟨_,_,.sub (eY _) .refl,bo,rfl,⟨[],none,0,0⟩,false,rfl,by rw[jq,fb λe=>bB ((Er r ag).2 e)],λh=>ci⟩
 ·have bB:r.2=0:=by have:(!decide (r.2=0))=false:=bB;simpa using this
  have uc:=(Er r ag).1 bB;exact⟨_,_,.sub (eY _) .refl,bo,rfl,h,true,rfl,by rw[jq,hM uc],λ_=>⟨cU.mono um,s6,t2,Bb,ee,dI,uc,r,ag,bB⟩⟩
end Go.V
