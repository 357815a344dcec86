/- Part 9 of what the proofs of this seat share: the executor, data in memory, walks.
-/
import Derived.Test.YtafmlpfnapaghaaGreatDoorK8
import Derived.Test.YtafmlpfnapaghaaGreatDoorK7
import Derived.Test.YtafmlpfnapaghaaGreatDoorK4
import Derived.Test.YtafmlpfnapaghaaGreatDoorK5
import Derived.Test.YtafmlpfnapaghaaGreatDoorK3
set_option linter.all false
set_option maxHeartbeats 16000000
namespace Go.V
open Go Go.Proofs
def abA:=@Int.tdiv_eq_ediv_of_nonneg
variable{I J:aT}{M0 M M':List aD}{g h:bP}{os os0:aY}{e ca abB c0:Int}{size b n c node c' Et f abC dO:Nat}{x:il}{α:Type}{s want:List UInt8}{y:aD}{a:Option Addr}{l deb:List Int}{cs Eu:List hK}{cs':Array Value}{t:bx}{d:aK}{o:Option Int}{r:Int×List aK}{F:List aM}{eQ:IntKind}{ds:List aK}{bd:List Nat}{R:List (List Bool)}{L:List e1}
structure RJ(u:bx)(x:Nat×Nat):Prop where
 q:x.2<=u.n
 p:x.1<=600
 small:x.1<200->u.n<200/\x.2<=u.n/\u.n<=x.1/\∀ i (h:i<u.aa.length),i<x.2->Ld u.aa[i]
set_option maxRecDepth 100000 in
def anR{u:bx}(gi:xC I u) :
  Spec Tryz.prog 16 [u.val] I M0 λv I' M'=>(∃ w:Nat,v=.int .i64 w/\w<=600/\(w<200->Le u))/\I'=I/\M'=M0:=by
 refine bn [] aI Tryz.func16 rfl rfl rfl ?_;intro B av;have arW:=gi.n;have gk:=gi.aJ.cap;refine bu.inv (ι:=Nat×Nat) (λx=>{ a4:=[(1,.ref 1 0),(3,.val (.int .i64 x.1)),(4,.val (.int .i64 x.2))],cl:=[(1,u.cells)],br:=I,bO:=M0 }) (λx=>RJ u x) (λx=>u.n-x.2) ?_ ?_
 ·refine⟨(min 200 u.n,0),⟨bQ _,by simp only;omega,λh=>⟨by simp only at h;omega,bQ _,by simp only at h |-;omega,λi _ h=>by simp at h⟩⟩,.refl,.cons .refl (.cons ?_ (.cons .refl .nil)),.cons rfl (.nil)⟩;simp only;rw[show((min 200 u.n:Nat):Int)=min 200 (u.n:Int) by omega];exact .refl
 rintro⟨p,q⟩⟨a0,aN,uY⟩;simp only at a0 aN uY;have fin:(p<200->u.n<=q)->∃ w:Nat,Value.int .i64 (p:Int)=.int .i64 w/\w<=600/\(w<200->Le u):=λh=>by
  refine⟨p,rfl,aN,λab=>?_⟩;obtain⟨r0,o6,Gd,Ge⟩:=uY ab;have:=h ab;exact⟨by omega,λbE bW=>by
   obtain⟨y,aA,rfl⟩:=rY bW;exact Ge y aA (by omega)⟩
 refine a9.mk (λbm=>aB.mk (λb5=>?_) (λb5=>?_)) (λbm=>?_)
 ·have ee:q<u.n:=by simpa using bm
  have q2:p<200:=by have:=cq b5;omega
  obtain⟨r0,o6,Gd,Ge⟩:=uY q2;have kP:q<u.aa.length:=by omega
  obtain⟨hU,oC,jW⟩:=gi.aJ.row aH.bI ee kP;have bW:=gi.aa _ (bJ kP);have eo:=bW.eJ;have h6:∀ M,bq I M ((hU.add (q*9)).add 8) 1 [.slice u.aa[q].eA u.aa[q].aZ u.aa[q].ej]:=λM=>(jW M).part (k:=8) (m:=1) (by decide);have oh:∀ M,bq I M ((hU.add (q*9)).add 5) 1 [.string u.aa[q].t]:=λM=>(jW M).part (k:=5) (m:=1) (by decide);generalize anS:u.aa[q]=bE at bW eo h6 oh;refine cr.draw aI rfl rfl rfl ?_;refine aW.mk hU q oC rfl ee ?_;refine aE.mk _ (h6 _) ?_;refine aQ.mk ((p+min 200 bE.aZ:Nat):Int) (ku (by omega) (by omega)) ?_;refine aW.mk hU q oC rfl ee ?_;refine aE.mk _ (oh _) ?_;refine j2.mk (by decide) ?_;refine aQ.mk ((bE.t.size/20:Nat):Int) (ku (by rw[abA (by omega)];omega) (by omega)) ?_;refine aQ.mk ((p+min 200 bE.aZ+min 200 (bE.t.size/20):Nat):Int) (ku (by omega) (by omega)) ?_;refine aQ.mk _ (bl (i:=q) (by omega)) ?_;refine⟨(_,q+1),⟨⟨by simp only;omega,by simp only;omega,λfw=>?_⟩,by simp only;omega⟩,.refl,cU,.cons rfl (.nil)⟩;simp only at fw |-;refine⟨r0,by omega,by omega,λi hi hA=>?_⟩;by_cases e:i=q;·subst e;rw[anS];exact⟨by omega,by omega⟩
  ·exact Ge i hi (by omega)
 ·have q2:200<=p:=by have:=cR b5;omega
  exact⟨_,_,.refl,fin (λh=>by omega),rfl,rfl⟩
 ·have ee:u.n<=q:=by simpa using bm
  exact⟨_,_,.refl,fin (λh=>ee),rfl,rfl⟩
structure anT(g:bP)(x:Nat×Nat):Prop where
 k:x.2<=g.n
 p:x.1<=1200
 small:x.1<200->x.2<=x.1/\∀ i (h:i<g.ds.length),i<x.2->Lf g.ds[i]
set_option maxRecDepth 100000 in
def anU(ao:vJ I g) :
  Spec Tryz.prog 4 [g.val,.slice none 0 0] I [] λv I' M'=>(∃ r,v=.bool r/\(r=false->BY g))/\I'=I/\M'=[]:=by
 refine bn [] aI Tryz.func4 rfl rfl rfl ?_;intro B av;have cK:=ao.n;have gk:=ao.aJ.cap;refine bu.inv (ι:=Nat×Nat) (λx=>{ a4:=[(1,.val (.slice none 0 0)),(2,.ref 2 0),(5,.val (.int .i64 x.1)),(6,.val (.int .i64 x.2))],cl:=[(2,[.slice g.a g.n g.c])],br:=I }) (λx=>anT g x) (λx=>g.n-x.2) ?_ ?_
 ·exact⟨(0,0),⟨bQ _,bQ _,λh=>⟨b2 _,λi _ h=>by simp at h⟩⟩,.refl,cI,.cons rfl (.nil)⟩
 rintro⟨p,k⟩⟨af,aN,uY⟩;simp only at af aN uY;have fin:(p<200->g.n<=k)->∀ c:Bool,c=decide ((200:Int)<=(p:Int))->(c=false->BY g):=λh c aC au=>by
  rw[au]at aC;have q2:p<200:=by have:=cR aC.symm;omega
  obtain⟨r0,o6⟩:=uY q2;have:=h q2;exact⟨by omega,λd al=>by
   obtain⟨y,aA,rfl⟩:=rY al;exact o6 y aA (by omega)⟩
 refine a9.mk (λbm=>aB.mk (λb5=>?_) (λb5=>?_)) (λbm=>?_)
 ·have bj:k<g.n:=by simpa using bm
  have q2:p<200:=by have:=cq b5;omega
  obtain⟨r0,o6⟩:=uY q2;have gy:k<g.ds.length:=by omega
  obtain⟨ad,ba,a3⟩:=ao.aJ.row aK.bI bj gy;have al:=ao.ds _ (bJ gy);have jh:=al.name;have gi:=al.t;have ha:∀ M,bq I M ((ad.add (k*3)).add 0) 1 [.string g.ds[k].name]:=λM=>(a3 M).part (k:=0) (m:=1) (by decide);have gf:∀ M,bq I M ((ad.add (k*3)).add 1) 2 g.ds[k].t.cells:=λM=>(a3 M).part (k:=1) (m:=2) (by decide);have e0:g.ds[k]=⟨g.ds[k].name,g.ds[k].t⟩:=rfl;generalize g.ds[k].name=nm at jh ha e0;generalize g.ds[k].t=u at gi gf e0;refine cr.draw aI rfl rfl rfl ?_;refine aQ.mk ((p+1:Nat):Int) (ku (by omega) (by omega)) ?_;refine aW.mk ad k ba rfl bj ?_;refine aE.mk _ (ha _) ?_;refine j2.mk (by decide) ?_;refine aQ.mk ((nm.size/20:Nat):Int) (ku (by rw[abA (by omega)];omega) (by omega)) ?_;refine aQ.mk ((p+1+min 200 (nm.size/20):Nat):Int) (ku (by omega) (by omega)) ?_;refine aW.mk ad k ba rfl bj ?_;refine aE.mk _ (gf _) ?_;refine e7.whole _ (anR gi) (λv I' M' h x ae=>by rw[h.2.2];exact ae) ?_;rintro v HI N -⟨⟨w,rfl,hw,g5⟩,abg,cH⟩;subst HI;subst N;refine aQ.mk ((p+1+min 200 (nm.size/20)+w:Nat):Int) (ku (by omega) (by omega)) ?_;refine aQ.mk _ (bl (i:=k) (by omega)) ?_;refine⟨(_,k+1),⟨⟨by simp only;omega,by simp only;omega,λfw=>?_⟩,by simp only;omega⟩,.refl,cI,.cons rfl (.nil)⟩;simp only at fw |-;refine⟨by omega,λi hi hA=>?_⟩;by_cases e:i=k;·subst e;rw[e0];exact⟨by simp only;omega,g5 (by omega)⟩
  ·exact o6 i hi (by omega)
 ·have q2:200<=p:=by have:=cR b5;omega
  refine bu.sF 1 ?_;refine a9.mk (λh=>absurd h (by simp)) (λ_=>?_);exact⟨_,_,.refl,⟨_,rfl,fin (λh=>by omega) _ rfl⟩,rfl,rfl⟩
 ·have bj:g.n<=k:=by simpa using bm
  refine bu.sF 1 ?_;refine a9.mk (λh=>absurd h (by simp)) (λ_=>?_);exact⟨_,_,.refl,⟨_,rfl,fin (λh=>bj) _ rfl⟩,rfl,rfl⟩
def B6(J:aT)(os:aY)(e:Nat):aT:=match os.a with
 |some g=>ins J g (.cells os.cur.toArray e (0,0))| none=>J
def RK{cp:List Nat}{e:Nat}{post:List aD}(au:∀ g,os.a=some g->g ∉ cp):hk cp J (os.aw e++post) (B6 J os e) post:=by
 obtain⟨a,n,c,cur⟩:=os;cases a with
 |none=>exact .refl| some g=>exact .pt rfl (au g rfl) .refl
def RL{e:Nat}(h:∀ x∈os.aw e++M,J x.num=none):∀ b o,J b=some o->B6 J os e b=some o:=by
 obtain⟨a,n,c,cur⟩:=os;cases a with
 |none=>exact λ_ _ h=>h
 |some g=>exact nx (h ⟨g,_⟩ (.head _))
def RM{e:Nat}{xs:List Value}(h:os.ok size xs)(ah:os.n*b<=140737488355328):gb (B6 J os e) (os.a.map λg=>⟨g,0,none⟩) os.n os.c size b xs:=by
 obtain⟨a,n,c,cur⟩:=os;cases a with
 |none=>obtain⟨U,ab⟩:=h.nil rfl;exact⟨h.len,⟨by simp only at U ab |-;omega,ah⟩,.inl U⟩
 |some g=>obtain⟨U,ab,ak,aL⟩:=h.cap g rfl;exact⟨h.len,⟨ab,ah⟩,.inr ⟨⟨g,0,none⟩,rfl,rfl,cur.toArray,e,(0,0),tP ..,by simpa using aL⟩⟩
structure anV(RN:aT)(t:bx)(os0:aY)(x:Nat×aY×List aH×aT):Prop where
 i:x.1<=t.n
 ok:x.2.1.ok 9 (x.2.2.1.flatMap aH.cells)
 a1:x.2.2.1.map aH.a1=t.aa.map aH.a1
 aa:∀ d∈x.2.2.1,d.ok x.2.2.2
 le:∀ b o,RN b=some o->x.2.2.2 b=some o
 a:x.2.1.a=os0.a
 v:x.2.1.val=os0.val
structure anW(I:aT)(g:bP)(x:Nat×aY×List aK×aT):Prop where
 i:x.1<=g.n
 ok:x.2.1.ok 3 (x.2.2.1.flatMap aK.cells)
 a1:x.2.2.1.map aK.a1=(g.ds.take x.1).map aK.a1
 ds:∀ d∈x.2.2.1,d.ok x.2.2.2
 le:∀ b o,I b=some o->x.2.2.2 b=some o
set_option maxRecDepth 100000 in
def anX(ao:g.ok I)(pw:BY g):Spec Tryz.prog 7 [g.val] I [] λv I' M'=>(∀ b o,I b=some o->I' b=some o)/\∃ (os:aY) (L:List aK),v=.agg #[os.val]/\os.n=g.n/\os.ok 3 (L.flatMap aK.cells)/\M'=os.aw 48/\L.map aK.a1=g.ds.map aK.a1/\∀ d∈L,d.ok I':=by
 refine bn [] aI Tryz.func7 rfl rfl rfl ?_;intro B av;have cK:=ao.n;have AT:=pw.n;refine bu.yo (ι:=Nat×aY×List aK×aT) (λx=>{ a4:=[(1,.ref 1 0),(2,.ref 2 0),(3,.ref 3 0),(4,.val (.int .i64 x.1))],cl:=[(1,[.slice g.a g.n g.c]),(2,[.slice none 0 0]),(3,[x.2.1.val])],br:=x.2.2.2,bO:=x.2.1.aw 48++[] }) (λx=>anW I g x) (λx=>g.n-x.1) ?_ ?_
 ·intro _;exact⟨(0,fs,[],I),⟨bQ _,fT 3,rfl,(λd al=>by cases al),λ_ _ h=>h⟩,.refl,cI,.cons rfl (.cons rfl (.cons rfl (.nil)))⟩
 rintro⟨i,wS,L,J⟩⟨hi,Ly,dJ,e0,hle⟩;simp only at hi Ly dJ e0 hle;have ZR:L.length=wS.n:=by have:=Ly.len;rw[gd _ 3 aK.bI]at this;omega
 refine aB.mk (λh=>?_) (λh=>?_)
 rotate_left
 ·have bS:i=g.n:=by have:¬ (i:Int)<(g.n:Int):=cR h;omega
  subst bS;rw[dX (by omega)]at dJ;have ay:L.length=g.ds.length:=by simpa using congrArg List.length dJ
  exact⟨_,_,.refl,hle,wS,L,rfl,by omega,Ly,by rw[db],dJ,e0⟩
 have ax:i<g.n:=by have:(i:Int)<(g.n:Int):=cq h;omega
 have cd:i<g.ds.length:=by omega
 have D1:L.length=i:=by have:=congrArg List.length dJ;rw[cT,cT,fH]at this;omega
 have k1:=ao.mono hle;obtain⟨ad,ba,a3⟩:=k1.aJ.row aK.bI ax cd;have j8:=er cd;have eY:=k1.ds _ (bJ cd);have abD:=pw.ds _ (bJ cd);have ha:∀ M,bq J M ((ad.add (i*3)).add 0) 1 [.string g.ds[i].name]:=λM=>(a3 M).part (k:=0) (m:=1) (by decide);have gf:∀ M,bq J M ((ad.add (i*3)).add 1) 2 g.ds[i].t.cells:=λM=>(a3 M).part (k:=1) (m:=2) (by decide);generalize g.ds[i]=B1 at j8 eY abD ha gf;obtain⟨nm,t⟩:=B1;have aq:=eY.t;have jh:=eY.name;have eo:=abD.t;have anY:=eo.n;simp only at ha gf aq jh anY;have g7:=aq.n;refine aW.mk ad i ba rfl ax ?_;refine aE.mk _ (gf _) ?_;refine bL.mk λb ah jJ=>?_;refine bk.v8 aI rfl (by simp) (e:=61) rfl rfl rfl ⟨some b,0,0,[]⟩ (xs:=[]) ⟨rfl,(λh=>by cases h),(λg h=>⟨rfl,b2 _,bQ _,rfl⟩)⟩ rfl (sa:=t.a) (m:=t.n) (c':=t.c) (news:=t.aa.flatMap aH.cells) rfl aq.aJ.len (aq.aJ.yc _) (Em aH.one _) [] (wS.aw 48++[]) rfl (by simp only;omega) (by show(0+t.n)*96<=_;omega) ?_;intro os0 kK xo pX;rw[hO]at pX;have kK:os0.n=t.n:=by rw[kK];exact cM _
 refine bu.yo (ι:=Nat×aY×List aH×aT) (λx=>{ a4:=[(1,.ref 1 0),(2,.ref 2 0),(3,.ref 3 0),(4,.val (.int .i64 i)),(5,.ref 5 0),(6,.val os0.val),(7,.val (.int .i64 x.1))],cl:=[(1,[.slice g.a g.n g.c]),(2,[.slice none 0 0]),(3,[wS.val]),(5,t.cells)],br:=x.2.2.2,bO:=x.2.1.aw 61++(wS.aw 48++[]) }) (λx=>anV J t os0 x) (λx=>t.n-x.1) ?_ ?_
 ·intro _;exact⟨(0,os0,t.aa,J),⟨bQ _,pX,rfl,aq.aa,λ_ _ h=>h,rfl,rfl⟩,.refl,np,.cons rfl (.cons rfl (.cons rfl (.cons rfl (.nil))))⟩
 rintro⟨k,os,N,K⟩⟨af,bf,yd,vi,Ev,jT,jV⟩;simp only at af bf yd vi Ev jT jV;have arX:N.length=t.aa.length:=by simpa using congrArg List.length yd
 obtain⟨hV,zZ⟩:=En jV;refine aB.mk (λab=>?_) (λab=>?_)
 ·have ho:k<t.n:=by have:(k:Int)<(os0.n:Int):=cq ab;omega
  have HM:k<N.length:=by omega
  obtain⟨bE,bW,ji⟩:=aY.ok.row (I:=K) (e:=61) aH.bI (by decide) bf (M:=os.aw 61++(wS.aw 48++[])) (λz a2=>gM _ a2) HM;have Lz:=vi _ (bJ HM);have RO:=bW;rw[jT]at RO;have lL:N[k].kids.length=N[k].aZ:=Lz.aZ;have gW:N[k].aZ<400:=by
   obtain⟨z,a2,e⟩:∃ z∈t.aa,z.a1=N[k].a1:=by
    have bm:N[k].a1∈t.aa.map aH.a1:=by rw[<-yd];exact dB.2 ⟨_,bJ HM,rfl⟩
    obtain⟨z,a2,e⟩:=dB.1 bm;exact⟨z,a2,e⟩
   have b5:=(eo.aa z a2).aZ;have fw:=(aq.aa z a2).aZ;have anZ:=congrArg aH.kids e;have fu:z.kids=N[k].kids:=anZ;rw[fu]at fw;omega
  refine bL.mk λcc hc anO=>?_;refine aW.mk bE k RO rfl (show k<os0.n by omega) ?_;refine aE.mk [.slice N[k].eA N[k].aZ N[k].ej] ?_ ?_;·have ak:=ji.part (k:=8) (m:=1) (by decide);obtain⟨c5,cs,T,an,c7,dS⟩:=ak;exact⟨c5,cs,T,an,c7.mono (λ_ _ h=>h) (λx ae=>.tail _ ae),dS⟩
  refine bk.v8 aI rfl (by simp) (e:=3) rfl rfl rfl ⟨some cc,0,0,[]⟩ (xs:=[]) ⟨rfl,(λh=>by cases h),(λg h=>⟨rfl,b2 _,bQ _,rfl⟩)⟩ rfl (sa:=N[k].eA) (m:=N[k].aZ) (c':=N[k].ej) (news:=N[k].kids.map (.int .i64 ·)) rfl (by simpa using Lz.aJ.len) (Lz.aJ.yc _) (Lq _) [] (os.aw 61++(wS.aw 48++[])) rfl (by simp only;omega) (by show(0+N[k].aZ)*8<=_;omega) ?_;intro rj abE arY abF;rw[hO]at abF;have abE:rj.n=N[k].aZ:=by rw[abE];exact cM _
  refine aW.mk bE k RO rfl (show k<os0.n by omega) ?_;have gK:({ N[k]with eA:=rj.a.map λg=>⟨g,0,none⟩,aZ:=rj.n,ej:=rj.c }:aH).a1=N[k].a1:=rfl;have fN:=abb HM gK;refine aY.Kx (e:=61) aH.cells 9 aH.bI bf HM 8 (vs:=[rj.val]) (b9 rfl) rfl { N[k]with eA:=rj.a.map λg=>⟨g,0,none⟩,aZ:=rj.n,ej:=rj.c } rfl (rj.aw 3) (wS.aw 48++[]) rfl bW ?_;intro gL mR tj h8 eX;refine aQ.mk _ (bl (i:=k) (by omega)) ?_;intro gO;have B7:=RL (J:=K) (os:=rj) (e:=3) gO.d;refine⟨(k+1,gL,N.set k { N[k]with eA:=rj.a.map λg=>⟨g,0,none⟩,aZ:=rj.n,ej:=rj.c },B6 K rj 3),⟨⟨ho,eX,fN.trans yd,λd al=>?_,λb o h=>B7 _ _ (Ev _ _ h),tj.trans jT,mR.trans jV⟩,by simp only;omega⟩,RK (λg _=>by simp),np,.cons rfl (.cons rfl (.cons rfl (.cons rfl (.nil))))⟩;rcases FT al with al | rfl;·exact(vi _ al).mono B7
  ·exact { (Lz.mono B7)with aJ:=RM (b:=8) abF (by omega) }
 have bS:k=t.n:=by have:¬ (k:Int)<(os0.n:Int):=cR ab;omega
 have wK:=k1.mono Ev;have an0:∀ M,bq K M ((ad.add (i*3)).add 0) 1 [.string nm]:=λM=>by obtain⟨c5,cs,T,an,c7,dS⟩:=ha [];exact⟨c5,cs,T,an,c7.mono Ev (λx ae=>by cases ae),dS⟩
 refine cr.draw aI rfl rfl rfl ?_;refine aW.mk ad i ba rfl ax ?_;refine aE.mk _ (an0 _) ?_;refine bL.mk λbT h3 an1=>?_;refine bk.nF aI rfl (by simp) (e:=48) rfl rfl rfl wS Ly rfl (cs:=[.string nm,os0.val,.int .i64 t.root]) rfl rfl rfl (os.aw 61) [] rfl (by omega) (by show(wS.n+1)*48<=_;omega) ?_;intro an2 arZ ar0 abG;refine aQ.mk _ (bl (i:=i) (by omega)) ?_;intro gO;have B7:=RL (J:=K) (os:=os) (e:=61) gO.d;refine⟨(i+1,an2,L++[⟨nm,⟨N,os.a.map λg=>⟨g,0,none⟩,os.n,os.c,t.root⟩⟩],B6 K os 61),⟨⟨ax,?_,?_,λd al=>?_,λb o h=>B7 _ _ (Ev _ _ (hle _ _ h))⟩,by simp only;omega⟩,RK (λg _=>by simp),cI,.cons rfl (.cons rfl (.cons rfl (.nil)))⟩
 ·simp only;rw[jF,mh,CV,db];rw[<-jV]at abG;exact abG
 ·simp only;rw[j8,eL,eL,dJ];congr 1;show [aK.a1 ⟨nm,_⟩]=[aK.a1 ⟨nm,t⟩];unfold aK.a1 bx.a1;simp only;rw[yd,hV,kK]
 ·rcases dm.1 al with al | al
  ·exact(e0 d al).mono λb o h=>B7 _ _ (Ev _ _ h)
  ·rw[fb.1 al];exact⟨jh,⟨RM (b:=96) bf (by omega),λz a2=>(vi z a2).mono B7,aq.root⟩⟩
def an3(ao:g.ok I)(pw:BY g):Spec Tryz.prog 7 [g.val] I M0 λv I' M'=>(∀ b o,I b=some o->I' b=some o)/\M'=M0/\∃ h:bP,v=h.val/\h.ok I'/\h.a1=g.a1:=by refine Spec.iM (Spec.frame (Spec.gE (anX ao pw))) ?_;rintro v J M⟨M',rfl,-,bg,rfl,-,I',M1,⟨U,os,L,rfl,hV,bf,rfl,dJ,e0⟩,bs⟩;have cK:=pw.n;refine⟨bg,rfl,⟨L,os.a.map λg=>⟨g,0,none⟩,os.n,os.c⟩,rfl,⟨aY.gE bs bf (λ_ h=>h) (by omega),λd al=>(e0 d al).mono bs.le⟩,?_⟩;unfold bP.a1;rw[dJ,hV]
def iN(n:Int):List Int->Nat
 |[]=>0| k::l=>if k=n then iN n l+1 else iN n l
def abH(n k:Int):∀ l:List Int,iN n (l++[k])=iN n l+if k=n then 1 else 0
 |[]=>by
  show(if k=n then 0+1 else 0)=0+_;split<;>rfl
 |y::l=>by rw[oO,iN,iN,abH n k l];split<;>split<;>omega
def abI(n:Int):∀ l:List Int,iN n l<=l.length
 |[]=>b2 _
 |y::l=>by
  have:=abI n l;rw[iN,cS];split<;>omega
def Ew(n:Int):∀ l:List Int,0<iN n l ↔ n∈l
 |[]=>by simp[iN]
 |y::l=>by
  have a8:=Ew n l;rw[iN,ea];by_cases h:y=n;·simp[h]
  ·rw[cB h,a8];exact⟨.inr,λaG=>aG.resolve_left λe=>h e.symm⟩
def RP:∀ l:List Int,(∀ n∈l,iN n l<=1) ↔ l.Nodup
 |[]=>by simp
 |y::l=>by
  have a8:=RP l;rw[nR];constructor
  ·intro h;have aA:y ∉ l:=λhm=>by have U:=h y (.head _);rw[iN,cw rfl]at U;have:=(Ew y l).2 hm;omega
   refine⟨aA,a8.1 λn az=>?_⟩;have U:=h n (.tail _ az);rw[iN]at U;split at U<;>omega
  ·rintro⟨U,ab⟩n az;have ak:=a8.2 ab;rw[iN];rcases ea.1 az with rfl | az
   ·rw[cw rfl];have:¬ 0<iN n l:=λh=>U ((Ew n l).1 h);omega
   ·rw[cB (λe=>by subst e;exact U az)];exact ak n az
def LA(ae:qQ I x)(mD:x.n<=1000000)(n:Int):Spec Tryz.prog 24 [.int .i64 n,x.val] I M0 λv I' M'=>v=.int .i64 (iN n x.l:Nat)/\I'=I/\M'=M0:=by
 refine bn [] aI Tryz.func24 rfl rfl rfl ?_;intro B av;have fU:x.l.length=x.n:=by simpa using ae.aJ.len
 refine bu.inv (ι:=Nat) (λk=>{ a4:=[(0,.val (.int .i64 n)),(1,.val x.val),(5,.val (.int .i64 (iN n (x.l.take k):Nat))),(6,.val (.int .i64 k))],br:=I,bO:=M0 }) (λk=>k<=x.n) (λk=>x.n-k) ?_ ?_
 ·exact⟨0,bQ _,.refl,cI,.nil⟩
 intro k af;refine aB.mk (λh=>?_) (λh=>?_)
 ·have ax:k<x.n:=by have:(k:Int)<(x.n:Int):=cq h;omega
  have bj:k<x.l.length:=by omega
  obtain⟨ad,ba,a3⟩:=ae.aJ.one ax bj;have ar:=abH n x.l[k] (x.l.take k);rw[<-er bj]at ar;have hle:=abI n (x.l.take k);rw[fH]at hle;generalize x.l[k]=z at a3 ar;refine aW.mk ad k ba rfl ax ?_;refine aE.mk _ (a3 _) ?_;refine aB.mk (λab=>?_) (λab=>?_);·have ab:z=n:=cq ab;rw[cw ab]at ar;refine aQ.mk ((iN n (x.l.take (k+1)):Nat):Int) (ku (by omega) (by omega)) ?_;refine aQ.mk _ (bl (i:=k) (by omega)) ?_;exact⟨k+1,⟨ax,by omega⟩,.refl,cI,.nil⟩
  ·have ab:¬ z=n:=cR ab;rw[cB ab,nT]at ar;refine aQ.mk _ (bl (i:=k) (by omega)) ?_;refine⟨k+1,⟨ax,by omega⟩,.refl,.cons .refl (.cons .refl (.cons ?_ (.cons .refl .nil))),.nil⟩;simp only;rw[ar];exact .refl
 ·have bS:k=x.n:=by have:¬ (k:Int)<(x.n:Int):=cR h;omega
  subst bS;refine⟨_,_,.refl,?_,rfl,rfl⟩;rw[dX (by omega)]
def an4{s:List Bool}{l:List α}{i:Nat}(ar:i<s.length)(ay:i<l.length):gq (s.take (i+1)) (l.take (i+1))=gq (s.take i) (l.take i)++if s.getD i false then [l[i]]else []:=by
 rw[er ar,er ay,abj _ _ _ _ (by rw[fH,fH];omega)];have e:s.getD i false=s[i]:=by rw[bV,ev ar];rfl
 rw[e];cases s[i]<;>rfl
def abJ:∀ l:List Int,(l.flatMap λk:Int=>[Value.int .i64 k])=l.map (.int .i64 ·)
 |[]=>rfl| k::l=>by rw[mh,abJ l,cZ];rfl
structure an5(g:bP)(x:il)(k:Nat):Prop where
 le:k<=x.n
 all:∀ y∈x.l.take k,jd g.n y=true/\iN y x.l<=1
structure an6(deb:List Int)(g:bP)(x:il)(y:Nat×aY):Prop where
 i:y.1<=g.n
 ok:y.2.ok 3 ((gq ((ey x.l).take y.1) (g.ds.take y.1)).flatMap aK.cells)
 all:∀ j:Nat,j<y.1->(j:Int)∈x.l->∀ c∈g9 deb g j,c∈x.l
set_option maxRecDepth 100000 in
def an7(ao:g.ok I)(au:ls g)(ae:qQ I x)(mD:x.n<=1000000):Spec Tryz.prog 26 [g.val,x.val] I [] λv I' M'=>I'=I/\∃ os:aY,v=.tuple #[.agg #[os.val],.bool (g0 cG g x.l)]/\os.ok 3 ((nk cG g x.l).flatMap aK.cells)/\M'=os.aw 48:=by
 refine bn [] aI Tryz.func26 rfl rfl rfl ?_;intro B av;have cK:=ao.n;have fU:x.l.length=x.n:=by simpa using ae.aJ.len
 refine aU.mk [] [] _ (.refl _) (K' HH ao au) ?_;rintro v bR N -⟨rfl,bK,cH⟩;subst bR;subst N;have cm:g0 cG g x.l=false->∃ os:aY,Value.tuple #[.agg #[.slice none 0 0],.bool false]=.tuple #[.agg #[os.val],.bool (g0 cG g x.l)]/\os.ok 3 ((nk cG g x.l).flatMap aK.cells)/\[]=os.aw 48:=λh=>
  ⟨fs,by rw[h];rfl,by rw[nk,h];exact fT 3,rfl⟩
 by_cases hm:cn cG g=0
 rotate_left
 ·refine a9.mk (λaG=>absurd aG (by simp[hm])) (λ_=>?_);exact⟨_,_,.refl,rfl,cm (by rw[g0,dk hm];rfl)⟩
 refine a9.mk (λ_=>?_) (λaG=>absurd aG (by simp[hm]));by_cases fv:x.n=0
 ·refine aB.mk (λ_=>?_) (λaG=>absurd aG (by simp[fv]));have:x.l=[]:=hZ (by omega);exact⟨_,_,.refl,rfl,cm (by rw[g0,this];simp)⟩
 refine aB.mk (λaG=>absurd aG (by simp[fv])) (λ_=>?_);have h9:=BZ hm;refine bu.inv (ι:=Nat) (λk=>{ a4:=[(1,.val x.val),(2,.ref 2 0),(4,.ref 4 0),(6,.val (.int .i64 k))],cl:=[(2,[.slice g.a g.n g.c]),(4,[.slice none 0 0])],br:=I,bO:=[] }) (λk=>an5 g x k) (λk=>x.n-k) ?_ ?_
 ·exact⟨0,⟨bQ _,λy aA=>by cases aA⟩,.refl,cI,.cons rfl (.cons rfl (.nil))⟩
 rintro k⟨af,eg⟩;refine aB.mk (λaG=>?_) (λaG=>?_)
 ·have ax:k<x.n:=by have:(k:Int)<(x.n:Int):=cq aG;omega
  have bj:k<x.l.length:=by omega
  obtain⟨ad,ba,a3⟩:=ae.aJ.one ax bj;have j8:=er bj;have e2:=bJ bj;generalize x.l[k]=z at a3 j8 e2;have nC:¬ (jd g.n z=true/\iN z x.l<=1)->g0 cG g x.l=false:=λh=>by
   cases aC:g0 cG g x.l with
   |false=>rfl| true=>simp only[g0,b',fk]at aC;exact absurd ⟨et.1 aC.2.2.1 z e2,(RP x.l).2 aC.2.2.2.1 z e2⟩ h
  by_cases Er:z<0;·refine cr.draw aI rfl rfl rfl ?_;refine aW.mk ad k ba rfl ax ?_;refine aE.mk _ (a3 _) ?_;refine a9.mk (λaG=>absurd aG (by simp[Er])) (λ_=>?_);exact⟨_,_,.refl,rfl,cm (nC λh=>by have:=h.1;unfold jd at this;simp at this;omega)⟩
  by_cases qt:(g.n:Int)<=z;·refine cr.draw aI rfl rfl rfl ?_;refine aW.mk ad k ba rfl ax ?_;refine aE.mk _ (a3 _) ?_;refine a9.mk (λ_=>?_) (λaG=>absurd aG (by simp[Er]));refine aW.mk ad k ba rfl ax ?_;refine aE.mk _ (a3 _) ?_;refine a9.mk (λaG=>absurd aG (by simp[qt])) (λ_=>?_);exact⟨_,_,.refl,rfl,cm (nC λh=>by have:=h.1;unfold jd at this;simp at this;omega)⟩
  have c1:jd g.n z=true:=by unfold jd;simp;omega
  refine cr.draw aI rfl rfl rfl ?_;refine aW.mk ad k ba rfl ax ?_;refine aE.mk _ (a3 _) ?_;refine a9.mk (λ_=>?_) (λaG=>absurd aG (by simp[Er]));refine aW.mk ad k ba rfl ax ?_;refine aE.mk _ (a3 _) ?_;refine a9.mk (λ_=>?_) (λaG=>absurd aG (by simp[qt]));refine aW.mk ad k ba rfl ax ?_;refine aE.mk _ (a3 _) ?_;refine aU.whole _ (LA ae mD z) ?_;rintro v bR N -⟨rfl,bK,cH⟩;subst bR;subst N;refine aB.mk (λaG=>?_) (λaG=>?_);·have aG:(1:Int)<(iN z x.l:Nat):=cq aG;exact⟨_,_,.refl,rfl,cm (nC λh=>by have:=h.2;omega)⟩
  ·have aG:¬ (1:Int)<(iN z x.l:Nat):=cR aG;refine aQ.mk _ (bl (i:=k) (by omega)) ?_;refine⟨k+1,⟨⟨ax,?_⟩,by omega⟩,.refl,cI,.cons rfl (.cons rfl (.nil))⟩;rw[j8];intro y aA;rcases dm.1 aA with aA | aA
   ·exact eg y aA
   ·rw[fb.1 aA];exact⟨c1,by omega⟩
 have bS:k=x.n:=by have:¬ (k:Int)<(x.n:Int):=cR aG;omega
 subst bS;rw[dX (by omega)]at eg;have c1:x.l.all (jd g.n)=true:=et.2 λy aA=>(eg y aA).1;have bW:x.l.Nodup:=(RP x.l).1 λy aA=>(eg y aA).2;have Hj:x.l≠[]:=λe=>fv (by rw[<-fU,e];rfl);have oN:g0 cG g x.l=x.l.all λi=>(g9 cG g i).all λj=>decide (j∈x.l):=by rw[g0,eD hm,eD Hj,c1,eD bW];simp only[kj]
 refine bu.inv (ι:=Nat×aY) (λy=>{ a4:=[(1,.val x.val),(2,.ref 2 0),(4,.ref 4 0),(7,.ref 7 0),(8,.val (.int .i64 y.1))],cl:=[(2,[.slice g.a g.n g.c]),(4,[.slice none 0 0]),(7,[y.2.val])],br:=I,bO:=y.2.aw 48++[] }) (λy=>an6 cG g x y) (λy=>g.n-y.1) ?_ ?_
 ·exact⟨(0,fs),⟨bQ _,fT 3,λj aj=>absurd aj (qb _)⟩,.refl,ec,.cons rfl (.cons rfl (.cons rfl (.nil)))⟩
 rintro⟨i,os⟩⟨hi,bf,cv⟩;simp only at hi bf cv;have hlen:=bf.len;rw[gd _ 3 aK.bI]at hlen;have bj:=(wQ ((ey x.l).take i) (g.ds.take i)).length_le;rw[fH]at bj;refine aB.mk (λaG=>?_) (λaG=>?_)
 rotate_left
 ·have bS:i=g.n:=by have:¬ (i:Int)<(g.n:Int):=cR aG;omega
  subst bS;rw[dX (l:=g.ds) (by omega)]at bf;have ny:g0 cG g x.l=true:=by rw[oN,et];intro j aj;rw[et];intro c aC;have U:=et.1 c1 j aj;unfold jd at U;simp only[b',fk]at U;obtain⟨u,rfl⟩:=en U.1;exact eD (cv u (by omega) aj c aC)
  exact⟨_,_,.refl,rfl,os,by rw[ny];rfl,by rw[nk,ny,cw rfl];exact bf,by rw[db]⟩
 have ax:i<g.n:=by have:(i:Int)<(g.n:Int):=cq aG;omega
 have cd:i<g.ds.length:=by omega
 have xw:=ye (l:=x.l) (i:=i) (by omega);have dc:=an4 (s:=ey x.l) (l:=g.ds) (i:=i) (by rw[hb];omega) cd;obtain⟨ad,ba,a3⟩:=ao.aJ.row aK.bI ax cd;rw[xw]at dc;generalize g.ds[i]=B1 at dc a3;have g2:=Ew i x.l;refine aU.whole _ (LA ae mD i) ?_;rintro v bR N -⟨rfl,bK,cH⟩;subst bR;subst N;refine aB.mk (λaG=>?_) (λaG=>?_)
 ·have aG:((iN i x.l:Nat):Int)=0:=cq aG;have LB:¬ (i:Int)∈x.l:=λh=>by have:=g2.2 h;omega
  rw[dk LB,cB (by simp),db]at dc;refine aQ.mk _ (bl (i:=i) (by omega)) ?_;refine⟨(i+1,os),⟨⟨ax,by simp only;rw[dc];exact bf,λj aj Ea=>?_⟩,by simp only;omega⟩,.refl,ec,.cons rfl (.cons rfl (.cons rfl (.nil)))⟩;simp only at aj;by_cases e:j=i;·subst e;exact absurd Ea LB
  ·exact cv j (by omega) Ea
 have aG:¬ ((iN i x.l:Nat):Int)=0:=cR aG;have B8:(i:Int)∈x.l:=g2.1 (by omega);rw[eD B8,cw rfl]at dc;refine aU.mk [] (os.aw 48++[]) _ (.refl _) (am1 HH ao au i) ?_;rintro v bR N -⟨bK,qS,rfl,zZ,cH⟩;subst bR;subst N;rw[aba cG cK i]at zZ;have an8:(g9 cG g i).length=qS.n:=by have:=zZ.len;rw[cT]at this;omega
 have wq:qS.n<=140737488355328:=by
  have U:=an8;rw[<-aba cG cK i]at U;have ab:=Ru (sf g (i:Int).toNat) g.n;unfold B4 at U;cases aq:nh cG g i<;>rw[aq]at U<;>simp at U ab<;>omega
 refine bu.inv (ι:=Nat) (λk=>{ a4:=[(1,.val x.val),(2,.ref 2 0),(4,.ref 4 0),(7,.ref 7 0),(8,.val (.int .i64 i)),(9,.val qS.val),(10,.val (.int .i64 k))],cl:=[(2,[.slice g.a g.n g.c]),(4,[.slice none 0 0]),(7,[os.val])],br:=I,bO:=qS.aw 3++(os.aw 48++[]) }) (λk=>k<=qS.n/\∀ c∈(g9 cG g i).take k,c∈x.l) (λk=>qS.n-k) ?_ ?_
 ·exact⟨0,⟨bQ _,λc aC=>by cases aC⟩,.refl,np,.cons rfl (.cons rfl (.cons rfl (.nil)))⟩
 rintro k⟨af,D4⟩;refine aB.mk (λab=>?_) (λab=>?_)
 ·have Es:k<qS.n:=by have:(k:Int)<(qS.n:Int):=cq ab;omega
  have bj:k<(g9 cG g i).length:=by omega
  obtain⟨hU,oC,jW⟩:=aY.ok.row (f:=λk:Int=>[.int .i64 k]) (size:=1) (λ_=>rfl) (by decide) (l:=g9 cG g i) (by rw[abJ];exact zZ) (e:=3) (I:=I) (M:=qS.aw 3++(os.aw 48++[])) (λz a2=>gM _ a2) bj;have xf:=er bj;have abK:=bJ bj;generalize(g9 cG g i)[k]=w at jW xf abK;have Bv:=Ew w x.l;refine aW.mk hU k oC rfl Es ?_;refine aE.mk _ jW ?_;refine aU.whole _ (LA ae mD w) ?_;rintro v bR N -⟨rfl,bK,cH⟩;subst bR;subst N;refine aB.mk (λak=>?_) (λak=>?_)
  ·have ak:((iN w x.l:Nat):Int)=0:=cq ak;refine⟨_,_,.sub (cW _) .refl,rfl,cm ?_⟩;rw[oN];cases aC:(x.l.all λi=>(g9 cG g i).all λj=>decide (j∈x.l))with
   |false=>rfl| true=>have aL:=et.1 (et.1 aC _ B8) _ abK;have aL:=cq aL;have:=Bv.2 aL;omega
  ·have ak:¬ ((iN w x.l:Nat):Int)=0:=cR ak;refine aQ.mk _ (bl (i:=k) (by omega)) ?_;refine⟨k+1,⟨⟨Es,?_⟩,by omega⟩,.refl,np,.cons rfl (.cons rfl (.cons rfl (.nil)))⟩;rw[xf];intro c aC;rcases dm.1 aC with aC | aC
   ·exact D4 c aC
   ·rw[fb.1 aC];exact Bv.1 (by omega)
 have UD:k=qS.n:=by have:¬ (k:Int)<(qS.n:Int):=cR ab;omega
 subst UD;rw[dX (by omega)]at D4;refine cr.draw aI rfl rfl rfl ?_;refine aW.mk ad i ba rfl ax ?_;refine aE.mk _ (a3 _) ?_;refine bL.mk λbT h3 an1=>?_;refine bk.nF aI rfl (by simp) (e:=48) rfl rfl rfl os bf rfl (cs:=B1.cells) rfl rfl rfl (qS.aw 3) [] rfl (by omega) (by show(os.n+1)*48<=_;omega) ?_;intro gL h8 ed eX;refine aQ.mk _ (bl (i:=i) (by omega)) ?_;refine⟨(i+1,gL),⟨⟨ax,?_,λj aj Ea=>?_⟩,by simp only;omega⟩,.sub (e' _ _) .refl,ec,.cons rfl (.cons rfl (.cons rfl (.nil)))⟩
 ·simp only;rw[dc,jF,mh,CV,db];exact eX
 ·simp only at aj;by_cases e:j=i
  ·subst e;exact D4
  ·exact cv j (by omega) Ea
def si.mono(h:si M g)(aV:∀ x∈M,x∈M'):si M' g:=⟨h.aJ.mono aV,λd al=>(h.ds d al).mono aV⟩
def an9{x y:aH}(h:x.a1=y.a1):x.k=y.k/\x.cF=y.cF/\x.s1=y.s1/\x.s2=y.s2/\x.dt=y.dt/\x.t=y.t/\x.lo=y.lo/\x.hi=y.hi/\x.kids=y.kids:=by
 unfold aH.a1 at h;injection h with aF a7 bC di hE kx uM wx _ _ _ Ro
 exact⟨aF,a7,bC,di,hE,kx,uM,wx,Ro⟩
set_option maxRecDepth 100000 in
def aoa{a b:bx}(aX:a.ok I)(ah:b.ok I)(h:a.a1=b.a1):Spec Tryz.prog 29 [a.val,b.val] I M0 λv I' M'=>v=.bool true/\I'=I/\M'=M0:=by
 refine bn [] aI Tryz.func29 rfl rfl rfl ?_;intro B av;have rT:=aX.n;have sG:=ah.n;have gk:=aX.aJ.cap;have vi:a.aa.map aH.a1=b.aa.map aH.a1:=congrArg bx.aa h;have kK:=congrArg bx.n h;have g3:=congrArg bx.root h;have az:a.n=b.n:=kK;have ag:a.root=b.root:=g3;refine a9.mk (λ_=>?_) (λh=>absurd h (by simp[az]));refine aB.mk (λh=>absurd h (by simp[ag])) (λ_=>?_);refine bu.inv (ι:=Nat) (λi=>{ a4:=[(2,.ref 2 0),(3,.ref 3 0),(5,.val (.int .i64 i))],cl:=[(2,a.cells),(3,b.cells)],br:=I,bO:=M0 }) (λi=>i<=a.n) (λi=>a.n-i) ?_ ?_
 ·exact⟨0,bQ _,.refl,cU,.cons rfl (.cons rfl (.nil))⟩
 intro i hi;refine aB.mk (λab=>?_) (λab=>?_)
 rotate_left
 ·exact⟨_,_,.refl,rfl,rfl,rfl⟩
 have ax:i<a.n:=by have:(i:Int)<(a.n:Int):=cq ab;omega
 have uV:i<a.aa.length:=by omega
 have pk:i<b.aa.length:=by omega
 obtain⟨ad,ba,a3⟩:=aX.aJ.row aH.bI ax uV;obtain⟨hU,oC,jW⟩:=ah.aJ.row aH.bI (show i<b.n by omega) pk;have ae:=aX.aa _ (bJ uV);have aA:=ah.aa _ (bJ pk);have dJ:a.aa[i].a1=b.aa[i].a1:=by have:=congrArg (λl=>l[i]?) vi;simp only[sr]at this;rw[ev uV,ev pk]at this;exact kn this
 generalize a.aa[i]=x at a3 ae dJ;generalize b.aa[i]=y at jW aA dJ;obtain⟨c6,dg,gB,my,oi,sW,sX,ue,zM⟩:=an9 dJ;have RQ:=ae.aJ;have abL:=aA.aJ;have abM:=ae.aZ;have JV:=aA.aZ;have aob:=RQ.cap;obtain⟨k,cF,s1,s2,dt,t,lo,ck,eA,aZ,ej,kids⟩:=x;obtain⟨eQ,HN,HO,HP,HQ,bh,Bw,ar1,tk,LC,tl,LD⟩:=y;simp only at c6 dg gB my oi sW sX ue zM RQ abL abM JV aob;subst c6 dg gB my oi sW sX ue zM;have eR:aZ=LC:=by rw[<-abM,<-JV]
 subst eR;clear ae aA dJ;refine cr.adK aI rfl rfl rfl (ι:=Nat×Nat) (λp=>{ a4:=[(2,.ref 2 0),(3,.ref 3 0),(5,.val (.int .i64 i)),(6,.val (ptr p.1)),(7,.val (ptr p.2))],cl:=[(2,a.cells),(3,b.cells)],br:=I,bO:=⟨p.1,.cells (⟨k,cF,s1,s2,dt,t,lo,ck,eA,aZ,ej,kids⟩:aH).cells.toArray 61 (0,0)⟩::⟨p.2,.cells (⟨k,cF,s1,s2,dt,t,lo,ck,tk,aZ,tl,kids⟩:aH).cells.toArray 61 (0,0)⟩::M0 }) (λ_=>True) ?_ ?_
 ·refine aW.mk ad i ba rfl ax ?_;refine aE.mk _ (a3 _) ?_;refine aW.mk hU i oC rfl (show i<b.n by omega) ?_;refine aE.mk _ (jW _) ?_;refine⟨?_,?_⟩
  ·refine bL.mk λb6 FE aoc=>?_;refine bL.mk λb7 Gr aod=>?_;refine cu.kU [⟨b7,_⟩] _ _ _ rfl rfl rfl rfl (⟨k,cF,s1,s2,dt,t,lo,ck,eA,aZ,ej,kids⟩:aH).cells rfl ?_;refine cu.kU [] _ _ _ rfl rfl rfl rfl (⟨k,cF,s1,s2,dt,t,lo,ck,tk,aZ,tl,kids⟩:aH).cells rfl ?_;exact⟨(b6,b7),trivial,.perm (.swap _ _ _) .refl,ec,.cons rfl (.cons rfl (.nil))⟩
  ·refine bL.mk λb7 Gr aod=>?_;refine bL.mk λb6 FE aoc=>?_;refine cu.kU [] _ _ _ rfl rfl rfl rfl (⟨k,cF,s1,s2,dt,t,lo,ck,eA,aZ,ej,kids⟩:aH).cells rfl ?_;refine cu.kU [⟨b6,_⟩] _ _ _ rfl rfl rfl rfl (⟨k,cF,s1,s2,dt,t,lo,ck,tk,aZ,tl,kids⟩:aH).cells rfl ?_;exact⟨(b6,b7),trivial,.refl,ec,.cons rfl (.cons rfl (.nil))⟩
 rintro⟨b6,b7⟩-;have z1:∀ u n:Nat,u+n<=9->bq I (⟨b6,.cells (⟨k,cF,s1,s2,dt,t,lo,ck,eA,aZ,ej,kids⟩:aH).cells.toArray 61 (0,0)⟩::⟨b7,.cells (⟨k,cF,s1,s2,dt,t,lo,ck,tk,aZ,tl,kids⟩:aH).cells.toArray 61 (0,0)⟩::M0) ((⟨b6,0,none⟩:Addr).add u) n (((⟨k,cF,s1,s2,dt,t,lo,ck,eA,aZ,ej,kids⟩:aH).cells.drop u).take n):=λq n h=>by rw[dF (⟨b6,0,none⟩:Addr) rfl,cM];exact⟨rfl,_,_,_,.inr ⟨_,.head _,rfl,rfl⟩,rfl,by rw[fH,n3,aH.bI];omega⟩
 have B9:∀ u n:Nat,u+n<=9->bq I (⟨b6,.cells (⟨k,cF,s1,s2,dt,t,lo,ck,eA,aZ,ej,kids⟩:aH).cells.toArray 61 (0,0)⟩::⟨b7,.cells (⟨k,cF,s1,s2,dt,t,lo,ck,tk,aZ,tl,kids⟩:aH).cells.toArray 61 (0,0)⟩::M0) ((⟨b7,0,none⟩:Addr).add u) n (((⟨k,cF,s1,s2,dt,t,lo,ck,tk,aZ,tl,kids⟩:aH).cells.drop u).take n):=λq n h=>by rw[dF (⟨b7,0,none⟩:Addr) rfl,cM];exact⟨rfl,_,_,_,.inr ⟨_,.tail _ (.head _),rfl,rfl⟩,rfl,by rw[fH,n3,aH.bI];omega⟩
 refine aE.mk [.int .u8 k] (z1 0 1 (by decide)) ?_;refine aE.mk [.int .u8 k] (B9 0 1 (by decide)) ?_;refine a9.mk (λ_=>?_) (λh=>absurd h (by simp));refine aE.mk [.int .u64 cF,.int .u64 s1,.int .u64 s2,.int .u64 dt] (z1 1 4 (by decide)) ?_;refine aE.mk [.int .u64 cF,.int .u64 s1,.int .u64 s2,.int .u64 dt] (B9 1 4 (by decide)) ?_;refine cx.NX aI (e:=57) rfl rfl rfl rfl (by kernel_rfl) ?_;refine a9.mk (λ_=>?_) (λh=>absurd h (by simp));refine aE.mk [.string t] (z1 5 1 (by decide)) ?_;refine aE.mk [.string t] (B9 5 1 (by decide)) ?_;refine a9.mk (λ_=>?_) (λh=>absurd h (by simp));refine aE.mk [.int .i64 lo] (z1 6 1 (by decide)) ?_;refine aE.mk [.int .i64 lo] (B9 6 1 (by decide)) ?_;refine a9.mk (λ_=>?_) (λh=>absurd h (by simp));refine aE.mk [.int .i64 ck] (z1 7 1 (by decide)) ?_;refine aE.mk [.int .i64 ck] (B9 7 1 (by decide)) ?_;refine a9.mk (λ_=>?_) (λh=>absurd h (by simp));refine aE.mk [.slice eA aZ ej] (z1 8 1 (by decide)) ?_;refine aE.mk [.slice tk aZ tl] (B9 8 1 (by decide)) ?_;refine aB.mk (λh=>absurd h (by simp)) (λ_=>?_);refine bu.inv (ι:=Nat) (λj=>{ a4:=[(2,.ref 2 0),(3,.ref 3 0),(5,.val (.int .i64 i)),(6,.val (ptr b6)),(7,.val (ptr b7)),(8,.val (.int .i64 j))],cl:=[(2,a.cells),(3,b.cells)],br:=I,bO:=⟨b6,.cells (⟨k,cF,s1,s2,dt,t,lo,ck,eA,aZ,ej,kids⟩:aH).cells.toArray 61 (0,0)⟩::⟨b7,.cells (⟨k,cF,s1,s2,dt,t,lo,ck,tk,aZ,tl,kids⟩:aH).cells.toArray 61 (0,0)⟩::M0 }) (λj=>j<=aZ) (λj=>aZ-j) ?_ ?_
 ·exact⟨0,bQ _,.refl,jD,.cons rfl (.cons rfl (.nil))⟩
 intro j aj;refine aE.mk [.slice eA aZ ej] (z1 8 1 (by decide)) ?_;refine aB.mk (λak=>?_) (λak=>?_)
 rotate_left
 ·refine aQ.mk _ (bl (i:=i) (by omega)) ?_;exact⟨i+1,⟨ax,by omega⟩,.sub (.cons _ (.cons _ (.refl _))) .refl,cU,.cons rfl (.cons rfl (.nil))⟩
 have uZ:j<aZ:=by have:(j:Int)<(aZ:Int):=cq ak;omega
 have B3:j<kids.length:=by omega
 obtain⟨HR,HS,qd⟩:=RQ.one uZ B3;obtain⟨aoe,aof,HT⟩:=abL.one uZ B3;generalize kids[j]=z at qd HT;refine cr.draw aI rfl rfl rfl ?_;refine aE.mk [.slice eA aZ ej] (z1 8 1 (by decide)) ?_;refine aW.mk HR j HS rfl uZ ?_;refine aE.mk _ (qd _) ?_;refine aE.mk [.slice tk aZ tl] (B9 8 1 (by decide)) ?_;refine aW.mk aoe j aof rfl uZ ?_;refine aE.mk _ (HT _) ?_;refine aB.mk (λh=>absurd h (by simp)) (λ_=>?_);refine aQ.mk _ (bl (i:=j) (by omega)) ?_;exact⟨j+1,⟨uZ,by omega⟩,.refl,jD,.cons rfl (.cons rfl (.nil))⟩
set_option maxRecDepth 100000 in
def abN(ao:g.ok I)(cj:h.ok I)(dJ:g.ds.map aK.a1=h.ds.map aK.a1):Spec Tryz.prog 13 [g.val,h.val] I M0 λv I' M'=>v=.bool true/\I'=I/\M'=M0:=by
 refine bn [] aI Tryz.func13 rfl rfl rfl ?_;intro B av;have cK:=ao.n;have u0:=cj.n;have gk:=ao.aJ.cap;have ay:g.ds.length=h.ds.length:=by simpa using congrArg List.length dJ
 have az:g.n=h.n:=by omega
 refine aB.mk (λh=>absurd h (by simp[az])) (λ_=>?_);refine bu.inv (ι:=Nat) (λi=>{ a4:=[(2,.ref 2 0),(3,.ref 3 0),(5,.val (.int .i64 i))],cl:=[(2,[.slice g.a g.n g.c]),(3,[.slice h.a h.n h.c])],br:=I,bO:=M0 }) (λi=>i<=g.n) (λi=>g.n-i) ?_ ?_
 ·exact⟨0,bQ _,.refl,cU,.cons rfl (.cons rfl (.nil))⟩
 intro i hi;refine aB.mk (λab=>?_) (λab=>?_)
 rotate_left
 ·exact⟨_,_,.refl,rfl,rfl,rfl⟩
 have ax:i<g.n:=by have:(i:Int)<(g.n:Int):=cq ab;omega
 have uV:i<g.ds.length:=by omega
 have pk:i<h.ds.length:=by omega
 obtain⟨ad,ba,a3⟩:=ao.aJ.row aK.bI ax uV;obtain⟨hU,oC,jW⟩:=cj.aJ.row aK.bI (show i<h.n by omega) pk;have ae:=(ao.ds _ (bJ uV)).t;have aA:=(cj.ds _ (bJ pk)).t;have he:g.ds[i].a1=h.ds[i].a1:=by have:=congrArg (λl=>l[i]?) dJ;simp only[sr]at this;rw[ev uV,ev pk]at this;exact kn this
 have aog:=congrArg aK.name he;have aoh:=congrArg aK.t he;have eZ:g.ds[i].name=h.ds[i].name:=aog;have bc:g.ds[i].t.a1=h.ds[i].t.a1:=aoh;have ha:∀ M,bq I M ((ad.add (i*3)).add 0) 1 [.string g.ds[i].name]:=λM=>(a3 M).part (k:=0) (m:=1) (by decide);have gf:∀ M,bq I M ((hU.add (i*3)).add 0) 1 [.string h.ds[i].name]:=λM=>(jW M).part (k:=0) (m:=1) (by decide);have h6:∀ M,bq I M ((ad.add (i*3)).add 1) 2 g.ds[i].t.cells:=λM=>(a3 M).part (k:=1) (m:=2) (by decide);have oh:∀ M,bq I M ((hU.add (i*3)).add 1) 2 h.ds[i].t.cells:=λM=>(jW M).part (k:=1) (m:=2) (by decide);rw[eZ]at ha;generalize h.ds[i].name=nm at ha gf;generalize g.ds[i].t=ar2 at h6 ae bc;generalize h.ds[i].t=ar3 at oh aA bc;refine cr.draw aI rfl rfl rfl ?_;refine aW.mk ad i ba rfl ax ?_;refine aE.mk _ (ha _) ?_;refine aW.mk hU i oC rfl (show i<h.n by omega) ?_;refine aE.mk _ (gf _) ?_;refine a9.mk (λ_=>?_) (λh=>absurd h (by simp));refine aW.mk ad i ba rfl ax ?_;refine aE.mk _ (h6 _) ?_;refine aW.mk hU i oC rfl (show i<h.n by omega) ?_;refine aE.mk _ (oh _) ?_;refine aU.whole _ (aoa ae aA bc) ?_;rintro v J N -⟨rfl,bg,cH⟩;subst J;subst N;refine aB.mk (λh=>by cases h) (λ_=>?_);refine aQ.mk _ (bl (i:=i) (by omega)) ?_;exact⟨i+1,⟨ax,by omega⟩,.refl,cU,.cons rfl (.cons rfl (.nil))⟩
def abO(ao:si M g)(cj:h.ok I)(dJ:g.ds.map aK.a1=h.ds.map aK.a1):Spec Tryz.prog 13 [g.val,h.val] I (M++M0) λv I' M'=>v=.bool true/\(∀ b o,I b=some o->I' b=some o)/\M'=M++M0:=by
 refine Spec.iM (Spec.anf (Q:=λJ v I' M'=>v=.bool true/\I'=J/\M'=[]) (λJ bs=>?_) (SQ Tryz.func13 rfl rfl)) ?_
 ·exact abN ((ao.mono (λx ae=>gM M0 ae)).gE bs) (cj.mono bs.le) dJ
 ·rintro v I' M'⟨J,bR,M1,bs,⟨rfl,rfl,rfl⟩,rfl,hle,-⟩;exact⟨rfl,hle,rfl⟩
def qj.row{T:Nat}{f:α->List Value}(au:∀ x,(f x).length=size){l:List α}(h:qj T M a n c size b (l.flatMap f)){j:Nat}(aj:j<n)(jA:j<l.length)(aV:∀ x∈M,x∈M') :
  ∃ ad,a=some ad/\bq I M' (ad.add (j*size)) size (f l[j]):=by
 rcases h.rd with av | ⟨g,cs,U,ab,ak,aL⟩
 ·omega
 ·refine⟨⟨g,0,none⟩,U,?_⟩;rw[dF (⟨g,0,none⟩:Addr) rfl,cM];refine⟨rfl,_,_,_,.inr ⟨_,aV _ ab,rfl,rfl⟩,?_,au _⟩;rw[<-xi f size au l j jA,<-ak,Ar,xd];congr 1;have:=rl size (show j+1<=n from aj);rw[lG,qD]at this;omega
set_option maxRecDepth 100000 in
def abP(ao:si M g)(aV:∀ x∈M,x∈M0):Spec Tryz.prog 15 [g.val] I M0 λv I' M'=>I'=I/\∃ os:aY,v=os.val/\os.ok 2 ((g.ds.map aK.t).flatMap bx.cells)/\M'=os.aw 46++M0:=by
 refine bn [] aI Tryz.func15 rfl rfl rfl ?_;intro B av;have cK:g.ds.length=g.n:=by have:=ao.aJ.len;rw[gd _ 3 aK.bI]at this;omega
 have gk:=ao.aJ.cap;have cv:∀ t:bx,t.cells.length=2:=λt=>rfl;refine bu.inv (ι:=Nat×aY) (λx=>{ a4:=[(1,.ref 1 0),(3,.val x.2.val),(4,.val (.int .i64 x.1))],cl:=[(1,[.slice g.a g.n g.c])],br:=I,bO:=x.2.aw 46++M0 }) (λx=>x.1<=g.n/\x.2.ok 2 (((g.ds.map aK.t).take x.1).flatMap bx.cells)) (λx=>g.n-x.1) ?_ ?_
 ·exact⟨(0,fs),⟨bQ _,fT 2⟩,.refl,cU,.cons rfl (.nil)⟩
 rintro⟨i,os⟩⟨hi,bf⟩;simp only at hi bf;have hlen:os.n=i:=by have:=bf.len;rw[gd _ 2 cv,fH,cT]at this;omega
 refine aB.mk (λh=>?_) (λh=>?_)
 ·have ax:i<g.n:=by have:(i:Int)<(g.n:Int):=cq h;omega
  have cd:i<g.ds.length:=by omega
  obtain⟨ad,ba,a3⟩:=ao.aJ.row (I:=I) aK.bI ax cd (M':=os.aw 46++M0) (λx ae=>ly _ (aV x ae));have lO:i<(g.ds.map aK.t).length:=by rw[cT];exact cd
  have j8:(g.ds.map aK.t).take (i+1)=(g.ds.map aK.t).take i++[g.ds[i].t]:=by rw[er lO,oP]
  have gf:bq I (os.aw 46++M0) ((ad.add (i*3)).add 1) 2 g.ds[i].t.cells:=a3.part (k:=1) (m:=2) (by decide);generalize g.ds[i].t=t at j8 gf;refine aW.mk ad i ba rfl ax ?_;refine aE.mk _ gf ?_;refine bL.mk λb ah jJ=>?_;refine bk.nF aI rfl (by simp) (e:=46) rfl rfl rfl os bf rfl (cs:=t.cells) rfl rfl rfl [] M0 rfl (by omega) (by show(os.n+1)*32<=_;omega) ?_;intro gL h8 ed eX;refine aQ.mk _ (bl (i:=i) (by omega)) ?_;refine⟨(i+1,gL),⟨⟨ax,?_⟩,by simp only;omega⟩,.refl,cU,.cons rfl (.nil)⟩;simp only;rw[j8,jF,mh,CV,db];exact eX
 ·have bS:i=g.n:=by have:¬ (i:Int)<(g.n:Int):=cR h;omega
  subst bS;rw[dX (by rw[cT];omega)]at bf;exact⟨_,_,.refl,rfl,os,rfl,bf,rfl⟩
def abQ{l:List Value}{k:Nat}{v:Value}(h:k<l.length):(bG l k [v]).length=l.length:=by unfold bG;simp only[cz,fH,n3,cS,dI];omega
inductive l4:aD->aD->Prop
 |same(x:aD):l4 x x| ints (n:Nat) (cs cs':Array Value) (h:cs'.size=cs.size):l4 ⟨n,.cells cs 3 (0,0)⟩ ⟨n,.cells cs' 3 (0,0)⟩| nodes (n:Nat) (cs cs':Array Value) (h:cs'.size=cs.size) (fu:∀ k,cs'.toList[k*9+8]?=cs.toList[k*9+8]?):l4 ⟨n,.cells cs 61 (0,0)⟩ ⟨n,.cells cs' 61 (0,0)⟩
inductive nl:List aD->List aD->Prop
 |nil:nl [] []| cons {x y:aD} {l m:List aD} (h:l4 x y) (t:nl l m):nl (x::l) (y::m)
def nl.refl:∀ M:List aD,nl M M
 |[]=>.nil| x::M=>.cons (.same x) (.refl M)
def nl.mem(h:nl M M'){x:aD}(ae:x∈M):∃ y∈M',l4 x y:=by
 induction h with
 |nil=>cases ae
 |cons h t a8=>
  rcases ea.1 ae with rfl | ae;·exact⟨_,.head _,h⟩
  ·obtain⟨y,U,ab⟩:=a8 ae;exact⟨y,.tail _ U,ab⟩
def nl.put{x jz:aD}(ar:∀ y,l4 y x->l4 y jz):∀ {M0 pre post:List aD},nl M0 (pre++x::post)->nl M0 (pre++jz::post)
 |_,[],post,.cons h t=>.cons (ar _ h) t| _,y::pre,post,.cons h t=>.cons h (nl.put ar t)
def l4.int_eq{cs:Array Value}(h:l4 ⟨n,.cells cs 3 (0,0)⟩ y):∃ cs',y=⟨n,.cells cs' 3 (0,0)⟩/\cs'.size=cs.size:=by
 cases h with
 |same=>exact⟨cs,rfl,rfl⟩| ints _ _ cs' h=>exact⟨cs',rfl,h⟩
def l4.aoi{cs:Array Value}(h:l4 ⟨n,.cells cs 61 (0,0)⟩ y):∃ cs',y=⟨n,.cells cs' 61 (0,0)⟩/\cs'.size=cs.size/\∀ k,cs'.toList[k*9+8]?=cs.toList[k*9+8]?:=by
 cases h with
 |same=>exact⟨cs,rfl,rfl,λ_=>rfl⟩| nodes _ _ cs' h fu=>exact⟨cs',rfl,h,fu⟩
def l4.aoj{cs:Array Value}(h:l4 ⟨n,.cells cs 46 (0,0)⟩ y):y=⟨n,.cells cs 46 (0,0)⟩:=by
 cases h with
 |same=>rfl
def l4.aok{cs:Array Value}(h:cs'.size=cs.size):∀ y,l4 y ⟨n,.cells cs 3 (0,0)⟩->l4 y ⟨n,.cells cs' 3 (0,0)⟩:=λy aA=>by
 cases aA with
 |same=>exact .ints _ _ _ h| ints _ c6 _ U=>exact .ints _ _ _ (h.trans U)
def l4.aol{cs:Array Value}(h:cs'.size=cs.size)(fu:∀ k,cs'.toList[k*9+8]?=cs.toList[k*9+8]?):∀ y,l4 y ⟨n,.cells cs 61 (0,0)⟩->l4 y ⟨n,.cells cs' 61 (0,0)⟩:=λy aA=>by
 cases aA with
 |same=>exact .nodes _ _ _ h fu| nodes _ c6 _ U ab=>exact .nodes _ _ _ (h.trans U) λk=>(fu k).trans (ab k)
def aom(fo:nl M0 M)(aq:wO M0 t){k:Nat}(af:k<t.n):∃ (nP:Nat) (cs:Array Value) (ay:k<t.aa.length),t.a=some ⟨nP,0,none⟩/\(⟨nP,.cells cs 61 (0,0)⟩:aD)∈M/\t.n*9<=cs.size/\cs.toList[k*9+8]?=some (.slice t.aa[k].eA t.aa[k].aZ t.aa[k].ej) /\
  ∀ j,j<t.aa[k].aZ->∃ (B':Nat) (cs':Array Value),t.aa[k].eA=some ⟨B',0,none⟩/\(⟨B',.cells cs' 3 (0,0)⟩:aD)∈M/\t.aa[k].aZ<=cs'.size:=by
 have g7:t.aa.length=t.n:=by have:=aq.aJ.len;rw[gd _ 9 aH.bI]at this;omega
 rcases aq.aJ.rd with av | ⟨g,cs,U,ab,ak,aL⟩
 ·omega
 obtain⟨y,aA,c4⟩:=fo.mem ab;obtain⟨cs',rfl,aF,a7⟩:=c4.aoi;have bj:k<t.aa.length:=by omega
 refine⟨g,cs',bj,U,aA,by omega,?_,λj aj=>?_⟩
 ·rw[a7];have bC:=xi aH.cells 9 aH.bI t.aa k bj;rw[<-ak]at bC;have di:((cs.toList.take (t.n*9)).drop (k*9)).take 9=t.aa[k].cells:=bC;have hE:=congrArg (λl=>l[8]?) di;simp only[kA,oG]at hE;rw[cw (by decide),cw (by omega)]at hE;rw[hE];rfl
 ·have bW:=aq.aa _ (bJ bj);rcases bW.aJ.rd with av | ⟨dh,U4,c5,c7,dS,eP⟩
  ·omega
  obtain⟨ar4,aon,RR⟩:=fo.mem c7;obtain⟨U5,rfl,kx⟩:=RR.int_eq;exact⟨dh,U5,c5,aon,by omega⟩
structure RS(M0:List aD)(n:Nat)(x:Nat×List aD):Prop where
 i:x.1<=n
 s:nl M0 x.2
set_option maxRecDepth 100000 in
def abR{eJ:List bx}(bf:os.ok 2 (eJ.flatMap bx.cells))(aoo:∀ x∈os.aw 46,x∈M0)(aq:∀ t∈eJ,wO M0 t)(ah:os.n<=1000000):Spec Tryz.prog 14 [.slice none 0 0,os.val] I M0 λv I' M'=>I'=I/\nl M0 M':=by
 have cv:∀ t:bx,t.cells.length=2:=λt=>rfl;have hlen:eJ.length=os.n:=by have:=bf.len;rw[gd _ 2 cv]at this;omega
 have lS:∀ (M:List aD),nl M0 M->∀ i (h:i<eJ.length),∃ ad,os.a.map (λg=>(⟨g,0,none⟩:Addr))=some ad/\bq I M ((ad.add (i*2)).add 0) 1 [.slice eJ[i].a eJ[i].n eJ[i].c]:=λM fo i h=>by
  obtain⟨ad,U,ab⟩:=aY.ok.row (I:=I) (M:=M) (e:=46) cv (by decide) bf (λx ae=>by
   obtain⟨y,aA,c4⟩:=fo.mem (aoo x ae);obtain⟨a,n,c,cur⟩:=os;cases a with
   |none=>cases ae
   |some g=>
    obtain rfl:=fb.1 ae;rw[c4.aoj]at aA;exact aA) h
  exact⟨ad,U,ab.part (k:=0) (m:=1) (by decide)⟩
 refine bn [] aI Tryz.func14 rfl rfl rfl ?_;intro B av;refine bu.sF 1 ?_;refine aB.mk (λh=>absurd h (by simp)) (λ_=>?_);refine bu.inv (ι:=Nat×List aD) (λx=>{ a4:=[(1,.val os.val),(6,.val (.int .i64 x.1))],br:=I,bO:=x.2 }) (RS M0 os.n) (λx=>os.n-x.1) ?_ ?_
 ·exact⟨(0,M0),⟨bQ _,.refl _⟩,.refl,ih,.nil⟩
 rintro⟨i,M⟩⟨hi,fo⟩;simp only at hi fo;refine aB.mk (λh=>?_) (λh=>?_)
 rotate_left
 ·exact⟨_,_,.refl,rfl,fo⟩
 have ax:i<os.n:=by have:(i:Int)<(os.n:Int):=cq h;omega
 have cd:i<eJ.length:=by omega
 have HU:=aq _ (bJ cd);have RT:∀ M,nl M0 M->_:=λM fo=>lS M fo i cd;have RU:=HU.aJ.cap;generalize eJ[i]=t at HU RT RU;refine bu.inv (ι:=Nat×List aD) (λx=>{ a4:=[(1,.val os.val),(6,.val (.int .i64 i)),(7,.val (.int .i64 x.1))],br:=I,bO:=x.2 }) (RS M0 t.n) (λx=>t.n-x.1) ?_ ?_
 ·exact⟨(0,M),⟨bQ _,fo⟩,.refl,cU,.nil⟩
 rintro⟨k,M1⟩⟨af,wA⟩;simp only at af wA;obtain⟨aop,aoq,aor⟩:=RT M1 wA;refine aW.mk aop i aoq rfl ax ?_;refine aE.mk _ aor ?_;refine aB.mk (λab=>?_) (λab=>?_)
 rotate_left
 ·refine aQ.mk _ (bl (i:=i) (by omega)) ?_;exact⟨(i+1,M1),⟨⟨ax,wA⟩,by simp only;omega⟩,.refl,ih,.nil⟩
 have ho:k<t.n:=by have:(k:Int)<(t.n:Int):=cq ab;omega
 have bj:k<t.aa.length:=by have:=HU.aJ.len;rw[gd _ 9 aH.bI]at this;omega
 have lL:∀ M,nl M0 M->∃ (nP:Nat) (cs:Array Value),t.a=some ⟨nP,0,none⟩/\(⟨nP,.cells cs 61 (0,0)⟩:aD)∈M/\t.n*9<=cs.size/\cs.toList[k*9+8]?=some (.slice t.aa[k].eA t.aa[k].aZ t.aa[k].ej) /\
   ∀ j,j<t.aa[k].aZ->∃ (B':Nat) (cs':Array Value),t.aa[k].eA=some ⟨B',0,none⟩/\(⟨B',.cells cs' 3 (0,0)⟩:aD)∈M/\t.aa[k].aZ<=cs'.size:=λM fo=>by
  obtain⟨a,b,c,d⟩:=aom fo HU ho;exact⟨a,b,d⟩
 have aos:=(HU.aa _ (bJ bj)).aJ.cap;generalize t.aa[k]=bE at lL aos;have abS:∀ {M:List aD} {nP:Nat} {cs:Array Value},(⟨nP,.cells cs 61 (0,0)⟩:aD)∈M->cs.toList[k*9+8]?=some (.slice bE.eA bE.aZ bE.ej)->bq I M (((⟨nP,0,none⟩:Addr).add (k*9)).add 8) 1 [.slice bE.eA bE.aZ bE.ej]:=fun {M nP cs} hm fu=>by rw[dF (⟨nP,0,none⟩:Addr) rfl,dF _ rfl];refine⟨rfl,_,_,_,.inr ⟨_,hm,rfl,rfl⟩,?_,rfl⟩;show(cs.toList.drop (0+k*9+8)).take 1=_;rw[cM];obtain⟨ae,e⟩:=iO.1 fu;rw[dv ae,e];rfl
 refine bu.inv (ι:=Nat×List aD) (λx=>{ a4:=[(1,.val os.val),(6,.val (.int .i64 i)),(7,.val (.int .i64 k)),(8,.val (.int .i64 x.1))],br:=I,bO:=x.2 }) (RS M0 bE.aZ) (λx=>bE.aZ-x.1) ?_ ?_
 ·exact⟨(0,M1),⟨bQ _,wA⟩,.refl,cI,.nil⟩
 rintro⟨j,ew⟩⟨aj,BE⟩;simp only at aj BE;obtain⟨vV,o5,Ca⟩:=RT ew BE;obtain⟨nP,cs,RV,RW,ar5,fu,cb⟩:=lL ew BE;refine aW.mk vV i o5 rfl ax ?_;refine aE.mk _ Ca ?_;refine aW.mk ⟨nP,0,none⟩ k RV rfl ho ?_;refine aE.mk _ (abS RW fu) ?_;refine aB.mk (λak=>?_) (λak=>?_)
 ·have RX:j<bE.aZ:=by have:(j:Int)<(bE.aZ:Int):=cq ak;omega
  obtain⟨B',cs',wK,aot,ar6⟩:=cb j RX;refine aW.mk vV i o5 rfl ax ?_;refine aE.mk _ Ca ?_;refine aW.mk ⟨nP,0,none⟩ k RV rfl ho ?_;refine aE.mk _ (abS RW fu) ?_;refine aW.mk ⟨B',0,none⟩ j wK rfl RX ?_;obtain⟨pre,post,pz⟩:=r4 aot;refine cu.add pre post cs' 3 pz (by show 0+j*1+1<=_;omega) rfl ?_;refine aQ.mk _ (bl (i:=j) (by omega)) ?_;refine⟨(j+1,_),⟨⟨RX,nl.put (l4.aok ?_) (pz ▸ BE)⟩,by simp only;omega⟩,.refl,cI,.nil⟩;rw[jZ];exact abQ (by rw[vq];show 0+j*1<cs'.size;omega)
 ·refine aW.mk vV i o5 rfl ax ?_;refine aE.mk _ Ca ?_;refine aW.mk ⟨nP,0,none⟩ k RV rfl ho ?_;obtain⟨pre,post,pz⟩:=r4 RW;refine cu.mk pre post cs 61 ?_ ?_ ?_ rfl ?_
  ·rw[dF (⟨nP,0,none⟩:Addr) rfl,dF _ rfl];exact pz
  ·rw[dF (⟨nP,0,none⟩:Addr) rfl,dF _ rfl]
  ·rw[dF (⟨nP,0,none⟩:Addr) rfl,dF _ rfl];show 0+k*9+0+1<=_;omega
  refine aQ.mk _ (bl (i:=k) (by omega)) ?_;refine⟨(k+1,_),⟨⟨ho,?_⟩,by simp only;omega⟩,.refl,cU,.nil⟩;rw[dF (⟨nP,0,none⟩:Addr) rfl,dF _ rfl];refine nl.put (l4.aol ?_ λq=>?_) (pz ▸ BE);·rw[jZ];exact abQ (by rw[vq];show 0+k*9+0<cs.size;omega)
  ·show(bG cs.toList (0+k*9+0) [.int .u8 77]).toArray.toList[q*9+8]?=_;rw[Cj,cM,nT];have M9:k*9<cs.toList.length:=by rw[vq];omega
   have e:bG cs.toList (k*9) [.int .u8 77]=cs.toList.set (k*9) (.int .u8 77):=by unfold bG;rw[Aq,cw M9,fx];rfl
   rw[e,List.getElem?_set_ne (by omega)]
def u1(z:Int):List Value:=[.int .i64 z]
def Cb:∀ l:List Int,l.flatMap u1=l.map (.int .i64 ·)
 |[]=>rfl| z::l=>by rw[mh,Cb l];rfl
structure aou(e9:List Int)(I:aT)(os0:aY)(x:Nat×aY×List Int):Prop where
 i:2*x.1<=e9.length+1
 ok:x.2.1.ok 1 (x.2.2.flatMap u1)
 len:x.2.2.length=e9.length
 at_:∀ k,k<e9.length->x.2.2[k]?=if k<x.1\/e9.length<=k+x.1 then e9[e9.length-1-k]? else e9[k]?
 a:x.2.1.a=os0.a
 v:x.2.1.val=os0.val
set_option maxRecDepth 100000 in
def aov{e9:List Int}(pX:os0.ok 1 (e9.map (.int .i64 ·)))(ah:os0.n<=1099511627776):Spec Tryz.prog 132 [os0.val] I (os0.aw 3++M0) λv I' M'=>I'=I/\∃ gY:aY,gY.val=os0.val/\gY.ok 1 (e9.reverse.map (.int .i64 ·))/\M'=gY.aw 3++M0:=by
 refine bn [] aI Tryz.func132 rfl rfl rfl ?_;intro B av;have JN:=pX.o1;refine aQ.mk ((e9.length:Int)-1) (by show IntKind.i64.wrap ((os0.n:Int)-1)=_;rw[wrap_i64 ⟨by omega,by omega⟩,JN]) ?_;refine bu.inv (ι:=Nat×aY×List Int) (λx=>{ a4:=[(0,.val os0.val),(2,.val (.int .i64 x.1)),(3,.val (.int .i64 ((e9.length:Int)-1-x.1)))],cl:=[],br:=I,bO:=x.2.1.aw 3++M0 }) (λx=>aou e9 I os0 x) (λx=>e9.length-x.1) ?_ ?_
 ·refine⟨(0,os0,e9),⟨by simp,by rw[Cb];exact pX,rfl,λk af=>?_,rfl,rfl⟩,.refl,.cons .refl (.cons .refl (.cons ?_ .nil)),.nil⟩
  ·simp only;rw[cB (by omega)]
  ·simp only[Int.ofNat_zero,Int.sub_zero];exact .refl
 rintro⟨i,os,l⟩⟨hi,bf,hlen,n8,jT,jV⟩;simp only at hi bf hlen n8 jT jV;obtain⟨hV,zZ⟩:=En jV;refine aB.mk (λh=>?_) (λh=>?_)
 rotate_left
 ·have bS:¬ (i:Int)<(e9.length:Int)-1-i:=cR h;refine⟨_,_,.refl,rfl,os,jV,?_,rfl⟩;have e:l=e9.reverse:=by
   refine yC λk=>?_;by_cases af:k<e9.length
   ·rw[n8 k af,List.getElem?_reverse af];split
    ·rfl
    ·congr 1;omega
   ·rw[ql (by omega),ql (by rw[FU];omega)]
  rw[<-e,<-Cb];exact bf
 have ax:(i:Int)<(e9.length:Int)-1-i:=cq h;obtain⟨j,aj⟩:∃ j:Nat,(e9.length:Int)-1-i=(j:Int):=⟨e9.length-1-i,by omega⟩;have cd:i<l.length:=by omega
 have eS:j<l.length:=by omega
 obtain⟨ad,ba,aow⟩:=aY.ok.row (I:=I) (M:=os.aw 3++M0) (e:=3) (f:=u1) (size:=1) (λ_=>rfl) (by decide) bf (λz a2=>gM _ a2) eS;obtain⟨yt,Cc,q'⟩:=aY.ok.row (I:=I) (M:=os.aw 3++M0) (e:=3) (f:=u1) (size:=1) (λ_=>rfl) (by decide) bf (λz a2=>gM _ a2) cd;obtain rfl:ad=yt:=kn (ba.symm.trans Cc);have oB:=ba;rw[jT]at oB;have ar7:l.length=os0.n:=by omega
 refine cr.draw aI rfl rfl rfl ?_;refine aW.mk ad j oB aj (by omega) ?_;refine aE.mk _ aow ?_;refine aW.mk ad i oB rfl (by omega) ?_;refine aE.mk _ q' ?_;refine aW.mk ad i oB rfl (by omega) ?_;refine aY.Kw u1 1 (λ_=>rfl) (e:=3) bf cd l[j] rfl [] M0 rfl ba ?_;intro gL mR tj h8 eX;refine aW.mk ad j oB aj (by omega) ?_;refine aY.Kw u1 1 (λ_=>rfl) (e:=3) eX (show j<(l.set i l[j]).length by rw[m1];exact eS) l[i] rfl [] M0 rfl (by rw[tj];exact ba) ?_;intro aox Nw aoy ar8 Mx;refine aQ.mk _ (bl (i:=i) (by omega)) ?_;refine aQ.mk ((e9.length:Int)-1-((i+1:Nat):Int)) (by rw[wrap_i64 ⟨by omega,by omega⟩];omega) ?_;refine⟨(i+1,aox,(l.set i l[j]).set j l[i]),⟨⟨by simp only;omega,Mx,by simp only[m1];exact hlen,λk af=>?_,(aoy.trans tj).trans jT,(Nw.trans mR).trans jV⟩,by simp only;omega⟩,.refl,cU,.nil⟩;have xM:=n8 i (by omega);have Ht:=n8 j (by omega);rw[cB (by omega),ev cd]at xM;rw[cB (by omega),ev eS]at Ht;simp only;rw[iz,iz,m1];by_cases aF:j=k
 ·subst aF;rw[cw rfl,cw eS,cw (by omega),xM];congr 1;omega
 ·rw[cB aF];by_cases a7:i=k
  ·subst a7;rw[cw rfl,cw cd,cw (by omega),Ht];congr 1;omega
  ·rw[cB a7,n8 k af];by_cases bC:k<i\/e9.length<=k+i
   ·rw[cw bC,cw (by omega)]
   ·rw[cB bC,cB (by omega)]
set_option maxRecDepth 100000 in
def aoz(aq:t.ok I)(ag:right t=true)(az:t.n<=1099511627776)(F6:node<t.n) :
  Spec Tryz.prog 107 [t.val,.int .i64 node] I M0 λv I' M'=>I'=I/\∃ os:aY,os.ok 1 ((xG t.aa node).reverse.map (.int .i64 ·))/\v=os.val/\os.n<=t.n/\valid t.aa.length (xG t.aa node).reverse/\M'=os.aw 3++M0:=by
 refine bn [] aI Tryz.func107 rfl rfl rfl ?_;intro B av;have g7:=aq.n;have agh:g' t.aa node<=t.aa.length:=y5 ag t.aa.length node (by omega) (by omega);refine bL.mk λb1 jG F3=>?_;refine bu.inv (ι:=aY×List Int×aY×List Int×Nat) (λx=>{ a4:=[(2,.ref 2 0),(5,.val x.2.2.1.val),(6,.val x.1.val)],cl:=[(2,t.cells)],br:=I,bO:=x.2.2.1.aw 3++(x.1.aw 3++M0) }) (NT t node) (λx=>eV (g' t.aa) x.2.1) ?_ ?_
 ·refine⟨(⟨some b1,1,1,[.int .i64 node]⟩,[(node:Int)],fs,[],t.aa.length+1),⟨⟨rfl,(λh=>by cases h),λdh mb=>⟨rfl,b2 _,by simp[maxLen],rfl⟩⟩,fT 1,λk af=>?_,(λk af=>by cases af),?_,?_,rfl⟩,.refl,cU,.cons rfl (.nil)⟩
  ·simp only[fb]at af;omega
  ·simp[eV]
  ·simp only[eV,cZ,jj,n4,CX];omega
 rintro⟨todo,A9,back,dT,f⟩⟨oj,qR,vR,vS,xH,y7,pN⟩;simp only at oj qR vR vS xH y7 pN;have nt:=qR.o1;have oZ:=oj.o1;refine aB.mk (λh=>?_) (λh=>?_)
 ·have agi:0<todo.n:=by have:(0:Int)<(todo.n:Int):=cq h;omega
  obtain⟨fK,m,rfl⟩:∃ fK m,A9=fK++[m]:=by
   rcases xb A9 with U | ⟨r,p,U⟩;·subst U;simp at oZ;omega
   ·exact⟨r,p,by simpa using U⟩
  have hm:=vR m (by simp);obtain⟨m,rfl⟩:=en hm.1;have gz:m<t.n:=by omega
  have jK:m<t.aa.length:=by omega
  have F7:todo.n=fK.length+1:=by simpa using oZ
  have F8:=vP ag jK;rw[vQ]at xH y7;have eu:eV (g' t.aa) [(m:Int)]=g' t.aa m:=by simp[eV]
  rw[eu,F8]at xH y7;have agj:fK.length<=eV (g' t.aa) fK:=y6 ag λk af=>vR k (by simp[af]);have agk:t.aa[m].kids.length<=eV (g' t.aa) t.aa[m].kids:=y6 ag λk af=>by have:=h1 ag m jK k af;omega
  have VC:fK.length+t.aa[m].kids.length<=t.aa.length:=by omega
  obtain⟨ad,ba,a3⟩:=aY.FR (I:=I) (e:=3) (M:=back.aw 3++(todo.aw 3++M0)) oj (λx ae=>by simp[ae]) (j:=fK.length) (by simp);rw[NB rfl]at a3;have ug:=oj;rw[eL]at ug;have ug:=aY.pop ug;have he:todo.n-1=fK.length:=by omega
  rw[he]at ug;have RU:fK.length<=todo.c:=by
   cases LF:todo.a with
   |none=>have:=(oj.nil LF).1;omega| some F9=>have:=(oj.cap F9 LF).2.1;omega
  obtain⟨tZ,rT,ji⟩:=aq.aJ.row aH.bI gz jK;have al:=aq.aa _ (bJ jK);have eR:=al.aZ;have qT:=al.aJ.cap;have fC:=h1 ag m jK;refine aQ.mk ((fK.length:Nat):Int) (by show IntKind.i64.wrap ((todo.n:Int)-1)=_;rw[wrap_i64 ⟨by omega,by omega⟩];omega) ?_;refine aW.mk ad fK.length ba rfl (show fK.length<todo.n by omega) ?_;refine aE.mk _ a3 ?_;refine cr.draw aI rfl rfl rfl ?_;refine aQ.mk ((fK.length:Nat):Int) (by show IntKind.i64.wrap ((todo.n:Int)-1)=_;rw[wrap_i64 ⟨by omega,by omega⟩];omega) ?_;refine jv.mk 0 fK.length rfl rfl (bQ _) RU ?_;refine aW.mk tZ m rT rfl gz ?_;refine aE.mk _ ((ji _).part (k:=8) (m:=1) (by decide)) ?_;have aoA:∀ M,0<t.aa[m].aZ->∃ ad,t.aa[m].eA=some ad/\bq I M ad (t.aa[m].aZ*1) (t.aa[m].kids.map (.int .i64 ·)):=λM av=>al.aJ.yc M av;refine bk.v8 aI rfl (by simp) (e:=3) rfl rfl rfl ⟨todo.a,fK.length,todo.c,todo.cur⟩ ug rfl (sa:=t.aa[m].eA) (m:=t.aa[m].aZ) (c':=t.aa[m].ej) (news:=t.aa[m].kids.map (.int .i64 ·)) rfl (by rw[cT,eR];show _=t.aa[m].aZ*1;omega) (aoA _) (Lq _) (back.aw 3) M0 rfl (by simp only;omega) (by show(fK.length+t.aa[m].aZ)*8<=_;omega) ?_;intro Di ar9 asa pL;rw[<-eL]at pL;refine bL.mk λcc hc FL=>?_;refine bk.nF aI rfl (by simp) (e:=3) rfl rfl rfl back qR rfl (cs:=[.int .i64 m]) rfl rfl rfl [] (Di.aw 3++M0) rfl (by omega) (by show(back.n+1)*8<=_;omega) ?_;intro abT asb asc RY;have RY:abT.ok 1 ((dT++[(m:Int)]).map (.int .i64 ·)):=by rw[eL];exact RY
  refine⟨(Di,fK++t.aa[m].kids,abT,dT++[(m:Int)],f-1),⟨⟨pL,RY,λk af=>?_,λk af=>?_,?_,?_,?_⟩,?_⟩,.refl,cU,.cons rfl (.nil)⟩
  ·rcases dm.1 af with af | af
   ·exact vR k (by simp[af])
   ·have:=fC k af;omega
  ·rcases dm.1 af with af | af
   ·exact vS k af
   ·simp only[fb]at af;omega
  ·simp only[vQ,cz,cS,dI];omega
  ·simp only[vQ];omega
  ·obtain⟨pO,rfl⟩:∃ pO,f=pO+1:=⟨f-1,by omega⟩;rw[pN,NS,lz,jO jK];rfl
  ·simp only;rw[vQ,vQ,eu,F8];omega
 have NU:A9=[]:=by have:¬ (0:Int)<(todo.n:Int):=cR h;exact hZ (by omega)
 subst NU;rw[NR]at pN;simp only[eV,jj,CX,cM]at xH;refine aU.whole _ (aov (os0:=back) qR (by omega)) ?_;rintro v J N -⟨rfl,os,jV,bf,cH⟩;subst N;refine⟨_,os.aw 3++M0,.sub (.append (.refl _) (e' _ _)) .refl,rfl,os,by rw[pN];exact bf,jV.symm,?_,λk af=>vS k (by rw[pN]at af;exact List.mem_reverse.1 af),rfl⟩;have:=(En jV).1;omega
structure abU(d:aH)(dQ:List Int)(y:Nat×aY×List Int):Prop where
 k:y.1<=d.aZ
 ok:y.2.1.ok 1 (y.2.2.flatMap u1)
 n:y.2.1.n=d.aZ
 eq:y.2.2=(d.kids.take y.1).map (λk=>dQ.getD k.toNat 0)++d.kids.drop y.1
set_option maxRecDepth 100000 in
def aoB(aq:t.ok I)(ag:right t=true)(az:t.n<=1099511627776)(F6:node<t.n) :
  Spec Tryz.prog 79 [t.val,.int .i64 node] I [] λv I' M'=>(∀ b o,I b=some o->I' b=some o)/\M'=[]/\∃ bh:bx,v=bh.val/\bh.ok I'/\qZ t node bh:=by
 refine Is [] aI Tryz.func79 rfl rfl rfl ?_;intro B av;have g7:=aq.n;have gk:=aq.aJ.cap;refine aU.mk [] [] _ (.refl _) (aoz (M0:=[]) aq ag az F6) ?_;rintro v RN N -⟨Im,back,qR,rfl,sG,vS,rfl⟩;subst RN;obtain⟨cA,jW⟩:∃ cA,(xG t.aa node).reverse=cA:=⟨_,rfl⟩;rw[jW]at qR vS;have nt:=qR.o1;refine mO.mk t.n t.n rfl rfl (b2 _) (by show 8*t.n<=_;omega) (by omega) ?_;refine bL.mk λbT h3 iF=>?_;refine mO.mk 0 back.n rfl rfl (bQ _) (by show 96*back.n<=_;omega) (by omega) ?_;refine bL.mk λb7 Gr N9=>?_;have zE:(rowOf [Value.int .i64 0] (t.n*1))=(List.replicate t.n (0:Int)).map (Value.int .i64):=by rw[tJ,yB,fh]
 refine bu.yo (ι:=Nat×List Int×aY×List aH×aT) (λx=>{ a4:=[(2,.ref 2 0),(4,.ref 4 0),(5,.val back.val),(6,.val (.slice (some ⟨bT,0,none⟩) t.n t.n)),(7,.val x.2.2.1.val),(24,.val back.val),(25,.val (.int .i64 back.n)),(26,.val (.int .i64 x.1))],cl:=[(2,t.cells),(4,[.slice none 0 0,.int .i64 0])],br:=x.2.2.2.2,bO:=eC bT x.2.1::(x.2.2.1.aw 61++(back.aw 3++[])) }) (VB I t cA) (λx=>cA.length-x.1) ?_ ?_
 ·intro _;refine⟨(0,List.replicate t.n 0,⟨some b7,0,back.n,rowOf [.int .u8 0,.int .u64 0,.int .u64 0,.int .u64 0,.int .u64 0,.string ⟨#[]⟩,.int .i64 0,.int .i64 0,.slice none 0 0] (back.n*9)⟩,[],I),⟨bQ _,by simp[g7],⟨rfl,(λh=>by cases h),λdh mb=>⟨by simp[w0,madeCells],bQ _,by unfold maxLen;simp only;omega,by simp⟩⟩,rfl,(by rw[g7];rfl),(λd al=>by cases al),λ_ _ h=>h,(λc aC=>by have:=Ju aC;omega),(λd al=>by cases al)⟩,.perm (List.Perm.swap _ _ _) (.lW (by rw[zE];simp only[db];rfl)),tF,.cons rfl (.cons rfl (.nil))⟩
 rintro⟨j,P,out,m7,J⟩⟨aj,Dg,uh,hV,vT,y8,bg,Dj,gW⟩;simp only at aj Dg uh hV vT y8 bg Dj gW;have jP:out.n=j:=by have:=uh.len;rw[gd _ 9 aH.bI,hV]at this;omega
 subst jP;refine aB.mk (λh=>?_) (λh=>?_)
 ·have Dk:out.n<cA.length:=by have:(out.n:Int)<(back.n:Int):=cq h;omega
  have hm:=vS _ (bJ Dk);obtain⟨m,vU⟩:=en hm.1;rw[vU]at hm;have gz:m<t.n:=by omega
  have jK:m<t.aa.length:=by omega
  obtain⟨ad,ba,JC⟩:=aY.FR (I:=J) (e:=3) (M:=eC bT P::(out.aw 61++(back.aw 3++[]))) qR (λx ae=>by simp[ae]) Dk;rw[vU]at JC;obtain⟨tZ,rT,ji⟩:=(aq.aJ.mono bg).row aH.bI gz jK;have al:=(aq.aa _ (bJ jK)).mono bg;have eR:=al.aZ;have qT:=al.aJ.cap;have fC:=h1 ag m jK;have qU:nodeAt t.aa m=t.aa[m]:=jO jK;generalize eY:t.aa[m]=d at al eR qT fC ji qU;have fN:=AF P m (by omega) (out.n:Int);generalize s3:P.set m (out.n:Int)=dQ at fN;have JD:dQ.length=t.aa.length:=by rw[<-s3];simpa using Dg
  have A':∀ c∈dQ,0<=c/\c<=cA.length:=λc aC=>by
   rw[<-s3]at aC;rcases FT aC with aC | rfl;·exact Dj c aC
   ·omega
  refine aW.mk ad out.n ba rfl (show _<back.n by omega) ?_;refine aE.mk _ JC ?_;refine aW.mk ⟨bT,0,none⟩ m rfl rfl gz ?_;refine cu.kN [] (out.aw 61++(back.aw 3++[])) (P.map (Value.int .i64)) 3 rfl (by rw[FW,cT];show 0+m*1+1<=_;omega) rfl (dQ.map (Value.int .i64)) (by rw[cM,fh];exact fN) ?_;refine aW.mk tZ m rT rfl gz ?_;refine aE.mk _ (ji _) ?_;have jJ:(out.n+1)*96<=140737488355328:=by omega
  refine aB.mk (λU=>?_) (λU=>?_)
  ·have gT:0<d.aZ:=by have:(0:Int)<(d.aZ:Int):=cq U;omega
   refine mO.mk d.aZ d.aZ rfl rfl (b2 _) (by show 8*d.aZ<=_;omega) (by omega) ?_;refine bL.mk λwJ aal aam=>?_;have a2:(rowOf [Value.int .i64 0] (d.aZ*1)).length=d.aZ:=by simp[w0,madeCells]
   have c4:bG (rowOf [Value.int .i64 0] (d.aZ*1)) 0 (d.kids.map (.int .i64 ·))=d.kids.map (.int .i64 ·):=by unfold bG;rw[mi,hO,cM,iK (by rw[a2,cT];omega),db]
   refine bk.anp aI rfl (by simp) (e:=3) rfl rfl rfl (g:=wJ) (n:=d.aZ) (c:=d.aZ) (cur:=rowOf [Value.int .i64 0] (d.aZ*1)) rfl (by rw[a2];show d.aZ*1<=_;omega) (sa:=d.eA) (c':=d.ej) rfl (news:=d.kids.map (.int .i64 ·)) (by rw[cT];show _=d.aZ*1;omega) (λav=>al.aJ.yc _ av) (Lq _) [] (eC bT dQ::(out.aw 61++(back.aw 3++[]))) rfl ?_;rw[c4];refine bu.inv (ι:=Nat×aY×List Int) (λy=>{ a4:=[(2,.ref 2 0),(4,.ref 4 0),(5,.val back.val),(6,.val (.slice (some ⟨bT,0,none⟩) t.n t.n)),(7,.val out.val),(8,.val (.int .i64 out.n)),(9,.val (.int .i64 m)),(10,.ref 10 0),(11,.val y.2.1.val),(24,.val back.val),(25,.val (.int .i64 back.n)),(26,.val (.int .i64 out.n)),(52,.val y.2.1.val),(53,.val (.int .i64 d.aZ)),(54,.val (.int .i64 y.1))],cl:=[(2,t.cells),(4,[.slice none 0 0,.int .i64 0]),(10,d.cells)],br:=J,bO:=y.2.1.aw 3++(eC bT dQ::(out.aw 61++(back.aw 3++[]))) }) (λy=>abU d dQ y) (λy=>d.aZ-y.1) ?_ ?_;·exact⟨(0,⟨some wJ,d.aZ,d.aZ,d.kids.map (.int .i64 ·)⟩,d.kids),⟨bQ _,⟨by rw[Cb,cT];simp only;omega,(λh=>by cases h),λdh mb=>⟨by simp only[cT];omega,b2 _,by unfold maxLen;simp only;omega,by rw[Cb];exact dX (by rw[cT];simp only;omega)⟩⟩,rfl,by simp⟩,.refl,ac2,.cons rfl (.cons rfl (.cons rfl (.nil)))⟩
   rintro⟨k,eE,eN⟩⟨af,kq,HV,bj⟩;simp only at af kq HV bj;have RZ:∀ x∈eE.aw 3,x∈eE.aw 3++(eC bT dQ::(out.aw 61++(back.aw 3++[]))):=λx ae=>gM _ ae;have Ga:eC bT dQ∈eE.aw 3++(eC bT dQ::(out.aw 61++(back.aw 3++[]))):=by simp
   have Gg:eN.length=d.kids.length:=by rw[bj,cz,cT,fH,n3];omega
   refine aB.mk (λab=>?_) (λab=>?_)
   ·have e6:k<d.aZ:=by have:(k:Int)<(d.aZ:Int):=cq ab;omega
    have iS:k<d.kids.length:=by omega
    have Cd:k<eN.length:=by omega
    have ai:=fC _ (bJ iS);have y9:d.kids[k].toNat<dQ.length:=by omega
    have Gb:dQ.getD d.kids[k].toNat 0=dQ[d.kids[k].toNat]:=by simp[bV,y9]
    have R0:eN[k]=d.kids[k]:=by
     have ak:eN[k]?=d.kids[k]?:=by rw[bj,pI (by rw[cT,fH];omega),cT,fH,ss (by omega),pZ,oG,nT]
     rw[ev Cd,ev iS]at ak;exact kn ak
    obtain⟨eU,eO,eB⟩:=aY.ok.row (I:=J) (M:=eE.aw 3++(eC bT dQ::(out.aw 61++(back.aw 3++[])))) (e:=3) (f:=u1) (size:=1) (λ_=>rfl) (by decide) kq RZ Cd;rw[R0]at eB;refine aW.mk eU k eO rfl (show k<eE.n by omega) ?_;refine aE.mk _ eB ?_;refine aW.mk ⟨bT,0,none⟩ d.kids[k].toNat rfl (by omega) (by omega) ?_;refine aE.mk _ (CM Ga y9) ?_;refine aW.mk eU k eO rfl (show k<eE.n by omega) ?_;refine aY.Kw u1 1 (λ_=>rfl) (e:=3) kq Cd dQ[d.kids[k].toNat] rfl [] (eC bT dQ::(out.aw 61++(back.aw 3++[]))) rfl eO ?_;intro Be mR tj h8 eX;refine aQ.mk _ (bl (i:=k) (by omega)) ?_;refine⟨(k+1,Be,eN.set k dQ[d.kids[k].toNat]),⟨⟨e6,eX,h8.trans HV,?_⟩,by simp only;omega⟩,.refl,.cons .refl (.cons .refl (.cons .refl (.cons .refl (.cons .refl (.cons .refl (.cons .refl (.cons .refl (.cons ?_ (.cons .refl (.cons .refl (.cons .refl (.cons ?_ (ih))))))))))))),.cons rfl (.cons rfl (.cons rfl (.nil)))⟩;·simp only;rw[bj,er iS,eL,cZ,jj,Gb,Da _ _ (by rw[cT,fH];omega),cT,fH,ss (by omega),pZ,dv iS,Dd,fx];rfl
    ·simp only;rw[mR];exact .refl
    ·simp only;rw[mR];exact .refl
   have bS:k=d.aZ:=by have:¬ (k:Int)<(d.aZ:Int):=cR ab;omega
   subst bS;rw[dX (by omega),iK (by omega),db]at bj;rw[Cb]at kq;refine bL.mk λBa VH VI=>?_;have bW:∃ bE:aH,bE=⟨d.k,d.cF,d.s1,d.s2,d.dt,d.t,d.lo,d.hi,eE.a.map λg=>⟨g,0,none⟩,eE.n,eE.c,eN⟩:=⟨_,rfl⟩;obtain⟨bE,bW⟩:=bW;have Gc:bE.cells=[.int .u8 d.k,.int .u64 d.cF,.int .u64 d.s1,.int .u64 d.s2,.int .u64 d.dt,.string d.t,.int .i64 d.lo,.int .i64 d.hi,.slice (eE.a.map λg=>⟨g,0,none⟩) eE.n eE.c]:=by rw[bW];rfl
   refine bk.nF aI rfl (by simp) (e:=61) rfl rfl rfl out uh rfl (cs:=[.int .u8 d.k,.int .u64 d.cF,.int .u64 d.s1,.int .u64 d.s2,.int .u64 d.dt,.string d.t,.int .i64 d.lo,.int .i64 d.hi,.slice (eE.a.map λg=>⟨g,0,none⟩) eE.n eE.c]) rfl rfl rfl (eE.aw 3++[eC bT dQ]) (back.aw 3++[]) (by simp;rfl) (by omega) (by show(out.n+1)*96<=_;omega) ?_;intro Ce aoC aoD R1;refine aQ.mk _ (bl (i:=out.n) (by omega)) ?_;have y':∀ c∈eN,0<=c/\c<=cA.length:=λc aC=>by
    rw[bj]at aC;obtain⟨q,a0,rfl⟩:=dB.1 aC;have xE:=fC q a0;have Gf:q.toNat<dQ.length:=by omega
    exact A' (dQ.getD q.toNat 0) (by simp only[bV,ev Gf,je];exact bJ _)
   intro gO;obtain⟨xI,hw,hle,ig⟩:=aY.C3 (I:=J) (b:=8) (e:=3) kq (by omega) (λg ao=>gO.d ⟨g,.cells eE.cur.toArray 3 (0,0)⟩ (by simp[aY.aw,ao])) (eC bT dQ::(Ce.aw 61++(back.aw 3++[])));refine⟨(out.n+1,dQ,Ce,m7++[bE],xI),⟨⟨by simp only;omega,JD,?_,by simp[hV],?_,?_,λb o h=>hle _ _ (bg _ _ h),A',?_⟩,by simp only;omega⟩,?_,tF,.cons rfl (.cons rfl (.nil))⟩
   ·simp only;rw[jF];have:([bE].flatMap aH.cells)=bE.cells:=by simp
    rw[this,Gc];exact R1
   ·simp only;rw[er Dk,xp,vT,qm,Jy,vU];show(P.set m ((m7.map aH.a1).length:Int),m7.map aH.a1++[(nodeAt t.aa m).m6 ((nodeAt t.aa m).kids.map λk=>(P.set m ((m7.map aH.a1).length:Int)).getD k.toNat 0)])=_;rw[cT,hV,s3,qU,<-bj,eL,bW];rfl
   ·simp only;intro x ae;rcases dm.1 ae with ae | ae
    ·exact(y8 x ae).mono hle
    ·simp only[fb]at ae;rw[ae,bW];refine⟨al.k,al.cF,al.s1,al.s2,al.dt,al.t,al.lo,al.hi,ig,λc aC=>?_⟩;have:=y' c aC;exact⟨by omega,by omega⟩
   ·simp only;intro x ae;rcases dm.1 ae with ae | ae
    ·exact gW x ae
    ·simp only[fb]at ae;rw[ae,bW];exact y'
   ·simp only;refine .perm (M1:=eE.aw 3++(eC bT dQ::(Ce.aw 61++(back.aw 3++[])))) ?_ hw;simp
  ·have gT:d.aZ=0:=by have:¬ (0:Int)<(d.aZ:Int):=cR U;omega
   have aoE:d.kids=[]:=hZ (by omega);refine bu.inv (ι:=Nat×aY×List Int) (λy=>{ a4:=[(2,.ref 2 0),(4,.ref 4 0),(5,.val back.val),(6,.val (.slice (some ⟨bT,0,none⟩) t.n t.n)),(7,.val out.val),(8,.val (.int .i64 out.n)),(9,.val (.int .i64 m)),(10,.ref 10 0),(11,.val y.2.1.val),(24,.val back.val),(25,.val (.int .i64 back.n)),(26,.val (.int .i64 out.n)),(52,.val y.2.1.val),(53,.val (.int .i64 d.aZ)),(54,.val (.int .i64 y.1))],cl:=[(2,t.cells),(4,[.slice none 0 0,.int .i64 0]),(10,d.cells)],br:=J,bO:=y.2.1.aw 3++(eC bT dQ::(out.aw 61++(back.aw 3++[]))) }) (λy=>abU d dQ y) (λy=>d.aZ-y.1) ?_ ?_;·refine⟨(0,fs,d.kids),⟨bQ _,by rw[aoE];exact fT 1,gT.symm,by simp⟩,.refl,.cons .refl (.cons .refl (.cons .refl (.cons .refl (.cons .refl (.cons .refl (.cons .refl (.cons .refl (.cons .refl (.cons .refl (.cons .refl (.cons .refl (.cons .refl (.cons ?_ (.cons .refl .nil)))))))))))))),.cons rfl (.cons rfl (.cons rfl (.nil)))⟩;simp only;rw[gT];exact .refl
   rintro⟨k,eE,eN⟩⟨af,kq,HV,bj⟩;simp only at af kq HV bj;have RZ:∀ x∈eE.aw 3,x∈eE.aw 3++(eC bT dQ::(out.aw 61++(back.aw 3++[]))):=λx ae=>gM _ ae;have Ga:eC bT dQ∈eE.aw 3++(eC bT dQ::(out.aw 61++(back.aw 3++[]))):=by simp
   have Gg:eN.length=d.kids.length:=by rw[bj,cz,cT,fH,n3];omega
   refine aB.mk (λab=>?_) (λab=>?_)
   ·have e6:k<d.aZ:=by have:(k:Int)<(d.aZ:Int):=cq ab;omega
    have iS:k<d.kids.length:=by omega
    have Cd:k<eN.length:=by omega
    have ai:=fC _ (bJ iS);have y9:d.kids[k].toNat<dQ.length:=by omega
    have Gb:dQ.getD d.kids[k].toNat 0=dQ[d.kids[k].toNat]:=by simp[bV,y9]
    have R0:eN[k]=d.kids[k]:=by
     have ak:eN[k]?=d.kids[k]?:=by rw[bj,pI (by rw[cT,fH];omega),cT,fH,ss (by omega),pZ,oG,nT]
     rw[ev Cd,ev iS]at ak;exact kn ak
    obtain⟨eU,eO,eB⟩:=aY.ok.row (I:=J) (M:=eE.aw 3++(eC bT dQ::(out.aw 61++(back.aw 3++[])))) (e:=3) (f:=u1) (size:=1) (λ_=>rfl) (by decide) kq RZ Cd;rw[R0]at eB;refine aW.mk eU k eO rfl (show k<eE.n by omega) ?_;refine aE.mk _ eB ?_;refine aW.mk ⟨bT,0,none⟩ d.kids[k].toNat rfl (by omega) (by omega) ?_;refine aE.mk _ (CM Ga y9) ?_;refine aW.mk eU k eO rfl (show k<eE.n by omega) ?_;refine aY.Kw u1 1 (λ_=>rfl) (e:=3) kq Cd dQ[d.kids[k].toNat] rfl [] (eC bT dQ::(out.aw 61++(back.aw 3++[]))) rfl eO ?_;intro Be mR tj h8 eX;refine aQ.mk _ (bl (i:=k) (by omega)) ?_;refine⟨(k+1,Be,eN.set k dQ[d.kids[k].toNat]),⟨⟨e6,eX,h8.trans HV,?_⟩,by simp only;omega⟩,.refl,.cons .refl (.cons .refl (.cons .refl (.cons .refl (.cons .refl (.cons .refl (.cons .refl (.cons .refl (.cons ?_ (.cons .refl (.cons .refl (.cons .refl (.cons ?_ (ih))))))))))))),.cons rfl (.cons rfl (.cons rfl (.nil)))⟩;·simp only;rw[bj,er iS,eL,cZ,jj,Gb,Da _ _ (by rw[cT,fH];omega),cT,fH,ss (by omega),pZ,dv iS,Dd,fx];rfl
    ·simp only;rw[mR];exact .refl
    ·simp only;rw[mR];exact .refl
   have bS:k=d.aZ:=by have:¬ (k:Int)<(d.aZ:Int):=cR ab;omega
   subst bS;rw[dX (by omega),iK (by omega),db]at bj;rw[Cb]at kq;refine bL.mk λBa VH VI=>?_;have bW:∃ bE:aH,bE=⟨d.k,d.cF,d.s1,d.s2,d.dt,d.t,d.lo,d.hi,eE.a.map λg=>⟨g,0,none⟩,eE.n,eE.c,eN⟩:=⟨_,rfl⟩;obtain⟨bE,bW⟩:=bW;have Gc:bE.cells=[.int .u8 d.k,.int .u64 d.cF,.int .u64 d.s1,.int .u64 d.s2,.int .u64 d.dt,.string d.t,.int .i64 d.lo,.int .i64 d.hi,.slice (eE.a.map λg=>⟨g,0,none⟩) eE.n eE.c]:=by rw[bW];rfl
   refine bk.nF aI rfl (by simp) (e:=61) rfl rfl rfl out uh rfl (cs:=[.int .u8 d.k,.int .u64 d.cF,.int .u64 d.s1,.int .u64 d.s2,.int .u64 d.dt,.string d.t,.int .i64 d.lo,.int .i64 d.hi,.slice (eE.a.map λg=>⟨g,0,none⟩) eE.n eE.c]) rfl rfl rfl (eE.aw 3++[eC bT dQ]) (back.aw 3++[]) (by simp;rfl) (by omega) (by show(out.n+1)*96<=_;omega) ?_;intro Ce aoC aoD R1;refine aQ.mk _ (bl (i:=out.n) (by omega)) ?_;have y':∀ c∈eN,0<=c/\c<=cA.length:=λc aC=>by
    rw[bj]at aC;obtain⟨q,a0,rfl⟩:=dB.1 aC;have xE:=fC q a0;have Gf:q.toNat<dQ.length:=by omega
    exact A' (dQ.getD q.toNat 0) (by simp only[bV,ev Gf,je];exact bJ _)
   intro gO;obtain⟨xI,hw,hle,ig⟩:=aY.C3 (I:=J) (b:=8) (e:=3) kq (by omega) (λg ao=>gO.d ⟨g,.cells eE.cur.toArray 3 (0,0)⟩ (by simp[aY.aw,ao])) (eC bT dQ::(Ce.aw 61++(back.aw 3++[])));refine⟨(out.n+1,dQ,Ce,m7++[bE],xI),⟨⟨by simp only;omega,JD,?_,by simp[hV],?_,?_,λb o h=>hle _ _ (bg _ _ h),A',?_⟩,by simp only;omega⟩,?_,tF,.cons rfl (.cons rfl (.nil))⟩
   ·simp only;rw[jF];have:([bE].flatMap aH.cells)=bE.cells:=by simp
    rw[this,Gc];exact R1
   ·simp only;rw[er Dk,xp,vT,qm,Jy,vU];show(P.set m ((m7.map aH.a1).length:Int),m7.map aH.a1++[(nodeAt t.aa m).m6 ((nodeAt t.aa m).kids.map λk=>(P.set m ((m7.map aH.a1).length:Int)).getD k.toNat 0)])=_;rw[cT,hV,s3,qU,<-bj,eL,bW];rfl
   ·simp only;intro x ae;rcases dm.1 ae with ae | ae
    ·exact(y8 x ae).mono hle
    ·simp only[fb]at ae;rw[ae,bW];refine⟨al.k,al.cF,al.s1,al.s2,al.dt,al.t,al.lo,al.hi,ig,λc aC=>?_⟩;have:=y' c aC;exact⟨by omega,by omega⟩
   ·simp only;intro x ae;rcases dm.1 ae with ae | ae
    ·exact gW x ae
    ·simp only[fb]at ae;rw[ae,bW];exact y'
   ·simp only;refine .perm (M1:=eE.aw 3++(eC bT dQ::(Ce.aw 61++(back.aw 3++[])))) ?_ hw;simp
 have bS:out.n=cA.length:=by have:¬ (out.n:Int)<(back.n:Int):=cR h;omega
 refine aQ.mk ((m7.length:Int)-1) (by show IntKind.i64.wrap ((out.n:Int)-1)=_;rw[wrap_i64 ⟨by omega,by omega⟩,hV]) ?_;intro gO;obtain⟨xI,hw,hle,ig⟩:=aY.C3 (I:=J) (b:=96) (e:=61) uh (by omega) (λg ao=>gO.d ⟨g,.cells out.cur.toArray 61 (0,0)⟩ (by simp[aY.aw,ao])) [];refine⟨xI,[],.sub (M1:=out.aw 61++[]) (by rw[db];exact .cons _ (CQ _ _)) hw,λb o h=>hle _ _ (bg _ _ h),rfl,⟨m7,out.a.map λg=>⟨g,0,none⟩,out.n,out.c,(m7.length:Int)-1⟩,rfl,⟨ig,λd al=>(y8 d al).mono hle,⟨by simp only;omega,by simp only;omega⟩⟩,⟨?_,rfl⟩⟩;rw[dX (by omega)]at vT;rw[mz,jW,<-g7]at *;rw[vT]
def abV(aq:t.ok I)(ag:right t=true)(az:t.n<=1099511627776)(F6:node<t.n) :
  Spec Tryz.prog 79 [t.val,.int .i64 node] I M0 λv I' M'=>(∀ b o,I b=some o->I' b=some o)/\M'=M0/\∃ bh:bx,v=bh.val/\bh.ok I'/\qZ t node bh:=by
 refine Spec.iM (Spec.frame (aoB aq ag az F6)) ?_;rintro v J M⟨M',rfl,-,-,U,rfl,bh,rfl,ab,ak⟩;exact⟨U,rfl,bh,rfl,ab,ak⟩
def aoF{l m:List α}{k:Nat}(ay:k<l.length)(hm:k<m.length)(h:l.take k=m.take k)(e:l[k]=m[k]):l.take (k+1)=m.take (k+1):=by rw[er ay,er hm,h,e]
def aoG{l m:List α}{k:Nat}(ay:k<l.length)(hm:k<m.length)(e:¬ l[k]=m[k]):¬ l=m:=λh=>by subst h;exact e rfl
def aoH{ch:Option Addr}{lX ic:Nat}{dy:List Int}(h:gb I a n c 1 b (l.map (.int .i64 ·)))(aG:gb I ch lX c' 1 ic (dy.map (.int .i64 ·)))(ah:n<=140737488355327):Spec Tryz.prog 108 [.slice a n c,.slice ch lX c'] I M0 λv I' M'=>v=.bool (decide (l=dy))/\I'=I/\M'=M0:=by
 refine bn [] aI Tryz.func108 rfl rfl rfl ?_;intro B av;have ay:l.length=n:=by simpa using h.len
 have hY:dy.length=lX:=by simpa using aG.len
 by_cases az:n=lX
 rotate_left
 ·refine aB.mk (λ_=>?_) (λh=>absurd h (by simp;omega));exact⟨_,_,.refl,by rw[dk λe=>az (by rw[<-ay,<-hY,e])],rfl,rfl⟩
 subst az;refine aB.mk (λh=>absurd h (by simp)) (λ_=>?_);refine bu.inv (ι:=Nat) (λk=>{ a4:=[(0,.val (.slice a n c)),(1,.val (.slice ch n c')),(12,.val (.int .i64 n)),(13,.val (.int .i64 k))],br:=I,bO:=M0 }) (λk=>k<=n/\l.take k=dy.take k) (λk=>n-k) ?_ ?_
 ·exact⟨0,⟨bQ _,rfl⟩,.refl,cI,.nil⟩
 rintro k⟨af,aq⟩;refine aB.mk (λab=>?_) (λab=>?_)
 ·have ax:k<n:=by have:(k:Int)<(n:Int):=cq ab;omega
  have bj:k<l.length:=by omega
  have gy:k<dy.length:=by omega
  obtain⟨ad,ba,a3⟩:=h.one ax bj;obtain⟨yt,Cc,q5⟩:=aG.one ax gy;have hex:=aoF bj gy aq;have bB:=aoG bj gy;generalize l[k]=x at a3 hex bB;generalize dy[k]=y at q5 hex bB;refine cr.draw aI rfl rfl rfl ?_;refine aW.mk ad k ba rfl ax ?_;refine aE.mk _ (a3 _) ?_;refine aW.mk yt k Cc rfl ax ?_;refine aE.mk _ (q5 _) ?_;by_cases e:x=y;·refine aB.mk (λh=>absurd h (by simp[e])) (λ_=>?_);refine aQ.mk _ (bl (i:=k) (by omega)) ?_;exact⟨k+1,⟨⟨ax,hex e⟩,by omega⟩,.refl,cI,.nil⟩
  ·refine aB.mk (λ_=>?_) (λh=>absurd h (by simp[e]));exact⟨_,_,.refl,by rw[dk (bB e)],rfl,rfl⟩
 ·have bS:k=n:=by have:¬ (k:Int)<(n:Int):=cR ab;omega
  subst bS;rw[dX (by omega),dX (by omega)]at aq;exact⟨_,_,.refl,by rw[eD aq],rfl,rfl⟩
def tm(x y:aH):Bool:=decide (x.k=y.k)&&((decide (x.cF=y.cF)&&(decide (x.s1=y.s1)&&(decide (x.s2=y.s2)&&decide (x.dt=y.dt))))&&(decide (x.t=y.t)&&(decide (x.lo=y.lo)&&(decide (x.hi=y.hi)&&decide (x.kids=y.kids)))))
def abW(x y:aH):tm x y=true ↔ x.k=y.k/\(x.cF=y.cF/\x.s1=y.s1/\x.s2=y.s2/\x.dt=y.dt)/\x.t=y.t/\x.lo=y.lo/\x.hi=y.hi/\x.kids=y.kids:=by simp only[tm,b',fk]
set_option maxRecDepth 100000 in
def aoI{x y:aH}(ae:x.ok I)(aA:y.ok I):Spec Tryz.prog 80 [x.val,y.val] I M0 λv I' M'=>v=.bool (tm x y)/\I'=I/\M'=M0:=by
 refine bn [] aI Tryz.func80 rfl rfl rfl ?_;intro B av;have aoJ:x.aZ<=x.ej/\x.aZ*8<=140737488355328:=ae.aJ.cap;have qd:=ae.aJ;have HT:=aA.aJ;obtain⟨k,cF,s1,s2,dt,t,lo,hi,eA,aZ,ej,kids⟩:=x;obtain⟨eQ,HN,HO,HP,HQ,bh,Bw,ck,tk,LC,tl,LD⟩:=y;simp only at qd HT aoJ;have no:∀ {P:Prop},(P->¬ (k=eQ/\((cF=HN/\s1=HO/\s2=HP/\dt=HQ)/\t=bh/\lo=Bw/\hi=ck/\kids=LD)))->P->Value.bool false=.bool (tm ⟨k,cF,s1,s2,dt,t,lo,hi,eA,aZ,ej,kids⟩ ⟨eQ,HN,HO,HP,HQ,bh,Bw,ck,tk,LC,tl,LD⟩):=λh p=>by
  cases ah:tm ⟨k,cF,s1,s2,dt,t,lo,hi,eA,aZ,ej,kids⟩ ⟨eQ,HN,HO,HP,HQ,bh,Bw,ck,tk,LC,tl,LD⟩with
  |false=>rfl| true=>exact absurd ((abW _ _).1 ah) (h p)
 by_cases a6:k=eQ
 rotate_left
 ·refine a9.mk (λaG=>absurd aG (by simp[a6])) (λ_=>?_);exact⟨_,_,.refl,no (λh ab=>h ab.1) a6,rfl,rfl⟩
 refine a9.mk (λ_=>?_) (λaG=>absurd aG (by simp[a6]));refine cx.IM aI (e:=57) rfl rfl rfl rfl (by kernel_rfl) ?_;by_cases bb:cF=HN/\s1=HO/\s2=HP/\dt=HQ
 rotate_left
 ·refine a9.mk (λaG=>absurd aG (by simpa using bb)) (λ_=>?_);exact⟨_,_,.refl,no (λh ab=>h ab.2.1) bb,rfl,rfl⟩
 refine a9.mk (λ_=>?_) (λaG=>absurd aG (by simp[bb]));by_cases b0:t=bh
 rotate_left
 ·refine a9.mk (λaG=>absurd aG (by simp[b0])) (λ_=>?_);exact⟨_,_,.refl,no (λh ab=>h ab.2.2.1) b0,rfl,rfl⟩
 refine a9.mk (λ_=>?_) (λaG=>absurd aG (by simp[b0]));by_cases fy:lo=Bw
 rotate_left
 ·refine a9.mk (λaG=>absurd aG (by simp[fy])) (λ_=>?_);exact⟨_,_,.refl,no (λh ab=>h ab.2.2.2.1) fy,rfl,rfl⟩
 refine a9.mk (λ_=>?_) (λaG=>absurd aG (by simp[fy]));by_cases kL:hi=ck
 rotate_left
 ·refine a9.mk (λaG=>absurd aG (by simp[kL])) (λ_=>?_);exact⟨_,_,.refl,no (λh ab=>h ab.2.2.2.2.1) kL,rfl,rfl⟩
 refine a9.mk (λ_=>?_) (λaG=>absurd aG (by simp[kL]));refine aU.whole _ (aoH qd HT (show aZ<=_ by omega)) ?_;rintro v J N -⟨rfl,bg,cH⟩;subst J;subst N;refine⟨_,_,.refl,?_,rfl,rfl⟩;obtain⟨c5,c7,dS,eP⟩:=bb;congr 1;rw[l7,abW,decide_eq_true_iff];exact⟨λh=>⟨a6,⟨c5,c7,dS,eP⟩,b0,fy,kL,h⟩,λh=>h.2.2.2.2.2⟩
def k4{α:Type}(q:α->α->Bool):List α->List α->Bool
 |[],[]=>true| a::l,b::m=>q a b&&k4 q l m| _,_=>false
def abX:∀ l m:List aH,k4 tm (l.map aH.a1) (m.map aH.a1)=k4 tm l m
 |[],[]=>rfl| [],_::_=>rfl| _::_,[]=>rfl| a::l,b::m=>by rw[cZ,cZ,k4,k4,abX l m];rfl
def R2{α:Type}(q:α->α->Bool):∀ l m:List α,l.length≠m.length->k4 q l m=false
 |[],[],h=>absurd rfl h| [],_::_,_=>rfl| _::_,[],_=>rfl| a::l,b::m,h=>by rw[k4,R2 q l m (by simpa using h),yT]
set_option maxRecDepth 100000 in
def aoK{s:bx}(ar:s.ok I)(aq:t.ok I):Spec Tryz.prog 78 [.slice s.a s.n s.c,.slice t.a t.n t.c,.func (.func 80) #[] #[]] I M0 λv I' M'=>v=.bool (k4 tm s.aa t.aa)/\I'=I/\M'=M0:=by
 refine bn [] aI Tryz.func78 rfl rfl rfl ?_;intro B av;have eG:=ar.n;have g7:=aq.n;have gk:=ar.aJ.cap;by_cases az:s.n=t.n
 rotate_left
 ·refine aB.mk (λ_=>?_) (λh=>absurd h (by simp;omega));exact⟨_,_,.refl,by rw[R2 _ _ _ (by omega)],rfl,rfl⟩
 refine aB.mk (λh=>absurd h (by simp[az])) (λ_=>?_);refine bu.inv (ι:=Nat) (λk=>{ a4:=[(1,.val (.slice t.a t.n t.c)),(2,.val (.func (.func 80) #[] #[])),(15,.val (.slice s.a s.n s.c)),(16,.val (.int .i64 s.n)),(17,.val (.int .i64 k))],br:=I,bO:=M0 }) (λk=>k<=s.n/\k4 tm s.aa t.aa=k4 tm (s.aa.drop k) (t.aa.drop k)) (λk=>s.n-k) ?_ ?_
 ·exact⟨0,⟨bQ _,rfl⟩,.refl,ec,.nil⟩
 rintro k⟨af,he⟩;refine aB.mk (λab=>?_) (λab=>?_)
 ·have ax:k<s.n:=by have:(k:Int)<(s.n:Int):=cq ab;omega
  have bj:k<s.aa.length:=by omega
  have gy:k<t.aa.length:=by omega
  obtain⟨ad,ba,a3⟩:=ar.aJ.row aH.bI ax bj;obtain⟨yt,Cc,q5⟩:=aq.aJ.row aH.bI (show k<t.n by omega) gy;have ae:=ar.aa _ (bJ bj);have aA:=aq.aa _ (bJ gy);rw[dv bj,dv gy,k4]at he;generalize s.aa[k]=x at a3 ae he;generalize t.aa[k]=y at q5 aA he;refine aW.mk ad k ba rfl ax ?_;refine aE.mk _ (a3 _) ?_;refine aW.mk yt k Cc rfl (by omega) ?_;refine aE.mk _ (q5 _) ?_;refine aU.whole _ (aoI ae aA) ?_;rintro v J N -⟨rfl,bg,cH⟩;subst J;subst N;cases e:tm x y with
  |true=>refine aB.mk (λh=>absurd h (by simp)) (λ_=>?_);refine aQ.mk _ (bl (i:=k) (by omega)) ?_;exact⟨k+1,⟨⟨ax,by rw[he,e,kj]⟩,by omega⟩,.refl,ec,.nil⟩| false=>refine aB.mk (λ_=>?_) (λh=>absurd h (by simp));exact⟨_,_,.refl,by rw[he,e,nr],rfl,rfl⟩
 ·have bS:k=s.n:=by have:¬ (k:Int)<(s.n:Int):=cR ab;omega
  subst bS;rw[iK (by omega),iK (by omega)]at he;exact⟨_,_,.refl,by rw[he];rfl,rfl,rfl⟩
def u2(a b:bx):Bool:=decide (a.n=b.n)&&(right a&&(right b&&k4 tm (mz a.aa a.root) (mz b.aa b.root)))
set_option maxRecDepth 100000 in
def aoL(bA:fr I deb){a b:bx}(aX:a.ok I)(ah:b.ok I)(az:a.n<=1099511627776):Spec Tryz.prog 52 [a.val,b.val] I M0 λv I' M'=>v=.bool (u2 a b)/\(∀ c o,I c=some o->I' c=some o)/\M'=M0:=by
 refine bn [] aI Tryz.func52 rfl rfl rfl ?_;intro B av;have rT:=aX.n;have sG:=ah.n;by_cases U:a.n=b.n
 rotate_left
 ·refine a9.mk (λaG=>absurd aG (by simp;omega)) (λ_=>?_);exact⟨_,_,.refl,by rw[u2,dk U,nr],λ_ _ h=>h,rfl⟩
 refine a9.mk (λ_=>?_) (λaG=>absurd aG (by simp[U]));refine aU.mk [] M0 _ (.refl _) (xk bA.c aX) ?_;rintro v J N -⟨rfl,bg,rfl⟩;subst J;cases ab:right a with
 |false=>refine a9.mk (λaG=>absurd aG (by simp)) (λ_=>?_);exact⟨_,_,.refl,by rw[u2,ab,nr,yT],λ_ _ h=>h,rfl⟩| true=>
 refine a9.mk (λ_=>?_) (λaG=>absurd aG (by simp));refine aU.mk [] M0 _ (.refl _) (xk bA.c ah) ?_;rintro v J N -⟨rfl,bg,rfl⟩;subst J;cases ak:right b with
 |false=>refine aB.mk (λ_=>?_) (λaG=>absurd aG (by simp));exact⟨_,_,.refl,by rw[u2,ak,nr,yT,yT],λ_ _ h=>h,rfl⟩| true=>
 refine aB.mk (λaG=>absurd aG (by simp)) (λ_=>?_);obtain⟨aoM,asd⟩:=lK ab;obtain⟨aoN,ase⟩:=lK ak;obtain⟨aoO,z2⟩:=en aoM;obtain⟨cA,jW⟩:=en aoN;have abY:=abV (M0:=M0) aX ab az (node:=aoO) (by omega);rw[<-z2]at abY;refine cr.draw aI rfl rfl rfl ?_;refine e7.whole _ abY (λv I' M' h x ae=>by rw[h.2.1];exact ae) ?_;rintro v J N -⟨bg,cH,FI,rfl,LF,aoP⟩;subst N;have abZ:=abV (M0:=M0) (ah.mono bg) ak (by omega) (node:=cA) (by omega);rw[<-jW]at abZ;refine e7.whole _ abZ (λv I' M' h x ae=>by rw[h.2.1];exact ae) ?_;rintro v iu N -⟨jt,cH,ae8,rfl,xt,aoQ⟩;subst N;refine aU.whole _ (aoK (LF.mono jt) xt) ?_;rintro v th N -⟨rfl,k2,cH⟩;subst th;subst N;refine⟨_,_,.refl,?_,λc o h=>jt _ _ (bg _ _ h),rfl⟩;rw[u2,eD U,ab,ak,<-aoP.a1,<-aoQ.a1,abX];rfl
def sm(d e:aK):Bool:=decide (d.name=e.name)&&u2 d.t e.t
def oD(g h:bP):Bool:=k4 sm g.ds h.ds
def aoR(a b:bx):u2 a.a1 b.a1=u2 a b:=by unfold u2;rw[zc,zc];have aF:mz a.a1.aa a.a1.root=mz a.aa a.root:=Wk a.aa a.root;have a7:mz b.a1.aa b.a1.root=mz b.aa b.root:=Wk b.aa b.root;rw[aF,a7];rfl
def ab0(g h:bP):oD g.a1 h.a1=oD g h:=by
 unfold oD;show k4 sm (g.ds.map aK.a1) (h.ds.map aK.a1)=_;have:∀ l m:List aK,k4 sm (l.map aK.a1) (m.map aK.a1)=k4 sm l m:=by
  intro l
  induction l with
  |nil=>intro m;cases m<;>rfl
  |cons a l a8=>
   intro m;cases m with
   |nil=>rfl| cons b m=>rw[cZ,cZ,k4,k4,a8];congr 1;unfold sm;have aF:u2 a.a1.t b.a1.t=u2 a.t b.t:=aoR a.t b.t;rw[aF];rfl
 exact this _ _
set_option maxRecDepth 100000 in
def aoS(bA:fr I deb){e:aK}(al:d.ok I)(he:e.ok I)(az:d.t.n<=1099511627776):Spec Tryz.prog 51 [.agg d.cells.toArray,.agg e.cells.toArray] I M0 λv I' M'=>v=.bool (sm d e)/\(∀ c o,I c=some o->I' c=some o)/\M'=M0:=by
 refine bn [] aI Tryz.func51 rfl rfl rfl ?_;intro B av;obtain⟨nm,t⟩:=d;obtain⟨aoT,bh⟩:=e;by_cases h:nm=aoT
 ·refine a9.mk (λ_=>?_) (λaG=>absurd aG (by simp[h]));refine aU.whole _ (aoL bA al.t he.t az) ?_;rintro v J N -⟨rfl,bg,cH⟩;subst N;exact⟨_,_,.refl,by rw[sm,eD h,kj],bg,rfl⟩
 ·refine a9.mk (λaG=>absurd aG (by simp[h])) (λ_=>?_);exact⟨_,_,.refl,by rw[sm,dk h,nr],λ_ _ h=>h,rfl⟩
set_option maxRecDepth 100000 in
def aoU(bA:fr I deb){s t:bP}(ar:s.ok I)(aq:t.ok I)(ah:∀ d∈s.ds,d.t.n<=1099511627776):Spec Tryz.prog 50 [.slice s.a s.n s.c,.slice t.a t.n t.c,.func (.func 51) #[] #[]] I M0 λv I' M'=>v=.bool (oD s t)/\(∀ c o,I c=some o->I' c=some o)/\M'=M0:=by
 refine bn [] aI Tryz.func50 rfl rfl rfl ?_;intro B av;have eG:=ar.n;have g7:=aq.n;have gk:=ar.aJ.cap;unfold oD;by_cases az:s.n=t.n
 rotate_left
 ·refine aB.mk (λ_=>?_) (λh=>absurd h (by simp;omega));exact⟨_,_,.refl,by rw[R2 _ _ _ (by omega)],λ_ _ h=>h,rfl⟩
 refine aB.mk (λh=>absurd h (by simp[az])) (λ_=>?_);refine bu.inv (ι:=Nat×aT) (λx=>{ a4:=[(1,.val (.slice t.a t.n t.c)),(2,.val (.func (.func 51) #[] #[])),(15,.val (.slice s.a s.n s.c)),(16,.val (.int .i64 s.n)),(17,.val (.int .i64 x.1))],br:=x.2,bO:=M0 }) (λx=>x.1<=s.n/\k4 sm s.ds t.ds=k4 sm (s.ds.drop x.1) (t.ds.drop x.1)/\∀ c o,I c=some o->x.2 c=some o) (λx=>s.n-x.1) ?_ ?_
 ·exact⟨(0,I),⟨bQ _,rfl,λ_ _ h=>h⟩,.refl,ec,.nil⟩
 rintro⟨k,J⟩⟨af,he,bg⟩;simp only at af he bg;refine aB.mk (λab=>?_) (λab=>?_)
 ·have ax:k<s.n:=by have:(k:Int)<(s.n:Int):=cq ab;omega
  have bj:k<s.ds.length:=by omega
  have gy:k<t.ds.length:=by omega
  obtain⟨ad,ba,a3⟩:=(ar.mono bg).aJ.row aK.bI ax bj;obtain⟨yt,Cc,q5⟩:=(aq.mono bg).aJ.row aK.bI (show k<t.n by omega) gy;have ae:=(ar.mono bg).ds _ (bJ bj);have aA:=(aq.mono bg).ds _ (bJ gy);have qw:=ah _ (bJ bj);rw[dv bj,dv gy,k4]at he;generalize s.ds[k]=x at a3 ae he qw;generalize t.ds[k]=y at q5 aA he;refine aW.mk ad k ba rfl ax ?_;refine aE.mk _ (a3 _) ?_;refine aW.mk yt k Cc rfl (by omega) ?_;refine aE.mk _ (q5 _) ?_;refine aU.whole _ (aoS (bA.mono bg) ae aA qw) ?_;rintro v iu N -⟨rfl,jt,cH⟩;subst N;cases e:sm x y with
  |true=>refine aB.mk (λh=>absurd h (by simp)) (λ_=>?_);refine aQ.mk _ (bl (i:=k) (by omega)) ?_;exact⟨(k+1,iu),⟨⟨ax,by simp only;rw[he,e,kj],λc o h=>jt _ _ (bg _ _ h)⟩,by simp only;omega⟩,.refl,ec,.nil⟩| false=>refine aB.mk (λ_=>?_) (λh=>absurd h (by simp));exact⟨_,_,.refl,by rw[he,e,nr],λc o h=>jt _ _ (bg _ _ h),rfl⟩
 ·have bS:k=s.n:=by have:¬ (k:Int)<(s.n:Int):=cR ab;omega
  subst bS;rw[iK (by omega),iK (by omega)]at he;exact⟨_,_,.refl,by rw[he];rfl,bg,rfl⟩
def ab1(bA:fr I deb){s t:bP}(ar:s.ok I)(aq:t.ok I)(ah:∀ d∈s.ds,d.t.n<=1099511627776):Spec Tryz.prog 33 [s.val,t.val] I M0 λv I' M'=>v=.bool (oD s t)/\(∀ c o,I c=some o->I' c=some o)/\M'=M0:=by refine bn [] aI Tryz.func33 rfl rfl rfl ?_;intro B av;refine aU.whole _ (aoU bA ar aq ah) ?_;rintro v J N -⟨rfl,bg,cH⟩;subst N;exact⟨_,_,.refl,rfl,bg,rfl⟩
def aoV(bA:fr I deb)(ao:g.ok I)(gW:∀ d∈g.ds,nc d.t)(s:e1):Spec Tryz.prog 12 [g.val,s.val] I M0 λv I' M'=>(∀ b o,I b=some o->I' b=some o)/\M'=M0/\∃ (r:Int×List aK) (h:bP),sk deb g s r/\v=.tuple #[h.val,.int .i64 r.1]/\h.ok I'/\h.a1=(pj r.2).a1:=by refine Spec.iM (Spec.frame (Spec.gE (RF bA ao gW s))) ?_;rintro v J M⟨M',rfl,-,bg,rfl,-,I',M1,⟨U,r,h,ag,rfl,cj,dJ⟩,bs⟩;exact⟨bg,rfl,r,h,ag,rfl,cj.gE bs,dJ⟩
def ab2(bA:fr I deb)(ao:g.ok I)(ae:qQ I x)(mD:x.n<=1000000):Spec Tryz.prog 34 [g.val,x.val] I M0 λv I' M'=>(∀ b o,I b=some o->I' b=some o)/\M'=M0/\∃ h:bP,v=.tuple #[h.val,.bool (g0 deb g x.l)]/\h.ok I'/\h.a1=(pj (nk deb g x.l)).a1:=by refine Spec.iM (Spec.frame (Spec.gE (anM bA ao ae mD))) ?_;rintro v J M⟨M',rfl,-,bg,rfl,-,I',M1,⟨U,h,rfl,cj,dJ⟩,bs⟩;exact⟨bg,rfl,h,rfl,cj.gE bs,dJ⟩
def Ex(deb:List Int)(g:bP):kt deb g.a1=kt deb g:=by unfold kt;rw[Ds,HJ];rfl
def aoW(deb:List Int)(g:bP)(i:Int):g9 deb g.a1 i=g9 deb g i:=by unfold g9;rw[Ds,HJ];rfl
def ab3(deb:List Int)(g:bP)(l:List Int):g0 deb g.a1 l=g0 deb g l:=by have e:∀ i,g9 deb g.a1 i=g9 deb g i:=aoW deb g;unfold g0;simp only[Ds,e];rfl
def Ey(cs:List hK)(F:List aM):Option Int:=if(B2 (gp cs).ds F).2=0 then(kt cG (gp cs)).head? else none
def Ez(cs:List hK)(F:List aM)(s:e1):Int×List aK:=if(B2 (gp cs).ds F).2=0 then(if wR s (kt cG (gp cs)).head? then(0,gq (hq (ei (gp cs)) 0) (gp cs).ds)else(47,[]))else((B2 (gp cs).ds F).2,[])
section
variable{I:aT}{cs:List hK}{F:List aM}(cb:El cs F){g:bP}(ao:g.ok I)(a5:oA cs g.ds)
include cb ao a5
def aoX(h:uX cG g o):o=Ey cs F:=by obtain⟨r,U,rfl⟩:=h;rw[Rs cb ao a5 U,Ey,<-zS a5 ao,Ex]
def aoY{s:e1}(h:sk cG g s r):r.1=(Ez cs F s).1/\r.2.map aK.a1=(Ez cs F s).2:=by
 obtain⟨x,U,rfl⟩:=h;have dJ:=zS a5 ao;rw[Rs cb ao a5 U,Ez,<-dJ,Ex,HJ];split
 ·split
  ·refine⟨rfl,?_⟩;show(gq _ g.ds).map aK.a1=gq _ (g.ds.map aK.a1);rw[z0]
  ·exact⟨rfl,rfl⟩
 ·exact⟨rfl,rfl⟩
end
def Cf(bA:fr I cG){k:IntKind}(u3:pi Et 31 s=some (cs,ca,k,e)):Spec Tryz.prog 18 [.string ⟨s.toArray⟩] I M0 λv I' M'=>(∀ b o,I b=some o->I' b=some o)/\M'=M0/\∃ g:bP,v=g.val/\g.ok I'/\oA cs g.ds:=by refine bn [] aI Tryz.func18 rfl rfl rfl ?_;intro B av;refine aU.mk [] M0 _ (.refl _) (amG bA u3) ?_;rintro v Cg N -⟨rfl,l5,g,rfl,ao,a5⟩;exact⟨_,_,.refl,l5,rfl,g,rfl,ao,a5⟩
def aoZ(bA:fr I cG)(cb:El cs F)(ao:g.ok I)(a5:oA cs g.ds)(he:(B2 (gp cs).ds F).2=e):Spec Tryz.prog 17 [g.val] I M0 λv I' M'=>v=.int .i64 e/\(∀ b o,I b=some o->I' b=some o)/\M'=M0:=by refine Spec.iM (RD bA ao (cb.of ao a5).2.2) ?_;rintro v J M⟨U,ab,r,rfl,ag⟩;exact⟨by rw[Rs cb ao a5 ag,he],U,ab⟩
def R3:Option Int->List Int
 |none=>[]| some r=>[1000+r*100]
set_option maxRecDepth 100000 in
def ao0(bA:fr I cG){k:IntKind}(u3:pi Et 31 s=some (cs,ca,k,e))(aC:zT cs F f=true)(aP:Ey cs F=o)(ah:∀ r,o=some r->0<=r/\r<1000) :
  Spec Tryz.prog 32 [.string ⟨s.toArray⟩] I M0 λv I' M'=>(∀ b o,I b=some o->I' b=some o)/\∃ os:aY,v=os.val/\os.ok 1 ((R3 o).map (.int .i64 ·))/\M'=os.aw 3++M0:=by
 have cb:=Rt aC;refine bn [] aI Tryz.func32 rfl rfl rfl ?_;intro B av;refine aU.whole _ (Cf bA u3) ?_;rintro v Cg N -⟨l5,cH,g,rfl,ao,a5⟩;subst N;have m4:=bA.mono l5;obtain⟨hm,bs,gW⟩:=cb.of ao a5;have h9:=BZ hm;refine aU.whole _ (abu m4 ao (by omega) gW) ?_;rintro v iu N -⟨jt,o',os,oM,bf,rfl,cH⟩;subst N;obtain rfl:o'=o:=(aoX cb ao a5 oM).trans aP;have hlen:=bf.len;rw[gd _ 5 e1.bI]at hlen;have bg:∀ b o,I b=some o->iu b=some o:=λb o h=>jt _ _ (l5 _ _ h);cases o' with
 |none=>
  have az:os.n=0:=by simp[jc]at hlen;omega
  refine bu.sF 1 ?_;refine aB.mk (λh=>absurd h (by simp[az])) (λ_=>?_);exact⟨_,_,.sub (e' _ _) .refl,bg,fs,rfl,fT 1,rfl⟩
 |some r=>
  have az:os.n=1:=by simp[jc]at hlen;omega
  obtain⟨g3,gI⟩:=ah r rfl;obtain⟨ad,ba,a3⟩:=aY.ok.row (I:=iu) (M:=os.aw 27++M0) (e:=27) e1.bI (by decide) bf (λz a2=>gM _ a2) (j:=0) (by simp[jc]);have a3:bq iu (os.aw 27++M0) (ad.add (0*5)) 5 [.int .u8 7,.int .u8 1,.int .i64 r,.slice none 0 0,.int .i64 0]:=a3;have ha:bq iu (os.aw 27++M0) ((ad.add (0*5)).add 1) 1 [.int .u8 1]:=a3.part (k:=1) (m:=1) (by decide);have gf:bq iu (os.aw 27++M0) ((ad.add (0*5)).add 2) 1 [.int .i64 r]:=a3.part (k:=2) (m:=1) (by decide);have h6:bq iu (os.aw 27++M0) ((ad.add (0*5)).add 3) 1 [.slice none 0 0]:=a3.part (k:=3) (m:=1) (by decide);have oh:bq iu (os.aw 27++M0) ((ad.add (0*5)).add 4) 1 [.int .i64 0]:=a3.part (k:=4) (m:=1) (by decide);refine bu.sF 2 ?_;refine aB.mk (λ_=>?_) (λh=>absurd h (by simp[az]));refine cr.draw aI rfl rfl rfl ?_;refine aW.mk ad 0 ba rfl (by omega) ?_;refine aE.mk _ ha ?_;refine aQ.mk 1 (by decide) ?_;refine aQ.mk 1000 (by decide) ?_;refine aW.mk ad 0 ba rfl (by omega) ?_;refine aE.mk _ gf ?_;refine aQ.mk (r*100) (ku rfl (by omega)) ?_;refine aQ.mk (1000+r*100) (ku rfl (by omega)) ?_;refine aW.mk ad 0 ba rfl (by omega) ?_;refine aE.mk _ h6 ?_;refine aQ.mk 0 (by decide) ?_;refine aQ.mk (1000+r*100) (ku (by omega) (by omega)) ?_;refine aW.mk ad 0 ba rfl (by omega) ?_;refine aE.mk _ oh ?_;refine aQ.mk (1000+r*100) (ku (by omega) (by omega)) ?_;refine bL.mk λb ah jJ=>?_;refine bk.nF aI rfl (by simp) (e:=3) rfl rfl rfl fs (fT 1) rfl (cs:=[.int .i64 (1000+r*100)]) rfl rfl rfl [] (os.aw 27++M0) rfl (by decide) (by decide) ?_;intro gL h8 ed eX;refine aQ.mk 1 (by decide) ?_;refine aB.mk (λh=>absurd h (by simp[az])) (λ_=>?_);exact⟨_,_,.sub (List.Sublist.append_left (e' _ _) (gL.aw 3)) .refl,bg,gL,rfl,eX,rfl⟩
def ab4(bA:fr I cG){k:IntKind}(u3:pi Et 31 s=some (cs,ca,k,e))(aC:zT cs F f=true)(aP:Ey cs F=o)(ah:∀ r,o=some r->0<=r/\r<1000)
 (hw:(o=none/\n=0)\/∃ r ad,o=some r/\n=1/\a=some ad/\∀ (J:aT) (M:List aD),(∀ z∈M0,z∈M)->bq J M (ad.add (0*1)) 1 [.int .i64 (1000+r*100)]) :
  Spec Tryz.prog 19 [.string ⟨s.toArray⟩,.slice a n c] I M0 λv I' M'=>v=.bool true/\(∀ b o,I b=some o->I' b=some o)/\M'=M0:=by
 refine bn [] aI Tryz.func19 rfl rfl rfl ?_;intro B av;refine aU.whole _ (ao0 bA u3 aC aP ah) ?_;rintro v J N -⟨bg,os,rfl,bf,cH⟩;subst N;have hlen:(R3 o).length=os.n:=by simpa using bf.len
 rcases hw with⟨rfl,rfl⟩ | ⟨r,ad,rfl,rfl,rfl,a3⟩
 ·have az:os.n=0:=hlen.symm;refine aB.mk (λh=>absurd h (by simp[az])) (λ_=>?_);refine bu.sF 1 ?_;refine aB.mk (λh=>absurd h (by simp[az])) (λ_=>?_);exact⟨_,_,.sub (e' _ _) .refl,rfl,bg,rfl⟩
 ·have az:os.n=1:=hlen.symm;obtain⟨vV,o5,Ca⟩:=aY.FR (I:=J) (M:=os.aw 3++M0) (e:=3) bf (λz a2=>gM _ a2) (j:=0) (by simp[R3]);have Ca:bq J (os.aw 3++M0) (vV.add (0*1)) 1 [.int .i64 (1000+r*100)]:=Ca;refine aB.mk (λh=>absurd h (by simp[az])) (λ_=>?_);refine bu.sF 2 ?_;refine aB.mk (λ_=>?_) (λh=>absurd h (by simp[az]));refine cr.draw aI rfl rfl rfl ?_;refine aW.mk vV 0 o5 rfl (by omega) ?_;refine aE.mk _ Ca ?_;refine aW.mk ad 0 rfl rfl (by omega) ?_;refine aE.mk _ (a3 J _ λz a2=>ly _ a2) ?_;refine aB.mk (λh=>absurd h (by simp)) (λ_=>?_);refine aQ.mk 1 (by decide) ?_;refine aB.mk (λh=>absurd h (by simp[az])) (λ_=>?_);exact⟨_,_,.sub (e' _ _) .refl,rfl,bg,rfl⟩
set_option maxRecDepth 100000 in
def ao1(bA:fr I cG){k:IntKind}(u3:pi Et 31 s=some (cs,ca,k,e))(q4:pi abC 31 want=some (Eu,abB,eQ,c0))(aC:zT cs F f=true)
  {way rule at_:Int} {pa:Option Addr} {pn pc:Nat} (al:Ez cs F ⟨7,way,rule,pa,pn,pc,[],at_⟩=(0,ds)) (R4:oD (pj ds) (gp Eu)=true) (g2:0<ds.length) (uY:(ds.all λd=>decide (d.t.n<=1000000))=true) :
  Spec Tryz.prog 20 [.string ⟨s.toArray⟩,.int .u8 way,.int .i64 rule,.slice pa pn pc,.int .i64 at_,.string ⟨want.toArray⟩] I [] λv I' M'=>v=.bool true/\(∀ b o,I b=some o->I' b=some o)/\M'=[]:=by
 have cb:=Rt aC;refine bn [] aI Tryz.func20 rfl rfl rfl ?_;intro B av;refine aU.whole _ (Cf bA u3) ?_;rintro v Cg N -⟨l5,cH,g,rfl,ao,a5⟩;subst N;have m4:=bA.mono l5;obtain⟨hm,bs,gW⟩:=cb.of ao a5;refine aU.whole _ (aoV m4 ao gW ⟨7,way,rule,pa,pn,pc,[],at_⟩) ?_;rintro v iu N -⟨jt,cH,r,h,ag,rfl,cj,dJ⟩;subst N;obtain⟨c5,c7⟩:=aoY cb ao a5 ag;rw[al]at c5 c7;obtain⟨ha,gf⟩:=r;simp only at c5 c7 dJ;subst c5;have kO:=m4.mono jt;have u0:=cj.n;have e0:h.ds.map aK.a1=ds:=(congrArg bP.ds dJ).trans c7;have ay:h.ds.length=ds.length:=by rw[<-e0,cT]
 have R5:∀ d∈h.ds,d.t.n<=1099511627776:=λd al=>by
  have U:d.a1∈ds:=by rw[<-e0];exact dB.2 ⟨d,al,rfl⟩
  have ab:=cq (et.1 uY _ U);have ak:d.a1.t.n=d.t.n:=rfl;omega
 refine cr.draw aI rfl rfl rfl ?_;refine a9.mk (λ_=>?_) (λh=>absurd h (by simp));refine a9.mk (λ_=>?_) (λh=>absurd h (by simp;omega));refine e7.whole _ (Cf kO q4) (λv I' M' h x ae=>by rw[h.2.1];exact ae) ?_;rintro v th N -⟨k2,cH,w,rfl,hw,R6⟩;subst N;refine aU.whole _ (ab1 (kO.mono k2) (cj.mono k2) hw R5) ?_;rintro v oE N -⟨rfl,tn,cH⟩;subst N;refine⟨_,_,.refl,?_,λb o h=>tn _ _ (k2 _ _ (jt _ _ (l5 _ _ h))),rfl⟩;have aF:oD h w=oD (pj ds) (gp Eu):=by rw[<-ab0 h w,zS R6 hw];unfold oD;show k4 sm (h.ds.map aK.a1) _=_;rw[e0];rfl
 rw[aF,R4]
set_option maxRecDepth 100000 in
def ab5(bA:fr I cG){k:IntKind}(u3:pi Et 31 s=some (cs,ca,k,e))(q4:pi abC 31 want=some (Eu,abB,eQ,c0))(Jp:(⟨want.toArray⟩:ByteArray)≠⟨#[]⟩)
 (ae:qQ I x) (fU:x.n<=1000000) (ny:g0 cG (gp cs) x.l=true) (al:gq ((ey x.l).take (gp cs).n) (gp cs).ds=ds) (R4:oD (pj ds) (gp Eu)=true) (uY:(ds.all λd=>decide (d.t.n<=1000000))=true) :
  Spec Tryz.prog 21 [.string ⟨s.toArray⟩,.string ⟨want.toArray⟩,x.val] I M0 λv I' M'=>v=.bool true/\(∀ b o,I b=some o->I' b=some o)/\M'=M0:=by
 refine bn [] aI Tryz.func21 rfl rfl rfl ?_;intro B av;refine aU.whole _ (Cf bA u3) ?_;rintro v Cg N -⟨l5,cH,g,rfl,ao,a5⟩;subst N;have m4:=bA.mono l5;have ab6:=zS a5 ao;rw[<-ab6,ab3]at ny;have mu:(gq ((ey x.l).take g.n) g.ds).map aK.a1=ds:=by rw[<-ab6]at al;rw[<-al,<-z0];rfl
 refine aU.whole _ (ab2 m4 ao (ae.mono l5) fU) ?_;rintro v iu N -⟨jt,cH,h,rfl,cj,dJ⟩;subst N;rw[ny];have ao2:h.a1=(pj (gq ((ey x.l).take g.n) g.ds)).a1:=by rw[dJ,nk,ny,cw rfl]
 have kO:=m4.mono jt;have e0:h.ds.map aK.a1=ds:=(congrArg bP.ds ao2).trans mu;have R5:∀ d∈h.ds,d.t.n<=1099511627776:=λd al=>by
  have U:d.a1∈ds:=by rw[<-e0];exact dB.2 ⟨d,al,rfl⟩
  have ab:=cq (et.1 uY _ U);have ak:d.a1.t.n=d.t.n:=rfl;omega
 refine aB.mk (λh=>absurd (cq h) Jp) (λ_=>?_);refine cr.draw aI rfl rfl rfl ?_;refine a9.mk (λ_=>?_) (λh=>absurd h (by simp));refine e7.whole _ (Cf kO q4) (λv I' M' h x ae=>by rw[h.2.1];exact ae) ?_;rintro v th N -⟨k2,cH,w,rfl,hw,R6⟩;subst N;refine aU.whole _ (ab1 (kO.mono k2) (cj.mono k2) hw R5) ?_;rintro v oE N -⟨rfl,tn,cH⟩;subst N;refine⟨_,_,.refl,?_,λb o h=>tn _ _ (k2 _ _ (jt _ _ (l5 _ _ h))),rfl⟩;have aF:oD h w=oD (pj ds) (gp Eu):=by rw[<-ab0 h w,zS R6 hw];unfold oD;show k4 sm (h.ds.map aK.a1) _=_;rw[e0];rfl
 rw[aF,R4]
def ao3(bA:fr I cG){k:IntKind}(u3:pi Et 31 s=some (cs,ca,k,e))
 (ae:qQ I x) (fU:x.n<=1000000) (ny:g0 cG (gp cs) x.l=false) :
  Spec Tryz.prog 21 [.string ⟨s.toArray⟩,.string ⟨#[]⟩,x.val] I M0 λv I' M'=>v=.bool true/\(∀ b o,I b=some o->I' b=some o)/\M'=M0:=by
 refine bn [] aI Tryz.func21 rfl rfl rfl ?_;intro B av;refine aU.whole _ (Cf bA u3) ?_;rintro v Cg N -⟨l5,cH,g,rfl,ao,a5⟩;subst N;have m4:=bA.mono l5;rw[<-zS a5 ao,ab3]at ny;refine aU.whole _ (ab2 m4 ao (ae.mono l5) fU) ?_;rintro v iu N -⟨jt,cH,h,rfl,cj,dJ⟩;subst N;rw[ny];have az:h.n=0:=by have:=congrArg bP.n dJ;rw[nk,ny]at this;exact this
 refine aB.mk (λ_=>?_) (λh=>absurd h (by simp));refine a9.mk (λ_=>?_) (λh=>absurd h (by simp));refine⟨_,_,.refl,?_,λb o h=>jt _ _ (l5 _ _ h),rfl⟩;rw[az];rfl
def HW:List hK:=[⟨[97],⟨[⟨2,0,0,0,0,[120],0,0,[]⟩],0⟩⟩,⟨[98],⟨[⟨3,0,0,0,0,[99],0,0,[]⟩],0⟩⟩,⟨[99],⟨[⟨3,0,0,0,0,[98],0,0,[]⟩,⟨2,0,0,0,0,[121],0,0,[]⟩,⟨4,0,0,0,0,[],0,0,[0,1]⟩,⟨0,0,0,0,0,[],0,0,[]⟩,⟨5,0,0,0,0,[],0,0,[2,3]⟩],4⟩⟩]
def ao4:pi 100000 31 [97,32,60,45,32,34,120,34,32,98,32,60,45,32,99,32,99,32,60,45,32,98,32,34,121,34,32,47,32,34,34]=some (HW,0,.i64,0):=by kernel_rfl
def yf:List hK:=[⟨[97],⟨[⟨2,0,0,0,0,[120],0,0,[]⟩],0⟩⟩,⟨[98],⟨[⟨2,0,0,0,0,[121],0,0,[]⟩,⟨3,0,0,0,0,[99],0,0,[]⟩,⟨4,0,0,0,0,[],0,0,[0,1]⟩],2⟩⟩,⟨[99],⟨[⟨2,0,0,0,0,[122],0,0,[]⟩,⟨3,0,0,0,0,[98],0,0,[]⟩,⟨4,0,0,0,0,[],0,0,[0,1]⟩,⟨0,0,0,0,0,[],0,0,[]⟩,⟨5,0,0,0,0,[],0,0,[2,3]⟩],4⟩⟩]
def ab7:pi 100000 31 [97,32,60,45,32,34,120,34,32,98,32,60,45,32,34,121,34,32,99,32,99,32,60,45,32,34,122,34,32,98,32,47,32,34,34]=some (yf,0,.i64,0):=by kernel_rfl
def ab8:List hK:=[⟨[97],⟨[⟨2,0,0,0,0,[120],0,0,[]⟩],0⟩⟩]
def ao5:pi 100000 31 [97,32,60,45,32,34,120,34]=some (ab8,0,.i64,0):=by kernel_rfl
def HX:List hK:=[⟨[97],⟨[⟨3,0,0,0,0,[98],0,0,[]⟩],0⟩⟩,⟨[98],⟨[⟨0,0,0,0,0,[],0,0,[]⟩],0⟩⟩]
def ao6:pi 100000 31 [97,32,60,45,32,98,32,98,32,60,45,32,34,34]=some (HX,0,.i64,0):=by kernel_rfl
def yg:List hK:=[⟨[97],⟨[⟨3,0,0,0,0,[98],0,0,[]⟩],0⟩⟩,⟨[98],⟨[⟨2,0,0,0,0,[120],0,0,[]⟩],0⟩⟩,⟨[99],⟨[⟨3,0,0,0,0,[97],0,0,[]⟩],0⟩⟩]
def LG:pi 100000 31 [97,32,60,45,32,98,32,98,32,60,45,32,34,120,34,32,99,32,60,45,32,97]=some (yg,0,.i64,0):=by kernel_rfl
def ab9:List hK:=[⟨[97],⟨[⟨3,0,0,0,0,[98],0,0,[]⟩],0⟩⟩,⟨[98],⟨[⟨2,0,0,0,0,[120],0,0,[]⟩],0⟩⟩]
def ao7:pi 100000 31 [97,32,60,45,32,98,32,98,32,60,45,32,34,120,34]=some (ab9,0,.i64,0):=by kernel_rfl
def ao8:(⟨([97,32,60,45,32,98,32,98,32,60,45,32,34,120,34,32,99,32,60,45,32,97]:List UInt8).toArray⟩:ByteArray)≠⟨#[]⟩:=by decide
def ao9:(⟨([97,32,60,45,32,98,32,98,32,60,45,32,34,120,34]:List UInt8).toArray⟩:ByteArray)≠⟨#[]⟩:=by decide
def apa:zT HW (wM HW 5) 5=true:=by kernel_rfl
def aca:zT yf (wM yf 5) 5=true:=by kernel_rfl
def apb:zT HX (wM HX 5) 5=true:=by kernel_rfl
def apc:(B2 (gp HW).ds (wM HW 5)).2=42:=by kernel_rfl
def apd:Ey yf (wM yf 5)=some 1:=by kernel_rfl
def ape:Ey HX (wM HX 5)=none:=by kernel_rfl
def LH:List aK:=(Ez yf (wM yf 5) ⟨7,1,1,none,0,0,[],0⟩).2
def apf:Ez yf (wM yf 5) ⟨7,1,1,none,0,0,[],0⟩=(0,LH):=by kernel_rfl
def apg:oD (pj LH) (gp ab8)=true:=by kernel_rfl
def aph:LH.length=1:=by kernel_rfl
def api:(LH.all λd=>decide (d.t.n<=1000000))=true:=by kernel_rfl
def apj:g0 cG (gp yg) [0,1]=true:=by kernel_rfl
def R7:List aK:=gq ((ey [0,1]).take (gp yg).n) (gp yg).ds
def apk:oD (pj R7) (gp ab9)=true:=by kernel_rfl
def apl:(R7.all λd=>decide (d.t.n<=1000000))=true:=by kernel_rfl
def apm:g0 cG (gp yg) [0]=false:=by kernel_rfl
def apn:g0 cG (gp yg) [2,0,1]=true:=by kernel_rfl
def R8:List aK:=gq ((ey [2,0,1]).take (gp yg).n) (gp yg).ds
def apo:oD (pj R8) (gp yg)=true:=by kernel_rfl
def apq:(R8.all λd=>decide (d.t.n<=1000000))=true:=by kernel_rfl
def R9(ah:I b=none)(ay:∀ k∈l,iY k)(az:l.length<=1000000):qQ (ins I b (.cells (l.map (.int .i64 ·)).toArray 3 (0,0))) ⟨some ⟨b,0,none⟩,l.length,l.length,l⟩:=
 ⟨⟨by simp,⟨b2 _,(by omega:l.length*0<=_)⟩,.inr ⟨⟨b,0,none⟩,rfl,rfl,_,_,_,tP ..,by simp only[qC];exact dX (by simp)⟩⟩,ay⟩
set_option maxRecDepth 100000 in
def R'(bA:fr I cG):Spec Tryz.prog 5 [] I [] λv J mj=>v=.bool true/\(∀ b o,I b=some o->J b=some o)/\mj=[]:=by
 refine bn [] aI Tryz.func5 rfl rfl rfl ?_;intro B av;refine aU.whole _ (Cf bA ao4) ?_;rintro v bR N -⟨bK,cH,g,rfl,ao,a5⟩;subst N;have m4:=bA.mono bK;refine aU.whole _ (aoZ m4 (Rt apa) ao a5 apc) ?_;rintro v dG N -⟨rfl,ed,cH⟩;subst N;have kO:=m4.mono ed;refine a9.mk (λ_=>?_) (λh=>absurd h (by simp));refine bL.mk λb1 jG acb=>?_;refine aU.whole _ (ab4 kO ab7 aca (o:=some 1) apd (λr h=>by cases h;decide) (.inr ⟨1,⟨b1,0,none⟩,rfl,rfl,rfl,λJ M aV=>⟨rfl,_,_,_,.inr ⟨_,aV _ (.head _),rfl,rfl⟩,rfl,rfl⟩⟩)) ?_;rintro v gJ N -⟨rfl,iC,cH⟩;subst N;have acd:=kO.mono iC;refine a9.mk (λ_=>?_) (λh=>by cases h);refine aU.mk [] [_] _ (.refl _) (ao1 acd ab7 ao5 aca (way:=1) (rule:=1) (at_:=0) (pa:=none) (pn:=0) (pc:=0) apf apg (by rw[aph];decide) api) ?_;rintro v qF N -⟨rfl,RG,rfl⟩;have ace:=acd.mono RG;refine a9.mk (λ_=>?_) (λh=>by cases h);refine aU.whole _ (ab4 ace ao6 apb (o:=none) ape (λr h=>by cases h) (.inl ⟨rfl,rfl⟩)) ?_;rintro v yW N -⟨rfl,acf,cH⟩;subst N;have acg:=ace.mono acf;refine a9.mk (λ_=>?_) (λh=>by cases h);refine bL.mk λiH Sa asf=>?_;have apr:=ab5 (M0:=[⟨b1,.cells #[.int .i64 1100] 3 (0,0)⟩]) (acg.mono (nx Sa)) LG ao7 ao9 (R9 (l:=[0,1]) Sa (by simp[iY]) (by decide)) (b9 rfl) (ds:=R7) apj rfl apk apl;refine aU.EK (ins yW iH (.cells (List.map (λk:Int=>Value.int IntKind.i64 k) [0,1]).toArray 3 (0,0))) [⟨b1,.cells #[.int .i64 1100] 3 (0,0)⟩] [] _ (.pt (b:=iH) (o:=.cells (List.map (λk:Int=>Value.int IntKind.i64 k) [0,1]).toArray 3 (0,0)) (post:=[⟨b1,.cells #[.int .i64 1100] 3 (0,0)⟩]) rfl (by simp) .refl) apr ?_;rintro v C2 N - -⟨rfl,LI,rfl⟩;have LI:∀ b o,yW b=some o->C2 b=some o:=λb o h=>LI _ _ (nx Sa _ _ h);have ach:=acg.mono LI;refine a9.mk (λ_=>?_) (λh=>by cases h);refine bL.mk λc6 Sb asg=>?_;have aps:=ao3 (M0:=[⟨b1,.cells #[.int .i64 1100] 3 (0,0)⟩]) (ach.mono (nx Sb)) LG (R9 (l:=[0]) Sb (by simp[iY]) (by decide)) (b9 rfl) apm
 refine aU.EK (ins C2 c6 (.cells (List.map (λk:Int=>Value.int IntKind.i64 k) [0]).toArray 3 (0,0))) [⟨b1,.cells #[.int .i64 1100] 3 (0,0)⟩] [] _ (.pt (b:=c6) (o:=.cells (List.map (λk:Int=>Value.int IntKind.i64 k) [0]).toArray 3 (0,0)) (post:=[⟨b1,.cells #[.int .i64 1100] 3 (0,0)⟩]) rfl (by simp) .refl) aps ?_;rintro v xr N - -⟨rfl,LJ,rfl⟩;have LJ:∀ b o,C2 b=some o->xr b=some o:=λb o h=>LJ _ _ (nx Sb _ _ h);have aci:=ach.mono LJ;refine a9.mk (λ_=>?_) (λh=>by cases h);refine bL.mk λdg Sc ash=>?_;have RR:=ab5 (M0:=[⟨b1,.cells #[.int .i64 1100] 3 (0,0)⟩]) (aci.mono (nx Sc)) LG LG ao8 (R9 (l:=[2,0,1]) Sc (by simp[iY]) (by decide)) (b9 rfl) (ds:=R8) apn rfl apo apq;refine aU.EK (ins xr dg (.cells (List.map (λk:Int=>Value.int IntKind.i64 k) [2,0,1]).toArray 3 (0,0))) [⟨b1,.cells #[.int .i64 1100] 3 (0,0)⟩] [] _ (.pt (b:=dg) (o:=.cells (List.map (λk:Int=>Value.int IntKind.i64 k) [2,0,1]).toArray 3 (0,0)) (post:=[⟨b1,.cells #[.int .i64 1100] 3 (0,0)⟩]) rfl (by simp) .refl) RR ?_;rintro v I9 N - -⟨rfl,LK,rfl⟩;have LK:∀ b o,xr b=some o->I9 b=some o:=λb o h=>LK _ _ (nx Sc _ _ h);have asi:=aci.mono LK;exact⟨_,_,.sub (cW _) .refl,rfl,λb o h=>LK _ _ (LJ _ _ (LI _ _ (acf _ _ (RG _ _ (iC _ _ (ed _ _ (bK _ _ h))))))),rfl⟩
section
variable{deb:List Int}{g:bP}(az:g.ds.length=g.n)(hm:cn deb g=0)
include az hm
end
def bq.up{a:Addr}{vs:List Value}(h:bq I M a n vs)(cg:∀ b o,I b=some o->J b=some o):bq J M a n vs:=by obtain⟨U,cs,T,an,ab,ak⟩:=h;exact⟨U,cs,T,an,ab.imp (cg _ _) id,ak⟩
section
variable{deb:List Int}{g:bP}(az:g.ds.length=g.n)
include az
end
def apt(deb:List Int)(g:bP)(l:List Int):(nk deb g l).length<=g.ds.length:=by
 unfold nk;split
 ·exact(wQ _ _).length_le
 ·exact bQ _
def apu(h:d∈nk deb g l):d∈g.ds:=by
 unfold nk at h;split at h
 ·exact(wQ _ _).subset h
 ·cases h
def apv(ao:g.ok I)(au:ls g)(ae:qQ I x)(mD:x.n<=1000000):Spec Tryz.prog 26 [g.val,x.val] I M0 λv I' M'=>(∀ b o,I b=some o->I' b=some o)/\M'=M0/\∃ (a:bP) (Dh:Bool),v=.tuple #[a.val,.bool Dh]/\Dh=g0 cG g x.l/\a.ok I'/\a.ds=nk cG g x.l:=by refine Spec.iM (Spec.frame (Spec.gE (an7 ao au ae mD))) ?_;rintro v J M⟨M',rfl,-,bg,rfl,-,I',M1,⟨U,os,rfl,bf,rfl⟩,bs⟩;subst I';have cK:=ao.n;have gk:=ao.aJ.cap;have ay:=bf.len;rw[gd _ 3 aK.bI]at ay;have bj:=apt cG g x.l;exact⟨bg,rfl,⟨nk cG g x.l,os.a.map λg=>⟨g,0,none⟩,os.n,os.c⟩,_,rfl,rfl,⟨aY.gE bs bf (λ_ h=>h) (by omega),λd al=>(ao.ds d (apu al)).mono bg⟩,rfl⟩
def yh(n b:Nat):Value:=.slice (some ⟨b,0,none⟩) n n
def rk(n:Nat)(bd:List Nat):List Value:=bd.map (yh n)++List.replicate (n-bd.length) (.slice none 0 0)
def iL(dO n:Nat)(bd:List Nat):aD:=⟨dO,.cells (rk n bd).toArray 76 (0,0)⟩
def fF(bd:List Nat)(R:List (List Bool)):List aD:=List.zipWith hQ bd R
def HY(aV:iL dO n bd∈M){i:Nat}(hi:i<bd.length):bq I M ((⟨dO,0,none⟩:Addr).add (i*1)) 1 [yh n bd[i]]:=by
 have ay:i<(rk n bd).length:=by simp[rk];omega
 have h:=dj (I:=I) (cs:=rk n bd) (k:=i*1) (n:=1) aV (by omega);have e:((rk n bd).drop (i*1)).take 1=[yh n bd[i]]:=by rw[fh,dv ay,nq,mi];simp[rk,hi]
 rwa [e]at h
def Sd{i:Nat}(hi:i<bd.length)(ag:i<R.length):hQ bd[i] R[i]∈fF bd R:=by rw[fF,List.mem_iff_getElem];exact⟨i,by simp;omega,by simp⟩
def apw{i:Nat}(hi:i<bd.length)(ag:i<R.length):fF bd R=(fF bd R).take i++hQ bd[i] R[i]::(fF bd R).drop (i+1):=by
 have ay:i<(fF bd R).length:=by simp[fF];omega
 have e:(fF bd R)[i]=hQ bd[i] R[i]:=by simp[fF]
 rw[<-e,<-dv ay,rB]
def apx{i:Nat}(hi:i<bd.length)(ag:i<R.length)(r:List Bool):fF bd (R.set i r)=(fF bd R).take i++hQ bd[i] r::(fF bd R).drop (i+1):=by
 have ay:i<(fF bd R).length:=by simp[fF];omega
 have e:fF bd (R.set i r)=(fF bd R).set i (hQ bd[i] r):=by
  apply rE;·simp[fF]
  ·intro j U ab;simp only[fF,List.getElem_zipWith,IF];split
   ·rename_i h;subst h;rfl
   ·rfl
 rw[e,Aq,cw ay]
def HZ(h:sh n R){i k:Nat}(hi:i<R.length)(af:k<R[i].length):R[i][k]=dY R i k:=by simp[dY,bV,hi,af]
def acj:∀ (L:List aD) (I:aT),(∀ x∈L,I x.num=none)->(L.map (·.num)).Nodup->∃ I',hk [] I L I' []/\(∀ b o,I b=some o->I' b=some o)/\∀ x∈L,I' x.num=some x.obj
 |[],I,_,_=>⟨I,.refl,λ_ _ h=>h,λx ae=>by cases ae⟩
 |x::xs,I,h,al=>by
  obtain⟨gU,mu⟩:=nR.1 al;have ae:=h x (by simp);have hle:=nx (o:=x.obj) ae;obtain⟨I',f',hC,iX⟩:=acj xs (ins I x.num x.obj) (λy aA=>by
   have bB:y.num≠x.num:=λe=>gU (dB.2 ⟨y,aA,e⟩);unfold ins;rw[hx bB];exact h y (by simp[aA])) mu
  refine⟨I',.pt (b:=x.num) (o:=x.obj) (post:=xs) rfl (by simp) f',λb o ah=>hC _ _ (hle _ _ ah),λy aA=>?_⟩;rcases ea.1 aA with rfl | aA;·exact hC _ _ (tP ..)
  ·exact iX y aA
def apy(az:n<=1099511627776)(ah:bd.length=n)(a5:sh n R)(gO:rp I (iL dO n bd::fF bd R)) :
  ∃ I' x,hk [] I (iL dO n bd::fF bd R) I' []/\(∀ b o,I b=some o->I' b=some o)/\vH.ok I' x/\x.val=.slice (some ⟨dO,0,none⟩) n n/\x.rows.map (·.l)=R:=by
 obtain⟨I',f',hC,iX⟩:=acj _ I gO.d gO.bE;have av:=iX (iL dO n bd) (by simp);refine⟨I',⟨List.zipWith (λb r=>⟨some ⟨b,0,none⟩,n,n,r⟩) bd R,some ⟨dO,0,none⟩,n,n⟩,f',hC,⟨⟨by simp[ah,a5.len],⟨b2 _,by simp only;omega⟩,.inr ⟨_,rfl,rfl,_,_,_,av,?_⟩⟩,λr ag=>?_⟩,rfl,?_⟩
 ·have e:rk n bd=bd.map (yh n):=by simp[rk,ah]
  have a7:(List.zipWith (λb r=>(⟨some ⟨b,0,none⟩,n,n,r⟩:pV)) bd R).map pV.val=bd.map (yh n):=by
   apply rE;·simp[ah,a5.len]
   ·intro j U ab;simp[pV.val,yh]
  rw[a7];simp only[qC];rw[e];exact dX (by simp[ah])
 ·obtain⟨i,hi,rfl⟩:=List.mem_iff_getElem.1 ag;simp only[List.length_zipWith]at hi;have pk:i<bd.length:=by omega
  have qk:i<R.length:=by omega
  have lS:=iX (hQ bd[i] R[i]) (lV _ (Sd pk qk));have dp:=a5.row i qk;simp only[List.getElem_zipWith];refine⟨⟨by simp[dp],⟨b2 _,by simp only;omega⟩,.inr ⟨_,rfl,rfl,_,_,_,lS,?_⟩⟩⟩;simp only[qC];exact dX (by simp[dp])
 ·apply rE
  ·simp[ah,a5.len]
  ·intro j U ab;simp
def lx(g:bP)(n i:Nat):List Bool:=(List.range n).map λk=>sg g i k
def sp(g:bP)(n i k:Nat):List Bool:=(lx g n i).take k++List.replicate (n-k) false
def apz{i k:Nat}(af:k<=n):(sp g n i k).length=n:=by simp[sp,lx];omega
def apA{i k:Nat}(af:k<n):(sp g n i k).set k (sg g i k)=sp g n i (k+1):=by
 have ay:(lx g n i).length=n:=by simp[lx]
 have U:List.replicate (n-k) false=false::List.replicate (n-(k+1)) false:=by rw[show n-k=(n-(k+1))+1 by omega,AO]
 unfold sp;rw[U,Da _ _ (by simp[ay];omega),rO (by omega),pZ,Dd,er (by omega),fx];simp[lx]
def apB{i:Nat}:sp g n i n=lx g n i:=by simp[sp,lx];exact dX (by simp)
set_option maxRecDepth 100000 in
def apC(ao:g.ok I)(az:g.n<=1000000):Spec Tryz.prog 37 [g.val] I [] λv I' M'=>(∀ b o,I b=some o->I' b=some o)/\M'=[]/\∃ x:vH,v=x.val/\x.ok I'/\x.n=g.n/\yb g g.n (x.rows.map (·.l)):=by
 refine Is [] aI Tryz.func37 rfl rfl rfl ?_;intro B av;have cK:=ao.n;obtain⟨n,asj⟩:∃ n,n=g.n:=⟨_,rfl⟩;refine mO.mk g.n g.n rfl rfl (b2 _) (by show 24*g.n<=_;omega) (by omega) ?_;refine bL.mk λdO sQ alV=>?_;refine bu.inv (ι:=Nat×List Nat) (λx=>{ a4:=[(1,.ref 1 0),(3,.val (.int .i64 g.n)),(4,.val (.slice (some ⟨dO,0,none⟩) g.n g.n)),(5,.val (.int .i64 x.1))],cl:=[(1,[.slice g.a g.n g.c])],br:=I,bO:=iL dO g.n x.2::fF x.2 ((List.range x.1).map (lx g g.n)) }) (λx=>x.1<=g.n/\x.2.length=x.1) (λx=>g.n-x.1) ?_ ?_
 ·refine⟨(0,[]),⟨bQ _,rfl⟩,?_,cI,.cons rfl .nil⟩;refine hk.lW ?_;simp only[iL,rk,fF,jj,hO,dI,A5,List.zipWith_nil_left];rw[tJ,fh]
 rintro⟨i,bd⟩⟨hi,nw⟩;simp only at hi nw;refine aB.mk (λh=>?_) (λh=>?_)
 ·have ax:i<g.n:=by simpa using h
  refine mO.mk g.n g.n rfl rfl (b2 _) (by show 1*g.n<=_;omega) (by omega) ?_;refine bL.mk λb ah jJ=>?_;refine aW.mk ⟨dO,0,none⟩ i rfl rfl ax ?_;refine cu.kN [⟨b,.cells (rowOf [.bool false] (g.n*1)).toArray 4 (0,0)⟩] (fF bd ((List.range i).map (lx g g.n))) (rk g.n bd) 76 rfl ?_ rfl (rk g.n (bd++[b])) ?_ ?_
  ·have:(rk g.n bd).length=g.n:=by simp[rk];omega
   rw[this];exact xO (by show 0+i*1+1<=_;omega)
  ·have yY:List.replicate (g.n-bd.length) (Value.slice none 0 0)=.slice none 0 0::List.replicate (g.n-(bd++[b]).length) (.slice none 0 0):=by rw[show g.n-bd.length=(g.n-(bd++[b]).length)+1 from by simp;omega,AO]
   have e:=UN (pre:=bd.map (yh g.n)) (post:=List.replicate (g.n-(bd++[b]).length) (.slice none 0 0)) (z:=.slice none 0 0) (v:=yh g.n b) (k:=0+i*1) (by simp[nw]);unfold rk;rw[yY,eL,fx];exact e
  refine bu.inv (ι:=Nat) (λk=>{ a4:=[(1,.ref 1 0),(3,.val (.int .i64 g.n)),(4,.val (.slice (some ⟨dO,0,none⟩) g.n g.n)),(5,.val (.int .i64 i)),(6,.val (.int .i64 k))],cl:=[(1,[.slice g.a g.n g.c])],br:=I,bO:=hQ b (sp g g.n i k)::iL dO g.n (bd++[b])::fF bd ((List.range i).map (lx g g.n)) }) (λk=>k<=g.n) (λk=>g.n-k) ?_ ?_;·refine⟨0,bQ _,?_,ec,.cons rfl .nil⟩;refine hk.lW ?_;simp only[iL,hQ,sp,mi,hO,A5,yB];rw[tJ,fh];rfl
  rintro k af;refine aB.mk (λab=>?_) (λab=>?_)
  ·have bj:k<g.n:=by simpa using ab
   have dp:=apz (g:=g) (i:=i) (Nat.le_of_lt bj);have a3:∀ M,iL dO g.n (bd++[b])∈M->bq I M ((⟨dO,0,none⟩:Addr).add (i*1)) 1 [yh g.n b]:=λM aV=>by have h:=HY (I:=I) aV (i:=i) (by simp;omega);simpa[nw]using h
   have dc:=AB (sp g g.n i k) k (by omega) (sg g i k);rw[apA bj]at dc;have pd:∀ v,v=sg g i k->bG ((sp g g.n i k).map Value.bool) (0+k*1) [Value.bool v]=(sp g g.n i (k+1)).map Value.bool:=λv ai=>by rw[ai,cM,fh];exact dc
   have EA:Nat.ble (0+k*1+1) ((sp g g.n i k).map Value.bool).length=true:=xO (by simp;omega);refine cr.draw aI rfl rfl rfl ?_;refine aW.mk ⟨dO,0,none⟩ i rfl rfl ax ?_;refine aE.mk _ (a3 _ (.tail _ (.head _))) ?_;refine a9.mk (λc6=>?_) (λc6=>?_)
   ·have aF:decide (i=k)=false:=by simp at c6 |-;omega
    refine e7.mk _ (aa4 ao ax bj) ?_;rintro v J N -⟨rfl,bg,rfl⟩;subst J;refine aW.mk ⟨b,0,none⟩ k rfl rfl bj ?_;refine cu.kN [] _ _ _ rfl EA rfl _ (pd _ (by rw[sg,aF,mL])) ?_;refine aQ.mk _ (bl (i:=k) (by omega)) ?_;exact⟨k+1,⟨bj,by omega⟩,.refl,ec,.cons rfl .nil⟩
   ·have aF:decide (i=k)=true:=by simp at c6 |-;omega
    refine aW.mk ⟨b,0,none⟩ k rfl rfl bj ?_;refine cu.kN [] _ _ _ rfl EA rfl _ (pd true (by rw[sg,aF,BP])) ?_;refine aQ.mk _ (bl (i:=k) (by omega)) ?_;exact⟨k+1,⟨bj,by omega⟩,.refl,ec,.cons rfl .nil⟩
  ·have mY:k=g.n:=by simp at ab;omega
   subst mY;refine aQ.mk _ (bl (i:=i) (by omega)) ?_;refine⟨(i+1,bd++[b]),⟨⟨ax,by simp[nw]⟩,by simp only;omega⟩,?_,cI,.cons rfl .nil⟩;simp only;rw[apB,zf,eL];have e:fF (bd++[b]) ((List.range i).map (lx g g.n)++[lx g g.n i])=fF bd ((List.range i).map (lx g g.n))++[hQ b (lx g g.n i)]:=by unfold fF;rw[List.zipWith_append (by simp[nw])];rfl
   rw[show List.map (lx g g.n) [i]=[lx g g.n i]from rfl,e];exact .perm ((List.Perm.swap _ _ _).trans ((MX _ _).symm.cons _)) .refl
 ·have Hn:i=g.n:=by simp at h;omega
  subst Hn;have k8:yb g 0 ((List.range g.n).map (lx g g.n)):=by
   have n8:∀ i k,i<g.n->k<g.n->dY ((List.range g.n).map (lx g g.n)) i k=sg g i k:=λi k hi af=>by simp[dY,bV,hi,lx,af]
   refine⟨⟨by simp,λi hi=>by simp[lx]⟩,λi k h=>?_,λi k hi af h=>?_⟩
   ·by_cases hi:i<g.n
    ·by_cases af:k<g.n
     ·rw[n8 i k hi af]at h;exact iv.base h _
     ·exfalso;simp[dY,bV,hi,lx,af]at h
    ·exfalso;simp[dY,bV,hi]at h
   ·rw[n8 i k hi af];exact h
  generalize(List.range g.n).map (lx g g.n)=apD at k8;refine bu.inv (ι:=Nat×List (List Bool)) (λx=>{ a4:=[(1,.ref 1 0),(3,.val (.int .i64 g.n)),(4,.val (.slice (some ⟨dO,0,none⟩) g.n g.n)),(7,.val (.int .i64 x.1))],cl:=[(1,[.slice g.a g.n g.c])],br:=I,bO:=iL dO g.n bd::fF bd x.2 }) (λx=>x.1<=g.n/\yb g x.1 x.2) (λx=>g.n-x.1) ?_ ?_;·exact⟨(0,apD),⟨bQ _,k8⟩,.refl,cI,.cons rfl .nil⟩
  rintro⟨m,A⟩⟨hm,e4⟩;simp only at hm e4;refine aB.mk (λak=>?_) (λak=>?_)
  ·have gz:m<g.n:=by simpa using ak
   refine bu.inv (ι:=Nat×List (List Bool)) (λx=>{ a4:=[(1,.ref 1 0),(3,.val (.int .i64 g.n)),(4,.val (.slice (some ⟨dO,0,none⟩) g.n g.n)),(7,.val (.int .i64 m)),(8,.val (.int .i64 x.1))],cl:=[(1,[.slice g.a g.n g.c])],br:=I,bO:=iL dO g.n bd::fF bd x.2 }) (λx=>x.1<=g.n/\sh g.n x.2/\zV g m A x.2 λa b=>a<x.1/\b<g.n) (λx=>g.n-x.1) ?_ ?_;·refine⟨(0,A),⟨bQ _,e4.zW,?_⟩,.refl,ec,.cons rfl .nil⟩;exact⟨e4.begin.sound,e4.begin.grow,λa b h=>absurd h.1 (qb _)⟩
   rintro⟨i,R⟩⟨hi,nQ,c1⟩;simp only at hi nQ c1;refine aB.mk (λaL=>?_) (λaL=>?_)
   ·have cd:i<g.n:=by simpa using aL
    refine bu.inv (ι:=Nat×List (List Bool)) (λx=>{ a4:=[(1,.ref 1 0),(3,.val (.int .i64 g.n)),(4,.val (.slice (some ⟨dO,0,none⟩) g.n g.n)),(7,.val (.int .i64 m)),(8,.val (.int .i64 i)),(9,.val (.int .i64 x.1))],cl:=[(1,[.slice g.a g.n g.c])],br:=I,bO:=iL dO g.n bd::fF bd x.2 }) (λx=>x.1<=g.n/\sh g.n x.2/\zV g m A x.2 λa b=>(a<i/\b<g.n)\/(a=i/\b<x.1)) (λx=>g.n-x.1) ?_ ?_;·refine⟨(0,R),⟨bQ _,nQ,?_⟩,.refl,jD,.cons rfl .nil⟩;exact⟨c1.sound,c1.grow,λa b h=>c1.new a b (h.elim id λh=>absurd h.2 (qb _))⟩
    rintro⟨k,R⟩⟨af,nQ,c1⟩;simp only at af nQ c1;refine aB.mk (λbm=>?_) (λbm=>?_)
    ·have bj:k<g.n:=by simpa using bm
     have pk:i<bd.length:=by omega
     have ack:m<bd.length:=by omega
     have qk:i<R.length:=by rw[nQ.len];exact cd
     have Se:m<R.length:=by rw[nQ.len];exact gz
     have q':=nQ.row i qk;have asl:=nQ.row m Se;have Sf:k<R[i].length:=by omega
     have pF:m<R[i].length:=by omega
     have xw:k<R[m].length:=by omega
     have acm:=HZ nQ qk Sf;have acn:=HZ nQ qk pF;have apE:=HZ nQ Se xw;have cN:iL dO g.n bd∈iL dO g.n bd::fF bd R:=.head _;have B8:hQ bd[i] R[i]∈iL dO g.n bd::fF bd R:=lV _ (Sd pk qk);have vU:hQ bd[m] R[m]∈iL dO g.n bd::fF bd R:=lV _ (Sd ack Se);have aV:iL dO g.n bd::fF bd R=(iL dO g.n bd::(fF bd R).take i)++⟨bd[i],.cells (R[i].map Value.bool).toArray 4 (0,0)⟩::(fF bd R).drop (i+1):=by rw[oO];exact congrArg _ (apw pk qk)
     have EA:Nat.ble (0+k*1+1) (R[i].map Value.bool).length=true:=xO (by simp;omega);have pd:∀ v,v=(dY R i k||(dY R i m&&dY R m k))->bG (R[i].map Value.bool) (0+k*1) [Value.bool v]=(R[i].set k (dY R i k||(dY R i m&&dY R m k))).map Value.bool:=λv ai=>by rw[ai,cM,fh];exact AB _ k Sf _
     have x6:(k+1<=g.n/\sh g.n (qi R i k (dY R i k||(dY R i m&&dY R m k)))/\zV g m A (qi R i k (dY R i k||(dY R i m&&dY R m k))) λa b=>(a<i/\b<g.n)\/(a=i/\b<k+1))/\g.n-(k+1)<g.n-k:=by
      refine⟨⟨bj,nQ.set cd _,c1.step nQ cd bj gz λa b h=>?_⟩,by omega⟩;rcases h with h | ⟨U,ab⟩;·exact .inl (.inl h)
      ·by_cases e:b=k
       ·exact .inr ⟨U,e⟩
       ·exact .inl (.inr ⟨U,by omega⟩)
     have xA:(iL dO g.n bd::(fF bd R).take i)++(⟨bd[i],.cells ((R[i].set k (dY R i k||(dY R i m&&dY R m k))).map Value.bool).toArray 4 (0,0)⟩:aD)::(fF bd R).drop (i+1)=iL dO g.n bd::fF bd (qi R i k (dY R i k||(dY R i m&&dY R m k))):=by
      have e:R.getD i []=R[i]:=by simp[bV,qk]
      rw[qi,e,apx pk qk];rfl
     refine cr.draw aI rfl rfl rfl ?_;refine aW.mk ⟨dO,0,none⟩ i rfl rfl cd ?_;refine aE.mk _ (HY cN pk) ?_;refine aW.mk ⟨dO,0,none⟩ i rfl rfl cd ?_;refine aE.mk _ (HY cN pk) ?_;refine aW.mk ⟨bd[i],0,none⟩ k rfl rfl bj ?_;refine aE.mk _ (AA B8 Sf) ?_;refine a9.mk (λc6=>?_) (λc6=>?_)
     ·rw[acm]at c6;refine aW.mk ⟨dO,0,none⟩ i rfl rfl cd ?_;refine aE.mk _ (HY cN pk) ?_;refine aW.mk ⟨bd[i],0,none⟩ m rfl rfl gz ?_;refine aE.mk _ (AA B8 pF) ?_;refine a9.mk (λdg=>?_) (λdg=>?_)
      ·rw[acn]at dg;refine aW.mk ⟨dO,0,none⟩ m rfl rfl gz ?_;refine aE.mk _ (HY cN ack) ?_;refine aW.mk ⟨bd[m],0,none⟩ k rfl rfl bj ?_;refine aE.mk _ (AA vU xw) ?_;refine aW.mk ⟨bd[i],0,none⟩ k rfl rfl bj ?_;refine cu.kN (iL dO g.n bd::(fF bd R).take i) ((fF bd R).drop (i+1)) (R[i].map Value.bool) 4 aV EA rfl _ (pd R[m][k] (by rw[apE,c6,dg];rfl)) ?_;refine aQ.mk _ (bl (i:=k) (by omega)) ?_;exact⟨(k+1,qi R i k (dY R i k||(dY R i m&&dY R m k))),x6,hk.lW xA,jD,.cons rfl .nil⟩
      ·rw[acn]at dg;refine aW.mk ⟨bd[i],0,none⟩ k rfl rfl bj ?_;refine cu.kN (iL dO g.n bd::(fF bd R).take i) ((fF bd R).drop (i+1)) (R[i].map Value.bool) 4 aV EA rfl _ (pd false (by rw[c6,dg];rfl)) ?_;refine aQ.mk _ (bl (i:=k) (by omega)) ?_;exact⟨(k+1,qi R i k (dY R i k||(dY R i m&&dY R m k))),x6,hk.lW xA,jD,.cons rfl .nil⟩
     ·rw[acm]at c6;refine aW.mk ⟨bd[i],0,none⟩ k rfl rfl bj ?_;refine cu.kN (iL dO g.n bd::(fF bd R).take i) ((fF bd R).drop (i+1)) (R[i].map Value.bool) 4 aV EA rfl _ (pd true (by rw[c6];rfl)) ?_;refine aQ.mk _ (bl (i:=k) (by omega)) ?_;exact⟨(k+1,qi R i k (dY R i k||(dY R i m&&dY R m k))),x6,hk.lW xA,jD,.cons rfl .nil⟩
    ·have mY:k=g.n:=by simp at bm;omega
     subst mY;refine aQ.mk _ (bl (i:=i) (by omega)) ?_;refine⟨(i+1,R),⟨⟨cd,nQ,c1.sound,c1.grow,λa b h=>c1.new a b ?_⟩,by simp only;omega⟩,.refl,ec,.cons rfl .nil⟩;obtain⟨c5,c7⟩:=h;simp only at c5 c7;by_cases e:a=i;·exact .inr ⟨e,c7⟩
     ·exact .inl ⟨by omega,c7⟩
   ·have Hn:i=g.n:=by simp at aL;omega
    subst Hn;refine aQ.mk _ (bl (i:=m) (by omega)) ?_;exact⟨(m+1,R),⟨⟨gz,e4.next gz nQ c1⟩,by simp only;omega⟩,.refl,cI,.cons rfl .nil⟩
  ·have qN:m=g.n:=by simp at ak;omega
   subst qN;intro gO;obtain⟨I',x,f',hC,iX,hf,AW⟩:=apy (by omega) nw e4.zW gO;have fU:x.n=g.n:=by have:=hf;simp only[vH.val,Value.slice.injEq]at this;exact this.2.1
   exact⟨_,_,f',hC,rfl,x,hf.symm,iX,fU,by rw[AW];exact e4⟩
def apF{p:Nat->Bool}{k:Nat}:(k:Int)∈lv p n ↔ k<n/\p k=true:=by
 unfold lv;simp only[dB,qn,kf];constructor
 ·rintro⟨j,⟨U,ab⟩,ak⟩;have:j=k:=by omega
  subst this;exact⟨U,ab⟩
 ·rintro⟨U,ab⟩;exact⟨k,⟨U,ab⟩,rfl⟩
def apG(az:g.ds.length=g.n)(hm:cn deb g=0){a:Nat}(aX:a<g.n):(ei g).getD a []=lv (sf g a) g.n:=by
 have uv:a<g.ds.length:=by omega
 rw[<-aa9 az hm uv];simp[ei,bV,uv]
def aco(az:g.ds.length=g.n)(hm:cn deb g=0){a k:Nat}(aX:a<g.n):(k:Int)∈(ei g).getD a [] ↔ k<g.n/\sf g a k=true:=by rw[apG az hm aX,apF]
def Comes.apH{L:List (List Int)}{i j k:Nat}(U:Comes L i j)(ab:Comes L j k):Comes L i k:=by
 induction ab with
 |self=>exact U| next _ af a8=>exact .next a8 af
def iv.comes{deb:List Int}{g:bP}(az:g.ds.length=g.n)(hm:cn deb g=0):∀ {m i k:Nat},m<=g.n->i<g.n->k<g.n->iv g m i k->Comes (ei g) i k
 |0,i,k,_,hi,af,h=>by
  have h:sg g i k=true:=h;unfold sg at h;simp only[j0,fk]at h;rcases h with rfl | h;·exact .self
  ·exact .next .self ((aco az hm hi).2 ⟨af,h⟩)
 |m+1,i,k,uJ,hi,af,h=>by
  rcases h with h | ⟨U,ab⟩;·exact iv.comes az hm (by omega) hi af h
  ·exact(iv.comes az hm (by omega) hi (by omega) U).apH (iv.comes az hm (by omega) (by omega) af ab)
def apI(az:g.ds.length=g.n)(hm:cn deb g=0){i k:Nat}(hi:i<g.n)(h:Comes (ei g) i k):k<g.n/\iv g g.n i k:=by
 induction h with
 |self=>exact⟨hi,iv.base (by simp[sg]) _⟩| next _ af a8=>obtain⟨aX,aN⟩:=a8;obtain⟨U,ab⟩:=(aco az hm aX).1 af;exact⟨U,iv.trans aN (iv.base (by simp[sg,ab]) _) aX⟩
def apJ(az:g.ds.length=g.n)(hm:cn deb g=0)(h:yb g g.n R):R=A0 (ei g):=by
 have ay:(ei g).length=g.n:=C5 az;apply rE
 ·rw[h.zW.len,A0,cT,J0,ay]
 ·intro i U ab;have hi:i<g.n:=by rw[h.zW.len]at U;exact U
  have au:=Ns (L:=ei g) (xz az) (i:=i) (by omega);simp only[A0,oP,NF];apply rE;·rw[h.zW.row i U,au.len,ay]
  ·intro k ak aL;have af:k<g.n:=by rw[h.zW.row i U]at ak;exact ak
   rw[HZ h.zW U ak,l7];have e:(hq (ei g) i)[k]=true ↔ jQ (hq (ei g) i) k:=by simp[jQ,bV,aL]
   rw[e,au.iff];constructor;·intro aX;exact iv.comes az hm (b2 _) hi af (h.sound i k aX)
   ·intro aC;exact h.comp i k hi af (apI az hm hi aC).2
def vH.cell{x:vH}(ae:x.ok I)(fU:x.n=n)(a5:x.rows.map (·.l)=R)(ar:sh n R){i:Nat}(hi:i<n) :
  ∃ (tg:Addr) (r:pV),x.a=some tg/\(∀ M,bq I M (tg.add (i*1)) 1 [r.val])/\r.n=n/\∀ k,k<n->∃ ci,r.a=some ci/\∀ M,bq I M (ci.add (k*1)) 1 [.bool (dY R i k)]:=by
 have ay:x.rows.length=n:=by have:=congrArg List.length a5;rw[cT,ar.len]at this;exact this
 have cd:i<x.rows.length:=by omega
 obtain⟨tg,kb,q'⟩:=ae.aJ.one (j:=i) (by omega) (by simpa using cd);have bM:=ae.rows _ (bJ cd);have qk:i<R.length:=by rw[ar.len];exact hi
 have dp:(x.rows[i]).l=R[i]:=by
  have:(x.rows.map (·.l))[i]'(by simpa using cd)=R[i]:=by simp only[a5]
  simpa using this
 have ji:(x.rows[i]).n=n:=by rw[<-bM.n,dp,ar.row i qk]
 refine⟨tg,x.rows[i],kb,q',ji,λk af=>?_⟩;have bj:k<(x.rows[i]).l.length:=by rw[dp,ar.row i qk];exact af
 obtain⟨ci,Sg,xy⟩:=bM.aJ.one (j:=k) (by omega) bj;refine⟨ci,Sg,λM=>?_⟩;have e:(x.rows[i]).l[k]=dY R i k:=by rw[<-HZ ar qk (by rw[ar.row i qk];exact af)];simp[dp]
 rw[<-e];exact xy M
def apK(wh:Bool)(s:List Bool):fJ wh 0 s=lv (λk=>s.getD k false == wh) s.length:=by
 have:∀ n,n<=s.length->fJ wh 0 (s.take n)=lv (λk=>s.getD k false == wh) n:=by
  intro n
  induction n with
  |zero=>intro _;rfl
  |succ n a8=>
   intro az;have yx:n<s.length:=by omega
   rw[er yx,FM,a8 (by omega),Lp,rO (by omega),cM];have e:s.getD n false=s[n]:=by simp[bV,yx]
   rw[e]
 have h:=this s.length (b2 _);rwa [dX (b2 _)]at h
def apL(az:g.ds.length=g.n)(hm:cn deb g=0)(wh:Bool){i:Nat}(hi:i<g.n):fJ wh 0 (hq (ei g) i)=lv (λk=>dY (A0 (ei g)) i k == wh) g.n:=by have ay:(ei g).length=g.n:=C5 az;have au:=C6 (xz az) (i:=i) (by omega);rw[apK,au,ay];apply aa8;intro k af;simp[dY,A0,bV,ay,hi]
set_option maxRecDepth 100000 in
def apM(cv:mF deb)(ao:g.ok I)(au:ls g)(i:Int):Spec Tryz.prog 23 [g.val,.int .i64 i] I [] λv I' M'=>(∀ b o,I b=some o->I' b=some o)/\∃ os:aY,v=os.val/\os.ok 1 ((hr deb g i).map (.int .i64 ·))/\M'=os.aw 3:=by
 refine bn [] aI Tryz.func23 rfl rfl rfl ?_;intro B av;have o7:=au.n;have cK:=ao.n;refine aU.mk [] [] _ (.refl _) (aa5 cv ao au i) ?_;rintro v J N -⟨rfl,bg,rfl⟩;subst J;refine aB.mk (λh=>?_) (λh=>?_)
 ·have aq:nh deb g i=false:=by simpa using h
  have e:hr deb g i=[]:=by unfold hr;show(bif nh deb g i then _ else _)=_;rw[aq];rfl
  exact⟨_,_,.refl,λ_ _ h=>h,fs,rfl,by rw[e];exact fT 1,rfl⟩
 have aq:nh deb g i=true:=by simpa using h
 obtain⟨y0,c1⟩:=Rv aq;have hm:cn deb g=0:=by unfold nh at aq;simp at aq;exact aq.2
 obtain⟨i,rfl⟩:=en y0;simp only[lz]at c1;have Rw:hr deb g (i:Nat)=lv (λk=>dY (A0 (ei g)) i k == true) g.n:=by unfold hr;show(bif nh deb g (i:Nat)then _ else _)=_;rw[aq,bt,lz,apL cK hm true c1]
 rw[Rw];refine aU.mk [] [] _ (.refl _) (apC ao o7) ?_;rintro v bR M1 -⟨bK,rfl,x,rfl,ae,fU,q'⟩;have nQ:=q'.zW;have a5:=apJ cK hm q';rw[a5]at nQ;generalize A0 (ei g)=R at *;obtain⟨tg,r,kb,a3,ji,eB⟩:=vH.cell ae fU a5 nQ c1;generalize aN:(λk=>dY R i k == true)=p;have apN:∀ k,dY R i k=p k:=λk=>by rw[<-aN];simp
 refine bu.inv (ι:=Nat×aY) (λy=>{ a4:=[(1,.val (.int .i64 i)),(2,.ref 2 0),(5,.val x.val),(6,.val y.2.val),(7,.val (.int .i64 y.1))],cl:=[(2,[.slice g.a g.n g.c])],br:=bR,bO:=y.2.aw 3 }) (λy=>y.1<=g.n/\y.2.ok 1 ((lv p y.1).map (.int .i64 ·))) (λy=>g.n-y.1) ?_ ?_
 ·exact⟨(0,fs),⟨bQ _,fT 1⟩,.refl,ec,.cons rfl .nil⟩
 rintro⟨k,os⟩⟨af,bf⟩;simp only at af bf;have jP:=bf.o1;have iT:=Ru p k;have eG:=Lp p k;refine aB.mk (λh=>?_) (λh=>?_)
 ·have ax:k<g.n:=by simpa using h
  obtain⟨ci,Sg,xy⟩:=eB k ax;rw[apN]at xy;refine aW.mk tg i kb rfl (by omega) ?_;refine aE.mk _ (a3 _) ?_;refine aW.mk ci k Sg rfl (by omega) ?_;refine aE.mk _ (xy _) ?_;refine aB.mk (λab=>?_) (λab=>?_);·rw[ab,bt]at eG;refine bL.mk λbT h3 iF=>?_;refine bk.sL aI rfl (by simp) (e:=3) rfl rfl rfl os bf rfl (m:=1) rfl (news:=[.int .i64 k]) (by decide) (dj (b:=bT) (cs:=[.int .i64 k]) (k:=0) (n:=1) (T:=3) (.head _) (by simp)) rfl (Mr:=[⟨bT,.cells #[.int .i64 k] 3 (0,0)⟩]) (gQ (l₁:=[_])) (by simp only[maxLen];omega) (by show(os.n+1)*8<=_;omega) ?_;intro dh c' fi ub c5 c7 dS eP;refine aQ.mk _ (bl (i:=k) (by omega)) ?_;refine⟨(k+1,⟨some dh,os.n+1,c',fi⟩),⟨⟨by simp only;omega,?_⟩,by simp only;omega⟩,.sub (List.Sublist.cons_cons _ (cW _)) .refl,ec,.cons rfl .nil⟩;simp only;rw[eG,eL];exact xv bf c5 c7 dS eP
  ·rw[ab,bz,db]at eG;refine aQ.mk _ (bl (i:=k) (by omega)) ?_;refine⟨(k+1,os),⟨⟨by simp only;omega,?_⟩,by simp only;omega⟩,.refl,ec,.cons rfl .nil⟩;simp only;rw[eG];exact bf
 ·have mY:k=g.n:=by simp at h;omega
  subst mY;exact⟨_,_,.refl,bK,os,rfl,bf,rfl⟩
def acp(wh:Bool):∀ (s:List Bool) (off i:Nat),s[i]?=some wh->(∀ k,k<i->s[k]?=some (!wh))->(fJ wh off s).head?=some ((off+i:Nat):Int)
 |[],_,i,h,_=>by simp at h
 |b::s,off,0,h,_=>by
  have h:b=wh:=by simpa using h
  subst h;simp[fJ]
 |b::s,off,i+1,h,af=>by
  have av:=af 0 (by omega);have av:b=!wh:=by simpa using av
  subst av;have a8:=acp wh s (off+1) i (by simpa using h) (λk eh=>by simpa using af (k+1) (by omega));have e:((!wh) == wh)=false:=by cases wh<;>rfl
  rw[fJ,e,bz,a8];congr 2;omega
def acq(wh:Bool):∀ (s:List Bool) (off:Nat),(∀ k,k<s.length->s[k]?=some (!wh))->fJ wh off s=[]
 |[],_,_=>rfl
 |b::s,off,af=>by
  have av:=af 0 (by simp);have av:b=!wh:=by simpa using av
  subst av;have a8:=acq wh s (off+1) (λk eh=>by simpa using af (k+1) (by simpa using eh));have e:((!wh) == wh)=false:=by cases wh<;>rfl
  rw[fJ,e,bz,a8]
section
variable{deb:List Int}{g:bP}(az:g.ds.length=g.n)(hm:cn deb g=0)
include az hm
def H0:hr deb g 0=fJ true 0 (hq (ei g) 0)/\kt deb g=fJ false 0 (hq (ei g) 0)/\(hq (ei g) 0).length=g.n:=by
 have g2:=HB hm;have ay:(ei g).length=g.n:=by simp[ei,az]
 refine⟨?_,?_,by rw[C6 (xz az) (by omega),ay]⟩
 ·unfold hr;have:lh 0 g.n=true:=by unfold lh;simp;omega
  rw[this,eD hm];rfl
 ·unfold kt;rw[eD hm,dk (by omega)];rfl
def Sh{k:Nat}(af:k<g.n):(hq (ei g) 0)[k]?=some (decide ((k:Int)∈hr deb g 0)):=by
 obtain⟨aF,-,bC⟩:=H0 az hm;rw[aF];have kV:k<(hq (ei g) 0).length:=by omega
 rw[ev kV];congr 1;by_cases h:(k:Int)∈fJ true 0 (hq (ei g) 0)
 ·rw[eD h];obtain⟨j,U,ab⟩:=(C4 true _ 0 _).1 h;have:j=k:=by omega
  subst this;rw[ev kV]at ab;exact kn ab
 ·rw[dk h];cases ah:(hq (ei g) 0)[k]with
  |false=>rfl| true=>exact absurd ((C4 true _ 0 _).2 ⟨k,by omega,by rw[ev kV,ah]⟩) h
def apO{i:Nat}(hi:i<g.n)(h:¬ (i:Int)∈hr deb g 0)(af:∀ k:Nat,k<i->(k:Int)∈hr deb g 0):(kt deb g).head?=some (i:Int):=by obtain⟨-,a7,-⟩:=H0 az hm;rw[a7,acp false _ 0 i (by rw[Sh az hm hi,dk h]) (λk eh=>by rw[Sh az hm (by omega),eD (af k eh)];rfl),cM]
def apP(af:∀ k:Nat,k<g.n->(k:Int)∈hr deb g 0):(kt deb g).head?=none:=by obtain⟨-,a7,bC⟩:=H0 az hm;rw[a7,acq false _ 0 (λk eh=>by rw[Sh az hm (by omega),eD (af k (by omega))];rfl)];rfl
end
def acr(ao:g.ok I)(au:ls g):Spec Tryz.prog 23 [g.val,.int .i64 0] I M0 λv I' M'=>(∀ b o,I b=some o->I' b=some o)/\M'=M0/\∃ x:il,v=x.val/\qQ I' x/\x.l=hr cG g 0/\x.n<=g.n:=by
 refine Spec.iM (Spec.frame (Spec.gE (apM HH ao au 0))) ?_;rintro v J M⟨M',rfl,-,bg,rfl,-,I',M1,⟨U,os,rfl,bf,rfl⟩,bs⟩;have cK:=ao.n;have ay:=bf.o1;have ax:=Lt (deb:=cG) cK (i:=0);have hle:(hr cG g 0).length<=g.n:=by
  unfold hr;cases aC:lh 0 g.n&&decide (cn cG g=0)with
  |false=>simp| true=>simp only[b',fk]at aC;rw[bt];have U:=Jj true (hq (ei g) (0:Int).toNat) 0;have ab:=(H0 cK aC.2).2.2;have ak:(0:Int).toNat=0:=rfl;rw[ak]at U |-;omega
 have asm:g.n<=140737488355328:=by have:=ao.aJ.cap;omega
 refine⟨bg,rfl,⟨os.a.map λg=>⟨g,0,none⟩,os.n,os.c,hr cG g 0⟩,rfl,⟨aY.gE bs bf (λ_ h=>h) (by omega),λk af=>?_⟩,rfl,by simp only;omega⟩;obtain⟨z,rfl,a2⟩:=ax k af;unfold iY;constructor<;>omega
set_option maxRecDepth 100000 in
def acs(ao:g.ok I)(au:ls g)(LL:g.n<=1000000):Spec Tryz.prog 6 [g.val] I M0 λv I' M'=>(∀ b o,I b=some o->I' b=some o)/\∃ (o:Option Int) (os:aY),uX cG g o/\os.ok 5 ((jc o).flatMap e1.cells)/\v=os.val/\M'=os.aw 27++M0:=by
 refine bn [] aI Tryz.func6 rfl rfl rfl ?_;intro B av;have cK:=ao.n;refine aU.whole _ (aaM HH ao au) ?_;rintro v bR N -⟨bK,cH,r,rfl,ag⟩;subst N;by_cases h:r.2=0
 rotate_left
 ·refine aB.mk (λ_=>?_) (λaG=>absurd aG (by simp[h]));exact⟨_,_,.refl,bK,none,fs,⟨r,ag,(cB h).symm⟩,fT 5,rfl,rfl⟩
 refine aB.mk (λaG=>absurd aG (by simp[h])) (λ_=>?_);have hm:cn cG g=0:=by
  rcases ag with⟨a,e⟩ | ⟨a,-⟩;·rw[e]at h;exact h
  ·exact a
 have dc:∀ o,o=(kt cG g).head?->uX cG g o:=λo aP=>⟨r,ag,by rw[cw h,aP]⟩;refine aU.whole _ (acr (ao.mono bK) au) ?_;rintro v dG N -⟨ed,cH,x,rfl,ae,e8,fU⟩;subst N;refine bu.inv (ι:=Nat) (λi=>{ a4:=[(1,.ref 1 0),(3,.val x.val),(4,.val (.int .i64 i))],cl:=[(1,[.slice g.a g.n g.c])],br:=dG,bO:=M0 }) (λi=>i<=g.n/\∀ k:Nat,k<i->(k:Int)∈hr cG g 0) (λi=>g.n-i) ?_ ?_
 ·exact⟨0,⟨bQ _,λk af=>absurd af (qb _)⟩,.refl,cU,.cons rfl (.nil)⟩
 rintro i⟨hi,eg⟩;refine aB.mk (λab=>?_) (λab=>?_)
 rotate_left
 ·have bS:i=g.n:=by have:¬ (i:Int)<(g.n:Int):=cR ab;omega
  subst bS;exact⟨_,_,.refl,λb o h=>ed _ _ (bK _ _ h),none,fs,dc _ (apP cK hm eg).symm,fT 5,rfl,rfl⟩
 have ax:i<g.n:=by have:(i:Int)<(g.n:Int):=cq ab;omega
 have g2:=Ew i x.l;rw[e8]at g2;refine aU.whole _ (LA ae (by omega) i) ?_;rintro v gJ N -⟨rfl,iC,cH⟩;subst gJ;subst N;rw[e8];refine aB.mk (λak=>?_) (λak=>?_)
 ·have ak:((iN i (hr cG g 0):Nat):Int)=0:=cq ak;have LB:¬ (i:Int)∈hr cG g 0:=λh=>by have:=g2.2 h;omega
  refine bL.mk λb ah jJ=>?_;exact⟨_,_,.refl,λb o h=>ed _ _ (bK _ _ h),some (i:Int),⟨some b,1,1,(ju (some (i:Int))).cells⟩,dc _ (apO cK hm ax LB eg).symm,⟨rfl,(λh=>by cases h),λg h=>⟨rfl,b2 _,(show(1:Nat)<=maxLen by decide),rfl⟩⟩,rfl,rfl⟩
 ·have ak:¬ ((iN i (hr cG g 0):Nat):Int)=0:=cR ak;have B8:(i:Int)∈hr cG g 0:=g2.1 (by omega);refine aQ.mk _ (bl (i:=i) (by omega)) ?_;refine⟨i+1,⟨⟨ax,λk af=>?_⟩,by omega⟩,.refl,cU,.cons rfl (.nil)⟩;by_cases e:k=i
  ·subst e;exact B8
  ·exact eg k (by omega)
section
variable{deb:List Int}{g:bP}(az:g.ds.length=g.n)(hm:cn deb g=0)
include az hm
def apQ:g0 deb g (hr deb g 0)=true/\nk deb g (hr deb g 0)=gq (hq (ei g) 0) g.ds:=by
 have g2:=HB hm;have h9:=BZ hm;obtain⟨aF,-,bC⟩:=H0 az hm;have apR:=abl (s:=hq (ei g) 0) (by omega);have cL:(ei g).length=g.n:=by simp[ei,az]
 have Si:=Ns (xz az) (i:=0) (by omega);have af:g0 deb g (hr deb g 0)=true:=by
  unfold g0;simp only[b',fk,et];refine⟨hm,?_,λk af=>?_,?_,λi hi j aj=>?_⟩
  ·intro e;have av:((0:Nat):Int)∈hr deb g 0:=by rw[aF];exact FN.2 ((Si.iff 0).2 .self)
   rw[e]at av;cases av
  ·obtain⟨z,rfl,a2⟩:=Lt az k af;unfold jd;simp;omega
  ·rw[aF];exact abh true _ 0
  ·have ms:=RI az j aj;obtain⟨z,rfl,a2⟩:=Lt az i hi;unfold jd at ms;simp only[b',fk]at ms;obtain⟨u,rfl⟩:=en ms.1;rw[aF]at hi |-;have U:=(Si.iff z).1 (FN.1 hi);refine FN.2 ((Si.iff u).2 (.next U ?_));unfold g9 at aj;cases aC:lh (z:Int) g.n&&decide (cn deb g=0)with
   |false=>rw[aC]at aj;cases aj| true=>rw[aC,bt]at aj;exact aj
 refine⟨af,?_⟩;rw[nk,af,cw rfl,aF,<-bC,apR]
end
def acu(I:aT):(⟨[],none,0,0⟩:bP).ok I:=⟨⟨rfl,⟨b2 _,by decide⟩,.inl rfl⟩,λd al=>by cases al⟩
set_option maxRecDepth 100000 in
def apS(ao:g.ok I)(au:ls g)(LL:g.n<=1000000)(s:e1):Spec Tryz.prog 11 [g.val,s.val] I [] λv I' M'=>(∀ b o,I b=some o->I' b=some o)/\∃ (r:Int×List aK) (h:bP),sk cG g s r/\v=.tuple #[h.val,.int .i64 r.1]/\h.ok I'/\h.ds=r.2:=by
 refine bn [] aI Tryz.func11 rfl rfl rfl ?_;intro B av;have cK:=ao.n;refine aU.whole _ (aaM HH ao au) ?_;rintro v bR N -⟨bK,cH,x,rfl,ae⟩;subst N;by_cases h:x.2=0
 rotate_left
 ·refine aB.mk (λ_=>?_) (λaG=>absurd aG (by simp[h]));exact⟨_,_,.refl,bK,(x.2,[]),⟨[],none,0,0⟩,⟨x,ae,(cB h).symm⟩,rfl,acu _,rfl⟩
 refine aB.mk (λaG=>absurd aG (by simp[h])) (λ_=>?_);have hm:cn cG g=0:=by
  rcases ae with⟨a,e⟩ | ⟨a,-⟩;·rw[e]at h;exact h
  ·exact a
 obtain⟨kq,bj⟩:=apQ cK hm;refine aU.whole _ (acs (ao.mono bK) au LL) ?_;rintro v dG N -⟨ed,o,os,aP,bf,rfl,cH⟩;subst N;have nj:∀ b o,I b=some o->dG b=some o:=λb o h=>ed _ _ (bK _ _ h);have aP:o=(kt cG g).head?:=by obtain⟨r,ag,e⟩:=aP;rw[ag.eq ae,cw h]at e;exact e
 have cm:wR s o=false->∃ (r:Int×List aK) (h:bP),sk cG g s r/\Value.tuple #[(⟨[],none,0,0⟩:bP).val,.int .i64 47]=.tuple #[h.val,.int .i64 r.1]/\h.ok dG/\h.ds=r.2:=λaL=>
  ⟨(47,[]),⟨[],none,0,0⟩,⟨x,ae,by rw[cw h,cB (by rw[<-aP,aL];simp)]⟩,rfl,acu _,rfl⟩
 cases o with
 |none=>
  have kK:os.n=0:=by have:=bf.len;simp only[jc,CV,dI]at this;omega
  refine cr.draw aI rfl rfl rfl ?_;refine a9.mk (λaG=>absurd aG (by simp[kK])) (λ_=>?_);exact⟨_,_,.sub (cW _) .refl,nj,cm rfl⟩
 |some u=>
 have jk:os.n=1:=by have:=bf.len;have bm:((jc (some u)).flatMap e1.cells).length=5:=rfl;rw[bm]at this;omega
 have cm:¬ (s.p=7/\s.w=1/\s.r=u/\s.at_=0/\s.pn=0)->_:=λaL=>cm (by
  cases ah:wR s (some u)with
  |false=>rfl
  |true=>
   refine absurd ?_ aL;have:s.p=7/\s.w=1/\s.r=u/\s.pn=0/\s.at_=0:=by simpa[wR]using ah
   exact⟨this.1,this.2.1,this.2.2.1,this.2.2.2.2,this.2.2.2.1⟩)
 obtain⟨ad,ba,a3⟩:=aY.ok.row (I:=dG) (e:=27) (M:=os.aw 27++[]) e1.bI (by decide) bf (λz a2=>gM _ a2) (j:=0) Nat.zero_lt_one;have gf:bq dG (os.aw 27++[]) ((ad.add (0*5)).add 2) 1 [.int .i64 u]:=a3.part (k:=2) (m:=1) (by decide);obtain⟨ek,Ep,zj,Lu,Lv,Lw,abv,sat⟩:=s;simp only at cm;by_cases a6:ek=7
 rotate_left
 ·refine cr.draw aI rfl rfl rfl ?_;refine a9.mk (λ_=>?_) (λaG=>absurd aG (by simp[jk]));refine a9.mk (λaG=>absurd aG (by simp[a6])) (λ_=>?_);exact⟨_,_,.sub (cW _) .refl,nj,cm λh=>a6 h.1⟩
 subst a6;by_cases bb:Ep=1
 rotate_left
 ·refine cr.draw aI rfl rfl rfl ?_;refine a9.mk (λ_=>?_) (λaG=>absurd aG (by simp[jk]));refine a9.mk (λ_=>?_) (λaG=>absurd aG (by simp));refine a9.mk (λaG=>absurd aG (by simp[bb])) (λ_=>?_);exact⟨_,_,.sub (cW _) .refl,nj,cm λh=>bb h.2.1⟩
 subst bb;by_cases b0:zj=u
 rotate_left
 ·refine cr.draw aI rfl rfl rfl ?_;refine a9.mk (λ_=>?_) (λaG=>absurd aG (by simp[jk]));refine a9.mk (λ_=>?_) (λaG=>absurd aG (by simp));refine a9.mk (λ_=>?_) (λaG=>absurd aG (by simp));refine aW.mk ad 0 ba rfl (show 0<os.n by omega) ?_;refine aE.mk _ gf ?_;refine a9.mk (λaG=>absurd aG (by simp[b0])) (λ_=>?_);exact⟨_,_,.sub (cW _) .refl,nj,cm λh=>b0 h.2.2.1⟩
 subst b0;by_cases fy:sat=0
 rotate_left
 ·refine cr.draw aI rfl rfl rfl ?_;refine a9.mk (λ_=>?_) (λaG=>absurd aG (by simp[jk]));refine a9.mk (λ_=>?_) (λaG=>absurd aG (by simp));refine a9.mk (λ_=>?_) (λaG=>absurd aG (by simp));refine aW.mk ad 0 ba rfl (show 0<os.n by omega) ?_;refine aE.mk _ gf ?_;refine a9.mk (λ_=>?_) (λaG=>absurd aG (by simp));refine a9.mk (λaG=>absurd aG (by simp[fy])) (λ_=>?_);exact⟨_,_,.sub (cW _) .refl,nj,cm λh=>fy h.2.2.2.1⟩
 subst fy;by_cases kL:Lv=0
 rotate_left
 ·refine cr.draw aI rfl rfl rfl ?_;refine a9.mk (λ_=>?_) (λaG=>absurd aG (by simp[jk]));refine a9.mk (λ_=>?_) (λaG=>absurd aG (by simp));refine a9.mk (λ_=>?_) (λaG=>absurd aG (by simp));refine aW.mk ad 0 ba rfl (show 0<os.n by omega) ?_;refine aE.mk _ gf ?_;refine a9.mk (λ_=>?_) (λaG=>absurd aG (by simp));refine a9.mk (λ_=>?_) (λaG=>absurd aG (by simp));refine aB.mk (λ_=>?_) (λaG=>absurd aG (by simp;omega));exact⟨_,_,.sub (cW _) .refl,nj,cm λh=>kL h.2.2.2.2⟩
 subst kL;clear cm;refine cr.draw aI rfl rfl rfl ?_;refine a9.mk (λ_=>?_) (λaG=>absurd aG (by simp[jk]));refine a9.mk (λ_=>?_) (λaG=>absurd aG (by simp));refine a9.mk (λ_=>?_) (λaG=>absurd aG (by simp));refine aW.mk ad 0 ba rfl (show 0<os.n by omega) ?_;refine aE.mk _ gf ?_;refine a9.mk (λ_=>?_) (λaG=>absurd aG (by simp));refine a9.mk (λ_=>?_) (λaG=>absurd aG (by simp));refine aB.mk (λaG=>absurd aG (by simp)) (λ_=>?_);have lf:∀ {M:List aD},Spec Tryz.prog 23 [g.val,.int .i64 0] dG M λv I' M'=>(∀ b o,dG b=some o->I' b=some o)/\M'=M/\∃ x:il,v=x.val/\qQ I' x/\x.l=hr cG g 0/\x.n<=g.n:=fun {M}=>acr (ao.mono nj) au;have eh:∀ {M:List aD} {gJ:aT} {y:il},(∀ b o,dG b=some o->gJ b=some o)->qQ gJ y->y.l=hr cG g 0->y.n<=g.n->Spec Tryz.prog 26 [g.val,y.val] gJ M λv I' M'=>(∀ b o,gJ b=some o->I' b=some o)/\M'=M/\∃ a:bP,v=.tuple #[a.val,.bool true]/\a.ok I'/\a.ds=gq (hq (ei g) 0) g.ds:=fun {M gJ y} ak aA k9 sd=>
  Spec.iM (apv ((ao.mono nj).mono ak) au aA (by omega)) λv I' M' ⟨c5,c7,a,Dh,dS,eP,U6,Ny⟩=>by rw[k9]at eP Ny;rw[kq]at eP;subst eP;exact⟨c5,c7,a,dS,U6,Ny.trans bj⟩
 refine cr.IC aI rfl rfl rfl (ι:=Nat×aT×bP) (λs=>{ a4:=[(4,.ref 4 0),(8,.val (ptr s.1))],cl:=[(4,[.slice none 0 0])],br:=s.2.1,bO:=⟨s.1,.cells (#[.slice s.2.2.a s.2.2.n s.2.2.c]:Array Value) 24 (0,0)⟩::[] }) (λs=>(∀ b o,dG b=some o->s.2.1 b=some o)/\s.2.2.ok s.2.1/\s.2.2.ds=gq (hq (ei g) 0) g.ds) ?_ ?_
 ·refine⟨?_,?_⟩
  ·refine e7.whole _ lf (λv I' M' h x ae=>by rw[h.2.1];exact ae) ?_;rintro v th N -⟨k2,cH,y,rfl,aA,k9,sd⟩;subst N;refine⟨?_,?_⟩
   ·refine aU.whole _ (eh k2 aA k9 sd) ?_;rintro v oE N -⟨tn,cH,a,rfl,aX,o5⟩;subst N;refine bL.mk λhs N3 acv=>?_;refine cu.kU [] _ _ _ rfl rfl rfl rfl [.slice a.a a.n a.c] rfl ?_;exact⟨(hs,oE,a),⟨λb o h=>tn _ _ (k2 _ _ h),aX,o5⟩,.sub (.cons₂ _ (cW _)) .refl,ih,.cons rfl (.nil)⟩
   ·refine bL.mk λhs N3 acv=>?_;refine e7.whole _ (eh k2 aA k9 sd) (λv I' M' h x ae=>by rw[h.2.1];exact ae) ?_;rintro v oE N -⟨tn,cH,a,rfl,aX,o5⟩;subst N;refine cu.kU [] _ _ _ rfl rfl rfl rfl [.slice a.a a.n a.c] rfl ?_;exact⟨(hs,oE,a),⟨λb o h=>tn _ _ (k2 _ _ h),aX,o5⟩,.sub (.cons₂ _ (cW _)) .refl,ih,.cons rfl (.nil)⟩
  ·refine bL.mk λhs N3 acv=>?_;refine e7.whole _ lf (λv I' M' h x ae=>by rw[h.2.1];exact ae) ?_;rintro v th N -⟨k2,cH,y,rfl,aA,k9,sd⟩;subst N;refine e7.whole _ (eh k2 aA k9 sd) (λv I' M' h x ae=>by rw[h.2.1];exact ae) ?_;rintro v oE N -⟨tn,cH,a,rfl,aX,o5⟩;subst N;refine cu.kU [] _ _ _ rfl rfl rfl rfl [.slice a.a a.n a.c] rfl ?_;exact⟨(hs,oE,a),⟨λb o h=>tn _ _ (k2 _ _ h),aX,o5⟩,.sub (.cons₂ _ (cW _)) .refl,ih,.cons rfl (.nil)⟩
 rintro⟨hs,J,a⟩⟨bg,aX,o5⟩;simp only at bg aX o5;refine aE.mk [.slice a.a a.n a.c] ⟨rfl,_,_,_,.inr ⟨_,.head _,rfl,rfl⟩,rfl,rfl⟩ ?_;exact⟨_,_,.sub (cW _) .refl,λb o h=>bg _ _ (nj _ _ h),(0,gq (hq (ei g) 0) g.ds),a,⟨x,ae,by rw[cw h,<-aP,cw (by simp[wR])]⟩,rfl,aX,o5⟩
def acw(ao:g.ok I)(au:ls g)(LL:g.n<=1000000)(s:e1):Spec Tryz.prog 11 [g.val,s.val] I M0 λv I' M'=>(∀ b o,I b=some o->I' b=some o)/\M'=M0/\∃ (r:Int×List aK) (h:bP),sk cG g s r/\v=.tuple #[h.val,.int .i64 r.1]/\h.ok I'/\h.ds=r.2:=by refine Spec.iM (Spec.frame (Spec.gE (apS ao au LL s))) ?_;rintro v J M⟨M',rfl,-,bg,rfl,-,I',M1,⟨U,r,h,ag,rfl,cj,al⟩,bs⟩;exact⟨bg,rfl,r,h,ag,rfl,cj.mono bs.le,al⟩
structure acx(I:aT)(M:List aD)(a:Option Addr)(n:Nat)(L:List e1):Prop where
 len:L.length=n
 n:n<=1000000
 rd:∀ j (h:j<L.length),∃ ad,a=some ad/\bq I M (ad.add (j*5)) 5 L[j].cells
set_option maxRecDepth 100000 in
def apT(aN:∀ s∈L,s.pn=0){b:Option Addr}(aX:acx I M0 a n L)(ah:acx I M0 b n L):Spec Tryz.prog 10 [.slice a n c,.slice b n c'] I M0 λv I' M'=>v=.bool true/\I'=I/\M'=M0:=by
 refine bn [] aI Tryz.func10 rfl rfl rfl ?_;intro B av;have az:=aX.len;have asn:=aX.n;refine aB.mk (λh=>absurd h (by simp)) (λ_=>?_);refine bu.inv (ι:=Nat) (λi=>{ a4:=[(0,.val (.slice a n c)),(1,.val (.slice b n c')),(5,.val (.int .i64 i))],cl:=[],br:=I,bO:=M0 }) (λi=>i<=n) (λi=>n-i) ?_ ?_
 ·exact⟨0,bQ _,.refl,cU,.nil⟩
 intro i hi;refine aB.mk (λab=>?_) (λab=>?_)
 rotate_left
 ·exact⟨_,_,.refl,rfl,rfl,rfl⟩
 have ax:i<n:=by have:(i:Int)<(n:Int):=cq ab;omega
 have cd:i<L.length:=by omega
 obtain⟨ad,ba,z2⟩:=aX.rd i cd;obtain⟨hU,oC,jW⟩:=ah.rd i cd;have gV:=aN _ (bJ cd);generalize L[i]=s at z2 jW gV;obtain⟨ek,Ep,zj,Lu,Lv,Lw,abv,sat⟩:=s;simp only at gV;subst gV;have dE:bq I M0 ((ad.add (i*5)).add 0) 1 [.int .u8 ek]:=z2.part (k:=0) (m:=1) (by decide);have ca:bq I M0 ((ad.add (i*5)).add 1) 1 [.int .u8 Ep]:=z2.part (k:=1) (m:=1) (by decide);have dC:bq I M0 ((ad.add (i*5)).add 2) 1 [.int .i64 zj]:=z2.part (k:=2) (m:=1) (by decide);have dz:bq I M0 ((ad.add (i*5)).add 3) 1 [.slice Lu 0 Lw]:=z2.part (k:=3) (m:=1) (by decide);have gr:bq I M0 ((ad.add (i*5)).add 4) 1 [.int .i64 sat]:=z2.part (k:=4) (m:=1) (by decide);have dO:bq I M0 ((hU.add (i*5)).add 0) 1 [.int .u8 ek]:=jW.part (k:=0) (m:=1) (by decide);have b1:bq I M0 ((hU.add (i*5)).add 1) 1 [.int .u8 Ep]:=jW.part (k:=1) (m:=1) (by decide);have cc:bq I M0 ((hU.add (i*5)).add 2) 1 [.int .i64 zj]:=jW.part (k:=2) (m:=1) (by decide);have gR:bq I M0 ((hU.add (i*5)).add 3) 1 [.slice Lu 0 Lw]:=jW.part (k:=3) (m:=1) (by decide);have vI:bq I M0 ((hU.add (i*5)).add 4) 1 [.int .i64 sat]:=jW.part (k:=4) (m:=1) (by decide);refine cr.draw aI rfl rfl rfl ?_;refine aW.mk ad i ba rfl ax ?_;refine aE.mk _ dE ?_;refine aW.mk hU i oC rfl ax ?_;refine aE.mk _ dO ?_;refine a9.mk (λ_=>?_) (λh=>absurd h (by simp));refine aW.mk ad i ba rfl ax ?_;refine aE.mk _ ca ?_;refine aW.mk hU i oC rfl ax ?_;refine aE.mk _ b1 ?_;refine a9.mk (λ_=>?_) (λh=>absurd h (by simp));refine aW.mk ad i ba rfl ax ?_;refine aE.mk _ dC ?_;refine aW.mk hU i oC rfl ax ?_;refine aE.mk _ cc ?_;refine a9.mk (λ_=>?_) (λh=>absurd h (by simp));refine aW.mk ad i ba rfl ax ?_;refine aE.mk _ gr ?_;refine aW.mk hU i oC rfl ax ?_;refine aE.mk _ vI ?_;refine a9.mk (λ_=>?_) (λh=>absurd h (by simp));refine aW.mk ad i ba rfl ax ?_;refine aE.mk _ dz ?_;refine aW.mk hU i oC rfl ax ?_;refine aE.mk _ gR ?_;refine aB.mk (λh=>absurd h (by simp)) (λ_=>?_);refine bu.inv (ι:=Nat) (λk=>{ a4:=[(0,.val (.slice a n c)),(1,.val (.slice b n c')),(5,.val (.int .i64 i)),(6,.val (.int .i64 k))],cl:=[],br:=I,bO:=M0 }) (λk=>k=0) (λk=>k) ?_ ?_
 ·exact⟨0,rfl,.refl,cI,.nil⟩
 rintro k rfl;refine aW.mk ad i ba rfl ax ?_;refine aE.mk _ dz ?_;refine aB.mk (λh=>absurd h (by simp)) (λ_=>?_);refine aQ.mk _ (bl (i:=i) (by omega)) ?_;exact⟨i+1,⟨ax,by omega⟩,.refl,cU,.nil⟩
structure apU(os0:aY)(n:Nat)(x:Nat×aY×List e1):Prop where
 i:x.1<=n
 ok:x.2.1.ok 5 (x.2.2.flatMap e1.cells)
 p:∀ s∈x.2.2,s.pn=0
 a:x.2.1.a=os0.a
 v:x.2.1.val=os0.val
set_option maxRecDepth 100000 in
def LM(pX:os0.ok 5 (L.flatMap e1.cells))(aN:∀ s∈L,s.pn=0)(ah:os0.n<=1000000):Spec Tryz.prog 14 [os0.val,.slice none 0 0] I (os0.aw 27++M0) λv I' M'=>I'=I:=by
 refine bn [] aI Tryz.func14 rfl rfl rfl ?_;intro B av;refine bu.inv (ι:=Nat×aY×List e1) (λx=>{ a4:=[(0,.val os0.val),(1,.val (.slice none 0 0)),(4,.val (.int .i64 x.1))],cl:=[],br:=I,bO:=x.2.1.aw 27++M0 }) (λx=>apU os0 os0.n x) (λx=>os0.n-x.1) ?_ ?_
 ·exact⟨(0,os0,L),⟨bQ _,pX,aN,rfl,rfl⟩,.refl,cU,.nil⟩
 rintro⟨i,os,ri⟩⟨hi,bf,rW,jT,jV⟩;simp only at hi bf rW jT jV;obtain⟨hV,zZ⟩:=En jV;have hlen:=bf.len;rw[gd _ 5 e1.bI]at hlen;refine aB.mk (λab=>?_) (λab=>?_)
 rotate_left
 ·refine bu.inv (ι:=Nat) (λk=>{ a4:=[(1,.val (.slice none 0 0)),(6,.val (.int .i64 k))],cl:=[],br:=I,bO:=os.aw 27++M0 }) (λk=>k=0) (λk=>k) ?_ ?_
  ·exact⟨0,rfl,.refl,ih,.nil⟩
  rintro k rfl;refine aB.mk (λh=>absurd h (by simp)) (λ_=>?_);exact⟨_,_,.refl,rfl⟩
 have ax:i<os0.n:=by have:(i:Int)<(os0.n:Int):=cq ab;omega
 have cd:i<ri.length:=by omega
 obtain⟨ad,ba,a3⟩:=aY.ok.row (I:=I) (e:=27) e1.bI (by decide) bf (M:=os.aw 27++M0) (λz a2=>gM _ a2) cd;have oB:=ba;rw[jT]at oB;have gV:=rW _ (bJ cd);have h6:bq I (os.aw 27++M0) ((ad.add (i*5)).add 3) 1 [.slice ri[i].pa ri[i].pn ri[i].pc]:=a3.part (k:=3) (m:=1) (by decide);rw[gV]at h6;refine bu.inv (ι:=Nat) (λk=>{ a4:=[(0,.val os0.val),(1,.val (.slice none 0 0)),(4,.val (.int .i64 i)),(5,.val (.int .i64 k))],cl:=[],br:=I,bO:=os.aw 27++M0 }) (λk=>k=0) (λk=>k) ?_ ?_
 ·exact⟨0,rfl,.refl,cI,.nil⟩
 rintro k rfl;refine aW.mk ad i oB rfl ax ?_;refine aE.mk _ h6 ?_;refine aB.mk (λh=>absurd h (by simp)) (λ_=>?_);refine aW.mk ad i oB rfl ax ?_;refine aY.Kx (e:=27) e1.cells 5 e1.bI bf cd 1 (vs:=[.int .u8 77]) (b9 rfl) rfl { ri[i]with w:=77 } rfl [] M0 rfl ba ?_;intro gL mR tj h8 eX;refine aQ.mk _ (bl (i:=i) (by omega)) ?_;refine⟨(i+1,gL,ri.set i { ri[i]with w:=77 }),⟨⟨ax,eX,λs ar=>?_,tj.trans jT,mR.trans jV⟩,by simp only;omega⟩,.refl,cU,.nil⟩;rcases FT ar with ar | rfl
 ·exact rW _ ar
 ·exact gV
section
variable{g h:bP}(cK:g.ds.length=g.n)(u0:h.ds.length=h.n)(e:h.a1=g.a1)
include cK u0 e
def oz.a1{r:Int×Int}(hw:oz cG h r):oz cG g r:=by
 have hm:cn cG h=cn cG g:=by rw[<-Ds,e,Ds]
 have e0:h.ds.map aK.a1=g.ds.map aK.a1:=congrArg bP.ds e;rcases hw with⟨a,rfl⟩ | ⟨a,F,bs,rfl⟩
 ·exact .inl ⟨by rw[<-hm];exact a,by rw[hm]⟩
 ·have apV:=v0 u0 a;have apW:=v0 cK (hm ▸ a);have aF:ke h.ds F=ke g.ds F:=by rw[<-Q5 apV,<-Q5 apW,<-Rr,e0,Rr]
  have a7:nO h.ds F=nO g.ds F:=by rw[<-Rq,e0,Rq]
  refine .inr ⟨by rw[<-hm];exact a,F,?_,by rw[aF,a7]⟩;have:=ag7 bs;rw[e0]at this;exact aaT this
def uX.a1(ar:uX cG h o):uX cG g o:=by obtain⟨r,U,rfl⟩:=ar;exact⟨r,U.a1 cK u0 e,by rw[<-Ex cG g,<-e,Ex]⟩
def sk.a1{s:e1}(ar:sk cG h s r):∃ tE,sk cG g s tE/\tE.1=r.1/\r.2.map aK.a1=tE.2.map aK.a1:=by
 obtain⟨x,U,rfl⟩:=ar;have e0:h.ds.map aK.a1=g.ds.map aK.a1:=congrArg bP.ds e;have aF:kt cG h=kt cG g:=by rw[<-Ex cG g,<-e,Ex]
 have a7:ei h=ei g:=by rw[<-HJ g,<-e,HJ]
 refine⟨_,⟨x,U.a1 cK u0 e,rfl⟩,?_⟩;rw[aF,a7];split
 ·split
  ·exact⟨rfl,by rw[<-z0,<-z0,e0]⟩
  ·exact⟨rfl,rfl⟩
 ·exact⟨rfl,rfl⟩
end
def acy(aN:∀ s∈L,s.pn=0){uU:aY}(ah:L.length<=1000000)(U:∀ j (h:j<L.length),∃ ad,os.a.map (λg=>(⟨g,0,none⟩:Addr))=some ad/\bq I M0 (ad.add (j*5)) 5 L[j].cells)(ab:∀ j (h:j<L.length),∃ ad,uU.a.map (λg=>(⟨g,0,none⟩:Addr))=some ad/\bq I M0 (ad.add (j*5)) 5 L[j].cells)(jk:os.n=L.length)(h8:uU.n=L.length):Spec Tryz.prog 10 [os.val,uU.val] I M0 λv I' M'=>v=.bool true/\I'=I/\M'=M0:=by obtain⟨a,n,c,cur⟩:=os;obtain⟨ch,lX,c',fi⟩:=uU;simp only at jk h8;subst jk;subst h8;exact apT aN ⟨rfl,ah,U⟩ ⟨rfl,ah,ab⟩
def apX(o:Option Int):∀ s∈jc o,s.pn=0:=λs ar=>by
 cases o with
 |none=>cases ar
 |some u=>
  have:s=ju (some u):=by simpa[jc]using ar
  rw[this];rfl
def apY(o:Option Int):(jc o).length<=1:=by cases o<;>simp[jc]
def acz(h:os.ok 5 (L.flatMap e1.cells)):os.n=L.length:=by have:=h.len;rw[gd _ 5 e1.bI]at this;omega
end Go.V
