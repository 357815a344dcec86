/- Part 9 of what the proofs of this seat share: the executor, data in memory, walks.
-/
import Derived.Test.YtelfblhcphnbmaaGreatDoorK8
import Derived.Test.YtelfblhcphnbmaaGreatDoorK7
set_option linter.all false
set_option maxHeartbeats 8000000
namespace Go.V
open Go Go.Proofs
variable{dD b c x e a w:Int}{g:b3}{s:ByteArray}
section
variable{I:aN}{M0:List aC}{g:b3}
def lJ.XR(ar:g.ok I)(hm:lJ g){i:Nat}(hi:i<g.ds.length){j:Nat}(al:j<g.ds[i].t.ns.length):HC g.ds[i].t.ns[j]:=
 hm.D1 ar _ (Lz.2 ⟨_,cO hi,cO al⟩)
set_option maxRecDepth 100000 in
def XS(ar:g.ok I)(aw:ui g)(hI:ed fv g=dD):Spec Tryz.prog 19 [g.val] I M0 λv I' M'=>I'=I/\M'=M0/\∃ w:Int,v=.tuple #[.int .i64 w,.int .i64 dD]/\(bif decide (dD=0)then((a3 (dn eS (dR g.ds)):Nat):Int)else 0)=w:=by
 have rI:=Oc (M0:=M0) Oi ar aw;rw[hI]at rI;have js:=ar.n;refine bC [] aS Tryz.func19 rfl rfl rfl ?_;intro B aq;refine aT.whole _ rI ?_;rintro v J N -⟨rfl,rfl,rfl⟩;by_cases sT:dD=0
 rotate_left
 ·refine cD.inv (ι:=Nat) (λx=>{ bA:=[(1,.ref 1 0),(4,.val (.int .i64 dD)),(5,.val (.int .i64 0)),(6,.val (.int .i64 0))],cl:=[(1,[.slice g.a g.n g.c])],cj:=J,dx:=N }) (λ_=>True) (λx=>0) ?_ ?_
  ·exact⟨0,trivial,.refl,dr,.cons rfl (.nil)⟩
  rintro - -;refine bo.mk (λe=>?_) (λe=>?_);·refine aI.mk (λaz=>absurd (cr az) sT) (λaz=>?_);exact⟨_,_,.refl,rfl,rfl,0,rfl,by rw[b8 sT];rfl⟩
  ·exact⟨_,_,.refl,rfl,rfl,0,rfl,by rw[b8 sT];rfl⟩
 have hm:lJ g:=y3 (hI.trans sT) λd ai=>(ar.ds d ai).t.n;have vl:=hm.DX;have zH:=hm.SL;have akj:∀ L:List aP,(∀ n∈L,n∈dR g.ds)->dn eS L<=L.length*300:=λL h=>XQ λn av=>aki (hm.D1 ar n (h n av));have eP:=akj (dR g.ds) (λn h=>h);rw[akh]at eP;refine cD.inv (ι:=Nat) (λx=>{ bA:=[(1,.ref 1 0),(4,.val (.int .i64 dD)),(5,.val (.int .i64 (dn eS (dR (g.ds.take x)):Nat))),(6,.val (.int .i64 x))],cl:=[(1,[.slice g.a g.n g.c])],cj:=J,dx:=N }) (λx=>x<=g.n) (λx=>g.n-x) ?_ ?_
 ·exact⟨0,bj _,.refl,dr,.cons rfl (.nil)⟩
 rintro i hi;refine bo.mk (λe=>?_) (λe=>?_)
 ·have aL:i<g.n:=by have:(i:Int)<(g.n:Int):=cr e;omega
  have bi:i<g.ds.length:=by omega
  refine aI.mk (λaz=>?_) (λaz=>absurd sT (b' az));obtain⟨ad,bR,bh⟩:=ar.aU.row a'.c0 aL bi;have hE:=(ar.ds _ (cO bi)).t;have kz:=hE.n;have akk:=hE.aU.cap.2;have kD:=λ(j:Nat) al=>lJ.XR ar hm bi (j:=j) al;have mS:=XP bi;have hle:dn eS (dR (g.ds.take i))+dn eS g.ds[i].t.ns<=307200:=by
   have U:dn eS (dR (g.ds.take (i+1)))<=dn eS (dR g.ds):=by
    have bc:dR g.ds=dR (g.ds.take (i+1))++dR (g.ds.drop (i+1)):=by
     conv=>lhs;rw[<-uR (i+1) g.ds]
     unfold dR;rw[lr]
    rw[bc,A5];omega
   rw[mS,A5]at U;omega
  have gY:∀ M,bE J M (((ad.add (i*3)).add 1).add 0) 1 [.slice g.ds[i].t.a g.ds[i].t.n g.ds[i].t.c]:=λM=>by have U:=((bh M).part (k:=1) (m:=2) (by decide)).part (k:=0) (m:=1) (by decide);exact U
  rw[<-A5,<-mS]at hle;have XT:∀ j,dn eS (dR (g.ds.take i))+dn eS (g.ds[i].t.ns.take j)<=307200:=λj=>by have U:dn eS (g.ds[i].t.ns.take j)<=dn eS g.ds[i].t.ns:=acs (List.take_sublist _ _);rw[mS,A5]at hle;omega
  have kx:dn eS (dR (g.ds.take i))+dn eS (g.ds[i].t.ns.take g.ds[i].t.n)=dn eS (dR (g.ds.take (i+1))):=by rw[mS,A5,gv (l:=g.ds[i].t.ns) (by omega)]
  refine a6.mk ad i bR rfl aL ?_;refine aJ.mk _ (gY _) ?_;generalize g.ds[i].t=t at *;generalize g4:dn eS (dR (g.ds.take i))=S at *;refine cD.inv (ι:=Nat) (λx=>{ bA:=[(1,.ref 1 0),(4,.val (.int .i64 dD)),(5,.val (.int .i64 ((S+dn eS (t.ns.take x):Nat):Int))),(6,.val (.int .i64 i)),(7,.val (.slice t.a t.n t.c)),(8,.val (.int .i64 x))],cl:=[(1,[.slice g.a g.n g.c])],cj:=J,dx:=N }) (λx=>x<=t.n) (λx=>t.n-x) ?_ ?_;·exact⟨0,bj _,.refl,nb,.cons rfl (.nil)⟩
  rintro j al;have rD:=XT j;refine aI.mk (λbc=>?_) (λbc=>?_)
  ·have dF:j<t.n:=by have:(j:Int)<(t.n:Int):=cr bc;omega
   have gn:j<t.ns.length:=by omega
   obtain⟨fi,kA,hb⟩:=hE.aU.row aP.c0 dF gn;have Jm:=kD j gn;have hU:S+dn eS (t.ns.take j)+eS t.ns[j]=S+dn eS (t.ns.take (j+1)):=by rw[HB gn];omega
   have amO:=XT (j+1);obtain⟨Q,km⟩:∃ Q,dn eS (t.ns.take j)=Q:=⟨_,rfl⟩;obtain⟨FC,akl⟩:∃ Q,dn eS (t.ns.take (j+1))=Q:=⟨_,rfl⟩;have Jn:Value.int .i64 ((S+dn eS (t.ns.take (j+1)):Nat):Int)=Value.int .i64 ((S+FC:Nat):Int):=by rw[akl]
   generalize t.ns[j]=d at *;have hw:eS d=1+(bif decide (d.k=2)then d.t.size else bif decide (d.k=6)then(d.lo+max d.hi 0).toNat else 0):=rfl;have dX:=Jm.lo;refine aQ.mk ((S+Q+1:Nat):Int) (e4 (show((S+dn eS (t.ns.take j):Nat):Int)+1=_ by omega) (by omega)) ?_;refine a6.mk fi j kA rfl dF ?_;refine aJ.mk _ ((hb _).part (k:=0) (m:=1) (by decide)) ?_;refine aI.mk (λct=>?_) (λct=>?_)
   ·have cp:d.k=2:=cr ct;have uy:¬ d.k=6:=by omega
    rw[fA cp,ba]at hw;refine a6.mk fi j kA rfl dF ?_;refine aJ.mk _ ((hb _).part (k:=5) (m:=1) (by decide)) ?_;refine aQ.mk ((S+FC:Nat):Int) (e4 (by omega) (by omega)) ?_;refine a6.mk fi j kA rfl dF ?_;refine aJ.mk _ ((hb _).part (k:=0) (m:=1) (by decide)) ?_;refine aI.mk (λej=>absurd (cr ej) uy) (λej=>?_);refine a6.mk fi j kA rfl dF ?_;refine aJ.mk _ ((hb _).part (k:=0) (m:=1) (by decide)) ?_;refine bo.mk (λgz=>absurd (cr gz) uy) (λgz=>?_);refine aQ.mk _ (bU (i:=j) (by omega)) ?_;exact⟨j+1,⟨dF,by omega⟩,.refl,.cons .refl (.cons .refl (.cons (pE Jn) (da))),.cons rfl (.nil)⟩
   have iA:¬ d.k=2:=b' ct;rw[b8 iA,a5]at hw;refine a6.mk fi j kA rfl dF ?_;refine aJ.mk _ ((hb _).part (k:=0) (m:=1) (by decide)) ?_;refine aI.mk (λej=>?_) (λej=>?_)
   ·have uh:d.k=6:=cr ej;obtain⟨eH,eI,fK,gK⟩:=dX uh;rw[fA uh,ba]at hw;refine a6.mk fi j kA rfl dF ?_;refine aJ.mk _ ((hb _).part (k:=6) (m:=1) (by decide)) ?_;refine aQ.mk ((S+Q+1+d.lo.toNat:Nat):Int) (e4 (show((S+Q+1:Nat):Int)+d.lo=_ by omega) (by omega)) ?_;refine a6.mk fi j kA rfl dF ?_;refine aJ.mk _ ((hb _).part (k:=0) (m:=1) (by decide)) ?_;refine bo.mk (λgz=>?_) (λgz=>absurd uh (b' gz));refine a6.mk fi j kA rfl dF ?_;refine aJ.mk _ ((hb _).part (k:=7) (m:=1) (by decide)) ?_;refine aI.mk (λiW=>?_) (λiW=>?_)
    ·have eg:0<=d.hi:=cr iW;refine a6.mk fi j kA rfl dF ?_;refine aJ.mk _ ((hb _).part (k:=7) (m:=1) (by decide)) ?_;refine aQ.mk ((S+FC:Nat):Int) (e4 (show((S+Q+1+d.lo.toNat:Nat):Int)+d.hi=_ by omega) (by omega)) ?_;refine aQ.mk _ (bU (i:=j) (by omega)) ?_;exact⟨j+1,⟨dF,by omega⟩,.refl,.cons .refl (.cons .refl (.cons (pE Jn) (da))),.cons rfl (.nil)⟩
    ·have eg:¬ 0<=d.hi:=b' iW;refine aQ.mk _ (bU (i:=j) (by omega)) ?_;rw[show S+Q+1+d.lo.toNat=S+FC by omega];exact⟨j+1,⟨dF,by omega⟩,.refl,.cons .refl (.cons .refl (.cons (pE Jn) (da))),.cons rfl (.nil)⟩
   have uy:¬ d.k=6:=b' ej;rw[b8 uy,a5]at hw;refine a6.mk fi j kA rfl dF ?_;refine aJ.mk _ ((hb _).part (k:=0) (m:=1) (by decide)) ?_;refine bo.mk (λgz=>absurd (cr gz) uy) (λgz=>?_);refine aQ.mk _ (bU (i:=j) (by omega)) ?_;rw[show S+Q+1=S+FC by omega];exact⟨j+1,⟨dF,by omega⟩,.refl,.cons .refl (.cons .refl (.cons (pE Jn) (da))),.cons rfl (.nil)⟩
  ·have c1:j=t.n:=by have:¬ (j:Int)<(t.n:Int):=b' bc;omega
   subst c1;refine aQ.mk _ (bU (i:=i) (by omega)) ?_;rw[kx];exact⟨i+1,⟨aL,by omega⟩,.refl,dr,.cons rfl (.nil)⟩
 ·have c1:i=g.n:=by have:¬ (i:Int)<(g.n:Int):=b' e;omega
  subst c1;refine⟨_,_,.refl,rfl,rfl,_,rfl,?_⟩;rw[fA sT,ba,gv (by omega),Pa (by omega)]
end
section
variable{I:aN}{M0:List aC}{g:b3}
set_option maxRecDepth 100000 in
def akm(ar:g.ok I)(aw:ui g)(hI:ed fv g=dD)(af:gj b)(aA:gj c):Spec Tryz.prog 20 [g.val,.int .i64 b,.int .i64 c] I M0 λv I' M'=>I'=I/\M'=M0/\∃ w:Int,v=.tuple #[.int .i64 w,.int .i64 dD]/\(bif decide (dD=0)then qC g.ds b c else 0)=w:=by
 have rI:=Oc (M0:=M0) Oi ar aw;rw[hI]at rI;have js:=ar.n;refine bC [] aS Tryz.func20 rfl rfl rfl ?_;intro B aq;refine aT.whole _ rI ?_;rintro v J N -⟨rfl,rfl,rfl⟩;refine bo.mk (λe=>?_) (λe=>?_)
 rotate_left
 ·have ax:dD≠0:=λaz=>by rw[az]at e;cases e
  exact⟨_,_,.refl,rfl,rfl,0,rfl,by rw[b8 ax];rfl⟩
 have sT:dD=0:=by
  have aK:(!decide (dD=0))=false:=e;by_cases bg:dD=0;·exact bg
  ·rw[b8 bg]at aK;cases aK
 have ah:Value.int .i64 dD=Value.int .i64 0:=by rw[sT]
 refine bo.mk (λaz=>?_) (λaz=>?_)
 rotate_left
 ·refine⟨_,_,.refl,rfl,rfl,0,rfl,?_⟩;rw[qC,show decide (b<0)=true from az,si,ba];cases decide (dD=0)<;>rfl
 refine aI.mk (λbc=>?_) (λbc=>?_)
 ·refine⟨_,_,.refl,rfl,rfl,0,rfl,?_⟩;rw[qC,show decide (c<0)=true from bc,qz,ba];cases decide (dD=0)<;>rfl
 have g6:¬ b<0:=b' az;have hJ:¬ c<0:=b' bc;have dL:qC g.ds b c=((y5 g.ds b.toNat c.toNat:Nat):Int):=by rw[qC,b8 g6,b8 hJ];rfl
 rw[dL];obtain⟨b,rfl⟩:∃ n:Nat,b=n:=⟨b.toNat,by omega⟩;obtain⟨c,rfl⟩:∃ n:Nat,c=n:=⟨c.toNat,by omega⟩;rw[jA,jA];obtain⟨-,m8⟩:=af;obtain⟨-,vg⟩:=aA;have hm:lJ g:=y3 (hI.trans sT) λd ai=>(ar.ds d ai).t.n;have zH:=hm.SL;refine cD.inv (ι:=Nat) (λx=>{ bA:=[(1,.val (.int .i64 b)),(2,.val (.int .i64 c)),(3,.ref 3 0),(9,.val (.int .i64 (a3 (dn (iG b) (dR (g.ds.take x))):Nat))),(10,.val (.int .i64 x))],cl:=[(3,[.slice g.a g.n g.c])],cj:=J,dx:=N }) (λx=>x<=g.n) (λx=>g.n-x) ?_ ?_
 ·exact⟨0,bj _,.refl,kQ,.cons rfl (.nil)⟩
 rintro i hi;refine aI.mk (λe=>?_) (λe=>?_)
 ·have aL:i<g.n:=by have:(i:Int)<(g.n:Int):=cr e;omega
  have bi:i<g.ds.length:=by omega
  obtain⟨ad,bR,bh⟩:=ar.aU.row a'.c0 aL bi;have hE:=(ar.ds _ (cO bi)).t;have kz:=hE.n;have akk:=hE.aU.cap.2;have kD:=λ(j:Nat) al=>lJ.XR ar hm bi (j:=j) al;have mS:=XP bi;have gY:∀ M,bE J M (((ad.add (i*3)).add 1).add 0) 1 [.slice g.ds[i].t.a g.ds[i].t.n g.ds[i].t.c]:=λM=>by have U:=((bh M).part (k:=1) (m:=2) (by decide)).part (k:=0) (m:=1) (by decide);exact U
  have kx:dn (iG b) (dR (g.ds.take i))+dn (iG b) (g.ds[i].t.ns.take g.ds[i].t.n)=dn (iG b) (dR (g.ds.take (i+1))):=by rw[mS,A5,gv (l:=g.ds[i].t.ns) (by omega)]
  refine a6.mk ad i bR rfl aL ?_;refine aJ.mk _ (gY _) ?_;generalize g.ds[i].t=t at *;generalize g4:dn (iG b) (dR (g.ds.take i))=S at *;refine cD.inv (ι:=Nat) (λx=>{ bA:=[(1,.val (.int .i64 b)),(2,.val (.int .i64 c)),(3,.ref 3 0),(9,.val (.int .i64 (a3 (S+dn (iG b) (t.ns.take x)):Nat))),(10,.val (.int .i64 i)),(11,.val (.slice t.a t.n t.c)),(12,.val (.int .i64 x))],cl:=[(3,[.slice g.a g.n g.c])],cj:=J,dx:=N }) (λx=>x<=t.n) (λx=>t.n-x) ?_ ?_;·exact⟨0,bj _,.refl,lT,.cons rfl (.nil)⟩
  rintro j al;refine aI.mk (λbc=>?_) (λbc=>?_)
  ·have dF:j<t.n:=by have:(j:Int)<(t.n:Int):=cr bc;omega
   have gn:j<t.ns.length:=by omega
   obtain⟨fi,kA,hb⟩:=hE.aU.row aP.c0 dF gn;have Jm:=kD j gn;have hU:S+dn (iG b) (t.ns.take (j+1))=S+dn (iG b) (t.ns.take j)+iG b t.ns[j]:=by rw[HB gn];omega
   obtain⟨Q,km⟩:∃ Q,S+dn (iG b) (t.ns.take j)=Q:=⟨_,rfl⟩;rw[km]at hU;generalize t.ns[j]=d at *;have hw:iG b d=(bif decide (d.k=3)then 1 else bif decide (d.k=6)then b+2+d.hi.toNat else d.kn)+1:=rfl;have dX:=Jm.lo;have dP:=Jm.kn;have fin:∀ q,a3 (Q+iG b d)=q->Value.int .i64 ((a3 (S+dn (iG b) (t.ns.take (j+1))):Nat):Int)=Value.int .i64 ((q:Nat):Int):=λq h=>by rw[hU,h]
   have s1:=hv (a3 Q+1);have eh:=hv Q;have Pc:a3 (a3 Q+1)=a3 (Q+1):=lH _ _;refine aT.whole _ (show Spec Tryz.prog 53 [.int .i64 ((a3 (S+dn (iG b) (t.ns.take j)):Nat):Int),.int .i64 1] J N _ by rw[km];exact pW (a3 Q) 1 (by omega) (by omega)) ?_;rintro v I' M' -⟨rfl,rfl,rfl⟩;refine a6.mk fi j kA rfl dF ?_;refine aJ.mk _ ((hb _).part (k:=0) (m:=1) (by decide)) ?_;refine aI.mk (λct=>?_) (λct=>?_);·have eD:d.k=3:=cr ct;rw[fA eD,ba]at hw;refine aT.whole _ (pW (a3 (a3 Q+1)) 1 (by omega) (by omega)) ?_;rintro v I' M' -⟨rfl,rfl,rfl⟩;refine aQ.mk _ (bU (i:=j) (by omega)) ?_;exact⟨j+1,⟨dF,by omega⟩,.refl,.cons .refl (.cons .refl (.cons .refl (.cons (pE (fin _ (by rw[Pc,lH,hw]))) (da)))),.cons rfl (.nil)⟩
   have rq:¬ d.k=3:=b' ct;rw[b8 rq,a5]at hw;refine aI.mk (λej=>?_) (λej=>?_)
   ·have uh:d.k=6:=cr ej;obtain⟨eH,eI,fK,gK⟩:=dX uh;rw[fA uh,ba]at hw;have s2:=hv (b+2);have fJ:=hv (a3 (a3 Q+1)+a3 (b+2));refine aT.whole _ (pW b 2 (by omega) (by omega)) ?_;rintro v I' M' -⟨rfl,rfl,rfl⟩;refine aT.whole _ (pW (a3 (a3 Q+1)) (a3 (b+2)) (by omega) (by omega)) ?_;rintro v I' M' -⟨rfl,rfl,rfl⟩;refine a6.mk fi j kA rfl dF ?_;refine aJ.mk _ ((hb _).part (k:=7) (m:=1) (by decide)) ?_;have ja:a3 (a3 (a3 Q+1)+a3 (b+2))=a3 (Q+1+(b+2)):=by rw[Pc,Hm,lH]
    refine aI.mk (λiW=>?_) (λiW=>?_);·have eg:0<d.hi:=cr iW;obtain⟨q,aE⟩:∃ q:Nat,d.hi=q:=⟨d.hi.toNat,by omega⟩;refine a6.mk fi j kA rfl dF ?_;refine aJ.mk _ ((hb _).part (k:=7) (m:=1) (by decide)) ?_;refine aT.whole _ (show Spec Tryz.prog 53 [.int .i64 ((a3 (a3 (a3 Q+1)+a3 (b+2)):Nat):Int),.int .i64 d.hi] I' M' _ by rw[aE];exact pW (a3 (a3 (a3 Q+1)+a3 (b+2))) q (by omega) (by omega)) ?_;rintro v I' M' -⟨rfl,rfl,rfl⟩;refine aQ.mk _ (bU (i:=j) (by omega)) ?_;exact⟨j+1,⟨dF,by omega⟩,.refl,.cons .refl (.cons .refl (.cons .refl (.cons (pE (fin _ (by rw[ja,lH,hw,show d.hi.toNat=q by omega];congr 1;omega))) (da)))),.cons rfl (.nil)⟩
    ·have eg:¬ 0<d.hi:=b' iW;refine aQ.mk _ (bU (i:=j) (by omega)) ?_;exact⟨j+1,⟨dF,by omega⟩,.refl,.cons .refl (.cons .refl (.cons .refl (.cons (pE (fin _ (by rw[ja,hw,show d.hi.toNat=0 by omega];congr 1;omega))) (da)))),.cons rfl (.nil)⟩
   have uy:¬ d.k=6:=b' ej;rw[b8 uy,a5]at hw;refine a6.mk fi j kA rfl dF ?_;refine aJ.mk _ ((hb _).part (k:=8) (m:=1) (by decide)) ?_;refine aT.whole _ (pW (a3 (a3 Q+1)) d.kn (by omega) (by omega)) ?_;rintro v I' M' -⟨rfl,rfl,rfl⟩;refine aQ.mk _ (bU (i:=j) (by omega)) ?_;exact⟨j+1,⟨dF,by omega⟩,.refl,.cons .refl (.cons .refl (.cons .refl (.cons (pE (fin _ (by rw[Pc,lH,hw];congr 1;omega))) (da)))),.cons rfl (.nil)⟩
  ·have c1:j=t.n:=by have:¬ (j:Int)<(t.n:Int):=b' bc;omega
   subst c1;refine aQ.mk _ (bU (i:=i) (by omega)) ?_;refine⟨i+1,⟨aL,by omega⟩,.refl,.cons .refl (.cons .refl (.cons .refl (.cons (pE ?_) (.cons .refl .nil)))),.cons rfl (.nil)⟩;rw[<-kx]
 ·have c1:i=g.n:=by have:¬ (i:Int)<(g.n:Int):=b' e;omega
  subst c1;have oj:g.ds.take g.n=g.ds:=gv (by omega);have s1:=hv (b+1);obtain⟨S,g4⟩:∃ S,dn (iG b) (dR (g.ds.take g.n))=S:=⟨_,rfl⟩;have s2:=hv (a3 S*a3 (b+1));refine aT.whole _ (pW b 1 (by omega) (by omega)) ?_;rintro v I' M' -⟨rfl,rfl,rfl⟩;refine aT.whole _ (show Spec Tryz.prog 54 [.int .i64 ((a3 (dn (iG b) (dR (g.ds.take g.n))):Nat):Int),.int .i64 ((a3 (b+1):Nat):Int)] I' M' _ by rw[g4];exact Pb (a3 S) (a3 (b+1))) ?_;rintro v I' M' -⟨rfl,rfl,rfl⟩;refine aT.whole _ (pW (a3 (a3 S*a3 (b+1))) c (by omega) (by omega)) ?_;rintro v I' M' -⟨rfl,rfl,rfl⟩;refine⟨_,_,.refl,rfl,rfl,((y5 g.ds b c:Nat):Int),?_,by rw[fA sT];rfl⟩;have e:a3 (a3 (a3 S*a3 (b+1))+c)=y5 g.ds b c:=by rw[yT,yU,lH,<-g4,oj];rfl
  rw[e,sT]
inductive B9(g:b3)(s:ByteArray)(dD x e:Int):Prop
 |bad(h:dD≠0)(ab:x=0)(he:e=dD)| XU (h:dD=0) (ao:4096<s.size) (ab:x=0) (he:e=40)| none (h:dD=0) (ao:s.size<=4096) (n:Nat) (a0:Int) (aA:vP g s 0 0 n a0) (aq:a0≠0) (ab:x=0) (he:e=a0)| is (h:dD=0) (ao:s.size<=4096) (n:Nat) (aA:vP g s 0 0 n 0) (ab:x=nK ((a3 (dn eS (dR g.ds)):Nat):Int) (s.size:Int) (n:Int)) (he:e=0)
def B9.eq{mv a0:Int}(h:B9 g s dD x e)(a1:B9 g s dD mv a0):x=mv/\e=a0:=by
 rcases h with⟨bN,cG,c6⟩ | ⟨bN,fk,cG,c6⟩ | ⟨bN,fk,n,f,hz,jD,cG,c6⟩ | ⟨bN,fk,n,hz,cG,c6⟩<;>rcases a1 with⟨cg,b2,eQ⟩ | ⟨cg,k3,b2,eQ⟩ | ⟨cg,k3,m,wI,h9,dj,b2,eQ⟩ | ⟨cg,k3,m,h9,b2,eQ⟩
 all_goals first
  |exact⟨cG.trans b2.symm,c6.trans eQ.symm⟩| exact absurd bN cg| exact absurd cg bN|(exfalso;omega)| skip
 ·have:=hz.eq h9;exact⟨cG.trans b2.symm,by rw[c6,eQ,this.2]⟩
 ·exact absurd (hz.eq h9).2 jD
 ·exact absurd (h9.eq hz).2 dj
 ·obtain⟨rfl,-⟩:=hz.eq h9;exact⟨cG.trans b2.symm,c6.trans eQ.symm⟩
def vP.XV{n:Nat}(h:vP g s a b n e):n<=1099511627776:=by
 rcases h with⟨-,rfl,-⟩ | ⟨i,j,BE,xw,FA,FB,z3,rfl,cG⟩ | ⟨i,j,BE,xw,FA,FB,z3,rfl,cG⟩ | ⟨i,j,BE,xw,FA,FB,z3,rfl,cG⟩
 ·omega
 ·omega
 ·omega
 ·have:=(sJ (jX g s) (oF g i) j).ge z3;omega
def akn(ar:g.ok I)(aw:ui g)(av:g.n<=4096)(hI:ed fv g=dD)(s:ByteArray):Spec Tryz.prog 21 [g.val,.string s] I [] λv I' M'=>(∀ b o,I b=some o->I' b=some o)/\M'=[]/\∃ x e:Int,v=.tuple #[.int .i64 x,.int .i64 e]/\B9 g s dD x e:=by
 refine bC [] aS Tryz.func21 rfl rfl rfl ?_;intro B aq;refine aT.whole _ (akc ar aw av hI s) ?_;rintro v J M -⟨bO,ah⟩;rcases ah with⟨U,rfl,rfl⟩ | ⟨U,aa,rfl,rfl⟩ | ⟨U,aa,t,rfl,rfl,dg,sQ,vf,bb⟩
 ·refine aI.mk (λe=>?_) (λe=>?_)
  ·exact⟨_,_,.refl,bO,rfl,0,dD,rfl,.bad U rfl rfl⟩
  ·have aK:(!decide (dD=0))=false:=e;rw[b8 U]at aK;cases aK
 ·refine aI.mk (λe=>?_) (λe=>by cases e);exact⟨_,_,.refl,bO,rfl,0,40,rfl,.XU U aa rfl rfl⟩
 refine aI.mk (λe=>by cases e) (λ_=>?_);refine aT.whole _ (ake (Mr:=[]) bb (ez.aka sQ dg vf) sQ dg aj9 0 0) ?_;rintro v K N -⟨rfl,n,e,C',aA,rfl,rfl,XA⟩;have p6:=aA.XV;by_cases he:e=0
 rotate_left
 ·refine aI.mk (λaz=>?_) (λaz=>?_)
  ·exact⟨_,[],.sub (dJ _) .refl,bO,rfl,0,e,rfl,.none U aa n e aA he rfl rfl⟩
  ·have aK:(!decide (e=0))=false:=az;rw[b8 he]at aK;cases aK
 have vv:(!decide (e=0))=false:=by rw[fA he];rfl
 refine aI.mk (λaz=>Vd vv az) (λ_=>?_);have xJ:=ar.mono bO;refine aT.whole _ (XS xJ aw hI) ?_;rintro v ako Sl -⟨rfl,rfl,w,rfl,hw⟩;rw[fA U,ba]at hw;subst hw;have kw:=hv (dn eS (dR g.ds));refine aT.whole _ (XO ((a3 (dn eS (dR g.ds)):Nat):Int) (s.size:Int) (n:Int) rfl ⟨by omega,by omega⟩ ⟨by omega,by omega⟩ ⟨by omega,by omega⟩) ?_;rintro v akp Sm -⟨rfl,rfl,rfl⟩;subst he;exact⟨_,[],.sub (dJ _) .refl,bO,rfl,_,0,rfl,.is U aa n aA rfl rfl⟩
def akq(br:hG I fv)(ar:g.ok I)(av:g.n<=4096)(hI:ed fv g=dD)(s:ByteArray):Spec Tryz.prog 17 [g.val,.string s] I [] λv I' M'=>(∀ b o,I b=some o->I' b=some o)/\M'=[]/\∃ x e:Int,v=.tuple #[.int .i64 x,.int .i64 e]/\B9 g s dD x e:=by
 have fO:=ajd br ar av s;unfold Xj at fO;rw[hI]at fO;refine bC [] aS Tryz.func17 rfl rfl rfl ?_;intro B aq;refine aT.whole _ fO ?_;rintro v J M -⟨bO,rfl,ah⟩;rcases ah with⟨U,rfl⟩ | ⟨U,aa,rfl⟩ | ⟨U,aa,t,T,rfl,nt⟩
 ·refine aI.mk (λe=>?_) (λe=>?_)
  ·exact⟨_,_,.refl,bO,rfl,0,dD,rfl,.bad U rfl rfl⟩
  ·have aK:(!decide (dD=0))=false:=e;rw[b8 U]at aK;cases aK
 ·refine aI.mk (λe=>?_) (λe=>by cases e);exact⟨_,_,.refl,bO,rfl,0,40,rfl,.XU U aa rfl rfl⟩
 refine aI.mk (λe=>by cases e) (λ_=>?_);have js:=ar.n;have hm:lJ g:=y3 (hI.trans U) λd ai=>(ar.ds d ai).t.n;have fQ:∀ d∈g.ds,∀ n∈d.t.ns,0<=n.k:=λd ai n av=>((ar.ds d ai).t.ns n av).k.1;refine aT.whole _ (ajD nt hm (nt.ajA hm fQ aa) js 0 0) ?_;rintro v K N -⟨rfl,rfl,n,e,aA,rfl⟩;have p6:=aA.XV;by_cases he:e=0
 rotate_left
 ·refine aI.mk (λaz=>?_) (λaz=>?_)
  ·exact⟨_,_,.refl,bO,rfl,0,e,rfl,.none U aa n e aA he rfl rfl⟩
  ·have aK:(!decide (e=0))=false:=az;rw[b8 he]at aK;cases aK
 have vv:(!decide (e=0))=false:=by rw[fA he];rfl
 refine aI.mk (λaz=>Vd vv az) (λ_=>?_);have xJ:=ar.mono bO;have kw:=hv (dn eS (dR g.ds));refine aT.whole _ (SO xJ (hm.D1 xJ)) ?_;rintro v ako Sl -⟨rfl,akr,rfl⟩;refine aT.whole _ (V6 ((a3 (dn eS (dR g.ds)):Nat):Int) (s.size:Int) (n:Int) rfl ⟨by omega,by omega⟩ ⟨by omega,by omega⟩ ⟨by omega,by omega⟩) ?_;rintro v akp Sm -⟨rfl,rfl,rfl⟩;subst he;exact⟨_,_,.refl,λb o h=>akr _ _ (bO _ _ h),rfl,_,0,rfl,.is U aa n aA rfl rfl⟩
end
section
variable{I:aN}{M0:List aC}{g:b3}
def aks(ar:g.ok I)(aw:ui g)(hI:ed fv g=dD)(hw:(bif decide (dD=0)then((a3 (dn eS (dR g.ds)):Nat):Int)else 0)=w):Spec Tryz.prog 19 [g.val] I M0 λv I' M'=>I'=I/\M'=M0/\v=.tuple #[.int .i64 w,.int .i64 dD]:=by refine Spec.qH (XS ar aw hI) ?_;rintro v J M⟨U,aa,w',ag,aK⟩;exact⟨U,aa,by rw[ag,<-hw,aK]⟩
def akt(ar:g.ok I)(aw:ui g)(hI:ed fv g=dD)(hw:(bif decide (dD=0)then qC g.ds b c else 0)=w)(af:gj b)(aA:gj c):Spec Tryz.prog 20 [g.val,.int .i64 b,.int .i64 c] I M0 λv I' M'=>I'=I/\M'=M0/\v=.tuple #[.int .i64 w,.int .i64 dD]:=by refine Spec.qH (akm ar aw hI af aA) ?_;rintro v J M⟨U,aa,w',ag,aK⟩;exact⟨U,aa,by rw[ag,<-hw,aK]⟩
def aku(ar:g.ok I)(aw:ui g)(av:g.n<=4096)(hI:ed fv g=dD)(aH:B9 g s dD x e):Spec Tryz.prog 21 [g.val,.string s] I [] λv I' M'=>(∀ b o,I b=some o->I' b=some o)/\M'=[]/\v=.tuple #[.int .i64 x,.int .i64 e]:=by refine Spec.qH (akn ar aw av hI s) ?_;rintro v J M⟨U,aa,mv,a0,ag,aK⟩;obtain⟨rfl,rfl⟩:=aH.eq aK;exact⟨U,aa,ag⟩
end
set_option maxRecDepth 100000 in
def akv{I:aN}(br:hG I fv)(vw:qx I g)(aD:gj a)(af:gj b)(aA:gj c)(ao:s.size<=9223372036854775807):uD Tryz.prog 4 [g.val,.int .i64 a,.int .i64 b,.int .i64 c,.string s] I [] λv _ _=>v=.bool true:=by
 obtain⟨dD,hI⟩:∃ dD,ed fv g=dD:=⟨_,rfl⟩;obtain⟨w,hw⟩:∃ w:Int,(bif decide (dD=0)then((a3 (dn eS (dR g.ds)):Nat):Int)else 0)=w:=⟨_,rfl⟩;obtain⟨x,ab⟩:∃ x:Int,(bif decide (dD=0)then qC g.ds b c else 0)=x:=⟨_,rfl⟩;obtain⟨u,hu⟩:∃ u,nK a b c=u:=⟨_,rfl⟩;have eqs:∀ z:Int,decide (z=z)=true:=λz=>fA rfl;refine Al [] aS Tryz.func4 rfl rfl rfl ?_;intro B aq;refine aT.mk [] [] _ (.refl _) (abG vw s) ?_;rintro v akw N -⟨⟨akx,rfl,gY⟩,FY,gp⟩;subst akw;subst N;cases akx with
 |true=>refine aI.mk (λ_=>?_) (λh=>by cases h);refine aT.mk [] [] _ (.refl _) (Ve br) ?_;rintro v aky N -⟨rfl,amP,rfl⟩;exact⟨_,_,.refl,rfl⟩
 |false=>
 obtain⟨Ac,amQ⟩:=gY rfl;have ar:=vw.DT Ac;have js:=ar.n;have u2:=Ac.n;have aw:=Ac.fit ar;refine aI.mk (λh=>by cases h) (λ_=>?_);refine aT.whole _ (ag9 br ar hI hw) ?_;rintro v aco N -⟨HD,rfl,rfl⟩;have ou:=br.mono HD;have l1:=ar.mono HD;refine aT.whole _ (aks l1 aw hI hw) ?_;rintro v aky N -⟨rfl,rfl,rfl⟩;refine aT.whole _ (aha ou l1 hI ab af aA) ?_;rintro v amR N -⟨XW,rfl,rfl⟩;have XX:=ou.mono XW;have Pd:=l1.mono XW;refine aT.whole _ (akt Pd aw hI ab af aA) ?_;rintro v amS N -⟨rfl,rfl,rfl⟩;refine aT.whole _ (akq XX Pd (by omega) hI s) ?_;rintro v amT N -⟨XY,rfl,y,e,rfl,aH⟩;have NQ:=XX.mono XY;have G5:=Pd.mono XY;refine aT.whole _ (aku G5 aw (by omega) hI aH) ?_;rintro v amU N -⟨akz,rfl,rfl⟩;have Ix:=NQ.mono akz;refine bo.mk (λ_=>?_) (λh=>rE (eqs _) h);refine bo.mk (λ_=>?_) (λh=>rE (eqs _) h);refine bo.mk (λ_=>?_) (λh=>rE (eqs _) h);refine bo.mk (λ_=>?_) (λh=>rE (eqs _) h);refine bo.mk (λ_=>?_) (λh=>rE (eqs _) h);refine bo.mk (λ_=>?_) (λh=>rE (eqs _) h);refine aT.whole _ (V6 a b c hu aD af aA) ?_;rintro v amV N -⟨rfl,rfl,rfl⟩;refine aT.whole _ (XO a b c hu aD af aA) ?_;rintro v amW N -⟨rfl,rfl,rfl⟩;refine bo.mk (λ_=>?_) (λh=>rE (eqs _) h);refine aT.mk [] [] _ (.refl _) (Ve Ix) ?_;rintro v amX N -⟨rfl,amY,rfl⟩;exact⟨_,_,.refl,rfl⟩
end Go.V
