/- Part 9 of what the proofs of this seat share: the executor, data in memory, walks.
-/
import Derived.Test.YtbcembbdimcdlaaGreatDoorK8
import Derived.Test.YtbcembbdimcdlaaGreatDoorK7
import Derived.Test.YtbcembbdimcdlaaGreatDoorK6
import Derived.Test.YtbcembbdimcdlaaGreatDoorK4
set_option linter.all false
set_option maxHeartbeats 8000000
set_option maxRecDepth 100000
namespace Go.V
open Go Go.Proofs
variable{M0 Mr M a9 post NB:List aE}{a b c k n j w size a0 N:Nat}{d:bm}{t u:eM}{A:Nat->Nat->Prop}{C:Nat->Nat->dc}{bs b6 L:List Nat}{vs xs cs:List Value}{K:List aE->Prop}{I':aH}{os:a'}{e a4 av:Int}{P:cu}{kn:Nat->Nat->b8}{l caps:List eD}{o o':rq}{aL:List Int}
def Rj(t:eM)(A:Nat->Nat->Prop)(C:Nat->Nat->dc)(f:(Nat->Nat->b8)->b8)(I:aH)(Mr:List aE)(v:Value)(I':aH)(M':List aE):Prop:=
 I'=I/\∃ (c:dc) (C':Nat->Nat->dc),v=c.val/\M'=cF C' t.w 0 t.bs++Mr/\gr t.P A C'/\fi t.P A f c/\pN C C' (c.is=2)
def La(I:aH)(t:eM)(n:Nat):Prop:=∀ (A:Nat->Nat->Prop) (C:Nat->Nat->dc) (i j a:Nat) (Mr:List aE),B1 t.N t.w C<n->gr t.P A C->(∃ h:i<t.ts.length,j<t.ts[i].ns.length)->a<=t.s.size -> Spec Tryz.prog 72 [ptr t.bt,.int .i64 i,.int .i64 j,.int .i64 a] I (cF C t.w 0 t.bs++Mr) (Rj t A C (λm=>m (t.no i j) a) I Mr)
structure ZV(I:aH)(t:eM)(i m:Nat)(y:a3)(k:Nat):Prop where
 ok:y.ok I
 av:t.P.av k=xD t.g.ds (fH t.ts i) y
 nk:∀ x∈y.aM,0<=x/\x.toNat<m
 one:6<=y.k->y.aM.length=1
 l7:y.k=6->y.hi=-1\/(0<=y.hi/\y.hi<=99)
 di:y.k=3->0<=cy y.t t.g.ds 0
 Ga:y.t.size<=4096
 k:0<=y.k/\y.k<10
def alx{I:aH}{a b c d:Int}(gl:∀ x∈[a,b,c,d],fo x)(x:UInt8):Spec Tryz.prog 173 [.agg #[.int .u64 a,.int .u64 b,.int .u64 c,.int .u64 d],.int .u8 x.toNat] I M0 λv I' M'=>v=.bool (ln [a,b,c,d] x.toNat)/\I'=I/\M'=M0:=by refine Spec.rN (Spec.frame (XR gl x)) ?_;rintro v J M⟨M',rfl,-,-,rfl,rfl,rfl⟩;exact⟨rfl,rfl,rfl⟩
def Lb(a b:Nat):(min (1099511627776:Int) ((a+b:Nat):Int))=((e1 a b:Nat):Int):=by unfold e1;omega
def aly{k:Int}(h:0<=k/\k<10)(n0:k≠0)(gm:k≠1)(g6:k≠2)(tl:k≠3)(zP:k≠4)(Bw:k≠5)(DO:k≠6):k=7\/k=8\/k=9:=by omega
def eM.ok.rule{I:aH}(h:t.ok I){di:ByteArray}(aq:0<=cy di t.g.ds 0):∃ q r:Nat,cy di t.g.ds 0=q/\∃ az:q<t.ts.length,t.ts[q].bJ=(r:Int)/\r<t.ts[q].ns.length/\(ff 0 t.g.ds).getD (cy di t.g.ds 0).toNat 0=t.no q r:=by
 obtain⟨more,hm⟩:=h.a9;have U:=C0 t.g.ds 0 aq;obtain⟨q,az⟩:=iN aq;have fa:q<t.g.ds.length:=by omega
 have qM:q<t.ts.length:=by rw[hm];simp;omega
 have e:t.ts[q]=t.g.ds[q].t:=by
  have:(t.g.ds.map (·.t)++more)[q]?=some t.g.ds[q].t:=by rw[oX (by rw[dx];exact fa),vj,fJ fa];rfl
  rw[<-hm,fJ qM]at this;simpa using this
 have ao:=(h.rt _ (cZ qM)).bJ;obtain⟨r,mW⟩:=iN ao.1;refine⟨q,r,az,qM,mW,by omega,?_⟩;have sw:=v3 0 t.g.ds;rw[az,mm,dI,fJ (by omega:q<(ff 0 t.g.ds).length),j1,JG 0 t.g.ds q fa (by omega),dK];unfold eM.no;rw[show fH t.ts q=bz (t.g.ds.take q) by rw[hm];exact Kg _ _ (by omega),<-e,mW];rfl
def alz{I:aH}(bc:La I t n)(h:t.ok I)(an:B1 t.N t.w C<n)(eu:gr t.P A C){i:Nat}(hi:i<t.ts.length)(ax:a<=t.s.size){y:a3}{fN:Nat}(aG:ZV I t i t.ts[i].ns.length y fN)(Mr:List aE) :
  Spec Tryz.prog 119 [ptr t.bt,.int .i64 i,y.val,.int .i64 a] I (cF C t.w 0 t.bs++Mr) (Rj t A C (λm=>cX t.P m fN a) I Mr):=by
 have gz:=aG.av;have gO:=aG.ok;have eg:=gO.kn;have k2:=gO.a2.cap.2;have cr:=h.sz;have iA:=aG.Ga;have ah:∀ {x:Int},y.k=x->(t.P.av fN).d.k=x:=λe=>by rw[gz];exact e
 have mM:y.k≠3->(t.P.av fN).bL=y.aM.map λk=>fH t.ts i+k.toNat:=λe=>by rw[gz];show eR _ _ _=_;rw[eR,c0 e,bd]
 have B2:∀ x,x<y.kn->∃ (dh:Addr) (q:Nat),y.hK=some dh/\(∃ h:i<t.ts.length,q<t.ts[i].ns.length)/\(∀ M,bD I M (dh.add (x*1)) 1 [.int .i64 q])/\y.aM[x]?=some (q:Int):=λx ab=>by
  have g1:x<y.aM.length:=by omega
  obtain⟨dh,ev,dV⟩:=gO.a2.one (f:=λ(k:Int)=>Value.int .i64 k) ab g1;obtain⟨xT,dJ⟩:=aG.nk _ (cZ g1);obtain⟨q,az⟩:=iN xT;rw[az]at dV;exact⟨dh,q,ev,⟨hi,by omega⟩,dV,by rw[fJ g1,az]⟩
 have fp:∀ (x q:Nat),y.aM[x]?=some (q:Int)->(y.aM.map λk=>fH t.ts i+k.toNat).drop x=t.no i q::(y.aM.map λk=>fH t.ts i+k.toNat).drop (x+1):=λx q az=>by obtain⟨ab,e⟩:=iY.1 az;rw[eE (by rw[dx];exact ab),lH,e];rfl
 have h3:6<=y.k->∃ (dh:Addr) (q:Nat),y.kn=1/\y.hK=some dh/\(∃ h:i<t.ts.length,q<t.ts[i].ns.length)/\(∀ M,bD I M (dh.add (0*1)) 1 [.int .i64 q])/\(t.P.av fN).bL=[t.no i q]:=λb2=>by have U:=aG.one b2;obtain⟨dh,q,aC,ay,bf,b3⟩:=B2 0 (by omega);refine⟨dh,q,by omega,aC,ay,bf,?_⟩;rw[mM (by omega)];have:=fp 0 q b3;rw[oZ]at this;rw[this,hJ (by rw[dx];omega)]
 refine bU [] aT Tryz.func119 rfl rfl rfl ?_;intro B aq;refine aI.mk (λe=>?_) (λe=>?_)
 ·have a4:y.k=0:=cv e;exact⟨_,_,.refl,rfl,⟨4,a,0⟩,C,rfl,rfl,eu,.pure (.inr rfl) (uE (ah a4)),.refl⟩
 have n0:y.k≠0:=ct e;refine aI.mk (λe=>?_) (λe=>?_)
 ·have a4:y.k=1:=cv e;have ar:=λm=>uF (m:=m) (a:=a) (ah a4);have nQ:t.P.s=t.s:=rfl;have fB:∀ b,rm (t.P.av fN).d b=ln [y.fY,y.s1,y.s2,y.gM] b:=λb=>by rw[gz];rfl
  rw[nQ]at ar;refine cU.draw aT rfl rfl rfl ?_;refine aD.mk _ (h.dH (j:=0) (by decide)) ?_;refine bP.mk (λg=>?_) (λg=>?_)
  ·have aO:a<t.s.size:=by have:(a:Int)<(t.s.size:Int):=cv g;omega
   have aC:t.s.data[a]?=some t.s[a]:=Ew aO;refine aD.mk _ (h.dH (j:=0) (by decide)) ?_;refine qQ.mk a rfl aO ?_;refine aZ.whole _ (alx (a:=y.fY) (b:=y.s1) (c:=y.s2) (d:=y.gM) (λz a1=>by
    simp only[et,IF,or_false]at a1;rcases a1 with rfl | rfl | rfl | rfl;·exact gO.fY
    ·exact gO.s1
    ·exact gO.s2
    ·exact gO.gM) t.s[a]) ?_
   rintro v I' M' -⟨rfl,rfl,rfl⟩;refine aI.mk (λay=>?_) (λay=>?_);·refine aW.mk ((a+1:Nat):Int) (e0 (by simp) (by omega)) ?_;exact⟨_,_,.refl,rfl,⟨4,a+1,0⟩,C,rfl,rfl,eu,.pure (.inr rfl) (by rw[ar,aC];simp only[fB,ay,bg];rfl),.refl⟩
   ·exact⟨_,_,.refl,rfl,⟨3,0,0⟩,C,rfl,rfl,eu,.pure (.inl ⟨rfl,rfl⟩) (by rw[ar,aC];simp only[fB,ay,bd];rfl),.refl⟩
  ·have cI:t.s.data.size<=a:=by have:¬ (a:Int)<(t.s.size:Int):=ct g;have aa:t.s.size=t.s.data.size:=rfl;omega
   have aC:t.s.data[a]?=none:=Array.getElem?_eq_none cI;exact⟨_,_,.refl,rfl,⟨3,0,0⟩,C,rfl,rfl,eu,.pure (.inl ⟨rfl,rfl⟩) (by rw[ar,aC];rfl),.refl⟩
 have gm:y.k≠1:=ct e;refine aI.mk (λe=>?_) (λe=>?_)
 ·have a4:y.k=2:=cv e;have ar:∀ m,cX t.P m fN a=bif preB t.s y.t a then⟨0,a+y.t.size,3⟩else iS:=λm=>by rw[uG (ah a4),gz];rfl
  refine cU.draw aT rfl rfl rfl ?_;refine aD.mk _ (h.dH (j:=0) (by decide)) ?_;refine aW.mk ((t.s.size-a:Nat):Int) (e0 (by omega) (by omega)) ?_;refine bP.mk (λg=>?_) (λg=>?_)
  ·have bk:a+y.t.size<=t.s.size:=by have:(y.t.size:Int)<=((t.s.size-a:Nat):Int):=cv g;omega
   refine aD.mk _ (h.dH (j:=0) (by decide)) ?_;refine aW.mk ((a+y.t.size:Nat):Int) (e0 (by omega) (by omega)) ?_;refine jl.mk a (a+y.t.size) rfl rfl (by omega) bk ?_;refine aI.mk (λay=>?_) (λay=>?_)
   ·have aK:preB t.s y.t a=true:=by unfold preB;rw[gX bk];exact ay
    refine aW.mk ((a+y.t.size:Nat):Int) (e0 (by omega) (by omega)) ?_;exact⟨_,_,.refl,rfl,⟨4,a+y.t.size,0⟩,C,rfl,rfl,eu,.pure (.inr rfl) (by rw[ar,aK];rfl),.refl⟩
   ·have aK:preB t.s y.t a=false:=by unfold preB;rw[gX bk];exact ay
    exact⟨_,_,.refl,rfl,⟨3,0,0⟩,C,rfl,rfl,eu,.pure (.inl ⟨rfl,rfl⟩) (by rw[ar,aK];rfl),.refl⟩
  ·have bk:¬ a+y.t.size<=t.s.size:=by have:¬ (y.t.size:Int)<=((t.s.size-a:Nat):Int):=ct g;omega
   have aK:preB t.s y.t a=false:=by unfold preB;rw[c0 bk];rfl
   exact⟨_,_,.refl,rfl,⟨3,0,0⟩,C,rfl,rfl,eu,.pure (.inl ⟨rfl,rfl⟩) (by rw[ar,aK];rfl),.refl⟩
 have g6:y.k≠2:=ct e;refine aI.mk (λe=>?_) (λe=>?_)
 ·have a4:y.k=3:=cv e;obtain⟨q,r,az,qM,ao,hN,yK⟩:=h.rule (aG.di a4);have has:(t.P.av fN).bL=[t.no q r]:=by rw[gz];show eR _ _ _=_;rw[eR,gX a4,bg,yK]
  obtain⟨ad,bI,bl⟩:=h.body qM;have x3:∀ M,bD I M ((ad.add (q*2)).add 1) 1 [.int .i64 r]:=λM=>by have:=(bl M).part (k:=1) (m:=1) (by decide);unfold bB.cells at this;rw[ao]at this;exact this
  refine cU.draw aT rfl rfl rfl ?_;refine aD.mk _ (h.dH (j:=1) (by decide)) ?_;refine aZ.whole _ (Zn h.g y.t az) ?_;rintro v I' M' -⟨rfl,rfl,rfl⟩;refine aD.mk _ (h.dH (j:=2) (by decide)) ?_;refine a7.mk ad q bI rfl qM ?_;refine aD.mk _ (x3 _) ?_;refine aZ.whole _ (bc A C q r a Mr an eu ⟨qM,hN⟩ ax) ?_;rintro v eU eJ -⟨rfl,c,C',rfl,rfl,alA,cP,bQ⟩;exact⟨_,_,.refl,rfl,c,C',rfl,rfl,alA,als cP (ah a4) has,bQ⟩
 have tl:y.k≠3:=ct e;have has:=mM tl;refine aI.mk (λe=>?_) (λe=>?_)
 ·have a4:y.k=4:=cv e;have ar:lN t.P (λm=>cX t.P m fN a) (λm=>fO m ((y.aM.map λk=>fH t.ts i+k.toNat).drop 0) a 0):=by rw[oZ,show(λm=>cX t.P m fN a)=λm=>fO m (y.aM.map λk=>fH t.ts i+k.toNat) a 0 from funext λm=>by rw[v5 (ah a4),has]];exact .refl
  refine cx.inv (ι:=Nat×Nat×Nat×(Nat->Nat->dc)) (λx=>{ cc:=[(0,.val (ptr t.bt)),(1,.val (.int .i64 i)),(6,.ref 6 0),(8,.ref 8 0),(11,.val (.int .i64 x.2.1)),(12,.val (.int .i64 x.2.2.1)),(13,.val (.int .i64 x.1))],cl:=[(6,y.cells),(8,dc.cells ⟨0,0,0⟩)],ck:=I,de:=cF x.2.2.2 t.w 0 t.bs++Mr }) (λx=>x.1<=y.kn/\x.2.1<=t.s.size/\x.2.2.1<=1099511627776/\gr t.P A x.2.2.2/\pN C x.2.2.2 False/\lN t.P (λm=>cX t.P m fN a) (λm=>fO m ((y.aM.map λk=>fH t.ts i+k.toNat).drop x.1) x.2.1 x.2.2.1)) (λx=>y.kn-x.1) ?_ ?_;·exact⟨(0,a,0,C),⟨bi _,ax,bi _,eu,.refl,ar⟩,.refl,nz,.cons rfl (.cons rfl (.nil))⟩
  rintro⟨x,to,jY,o5⟩⟨ab,iz,u9,mR,kl,bS⟩;simp only at ab iz u9 mR kl bS;refine aI.mk (λe=>?_) (λe=>?_)
  ·have aO:x<y.kn:=by simpa using e
   obtain⟨dh,q,ev,az,dV,A3⟩:=B2 x aO;rw[fp x q A3]at bS;refine a7.mk dh x ev rfl aO ?_;refine aD.mk _ (dV _) ?_;refine aZ.whole _ (bc A o5 i q to Mr (FL (K9 kl) an) mR az iz) ?_;rintro v eU eJ -⟨rfl,c,er,rfl,rfl,fe,cP,bQ⟩;refine aI.mk (λay=>?_) (λay=>?_)
   ·have zP:c.is≠4:=λbf=>by rw[bf]at ay;cases ay
    have tK:fi t.P A (λm=>cX t.P m fN a) ⟨c.is,0,0⟩:=by
     refine fi.to ?_ bS;rcases cP.is with bf | bf | bf;·exact alj cP bf bf
     ·rw[bf];exact alk cP bf 0
     ·exact absurd bf zP
    exact⟨_,_,.refl,rfl,⟨c.is,0,0⟩,er,rfl,rfl,fe,tK,kl.trans bQ (λx=>x.elim) (λx=>x)⟩
   ·have b3:c.is=4:=by
     have:¬ ((c.is:Int)≠4):=λae=>by have aR:(!decide ((c.is:Int)=4))=false:=ay;rw[c0 ae]at aR;cases aR
     omega
    have pD:=cP.rg b3;refine aW.mk ((jY+c.n:Nat):Int) (e0 (show(jY:Int)+(c.n:Int)=_ by omega) (by omega)) ?_;refine aW.mk _ (b0 (i:=x) (by omega)) ?_;exact⟨(x+1,c.to,e1 jY c.n,er),⟨⟨aO,pD.2.1 iz,rr _ _,fe,kl.trans bQ (λx=>x) (λx=>by omega),bS.trans (alm cP b3)⟩,by simp only;omega⟩,.refl,
     .cons .refl (.cons .refl (.cons .refl (.cons .refl (.cons .refl (.cons (zB (by
      show Value.int .i64 ((e1 jY c.n:Nat):Int)=.int .i64 (min (1099511627776:Int) ((jY+c.n:Nat):Int));rw[Lb])) (.cons .refl .nil)))))),.cons rfl (.cons rfl (.nil))⟩
  ·have cI:y.kn<=x:=by simpa using e
   rw[hJ (by rw[dx];omega)]at bS;exact⟨_,_,.refl,rfl,⟨4,to,jY⟩,o5,rfl,rfl,mR,ali.to bS,kl.s0 λx=>x.elim⟩
 have zP:y.k≠4:=ct e;refine aI.mk (λe=>?_) (λe=>?_)
 ·have a4:y.k=5:=cv e;have ar:lN t.P (λm=>cX t.P m fN a) (λm=>gb m ((y.aM.map λk=>fH t.ts i+k.toNat).drop 0) a):=by rw[oZ,show(λm=>cX t.P m fN a)=λm=>gb m (y.aM.map λk=>fH t.ts i+k.toNat) a from funext λm=>by rw[v7 (ah a4),has]];exact .refl
  refine cx.inv (ι:=Nat×(Nat->Nat->dc)) (λx=>{ cc:=[(0,.val (ptr t.bt)),(1,.val (.int .i64 i)),(3,.val (.int .i64 a)),(6,.ref 6 0),(8,.ref 8 0),(9,.ref 9 0),(15,.val (.int .i64 x.1))],cl:=[(6,y.cells),(8,dc.cells ⟨0,0,0⟩),(9,dc.cells ⟨3,0,0⟩)],ck:=I,de:=cF x.2 t.w 0 t.bs++Mr }) (λx=>x.1<=y.kn/\gr t.P A x.2/\pN C x.2 False/\lN t.P (λm=>cX t.P m fN a) (λm=>gb m ((y.aM.map λk=>fH t.ts i+k.toNat).drop x.1) a)) (λx=>y.kn-x.1) ?_ ?_;·exact⟨(0,C),⟨bi _,eu,.refl,ar⟩,.refl,nz,.cons rfl (.cons rfl (.cons rfl (.nil)))⟩
  rintro⟨x,o5⟩⟨ab,mR,kl,bS⟩;simp only at ab mR kl bS;refine aI.mk (λe=>?_) (λe=>?_)
  ·have aO:x<y.kn:=by simpa using e
   obtain⟨dh,q,ev,az,dV,A3⟩:=B2 x aO;rw[fp x q A3]at bS;refine a7.mk dh x ev rfl aO ?_;refine aD.mk _ (dV _) ?_;refine aZ.whole _ (bc A o5 i q a Mr (FL (K9 kl) an) mR az ax) ?_;rintro v eU eJ -⟨rfl,c,er,rfl,rfl,fe,cP,bQ⟩;refine aI.mk (λay=>?_) (λay=>?_)
   ·have tl:c.is≠3:=λbf=>by rw[bf]at ay;cases ay
    exact⟨_,_,.refl,rfl,c,er,rfl,rfl,fe,(alp cP tl).to bS,kl.trans bQ (λx=>x.elim) (λx=>x)⟩
   ·have bf:c.is=3:=by
     have:¬ ((c.is:Int)≠3):=λae=>by have aR:(!decide ((c.is:Int)=3))=false:=ay;rw[c0 ae]at aR;cases aR
     omega
    refine aW.mk _ (b0 (i:=x) (by omega)) ?_;exact⟨(x+1,er),⟨⟨aO,fe,kl.trans bQ (λx=>x) (λx=>by omega),bS.trans (alo cP bf)⟩,by simp only;omega⟩,.refl,nz,.cons rfl (.cons rfl (.cons rfl (.nil)))⟩
  ·have cI:y.kn<=x:=by simpa using e
   rw[hJ (by rw[dx];omega)]at bS;exact⟨_,_,.refl,rfl,⟨3,0,0⟩,o5,rfl,rfl,mR,(aln 0).to bS,kl.s0 λx=>x.elim⟩
 have Bw:y.k≠5:=ct e;refine aI.mk (λe=>?_) (λe=>?_)
 ·have a4:y.k=6:=cv e;obtain⟨dh,q,Rk,ev,az,dV,wP⟩:=h3 (by omega);have nV:=aG.l7 a4;have ao3:=gO.lo;have fs:(t.P.av fN).d.hi=y.hi:=by rw[gz];rfl
  have eS:(t.P.av fN).d.lo=y.lo:=by rw[gz];rfl
  have kD:(t.P.av fN).bL.getD 0 0=t.no i q:=by rw[wP];rfl
  have nQ:t.P.s=t.s:=rfl;obtain⟨N,fB⟩:∃ N,xA t.P (t.P.av fN).d a=N:=⟨_,rfl⟩;have pO:(y.hi=-1->N=t.s.size+1-a)/\(y.hi≠-1->N=y.hi.toNat):=by rw[<-fB];unfold xA;rw[fs,nQ];refine⟨λaC=>by rw[gX aC];rfl,λaC=>by rw[c0 aC];rfl⟩
  have ar:lN t.P (λm=>cX t.P m fN a) (λm=>ej m (t.no i q) y.lo y.hi (N-0) 0 a 0):=by rw[show(λm=>cX t.P m fN a)=λm=>ej m (t.no i q) y.lo y.hi (N-0) 0 a 0 from funext λm=>by rw[tn (ah a4),fB,eS,fs,kD];rfl];exact .refl
  refine cx.inv (ι:=Nat×Nat×Nat×(Nat->Nat->dc)) (λx=>{ cc:=[(0,.val (ptr t.bt)),(1,.val (.int .i64 i)),(6,.ref 6 0),(8,.ref 8 0),(9,.ref 9 0),(17,.val (.int .i64 x.2.1)),(18,.val (.int .i64 x.2.2.1)),(19,.val (.int .i64 x.1))],cl:=[(6,y.cells),(8,dc.cells ⟨0,0,0⟩),(9,dc.cells ⟨3,0,0⟩)],ck:=I,de:=cF x.2.2.2 t.w 0 t.bs++Mr }) (λx=>x.1<=N/\x.2.1<=t.s.size/\(y.hi=-1->a+x.1<=x.2.1)/\x.2.2.1<=1099511627776/\gr t.P A x.2.2.2/\pN C x.2.2.2 False/\lN t.P (λm=>cX t.P m fN a) (λm=>ej m (t.no i q) y.lo y.hi (N-x.1) x.1 x.2.1 x.2.2.1)) (λx=>N-x.1) ?_ ?_;·exact⟨(0,a,0,C),⟨bi _,ax,λ_=>b1 _,bi _,eu,.refl,ar⟩,.refl,qX,.cons rfl (.cons rfl (.cons rfl (.nil)))⟩
  rintro⟨x,to,jY,o5⟩⟨ab,iz,cI,u9,mR,kl,bS⟩;simp only at ab iz cI u9 mR kl bS;have ao4:N<=4200:=by
   by_cases aC:y.hi=-1;·have:=pO.1 aC;omega
   ·have:=pO.2 aC;omega
  have loop:∀ {F:Prop},True:=fun {F}=>trivial;refine bP.mk (λg=>?_) (λg=>?_)
  ·have bu:¬ y.hi<0:=ct g;have alB:=pO.2 (by omega);refine aI.mk (λay=>?_) (λay=>?_)
   ·have aO:x<N:=by have:(x:Int)<y.hi:=cv ay;omega
    obtain⟨j,ak⟩:∃ j,N-x=j+1:=⟨N-x-1,by omega⟩;have gx:N-(x+1)=j:=by omega
    rw[ak]at bS;refine a7.mk dh 0 ev rfl (by omega) ?_;refine aD.mk _ (dV _) ?_;refine aZ.whole _ (bc A o5 i q to Mr (FL (K9 kl) an) mR az iz) ?_;rintro v eU eJ -⟨rfl,c,er,rfl,rfl,fe,cP,bQ⟩;refine aI.mk (λbf=>?_) (λbf=>?_)
    ·have i3:c.is=3:=by have:((c.is:Nat):Int)=3:=cv bf;omega
     refine aI.mk (λb3=>?_) (λb3=>?_);·exact⟨_,_,.refl,rfl,⟨3,0,0⟩,er,rfl,rfl,fe,(ZO cP i3 (cv b3) 0).to bS,kl.trans bQ (λx=>x.elim) (λx=>by omega)⟩
     ·exact⟨_,_,.refl,rfl,⟨4,to,jY⟩,er,rfl,rfl,fe,(ZP cP i3 (ct b3)).to bS,kl.trans bQ (λx=>x.elim) (λx=>by omega)⟩
    have i3:c.is≠3:=by have:¬ ((c.is:Nat):Int)=3:=ct bf;omega
    refine bP.mk (λaX=>?_) (λaX=>?_)
    rotate_left
    ·have i2:c.is=2:=by have:((c.is:Nat):Int)=2:=cv aX;omega
     exact⟨_,_,.refl,rfl,⟨2,0,0⟩,er,rfl,rfl,fe,(ZN cP i2 rfl).to bS,kl.trans bQ (λx=>x.elim) (λx=>rfl)⟩
    have i2:c.is≠2:=by have:¬ ((c.is:Nat):Int)=2:=ct aX;omega
    have i4:c.is=4:=by have:=cP.is;omega
    have pD:=cP.rg i4;refine bP.mk (λbq=>absurd (cv bq) bu) (λbq=>?_);refine aW.mk ((jY+c.n:Nat):Int) (e0 (show(jY:Int)+(c.n:Int)=_ by omega) (by omega)) ?_;refine aW.mk _ (b0 (i:=x) (by omega)) ?_;exact⟨(x+1,c.to,e1 jY c.n,er),⟨⟨by simp only;omega,pD.2.1 iz,λU=>by omega,rr _ _,fe,kl.trans bQ (λx=>x) (λx=>by omega),bS.trans (by rw[gx];exact ZQ cP i4 λU=>by omega)⟩,by simp only;omega⟩,.refl,
     .cons .refl (.cons .refl (.cons .refl (.cons .refl (.cons .refl (.cons .refl (.cons (zB (by
      show Value.int .i64 ((e1 jY c.n:Nat):Int)=.int .i64 (min (1099511627776:Int) ((jY+c.n:Nat):Int));rw[Lb])) (.cons .refl .nil))))))),.cons rfl (.cons rfl (.cons rfl (.nil)))⟩
   ·have aO:N<=x:=by have:¬ (x:Int)<y.hi:=ct ay;omega
    rw[show N-x=0 by omega]at bS;exact⟨_,_,.refl,rfl,⟨4,to,jY⟩,o5,rfl,rfl,mR,(alr (by omega)).to bS,kl.s0 λx=>x.elim⟩
  ·have BH:y.hi<0:=cv g;have bC:y.hi=-1:=by omega
   have alB:=pO.1 bC;have ao5:=cI bC;have aO:x<N:=by omega
   obtain⟨j,ak⟩:∃ j,N-x=j+1:=⟨N-x-1,by omega⟩;have gx:N-(x+1)=j:=by omega
   rw[ak]at bS;refine a7.mk dh 0 ev rfl (by omega) ?_;refine aD.mk _ (dV _) ?_;refine aZ.whole _ (bc A o5 i q to Mr (FL (K9 kl) an) mR az iz) ?_;rintro v eU eJ -⟨rfl,c,er,rfl,rfl,fe,cP,bQ⟩;refine aI.mk (λbf=>?_) (λbf=>?_)
   ·have i3:c.is=3:=by have:((c.is:Nat):Int)=3:=cv bf;omega
    refine aI.mk (λb3=>?_) (λb3=>?_);·exact⟨_,_,.refl,rfl,⟨3,0,0⟩,er,rfl,rfl,fe,(ZO cP i3 (cv b3) 0).to bS,kl.trans bQ (λx=>x.elim) (λx=>by omega)⟩
    ·exact⟨_,_,.refl,rfl,⟨4,to,jY⟩,er,rfl,rfl,fe,(ZP cP i3 (ct b3)).to bS,kl.trans bQ (λx=>x.elim) (λx=>by omega)⟩
   have i3:c.is≠3:=by have:¬ ((c.is:Nat):Int)=3:=ct bf;omega
   refine bP.mk (λaX=>?_) (λaX=>?_)
   rotate_left
   ·have i2:c.is=2:=by have:((c.is:Nat):Int)=2:=cv aX;omega
    exact⟨_,_,.refl,rfl,⟨2,0,0⟩,er,rfl,rfl,fe,(ZN cP i2 rfl).to bS,kl.trans bQ (λx=>x.elim) (λx=>rfl)⟩
   have i2:c.is≠2:=by have:¬ ((c.is:Nat):Int)=2:=ct aX;omega
   have i4:c.is=4:=by have:=cP.is;omega
   have pD:=cP.rg i4;refine bP.mk (λbq=>?_) (λbq=>absurd BH (ct bq));refine aI.mk (λeY=>?_) (λeY=>?_)
   ·have g7:c.to=to:=by have:((c.to:Nat):Int)=(to:Int):=cv eY;omega
    exact⟨_,_,.refl,rfl,⟨2,0,0⟩,er,rfl,rfl,fe,(alq cP i4 bC g7 rfl).to bS,kl.trans bQ (λx=>x.elim) (λx=>rfl)⟩
   ·have g7:c.to≠to:=by have:¬ ((c.to:Nat):Int)=(to:Int):=ct eY;omega
    refine aW.mk ((jY+c.n:Nat):Int) (e0 (show(jY:Int)+(c.n:Int)=_ by omega) (by omega)) ?_;refine aW.mk _ (b0 (i:=x) (by omega)) ?_;exact⟨(x+1,c.to,e1 jY c.n,er),⟨⟨by simp only;omega,pD.2.1 iz,λU=>by have:=cI U;simp only;omega,rr _ _,fe,kl.trans bQ (λx=>x) (λx=>by omega),bS.trans (by rw[gx];exact ZQ cP i4 λU=>g7 U.2)⟩,by simp only;omega⟩,.refl,
     .cons .refl (.cons .refl (.cons .refl (.cons .refl (.cons .refl (.cons .refl (.cons (zB (by
      show Value.int .i64 ((e1 jY c.n:Nat):Int)=.int .i64 (min (1099511627776:Int) ((jY+c.n:Nat):Int));rw[Lb])) (.cons .refl .nil))))))),.cons rfl (.cons rfl (.cons rfl (.nil)))⟩
 have DO:y.k≠6:=ct e;have JF:=aG.k;have Rl:=aly JF n0 gm g6 tl zP Bw DO;obtain⟨dh,q,Rk,ev,az,dV,wP⟩:=h3 (by omega);refine a7.mk dh 0 ev rfl (by omega) ?_;refine aD.mk _ (dV _) ?_;refine aZ.whole _ (bc A C i q a Mr an eu az ax) ?_;rintro v eU eJ -⟨rfl,c,er,rfl,rfl,fe,cP,bQ⟩;refine aI.mk (λbf=>?_) (λbf=>?_)
 ·have i2:c.is=2:=by have:((c.is:Nat):Int)=2:=cv bf;omega
  refine⟨_,_,.refl,rfl,c,er,rfl,rfl,fe,?_,bQ⟩;have eh:=λe=>Rf cP (ah (x:=7) e) wP;have fg:=λe=>Rg cP (ah (x:=8) e) wP;have ew:=λe=>ZR cP (ah (x:=9) e) wP;rw[i2]at eh fg ew;rcases Rl with e | e | e;·exact eh e
  ·exact fg e
  ·exact ew e
 have i2:c.is≠2:=by have:¬ ((c.is:Nat):Int)=2:=ct bf;omega
 have ZW:=cP.is;refine bP.mk (λg=>?_) (λg=>?_)
 ·have BY:y.k=9:=cv g;have ew:=ZR cP (ah (x:=9) BY) wP;refine aI.mk (λb3=>?_) (λb3=>?_)
  ·have i4:c.is=4:=by have:((c.is:Nat):Int)=4:=cv b3;omega
   have pD:=cP.rg i4;rw[i4]at ew;refine aW.mk ((c.n+1:Nat):Int) (e0 (show(c.n:Int)+1=_ by omega) (by omega)) ?_;refine⟨_,_,.refl,rfl,⟨4,c.to,e1 c.n 1⟩,er,?_,rfl,fe,ew,bQ.s0 λx=>by omega⟩;show Value.agg #[.int .i64 4,.int .i64 c.to,.int .i64 (min (1099511627776:Int) ((c.n+1:Nat):Int))]=_;rw[Lb];rfl
  ·have i3:c.is=3:=by have:¬ ((c.is:Nat):Int)=4:=ct b3;omega
   rw[i3]at ew;refine aI.mk (λeY=>?_) (λeY=>absurd BY (ct eY));exact⟨_,_,.refl,rfl,⟨3,0,0⟩,er,rfl,rfl,fe,ew,bQ.s0 λx=>by omega⟩
 have BY:¬ y.k=9:=ct g;refine aI.mk (λeY=>absurd (cv eY) BY) (λeY=>?_);refine aI.mk (λg7=>?_) (λg7=>?_)
 ·have ag:decide (y.k=7)=decide ((c.is:Int)=4):=eq_of_beq g7;refine⟨_,_,.refl,rfl,⟨4,a,0⟩,er,rfl,rfl,fe,?_,bQ.s0 λx=>by omega⟩;rcases Rl with e | e | e
  ·have i4:c.is=4:=by rw[gX e]at ag;have:=cv ag.symm;omega
   have eh:=Rf cP (ah (x:=7) e) wP;rw[i4]at eh;exact eh
  ·have i3:c.is=3:=by rw[c0 (by omega)]at ag;have:=ct ag.symm;omega
   have fg:=Rg cP (ah (x:=8) e) wP;rw[i3]at fg;exact fg
  ·exact absurd e BY
 ·have ag:decide (y.k=7)≠decide ((c.is:Int)=4):=λx=>by rw[x,Cs]at g7;cases g7
  refine⟨_,_,.refl,rfl,⟨3,0,0⟩,er,rfl,rfl,fe,?_,bQ.s0 λx=>by omega⟩;rcases Rl with e | e | e
  ·have i3:c.is=3:=by
    rcases ZW with x | x | x;·exact absurd x i2
    ·exact x
    ·exact absurd (by rw[gX e,gX (by omega)]) ag
   have eh:=Rf cP (ah (x:=7) e) wP;rw[i3]at eh;exact eh
  ·have i4:c.is=4:=by
    rcases ZW with x | x | x;·exact absurd x i2
    ·exact absurd (by rw[c0 (by omega),c0 (by omega)]) ag
    ·exact x
   have fg:=Rg cP (ah (x:=8) e) wP;rw[i4]at fg;exact fg
  ·exact absurd e BY
def eM.ok.ZX{I:aH}(h:t.ok I){i:Nat}(hi:i<t.ts.length)(ak:j<t.ts[i].ns.length):ZV I t i t.ts[i].ns.length t.ts[i].ns[j] (t.no i j):=by
 have hm:=cZ hi;have wB:=cZ ak;have a8:=h.rt _ hm;have ah:=(h.ts _ hm).ns _ wB;have aF:=a8.fits j ak;have KU:=Kv ah.k.1 aF;have hh:=AI aF;refine⟨ah,eM.av hi ak,λx ab=>?_,λe=>?_,λe=>?_,λe=>h.di _ hm _ wB e,(by have:=hh.t;omega),ah.k.1,?_⟩
 ·have:=a8.aM j ak x ab;omega
 ·have:=KU.one e;omega
 ·have:=hh.l7 e;omega
 ·exact hh.k
def alC(af:k<bs.length)(ag:bs[k]?=some b)(ax:a<w){c:dc}(aN:vs=c.cells)
 (bb:M=a9++(cF C w 0 bs++Mr)) (h:K (a9++(cF (lV C k a c) w 0 bs++Mr))):cV M ((⟨b,0,none⟩:Addr).add (a*3)) vs K:=by
 have:=ZU (o:=0) (c:=c) af ag ax (vs:=vs) (by subst aN;rfl) (by subst aN;exact b1 _) (by subst aN;rfl) bb h;have aC:(⟨b,0,none⟩:Addr).add (a*3)=⟨b,a*3,none⟩:=by rw[ei _ rfl,dK]
 rw[aC]at this |-;rw[ei _ rfl]at this;exact this
def alD{I:aH}(bc:La I t n)(h:t.ok I):La I t (n+1):=by
 rintro A C i j a Mr an eu⟨hi,ak⟩ax;obtain⟨ac,fG,ep,c1,b,Bc,h5,-,mW,l1,ag⟩:=h.cell hi ak;obtain⟨ad,bI,lk⟩:=h.body hi;have jL:=h.ZX hi ak;have sJ:=h.ts _ (cZ hi);have kE:=sJ.n;obtain⟨eZ,AP,jJ⟩:=sJ.a2.row a3.da (j:=j) (by omega) ak;have lO:a<t.w:=by show a<t.s.size+1;omega
 have ub:=eM.ZT hi ak;refine bU [] aT Tryz.func72 rfl rfl rfl ?_;intro B aq;refine aD.mk _ (h.dH (j:=3) (by decide)) ?_;refine a7.mk ac i Bc rfl hi ?_;refine aD.mk _ (h5 _) ?_;refine a7.mk fG j rfl rfl ak ?_;refine aD.mk _ (mW _) ?_;refine a7.mk ⟨b,0,none⟩ a rfl rfl lO ?_;refine aD.mk _ (alw l1 ag lO) ?_;refine aI.mk (λe=>?_) (λe=>?_)
 ·have aC:(C (t.no i j) a).is=1:=by have:(((C (t.no i j) a).is:Nat):Int)=1:=cv e;omega
  exact⟨_,_,.refl,rfl,⟨2,0,0⟩,C,rfl,rfl,eu,eu.asked aC 0 0,.refl⟩
 have aC:(C (t.no i j) a).is≠1:=by have:¬ (((C (t.no i j) a).is:Nat):Int)=1:=ct e;omega
 refine aI.mk (λay=>?_) (λay=>?_)
 ·have cd:(C (t.no i j) a).is≠0:=λbf=>by rw[bf]at ay;cases ay
  exact⟨_,_,.refl,rfl,C (t.no i j) a,C,rfl,rfl,eu,eu.known cd aC,.refl⟩
 have cd:(C (t.no i j) a).is=0:=by
  have:¬ (((C (t.no i j) a).is:Int)≠0):=λae=>by have aR:(!decide (((C (t.no i j) a).is:Int)=0))=false:=ay;rw[c0 ae]at aR;cases aR
  omega
 obtain⟨cT,sF⟩:∃ cT:dc,cT=⟨1,(C (t.no i j) a).to,(C (t.no i j) a).n⟩:=⟨_,rfl⟩;have Rm:cT.is=1:=by rw[sF]
 refine aD.mk _ (h.dH (j:=3) (by decide)) ?_;refine a7.mk ac i Bc rfl hi ?_;refine aD.mk _ (h5 _) ?_;refine a7.mk fG j rfl rfl ak ?_;refine aD.mk _ (mW _) ?_;refine a7.mk ⟨b,0,none⟩ a rfl rfl lO ?_;refine ZU (c:=cT) l1 ag lO (by rw[sF];rfl) (bN rfl) rfl (a9:=[]) rfl ?_;have mR:=eu.push (k:=t.no i j) (a:=a) Rm;have sk:B1 t.N t.w (lV C (t.no i j) a cT)<n:=by have:=alh (C:=C) (c:=cT) (N:=t.N) (w:=t.w) ub lO cd Rm;omega
 refine aD.mk _ (h.dH (j:=2) (by decide)) ?_;refine a7.mk ad i bI rfl hi ?_;refine aD.mk _ ((lk _).part (k:=0) (m:=1) (by decide)) ?_;refine a7.mk eZ j AP rfl (by omega) ?_;refine aD.mk _ (jJ _) ?_;refine aZ.whole _ (alz bc h sk mR hi ax jL Mr) ?_;rintro v eU eJ -⟨rfl,c,er,rfl,rfl,fe,cP,bQ⟩;obtain⟨qb,qc,ti⟩:=gr.pop cd eu Rm fe cP bQ;refine cU.draw aT rfl rfl rfl ?_;refine aD.mk _ (h.dH (j:=3) (by decide)) ?_;refine a7.mk ac i Bc rfl hi ?_;refine aD.mk _ (h5 _) ?_;refine a7.mk fG j rfl rfl ak ?_;refine aD.mk _ (mW _) ?_;refine a7.mk ⟨b,0,none⟩ a rfl rfl lO ?_;refine alC (c:=c) l1 ag lO rfl (a9:=[]) rfl ?_;exact⟨_,_,.refl,rfl,c,_,rfl,rfl,qb,qc,ti⟩
def ZY{I:aH}{t:eM}(h:t.ok I):∀ n,La I t n
 |0=>λA C i j a Mr an=>absurd an (BQ _)
 |n+1=>alD (ZY h n) h
def x4{I:aH}(h:t.ok I)(eu:gr t.P A C){i:Nat}(x5:∃ h:i<t.ts.length,j<t.ts[i].ns.length)(ax:a<=t.s.size)(Mr:List aE) :
  Spec Tryz.prog 72 [ptr t.bt,.int .i64 i,.int .i64 j,.int .i64 a] I (cF C t.w 0 t.bs++Mr) (Rj t A C (λm=>m (t.no i j) a) I Mr):=
 ZY h _ A C i j a Mr (Cd _) eu x5 ax
def dX.alE{I:aH}{a:Option Addr}(h:dX I a n c size b vs)(M:List aE)(aq:0<n):∃ ad,a=some ad/\bD I M ad (n*size) vs:=by
 rcases h.rd with U | ⟨ad,U,aa,cs,T,aj,ae,aR⟩
 ·omega
 ·exact⟨ad,U,aa,cs,T,aj,.inl ae,aR,h.len⟩
def alF{α:Type}(l:List α)(x:α){q:Nat}(h:l.length=q):(l++[x])[q]?=some x:=by subst h;exact Mv
def alG{J:aH}{e:Nat}{M':List aE}(aF:∀ g,os.a=some g->g ∉ b6)(h:h1 b6 (qC J os e) post I' M'):h1 b6 J (os.aQ e++post) I' M':=by
 obtain⟨a,n,c,aS⟩:=os;cases a with
 |none=>exact h| some g=>exact .oT rfl (aF g rfl) h
def jC:Nat->Nat->dc:=λ_ _=>⟨0,0,0⟩
def alH(k w:Nat):rowOf (dc.cells ⟨0,0,0⟩) (w*3)=qL jC k w:=by
 induction w with
 |zero=>rfl
 |succ w bc=>
  have e:(w+1)*3=w*3+3:=by omega
  have ay:rowOf (dc.cells ⟨0,0,0⟩) ((w+1)*3)=rowOf (dc.cells ⟨0,0,0⟩) (w*3)++dc.cells ⟨0,0,0⟩:=by
   unfold rowOf;rw[e,N5,fC];congr 1;apply yp (by rfl);intro i U aa;simp only[lH,nj];have ae:i<3:=by simpa using U
   have aR:(w*3+i)%(dc.cells ⟨0,0,0⟩).length=i:=by show(w*3+i)%3=i;omega
   rw[aR]
   match i,ae with
   |0,_=>rfl| 1,_=>rfl| 2,_=>rfl
  rw[ay,bc];unfold qL;rw[zc,jP];rfl
def ZZ(C:Nat->Nat->dc)(w:Nat):∀ (bs:List Nat) (k b:Nat),cF C w k (bs++[b])=cF C w k bs++[vf C w (k+bs.length) b]
 |[],k,b=>rfl| a::bs,k,b=>by rw[qa,cF,cF,ZZ C w bs (k+1) b,qa,dL,show k+1+bs.length=k+(bs.length+1) by omega]
def vg(bs:List Nat)(a0 k w:Nat):List Value:=(List.range k).map λj=>Value.slice (some ⟨bs.getD (a0+j) 0,0,none⟩) w w
def Z0(h:a0+n<=bs.length):vg (bs++L) a0 n w=vg bs a0 n w:=by unfold vg;refine yJ λj ak=>?_;have:=j2.1 ak;rw[dI,dI,oX (by omega)]
def alI(h:bs.length=a0+k):vg (bs++[b]) a0 (k+1) w=vg bs a0 k w++[.slice (some ⟨b,0,none⟩) w w]:=by
 have U:vg (bs++[b]) a0 (k+1) w=vg (bs++[b]) a0 k w++[.slice (some ⟨(bs++[b]).getD (a0+k) 0,0,none⟩) w w]:=by unfold vg;rw[zc,fC];rfl
 rw[U,Z0 (by omega),<-h,dI,Mv];rfl
structure eM.mem(I:aH)(t:eM):Prop where
 aA:I t.bt=some (.cells t.cb.toArray 122 (0,0))
 g:t.g.ok I
 jT:dX I t.ba t.ts.length t.Ri 2 32 (t.ts.flatMap bB.cells)
 ts:∀ x∈t.ts,x.ok I
 cl:dX I t.Ej t.ts.length t.zC 1 24 t.qV
 md:∀ i (h:i<t.ts.length),∃ fG ep,t.qV[i]?=some (.slice fG t.ts[i].ns.length ep)/\dX I fG t.ts[i].ns.length ep 1 24 (vg t.bs (fH t.ts i) t.ts[i].ns.length t.w)
 Hx:t.bs.length=t.N
def eM.mem.ok{I:aH}(h:t.mem I)(rt:∀ x∈t.ts,CY x)(di:∀ x∈t.ts,∀ n∈x.ns,n.k=3->0<=cy n.t t.g.ds 0)(a9:∃ more,t.ts=t.g.ds.map (·.t)++more)(sz:t.s.size<=4096):t.ok I:=
 ⟨h.aA,h.g,h.jT,h.ts,h.cl,h.md,h.Hx,rt,di,a9,sz⟩
def Z1:∀ l:List bB,gI (l.flatMap bB.cells)=true
 |[]=>rfl| t::l=>by have:=Z1 l;unfold gI at this |-;rw[pZ,Fw,this];rfl
def oQ(bt:Nat)(s:ByteArray)(g:cE)(bv zu:Value):aE:=⟨bt,.cells [.string s,.slice g.a g.n g.c,bv,zu].toArray 122 (0,0)⟩
def Hy{I:aH}{bt:Nat}{s:ByteArray}{g:cE}{bv zu:Value}(bb:oQ bt s g bv zu∈M)(ak:j<4):bD I M ((⟨bt,0,none⟩:Addr).add j) 1 [([.string s,.slice g.a g.n g.c,bv,zu]:List Value).getD j undef]:=by
 have h:=dP (I:=I) (cs:=[.string s,.slice g.a g.n g.c,bv,zu]) (k:=j) (n:=1) bb (by show j+1<=4;omega);have:(([.string s,.slice g.a g.n g.c,bv,zu]:List Value).drop j).take 1=[([.string s,.slice g.a g.n g.c,bv,zu]:List Value).getD j undef]:=by
  match j,ak with
  |0,_=>rfl| 1,_=>rfl| 2,_=>rfl| 3,_=>rfl
 rwa [this]at h
structure alJ(I J:aH)(s:ByteArray)(ts:List bB)(hr:a')(i:Nat)(iX:a')(qV:List Value)(bs:List Nat):Prop where
 ii:i<=ts.length
 le:∀ b o,I b=some o->J b=some o
 jT:dX J (hr.a.map λg=>⟨g,0,none⟩) ts.length hr.c 2 32 (ts.flatMap bB.cells)
 n:iX.n=i
 ok:iX.ok 1 qV
 Hx:bs.length=fH ts i
 md:∀ q (h:q<ts.length),q<i->∃ fG ep,qV[q]?=some (.slice fG ts[q].ns.length ep)/\dX J fG ts[q].ns.length ep 1 24 (vg bs (fH ts q) ts[q].ns.length (s.size+1))
def Z2{I:aH}{g:cE}(aB:g.ok I)(an:g.n<=4096)(s:ByteArray)(ap:s.size<=4096){more:List bB}{ma:Option Addr}{mn mc:Nat}(hm:dX I ma mn mc 2 32 (more.flatMap bB.cells))(alK:∀ x∈more,x.ok I)(xf:mn<=4)(Ek:∀ x∈g.ds.map (·.t)++more,x.ns.length<=4096) :
  Spec Tryz.prog 71 [g.val,.string s,.slice ma mn mc] I [] λv I' M'=>(∀ b o,I b=some o->I' b=some o)/\∃ t:eM,v=ptr t.bt/\M'=cF jC t.w 0 t.bs++[]/\t.s=s/\t.g=g/\t.ts=g.ds.map (·.t)++more/\t.mem I':=by
 have fU:=aB.n;have wB:more.length=mn:=by have:=hm.len;rw[g3 bB.cells 2 (λ_=>rfl)]at this;omega
 obtain⟨ts,cO⟩:∃ ts,g.ds.map (·.t)++more=ts:=⟨_,rfl⟩;have xl:ts.length=g.n+mn:=by rw[<-cO,b5,dx];omega
 have a5:∀ x∈ts,x.ok I:=λx ab=>by
  rw[<-cO]at ab;rcases dW.1 ab with ab | ab;·obtain⟨d,ah,rfl⟩:=dp.1 ab;exact(aB.ds d ah).t
  ·exact alK x ab
 rw[cO]at Ek |-;refine H' [15] aT Tryz.func71 rfl rfl rfl ?_;intro B aq;refine cw.mk λbt qE alL=>?_;refine cx.inv (ι:=Nat×a') (λx=>{ cc:=[(1,.val (.string s)),(2,.val (.slice ma mn mc)),(3,.ref 3 0),(7,.val (ptr bt)),(8,.val (.int .i64 x.1))],cl:=[(3,[.slice g.a g.n g.c])],ck:=I,de:=oQ bt s g x.2.val (.slice none 0 0)::(x.2.aQ 28++[]) }) (λx=>x.1<=g.n/\x.2.n=x.1/\x.2.ok 2 ((ts.take x.1).flatMap bB.cells)) (λx=>g.n-x.1) ?_ ?_
 ·exact⟨(0,jd),⟨bi _,rfl,ka 2⟩,.refl,ja,.cons rfl (.nil)⟩
 rintro⟨i,os⟩⟨hi,pF,cj⟩;simp only at hi pF cj;refine aI.mk (λe=>?_) (λe=>?_)
 ·have aO:i<g.n:=by simpa using e
  have bG:i<g.ds.length:=by omega
  obtain⟨ad,bI,bl⟩:=aB.a2.row bm.da aO bG;have Iw:i<ts.length:=by omega
  have alM:ts[i]=g.ds[i].t:=by
   have:ts[i]?=some g.ds[i].t:=by rw[<-cO,oX (by rw[dx];exact bG),vj,fJ bG];rfl
   rw[fJ Iw]at this;simpa using this
  have G9:∀ M,bD I M ((ad.add (i*3)).add 1) 2 ts[i].cells:=λM=>by rw[alM];exact(bl M).part (k:=1) (m:=2) (by decide)
  refine cU.draw aT rfl rfl rfl ?_;refine aD.mk _ (Hy (j:=2) (.head _) (by decide)) ?_;refine a7.mk ad i bI rfl aO ?_;refine aD.mk _ (G9 _) ?_;refine cw.mk λb9 fK hF=>?_;intro G hy;refine n'.tr aT rfl (e:=28) rfl rfl rfl os cj (rB (hy _ (by simp[Op.operands,Call.operands])) rfl) (rB (hy _ (by simp[Op.operands,Call.operands])) rfl) (cs:=ts[i].cells) rfl rfl [oQ bt s g os.val (.slice none 0 0)] [] rfl (by omega) (by show(os.n+1)*32<=_;omega) ?_;intro bA U aa aR;refine cV.mk [⟨b9,_⟩] (bA.aQ 28++[]) _ _ rfl rfl (bN rfl) rfl ?_;refine aW.mk _ (b0 (i:=i) (by omega)) ?_;refine⟨(i+1,bA),⟨⟨aO,by simp only;omega,?_⟩,by simp only;omega⟩,.sub (.cons _ (.refl _)) .refl,ja,.cons rfl (.nil)⟩;simp only;rw[hR Iw,jP,pZ,AA,c8];exact aR
 have cI:g.n<=i:=by simpa using e
 obtain rfl:i=g.n:=by omega
 have alN:(ts.take g.n).flatMap bB.cells++more.flatMap bB.cells=ts.flatMap bB.cells:=by rw[<-cO,EU (by rw[dx];omega),g4 (by rw[dx];omega),jP]
 refine aD.mk _ (Hy (j:=2) (.head _) (by decide)) ?_;refine bp.N3 aT rfl (by simp) (e:=28) rfl rfl rfl os cj rfl (sa:=ma) (m:=mn) (c':=mc) (bV:=more.flatMap bB.cells) rfl (by rw[g3 bB.cells 2 (λ_=>rfl),wB]) (λaq=>hm.alE _ aq) (Z1 more) [oQ bt s g os.val (.slice none 0 0)] [] rfl (by omega) (by show(os.n+mn)*32<=_;omega) ?_;intro hr U aa zR;rw[alN]at zR;have Z3:hr.n=ts.length:=by omega
 refine cV.mk [] (hr.aQ 28++[]) _ _ rfl rfl (bN rfl) rfl ?_;refine cx.Ac (ι:=Nat×aH×a'×List Value×List Nat) (λx=>{ cc:=[(1,.val (.string s)),(7,.val (ptr bt)),(9,.val (.int .i64 x.1))],cl:=[],ck:=x.2.1,de:=oQ bt s g hr.val x.2.2.1.val::(x.2.2.1.aQ 189++cF jC (s.size+1) 0 x.2.2.2.2) }) (λx=>alJ I x.2.1 s ts hr x.1 x.2.2.1 x.2.2.2.1 x.2.2.2.2) (λx=>ts.length-x.1) ?_ ?_
 ·intro gv;have alO:=DJ (J:=I) (os:=hr) (e:=28) (M:=[]) λx ab=>gv.d x (.tail _ ab);refine⟨(0,qC I hr 28,jd,[],[]),⟨bi _,alO,by rw[<-Z3];exact DK zR (by omega),rfl,ka 1,rfl,λq h aq=>absurd aq (BQ _)⟩,.perm (M1:=hr.aQ 28++[oQ bt s g hr.val (.slice none 0 0)]) (by rw[c8];exact(fR (l₁:=[_]))) (GS λg _=>by simp),dO,.nil⟩
 rintro⟨i,J,iX,qV,bs⟩kM;have hi:=kM.ii;have vh:=kM.le;have Rn:=kM.n;have Lc:=kM.ok;have l1:=kM.Hx;simp only at hi vh Rn Lc l1;refine aD.mk _ (Hy (j:=2) (.head _) (by decide)) ?_;refine aI.mk (λay=>?_) (λay=>?_)
 ·have aO:i<ts.length:=by have bf:(i:Int)<((hr.n:Nat):Int):=cv ay;omega
  have v':=Ek _ (cZ aO);have iA:=a5 _ (cZ aO);have kE:=iA.n;obtain⟨ad,bI,bl⟩:=dX.row (f:=bB.cells) (λ_=>rfl) kM.jT aO aO;have ao6:=Kf aO;have nK:=kM.md;refine cx.inv (ι:=Nat×a'×List Nat) (λx=>{ cc:=[(1,.val (.string s)),(7,.val (ptr bt)),(9,.val (.int .i64 i)),(10,.val x.2.1.val),(11,.val (.int .i64 x.1))],cl:=[],ck:=J,de:=oQ bt s g hr.val iX.val::(iX.aQ 189++(x.2.1.aQ 190++cF jC (s.size+1) 0 (bs++x.2.2))) }) (λx=>x.1<=ts[i].ns.length/\x.2.1.n=x.1/\x.2.2.length=x.1/\x.2.1.ok 1 (vg (bs++x.2.2) (fH ts i) x.1 (s.size+1))) (λx=>ts[i].ns.length-x.1) ?_ ?_;·exact⟨(0,jd,[]),⟨bi _,rfl,rfl,ka 1⟩,.uJ (by simp only[c8];rfl),ja,.nil⟩
  rintro⟨k,tL,L⟩⟨af,Fk,zA,Ro⟩;simp only at af Fk zA Ro;refine aD.mk _ (Hy (j:=2) (.head _) (by decide)) ?_;refine a7.mk ad i bI rfl (by omega) ?_;refine aD.mk _ ((bl _).part (k:=0) (m:=1) (by decide)) ?_;refine aI.mk (λbf=>?_) (λbf=>?_)
  ·have alP:k<ts[i].ns.length:=by have b3:(k:Int)<((ts[i].n:Nat):Int):=cv bf;omega
   refine aW.mk ((s.size+1:Nat):Int) (e0 (by simp) (by omega)) ?_;refine qR.mk (s.size+1) (s.size+1) rfl rfl (b1 _) (by show 24*(s.size+1)<=_;omega) (by omega) ?_;refine cw.mk λmO EQ air=>?_;refine cw.mk λb9 fK hF=>?_;refine bp.tr aT rfl (by simp) (e:=190) rfl rfl rfl tL Ro rfl (cs:=[.slice (some ⟨mO,0,none⟩) (s.size+1) (s.size+1)]) rfl rfl rfl (⟨mO,.cells (rowOf (dc.cells ⟨0,0,0⟩) ((s.size+1)*3)).toArray 124 (0,0)⟩::oQ bt s g hr.val iX.val::iX.aQ 189) (cF jC (s.size+1) 0 (bs++L)) rfl (by omega) (by show(tL.n+1)*24<=_;omega) ?_;intro Rp bn b2 eh;refine aW.mk _ (b0 (i:=k) (by omega)) ?_;have Pv:cF jC (s.size+1) 0 (bs++(L++[mO]))=cF jC (s.size+1) 0 (bs++L)++[vf jC (s.size+1) (bs++L).length mO]:=by rw[<-eL,ZZ,dK]
   refine⟨(k+1,Rp,L++[mO]),⟨⟨alP,by simp only;omega,by simp only[b5,zA];rfl,?_⟩,by simp only;omega⟩,.perm (M1:=oQ bt s g hr.val iX.val::(iX.aQ 189++(Rp.aQ 190++cF jC (s.size+1) 0 (bs++(L++[mO]))))) ?_ .refl,ja,.nil⟩;·simp only;rw[<-eL,alI (by rw[b5];omega)];exact eh
   ·rw[Pv];have pK:(⟨mO,.cells (rowOf (dc.cells ⟨0,0,0⟩) ((s.size+1)*3)).toArray 124 (0,0)⟩:aE)=vf jC (s.size+1) (bs++L).length mO:=by rw[alH (bs++L).length];rfl
    rw[pK];generalize vf jC (s.size+1) (bs++L).length mO=z;generalize oQ bt s g hr.val iX.val=sE;generalize iX.aQ 189=A;generalize Rp.aQ 190=qH;generalize cF jC (s.size+1) 0 (bs++L)=Ld;have:(sE::(A++(qH++(Ld++[z]))))=(sE::A++(qH++Ld))++[z]:=by simp
    rw[this];exact(fR (l₁:=[z]))
  ·have ao7:ts[i].ns.length<=k:=by have b3:¬ (k:Int)<((ts[i].n:Nat):Int):=ct bf;omega
   obtain rfl:k=ts[i].ns.length:=by omega
   refine aD.mk _ (Hy (j:=3) (.head _) (by decide)) ?_;refine cw.mk λb9 fK hF=>?_;refine bp.tr aT rfl (by simp) (e:=189) rfl rfl rfl iX Lc rfl (cs:=[tL.val]) rfl rfl rfl [oQ bt s g hr.val iX.val] (tL.aQ 190++cF jC (s.size+1) 0 (bs++L)) rfl (by omega) (by show(iX.n+1)*24<=_;omega) ?_;intro B3 bn b2 eh;refine cV.mk [] _ _ _ rfl rfl (bN rfl) rfl ?_;refine aW.mk _ (b0 (i:=i) (by omega)) ?_;intro gv;have Ju:(oQ bt s g hr.val B3.val::(B3.aQ 189++(tL.aQ 190++cF jC (s.size+1) 0 (bs++L)))).Perm (tL.aQ 190++(oQ bt s g hr.val B3.val::(B3.aQ 189++cF jC (s.size+1) 0 (bs++L)))):=by generalize oQ bt s g hr.val B3.val=sE;generalize B3.aQ 189=A;generalize tL.aQ 190=qH;generalize cF jC (s.size+1) 0 (bs++L)=Ld;exact(vU (sE::A) qH Ld)
   have El:=DJ (J:=J) (os:=tL) (e:=190) (M:=[]) λx ab=>gv.d x (by rw[c8]at ab;exact Ju.mem_iff.2 (n9 _ ab));refine⟨(i+1,qC J tL 190,B3,qV++[tL.val],bs++L),⟨⟨aO,λb o h=>El _ _ (vh _ _ h),kM.jT.mono El,by simp only;omega,eh,by simp only[b5];omega,λq az alQ=>?_⟩,by simp only;omega⟩,.perm Ju (GS λg _=>by simp),dO,.nil⟩;simp only at alQ |-;have alR:qV.length=i:=by have:=Lc.len;omega
   by_cases eY:q<i
   ·obtain⟨fG,ep,f1,f2⟩:=nK q az eY;simp only at f1 f2;have Nb:=PD (ts:=ts) (i:=q+1) (j:=i) (by omega) (by omega);rw[Kf az]at Nb;refine⟨fG,ep,?_,?_⟩
    ·rw[oX (by omega)];exact f1
    ·rw[Z0 (by omega)];exact f2.mono El
   ·obtain rfl:q=i:=by omega
    refine⟨tL.a.map λg=>⟨g,0,none⟩,tL.c,?_,?_⟩;·rw[alF _ _ alR];unfold a'.val;rw[Fk]
    ·have:=DK (J:=J) (e:=190) (b:=24) Ro (by omega);rwa [Fk]at this
 ·have Nc:ts.length<=i:=by have bf:¬ (i:Int)<((hr.n:Nat):Int):=ct ay;omega
  obtain rfl:i=ts.length:=by omega
  intro gv;have alS:=DJ (J:=J) (os:=iX) (e:=189) (M:=[]) λx ab=>gv.d x (by rw[c8]at ab;exact .tail _ (n9 _ ab));have qE:J bt=none:=gv.d (oQ bt s g hr.val iX.val) (.head _);have cq:=gv.cn;have alT:qC J iX 189 bt=none:=by
   obtain⟨Ej,fV,zC,alU⟩:=iX;cases Ej with
   |none=>exact qE
   |some q=>
    have bu:bt≠q:=λe=>by have U:bt ∉ (((⟨some q,fV,zC,alU⟩:a').aQ 189++cF jC (s.size+1) 0 bs).map (·.num)):=(mo.1 cq).1;exact U (by rw[e];exact dp.2 ⟨_,.head _,rfl⟩)
    show ins J q _ bt=none;unfold ins;rw[gS bu];exact qE
  have pV:=ph (o:=.cells [.string s,.slice g.a g.n g.c,hr.val,iX.val].toArray 122 (0,0)) alT;have Fh:h1 (List.map aE.num []) J (oQ bt s g hr.val iX.val::(iX.aQ 189++cF jC (s.size+1) 0 bs)) (ins (qC J iX 189) bt (.cells [.string s,.slice g.a g.n g.c,hr.val,iX.val].toArray 122 (0,0))) (cF jC (s.size+1) 0 bs++[]):=by refine .perm (M1:=iX.aQ 189++(oQ bt s g hr.val iX.val::cF jC (s.size+1) 0 bs)) rj.symm (alG (λg _=>by simp) ?_);exact .oT rfl (by simp) (.uJ (by simp))
  have Hz:∀ b o,J b=some o->ins (qC J iX 189) bt (.cells [.string s,.slice g.a g.n g.c,hr.val,iX.val].toArray 122 (0,0)) b=some o:=λb o h=>pV _ _ (alS _ _ h);have nK:=kM.md;have lk:=kM.jT;refine⟨_,_,Fh,λb o h=>Hz _ _ (vh _ _ h),⟨bt,s,g,ts,hr.a.map λg=>⟨g,0,none⟩,hr.c,iX.a.map λg=>⟨g,0,none⟩,iX.c,qV,bs⟩,rfl,rfl,rfl,rfl,rfl,?_⟩;refine⟨?_,aB.mono λb o h=>Hz _ _ (vh _ _ h),lk.mono Hz,λx ab=>(a5 x ab).mono λb o h=>Hz _ _ (vh _ _ h),?_,λq az=>?_,l1⟩;·show ins _ bt _ bt=_;rw[sf];unfold eM.cb a'.val;rw[Z3,Rn]
  ·have:=DK (J:=J) (e:=189) (b:=24) Lc (by omega);rw[Rn]at this;exact this.mono pV
  ·obtain⟨fG,ep,f1,f2⟩:=nK q az az;exact⟨fG,ep,f1,f2.mono Hz⟩
def Z4:gr P A jC:=
 ⟨λ_ _=>bi _,λ_ _ e=>(by cases e),λ_ _ e=>(by cases e),λ_ _ e=>absurd e (by show ¬ 3<=0;omega),λ_ _ e=>(by cases e)⟩
def eM.alV{g:cE}{s:ByteArray}(U:t.g=g)(aa:t.s=s)(ae:t.ts=g.ds.map (·.t)):t.P=gZ g s:=by subst U;subst aa;unfold eM.P gZ kI;rw[ae,PE,jt];rfl
def eM.ok.bJ{I:aH}(h:t.ok I){i:Nat}(hi:i<t.g.ds.length):∃ (r:Nat) (az:i<t.ts.length),t.ts[i].bJ=(r:Int)/\r<t.ts[i].ns.length/\t.no i r=jw t.g i:=by
 obtain⟨more,hm⟩:=h.a9;have qM:i<t.ts.length:=by rw[hm];simp;omega
 have e:t.ts[i]=t.g.ds[i].t:=by
  have:(t.g.ds.map (·.t)++more)[i]?=some t.g.ds[i].t:=by rw[oX (by rw[dx];exact hi),vj,fJ hi];rfl
  rw[<-hm,fJ qM]at this;simpa using this
 have ao:=(h.rt _ (cZ qM)).bJ;obtain⟨r,mW⟩:=iN ao.1;refine⟨r,qM,mW,by omega,?_⟩;have sw:=v3 0 t.g.ds;unfold jw;rw[dI,fJ (by omega:i<(ff 0 t.g.ds).length),j1,JG 0 t.g.ds i hi (by omega),dK];unfold eM.no;rw[show fH t.ts i=bz (t.g.ds.take i) by rw[hm];exact Kg _ _ (by omega),<-e,mW];rfl
def alW(I:aH)(g:cE)(s:ByteArray)(qN:Int)(v:Value)(I':aH)(M':List aE):Prop:=
 (∀ b o,I b=some o->I' b=some o)/\((qN≠0/\v=.tuple #[.pointer none,.int .i64 qN]/\M'=[])\/(qN=0/\4096<s.size/\v=.tuple #[.pointer none,.int .i64 40]/\M'=[]) \/ (qN=0/\s.size<=4096/\∃ t:eM,v=.tuple #[ptr t.bt,.int .i64 0]/\M'=cF jC t.w 0 t.bs++[]/\t.s=s/\t.g=g/\t.ts=g.ds.map (·.t)/\t.ok I'))
def Z5{I:aH}{g:cE}(aB:g.ok I)(aF:KW g)(an:g.n<=4096){qN:Int}(xp:jc kG g=qN)(s:ByteArray):Spec Tryz.prog 20 [g.val,.string s] I [] (alW I g s qN):=by
 have wQ:=akn (M0:=[]) akC aB aF;rw[xp]at wQ;refine bU [] aT Tryz.func20 rfl rfl rfl ?_;intro B aq;refine aZ.whole _ wQ ?_;rintro v J N -⟨rfl,rfl,rfl⟩;refine aI.mk (λe=>?_) (λe=>?_)
 ·have a4:qN≠0:=λay=>by rw[ay]at e;cases e
  exact⟨_,_,.refl,λ_ _ h=>h,.inl ⟨a4,rfl,rfl⟩⟩
 have a4:qN=0:=by
  have aR:(!decide (qN=0))=false:=e;by_cases bn:qN=0;·exact bn
  ·rw[c0 bn]at aR;cases aR
 refine aI.mk (λay=>?_) (λay=>?_)
 ·have bf:4096<s.size:=by have:=cv ay;omega
  exact⟨_,_,.refl,λ_ _ h=>h,.inr (.inl ⟨a4,bf,rfl,rfl⟩)⟩
 have bf:s.size<=4096:=by have:=ct ay;omega
 have hm:me g:=NM (xp.trans a4) λd ah=>(aB.ds d ah).t.n;have rp:=hm.AZ;have Ek:∀ x∈g.ds.map (·.t)++[],x.ns.length<=4096:=λx ab=>by rw[c8]at ab;obtain⟨d,ah,rfl⟩:=dp.1 ab;have wK:d.t.ns.length∈g.ds.map λd=>d.t.ns.length:=dp.2 ⟨d,ah,rfl⟩;have:=PF wK;unfold bz at rp;omega
 refine aZ.whole _ (Z2 aB an s bf (more:=[]) (ma:=none) (mn:=0) (mc:=0) ⟨rfl,⟨b1 _,by decide⟩,.inl rfl⟩ (λx ab=>by cases ab) (by omega) Ek) ?_;rintro v K M -⟨fl,t,rfl,rfl,cO,lR,B0,gU⟩;rw[c8]at B0;refine⟨_,_,.refl,fl,.inr (.inr ⟨a4,bf,t,rfl,rfl,cO,lR,B0,gU.ok (λx ab=>?_) (λx ab n an af=>?_) ⟨[],by rw[c8,B0,lR]⟩ (by rw[cO];exact bf)⟩)⟩
 ·rw[B0]at ab;obtain⟨d,ah,rfl⟩:=dp.1 ab;exact hm.r d ah
 ·rw[B0]at ab;rw[lR];obtain⟨d,ah,rfl⟩:=dp.1 ab;exact hm.find d ah n an af
section
variable{I:aH}{t:eM}{C:Nat->Nat->dc}
def Rq(h:t.ok I)(rule a:Int):Spec Tryz.prog 73 [ptr t.bt,.int .i64 rule,.int .i64 a] I M0 λv I' M'=>v=.bool (ij t.g.n t.s.size rule a)/\I'=I/\M'=M0:=by
 refine bU [] aT Tryz.func73 rfl rfl rfl ?_;intro B aq;refine bP.mk (λaV=>?_) (λaV=>?_)
 ·have aV:decide (0<=rule)=true:=aV;refine aD.mk _ (h.dH (j:=1) (by decide)) ?_;refine bP.mk (λaX=>?_) (λaX=>?_)
  ·have aX:decide (rule<(t.g.n:Int))=true:=aX;refine bP.mk (λbq=>?_) (λbq=>?_)
   ·have bq:decide (0<=a)=true:=bq;refine aD.mk _ (h.dH (j:=0) (by decide)) ?_;exact⟨_,_,.refl,by rw[ij,aV,aX,bq];rfl,rfl,rfl⟩
   ·have bq:decide (0<=a)=false:=bq;exact⟨_,_,.refl,by rw[ij,aV,aX,bq];rfl,rfl,rfl⟩
  ·have aX:decide (rule<(t.g.n:Int))=false:=aX;exact⟨_,_,.refl,by rw[ij,aV,aX];rfl,rfl,rfl⟩
 ·have aV:decide (0<=rule)=false:=aV;exact⟨_,_,.refl,by rw[ij,aV];rfl,rfl,rfl⟩
def lu:Nat->Nat->Prop:=λ_ _=>False
def alX(h:t.ok I){g:cE}{s:ByteArray}(cP:t.P=gZ g s)(oR:t.g=g)(cf:t.s=s)(eu:gr t.P lu C)(rule a:Int):Spec Tryz.prog 25 [ptr t.bt,.int .i64 rule,.int .i64 a] I (cF C t.w 0 t.bs++Mr)
  λv I' M'=>I'=I/\∃ (n:Nat) (e:Int) (C':Nat->Nat->dc),GZ g s rule a n e/\v=.tuple #[.int .i64 n,.int .i64 e]/\M'=cF C' t.w 0 t.bs++Mr/\gr t.P lu C':=by
 refine bU [] aT Tryz.func25 rfl rfl rfl ?_;intro B aq;refine aZ.whole _ (Rq h rule a) ?_;rintro v J N -⟨rfl,rfl,rfl⟩;refine aI.mk (λe=>?_) (λe=>?_)
 ·have a4:ij g.n s.size rule a=false:=by rw[<-oR,<-cf];simpa using e
  exact⟨_,_,.refl,rfl,0,1,C,.no a4 rfl rfl,rfl,rfl,eu⟩
 have a4:ij t.g.n t.s.size rule a=true:=by simpa using e
 obtain⟨i,j,rfl,rfl,hi,ak⟩:=Kp a4;have fU:=h.g.n;obtain⟨r,az,ao,hN,ea⟩:=h.bJ (i:=i) (by omega);obtain⟨ad,bI,lk⟩:=h.body az;have x3:∀ M,bD J M ((ad.add (i*2)).add 1) 1 [.int .i64 r]:=λM=>by have:=(lk M).part (k:=1) (m:=1) (by decide);unfold bB.cells at this;rw[ao]at this;exact this
 refine aD.mk _ (h.dH (j:=2) (by decide)) ?_;refine a7.mk ad i bI rfl az ?_;refine aD.mk _ (x3 _) ?_;refine aZ.whole _ (x4 h eu ⟨az,hN⟩ ak Mr) ?_;rintro v eU eJ -⟨rfl,c,er,rfl,rfl,fe,p3,bQ⟩;rw[ea,oR]at p3;have dw:i<g.n:=by rw[<-oR];exact hi
 have gx:j<=s.size:=by rw[<-cf];exact ak
 refine aI.mk (λay=>?_) (λay=>?_)
 ·have i2:c.is=2:=by have:((c.is:Nat):Int)=2:=cv ay;omega
  have a1:=(p3.ls i2).none λ_ _ h=>h;rw[cP]at a1;exact⟨_,_,.refl,rfl,0,5,er,.none i j rfl rfl dw gx (by rw[a1];rfl) rfl rfl,rfl,rfl,fe⟩
 have i2:c.is≠2:=by have:¬ ((c.is:Nat):Int)=2:=ct ay;omega
 refine⟨_,_,.refl,rfl,c.n,0,er,?_,rfl,rfl,fe⟩;rcases p3.is with x | x | x
 ·exact absurd x i2
 ·have ae:=p3.ve x;rw[cP]at ae;exact .fail i j rfl rfl dw gx (by rw[ae];rfl) (p3.z x) rfl
 ·have aR:=p3.qK x;rw[cP]at aR;exact .is i j rfl rfl dw gx (by rw[aR]) (by rw[aR]) rfl
end
def GZ.eq{g:cE}{s:ByteArray}{rule a:Int}{fA:Nat}(h:GZ g s rule a n e)(bh:GZ g s rule a fA a4):n=fA/\e=a4:=by
 have au:∀ {i j:Nat},rule=i->a=j->i<g.n->j<=s.size->ij g.n s.size rule a=true:=λU aa ae aR=>by subst U;subst aa;simp only[ij,cA,e7];omega
 rcases h with⟨t1,cg,dv⟩ | ⟨i,j,Q',F8,Z6,Z7,Rr,cg,dv⟩ | ⟨i,j,Q',F8,Z6,Z7,Rr,cg,dv⟩ | ⟨i,j,Q',F8,Z6,Z7,Rr,cg,dv⟩<;>rcases bh with⟨ao8,b',ch⟩ | ⟨fX,HA,Z8,Jv,Z9,Z',Le,b',ch⟩ | ⟨fX,HA,Z8,Jv,Z9,Z',Le,b',ch⟩ | ⟨fX,HA,Z8,Jv,Z9,Z',Le,b',ch⟩
 all_goals first
  |exact⟨cg.trans b'.symm,dv.trans ch.symm⟩|(rw[au ‹rule=_› ‹a=_› ‹_<g.n› ‹_<=s.size›]at *;contradiction)
  |(obtain rfl:i=fX:=by omega
    obtain rfl:j=HA:=by omega
    first
     |(rw[Rr]at Le;cases Le;done)|(refine⟨?_,dv.trans ch.symm⟩;omega))
def ga.split{L:List (Nat×Nat)}(h:ga P kn N L l):∀ {A B:List (Nat×Nat)},L=A++B->∃ gm g6 k8 iT,gm+g6=N/\l=k8++iT/\ga P kn gm A k8/\ga P kn g6 B iT:=by
 induction h with
 |nil=>intro A B bQ;obtain⟨rfl,rfl⟩:=List.append_eq_nil_iff.1 bQ.symm;exact⟨0,0,[],[],rfl,rfl,.nil,.nil⟩
 | @zero n k a a6 l ae aq r bc=>
  intro A B bQ;cases A with
  |nil=>exact⟨0,n+1,[],l,by omega,rfl,.nil,by rw[<-show _=B from bQ];exact .zero ae aq r⟩| cons x A=>rw[qa,ta]at bQ;obtain⟨gm,g6,k8,iT,dJ,c9,dT,fL⟩:=bc bQ.2;rw[<-bQ.1];exact⟨gm+1,g6,k8,iT,by omega,c9,.zero ae aq dT,fL⟩
 | @node n k a parts a6 l ae aq aK r bc=>
  intro A B bQ;cases A with
  |nil=>exact⟨0,n+1,[],_,by omega,rfl,.nil,by rw[<-show _=B from bQ];exact .node ae aq aK r⟩| cons x A=>rw[qa,ta]at bQ;obtain⟨gm,g6,k8,iT,dJ,c9,dT,fL⟩:=bc (A:=parts++A) (B:=B) (by rw[bQ.2,eL]);rw[<-bQ.1];exact⟨gm+1,g6,_++k8,iT,by omega,by rw[c9,eL],.node ae aq aK dT,fL⟩
def B4(P:cu)(n q a:Nat)(a6:List (Nat×Nat))(caps:List eD):Prop:=∃ cT c3 qJ,caps=cT++c3/\ga P (cJ P) qJ a6 c3/\qJ<n/\(((bj P q a).n=0/\cT=[])\/((bj P q a).n≠0/\∃ rP,rP<n/\ga P (cJ P) rP [(q,a)] cT))
def B4.of{q:Nat}{a6:List (Nat×Nat)}(ax:a<=P.s.size)(fB:N<n)(h:ga P (cJ P) N ((bif Nat.beq (cJ P q a).n 0 then []else [(q,a)])++a6) caps):B4 P n q a a6 caps:=by
 have af:(cJ P q a).n=min (bj P q a).n 65537:=by have:cJ P q a=jV (bj P q a):=oD ax;rw[this];rfl
 cases a1:Nat.beq (cJ P q a).n 0 with
 |true=>rw[a1]at h;have:=cM a1;exact⟨[],caps,N,rfl,h,fB,.inl ⟨by omega,rfl⟩⟩
 |false=>
  rw[a1]at h;have bu:(cJ P q a).n≠0:=λe=>by rw[e]at a1;cases a1
  obtain⟨gm,g6,k8,iT,dJ,c9,dT,fL⟩:=h.split rfl;exact⟨k8,iT,g6,c9,fL,by omega,.inr ⟨by omega,gm,by omega,dT⟩⟩
def Em{q:Nat}{c:dc}(h:fi P lu (λm=>m q a) c)(ae:(bj P q a).aA=3):c.is=4/\bj P q a=⟨c.n,c.to,3⟩:=by
 rcases h.is with e | e | e
 ·have:=(h.ls e).none λ_ _ h=>h;rw[show bj P q a=kH from this]at ae;cases ae
 ·have:bj P q a=iS:=h.ve e;rw[this]at ae;cases ae
 ·exact⟨e,h.qK e⟩
def Lf(t:eM)(os:a')(xs:List Value)(caps:List eD)(I:aH)(Mr:List aE)(v:Value)(I':aH)(M':List aE):Prop:=
 I'=I/\∃ (bA:a') (C':Nat->Nat->dc),v=bA.val/\bA.n=os.n+caps.length/\bA.ok 3 (xs++caps.flatMap eD.cells)/\M'=cF C' t.w 0 t.bs++(bA.aQ 110++Mr)/\gr t.P lu C'
def Lg(I:aH)(t:eM)(n:Nat):Prop:=∀ (N:Nat) (C:Nat->Nat->dc) (i j a:Nat) (os:a') (xs:List Value) (caps:List eD) (Mr:List aE),N<n->gr t.P lu C->(∃ h:i<t.ts.length,j<t.ts[i].ns.length)->a<=t.s.size->(bj t.P (t.no i j) a).aA=3->ga t.P (cJ t.P) N [(t.no i j,a)] caps->os.ok 3 xs->os.n+caps.length<=1048576 -> Spec Tryz.prog 120 [ptr t.bt,.int .i64 i,.int .i64 j,.int .i64 a,os.val] I (cF C t.w 0 t.bs++(os.aQ 110++Mr)) (Lf t os xs caps I Mr)
section
variable{I:aH}{t:eM}(h:t.ok I)
include h
theorem aaa(eu:gr t.P lu C){i:Nat}(hi:i<t.ts.length)(ak:j<t.ts[i].ns.length)(ax:a<=t.s.size)(ae:(bj t.P (t.no i j) a).aA=3)(aq:(bj t.P (t.no i j) a).n=0)(os:a')(cj:os.ok 3 xs)(Mr:List aE) :
  Spec Tryz.prog 120 [ptr t.bt,.int .i64 i,.int .i64 j,.int .i64 a,os.val] I (cF C t.w 0 t.bs++(os.aQ 110++Mr)) (Lf t os xs [] I Mr):=by
 refine bU [] aT Tryz.func120 rfl rfl rfl ?_;intro B alY;obtain⟨ad,bI,lk⟩:=h.body hi;have sJ:=h.ts _ (cZ hi);have kE:=sJ.n;obtain⟨eZ,AP,jJ⟩:=sJ.a2.row a3.da (j:=j) (by omega) ak;refine aZ.whole _ (x4 h eu ⟨hi,ak⟩ ax _) ?_;rintro v eU eJ -⟨rfl,c,er,rfl,rfl,fe,cP,bQ⟩;obtain⟨aC,ay⟩:=Em cP ae;have bf:c.n=0:=by rw[ay]at aq;exact aq
 refine aD.mk _ (h.dH (j:=2) (by decide)) ?_;refine a7.mk ad i bI rfl hi ?_;refine aD.mk _ ((lk _).part (k:=0) (m:=1) (by decide)) ?_;refine a7.mk eZ j AP rfl (by omega) ?_;refine aD.mk _ (jJ _) ?_;refine aI.mk (λ_=>?_) (λe=>absurd (ct e) (by rw[bf];simp));exact⟨_,_,.refl,rfl,os,er,rfl,rfl,by rw[AA,c8];exact cj,rfl,fe⟩
theorem En(bc:Lg I t n)(eu:gr t.P lu C){i:Nat}(x5:∃ h:i<t.ts.length,j<t.ts[i].ns.length)(ax:a<=t.s.size)(ae:(bj t.P (t.no i j) a).aA=3){cT:List eD}(aN:((bj t.P (t.no i j) a).n=0/\cT=[])\/((bj t.P (t.no i j) a).n≠0/\∃ rP,rP<n/\ga t.P (cJ t.P) rP [(t.no i j,a)] cT))(os:a')(cj:os.ok 3 xs)(ag:os.n+cT.length<=1048576)(Mr:List aE) :
  Spec Tryz.prog 120 [ptr t.bt,.int .i64 i,.int .i64 j,.int .i64 a,os.val] I (cF C t.w 0 t.bs++(os.aQ 110++Mr)) (Lf t os xs cT I Mr):=by
 rcases aN with⟨aq,rfl⟩ | ⟨aq,rP,fB,aB⟩
 ·obtain⟨hi,ak⟩:=x5;exact aaa h eu hi ak ax ae aq os cj Mr
 ·exact bc rP C i j a os xs cT Mr fB eu x5 ax ae aB cj ag
end
def aab{kn:Nat->Nat->b8}{a0:Nat}:∀ (L:List Nat) (a:Nat),uB kn a0 L a->∃ m,m<L.length/\(∀ i,i<m->(kn (L.getD i 0) (a-a0)).aA=2)/\(kn (L.getD m 0) (a-a0)).aA=3
 |[],a,h=>h.elim| k::L,a,.inl h=>⟨0,Nat.zero_lt_succ _,λi hi=>absurd hi (BQ _),h⟩
 |k::L,a,.inr ⟨U,aa⟩=>by
  obtain⟨m,dJ,c9,dT⟩:=aab L a aa;refine⟨m+1,by rw[dL];omega,λi hi=>?_,by rw[Ni];exact dT⟩;cases i with
  |zero=>rw[Ja];exact U| succ i=>rw[Ni];exact c9 i (by omega)
def alZ(h:(P.av k).d.k=0\/(P.av k).d.k=1\/(P.av k).d.k=2\/(P.av k).d.k=7\/(P.av k).d.k=8)(ae:(bj P k a).aA=3):(bj P k a).n=0:=by
 have he:=Js (P:=P) (k:=k) (a:=a);rcases h with e | e | e | e | e
 ·rw[<-he,uE e]
 ·rw[<-he,uF e];cases P.s.data[a]? with
  |none=>rfl| some b=>cases ag:rm (P.av k).d b.toNat<;>simp[ag,iS]
 ·rw[<-he,uG e];cases preB P.s (P.av k).d.t a<;>rfl
 ·rw[<-he,st e]at ae |-;cases kK:Nat.beq (bj P ((P.av k).bL.getD 0 0) a).aA 3 with
  |true=>rfl| false=>rw[kK,bd]at ae;rw[ae]at kK;cases kK
 ·rw[<-he,su e]at ae |-;cases kq:Nat.beq (bj P ((P.av k).bL.getD 0 0) a).aA 2 with
  |true=>rfl
  |false=>
   rw[kq,bd]at ae;cases kK:Nat.beq (bj P ((P.av k).bL.getD 0 0) a).aA 3<;>rw[kK]at ae<;>cases ae
def B5{q:Nat}(ax:a<=P.s.size):(cJ P q a).aA=(bj P q a).aA:=by have:cJ P q a=jV (bj P q a):=oD ax;rw[this];rfl
def Rs{q:Nat}(ax:a<=P.s.size):(cJ P q a).to=(bj P q a).to:=by have:cJ P q a=jV (bj P q a):=oD ax;rw[this];rfl
def aac{q:Nat}(h:(kn q a).aA=3):jg kn 0 (q::L) a=(bif Nat.beq (kn q a).n 0 then []else [(q,a)])++jg kn 0 L (kn q a).to:=by
 show(bif Nat.beq (kn q a).aA 3 then(bif Nat.beq (kn q a).n 0 then jg kn 0 L (kn q a).to else(q,a)::jg kn 0 L (kn q a).to)else jg kn 0 L a)=_;rw[h];cases Nat.beq (kn q a).n 0<;>rfl
def aad(h:(P.av k).d.k≠9):qm P kn k a=[]:=by unfold qm;rw[c0 h];rfl
def ga.Lh(h:ga P kn N [] l):l=[]:=by cases h;rfl
def al0{I:aH}(h:t.ok I)(bc:Lg I t n):Lg I t (n+1):=by
 rintro N C i j a os xs caps Mr fB eu⟨hi,ak⟩ax ae aB cj ag;have cr:=h.sz;have af:cJ t.P (t.no i j) a=jV (bj t.P (t.no i j) a):=oD ax;by_cases a1:(bj t.P (t.no i j) a).n=0
 ·have aN:caps=[]:=aB.y9 (m:=1) (.zero (by show(cJ t.P (t.no i j) a).aA=3;rw[af];exact ae) (by show(cJ t.P (t.no i j) a).n=0;rw[af];show min _ _=0;omega) .nil);subst aN;exact aaa h eu hi ak ax ae a1 os cj Mr
 obtain⟨Eo,parts,l,ao9,aK,kr,wR⟩:∃ Eo parts l,N=Eo+1/\jh t.P (cJ t.P) (t.no i j) a parts/\ga t.P (cJ t.P) Eo parts l/\caps=qm t.P (cJ t.P) (t.no i j) a++l:=by
  cases aB with
  |zero _ aq _=>have aq:(cJ t.P (t.no i j) a).n=0:=aq;rw[af]at aq;have aq:min (bj t.P (t.no i j) a).n 65537=0:=aq;exact absurd (by omega) a1| node _ _ aK r=>exact⟨_,_,_,rfl,aK,by rw[c8]at r;exact r,rfl⟩
 have B6:Eo<n:=by omega
 have jL:=h.ZX hi ak;obtain⟨ad,bI,lk⟩:=h.body hi;have sJ:=h.ts _ (cZ hi);have kE:=sJ.n;obtain⟨eZ,AP,jJ⟩:=sJ.a2.row a3.da (j:=j) (by omega) ak;obtain⟨y,aG⟩:∃ y,t.ts[i].ns[j]=y:=⟨_,rfl⟩;rw[aG]at jL jJ;have gz:=jL.av;have gO:=jL.ok;have eg:=gO.kn;have QV:=gO.a2.cap.2;have ah:(t.P.av (t.no i j)).d.k=y.k:=by rw[gz];rfl
 have al1:(t.P.av (t.no i j)).d.hi=y.hi:=by rw[gz];rfl
 have js:(t.P.av (t.no i j)).d.t=y.t:=by rw[gz];rfl
 have mM:y.k≠3->(t.P.av (t.no i j)).bL=y.aM.map λk=>fH t.ts i+k.toNat:=λe=>by rw[gz];show eR _ _ _=_;rw[eR,c0 e,bd]
 have B2:∀ x,x<y.kn->∃ (dh:Addr) (q:Nat),y.hK=some dh/\(∃ h:i<t.ts.length,q<t.ts[i].ns.length)/\(∀ M,bD I M (dh.add (x*1)) 1 [.int .i64 q])/\y.aM[x]?=some (q:Int):=λx ab=>by
  have g1:x<y.aM.length:=by omega
  obtain⟨dh,ev,dV⟩:=gO.a2.one (f:=λ(k:Int)=>Value.int .i64 k) ab g1;obtain⟨xT,dJ⟩:=jL.nk _ (cZ g1);obtain⟨q,az⟩:=iN xT;rw[az]at dV;exact⟨dh,q,ev,⟨hi,by omega⟩,dV,by rw[fJ g1,az]⟩
 have fp:∀ (x q:Nat),y.aM[x]?=some (q:Int)->(y.aM.map λk=>fH t.ts i+k.toNat).drop x=t.no i q::(y.aM.map λk=>fH t.ts i+k.toNat).drop (x+1):=λx q az=>by obtain⟨ab,e⟩:=iY.1 az;rw[eE (by rw[dx];exact ab),lH,e];rfl
 have h3:6<=y.k->∃ (dh:Addr) (q:Nat),y.kn=1/\y.hK=some dh/\(∃ h:i<t.ts.length,q<t.ts[i].ns.length)/\(∀ M,bD I M (dh.add (0*1)) 1 [.int .i64 q])/\(t.P.av (t.no i j)).bL=[t.no i q]:=λb2=>by have U:=jL.one b2;obtain⟨dh,q,aC,ay,bf,b3⟩:=B2 0 (by omega);refine⟨dh,q,by omega,aC,ay,bf,?_⟩;rw[mM (by omega)];have:=fp 0 q b3;rw[oZ]at this;rw[this,hJ (by rw[dx];omega)]
 have iz:∀ {q b:Nat},b<=t.s.size->(bj t.P q b).aA=3->(bj t.P q b).to<=t.s.size:=fun {q b} ag ae=>((tp t.P q b).ge ae).2.1 ag;have one:∀ {q:Nat},(t.P.av (t.no i j)).bL=[q]->y.k≠5->y.k≠6->(bj t.P q a).aA=3/\(((bj t.P q a).n=0/\l=[])\/((bj t.P q a).n≠0/\∃ rP,rP<n/\ga t.P (cJ t.P) rP [(q,a)] l)):=fun {q} az Bw DO=>by unfold jh at aK;rw[cG (by rw[ah];exact DO),cG (by rw[ah];exact Bw),az]at aK;have cf:(cJ t.P q a).aA=3:=aK.1.1;have vm:parts=jg (cJ t.P) 0 [q] a:=aK.2;rw[vm,aac cf]at kr;obtain⟨cT,c3,qJ,aC,ay,bf,b3⟩:=B4.of ax B6 kr;have eY:c3=[]:=ay.Lh;rw[eY,c8]at aC;rw[aC];exact⟨by rw[<-B5 ax];exact cf,b3⟩
 refine bU [] aT Tryz.func120 rfl rfl rfl ?_;intro B alY;refine aZ.whole _ (x4 h eu ⟨hi,ak⟩ ax _) ?_;rintro v eU eJ -⟨rfl,c,er,rfl,rfl,fe,cP,bQ⟩;obtain⟨aC,ay⟩:=Em cP ae;have bf:c.n≠0:=λe=>a1 (by rw[ay];exact e);refine aD.mk _ (h.dH (j:=2) (by decide)) ?_;refine a7.mk ad i bI rfl hi ?_;refine aD.mk _ ((lk _).part (k:=0) (m:=1) (by decide)) ?_;refine a7.mk eZ j AP rfl (by omega) ?_;refine aD.mk _ (jJ _) ?_;refine aI.mk (λe=>absurd (show((c.n:Nat):Int)=0 from cv e) (by omega)) (λ_=>?_);refine aI.mk (λe=>?_) (λe=>?_)
 ·have a4:y.k=3:=cv e;obtain⟨q,r,az,qM,ao,hN,yK⟩:=h.rule (jL.di a4);have has:(t.P.av (t.no i j)).bL=[t.no q r]:=by rw[gz];show eR _ _ _=_;rw[eR,gX a4,bg,yK]
  obtain⟨aae,Ra,G9⟩:=h.body qM;have x3:∀ M,bD eU M ((aae.add (q*2)).add 1) 1 [.int .i64 r]:=λM=>by have:=(G9 M).part (k:=1) (m:=1) (by decide);unfold bB.cells at this;rw[ao]at this;exact this
  obtain⟨eB,hk⟩:=one has (by omega) (by omega);rw[aad (by rw[ah];omega),lD]at wR;refine cU.draw aT rfl rfl rfl ?_;refine aD.mk _ (h.dH (j:=1) (by decide)) ?_;refine aZ.whole _ (Zn h.g y.t az) ?_;rintro v I' M' -⟨rfl,rfl,rfl⟩;refine aD.mk _ (h.dH (j:=2) (by decide)) ?_;refine a7.mk aae q Ra rfl qM ?_;refine aD.mk _ (x3 _) ?_;refine aZ.whole _ (En h bc fe ⟨qM,hN⟩ ax eB hk os cj (by rw[<-wR];exact ag) Mr) ?_;rintro v g2 kY -⟨rfl,bA,g',rfl,o3,m9,rfl,jk⟩;exact⟨_,_,.refl,rfl,bA,g',rfl,by rw[wR];exact o3,by rw[wR];exact m9,rfl,jk⟩
 have tl:y.k≠3:=ct e;refine aI.mk (λe=>?_) (λe=>?_)
 ·have a4:y.k=9:=cv e;obtain⟨dh,q,Rk,ev,q6,dV,has⟩:=h3 (by omega);obtain⟨eB,hk⟩:=one has (by omega) (by omega);have kv:qm t.P (cJ t.P) (t.no i j) a=[⟨y.t,a,c.to⟩]:=by unfold qm;rw[gX (ah.trans a4),bg,js];show [(⟨y.t,a,(cJ t.P (t.no i j) a).to⟩:eD)]=_;rw[af,ay];rfl
  rw[kv]at wR;have l1:os.n+1+l.length<=1048576:=by rw[wR,b5]at ag;have:os.n+(1+l.length)<=1048576:=ag;omega
  refine cU.ab8 (λi=>Nat.blt i 6) aT rfl rfl rfl ?_;refine a7.mk dh 0 ev rfl (by omega) ?_;refine aD.mk _ (dV _) ?_;refine cw.mk λb9 fK hF=>?_;intro G hy;refine n'.tr aT rfl (e:=110) rfl rfl rfl os cj (rB (hy _ (by simp[Op.operands,Call.operands])) rfl) (rB (hy _ (by simp[Op.operands,Call.operands])) rfl) (cs:=[.string y.t,.int .i64 a,.int .i64 c.to]) rfl rfl (cF er t.w 0 t.bs) Mr rfl (by omega) (by show(os.n+1)*32<=_;omega) ?_;intro sG sk dF al2;refine aZ.mk (cF er t.w 0 t.bs++(sG.aQ 110++Mr)) [⟨b9,.cells [.string y.t,.int .i64 a,.int .i64 c.to].toArray 110 (0,0)⟩] _ (fR (l₁:=[_])) (En h bc fe q6 ax eB hk sG al2 (by omega) Mr) ?_;rintro v g2 kY -⟨rfl,bA,g',rfl,o3,m9,rfl,jk⟩;refine⟨_,_,.sub (FJ _ _) .refl,rfl,bA,g',rfl,?_,?_,rfl,jk⟩;·rw[wR,b5,o3,sk];show os.n+1+l.length=os.n+(1+l.length);omega
  ·rw[wR,jP];rw[eL]at m9;exact m9
 have XF:y.k≠9:=ct e;rw[aad (by rw[ah];exact XF),lD]at wR;subst wR;have aaf:=mM tl;refine aI.mk (λe=>?_) (λe=>?_)
 ·have a4:y.k=5:=cv e;unfold jh at aK;rw[cG (by rw[ah];omega),dd (ah.trans a4),aaf]at aK;obtain⟨ru,pB⟩:=aK;obtain⟨m,vI,pc,kg⟩:=aab _ _ ru;obtain⟨iM,kX⟩:=Ut _ _ m vI pc kg;rw[dx]at vI;have al3:∀ x,x<=m->∃ (dh:Addr) (q:Nat),y.hK=some dh/\(∃ h:i<t.ts.length,q<t.ts[i].ns.length)/\(∀ M,bD eU M (dh.add (x*1)) 1 [.int .i64 q])/\(y.aM.map λk=>fH t.ts i+k.toNat).getD x 0=t.no i q:=λx ab=>by obtain⟨dh,q,tC,sE,DV,Li⟩:=B2 x (by omega);refine⟨dh,q,tC,sE,DV,?_⟩;obtain⟨g1,pK⟩:=iY.1 Li;rw[dI,vj,Li];rfl
  refine cx.inv (ι:=Nat×(Nat->Nat->dc)) (λx=>{ cc:=[(0,.val (ptr t.bt)),(1,.val (.int .i64 i)),(3,.val (.int .i64 a)),(4,.val os.val),(12,.ref 12 0),(14,.val (.int .i64 x.1))],cl:=[(12,y.cells)],ck:=eU,de:=cF x.2 t.w 0 t.bs++(os.aQ 110++Mr) }) (λx=>x.1<=m/\gr t.P lu x.2) (λx=>m-x.1) ?_ ?_;·exact⟨(0,er),⟨bi _,fe⟩,.refl,jo,.cons rfl (.nil)⟩
  rintro⟨x,g'⟩⟨ab,jk⟩;simp only at ab jk;obtain⟨dh,q,ev,q6,dV,CA⟩:=al3 x ab;refine a7.mk dh x ev rfl (by omega) ?_;refine aD.mk _ (dV _) ?_;refine aZ.whole _ (x4 h jk q6 ax _) ?_;rintro v g2 kY -⟨rfl,c3,tI,rfl,rfl,rT,tK,rO⟩;have cf:∀ z,(cJ t.P (t.no i q) (a-0)).aA=z->(bj t.P (t.no i q) a).aA=z:=λz a1=>by rw[<-B5 ax];exact a1
  by_cases X':x=m;·subst X';rw[CA]at kg kX;have dT:=cf 3 kg;obtain⟨f1,f2⟩:=Em tK dT;rw[pB,kX]at kr;obtain⟨cT,hc,qJ,aV,aX,bq,eK⟩:=B4.of (a6:=[]) (caps:=caps) ax B6 (by rw[c8];exact kr);have mY:hc=[]:=aX.Lh;rw[mY,c8]at aV;rw[<-aV]at eK;refine aI.mk (λe=>absurd (show((c3.is:Nat):Int)≠4 from by simpa using e) (by omega)) (λ_=>?_);refine a7.mk dh x ev rfl (by omega) ?_;refine aD.mk _ (dV _) ?_;refine aZ.whole _ (En h bc rT q6 ax dT eK os cj ag Mr) ?_;rintro v j6 lG -⟨rfl,bA,wS,rfl,o3,m9,rfl,x6⟩;exact⟨_,_,.refl,rfl,bA,wS,rfl,o3,m9,rfl,x6⟩
  ·have aO:x<m:=by omega
   have aa:=pc x aO;rw[CA]at aa;have c9:=cf 2 aa;have bu:c3.is≠4:=λb3=>by have:bj t.P (t.no i q) a=⟨c3.n,c3.to,3⟩:=tK.qK b3;rw[this]at c9;cases c9
   refine aI.mk (λ_=>?_) (λe=>absurd (show((c3.is:Nat):Int)=4 from by simpa using e) (by omega));refine aW.mk _ (b0 (i:=x) (by omega)) ?_;exact⟨(x+1,tI),⟨⟨aO,rT⟩,by simp only;omega⟩,.refl,jo,.cons rfl (.nil)⟩
 have Bw:y.k≠5:=ct e;refine aI.mk (λe=>?_) (λe=>?_)
 ·have a4:y.k=4:=cv e;unfold jh at aK;rw[cG (by rw[ah];omega),cG (by rw[ah];omega),aaf]at aK;obtain⟨ru,pB⟩:=aK;rw[pB]at kr;refine cx.inv (ι:=Nat×Nat×a'×List eD×List eD×(Nat->Nat->dc)) (λx=>{ cc:=[(0,.val (ptr t.bt)),(1,.val (.int .i64 i)),(3,.val (.int .i64 x.2.1)),(4,.val x.2.2.1.val),(12,.ref 12 0),(15,.val (.int .i64 x.1))],cl:=[(12,y.cells)],ck:=eU,de:=cF x.2.2.2.2.2 t.w 0 t.bs++(x.2.2.1.aQ 110++Mr) }) (λx=>x.1<=y.kn/\x.2.1<=t.s.size/\gr t.P lu x.2.2.2.2.2/\caps=x.2.2.2.1++x.2.2.2.2.1/\x.2.2.1.n=os.n+x.2.2.2.1.length/\x.2.2.1.ok 3 (xs++x.2.2.2.1.flatMap eD.cells)/\allM (cJ t.P) 0 ((y.aM.map λk=>fH t.ts i+k.toNat).drop x.1) x.2.1/\∃ qJ,qJ<n/\ga t.P (cJ t.P) qJ (jg (cJ t.P) 0 ((y.aM.map λk=>fH t.ts i+k.toNat).drop x.1) x.2.1) x.2.2.2.2.1) (λx=>y.kn-x.1) ?_ ?_
  ·exact⟨(0,a,os,[],caps,er),⟨bi _,ax,fe,rfl,rfl,by simp only[AA,c8];exact cj,by rw[oZ];exact ru,Eo,B6,by rw[oZ];exact kr⟩,.refl,jo,.cons rfl (.nil)⟩
  rintro⟨x,b,hf,kh,a6,g'⟩⟨ab,iO,jk,pJ,B7,wT,xm,qJ,pO,hU⟩;simp only at ab iO jk pJ B7 wT xm pO hU;have bY:kh.length+a6.length=caps.length:=by rw[pJ,b5]
  refine aI.mk (λe=>?_) (λe=>?_)
  ·have aO:x<y.kn:=by simpa using e
   obtain⟨dh,q,ev,q6,dV,A3⟩:=B2 x aO;rw[fp x q A3]at xm hU;have aag:(cJ t.P (t.no i q) b).aA=3:=xm.1;have dT:(bj t.P (t.no i q) b).aA=3:=by rw[<-B5 iO];exact aag
   rw[aac aag]at hU;obtain⟨cT,hc,Eg,aV,aX,bq,eK⟩:=B4.of iO pO hU;refine a7.mk dh x ev rfl aO ?_;refine aD.mk _ (dV _) ?_;refine aZ.whole _ (En h bc jk q6 iO dT eK hf wT (by rw[aV,b5]at bY;omega) Mr) ?_;rintro v g2 kY -⟨rfl,rJ,tI,rfl,aah,HB,rfl,rT⟩;refine a7.mk dh x ev rfl aO ?_;refine aD.mk _ (dV _) ?_;refine aZ.whole _ (x4 h rT q6 iO _) ?_;rintro v j6 lG -⟨rfl,c3,wS,rfl,rfl,x6,tK,rO⟩;obtain⟨f1,f2⟩:=Em tK dT;have Ep:(cJ t.P (t.no i q) b).to=c3.to:=by rw[Rs iO,f2]
   refine aW.mk _ (b0 (i:=x) (by omega)) ?_;refine⟨(x+1,c3.to,rJ,kh++cT,hc,wS),⟨⟨aO,?_,x6,?_,?_,?_,?_,Eg,bq,?_⟩,by simp only;omega⟩,.refl,jo,.cons rfl (.nil)⟩;·have:=iz iO dT;rw[f2]at this;exact this
   ·rw[pJ,aV,eL]
   ·show rJ.n=os.n+(kh++cT).length;rw[b5];omega
   ·rw[jP,<-eL];exact HB
   ·rw[<-Ep];exact xm.2
   ·rw[<-Ep];exact aX
  ·have cI:y.kn<=x:=by simpa using e
   rw[hJ (by rw[dx];omega)]at hU;have h6:a6=[]:=hU.Lh;subst h6;rw[c8]at pJ;subst pJ;exact⟨_,_,.refl,rfl,hf,g',rfl,B7,wT,rfl,jk⟩
 have zP:y.k≠4:=ct e;have g7:y.k=6:=by
  have o8:=jL.k;by_cases bC:y.k=6;·exact bC
  ·exact absurd (alZ (by rw[ah];omega) ae) a1
 obtain⟨dh,q,Rk,ev,q6,dV,has⟩:=h3 (by omega);have nV:=jL.l7 g7;unfold jh at aK;rw[dd (ah.trans g7),has,al1]at aK;have aK:k6 (cJ t.P) 0 (t.no i q) y.hi 0 a parts:=aK;refine cx.inv (ι:=Nat×Nat×a'×List eD×List eD×(Nat->Nat->dc)) (λx=>{ cc:=[(0,.val (ptr t.bt)),(1,.val (.int .i64 i)),(3,.val (.int .i64 x.2.1)),(4,.val x.2.2.1.val),(12,.ref 12 0),(16,.val (.int .i64 x.1))],cl:=[(12,y.cells)],ck:=eU,de:=cF x.2.2.2.2.2 t.w 0 t.bs++(x.2.2.1.aQ 110++Mr) }) (λx=>(x.1<=1000001/\(y.hi=-1\/(x.1:Int)<=y.hi))/\x.2.1<=t.s.size/\gr t.P lu x.2.2.2.2.2/\caps=x.2.2.2.1++x.2.2.2.2.1/\x.2.2.1.n=os.n+x.2.2.2.1.length/\x.2.2.1.ok 3 (xs++x.2.2.2.1.flatMap eD.cells)/\∃ parts,k6 (cJ t.P) 0 (t.no i q) y.hi x.1 x.2.1 parts/\∃ qJ,qJ<n/\ga t.P (cJ t.P) qJ parts x.2.2.2.2.1) (λx=>1000001-x.1) ?_ ?_
 ·exact⟨(0,a,os,[],caps,er),⟨⟨bi _,by simp only;omega⟩,ax,fe,rfl,rfl,by simp only[AA,c8];exact cj,parts,aK,Eo,B6,kr⟩,.refl,jo,.cons rfl (.nil)⟩
 rintro⟨x,b,hf,kh,a6,g'⟩⟨⟨ab,TY⟩,iO,jk,pJ,B7,wT,al4,gV,qJ,pO,hU⟩;simp only at ab TY iO jk pJ B7 wT gV pO hU;have bY:kh.length+a6.length=caps.length:=by rw[pJ,b5]
 have fin:al4=[]->caps=kh:=λe=>by rw[e]at hU;rw[pJ,hU.Lh,c8]
 by_cases hm:y.hi<0
 ·refine bP.mk (λe=>absurd (show ¬ y.hi<0 from ct e) (by omega)) (λ_=>?_);refine a7.mk dh 0 ev rfl (by omega) ?_;refine aD.mk _ (dV _) ?_;refine aZ.whole _ (x4 h jk q6 iO _) ?_;rintro v g2 kY -⟨rfl,c3,tI,rfl,rfl,rT,tK,rO⟩;cases gV with
  |stop U=>exact absurd U (by omega)
  |fail U aa=>
   have c9:(bj t.P (t.no i q) b).aA=2:=by rw[<-B5 iO];exact aa
   have bu:c3.is≠4:=λb3=>by have:bj t.P (t.no i q) b=⟨c3.n,c3.to,3⟩:=tK.qK b3;rw[this]at c9;cases c9
   refine aI.mk (λ_=>?_) (λe=>absurd (show((c3.is:Nat):Int)=4 from by simpa using e) (by omega));have B8:=fin rfl;exact⟨_,_,.refl,rfl,hf,tI,rfl,by rw[B8];exact B7,by rw[B8];exact wT,rfl,rT⟩
  | @more _ _ dg mD U aa r=>
   have aa:(cJ t.P (t.no i q) b).aA=3:=aa;have dT:(bj t.P (t.no i q) b).aA=3:=by rw[<-B5 iO];exact aa
   obtain⟨f1,f2⟩:=Em tK dT;have Ep:(cJ t.P (t.no i q) b).to=c3.to:=by rw[Rs iO,f2]
   obtain⟨cT,hc,Eg,aV,aX,bq,eK⟩:=B4.of iO pO hU;refine aI.mk (λe=>absurd (show((c3.is:Nat):Int)≠4 from by simpa using e) (by omega)) (λ_=>?_);refine a7.mk dh 0 ev rfl (by omega) ?_;refine aD.mk _ (dV _) ?_;refine aZ.whole _ (En h bc rT q6 iO dT eK hf wT (by rw[aV,b5]at bY;omega) Mr) ?_;rintro v j6 lG -⟨rfl,rJ,wS,rfl,aah,HB,rfl,x6⟩;refine aW.mk _ (b0 (i:=x) (by omega)) ?_;refine⟨(x+1,c3.to,rJ,kh++cT,hc,wS),⟨⟨⟨by simp only;omega,by simp only;omega⟩,?_,x6,?_,?_,?_,dg,?_,Eg,bq,aX⟩,by simp only;omega⟩,.refl,jo,.cons rfl (.nil)⟩;·have:=iz iO dT;rw[f2]at this;exact this
   ·rw[pJ,aV,eL]
   ·show rJ.n=os.n+(kh++cT).length;rw[b5];omega
   ·rw[jP,<-eL];exact HB
   ·rw[<-Ep];exact r
 refine bP.mk (λ_=>?_) (λe=>absurd (show y.hi<0 from cv (by simpa using e)) hm);refine aI.mk (λe=>?_) (λe=>?_)
 ·have aO:(x:Int)<y.hi:=cv e;refine a7.mk dh 0 ev rfl (by omega) ?_;refine aD.mk _ (dV _) ?_;refine aZ.whole _ (x4 h jk q6 iO _) ?_;rintro v g2 kY -⟨rfl,c3,tI,rfl,rfl,rT,tK,rO⟩;cases gV with
  |stop U=>exact absurd U (by omega)
  |fail U aa=>
   have c9:(bj t.P (t.no i q) b).aA=2:=by rw[<-B5 iO];exact aa
   have bu:c3.is≠4:=λb3=>by have:bj t.P (t.no i q) b=⟨c3.n,c3.to,3⟩:=tK.qK b3;rw[this]at c9;cases c9
   refine aI.mk (λ_=>?_) (λe=>absurd (show((c3.is:Nat):Int)=4 from by simpa using e) (by omega));have B8:=fin rfl;exact⟨_,_,.refl,rfl,hf,tI,rfl,by rw[B8];exact B7,by rw[B8];exact wT,rfl,rT⟩
  | @more _ _ dg mD U aa r=>
   have aa:(cJ t.P (t.no i q) b).aA=3:=aa;have dT:(bj t.P (t.no i q) b).aA=3:=by rw[<-B5 iO];exact aa
   obtain⟨f1,f2⟩:=Em tK dT;have Ep:(cJ t.P (t.no i q) b).to=c3.to:=by rw[Rs iO,f2]
   obtain⟨cT,hc,Eg,aV,aX,bq,eK⟩:=B4.of iO pO hU;refine aI.mk (λe=>absurd (show((c3.is:Nat):Int)≠4 from by simpa using e) (by omega)) (λ_=>?_);refine a7.mk dh 0 ev rfl (by omega) ?_;refine aD.mk _ (dV _) ?_;refine aZ.whole _ (En h bc rT q6 iO dT eK hf wT (by rw[aV,b5]at bY;omega) Mr) ?_;rintro v j6 lG -⟨rfl,rJ,wS,rfl,aah,HB,rfl,x6⟩;refine aW.mk _ (b0 (i:=x) (by omega)) ?_;refine⟨(x+1,c3.to,rJ,kh++cT,hc,wS),⟨⟨⟨by simp only;omega,by simp only;omega⟩,?_,x6,?_,?_,?_,dg,?_,Eg,bq,aX⟩,by simp only;omega⟩,.refl,jo,.cons rfl (.nil)⟩;·have:=iz iO dT;rw[f2]at this;exact this
   ·rw[pJ,aV,eL]
   ·show rJ.n=os.n+(kh++cT).length;rw[b5];omega
   ·rw[jP,<-eL];exact HB
   ·rw[<-Ep];exact r
 ·have cI:¬ (x:Int)<y.hi:=ct e;have B8:caps=kh:=by
   cases gV with
   |stop U=>exact fin rfl| fail U aa=>exact fin rfl| more mD U aa r=>exact absurd (show(x:Int)≠y.hi from U) (by omega)
  subst B8;exact⟨_,_,.refl,rfl,hf,g',rfl,B7,wT,rfl,jk⟩
def aai{I:aH}{t:eM}(h:t.ok I):∀ n,Lg I t n
 |0=>λN C i j a os xs caps Mr an=>absurd an (BQ _)
 |n+1=>al0 h (aai h n)
def al5{I:aH}(h:t.ok I){i:Nat}(eu:gr t.P lu C)(x5:∃ h:i<t.ts.length,j<t.ts[i].ns.length)(ax:a<=t.s.size)(ae:(bj t.P (t.no i j) a).aA=3)(aB:ga t.P (cJ t.P) N [(t.no i j,a)] caps)(cj:os.ok 3 xs)(ag:os.n+caps.length<=1048576) :
  Spec Tryz.prog 120 [ptr t.bt,.int .i64 i,.int .i64 j,.int .i64 a,os.val] I (cF C t.w 0 t.bs++(os.aQ 110++Mr)) (Lf t os xs caps I Mr):=
 aai h (N+1) N C i j a os xs caps Mr (Cd _) eu x5 ax ae aB cj ag
def aaj(t:eM)(Q:rq->Int->Prop)(I:aH)(Mr:List aE)(v:Value)(I':aH)(M':List aE):Prop:=
 I'=I/\∃ (os:a') (o:rq) (e:Int) (C':Nat->Nat->dc),Q o e/\v=.tuple #[u1 o os.val,.int .i64 e]/\os.ok 3 (o.caps.flatMap eD.cells)/\M'=cF C' t.w 0 t.bs++(os.aQ 110++Mr)/\gr t.P lu C'
section
variable{I:aH}{t:eM}{C:Nat->Nat->dc}{Mr:List aE}(h:t.ok I)
include h
theorem aak(an:∀ k,pA t.P k)(eu:gr t.P lu C){i:Nat}(x5:∃ h:i<t.ts.length,j<t.ts[i].ns.length)(ax:a<=t.s.size) :
  Spec Tryz.prog 74 [ptr t.bt,.int .i64 i,.int .i64 j,.int .i64 a] I (cF C t.w 0 t.bs++Mr) (aaj t (λo e=>u3 t.P (t.no i j) a o e) I Mr):=by
 have cr:=h.sz;refine bU [] aT Tryz.func74 rfl rfl rfl ?_;intro B aq;refine aZ.whole _ (x4 h eu x5 ax Mr) ?_;rintro v eU eJ -⟨rfl,c,er,rfl,rfl,fe,cP,bQ⟩;refine aI.mk (λe=>?_) (λe=>?_)
 ·have a4:c.is=2:=by have:((c.is:Nat):Int)=2:=cv e;omega
  have a1:bj t.P (t.no i j) a=kH:=(cP.ls a4).none λ_ _ h=>h;exact⟨_,_,.refl,rfl,jd,ll,5,er,.none (by rw[a1];rfl) rfl rfl,rfl,ka 3,rfl,fe⟩
 have aC:c.is≠2:=by have:¬ ((c.is:Nat):Int)=2:=ct e;omega
 refine aI.mk (λe=>?_) (λe=>?_)
 ·have a4:c.is=3:=by have:((c.is:Nat):Int)=3:=cv e;omega
  have a1:bj t.P (t.no i j) a=iS:=cP.ve a4;exact⟨_,_,.refl,rfl,jd,ll,0,er,.fail (by rw[a1];rfl) rfl rfl,rfl,ka 3,rfl,fe⟩
 have ay:c.is≠3:=by have:¬ ((c.is:Nat):Int)=3:=ct e;omega
 have b3:c.is=4:=by have:=cP.is;omega
 have a1:bj t.P (t.no i j) a=⟨c.n,c.to,3⟩:=cP.qK b3;have ae:(bj t.P (t.no i j) a).aA=3:=by rw[a1]
 refine aI.mk (λe=>?_) (λe=>?_)
 ·have a4:65536<c.n:=by have:(65536:Int)<((c.n:Nat):Int):=cv e;omega
  exact⟨_,_,.refl,rfl,jd,ll,40,er,.many ae (by rw[a1];exact a4) rfl rfl,rfl,ka 3,rfl,fe⟩
 have eY:c.n<=65536:=by have:¬ (65536:Int)<((c.n:Nat):Int):=ct e;omega
 obtain⟨N,l,hY,hD,h'⟩:=XL rfl (show t.P.s.size<=4096 from cr) an (show a<=t.P.s.size from ax) ae;have nx:l.length=c.n:=by have:=hD.1;rw[a1]at this;have:=this (by show min c.n 65537<=65536;omega);have g7:l.length=min c.n 65537:=this;omega
 have hy:=al5 h (os:=jd) (xs:=[]) (caps:=l) (Mr:=Mr) fe x5 ax ae hY (ka 3) (by show 0+l.length<=_;omega);refine cU.draw aT rfl rfl rfl ?_;refine kU.VA _ hy ?_;rintro v g2 kY -⟨rfl,bA,g',rfl,o3,m9,rfl,jk⟩;rw[lD]at m9;exact⟨_,_,.refl,rfl,bA,⟨true,c.to,l⟩,0,g',.is ae (by rw[a1];exact eY) rfl rfl (by rw[a1]) (by rw[a1];exact nx) ⟨N,hY⟩ h',rfl,m9,rfl,jk⟩
theorem aal{g:cE}{s:ByteArray}(an:∀ k,pA t.P k)(cP:t.P=gZ g s)(oR:t.g=g)(cf:t.s=s)(eu:gr t.P lu C)(rule a:Int):Spec Tryz.prog 23 [ptr t.bt,.int .i64 rule,.int .i64 a] I (cF C t.w 0 t.bs++Mr) (aaj t (BA g s rule a) I Mr):=by
 refine bU [] aT Tryz.func23 rfl rfl rfl ?_;intro B aq;refine aZ.whole _ (Rq h rule a) ?_;rintro v J N -⟨rfl,rfl,rfl⟩;refine aI.mk (λe=>?_) (λe=>?_)
 ·have a4:ij g.n s.size rule a=false:=by rw[<-oR,<-cf];simpa using e
  exact⟨_,_,.refl,rfl,jd,ll,1,C,.no a4 rfl rfl,rfl,ka 3,rfl,eu⟩
 have a4:ij t.g.n t.s.size rule a=true:=by simpa using e
 obtain⟨i,j,rfl,rfl,hi,ak⟩:=Kp a4;have fU:=h.g.n;obtain⟨r,az,ao,hN,ea⟩:=h.bJ (i:=i) (by omega);obtain⟨ad,bI,lk⟩:=h.body az;have x3:∀ M,bD J M ((ad.add (i*2)).add 1) 1 [.int .i64 r]:=λM=>by have:=(lk M).part (k:=1) (m:=1) (by decide);unfold bB.cells at this;rw[ao]at this;exact this
 refine aD.mk _ (h.dH (j:=2) (by decide)) ?_;refine a7.mk ad i bI rfl az ?_;refine aD.mk _ (x3 _) ?_;refine aZ.whole _ (aak h an eu ⟨az,hN⟩ ak) ?_;rintro v eU eJ -⟨rfl,os,o,e,er,xV,rfl,cj,rfl,fe⟩;rw[ea,oR,cP]at xV;exact⟨_,_,.refl,rfl,os,o,e,er,.is i j rfl rfl (by rw[<-oR];exact hi) (by rw[<-cf];exact ak) xV,rfl,cj,rfl,fe⟩
theorem al6{g:cE}{s:ByteArray}(cP:t.P=gZ g s)(oR:t.g=g)(cf:t.s=s)(eu:gr t.P lu C)(QH:g.n<=4096):Spec Tryz.prog 22 [ptr t.bt] I (cF C t.w 0 t.bs++Mr) λv I' M'=>I'=I/\∃ C',v=.int .i64 (Zx g s)/\M'=cF C' t.w 0 t.bs++Mr/\gr t.P lu C':=by
 have cr:=h.sz;have fU:=h.g.n;have Rt:t.g.n=g.n:=by rw[oR]
 have aam:t.s.size=s.size:=by rw[cf]
 have al7:∀ i,i<=g.n->rR (tJ g s) i<=i*(s.size+1):=λi _=>Q2 i λ_ _=>Zy ..;have hmul:∀ i,i<=g.n->i*(s.size+1)<=4096*4097:=λi hi=>N6 (by omega) (by omega);refine bU [] aT Tryz.func22 rfl rfl rfl ?_;intro B aq;refine cx.inv (ι:=Nat×(Nat->Nat->dc)) (λx=>{ cc:=[(0,.val (ptr t.bt)),(3,.val (.int .i64 (rR (tJ g s) x.1:Nat))),(4,.val (.int .i64 x.1))],cl:=[],ck:=I,de:=cF x.2 t.w 0 t.bs++Mr }) (λx=>x.1<=g.n/\gr t.P lu x.2) (λx=>g.n-x.1) ?_ ?_
 ·exact⟨(0,C),⟨bi _,eu⟩,.refl,dO,.nil⟩
 rintro⟨i,o5⟩⟨hi,mR⟩;simp only at hi mR;refine aD.mk _ (h.dH (j:=1) (by decide)) ?_;refine aI.mk (λe=>?_) (λe=>?_)
 rotate_left
 ·have cI:i=g.n:=by have:¬ (i:Int)<(t.g.n:Int):=ct e;omega
  subst cI;exact⟨_,_,.refl,rfl,o5,rfl,rfl,mR⟩
 have aO:i<g.n:=by have:(i:Int)<(t.g.n:Int):=cv e;omega
 have vF:=al7 i hi;have vI:=hmul i hi;obtain⟨r,az,ao,hN,ea⟩:=h.bJ (i:=i) (by omega);rw[oR]at ea;obtain⟨ad,bI,lk⟩:=h.body az;have x3:∀ M,bD I M ((ad.add (i*2)).add 1) 1 [.int .i64 r]:=λM=>by have:=(lk M).part (k:=1) (m:=1) (by decide);unfold bB.cells at this;rw[ao]at this;exact this
 refine cx.inv (ι:=Nat×(Nat->Nat->dc)) (λx=>{ cc:=[(0,.val (ptr t.bt)),(3,.val (.int .i64 (rR (tJ g s) i+n2 (mQ g s i) x.1:Nat))),(4,.val (.int .i64 i)),(5,.val (.int .i64 x.1))],cl:=[],ck:=I,de:=cF x.2 t.w 0 t.bs++Mr }) (λx=>x.1<=s.size+1/\gr t.P lu x.2) (λx=>s.size+1-x.1) ?_ ?_
 ·exact⟨(0,o5),⟨bi _,mR⟩,.refl,ec,.nil⟩
 rintro⟨a,er⟩⟨ax,fe⟩;simp only at ax fe;have ed:=K1 (mQ g s i) a;refine aD.mk _ (h.dH (j:=0) (by decide)) ?_;refine aI.mk (λe=>?_) (λe=>?_)
 rotate_left
 ·have cI:a=s.size+1:=by have:¬ (a:Int)<=(t.s.size:Int):=ct e;omega
  subst cI;refine aW.mk _ (b0 (i:=i) (by omega)) ?_;exact⟨(i+1,er),⟨⟨aO,fe⟩,by simp only;omega⟩,.refl,dO,.nil⟩
 have has:a<=t.s.size:=by have:(a:Int)<=(t.s.size:Int):=cv e;omega
 refine aD.mk _ (h.dH (j:=2) (by decide)) ?_;refine a7.mk ad i bI rfl az ?_;refine aD.mk _ (x3 _) ?_;refine aZ.whole _ (x4 h fe ⟨az,hN⟩ has Mr) ?_;rintro v eU eJ -⟨rfl,c,g',rfl,rfl,jk,p3,bQ⟩;rw[ea]at p3;refine aI.mk (λe=>?_) (λe=>?_)
 ·have bu:c.is≠2:=λbf=>by rw[bf]at e;cases e
  have ag:mQ g s i a=true:=by
   unfold mQ;rw[<-cP];rcases p3.is with b3 | b3 | b3;·exact absurd b3 bu
   ·have:bj t.P (jw g i) a=iS:=p3.ve b3;rw[this];rfl
   ·have:bj t.P (jw g i) a=⟨c.n,c.to,3⟩:=p3.qK b3;rw[this];rfl
  have pK:n2 (mQ g s i) (a+1)=n2 (mQ g s i) a+1:=by rw[n2,ag];rfl
  refine aW.mk ((rR (tJ g s) i+n2 (mQ g s i) (a+1):Nat):Int) (e0 (show((rR (tJ g s) i+n2 (mQ g s i) a:Nat):Int)+1=_ by rw[pK];omega) (by rw[pK];omega)) ?_;refine aW.mk _ (b0 (i:=a) (by omega)) ?_;exact⟨(a+1,g'),⟨⟨by simp only;omega,jk⟩,by simp only;omega⟩,.refl,ec,.nil⟩
 ·have bu:c.is=2:=by
   have:¬ ((c.is:Nat):Int)≠2:=λeY=>by have g7:(!decide (((c.is:Nat):Int)=2))=false:=e;rw[c0 eY]at g7;cases g7
   omega
  have ag:mQ g s i a=false:=by unfold mQ;rw[<-cP];have:bj t.P (jw g i) a=kH:=(p3.ls bu).none λ_ _ h=>h;rw[this];rfl
  have pK:n2 (mQ g s i) (a+1)=n2 (mQ g s i) a:=by rw[n2,ag];rfl
  refine aW.mk _ (b0 (i:=a) (by omega)) ?_;exact⟨(a+1,g'),⟨⟨by simp only;omega,jk⟩,by simp only;omega⟩,.refl,.cons .refl (.cons (zB (by rw[pK])) (kS)),.nil⟩
end
def Ru{I:aH}{bA:a'}(cj:os.ok 3 (o.caps.flatMap eD.cells))(m9:bA.ok 3 (o.caps.flatMap eD.cells))(bb:∀ x∈os.aQ 110,x∈M0)(A7:∀ x∈bA.aQ 110,x∈M0)(ag:o.caps.length<=1048576) :
  Spec Tryz.prog 26 [u1 o os.val,u1 o bA.val] I M0 λv I' M'=>v=.bool true/\I'=I/\M'=M0:=by
 have aw:=cj.len;have pW:=m9.len;rw[g3 _ 3 eD.da]at aw pW;have an:os.n=o.caps.length:=by omega
 have o3:bA.n=os.n:=by omega
 refine bU [] aT Tryz.func26 rfl rfl rfl ?_;intro B aq;obtain⟨k,to,l⟩:=o;simp only at cj m9 aw pW an ag;refine bP.mk (λ_=>?_) (λh=>absurd h (by simp));refine bP.mk (λ_=>?_) (λh=>absurd h (by simp));refine aI.mk (λh=>absurd h (by rw[o3];simp)) (λ_=>?_);refine cx.inv (ι:=Nat) (λi=>{ cc:=[(2,.ref 2 0),(3,.ref 3 0),(5,.val (.int .i64 i))],cl:=[(2,[.bool k,.int .i64 to,os.val]),(3,[.bool k,.int .i64 to,bA.val])],ck:=I,de:=M0 }) (λi=>i<=os.n) (λi=>os.n-i) ?_ ?_
 ·exact⟨0,bi _,.refl,dO,.cons rfl (.cons rfl (.nil))⟩
 intro i hi;refine aI.mk (λaa=>?_) (λaa=>?_)
 ·have aO:i<os.n:=by have:(i:Int)<(os.n:Int):=cv aa;omega
  have eP:i<l.length:=by omega
  obtain⟨ad,bI,bl⟩:=a'.ok.row (I:=I) (e:=110) eD.da (by decide) cj (M:=M0) bb eP;obtain⟨Sp,al8,zx⟩:=a'.ok.row (I:=I) (e:=110) eD.da (by decide) m9 (M:=M0) A7 eP;generalize l[i]=x at bl zx;refine cU.draw aT rfl rfl rfl ?_;refine a7.mk ad i bI rfl aO ?_;refine aD.mk _ bl ?_;refine a7.mk Sp i al8 rfl (by omega) ?_;refine aD.mk _ zx ?_;refine cC.aj2 (p:=x) (q:=x) ?_;refine aI.mk (λe=>?_) (λe=>?_);·have ay:(!Hm x x)=true:=e;rw[pY,<-Bool.not_eq_true,aj1]at ay;exact absurd rfl ay
  ·refine aW.mk _ (b0 (i:=i) (by omega)) ?_;exact⟨i+1,⟨aO,by omega⟩,.refl,dO,.cons rfl (.cons rfl (.nil))⟩
 ·exact⟨_,_,.refl,rfl,rfl,rfl⟩
def aan{off:Nat}(h:off+vs.length<=cs.length):(bO cs off vs).length=cs.length:=by simp[bO];omega
def cV.al9{o:Nat}(a9 post:List aE)(cs:List Value)(T:Nat)(bb:M=a9++⟨b,.cells cs.toArray T (0,0)⟩::post)(ag:k+o+vs.length<=cs.length)(U:gI vs=true)
  (h:K (a9++⟨b,.cells (bO cs (k+o) vs).toArray T (0,0)⟩::post)):cV M (((⟨b,0,none⟩:Addr).add k).add o) vs K:=by
 have e:((⟨b,0,none⟩:Addr).add k)=⟨b,k,none⟩:=by rw[ei _ rfl,dK]
 rw[e];exact cV.oh a9 post cs T bb (by rw[oE];exact ag) U _ rfl h
def aao{I:aH}(cj:os.ok 3 xs)(ag:os.n<=1048576):Spec Tryz.prog 27 [u1 o os.val] I (os.aQ 110++M0) λv I' M'=>I'=I/\∃ X,M'=X++M0:=by
 obtain⟨a,n,c,aS⟩:=os;cases a with
 |none=>
  obtain⟨U,aa⟩:=cj.nil rfl;simp only at U aa ag;subst U;refine bU [] aT Tryz.func27 rfl rfl rfl ?_;intro B aq;refine cx.inv (ι:=Nat) (λk=>{ cc:=[(1,.ref 1 0),(2,.val (.int .i64 k))],cl:=[(1,[.bool o.ok,.int .i64 o.to,.slice none 0 c])],ck:=I,de:=M0 }) (λk=>k=0) (λk=>k) ?_ ?_;·exact⟨0,rfl,.refl,kS,.cons rfl (.nil)⟩
  rintro k rfl;refine aI.mk (λh=>absurd h (by simp)) (λ_=>?_);exact⟨_,_,.refl,rfl,[],rfl⟩
 |some g=>
  obtain⟨U,aa,ae,aR⟩:=cj.cap g rfl;simp only at U aa ae aR ag;refine bU [] aT Tryz.func27 rfl rfl rfl ?_;intro B aq;refine cx.inv (ι:=Nat×List Value) (λx=>{ cc:=[(1,.ref 1 0),(2,.val (.int .i64 x.1))],cl:=[(1,[.bool o.ok,.int .i64 o.to,.slice (some ⟨g,0,none⟩) n c])],ck:=I,de:=⟨g,.cells x.2.toArray 110 (0,0)⟩::M0 }) (λx=>x.1<=n/\x.2.length=aS.length) (λx=>n-x.1) ?_ ?_;·exact⟨(0,aS),⟨bi _,rfl⟩,.refl,kS,.cons rfl (.nil)⟩
  rintro⟨i,l⟩⟨hi,aw⟩;simp only at hi aw;refine aI.mk (λh=>?_) (λh=>?_)
  ·have aO:i<n:=by have:(i:Int)<(n:Int):=cv h;omega
   refine a7.mk ⟨g,0,none⟩ i rfl rfl aO ?_;have bk:i*3+1<=l.length:=by rw[aw,U];omega
   refine cV.al9 [] M0 l 110 rfl (by show i*3+0+1<=_;omega) rfl ?_;refine aW.mk _ (b0 (i:=i) (by omega)) ?_;exact⟨(i+1,bO l (i*3+0) [.string ⟨#[115,112,111,105,108,116]⟩]),⟨⟨aO,(aan (by show i*3+0+1<=_;omega)).trans aw⟩,by simp only;omega⟩,.refl,kS,.cons rfl (.nil)⟩
  ·exact⟨_,_,.refl,rfl,[⟨g,.cells l.toArray 110 (0,0)⟩],rfl⟩
inductive B9(g:cE)(s:ByteArray)(x:bB)(av:Int)(o:rq)(e:Int):Prop
 |arg(h:¬ (0<=av/\av<=(s.size:Int)))(ar:o=ll)(he:e=1)| form (h:0<=av/\av<=(s.size:Int)) (hm:fF x=false) (ar:o=ll) (he:e=4)| name (h:0<=av/\av<=(s.size:Int)) (hm:fF x=true) (an:∃ n∈x.ns,n.k=3/\cy n.t g.ds 0<0) (ar:o=ll) (he:e=41)| is (a r:Nat) (ax:av=a) (has:a<=s.size) (hm:fF x=true) (ab:xU g x) (ao:x.bJ=(r:Int)) (h:u3 (lT g x s) (bz g.ds+r) a o e)
def u3.oH(au:u3 P k a o e)(HC:u3 P k a o' a4):o=o'/\e=a4:=by
 rcases au with⟨cg,dv,dC⟩ | ⟨cg,dv,dC⟩ | ⟨cg,fI,dv,dC⟩ | ⟨cg,dv,dC,fI,iE,km,jE,lX⟩ <;>
  rcases HC with⟨b',ch,dS⟩ | ⟨b',ch,dS⟩ | ⟨b',e5,ch,dS⟩ | ⟨b',ch,dS,e5,h8,dA,u0,fc⟩
 all_goals first
  |exact⟨dv.trans ch.symm,dC.trans dS.symm⟩|(exfalso;omega)| skip
 obtain⟨n,aB⟩:=jE;obtain⟨fA,kr⟩:=u0;have aa:=aB.y9 kr;refine⟨?_,dC.trans dS.symm⟩;obtain⟨dJ,c9,dT⟩:=o;obtain⟨k9,hX,lL⟩:=o';simp only at fI iE e5 h8 aa;rw[fI,iE,e5,h8,aa]
def B9.eq{g:cE}{s:ByteArray}{x:bB}(h:B9 g s x av o e)(bh:B9 g s x av o' a4):o=o'/\e=a4:=by
 have Lj:∀ {p:Prop},fF x=true->fF x=false->p:=λU aa=>by rw[U]at aa;cases aa
 have ls:∀ {p:Prop},xU g x->(∃ n∈x.ns,n.k=3/\cy n.t g.ds 0<0)->p:=λU ⟨n,aa,ae,aR⟩=>by have:=U.find n aa ae;omega
 cases h with
 |arg U ar he=>
  cases bh with
  |arg hO kW r6=>exact⟨ar.trans kW.symm,he.trans r6.symm⟩| form hO=>exact absurd hO U| name hO=>exact absurd hO U| is a r ax has=>exact absurd ⟨by omega,by omega⟩ U
 |form U hm ar he=>
  cases bh with
  |arg hO=>exact absurd U hO| form hO jK kW r6=>exact⟨ar.trans kW.symm,he.trans r6.symm⟩| name hO jK=>exact Lj jK hm| is a r ax has jK=>exact Lj jK hm
 |name U hm an ar he=>
  cases bh with
  |arg hO=>exact absurd U hO| form hO jK=>exact Lj hm jK| name hO jK o3 kW r6=>exact⟨ar.trans kW.symm,he.trans r6.symm⟩| is a r ax has jK g1=>exact ls g1 an
 |is a r ax has hm ab ao au=>
  cases bh with
  |arg hO=>exact absurd ⟨by omega,by omega⟩ hO| form hO jK=>exact Lj hm jK| name hO jK o3=>exact ls ab o3
  |is bX r2 zs apa jK g1 gh HC=>
   obtain rfl:a=bX:=by omega
   obtain rfl:r=r2:=by omega
   exact au.oH HC
def Lk(g:cE)(s:ByteArray)(x:bB)(av:Int)(I:aH)(v:Value)(I':aH)(M':List aE):Prop:=
 (∀ b o,I b=some o->I' b=some o)/\∃ (gP:a') (o:rq) (e:Int),B9 g s x av o e/\v=.tuple #[u1 o gP.val,.int .i64 e]/\gP.ok 3 (o.caps.flatMap eD.cells)/\M'=gP.aQ 110
section
variable{I:aH}{g:cE}{s:ByteArray}{t:dt}{T:Nat->Nat->bW}{x:bB}
def ama(h:lj I g s t T)(gz:¬ (0<=av/\av<=(s.size:Int))):Spec Tryz.prog 15 [ptr t.bt,x.val,.int .i64 av] I [] (Lk g s x av I):=by
 have a5:=h.ok;have cO:=h.ts;refine bU [9] aT Tryz.func15 rfl rfl rfl ?_;intro B aq;refine cC.u2 aT rfl rfl ?_;refine aI.mk (λe=>by cases e) (λ_=>?_);by_cases U:av<0
 ·refine bP.mk (λe=>absurd U (ct e)) (λ_=>?_);exact⟨_,_,.refl,λ_ _ h=>h,jd,ll,1,.arg gz rfl rfl,rfl,ka 3,rfl⟩
 ·refine bP.mk (λ_=>?_) (λe=>absurd (cv (by simpa using e)) U);refine aD.mk _ (a5.dH (j:=0) (by decide)) ?_;have bk:decide (((t.s.size:Nat):Int)<av)=true:=gX (by rw[cO];omega);refine aI.mk (λ_=>?_) (λe=>absurd (bk.symm.trans e) (by simp));exact⟨_,_,.refl,λ_ _ h=>h,jd,ll,1,.arg gz rfl rfl,rfl,ka 3,rfl⟩
def amb(aN:nJ I)(h:lj I g s t T)(ab:x.ok I)(e8:fF x=false){av:Nat}(gz:av<=s.size):Spec Tryz.prog 15 [ptr t.bt,x.val,.int .i64 av] I [] (Lk g s x av I):=by have a5:=h.ok;have cO:=h.ts;refine bU [9] aT Tryz.func15 rfl rfl rfl ?_;intro B aq;refine cC.u2 aT rfl rfl ?_;refine aI.mk (λe=>by cases e) (λ_=>?_);refine bP.mk (λ_=>?_) (λe=>absurd (show decide (((av:Nat):Int)<0)=true from e) (by simp));refine aD.mk _ (a5.dH (j:=0) (by decide)) ?_;have bk:decide (((t.s.size:Nat):Int)<((av:Nat):Int))=false:=c0 (by rw[cO];omega);refine aI.mk (λe=>absurd (bk.symm.trans e) (by simp)) (λ_=>?_);refine aZ.mk [] [] _ (.refl _) (IA aN ab) ?_;rintro v I' M' -⟨rfl,rfl,rfl⟩;refine aI.mk (λ_=>?_) (λe=>absurd e (by simp[e8]));exact⟨_,_,.refl,λ_ _ h=>h,jd,ll,4,.form ⟨by omega,by omega⟩ e8 rfl rfl,rfl,ka 3,rfl⟩
def amc(aN:nJ I)(h:lj I g s t T)(hm:me g)(aB:g.ok I)(qG:s.size<=4096)(ab:x.ok I)(e8:fF x=true)(ik:CY x)(ea:∃ n∈x.ns,n.k=3/\cy n.t g.ds 0<0)(pL:bz g.ds+x.n<=4096){av:Nat}(gz:av<=s.size) :
  Spec Tryz.prog 15 [ptr t.bt,x.val,.int .i64 av] I [] (Lk g s x av I):=by
 refine H' [9] aT Tryz.func15 rfl rfl rfl ?_;intro B aq;have a5:=h.ok;have cO:=h.ts;have rH:=h.nn;have fU:=aB.n;obtain⟨c1,ez,oN,lB⟩:=h.rv;obtain⟨eZ,fV,Kz,jr⟩:=h.nv;have kP:0<t.nn:=by
  have U:0<g.ds.length:=by have:=hm.n;omega
  have aa:=U0 hm (rule:=0) U s 0;rw[show(rn g s 0).ns.length=bz g.ds from wv g.ds]at aa;omega
 obtain⟨sa,P9,bZ,bl⟩:=a5.ns.Ky kP;obtain⟨fG,tE,P',Ya⟩:=a5.rw.Ky kP;have k2:=a5.ns.cap;have Yb:=a5.rw.cap;refine cC.u2 aT rfl rfl ?_;refine aI.mk (λe=>by cases e) (λ_=>?_);refine bP.mk (λ_=>?_) (λe=>absurd (show decide (((av:Nat):Int)<0)=true from e) (by simp));refine aD.mk _ (a5.dH (j:=0) (by decide)) ?_;have bk:decide (((t.s.size:Nat):Int)<((av:Nat):Int))=false:=c0 (by rw[cO];omega);refine aI.mk (λe=>absurd (bk.symm.trans e) (by simp)) (λ_=>?_);refine aZ.mk [] [] _ (.refl _) (IA aN ab) ?_;rintro v I' M' -⟨rfl,rfl,rfl⟩;refine aI.mk (λe=>absurd e (by simp[e8])) (λ_=>?_);refine aD.mk _ (a5.dH (j:=3) (by decide)) ?_;have hh:t.cb=[.string t.s,.slice eZ g.n fV,.slice c1 g.n ez,.slice t.na t.nn t.nc,.slice t.fG t.nn t.ep]:=by unfold dt.cb;rw[Kz,oN]
 have eT:∀ M,bD I' M (⟨t.bt,0,none⟩:Addr) 5 [.string t.s,.slice eZ g.n fV,.slice c1 g.n ez,.slice t.na t.nn t.nc,.slice t.fG t.nn t.ep]:=λM=>by rw[<-hh];exact⟨rfl,_,_,_,.inl a5.aA,rfl,rfl⟩
 refine aD.mk _ (eT _) ?_;refine cw.mk λb9 fK hF=>?_;refine cV.mk [] _ _ _ rfl rfl (bN rfl) rfl ?_;refine aD.mk _ (a5.dH (j:=3) (by decide)) ?_;refine HS.mk t.nn t.nn rfl rfl (b1 _) k2.1 ?_;have BG:(if t.nn=0 then t.na else t.na.map (·.add (0*9)))=some (sa.add (0*9)):=by rw[cG (by omega),P9];rfl
 have AD:=a5.nn;have hb:=ab.n;have pj:Gi I' g.ds eZ c1 fV ez t.ic.length x:=by
  refine⟨by rw[fU];exact jr,by rw[fU];exact lB,λn an=>?_,λq az=>?_,by have:=hm.NL;omega,by omega⟩;·obtain⟨j,ak,wA⟩:=th an;have hM:=ik.aM j ak;have aF:=ik.fits j ak;rw[wA]at hM aF;have au:=Ol aF (ab.ns n an).k.1;have fz:n.aM.length<=j:=CZ j _ (ik.diff.sublist (C1 an)) hM;exact⟨λk af=>by have:=hM k af;omega,by omega,by omega⟩
  ·have:=y8 0 g.ds (λd ah=>(hm.r d ah).bJ) q az;have:=hm.AZ;omega
 have Qa:∀ M,bD I' M (sa.add (0*9)) (t.nn*9) (t.ic.flatMap a3.cells):=λM=>by
  have e:sa.add (0*9)=sa:=by obtain⟨Yc,off,eo⟩:=sa;simp only at bZ;subst bZ;rfl
  rw[e];exact bl M
 have G7:=Xj ab pj (os0:=.aj (sa.add (0*9)) t.nn) Qa AD.symm b9 t.s (.slice t.fG t.nn t.ep);rw[fU]at G7;refine cV.to [] _ _ _ rfl rfl rfl rfl [.string t.s,.slice eZ g.n fV,.slice c1 g.n ez,.slice (if t.nn=0 then t.na else t.na.map (·.add (0*9))) (t.nn-0) (t.nn-0),.slice t.fG t.nn t.ep] rfl ?_;rw[BG];refine aZ.whole _ G7 ?_;rintro v eU eJ -⟨rfl,i,E,kb,gk,rfl,ai⟩;have amd:v=.bool false:=by
  rcases ai with⟨rfl,rfl⟩ | ⟨rfl,-⟩;·exfalso;obtain⟨n,an,ae,BH⟩:=ea;have:=gk.find n (by rw[g4 (by omega)];exact an) ae;omega
  ·rfl
 subst amd;refine aI.mk (λ_=>?_) (λe=>by cases e);intro _;exact⟨_,_,.sub (eG _) .refl,λ_ _ h=>h,jd,ll,41,.name ⟨by omega,by omega⟩ e8 ea rfl rfl,rfl,ka 3,rfl⟩
def ame(aN:nJ I)(h:lj I g s t T)(hm:me g)(aB:g.ok I)(qG:s.size<=4096)(ab:x.ok I)(av:Int):Spec Tryz.prog 15 [ptr t.bt,x.val,.int .i64 av] I [] (Lk g s x av I):=by
 by_cases ax:0<=av/\av<=(s.size:Int)
 rotate_left
 ·exact ama h ax
 obtain⟨a,rfl⟩:=iN ax.1;have has:a<=s.size:=by omega
 cases e8:fF x with
 |false=>exact amb aN h ab e8 has
 |true=>
  have oV:=e8;unfold fF at oV;simp only[cA,e7]at oV;have ik:=NK.1 oV.2.1;have rp:=hm.AZ;have pL:bz g.ds+x.n<=4096:=by have:=oV.1;omega
  by_cases ea:∃ n∈x.ns,n.k=3/\cy n.t g.ds 0<0;·exact amc aN h hm aB qG ab e8 ik ea pL has
  ·have nt:xU g x:=⟨ik,λn an=>(ab.ns n an).k.1,λn an ae=>by
    by_cases aO:cy n.t g.ds 0<0;·exact absurd ⟨n,an,ae,aO⟩ ea
    ·omega⟩
   obtain⟨r,ao⟩:=iN ik.bJ.1;refine Spec.rN (aip aN h hm aB qG ab e8 nt pL has ao) ?_;rintro v J M⟨cm,os,o,e,au,rfl,cj,rfl⟩;exact⟨cm,os,o,e,.is a r rfl has e8 nt ao au,rfl,cj,rfl⟩
end
def aap(ds:List bm):∀ (b:Nat) (A B:List bB),qD ds b (A++B)=qD ds b A++qD ds (b+fH A A.length) B
 |b,[],B=>by simp[qD,fH]
 |b,t::A,B=>by rw[qa,qD,aap ds _ A B,qD,eL,dL,Xr,pR]
def amf(ds:List bm):fH (ds.map (·.t)) ds.length=bz ds:=by have:=Kg ds [] (i:=ds.length) (b1 _);rw[c8,If]at this;exact this
def eM.amg{g:cE}{s:ByteArray}{x:bB}(U:u.g=g)(aa:u.s=s)(ae:u.ts=g.ds.map (·.t)++[x]):u.P=lT g x s:=by subst U;subst aa;unfold eM.P lT kI;rw[ae,aap,PE,jt,dx,amf,dK];simp only[qD,c8];rfl
def eM.amh{g:cE}{x:bB}(fU:g.ds.length=g.n)(ae:u.ts=g.ds.map (·.t)++[x])(r:Nat):u.no g.n r=bz g.ds+r:=by unfold eM.no;rw[ae,Kg g.ds [x] (by omega),<-fU,If]
section
variable{I:aH}{t:eM}{C:Nat->Nat->dc}{Mr:List aE}
def ami(h:t.ok I){g:cE}{s:ByteArray}(hm:me g)(oR:t.g=g)(cf:t.s=s)(eu:gr t.P lu C){x:bB}(ab:x.ok I){W:Nat}(aF:Fit x W)(av:Int) :
  Spec Tryz.prog 28 [ptr t.bt,x.val,.int .i64 av] I (cF C t.w 0 t.bs++Mr) λv I' M'=>(∀ b o,I b=some o->I' b=some o)/\∃ (os:a') (o:rq) (e:Int),B9 g s x av o e/\v=.tuple #[u1 o os.val,.int .i64 e]/\os.ok 3 (o.caps.flatMap eD.cells)/\M'=cF C t.w 0 t.bs++(os.aQ 110++Mr):=by
 have cr:=h.sz;have aB:g.ok I:=by rw[<-oR];exact h.g
 have fU:=aB.n;have Rt:t.g.n=g.n:=by rw[oR]
 have aam:t.s.size=s.size:=by rw[cf]
 have jN:=hm.n;have Ec:=hm.NL;have rp:=hm.AZ;have pL:=ab.n;have wQ:Spec Tryz.prog 75 [x.val] I (cF C t.w 0 t.bs++Mr) (λv I' M'=>v=.bool (fF x)/\I'=I/\M'=cF C t.w 0 t.bs++Mr):=by refine Spec.rN (Spec.frame (P0 ab aF)) ?_;rintro v J M⟨M',rfl,-,-,rfl,rfl,rfl⟩;exact⟨rfl,rfl,rfl⟩
 refine bU [] aT Tryz.func28 rfl rfl rfl ?_;intro B aq;refine aZ.whole _ (Rq h 0 av) ?_;rintro v J N -⟨rfl,rfl,rfl⟩;by_cases gz:0<=av/\av<=(s.size:Int)
 rotate_left
 ·have xS:ij t.g.n t.s.size 0 av=false:=by
   unfold ij;rw[aam];by_cases U:0<=av
   ·rw[c0 (show ¬ av<=(s.size:Int)from λaa=>gz ⟨U,aa⟩)];simp
   ·rw[c0 U];simp
  refine aI.mk (λ_=>?_) (λe=>absurd e (by simp[xS]));exact⟨_,_,.refl,λ_ _ h=>h,jd,ll,1,.arg gz rfl rfl,rfl,ka 3,rfl⟩
 obtain⟨a,rfl⟩:=iN gz.1;have has:a<=s.size:=by omega
 have xS:ij t.g.n t.s.size 0 a=true:=by simp only[ij,cA,e7];omega
 refine aI.mk (λe=>absurd e (by simp[xS])) (λ_=>?_);refine aZ.whole _ wQ ?_;rintro v Er N -⟨rfl,rfl,rfl⟩;cases e8:fF x with
 |false=>refine aI.mk (λ_=>?_) (λe=>by cases e);exact⟨_,_,.refl,λ_ _ h=>h,jd,ll,4,.form gz e8 rfl rfl,rfl,ka 3,rfl⟩| true=>
 refine aI.mk (λe=>by cases e) (λ_=>?_);have oV:=e8;unfold fF at oV;simp only[cA,e7]at oV;have ik:=NK.1 oV.2.1;obtain⟨r,ao⟩:=iN ik.bJ.1;have hN:r<x.ns.length:=by have:=ik.bJ.2;omega
 refine cx.inv (ι:=Nat) (λi=>{ cc:=[(0,.val (ptr t.bt)),(2,.val (.int .i64 a)),(4,.ref 4 0),(6,.ref 6 0),(7,.val (.int .i64 0)),(8,.val (.int .i64 i))],cl:=[(4,x.cells),(6,[.bool false,.int .i64 0,.slice none 0 0])],ck:=Er,de:=cF C t.w 0 t.bs++Mr }) (λi=>i<=x.n/\∀ j (ak:j<x.ns.length),j<i->x.ns[j].k=3->0<=cy x.ns[j].t g.ds 0) (λi=>x.n-i) ?_ ?_
 ·exact⟨0,⟨bi _,λj ak h=>absurd h (BQ _)⟩,.refl,jo,.cons rfl (.cons rfl (.nil))⟩
 rintro i⟨hi,eT⟩;refine aI.mk (λe=>?_) (λe=>?_)
 ·have aO:i<x.n:=by have:(i:Int)<(x.n:Int):=cv e;omega
  have eP:i<x.ns.length:=by omega
  obtain⟨ad,bI,bl⟩:=ab.a2.row a3.da aO eP;have eC:=cZ eP;obtain⟨d,ah⟩:∃ d,x.ns[i]=d:=⟨_,rfl⟩;rw[ah]at bl eC;have next:(d.k=3->0<=cy d.t g.ds 0)->∀ j (ak:j<x.ns.length),j<i+1->x.ns[j].k=3->0<=cy x.ns[j].t g.ds 0:=λaz j ak apb=>by
   by_cases ay:j=i;·subst ay;rw[ah];exact az
   ·exact eT j ak (by omega)
  refine cU.draw aT rfl rfl rfl ?_;refine a7.mk ad i bI rfl aO ?_;refine aD.mk _ ((bl _).part (k:=0) (m:=1) (by decide)) ?_;refine bP.mk (λbf=>?_) (λbf=>?_)
  ·have qv:d.k=3:=cv bf;refine aD.mk _ (h.dH (j:=1) (by decide)) ?_;refine a7.mk ad i bI rfl aO ?_;refine aD.mk _ ((bl _).part (k:=5) (m:=1) (by decide)) ?_;obtain⟨z,a1⟩:∃ z,cy d.t g.ds 0=z:=⟨_,rfl⟩;have Es:Spec Tryz.prog 76 [t.g.val,.string d.t] Er (cF C t.w 0 t.bs++Mr) (λv I' M'=>v=.int .i64 z/\I'=Er/\M'=cF C t.w 0 t.bs++Mr):=by refine Spec.rN (Spec.frame (Eb h.g d.t)) ?_;rintro v J M⟨M',rfl,-,-,rfl,rfl,rfl⟩;exact⟨by rw[<-a1,oR],rfl,rfl⟩
   refine aZ.whole _ Es ?_;rintro v Rv N -⟨rfl,rfl,rfl⟩;refine aI.mk (λb3=>?_) (λb3=>?_)
   ·have BH:cy d.t g.ds 0<0:=by rw[a1];exact cv b3
    exact⟨_,_,.refl,λ_ _ h=>h,jd,ll,41,.name gz e8 ⟨d,eC,qv,BH⟩ rfl rfl,rfl,ka 3,rfl⟩
   ·have BH:¬ cy d.t g.ds 0<0:=by rw[a1];exact ct b3
    refine aW.mk _ (b0 (i:=i) (by omega)) ?_;exact⟨i+1,⟨⟨aO,next λ_=>by omega⟩,by omega⟩,.refl,jo,.cons rfl (.cons rfl (.nil))⟩
  ·have qv:d.k≠3:=ct bf;refine aW.mk _ (b0 (i:=i) (by omega)) ?_;exact⟨i+1,⟨⟨aO,next λh=>absurd h qv⟩,by omega⟩,.refl,jo,.cons rfl (.cons rfl (.nil))⟩
 have cI:i=x.n:=by have:¬ (i:Int)<(x.n:Int):=ct e;omega
 subst cI;have nt:xU g x:=⟨ik,λn an=>(ab.ns n an).k.1,λn an ae=>by
  obtain⟨j,ak,rfl⟩:=th an;exact eT j ak (by omega) ae⟩
 have Ek:∀ z∈t.g.ds.map (·.t)++[x],z.ns.length<=4096:=λz a1=>by
  rcases dW.1 a1 with a1 | a1;·rw[oR]at a1;obtain⟨d,ah,rfl⟩:=dp.1 a1;have wK:d.t.ns.length∈g.ds.map λd=>d.t.ns.length:=dp.2 ⟨d,ah,rfl⟩;have:=PF wK;unfold bz at rp;omega
  ·rw[iu.1 a1];omega
 refine cU.draw aT rfl rfl rfl ?_;refine aD.mk _ (h.dH (j:=1) (by decide)) ?_;refine aD.mk _ (h.dH (j:=0) (by decide)) ?_;refine cw.mk λb ag r8=>?_;have og:b ∉ (List.map (λz:aE=>z.num) (cF C t.w 0 t.bs++Mr)):=λbC=>by obtain⟨z,a1,e⟩:=dp.1 bC;exact r8 z a1 e
 have bk:=ph (I:=Er) (o:=.cells x.cells.toArray 28 (0,0)) ag;have amj:=Z2 (I:=ins Er b (.cells x.cells.toArray 28 (0,0))) (h.g.mono bk) (by omega) t.s cr (more:=[x]) (ma:=some ⟨b,0,none⟩) (mn:=1) (mc:=1) ⟨rfl,⟨b1 _,by decide⟩,.inr ⟨_,rfl,rfl,_,_,_,sf ..,rfl⟩⟩ (λz a1=>by rw[iu.1 a1];exact ab.mono bk) (by omega) Ek;refine aZ.zW (ins Er b (.cells x.cells.toArray 28 (0,0))) [] (cF C t.w 0 t.bs++Mr) _ (.oT rfl og .refl) amj ?_;rintro v K M apc -⟨fl,u,rfl,rfl,fu,amk,aml,gU⟩;have Rw:u.g=g:=amk.trans oR;have aaq:u.s=s:=fu.trans cf;have B':u.ts=g.ds.map (·.t)++[x]:=by rw[aml,oR]
 have ML:u.ts.length=g.n+1:=by rw[B',b5,dx,fU];rfl
 have amm:∀ (q:g.n<u.ts.length),u.ts[g.n]=x:=λq=>by
  have U:(g.ds.map (·.t)++[x])[g.n]?=some x:=by rw[pd (by rw[dx];omega),dx,fU,wb];rfl
  rw[<-B',fJ q]at U;exact qi U
 have hu:u.ok K:=gU.ok (λz a1=>by
   rw[B']at a1;rcases dW.1 a1 with a1 | a1;·obtain⟨d,ah,rfl⟩:=dp.1 a1;exact hm.r d ah
   ·rw[iu.1 a1];exact ik) (λz a1 n an af=>by
   rw[Rw];rw[B']at a1;rcases dW.1 a1 with a1 | a1;·obtain⟨d,ah,rfl⟩:=dp.1 a1;exact hm.find d ah n an af
   ·rw[iu.1 a1]at an;exact nt.find n an af) ⟨[x],by rw[B',Rw]⟩ (by rw[fu];exact cr)
 have dY:∀ d∈g.ds,∀ n∈d.t.ns,0<=n.k:=λd ah n an=>((aB.ds d ah).t.ns n an).k.1;have aar:=eM.amg Rw aaq B';have la:∀ k,pA u.P k:=λk=>by rw[aar];exact(P5 hm dY (by omega) nt).1 k
 have ie:=aak (Mr:=cF C t.w 0 t.bs++Mr) hu la (Z4 (P:=u.P) (A:=lu)) (i:=g.n) (j:=r) (a:=a) ⟨by omega,by rw[amm];exact hN⟩ (by rw[aaq];exact has);refine cU.draw aT rfl rfl rfl ?_;refine aD.mk _ ((h.mono λb o ag=>fl _ _ (bk _ _ ag)).dH (j:=1) (by decide)) ?_;rw[<-Rt,<-ao]at ie;refine aZ.mk (cF jC u.w 0 u.bs++(cF C t.w 0 t.bs++Mr)) [] _ (by rw[c8,c8]) ie ?_;rintro v aas eJ -⟨rfl,os,o,e,er,xV,rfl,cj,rfl,fe⟩;rw[aar,Rt,eM.amh fU B']at xV;exact⟨_,_,.perm (M1:=cF er u.w 0 u.bs++(os.aQ 110++(cF C t.w 0 t.bs++Mr))) (by rw[c8]) (.sub (lC _ _) (.perm (vU _ _ _) .refl)),λb o ag=>fl _ _ (bk _ _ ag),os,o,e,.is a r rfl has e8 nt ao xV,rfl,cj,rfl⟩
end
def aat(ds:List bm):bz (ds.map bm.cz)=bz ds:=by unfold bz;rw[jt];congr 1;refine yJ λd _=>?_;show(d.t.ns.map a3.cz).length=_;rw[dx]
def Ll:∀ (b:Nat) (ds:List bm),ff b (ds.map bm.cz)=ff b ds
 |b,[]=>rfl
 |b,d::ds=>by
  rw[ek,ff,ff];have e:d.cz.t.ns.length=d.t.ns.length:=by show(d.t.ns.map a3.cz).length=_;rw[dx]
  rw[e,Ll _ ds];rfl
def aau(di:ByteArray):∀ (ds:List bm) (i:Nat),cy di (ds.map bm.cz) i=cy di ds i
 |[],i=>rfl| d::ds,i=>by rw[ek,cy,cy,aau di ds];rfl
def amn(ds:List bm)(b:Nat)(n:a3):eR (ds.map bm.cz) b n.cz=eR ds b n:=by unfold eR;rw[Ll,aau];rfl
def aav(xP:List bm):∀ (b:Nat) (ds:List bm),((ng b (ds.map bm.cz)).map λp=>nr ⟨p.2,eR (xP.map bm.cz) p.1 p.2⟩)=(ng b ds).map λp=>nr ⟨p.2,eR xP p.1 p.2⟩
 |b,[]=>rfl| b,d::ds=>by have e:d.cz.t.ns=d.t.ns.map a3.cz:=rfl;rw[ek,ng,ng,fC,fC,e,dx,aav xP _ ds,jt,jt,jt];congr 1;refine yJ λn _=>?_;show nr ⟨n.cz,eR (xP.map bm.cz) b n.cz⟩=nr ⟨n,eR xP b n⟩;rw[amn];rfl
def aaw(g:cE)(s:ByteArray):gZ g.cz s=gZ g s:=by unfold gZ kI;rw[jt,jt];have:=aav g.ds 0 g.ds;exact congrArg (λl=>(⟨l,s,0⟩:cu)) this
def lj.cz{I:aH}{g h:cE}{s:ByteArray}{t:dt}{T:Nat->Nat->bW}(au:lj I h s t T)(e:h.cz=g.cz):lj I g s t T:=by
 have hW:h.ds.map bm.cz=g.ds.map bm.cz:=congrArg cE.ds e;have an:h.cz.n=g.cz.n:=congrArg cE.n e;have an:h.n=g.n:=an;have aK:gZ h s=gZ g s:=by rw[<-aaw h,e,aaw]
 have amo:bz h.ds=bz g.ds:=by rw[<-aat h.ds,hW,aat]
 have kR:ff 0 h.ds=ff 0 g.ds:=by rw[<-Ll 0 h.ds,hW,Ll]
 have vn:h.ds.map sy=g.ds.map sy:=by
  have U:∀ ds:List bm,ds.map sy=(ds.map bm.cz).map sy:=λds=>by rw[jt];rfl
  rw[U h.ds,hW,<-U]
 obtain⟨c1,ez,dJ,c9⟩:=au.rv;obtain⟨eZ,fV,dT,fL⟩:=au.nv;rw[an]at dJ c9 dT fL;rw[kR]at c9;rw[vn]at fL;exact⟨au.ok,au.inv,au.P.trans aK,au.ts,λk b=>by rw[<-aK];exact au.all k b,au.n0,au.nn.trans amo,⟨c1,ez,dJ,c9⟩,⟨eZ,fV,dT,fL⟩⟩
def BA.oH{g:cE}{s:ByteArray}{rule a:Int}(h:BA g s rule a o e)(bh:BA g s rule a o' a4):o=o'/\e=a4:=by
 have no:∀ {i j:Nat} {p:Prop},rule=i->a=j->i<g.n->j<=s.size->ij g.n s.size rule a=false->p:=fun {i j p} U aa ae aR bn=>by
  subst U;subst aa;have:ij g.n s.size (i:Nat) (j:Nat)=true:=by simp only[ij,cA,e7];exact⟨Db _,Int.ofNat_lt.2 ae,Db _,Int.ofNat_le.2 aR⟩
  rw[this]at bn;cases bn
 cases h with
 |no U ar he=>
  cases bh with
  |no hO kW r6=>exact⟨ar.trans kW.symm,he.trans r6.symm⟩| is i j hi ak eW ju au=>exact no hi ak eW ju U
 |is i j hi ak eW ju au=>
  cases bh with
  |no hO kW r6=>exact no hi ak eW ju hO
  |is fX HA dw gx apd ape HC=>
   obtain rfl:i=fX:=by omega
   obtain rfl:j=HA:=by omega
   exact au.oH HC
def BA.Lm{g:cE}{s:ByteArray}{rule a:Int}(h:BA g s rule a o e):o.caps.length<=65536:=by
 cases h with
 |no U ar he=>rw[ar];exact bi _| is i j hi ak eW ju au=>exact au.caps
def B9.Lm{g:cE}{s:ByteArray}{x:bB}(h:B9 g s x av o e):o.caps.length<=65536:=by
 cases h with
 |arg U ar he=>rw[ar];exact bi _| form U hm ar he=>rw[ar];exact bi _| name U hm an ar he=>rw[ar];exact bi _| is a r ax has hm ab ao au=>exact au.caps
def kN(I K:aH):aH:=λb=>match I b with
 |none=>K b| some _=>none
def Ln{I K:aH}:∀ b o,kN I K b=some o->K b=some o:=λb o h=>by
 unfold kN at h;split at h
 ·exact h
 ·cases h
def HD{I K:aH}{o:Obj}(h:I b=none)(fl:K b=some o):kN I K b=some o:=by unfold kN;rw[h];exact fl
def x7{I K tY:aH}(h:∀ b o,K b=some o->tY b=some o):∀ b o,kN I K b=some o->kN I tY b=some o:=λb o ag=>by
 unfold kN at ag |-;split at ag
 ·exact h b o ag
 ·cases ag
def dX.kN{I K:aH}{a:Option Addr}(h:dX K a n c size b vs)(ax:∀ ad,a=some ad->I ad.block=none):dX (kN I K) a n c size b vs:=by
 refine⟨h.len,h.cap,?_⟩;rcases h.rd with U | ⟨ad,U,aa,cs,T,aj,ae,aR⟩
 ·exact .inl U
 ·exact .inr ⟨ad,U,aa,cs,T,aj,HD (ax ad U) ae,aR⟩
def a'.fresh{I J:aH}{e:Nat}(cm:∀ x∈os.aQ e,J x.num=none)(bx:∀ b o,I b=some o->J b=some o):∀ ad,(os.a.map λg=>(⟨g,0,none⟩:Addr))=some ad->I ad.block=none:=λad h=>by
 obtain⟨a,n,c,aS⟩:=os;cases a with
 |none=>cases h
 |some g=>
  cases h;have:=cm ⟨g,_⟩ (.head _);cases hi:I g with
  |none=>rfl| some o=>have aa:=bx g o hi;have this:J g=none:=this;rw[this]at aa;cases aa
def Lo{I J:aH}(cm:J b=none)(bx:∀ b o,I b=some o->J b=some o):I b=none:=by
 cases hi:I b with
 |none=>rfl| some o=>have aa:=bx b o hi;rw[cm]at aa;cases aa
def amp{I dN:aH}{T:Nat}{n:a3}(h:n.ok dN)(bx:I b=some (.cells (L.map bE).toArray T (0,0)))(aw:L.length<=1048576)(bQ:∀ x∈L,x<=1048576):(oF b L n).ok I:=by
 refine { h with a2:=?_,aM:=λx ab=>?_ }
 ·show dX I (some ⟨b,0,none⟩) L.length L.length 1 8 ((L.map λ(k:Nat)=>(k:Int)).map (.int .i64 ·));rw[jt];exact VV (T:=T) bx aw rfl
 ·obtain⟨y,aG,rfl⟩:=dp.1 ab;have:=bQ y aG;exact⟨by omega,by omega⟩
def aax{J dN:aH}:∀ {kb:List (Nat×List Nat)} {ns:List a3},(∀ p∈kb,J p.1=some (.cells (p.2.map bE).toArray 3 (0,0))/\p.2.length<=1048576/\∀ x∈p.2,x<=1048576)->(∀ n∈ns,n.ok dN)->∀ y∈iB kb ns,y.ok J/\(∃ p∈kb,y.aM=p.2.map λ(k:Nat)=>(k:Int))/\∃ n∈ns,y.t=n.t
 |[],ns,_,_,y,aG=>by simp[iB]at aG
 |p::kb,[],_,_,y,aG=>by simp[iB]at aG
 |p::kb,n::ns,h,an,y,aG=>by
  have e:iB (p::kb) (n::ns)=oF p.1 p.2 n::iB kb ns:=rfl;rw[e]at aG;rcases et.1 aG with rfl | aG;·obtain⟨U,aa,ae⟩:=h p (.head _);exact⟨amp (an n (.head _)) U aa ae,⟨p,.head _,rfl⟩,n,.head _,rfl⟩
  ·obtain⟨i1,⟨q,i2,i3⟩,m,i4,i5⟩:=aax (λq az=>h q (.tail _ az)) (λm hm=>an m (.tail _ hm)) y aG;exact⟨i1,⟨q,.tail _ i2,i3⟩,m,.tail _ i4,i5⟩
def aay(I:aH)(aL:List Int)(g:cE)(s:ByteArray)(v:Value)(I':aH)(M':List aE):Prop:=
 (∀ b o,I b=some o->I' b=some o)/\M'=[]/\((jc aL g≠0/\v=.tuple #[.pointer none,.int .i64 (jc aL g)])\/(jc aL g=0/\4096<s.size/\v=.tuple #[.pointer none,.int .i64 40]) \/ (jc aL g=0/\s.size<=4096/\∃ (t:dt) (T:Nat->Nat->bW),v=.tuple #[ptr t.bt,.int .i64 0]/\lj (kN I I') g s t T))
structure amq(I:aH)(g:cE)(hZ osr:a')(i:Nat)(gu:a')(xs:List a3)(J:aH):Prop where
 ii:i<=g.n
 le:∀ b o,I b=some o->J b=some o
 di:dX (kN I J) (hZ.a.map λg=>⟨g,0,none⟩) hZ.n hZ.c 1 16 (g.ds.map sy)
 rt:dX (kN I J) (osr.a.map λg=>⟨g,0,none⟩) osr.n osr.c 1 8 ((ff 0 g.ds).map bE)
 ok:gu.ok 9 (xs.flatMap a3.cells)
 pn:xs.map a3.pn=wx g.ds i
 xs:∀ y∈xs,y.ok (kN I J)/\y.t.size<=4096/\∀ x∈y.aM,0<=x
def amr{I:aH}(bS:kC I aL){g:cE}(aB:g.ok I)(an:g.n<=4096)(s:ByteArray):Spec Tryz.prog 11 [g.val,.string s] I [] (aay I aL g s):=by
 refine H' [25] aT Tryz.func11 rfl rfl rfl ?_;intro B aq;have fU:=aB.n;refine aZ.whole _ (ado bS aB) ?_;rintro v dN M' -⟨rfl,qd,rfl⟩;have NY:=aB.mono qd;refine aI.mk (λe=>?_) (λe=>?_)
 ·have a4:jc aL g≠0:=by simpa using e
  intro _;exact⟨_,_,.refl,qd,rfl,.inl ⟨a4,rfl⟩⟩
 have wQ:jc aL g=0:=by simpa using e
 refine aI.mk (λay=>?_) (λay=>?_)
 ·have eF:4096<s.size:=by have:=cv ay;omega
  intro _;exact⟨_,_,.refl,qd,rfl,.inr (.inl ⟨wQ,eF,rfl⟩)⟩
 have ap:s.size<=4096:=by have:=ct ay;omega
 have hm:me g:=NM wQ λd ah=>(aB.ds d ah).t.n;have rp:=hm.AZ;have sw:=v3 0 g.ds;have dY:∀ d∈g.ds,∀ n∈d.t.ns,0<=n.k:=λd ah n an=>((aB.ds d ah).t.ns n an).k.1;obtain⟨la,cq⟩:=DM hm dY ap;refine aZ.whole _ (afP (M0:=[]) NY an) ?_;rintro v dm M1 -⟨rfl,hZ,rfl,B6,ams,rfl⟩;refine cw.mk λbt qE alL=>?_;have apf:jd.aQ 3=[]:=rfl;refine cx.Ac (ι:=Nat×a'×aH) (λx=>{ cc:=[(1,.val (.string s)),(2,.ref 2 0),(7,.val (ptr bt)),(8,.val (.int .i64 (bz (g.ds.take x.1):Nat))),(27,.val (.slice g.a g.n g.c)),(28,.val (.int .i64 g.n)),(29,.val (.int .i64 x.1))],cl:=[(2,[.slice g.a g.n g.c])],ck:=x.2.2,de:=jj bt s hZ.val x.2.1.val (.slice none 0 0) (.slice none 0 0)::(x.2.1.aQ 3++[]) }) (λx=>x.1<=g.n/\(∀ b o,I b=some o->x.2.2 b=some o)/\dX (kN I x.2.2) (hZ.a.map λg=>⟨g,0,none⟩) hZ.n hZ.c 1 16 (g.ds.map sy)/\x.2.1.n=x.1/\x.2.1.ok 1 (((ff 0 g.ds).take x.1).map bE)) (λx=>g.n-x.1) ?_ ?_
 ·intro gv;have amt:=DJ (J:=dm) (os:=hZ) (e:=9) (M:=[]) λx ab=>gv.d x (.tail _ ab);exact⟨(0,jd,qC dm hZ 9),⟨bi _,λb o h=>amt _ _ (qd _ _ h),(DK ams (by omega)).kN (a'.fresh (e:=9) (λx ab=>gv.d x (.tail _ (n9 _ ab))) qd),rfl,ka 1⟩,.perm (M1:=hZ.aQ 9++[jj bt s hZ.val (.slice none 0 0) (.slice none 0 0) (.slice none 0 0)]) (by rw[c8];exact(fR (l₁:=[_]))) (GS λg _=>by simp),nz,.cons rfl (.nil)⟩
 rintro⟨i,osr,J⟩⟨hi,vh,HE,jJ,Lp⟩;simp only at hi vh HE jJ Lp;have HF:=aB.mono vh;refine aI.mk (λbf=>?_) (λbf=>?_)
 ·have aO:i<g.n:=by simpa using bf
  have bG:i<g.ds.length:=by omega
  obtain⟨ad,bI,bl⟩:=HF.a2.row bm.da aO bG;have eC:g.ds[i]∈g.ds:=cZ bG;have kE:=(aB.ds _ eC).t.n;have yK:=(hm.r _ eC).bJ;have mE:=Og bG;have bk:=Oh g.ds (i+1);have zL:=JG 0 g.ds i bG (by omega);refine a7.mk ad i bI rfl aO ?_;refine aD.mk _ (bl _) ?_;refine cU.draw aT rfl rfl rfl ?_;refine aD.mk _ (tx (j:=2) (.head _) (by decide)) ?_;refine aW.mk (((ff 0 g.ds)[i]:Nat):Int) (e0 (show((bz (g.ds.take i):Nat):Int)+(g.ds[i]).t.bJ=_ by omega) (by omega)) ?_;refine cw.mk λb9 fK hF=>?_;intro G hy;refine n'.tr aT rfl (e:=3) rfl rfl rfl osr Lp (rB (hy _ (by simp[Op.operands,Call.operands])) rfl) (rB (hy _ (by simp[Op.operands,Call.operands])) rfl) (cs:=[bE (ff 0 g.ds)[i]]) rfl rfl [jj bt s hZ.val osr.val (.slice none 0 0) (.slice none 0 0)] [] rfl (by omega) (by show(osr.n+1)*8<=_;omega) ?_;intro bA U aa aR;refine cV.mk [⟨b9,_⟩] (bA.aQ 3++[]) _ _ rfl rfl (bN rfl) rfl ?_;refine aW.mk ((bz (g.ds.take (i+1)):Nat):Int) (e0 (show((bz (g.ds.take i):Nat):Int)+((g.ds[i]).t.n:Int)=_ by omega) (by omega)) ?_;refine aW.mk _ (b0 (i:=i) (by omega)) ?_;intro _;refine⟨(i+1,bA,J),⟨⟨by omega,vh,HE,by simp only;omega,?_⟩,by simp only;omega⟩,.sub (.cons _ (.refl _)) .refl,nz,.cons rfl (.nil)⟩;simp only;rw[hR (by omega),fC];exact aR
 have cI:g.n<=i:=by simpa using bf
 obtain rfl:i=g.n:=by omega
 rw[g4 (by omega)]at Lp;refine cx.Ac (ι:=Nat×a'×List a3×aH) (λx=>{ cc:=[(1,.val (.string s)),(2,.ref 2 0),(7,.val (ptr bt)),(55,.val (.slice g.a g.n g.c)),(56,.val (.int .i64 g.n)),(57,.val (.int .i64 x.1))],cl:=[(2,[.slice g.a g.n g.c])],ck:=x.2.2.2,de:=jj bt s hZ.val osr.val x.2.1.val (.slice none 0 0)::(x.2.1.aQ 59++[]) }) (λx=>amq I g hZ osr x.1 x.2.1 x.2.2.1 x.2.2.2) (λx=>g.n-x.1) ?_ ?_
 ·intro gv;have El:=DJ (J:=J) (os:=osr) (e:=3) (M:=[]) λx ab=>gv.d x (.tail _ ab);exact⟨(0,jd,[],qC J osr 3),⟨bi _,λb o h=>El _ _ (vh _ _ h),HE.mono (x7 El),(DK Lp (by omega)).kN (a'.fresh (e:=3) (λx ab=>gv.d x (.tail _ (n9 _ ab))) vh),ka 9,rfl,λy aG=>(by cases aG)⟩,.perm (M1:=osr.aQ 3++[jj bt s hZ.val osr.val (.slice none 0 0) (.slice none 0 0)]) (by rw[c8];exact(fR (l₁:=[_]))) (GS λg _=>by simp),jo,.cons rfl (.nil)⟩
 rintro⟨i,gu,xs,K⟩fB;have hi:=fB.ii;have pP:=fB.le;simp only at hi pP;have Lq:=aB.mono pP;have hb:xs.length=bz (g.ds.take i):=by have:=congrArg List.length fB.pn;rw[ahj,dx]at this;exact this
 have Bz:gu.n=xs.length:=by have U:gu.ok 9 (xs.flatMap a3.cells):=fB.ok;have:=U.len;rw[g3 _ 9 a3.da]at this;omega
 have vR:hZ.n=g.ds.length:=by omega
 have pC:osr.n=g.ds.length:=by omega
 refine aI.mk (λb3=>?_) (λb3=>?_)
 ·have aO:i<g.n:=by simpa using b3
  have bG:i<g.ds.length:=by omega
  obtain⟨ad,bI,bl⟩:=Lq.a2.row bm.da aO bG;have eC:g.ds[i]∈g.ds:=cZ bG;have js:=(Lq.ds _ eC).t;have kE:=js.n;have ik:=hm.r _ eC;have mE:=Og bG;have bk:=Oh g.ds (i+1);have amu:=ahh bG;have P4:=hm.find _ eC;generalize g.ds[i]=d at *;have pj:Gi K g.ds (hZ.a.map λg=>⟨g,0,none⟩) (osr.a.map λg=>⟨g,0,none⟩) hZ.c osr.c xs.length d.t:=by
   refine⟨by rw[<-vR];exact fB.di.mono Ln,by rw[<-pC];exact fB.rt.mono Ln,λn an=>?_,λx ab=>?_,by omega,by omega⟩;·obtain⟨j,ak,wA⟩:=th an;have hM:=ik.aM j ak;have aF:=ik.fits j ak;rw[wA]at hM aF;have au:=Ol aF (js.ns n an).k.1;have fz:n.aM.length<=j:=CZ j _ (ik.diff.sublist (C1 an)) hM;exact⟨λk af=>by have:=hM k af;omega,by omega,by omega⟩
   ·have:=y8 0 g.ds (λd ah=>(hm.r d ah).bJ) x ab;omega
  have bZ:=afT js pj fB.ok bt s (.slice none 0 0);rw[<-vR]at bZ;have eY:Value.slice (osr.a.map λg=>⟨g,0,none⟩) hZ.n osr.c=osr.val:=by unfold a'.val;rw[pC,vR]
  rw[eY]at bZ;refine a7.mk ad i bI rfl aO ?_;refine aD.mk _ (bl _) ?_;refine aZ.whole _ bZ ?_;rintro v I' M' -⟨rfl,j,bA,kb,gk,rfl,ai⟩;rcases ai with⟨rfl,rfl⟩ | ⟨rfl,n,an,Qb,BH⟩
  rotate_left
  ·exact absurd (P4 n an Qb) (by omega)
  refine aI.mk (λe=>by cases e) (λ_=>?_);refine aW.mk _ (b0 (i:=i) (by omega)) ?_;intro gv;have DR:(jj bt s hZ.val osr.val bA.val (.slice none 0 0)::(bA.aQ 59++kb.map fb)).Perm (kb.map fb++(jj bt s hZ.val osr.val bA.val (.slice none 0 0)::(bA.aQ 59++[]))):=by rw[c8,<-qa];exact fR
  have A':=gk.len kE;obtain⟨pV,zL⟩:=Xn (I:=I') kb (λp aK=>gv.d (fb p) (.tail _ (r3 _ (dp.2 ⟨p,aK,rfl⟩)))) (by
   have U:=gv.cn;have aa:((kb.map fb).map (·.num)).Sublist ((jj bt s hZ.val osr.val bA.val (.slice none 0 0)::(bA.aQ 59++kb.map fb)).map (·.num)):=((lC _ _).cons _).map _;have ae:=U.sublist aa;rw[jt]at ae;exact ae)
  have aaz:∀ p∈kb,p.2.length<=4096/\∀ x∈p.2,x<=4096:=λp aK=>by
   have U:p.2∈kb.map (·.2):=dp.2 ⟨p,aK,rfl⟩;rw[gk.kb]at U;obtain⟨n,an,e⟩:=dp.1 U;have o3:=ID an;obtain⟨dJ,c9,dT⟩:=pj.ns n o3;rw[<-e,eR];cases decide (n.k=3)with
   |true=>
    rw[bg];refine⟨by show 1<=4096;omega,λx ab=>?_⟩;rw[iu.1 ab,dI];cases az:(ff 0 g.ds)[(cy n.t g.ds 0).toNat]? with
    |none=>exact bi _| some z=>exact pj.afS z (Ag az)
   |false=>rw[bd];refine⟨by rw[dx];omega,λx ab=>?_⟩;obtain⟨k,af,rfl⟩:=dp.1 ab;obtain⟨j,ak,wA⟩:=th o3;have hM:=ik.aM j ak;rw[wA]at hM;have:=hM k af;omega
  have tH:=aax (J:=kN I (DL I' kb)) (kb:=kb) (ns:=d.t.ns.take d.t.n) (λp aK=>⟨HD (Lo (gv.d (fb p) (.tail _ (r3 _ (dp.2 ⟨p,aK,rfl⟩)))) pP) (zL p aK),by have:=(aaz p aK).1;omega,λx ab=>by have:=(aaz p aK).2 x ab;omega⟩) (λn an=>js.ns n (ID an));refine⟨(i+1,bA,xs++iB kb (d.t.ns.take d.t.n),DL I' kb),⟨⟨aO,λb o h=>pV _ _ (pP _ _ h),fB.di.mono (x7 pV),fB.rt.mono (x7 pV),gk.ok,?_,λy aG=>?_⟩,by simp only;omega⟩,.perm DR (Xm kb λp _=>by simp),jo,.cons rfl (.nil)⟩;·simp only;have amv:xs.map a3.pn=wx g.ds i:=fB.pn;have vP:d.t.ns.take d.t.n=d.t.ns:=g4 (by omega);rw[fC,PB A',PC gk.kb,amu,amv,hb,vP]
  ·rcases dW.1 aG with aG | aG
   ·obtain⟨tC,sE,DV⟩:=fB.xs y aG;exact⟨tC.mono (x7 pV),sE,DV⟩
   ·obtain⟨tC,⟨p,sE,DV⟩,n,Li,P2⟩:=tH y aG;refine⟨tC,by rw[P2];exact(pj.ns n (ID Li)).2.2,λx ab=>?_⟩;rw[DV]at ab;obtain⟨q,_,rfl⟩:=dp.1 ab;omega
 have Nc:g.n<=i:=by simpa using b3
 obtain rfl:i=g.n:=by omega
 have apg:xs.length=bz g.ds:=by rw[hb,g4 (by omega)]
 have aaA:xs.map a3.pn=(kI g.ds).map nr:=by have U:xs.map a3.pn=wx g.ds g.n:=fB.pn;rw[U,<-fU,ahi]
 have rH:gu.n=bz g.ds:=by omega
 have kP:0<bz g.ds:=by
  obtain⟨d,ah⟩:=List.exists_mem_of_length_pos (show 0<g.ds.length by have:=hm.n;omega);have ao:=(hm.r d ah).bJ;have U:d.t.ns.length<=bz g.ds:=by unfold bz;exact PF (dp.2 ⟨d,ah,rfl⟩)
  omega
 have amw:gu.ok 9 (xs.flatMap a3.cells):=fB.ok;have HE:dX (kN I K) (hZ.a.map λg=>⟨g,0,none⟩) hZ.n hZ.c 1 16 (g.ds.map sy):=fB.di;have amx:dX (kN I K) (osr.a.map λg=>⟨g,0,none⟩) osr.n osr.c 1 8 ((ff 0 g.ds).map bE):=fB.rt;have pI:∀ y∈xs,y.ok (kN I K)/\y.t.size<=4096/\∀ x∈y.aM,0<=x:=fB.xs;clear fB;refine aD.mk _ (tx (j:=3) (.head _) (by decide)) ?_;refine aW.mk ((s.size+1:Nat):Int) (e0 (by simp) (by omega)) ?_;refine aZ.whole _ (VT gu.n (s.size+1) (by omega) (by omega) (by omega)) ?_;rintro v I' M' -⟨rfl,ig,ba,rfl,rfl⟩;refine cV.mk [_,_] (gu.aQ 59++[]) _ _ rfl rfl (bN rfl) rfl ?_;refine .zX λgv=>?_;have Es:=gv.d;have Oj:I' ig=none:=Es _ (.head _);have VU:I' ba=none:=Es _ (.tail _ (.head _));have aaB:I' bt=none:=Es _ (.tail _ (.tail _ (.head _)));have pF:∀ x∈gu.aQ 59++([]:List aE),I' x.num=none:=λx ab=>Es x (.tail _ (.tail _ (.tail _ ab)));have Et:(ig::ba::bt::(gu.aQ 59++([]:List aE)).map (λx:aE=>x.num)).Nodup:=gv.cn;obtain⟨gm,Et⟩:=mo.1 Et;obtain⟨g6,Et⟩:=mo.1 Et;obtain⟨tl,Et⟩:=mo.1 Et;obtain⟨wU,Rx⟩:∃ wU:Obj,wU=.cells ([.string s,hZ.val,osr.val,gu.val,.slice (some ⟨ig,0,none⟩) gu.n gu.n]:List Value).toArray 98 (0,0):=⟨_,rfl⟩;obtain⟨sL,aaC⟩:∃ sL:Obj,sL=.cells (tw ba (s.size+1) gu.n).toArray 104 (0,0):=⟨_,rfl⟩;have amy:∀ b o,I' b=some o->ins I' ig sL b=some o:=ph Oj;have mD:ins I' ig sL bt=none:=by unfold ins;rw[gS λe=>gm (by rw[<-e];exact .tail _ (.head _))];exact aaB
 have aaD:∀ b o,ins I' ig sL b=some o->ins (ins I' ig sL) bt wU b=some o:=ph mD;have Ry:=DJ (J:=ins (ins I' ig sL) bt wU) (os:=gu) (e:=59) (M:=[]) λx ab=>by have vI:x.num∈(gu.aQ 59++([]:List aE)).map (λx:aE=>x.num):=dp.2 ⟨x,ab,rfl⟩;unfold ins;rw[gS λe=>tl (by rw[<-e];exact vI),gS λe=>gm (by rw[<-e];exact .tail _ (.tail _ vI))];exact pF x ab
 have bk:∀ b o,I' b=some o->qC (ins (ins I' ig sL) bt wU) gu 59 b=some o:=λb o h=>Ry _ _ (aaD _ _ (amy _ _ h));have cf:qC (ins (ins I' ig sL) bt wU) gu 59 bt=some wU:=Ry _ _ (sf ..);have amz:qC (ins (ins I' ig sL) bt wU) gu 59 ig=some sL:=Ry _ _ (aaD _ _ (sf ..));have amA:=DK (J:=ins (ins I' ig sL) bt wU) (e:=59) (b:=96) amw (by omega);have wc:=ahc (Lq.mono bk) (bt:=bt) (s:=s) (nv:=hZ.val) (rv:=osr.val) (rwv:=.slice (some ⟨ig,0,none⟩) gu.n gu.n) (na:=gu.a.map λg=>⟨g,0,none⟩) (nn:=gu.n) (nc:=gu.c) (by rw[cf,Rx];rfl) rH (by omega);refine aZ.zW (qC (ins (ins I' ig sL) bt wU) gu 59) [] [⟨ba,.cells ((List.replicate (gu.n*(s.size+1)) g8).flatMap bW.cells).toArray 106 (0,0)⟩] _ ?_ wc ?_
 ·subst aaC;subst Rx;refine .oT rfl (by simp) (.perm (.swap _ _ _) (.oT rfl (by simp) (.perm (M1:=gu.aQ 59++[⟨ba,.cells ((List.replicate (gu.n*(s.size+1)) g8).flatMap bW.cells).toArray 106 (0,0)⟩]) ?_ (GS λg _=>by simp))));rw[c8];exact fR (l₁:=[_])
 rintro v g2 kY jR -⟨-,gN,L,cN,rfl,k9,hX,lL,rk,tj,rfl⟩;have Hj:∀ b o,I' b=some o->g2 b=some o:=λb o h=>jR _ _ (bk _ _ h);obtain⟨t0,vi⟩:∃ t0:dt,t0=⟨bt,s,hZ.val,osr.val,xs,gu.a.map λg=>⟨g,0,none⟩,gu.n,gu.c,some ⟨ig,0,none⟩,gu.n,(List.range gu.n).map λk=>⟨ba,k*((s.size+1)*4),none⟩,0,ba⟩:=⟨_,rfl⟩;have cP:t0.P=gZ g s:=by rw[vi];show(⟨xs.map a3.pn,s,0⟩:cu)=_;rw[aaA];rfl
 have lZ:=ahk (t:=t0) (by rw[vi]);have Nx:t0.aQ (tD t0.P t0.nn)=⟨ba,.cells ((List.replicate (gu.n*(s.size+1)) g8).flatMap bW.cells).toArray 106 (0,0)⟩:=by unfold dt.aQ;rw[lZ,vi];rfl
 have hL:∀ y∈xs,∀ x∈y.aM,x.toNat<gu.n:=λy aG x ab=>by
  have U:y.pn∈(kI g.ds).map nr:=by rw[<-aaA];exact dp.2 ⟨y,aG,rfl⟩
  obtain⟨a,ax,pw⟩:=dp.1 U;have aa:=(NO hm dY (s:=s) (av:=0) (bi _) ap).ns a ax;have ae:x.toNat∈a.bL:=by have eY:a.bL=y.aM.map Int.toNat:=congrArg qk.bL pw;rw[eY];exact dp.2 ⟨x,ab,rfl⟩
  have aR:=aa.bL _ ae;have bn:(rn g s 0).ns.length=bz g.ds:=wv g.ds;omega
 have amB:=Lo aaB pP;have amC:=Lo Oj pP;have amD:=Lo VU pP;have aaE:t0.ok (kN I g2) (tD t0.P t0.nn):=by
  rw[vi];refine⟨?_,(amA.kN (a'.fresh (e:=59) (λx ab=>pF x (n9 _ ab)) pP)).mono (x7 jR),λy aG=>(pI y aG).1.mono (x7 Hj),λy aG=>(pI y aG).2.1,λy aG x ab=>⟨(pI y aG).2.2 x ab,hL y aG x ab⟩,?_,λa ax=>?_,λk af aq=>absurd aq (BQ _),λk af _=>?_,ap,by show gu.n<=4096;omega⟩;·rw[HD amB (jR _ _ cf),Rx];rfl
  ·refine⟨by simp,⟨b1 _,by show gu.n*24<=_;omega⟩,.inr ⟨⟨ig,0,none⟩,rfl,rfl,_,_,_,(HD amC (jR _ _ amz)).trans (congrArg some aaC),?_⟩⟩;show((tw ba (s.size+1) gu.n).drop 0).take (gu.n*1)=_;rw[oZ,g4 (by simp[tw]),tw,jt];rfl
  ·obtain⟨k,_,rfl⟩:=dp.1 ax;rfl
  ·simp only[lH,nj,zp];rfl
 have Oe:=aaE.mono (Ln (I:=I));have aph:t0.n0=0:=by rw[vi]
 have aaF:t0.nn=gu.n:=by rw[vi]
 have aaG:t0.bt=bt:=by rw[vi]
 have Rz:t0.ba=ba:=by rw[vi]
 have cO:t0.s=s:=by rw[vi]
 have amE:t0.rv=osr.val:=by rw[vi]
 have amF:t0.nv=hZ.val:=by rw[vi]
 have tk:Oa g2 t0 (tD t0.P t0.nn) L:=by
  refine⟨Oe,Xo _ _,λk af=>?_,λk=>by rw[cP];exact la k,by omega,λk af=>⟨by omega,?_⟩,λk _ af=>?_,λk af=>by omega⟩;·rw[cP,aaF,rH];exact cq k (by omega)
  ·have:=(rk k).1 af;omega
  ·exact(rk k).2 (by omega)
 have r0:=VN tk (gN:=gN) (nN:=gu.n) (cN:=cN) k9 hX (by omega) (by omega) (low:=0) (bi _);rw[aaG]at r0;refine aZ.mk [t0.aQ (tD t0.P t0.nn),du gN cN] [] _ (by rw[Nx];exact .swap _ _ _) r0 ?_;rintro v j6 lG -⟨rfl,T,f1,f2,f3,rfl⟩;intro Qf;have DX:j6 ba=none:=by have:=Qf.d (t0.aQ T) (.head _);rw[<-Rz];exact this
 have qu:t0.ok (kN I j6) T:=aaE.sv λk af b=>by omega
 refine⟨ins j6 ba (.cells (t0.cs T).toArray 106 (0,0)),[],.oT (by rw[<-Rz];rfl) (by simp) .refl,λb o h=>ph DX _ _ (Hj _ _ (pP _ _ h)),rfl,.inr (.inr ⟨wQ,ap,{ t0 with n0:=t0.nn },T,by show _=Value.tuple #[ptr t0.bt,.int .i64 0];rw[aaG],?_⟩)⟩;have aaH:∀ b o,I' b=some o->ins j6 ba (.cells (t0.cs T).toArray 106 (0,0)) b=some o:=λb o h=>ph DX _ _ (Hj _ _ h);refine⟨qu.kL (x7 (ph DX)) (by rw[Rz];exact HD amD (sf ..)),f1,cP,cO,λk b=>by rw[<-cP];exact f2 k b (bi _),rfl,aaF.trans rH,⟨osr.a.map λg=>⟨g,0,none⟩,osr.c,?_,?_⟩,⟨hZ.a.map λg=>⟨g,0,none⟩,hZ.c,?_,?_⟩⟩
 ·show t0.rv=_;rw[amE,a'.val,jJ]
 ·rw[<-jJ];exact amx.mono (x7 aaH)
 ·show t0.nv=_;rw[amF,a'.val,B6]
 ·rw[<-B6];exact HE.mono (x7 aaH)
def Eu(J:aH)(os:a')(e:Nat):aH:=match os.a with
 |some g=>ins J g (.cells os.aS.toArray e (0,0))| none=>J
def aaI{J:aH}{e:Nat}(aF:∀ g,os.a=some g->g ∉ b6):h1 b6 J (os.aQ e++post) (Eu J os e) post:=by
 obtain⟨a,n,c,aS⟩:=os;cases a with
 |none=>exact .refl| some g=>exact .oT rfl (aF g rfl) .refl
def aaJ{J:aH}{e:Nat}(h:∀ x∈os.aQ e++M,J x.num=none):∀ b o,J b=some o->Eu J os e b=some o:=by
 obtain⟨a,n,c,aS⟩:=os;cases a with
 |none=>exact λ_ _ h=>h
 |some g=>exact ph (h ⟨g,_⟩ (.head _))
def aaK{J:aH}{e:Nat}(h:os.ok size xs)(ag:os.n*b<=140737488355328):dX (Eu J os e) (os.a.map λg=>⟨g,0,none⟩) os.n os.c size b xs:=by
 obtain⟨a,n,c,aS⟩:=os;cases a with
 |none=>obtain⟨U,aa⟩:=h.nil rfl;exact⟨h.len,⟨by simp only at U aa |-;omega,ag⟩,.inl U⟩
 |some g=>obtain⟨U,aa,ae,aR⟩:=h.cap g rfl;exact⟨h.len,⟨aa,ag⟩,.inr ⟨⟨g,0,none⟩,rfl,rfl,aS.toArray,e,(0,0),sf ..,by simpa using aR⟩⟩
structure amG(RA:aH)(t:bB)(os0:a')(x:Nat×a'×List a3×aH):Prop where
 i:x.1<=t.n
 ok:x.2.1.ok 9 (x.2.2.1.flatMap a3.cells)
 cz:x.2.2.1.map a3.cz=t.ns.map a3.cz
 ns:∀ d∈x.2.2.1,d.ok x.2.2.2
 le:∀ b o,RA b=some o->x.2.2.2 b=some o
 a:x.2.1.a=os0.a
 v:x.2.1.val=os0.val
structure wV(I:aH)(NB:List aE)(d:bm):Prop where
 name:d.name.size<=140737488355328
 a2:x2 59 NB d.t.a d.t.n d.t.c 9 96 (d.t.ns.flatMap a3.cells)
 ns:∀ z∈d.t.ns,z.ok I
 bJ:mF d.t.bJ
def wV.mono{I:aH}{aaL:List aE}(h:wV I NB d)(bx:∀ b o,I b=some o->I' b=some o)(fB:∀ x∈NB,x∈aaL):wV I' aaL d:=⟨h.name,h.a2.mono fB,λz a1=>(h.ns z a1).mono bx,h.bJ⟩
def wV.kL{I J:aH}(h:wV I NB d)(c6:wN I NB J):d.ok J:=⟨h.name,⟨h.a2.kL c6,λz a1=>(h.ns z a1).mono c6.le,h.bJ⟩⟩
structure amH(I:aH)(g:cE)(x:Nat×a'×List bm×aH×List aE):Prop where
 i:x.1<=g.n
 ok:x.2.1.ok 3 (x.2.2.1.flatMap bm.cells)
 cz:x.2.2.1.map bm.cz=(g.ds.take x.1).map bm.cz
 ds:∀ d∈x.2.2.1,wV x.2.2.2.1 x.2.2.2.2 d
 le:∀ b o,I b=some o->x.2.2.2.1 b=some o
 uU:x.2.2.2.2.length<=x.1
def amI{I:aH}{g:cE}(aB:g.ok I)(oU:Ee g):Spec Tryz.prog 19 [g.val] I [] λv I' M'=>(∀ b o,I b=some o->I' b=some o)/\∃ (os:a') (L:List bm) (NB:List aE),v=.agg #[os.val]/\os.n=g.n/\os.ok 3 (L.flatMap bm.cells)/\M'=os.aQ 38++NB/\L.map bm.cz=g.ds.map bm.cz/\∀ d∈L,wV I' NB d:=by
 refine bU [] aT Tryz.func19 rfl rfl rfl ?_;intro B aq;have fU:=aB.n;have vQ:=oU.n;refine cx.Ac (ι:=Nat×a'×List bm×aH×List aE) (λx=>{ cc:=[(1,.ref 1 0),(2,.ref 2 0),(3,.ref 3 0),(4,.val (.int .i64 x.1))],cl:=[(1,[.slice g.a g.n g.c]),(2,[.slice none 0 0]),(3,[x.2.1.val])],ck:=x.2.2.2.1,de:=x.2.1.aQ 38++x.2.2.2.2 }) (λx=>amH I g x) (λx=>g.n-x.1) ?_ ?_
 ·intro _;exact⟨(0,jd,[],I,[]),⟨bi _,ka 3,rfl,(λd ah=>by cases ah),λ_ _ h=>h,b1 _⟩,.refl,ec,.cons rfl (.cons rfl (.cons rfl (.nil)))⟩
 rintro⟨i,wW,L,J,NB⟩⟨hi,Lr,hC,hW,bk,uV⟩;simp only at hi Lr hC hW bk uV;have Zm:L.length=wW.n:=by have:=Lr.len;rw[g3 _ 3 bm.da]at this;omega
 refine aI.mk (λh=>?_) (λh=>?_)
 rotate_left
 ·have cI:i=g.n:=by have:¬ (i:Int)<(g.n:Int):=ct h;omega
  subst cI;rw[g4 (by omega)]at hC;have aw:L.length=g.ds.length:=by simpa using congrArg List.length hC
  exact⟨_,_,.refl,bk,wW,L,NB,rfl,by omega,Lr,rfl,hC,hW⟩
 have aO:i<g.n:=by have:(i:Int)<(g.n:Int):=cv h;omega
 have eP:i<g.ds.length:=by omega
 have zA:L.length=i:=by have:=congrArg List.length hC;rw[dx,dx,mV]at this;omega
 have HF:=aB.mono bk;obtain⟨ad,bI,bl⟩:=HF.a2.row bm.da aO eP;have mE:=hR eP;have eX:=HF.ds _ (cZ eP);have qG:=oU.ds _ (cZ eP);have k9:∀ M,bD J M ((ad.add (i*3)).add 0) 1 [.string g.ds[i].name]:=λM=>(bl M).part (k:=0) (m:=1) (by decide);have hX:∀ M,bD J M ((ad.add (i*3)).add 1) 2 g.ds[i].t.cells:=λM=>(bl M).part (k:=1) (m:=2) (by decide);generalize g.ds[i]=amJ at mE eX qG k9 hX;obtain⟨di,t⟩:=amJ;have au:=eX.t;have vn:=eX.name;have cO:=qG.t;have amK:=cO.n;simp only at k9 hX au vn amK;have kE:=au.n;refine a7.mk ad i bI rfl aO ?_;refine aD.mk _ (hX _) ?_;refine cw.mk λb ag r8=>?_;refine bp.N3 aT rfl (by simp) (e:=59) rfl rfl rfl ⟨some b,0,0,[]⟩ (xs:=[]) ⟨rfl,(λh=>by cases h),(λg h=>⟨rfl,b1 _,bi _,rfl⟩)⟩ rfl (sa:=t.a) (m:=t.n) (c':=t.c) (bV:=t.ns.flatMap a3.cells) rfl au.a2.len (au.a2.Zv _) (akE a3.one _) [] (wW.aQ 38++NB) rfl (by simp only;omega) (by show(0+t.n)*96<=_;omega) ?_;intro os0 jN qd we;rw[lD]at we;have jN:os0.n=t.n:=by rw[jN];exact dK _
 refine cx.Ac (ι:=Nat×a'×List a3×aH) (λx=>{ cc:=[(1,.ref 1 0),(2,.ref 2 0),(3,.ref 3 0),(4,.val (.int .i64 i)),(5,.ref 5 0),(6,.val os0.val),(7,.val (.int .i64 x.1))],cl:=[(1,[.slice g.a g.n g.c]),(2,[.slice none 0 0]),(3,[wW.val]),(5,t.cells)],ck:=x.2.2.2,de:=x.2.1.aQ 59++(wW.aQ 38++NB) }) (λx=>amG J t os0 x) (λx=>t.n-x.1) ?_ ?_
 ·intro _;exact⟨(0,os0,t.ns,J),⟨bi _,we,rfl,au.ns,λ_ _ h=>h,rfl,rfl⟩,.refl,nz,.cons rfl (.cons rfl (.cons rfl (.cons rfl (.nil))))⟩
 rintro⟨k,os,N,K⟩⟨af,cj,HG,jr,pP,xQ,zD⟩;simp only at af cj HG jr pP xQ zD;have api:N.length=t.ns.length:=by simpa using congrArg List.length HG
 obtain⟨pF,apj⟩:=akG zD;refine aI.mk (λaa=>?_) (λaa=>?_)
 ·have jL:k<t.n:=by have:(k:Int)<(os0.n:Int):=cv aa;omega
  have HH:k<N.length:=by omega
  obtain⟨cn,cq,jJ⟩:=a'.ok.row (I:=K) (e:=59) a3.da (by decide) cj (M:=os.aQ 59++(wW.aQ 38++NB)) (λz a1=>n9 _ a1) HH;have Ls:=jr _ (cZ HH);have RB:=cq;rw[xQ]at RB;have hM:N[k].aM.length=N[k].kn:=Ls.kn;have sI:N[k].kn<400:=by
   obtain⟨z,a1,e⟩:∃ z∈t.ns,z.cz=N[k].cz:=by
    have bn:N[k].cz∈t.ns.map a3.cz:=by rw[<-HG];exact dp.2 ⟨_,cZ HH,rfl⟩
    obtain⟨z,a1,e⟩:=dp.1 bn;exact⟨z,a1,e⟩
   have b2:=(cO.ns z a1).kn;have eh:=(au.ns z a1).kn;have amL:=congrArg a3.aM e;have fg:z.aM=N[k].aM:=amL;rw[fg]at eh;omega
  refine cw.mk λch kq apk=>?_;refine a7.mk cn k RB rfl (show k<os0.n by omega) ?_;refine aD.mk [.slice N[k].hK N[k].kn N[k].hk] ?_ ?_;·have ae:=jJ.part (k:=8) (m:=1) (by decide);obtain⟨dJ,cs,T,aj,c9,dT⟩:=ae;exact⟨dJ,cs,T,aj,c9.mono (λ_ _ h=>h) (λx ab=>.tail _ ab),dT⟩
  refine bp.N3 aT rfl (by simp) (e:=3) rfl rfl rfl ⟨some ch,0,0,[]⟩ (xs:=[]) ⟨rfl,(λh=>by cases h),(λg h=>⟨rfl,b1 _,bi _,rfl⟩)⟩ rfl (sa:=N[k].hK) (m:=N[k].kn) (c':=N[k].hk) (bV:=N[k].aM.map (.int .i64 ·)) rfl (by simpa using Ls.a2.len) (Ls.a2.Zv _) (akD _) [] (os.aQ 59++(wW.aQ 38++NB)) rfl (by simp only;omega) (by show(0+N[k].kn)*8<=_;omega) ?_;intro rU aaM apl G8;rw[lD]at G8;have aaM:rU.n=N[k].kn:=by rw[aaM];exact dK _
  refine a7.mk cn k RB rfl (show k<os0.n by omega) ?_;have fx:({ N[k]with hK:=rU.a.map λg=>⟨g,0,none⟩,kn:=rU.n,hk:=rU.c }:a3).cz=N[k].cz:=rfl;have mz:=akF HH fx;refine a'.aeU (e:=59) a3.cells 9 a3.da cj HH 8 (vs:=[rU.val]) (bN rfl) rfl { N[k]with hK:=rU.a.map λg=>⟨g,0,none⟩,kn:=rU.n,hk:=rU.c } rfl (rU.aQ 3) (wW.aQ 38++NB) rfl cq ?_;intro hf vo Kl uN j5;refine aW.mk _ (b0 (i:=k) (by omega)) ?_;intro gv;have RC:=aaJ (J:=K) (os:=rU) (e:=3) gv.d;refine⟨(k+1,hf,N.set k { N[k]with hK:=rU.a.map λg=>⟨g,0,none⟩,kn:=rU.n,hk:=rU.c },Eu K rU 3),⟨⟨jL,j5,mz.trans HG,λd ah=>?_,λb o h=>RC _ _ (pP _ _ h),Kl.trans xQ,vo.trans zD⟩,by simp only;omega⟩,aaI (λg _=>by simp),nz,.cons rfl (.cons rfl (.cons rfl (.cons rfl (.nil))))⟩;rcases T' ah with ah | rfl;·exact(jr _ ah).mono RC
  ·exact { (Ls.mono RC)with a2:=aaK (b:=8) G8 (by omega) }
 have cI:k=t.n:=by have:¬ (k:Int)<(os0.n:Int):=ct aa;omega
 have Lq:=HF.mono pP;have amM:∀ M,bD K M ((ad.add (i*3)).add 0) 1 [.string di]:=λM=>by obtain⟨dJ,cs,T,aj,c9,dT⟩:=k9 [];exact⟨dJ,cs,T,aj,c9.mono pP (λx ab=>by cases ab),dT⟩
 refine cU.draw aT rfl rfl rfl ?_;refine a7.mk ad i bI rfl aO ?_;refine aD.mk _ (amM _) ?_;refine cw.mk λb9 fK apm=>?_;refine bp.tr aT rfl (by simp) (e:=38) rfl rfl rfl wW Lr rfl (cs:=[.string di,os0.val,.int .i64 t.bJ]) rfl rfl rfl (os.aQ 59) NB rfl (by omega) (by show(wW.n+1)*48<=_;omega) ?_;intro amN apn apo aaN;refine aW.mk _ (b0 (i:=i) (by omega)) ?_;intro gv;have l1:(os.aQ 59).length<=1:=by
  obtain⟨a,n,c,aS⟩:=os;cases a with
  |none=>exact bi _| some g=>exact b1 _
 refine⟨(i+1,amN,L++[⟨di,⟨N,os.a.map λg=>⟨g,0,none⟩,os.n,os.c,t.bJ⟩⟩],K,os.aQ 59++NB),⟨⟨aO,?_,?_,λd ah=>?_,λb o h=>pP _ _ (bk _ _ h),?_⟩,by simp only;omega⟩,.perm (vU _ _ _) .refl,ec,.cons rfl (.cons rfl (.cons rfl (.nil)))⟩
 ·simp only;rw[jP,pZ,AA,c8];rw[<-zD]at aaN;exact aaN
 ·simp only;rw[mE,fC,fC,hC];congr 1;show [bm.cz ⟨di,_⟩]=[bm.cz ⟨di,t⟩];unfold bm.cz bB.cz;simp only;rw[HG,pF,jN]
 ·simp only at ah;rcases dW.1 ah with ah | ah
  ·exact(hW d ah).mono pP λx ab=>r3 _ ab
  ·rw[iu.1 ah];exact⟨vn,(x2.ak6 (b:=96) cj (by omega)).mono λx ab=>n9 _ ab,jr,au.bJ⟩
 ·simp only[b5];omega
def Spec.amO{P:Program}{f:Nat}{args:List Value}{I:aH}{Q:aH->Value->aH->List aE->Prop}(h:∀ J,wN I M J->Spec P f args J [] (Q J))(aP:HT P f) :
  Spec P f args I M λr I' mA=>∃ J dm M1,wN I M J/\Q J r dm M1/\mA=M1++M/\(∀ b o,I b=some o->I' b=some o)/\(∀ b o,dm b=some o->(∀ x∈M,x.num≠b)->I' b=some o):=by
 refine .inl ⟨aP,λw hw=>?_⟩;obtain⟨aV,aX⟩:=ak3 hw;rcases h _ aX with⟨-,aa⟩ | aa
 ·refine(aa w aV).mono ?_;rintro e w'⟨v,dm,M1,aC,ay,bf,b3⟩;obtain⟨dJ,c9,dT,-⟩:=ak4 hw bf b3;exact⟨v,vd dm M,M1++M,aC,⟨_,dm,M1,aX,ay,rfl,dT,λb o ag an=>by rw[Rb an];exact ag⟩,dJ,c9⟩
 ·obtain⟨v,w',dm,M1,aC,-⟩:=aa w aV;have:=aP args.toArray w;rw[aC]at this;cases this
def amP{I:aH}{h:cE}(bS:kC I aL)(lB:dX I h.a h.n h.c 3 48 (h.ds.flatMap bm.cells))(hW:∀ d∈h.ds,wV I NB d)(an:h.n<=4096)(s:ByteArray) :
  Spec Tryz.prog 11 [h.val,.string s] I NB λv I' M'=>(∀ b o,I b=some o->I' b=some o)/\M'=NB/\((jc aL h≠0/\v=.tuple #[.pointer none,.int .i64 (jc aL h)])\/(jc aL h=0/\4096<s.size/\v=.tuple #[.pointer none,.int .i64 40]) \/
   (jc aL h=0/\s.size<=4096/\∃ (t:dt) (T:Nat->Nat->bW),v=.tuple #[ptr t.bt,.int .i64 0]/\lj I' h s t T)):=by
 refine Spec.rN (Spec.amO (Q:=λJ=>aay J aL h s) (λJ c6=>amr (bS.mono c6.le) (g:=h) ⟨lB.mono c6.le,λd ah=>(hW d ah).kL c6⟩ an s) (R5 Tryz.func11 rfl rfl)) ?_;rintro v I' M'⟨J,dm,M1,c6,⟨cm,rfl,RD⟩,rfl,bx,hd⟩;refine⟨bx,rfl,?_⟩;rcases RD with aN | aN | ⟨U,aa,t,T,rfl,ae⟩
 ·exact .inl aN
 ·exact .inr (.inl aN)
 ·refine .inr (.inr ⟨U,aa,t,T,rfl,ae.mono λb o ag=>hd b o (Ln _ _ ag) λx ab e=>?_⟩);have aaO:J x.num=some x.obj:=c6.kn _ _ (.inr ⟨x,ab,rfl,rfl⟩);rw[e]at aaO;unfold kN at ag;rw[aaO]at ag;cases ag
def zS(L:List bm)(NB:List aE):Prop:=∀ d∈L,d.t.n=0\/∃ (g:Nat) (cs:List Value),d.t.a=some ⟨g,0,none⟩/\(⟨g,.cells cs.toArray 59 (0,0)⟩:aE)∈NB/\d.t.n*9<=cs.length
def zS.of{I:aH}{L:List bm}(h:∀ d∈L,wV I NB d):zS L NB:=λd ah=>by
 rcases(h d ah).a2.rd with U | ⟨g,cs,U,aa,ae,aR⟩
 ·exact .inl U
 ·refine .inr ⟨g,cs.toList,U,?_,by simpa using aR⟩;simpa using aa
def zS.set{L:List bm}{g:Nat}{cs':List Value}(h:zS L (a9++⟨g,.cells cs.toArray 59 (0,0)⟩::post))(aw:cs'.length=cs.length):zS L (a9++⟨g,.cells cs'.toArray 59 (0,0)⟩::post):=λd ah=>by
 rcases h d ah with U | ⟨aX,CP,U,aa,ae⟩
 ·exact .inl U
 ·refine .inr ?_;rcases dW.1 aa with aa | aa
  ·exact⟨aX,CP,U,n9 _ aa,ae⟩
  ·rcases et.1 aa with aa | aa
   ·have aC:aX=g:=congrArg aE.num aa;have ay:(Obj.cells CP.toArray 59 (0,0))=.cells cs.toArray 59 (0,0):=congrArg aE.obj aa;have bf:CP=cs:=by
     injection ay with b3
     simpa using congrArg Array.toList b3
    subst aC;subst bf;exact⟨aX,cs',U,r3 _ (.head _),by omega⟩
   ·exact⟨aX,CP,U,r3 _ (.tail _ aa),ae⟩
def aaP(A R:List aE)(B:aE):(A++(B::(R++[]))).Perm ((R++(A++[B]))++[]):=by rw[c8,c8,show A++B::R=(A++[B])++R by simp];exact fR
def amQ(R HI A:List aE)(D:List aE):((R++(HI++(A++D)))++[]).Perm ((A++(R++(HI++D)))++[]):=by rw[c8,c8,<-eL R HI];exact(vU _ _ _).trans (by rw[eL])
def amR(X R HI D:List aE):(R++D).Sublist ((X++(R++(HI++D)))++[]):=by rw[c8];exact(Pf (.refl _) (lC _ _)).trans (lC _ _)
def amS{I:aH}(bS:kC I kG){g:cE}(xN:vX I g){s:ByteArray}(ap:s.size<=9223372036854775807){x:bB}(aaQ:uA I x){rule:Int}(h5:mF rule)(apq:mF av):wZ Tryz.prog 4 [g.val,.string s,x.val,.int .i64 rule,.int .i64 av] I [] λv _ _=>v=.bool true:=by
 obtain⟨qN,xp⟩:∃ qN,jc kG g=qN:=⟨_,rfl⟩;have eqs:∀ z:Int,decide (z=z)=true:=λz=>gX rfl;refine ES [] aT Tryz.func4 rfl rfl rfl ?_;intro B aq;refine aZ.mk [] [] _ (.refl _) (akM xN aaQ s) ?_;rintro v RA N -⟨⟨amT,rfl,h6⟩,H5,fB⟩;subst RA;subst N;cases amT with
 |true=>refine aI.mk (λ_=>?_) (λh=>by cases h);refine aZ.mk [] [] _ (.refl _) (Q9 bS) ?_;rintro v Rv N -⟨rfl,Lt,rfl⟩;exact⟨_,_,.refl,rfl⟩
 |false=>
 obtain⟨oU,pI,K4⟩:=h6 rfl;have aB:=xN.Ef oU;have ab:=aaQ.Ef pI;have amU:=pI.fit;have fU:=aB.n;have vQ:=oU.n;have aF:=oU.fit aB;refine aI.mk (λh=>by cases h) (λ_=>?_);refine aZ.whole _ (amI aB oU) ?_;rintro v Lu M1 -⟨aaR,os,L,NB,rfl,pF,cj,rfl,hC,hW⟩;have CL:=bS.mono aaR;refine .zX λgv=>?_;have bk:=aaJ (J:=Lu) (os:=os) (e:=38) gv.d;have qf:=CL.mono bk;obtain⟨h,bC⟩:∃ h:cE,h=⟨L,os.a.map λg=>⟨g,0,none⟩,os.n,os.c⟩:=⟨_,rfl⟩;have aaS:h.cz=g.cz:=by rw[bC];unfold cE.cz;rw[hC,pF]
 have lB:=aaK (J:=Lu) (e:=38) (b:=48) cj (by omega);have amV:∀ d∈L,wV (Eu Lu os 38) NB d:=λd ah=>(hW d ah).mono bk λ_ h=>h;have amW:jc kG h=qN:=by rw[<-UU,aaS,UU,xp]
 have fx:=amP qf (h:=h) (NB:=NB) (by rw[bC];exact lB) (by rw[bC];exact amV) (by rw[bC];show os.n<=4096;omega) s;rw[amW,show h.val=.agg #[os.val] by rw[bC];rfl]at fx;refine aZ.zW (Eu Lu os 38) NB [] _ (by rw[c8];exact aaI λg _=>by simp) fx ?_;rintro v Rv kY Lt -⟨apr,ahm,RD⟩;subst kY;have Hv:=qf.mono Lt;have jR:∀ b o,I b=some o->Rv b=some o:=λb o h=>Lt _ _ (bk _ _ (aaR _ _ h));have mI:=aB.mono jR;have amX:=lB.mono Lt;have bad:∀ e:Int,e≠0->(!decide (e=0))=true:=λe he=>by rw[c0 he];rfl
 rcases RD with⟨x1,rfl⟩ | ⟨-,RE,-⟩ | ⟨x1,qG,t,T,rfl,x8⟩
 ·refine aZ.mk [] (NB++[]) _ (.refl _) (Z5 mI aF (by omega) xp s) ?_;rintro v Lv lG -⟨Ca,RF⟩;have Lw:=Hv.mono Ca;rcases RF with⟨-,rfl,rfl⟩ | ⟨U,-⟩ | ⟨U,-⟩
  rotate_left
  ·exact absurd U x1
  ·exact absurd U x1
  refine bP.mk (λ_=>?_) (λh=>absurd h (by simp));refine cC.u2 aT rfl rfl ?_;refine aI.mk (λh=>absurd h (by simp[x1])) (λ_=>?_);refine aI.mk (λ_=>?_) (λh=>D8 (bad _ x1) h);refine aZ.mk [] _ _ (.refl _) (Q9 Lw) ?_;rintro v aaT N -⟨rfl,amY,rfl⟩;exact⟨_,_,.refl,rfl⟩
 ·exact absurd RE (by omega)
 refine aZ.mk [] (NB++[]) _ (.refl _) (Z5 mI aF (by omega) xp s) ?_;rintro v Lv lG -⟨Ca,RF⟩;have Lw:=Hv.mono Ca;rcases RF with⟨U,-⟩ | ⟨-,RE,-⟩ | ⟨-,-,y,rfl,rfl,tH,Ev,amZ,aG⟩
 ·exact absurd x1 U
 ·exact absurd RE (by omega)
 have x8:=(x8.cz aaS).mono Ca;have wQ:jc kG g=0:=xp.trans x1;have hm:=NM wQ λd ah=>(aB.ds d ah).t.n;have dY:∀ d∈g.ds,∀ n∈d.t.ns,0<=n.k:=λd ah n an=>((aB.ds d ah).t.ns n an).k.1;have HJ:=eM.alV Ev tH amZ;have la:∀ k,pA y.P k:=λk=>by rw[HJ];exact(DM hm dY qG).1 k
 have am0:=mI.mono Ca;have KO:=ab.mono λb o h=>Ca _ _ (jR _ _ h);have am1:=amX.mono Ca;have lR:=x8.XK hm dY qG;refine bP.mk (λ_=>?_) (λh=>Y9 rfl h);refine cC.u2 aT rfl rfl ?_;refine aI.mk (λh=>by cases h) (λ_=>?_);refine aI.mk (λh=>Y9 rfl h) (λ_=>?_);have aps:L.length=os.n:=by have:=cj.len;rw[g3 _ 3 bm.da]at this;omega
 refine cx.inv (ι:=Nat×List aE) (λz=>{ cc:=[(1,.val (.string s)),(3,.val (.int .i64 rule)),(4,.val (.int .i64 av)),(5,.ref 5 0),(7,.ref 7 0),(11,.ref 11 0),(12,.val (ptr t.bt)),(14,.val (ptr y.bt)),(16,.val (.int .i64 z.1))],cl:=[(5,[.slice g.a g.n g.c]),(7,x.cells),(11,[os.val])],ck:=Lv,de:=cF jC y.w 0 y.bs++z.2 }) (λz=>z.1<=os.n/\zS L z.2) (λz=>os.n-z.1) ?_ ?_
 ·exact⟨(0,NB),⟨bi _,zS.of hW⟩,.uJ (by rw[c8,c8]),vr,.cons rfl (.cons rfl (.cons rfl (.nil)))⟩
 rintro⟨i,rP⟩⟨hi,aaU⟩;simp only at hi aaU;refine aI.mk (λe=>?_) (λe=>?_)
 ·have aO:i<os.n:=by have:(i:Int)<(os.n:Int):=cv e;omega
  have eP:i<L.length:=by omega
  obtain⟨ad,bI,bl⟩:=am1.row bm.da aO eP;have eC:=cZ eP;have eX:=hW _ eC;have am2:=eX.a2.cap;have k9:∀ M,bD Lv M (((ad.add (i*3)).add 1).add 0) 1 [.slice L[i].t.a L[i].t.n L[i].t.c]:=λM=>((bl M).part (k:=1) (m:=2) (by decide)).part (k:=0) (m:=1) (by decide);generalize L[i]=d at eC eX am2 k9;refine cx.inv (ι:=Nat×List aE) (λz=>{ cc:=[(1,.val (.string s)),(3,.val (.int .i64 rule)),(4,.val (.int .i64 av)),(5,.ref 5 0),(7,.ref 7 0),(11,.ref 11 0),(12,.val (ptr t.bt)),(14,.val (ptr y.bt)),(16,.val (.int .i64 i)),(17,.val (.int .i64 z.1))],cl:=[(5,[.slice g.a g.n g.c]),(7,x.cells),(11,[os.val])],ck:=Lv,de:=cF jC y.w 0 y.bs++z.2 }) (λz=>z.1<=d.t.n/\zS L z.2) (λz=>d.t.n-z.1) ?_ ?_;·exact⟨(0,rP),⟨bi _,aaU⟩,.refl,R7,.cons rfl (.cons rfl (.cons rfl (.nil)))⟩
  rintro⟨k,qJ⟩⟨af,pO⟩;simp only at af pO;refine a7.mk ad i bI rfl aO ?_;refine aD.mk _ (k9 _) ?_;refine aI.mk (λay=>?_) (λay=>?_)
  ·have jL:k<d.t.n:=by have:(k:Int)<(d.t.n:Int):=cv ay;omega
   rcases pO d eC with U | ⟨aX,cs,U,aa,ae⟩;·omega
   obtain⟨a9,post,rfl⟩:=tB aa;refine a7.mk ad i bI rfl aO ?_;refine aD.mk _ (k9 _) ?_;refine a7.mk ⟨aX,0,none⟩ k U rfl jL ?_;have fK:k*9+9<=cs.length:=by omega
   refine cV.oh (cF jC y.w 0 y.bs++a9) post cs 59 (eL _ _ _).symm (by rw[oE];show 0+k*9+9<=_;omega) rfl _ rfl ?_;refine aW.mk _ (b0 (i:=k) (by omega)) ?_;exact⟨(k+1,_),⟨⟨jL,pO.set (aan (by show 0+k*9+9<=_;omega))⟩,by simp only;omega⟩,.uJ (eL _ _ _),R7,.cons rfl (.cons rfl (.cons rfl (.nil)))⟩
  ·have cI:k=d.t.n:=by have:¬ (k:Int)<(d.t.n:Int):=ct ay;omega
   subst cI;refine aW.mk _ (b0 (i:=i) (by omega)) ?_;exact⟨(i+1,qJ),⟨⟨aO,pO⟩,by simp only;omega⟩,.refl,vr,.cons rfl (.cons rfl (.cons rfl (.nil)))⟩
 have eW:=akH (M0:=cF jC y.w 0 y.bs++rP) x8.ok;rw[x8.ts]at eW;refine aZ.whole _ eW ?_;rintro v aaT nF -⟨rfl,rfl,rfl⟩;refine bP.mk (λ_=>?_) (λh=>absurd h (by simp));refine aZ.whole _ (akI x8 hm lR fU (by omega)) ?_;rintro v apt I1 -⟨rfl,rfl,rfl⟩;refine aZ.whole _ (al6 aG HJ Ev tH Z4 (by omega)) ?_;rintro v HK AO -⟨rfl,o5,rfl,rfl,mR⟩;refine aI.mk (λh=>absurd h (by simp)) (λ_=>?_);refine cx.inv (ι:=Nat×(Nat->Nat->dc)) (λz=>{ cc:=[(1,.val (.string s)),(3,.val (.int .i64 rule)),(4,.val (.int .i64 av)),(5,.ref 5 0),(7,.ref 7 0),(12,.val (ptr t.bt)),(14,.val (ptr y.bt)),(18,.val (.int .i64 ((z.1:Int)-1)))],cl:=[(5,[.slice g.a g.n g.c]),(7,x.cells)],ck:=HK,de:=cF z.2 y.w 0 y.bs++[] }) (λz=>z.1<=g.n+2/\gr y.P lu z.2) (λz=>g.n+2-z.1) ?_ ?_
 ·exact⟨(0,o5),⟨bi _,mR⟩,.sub (Pf (.refl _) (eG _)) .refl,.cons .refl (.cons .refl (.cons .refl (.cons .refl (.cons .refl (.cons .refl (.cons .refl (.cons (zB (by simp)) .nil))))))),.cons rfl (.cons rfl (.nil))⟩
 rintro⟨i,er⟩⟨hi,fe⟩;simp only at hi fe;refine aI.mk (λe=>?_) (λe=>?_)
 ·have aO:i<=g.n+1:=by have:(i:Int)-1<=(g.n:Int):=cv e;omega
  refine cx.inv (ι:=Nat×(Nat->Nat->dc)) (λz=>{ cc:=[(1,.val (.string s)),(3,.val (.int .i64 rule)),(4,.val (.int .i64 av)),(5,.ref 5 0),(7,.ref 7 0),(12,.val (ptr t.bt)),(14,.val (ptr y.bt)),(18,.val (.int .i64 ((i:Int)-1))),(19,.val (.int .i64 ((z.1:Int)-1)))],cl:=[(5,[.slice g.a g.n g.c]),(7,x.cells)],ck:=HK,de:=cF z.2 y.w 0 y.bs++[] }) (λz=>z.1<=s.size+3/\gr y.P lu z.2) (λz=>s.size+3-z.1) ?_ ?_;·exact⟨(0,er),⟨bi _,fe⟩,.refl,.cons .refl (.cons .refl (.cons .refl (.cons .refl (.cons .refl (.cons .refl (.cons .refl (.cons .refl (.cons (zB (by simp)) .nil)))))))),.cons rfl (.cons rfl (.nil))⟩
  rintro⟨k,g'⟩⟨af,jk⟩;simp only at af jk;refine aW.mk ((s.size+1:Nat):Int) (e0 (by simp) (by omega)) ?_;refine aI.mk (λay=>?_) (λay=>?_)
  ·have jL:k<=s.size+2:=by have:(k:Int)-1<=((s.size+1:Nat):Int):=cv ay;omega
   refine aZ.mk [] (cF g' y.w 0 y.bs++[]) _ (.refl _) (XO x8 hm lR fU ((i:Int)-1) ((k:Int)-1)) ?_;rintro v apu FG -⟨rfl,sM,aaV,aaW,eH,rfl,x9,rfl⟩;refine aZ.mk (cF g' y.w 0 y.bs++sM.aQ 110) [] _ (by rw[c8,c8];exact fR) (aal (Mr:=sM.aQ 110) aG la HJ Ev tH jk ((i:Int)-1) ((k:Int)-1)) ?_;rintro v apv aaX -⟨rfl,hr,aaY,aaZ,tI,nR,rfl,zR,rfl,rT⟩;have az:=eH.oH nR;have dJ:=az.1;have c9:=az.2;clear az;subst dJ;subst c9;have pJ:=eH.Lm;refine aZ.whole _ (ahE x8 hm lR fU ((i:Int)-1) ((k:Int)-1)) ?_;rintro v apw apx -⟨rfl,rfl,gm,aC,sF,rfl⟩;refine aZ.mk (cF tI y.w 0 y.bs++(hr.aQ 110++sM.aQ 110)) [] _ (.refl _) (alX aG HJ Ev tH rT ((i:Int)-1) ((k:Int)-1)) ?_;rintro v apy apz -⟨rfl,g6,bf,wS,Bu,rfl,rfl,x6⟩;have az:=sF.eq Bu;have dJ:=az.1;have c9:=az.2;clear az;subst dJ;subst c9;refine bP.mk (λ_=>?_) (λh=>absurd h (by simp));refine bP.mk (λ_=>?_) (λh=>absurd h (by simp));refine bP.mk (λ_=>?_) (λh=>absurd h (by simp));refine aZ.whole _ (Ru x9 zR (λz a1=>by simp[a1]) (λz a1=>by simp[a1]) (by omega)) ?_;rintro v apA aa0 -⟨rfl,rfl,rfl⟩;refine aI.mk (λh=>by cases h) (λ_=>?_);have JE:sM.n<=1048576:=by have:=x9.len;rw[g3 _ 3 eD.da]at this;omega
   refine aZ.mk (sM.aQ 110++(cF wS y.w 0 y.bs++hr.aQ 110)) [] _ (by rw[c8,c8,<-eL];exact fR) (aao x9 JE) ?_;rintro v apB am3 -⟨rfl,X,rfl⟩;refine aW.mk (((k+1:Nat):Int)-1) (e0 (by omega) (by omega)) ?_;exact⟨(k+1,wS),⟨⟨by simp only;omega,x6⟩,by simp only;omega⟩,.sub (by rw[c8,c8];exact(FJ _ _).trans (lC _ _)) .refl,vr,.cons rfl (.cons rfl (.nil))⟩
  ·have cI:¬ (k:Int)-1<=((s.size+1:Nat):Int):=ct ay;refine aW.mk (((i+1:Nat):Int)-1) (e0 (by omega) (by omega)) ?_;exact⟨(i+1,g'),⟨⟨by simp only;omega,jk⟩,by simp only;omega⟩,.refl,qX,.cons rfl (.cons rfl (.nil))⟩
 refine cx.inv (ι:=Nat×(Nat->Nat->dc)×aH) (λz=>{ cc:=[(1,.val (.string s)),(3,.val (.int .i64 rule)),(4,.val (.int .i64 av)),(5,.ref 5 0),(7,.ref 7 0),(12,.val (ptr t.bt)),(14,.val (ptr y.bt)),(28,.val (.int .i64 z.1))],cl:=[(5,[.slice g.a g.n g.c]),(7,x.cells)],ck:=z.2.2,de:=cF z.2.1 y.w 0 y.bs++[] }) (λz=>z.1<=2/\gr y.P lu z.2.1/\∀ b o,HK b=some o->z.2.2 b=some o) (λz=>2-z.1) ?_ ?_
 ·exact⟨(0,er,HK),⟨bi _,fe,λ_ _ h=>h⟩,.refl,qX,.cons rfl (.cons rfl (.nil))⟩
 rintro⟨w,g',K⟩⟨hw,jk,fl⟩;simp only at hw jk fl;refine aI.mk (λbf=>?_) (λbf=>?_)
 rotate_left
 ·refine aZ.mk [] _ _ (.refl _) (Q9 (Lw.mono fl)) ?_;rintro v aaT N -⟨rfl,amY,rfl⟩;exact⟨_,_,.refl,rfl⟩
 have oP:w<2:=by have:(w:Int)<2:=cv bf;omega
 refine cw.mk λrz apC apD=>?_;refine cx.inv (ι:=Nat×aH) (λz=>{ cc:=[(1,.val (.string s)),(3,.val (.int .i64 rule)),(4,.val (.int .i64 av)),(5,.ref 5 0),(7,.ref 7 0),(12,.val (ptr t.bt)),(14,.val (ptr y.bt)),(28,.val (.int .i64 w)),(181,.val (.slice (some ⟨rz,0,none⟩) 3 3)),(182,.val (.int .i64 3)),(183,.val (.int .i64 z.1))],cl:=[(5,[.slice g.a g.n g.c]),(7,x.cells)],ck:=z.2,de:=⟨rz,.cells ([.int .i64 av,.int .i64 0,.int .i64 s.size]:List Value).toArray 3 (0,0)⟩::(cF g' y.w 0 y.bs++[]) }) (λz=>z.1<=3/\∀ b o,K b=some o->z.2 b=some o) (λz=>3-z.1) ?_ ?_
 ·exact⟨(0,K),⟨bi _,λ_ _ h=>h⟩,.refl,Cn,.cons rfl (.cons rfl (.nil))⟩
 rintro⟨j,aa1⟩⟨ak,Lx⟩;simp only at ak Lx;have HL:∀ b o,HK b=some o->aa1 b=some o:=λb o h=>Lx _ _ (fl _ _ h);have RG:=x8.mono HL;have am4:=RG.XK hm dY qG;have Kd:=aG.mono HL;have wu:=KO.mono HL;have nL:=am0.mono HL;have am5:=Lw.mono HL;refine aI.mk (λb3=>?_) (λb3=>?_)
 ·have fq:j<3:=by have:(j:Int)<3:=cv b3;omega
  obtain⟨z,a1⟩:∃ z:Int,∀ M:List aE,(⟨rz,.cells ([.int .i64 av,.int .i64 0,.int .i64 s.size]:List Value).toArray 3 (0,0)⟩:aE)∈M->bD aa1 M ((⟨rz,0,none⟩:Addr).add (j*1)) 1 [.int .i64 z]:=by
   rcases(by omega:j=0\/j=1\/j=2)with rfl | rfl | rfl;·exact⟨_,λM bb=>dP (k:=0) (n:=1) bb (bN rfl)⟩
   ·exact⟨_,λM bb=>dP (k:=1) (n:=1) bb (bN rfl)⟩
   ·exact⟨_,λM bb=>dP (k:=2) (n:=1) bb (bN rfl)⟩
  refine a7.mk ⟨rz,0,none⟩ j rfl rfl fq ?_;refine aD.mk _ (a1 _ (.head _)) ?_;refine aZ.mk [] (⟨rz,.cells ([.int .i64 av,.int .i64 0,.int .i64 s.size]:List Value).toArray 3 (0,0)⟩::(cF g' y.w 0 y.bs++[])) _ (.refl _) (ame am5.c RG hm nL qG wu z) ?_;rintro v aas FG -⟨RH,sM,aaV,aaW,eH,rfl,x9,rfl⟩;refine aZ.mk (cF g' y.w 0 y.bs++(sM.aQ 110++[(⟨rz,.cells ([.int .i64 av,.int .i64 0,.int .i64 s.size]:List Value).toArray 3 (0,0)⟩:aE)])) [] _ (aaP _ _ _) (ami (Mr:=sM.aQ 110++[(⟨rz,.cells ([.int .i64 av,.int .i64 0,.int .i64 s.size]:List Value).toArray 3 (0,0)⟩:aE)]) (Kd.mono RH) hm Ev tH jk (wu.mono RH) amU z) ?_;rintro v am6 aaX -⟨QL,hr,aaY,aaZ,nR,rfl,zR,rfl⟩;have az:=eH.eq nR;have dJ:=az.1;have c9:=az.2;clear az;subst dJ;subst c9;have pJ:=eH.Lm;refine bP.mk (λ_=>?_) (λh=>absurd h (by simp));refine aZ.whole _ (Ru x9 zR (λz a1=>by simp[a1]) (λz a1=>by simp[a1]) (by omega)) ?_;rintro v aa2 aa0 -⟨rfl,rfl,rfl⟩;refine aI.mk (λh=>by cases h) (λ_=>?_);have JE:sM.n<=1048576:=by have:=x9.len;rw[g3 _ 3 eD.da]at this;omega
  refine aZ.mk (sM.aQ 110++(cF g' y.w 0 y.bs++(hr.aQ 110++[(⟨rz,.cells ([.int .i64 av,.int .i64 0,.int .i64 s.size]:List Value).toArray 3 (0,0)⟩:aE)]))) [] _ (amQ _ _ _ _) (aao x9 JE) ?_;rintro v am7 am3 -⟨rfl,X,rfl⟩;refine aW.mk _ (b0 (i:=j) (by omega)) ?_;exact⟨(j+1,am7),⟨⟨fq,λb o h=>QL _ _ (RH _ _ (Lx _ _ h))⟩,by simp only;omega⟩,.sub (M1:=cF g' y.w 0 y.bs++[(⟨rz,.cells ([.int .i64 av,.int .i64 0,.int .i64 s.size]:List Value).toArray 3 (0,0)⟩:aE)]) (amR _ _ _ _) (.perm (by rw[c8];exact fR (l₂:=[_])) .refl),Cn,.cons rfl (.cons rfl (.nil))⟩
 refine aZ.mk [] (⟨rz,.cells ([.int .i64 av,.int .i64 0,.int .i64 s.size]:List Value).toArray 3 (0,0)⟩::(cF g' y.w 0 y.bs++[])) _ (.refl _) (XO RG hm am4 fU rule av) ?_;rintro v aas FG -⟨rfl,sM,aaV,aaW,eH,rfl,x9,rfl⟩;refine aZ.mk (cF g' y.w 0 y.bs++(sM.aQ 110++[(⟨rz,.cells ([.int .i64 av,.int .i64 0,.int .i64 s.size]:List Value).toArray 3 (0,0)⟩:aE)])) [] _ (aaP _ _ _) (aal (Mr:=sM.aQ 110++[(⟨rz,.cells ([.int .i64 av,.int .i64 0,.int .i64 s.size]:List Value).toArray 3 (0,0)⟩:aE)]) Kd la HJ Ev tH jk rule av) ?_;rintro v am6 aaX -⟨rfl,hr,aaY,aaZ,tI,nR,rfl,zR,rfl,rT⟩;have az:=eH.oH nR;have dJ:=az.1;have c9:=az.2;clear az;subst dJ;subst c9;have pJ:=eH.Lm;refine bP.mk (λ_=>?_) (λh=>absurd h (by simp));refine aZ.whole _ (Ru x9 zR (λz a1=>by simp[a1]) (λz a1=>by simp[a1]) (by omega)) ?_;rintro v aa2 aa0 -⟨rfl,rfl,rfl⟩;refine aI.mk (λh=>by cases h) (λ_=>?_);refine aW.mk _ (b0 (i:=w) (by omega)) ?_;exact⟨(w+1,tI,aa2),⟨⟨oP,rT,λb o h=>Lx _ _ (fl _ _ h)⟩,by simp only;omega⟩,.sub (by rw[c8];exact(FJ _ _).trans (FJ _ _)) .refl,qX,.cons rfl (.cons rfl (.nil))⟩
end Go.V
