/- Part 9 of what the proofs of this seat share: the executor, data in memory, walks.
-/
import Derived.Test.YtjaibbcbjfapaaaGreatDoorK8
import Derived.Test.YtjaibbcbjfapaaaGreatDoorK6
import Derived.Test.YtjaibbcbjfapaaaGreatDoorK3
import Derived.Test.YtjaibbcbjfapaaaGreatDoorK7
import Derived.Test.YtjaibbcbjfapaaaGreatDoorK4
set_option linter.all false
set_option maxHeartbeats 16000000
set_option maxRecDepth 100000
namespace Go.V
open Go Go.Proofs
def Nl:=@Bool.and_false
variable{t bi y:bs}{T S:aP}{j n c b c' u pn pc cr b1 bH cJ dS Jn aeo f:Nat}{k:IntKind}{I I' J:aH}{M0 M:List aA}{ay p path:List Int}{w e bl pass kT rule cP:Int}{x:Nat×List Int}{a sa pa ca:Option Addr}{L:List bs}{o:Oper}{X:cN}{F:List aX}{C:de}{K:dx->aH->List aA->Prop}{s want:List UInt8}{cS aB:dH}{cs:List gK}{g:cE}{r:Int×Int}{α:Type}{fP fr:hZ}{is:Bool}{v:Value}
def asJ(h:lz t T)(a6:eT T)(ag:ji T)(f:aP->Option bj):jj t f=f T:=by unfold jj;rw[h.right a6,h.bV a6 ag];rfl
def asK(af:right t=true)(ah:j<t.ns.length){k:Int}(ae:k∈t.ns[j].ap):∃ q:Nat,k=(q:Int)/\q<t.ns.length:=by have aa:=(jd.1 af).w9 j ah k ae;obtain⟨q,rfl⟩:=eh aa.1;exact⟨q,rfl,Z⟩
def aep(af:right t=true)(ah:j<t.ns.length){k:Int}(ae:k∈t.ns[j].ap)(h:pP t k bi):lz bi (fm t.ns k)/\eT (fm t.ns k)/\ji (fm t.ns k):=by obtain⟨q,rfl,aO⟩:=asK af ah ae;have aM:=jd.1 af;exact⟨ac4 aM aO h,ac2 aM aO,ac7 aM aO⟩
def asL{d:al}(h:d.k=7\/d.k=8)(aE:Go.V.fits d n=true):n=1:=by
 rcases h with h | h
 ·unfold Go.V.fits at aE;simp[h,oE,nw,jq]at aE;omega
 ·unfold Go.V.fits at aE;simp[h,oE,nw,jq]at aE;omega
def aeq(a6:en I ay)(au:t.ok I)(aC:t.n<=1099511627776){k:Int}(ae:k=7\/k=8):Spec Tryz.prog 164 [t.val,.int .u8 k] I M0 λv I' M'=>(∀ b o,I b=some o->I' b=some o)/\M'=M0/\C6 (jj t (xj k)) v:=by
 refine bU [] a0 Tryz.func164 rfl rfl rfl ?_;intro B ax;have g7:=au.n;refine a8.mk [] M0 _ (.refl _) (nx a6.c au) ?_;rintro v J N -⟨rfl,rfl,rfl⟩;cases af:right t with
 |false=>refine b5.mk (λh=>absurd h am) (λ_=>?_);exact⟨_,_,.refl,λ_ _ h=>h,rfl,.zero,false,rfl,by simp[jj,af],λ_=>rfl⟩| true=>
 obtain⟨g0,hy⟩:=kE af;obtain⟨r,eb⟩:=eh g0;have eD:r<t.ns.length:=by omega
 obtain⟨aR,bI,bo⟩:=au.bb.row al.cL (show r<t.n by omega) eD;have bf:=au.ns _ (bK eD);have h':=Jm af eb eD;have tr:=TV (M0:=[]) a6 au af aC eb;rw[gr eD]at tr;have dp:=fun {k} (h:k∈t.ns[r].ap) {bi} (av:pP t k bi)=>aep af eD h av;have ib:=(jd.1 af).fit _ (bK eD);have e:jj t (xj k)=if t.ns[r].k=k then(match t.ns[r].ap.map (fm t.ns)with
  |c::_=>r2 c| []=>none)else none:=by
  unfold jj;rw[af,h'];rfl
 rw[e];generalize t.ns[r]=d at bo bf tr dp ib;refine b5.mk (λ_=>?_) (λh=>absurd h am);refine bt.mk aR r bI eb Z ?_;refine aU.mk _ ((bo _).part (k:=0) (m:=1) bv) ?_;refine aZ.mk (λh=>?_) (λh=>?_)
 ·have aa:¬ d.k=k:=by have:(!decide (d.k=k))=true:=h;simpa using this
  exact⟨_,_,.refl,λ_ _ h=>h,rfl,.zero,false,rfl,by rw[bS aa];rfl,λ_=>rfl⟩
 ·have aa:d.k=k:=by have:(!decide (d.k=k))=false:=h;simpa using this
  have qd:=asL Z ib;obtain⟨q,aO⟩:∃ q,d.ap=[q]:=SJ.1 qd;rw[aO]at tr;refine a8.mk [] M0 _ (.refl _) tr ?_;rintro v J N a4⟨-,rfl,a,n,c,L,rfl,dB,bZ,eG⟩;have Al:L.length=1:=bZ;obtain⟨x,rfl⟩:=SJ.1 Al;obtain⟨ab,av⟩:=eG 0 am;have av:pP t q x:=av;have nG:n=1:=by have:=dB.len;simp[bs.cells]at this;omega
  obtain⟨gn,fk,fc⟩:=dB.row (f:=bs.cells) (λ_=>rfl) (j:=0) Z am;obtain⟨fP,fr,kK⟩:=dp (by rw[aO];exact .head _) av;refine bt.mk gn 0 fk rfl Z ?_;refine aU.mk _ (fc _) ?_;refine a8.mk [] M0 _ (.refl _) (TX (t:=x) (a6.mono a4) ab) ?_;rintro v cv N -⟨cj,rfl,w,b,rfl,hw,ag⟩;subst cv;refine⟨_,_,.refl,a4,rfl,w,b,rfl,?_,ag⟩;rw[b2 aa,aO,<-hw,asJ fP fr kK];rfl
def FL(f:bj->bj->bj)(x y:bj)(b c:Bool):r3 f (bif b then some x else none) (bif c then some y else none)=bif b&&c then some (f x y)else none:=by cases b<;>cases c<;>rfl
section
variable{I:aH}{M0:List aA}{ay:List Int}(a6:en I ay){x y:bs}(ab:x.ok I)(aG:y.ok I)
include a6 ab aG
theorem asM:Spec Tryz.prog 161 [x.val,y.val] I M0 λv I' M'=>(∀ b o,I b=some o->I' b=some o)/\M'=M0/\TW (r3 bj.or (jj x vL) (jj y vL)) v:=by
 refine bU [] a0 Tryz.func161 rfl rfl rfl ?_;intro B ax;refine a8.mk [] M0 _ (.refl _) (TY a6 ab) ?_;rintro v J N -⟨a4,rfl,w,b,rfl,hw,-⟩;subst J;refine a8.mk [] M0 _ (.refl _) (TY a6 aG) ?_;rintro v J N -⟨a4,rfl,u,c,rfl,hu,-⟩;subst J;refine a8.mk [] M0 _ (.refl _) (akN w u) ?_;rintro v J N -⟨rfl,a4,rfl⟩;subst J;cases b with
 |true=>refine b5.mk (λ_=>?_) (λh=>absurd h am);exact⟨_,_,.refl,λ_ _ h=>h,rfl,w.or u,c,rfl,Do⟩| false=>refine b5.mk (λh=>absurd h am) (λ_=>?_);exact⟨_,_,.refl,λ_ _ h=>h,rfl,w.or u,false,rfl,Do⟩
theorem asN(aC:x.n<=1099511627776):Spec Tryz.prog 163 [x.val,y.val] I M0 λv I' M'=>(∀ b o,I b=some o->I' b=some o)/\M'=M0/\TW (r3 (λx y=>y.minus x) (jj x (xj 8)) (jj y r2)) v:=by
 refine bU [] a0 Tryz.func163 rfl rfl rfl ?_;intro B ax;refine a8.mk [] M0 _ (.refl _) (aeq a6 ab aC (.inr rfl)) ?_;rintro v J N a4⟨-,rfl,w,b,rfl,hw,-⟩;refine a8.mk [] M0 _ (.refl _) (TX (a6.mono a4) (aG.mono a4)) ?_;rintro v cv N -⟨cj,rfl,u,c,rfl,hu,-⟩;subst cv;refine a8.mk [] M0 _ (.refl _) (asI u w) ?_;rintro v cv N -⟨rfl,cj,rfl⟩;subst cv;cases b with
 |true=>refine b5.mk (λ_=>?_) (λh=>absurd h am);exact⟨_,_,.refl,a4,rfl,u.minus w,c,rfl,Do⟩| false=>refine b5.mk (λh=>absurd h am) (λ_=>?_);exact⟨_,_,.refl,a4,rfl,u.minus w,false,rfl,Do⟩
theorem asO(aC:x.n<=1099511627776):Spec Tryz.prog 167 [x.val,y.val] I M0 λv I' M'=>(∀ b o,I b=some o->I' b=some o)/\M'=M0/\TW (r3 bj.and (jj x (xj 7)) (jj y r2)) v:=by
 refine bU [] a0 Tryz.func167 rfl rfl rfl ?_;intro B ax;refine a8.mk [] M0 _ (.refl _) (aeq a6 ab aC (.inl rfl)) ?_;rintro v J N a4⟨-,rfl,w,b,rfl,hw,-⟩;refine a8.mk [] M0 _ (.refl _) (TX (a6.mono a4) (aG.mono a4)) ?_;rintro v cv N -⟨cj,rfl,u,c,rfl,hu,-⟩;subst cv;refine a8.mk [] M0 _ (.refl _) (akP w u) ?_;rintro v cv N -⟨rfl,cj,rfl⟩;subst cv;cases b with
 |true=>refine b5.mk (λ_=>?_) (λh=>absurd h am);exact⟨_,_,.refl,a4,rfl,w.and u,c,rfl,Do⟩| false=>refine b5.mk (λh=>absurd h am) (λ_=>?_);exact⟨_,_,.refl,a4,rfl,w.and u,false,rfl,Do⟩
end
def asP:List Value:=[.nilFunc,.func (.func 161) #[] #[],.func (.func 163) #[] #[],.func (.func 167) #[] #[]]
def FM:Spec Tryz.prog 83 [] I [] λv I' M'=>v=.agg asP.toArray/\I'=I/\M'=[]:=by refine bU [] a0 Tryz.func83 rfl rfl rfl ?_;intro B ax;exact⟨_,_,.refl,rfl,rfl,rfl⟩
def nd(w:Int)(x y:bs):Option bj:=bif right x&&right y then vM w (bV x) (bV y)else none
def TZ(f:bj->bj->bj)(p q:aP->Option bj)(x y:bs):r3 f (jj x p) (jj y q)=bif right x&&right y then r3 f (p (bV x)) (q (bV y))else none:=by
 unfold jj;cases right x<;>cases right y<;>simp[r3]
def asQ(x y:bs):nd 1 x y=r3 bj.or (jj x vL) (jj y vL):=by rw[TZ];rfl
def asR(x y:bs):nd 2 x y=r3 (λx y=>y.minus x) (jj x (xj 8)) (jj y r2):=by rw[TZ];rfl
def asS(x y:bs):nd 3 x y=r3 bj.and (jj x (xj 7)) (jj y r2):=by rw[TZ];rfl
def aer(aa:w≠1)(ad:w≠2)(aj:w≠3)(x y:bs):nd w x y=none:=by
 unfold nd vM;rw[bS aa,bS ad,bS aj];cases right x&&right y<;>rfl
def T0(a6:en I ay)(hw:0<=w){x:bs}(ab:x.ok I)(aG:y.ok I)(aC:x.n<=1099511627776):Spec Tryz.prog 18 [.int .u8 w,x.val,y.val] I M0 λv I' M'=>(∀ b o,I b=some o->I' b=some o)/\M'=M0/\C6 (nd w x y) v:=by
 refine bU [] a0 Tryz.func18 rfl rfl rfl ?_;intro B ax;have fin:∀ {J:aH} {o:Option bj} {w:bj} {b:Bool},(∀ b o,I b=some o->J b=some o)->(o=bif b then some w else none)->C6 o (.tuple #[(bif b then w else bj.zero).val,.bool b]):=by intro J o w b a4 aD;exact⟨_,b,rfl,by rw[aD];cases b<;>rfl,λe=>by rw[e];rfl⟩
 by_cases pD:w=0
 ·subst pD;refine b5.mk (λh=>absurd h am) (λ_=>?_);exact⟨_,_,.refl,λ_ _ h=>h,rfl,.zero,false,rfl,aer bv bv bv x y,λ_=>rfl⟩
 refine b5.mk (λ_=>?_) (λh=>absurd h (by simp[pD]));by_cases T1:4<=w
 ·refine aZ.mk (λ_=>?_) (λh=>absurd h (by simp[T1]));exact⟨_,_,.refl,λ_ _ h=>h,rfl,.zero,false,rfl,aer Z Z Z x y,λ_=>rfl⟩
 have cW:=asM (M0:=[]) a6 ab aG;have m2:=asN (M0:=[]) a6 ab aG aC;have wz:=asO (M0:=[]) a6 ab aG aC;rw[<-asQ]at cW;rw[<-asR]at m2;rw[<-asS]at wz;rcases(show w=1\/w=2\/w=3 by omega)with rfl | rfl | rfl
 ·generalize nd 1 x y=o at *;refine aZ.mk (λh=>absurd h am) (λ_=>?_);refine cY.Bn a0 rfl rfl rfl (ι:=Nat×bj×Bool×aH) (λz=>{ bp:=[(6,.ref 6 0),(8,.val (ptr z.1)),(9,.val (.bool z.2.2.1))],cl:=[(6,bj.zero.cells)],cO:=z.2.2.2,c5:=⟨z.1,.cells z.2.1.cells.toArray 36 (0,0)⟩::M0 }) (λz=>(∀ b o,I b=some o->z.2.2.2 b=some o)/\o=bif z.2.2.1 then some z.2.1 else none) ?_ ?_
  ·refine⟨?_,?_⟩
   ·refine ev.mk _ FM ?_;rintro v J N -⟨rfl,a4,gJ⟩;subst J;subst N;refine cw.mk 1 rfl bv ?_;refine⟨?_,?_⟩
    ·refine a8.mk [] M0 _ (.refl _) cW ?_;rintro v J N a4⟨-,rfl,s,b,rfl,aD⟩;refine bQ.mk λdL sL vK=>?_;refine b4.mk [] M0 _ _ rfl rfl (bJ rfl) rfl ?_;exact⟨(dL,s,b,J),⟨a4,aD⟩,.refl,fQ,.cons rfl (.nil)⟩
    ·refine bQ.mk λdL sL vK=>?_;refine ev.mk _ cW ?_;rintro v J N a4⟨-,rfl,s,b,rfl,aD⟩;refine b4.mk [] M0 _ _ rfl rfl (bJ rfl) rfl ?_;exact⟨(dL,s,b,J),⟨a4,aD⟩,.refl,fQ,.cons rfl (.nil)⟩
   ·refine bQ.mk λdL sL vK=>?_;refine ev.mk _ FM ?_;rintro v J N -⟨rfl,a4,gJ⟩;subst J;subst N;refine cw.mk 1 rfl bv ?_;refine ev.mk _ cW ?_;rintro v J N a4⟨-,rfl,s,b,rfl,aD⟩;refine b4.mk [] M0 _ _ rfl rfl (bJ rfl) rfl ?_;exact⟨(dL,s,b,J),⟨a4,aD⟩,.refl,fQ,.cons rfl (.nil)⟩
  rintro⟨dL,s,b,J⟩⟨a4,aD⟩;simp only at a4 aD;refine aZ.mk (λh=>?_) (λh=>?_)
  ·have ag:b=false:=by simpa using h
   exact⟨_,_,.sub (wj _ _) .refl,a4,rfl,.zero,false,rfl,by rw[aD,ag];rfl,λ_=>rfl⟩
  ·have ag:b=true:=by simpa using h
   refine aU.mk s.cells ⟨rfl,_,_,_,.inr ⟨_,.head _,rfl,rfl⟩,rfl,rfl⟩ ?_;exact⟨_,_,.sub (wj _ _) .refl,a4,rfl,s,true,rfl,by rw[aD,ag],λh=>ci⟩
 ·generalize nd 2 x y=o at *;refine aZ.mk (λh=>absurd h am) (λ_=>?_);refine cY.Bn a0 rfl rfl rfl (ι:=Nat×bj×Bool×aH) (λz=>{ bp:=[(6,.ref 6 0),(8,.val (ptr z.1)),(9,.val (.bool z.2.2.1))],cl:=[(6,bj.zero.cells)],cO:=z.2.2.2,c5:=⟨z.1,.cells z.2.1.cells.toArray 36 (0,0)⟩::M0 }) (λz=>(∀ b o,I b=some o->z.2.2.2 b=some o)/\o=bif z.2.2.1 then some z.2.1 else none) ?_ ?_
  ·refine⟨?_,?_⟩
   ·refine ev.mk _ FM ?_;rintro v J N -⟨rfl,a4,gJ⟩;subst J;subst N;refine cw.mk 2 rfl bv ?_;refine⟨?_,?_⟩
    ·refine a8.mk [] M0 _ (.refl _) m2 ?_;rintro v J N a4⟨-,rfl,s,b,rfl,aD⟩;refine bQ.mk λdL sL vK=>?_;refine b4.mk [] M0 _ _ rfl rfl (bJ rfl) rfl ?_;exact⟨(dL,s,b,J),⟨a4,aD⟩,.refl,fQ,.cons rfl (.nil)⟩
    ·refine bQ.mk λdL sL vK=>?_;refine ev.mk _ m2 ?_;rintro v J N a4⟨-,rfl,s,b,rfl,aD⟩;refine b4.mk [] M0 _ _ rfl rfl (bJ rfl) rfl ?_;exact⟨(dL,s,b,J),⟨a4,aD⟩,.refl,fQ,.cons rfl (.nil)⟩
   ·refine bQ.mk λdL sL vK=>?_;refine ev.mk _ FM ?_;rintro v J N -⟨rfl,a4,gJ⟩;subst J;subst N;refine cw.mk 2 rfl bv ?_;refine ev.mk _ m2 ?_;rintro v J N a4⟨-,rfl,s,b,rfl,aD⟩;refine b4.mk [] M0 _ _ rfl rfl (bJ rfl) rfl ?_;exact⟨(dL,s,b,J),⟨a4,aD⟩,.refl,fQ,.cons rfl (.nil)⟩
  rintro⟨dL,s,b,J⟩⟨a4,aD⟩;simp only at a4 aD;refine aZ.mk (λh=>?_) (λh=>?_)
  ·have ag:b=false:=by simpa using h
   exact⟨_,_,.sub (wj _ _) .refl,a4,rfl,.zero,false,rfl,by rw[aD,ag];rfl,λ_=>rfl⟩
  ·have ag:b=true:=by simpa using h
   refine aU.mk s.cells ⟨rfl,_,_,_,.inr ⟨_,.head _,rfl,rfl⟩,rfl,rfl⟩ ?_;exact⟨_,_,.sub (wj _ _) .refl,a4,rfl,s,true,rfl,by rw[aD,ag],λh=>ci⟩
 ·generalize nd 3 x y=o at *;refine aZ.mk (λh=>absurd h am) (λ_=>?_);refine cY.Bn a0 rfl rfl rfl (ι:=Nat×bj×Bool×aH) (λz=>{ bp:=[(6,.ref 6 0),(8,.val (ptr z.1)),(9,.val (.bool z.2.2.1))],cl:=[(6,bj.zero.cells)],cO:=z.2.2.2,c5:=⟨z.1,.cells z.2.1.cells.toArray 36 (0,0)⟩::M0 }) (λz=>(∀ b o,I b=some o->z.2.2.2 b=some o)/\o=bif z.2.2.1 then some z.2.1 else none) ?_ ?_
  ·refine⟨?_,?_⟩
   ·refine ev.mk _ FM ?_;rintro v J N -⟨rfl,a4,gJ⟩;subst J;subst N;refine cw.mk 3 rfl bv ?_;refine⟨?_,?_⟩
    ·refine a8.mk [] M0 _ (.refl _) wz ?_;rintro v J N a4⟨-,rfl,s,b,rfl,aD⟩;refine bQ.mk λdL sL vK=>?_;refine b4.mk [] M0 _ _ rfl rfl (bJ rfl) rfl ?_;exact⟨(dL,s,b,J),⟨a4,aD⟩,.refl,fQ,.cons rfl (.nil)⟩
    ·refine bQ.mk λdL sL vK=>?_;refine ev.mk _ wz ?_;rintro v J N a4⟨-,rfl,s,b,rfl,aD⟩;refine b4.mk [] M0 _ _ rfl rfl (bJ rfl) rfl ?_;exact⟨(dL,s,b,J),⟨a4,aD⟩,.refl,fQ,.cons rfl (.nil)⟩
   ·refine bQ.mk λdL sL vK=>?_;refine ev.mk _ FM ?_;rintro v J N -⟨rfl,a4,gJ⟩;subst J;subst N;refine cw.mk 3 rfl bv ?_;refine ev.mk _ wz ?_;rintro v J N a4⟨-,rfl,s,b,rfl,aD⟩;refine b4.mk [] M0 _ _ rfl rfl (bJ rfl) rfl ?_;exact⟨(dL,s,b,J),⟨a4,aD⟩,.refl,fQ,.cons rfl (.nil)⟩
  rintro⟨dL,s,b,J⟩⟨a4,aD⟩;simp only at a4 aD;refine aZ.mk (λh=>?_) (λh=>?_)
  ·have ag:b=false:=by simpa using h
   exact⟨_,_,.sub (wj _ _) .refl,a4,rfl,.zero,false,rfl,by rw[aD,ag];rfl,λ_=>rfl⟩
  ·have ag:b=true:=by simpa using h
   refine aU.mk s.cells ⟨rfl,_,_,_,.inr ⟨_,.head _,rfl,rfl⟩,rfl,rfl⟩ ?_;exact⟨_,_,.sub (wj _ _) .refl,a4,rfl,s,true,rfl,by rw[aD,ag],λh=>ci⟩
structure vO(I:aH)(a:Option Addr)(c:Nat)(L:List bs):Prop where
 bb:cx I a L.length c 2 32 (L.flatMap bs.cells)
 ok:∀ t∈L,t.ok I/\right t=true
 n:(L.map (·.n)).sum<=549755813887
 l:L.length<=1099511627776
def asT(h:right t=true):tG t=(bV t).post:=by obtain⟨g0,hy⟩:=kE h;obtain⟨r,eb⟩:=eh g0;unfold tG bV;rw[eb];exact ac3 (jd.1 h) Z
def Nm(h:right t=true):eT (bV t)/\ji (bV t):=by obtain⟨g0,hy⟩:=kE h;obtain⟨r,eb⟩:=eh g0;unfold bV;rw[eb];exact⟨ac2 (jd.1 h) Z,ac7 (jd.1 h) Z⟩
def aes:∀ L:List bs,(∀ t∈L,right t=true/\t.ns.length=t.n)->((L.map bV).map dG).sum<=(L.map (·.n)).sum
 |[],_=>cc _| t::L,h=>by have aa:=aes L λt au=>h t (.tail _ au);obtain⟨ad,aj⟩:=h t (.head _);have aJ:=C5 ad;simp only[b0,hr];omega
def aet(a6:en I ay){d:al}(ai:d.ok I)(ag:d.bare=d)(bZ:vO I a c L)(aE:Go.V.fits d L.length=true) :
  Spec Tryz.prog 106 [d.val,.slice a L.length c] I M0 (oo (some (aP.mk d (L.map bV)).lA) I M0):=by
 refine bU [] a0 Tryz.func106 rfl rfl rfl ?_;intro B ax;have IA:=bZ.n;refine a8.mk [] M0 _ (.refl _) (ao9 a6 ai bZ.bb bZ.ok Z bZ.l aE) ?_;rintro v J N a4⟨-,rfl,bi,rfl,jw,pB,ej⟩;refine aZ.mk (λh=>ci) (λ_=>?_);have T2:eT (aP.mk d (L.map bV)):=.mk (by rw[bB];exact aE) λx ab=>by obtain⟨t,au,rfl⟩:=c3.1 ab;exact(Nm (bZ.ok t au).2).1
 have yR:ji (aP.mk d (L.map bV)):=.mk ag λx ab=>by obtain⟨t,au,rfl⟩:=c3.1 ab;exact(Nm (bZ.ok t au).2).2
 have dp:lz bi (aP.mk d (L.map bV)):=by refine⟨?_,pB⟩;rw[ej,aP.kN,gj];congr 1;exact fR λt au=>asT (bZ.ok t au).2
 have fB:=dp.right T2;have h':=dp.bV T2 yR;have zc:bi.n<=1099511627776:=by have aa:=congrArg List.length dp.aW;rw[bB,FK,lD]at aa;have ad:=aes L λt au=>⟨(bZ.ok t au).2,(bZ.ok t au).1.n⟩;have aj:=jw.n;omega
 refine a8.mk [] M0 _ (.refl _) (M3 (M0:=[]) (a6.mono a4) jw fB zc) ?_;rintro v cv N cj⟨-,rfl,t2,rfl,nH,AR⟩;refine⟨_,_,.refl,λb o h=>cj _ _ (a4 _ _ h),rfl,t2,rfl,nH,?_,C0 T2,I9 _⟩;rw[<-h'];exact AR
def oo.aeu{d:al}(bE:∀ b o,I b=some o->I' b=some o)(au:t.ok I')(aa:t.ns=[d])(ad:t.bx=0)(ag:d.bare=d)(aE:Go.V.fits d 0=true):oo (some (.mk d [])) I M0 (.tuple #[t.val,.bool true]) I' M0:=by
 have bf:eT (.mk d []):=.mk aE λc ao=>by cases ao
 refine⟨bE,rfl,t,rfl,au,⟨?_,?_⟩,bf,.mk ag λc ao=>by cases ao⟩
 ·rw[aa,aP.kN];show [d.aW]=[d.dX []];have:d.aW=d.bare:=by rw[<-ag];rfl
  rw[this];rfl
 ·rw[aa,ad];rfl
def asU(a6:en I ay)(bZ:vO I a c L) :
  Spec Tryz.prog 33 [.slice a L.length c] I M0 (oo (some (qU 4 (L.map bV))) I M0):=by
 refine bU [] a0 Tryz.func33 rfl rfl rfl ?_;intro B ax
 match L,bZ with
 |[],bZ=>refine aZ.mk (λ_=>?_) (λh=>absurd h am);refine a8.mk [] M0 _ (.refl _) ajm ?_;rintro v J N a4⟨-,t,rfl,au,aa,ad,rfl⟩;exact⟨_,_,.refl,oo.aeu (d:=nothing 0) a4 au aa ad rfl (by simp[Go.V.fits,nothing,oE,nw,jq,al.kC])⟩
 |[x],bZ=>
  refine aZ.mk (λh=>absurd h am) (λ_=>?_);refine aZ.mk (λ_=>?_) (λh=>absurd h am);obtain⟨aR,bI,bo⟩:=bZ.bb.row (f:=bs.cells) (λ_=>rfl) (j:=0) am am;obtain⟨ab,af⟩:=bZ.ok x (.head _);have aC:=bZ.n;have aC:x.n<=549755813887:=by simpa using aC
  refine bt.mk aR 0 bI rfl am ?_;refine aU.mk _ (bo _) ?_;refine a8.mk [] M0 _ (.refl _) (M3 (M0:=[]) (t:=x) a6 ab af Z) ?_;rintro v cv N cj⟨-,rfl,t2,rfl,nH,AR⟩;exact⟨_,_,.refl,cj,rfl,t2,rfl,nH,AR,C0 (Nm af).1,I9 _⟩
 |x::y::L,bZ=>have AS:=aet (M0:=[]) a6 (MN I (k:=4) bv) rfl bZ (Ng (.inl rfl) am);refine aZ.mk (λh=>absurd h d4) (λ_=>?_);refine aZ.mk (λh=>absurd h d4) (λ_=>?_);refine a8.mk [] M0 _ (.refl _) AS ?_;rintro v cv N cj⟨-,rfl,t2,rfl,aj⟩;exact⟨_,_,.refl,cj,rfl,t2,rfl,aj⟩
def asV(a6:en I ay)(bZ:vO I a c L) :
  Spec Tryz.prog 34 [.slice a L.length c] I M0 (oo (some (qU 5 (L.map bV))) I M0):=by
 refine bU [] a0 Tryz.func34 rfl rfl rfl ?_;intro B ax
 match L,bZ with
 |[],bZ=>refine aZ.mk (λ_=>?_) (λh=>absurd h am);refine a8.mk [] M0 _ (.refl _) (abu (a:=0) (b:=0) (c:=0) (d:=0) ax' ax' ax' ax') ?_;rintro v J N a4⟨-,t,rfl,au,aa,ad,rfl⟩;exact⟨_,_,.refl,oo.aeu (d:=nothing 1) a4 au aa ad rfl (by simp[Go.V.fits,nothing,oE,nw,jq])⟩
 |[x],bZ=>
  refine aZ.mk (λh=>absurd h am) (λ_=>?_);refine aZ.mk (λ_=>?_) (λh=>absurd h am);obtain⟨aR,bI,bo⟩:=bZ.bb.row (f:=bs.cells) (λ_=>rfl) (j:=0) am am;obtain⟨ab,af⟩:=bZ.ok x (.head _);have aC:=bZ.n;have aC:x.n<=549755813887:=by simpa using aC
  refine bt.mk aR 0 bI rfl am ?_;refine aU.mk _ (bo _) ?_;refine a8.mk [] M0 _ (.refl _) (M3 (M0:=[]) (t:=x) a6 ab af Z) ?_;rintro v cv N cj⟨-,rfl,t2,rfl,nH,AR⟩;exact⟨_,_,.refl,cj,rfl,t2,rfl,nH,AR,C0 (Nm af).1,I9 _⟩
 |x::y::L,bZ=>have AS:=aet (M0:=[]) a6 (MN I (k:=5) bv) rfl bZ (Ng (.inr rfl) am);refine aZ.mk (λh=>absurd h d4) (λ_=>?_);refine aZ.mk (λh=>absurd h d4) (λ_=>?_);refine a8.mk [] M0 _ (.refl _) AS ?_;rintro v cv N cj⟨-,rfl,t2,rfl,aj⟩;exact⟨_,_,.refl,cj,rfl,t2,rfl,aj⟩
namespace aP
mutual
def paths:aP->List (List Int)
 |mk _ ks=>[]::vP 0 ks
def vP:Nat->List aP->List (List Int)
 |_,[]=>[]| i,c::cs=>c.paths.map (λp=>(i:Int)::p)++vP (i+1) cs
end
def Jo(d:al)(ks:List aP):(mk d ks).paths=[]::vP 0 ks:=by rw[paths]
def T3(i:Nat)(c:aP)(cs:List aP):vP i (c::cs)=c.paths.map (λp=>(i:Int)::p)++vP (i+1) cs:=by rw[vP]
def T4(i:Nat):vP i []=[]:=by rw[vP]
def aev(T:aP):0<T.paths.length:=by
 cases T with
 |mk d ks=>rw[Jo];simp
end aP
def hR(l:List Int):List Value:=l.map (.int .i64 ·)
def asW(I:aH)(p:List Int)(v:Value):Prop:=∃ a c,v=.slice a p.length c/\cx I a p.length c 1 8 (hR p)/\(p.length=0->a=none)
def T5{o:Obj}(h:c≠b):ins I b o c=I c:=by unfold ins;rw[hF h];rfl
def aew(t:bs)(k:Int)(a:Option Addr)(n c:Nat):Spec Tryz.prog 138 [t.val,.int .i64 k,.slice a n c] I [] λr I' M'=>∃ b1 bH cJ,r=.func (.func 213) #[] #[ptr b1,ptr bH,ptr cJ]/\I' b1=some (.cells #[.slice a n c] 42 (0,0))/\I' bH=some (.cells #[.slice t.a t.n t.c,.int .i64 t.bx] 24 (0,0))/\I' cJ=some (.cells #[.int .i64 k] 3 (0,0))/\(∀ b o,I b=some o->I' b=some o)/\M'=[]:=by
 refine bU [3,4,5] a0 Tryz.func138 rfl rfl rfl ?_;intro B ax;refine bQ.mk λcJ wT FN=>?_;refine bQ.mk λdS z' sS=>?_;refine bQ.mk λdR BW MJ=>?_;have asX:cJ≠dS:=sS _ (.head _);have asY:dS≠dR:=MJ _ (.head _);have asZ:cJ≠dR:=MJ _ (.tail _ (.head _));have aJ:ins I dR (.cells #[.slice a n c] 42 (0,0)) dS=none:=by rw[T5 asY];exact z'
 have aj:ins (ins I dR (.cells #[.slice a n c] 42 (0,0))) dS (.cells #[.int .i64 k] 3 (0,0)) cJ=none:=by rw[T5 asX,T5 asZ];exact wT
 refine⟨_,_,.kZ rfl am (.kZ rfl am (.kZ rfl am .refl)),dR,cJ,dS,rfl,?_,mg ..,?_,λb o h=>j0 aj _ _ (j0 aJ _ _ (j0 BW _ _ h)),rfl⟩
 ·exact j0 aj _ _ (j0 aJ _ _ (mg ..))
 ·exact j0 aj _ _ (mg ..)
def as0(a9:List Int)(T:aP)(j:Nat)(vs:List Value)(I:aH):Prop:=∃ p v,T.paths[j]?=some p/\vs=[v]/\asW I (a9++p) v
def kv.as1{F:Fr}(aL:cU X.P X.E){s x:Operand}{t:Nat}(aD:o.op=.call { callee:=.builtin .append,args:=#[s,x],argTypes:=#[t,t] })
  {e:Nat} (au:X.E t=some cS) (dt:cS.bL=.slice e) (he:X.E e=some aB) (ke:aB.size=1)
 (af:cx I a n c 1 8 (hR p)) (ax:n=0->a=none) (av:bG F s=.val (.slice (if n=0 then a else a.map (·.add (0*1))) (n-0) (n-0)))
  {b9:Nat} {cs:List Value} (ab:bG F x=.val (.slice (some ⟨b9,0,none⟩) 1 c')) (az:cs.length=aB.size) (aa:fH cs=true)
  (bc:(⟨b9,.cells cs.toArray e (0,0)⟩:aA)∈M) (b1:n+1<=9223372036854775807) (bH:(n+1)*aB.bytes<=140737488355328)
  (k:∀ bq:aT,bq.n=n+1->(∀ g,bq.a=some g->I g=none/\g ∉ X.foot)->bq.ok 1 (hR p++cs)->K (.val bq.val) I (bq.ar e++M)):kv X o F C I M K:=by
 have pk:=af.len;have aex:c6 I M ⟨b9,0,none⟩ (1*aB.size) cs:=by rw[nt];refine⟨rfl,_,_,_,.inr ⟨⟨b9,.cells cs.toArray e (0,0)⟩,bc,rfl,rfl⟩,?_,az⟩;simp only[tl];exact fD Z
 by_cases aC:n=0
 ·subst aC;have aI:hR p=[]:=im Z;rw[aI]at k;rw[ax rfl]at av;refine .acR aL aD au dt he hL (xs:=[]) (kL _) (av.trans rfl) ab bv aex aa (Mr:=M) (.refl _) t7 bH _ (λ_=>.refl _) λbq ad aj aJ=>k bq ad (λg aw=>⟨(aj g aw).1,(aj g aw).2 rfl⟩) (by rw[ke]at aJ;exact aJ)
 ·rcases af.rd with h | ⟨aR,bI,di,Pv,T,an,bE,ak⟩
  ·exact absurd h aC
  rw[bS aC,bI]at av;refine .asG aL aD au dt he (sa:=aR.add (0*1)) (n:=n) (xs:=hR p) (av.trans rfl) ?_ ab bv aex t7 bH _ (λ_=>.refl _) λbq ad aj aJ=>k bq ad aj (by rw[ke]at aJ;exact aJ);rw[ke];exact⟨di,Pv,T,an,.inl bE,by simpa[Addr.add]using ak,pk⟩
def aey{t:bs}(af:right t=true)(g7:t.n<=1099511627776):∀ (m k:Nat),k<m->(ae:k<t.ns.length)->∀ {I:aH} (au:t.ok I) {a9:List Int} {a:Option Addr} {n c:Nat} (rr:a9.length=n) (cQ:n+k<=1099511627776) (Nn:cx I a n c 1 8 (hR a9)) (gx:n=0->a=none) {b1 bH cJ:Nat} (ia:I b1=some (.cells #[.slice a n c] 42 (0,0))) (il:I bH=some (.cells #[.slice t.a t.n t.c,.int .i64 t.bx] 24 (0,0))) (wT:I cJ=some (.cells #[.int .i64 (k:Int)] 3 (0,0))),Vx Tryz.prog 213 [ptr b1,ptr bH,ptr cJ] I (fm t.ns k).paths.length (as0 a9 (fm t.ns k))
 |0,k,h,_,_,_,_,_,_,_,_,_,_,_,_,_,_,_,_,_=>absurd h (m6 _)
 |m+1,k,Mz,ae,I,au,a9,a,n,c,rr,cQ,Nn,gx,b1,bH,cJ,ia,il,wT=>by
  intro y R k7 uK rq dA M0 nB h9;have TB:=au.n;refine Bf [4] a0 Tryz.func213 rfl rfl rfl ?_;intro B ax;have C7:∀ (I1:aH) (M:List aA),(∀ b o,I b=some o->I1 b=some o)->c6 I1 M ⟨b1,0,none⟩ 1 [.slice a n c]:=λI1 M c8=>⟨rfl,_,_,_,.inl (c8 _ _ ia),rfl,rfl⟩;have yN:∀ (I1:aH) (M:List aA),(∀ b o,I b=some o->I1 b=some o)->c6 I1 M ⟨bH,0,none⟩ 2 [.slice t.a t.n t.c,.int .i64 t.bx]:=λI1 M c8=>⟨rfl,_,_,_,.inl (c8 _ _ il),rfl,rfl⟩;have as2:∀ (I1:aH) (M:List aA),(∀ b o,I b=some o->I1 b=some o)->c6 I1 M ((⟨bH,0,none⟩:Addr).add 0) 1 [.slice t.a t.n t.c]:=λI1 M c8=>⟨rfl,_,_,_,.inl (c8 _ _ il),rfl,rfl⟩;have MV:∀ (I1:aH) (M:List aA),(∀ b o,I b=some o->I1 b=some o)->c6 I1 M ⟨cJ,0,none⟩ 1 [.int .i64 (k:Int)]:=λI1 M c8=>⟨rfl,_,_,_,.inl (c8 _ _ wT),rfl,rfl⟩;have a6:=yP af ae;have lK:=aP.aev (fm t.ns k);have as3:(fm t.ns k).paths[0]?=some []:=by rw[a6,aP.Jo];rfl
  refine bQ.mk λdS z' sS=>?_;refine aU.mk [.func (.yield y) #[] #[]] (dm (cs:=[.func (.yield y) #[] #[]]) (k:=0) (n:=1) (.head _) am) ?_;refine aU.mk _ (C7 _ _ nB) ?_;refine bC.yield rfl am rfl rfl ?_;have aG:=rq 0 lK [.slice a n c] dA M0 nB ⟨[],_,as3,rfl,a,c,by rw[dK,rr],by rw[dK,rr];exact Nn.mono nB,by rw[dK,rr];exact gx⟩ h9;refine Br.mk M0 [_] _ (O6 _ _).symm aG ?_;rintro v ew dv gq (⟨rfl,mQ⟩ | ⟨rfl,ab⟩)
  rotate_left
  ·refine aZ.mk (λ_=>?_) (λh=>d7);exact⟨_,_,.sub (w6 _ _) .refl,.inr ab⟩
  refine aZ.mk (λh=>d7) (λ_=>?_);have FO:∀ b o,I b=some o->ew b=some o:=λb o h=>gq _ _ (nB _ _ h);obtain⟨aR,bI,as4⟩:=au.bb.row al.cL (j:=k) Z ae;have gm:=au.ns _ (bK ae);have fh:=gm.aF;have pN:=gm.bb.cap;refine aU.mk _ (as2 _ _ FO) ?_;refine aU.mk _ (MV _ _ FO) ?_;refine bt.mk aR k bI rfl Z ?_;refine aU.mk _ (((as4 _).mono FO).part (k:=8) (m:=1) bv) ?_;have C8:dS ∉ M0.map (·.num):=λhm=>by obtain⟨x,ab,e⟩:=c3.1 hm;exact sS x ab e
  refine du.uD (ι:=Nat×Nat×aH×List aA) (λx=>{ bp:=[(1,.val (ptr b1)),(2,.val (ptr bH)),(3,.val (ptr cJ)),(4,.val (ptr dS)),(17,.val (.slice t.ns[k].ca t.ns[k].aF t.ns[k].cr)),(18,.val (.int .i64 t.ns[k].aF)),(19,.val (.int .i64 (x.1:Int)))],cO:=x.2.2.1,c5:=x.2.2.2 }) (λx=>x.1<=t.ns[k].aF/\(∀ b o,I b=some o->x.2.2.1 b=some o)/\x.2.2.1 dS=some (.cells #[.func (.yield y) #[] #[]] 227 (0,0))/\R x.2.1 x.2.2.1 x.2.2.2/\x.2.1<=(fm t.ns k).paths.length/\(fm t.ns k).paths.drop x.2.1=aP.vP x.1 ((t.ns[k].ap.map (fm t.ns)).drop x.1)) (λx=>t.ns[k].aF-x.1) ?_ ?_;·intro eY;have aez:ew dS=none:=eY.d _ (r6 _ (.head _));refine⟨(0,1,ins ew dS _,dv),⟨dQ _,λb o h=>j0 aez _ _ (FO _ _ h),mg ..,uK _ _ _ _ (j0 aez) mQ,ce,?_⟩,.perm (O6 _ _) (.kZ rfl C8 .refl),q6,.nil⟩;simp only[tl];rw[a6,aP.Jo];rfl
  rintro⟨i,vx,J,M1⟩⟨hi,a4,lC,hU,E1,kS⟩;simp only at hi a4 lC hU E1 kS;refine aZ.mk (λh=>?_) (λh=>?_)
  rotate_left
  ·have cV:¬ (i:Int)<(t.ns[k].aF:Int):=dU h;have aK:(t.ns[k].ap.map (fm t.ns)).drop i=[]:=mc al';rw[aK,aP.T4,GA]at kS;have:vx=(fm t.ns k).paths.length:=by omega
   subst this;exact⟨_,_,.refl,.inl hU⟩
  have a1:i<t.ns[k].aF:=by have:(i:Int)<(t.ns[k].aF:Int):=cT h;omega
  have cI:i<t.ns[k].ap.length:=by omega
  obtain⟨ac,as5,E0⟩:=gm.bb.one a1 cI;have vv:=lb af k ae _ (bK cI);obtain⟨q,aO⟩:=eh vv.1;have ayn:q<k:=by omega
  rw[aO]at E0;have Fx:(t.ns[k].ap.map (fm t.ns)).drop i=fm t.ns q::(t.ns[k].ap.map (fm t.ns)).drop (i+1):=by rw[e2 (by rw[bB];exact cI),gh,aO]
  rw[Fx,aP.T3]at kS;refine bt.mk ac i as5 rfl a1 ?_;refine aU.mk _ ((E0 _).mono a4) ?_;refine cY.Oq (λi=>Nat.beq i 0) a0 rfl rfl rfl ?_;refine aU.mk _ (yN _ _ a4) ?_;refine aU.mk _ (C7 _ _ a4) ?_;refine aU.mk _ (C7 _ _ a4) ?_;refine aU.mk _ (C7 _ _ a4) ?_;refine NR.mk n n rfl rfl (cc _) Nn.cap.1 ?_;refine bQ.mk λb9 mU ue=>?_;intro G g3;refine kv.as1 a0 rfl (e:=3) rfl rfl rfl rfl (Nn.mono a4) gx (MI (g3 _ d8) rfl) (b9:=b9) (cs:=[.int .i64 (i:Int)]) (MI (g3 _ d8) rfl) rfl rfl (.head _) Z (by show(n+1)*8<=_;omega) ?_;intro os Fp aci b3;refine a8.Dg [] _ _ (.refl _) (aew t q (os.a.map λg=>⟨g,0,none⟩) os.n os.c) ?_;rintro v cv oB cj v3⟨fP,fr,kK,rfl,yo,vm,FP,-,rfl⟩;have aeA:∀ b o,I b=some o->cv b=some o:=λb o h=>cj _ _ (a4 _ _ h);have C9:∀ b o,cv b=some o->l2 cv os 3 b=some o:=FI (M:=[]) λx ab=>v3 x (by
   simp only[dK]at ab;simp[ab])
  have hY:∀ b o,I b=some o->l2 cv os 3 b=some o:=λb o h=>C9 _ _ (aeA _ _ h);have as6:hR a9++[.int .i64 (i:Int)]=hR (a9++[(i:Int)]):=by simp[hR]
  rw[as6]at b3;have as7:(a9++[(i:Int)]).length=os.n:=by rw[cn,oV];omega
  have uJ:=aey af g7 m q Z Z (au.mono hY) (a9:=a9++[(i:Int)]) (a:=os.a.map λg=>⟨g,0,none⟩) (n:=os.n) (c:=os.c) as7 Z (Nc b3 Z) (λh=>Z) (C9 _ _ yo) (C9 _ _ vm) (C9 _ _ FP);refine cY.GF (A:=tm) tm.cons a0 rfl rfl rfl (I1:=l2 cv os 3) (M1:=M1) (.sub ((wj _ _).append_left _) (Nb λg aw=>(aci g aw).2)) uJ (λk vs I h aO=>by
    obtain⟨p,v,-,rfl,-⟩:=aO;rfl) (λj I M=>R (vx+j) I M) (λex I M=>ex=.ret/\k7 I M) (λk I I' M h aM=>uK _ _ _ _ h aM) (uK _ _ _ _ (λb o h=>C9 _ _ (cj _ _ h)) hU) ?_ ?_ ?_
  ·rintro j ah vs I' M' gf⟨p,v,aI,rfl,CD⟩rc l B ax iC;refine aU.mk [.func (.yield y) #[] #[]] ⟨rfl,_,_,_,.inl (gf _ _ (C9 _ _ (cj _ _ lC))),rfl,rfl⟩ ?_;refine bC.yield rfl am rfl rfl ?_;have eS:(fm t.ns k).paths[vx+j]?=some ((i:Int)::p):=by rw[<-oq,kS,sr (by rw[bB];exact ah),jJ,aI];rfl
   have adK:=(iP.1 eS).1;have aG:=rq (vx+j) adK [v] I' M' (λb o h=>gf _ _ (hY _ _ h)) ⟨_,v,eS,rfl,by rw[dW,qy]at CD;exact CD⟩ rc;refine Br.mk M' [] _ am aG ?_;rintro w k8 rj mi (⟨rfl,h⟩ | ⟨rfl,h⟩);·refine aZ.mk (λh=>d7) (λ_=>?_);exact⟨_,_,.perm am .refl,h⟩
   ·refine aZ.mk (λ_=>?_) (λh=>d7);exact⟨_,_,.perm am .refl,rfl,h⟩
  ·intro I' M' gf rc;refine be.mk _ (c9 (i:=i) Z) ?_;intro _;refine⟨(i+1,vx+(fm t.ns q).paths.length,I',M'),⟨⟨a1,λb o h=>gf _ _ (hY _ _ h),gf _ _ (C9 _ _ (cj _ _ lC)),rc,?_,?_⟩,ce⟩,.refl,q6,.nil⟩
   ·have:=congrArg List.length kS;rw[py,cn,bB]at this;have:=(fm t.ns q).aev;simp only;omega
   ·simp only;rw[<-Dz,kS,GB (by rw[bB])]
  ·rintro ex I' M' gf⟨rfl,h⟩;exact⟨am,_,_,.refl,.inr h⟩
structure jk where
 rule:Nat
 path:List Int
 a:Option Addr
 c:Nat
def jk.cells(x:jk):List Value:=[.int .i64 x.rule,.slice x.a x.path.length x.c]
def jk.cL(x:jk):x.cells.length=2:=rfl
structure jk.ok(I:aH)(x:jk):Prop where
 bb:cx I x.a x.path.length x.c 1 8 (hR x.path)
def jk.ok.mono{x:jk}(h:x.ok I)(bE:∀ b o,I b=some o->I' b=some o):x.ok I':=⟨h.bb.mono bE⟩
def jk.nf(x:jk):Nat×List Int:=(x.rule,x.path)
def kU:Nat->List a3->List (Nat×List Int)
 |_,[]=>[]| i,d::ds=>(bV d.t).paths.map (λp=>(i,p))++kU (i+1) ds
def T6:∀ (ds:List a3) (d:a3) (i:Nat),kU i (ds++[d])=kU i ds++(bV d.t).paths.map (λp=>(i+ds.length,p))
 |[],d,i=>by simp[kU]
 |e::ds,d,i=>by rw[pz,kU,kU,T6 ds d (i+1),dW,ep,show i+1+ds.length=i+(ds.length+1) by omega]
def as8(l:List aN):(l.flatMap aN.cX).length=(l.map λc=>c.cX.length).sum:=by rw[x']
def aeB:∀ (i:Nat) (l:List aP),(aP.vP i l).length=(l.map λc=>c.paths.length).sum
 |_,[]=>by rw[aP.T4];rfl
 |i,c::l=>by rw[aP.T3,cn,bB,aeB (i+1) l];rfl
def as9(ns:List al):∀ T:aN,(T.bare ns).paths.length=T.cX.length:=by
 intro T
 induction T using aN.ind with
 |h k ks aQ=>rw[aN.nc,aP.Jo,aN.mw,ep,aeB,cn,as8,gj,oV];congr 2;exact fR λc ao=>aQ c ao
def ata(h:g8 t):(bV t).paths.length<=t.ns.length:=by obtain⟨T,aa,ad,aj,aJ,bD⟩:=h.FJ;rw[aj,as9];exact bD
def No:∀ (ds:List a3) (i:Nat),(∀ d∈ds,right d.t=true)->(kU i ds).length<=(ds.map λd=>d.t.ns.length).sum
 |[],_,_=>cc _| d::ds,i,h=>by have aa:=ata (jd.1 (h d (.head _)));have ad:=No ds (i+1) λe he=>h e (.tail _ he);rw[kU,cn,bB,b0,hr];omega
def atb(ds:List a3)(n:Nat):((ds.take n).map λd=>d.t.ns.length).sum<=(ds.map λd=>d.t.ns.length).sum:=by
 conv=>rhs;rw[<-px n ds,cR,pG]
 omega
def atc(a6:en I ay)(aw:g.ok I)(ag:(g.ds.map λd=>d.t.ns.length).sum<=1048576):Spec Tryz.prog 65 [g.val] I [] λv I' M'=>(∀ b o,I b=some o->I' b=some o) /\
  ∃ (os:aT) (L:List jk),v=os.val/\os.ok 2 (L.flatMap jk.cells)/\(∀ x∈L,x.ok I')/\M'=os.ar 84/\L.map jk.nf=if dO ay g=0 then kU 0 g.ds else []:=by
 refine bU [3,4] a0 Tryz.func65 rfl rfl rfl ?_;intro B ax;have ic:=aw.n;have hk:=aw.bb.cap;refine a8.mk [] [] _ (.refl _) (W3 a6 aw) ?_;rintro v J N -⟨rfl,a4,rfl⟩;refine aZ.mk (λh=>?_) (λh=>?_)
 ·have hm:dO ay g≠0:=by have:(!decide (dO ay g=0))=true:=h;simpa using this
  refine⟨_,_,.refl,a4,hL,[],rfl,kL 2,(λx ab=>wl),rfl,?_⟩;rw[bS hm];rfl
 have hm:dO ay g=0:=by have:(!decide (dO ay g=0))=false:=h;simpa using this
 have af:∀ d∈g.ds,right d.t=true:=λd ai=>by have:=fN.1 (IS.1 hm).2.1 d ai;rw[cC]at this;exact(Tw.1 this.2).1
 refine bQ.mk λcJ wT FN=>?_;refine du.inv (ι:=Nat×aT×List jk×aH) (λx=>{ bp:=[(1,.ref 1 0),(3,.val (ptr cJ)),(11,.val (.slice g.a g.n g.c)),(12,.val (.int .i64 g.n)),(13,.val (.int .i64 (x.1:Int)))],cl:=[(1,[.slice g.a g.n g.c])],cO:=x.2.2.2,c5:=⟨cJ,.cells #[x.2.1.val] 81 (0,0)⟩::x.2.1.ar 84 }) (λx=>x.1<=g.n/\(∀ b o,I b=some o->x.2.2.2 b=some o)/\x.2.1.ok 2 (x.2.2.1.flatMap jk.cells)/\(∀ y∈x.2.2.1,y.ok x.2.2.2)/\x.2.2.1.map jk.nf=kU 0 (g.ds.take x.1)) (λx=>g.n-x.1) ?_ ?_
 ·exact⟨(0,hL,[],J),⟨dQ _,a4,kL 2,(λy aG=>by cases aG),rfl⟩,.refl,hh,.cons rfl (.nil)⟩
 rintro⟨i,os,L,K⟩⟨hi,dj,b3,bZ,nS⟩;simp only at hi dj b3 bZ nS;refine aZ.mk (λh=>?_) (λh=>?_)
 rotate_left
 ·have cV:¬ (i:Int)<(g.n:Int):=dU h;refine aU.mk [os.val] (dm (cs:=[os.val]) (k:=0) (n:=1) (T:=81) (.head _) am) ?_;refine⟨_,_,.sub (wj _ _) .refl,dj,os,L,rfl,b3,bZ,rfl,?_⟩;rw[b2 hm,nS,fD Z]
 have a1:i<g.n:=by have:(i:Int)<(g.n:Int):=cT h;omega
 have cI:i<g.ds.length:=by omega
 obtain⟨aR,bI,bo⟩:=aw.bb.row a3.cL a1 cI;have ai:=aw.ds _ (bK cI);have o0:=af _ (bK cI);have mP:g.ds.take (i+1)=g.ds.take i++[g.ds[i]]:=gk cI;have Fq:=No (g.ds.take (i+1)) 0 λd ai=>af d (uU ai);have rM:=atb g.ds (i+1);rw[mP,T6,cn,bB,<-nS,bB]at Fq;rw[mP]at rM;have g7:=ai.t.n;obtain⟨g0,hy⟩:=kE o0;obtain⟨r,eb⟩:=eh g0;have ayo:g.ds[i].t.ns.length<=1048576:=by rw[cR,pG]at rM;simp only[b0,hs,hr,BK]at rM;omega
 generalize qo:g.ds[i]=d at *;obtain⟨Iv,⟨ns,wB,x1,zF,jv⟩⟩:=d;refine bt.mk aR i bI rfl a1 ?_;refine aU.mk _ ((bo _).mono dj) ?_;refine bQ.mk λdS z' sS=>?_;refine b4.mk [] (⟨cJ,.cells #[os.val] 81 (0,0)⟩::os.ar 84) #[.int .i64 0] 3 rfl rfl (bJ rfl) rfl ?_;refine a8.Dg [] _ _ (.refl _) (aew ⟨ns,wB,x1,zF,jv⟩ jv none 0 0) ?_;rintro v cv oB cj v3⟨fP,fr,kK,rfl,yo,vm,FP,-,rfl⟩;have lC:cv dS=none:=v3 _ (.head _);have yK:∀ b o,cv b=some o->ins cv dS (.cells #[.int .i64 (i:Int)] 3 (0,0)) b=some o:=j0 lC;have aeC:∀ b o,I b=some o->ins cv dS (.cells #[.int .i64 (i:Int)] 3 (0,0)) b=some o:=λb o h=>yK _ _ (cj _ _ (dj _ _ h));have kB:=ai.t.mono aeC;have T7:ns.length=x1:=g7;have eD:r<ns.length:=by have ayp:jv<(ns.length:Int):=hy;have ayq:jv=(r:Int):=eb;omega
 rw[show jv=(r:Int)from eb]at FP;have uJ:=aey o0 Z (r+1) r (A1 _) eD kB (a9:=[]) (a:=none) (n:=0) (c:=0) rfl Z ⟨rfl,⟨cc _,Z⟩,.inl rfl⟩ (λ_=>rfl) (yK _ _ yo) (yK _ _ vm) (yK _ _ FP);have h':bV ⟨ns,wB,x1,zF,jv⟩=fm ns (r:Int):=by unfold bV;rw[show jv=(r:Int)from eb]
 have ayr:L.length+(fm ns (r:Int)).paths.length<=1048576:=by have aa:L.length+(bV ⟨ns,wB,x1,zF,jv⟩).paths.length<=_:=Fq;rw[h']at aa;omega
 refine cY.GF (A:=tm) tm.cons a0 rfl rfl rfl (I1:=ins cv dS (.cells #[.int .i64 (i:Int)] 3 (0,0))) (M1:=⟨cJ,.cells #[os.val] 81 (0,0)⟩::os.ar 84) (.kZ rfl am .refl) uJ (λk vs I h aO=>by
   obtain⟨p,v,-,rfl,-⟩:=aO;rfl) (λj I' M'=>∃ (eR:aT) (ju:List jk),M'=⟨cJ,.cells #[eR.val] 81 (0,0)⟩::eR.ar 84/\eR.ok 2 (ju.flatMap jk.cells)/\(∀ y∈ju,y.ok I')/\ju.map jk.nf=kU 0 (g.ds.take i)++((fm ns (r:Int)).paths.take j).map λp=>(i,p)) (λex I M=>False)
  (λk I I' M h ⟨eR,ju,aa,ad,aj,aJ⟩=>⟨eR,ju,aa,ad,λy aG=>(aj y aG).mono h,aJ⟩) ⟨os,L,rfl,b3,λy aG=>(bZ y aG).mono (λb o h=>yK _ _ (cj _ _ h)),by simpa using nS⟩ ?_ ?_ (λex I' M' _ h=>h.elim)
 ·rintro j ah vs I' M' gf⟨p,v,aI,rfl,a,c,rfl,aeD,gx⟩⟨eR,ju,rfl,ko,oc,yS⟩l B ax iC;rw[hI]at aeD gx;simp only[hI];have bD:=congrArg List.length yS;rw[bB,cn,bB,fT,<-nS,bB]at bD;have cG:=ko.len;rw[hc _ 2 jk.cL]at cG;refine aU.mk [eR.val] (dm (cs:=[eR.val]) (k:=0) (n:=1) (T:=81) (.head _) am) ?_;refine aU.mk [.int .i64 (i:Int)] ⟨rfl,_,_,_,.inl (gf _ _ (mg ..)),rfl,rfl⟩ ?_;refine bQ.mk λb9 mU ue=>?_;refine bC.lU a0 rfl am (e:=84) rfl rfl rfl eR ko rfl (cs:=[.int .i64 (i:Int),.slice a p.length c]) rfl rfl rfl [_] [] ag' Z (by show(eR.n+1)*32<=_;omega) ?_;intro fy aa ad aj;refine b4.mk [] (fy.ar 84++[]) #[eR.val] 81 rfl rfl (bJ rfl) rfl ?_;refine⟨_,_,.m1 ag',fy,ju++[⟨i,p,a,c⟩],rfl,?_,?_,?_⟩
  ·rw[fS,oN];exact aj
  ·intro y aG;rcases c1.1 aG with aG | aG
   ·exact oc y aG
   ·rw[eL.1 aG];exact⟨aeD⟩
  ·obtain⟨tq,nN⟩:=iP.1 aI;rw[cR,yS,gk tq,cR,nN,dW];rfl
 ·rintro I' M' gf⟨eR,ju,rfl,ko,oc,yS⟩;refine be.mk _ (c9 (i:=i) Z) ?_;refine⟨(i+1,eR,ju,I'),⟨⟨a1,λb o h=>gf _ _ (aeC _ _ h),ko,oc,?_⟩,ce⟩,.refl,hh,.cons rfl (.nil)⟩;simp only;rw[yS,mP,T6,fD (cc _),<-h',fT,dn,pf Z]
def aeE(au:t.ok I)(af:right t=true)(aC:t.n<=1099511627776):vg t:=λd ai=>by have aM:=jd.1 af;obtain⟨j,ah,rfl⟩:=iI ai;obtain⟨T,aa,ad,-,aJ⟩:=aM.lt ah;have ae:=ad.AD;rw[aa,gr ah]at ae;have bD:=ME aJ λx ab=>ad.lt x ab;have cG:=Fz T;have eZ:=AG T.sub;have fx:=(au.ns _ (bK ah)).aF;have dT:=au.n;rw[ae]at fx;simp only[eX,bB]at fx;omega
def T8(hm:dO ay g=0)(aC:∀ d∈g.ds,d.t.n<=549755813888):TL g:=⟨λd ai=>qT hm ai,aC⟩
section
variable{X:cN}{F:Fr}{C:de}{I:aH}{M:List aA}{o:Oper}
theorem kv.atd(aL:cU X.P X.E){s x:Operand}{t:Nat}(aD:o.op=.call { callee:=.builtin .append,args:=#[s,x],argTypes:=#[t,t] })
  {e:Nat} (au:X.E t=some cS) (dt:cS.bL=.slice e) (he:X.E e=some aB)
 (av:bG F s=.val (.slice sa n c)) (mO:n<=c) {xa:Option Addr} (ab:bG F x=.val (.slice xa 0 c'))
  (h:K (.val (.slice sa n c)) I M):kv X o F C I M K:=by
 refine⟨fun β a w Q aM=>?_⟩;obtain⟨inf,z,hi,fq,iy,iz,k3⟩:=(aL _ _ he).inf;obtain⟨gV,iD,kB⟩:=(aL _ _ au).fp;have oC:gV=.slice e:=by rw[dt]at kB;cases gV<;>simp_all[fo]
 subst oC;have e':=Wh (w:=w) t t o.type e inf iD iD (λk c2=>by cases c2) hi (sa:=sa) mO (.inl ⟨xa,c',rfl⟩);have es:=df aM.an av;have ex:=df aM.an ab;refine ix f7 (v:=.slice sa n c) (w':=w) ?_ ⟨_,.val (.slice sa n c),I,M,rfl,rfl,aM,h,rfl⟩;unfold execOp;simp only[aD,resolve,invoke,builtin,cp,db,bY,rh,b0,hs,es,ex,e']
def kv.T9(aL:cU X.P X.E){s x:Operand}{t:Nat}(aD:o.op=.call { callee:=.builtin .append,args:=#[s,x],argTypes:=#[t,t] })
  {e:Nat} (au:X.E t=some cS) (dt:cS.bL=.slice e) (he:X.E e=some aB)
  (os:aT) {xs:List Value} (bf:os.ok aB.size xs) (av:bG F s=.val os.val)
 {m:Nat} {b8:List Value} (ab:bG F x=.val (.slice sa m c')) (az:b8.length=m*aB.size) (aC:0<m->∃ aR,sa=some aR/\c6 I M aR (m*aB.size) b8) (aa:fH b8=true)
  (a9 post:List aA) (bc:M=a9++(os.ar e++post)) (b1:os.n+m<=maxLen) (bH:(os.n+m)*aB.bytes<=140737488355328)
  (k:∀ bq:aT,bq.n=os.n+m->bq.ok aB.size (xs++b8)->K (.val bq.val) I (a9++(bq.ar e++post))):kv X o F C I M K:=by
 by_cases ax:m=0
 ·subst ax;have nq:b8=[]:=im pp;subst nq;refine kv.atd aL aD au dt he (sa:=os.a.map λg=>⟨g,0,none⟩) (n:=os.n) (c:=os.c) av ?_ ab ?_
  ·cases a7:os.a with
   |none=>obtain⟨eg,eV⟩:=bf.nil a7;omega
   |some g=>exact(bf.cap g a7).2.1
  ·have:=k os rfl (by rw[dK];exact bf);rw[bc];exact this
 obtain⟨aR,rfl,bo⟩:=aC Z;refine kv.acS aL aD au dt he os bf av ab Z bo aa (Mr:=a9++post) ?_ b1 bH (λbq=>a9++(bq.ar e++post)) (λbq=>?_) λbq aa _ ad=>k bq aa ad
 ·rw[bc];exact xV _ _ _
 ·exact(xV _ _ _).symm
end
structure ate(ay:List Int)(g:cE)(u:Nat)(X:aP)(I':aH)(h:cE)(b:Bool):Prop where
 is:b=xh ay g u X
 ok:b=true->h.ok I'/\h.n=g.n/\∃ bi,lz bi X/\bi.ns.length=bi.n/\h.ds.map a3.aW=(eE g.ds u bi).map a3.aW/\dO ay h=0/\∃ r,j6 ay h r/\r.2=0
def atf(hw:Jg ay g F)(eW:∀ d∈g.ds,d.t.ns.length=d.t.n)(aC:∀ d∈g.ds,d.t.n<=549755813888)(hu:u<g.ds.length){x:aP}(cy:(bV g.ds[u].t).go p=some S)(ab:Nf g S x)(rL:dG x<=549755813888){h:cE}(dg:h.ok J)(uf:h.n=g.n)(ej:h.ds.map a3.aW=(eE g.ds u bi).map a3.aW)(dp:lz bi (kp g u p x)) :
  bi.ns.length=bi.n/\(∀ e∈h.ds,vg e.t)/\(dO ay h=0\/dO ay h=40)/\xh ay g u (kp g u p x)=decide (dO ay h=0)/\∀ r,j6 ay h r->(r.2=0 ↔ dO ay h=0):=by
 have nT:g.ds.getD u jR=g.ds[u]:=by simp[bT,hu]
 have T7:bi.ns.length=bi.n:=by
  have hm:=congrArg (λl:List a3=>l[u]?) ej;simp only[jJ]at hm;have DO:u<h.ds.length:=by have:=dg.n;have:=hw.n;omega
  rw[M4 hu,dy DO]at hm;have hm:=e1 hm;have aa:=(dg.ds _ (bK DO)).t.n;have ad:h.ds[u].t.aW=bi.aW:=congrArg a3.t hm;have aj:h.ds[u].t.ns.length=bi.ns.length:=by have:=congrArg (λt:bs=>t.ns.length) ad;simpa[bs.aW]using this
  have aJ:h.ds[u].t.aW.n=bi.aW.n:=congrArg bs.n ad;have aJ:h.ds[u].t.n=bi.n:=aJ;omega
 obtain⟨s1,s2,atg⟩:=asg hw hu cy ab dp T7 uf dg.n ej;refine⟨T7,λe he=>?_,s1,s2,atg⟩;have bD:e.aW∈(eE g.ds u bi).map a3.aW:=by rw[<-ej];exact c3.2 ⟨e,he,rfl⟩
 obtain⟨c2,tV,cG⟩:=c3.1 bD;have eZ:e.t.aW=c2.t.aW:=(congrArg a3.t cG).symm;have fx:right c2.t=true/\c2.t.n<=1099511627776:=by
  obtain⟨i,hi,rfl⟩:=iI tV;by_cases aB:i=u;·subst aB;have dT:=M4 (y:=bi) hu;rw[dy hi]at dT;rw[e1 dT];refine⟨dp.right (aef hw (p:=p) hu ab.ok).1,?_⟩;have qs:=congrArg List.length dp.aW;rw[bB,FK]at qs;unfold kp at qs;rw[nT]at qs;have Rx:=TR ((bV g.ds[i].t).put p x);have ays:=Jj (X:=x) p _ cy;have ayt:=C5 (qT hw.m (bK hu));have ayu:=eW _ (bK hu);have ayv:=aC _ (bK hu);show bi.n<=_;omega
  ·have dT:=Tu (ds:=g.ds) (y:=bi) aB;have dN:i<g.ds.length:=by rw[rZ]at hi;exact hi
   rw[dy hi,dy dN]at dT;rw[e1 dT];exact⟨qT hw.m (bK dN),by have:=aC _ (bK dN);omega⟩
 refine aeE (dg.ds e he).t ?_ ?_
 ·rw[<-tO,eZ,tO];exact fx.1
 ·have dT:e.t.aW.n=c2.t.aW.n:=congrArg bs.n eZ;have dT:e.t.n=c2.t.n:=dT;omega
def ath(hu:u<g.ds.length)(cy:(bV g.ds[u].t).go p=some S)(x:aP):vJ g (u:Int) p x=some (kp g u p x):=by
 have nT:g.ds.getD u jR=g.ds[u]:=by simp[bT,hu]
 unfold vJ pZ kp;rw[b2 Z,hC,nT,cy];rfl
def vO.mono(h:vO I a c L)(bE:∀ b o,I b=some o->I' b=some o):vO I' a c L:=⟨h.bb.mono bE,λt au=>⟨(h.ok t au).1.mono bE,(h.ok t au).2⟩,h.n,h.l⟩
def T'(L:List bs):(L.flatMap bs.cells).length=L.length*2:=hc _ 2 (λ_=>rfl) L
def Np:∀ L:List bs,fH (L.flatMap bs.cells)=true
 |[]=>rfl| t::L=>by rw[iA];show fH (.slice t.a t.n t.c::.int .i64 t.bx::L.flatMap bs.cells)=true;have:=Np L;simpa[fH,Value.oneCell']using this
def Da(w:Int):Nat:=if w=1 then 34 else 33
def ati(a6:en I ay)(w:Int)(bZ:vO I a c L):Spec Tryz.prog (Da w) [.slice a L.length c] I M0 (oo (some (qU (iO w) (L.map bV))) I M0):=by
 unfold Da iO;by_cases h:w=1
 ·rw[b2 h,b2 h];exact asV a6 bZ
 ·rw[bS h,bS h];exact asU a6 bZ
def Nq(x:BitVec 64):ga (x.toNat:Int):=⟨Hm _,by have:=x.isLt;omega⟩
def aeF(a6:en I ay)(hw:Jg ay g F)(aw:g.ok I)(aC:∀ d∈g.ds,d.t.n<=549755813888)(x2:g.n<=1000000)(hu:u<g.ds.length)(aI:cx I pa pn pc 1 8 (hR path))(cy:(bV g.ds[u].t).go path=some S)
 (bZ:vO I ca cr L) (Jp:(L.map (·.n)).sum<=274877906944/\L.length<=274877906944) {bl:Nat} (eS:bl+1<L.length) {s:bj} {x:aP} (ab:x=qU (iO w) ((L.take bl).map bV++j8 s::(L.drop (bl+2)).map bV)) (C4:Nf g S x) (rL:dG x<=549755813888)
 {dR:Nat} (aa:I b1=some (.cells #[.slice ca L.length cr] 55 (0,0))) (ad:I bH=some (.cells #[.int .i64 bl] 3 (0,0))) (aj:I cJ=some (.cells #[.func (.func (Da w)) #[] #[]] 62 (0,0))) (aJ:I dS=some (.cells #[.slice g.a g.n g.c] 28 (0,0))) (bD:I dR=some (.cells #[.int .i64 u,.slice pa pn pc] 84 (0,0))) :
  Spec Tryz.prog 182 [s.val,ptr b1,ptr bH,ptr cJ,ptr dS,ptr dR] I [] λv I' M'=>(∀ b o,I b=some o->I' b=some o)/\M'=[]/\∃ (h:cE) (b:Bool),v=.tuple #[h.val,.bool b]/\ate ay g u (kp g u path x) I' h b:=by
 refine bU [] a0 Tryz.func182 rfl rfl rfl ?_;intro B ax;have IA:=bZ.bb.len;have ayw:=bZ.bb.cap;have K8:∀ {J:aH} (M:List aA),(∀ b o,I b=some o->J b=some o)->c6 J M ⟨b1,0,none⟩ 1 [.slice ca L.length cr]:=λM a4=>⟨rfl,_,_,_,.inl (a4 _ _ aa),rfl,rfl⟩;have Ko:∀ {J:aH} (M:List aA),(∀ b o,I b=some o->J b=some o)->c6 J M ⟨bH,0,none⟩ 1 [.int .i64 bl]:=λM a4=>⟨rfl,_,_,_,.inl (a4 _ _ ad),rfl,rfl⟩;have atj:∀ {J:aH} (M:List aA),(∀ b o,I b=some o->J b=some o)->c6 J M ⟨cJ,0,none⟩ 1 [.func (.func (Da w)) #[] #[]]:=λM a4=>⟨rfl,_,_,_,.inl (a4 _ _ aj),rfl,rfl⟩;have atk:∀ {J:aH} (M:List aA),(∀ b o,I b=some o->J b=some o)->c6 J M ⟨dS,0,none⟩ 1 [.slice g.a g.n g.c]:=λM a4=>⟨rfl,_,_,_,.inl (a4 _ _ aJ),rfl,rfl⟩;have B8:∀ {J:aH} (M:List aA),(∀ b o,I b=some o->J b=some o)->c6 J M ⟨dR,0,none⟩ 2 [.int .i64 u,.slice pa pn pc]:=λM a4=>⟨rfl,_,_,_,.inl (a4 _ _ bD),rfl,rfl⟩;have aeG:=bZ.bb.SX (f:=bs.cells) (λ_=>rfl) (lo:=0) (hi:=bl) Z Z rfl;have FQ:=bZ.bb.SX (f:=bs.cells) (λ_=>rfl) (lo:=bl+2) (hi:=L.length) Z Z rfl;have aK:(if cr=0 then ca else ca.map (·.add (0*2)))=ca:=by
  split;·rfl
  ·cases ca with
   |none=>rfl| some aR=>simp[Addr.add]
 rw[aK,tl,DT,DT]at aeG;rw[fD am]at FQ;refine aU.mk _ (K8 _ λ_ _ h=>h) ?_;refine aU.mk _ (Ko _ λ_ _ h=>h) ?_;refine kY.mk 0 bl rfl rfl (dQ _) Z ?_
 refine bC.zX a0 rfl am (e:=24) rfl rfl rfl hL (xs:=[]) (kL 2) rfl (sa:=ca) (m:=bl) (c':=cr) rfl (b8:=(L.take bl).flatMap bs.cells) af' (λh=>?_) (Np _) [] [] rfl (by show 0+bl<=_;omega) (by show(0+bl)*32<=_;omega) ?_
 ·obtain⟨aR,bI,di,cs,T,an,bE,ao⟩:=aeG.rd.resolve_left Z;exact⟨aR,bI,di,cs,T,an,.inl bE,ao,af'⟩
 intro r0 nG _ Ua;have dt:=abu (I:=I) (Nq s.a) (Nq s.b) (Nq s.c) (Nq s.d);refine a8.mk [] _ _ (.refl _) dt ?_;rintro v J N a4⟨-,fb,rfl,dt,Ub,My,rfl⟩;refine bQ.mk λayx ayy ayz=>?_;refine bC.lU a0 rfl am (e:=24) rfl rfl rfl r0 Ua rfl (cs:=fb.cells) rfl rfl rfl [] [] rfl (by rw[nG];show 0+bl+1<=_;omega) (by rw[nG];show(0+bl+1)*32<=_;omega) ?_;intro eR lq _ ko;have ko:eR.ok 2 ((L.take bl++[fb]).flatMap bs.cells):=by rw[fS,oN];exact ko
 have lq:eR.n=bl+1:=by
  rw[lq,nG];show 0+bl+1=_
  omega
 have jG:=a6.mono a4;have Nr:=bZ.mono a4;have lM:lz fb (j8 s):=by
  refine⟨?_,?_⟩;·rw[Ub];unfold j8;rw[aP.kN];rfl
  ·rw[Ub,My];rfl
 have IR:=lM.right (TS s);have atl:=lM.bV (TS s) (.mk rfl λc ao=>by cases ao);have ayA:fb.n=1:=by rw[<-dt.n,Ub];rfl
 have yd:∀ fy:aT,fy.n=eR.n+(L.length-(bl+2))->fy.ok 2 ((L.take bl++[fb]).flatMap bs.cells++(L.drop (bl+2)).flatMap bs.cells)->(∀ b o,J b=some o->l2 J fy 24 b=some o)->Spec Tryz.prog (Da w) [.slice (fy.a.map λg=>⟨g,0,none⟩) fy.n fy.c] (l2 J fy 24) [] (oo (some x) (l2 J fy 24) []):=by
  intro fy CN xk bn;rw[<-fS]at xk;have rk:(L.take bl++[fb]++L.drop (bl+2)).length=fy.n:=by simp only[cn,fT,py,oV];omega
  have dB:=Nc (J:=J) (e:=24) (b:=32) xk Z;have j1:((L.take bl++[fb]++L.drop (bl+2)).map (·.n)).sum<=(L.map (·.n)).sum+1:=by
   have aa:=TT L bl eS
   have ad:=congrArg (λl:List bs=>(l.map (·.n)).sum) aa;simp only[cR,pG,b0,hr,hs,BK]at ad |-;omega
  have mi:vO (l2 J fy 24) (fy.a.map λg=>⟨g,0,none⟩) fy.c (L.take bl++[fb]++L.drop (bl+2)):=by
   refine⟨by rw[rk];exact dB,λt au=>?_,Z,Z⟩;rcases c1.1 au with au | au
   ·rcases c1.1 au with au | au
    ·exact⟨(Nr.ok t (uU au)).1.mono bn,(Nr.ok t (uU au)).2⟩
    ·rw[eL.1 au];exact⟨dt.mono bn,IR⟩
   ·exact⟨(Nr.ok t (Fk au)).1.mono bn,(Nr.ok t (Fk au)).2⟩
  have:=ati (M0:=[]) (jG.mono bn) w mi;rw[rk]at this;rw[ab];simpa only[cR,b0,hs,atl,dW,qy]using this
 have FQ:=FQ.mono a4;have aeH:∀ {M:List aA},0<L.length-(bl+2)->∃ aR,(if cr=bl+2 then ca else ca.map (·.add ((bl+2)*2)))=some aR/\c6 J M aR ((L.length-(bl+2))*2) ((L.drop (bl+2)).flatMap bs.cells):=by intro M h;obtain⟨aR,bI,di,cs,T,an,bE,ao⟩:=FQ.rd.resolve_left Z;exact⟨aR,bI,di,cs,T,an,.inl bE,ao,FQ.len⟩
 have aeI:=FQ.len;have ez:IntKind.i64.wrap ((bl:Int)+2)=((bl+2:Nat):Int):=u7 am Z;refine cY.Vs (im':=λi=>Nat.blt i 4) a0 rfl rfl rfl (ι:=Nat×bs×aH) (λz=>{ bp:=[(4,.val (ptr dS)),(5,.val (ptr dR)),(7,.ref 7 0),(10,.val (ptr z.1)),(11,.val (.bool true))],cl:=[(7,[.slice none 0 0])],cO:=z.2.2,c5:=[⟨z.1,.cells z.2.1.cells.toArray 24 (0,0)⟩] }) (λz=>(∀ b o,I b=some o->z.2.2 b=some o)/\z.2.1.ok z.2.2/\lz z.2.1 x/\eT x/\ji x) ?_ ?_
 ·refine aU.mk _ (atj _ a4) ?_;refine aU.mk _ (K8 _ a4) ?_;refine aU.mk _ (Ko _ a4) ?_;refine be.mk _ ez ?_;refine kY.mk (bl+2) L.length rfl rfl Z Z ?_;refine⟨?_,?_⟩
  ·intro G g3;refine kv.T9 a0 rfl (e:=24) rfl rfl rfl eR ko (FH (g3 _ d8) rfl) (FH (g3 _ d8) rfl) aeI aeH (Np _) [] [] rfl (by unfold maxLen;omega) (by show(eR.n+_)*32<=_;omega) ?_;intro fy CN xk;have Ns:=yd fy CN xk;refine⟨?_,?_⟩
   ·refine a8.vW λeY=>?_;have bn:∀ b o,J b=some o->l2 J fy 24 b=some o:=FI (M:=[]) eY.d;refine a8.sd (l2 J fy 24) [] [] _ (Nb (λg _=>am)) (Ns bn) ?_;rintro v cv N cj -⟨-,rfl,bi,rfl,jw,dp,bf,s3⟩;refine bQ.mk λp2 Jq Jr=>?_;refine b4.mk [] [] _ _ rfl rfl (bJ rfl) rfl ?_;exact⟨(p2,bi,cv),⟨λb o h=>cj _ _ (bn _ _ (a4 _ _ h)),jw,dp,bf,s3⟩,.refl,hh,.cons rfl (.nil)⟩
   ·refine bQ.mk λp2 Jq Jr=>?_;refine ev.vW λeY=>?_;have bn:∀ b o,J b=some o->l2 J fy 24 b=some o:=FI (M:=[]) λy aG=>eY.d _ (.tail _ aG);cases vz:fy.a with
    |none=>have:=(xk.nil vz).1;omega| some bW=>
    have kA:fy.ar 24=[⟨bW,.cells fy.aS.toArray 24 (0,0)⟩]:=by simp[aT.ar,vz]
    have fv:l2 J fy 24=ins J bW (.cells fy.aS.toArray 24 (0,0)):=by simp[l2,vz]
    have C8:=Ns bn;rw[fv]at C8 bn;refine ev.Ob bW (.cells fy.aS.toArray 24 (0,0)) [] [⟨p2,.cells #[.slice none 0 0,.int .i64 0] 24 (0,0)⟩] (oo (some x) (ins J bW (.cells fy.aS.toArray 24 (0,0))) []) (by rw[kA];exact .swap _ _ _) am C8 (λv I' M' _ x ab=>wl) ?_;rintro v cv N cj -⟨-,rfl,bi,rfl,jw,dp,bf,s3⟩;refine b4.mk [] [] _ _ rfl rfl (bJ rfl) rfl ?_;exact⟨(p2,bi,cv),⟨λb o h=>cj _ _ (bn _ _ (a4 _ _ h)),jw,dp,bf,s3⟩,.refl,hh,.cons rfl (.nil)⟩
  ·refine bQ.mk λp2 Jq Jr=>?_;intro G g3;refine kv.T9 a0 rfl (e:=24) rfl rfl rfl eR ko (FH (g3 _ d8) rfl) (FH (g3 _ d8) rfl) aeI aeH (Np _) [⟨p2,.cells #[.slice none 0 0,.int .i64 0] 24 (0,0)⟩] [] rfl (by unfold maxLen;omega) (by show(eR.n+_)*32<=_;omega) ?_;intro fy CN xk;have Ns:=yd fy CN xk;refine ev.vW λeY=>?_;have bn:∀ b o,J b=some o->l2 J fy 24 b=some o:=FI (M:=[]) λy aG=>eY.d _ (.tail _ aG);cases vz:fy.a with
   |none=>have:=(xk.nil vz).1;omega| some bW=>
   have kA:fy.ar 24=[⟨bW,.cells fy.aS.toArray 24 (0,0)⟩]:=by simp[aT.ar,vz]
   have fv:l2 J fy 24=ins J bW (.cells fy.aS.toArray 24 (0,0)):=by simp[l2,vz]
   have C8:=Ns bn;rw[fv]at C8 bn;refine ev.Ob bW (.cells fy.aS.toArray 24 (0,0)) [] [⟨p2,.cells #[.slice none 0 0,.int .i64 0] 24 (0,0)⟩] (oo (some x) (ins J bW (.cells fy.aS.toArray 24 (0,0))) []) (by rw[kA];exact .swap _ _ _) am C8 (λv I' M' _ x ab=>wl) ?_;rintro v cv N cj -⟨-,rfl,bi,rfl,jw,dp,bf,s3⟩;refine b4.mk [] [] _ _ rfl rfl (bJ rfl) rfl ?_;exact⟨(p2,bi,cv),⟨λb o h=>cj _ _ (bn _ _ (a4 _ _ h)),jw,dp,bf,s3⟩,.refl,hh,.cons rfl (.nil)⟩
 rintro⟨p2,bi,cv⟩⟨cj,jw,dp,bf,s3⟩;simp only at cj jw dp;have hK:=a6.mono cj;have mS:=aw.mono cj;have nN:=aI.mono cj;have h':=dp.bV bf s3;have m7:=dp.right bf;have rP:bi.n<=549755813888:=by have aa:=congrArg List.length dp.aW;rw[bB,FK]at aa;have:=jw.n;omega
 have aeJ:=ar9 (M0:=[]) hK mS (T8 hw.m aC) x2 jw m7 rP (rule:=(u:Int)) nN;rw[h',ath hu cy]at aeJ;refine aZ.mk (λh=>ci) (λ_=>?_);refine aU.mk _ (atk _ cj) ?_;refine aU.mk _ (B8 _ cj) ?_;refine aU.mk bi.cells ⟨rfl,_,_,_,.inr ⟨_,.head _,rfl,rfl⟩,rfl,rfl⟩ ?_;refine a8.mk [] _ _ (.refl _) aeJ ?_;rintro v hN N hY⟨-,rfl,h,t2,rfl,dg,uf,ej,AR,iX,ayB⟩;rw[hC]at ej;obtain⟨eg,eV,e0,iZ,D2⟩:=atf hw (λd ai=>(aw.ds d ai).t.n) aC hu cy C4 rL dg uf ej AR;refine b5.mk (λ_=>?_) (λh=>ci);refine a8.mk [] _ _ (.refl _) (St (hK.mono hY) dg eV) ?_;rintro v qS N lC⟨-,rfl,r,rfl,af⟩;have bn:∀ b o,I b=some o->qS b=some o:=λb o h=>lC _ _ (hY _ _ (cj _ _ h));refine aZ.mk (λbD=>?_) (λbD=>?_)
 ·have bD:¬ r.2=0:=by have:(!decide (r.2=0))=true:=bD;simpa using this
  exact⟨_,_,.sub (fs _) .refl,bn,rfl,⟨[],none,0,0⟩,false,rfl,by rw[iZ,e8 λe=>bD ((D2 r af).2 e)],λh=>ci⟩
 ·have bD:r.2=0:=by have:(!decide (r.2=0))=false:=bD;simpa using this
  have tW:=(D2 r af).1 bD;exact⟨_,_,.sub (fs _) .refl,bn,rfl,h,true,rfl,by rw[iZ,gy tW],λ_=>⟨dg.mono lC,uf,t2,AR,eg,ej,tW,r,af,bD⟩⟩
def FR:∀ {l:List Nat} {x:Nat},x∈l->x<=l.sum
 |y::l,x,h=>by
  rw[hr];rcases er.1 h with rfl | h;·omega
  ·have:=FR h;omega
def aeK{x:bs}(ab:x.ok I)(af:right x=true)(w:Int):Spec Tryz.prog 98 [x.val,.int .u8 w] I M0 λv I' M'=>I'=I/\M'=M0/\∃ b,v=.bool b/\b=decide ((bV x).d.k=iO w):=by
 refine bU [] a0 Tryz.func98 rfl rfl rfl ?_;intro B ax;have rP:=ab.n;obtain⟨g0,hy⟩:=kE af;obtain⟨r,eb⟩:=eh g0;have eD:r<x.ns.length:=by omega
 obtain⟨aR,bI,bo⟩:=ab.bb.row al.cL (show r<x.n by omega) eD;have h':=Jm af eb eD;have e:(bV x).d.k=x.ns[r].k:=by rw[h'];rfl
 rw[e];generalize x.ns[r]=d at bo;refine bt.mk aR r bI eb Z ?_;refine aU.mk _ ((bo _).part (k:=0) (m:=1) bv) ?_;refine aZ.mk (λh=>?_) (λh=>?_)
 ·have aa:w=1:=cT h;exact⟨_,_,.refl,rfl,rfl,_,rfl,by rw[iO,b2 aa]⟩
 ·have aa:¬ w=1:=dU h;exact⟨_,_,.refl,rfl,rfl,_,rfl,by rw[iO,bS aa]⟩
structure Js(ay:List Int)(g:cE)(u:Nat)(p:List Int)(w bl:Int)(I':aH)(h:cE)(b:Bool):Prop where
 is:b=jS ay g u p w bl
 ok:b=true->h.ok I'/\h.n=g.n/\∃ X bi,p0 g u p w bl=some X/\lz bi X/\bi.ns.length=bi.n/\h.ds.map a3.aW=(eE g.ds u bi).map a3.aW/\dO ay h=0/\∃ r,j6 ay h r/\r.2=0
def Js.no(h:p0 g u p w bl=none):Js ay g u p w bl I' ⟨[],none,0,0⟩ false:=⟨by unfold jS;rw[h],λh=>ci⟩
def aeL(hu:u<g.ds.length)(cy:(bV g.ds[u].t).go p=some S):p0 g u p w bl=(pb w bl S).map λx=>kp g u p x:=by
 have nT:g.ds.getD u jR=g.ds[u]:=by simp[bT,hu]
 unfold p0;rw[nT,cy];rfl
def hS.all{foot:List Nat}:∀ {M:List aA},(∀ x∈M,x.num ∉ foot)->hS foot I M (vN I M) []:=by intro M h;have:=TU (foot:=foot) (M:=[]) (I:=I) M h;rwa [dK]at this
def FT(dR b6 dL b9 gR:Nat)(g:cE)(u:Nat)(pa:Option Addr)(pn pc:Nat)(ca:Option Addr)(n cr:Nat)(bl:Int)(fn:Nat):List aA:=[⟨gR,.cells #[.func (.func fn) #[] #[]] 62 (0,0)⟩,⟨b9,.cells #[.int .i64 bl] 3 (0,0)⟩,⟨dL,.cells #[.slice ca n cr] 55 (0,0)⟩,⟨b6,.cells #[.int .i64 u,.slice pa pn pc] 84 (0,0)⟩,⟨dR,.cells #[.slice g.a g.n g.c] 28 (0,0)⟩]
def aeM(a6:en I ay)(hw:Jg ay g F)(aw:g.ok I)(aC:∀ d∈g.ds,d.t.n<=274877906944)(x2:g.n<=1000000)(hu:u<g.ds.length)(aI:cx I pa pn pc 1 8 (hR path))(cy:(bV g.ds[u].t).go path=some S)
 (bZ:vO I ca cr L) (Jp:(L.map (·.n)).sum<=274877906944/\L.length<=274877906944) (Jt:L.map bV=S.sub) (pD:1<=w/\w<=3) (ae:S.d.k=iO w) (eS:eC bl) :
  Spec Tryz.prog 99 [g.val,Jf (u:Int) pa pn pc,.int .u8 w,.slice ca L.length cr,.int .i64 bl] I [] λv I' M'=>(∀ b o,I b=some o->I' b=some o)/\M'=[]/\∃ (h:cE) (b:Bool),v=.tuple #[h.val,.bool b]/\Js ay g u path w bl I' h b:=by
 have r4:=aeL (w:=w) (bl:=bl) hu cy;have aeN:=ad9 path (TN (qT hw.m (bK hu))) cy;have aeO:dG S<=549755813888:=by have aa:=Jj (X:=j8 bj.zero) path _ cy;have ad:=C5 (qT hw.m (bK hu));have aj:=(aw.ds _ (bK hu)).t.n;have aJ:=aC _ (bK hu);have bD:dG (j8 bj.zero)=1:=lD _ _;have cG:=AQ ((bV g.ds[u].t).put path (j8 bj.zero));omega
 have gY:S.sub.length=L.length:=by rw[<-Jt,bB]
 refine bU [5,6,8,9,12] a0 Tryz.func99 rfl rfl rfl ?_;intro B ax;refine bQ.mk λdR BW MJ=>?_;refine bQ.mk λb6 KH aq0=>?_;refine bQ.mk λdL sL vK=>?_;refine bQ.mk λb9 mU ue=>?_;refine aU.mk [.int .i64 bl] ⟨rfl,_,_,_,.inr ⟨_,.head _,rfl,rfl⟩,rfl,rfl⟩ ?_;by_cases Mw:bl<0
 ·refine b5.mk (λh=>absurd h (by simp[Mw])) (λ_=>?_);exact⟨_,_,.sub (fs _) .refl,λ_ _ h=>h,rfl,⟨[],none,0,0⟩,false,rfl,.no (by rw[r4,pb,bS λh=>absurd h.2.1 Z];rfl)⟩
 refine b5.mk (λ_=>?_) (λh=>absurd h (by simp[Mw]));refine aU.mk [.int .i64 bl] ⟨rfl,_,_,_,.inr ⟨_,.head _,rfl,rfl⟩,rfl,rfl⟩ ?_;refine aU.mk [.slice ca L.length cr] ⟨rfl,_,_,_,.inr ⟨_,.tail _ (.head _),rfl,rfl⟩,rfl,rfl⟩ ?_;refine be.mk ((L.length:Int)-1) (u7 rfl Z) ?_;refine aZ.mk (λh=>?_) (λh=>?_)
 ·have aa:(L.length:Int)-1<=bl:=cT h
  exact⟨_,_,.sub (fs _) .refl,λ_ _ h=>h,rfl,⟨[],none,0,0⟩,false,rfl,.no (by rw[r4,pb,bS λh=>absurd h.2.2 Z];rfl)⟩
 have aa:¬ (L.length:Int)-1<=bl:=dU h
 obtain⟨i,rfl⟩:=eh (show 0<=bl by omega);have hi:i+1<L.length:=by omega
 have gd:=(bZ.ok _ (bK (show i<L.length by omega)));have aeP:=(bZ.ok _ (bK hi));have rP:L[i].n<=1099511627776:=by have aa:=FR (xd (f:=λt:bs=>t.n) (bK (show i<L.length by omega)));have ad:=Jp.1;exact jU aa (jU ad bv)
 have FU:=T0 (M0:=[]) a6 (w:=w) Z gd.1 aeP.1 rP;have atm:S.sub[i]' Z=bV L[i]:=by
  have:S.sub[i]?=(L.map bV)[i]?:=by rw[Jt]
  rw[dy Z,jJ,dy Z]at this;exact e1 this
 have atn:S.sub[i+1]' Z=bV L[i+1]:=by
  have:S.sub[i+1]?=(L.map bV)[i+1]?:=by rw[Jt]
  rw[dy Z,jJ,dy hi]at this;exact e1 this
 have ato:nd w L[i] L[i+1]=vM w (S.sub[i]' Z) (S.sub[i+1]' Z):=by unfold nd;rw[gd.2,aeP.2,atm,atn];rfl
 rw[ato]at FU;have qV:pb w (i:Int) S=(vM w (S.sub[i]' Z) (S.sub[i+1]' Z)).map λs=>qU (iO w) ((L.take i).map bV++j8 s::(L.drop (i+2)).map bV):=by
  unfold pb;rw[b2 ⟨ae,Z,Z⟩];have aK:S.sub.getD ((i:Nat):Int).toNat S=S.sub[i]' Z:=by
   show S.sub.getD i S=_;have:i<S.sub.length:=by omega
   simp[bT,this]
  have ba:S.sub.getD (((i:Nat):Int).toNat+1) S=S.sub[i+1]' Z:=by
   show S.sub.getD (i+1) S=_;have:i+1<S.sub.length:=by omega
   simp[bT,this]
  rw[aK,ba];have cA:S.sub.take ((i:Nat):Int).toNat=(L.take i).map bV:=by rw[<-Jt,Kj];rfl
  have ee:S.sub.drop (((i:Nat):Int).toNat+2)=(L.drop (i+2)).map bV:=by rw[<-Jt,Ki];rfl
  rw[cA,ee]
 generalize vM w (S.sub[i]' Z) (S.sub[i+1]' Z)=o at FU qV;obtain⟨aR,bI,aeQ⟩:=bZ.bb.row (f:=bs.cells) (λ_=>rfl) (show i<L.length by omega) (show i<L.length by omega);obtain⟨sV,w4,C7⟩:=bZ.bb.row (f:=bs.cells) (λ_=>rfl) hi hi;have Rp:sV=aR:=by rw[bI]at w4;exact(e1 w4).symm
 subst Rp;generalize L[i]=x at *;generalize L[i+1]=y at *;have cP:IntKind.i64.wrap ((i:Int)+1)=((i+1:Nat):Int):=u7 am Z;refine bQ.mk λgR adO adP=>?_;refine b4.mk [] _ _ _ rfl rfl (bJ rfl) rfl ?_;refine aZ.mk (λyT=>?_) (λyT=>?_)
 ·have yT:w=1:=cT yT;have yd:Da w=34:=b2 yT;refine b4.mk [] _ _ _ rfl rfl (bJ rfl) rfl ?_;refine cY.Bn a0 rfl rfl rfl (ι:=Nat×bj×Bool×aH) (λz=>{ bp:=[(10,.ref 10 0),(13,.val (.func (.func 182) #[] #[ptr dL,ptr b9,ptr gR,ptr dR,ptr b6])),(14,.val (ptr z.1)),(15,.val (.bool z.2.2.1))],cl:=[(10,[.slice none 0 0])],cO:=z.2.2.2,c5:=⟨z.1,.cells z.2.1.cells.toArray 36 (0,0)⟩::FT dR b6 dL b9 gR g u pa pn pc ca L.length cr (i:Int) 34 }) (λz=>(∀ b o,I b=some o->z.2.2.2 b=some o)/\o=bif z.2.2.1 then some z.2.1 else none) ?_ ?_
  ·refine aU.mk [.slice ca L.length cr] ⟨rfl,_,_,_,.inr ⟨_,.tail _ (.tail _ (.head _)),rfl,rfl⟩,rfl,rfl⟩ ?_;refine aU.mk [.int .i64 (i:Int)] ⟨rfl,_,_,_,.inr ⟨_,.tail _ (.head _),rfl,rfl⟩,rfl,rfl⟩ ?_;refine bt.mk sV i bI rfl Z ?_;refine aU.mk _ (aeQ _) ?_;refine aU.mk [.slice ca L.length cr] ⟨rfl,_,_,_,.inr ⟨_,.tail _ (.tail _ (.head _)),rfl,rfl⟩,rfl,rfl⟩ ?_;refine aU.mk [.int .i64 (i:Int)] ⟨rfl,_,_,_,.inr ⟨_,.tail _ (.head _),rfl,rfl⟩,rfl,rfl⟩ ?_;refine be.mk _ cP ?_;refine bt.mk sV (i+1) bI rfl hi ?_;refine aU.mk _ (C7 _) ?_;refine⟨?_,?_⟩
   ·refine a8.mk [] _ _ (.refl _) FU ?_;rintro v J N a4⟨-,rfl,s,b,rfl,aD,-⟩;refine bQ.mk λsY CW Jb=>?_;refine b4.mk [] (FT dR b6 dL b9 gR g u pa pn pc ca L.length cr (i:Int) 34) _ _ rfl rfl (bJ rfl) rfl ?_;exact⟨(sY,s,b,J),⟨a4,aD⟩,.refl,dM,.cons rfl (.nil)⟩
   ·refine bQ.mk λsY CW Jb=>?_;refine ev.mk _ FU ?_;rintro v J N a4⟨-,rfl,s,b,rfl,aD,-⟩;refine b4.mk [] (FT dR b6 dL b9 gR g u pa pn pc ca L.length cr (i:Int) 34) _ _ rfl rfl (bJ rfl) rfl ?_;exact⟨(sY,s,b,J),⟨a4,aD⟩,.refl,dM,.cons rfl (.nil)⟩
  rintro⟨sY,s,b,J⟩⟨a4,aD⟩;simp only at a4 aD;refine aZ.mk (λag=>?_) (λag=>?_)
  ·have ag:b=false:=by simpa using ag
   exact⟨_,_,.sub (fs _) .refl,a4,rfl,⟨[],none,0,0⟩,false,rfl,.no (by rw[r4,qV,aD,ag];rfl)⟩
  have ag:b=true:=by simpa using ag
  subst ag;have aD:o=some s:=aD;rw[aD]at qV;have qV:pb w (i:Int) S=some (qU (iO w) ((L.take i).map bV++j8 s::(L.drop (i+2)).map bV)):=qV;rw[qV]at r4;have r4:p0 g u path w (i:Int)=some (kp g u path (qU (iO w) ((L.take i).map bV++j8 s::(L.drop (i+2)).map bV))):=r4;have C4:=aek (g:=g) aeN qV;have rL:=ael qV;refine aU.mk s.cells ⟨rfl,_,_,_,.inr ⟨_,.head _,rfl,rfl⟩,rfl,rfl⟩ ?_;refine a8.vW λeY=>?_;obtain⟨bn,vQ⟩:=Nj _ eY.d eY.cu;have gf:∀ b o,I b=some o->vN J _ b=some o:=λb o h=>bn _ _ (a4 _ _ h);refine a8.sd _ [] [] _ (hS.all λ_ _=>am) (aeF (w:=w) (s:=s) (a6.mono gf) hw (aw.mono gf) (λd ai=>by have:=aC d ai;omega) x2 hu (aI.mono gf) cy (bZ.mono gf) Jp hi rfl C4 Z (vQ _ (.tail _ (.tail _ (.tail _ (.head _))))) (vQ _ (.tail _ (.tail _ (.head _)))) (by rw[yd];exact vQ _ (.tail _ (.head _))) (vQ _ (.tail _ (.tail _ (.tail _ (.tail _ (.tail _ (.head _))))))) (vQ _ (.tail _ (.tail _ (.tail _ (.tail _ (.head _))))))) ?_;rintro v cv N cj -⟨-,rfl,h,b,rfl,aM⟩;exact⟨_,_,.refl,λb o h=>cj _ _ (gf _ _ h),rfl,h,b,rfl,⟨by rw[aM.is];unfold jS;rw[r4],λag=>by
   obtain⟨eg,eV,bi,e0⟩:=aM.ok ag;exact⟨eg,eV,_,bi,r4,e0⟩⟩⟩
 ·have yT:¬ w=1:=dU yT;have yd:Da w=33:=bS yT;refine cY.Bn a0 rfl rfl rfl (ι:=Nat×bj×Bool×aH) (λz=>{ bp:=[(10,.ref 10 0),(13,.val (.func (.func 182) #[] #[ptr dL,ptr b9,ptr gR,ptr dR,ptr b6])),(14,.val (ptr z.1)),(15,.val (.bool z.2.2.1))],cl:=[(10,[.slice none 0 0])],cO:=z.2.2.2,c5:=⟨z.1,.cells z.2.1.cells.toArray 36 (0,0)⟩::FT dR b6 dL b9 gR g u pa pn pc ca L.length cr (i:Int) 33 }) (λz=>(∀ b o,I b=some o->z.2.2.2 b=some o)/\o=bif z.2.2.1 then some z.2.1 else none) ?_ ?_
  ·refine aU.mk [.slice ca L.length cr] ⟨rfl,_,_,_,.inr ⟨_,.tail _ (.tail _ (.head _)),rfl,rfl⟩,rfl,rfl⟩ ?_;refine aU.mk [.int .i64 (i:Int)] ⟨rfl,_,_,_,.inr ⟨_,.tail _ (.head _),rfl,rfl⟩,rfl,rfl⟩ ?_;refine bt.mk sV i bI rfl Z ?_;refine aU.mk _ (aeQ _) ?_;refine aU.mk [.slice ca L.length cr] ⟨rfl,_,_,_,.inr ⟨_,.tail _ (.tail _ (.head _)),rfl,rfl⟩,rfl,rfl⟩ ?_;refine aU.mk [.int .i64 (i:Int)] ⟨rfl,_,_,_,.inr ⟨_,.tail _ (.head _),rfl,rfl⟩,rfl,rfl⟩ ?_;refine be.mk _ cP ?_;refine bt.mk sV (i+1) bI rfl hi ?_;refine aU.mk _ (C7 _) ?_;refine⟨?_,?_⟩
   ·refine a8.mk [] _ _ (.refl _) FU ?_;rintro v J N a4⟨-,rfl,s,b,rfl,aD,-⟩;refine bQ.mk λsY CW Jb=>?_;refine b4.mk [] (FT dR b6 dL b9 gR g u pa pn pc ca L.length cr (i:Int) 33) _ _ rfl rfl (bJ rfl) rfl ?_;exact⟨(sY,s,b,J),⟨a4,aD⟩,.refl,dM,.cons rfl (.nil)⟩
   ·refine bQ.mk λsY CW Jb=>?_;refine ev.mk _ FU ?_;rintro v J N a4⟨-,rfl,s,b,rfl,aD,-⟩;refine b4.mk [] (FT dR b6 dL b9 gR g u pa pn pc ca L.length cr (i:Int) 33) _ _ rfl rfl (bJ rfl) rfl ?_;exact⟨(sY,s,b,J),⟨a4,aD⟩,.refl,dM,.cons rfl (.nil)⟩
  rintro⟨sY,s,b,J⟩⟨a4,aD⟩;simp only at a4 aD;refine aZ.mk (λag=>?_) (λag=>?_)
  ·have ag:b=false:=by simpa using ag
   exact⟨_,_,.sub (fs _) .refl,a4,rfl,⟨[],none,0,0⟩,false,rfl,.no (by rw[r4,qV,aD,ag];rfl)⟩
  have ag:b=true:=by simpa using ag
  subst ag;have aD:o=some s:=aD;rw[aD]at qV;have qV:pb w (i:Int) S=some (qU (iO w) ((L.take i).map bV++j8 s::(L.drop (i+2)).map bV)):=qV;rw[qV]at r4;have r4:p0 g u path w (i:Int)=some (kp g u path (qU (iO w) ((L.take i).map bV++j8 s::(L.drop (i+2)).map bV))):=r4;have C4:=aek (g:=g) aeN qV;have rL:=ael qV;refine aU.mk s.cells ⟨rfl,_,_,_,.inr ⟨_,.head _,rfl,rfl⟩,rfl,rfl⟩ ?_;refine a8.vW λeY=>?_;obtain⟨bn,vQ⟩:=Nj _ eY.d eY.cu;have gf:∀ b o,I b=some o->vN J _ b=some o:=λb o h=>bn _ _ (a4 _ _ h);refine a8.sd _ [] [] _ (hS.all λ_ _=>am) (aeF (w:=w) (s:=s) (a6.mono gf) hw (aw.mono gf) (λd ai=>by have:=aC d ai;omega) x2 hu (aI.mono gf) cy (bZ.mono gf) Jp hi rfl C4 Z (vQ _ (.tail _ (.tail _ (.tail _ (.head _))))) (vQ _ (.tail _ (.tail _ (.head _)))) (by rw[yd];exact vQ _ (.tail _ (.head _))) (vQ _ (.tail _ (.tail _ (.tail _ (.tail _ (.tail _ (.head _))))))) (vQ _ (.tail _ (.tail _ (.tail _ (.tail _ (.head _))))))) ?_;rintro v cv N cj -⟨-,rfl,h,b,rfl,aM⟩;exact⟨_,_,.refl,λb o h=>cj _ _ (gf _ _ h),rfl,h,b,rfl,⟨by rw[aM.is];unfold jS;rw[r4],λag=>by
   obtain⟨eg,eV,bi,e0⟩:=aM.ok ag;exact⟨eg,eV,_,bi,r4,e0⟩⟩⟩
def Uc(x:Nat×List Int)(w:Int)(bl:Int)(a:Option Addr)(c:Nat):Value:=.agg #[.int .u8 5,.int .u8 w,.int .i64 x.1,.slice a x.2.length c,.int .i64 bl]
def atp(p:List Int):(hR p).length=p.length:=by simp[hR]
def atq(p:List Int):fH (hR p)=true:=by
 unfold hR
 induction p with
 |nil=>rfl| cons x p aQ=>simpa[fH,Value.oneCell']using aQ
def atr(aI:cx I pa x.2.length pc 1 8 (hR x.2))(w bl:Int) :
  Spec Tryz.prog 181 [Jf (x.1:Int) pa x.2.length pc,.int .u8 w,.int .i64 bl] I [] λv I' M'=>(∀ b o,I b=some o->I' b=some o)/\M'=[]/\∃ a c,v=Uc x w bl a c/\cx I' a x.2.length c 1 8 (hR x.2):=by
 refine xF [] a0 Tryz.func181 rfl rfl rfl ?_;intro B ax;have hk:=aI.cap;obtain⟨u,path⟩:=x;refine cY.Oq (λi=>Nat.blt i 5) a0 rfl rfl rfl ?_;intro G g3;refine kv.T9 a0 rfl (e:=3) rfl rfl rfl hL (xs:=[]) (kL 1) (FH (g3 _ d8) rfl) (sa:=pa) (m:=path.length) (c':=pc) (FH (g3 _ d8) rfl) (b8:=hR path) (by rw[atp];exact(gM _).symm) (λh=>?_) (atq _) [] [] rfl (by unfold maxLen;show 0+_<=_;simp only at hk;omega) (by show(0+path.length)*8<=_;simp only at hk;omega) ?_
 ·obtain⟨aR,bI,di,cs,T,an,bE,ao⟩:=aI.rd.resolve_left ce;exact⟨aR,bI,di,cs,T,an,.inl bE,ao,aI.len⟩
 intro r0 nG Ua;intro eY;have nG:r0.n=path.length:=by rw[nG];exact dn _
 have dB:=Nc (J:=I) (e:=3) (b:=8) Ua (by rw[nG];simp only at hk;omega);rw[nG]at dB;refine⟨l2 I r0 3,[],Nb (λg _=>am),FI (M:=[]) eY.d,rfl,r0.a.map λg=>⟨g,0,none⟩,r0.c,?_,dB⟩;show Value.agg #[_,_,_,.slice _ r0.n _,_]=_;rw[nG];rfl
abbrev uj:=(Nat×List Int)×Int×Int
def xl(g:cE)(x:Nat×List Int):Nat:=match(bV (g.ds.getD x.1 jR).t).go x.2 with
 |some S=>S.sub.length| none=>0
def r5(ay:List Int)(g:cE)(x:Nat×List Int)(w:Int):Nat->Nat->List uj
 |0,_=>[]| n+1,j=>(bif jS ay g x.1 x.2 w (j:Int)then [(x,w,(j:Int))]else [])++r5 ay g x w n (j+1)
def p3(ay:List Int)(g:cE)(x:Nat×List Int)(k:Nat):Nat->Nat->List uj
 |0,_=>[]| n+1,w=>r5 ay g x (w:Int) k 0++p3 ay g x k n (w+1)
def yU(ay:List Int)(g:cE)(x:Nat×List Int):List uj:=p3 ay g x (xl g x) 3 1
def AT(ay:List Int)(g:cE):List uj:=(kU 0 g.ds).flatMap (yU ay g)
open Classical in
noncomputable def s4(ay:List Int)(g:cE):List uj:=if ∃ r,j6 ay g r/\r.2=0 then AT ay g else []
def Nt(af:j6 ay g r):s4 ay g=if r.2=0 then AT ay g else []:=by
 unfold s4;by_cases h:r.2=0
 ·rw[b2 h,b2 ⟨r,af,h⟩]
 ·rw[bS h,bS];rintro⟨v8,fB,bd⟩;rw[fB.eq af]at bd;exact h bd
def ats(hu:u<g.ds.length)(cy:(bV g.ds[u].t).go p=some S)(h:S.d.k≠iO w)(bl:Int):jS ay g u p w bl=false:=by unfold jS;rw[aeL hu cy,pb,bS λe=>h e.1];rfl
def aeR{ay:List Int}{g:cE}{x:Nat×List Int}{w:Int}(h:∀ j:Nat,jS ay g x.1 x.2 w (j:Int)=false):∀ n j,r5 ay g x w n j=[]
 |0,_=>rfl| n+1,j=>by rw[r5,h,aeR h n (j+1)];rfl
def aeS(ay:List Int)(g:cE)(x:Nat×List Int)(w:Int):∀ n j,(r5 ay g x w n j).length<=n
 |0,_=>cc _
 |n+1,j=>by
  have:=aeS ay g x w n (j+1);rw[r5,cn];cases jS ay g x.1 x.2 w (j:Int)<;>simp<;>omega
def att(l:List uj)(k:Nat)(vs:List Value)(I:aH):Prop:=∃ x w bl a c,l[k]?=some (x,w,bl)/\vs=[Uc x w bl a c]/\cx I a x.2.length c 1 8 (hR x.2)
def aeT(g:cE):Spec Tryz.prog 97 [g.val] I [] λr I' M'=>∃ b1,r=.func (.func 180) #[] #[ptr b1]/\I' b1=some (.cells #[.slice g.a g.n g.c] 28 (0,0))/\(∀ b o,I b=some o->I' b=some o)/\M'=[]:=by refine bU [1] a0 Tryz.func97 rfl rfl rfl ?_;intro B ax;refine bQ.mk λb1 ia MP=>?_;exact⟨_,_,.kZ rfl am .refl,b1,rfl,mg ..,j0 ia,rfl⟩
def aeU(au:t.ok I)(af:right t=true)(aC:t.n<=1048576){X:aP}(hB:bV t=X){r:Nat}(eb:t.bx=(r:Int))(eD:r<t.ns.length)(dB:cx J a n c 2 0 (L.flatMap bs.cells))(bZ:L.length=(nodeAt t.ns r).ap.length)(eG:∀ q (h:q<L.length),(L[q]).ok J/\pP t ((nodeAt t.ns r).ap.getD q 0) L[q]) :
  n=L.length/\vO J a c L/\L.map bV=X.sub/\(L.map (·.n)).sum<=274877906944/\L.length<=274877906944:=by
 rw[gr eD]at bZ eG;have pw:n=L.length:=by have:=dB.len;rw[T']at this;omega
 have aM:=jd.1 af;have eS:∀ q (h:q<L.length),lz L[q] (fm t.ns (t.ns[r].ap[q]' Z))/\eT (fm t.ns (t.ns[r].ap[q]' Z))/\ji (fm t.ns (t.ns[r].ap[q]' Z)):=λq h=>by
  have aa:=(eG q h).2;have aO:q<t.ns[r].ap.length:=by omega
  have e:t.ns[r].ap.getD q 0=t.ns[r].ap[q]:=by simp[bT,aO]
  rw[e]at aa;exact aep af eD (bK aO) aa
 have hm:L.map bV=X.sub:=by rw[<-hB,Jm af eb eD];show _=t.ns[r].ap.map (fm t.ns);refine oA (by simpa using bZ) λq aa ad=>?_;rw[gh,gh];obtain⟨fP,fr,kK⟩:=eS q rx;exact fP.bV fr kK
 have g7:=au.n;have dk:=C5 af;have ar2:dG X=(X.sub.map dG).sum+1:=by
  conv=>lhs;rw[X.eta]
  exact lD _ _
 have Fj:(L.map (·.n)).sum=(X.sub.map dG).sum:=by rw[<-hm,gj];congr 1;refine fR λy aG=>?_;obtain⟨q,aO,rfl⟩:=iI aG;obtain⟨fP,fr,kK⟩:=eS q aO;have aa:=congrArg List.length fP.aW;rw[bB,FK]at aa;have ad:=(eG q aO).1.n;show L[q].n=dG (bV L[q]);rw[fP.bV fr kK];omega
 have cQ:L.length<=(X.sub.map dG).sum:=by
  have:∀ l:List aP,l.length<=(l.map dG).sum:=λl=>by
   induction l with
   |nil=>exact cc _| cons x l aQ=>have:=AQ x;simp only[ep,b0,hr];omega
  have aa:=this X.sub;rw[<-hm,bB]at aa;rw[<-hm];exact aa
 rw[hB]at dk;have hk:=dB.cap;refine⟨pw,⟨?_,λy aG=>?_,Z,Z⟩,hm,Z,Z⟩
 ·rw[<-pw];exact⟨dB.len,⟨hk.1,Z⟩,dB.rd⟩
 ·obtain⟨q,aO,rfl⟩:=iI aG;obtain⟨fP,fr,kK⟩:=eS q aO;exact⟨(eG q aO).1,fP.right fr⟩
def aeV(atu:aP):∀ (i:Nat) (l:List aP),(∀ c∈l,∀ p∈c.paths,∃ S,c.go p=some S)->∀ q∈aP.vP i l,∃ j p S,∃ h:j<l.length,q=((i+j:Nat):Int)::p/\l[j].go p=some S
 |_,[],_,q,h=>by rw[aP.T4]at h;cases h
 |i,c::l,aQ,q,h=>by
  rw[aP.T3]at h;rcases c1.1 h with h | h;·obtain⟨p,aI,rfl⟩:=c3.1 h;obtain⟨S,cy⟩:=aQ c (.head _) p aI;exact⟨0,p,S,am,rfl,cy⟩
  ·obtain⟨j,p,S,ah,rfl,cy⟩:=aeV atu (i+1) l (λc ao=>aQ c (.tail _ ao)) q h;exact⟨j+1,p,S,d4,by rw[show i+1+j=i+(j+1) by omega],by simpa using cy⟩
def atv:∀ (T:aP),∀ p∈T.paths,∃ S,T.go p=some S:=by
 intro T
 induction T using aP.ind with
 |h d ks aQ=>
  intro p aI;rw[aP.Jo]at aI;rcases er.1 aI with rfl | aI;·exact⟨_,rfl⟩
  ·obtain⟨j,q,S,ah,rfl,cy⟩:=aeV (.mk d ks) 0 ks aQ p aI;refine⟨S,?_⟩;rw[aP.go];have jA:j<(aP.mk d ks).sub.length:=ah;rw[b2 Z];have e:(aP.mk d ks).sub.getD (((0+j:Nat):Int)).toNat (.mk d ks)=ks[j]:=by rw[dn];show ks.getD j _=_;rw[bT,dy ah];rfl
   rw[e];exact cy
def aeW:∀ (ds:List a3) (i:Nat),∀ x∈kU i ds,∃ j,∃ h:j<ds.length,x.1=i+j/\x.2∈(bV ds[j].t).paths
 |[],i,x,h=>by cases h
 |d::ds,i,x,h=>by
  rw[kU]at h;rcases c1.1 h with h | h;·obtain⟨p,aI,rfl⟩:=c3.1 h;exact⟨0,am,rfl,aI⟩
  ·obtain⟨j,ah,e,aI⟩:=aeW ds (i+1) x h;exact⟨j+1,d4,Z,by simpa using aI⟩
def aeX(h:x∈kU 0 g.ds):∃ hu:x.1<g.ds.length,∃ S,(bV g.ds[x.1].t).go x.2=some S:=by
 obtain⟨j,ah,e,aI⟩:=aeW g.ds 0 x h;obtain⟨u,p⟩:=x;simp only at e aI;obtain rfl:u=j:=by omega
 exact⟨ah,atv _ _ aI⟩
structure yV(ay:List Int)(I:aH)(g:cE):Prop where
 au:en I ay
 aw:g.ok I
 aC:∀ d∈g.ds,d.t.n<=549755813888
 ag:g.n<=1000000
 w5:(g.ds.map λd=>d.t.ns.length).sum<=1048576
 ae:∀ d∈g.ds,vg d.t
def yV.mono(h:yV ay I g)(bE:∀ b o,I b=some o->I' b=some o):yV ay I' g:=⟨h.au.mono bE,h.aw.mono bE,h.aC,h.ag,h.w5,h.ae⟩
def aeY(aI:yV ay I g)(ia:I b1=some (.cells #[.slice g.a g.n g.c] 28 (0,0))) :
  Vx Tryz.prog 180 [ptr b1] I (s4 ay g).length (att (s4 ay g)):=by
 intro y R k7 uK rq dA M0 nB h9;refine Bf [] a0 Tryz.func180 rfl rfl rfl ?_;intro B ax;have bo:∀ (I1:aH) (M:List aA),(∀ b o,I b=some o->I1 b=some o)->c6 I1 M ⟨b1,0,none⟩ 1 [.slice g.a g.n g.c]:=λI1 M c8=>⟨rfl,_,_,_,.inl (c8 _ _ ia),rfl,rfl⟩;have gx:=aI.mono nB;have ic:=aI.aw.n;refine aU.mk _ (bo _ _ nB) ?_;refine a8.mk [] M0 _ (.refl _) (St gx.au gx.aw gx.ae) ?_;rintro v I1 N c8⟨-,rfl,r,rfl,af⟩;have cQ:=Nt af;have Ud:∀ b o,I b=some o->I1 b=some o:=λb o h=>c8 _ _ (nB _ _ h);refine aZ.mk (λh=>?_) (λh=>?_)
 ·have hm:r.2≠0:=by have:(!decide (r.2=0))=true:=h;simpa using this
  rw[bS hm]at cQ;have eB:0=(s4 ay g).length:=by rw[cQ];rfl
  exact⟨_,_,.refl,.inl (eB ▸ uK _ _ _ _ c8 h9)⟩
 have hm:r.2=0:=by have:(!decide (r.2=0))=false:=h;simpa using this
 rw[b2 hm]at cQ;obtain⟨F,hw⟩:=af.Jh ic hm;rw[cQ]at rq |-;have Cn:=aI.mono Ud;refine aU.mk _ (bo _ _ Ud) ?_;refine a8.mk [] M0 _ (.refl _) (atc Cn.au Cn.aw aI.w5) ?_;rintro v ew N gq⟨-,os,L,rfl,b3,bZ,rfl,nS⟩;rw[b2 hw.m]at nS;have FO:∀ b o,I b=some o->ew b=some o:=λb o h=>gq _ _ (Ud _ _ h);have Fp:os.n=L.length:=by have:=b3.len;rw[hc _ 2 jk.cL]at this;omega
 have Jp:L.length<=1048576:=by have aa:=No g.ds 0 λd ai=>qT hw.m ai;have ad:=congrArg List.length nS;rw[bB]at ad;have:=aI.w5;omega
 have mQ:=uK _ _ _ _ (λb o h=>gq _ _ (c8 _ _ h)) h9;have atw:(AT ay g).drop 0=((L.map jk.nf).drop 0).flatMap (yU ay g):=by rw[tl,tl,nS];rfl
 have Hd:∀ d∈g.ds,d.t.n<=274877906944:=λd ai=>by have aj:=FR (xd (f:=λd:a3=>d.t.ns.length) ai);have aJ:=aI.w5;have bD:=(aI.aw.ds d ai).t.n;omega
 generalize AT ay g=sl at *;refine du.inv (ι:=Nat×Nat×aH×List aA) (λx=>{ bp:=[(0,.val (.func (.yield y) #[] #[])),(1,.val (ptr b1)),(16,.val os.val),(17,.val (.int .i64 os.n)),(18,.val (.int .i64 (x.1:Int)))],cl:=[],cO:=x.2.2.1,c5:=os.ar 84++x.2.2.2 }) (λx=>x.1<=os.n/\(∀ b o,ew b=some o->x.2.2.1 b=some o)/\R x.2.1 x.2.2.1 x.2.2.2/\x.2.1<=sl.length/\sl.drop x.2.1=((L.map jk.nf).drop x.1).flatMap (yU ay g)) (λx=>os.n-x.1) ?_ ?_
 ·exact⟨(0,0,ew,M0),⟨dQ _,λ_ _ h=>h,mQ,dQ _,atw⟩,.refl,hh,.nil⟩
 rintro⟨i,vx,J,M1⟩⟨hi,a4,hU,E1,kS⟩;simp only at hi a4 hU E1 kS;refine aZ.mk (λh=>?_) (λh=>?_)
 rotate_left
 ·have cV:¬ (i:Int)<(os.n:Int):=dU h;have aK:(L.map jk.nf).drop i=[]:=mc al';rw[aK,Pa,GA]at kS;have:vx=sl.length:=by omega
  subst this;exact⟨_,_,.sub (mL _ _) .refl,.inl hU⟩
 have a1:i<os.n:=by have:(i:Int)<(os.n:Int):=cT h;omega
 have cI:i<L.length:=by omega
 have Ue:∀ b o,I b=some o->J b=some o:=λb o h=>a4 _ _ (FO _ _ h);have Db:=aI.mono Ue;obtain⟨aR,bI,aeZ⟩:=aT.ok.row (I:=J) (M:=os.ar 84++M1) jk.cL bv b3 (e:=84) (λx ab=>iv _ ab) cI;have oZ:=(bZ _ (bK cI)).mono a4;have Fx:(L.map jk.nf).drop i=L[i].nf::(L.map jk.nf).drop (i+1):=by rw[e2 (by rw[bB];exact cI),gh]
 have ka:L[i].nf∈kU 0 g.ds:=by rw[<-nS];exact xd (bK cI)
 rw[Fx]at kS;generalize L[i]=x at *;obtain⟨u,path,xa,xc⟩:=x;obtain⟨hu,S,cy⟩:=aeX ka;simp only[jk.nf]at hu cy kS ka;rw[iA]at kS;have Uf:cx J xa path.length xc 1 8 (hR path):=oZ.bb;have nT:g.ds.getD u jR=g.ds[u]:=by simp[bT,hu]
 have atx:xl g (u,path)=S.sub.length:=by unfold xl;simp only[nT,cy]
 have eW:pZ g (u:Int) path=some S:=by unfold pZ;rw[b2 Z,hC,nT,cy]
 have aty:=c9 (i:=i) Z;refine bt.mk aR i bI rfl a1 ?_;refine aU.mk [.int .i64 (u:Int),.slice xa path.length xc] aeZ ?_;have FF:=ad7 (M0:=[]) Db.au.c Db.aw (T8 hw.m aI.aC) (rule:=(u:Int)) Uf;rw[eW]at FF;refine aU.mk _ (bo _ _ Ue) ?_;refine a8.mk [] _ _ (.refl _) FF ?_;rintro v cv N cj⟨-,rfl,t,rfl,au,dp,bf,s3⟩;have aeA:∀ b o,ew b=some o->cv b=some o:=λb o h=>cj _ _ (a4 _ _ h);have o5:=dp.right bf;have h':=dp.bV bf s3;obtain⟨g0,hy⟩:=kE o5;obtain⟨k,ae⟩:=eh g0;have c4:k<t.ns.length:=by omega
 have aeO:dG S<=1048576:=by have aa:=Jj (X:=j8 bj.zero) path _ cy;have ad:=C5 (qT hw.m (bK hu));have aj:=FR (xd (f:=λd:a3=>d.t.ns.length) (bK hu));have aJ:=aI.w5;have bD:dG (j8 bj.zero)=1:=lD _ _;have cG:=AQ ((bV g.ds[u].t).put path (j8 bj.zero));omega
 have g7:t.n<=1048576:=by have aa:=congrArg List.length dp.aW;rw[bB,FK]at aa;have:=au.n;omega
 refine aZ.mk (λh=>ci) (λ_=>?_);refine a8.mk [] _ _ (.refl _) (TV (M0:=[]) (Db.au.mono cj) au o5 Z ae) ?_;rintro v hN N hY⟨-,rfl,ca,aF,cr,jz,rfl,dB,AU,eG⟩;obtain⟨rfl,Ug,Nu,Uh,Ui⟩:=aeU au o5 g7 h' ae c4 dB AU eG;have eH:S.sub.length=jz.length:=by rw[<-Nu,bB]
 have Ju:∀ b o,J b=some o->hN b=some o:=λb o h=>hY _ _ (cj _ _ h);have ayC:jz.length<=1048576:=by
  have aa:S.sub.length<=(S.sub.map dG).sum:=by
   have:∀ l:List aP,l.length<=(l.map dG).sum:=λl=>by
    induction l with
    |nil=>exact cc _| cons x l aQ=>have:=AQ x;simp only[ep,b0,hr];omega
   exact this _
  have ad:dG S=(S.sub.map dG).sum+1:=by
   conv=>lhs;rw[S.eta]
   exact lD _ _
  omega
 have ae0:∀ b o,I b=some o->hN b=some o:=λb o h=>Ju _ _ (Ue _ _ h);have IP:=au.mono hY;have yw:=uK _ _ _ _ Ju hU;rw[show yU ay g (u,path)=p3 ay g (u,path) jz.length 3 1 by unfold yU;rw[atx,eH]]at kS;clear FF eG AU dB oZ dp aeZ bI;generalize re:((L.map jk.nf).drop (i+1)).flatMap (yU ay g)=bm at kS;refine du.inv (ι:=Nat×Nat×aH×List aA) (λz=>{ bp:=[(0,.val (.func (.yield y) #[] #[])),(1,.val (ptr b1)),(4,.ref 4 0),(5,.ref 5 0),(7,.val (.slice ca jz.length cr)),(8,.val (.int .u8 (z.1:Int))),(16,.val os.val),(17,.val (.int .i64 os.n)),(18,.val (.int .i64 (i:Int)))],cl:=[(4,[.int .i64 (u:Int),.slice xa path.length xc]),(5,t.cells)],cO:=z.2.2.1,c5:=os.ar 84++z.2.2.2 }) (λz=>(1<=z.1/\z.1<=4)/\(∀ b o,hN b=some o->z.2.2.1 b=some o)/\R z.2.1 z.2.2.1 z.2.2.2/\z.2.1<=sl.length/\sl.drop z.2.1=p3 ay g (u,path) jz.length (4-z.1) z.1++bm) (λz=>4-z.1) ?_ ?_
 ·exact⟨(1,vx,hN,M1),⟨⟨cc _,show 1<=4 by decide⟩,λ_ _ h=>h,yw,E1,kS⟩,.refl,mG,.cons rfl (.cons rfl (.nil))⟩
 rintro⟨w,Uj,K,dv⟩⟨⟨yT,T1⟩,dj,Nv,Nw,Dc⟩;simp only at yT T1 dj Nv Nw Dc;have ayD:∀ b o,I b=some o->K b=some o:=λb o h=>dj _ _ (ae0 _ _ h);refine aZ.mk (λh=>?_) (λh=>?_)
 rotate_left
 ·have cV:¬ (w:Int)<4:=dU h;obtain rfl:w=4:=by omega
  rw[show 4-4=0 from rfl,p3,hI,<-re]at Dc;refine be.mk _ aty ?_;exact⟨(i+1,Uj,K,dv),⟨⟨a1,λb o h=>dj _ _ (Ju _ _ (a4 _ _ h)),Nv,Nw,Dc⟩,ce⟩,.refl,hh,.nil⟩
 have ae1:w<4:=by have:(w:Int)<4:=cT h;omega
 have Jv:IntKind.u8.wrap ((w:Int)+1)=((w+1:Nat):Int):=by rw[show((w:Int)+1)=((w+1:Nat):Int) by omega];exact ak8 _ Z
 rw[show 4-w=(4-(w+1))+1 by omega,p3,dW]at Dc;refine a8.mk [] _ _ (.refl _) (aeK (M0:=[]) (IP.mono dj) o5 (w:Int)) ?_;rintro v om N -⟨ae2,rfl,b,rfl,ag⟩;subst om;rw[h']at ag;refine aZ.mk (λh=>?_) (λh=>?_)
 ·have yW:b=false:=by have:(!b)=true:=h;simpa using this
  have bz:S.d.k≠iO (w:Int):=dU (by rw[<-ag,yW]);rw[aeR (λj=>ats hu cy bz _),hI]at Dc;refine be.mk _ Jv ?_;exact⟨(w+1,Uj,K,dv),⟨⟨⟨Z,ae1⟩,dj,Nv,Nw,Dc⟩,ce⟩,.refl,mG,.cons rfl (.cons rfl (.nil))⟩
 have vR:b=true:=by have:(!b)=false:=h;simpa using this
 have uQ:S.d.k=iO (w:Int):=cT (by rw[<-ag,vR]);have Ir:=aI.aw;refine du.inv (ι:=Nat×Nat×aH×List aA) (λz=>{ bp:=[(0,.val (.func (.yield y) #[] #[])),(1,.val (ptr b1)),(4,.ref 4 0),(5,.ref 5 0),(7,.val (.slice ca jz.length cr)),(8,.val (.int .u8 (w:Int))),(16,.val os.val),(17,.val (.int .i64 os.n)),(18,.val (.int .i64 (i:Int))),(41,.val (.int .i64 (jz.length:Int))),(42,.val (.int .i64 (z.1:Int)))],cl:=[(4,[.int .i64 (u:Int),.slice xa path.length xc]),(5,t.cells)],cO:=z.2.2.1,c5:=os.ar 84++z.2.2.2 }) (λz=>z.1<=jz.length/\(∀ b o,K b=some o->z.2.2.1 b=some o)/\R z.2.1 z.2.2.1 z.2.2.2/\z.2.1<=sl.length/\sl.drop z.2.1=r5 ay g (u,path) (w:Int) (jz.length-z.1) z.1++(p3 ay g (u,path) jz.length (4-(w+1)) (w+1)++bm)) (λz=>jz.length-z.1) ?_ ?_
 ·exact⟨(0,Uj,K,dv),⟨dQ _,λ_ _ h=>h,Nv,Nw,Dc⟩,.refl,Gp,.cons rfl (.cons rfl (.nil))⟩
 rintro⟨j,AV,Q,oB⟩⟨ah,kd,Nx,Uk,uk⟩;simp only at ah kd Nx Uk uk;have Jw:∀ b o,hN b=some o->Q b=some o:=λb o h=>kd _ _ (dj _ _ h);have Ul:∀ b o,I b=some o->Q b=some o:=λb o h=>Jw _ _ (ae0 _ _ h);refine aZ.mk (λh=>?_) (λh=>?_)
 rotate_left
 ·have cV:¬ (j:Int)<(jz.length:Int):=dU h;have eB:jz.length-j=0:=by omega
  rw[eB,r5,hI]at uk;refine be.mk _ Jv ?_;exact⟨(w+1,AV,Q,oB),⟨⟨⟨Z,ae1⟩,Jw,Nx,Uk,uk⟩,ce⟩,.refl,mG,.cons rfl (.cons rfl (.nil))⟩
 have ae3:j<jz.length:=by have:(j:Int)<(jz.length:Int):=cT h;omega
 rw[show jz.length-j=(jz.length-(j+1))+1 by omega,r5,dW]at uk;have ae4:=aI.mono Ul;have DZ:=aeM ae4.au hw ae4.aw (λd ai=>Hd d ai) aI.ag hu (pa:=xa) (pn:=path.length) (pc:=xc) (Uf.mono (λb o h=>Jw _ _ (Ju _ _ h))) cy (Ug.mono Jw) ⟨Uh,Ui⟩ Nu (w:=(w:Int)) Z uQ (bl:=(j:Int)) ⟨Z,Z⟩;have ae5:=c9 (i:=j) Z;refine aU.mk _ (bo _ _ Ul) ?_;refine a8.mk [] _ _ (.refl _) DZ ?_;rintro v Um N Ny⟨-,rfl,h,b,rfl,atz⟩;have Jx:=atz.is;have atA:∀ b o,K b=some o->Um b=some o:=λb o h=>Ny _ _ (kd _ _ h);refine aZ.mk (λag=>?_) (λag=>?_)
 ·have yW:b=false:=by have:(!b)=true:=ag;simpa using this
  have ba:jS ay g (u,path).1 (u,path).2 (w:Int) (j:Int)=false:=by rw[<-yW];exact Jx.symm
  rw[ba]at uk;refine be.mk _ ae5 ?_;exact⟨(j+1,AV,Um,oB),⟨⟨ae3,atA,uK _ _ _ _ Ny Nx,Uk,uk⟩,ce⟩,.refl,Gp,.cons rfl (.cons rfl (.nil))⟩
 have vR:b=true:=by have:(!b)=false:=ag;simpa using this
 have ba:jS ay g (u,path).1 (u,path).2 (w:Int) (j:Int)=true:=by rw[<-vR];exact Jx.symm
 rw[ba]at uk;have uk:sl.drop AV=((u,path),(w:Int),(j:Int))::(r5 ay g (u,path) (w:Int) (jz.length-(j+1)) (j+1)++(p3 ay g (u,path) jz.length (4-(w+1)) (w+1)++bm)):=uk;have Ij:AV<sl.length:=by have:=congrArg List.length uk;rw[py,ep]at this;omega
 have eS:sl[AV]?=some ((u,path),(w:Int),(j:Int)):=by
  have aa:(sl.drop AV)[0]?=some ((u,path),(w:Int),(j:Int)):=by rw[uk];rfl
  rwa [oq,pg]at aa
 have atB:cx Um xa path.length xc 1 8 (hR path):=Uf.mono (λb o h=>Ny _ _ (Jw _ _ (Ju _ _ h)));refine a8.mk [] _ _ (.refl _) (atr (x:=(u,path)) atB (w:Int) (j:Int)) ?_;rintro v ae6 N atC⟨-,rfl,sa,Hh,rfl,IR⟩;have Un:∀ b o,Q b=some o->ae6 b=some o:=λb o h=>atC _ _ (Ny _ _ h);refine bC.yield rfl am rfl rfl ?_;have aG:=rq AV Ij [Uc (u,path) (w:Int) (j:Int) sa Hh] ae6 oB (λb o h=>Un _ _ (Ul _ _ h)) ⟨(u,path),(w:Int),(j:Int),sa,Hh,eS,rfl,IR⟩ (uK _ _ _ _ Un Nx);refine Br.mk oB (os.ar 84) _ (eN (l₁:=os.ar 84) (l₂:=oB)) aG ?_;rintro aaj atD qm atE (⟨rfl,L5⟩ | ⟨rfl,ab⟩)
 ·refine aZ.mk (λh=>d7) (λ_=>?_);refine be.mk _ ae5 ?_;refine⟨(j+1,AV+1,atD,qm),⟨⟨ae3,λb o h=>atE _ _ (Un _ _ (kd _ _ h)),L5,Ij,?_⟩,ce⟩,.perm eN .refl,Gp,.cons rfl (.cons rfl (.nil))⟩;simp only;rw[<-Dz,uk];rfl
 ·refine aZ.mk (λ_=>?_) (λh=>d7);exact⟨_,_,.sub (w6 _ _) .refl,.inr ab⟩
def my:cE:=⟨[],none,0,0⟩
section
end
section
end
section
end
def atF{l m:List α}{k:Nat}(az:k<l.length)(hm:k<m.length)(h:l.take k=m.take k)(e:l[k]=m[k]):l.take (k+1)=m.take (k+1):=by rw[gk az,gk hm,h,e]
def atG{l m:List α}{k:Nat}(az:k<l.length)(hm:k<m.length)(e:¬ l[k]=m[k]):¬ l=m:=λh=>by subst h;exact e rfl
def atH{bN:Option Addr}{hM ik:Nat}{l eF:List Int}(h:cx I a n c 1 b (l.map (.int .i64 ·)))(bd:cx I bN hM c' 1 ik (eF.map (.int .i64 ·)))(ag:n<=140737488355327):Spec Tryz.prog 231 [.slice a n c,.slice bN hM c'] I M0 λv I' M'=>v=.bool (decide (l=eF))/\I'=I/\M'=M0:=by
 refine bU [] a0 Tryz.func231 rfl rfl rfl ?_;intro B ax;have az:l.length=n:=by simpa using h.len
 have pk:eF.length=hM:=by simpa using bd.len
 by_cases aC:n=hM
 rotate_left
 ·refine aZ.mk (λ_=>?_) (λh=>absurd h d4);exact⟨_,_,.refl,by rw[e8 λe=>aC (by rw[<-az,<-pk,e])],rfl,rfl⟩
 subst aC;refine aZ.mk (λh=>absurd h am) (λ_=>?_);refine du.inv (ι:=Nat) (λk=>{ bp:=[(0,.val (.slice a n c)),(1,.val (.slice bN n c')),(12,.val (.int .i64 n)),(13,.val (.int .i64 k))],cO:=I,c5:=M0 }) (λk=>k<=n/\l.take k=eF.take k) (λk=>n-k) ?_ ?_
 ·exact⟨0,⟨dQ _,rfl⟩,.refl,dM,.nil⟩
 rintro k⟨ae,au⟩;refine aZ.mk (λad=>?_) (λad=>?_)
 ·have a1:k<n:=by have:(k:Int)<(n:Int):=cT ad;omega
  have c4:k<l.length:=by omega
  have n3:k<eF.length:=by omega
  obtain⟨aR,bI,bo⟩:=h.one a1 c4;obtain⟨sV,w4,o0⟩:=bd.one a1 n3;have hex:=atF c4 n3 au;have bz:=atG c4 n3;generalize l[k]=x at bo hex bz;generalize eF[k]=y at o0 hex bz;refine cY.draw a0 rfl rfl rfl ?_;refine bt.mk aR k bI rfl a1 ?_;refine aU.mk _ (bo _) ?_;refine bt.mk sV k w4 rfl a1 ?_;refine aU.mk _ (o0 _) ?_;by_cases e:x=y;·refine aZ.mk (λh=>absurd h (by simp[e])) (λ_=>?_);refine be.mk _ (c9 (i:=k) Z) ?_;exact⟨k+1,⟨⟨a1,hex e⟩,Z⟩,.refl,dM,.nil⟩
  ·refine aZ.mk (λ_=>?_) (λh=>absurd h (by simp[e]));exact⟨_,_,.refl,by rw[e8 (bz e)],rfl,rfl⟩
 ·have cV:k=n:=by have:¬ (k:Int)<(n:Int):=dU ad;omega
  subst cV;rw[fD Z,fD Z]at au;exact⟨_,_,.refl,by rw[gy au],rfl,rfl⟩
def um(x y:al):Bool:=decide (x.k=y.k)&&((decide (x.cf=y.cf)&&(decide (x.s1=y.s1)&&(decide (x.s2=y.s2)&&decide (x.cH=y.cH))))&&(decide (x.t=y.t)&&(decide (x.lo=y.lo)&&(decide (x.hi=y.hi)&&decide (x.ap=y.ap)))))
def ae7(x y:al):um x y=true ↔ x.k=y.k/\(x.cf=y.cf/\x.s1=y.s1/\x.s2=y.s2/\x.cH=y.cH)/\x.t=y.t/\x.lo=y.lo/\x.hi=y.hi/\x.ap=y.ap:=by simp only[um,cC,h3]
def atI{x y:al}(ab:x.ok I)(aG:y.ok I):Spec Tryz.prog 155 [x.val,y.val] I M0 λv I' M'=>v=.bool (um x y)/\I'=I/\M'=M0:=by
 refine bU [] a0 Tryz.func155 rfl rfl rfl ?_;intro B ax;have atJ:x.aF<=x.cr/\x.aF*8<=140737488355328:=ab.bb.cap;have m7:=ab.bb;have ae8:=aG.bb;obtain⟨k,cf,s1,s2,cH,t,lo,hi,ca,aF,cr,ap⟩:=x;obtain⟨e4,Nz,NA,NB,NC,bi,Aa,cz,ae9,afa,afb,Uo⟩:=y;simp only at m7 ae8 atJ;have no:∀ {P:Prop},(P->¬ (k=e4/\((cf=Nz/\s1=NA/\s2=NB/\cH=NC)/\t=bi/\lo=Aa/\hi=cz/\ap=Uo)))->P->Value.bool false=.bool (um ⟨k,cf,s1,s2,cH,t,lo,hi,ca,aF,cr,ap⟩ ⟨e4,Nz,NA,NB,NC,bi,Aa,cz,ae9,afa,afb,Uo⟩):=λh p=>by
  cases ag:um ⟨k,cf,s1,s2,cH,t,lo,hi,ca,aF,cr,ap⟩ ⟨e4,Nz,NA,NB,NC,bi,Aa,cz,ae9,afa,afb,Uo⟩with
  |false=>rfl| true=>exact absurd ((ae7 _ _).1 ag) (h p)
 by_cases a':k=e4
 rotate_left
 ·refine b5.mk (λbd=>absurd bd (by simp[a'])) (λ_=>?_);exact⟨_,_,.refl,no (λh ad=>h ad.1) a',rfl,rfl⟩
 refine b5.mk (λ_=>?_) (λbd=>absurd bd (by simp[a']));refine fL.Km a0 (e:=34) rfl rfl rfl rfl d0 ?_;by_cases bh:cf=Nz/\s1=NA/\s2=NB/\cH=NC
 rotate_left
 ·refine b5.mk (λbd=>absurd bd (by simpa using bh)) (λ_=>?_);exact⟨_,_,.refl,no (λh ad=>h ad.2.1) bh,rfl,rfl⟩
 refine b5.mk (λ_=>?_) (λbd=>absurd bd (by simp[bh]));by_cases bW:t=bi
 rotate_left
 ·refine b5.mk (λbd=>absurd bd (by simp[bW])) (λ_=>?_);exact⟨_,_,.refl,no (λh ad=>h ad.2.2.1) bW,rfl,rfl⟩
 refine b5.mk (λ_=>?_) (λbd=>absurd bd (by simp[bW]));by_cases fu:lo=Aa
 rotate_left
 ·refine b5.mk (λbd=>absurd bd (by simp[fu])) (λ_=>?_);exact⟨_,_,.refl,no (λh ad=>h ad.2.2.2.1) fu,rfl,rfl⟩
 refine b5.mk (λ_=>?_) (λbd=>absurd bd (by simp[fu]));by_cases k9:hi=cz
 rotate_left
 ·refine b5.mk (λbd=>absurd bd (by simp[k9])) (λ_=>?_);exact⟨_,_,.refl,no (λh ad=>h ad.2.2.2.2.1) k9,rfl,rfl⟩
 refine b5.mk (λ_=>?_) (λbd=>absurd bd (by simp[k9]));refine a8.whole _ (atH m7 ae8 (show aF<=_ by omega)) ?_;rintro v J N -⟨rfl,a4,gJ⟩;subst J;subst N;refine⟨_,_,.refl,?_,rfl,rfl⟩;obtain⟨eg,eV,e0,iZ⟩:=bh;congr 1;rw[r8,ae7,decide_eq_true_iff];exact⟨λh=>⟨a',⟨eg,eV,e0,iZ⟩,bW,fu,k9,h⟩,λh=>h.2.2.2.2.2⟩
def kq{α:Type}(q:α->α->Bool):List α->List α->Bool
 |[],[]=>true| a::l,b::m=>q a b&&kq q l m| _,_=>false
def afc:∀ l m:List al,kq um (l.map al.aW) (m.map al.aW)=kq um l m
 |[],[]=>rfl| [],_::_=>rfl| _::_,[]=>rfl| a::l,b::m=>by rw[b0,b0,kq,kq,afc l m];rfl
def Up{α:Type}(q:α->α->Bool):∀ l m:List α,l.length≠m.length->kq q l m=false
 |[],[],h=>absurd rfl h| [],_::_,_=>rfl| _::_,[],_=>rfl| a::l,b::m,h=>by rw[kq,Up q l m i5,Nl]
def atK{s:bs}(av:s.ok I)(au:t.ok I):Spec Tryz.prog 153 [.slice s.a s.n s.c,.slice t.a t.n t.c,.func (.func 155) #[] #[]] I M0 λv I' M'=>v=.bool (kq um s.ns t.ns)/\I'=I/\M'=M0:=by
 refine bU [] a0 Tryz.func153 rfl rfl rfl ?_;intro B ax;have lr:=av.n;have g7:=au.n;have hk:=av.bb.cap;by_cases aC:s.n=t.n
 rotate_left
 ·refine aZ.mk (λ_=>?_) (λh=>absurd h d4);exact⟨_,_,.refl,by rw[Up _ _ _ Z],rfl,rfl⟩
 refine aZ.mk (λh=>absurd h (by simp[aC])) (λ_=>?_);refine du.inv (ι:=Nat) (λk=>{ bp:=[(1,.val (.slice t.a t.n t.c)),(2,.val (.func (.func 155) #[] #[])),(15,.val (.slice s.a s.n s.c)),(16,.val (.int .i64 s.n)),(17,.val (.int .i64 k))],cO:=I,c5:=M0 }) (λk=>k<=s.n/\kq um s.ns t.ns=kq um (s.ns.drop k) (t.ns.drop k)) (λk=>s.n-k) ?_ ?_
 ·exact⟨0,⟨dQ _,rfl⟩,.refl,hh,.nil⟩
 rintro k⟨ae,he⟩;refine aZ.mk (λad=>?_) (λad=>?_)
 ·have a1:k<s.n:=by have:(k:Int)<(s.n:Int):=cT ad;omega
  have c4:k<s.ns.length:=by omega
  have n3:k<t.ns.length:=by omega
  obtain⟨aR,bI,bo⟩:=av.bb.row al.cL a1 c4;obtain⟨sV,w4,o0⟩:=au.bb.row al.cL (show k<t.n by omega) n3;have ab:=av.ns _ (bK c4);have aG:=au.ns _ (bK n3);rw[e2 c4,e2 n3,kq]at he;generalize s.ns[k]=x at bo ab he;generalize t.ns[k]=y at o0 aG he;refine bt.mk aR k bI rfl a1 ?_;refine aU.mk _ (bo _) ?_;refine bt.mk sV k w4 rfl Z ?_;refine aU.mk _ (o0 _) ?_;refine a8.whole _ (atI ab aG) ?_;rintro v J N -⟨rfl,a4,gJ⟩;subst J;subst N;cases e:um x y with
  |true=>refine aZ.mk (λh=>absurd h am) (λ_=>?_);refine be.mk _ (c9 (i:=k) Z) ?_;exact⟨k+1,⟨⟨a1,by rw[he,e,nY]⟩,Z⟩,.refl,hh,.nil⟩| false=>refine aZ.mk (λ_=>?_) (λh=>absurd h am);exact⟨_,_,.refl,by rw[he,e,xK],rfl,rfl⟩
 ·have cV:k=s.n:=by have:¬ (k:Int)<(s.n:Int):=dU ad;omega
  subst cV;rw[oU Z,oU Z]at he;exact⟨_,_,.refl,by rw[he];rfl,rfl,rfl⟩
def vS(a b:bs):Bool:=decide (a.n=b.n)&&(right a&&(right b&&kq um (nI a.ns a.bx) (nI b.ns b.bx)))
def atL(a6:en I ay){a b:bs}(a7:a.ok I)(ag:b.ok I)(aC:a.n<=1099511627776):Spec Tryz.prog 74 [a.val,b.val] I M0 λv I' M'=>v=.bool (vS a b)/\(∀ c o,I c=some o->I' c=some o)/\M'=M0:=by
 refine bU [] a0 Tryz.func74 rfl rfl rfl ?_;intro B ax;have mX:=a7.n;have Dr:=ag.n;by_cases aa:a.n=b.n
 rotate_left
 ·refine b5.mk (λbd=>absurd bd d4) (λ_=>?_);exact⟨_,_,.refl,by rw[vS,e8 aa,xK],λ_ _ h=>h,rfl⟩
 refine b5.mk (λ_=>?_) (λbd=>absurd bd WP);refine a8.mk [] M0 _ (.refl _) (nx a6.c a7) ?_;rintro v J N -⟨rfl,a4,rfl⟩;subst J;cases ad:right a with
 |false=>refine b5.mk (λbd=>absurd bd am) (λ_=>?_);exact⟨_,_,.refl,by rw[vS,ad,xK,Nl],λ_ _ h=>h,rfl⟩| true=>
 refine b5.mk (λ_=>?_) (λbd=>absurd bd am);refine a8.mk [] M0 _ (.refl _) (nx a6.c ag) ?_;rintro v J N -⟨rfl,a4,rfl⟩;subst J;cases aj:right b with
 |false=>refine aZ.mk (λ_=>?_) (λbd=>absurd bd am);exact⟨_,_,.refl,by rw[vS,aj,xK,Nl,Nl],λ_ _ h=>h,rfl⟩| true=>
 refine aZ.mk (λbd=>absurd bd am) (λ_=>?_);obtain⟨atM,ayE⟩:=kE ad;obtain⟨atN,ayF⟩:=kE aj;obtain⟨s0,atO⟩:=eh atM;obtain⟨rb,o4⟩:=eh atN;have afd:=IL (M0:=M0) a7 ad aC (node:=s0) Z;rw[<-atO]at afd;refine cY.draw a0 rfl rfl rfl ?_;refine ev.whole _ afd (λv I' M' h x ab=>Pi) ?_;rintro v J N -⟨a4,gJ,wB,rfl,ua,atP⟩;subst N;have afe:=IL (M0:=M0) (ag.mono a4) aj Z (node:=rb) Z;rw[<-o4]at afe;refine ev.whole _ afe (λv I' M' h x ab=>Pi) ?_;rintro v cv N -⟨cj,gJ,atQ,rfl,BS,atS⟩;subst N;refine a8.whole _ (atK (ua.mono cj) BS) ?_;rintro v hN N -⟨rfl,hY,gJ⟩;subst hN;subst N;refine⟨_,_,.refl,?_,λc o h=>cj _ _ (a4 _ _ h),rfl⟩;rw[vS,gy aa,ad,aj,<-atP.aW,<-atS.aW,afc];rfl
def qW(d e:a3):Bool:=decide (d.name=e.name)&&vS d.t e.t
def p6(g h:cE):Bool:=kq qW g.ds h.ds
def atT(a b:bs):vS a.aW b.aW=vS a b:=by unfold vS;rw[tO,tO];have aK:nI a.aW.ns a.aW.bx=nI a.ns a.bx:=X9 a.ns a.bx;have ba:nI b.aW.ns b.aW.bx=nI b.ns b.bx:=X9 b.ns b.bx;rw[aK,ba];rfl
def aff(g h:cE):p6 g.aW h.aW=p6 g h:=by
 unfold p6;show kq qW (g.ds.map a3.aW) (h.ds.map a3.aW)=_;have:∀ l m:List a3,kq qW (l.map a3.aW) (m.map a3.aW)=kq qW l m:=by
  intro l
  induction l with
  |nil=>intro m;cases m<;>rfl
  |cons a l aQ=>
   intro m;cases m with
   |nil=>rfl| cons b m=>rw[b0,b0,kq,kq,aQ];congr 1;unfold qW;have aK:vS a.aW.t b.aW.t=vS a.t b.t:=atT a.t b.t;rw[aK];rfl
 exact this _ _
def atU(a6:en I ay){d e:a3}(ai:d.ok I)(he:e.ok I)(aC:d.t.n<=1099511627776):Spec Tryz.prog 236 [.agg d.cells.toArray,.agg e.cells.toArray] I M0 λv I' M'=>v=.bool (qW d e)/\(∀ c o,I c=some o->I' c=some o)/\M'=M0:=by
 refine bU [] a0 Tryz.func236 rfl rfl rfl ?_;intro B ax;obtain⟨nm,t⟩:=d;obtain⟨atV,bi⟩:=e;by_cases h:nm=atV
 ·refine b5.mk (λ_=>?_) (λbd=>absurd bd (by simp[h]));refine a8.whole _ (atL a6 ai.t he.t aC) ?_;rintro v J N -⟨rfl,a4,gJ⟩;subst N;exact⟨_,_,.refl,by rw[qW,gy h,nY],a4,rfl⟩
 ·refine b5.mk (λbd=>absurd bd (by simp[h])) (λ_=>?_);exact⟨_,_,.refl,by rw[qW,e8 h,xK],λ_ _ h=>h,rfl⟩
def atW(a6:en I ay){s t:cE}(av:s.ok I)(au:t.ok I)(ag:∀ d∈s.ds,d.t.n<=1099511627776):Spec Tryz.prog 235 [.slice s.a s.n s.c,.slice t.a t.n t.c,.func (.func 236) #[] #[]] I M0 λv I' M'=>v=.bool (p6 s t)/\(∀ c o,I c=some o->I' c=some o)/\M'=M0:=by
 refine bU [] a0 Tryz.func235 rfl rfl rfl ?_;intro B ax;have lr:=av.n;have g7:=au.n;have hk:=av.bb.cap;unfold p6;by_cases aC:s.n=t.n
 rotate_left
 ·refine aZ.mk (λ_=>?_) (λh=>absurd h d4);exact⟨_,_,.refl,by rw[Up _ _ _ Z],λ_ _ h=>h,rfl⟩
 refine aZ.mk (λh=>absurd h (by simp[aC])) (λ_=>?_);refine du.inv (ι:=Nat×aH) (λx=>{ bp:=[(1,.val (.slice t.a t.n t.c)),(2,.val (.func (.func 236) #[] #[])),(15,.val (.slice s.a s.n s.c)),(16,.val (.int .i64 s.n)),(17,.val (.int .i64 x.1))],cO:=x.2,c5:=M0 }) (λx=>x.1<=s.n/\kq qW s.ds t.ds=kq qW (s.ds.drop x.1) (t.ds.drop x.1)/\∀ c o,I c=some o->x.2 c=some o) (λx=>s.n-x.1) ?_ ?_
 ·exact⟨(0,I),⟨dQ _,rfl,λ_ _ h=>h⟩,.refl,hh,.nil⟩
 rintro⟨k,J⟩⟨ae,he,a4⟩;simp only at ae he a4;refine aZ.mk (λad=>?_) (λad=>?_)
 ·have a1:k<s.n:=by have:(k:Int)<(s.n:Int):=cT ad;omega
  have c4:k<s.ds.length:=by omega
  have n3:k<t.ds.length:=by omega
  obtain⟨aR,bI,bo⟩:=(av.mono a4).bb.row a3.cL a1 c4;obtain⟨sV,w4,o0⟩:=(au.mono a4).bb.row a3.cL (show k<t.n by omega) n3;have ab:=(av.mono a4).ds _ (bK c4);have aG:=(au.mono a4).ds _ (bK n3);have sm:=ag _ (bK c4);rw[e2 c4,e2 n3,kq]at he;generalize s.ds[k]=x at bo ab he sm;generalize t.ds[k]=y at o0 aG he;refine bt.mk aR k bI rfl a1 ?_;refine aU.mk _ (bo _) ?_;refine bt.mk sV k w4 rfl Z ?_;refine aU.mk _ (o0 _) ?_;refine a8.whole _ (atU (a6.mono a4) ab aG sm) ?_;rintro v cv N -⟨rfl,cj,gJ⟩;subst N;cases e:qW x y with
  |true=>refine aZ.mk (λh=>absurd h am) (λ_=>?_);refine be.mk _ (c9 (i:=k) Z) ?_;exact⟨(k+1,cv),⟨⟨a1,by simp only;rw[he,e,nY],λc o h=>cj _ _ (a4 _ _ h)⟩,ce⟩,.refl,hh,.nil⟩| false=>refine aZ.mk (λ_=>?_) (λh=>absurd h am);exact⟨_,_,.refl,by rw[he,e,xK],λc o h=>cj _ _ (a4 _ _ h),rfl⟩
 ·have cV:k=s.n:=by have:¬ (k:Int)<(s.n:Int):=dU ad;omega
  subst cV;rw[oU Z,oU Z]at he;exact⟨_,_,.refl,by rw[he];rfl,a4,rfl⟩
def atX(a6:en I ay){s t:cE}(av:s.ok I)(au:t.ok I)(ag:∀ d∈s.ds,d.t.n<=1099511627776):Spec Tryz.prog 159 [s.val,t.val] I M0 λv I' M'=>v=.bool (p6 s t)/\(∀ c o,I c=some o->I' c=some o)/\M'=M0:=by refine bU [] a0 Tryz.func159 rfl rfl rfl ?_;intro B ax;refine a8.whole _ (atW a6 av au ag) ?_;rintro v J N -⟨rfl,a4,gJ⟩;subst N;exact⟨_,_,.refl,rfl,a4,rfl⟩
def Uq(hm:dO ay g=0):(∀ d∈g.ds,d.t.n<=1024)/\(g.ds.map λd=>d.t.n).sum<=1024:=by
 obtain⟨aa,ad,aj,aJ,bD⟩:=IS.1 hm;unfold pJ at aj;simp only[tk,ss]at aj;have cG:u3 g<=1024:=by omega
 have e:u3 g=(g.ds.map λd=>d.t.n).sum:=by unfold u3;congr 1;refine fR λd ai=>?_;unfold sG;rw[qT hm ai];rfl
 rw[e]at cG;refine⟨λd ai=>?_,cG⟩;have:=acu (l:=g.ds.map λd=>d.t.n) (x:=d.t.n) (c3.2 ⟨d,ai,rfl⟩);omega
def Jy(a6:en I ay)(aw:g.ok I)(hm:dO ay g=0):yV ay I g:=by obtain⟨aa,ad⟩:=Uq hm;have lu:=Sr hm;have e:(g.ds.map λd=>d.t.ns.length)=g.ds.map λd=>d.t.n:=fR λd ai=>(aw.ds d ai).t.n;refine⟨a6,aw,λd ai=>by have:=aa d ai;omega,Z,by rw[e];omega,λd ai=>aeE (aw.ds d ai).t (qT hm ai) (by have:=aa d ai;omega)⟩
def ND(t:bs):bV t.aW=bV t:=ac5 t.ns t.bx
def afg:∀ (ds:List a3) (i:Nat),kU i (ds.map a3.aW)=kU i ds
 |[],_=>rfl| d::ds,i=>by rw[b0,kU,kU,afg ds (i+1)];show(bV d.t.aW).paths.map _++_=_;rw[ND]
def Ur(ds:List a3)(u:Nat):bV ((ds.map a3.aW).getD u jR).t=bV (ds.getD u jR).t:=by
 rw[bT,bT,jJ];cases ds[u]? with
 |none=>rfl| some d=>exact ND d.t
def afh:(a3.aW ∘ a3.aW)=a3.aW:=by funext d;show a3.mk d.name (d.t.aW.aW)=⟨d.name,d.t.aW⟩;congr 1;show bs.mk ((d.t.ns.map al.aW).map al.aW) _ _ _ _=⟨d.t.ns.map al.aW,_,_,_,_⟩;rw[gj];rfl
def afi(ds:List a3)(u:Nat)(y:bs):(eE (ds.map a3.aW) u y).map a3.aW=(eE ds u y).map a3.aW:=by
 unfold eE;rw[ri,ri,gj];have e:=afh;rw[e];by_cases h:u<ds.length
 ·have:((ds.map a3.aW).getD u jR).name=(ds.getD u jR).name:=by simp[bT,h,a3.aW]
  rw[this]
 ·rw[List.set_eq_of_length_le al',List.set_eq_of_length_le al']
def atY(ay:List Int)(g:cE)(u:Nat)(X:aP):xh ay g.aW u X=xh ay g u X:=by unfold xh;congr 2;rw[<-B9,<-B9 ay (ly (eE g.ds u (iK X.post)))];congr 1;unfold cE.aW ly;simp only[afi,rZ,bB]
def afj(cs:List gK)(F:List aX):Bool:=decide ((sT (fW cs).ds F).2=0)
structure jT where
 ps:Int
 w:Int
 rule:Nat
 path:List Int
 bl:Int
 a:Option Addr
 c:Nat
def jT.cells(x:jT):List Value:=[.int .u8 x.ps,.int .u8 x.w,.int .i64 x.rule,.slice x.a x.path.length x.c,.int .i64 x.bl]
def jT.cL(x:jT):x.cells.length=5:=rfl
def jT.val(x:jT):Value:=.agg x.cells.toArray
structure jT.ok(I:aH)(x:jT):Prop where
 bb:cx I x.a x.path.length x.c 1 8 (hR x.path)
def jT.ok.mono{x:jT}(h:x.ok I)(bE:∀ b o,I b=some o->I' b=some o):x.ok I':=⟨h.bb.mono bE⟩
def jT.nf(x:jT):uj:=((x.rule,x.path),x.w,x.bl)
def afk{α β:Type}(f:α->List β)(m:Nat):∀ l:List α,(∀ x∈l,(f x).length<=m)->(l.flatMap f).length<=l.length*m
 |[],_=>by simp
 |a::l,h=>by have aa:=afk f m l λx ab=>h x (.tail _ ab);have ad:=h a (.head _);rw[iA,cn,ep,JM];omega
def afl(ay:List Int)(g:cE)(x:Nat×List Int)(k:Nat):∀ n w,(p3 ay g x k n w).length<=n*k
 |0,_=>by simp[p3]
 |n+1,w=>by have aa:=afl ay g x k n (w+1);have ad:=aeS ay g x (w:Int) k 0;rw[p3,cn,JM];omega
def atZ(S:aP):S.sub.length<=dG S:=by
 have:∀ l:List aP,l.length<=(l.map dG).sum:=λl=>by
  induction l with
  |nil=>exact cc _| cons x l aQ=>have:=AQ x;simp only[ep,b0,hr];omega
 have aa:=this S.sub;have ad:dG S=(S.sub.map dG).sum+1:=by
  conv=>lhs;rw[S.eta]
  exact lD _ _
 omega
def afm(h:T.go p=some S):dG S<=dG T:=by have aa:=Jj (X:=j8 bj.zero) p _ h;have bD:dG (j8 bj.zero)=1:=lD _ _;have cG:=AQ (T.put p (j8 bj.zero));omega
def at0(aC:g.ds.length=g.n)(bf:∀ d∈g.ds,d.t.ns.length=d.t.n):(s4 ay g).length<=4194304:=by
 unfold s4;split
 ·rename_i h;obtain⟨r,af,ax⟩:=h;obtain⟨F,hw⟩:=af.Jh aC ax;obtain⟨cW,m2⟩:=Uq hw.m;have Fj:(g.ds.map λd=>d.t.ns.length).sum<=1024:=by rw[show(g.ds.map λd=>d.t.ns.length)=g.ds.map λd=>d.t.n from fR λd ai=>bf d ai];exact m2
  have aa:=No g.ds 0 λd ai=>qT hw.m ai;have ad:=afk (yU ay g) 3072 (kU 0 g.ds) λx ab=>by
   have aj:=afl ay g x (xl g x) 3 1;obtain⟨hu,S,cy⟩:=aeX ab;have nT:g.ds.getD x.1 jR=g.ds[x.1]:=by simp[bT,hu]
   have aJ:xl g x=S.sub.length:=by unfold xl;rw[nT,cy]
   have bD:=atZ S;have cG:=afm cy;have eZ:=C5 (qT hw.m (bK hu));have fx:=cW _ (bK hu);have dT:=bf _ (bK hu);show(p3 ay g x (xl g x) 3 1).length<=_;omega
  show((kU 0 g.ds).flatMap (yU ay g)).length<=_;have:(kU 0 g.ds).length*3072<=1024*3072:=p' _ Z;omega
 ·exact dQ _
def afn(aI:yV ay I g):Spec Tryz.prog 25 [g.val] I [] λv I' M'=>(∀ b o,I b=some o->I' b=some o) /\
  ∃ (os:aT) (L:List jT),v=os.val/\os.ok 5 (L.flatMap jT.cells)/\(∀ x∈L,x.ok I'/\x.ps=5)/\M'=os.ar 44/\L.map jT.nf=s4 ay g:=by
 refine bU [3] a0 Tryz.func25 rfl rfl rfl ?_;intro B ax;have gY:=at0 (ay:=ay) aI.aw.n λd ai=>(aI.aw.ds d ai).t.n;refine bQ.mk λcJ wT FN=>?_;refine a8.mk [] [_] _ (.refl _) (aeT g) ?_;rintro v cv N cj⟨b1,rfl,ia,-,rfl⟩;have nN:=aI.mono cj;have uJ:=aeY nN ia;generalize s4 ay g=sl at *;refine cY.GF (A:=tm) tm.cons a0 rfl rfl rfl (I1:=cv) (M1:=[⟨cJ,.cells #[hL.val] 45 (0,0)⟩]) .refl uJ (λk vs I h aO=>by
   obtain⟨x,w,bl,a,c,-,rfl,-⟩:=aO;rfl) (λj I' M'=>∃ (eR:aT) (ju:List jT),M'=⟨cJ,.cells #[eR.val] 45 (0,0)⟩::eR.ar 44/\eR.ok 5 (ju.flatMap jT.cells)/\(∀ y∈ju,y.ok I'/\y.ps=5)/\ju.map jT.nf=sl.take j) (λex I M=>False)
  (λk I I' M h ⟨eR,ju,aa,ad,aj,aJ⟩=>⟨eR,ju,aa,ad,λy aG=>⟨(aj y aG).1.mono h,(aj y aG).2⟩,aJ⟩) ⟨hL,[],rfl,kL 5,(λy aG=>by cases aG),rfl⟩ ?_ ?_ (λex I' M' _ h=>h.elim)
 ·rintro j ah vs I' M' gf⟨⟨xm,NE⟩,w,bl,a,c,ab,rfl,dB⟩⟨eR,ju,rfl,ko,oc,yS⟩l B ax iC;have bD:=congrArg List.length yS;rw[bB,fT]at bD;have cG:=ko.len;rw[hc _ 5 jT.cL]at cG;refine aU.mk [eR.val] (dm (cs:=[eR.val]) (k:=0) (n:=1) (T:=45) (.head _) am) ?_;refine bQ.mk λb9 mU ue=>?_;refine bC.lU a0 rfl am (e:=44) rfl rfl rfl eR ko rfl (cs:=(⟨5,w,xm,NE,bl,a,c⟩:jT).cells) rfl rfl rfl [_] [] ag' Z (by show(eR.n+1)*48<=_;omega) ?_;intro fy aa ad aj;refine b4.mk [] (fy.ar 44++[]) #[eR.val] 45 rfl rfl (bJ rfl) rfl ?_;refine⟨_,_,.m1 ag',fy,ju++[⟨5,w,xm,NE,bl,a,c⟩],rfl,?_,?_,?_⟩
  ·rw[fS,oN];exact aj
  ·intro y aG;rcases c1.1 aG with aG | aG
   ·exact oc y aG
   ·rw[eL.1 aG];exact⟨⟨dB⟩,rfl⟩
  ·obtain⟨tq,An⟩:=iP.1 ab;rw[cR,yS,gk tq,An];rfl
 ·rintro I' M' gf⟨eR,ju,rfl,ko,oc,yS⟩;refine aU.mk [eR.val] (dm (cs:=[eR.val]) (k:=0) (n:=1) (T:=45) (.head _) am) ?_;refine⟨_,_,.sub (wj _ _) .refl,λb o h=>gf _ _ (cj _ _ h),eR,ju,rfl,ko,oc,rfl,?_⟩;rw[yS,fD (cc _)]
def afo:Value:=.agg #[.int .u8 0,.int .u8 0,.int .i64 0,.slice none 0 0,.int .i64 0]
def at1(aI:yV ay I g):Spec Tryz.prog 26 [g.val] I [] λv I' M'=>(∀ b o,I b=some o->I' b=some o)/\M'=[] /\
  ((s4 ay g=[]/\v=.tuple #[afo,.bool false])\/∃ x:jT,x.ok I'/\x.ps=5/\(s4 ay g)[0]?=some x.nf/\v=.tuple #[x.val,.bool true]):=by
 refine bU [2,3] a0 Tryz.func26 rfl rfl rfl ?_;intro B ax;refine bQ.mk λbH il Ih=>?_;refine bQ.mk λcJ wT FN=>?_;refine a8.mk [] _ _ (.refl _) (aeT g) ?_;rintro v cv N cj⟨b1,rfl,ia,-,rfl⟩;have nN:=aI.mono cj;have uJ:=aeY nN ia;generalize s4 ay g=sl at *;refine cY.GF (A:=tm) tm.cons a0 rfl rfl rfl (I1:=cv) .refl uJ (λk vs I h aO=>by
   obtain⟨x,w,bl,a,c,-,rfl,-⟩:=aO;rfl) (λj I' M'=>(0<j->False)/\M'=[⟨cJ,.cells #[.bool false] 4 (0,0)⟩,⟨bH,.cells #[.int .u8 0,.int .u8 0,.int .i64 0,.slice none 0 0,.int .i64 0] 44 (0,0)⟩]) (λex I M=>ex=.ret/\∃ x:jT,x.ok I/\x.ps=5/\sl[0]?=some x.nf/\M=[⟨cJ,.cells #[.bool true] 4 (0,0)⟩,⟨bH,.cells x.cells.toArray 44 (0,0)⟩])
  (λk I I' M h bc=>bc) ⟨λh=>absurd h (Nat.lt_irrefl _),rfl⟩ ?_ ?_ ?_
 ·rintro j ah vs I' M' gf⟨⟨xm,NE⟩,w,bl,a,c,ab,rfl,dB⟩⟨Q1,rfl⟩l B ax iC;obtain rfl:j=0:=Nat.eq_zero_of_not_pos Q1;refine b4.mk [⟨cJ,.cells #[.bool false] 4 (0,0)⟩] [] #[.int .u8 0,.int .u8 0,.int .i64 0,.slice none 0 0,.int .i64 0] _ rfl rfl (bJ rfl) rfl ?_;refine b4.mk [] [_] #[.bool false] _ rfl rfl (bJ rfl) rfl ?_;exact⟨_,_,.refl,rfl,⟨5,w,xm,NE,bl,a,c⟩,⟨dB⟩,rfl,ab,rfl⟩
 ·rintro I' M' gf⟨aC,rfl⟩;have nq:sl=[]:=im (Nat.eq_zero_of_not_pos aC);refine b4.mk [⟨cJ,.cells #[.bool false] 4 (0,0)⟩] [] #[.int .u8 0,.int .u8 0,.int .i64 0,.slice none 0 0,.int .i64 0] _ rfl rfl (bJ rfl) rfl ?_;refine b4.mk [] [_] #[.bool false] _ rfl rfl (bJ rfl) rfl ?_;refine aU.mk [.int .u8 0,.int .u8 0,.int .i64 0,.slice none 0 0,.int .i64 0] ⟨rfl,_,_,_,.inr ⟨_,.tail _ (.head _),rfl,rfl⟩,rfl,rfl⟩ ?_;refine aU.mk [.bool false] ⟨rfl,_,_,_,.inr ⟨_,.head _,rfl,rfl⟩,rfl,rfl⟩ ?_;exact⟨_,_,.sub (fs _) .refl,λb o h=>gf _ _ (cj _ _ h),rfl,.inl ⟨nq,rfl⟩⟩
 ·rintro ex I' M' gf⟨rfl,x,oZ,bD,ab,rfl⟩;refine⟨am,?_⟩;refine aU.mk x.cells ⟨rfl,_,_,_,.inr ⟨_,.tail _ (.head _),rfl,rfl⟩,rfl,rfl⟩ ?_;refine aU.mk [.bool true] ⟨rfl,_,_,_,.inr ⟨_,.head _,rfl,rfl⟩,rfl,rfl⟩ ?_;exact⟨_,_,.sub (fs _) .refl,λb o h=>gf _ _ (cj _ _ h),rfl,.inr ⟨x,oZ,bD,ab,rfl⟩⟩
def Us(ay:List Int)(g:cE)(pass kT rule:Int)(path:List Int)(bl:Int):Prop:=pass=5/\(0<=rule/\rule<(g.ds.length:Int))/\jS ay g rule.toNat path kT bl=true
structure FV(ay:List Int)(g:cE)(pass kT:Int)(rule:Int)(path:List Int)(bl:Int)(I':aH)(h:cE)(e:Int):Prop where
 bad:∀ r,j6 ay g r->r.2≠0->e=r.2/\h=my
 no:∀ r,j6 ay g r->r.2=0->¬ Us ay g pass kT rule path bl->e=47/\h=my
 at2:∀ r,j6 ay g r->r.2=0->Us ay g pass kT rule path bl->e=0/\h.ok I'/\h.n=g.n/\∃ X bi,p0 g rule.toNat path kT bl=some X/\lz bi X/\bi.ns.length=bi.n/\h.ds.map a3.aW=(eE g.ds rule.toNat bi).map a3.aW/\dO ay h=0/\∃ r,j6 ay h r/\r.2=0
def FV.afp(af:j6 ay g r)(ax:r.2=0)(aC:¬ Us ay g pass kT rule path bl):FV ay g pass kT rule path bl I' my 47:=
 ⟨λv8 fB bz=>by rw[fB.eq af]at bz;exact absurd ax bz,λ_ _ _ _=>⟨rfl,rfl⟩,λ_ _ _ aG=>absurd aG aC⟩
def at3{x:aP}(h:pb w bl S=some x):1<=w/\w<=3:=by
 obtain⟨i,s,-,-,hi,au,-⟩:=Nh h;unfold vM at au;split at au
 ·omega
 split at au
 ·omega
 split at au
 ·omega
 ·cases au
def afq(h:jS ay g u p w bl=true):∃ S x,(bV (g.ds.getD u jR).t).go p=some S/\pb w bl S=some x/\p0 g u p w bl=some (kp g u p x)/\xh ay g u (kp g u p x)=true:=by
 unfold jS at h;cases hB:p0 g u p w bl with
 |none=>rw[hB]at h;cases h
 |some X=>
  rw[hB]at h;have ayG:=hB;unfold p0 at hB;cases cy:(bV (g.ds.getD u jR).t).go p with
  |none=>rw[cy]at hB;cases hB
  |some S=>
   rw[cy]at hB;have hB:((pb w bl S).map λx=>kp g u p x)=some X:=hB;cases ab:pb w bl S with
   |none=>rw[ab]at hB;cases hB| some x=>rw[ab]at hB;have e:kp g u p x=X:=e1 hB;subst e;exact⟨S,x,rfl,ab,rfl,h⟩
def NF(aI:yV ay I g)(ayH:0<=kT)(lX:cx I pa pn pc 1 8 (hR path))(eS:eC bl) :
  Spec Tryz.prog 27 [g.val,.agg #[.int .u8 pass,.int .u8 kT,.int .i64 rule,.slice pa pn pc,.int .i64 bl]] I [] λv I' M'=>(∀ b o,I b=some o->I' b=some o)/\M'=[]/\∃ (h:cE) (e:Int),v=.tuple #[h.val,.int .i64 e]/\FV ay g pass kT rule path bl I' h e:=by
 refine bU [] a0 Tryz.func27 rfl rfl rfl ?_;intro B ax;have ic:=aI.aw.n;refine a8.mk [] [] _ (.refl _) (St aI.au aI.aw aI.ae) ?_;rintro v J N -⟨a4,rfl,r,rfl,af⟩;refine aZ.mk (λh=>?_) (λh=>?_)
 ·have hm:r.2≠0:=by have:(!decide (r.2=0))=true:=h;simpa using this
  exact⟨_,_,.refl,a4,rfl,my,r.2,rfl,λv8 fB _=>by rw[fB.eq af];exact⟨rfl,rfl⟩,λv8 fB ax=>by rw[fB.eq af]at ax;exact absurd ax hm,λv8 fB ax=>by rw[fB.eq af]at ax;exact absurd ax hm⟩
 have hm:r.2=0:=by have:(!decide (r.2=0))=false:=h;simpa using this
 obtain⟨F,hw⟩:=af.Jh ic hm;have Db:=aI.mono a4;have afr:=lX.mono a4;refine a8.mk [] [] _ (.refl _) (ad7 (M0:=[]) Db.au.c Db.aw (T8 hw.m aI.aC) afr) ?_;rintro v cv N cj vj;obtain⟨xa,FW,xc,xm,b,rfl,tt⟩:=vj.shape;obtain⟨-,rfl,vj⟩:=vj;have si:∀ b o,I b=some o->cv b=some o:=λb o h=>cj _ _ (a4 _ _ h);cases eW:pZ g rule path with
 |none=>rw[eW]at tt;have yW:b=false:=tt;subst yW;refine b5.mk (λh=>ci) (λ_=>?_);refine⟨_,_,.refl,si,rfl,my,47,rfl,FV.afp af hm λh=>?_⟩;unfold pZ at eW;rw[b2 h.2.1]at eW;obtain⟨S,x,aa,-⟩:=afq h.2.2;rw[aa]at eW;cases eW
 |some S=>
 rw[eW]at tt vj;have vR:b=true:=tt;subst vR;obtain⟨x,Ia,ab,dp,bf,s3⟩:=vj;have Ut:0<=rule/\rule<(g.ds.length:Int):=by
  unfold pZ at eW;split at eW;·assumption
  ·cases eW
 obtain⟨u,rfl⟩:=eh Ut.1;have hu:u<g.ds.length:=by omega
 have nT:g.ds.getD u jR=g.ds[u]:=by simp[bT,hu]
 have Uu:((u:Nat):Int).toNat=u:=hC u;have cy:(bV g.ds[u].t).go path=some S:=by unfold pZ at eW;rw[b2 Ut,hC,nT]at eW;exact eW
 have at4:Value.agg #[.slice xa FW xc,.int .i64 xm]=x.val:=by
  injection Ia with e
  simp at e;exact e
 obtain⟨Jz,afs,aft,afu,afv⟩:=x;have at5:xa=afs/\FW=aft/\xc=afu/\xm=afv:=by
  have e:Value.agg #[.slice xa FW xc,.int .i64 xm]=.agg #[.slice afs aft afu,.int .i64 afv]:=at4;injection e with e
  simp at e;exact⟨e.1.1,e.1.2.1,e.1.2.2,e.2⟩
 obtain⟨rfl,rfl,rfl,rfl⟩:=at5;have ed:∀ {J},(pass=5->1<=kT/\kT<=3->S.d.k=iO kT->jS ay g u path kT bl=false)->FV ay g pass kT (u:Int) path bl J my 47:=λaC=>FV.afp af hm λh=>by have aj:=h.2.2;rw[Uu]at aj;obtain⟨kk,x,aJ,bD,-⟩:=afq aj;rw[nT,cy]at aJ;cases aJ;obtain⟨-,-,-,cG,-⟩:=Nh bD;have eZ:=aC h.1 (at3 bD) cG;rw[aj]at eZ;cases eZ
 refine b5.mk (λ_=>?_) (λh=>ci);by_cases aa:pass=5
 rotate_left
 ·refine b5.mk (λh=>absurd h WP) (λ_=>?_);exact⟨_,_,.refl,si,rfl,my,47,rfl,ed λh=>absurd h aa⟩
 refine b5.mk (λ_=>?_) (λh=>absurd h WP);by_cases ad:kT=0
 ·refine b5.mk (λh=>absurd h (by simp[ad])) (λ_=>?_);exact⟨_,_,.refl,si,rfl,my,47,rfl,ed λ_ h=>Z⟩
 refine b5.mk (λ_=>?_) (λh=>absurd h (by simp[ad]));by_cases aj:4<=kT
 ·refine b5.mk (λh=>absurd h (by simp[aj])) (λ_=>?_);exact⟨_,_,.refl,si,rfl,my,47,rfl,ed λ_ h=>Z⟩
 refine b5.mk (λ_=>?_) (λh=>absurd h (by simp[aj]));have m7:=dp.right bf;have h':=dp.bV bf s3;obtain⟨g0,hy⟩:=kE m7;obtain⟨Uv,eb⟩:=eh g0;have eD:Uv<Jz.length:=by simp only at hy eb;omega
 refine a8.mk [] [] _ (.refl _) (aeK (M0:=[]) ab m7 kT) ?_;rintro v K N -⟨dj,rfl,b,rfl,ag⟩;subst K;rw[h']at ag;refine aZ.mk (λh=>?_) (λh=>?_)
 ·have yW:b=false:=by have:(!b)=true:=h;simpa using this
  have bz:S.d.k≠iO kT:=dU (by rw[<-ag,yW]);exact⟨_,_,.refl,si,rfl,my,47,rfl,ed λ_ _ h=>absurd h bz⟩
 have vR:b=true:=by have:(!b)=false:=h;simpa using this
 have uQ:S.d.k=iO kT:=cT (by rw[<-ag,vR]);have nN:=Db.mono cj;have aeO:dG S<=1048576:=by have ad:=afm cy;have aj:=C5 (qT hw.m (bK hu));have aJ:=FR (xd (f:=λd:a3=>d.t.ns.length) (bK hu));have bD:=aI.w5;omega
 have rP:FW<=1048576:=by have aa:=congrArg List.length dp.aW;rw[bB,FK]at aa;have ad:=ab.n;simp only at aa ad;omega
 have Hd:∀ d∈g.ds,d.t.n<=274877906944:=λd ai=>by have aj:=FR (xd (f:=λd:a3=>d.t.ns.length) ai);have aJ:=aI.w5;have bD:=(aI.aw.ds d ai).t.n;omega
 have vv:=TV (M0:=[]) (t:=⟨Jz,xa,FW,xc,xm⟩) nN.au ab m7 ce eb;have DZ:∀ {hN:aH} {ca:Option Addr} {aF cr:Nat} {jz:List bs},(∀ b o,cv b=some o->hN b=some o)->cx hN ca aF cr 2 0 (jz.flatMap bs.cells)->jz.length=(nodeAt Jz Uv).ap.length->(∀ q (h:q<jz.length),(jz[q]).ok hN/\pP ⟨Jz,xa,FW,xc,xm⟩ ((nodeAt Jz Uv).ap.getD q 0) jz[q])->Spec Tryz.prog 99 [g.val,Jf (u:Int) pa pn pc,.int .u8 kT,.slice ca aF cr,.int .i64 bl] hN [] λv I' M'=>(∀ b o,hN b=some o->I' b=some o)/\M'=[]/\∃ (h:cE) (b:Bool),v=.tuple #[h.val,.bool b]/\Js ay g u path kT bl I' h b:=by intro hN ca aF cr jz hY dB AU eG;obtain⟨rfl,Ug,Nu,Uh,Ui⟩:=aeU ab m7 rP h' eb eD dB AU eG;have afw:=nN.mono hY;exact aeM afw.au hw afw.aw Hd aI.ag hu ((afr.mono cj).mono hY) cy Ug ⟨Uh,Ui⟩ Nu Z uQ eS
 refine cY.Bn a0 rfl rfl rfl (ι:=Nat×cE×Bool×aH) (λz=>{ bp:=[(4,.ref 4 0),(5,.val (.int .i64 0)),(9,.val (.bool z.2.2.1)),(10,.val (ptr z.1))],cl:=[(4,[.slice none 0 0])],cO:=z.2.2.2,c5:=[⟨z.1,.cells #[.slice z.2.1.a z.2.1.n z.2.1.c] 28 (0,0)⟩] }) (λz=>(∀ b o,cv b=some o->z.2.2.2 b=some o)/\Js ay g u path kT bl z.2.2.2 z.2.1 z.2.2.1) ?_ ?_
 ·refine⟨?_,?_⟩
  ·refine ev.mk _ vv ?_;rintro v hN N hY⟨-,gJ,ca,aF,cr,jz,rfl,dB,AU,eG⟩;subst N;have o1:=DZ hY dB AU eG;refine⟨?_,?_⟩
   ·refine a8.mk [] _ _ (.refl _) o1 ?_;rintro v qS N lC⟨-,rfl,h,b,rfl,rO⟩;refine bQ.mk λp2 Jq Jr=>?_;refine b4.mk [] [] _ _ rfl rfl (bJ rfl) rfl ?_;exact⟨(p2,h,b,qS),⟨λb o h=>lC _ _ (hY _ _ h),rO⟩,.refl,dM,.cons rfl (.nil)⟩
   ·refine bQ.mk λp2 Jq Jr=>?_;refine ev.mk _ o1 ?_;rintro v qS N lC⟨-,rfl,h,b,rfl,rO⟩;refine b4.mk [] [] _ _ rfl rfl (bJ rfl) rfl ?_;exact⟨(p2,h,b,qS),⟨λb o h=>lC _ _ (hY _ _ h),rO⟩,.refl,dM,.cons rfl (.nil)⟩
  ·refine bQ.mk λp2 Jq Jr=>?_;refine ev.mk _ vv ?_;rintro v hN N hY⟨-,gJ,ca,aF,cr,jz,rfl,dB,AU,eG⟩;subst N;refine ev.mk _ (DZ hY dB AU eG) ?_;rintro v qS N lC⟨-,rfl,h,b,rfl,rO⟩;refine b4.mk [] [] _ _ rfl rfl (bJ rfl) rfl ?_;exact⟨(p2,h,b,qS),⟨λb o h=>lC _ _ (hY _ _ h),rO⟩,.refl,dM,.cons rfl (.nil)⟩
 rintro⟨p2,h,b,qS⟩⟨lC,rO⟩;simp only at lC rO;have afx:∀ b o,I b=some o->qS b=some o:=λb o h=>lC _ _ (si _ _ h);have Jx:=rO.is;refine aZ.mk (λag=>?_) (λag=>?_)
 ·have yW:b=false:=by have:(!b)=true:=ag;simpa using this
  exact⟨_,_,.sub (fs _) .refl,afx,rfl,my,47,rfl,ed λ_ _ _=>by rw[<-Jx,yW]⟩
 ·have vR:b=true:=by have:(!b)=false:=ag;simpa using this
  refine aU.mk [.slice h.a h.n h.c] ⟨rfl,_,_,_,.inr ⟨_,.head _,rfl,rfl⟩,rfl,rfl⟩ ?_;refine⟨_,_,.sub (fs _) .refl,afx,rfl,h,0,rfl,?_⟩;obtain⟨eQ,cZ,X,bi,hq⟩:=rO.ok vR;exact⟨λv8 fB bz=>by rw[fB.eq af]at bz;exact absurd hm bz,λ_ _ _ aC=>absurd ⟨aa,Ut,by rw[Uu,<-Jx,vR]⟩ aC,λ_ _ _ _=>⟨rfl,eQ,cZ,X,bi,by rw[Uu];exact hq⟩⟩
def at6(g:cE)(u:Nat)(p:List Int)(x:aP):kp g.aW u p x=kp g u p x:=by unfold kp;show((bV ((g.ds.map a3.aW).getD u jR).t).put p x).lA=_;rw[Ur]
def afy(g:cE)(u:Nat)(p:List Int)(w a:Int):p0 g.aW u p w a=p0 g u p w a:=by unfold p0;show((bV ((g.ds.map a3.aW).getD u jR).t).go p).bind _=_;rw[Ur];congr 1;funext S;congr 1;funext x;exact at6 g u p x
def Uw(ay:List Int)(g:cE)(u:Nat)(p:List Int)(w a:Int):jS ay g.aW u p w a=jS ay g u p w a:=by
 unfold jS;rw[afy];cases p0 g u p w a with
 |none=>rfl| some X=>exact atY ay g u X
def at7(g:cE)(x:Nat×List Int):xl g.aW x=xl g x:=by
 unfold xl;show(match(bV ((g.ds.map a3.aW).getD x.1 jR).t).go x.2 with
  |some S=>S.sub.length| none=>0)=_
 rw[Ur]
 first | done | rfl
def afz(ay:List Int)(g:cE)(x:Nat×List Int)(w:Int):∀ n j,r5 ay g.aW x w n j=r5 ay g x w n j
 |0,_=>rfl| n+1,j=>by rw[r5,r5,Uw,afz ay g x w n]
def afA(ay:List Int)(g:cE)(x:Nat×List Int)(k:Nat):∀ n w,p3 ay g.aW x k n w=p3 ay g x k n w
 |0,_=>rfl| n+1,w=>by rw[p3,p3,afz,afA ay g x k n]
def aua(ay:List Int)(g:cE):AT ay g.aW=AT ay g:=by unfold AT;show(kU 0 (g.ds.map a3.aW)).flatMap _=_;rw[afg];congr 1;funext x;unfold yU;rw[at7,afA]
def aub(w:Int)(x y:bs):nd w x.aW y.aW=nd w x y:=by unfold nd;rw[tO,tO,ND,ND]
def FX(cs:List gK)(F:List aX):List uj:=if(sT (fW cs).ds F).2=0 then AT fw (fW cs)else []
def auc(dj:CM cs F)(aw:g.ok I)(aM:lZ cs g.ds)(hm:dO fw g=0):s4 fw g=FX cs F:=by have af:j6 fw g _:=.inr ⟨hm,F,(dj.of aw aM).2.1,rfl⟩;rw[Nt af,SC dj aw aM af];unfold FX;rw[<-At aM aw,aua]
def FY(a6:en I fw)(sZ:nQ Jn 160 s=some (cs,cP,k,e)):Spec Tryz.prog 80 [.string ⟨s.toArray⟩] I M0 λv I' M'=>(∀ b o,I b=some o->I' b=some o)/\M'=M0/\∃ g:cE,v=g.val/\g.ok I'/\lZ cs g.ds:=by refine bU [] a0 Tryz.func80 rfl rfl rfl ?_;intro B ax;refine a8.mk [] M0 _ (.refl _) (aoi a6 sZ) ?_;rintro v h0 N -⟨rfl,g1,g,rfl,aw,aM⟩;exact⟨_,_,.refl,g1,rfl,g,rfl,aw,aM⟩
def kV(fP fr:hZ)(w:Int)(is:Bool)(want:List UInt8):Bool:=match nd w fP.jv fr.jv with
 |some x=>is&&decide (x=oP want)| none=>!is&&decide (bj.zero=oP want)
def aud(h:kV fP fr w is want=true)(ak:C6 (nd w fP.jv fr.jv) v):v=.tuple #[(oP want).val,.bool is]:=by
 obtain⟨x,b,rfl,aD,ag⟩:=ak;unfold kV at h;rw[aD]at h;cases b with
 |true=>have h:(is&&decide (x=oP want))=true:=h;rw[cC]at h;rw[h.1,cT h.2]
 |false=>
  have h:(!is&&decide (bj.zero=oP want))=true:=h;rw[cC]at h;rw[ag rfl,cT h.2];cases is with
  |false=>rfl| true=>cases h.1
def mz(a6:en I fw){s1 s2:List UInt8}{ek:Int}(aa:lv Jn 157 s1=some (fP,cP,.i64,0))(ad:lv aeo 157 s2=some (fr,ek,.i64,0))(hw:0<=w)(AH:want.length<=1000)(aC:fP.ns.length<=1000)(ab:kV fP fr w is want=true) :
  Spec Tryz.prog 77 [.string ⟨s1.toArray⟩,.string ⟨s2.toArray⟩,.int .u8 w,.bool is,.string ⟨want.toArray⟩] I [] λv I' M'=>v=.bool true/\(∀ b o,I b=some o->I' b=some o)/\M'=[]:=by
 refine bU [] a0 Tryz.func77 rfl rfl rfl ?_;intro B ax;refine a8.mk [] [] _ (.refl _) (abQ a6 aa) ?_;rintro v h0 N -⟨rfl,g1,x,rfl,oZ,afB⟩;refine a8.mk [] [] _ (.refl _) (abQ (a6.mono g1) ad) ?_;rintro v cv N -⟨rfl,cj,y,rfl,afC,aue⟩;have hK:=(a6.mono g1).mono cj;have aO:nd w x y=nd w fP.jv fr.jv:=by rw[<-aub,afB.aW oZ,aue.aW afC]
 have rP:x.n<=1000:=by have:=oZ.n;rw[afB.ns.len]at this;omega
 have afD:=T0 (M0:=[]) hK (w:=w) hw (oZ.mono cj) afC Z;rw[aO]at afD;refine a8.mk [] [] _ (.refl _) afD ?_;rintro v hN N hY⟨-,rfl,ak⟩;have ak:=aud ab ak;subst ak;have AS:=ZC (I:=hN) (M:=[]) ⟨want.toArray⟩ (by show want.toArray.size<=_;rw[s5];omega);have e:(ByteArray.mk want.toArray).data.toList=want:=by simp
 rw[e]at AS;generalize oP want=z at AS;have bn:∀ b o,I b=some o->hN b=some o:=λb o h=>hY _ _ (cj _ _ (g1 _ _ h));cases is with
 |true=>refine cY.draw a0 rfl rfl rfl ?_;refine b5.mk (λ_=>?_) (λh=>ci);refine b5.mk (λ_=>?_) (λh=>ci);refine b5.mk (λ_=>?_) (λh=>ci);refine ev.mk _ AS ?_;rintro v qS N -⟨rfl,lC,rfl⟩;subst qS;refine fL.Zn ?_;exact⟨_,_,.refl,am,bn,rfl⟩
 |false=>refine cY.draw a0 rfl rfl rfl ?_;refine b5.mk (λ_=>?_) (λh=>ci);refine b5.mk (λ_=>?_) (λh=>ci);refine b5.mk (λ_=>?_) (λh=>ci);refine ev.mk _ AS ?_;rintro v qS N -⟨rfl,lC,rfl⟩;subst qS;refine fL.Zn ?_;exact⟨_,_,.refl,am,bn,rfl⟩
def Dd(x:uj):Int:=x.2.1*1000+(x.1.1:Int)*100+(x.1.2.length:Int)*10+x.2.2
def Ux(x:uj):Bool:=decide (0<=x.2.1)&&(decide (x.2.1<=3)&&(decide (x.1.1<=1000)&&(decide (x.1.2.length<=1000)&&(decide (0<=x.2.2)&&decide (x.2.2<=1000)))))
def auf(a6:en I fw)(sZ:nQ Jn 160 s=some (cs,cP,k,e))(ao:rS cs F f=true){sl:List uj}(gY:FX cs F=sl)(bf:sl.all Ux=true)(az:sl.length<=1000) :
  Spec Tryz.prog 158 [.string ⟨s.toArray⟩] I [] λv I' M'=>(∀ b o,I b=some o->I' b=some o)/\∃ os:aT,v=os.val/\os.ok 1 (sl.map λx=>.int .i64 (Dd x))/\M'=os.ar 3:=by
 refine bU [] a0 Tryz.func158 rfl rfl rfl ?_;intro B ax;have dj:=Iz ao;refine a8.mk [] [] _ (.refl _) (FY a6 sZ) ?_;rintro v I1 N -⟨c8,rfl,g,rfl,aw,aM⟩;have jG:=a6.mono c8;have hm:=(dj.of aw aM).1;have ff:=afn (Jy jG aw hm);rw[auc dj aw aM hm,gY]at ff;refine a8.Dg [] [] _ (.refl _) ff ?_;rintro v ew N gq dh⟨-,os,L,rfl,b3,bZ,rfl,nS⟩;have Al:L.length=sl.length:=by rw[<-nS,bB]
 have Fp:os.n=L.length:=by have:=b3.len;rw[hc _ 5 jT.cL]at this;omega
 have L6:∀ b o,ew b=some o->l2 ew os 44 b=some o:=FI dh;have dB:=Nc (J:=ew) (e:=44) (b:=48) b3 Z;have bn:∀ b o,I b=some o->l2 ew os 44 b=some o:=λb o h=>L6 _ _ (gq _ _ (c8 _ _ h));generalize hY:l2 ew os 44=hN at dB bn L6;have GG:hS [] ew (os.ar 44++[]) hN []:=by rw[<-hY];exact Nb (λg _=>am)
 refine du.inv (ι:=Nat×aT) (λx=>{ bp:=[(3,.val x.2.val),(4,.val os.val),(5,.val (.int .i64 (x.1:Int)))],cl:=[],cO:=hN,c5:=x.2.ar 3 }) (λx=>x.1<=os.n/\x.2.n=x.1/\x.2.ok 1 ((sl.take x.1).map λx=>.int .i64 (Dd x))) (λx=>os.n-x.1) ?_ ?_
 ·exact⟨(0,hL),⟨dQ _,rfl,kL 1⟩,GG,fQ,.nil⟩
 rintro⟨i,eR⟩⟨hi,lq,ko⟩;simp only at hi lq ko;refine aZ.mk (λh=>?_) (λh=>?_)
 rotate_left
 ·have cV:¬ (i:Int)<(os.n:Int):=dU h;rw[fD Z]at ko;exact⟨_,_,.refl,bn,eR,rfl,ko,rfl⟩
 have a1:i<os.n:=by have:(i:Int)<(os.n:Int):=cT h;omega
 have dN:i<L.length:=by omega
 obtain⟨aR,bI,bo⟩:=dB.row jT.cL a1 dN;have ab:sl[i]' Z=L[i].nf:=by
  have:(L.map jT.nf)[i]?=sl[i]?:=by rw[nS]
  rw[jJ,dy dN,dy Z]at this;exact(e1 this).symm
 have oZ:=fN.1 bf _ (bK (show i<sl.length by omega));have mP:sl.take (i+1)=sl.take i++[sl[i]' Z]:=gk Z;rw[ab]at oZ mP;generalize L[i]=x at bo oZ mP;obtain⟨ps,w,rule,path,bl,xa,xc⟩:=x;simp only[Ux,jT.nf,cC,h3]at oZ;obtain⟨eg,eV,e0,iZ,D2,Px⟩:=oZ;have eg:0<=w:=cT eg;have eV:w<=3:=cT eV;have e0:rule<=1000:=cT e0;have iZ:path.length<=1000:=cT iZ;have D2:0<=bl:=cT D2
 have Px:bl<=1000:=cT Px
 refine cY.Oq (λi=>Nat.blt i 29) a0 rfl rfl rfl ?_;refine bt.mk aR i bI rfl a1 ?_;refine aU.mk _ ((bo _).part (k:=1) (m:=1) bv) ?_;refine be.mk w (u7 rfl Z) ?_;refine be.mk (w*1000) (u7 rfl Z) ?_;refine bt.mk aR i bI rfl a1 ?_;refine aU.mk _ ((bo _).part (k:=2) (m:=1) bv) ?_;refine be.mk ((rule:Int)*100) (u7 rfl Z) ?_;refine be.mk (w*1000+(rule:Int)*100) (u7 rfl Z) ?_;refine bt.mk aR i bI rfl a1 ?_;refine aU.mk _ ((bo _).part (k:=3) (m:=1) bv) ?_;refine be.mk ((path.length:Int)*10) (u7 rfl Z) ?_;refine be.mk (w*1000+(rule:Int)*100+(path.length:Int)*10) (u7 rfl Z) ?_;refine bt.mk aR i bI rfl a1 ?_;refine aU.mk _ ((bo _).part (k:=4) (m:=1) bv) ?_;refine be.mk (Dd ((rule,path),w,bl)) (u7 rfl (by unfold Dd;simp only;omega)) ?_;refine bQ.mk λb9 mU ue=>?_;refine bC.lU a0 rfl am (e:=3) rfl rfl rfl eR ko rfl (cs:=[.int .i64 (Dd ((rule,path),w,bl))]) rfl rfl rfl [] [] ag' Z (by show(eR.n+1)*8<=_;omega) ?_;intro fy CN _ xk;refine be.mk _ (c9 (i:=i) Z) ?_;refine⟨(i+1,fy),⟨⟨a1,ce,?_⟩,ce⟩,.m1 ag',fQ,.nil⟩;simp only;rw[mP,cR];exact xk
def afE(a6:en I fw)(sZ:nQ Jn 160 s=some (cs,cP,k,e))(ao:rS cs F f=true){sl:List uj}(gY:FX cs F=sl)(bf:sl.all Ux=true)(az:sl.length<=1000)
 {want:List Int} (hw:cx I a n c 1 8 (want.map (.int .i64 ·))) (Jv:want=sl.map Dd) :
  Spec Tryz.prog 78 [.string ⟨s.toArray⟩,.slice a n c] I [] λv I' M'=>v=.bool true/\(∀ b o,I b=some o->I' b=some o)/\M'=[]:=by
 refine bU [] a0 Tryz.func78 rfl rfl rfl ?_;intro B ax;refine a8.mk [] [] _ (.refl _) (auf a6 sZ ao gY bf az) ?_;rintro v J N a4⟨-,os,rfl,b3,rfl⟩;have AH:want.length=n:=by have:=hw.len;rw[bB]at this;omega
 have Fp:os.n=n:=by have:=b3.len;rw[bB]at this;rw[Jv,bB]at AH;omega
 rw[show(sl.map λx=>Value.int .i64 (Dd x))=want.map (.int .i64 ·) by rw[Jv,gj];rfl]at b3;refine aZ.mk (λh=>absurd h (by simp[Fp])) (λ_=>?_);refine du.inv (ι:=Nat) (λx=>{ bp:=[(1,.val (.slice a n c)),(5,.val os.val),(6,.val (.int .i64 (x:Int)))],cl:=[],cO:=J,c5:=os.ar 3 }) (λx=>x<=n) (λx=>n-x) ?_ ?_
 ·exact⟨0,dQ _,.m1 ak',fQ,.nil⟩
 intro i hi;refine aZ.mk (λh=>?_) (λh=>?_)
 rotate_left
 ·exact⟨_,_,.sub (fs _) .refl,rfl,a4,rfl⟩
 have a1:i<n:=by have:(i:Int)<(os.n:Int):=cT h;omega
 have dN:i<want.length:=by omega
 obtain⟨aR,bI,bo⟩:=(hw.mono a4).one a1 dN;rw[<-og]at b3;obtain⟨FA,CT,yN⟩:=aT.ok.row (I:=J) (M:=os.ar 3) (f:=ir) (λ_=>rfl) bv b3 (e:=3) (λx ab=>ab) dN;generalize want[i]=z at bo yN;refine cY.draw a0 rfl rfl rfl ?_;refine bt.mk FA i CT rfl Z ?_;refine aU.mk _ yN ?_;refine bt.mk aR i bI rfl a1 ?_;refine aU.mk _ (bo _) ?_;refine aZ.mk (λh=>absurd h am) (λ_=>?_);refine be.mk _ (c9 (i:=i) (by have:=hw.cap;omega)) ?_;exact⟨i+1,⟨a1,Z⟩,.refl,fQ,.nil⟩
def NG:hZ:=⟨[⟨1,0,60129542144,0,0,[],0,0,[]⟩],0⟩
def Uy:lv 100000 157 [91,97,45,99,93]=some (NG,0,.i64,0):=by kernel_rfl
def afF:hZ:=⟨[⟨2,0,0,0,0,[100],0,0,[]⟩],0⟩
def aug:lv 100000 157 [34,100,34]=some (afF,0,.i64,0):=by kernel_rfl
def afG:hZ:=⟨[⟨2,0,0,0,0,[97,98],0,0,[]⟩],0⟩
def auh:lv 100000 157 [34,97,98,34]=some (afG,0,.i64,0):=by kernel_rfl
def afH:hZ:=⟨[⟨1,0,34359738368,0,0,[],0,0,[]⟩],0⟩
def aui:lv 100000 157 [91,99,93]=some (afH,0,.i64,0):=by kernel_rfl
def afI:hZ:=⟨[⟨1,0,17179869184,0,0,[],0,0,[]⟩,⟨8,0,0,0,0,[],0,0,[0]⟩],1⟩
def auj:lv 100000 157 [33,91,98,93]=some (afI,0,.i64,0):=by kernel_rfl
def afJ:hZ:=⟨[⟨1,0,144115170895986688,0,0,[],0,0,[]⟩,⟨7,0,0,0,0,[],0,0,[0]⟩],1⟩
def auk:lv 100000 157 [38,91,98,45,120,93]=some (afJ,0,.i64,0):=by kernel_rfl
def aul:kV NG afF 1 true [97,98,99,100]=true:=by kernel_rfl
def aum:kV afG afH 1 false []=true:=by kernel_rfl
def aun:kV afI NG 2 true [97,99]=true:=by kernel_rfl
def auo:kV afJ NG 3 true [98,99]=true:=by kernel_rfl
def JA:List gK:=[⟨[97],⟨[⟨1,0,8589934592,0,0,[],0,0,[]⟩,⟨2,0,0,0,0,[98],0,0,[]⟩,⟨2,0,0,0,0,[99],0,0,[]⟩,⟨3,0,0,0,0,[120],0,0,[]⟩,⟨4,0,0,0,0,[],0,0,[2,3]⟩,⟨5,0,0,0,0,[],0,0,[0,1,4]⟩],5⟩⟩,⟨[120],⟨[⟨2,0,0,0,0,[121],0,0,[]⟩],0⟩⟩]
def aup:nQ 100000 160 [97,32,60,45,32,91,97,93,32,47,32,34,98,34,32,47,32,34,99,34,32,120,32,120,32,60,45,32,34,121,34]=some (JA,0,.i64,0):=by kernel_rfl
def auq:rS JA (qL JA 5) 5=true:=by kernel_rfl
def aur:FX JA (qL JA 5)=[((0,[]),1,0)]:=by kernel_rfl
def aus(k:Int):cx (ins I b (.cells #[.int .i64 k] 3 (0,0))) (some ⟨b,0,none⟩) 1 1 1 8 (hR [k]):=
 ⟨rfl,⟨cc _,bv⟩,.inr ⟨⟨b,0,none⟩,rfl,rfl,_,_,_,mg ..,rfl⟩⟩
def aut(a6:en I fw):Spec Tryz.prog 16 [] I [] λv J ky=>v=.bool true/\(∀ b o,I b=some o->J b=some o)/\ky=[]:=by refine bU [] a0 Tryz.func16 rfl rfl rfl ?_;intro B ax;refine a8.mk [] [] _ (.refl _) (mz a6 Uy aug (w:=1) bv (is:=true) (want:=[97,98,99,100]) bv bv aul) ?_;rintro v I1 N -⟨rfl,c8,rfl⟩;have jG:=a6.mono c8;refine b5.mk (λ_=>?_) (λh=>ci);refine a8.mk [] [] _ (.refl _) (mz jG auh aui (w:=1) bv (is:=false) (want:=[]) bv bv aum) ?_;rintro v ew N -⟨rfl,gq,rfl⟩;have hK:=jG.mono gq;refine b5.mk (λ_=>?_) (λh=>ci);refine a8.mk [] [] _ (.refl _) (mz hK auj Uy (w:=2) bv (is:=true) (want:=[97,99]) bv bv aun) ?_;rintro v k8 N -⟨rfl,mi,rfl⟩;have pY:=hK.mono mi;refine b5.mk (λ_=>?_) (λh=>ci);refine a8.mk [] [] _ (.refl _) (mz pY auk Uy (w:=3) bv (is:=true) (want:=[98,99]) bv bv auo) ?_;rintro v ql N -⟨rfl,yK,rfl⟩;have TI:=pY.mono yK;refine b5.mk (λ_=>?_) (λh=>ci);refine bQ.mk λb9 mU ue=>?_;have bn:∀ b o,ql b=some o->ins ql b9 (.cells #[.int .i64 1000] 3 (0,0)) b=some o:=j0 mU;refine a8.sd (ins ql b9 (.cells #[.int .i64 1000] 3 (0,0))) [] [] _ (.kZ rfl am .refl) (afE (TI.mono bn) aup auq aur bv bv (aus 1000) rfl) ?_;rintro v J N a4 -⟨rfl,-,rfl⟩;exact⟨_,_,.refl,rfl,λb o h=>a4 _ _ (bn _ _ (yK _ _ (mi _ _ (gq _ _ (c8 _ _ h))))),rfl⟩
def ng(cs:List gK)(w:Int)(u:Nat)(p:List Int)(a:Int):List a3:=match p0 (fW cs) u p w a with
 |some X=>eE (fW cs).ds u (iK X.post)| none=>[]
def auu(dj:CM cs F)(AH:afj cs F=true)(aw:g.ok I)(aM:lZ cs g.ds):∃ r,j6 fw g r/\r.2=0:=by obtain⟨hm,bw,-⟩:=dj.of aw aM;exact⟨_,.inr ⟨hm,F,bw,rfl⟩,by rw[SC dj aw aM (.inr ⟨hm,F,bw,rfl⟩)];exact cT AH⟩
def afK(aw:g.ok I)(aM:lZ cs g.ds):g.ds.length=cs.length:=by have:=congrArg (λx:cE=>x.ds.length) (At aM aw);simpa[cE.aW,fW]using this
def FZ(a6:en I fw){NH:List gK}{auv c2:Int}{e4:IntKind}(sZ:nQ Jn 160 s=some (cs,cP,k,e))(Ag:nQ aeo 160 want=some (NH,auv,e4,c2))(ao:rS cs F f=true)(AH:afj cs F=true)
 (pD:0<=w) (aI:cx I pa pn pc 1 8 (hR path)) {kid:Int} (ae:eC kid) (ff:jS fw (fW cs) u path w kid=true) (DO:u<cs.length) (qO:p6 (ly (ng cs w u path kid)) (fW NH)=true) (lK:0<(ng cs w u path kid).length) :
  Spec Tryz.prog 79 [.string ⟨s.toArray⟩,.int .u8 w,.int .i64 (u:Int),.slice pa pn pc,.int .i64 kid,.string ⟨want.toArray⟩] I [] λv I' M'=>v=.bool true/\(∀ b o,I b=some o->I' b=some o)/\M'=[]:=by
 have dj:=Iz ao;refine bU [] a0 Tryz.func79 rfl rfl rfl ?_;intro B ax;refine a8.mk [] [] _ (.refl _) (FY a6 sZ) ?_;rintro v h0 N -⟨g1,rfl,g,rfl,aw,aM⟩;have jG:=a6.mono g1;obtain⟨hm,bw,jP⟩:=dj.of aw aM;have ej:=At aM aw;have rE:=afK aw aM;refine a8.mk [] [] _ (.refl _) (NF (Jy jG aw hm) (pass:=5) pD (rule:=(u:Int)) (aI.mono g1) ae) ?_;rintro v cv N cj⟨-,rfl,h,ba,rfl,dh⟩;obtain⟨r,af,rp⟩:=auu dj AH aw aM;have xg:jS fw g ((u:Nat):Int).toNat path w kid=true:=by rw[hC,<-Uw,ej];exact ff
 obtain⟨rfl,dg,uf,X,bi,hB,dp,g7,fE,zq,-⟩:=dh.at2 r af rp ⟨rfl,⟨Z,Z⟩,xg⟩;rw[hC]at hB fE;have CU:h.ds.map a3.aW=(ng cs w u path kid).map a3.aW:=by
  have aK:ng cs w u path kid=eE (fW cs).ds u (iK X.post):=by unfold ng;rw[<-ej,afy,hB]
  rw[fE,aK,aeb (aea dp g7),<-ej];exact(afi g.ds u _).symm
 have az:h.ds.length=(ng cs w u path kid).length:=by have:=congrArg List.length CU;simpa using this
 have ash:=dg.n;refine cY.draw a0 rfl rfl rfl ?_;refine b5.mk (λ_=>?_) (λh=>absurd h am);refine b5.mk (λ_=>?_) (λh=>absurd h d4);refine ev.mk _ (FY (M0:=[]) (jG.mono cj) Ag) ?_;rintro v hN N hY⟨-,rfl,w',rfl,hw,afL⟩;refine a8.mk [] [] _ (.refl _) (atX (M0:=[]) ((jG.mono cj).mono hY) (dg.mono hY) hw λd ai=>by have:=(Uq zq).1 d ai;omega) ?_;rintro v qS N -⟨rfl,lC,rfl⟩;refine⟨_,_,.refl,?_,λb o h=>lC _ _ (hY _ _ (cj _ _ (g1 _ _ h))),rfl⟩;have aK:p6 h w'=p6 (ly (ng cs w u path kid)) (fW NH):=by rw[<-aff h w',At afL hw,<-aff (ly _) (fW NH)];unfold p6;show kq qW (h.ds.map a3.aW) _=kq qW ((ng cs w u path kid).map a3.aW) _;rw[CU,<-At afL hw];show kq qW _ (w'.ds.map a3.aW)=kq qW _ ((w'.ds.map a3.aW).map a3.aW);rw[gj,afh]
 rw[aK,qO]
def afM:hZ:=⟨[⟨2,0,0,0,0,[97],0,0,[]⟩],0⟩
def auw:lv 100000 157 [34,97,34]=some (afM,0,.i64,0):=by kernel_rfl
def Uz:hZ:=⟨[⟨2,0,0,0,0,[98],0,0,[]⟩],0⟩
def afN:lv 100000 157 [34,98,34]=some (Uz,0,.i64,0):=by kernel_rfl
def UA:hZ:=⟨[⟨1,0,0,0,0,[],0,0,[]⟩],0⟩
def afO:lv 100000 157 [91,93]=some (UA,0,.i64,0):=by kernel_rfl
def afP:hZ:=⟨[⟨3,0,0,0,0,[97],0,0,[]⟩],0⟩
def auy:lv 100000 157 [97]=some (afP,0,.i64,0):=by kernel_rfl
def uo:hZ:=⟨[⟨1,0,17179869184,0,0,[],0,0,[]⟩],0⟩
def vT:lv 100000 157 [91,98,93]=some (uo,0,.i64,0):=by kernel_rfl
def F0:hZ:=⟨[⟨1,0,8589934592,0,0,[],0,0,[]⟩],0⟩
def JB:lv 100000 157 [91,97,93]=some (F0,0,.i64,0):=by kernel_rfl
def afQ:hZ:=⟨[⟨0,0,0,0,0,[],0,0,[]⟩],0⟩
def auz:lv 100000 157 [34,34]=some (afQ,0,.i64,0):=by kernel_rfl
def JC:hZ:=⟨[⟨1,0,8589934592,0,0,[],0,0,[]⟩,⟨8,0,0,0,0,[],0,0,[0]⟩],1⟩
def NI:lv 100000 157 [33,91,97,93]=some (JC,0,.i64,0):=by kernel_rfl
def afR:hZ:=⟨[⟨2,0,0,0,0,[97],0,0,[]⟩,⟨8,0,0,0,0,[],0,0,[0]⟩],1⟩
def auA:lv 100000 157 [33,34,97,34]=some (afR,0,.i64,0):=by kernel_rfl
def NJ:hZ:=⟨[⟨1,0,8589934592,0,0,[],0,0,[]⟩,⟨7,0,0,0,0,[],0,0,[0]⟩],1⟩
def UB:lv 100000 157 [38,91,97,93]=some (NJ,0,.i64,0):=by kernel_rfl
def afS:hZ:=⟨[⟨3,0,0,0,0,[120],0,0,[]⟩],0⟩
def auB:lv 100000 157 [120]=some (afS,0,.i64,0):=by kernel_rfl
def afT:hZ:=⟨[⟨1,0,0,0,0,[],0,0,[]⟩,⟨8,0,0,0,0,[],0,0,[0]⟩],1⟩
def auC:lv 100000 157 [33,91,93]=some (afT,0,.i64,0):=by kernel_rfl
def afU:hZ:=⟨[⟨1,0,8589934592,0,0,[],0,0,[]⟩,⟨8,0,0,0,0,[],0,0,[0]⟩,⟨8,0,0,0,0,[],0,0,[1]⟩],2⟩
def auD:lv 100000 157 [33,33,91,97,93]=some (afU,0,.i64,0):=by kernel_rfl
def auE:kV afM Uz 1 true [97,98]=true:=by kernel_rfl
def auF:kV UA UA 1 true []=true:=by kernel_rfl
def auG:kV afP uo 1 false []=true:=by kernel_rfl
def auH:kV F0 afQ 1 false []=true:=by kernel_rfl
def auI:kV F0 uo 2 false []=true:=by kernel_rfl
def auJ:kV F0 uo 0 false []=true:=by kernel_rfl
def auK:kV F0 uo 4 false []=true:=by kernel_rfl
def auL:kV JC F0 2 true []=true:=by kernel_rfl
def auM:kV JC Uz 2 false []=true:=by kernel_rfl
def auN:kV afR uo 2 false []=true:=by kernel_rfl
def auO:kV JC uo 3 false []=true:=by kernel_rfl
def auP:kV NJ uo 3 true []=true:=by kernel_rfl
def auQ:kV NJ uo 2 false []=true:=by kernel_rfl
def auR:kV JC uo 1 false []=true:=by kernel_rfl
def auS:kV NJ afS 3 false []=true:=by kernel_rfl
def auT:kV afT uo 2 true [98]=true:=by kernel_rfl
def auU:kV afU uo 2 false []=true:=by kernel_rfl
def pd:List gK:=[⟨[97],⟨[⟨2,0,0,0,0,[120],0,0,[]⟩,⟨1,0,144115188075855872,0,0,[],0,0,[]⟩,⟨3,0,0,0,0,[98],0,0,[]⟩,⟨1,0,8589934592,0,0,[],0,0,[]⟩,⟨8,0,0,0,0,[],0,0,[3]⟩,⟨1,0,25769803776,0,0,[],0,0,[]⟩,⟨1,0,34359738368,0,0,[],0,0,[]⟩,⟨7,0,0,0,0,[],0,0,[6]⟩,⟨1,0,103079215104,0,0,[],0,0,[]⟩,⟨4,0,0,0,0,[],0,0,[4,5,7,8]⟩,⟨5,0,0,0,0,[],0,0,[0,1,2,9]⟩],10⟩⟩,⟨[98],⟨[⟨2,0,0,0,0,[122],0,0,[]⟩],0⟩⟩]
def JD:nQ 100000 160 [97,32,60,45,32,34,120,34,32,47,32,91,121,93,32,47,32,98,32,47,32,33,91,97,93,32,91,97,98,93,32,38,91,99,93,32,91,99,100,93,32,98,32,60,45,32,34,122,34]=some (pd,0,.i64,0):=by kernel_rfl
def AW:List gK:=[⟨[97],⟨[⟨2,0,0,0,0,[120],0,0,[]⟩,⟨2,0,0,0,0,[121],0,0,[]⟩,⟨5,0,0,0,0,[],0,0,[0,1]⟩,⟨6,0,0,0,0,[],0,(-1),[2]⟩],3⟩⟩]
def auV:nQ 100000 160 [97,32,60,45,32,40,34,120,34,32,47,32,34,121,34,41,42]=some (AW,0,.i64,0):=by kernel_rfl
def AX:List gK:=[⟨[97],⟨[⟨2,0,0,0,0,[113],0,0,[]⟩],0⟩⟩,⟨[98],⟨[⟨1,0,25769803776,0,0,[],0,0,[]⟩,⟨1,0,34359738368,0,0,[],0,0,[]⟩,⟨5,0,0,0,0,[],0,0,[0,1]⟩,⟨8,0,0,0,0,[],0,0,[2]⟩],3⟩⟩]
def auW:nQ 100000 160 [97,32,60,45,32,34,113,34,32,98,32,60,45,32,33,40,91,97,98,93,32,47,32,91,99,93,41]=some (AX,0,.i64,0):=by kernel_rfl
def AY:List gK:=[⟨[97],⟨[⟨1,0,8589934592,0,0,[],0,0,[]⟩,⟨8,0,0,0,0,[],0,0,[0]⟩,⟨1,0,60129542144,0,0,[],0,0,[]⟩,⟨4,0,0,0,0,[],0,0,[1,2]⟩],3⟩⟩]
def auX:nQ 100000 160 [97,32,60,45,32,33,91,97,93,32,91,97,45,99,93]=some (AY,0,.i64,0):=by kernel_rfl
def afV:List gK:=[⟨[97],⟨[⟨1,0,216172782113783808,0,0,[],0,0,[]⟩,⟨3,0,0,0,0,[98],0,0,[]⟩,⟨1,0,8589934592,0,0,[],0,0,[]⟩,⟨8,0,0,0,0,[],0,0,[2]⟩,⟨1,0,25769803776,0,0,[],0,0,[]⟩,⟨1,0,34359738368,0,0,[],0,0,[]⟩,⟨7,0,0,0,0,[],0,0,[5]⟩,⟨1,0,103079215104,0,0,[],0,0,[]⟩,⟨4,0,0,0,0,[],0,0,[3,4,6,7]⟩,⟨5,0,0,0,0,[],0,0,[0,1,8]⟩],9⟩⟩,⟨[98],⟨[⟨2,0,0,0,0,[122],0,0,[]⟩],0⟩⟩]
def auY:nQ 100000 160 [97,32,60,45,32,91,120,121,93,32,47,32,98,32,47,32,33,91,97,93,32,91,97,98,93,32,38,91,99,93,32,91,99,100,93,32,98,32,60,45,32,34,122,34]=some (afV,0,.i64,0):=by kernel_rfl
def afW:List gK:=[⟨[97],⟨[⟨2,0,0,0,0,[120],0,0,[]⟩,⟨1,0,144115188075855872,0,0,[],0,0,[]⟩,⟨3,0,0,0,0,[98],0,0,[]⟩,⟨1,0,17179869184,0,0,[],0,0,[]⟩,⟨1,0,34359738368,0,0,[],0,0,[]⟩,⟨7,0,0,0,0,[],0,0,[4]⟩,⟨1,0,103079215104,0,0,[],0,0,[]⟩,⟨4,0,0,0,0,[],0,0,[3,5,6]⟩,⟨5,0,0,0,0,[],0,0,[0,1,2,7]⟩],8⟩⟩,⟨[98],⟨[⟨2,0,0,0,0,[122],0,0,[]⟩],0⟩⟩]
def auZ:nQ 100000 160 [97,32,60,45,32,34,120,34,32,47,32,91,121,93,32,47,32,98,32,47,32,91,98,93,32,38,91,99,93,32,91,99,100,93,32,98,32,60,45,32,34,122,34]=some (afW,0,.i64,0):=by kernel_rfl
def afX:List gK:=[⟨[97],⟨[⟨2,0,0,0,0,[120],0,0,[]⟩,⟨1,0,144115188075855872,0,0,[],0,0,[]⟩,⟨3,0,0,0,0,[98],0,0,[]⟩,⟨1,0,8589934592,0,0,[],0,0,[]⟩,⟨8,0,0,0,0,[],0,0,[3]⟩,⟨1,0,25769803776,0,0,[],0,0,[]⟩,⟨1,0,34359738368,0,0,[],0,0,[]⟩,⟨4,0,0,0,0,[],0,0,[4,5,6]⟩,⟨5,0,0,0,0,[],0,0,[0,1,2,7]⟩],8⟩⟩,⟨[98],⟨[⟨2,0,0,0,0,[122],0,0,[]⟩],0⟩⟩]
def au0:nQ 100000 160 [97,32,60,45,32,34,120,34,32,47,32,91,121,93,32,47,32,98,32,47,32,33,91,97,93,32,91,97,98,93,32,91,99,93,32,98,32,60,45,32,34,122,34]=some (afX,0,.i64,0):=by kernel_rfl
def afY:List gK:=[⟨[97],⟨[⟨1,0,216172782113783808,0,0,[],0,0,[]⟩,⟨6,0,0,0,0,[],0,(-1),[0]⟩],1⟩⟩]
def au1:nQ 100000 160 [97,32,60,45,32,91,120,121,93,42]=some (afY,0,.i64,0):=by kernel_rfl
def afZ:List gK:=[⟨[97],⟨[⟨2,0,0,0,0,[113],0,0,[]⟩],0⟩⟩,⟨[98],⟨[⟨1,0,60129542144,0,0,[],0,0,[]⟩,⟨8,0,0,0,0,[],0,0,[0]⟩],1⟩⟩]
def au2:nQ 100000 160 [97,32,60,45,32,34,113,34,32,98,32,60,45,32,33,91,97,45,99,93]=some (afZ,0,.i64,0):=by kernel_rfl
def af0:List gK:=[⟨[97],⟨[⟨1,0,51539607552,0,0,[],0,0,[]⟩],0⟩⟩]
def au3:nQ 100000 160 [97,32,60,45,32,91,98,99,93]=some (af0,0,.i64,0):=by kernel_rfl
def JE:List gK:=[⟨[97],⟨[⟨3,0,0,0,0,[97],0,0,[]⟩,⟨2,0,0,0,0,[120],0,0,[]⟩,⟨2,0,0,0,0,[121],0,0,[]⟩,⟨5,0,0,0,0,[],0,0,[0,1,2]⟩],3⟩⟩]
def af1:nQ 100000 160 [97,32,60,45,32,97,32,47,32,34,120,34,32,47,32,34,121,34]=some (JE,0,.i64,0):=by kernel_rfl
def JF:rS pd (qL pd 6) 6=true:=by kernel_rfl
def NK:(sT (fW pd).ds (qL pd 6)).2=0:=by kernel_rfl
def au4:rS AW (qL AW 6) 6=true:=by kernel_rfl
def au5:(sT (fW AW).ds (qL AW 6)).2=0:=by kernel_rfl
def au6:rS AX (qL AX 6) 6=true:=by kernel_rfl
def au7:(sT (fW AX).ds (qL AX 6)).2=0:=by kernel_rfl
def au8:rS AY (qL AY 6) 6=true:=by kernel_rfl
def au9:(sT (fW AY).ds (qL AY 6)).2=0:=by kernel_rfl
def af2:rS JE (qL JE 6) 6=true:=by kernel_rfl
def af3:(sT (fW JE).ds (qL JE 6)).2=42:=by kernel_rfl
def ava:FX pd (qL pd 6)=[((0,[]),1,0),((0,[3]),2,0),((0,[3]),3,2)]:=by kernel_rfl
def avb:jS fw (fW pd) 0 [] 1 0=true:=by kernel_rfl
def avc:p6 (ly (ng pd 1 0 [] 0)) (fW afV)=true:=by kernel_rfl
def avd:0<(ng pd 1 0 [] 0).length:=cT d0
def ave:jS fw (fW pd) 0 [3] 2 0=true:=by kernel_rfl
def avf:p6 (ly (ng pd 2 0 [3] 0)) (fW afW)=true:=by kernel_rfl
def avg:0<(ng pd 2 0 [3] 0).length:=cT d0
def avh:jS fw (fW pd) 0 [3] 3 2=true:=by kernel_rfl
def avi:p6 (ly (ng pd 3 0 [3] 2)) (fW afX)=true:=by kernel_rfl
def avj:0<(ng pd 3 0 [3] 2).length:=cT d0
def avk:jS fw (fW AW) 0 [0] 1 0=true:=by kernel_rfl
def avl:p6 (ly (ng AW 1 0 [0] 0)) (fW afY)=true:=by kernel_rfl
def avm:0<(ng AW 1 0 [0] 0).length:=cT d0
def avn:jS fw (fW AX) 1 [0] 1 0=true:=by kernel_rfl
def avo:p6 (ly (ng AX 1 1 [0] 0)) (fW afZ)=true:=by kernel_rfl
def avp:0<(ng AX 1 1 [0] 0).length:=cT d0
def avq:jS fw (fW AY) 0 [] 2 0=true:=by kernel_rfl
def avr:p6 (ly (ng AY 2 0 [] 0)) (fW af0)=true:=by kernel_rfl
def avs:0<(ng AY 2 0 [] 0).length:=cT d0
def JG{α:Type}:Nat->List α->List (Nat×α)
 |_,[]=>[]| i,v::vs=>(i,v)::JG (i+1) vs
def af4(size:Nat):∀ (vs:List Value) (i:Nat) (a9 post:List Value),a9.length=i*size->post.length=vs.length*size->(∀ v∈vs,v.cells.size=size) -> qY (λj=>some (j*size,size)) (a9++post) (JG i vs)=some (a9++vs.flatMap λv=>v.cells.toList)
 |[],i,a9,post,aa,ad,aj=>by have:post=[]:=im wf;subst this;rfl
 |v::vs,i,a9,post,aa,ad,aj=>by
  have ak:=aj v (.head _);have pL:v.cells.toList.length=size:=by simpa using ak
  have n2:post.length=vs.length*size+size:=by rw[ad,ep,kx,nt]
  have aK:Nat.ble (i*size+size) (a9++post).length=true:=by rw[mT,cn];omega
  have ba:cd (a9++post) (i*size) v.cells.toList=(a9++v.cells.toList)++post.drop size:=by unfold cd;rw[<-aa,uG,pL,Ov]
  have aQ:=af4 size vs (i+1) (a9++v.cells.toList) (post.drop size) (by rw[cn,aa,pL,kx,nt]) (by rw[py];omega) λw hw=>aj w (.tail _ hw);rw[JG,qY];simp only[ak,Nat.beq_refl,aK,Bool.and_self,cF];rw[ba,aQ,iA,dW]
def UC{X:cN}{ops bm:List Oper}{o:Oper}{F:Fr}{C:de}{I:aH}{M:List aA}{K:fz}(aw:o.guard=none)(h:gb X o F C I M λF C I M=>nW X ops bm F C I M K):nW X ops (o::bm) F C I M K:=by rw[nW,aw];exact h
def mA{X:cN}{ops bm:List Oper}{o:Oper}{F:Fr}{C:de}{I:aH}{M:List aA}{K:fz}(aw:o.guard=none)(x:dx)(h:∀ h6:fz,gb X o F C I M h6=h6 (put o.dst x F) C I M)(k:nW X ops bm (put o.dst x F) C I M K):nW X ops (o::bm) F C I M K:=by refine UC aw ?_;rw[h];exact k
def avt{F:Fr}{K:fz}{t len e:Nat}{parts:Array (Nat×Operand)}(aD:o.op=.buildSlice t len parts)(au:X.E t=some cS)(dt:cS.bL=.slice e)(he:X.E e=some aB)(cQ:(Nat.ble (len*aB.size) 16777216&&Nat.blt 0 (len*aB.size))=true)(bg:(rowOf aB.zero (len*aB.size)).length=len*aB.size)(vs:List Value)(ij:xv F parts.toList=some (JG 0 vs))(az:vs.length=len)(dk:∀ v∈vs,v.cells.size=aB.size)
  (k:bQ I M λb=>K (put o.dst (.val (.slice (some ⟨b,0,none⟩) len len)) F) C I (⟨b,.cells (vs.flatMap λv=>v.cells.toList).toArray e (0,0)⟩::M)):gb X o F C I M K:=by
 have aE:=af4 aB.size vs 0 [] (rowOf aB.zero (len*aB.size)) am (by rw[bg,az]) dk;rw[hI,hI]at aE;obtain⟨sz,hD,z,bL⟩:=cS;have dt:bL=.slice e:=dt;subst dt;unfold gb;rw[aD];simp only[au,ij,he,cQ,cF,aE];exact k
def af5{X:cN}{o:Oper}{F:Fr}{C:de}{I:aH}{M:List aA}{K:fz}(vs:List Value)(len e:Nat)(h:∃ t parts cS aB,o.op=.buildSlice t len parts/\X.E t=some cS/\cS.bL=.slice e/\X.E e=some aB/\(Nat.ble (len*aB.size) 16777216&&Nat.blt 0 (len*aB.size))=true/\(rowOf aB.zero (len*aB.size)).length=len*aB.size/\xv F parts.toList=some (JG 0 vs)/\vs.length=len/\∀ v∈vs,v.cells.size=aB.size)
  (k:bQ I M λb=>K (put o.dst (.val (.slice (some ⟨b,0,none⟩) len len)) F) C I (⟨b,.cells (vs.flatMap λv=>v.cells.toList).toArray e (0,0)⟩::M)):gb X o F C I M K:=by
 obtain⟨t,parts,cS,aB,aa,ad,aj,aJ,bD,cG,eZ,fx,dT⟩:=h;exact avt aa ad aj aJ bD cG vs eZ fx dT k
structure nU where
 p:Int
 w:Int
 r:Int
 pa:Option Addr
 pn:Nat
 pc:Nat
 pl:List Int
 bl:Int
def nU.cells(s:nU):List Value:=[.int .u8 s.p,.int .u8 s.w,.int .i64 s.r,.slice s.pa s.pn s.pc,.int .i64 s.bl]
def nU.val(s:nU):Value:=.agg #[.int .u8 s.p,.int .u8 s.w,.int .i64 s.r,.slice s.pa s.pn s.pc,.int .i64 s.bl]
def nU.cL(s:nU):s.cells.length=5:=rfl
section
end
def UD(cs:List gK)(s:nU):Bool:=decide (s.p=5)&&(decide (0<=s.r)&&(decide (s.r<(cs.length:Int))&&jS fw (fW cs) s.r.toNat s.pl s.w s.bl))
def UE(dj:CM cs F)(hw:(sT (fW cs).ds F).2=e)(aw:g.ok I)(aM:lZ cs g.ds):∃ r,j6 fw g r/\r.2=e:=by obtain⟨hm,bw,-⟩:=dj.of aw aM;exact⟨_,.inr ⟨hm,F,bw,rfl⟩,by rw[SC dj aw aM (.inr ⟨hm,F,bw,rfl⟩),hw]⟩
def avu(a6:en I fw)(ao:rS cs F f=true)(pD:(sT (fW cs).ds F).2=0)(aw:g.ok I)(aM:lZ cs g.ds){s:nU}(tX:0<=s.w)(av:cx I s.pa s.pn s.pc 1 8 (hR s.pl))(a7:eC s.bl)(ed:UD cs s=false):Spec Tryz.prog 27 [g.val,s.val] I [] λv I' M'=>(∀ b o,I b=some o->I' b=some o)/\M'=[]/\v=.tuple #[my.val,.int .i64 47]:=by
 have dj:=Iz ao;obtain⟨hm,-,-⟩:=dj.of aw aM;refine Spec.jN (NF (Jy a6 aw hm) (pass:=s.p) tX (rule:=s.r) av a7) ?_;rintro v J M⟨aa,ad,h,e,rfl,dh⟩;obtain⟨r,af,rp⟩:=UE dj pD aw aM;obtain⟨rfl,rfl⟩:=dh.no r af rp λaG=>by obtain⟨CY,⟨CZ,af6⟩,af7⟩:=aG;rw[<-Uw,At aM aw]at af7;rw[afK aw aM]at af6;unfold UD at ed;rw[af7,gy CY,gy CZ,gy af6]at ed;cases ed
 exact⟨aa,ad,rfl⟩
def avv(a6:en I fw)(ao:rS cs F f=true)(pD:(sT (fW cs).ds F).2=42)(aw:g.ok I)(aM:lZ cs g.ds){s:nU}(tX:0<=s.w)(av:cx I s.pa s.pn s.pc 1 8 (hR s.pl))(a7:eC s.bl):Spec Tryz.prog 27 [g.val,s.val] I [] λv I' M'=>(∀ b o,I b=some o->I' b=some o)/\M'=[]/\v=.tuple #[my.val,.int .i64 42]:=by have dj:=Iz ao;obtain⟨hm,bw,-⟩:=dj.of aw aM;refine Spec.jN (NF (Jy a6 aw hm) (pass:=s.p) tX (rule:=s.r) av a7) ?_;rintro v J M⟨aa,ad,h,e,rfl,dh⟩;obtain⟨r,af,mK⟩:=UE dj pD aw aM;obtain⟨rfl,rfl⟩:=dh.bad _ af ay';exact⟨aa,ad,by rw[mK]⟩
def avw(I:aH):my.ok I:=⟨⟨rfl,⟨cc _,bv⟩,.inl rfl⟩,λd ai=>qr⟩
def UF:dO fw my=4:=by kernel_rfl
def af8(a6:en I fw):yV fw I my:=⟨a6,avw I,λd ai=>qr,bv,bv,λd ai=>qr⟩
def af9(af:j6 fw my r):r.2=4:=by
 rcases af with⟨-,rfl⟩ | ⟨a,-⟩
 ·exact UF
 ·rw[UF]at a;cases a
def aga:∃ r,j6 fw my r:=⟨_,.inl ⟨by rw[UF];decide,rfl⟩⟩
def avx(a6:en I fw){s:nU}(tX:0<=s.w)(av:cx I s.pa s.pn s.pc 1 8 (hR s.pl))(a7:eC s.bl):Spec Tryz.prog 27 [my.val,s.val] I [] λv I' M'=>(∀ b o,I b=some o->I' b=some o)/\M'=[]/\v=.tuple #[my.val,.int .i64 4]:=by refine Spec.jN (NF (af8 a6) (pass:=s.p) tX (rule:=s.r) av a7) ?_;rintro v J M⟨aa,ad,h,e,rfl,dh⟩;obtain⟨r,af⟩:=aga;have mK:=af9 af;obtain⟨rfl,rfl⟩:=dh.bad _ af ay';exact⟨aa,ad,by rw[mK]⟩
def avy(a6:en I fw):Spec Tryz.prog 25 [my.val] I [] λv I' M'=>(∀ b o,I b=some o->I' b=some o)/\∃ (a:Option Addr) (c:Nat),v=.slice a 0 c:=by
 refine Spec.jN (afn (af8 a6)) ?_;rintro v J M⟨aa,os,L,rfl,b3,bZ,rfl,nS⟩;obtain⟨r,af⟩:=aga;have mK:=af9 af;rw[Nt af,bS ay']at nS;have aC:os.n=0:=by have:=b3.len;rw[hc _ 5 jT.cL,List.map_eq_nil_iff.1 nS]at this;simp at this;omega
 exact⟨aa,os.a.map λg=>⟨g,0,none⟩,os.c,by rw[aT.val,aC]⟩
def avz(a6:en I fw)(ao:rS cs F f=true)(pD:(sT (fW cs).ds F).2=42)(aw:g.ok I)(aM:lZ cs g.ds):Spec Tryz.prog 26 [g.val] I [] λv I' M'=>(∀ b o,I b=some o->I' b=some o)/\M'=[]/\v=.tuple #[afo,.bool false]:=by
 have dj:=Iz ao;obtain⟨hm,bw,-⟩:=dj.of aw aM;refine Spec.jN (at1 (Jy a6 aw hm)) ?_;obtain⟨r,af,mK⟩:=UE dj pD aw aM;rintro v J M⟨aa,ad,⟨-,rfl⟩|⟨x,-,-,ab,-⟩⟩
 ·exact⟨aa,ad,rfl⟩
 ·rw[Nt af,bS ay']at ab;cases ab
def JH:bs:=⟨[],none,0,0,0⟩
def agb(I:aH):JH.ok I:=⟨⟨rfl,⟨cc _,bv⟩,.inl rfl⟩,λd ai=>qr,by simp[JH,eC]⟩
def agc(h:C6 none v):v=.tuple #[bj.zero.val,.bool false]:=by
 obtain⟨w,b,rfl,ag,bg⟩:=h;cases b with
 |true=>cases ag| false=>rw[bg rfl]
def agd(a6:en I fw)(hw:0<=w)(aG:y.ok I):Spec Tryz.prog 18 [.int .u8 w,JH.val,y.val] I M0 λv I' M'=>(∀ b o,I b=some o->I' b=some o)/\M'=M0/\v=.tuple #[bj.zero.val,.bool false]:=by
 refine Spec.jN (T0 a6 hw (agb I) aG bv) ?_;rintro v J M⟨aa,ad,ak⟩;have e:nd w JH y=none:=by unfold nd;rfl
 rw[e]at ak;exact⟨aa,ad,agc ak⟩
def avA(a6:en I fw):Spec Tryz.prog 20 [JH.val] I M0 λv I' M'=>(∀ b o,I b=some o->I' b=some o)/\M'=M0/\v=.tuple #[bj.zero.val,.bool false]:=by refine Spec.jN (TY a6 (agb I)) ?_;rintro v J M⟨rfl,ad,ak⟩;exact⟨λ_ _ h=>h,ad,agc ak⟩
structure pe where
 a:List UInt8
 b:List UInt8
 w:Int
 is:Bool
 want:List UInt8
def pe.cells(x:pe):List Value:=[.string ⟨x.a.toArray⟩,.string ⟨x.b.toArray⟩,.int .u8 x.w,.bool x.is,.string ⟨x.want.toArray⟩]
def pe.val(x:pe):Value:=.agg #[.string ⟨x.a.toArray⟩,.string ⟨x.b.toArray⟩,.int .u8 x.w,.bool x.is,.string ⟨x.want.toArray⟩]
def pe.cL(x:pe):x.cells.length=5:=rfl
def pe.BT(x:pe):Prop:=∀ {I:aH},en I fw->Spec Tryz.prog 77 [.string ⟨x.a.toArray⟩,.string ⟨x.b.toArray⟩,.int .u8 x.w,.bool x.is,.string ⟨x.want.toArray⟩] I [] λv I' M'=>v=.bool true/\(∀ b o,I b=some o->I' b=some o)/\M'=[]
def uq:List pe:=[⟨[34,97,34],[34,98,34],1,true,[97,98]⟩,⟨[91,93],[91,93],1,true,[]⟩,⟨[97],[91,98,93],1,false,[]⟩,⟨[91,97,93],[34,34],1,false,[]⟩,⟨[91,97,93],[91,98,93],2,false,[]⟩,⟨[91,97,93],[91,98,93],0,false,[]⟩,⟨[91,97,93],[91,98,93],4,false,[]⟩,⟨[33,91,97,93],[91,97,93],2,true,[]⟩,⟨[33,91,97,93],[34,98,34],2,false,[]⟩,⟨[33,34,97,34],[91,98,93],2,false,[]⟩,⟨[33,91,97,93],[91,98,93],3,false,[]⟩,⟨[38,91,97,93],[91,98,93],3,true,[]⟩,⟨[38,91,97,93],[91,98,93],2,false,[]⟩,⟨[33,91,97,93],[91,98,93],1,false,[]⟩,⟨[38,91,97,93],[120],3,false,[]⟩,⟨[33,91,93],[91,98,93],2,true,[98]⟩,⟨[33,33,91,97,93],[91,98,93],2,false,[]⟩]
def avB:∀ x∈uq,x.BT:=by
 intro x ab;simp only[uq,er,DS,DU]at ab;rcases ab with rfl | rfl | rfl | rfl | rfl | rfl | rfl | rfl | rfl | rfl | rfl | rfl | rfl | rfl | rfl | rfl | rfl
 ·exact λa6=>mz a6 auw afN bv bv bv auE
 ·exact λa6=>mz a6 afO afO bv bv bv auF
 ·exact λa6=>mz a6 auy vT bv bv bv auG
 ·exact λa6=>mz a6 JB auz bv bv bv auH
 ·exact λa6=>mz a6 JB vT bv bv bv auI
 ·exact λa6=>mz a6 JB vT bv bv bv auJ
 ·exact λa6=>mz a6 JB vT bv bv bv auK
 ·exact λa6=>mz a6 NI JB bv bv bv auL
 ·exact λa6=>mz a6 NI afN bv bv bv auM
 ·exact λa6=>mz a6 auA vT bv bv bv auN
 ·exact λa6=>mz a6 NI vT bv bv bv auO
 ·exact λa6=>mz a6 UB vT bv bv bv auP
 ·exact λa6=>mz a6 UB vT bv bv bv auQ
 ·exact λa6=>mz a6 NI vT bv bv bv auR
 ·exact λa6=>mz a6 UB auB bv bv bv auS
 ·exact λa6=>mz a6 auC vT bv bv bv auT
 ·exact λa6=>mz a6 auD vT bv bv bv auU
def qX(b1 bH cJ dS:Nat):List nU:=[⟨0,0,0,none,0,0,[],0⟩,⟨3,1,0,none,0,0,[],0⟩,⟨5,0,0,none,0,0,[],0⟩,⟨5,4,0,none,0,0,[],0⟩,⟨5,1,0,none,0,0,[],1⟩,⟨5,1,0,none,0,0,[],3⟩,⟨5,1,0,none,0,0,[],4⟩,⟨5,1,0,none,0,0,[],(-1)⟩,⟨5,1,0,some ⟨b1,0,none⟩,1,1,[3],0⟩,⟨5,2,0,none,0,0,[],0⟩,⟨5,2,0,some ⟨bH,0,none⟩,1,1,[3],1⟩,⟨5,3,0,some ⟨cJ,0,none⟩,1,1,[3],0⟩,⟨5,2,0,some ⟨dS,0,none⟩,1,1,[4],0⟩,⟨5,1,2,none,0,0,[],0⟩,⟨5,1,(-1),none,0,0,[],0⟩,⟨5,1,1,none,0,0,[],0⟩]
def avC(b1 bH cJ dS:Nat):∀ s∈qX b1 bH cJ dS,UD pd s=false:=by
 intro s av;simp only[qX,er,DS,DU]at av;rcases av with rfl | rfl | rfl | rfl | rfl | rfl | rfl | rfl | rfl | rfl | rfl | rfl | rfl | rfl | rfl | rfl<;>kernel_rfl
def p7(I:aH):cx I none 0 0 1 8 (hR []):=⟨rfl,⟨cc _,bv⟩,.inl rfl⟩
def AZ{k:Int}(h:J b=some (.cells #[.int .i64 k] 3 (0,0))):cx J (some ⟨b,0,none⟩) 1 1 1 8 (hR [k]):=
 ⟨rfl,⟨cc _,bv⟩,.inr ⟨⟨b,0,none⟩,rfl,rfl,_,_,_,h,rfl⟩⟩
def avD(aa:J b1=some (.cells #[.int .i64 3] 3 (0,0)))(ad:J bH=some (.cells #[.int .i64 3] 3 (0,0)))(aj:J cJ=some (.cells #[.int .i64 3] 3 (0,0)))(aJ:J dS=some (.cells #[.int .i64 4] 3 (0,0))):∀ s∈qX b1 bH cJ dS,0<=s.w/\cx J s.pa s.pn s.pc 1 8 (hR s.pl)/\eC s.bl:=by
 intro s av;simp only[qX,er,DS,DU]at av;rcases av with rfl | rfl | rfl | rfl | rfl | rfl | rfl | rfl | rfl | rfl | rfl | rfl | rfl | rfl | rfl | rfl
 ·exact⟨am,p7 J,ip⟩
 ·exact⟨am,p7 J,ip⟩
 ·exact⟨am,p7 J,ip⟩
 ·exact⟨am,p7 J,ip⟩
 ·exact⟨am,p7 J,ip⟩
 ·exact⟨am,p7 J,ip⟩
 ·exact⟨am,p7 J,ip⟩
 ·exact⟨am,p7 J,ip⟩
 ·exact⟨am,AZ aa,ip⟩
 ·exact⟨am,p7 J,ip⟩
 ·exact⟨am,AZ ad,ip⟩
 ·exact⟨am,AZ aj,ip⟩
 ·exact⟨am,AZ aJ,ip⟩
 ·exact⟨am,p7 J,ip⟩
 ·exact⟨am,p7 J,ip⟩
 ·exact⟨am,p7 J,ip⟩
def xn(b1 bH cJ dS:Nat):List aA:=[⟨dS,.cells #[.int .i64 4] 3 (0,0)⟩,⟨cJ,.cells #[.int .i64 3] 3 (0,0)⟩,⟨bH,.cells #[.int .i64 3] 3 (0,0)⟩,⟨b1,.cells #[.int .i64 3] 3 (0,0)⟩]
def avE{R:aH}(aa:R b1=none)(ad:R bH=none)(aj:R cJ=none)(aJ:R dS=none)(avF:b1≠bH)(avG:b1≠cJ)(avH:bH≠cJ)(avI:b1≠dS)(avJ:bH≠dS)(avK:cJ≠dS) :
  (∀ b o,R b=some o->vN R (xn b1 bH cJ dS) b=some o)/\∀ K:aH,(∀ b o,vN R (xn b1 bH cJ dS) b=some o->K b=some o)->∀ s∈qX b1 bH cJ dS,0<=s.w/\cx K s.pa s.pn s.pc 1 8 (hR s.pl)/\eC s.bl:=by
 have avL:∀ x∈xn b1 bH cJ dS,R x.num=none:=λx ab=>by
  simp only[xn,er,DS,DU]at ab;rcases ab with rfl | rfl | rfl | rfl<;>assumption
 have avM:((xn b1 bH cJ dS).map (λx:aA=>x.num)).Nodup:=by simp only[xn,b0,hs,lG,er,DS,DU,not_or,not_false_iff,A2,and_true];exact⟨⟨λe=>avK e.symm,λe=>avJ e.symm,λe=>avI e.symm⟩,⟨λe=>avH e.symm,λe=>avG e.symm⟩,λe=>avF e.symm⟩
 obtain⟨rT,NL⟩:=Nj _ avL avM;exact⟨rT,λK dj=>avD (dj _ _ (NL _ (.tail _ (.tail _ (.tail _ (.head _)))))) (dj _ _ (NL _ (.tail _ (.tail _ (.head _))))) (dj _ _ (NL _ (.tail _ (.head _)))) (dj _ _ (NL _ (.head _)))⟩
end Go.V
