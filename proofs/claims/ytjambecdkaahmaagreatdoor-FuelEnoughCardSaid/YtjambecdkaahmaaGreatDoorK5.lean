/- Part 5 of what the proofs of this seat share: the executor, data in memory, walks.
-/
import Derived.Test.YtjambecdkaahmaaGreatDoorK4
import Derived.Test.YtjambecdkaahmaaGreatDoorK2
import Derived.Laws.IdiomStrings
import Derived.Test.YtjambecdkaahmaaGreatDoorK3
import Derived.Lib.SliceRun
set_option linter.all false
set_option maxHeartbeats 8000000
set_option maxRecDepth 100000
namespace Go.V
open Go
def tK:=@List.length_range
def zH:=@List.length_singleton
def A2:=@List.getElem_set_self
def CW:=@Nat.ble_eq_true_of_le
def CX:=@BitVec.toNat_ofNat
def LS:=@Int.tdiv_eq_ediv_of_nonneg
def LU:=@List.mem_or_eq_of_mem_set
def LV:=@Nat.add_sub_cancel_left
def H9:=@List.getElem_set_ne
def H':=@Nat.mod_eq_of_lt
def Ia:=@List.flatMap_map
def Y6:=@Nat.testBit_eq_decide_div_mod_eq
def Y7:=@List.drop_append_of_le_length
def LW:=@Nat.zero_lt_one
def Q0:=@List.take_append
def Q1:=@Nat.div_le_self
def Q2:=@List.range_add
variable{z N j i t c src dst e c' off aU:Nat}{m kn:Nat->Nat->bo}{g:(Nat->Nat->bo)->bo}{A:Nat->Nat->Prop}{hi x s mx:Operand}{S:fJ}{au:List bC}{dT aP LX:eE}{ad:Option Addr}{cL L fD:List Nat}{args aY vs:List Value}{I:a5}{M Mr:List aF}{K:Value->a5->List aF->Prop}{α:Type}{E:Env}{v:Value}{T:Nat->Nat->cP}{c3 gr:IntKind}
def Y8(x:Nat):min (fr x 1) 65537=min (1+(min x 65537+0)) 65537:=by unfold fr;omega
def h6(c:bo):bo:=⟨min c.n 65537,c.av,c.ao⟩
def fz(z:Nat)(m:Nat->Nat->bo)(k p:Nat):bo:=bif Nat.ble p z then h6 (m k p)else hC
def sI{k p:Nat}(h:p<=z):fz z m k p=h6 (m k p):=by unfold fz;rw[CW h];rfl
def Ib{k p:Nat}(h:cn (fz z m k p)):p<=z/\fz z m k p=h6 (m k p)/\cn (m k p):=by
 unfold fz at h |-;cases ag:Nat.ble p z with
 |false=>rw[ag]at h;exact absurd h ou| true=>rw[ag]at h;exact⟨bP ag,rfl,h⟩
def Y9{m':Nat->Nat->bo}(h:o2 0 m m'):xM (fz z m) (fz z m'):=λk p ah=>by obtain⟨U,aa,af⟩:=Ib ah;rw[aa,sI U,h k p (bF _) af]
def Y'{P:bm}{jd:Nat->Nat->bo}(bz:xM kn jd){k pl:Nat}(af:(jd k (pl-P.aq)).ao=3){parts:List (Nat×Nat)}(aK:je P kn k pl parts){n0:Nat}{dy:List e'}(jZ:hp P kn n0 parts dy)(aE:jA dy N)(cM:kc pl (jd k (pl-P.aq)).av dy)
  (aJ:(jd k (pl-P.aq)).n=min ((if(P.ai k).d.k=9 then 1 else 0)+N) 65537):∃ n l,hp P jd n [(k,pl)] l/\jA l (jd k (pl-P.aq)).n/\kc pl (jd k (pl-P.aq)).av l:=by
 by_cases ay:(jd k (pl-P.aq)).n=0
 ·exact⟨1,[],.zero af ay .nil,⟨λ_=>ay.symm,λh=>by omega⟩,.nil cM.le⟩
 ·refine⟨n0+1,_,.node af ay (aK.le bz) (l:=dy) (by rw[eo];exact jZ.le bz),?_,?_⟩
  case refine_2=>
   unfold oh;cases decide ((P.ai k).d.k=9)with
   |true=>exact .cap cM| false=>exact cM
  rw[aJ];refine jA.cut ?_;unfold oh;by_cases dk:(P.ai k).d.k=9;·rw[cF dk,dF dk,a4];exact jA.app (l:=[_]) (n:=1) ⟨λ_=>rfl,λh=>by omega⟩ aE
  ·rw[b8 dk,bG dk,aQ,dp];exact aE
section
variable{z:Nat}{m:Nat->Nat->bo}(hm:∀ q b,jC z b (m q b))
include hm
def Za{P:bm}(bk:P.s.size=z)(ag:P.aq=0)(k p:Nat):kU P (P.aq+p) (fz z m k p):=by
 rw[ag,dp];by_cases aK:p<=z
 ·rw[sI aK];rcases hm k p with e | e | ⟨U,aa,af,aN⟩
  ·rw[e];exact⟨bF _,λh=>(by cases h),λ_=>⟨rfl,rfl⟩⟩
  ·rw[e];exact⟨by show 2<=3;omega,λh=>(by cases h),λ_=>⟨rfl,rfl⟩⟩
  ·refine⟨by show(m k p).ao<=3;omega,λ_=>⟨aa,by rw[bk];exact af aK,AL _ _⟩,λh=>absurd U h⟩
 ·have:fz z m k p=hC:=by unfold fz;rw[lB.2 λe=>aK (bP e)];rfl
  rw[this];exact⟨bF _,λh=>(by cases h),λ_=>⟨rfl,rfl⟩⟩
def Zb:∀ (L:List Nat) (a n:Nat),(fV m L a n).ao=3->a<=z->allM (fz z m) 0 L a/\(fV m L a n).av=iy (fz z m) 0 L a/\min (fV m L a n).n 65537=min (n+ic (fz z m) 0 L a) 65537
 |[],a,n,_,_=>⟨trivial,rfl,rfl⟩
 |q::L,a,n,h,aH=>by
  cases af:Nat.beq (m q a).ao 3 with
  |false=>simp only[fV,af,aQ]at h;rw[h]at af;cases af| true=>have bx:=cj af;have e:fz z m q (a-0)=h6 (m q a):=sI aH;obtain⟨a3,a6,bN⟩:=(hm q a).ge bx;simp only[fV,af,a4]at h |-;obtain⟨i1,i2,i3⟩:=Zb L _ _ h (a6 aH);simp only[allM,iy,ic,e];have o4:Nat.beq (h6 (m q a)).ao 3=true:=af;rw[o4,a4,a4];refine⟨⟨bx,i1⟩,i2,?_⟩;rw[i3];show min (fr n (m q a).n+ic (fz z m) 0 L (m q a).av) 65537=min (n+(min (m q a).n 65537+ic (fz z m) 0 L (m q a).av)) 65537;unfold fr;omega
omit hm in
def Zc:∀ (L:List Nat) (a:Nat),(gH m L a).ao=3->a<=z->sv (fz z m) 0 L a/\∃ q∈L,gH m L a=m q a/\kW (fz z m) 0 L a=bif Nat.beq (h6 (m q a)).n 0 then []else [(q,a)]
 |[],a,h,_=>by cases h
 |q::L,a,h,aH=>by
  have e:fz z m q (a-0)=h6 (m q a):=sI aH;cases aa:Nat.beq (m q a).ao 2 with
  |true=>have aA:=cj aa;simp only[gH,aa,a4]at h |-;obtain⟨i1,fG,i2,i3,i4⟩:=Zc L a h aH;have eZ:(h6 (m q a)).ao=2:=aA;simp only[sv,kW,e,eZ,i4];exact⟨.inr ⟨trivial,i1⟩,fG,.tail _ i2,i3,rfl⟩
  |false=>simp only[gH,aa,aQ]at h |-;have o4:(h6 (m q a)).ao=3:=h;refine⟨.inl (by rw[e];exact o4),q,.head _,rfl,?_⟩;simp only[kW,e,o4];rfl
def Zd{q:Nat}{lo hi:Int}:∀ (j i a n:Nat),(e0 m q lo hi j i a n).ao=3->a<=z->i+j<=1000000->(hi=-1\/((i+j:Nat):Int)=hi)->∃ r,kX (fz z m) 0 q hi i a (iP (fz z m) 0 (List.replicate r q) a)/\allM (fz z m) 0 (List.replicate r q) a /\ (e0 m q lo hi j i a n).av=iy (fz z m) 0 (List.replicate r q) a/\min (e0 m q lo hi j i a n).n 65537=min (n+ic (fz z m) 0 (List.replicate r q) a) 65537
 |0,i,a,n,h,aH,an,aR=>by
  simp only[e0]at h |-;cases hu:decide (hi=-1)with
  |true=>rw[hu]at h;cases h
  |false=>
   have bM:=cu hu;refine⟨0,.stop ?_,trivial,rfl,rfl⟩;rcases aR with aR | aR;·exact absurd aR bM
   ·rw[<-aR,p']
 |j+1,i,a,n,h,aH,an,aR=>by
  have e:fz z m q (a-0)=h6 (m q a):=sI aH;have dx:(i:Int)≠hi:=by
   rcases aR with aR | aR<;>omega
  cases aa:Nat.beq (m q a).ao 2 with
  |true=>
   simp only[e0,aa,a4]at h |-;cases aE:decide ((i:Int)<lo)with
   |true=>rw[aE]at h;cases h| false=>exact⟨0,.fail dx (by rw[e];exact cj aa),trivial,rfl,rfl⟩
  |false=>
   cases af:Nat.beq (m q a).ao 3 with
   |false=>simp only[e0,aa,af,aQ]at h;cases h
   |true=>
    have bx:=cj af;obtain⟨a3,a6,bN⟩:=(hm q a).ge bx;simp only[e0,aa,af,aQ,a4]at h |-;cases hu:decide (hi=-1)&&decide ((m q a).av=a)with
    |true=>rw[hu]at h;cases h
    |false=>
     rw[hu,aQ]at h;rw[aQ];obtain⟨r,i0,i1,i2,i3⟩:=Zd j (i+1) _ _ h (a6 aH) (by omega) (by rcases aR with aR | aR;exact .inl aR;exact .inr (by rw[<-aR];omega));have o4:Nat.beq (h6 (m q a)).ao 3=true:=af;refine⟨r+1,?_,?_⟩
     ·have:=kX.more (kn:=fz z m) (aq:=0) (k:=q) (hi:=hi) (t:=i) (a:=a) (by omega) dx (by rw[e];exact bx) (by rw[e];exact i0);rw[e]at this;simp only[wc,iP,e,o4,a4];cases Ic:Nat.beq (h6 (m q a)).n 0<;>rw[Ic]at this<;>exact this
     ·simp only[wc,allM,iy,ic,e,o4,a4];refine⟨⟨bx,i1⟩,i2,?_⟩;rw[i3];show min (fr n (m q a).n+ic (fz z m) 0 (List.replicate r q) (m q a).av) 65537=min (n+(min (m q a).n 65537+ic (fz z m) 0 (List.replicate r q) (m q a).av)) 65537;unfold fr;omega
end
structure x2(P:bm)(k:Nat):Prop where
 qx:0<=(P.ai k).d.k
 one:(P.ai k).d.k=3\/6<=(P.ai k).d.k->∃ q,(P.ai k).bd=[q]
 lt:(P.ai k).d.k<10
 kR:(P.ai k).d.k=6->(P.ai k).d.hi=-1\/(0<=(P.ai k).d.hi/\(P.ai k).d.hi<=99)
def ajI{P:bm}(ag:P.aq=0)(bk:P.s.size<=4096)(az:∀ k,x2 P k)(hm:∀ q b,jC P.s.size b (m q b))(bz:o2 0 m λk a=>ef P m k a)(aB:qA P (fz P.s.size m)):qA P (fz P.s.size λk a=>ef P m k a):=by
 intro k p af;obtain⟨aK,he,ah⟩:=Ib (.inr af);rw[he]at af;have af:(ef P m k p).ao=3:=af;have hk:=QU hm rfl k p;obtain⟨a3,a6,bN⟩:=hk.ge af;have b':p=p-P.aq:=by rw[ag];rfl
 have Ze:=Y9 (z:=P.s.size) bz;have bw:=Za hm rfl ag;have zI:=az k;rw[ag,dp];have zero:(ef P m k p).n=0->∃ n l,hp P (fz P.s.size λk a=>ef P m k a) n [(k,p)] l/\jA l (fz P.s.size (λk a=>ef P m k a) k p).n/\kc p (fz P.s.size (λk a=>ef P m k a) k p).av l:=λay=>by refine⟨1,[],.zero (by rw[<-b',he];exact af) (by rw[<-b',he];show min (ef P m k p).n 65537=0;omega) .nil,?_,.nil (by rw[he];exact a3)⟩;rw[he];show jA [] (min (ef P m k p).n 65537);rw[ay];exact⟨λ_=>rfl,λh=>by omega⟩
 have many:∀ (L:List Nat),je P (fz P.s.size m) k p (iP (fz P.s.size m) 0 L p)->allM (fz P.s.size m) 0 L p->(ef P m k p).av=iy (fz P.s.size m) 0 L p->min (ef P m k p).n 65537=min ((if(P.ai k).d.k=9 then 1 else 0)+ic (fz P.s.size m) 0 L p) 65537 ->
   ∃ n l,hp P (fz P.s.size λk a=>ef P m k a) n [(k,p)] l/\jA l (fz P.s.size (λk a=>ef P m k a) k p).n/\kc p (fz P.s.size (λk a=>ef P m k a) k p).av l:=λL tL pT CY ajJ=>by
  obtain⟨n0,dy,gF,gv,gG⟩:=EP bw aB L p (by omega) (by rw[ag];exact pT);rw[ag]at gF gv gG;have:=Y' Ze (k:=k) (pl:=p) (by rw[<-b',he];exact af) tL gF gv (by rw[<-b',he];show kc p (ef P m k p).av dy;rw[CY];exact gG) (by rw[<-b',he];exact ajJ);rwa [<-b']at this
 rcases CS (P.ai k).d.k with e | e | e | e | e | e | e | e | e | ⟨qx,eJ,c3,gr,mZ,CZ,Q3,Q4,Q5⟩
 ·refine zero ?_;rw[xU e]
 ·refine zero ?_;rw[xV e];cases P.s.data[p]? with
  |none=>rfl| some b=>cases ag:jS (P.ai k).d b.toNat<;>simp[ag,hR]
 ·refine zero ?_;rw[xW e];cases preB P.s (P.ai k).d.t p<;>rfl
 ·obtain⟨q,aL⟩:=zI.one (.inl e);have mD:ef P m k p=m q p:=by rw[wj e,aL];rfl
  have qw:fz P.s.size m q (p-0)=h6 (m q p):=sI aK;rw[mD]at af;have er:(h6 (m q p)).ao=3:=af;refine many [q] ?_ ⟨by rw[qw];exact er,trivial⟩ ?_ ?_;·unfold je;rw[b8 (by omega),b8 (by omega),aL,ag];exact⟨⟨by rw[qw];exact er,trivial⟩,rfl⟩
  ·rw[mD];simp only[iy,qw,er];rfl
  ·rw[mD,b8 (by omega)];simp only[ic,qw,er];show min (m q p).n 65537=min (0+(min (m q p).n 65537+0)) 65537;omega
 ·have mD:ef P m k p=fV m (P.ai k).bd p 0:=xX e;rw[mD]at af;obtain⟨i1,i2,i3⟩:=Zb hm _ _ _ af aK;refine many (P.ai k).bd ?_ i1 (by rw[mD];exact i2) (by rw[mD,i3,b8 (by omega)]);unfold je;rw[b8 (by omega),b8 (by omega),ag];exact⟨i1,rfl⟩
 ·have mD:ef P m k p=gH m (P.ai k).bd p:=xY e;have ajK:=af;rw[mD]at af;obtain⟨i1,q,i2,i3,i4⟩:=Zc _ _ af aK;rw[i3]at af;have qw:fz P.s.size m q p=h6 (m q p):=sI aK;obtain⟨gZ,mA,gF,gv,gG⟩:=aB q p (by rw[qw];exact af);rw[ag,dp]at gF gG;have jZ:∃ hQ kZ,hp P (fz P.s.size m) hQ (kW (fz P.s.size m) 0 (P.ai k).bd p) kZ/\jA kZ (h6 (m q p)).n/\kc p (m q p).av kZ:=by
   rw[i4];rw[qw]at gv gG;cases Ic:Nat.beq (h6 (m q p)).n 0 with
   |true=>rw[a4];refine⟨0,[],.nil,?_,.nil gG.le⟩;rw[cj Ic];exact⟨λ_=>rfl,λh=>by omega⟩| false=>exact⟨gZ,mA,gF,gv,gG⟩
  obtain⟨hQ,kZ,hS,fP,hT⟩:=jZ;have LY:je P (fz P.s.size m) k p (kW (fz P.s.size m) 0 (P.ai k).bd p):=by unfold je;rw[b8 (by omega),cF e,ag];exact⟨i1,rfl⟩
  have:=Y' Ze (k:=k) (pl:=p) (by rw[<-b',he];exact ajK) LY hS fP (by rw[<-b',he];show kc p (ef P m k p).av kZ;rw[mD,i3];exact hT) (by rw[<-b',he,b8 (by omega)];show min (ef P m k p).n 65537=min (0+min (m q p).n 65537) 65537;rw[mD,i3];omega);rwa [<-b']at this
 ·have mD:=tJ (m:=m) (a:=p) e;rw[mD]at af;have rz:=zI.kR e;obtain⟨r,i0,i1,i2,i3⟩:=Zd hm _ _ _ _ af aK (by
    unfold m4;cases hu:decide ((P.ai k).d.hi=-1)with
    |true=>rw[a4];omega| false=>rw[aQ];have:=cu hu;omega) (by
    unfold m4;rcases rz with U | U;·exact .inl U
    ·have:¬ (P.ai k).d.hi=-1:=by omega
     rw[bG this,aQ];exact .inr (by omega))
  refine many (List.replicate r ((P.ai k).bd.getD 0 0)) ?_ i1 (by rw[mD];exact i2) (by rw[mD,i3,b8 (by omega)]);unfold je;rw[cF e,ag];exact i0
 ·refine zero ?_;rw[wk e]at af |-;cases jU:Nat.beq (m ((P.ai k).bd.getD 0 0) p).ao 3 with
  |true=>rfl| false=>rw[jU,aQ]at af;rw[af]at jU;cases jU
 ·refine zero ?_;rw[wm e]at af |-;cases gy:Nat.beq (m ((P.ai k).bd.getD 0 0) p).ao 2 with
  |true=>rfl
  |false=>
   rw[gy,aQ]at af;cases jU:Nat.beq (m ((P.ai k).bd.getD 0 0) p).ao 3<;>rw[jU]at af<;>cases af
 ·have AO:6<=(P.ai k).d.k:=by have:=zI.qx;omega
  obtain⟨q,aL⟩:=zI.one (.inr AO);have mD:=wo (m:=m) (a:=p) qx eJ c3 gr mZ CZ Q3 Q4 Q5;rw[aL]at mD;have qw:fz P.s.size m q (p-0)=h6 (m q p):=sI aK;have Ie:([q]:List Nat).getD 0 0=q:=rfl;rw[Ie]at mD;cases jU:Nat.beq (m q p).ao 3 with
  |false=>rw[mD,jU,aQ]at af;rw[af]at jU;cases jU
  |true=>
   rw[jU,a4]at mD;have er:(h6 (m q p)).ao=3:=cj jU;refine many [q] ?_ ⟨by rw[qw];exact er,trivial⟩ ?_ ?_;·unfold je;rw[b8 (by omega),b8 (by omega),aL,ag];exact⟨⟨by rw[qw];exact er,trivial⟩,rfl⟩
   ·rw[mD];simp only[iy,qw,er];rfl
   ·rw[mD];have dk:(P.ai k).d.k=9:=by have:=zI.lt;omega
    rw[cF dk];simp only[ic,qw,er];exact Y8 (m q p).n
noncomputable def eP(P:bm):Nat->Nat->bo:=fz P.s.size (bs P)
def Zf{P:bm}(ag:P.aq=0)(bk:P.s.size<=4096)(az:∀ k,x2 P k):qA P (eP P):=by
 have step:∀ n,qA P (fz P.s.size (fa P n)):=λn=>by
  induction n with
  |zero=>intro k p af;obtain⟨-,-,ah⟩:=Ib (.inr af);exact absurd ah ou
  |succ n be=>exact ajI ag bk az (LP P n) (QV P n) be
 intro k p af;obtain⟨aK,he,ah⟩:=Ib (.inr af);obtain⟨n,az⟩:=qD ah;have e:fz P.s.size (fa P n) k p=fz P.s.size (bs P) k p:=by rw[sI aK,sI aK,az]
 obtain⟨gZ,l,gF,gv,gG⟩:=step n k p (by rw[e];exact af);rw[e]at gv gG;exact⟨gZ,l,gF.le (Y9 (YK P n)),gv,gG⟩
def Zg{P:bm}(ag:P.aq=0)(k p:Nat):kU P (P.aq+p) (eP P k p):=Za (sG P) rfl ag k p
structure qF(P:bm)(f g:(Nat->Nat->bo)->bo):Prop where
 l:f (bs P)=g (bs P)
 d:∀ n,cn (f (fa P n))->cn (g (fa P n))
def qF.refl{P:bm}{f:(Nat->Nat->bo)->bo}:qF P f f:=⟨rfl,λ_ h=>h⟩
def qF.trans{P:bm}{f h:(Nat->Nat->bo)->bo}(a:qF P f g)(b:qF P g h):qF P f h:=⟨a.l.trans b.l,λn x=>b.d n (a.d n x)⟩
def qF.ask{P:bm}{f:(Nat->Nat->bo)->bo}{q a:Nat}(ah:∀ m,cn (f m)->cn (m q a))(he:∀ m:Nat->Nat->bo,m q a=bs P q a->f m=g m):qF P f g:=
 ⟨he _ rfl,λn h=>by
  have aa:=CT (ah _ h);rw[he _ aa.symm]at h;exact h⟩
def LZ(P:bm)(A:Nat->Nat->Prop)(f:(Nat->Nat->bo)->bo):Prop:=∀ n,cn (f (fa P n))->∃ k a fK,fK<=n/\A k a/\cn (fa P fK k a)
def Zh(P:bm)(A:Nat->Nat->Prop)(k a:Nat):Prop:=∀ n,cn (fa P n k a)->∃ cO cf fK,fK<n/\A cO cf/\cn (fa P fK cO cf)
def LZ.av{P:bm}{f:(Nat->Nat->bo)->bo}(h:LZ P A g)(aI:qF P f g):LZ P A f:=λn ah=>h n (aI.d n ah)
def Zh.le{P:bm}{k a:Nat}(h:Zh P A k a):LZ P A λm=>m k a:=λn ah=>by obtain⟨cO,cf,fK,U,aa,af⟩:=h n ah;exact⟨cO,cf,fK,Nat.le_of_lt U,aa,af⟩
section
variable{m:Nat->Nat->bo}{q a n:Nat}{L:List Nat}
def Zi(h:cn (fV m (q::L) a n)):cn (m q a):=by
 unfold fV at h;cases af:Nat.beq (m q a).ao 3 with
 |true=>exact pR af| false=>rw[af,aQ]at h;exact h
def Zj(h:cn (gH m (q::L) a)):cn (m q a):=by
 unfold gH at h;cases aa:Nat.beq (m q a).ao 2 with
 |true=>exact xZ aa| false=>rw[aa,aQ]at h;exact h
def Zk{lo hi:Int}(h:cn (e0 m q lo hi (j+1) i a n)):cn (m q a):=by
 unfold e0 at h;cases aa:Nat.beq (m q a).ao 2 with
 |true=>exact xZ aa
 |false=>
  cases af:Nat.beq (m q a).ao 3 with
  |true=>exact pR af| false=>rw[aa,af]at h;exact absurd h ou
def ajL{P:bm}{k:Nat}(ae:(P.ai k).d.k=3\/(7<=(P.ai k).d.k/\(P.ai k).d.k<10))(aL:(P.ai k).bd.getD 0 0=q)(h:cn (ef P m k a)):cn (m q a):=by
 rcases CS (P.ai k).d.k with e | e | e | e | e | e | e | e | e | ⟨qx,eJ,c3,gr,mZ,CZ,Q3,Q4,Q5⟩
 ·omega
 ·omega
 ·omega
 ·rw[wj e,aL]at h;exact h
 ·omega
 ·omega
 ·omega
 ·rw[wk e,aL]at h;cases af:Nat.beq (m q a).ao 3 with
  |true=>exact pR af| false=>rw[af,aQ]at h;exact h
 ·rw[wm e,aL]at h;cases aa:Nat.beq (m q a).ao 2 with
  |true=>exact xZ aa
  |false=>
   cases af:Nat.beq (m q a).ao 3 with
   |true=>exact pR af| false=>rw[aa,af]at h;exact absurd h ou
 ·rw[wo qx eJ c3 gr mZ CZ Q3 Q4 Q5,aL]at h;cases af:Nat.beq (m q a).ao 3 with
  |true=>exact pR af| false=>rw[af,aQ]at h;exact h
end
section
variable{P:bm}{q a n:Nat}{L:List Nat}
def ajM(af:(bs P q a).ao=3):qF P (λm=>fV m (q::L) a n) (λm=>fV m L (bs P q a).av (fr n (bs P q a).n)):=
 qF.ask (λ_=>Zi) λm e=>by show fV m (q::L) a n=_;rw[fV,e,af];rfl
def ajN(aa:(bs P q a).ao=2):qF P (λm=>gH m (q::L) a) (λm=>gH m L a):=
 qF.ask (λ_=>Zj) λm e=>by show gH m (q::L) a=_;rw[gH,e,aa];rfl
def ajO{lo hi:Int}(af:(bs P q a).ao=3)(aR:¬ (hi=-1/\(bs P q a).av=a)):qF P (λm=>e0 m q lo hi (j+1) i a n) (λm=>e0 m q lo hi j (i+1) (bs P q a).av (fr n (bs P q a).n)):=
 qF.ask (λ_=>Zk) λm e=>by
  show e0 m q lo hi (j+1) i a n=_;rw[e0,e,af];have:(decide (hi=-1)&&decide ((bs P q a).av=a))=false:=by
   by_cases aC:hi=-1;·rw[bG λaA=>aR ⟨aC,aA⟩,HN]
   ·rw[bG aC,uE]
  simp only[this];rfl
end
def ajP(x:Nat):min (min x 65537+1) 65537=min (fr x 1) 65537:=by have:=Y8 x;omega
def m6(P:bm)(m:Nat->Nat->bo)(f:bC)(N:Nat):bo:=
 bif decide ((P.ai f.aG).d.k=4)then fV m ((P.ai f.aG).bd.drop f.bu) f.av N else
 bif decide ((P.ai f.aG).d.k=5)then gH m ((P.ai f.aG).bd.drop f.bu) f.pl else
 bif decide ((P.ai f.aG).d.k=6)then e0 m ((P.ai f.aG).bd.getD 0 0) (P.ai f.aG).d.lo (P.ai f.aG).d.hi (m4 P (P.ai f.aG).d f.pl-f.bu) f.bu f.av N else ef P m f.aG f.pl
def L0{P:bm}{f:bC}(h:(P.ai f.aG).d.k=4):m6 P m f N=fV m ((P.ai f.aG).bd.drop f.bu) f.av N:=by simp[m6,h]
def L1{P:bm}{f:bC}(h:(P.ai f.aG).d.k=5):m6 P m f N=gH m ((P.ai f.aG).bd.drop f.bu) f.pl:=by simp[m6,h]
def L2{P:bm}{f:bC}(h:(P.ai f.aG).d.k=6):m6 P m f N=e0 m ((P.ai f.aG).bd.getD 0 0) (P.ai f.aG).d.lo (P.ai f.aG).d.hi (m4 P (P.ai f.aG).d f.pl-f.bu) f.bu f.av N:=by simp[m6,h]
def L3{P:bm}{f:bC}(aN:(P.ai f.aG).d.k≠4)(bq:(P.ai f.aG).d.k≠5)(bp:(P.ai f.aG).d.k≠6):m6 P m f N=ef P m f.aG f.pl:=by simp[m6,aN,bq,bp]
def E8(P:bm)(f:bC):Prop:=∃ N,f.n=min N 65537/\N<=1099511627776/\qF P (λm=>ef P m f.aG f.pl) (λm=>m6 P m f N)
def ajQ{P:bm}{k a:Nat}:E8 P ⟨k,a,0,a,0⟩:=by
 refine⟨0,rfl,bF _,?_⟩;have:(λm=>ef P m k a)=λm=>m6 P m ⟨k,a,0,a,0⟩ 0:=funext λm=>by
  by_cases aN:(P.ai k).d.k=4;·rw[L0 aN,xX aN];rfl
  ·by_cases bq:(P.ai k).d.k=5
   ·rw[L1 bq,xY bq];rfl
   ·by_cases bp:(P.ai k).d.k=6
    ·rw[L2 bp,tJ bp];rfl
    ·rw[L3 aN bq bp]
 rw[show(λm=>ef P m (bC.aG ⟨k,a,0,a,0⟩) (bC.pl ⟨k,a,0,a,0⟩))=λm=>ef P m k a from rfl,this];exact .refl
def Zl{P:bm}{f:bC}(ar:qy P f)(bp:(P.ai f.aG).d.k=6):∃ j,m4 P (P.ai f.aG).d f.pl-f.bu=j+1/\m4 P (P.ai f.aG).d f.pl-(f.bu+1)=j/\((P.ai f.aG).d.hi≠-1->(((f.bu+1:Nat):Int)=(P.ai f.aG).d.hi ↔ j=0)):=by
 obtain⟨U,aa,af⟩:=ar.kR bp;have aN:=ar.av;have bq:=ar.pl;have cM:((P.ai f.aG).d.hi=-1->m4 P (P.ai f.aG).d f.pl=P.s.size+1-f.pl)/\((P.ai f.aG).d.hi≠-1->m4 P (P.ai f.aG).d f.pl=(P.ai f.aG).d.hi.toNat):=by unfold m4;exact⟨λe=>by rw[dF e];rfl,λe=>by rw[bG e];rfl⟩
 by_cases e:(P.ai f.aG).d.hi=-1
 ·have bp:=aa e;have ec:=cM.1 e;exact⟨m4 P (P.ai f.aG).d f.pl-f.bu-1,by omega,by omega,λh=>absurd e h⟩
 ·have bp:=af e;have ec:=cM.2 e;refine⟨m4 P (P.ai f.aG).d f.pl-f.bu-1,by omega,by omega,λ_=>?_⟩;omega
def L4{l:List Nat}(h:t<l.length):l.drop t=l.getD t 0::l.drop (t+1):=by rw[fg h];congr 1;simp[dB,h]
def ajR{P:bm}{f:bC}(ar:qy P f)(h:cn (m6 P m f N))(u0:(P.ai f.aG).d.k<10):cn (m (bA P f).1 (bA P f).2):=by
 unfold bA;by_cases aN:(P.ai f.aG).d.k=4
 ·rw[L0 aN,L4 (ar.many (.inl aN))]at h;simp only[aN,zc,a4];exact Zi h
 ·by_cases bq:(P.ai f.aG).d.k=5
  ·rw[L1 bq,L4 (ar.many (.inr bq))]at h;simp only[bG aN,dF bq,a4,aQ];exact Zj h
  ·simp only[bG aN,bG bq,aQ];by_cases bp:(P.ai f.aG).d.k=6
   ·obtain⟨j,an,-,-⟩:=Zl ar bp;rw[L2 bp,an]at h;exact Zk h
   ·rw[L3 aN bq bp]at h;have ae:=ar.k;obtain⟨U,aa⟩:=ar.one (by omega);rw[aa];exact ajL (by omega) rfl h
def L5{n av:Nat}:h6 ⟨n,av,3⟩=iu av n:=rfl
structure ajS(P:bm)(f f':bC)(c':bo)(done:Bool):Prop where
 fin:done=true->c'=h6 (bs P f.aG f.pl)
 go:done=false->E8 P f'
def ajT{P:bm}{f:bC}(cV:iw P)(ar:qy P f)(ax:E8 P f){c:bo}(ah:cn c)(aJ:c=h6 (bs P (bA P f).1 (bA P f).2)) :
  (fQ P f c=.loop->bs P f.aG f.pl=hC)/\∀ {f':bC} {c':bo} {done:Bool},fQ P f c=.on f' c' done->ajS P f f' c' done:=by
 obtain⟨N,az,cM,ix⟩:=ax;have o5:bs P f.aG f.pl=m6 P (bs P) f N:=by rw[<-LQ];exact ix.l
 have ae:=ar.k;have hk:=sG P (bA P f).1 (bA P f).2;have u0:=(bm.rm cV ar.aG).k.2;have cR:c.ao=(bs P (bA P f).1 (bA P f).2).ao:=by rw[aJ];rfl
 have x3:c.av=(bs P (bA P f).1 (bA P f).2).av:=by rw[aJ];rfl
 have qG:c.n=min (bs P (bA P f).1 (bA P f).2).n 65537:=by rw[aJ];rfl
 have cB:c.ao=2->bs P (bA P f).1 (bA P f).2=hR/\c=hR:=λaa=>by have:=hk.two (by rw[<-cR];exact aa);exact⟨this,by rw[aJ,this];rfl⟩
 have E9:min (fr N (bs P (bA P f).1 (bA P f).2).n) 65537=min (f.n+c.n) 65537:=by rw[az,qG];unfold fr;omega
 have L6:=u3 N (bs P (bA P f).1 (bA P f).2).n;unfold fQ;simp only;by_cases af:(P.ai f.aG).d.k<4
 ·have er:(P.ai f.aG).d.k=3:=by omega
  rw[dF af,a4];obtain⟨U,aa⟩:=ar.one (.inl er);refine⟨λh=>(by cases h),λh=>?_⟩;cases h;refine⟨λ_=>?_,λh=>by cases h⟩;rw[o5,L3 (by omega) (by omega) (by omega),wj er,aJ];unfold bA;simp only[bG (show ¬ (P.ai f.aG).d.k=4 by omega),bG (show ¬ (P.ai f.aG).d.k=5 by omega),aQ];rw[aa]
 rw[bG af,aQ];by_cases aN:(P.ai f.aG).d.k=4
 ·rw[dF aN,a4];have gf:bA P f=((P.ai f.aG).bd.getD f.bu 0,f.av):=by unfold bA;simp only[aN,zc,a4]
  have hm:=ar.many (.inl aN);rw[gf]at cR x3 qG cB E9 L6;have oY:∀ m,m6 P m f N=fV m ((P.ai f.aG).bd.getD f.bu 0::(P.ai f.aG).bd.drop (f.bu+1)) f.av N:=λm=>by rw[L0 aN,L4 hm]
  cases aa:Nat.beq c.ao 2 with
  |true=>have aA:=cj aa;obtain⟨ed,dP⟩:=cB aA;rw[a4];refine⟨λh=>(by cases h),λh=>?_⟩;cases h;refine⟨λ_=>?_,λh=>by cases h⟩;rw[o5,oY,fV,ed,dP];rfl
  |false=>
   have bx:c.ao=3:=by
    rcases ah with h | h;·rw[h]at aa;cases aa
    ·exact h
   rw[aQ];refine⟨λh=>(by cases h),λh=>?_⟩;cases h;have hj:=ajM (L:=(P.ai f.aG).bd.drop (f.bu+1)) (n:=N) (P:=P) (q:=(P.ai f.aG).bd.getD f.bu 0) (a:=f.av) (by rw[<-cR];exact bx);refine⟨λh=>?_,λh=>?_⟩;·have aE:=cm h;rw[o5,oY];have bq:fV (bs P) ((P.ai f.aG).bd.getD f.bu 0::(P.ai f.aG).bd.drop (f.bu+1)) f.av N=_:=hj.l;rw[bq,iG (by omega),fV,L5,<-x3];unfold iu;rw[E9,Nat.min_assoc,Nat.min_self]
   ·refine⟨fr N (bs P ((P.ai f.aG).bd.getD f.bu 0) f.av).n,by rw[E9];rfl,L6,ix.trans ?_⟩;have aC:(λm=>m6 P m f N)=λm=>fV m ((P.ai f.aG).bd.getD f.bu 0::(P.ai f.aG).bd.drop (f.bu+1)) f.av N:=funext oY;have aA:(λm=>m6 P m (f.add c) (fr N (bs P ((P.ai f.aG).bd.getD f.bu 0) f.av).n))=λm=>fV m ((P.ai f.aG).bd.drop (f.bu+1)) (bs P ((P.ai f.aG).bd.getD f.bu 0) f.av).av (fr N (bs P ((P.ai f.aG).bd.getD f.bu 0) f.av).n):=funext λm=>by rw[L0 (f:=f.add c) aN];show fV m ((P.ai f.aG).bd.drop (f.bu+1)) c.av _=_;rw[x3]
    rw[aC,aA];exact hj
 rw[bG aN,aQ];by_cases bq:(P.ai f.aG).d.k=5
 ·rw[dF bq,a4];have gf:bA P f=((P.ai f.aG).bd.getD f.bu 0,f.pl):=by unfold bA;simp only[bG aN,dF bq,a4,aQ]
  have hm:=ar.many (.inr bq);rw[gf]at cR cB aJ;have oY:∀ m,m6 P m f N=gH m ((P.ai f.aG).bd.getD f.bu 0::(P.ai f.aG).bd.drop (f.bu+1)) f.pl:=λm=>by rw[L1 bq,L4 hm]
  cases er:Nat.beq c.ao 3 with
  |true=>have bx:=cj er;rw[a4];refine⟨λh=>(by cases h),λh=>?_⟩;cases h;refine⟨λ_=>?_,λh=>by cases h⟩;rw[o5,oY,gH,show(bs P ((P.ai f.aG).bd.getD f.bu 0) f.pl).ao=3 by rw[<-cR];exact bx,aJ];rfl
  |false=>
   have aA:c.ao=2:=by
    rcases ah with h | h;·exact h
    ·rw[h]at er;cases er
   obtain⟨ed,dP⟩:=cB aA;rw[aQ];refine⟨λh=>(by cases h),λh=>?_⟩;cases h;have hj:=ajN (L:=(P.ai f.aG).bd.drop (f.bu+1)) (P:=P) (q:=(P.ai f.aG).bd.getD f.bu 0) (a:=f.pl) (by rw[ed];rfl);refine⟨λh=>?_,λh=>?_⟩;·have aE:=cm h;rw[o5,oY];have bq:gH (bs P) ((P.ai f.aG).bd.getD f.bu 0::(P.ai f.aG).bd.drop (f.bu+1)) f.pl=_:=hj.l;rw[bq,iG (by omega),dP];rfl
   ·refine⟨N,az,cM,ix.trans ?_⟩;have aC:(λm=>m6 P m f N)=λm=>gH m ((P.ai f.aG).bd.getD f.bu 0::(P.ai f.aG).bd.drop (f.bu+1)) f.pl:=funext oY;have aA:(λm=>m6 P m { f with bu:=f.bu+1 } N)=λm=>gH m ((P.ai f.aG).bd.drop (f.bu+1)) f.pl:=funext λm=>by rw[L1 (f:={ f with bu:=f.bu+1 }) bq]
    rw[aC,aA];exact hj
 rw[bG bq,aQ];have gf:bA P f=((P.ai f.aG).bd.getD 0 0,f.av):=by unfold bA;simp only[bG aN,bG bq,aQ]
 rw[gf]at cR x3 qG cB E9 L6 aJ;by_cases bp:(P.ai f.aG).d.k=6
 ·rw[dF bp,a4];obtain⟨j,an,kt,ajU⟩:=Zl ar bp;have oY:∀ m,m6 P m f N=e0 m ((P.ai f.aG).bd.getD 0 0) (P.ai f.aG).d.lo (P.ai f.aG).d.hi (j+1) f.bu f.av N:=λm=>by rw[L2 bp,an]
  cases aa:Nat.beq c.ao 2 with
  |true=>
   have aA:=cj aa;obtain⟨ed,dP⟩:=cB aA;rw[a4];have aj:bs P f.aG f.pl=bif decide ((f.bu:Int)<(P.ai f.aG).d.lo)then hR else⟨N,f.av,3⟩:=by rw[o5,oY,e0,ed];rfl
   cases aE:decide ((f.bu:Int)<(P.ai f.aG).d.lo)with
   |true=>rw[a4];refine⟨λh=>(by cases h),λh=>?_⟩;cases h;exact⟨λ_=>by rw[aj,aE,dP];rfl,λh=>by cases h⟩| false=>rw[aQ];refine⟨λh=>(by cases h),λh=>?_⟩;cases h;refine⟨λ_=>?_,λh=>by cases h⟩;rw[aj,aE,aQ,L5];unfold iu;rw[az,Nat.min_assoc,Nat.min_self]
  |false=>
   have bx:c.ao=3:=by
    rcases ah with h | h;·rw[h]at aa;cases aa
    ·exact h
   have o4:(bs P ((P.ai f.aG).bd.getD 0 0) f.av).ao=3:=by rw[<-cR];exact bx
   rw[aQ];cases aE:decide ((P.ai f.aG).d.hi=-1)&&decide (c.av=f.av)with
   |true=>rw[a4];refine⟨λ_=>?_,λh=>by cases h⟩;rw[o5,oY,e0,o4,<-x3,aE];rfl
   |false=>
    rw[aQ];have eb:¬ ((P.ai f.aG).d.hi=-1/\(bs P ((P.ai f.aG).bd.getD 0 0) f.av).av=f.av):=λ⟨x,y⟩=>by rw[x3,dF x,dF y]at aE;cases aE
    have hj:=ajO (P:=P) (q:=(P.ai f.aG).bd.getD 0 0) (a:=f.av) (n:=N) (lo:=(P.ai f.aG).d.lo) (hi:=(P.ai f.aG).d.hi) (j:=j) (i:=f.bu) o4 eb;refine⟨λh=>(by cases h),λh=>?_⟩;cases h;refine⟨λh=>?_,λh=>?_⟩
    ·have mu:=cm h;have aR:(P.ai f.aG).d.hi≠-1:=λe=>by rw[e]at mu;omega
     have Q6:=(ajU aR).1 mu;rw[o5,oY];have ec:e0 (bs P) ((P.ai f.aG).bd.getD 0 0) (P.ai f.aG).d.lo (P.ai f.aG).d.hi (j+1) f.bu f.av N=_:=hj.l;rw[ec,Q6,e0,bG aR,aQ,L5,<-x3];unfold iu;rw[E9,Nat.min_assoc,Nat.min_self]
    ·refine⟨fr N (bs P ((P.ai f.aG).bd.getD 0 0) f.av).n,by rw[E9];rfl,L6,ix.trans ?_⟩;have aC:(λm=>m6 P m f N)=λm=>e0 m ((P.ai f.aG).bd.getD 0 0) (P.ai f.aG).d.lo (P.ai f.aG).d.hi (j+1) f.bu f.av N:=funext oY;have aA:(λm=>m6 P m (f.add c) (fr N (bs P ((P.ai f.aG).bd.getD 0 0) f.av).n))=λm=>e0 m ((P.ai f.aG).bd.getD 0 0) (P.ai f.aG).d.lo (P.ai f.aG).d.hi j (f.bu+1) (bs P ((P.ai f.aG).bd.getD 0 0) f.av).av (fr N (bs P ((P.ai f.aG).bd.getD 0 0) f.av).n):=funext λm=>by rw[L2 (f:=f.add c) bp];show e0 m ((P.ai f.aG).bd.getD 0 0) (P.ai f.aG).d.lo (P.ai f.aG).d.hi (m4 P (P.ai f.aG).d f.pl-(f.bu+1)) (f.bu+1) c.av _=_;rw[x3,kt]
     rw[aC,aA];exact hj
 rw[bG bp,aQ];obtain⟨E7,LR⟩:=ar.one (by omega);have fW:bs P f.aG f.pl=ef P (bs P) f.aG f.pl:=by rw[o5,L3 aN bq bp]
 rw[LR]at cR x3 qG cB aJ;by_cases ec:(P.ai f.aG).d.k=7
 ·rw[dF ec,a4];rw[wk ec]at fW;cases er:Nat.beq c.ao 3 with
  |true=>rw[cR]at er;rw[a4];refine⟨λh=>(by cases h),λh=>?_⟩;cases h;exact⟨λ_=>by rw[fW,er];rfl,λh=>by cases h⟩| false=>rw[cR]at er;rw[aQ];refine⟨λh=>(by cases h),λh=>?_⟩;cases h;exact⟨λ_=>by rw[fW,er,aJ];rfl,λh=>by cases h⟩
 rw[bG ec,aQ];by_cases eX:(P.ai f.aG).d.k=8
 ·rw[dF eX,a4];rw[wm eX]at fW;cases aa:Nat.beq c.ao 2 with
  |true=>rw[cR]at aa;rw[a4];refine⟨λh=>(by cases h),λh=>?_⟩;cases h;exact⟨λ_=>by rw[fW,aa];rfl,λh=>by cases h⟩
  |false=>
   have bx:c.ao=3:=by
    rcases ah with h | h;·rw[h]at aa;cases aa
    ·exact h
   rw[aQ];refine⟨λh=>(by cases h),λh=>?_⟩;cases h;exact⟨λ_=>by rw[fW,show(bs P ((P.ai f.aG).bd.getD 0 0) f.pl).ao=3 by rw[<-cR];exact bx];rfl,λh=>by cases h⟩
 rw[bG eX,aQ];have dk:(P.ai f.aG).d.k=9:=by omega
 rw[wo (by omega) (by omega) (by omega) (by omega) (by omega) (by omega) (by omega) (by omega) (by omega)]at fW;cases er:Nat.beq c.ao 3 with
 |true=>rw[cR]at er;rw[a4];refine⟨λh=>(by cases h),λh=>?_⟩;cases h;refine⟨λ_=>?_,λh=>by cases h⟩;rw[fW,er,a4,L5,<-x3];unfold iu;rw[qG];show(⟨min (min (bs P ((P.ai f.aG).bd.getD 0 0) f.pl).n 65537+1) 65537,c.av,3⟩:bo)=⟨min (fr (bs P ((P.ai f.aG).bd.getD 0 0) f.pl).n 1) 65537,c.av,3⟩;rw[ajP]| false=>rw[cR]at er;rw[aQ];refine⟨λh=>(by cases h),λh=>?_⟩;cases h;exact⟨λ_=>by rw[fW,er,aJ];rfl,λh=>by cases h⟩
def x4(P:bm)(x y:Nat×Nat):Prop:=∀ n,cn (fa P n y.1 y.2)->∃ fK,fK<n/\cn (fa P fK x.1 x.2)
def x4.trans{P:bm}{x y z:Nat×Nat}(h:x4 P x y)(bg:x4 P y z):x4 P x z:=λn ah=>by obtain⟨gZ,U,aa⟩:=bg n ah;obtain⟨hQ,af,aN⟩:=h gZ aa;exact⟨hQ,by omega,aN⟩
def x4.ajV{P:bm}{x:Nat×Nat}(h:x4 P x x):∀ n,¬ cn (fa P n x.1 x.2):=λn=>by
 induction n using Nat.strongRecOn with
 |ind n be=>intro ah;obtain⟨fK,U,aa⟩:=h n ah;exact be fK U aa
def A3(P:bm):Prop:=∀ k a,k<P.ns.length->a<=P.s.size->cn (bs P k a)
def A3.no{P:bm}(h:A3 P){k a:Nat}(ae:k<P.ns.length)(aH:a<=P.s.size)(ah:x4 P (k,a) (k,a)):False:=by have U:=h k a ae aH;obtain⟨n,az⟩:=qD U;rw[<-az]at U;exact ah.ajV n U
def ajW{P:bm}(cV:iw P){f:bC}(ar:qy P f)(ax:E8 P f):x4 P (bA P f) (f.aG,f.pl):=λn ah=>by
 obtain⟨N,-,-,ix⟩:=ax;cases n with
 |zero=>exact absurd ah ou| succ n=>exact⟨n,yM n,ajR ar (ix.d n ah) (bm.rm cV ar.aG).k.2⟩
def Zm{P:bm}:∀ (op:List bC),zs P op->(∀ f∈op,x4 P (bA P f) (f.aG,f.pl))->∀ f0 au,op=f0::au->∀ f∈op,x4 P (bA P f0) (f.aG,f.pl)
 |[],_,_,f0,au,h,f,ar=>by cases ar
 |[g],_,ah,f0,au,h,f,ar=>by cases h;rw[jw.1 ar];exact ah _ (.head _)
 |g::r::bj,aJ,ah,f0,au,h,f,ar=>by
  cases h;obtain⟨fm,fj⟩:=aJ;rcases eu.1 ar with rfl | ar;·exact ah _ (.head _)
  ·have U:=Zm (r::bj) fj (λx ab=>ah x (.tail _ ab)) r bj rfl f ar;rw[fm]at U;exact(ah _ (.head _)).trans U
structure zJ(P:bm)(S:fJ):Prop where
 kn:∀ k p,cn (S.kn k p)->S.kn k p=h6 (bs P k (P.aq+p))/\P.aq+p<=P.s.size
 w:∀ k p,(S.kn k p).ao=1->∃ f∈S.op,f.aG=k/\f.pl=P.aq+p
 op:∀ f∈S.op,E8 P f
def Q7(P:bm)(S:fJ):nL->Prop
 | .begin _ _=>True| .hand c=>∀ f au,S.op=f::au->c=h6 (bs P (bA P f).1 (bA P f).2)
def If(P:bm):uX->Prop
 | .stop (.err _)=>False| .stop (.ok _ S)=>zJ P S| .more q S=>zJ P S/\Q7 P S q
def Zn{P:bm}{f:bC}(cX:S.op=f::au)(jr:zs P (f::au))(dg:P.aq<=f.pl)(CV:f.pl<=P.s.size)(ev:∀ k p,cn (S.kn k p)->S.kn k p=h6 (bs P k (P.aq+p))/\P.aq+p<=P.s.size)
  (hw:∀ k p,(S.kn k p).ao=1->∃ x∈S.op,x.aG=k/\x.pl=P.aq+p) (al:∀ x∈au,E8 P x) {c:bo} (ah:cn c) (aJ:c=h6 (bs P f.aG f.pl)):If P (kT P c S):=by
 have ae:∀ k p,cn (hn S.kn f.aG (f.pl-P.aq) c k p)->hn S.kn f.aG (f.pl-P.aq) c k p=h6 (bs P k (P.aq+p))/\P.aq+p<=P.s.size:=λk p h=>by
  by_cases e:k=f.aG/\p=f.pl-P.aq;·obtain⟨rfl,rfl⟩:=e;rw[nM,aJ,oc dg];exact⟨rfl,CV⟩
  ·rw[uZ e]at h |-;exact ev k p h
 have u4:∀ k p,(hn S.kn f.aG (f.pl-P.aq) c k p).ao=1->∃ x∈au,x.aG=k/\x.pl=P.aq+p:=λk p h=>by
  by_cases e:k=f.aG/\p=f.pl-P.aq
  ·obtain⟨rfl,rfl⟩:=e;rw[nM]at h;rcases ah with aa | aa<;>omega
  ·rw[uZ e]at h;obtain⟨x,ab,U,aa⟩:=hw k p h;rw[cX]at ab;rcases eu.1 ab with rfl | ab
   ·exact absurd ⟨U.symm,by omega⟩ e
   ·exact⟨x,ab,U,aa⟩
 unfold kT;rw[cX];cases au with
 |nil=>exact⟨ae,u4,λx ab=>by cases ab⟩| cons r bj=>refine⟨⟨ae,u4,al⟩,λf' Az h=>?_⟩;obtain⟨rfl,rfl⟩:=G1 h;rw[jr.1];exact aJ
def Zo{P:bm}(cV:iw P)(gl:A3 P)(c2:kV P S)(h:zJ P S){f:bC}(cX:S.op=f::au):If P (iv P S):=by
 have ar:=c2.op f (by rw[cX];exact .head _);obtain⟨gZ,hQ,tF,AW⟩:=EK cV ar;unfold iv;rw[cX];simp only;cases ay:Nat.beq (S.kn (bA P f).1 ((bA P f).2-P.aq)).ao 0 with
 |true=>exact⟨h,trivial⟩
 |false=>
  rw[aQ];cases U:Nat.beq (S.kn (bA P f).1 ((bA P f).2-P.aq)).ao 1 with
  |true=>exfalso;obtain⟨x,ab,pU,nQ⟩:=h.w _ _ (cj U);have fi:=Zm S.op c2.chain (λy aT=>ajW cV (c2.op y aT) (h.op y aT)) f au cX x ab;rw[pU,nQ,oc hQ]at fi;exact gl.no gZ tF fi
  |false=>
   rw[aQ];refine⟨h,λf' Az e=>?_⟩;rw[cX]at e;obtain⟨rfl,rfl⟩:=G1 e;have cR:=(c2.kn (bA P f).1 ((bA P f).2-P.aq)).ao;have ah:cn (S.kn (bA P f).1 ((bA P f).2-P.aq)):=by
    have gk:(S.kn (bA P f).1 ((bA P f).2-P.aq)).ao≠0:=λe=>by rw[e]at ay;cases ay
    have bW:(S.kn (bA P f).1 ((bA P f).2-P.aq)).ao≠1:=λe=>by rw[e]at U;cases U
    unfold cn;omega
   have:=(h.kn _ _ ah).1;rwa [oc hQ]at this
def ajX{P:bm}{k a:Nat}{c:bo}(h:ib P k a=some c):c=h6 (bs P k a):=by
 rw[<-LQ];unfold ib at h;simp only at h;by_cases b':(P.ai k).d.k=0
 ·rw[dF b',a4]at h;cases h;rw[xU b'];rfl
 rw[bG b',aQ]at h;by_cases aC:(P.ai k).d.k=1
 ·rw[dF aC,a4]at h;rw[xV aC];cases ag:P.s.data[a]? with
  |none=>rw[ag]at h;cases h;rfl
  |some b=>
   rw[ag]at h;simp only at h |-;cases aR:jS (P.ai k).d b.toNat with
   |true=>rw[aR]at h;cases h;rfl| false=>rw[aR]at h;cases h;rfl
 rw[bG aC,aQ]at h;by_cases aA:(P.ai k).d.k=2
 ·rw[dF aA,a4]at h;rw[xW aA];cases aR:preB P.s (P.ai k).d.t a with
  |true=>rw[aR]at h;cases h;rfl| false=>rw[aR]at h;cases h;rfl
 rw[bG aA,aQ]at h;cases aR:decide ((P.ai k).d.k=6)&&decide ((P.ai k).d.hi=0)with
 |false=>rw[aR]at h;cases h| true=>rw[aR]at h;cases h;rw[ct]at aR;have gg:=cm aR.1;have ow:=cm aR.2;rw[tJ gg];unfold m4;rw[ow];rfl
def ajY{P:bm}(cV:iw P)(gl:A3 P)(c2:kV P S)(h:zJ P S){q:nL}(aL:l1 P S q)(ax:Q7 P S q):If P (pQ P q S):=by
 cases q with
 |begin k a=>
  obtain⟨b1,ch,b9,cK,eT⟩:=aL;have ev:=XQ c2 (k:=k) (a:=a) ⟨b1,ch,b9,cK,eT⟩;have jr:=Qc c2 (k:=k) (a:=a) ⟨b1,ch,b9,cK,eT⟩;have fI:∀ cO p,cn ((dC P k a S).kn cO p)->(dC P k a S).kn cO p=h6 (bs P cO (P.aq+p))/\P.aq+p<=P.s.size:=λcO p ah=>by
   by_cases e:cO=k/\p=a-P.aq
   ·obtain⟨rfl,rfl⟩:=e;have:(dC P cO a S).kn cO (a-P.aq)={ S.kn cO (a-P.aq)with ao:=1 }:=nM ..;rw[this]at ah;rcases ah with ah | ah<;>cases ah
   ·have:(dC P k a S).kn cO p=S.kn cO p:=uZ e;rw[this]at ah |-;exact h.kn cO p ah
  have u4:∀ cO p,((dC P k a S).kn cO p).ao=1->∃ x∈(dC P k a S).op,x.aG=cO/\x.pl=P.aq+p:=λcO p ah=>by
   by_cases e:cO=k/\p=a-P.aq;·obtain⟨rfl,rfl⟩:=e;exact⟨⟨cO,a,0,a,0⟩,.head _,rfl,by show a=_;omega⟩
   ·have:(dC P k a S).kn cO p=S.kn cO p:=uZ e;rw[this]at ah;obtain⟨x,ab,U,aa⟩:=h.w cO p ah;exact⟨x,.tail _ ab,U,aa⟩
  show If P (tG P k a S);unfold tG;cases az:ib P k a with
  |some c=>exact Zn (f:=⟨k,a,0,a,0⟩) (au:=S.op) rfl jr ch b9 fI u4 h.op (Lt b9 az).1 (ajX az)
  |none=>
   obtain⟨n0,gZ,hQ,uY⟩:=Qb az;have aH:=bm.rm cV b1;refine Zo cV gl (f:=⟨k,a,0,a,0⟩) (au:=S.op) ⟨λf ar=>?_,ev,jr⟩ ⟨fI,u4,λf ar=>?_⟩ rfl
   ·rcases eu.1 ar with rfl | ar
    ·exact⟨b1,ch,b2 _,b9,bF _,by have:=aH.k;show 3<=(P.ai k).d.k;omega,λe=>aH.many e,λe=>⟨uY e,λ_=>bF _,λaA=>by
      have a':(P.ai k).d.k=6:=e;have eZ:¬ (P.ai k).d.hi=-1:=aA;have:=aH.kR a';have:=uY a';show((0:Nat):Int)<(P.ai k).d.hi;omega⟩,λ_=>⟨rfl,rfl⟩⟩
    ·exact c2.op f ar
   ·rcases eu.1 ar with rfl | ar
    ·exact ajQ
    ·exact h.op f ar
 |hand c=>
  obtain⟨f,au,cX,ah,aJ⟩:=aL;have ar:=c2.op f (by rw[cX];exact .head _);have jJ:=h.op f (by rw[cX];exact .head _);have jr:=c2.chain;rw[cX]at jr;obtain⟨mv,zK⟩:=ajT cV ar jJ ah (ax f au cX);show If P (kw P c S);unfold kw;rw[cX];simp only;cases aR:fQ P f c with
  |loop=>have U:=gl f.aG f.pl ar.aG (iU ar.pl ar.av);rw[mv aR]at U;exact absurd U ou
  |on f' c' done=>
   have ae:=EL cV ar ah aJ aR;have bO:=zK aR;have dg:=ar.lo;have u4:∀ k p,(S.kn k p).ao=1->∃ x∈f'::au,x.aG=k/\x.pl=P.aq+p:=λk p U=>by
    obtain⟨x,ab,pU,nQ⟩:=h.w k p U;rw[cX]at ab;rcases eu.1 ab with rfl | ab;·exact⟨f',.head _,by rw[ae.same.1,pU],by rw[ae.same.2,nQ]⟩
    ·exact⟨x,.tail _ ab,pU,nQ⟩
   cases done with
   |true=>obtain⟨ed,dP⟩:=ae.Qd rfl;exact Zn (S:=⟨S.kn,f'::au,S.aU+1⟩) (f:=f') (au:=au) rfl (HL jr ae.same) (by rw[ae.same.2];exact dg) (by rw[ae.same.2];exact iU ar.pl ar.av) h.kn u4 (λx ab=>h.op x (by rw[cX];exact .tail _ ab)) ed (by rw[ae.same.1,ae.same.2];exact bO.fin rfl)
   |false=>
    refine Zo cV gl (S:=⟨S.kn,f'::au,S.aU+1⟩) (f:=f') (au:=au) ⟨λx ab=>?_,c2.kn,HL jr ae.same⟩ ⟨h.kn,u4,λx ab=>?_⟩ rfl
    ·rcases eu.1 ab with rfl | ab
     ·exact ae.on rfl
     ·exact c2.op x (by rw[cX];exact .tail _ ab)
    ·rcases eu.1 ab with rfl | ab
     ·exact bO.go rfl
     ·exact h.op x (by rw[cX];exact .tail _ ab)
def Zp{P:bm}(cV:iw P)(gl:A3 P):∀ (n:Nat) {q:nL} {S:fJ},kV P S->l1 P S q->zJ P S->Q7 P S q->(∀ e,ho P n q S=.err e->e=0)/\∀ c e5,ho P n q S=.ok c e5->zJ P e5
 |0,q,S,_,_,_,_=>⟨λe h=>by cases h;rfl,λc e5 h=>by cases h⟩
 |n+1,q,S,U,aa,af,aN=>by
  have s1:=AX cV U aa;have s2:=ajY cV gl U af aa aN;unfold ho;generalize pQ P q S=x at s1 s2
  match x,s1,s2 with
  | .stop (.err e),s1,s2=>exact s2.elim| .stop (.ok c my),s1,s2=>exact⟨λe h=>(by cases h),λc' e5 h=>by cases h;exact s2⟩| .more dP my,s1,s2=>exact Zp cV gl n s1.1 s1.2 s2.1 s2.2
def ajZ(P:bm):zJ P gU:=⟨λk p h=>absurd h ou,λk p h=>(by cases h),λf h=>(by cases h)⟩
def Zq{P:bm}(cV:iw P)(gl:A3 P){r a:Nat}(al:r<P.ns.length)(U:P.aq<=a)(aa:a<=P.s.size)(n:Nat) :
  (∀ e,ho P n (.begin r a) gU=.err e->e=0)/\∀ c e5,ho P n (.begin r a) gU=.ok c e5->c=h6 (bs P r a)/\zJ P e5:=by
 obtain⟨a3,a6⟩:=Zp cV gl n (CQ P) (H5 al U aa) (ajZ P) trivial;refine⟨a3,λc e5 h=>?_⟩;have ax:=a6 c e5 h;obtain⟨i1,i2,i3,i4,i5⟩:=LO cV n (CQ P) (H4 P) (H5 al U aa) trivial (.inl ⟨rfl,rfl⟩) h;refine⟨?_,ax⟩;have aN:=(ax.kn r (a-P.aq) (by rw[i4];exact i1)).1;rw[i4,oc U]at aN;exact aN
section
variable{X:dw}{o:Oper}{F:Fr}{C:dX}{I:a5}{M:List aF}{K:hb}
def bE.aj0(aW:dm X.P X.E)(aD:o.op=.convert src dst x)(ah:∀ d,o.dst=some d->d<X.n)
 (aI:X.E src=some dT) (eS:dT.bT=.slice e) (he:X.E e=some aP) (mX:aP.bT=.int .u8) (mW:X.E dst=some LX) (lz:LX.bT=.string)
  {ad:Addr} {n:Nat} {l:List UInt8} (ab:bU F x=.val (.slice (some ad) n c)) (az:l.length=n) (br:cx I M ad n (l.map λb=>.int .u8 b.toNat))
  (h:K (put o.dst (.val (.string ⟨l.toArray⟩)) F) C I M):bE X o F C I M K:=by
 subst az;refine⟨λa w Q ⟨β,ba⟩=>?_⟩;obtain⟨ax,cs,T,ak,ae,aj,aE⟩:=br;have aB:=ae.heap ba.holds;obtain⟨d,fH,gd⟩:=(aW _ _ aI).fM;have U:d=.slice e:=by rw[eS]at gd;cases d<;>simp_all[fF]
 subst U;obtain⟨d2,Q8,nI⟩:=(aW _ _ he).fM;have aa:d2=.int .u8:=by rw[mX]at nI;cases d2<;>simp_all[fF]
 subst aa;obtain⟨d3,Q9,xJ⟩:=(aW _ _ mW).fM;have af:d3=.string:=by rw[lz]at xJ;cases d3<;>simp_all[fF]
 subst af;have aJ:∀ j (an:j<l.length),w.cell? (ad.add j)=some (.int .u8 (l[j].toNat:Int)):=by
  intro j an;rw[dY ad ax,w6 aB];have ji:(l.map λb=>Value.int .u8 b.toNat)[j]?=some (.int .u8 (l[j].toNat:Int)):=by simp[an]
  rw[<-aj,mM,cF an,s8]at ji;simpa using ji
 have ex:=dJ ba.ak ab;refine w7 ba ah (by rw[aD];simp) ?_ h;unfold execOp;simp only[aD,cG,dv,ex,run_convert_bytes_back w src dst e ad c l fH Q8 Q9 aJ,ck]
end
section
variable{X:dw}{F:Fr}{C:dX}{I:a5}{M:List aF}{o:Oper}{K:hb}
def bE.aj1(aW:dm X.P X.E)(aD:o.op=.convert src dst x)(ah:∀ d,o.dst=some d->d<X.n)
 (aI:X.E src=some dT) (eS:dT.bT=.slice e) (he:X.E e=some aP) (mX:aP.bT=.int .u8) (mW:X.E dst=some LX) (lz:LX.bT=.string)
 (ab:bU F x=.val (.slice none 0 c))
  (h:K (put o.dst (.val (.string ⟨#[]⟩)) F) C I M):bE X o F C I M K:=by
 refine⟨λa w Q ⟨β,ba⟩=>?_⟩;obtain⟨d,fH,gd⟩:=(aW _ _ aI).fM;have U:d=.slice e:=by rw[eS]at gd;cases d<;>simp_all[fF]
 subst U;obtain⟨d2,Q8,nI⟩:=(aW _ _ he).fM;have aa:d2=.int .u8:=by rw[mX]at nI;cases d2<;>simp_all[fF]
 subst aa;obtain⟨d3,Q9,xJ⟩:=(aW _ _ mW).fM;have af:d3=.string:=by rw[lz]at xJ;cases d3<;>simp_all[fF]
 subst af;have ex:=dJ ba.ak ab;refine w7 ba ah (by rw[aD];simp) ?_ h;unfold execOp;have ff:(convert src dst (.slice none 0 c)).run X.P w=.ok (.string ⟨#[]⟩) w:=by rw[run_convert_bytes_string w src dst e none 0 c fH Q8 Q9];rfl
 simp only[aD,cG,dv,ex,ff,ck]
end
def a9.whole{P:Program}{f:Nat}(post:Value->a5->List aF->Prop)(ax:Spec P f args I M post)(k:∀ v I' M',(∀ b o,I b=some o->I' b=some o)->post v I' M'->K v I' M'):a9 cL P f args I M K:=
 .mk M [] post (by simp) ax λv I' M' U aa=>by rw[eo];exact k v I' M' U aa
def hx.whole{soft:Bool}{P:Program}{f:Nat}(post:Value->a5->List aF->Prop)(ax:Spec P f args I M post)(r7:∀ v I' M',post v I' M'->∀ x∈M,x∈M')(k:∀ v I' M',(∀ b o,I b=some o->I' b=some o)->post v I' M'->K v I' M'):hx soft cL P f args I M K:=
 .qd M [] post (by simp) ax r7 λv I' M' U aa=>by rw[eo];exact k v I' M' U aa
def hx.aj2{P:Program}{f:Nat}(post:Value->a5->List aF->Prop)(ax:Spec P f args I M post)(k:∀ v I' M',(∀ b o,I b=some o->I' b=some o)->post v I' M'->K v I' M'):hx true cL P f args I M K:=
 .Vo rfl M [] post (by simp) ax λv I' M' U aa=>by rw[eo];exact k v I' M' U aa
section
variable{X:dw}{β:Nat->Nat}{a:Act}{w:World}{F:Fr}{C:dX}{I:a5}{M:List aF}{o:Oper}{K:hb}
def lr.o6{M':List aF}(h:M=M'):lr cL I M I M':=by subst h;exact .refl
def bE.j0(h:bE X o F C I M λF C I M=>∃ I' M',lr X.cL I M I' M'/\K F C I' M'):bE X o F C I M K:=by obtain⟨h⟩:=h;refine⟨λa w Q ba=>vr ?_ (h a w Q ba)⟩;rintro cf w'⟨eV,C',I',M',⟨β,al⟩,eC,dU,hw,ae⟩;exact⟨eV,C',eC,dU,⟨β,al.j0 hw⟩,ae⟩
def bE.x5(aW:dm X.P X.E)(aD:o.op=.call { callee:=.builtin .append,args:=#[s,x],argTypes:=#[t,t] })(ah:∀ d,o.dst=some d->d<X.n)
 (aI:X.E t=some dT) (eS:dT.bT=.slice e) (he:X.E e=some aP)
  (os:bf) {xs:List Value} (bw:os.ok aP.size xs) (ax:bU F s=.val os.val)
  {cS:Nat} {cs:List Value} (ab:bU F x=.val (.slice (some ⟨cS,0,none⟩) 1 c')) (aE:cs.length=aP.size) (U:iW cs=true)
  (bi post:List aF) (a2:M=⟨cS,.cells cs.toArray e (0,0)⟩::(bi++(os.aO e++post))) (b1:os.n+1<=9223372036854775807) (ch:(os.n+1)*aP.bytes<=140737488355328)
  (k:∀ os':bf,os'.n=os.n+1->(∀ g,os'.a=some g->I g=none)->os'.ok aP.size (xs++cs)->K (put o.dst (.val os'.val) F) C I (bi++(os'.aO e++post))):bE X o F C I M K:=by
 refine .j0 (.agA aW aD ah aI eS he os bw ax (m:=1) (dd:=cs) ab (by decide) ?_ U (Mr:=⟨cS,.cells cs.toArray e (0,0)⟩::(bi++post)) ?_ (by unfold maxLen;exact b1) ch ?_)
 ·rw[qj];refine⟨rfl,_,_,_,.inr ⟨⟨cS,.cells cs.toArray e (0,0)⟩,by rw[a2];exact .head _,rfl,rfl⟩,?_,aE⟩;simp only[xr];exact gM (by omega)
 ·rw[a2];have aa:(⟨cS,.cells cs.toArray e (0,0)⟩::(bi++(os.aO e++post)):List aF).Perm (⟨cS,.cells cs.toArray e (0,0)⟩::(os.aO e++(bi++post))):=.cons _ (EM _ _ _);exact aa.trans rn.symm
 ·intro g c aY bX ed dP gS iq;refine⟨I,bi++((⟨some g,os.n+1,c,aY⟩:bf).aO e++post),.sub (M1:=⟨g,.cells aY.toArray e (0,0)⟩::(bi++post)) (.cons_cons _ (.cons _ (.refl _))) (.perm ?_ .refl),k ⟨some g,os.n+1,c,aY⟩ rfl (λeD aB=>by cases aB;exact bX) ⟨?_,(λh=>by cases h),λeD aB=>?_⟩⟩
  ·exact rn.symm
  ·rw[di,bw.len,aE,j3,qj]
  ·cases aB;exact⟨ed,dP,gS,iq⟩
end
def Zr(bi mid post:List Value)(k:Nat)(vs:List Value)(h:k+vs.length<=mid.length):bQ (bi++(mid++post)) (bi.length+k) vs=bi++(bQ mid k vs++post):=by
 unfold bQ;have U:(bi++(mid++post)).take (bi.length+k)=bi++mid.take k:=by rw[Q0,LV,gM (by omega),Eh (by omega)]
 have aa:(bi++(mid++post)).drop (bi.length+k+vs.length)=mid.drop (k+vs.length)++post:=by rw[p9,VQ,Y7 h]
 rw[U,aa];simp
def Q'(f:α->List Value)(size:Nat)(ar:∀ x,(f x).length=size)(l:List α)(i:Nat)(hi:i<l.length)(k:Nat)(vs:List Value)(ae:k+vs.length<=size)(tf:α)(ab:bQ (f l[i]) k vs=f tf) :
  bQ (l.flatMap f) (i*size+k) vs=(l.set i tf).flatMap f:=by
 have e:l=l.take i++l[i]::l.drop (i+1):=by rw[<-fg hi,y6]
 have aC:l.flatMap f=(l.take i).flatMap f++(f l[i]++(l.drop (i+1)).flatMap f):=by
  calc l.flatMap f=(l.take i++l[i]::l.drop (i+1)).flatMap f:=congrArg _ e
   _=_:=by rw[mr,qh]
 have aA:((l.take i).flatMap f).length=i*size:=by rw[fu f size ar,List.length_take_of_le (by omega)]
 rw[aC,<-aA,Zr _ _ _ _ _ (by rw[ar];exact ae),Eg,cF hi,mr,qh,ab]
def aj3{m:Nat}(h:j+vs.length<=m)(hm:m<=aY.length):(bQ aY j vs).take m=bQ (aY.take m) j vs:=by
 unfold bQ;have U:(aY.take m).take j=aY.take j:=by rw[vG,Gn (by omega)]
 have aa:(aY.take m).drop (j+vs.length)=(aY.drop (j+vs.length)).take (m-(j+vs.length)):=by rw[Ay]
 have af:(aY.take j).length=j:=by rw[mV];omega
 rw[U,aa,gz,gz,Q0,af,gM (by omega),Q0,gM (by omega:vs.length<=m-j)];congr 3;omega
def bf.put(f:α->List Value)(size:Nat)(ar:∀ x,(f x).length=size){os:bf}{l:List α}(h:os.ok size (l.flatMap f))(hi:i<l.length)(k:Nat)(ae:k+vs.length<=size)(U:iW vs=true)(tf:α)(ab:bQ (f l[i]) k vs=f tf)(bi post:List aF)(a2:M=bi++(os.aO e++post)){g:Nat}(aB:os.a=some g)(aj4:off=i*size+k){K:List aF->Prop}
  (fS:∀ (os':bf),os'.val=os.val->os'.a=os.a->os'.n=os.n->os'.ok size ((l.set i tf).flatMap f)->K (bi++(os'.aO e++post))):cc M ⟨g,off,none⟩ vs K:=by
 have D8:=h.len;rw[fu f size ar]at D8;obtain⟨a,n,c,aY⟩:=os;have aE:l.length*size=n*size:=D8;simp only at aB;subst aB;obtain⟨ed,dP,gS,iq⟩:=h.cap g rfl;simp only at ed dP gS iq;have ag:n*size<=c*size:=s7 _ dP;have j1:i*size+size<=l.length*size:=by have:=s7 size (show i+1<=l.length from hi);rwa [j3,qj]at this
 subst a2;subst aj4;refine cc.mk bi post aY.toArray e rfl rfl ?_ U ?_
 ·simp only[vp];omega
 ·have:=fS ⟨some g,n,c,bQ aY (i*size+k) vs⟩ rfl rfl rfl ⟨?_,(λh=>by cases h),λeD aB=>?_⟩
  ·simpa[bf.aO]using this
  ·rw[fu f size ar,qz];exact aE
  ·cases aB;refine⟨?_,dP,gS,?_⟩
   ·simp only[bQ,di,mV,Ax];omega
   ·simp only;rw[aj3 (by omega) (by omega),iq,Q' f size ar l i hi k vs ae tf ab]
def Ra(l:List Value)(k:Nat)(v:Value)(h:k<l.length):bQ l k [v]=l.set k v:=by rw[Eg,cF h];simp[bQ]
open Go Go.Proofs
def bo.cells(c:bo):List Value:=[.int .i32 c.n,.int .i16 c.av,.int .u8 c.ao]
def bo.val(c:bo):Value:=.agg #[.int .i32 c.n,.int .i16 c.av,.int .u8 c.ao]
def bo.dc(c:bo):c.cells.length=3:=rfl
def bC.cells(f:bC):List Value:=[.int .i32 f.aG,.int .i32 f.pl,.int .i32 f.bu,.int .i32 f.av,.int .i32 f.n]
def bC.dc(f:bC):f.cells.length=5:=rfl
structure js where
 d:bh
 a:Option Addr
 n:Nat
 c:Nat
 bd:List Nat
def js.cells(x:js):List Value:=x.d.cells++[.slice x.a x.n x.c]
def js.dc(x:js):x.cells.length=10:=rfl
structure js.ok(I:a5)(x:js):Prop where
 d:x.d.ok I
 bj:fC I x.a x.n x.c 1 8 (x.bd.map λ(k:Nat)=>Value.int .i64 (k:Int))
def js.pn(x:js):pP:=⟨x.d,x.bd⟩
def js.ok.mono{I':a5}{x:js}(h:x.ok I)(bX:∀ b o,I b=some o->I' b=some o):x.ok I':=⟨h.d.mono bX,h.bj.mono bX⟩
structure Ig where
 xs:List js
 a:Option Addr
 n:Nat
 c:Nat
structure Ig.ok(I:a5)(x:Ig):Prop where
 bj:fC I x.a x.n x.c 10 0 (x.xs.flatMap js.cells)
 xs:∀ y∈x.xs,y.ok I
def Ig.ok.n{x:Ig}(h:x.ok I):x.xs.length=x.n:=by have:=h.bj.len;rw[fu _ 10 js.dc]at this;omega
structure cz where
 ez:Nat
 gi:Nat
 s:ByteArray
 aq:Nat
 fuel:Nat
 ns:Ig
def cz.aZ(m:cz):bm:=⟨m.ns.xs.map js.pn,m.s,m.aq⟩
def cz.w(m:cz):Nat:=m.s.size-m.aq+1
def E'(m:cz)(aU:Nat)(N:Nat)(os:bf):List Value:=[.string m.s,.int .i64 m.aq,.int .i64 m.fuel,.int .i64 aU,.slice m.ns.a m.ns.n m.ns.c,.slice (some ⟨m.gi,0,none⟩) N N,os.val]
def du(m:cz)(aU:Nat)(N:Nat)(os:bf):aF:=⟨m.ez,.cells (E' m aU N os).toArray 148 (0,0)⟩
structure fL where
 b:Option Nat
 cs:List bo
def fL.val(w:Nat)(r:fL):Value:=match r.b with
 |none=>.slice none 0 0| some b=>.slice (some ⟨b,0,none⟩) w w
def fL.os(w:Nat)(r:fL):bf:=⟨r.b,w,w,r.cs.flatMap bo.cells⟩
def fL.aO(w:Nat)(r:fL):List aF:=(r.os w).aO 141
def dj(m:cz)(R:List fL):aF:=⟨m.gi,.cells (R.map (fL.val m.w)).toArray 269 (0,0)⟩
def cZ(m:cz)(R:List fL):List aF:=R.flatMap (fL.aO m.w)
structure ke(m:cz)(R:List fL)(kn:Nat->Nat->bo):Prop where
 len:∀ r∈R,r.cs.length=m.w
 none:∀ r∈R,r.b=none->r.cs=List.replicate m.w hC
 ai:∀ k (h:k<R.length) p (aK:p<R[k].cs.length),R[k].cs[p]=kn k p
def Rb(m:cz){R:List fL}{k:Nat}(ae:k<R.length):cZ m R=cZ m (R.take k)++(R[k].aO m.w++cZ m (R.drop (k+1))):=by
 have e:R=R.take k++R[k]::R.drop (k+1):=by rw[<-fg ae,y6]
 calc cZ m R=cZ m (R.take k++R[k]::R.drop (k+1)):=congrArg _ e
  _=_:=by rw[cZ,mr,qh];rfl
def Zs(m:cz){R:List fL}{k:Nat}(ae:k<R.length)(r:fL):cZ m (R.set k r)=cZ m (R.take k)++(r.aO m.w++cZ m (R.drop (k+1))):=by rw[Eg,cF ae];simp[cZ]
def fv{m:cz}{os:bf}(a2:du m aU N os∈M){k:Nat}(ae:k<7):cx I M ((⟨m.ez,0,none⟩:Addr).add k) 1 [(E' m aU N os).getD k undef]:=by
 have h:=dt (I:=I) (cs:=E' m aU N os) (k:=k) (n:=1) a2 (by show k+1<=7;omega);have:((E' m aU N os).drop k).take 1=[(E' m aU N os).getD k undef]:=by
  match k,ae with
  |0,_=>rfl| 1,_=>rfl| 2,_=>rfl| 3,_=>rfl| 4,_=>rfl| 5,_=>rfl| 6,_=>rfl
 rwa [this]at h
def wrap_i32{x:Int}(U:-2147483648<=x)(aa:x<=2147483647):IntKind.i32.wrap x=x:=by unfold IntKind.wrap;simp only[IntKind.bits,IntKind.signed];simp;omega
def aj5{x:Int}(U:-32768<=x)(aa:x<=32767):IntKind.i16.wrap x=x:=by unfold IntKind.wrap;simp only[IntKind.bits,IntKind.signed];simp;omega
def wq(av n:Nat)(U:av<=4096):Spec Tryz.prog 186 [.int .i32 av,.int .i32 n] I M λv I' M'=>v=(iu av n).val/\I'=I/\M'=M:=by refine bY [] aV Tryz.func186 rfl rfl rfl ?_;intro B ay;refine bb.mk (av:Int) (aj5 (by omega) (by omega)) ?_;refine⟨_,_,.refl,?_,rfl,rfl⟩;show Value.agg #[.int .i32 (min (n:Int) 65537),.int .i16 av,.int .u8 3]=_;rw[show(min (n:Int) 65537)=((min n 65537:Nat):Int) by omega];rfl
def L7(m:cz)(aU N:Nat)(os:bf)(h:m.fuel<=1099511627776):Spec Tryz.prog 118 [ptr m.ez] I (du m aU N os::Mr)
  λv I' M'=>I'=I/\((m.fuel<=aU/\v=.bool false/\M'=du m aU N os::Mr)\/(aU<m.fuel/\v=.bool true/\M'=du m (aU+1) N os::Mr)):=by
 refine bY [] aV Tryz.func118 rfl rfl rfl ?_;intro B ay;refine cq.draw aV rfl rfl rfl ?_;refine aw.mk _ (fv (k:=3) (.head _) (by decide)) ?_;refine aw.mk _ (fv (k:=2) (.head _) (by decide)) ?_;refine aM.mk (λe=>?_) (λe=>?_)
 ·have a':((m.fuel:Nat):Int)<=(aU:Int):=cm e;exact⟨_,_,.refl,rfl,.inl ⟨by omega,rfl,rfl⟩⟩
 ·have a':¬ ((m.fuel:Nat):Int)<=(aU:Int):=cu e;refine aw.mk _ (fv (k:=3) (.head _) (by decide)) ?_;refine bb.mk _ (c7 (i:=aU) (by omega)) ?_;refine cc.mk [] _ _ _ rfl rfl (bP rfl) rfl ?_;exact⟨_,_,.refl,rfl,.inr ⟨by omega,rfl,rfl⟩⟩
def fU.Rc{P:Program}(aW:dm P E){y:Operand}(aI:E t=some dT)(eS:dT.bT=.slice e){a:Option Addr}{n fK:Nat}{V:Value->Prop}{other:Prop}
  (h:V (.bool a.isNone)):fU P .eql t x y (.val (.slice a n c)) (.val (.slice none fK c')) V other:=by
 obtain⟨d,fH,gd⟩:=(aW _ _ aI).fM;have U:d=.slice e:=by rw[eS]at gd;cases d<;>simp_all[fF]
 subst U;refine .mk _ _ _ rfl rfl (λw=>?_) h;have aC:(eqGuard .eql t x y (.slice a n c) (.slice none fK c')).run P w=.ok () w:=by unfold eqGuard;rfl
 simp only[cG,aC,ck];exact Lib.run_eql_slice_nil w t e a n c fK c' fH
def aj6(w:Nat):rowOf hC.cells (w*3)=(List.replicate w hC).flatMap bo.cells:=by
 induction w with
 |zero=>rfl
 |succ w be=>
  have e:(w+1)*3=w*3+3:=by omega
  have aA:rowOf hC.cells ((w+1)*3)=rowOf hC.cells (w*3)++hC.cells:=by
   unfold rowOf;rw[e,Q2,gW];congr 1;apply xq (by rfl);intro i U aa;simp only[lu,su];have af:i<3:=by simpa using U
   have aN:(w*3+i)%hC.cells.length=i:=by show(w*3+i)%3=i;omega
   rw[aN]
   match i,af with
   |0,_=>rfl| 1,_=>rfl| 2,_=>rfl
  rw[aA,be,Qg];simp
def fL.Zt{m:cz}{r:fL}(h:r.cs.length=m.w)(hw:m.w<=9223372036854775807){b:Nat}(ag:r.b=some b):(r.os m.w).ok 3 (r.cs.flatMap bo.cells):=
 ⟨by rw[fu _ 3 bo.dc,h];rfl,(λe=>by simp[fL.os,ag]at e),λg _=>⟨by show(r.cs.flatMap bo.cells).length=m.w*3;rw[fu _ 3 bo.dc,h],b2 _,by unfold maxLen;exact hw,by
  show(r.cs.flatMap bo.cells).take (m.w*3)=_;exact gM (by rw[fu _ 3 bo.dc,h];exact b2 _)⟩⟩
def ke.made{m:cz}{R:List fL}(h:ke m R kn){k:Nat}(ae:k<R.length)(b:Nat):ke m (R.set k ⟨some b,R[k].cs⟩) kn:=by
 refine⟨λr al=>?_,λr al az=>?_,λj an p aK=>?_⟩
 ·rcases LU al with al | rfl
  ·exact h.len r al
  ·show R[k].cs.length=m.w;exact h.len _ (dr ae)
 ·rcases LU al with al | rfl
  ·exact h.none r al az
  ·cases az
 ·have ji:j<R.length:=by simpa using an
  by_cases e:k=j;·subst e;simp only[A2]at aK |-;exact h.ai k ae p aK
  ·simp only[H9 e]at aK |-;exact h.ai j ji p aK
def Rd{m:cz}{R:List fL}(a2:dj m R∈M){k:Nat}(ae:k<R.length):cx I M ((⟨m.gi,0,none⟩:Addr).add (k*1)) 1 [R[k].val m.w]:=by
 have h:=dt (I:=I) (cs:=R.map (fL.val m.w)) (k:=k*1) (n:=1) a2 (by rw[eW];omega);have e:((R.map (fL.val m.w)).drop (k*1)).take 1=[R[k].val m.w]:=by rw[jk,fg (by rw[eW];exact ae),oL,oM,lu]
 rwa [e]at h
def Ih(m:cz)(ag:m.aq<=m.s.size)(ax:m.s.size<=4096){os:bf}{R:List fL}(ba:ke m R kn)(cM:R.length=N){k a:Nat}(ae:k<N)(U:m.aq<=a)(aa:a<=m.s.size) :
  Spec Tryz.prog 119 [ptr m.ez,.int .i64 k,.int .i64 a] I (du m aU N os::dj m R::(cZ m R++Mr)) λv I' M'=>I'=I/\∃ (j5:List fL) (b:Nat),ke m j5 kn/\j5.length=N/\(∃ h:k<j5.length,j5[k].b=some b) /\
   v=.pointer (some ⟨b,(a-m.aq)*3,none⟩)/\M'=du m aU N os::dj m j5::(cZ m j5++Mr):=by
 refine bY [] aV Tryz.func119 rfl rfl rfl ?_;intro B ay;have rA:k<R.length:=by omega
 have aj7:m.w=m.s.size-m.aq+1:=rfl;refine aw.mk _ (fv (k:=5) (.head _) (by decide)) ?_;refine bl.mk ⟨m.gi,0,none⟩ k rfl rfl ae ?_;have br:=fun {M:List aF} (a2:dj m R∈M)=>Rd (I:=I) a2 rA;cases mE:R[k].b with
 |none=>
  have aj:R[k].val m.w=.slice none 0 0:=by simp[fL.val,mE]
  rw[aj]at br;refine aw.mk _ (br (.tail _ (.head _))) ?_;refine fU.Rc aV rfl rfl ?_;refine aM.mk (λ_=>?_) (λe=>by cases e);refine cq.draw aV rfl rfl rfl ?_;refine aw.mk _ (fv (k:=5) (.head _) (by decide)) ?_;refine aw.mk _ (fv (k:=0) (.head _) (by decide)) ?_;refine aw.mk _ (fv (k:=1) (.head _) (by decide)) ?_;refine bb.mk ((m.s.size-m.aq:Nat):Int) (ei (by omega) (by omega)) ?_;refine bb.mk ((m.w:Nat):Int) (ei (by omega) (by omega)) ?_;refine qU.mk m.w m.w rfl rfl (b2 _) (by show 8*m.w<=_;omega) (by omega) ?_;refine cy.mk λb ag Em=>?_;refine bl.mk ⟨m.gi,0,none⟩ k rfl rfl ae ?_;refine cc.jO [_,du m aU N os] (cZ m R++Mr) (R.map (fL.val m.w)) _ rfl ?_ rfl ((R.set k ⟨some b,R[k].cs⟩).map (fL.val m.w)) ?_ ?_;·rw[og,eW];show 0+k*1+1<=_;omega
  ·rw[G3];show bQ _ (0+k*1) [.slice (some ⟨b,0,none⟩) m.w m.w]=_;rw[Ra _ _ _ (by rw[eW];omega),dp,jk];rfl
  have hZ:k<(R.set k ⟨some b,R[k].cs⟩).length:=by rw[qz];exact rA
  have x6:∀ {M:List aF},dj m (R.set k ⟨some b,R[k].cs⟩)∈M->cx I M ((⟨m.gi,0,none⟩:Addr).add (k*1)) 1 [.slice (some ⟨b,0,none⟩) m.w m.w]:=λa2=>by have:=Rd (I:=I) a2 hZ;rwa [A2]at this
  refine cq.draw aV rfl rfl rfl ?_;refine aw.mk _ (fv (k:=5) (.tail _ (.head _)) (by decide)) ?_;refine bl.mk ⟨m.gi,0,none⟩ k rfl rfl ae ?_;refine aw.mk _ (x6 (.tail _ (.tail _ (.head _)))) ?_;refine aw.mk _ (fv (k:=1) (.tail _ (.head _)) (by decide)) ?_;refine bb.mk ((a-m.aq:Nat):Int) (ei (by omega) (by omega)) ?_;refine bl.mk ⟨b,0,none⟩ (a-m.aq) rfl rfl (by omega) ?_;refine⟨_,du m aU N os::dj m (R.set k ⟨some b,R[k].cs⟩)::(cZ m (R.set k ⟨some b,R[k].cs⟩)++Mr),.perm ?_ .refl,rfl,_,b,ba.made rA b,by rw[qz];exact cM,⟨hZ,by rw[A2]⟩,by rw[dY _ rfl,dp],rfl⟩;have lS:=ba.none _ (dr rA) mE;have aC:(fL.aO m.w ⟨some b,R[k].cs⟩:List aF)=[⟨b,.cells (rowOf hC.cells (m.w*3)).toArray 141 (0,0)⟩]:=by rw[aj6,<-lS];rfl
  have aA:R[k].aO m.w=[]:=by unfold fL.aO fL.os bf.aO;rw[mE]
  rw[Zs m rA,Rb m rA,aC,aA];have af:∀ (x y z:aF) (A B C:List aF),(x::y::z::(A++([]++B)++C)).Perm (y::z::(A++([x]++B)++C)):=λx y z A B C=>by
   have:(A++([x]++B)++C).Perm (x::(A++([]++B)++C)):=by simp only[nz,py,gz];exact rn
   exact((List.Perm.swap y x _).trans (.cons _ (.swap z x _))).trans (.cons _ (.cons _ this.symm))
  exact af _ _ _ _ _ _
 |some b=>
  have aj:R[k].val m.w=.slice (some ⟨b,0,none⟩) m.w m.w:=by simp[fL.val,mE]
  rw[aj]at br;refine aw.mk _ (br (.tail _ (.head _))) ?_;refine fU.Rc aV rfl rfl ?_;refine aM.mk (λe=>by cases e) (λ_=>?_);refine cq.draw aV rfl rfl rfl ?_;refine aw.mk _ (fv (k:=5) (.head _) (by decide)) ?_;refine bl.mk ⟨m.gi,0,none⟩ k rfl rfl ae ?_;refine aw.mk _ (br (.tail _ (.head _))) ?_;refine aw.mk _ (fv (k:=1) (.head _) (by decide)) ?_;refine bb.mk ((a-m.aq:Nat):Int) (ei (by omega) (by omega)) ?_;refine bl.mk ⟨b,0,none⟩ (a-m.aq) rfl rfl (by omega) ?_;exact⟨_,_,.refl,rfl,R,b,ba,cM,⟨rA,mE⟩,by rw[dY _ rfl,dp],rfl⟩
def bf.ai{f:α->List Value}{size:Nat}(ar:∀ x,(f x).length=size)(ay:0<size){os:bf}{l:List α}(h:os.ok size (l.flatMap f))(a2:∀ x∈os.aO e,x∈M){g:Nat}(aB:os.a=some g)(hi:i<l.length):cx I M ⟨g,i*size,none⟩ size (f l[i]):=by obtain⟨ad,b3,br⟩:=bf.ok.row (I:=I) (M:=M) (e:=e) ar ay h a2 hi;rw[aB]at b3;cases b3;rwa [dY _ rfl,dp]at br
structure lF(os:bf)(au:List bC)(f:bC)(g:Nat):Prop where
 a:os.a=some g
 ok:os.ok 5 ((au++[f]).flatMap bC.cells)
def lF.rd{os:bf}{f:bC}{g:Nat}(h:lF os au f g)(a2:∀ x∈os.aO 215,x∈M):cx I M ⟨g,au.length*5,none⟩ 5 f.cells:=by have:=bf.ai (I:=I) (M:=M) bC.dc (by decide) h.ok a2 h.a (i:=au.length) (by simp);simpa using this
def lF.put{os:bf}{f:bC}{g:Nat}(h:lF os au f g)(bi post:List aF)(a2:M=bi++(os.aO 215++post))(k:Nat)(ae:k<5)(aj:iW [v]=true)(f':bC)(sg:bQ f.cells k [v]=f'.cells){K:List aF->Prop}
  (fS:∀ os':bf,os'.val=os.val->lF os' au f' g->K (bi++(os'.aO 215++post))):cc M ((⟨g,au.length*5,none⟩:Addr).add k) [v] K:=by
 rw[dY _ rfl];refine bf.put bC.cells 5 bC.dc h.ok (i:=au.length) (by simp) k (by simp only[eM,ko];omega) aj f' (by simpa using sg) bi post a2 h.a rfl ?_;intro os' aC aA bx cU;refine fS os' aC ⟨aA.trans h.a,?_⟩;have:(au++[f]).set au.length f'=au++[f']:=by rw[EN _ _ (b2 _),rp,Lw]
 rwa [this]at cU
def Re{os:bf}{f:bC}{g:Nat}(h:lF os au f g)(c:bo)(U:f.bu<=2147483646)(aa:f.n<=65537)(af:c.n<=65537)(aN:c.av<=4096):Spec Tryz.prog 222 [.pointer (some ⟨g,au.length*5,none⟩),c.val] I (os.aO 215)
  λv I' M'=>I'=I/\∃ os':bf,os'.val=os.val/\lF os' au (f.add c) g/\M'=os'.aO 215:=by
 refine bY [] aV Tryz.func222 rfl rfl rfl ?_;intro B ay;have b':os.aO 215=[]++(os.aO 215++[]):=by simp
 refine aw.mk _ ((h.rd λx ab=>ab).part (k:=2) (m:=1) (by decide)) ?_;refine bb.mk ((f.bu+1:Nat):Int) (by rw[wrap_i32 (by omega) (by omega)];simp) ?_;refine h.put [] [] b' 2 (by decide) rfl ⟨f.aG,f.pl,f.bu+1,f.av,f.n⟩ rfl ?_;intro fE v1 bW;refine bb.mk (c.av:Int) (wrap_i32 (by omega) (by omega)) ?_;refine bW.put [] [] rfl 3 (by decide) rfl ⟨f.aG,f.pl,f.bu+1,c.av,f.n⟩ rfl ?_;intro b5 v2 da;refine cq.draw aV rfl rfl rfl ?_;refine aw.mk _ ((da.rd λx ab=>by simpa using ab).part (k:=4) (m:=1) (by decide)) ?_;refine bb.mk ((f.n+c.n:Nat):Int) (show IntKind.i32.wrap ((f.n:Int)+(c.n:Int))=_ by rw[wrap_i32 (by omega) (by omega)];simp) ?_;refine da.put [] [] rfl 4 (by decide) rfl (f.add c) ?_ ?_
 ·show [Value.int .i32 f.aG,.int .i32 f.pl,.int .i32 ((f.bu+1:Nat):Int),.int .i32 c.av,.int .i32 (min ((f.n+c.n:Nat):Int) 65537)]=_;rw[show min ((f.n+c.n:Nat):Int) 65537=((min (f.n+c.n) 65537:Nat):Int) by omega];rfl
 intro tM AV dh;exact⟨_,_,.refl,rfl,tM,AV.trans (v2.trans v1),dh,by simp⟩
def u5(P:bm)(f:bC)(c:bo)(au:List bC)(g:Nat)(os:bf)(I:a5)(v:Value)(I':a5)(M':List aF):Prop:=
 I'=I/\match fQ P f c with
  | .loop=>v=.tuple #[hC.val,.bool false,.int .i64 43]/\M'=os.aO 215| .on f' c' done=>v=.tuple #[c'.val,.bool done,.int .i64 0]/\∃ os':bf,os'.val=os.val/\lF os' au f' g/\M'=os'.aO 215
def u5.on{P:bm}{f f':bC}{c c':bo}{done:Bool}{g:Nat}{os os':bf}(aR:fQ P f c=.on f' c' done)(aj:v=.tuple #[c'.val,.bool done,.int .i64 0])(U:os'.val=os.val)(aa:lF os' au f' g):u5 P f c au g os I v I (os'.aO 215):=by unfold u5;rw[aR];exact⟨rfl,aj,os',U,aa,rfl⟩
structure sJ(I:a5)(P:bm)(f:bC)(c:bo)(x:js)(pn:Addr):Prop where
 rd:∀ M,cx I M pn 10 x.cells
 pn:P.ai f.aG=x.pn
 n:x.bd.length=x.n
 pl:f.pl<=4096
 av:f.av<=4096
 bu:f.bu<=1000000
 fn:f.n<=65537
 nR:c.n<=65537
 Rf:c.av<=4096
section
variable{I:a5}{P:bm}{f:bC}{c:bo}{x:js}{pn:Addr}{os:bf}{au:List bC}{g:Nat}
def sJ.tN(h:sJ I P f c x pn){j:Int}(ae:x.d.k=j):(P.ai f.aG).d.k=j:=by rw[h.pn];exact ae
def sJ.L8(h:sJ I P f c x pn)(aD:off<9)(M:List aF):cx I M ((pn.add 0).add off) 1 ((x.d.cells.drop off).take 1):=by have U:=(h.rd M).part (k:=0) (m:=9) (by decide);exact U.part (k:=off) (m:=1) (by omega)
def L9(h:sJ I P f c x pn)(ar:lF os au f g)(ae:x.d.k<4):Spec Tryz.prog 179 [.pointer (some pn),.pointer (some ⟨g,au.length*5,none⟩),c.val] I (os.aO 215) (u5 P f c au g os I):=by
 refine bY [] aV Tryz.func179 rfl rfl rfl ?_;intro B ay;refine⟨_,_,.refl,.on (f':=f) (c':=c) (done:=true) ?_ rfl rfl ar⟩;have ah:(P.ai f.aG).d.k<4:=by rw[h.pn];exact ae
 simp only[fQ,dF ah,a4]
def aj8(h:sJ I P f c x pn)(ar:lF os au f g)(ae:x.d.k=7):Spec Tryz.prog 183 [.pointer (some pn),.pointer (some ⟨g,au.length*5,none⟩),c.val] I (os.aO 215) (u5 P f c au g os I):=by
 refine bY [] aV Tryz.func183 rfl rfl rfl ?_;intro B ay;have aR:fQ P f c=bif Nat.beq c.ao 3 then .on f (iu f.pl 0) true else .on f c true:=by simp only[fQ,h.tN ae];rfl
 refine aM.mk (λe=>?_) (λe=>?_)
 ·have a':c.ao=3:=by have:=cm e;omega
  refine aw.mk _ ((ar.rd λx ab=>ab).part (k:=1) (m:=1) (by decide)) ?_;refine a9.whole _ (wq f.pl 0 h.pl) ?_;rintro v I' M' -⟨rfl,rfl,rfl⟩;exact⟨_,_,.refl,.on (by rw[aR,a'];rfl) rfl rfl ar⟩
 ·have a':Nat.beq c.ao 3=false:=by rw[lB];intro aA;have:=cj aA;have:=cu e;omega
  exact⟨_,_,.refl,.on (by rw[aR,a'];rfl) rfl rfl ar⟩
def aj9(h:sJ I P f c x pn)(ar:lF os au f g)(ae:x.d.k=8):Spec Tryz.prog 184 [.pointer (some pn),.pointer (some ⟨g,au.length*5,none⟩),c.val] I (os.aO 215) (u5 P f c au g os I):=by
 refine bY [] aV Tryz.func184 rfl rfl rfl ?_;intro B ay;have aR:fQ P f c=bif Nat.beq c.ao 2 then .on f (iu f.pl 0) true else .on f hR true:=by simp only[fQ,h.tN ae];rfl
 refine aM.mk (λe=>?_) (λe=>?_)
 ·have a':c.ao=2:=by have:=cm e;omega
  refine aw.mk _ ((ar.rd λx ab=>ab).part (k:=1) (m:=1) (by decide)) ?_;refine a9.whole _ (wq f.pl 0 h.pl) ?_;rintro v I' M' -⟨rfl,rfl,rfl⟩;exact⟨_,_,.refl,.on (by rw[aR,a'];rfl) rfl rfl ar⟩
 ·have a':Nat.beq c.ao 2=false:=by rw[lB];intro aA;have:=cj aA;have:=cu e;omega
  exact⟨_,_,.refl,.on (by rw[aR,a'];rfl) rfl rfl ar⟩
def aka(h:sJ I P f c x pn)(ar:lF os au f g)(ae:x.d.k=9):Spec Tryz.prog 185 [.pointer (some pn),.pointer (some ⟨g,au.length*5,none⟩),c.val] I (os.aO 215) (u5 P f c au g os I):=by
 refine bY [] aV Tryz.func185 rfl rfl rfl ?_;intro B ay;have qG:=h.nR;have hk:=h.Rf;have aR:fQ P f c=bif Nat.beq c.ao 3 then .on f (iu c.av (c.n+1)) true else .on f c true:=by simp only[fQ,h.tN ae];rfl
 refine aM.mk (λe=>?_) (λe=>?_)
 ·have a':c.ao=3:=by have:=cm e;omega
  refine bb.mk (c.av:Int) (wrap_i32 (by omega) (by omega)) ?_;refine bb.mk ((c.n+1:Nat):Int) (by rw[wrap_i32 (by omega) (by omega)];simp) ?_;refine a9.whole _ (wq c.av (c.n+1) hk) ?_;rintro v I' M' -⟨rfl,rfl,rfl⟩;exact⟨_,_,.refl,.on (by rw[aR,a'];rfl) rfl rfl ar⟩
 ·have a':Nat.beq c.ao 3=false:=by rw[lB];intro aA;have:=cj aA;have:=cu e;omega
  exact⟨_,_,.refl,.on (by rw[aR,a'];rfl) rfl rfl ar⟩
def akb(h:sJ I P f c x pn)(ar:lF os au f g)(ae:x.d.k=4):Spec Tryz.prog 180 [.pointer (some pn),.pointer (some ⟨g,au.length*5,none⟩),c.val] I (os.aO 215) (u5 P f c au g os I):=by
 refine bY [] aV Tryz.func180 rfl rfl rfl ?_;intro B ay;have qG:=h.nR;have hk:=h.Rf;have rr:=h.bu;have az:=h.n;have aR:fQ P f c=bif Nat.beq c.ao 2 then .on f c true else .on (f.add c) (iu c.av (min (f.n+c.n) 65537)) (decide (f.bu+1=x.bd.length)):=by simp only[fQ,h.tN ae];rw[h.pn];rfl
 refine aM.mk (λe=>?_) (λe=>?_)
 ·have a':c.ao=2:=by have:=cm e;omega
  exact⟨_,_,.refl,.on (by rw[aR,a'];rfl) rfl rfl ar⟩
 ·have a':Nat.beq c.ao 2=false:=by rw[lB];intro aA;have:=cj aA;have:=cu e;omega
  refine a9.whole _ (Re ar c (by omega) h.fn qG hk) ?_;rintro v I' M' -⟨rfl,fE,v1,bW,rfl⟩;refine cq.draw aV rfl rfl rfl ?_;refine aw.mk _ ((bW.rd λx ab=>ab).part (k:=3) (m:=1) (by decide)) ?_;refine aw.mk _ ((bW.rd λx ab=>ab).part (k:=4) (m:=1) (by decide)) ?_;refine aw.mk _ ((bW.rd λx ab=>ab).part (k:=2) (m:=1) (by decide)) ?_;refine bb.mk ((f.bu+1:Nat):Int) (ei rfl (by omega)) ?_;refine aw.mk _ ((h.rd _).part (k:=9) (m:=1) (by decide)) ?_;refine hx.whole _ (wq c.av (f.add c).n hk) (λv I' M' h x ab=>by rw[h.2.2];exact ab) ?_;rintro v I' M' -⟨rfl,rfl,rfl⟩;refine⟨_,_,.refl,.on (by rw[aR,a',aQ]) ?_ v1 bW⟩;have:decide (((f.bu+1:Nat):Int)=(x.n:Int))=decide (f.bu+1=x.bd.length):=by rw[nZ];simp only[eY];omega
  rw[<-this];rfl
def akc(h:sJ I P f c x pn)(ar:lF os au f g)(ae:x.d.k=5):Spec Tryz.prog 181 [.pointer (some pn),.pointer (some ⟨g,au.length*5,none⟩),c.val] I (os.aO 215) (u5 P f c au g os I):=by
 refine bY [] aV Tryz.func181 rfl rfl rfl ?_;intro B ay;have rr:=h.bu;have az:=h.n;have aR:fQ P f c=bif Nat.beq c.ao 3 then .on f c true else .on { f with bu:=f.bu+1 } c (decide (f.bu+1=x.bd.length)):=by simp only[fQ,h.tN ae];rw[h.pn];rfl
 have b':os.aO 215=[]++(os.aO 215++[]):=by simp
 refine aM.mk (λe=>?_) (λe=>?_)
 ·have a':c.ao=3:=by have:=cm e;omega
  exact⟨_,_,.refl,.on (by rw[aR,a'];rfl) rfl rfl ar⟩
 ·have a':Nat.beq c.ao 3=false:=by rw[lB];intro aA;have:=cj aA;have:=cu e;omega
  refine aw.mk _ ((ar.rd λx ab=>ab).part (k:=2) (m:=1) (by decide)) ?_;refine bb.mk ((f.bu+1:Nat):Int) (by rw[wrap_i32 (by omega) (by omega)];simp) ?_;refine ar.put [] [] b' 2 (by decide) rfl { f with bu:=f.bu+1 } rfl ?_;intro fE v1 bW;refine cq.draw aV rfl rfl rfl ?_;refine aw.mk _ ((bW.rd λx ab=>by simpa using ab).part (k:=2) (m:=1) (by decide)) ?_;refine bb.mk ((f.bu+1:Nat):Int) (ei rfl (by omega)) ?_;refine aw.mk _ ((h.rd _).part (k:=9) (m:=1) (by decide)) ?_;have:=u5.on (P:=P) (f:=f) (c:=c) (I:=I) (v:=.tuple #[c.val,.bool (decide (((f.bu+1:Nat):Int)=(x.n:Int))),.int .i64 0]) (au:=au) (g:=g) (os:=os) (os':=fE) (f':={ f with bu:=f.bu+1 }) (c':=c) (done:=decide (f.bu+1=x.bd.length)) (by rw[aR,a',aQ]) (by
   have:decide (((f.bu+1:Nat):Int)=(x.n:Int))=decide (f.bu+1=x.bd.length):=by rw[nZ];simp only[eY];omega
   rw[this]) v1 bW
  exact⟨_,fE.aO 215,.o6 (by simp),this⟩
def akd(h:sJ I P f c x pn)(ar:lF os au f g)(ae:x.d.k=6):Spec Tryz.prog 182 [.pointer (some pn),.pointer (some ⟨g,au.length*5,none⟩),c.val] I (os.aO 215) (u5 P f c au g os I):=by
 refine bY [] aV Tryz.func182 rfl rfl rfl ?_;intro B ay;have qG:=h.nR;have hk:=h.Rf;have rr:=h.bu;have ake:=h.av;have aR:fQ P f c=bif Nat.beq c.ao 2 then(bif decide ((f.bu:Int)<x.d.lo)then .on f c true else .on f (iu f.av f.n) true)
   else bif decide (x.d.hi=-1)&&decide (c.av=f.av)then .loop else .on (f.add c) (iu c.av (min (f.n+c.n) 65537)) (decide (((f.bu+1:Nat):Int)=x.d.hi)):=by
  simp only[fQ,h.tN ae];rw[h.pn];rfl
 refine aM.mk (λe=>?_) (λe=>?_)
 ·have a':c.ao=2:=by have:=cm e;omega
  refine cq.draw aV rfl rfl rfl ?_;refine aw.mk _ ((ar.rd λx ab=>ab).part (k:=2) (m:=1) (by decide)) ?_;refine bb.mk (f.bu:Int) (ei rfl (by omega)) ?_;refine aw.mk _ (h.L8 (off:=6) (by decide) _) ?_;refine aM.mk (λaA=>?_) (λaA=>?_);·exact⟨_,_,.refl,.on (by rw[aR,a',show decide ((f.bu:Int)<x.d.lo)=true from aA];rfl) rfl rfl ar⟩
  ·refine cq.draw aV rfl rfl rfl ?_;refine aw.mk _ ((ar.rd λx ab=>ab).part (k:=3) (m:=1) (by decide)) ?_;refine aw.mk _ ((ar.rd λx ab=>ab).part (k:=4) (m:=1) (by decide)) ?_;refine a9.whole _ (wq f.av f.n ake) ?_;rintro v I' M' -⟨rfl,rfl,rfl⟩;exact⟨_,_,.refl,.on (by rw[aR,a',show decide ((f.bu:Int)<x.d.lo)=false from aA];rfl) rfl rfl ar⟩
 ·have a':Nat.beq c.ao 2=false:=by rw[lB];intro aA;have:=cj aA;have:=cu e;omega
  refine cq.draw aV rfl rfl rfl ?_;refine aw.mk _ (h.L8 (off:=7) (by decide) _) ?_;refine c0.mk (λa3=>?_) (λa3=>?_)
  ·refine bb.mk (c.av:Int) (wrap_i32 (by omega) (by omega)) ?_;refine aw.mk _ ((ar.rd λx ab=>ab).part (k:=3) (m:=1) (by decide)) ?_;have zL:decide ((c.av:Int)=(f.av:Int))=decide (c.av=f.av):=by rw[nZ];simp only[eY];omega
   refine aM.mk (λaA=>?_) (λaA=>?_);·refine⟨_,_,.refl,rfl,?_⟩;rw[aR,a',aQ,show decide (x.d.hi=-1)=true from a3,<-zL,show decide ((c.av:Int)=(f.av:Int))=true from aA];exact⟨rfl,rfl⟩
   ·have aJ:(decide (x.d.hi=-1)&&decide (c.av=f.av))=false:=by rw[<-zL,show decide ((c.av:Int)=(f.av:Int))=false from aA,HN]
    refine a9.whole _ (Re ar c (by omega) h.fn qG hk) ?_;rintro v I' M' -⟨rfl,fE,v1,bW,rfl⟩;refine cq.draw aV rfl rfl rfl ?_;refine aw.mk _ ((bW.rd λx ab=>ab).part (k:=3) (m:=1) (by decide)) ?_;refine aw.mk _ ((bW.rd λx ab=>ab).part (k:=4) (m:=1) (by decide)) ?_;refine aw.mk _ ((bW.rd λx ab=>ab).part (k:=2) (m:=1) (by decide)) ?_;refine bb.mk ((f.bu+1:Nat):Int) (ei rfl (by omega)) ?_;refine aw.mk _ (h.L8 (off:=7) (by decide) _) ?_;refine hx.whole _ (wq c.av (f.add c).n hk) (λv I' M' h x ab=>by rw[h.2.2];exact ab) ?_;rintro v I' M' -⟨rfl,rfl,rfl⟩;exact⟨_,_,.refl,.on (by rw[aR,a',aQ,aJ,aQ];rfl) rfl v1 bW⟩
  ·have aJ:(decide (x.d.hi=-1)&&decide (c.av=f.av))=false:=by rw[show decide (x.d.hi=-1)=false from a3,uE]
   refine a9.whole _ (Re ar c (by omega) h.fn qG hk) ?_;rintro v I' M' -⟨rfl,fE,v1,bW,rfl⟩;refine cq.draw aV rfl rfl rfl ?_;refine aw.mk _ ((bW.rd λx ab=>ab).part (k:=3) (m:=1) (by decide)) ?_;refine aw.mk _ ((bW.rd λx ab=>ab).part (k:=4) (m:=1) (by decide)) ?_;refine aw.mk _ ((bW.rd λx ab=>ab).part (k:=2) (m:=1) (by decide)) ?_;refine bb.mk ((f.bu+1:Nat):Int) (ei rfl (by omega)) ?_;refine aw.mk _ (h.L8 (off:=7) (by decide) _) ?_;refine hx.whole _ (wq c.av (f.add c).n hk) (λv I' M' h x ab=>by rw[h.2.2];exact ab) ?_;rintro v I' M' -⟨rfl,rfl,rfl⟩;exact⟨_,_,.refl,.on (by rw[aR,a',aQ,aJ,aQ];rfl) rfl v1 bW⟩
def akf:List Nat:=[179,179,179,179,180,181,182,183,184,185]
def Zu:List Value:=[.func (.func 179) #[] #[],.func (.func 179) #[] #[],.func (.func 179) #[] #[],.func (.func 179) #[] #[],.func (.func 180) #[] #[],.func (.func 181) #[] #[],.func (.func 182) #[] #[],.func (.func 183) #[] #[],.func (.func 184) #[] #[],.func (.func 185) #[] #[]]
def akg:Spec Tryz.prog 117 [] I M λv I' M'=>v=.agg Zu.toArray/\I'=I/\M'=M:=by refine bY [] aV Tryz.func117 rfl rfl rfl ?_;intro B ay;exact⟨_,_,.refl,rfl,rfl,rfl⟩
def sK(h:sJ I P f c x pn)(ar:lF os au f g)(j:Nat)(an:j<10)(ah:x.d.k=j):Spec Tryz.prog (akf.getD j 0) [.pointer (some pn),.pointer (some ⟨g,au.length*5,none⟩),c.val] I (os.aO 215) (u5 P f c au g os I):=by
 match j,an with
 |0,_=>exact L9 h ar (by omega)| 1,_=>exact L9 h ar (by omega)| 2,_=>exact L9 h ar (by omega)| 3,_=>exact L9 h ar (by omega)| 4,_=>exact akb h ar ah| 5,_=>exact akc h ar ah| 6,_=>exact akd h ar ah| 7,_=>exact aj8 h ar ah| 8,_=>exact aj9 h ar ah| 9,_=>exact aka h ar ah
end
def akh{w:Int}(hw:hh w)(k:Nat):decide (IntKind.u64.wrap ((BitVec.ofInt 64 (w.fdiv (2^k)) &&& BitVec.ofInt 64 1).toNat:Int)=1)=w.toNat.testBit k:=by
 obtain⟨n,rfl⟩:=lX hw.1;have az:n<18446744073709551616:=by have:=hw.2;omega
 have aC:((n:Int)).fdiv (2^k)=((n/2^k:Nat):Int):=by rw[GV _ (by exact Int.le_of_lt (Int.pow_pos (by decide)))];simp
 rw[aC];have aA:(BitVec.ofInt 64 ((n/2^k:Nat):Int) &&& BitVec.ofInt 64 1).toNat=n/2^k%2:=by
  have U:BitVec.ofInt 64 ((n/2^k:Nat):Int)=BitVec.ofNat 64 (n/2^k):=(show ∀ m:Nat,BitVec.ofInt 64 (m:Int)=BitVec.ofNat 64 m from λm=>by simp) _;have aa:BitVec.ofInt 64 1=BitVec.ofNat 64 1:=by decide
  rw[U,aa,GY,CX,CX];have af:n/2^k%2^64=n/2^k:=H' (Nat.lt_of_le_of_lt (Q1 _ _) az);rw[af,show 1%2^64=1 by decide,Nat.and_one_is_mod]
 rw[aA];have bx:IntKind.u64.wrap ((n/2^k%2:Nat):Int)=((n/2^k%2:Nat):Int):=by have:n/2^k%2<2:=Ez _ (by decide);unfold IntKind.wrap;simp only[IntKind.bits,IntKind.signed];simp;omega
 rw[bx,qS,Y6,nZ];simp only[eY];omega
def Zv{a b c d:Int}(xB:∀ x∈[a,b,c,d],hh x)(x:UInt8):Spec Tryz.prog 14 [.agg #[.int .u64 a,.int .u64 b,.int .u64 c,.int .u64 d],.int .u8 x.toNat] I M
  λv I' M'=>v=.bool (([a,b,c,d].getD (x.toNat/64) 0).toNat.testBit (x.toNat%64))/\I'=I/\M'=M:=by
 refine bY [] aV Tryz.func14 rfl rfl rfl ?_;intro B ay;have ab:x.toNat<256:=x.toNat_lt;refine qa.mk (by decide) ?_;refine bb.mk ((x.toNat/64:Nat):Int) (by
  have:((x.toNat:Int)).tdiv 64=((x.toNat/64:Nat):Int):=by simp[LS]
  rw[this];unfold IntKind.wrap;simp only[IntKind.bits,IntKind.signed];simp;omega) ?_
 have an:x.toNat/64=0\/x.toNat/64=1\/x.toNat/64=2\/x.toNat/64=3:=by omega
 have zp:((x.toNat:Int)).tmod 64=((x.toNat%64:Nat):Int):=by rw[Int.tmod_eq_emod_of_nonneg (by omega)];simp
 have Cn:min (x.toNat%64) 64=x.toNat%64:=by omega
 have fin:∀ w:Int,hh w->Value.bool (decide (IntKind.u64.wrap ((BitVec.ofInt 64 (w.fdiv (2^(min (x.toNat%64) 64))) &&& BitVec.ofInt 64 1).toNat:Int)=1))=.bool (w.toNat.testBit (x.toNat%64)):=λw hw=>by rw[Cn,akh hw]
 rcases an with e | e | e | e<;>rw[e]
 ·refine dR.mk 0 rfl (by decide) ?_;refine qa.mk (by decide) ?_;refine tb.mk _ zp ?_;exact⟨_,_,.refl,fin a (xB a (by simp)),rfl,rfl⟩
 ·refine dR.mk 1 rfl (by decide) ?_;refine qa.mk (by decide) ?_;refine tb.mk _ zp ?_;exact⟨_,_,.refl,fin b (xB b (by simp)),rfl,rfl⟩
 ·refine dR.mk 2 rfl (by decide) ?_;refine qa.mk (by decide) ?_;refine tb.mk _ zp ?_;exact⟨_,_,.refl,fin c (xB c (by simp)),rfl,rfl⟩
 ·refine dR.mk 3 rfl (by decide) ?_;refine qa.mk (by decide) ?_;refine tb.mk _ zp ?_;exact⟨_,_,.refl,fin d (xB d (by simp)),rfl,rfl⟩
def Fa(s t:ByteArray):Bool:=decide (t.size<=s.size)&&decide (s.extract 0 t.size=t)
def aki(s t:ByteArray):Spec Tryz.prog 223 [.string s,.string t] I M λv I' M'=>v=.bool (Fa s t)/\I'=I/\M'=M:=by
 refine bY [] aV Tryz.func223 rfl rfl rfl ?_;intro B ay;have ah:decide ((t.size:Int)<=(s.size:Int))=decide (t.size<=s.size):=by rw[nZ];simp only[eY];omega
 refine c0.mk (λh=>?_) (λh=>?_)
 ·have bg:(t.size:Int)<=(s.size:Int):=cm h;refine jI.mk 0 t.size rfl rfl (bF _) (by omega) ?_;refine⟨_,_,.refl,?_,rfl,rfl⟩;rw[Fa,<-ah,show decide ((t.size:Int)<=(s.size:Int))=true from h,q3]
 ·refine⟨_,_,.refl,?_,rfl,rfl⟩;rw[Fa,<-ah,show decide ((t.size:Int)<=(s.size:Int))=false from h,uE]
def Zw(s t:ByteArray):Spec Tryz.prog 187 [.string s,.string t] I M λv I' M'=>v=.bool (Fa s t)/\I'=I/\M'=M:=by refine bY [] aV Tryz.func187 rfl rfl rfl ?_;intro B ay;refine a9.whole _ (aki s t) ?_;rintro v I' M' -⟨rfl,rfl,rfl⟩;exact⟨_,_,.refl,rfl,rfl,rfl⟩
def Zx(s t:ByteArray){a:Nat}(aH:a<=s.size):Fa (s.extract a s.size) t=preB s t a:=by
 have U:(s.extract a s.size).size=s.size-a:=by simp[O4]
 unfold Fa preB;rw[U];by_cases h:t.size<=s.size-a
 ·have aA:(s.extract a s.size).extract 0 t.size=s.extract a (a+t.size):=by rw[ByteArray.extract_extract];congr 1;omega
  rw[aA,dF h,dF (by omega:a+t.size<=s.size)]
 ·rw[bG h,bG (by omega:¬ a+t.size<=s.size)];rfl
def Fb{m:cz}(gp:m.ns.ok I){k:Nat}(ae:k<m.ns.n):∃ x,∃ h:k<m.ns.xs.length,m.ns.xs[k]=x/\m.aZ.ai k=x.pn/\x.ok I/\∃ ad,m.ns.a=some ad/\∀ M,cx I M (ad.add (k*10)) 10 x.cells:=by
 have az:=gp.n;have hZ:k<m.ns.xs.length:=by omega
 obtain⟨ad,U,aa⟩:=gp.bj.row js.dc ae hZ;refine⟨_,hZ,rfl,?_,gp.xs _ (dr hZ),ad,U,aa⟩;simp[bm.ai,cz.aZ,dB,hZ]
def sL{x:js}{pn:Addr}(h:∀ M,cx I M pn 10 x.cells){n:Nat}(aD:off+n<=9)(M:List aF):cx I M ((pn.add 0).add off) n ((x.d.cells.drop off).take n):=by have U:=(h M).part (k:=0) (m:=9) (by decide);exact U.part (k:=off) (m:=n) aD
def Zy(m:cz)(gp:m.ns.ok I)(ax:m.s.size<=4096){os:bf}{k a:Nat}(ae:k<m.ns.n)(aH:a<=m.s.size)(o7:∀ x∈m.ns.xs,x.d.t.size<=4096):Spec Tryz.prog 120 [ptr m.ez,.int .i64 k,.int .i64 a] I (du m aU N os::Mr)
  λv I' M'=>I'=I/\M'=du m aU N os::Mr/\∃ c:bo,v=.tuple #[c.val,.bool (ib m.aZ k a).isSome]/\∀ c',ib m.aZ k a=some c'->c'=c:=by
 refine bY [] aV Tryz.func120 rfl rfl rfl ?_;intro B ay;obtain⟨x,zM,u6,gw,kf,ad,b3,br⟩:=Fb gp ae;have atO:=o7 x (by rw[<-u6];exact dr zM);have tN:∀ j:Int,x.d.k=j->(m.aZ.ai k).d.k=j:=λj e=>by rw[gw];exact e
 have iM:m.aZ.s=m.s:=rfl;refine aw.mk _ (fv (k:=4) (.head _) (by decide)) ?_;refine bl.mk ad k b3 rfl ae ?_;refine aw.mk _ (sL br (off:=0) (n:=1) (by decide) _) ?_;refine aM.mk (λe=>?_) (λb'=>?_)
 ·have a':x.d.k=0:=cm e;have ir:ib m.aZ k a=some (iu a 0):=by simp only[ib,tN 0 a'];rfl
  refine bb.mk (a:Int) (wrap_i32 (by omega) (by omega)) ?_;refine a9.whole _ (wq a 0 (by omega)) ?_;rintro v I' M' -⟨rfl,rfl,rfl⟩;exact⟨_,_,.refl,rfl,rfl,iu a 0,by rw[ir];rfl,λc' h=>by rw[ir]at h;exact(ld h).symm⟩
 refine aM.mk (λe=>?_) (λaC=>?_)
 ·have a':x.d.k=1:=cm e;have ir:ib m.aZ k a=match m.s.data[a]? with
    |some b=>bif jS x.d b.toNat then some (iu (a+1) 0)else some hR| none=>some hR:=by
   simp only[ib,tN 1 a',iM];rw[gw];rfl
  refine cq.draw aV rfl rfl rfl ?_;refine aw.mk _ (fv (k:=0) (.head _) (by decide)) ?_;refine c0.mk (λg=>?_) (λg=>?_)
  ·have a0:a<m.s.size:=by have:(a:Int)<(m.s.size:Int):=cm g;omega
   have uQ:ib m.aZ k a=bif jS x.d m.s[a].toNat then some (iu (a+1) 0)else some hR:=by rw[ir,DX a0];rfl
   refine aw.mk _ (sL br (off:=1) (n:=4) (by decide) _) ?_;refine aw.mk _ (fv (k:=0) (.head _) (by decide)) ?_;refine yR.mk a rfl a0 ?_;refine a9.whole _ (Zv (a:=x.d.e2) (b:=x.d.s1) (c:=x.d.s2) (d:=x.d.eK) (λy aT=>by
    simp only[eu,PB,or_false]at aT;rcases aT with rfl | rfl | rfl | rfl;·exact kf.d.e2
    ·exact kf.d.s1
    ·exact kf.d.s2
    ·exact kf.d.eK) m.s[a]) ?_
   rintro v I' M' -⟨rfl,rfl,rfl⟩;refine aM.mk (λaA=>?_) (λaA=>?_);·have aR:jS x.d m.s[a].toNat=true:=aA;rw[aR,a4]at uQ;refine bb.mk ((a+1:Nat):Int) (ei (by simp) (by omega)) ?_;refine bb.mk ((a+1:Nat):Int) (wrap_i32 (by omega) (by omega)) ?_;refine a9.whole _ (wq (a+1) 0 (by omega)) ?_;rintro v I' M' -⟨rfl,rfl,rfl⟩;exact⟨_,_,.refl,rfl,rfl,iu (a+1) 0,by rw[uQ];rfl,λc' h=>by rw[uQ]at h;exact(ld h).symm⟩
   ·have aR:jS x.d m.s[a].toNat=false:=aA;rw[aR,aQ]at uQ;exact⟨_,_,.refl,rfl,rfl,hR,by rw[uQ];rfl,λc' h=>by rw[uQ]at h;exact(ld h).symm⟩
  ·have cE:m.s.data.size<=a:=by have:¬ (a:Int)<(m.s.size:Int):=cu g;have aa:m.s.size=m.s.data.size:=rfl;omega
   have uQ:ib m.aZ k a=some hR:=by rw[ir,Pz cE]
   exact⟨_,_,.refl,rfl,rfl,hR,by rw[uQ];rfl,λc' h=>by rw[uQ]at h;exact(ld h).symm⟩
 refine aM.mk (λe=>?_) (λaA=>?_)
 ·have a':x.d.k=2:=cm e;have ir:ib m.aZ k a=bif preB m.s x.d.t a then some (iu (a+x.d.t.size) 0)else some hR:=by simp only[ib,tN 2 a',iM];rw[gw];rfl
  refine cq.draw aV rfl rfl rfl ?_;refine aw.mk _ (fv (k:=0) (.head _) (by decide)) ?_;refine jI.mk a m.s.size rfl rfl aH (b2 _) ?_;refine aw.mk _ (sL br (off:=5) (n:=1) (by decide) _) ?_;have bL:=Zw (I:=I) (M:=du m aU N os::Mr) (m.s.extract a m.s.size) x.d.t;rw[Zx _ _ aH]at bL;refine a9.whole _ bL ?_;rintro v I' M' -⟨rfl,rfl,rfl⟩;refine aM.mk (λaA=>?_) (λaA=>?_)
  ·have aR:preB m.s x.d.t a=true:=aA;rw[aR,a4]at ir;have bz:a+x.d.t.size<=m.s.size:=by unfold preB at aR;simp only[ct,eY]at aR;exact aR.1
   refine aw.mk _ (sL br (off:=5) (n:=1) (by decide) _) ?_;refine bb.mk ((a+x.d.t.size:Nat):Int) (ei (by simp) (by omega)) ?_;refine bb.mk ((a+x.d.t.size:Nat):Int) (wrap_i32 (by omega) (by omega)) ?_;refine a9.whole _ (wq (a+x.d.t.size) 0 (by omega)) ?_;rintro v I' M' -⟨rfl,rfl,rfl⟩;exact⟨_,_,.refl,rfl,rfl,iu (a+x.d.t.size) 0,by rw[ir];rfl,λc' h=>by rw[ir]at h;exact(ld h).symm⟩
  ·have aR:preB m.s x.d.t a=false:=aA;rw[aR,aQ]at ir;exact⟨_,_,.refl,rfl,rfl,hR,by rw[ir];rfl,λc' h=>by rw[ir]at h;exact(ld h).symm⟩
 have n0:¬ x.d.k=0:=cu b';have gZ:¬ x.d.k=1:=cu aC;have hQ:¬ x.d.k=2:=cu aA;have ir:ib m.aZ k a=bif decide (x.d.k=6)&&decide (x.d.hi=0)then some (iu a 0)else none:=by simp only[ib,gw];rw[show decide (x.pn.d.k=0)=false from b',show decide (x.pn.d.k=1)=false from aC,show decide (x.pn.d.k=2)=false from aA];rfl
 refine aM.mk (λe=>?_) (λgg=>?_)
 ·refine cq.draw aV rfl rfl rfl ?_;refine bb.mk (a:Int) (wrap_i32 (by omega) (by omega)) ?_;refine aw.mk _ (sL br (off:=7) (n:=1) (by decide) _) ?_;refine hx.whole _ (wq a 0 (by omega)) (λv I' M' h x ab=>by rw[h.2.2];exact ab) ?_;rintro v I' M' -⟨rfl,rfl,rfl⟩;rw[show decide (x.d.k=6)=true from e,q3]at ir;refine⟨_,_,.refl,rfl,rfl,iu a 0,?_,λc' h=>?_⟩
  ·have:(ib m.aZ k a).isSome=decide (x.d.hi=0):=by rw[ir];cases decide (x.d.hi=0)<;>rfl
   rw[this];rfl
  ·rw[ir]at h;cases ah:decide (x.d.hi=0)with
   |true=>rw[ah]at h;exact(ld h).symm| false=>rw[ah]at h;cases h
 ·rw[show decide (x.d.k=6)=false from gg,uE]at ir;exact⟨_,_,.refl,rfl,rfl,hC,by rw[ir];rfl,λc' h=>by rw[ir]at h;cases h⟩
def bh.C0(d:bh):bh:=⟨d.k,d.e2,d.s1,d.s2,d.eK,d.t,d.lo,d.hi,none,0,0,[]⟩
def bh.pn(d:bh):pP:=⟨d.C0,d.aS.map Int.toNat⟩
def cP.cells(c:cP):List Value:=[.int .i64 c.n,.int .i32 c.av,.int .u8 c.ao,.int .u8 c.bu]
def cP.val(c:cP):Value:=.agg #[.int .i64 c.n,.int .i32 c.av,.int .u8 c.ao,.int .u8 c.bu]
def cP.dc(c:cP):c.cells.length=4:=rfl
structure eU where
 bt:Nat
 s:ByteArray
 nv:Value
 rv:Value
 kY:List bh
 na:Option Addr
 nn:Nat
 nc:Nat
 C1:Option Addr
 h9:Nat
 rows:List Addr
 n0:Nat
 fX:Nat
def eU.w(t:eU):Nat:=t.s.size+1
def eU.P(t:eU):bm:=⟨t.kY.map bh.pn,t.s,0⟩
def eU.cT(t:eU):List Value:=[.string t.s,t.nv,t.rv,.slice t.na t.nn t.nc,.slice t.C1 t.nn t.h9]
def ox(T:Nat->Nat->cP)(k w:Nat):List Value:=(List.range w).flatMap λa=>(T k a).cells
def eU.cs(t:eU)(T:Nat->Nat->cP):List Value:=(List.range (t.nn-t.n0)).flatMap λj=>ox T (t.n0+j) t.w
def eU.aO(t:eU)(T:Nat->Nat->cP):aF:=⟨t.fX,.cells (t.cs T).toArray 107 (0,0)⟩
structure eU.ok(I:a5)(t:eU)(T:Nat->Nat->cP):Prop where
 ao:I t.bt=some (.cells t.cT.toArray 91 (0,0))
 ns:fC I t.na t.nn t.nc 9 96 (t.kY.flatMap bh.cells)
 kY:∀ y∈t.kY,y.ok I
 Zz:∀ y∈t.kY,y.t.size<=4096
 tN:∀ y∈t.kY,∀ x∈y.aS,0<=x/\x.toNat<t.nn
 rw:fC I t.C1 t.nn t.h9 1 24 (t.rows.map λa=>Value.slice (some a) t.w t.w)
 fA:∀ a∈t.rows,a.spot=none
 dS:∀ k (h:k<t.rows.length),k<t.n0->∃ cs hE ak,I t.rows[k].block=some (.cells cs hE ak)/\(cs.toList.drop t.rows[k].off).take (t.w*4)=ox T k t.w
 new:∀ k (h:k<t.rows.length),t.n0<=k->t.rows[k]=⟨t.fX,(k-t.n0)*(t.w*4),none⟩
 sz:t.s.size<=4096
 many:t.nn<=4096
def C2(T:Nat->Nat->cP)(k w:Nat):(ox T k w).length=w*4:=by unfold ox;rw[fu _ 4 λa=>rfl,tK]
def ZA(T:Nat->Nat->cP)(k w:Nat){a:Nat}(aH:a<w):((ox T k w).drop (a*4)).take 4=(T k a).cells:=by unfold ox;rw[y8 _ 4 (λa=>rfl) _ a (by rw[tK];exact aH),su]
def eU.akj(t:eU)(T:Nat->Nat->cP):(t.cs T).length=(t.nn-t.n0)*(t.w*4):=by unfold eU.cs;rw[fu _ (t.w*4) λj=>C2 T _ t.w,tK]
section
variable{I:a5}{t:eU}{T:Nat->Nat->cP}
def eU.ok.nn(h:t.ok I T):t.kY.length=t.nn:=by have:=h.ns.len;rw[fu _ 9 bh.dc]at this;omega
def eU.ok.Rg(h:t.ok I T):t.rows.length=t.nn:=by have:=h.rw.len;rw[eW]at this;omega
def eU.ok.hU(h:t.ok I T)(an:j<5):cx I M ((⟨t.bt,0,none⟩:Addr).add j) 1 [t.cT.getD j undef]:=by
 rw[dY _ rfl];refine⟨rfl,_,_,_,.inl h.ao,?_,rfl⟩
 match j,an with
 |0,_=>rfl| 1,_=>rfl| 2,_=>rfl| 3,_=>rfl| 4,_=>rfl
def eU.ok.ai(h:t.ok I T){k:Nat}(ae:k<t.nn):∃ y,y∈t.kY/\t.P.ai k=y.pn/\y.ok I/\y.t.size<=4096/\(∀ x∈y.aS,0<=x/\x.toNat<t.nn)/\∃ ad,t.na=some ad/\∀ M,cx I M (ad.add (k*9)) 9 y.cells:=by
 have hZ:k<t.kY.length:=by rw[h.nn];exact ae
 obtain⟨ad,U,aa⟩:=h.ns.row bh.dc ae hZ;have hm:=dr hZ;refine⟨t.kY[k],hm,?_,h.kY _ hm,h.Zz _ hm,h.tN _ hm,ad,U,aa⟩;simp[bm.ai,eU.P,dB,hZ]
def akk(h:t.ok I T){k a:Nat}(ae:k<t.nn)(ay:t.n0<=k)(aH:a<t.w):((t.cs T).drop ((k-t.n0)*(t.w*4)+a*4)).take 4=(T k a).cells:=by
 have U:((t.cs T).drop ((k-t.n0)*(t.w*4))).take (t.w*4)=ox T k t.w:=by unfold eU.cs;rw[y8 _ (t.w*4) (λj=>C2 T _ t.w) _ (k-t.n0) (by rw[tK];omega),su,oc ay]
 rw[<-ZA T k t.w aH,<-U,Ay,Cj,vG];congr 1;omega
def eU.ok.row(h:t.ok I T){k:Nat}(ae:k<t.nn):∃ ad,t.C1=some ad/\∃ r:Addr,r.spot=none/\(∀ M,cx I M (ad.add (k*1)) 1 [.slice (some r) t.w t.w])/\(t.n0<=k->r=⟨t.fX,(k-t.n0)*(t.w*4),none⟩) /\
  ∀ M,(t.n0<t.nn->t.aO T∈M)->∀ a,a<=t.s.size->cx I M (r.add (a*4)) 4 (T k a).cells:=by
 have hZ:k<t.rows.length:=by rw[h.Rg];exact ae
 obtain⟨ad,U,aa⟩:=h.rw.one ae hZ;have bL:=h.fA _ (dr hZ);refine⟨ad,U,t.rows[k],bL,aa,h.new k hZ,λM a2 a aH=>?_⟩;have sM:a<t.w:=by show a<t.s.size+1;omega
 rw[dY _ bL];by_cases ay:k<t.n0
 ·obtain⟨cs,hE,ak,aC,aA⟩:=h.dS k hZ ay;refine⟨rfl,cs,hE,ak,.inl aC,?_,rfl⟩;rw[<-ZA T k t.w sM,<-aA,Ay,Cj,vG];congr 1;omega
 ·rw[h.new k hZ (by omega)];refine⟨rfl,(t.cs T).toArray,107,(0,0),.inr ⟨_,a2 (by omega),rfl,rfl⟩,?_,rfl⟩;exact akk h ae (by omega) sM
end
def akl{x:Int}(U:0<=x)(aa:x<=255):IntKind.u8.wrap x=x:=by unfold IntKind.wrap;simp only[IntKind.bits,IntKind.signed];simp;omega
section
variable{I:a5}{M:List aF}
def A4(a:Nat)(aH:a<=100000):Spec Tryz.prog 208 [.int .i64 a] I M λv I' M'=>v=(pS a).val/\I'=I/\M'=M:=by refine bY [] aV Tryz.func208 rfl rfl rfl ?_;intro B ay;refine bb.mk (a:Int) (wrap_i32 (by omega) (by omega)) ?_;exact⟨_,_,.refl,rfl,rfl,rfl⟩
def L'(a b:Nat)(aH:a<=1099511627776)(ag:b<=1099511627776):Spec Tryz.prog 210 [.int .i64 a,.int .i64 b] I M λv I' M'=>v=.int .i64 (fr a b)/\I'=I/\M'=M:=by refine bY [] aV Tryz.func210 rfl rfl rfl ?_;intro B ay;refine bb.mk ((a+b:Nat):Int) (ei (by simp) (by omega)) ?_;refine⟨_,_,.refl,?_,rfl,rfl⟩;show Value.int .i64 (min ((a+b:Nat):Int) 1099511627776)=_;rw[show min ((a+b:Nat):Int) 1099511627776=((fr a b:Nat):Int) by unfold fr;omega]
end
structure rB(I:a5)(t:eU)(T:Nat->Nat->cP)(M:List aF)(k a:Nat):Prop where
 ok:t.ok I T
 inv:kd t.P t.nn T
 aG:∀ k,k<t.nn->x1 t.P t.nn k
 na:∀ k,x2 t.P k
 aO:t.n0<t.nn->t.aO T∈M
 k:k<t.nn
 a:a<=t.s.size
def rB.rg{t:eU}{k a:Nat}(h:rB I t T M k a){q b:Nat}(aL:q<t.nn)(ag:b<=t.s.size):(T q b).ao<=2/\(T q b).n<=1099511627776/\(T q b).av<=t.s.size/\(T q b).bu<=99:=
 ⟨h.inv.ao q b,h.inv.rg q b aL ag⟩
section
variable{I:a5}{t:eU}{T:Nat->Nat->cP}{M:List aF}{k a:Nat}
def Ii(h:rB I t T M k a){q:Nat}(aL:(t.P.ai k).bd=[q]):Spec Tryz.prog 209 [ptr t.bt,.int .i64 k,.int .i64 a] I M λv I' M'=>q<t.nn/\v=(T q a).val/\I'=I/\M'=M:=by
 refine bY [] aV Tryz.func209 rfl rfl rfl ?_;intro B ay;have aD:=h.ok;obtain⟨y,aT,gw,k0,o7,jb,ad,b3,br⟩:=aD.ai h.k;have gE:y.aS.map Int.toNat=[q]:=by rw[gw]at aL;exact aL
 obtain⟨x,ab⟩:∃ x,y.aS=[x]:=by
  match ae:y.aS,gE with
  |[x],_=>exact⟨x,rfl⟩
 have gx:=jb x (by rw[ab];exact .head _);have akm:x.toNat=q:=by rw[ab]at gE;simpa using gE
 have m7:q<t.nn:=by omega
 have ev:y.kn=1:=by have:=k0.kn;rw[ab]at this;exact this.symm
 obtain⟨h',iI,gY⟩:=k0.bj.one (f:=λ(k:Int)=>Value.int .i64 k) (j:=0) (by omega) (by rw[ab];exact LW);have gY:∀ M,cx I M (h'.add (0*1)) 1 [.int .i64 q]:=λM=>by
  have:=gY M;have e:y.aS[0]'(by rw[ab];exact LW)=(q:Int):=by simp only[ab];show x=_;omega
  rwa [e]at this
 obtain⟨fb,k1,r,al,hv,-,lG⟩:=aD.row m7;refine cq.draw aV rfl rfl rfl ?_;refine aw.mk _ (aD.hU (j:=4) (by decide)) ?_;refine aw.mk _ (aD.hU (j:=3) (by decide)) ?_;refine bl.mk ad k b3 rfl h.k ?_;refine aw.mk _ ((br _).part (k:=8) (m:=1) (by decide)) ?_;refine bl.mk h' 0 iI rfl (by omega) ?_;refine aw.mk _ (gY _) ?_;refine bl.mk fb q k1 rfl m7 ?_;refine aw.mk _ (hv _) ?_;refine bl.mk r a rfl rfl (by show a<t.s.size+1;have:=h.a;omega) ?_;refine aw.mk _ (lG _ h.aO a h.a) ?_;exact⟨_,_,.refl,m7,rfl,rfl,rfl⟩
def m8(I:a5)(M:List aF)(t:eU)(T:Nat->Nat->cP)(k a:Nat)(v:Value)(I':a5)(M':List aF):Prop:=v=(eG t.P T k a).val/\I'=I/\M'=M
def akn{P:bm}(h:(P.ai k).d.k=0):eG P T k a=pS a:=by simp[eG,h]
def ako{P:bm}(h:(P.ai k).d.k=1):eG P T k a=match P.s.data[a]? with
  |some b=>bif jS (P.ai k).d b.toNat then pS (a+1)else x0| none=>x0:=by simp only[eG,h];rfl
def akp{P:bm}(h:(P.ai k).d.k=2):eG P T k a=bif preB P.s (P.ai k).d.t a then pS (a+(P.ai k).d.t.size)else x0:=by simp[eG,h]
def akq{P:bm}(h:(P.ai k).d.k=3){q:Nat}(aL:(P.ai k).bd=[q]):eG P T k a=T q a:=by simp[eG,h,aL]
def akr{P:bm}(h:(P.ai k).d.k=7){q:Nat}(aL:(P.ai k).bd=[q]):eG P T k a=bif Nat.beq (T q a).ao 2 then pS a else⟨0,0,(T q a).ao,0⟩:=by simp[eG,h,aL]
def aks{P:bm}(h:(P.ai k).d.k=8){q:Nat}(aL:(P.ai k).bd=[q]):eG P T k a=bif Nat.beq (T q a).ao 1 then pS a else bif Nat.beq (T q a).ao 2 then x0 else kx:=by simp[eG,h,aL]
def akt{P:bm}(h:(P.ai k).d.k=9){q:Nat}(aL:(P.ai k).bd=[q]):eG P T k a=bif Nat.beq (T q a).ao 2 then { T q a with n:=fr (T q a).n 1 }else T q a:=by simp[eG,h,aL]
def m9{x:Nat}{b:Bool}(h:decide ((x:Int)=(j:Int))=b):Nat.beq x j=b:=by
 cases b with
 |true=>
  have:=cm h;obtain rfl:x=j:=by omega
  exact Nat.beq_refl x
 |false=>
  have:=cu h;rw[lB];exact λe=>by have:=cj e;omega
def aku(h:rB I t T M k a)(ae:(t.P.ai k).d.k=0):Spec Tryz.prog 138 [ptr t.bt,.int .i64 k,.int .i64 a] I M (m8 I M t T k a):=by refine bY [] aV Tryz.func138 rfl rfl rfl ?_;intro B ay;have aH:=h.a;have ax:=h.ok.sz;refine a9.whole _ (A4 a (by omega)) ?_;rintro v I' M' -⟨rfl,rfl,rfl⟩;exact⟨_,_,.refl,by rw[akn ae];rfl,rfl,rfl⟩
def akv(h:rB I t T M k a)(ae:(t.P.ai k).d.k=3):Spec Tryz.prog 141 [ptr t.bt,.int .i64 k,.int .i64 a] I M (m8 I M t T k a):=by obtain⟨q,aL⟩:=(h.na k).one (.inl ae);refine bY [] aV Tryz.func141 rfl rfl rfl ?_;intro B ay;refine a9.whole _ (Ii h aL) ?_;rintro v I' M' -⟨m7,rfl,rfl,rfl⟩;exact⟨_,_,.refl,by rw[akq ae aL];rfl,rfl,rfl⟩
def akw(h:rB I t T M k a)(ae:(t.P.ai k).d.k=7):Spec Tryz.prog 145 [ptr t.bt,.int .i64 k,.int .i64 a] I M (m8 I M t T k a):=by
 obtain⟨q,aL⟩:=(h.na k).one (.inr (by omega));have aD:=akr (T:=T) (a:=a) ae aL;refine bY [] aV Tryz.func145 rfl rfl rfl ?_;intro B ay;have aH:=h.a;have ax:=h.ok.sz;refine a9.whole _ (Ii h aL) ?_;rintro v I' M' -⟨m7,rfl,rfl,rfl⟩;refine aM.mk (λe=>?_) (λe=>?_)
 ·rw[m9 (j:=2) e,a4]at aD;refine a9.whole _ (A4 a (by omega)) ?_;rintro v I' M' -⟨rfl,rfl,rfl⟩;exact⟨_,_,.refl,by rw[aD];rfl,rfl,rfl⟩
 ·rw[m9 (j:=2) e,aQ]at aD;exact⟨_,_,.refl,by rw[aD];rfl,rfl,rfl⟩
def akx(h:rB I t T M k a)(ae:(t.P.ai k).d.k=8):Spec Tryz.prog 146 [ptr t.bt,.int .i64 k,.int .i64 a] I M (m8 I M t T k a):=by
 obtain⟨q,aL⟩:=(h.na k).one (.inr (by omega));have aD:=aks (T:=T) (a:=a) ae aL;refine bY [] aV Tryz.func146 rfl rfl rfl ?_;intro B ay;have aH:=h.a;have ax:=h.ok.sz;refine a9.whole _ (Ii h aL) ?_;rintro v I' M' -⟨m7,rfl,rfl,rfl⟩;refine aM.mk (λe=>?_) (λe=>?_)
 ·rw[m9 (j:=1) e,a4]at aD;refine a9.whole _ (A4 a (by omega)) ?_;rintro v I' M' -⟨rfl,rfl,rfl⟩;exact⟨_,_,.refl,by rw[aD];rfl,rfl,rfl⟩
 ·rw[m9 (j:=1) e,aQ]at aD;refine aM.mk (λaA=>?_) (λaA=>?_)
  ·rw[m9 (j:=2) aA,a4]at aD;exact⟨_,_,.refl,by rw[aD];rfl,rfl,rfl⟩
  ·rw[m9 (j:=2) aA,aQ]at aD;exact⟨_,_,.refl,by rw[aD];rfl,rfl,rfl⟩
def aky(h:rB I t T M k a)(ae:(t.P.ai k).d.k=9):Spec Tryz.prog 147 [ptr t.bt,.int .i64 k,.int .i64 a] I M (m8 I M t T k a):=by
 obtain⟨q,aL⟩:=(h.na k).one (.inr (by omega));have aD:=akt (T:=T) (a:=a) ae aL;refine bY [] aV Tryz.func147 rfl rfl rfl ?_;intro B ay;refine a9.whole _ (Ii h aL) ?_;rintro v I' M' -⟨m7,rfl,rfl,rfl⟩;have al:=h.rg m7 h.a;refine aM.mk (λe=>?_) (λe=>?_)
 ·rw[m9 (j:=2) e,a4]at aD;refine a9.whole _ (L' (T q a).n 1 al.2.1 (by omega)) ?_;rintro v I' M' -⟨rfl,rfl,rfl⟩;exact⟨_,_,.refl,by rw[aD];rfl,rfl,rfl⟩
 ·rw[m9 (j:=2) e,aQ]at aD;exact⟨_,_,.refl,by rw[aD];rfl,rfl,rfl⟩
def akz(h:rB I t T M k a)(ae:(t.P.ai k).d.k=1):Spec Tryz.prog 139 [ptr t.bt,.int .i64 k,.int .i64 a] I M (m8 I M t T k a):=by
 have aD:=ako (T:=T) (a:=a) ae;refine bY [] aV Tryz.func139 rfl rfl rfl ?_;intro B ay;have bw:=h.ok;have aH:=h.a;have ax:=bw.sz;obtain⟨y,aT,gw,k0,o7,jb,ad,b3,br⟩:=bw.ai h.k;rw[gw]at aD;have iM:t.P.s=t.s:=rfl;rw[iM]at aD;have cM:∀ b,jS y.pn.d b=jS y b:=λb=>rfl;refine cq.draw aV rfl rfl rfl ?_;refine aw.mk _ (bw.hU (j:=0) (by decide)) ?_;refine c0.mk (λg=>?_) (λg=>?_)
 ·have a0:a<t.s.size:=by have:(a:Int)<(t.s.size:Int):=cm g;omega
  have aC:t.s.data[a]?=some t.s[a]:=DX a0;rw[aC]at aD;refine aw.mk _ (bw.hU (j:=3) (by decide)) ?_;refine bl.mk ad k b3 rfl h.k ?_;refine aw.mk _ ((br _).part (k:=1) (m:=4) (by decide)) ?_;refine aw.mk _ (bw.hU (j:=0) (by decide)) ?_;refine yR.mk a rfl a0 ?_;refine a9.whole _ (Zv (a:=y.e2) (b:=y.s1) (c:=y.s2) (d:=y.eK) (λz bk=>by
   simp only[eu,PB,or_false]at bk;rcases bk with rfl | rfl | rfl | rfl;·exact k0.e2
   ·exact k0.s1
   ·exact k0.s2
   ·exact k0.eK) t.s[a]) ?_
  rintro v I' M' -⟨rfl,rfl,rfl⟩;refine aM.mk (λaA=>?_) (λaA=>?_);·have aR:jS y t.s[a].toNat=true:=aA;simp only[cM,aR,a4]at aD;refine bb.mk ((a+1:Nat):Int) (ei (by simp) (by omega)) ?_;refine a9.whole _ (A4 (a+1) (by omega)) ?_;rintro v I' M' -⟨rfl,rfl,rfl⟩;exact⟨_,_,.refl,by rw[aD];rfl,rfl,rfl⟩
  ·have aR:jS y t.s[a].toNat=false:=aA;simp only[cM,aR,aQ]at aD;exact⟨_,_,.refl,by rw[aD];rfl,rfl,rfl⟩
 ·have cE:t.s.data.size<=a:=by have:¬ (a:Int)<(t.s.size:Int):=cu g;have aa:t.s.size=t.s.data.size:=rfl;omega
  have aC:t.s.data[a]?=none:=Pz cE;rw[aC]at aD;exact⟨_,_,.refl,by rw[aD];rfl,rfl,rfl⟩
def akA(h:rB I t T M k a)(ae:(t.P.ai k).d.k=2):Spec Tryz.prog 140 [ptr t.bt,.int .i64 k,.int .i64 a] I M (m8 I M t T k a):=by
 have aD:=akp (T:=T) (a:=a) ae;refine bY [] aV Tryz.func140 rfl rfl rfl ?_;intro B ay;have bw:=h.ok;have aH:=h.a;have ax:=bw.sz;obtain⟨y,aT,gw,k0,o7,jb,ad,b3,br⟩:=bw.ai h.k;rw[gw]at aD;have aD:eG t.P T k a=bif preB t.s y.t a then pS (a+y.t.size)else x0:=aD;refine aw.mk _ (bw.hU (j:=3) (by decide)) ?_;refine bl.mk ad k b3 rfl h.k ?_;refine aw.mk _ ((br _).part (k:=5) (m:=1) (by decide)) ?_;refine aw.mk _ (bw.hU (j:=0) (by decide)) ?_;refine jI.mk a t.s.size rfl rfl aH (b2 _) ?_;have bL:=Zw (I:=I) (M:=M) (t.s.extract a t.s.size) y.t;rw[Zx _ _ aH]at bL;refine a9.whole _ bL ?_;rintro v I' M' -⟨rfl,rfl,rfl⟩;refine aM.mk (λaA=>?_) (λaA=>?_)
 ·have aR:preB t.s y.t a=true:=aA;rw[aR,a4]at aD;refine bb.mk ((a+y.t.size:Nat):Int) (ei (by simp) (by omega)) ?_;refine a9.whole _ (A4 (a+y.t.size) (by omega)) ?_;rintro v I' M' -⟨rfl,rfl,rfl⟩;exact⟨_,_,.refl,by rw[aD];rfl,rfl,rfl⟩
 ·have aR:preB t.s y.t a=false:=aA;rw[aR,aQ]at aD;exact⟨_,_,.refl,by rw[aD];rfl,rfl,rfl⟩
end
section
variable{I:a5}{t:eU}{T:Nat->Nat->cP}{M:List aF}{k a:Nat}
def Ma{X:Prop}{b:Bool}(h:b=true)(bg:b=false):X:=by rw[h]at bg;cases bg
def Mb{x:Nat}{b:Bool}(h:(!decide ((x:Int)=(j:Int)))=b):Nat.beq x j=!b:=by
 have:decide ((x:Int)=(j:Int))=!b:=by rw[<-h,Bool.not_not]
 exact m9 this
def akB(h:rB I t T M k a)(ae:(t.P.ai k).d.k=4):Spec Tryz.prog 142 [ptr t.bt,.int .i64 k,.int .i64 a] I M (m8 I M t T k a):=by
 have aD:eG t.P T k a=ru T (t.P.ai k).bd a 0:=by simp[eG,ae]
 refine bY [] aV Tryz.func142 rfl rfl rfl ?_;intro B ay;have bw:=h.ok;have aH:=h.a;have ax:=bw.sz;obtain⟨y,aT,gw,k0,o7,jb,ad,b3,br⟩:=bw.ai h.k;have gE:(t.P.ai k).bd=y.aS.map Int.toNat:=by rw[gw];rfl
 rw[gE]at aD;have ev:=k0.kn;have iH:=k0.bj.cap.2;refine a9.whole _ (A4 a (by omega)) ?_;rintro v I' M' -⟨rfl,rfl,rfl⟩;refine aw.mk _ (bw.hU (j:=3) (by decide)) ?_;refine bl.mk ad k b3 rfl h.k ?_;refine aw.mk _ ((br _).part (k:=8) (m:=1) (by decide)) ?_;refine ea.inv (ι:=Nat×Nat×Nat) (λx=>{ bK:=[(0,.val (ptr t.bt)),(6,.ref 6 0),(7,.ref 7 0),(20,.val (.slice y.ml y.kn y.k7)),(21,.val (.int .i64 y.kn)),(22,.val (.int .i64 x.1))],cl:=[(6,[.int .i64 0,.int .i32 0,.int .u8 0,.int .u8 0]),(7,[.int .i64 x.2.2,.int .i32 x.2.1,.int .u8 2,.int .u8 0])],dz:=I',d':=M' }) (λx=>x.1<=y.kn/\x.2.1<=t.s.size/\x.2.2<=1099511627776/\eG t.P T k a=ru T ((y.aS.map Int.toNat).drop x.1) x.2.1 x.2.2) (λx=>y.kn-x.1) ?_ ?_
 ·exact⟨(0,a,0),⟨bF _,aH,bF _,aD⟩,.refl,e7,.cons rfl (.cons rfl (.nil))⟩
 rintro⟨i,av,n⟩⟨hi,ix,az,fW⟩;simp only at hi ix az fW;refine aM.mk (λe=>?_) (λe=>?_)
 ·have a0:i<y.kn:=by simpa using e
  have bZ:i<y.aS.length:=by omega
  obtain⟨h',iI,gY⟩:=k0.bj.one (f:=λ(k:Int)=>Value.int .i64 k) a0 bZ;have gx:=jb _ (dr bZ);obtain⟨q,aL⟩:∃ q:Nat,y.aS[i]=(q:Int):=⟨y.aS[i].toNat,by omega⟩;have m7:q<t.nn:=by rw[aL]at gx;omega
  have o8:(y.aS.map Int.toNat).drop i=q::(y.aS.map Int.toNat).drop (i+1):=by rw[fg (by rw[eW];exact bZ),lu,aL];rfl
  rw[o8,ru]at fW;rw[aL]at gY;obtain⟨fb,k1,r,al,hv,-,lG⟩:=bw.row m7;have sN:=h.rg m7 ix;refine bl.mk h' i iI rfl a0 ?_;refine aw.mk _ (gY _) ?_;refine cq.draw aV rfl rfl rfl ?_;refine aw.mk _ (bw.hU (j:=4) (by decide)) ?_;refine bl.mk fb q k1 rfl m7 ?_;refine aw.mk _ (hv _) ?_;refine bl.mk r av rfl rfl (by show av<t.s.size+1;omega) ?_;refine aw.mk _ (lG _ h.aO av ix) ?_;refine cy.mk λig Rh Ri=>?_;refine cc.mk [] M' _ _ rfl rfl (bP rfl) rfl ?_;have l2:∀ j,j+1<=4->cx I' (⟨ig,.cells (T q av).cells.toArray 107 (0,0)⟩::M') ((⟨ig,0,none⟩:Addr).add j) 1 (((T q av).cells.drop j).take 1):=λj an=>dt (.head _) an;refine aw.mk _ (l2 2 (by decide)) ?_;refine aM.mk (λaA=>?_) (λaA=>?_);·rw[Mb (j:=2) (b:=true) aA,r1,aQ]at fW;refine aw.mk _ (l2 2 (by decide)) ?_;exact⟨_,_,.sub (.cons _ (.refl _)) .refl,by rw[fW];rfl,rfl,rfl⟩
  ·rw[Mb (j:=2) (b:=false) aA,Ka,a4]at fW;refine aw.mk _ (l2 1 (by decide)) ?_;refine aw.mk _ (l2 0 (by decide)) ?_;refine a9.whole _ (L' n (T q av).n az sN.2.1) ?_;rintro v eC dU -⟨rfl,rfl,rfl⟩;refine bb.mk _ (c7 (i:=i) (by omega)) ?_;exact⟨(i+1,(T q av).av,fr n (T q av).n),⟨⟨by simp only;omega,sN.2.2.1,u3 _ _,fW⟩,by simp only;omega⟩,.sub (.cons _ (.refl _)) .refl,e7,.cons rfl (.cons rfl (.nil))⟩
 ·have cE:y.kn<=i:=by simpa using e
  have ah:(y.aS.map Int.toNat).drop i=[]:=iG (by rw[eW];omega);rw[ah,ru]at fW;exact⟨_,_,.refl,by rw[fW];rfl,rfl,rfl⟩
def akC(h:rB I t T M k a)(ae:(t.P.ai k).d.k=5):Spec Tryz.prog 143 [ptr t.bt,.int .i64 k,.int .i64 a] I M (m8 I M t T k a):=by
 have aD:eG t.P T k a=ry T (t.P.ai k).bd a:=by simp[eG,ae]
 refine bY [] aV Tryz.func143 rfl rfl rfl ?_;intro B ay;have bw:=h.ok;have aH:=h.a;have ax:=bw.sz;obtain⟨y,aT,gw,k0,o7,jb,ad,b3,br⟩:=bw.ai h.k;have gE:(t.P.ai k).bd=y.aS.map Int.toNat:=by rw[gw];rfl
 rw[gE]at aD;have ev:=k0.kn;have iH:=k0.bj.cap.2;refine aw.mk _ (bw.hU (j:=3) (by decide)) ?_;refine bl.mk ad k b3 rfl h.k ?_;refine aw.mk _ ((br _).part (k:=8) (m:=1) (by decide)) ?_;refine ea.inv (ι:=Nat) (λx=>{ bK:=[(0,.val (ptr t.bt)),(2,.val (.int .i64 a)),(6,.ref 6 0),(17,.val (.slice y.ml y.kn y.k7)),(18,.val (.int .i64 y.kn)),(19,.val (.int .i64 x))],cl:=[(6,[.int .i64 0,.int .i32 0,.int .u8 0,.int .u8 0])],dz:=I,d':=M }) (λx=>x<=y.kn/\eG t.P T k a=ry T ((y.aS.map Int.toNat).drop x) a) (λx=>y.kn-x) ?_ ?_
 ·exact⟨0,⟨bF _,aD⟩,.refl,e7,.cons rfl (.nil)⟩
 rintro i⟨hi,fW⟩;refine aM.mk (λe=>?_) (λe=>?_)
 ·have a0:i<y.kn:=by simpa using e
  have bZ:i<y.aS.length:=by omega
  obtain⟨h',iI,gY⟩:=k0.bj.one (f:=λ(k:Int)=>Value.int .i64 k) a0 bZ;have gx:=jb _ (dr bZ);obtain⟨q,aL⟩:∃ q:Nat,y.aS[i]=(q:Int):=⟨y.aS[i].toNat,by omega⟩;have m7:q<t.nn:=by rw[aL]at gx;omega
  have o8:(y.aS.map Int.toNat).drop i=q::(y.aS.map Int.toNat).drop (i+1):=by rw[fg (by rw[eW];exact bZ),lu,aL];rfl
  rw[o8,ry]at fW;rw[aL]at gY;obtain⟨fb,k1,r,al,hv,-,lG⟩:=bw.row m7;refine bl.mk h' i iI rfl a0 ?_;refine aw.mk _ (gY _) ?_;refine aw.mk _ (bw.hU (j:=4) (by decide)) ?_;refine bl.mk fb q k1 rfl m7 ?_;refine aw.mk _ (hv _) ?_;refine bl.mk r a rfl rfl (by show a<t.s.size+1;omega) ?_;refine aw.mk _ (lG _ h.aO a aH) ?_;refine aM.mk (λaA=>?_) (λaA=>?_);·rw[Mb (j:=1) aA,r1,aQ]at fW;exact⟨_,_,.refl,by rw[fW];rfl,rfl,rfl⟩
  ·rw[Mb (j:=1) aA,Ka,a4]at fW;refine bb.mk _ (c7 (i:=i) (by omega)) ?_;exact⟨i+1,⟨⟨by omega,fW⟩,by omega⟩,.refl,e7,.cons rfl (.nil)⟩
 ·have cE:y.kn<=i:=by simpa using e
  have ah:(y.aS.map Int.toNat).drop i=[]:=iG (by rw[eW];omega);rw[ah,ry]at fW;exact⟨_,_,.refl,by rw[fW];rfl,rfl,rfl⟩
def akD(h:rB I t T M k a)(ae:(t.P.ai k).d.k=6)(aR:(t.P.ai k).d.hi=-1):Spec Tryz.prog 211 [ptr t.bt,.int .i64 k,.int .i64 a] I M (m8 I M t T k a):=by
 obtain⟨q,aL⟩:=(h.na k).one (.inr (by omega));have aD:eG t.P T k a=zE T k q (t.P.ai k).d.lo a:=by rw[Y3 ae aR,aL];rfl
 have dg:=(h.aG k h.k).kR ae;refine bY [] aV Tryz.func211 rfl rfl rfl ?_;intro B ay;have bw:=h.ok;have aH:=h.a;have ax:=bw.sz;obtain⟨y,aT,gw,k0,o7,jb,ad,b3,br⟩:=bw.ai h.k;have aE:(t.P.ai k).d.lo=y.lo:=by rw[gw];rfl
 rw[aE]at aD dg;unfold zE at aD;refine a9.whole _ (A4 a (by omega)) ?_;rintro v I' M' -⟨rfl,rfl,rfl⟩;refine a9.whole _ (Ii h aL) ?_;rintro v I' M' -⟨m7,rfl,rfl,rfl⟩;have sN:=h.rg m7 aH;have Ij:∀ x:Nat,x<=99->IntKind.i64.wrap (x:Int)=(x:Int):=λx ab=>ei rfl (by omega);refine c0.mk (λg=>?_) (λg=>?_)
 rotate_left
 ·rw[m9 (j:=0) (b:=true) g,HO,a4]at aD;exact⟨_,_,.refl,by rw[aD];rfl,rfl,rfl⟩
 rw[m9 (j:=0) (b:=false) g,w2]at aD;refine c0.mk (λa6=>?_) (λa6=>?_)
 ·rw[m9 (j:=2) (b:=true) a6,q3]at aD;refine bb.mk ((T q a).av:Int) (ei rfl (by omega)) ?_;refine aM.mk (λbN=>?_) (λbN=>?_)
  ·have C3:Nat.beq (T q a).av a=true:=m9 bN;rw[C3,a4]at aD;exact⟨_,_,.refl,by rw[aD];rfl,rfl,rfl⟩
  have C3:Nat.beq (T q a).av a=false:=m9 bN;rw[C3,aQ]at aD;refine aM.mk (λe=>?_) (λe=>?_)
  rotate_left
  ·exact Ma a6 e
  obtain⟨fb,k1,r,al,hv,-,lG⟩:=bw.row h.k;have akE:=h.rg h.k sN.2.2.1;refine cq.draw aV rfl rfl rfl ?_;refine aw.mk _ (bw.hU (j:=4) (by decide)) ?_;refine bl.mk fb k k1 rfl h.k ?_;refine aw.mk _ (hv _) ?_;refine bl.mk r (T q a).av rfl rfl (by show _<t.s.size+1;omega) ?_;refine aw.mk _ (lG _ h.aO (T q a).av sN.2.2.1) ?_;refine cy.mk λcS g7 jD=>?_;refine cc.mk [] M' _ _ rfl rfl (bP rfl) rfl ?_;have l2:∀ j,j+1<=4->cx I' (⟨cS,.cells (T k (T q a).av).cells.toArray 107 (0,0)⟩::M') ((⟨cS,0,none⟩:Addr).add j) 1 (((T k (T q a).av).cells.drop j).take 1):=λj an=>dt (.head _) an;refine aw.mk _ (l2 2 (by decide)) ?_;refine aM.mk (λaA=>?_) (λaA=>?_);·rw[m9 (j:=0) aA,a4]at aD;exact⟨_,_,.sub (.cons _ (.refl _)) .refl,by rw[aD];rfl,rfl,rfl⟩
  rw[m9 (j:=0) aA,aQ]at aD;refine aw.mk _ (l2 1 (by decide)) ?_;refine aw.mk _ (l2 0 (by decide)) ?_;refine a9.whole _ (L' (T q a).n (T k (T q a).av).n sN.2.1 akE.2.1) ?_;rintro v eC dU -⟨rfl,rfl,rfl⟩;refine aw.mk _ (l2 3 (by decide)) ?_;refine bb.mk (((T k (T q a).av).bu+1:Nat):Int) (by rw[akl (by omega) (by omega)];simp) ?_;have Cn:min (((T k (T q a).av).bu+1:Nat):Int) 99=((min ((T k (T q a).av).bu+1) 99:Nat):Int):=by omega
  refine cq.draw aV rfl rfl rfl ?_;refine bb.mk ((min ((T k (T q a).av).bu+1) 99:Nat):Int) (by show IntKind.i64.wrap (min (((T k (T q a).av).bu+1:Nat):Int) 99)=_;rw[Cn];exact Ij _ (AL _ _)) ?_;refine aw.mk _ (bw.hU (j:=3) (by decide)) ?_;refine bl.mk ad k b3 rfl h.k ?_;refine aw.mk _ ((br _).part (k:=6) (m:=1) (by decide)) ?_;refine aM.mk (λbx=>?_) (λbx=>?_);·have o4:decide (((min ((T k (T q a).av).bu+1) 99:Nat):Int)<y.lo)=true:=bx;rw[o3,o4,a4]at aD;refine⟨_,_,.sub (.cons _ (.refl _)) .refl,?_,rfl,rfl⟩;rw[aD];show Value.agg #[_,_,_,.int .u8 (min (((T k (T q a).av).bu+1:Nat):Int) 99)]=_;rw[Cn];rfl
  ·have o4:decide (((min ((T k (T q a).av).bu+1) 99:Nat):Int)<y.lo)=false:=bx;rw[o3,o4,aQ]at aD;refine⟨_,_,.sub (.cons _ (.refl _)) .refl,?_,rfl,rfl⟩;rw[aD];show Value.agg #[_,_,_,.int .u8 (min (((T k (T q a).av).bu+1:Nat):Int) 99)]=_;rw[Cn];rfl
 ·rw[m9 (j:=2) (b:=false) a6,uE,aQ,aQ]at aD;refine aM.mk (λe=>?_) (λe=>?_)
  ·exact Ma e a6
  refine cq.draw aV rfl rfl rfl ?_;refine bb.mk (0:Int) (show IntKind.i64.wrap 0=0 by decide) ?_;refine aw.mk _ (bw.hU (j:=3) (by decide)) ?_;refine bl.mk ad k b3 rfl h.k ?_;refine aw.mk _ ((br _).part (k:=6) (m:=1) (by decide)) ?_;refine aM.mk (λbx=>?_) (λbx=>?_);·have o4:decide ((((pS a).bu:Nat):Int)<y.lo)=true:=bx;rw[o3,o4,a4]at aD;exact⟨_,_,.refl,by rw[aD];rfl,rfl,rfl⟩
  ·have o4:decide ((((pS a).bu:Nat):Int)<y.lo)=false:=bx;rw[o3,o4,aQ]at aD;exact⟨_,_,.refl,by rw[aD];rfl,rfl,rfl⟩
def akF(h:rB I t T M k a)(ae:(t.P.ai k).d.k=6):Spec Tryz.prog 144 [ptr t.bt,.int .i64 k,.int .i64 a] I M (m8 I M t T k a):=by
 obtain⟨q,aL⟩:=(h.na k).one (.inr (by omega));have rz:=(h.na k).kR ae;refine bY [] aV Tryz.func144 rfl rfl rfl ?_;intro B ay;have bw:=h.ok;have aH:=h.a;have ax:=bw.sz;obtain⟨y,aT,gw,k0,o7,jb,ad,b3,br⟩:=bw.ai h.k;have fT:(t.P.ai k).d.hi=y.hi:=by rw[gw];rfl
 have dg:(t.P.ai k).d.lo=y.lo:=by rw[gw];rfl
 rw[fT]at rz;refine aw.mk _ (bw.hU (j:=3) (by decide)) ?_;refine bl.mk ad k b3 rfl h.k ?_;refine aw.mk _ (br _) ?_;refine aM.mk (λe=>?_) (λe=>?_)
 ·have a':y.hi=-1:=cm e;refine a9.whole _ (akD h ae (fT.trans a')) ?_;rintro v I' M' -⟨rfl,rfl,rfl⟩;exact⟨_,_,.refl,rfl,rfl,rfl⟩
 have a':¬ y.hi=-1:=cu e;have aD:eG t.P T k a=qE T q y.lo y.hi.toNat 0 a 0:=by simp[eG,ae,fT,a',aL,dg]
 have gE:y.aS.map Int.toNat=[q]:=by rw[gw]at aL;exact aL
 obtain⟨x,ab⟩:∃ x,y.aS=[x]:=by
  match ae:y.aS,gE with
  |[x],_=>exact⟨x,rfl⟩
 have gx:=jb x (by rw[ab];exact .head _);have akm:x.toNat=q:=by rw[ab]at gE;simpa using gE
 have m7:q<t.nn:=by omega
 have ev:y.kn=1:=by have:=k0.kn;rw[ab]at this;exact this.symm
 obtain⟨h',iI,gY⟩:=k0.bj.one (f:=λ(k:Int)=>Value.int .i64 k) (j:=0) (by omega) (by rw[ab];exact LW);have gY:∀ M,cx I M (h'.add (0*1)) 1 [.int .i64 q]:=λM=>by
  have:=gY M;have e:y.aS[0]'(by rw[ab];exact LW)=(q:Int):=by simp only[ab];show x=_;omega
  rwa [e]at this
 obtain⟨fb,k1,r,al,hv,-,lG⟩:=bw.row m7;refine a9.whole _ (A4 a (by omega)) ?_;rintro v I' M' -⟨rfl,rfl,rfl⟩;refine ea.inv (ι:=Nat×Nat×Nat) (λx=>{ bK:=[(0,.val (ptr t.bt)),(6,.ref 6 0),(7,.ref 7 0),(8,.ref 8 0),(9,.val (.int .i64 x.1))],cl:=[(6,[.int .i64 0,.int .i32 0,.int .u8 0,.int .u8 0]),(7,y.cells),(8,[.int .i64 x.2.2,.int .i32 x.2.1,.int .u8 2,.int .u8 0])],dz:=I',d':=M' }) (λx=>x.1<=y.hi.toNat/\x.2.1<=t.s.size/\x.2.2<=1099511627776/\eG t.P T k a=qE T q y.lo (y.hi.toNat-x.1) x.1 x.2.1 x.2.2) (λx=>y.hi.toNat-x.1) ?_ ?_
 ·exact⟨(0,a,0),⟨bF _,aH,bF _,aD⟩,.refl,jj,.cons rfl (.cons rfl (.cons rfl (.nil)))⟩
 rintro⟨i,av,n⟩⟨hi,ix,az,fW⟩;simp only at hi ix az fW;have sN:=h.rg m7 ix;refine aM.mk (λaA=>?_) (λaA=>?_)
 ·have a0:(i:Int)<y.hi:=cm aA;obtain⟨j,an⟩:∃ j,y.hi.toNat-i=j+1:=⟨y.hi.toNat-i-1,by omega⟩;have ji:y.hi.toNat-(i+1)=j:=by omega
  rw[an,qE]at fW;refine cq.draw aV rfl rfl rfl ?_;refine aw.mk _ (bw.hU (j:=4) (by decide)) ?_;refine bl.mk h' 0 iI rfl (by omega) ?_;refine aw.mk _ (gY _) ?_;refine bl.mk fb q k1 rfl m7 ?_;refine aw.mk _ (hv _) ?_;refine bl.mk r av rfl rfl (by show av<t.s.size+1;omega) ?_;refine aw.mk _ (lG _ h.aO av ix) ?_;refine cy.mk λig Rh Ri=>?_;refine cc.mk [] M' _ _ rfl rfl (bP rfl) rfl ?_;have l2:∀ j,j+1<=4->cx I' (⟨ig,.cells (T q av).cells.toArray 107 (0,0)⟩::M') ((⟨ig,0,none⟩:Addr).add j) 1 (((T q av).cells.drop j).take 1):=λj an=>dt (.head _) an;refine aw.mk _ (l2 2 (by decide)) ?_;refine c0.mk (λg=>?_) (λg=>?_)
  rotate_left
  ·rw[m9 (j:=0) (b:=true) g,HO,a4]at fW;refine aw.mk _ (l2 2 (by decide)) ?_;exact⟨_,_,.sub (.cons _ (.refl _)) .refl,by rw[fW];rfl,rfl,rfl⟩
  rw[m9 (j:=0) (b:=false) g,w2]at fW;refine aw.mk _ (l2 2 (by decide)) ?_;refine c0.mk (λa6=>?_) (λa6=>?_)
  ·rw[m9 (j:=1) (b:=true) a6,q3]at fW;refine aM.mk (λbN=>?_) (λbN=>?_)
   ·have C3:decide ((i:Int)<y.lo)=true:=bN;rw[C3,a4]at fW;refine aw.mk _ (l2 2 (by decide)) ?_;exact⟨_,_,.sub (.cons _ (.refl _)) .refl,by rw[fW];rfl,rfl,rfl⟩
   have C3:decide ((i:Int)<y.lo)=false:=bN;rw[C3,aQ,a4]at fW;refine aw.mk _ (l2 2 (by decide)) ?_;refine aM.mk (λgP=>?_) (λgP=>Ma a6 gP);exact⟨_,_,.sub (.cons _ (.refl _)) .refl,by rw[fW];rfl,rfl,rfl⟩
  ·rw[m9 (j:=1) (b:=false) a6,uE,aQ,aQ]at fW;refine aw.mk _ (l2 2 (by decide)) ?_;refine aM.mk (λgP=>Ma gP a6) (λgP=>?_);refine aw.mk _ (l2 1 (by decide)) ?_;refine aw.mk _ (l2 0 (by decide)) ?_;refine a9.whole _ (L' n (T q av).n az sN.2.1) ?_;rintro v eC dU -⟨rfl,rfl,rfl⟩;refine bb.mk _ (c7 (i:=i) (by omega)) ?_;exact⟨(i+1,(T q av).av,fr n (T q av).n),⟨⟨by simp only;omega,sN.2.2.1,u3 _ _,by simp only;rw[ji];exact fW⟩,by simp only;omega⟩,.sub (.cons _ (.refl _)) .refl,jj,.cons rfl (.cons rfl (.cons rfl (.nil)))⟩
 ·have cE:¬ (i:Int)<y.hi:=cu aA;have an:y.hi.toNat-i=0:=by omega
  rw[an,qE]at fW;exact⟨_,_,.refl,by rw[fW];rfl,rfl,rfl⟩
end
section
variable{X:dw}{β:Nat->Nat}{F:Fr}{C:dX}{I:a5}{M:List aF}{o:Oper}{K:hb}
def Rj{P:Program}(aW:dm P E)(aI:E t=some dT)(eS:dT.bT=.slice e):P.underlying t=some (.slice e):=by
 obtain⟨ja,qm,mW⟩:=(aW _ _ aI).fM;have vI:ja=.slice e:=by rw[eS]at mW;cases ja<;>simp_all[fF]
 rw[qm,vI]
def bE.slice3(aW:dm X.P X.E){lo:Operand}(aD:o.op=.slice t x (some lo) (some hi) (some mx))(ah:∀ d,o.dst=some d->d<X.n)
 (aI:X.E t=some dT) (eS:dT.bT=.slice e) (he:X.E e=some aP) {n:Nat} (l h m:Nat) {eJ:IntKind}
  (ab:bU F x=.val (.slice ad n c)) (dg:bU F lo=.val (.int eJ (l:Nat))) (fT:bU F hi=.val (.int c3 (h:Nat))) (k2:bU F mx=.val (.int gr (m:Nat)))
  (U:l<=h) (aa:h<=m) (af:m<=c) (k:K (put o.dst (.val (.slice (if m=l then ad else ad.map (·.add (l*aP.size))) (h-l) (m-l))) F) C I M):bE X o F C I M K:=by
 refine⟨λa w Q ⟨β,ba⟩=>?_⟩;have hu:=Rj aW aI eS;refine kk (by rw[aD];simp) (v:=.slice (if m=l then ad else ad.map (·.add (l*aP.size))) (h-l) (m-l)) (w':=w) ?_ ⟨_,_,_,_,⟨β,db.put (x:=.val (.slice (if m=l then ad else ad.map (·.add (l*aP.size))) (h-l) (m-l))) ba ah rfl⟩,k⟩;have ex:=dJ ba.ak ab;have aC:=dJ ba.ak dg;have aA:=dJ ba.ak fT;have bx:=dJ ba.ak k2;simp only[execOp,aD,Instr.sliceAt,Instr.slice,Instr.sliceBounds,Instr.sliceBound,ex,cG,run_underlying hu,ck,(aW _ _ he).run_sizeOf,dv,mc,Af,aC,aA,bx,pu];rw[cF ⟨by omega,by omega⟩];simp only[dv,ck,qS];rw[cF ⟨by omega,by omega⟩];simp only[dv,ck,qS];rw[cF ⟨by omega,by omega⟩];simp
def bE.ZB(aW:dm X.P X.E)(aD:o.op=.slice t x none (some hi) (some mx))(ah:∀ d,o.dst=some d->d<X.n)
 (aI:X.E t=some dT) (eS:dT.bT=.slice e) (he:X.E e=some aP) {n:Nat} (h m:Nat)
  (ab:bU F x=.val (.slice ad n c)) (fT:bU F hi=.val (.int c3 (h:Nat))) (k2:bU F mx=.val (.int gr (m:Nat)))
  (aa:h<=m) (af:m<=c) (k:K (put o.dst (.val (.slice (if m=0 then ad else ad.map (·.add (0*aP.size))) (h-0) (m-0))) F) C I M):bE X o F C I M K:=by
 refine⟨λa w Q ⟨β,ba⟩=>?_⟩;have hu:=Rj aW aI eS;refine kk (by rw[aD];simp) (v:=.slice (if m=0 then ad else ad.map (·.add (0*aP.size))) (h-0) (m-0)) (w':=w) ?_ ⟨_,_,_,_,⟨β,db.put (x:=.val (.slice (if m=0 then ad else ad.map (·.add (0*aP.size))) (h-0) (m-0))) ba ah rfl⟩,k⟩;have ex:=dJ ba.ak ab;have aA:=dJ ba.ak fT;have bx:=dJ ba.ak k2;simp only[execOp,aD,Instr.sliceAt,Instr.slice,Instr.sliceBounds,Instr.sliceBound,ex,cG,run_underlying hu,ck,(aW _ _ he).run_sizeOf,dv,mc,Af,aA,bx,pu];rw[cF ⟨by omega,by omega⟩];simp only[dv,ck,qS];rw[cF ⟨by omega,by omega⟩];simp only[dv,ck,qS]
def bE.l3(aW:dm X.P X.E)(aD:o.op=.call { callee:=.builtin .append,args:=#[s,x],argTypes:=#[t,t] })(ah:∀ d,o.dst=some d->d<X.n)
 (aI:X.E t=some dT) (eS:dT.bT=.slice e) (he:X.E e=some aP)
 {g n:Nat} (ax:bU F s=.val (.slice (some ⟨g,0,none⟩) n c)) (aJ:aY.length=c*aP.size)
  {ad:Addr} {m:Nat} (ab:bU F x=.val (.slice (some ad) m c')) {dd:List Value} (az:cx I M ad (m*aP.size) dd) (U:iW dd=true) (uF:n+m<=c)
  (bi post:List aF) (a2:M=bi++⟨g,.cells aY.toArray e (0,0)⟩::post)
  (k:K (put o.dst (.val (.slice (some ⟨g,0,none⟩) (n+m) c)) F) C I (bi++⟨g,.cells (bQ aY (n*aP.size) dd).toArray e (0,0)⟩::post)):bE X o F C I M K:=by
 refine⟨λa w Q ⟨β,ba⟩=>?_⟩;have hu:=Rj aW aI eS;obtain⟨inf,z,hi,gL,j1,kl,mQ⟩:=(aW _ _ he).inf;have aB:w.heap[g]?=some (.cells aY.toArray e (0,0)):=ba.holds.m ⟨g,.cells aY.toArray e (0,0)⟩ (by rw[a2];simp);have aE:dd.length=m*aP.size:=by obtain⟨_,_,_,_,_,_,h⟩:=az;exact h
 have hz:n*aP.size+dd.length<=aY.length:=by rw[aE,aJ,<-j3];exact s7 _ uF
 have cR:=run_storeCells_at X.P g (n*aP.size) e dd 0 aY.toArray w aB (by simpa using hz) (B1 U);simp only[p']at cR;have ar:(Builtin.firstCells aP.size m (.slice (some ad) m c')).run X.P w=.ok dd.toArray w:=by
  obtain⟨bL,cs,T,ak,ev,aj,aE⟩:=az;refine run_firstCells_some (P:=X.P) w aP.size m ad m c' dd aE λj v an=>?_;rw[dY _ bL,w6 (ev.heap ba.holds)];rw[<-aj,mM]at an;split at an;·rw[s8]at an;simpa using an
  ·cases an
 have es:=dJ ba.ak ax;have ex:=dJ ba.ak ab;refine kk (by rw[aD];simp) (v:=.slice (some ⟨g,0,none⟩) (n+m) c) (w':=w.setRow g (bQ aY (n*aP.size) dd).toArray) ?_ ⟨_,_,_,_,⟨β,db.put (x:=.val (.slice (some ⟨g,0,none⟩) (n+m) c)) ?_ ah rfl⟩,k⟩
 ·have ff:(Builtin.append_ #[t,t] o.type #[.slice (some ⟨g,0,none⟩) n c,.slice (some ad) m c']).run X.P w=.ok (.slice (some ⟨g,0,none⟩) (n+m) c) (w.setRow g (bQ aY (n*aP.size) dd).toArray):=by rw[<-gL]at ar cR |-;simp[Builtin.append_,Builtin.lenOf,run_underlying hu,sizeOf,typeInfo,hi,uF,ar,Addr.add_lit,cR,bQ]
  unfold execOp;simp only[aD,resolve,invoke,builtin,cG,dv,ck,xp,dQ,oN,es,ex,ff]
 ·exact ba.Ag a2
end
def cQ(k:Nat):Value:=.int .i64 (k:Int)
def dL(g:Nat)(aY:List Value):aF:=⟨g,.cells aY.toArray 3 (0,0)⟩
def Ik:List Value:=[138,139,140,141,142,143,144,145,146,147].map λf=>.func (.func f) #[] #[]
def akG:Spec Tryz.prog 92 [] I M λv I' M'=>v=.agg Ik.toArray/\I'=I/\M'=M:=by refine bY [] aV Tryz.func92 rfl rfl rfl ?_;intro B ay;exact⟨_,_,.refl,rfl,rfl,rfl⟩
def akH{g:Nat}(a2:dL g aY∈M){m:Nat}(al:(aY.drop i).take (m-i)=(L.drop i).map cQ)(hm:L.length=m)(hi:i<m):cx I M ((⟨g,0,none⟩:Addr).add (i*1)) 1 [cQ (L[i]'(by omega))]:=by
 rw[dY _ rfl];have C4:i<L.length:=by omega
 refine⟨rfl,aY.toArray,3,(0,0),.inr ⟨_,a2,rfl,rfl⟩,?_,rfl⟩;have e:((aY.drop i).take (m-i)).take 1=[cQ L[i]]:=by rw[al,<-List.map_take,fg C4,oL,oM];rfl
 rw[vG,Gn (by omega)]at e;show(aY.drop (0+i*1)).take 1=_;rw[dp,jk];exact e
def Rk(h:aY.take L.length=L.map cQ)(aE:L.length<aY.length)(k:Nat):(bQ aY (L.length*1) [cQ k]).length=aY.length/\(bQ aY (L.length*1) [cQ k]).take (L++[k]).length=(L++[k]).map cQ /\
  ∀ i,L.length+1<=i->(bQ aY (L.length*1) [cQ k]).drop i=aY.drop i:=by
 rw[jk,Ra _ _ _ aE];refine⟨qz,?_,λi hi=>?_⟩
 ·rw[di,zH,iT (by rw[qz];exact aE),A2,List.take_set_of_le (b2 _),h,gW];rfl
 ·rw[List.drop_set_of_lt (by omega)]
def akI{D:List Nat}(h:aY.take D.length=D.map cQ)(aE:D.length+L.length<=aY.length):(bQ aY (D.length*1) (L.map cQ)).length=aY.length/\(bQ aY (D.length*1) (L.map cQ)).take (D++L).length=(D++L).map cQ:=by
 rw[jk];unfold bQ;rw[h,<-gW];refine⟨?_,?_⟩
 ·simp only[di,eW,Ax];omega
 ·have e:(D++L).length=((D++L).map cQ).length:=by rw[eW]
  rw[e];exact G0
def akJ{t:eU}{k a:Nat}(ae:k<t.nn)(ay:t.n0<=k)(aH:a<t.w)(c:cP):bQ (t.cs T) ((k-t.n0)*(t.w*4)+a*4) c.cells=t.cs (g8 T k a c):=by
 unfold eU.cs;have sy:∀ j,bQ (ox T (t.n0+j) t.w) (a*4+0) c.cells=(((List.range t.w).map λb=>(T (t.n0+j) b)).set a c).flatMap cP.cells:=λj=>by
  have:=Q' cP.cells 4 cP.dc ((List.range t.w).map λb=>(T (t.n0+j) b)) a (by simpa using aH) 0 c.cells (by rw[cP.dc];omega) c (by
   unfold bQ;rw[oM,nz,iG (by rw[cP.dc,cP.dc];omega),eo])
  rw[Ia]at this;exact this
 have aC:((List.range (t.nn-t.n0)).flatMap λj=>ox T (t.n0+j) t.w)=(((List.range (t.nn-t.n0)).map λj=>(⟨ox T (t.n0+j) t.w,C2 T _ t.w⟩:{l:List Value // l.length=t.w*4})).flatMap λr=>r.1):=by rw[Ia]
 have cg:(bQ (ox T k t.w) (a*4) c.cells).length=t.w*4:=by unfold bQ;simp only[di,mV,Ax,C2,cP.dc];omega
 rw[aC];have akK:=Q' (λr:{l:List Value // l.length=t.w*4}=>r.1) (t.w*4) (λr=>r.2) ((List.range (t.nn-t.n0)).map λj=>⟨ox T (t.n0+j) t.w,C2 T _ t.w⟩) (k-t.n0) (by simp;omega) (a*4) c.cells (by rw[cP.dc];omega) ⟨bQ (ox T k t.w) (a*4) c.cells,cg⟩ (by
  simp only[lu,su];rw[oc ay])
 rw[akK];rw[show((List.range (t.nn-t.n0)).flatMap λj=>ox (g8 T k a c) (t.n0+j) t.w)=(((List.range (t.nn-t.n0)).map λj=>(⟨ox (g8 T k a c) (t.n0+j) t.w,C2 _ _ t.w⟩:{l:List Value // l.length=t.w*4})).flatMap λr=>r.1) by rw[Ia]];congr 1;refine xq (by simp) λj U aa=>?_;simp only[eW,tK]at aa;rw[lu,su];by_cases e:k-t.n0=j
 ·subst e;rw[A2];refine Subtype.ext ?_;simp only;rw[oc ay];have af:=sy (k-t.n0);rw[oc ay,p']at af;rw[af];have aN:ox (g8 T k a c) k t.w=((List.range t.w).map λb=>g8 T k a c k b).flatMap cP.cells:=by rw[Ia];rfl
  rw[aN];congr 1;refine xq (by simp) λb a3 a6=>?_;simp only[eW,tK]at a6;rw[lu,su];by_cases C5:a=b;·subst C5;rw[A2,E6]
  ·rw[H9 C5,lu,su,zF λx=>C5 x.2.symm]
 ·rw[H9 e,lu,su];refine Subtype.ext ?_;simp only;unfold ox;congr 1;funext b;rw[zF λx=>e (by omega)]
def eU.ok.u7{t:eU}{n3:Nat->Nat->cP}(h:t.ok I T)(he:∀ k,k<t.n0->∀ a,n3 k a=T k a):t.ok I n3:=by refine { h with dS:=λk ae ay=>?_ };obtain⟨cs,hE,ak,U,aa⟩:=h.dS k ae ay;refine⟨cs,hE,ak,U,aa.trans ?_⟩;unfold ox;congr 1;funext a;rw[he k ay a]
def nS(g c:Nat){n m:Nat}(h:n=m):xd (.val (.slice (some ⟨g,0,none⟩) n c)) (.val (.slice (some ⟨g,0,none⟩) m c)):=by rw[h];exact .refl
structure Mc(I:a5)(t:eU)(hE:Nat->Nat->cP)(fD:List Nat)(a:Nat):Prop where
 ok:t.ok I hE
 inv:kd t.P t.nn hE
 aG:∀ k,k<t.nn->x1 t.P t.nn k
 na:∀ k,x2 t.P k
 n0:t.n0<t.nn
 lo:∀ k∈fD,t.n0<=k/\k<t.nn
 a:a<=t.s.size
structure Md where
 T:Nat->Nat->cP
 L:List Nat
 D:List Nat
 c5:List Value
 c9:List Value
structure akL(t:eU)(hE:Nat->Nat->cP)(fD D0:List Nat)(a nA nD:Nat)(x:Md):Prop where
 inv:kd t.P t.nn x.T
 u7:∀ k b,¬ (k∈fD/\b=a)->x.T k b=hE k b
 perm:(x.D++x.L).Perm (D0++fD)
 kn:∀ k∈fD,k∈x.L\/(x.T k a).ao≠0
 sub:∀ k∈x.L,k∈fD
 Fc:x.c5.length=nA
 wu:x.c5.take x.L.length=x.L.map cQ
 Il:x.c9.length=nD
 A5:x.c9.take x.D.length=x.D.map cQ
structure Rl(t:eU)(hE:Nat->Nat->cP)(fD D0:List Nat)(a nA nD:Nat)(kg:List Nat)(d1 i:Nat)(x:Md):Prop where
 ii:i<=kg.length
 akM:x.L.length<=i
 inv:kd t.P t.nn x.T
 u7:∀ k b,¬ (k∈fD/\b=a)->x.T k b=hE k b
 perm:(x.D++(x.L++kg.drop i)).Perm (D0++fD)
 kn:∀ k∈fD,k∈x.L\/k∈kg.drop i\/(x.T k a).ao≠0
 sub:∀ k∈x.L,k∈fD
 un:x.D.length=d1->∀ k∈x.L,(eG t.P x.T k a).ao=0
 ZC:x.D.length+x.L.length=d1+i
 ge:d1<=x.D.length
 Fc:x.c5.length=nA
 wu:x.c5.take x.L.length=x.L.map cQ
 ZD:(x.c5.drop i).take (kg.length-i)=(kg.drop i).map cQ
 Il:x.c9.length=nD
 A5:x.c9.take x.D.length=x.D.map cQ
def Mc.bi{t:eU}{hE:Nat->Nat->cP}{a:Nat}(h:Mc I t hE fD a)(hi:kd t.P t.nn T)(aJ:∀ k b,¬ (k∈fD/\b=a)->T k b=hE k b)(a2:t.aO T∈M){k:Nat}(ae:k∈fD):rB I t T M k a:=
 ⟨h.ok.u7 λq aL b=>aJ q b λe=>by have:=(h.lo q e.1).1;omega,hi,h.aG,h.na,λ_=>a2,(h.lo k ae).2,h.a⟩
def akN(A B C:List α)(k:α):(A++(B++k::C)).Perm (A++[k]++(B++C)):=by rw[gz];exact List.Perm.append_left _ rn
def akO{t:eU}{hE:Nat->Nat->cP}{D0:List Nat}{a:Nat}(h:Mc I t hE fD a){gA gD nA nD:Nat}{cA0 cD0:List Value}(gl:cA0.length=nA)(dH:cD0.length=nD)(wu:cA0.take fD.length=fD.map cQ)(A5:cD0.take D0.length=D0.map cQ)(atP:fD.length<=nA)(atQ:D0.length+fD.length<=nD)(atS:nA<=1048576)(atT:nD<=1048576) :
  Spec Tryz.prog 93 [ptr t.bt,.agg Ik.toArray,.slice (some ⟨gA,0,none⟩) fD.length nA,.slice (some ⟨gD,0,none⟩) D0.length nD,.int .i64 a] I [t.aO hE,dL gA cA0,dL gD cD0] λv I' M'=>I'=I /\
   ∃ (T:Nat->Nat->cP) (lf:List Nat) (c5 c9:List Value),kd t.P t.nn T/\(∀ k b,¬ (k∈fD/\b=a)->T k b=hE k b)/\(∀ k∈fD,(T k a).ao=0->(eG t.P T k a).ao=0)/\lf.Perm (D0++fD)/\c5.length=nA/\c9.length=nD/\c9.take lf.length=lf.map cQ /\
    v=.slice (some ⟨gD,0,none⟩) lf.length nD/\M'=[t.aO T,dL gA c5,dL gD c9]:=by
 refine bY [] aV Tryz.func93 rfl rfl rfl ?_;intro B ay;refine ea.inv (ι:=Md) (λx=>{ bK:=[(0,.val (ptr t.bt)),(2,.val (.slice (some ⟨gA,0,none⟩) x.L.length nA)),(3,.val (.slice (some ⟨gD,0,none⟩) x.D.length nD)),(4,.val (.int .i64 a)),(6,.ref 6 0)],cl:=[(6,Ik)],dz:=I,d':=[t.aO x.T,dL gA x.c5,dL gD x.c9] }) (λx=>akL t hE fD D0 a nA nD x) (λx=>x.L.length) ?_ ?_
 ·exact⟨⟨hE,fD,D0,cA0,cD0⟩,⟨h.inv,λ_ _ _=>rfl,.refl _,λk ae=>.inl ae,λk ae=>ae,gl,wu,dH,A5⟩,.refl,jj,.cons rfl (.nil)⟩
 rintro⟨PP,kg,wv,akP,akQ⟩b4;have akR:=b4.perm.length_eq;simp only[di]at akR;have atU:kg.length<=nA:=by have U:=congrArg List.length b4.wu;have aa:=b4.Fc;simp only[mV,eW]at U aa;omega
 refine jI.mk 0 0 rfl rfl (b2 _) (bF _) ?_;refine ea.inv (ι:=Nat×Md) (λx=>{ bK:=[(0,.val (ptr t.bt)),(3,.val (.slice (some ⟨gD,0,none⟩) x.2.D.length nD)),(4,.val (.int .i64 a)),(6,.ref 6 0),(11,.val (.int .i64 wv.length)),(12,.val (.slice (some ⟨gA,0,none⟩) x.2.L.length nA)),(20,.val (.slice (some ⟨gA,0,none⟩) kg.length nA)),(21,.val (.int .i64 kg.length)),(22,.val (.int .i64 x.1))],cl:=[(6,Ik)],dz:=I,d':=[t.aO x.2.T,dL gA x.2.c5,dL gD x.2.c9] }) (λx=>Rl t hE fD D0 a nA nD kg wv.length x.1 x.2) (λx=>kg.length-x.1) ?_ ?_
 ·refine⟨(0,⟨PP,[],wv,akP,akQ⟩),⟨bF _,b2 _,b4.inv,b4.u7,b4.perm,λk ae=>.inr (b4.kn k ae),λk ae=>(by cases ae),λ_ k ae=>(by cases ae),by simp,b2 _,b4.Fc,by simp,by simpa using b4.wu,b4.Il,b4.A5⟩,.refl,k8,.cons rfl (.nil)⟩
 rintro⟨i,⟨T,L,D,c5,c9⟩⟩dn;have akS:=dn.ii;have akT:=dn.akM;have akU:=dn.ZC;have ZE:=dn.ge;simp only at akS akT akU ZE;have Im:c5.length=nA:=dn.Fc;have tO:c9.length=nD:=dn.Il;refine aM.mk (λe=>?_) (λe=>?_)
 ·have a0:i<kg.length:=by simpa using e
  obtain⟨k,ae⟩:∃ k,kg[i]=k:=⟨_,rfl⟩;have o8:kg.drop i=k::kg.drop (i+1):=by rw[fg a0,ae]
  have Eu:k∈fD:=b4.sub k (by rw[<-ae];exact dr a0);have ZF:=fun {M:List aF} (a2:dL gA c5∈M)=>akH (I:=I) a2 dn.ZD rfl a0;rw[ae]at ZF;have iQ:=fun {M:List aF} (a2:t.aO T∈M)=>h.bi dn.inv dn.u7 a2 Eu;obtain⟨e3,ev⟩:=h.lo k Eu;have rC:t.ok I T:=(iQ (M:=[t.aO T]) (.head _)).ok;obtain⟨y,aT,gw,k0,o7,jb,ad,b3,br⟩:=rC.ai ev;obtain⟨fb,k1,r,al,hv,lW,lG⟩:=rC.row ev;have ra:=lW e3;subst ra;have sM:a<t.w:=by have:=h.a;show a<t.s.size+1;omega
  have Rm:∀ aY:List Value,aY.drop (i+1)=c5.drop (i+1)->(aY.drop (i+1)).take (kg.length-(i+1))=(kg.drop (i+1)).map cQ:=λaY aJ=>by have U:=congrArg (List.drop 1) dn.ZD;rw[<-List.map_drop,Cj,Ay,Cj]at U;rw[aJ,show kg.length-(i+1)=kg.length-i-1 by omega];exact U
  have stay:(eG t.P T k a).ao=0->Rl t hE fD D0 a nA nD kg wv.length (i+1) ⟨T,L++[k],D,bQ c5 (L.length*1) [cQ k],c9⟩:=λbk=>by
   obtain⟨pH,pI,uV⟩:=Rk (L:=L) (aY:=c5) dn.wu (by show L.length<c5.length;omega) k;have aK:=dn.perm;simp only[o8]at aK;refine⟨by omega,by simp only[di,zH];omega,dn.inv,dn.u7,?_,λq aL=>?_,λq aL=>?_,λah q aL=>?_,by simp only[di,zH];omega,ZE,pH.trans Im,pI,Rm _ (uV _ (by omega)),tO,dn.A5⟩;·simp only;rw[gz L [k]];exact aK
   ·rcases dn.kn q aL with U | U | U
    ·exact .inl (r0 _ U)
    ·simp only at U;rw[o8]at U;rcases eu.1 U with rfl | U
     ·exact .inl (oI _ (.head _))
     ·exact .inr (.inl U)
    ·exact .inr (.inr U)
   ·rcases dV.1 aL with U | U
    ·exact dn.sub q U
    ·rw[jw.1 U];exact Eu
   ·rcases dV.1 aL with U | U
    ·exact dn.un ah q U
    ·rw[jw.1 U];exact bk
  have done:(eG t.P T k a).ao≠0->Rl t hE fD D0 a nA nD kg wv.length (i+1) ⟨g8 T k a (eG t.P T k a),L,D++[k],c5,bQ c9 (D.length*1) [cQ k]⟩:=λbk=>by
   obtain⟨pH,pI,uV⟩:=Rk (L:=D) (aY:=c9) dn.A5 (by show D.length<c9.length;omega) k;have aK:=dn.perm;simp only[o8]at aK;refine⟨by omega,by simp only;omega,dn.inv.set ev h.a (h.aG k ev) rfl bk,λq b aL=>?_,?_,λq aL=>?_,dn.sub,λah q aL=>?_,by simp only[di,zH];omega,by simp only[di,zH];omega,Im,dn.wu,Rm _ rfl,pH.trans tO,pI⟩;·simp only;rw[zF λx=>aL ⟨by rw[x.1];exact Eu,x.2⟩];exact dn.u7 q b aL
   ·simp only;exact(akN D L (kg.drop (i+1)) k).symm.trans aK
   ·simp only;by_cases eq:q=k
    ·subst eq;rw[E6];exact .inr (.inr bk)
    ·rw[zF λx=>eq x.1];rcases dn.kn q aL with U | U | U
     ·exact .inl U
     ·simp only at U;rw[o8]at U;rcases eu.1 U with U | U
      ·exact absurd U eq
      ·exact .inr (.inl U)
     ·exact .inr (.inr U)
   ·simp only[di,zH]at ah;omega
  have wx:=akJ (t:=t) (T:=T) ev e3 sM (eG t.P T k a);have ZG:=t.akj T;have hz:(k-t.n0)*(t.w*4)+a*4+4<=(t.cs T).length:=by rw[ZG];have U:(k-t.n0+1)*(t.w*4)<=(t.nn-t.n0)*(t.w*4):=s7 _ (by omega);rw[j3,qj]at U;omega
  obtain⟨c,aJ⟩:∃ c,eG t.P T k a=c:=⟨_,rfl⟩;rw[aJ]at stay done wx;refine bl.mk ⟨gA,0,none⟩ i rfl rfl a0 ?_;refine aw.mk _ (ZF (.tail _ (.head _))) ?_;refine aw.mk _ (rC.hU (j:=3) (by decide)) ?_;refine bl.mk ad k b3 rfl ev ?_;refine aw.mk _ ((br _).part (k:=0) (m:=1) (by decide)) ?_;have u0:=(h.na k).lt;have ZH:=(h.na k).qx;have u9:(t.P.ai k).d.k=y.k:=by rw[gw];rfl
  rw[u9]at u0 ZH;clear gw o8 ZG Rm dn b4 k0 o7 jb aT;obtain⟨gm,e2,s1,s2,eK,ja,ZI,ZJ,sA,sB,sC,sD⟩:=y;simp only at u9 u0 ZH;have xQ:gm=0\/gm=1\/gm=2\/gm=3\/gm=4\/gm=5\/gm=6\/gm=7\/gm=8\/gm=9:=by omega
  rcases xQ with rfl | rfl | rfl | rfl | rfl | rfl | rfl | rfl | rfl | rfl
  ·refine dR.mk 0 rfl (by decide) ?_;have bL:=aku (iQ (M:=[t.aO T,dL gA c5,dL gD c9]) (.head _)) u9;unfold m8 at bL;rw[aJ]at bL;refine a9.whole _ bL ?_;rintro v I' M' -⟨rfl,rfl,rfl⟩;refine aM.mk (λaA=>?_) (λaA=>?_)
   ·have eZ:c.ao=0:=by have:=cm aA;omega
    refine cy.mk λcS g7 jD=>?_;refine bE.l3 aV rfl (by simp) (e:=3) rfl rfl rfl (g:=gA) (n:=L.length) (c:=nA) (aY:=c5) rfl (show c5.length=nA*1 by omega) (ad:=⟨cS,0,none⟩) (m:=1) (c':=1) rfl (dd:=[cQ k]) ⟨rfl,_,_,_,.inr ⟨_,.head _,rfl,rfl⟩,rfl,rfl⟩ rfl (by omega) [_,t.aO T] [dL gD c9] rfl ?_;refine bb.mk _ (c7 (i:=i) (by omega)) ?_;have cg:L.length+1=(L++[k]).length:=by simp
    exact⟨(i+1,⟨T,L++[k],D,bQ c5 (L.length*1) [cQ k],c9⟩),⟨stay eZ,by simp only;omega⟩,.sub (.cons _ (.refl _)) .refl,.cons .refl (.cons .refl (.cons .refl (.cons .refl (.cons .refl (.cons (nS gA nA cg) (gX)))))),.cons rfl (.nil)⟩
   ·have eZ:c.ao≠0:=by have:=cu aA;omega
    refine cq.draw aV rfl rfl rfl ?_;refine aw.mk _ (rC.hU (j:=4) (by decide)) ?_;refine bl.mk fb k k1 rfl ev ?_;refine aw.mk _ (hv _) ?_;refine bl.mk ⟨t.fX,(k-t.n0)*(t.w*4),none⟩ a rfl rfl sM ?_;refine cc.jO [] [dL gA c5,dL gD c9] (t.cs T) _ rfl (by rw[og];exact hz) rfl (t.cs (g8 T k a c)) wx ?_;refine cy.mk λcS g7 jD=>?_;refine bE.l3 aV rfl (by simp) (e:=3) rfl rfl rfl (g:=gD) (n:=D.length) (c:=nD) (aY:=c9) rfl (show c9.length=nD*1 by omega) (ad:=⟨cS,0,none⟩) (m:=1) (c':=1) rfl (dd:=[cQ k]) ⟨rfl,_,_,_,.inr ⟨_,.head _,rfl,rfl⟩,rfl,rfl⟩ rfl (by omega) [_,t.aO (g8 T k a c),dL gA c5] [] rfl ?_;refine bb.mk _ (c7 (i:=i) (by omega)) ?_;have cg:D.length+1=(D++[k]).length:=by simp
    exact⟨(i+1,⟨g8 T k a c,L,D++[k],c5,bQ c9 (D.length*1) [cQ k]⟩),⟨done eZ,by simp only;omega⟩,.sub (.cons _ (.refl _)) .refl,.cons .refl (.cons (nS gD nD cg) (mj)),.cons rfl (.nil)⟩
  ·refine dR.mk 1 rfl (by decide) ?_;have bL:=akz (iQ (M:=[t.aO T,dL gA c5,dL gD c9]) (.head _)) u9;unfold m8 at bL;rw[aJ]at bL;refine a9.whole _ bL ?_;rintro v I' M' -⟨rfl,rfl,rfl⟩;refine aM.mk (λaA=>?_) (λaA=>?_)
   ·have eZ:c.ao=0:=by have:=cm aA;omega
    refine cy.mk λcS g7 jD=>?_;refine bE.l3 aV rfl (by simp) (e:=3) rfl rfl rfl (g:=gA) (n:=L.length) (c:=nA) (aY:=c5) rfl (show c5.length=nA*1 by omega) (ad:=⟨cS,0,none⟩) (m:=1) (c':=1) rfl (dd:=[cQ k]) ⟨rfl,_,_,_,.inr ⟨_,.head _,rfl,rfl⟩,rfl,rfl⟩ rfl (by omega) [_,t.aO T] [dL gD c9] rfl ?_;refine bb.mk _ (c7 (i:=i) (by omega)) ?_;have cg:L.length+1=(L++[k]).length:=by simp
    exact⟨(i+1,⟨T,L++[k],D,bQ c5 (L.length*1) [cQ k],c9⟩),⟨stay eZ,by simp only;omega⟩,.sub (.cons _ (.refl _)) .refl,.cons .refl (.cons .refl (.cons .refl (.cons .refl (.cons .refl (.cons (nS gA nA cg) (gX)))))),.cons rfl (.nil)⟩
   ·have eZ:c.ao≠0:=by have:=cu aA;omega
    refine cq.draw aV rfl rfl rfl ?_;refine aw.mk _ (rC.hU (j:=4) (by decide)) ?_;refine bl.mk fb k k1 rfl ev ?_;refine aw.mk _ (hv _) ?_;refine bl.mk ⟨t.fX,(k-t.n0)*(t.w*4),none⟩ a rfl rfl sM ?_;refine cc.jO [] [dL gA c5,dL gD c9] (t.cs T) _ rfl (by rw[og];exact hz) rfl (t.cs (g8 T k a c)) wx ?_;refine cy.mk λcS g7 jD=>?_;refine bE.l3 aV rfl (by simp) (e:=3) rfl rfl rfl (g:=gD) (n:=D.length) (c:=nD) (aY:=c9) rfl (show c9.length=nD*1 by omega) (ad:=⟨cS,0,none⟩) (m:=1) (c':=1) rfl (dd:=[cQ k]) ⟨rfl,_,_,_,.inr ⟨_,.head _,rfl,rfl⟩,rfl,rfl⟩ rfl (by omega) [_,t.aO (g8 T k a c),dL gA c5] [] rfl ?_;refine bb.mk _ (c7 (i:=i) (by omega)) ?_;have cg:D.length+1=(D++[k]).length:=by simp
    exact⟨(i+1,⟨g8 T k a c,L,D++[k],c5,bQ c9 (D.length*1) [cQ k]⟩),⟨done eZ,by simp only;omega⟩,.sub (.cons _ (.refl _)) .refl,.cons .refl (.cons (nS gD nD cg) (mj)),.cons rfl (.nil)⟩
  ·refine dR.mk 2 rfl (by decide) ?_;have bL:=akA (iQ (M:=[t.aO T,dL gA c5,dL gD c9]) (.head _)) u9;unfold m8 at bL;rw[aJ]at bL;refine a9.whole _ bL ?_;rintro v I' M' -⟨rfl,rfl,rfl⟩;refine aM.mk (λaA=>?_) (λaA=>?_)
   ·have eZ:c.ao=0:=by have:=cm aA;omega
    refine cy.mk λcS g7 jD=>?_;refine bE.l3 aV rfl (by simp) (e:=3) rfl rfl rfl (g:=gA) (n:=L.length) (c:=nA) (aY:=c5) rfl (show c5.length=nA*1 by omega) (ad:=⟨cS,0,none⟩) (m:=1) (c':=1) rfl (dd:=[cQ k]) ⟨rfl,_,_,_,.inr ⟨_,.head _,rfl,rfl⟩,rfl,rfl⟩ rfl (by omega) [_,t.aO T] [dL gD c9] rfl ?_;refine bb.mk _ (c7 (i:=i) (by omega)) ?_;have cg:L.length+1=(L++[k]).length:=by simp
    exact⟨(i+1,⟨T,L++[k],D,bQ c5 (L.length*1) [cQ k],c9⟩),⟨stay eZ,by simp only;omega⟩,.sub (.cons _ (.refl _)) .refl,.cons .refl (.cons .refl (.cons .refl (.cons .refl (.cons .refl (.cons (nS gA nA cg) (gX)))))),.cons rfl (.nil)⟩
   ·have eZ:c.ao≠0:=by have:=cu aA;omega
    refine cq.draw aV rfl rfl rfl ?_;refine aw.mk _ (rC.hU (j:=4) (by decide)) ?_;refine bl.mk fb k k1 rfl ev ?_;refine aw.mk _ (hv _) ?_;refine bl.mk ⟨t.fX,(k-t.n0)*(t.w*4),none⟩ a rfl rfl sM ?_;refine cc.jO [] [dL gA c5,dL gD c9] (t.cs T) _ rfl (by rw[og];exact hz) rfl (t.cs (g8 T k a c)) wx ?_;refine cy.mk λcS g7 jD=>?_;refine bE.l3 aV rfl (by simp) (e:=3) rfl rfl rfl (g:=gD) (n:=D.length) (c:=nD) (aY:=c9) rfl (show c9.length=nD*1 by omega) (ad:=⟨cS,0,none⟩) (m:=1) (c':=1) rfl (dd:=[cQ k]) ⟨rfl,_,_,_,.inr ⟨_,.head _,rfl,rfl⟩,rfl,rfl⟩ rfl (by omega) [_,t.aO (g8 T k a c),dL gA c5] [] rfl ?_;refine bb.mk _ (c7 (i:=i) (by omega)) ?_;have cg:D.length+1=(D++[k]).length:=by simp
    exact⟨(i+1,⟨g8 T k a c,L,D++[k],c5,bQ c9 (D.length*1) [cQ k]⟩),⟨done eZ,by simp only;omega⟩,.sub (.cons _ (.refl _)) .refl,.cons .refl (.cons (nS gD nD cg) (mj)),.cons rfl (.nil)⟩
  ·refine dR.mk 3 rfl (by decide) ?_;have bL:=akv (iQ (M:=[t.aO T,dL gA c5,dL gD c9]) (.head _)) u9;unfold m8 at bL;rw[aJ]at bL;refine a9.whole _ bL ?_;rintro v I' M' -⟨rfl,rfl,rfl⟩;refine aM.mk (λaA=>?_) (λaA=>?_)
   ·have eZ:c.ao=0:=by have:=cm aA;omega
    refine cy.mk λcS g7 jD=>?_;refine bE.l3 aV rfl (by simp) (e:=3) rfl rfl rfl (g:=gA) (n:=L.length) (c:=nA) (aY:=c5) rfl (show c5.length=nA*1 by omega) (ad:=⟨cS,0,none⟩) (m:=1) (c':=1) rfl (dd:=[cQ k]) ⟨rfl,_,_,_,.inr ⟨_,.head _,rfl,rfl⟩,rfl,rfl⟩ rfl (by omega) [_,t.aO T] [dL gD c9] rfl ?_;refine bb.mk _ (c7 (i:=i) (by omega)) ?_;have cg:L.length+1=(L++[k]).length:=by simp
    exact⟨(i+1,⟨T,L++[k],D,bQ c5 (L.length*1) [cQ k],c9⟩),⟨stay eZ,by simp only;omega⟩,.sub (.cons _ (.refl _)) .refl,.cons .refl (.cons .refl (.cons .refl (.cons .refl (.cons .refl (.cons (nS gA nA cg) (gX)))))),.cons rfl (.nil)⟩
   ·have eZ:c.ao≠0:=by have:=cu aA;omega
    refine cq.draw aV rfl rfl rfl ?_;refine aw.mk _ (rC.hU (j:=4) (by decide)) ?_;refine bl.mk fb k k1 rfl ev ?_;refine aw.mk _ (hv _) ?_;refine bl.mk ⟨t.fX,(k-t.n0)*(t.w*4),none⟩ a rfl rfl sM ?_;refine cc.jO [] [dL gA c5,dL gD c9] (t.cs T) _ rfl (by rw[og];exact hz) rfl (t.cs (g8 T k a c)) wx ?_;refine cy.mk λcS g7 jD=>?_;refine bE.l3 aV rfl (by simp) (e:=3) rfl rfl rfl (g:=gD) (n:=D.length) (c:=nD) (aY:=c9) rfl (show c9.length=nD*1 by omega) (ad:=⟨cS,0,none⟩) (m:=1) (c':=1) rfl (dd:=[cQ k]) ⟨rfl,_,_,_,.inr ⟨_,.head _,rfl,rfl⟩,rfl,rfl⟩ rfl (by omega) [_,t.aO (g8 T k a c),dL gA c5] [] rfl ?_;refine bb.mk _ (c7 (i:=i) (by omega)) ?_;have cg:D.length+1=(D++[k]).length:=by simp
    exact⟨(i+1,⟨g8 T k a c,L,D++[k],c5,bQ c9 (D.length*1) [cQ k]⟩),⟨done eZ,by simp only;omega⟩,.sub (.cons _ (.refl _)) .refl,.cons .refl (.cons (nS gD nD cg) (mj)),.cons rfl (.nil)⟩
  ·refine dR.mk 4 rfl (by decide) ?_;have bL:=akB (iQ (M:=[t.aO T,dL gA c5,dL gD c9]) (.head _)) u9;unfold m8 at bL;rw[aJ]at bL;refine a9.whole _ bL ?_;rintro v I' M' -⟨rfl,rfl,rfl⟩;refine aM.mk (λaA=>?_) (λaA=>?_)
   ·have eZ:c.ao=0:=by have:=cm aA;omega
    refine cy.mk λcS g7 jD=>?_;refine bE.l3 aV rfl (by simp) (e:=3) rfl rfl rfl (g:=gA) (n:=L.length) (c:=nA) (aY:=c5) rfl (show c5.length=nA*1 by omega) (ad:=⟨cS,0,none⟩) (m:=1) (c':=1) rfl (dd:=[cQ k]) ⟨rfl,_,_,_,.inr ⟨_,.head _,rfl,rfl⟩,rfl,rfl⟩ rfl (by omega) [_,t.aO T] [dL gD c9] rfl ?_;refine bb.mk _ (c7 (i:=i) (by omega)) ?_;have cg:L.length+1=(L++[k]).length:=by simp
    exact⟨(i+1,⟨T,L++[k],D,bQ c5 (L.length*1) [cQ k],c9⟩),⟨stay eZ,by simp only;omega⟩,.sub (.cons _ (.refl _)) .refl,.cons .refl (.cons .refl (.cons .refl (.cons .refl (.cons .refl (.cons (nS gA nA cg) (gX)))))),.cons rfl (.nil)⟩
   ·have eZ:c.ao≠0:=by have:=cu aA;omega
    refine cq.draw aV rfl rfl rfl ?_;refine aw.mk _ (rC.hU (j:=4) (by decide)) ?_;refine bl.mk fb k k1 rfl ev ?_;refine aw.mk _ (hv _) ?_;refine bl.mk ⟨t.fX,(k-t.n0)*(t.w*4),none⟩ a rfl rfl sM ?_;refine cc.jO [] [dL gA c5,dL gD c9] (t.cs T) _ rfl (by rw[og];exact hz) rfl (t.cs (g8 T k a c)) wx ?_;refine cy.mk λcS g7 jD=>?_;refine bE.l3 aV rfl (by simp) (e:=3) rfl rfl rfl (g:=gD) (n:=D.length) (c:=nD) (aY:=c9) rfl (show c9.length=nD*1 by omega) (ad:=⟨cS,0,none⟩) (m:=1) (c':=1) rfl (dd:=[cQ k]) ⟨rfl,_,_,_,.inr ⟨_,.head _,rfl,rfl⟩,rfl,rfl⟩ rfl (by omega) [_,t.aO (g8 T k a c),dL gA c5] [] rfl ?_;refine bb.mk _ (c7 (i:=i) (by omega)) ?_;have cg:D.length+1=(D++[k]).length:=by simp
    exact⟨(i+1,⟨g8 T k a c,L,D++[k],c5,bQ c9 (D.length*1) [cQ k]⟩),⟨done eZ,by simp only;omega⟩,.sub (.cons _ (.refl _)) .refl,.cons .refl (.cons (nS gD nD cg) (mj)),.cons rfl (.nil)⟩
  ·refine dR.mk 5 rfl (by decide) ?_;have bL:=akC (iQ (M:=[t.aO T,dL gA c5,dL gD c9]) (.head _)) u9;unfold m8 at bL;rw[aJ]at bL;refine a9.whole _ bL ?_;rintro v I' M' -⟨rfl,rfl,rfl⟩;refine aM.mk (λaA=>?_) (λaA=>?_)
   ·have eZ:c.ao=0:=by have:=cm aA;omega
    refine cy.mk λcS g7 jD=>?_;refine bE.l3 aV rfl (by simp) (e:=3) rfl rfl rfl (g:=gA) (n:=L.length) (c:=nA) (aY:=c5) rfl (show c5.length=nA*1 by omega) (ad:=⟨cS,0,none⟩) (m:=1) (c':=1) rfl (dd:=[cQ k]) ⟨rfl,_,_,_,.inr ⟨_,.head _,rfl,rfl⟩,rfl,rfl⟩ rfl (by omega) [_,t.aO T] [dL gD c9] rfl ?_;refine bb.mk _ (c7 (i:=i) (by omega)) ?_;have cg:L.length+1=(L++[k]).length:=by simp
    exact⟨(i+1,⟨T,L++[k],D,bQ c5 (L.length*1) [cQ k],c9⟩),⟨stay eZ,by simp only;omega⟩,.sub (.cons _ (.refl _)) .refl,.cons .refl (.cons .refl (.cons .refl (.cons .refl (.cons .refl (.cons (nS gA nA cg) (gX)))))),.cons rfl (.nil)⟩
   ·have eZ:c.ao≠0:=by have:=cu aA;omega
    refine cq.draw aV rfl rfl rfl ?_;refine aw.mk _ (rC.hU (j:=4) (by decide)) ?_;refine bl.mk fb k k1 rfl ev ?_;refine aw.mk _ (hv _) ?_;refine bl.mk ⟨t.fX,(k-t.n0)*(t.w*4),none⟩ a rfl rfl sM ?_;refine cc.jO [] [dL gA c5,dL gD c9] (t.cs T) _ rfl (by rw[og];exact hz) rfl (t.cs (g8 T k a c)) wx ?_;refine cy.mk λcS g7 jD=>?_;refine bE.l3 aV rfl (by simp) (e:=3) rfl rfl rfl (g:=gD) (n:=D.length) (c:=nD) (aY:=c9) rfl (show c9.length=nD*1 by omega) (ad:=⟨cS,0,none⟩) (m:=1) (c':=1) rfl (dd:=[cQ k]) ⟨rfl,_,_,_,.inr ⟨_,.head _,rfl,rfl⟩,rfl,rfl⟩ rfl (by omega) [_,t.aO (g8 T k a c),dL gA c5] [] rfl ?_;refine bb.mk _ (c7 (i:=i) (by omega)) ?_;have cg:D.length+1=(D++[k]).length:=by simp
    exact⟨(i+1,⟨g8 T k a c,L,D++[k],c5,bQ c9 (D.length*1) [cQ k]⟩),⟨done eZ,by simp only;omega⟩,.sub (.cons _ (.refl _)) .refl,.cons .refl (.cons (nS gD nD cg) (mj)),.cons rfl (.nil)⟩
  ·refine dR.mk 6 rfl (by decide) ?_;have bL:=akF (iQ (M:=[t.aO T,dL gA c5,dL gD c9]) (.head _)) u9;unfold m8 at bL;rw[aJ]at bL;refine a9.whole _ bL ?_;rintro v I' M' -⟨rfl,rfl,rfl⟩;refine aM.mk (λaA=>?_) (λaA=>?_)
   ·have eZ:c.ao=0:=by have:=cm aA;omega
    refine cy.mk λcS g7 jD=>?_;refine bE.l3 aV rfl (by simp) (e:=3) rfl rfl rfl (g:=gA) (n:=L.length) (c:=nA) (aY:=c5) rfl (show c5.length=nA*1 by omega) (ad:=⟨cS,0,none⟩) (m:=1) (c':=1) rfl (dd:=[cQ k]) ⟨rfl,_,_,_,.inr ⟨_,.head _,rfl,rfl⟩,rfl,rfl⟩ rfl (by omega) [_,t.aO T] [dL gD c9] rfl ?_;refine bb.mk _ (c7 (i:=i) (by omega)) ?_;have cg:L.length+1=(L++[k]).length:=by simp
    exact⟨(i+1,⟨T,L++[k],D,bQ c5 (L.length*1) [cQ k],c9⟩),⟨stay eZ,by simp only;omega⟩,.sub (.cons _ (.refl _)) .refl,.cons .refl (.cons .refl (.cons .refl (.cons .refl (.cons .refl (.cons (nS gA nA cg) (gX)))))),.cons rfl (.nil)⟩
   ·have eZ:c.ao≠0:=by have:=cu aA;omega
    refine cq.draw aV rfl rfl rfl ?_;refine aw.mk _ (rC.hU (j:=4) (by decide)) ?_;refine bl.mk fb k k1 rfl ev ?_;refine aw.mk _ (hv _) ?_;refine bl.mk ⟨t.fX,(k-t.n0)*(t.w*4),none⟩ a rfl rfl sM ?_;refine cc.jO [] [dL gA c5,dL gD c9] (t.cs T) _ rfl (by rw[og];exact hz) rfl (t.cs (g8 T k a c)) wx ?_;refine cy.mk λcS g7 jD=>?_;refine bE.l3 aV rfl (by simp) (e:=3) rfl rfl rfl (g:=gD) (n:=D.length) (c:=nD) (aY:=c9) rfl (show c9.length=nD*1 by omega) (ad:=⟨cS,0,none⟩) (m:=1) (c':=1) rfl (dd:=[cQ k]) ⟨rfl,_,_,_,.inr ⟨_,.head _,rfl,rfl⟩,rfl,rfl⟩ rfl (by omega) [_,t.aO (g8 T k a c),dL gA c5] [] rfl ?_;refine bb.mk _ (c7 (i:=i) (by omega)) ?_;have cg:D.length+1=(D++[k]).length:=by simp
    exact⟨(i+1,⟨g8 T k a c,L,D++[k],c5,bQ c9 (D.length*1) [cQ k]⟩),⟨done eZ,by simp only;omega⟩,.sub (.cons _ (.refl _)) .refl,.cons .refl (.cons (nS gD nD cg) (mj)),.cons rfl (.nil)⟩
  ·refine dR.mk 7 rfl (by decide) ?_;have bL:=akw (iQ (M:=[t.aO T,dL gA c5,dL gD c9]) (.head _)) u9;unfold m8 at bL;rw[aJ]at bL;refine a9.whole _ bL ?_;rintro v I' M' -⟨rfl,rfl,rfl⟩;refine aM.mk (λaA=>?_) (λaA=>?_)
   ·have eZ:c.ao=0:=by have:=cm aA;omega
    refine cy.mk λcS g7 jD=>?_;refine bE.l3 aV rfl (by simp) (e:=3) rfl rfl rfl (g:=gA) (n:=L.length) (c:=nA) (aY:=c5) rfl (show c5.length=nA*1 by omega) (ad:=⟨cS,0,none⟩) (m:=1) (c':=1) rfl (dd:=[cQ k]) ⟨rfl,_,_,_,.inr ⟨_,.head _,rfl,rfl⟩,rfl,rfl⟩ rfl (by omega) [_,t.aO T] [dL gD c9] rfl ?_;refine bb.mk _ (c7 (i:=i) (by omega)) ?_;have cg:L.length+1=(L++[k]).length:=by simp
    exact⟨(i+1,⟨T,L++[k],D,bQ c5 (L.length*1) [cQ k],c9⟩),⟨stay eZ,by simp only;omega⟩,.sub (.cons _ (.refl _)) .refl,.cons .refl (.cons .refl (.cons .refl (.cons .refl (.cons .refl (.cons (nS gA nA cg) (gX)))))),.cons rfl (.nil)⟩
   ·have eZ:c.ao≠0:=by have:=cu aA;omega
    refine cq.draw aV rfl rfl rfl ?_;refine aw.mk _ (rC.hU (j:=4) (by decide)) ?_;refine bl.mk fb k k1 rfl ev ?_;refine aw.mk _ (hv _) ?_;refine bl.mk ⟨t.fX,(k-t.n0)*(t.w*4),none⟩ a rfl rfl sM ?_;refine cc.jO [] [dL gA c5,dL gD c9] (t.cs T) _ rfl (by rw[og];exact hz) rfl (t.cs (g8 T k a c)) wx ?_;refine cy.mk λcS g7 jD=>?_;refine bE.l3 aV rfl (by simp) (e:=3) rfl rfl rfl (g:=gD) (n:=D.length) (c:=nD) (aY:=c9) rfl (show c9.length=nD*1 by omega) (ad:=⟨cS,0,none⟩) (m:=1) (c':=1) rfl (dd:=[cQ k]) ⟨rfl,_,_,_,.inr ⟨_,.head _,rfl,rfl⟩,rfl,rfl⟩ rfl (by omega) [_,t.aO (g8 T k a c),dL gA c5] [] rfl ?_;refine bb.mk _ (c7 (i:=i) (by omega)) ?_;have cg:D.length+1=(D++[k]).length:=by simp
    exact⟨(i+1,⟨g8 T k a c,L,D++[k],c5,bQ c9 (D.length*1) [cQ k]⟩),⟨done eZ,by simp only;omega⟩,.sub (.cons _ (.refl _)) .refl,.cons .refl (.cons (nS gD nD cg) (mj)),.cons rfl (.nil)⟩
  ·refine dR.mk 8 rfl (by decide) ?_;have bL:=akx (iQ (M:=[t.aO T,dL gA c5,dL gD c9]) (.head _)) u9;unfold m8 at bL;rw[aJ]at bL;refine a9.whole _ bL ?_;rintro v I' M' -⟨rfl,rfl,rfl⟩;refine aM.mk (λaA=>?_) (λaA=>?_)
   ·have eZ:c.ao=0:=by have:=cm aA;omega
    refine cy.mk λcS g7 jD=>?_;refine bE.l3 aV rfl (by simp) (e:=3) rfl rfl rfl (g:=gA) (n:=L.length) (c:=nA) (aY:=c5) rfl (show c5.length=nA*1 by omega) (ad:=⟨cS,0,none⟩) (m:=1) (c':=1) rfl (dd:=[cQ k]) ⟨rfl,_,_,_,.inr ⟨_,.head _,rfl,rfl⟩,rfl,rfl⟩ rfl (by omega) [_,t.aO T] [dL gD c9] rfl ?_;refine bb.mk _ (c7 (i:=i) (by omega)) ?_;have cg:L.length+1=(L++[k]).length:=by simp
    exact⟨(i+1,⟨T,L++[k],D,bQ c5 (L.length*1) [cQ k],c9⟩),⟨stay eZ,by simp only;omega⟩,.sub (.cons _ (.refl _)) .refl,.cons .refl (.cons .refl (.cons .refl (.cons .refl (.cons .refl (.cons (nS gA nA cg) (gX)))))),.cons rfl (.nil)⟩
   ·have eZ:c.ao≠0:=by have:=cu aA;omega
    refine cq.draw aV rfl rfl rfl ?_;refine aw.mk _ (rC.hU (j:=4) (by decide)) ?_;refine bl.mk fb k k1 rfl ev ?_;refine aw.mk _ (hv _) ?_;refine bl.mk ⟨t.fX,(k-t.n0)*(t.w*4),none⟩ a rfl rfl sM ?_;refine cc.jO [] [dL gA c5,dL gD c9] (t.cs T) _ rfl (by rw[og];exact hz) rfl (t.cs (g8 T k a c)) wx ?_;refine cy.mk λcS g7 jD=>?_;refine bE.l3 aV rfl (by simp) (e:=3) rfl rfl rfl (g:=gD) (n:=D.length) (c:=nD) (aY:=c9) rfl (show c9.length=nD*1 by omega) (ad:=⟨cS,0,none⟩) (m:=1) (c':=1) rfl (dd:=[cQ k]) ⟨rfl,_,_,_,.inr ⟨_,.head _,rfl,rfl⟩,rfl,rfl⟩ rfl (by omega) [_,t.aO (g8 T k a c),dL gA c5] [] rfl ?_;refine bb.mk _ (c7 (i:=i) (by omega)) ?_;have cg:D.length+1=(D++[k]).length:=by simp
    exact⟨(i+1,⟨g8 T k a c,L,D++[k],c5,bQ c9 (D.length*1) [cQ k]⟩),⟨done eZ,by simp only;omega⟩,.sub (.cons _ (.refl _)) .refl,.cons .refl (.cons (nS gD nD cg) (mj)),.cons rfl (.nil)⟩
  ·refine dR.mk 9 rfl (by decide) ?_;have bL:=aky (iQ (M:=[t.aO T,dL gA c5,dL gD c9]) (.head _)) u9;unfold m8 at bL;rw[aJ]at bL;refine a9.whole _ bL ?_;rintro v I' M' -⟨rfl,rfl,rfl⟩;refine aM.mk (λaA=>?_) (λaA=>?_)
   ·have eZ:c.ao=0:=by have:=cm aA;omega
    refine cy.mk λcS g7 jD=>?_;refine bE.l3 aV rfl (by simp) (e:=3) rfl rfl rfl (g:=gA) (n:=L.length) (c:=nA) (aY:=c5) rfl (show c5.length=nA*1 by omega) (ad:=⟨cS,0,none⟩) (m:=1) (c':=1) rfl (dd:=[cQ k]) ⟨rfl,_,_,_,.inr ⟨_,.head _,rfl,rfl⟩,rfl,rfl⟩ rfl (by omega) [_,t.aO T] [dL gD c9] rfl ?_;refine bb.mk _ (c7 (i:=i) (by omega)) ?_;have cg:L.length+1=(L++[k]).length:=by simp
    exact⟨(i+1,⟨T,L++[k],D,bQ c5 (L.length*1) [cQ k],c9⟩),⟨stay eZ,by simp only;omega⟩,.sub (.cons _ (.refl _)) .refl,.cons .refl (.cons .refl (.cons .refl (.cons .refl (.cons .refl (.cons (nS gA nA cg) (gX)))))),.cons rfl (.nil)⟩
   ·have eZ:c.ao≠0:=by have:=cu aA;omega
    refine cq.draw aV rfl rfl rfl ?_;refine aw.mk _ (rC.hU (j:=4) (by decide)) ?_;refine bl.mk fb k k1 rfl ev ?_;refine aw.mk _ (hv _) ?_;refine bl.mk ⟨t.fX,(k-t.n0)*(t.w*4),none⟩ a rfl rfl sM ?_;refine cc.jO [] [dL gA c5,dL gD c9] (t.cs T) _ rfl (by rw[og];exact hz) rfl (t.cs (g8 T k a c)) wx ?_;refine cy.mk λcS g7 jD=>?_;refine bE.l3 aV rfl (by simp) (e:=3) rfl rfl rfl (g:=gD) (n:=D.length) (c:=nD) (aY:=c9) rfl (show c9.length=nD*1 by omega) (ad:=⟨cS,0,none⟩) (m:=1) (c':=1) rfl (dd:=[cQ k]) ⟨rfl,_,_,_,.inr ⟨_,.head _,rfl,rfl⟩,rfl,rfl⟩ rfl (by omega) [_,t.aO (g8 T k a c),dL gA c5] [] rfl ?_;refine bb.mk _ (c7 (i:=i) (by omega)) ?_;have cg:D.length+1=(D++[k]).length:=by simp
    exact⟨(i+1,⟨g8 T k a c,L,D++[k],c5,bQ c9 (D.length*1) [cQ k]⟩),⟨done eZ,by simp only;omega⟩,.sub (.cons _ (.refl _)) .refl,.cons .refl (.cons (nS gD nD cg) (mj)),.cons rfl (.nil)⟩
 ·have cE:¬ (i:Int)<(kg.length:Int):=cu e;obtain rfl:i=kg.length:=by omega
  have lh:(D++(L++kg.drop kg.length)).Perm (D0++fD):=dn.perm;have ev:∀ k∈fD,k∈L\/k∈kg.drop kg.length\/(T k a).ao≠0:=dn.kn;simp only[List.drop_length,eo]at lh ev;have Rn:=lh.length_eq;simp only[di]at Rn;have hM:iW (L.map cQ)=true:=by unfold iW;rw[hI];intro x ab;obtain⟨z,_,rfl⟩:=eh.1 ab;rfl
  have sO:cx I [t.aO T,dL gA c5,dL gD c9] ⟨gA,0,none⟩ (L.length*1) (L.map cQ):=by refine⟨rfl,c5.toArray,3,(0,0),.inr ⟨_,.tail _ (.head _),rfl,rfl⟩,?_,by rw[eW,jk]⟩;rw[jk];exact dn.wu
  obtain⟨ed,dP⟩:=akI (D:=D) (aY:=c9) dn.A5 (L:=L) (by show D.length+L.length<=c9.length;omega);have fin:((L.length:Nat)=0\/D.length=wv.length)->(∀ k∈fD,(T k a).ao=0->(eG t.P T k a).ao=0):=λaR k ae ay=>by
   rcases ev k ae with U | U | U
   ·rcases aR with aR | aR
    ·rw[nx aR]at U;cases U
    ·exact dn.un aR k U
   ·cases U
   ·exact absurd ay U
  refine c0.mk (λg=>?_) (λg=>?_)
  ·refine aM.mk (λa6=>?_) (λa6=>?_)
   ·have ZK:D.length=wv.length:=by have bN:(D.length:Int)=(wv.length:Int):=cm a6;omega
    refine bE.l3 aV rfl (by simp) (e:=3) rfl rfl rfl (g:=gD) (n:=D.length) (c:=nD) (aY:=c9) rfl (show c9.length=nD*1 by omega) (ad:=⟨gA,0,none⟩) (m:=L.length) (c':=nA) rfl (dd:=L.map cQ) sO hM (by omega) [t.aO T,dL gA c5] [] rfl ?_;exact⟨_,_,.refl,rfl,T,D++L,c5,_,dn.inv,dn.u7,fin (.inr ZK),lh,Im,ed.trans tO,dP,by rw[di],rfl⟩
   ·have ZK:D.length≠wv.length:=by have bN:¬ (D.length:Int)=(wv.length:Int):=cu a6;omega
    exact⟨⟨T,L,D,c5,c9⟩,⟨⟨dn.inv,dn.u7,lh,λk ae=>(ev k ae).imp id λx=>x.elim (λy=>(by cases y)) id,dn.sub,Im,dn.wu,tO,dn.A5⟩,by simp only;omega⟩,.refl,jj,.cons rfl (.nil)⟩
  ·have eD:L.length=0:=by have:decide ((L.length:Int)=0)=true:=g;have:=cm this;omega
   refine bE.l3 aV rfl (by simp) (e:=3) rfl rfl rfl (g:=gD) (n:=D.length) (c:=nD) (aY:=c9) rfl (show c9.length=nD*1 by omega) (ad:=⟨gA,0,none⟩) (m:=L.length) (c':=nA) rfl (dd:=L.map cQ) sO hM (by omega) [t.aO T,dL gA c5] [] rfl ?_;exact⟨_,_,.refl,rfl,T,D++L,c5,_,dn.inv,dn.u7,fin (.inl eD),lh,Im,ed.trans tO,dP,by rw[di],rfl⟩
structure ZL(I:a5)(t:eU)(hE:Nat->Nat->cP)(fD:List Nat):Prop where
 ok:t.ok I hE
 inv:kd t.P t.nn hE
 aG:∀ k,k<t.nn->x1 t.P t.nn k
 na:∀ k,x2 t.P k
 n0:t.n0<t.nn
 lo:∀ k∈fD,t.n0<=k/\k<t.nn
 all:∀ k,t.n0<=k->k<t.nn->k∈fD
 dS:∀ k,k<t.n0->∀ b,(hE k b).ce=bs t.P k b
structure ZM where
 p:Nat
 v:Int
 T:Nat->Nat->cP
 L:List Nat
 gA:Nat
 nA:Nat
 c5:List Value
 gD:Nat
 nD:Nat
 d:Nat
 c9:List Value
structure akV(t:eU)(hE:Nat->Nat->cP)(fD:List Nat)(low:Nat)(x:ZM):Prop where
 v:x.v=(x.p:Int)-1
 p:x.p<=t.s.size+1
 akW:low<=x.p
 inv:kd t.P t.nn x.T
 up:∀ k b,x.p<=b->(x.T k b).ce=bs t.P k b
 dS:∀ k,k<t.n0->∀ b,x.T k b=hE k b
 perm:x.L.Perm fD
 Fc:x.c5.length=x.nA
 wu:x.c5.take x.L.length=x.L.map cQ
 Il:x.c9.length=x.nD
 gl:fD.length<=x.nA
 dH:fD.length<=x.nD
 akX:x.nA<=1048576
 akY:x.nD<=1048576
def akZ{t:eU}{hE:Nat->Nat->cP}(h:ZL I t hE fD){gN nN:Nat}{cN:List Value}(cM:cN.length=nN)(ak0:cN.take fD.length=fD.map cQ)(c4:fD.length<=nN)(tP:nN<=1048576){low:Nat}(aiJ:low<=t.s.size) :
  Spec Tryz.prog 40 [ptr t.bt,.slice (some ⟨gN,0,none⟩) fD.length nN,.int .i64 low] I [t.aO hE,dL gN cN] λv I' M'=>I'=I /\
   ∃ (T:Nat->Nat->cP),kd t.P t.nn T/\(∀ k b,low<=b->(T k b).ce=bs t.P k b)/\(∀ k,k<t.n0->∀ b,T k b=hE k b)/\M'=[t.aO T]:=by
 refine bY [] aV Tryz.func40 rfl rfl rfl ?_;intro B ay;have cI:=h.ok.sz;refine a9.whole _ akG ?_;rintro v I' M' -⟨rfl,rfl,rfl⟩;refine qU.mk 0 fD.length rfl rfl (bF _) (by show 8*fD.length<=_;omega) (by omega) ?_;refine cy.mk λak1 atV atW=>?_;refine aw.mk _ (h.ok.hU (j:=0) (by decide)) ?_;refine ea.inv (ι:=ZM) (λx=>{ bK:=[(0,.val (ptr t.bt)),(1,.val (.slice (some ⟨x.gA,0,none⟩) x.L.length x.nA)),(2,.val (.int .i64 low)),(6,.ref 6 0),(7,.val (.slice (some ⟨x.gD,0,none⟩) x.d x.nD)),(8,.val (.int .i64 x.v))],cl:=[(6,Ik)],dz:=I',d':=[t.aO x.T,dL x.gA x.c5,dL x.gD x.c9] }) (λx=>akV t hE fD low x) (λx=>x.p) ?_ ?_
 ·refine⟨⟨t.s.size+1,t.s.size,hE,fD,gN,nN,cN,ak1,fD.length,0,rowOf [cQ 0] (fD.length*1)⟩,⟨by simp only;omega,b2 _,by simp only;omega,h.inv,λk b ag=>h.inv.out k b λe=>by have aa:b<=t.s.size:=e.2;simp only at ag;omega,λ_ _ _=>rfl,.refl _,cM,ak0,by simp[rowOf],c4,b2 _,tP,by simp only;omega⟩,.perm ?_ .refl,e7,.cons rfl (.nil)⟩;exact(List.Perm.swap _ _ _).trans (.cons _ (.swap _ _ _))
 rintro⟨p,v,T,L,gA,nA,c5,gD,nD,d,c9⟩bX;have aj:=bX.v;have aK:=bX.p;have ak2:=bX.akW;have Ro:=bX.akX;have Rp:=bX.akY;have ZN:=bX.gl;have ZO:=bX.dH;have Rn:=bX.perm.length_eq;simp only at aj aK ak2 Ro Rp ZN ZO Rn;refine aM.mk (λe=>?_) (λe=>?_)
 ·have cE:(low:Int)<=v:=cm e;obtain⟨a,rfl⟩:∃ a,p=a+1:=⟨p-1,by omega⟩;obtain rfl:v=(a:Int):=by omega
  have o9:Mc I' t T L a:=⟨h.ok.u7 λk ae b=>bX.dS k ae b,bX.inv,h.aG,h.na,h.n0,λk ae=>h.lo k (bX.perm.mem_iff.1 ae),by omega⟩;have bL:=akO (D0:=[]) o9 (gA:=gA) (gD:=gD) (nA:=nA) (nD:=nD) (cA0:=c5) (cD0:=c9) bX.Fc bX.Il bX.wu (by simp) (by omega) (by simp;omega) Ro Rp;refine cq.draw aV rfl rfl rfl ?_;refine jI.mk 0 0 rfl rfl (b2 _) (bF _) ?_;refine hx.aj2 _ bL ?_;rintro v eC dU -⟨rfl,n3,lf,ak3,ak4,s1,s2,eK,wy,ak5,ak6,ak7,rfl,rfl⟩;rw[nz]at wy;have ZP:=wy.length_eq;have hold:∀ k,k<t.n0->∀ b,n3 k b=hE k b:=λk ae b=>by rw[s2 k b λx=>by have:=(o9.lo k x.1).1;omega];exact bX.dS k ae b
  have CV:∀ k b,a<b->(n3 k b).ce=bs t.P k b:=λk b ag=>by rw[s2 k b λx=>by omega];exact bX.up k b ag
  have gq:∀ k,(n3 k a).ce=bs t.P k a:=ajG s1 h.aG CV (λk ae bk=>by
   by_cases e3:k<t.n0;·refine ajH s1 ae (by show a<=t.s.size;omega) (h.aG k ae) ?_ bk;rw[hold k e3 a];exact h.dS k e3 a
   ·exact eK k (bX.perm.mem_iff.2 (h.all k (by omega) ae)) bk) (by show a<=t.s.size;omega)
  refine bb.mk ((a:Int)-1) (ei rfl (by omega)) ?_;refine⟨⟨a,(a:Int)-1,n3,lf,gD,nD,ak4,gA,nA,L.length,ak3⟩,⟨⟨rfl,by simp only;omega,by simp only;omega,s1,λk b ag=>?_,hold,wy.trans bX.perm,ak6,ak7,ak5,ZO,ZN,Rp,Ro⟩,by simp only;omega⟩,.perm (.cons _ (.swap _ _ _)) .refl,e7,.cons rfl (.nil)⟩;by_cases e:b=a;·rw[e];exact gq k
  ·exact CV k b (by simp only at ag;omega)
 ·have a0:¬ (low:Int)<=v:=cu e;refine⟨_,_,.sub (M1:=[t.aO T]) (.cons_cons _ (.cons _ (.cons _ .slnil))) .refl,rfl,T,bX.inv,λk b ag=>bX.up k b (by simp only;omega),bX.dS,rfl⟩
def lF.lH{os:bf}{f:bC}{g:Nat}(h:lF os au f g)(a2:∀ x∈os.aO 215,x∈M):cx I M ((⟨g,0,none⟩:Addr).add (au.length*5)) 5 f.cells:=by rw[dY _ rfl,dp];exact h.rd a2
def lF.n{os:bf}{f:bC}{g:Nat}(h:lF os au f g):os.n=au.length+1:=by have:=h.ok.len;rw[fu _ 5 bC.dc]at this;simp at this;omega
def Rq(m:cz)(gp:m.ns.ok I)(cV:iw m.aZ){os:bf}{f:bC}{g:Nat}(Rr:du m aU N os∈M)(jt:∀ x∈os.aO 215,x∈M)(ar:lF os au f g)(gQ:qy m.aZ f)(hA:au.length<=1099511627776) :
  Spec Tryz.prog 121 [ptr m.ez] I M λv I' M'=>v=.tuple #[.int .i64 (bA m.aZ f).1,.int .i64 (bA m.aZ f).2]/\I'=I/\M'=M:=by
 refine bY [] aV Tryz.func121 rfl rfl rfl ?_;intro B ay;have zz:=ar.n;have n7:m.aZ.ns.length=m.ns.n:=by simp[cz.aZ,gp.n]
 have bV:f.aG<m.ns.n:=by rw[<-n7];exact gQ.aG
 have ix:=gQ.av;have uN:=gQ.pl;have cI:=cV.size;obtain⟨x,zM,u6,gw,kf,ad,b3,br⟩:=Fb gp bV;have ir:x.bd.length=x.n:=by have:=kf.bj.len;simpa using this
 have Me:=gQ.many;have hM:=(bm.rm cV gQ.aG).one;have g0:=gQ.k;rw[gw]at Me hM g0;have ask:∀ j (an:j<x.bd.length),∃ iB,x.a=some iB/\∀ M,cx I M (iB.add (j*1)) 1 [Value.int .i64 ((x.bd.getD j 0:Nat):Int)]:=λj an=>by
  obtain⟨iB,U,aa⟩:=kf.bj.one (f:=λ(k:Nat)=>Value.int .i64 (k:Int)) (j:=j) (by omega) an;refine⟨iB,U,λM=>?_⟩;have e:x.bd.getD j 0=x.bd[j]:=by simp[dB,an]
  rw[e];exact aa M
 have lI:os.a.map (λg=>(⟨g,0,none⟩:Addr))=some ⟨g,0,none⟩:=by rw[ar.a];rfl
 refine cq.draw aV rfl rfl rfl ?_;refine aw.mk _ (fv (k:=6) Rr (by decide)) ?_;refine aw.mk _ (fv (k:=6) Rr (by decide)) ?_;refine bb.mk (au.length:Int) (ei (by omega) (by omega)) ?_;refine bl.mk ⟨g,0,none⟩ au.length lI rfl (by omega) ?_;refine cq.draw aV rfl rfl rfl ?_;refine aw.mk _ (fv (k:=4) Rr (by decide)) ?_;refine aw.mk _ ((ar.lH jt).part (k:=0) (m:=1) (by decide)) ?_;refine bl.mk ad f.aG b3 rfl bV ?_;refine aw.mk _ (sL br (off:=0) (n:=1) (by decide) _) ?_;refine aM.mk (λe=>?_) (λcU=>?_)
 ·have a':x.d.k=4:=cm e;have gf:bA m.aZ f=(x.bd.getD f.bu 0,f.av):=by simp only[bA,gw];rw[show decide (x.pn.d.k=4)=true from e];rfl
  have Io:=Me (.inl a');obtain⟨iB,U,aa⟩:=ask f.bu Io;rw[gf];refine cq.draw aV rfl rfl rfl ?_;refine aw.mk _ ((br _).part (k:=9) (m:=1) (by decide)) ?_;refine aw.mk _ ((ar.lH jt).part (k:=2) (m:=1) (by decide)) ?_;refine bl.mk iB f.bu U rfl (by rw[<-ir];exact Io) ?_;refine aw.mk _ (aa _) ?_;refine aw.mk _ ((ar.lH jt).part (k:=3) (m:=1) (by decide)) ?_;refine bb.mk (f.av:Int) (ei rfl (by omega)) ?_;exact⟨_,_,.refl,rfl,rfl,rfl⟩
 refine aM.mk (λe=>?_) (λe8=>?_)
 ·have a':x.d.k=5:=cm e;have gf:bA m.aZ f=(x.bd.getD f.bu 0,f.pl):=by simp only[bA,gw];rw[show decide (x.pn.d.k=4)=false from cU,show decide (x.pn.d.k=5)=true from e];rfl
  have Io:=Me (.inr a');obtain⟨iB,U,aa⟩:=ask f.bu Io;rw[gf];refine cq.draw aV rfl rfl rfl ?_;refine aw.mk _ ((br _).part (k:=9) (m:=1) (by decide)) ?_;refine aw.mk _ ((ar.lH jt).part (k:=2) (m:=1) (by decide)) ?_;refine bl.mk iB f.bu U rfl (by rw[<-ir];exact Io) ?_;refine aw.mk _ (aa _) ?_;refine aw.mk _ ((ar.lH jt).part (k:=1) (m:=1) (by decide)) ?_;refine bb.mk (f.pl:Int) (ei rfl (by omega)) ?_;exact⟨_,_,.refl,rfl,rfl,rfl⟩
 have AW:¬ x.d.k=4:=cu cU;have Mf:¬ x.d.k=5:=cu e8;have gf:bA m.aZ f=(x.bd.getD 0 0,f.av):=by simp only[bA,gw];rw[show decide (x.pn.d.k=4)=false from cU,show decide (x.pn.d.k=5)=false from e8];rfl
 have Ip:x.bd.length=1:=hM (by have:3<=x.d.k:=g0;show x.d.k=3\/6<=x.d.k;omega);obtain⟨iB,U,aa⟩:=ask 0 (by omega);rw[gf];refine cq.draw aV rfl rfl rfl ?_;refine aw.mk _ ((br _).part (k:=9) (m:=1) (by decide)) ?_;refine bl.mk iB 0 U rfl (by omega) ?_;refine aw.mk _ (aa _) ?_;refine aw.mk _ ((ar.lH jt).part (k:=3) (m:=1) (by decide)) ?_;refine bb.mk (f.av:Int) (ei rfl (by omega)) ?_;exact⟨_,_,.refl,rfl,rfl,rfl⟩
def ke.rd{m:cz}{R:List fL}(h:ke m R kn)(hw:m.w<=9223372036854775807){k:Nat}(ae:k<R.length){b:Nat}(ag:R[k].b=some b){p:Nat}(aK:p<m.w)(a2:∀ x∈cZ m R,x∈M):cx I M ⟨b,p*3,Option.none⟩ 3 (kn k p).cells:=by have aE:=h.len _ (dr ae);have bw:=fL.Zt aE hw ag;have:=bf.ai (I:=I) (M:=M) (e:=141) bo.dc (by decide) bw (λx ab=>a2 x (by rw[Rb m ae];exact dV.2 (.inr (dV.2 (.inl ab))))) ag (i:=p) (by omega);rwa [h.ai k ae p (by omega)]at this
def ke.put{m:cz}{R:List fL}(h:ke m R kn)(hw:m.w<=9223372036854775807){k:Nat}(ae:k<R.length){b:Nat}(ag:R[k].b=some b){p:Nat}(aK:p<m.w)(j:Nat)(an:j+vs.length<=3)(U:iW vs=true)(c':bo)(aJ:bQ (kn k p).cells j vs=c'.cells)
 (bi post:List aF) (a2:M=bi++(cZ m R++post)) (aD:off=p*3+j) {K:List aF->Prop} (fS:∀ j5:List fL,ke m j5 (hn kn k p c')->j5.length=R.length->j5.map (fL.val m.w)=R.map (fL.val m.w)->K (bi++(cZ m j5++post))):cc M ⟨b,off,Option.none⟩ vs K:=by
 have aE:=h.len _ (dr ae);have bw:=fL.Zt aE hw ag;refine bf.put (M:=M) bo.cells 3 bo.dc bw (i:=p) (by omega) j an U c' (by rw[h.ai k ae p (by omega)];exact aJ) (bi++cZ m (R.take k)) (cZ m (R.drop (k+1))++post) (e:=141) (by rw[a2,Rb m ae];simp only[gz];rfl) ag aD ?_;intro os' aC aA bx cU;have tl:=fS (R.set k ⟨some b,R[k].cs.set p c'⟩) ⟨λr al=>?_,λr al az=>?_,λi hi q aL=>?_⟩ (by rw[qz]) ?_
 ·have e8:os'.aO 141=(fL.aO m.w ⟨some b,R[k].cs.set p c'⟩):=by
   obtain⟨po,Iq,ak8,ak9⟩:=os';have sF:po=some b:=aA.trans ag;subst sF;have ala:Iq=m.w:=bx;have alb:ak8=m.w:=by unfold bf.val at aC;injection aC
   subst ala;subst alb;obtain⟨oZ,v',C6,Mg⟩:=cU.cap b rfl;simp only at oZ Mg;have:ak9=(R[k].cs.set p c').flatMap bo.cells:=by rw[<-Mg];exact(gM (by omega)).symm
   subst this;rfl
  rw[Zs m ae,<-e8]at tl;simpa only[gz]using tl
 ·rcases LU al with al | rfl
  ·exact h.len r al
  ·show(R[k].cs.set p c').length=m.w;rw[qz];exact aE
 ·rcases LU al with al | rfl
  ·exact h.none r al az
  ·cases az
 ·have dx:i<R.length:=by simpa using hi
  by_cases e:k=i
  ·subst e;simp only[A2]at aL |-;rw[qz]at aL;by_cases gg:p=q
   ·subst gg;rw[A2,nM]
   ·rw[H9 gg,uZ (λm5=>gg m5.2.symm)];exact h.ai k ae q aL
  ·simp only[H9 e]at aL |-;rw[uZ (λm5=>e m5.1.symm)];exact h.ai i dx q aL
 ·rw[G3];have:(R.map (fL.val m.w))[k]?=some (fL.val m.w ⟨some b,R[k].cs.set p c'⟩):=by rw[yL,g5 ae];simp[fL.val,ag]
  apply Ci;intro i;rw[qi];split;·rename_i e;subst e;rw[cF (by rw[eW];exact ae),this]
  ·rfl
end Go.V
