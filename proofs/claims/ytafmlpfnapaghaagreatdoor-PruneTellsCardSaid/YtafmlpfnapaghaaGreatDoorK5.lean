/- Part 5 of what the proofs of this seat share: the executor, data in memory, walks.
-/
import Derived.Test.YtafmlpfnapaghaaGreatDoorK4
import Derived.Test.YtafmlpfnapaghaaGreatDoorK2
import Derived.Laws.IdiomStrings
import Derived.Test.YtafmlpfnapaghaaGreatDoorK3
set_option linter.all false
set_option maxHeartbeats 8000000
namespace Go.V
open Go
def iK:=@List.drop_of_length_le
def lV:=@List.mem_cons_of_mem
def r4:=@List.append_of_mem
def uw:=@List.filter_append
def xO:=@Nat.ble_eq_true_of_le
def Bg:=@BitVec.getLsbD_or
def zf:=@List.range_succ
def Gx:=@List.drop_succ_cons
def JX:=@List.getElem?_of_mem
def JY:=@Int.natCast_nonneg
def JZ:=@BitVec.toNat_ofNat
def WE:=@Nat.testBit_eq_decide_div_mod_eq
def J0:=@List.length_range
def Dx:=@Bool.or_true
def On:=@List.length_singleton
def WG:=@List.drop_append_of_le_length
def Bh:=@Nat.add_eq
def Oo:=@List.contains_cons
def Oq:=@Nat.mod_eq_of_lt
def Gy:=@Nat.mul_eq
def Gz:=@Nat.sub_eq
variable{y s eF:Operand}{t src dst f c' g off sz T:Nat}{bh:bx}{pl:List (ByteArray×Int)}{F:List aM}{dr:Option dW}{aO J1:dW}{ad:Addr}{P:Program}{E:Env}{other O:Prop}{cp:List Nat}{args xs cs vs cur:List Value}{I:aT}{M M' M0:List aD}{K:Value->Prop}{α R:Type}{b:Bool}{a:Int}{r:Option Nat}{eQ:IntKind}{os:aY}{w:Value}{d:TypeDesc}
structure s'(x:aM)(k:du):Prop where
 z:x.z=true->k.f=true
 s:x.s=true->k.w≠.zero
def s'.none(k:du):s' bw k:=⟨λh=>(by cases h),λh=>(by cases h)⟩
def s'.lj{x:aM}{k:du}(h:s' x k)(ar:x.lj=true):k.f=true\/k.w≠.zero:=by simp only[aM.lj,j0]at ar;exact ar.imp h.z h.s
inductive p3:List aM->List du->Prop
 |nil:p3 [] []| cons {x k l m} (h:s' x k) (t:p3 l m):p3 (x::l) (k::m)
def p3.getD:∀ {l:List aM} {m:List du},p3 l m->∀ i,s' (l.getD i bw) (m.getD i p2)
 |_,_,.nil,i=>by simpa using s'.none p2
 |_,_,.cons h t,0=>h| _,_,.cons h t,i+1=>by simpa using t.getD i
def p3.len:∀ {l:List aM} {m:List du},p3 l m->l.length=m.length
 |_,_,.nil=>rfl| _,_,.cons h t=>by simp[t.len]
def p3.of:∀ {l:List aM} {m:List du},l.length=m.length->(∀ i,i<l.length->s' (l.getD i bw) (m.getD i p2))->p3 l m
 |[],[],_,_=>.nil| x::l,k::m,ay,h=>.cons (by simpa using h 0 (by simp)) (p3.of (by simpa using ay) λi hi=>by simpa using h (i+1) (by simpa using hi))
def p3.head{l:List aM}{m:List du}(h:p3 l m):s' (l.headD bw) (m.headD p2):=by
 cases h with
 |nil=>exact s'.none _| cons h t=>exact h
def p3.map{α:Type}{f:α->aM}{g:α->du}:∀ {l:List α},(∀ x∈l,s' (f x) (g x))->p3 (l.map f) (l.map g)
 |[],_=>.nil| x::l,h=>.cons (h x (.head _)) (p3.map λy aA=>h y (.tail _ aA))
def Ot{x y:cY}(h:x≠.zero\/y≠.zero):x.or y≠.zero:=by
 intro e;have ae:x=.zero:=cY.Ok (by rw[<-e];exact cY.Wz x y) (cY.zero_sub _);have aA:y=.zero:=cY.Ok (by rw[<-e,cY.or_comm];exact cY.Wz y x) (cY.zero_sub _);rcases h with h | h
 ·exact h ae
 ·exact h aA
structure Ou(p:aM×Bool)(k:du):Prop where
 z:p.1.z=true->k.f=true
 s:p.1.s=true->p.2=true->k.w≠.zero
 c:p.2=true->k.f=true\/k.w≠.zero
def Ou.step{p:aM×Bool}{k:du}{x:aM}{y:du}(h:Ou p k)(ae:s' x y):Ou (kv p x) (k.seq y):=by
 obtain⟨⟨aq3,ps,aq4⟩,pc⟩:=p;obtain⟨U,ab,ak⟩:=h;obtain⟨aq5,xs,aq6⟩:=x;have ar:=ae.lj;obtain⟨a6,bb⟩:=ae;obtain⟨aq7,qW⟩:=k;obtain⟨aq8,aq9⟩:=y;simp only[kv,aM.lj]at *;cases qW with
 |false=>
  simp only[du.seq,bz];refine⟨?_,?_,?_⟩;·intro h;simp only[b']at h;exact U h.1
  ·intro _ h;simp only[b']at h;exact(ak h.1).resolve_left (by simp)
  ·intro h;simp only[b']at h;exact .inr ((ak h.1).resolve_left (by simp))
 |true=>
  simp only[du.seq,bt];refine⟨?_,?_,?_⟩;·intro h;simp only[b']at h;exact a6 h.2
  ·intro h aG;simp only[j0,b']at h aG;rcases h with h | h
   ·exact Ot (.inl (ab h aG.1))
   ·exact Ot (.inr (bb h))
  ·intro h;simp only[b']at h;rcases ar h.2 with e | e
   ·exact .inl e
   ·exact .inr (Ot (.inr e))
structure qZ(t:bx)(k:Int)(bh:bx):Prop where
 a1:bh.aa.map aH.a1=mz t.aa k
 root:bh.root=(bh.aa.length:Int)-1
def WH{t:bx}(ag:right t=true){j:Nat}(aj:j<t.aa.length)(h:qZ t j bh):right bh=true:=by
 have U:=s8.2 (Wv (s8.1 ag) aj);have ay:=congrArg List.length h.a1;rw[cT]at ay;have ab:right bh.a1=right (uu (mz t.aa j)):=by unfold right bx.a1 uu;simp only[h.a1,h.root,ay]
 rw[zc]at ab;rw[ab,U]
def Ov{t:bx}(ag:right t=true){j:Nat}(aj:j<t.aa.length)(h:qZ t j bh):bh.aa.length=g' t.aa j:=by have ay:=congrArg List.length h.a1;rw[cT,JT (s8.1 ag) aj,cT,Wt (s8.1 ag) j aj]at ay;exact ay
def WI{t:bx}(ag:right t=true){j:Nat}(aj:j<t.aa.length)(h:qZ t j bh):∀ d∈bh.aa,∃ d0∈t.aa,∃ ks:List Int,d.a1=d0.m6 ks/\ks.length=d0.kids.length:=λd al=>by have U:d.a1∈bh.aa.map aH.a1:=dB.2 ⟨d,al,rfl⟩;rw[h.a1,JT (s8.1 ag) aj]at U;obtain⟨b,ah,e⟩:=dB.1 U;have hm:=(v5 (s8.1 ag) j aj b ah).1;refine⟨t.aa[b.toNat]'(by omega),bJ _,(t.aa[b.toNat]'(by omega)).kids.map (r2 (iI t.aa j)),?_,cT _⟩;rw[<-e,r3,jO (by omega)]
def zg:List (aM×List Nat)->List Nat
 |[]=>[]| x::xs=>x.2++bif x.1.z then zg xs else []
def jR(pl:List (ByteArray×Int))(d:aH)(xs:List (aM×List Nat)):List Nat:=
 bif decide (d.k=3)then [((dP d.t pl).getD 0).toNat]else
 bif decide (d.k=4)then zg xs else
 bif decide (d.k=6)&&decide (d.hi=0)then []else xs.flatMap (·.2)
def p4(pl:List (ByteArray×Int))(F:List aM)(d:aH)(xs:List (aM×List Nat)):aM×List Nat:=
 (fE d (xs.map (·.1)++bif decide (d.k=3)then [F.getD ((dP d.t pl).getD 0).toNat bw]else []),jR pl d xs)
def dU(pl:List (ByteArray×Int))(F:List aM)(aa:List aH)(j:Int):aM×List Nat:=oU (bw,[]) (λd g=>p4 pl F d (d.kids.map g)) aa j
def ahy(pl:List (ByteArray×Int))(F:List aM)(d:aH)(ks:List Int):p4 pl F (d.m6 ks)=p4 pl F d:=rfl
def GA{t:bx}(ag:right t=true){j:Nat}(aj:j<t.aa.length):dU pl F t.aa j=p4 pl F t.aa[j] (t.aa[j].kids.map (dU pl F t.aa)):=
 AI (λd g dh h=>by rw[rC h]) ag aj
def WJ(pl:List (ByteArray×Int))(F:List aM)(aa:List aH)(j:Int):dU pl F (aa.map aH.a1) j=dU pl F aa j:=by unfold dU oU;rw[JP (f:=λd g=>p4 pl F d (d.kids.map g)) (g:=λd g=>p4 pl F d (d.kids.map g)) (λd q=>rfl)]
def ahz{t:bx}(ag:right t=true){j:Nat}(aj:j<t.aa.length)(h:qZ t j bh):dU pl F bh.aa bh.root=dU pl F t.aa j:=by have ay:=congrArg List.length h.a1;rw[cT]at ay;rw[<-WJ,h.a1,h.root,ay];exact Ww (s8.1 ag) (F:=p4 pl F) (λd ks=>ahy pl F d ks) aj
def WK(acc:List (aM×List Nat))(i:Nat):(acc.getD i (bw,[])).1=(acc.map (·.1)).getD i bw:=by
 simp only[bV,sr];cases acc[i]?<;>rfl
def WL(pl:List (ByteArray×Int))(F:List aM):∀ (ds:List aH) (acc:List (aM×List Nat)),(pM (bw,[]) (λd g=>p4 pl F d (d.kids.map g)) ds acc).map (·.1)=dq pl F ds (acc.map (·.1))
 |[],acc=>rfl
 |d::ds,acc=>by
  have aF:(p4 pl F d (d.kids.map λk=>acc.getD k.toNat (bw,[]))).1=fE d (nD pl F (acc.map (·.1)) d):=by unfold p4 nD;simp only[sS,Function.comp_def,WK]
  have U:=WL pl F ds (acc++[p4 pl F d (d.kids.map λk=>acc.getD k.toNat (bw,[]))]);rw[eL,cZ,jj,aF]at U;rw[pM,U,dq]
def J2(pl:List (ByteArray×Int))(F:List aM)(aa:List aH)(j:Int):(dU pl F aa j).1=(dq pl F aa []).getD j.toNat bw:=by have h:=WL pl F aa [];unfold dU oU;rw[WK,h];rfl
abbrev dd:=BitVec 64
def kW(k:Nat):dd:=1#64 <<< k
def J3{k i:Nat}(hi:i<64):(kW k).getLsbD i=decide (i=k):=by
 unfold kW;rw[BitVec.getLsbD_shiftLeft];simp only[hi,A6,kj];by_cases h:i<k
 ·have bB:¬ i=k:=by omega
  simp[h,bB]
 ·simp only[h,decide_false,EG,kj];by_cases e:i=k
  ·subst e;simp
  ·rw[dk e];have ab:0<i-k:=by omega
   rw[BitVec.getLsbD_one];simp;omega
def ahA(l:List Nat):∀ (w:dd) {i:Nat},i<64->(l.foldl (λw k=>w ||| kW k) w).getLsbD i=(w.getLsbD i||l.contains i):=by
 induction l with
 |nil=>intro w i hi;simp| cons k l a8=>intro w i hi;rw[qm,a8 _ hi,Bg,J3 hi,Oo,Bool.or_assoc];rfl
def mA(m:List dd):Nat->Nat->dd->dd
 |_,0,w=>w| k,f+1,w=>mA m (k+1) f (bif w.getLsbD k then w ||| m.getD k 0 else w)
def q0(m:List dd):List dd:=(List.range 64).map λi=>mA m 0 64 (m.getD i 0)
inductive p5(m:List dd):Nat->Nat->Prop
 |one{i k}(af:k<64)(h:(m.getD i 0).getLsbD k=true):p5 m i k| step {i j k} (h:(m.getD i 0).getLsbD j=true) (aj:j<64) (t:p5 m j k):p5 m i k
def p5.trans{m:List dd}{i j k:Nat}(h:p5 m i j)(aG:p5 m j k):p5 m i k:=by
 induction h with
 |one af h=>exact .step h af aG| step h aj t a8=>exact .step h aj (a8 aG)
def jm(x y:dd):Prop:=∀ i,i<64->x.getLsbD i=true->y.getLsbD i=true
def jm.refl(x:dd):jm x x:=λ_ _ h=>h
def jm.trans{x y z:dd}(h:jm x y)(aG:jm y z):jm x z:=λi hi ae=>aG i hi (h i hi ae)
def jm.or(x y:dd):jm x (x ||| y):=λi hi h=>by rw[Bg,h];rfl
def jm.or'(x y:dd):jm y (x ||| y):=λi hi h=>by rw[Bg,h,Dx]
def jm.WB{x y:dd}(h:jm x y)(aG:jm y x):x=y:=ND λi hi=>by
 have U:=h i hi;have ab:=aG i hi;cases ae:x.getLsbD i<;>cases aA:y.getLsbD i<;>simp_all
def jm.and{x y:dd}(h:jm x y):x &&& y=x:=ND λi hi=>by
 have U:=h i hi;rw[NG];cases ae:x.getLsbD i<;>simp_all
def GB(m:List dd):∀ (f k:Nat) (w:dd),jm w (mA m k f w)
 |0,k,w=>jm.refl w
 |f+1,k,w=>by
  rw[mA];cases w.getLsbD k with
  |true=>exact(jm.or _ _).trans (GB m f (k+1) _)| false=>exact GB m f (k+1) _
def Ow{m:List dd}{P:Nat->Prop}(hm:∀ j,P j->∀ x,x<64->(m.getD j 0).getLsbD x=true->P x):∀ (f k:Nat) (w:dd),k+f<=64->(∀ x,x<64->w.getLsbD x=true->P x)->∀ x,x<64->(mA m k f w).getLsbD x=true->P x
 |0,k,w,_,hw=>hw
 |f+1,k,w,af,hw=>by
  rw[mA];cases ah:w.getLsbD k with
  |true=>
   refine Ow hm f (k+1) _ (by omega) λx ae h=>?_;rw[bt,Bg,j0]at h;rcases h with h | h;·exact hw x ae h
   ·exact hm k (hw k (by omega) ah) x ae h
  |false=>exact Ow hm f (k+1) _ (by omega) hw
def Ox{m:List dd}:∀ (f k:Nat) {w:dd},mA m k f w=w->∀ j,k<=j->j<k+f->w.getLsbD j=true->jm (m.getD j 0) w
 |0,k,w,_,j,U,ab,_=>by omega
 |f+1,k,w,h,j,U,ab,aj=>by
  rw[mA]at h;cases ah:w.getLsbD k with
  |true=>
   rw[ah,bt]at h;have e:w ||| m.getD k 0=w:=by refine jm.WB ?_ (jm.or _ _);have:=GB m f (k+1) (w ||| m.getD k 0);rwa [h]at this
   by_cases Oy:j=k;·subst Oy;have:=jm.or' w (m.getD j 0);rwa [e]at this
   ·rw[e]at h;exact Ox f (k+1) h j (by omega) (by omega) aj
  |false=>
   rw[ah,bz]at h;by_cases Oy:j=k;·subst Oy;rw[ah]at aj;cases aj
   ·exact Ox f (k+1) h j (by omega) (by omega) aj
def WM(m:List dd):(q0 m).length=64:=by simp[q0]
def J4(m:List dd){i:Nat}(h:i<64):(q0 m).getD i 0=mA m 0 64 (m.getD i 0):=by simp[q0,bV,h]
structure zh(kX m:List dd):Prop where
 len:m.length=64
 le:∀ i,i<64->jm (kX.getD i 0) (m.getD i 0)
 ok:∀ i,i<64->∀ k,k<64->(m.getD i 0).getLsbD k=true->p5 kX i k
def zh.start{kX:List dd}(h:kX.length=64):zh kX kX:=⟨h,λi _=>jm.refl _,λi _ k af ah=>.one af ah⟩
def zh.next{kX m:List dd}(h:zh kX m):zh kX (q0 m):=by
 refine⟨WM m,λi hi=>?_,λi hi k af ah=>?_⟩
 ·rw[J4 m hi];exact(h.le i hi).trans (GB m 64 0 _)
 ·rw[J4 m hi]at ah;refine Ow (P:=λx=>x<64/\p5 kX i x) (λj aj x ae ah=>⟨ae,aj.2.trans (h.ok j aj.1 x ae ah)⟩) 64 0 _ (b2 _) (λx ae ah=>⟨ae,h.ok i hi x ae ah⟩) k af ah |>.2
def zh.done{kX m:List dd}(h:zh kX m)(au:q0 m=m){i k:Nat}(hi:i<64)(af:k<64):(m.getD i 0).getLsbD k=true ↔ p5 kX i k:=by
 refine⟨h.ok i hi k af,λaC=>?_⟩;have cv:∀ i,i<64->∀ j,j<64->(m.getD i 0).getLsbD j=true->jm (m.getD j 0) (m.getD i 0):=λi hi j aj ah=>by have:=J4 m hi;rw[au]at this;exact Ox 64 0 this.symm j (bQ _) (by omega) ah
 revert hi
 induction aC with
 |one kV ah=>exact λhi=>h.le _ hi _ kV ah
 |step ah aj t a8=>exact λhi=>cv _ hi _ aj (h.le _ hi _ aj ah) _ af (a8 af aj)
def zi(m:List dd):Nat:=(m.map Gu).sum
def WN:∀ {m n:List dd},m.length=n.length->(∀ i,i<m.length->jm (m.getD i 0) (n.getD i 0))->zi n<=zi m/\(zi m<=zi n->m=n)
 |[],[],_,_=>⟨b2 _,λ_=>rfl⟩| [],_::_,h,_=>by simp at h
 |_::_,[],h,_=>by simp at h
 |a::m,b::n,h,ar=>by
  have av:jm a b:=by simpa using ar 0 (by simp)
  obtain⟨U,ab⟩:=ahn av.and;obtain⟨t1,t2⟩:=WN (m:=m) (n:=n) (by simpa using h) λi hi=>by simpa using ar (i+1) (by simpa using hi)
  simp only[zi,cZ,n4]at t1 t2 |-;refine⟨by omega,λhle=>?_⟩;rw[ab (by omega),t2 (by omega)]
def ahB{m:List dd}(ay:m.length=64)(h:q0 m≠m):zi (q0 m)<zi m:=by
 have ar:=WN (m:=m) (n:=q0 m) (by rw[ay,WM]) λi hi=>by rw[J4 m (by omega)];exact GB m 64 0 _
 refine Nat.lt_of_le_of_ne ar.1 λe=>h (ar.2 (by omega)).symm
def Oz(m:List dd):dd:=(List.range 64).foldl (λw i=>w ||| ((m.getD i 0) &&& kW i)) 0
def WO(m:List dd):∀ (l:List Nat) (w:dd) {i:Nat},i<64->(∀ k∈l,k<64)->(l.foldl (λw i=>w ||| ((m.getD i 0) &&& kW i)) w).getLsbD i=(w.getLsbD i||(l.contains i&&(m.getD i 0).getLsbD i))
 |[],w,i,hi,_=>by simp
 |k::l,w,i,hi,ay=>by
  rw[qm,WO m l _ hi λk af=>ay k (.tail _ af),Bg,NG,J3 hi,Oo];by_cases e:i=k
  ·subst e;simp;cases w.getLsbD i<;>cases(m.getD i 0).getLsbD i<;>simp
  ·have c0:(i == k)=false:=by simpa using e
   rw[dk e,c0];simp
def ahC(m:List dd){i:Nat}(hi:i<64):(Oz m).getLsbD i=(m.getD i 0).getLsbD i:=by
 unfold Oz;rw[WO m _ _ hi λk af=>kf.1 af];have:(List.range 64).contains i=true:=by simpa using hi
 rw[this];simp
def bitsOf(w:dd)(n:Nat):List Nat:=(List.range n).filter λi=>w.getLsbD i
def WQ(w:dd)(n:Nat):bitsOf w (n+1)=bitsOf w n++(bif w.getLsbD n then [n]else []):=by
 unfold bitsOf;rw[zf,uw];cases h:w.getLsbD n<;>simp[h]
def ahD(w:dd)(n:Nat):(bitsOf w n).length<=n:=by unfold bitsOf;have:=to (λi=>w.getLsbD i) (List.range n);simpa using this
section
variable{X:cO}{o:Oper}{F:Fr}{C:c8}{I:aT}{M:List aD}{K:fZ}
def bk.Dy(aR:cX X.P X.E){x:Operand}{e:Nat}(aP:o.op=.convert src dst x)(al:∀ d,o.dst=some d->d<X.n)
 {dr:dW} (aq:X.E src=some dr) (eo:dr.bH=.slice e) (he:X.E e=some aO) (jI:aO.bH=.int .u8) (qG:X.E dst=some J1) (e0:J1.bH=.string)
 {n c:Nat} {l:List UInt8} (ae:bY F x=.val (.slice (some ad) n c)) (az:l.length=n) (a3:bq I M ad n (l.map λb=>.int .u8 b.toNat))
  (h:K (put o.dst (.val (.string ⟨l.toArray⟩)) F) C I M):bk X o F C I M K:=by
 subst az;refine⟨λa w Q ⟨β,a5⟩=>?_⟩;obtain⟨ar,cs,T,an,af,ai,ay⟩:=a3;have ao:=af.heap a5.holds;obtain⟨d,fp,eY⟩:=(aR _ _ aq).fl;have U:d=.slice e:=by rw[eo]at eY;cases d<;>simp_all[fe]
 subst U;obtain⟨d2,OA,mu⟩:=(aR _ _ he).fl;have ab:d2=.int .u8:=by rw[jI]at mu;cases d2<;>simp_all[fe]
 subst ab;obtain⟨d3,OB,AZ⟩:=(aR _ _ qG).fl;have ak:d3=.string:=by rw[e0]at AZ;cases d3<;>simp_all[fe]
 subst ak;have aC:∀ j (aj:j<l.length),w.cell? (ad.add j)=some (.int .u8 (l[j].toNat:Int)):=by
  intro j aj;rw[dF ad ar,u' ao];have jA:(l.map λb=>Value.int .u8 b.toNat)[j]?=some (.int .u8 (l[j].toNat:Int)):=by simp[aj]
  rw[<-ai,kA,cw aj,oG]at jA;simpa using jA
 have ex:=dx a5.an ae;refine va a5 al (by rw[aP];simp) ?_ h;unfold execOp;simp only[aP,b8,c3,ex,run_convert_bytes_back w src dst e ad c l fp OA OB aC,bU]
def ahE{e:Nat}(aq:P.underlying t=some (.array 2 e)){k:IntKind}(he:P.underlying e=some (.int k)){inf:TypeInfo}(hi:P.info? e=some inf)(ar:inf.size=1)(dE ca dO b1:Int)(w:World) :
  (Op.equal t (.agg #[.int k dE,.int k ca]) (.agg #[.int k dO,.int k b1])).run P w=.ok (dE == dO&&ca == b1) w:=by
 have Fl:∀ (xs:Array Value) (i:Nat) (v:Value) (w:World),xs[i]?=some v->(part e xs i).run P w=.ok v w:=λxs i v w h=>by
  have Aa:(isAgg e).run P w=.ok false w:=by unfold isAgg;simp[run_underlying he]
  unfold part;simp[Aa,sizeOf,typeInfo,hi,ar,h]
 have hint:∀ (d:Nat) (x y:Int) (w:World),(Op.equalIn (d+1) e (.int k x) (.int k y)).run P w=.ok (x == y) w:=λd x y w=>by simp[Op.equalIn,run_underlying he]
 have key:∀ m,(∀ (x y:Int) (w:World),(Op.equalIn m e (.int k x) (.int k y)).run P w=.ok (x == y) w)->(Op.equalIn (m+1) t (.agg #[.int k dE,.int k ca]) (.agg #[.int k dO,.int k b1])).run P w=.ok (dE == dO&&ca == b1) w:=λm hint=>by
  rw[Op.equalIn];simp only[b8,run_underlying aq,bU,sizeOf,typeInfo,hi,run_program,c3,ar];simp only[Mm];have ag:List.range' 0 ([:2]:Std.Legacy.Range).size=[0,1]:=by decide
  rw[ag];have pa:=λ(i:Nat) (v:Value) (w:World)=>Fl #[.int k dE,.int k ca] i v w;have Ax:=λ(i:Nat) (v:Value) (w:World)=>Fl #[.int k dO,.int k b1] i v w;simp only[Mv,List.forIn_nil,b8];rw[pa (0*1) (.int k dE) w rfl];simp only[bU,b8];rw[Ax (0*1) (.int k dO) w rfl];simp only[bU,b8];rw[hint];simp only[bU];cases(dE == dO);·simp
  simp only[nS,jX,kB,c3,bU,b8];rw[pa (1*1) (.int k ca) w rfl];simp only[bU,b8];rw[Ax (1*1) (.int k b1) w rfl];simp only[bU,b8];rw[hint];simp only[bU];cases(ca == b1);·simp
  simp
 exact key 9999 (hint 9998)
def cx.ahF(aR:cX P E){e:Nat}{dr:dW}{x:Operand}(aq:E t=some dr)(eo:dr.bH=.array 2 e)(he:E e=some aO){k:IntKind}(jI:aO.bH=.int k)(ao:P.eqGuardType P.depth t=false){dE ca dO b1:Int}{V:Value->Prop}
  (h:V (.bool (dE == dO&&ca == b1))):cx P .eql t x y (.val (.agg #[.int k dE,.int k ca])) (.val (.agg #[.int k dO,.int k b1])) V other:=by
 obtain⟨d,fp,eY⟩:=(aR _ _ aq).fl;obtain⟨nu,Ay,Fm⟩:=(aR _ _ he).fl;obtain⟨inf,z,hi,e3,_⟩:=(aR _ _ he).inf;have U:d=.array 2 e:=by rw[eo]at eY;cases d<;>simp_all[fe]
 have ab:nu=.int k:=by rw[jI]at Fm;cases nu<;>simp_all[fe]
 subst U;subst ab;have eu:inf.size=1:=by rw[e3];exact(aR _ _ he).EJ (by rw[jI];rfl)
 refine .mk _ _ _ rfl rfl (λw=>?_) h;simp only[b8,run_eqGuard_agg (hm:=ao),bU,binOp,ahE fp Ay hi eu,c3]
end
section
variable{X:cO}{F:Fr}{C:c8}{I:aT}{M:List aD}{o:Oper}{K:fZ}
def bk.ahG(aR:cX X.P X.E){x:Operand}{e:Nat}(aP:o.op=.convert src dst x)(al:∀ d,o.dst=some d->d<X.n)
 {dr:dW} (aq:X.E src=some dr) (eo:dr.bH=.slice e) (he:X.E e=some aO) (jI:aO.bH=.int .u8) (qG:X.E dst=some J1) (e0:J1.bH=.string)
  {c:Nat} (ae:bY F x=.val (.slice none 0 c))
  (h:K (put o.dst (.val (.string ⟨#[]⟩)) F) C I M):bk X o F C I M K:=by
 refine⟨λa w Q ⟨β,a5⟩=>?_⟩;obtain⟨d,fp,eY⟩:=(aR _ _ aq).fl;have U:d=.slice e:=by rw[eo]at eY;cases d<;>simp_all[fe]
 subst U;obtain⟨d2,OA,mu⟩:=(aR _ _ he).fl;have ab:d2=.int .u8:=by rw[jI]at mu;cases d2<;>simp_all[fe]
 subst ab;obtain⟨d3,OB,AZ⟩:=(aR _ _ qG).fl;have ak:d3=.string:=by rw[e0]at AZ;cases d3<;>simp_all[fe]
 subst ak;have ex:=dx a5.an ae;refine va a5 al (by rw[aP];simp) ?_ h;unfold execOp;have fm:(convert src dst (.slice none 0 c)).run X.P w=.ok (.string ⟨#[]⟩) w:=by rw[run_convert_bytes_string w src dst e none 0 c fp OA OB];rfl
 simp only[aP,b8,c3,ex,fm,bU]
end
def aU.whole{K:Value->aT->List aD->Prop}(post:Value->aT->List aD->Prop)(ar:Spec P f args I M post)(k:∀ v I' M',(∀ b o,I b=some o->I' b=some o)->post v I' M'->K v I' M'):aU cp P f args I M K:=
 .mk M [] post (by simp) ar λv I' M' U ab=>by rw[db];exact k v I' M' U ab
def e7.whole{K:Value->aT->List aD->Prop}(post:Value->aT->List aD->Prop)(ar:Spec P f args I M post)(mU:∀ v I' M',post v I' M'->∀ x∈M,x∈M')(k:∀ v I' M',(∀ b o,I b=some o->I' b=some o)->post v I' M'->K v I' M'):e7 cp P f args I M K:=
 .mT M [] post (by simp) ar mU λv I' M' U ab=>by rw[db];exact k v I' M' U ab
section
variable{X:cO}{β:Nat->Nat}{a:Act}{w:World}{F:Fr}{C:c8}{I:aT}{M:List aD}{o:Oper}{K:fZ}
def hk.lW(h:M=M'):hk cp I M I M':=by subst h;exact .refl
def bk.jg(h:bk X o F C I M λF C I M=>∃ I' M',hk X.cp I M I' M'/\K F C I' M'):bk X o F C I M K:=by obtain⟨h⟩:=h;refine⟨λa w Q a5=>st ?_ (h a w Q a5)⟩;rintro ch w'⟨dN,C',I',M',⟨β,ag⟩,dG,ew,hw,af⟩;exact⟨dN,C',dG,ew,⟨β,ag.jg hw⟩,af⟩
def bk.nF(aR:cX X.P X.E){x:Operand}(aP:o.op=.call { callee:=.builtin .append,args:=#[s,x],argTypes:=#[t,t] })(al:∀ d,o.dst=some d->d<X.n)
  {e:Nat} {dr:dW} (aq:X.E t=some dr) (eo:dr.bH=.slice e) (he:X.E e=some aO)
  (os:aY) (bM:os.ok aO.size xs) (ar:bY F s=.val os.val)
  {bT:Nat} (ae:bY F x=.val (.slice (some ⟨bT,0,none⟩) 1 c')) (ay:cs.length=aO.size) (U:gh cs=true)
  (pre post:List aD) (aV:M=⟨bT,.cells cs.toArray e (0,0)⟩::(pre++(os.aw e++post))) (b1:os.n+1<=9223372036854775807) (cc:(os.n+1)*aO.bytes<=140737488355328)
  (k:∀ gY:aY,gY.n=os.n+1->(∀ g,gY.a=some g->I g=none)->gY.ok aO.size (xs++cs)->K (put o.dst (.val gY.val) F) C I (pre++(gY.aw e++post))):bk X o F C I M K:=by
 refine .jg (.sL aR aP al aq eo he os bM ar (m:=1) (news:=cs) ae (by decide) ?_ U (Mr:=⟨bT,.cells cs.toArray e (0,0)⟩::(pre++post)) ?_ (by unfold maxLen;exact b1) cc ?_)
 ·rw[qD];refine⟨rfl,_,_,_,.inr ⟨⟨bT,.cells cs.toArray e (0,0)⟩,by rw[aV];exact .head _,rfl,rfl⟩,?_,ay⟩;simp only[qC];exact dX (by omega)
 ·rw[aV];have ab:(⟨bT,.cells cs.toArray e (0,0)⟩::(pre++(os.aw e++post)):List aD).Perm (⟨bT,.cells cs.toArray e (0,0)⟩::(os.aw e++(pre++post))):=.cons _ (A4 _ _ _);exact ab.trans o3.symm
 ·intro g c cur cg c5 c7 dS eP;refine⟨I,pre++((⟨some g,os.n+1,c,cur⟩:aY).aw e++post),.sub (M1:=⟨g,.cells cur.toArray e (0,0)⟩::(pre++post)) (.cons_cons _ (.cons _ (.refl _))) (.perm ?_ .refl),k ⟨some g,os.n+1,c,cur⟩ rfl (λdh ao=>by cases ao;exact cg) ⟨?_,(λh=>by cases h),λdh ao=>?_⟩⟩
  ·exact o3.symm
  ·rw[cz,bM.len,ay,lG,qD]
  ·cases ao;exact⟨c5,c7,dS,eP⟩
def bk.v8(aR:cX X.P X.E){x:Operand}(aP:o.op=.call { callee:=.builtin .append,args:=#[s,x],argTypes:=#[t,t] })(al:∀ d,o.dst=some d->d<X.n)
  {e:Nat} {dr:dW} (aq:X.E t=some dr) (eo:dr.bH=.slice e) (he:X.E e=some aO)
  (os:aY) (bM:os.ok aO.size xs) (ar:bY F s=.val os.val)
  {sa:Option Addr} {m:Nat} {news:List Value} (ae:bY F x=.val (.slice sa m c')) (ay:news.length=m*aO.size) (az:0<m->∃ ad,sa=some ad/\bq I M ad (m*aO.size) news) (U:gh news=true)
  (pre post:List aD) (aV:M=pre++(os.aw e++post)) (b1:os.n+m<=9223372036854775807) (cc:(os.n+m)*aO.bytes<=140737488355328)
  (k:∀ gY:aY,gY.n=os.n+m->(0<m->∀ g,gY.a=some g->I g=none)->gY.ok aO.size (xs++news)->K (put o.dst (.val gY.val) F) C I (pre++(gY.aw e++post))):bk X o F C I M K:=by
 by_cases av:m=0
 ·subst av;have mW:news=[]:=hZ (by simpa using ay);subst mW;refine .IP aR aP al aq eo aq (λk=>by rw[eo];simp) he (sa:=os.a.map λg=>⟨g,0,none⟩) (n:=os.n) (c:=os.c) ar ?_ ae (.inl ⟨_,_,rfl⟩) ?_
  ·cases aX:os.a with
   |none=>obtain⟨c5,c7⟩:=bM.nil aX;omega
   |some g=>exact(bM.cap g aX).2.1
  ·have:=k os rfl (λh=>by omega) (by rw[db];exact bM);rw[aV];exact this
 obtain⟨ad,rfl,a3⟩:=az (by omega);refine .jg (.sL aR aP al aq eo he os bM ar (m:=m) (news:=news) ae (by omega) a3 U (Mr:=pre++post) ?_ (by unfold maxLen;exact b1) cc ?_)
 ·rw[aV];exact(A4 _ _ _)
 ·intro g c cur cg c5 c7 dS eP;refine⟨I,pre++((⟨some g,os.n+m,c,cur⟩:aY).aw e++post),.perm ?_ .refl,k ⟨some g,os.n+m,c,cur⟩ rfl (λ_ dh ao=>by cases ao;exact cg) ⟨?_,(λh=>by cases h),λdh ao=>?_⟩⟩
  ·exact o3.symm
  ·rw[cz,bM.len,ay,lG]
  ·cases ao;exact⟨c5,c7,dS,eP⟩
end
noncomputable section
inductive be(α:Type) where
 |nil| node (x:Option α) (l r:be α)
def bX{α:Type}(b:Bool)(x y:α):α:=@Bool.rec (λ_=>α) y x b
def bN{α R:Type}(o:Option α)(x:R)(f:α->R):R:=@Option.rec α (λ_=>R) x f o
section
variable{α R:Type}
def be.get(t:be α):Nat->Option α:=@be.rec α (λ_=>Nat->Option α) (λ_=>none) (λx _ _ ahH ahI k=>bX (Nat.beq k 0) x (bX (Nat.beq (Nat.mod k 2) 1) (ahH (Nat.div k 2)) (ahI (Nat.sub (Nat.div k 2) 1)))) t
def be.na(v:Option α)(t:be α):Nat->(be α->R)->R:=@be.rec α (λ_=>Nat->(be α->R)->R) (λk K=>bX (Nat.beq k 0) (K (.node v .nil .nil)) (K .nil)) (λx l r sl zj k K=>bX (Nat.beq k 0) (K (.node v l r)) (bX (Nat.beq (Nat.mod k 2) 1) (sl (Nat.div k 2) λl=>K (.node x l r)) (zj (Nat.sub (Nat.div k 2) 1) λr=>K (.node x l r)))) t
def be.Dz(t:be α)(off n:Nat):(List α->Option R)->Option R:=@Nat.rec (λ_=>Nat->(List α->Option R)->Option R) (λ_ K=>K []) (λ_ a8 off K=>bN (t.get off) none λv=>a8 (Nat.add off 1) λl=>K (v::l)) n off
def be.xP(l:List α)(t:be α)(off:Nat)(K:be α->R):R:=@List.rec α (λ_=>be α->Nat->R) (λt _=>K t) (λv _ a8 t off=>t.na (some v) off λt=>a8 t (Nat.add off 1)) l t off
def be.bare:Nat->be α
 |0=>.nil| n+1=>.node none (be.bare n) (be.bare n)
end
inductive ap where
 |b(x:Bool) | i (k:IntKind) (n:Int) | s (l:List UInt8)| pn | p (id off:Nat) | g (n off:Nat)| sn | sl (id off n c:Nat) | sx (id off e n:Nat) | gs (g off n c:Nat) | so| mn | m (id:Nat)| f (g:Nat) (l r:List ap) | y (id:Nat) | fn| ni | DA (t:Nat) (v:ap)| t (l:List ap) | a (l:List ap)
def ap.cells:ap->List ap
 | .a l=>l| v=>[v]
def ap.one:ap->Bool
 | .a _ | .t _=>false| _=>true
def GC:Value->Option ap
 | .bool x=>some (.b x)| .int k n=>some (.i k n)| .string q=>some (.s q.data.toList)| .pointer none=>some .pn| .slice none 0 0=>some .sn| .map none=>some .mn| .nilFunc=>some .fn| .nilIface=>some .ni| _=>none
def xQ:List Value->Option (List ap)
 |[]=>some []
 |v::vs=>match GC v,xQ vs with
  |some x,some l=>some (x::l)| _,_=>none
def DB:Value->Option ap
 | .agg cs=>match xQ cs.toList with
  |some l=>some (.a l)| none=>none
 |v=>GC v
def ap.nat:ap->Option Nat
 | .i _ (.ofNat n)=>some n| _=>none
inductive fa where
 |cells(cs:be ap)(T fq:Nat)| map (es:List (ap×ap))| loop (busy:Bool) (n:Nat) (an:be ap) (ps:List Nat) (ff body:Code)| done (c:Code) (n:Nat) (an:be ap) (ps:List Nat) (ff body:Code)
structure bi where
 t:be fa
 n:Nat
def r5:Int->Int->Bool
 | .ofNat a,.ofNat b=>Nat.beq a b| .negSucc a,.negSucc b=>Nat.beq a b| _,_=>false
def Bi:Int->Int->Bool
 | .ofNat a,.ofNat b=>Nat.ble a b| .negSucc a,.negSucc b=>Nat.ble b a| .negSucc _,.ofNat _=>true| .ofNat _,.negSucc _=>false
def Cq(a b:Int):Bool:=!Bi b a
def OC(op:BinOp)(x y:Int):Option Bool:=match op with
 | .eql=>some (r5 x y)| .neq=>some (!r5 x y)| .lss=>some (Cq x y)| .leq=>some (Bi x y)| .gtr=>some (Cq y x)| .geq=>some (Bi y x)| _=>none
def J5:IntKind->Nat
 | .i8=>127 | .i16=>32767 | .i32=>2147483647 | .i64=>9223372036854775807| .u8=>255 | .u16=>65535 | .u32=>4294967295 | .u64=>18446744073709551615
def v9(k:IntKind):Int->Int
 | .ofNat n=>bif Nat.ble n (J5 k)then .ofNat n else k.wrap (.ofNat n)| n=>k.wrap n
def WR:Int->Int->Int
 | .ofNat a,.ofNat b=>.ofNat (Nat.add a b)| a,b=>a+b
def OD:Int->Int->Int
 | .ofNat a,.ofNat b=>bif Nat.ble b a then .ofNat (Nat.sub a b)else(.ofNat a:Int) - .ofNat b| a,b=>a-b
def WS:Int->Int->Int
 | .ofNat a,.ofNat b=>.ofNat (Nat.mul a b)| a,b=>a*b
def WT:Int->Int->Int
 | .ofNat a,.ofNat b=>.ofNat (Nat.div a b)| a,b=>a.tdiv b
def WU:Int->Int->Int
 | .ofNat a,.ofNat b=>.ofNat (Nat.mod a b)| a,b=>a.tmod b
def WV:Int->Nat->Int
 | .ofNat a,j=>.ofNat (Nat.mul a (Nat.pow 2 j))| a,j=>a*2^j
def WW:Int->Nat->Int
 | .ofNat a,j=>.ofNat (Nat.div a (Nat.pow 2 j))| a,j=>a.fdiv (2^j)
def DC(op:BinOp)(k:IntKind)(x y:Int):Option Int:=
 match k,x,y with
 | .u64,.ofNat a,.ofNat b=>
  bif Nat.ble a 18446744073709551615&&Nat.ble b 18446744073709551615 then
   (match op with
   | .and=>some (.ofNat (Nat.land a b))| .or=>some (.ofNat (Nat.lor a b))| .xor=>some (.ofNat (Nat.xor a b))| .andNot=>some (.ofNat (Nat.land a (Nat.sub 18446744073709551615 b)))| _=>none)
  else none
 |_,_,_=>tt op k x y
def OE(a b:UInt8):Bool:=Nat.beq a.toNat b.toNat
def ux:List UInt8->List UInt8->Bool
 |[],[]=>true| a::l,b::m=>bif OE a b then ux l m else false| _,_=>false
def DD:ap->ap->Option Bool
 | .b x,.b w=>some (x == w)| .i k x,.i l w=>bX (IntKind.l' k l) (some (r5 x w)) none| .s x,.s w=>some (ux x w)| _,_=>none
def WX:List ap->List ap->Option Bool
 |[],[]=>some true
 |x::l,w::m=>match DD x w with
  |some true=>WX l m
  |some false=>(match WX l m with
   |some _=>some false| none=>none)
  |none=>none
 |_,_=>none
def ara:ap->ap->Option Bool
 | .pn,.pn=>some true| .pn,.p _ _=>some false| .p _ _,.pn=>some false| .pn,.g _ _=>some false| .g _ _,.pn=>some false| _,_=>none
def OF(op:BinOp)(k eQ:IntKind)(a b:Int):Option ap:=match op with
 | .shl=>(match b with
  | .ofNat j=>some (.i k (v9 k (WV a (bX (Nat.ble j k.bits) j k.bits))))| _=>none)
 | .shr=>(match b with
  | .ofNat j=>some (.i k (WW a (bX (Nat.ble j k.bits) j k.bits)))| _=>none)
 | .add=>bX (IntKind.l' k eQ) (some (.i k (v9 k (WR a b)))) none| .sub=>bX (IntKind.l' k eQ) (some (.i k (v9 k (OD a b)))) none| .mul=>bX (IntKind.l' k eQ) (some (.i k (v9 k (WS a b)))) none| .quo=>bX (IntKind.l' k eQ) (bX (r5 b 0) none (some (.i k (v9 k (WT a b))))) none| .rem=>bX (IntKind.l' k eQ) (bX (r5 b 0) none (some (.i k (WU a b)))) none| .and=>bX (IntKind.l' k eQ) (bN (DC .and k a b) none λr=>some (.i k r)) none| .or=>bX (IntKind.l' k eQ) (bN (DC .or k a b) none λr=>some (.i k r)) none| .xor=>bX (IntKind.l' k eQ) (bN (DC .xor k a b) none λr=>some (.i k r)) none| .andNot=>bX (IntKind.l' k eQ) (bN (DC .andNot k a b) none λr=>some (.i k r)) none| op=>bX (IntKind.l' k eQ) (bN (OC op a b) none λr=>some (.b r)) none
def OG(op:BinOp)(a b:List UInt8):Option ap:=match op with
 | .eql=>some (.b (ux a b))| .neq=>some (.b (bX (ux a b) false true))| .add=>bX (Nat.ble (Nat.add a.length b.length) 9223372036854775807) (some (.s (a++b))) none| _=>none
def OH(op:BinOp)(dr:Option dW)(a b:Bool):Option ap:=match dr with
 |some { bH:=.bool,.. }=>
  (match op with
  | .eql=>some (.b (a == b))| .neq=>some (.b (!(a == b)))| _=>none)
 |_=>none
def DE(agg:Bool)(l:List ap):Option ap:=bif agg then some (.a l)else match l with
 |[v]=>some v| _=>none
def Bj:Nat->List ap->Option (List ap)
 |0,_=>some []| _+1,[]=>none
 |n+1,v::l=>match Bj n l with
  |some r=>some (v::r)| none=>none
def Bk{α:Type}:List α->Nat->List α
 |[],_=>[]| v::l,n=>bif Nat.beq n 0 then v::l else Bk l (Nat.sub n 1)
def zk(E:Env)(t o:Nat)(l:List ap):Option ap:=bN (E t) none λi=>bX (Nat.beq i.size 0) none <| bN (Bj i.size (Bk l o)) none λr=>DE i.bH.agg r
def xR(F:Nat->ap->ap->Option Bool)(E:Env)(l m:List ap):List (Nat×Nat)->Option Bool
 |[]=>some true|(t,o)::r=>bN (zk E t o l) none λx=>bN (zk E t o m) none λy=>bN (F t x y) none λb=>bX b (xR F E l m r) (some false)
def WY(P:Program)(t:Nat):Bool:=match P.underlying t with
 |some (.struct cC)=>!P.stoodInHeld t&&cC.toList.all λf=>decide (f.name ≠ "_")
 |_=>false
def r6(P:Program)(E:Env):Nat->Nat->ap->ap->Option Bool
 |0,_,_,_=>none
 |d+1,t,x,y=>bN (E t) none λi=>match i.bH,x,y with
  | .bool,.b a,.b b=>some (a == b)| .int _,.i k a,.i eQ b=>bX (IntKind.l' k eQ) (some (r5 a b)) none| .string,.s a,.s b=>some (ux a b)| .struct cC,.a l,.a m=>bX (WY P t) (xR (r6 P E d) E l m cC) none| .array n e,.a l,.a m=>bN (E e) none λaO=>xR (r6 P E d) E l m ((List.range n).map λi=>(e,i*aO.size))
  |_,_,_=>none
def Bl(P:Program)(E:Env)(op:BinOp)(t:Nat)(l m:List ap):Option ap:=bX (P.eqGuardType P.depth t) none (bN (r6 P E 8 t (.a l) (.a m)) none λb=>match op with
 | .eql=>some (.b b)| .neq=>some (.b (!b))| _=>none)
def OI:ap->Option Bool
 | .sn=>some true| .sl .. | .sx .. | .gs .. | .so=>some false| _=>none
def OJ:ap->Option Bool
 | .pn=>some true| .p .. | .g ..=>some false| _=>none
def J6(op:BinOp)(b:Bool):Option ap:=match op with
 | .eql=>some (.b b)| .neq=>some (.b (!b))| _=>none
def OK(P:Program)(E:Env)(op:BinOp)(t:Nat)(x y:ap):Option ap:=
 match x,y with
 | .i k a,.i eQ b=>OF op k eQ a b| .s a,.s b=>OG op a b| .b a,.b b=>OH op (E t) a b| .a l,.a m=>Bl P E op t l m
 |x,.sn=>bN (E t) none λi=>(match i.bH with
  | .slice _=>bN (OI x) none λb=>J6 op b
  |_=>none)
 |x,.pn=>bN (E t) none λi=>(match i.bH with
  | .pointer _=>bN (OJ x) none λb=>J6 op b
  |_=>none)
 |_,_=>none
def v'{α:Type}:List α->Nat->Option α
 |[],_=>none| v::l,n=>bif Nat.beq n 0 then some v else v' l (Nat.sub n 1)
def xS:List ap->Nat->List ap->Option (List ap)
 |cs,0,[]=>some cs
 |_::cs,0,v::vs=>match xS cs 0 vs with
  |some r=>some (v::r)| none=>none
 |c::cs,n+1,vs=>match xS cs n vs with
  |some r=>some (c::r)| none=>none
 |[],_,_=>none
def zl(place:Nat->Option (Nat×Nat)):List ap->List (Nat×ap)->Option (List ap)
 |cells,[]=>some cells
 |cells,(i,v)::rest=>match place i with
  |none=>none
  |some (off,size)=>bif Nat.beq v.cells.length size then(match xS cells off v.cells with
   |some cs=>zl place cs rest| none=>none)else none
def dV(an:be ap):Operand->Option ap
 | .tmp t=>an.get t| .const v=>DB v| .global g=>some (.g g 0)| .func f=>some (.f f [] [])
def nG(an:be ap):List Operand->Option (List ap)
 |[]=>some []
 |x::xs=>match dV an x,nG an xs with
  |some v,some l=>some (v::l)| _,_=>none
def DF(an:be ap):List (Nat×Operand)->Option (List (Nat×ap))
 |[]=>some []
 |(i,x)::xs=>match dV an x,DF an xs with
  |some v,some l=>some ((i,v)::l)| _,_=>none
abbrev GT:=Nat->Option (be ap)
def ta{R:Type}(G:GT)(m:be fa)(x:ap)(n:Nat)(K:List ap->Option R):Option R:=match x with
 | .p id off=>(match m.get id with
  |some (.cells cs _ fq)=>bif Nat.ble (Nat.add off n) fq then cs.Dz off n K else none| _=>none)
 | .g g off=>(match G g with
  |some cs=>cs.Dz off n K| none=>none)
 |_=>none
def GD(x:ap)(n:Nat):Option ap:=match x with
 | .p id off=>some (.p id (Nat.add off n))| .g g off=>some (.g g (Nat.add off n))| _=>none
def J7(x:ap)(j sz:Nat):Option ap:=match x with
 | .sl id off n _=>bif Nat.blt j n then some (.p id (Nat.add off (Nat.mul j sz)))else none| .sx id off _ n=>bif Nat.blt j n then some (.p id (Nat.add off (Nat.mul j sz)))else none| .gs g off n _=>bif Nat.blt j n then some (.g g (Nat.add off (Nat.mul j sz)))else none| _=>none
def wa:ap->Option Nat
 | .sn | .so=>some 0| .sl _ _ n _ | .sx _ _ _ n | .gs _ _ n _=>some n| _=>none
def r7(v:ap):Option Nat:=match v with
 | .s l=>some l.length| v=>wa v
def OL(x:ap)(sz l:Nat)(h:Option Nat):Option ap:=match x with
 | .sn=>bif Nat.beq l 0&&Nat.beq (h.getD 0) 0 then some .sn else none
 | .sl id off n c=>let h:=h.getD n
  bif Nat.ble l h&&Nat.ble h c then bif Nat.beq c l then some (.sl id off (Nat.sub h l) 0)else some (.sl id (Nat.add off (Nat.mul l sz)) (Nat.sub h l) (Nat.sub c l))else none
 | .sx id off e n=>let h:=h.getD n
  bif Nat.ble l h&&Nat.ble h n then(bif Nat.beq l 0||Nat.blt l n then some (.sx id (Nat.add off (Nat.mul l sz)) (Nat.add e l) (Nat.sub h l))else some .so)else none
 |_=>none
def Bm(o:Option (Option ap)):Option (Option Nat):=match o with
 |none=>some none
 |some (some v)=>(match v.nat with
  |some n=>some (some n)| none=>none)
 |some none=>none
def OM(l:List UInt8)(lo hi:Nat):List UInt8:=(Bk l lo).take (Nat.sub hi lo)
def WZ(c a b:Option ap):Option ap:=match c,a,b with
 |some (.b c),some u,some v=>some (bX c u v)| _,_,_=>none
def W0(op:UnOp)(x:Option ap):Option ap:=match op,x with
 | .not,some (.b b)=>some (.b (bX b false true))| .neg,some (.i k n)=>some (.i k (v9 k (0-n)))| _,_=>none
def W1(P:Program)(E:Env)(op:BinOp)(t:Nat)(x y:Option ap):Option ap:=bN x none λx=>bN y none λy=>OK P E op t x y
def W2(G:GT)(m:be fa)(i:Option dW)(x:Option ap):Option ap:=bN i none λi=>bN x none λx=>ta G m x i.size λl=>DE i.bH.agg l
def W3(x:Option ap):Option ap:=match x with
 |some (.p id off)=>some (.p id off)| some (.g g off)=>some (.g g off)| _=>none
def J8(E:Env)(t i:Nat):Option (Nat×dW):=match E t with
 |some { bH:=.struct cC,.. }=>(match v' cC i with
  |some (l9,off)=>(match E l9 with
   |some g1=>some (off,g1)| none=>none)
  |none=>none)
 |_=>none
def W4(r:Option (Nat×dW))(x:Option ap):Option ap:=bN r none λr=>bN x none λx=>bX (Nat.beq r.2.size 0) none (GD x r.1)
def J9(aO:dW)(cs:List ap)(off:Nat):Option ap:=bX (Nat.beq aO.size 0) none <| bN (Bj aO.size (Bk cs off)) none λl=>DE aO.bH.agg l
def W5(r:Option (Nat×dW))(x:Option ap):Option ap:=match r,x with
 |some (off,g1),some (.a cs)=>J9 g1 cs off| _,_=>none
def ON(E:Env)(t:Nat):Option (Option Nat×dW):=match E t with
 |some { bH:=.slice e,.. }=>(match E e with
  |some aO=>some (none,aO)| none=>none)
 |some { bH:=.array n e,.. }=>(match E e with
  |some aO=>some (some n,aO)| none=>none)
 |_=>none
def W6(r:Option (Option Nat×dW))(x i:Option ap):Option ap:=bN r none λr=>bN x none λx=>bN i none λi=>bN i.nat none λj=>
 bN r.1 (J7 x j r.2.size) λn=>bX (Nat.blt j n) (GD x (Nat.mul j r.2.size)) none
def OO(l:List UInt8)(j:Nat):Option ap:=bN (v' l j) none λb=>some (.i .u8 (.ofNat b.toNat))
def W7(cs:List ap)(j n:Nat)(aO:dW):Option ap:=bX (Nat.beq (Nat.mul n aO.size) cs.length&&Nat.blt j n) (J9 aO cs (Nat.mul j aO.size)) none
def GF(E:Env)(t:Nat)(x i:Option ap):Option ap:=match E t,x,i with
 |some { bH:=.string,.. },some (.s l),some i=>bN i.nat none λj=>OO l j
 |some { bH:=.array n e,.. },some (.a cs),some i=>bN (E e) none λaO=>bN i.nat none λj=>W7 cs j n aO
 |_,_,_=>none
def GG(o:Option (List ap)):Option ap:=bN o none λl=>some (.a l)
def W8(E:Env)(t:Nat)(ps:Option (List (Nat×ap))):Option ap:=match E t,ps with
 |some i,some vs=>bN (xQ i.zero) none λz=>(match i.bH with
  | .struct cC=>bX (Co E cC) (GG (zl (places E cC) z vs)) none| .array _ e=>bN (E e) none λaO=>GG (zl (λj=>some (j*aO.size,aO.size)) z vs)
  |_=>none)
 |_,_=>none
def W9(f:Fn)(cC cs:Option (List ap)):Option ap:=match f,cC,cs with
 | .func g,some cC,some cs=>some (.f g cC cs)| _,_,_=>none
def OP(aO:dW)(x:ap)(lo hi:Option Nat):Option ap:=match lo,hi with
 |none,none=>(match x with
  | .sn | .sl .. | .sx .. | .so=>some x| _=>none)
 |lo,hi=>OL x aO.size (lo.getD 0) hi
def OQ(l:List UInt8)(lo hi:Option Nat):Option ap:=match lo,hi with
 |none,none=>some (.s l)| lo,hi=>bX (Nat.ble (lo.getD 0) (hi.getD l.length)&&Nat.ble (hi.getD l.length) l.length) (some (.s (OM l (lo.getD 0) (hi.getD l.length)))) none
def GH(E:Env)(t:Nat)(x:Option ap)(lo hi:Option (Option Nat)):Option ap:=match E t,x,lo,hi with
 |some { bH:=.slice e,.. },some x,some lo,some hi=>bN (E e) none λaO=>OP aO x lo hi
 |some { bH:=.string,.. },some (.s l),some lo,some hi=>OQ l lo hi| _,_,_,_=>none
def W'(x:Option ap)(i:Nat):Option ap:=match x with
 |some (.t vs)=>v' vs i| _=>none
def Xa(E:Env)(s d:Nat)(x:Option ap):Option ap:=match E s,E d,x with
 |some _,some { bH:=.int k,.. },some (.i _ n)=>some (.i k (v9 k n))| _,_,_=>none
def J'(o:Option Nat):Option ap:=bN o none λn=>some (.i .i64 (.ofNat n))
def Xb(E:Env)(eJ:List Nat)(l:Option (List ap)):Option ap:=match eJ,l with
 |[t],some [v]=>(match E t,v with
  |some { bH:=.slice _,.. },v=>J' (wa v)| some { bH:=.string,.. },.s l=>J' (some l.length)| some { bH:=.array n _,.. },_=>J' (some n)| _,_=>none)
 |_,_=>none
def Xc(l:Option (List ap)):Option ap:=match l with
 |some [.i k a,.i _ b]=>some (.i k (bX (Bi a b) b a))| _=>none
def Xd(l:Option (List ap)):Option ap:=match l with
 |some [.i k a,.i _ b]=>some (.i k (bX (Bi a b) a b))| _=>none
def Xe(E:Env)(eJ:List Nat)(l:Option (List ap)):Option ap:=match eJ,l with
 |[t],some [.sl _ _ _ c]=>(match E t with
  |some { bH:=.slice _,.. }=>some (.i .i64 (.ofNat c))| _=>none)
 |_,_=>none
def Xf(l:Option (List ap)):Option ap:=match l with
 |some [.sn]=>some .pn| some [.sl id off n c]=>bX (Nat.beq c 0) none (some (.p id off))| some [.sx id off e n]=>bX (Nat.beq n 0) none (some (.p id off))| _=>none
def OR(E:Env)(b:Builtin)(eJ:List Nat)(l:Option (List ap)):Option ap:=match b with
 | .len=>Xb E eJ l| .max=>Xc l| .min=>Xd l| .cap=>Xe E eJ l| .unsafeSliceData=>Xf l| _=>none
def uy(P:Program)(E:Env)(G:GT)(m:be fa)(op:Op)(an:be ap):Option ap:=
 match op with
 | .move x=>dV an x| .assign x=>dV an x| .pick c a b=>WZ (dV an c) (dV an a) (dV an b)| .unOp op _ x=>W0 op (dV an x)| .binOp op t x y _=>W1 P E op t (dV an x) (dV an y)| .load t x=>W2 G m (E t) (dV an x)| .nilCheck x=>W3 (dV an x)| .fieldAddr t x i=>W4 (J8 E t i) (dV an x)| .field t x i=>W5 (J8 E t i) (dV an x)| .indexAddr t x i=>W6 (ON E t) (dV an x) (dV an i)| .index t x i=>GF E t (dV an x) (dV an i)| .build t parts=>W8 E t (DF an parts.toList)| .makeFunc f first captured=>W9 f (nG an first.toList) (nG an captured.toList)
 | .slice t x lo hi none=>GH E t (dV an x) (Bm (lo.map (dV an))) (Bm (hi.map (dV an)))| .extract x i=>W' (dV an x) i| .convert s d x=>Xa E s d (dV an x)| .call { callee:=.builtin b,args,argTypes }=>OR E b argTypes.toList (nG an args.toList)| _=>none
def q1{R:Type}(n:Nat)(K:Nat->R):R:=Nat.casesOn (Nat.add n 1) (K 0) K
def Xg{R:Type}(n:Int)(K:Int->R):R:=match n with
 | .ofNat n=>q1 n λn=>K (.ofNat n)
 | .negSucc n=>q1 n λn=>K (.negSucc n)
def Xh{R:Type}(b:Bool)(K:Bool->R):R:=bX b (K true) (K false)
def OS{R:Type}(v:ap)(K:ap->R):R:=match v with
 | .b x=>Xh x λx=>K (.b x)
 | .i k n=>Xg n λn=>K (.i k n)
 | .p id off=>q1 off λoff=>K (.p id off)
 | .g id off=>q1 off λoff=>K (.g id off)
 | .sl id off n c=>q1 off λoff=>q1 n λn=>q1 c λc=>K (.sl id off n c)
 | .sx id off e n=>q1 off λoff=>q1 e λe=>q1 n λn=>K (.sx id off e n)
 |v=>K v
def Bn{R:Type}(m:bi)(e:fa)(K:Nat->bi->R):R:=q1 m.n λn=>m.t.na (some e) n λt=>K n ⟨t,Nat.add n 1⟩
def uz{R:Type}(m:bi)(l:List ap)(T:Nat)(K:Nat->bi->R):R:=be.xP l .nil 0 λcs=>Bn m (.cells cs T l.length) K
def xT{R:Type}(m:bi)(x:ap)(l:List ap)(K:bi->Option R):Option R:=match x with
 | .p id off=>(match m.t.get id with
  |some (.cells cs T fq)=>bif Nat.ble (Nat.add off l.length) fq&&l.all ap.one then be.xP l cs off λcs=>m.t.na (some (.cells cs T fq)) id λt=>K ⟨t,m.n⟩else none
  |_=>none)
 |_=>none
def Bo:Nat->List ap->List ap
 |0,_=>[]| n+1,z=>z++Bo n z
def DG(i:Option dW):Bool:=match i with
 |some { bH:=.int .u8,.. }=>true| _=>false
def wb(u:Option dW)(aO:dW)(x:ap):Bool:=match u,x with
 |some { bH:=.slice _,.. },.sn=>true| some { bH:=.slice _,.. },.so=>true| some { bH:=.slice _,.. },.sl ..=>true| some { bH:=.slice _,.. },.sx ..=>true| some { bH:=.string,.. },.s _=>Nat.beq aO.size 1| _,_=>false
def DH(G:GT)(m:be fa)(x:ap)(sz:Nat){R:Type}(K:List ap->Option R):Option R:=match x with
 | .sn | .so=>K []| .sl id off n _ | .sx id off _ n=>ta G m (.p id off) (Nat.mul n sz) K| .s l=>K (l.map λb=>.i .u8 (.ofNat b.toNat))| _=>none
def OT(G:GT)(m:bi)(id off n c:Nat)(l:List ap)(k sz T:Nat):Option (ap×bi):=
 bX (Nat.ble (Nat.add n k) c) (xT m (.p id (Nat.add off (Nat.mul n sz))) l λm=>some (.sl id off (Nat.add n k) c,m)) (ta G m.t (.p id off) (Nat.mul n sz) λdL=>uz m (dL++l) T λid m=>some (.sx id 0 0 (Nat.add n k),m))
def OU(m:bi)(id:Nat)(n:Nat)(cs:be ap)(fq:Nat)(l:List ap)(k sz T:Nat):Option (ap×bi):=
 bX (Nat.ble (Nat.mul n sz) fq) (m.t.na none id λt=>be.xP l cs (Nat.mul n sz) λcs=>Bn ⟨t,m.n⟩ (.cells cs T (Nat.mul (Nat.add n k) sz)) λid m=>some (.sx id 0 0 (Nat.add n k),m)) none
def GI(G:GT)(m:bi)(s:ap)(l:List ap)(k sz bytes T:Nat):Option (ap×bi):=match s with
 | .sn=>bX (Nat.ble (Nat.mul k bytes) 140737488355328&&Nat.ble k 9223372036854775807) (uz m l T λid m=>some (.sx id 0 0 k,m)) none| .sl id off n c=>bX (Nat.ble (Nat.mul (Nat.add n k) bytes) 140737488355328&&Nat.ble (Nat.add n k) 9223372036854775807) (OT G m id off n c l k sz T) none
 | .sx id off e n=>(match m.t.get id with
  |some (.cells cs tx fq)=>bX ((Nat.beq off 0&&Nat.beq e 0)&&(Nat.beq tx T&&(Nat.ble (Nat.mul (Nat.add n k) bytes) 140737488355328&&Nat.ble (Nat.add n k) 9223372036854775807))) (OU m id n cs fq l k sz T) none| _=>none)
 |_=>none
def DI:List ap->Option (List UInt8)
 |[]=>some []
 | .i .u8 (.ofNat n)::l=>bif Nat.ble n 255 then(match DI l with
  |some r=>some (UInt8.ofNat n::r)| none=>none)else none
 |_=>none
def GJ:ap->List (ap×ap)->Option (Option ap)
 |_,[]=>some none
 |k,(x,v)::l=>match DD k x with
  |some true=>some (some v)| some false=>GJ k l| none=>none
def GK(k v:ap):List (ap×ap)->Option (List (ap×ap))
 |[]=>some [(k,v)]
 |(x,u)::l=>match DD k x with
  |some true=>some ((k,v)::l)
  |some false=>(match GK k v l with
   |some r=>some ((x,u)::r)| none=>none)
  |none=>none
abbrev lk:=Nat->List ap->bi->Option (ap×bi)
structure gm where
 P:Program
 E:Env
 G:GT
 pr:lk
def Xi(i:Option dW)(t:Nat)(x:Option ap):Option (List ap×Nat×Nat×(Nat->ap)):=bN i none λi=>bN x none λv=>bX (Nat.beq v.cells.length i.size) (some (v.cells,t,1,λid=>.p id 0)) none
def Xj(i:Option dW)(t:Nat):Option (List ap×Nat×Nat×(Nat->ap)):=bN i none λi=>bN (xQ i.zero) none λz=>some (z,t,1,λid=>.p id 0)
def Xk(E:Env)(t len:Nat)(ps:Option (List (Nat×ap))):Option (List ap×Nat×Nat×(Nat->ap)):=match E t,ps with
 |some { bH:=.slice e,.. },some vs=>bN (E e) none λaO=>bN (xQ aO.zero) none λz=>
  bX (Nat.ble (Nat.mul len aO.size) 16777216&&Nat.blt 0 (Nat.mul len aO.size)) (bN (zl (λj=>some (j*aO.size,aO.size)) (Bo len z) vs) none λcs=>some (cs,e,len,λid=>.sl id 0 len len)) (bX (Nat.beq len 0&&vs.isEmpty) (some ([],e,0,λid=>.sl id 0 0 0)) none)
 |_,_=>none
def Xl(E:Env)(t:Nat)(l c:Option ap):Option (List ap×Nat×Nat×(Nat->ap)):=match E t,l,c with
 |some { bH:=.slice e,.. },some l,some c=>bN (E e) none λaO=>bN l.nat none λn=>bN c.nat none λk=>bN (xQ aO.zero) none λz=>
  bX (Nat.ble n k&&(Nat.ble (Nat.mul aO.bytes k) 140737488355328&&Nat.ble k 9223372036854775807)) (some (Bo k z,e,k,λid=>.sl id 0 n k)) none
 |_,_,_=>none
def Bp(E:Env)(o:Oper)(an:be ap):Option (List ap×Nat×Nat×(Nat->ap)):=
 match o.op with
 | .box t x=>Xi (E t) t (dV an x)| .alloc t=>Xj (E t) t| .buildSlice t len parts=>Xk E t len (DF an parts.toList)| .makeSlice t l c=>Xl E t (dV an l) (dV an c)| _=>none
def Ka(i:Option dW)(m:bi)(x y:Option ap):Option (ap×bi):=bN i none λi=>bN x none λx=>bN y none λv=>bX (Nat.beq v.cells.length i.size) (xT m x v.cells λm=>some (.t [],m)) none
def Kb(i:Option dW)(m:bi):Option (ap×bi):=match i with
 |some { bH:=.map k e,.. }=>Bn m (.map []) λid m=>some (.m id,m)
 |_=>none
def Kc(i:Option dW)(v:ap):Bool:=match i,v with
 |some { bH:=.int k,.. },.i eQ _=>IntKind.l' k eQ| some { bH:=.string,.. },.s _=>true| _,_=>false
def Xm(ok:Bool)(z:ap)(r:Option ap):ap:=bX ok (bN r (.t [z,.b false]) λv=>.t [v,.b true]) (bN r z λv=>v)
def OV(P:Program)(E:Env)(t:Nat)(m:bi)(x y:Option ap)(ok:Bool):Option (ap×bi):=match E t,x,y with
 |some { bH:=.map k e,.. },some (.m id),some y=>bX (Kc (E k) y) (match m.t.get id with
  |some (.map es)=>bN (GJ y es) none λr=>bN (P.info? e) none λinf=>bN inf.zero none λz=>bN (DB z) none λz=>some (Xm ok z r,m)
  |_=>none) none
 |_,_,_=>none
def GL(E:Env)(t:Nat)(m:bi)(x y z:Option ap):Option (ap×bi):=match E t,x,y,z with
 |some { bH:=.map k e,.. },some (.m id),some y,some v=>bX (Kc (E k) y) (match m.t.get id with
  |some (.map es)=>bN (GK y v es) none λes=>m.t.na (some (.map es)) id λt=>some (.t [],⟨t,m.n⟩)
  |_=>none) none
 |_,_,_,_=>none
def Kd(G:GT)(m:bi)(id off n:Nat):Option (ap×bi):=ta G m.t (.p id off) n λl=>bN (DI l) none λl=>some (.s l,m)
def Ke(Y:gm)(m:bi)(s d:Nat)(x:Option ap):Option (ap×bi):=match Y.E s,Y.E d,x with
 |some { bH:=.slice e,.. },some { bH:=.string,.. },some (.sl id off n _)=>bX (DG (Y.E e)) (Kd Y.G m id off n) none| some { bH:=.slice e,.. },some { bH:=.string,.. },some (.sx id off _ n)=>bX (DG (Y.E e)) (Kd Y.G m id off n) none| some { bH:=.slice e,.. },some { bH:=.string,.. },some .sn=>bX (DG (Y.E e)) (some (.s [],m)) none| _,_,_=>none
def DJ:ap->Bool
 | .sn | .so | .sx ..=>true| .sl _ _ n c=>Nat.ble n c| _=>false
def OW(Y:gm)(m:bi)(eJ:List Nat)(l:Option (List ap)):Option (ap×bi):=match eJ,l with
 |[t,u],some [s,x]=>(match Y.E t with
  |some { bH:=.slice e,.. }=>bN (Y.E e) none λaO=>bX (wb (Y.E u) aO x) (DH Y.G m.t x aO.size λl=>bN (r7 x) none λk=>
    bX (Nat.beq k 0) (bX (DJ s) (some (s,m)) none) (bX (l.all ap.one) (GI Y.G m s l k aO.size aO.bytes e) none)) none
  |_=>none)
 |_,_=>none
def OX(Y:gm)(m:bi)(eJ:List Nat)(l:Option (List ap)):Option (ap×bi):=match eJ,l with
 |[t,u],some [.sl id off n c,.s q]=>(match Y.E t with
  |some { bH:=.slice e,.. }=>bN (Y.E e) none λaO=>bX (Nat.beq aO.size 1&&Nat.ble q.length n) (xT m (.p id off) (q.map λb=>.i .u8 (.ofNat b.toNat)) λm=>some (.i .i64 (.ofNat q.length),m)) none
  |_=>none)
 |_,_=>none
def OY(Y:gm)(m:bi)(eJ:List Nat)(l:Option (List ap)):Option (ap×bi):=match eJ,l with
 |[tG,it],some [.pn,.i .i64 (.ofNat 0)]=>some (.s [],m)
 |[tG,it],some [.p id 0,.i .i64 (.ofNat n)]=>(match Y.E tG,m.t.get id with
  |some { bH:=.pointer e,.. },some (.cells cs T fq)=>bN (Y.E e) none λaO=>
   bX (Nat.beq aO.size 1&&(Nat.beq T e&&Nat.blt 0 n)) (ta Y.G m.t (.p id 0) n λl=>bN (DI l) none λl=>bX (Nat.ble n 9223372036854775807) (m.t.na none id λt=>some (.s l,⟨t,m.n⟩)) none) none
  |_,_=>none)
 |_,_=>none
def Xn(Y:gm)(m:bi)(b:Builtin)(eJ:List Nat)(l:Option (List ap)):Option (ap×bi):=match b with
 | .append=>OW Y m eJ l| .copy=>OX Y m eJ l| .unsafeString=>OY Y m eJ l| _=>none
def OZ(Y:gm)(m:bi)(o:Oper)(an:be ap):Option (ap×bi):=
 match o.op with
 | .store t x y=>bN o.dst (Ka (Y.E t) m (dV an x) (dV an y)) λ_=>none
 | .makeMap t none=>Kb (Y.E t) m
 | .makeMap t (some x)=>(match dV an x with
  |some (.i _ _)=>Kb (Y.E t) m| _=>none)
 | .lookup t x y ok=>OV Y.P Y.E t m (dV an x) (dV an y) ok| .mapUpdate t x y z=>bN o.dst (GL Y.E t m (dV an x) (dV an y) (dV an z)) λ_=>none
 | .insert t x y z=>bN o.dst (GL Y.E t m (dV an x) (dV an y) (dV an z)) λ_=>none
 | .convert s d x=>Ke Y m s d (dV an x)| .call { callee:=.builtin b,args,argTypes }=>Xn Y m b argTypes.toList (nG an args.toList)| _=>none
def ll(E:Env)(op:Op):Nat:=match op with
 | .move _ | .assign _ | .pick .. | .binOp .. | .load .. | .nilCheck _ | .fieldAddr .. | .field .. | .indexAddr .. | .index .. | .build .. | .makeFunc .. | .extract .. | .unOp .. | .slice ..=>0| .alloc _ | .box .. | .buildSlice .. | .makeSlice ..=>1
 | .convert s d _=>(match E d with
  |some { bH:=.int _,.. }=>0| _=>2)
 | .call { callee:=.builtin .len,argTypes,.. }=>(match argTypes.toList with
  |[t]=>(match E t with
   |some { bH:=.map ..,.. }=>2| _=>0)
  |_=>2)
 | .call { callee:=.builtin .cap,.. }=>0| .call { callee:=.builtin .max,.. }=>0| .call { callee:=.builtin .min,.. }=>0| .call { callee:=.builtin .unsafeSliceData,.. }=>0| _=>2
def o9{R:Type}(dst:Option Nat)(an:be ap)(v:ap)(K:be ap->Option R):Option R:=bN dst (K an) λd=>OS v λv=>an.na (some v) d K
def Xo{R:Type}(call:ap->List ap->bi->Option (ap×bi))(dst:Option Nat)(f:Option ap)(l:Option (List ap))(an:be ap)(m:bi)(K:be ap->bi->Option R):Option R:=
 bN f none λf=>bN l none λl=>bN (call f l m) none λr=>bX (Nat.ble m.n r.2.n) (o9 dst an r.1 λan=>K an r.2) none
def Xp{R:Type}(dst:Option Nat)(r:Option (List ap×Nat×Nat×(Nat->ap)))(an:be ap)(m:bi)(K:be ap->bi->Option R):Option R:=
 bN dst none λd=>bN r none λr=>uz m r.1 r.2.1 λid m=>o9 (some d) an (r.2.2.2 id) λan=>K an m
def Xq{R:Type}(dst:Option Nat)(v:Option ap)(an:be ap)(m:bi)(K:be ap->bi->Option R):Option R:=
 bN v none λv=>o9 dst an v λan=>K an m
def Xr{R:Type}(dst:Option Nat)(n:Nat)(r:Option (ap×bi))(an:be ap)(K:be ap->bi->Option R):Option R:=
 bN r none λr=>bX (Nat.ble n r.2.n) (o9 dst an r.1 λan=>K an r.2) none
def Xs{R:Type}(Y:gm)(k:Nat)(o:Oper)(an:be ap)(m:bi)(K:be ap->bi->Option R):Option R:=match k with
 |0=>Xq o.dst (uy Y.P Y.E Y.G m.t o.op an) an m K| 1=>Xp o.dst (Bp Y.E o an) an m K| _=>Xr o.dst m.n (OZ Y m o an) an K
def zm{R:Type}(Y:gm)(call:ap->List ap->bi->Option (ap×bi))(o:Oper)(an:be ap)(m:bi)(K:be ap->bi->Option R):Option R:=
 match o.op with
 | .call { callee:=.value f,args,.. }=>Xo call o.dst (dV an f) (nG an args.toList) an m K| op=>Xs Y (ll Y.E op) o an m K
def Bq{R:Type}(o:Oper)(an:be ap)(K:be ap->Option R):Option R:=match o.dst with
 |none=>K an| some d=>an.na (some (.t [])) d K
def uA(ops:List Oper)(o:Oper)(an:be ap):Option Bool:=match o.guard with
 |none=>some true
 |some (j,b)=>match(v' ops j).bind (·.dst)with
  |none=>none
  |some d=>match an.get d with
   |some (.b c)=>some (c == b)| some (.t _)=>some false| _=>none
def DK(Y:gm)(call:ap->List ap->bi->Option (ap×bi))(ops:List Oper)(l:List Oper):be ap->bi->Option (be ap×bi):=
 @List.rec Oper (λ_=>be ap->bi->Option (be ap×bi)) (λan m=>some (an,m)) (λo _ a8 an m=>bN (uA ops o an) none λw=>bX w (zm Y call o an m a8) (Bq o an λan=>a8 an m)) l
def Br(E:Env)(ops:List Oper)(i:Nat):Nat:=bN (v' ops i) 2 λo=>ll E o.op
def xU(E:Env)(ops:List Oper):List Nat:=(List.range ops.length).filter λi=>Nat.beq (Br E ops i) 2
def DL(es gH:List Nat)(i:Nat):Nat:=(es.filter λe=>(gH.getD i 0).testBit e).length
def p6(es gH:List Nat)(i:Nat):Nat:=(es.filter λe=>!(gH.getD e 0).testBit i).length
def Xt(E:Env)(ops:List Oper)(es gH:List Nat)(j:Nat):List (Nat×Nat):=((List.range ops.length).filter λi=>!Nat.beq (Br E ops i) 2&&Nat.beq (DL es gH i) j).map λi=>(i,Br E ops i)
def Xu(E:Env)(ops:List Oper)(es gH:List Nat):List Nat->Nat->List (Nat×Nat)
 |[],j=>Xt E ops es gH j| e::l,j=>Xt E ops es gH j++(e,2)::Xu E ops es gH l (j+1)
def GM(E:Env)(ops:List Oper):List (Nat×Nat):=Xu E ops (xU E ops) (kF ops) (xU E ops) 0
def wc(ops:List Oper):List (Nat×Nat)->Nat->Bool
 |[],k=>Nat.beq k (2^ops.length-1)
 |(i,_)::l,k=>!k.testBit i&&(match ops[i]? with
  |some o=>E0 o k&&wc ops l (k ||| 2^i)| none=>false)
def Kf(gH:List Nat):List Nat->Bool
 |[]=>true| x::l=>l.all (λy=>(gH.getD y 0).testBit x)&&Kf gH l
def Xv(E:Env)(ops:List Oper):Bool:=Am ops&&(wc ops (GM E ops) 0&&(Kf (kF ops) (xU E ops)&&(((GM E ops).filter λr=>Nat.beq r.2 2).map (·.1) == xU E ops)))
mutual
def DM:ap->ap->Bool
 | .b x,.b w=>x == w| .i k x,.i l w=>IntKind.l' k l&&r5 x w| .s x,.s w=>ux x w| .pn,.pn=>true| .p i x,.p j w=>Nat.beq i j&&Nat.beq x w| .g i x,.g j w=>Nat.beq i j&&Nat.beq x w| .sn,.sn=>true| .sl i x n c,.sl j w m d=>Nat.beq i j&&(Nat.beq x w&&(Nat.beq n m&&Nat.beq c d))| .sx i x n c,.sx j w m d=>Nat.beq i j&&(Nat.beq x w&&(Nat.beq n m&&Nat.beq c d))| .gs i x n c,.gs j w m d=>Nat.beq i j&&(Nat.beq x w&&(Nat.beq n m&&Nat.beq c d))| .mn,.mn=>true| .m i,.m j=>Nat.beq i j| .f g l r,.f h m s=>Nat.beq g h&&(we l m&&we r s)| .y i,.y j=>Nat.beq i j| .fn,.fn=>true| .ni,.ni=>true| .t l,.t m=>we l m| .a l,.a m=>we l m| _,_=>false
def we:List ap->List ap->Bool
 |[],[]=>true| x::l,w::m=>DM x w&&we l m| _,_=>false
end
inductive p7 where
 |made(i id:Nat)(l:List ap)(T:Nat)| load (i:Nat) (o:Oper) (an:be ap) (v:ap)
def oo(Y:gm)(call:ap->List ap->bi->Option (ap×bi))(ops:List Oper):List (Nat×Nat)->be ap->bi->List bi->List p7->Option (be ap×bi×List bi×List p7)
 |[],an,m,S,A=>some (an,m,m::S,A)|(i,k)::rest,an,m,S,A=>bN (v' ops i) none λo=>bN (uA ops o an) none λw=>bX (Nat.beq (ll Y.E o.op) k) (bX w (bX (Nat.beq k 0) (bN (uy Y.P Y.E Y.G m.t o.op an) none λv=>o9 o.dst an v λcV=>oo Y call ops rest cV m S (bX (pC o.op) (.load i o an v::A) A)) (bX (Nat.beq k 1) (bN o.dst none λd=>bN (Bp Y.E o an) none λr=>uz m r.1 r.2.1 λid m=>o9 (some d) an (r.2.2.2 id) λan=>oo Y call ops rest an m S (.made i id r.1 r.2.1::A)) (zm Y call o an m λan m'=>oo Y call ops rest an m' (m::S) A))) (Bq o an λan=>oo Y call ops rest an m (bX (Nat.beq k 2) (m::S) S) A)) none
def DN(S:List bi)(lo hi:Nat)(p:bi->Bool):Bool:=((S.drop lo).take (hi+1-lo)).all p
def O0(Y:gm)(o:Oper)(an:be ap)(v:ap)(m:bi):Bool:=match uy Y.P Y.E Y.G m.t o.op an with
 |some u=>DM u v| none=>false
def O1(id:Nat)(l:List ap)(T:Nat)(m:bi):Bool:=Nat.blt id m.n&&(match m.t.get id with
 |some (.cells cs tx fq)=>Nat.beq tx T&&(Nat.beq fq l.length&&(match cs.Dz 0 l.length (λdy=>some dy)with
  |some dy=>we l dy| none=>false))
 |_=>false)
def O2(Y:gm)(es gH:List Nat)(S:List bi):p7->Bool
 | .made i id l T=>DN S (DL es gH i) (p6 es gH i) (O1 id l T)| .load i o an v=>DN S (DL es gH i) (p6 es gH i) (O0 Y o an v)
def O3(Y:gm)(call:ap->List ap->bi->Option (ap×bi))(ops:List Oper)(an:be ap)(m:bi):Option (be ap×bi):=
 bX (Xv Y.E ops) (match oo Y call ops (GM Y.E ops) an m [] []with
  |none=>none| some (an,m,S,A)=>bX (A.all (O2 Y (xU Y.E ops) (kF ops) S.reverse)) (some (an,m)) none) none
def DO{R:Type}:List Nat->List ap->be ap->(be ap->Option R)->Option R
 |[],[],an,K=>K an| t::ps,v::vs,an,K=>an.na (some v) t λan=>DO ps vs an K
 |_,_,_,_=>none
def zn(Y:gm)(an:be ap)(m:be fa):List ResultVar->Option (List ap)
 |[]=>some []
 | .tmp t::l=>(match an.get t,zn Y an m l with
  |some v,some vs=>some (v::vs)| _,_=>none)
 | .cell t ty::l=>(match an.get t,Y.E ty,zn Y an m l with
  |some x,some i,some vs=>(match ta Y.G m x i.size λl=>DE i.bH.agg l with
   |some v=>some (v::vs)| none=>none)
  |_,_,_=>none)
abbrev pb:=tB×be ap×bi
abbrev tb:=Bool->Nat->Code->be ap->bi->Option pb
def Xw:List ap->ap
 |[v]=>v| vs=>.t vs
def Kg(Y:gm)(an:be ap)(m:bi)(aJ:List ResultVar):Option (ap×bi):=bN (zn Y an m.t aJ) none λvs=>some (Xw vs,m)
def Xx(Y:gm)(r:Option pb)(aJ:List ResultVar):Option (ap×bi):=match r with
 |some (.normal,an,m)=>Kg Y an m aJ| some (.ret,an,m)=>Kg Y an m aJ| _=>none
def Kh(Y:gm)(rec:tb)(g:Nat)(args:List ap)(m:bi):Option (ap×bi):=
 bN (Y.P.funcs[g]?) none λfn=>bN fn.body none λc=>bX (Nat.ble args.length fn.ntmps) (be.xP args (be.bare 12) 0 λan=>Xx Y (rec true fn.ntmps c an m) fn.results.toList) none
def xV(Y:gm)(rec:tb)(g:Nat)(args:List ap)(m:bi):Option (ap×bi):=bN (Y.pr g args m) (Kh Y rec g args m) some
def O4(l:Nat)(e:Option fa)(jump:Option Code)(m:bi):Option (ap×bi):=match e with
 |some (.loop true n mB ps ff body)=>m.t.na (some (bN jump (.loop false n mB ps ff body) λc=>.done c n mB ps ff body)) l λt=>some (.b jump.isNone,⟨t,m.n⟩)
 |_=>none
def Xy(l:Nat)(r:Option pb):Option (ap×bi):=bN r none λr=>O4 l (r.2.2.t.get l) (CL r.1) r.2.2
def O5(rec:tb)(l n:Nat)(body:Code)(e:Option fa)(an:be ap)(m:bi):Option (ap×bi):=match e with
 |some (.loop false lX mB ps ff O6)=>m.t.na (some (.loop true lX mB ps ff O6)) l λt=>Xy l (rec false n body an ⟨t,m.n⟩)
 |_=>none
def Xz(rec:tb)(l n:Nat)(body:Code)(r:Option pb):Option (ap×bi):=match r with
 |some (.normal,an,m)=>O5 rec l n body (m.t.get l) an m| _=>none
def O7(rec:tb)(l:Nat)(args:List ap)(m:bi):Option (ap×bi):=match m.t.get l with
 |some (.loop false n mB ps ff body)=>DO ps args mB λan=>Xz rec l n body (rec false n ff an m)
 |_=>none
def Ki(Y:gm)(rec:tb)(f:ap)(args:List ap)(m:bi):Option (ap×bi):=match f with
 | .f g l r=>xV Y rec g (l++(args++r)) m| .y l=>O7 rec l args m| _=>none
def O8:Code->Option tB
 | .exit id=>some (.exit id)| .goto l=>some (.goto l)| .ret=>some .ret| _=>none
def GN(r:Option pb)(k:be ap->bi->Option pb):Option pb:=match r with
 |some (.normal,an,m)=>k an m| r=>r
def XA(id:Nat)(r:Option pb):Option pb:=match r with
 |some (.exit j,an,m)=>bX (Nat.beq j id) (some (.normal,an,m)) (some (.exit j,an,m))| r=>r
def Kj(r:Option (be ap×bi)):Option pb:=bN r none λr=>some (.normal,r.1,r.2)
def XB(v:Option ap)(x y:Option pb):Option pb:=match v with
 |some (.b b)=>bX b x y| _=>none
def GO(rec:tb)(h5:Bool)(n:Nat)(c:Code)(k:Nat):Code->be ap->bi->Option pb:=@Nat.rec (λ_=>Code->be ap->bi->Option pb) (λ_ _ _=>none)
 (λ_ a8 x an m=>match rec h5 n x an m with
  |some (.goto l,an,m)=>bN (findLabel c l) none λrest=>a8 rest an m
  |r=>r) k
def XC(l:Nat)(an:be ap)(r:Option (ap×bi)):Option pb:=bN r none λr=>match r.2.t.get l with
 |some (.loop false ..)=>r.2.t.na none l λt=>some (.normal,an,⟨t,r.2.n⟩)
 |some (.done c ..)=>bN (O8 c) none λex=>r.2.t.na none l λt=>some (ex,an,⟨t,r.2.n⟩)
 |_=>none
def O9(Y:gm)(rec:tb)(h5:Bool)(n:Nat)(v:Option ap)(ps:List Nat)(ff body:Code)(an:be ap)(m:bi):Option pb:=match h5,v with
 |true,some (.f g [] r)=>Bn m (.loop false n an ps ff body) λl m=>XC l an (Kh Y rec g (.y l::r) m)
 |_,_=>none
def O'(Y:gm)(f:Nat)(rec:tb):tb:=λh5 n c an m=>match c with
 | .skip=>some (.normal,an,m)| .label _=>some (.normal,an,m)| .ret=>some (.ret,an,m)| .exit id=>some (.exit id,an,m)| .goto l=>some (.goto l,an,m)| .seq x y=>GN (rec h5 n x an m) (rec h5 n y)| .block id c=>XA id (rec h5 n c an m)| .cond c x y=>XB (dV an c) (rec h5 n x an m) (rec h5 n y an m)| .loop c=>GN (rec h5 n c an m) (rec h5 n (.loop c))| .region _ ops false=>Kj (DK Y (Ki Y rec) ops.toList ops.toList an m)| .region _ ops true=>Kj (O3 Y (Ki Y rec) ops.toList an m)| .scope c=>GO rec h5 n c f c an m| .rangeFunc x ps ff body=>O9 Y rec h5 n (dV an x) ps.toList ff body an m| .refuse _=>none
def kY(Y:gm)(f:Nat):tb:=@Nat.rec (λ_=>tb) (λ_ _ _ _ _=>none) (λf a8=>O' Y f a8) f
end
section
variable{α R:Type}
def jS(b:Bool)(x y:α):bX b x y=bif b then x else y:=by cases b<;>rfl
def ct{o:Option α}{f:α->Option R}{r:R}(h:bN o none f=some r):∃ v,o=some v/\f v=some r:=by
 cases o with
 |none=>cases h| some v=>exact⟨v,rfl,h⟩
def fV{x:Option α}{r:α}(h:bX b x none=some r):b=true/\x=some r:=by
 cases b with
 |true=>exact⟨rfl,h⟩| false=>cases h
def zo{x:Option α}{r:α}(h:bX b none x=some r):b=false/\x=some r:=by
 cases b with
 |false=>exact⟨rfl,h⟩| true=>cases h
def be.GP(x:Option α)(l r:be α)(k:Nat):(be.node x l r).get k=bif Nat.beq k 0 then x else bif Nat.beq (k%2) 1 then l.get (k/2)else r.get (k/2-1):=by show bX _ _ (bX _ _ _)=_;rw[jS,jS];rfl
def be.oq(v:Option α):∀ (t:be α) (k:Nat),∃ bh:be α,(∀ {R:Type} (K:be α->R),t.na v k K=K bh)/\∀ j x,bh.get j=some x->(j=k/\v=some x)\/(j≠k/\t.get j=some x)
 | .nil,k=>by
  cases af:Nat.beq k 0 with
  |true=>
   have:=dD af;subst this;refine⟨.node v .nil .nil,λK=>rfl,λj x h=>?_⟩;rw[be.GP]at h;cases aj:Nat.beq j 0 with
   |true=>rw[aj]at h;exact .inl ⟨dD aj,h⟩
   |false=>
    rw[aj]at h;cases hm:Nat.beq (j%2) 1<;>(rw[hm]at h;cases h)
  |false=>refine⟨.nil,λK=>?_,λj x h=>by cases h⟩;show bX _ _ _=_;rw[jS,af];rfl
 | .node x l r,k=>by
  cases af:Nat.beq k 0 with
  |true=>
   have:=dD af;subst this;refine⟨.node v l r,λK=>rfl,λj y h=>?_⟩;rw[be.GP]at h |-;cases aj:Nat.beq j 0 with
   |true=>rw[aj]at h;exact .inl ⟨dD aj,h⟩| false=>rw[aj]at h;exact .inr ⟨(λe=>by subst e;cases aj),h⟩
  |false=>
   have gT:k≠0:=λe=>by subst e;cases af
   cases hm:Nat.beq (k%2) 1 with
   |true=>
    have mV:=dD hm;obtain⟨dy,U,ab⟩:=be.oq v l (k/2);refine⟨.node x dy r,λK=>?_,λj y h=>?_⟩;·show bX _ _ (bX _ _ _)=_;rw[jS,jS,af];show(bif Nat.beq (k%2) 1 then _ else _)=_;rw[hm];exact U _
    ·rw[be.GP]at h |-;cases aj:Nat.beq j 0 with
     |true=>rw[aj]at h;exact .inr ⟨λe=>by have:=dD aj;omega,h⟩
     |false=>
      rw[aj]at h;have ahJ:j≠0:=λe=>by subst e;cases aj
      cases tc:Nat.beq (j%2) 1 with
      |true=>
       have ahK:=dD tc;rw[tc]at h;rcases ab _ _ h with⟨e,ai⟩ | ⟨e,ai⟩;·exact .inl ⟨by omega,ai⟩
       ·exact .inr ⟨λc0=>e (by rw[c0]),ai⟩
      |false=>rw[tc]at h;exact .inr ⟨(λe=>by subst e;rw[hm]at tc;cases tc),h⟩
   |false=>
    have mV:k%2≠1:=λe=>by rw[e]at hm;cases hm
    obtain⟨tE,U,ab⟩:=be.oq v r (k/2-1);refine⟨.node x l tE,λK=>?_,λj y h=>?_⟩;·show bX _ _ (bX _ _ _)=_;rw[jS,jS,af];show(bif Nat.beq (k%2) 1 then _ else _)=_;rw[hm];exact U _
    ·rw[be.GP]at h |-;cases aj:Nat.beq j 0 with
     |true=>rw[aj]at h;exact .inr ⟨λe=>by have:=dD aj;omega,h⟩
     |false=>
      rw[aj]at h;have ahJ:j≠0:=λe=>by subst e;cases aj
      cases tc:Nat.beq (j%2) 1 with
      |true=>rw[tc]at h;exact .inr ⟨(λe=>by subst e;rw[hm]at tc;cases tc),h⟩
      |false=>
       have ahK:j%2≠1:=λe=>by rw[e]at tc;cases tc
       rw[tc]at h;rcases ab _ _ h with⟨e,ai⟩ | ⟨e,ai⟩;·exact .inl ⟨by omega,ai⟩
       ·exact .inr ⟨λc0=>e (by rw[c0]),ai⟩
def be.DP(t:be α):∀ (n off:Nat) (K:List α->Option R) (r:R),t.Dz off n K=some r->∃ l,l.length=n/\(∀ i,i<n->t.get (off+i)=l[i]?)/\K l=some r
 |0,off,K,r,h=>⟨[],rfl,λi hi=>by omega,h⟩
 |n+1,off,K,r,h=>by
  have aG:bN (t.get off) none (λv=>t.Dz (off+1) n λl=>K (v::l))=some r:=h;obtain⟨v,ai,aG⟩:=ct aG;obtain⟨l,U,ab,ak⟩:=be.DP t n (off+1) _ r aG;refine⟨v::l,by simp[U],λi hi=>?_,ak⟩;cases i with
  |zero=>simpa using ai| succ i=>have:=ab i (by omega);rw[show off+(i+1)=off+1+i by omega,this];simp
def be.xW:∀ (l:List α) (t:be α) (off:Nat),∃ bh:be α,(∀ {R:Type} (K:be α->R),be.xP l t off K=K bh) /\ ∀ j x,bh.get j=some x->(off<=j/\l[j-off]?=some x)\/((j<off\/off+l.length<=j)/\t.get j=some x)
 |[],t,off=>⟨t,λK=>rfl,λj x h=>.inr ⟨by simp;omega,h⟩⟩
 |v::l,t,off=>by
  obtain⟨t1,U,ab⟩:=be.oq (some v) t off;obtain⟨t2,ak,aL⟩:=be.xW l t1 (off+1);refine⟨t2,λK=>(U _).trans (ak K),λj x h=>?_⟩;rcases aL j x h with⟨a6,bb⟩ | ⟨a6,bb⟩;·exact .inl ⟨by omega,by rw[show j-off=(j-(off+1))+1 by omega];simpa using bb⟩
  ·rcases ab j x bb with⟨rfl,e⟩ | ⟨e,b0⟩
   ·exact .inl ⟨b2 _,by simp at e;simp[e]⟩
   ·exact .inr ⟨by simp only[cS];omega,b0⟩
end
def Pa(n:Nat)(K:Nat->R):q1 n K=K n:=rfl
def ahL(n:Int)(K:Int->R):Xg n K=K n:=by cases n<;>rfl
def ahM(b:Bool)(K:Bool->R):Xh b K=K b:=by cases b<;>rfl
def ahN(v:ap)(K:ap->R):OS v K=K v:=by
 cases v with
 |b x=>exact ahM x λx=>K (.b x)
 |i k n=>exact ahL n λn=>K (.i k n)
 |_=>rfl
def Pb(a b:Nat):Nat.beq a b=decide (a=b):=by
 by_cases h:a=b
 ·subst h;simp
 ·rw[hx h];simp[h]
def Kk(a b:Nat):Nat.ble a b=decide (a<=b):=by
 by_cases h:a<=b
 ·rw[xO h];simp[h]
 ·cases ah:Nat.ble a b with
  |false=>simp[h]| true=>exact absurd (b9 ah) h
def Bs(a b:Int):r5 a b=decide (a=b):=by
 cases a<;>cases b<;>simp only[r5,Pb]<;>simp
 omega
def Kl(a b:Int):Bi a b=decide (a<=b):=by
 cases a<;>cases b<;>simp only[Bi]
 ·rw[Kk];simp only[vK];exact Int.ofNat_le.symm
 ·symm;simp only[rA];rename_i a b;have:=Int.negSucc_lt_zero b;have:(0:Int)<=Int.ofNat a:=JY a;omega
 ·symm;simp only[fk];rename_i a b;have:=Int.negSucc_lt_zero a;have:(0:Int)<=Int.ofNat b:=JY b;omega
 ·rw[Kk];simp only[vK,Int.negSucc_eq];omega
def ahO(a b:Int):Cq a b=decide (a<b):=by
 unfold Cq;rw[Kl];by_cases h:a<b
 ·simp[h]
 ·simp[h];omega
def ahP(op:BinOp)(x y:Int):OC op x y=wV op x y:=by cases op<;>simp only[OC,wV,Bs,ahO,Kl]
def zp(k:IntKind)(n:Int):v9 k n=k.wrap n:=by
 cases n with
 |negSucc n=>rfl
 |ofNat n=>
  simp only[v9];cases h:Nat.ble n (J5 k)with
  |false=>rfl
  |true=>
   have aG:=b9 h;simp only[bt];cases k<;>simp only[J5]at aG<;>simp only[IntKind.wrap,IntKind.signed,IntKind.bits]<;>simp<;>omega
def ahQ(a b:Int):WR a b=a+b:=by cases a<;>cases b<;>rfl
def ahR(a b:Int):OD a b=a-b:=by
 cases a<;>cases b<;>try rfl
 rename_i a b;simp only[OD];cases h:Nat.ble b a with
 |false=>rfl| true=>have:=b9 h;show((a-b:Nat):Int)=(a:Int)-b;omega
def ahS(a b:Int):WS a b=a*b:=by cases a<;>cases b<;>rfl
def ahT(a b:Int):WT a b=a.tdiv b:=by cases a<;>cases b<;>rfl
def ahU(a b:Int):WU a b=a.tmod b:=by cases a<;>cases b<;>rfl
def ahV(a:Int)(j:Nat):WV a j=a*2^j:=by
 cases a with
 |negSucc a=>rfl| ofNat a=>show((a*2^j:Nat):Int)=(a:Int)*2^j;simp
def ahW(a:Int)(j:Nat):WW a j=a.fdiv (2^j):=by
 cases a with
 |negSucc a=>rfl| ofNat a=>show((a/2^j:Nat):Int)=(a:Int).fdiv (2^j);rw[show(2:Int)^j=((2^j:Nat):Int) by simp];rw[ID _ (JY _)];simp
def XD(j b:Nat):(bif Nat.ble j b then j else b)=min j b:=by
 rw[Kk];by_cases h:j<=b
 ·simp[h,ss h]
 ·simp[h];omega
def zq{a:Nat}(h:a<=18446744073709551615):(BitVec.ofInt IntKind.u64.bits (Int.ofNat a)).toNat=a:=by show(BitVec.ofInt 64 (a:Int)).toNat=a;rw[BitVec.ofInt_natCast,JZ];omega
def wrap64{a:Nat}(h:a<=18446744073709551615):IntKind.u64.wrap (a:Int)=Int.ofNat a:=by show IntKind.u64.wrap (.ofNat a)=_;rw[<-zp];simp only[v9,J5,xO h,bt]
def Km{op:BinOp}{k:IntKind}{x y r:Int}(h:DC op k x y=some r):tt op k x y=some r:=by
 unfold DC at h;split at h
 ·rename_i a b;cases aC:(Nat.ble a 18446744073709551615&&Nat.ble b 18446744073709551615)with
  |false=>rw[aC]at h;cases h
  |true=>
   rw[aC]at h;rw[b']at aC;have aX:=b9 aC.1;have ah:=b9 aC.2;have v7:a<2^64:=by omega
   have Kn:b<2^64:=by omega
   simp only[bt]at h;split at h;·rw[<-h];simp only[tt,IG,zq aX,zq ah];rw[wrap64 (by have:=Nat.and_lt_two_pow a Kn;omega)];rfl
   ·rw[<-h];simp only[tt,BitVec.toNat_or,zq aX,zq ah];rw[wrap64 (by have:=Nat.or_lt_two_pow v7 Kn;omega)];rfl
   ·rw[<-h];simp only[tt,BitVec.toNat_xor,zq aX,zq ah];rw[wrap64 (by have:=Nat.xor_lt_two_pow v7 Kn;omega)];rfl
   ·rw[<-h];have az:(~~~(BitVec.ofInt IntKind.u64.bits (Int.ofNat b))).toNat=18446744073709551615-b:=by rw[BitVec.toNat_not,zq ah];rfl
    simp only[tt,IG,zq aX,az];rw[wrap64 (by have:=Nat.and_lt_two_pow a (show 18446744073709551615-b<2^64 by omega);omega)];rfl
   ·cases h
 ·exact h
def ahX(a b:UInt8):OE a b=decide (a=b):=by unfold OE;rw[Pb];simp only[vK];exact UInt8.toNat_inj
def DQ:∀ (l m:List UInt8),ux l m=decide (l=m)
 |[],[]=>by simp[ux]
 |[],_::_=>by simp[ux]
 |_::_,[]=>by simp[ux]
 |a::l,b::m=>by
  simp only[ux,ahX,DQ l m];by_cases h:a=b;·subst h;simp
  ·simp[h]
def zr{α:Type}:∀ (l:List α) (n:Nat),v' l n=l[n]?
 |[],n=>by simp[v']
 |v::l,n=>by
  unfold v';cases n with
  |zero=>rfl| succ n=>exact(zr l n).trans (by simp)
def GQ{α:Type}:∀ (l:List α) (n:Nat),Bk l n=l.drop n
 |[],n=>by simp[Bk]
 |v::l,n=>by
  unfold Bk;cases n with
  |zero=>rfl| succ n=>exact(GQ l n).trans (by simp)
def XE{n:Nat}{l r:List ap}(h:Bj n l=some r):r=l.take n/\r.length=n:=by
 induction n generalizing l r with
 |zero=>simp[Bj]at h;subst h;simp
 |succ n a8=>
  cases l with
  |nil=>simp[Bj]at h
  |cons v l=>
   simp only[Bj]at h;split at h;·rename_i q a0;obtain⟨rfl,ab⟩:=a8 a0;cases h;simp at ab |-;omega
   ·cases h
structure Loc where
 b:Nat
 o:Nat
 c:Nat
abbrev bF:=Nat->Option Loc
def bF.le(D bp:bF):Prop:=∀ i a,D i=some a->bp i=some a
mutual
def aS(D:bF):ap->Value->Prop
 | .b x,u=>u=.bool x| .i k n,u=>u=.int k n| .s l,u=>u=.string ⟨l.toArray⟩| .pn,u=>u=.pointer none| .p id off,u=>∃ a,D id=some a/\u=.pointer (some ⟨a.b,a.o+off,none⟩)| .g n off,u=>u=.pointer (some ⟨n,off,none⟩)| .sn,u=>u=.slice none 0 0| .sl id off n c,u=>∃ a,D id=some a/\u=.slice (some ⟨a.b,a.o+off,none⟩) n c| .sx id off e n,u=>∃ a,D id=some a/\e+n<=a.c/\u=.slice (some ⟨a.b,a.o+off,none⟩) n (a.c-e)| .gs n off k c,u=>u=.slice (some ⟨n,off,none⟩) k c| .so,u=>∃ a c,u=.slice (some a) 0 c| .mn,u=>u=.map none| .m id,u=>∃ a,D id=some a/\u=.map (some a.b)| .f g l r,u=>∃ vs ws,bD D l vs/\bD D r ws/\u=.func (.func g) vs.toArray ws.toArray| .y id,u=>∃ a,D id=some a/\u=.func (.yield a.b) #[] #[]| .fn,u=>u=.nilFunc| .ni,u=>u=.nilIface| .DA t v,u=>∃ x,aS D v x/\u=.iface t x| .t l,u=>∃ vs,bD D l vs/\u=.tuple vs.toArray| .a l,u=>∃ vs,bD D l vs/\u=.agg vs.toArray
def bD(D:bF):List ap->List Value->Prop
 |[],us=>us=[]| v::l,us=>∃ x xs,aS D v x/\bD D l xs/\us=x::xs
end
section
variable{D bp:bF}
mutual
def aS.mono(h:D.le bp):∀ {v:ap} {u:Value},aS D v u->aS bp v u
 | .b _,_,ai | .i _ _,_,ai | .s _,_,ai | .pn,_,ai | .g _ _,_,ai | .sn,_,ai | .gs ..,_,ai | .so,_,ai | .mn,_,ai | .fn,_,ai | .ni,_,ai=>by simpa only[aS]using ai
 | .p ..,_,ai | .sl ..,_,ai | .m _,_,ai | .y _,_,ai=>by simp only[aS]at ai |-;obtain⟨a,U,ab⟩:=ai;exact⟨a,h _ _ U,ab⟩
 | .sx ..,_,ai=>by simp only[aS]at ai |-;obtain⟨a,U,ab⟩:=ai;exact⟨a,h _ _ U,ab⟩
 | .f _ l r,_,ai=>by simp only[aS]at ai |-;obtain⟨vs,ws,U,ab,ak⟩:=ai;exact⟨vs,ws,bD.mono h U,bD.mono h ab,ak⟩
 | .DA _ v,_,ai=>by simp only[aS]at ai |-;obtain⟨x,U,ab⟩:=ai;exact⟨x,aS.mono h U,ab⟩
 | .t l,_,ai=>by simp only[aS]at ai |-;obtain⟨x,U,ab⟩:=ai;exact⟨x,bD.mono h U,ab⟩
 | .a l,_,ai=>by simp only[aS]at ai |-;obtain⟨x,U,ab⟩:=ai;exact⟨x,bD.mono h U,ab⟩
def bD.mono(h:D.le bp):∀ {l:List ap} {us:List Value},bD D l us->bD bp l us
 |[],_,ai=>by simpa only[bD]using ai
 |v::l,_,ai=>by simp only[bD]at ai |-;obtain⟨x,xs,U,ab,ak⟩:=ai;exact⟨x,xs,aS.mono h U,bD.mono h ab,ak⟩
end
def bD.nil:bD D [] []:=by simp[bD]
def bD.cons{v:ap}{l:List ap}{x:Value}{xs:List Value}(h:aS D v x)(k:bD D l xs):bD D (v::l) (x::xs):=by simp only[bD];exact⟨x,xs,h,k,rfl⟩
def bD.j'{v:ap}{l:List ap}{us:List Value}(h:bD D (v::l) us):∃ x xs,aS D v x/\bD D l xs/\us=x::xs:=by simpa only[bD]using h
def bD.nb{us:List Value}(h:bD D [] us):us=[]:=by simpa only[bD]using h
def bD.len:∀ {l:List ap} {us:List Value},bD D l us->us.length=l.length
 |[],_,h=>by rw[h.nb];rfl
 |v::l,_,h=>by obtain⟨x,xs,U,ab,rfl⟩:=h.j';simp[bD.len ab]
def bD.get:∀ {l:List ap} {us:List Value} {i:Nat} {v:ap},bD D l us->l[i]?=some v->∃ x,us[i]?=some x/\aS D v x
 |[],_,i,v,h,hi=>by simp at hi
 |w::l,_,i,v,h,hi=>by
  obtain⟨x,xs,U,ab,rfl⟩:=h.j';cases i with
  |zero=>simp at hi;subst hi;exact⟨x,rfl,U⟩| succ i=>simpa using bD.get ab (by simpa using hi)
def bD.Pc:∀ {l:List ap} {us:List Value},us.length=l.length->(∀ (i:Nat) (v:ap),l[i]?=some v->∃ x,us[i]?=some x/\aS D v x)->bD D l us
 |[],us,ay,h=>by have:us=[]:=hZ (by simpa using ay);subst this;exact .nil
 |w::l,us,ay,h=>by
  cases us with
  |nil=>simp at ay| cons x xs=>obtain⟨y,aA,U⟩:=h 0 w rfl;simp at aA;subst aA;exact .cons U (bD.Pc (by simpa using ay) λi v hi=>by simpa using h (i+1) v (by simpa using hi))
def bD.append:∀ {l:List ap} {us:List Value} {m:List ap} {ws:List Value},bD D l us->bD D m ws->bD D (l++m) (us++ws)
 |[],_,m,ws,h,k=>by rw[h.nb];exact k
 |w::l,_,m,ws,h,k=>by obtain⟨x,xs,U,ab,rfl⟩:=h.j';exact .cons U (bD.append ab k)
def bD.take:∀ {l:List ap} {us:List Value} (n:Nat),bD D l us->bD D (l.take n) (us.take n)
 |[],_,n,h=>by rw[h.nb];simpa using bD.nil
 |w::l,_,n,h=>by
  obtain⟨x,xs,U,ab,rfl⟩:=h.j';cases n with
  |zero=>simpa using bD.nil| succ n=>simpa using bD.cons U (bD.take n ab)
def bD.drop:∀ {l:List ap} {us:List Value} (n:Nat),bD D l us->bD D (l.drop n) (us.drop n)
 |[],_,n,h=>by rw[h.nb];simpa using bD.nil
 |w::l,us,n,h=>by
  cases n with
  |zero=>simpa using h| succ n=>obtain⟨x,xs,U,ab,rfl⟩:=h.j';simpa using bD.drop n ab
def bD.CY{l:List ap}{us:List Value}(h:bD D l us):∀ n,bD D (Bo n l) ((List.replicate n us).flatten)
 |0=>by simpa[Bo]using bD.nil
 |n+1=>by rw[AO,M2];exact h.append (bD.CY h n)
def aS.bool{x:Bool}{u:Value}(h:aS D (.b x) u):u=.bool x:=by simpa only[aS]using h
def aS.int{k:IntKind}{n:Int}{u:Value}(h:aS D (.i k n) u):u=.int k n:=by simpa only[aS]using h
def aS.str{l:List UInt8}{u:Value}(h:aS D (.s l) u):u=.string ⟨l.toArray⟩:=by simpa only[aS]using h
def aS.ptr{id off:Nat}{u:Value}(h:aS D (.p id off) u):∃ a,D id=some a/\u=.pointer (some ⟨a.b,a.o+off,none⟩):=by simpa only[aS]using h
def aS.p8{id off:Nat}{u:Value}(h:aS D (.g id off) u):u=.pointer (some ⟨id,off,none⟩):=by simpa only[aS]using h
def aS.r8{id off n c:Nat}{u:Value}(h:aS D (.sl id off n c) u):∃ a,D id=some a/\u=.slice (some ⟨a.b,a.o+off,none⟩) n c:=by simpa only[aS]using h
def aS.uB{id off e n:Nat}{u:Value}(h:aS D (.sx id off e n) u):∃ a,D id=some a/\e+n<=a.c/\u=.slice (some ⟨a.b,a.o+off,none⟩) n (a.c-e):=by simpa only[aS]using h
def aS.Pd{id off n c:Nat}{u:Value}(h:aS D (.gs id off n c) u):u=.slice (some ⟨id,off,none⟩) n c:=by simpa only[aS]using h
def aS.Ko{u:Value}(h:aS D .so u):∃ a c,u=.slice (some a) 0 c:=by simpa only[aS]using h
def aS.Bt{u:Value}(h:aS D .sn u):u=.slice none 0 0:=by simpa only[aS]using h
def aS.agg{l:List ap}{u:Value}(h:aS D (.a l) u):∃ vs,bD D l vs/\u=.agg vs.toArray:=by simpa only[aS]using h
def aS.Pe{l:List ap}{u:Value}(h:aS D (.t l) u):∃ vs,bD D l vs/\u=.tuple vs.toArray:=by simpa only[aS]using h
def aS.Kp{l:List ap}(h:bD D l vs):aS D (.a l) (.agg vs.toArray):=by simp only[aS];exact⟨vs,h,rfl⟩
def aS.Kq{l:List ap}(h:bD D l vs):aS D (.t l) (.tuple vs.toArray):=by simp only[aS];exact⟨vs,h,rfl⟩
def aS.undef:aS D (.t []) undef:=by simp only[aS];exact⟨[],.nil,rfl⟩
def aS.cells{v:ap}{u:Value}(h:aS D v u):bD D v.cells u.cells.toList:=by
 cases v<;>simp only[ap.cells]
 case a l=>obtain⟨vs,U,rfl⟩:=h.agg;simpa[Value.cells]using U
 all_goals
  have key:∀ w:Value,(∀ cs,w≠.agg cs)->w.cells.toList=[w]:=λw hw=>by cases w<;>first | rfl | exact(hw _ rfl).elim
  rw[key u ?_];·exact .cons h .nil
  ·rintro cs rfl;simp[aS]at h
def aS.one{v:ap}{u:Value}(h:aS D v u)(aP:v.one=true):u.oneCell'=true:=by
 cases v<;>simp only[ap.one,jX]at aP<;>simp only[aS]at h
 all_goals first
  |(subst h;rfl)|(obtain⟨_,_,rfl⟩:=h;rfl)|(obtain⟨_,_,_,rfl⟩:=h;rfl)|(obtain⟨_,_,_,_,rfl⟩:=h;rfl)
def bD.one{l:List ap}{us:List Value}(h:bD D l us)(aP:l.all ap.one=true):gh us=true:=by refine et.2 λx ae=>?_;obtain⟨i,hi⟩:=JX ae;have ax:=(iO.1 hi).1;rw[h.len]at ax;obtain⟨y,aA,ai⟩:=h.get (ev ax);rw[hi]at aA;cases aA;exact ai.one (et.1 aP _ (bJ ax))
def aS.XF{u:Value}{v:ap}(h:GC u=some v):aS D v u:=by
 unfold GC at h;split at h<;>cases h<;>simp[aS]
def bD.Bu:∀ {us:List Value} {l:List ap},xQ us=some l->bD D l us
 |[],l,h=>by simp only[xQ]at h;cases h;exact .nil
 |u::us,l,h=>by
  simp only[xQ]at h;split at h;·rename_i x m U ab;cases h;exact .cons (.XF U) (bD.Bu ab)
  ·cases h
def aS.of{u:Value}{v:ap}(h:DB u=some v):aS D v u:=by
 unfold DB at h;split at h
 ·split at h
  ·rename_i l ay;cases h;have:=bD.Bu (D:=D) ay;simpa using aS.Kp this
  ·cases h
 ·exact .XF h
def Kr{agg:Bool}{l:List ap}{v:ap}(h:DE agg l=some v)(ay:bD D l vs):aS D v (pack agg vs):=by
 unfold DE at h;cases agg with
 |true=>simp only[bt]at h;cases h;exact .Kp ay
 |false=>
  simp only[bz]at h;split at h;·cases h;obtain⟨x,xs,U,ab,rfl⟩:=ay.j';rw[ab.nb];exact U
  ·cases h
def Pf:∀ {cs:List ap} {off:Nat} {vs r:List ap} {us xs:List Value},xS cs off vs=some r->bD D cs us->bD D vs xs->bD D r (bG us off xs)/\off+xs.length<=us.length
 |cs,0,[],r,us,xs,h,aC,ai=>by simp[xS]at h;subst h;rw[ai.nb];exact⟨by simpa[bG]using aC,by simp⟩
 |[],0,_::_,r,us,xs,h,aC,ai=>by simp[xS]at h
 |[],_+1,_,r,us,xs,h,aC,ai=>by simp[xS]at h
 |c::cs,0,v::vs,r,us,xs,h,aC,ai=>by
  simp only[xS]at h;split at h
  ·rename_i q a0;cases h;obtain⟨x,us,U,ab,rfl⟩:=aC.j';obtain⟨y,xs,ak,aL,rfl⟩:=ai.j';obtain⟨bm,b5⟩:=Pf a0 ab aL;refine⟨?_,by simp at b5 |-;omega⟩;have e:bG (x::us) 0 (y::xs)=y::bG us 0 xs:=by simp[bG]
   rw[e];exact .cons ak bm
  ·cases h
 |c::cs,n+1,vs,r,us,xs,h,aC,ai=>by
  simp only[xS]at h;split at h
  ·rename_i q a0;cases h;obtain⟨x,us,U,ab,rfl⟩:=aC.j';obtain⟨bm,b5⟩:=Pf a0 ab ai;refine⟨?_,by simp;omega⟩;have e:bG (x::us) (n+1) xs=x::bG us n xs:=by simp only[bG,nq,oO,CW,true_and];rw[show n+1+xs.length=(n+xs.length)+1 by omega,Gx]
   rw[e];exact .cons U bm
  ·cases h
inductive GR(D:bF):List (Nat×ap)->List (Nat×Value)->Prop
 |nil:GR D [] []| cons {i v u l us} (h:aS D v u) (k:GR D l us):GR D ((i,v)::l) ((i,u)::us)
def Ks{place:Nat->Option (Nat×Nat)}:∀ {vs:List (Nat×ap)} {cells r:List ap} {us:List Value} {xs:List (Nat×Value)},zl place cells vs=some r->bD D cells us->GR D vs xs -> ∃ aJ,sy place us xs=some aJ/\bD D r aJ
 |[],cells,r,us,_,h,aC,.nil=>by simp only[zl]at h;cases h;exact⟨us,rfl,aC⟩
 |(i,v)::vs,cells,r,us,_,h,aC,.cons (u:=u) (us:=xs) ai ib=>by
  simp only[zl]at h;split at h;·cases h
  ·rename_i off size aN;cases ah:Nat.beq v.cells.length size with
   |false=>rw[ah]at h;cases h
   |true=>
    rw[ah]at h;simp only[bt]at h;split at h
    ·rename_i cs mS;obtain⟨U,ab⟩:=Pf mS aC ai.cells;obtain⟨aJ,ak,aL⟩:=Ks h U ib;refine⟨aJ,?_,aL⟩;have ay:u.cells.size=v.cells.length:=by simpa using ai.cells.len
     simp only[sy,aN,ay,ah];rw[show Nat.ble (off+size) us.length=true by rw[Kk,fk];have:=dD ah;simp at ab;omega];exact ak
    ·cases h
end
def gC(D:bF)(x:de)(v:ap):Prop:=(∃ u,x=.val u/\aS D v u)\/∃ q,v=.b q/\x=.lit q
def gC.val{D:bF}{u:Value}{v:ap}(h:aS D v u):gC D (.val u) v:=.inl ⟨u,rfl,h⟩
def gC.mono{D bp:bF}(dn:D.le bp){x:de}{v:ap}(h:gC D x v):gC bp x v:=by
 rcases h with⟨u,rfl,h⟩ | ⟨q,rfl,rfl⟩
 ·exact .val (h.mono dn)
 ·exact .inr ⟨q,rfl,rfl⟩
def p9(D:bF)(F:Fr)(an:be ap):Prop:=∀ t v,an.get t=some v->gC D (F t) v
def ka(D:bF)(F:Fr)(an:be ap)(xs:List Operand):Prop:=∀ x∈xs,∀ v,dV an x=some v->gC D (df F x) v
def p9.op{D:bF}{F:Fr}{an:be ap}(h:p9 D F an)(xs:List Operand):ka D F an xs:=λx _ v ai=>by
 cases x with
 |tmp t=>exact h t v ai
 |const c=>
  have j4:DB c=some v:=ai;cases c with
  |bool q=>
   have:v=.b q:=by simp[DB,GC]at j4;exact j4.symm
   exact .inr ⟨q,this,rfl⟩
  |_=>exact .val (.of j4)
 |global g=>
  have:v=.g g 0:=by simpa[dV]using ai.symm
  subst this;exact .val (by simp[aS])
 |func f=>
  have:v=.f f [] []:=by simpa[dV]using ai.symm
  subst this;exact .val (by simp only[aS];exact⟨[],[],.nil,.nil,rfl⟩)
section
variable{D:bF}{F:Fr}{an:be ap}{xs:List Operand}
def gC.dH{x:Operand}{v:ap}(h:gC D (df F x) v):∃ u,bY F x=.val u/\aS D v u:=by
 unfold bY Go.V.dH;rcases h with⟨u,h,ai⟩ | ⟨q,rfl,h⟩
 ·rw[h];exact⟨u,rfl,ai⟩
 ·rw[h];exact⟨.bool q,rfl,by simp[aS]⟩
def gC.wg{x:de}{v:ap}(h:gC D x v)(ai:∀ q,v≠.b q):∃ u,x=.val u/\aS D v u:=by
 rcases h with h | ⟨q,h,_⟩
 ·exact h
 ·exact(ai q h).elim
def ka.bY(h:ka D F an xs){x:Operand}(ae:x∈xs){v:ap}(ai:dV an x=some v):∃ u,bY F x=.val u/\aS D v u:=(h x ae v ai).dH
def ka.l8(h:ka D F an xs):∀ {l:List Operand} {vs:List ap},(∀ x∈l,x∈xs)->nG an l=some vs->∃ us,l8 F l=some us/\bD D vs us
 |[],vs,_,ai=>by simp only[nG]at ai;cases ai;exact⟨[],rfl,.nil⟩
 |x::l,vs,ay,ai=>by
  simp only[nG]at ai;split at ai;·rename_i v vs U ab;cases ai;obtain⟨u,aF,a6⟩:=h.bY (ay x (by simp)) U;obtain⟨us,a7,bb⟩:=ka.l8 h (λy aA=>ay y (by simp[aA])) ab;refine⟨u::us,?_,.cons a6 bb⟩;show jx (df F) (x::l)=_;rw[jx];have dZ:dH (df F) x=.val u:=aF;have qu:jx (df F) l=some us:=a7;rw[dZ,qu]
  ·cases ai
def ka.parts(h:ka D F an xs):∀ {l:List (Nat×Operand)} {vs:List (Nat×ap)},(∀ x∈l.map (·.2),x∈xs)->DF an l=some vs->∃ us,z8 F l=some us/\GR D vs us
 |[],vs,_,ai=>by simp only[DF]at ai;cases ai;exact⟨[],rfl,.nil⟩
 |(i,x)::l,vs,ay,ai=>by
  simp only[DF]at ai;split at ai;·rename_i v vs U ab;cases ai;obtain⟨u,aF,a6⟩:=h.bY (ay x (by simp)) U;obtain⟨us,a7,bb⟩:=ka.parts h (λy aA=>ay y (by simp only[cZ,ea];exact .inr aA)) ab;refine⟨(i,u)::us,?_,.cons a6 bb⟩;show sA (df F) ((i,x)::l)=_;rw[sA];have dZ:dH (df F) x=.val u:=aF;have qu:sA (df F) l=some us:=a7;rw[dZ,qu]
  ·cases ai
end
inductive p'(D:bF):List (ap×ap)->List MapEntry->Prop
 |nil:p' D [] []| cons {k v es e l} (af:aS D k e.key) (ai:aS D v e.val) (t:p' D es l):p' D ((k,v)::es) (e::l)
def hI(n:Nat):Code->Bool
 | .seq x y=>hI n x&&hI n y| .block _ c=>hI n c| .cond _ x y=>hI n x&&hI n y| .loop c=>hI n c| .scope c=>hI n c| .region _ ops _=>w5 n ops| .rangeFunc _ ps ff body=>hI n ff&&(hI n body&&ps.toList.all λt=>Nat.blt t n)| _=>true
structure XG(D:bF)(busy:Bool)(n:Nat)(an:be ap)(ps:List Nat)(ff body:Code)(L:Loop):Prop where
 b4:L.state=bif busy then .busy else .ready
 pG:L.pending=none
 sz:L.tmps.size=n
 an:∀ t v,an.get t=some v->aS D v (L.tmps.getD t undef)
 ps:L.params.toList=ps
 ff:L.assign=ff
 body:L.body=body
 hp:hI n L.assign=true
 mm:hI n L.body=true
 op:∀ t∈L.params.toList,t<n
inductive kZ(D:bF)(E:Env)(M:List aD)(a:Loc):fa->Prop
 |cells{cs:be ap}{T fq:Nat}(arr:Array Value)(aP:a.o=0)(aV:(⟨a.b,.cells arr T (0,0)⟩:aD)∈M)(ay:a.o+fq<=arr.size)(aC:∀ i v,i<fq->cs.get i=some v->∃ x,arr[a.o+i]?=some x/\aS D v x)(af:∀ i,E T=some i->arr.size=a.o+a.c*i.size)(hm:a.c<=maxLen):kZ D E M a (.cells cs T fq)| map {es:List (ap×ap)} (l:List MapEntry) (clock:Nat) (aV:(⟨a.b,.map l.toArray clock⟩:aD)∈M) (he:p' D es l):kZ D E M a (.map es)| loop {busy n an ps ff body} (L:Loop) (aV:(⟨a.b,.loop L⟩:aD)∈M) (cL:XG D busy n an ps ff body L):kZ D E M a (.loop busy n an ps ff body)| done {c n an ps ff body} (L:Loop) (aV:(⟨a.b,.loop L⟩:aD)∈M) (ar:L.state=.done) (aN:L.pending=some c):kZ D E M a (.done c n an ps ff body)
def p'.mono{D bp:bF}(dn:D.le bp){es:List (ap×ap)}{l:List MapEntry}(h:p' D es l):p' bp es l:=by
 induction h with
 |nil=>exact .nil| cons af ai t a8=>exact .cons (af.mono dn) (ai.mono dn) a8
def kZ.mono{D bp:bF}{a:Loc}(dn:D.le bp)(aV:∀ x∈M,x.num=a.b->x∈M'){e:fa}(h:kZ D E M a e):kZ bp E M' a e:=by
 cases h with
 |cells arr av U ab ak aL bm=>exact .cells arr av (aV _ U rfl) ab (λi v hi ao=>by obtain⟨x,a6,bb⟩:=ak i v hi ao;exact⟨x,a6,bb.mono dn⟩) aL bm| map l clock U ab=>exact .map l clock (aV _ U rfl) (ab.mono dn)| loop L U ab=>exact .loop L (aV _ U rfl) { ab with an:=λt v aq=>(ab.an t v aq).mono dn }| done L U ab ak=>exact .done L (aV _ U rfl) ab ak
def GS(G:GT)(I:aT):Prop:=∀ g cs,G g=some cs->∃ (arr:Array Value) (T:Nat) (f:Nat×Nat),I g=some (.cells arr T f)/\∀ i v,cs.get i=some v->∃ x,arr[i]?=some x/\∀ D,aS D v x
structure c2(Y:gm)(D:bF)(m:bi)(I:aT)(M:List aD):Prop where
 iq:∀ id e a,m.t.get id=some e->D id=some a->kZ D Y.E M a e
 inj:∀ id ir e c0 a ch,m.t.get id=some e->m.t.get ir=some c0->D id=some a->D ir=some ch->a.b=ch.b->id=ir
 jn:∀ id a,D id=some a->id<m.n
 p8:GS Y.G I
section
variable{Y:gm}{D:bF}{m:bi}{I:aT}{M:List aD}{R:Type}
def wi(h:c2 Y D m I M){x:ap}{u:Value}(ae:aS D x u){n:Nat}{K:List ap->Option R}{r:R}(ag:ta Y.G m.t x n K=some r) :
  ∃ ad l vs,u=.pointer (some ad)/\bq I M ad n vs/\bD D l vs/\K l=some r:=by
 have key:∀ (arr:Array Value) (base off:Nat) (l:List ap),l.length=n->base+off+n<=arr.size->(∀ i,i<n->∀ v,l[i]?=some v->∃ x,arr[base+off+i]?=some x/\aS D v x) ->
   ((arr.toList.drop (base+off)).take n).length=n/\bD D l ((arr.toList.drop (base+off)).take n):=by
  intro arr base off l ay cQ ao;have hlen:((arr.toList.drop (base+off)).take n).length=n:=by simp;omega
  refine⟨hlen,bD.Pc (by rw[hlen,ay]) λi v hi=>?_⟩;have c1:i<n:=by rw[<-ay];exact(iO.1 hi).1
  obtain⟨x,U,ab⟩:=ao i c1 v hi;refine⟨x,?_,ab⟩;rw[kA,cw c1,oG];simpa using U
 unfold ta at ag;split at ag
 ·rename_i id off;split at ag
  ·rename_i cs T fq ao;cases ah:Nat.ble (Nat.add off n) fq with
   |false=>rw[ah]at ag;cases ag
   |true=>
    rw[ah]at ag;have hn:off+n<=fq:=b9 ah;simp only[bt]at ag;obtain⟨l,U,ab,ak⟩:=be.DP cs n off K r ag;obtain⟨a,aX,hu⟩:=ae.ptr;have he:=h.iq _ _ _ ao aX;obtain⟨arr,-,aV,ay,aC,-,-⟩:=he;obtain⟨da,bZ⟩:=key arr a.o off l U (by omega) λi hi v ai=>by have:=aC (off+i) v (by omega) (by rw[ab i hi,ai]);rw[<-tr]at this;exact this
    exact⟨_,l,_,hu,⟨rfl,arr,T,(0,0),.inr ⟨_,aV,rfl,rfl⟩,rfl,da⟩,bZ,ak⟩
  ·cases ag
 ·rename_i g off;split at ag
  ·rename_i cs ao;obtain⟨l,U,ab,ak⟩:=be.DP cs n off K r ag;obtain⟨arr,T,f,cg,aC⟩:=h.p8 _ _ ao;have hu:=ae.p8;have eg:∀ i,i<n->∀ v,l[i]?=some v->∃ x,arr[0+off+i]?=some x/\aS D v x:=λi hi v ai=>by obtain⟨x,a6,bb⟩:=aC (off+i) v (by rw[ab i hi,ai]);exact⟨x,by simpa using a6,bb D⟩
   by_cases az:n=0;·subst az;have:l=[]:=hZ U;subst this;exact⟨_,[],[],hu,⟨rfl,arr,T,f,.inl cg,by simp,rfl⟩,.nil,ak⟩
   ·have cQ:0+off+n<=arr.size:=by
     have ax:n-1<l.length:=by omega
     obtain⟨x,a6,_⟩:=eg (n-1) (by omega) l[n-1] (ev ax);have:=(l6.1 a6).1;omega
    obtain⟨da,bZ⟩:=key arr 0 off l U cQ eg;simp only[cM]at da bZ;exact⟨_,l,_,hu,⟨rfl,arr,T,f,.inl cg,rfl,da⟩,bZ,ak⟩
  ·cases ag
 ·cases ag
end
def ahY{k:IntKind}(h:IntKind.l' k eQ=true):k=eQ:=IntKind.Cr h
def Kt(l m:List UInt8):decide ((⟨l.toArray⟩:ByteArray)=⟨m.toArray⟩)=decide (l=m):=by
 simp only[vK];constructor
 ·intro h;simpa using h
 ·rintro rfl;rfl
def ahZ(a b:ByteArray):(a == b)=decide (a=b):=by
 rw[l7];simp only[fk];constructor
 ·intro h
  first | exact eq_of_beq h | exact qo (eq_of_beq (a:=a.data) (b:=b.data) h)
 ·rintro rfl
  first | exact Ck _ | exact Ck a.data
section
variable{P:Program}{E:Env}{D:bF}
def Ku(aR:cX P E){o:Nat}{l:List ap}{x:ap}(h:zk E t o l=some x){us:List Value}(ay:bD D l us):∃ u,aS D x u/\∀ w,(part t us.toArray o).run P w=.ok u w:=by
 unfold zk at h;obtain⟨i,U,h⟩:=ct h;obtain⟨av,h⟩:=zo h;have j7:i.size≠0:=λe=>by rw[e]at av;cases av
 obtain⟨r,ab,h⟩:=ct h;obtain⟨aF,a7⟩:=XE ab;rw[GQ]at aF;have hlen:=ay.len;subst aF;refine⟨_,Kr h ((ay.drop o).take _),λw=>?_⟩;have:=L5 (aR _ _ U) (cs:=us.toArray) (off:=o) (by rw[fH,n3]at a7;simp;omega) w;simpa using this
def Pg{F:Nat->ap->ap->Option Bool}{l m:List ap}{α β:Type}{pl:α->Nat×Nat}{g:α->β->Sem (ForInStep β)}{cF s1:β}{w:World}:∀ (L:List α) {b:Bool},xR F E l m (L.map pl)=some b -> (∀ a∈L,∀ x y c,zk E (pl a).1 (pl a).2 l=some x->zk E (pl a).1 (pl a).2 m=some y->F (pl a).1 x y=some c->(g a cF).run P w=.ok (if c then .yield cF else .done s1) w) -> (forIn L cF g).run P w=.ok (if b then cF else s1) w
 |[],b,h,_=>by cases h;simp[c3]
 |a::L,b,h,ao=>by
  simp only[cZ]at h;unfold xR at h;obtain⟨x,U,h⟩:=ct h;obtain⟨y,ab,h⟩:=ct h;obtain⟨c,ak,h⟩:=ct h;simp only[Mv,b8];rw[ao a (by simp) x y c U ab ak];rw[jS]at h;cases c with
  |true=>simp only[nU,bU];exact Pg L h λch aX=>ao ch (by simp[aX])
  |false=>cases h;simp[bU,c3]
def Ph(aR:cX P E):∀ (d:Nat) {t:Nat} {x y:ap} {b:Bool} {u v:Value},r6 P E d t x y=some b->aS D x u->aS D y v->∀ n,d<=n->∀ w,(Op.equalIn n t u v).run P w=.ok b w
 |0,t,x,y,b,u,v,h,ae,aA,n,az,w=>by cases h
 |d+1,t,x,y,b,u,v,h,ae,aA,0,az,w=>by omega
 |d+1,t,x,y,b,u,v,h,ae,aA,n+1,az,w=>by
  unfold r6 at h;obtain⟨i,hi,h⟩:=ct h;obtain⟨nu,fp,nn⟩:=(aR _ _ hi).fl;rw[Op.equalIn];simp only[b8,run_underlying fp,bU];split at h
  ·rename_i a ch ar _;cases h;have a6:nu=.bool:=by cases nu<;>simp_all[fe]
   subst a6;rw[ae.bool,aA.bool];rfl
  ·rename_i eQ k a bZ ch ar _;obtain⟨aF,h⟩:=fV h;cases h;have a6:nu=.int eQ:=by cases nu<;>simp_all[fe]
   subst a6;rw[ae.int,aA.int];rw[ahY aF];have ah:(a == ch)=r5 a ch:=by
    rw[Bs];by_cases e:a=ch;·subst e;simp
    ·simp[e]
   simp[ah]
  ·rename_i a ch ar _;cases h;have a6:nu=.string:=by cases nu<;>simp_all[fe]
   subst a6;rw[ae.str,aA.str];show Result.ok _ _=_;rw[DQ,<-Kt];congr 1;exact ahZ _ _
  ·rename_i cC l m ar _;obtain⟨aF,h⟩:=fV h;unfold WY at aF;rw[fp]at aF;cases nu with
   |struct fields=>
    simp only[b',tp,et,fk]at aF;obtain⟨aF,a7⟩:=aF;rw[ar]at nn;simp only[fe,EI.struct.injEq]at nn;subst nn;obtain⟨us,U,rfl⟩:=ae.agg;obtain⟨ws,ab,rfl⟩:=aA.agg;simp only[b8,run_program,bU,aF,jX,kB];rw[<-Array.forIn_toList];rw[Pg (P:=P) (s1:=⟨some false,⟨⟩⟩) fields.toList h (λf au x y c Pj q2 aC=>by
     obtain⟨p,da,bZ⟩:=Ku aR Pj U;obtain⟨q,fG,hF⟩:=Ku aR q2 ab;have a0:=Ph aR d aC da fG n (by omega) w;simp only[a7 f au,nU,ne_eq,not_false_eq_true,b8,bZ,hF,bU,a0];cases c<;>simp[c3])]
    cases b<;>simp[bU,c3]
   |_=>cases aF
  ·rename_i len e l m ar _;obtain⟨aO,hz,h⟩:=ct h;have a6:nu=.array len e:=by cases nu<;>simp_all[fe]
   subst a6;obtain⟨us,U,rfl⟩:=ae.agg;obtain⟨ws,ab,rfl⟩:=aA.agg;simp only[b8,(aR _ _ hz).run_sizeOf,bU,Mm];have ag:List.range' 0 ([:len]:Std.Legacy.Range).size=List.range len:=by simp[Std.Legacy.Range.size,z4]
   rw[ag];rw[Pg (P:=P) (s1:=⟨some false,⟨⟩⟩) (List.range len) h (λf au x y c Pj q2 aC=>by
    obtain⟨p,da,bZ⟩:=Ku aR Pj U;obtain⟨q,fG,hF⟩:=Ku aR q2 ab;have a0:=Ph aR d aC da fG n (by omega) w;simp only[b8,bZ,hF,bU,a0];cases c<;>simp[c3])]
   cases b<;>simp[bU,c3]
  ·cases h
end
section
variable{X:cO}{D:bF}
def Pk(aR:cX X.P X.E){op:BinOp}{l m:List ap}{v:ap}{x:Operand}{us ws:List Value}(h:Bl X.P X.E op t l m=some v)(ay:bD D l us)(hm:bD D m ws)(af:∀ u,aS D v u->K u) :
  cx X.P op t x y (.val (.agg us.toArray)) (.val (.agg ws.toArray)) K O:=by
 unfold Bl at h;obtain⟨ao,h⟩:=zo h;obtain⟨b,U,h⟩:=ct h;have a0:=Ph (D:=D) aR 8 U (u:=.agg us.toArray) (v:=.agg ws.toArray) (by simp only[aS];exact⟨us,ay,rfl⟩) (by simp only[aS];exact⟨ws,hm,rfl⟩) Op.maxDepth (by decide);split at h
 ·cases h;refine .mk _ _ _ rfl rfl (λw=>?_) (af _ (by simp only[aS];rfl));simp only[b8,run_eqGuard_agg (hm:=ao),bU,binOp,Op.equal,a0,c3]
 ·cases h;refine .mk _ _ _ rfl rfl (λw=>?_) (af _ (by simp only[aS];rfl));simp only[b8,run_eqGuard_agg (hm:=ao),bU,binOp,Op.equal,a0,c3]
 ·cases h
end
open Go Go.Proofs
def DR(x y:Int):Int:=IntKind.u64.wrap ((BitVec.ofInt 64 x ||| BitVec.ofInt 64 y).toNat:Int)
def Kv(x y:BitVec 64):DR x.toNat y.toNat=((x ||| y).toNat:Int):=by unfold DR;rw[JW,JW,WA]
def Pl(x y:Int):Int:=IntKind.u64.wrap ((BitVec.ofInt 64 x &&& BitVec.ofInt 64 y).toNat:Int)
def ah0(x y:BitVec 64):Pl x.toNat y.toNat=((x &&& y).toNat:Int):=by unfold Pl;rw[JW,JW,WA]
def ah1(x y:BitVec 64):r5 (x.toNat:Int) (y.toNat:Int)=decide (x=y):=by rw[Bs,<-ahl,l7];simp
def uC(v:α)(x:R)(f:α->R):bN (some v) x f=f v:=rfl
def XH(pre mid post:List Value)(k:Nat)(vs:List Value)(h:k+vs.length<=mid.length):bG (pre++(mid++post)) (pre.length+k) vs=pre++(bG mid k vs++post):=by
 unfold bG;have U:(pre++(mid++post)).take (pre.length+k)=pre++mid.take k:=by rw[FV,Nat.add_sub_cancel_left,dX (by omega),CD (by omega)]
 have ab:(pre++(mid++post)).drop (pre.length+k+vs.length)=mid.drop (k+vs.length)++post:=by rw[tr,Th,WG h]
 rw[U,ab];simp
def ah2(f:α->List Value)(size:Nat)(au:∀ x,(f x).length=size)(l:List α)(i:Nat)(hi:i<l.length)(k:Nat)(vs:List Value)(af:k+vs.length<=size)(jz:α)(ae:bG (f l[i]) k vs=f jz) :
  bG (l.flatMap f) (i*size+k) vs=(l.set i jz).flatMap f:=by
 have e:l=l.take i++l[i]::l.drop (i+1):=by rw[<-dv hi,rB]
 have aF:l.flatMap f=(l.take i).flatMap f++(f l[i]++(l.drop (i+1)).flatMap f):=by
  calc l.flatMap f=(l.take i++l[i]::l.drop (i+1)).flatMap f:=congrArg _ e
   _=_:=by rw[jF,mh]
 have a7:((l.take i).flatMap f).length=i*size:=by rw[gd f size au,rO (by omega)]
 rw[aF,<-a7,XH _ _ _ _ _ (by rw[au];exact af),Aq,cw hi,jF,mh,ae]
def ah3{j m:Nat}(h:j+vs.length<=m)(hm:m<=cur.length):(bG cur j vs).take m=bG (cur.take m) j vs:=by
 unfold bG;have U:(cur.take m).take j=cur.take j:=by rw[xd,ss (by omega)]
 have ab:(cur.take m).drop (j+vs.length)=(cur.drop (j+vs.length)).take (m-(j+vs.length)):=by rw[Ar]
 have ak:(cur.take j).length=j:=by rw[fH];omega
 rw[U,ab,fx,fx,FV,ak,dX (by omega),FV,dX (by omega:vs.length<=m-j)];congr 3;omega
def aY.put(f:α->List Value)(size:Nat)(au:∀ x,(f x).length=size){l:List α}{e:Nat}(h:os.ok size (l.flatMap f)){i:Nat}(hi:i<l.length)(k:Nat)(af:k+vs.length<=size)(U:gh vs=true)(jz:α)(ae:bG (f l[i]) k vs=f jz)(pre post:List aD)(aV:M=pre++(os.aw e++post))(ao:os.a=some g)(ah4:off=i*size+k){K:List aD->Prop}
  (gu:∀ (gY:aY),gY.val=os.val->gY.a=os.a->gY.n=os.n->gY.ok size ((l.set i jz).flatMap f)->K (pre++(gY.aw e++post))):cu M ⟨g,off,none⟩ vs K:=by
 have Ct:=h.len;rw[gd f size au]at Ct;obtain⟨a,n,c,cur⟩:=os;have ay:l.length*size=n*size:=Ct;simp only at ao;subst ao;obtain⟨c5,c7,dS,eP⟩:=h.cap g rfl;simp only at c5 c7 dS eP;have ah:n*size<=c*size:=rl _ c7;have hA:i*size+size<=l.length*size:=by have:=rl size (show i+1<=l.length from hi);rwa [lG,qD]at this
 subst aV;subst ah4;refine cu.mk pre post cur.toArray e rfl rfl ?_ U ?_
 ·simp only[jZ];omega
 ·have:=gu ⟨some g,n,c,bG cur (i*size+k) vs⟩ rfl rfl rfl ⟨?_,(λh=>by cases h),λdh ao=>?_⟩
  ·simpa[aY.aw]using this
  ·rw[gd f size au,m1];exact ay
  ·cases ao;refine⟨?_,c7,dS,?_⟩
   ·simp only[bG,cz,fH,n3];omega
   ·simp only;rw[ah3 (by omega) (by omega),eP,ah2 f size au l i hi k vs af jz ae]
def ah5(l:List Value)(k:Nat)(v:Value)(h:k<l.length):bG l k [v]=l.set k v:=by rw[Aq,cw h];simp[bG]
def aY.Kw(f:α->List Value)(size:Nat)(au:∀ x,(f x).length=size){l:List α}{e:Nat}(h:os.ok size (l.flatMap f)){i:Nat}(hi:i<l.length)(jz:α)(U:gh (f jz)=true)(pre post:List aD)(aV:M=pre++(os.aw e++post))(ba:(os.a.map λg=>(⟨g,0,none⟩:Addr))=some ad){K:List aD->Prop}
  (gu:∀ (gY:aY),gY.val=os.val->gY.a=os.a->gY.n=os.n->gY.ok size ((l.set i jz).flatMap f)->K (pre++(gY.aw e++post))):cu M (ad.add (i*size)) (f jz) K:=by
 obtain⟨g,ao,rfl⟩:∃ g,os.a=some g/\ad=⟨g,0,none⟩:=by
  cases aX:os.a with
  |none=>rw[aX]at ba;cases ba| some g=>rw[aX]at ba;cases ba;exact⟨g,rfl,rfl⟩
 rw[dF (⟨g,0,none⟩:Addr) rfl];refine aY.put f size au h hi 0 (vs:=f jz) (by rw[au];omega) U jz ?_ pre post aV ao (by simp) gu;unfold bG;simp[au]
def aY.Kx(f:α->List Value)(size:Nat)(au:∀ x,(f x).length=size){l:List α}{e:Nat}(h:os.ok size (l.flatMap f)){i:Nat}(hi:i<l.length)(k:Nat)(af:k+vs.length<=size)(U:gh vs=true)(jz:α)(ae:bG (f l[i]) k vs=f jz)(pre post:List aD)(aV:M=pre++(os.aw e++post))(ba:(os.a.map λg=>(⟨g,0,none⟩:Addr))=some ad){K:List aD->Prop}
  (gu:∀ (gY:aY),gY.val=os.val->gY.a=os.a->gY.n=os.n->gY.ok size ((l.set i jz).flatMap f)->K (pre++(gY.aw e++post))):cu M ((ad.add (i*size)).add k) vs K:=by
 obtain⟨g,ao,rfl⟩:∃ g,os.a=some g/\ad=⟨g,0,none⟩:=by
  cases aX:os.a with
  |none=>rw[aX]at ba;cases ba| some g=>rw[aX]at ba;cases ba;exact⟨g,rfl,rfl⟩
 rw[dF (⟨g,0,none⟩:Addr) rfl,dF _ rfl];exact aY.put f size au h hi k af U jz ae pre post aV ao (by simp) gu
def ah6(n:Nat)(az:n<64):Spec Tryz.prog 220 [.int .i64 n] I [] λv I' M'=>v=.int .u64 ((2^n:Nat):Int)/\I'=I/\M'=[]:=by
 refine bn [] aI Tryz.func220 rfl rfl rfl ?_;intro B av;refine bu.inv (ι:=Nat) (λi=>{ a4:=[(0,.val (.int .i64 n)),(3,.val (.int .u64 ((2^i:Nat):Int))),(4,.val (.int .i64 i))],br:=I }) (λi=>i<=n) (λi=>n-i) ?_ ?_
 ·exact⟨0,bQ _,.refl,cU,.nil⟩
 intro i hi;refine aB.mk (λh=>?_) (λh=>?_)
 ·have ax:i<n:=by simpa using h
  have aN:2^(i+1)<=2^63:=Mq (by omega) (by omega);have e:((2^i:Nat):Int)*2=((2^(i+1):Nat):Int):=by rw[Nat.pow_succ];simp
  refine aQ.mk ((2^(i+1):Nat):Int) (by rw[e];exact vA ⟨JY _,by omega⟩) ?_;refine aQ.mk _ (bl (i:=i) (by omega)) ?_;exact⟨i+1,⟨ax,by omega⟩,.refl,cU,.nil⟩
 ·have:i=n:=by simp at h;omega
  subst this;exact⟨_,_,.refl,rfl,rfl,rfl⟩
def lY(ws:List Int)(n:Nat):Bool:=(ws.getD (n/64) 0).toNat.testBit (n%64)
def ah7{w:Int}(hw:e5 w)(k:Nat):decide ((w.tdiv ((2^k:Nat):Int)).tmod 2=1)=w.toNat.testBit k:=by obtain⟨n,rfl⟩:=en hw.1;rw[WE];have e:((n:Int).tdiv ((2^k:Nat):Int)).tmod 2=((n/2^k%2:Nat):Int):=rfl;rw[e,lz];congr 1;simp only[eq_iff_iff];omega
def ah8{b c d:Int}(g5:∀ x∈[a,b,c,d],e5 x)(x:UInt8):Spec Tryz.prog 201 [.agg #[.int .u64 a,.int .u64 b,.int .u64 c,.int .u64 d],.int .u8 x.toNat] I [] λv I' M'=>v=.bool (lY [a,b,c,d] x.toNat)/\I'=I/\M'=[]:=by
 have ae:=x.toNat_lt;have key:∀ (w:Int) (j:Nat),x.toNat/64=j->[a,b,c,d].getD j 0=w->e5 w->decide ((w.tdiv ((2^(x.toNat%64):Nat):Int)).tmod 2=1)=lY [a,b,c,d] x.toNat:=λw j aj hw hu=>by rw[ah7 hu,lY,aj,hw]
 have Bv:=ah6 (I:=I) (x.toNat%64) (by omega);have gV:(0:Int)<((2^(x.toNat%64):Nat):Int):=by have:=Nat.two_pow_pos (x.toNat%64);omega
 have em:((x.toNat:Int)).tmod 64=((x.toNat%64:Nat):Int):=rfl;have kh:((x.toNat:Int)).tdiv 64=((x.toNat/64:Nat):Int):=rfl;have hdiv:∀ w:Int,e5 w->IntKind.u64.wrap (w.tdiv ((2^(x.toNat%64):Nat):Int))=w.tdiv ((2^(x.toNat%64):Nat):Int):=λw hw=>by obtain⟨n,rfl⟩:=en hw.1;have e:(n:Int).tdiv ((2^(x.toNat%64):Nat):Int)=((n/2^(x.toNat%64):Nat):Int):=rfl;rw[e];have U:=Nat.div_le_self n (2^(x.toNat%64));have ab:=hw.2;generalize n/2^(x.toNat%64)=q at *;exact vA ⟨by omega,by omega⟩
 refine bn [] aI Tryz.func201 rfl rfl rfl ?_;intro B av;refine cr.draw aI rfl rfl rfl ?_;refine aQ.mk (x.toNat:Int) (wrap_i64 ⟨by omega,by omega⟩) ?_;refine j2.mk (by decide) ?_;rcases(by omega:x.toNat/64=0\/x.toNat/64=1\/x.toNat/64=2\/x.toNat/64=3)with aj | aj | aj | aj
 ·refine aQ.mk 0 (by rw[kh,aj];decide) ?_;refine eb.mk 0 rfl (by decide) ?_;refine aQ.mk (x.toNat:Int) (wrap_i64 ⟨by omega,by omega⟩) ?_;refine j2.mk (by decide) ?_;refine e7.mk _ Bv ?_;rintro v J N -⟨rfl,rfl,rfl⟩;refine j2.mk (by omega) ?_;refine aQ.mk _ (hdiv a (g5 a (by simp))) ?_;refine j2.mk (by decide) ?_;exact⟨_,_,.refl,congrArg Value.bool (key a 0 aj rfl (g5 a (by simp))),rfl,rfl⟩
 ·refine aQ.mk 1 (by rw[kh,aj];decide) ?_;refine eb.mk 1 rfl (by decide) ?_;refine aQ.mk (x.toNat:Int) (wrap_i64 ⟨by omega,by omega⟩) ?_;refine j2.mk (by decide) ?_;refine e7.mk _ Bv ?_;rintro v J N -⟨rfl,rfl,rfl⟩;refine j2.mk (by omega) ?_;refine aQ.mk _ (hdiv b (g5 b (by simp))) ?_;refine j2.mk (by decide) ?_;exact⟨_,_,.refl,congrArg Value.bool (key b 1 aj rfl (g5 b (by simp))),rfl,rfl⟩
 ·refine aQ.mk 2 (by rw[kh,aj];decide) ?_;refine eb.mk 2 rfl (by decide) ?_;refine aQ.mk (x.toNat:Int) (wrap_i64 ⟨by omega,by omega⟩) ?_;refine j2.mk (by decide) ?_;refine e7.mk _ Bv ?_;rintro v J N -⟨rfl,rfl,rfl⟩;refine j2.mk (by omega) ?_;refine aQ.mk _ (hdiv c (g5 c (by simp))) ?_;refine j2.mk (by decide) ?_;exact⟨_,_,.refl,congrArg Value.bool (key c 2 aj rfl (g5 c (by simp))),rfl,rfl⟩
 ·refine aQ.mk 3 (by rw[kh,aj];decide) ?_;refine eb.mk 3 rfl (by decide) ?_;refine aQ.mk (x.toNat:Int) (wrap_i64 ⟨by omega,by omega⟩) ?_;refine j2.mk (by decide) ?_;refine e7.mk _ Bv ?_;rintro v J N -⟨rfl,rfl,rfl⟩;refine j2.mk (by omega) ?_;refine aQ.mk _ (hdiv d (g5 d (by simp))) ?_;refine j2.mk (by decide) ?_;exact⟨_,_,.refl,congrArg Value.bool (key d 3 aj rfl (g5 d (by simp))),rfl,rfl⟩
def ht(p:Nat->Bool):Nat->Nat->Nat
 |0,t=>t| f+1,t=>bif p (t+1)then ht p f (t+1)else t
def nH(p:Nat->Bool)(i:Nat):Bool:=p i&&(decide (i=0) || !p (i-1))
def ot(p:Nat->Bool)(n:Nat):List (UInt8×UInt8):=((List.range n).filter (nH p)).map λi=>(UInt8.ofNat i,UInt8.ofNat (ht p (255-i) i))
def XI(p:Nat->Bool)(n:Nat):ot p (n+1)=ot p n++(bif nH p n then [(UInt8.ofNat n,UInt8.ofNat (ht p (255-n) n))]else []):=by
 unfold ot;rw[zf,uw,eL];cases h:nH p n<;>simp[h]
def XJ(p:Nat->Bool)(n:Nat):(ot p n).length<=n:=by have:=to (nH p) (List.range n);simpa[ot]using this
def Ky{aJ:List (UInt8×UInt8)}{x:UInt8×UInt8}(bf:os.ok 2 (km aJ)){c:Nat}(U:cur.length=c*2)(ab:os.n+1<=c)(ak:c<=maxLen)(aL:cur.take ((os.n+1)*2)=km aJ++fR x) :
  aY.ok ⟨some g,os.n+1,c,cur⟩ 2 (km (aJ++[x])):=by
 have sP:km (aJ++[x])=km aJ++fR x:=by simp[km]
 have ay:=bf.len;refine⟨?_,(λh=>by cases h),λb0 oX=>⟨U,ab,ak,by rw[sP];exact aL⟩⟩;rw[sP,cz,ay];simp[fR];omega
def wj{n:Nat}(h:n<256):(UInt8.ofNat n).toNat=n:=by rw[UInt8.toNat_ofNat'];omega
def qa{n:Nat}(h:n<256):IntKind.u8.wrap (n:Int)=((UInt8.ofNat n).toNat:Int):=by rw[wj h];simp[IntKind.wrap,IntKind.signed,IntKind.bits];omega
def ah9{b c d:Int}(g5:∀ x∈[a,b,c,d],e5 x){n:Nat}(az:n<256):Spec Tryz.prog 201 [.agg #[.int .u64 a,.int .u64 b,.int .u64 c,.int .u64 d],.int .u8 (UInt8.ofNat n).toNat] I [] λv I' M'=>v=.bool (lY [a,b,c,d] n)/\I'=I/\M'=[]:=by have h:=ah8 (I:=I) g5 (UInt8.ofNat n);rwa [show lY [a,b,c,d] (UInt8.ofNat n).toNat=lY [a,b,c,d] n from by rw[wj az]]at h
def aia{b c d:Int}(g5:∀ x∈[a,b,c,d],e5 x):Spec Tryz.prog 182 [.agg #[.int .u64 a,.int .u64 b,.int .u64 c,.int .u64 d]] I [] λv I' M'=>I'=I/\∃ os:aY,v=os.val/\os.ok 2 (km (ot (lY [a,b,c,d]) 256))/\M'=os.aw 228:=by
 refine bn [] aI Tryz.func182 rfl rfl rfl ?_;intro B av;generalize aN:lY [a,b,c,d]=p;have jf:∀ {n:Nat},n<256->Spec Tryz.prog 201 [.agg #[.int .u64 a,.int .u64 b,.int .u64 c,.int .u64 d],.int .u8 (UInt8.ofNat n).toNat] I [] λv I' M'=>v=.bool (p n)/\I'=I/\M'=[]:=λaz=>by rw[<-aN];exact ah9 g5 az
 refine bu.inv (ι:=Nat×aY) (λx=>{ a4:=[(1,.ref 1 0),(3,.val x.2.val),(4,.val (.int .i64 x.1))],cl:=[(1,xn a b c d)],br:=I,bO:=x.2.aw 228 }) (λx=>x.1<=256/\x.2.ok 2 (km (ot p x.1))) (λx=>256-x.1) ?_ ?_
 ·exact⟨(0,fs),⟨by simp,fT 2⟩,.refl,cU,.cons rfl .nil⟩
 rintro⟨n,os⟩⟨az,bf⟩;simp only at az bf;have jP:os.n<=256:=by have U:=bf.len;have ab:=XJ p n;rw[CP]at U;omega
 have DS:=XI p n;refine aB.mk (λh=>?_) (λh=>?_)
 ·have ax:n<256:=by simp at h;omega
  refine aQ.mk _ (qa ax) ?_;refine aU.mk [] (os.aw 228) _ (.refl _) (jf ax) ?_;rintro v J N -⟨rfl,bg,rfl⟩;subst J;refine a9.mk (λU=>?_) (λU=>?_)
  ·have wk:p n=true:=by simpa using U
   refine a9.mk (λab=>?_) (λab=>?_)
   ·have g2:0<n:=by simpa using ab
    refine aQ.mk ((n-1:Nat):Int) (by rw[wrap_i64 ⟨by omega,by omega⟩];omega) ?_;refine aQ.mk _ (qa (n:=n-1) (by omega)) ?_;refine aU.mk [] (os.aw 228) _ (.refl _) (jf (n:=n-1) (by omega)) ?_;rintro v J N -⟨rfl,bg,rfl⟩;subst J;refine aB.mk (λak=>?_) (λak=>?_)
    ·refine aQ.mk _ (bl (i:=n) (by omega)) ?_;refine⟨(n+1,os),⟨⟨by simp only;omega,?_⟩,by simp only;omega⟩,.refl,cU,.cons rfl .nil⟩;simp only;have dc:nH p n=false:=by
      have e:decide (n=0)=false:=by simp;omega
      rw[nH,wk,ak,e];rfl
     rw[DS,dc,bz,db];exact bf
    have dc:nH p n=true:=by rw[nH,wk,ak];simp
    refine bu.inv (ι:=Nat) (λt=>{ a4:=[(1,.ref 1 0),(3,.val os.val),(4,.val (.int .i64 n)),(5,.val (.int .i64 t))],cl:=[(1,xn a b c d)],br:=I,bO:=os.aw 228 }) (λt=>n<=t/\t<=255/\ht p (255-n) n=ht p (255-t) t) (λt=>255-t) ?_ ?_;·exact⟨n,⟨b2 _,by omega,rfl⟩,.refl,cI,.cons rfl .nil⟩
    intro t ⟨pQ,pR,y1⟩;refine a9.mk (λaL=>?_) (λaL=>?_)
    ·have zt:t<255:=by simp at aL;omega
     have jM:ht p (255-t) t=bif p (t+1)then ht p (255-(t+1)) (t+1)else t:=by rw[show 255-t=(255-(t+1))+1 from by omega,ht]
     refine aQ.mk _ (bl (i:=t) (by omega)) ?_;refine aQ.mk _ (qa (n:=t+1) (by omega)) ?_;refine aU.mk [] (os.aw 228) _ (.refl _) (jf (n:=t+1) (by omega)) ?_;rintro v J N -⟨rfl,bg,rfl⟩;subst J;refine aB.mk (λbm=>?_) (λbm=>?_);·refine aQ.mk _ (bl (i:=t) (by omega)) ?_;exact⟨t+1,⟨⟨by omega,by omega,by rw[y1,jM,bm,bt]⟩,by omega⟩,.refl,cI,.cons rfl .nil⟩
     ·have pd:ht p (255-n) n=t:=by rw[y1,jM,bm,bz]
      refine aQ.mk _ (qa (n:=n) (by omega)) ?_;refine aQ.mk _ (qa (n:=t) (by omega)) ?_;refine bL.mk λbT h3 iF=>?_;refine bk.sL aI rfl (by simp) (e:=228) rfl rfl rfl os bf rfl (m:=1) rfl (news:=fR (UInt8.ofNat n,UInt8.ofNat t)) (by decide) (dj (b:=bT) (cs:=fR (UInt8.ofNat n,UInt8.ofNat t)) (k:=0) (n:=2) (T:=228) (.head _) (b2 2)) rfl (Mr:=[⟨bT,.cells (fR (UInt8.ofNat n,UInt8.ofNat t)).toArray 228 (0,0)⟩]) (gQ (l₁:=[_])) (by simp only[maxLen];omega) (by show(os.n+1)*2<=_;omega) ?_;intro dh c' fi ub c5 c7 dS eP;refine aQ.mk _ (bl (i:=n) (by omega)) ?_;refine⟨(n+1,⟨some dh,os.n+1,c',fi⟩),⟨⟨by simp only;omega,?_⟩,by simp only;omega⟩,.sub (List.Sublist.cons_cons _ (cW _)) .refl,cU,.cons rfl .nil⟩;simp only;rw[DS,dc,bt,pd];exact Ky bf c5 c7 dS eP
    ·have FP:t=255:=by simp at aL;omega
     have pd:ht p (255-n) n=t:=by rw[y1,FP];rfl
     refine aQ.mk _ (qa (n:=n) (by omega)) ?_;refine aQ.mk _ (qa (n:=t) (by omega)) ?_;refine bL.mk λbT h3 iF=>?_;refine bk.sL aI rfl (by simp) (e:=228) rfl rfl rfl os bf rfl (m:=1) rfl (news:=fR (UInt8.ofNat n,UInt8.ofNat t)) (by decide) (dj (b:=bT) (cs:=fR (UInt8.ofNat n,UInt8.ofNat t)) (k:=0) (n:=2) (T:=228) (.head _) (b2 2)) rfl (Mr:=[⟨bT,.cells (fR (UInt8.ofNat n,UInt8.ofNat t)).toArray 228 (0,0)⟩]) (gQ (l₁:=[_])) (by simp only[maxLen];omega) (by show(os.n+1)*2<=_;omega) ?_;intro dh c' fi ub c5 c7 dS eP;refine aQ.mk _ (bl (i:=n) (by omega)) ?_;refine⟨(n+1,⟨some dh,os.n+1,c',fi⟩),⟨⟨by simp only;omega,?_⟩,by simp only;omega⟩,.sub (List.Sublist.cons_cons _ (cW _)) .refl,cU,.cons rfl .nil⟩;simp only;rw[DS,dc,bt,pd];exact Ky bf c5 c7 dS eP
   ·have dc:nH p n=true:=by
     have e:n=0:=by simp at ab;omega
     rw[nH,wk,e];rfl
    refine bu.inv (ι:=Nat) (λt=>{ a4:=[(1,.ref 1 0),(3,.val os.val),(4,.val (.int .i64 n)),(5,.val (.int .i64 t))],cl:=[(1,xn a b c d)],br:=I,bO:=os.aw 228 }) (λt=>n<=t/\t<=255/\ht p (255-n) n=ht p (255-t) t) (λt=>255-t) ?_ ?_;·exact⟨n,⟨b2 _,by omega,rfl⟩,.refl,cI,.cons rfl .nil⟩
    intro t ⟨pQ,pR,y1⟩;refine a9.mk (λaL=>?_) (λaL=>?_)
    ·have zt:t<255:=by simp at aL;omega
     have jM:ht p (255-t) t=bif p (t+1)then ht p (255-(t+1)) (t+1)else t:=by rw[show 255-t=(255-(t+1))+1 from by omega,ht]
     refine aQ.mk _ (bl (i:=t) (by omega)) ?_;refine aQ.mk _ (qa (n:=t+1) (by omega)) ?_;refine aU.mk [] (os.aw 228) _ (.refl _) (jf (n:=t+1) (by omega)) ?_;rintro v J N -⟨rfl,bg,rfl⟩;subst J;refine aB.mk (λbm=>?_) (λbm=>?_);·refine aQ.mk _ (bl (i:=t) (by omega)) ?_;exact⟨t+1,⟨⟨by omega,by omega,by rw[y1,jM,bm,bt]⟩,by omega⟩,.refl,cI,.cons rfl .nil⟩
     ·have pd:ht p (255-n) n=t:=by rw[y1,jM,bm,bz]
      refine aQ.mk _ (qa (n:=n) (by omega)) ?_;refine aQ.mk _ (qa (n:=t) (by omega)) ?_;refine bL.mk λbT h3 iF=>?_;refine bk.sL aI rfl (by simp) (e:=228) rfl rfl rfl os bf rfl (m:=1) rfl (news:=fR (UInt8.ofNat n,UInt8.ofNat t)) (by decide) (dj (b:=bT) (cs:=fR (UInt8.ofNat n,UInt8.ofNat t)) (k:=0) (n:=2) (T:=228) (.head _) (b2 2)) rfl (Mr:=[⟨bT,.cells (fR (UInt8.ofNat n,UInt8.ofNat t)).toArray 228 (0,0)⟩]) (gQ (l₁:=[_])) (by simp only[maxLen];omega) (by show(os.n+1)*2<=_;omega) ?_;intro dh c' fi ub c5 c7 dS eP;refine aQ.mk _ (bl (i:=n) (by omega)) ?_;refine⟨(n+1,⟨some dh,os.n+1,c',fi⟩),⟨⟨by simp only;omega,?_⟩,by simp only;omega⟩,.sub (List.Sublist.cons_cons _ (cW _)) .refl,cU,.cons rfl .nil⟩;simp only;rw[DS,dc,bt,pd];exact Ky bf c5 c7 dS eP
    ·have FP:t=255:=by simp at aL;omega
     have pd:ht p (255-n) n=t:=by rw[y1,FP];rfl
     refine aQ.mk _ (qa (n:=n) (by omega)) ?_;refine aQ.mk _ (qa (n:=t) (by omega)) ?_;refine bL.mk λbT h3 iF=>?_;refine bk.sL aI rfl (by simp) (e:=228) rfl rfl rfl os bf rfl (m:=1) rfl (news:=fR (UInt8.ofNat n,UInt8.ofNat t)) (by decide) (dj (b:=bT) (cs:=fR (UInt8.ofNat n,UInt8.ofNat t)) (k:=0) (n:=2) (T:=228) (.head _) (b2 2)) rfl (Mr:=[⟨bT,.cells (fR (UInt8.ofNat n,UInt8.ofNat t)).toArray 228 (0,0)⟩]) (gQ (l₁:=[_])) (by simp only[maxLen];omega) (by show(os.n+1)*2<=_;omega) ?_;intro dh c' fi ub c5 c7 dS eP;refine aQ.mk _ (bl (i:=n) (by omega)) ?_;refine⟨(n+1,⟨some dh,os.n+1,c',fi⟩),⟨⟨by simp only;omega,?_⟩,by simp only;omega⟩,.sub (List.Sublist.cons_cons _ (cW _)) .refl,cU,.cons rfl .nil⟩;simp only;rw[DS,dc,bt,pd];exact Ky bf c5 c7 dS eP
  ·have wk:p n=false:=by simpa using U
   refine aQ.mk _ (bl (i:=n) (by omega)) ?_;refine⟨(n+1,os),⟨⟨by simp only;omega,?_⟩,by simp only;omega⟩,.refl,cU,.cons rfl .nil⟩;simp only;rw[DS,nH,wk,nr,bz,db];exact bf
 ·have:n=256:=by simp at h;omega
  subst this;exact⟨_,_,.refl,rfl,os,rfl,bf,rfl⟩
def XK(w:dd){k:Nat}(af:k<64):IntKind.u64.wrap ((BitVec.ofInt 64 ((w.toNat:Int).fdiv (2^(min k 64))) &&& BitVec.ofInt 64 1).toNat:Int)=bif w.getLsbD k then 1 else 0:=by
 have az:w.toNat<18446744073709551616:=w.isLt;have c9:min k 64=k:=by omega
 have aF:(w.toNat:Int).fdiv (2^k)=((w.toNat/2^k:Nat):Int):=by rw[ID _ (by exact Int.le_of_lt (Int.pow_pos (by decide)))];simp
 rw[c9,aF];have a7:(BitVec.ofInt 64 ((w.toNat/2^k:Nat):Int) &&& BitVec.ofInt 64 1).toNat=w.toNat/2^k%2:=by
  have U:BitVec.ofInt 64 ((w.toNat/2^k:Nat):Int)=BitVec.ofNat 64 (w.toNat/2^k):=(show ∀ m:Nat,BitVec.ofInt 64 (m:Int)=BitVec.ofNat 64 m from λm=>by simp) _;have ab:BitVec.ofInt 64 1=BitVec.ofNat 64 1:=by decide
  rw[U,ab,IG,JZ,JZ];have ak:w.toNat/2^k%2^64=w.toNat/2^k:=Oq (Nat.lt_of_le_of_lt (Nat.div_le_self _ _) az);rw[ak,show 1%2^64=1 by decide,Nat.and_one_is_mod]
 rw[a7];have bC:IntKind.u64.wrap ((w.toNat/2^k%2:Nat):Int)=((w.toNat/2^k%2:Nat):Int):=by have:w.toNat/2^k%2<2:=Nat.mod_lt _ (by decide);unfold IntKind.wrap;simp only[IntKind.bits,IntKind.signed];simp;omega
 rw[bC];have di:w.getLsbD k=w.toNat.testBit k:=rfl;rw[di,WE];have:w.toNat/2^k%2<2:=Nat.mod_lt _ (by decide);by_cases h:w.toNat/2^k%2=1
 ·rw[h];rfl
 ·have av:w.toNat/2^k%2=0:=by omega
  rw[av];rfl
def Pm{k:Nat}(af:k<64):IntKind.u64.wrap (1*2^(min k 64))=((kW k).toNat:Int):=by
 have c9:min k 64=k:=by omega
 have U:(2:Nat)^k<2^64:=Nat.pow_lt_pow_right (by decide) af;have e:(kW k).toNat=2^k:=by unfold kW;rw[BitVec.toNat_shiftLeft];simp only[JZ];rw[Nat.shiftLeft_eq,show 1%2^64=1 by decide,qD,Oq U]
 rw[c9,e,Int.one_mul];have a7:((2:Int)^k)=((2^k:Nat):Int):=by simp
 rw[a7];unfold IntKind.wrap;simp only[IntKind.bits,IntKind.signed];simp;omega
def ou(w:dd):Value:=.int .u64 w.toNat
def XL{w:dd}{i:Nat}(ax:i<64)(ab:¬ IntKind.u64.wrap ((BitVec.ofInt 64 ((w.toNat:Int).fdiv (2^(min i 64))) &&& BitVec.ofInt 64 1).toNat:Int)=0):w.getLsbD i=true:=by
 have ah:=XK w ax;cases ao:w.getLsbD i with
 |true=>rfl| false=>rw[ao]at ah;exact absurd ah ab
def XM{w:dd}{i:Nat}(ax:i<64)(ab:IntKind.u64.wrap ((BitVec.ofInt 64 ((w.toNat:Int).fdiv (2^(min i 64))) &&& BitVec.ofInt 64 1).toNat:Int)=0):w.getLsbD i=false:=by
 have ah:=XK w ax;cases ao:w.getLsbD i with
 |false=>rfl| true=>rw[ao,ab]at ah;cases ah
def XN{b:Int}(h:(!decide (a=b))=true):¬ a=b:=by simpa using h
def XO{b:Int}(h:(!decide (a=b))=false):a=b:=by simpa using h
def XP(w:dd):Spec Tryz.prog 46 [.int .u64 w.toNat] I M0 λv I' M'=>I'=I/\∃ os:aY,os.ok 1 ((bitsOf w 64).map λn:Nat=>Value.int .i64 n)/\v=os.val/\M'=os.aw 3++M0:=by
 refine bn [] aI Tryz.func46 rfl rfl rfl ?_;intro B av;refine bu.inv (ι:=Nat×aY) (λx=>{ a4:=[(0,.val (.int .u64 w.toNat)),(3,.val x.2.val),(5,.val (.int .i64 x.1))],br:=I,bO:=x.2.aw 3++M0 }) (λx=>x.1<=64/\x.2.ok 1 ((bitsOf w x.1).map λn:Nat=>Value.int .i64 n)) (λx=>64-x.1) ?_ ?_
 ·exact⟨(0,fs),⟨by simp,fT 1⟩,.refl,cU,.nil⟩
 rintro⟨i,os⟩⟨hi,bf⟩;simp only at hi bf;have hV:os.n<=64:=by have U:=bf.len;rw[cT]at U;have:=ahD w i;omega
 refine aB.mk (λh=>?_) (λh=>?_)
 rotate_left
 ·have bS:i=64:=by have:¬ (i:Int)<64:=cR h;omega
  rw[bS]at bf;exact⟨_,_,.refl,rfl,os,bf,rfl,rfl⟩
 have ax:i<64:=by have:(i:Int)<64:=cq h;omega
 refine wW.mk i rfl ?_;refine aB.mk (λab=>?_) (λab=>?_)
 ·have hw:=XL (w:=w) ax (XN ab);refine bL.mk λbT h3 iF=>?_;refine bk.nF aI rfl (by simp) (e:=3) rfl rfl rfl os bf rfl (cs:=[.int .i64 i]) rfl rfl rfl [] M0 rfl (by omega) (by show(os.n+1)*8<=_;omega) ?_;intro gL h8 ed eX;refine aQ.mk _ (bl (i:=i) (by omega)) ?_;refine⟨(i+1,gL),⟨⟨ax,?_⟩,by simp only;omega⟩,.refl,cU,.nil⟩;simp only;rw[WQ,hw,eL];exact eX
 ·have hw:=XM (w:=w) ax (XO ab);refine aQ.mk _ (bl (i:=i) (by omega)) ?_;refine⟨(i+1,os),⟨⟨ax,?_⟩,by simp only;omega⟩,.refl,cU,.nil⟩;simp only;rw[WQ,hw,bz,db];exact bf
def zu(w:dd):ap:=.i .u64 w.toNat
def Kz{e:Nat}(he:E e=some aO)(ar:aO.size=1)(aX:aO.bH.agg=false)(P:List ap)(x:ap)(r:List ap):zk E e (P.length*aO.size) (P++x::r)=some x:=by unfold zk;rw[he,uC,ar,fh,GQ,List.drop_left,aX];rfl
def XQ{F:Nat->ap->ap->Option Bool}{E:Env}{e:Nat}{aO:dW}(he:E e=some aO)(ar:aO.size=1)(aX:aO.bH.agg=false)(bs:∀ a b,F e (.i .u64 a) (.i .u64 b)=some (r5 a b)):∀ (l m:List dd) (r9 uD:List ap),l.length=m.length->r9.length=uD.length -> xR F E (r9++l.map zu) (uD++m.map zu) ((List.range' r9.length l.length).map λi=>(e,i*aO.size))=some (decide (l=m))
 |[],[],r9,uD,_,_=>rfl| [],_::_,_,_,h,_=>by simp at h
 |_::_,[],_,_,h,_=>by simp at h
 |a::l,b::m,r9,uD,h,aN=>by
  have a8:=XQ he ar aX bs l m (r9++[zu a]) (uD++[zu b]) (by simpa using h) (by simpa using aN);rw[cz,On,fx,fx,Db,Db]at a8;rw[cS,H5,cZ,cZ,cZ,xR,Kz he ar aX,uC,aN,Kz he ar aX,uC,<-aN];rw[show F e (zu a) (zu b)=some (decide (a=b)) by rw[<-ah1];exact bs _ _,uC,jS];by_cases aF:a=b;·subst aF;simp only[A6,nU];rw[a8];simp
  ·simp[aF]
def kw(m:List dd):List Value:=(List.range 64).map λi=>ou (m.getD i 0)
def KA{m:List dd}(h:m.length=64):kw m=m.map ou:=by
 unfold kw;apply rE
 ·simp[h]
 ·intro i U ab;have:i<m.length:=by simpa using ab
  simp[bV,this]
def td(m:List dd):(kw m).length=64:=by simp[kw]
def aib{x:Operand}{p q:List dd}(aN:p.length=64)(a0:q.length=64){V:Value->Prop}(h:V (.bool (decide (p=q)))) :
  cx Tryz.prog .eql 84 x y (.val (.agg (kw p).toArray)) (.val (.agg (kw q).toArray)) V other:=by
 rw[KA aN,KA a0];have ai:∀ l:List dd,bD (λ_=>none) (l.map zu) (l.map ou):=λl=>by
  induction l with
  |nil=>exact .nil| cons a l a8=>exact .cons (by simp only[zu,ou,aS]) a8
 refine Pk (X:=⟨Tryz.prog,lH,[],0,0,default,λ_=>none,[],none⟩) (D:=λ_=>none) (v:=.b (decide (p=q))) aI ?_ (ai p) (ai q) (λu hu=>by simp only[aS]at hu;rw[hu];exact h);show Bl Tryz.prog lH .eql 84 _ _=_;obtain⟨i1,U,eu⟩:∃ i,lH 84=some i/\i.bH=.array 64 57:=⟨_,rfl,rfl⟩;obtain⟨i2,ab,iR,GU⟩:∃ i,lH 57=some i/\i.bH=.int .u64/\i.size=1:=⟨_,rfl,rfl,rfl⟩;have bs:∀ a b,r6 Tryz.prog lH 7 57 (.i .u64 a) (.i .u64 b)=some (r5 a b):=λa b=>by simp only[r6,ab,uC,iR];rfl
 have af:=XQ (F:=r6 Tryz.prog lH 7) ab GU (by rw[iR];rfl) bs p q [] [] (by omega) rfl;unfold Bl;rw[r6];simp only[U,uC,eu,ab];rw[hO,hO,dI,aN]at af;rw[z4,af,show Tryz.prog.eqGuardType Tryz.prog.depth 84=false by kernel_rfl];rfl
structure dA where
 n:Nat
 m:List dd
 w:dd
def dA.cells(s:dA):List Value:=.int .i64 s.n::(kw s.m++[ou s.w])
def dA.val(s:dA):Value:=.agg s.cells.toArray
def dA.aic(s:dA):Prop:=s.m.length=64/\s.n<=64
def wm(b:Nat)(m:List dd):aD:=⟨b,.cells (kw m).toArray 84 (0,0)⟩
def GV{b:Nat}{m:List dd}(aV:wm b m∈M):bq I M (⟨b,0,none⟩:Addr) 64 (kw m):=
 ⟨rfl,_,_,_,.inr ⟨_,aV,rfl,rfl⟩,by simp only[qC];exact dX (by simp[td]),td m⟩
def XR{b:Nat}{m:List dd}(aV:wm b m∈M){j:Nat}(aj:j<64):bq I M ((⟨b,0,none⟩:Addr).add (j*1)) 1 [ou (m.getD j 0)]:=by rw[dF _ rfl];refine⟨rfl,_,_,_,.inr ⟨_,aV,rfl,rfl⟩,?_,rfl⟩;simp only[cM,fh];rw[dv (by simpa[kw]using aj),nq,mi];simp[kw]
def XS(m:List dd)(hm:m.length=64)(j:Nat)(aj:j<64)(w:dd):bG (kw m) (0+j*1) [ou w]=kw (m.set j w):=by rw[KA hm,KA (by simpa using hm),cM,fh,ah5 _ _ _ (by simp[hm];exact aj),CH]
def nI(m:List dd)(i:Nat):List dd:=(List.range i).map (λq=>mA m 0 64 (m.getD q 0))++m.drop i
def XT{m:List dd}(hm:m.length=64){i:Nat}(hi:i<=64):(nI m i).length=64:=by simp[nI,hm];omega
def aid{m:List dd}(hm:m.length=64){i:Nat}(hi:i<64):(nI m i).set i (m.getD i 0)=nI m i:=by
 unfold nI;have h:i<m.length:=by omega
 rw[Da _ _ (by simp)];simp only[cT,J0,pZ];rw[dv h,Dd];simp[bV,h]
def aie{m:List dd}(hm:m.length=64){i:Nat}(hi:i<64):(nI m i).set i (mA m 0 64 (m.getD i 0))=nI m (i+1):=by
 unfold nI;have h:i<m.length:=by omega
 rw[Da _ _ (by simp)];simp only[cT,J0,pZ];rw[dv h,Dd,zf,eL,fx];rfl
def XU{m:List dd}(hm:m.length=64):nI m 64=q0 m:=by unfold nI q0;rw[iK (by omega),db]
def zv(m:List dd)(k:Nat):dd:=(List.range k).foldl (λw i=>w ||| ((m.getD i 0) &&& kW i)) 0
def aif(m:List dd)(k:Nat):zv m (k+1)=zv m k ||| (m.getD k 0 &&& kW k):=by unfold zv;rw[zf,xp];rfl
def aih{b:Int}(h:a=b):ym (.val (.int .u64 a)) (.val (.int .u64 b)):=by subst h;exact .refl
def aii(m:List dd)(k:Nat):DR (zv m k).toNat (Pl (m.getD k 0).toNat (kW k).toNat)=((zv m (k+1)).toNat:Int):=by rw[ah0,Kv,aif]
def aij{m:List dd}{k:Nat}{w:dd}(af:k<64)(h:w.getLsbD k=true):mA m k (64-k) w=mA m (k+1) (64-(k+1)) (w ||| m.getD k 0):=by rw[show 64-k=(64-(k+1))+1 by omega,mA,h];rfl
def aik{m:List dd}{k:Nat}{w:dd}(af:k<64)(h:w.getLsbD k=false):mA m k (64-k) w=mA m (k+1) (64-(k+1)) w:=by rw[show 64-k=(64-(k+1))+1 by omega,mA,h];rfl
def Pn{m:List dd}{i:Nat}(hi:i<m.length)(w:dd):(m.set i w).getD i 0=w:=by simp[bV,hi]
set_option maxRecDepth 100000 in
def ail(s:dA)(ar:s.aic):Spec Tryz.prog 47 [s.val] I M0 λv I' M'=>I'=I/\M'=M0/\∃ b:dd,v=.int .u64 b.toNat/\∀ i,i<64->(b.getLsbD i=true ↔ p5 s.m i i):=by
 refine bn [1,3,4] aI Tryz.func47 rfl rfl rfl ?_;intro B av;obtain⟨eu,iR⟩:=ar;refine bL.mk λb1 jG F3=>?_;refine aE.mk (kw s.m) ?_ ?_
 ·refine⟨rfl,_,_,_,.inr ⟨_,.head _,rfl,rfl⟩,?_,td _⟩;show((s.cells).drop 1).take 64=_;rw[dA.cells,Gx,qC];exact pJ (td _)
 refine bL.mk λgR XV arb=>?_;refine cu.kU [] _ _ _ rfl rfl rfl rfl (kw s.m) rfl ?_;refine bu.inv (ι:=List dd) (λm=>{ a4:=[(3,.val (ptr gR))],br:=I,bO:=wm gR m::M0 }) (zh s.m) zi ?_ ?_
 ·exact⟨s.m,.start eu,.sub (.cons_cons _ (.cons _ (.refl _))) .refl,.cons .refl (.nil),.nil⟩
 intro m hm;have gz:=hm.len;refine aE.mk _ (GV (.head _)) ?_;refine bL.mk λvI arc ard=>?_;refine cu.kU [] _ _ _ rfl rfl rfl rfl (kw m) rfl ?_;refine bu.inv (ι:=Nat) (λi=>{ a4:=[(3,.val (ptr gR)),(4,.val (ptr vI)),(13,.val (.int .i64 i))],br:=I,bO:=wm vI (nI m i)::(wm gR m::M0) }) (λi=>i<=64) (λi=>64-i) ?_ ?_
 ·refine⟨0,bQ _,.refl,cU,.nil⟩
 intro i hi;refine aB.mk (λh=>?_) (λh=>?_)
 rotate_left
 ·have bS:i=64:=by have:¬ (i:Int)<64:=cR h;omega
  subst bS;refine aE.mk _ (GV (.head _)) ?_;refine aE.mk _ (GV (.tail _ (.head _))) ?_;refine aib (XT gz (b2 _)) gz ?_;rw[XU gz];refine aB.mk (λhe=>?_) (λhe=>?_)
  ·have fM:q0 m=m:=cq he;refine aE.mk _ (GV (.tail _ (.head _))) ?_;refine bu.inv (ι:=Nat) (λk=>{ a4:=[(7,.val (.int .u64 (zv m k).toNat)),(40,.val (.agg (kw m).toArray)),(41,.val (.int .i64 k))],br:=I,bO:=M0 }) (λk=>k<=64) (λk=>64-k) ?_ ?_
   ·exact⟨0,bQ _,.sub (.cons _ (.cons _ (.refl _))) .refl,cU,.nil⟩
   intro k af;refine aB.mk (λh=>?_) (λh=>?_)
   rotate_left
   ·have bS:k=64:=by have:¬ (k:Int)<64:=cR h;omega
    subst bS;exact⟨_,_,.refl,rfl,rfl,zv m 64,rfl,λi hi=>by rw[show zv m 64=Oz m from rfl,ahC m hi,hm.done fM hi hi]⟩
   have eh:k<64:=by have:(k:Int)<64:=cq h;omega
   clear h af;have aC:k=0\/k=1\/k=2\/k=3\/k=4\/k=5\/k=6\/k=7\/k=8\/k=9\/k=10\/k=11\/k=12\/k=13\/k=14\/k=15\/k=16\/k=17\/k=18\/k=19\/k=20\/k=21\/k=22\/k=23\/k=24\/k=25\/k=26\/k=27\/k=28\/k=29\/k=30\/k=31\/k=32\/k=33\/k=34\/k=35\/k=36\/k=37\/k=38\/k=39\/k=40\/k=41\/k=42\/k=43\/k=44\/k=45\/k=46\/k=47\/k=48\/k=49\/k=50\/k=51\/k=52\/k=53\/k=54\/k=55\/k=56\/k=57\/k=58\/k=59\/k=60\/k=61\/k=62\/k=63:=by omega
   rcases aC with rfl | rfl | rfl | rfl | rfl | rfl | rfl | rfl | rfl | rfl | rfl | rfl | rfl | rfl | rfl | rfl | rfl | rfl | rfl | rfl | rfl | rfl | rfl | rfl | rfl | rfl | rfl | rfl | rfl | rfl | rfl | rfl | rfl | rfl | rfl | rfl | rfl | rfl | rfl | rfl | rfl | rfl | rfl | rfl | rfl | rfl | rfl | rfl | rfl | rfl | rfl | rfl | rfl | rfl | rfl | rfl | rfl | rfl | rfl | rfl | rfl | rfl | rfl | rfl
   all_goals
    refine eb.mk _ rfl eh ?_;refine wW.mk _ rfl ?_;refine aQ.mk _ (Pm eh) ?_;refine aQ.mk _ (bl (by omega)) ?_;exact⟨_,⟨eh,by omega⟩,.refl,.cons (aih (aii m _)) (ih),.nil⟩
  ·have fM:q0 m≠m:=cR he;refine aE.mk _ (GV (.head _)) ?_;refine cu.kU [_] _ _ _ rfl rfl rfl rfl (kw (nI m 64)) rfl ?_;refine⟨q0 m,⟨hm.next,ahB gz fM⟩,.sub (.cons _ (.refl _)) (.lW ?_),.cons .refl (.nil),.nil⟩;rw[XU gz];rfl
 have ax:i<64:=by have:(i:Int)<64:=cq h;omega
 have kI:=XT gz hi;refine bu.inv (ι:=Nat×dd) (λs=>{ a4:=[(3,.val (ptr gR)),(4,.val (ptr vI)),(5,.val (.int .i64 i)),(13,.val (.int .i64 i)),(16,.val (.int .i64 s.1))],br:=I,bO:=wm vI ((nI m i).set i s.2)::(wm gR m::M0) }) (λs=>s.1<=64/\mA m 0 64 (m.getD i 0)=mA m s.1 (64-s.1) s.2) (λs=>64-s.1) ?_ ?_
 ·refine⟨(0,m.getD i 0),⟨bQ _,rfl⟩,.lW ?_,ec,.nil⟩;simp only;rw[aid gz ax]
 rintro⟨k,w⟩⟨af,dK⟩;simp only at af dK;refine aB.mk (λh=>?_) (λh=>?_)
 rotate_left
 ·have bS:k=64:=by have:¬ (k:Int)<64:=cR h;omega
  subst bS;have xK:mA m 0 64 (m.getD i 0)=w:=dK;refine aQ.mk _ (bl (i:=i) (by omega)) ?_;refine⟨i+1,⟨ax,by omega⟩,.lW ?_,cU,.nil⟩;rw[<-aie gz ax,xK]
 have eh:k<64:=by have:(k:Int)<64:=cq h;omega
 have fY:((nI m i).set i w).length=64:=by rw[m1,kI]
 have XW:∀ {M:List aD},wm vI ((nI m i).set i w)∈M->bq I M ((⟨vI,0,none⟩:Addr).add (i*1)) 1 [.int .u64 w.toNat]:=λaV=>by have:=XR (I:=I) aV ax;rwa [Pn (by omega) w]at this
 have vy:∀ {M:List aD},wm gR m∈M->bq I M ((⟨gR,0,none⟩:Addr).add (k*1)) 1 [.int .u64 (m.getD k 0).toNat]:=λaV=>XR (I:=I) aV eh;refine eb.mk i rfl ax ?_;refine aE.mk _ (XW (.head _)) ?_;refine wW.mk k rfl ?_;refine aB.mk (λab=>?_) (λab=>?_)
 ·have hw:=XL (w:=w) eh (XN ab);refine cr.draw aI rfl rfl rfl ?_;refine eb.mk i rfl ax ?_;refine aE.mk _ (XW (.head _)) ?_;refine eb.mk k rfl eh ?_;refine aE.mk _ (vy (.tail _ (.head _))) ?_;refine eb.mk i rfl ax ?_;refine cu.kN [] (wm gR m::M0) (kw ((nI m i).set i w)) _ rfl ?_ rfl (kw ((nI m i).set i (w ||| m.getD k 0))) ?_ ?_
  ·rw[FW,td];show 0+i*1+1<=64;omega
  ·show bG _ _ [Value.int .u64 (DR w.toNat (m.getD k 0).toNat)]=_;rw[Kv];have:=XS ((nI m i).set i w) fY i ax (w ||| m.getD k 0);rw[CI]at this;exact this
  refine aQ.mk _ (bl (i:=k) (by omega)) ?_;exact⟨(k+1,w ||| m.getD k 0),⟨⟨eh,by rw[dK,aij eh hw]⟩,by simp only;omega⟩,.refl,ec,.nil⟩
 ·have hw:=XM (w:=w) eh (XO ab);refine aQ.mk _ (bl (i:=k) (by omega)) ?_;exact⟨(k+1,w),⟨⟨eh,by rw[dK,aik eh hw]⟩,by simp only;omega⟩,.refl,ec,.nil⟩
section
variable{I:aT}{M:List aD}{d:aH}{x:aM}{a:Option Addr}{n c:Nat}{ks:List du}
def Gt.head(af:Gt I M a n ks)(av:0<n):∃ ad,a=some ad/\bq I M (ad.add (0*5)) 5 (ks.headD p2).cells:=by
 have U:0<ks.length:=by rw[af.n];exact av
 obtain⟨ad,ab,ak⟩:=af.rd 0 U;refine⟨ad,ab,?_⟩;cases ks with
 |nil=>simp at U| cons k ks=>exact ak
end
def Gt.sub{I:aT}{M M':List aD}{a:Option Addr}{n:Nat}{ks:List du}(h:Gt I M a n ks)(aV:∀ x∈M,x∈M'):Gt I M' a n ks:=
 ⟨h.n,λj aj=>by
  obtain⟨ad,U,ab⟩:=h.rd j aj;exact⟨ad,U,ab.sub aV⟩⟩
def nc(t:bx):Prop:=∀ n∈t.aa,n.aZ<=3000000000000
abbrev dR(X:cO)(G:GT)(pr:lk):gm:=⟨X.P,X.E,G,pr⟩
section
variable{X:cO}{G:GT}{pr:lk}{D:bF}{m:bi}{F:Fr}{an:be ap}{C:c8}{I:aT}{M:List aD}{V:de->Prop}{O:Prop}
def ov{a b:α}(h:some a=some b):a=b:=by cases h;rfl
def aim{op:BinOp}{k:IntKind}{b:Int}{v:ap}(h:OF op k eQ a b=some v)(af:∀ u,aS D v u->K u):k6 op dr (.val (.int k a)) (.val (.int eQ b)) K O:=by
 have mk:∀ {q:ap} {u:Value},some q=some v->aS D q u->K u:=λe hu=>af _ (ov e ▸ hu);unfold OF at h;split at h
 ·split at h
  ·rename_i j;refine⟨j,rfl,⟨_,rfl,mk h ?_⟩⟩;simp only[aS];rw[zp,ahV,jS,XD]
  ·cases h
 ·split at h
  ·rename_i j;refine⟨j,rfl,mk h ?_⟩;simp only[aS];rw[ahW,jS,XD]
  ·cases h
 all_goals obtain⟨a0,h⟩:=fV h
 all_goals simp only[k6,a0,bt]
 ·exact⟨_,rfl,mk h (by simp only[aS];rw[zp,ahQ])⟩
 ·exact⟨_,rfl,mk h (by simp only[aS];rw[zp,ahR])⟩
 ·exact⟨_,rfl,mk h (by simp only[aS];rw[zp,ahS])⟩
 ·obtain⟨av,h⟩:=zo h;refine⟨λe=>?_,_,rfl,mk h (by simp only[aS];rw[zp,ahT])⟩;rw[Bs,e]at av;simp at av
 ·obtain⟨av,h⟩:=zo h;refine⟨λe=>?_,mk h (by simp only[aS];rw[ahU])⟩;rw[Bs,e]at av;simp at av
 ·obtain⟨r,ag,h⟩:=ct h;rw[Km ag];exact mk h (by simp only[aS])
 ·obtain⟨r,ag,h⟩:=ct h;rw[Km ag];exact mk h (by simp only[aS])
 ·obtain⟨r,ag,h⟩:=ct h;rw[Km ag];exact mk h (by simp only[aS])
 ·obtain⟨r,ag,h⟩:=ct h;rw[Km ag];exact mk h (by simp only[aS])
 ·obtain⟨r,ag,h⟩:=ct h;rw[ahP]at ag;have ai:v=.b r:=(ov h).symm;subst ai;have kV:K (.bool r):=af _ (by simp only[aS]);cases op<;>first
   |contradiction|(rw[ag];exact kV)
def Po(b:Bool):bX b false true=!b:=by cases b<;>rfl
def ain{op:BinOp}{a b:List UInt8}{v:ap}{x:Operand}(h:OG op a b=some v)(af:∀ u,aS D v u->K u) :
  k6 op dr (.val (.string ⟨a.toArray⟩)) (.val (.string ⟨b.toArray⟩)) K (cx P op t x y (.val (.string ⟨a.toArray⟩)) (.val (.string ⟨b.toArray⟩)) K O):=by
 unfold OG at h;split at h
 ·cases h;refine af _ ?_;simp only[aS];rw[Kt,DQ]
 ·cases h;refine af _ ?_;simp only[aS];rw[Kt,DQ,Po]
 ·obtain⟨ay,h⟩:=fV h;cases h;have hY:=b9 ay;refine cx.concat (by simpa[ByteArray.size]using hY) (af _ ?_);simp only[aS];congr 1
 ·cases h
def aio{op:BinOp}{a:Bool}{v:ap}(h:OH op dr a b=some v)(af:∀ u,aS D v u->K u):k6 op dr (.val (.bool a)) (.val (.bool b)) K O:=by
 unfold OH at h;split at h
 ·split at h
  ·cases h;exact af _ (by simp only[aS])
  ·cases h;exact af _ (by simp only[aS])
  ·cases h
 ·cases h
def aip{x:ap}(h:OI x=some b){u:Value}(hu:aS D x u):∃ a n c,u=.slice a n c/\b=a.isNone:=by
 cases x<;>simp only[OI,jY,reduceCtorEq]at h<;>subst h<;>simp only[aS]at hu
 ·exact⟨_,_,_,hu,rfl⟩
 ·obtain⟨a,-,hu⟩:=hu;exact⟨_,_,_,hu,rfl⟩
 ·obtain⟨a,-,-,hu⟩:=hu;exact⟨_,_,_,hu,rfl⟩
 ·exact⟨_,_,_,hu,rfl⟩
 ·obtain⟨a,c,hu⟩:=hu;exact⟨_,_,_,hu,rfl⟩
def aiq{x:ap}(h:OJ x=some b){u:Value}(hu:aS D x u):∃ p,u=.pointer p/\b=p.isNone:=by
 cases x<;>simp only[OJ,jY,reduceCtorEq]at h<;>subst h<;>simp only[aS]at hu
 ·exact⟨_,hu,rfl⟩
 ·obtain⟨a,-,hu⟩:=hu;exact⟨_,hu,rfl⟩
 ·exact⟨_,hu,rfl⟩
def air{e:Nat}(h:P.underlying t=some (.slice e))(a:Option Addr)(n c:Nat)(w:World):(Op.equal t (.slice a n c) (.slice none 0 0)).run P w=.ok a.isNone w:=by
 have key:∀ d,(Op.equalIn (d+1) t (.slice a n c) (.slice none 0 0)).run P w=.ok a.isNone w:=λd=>by cases a<;>simp[Op.equalIn,run_underlying h]
 exact key 9999
def ais{e:Nat}(h:P.underlying t=some (.pointer e))(p:Option Addr)(w:World):(Op.equal t (.pointer p) (.pointer none)).run P w=.ok p.isNone w:=by
 have key:∀ d,(Op.equalIn (d+1) t (.pointer p) (.pointer none)).run P w=.ok p.isNone w:=λd=>by cases p<;>simp[Op.equalIn,run_underlying h]
 exact key 9999
def XX{op:BinOp}{v:ap}{x:Operand}{p q:Value}(ao:∀ w,op=.eql\/op=.neq->(eqGuard op t x y p q).run P w=.ok () w)(he:∀ w,(Op.equal t p q).run P w=.ok b w)(ah:∀ w,(binOp .eql t p q).run P w=.ok (.bool b) w)(az:∀ w,(binOp .neq t p q).run P w=.ok (.bool (!b)) w)(h:J6 op b=some v)(af:∀ u,aS D v u->K u):cx P op t x y (.val p) (.val q) K O:=by
 unfold J6 at h;split at h
 ·cases h;refine .mk p q (.bool b) rfl rfl (λw=>?_) (af _ (by simp only[aS]));simp only[b8,ao w (.inl rfl),bU,ah w]
 ·cases h;refine .mk p q (.bool (!b)) rfl rfl (λw=>?_) (af _ (by simp only[aS]));simp only[b8,ao w (.inr rfl),bU,az w]
 ·cases h
def ait(aR:cX X.P X.E){op:BinOp}{x y v:ap}{aiu:Operand}{u:Value}(h:OK X.P X.E op t x y=some v)(ae:aS D x u)(aA:aS D y w)(af:∀ u,aS D v u->K u) :
  k6 op (X.E t) (.val u) (.val w) K (cx X.P op t eF aiu (.val u) (.val w) K O):=by
 unfold OK at h;split at h
 ·rw[ae.int,aA.int];exact aim h af
 ·rw[ae.str,aA.str];exact ain h af
 ·rw[ae.bool,aA.bool];exact aio h af
 ·obtain⟨us,U,rfl⟩:=ae.agg;obtain⟨ws,ab,rfl⟩:=aA.agg;exact Pk aR h U ab af
 ·obtain⟨i,hi,h⟩:=ct h;split at h
  ·rename_i e nn;obtain⟨b,U,h⟩:=ct h;obtain⟨a,n,c,rfl,rfl⟩:=aip U ae;simp only[aS]at aA;subst aA;obtain⟨d,fp,eY⟩:=(aR _ _ hi).fl;have ab:d=.slice e:=by rw[nn]at eY;cases d<;>simp_all[fe]
   subst ab;have he:=air fp a n c;exact XX (λw aP=>by rcases aP with rfl | rfl<;>(unfold eqGuard;rfl)) he (λw=>by simp only[binOp];simp[he w]) (λw=>by simp only[binOp];simp[he w]) h af
  ·cases h
 ·obtain⟨i,hi,h⟩:=ct h;split at h
  ·rename_i e nn;obtain⟨b,U,h⟩:=ct h;obtain⟨p,rfl,rfl⟩:=aiq U ae;simp only[aS]at aA;subst aA;obtain⟨d,fp,eY⟩:=(aR _ _ hi).fl;have ab:d=.pointer e:=by rw[nn]at eY;cases d<;>simp_all[fe]
   subst ab;have he:=ais fp p;exact XX (λw aP=>by rcases aP with rfl | rfl<;>(unfold eqGuard;rfl)) he (λw=>by simp only[binOp];simp[he w]) (λw=>by simp only[binOp];simp[he w]) h af
  ·cases h
 ·cases h
variable(aR:cX X.P X.E)(hm:c2 (dR X G pr) D m I M)
def DT{v:ap}{n:Nat}(h:v.nat=some n):∃ k,v=.i k (.ofNat n):=by
 unfold ap.nat at h;split at h
 ·cases h;exact⟨_,rfl⟩
 ·cases h
def XY{x v:ap}{n:Nat}{u:Value}(h:GD x n=some v)(ae:aS D x u):∃ a,u=.pointer (some a)/\a.spot=none/\aS D v (.pointer (some (a.add n))):=by
 unfold GD at h;split at h
 ·cases h;obtain⟨a,aX,rfl⟩:=ae.ptr;refine⟨_,rfl,rfl,?_⟩;rw[dF _ rfl];simp only[aS];exact⟨a,aX,by simp only[Bh,tr]⟩
 ·cases h;refine⟨_,ae.p8,rfl,?_⟩;rw[dF _ rfl];simp only[aS];rfl
 ·cases h
def aiv{x v:ap}{j:Nat}{u:Value}(h:J7 x j sz=some v)(ae:aS D x u):∃ a n c,u=.slice (some a) n c/\j<n/\aS D v (.pointer (some (a.add (j*sz)))):=by
 unfold J7 at h;split at h
 ·cases ah:Nat.blt j _ with
  |false=>rw[ah]at h;cases h| true=>rw[ah]at h;cases h;obtain⟨a,aX,rfl⟩:=ae.r8;refine⟨_,_,_,rfl,b9 ah,?_⟩;rw[dF _ rfl];simp only[aS];exact⟨a,aX,by simp only[Bh,Gy,tr]⟩
 ·cases ah:Nat.blt j _ with
  |false=>rw[ah]at h;cases h| true=>rw[ah]at h;cases h;obtain⟨a,aX,_,rfl⟩:=ae.uB;refine⟨_,_,_,rfl,b9 ah,?_⟩;rw[dF _ rfl];simp only[aS];exact⟨a,aX,by simp only[Bh,Gy,tr]⟩
 ·cases ah:Nat.blt j _ with
  |false=>rw[ah]at h;cases h| true=>rw[ah]at h;cases h;refine⟨_,_,_,ae.Pd,b9 ah,?_⟩;rw[dF _ rfl];simp only[aS];rfl
 ·cases h
def XZ{cs:List ap}{v:ap}{us:List Value}(h:J9 aO cs off=some v)(aC:bD D cs us) :
  off+aO.size<=us.length/\aS D v (pack aO.bH.agg ((us.drop off).take aO.size)):=by
 unfold J9 at h;obtain⟨av,h⟩:=zo h;obtain⟨l,U,ab⟩:=ct h;have j7:aO.size≠0:=λe=>by rw[e]at av;cases av
 obtain⟨rfl,ay⟩:=XE U;rw[GQ]at ab ay;refine⟨?_,Kr ab ((aC.drop off).take _)⟩;have:=aC.len;simp at ay;omega
def X0{i:Nat}{g1:dW}(h:J8 E t i=some (off,g1)):∃ a b z cC l9,E t=some ⟨a,b,z,.struct cC⟩/\cC[i]?=some (l9,off)/\E l9=some g1:=by
 unfold J8 at h;split at h
 ·rename_i a b z cC aq;split at h
  ·rename_i l9 o au;rw[zr]at au;split at h
   ·rename_i f kT;cases h;exact⟨_,_,_,_,l9,aq,au,kT⟩
   ·cases h
  ·cases h
 ·cases h
def aiw(h:ON E t=some (r,aO)):(∃ a b z e,E t=some ⟨a,b,z,.slice e⟩/\E e=some aO/\r=none)\/∃ a b z n e,E t=some ⟨a,b,z,.array n e⟩/\E e=some aO/\r=some n:=by
 unfold ON at h;split at h
 ·rename_i a b z e aq;split at h
  ·cases h;exact .inl ⟨_,_,_,_,aq,by assumption,rfl⟩
  ·cases h
 ·rename_i a b z n e aq;split at h
  ·cases h;exact .inr ⟨_,_,_,_,_,aq,by assumption,rfl⟩
  ·cases h
 ·cases h
def aix{x i v:ap}{u:Value}(h:GF X.E t (some x) (some i)=some v)(ae:aS D x u)(hi:aS D i w){ρ:Operand->de}{fg:Operand}(uE:dH ρ eF=.val u)(hN:dH ρ fg=.val w)
  (k:∀ x,gC D x v->V x):cE X (.index t eF fg) ρ C I M V O:=by
 unfold GF at h;split at h
 ·rename_i l gn aq U ab;cases U;cases ab;obtain⟨j,aj,h⟩:=ct h;obtain⟨gu,rfl⟩:=DT aj;have fu:OO l j=some v:=h;unfold OO at fu;obtain⟨b,ah,fP⟩:=ct fu;cases fP;rw[zr]at ah;rw[ae.str]at uE;rw[hi.int]at hN;have ax:=(iO.1 ah).1;simp only[cE,aq,uE,hN];refine⟨j,rfl,by simpa[ByteArray.size]using ax,k _ (.val ?_)⟩;simp only[aS];have:(⟨l.toArray⟩:ByteArray)[j]'(by simpa[ByteArray.size]using ax)=b:=by have:=(iO.1 ah).2;show l.toArray[j]'_=b;simpa using this
  rw[this];rfl
 ·rename_i n e cs gn aq U ab;cases U;cases ab;obtain⟨aO,he,h⟩:=ct h;obtain⟨j,aj,h⟩:=ct h;obtain⟨gu,rfl⟩:=DT aj;obtain⟨us,fL,rfl⟩:=ae.agg;unfold W7 at h;obtain⟨ah,h⟩:=fV h;rw[b']at ah;obtain⟨ak,aL⟩:=XZ h fL;rw[hi.int]at hN;simp only[cE,aq,uE,hN,he];have cQ:Nat.beq (n*aO.size) us.toArray.size=true:=by have bm:=dD ah.1;rw[jZ,fL.len,<-bm];exact qp _
  rw[cQ];simp only[bt];exact⟨j,rfl,b9 ah.2,k _ (.val aL)⟩
 ·cases h
def aiy{x v:ap}{l:Nat}{h:Option Nat}{u:Value}(ar:OL x sz l h=some v)(ae:aS D x u):∃ a n c,u=.slice a n c/\l<=h.getD n/\h.getD n<=c/\(h=none->l<=n) /\
  aS D v (.slice (if c=l then a else a.map (·.add (l*sz))) (h.getD n-l) (c-l)):=by
 unfold OL at ar;split at ar
 ·cases ah:(Nat.beq l 0&&Nat.beq (h.getD 0) 0)with
  |false=>rw[ah]at ar;cases ar| true=>rw[ah]at ar;cases ar;rw[b']at ah;have U:=dD ah.1;have ab:=dD ah.2;subst U;refine⟨none,0,0,ae.Bt,by omega,by omega,λ_=>by omega,?_⟩;rw[ab];simp[aS]
 ·rename_i id off n c;obtain⟨a,aX,rfl⟩:=ae.r8;simp only at ar;cases ah:(Nat.ble l (h.getD n)&&Nat.ble (h.getD n) c)with
  |false=>rw[ah]at ar;cases ar
  |true=>
   rw[ah]at ar;simp only[bt]at ar;rw[b']at ah;have U:=b9 ah.1;have ab:=b9 ah.2;refine⟨_,n,c,rfl,U,ab,λe=>by subst e;exact U,?_⟩;rw[Pb]at ar;by_cases e:c=l;·subst e;simp only[A6,bt]at ar;cases ar;simp only[nU,aS];exact⟨a,aX,by simp only[Gz,pZ]⟩
   ·simp only[e,decide_false,bz]at ar;cases ar;simp only[e,kB,aS,mK];refine⟨a,aX,?_⟩;rw[dF _ rfl];simp only[Bh,Gy,Gz,tr]
 ·rename_i id off e n;obtain⟨a,aX,hle,rfl⟩:=ae.uB;simp only at ar;cases ah:(Nat.ble l (h.getD n)&&Nat.ble (h.getD n) n)with
  |false=>rw[ah]at ar;cases ar
  |true=>
   rw[ah]at ar;simp only[bt]at ar;rw[b']at ah;have U:=b9 ah.1;have ab:=b9 ah.2;refine⟨_,n,a.c-e,rfl,U,by omega,λe=>by subst e;exact U,?_⟩;cases aC:(Nat.beq l 0||Nat.blt l n)with
   |true=>
    rw[aC]at ar;simp only[bt]at ar;cases ar;rw[j0]at aC;simp only[aS];refine⟨a,aX,by simp only[Bh,Gz];omega,?_⟩;have ak:a.c-e-l=a.c-(e+l):=by omega
    by_cases av:l=0
    ·subst av;simp only[xe,A5,mK,Bh,Gy,Gz,nT];split
     ·rfl
     ·rw[dF _ rfl];simp
    ·have aL:l<n:=by
      rcases aC with aC | aC;·exact absurd (dD aC) av
      ·exact b9 aC
     rw[cB (by omega)];simp only[mK];rw[dF _ rfl];simp only[Bh,Gy,Gz,tr,ak]
   |false=>
    rw[aC]at ar;simp only[bz]at ar;cases ar;rw[qB]at aC;have aL:¬ l<n:=λax=>by have:=xO (show l.succ<=n from ax);rw[show Nat.blt l n=Nat.ble l.succ n from rfl,this]at aC;cases aC.2
    have bm:h.getD n-l=0:=by omega
    simp only[aS,bm];split;·exact⟨_,_,rfl⟩
    ·exact⟨_,_,rfl⟩
 ·cases ar
end
section
variable{X:cO}{G:GT}{pr:lk}{D:bF}{m:bi}{F:Fr}{an:be ap}{C:c8}{I:aT}{M:List aD}{V:de->Prop}{O:Prop}
def aiz(c:Bool)(a b:Value):H9 c (.val a) (.val b)=.val (bif c then a else b):=by cases a<;>cases b<;>cases c<;>rfl
def X1{o:Option Operand}{xs:List Operand}(H:ka D F an xs)(ae:∀ y,o=some y->y∈xs)(h:Bm (o.map (dV an))=some r) :
  (o.map (dH (df F))=none/\r=none)\/∃ k n,o.map (dH (df F))=some (.val (.int k (Int.ofNat n)))/\r=some n:=by
 cases o with
 |none=>simp[Bm]at h;exact .inl ⟨rfl,h.symm⟩
 |some y=>
  simp only[mK,Bm]at h;cases ai:dV an y with
  |none=>rw[ai]at h;cases h
  |some v=>
   rw[ai]at h;simp only at h;split at h;·rename_i n az;cases h;obtain⟨k,rfl⟩:=DT az;obtain⟨u,hu,ag⟩:=H.bY (ae y rfl) ai;rw[ag.int]at hu;exact .inr ⟨k,n,by simp only[mK];exact congrArg some hu,rfl⟩
   ·cases h
def Pp(l:List UInt8)(lo hi:Nat):(⟨(OM l lo hi).toArray⟩:ByteArray)=(⟨l.toArray⟩:ByteArray).extract lo hi:=by apply qo;apply gF;unfold OM;rw[GQ];simp[Ci,List.extract_eq_take_drop]
def aiA{v:ap}{n:Nat}{u:Value}(h:wa v=some n)(ai:aS D v u):∃ a c,u=.slice a n c:=by
 unfold wa at h;split at h
 ·cases h;exact⟨_,_,ai.Bt⟩
 ·cases h;obtain⟨a,c,rfl⟩:=ai.Ko;exact⟨_,_,rfl⟩
 ·cases h;obtain⟨a,_,rfl⟩:=ai.r8;exact⟨_,_,rfl⟩
 ·cases h;obtain⟨a,_,_,rfl⟩:=ai.uB;exact⟨_,_,rfl⟩
 ·cases h;exact⟨_,_,ai.Pd⟩
 ·cases h
def aiB(aR:cX X.P X.E){b:Builtin}{args:Array Operand}{eJ:Array TypeId}{v:ap}(h:OR X.E b eJ.toList (nG an args.toList)=some v)(H:ka D F an args.toList)(k:∀ x,gC D x v->V x) :
  cE X (.call { callee:=.builtin b,args:=args,argTypes:=eJ }) (df F) C I M V O:=by
 unfold OR at h;split at h
 ·
  unfold Xb at h;split at h
  ·rename_i t w aq ay;obtain⟨us,aF,a6⟩:=H.l8 (λ_ h=>h) ay;obtain⟨u,xs,bb,b0,rfl⟩:=a6.j';have:=b0.nb;subst this;have dZ:jx (df F) args.toList=some [u]:=aF;simp only[cE,aq,dZ];split at h
   ·rename_i a b z e uF n2;unfold J' at h;obtain⟨n,az,h⟩:=ct h;have fP:some (ap.i .i64 (.ofNat n))=some v:=h;cases fP;obtain⟨ch,c,rfl⟩:=aiA az bb;simp only[n2];exact k _ (.val (by simp only[aS];rfl))
   ·rename_i a b z l n2;cases h;rw[bb.str];simp only[n2];refine k _ (.val ?_);simp only[aS];simp[ByteArray.size]
   ·rename_i a b z n e uF n2;cases h;cases u<;>(simp only[n2];exact k _ (.val (by simp only[aS];rfl)))
   ·cases h
  ·cases h
 ·unfold Xc at h;split at h
  ·rename_i da a bZ b ay;obtain⟨us,aF,a6⟩:=H.l8 (λ_ h=>h) ay;obtain⟨u,xs,bb,b0,rfl⟩:=a6.j';obtain⟨w,vL,fy,kL,rfl⟩:=b0.j';have:=kL.nb;subst this;have dZ:jx (df F) args.toList=some [u,w]:=aF;rw[bb.int,fy.int]at dZ;simp only[cE,dZ];cases h;refine k _ (.val ?_);simp only[aS];rw[jS,Kl];by_cases g6:a<=b
   ·simp[g6];omega
   ·simp[g6];omega
  ·cases h
 ·unfold Xd at h;split at h
  ·rename_i da a bZ b ay;obtain⟨us,aF,a6⟩:=H.l8 (λ_ h=>h) ay;obtain⟨u,xs,bb,b0,rfl⟩:=a6.j';obtain⟨w,vL,fy,kL,rfl⟩:=b0.j';have:=kL.nb;subst this;have dZ:jx (df F) args.toList=some [u,w]:=aF;rw[bb.int,fy.int]at dZ;simp only[cE,dZ];cases h;refine k _ (.val ?_);simp only[aS];rw[jS,Kl];by_cases g6:a<=b
   ·simp[g6];omega
   ·simp[g6];omega
  ·cases h
 ·unfold Xe at h;split at h
  ·rename_i t id off n c aq ay;split at h
   ·rename_i a b z e n2;cases h;obtain⟨us,aF,a6⟩:=H.l8 (λ_ h=>h) ay;obtain⟨u,xs,bb,b0,rfl⟩:=a6.j';have:=b0.nb;subst this;obtain⟨ch,aX,rfl⟩:=bb.r8;have dZ:jx (df F) args.toList=some [_]:=aF;simp only[cE,aq,dZ,n2];exact k _ (.val (by simp only[aS];rfl))
   ·cases h
  ·cases h
 ·unfold Xf at h;split at h
  ·rename_i ay;cases h;obtain⟨us,aF,a6⟩:=H.l8 (λ_ h=>h) ay;obtain⟨u,xs,bb,b0,rfl⟩:=a6.j';have:=b0.nb;subst this;rw[bb.Bt]at aF;have dZ:jx (df F) args.toList=some [_]:=aF;simp only[cE,dZ];exact k _ (.val (by simp only[aS]))
  ·rename_i id off n c ay;obtain⟨av,h⟩:=zo h;cases h;obtain⟨us,aF,a6⟩:=H.l8 (λ_ h=>h) ay;obtain⟨u,xs,bb,b0,rfl⟩:=a6.j';have:=b0.nb;subst this;obtain⟨ch,aX,rfl⟩:=bb.r8;have dZ:jx (df F) args.toList=some [_]:=aF;simp only[cE,dZ];refine⟨λe=>?_,k _ (.val ?_)⟩
   ·have:c=0:=by omega
    subst this;cases av
   ·simp only[aS];exact⟨ch,aX,rfl⟩
  ·rename_i id off e n ay;obtain⟨av,h⟩:=zo h;cases h;obtain⟨us,aF,a6⟩:=H.l8 (λ_ h=>h) ay;obtain⟨u,xs,bb,b0,rfl⟩:=a6.j';have:=b0.nb;subst this;obtain⟨ch,aX,hle,rfl⟩:=bb.uB;have dZ:jx (df F) args.toList=some [_]:=aF;simp only[cE,dZ];refine⟨λc0=>?_,k _ (.val ?_)⟩
   ·have:n=0:=by omega
    subst this;cases av
   ·simp only[aS];exact⟨ch,aX,rfl⟩
  ·cases h
 ·cases h
def X2(aR:cX X.P X.E){op:Op}{v:ap}(h:uy X.P X.E G m.t op an=some v)(H:ka D F an op.operands.toList)(hm:c2 (dR X G pr) D m I M)(k:∀ x,gC D x v->V x):cE X op (df F) C I M V O:=by
 unfold uy at h;split at h
 ·
  exact k _ (H _ (by simp[Op.operands]) _ h)
 ·exact k _ (H _ (by simp[Op.operands]) _ h)
 ·
  rename_i c a b;unfold WZ at h;split at h
  ·rename_i q u w U ab ak;cases h;have aC:=H c (by simp[Op.operands]) _ U;have aX:=H a (by simp[Op.operands]) _ ab;have ah:=H b (by simp[Op.operands]) _ ak;simp only[cE];rcases aC with⟨are,KB,aC⟩ | ⟨fB,c0,KB⟩
   ·rw[aC.bool]at KB;simp only[KB];obtain⟨Pq,Ob,aiC⟩:=aX.dH;obtain⟨Pr,JS,cD⟩:=ah.dH;have aiD:dH (df F) a=.val Pq:=Ob;have aiE:dH (df F) b=.val Pr:=JS;rw[aiD,aiE];refine k _ (.inl ⟨bif q then Pq else Pr,?_,?_⟩)
    ·exact aiz q Pq Pr
    ·cases q
     ·exact cD
     ·exact aiC
   ·cases c0;simp only[KB];cases q
    ·exact k _ ah
    ·exact k _ aX
  ·cases h
 ·
  rename_i arf t x;unfold W0 at h;split at h
  ·rename_i b U;cases h;have ae:=H x (by simp[Op.operands]) _ U;simp only[cE];rcases ae with⟨u,e,hu⟩ | ⟨q,aF,e⟩
   ·rw[hu.bool]at e;simp only[e];exact k _ (.val (by simp only[aS];rw[Po]))
   ·cases aF;simp only[e];exact k _ (.inr ⟨!b,by rw[Po],rfl⟩)
  ·rename_i gu n U;cases h;have ae:=H x (by simp[Op.operands]) _ U;obtain⟨u,e,hu⟩:=ae.wg (by simp);rw[hu.int]at e;simp only[cE,e];exact⟨_,rfl,k _ (.val (by simp only[aS];rw[zp]))⟩
  ·cases h
 ·
  rename_i arh t x y bh;unfold W1 at h;obtain⟨a,U,h⟩:=ct h;obtain⟨b,ab,h⟩:=ct h;obtain⟨u,aF,a6⟩:=H.bY (x:=x) (by simp[Op.operands]) U;obtain⟨w,a7,bb⟩:=H.bY (x:=y) (by simp[Op.operands]) ab;have dZ:dH (df F) x=.val u:=aF;have qu:dH (df F) y=.val w:=a7;simp only[cE,dZ,qu];exact ait aR h a6 bb λr ag=>k _ (.val ag)
 ·
  rename_i t x;unfold W2 at h;obtain⟨i,hi,h⟩:=ct h;obtain⟨a,U,h⟩:=ct h;have ae:=H x (by simp[Op.operands]) _ U;have xX:∀ q,a≠.b q:=λq e=>by subst e;cases h
  obtain⟨u,aF,a6⟩:=ae.wg xX;obtain⟨ad,l,vs,rfl,a3,ay,aN⟩:=wi hm a6 h;simp only[cE,hi,aF];exact⟨vs,a3,k _ (.val (Kr aN ay))⟩
 ·
  rename_i x;unfold W3 at h;split at h;·rename_i id off U;cases h;obtain⟨u,aF,a6⟩:=(H x (by simp[Op.operands]) _ U).wg (by simp);obtain⟨a,aX,rfl⟩:=a6.ptr;simp only[cE,aF];exact k _ (.val a6)
  ·rename_i id off U;cases h;obtain⟨u,aF,a6⟩:=(H x (by simp[Op.operands]) _ U).wg (by simp);have:=a6.p8;subst this;simp only[cE,aF];exact k _ (.val a6)
  ·cases h
 ·
  rename_i t x i;unfold W4 at h;obtain⟨r,ag,h⟩:=ct h;obtain⟨a,U,h⟩:=ct h;obtain⟨off,g1⟩:=r;obtain⟨a2,h⟩:=zo h;obtain⟨sa,r',sz,cC,l9,aq,au,kT⟩:=X0 ag;have ae:=H x (by simp[Op.operands]) _ U;have xX:∀ q,a≠.b q:=λq e=>by subst e;cases h
  obtain⟨u,aF,a6⟩:=ae.wg xX;obtain⟨ad,rfl,ar,ai⟩:=XY h a6;have fW:Nat.beq g1.size 0=false:=a2;simp only[cE,aq,au,kT,aF,fW,bz];exact k _ (.val ai)
 ·
  rename_i t x i;unfold W5 at h;split at h;·rename_i off g1 cs av U;obtain⟨sa,r',sz,cC,l9,aq,au,kT⟩:=X0 av;obtain⟨u,aF,a6⟩:=H.bY (x:=x) (by simp[Op.operands]) U;obtain⟨us,fL,rfl⟩:=a6.agg;obtain⟨ab,ak⟩:=XZ h fL;have dZ:dH (df F) x=.val (.agg us.toArray):=aF;simp only[cE,aq,dZ,au,kT];rw[show Nat.ble (off+g1.size) us.toArray.size=true from xO (by simpa using ab)];exact k _ (.val ak)
  ·cases h
 ·
  rename_i t x i;unfold W6 at h;obtain⟨r,ag,h⟩:=ct h;obtain⟨a,U,h⟩:=ct h;obtain⟨b,ab,h⟩:=ct h;obtain⟨j,aj,h⟩:=ct h;obtain⟨gu,rfl⟩:=DT aj;obtain⟨u,a7,bb⟩:=H.bY (x:=i) (by simp[Op.operands]) ab;rw[bb.int]at a7;have qu:dH (df F) i=.val (.int gu (.ofNat j)):=a7;obtain⟨ari,aO⟩:=r;rcases aiw ag with⟨sa,r',sz,e,aq,he,rfl⟩ | ⟨sa,r',sz,n,e,aq,he,rfl⟩;·have aG:J7 a j aO.size=some v:=h;obtain⟨w,aF,a6⟩:=H.bY (x:=x) (by simp[Op.operands]) U;obtain⟨ad,n,c,rfl,ax,ai⟩:=aiv aG a6;have dZ:dH (df F) x=.val (.slice (some ad) n c):=aF;simp only[cE,aq,qu,he,dZ];exact⟨ad,j,rfl,rfl,ax,k _ (.val ai)⟩
  ·have aG:bX (Nat.blt j n) (GD a (Nat.mul j aO.size)) none=some v:=h;obtain⟨ah,aG⟩:=fV aG;have ae:=H x (by simp[Op.operands]) _ U;have xX:∀ q,a≠.b q:=λq e=>by subst e;cases aG
   obtain⟨w,aF,a6⟩:=ae.wg xX;obtain⟨ad,rfl,ar,ai⟩:=XY aG a6;simp only[cE,aq,qu,he,aF];exact⟨j,rfl,b9 ah,k _ (.val ai)⟩
 ·
  rename_i t x i;cases U:dV an x with
  |none=>rw[U]at h;unfold GF at h;split at h<;>first | cases h | (rename_i e _;cases e)
  |some a=>
   cases ab:dV an i with
   |none=>rw[ab]at h;unfold GF at h;split at h<;>first | cases h | (rename_i e;cases e)
   |some b=>rw[U,ab]at h;obtain⟨u,aF,a6⟩:=H.bY (x:=x) (by simp[Op.operands]) U;obtain⟨w,a7,bb⟩:=H.bY (x:=i) (by simp[Op.operands]) ab;exact aix h a6 bb aF a7 k
 ·
  rename_i t parts;unfold W8 at h;split at h
  ·rename_i i vs aq aN;obtain⟨z,a2,h⟩:=ct h;have fW:=bD.Bu (D:=D) a2;obtain⟨us,aF,a6⟩:=H.parts (l:=parts.toList) (by intro y aA;simpa[Op.operands]using aA) aN;have dZ:sA (df F) parts.toList=some us:=aF
   try simp only at h
   split at h;·rename_i cC nn;obtain⟨vC,h⟩:=fV h;unfold GG at h;obtain⟨cs,ak,aL⟩:=ct h;have fP:some (ap.a cs)=some v:=aL;cases fP;obtain⟨aJ,bm,b5⟩:=Ks ak fW a6;simp only[cE,aq,dZ,nn,vC,bt,bm];exact k _ (.val (.Kp b5))
   ·rename_i n e nn;obtain⟨aO,he,h⟩:=ct h;have aG:GG (zl (λj=>some (j*aO.size,aO.size)) z vs)=some v:=h;unfold GG at aG;obtain⟨cs,ak,aL⟩:=ct aG;have fP:some (ap.a cs)=some v:=aL;cases fP;obtain⟨aJ,bm,b5⟩:=Ks ak fW a6;simp only[cE,aq,dZ,nn,he,bm];exact k _ (.val (.Kp b5))
   ·cases h
  ·cases h
 ·
  rename_i f first captured
  unfold W9 at h;split at h
  ·rename_i g cC cs U ab;cases h;obtain⟨us,aF,a6⟩:=H.l8 (l:=first.toList) (by intro y aA;simp[Op.operands];exact .inl (by simpa using aA)) U;obtain⟨ws,a7,bb⟩:=H.l8 (l:=captured.toList) (by intro y aA;simp[Op.operands];exact .inr (by simpa using aA)) ab;have dZ:jx (df F) first.toList=some us:=aF
   have qu:jx (df F) captured.toList=some ws:=a7;simp only[cE,dZ,qu];exact k _ (.val (by simp only[aS];exact⟨us,ws,a6,bb,rfl⟩))
  ·cases h
 ·
  rename_i t x lo hi;cases U:dV an x with
  |none=>rw[U]at h;unfold GH at h;split at h<;>first | cases h | (rename_i e _ _;cases e)
  |some a=>
   rw[U]at h;cases ab:Bm (lo.map (dV an))with
   |none=>rw[ab]at h;unfold GH at h;split at h<;>first | cases h | (rename_i e _;cases e)
   |some l=>
    rw[ab]at h;cases ak:Bm (hi.map (dV an))with
    |none=>rw[ak]at h;unfold GH at h;split at h<;>first | cases h | (rename_i e;cases e)
    |some cj=>
     rw[ak]at h;obtain⟨u,aF,a6⟩:=H.bY (x:=x) (by simp[Op.operands]) U;have dZ:dH (df F) x=.val u:=aF;have gN:=X1 H (λy aA=>by subst aA;simp[Op.operands]) ab;have ia:=X1 H (λy aA=>by subst aA;simp[Op.operands]) ak;unfold GH at h;split at h
     ·rename_i sa r' sz e jz Bw ck aq bC di hE;cases bC;cases di;cases hE;obtain⟨aO,he,h⟩:=ct h;have aG:OP aO a l cj=some v:=h;unfold OP at aG;split at aG
      ·have el:lo.map (dH (df F))=none:=by
        rcases gN with⟨el,_⟩ | ⟨_,_,_,el⟩;·exact el
        ·cases el
       have ow:hi.map (dH (df F))=none:=by
        rcases ia with⟨ow,_⟩ | ⟨_,_,_,ow⟩;·exact ow
        ·cases ow
       have fY:∃ q n c,u=.slice q n c/\aS D v u:=by
        split at aG;·cases aG;exact⟨_,_,_,a6.Bt,a6⟩
        ·cases aG;obtain⟨q,_,rfl⟩:=a6.r8;exact⟨_,_,_,rfl,a6⟩
        ·cases aG;obtain⟨q,_,_,rfl⟩:=a6.uB;exact⟨_,_,_,rfl,a6⟩
        ·cases aG;obtain⟨q,c,rfl⟩:=a6.Ko;exact⟨_,_,_,rfl,a6⟩
        ·cases aG
       obtain⟨q,n,c,rfl,ai⟩:=fY;simp only[cE,aq,dZ,he,el,ow];exact k _ (.val ai)
      ·obtain⟨q,n,c,rfl,c6,dg,gB,ai⟩:=aiy aG a6;simp only[cE,aq,dZ,he];rcases gN with⟨el,rfl⟩ | ⟨eN,GW,el,rfl⟩<;>rcases ia with⟨ow,rfl⟩ | ⟨aiF,GX,ow,rfl⟩<;>simp only[el,ow]
       ·rename_i bB;exact(bB rfl rfl).elim
       ·simp only[tq,je]at c6 dg ai;refine⟨0,GX,rfl,rfl,bQ _,dg,k _ (.val ?_)⟩;simp only[xe,A5]at ai;have c9:(if c=0 then q else q.map λx=>x.add 0)=q:=by
         split;·rfl
         ·cases q with
          |none=>rfl| some q=>simp[Addr.add]
        rw[c9]at ai;exact ai
       ·simp only[tq,je]at c6 dg ai;exact⟨GW,n,rfl,rfl,c6,b2 _,k _ (.val ai)⟩
       ·simp only[tq,je]at c6 dg ai;exact⟨GW,GX,rfl,rfl,c6,dg,k _ (.val ai)⟩
     ·rename_i sa r' sz str Bw ck aq bC di hE;cases bC;cases di;cases hE;rw[a6.str]at dZ;have aG:OQ str l cj=some v:=h;unfold OQ at aG;split at aG
      ·have el:lo.map (dH (df F))=none:=by
        rcases gN with⟨el,_⟩ | ⟨_,_,_,el⟩;·exact el
        ·cases el
       have ow:hi.map (dH (df F))=none:=by
        rcases ia with⟨ow,_⟩ | ⟨_,_,_,ow⟩;·exact ow
        ·cases ow
       cases aG;simp only[cE,aq,dZ,el,ow];exact k _ (.val (by simp only[aS]))
      ·obtain⟨ah,aG⟩:=fV aG;cases aG;rw[b']at ah;have b1:=b9 ah.1;have cc:=b9 ah.2;have cQ:(⟨str.toArray⟩:ByteArray).size=str.length:=by simp[ByteArray.size]
       simp only[cE,aq,dZ];rcases gN with⟨el,rfl⟩ | ⟨eN,GW,el,rfl⟩<;>rcases ia with⟨ow,rfl⟩ | ⟨aiF,GX,ow,rfl⟩<;>simp only[el,ow]
       ·rename_i bB;exact(bB rfl rfl).elim
       ·simp only[tq,je]at b1 cc;exact⟨0,GX,rfl,rfl,bQ _,by rw[cQ];exact cc,k _ (.val (by simp only[aS,tq,je,Pp]))⟩
       ·simp only[tq,je]at b1 cc;exact⟨GW,str.length,rfl,by rw[cQ];rfl,b1,by rw[cQ];exact b2 _,k _ (.val (by simp only[aS,tq,je,Pp,cQ]))⟩
       ·simp only[tq,je]at b1 cc;exact⟨GW,GX,rfl,rfl,b1,by rw[cQ];exact cc,k _ (.val (by simp only[aS,tq,je,Pp]))⟩
     ·cases h
 ·
  rename_i x i;unfold W' at h;split at h;·rename_i vs U;obtain⟨u,aF,a6⟩:=H.bY (x:=x) (by simp[Op.operands]) U;obtain⟨us,fL,rfl⟩:=a6.Pe;rw[zr]at h;obtain⟨w,hw,ai⟩:=fL.get h;have dZ:dH (df F) x=.val (.tuple us.toArray):=aF;simp only[cE,dZ,hw];exact k _ (.val ai)
  ·cases h
 ·
  rename_i s d x;unfold Xa at h;split at h;·rename_i gu da n ar al U;cases h;obtain⟨u,aF,a6⟩:=H.bY (x:=x) (by simp[Op.operands]) U;rw[a6.int]at aF;have dZ:dH (df F) x=.val (.int da n):=aF;simp only[cE,ar,al,dZ];exact⟨_,rfl,k _ (.val (by simp only[aS];rw[zp]))⟩
  ·cases h
 ·
  rename_i b args eJ;exact aiB aR h (by simpa[Op.operands,Call.operands]using H) k
 ·cases h
end
def bF.set(D:bF)(id:Nat)(a:Loc):bF:=λi=>if i=id then some a else D i
def bF.pe(D:bF)(id:Nat)(a:Loc):(D.set id a) id=some a:=by simp[bF.set]
def bF.le_refl(D:bF):D.le D:=λ_ _ h=>h
def bF.le_trans{D bp GY:bF}(h:D.le bp)(k:bp.le GY):D.le GY:=λi a e=>k _ _ (h _ _ e)
def bF.zw{D:bF}{id:Nat}(a:Loc)(h:D id=none):D.le (D.set id a):=λi b ah=>by
 unfold bF.set;split
 ·rename_i e;subst e;rw[h]at ah;cases ah
 ·exact ah
def bF.ext(D bp:bF)(n:Nat):Prop:=∀ i,i<n->bp i=D i
def bF.ox{D:bF}{n:Nat}:D.ext D n:=λ_ _=>rfl
def bF.DU{D:bF}{n:Nat}{a:Loc}:D.ext (D.set n a) n:=λi hi=>by unfold bF.set;rw[cB (by omega)]
section
variable{Y:gm}{D bp:bF}{m:bi}{I I':aT}{M M':List aD}{R:Type}
def GS.mono{G:GT}(h:GS G I)(cg:∀ b o,I b=some o->I' b=some o):GS G I':=λg cs ao=>by obtain⟨arr,T,f,U,ab⟩:=h g cs ao;exact⟨arr,T,f,cg _ _ U,ab⟩
def c2.le(h:c2 Y D m I M)(dn:D.ext bp m.n):D.le bp:=λi a aX=>by rw[dn i (h.jn _ _ aX)];exact aX
def c2.step(h:c2 Y D m I M){bh:be fa}{lX j:Nat}{c9:fa}{a:Loc}(aq:∀ id e,bh.get id=some e->(id=j/\c9=e)\/(id≠j/\m.t.get id=some e))(aj:bp j=some a)(hle:D.le bp)(dn:∀ i,i≠j->bp i=D i)(aiG:∀ id a,bp id=some a->id<lX)(cg:∀ b o,I b=some o->I' b=some o)(mU:∀ id e ch,id≠j->m.t.get id=some e->D id=some ch->∀ x∈M,x.num=ch.b->x∈M')
  (he:kZ bp Y.E M' a c9) (AU:∀ id e ch,id≠j->m.t.get id=some e->D id=some ch->ch.b≠a.b):c2 Y bp ⟨bh,lX⟩ I' M' where
 iq id e ca ao U:=by
  rcases aq id e ao with⟨aF,a7⟩ | ⟨bB,ao⟩;·subst aF;subst a7;rw[aj]at U;cases U;exact he
  ·rw[dn id bB]at U;exact(h.iq id e ca ao U).mono hle λx ae az=>mU id e ca bB ao U x ae az
 inj id ir e c0 ca dC ao mb U ab ah:=by
  rcases aq id e ao with⟨aF,a7⟩ | ⟨bB,ao⟩
  ·rcases aq ir c0 mb with⟨bC,di⟩ | ⟨Ac,mb⟩
   ·rw[aF,bC]
   ·rw[dn ir Ac]at ab;subst aF;rw[aj]at U;cases U;exact(AU ir c0 dC Ac mb ab ah.symm).elim
  ·rw[dn id bB]at U;rcases aq ir c0 mb with⟨bC,di⟩ | ⟨Ac,mb⟩
   ·subst bC;rw[aj]at ab;cases ab;exact(AU id e ca bB ao U ah).elim
   ·rw[dn ir Ac]at ab;exact h.inj id ir e c0 ca dC ao mb U ab ah
 jn:=aiG
 p8:=h.p8.mono cg
def c2.fresh(h:c2 Y D m I M):D m.n=none:=by
 cases dn:D m.n with
 |none=>rfl| some a=>exact absurd (h.jn _ _ dn) (Nat.lt_irrefl _)
def c2.aw(h:c2 Y D m I M){id:Nat}{e:fa}{a:Loc}(ao:m.t.get id=some e)(aX:D id=some a):∃ x∈M,x.num=a.b:=by
 cases h.iq id e a ao aX with
 |cells arr av U=>exact⟨_,U,rfl⟩| map l c U=>exact⟨_,U,rfl⟩| loop L U=>exact⟨_,U,rfl⟩| done L U=>exact⟨_,U,rfl⟩
def c2.new(h:c2 Y D m I M){bh:be fa}{c9:fa}{a:Loc}{o:Obj}(aq:∀ id e,bh.get id=some e->(id=m.n/\some c9=some e)\/(id≠m.n/\m.t.get id=some e))(au:∀ x∈M,x.num≠a.b)
  (he:kZ (D.set m.n a) Y.E (⟨a.b,o⟩::M) a c9):c2 Y (D.set m.n a) ⟨bh,m.n+1⟩ I (⟨a.b,o⟩::M):=
 h.step (λid e ao=>(aq id e ao).imp (λh=>⟨h.1,ov h.2⟩) λh=>h) (D.pe _ _) (bF.zw a h.fresh) (λi hi=>by unfold bF.set;rw[cB hi])
  (λid b ah=>by
   unfold bF.set at ah;split at ah;·omega
   ·have:=h.jn _ _ ah;omega)
  (λ_ _ h=>h) (λ_ _ _ _ _ _ x ae _=>lV _ ae) he
  (λid e ch _ ao uv ah=>by
   obtain⟨x,ae,az⟩:=h.aw ao uv;exact au x ae (az.trans ah))
def kZ.new{l:List ap}{c:Nat}{b:Nat}{cs:be ap}(mS:∀ j x,cs.get j=some x->(0<=j/\l[j-0]?=some x)\/((j<0\/0+l.length<=j)/\(be.nil:be ap).get j=some x))(ay:bD D l vs)
  (af:∀ i,Y.E T=some i->(vs++cur).length=c*i.size) (aC:c<=maxLen):kZ D Y.E (⟨b,.cells (vs++cur).toArray T (0,0)⟩::M) ⟨b,0,c⟩ (.cells cs T l.length):=by
 refine .cells (vs++cur).toArray rfl (by simp) (by simp[ay.len]) (λi v hi ao=>?_) (λi hi=>by simpa using af i hi) aC;rcases mS i v ao with⟨_,U⟩ | ⟨_,U⟩
 ·obtain⟨x,ab,ak⟩:=ay.get (i:=i) (by simpa using U);have ax:=(iO.1 ab).1;exact⟨x,by simp only[cM,z3];rw[sq ax];exact ab,ak⟩
 ·cases U
def GZ{e:fa}{K:Nat->bi->Option R}{r:R}(h:Bn m e K=some r):∃ bh,(∀ id c0,bh.get id=some c0->(id=m.n/\some e=some c0)\/(id≠m.n/\m.t.get id=some c0))/\K m.n ⟨bh,m.n+1⟩=some r:=by unfold Bn at h;rw[Pa]at h;obtain⟨bh,U,ab⟩:=be.oq (some e) m.t m.n;rw[U]at h;exact⟨bh,ab,h⟩
def Ps{l:List ap}{K:Nat->bi->Option R}{r:R}(h:uz m l T K=some r):∃ m',K m.n m'=some r/\m'.n=m.n+1 /\
  ∀ {D:bF} {I:aT} {M:List aD} {vs:List Value} (cur:List Value) {b c:Nat},c2 Y D m I M->(∀ x∈M,x.num≠b)->bD D l vs->(∀ i,Y.E T=some i->(vs++cur).length=c*i.size)->c<=maxLen ->
   c2 Y (D.set m.n ⟨b,0,c⟩) m' I (⟨b,.cells (vs++cur).toArray T (0,0)⟩::M):=by
 unfold uz at h;obtain⟨cs,U,ab⟩:=be.xW l (.nil:be ap) 0;rw[U]at h;obtain⟨bh,ak,aL⟩:=GZ h;refine⟨_,aL,rfl,fun {D I M vs} cur {b c} hm au ay af aC=>?_⟩;exact hm.new (a:=⟨b,0,c⟩) ak au (.new ab (ay.mono (bF.zw _ hm.fresh)) af aC)
end
def aiH(z:List Value)(n:Nat):rowOf z (z.length+n)=rowOf z z.length++rowOf z n:=by unfold rowOf;rw[List.range_add,eL,sS];congr 1;apply rC;intro i _;simp[Nat.add_mod_left]
def aiI(z:List Value):rowOf z z.length=z:=by
 unfold rowOf;apply rE
 ·simp
 ·intro i U ab;simp only[oP,NF,Oq ab];simp[ab]
def Pt(z:List Value):∀ n,rowOf z (n*z.length)=(List.replicate n z).flatten
 |0=>by simp[rowOf]
 |n+1=>by rw[Nat.succ_mul,Cn,aiH,aiI,Pt z n,AO,M2]
def X3(place:Nat->Option (Nat×Nat)):∀ (vs:List (Nat×Value)) (cs r:List Value),sy place cs vs=some r->r.length=cs.length
 |[],cs,r,h=>by simp only[sy]at h;cases h;rfl
 |(i,v)::vs,cs,r,h=>by
  simp only[sy]at h;split at h;·cases h
  ·rename_i off size aN;cases ah:(Nat.beq v.cells.size size&&Nat.ble (off+size) cs.length)with
   |false=>rw[ah]at h;cases h| true=>rw[ah]at h;simp only[bt]at h;rw[X3 place vs _ _ h];rw[b']at ah;have U:=dD ah.1;have ab:=b9 ah.2;simp[bG];omega
def zx(dst:Option Nat)(u:Value)(F dN:Fr):Prop:=(∀ d,dst=some d->dN d=.val u)/\∀ (D:bF) t v,dst≠some t->gC D (F t) v->gC D (dN t) v
def zx.put(dst:Option Nat)(u:Value)(F:Fr):zx dst u F (put dst (.val u) F):=by
 constructor
 ·rintro d rfl;simp[Go.V.put,fA]
 ·intro D t v bB h;cases dst with
  |none=>exact h| some d=>have:t≠d:=λe=>bB (by rw[e]);simp only[Go.V.put,fA,hx this,bz];exact h
def zx.pq(d:Nat)(u:Value)(F:Fr):zx (some d) u F (fA (pq F d) d (.val u)):=by
 constructor
 ·rintro _⟨⟩;simp[fA]
 ·intro D t v bB h;have:t≠d:=λe=>bB (by rw[e]);simp only[fA,hx this,bz];unfold Go.V.pq;rcases h with⟨aiJ,e,h⟩ | ⟨q,e,h⟩
  ·rw[e];exact .inl ⟨aiJ,rfl,h⟩
  ·rw[h];exact .inr ⟨q,e,rfl⟩
section
variable{X:cO}{G:GT}{pr:lk}{D:bF}{m:bi}{F:Fr}{an:be ap}{C:c8}{I:aT}{M:List aD}{K:fZ}{o:Oper}
def X4(aR:cX X.P X.E)(j5:∀ d,d<X.n->X.gv.contains d=true)(al:∀ d,o.dst=some d->d<X.n){l:List ap}{c:Nat}{mk:Nat->ap}(h:Bp X.E o an=some (l,T,c,mk))(G0:o.dst.isSome=true)(H:ka D F an o.op.operands.toList)
  (k:∀ b vs u dN C',I b=none->(∀ x∈M,x.num≠b)->bD D l vs->(∀ i,X.E T=some i->vs.length=c*i.size)->c<=maxLen->(∀ (bp:bF) id,bp id=some ⟨b,0,c⟩->aS bp (mk id) u)->zx o.dst u F dN ->
   K dN C' I (⟨b,.cells vs.toArray T (0,0)⟩::M)):hM X o F C I M K:=by
 obtain⟨dst,op,ty,pos,after,guard⟩:=o;cases dst with
 |none=>cases G0
 |some d=>
  have qy:X.gv.contains d=true:=j5 d (al d rfl);have X5:∀ (b c:Nat) (bp:bF) id,bp id=some ⟨b,0,c⟩->aS bp (.p id 0) (.pointer (some ⟨b,0,none⟩)):=λb c bp id lp=>by simp only[aS];exact⟨_,lp,rfl⟩
  unfold Bp at h;simp only at h H;split at h
  ·rename_i t x;unfold Xi at h;obtain⟨i,hi,h⟩:=ct h;obtain⟨v,ai,h⟩:=ct h;obtain⟨ah,h⟩:=fV h;cases h;obtain⟨u,aF,a6⟩:=H.bY (x:=x) (by simp[Op.operands]) ai;have aC:=a6.cells;simp only[hM,aF,qy,bt];refine⟨λb U ab=>?_⟩;have:=k b u.cells.toList (.pointer (some ⟨b,0,none⟩)) _ (iQ C d none) U ab aC (λgn ck=>?_) (by decide) (X5 b 1) (.pq d _ F)
   ·simpa using this
   ·rw[hi]at ck;cases ck;rw[aC.len,qD];exact dD ah
  ·rename_i t;unfold Xj at h;obtain⟨i,hi,h⟩:=ct h;obtain⟨z,a2,h⟩:=ct h;cases h;simp only[hM,hi,qy,bt];refine⟨λb U ab=>?_⟩;exact k b i.zero (.pointer (some ⟨b,0,none⟩)) _ (iQ C d none) U ab (.Bu a2) (λgn ck=>by rw[hi]at ck;cases ck;rw[(aR _ _ hi).len,qD]) (by decide) (X5 b 1) (.pq d _ F)
  ·rename_i t len parts;unfold Xk at h;split at h
   ·rename_i sa r' sz e vs aq aN;obtain⟨aO,he,h⟩:=ct h;obtain⟨z,a2,h⟩:=ct h;obtain⟨us,aF,a6⟩:=H.parts (l:=parts.toList) (by intro y aA;simpa[Op.operands]using aA) aN;simp only[hM,aq,aF,he];have IU:=(aR _ _ he).len;cases ah:(Nat.ble (len*aO.size) 16777216&&Nat.blt 0 (len*aO.size))with
    |true=>
     have hn:(Nat.ble (Nat.mul len aO.size) 16777216&&Nat.blt 0 (Nat.mul len aO.size))=true:=ah;rw[jS,hn]at h;simp only[bt]at h |-;obtain⟨cs,ak,aL⟩:=ct h;have fP:some (cs,e,len,λid=>ap.sl id 0 len len)=some (l,T,c,mk):=aL;cases fP;have yY:bD D (Bo c z) (rowOf aO.zero (c*aO.size)):=by rw[<-IU,Pt];exact(bD.Bu a2).CY c
     obtain⟨aJ,bm,b5⟩:=Ks ak yY a6;rw[bm];refine⟨λb U ab=>?_⟩;have hlen:aJ.length=c*aO.size:=by rw[X3 _ _ _ _ bm];simp[rowOf]
     rw[b']at ah;have jG:=b9 ah.1;have hc:0<c*aO.size:=b9 ah.2;exact k b aJ (.slice (some ⟨b,0,none⟩) c c) _ C U ab b5 (λgn ck=>by rw[he]at ck;cases ck;exact hlen)
      (by
       have fw:0<aO.size:=Nat.pos_of_mul_pos_left hc;have:c<=c*aO.size:=Nat.le_mul_of_pos_right _ fw;simp only[maxLen];omega)
      (λbp id lp=>by simp only[aS];exact⟨_,lp,rfl⟩) (.put _ _ F)
    |false=>
     have hn:(Nat.ble (Nat.mul len aO.size) 16777216&&Nat.blt 0 (Nat.mul len aO.size))=false:=ah;rw[jS,hn]at h;simp only[bz]at h |-;obtain⟨aC,h⟩:=fV h;cases h;rw[b']at aC;have ak:=dD aC.1;subst ak;have aL:vs=[]:=by simpa using aC.2
     subst aL;cases a6;simp only;refine⟨λb U ab=>?_⟩;exact k b [] (.slice (some ⟨b,0,none⟩) 0 0) _ C U ab .nil (λgn ck=>by simp) (by decide) (λbp id lp=>by simp only[aS];exact⟨_,lp,rfl⟩) (.put _ _ F)
   ·cases h
  ·rename_i t dy c';unfold Xl at h;split at h
   ·rename_i sa r' sz e Ii arj aq U ab;obtain⟨aO,he,h⟩:=ct h;obtain⟨n,az,h⟩:=ct h;obtain⟨q,a0,h⟩:=ct h;obtain⟨z,a2,h⟩:=ct h;obtain⟨ah,h⟩:=fV h;cases h;obtain⟨da,rfl⟩:=DT az;obtain⟨bZ,rfl⟩:=DT a0;obtain⟨r0,aF,a6⟩:=H.bY (x:=dy) (by simp[Op.operands]) U;obtain⟨o6,a7,bb⟩:=H.bY (x:=c') (by simp[Op.operands]) ab;rw[a6.int]at aF;rw[bb.int]at a7;simp only[b']at ah;simp only[hM,aq,aF,a7,he];refine⟨n,c,rfl,rfl,b9 ah.1,b9 ah.2.1,b9 ah.2.2,⟨λb ak aL=>?_⟩⟩;have IU:=(aR _ _ he).len;have yY:bD D (Bo c z) (rowOf aO.zero (c*aO.size)):=by rw[<-IU,Pt];exact(bD.Bu a2).CY c
    exact k b _ (.slice (some ⟨b,0,none⟩) n c) _ C ak aL yY (λgn ck=>by rw[he]at ck;cases ck;simp[rowOf]) (b9 ah.2.2) (λbp id lp=>by simp only[aS];exact⟨_,lp,rfl⟩) (.put _ _ F)
   ·cases h
  ·cases h
end
def X6{i:Nat}(h:off+vs.length<=cs.length):(bG cs off vs)[i]?=if off<=i/\i<off+vs.length then vs[i-off]? else cs[i]?:=by
 unfold bG;by_cases U:i<off
 ·rw[cB (by omega),sq (by simp;omega),sq (by simp;omega),kA,cw U]
 ·by_cases ab:i<off+vs.length
  ·rw[cw ⟨by omega,ab⟩,sq (by simp;omega),pI (by simp;omega)];simp;congr 1;omega
  ·rw[cB (by omega),pI (by simp;omega),oG];congr 1;simp;omega
def Pu(h:off+vs.length<=cs.length):(bG cs off vs).length=cs.length:=by simp[bG];omega
section
variable{Y:gm}{D:bF}{m:bi}{I:aT}{M:List aD}{R:Type}
def Pv{x:ap}{l:List ap}{K:bi->Option R}{r:R}(h:xT m x l K=some r):∃ m',K m'=some r/\m'.n=m.n/\(∀ id,m'.t.get id≠none->m.t.get id≠none\/True) /\
  ∀ {D:bF} {I:aT} {M:List aD} {u:Value} {vs:List Value},c2 Y D m I M->aS D x u->bD D l vs ->
   ∃ (g off:Nat) (pre post:List aD) (arr:Array Value) (T:Nat),u=.pointer (some ⟨g,off,none⟩)/\M=pre++⟨g,.cells arr T (0,0)⟩::post/\off+vs.length<=arr.size/\gh vs=true /\ (∃ id e a,m.t.get id=some e/\D id=some a/\a.b=g) /\
    c2 Y D m' I (pre++⟨g,.cells (bG arr.toList off vs).toArray T (0,0)⟩::post):=by
 unfold xT at h;split at h
 ·rename_i id off;split at h
  ·rename_i cs T fq ao;cases ah:(Nat.ble (Nat.add off l.length) fq&&l.all ap.one)with
   |false=>rw[ah]at h;cases h
   |true=>
    rw[ah]at h;simp only[bt]at h;rw[b']at ah;have zy:off+l.length<=fq:=b9 ah.1;obtain⟨cs',U,ab⟩:=be.xW l cs off;rw[U]at h;obtain⟨bh,ak,aL⟩:=be.oq (some (fa.cells cs' T fq)) m.t id;rw[ak]at h;refine⟨_,h,rfl,λ_ _=>.inr trivial,fun {D I M u vs} hm ae ay=>?_⟩;obtain⟨a,aX,rfl⟩:=ae.ptr;have he:=hm.iq _ _ _ ao aX;obtain⟨arr,aP,aV,cQ,aC,af,pf⟩:=he;have hlen:=ay.len;obtain⟨pre,post,c4⟩:=r4 aV;have ga:off+vs.length<=arr.size:=by omega
    refine⟨a.b,off,pre,post,arr,T,by rw[aP,cM],c4,ga,ay.one ah.2,⟨id,_,a,ao,aX,rfl⟩,?_⟩;have gK:∀ x∈M,x.num≠a.b->x∈pre++⟨a.b,.cells (bG arr.toList off vs).toArray T (0,0)⟩::post:=λx ae az=>by
     rw[c4]at ae;rcases dm.1 ae with ae | ae;·exact dm.2 (.inl ae)
     ·rcases ea.1 ae with rfl | ae
      ·exact(az rfl).elim
      ·exact dm.2 (.inr (lV _ ae))
    refine hm.step (λi e hi=>(aL i e hi).imp (λq=>⟨q.1,ov q.2⟩) λq=>q) aX (bF.le_refl D) (λ_ _=>rfl) hm.jn (λ_ _ h=>h) (λi e ch bB hi kb x ae az=>gK x ae ?_) ?_ ?_;·rw[az];exact λah=>bB (hm.inj _ _ _ _ _ _ hi ao kb aX ah)
    ·have zz:(bG arr.toList off vs).length=arr.size:=by rw[Pu (by simpa using ga)];simp
     refine .cells (bG arr.toList off vs).toArray aP (by simp) (by simp[zz];exact cQ) (λi v hi G1=>?_) (λi hi=>by simp[zz];exact af i hi) pf;rw[aP,cM];simp only[z3];rw[X6 (by simpa using ga)];rcases ab i v G1 with⟨a6,bb⟩ | ⟨a6,bb⟩;·have ax:=(iO.1 bb).1;rw[cw ⟨a6,by omega⟩];exact ay.get bb
     ·rw[cB (by omega)];have:=aC i v hi bb;rw[aP,cM]at this;simpa using this
    ·intro i e ch bB hi kb ah;exact bB (hm.inj _ _ _ _ _ _ hi ao kb aX ah)
  ·cases h
 ·cases h
def Pw:∀ {l:List ap} {bd:List UInt8} {vs:List Value},DI l=some bd->bD D l vs->vs=bd.map (λb=>.int .u8 b.toNat)
 |[],bd,vs,h,ay=>by simp only[DI]at h;cases h;exact ay.nb
 |v::l,bd,vs,h,ay=>by
  unfold DI at h;split at h;·rename_i e;cases e
  ·rename_i n dy e;cases e;cases ah:Nat.ble n 255 with
   |false=>rw[ah]at h;cases h
   |true=>
    rw[ah]at h;simp only[bt]at h;split at h;·rename_i r ag;cases h;obtain⟨x,xs,U,ab,rfl⟩:=ay.j';have az:=b9 ah;rw[Pw ag ab,U.int];simp only[cZ,CW,and_true,Value.int.injEq,true_and];rw[UInt8.toNat_ofNat_of_lt' (show n<256 by omega)];rfl
    ·cases h
  ·cases h
inductive zA:TypeDesc->ap->Prop
 |int{k n}:zA (.int k) (.i k n)| str {l}:zA .string (.s l)
def X7(aR:cX P E){k:Nat}{y:ap}(h:Kc (E k) y=true):∃ d,P.underlying k=some d/\zA d y:=by
 unfold Kc at h;split at h
 ·rename_i gu eQ n af;have:=IntKind.Cr h;subst this;obtain⟨d,hu,al⟩:=(aR _ _ af).fl;refine⟨d,hu,?_⟩;have:d=.int gu:=by cases d<;>simp_all[fe]
  subst this;exact .int
 ·rename_i l af;obtain⟨d,hu,al⟩:=(aR _ _ af).fl;refine⟨d,hu,?_⟩;have:d=.string:=by cases d<;>simp_all[fe]
  subst this;exact .str
 ·cases h
def zA.isKey{y:ap}{u:Value}(h:zA d y)(aA:aS D y u):MapKept.IsKey d u:=by
 cases h with
 |int=>rw[aA.int];rfl| str=>rw[aA.str];trivial
def X8(a b:ByteArray):(a == b)=decide (a=b):=by rw[l7,MapKept.bytes_beq];simp
def DV{y x:ap}{u:Value}{r:Bool}(h:zA d y)(aA:aS D y u)(ae:aS D x w)(he:DD y x=some r):Instr.sameNow d u w=some r:=by
 cases h with
 | @int k n=>
  rw[aA.int];unfold DD at he;split at he;·rename_i e;cases e
  ·rename_i da a bZ b e;cases e;obtain⟨U,ab⟩:=fV he;have:=IntKind.Cr U;subst this;cases ab;rw[ae.int];simp only[Instr.sameNow,nU,Bs];congr 1
  ·rename_i e;cases e
  ·cases he
 | @str l=>
  rw[aA.str];unfold DD at he;split at he;·rename_i e;cases e
  ·rename_i e;cases e
  ·rename_i a b e;cases e;cases he;rw[ae.str];simp only[Instr.sameNow];rw[X8,Kt,DQ]
  ·cases he
def X9{d:TypeDesc}{y:ap}{u:Value}(h:zA d y)(aA:aS D y u):∀ {es:List (ap×ap)} {l:List MapEntry} {r:Option ap} (i:Nat),p' D es l->GJ y es=some r ->
  match r with
  |none=>Instr.findNow d u l i=some none| some v=>∃ j w,Instr.findNow d u l i=some (some (j,w))/\aS D v w
 |[],_,r,i,.nil,ay=>by simp only[GJ]at ay;cases ay;rfl
 |(x,v)::es,_,r,i,.cons (e:=e) (l:=l) af ai t,ay=>by
  simp only[GJ]at ay;split at ay;·rename_i he;cases ay;refine⟨i,e.val,?_,ai⟩;simp only[Instr.findNow,DV h aA af he]
  ·rename_i he;have a8:=X9 h aA (i+1) t ay;simp only[Instr.findNow,DV h aA af he];exact a8
  ·cases ay
def X'{d:TypeDesc}{y v:ap}{u w:Value}(h:zA d y)(aA:aS D y u)(ai:aS D v w):∀ {es uG:List (ap×ap)} {l:List MapEntry} (i:Nat),p' D es l->GK y v es=some uG -> (Instr.findNow d u l i=some none/\∀ b,p' D uG (l++[{ key:=u,val:=w,born:=b }])) \/ ∃ j e,Instr.findNow d u l i=some (some (i+j,e.val))/\l[j]?=some e/\Instr.sameNow d u e.key=some true/\p' D uG (l.modify j λe=>{ e with key:=u,val:=w })
 |[],uG,_,i,.nil,ay=>by simp only[GK]at ay;cases ay;exact .inl ⟨rfl,λb=>.cons aA ai .nil⟩
 |(x,uF)::es,uG,_,i,.cons (e:=e) (l:=l) af j4 t,ay=>by
  simp only[GK]at ay;split at ay
  ·rename_i he;cases ay;refine .inr ⟨0,e,?_,rfl,DV h aA af he,?_⟩
   ·simp only[Instr.findNow,DV h aA af he,nT]
   ·simp only[List.modify_zero_cons];exact .cons aA ai t
  ·rename_i he;split at ay
   ·rename_i r ag;cases ay;rcases X' h aA ai (i+1) t ag with⟨U,ab⟩ | ⟨j,c0,U,ab,ak,aL⟩
    ·refine .inl ⟨?_,λb=>.cons af j4 (ab b)⟩;simp only[Instr.findNow,DV h aA af he];exact U
    ·refine .inr ⟨j+1,c0,?_,by simpa using ab,ak,?_⟩
     ·simp only[Instr.findNow,DV h aA af he];rw[U];congr 3;omega
     ·simp only[List.modify_succ_cons];exact .cons af j4 aL
   ·cases ay
  ·cases ay
end
end Go.V
