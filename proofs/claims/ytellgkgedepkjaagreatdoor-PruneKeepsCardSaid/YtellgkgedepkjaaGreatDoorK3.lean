/-
  Part 3 of what the proofs of this seat share: the executor, data in memory, walks.
-/
import Derived.Test.YtellgkgedepkjaaGreatDoorK2
import Derived.WideMake
import Derived.ChangeSame
import Derived.ChangeArms
import Derived.OpenShut
import Derived.Deep.DeepHandedRow
import Derived.Lib.LaidTab
import Derived.Test.YtellgkgedepkjaaGreatDoorRows
import Derived.Test.YtellgkgedepkjaaGreatDoorCards
import Derived.Test.YtellgkgedepkjaaGreatDoorTie
import Derived.WalkKit
import Derived.ProofKit
set_option linter.all false
namespace Go.V
open Go Go.Proofs
structure FitsSays (d:Nd):Prop where
 k:d.k < 10
 t:d.t.size≤255
 rep:d.k=6->0≤d.lo∧d.lo≤99∧(d.hi=-1∨(d.lo≤d.hi∧d.hi≤99))
theorem Z2T {d:Nd} {n:Int} (h:Z31 d n=true):FitsSays d:=by
 unfold Z31 at h
 cases h1:decide (10≤d.k) with
 | true=>rw[h1] at h;cases h
 | false=>
  rw[h1] at h;simp only[cond_false] at h
  have hk:d.k < 10:=by simpa using h1
  cases h2:(decide (n < Z9g d.k.toNat) || (decide (0≤Z6P d.k.toNat) && decide (Z6P d.k.toNat < n))) with
  | true=>rw[h2] at h;cases h
  | false=>
   rw[h2] at h;simp only[cond_false] at h
   have e0:d.t=⟨#[]⟩->d.t.size≤255:=fun e=>by rw[e];decide
   cases h3:decide (d.k=1) with
   | true=>
    rw[h3] at h;simp only[cond_true,Bool.and_eq_true,decide_eq_true_eq] at h;exact⟨hk,e0 h.1,fun e=>by simp at h3;omega⟩
   | false=>
    rw[h3] at h;simp only[cond_false] at h
    cases h4:decide (d.k=2) with
    | true=>
     rw[h4] at h;simp only[cond_true,Bool.and_eq_true,Bool.not_eq_true',Bool.or_eq_false_iff,decide_eq_false_iff_not] at h;exact⟨hk,by omega,fun e=>by simp at h4;omega⟩
    | false=>
     rw[h4] at h;simp only[cond_false] at h
     cases h5:(decide (d.k=3) || decide (d.k=9)) with
     | true=>
      rw[h5] at h;simp only[cond_true,Bool.and_eq_true] at h;refine⟨hk,?_,fun e=>by simp at h5;omega⟩;have:=h.1
      unfold Z0u at this;simp only[Bool.and_eq_true,decide_eq_true_eq] at this;omega
     | false=>
      rw[h5] at h;simp only[cond_false] at h
      cases h6:decide (d.k=6) with
      | true=>
       rw[h6] at h;simp only[cond_true,Bool.and_eq_true,decide_eq_true_eq,Bool.not_eq_true',Bool.or_eq_false_iff,decide_eq_false_iff_not,Bool.and_eq_false_iff] at h;refine⟨hk,e0 h.2.2,fun _=>?_⟩;obtain⟨⟨g1,g2,g3⟩,_⟩:=h
       refine⟨by omega,by omega,?_⟩
       rcases g3 with g3 | g3
       ·left
        simpa using g3
       ·right
        omega
      | false=>
       rw[h6] at h;simp only[cond_false,Bool.and_eq_true,decide_eq_true_eq] at h;exact⟨hk,e0 h.2.1,fun e=>by simp at h6;omega⟩
def pcountsV:List Value:=[.int .i64 0,.int .i64 1,.string ⟨#[63]⟩,.int .i64 0,.int .i64 (-1),.string ⟨#[42]⟩,.int .i64 1,.int .i64 (-1),.string ⟨#[43]⟩]
def Z5f (I:GH):Prop:=∃ T fr,I 2=some (.cells pcountsV.toArray T fr)
def ZfT (lo:Nat) (hi:Int):List UInt8:=
 bif decide (hi=lo) then [123]++dig lo++[125] else
 bif decide (hi=-1) then [123]++dig lo++[44,125] else [123]++dig lo++[44]++dig hi.toNat++[125]
def Z1n (lo:Nat) (hi:Int):List UInt8:=
 bif decide ((0:Int)=lo) && decide (1=hi) then [63] else
 bif decide ((0:Int)=lo) && decide (-1=hi) then [42] else
 bif decide ((1:Int)=lo) && decide (-1=hi) then [43] else ZfT lo hi
theorem ZiN (lo:Nat) (hi:Int):(ZfT lo hi).length≤7:=by
 have h1:=Z3l lo;have h2:=Z3l hi.toNat;unfold ZfT
 cases decide (hi=lo)<;>cases decide (hi=-1)<;>simp<;>omega
theorem Z8x (lo:Nat) (hi:Int):(Z1n lo hi).length≤7:=by
 have h1:=ZiN lo hi;unfold Z1n
 cases (decide ((0:Int)=lo) && decide (1=hi))<;>cases (decide ((0:Int)=lo) && decide (-1=hi))<;>cases (decide ((1:Int)=lo) && decide (-1=hi))<;>simp<;>omega
theorem Zae (n:Nat):(ZfN n).size≤2:=Z3l n
def Z4h (lo hi:Int):Nd:=⟨6,0,0,0,0,⟨#[]⟩,lo,hi,none,0,0,[]⟩
theorem ZiO {lo:Nat} {hi:Int} (hlo:lo≤99) (hhi:hi=-1∨((lo:Int)≤hi∧hi≤99)):Z31 (Z4h lo hi) 1=true:=by
 have e1:Z9g 6=1:=by decide
 have e2:Z6P 6=1:=by decide
 rcases hhi with rfl | ⟨h1,h2⟩
 ·simp[Z31,Z4h,e1,e2,Nd.setZ]
  exact⟨decide_eq_false (by omega),decide_eq_false (by omega)⟩
 ·simp[Z31,Z4h,e1,e2,Nd.setZ]
  exact⟨decide_eq_false (by omega),decide_eq_false (by omega),.inr ⟨decide_eq_false (by omega),decide_eq_false (by omega)⟩⟩
theorem Zaf (a b:List UInt8):Z0f a++Z0f b=Z0f (a++b):=by
 apply Z2B
 simp[Z0f]
theorem BinOb.concatL {P:Program} {t:Nat} {x y:Operand} {a b:List UInt8} (hs:a.length+b.length≤9223372036854775807) {V:Value->Prop} {other:Prop} (h:V (.string (Z0f (a++b)))):BinOb P .add t x y (.val (.string (Z0f a))) (.val (.string (Z0f b))) V other:=
 BinOb.concat (a:=Z0f a) (b:=Z0f b) hs (by rw[Zaf];exact h)
theorem Zer {I:GH} (hc:HasCounts I) (hp:Z5f I) (lo:Nat) (hi:Int) (hlo:lo≤99) (hhi:hi=-1∨((lo:Int)≤hi∧hi≤99)):Spec Tryz.prog 253 [.int .i64 lo,.int .i64 hi] I []
  fun r I' M'=>r=.string (Z0f (Z1n lo hi))∧I'=I∧M'=[]:=by
 refine Z01 [] Z00 Tryz.func253 rfl rfl rfl ?_;intro B h0;have hok:(Z4h lo hi).ok I:=⟨by simp[Z4h],by simp[Z4h,Z0G],by simp[Z4h,Z0G],by simp[Z4h,Z0G],by simp[Z4h,Z0G],by show (0:Nat)≤_;omega,⟨by simp only[Z4h];omega,by simp only[Z4h];omega⟩,⟨by simp only[Z4h];omega,by simp only[Z4h];omega⟩,⟨rfl,⟨Nat.le_refl _,by simp[Z4h]⟩,.inl rfl⟩,by simp[Z4h]⟩;refine CallOb.mk [] [] _ (.refl _) (Za5 hc hok 1) ?_
 rintro v I' M' - ⟨rfl,rfl,rfl⟩;rw[ZiO hlo hhi]
 refine CondOb.mk (fun h=>by cases h) (fun _=>?_)
 have hrd:Rd I' ([]++[]) ⟨2,0,none⟩ 9 pcountsV:=by
  obtain⟨T,fr,hp⟩:=hp;exact⟨rfl,_,T,fr,.inl hp,rfl,rfl⟩
 refine LoadOb.mk _ hrd ?_
 refine LoopOb.inv (ι:=Nat) (fun i=>{ fl:=[(0,.val (.int .i64 lo)),(1,.val (.int .i64 hi)),(12,.val (.agg pcountsV.toArray)),(13,.val (.int .i64 i))],gi:=I' })
  (fun i=>i≤3∧(1≤i->(decide ((0:Int)=lo) && decide (1=hi))=false)∧(2≤i->(decide ((0:Int)=lo) && decide (-1=hi))=false)∧(3≤i->(decide ((1:Int)=lo) && decide (-1=hi))=false)) (fun i=>3 - i) ?_ ?_
 ·exact⟨0,⟨by simp,by simp,by simp,by simp⟩,.refl,aF4,.nil⟩
 ·rintro i ⟨hi3,m1,m2,m3⟩
  match i,hi3 with
  | 0,_=>
   refine CondOb.mk (fun _=>?_) (fun h=>by simp at h);refine ArrOb.mk 0 rfl (by decide) ?_
   have next:(decide ((0:Int)=lo) && decide (1=hi))=false->(((0+1:Nat)≤3∧(1≤(0+1:Nat)->(decide ((0:Int)=lo) && decide (1=hi))=false)∧(2≤(0+1:Nat)->(decide ((0:Int)=lo) && decide (-1=hi))=false)∧(3≤(0+1:Nat)->(decide ((1:Int)=lo) && decide (-1=hi))=false))∧3 - (0+1) < 3 - 0):=fun h=>by
    refine⟨⟨by simp,fun _=>?_,fun hh=>?_,fun hh=>?_⟩,by simp⟩
    ·exact h
    ·simp at hh
    ·simp at hh
   refine GuardOb.mk (fun g1=>?_) (fun g1=>?_)
   ·refine CondOb.mk (fun g2=>?_) (fun g2=>?_)
    ·refine⟨_,_,.refl,?_,rfl,rfl⟩
     have:Z1n lo hi=[63]:=by
      unfold Z1n;rw[g1,g2];rfl
     rw[this];rfl
    ·refine ArithOb.mk 1 (by decide) ?_
     exact⟨1,next (by rw[g1,g2];rfl),.refl,aF4,.nil⟩
   ·refine ArithOb.mk 1 (by decide) ?_
    exact⟨1,next (by rw[g1];rfl),.refl,aF4,.nil⟩
  | 1,_=>
   refine CondOb.mk (fun _=>?_) (fun h=>by simp at h);refine ArrOb.mk 1 rfl (by decide) ?_
   have next:(decide ((0:Int)=lo) && decide (-1=hi))=false->(((1+1:Nat)≤3∧(1≤(1+1:Nat)->(decide ((0:Int)=lo) && decide (1=hi))=false)∧(2≤(1+1:Nat)->(decide ((0:Int)=lo) && decide (-1=hi))=false)∧(3≤(1+1:Nat)->(decide ((1:Int)=lo) && decide (-1=hi))=false))∧3 - (1+1) < 3 - 1):=fun h=>by
    refine⟨⟨by simp,fun _=>?_,fun hh=>?_,fun hh=>?_⟩,by simp⟩
    ·exact m1 (by decide)
    ·exact h
    ·simp at hh
   refine GuardOb.mk (fun g1=>?_) (fun g1=>?_)
   ·refine CondOb.mk (fun g2=>?_) (fun g2=>?_)
    ·refine⟨_,_,.refl,?_,rfl,rfl⟩
     have:Z1n lo hi=[42]:=by
      unfold Z1n;rw[m1 (by decide),g1,g2];rfl
     rw[this];rfl
    ·refine ArithOb.mk 2 (by decide) ?_
     exact⟨2,next (by rw[g1,g2];rfl),.refl,aF4,.nil⟩
   ·refine ArithOb.mk 2 (by decide) ?_
    exact⟨2,next (by rw[g1];rfl),.refl,aF4,.nil⟩
  | 2,_=>
   refine CondOb.mk (fun _=>?_) (fun h=>by simp at h);refine ArrOb.mk 2 rfl (by decide) ?_
   have next:(decide ((1:Int)=lo) && decide (-1=hi))=false->(((2+1:Nat)≤3∧(1≤(2+1:Nat)->(decide ((0:Int)=lo) && decide (1=hi))=false)∧(2≤(2+1:Nat)->(decide ((0:Int)=lo) && decide (-1=hi))=false)∧(3≤(2+1:Nat)->(decide ((1:Int)=lo) && decide (-1=hi))=false))∧3 - (2+1) < 3 - 2):=fun h=>by
    refine⟨⟨by simp,fun _=>?_,fun hh=>?_,fun hh=>?_⟩,by simp⟩
    ·exact m1 (by decide)
    ·exact m2 (by decide)
    ·exact h
   refine GuardOb.mk (fun g1=>?_) (fun g1=>?_)
   ·refine CondOb.mk (fun g2=>?_) (fun g2=>?_)
    ·refine⟨_,_,.refl,?_,rfl,rfl⟩
     have:Z1n lo hi=[43]:=by
      unfold Z1n;rw[m1 (by decide),m2 (by decide),g1,g2];rfl
     rw[this];rfl
    ·refine ArithOb.mk 3 (by decide) ?_
     exact⟨3,next (by rw[g1,g2];rfl),.refl,aF4,.nil⟩
   ·refine ArithOb.mk 3 (by decide) ?_
    exact⟨3,next (by rw[g1];rfl),.refl,aF4,.nil⟩
  | 3,_=>
   refine CondOb.mk (fun h=>by simp at h) (fun _=>?_);have e1:=m1 (by decide)
   have e2:=m2 (by decide);have e3:=m3 (by decide)
   have hcb:Z1n lo hi=ZfT lo hi:=by
    unfold Z1n;rw[e1,e2,e3];rfl
   rw[hcb];have hl2:=Zae lo
   have hh2:=Zae hi.toNat;have hl2:=Z3l lo;refine CondOb.mk (fun h=>?_) (fun h=>?_)
   ·refine CallOb.mk [] [] _ (.refl _) (Z4E lo (by omega)) ?_
    rintro v I' M' - ⟨rfl,rfl,rfl⟩;refine BinOb.concatL (a:=[123]) (b:=dig lo) (by simp;omega) ?_
    refine BinOb.concatL (a:=[123]++dig lo) (b:=[125]) (by simp;omega) ?_;refine⟨_,_,.refl,?_,rfl,rfl⟩;rw[ZfT,h]
    rfl
   ·refine CondOb.mk (fun k=>?_) (fun k=>?_)
    ·refine CallOb.mk [] [] _ (.refl _) (Z4E lo (by omega)) ?_
     rintro v I' M' - ⟨rfl,rfl,rfl⟩;refine BinOb.concatL (a:=[123]) (b:=dig lo) (by simp;omega) ?_
     refine BinOb.concatL (a:=[123]++dig lo) (b:=[44,125]) (by simp;omega) ?_;refine⟨_,_,.refl,?_,rfl,rfl⟩;rw[ZfT,h,k]
     rfl
    ·refine CallOb.mk [] [] _ (.refl _) (Z4E lo (by omega)) ?_
     rintro v I' M' - ⟨rfl,rfl,rfl⟩
     have hk:hi≠-1:=by simpa using k
     obtain⟨hn,rfl⟩:=Int.eq_ofNat_of_zero_le (show 0≤hi by omega);have hh2:=Z3l hn
     refine BinOb.concatL (a:=[123]) (b:=dig lo) (by simp;omega) ?_;refine BinOb.concatL (a:=[123]++dig lo) (b:=[44]) (by simp;omega) ?_;refine CallOb.mk [] [] _ (.refl _) (Z4E hn (by omega)) ?_;rintro v I' M' - ⟨rfl,rfl,rfl⟩;refine BinOb.concatL (a:=[123]++dig lo++[44]) (b:=dig hn) (by simp;omega) ?_
     refine BinOb.concatL (a:=[123]++dig lo++[44]++dig hn) (b:=[125]) (by simp;omega) ?_;refine⟨_,_,.refl,?_,rfl,rfl⟩;rw[ZfT,h,k]
     rfl
def signsL:List (List UInt8):=[[],[],[],[],[],[],[],[],[],[],[],[],[],[32],[],[],[32,47,32],[],[],[],[],[38],[],[],[33],[],[],[60],[],[62]]
def sgn (j:Nat):List UInt8:=signsL.getD j []
def HasSigns (I:GH):Prop:=∃ T fr,I 1=some (.cells (signsL.map fun l=>Value.string (Z0f l)).toArray T fr)
theorem HasSigns.rd {I:GH} (h:HasSigns I) (M:List Blk) {i j:Nat} (hj:i+j < 30):Rd I M ((Addr.add ⟨1,0,none⟩ i).add j) 1 [.string (Z0f (sgn (i+j)))]:=by
 obtain⟨T,fr,h⟩:=h;rw[add2,Z06 _ rfl];refine⟨rfl,_,T,fr,.inl h,?_,rfl⟩
 have h1:i+j < (signsL.map fun l=>Value.string (Z0f l)).length:=by simp[signsL];omega
 have h2:i+j < signsL.length:=by simp[signsL];omega
 simp only[Nat.zero_add];rw[List.drop_eq_getElem_cons h1,List.take_succ_cons,List.take_zero]
 simp[sgn,List.getD_eq_getElem?_getD,h2]
theorem Z6V (j:Nat):(sgn j).length≤3:=by
 by_cases h:j < 30
 ·have:∀ j:Fin 30,(sgn j.val).length≤3:=by decide
  exact this ⟨j,h⟩
 ·have:signsL.length≤j:=by simp[signsL];omega
  simp[sgn,List.getD_eq_getElem?_getD,this]
def Z1b (deb:List Int) (d:Nd):List UInt8:=
 bif decide (d.k=0) || decide (d.k=2) then Zis d.t else
 bif decide (d.k=1) then Z3f deb d.s0 d.s1 d.s2 d.s3 else
 bif decide (d.k=3) then d.t.data.toList else
 bif decide (d.k=9) then sgn 27++d.t.data.toList++[58,32] else sgn (d.k.toNat * 3)
def Z0D (d:Nd):List UInt8:=bif decide (d.k=6) then Z1n d.lo.toNat d.hi else sgn (d.k.toNat * 3+2)
theorem Z5g (s:ByteArray):Z0f s.data.toList=s:=Z2B (by simp[Z0f])
theorem Z4i {I:GH} (hc:HasCounts I) (hp:Z5f I) (hsg:HasSigns I) {d:Nd} (hd:d.ok I) (hf:FitsSays d):Spec Tryz.prog 233 [d.val] I [] fun r I' M'=>r=.string (Z0f (Z0D d))∧I'=I∧M'=[]:=by
 refine Z01 [] Z00 Tryz.func233 rfl rfl rfl ?_;intro B h0;refine CondOb.mk (fun h=>?_) (fun h=>?_)
 ·obtain⟨g1,g2,g3⟩:=hf.rep (by simpa using h)
  have e1:d.lo=((d.lo.toNat:Nat):Int):=by omega
  have hcs:=Zer hc hp d.lo.toNat d.hi (by omega) (by omega);rw[←e1] at hcs
  refine CallOb.mk [] [] _ (.refl _) hcs ?_;rintro v I' M' - ⟨rfl,rfl,rfl⟩;refine⟨_,_,.refl,?_,rfl,rfl⟩
  simp only[Z0D,h];rfl
 ·have hk:=hd.k
  have hk1:=hf.k;refine ArrOb.mk d.k.toNat (by omega) (by omega) ?_;refine LoadOb.mk _ (hsg.rd _ (by show d.k.toNat * 3+2 < 30;omega)) ?_;refine⟨_,_,.refl,?_,rfl,rfl⟩;simp only[Z0D,h]
  rfl
theorem Z8y {I:GH} {deb:List Int} (hdeb:HasDeb I deb) (hsg:HasSigns I) {d:Nd} (hd:d.ok I) (hf:FitsSays d):Spec Tryz.prog 231 [d.val] I []
  fun r I' M'=>r=.string (Z0f (Z1b deb d))∧(∀ b o,I b=some o->I' b=some o)∧M'=[]:=by
 refine Z01 [] Z00 Tryz.func231 rfl rfl rfl ?_;intro B h0;have hk:=hd.k;have hk1:=hf.k;have ht:=hf.t
 have lit:(decide (d.k=0) || decide (d.k=2))=true->Z1b deb d=Zis d.t:=fun h=>by
  simp only[Z1b,h];rfl
 refine CondOb.mk (fun h1=>?_) (fun h1=>?_)
 ·refine CondOb.mk (fun _=>?_) (fun h=>by rw[h1] at h;cases h)
  refine CallOb.mk [] [] _ (.refl _) (Z5K d.t (by omega)) ?_;rintro v I' M' - ⟨rfl,rfl,rfl⟩;refine⟨_,_,.refl,?_,fun _ _ h=>h,rfl⟩
  rw[lit (by rw[h1];rfl)]
 ·refine CondOb.mk (fun h2=>?_) (fun h2=>?_)
  ·refine CallOb.mk [] [] _ (.refl _) (Z5K d.t (by omega)) ?_
   rintro v I' M' - ⟨rfl,rfl,rfl⟩;refine⟨_,_,.refl,?_,fun _ _ h=>h,rfl⟩
   rw[lit (by rw[h2];simp)]
  ·refine CondOb.mk (fun h3=>?_) (fun h3=>?_)
   ·refine CallOb.mk [] [] _ (.refl _) (Zeq hdeb (a:=d.s0) (b:=d.s1) (c:=d.s2) (d:=d.s3) (fun x hx=>by
     simp only[List.mem_cons,List.not_mem_nil,or_false] at hx
     rcases hx with rfl | rfl | rfl | rfl
     ·exact hd.s0
     ·exact hd.s1
     ·exact hd.s2
     ·exact hd.s3)) ?_
    rintro v I' M' - ⟨rfl,hI,rfl⟩;refine⟨_,_,.refl,?_,hI,rfl⟩
    simp only[Z1b,h1,h2,h3];rfl
   ·refine CondOb.mk (fun h4=>?_) (fun h4=>?_)
    ·refine⟨_,_,.refl,?_,fun _ _ h=>h,rfl⟩
     simp only[Z1b,h1,h2,h3,h4];rw[←Z5g d.t]
     rfl
    ·refine CondOb.mk (fun h5=>?_) (fun h5=>?_)
     ·have hk9:d.k=9:=by simpa using h5
      refine CodeOb.draw Z00 rfl rfl rfl ?_;refine ArrOb.mk 9 hk9 (by decide) ?_;refine LoadOb.mk _ (hsg.rd _ (by decide)) ?_
      have hs1:(Z0f (sgn 27)).size=1:=by decide
      refine BinOb.concat (a:=Z0f (sgn 27)) (b:=d.t) (by omega) ?_;refine BinOb.concat (a:=Z0f (sgn 27)++d.t) (b:=Z0f [58,32]) (by rw[ByteArray.size_append];show _+2≤_;omega) ?_;refine⟨_,_,.refl,?_,fun _ _ h=>h,rfl⟩;simp only[Z1b,h1,h2,h3,h4,h5]
      refine congrArg Value.string (Z2B ?_);simp[Z0f]
     ·refine ArrOb.mk d.k.toNat (by omega) (by omega) ?_
      refine LoadOb.mk _ (hsg.rd _ (by show d.k.toNat * 3+0 < 30;omega)) ?_;refine⟨_,_,.refl,?_,fun _ _ h=>h,rfl⟩;simp only[Z1b,h1,h2,h3,h4,h5]
      rfl
def Z0m (ns:List Nd) (k:Int):Int:=(ns.map (·.k)).getD k.toNat 0
def Z3g (w:Bool) (s:List UInt8):List UInt8:=(bif w then [40] else [])++(s++(bif w then [41] else []))
def Z3n (sep:List UInt8) (f:Int->List UInt8):Bool->List Int->List UInt8
 | _,[]=>[]
 | b,k::ks=>(bif b then sep else [])++(f k++Z3n sep f true ks)
def Z3o (d:Nd):List UInt8:=sgn (d.k.toNat * 3+1)
def Z9i (deb:List Int) (ns:List Nd) (d:Nd) (g:Int->List UInt8):List UInt8:=
 Z1b deb d++(Z3n (Z3o d) (fun k=>Z3g (Z0p d.k (Z0m ns k)) (g k)) false d.kids++Z0D d)
def Z0s (deb:List Int) (ns:List Nd):Int->List UInt8:=Z69 [] (Z9i deb ns) ns
def Z1E (deb:List Int) (t:Tr):List UInt8:=bif right t then Z0s deb t.ns t.root else []
theorem Z6W {sep:List UInt8} {f g:Int->List UInt8}:∀ {ks:List Int} {b:Bool},(∀ k∈ks,f k=g k)->Z3n sep f b ks=Z3n sep g b ks
 | [],b,_=>rfl
 | k::ks,b,h=>by
  unfold Z3n;rw[h k (by simp),Z6W fun x hx=>h x (by simp[hx])]
theorem Z3p {deb:List Int} {t:Tr} (hr:right t=true) {j:Nat} (hj:j < t.ns.length):Z0s deb t.ns j=Z9i deb t.ns t.ns[j] (Z0s deb t.ns):=by
 refine Z4C (fun d g g' h=>?_) hr hj;unfold Z9i;rw[Z6W fun k hk=>by rw[h k hk]]
theorem ZfU (w:Bool) (s:List UInt8):(Z3g w s).length≤s.length+2:=by
 cases w<;>simp[Z3g]
theorem Zag {sep:List UInt8} {f:Int->List UInt8} (hs:sep.length≤3) {g:Int->Nat} (hf:∀ k,(f k).length+3≤g k):∀ {ks:List Int} {b:Bool},(Z3n sep f b ks).length≤Z16 g ks
 | [],b=>by simp[Z3n,Z16]
 | k::ks,b=>by
  have h1:=Zag hs hf (ks:=ks) (b:=true);have h2:=hf k
  unfold Z3n;simp only[List.length_append,Z16,List.map_cons,List.sum_cons] at h1 ⊢
  cases b<;>simp<;>omega
theorem Z5h (deb:List Int) {d:Nd} (hf:FitsSays d):(Z1b deb d).length≤2400:=by
 have h1:(Zis d.t).length≤2+4 * d.t.size:=by
  have:=Z4g (Z4D · Zad) 4 (fun c=>Z1m c Zad) d.t.data.toList;have h2:d.t.data.toList.length=d.t.size:=rfl;simp only[Zis,List.length_append,List.length_cons,List.length_nil];omega
 have h2:=Zep deb d.s0 d.s1 d.s2 d.s3;have h3:=hf.t;have h4:=Z6V 27;have h5:=Z6V (d.k.toNat * 3);have h6:d.t.data.toList.length=d.t.size:=rfl
 unfold Z1b
 cases (decide (d.k=0) || decide (d.k=2))<;>cases decide (d.k=1)<;>cases decide (d.k=3)<;>cases decide (d.k=9)<;>simp only[cond_true,cond_false,List.length_append,List.length_cons,List.length_nil]<;>omega
theorem Z34 (d:Nd):(Z0D d).length≤7:=by
 have h1:=Z8x d.lo.toNat d.hi;have h2:=Z6V (d.k.toNat * 3+2);unfold Z0D
 cases decide (d.k=6)<;>simp only[cond_true,cond_false]<;>omega
theorem Z4F {α:Type} (c:Nat):∀ l:List α,(l.map fun _=>c).sum=c * l.length
 | []=>by simp
 | x::l=>by
  rw[List.map_cons,List.sum_cons,Z4F c l,List.length_cons,Nat.mul_add];omega
theorem Zdl {deb:List Int} {t:Tr} (hr:right t=true):(Z0s deb t.ns t.root).length+5≤2412 * t.ns.length:=by
 have h:=Z6S hr (g:=fun k=>(Z0s deb t.ns k).length+5) (c:=fun _=>2412) fun j hj=>by
  rw[Z3p hr hj];have h1:=Z5h deb (Z2T (Z1A hr hj))
  have h2:=Z34 t.ns[j]
  have h3:=Zag (sep:=Z3o t.ns[j]) (Z6V _) (f:=fun k=>Z3g (Z0p t.ns[j].k (Z0m t.ns k)) (Z0s deb t.ns k)) (g:=fun k=>(Z0s deb t.ns k).length+5)
   (fun k=>by have:=ZfU (Z0p t.ns[j].k (Z0m t.ns k)) (Z0s deb t.ns k);omega) (ks:=t.ns[j].kids) (b:=false)
  unfold Z9i;simp only[List.length_append];omega
 rw[Z4F] at h;exact h
theorem Z4G (deb:List Int) (t:Tr):(Z1E deb t).length≤2412 * t.ns.length:=by
 unfold Z1E
 cases hr:right t with
 | false=>simp
 | true=>
  have:=Zdl (deb:=deb) hr;simp only[cond_true];omega
abbrev ZbH:=Nat×Nat×Bool
def Z35 (e:ZbH):List Value:=[.int .i64 e.1,.int .i64 e.2.1,.bool e.2.2]
def Z1h (ns:List Nd) (j:Nat):Nd:=ns.getD j ⟨0,0,0,0,0,.empty,0,0,none,0,0,[]⟩
def Zo0 (deb:List Int) (ns:List Nd) (d:Nd) (k:Int):List UInt8:=Z3g (Z0p d.k (Z0m ns k)) (Z0s deb ns k)
def Z3q (deb:List Int) (ns:List Nd) (e:ZbH):List UInt8:=bif decide ((e.2.1:Int)=0) then (bif e.2.2 then [40] else [])++Z1b deb (Z1h ns e.1) else []
def Z6X (deb:List Int) (ns:List Nd) (e:ZbH):List UInt8:=
 Z3q deb ns e++(Z3n (Z3o (Z1h ns e.1)) (Zo0 deb ns (Z1h ns e.1)) (decide (0 < (e.2.1:Int))) ((Z1h ns e.1).kids.drop e.2.1)++(Z0D (Z1h ns e.1)++(bif e.2.2 then [41] else [])))
def ZjZ (ns:List Nd):Int->Nat:=Z69 0 (fun d g=>2+Z16 g d.kids) ns
def muE (ns:List Nd) (e:ZbH):Nat:=1+Z16 (ZjZ ns) ((Z1h ns e.1).kids.drop e.2.1)
def Z89 (ns:List Nd) (st:List ZbH):Nat:=(st.map (muE ns)).sum
def Z2q (deb:List Int) (ns:List Nd) (st:List ZbH):List UInt8:=st.reverse.flatMap (Z6X deb ns)
theorem Z1i (deb:List Int) (ns:List Nd) (st:List ZbH) (e:ZbH):Z2q deb ns (st++[e])=Z6X deb ns e++Z2q deb ns st:=by
 simp[Z2q]
theorem Z0J (ns:List Nd) (st:List ZbH) (e:ZbH):Z89 ns (st++[e])=Z89 ns st+muE ns e:=by
 simp[Z89]
theorem Zah (ns:List Nd):∀ st:List ZbH,st.length≤Z89 ns st
 | []=>by simp
 | e::st=>by
  have:=Zah ns st;simp only[Z89,List.map_cons,List.sum_cons,List.length_cons,muE] at this ⊢;omega
theorem Z18 {ns:List Nd} {j:Nat} (h:j < ns.length):Z1h ns j=ns[j]:=by
 simp[Z1h,List.getD_eq_getElem?_getD,h]
theorem Z6Y {g g':Int->Nat} {ks:List Int} (h:∀ k∈ks,g k=g' k):Z16 g ks=Z16 g' ks:=by
 unfold Z16;rw[List.map_congr_left h]
theorem ZfV {t:Tr} (hr:right t=true) {j:Nat} (hj:j < t.ns.length):ZjZ t.ns j=2+Z16 (ZjZ t.ns) t.ns[j].kids:=
 Z4C (fun d g g' h=>by rw[Z6Y h]) hr hj
theorem ZkZ {t:Tr} (hr:right t=true):ZjZ t.ns t.root≤2 * t.ns.length:=by
 have:=Z6S hr (g:=ZjZ t.ns) (c:=fun _=>2) fun j hj=>by rw[ZfV hr hj];exact Nat.le_refl _
 rwa [Z4F] at this
theorem Zai {deb:List Int} {t:Tr} (hr:right t=true) {j:Nat} (hj:j < t.ns.length) (w:Bool):Z6X deb t.ns (j,0,w)=Z3g w (Z0s deb t.ns j):=by
 rw[Z3p hr hj];simp only[Z6X,Z3q,Z18 hj]
 cases w<;>simp[Z3g,Z9i,Zo0]<;>rfl
theorem ZfW {t:Tr} (hr:right t=true) {j:Nat} (hj:j < t.ns.length) (w:Bool):muE t.ns (j,0,w)+1=ZjZ t.ns j:=by
 rw[ZfV hr hj];simp[muE,Z18 hj]
 omega
theorem Z6Z {deb:List Int} {t:Tr} (hr:right t=true) {j i:Nat} (hj:j < t.ns.length) {w:Bool} (hi:i < t.ns[j].kids.length) :
  Z6X deb t.ns (j,i,w)=Z3q deb t.ns (j,i,w)++((bif decide (0 < (i:Int)) then Z3o t.ns[j] else [])++(Z6X deb t.ns (t.ns[j].kids[i].toNat,0,Z0p t.ns[j].k (Z0m t.ns t.ns[j].kids[i]))++Z6X deb t.ns (j,i+1,w))):=by
 have hk:=Z0j hr j hj _ (List.getElem_mem hi);rw[Zai hr (by omega)]
 have e1:(((t.ns[j].kids[i].toNat:Nat):Int))=t.ns[j].kids[i]:=Int.toNat_of_nonneg hk.1;rw[e1];have hd:=List.drop_eq_getElem_cons hi
 simp only[Z6X,Z18 hj];rw[hd]
 have e2:Z3q deb t.ns (j,i+1,w)=[]:=by
  have:decide (((i+1:Nat):Int)=0)=false:=decide_eq_false (by omega);simp only[Z3q,this,cond_false]
 have e3:decide (0 < ((i+1:Nat):Int))=true:=decide_eq_true (by omega);rw[e2,e3]
 simp only[Z3n,Zo0,List.append_assoc,List.nil_append]
theorem ZbW {t:Tr} (hr:right t=true) {j i:Nat} (hj:j < t.ns.length) {w w':Bool} (hi:i < t.ns[j].kids.length):muE t.ns (j,i+1,w)+muE t.ns (t.ns[j].kids[i].toNat,0,w')+1=muE t.ns (j,i,w):=by
 have hk:=Z0j hr j hj _ (List.getElem_mem hi);have h1:=ZfW hr (j:=t.ns[j].kids[i].toNat) (by omega) w'
 have e1:(((t.ns[j].kids[i].toNat:Nat):Int))=t.ns[j].kids[i]:=Int.toNat_of_nonneg hk.1;rw[e1] at h1;have hd:=List.drop_eq_getElem_cons hi
 have e3:muE t.ns (j,i,w)=1+Z16 (ZjZ t.ns) (t.ns[j].kids.drop i):=by simp[muE,Z18 hj]
 have e4:muE t.ns (j,i+1,w)=1+Z16 (ZjZ t.ns) (t.ns[j].kids.drop (i+1)):=by simp[muE,Z18 hj]
 rw[e3,e4,hd];simp only[Z16,List.map_cons,List.sum_cons]
 omega
theorem Z70 {deb:List Int} {t:Tr} {j i:Nat} (hj:j < t.ns.length) {w:Bool} (hi:t.ns[j].kids.length≤i):Z6X deb t.ns (j,i,w)=Z3q deb t.ns (j,i,w)++(Z0D t.ns[j]++(bif w then [41] else [])):=by
 simp only[Z6X,Z18 hj,List.drop_eq_nil_of_le hi];rfl
theorem Z3N {F:Fr} {d:Nat} {x:SV} (h:F d=x):upd F d x=F:=by
 funext t
 unfold upd
 cases e:Nat.beq t d with
 | false=>rfl
 | true=>
  have:=Nat.eq_of_beq_eq_true e;subst this;exact h.symm
theorem ZfX {C:Bx} {d:Nat} {x:Option (List Value)} (h:C d=x):Z57 C d x=C:=by
 funext t
 unfold Z57
 cases e:Nat.beq t d with
 | false=>rfl
 | true=>
  have:=Nat.eq_of_beq_eq_true e;subst this;exact h.symm
def Z5i:Code->Code
 | .scope c=>c
 | .seq a b=>match Z5i a with
  | .skip=>Z5i b
  | c=>c
 | _=>.skip
def Z9j (c:Code) (l:Nat):Code:=(findLabel c l).getD .skip
theorem StoreOb.add2 {M:List Blk} {b i j:Nat} {vs:List Value} {K:List Blk->Prop} (pre post:List Blk) (cs:Array Value) (T:Nat) (hM:M=pre++⟨b,.cells cs T (0,0)⟩::post) (hb:i+j+vs.length≤cs.size) (h1:Z0z vs=true)
  (h:K (pre++⟨b,.cells (Z05 cs.toList (i+j) vs).toArray T (0,0)⟩::post)):StoreOb M (((⟨b,0,none⟩:Addr).add i).add j) vs K:=by
 rw[Go.V.add2];refine StoreOb.add pre post cs T hM (by omega) h1 ?_
 rw[Nat.zero_add];exact h
structure Tabs (I:GH) (deb:List Int):Prop where
 c:HasCounts I
 p:Z5f I
 s:HasSigns I
 d:HasDeb I deb
theorem Zl0 {α:Type} (a b c:α) (L:List α):(a::b::(L++[c])).Perm ([b,c]++(a::L)):=
 (List.Perm.swap b a _).trans (((((List.perm_append_singleton c L).cons a)).trans (List.Perm.swap c a L)).cons b)
theorem Z5j (pre:List Value) (a b c z:Value) (rest:List Value):Z05 (pre++([a,b,c]++rest)) (pre.length+1) [z]=pre++([a,z,c]++rest):=by
 have:=Zac pre a b z (c::rest) _ rfl;exact this
theorem Tabs.mono {I I':GH} {deb:List Int} (h:Tabs I deb) (hI:∀ b o,I b=some o->I' b=some o):Tabs I' deb:=by
 obtain⟨⟨T1,f1,h1⟩,⟨T2,f2,h2⟩,⟨T3,f3,h3⟩,⟨h4,h5,T4,f4,h6⟩⟩:=h;exact⟨⟨T1,f1,hI _ _ h1⟩,⟨T2,f2,hI _ _ h2⟩,⟨T3,f3,hI _ _ h3⟩,⟨h4,h5,T4,f4,hI _ _ h6⟩⟩
def Z26 (st:List ZbH):List Value:=st.flatMap Z35
theorem Z2U (st:List ZbH):(Z26 st).length=st.length * 3:=Z0i Z35 3 (fun _=>rfl) st
theorem Z1x (st:List ZbH) (e:ZbH):Z26 (st++[e])=Z26 st++[.int .i64 e.1,.int .i64 e.2.1,.bool e.2.2]:=by
 simp[Z26,Z35]
abbrev ZfY:=Bd×OS×List ZbH×GH
def Zk0 (t:Tr) (g:Nat) (x:ZfY):LP:={ fl:=[(1,.ref 1 0),(3,.val (ptr g)),(4,.val x.2.1.val)],cl:=[(1,t.cells)],gi:=x.2.2.2,mi:=x.2.1.blk 273++x.1.M g }
structure TreeInv (I0:GH) (deb:List Int) (t:Tr) (x:ZfY):Prop where
 le:∀ b o,I0 b=some o->x.2.2.2 b=some o
 ok:x.1.ok
 os:x.2.1.ok 3 (Z26 x.2.2.1)
 ne:x.2.2.1≠[]
 inn:∀ e∈x.2.2.1,e.1 < t.ns.length
 txt:x.1.bs++Z2q deb t.ns x.2.2.1=Z0s deb t.ns t.root
 mu:Z89 t.ns x.2.2.1≤2 * t.ns.length
set_option maxHeartbeats 8000000 in
set_option maxRecDepth 4000 in
theorem Zaj {I0:GH} {deb:List Int} (hT:Tabs I0 deb) {t:Tr} (ht:t.ok I0) (hr:right t=true) (hn:t.n≤1024) {g:Nat} {p:Nat->Nat×ZfY->Prop} (x:ZfY) (hx:TreeInv I0 deb t x)
  (hp:∀ y,TreeInv I0 deb t y->Z89 t.ns y.2.2.1 < Z89 t.ns x.2.2.1->p 0 (g,y)) (B:Nat) (h0:World) (G:Fr) (GC:Bx) :
  V ⟨Tryz.prog,Z2L,[3],Tryz.f209.ntmps,B,h0,I0,[],none⟩ (Z9j (Z5i (Tryz.f209.body.getD .skip)) 0)
   (upd (upd (upd G 4 (.val x.2.1.val)) 3 (.val (ptr g))) 1 (.ref 1 0)) (Z57 GC 1 (some t.cells)) x.2.2.2 (x.2.1.blk 273++x.1.M g)
   (scK (fun l=>InvAt [] (fun y=>Zk0 t y.1 y.2) (p l)) (ZfB ⟨Tryz.prog,Z2L,[3],Tryz.f209.ntmps,B,h0,I0,[],none⟩ Tryz.f209.results.toList
    (fun r I' M'=>r=.string (Z0f (Z0s deb t.ns t.root))∧(∀ b o,I0 b=some o->I' b=some o)∧M'=[]))):=by
 obtain⟨x,⟨oa,n,cp,cur⟩,st,I1⟩:=x;obtain⟨hle,hxok,hos,hne,hin,htxt,hmu⟩:=hx;simp only at hle hxok hos hne hin htxt hmu hp ⊢;have hT1:=hT.mono hle
 have ht1:=ht.mono hle;have hnl:=ht.n
 obtain⟨st0,⟨j,i,w⟩,rfl⟩:∃ st0 e,st=st0++[e]:=by
  rcases List.eq_nil_or_concat st with h | ⟨r,e,h⟩
  ·exact(hne h).elim
  ·exact⟨r,e,by simpa using h⟩
 have hsl:st0.length+1=n:=by
  have h1:=hos.len;rw[Z2U] at h1;simp at h1;omega
 have hj:j < t.ns.length:=hin (j,i,w) (by simp)
 have hj':j < t.n:=by omega
 cases oa with
 | none=>have:=(hos.nil rfl).1;simp only at this;omega
 | some gb=>
 obtain⟨hcl,hnc,hcm,hct⟩:=hos.cap gb rfl;simp only at hcl hnc hcm hct
 have hp0:(Z26 st0).length=(n - 1) * 3:=by rw[Z2U];omega
 obtain⟨rest,hcur⟩:∃ rest,cur=Z26 st0++([.int .i64 j,.int .i64 i,.bool w]++rest):=by
  refine⟨cur.drop (n * 3),?_⟩;have h2:=List.take_append_drop (n * 3) cur
  rw[hct,Z1x,List.append_assoc] at h2;exact h2.symm
 have at0:cur[(n - 1) * 3+0]?=some (.int .i64 j):=by
  rw[hcur,←hp0,List.getElem?_append_right (by omega)];simp
 have at1:cur[(n - 1) * 3+1]?=some (.int .i64 i):=by
  rw[hcur,←hp0,List.getElem?_append_right (by omega)];simp
 have at2:cur[(n - 1) * 3+2]?=some (.bool w):=by
  rw[hcur,←hp0,List.getElem?_append_right (by omega)];simp
 have htl:=Zdl (deb:=deb) hr
 have hxl:x.bs.length≤2412 * t.ns.length:=by
  have:=congrArg List.length htxt;rw[List.length_append] at this;omega
 have hstl:=Zah t.ns (st0++[(j,i,w)]);simp only[List.length_append,List.length_cons,List.length_nil] at hstl
 have hdk:=ht1.ns t.ns[j] (List.getElem_mem hj);have hkn:=hdk.kn
 have hfs:=Z2T (Z1A hr hj);obtain⟨ad,had,hrd⟩:=ht1.rs.row Nd.cells_len hj' hj
 rw[Z1i] at htxt;rw[Z0J] at hmu hp hstl
 have hn1:IntKind.i64.wrap ((n:Int) - 1)=((n - 1:Nat):Int):=by
  rw[Z08 ⟨by omega,by omega⟩];omega
 refine ArithOb.mk (((n - 1:Nat)):Int) hn1 ?_;refine IdxOb.mk ⟨gb,0,none⟩ (n - 1) rfl rfl (by show n - 1 < n;omega) ?_;refine CodeOb.draw Z00 rfl rfl rfl ?_;refine LoadOb.mk [.int .i64 j] (Z12 (b:=gb) (cs:=cur) (T:=273) (by simp[OS.blk]) at0) ?_;refine IdxOb.mk ad j had rfl hj' ?_;refine LoadOb.mk _ (hrd _) ?_
 refine AllocOb.mk fun b6 hb6 hbM6=>?_
 refine StoreOb.mk [] (⟨gb,.cells cur.toArray 273 (0,0)⟩::x.M g) _ _ rfl rfl (Nat.le_of_ble_eq_true rfl) rfl ?_;refine LoadOb.mk [.int .i64 i] (Z12 (b:=gb) (cs:=cur) (T:=273) (by simp[OS.blk]) at1) ?_;refine CondOb.mk (fun h1=>?_) (fun h1=>?_)
 ·refine LoadOb.mk [.bool w] (Z12 (b:=gb) (cs:=cur) (T:=273) (by simp[OS.blk]) at2) ?_
  refine CondOb.mk (fun h2=>?_) (fun h2=>?_)
  ·refine CallOb.mk (x.M g) [⟨b6,.cells t.ns[j].cells.toArray 91 (0,0)⟩,⟨gb,.cells cur.toArray 273 (0,0)⟩] _ (List.perm_append_comm (l₁:=[_,_])) (Z0g g hxok 40 (by omega)) ?_
   rintro v I2 M2 - ⟨rfl,rfl,y,hy,hyb,rfl⟩
   have hyl:y.bs.length≤2412 * t.ns.length+1:=by rw[hyb];simp;omega
   refine LoadOb.mk _ (Z0d (T:=91) (b:=b6) (cs:=t.ns[j].cells) (k:=0) (n:=9) (by simp) (Nat.le_of_ble_eq_true rfl)) ?_;refine CallOb.mk [] (y.M g++[⟨b6,.cells t.ns[j].cells.toArray 91 (0,0)⟩,⟨gb,.cells cur.toArray 273 (0,0)⟩]) _ (by simp) (Z8y hT1.d hT1.s hdk hfs) ?_;rintro v I2 M2 - ⟨rfl,hI2,rfl⟩
   have hI3:∀ b o,I0 b=some o->I2 b=some o:=fun b o h=>hI2 _ _ (hle _ _ h)
   have hal:=Z5h deb hfs;refine CallOb.mk (y.M g) [⟨b6,.cells t.ns[j].cells.toArray 91 (0,0)⟩,⟨gb,.cells cur.toArray 273 (0,0)⟩] _ (by simp) (Z0k g hy _ (by show _+(Z1b deb t.ns[j]).length≤_;omega)) ?_;rintro v I3 M3 - ⟨rfl,rfl,u,hu,hub,rfl⟩
   have huh:u.bs=x.bs++Z3q deb t.ns (j,i,w):=by
    rw[hub,hyb];simp only[Z3q,h1,h2,Z18 hj,cond_true,cond_false]
    simp[Z0f]
   have hul:u.bs.length≤2412 * t.ns.length+2401:=by
    rw[huh,List.length_append];simp only[Z3q,h1,h2,Z18 hj,cond_true,cond_false,List.length_append,List.length_cons,List.length_nil]
    omega
   have hT2:=hT.mono hI3;have ht2:=ht.mono hI3;have hdk2:=ht2.ns t.ns[j] (List.getElem_mem hj)
   have hrd6:∀ {k m:Nat},k+m≤9->Rd I3 (u.M g++[⟨b6,.cells t.ns[j].cells.toArray 91 (0,0)⟩,⟨gb,.cells cur.toArray 273 (0,0)⟩]) ((⟨b6,0,none⟩:Addr).add k) m ((t.ns[j].cells.drop k).take m):=fun h=>Z0d (T:=91) (by simp) h
   refine CodeOb.draw Z00 rfl rfl rfl ?_;refine LoadOb.mk [.int .i64 i] (Z12 (b:=gb) (cs:=cur) (T:=273) (by simp[OS.blk]) at1) ?_;refine LoadOb.mk _ (hrd6 (by decide)) ?_;refine CondOb.mk (fun hk=>?_) (fun hk=>?_)
   ·have hil:i < t.ns[j].kn:=by simpa using hk
    have hil':i < t.ns[j].kids.length:=by omega
    obtain⟨ak,hak,hrk⟩:=hdk2.rs.one hil hil';have hkk:=Z0j hr j hj _ (List.getElem_mem hil');obtain⟨q,hq0⟩:=Int.eq_ofNat_of_zero_le hkk.1
    have hql:q < t.ns.length:=by omega
    have hql':q < t.n:=by omega
    obtain⟨aq,haq,hrq0⟩:=ht2.rs.row Nd.cells_len hql' hql
    have hrq:∀ M,Rd I3 M ((aq.add (q * 9)).add 0) 1 [.int .u8 t.ns[q].k]:=fun M=>(hrq0 M).part (k:=0) (m:=1) (by decide)
    have hkat:Z0m t.ns ((q:Nat):Int)=t.ns[q].k:=by simp[Z0m,List.getD_eq_getElem?_getD,hql]
    have hre:=Z6Z (deb:=deb) hr hj (w:=w) hil';have hme:=ZbW hr hj (w:=w) (w':=Z0p t.ns[j].k t.ns[q].k) hil';rw[hq0] at hre hme;simp only[Int.ofNat_eq_natCast,Int.toNat_natCast] at hre hme;rw[hkat] at hre
    have hwr:IntKind.i64.wrap ((i:Int)+1)=((i+1:Nat):Int):=by
     have:=hdk2.rs.cap;rw[Z08 ⟨by omega,by omega⟩];omega
    have hsp:Z05 cur ((n - 1) * 3+1) [.int .i64 ((i+1:Nat):Int)]=Z26 st0++([.int .i64 j,.int .i64 ((i+1:Nat):Int),.bool w]++rest):=by
     rw[hcur,←hp0];exact Z5j _ _ _ _ _ _
    have hos':OS.ok ⟨some gb,n,cp,Z05 cur ((n - 1) * 3+1) [.int .i64 ((i+1:Nat):Int)]⟩ 3 (Z26 (st0++[(j,i+1,w)])):=by
     rw[hsp,Z1x];refine⟨by simp only[List.length_append,List.length_cons,List.length_nil];omega,(fun h=>by cases h),fun g3 _=>⟨?_,hnc,hcm,?_⟩⟩
     ·simp only
      rw[←hcl,hcur];simp
     ·simp only
      rw[←List.append_assoc];refine List.take_left' ?_
      simp only[List.length_append,List.length_cons,List.length_nil];omega
    refine LoadOb.mk [.int .i64 i] (Z12 (b:=gb) (cs:=cur) (T:=273) (by simp[OS.blk]) at1) ?_;refine CondOb.mk (fun hz=>by simp at h1 hz;omega) (fun hz=>?_);refine CodeOb.draw Z00 rfl rfl rfl ?_
    refine LoadOb.mk _ (Z0d (T:=91) (b:=b6) (cs:=t.ns[j].cells) (k:=8) (n:=1) (by simp) (Nat.le_of_ble_eq_true rfl)) ?_;refine LoadOb.mk [.int .i64 i] (Z12 (b:=gb) (cs:=cur) (T:=273) (by simp[OS.blk]) at1) ?_;refine IdxOb.mk ak i hak rfl hil ?_;refine LoadOb.mk [.int .i64 (q:Nat)] (by have h9:=hrk;rw[hq0] at h9;exact h9 _) ?_;refine LoadOb.mk [.int .i64 i] (Z12 (b:=gb) (cs:=cur) (T:=273) (by simp[OS.blk]) at1) ?_;refine ArithOb.mk ((i+1:Nat):Int) hwr ?_;refine StoreOb.add2 (u.M g++[⟨b6,.cells t.ns[j].cells.toArray 91 (0,0)⟩]) [] cur.toArray 273 (by simp[OS.blk]) ?_ rfl ?_
    ·simp only[List.size_toArray]
     show (n - 1) * 3+1+1≤_
     omega
    refine CodeOb.draw Z00 rfl rfl rfl ?_;refine LoadOb.mk [.int .u8 t.ns[j].k] (Z0d (T:=91) (b:=b6) (cs:=t.ns[j].cells) (k:=0) (n:=1) (by simp) (Nat.le_of_ble_eq_true rfl)) ?_;refine IdxOb.mk aq q haq rfl hql' ?_;refine LoadOb.mk [.int .u8 t.ns[q].k] (hrq _) ?_;refine PCallOb.mk _ (Z5d t.ns[j].k t.ns[q].k) ?_;rintro v I5 M5 - ⟨rfl,rfl,rfl⟩
    refine AllocOb.mk fun b9 hb9 hbM9=>?_
    refine OtherOb.append Z00 rfl (by simp) (e:=273) rfl rfl rfl ⟨some gb,n,cp,Z05 cur ((n - 1) * 3+1) [.int .i64 ((i+1:Nat):Int)]⟩ (xs:=Z26 (st0++[(j,i+1,w)])) hos' rfl (m:=1) rfl (news:=Z35 (q,0,Z0p t.ns[j].k t.ns[q].k)) (by decide) (Z0d (b:=b9) (cs:=Z35 (q,0,Z0p t.ns[j].k t.ns[q].k)) (k:=0) (n:=3) (T:=273) (.head _) (Nat.le_of_ble_eq_true rfl)) rfl (Mr:=⟨b9,.cells (Z35 (q,0,Z0p t.ns[j].k t.ns[q].k)).toArray 273 (0,0)⟩::(u.M g++[⟨b6,.cells t.ns[j].cells.toArray 91 (0,0)⟩])) (by exact List.perm_append_comm (l₁:=(⟨b9,.cells (Z35 (q,0,Z0p t.ns[j].k t.ns[q].k)).toArray 273 (0,0)⟩:Blk)::(u.M g++[⟨b6,.cells t.ns[j].cells.toArray 91 (0,0)⟩])) (l₂:=[⟨gb,.cells (Z05 cur ((n - 1) * 3+1) [.int .i64 ((i+1:Nat):Int)]).toArray 273 (0,0)⟩])) (by show n+1≤_;simp only[maxLen];omega) (by show (n+1) * 24≤_;omega) ?_;intro g' c' cur' q1 q2 q3 q4;refine⟨(g,u,⟨some g',n+1,c',cur'⟩,st0++[(j,i+1,w)]++[(q,0,Z0p t.ns[j].k t.ns[q].k)],_),hp _ ⟨hI3,hu,⟨?_,(fun h=>by cases h),fun g3 _=>⟨q1,q2,q3,?_⟩⟩,by simp,?_,?_,?_⟩ ?_,.perm (M1:=[⟨b9,.cells (Z35 (q,0,Z0p t.ns[j].k t.ns[q].k)).toArray 273 (0,0)⟩,⟨b6,.cells t.ns[j].cells.toArray 91 (0,0)⟩]++(⟨g',.cells cur'.toArray 273 (0,0)⟩::u.M g)) (Zl0 _ _ _ _) (.sub (List.sublist_append_right _ _) .refl),aF3,.cons rfl .nil⟩
    ·show _=(n+1) * 3
     rw[Z2U];simp
     omega
    ·show cur'.take ((n+1) * 3)=_
     rw[Z1x (st0++[(j,i+1,w)])];exact q4
    ·intro e he
     simp only[List.mem_append,List.mem_singleton] at he
     rcases he with (he | rfl) | rfl
     ·exact hin e (by simp[he])
     ·exact hj
     ·exact hql
    ·simp only
     rw[Z1i,Z1i,huh,←htxt,hre];rw[show decide (0 < (i:Int))=false from hz]
     simp
    ·simp only
     rw[Z0J,Z0J];omega
    ·simp only
     rw[Z0J,Z0J];omega
   ·have hil:t.ns[j].kids.length≤i:=by simp at hk;omega
    have hre:=Z70 (deb:=deb) hj (w:=w) hil;have hbl:=Z34 t.ns[j];refine LoadOb.mk _ (Z0d (T:=91) (b:=b6) (cs:=t.ns[j].cells) (k:=0) (n:=9) (by simp) (Nat.le_of_ble_eq_true rfl)) ?_
    refine CallOb.mk [] (u.M g++[⟨b6,.cells t.ns[j].cells.toArray 91 (0,0)⟩,⟨gb,.cells cur.toArray 273 (0,0)⟩]) _ (.refl _) (Z4i hT2.c hT2.p hT2.s hdk2 hfs) ?_;rintro v I5 M5 - ⟨rfl,rfl,rfl⟩;refine CallOb.mk (u.M g) [⟨b6,.cells t.ns[j].cells.toArray 91 (0,0)⟩,⟨gb,.cells cur.toArray 273 (0,0)⟩] _ (by simp) (Z0k g hu _ (by show _+(Z0D t.ns[j]).length≤_;omega)) ?_
    rintro v I6 M6 - ⟨rfl,rfl,a,ha,hab,rfl⟩
    have hal2:a.bs.length≤2412 * t.ns.length+2410:=by
     rw[hab,List.length_append]
     show _+(Z0D t.ns[j]).length≤_
     omega
    refine LoadOb.mk [.bool w] (Z12 (b:=gb) (cs:=cur) (T:=273) (by simp[OS.blk]) at2) ?_;refine CondOb.mk (fun hw=>?_) (fun hw=>?_)
    ·subst hw
     refine CallOb.mk (a.M g) [⟨b6,.cells t.ns[j].cells.toArray 91 (0,0)⟩,⟨gb,.cells cur.toArray 273 (0,0)⟩] _ (by simp) (Z0g g ha 41 (by omega)) ?_;rintro v I8 M8 - ⟨rfl,rfl,c,hc,hcb,rfl⟩;refine ArithOb.mk (((n - 1:Nat)):Int) hn1 ?_
     refine SliceOb.mk 0 (n - 1) rfl rfl (Nat.zero_le _) (by show n - 1≤cp;omega) ?_;refine CondOb.mk (fun hz=>?_) (fun hz=>?_)
     ·have hz':0 < n - 1:=by simp at hz;omega
      refine⟨(g,c,⟨some gb,n - 1,cp,cur⟩,st0,_),hp _ ⟨hI3,hc,⟨?_,(fun h=>by cases h),fun g3 _=>⟨hcl,by show n - 1≤cp;omega,hcm,?_⟩⟩,?_,fun e he=>hin e (by simp[he]),?_,?_⟩ ?_,.perm (M1:=[⟨b6,.cells t.ns[j].cells.toArray 91 (0,0)⟩]++(⟨gb,.cells cur.toArray 273 (0,0)⟩::c.M g)) (List.perm_append_comm (l₂:=[_,_])) (.sub (List.sublist_append_right _ _) .refl),aF3,.cons rfl .nil⟩
      ·exact hp0
      ·show cur.take ((n - 1) * 3)=_
       rw[hcur,←hp0];exact List.take_left' rfl
      ·intro h
       simp only at h;rw[h] at hsl;simp at hsl;omega
      ·simp only
       rw[hcb,hab,huh,←htxt,hre];simp[Z0f]
      ·simp only
       omega
      ·simp only[muE]
       omega
     ·have hz':n - 1=0:=by simp at hz;omega
      have hst0:st0=[]:=List.eq_nil_of_length_eq_zero (by omega)
      have hfin:c.bs=Z0s deb t.ns t.root:=by
       rw[hcb,hab,huh,←htxt,hre,hst0];simp[Z2q,Z0f]
      refine CallOb.mk (c.M g) [⟨b6,.cells t.ns[j].cells.toArray 91 (0,0)⟩,⟨gb,.cells cur.toArray 273 (0,0)⟩] _ (by simp) (Z0S g hc (by rw[hfin];omega)) ?_;rintro v I7 M7 - ⟨rfl,rfl,rfl⟩;refine⟨_,_,.sub (List.nil_sublist _) .refl,?_,hI3,rfl⟩
      rw[hfin];rfl
    ·subst hw
     refine ArithOb.mk (((n - 1:Nat)):Int) hn1 ?_;refine SliceOb.mk 0 (n - 1) rfl rfl (Nat.zero_le _) (by show n - 1≤cp;omega) ?_;refine CondOb.mk (fun hz=>?_) (fun hz=>?_)
     ·have hz':0 < n - 1:=by simp at hz;omega
      refine⟨(g,a,⟨some gb,n - 1,cp,cur⟩,st0,_),hp _ ⟨hI3,ha,⟨?_,(fun h=>by cases h),fun g3 _=>⟨hcl,by show n - 1≤cp;omega,hcm,?_⟩⟩,?_,fun e he=>hin e (by simp[he]),?_,?_⟩ ?_,.perm (M1:=[⟨b6,.cells t.ns[j].cells.toArray 91 (0,0)⟩]++(⟨gb,.cells cur.toArray 273 (0,0)⟩::a.M g)) (List.perm_append_comm (l₂:=[_,_])) (.sub (List.sublist_append_right _ _) .refl),aF3,.cons rfl .nil⟩
      ·exact hp0
      ·show cur.take ((n - 1) * 3)=_
       rw[hcur,←hp0];exact List.take_left' rfl
      ·intro h
       simp only at h;rw[h] at hsl;simp at hsl;omega
      ·simp only
       rw[hab,huh,←htxt,hre];simp[Z0f]
      ·simp only
       omega
      ·simp only[muE]
       omega
     ·have hz':n - 1=0:=by simp at hz;omega
      have hst0:st0=[]:=List.eq_nil_of_length_eq_zero (by omega)
      have hfin:a.bs=Z0s deb t.ns t.root:=by
       rw[hab,huh,←htxt,hre,hst0];simp[Z2q,Z0f]
      refine CallOb.mk (a.M g) [⟨b6,.cells t.ns[j].cells.toArray 91 (0,0)⟩,⟨gb,.cells cur.toArray 273 (0,0)⟩] _ (by simp) (Z0S g ha (by rw[hfin];omega)) ?_;rintro v I7 M7 - ⟨rfl,rfl,rfl⟩;refine⟨_,_,.sub (List.nil_sublist _) .refl,?_,hI3,rfl⟩
      rw[hfin];rfl
  ·refine LoadOb.mk _ (Z0d (T:=91) (b:=b6) (cs:=t.ns[j].cells) (k:=0) (n:=9) (.head _) (Nat.le_of_ble_eq_true rfl)) ?_
   refine CallOb.mk [] (⟨b6,.cells t.ns[j].cells.toArray 91 (0,0)⟩::⟨gb,.cells cur.toArray 273 (0,0)⟩::x.M g) _ (.refl _) (Z8y hT1.d hT1.s hdk hfs) ?_;rintro v I2 M2 - ⟨rfl,hI2,rfl⟩
   have hI3:∀ b o,I0 b=some o->I2 b=some o:=fun b o h=>hI2 _ _ (hle _ _ h)
   have hal:=Z5h deb hfs;refine CallOb.mk (x.M g) [⟨b6,.cells t.ns[j].cells.toArray 91 (0,0)⟩,⟨gb,.cells cur.toArray 273 (0,0)⟩] _ (List.perm_append_comm (l₁:=[_,_])) (Z0k g hxok _ (by show _+(Z1b deb t.ns[j]).length≤_;omega)) ?_;rintro v I3 M3 - ⟨rfl,rfl,u,hu,hub,rfl⟩
   have huh:u.bs=x.bs++Z3q deb t.ns (j,i,w):=by
    rw[hub];simp only[Z3q,h1,h2,Z18 hj,cond_true,cond_false]
    simp[Z0f]
   have hul:u.bs.length≤2412 * t.ns.length+2401:=by
    rw[huh,List.length_append];simp only[Z3q,h1,h2,Z18 hj,cond_true,cond_false,List.length_append,List.length_cons,List.length_nil]
    omega
   have hT2:=hT.mono hI3;have ht2:=ht.mono hI3;have hdk2:=ht2.ns t.ns[j] (List.getElem_mem hj)
   have hrd6:∀ {k m:Nat},k+m≤9->Rd I3 (u.M g++[⟨b6,.cells t.ns[j].cells.toArray 91 (0,0)⟩,⟨gb,.cells cur.toArray 273 (0,0)⟩]) ((⟨b6,0,none⟩:Addr).add k) m ((t.ns[j].cells.drop k).take m):=fun h=>Z0d (T:=91) (by simp) h
   refine CodeOb.draw Z00 rfl rfl rfl ?_;refine LoadOb.mk [.int .i64 i] (Z12 (b:=gb) (cs:=cur) (T:=273) (by simp[OS.blk]) at1) ?_;refine LoadOb.mk _ (hrd6 (by decide)) ?_;refine CondOb.mk (fun hk=>?_) (fun hk=>?_)
   ·have hil:i < t.ns[j].kn:=by simpa using hk
    have hil':i < t.ns[j].kids.length:=by omega
    obtain⟨ak,hak,hrk⟩:=hdk2.rs.one hil hil';have hkk:=Z0j hr j hj _ (List.getElem_mem hil');obtain⟨q,hq0⟩:=Int.eq_ofNat_of_zero_le hkk.1
    have hql:q < t.ns.length:=by omega
    have hql':q < t.n:=by omega
    obtain⟨aq,haq,hrq0⟩:=ht2.rs.row Nd.cells_len hql' hql
    have hrq:∀ M,Rd I3 M ((aq.add (q * 9)).add 0) 1 [.int .u8 t.ns[q].k]:=fun M=>(hrq0 M).part (k:=0) (m:=1) (by decide)
    have hkat:Z0m t.ns ((q:Nat):Int)=t.ns[q].k:=by simp[Z0m,List.getD_eq_getElem?_getD,hql]
    have hre:=Z6Z (deb:=deb) hr hj (w:=w) hil';have hme:=ZbW hr hj (w:=w) (w':=Z0p t.ns[j].k t.ns[q].k) hil';rw[hq0] at hre hme;simp only[Int.ofNat_eq_natCast,Int.toNat_natCast] at hre hme;rw[hkat] at hre
    have hwr:IntKind.i64.wrap ((i:Int)+1)=((i+1:Nat):Int):=by
     have:=hdk2.rs.cap;rw[Z08 ⟨by omega,by omega⟩];omega
    have hsp:Z05 cur ((n - 1) * 3+1) [.int .i64 ((i+1:Nat):Int)]=Z26 st0++([.int .i64 j,.int .i64 ((i+1:Nat):Int),.bool w]++rest):=by
     rw[hcur,←hp0];exact Z5j _ _ _ _ _ _
    have hos':OS.ok ⟨some gb,n,cp,Z05 cur ((n - 1) * 3+1) [.int .i64 ((i+1:Nat):Int)]⟩ 3 (Z26 (st0++[(j,i+1,w)])):=by
     rw[hsp,Z1x];refine⟨by simp only[List.length_append,List.length_cons,List.length_nil];omega,(fun h=>by cases h),fun g3 _=>⟨?_,hnc,hcm,?_⟩⟩
     ·simp only
      rw[←hcl,hcur];simp
     ·simp only
      rw[←List.append_assoc];refine List.take_left' ?_
      simp only[List.length_append,List.length_cons,List.length_nil];omega
    refine LoadOb.mk [.int .i64 i] (Z12 (b:=gb) (cs:=cur) (T:=273) (by simp[OS.blk]) at1) ?_;refine CondOb.mk (fun hz=>by simp at h1 hz;omega) (fun hz=>?_);refine CodeOb.draw Z00 rfl rfl rfl ?_
    refine LoadOb.mk _ (Z0d (T:=91) (b:=b6) (cs:=t.ns[j].cells) (k:=8) (n:=1) (by simp) (Nat.le_of_ble_eq_true rfl)) ?_;refine LoadOb.mk [.int .i64 i] (Z12 (b:=gb) (cs:=cur) (T:=273) (by simp[OS.blk]) at1) ?_;refine IdxOb.mk ak i hak rfl hil ?_;refine LoadOb.mk [.int .i64 (q:Nat)] (by have h9:=hrk;rw[hq0] at h9;exact h9 _) ?_;refine LoadOb.mk [.int .i64 i] (Z12 (b:=gb) (cs:=cur) (T:=273) (by simp[OS.blk]) at1) ?_;refine ArithOb.mk ((i+1:Nat):Int) hwr ?_;refine StoreOb.add2 (u.M g++[⟨b6,.cells t.ns[j].cells.toArray 91 (0,0)⟩]) [] cur.toArray 273 (by simp[OS.blk]) ?_ rfl ?_
    ·simp only[List.size_toArray]
     show (n - 1) * 3+1+1≤_
     omega
    refine CodeOb.draw Z00 rfl rfl rfl ?_;refine LoadOb.mk [.int .u8 t.ns[j].k] (Z0d (T:=91) (b:=b6) (cs:=t.ns[j].cells) (k:=0) (n:=1) (by simp) (Nat.le_of_ble_eq_true rfl)) ?_;refine IdxOb.mk aq q haq rfl hql' ?_;refine LoadOb.mk [.int .u8 t.ns[q].k] (hrq _) ?_;refine PCallOb.mk _ (Z5d t.ns[j].k t.ns[q].k) ?_;rintro v I5 M5 - ⟨rfl,rfl,rfl⟩
    refine AllocOb.mk fun b9 hb9 hbM9=>?_
    refine OtherOb.append Z00 rfl (by simp) (e:=273) rfl rfl rfl ⟨some gb,n,cp,Z05 cur ((n - 1) * 3+1) [.int .i64 ((i+1:Nat):Int)]⟩ (xs:=Z26 (st0++[(j,i+1,w)])) hos' rfl (m:=1) rfl (news:=Z35 (q,0,Z0p t.ns[j].k t.ns[q].k)) (by decide) (Z0d (b:=b9) (cs:=Z35 (q,0,Z0p t.ns[j].k t.ns[q].k)) (k:=0) (n:=3) (T:=273) (.head _) (Nat.le_of_ble_eq_true rfl)) rfl (Mr:=⟨b9,.cells (Z35 (q,0,Z0p t.ns[j].k t.ns[q].k)).toArray 273 (0,0)⟩::(u.M g++[⟨b6,.cells t.ns[j].cells.toArray 91 (0,0)⟩])) (by exact List.perm_append_comm (l₁:=(⟨b9,.cells (Z35 (q,0,Z0p t.ns[j].k t.ns[q].k)).toArray 273 (0,0)⟩:Blk)::(u.M g++[⟨b6,.cells t.ns[j].cells.toArray 91 (0,0)⟩])) (l₂:=[⟨gb,.cells (Z05 cur ((n - 1) * 3+1) [.int .i64 ((i+1:Nat):Int)]).toArray 273 (0,0)⟩])) (by show n+1≤_;simp only[maxLen];omega) (by show (n+1) * 24≤_;omega) ?_;intro g' c' cur' q1 q2 q3 q4;refine⟨(g,u,⟨some g',n+1,c',cur'⟩,st0++[(j,i+1,w)]++[(q,0,Z0p t.ns[j].k t.ns[q].k)],_),hp _ ⟨hI3,hu,⟨?_,(fun h=>by cases h),fun g3 _=>⟨q1,q2,q3,?_⟩⟩,by simp,?_,?_,?_⟩ ?_,.perm (M1:=[⟨b9,.cells (Z35 (q,0,Z0p t.ns[j].k t.ns[q].k)).toArray 273 (0,0)⟩,⟨b6,.cells t.ns[j].cells.toArray 91 (0,0)⟩]++(⟨g',.cells cur'.toArray 273 (0,0)⟩::u.M g)) (Zl0 _ _ _ _) (.sub (List.sublist_append_right _ _) .refl),aF3,.cons rfl .nil⟩
    ·show _=(n+1) * 3
     rw[Z2U];simp
     omega
    ·show cur'.take ((n+1) * 3)=_
     rw[Z1x (st0++[(j,i+1,w)])];exact q4
    ·intro e he
     simp only[List.mem_append,List.mem_singleton] at he
     rcases he with (he | rfl) | rfl
     ·exact hin e (by simp[he])
     ·exact hj
     ·exact hql
    ·simp only
     rw[Z1i,Z1i,huh,←htxt,hre];rw[show decide (0 < (i:Int))=false from hz]
     simp
    ·simp only
     rw[Z0J,Z0J];omega
    ·simp only
     rw[Z0J,Z0J];omega
   ·have hil:t.ns[j].kids.length≤i:=by simp at hk;omega
    have hre:=Z70 (deb:=deb) hj (w:=w) hil;have hbl:=Z34 t.ns[j];refine LoadOb.mk _ (Z0d (T:=91) (b:=b6) (cs:=t.ns[j].cells) (k:=0) (n:=9) (by simp) (Nat.le_of_ble_eq_true rfl)) ?_
    refine CallOb.mk [] (u.M g++[⟨b6,.cells t.ns[j].cells.toArray 91 (0,0)⟩,⟨gb,.cells cur.toArray 273 (0,0)⟩]) _ (.refl _) (Z4i hT2.c hT2.p hT2.s hdk2 hfs) ?_;rintro v I5 M5 - ⟨rfl,rfl,rfl⟩;refine CallOb.mk (u.M g) [⟨b6,.cells t.ns[j].cells.toArray 91 (0,0)⟩,⟨gb,.cells cur.toArray 273 (0,0)⟩] _ (by simp) (Z0k g hu _ (by show _+(Z0D t.ns[j]).length≤_;omega)) ?_
    rintro v I6 M6 - ⟨rfl,rfl,a,ha,hab,rfl⟩
    have hal2:a.bs.length≤2412 * t.ns.length+2410:=by
     rw[hab,List.length_append]
     show _+(Z0D t.ns[j]).length≤_
     omega
    refine LoadOb.mk [.bool w] (Z12 (b:=gb) (cs:=cur) (T:=273) (by simp[OS.blk]) at2) ?_;refine CondOb.mk (fun hw=>?_) (fun hw=>?_)
    ·subst hw
     refine CallOb.mk (a.M g) [⟨b6,.cells t.ns[j].cells.toArray 91 (0,0)⟩,⟨gb,.cells cur.toArray 273 (0,0)⟩] _ (by simp) (Z0g g ha 41 (by omega)) ?_;rintro v I8 M8 - ⟨rfl,rfl,c,hc,hcb,rfl⟩;refine ArithOb.mk (((n - 1:Nat)):Int) hn1 ?_
     refine SliceOb.mk 0 (n - 1) rfl rfl (Nat.zero_le _) (by show n - 1≤cp;omega) ?_;refine CondOb.mk (fun hz=>?_) (fun hz=>?_)
     ·have hz':0 < n - 1:=by simp at hz;omega
      refine⟨(g,c,⟨some gb,n - 1,cp,cur⟩,st0,_),hp _ ⟨hI3,hc,⟨?_,(fun h=>by cases h),fun g3 _=>⟨hcl,by show n - 1≤cp;omega,hcm,?_⟩⟩,?_,fun e he=>hin e (by simp[he]),?_,?_⟩ ?_,.perm (M1:=[⟨b6,.cells t.ns[j].cells.toArray 91 (0,0)⟩]++(⟨gb,.cells cur.toArray 273 (0,0)⟩::c.M g)) (List.perm_append_comm (l₂:=[_,_])) (.sub (List.sublist_append_right _ _) .refl),aF3,.cons rfl .nil⟩
      ·exact hp0
      ·show cur.take ((n - 1) * 3)=_
       rw[hcur,←hp0];exact List.take_left' rfl
      ·intro h
       simp only at h;rw[h] at hsl;simp at hsl;omega
      ·simp only
       rw[hcb,hab,huh,←htxt,hre];simp[Z0f]
      ·simp only
       omega
      ·simp only[muE]
       omega
     ·have hz':n - 1=0:=by simp at hz;omega
      have hst0:st0=[]:=List.eq_nil_of_length_eq_zero (by omega)
      have hfin:c.bs=Z0s deb t.ns t.root:=by
       rw[hcb,hab,huh,←htxt,hre,hst0];simp[Z2q,Z0f]
      refine CallOb.mk (c.M g) [⟨b6,.cells t.ns[j].cells.toArray 91 (0,0)⟩,⟨gb,.cells cur.toArray 273 (0,0)⟩] _ (by simp) (Z0S g hc (by rw[hfin];omega)) ?_;rintro v I7 M7 - ⟨rfl,rfl,rfl⟩;refine⟨_,_,.sub (List.nil_sublist _) .refl,?_,hI3,rfl⟩
      rw[hfin];rfl
    ·subst hw
     refine ArithOb.mk (((n - 1:Nat)):Int) hn1 ?_;refine SliceOb.mk 0 (n - 1) rfl rfl (Nat.zero_le _) (by show n - 1≤cp;omega) ?_;refine CondOb.mk (fun hz=>?_) (fun hz=>?_)
     ·have hz':0 < n - 1:=by simp at hz;omega
      refine⟨(g,a,⟨some gb,n - 1,cp,cur⟩,st0,_),hp _ ⟨hI3,ha,⟨?_,(fun h=>by cases h),fun g3 _=>⟨hcl,by show n - 1≤cp;omega,hcm,?_⟩⟩,?_,fun e he=>hin e (by simp[he]),?_,?_⟩ ?_,.perm (M1:=[⟨b6,.cells t.ns[j].cells.toArray 91 (0,0)⟩]++(⟨gb,.cells cur.toArray 273 (0,0)⟩::a.M g)) (List.perm_append_comm (l₂:=[_,_])) (.sub (List.sublist_append_right _ _) .refl),aF3,.cons rfl .nil⟩
      ·exact hp0
      ·show cur.take ((n - 1) * 3)=_
       rw[hcur,←hp0];exact List.take_left' rfl
      ·intro h
       simp only at h;rw[h] at hsl;simp at hsl;omega
      ·simp only
       rw[hab,huh,←htxt,hre];simp[Z0f]
      ·simp only
       omega
      ·simp only[muE]
       omega
     ·have hz':n - 1=0:=by simp at hz;omega
      have hst0:st0=[]:=List.eq_nil_of_length_eq_zero (by omega)
      have hfin:a.bs=Z0s deb t.ns t.root:=by
       rw[hab,huh,←htxt,hre,hst0];simp[Z2q,Z0f]
      refine CallOb.mk (a.M g) [⟨b6,.cells t.ns[j].cells.toArray 91 (0,0)⟩,⟨gb,.cells cur.toArray 273 (0,0)⟩] _ (by simp) (Z0S g ha (by rw[hfin];omega)) ?_;rintro v I7 M7 - ⟨rfl,rfl,rfl⟩;refine⟨_,_,.sub (List.nil_sublist _) .refl,?_,hI3,rfl⟩
      rw[hfin];rfl
 ·have hxh:x.bs=x.bs++Z3q deb t.ns (j,i,w):=by
   simp only[Z3q,h1,cond_false,List.append_nil]
  have hT2:=hT.mono hle;have ht2:=ht.mono hle;have hdk2:=ht2.ns t.ns[j] (List.getElem_mem hj)
  have hrd6:∀ {k m:Nat},k+m≤9->Rd I1 (⟨b6,.cells t.ns[j].cells.toArray 91 (0,0)⟩::⟨gb,.cells cur.toArray 273 (0,0)⟩::x.M g) ((⟨b6,0,none⟩:Addr).add k) m ((t.ns[j].cells.drop k).take m):=fun h=>Z0d (T:=91) (by simp) h
  refine CodeOb.draw Z00 rfl rfl rfl ?_;refine LoadOb.mk [.int .i64 i] (Z12 (b:=gb) (cs:=cur) (T:=273) (by simp[OS.blk]) at1) ?_;refine LoadOb.mk _ (hrd6 (by decide)) ?_;refine CondOb.mk (fun hk=>?_) (fun hk=>?_)
  ·have hil:i < t.ns[j].kn:=by simpa using hk
   have hil':i < t.ns[j].kids.length:=by omega
   obtain⟨ak,hak,hrk⟩:=hdk2.rs.one hil hil';have hkk:=Z0j hr j hj _ (List.getElem_mem hil');obtain⟨q,hq0⟩:=Int.eq_ofNat_of_zero_le hkk.1
   have hql:q < t.ns.length:=by omega
   have hql':q < t.n:=by omega
   obtain⟨aq,haq,hrq0⟩:=ht2.rs.row Nd.cells_len hql' hql
   have hrq:∀ M,Rd I1 M ((aq.add (q * 9)).add 0) 1 [.int .u8 t.ns[q].k]:=fun M=>(hrq0 M).part (k:=0) (m:=1) (by decide)
   have hkat:Z0m t.ns ((q:Nat):Int)=t.ns[q].k:=by simp[Z0m,List.getD_eq_getElem?_getD,hql]
   have hre:=Z6Z (deb:=deb) hr hj (w:=w) hil';have hme:=ZbW hr hj (w:=w) (w':=Z0p t.ns[j].k t.ns[q].k) hil';rw[hq0] at hre hme;simp only[Int.ofNat_eq_natCast,Int.toNat_natCast] at hre hme;rw[hkat] at hre
   have hwr:IntKind.i64.wrap ((i:Int)+1)=((i+1:Nat):Int):=by
    have:=hdk2.rs.cap;rw[Z08 ⟨by omega,by omega⟩];omega
   have hsp:Z05 cur ((n - 1) * 3+1) [.int .i64 ((i+1:Nat):Int)]=Z26 st0++([.int .i64 j,.int .i64 ((i+1:Nat):Int),.bool w]++rest):=by
    rw[hcur,←hp0];exact Z5j _ _ _ _ _ _
   have hos':OS.ok ⟨some gb,n,cp,Z05 cur ((n - 1) * 3+1) [.int .i64 ((i+1:Nat):Int)]⟩ 3 (Z26 (st0++[(j,i+1,w)])):=by
    rw[hsp,Z1x];refine⟨by simp only[List.length_append,List.length_cons,List.length_nil];omega,(fun h=>by cases h),fun g3 _=>⟨?_,hnc,hcm,?_⟩⟩
    ·simp only
     rw[←hcl,hcur];simp
    ·simp only
     rw[←List.append_assoc];refine List.take_left' ?_
     simp only[List.length_append,List.length_cons,List.length_nil];omega
   refine LoadOb.mk [.int .i64 i] (Z12 (b:=gb) (cs:=cur) (T:=273) (by simp[OS.blk]) at1) ?_;refine CondOb.mk (fun hz=>?_) (fun hz=>by simp at h1 hz;omega);refine LoadOb.mk [.int .u8 t.ns[j].k] (Z0d (T:=91) (b:=b6) (cs:=t.ns[j].cells) (k:=0) (n:=1) (.head _) (Nat.le_of_ble_eq_true rfl)) ?_
   refine ArrOb.mk t.ns[j].k.toNat (by have:=hdk2.k;omega) (by have:=hfs.k;have:=hdk2.k;omega) ?_;refine LoadOb.mk _ (hT2.s.rd _ (by have:=hfs.k;have:=hdk2.k;show t.ns[j].k.toNat * 3+1 < 30;omega)) ?_;refine CallOb.mk (x.M g) [⟨b6,.cells t.ns[j].cells.toArray 91 (0,0)⟩,⟨gb,.cells cur.toArray 273 (0,0)⟩] _ (List.perm_append_comm (l₁:=[_,_])) (Z0k g hxok _ (by have:=Z6V (t.ns[j].k.toNat * 3+1);show _+(sgn (t.ns[j].k.toNat * 3+1)).length≤_;omega)) ?_;rintro v I4 M4 - ⟨rfl,rfl,z,hz1,hzb0,rfl⟩;have hzb:z.bs=x.bs++Z3o t.ns[j]:=hzb0
   refine CodeOb.draw Z00 rfl rfl rfl ?_;refine LoadOb.mk _ (Z0d (T:=91) (b:=b6) (cs:=t.ns[j].cells) (k:=8) (n:=1) (by simp) (Nat.le_of_ble_eq_true rfl)) ?_;refine LoadOb.mk [.int .i64 i] (Z12 (b:=gb) (cs:=cur) (T:=273) (by simp[OS.blk]) at1) ?_;refine IdxOb.mk ak i hak rfl hil ?_;refine LoadOb.mk [.int .i64 (q:Nat)] (by have h9:=hrk;rw[hq0] at h9;exact h9 _) ?_;refine LoadOb.mk [.int .i64 i] (Z12 (b:=gb) (cs:=cur) (T:=273) (by simp[OS.blk]) at1) ?_;refine ArithOb.mk ((i+1:Nat):Int) hwr ?_;refine StoreOb.add2 (z.M g++[⟨b6,.cells t.ns[j].cells.toArray 91 (0,0)⟩]) [] cur.toArray 273 (by simp[OS.blk]) ?_ rfl ?_
   ·simp only[List.size_toArray]
    show (n - 1) * 3+1+1≤_
    omega
   refine CodeOb.draw Z00 rfl rfl rfl ?_;refine LoadOb.mk [.int .u8 t.ns[j].k] (Z0d (T:=91) (b:=b6) (cs:=t.ns[j].cells) (k:=0) (n:=1) (by simp) (Nat.le_of_ble_eq_true rfl)) ?_;refine IdxOb.mk aq q haq rfl hql' ?_;refine LoadOb.mk [.int .u8 t.ns[q].k] (hrq _) ?_;refine PCallOb.mk _ (Z5d t.ns[j].k t.ns[q].k) ?_;rintro v I5 M5 - ⟨rfl,rfl,rfl⟩
   refine AllocOb.mk fun b9 hb9 hbM9=>?_
   refine OtherOb.append Z00 rfl (by simp) (e:=273) rfl rfl rfl ⟨some gb,n,cp,Z05 cur ((n - 1) * 3+1) [.int .i64 ((i+1:Nat):Int)]⟩ (xs:=Z26 (st0++[(j,i+1,w)])) hos' rfl (m:=1) rfl (news:=Z35 (q,0,Z0p t.ns[j].k t.ns[q].k)) (by decide) (Z0d (b:=b9) (cs:=Z35 (q,0,Z0p t.ns[j].k t.ns[q].k)) (k:=0) (n:=3) (T:=273) (.head _) (Nat.le_of_ble_eq_true rfl)) rfl (Mr:=⟨b9,.cells (Z35 (q,0,Z0p t.ns[j].k t.ns[q].k)).toArray 273 (0,0)⟩::(z.M g++[⟨b6,.cells t.ns[j].cells.toArray 91 (0,0)⟩])) (by exact List.perm_append_comm (l₁:=(⟨b9,.cells (Z35 (q,0,Z0p t.ns[j].k t.ns[q].k)).toArray 273 (0,0)⟩:Blk)::(z.M g++[⟨b6,.cells t.ns[j].cells.toArray 91 (0,0)⟩])) (l₂:=[⟨gb,.cells (Z05 cur ((n - 1) * 3+1) [.int .i64 ((i+1:Nat):Int)]).toArray 273 (0,0)⟩])) (by show n+1≤_;simp only[maxLen];omega) (by show (n+1) * 24≤_;omega) ?_;intro g' c' cur' q1 q2 q3 q4;refine⟨(g,z,⟨some g',n+1,c',cur'⟩,st0++[(j,i+1,w)]++[(q,0,Z0p t.ns[j].k t.ns[q].k)],_),hp _ ⟨hle,hz1,⟨?_,(fun h=>by cases h),fun g3 _=>⟨q1,q2,q3,?_⟩⟩,by simp,?_,?_,?_⟩ ?_,.perm (M1:=[⟨b9,.cells (Z35 (q,0,Z0p t.ns[j].k t.ns[q].k)).toArray 273 (0,0)⟩,⟨b6,.cells t.ns[j].cells.toArray 91 (0,0)⟩]++(⟨g',.cells cur'.toArray 273 (0,0)⟩::z.M g)) (Zl0 _ _ _ _) (.sub (List.sublist_append_right _ _) .refl),aF3,.cons rfl .nil⟩
   ·show _=(n+1) * 3
    rw[Z2U];simp
    omega
   ·show cur'.take ((n+1) * 3)=_
    rw[Z1x (st0++[(j,i+1,w)])];exact q4
   ·intro e he
    simp only[List.mem_append,List.mem_singleton] at he
    rcases he with (he | rfl) | rfl
    ·exact hin e (by simp[he])
    ·exact hj
    ·exact hql
   ·simp only
    rw[Z1i,Z1i,hzb,←htxt,hre];rw[show decide (0 < (i:Int))=true from hz,show Z3q deb t.ns (j,i,w)=[] from by simp only[Z3q,h1,cond_false]]
    simp
   ·simp only
    rw[Z0J,Z0J];omega
   ·simp only
    rw[Z0J,Z0J];omega
  ·have hil:t.ns[j].kids.length≤i:=by simp at hk;omega
   have hre0:=Z70 (deb:=deb) hj (w:=w) hil
   have hre:Z6X deb t.ns (j,i,w)=Z0D t.ns[j]++(bif w then [41] else []):=by rw[hre0];simp only[Z3q,h1,cond_false,List.nil_append]
   have hbl:=Z34 t.ns[j];refine LoadOb.mk _ (Z0d (T:=91) (b:=b6) (cs:=t.ns[j].cells) (k:=0) (n:=9) (.head _) (Nat.le_of_ble_eq_true rfl)) ?_
   refine CallOb.mk [] (⟨b6,.cells t.ns[j].cells.toArray 91 (0,0)⟩::⟨gb,.cells cur.toArray 273 (0,0)⟩::x.M g) _ (.refl _) (Z4i hT2.c hT2.p hT2.s hdk2 hfs) ?_;rintro v I5 M5 - ⟨rfl,rfl,rfl⟩;refine CallOb.mk (x.M g) [⟨b6,.cells t.ns[j].cells.toArray 91 (0,0)⟩,⟨gb,.cells cur.toArray 273 (0,0)⟩] _ (List.perm_append_comm (l₁:=[_,_])) (Z0k g hxok _ (by show _+(Z0D t.ns[j]).length≤_;omega)) ?_
   rintro v I6 M6 - ⟨rfl,rfl,a,ha,hab,rfl⟩
   have hal2:a.bs.length≤2412 * t.ns.length+2410:=by
    rw[hab,List.length_append]
    show _+(Z0D t.ns[j]).length≤_
    omega
   refine LoadOb.mk [.bool w] (Z12 (b:=gb) (cs:=cur) (T:=273) (by simp[OS.blk]) at2) ?_;refine CondOb.mk (fun hw=>?_) (fun hw=>?_)
   ·subst hw
    refine CallOb.mk (a.M g) [⟨b6,.cells t.ns[j].cells.toArray 91 (0,0)⟩,⟨gb,.cells cur.toArray 273 (0,0)⟩] _ (by simp) (Z0g g ha 41 (by omega)) ?_;rintro v I8 M8 - ⟨rfl,rfl,c,hc,hcb,rfl⟩;refine ArithOb.mk (((n - 1:Nat)):Int) hn1 ?_
    refine SliceOb.mk 0 (n - 1) rfl rfl (Nat.zero_le _) (by show n - 1≤cp;omega) ?_;refine CondOb.mk (fun hz=>?_) (fun hz=>?_)
    ·have hz':0 < n - 1:=by simp at hz;omega
     refine⟨(g,c,⟨some gb,n - 1,cp,cur⟩,st0,_),hp _ ⟨hle,hc,⟨?_,(fun h=>by cases h),fun g3 _=>⟨hcl,by show n - 1≤cp;omega,hcm,?_⟩⟩,?_,fun e he=>hin e (by simp[he]),?_,?_⟩ ?_,.perm (M1:=[⟨b6,.cells t.ns[j].cells.toArray 91 (0,0)⟩]++(⟨gb,.cells cur.toArray 273 (0,0)⟩::c.M g)) (List.perm_append_comm (l₂:=[_,_])) (.sub (List.sublist_append_right _ _) .refl),aF3,.cons rfl .nil⟩
     ·exact hp0
     ·show cur.take ((n - 1) * 3)=_
      rw[hcur,←hp0];exact List.take_left' rfl
     ·intro h
      simp only at h;rw[h] at hsl;simp at hsl;omega
     ·simp only
      rw[hcb,hab,←htxt,hre];simp[Z0f]
     ·simp only
      omega
     ·simp only[muE]
      omega
    ·have hz':n - 1=0:=by simp at hz;omega
     have hst0:st0=[]:=List.eq_nil_of_length_eq_zero (by omega)
     have hfin:c.bs=Z0s deb t.ns t.root:=by
      rw[hcb,hab,←htxt,hre,hst0];simp[Z2q,Z0f]
     refine CallOb.mk (c.M g) [⟨b6,.cells t.ns[j].cells.toArray 91 (0,0)⟩,⟨gb,.cells cur.toArray 273 (0,0)⟩] _ (by simp) (Z0S g hc (by rw[hfin];omega)) ?_;rintro v I7 M7 - ⟨rfl,rfl,rfl⟩;refine⟨_,_,.sub (List.nil_sublist _) .refl,?_,hle,rfl⟩
     rw[hfin];rfl
   ·subst hw
    refine ArithOb.mk (((n - 1:Nat)):Int) hn1 ?_;refine SliceOb.mk 0 (n - 1) rfl rfl (Nat.zero_le _) (by show n - 1≤cp;omega) ?_;refine CondOb.mk (fun hz=>?_) (fun hz=>?_)
    ·have hz':0 < n - 1:=by simp at hz;omega
     refine⟨(g,a,⟨some gb,n - 1,cp,cur⟩,st0,_),hp _ ⟨hle,ha,⟨?_,(fun h=>by cases h),fun g3 _=>⟨hcl,by show n - 1≤cp;omega,hcm,?_⟩⟩,?_,fun e he=>hin e (by simp[he]),?_,?_⟩ ?_,.perm (M1:=[⟨b6,.cells t.ns[j].cells.toArray 91 (0,0)⟩]++(⟨gb,.cells cur.toArray 273 (0,0)⟩::a.M g)) (List.perm_append_comm (l₂:=[_,_])) (.sub (List.sublist_append_right _ _) .refl),aF3,.cons rfl .nil⟩
     ·exact hp0
     ·show cur.take ((n - 1) * 3)=_
      rw[hcur,←hp0];exact List.take_left' rfl
     ·intro h
      simp only at h;rw[h] at hsl;simp at hsl;omega
     ·simp only
      rw[hab,←htxt,hre];simp[Z0f]
     ·simp only
      omega
     ·simp only[muE]
      omega
    ·have hz':n - 1=0:=by simp at hz;omega
     have hst0:st0=[]:=List.eq_nil_of_length_eq_zero (by omega)
     have hfin:a.bs=Z0s deb t.ns t.root:=by
      rw[hab,←htxt,hre,hst0];simp[Z2q,Z0f]
     refine CallOb.mk (a.M g) [⟨b6,.cells t.ns[j].cells.toArray 91 (0,0)⟩,⟨gb,.cells cur.toArray 273 (0,0)⟩] _ (by simp) (Z0S g ha (by rw[hfin];omega)) ?_;rintro v I7 M7 - ⟨rfl,rfl,rfl⟩;refine⟨_,_,.sub (List.nil_sublist _) .refl,?_,hle,rfl⟩
     rw[hfin];rfl
theorem ZfZ {X:Ctx} {c:Code} {F:Fr} {C:Bx} {I:GH} {M:List Blk} {K:KX} {t1 t2 t3:Nat} {a b d:SV} {e:Option (List Value)} (h:∀ G GC,V X c (upd (upd (upd G t3 d) t2 b) t1 a) (Z57 GC t1 e) I M K)
  (h1:F t1=a) (h2:F t2=b) (h3:F t3=d) (h4:C t1=e):V X c F C I M K:=by
 have:=h F C
 rwa [Z3N h3,Z3N h2,Z3N h1,ZfX h4] at this
theorem Zg0 {I:GH} {deb:List Int} (hT:Tabs I deb) {t:Tr} (ht:t.ok I) (hn:t.n≤1024):Spec Tryz.prog 209 [t.val] I [] fun r I' M'=>r=.string (Z0f (Z1E deb t))∧(∀ b o,I b=some o->I' b=some o)∧M'=[]:=by
 refine Z01 [3] Z00 Tryz.func209 rfl rfl rfl ?_;intro B h0;have hnl:=ht.n
 cases hr:right t with
 | true=>
  have htb:Z1E deb t=Z0s deb t.ns t.root:=by simp[Z1E,hr]
  rw[htb];have hroot:=Z0Q hr
  obtain⟨r,hr0⟩:=Int.eq_ofNat_of_zero_le hroot.1
  have hrl:r < t.ns.length:=by omega
  obtain⟨ns,ta,tn,tc,root⟩:=t;simp only at hr0;subst hr0;have hr0:(⟨ns,ta,tn,tc,Int.ofNat r⟩:Tr).root=Int.ofNat r:=rfl;refine CodeOb.scope Z00 rfl (fun y:Nat×ZfY=>Zk0 ⟨ns,ta,tn,tc,Int.ofNat r⟩ y.1 y.2) (fun _=>0) (fun y=>TreeInv I deb ⟨ns,ta,tn,tc,Int.ofNat r⟩ y.2) (fun y=>Z89 ns y.2.2.2.1) (fun _=>Z9j (Z5i (Tryz.f209.body.getD .skip)) 0) (fun _ _=>⟨by kernel_rfl,by kernel_rfl⟩) ?_ ?_
  ·refine CallOb.mk [] [] _ (.refl _) (Z1l hT.c ht) ?_
   rintro v I' M' - ⟨rfl,rfl,rfl⟩;rw[hr]
   refine CondOb.mk (fun h=>by cases h) (fun _=>?_)
   refine AllocOb.mk fun g hg hgM=>?_
   refine AllocOb.mk fun g4 hg4 hgM4=>?_
   refine ZfZ (t1:=1) (t2:=3) (t3:=4) (fun G GC=>Zaj hT ht hr hn (p:=fun l y=>TreeInv _ deb ⟨ns,ta,tn,tc,Int.ofNat r⟩ y.2∧0=l) (g:=g) (Bd.new,⟨some g4,1,1,Z35 (r,0,false)⟩,[(r,0,false)],I') ?_ (fun y hy _=>⟨hy,rfl⟩) B h0 G GC) rfl rfl rfl rfl;refine⟨fun _ _ h=>h,Bd.new_ok,⟨rfl,(fun h=>by cases h),fun g3 _=>⟨rfl,Nat.le_refl _,by simp only[maxLen];omega,rfl⟩⟩,by simp,?_,?_,?_⟩
   ·intro e he
    simp only[List.mem_singleton] at he;subst he;exact hrl
   ·simp only[Z2q,List.reverse_singleton,List.flatMap_cons,List.flatMap_nil,List.append_nil]
    have h9:=Zai (deb:=deb) hr hrl false;simp only at h9 ⊢;rw[h9]
    simp[Bd.new,Z3g]
   ·have h1:=ZfW hr hrl false
    have h2:=ZkZ hr;simp only[Int.ofNat_eq_natCast] at h1 h2;simp only[Z89,List.map_cons,List.map_nil,List.sum_cons,List.sum_nil];omega
  ·rintro⟨g,x⟩ hx
   refine ZfZ (t1:=1) (t2:=3) (t3:=4) (fun G GC=>Zaj hT ht hr hn (g:=g) x hx (fun y hy hlt=>⟨⟨hy,rfl⟩,hlt⟩) B h0 G GC) rfl rfl rfl rfl
 | false=>
  have htb:Z1E deb t=[]:=by simp[Z1E,hr]
  rw[htb];refine CodeOb.scope Z00 rfl (ι:=Empty) (fun e=>nomatch e) (fun e=>nomatch e) (fun e=>nomatch e) (fun e=>nomatch e) (fun _=>.skip) (fun e=>nomatch e) ?_ (fun e=>nomatch e)
  refine CallOb.mk [] [] _ (.refl _) (Z1l hT.c ht) ?_;rintro v I' M' - ⟨rfl,rfl,rfl⟩;rw[hr]
  refine CondOb.mk (fun _=>?_) (fun h=>by cases h);exact⟨_,_,.refl,rfl,fun _ _ h=>h,rfl⟩
def Df.val (d:Df):Value:=.agg #[.string d.name,.slice d.t.a d.t.n d.t.c,.int .i64 d.t.root]
def Z8a (deb:List Int) (d:Df):List UInt8:=
 bif decide (Z0f (Z1E deb d.t)=⟨#[]⟩) || !Z0u d.name then [] else d.name.data.toList++[32,60,45,32]++Z1E deb d.t++[10]
theorem Z4j {s:ByteArray} (h:Z0u s=true):s.size≤32:=by
 unfold Z0u at h;simp only[Bool.and_eq_true,decide_eq_true_eq] at h;omega
theorem Z9k (deb:List Int) (d:Df):(Z8a deb d).length≤37+2412 * d.t.ns.length:=by
 have h1:=Z4G deb d.t;unfold Z8a
 cases hc:(decide (Z0f (Z1E deb d.t)=⟨#[]⟩) || !Z0u d.name) with
 | true=>simp
 | false=>
  simp only[Bool.or_eq_false_iff,Bool.not_eq_false'] at hc;have h2:=Z4j hc.2;have h3:d.name.data.toList.length=d.name.size:=rfl;simp only[cond_false,List.length_append,List.length_cons,List.length_nil];omega
theorem ZiP {I:GH} {deb:List Int} (hT:Tabs I deb) {d:Df} (hd:d.ok I) (hn:d.t.n≤1024):Spec Tryz.prog 183 [d.val] I [] fun r I' M'=>r=.string (Z0f (Z8a deb d))∧(∀ b o,I b=some o->I' b=some o)∧M'=[]:=by
 refine Z01 [] Z00 Tryz.func183 rfl rfl rfl ?_;intro B h0;refine CallOb.mk [] [] _ (.refl _) (Zg0 hT hd.t hn) ?_;rintro v I1 M1 - ⟨rfl,hI1,rfl⟩;refine GuardOb.mk (fun h1=>?_) (fun h1=>?_)
 ·refine CallOb.mk [] [] _ (.refl _) (Z6O _ d.name) ?_
  rintro v I' M' - ⟨rfl,rfl,rfl⟩;refine CondOb.mk (fun h2=>?_) (fun h2=>?_)
  ·refine⟨_,_,.refl,?_,hI1,rfl⟩
   have:Z8a deb d=[]:=by
    unfold Z8a;rw[h1,h2];rfl
   rw[this];rfl
  ·have hm:Z0u d.name=true:=by simpa using h2
   have h2:=Z4j hm;have h3:d.name.data.toList.length=d.name.size:=rfl;have h4:=Z4G deb d.t;have h5:=hd.t.n;refine BinOb.concat (a:=d.name) (b:=Z0f [32,60,45,32]) (by show _+4≤_;omega) ?_;refine BinOb.concat (a:=d.name++Z0f [32,60,45,32]) (b:=Z0f (Z1E deb d.t)) (by rw[ByteArray.size_append];show _+4+(Z1E deb d.t).length≤_;omega) ?_;refine BinOb.concat (a:=d.name++Z0f [32,60,45,32]++Z0f (Z1E deb d.t)) (b:=Z0f [10]) (by rw[ByteArray.size_append,ByteArray.size_append];show _+4+(Z1E deb d.t).length+1≤_;omega) ?_;refine⟨_,_,.refl,?_,hI1,rfl⟩;refine congrArg Value.string (Z2B ?_)
   rw[Z8a,h1,hm];simp[Z0f]
 ·refine⟨_,_,.refl,?_,hI1,rfl⟩
  have:Z8a deb d=[]:=by
   unfold Z8a;rw[h1];rfl
  rw[this];rfl
def Z1F (deb:List Int):List Df->List UInt8->List UInt8
 | [],acc=>acc
 | d::ds,acc=>bif decide (Z0f (Z8a deb d)=⟨#[]⟩) then [] else Z1F deb ds (acc++Z8a deb d)
theorem Zak (deb:List Int):∀ (ds:List Df) (acc:List UInt8) (m:Nat),(∀ d∈ds,d.t.ns.length≤1024)->acc.length≤m->(Z1F deb ds acc).length≤m+2500000 * ds.length
 | [],acc,m,_,h=>by simpa[Z1F] using h
 | d::ds,acc,m,hd,h=>by
  have h1:=Z9k deb d;have h2:=hd d (by simp);have h3:=Zak deb ds (acc++Z8a deb d) (m+2500000) (fun x hx=>hd x (by simp[hx])) (by rw[List.length_append];omega)
  unfold Z1F;cases decide (Z0f (Z8a deb d)=⟨#[]⟩)
  ·simp only[cond_false,List.length_cons]
   omega
  ·simp
theorem Zal {I:GH} {deb:List Int} (hT:Tabs I deb) {g:Gr} (hg:g.ok I) (hn:g.n≤64) (ht:∀ d∈g.ds,d.t.n≤1024):Spec Tryz.prog 153 [g.val] I [] fun r I' M'=>r=.string (Z0f (Z1F deb g.ds []))∧(∀ b o,I b=some o->I' b=some o)∧M'=[]:=by
 refine Z01 [3] Z00 Tryz.func153 rfl rfl rfl ?_;intro B h0;have hgn:=hg.n
 have htl:∀ d∈g.ds,d.t.ns.length≤1024:=fun d hd=>by rw[(hg.ds d hd).t.n];exact ht d hd
 refine AllocOb.mk fun b hb hbM=>?_
 refine LoopOb.inv (ι:=Nat×Bd×GH) (fun p=>{ fl:=[(3,.val (ptr b)),(8,.val (.slice g.a g.n g.c)),(9,.val (.int .i64 g.n)),(10,.val (.int .i64 p.1))],gi:=p.2.2,mi:=p.2.1.M b })
  (fun p=>p.1≤g.n∧p.2.1.ok∧(∀ b o,I b=some o->p.2.2 b=some o)∧p.2.1.bs.length≤2500000 * p.1∧Z1F deb g.ds []=Z1F deb (g.ds.drop p.1) p.2.1.bs) (fun p=>g.n - p.1) ?_ ?_
 ·exact⟨(0,Bd.new,I),⟨by simp,Bd.new_ok,fun _ _ h=>h,by simp[Bd.new],rfl⟩,.refl,aF4,.nil⟩
 ·rintro⟨i,x,I1⟩ ⟨hi,hx,hI1,hxl,hxb⟩
  simp only at hi hx hI1 hxl hxb;refine CondOb.mk (fun h=>?_) (fun h=>?_)
  ·have hlt:i < g.n:=by simpa using h
   have hlt':i < g.ds.length:=by omega
   have hg1:=hg.mono hI1;obtain⟨ad,had,hrd⟩:=hg1.rs.row Df.cells_len hlt hlt';have hdm:g.ds[i]∈g.ds:=List.getElem_mem hlt';have hdl:=Z9k deb g.ds[i];have h9:=htl _ hdm
   have hdrop:g.ds.drop i=g.ds[i]::g.ds.drop (i+1):=List.drop_eq_getElem_cons hlt';refine IdxOb.mk ad i had rfl hlt ?_;refine LoadOb.mk _ (hrd _) ?_;refine CallOb.mk [] (x.M b) _ (.refl _) (ZiP (hT.mono hI1) (hg1.ds _ hdm) (ht _ hdm)) ?_;rintro v I2 M2 - ⟨rfl,hI2,rfl⟩;refine CondOb.mk (fun h1=>?_) (fun h1=>?_)
   ·refine⟨_,_,.sub (List.nil_sublist _) .refl,?_,fun b o h=>hI2 _ _ (hI1 _ _ h),rfl⟩
    rw[hxb,hdrop,Z1F,h1];rfl
   ·refine CallOb.mk (x.M b) [] _ (by simp) (Z0k b hx _ (by show _+(Z8a deb g.ds[i]).length≤_;omega)) ?_
    rintro v I' M' - ⟨rfl,rfl,y,hy,hyb,rfl⟩;have hyb':y.bs=x.bs++Z8a deb g.ds[i]:=hyb
    have hwr:IntKind.i64.wrap ((i:Int)+1)=((i+1:Nat):Int):=by
     rw[Z08 ⟨by omega,by omega⟩];omega
    refine ArithOb.mk _ hwr ?_;refine⟨(i+1,y,_),⟨⟨by simp only;omega,hy,fun b o h=>hI2 _ _ (hI1 _ _ h),?_,?_⟩,by simp only;omega⟩,.perm (by simp) .refl,aF4,.nil⟩
    ·simp only
     rw[hyb',List.length_append];omega
    ·simp only
     rw[hxb,hdrop,Z1F,h1,hyb'];rfl
  ·have hge:g.n≤i:=by simpa using h
   have hdn:g.ds.drop i=[]:=List.drop_eq_nil_of_le (by omega);refine CallOb.mk (x.M b) [] _ (by simp) (Z0S b hx (by omega)) ?_
   rintro v I' M' - ⟨rfl,rfl,rfl⟩;refine⟨_,_,.refl,?_,hI1,by simp⟩
   rw[hxb,hdn];rfl
theorem Zes {I:GH} {deb:List Int} (hT:Tabs I deb) {g:Gr} (hg:g.ok I) (hn:g.n≤64) (ht:∀ d∈g.ds,d.t.n≤1024):Spec Tryz.prog 116 [g.val] I [] fun r I' M'=>r=.int .i64 ((Z1F deb g.ds []).length:Int)∧(∀ b o,I b=some o->I' b=some o)∧M'=[]:=by
 refine Z01 [] Z00 Tryz.func116 rfl rfl rfl ?_;intro B h0;refine CallOb.mk [] [] _ (.refl _) (Zal hT hg hn ht) ?_;rintro v I' M' - ⟨rfl,hI,rfl⟩;exact⟨_,_,.refl,rfl,hI,rfl⟩
def Z0y (ns:List Nd) (kind:Int):List Int->Bool
 | []=>true
 | k::ks=>bif decide (Z0m ns k=kind) || (decide (Z0m ns k=0) && decide (kind=4)) then false else Z0y ns kind ks
def Z0l (ns:List Nd):List Nd->Bool
 | []=>true
 | d::ds=>bif !decide (d.k=4) && !decide (d.k=5) then Z0l ns ds else bif Z0y ns d.k d.kids then Z0l ns ds else false
def normal (t:Tr):Bool:=right t && Z0l t.ns t.ns
theorem Z03 {i:Nat} (h:i≤140737488355328):IntKind.i64.wrap ((i:Int)+1)=((i+1:Nat):Int):=by
 rw[Z08 ⟨by omega,by omega⟩];omega
set_option maxHeartbeats 1000000 in
theorem ZbX {I:GH} (hc:HasCounts I) {t:Tr} (ht:t.ok I):Spec Tryz.prog 68 [t.val] I [] (fun v I' M'=>v=.bool (normal t)∧I'=I∧M'=[]):=by
 refine Z01 [] Z00 Tryz.func68 rfl rfl rfl ?_;intro B h0;have hn:=ht.n;have hcap:=ht.rs.cap;refine CallOb.mk [] [] _ (.refl _) (Z1l hc ht) ?_;rintro v I' M' - ⟨rfl,rfl,rfl⟩;refine CondOb.mk (fun h=>?_) (fun h=>?_)
 ·refine⟨_,_,.refl,?_,rfl,rfl⟩
  simp[normal,show right t=false by simpa using h]
 ·have hr:right t=true:=by simpa using h
  have hno:normal t=Z0l t.ns t.ns:=by simp[normal,hr]
  rw[hno]
  refine LoopOb.inv (ι:=Nat) (fun i=>{ fl:=[(1,.ref 1 0),(12,.val (.slice t.a t.n t.c)),(13,.val (.int .i64 t.n)),(14,.val (.int .i64 i))],cl:=[(1,t.cells)],gi:=I' })
   (fun i=>i≤t.n∧Z0l t.ns t.ns=Z0l t.ns (t.ns.drop i)) (fun i=>t.n - i) ?_ ?_
  ·exact⟨0,⟨by simp,rfl⟩,.refl,aF4,.cons rfl .nil⟩
  ·rintro i ⟨hi,hin⟩
   refine CondOb.mk (fun h=>?_) (fun h=>?_)
   ·have hlt:i < t.n:=by simpa using h
    have hlt':i < t.ns.length:=by omega
    obtain⟨ad,had,hrd⟩:=ht.rs.row Nd.cells_len hlt hlt';have hdk:=ht.ns t.ns[i] (List.getElem_mem hlt');have hkn:=hdk.kn
    have hdrop:t.ns.drop i=t.ns[i]::t.ns.drop (i+1):=List.drop_eq_getElem_cons hlt';refine IdxOb.mk ad i had rfl hlt ?_;refine LoadOb.mk _ (hrd _) ?_;refine GuardOb.mk (fun k1=>?_) (fun k1=>?_)
    ·refine CondOb.mk (fun k2=>?_) (fun k2=>?_)
     ·refine ArithOb.mk _ (Z03 (i:=i) (by omega)) ?_
      refine⟨i+1,⟨⟨by omega,?_⟩,by omega⟩,.refl,aF4,.cons rfl .nil⟩;rw[hin,hdrop,Z0l,k1,k2]
      rfl
     ·have hstep:Z0l t.ns t.ns=bif Z0y t.ns t.ns[i].k t.ns[i].kids then Z0l t.ns (t.ns.drop (i+1)) else false:=by
       rw[hin,hdrop,Z0l,k1,k2];rfl
      refine LoopOb.inv (ι:=Nat)
       (fun j=>{ fl:=[(1,.ref 1 0),(4,.ref 4 0),(12,.val (.slice t.a t.n t.c)),(13,.val (.int .i64 t.n)),(14,.val (.int .i64 i)),(27,.val (.slice t.ns[i].ka t.ns[i].kn t.ns[i].kc)),(28,.val (.int .i64 t.ns[i].kn)),(29,.val (.int .i64 j))],cl:=[(1,t.cells),(4,t.ns[i].cells)],gi:=I' })
       (fun j=>j≤t.ns[i].kn∧Z0y t.ns t.ns[i].k t.ns[i].kids=Z0y t.ns t.ns[i].k (t.ns[i].kids.drop j)) (fun j=>t.ns[i].kn - j) ?_ ?_
      ·exact⟨0,⟨by simp,rfl⟩,.refl,aF8,.cons rfl (.cons rfl .nil)⟩
      ·rintro j ⟨hj,hjn⟩
       refine CondOb.mk (fun h=>?_) (fun h=>?_)
       ·have hjl:j < t.ns[i].kn:=by simpa using h
        have hjl':j < t.ns[i].kids.length:=by omega
        obtain⟨ak,hak,hrk⟩:=hdk.rs.one hjl hjl';have hkd:t.ns[i].kids.drop j=t.ns[i].kids[j]::t.ns[i].kids.drop (j+1):=List.drop_eq_getElem_cons hjl';have hkk:=Z0j hr i hlt' _ (List.getElem_mem hjl');generalize hkv:t.ns[i].kids[j]=kv at *
        obtain⟨q,rfl⟩:=Int.eq_ofNat_of_zero_le hkk.1
        have hql:q < t.ns.length:=by omega
        have hql':q < t.n:=by omega
        obtain⟨aq,haq,hrq0⟩:=ht.rs.row Nd.cells_len hql' hql
        have hrq:∀ M,Rd I' M ((aq.add (q * 9)).add 0) 1 [.int .u8 t.ns[q].k]:=fun M=>(hrq0 M).part (k:=0) (m:=1) (by decide)
        have hkat:Z0m t.ns ((q:Nat):Int)=t.ns[q].k:=by simp[Z0m,List.getD_eq_getElem?_getD,hql]
        have bad:(decide (t.ns[q].k=t.ns[i].k) || (decide (t.ns[q].k=0) && decide (t.ns[i].k=4)))=true->Z0l t.ns t.ns=false:=fun hb=>by
         rw[hstep,hjn,hkd,Z0y,hkat,hb];rfl
        have good:(decide (t.ns[q].k=t.ns[i].k) || (decide (t.ns[q].k=0) && decide (t.ns[i].k=4)))=false->Z0y t.ns t.ns[i].k t.ns[i].kids=Z0y t.ns t.ns[i].k (t.ns[i].kids.drop (j+1)):=fun hb=>by
         rw[hjn,hkd,Z0y,hkat,hb];rfl
        have hwr:=Z03 (i:=j) (by have:=hdk.rs.cap;omega);refine IdxOb.mk ak j hak rfl hjl ?_
        refine LoadOb.mk _ (hrk _) ?_;refine IdxOb.mk aq q haq rfl hql' ?_;refine LoadOb.mk _ (hrq _) ?_;refine GuardOb.mk (fun c1=>?_) (fun c1=>?_)
        ·refine GuardOb.mk (fun c2=>?_) (fun c2=>?_)
         ·refine CondOb.mk (fun c3=>?_) (fun c3=>?_)
          ·refine⟨_,_,.refl,?_,rfl,rfl⟩
           rw[bad (by rw[c1,c2,c3];rfl)]
          ·refine ArithOb.mk _ hwr ?_
           exact⟨j+1,⟨⟨by omega,good (by rw[c1,c2,c3];rfl)⟩,by omega⟩,.refl,aF8,.cons rfl (.cons rfl .nil)⟩
         ·refine ArithOb.mk _ hwr ?_
          exact⟨j+1,⟨⟨by omega,good (by rw[c1,c2];rfl)⟩,by omega⟩,.refl,aF8,.cons rfl (.cons rfl .nil)⟩
        ·refine⟨_,_,.refl,?_,rfl,rfl⟩
         rw[bad (by rw[c1];rfl)]
       ·have hje:t.ns[i].kids.drop j=[]:=List.drop_eq_nil_of_le (by simp at h;omega)
        refine ArithOb.mk _ (Z03 (i:=i) (by omega)) ?_;refine⟨i+1,⟨⟨by omega,?_⟩,by omega⟩,.refl,aF4,.cons rfl .nil⟩;rw[hstep,hjn,hje]
        rfl
    ·have hstep:Z0l t.ns t.ns=bif Z0y t.ns t.ns[i].k t.ns[i].kids then Z0l t.ns (t.ns.drop (i+1)) else false:=by
      rw[hin,hdrop,Z0l,k1];rfl
     refine LoopOb.inv (ι:=Nat)
      (fun j=>{ fl:=[(1,.ref 1 0),(4,.ref 4 0),(12,.val (.slice t.a t.n t.c)),(13,.val (.int .i64 t.n)),(14,.val (.int .i64 i)),(27,.val (.slice t.ns[i].ka t.ns[i].kn t.ns[i].kc)),(28,.val (.int .i64 t.ns[i].kn)),(29,.val (.int .i64 j))],cl:=[(1,t.cells),(4,t.ns[i].cells)],gi:=I' })
      (fun j=>j≤t.ns[i].kn∧Z0y t.ns t.ns[i].k t.ns[i].kids=Z0y t.ns t.ns[i].k (t.ns[i].kids.drop j)) (fun j=>t.ns[i].kn - j) ?_ ?_
     ·exact⟨0,⟨by simp,rfl⟩,.refl,aF8,.cons rfl (.cons rfl .nil)⟩
     ·rintro j ⟨hj,hjn⟩
      refine CondOb.mk (fun h=>?_) (fun h=>?_)
      ·have hjl:j < t.ns[i].kn:=by simpa using h
       have hjl':j < t.ns[i].kids.length:=by omega
       obtain⟨ak,hak,hrk⟩:=hdk.rs.one hjl hjl';have hkd:t.ns[i].kids.drop j=t.ns[i].kids[j]::t.ns[i].kids.drop (j+1):=List.drop_eq_getElem_cons hjl';have hkk:=Z0j hr i hlt' _ (List.getElem_mem hjl');generalize hkv:t.ns[i].kids[j]=kv at *
       obtain⟨q,rfl⟩:=Int.eq_ofNat_of_zero_le hkk.1
       have hql:q < t.ns.length:=by omega
       have hql':q < t.n:=by omega
       obtain⟨aq,haq,hrq0⟩:=ht.rs.row Nd.cells_len hql' hql
       have hrq:∀ M,Rd I' M ((aq.add (q * 9)).add 0) 1 [.int .u8 t.ns[q].k]:=fun M=>(hrq0 M).part (k:=0) (m:=1) (by decide)
       have hkat:Z0m t.ns ((q:Nat):Int)=t.ns[q].k:=by simp[Z0m,List.getD_eq_getElem?_getD,hql]
       have bad:(decide (t.ns[q].k=t.ns[i].k) || (decide (t.ns[q].k=0) && decide (t.ns[i].k=4)))=true->Z0l t.ns t.ns=false:=fun hb=>by
        rw[hstep,hjn,hkd,Z0y,hkat,hb];rfl
       have good:(decide (t.ns[q].k=t.ns[i].k) || (decide (t.ns[q].k=0) && decide (t.ns[i].k=4)))=false->Z0y t.ns t.ns[i].k t.ns[i].kids=Z0y t.ns t.ns[i].k (t.ns[i].kids.drop (j+1)):=fun hb=>by
        rw[hjn,hkd,Z0y,hkat,hb];rfl
       have hwr:=Z03 (i:=j) (by have:=hdk.rs.cap;omega);refine IdxOb.mk ak j hak rfl hjl ?_
       refine LoadOb.mk _ (hrk _) ?_;refine IdxOb.mk aq q haq rfl hql' ?_;refine LoadOb.mk _ (hrq _) ?_;refine GuardOb.mk (fun c1=>?_) (fun c1=>?_)
       ·refine GuardOb.mk (fun c2=>?_) (fun c2=>?_)
        ·refine CondOb.mk (fun c3=>?_) (fun c3=>?_)
         ·refine⟨_,_,.refl,?_,rfl,rfl⟩
          rw[bad (by rw[c1,c2,c3];rfl)]
         ·refine ArithOb.mk _ hwr ?_
          exact⟨j+1,⟨⟨by omega,good (by rw[c1,c2,c3];rfl)⟩,by omega⟩,.refl,aF8,.cons rfl (.cons rfl .nil)⟩
        ·refine ArithOb.mk _ hwr ?_
         exact⟨j+1,⟨⟨by omega,good (by rw[c1,c2];rfl)⟩,by omega⟩,.refl,aF8,.cons rfl (.cons rfl .nil)⟩
       ·refine⟨_,_,.refl,?_,rfl,rfl⟩
        rw[bad (by rw[c1];rfl)]
      ·have hje:t.ns[i].kids.drop j=[]:=List.drop_eq_nil_of_le (by simp at h;omega)
       refine ArithOb.mk _ (Z03 (i:=i) (by omega)) ?_;refine⟨i+1,⟨⟨by omega,?_⟩,by omega⟩,.refl,aF4,.cons rfl .nil⟩;rw[hstep,hjn,hje]
       rfl
   ·have hge:t.n≤i:=by simpa using h
    have hdn:t.ns.drop i=[]:=List.drop_eq_nil_of_le (by omega);refine⟨_,_,.refl,?_,rfl,rfl⟩
    rw[hin,hdn];rfl
def Z2M (t:Tr):Nat:=bif right t then t.n else 0
def Z2r (g:Gr):Nat:=(g.ds.map fun d=>Z2M d.t).sum
theorem Z71 {α:Type} (f:α->Nat) (m:Nat):∀ (l:List α),(∀ x∈l,f x≤m)->(l.map f).sum≤m * l.length
 | [],_=>by simp
 | x::l,h=>by
  have h1:=h x (by simp)
  have h2:=Z71 f m l fun y hy=>h y (by simp[hy])
  simp only[List.map_cons,List.sum_cons,List.length_cons,Nat.mul_add];omega
theorem ZbY {I:GH} (hc:HasCounts I) {g:Gr} (hg:g.ok I) (hn:g.n≤64) (ht:∀ d∈g.ds,d.t.n≤1024):Spec Tryz.prog 115 [g.val] I [] (fun v I' M'=>v=.int .i64 (Z2r g:Nat)∧I'=I∧M'=[]):=by
 refine Z01 [] Z00 Tryz.func115 rfl rfl rfl ?_;intro B h0;have hgn:=hg.n
 refine LoopOb.inv (ι:=Nat) (fun i=>{ fl:=[(3,.val (.int .i64 (((g.ds.take i).map fun d=>Z2M d.t).sum:Nat))),(7,.val (.slice g.a g.n g.c)),(8,.val (.int .i64 g.n)),(9,.val (.int .i64 i))],gi:=I })
  (fun i=>i≤g.n) (fun i=>g.n - i) ?_ ?_
 ·exact⟨0,by simp,.refl,aF4,.nil⟩
 ·intro i hi
  refine CondOb.mk (fun h=>?_) (fun h=>?_)
  ·have hlt:i < g.n:=by simpa using h
   have hlt':i < g.ds.length:=by omega
   obtain⟨ad,had,hrd⟩:=hg.rs.row Df.cells_len hlt hlt';have hdm:g.ds[i]∈g.ds:=List.getElem_mem hlt'
   have hs:((g.ds.take i).map fun d=>Z2M d.t).sum≤1024 * (g.ds.take i).length:=Z71 _ 1024 _ fun d hd=>by
    have:=ht d (List.mem_of_mem_take hd);unfold Z2M
    cases right d.t<;>simp
    omega
   have hl:=List.length_take_le i g.ds
   have hs1:Z2M g.ds[i].t≤1024:=by
    have:=ht _ hdm;unfold Z2M
    cases right g.ds[i].t<;>simp
    omega
   refine IdxOb.mk ad i had rfl hlt ?_;refine LoadOb.mk _ (hrd _) ?_;refine CallOb.mk [] [] _ (.refl _) (ZfK hc (hg.ds _ hdm).t) ?_;rintro v I' M' - ⟨rfl,rfl,rfl⟩
   have e1:(bif right g.ds[i].t then (g.ds[i].t.n:Int) else 0)=(Z2M g.ds[i].t:Nat):=by
    unfold Z2M
    cases right g.ds[i].t<;>rfl
   rw[e1];refine ArithOb.mk ((((g.ds.take (i+1)).map fun d=>Z2M d.t).sum:Nat):Int) ?_ ?_
   ·rw[Z08 ⟨by omega,by omega⟩,List.take_succ_eq_append_getElem hlt',List.map_append,List.sum_append]
    simp
   refine ArithOb.mk _ (Z03 (i:=i) (by omega)) ?_;exact⟨i+1,⟨by omega,by omega⟩,.refl,aF4,.nil⟩
  ·have hge:g.n≤i:=by simpa using h
   refine⟨_,_,.refl,?_,rfl,rfl⟩;rw[List.take_of_length_le (by omega)]
   rfl
def Z0Y (deb:List Int) (g:Gr):Bool:=
 decide (64 < g.n) || ((!g.ds.all fun d=>Z0o d.t) || (decide (1024 < Z2r g) || decide (8192 < (Z1F deb g.ds []).length)))
theorem Zet {I:GH} {deb:List Int} (hT:Tabs I deb) {g:Gr} (hg:g.ok I):Spec Tryz.prog 69 [g.val] I [] (fun v I' M'=>v=.bool (Z0Y deb g)∧(∀ b o,I b=some o->I' b=some o)∧M'=[]):=by
 refine Z01 [] Z00 Tryz.func69 rfl rfl rfl ?_;intro B h0;have hgn:=hg.n;refine CondOb.mk (fun h1=>?_) (fun h1=>?_)
 ·refine⟨_,_,.refl,?_,fun _ _ h=>h,rfl⟩
  have:64 < g.n:=by simp at h1;omega
  simp[Z0Y,this]
 ·have hn:g.n≤64:=by simp at h1;omega
  have e0:Z0Y deb g=((!g.ds.all fun d=>Z0o d.t) || (decide (1024 < Z2r g) || decide (8192 < (Z1F deb g.ds []).length))):=by
   have:¬ 64 < g.n:=by omega
   simp[Z0Y,this]
  rw[e0]
  refine LoopOb.inv (ι:=Nat) (fun i=>{ fl:=[(1,.ref 1 0),(10,.val (.slice g.a g.n g.c)),(11,.val (.int .i64 g.n)),(12,.val (.int .i64 i))],cl:=[(1,[.slice g.a g.n g.c])],gi:=I })
   (fun i=>i≤g.n∧(g.ds.take i).all (fun d=>Z0o d.t)=true) (fun i=>g.n - i) ?_ ?_
  ·exact⟨0,⟨by simp,rfl⟩,.refl,aF4,.cons rfl .nil⟩
  ·rintro i ⟨hi,hall⟩
   refine CondOb.mk (fun h=>?_) (fun h=>?_)
   ·have hlt:i < g.n:=by simpa using h
    have hlt':i < g.ds.length:=by omega
    obtain⟨ad,had,hrd⟩:=hg.rs.row Df.cells_len hlt hlt';have hdm:g.ds[i]∈g.ds:=List.getElem_mem hlt';refine IdxOb.mk ad i had rfl hlt ?_;refine LoadOb.mk _ (hrd _) ?_;refine CallOb.mk [] [] _ (.refl _) (ZfL hT.c (hg.ds _ hdm).t) ?_;rintro v I' M' - ⟨rfl,rfl,rfl⟩;refine CondOb.mk (fun h2=>?_) (fun h2=>?_)
    ·refine⟨_,_,.refl,?_,fun _ _ h=>h,rfl⟩
     have hf:Z0o g.ds[i].t=false:=by simpa using h2
     have:(g.ds.all fun d=>Z0o d.t)=false:=by
      rw[List.all_eq_false];exact⟨_,hdm,by simp[hf]⟩
     rw[this];rfl
    ·have hf:Z0o g.ds[i].t=true:=by simpa using h2
     refine ArithOb.mk _ (Z03 (i:=i) (by omega)) ?_;refine⟨i+1,⟨⟨by omega,?_⟩,by omega⟩,.refl,aF4,.cons rfl .nil⟩;rw[List.take_succ_eq_append_getElem hlt',List.all_append,hall]
     simp[hf]
   ·have hge:g.n≤i:=by simpa using h
    rw[List.take_of_length_le (by omega)] at hall;rw[hall]
    have hnt:∀ d∈g.ds,d.t.n≤1024:=fun d hd=>by
     have:=List.all_eq_true.1 hall d hd;unfold Z0o at this;simp only[Bool.and_eq_true,decide_eq_true_eq] at this;exact this.1
    refine CallOb.mk [] [] _ (.refl _) (ZbY hT.c hg hn hnt) ?_;rintro v I' M' - ⟨rfl,rfl,rfl⟩;refine GuardOb.mk (fun h2=>?_) (fun h2=>?_)
    ·refine CallOb.mk [] [] _ (.refl _) (Zes hT hg hn hnt) ?_
     rintro v I2 M' - ⟨rfl,hI2,rfl⟩;refine⟨_,_,.refl,?_,hI2,rfl⟩
     have h2':¬ 1024 < Z2r g:=by simp at h2;omega
     simp[h2'];omega
    ·refine⟨_,_,.refl,?_,fun _ _ h=>h,rfl⟩
     have h2':1024 < Z2r g:=by simp at h2;omega
     simp[h2']
def Z09 (name:ByteArray):List Df->Nat->Int
 | [],_=>-1
 | d::ds,i=>bif decide (d.name=name) then (i:Int) else Z09 name ds (i+1)
theorem Zam {I:GH} {g:Gr} (hg:g.ok I) (name:ByteArray):Spec Tryz.prog 49 [g.val,.string name] I [] (fun v I' M'=>v=.int .i64 (Z09 name g.ds 0)∧I'=I∧M'=[]):=by
 refine Z01 [] Z00 Tryz.func49 rfl rfl rfl ?_;intro B h0;have hgn:=hg.n;have hcap:=hg.rs.cap
 refine LoopOb.inv (ι:=Nat) (fun i=>{ fl:=[(1,.val (.string name)),(8,.val (.slice g.a g.n g.c)),(9,.val (.int .i64 g.n)),(10,.val (.int .i64 i))],gi:=I })
  (fun i=>i≤g.n∧Z09 name g.ds 0=Z09 name (g.ds.drop i) i) (fun i=>g.n - i) ?_ ?_
 ·exact⟨0,⟨by simp,rfl⟩,.refl,aF4,.nil⟩
 ·rintro i ⟨hi,hf⟩
  refine CondOb.mk (fun h=>?_) (fun h=>?_)
  ·have hlt:i < g.n:=by simpa using h
   have hlt':i < g.ds.length:=by omega
   obtain⟨ad,had,hrd⟩:=hg.rs.row Df.cells_len hlt hlt';have hdrop:g.ds.drop i=g.ds[i]::g.ds.drop (i+1):=List.drop_eq_getElem_cons hlt';refine IdxOb.mk ad i had rfl hlt ?_;refine LoadOb.mk _ (hrd _) ?_;refine CondOb.mk (fun h2=>?_) (fun h2=>?_)
   ·refine⟨_,_,.refl,?_,rfl,rfl⟩
    rw[hf,hdrop,Z09,h2];rfl
   ·refine ArithOb.mk _ (Z03 (i:=i) (by omega)) ?_
    refine⟨i+1,⟨⟨by omega,?_⟩,by omega⟩,.refl,aF4,.nil⟩;rw[hf,hdrop,Z09,h2]
    rfl
  ·have hge:g.n≤i:=by simpa using h
   refine⟨_,_,.refl,?_,rfl,rfl⟩;rw[hf,List.drop_eq_nil_of_le (by omega)]
   rfl
theorem Zan {α:Type} {L:List α} {k:Nat} {x:α} {rest:List α} (h:L.drop k=x::rest):∃ hk:k < L.length,L[k]=x∧L.drop (k+1)=rest:=by
 have hk:k < L.length:=by
  apply Nat.lt_of_not_le
  intro hle;rw[List.drop_eq_nil_of_le hle] at h;cases h
 have hd:=List.drop_eq_getElem_cons hk;rw[h] at hd;obtain⟨h1,h2⟩:=List.cons.inj hd;exact⟨hk,h1.symm,h2.symm⟩
def Z1t:Nat->List Df->List (List Value)
 | _,[]=>[]
 | i,d::ds=>d.t.ns.map (fun n=>[.int .i64 i,n.val])++Z1t (i+1) ds
theorem Zeu {I:GH} (g:Gr):Spec Tryz.prog 70 [g.val] I [] fun r I' M'=>∃ b,r=.func (.func 117) #[] #[ptr b]∧I' b=some (.cells #[.slice g.a g.n g.c] 30 (0,0))∧(∀ b o,I b=some o->I' b=some o)∧M'=[]:=by
 refine Z01 [1] Z00 Tryz.func70 rfl rfl rfl ?_;intro B h0
 refine AllocOb.mk fun g hg hgM=>?_
 exact⟨_,_,.prom rfl (by simp) .refl,g,rfl,Z2b ..,Z2p hg,rfl⟩
theorem ZbZ {I:GH} {g:Gr} (hg:g.ok I) {b:Nat} (hb:I b=some (.cells #[.slice g.a g.n g.c] 30 (0,0))) :
  ZnL Tryz.prog 117 [ptr b] I (Z1t 0 g.ds):=by
 intro l R Rx hY I0 M0 hI0 hR0;refine Z2Q [] Z00 Tryz.func117 rfl rfl rfl ?_;intro B h0;have hgn:=hg.n;have hcap:=hg.rs.cap
 have hrd:∀ (M:List Blk),Rd I0 M ((⟨b,0,none⟩:Addr).add 0) 1 [.slice g.a g.n g.c]:=fun M=>⟨rfl,_,_,_,.inl (hI0 _ _ hb),rfl,rfl⟩
 refine LoadOb.mk _ (hrd _) ?_
 refine LoopOb.inv (ι:=Nat×Nat×GH×List Blk)
  (fun x=>{ fl:=[(0,.val (.func (.yield l) #[] #[])),(8,.val (.slice g.a g.n g.c)),(9,.val (.int .i64 g.n)),(10,.val (.int .i64 x.1))],gi:=x.2.2.1,mi:=x.2.2.2 })
  (fun x=>x.1≤g.n∧(∀ b o,I b=some o->x.2.2.1 b=some o)∧R x.2.1 x.2.2.1 x.2.2.2∧x.2.1≤(Z1t 0 g.ds).length∧(Z1t 0 g.ds).drop x.2.1=Z1t x.1 (g.ds.drop x.1)) (fun x=>g.n - x.1) ?_ ?_
 ·exact⟨(0,0,I0,M0),⟨by simp,hI0,hR0,by simp,rfl⟩,.refl,aF4,.nil⟩
 ·rintro⟨i,k,I1,M1⟩ ⟨hi,hI1,hR1,hkl,hd1⟩
  simp only at hi hI1 hR1 hkl hd1;refine CondOb.mk (fun h=>?_) (fun h=>?_)
  ·have hlt:i < g.n:=by simpa using h
   have hlt':i < g.ds.length:=by omega
   have hg1:=hg.mono hI1;obtain⟨ad,had,hrdd⟩:=hg1.rs.row Df.cells_len hlt hlt';have hdm:g.ds[i]∈g.ds:=List.getElem_mem hlt';have htn:=(hg.ds _ hdm).t.n;have htc:=(hg.ds _ hdm).t.rs.cap;have hdrop:g.ds.drop i=g.ds[i]::g.ds.drop (i+1):=List.drop_eq_getElem_cons hlt';refine IdxOb.mk ad i had rfl hlt ?_;refine LoadOb.mk _ (hrdd _) ?_
   refine LoopOb.inv (ι:=Nat×Nat×GH×List Blk)
    (fun x=>{ fl:=[(0,.val (.func (.yield l) #[] #[])),(3,.val (.int .i64 i)),(8,.val (.slice g.a g.n g.c)),(9,.val (.int .i64 g.n)),(10,.val (.int .i64 i)),(17,.val (.slice g.ds[i].t.a g.ds[i].t.n g.ds[i].t.c)),(18,.val (.int .i64 g.ds[i].t.n)),(19,.val (.int .i64 x.1))],gi:=x.2.2.1,mi:=x.2.2.2 })
    (fun x=>x.1≤g.ds[i].t.n∧(∀ b o,I b=some o->x.2.2.1 b=some o)∧R x.2.1 x.2.2.1 x.2.2.2∧x.2.1≤(Z1t 0 g.ds).length∧(Z1t 0 g.ds).drop x.2.1=(g.ds[i].t.ns.drop x.1).map (fun n=>[.int .i64 i,n.val])++Z1t (i+1) (g.ds.drop (i+1))) (fun x=>g.ds[i].t.n - x.1) ?_ ?_
   ·refine⟨(0,k,I1,M1),⟨by simp,hI1,hR1,hkl,?_⟩,.refl,aF8,.nil⟩
    simp only;rw[hd1,hdrop];rfl
   ·rintro⟨j,k,I1,M1⟩ ⟨hj,hI1,hR1,hkl,hd1⟩
    simp only at hj hI1 hR1 hkl hd1;refine CondOb.mk (fun h=>?_) (fun h=>?_)
    ·have hjl:j < g.ds[i].t.n:=by simpa using h
     have hjl':j < g.ds[i].t.ns.length:=by omega
     have hg1:=hg.mono hI1;obtain⟨an,han,hrn⟩:=(hg1.ds _ hdm).t.rs.row Nd.cells_len hjl hjl';have hnd:g.ds[i].t.ns.drop j=g.ds[i].t.ns[j]::g.ds[i].t.ns.drop (j+1):=List.drop_eq_getElem_cons hjl';rw[hnd,List.map_cons,List.cons_append] at hd1;obtain⟨hk,hv,hd2⟩:=Zan hd1;refine IdxOb.mk an j han rfl hjl ?_;refine LoadOb.mk _ (hrn _) ?_;refine OtherOb.yield rfl (by simp) rfl rfl ?_;have hy:=hY k hk I1 M1 hI1 hR1;rw[hv] at hy;refine CallObY.mk M1 [] _ (by simp) hy ?_;rintro v I2 M2 hI2 (⟨rfl,hR2⟩ | ⟨rfl,hx⟩)
     ·refine CondOb.mk (fun h=>by simp at h) (fun _=>?_)
      refine ArithOb.mk _ (Z03 (i:=j) (by omega)) ?_;exact⟨(j+1,k+1,I2,M2),⟨⟨by simp only;omega,fun b o h=>hI2 b o (hI1 b o h),hR2,hk,hd2⟩,by simp only;omega⟩,.perm (by simp) .refl,aF8,.nil⟩
     ·refine CondOb.mk (fun _=>?_) (fun h=>by simp at h)
      exact⟨_,_,.perm (by simp) .refl,.inr hx⟩
    ·have hge:g.ds[i].t.n≤j:=by simpa using h
     rw[List.drop_eq_nil_of_le (show g.ds[i].t.ns.length≤j by omega),List.map_nil,List.nil_append] at hd1;refine ArithOb.mk _ (Z03 (i:=i) (by omega)) ?_;exact⟨(i+1,k,I1,M1),⟨⟨by simp only;omega,hI1,hR1,hkl,hd1⟩,by simp only;omega⟩,.refl,aF4,.nil⟩
  ·have hge:g.n≤i:=by simpa using h
   refine⟨_,_,.refl,.inl ?_⟩;rw[List.drop_eq_nil_of_le (show g.ds.length≤i by omega)] at hd1
   have hke:k=(Z1t 0 g.ds).length:=by
    have:=List.drop_eq_nil_iff.1 hd1;omega
   rw[←hke];exact hR1
def Z0A (ns:List Nd):List ByteArray:=(ns.filter fun d=>decide (d.k=3)).map (·.t)
theorem Zev {I:GH} (t:Tr):Spec Tryz.prog 154 [t.val] I [] fun r I' M'=>∃ b,r=.func (.func 186) #[] #[ptr b]∧I' b=some (.cells #[.slice t.a t.n t.c,.int .i64 t.root] 42 (0,0))∧(∀ b o,I b=some o->I' b=some o)∧M'=[]:=by
 refine Z01 [1] Z00 Tryz.func154 rfl rfl rfl ?_;intro B h0
 refine AllocOb.mk fun g hg hgM=>?_
 exact⟨_,_,.prom rfl (by simp) .refl,g,rfl,Z2b ..,Z2p hg,rfl⟩
theorem Zc0 {I:GH} {t:Tr} (ht:t.ok I) {b:Nat} (hb:I b=some (.cells #[.slice t.a t.n t.c,.int .i64 t.root] 42 (0,0))) :
  ZnL Tryz.prog 186 [ptr b] I ((Z0A t.ns).map fun s=>[.string s]):=by
 intro l R Rx hY I0 M0 hI0 hR0;refine Z2Q [] Z00 Tryz.func186 rfl rfl rfl ?_;intro B h0;have htn:=ht.n;have hcap:=ht.rs.cap
 have hrd:∀ (M:List Blk),Rd I0 M ((⟨b,0,none⟩:Addr).add 0) 1 [.slice t.a t.n t.c]:=fun M=>⟨rfl,_,_,_,.inl (hI0 _ _ hb),rfl,rfl⟩
 refine LoadOb.mk _ (hrd _) ?_
 refine LoopOb.inv (ι:=Nat×Nat×GH×List Blk)
  (fun x=>{ fl:=[(0,.val (.func (.yield l) #[] #[])),(6,.val (.slice t.a t.n t.c)),(7,.val (.int .i64 t.n)),(8,.val (.int .i64 x.1))],gi:=x.2.2.1,mi:=x.2.2.2 })
  (fun x=>x.1≤t.n∧(∀ b o,I b=some o->x.2.2.1 b=some o)∧R x.2.1 x.2.2.1 x.2.2.2∧x.2.1≤((Z0A t.ns).map fun s=>[Value.string s]).length∧((Z0A t.ns).map fun s=>[Value.string s]).drop x.2.1=(Z0A (t.ns.drop x.1)).map fun s=>[.string s]) (fun x=>t.n - x.1) ?_ ?_
 ·exact⟨(0,0,I0,M0),⟨by simp,hI0,hR0,by simp,rfl⟩,.refl,aF4,.nil⟩
 ·rintro⟨j,k,I1,M1⟩ ⟨hj,hI1,hR1,hkl,hd1⟩
  simp only at hj hI1 hR1 hkl hd1;refine CondOb.mk (fun h=>?_) (fun h=>?_)
  ·have hjl:j < t.n:=by simpa using h
   have hjl':j < t.ns.length:=by omega
   have ht1:=ht.mono hI1;obtain⟨an,han,hrn⟩:=ht1.rs.row Nd.cells_len hjl hjl';have hnd:t.ns.drop j=t.ns[j]::t.ns.drop (j+1):=List.drop_eq_getElem_cons hjl';refine IdxOb.mk an j han rfl hjl ?_;refine LoadOb.mk _ (hrn _) ?_;refine GuardOb.mk (fun h1=>?_) (fun h1=>?_)
   ·have hn1:Z0A (t.ns.drop j)=t.ns[j].t::Z0A (t.ns.drop (j+1)):=by
     rw[hnd];simp only[Z0A,List.filter_cons,h1,if_true,List.map_cons]
    rw[hn1,List.map_cons] at hd1;obtain⟨hk,hv,hd2⟩:=Zan hd1;refine OtherOb.yield rfl (by simp) rfl rfl ?_;have hy:=hY k hk I1 M1 hI1 hR1;rw[hv] at hy;refine CallObY.mk M1 [] _ (by simp) hy ?_;rintro v I2 M2 hI2 (⟨rfl,hR2⟩ | ⟨rfl,hx⟩)
    ·refine CondOb.mk (fun h=>by simp at h) (fun _=>?_)
     refine ArithOb.mk _ (Z03 (i:=j) (by omega)) ?_;exact⟨(j+1,k+1,I2,M2),⟨⟨by simp only;omega,fun b o h=>hI2 b o (hI1 b o h),hR2,hk,hd2⟩,by simp only;omega⟩,.perm (by simp) .refl,aF4,.nil⟩
    ·refine CondOb.mk (fun _=>?_) (fun h=>by simp at h)
     exact⟨_,_,.perm (by simp) .refl,.inr hx⟩
   ·have hn1:Z0A (t.ns.drop j)=Z0A (t.ns.drop (j+1)):=by
     rw[hnd];have h1':decide (t.ns[j].k=3)=false:=h1
     simp only[Z0A,List.filter_cons,h1'];rfl
    rw[hn1] at hd1;refine ArithOb.mk _ (Z03 (i:=j) (by omega)) ?_;exact⟨(j+1,k,I1,M1),⟨⟨by simp only;omega,hI1,hR1,hkl,hd1⟩,by simp only;omega⟩,.refl,aF4,.nil⟩
  ·have hge:t.n≤j:=by simpa using h
   refine⟨_,_,.refl,.inl ?_⟩;rw[List.drop_eq_nil_of_le (show t.ns.length≤j by omega)] at hd1
   have hke:k=((Z0A t.ns).map fun s=>[Value.string s]).length:=by
    have:=List.drop_eq_nil_iff.1 hd1;omega
   rw[←hke];exact hR1
section
variable {X:Ctx} {β:Nat->Nat} {a:Act} {w:World} {F:Fr} {C:Bx} {I:GH} {M:List Blk} {o:Oper} {K:KS}
theorem RelB.swap {n:Nat} {ob ob':Obj} {w':World} (h:RelB X β a w F C I (⟨n,ob⟩::M)) (hs:w'.heap.size=w.heap.size) (hn:w'.heap[n]?=some ob') (hb:∀ b,b≠n->w'.heap[b]?=w.heap[b]?) (ho:Same w w'):RelB X β a w' F C I (⟨n,ob'⟩::M):=by
 have h1:=h.lose hs hb ho
 have hx0:(⟨n,ob⟩:Blk)∈(⟨n,ob⟩:Blk)::M:=by simp
 have hnd:=h.holds.nd;simp only[List.map_cons,List.nodup_cons] at hnd
 have mem:∀ x,x∈(⟨n,ob'⟩:Blk)::M->x=⟨n,ob'⟩∨x∈M:=fun x hx=>List.mem_cons.1 hx
 exact {
  size:=h1.size
  defers:=by
   obtain⟨rs,e1,e2,e3⟩:=h1.defers;obtain⟨rs',f1,f2,f3⟩:=h.defers;refine⟨rs,e1,e2,fun r hr=>{ e3 r hr with noM:=fun x hx=>?_ }⟩
   rcases mem x hx with rfl | hx
   ·have e4:rs=rs':=by
     have:=e1.symm.trans f1
     have hinj:∀ l l':List Nat,l.map Z4x=l'.map Z4x->l=l':=by
      intro l
      induction l with
      | nil=>intro l' h;cases l' with
       | nil=>rfl
       | cons=>simp at h
      | cons y l ih=>intro l' h;cases l' with
       | nil=>simp at h
       | cons z l'=>
        simp only[List.map_cons,List.cons.injEq,Z4x,Deferred.mk.injEq] at h
        have hy:y=z:=by simpa using h.1
        rw[hy,ih l' h.2]
     exact hinj _ _ this
    subst e4;exact(f3 r hr).noM ⟨n,ob⟩ hx0
   ·exact(e3 r hr).noM x hx
  holds:={
   i:=h1.holds.i
   m:=fun x hx=>by
    rcases mem x hx with rfl | hx
    ·exact hn
    ·exact h1.holds.m x hx
   d:=fun x hx=>by
    rcases mem x hx with rfl | hx
    ·exact h.holds.d ⟨n,ob⟩ hx0
    ·exact h1.holds.d x hx
   nd:=by simpa using hnd }
  fr:=h.fr
  bx:=fun s cs hcs=>by
   have hbx:=h.bx s cs hcs;refine { h1.bx s cs hcs with noM:=fun x hx=>?_ }
   rcases mem x hx with rfl | hx
   ·exact hbx.noM ⟨n,ob⟩ hx0
   ·exact(h1.bx s cs hcs).noM x hx
  inj:=h.inj
  le0:=h.le0
  new0:=h.new0
  own:=fun x hx=>by
   rcases mem x hx with rfl | hx
   ·exact h.own ⟨n,ob⟩ hx0
   ·exact h1.own x hx
  old:=h1.old
  out:=h1.out
  sz:=h1.sz }
def Zao (l:List (ByteArray×Int)):Nat->List MapEntry
 | i=>match l with
  | []=>[]
  | p::l=>{ key:=.string p.1,val:=.int .i64 p.2,born:=i }::Zao l (i+1)
def Z58 (l:List (ByteArray×Int)):Obj:=.map (Zao l 0).toArray l.length
def Z0q (s:ByteArray):List (ByteArray×Int)->Option Int
 | []=>none
 | p::l=>bif decide (s=p.1) then some p.2 else Z0q s l
theorem Zg1 (l:List (ByteArray×Int)) (p:ByteArray×Int):∀ i,Zao (l++[p]) i=Zao l i++[{ key:=.string p.1,val:=.int .i64 p.2,born:=i+l.length }]:=by
 induction l with
 | nil=>intro i;simp[Zao]
 | cons q l ih=>
  intro i;simp only[List.cons_append,Zao,ih,List.length_cons,List.cons.injEq,true_and,List.append_cancel_left_eq,MapEntry.mk.injEq,and_true];omega
theorem bytes_beq (a b:ByteArray):(a == b)=decide (a=b):=by
 rw[Bool.eq_iff_iff];simp only[decide_eq_true_eq]
 constructor
 ·intro h
  first | exact eq_of_beq h | exact ByteArray.ext (eq_of_beq (a:=a.data) (b:=b.data) h)
 ·rintro rfl
  first | exact beq_self_eq_true _ | exact beq_self_eq_true a.data
theorem Z2C (s:ByteArray):∀ (l:List (ByteArray×Int)) (i j:Nat),∃ r,Instr.findNow .string (.string s) (Zao l i) j=some r∧r.map (·.2)=(Z0q s l).map (Value.int .i64)
 | [],i,j=>⟨none,rfl,rfl⟩
 | p::l,i,j=>by
  obtain⟨r,h1,h2⟩:=Z2C s l (i+1) (j+1);unfold Zao Instr.findNow
  simp only[Instr.sameNow,bytes_beq]
  cases hb:decide (s=p.1) with
  | true=>exact⟨_,rfl,by simp[Z0q,hb]⟩
  | false=>exact⟨r,h1,by simp only[Z0q,hb,cond_false];exact h2⟩
theorem OtherOb.makeMap (hE:EOK X.P X.E) {t:Nat} {r:Operand} (ho:o.op=.makeMap t (some r)) (hd:∀ d,o.dst=some d->d < X.n) {ti:TI} {k e:Nat} (ht:X.E t=some ti) (hts:ti.sh=.map k e)
  {q:IntKind} {n:Int} (hr:ev F r=.val (.int q n)) (h:∀ b,K (put o.dst (.val (.map (some b))) F) C I (⟨b,Z58 []⟩::M)):OtherOb X o F C I M K:=by
 refine⟨fun a w Q ⟨β,hR⟩=>?_⟩;obtain⟨d,hud,hdd⟩:=(hE _ _ ht).und
 have h1:d=.map k e:=by rw[hts] at hdd;cases d<;>simp_all[Z2k]
 subst h1;have er:=Z04 hR.fr hr;refine Z0r (by rw[ho];simp) (v:=.map (some w.heap.size)) (w':=w.alloc (.map #[] 0)) ?_ ⟨_,_,_,_,⟨β,RelB.put (x:=.val (.map (some w.heap.size))) (hR.alloc_blk (Z58 [])) hd rfl⟩,h _⟩;unfold execOp
 simp only[ho,Option.map_some,er];simp[Instr.makeMap,run_underlying hud,asInt,Z0t]
theorem OtherOb.lookup (hE:EOK X.P X.E) {t:Nat} {x y:Operand} (ho:o.op=.lookup t x y true) (hd:∀ d,o.dst=some d->d < X.n) {ti tk:TI} {k e:Nat} (ht:X.E t=some ti) (hts:ti.sh=.map k e) (hk:X.E k=some tk) (hks:tk.sh=.string)
  (hz:∀ w,(zeroValue e).run X.P w=.ok (.int .i64 0) w) {g:Nat} {l:List (ByteArray×Int)} {s:ByteArray} (hx:ev F x=.val (.map (some g))) (hy:ev F y=.val (.string s)) (hM:(⟨g,Z58 l⟩:Blk)∈M)
  (h:K (put o.dst (.val (.tuple #[.int .i64 ((Z0q s l).getD 0),.bool (Z0q s l).isSome])) F) C I M):OtherOb X o F C I M K:=by
 refine⟨fun a w Q ⟨β,hR⟩=>?_⟩;obtain⟨d,hud,hdd⟩:=(hE _ _ ht).und
 have h1:d=.map k e:=by rw[hts] at hdd;cases d<;>simp_all[Z2k]
 subst h1;obtain⟨dk,huk,hdk⟩:=(hE _ _ hk).und
 have h2:dk=.string:=by rw[hks] at hdk;cases dk<;>simp_all[Z2k]
 subst h2;have hg:w.heap[g]?=some (.map (Zao l 0).toArray l.length):=hR.holds.m _ hM;have ex:=Z04 hR.fr hx;have ey:=Z04 hR.fr hy;obtain⟨r,hf1,hf2⟩:=Z2C s l 0 0;have hc:(Instr.checkKey (Zao l 0).toArray.isEmpty 10000 k (.string s)).run X.P w=.ok () w:=MapKept.run_checkKey (k:=.string s) huk (by simp[MapKept.IsKey]) _ 9999;have hfk:(Instr.findKey k (.string s) (Zao l 0)).run X.P w=.ok r w:=MapKept.run_findKey huk hf1
 have hrun:(Instr.lookup t (.map (some g)) (.string s) true).run X.P w=.ok (.tuple #[.int .i64 ((Z0q s l).getD 0),.bool (Z0q s l).isSome]) w:=by
  unfold Instr.lookup;simp only[Sem.run_bind,run_underlying hud,Result.andThen_ok,MapKept.run_getObj_map hg,Sem.run_pure,hc,hfk]
  cases r with
  | none=>
   cases hl:Z0q s l with
   | none=>simp[hz]
   | some v=>rw[hl] at hf2;simp at hf2
  | some p=>
   cases hl:Z0q s l with
   | none=>rw[hl] at hf2;simp at hf2
   | some v=>
    rw[hl] at hf2;simp only[Option.map_some,Option.some.injEq] at hf2;simp[hf2]
 refine Z2J hR hd (by rw[ho];simp) ?_ h;unfold execOp;simp only[ho,ex,ey,Sem.run_bind,hrun,Result.andThen_ok,Sem.run_pure]
theorem OtherOb.mapNew (hE:EOK X.P X.E) {t:Nat} {x y z:Operand} (ho:o.op=.mapUpdate t x y z) (hd:o.dst=none) {ti tk:TI} {k e:Nat} (ht:X.E t=some ti) (hts:ti.sh=.map k e) (hk:X.E k=some tk) (hks:tk.sh=.string)
  {g:Nat} {l:List (ByteArray×Int)} {s:ByteArray} {v:Int} (hx:ev F x=.val (.map (some g))) (hy:ev F y=.val (.string s)) (hzv:ev F z=.val (.int .i64 v)) (hl:Z0q s l=none)
  {Mr:List Blk} (hM:M.Perm (⟨g,Z58 l⟩::Mr)) (h:K F C I (⟨g,Z58 (l++[(s,v)])⟩::Mr)):OtherOb X o F C I M K:=by
 refine⟨fun a w Q ⟨β,hR0⟩=>?_⟩;have hR:RelB X β a w F C I (⟨g,Z58 l⟩::Mr):=hR0.wk (.perm hM .refl)
 obtain⟨d,hud,hdd⟩:=(hE _ _ ht).und
 have h1:d=.map k e:=by rw[hts] at hdd;cases d<;>simp_all[Z2k]
 subst h1;obtain⟨dk,huk,hdk⟩:=(hE _ _ hk).und
 have h2:dk=.string:=by rw[hks] at hdk;cases dk<;>simp_all[Z2k]
 subst h2;have hg:w.heap[g]?=some (.map (Zao l 0).toArray l.length):=hR.holds.m ⟨g,Z58 l⟩ (by simp);have ex:=Z04 hR.fr hx
 have ey:=Z04 hR.fr hy;have ez:=Z04 hR.fr hzv;obtain⟨r,hf1,hf2⟩:=Z2C s l 0 0
 have hr:r=none:=by
  rw[hl] at hf2
  cases r with
  | none=>rfl
  | some _=>simp at hf2
 subst hr;have hc:(Instr.checkKey false 10000 k (.string s)).run X.P w=.ok () w:=MapKept.run_checkKey (k:=.string s) huk (by simp[MapKept.IsKey]) _ 9999;have hfk:(Instr.findKey k (.string s) (Zao l 0)).run X.P w=.ok none w:=MapKept.run_findKey huk hf1
 have hnew:Z58 (l++[(s,v)])=.map ((Zao l 0).toArray.push { key:=.string s,val:=.int .i64 v,born:=l.length }) (l.length+1):=by
  unfold Z58;rw[Zg1];simp
 have hrun:(Instr.mapUpdate t (.map (some g)) (.string s) (.int .i64 v)).run X.P w=.ok () { w with heap:=w.heap.setIfInBounds g (Z58 (l++[(s,v)])) }:=by
  unfold Instr.mapUpdate;simp only[Sem.run_bind,run_underlying hud,Result.andThen_ok,MapKept.run_getObj_map hg,hc,hfk,MapKept.run_setObj_map _ hg,hnew]
 have hset:=MapKept.heap_set (o':=Z58 (l++[(s,v)])) hg;refine Z2f (by rw[ho];simp) (w':={ w with heap:=w.heap.setIfInBounds g (Z58 (l++[(s,v)])) }) ?_ ⟨F,C,I,_,⟨β,?_⟩,h⟩
 ·unfold execOp
  simp only[ho,ex,ey,ez,Sem.run_bind,hrun,Result.andThen_ok,Sem.run_pure]
 ·rw[hd]
  exact hR.swap (by simp) hset.1 hset.2 ⟨rfl,rfl⟩
end
def Z0L:Nat->List Df->List (Nat×Nd)
 | _,[]=>[]
 | i,d::ds=>d.t.ns.map (fun n=>(i,n))++Z0L (i+1) ds
theorem Z2s:∀ (ds:List Df) (i:Nat),Z1t i ds=(Z0L i ds).map fun p=>[.int .i64 p.1,p.2.val]
 | [],i=>rfl
 | d::ds,i=>by
  simp only[Z1t,Z0L,List.map_append,List.map_map,Z2s ds (i+1)];rfl
def Z1B (ds:List Df):Bool:=ds.all fun d=>Z0u d.name && normal d.t
def Z86:List (ByteArray×Int)->Nat->List Df->Option (List (ByteArray×Int))
 | acc,_,[]=>some acc
 | acc,i,d::ds=>bif (Z0q d.name acc).isSome then none else Z86 (acc++[(d.name,(i:Int))]) (i+1) ds
def Z5L (acc:List (ByteArray×Int)) (n:Nd):Bool:=!decide (n.k=3) || (Z0q n.t acc).isSome
def Z1c (acc:List (ByteArray×Int)) (ds:List Df):Bool:=(Z0L 0 ds).all fun p=>Z5L acc p.2
def Z13 (deb:List Int) (g:Gr):Int:=
 bif decide ((g.n:Int)=0) then 4 else bif !Z1B g.ds then 4 else bif Z0Y deb g then 40 else
 match Z86 [] 0 g.ds with
 | none=>6
 | some acc=>bif Z1c acc g.ds then 0 else 41
def Zg2 (b:Nat) (e:Int):Blk:=⟨b,.cells #[.int .i64 e] 32 (0,0)⟩
theorem Z4k {I:GH} {M:List Blk} {b:Nat} {e:Int} (h:Zg2 b e∈M):Rd I M ⟨b,0,none⟩ 1 [.int .i64 e]:=
 ⟨rfl,_,_,_,.inr ⟨_,h,rfl,rfl⟩,rfl,rfl⟩
theorem Z4H (w:World):(zeroValue 3).run Tryz.prog w=.ok (.int .i64 0) w:=by
 have h:(Tryz.prog.info? 3).map (fun i=>i.zero)=some (some (.int .i64 0)):=by kernel_rfl
 obtain⟨i,h1,h2⟩:=Option.map_eq_some_iff.1 h;simp[zeroValue,typeInfo,h1,h2]
set_option maxHeartbeats 2000000 in
theorem Z6i {I:GH} {deb:List Int} (hT:Tabs I deb) {g:Gr} (hg:g.ok I):Spec Tryz.prog 25 [g.val] I [] (fun v I' M'=>v=.int .i64 (Z13 deb g)∧(∀ b o,I b=some o->I' b=some o)∧M'=[]):=by
 refine Z01 [2,5] Z00 Tryz.func25 rfl rfl rfl ?_;intro B h0;have hgn:=hg.n;have hcap:=hg.rs.cap
 refine AllocOb.mk fun b2 hb2 hbM2=>?_
 refine CondOb.mk (fun h1=>?_) (fun h1=>?_)
 ·refine StoreOb.mk [] [] _ _ rfl rfl (Nat.le_of_ble_eq_true rfl) rfl ?_
  refine LoadOb.mk _ (Z4k (b:=b2) (e:=4) (.head _)) ?_;refine⟨_,_,.sub (List.nil_sublist _) .refl,?_,fun _ _ h=>h,rfl⟩;rw[Z13,h1]
  rfl
 ·have hpos:g.n≠0:=by simp at h1;omega
  refine LoopOb.inv (ι:=Nat) (fun i=>{ fl:=[(1,.ref 1 0),(2,.val (ptr b2)),(19,.val (.slice g.a g.n g.c)),(20,.val (.int .i64 g.n)),(21,.val (.int .i64 i))],cl:=[(1,[.slice g.a g.n g.c])],gi:=I,mi:=[Zg2 b2 0] })
   (fun i=>i≤g.n∧Z1B (g.ds.take i)=true) (fun i=>g.n - i) ?_ ?_
  ·exact⟨0,⟨by simp,rfl⟩,.refl,aF5,.cons rfl .nil⟩
  ·rintro i ⟨hi,hall⟩
   refine CondOb.mk (fun h=>?_) (fun h=>?_)
   ·have hlt:i < g.n:=by simpa using h
    have hlt':i < g.ds.length:=by omega
    obtain⟨ad,had,hrd⟩:=hg.rs.row Df.cells_len hlt hlt';have hdm:g.ds[i]∈g.ds:=List.getElem_mem hlt'
    have bad:(Z0u g.ds[i].name && normal g.ds[i].t)=false->Z13 deb g=4:=fun hb=>by
     have:Z1B g.ds=false:=by
      unfold Z1B;rw[List.all_eq_false];exact⟨_,hdm,by simp[hb]⟩
     rw[Z13,h1,this];rfl
    refine IdxOb.mk ad i had rfl hlt ?_;refine LoadOb.mk _ (hrd _) ?_;refine CallOb.mk [] [Zg2 b2 0] _ (.refl _) (Z6O _ g.ds[i].name) ?_;rintro v I' M' - ⟨rfl,rfl,rfl⟩;refine GuardOb.mk (fun h2=>?_) (fun h2=>?_)
    ·have hm:Z0u g.ds[i].name=true:=by simpa using h2
     refine CallOb.mk [] [Zg2 b2 0] _ (.refl _) (ZbX hT.c (hg.ds _ hdm).t) ?_;rintro v I' M' - ⟨rfl,rfl,rfl⟩;refine CondOb.mk (fun h3=>?_) (fun h3=>?_)
     ·have hno:normal g.ds[i].t=false:=by simpa using h3
      refine StoreOb.mk [] [] _ _ rfl rfl (Nat.le_of_ble_eq_true rfl) rfl ?_;refine LoadOb.mk _ (Z4k (b:=b2) (e:=4) (.head _)) ?_;refine⟨_,_,.sub (List.nil_sublist _) .refl,?_,fun _ _ h=>h,rfl⟩;rw[bad (by rw[hm,hno];rfl)]
      rfl
     ·have hno:normal g.ds[i].t=true:=by simpa using h3
      refine ArithOb.mk _ (Z03 (i:=i) (by omega)) ?_;refine⟨i+1,⟨⟨by omega,?_⟩,by omega⟩,.refl,aF5,.cons rfl .nil⟩;unfold Z1B at hall ⊢
      rw[List.take_succ_eq_append_getElem hlt',List.all_append,hall];simp[hm,hno]
    ·have hm:Z0u g.ds[i].name=false:=by simpa using h2
     refine StoreOb.mk [] [] _ _ rfl rfl (Nat.le_of_ble_eq_true rfl) rfl ?_;refine LoadOb.mk _ (Z4k (b:=b2) (e:=4) (.head _)) ?_;refine⟨_,_,.sub (List.nil_sublist _) .refl,?_,fun _ _ h=>h,rfl⟩;rw[bad (by rw[hm];rfl)]
     rfl
   ·have hge:g.n≤i:=by simpa using h
    rw[List.take_of_length_le (by omega)] at hall;refine CallOb.mk [] [Zg2 b2 0] _ (.refl _) (Zet hT hg) ?_;rintro v I1 M' - ⟨rfl,hI1,rfl⟩;refine CondOb.mk (fun h2=>?_) (fun h2=>?_)
    ·refine StoreOb.mk [] [] _ _ rfl rfl (Nat.le_of_ble_eq_true rfl) rfl ?_
     refine LoadOb.mk _ (Z4k (b:=b2) (e:=40) (.head _)) ?_;refine⟨_,_,.sub (List.nil_sublist _) .refl,?_,hI1,rfl⟩;rw[Z13,h1,hall,h2]
     rfl
    ·have hmg:Z13 deb g=match Z86 [] 0 g.ds with
       | none=>6
       | some acc=>bif Z1c acc g.ds then 0 else 41:=by
      rw[Z13,h1,hall,h2];rfl
     rw[hmg];have hg1:=hg.mono hI1
     refine OtherOb.makeMap Z00 rfl (by simp) rfl rfl rfl fun bm=>?_
     refine AllocOb.mk fun b5 hb5 hbM5=>?_
     refine StoreOb.mk [] [⟨bm,Z58 []⟩,Zg2 b2 0] _ _ rfl rfl (Nat.le_of_ble_eq_true rfl) rfl ?_
     refine LoopOb.inv (ι:=Nat×List (ByteArray×Int)) (fun x=>{ fl:=[(1,.ref 1 0),(2,.val (ptr b2)),(5,.val (ptr b5)),(43,.val (.slice g.a g.n g.c)),(44,.val (.int .i64 g.n)),(45,.val (.int .i64 x.1))],cl:=[(1,[.slice g.a g.n g.c])],gi:=I1,mi:=[⟨b5,.cells #[.map (some bm)] 110 (0,0)⟩,⟨bm,Z58 x.2⟩,Zg2 b2 0] })
      (fun x=>x.1≤g.n∧Z86 [] 0 g.ds=Z86 x.2 x.1 (g.ds.drop x.1)) (fun x=>g.n - x.1) ?_ ?_
     ·exact⟨(0,[]),⟨by simp,rfl⟩,.refl,aF6,.cons rfl .nil⟩
     ·rintro⟨i,acc⟩ ⟨hi,hdu⟩
      simp only at hi hdu;refine CondOb.mk (fun h=>?_) (fun h=>?_)
      ·have hlt:i < g.n:=by simpa using h
       have hlt':i < g.ds.length:=by omega
       obtain⟨ad,had,hrd⟩:=hg1.rs.row Df.cells_len hlt hlt';have hdrop:g.ds.drop i=g.ds[i]::g.ds.drop (i+1):=List.drop_eq_getElem_cons hlt';refine IdxOb.mk ad i had rfl hlt ?_;refine LoadOb.mk _ (hrd _) ?_;refine LoadOb.mk [.map (some bm)] ⟨rfl,_,_,_,.inr ⟨_,.head _,rfl,rfl⟩,rfl,rfl⟩ ?_;refine OtherOb.lookup Z00 rfl (by simp) rfl rfl rfl rfl (fun w=>Z4H w) (l:=acc) (g:=bm) rfl rfl (by simp) ?_;refine CondOb.mk (fun h3=>?_) (fun h3=>?_)
       ·refine StoreOb.mk [⟨b5,.cells #[.map (some bm)] 110 (0,0)⟩,⟨bm,Z58 acc⟩] [] _ _ rfl rfl (Nat.le_of_ble_eq_true rfl) rfl ?_
        refine LoadOb.mk _ (Z4k (b:=b2) (e:=6) (.tail _ (.tail _ (.head _)))) ?_;refine⟨_,_,.sub (List.nil_sublist _) .refl,?_,hI1,rfl⟩;rw[hdu,hdrop,Z86,h3]
        rfl
       ·have hl:Z0q g.ds[i].name acc=none:=by simpa using h3
        refine LoadOb.mk [.map (some bm)] ⟨rfl,_,_,_,.inr ⟨_,.head _,rfl,rfl⟩,rfl,rfl⟩ ?_;refine OtherOb.mapNew Z00 rfl rfl rfl rfl rfl rfl rfl rfl rfl hl (Mr:=[⟨b5,.cells #[.map (some bm)] 110 (0,0)⟩,Zg2 b2 0]) (List.Perm.swap _ _ _) ?_;refine ArithOb.mk _ (Z03 (i:=i) (by omega)) ?_;refine⟨(i+1,acc++[(g.ds[i].name,(i:Int))]),⟨⟨by simp only;omega,?_⟩,by simp only;omega⟩,.perm (List.Perm.swap _ _ _) .refl,aF6,.cons rfl .nil⟩;simp only
        rw[hdu,hdrop,Z86,h3];rfl
      ·have hge2:g.n≤i:=by simpa using h
       have hdd:Z86 [] 0 g.ds=some acc:=by
        rw[hdu,List.drop_eq_nil_of_le (by omega),Z86]
       rw[hdd];refine CallOb.mk [] [⟨b5,.cells #[.map (some bm)] 110 (0,0)⟩,⟨bm,Z58 acc⟩,Zg2 b2 0] _ (.refl _) (Zeu g) ?_
       rintro v I2 M2 - ⟨gb,rfl,hgb,hI2,rfl⟩;have hg2:=hg1.mono hI2
       have hI02:∀ b o,I b=some o->I2 b=some o:=fun b o h=>hI2 _ _ (hI1 _ _ h)
       refine CodeOb.range Z00 rfl rfl rfl .refl (ZbZ hg2 hgb) (fun vs h=>?_)
        (fun k I' M'=>(∀ b o,I2 b=some o->I' b=some o)∧((Z0L 0 g.ds).take k).all (fun p=>Z5L acc p.2)=true∧M'=[⟨b5,.cells #[.map (some bm)] 110 (0,0)⟩,⟨bm,Z58 acc⟩,Zg2 b2 0])
        (fun ex I' M'=>ex=.ret∧(∀ b o,I2 b=some o->I' b=some o)∧Z1c acc g.ds=false∧M'=[⟨b5,.cells #[.map (some bm)] 110 (0,0)⟩,⟨bm,Z58 acc⟩,Zg2 b2 41]) ⟨fun _ _ h=>h,rfl,rfl⟩ ?_ ?_ ?_
       ·rw[Z2s] at h
        obtain⟨p,_,rfl⟩:=List.mem_map.1 h;rfl
       ·rintro k hk I' M' - ⟨hI',hok,rfl⟩ l B h0 h0'
        have hkp:k < (Z0L 0 g.ds).length:=by simpa[Z2s] using hk
        generalize hp:(Z0L 0 g.ds)[k]=p
        have hv:(Z1t 0 g.ds)[k]=[.int .i64 p.1,p.2.val]:=by
         simp only[Z2s,List.getElem_map,hp]
        rw[hv]
        have next:Z5L acc p.2=true->((Z0L 0 g.ds).take (k+1)).all (fun p=>Z5L acc p.2)=true:=fun h=>by
         rw[List.take_succ_eq_append_getElem hkp,List.all_append,hok,hp];simp[h]
        refine CondOb.mk (fun h3=>?_) (fun h3=>?_)
        ·refine⟨_,_,.refl,hI',next ?_,rfl⟩
         have h3':decide (p.2.k=3)=false:=by simpa using h3
         simp[Z5L,h3']
        ·have h3':decide (p.2.k=3)=true:=by simpa using h3
         refine LoadOb.mk [.map (some bm)] ⟨rfl,_,_,_,.inr ⟨_,.head _,rfl,rfl⟩,rfl,rfl⟩ ?_;refine OtherOb.lookup Z00 rfl (by simp) rfl rfl rfl rfl (fun w=>Z4H w) (l:=acc) (g:=bm) rfl rfl (by simp) ?_;refine CondOb.mk (fun h4=>?_) (fun h4=>?_)
         ·refine StoreOb.mk [⟨b5,.cells #[.map (some bm)] 110 (0,0)⟩,⟨bm,Z58 acc⟩] [] _ _ rfl rfl (Nat.le_of_ble_eq_true rfl) rfl ?_
          refine⟨_,_,.refl,rfl,hI',?_,rfl⟩;unfold Z1c
          rw[List.all_eq_false]
          have h4':(Z0q p.2.t acc).isSome=false:=by simpa using h4
          exact⟨p,by rw[←hp];exact List.getElem_mem hkp,by simp[Z5L,h3',h4']⟩
         ·have h4':(Z0q p.2.t acc).isSome=true:=by simpa using h4
          exact⟨_,_,.refl,hI',next (by simp[Z5L,h4']),rfl⟩
       ·rintro I' M' - ⟨hI',hok,rfl⟩
        have hall2:Z1c acc g.ds=true:=by
         unfold Z1c;rw[List.take_of_length_le (by simp[Z2s])] at hok;exact hok
        refine StoreOb.mk [⟨b5,.cells #[.map (some bm)] 110 (0,0)⟩,⟨bm,Z58 acc⟩] [] _ _ rfl rfl (Nat.le_of_ble_eq_true rfl) rfl ?_;refine LoadOb.mk _ (Z4k (b:=b2) (e:=0) (.tail _ (.tail _ (.head _)))) ?_;refine⟨_,_,.sub (List.nil_sublist _) .refl,?_,fun b o h=>hI' _ _ (hI02 _ _ h),rfl⟩;simp only[hall2]
        rfl
       ·rintro ex I' M' - ⟨rfl,hI',hall2,rfl⟩
        refine⟨by simp,?_⟩;refine LoadOb.mk _ (Z4k (b:=b2) (e:=41) (.tail _ (.tail _ (.head _)))) ?_
        refine⟨_,_,.sub (List.nil_sublist _) .refl,?_,fun b o h=>hI' _ _ (hI02 _ _ h),rfl⟩;simp only[hall2]
        rfl
structure Rw where
 a:Option Addr
 n:Nat
 c:Nat
 l:List Int
def Rw.val (r:Rw):Value:=.slice r.a r.n r.c
structure Rw.ok (I:GH) (r:Rw):Prop where
 rs:RS I r.a r.n r.c 1 8 (r.l.map (.int .i64 ·))
theorem Rw.ok.n {I:GH} {r:Rw} (h:r.ok I):r.l.length=r.n:=by
 have:=h.rs.len
 simpa using this
theorem Rw.ok.mono {I I':GH} {r:Rw} (h:r.ok I) (hI:∀ b o,I b=some o->I' b=some o):r.ok I':=⟨h.rs.mono hI⟩
structure Ls where
 rows:List Rw
 a:Option Addr
 n:Nat
 c:Nat
def Ls.val (x:Ls):Value:=.slice x.a x.n x.c
structure Ls.ok (I:GH) (x:Ls):Prop where
 rs:RS I x.a x.n x.c 1 24 (x.rows.map Rw.val)
 rows:∀ r∈x.rows,r.ok I
theorem Ls.ok.n {I:GH} {x:Ls} (h:x.ok I):x.rows.length=x.n:=by
 have:=h.rs.len
 simpa using this
def Ls.ll (x:Ls):List (List Int):=x.rows.map (·.l)
theorem OS.give {I:GH} {os:OS} {xs:List Value} {e size b:Nat} (h:os.ok size xs) (hb:os.n * b≤140737488355328) (hI:∀ g,os.a=some g->I g=none) (Mr:List Blk) :
  ∃ I',Wk [] I (os.blk e++Mr) I' Mr∧(∀ b o,I b=some o->I' b=some o)∧RS I' (os.a.map fun g=>⟨g,0,none⟩) os.n os.c size b xs:=by
 obtain⟨a,n,c,cur⟩:=os
 cases a with
 | none=>
  obtain⟨h1,h2⟩:=h.nil rfl;simp only at h1 h2;subst h1;subst h2;exact⟨I,.refl,fun _ _ h=>h,h.len,⟨Nat.le_refl _,by simp⟩,.inl rfl⟩
 | some g=>
  obtain⟨h1,h2,h3,h4⟩:=h.cap g rfl;have hg:=hI g rfl;exact⟨ins I g (.cells cur.toArray e (0,0)),.prom rfl (by simp) .refl,Z2p hg,h.len,⟨h2,hb⟩,.inr ⟨⟨g,0,none⟩,rfl,rfl,_,_,_,Z2b ..,by simpa using h4⟩⟩
theorem OS.giveInts {I:GH} {os:OS} {l:List Int} {e:Nat} (h:os.ok 1 (l.map (.int .i64 ·))) (hb:os.n * 8≤140737488355328) (hI:∀ g,os.a=some g->I g=none) (Mr:List Blk) :
  ∃ (I':GH) (r:Rw),Wk [] I (os.blk e++Mr) I' Mr∧(∀ b o,I b=some o->I' b=some o)∧os.val=r.val∧r.ok I'∧r.l=l:=by
 obtain⟨I',h1,h2,h3⟩:=OS.give (b:=8) h hb hI Mr;exact⟨I',⟨_,_,_,l⟩,h1,h2,rfl,⟨h3⟩,rfl⟩
def OS0:OS:=⟨none,0,0,[]⟩
theorem Z1C (size:Nat):OS0.ok size []:=⟨by simp[OS0],fun _=>⟨rfl,rfl⟩,fun g h=>by cases h⟩
theorem Z5k {os:OS} {xs:List Value} {v:Value} (hos:os.ok 1 xs) {g c:Nat} {cur:List Value} (h1:cur.length=c * 1) (h2:os.n+1≤c) (h3:c≤maxLen) (h4:cur.take ((os.n+1) * 1)=xs++[v]) :
  OS.ok ⟨some g,os.n+1,c,cur⟩ 1 (xs++[v]):=by
 have hl:=hos.len;refine⟨?_,(fun h=>by cases h),fun g3 hg3=>⟨h1,h2,h3,h4⟩⟩;rw[List.length_append,hl]
 simp
theorem OS.ok.len1 {os:OS} {l:List Int} (h:os.ok 1 (l.map (Value.int .i64))):os.n=l.length:=by
 have:=h.len;simp at this;omega
theorem ZmC {α:Type} (a c:α) (L:List α):(a::(L++[c])).Perm (L++[c,a]):=by
 have h:=(List.perm_append_singleton a (L++[c])).symm
 rwa [List.append_assoc] at h
def Z1G (wh:Bool):Nat->List Bool->List Int
 | _,[]=>[]
 | i,b::s=>bif b == wh then (i:Int)::Z1G wh (i+1) s else Z1G wh (i+1) s
theorem Z3O (wh b:Bool):∀ (s:List Bool) (i:Nat),Z1G wh i (s++[b])=Z1G wh i s++(bif b == wh then [((i+s.length:Nat):Int)] else [])
 | [],i=>by
  show (bif b == wh then ((i:Nat):Int)::Z1G wh (i+1) [] else Z1G wh (i+1) [])=_
  cases b == wh<;>simp[Z1G]
 | c::s,i=>by
  have:=Z3O wh b s (i+1);rw[List.cons_append,Z1G,Z1G,this]
  cases c == wh<;>simp[Nat.add_comm,Nat.add_left_comm]
theorem Z72 (wh:Bool):∀ (s:List Bool) (i:Nat),(Z1G wh i s).length≤s.length
 | [],i=>by simp[Z1G]
 | c::s,i=>by
  have:=Z72 wh s (i+1);unfold Z1G
  cases c == wh<;>simp<;>omega
structure Rb where
 a:Option Addr
 n:Nat
 c:Nat
 l:List Bool
def Rb.val (r:Rb):Value:=.slice r.a r.n r.c
structure Rb.ok (I:GH) (r:Rb):Prop where
 rs:RS I r.a r.n r.c 1 1 (r.l.map Value.bool)
theorem Rb.ok.n {I:GH} {r:Rb} (h:r.ok I):r.l.length=r.n:=by
 have:=h.rs.len
 simpa using this
set_option maxHeartbeats 1000000 in
theorem Zap {I:GH} {r:Rb} (hr:r.ok I) (hn:r.n≤1099511627776) (wh:Bool):Spec Tryz.prog 85 [r.val,.bool wh] I [] fun v I' M'=>(∀ b o,I b=some o->I' b=some o)∧∃ x:Rw,v=x.val∧x.ok I'∧x.l=Z1G wh 0 r.l∧M'=[]:=by
 refine Z01 [] Z00 Tryz.func85 rfl rfl rfl ?_;intro B h0;have hrn:=hr.n
 refine LoopOb.inv (ι:=Nat×OS) (fun x=>{ fl:=[(1,.val (.bool wh)),(5,.val x.2.val),(8,.val r.val),(9,.val (.int .i64 r.n)),(10,.val (.int .i64 x.1))],gi:=I,mi:=x.2.blk 3 })
  (fun x=>x.1≤r.n∧x.2.ok 1 ((Z1G wh 0 (r.l.take x.1)).map (.int .i64 ·))∧∀ g,x.2.a=some g->I g=none) (fun x=>r.n - x.1) ?_ ?_
 ·exact⟨(0,OS0),⟨by simp,Z1C 1,fun g h=>by cases h⟩,.refl,aF5,.nil⟩
 ·rintro⟨i,os⟩ ⟨hi,hos,hI⟩
  simp only at hi hos hI;have hol:=hos.len1;have hll:=Z72 wh (r.l.take i) 0;have htl:=List.length_take_le i r.l;refine CondOb.mk (fun h=>?_) (fun h=>?_)
  ·have hlt:i < r.n:=by simpa using h
   have hlt':i < r.l.length:=by omega
   obtain⟨ad,had,hrd⟩:=hr.rs.one hlt hlt';have hsn:=Z3O wh r.l[i] (r.l.take i) 0;rw[←List.take_succ_eq_append_getElem hlt',List.length_take_of_le (by omega),Nat.zero_add] at hsn;refine IdxOb.mk ad i had rfl hlt ?_;refine LoadOb.mk _ (hrd _) ?_;refine CondOb.mk (fun h2=>?_) (fun h2=>?_)
   ·rw[h2,cond_true] at hsn
    refine AllocOb.mk fun b9 hb9 hbM9=>?_
    refine OtherOb.appendN Z00 rfl (by simp) (e:=3) rfl rfl rfl os hos rfl (m:=1) rfl (news:=[.int .i64 i]) (by decide) (Z0d (b:=b9) (cs:=[.int .i64 i]) (k:=0) (n:=1) (T:=3) (.head _) (by simp)) rfl (Mr:=[⟨b9,.cells #[.int .i64 i] 3 (0,0)⟩]) (List.perm_append_comm (l₁:=[_])) (by simp only[maxLen];omega) (by show (os.n+1) * 8≤_;omega) ?_;intro g' c' cur' q0 q1 q2 q3 q4;refine ArithOb.mk _ (Z03 (i:=i) (by omega)) ?_;refine⟨(i+1,⟨some g',os.n+1,c',cur'⟩),⟨⟨by simp only;omega,?_,fun g hg=>by cases hg;exact q0⟩,by simp only;omega⟩,.sub (List.Sublist.cons_cons _ (List.nil_sublist _)) .refl,aF5,.nil⟩;simp only
    rw[hsn,List.map_append];exact Z5k hos q1 q2 q3 q4
   ·rw[h2,cond_false,List.append_nil] at hsn
    refine ArithOb.mk _ (Z03 (i:=i) (by omega)) ?_;refine⟨(i+1,os),⟨⟨by simp only;omega,?_,hI⟩,by simp only;omega⟩,.refl,aF5,.nil⟩;simp only
    rw[hsn];exact hos
  ·have hge:r.n≤i:=by simpa using h
   rw[List.take_of_length_le (by omega)] at hos hll hol;obtain⟨I',x,w1,w2,w3,w4,w5⟩:=OS.giveInts (e:=3) hos (by omega) hI [];rw[List.append_nil] at w1
   exact⟨_,_,w1,w2,x,w3,w4,w5,rfl⟩
def Z4I (n:Nat) (s:List Bool) (k:Int):List Bool:=bif decide (0≤k) && decide (k < n) then s.set k.toNat true else s
def Z1X (ds:List Df) (n:Nat) (names:List ByteArray):List Bool:=names.foldl (fun s nm=>Z4I n s (Z09 nm ds 0)) (List.replicate n false)
def Z4l (g:Gr) (t:Tr):List Int:=Z1G true 0 (Z1X g.ds g.n (Z0A t.ns))
theorem Zaq (n:Nat) (s:List Bool) (k:Int):(Z4I n s k).length=s.length:=by
 unfold Z4I
 cases decide (0≤k) && decide (k < n)<;>simp
theorem Z3P (ds:List Df) (n:Nat) (names:List ByteArray):(Z1X ds n names).length=n:=by
 have:∀ (names:List ByteArray) (s:List Bool),(names.foldl (fun s nm=>Z4I n s (Z09 nm ds 0)) s).length=s.length:=by
  intro names
  induction names with
  | nil=>intro s;rfl
  | cons nm names ih=>intro s;rw[List.foldl_cons,ih,Zaq]
 rw[Z1X,this];simp
set_option maxHeartbeats 2000000 in
theorem Z73 {I:GH} {g:Gr} (hg:g.ok I) (hn:g.n≤1099511627776) {t:Tr} (ht:t.ok I):Spec Tryz.prog 120 [g.val,t.val] I [] fun v I' M'=>(∀ b o,I b=some o->I' b=some o)∧∃ x:Rw,v=x.val∧x.ok I'∧x.l=Z4l g t∧M'=[]:=by
 refine Z01 [2,5] Z00 Tryz.func120 rfl rfl rfl ?_;intro B h0;have hgn:=hg.n
 refine AllocOb.mk fun b2 hb2 hbM2=>?_
 refine LoadOb.mk [.slice g.a g.n g.c] (Z0d (b:=b2) (cs:=[.slice g.a g.n g.c]) (k:=0) (n:=1) (T:=30) (.head _) (by simp)) ?_;refine MakeOb.mk g.n g.n rfl rfl (Nat.le_refl _) (by show 1 * g.n≤_;omega) (by omega) ?_
 refine AllocOb.mk fun b hb hbM=>?_
 refine AllocOb.mk fun b5 hb5 hbM5=>?_
 refine StoreOb.mk [] [⟨b,.cells (Z15 [.bool false] (g.n * 1)).toArray 4 (0,0)⟩,⟨b2,.cells #[.slice g.a g.n g.c] 30 (0,0)⟩] _ _ rfl rfl (Nat.le_of_ble_eq_true rfl) rfl ?_;refine CallOb.mk [] [⟨b5,.cells #[.slice (some ⟨b,0,none⟩) g.n g.n] 126 (0,0)⟩,⟨b,.cells (Z15 [.bool false] (g.n * 1)).toArray 4 (0,0)⟩,⟨b2,.cells #[.slice g.a g.n g.c] 30 (0,0)⟩] _ (.refl _) (Zev t) ?_;rintro v I1 M1 - ⟨tb,rfl,htb,hI1,rfl⟩;have hg1:=hg.mono hI1
 have ht1:=ht.mono hI1
 refine CodeOb.range Z00 rfl rfl rfl .refl (Zc0 ht1 htb) (fun vs h=>?_)
  (fun k I' M'=>(∀ b o,I1 b=some o->I' b=some o)∧M'=[⟨b5,.cells #[.slice (some ⟨b,0,none⟩) g.n g.n] 126 (0,0)⟩,Z10 b (Z1X g.ds g.n ((Z0A t.ns).take k)),⟨b2,.cells #[.slice g.a g.n g.c] 30 (0,0)⟩])
  (fun _ _ _=>False) ⟨fun _ _ h=>h,?_⟩ ?_ ?_ (fun _ _ _ _ h=>h.elim)
 ·obtain⟨c,_,rfl⟩:=List.mem_map.1 h
  rfl
 ·show _::_::_=_
  rw[Z1W,Nat.mul_one];simp[Z10,Z1X]
 ·rintro k hk I' M' - ⟨hI',rfl⟩ l B h0 h0'
  have hkL:k < (Z0A t.ns).length:=by simpa using hk
  generalize hx:(Z0A t.ns)[k]=x
  have hv:((Z0A t.ns).map fun s=>[Value.string s])[k]=[.string x]:=by simp[hx]
  rw[hv]
  have hstep:Z1X g.ds g.n ((Z0A t.ns).take (k+1))=Z4I g.n (Z1X g.ds g.n ((Z0A t.ns).take k)) (Z09 x g.ds 0):=by
   rw[List.take_succ_eq_append_getElem hkL,hx];simp[Z1X,List.foldl_append]
  have hlen:=Z3P g.ds g.n ((Z0A t.ns).take k);generalize hs:Z1X g.ds g.n ((Z0A t.ns).take k)=s at *
  rw[hstep];refine LoadOb.mk [.slice g.a g.n g.c] ⟨rfl,_,_,_,.inr ⟨_,.tail _ (.tail _ (.head _)),rfl,rfl⟩,rfl,rfl⟩ ?_
  refine CallOb.mk [] [⟨b5,.cells #[.slice (some ⟨b,0,none⟩) g.n g.n] 126 (0,0)⟩,Z10 b s,⟨b2,.cells #[.slice g.a g.n g.c] 30 (0,0)⟩] _ (.refl _) (Zam (hg1.mono hI') x) ?_;rintro v I' M' - ⟨rfl,rfl,rfl⟩;refine GuardOb.mk (fun h1=>?_) (fun h1=>?_)
  ·refine LoadOb.mk [.slice (some ⟨b,0,none⟩) g.n g.n] ⟨rfl,_,_,_,.inr ⟨_,.head _,rfl,rfl⟩,rfl,rfl⟩ ?_
   refine CondOb.mk (fun h2=>?_) (fun h2=>?_)
   ·have hk0:0≤Z09 x g.ds 0:=by simpa using h1
    have hkn:Z09 x g.ds 0 < g.n:=by simpa using h2
    have hmk:Z4I g.n s (Z09 x g.ds 0)=s.set (Z09 x g.ds 0).toNat true:=by
     rw[Z4I,h1,h2];rfl
    refine LoadOb.mk [.slice (some ⟨b,0,none⟩) g.n g.n] ⟨rfl,_,_,_,.inr ⟨_,.head _,rfl,rfl⟩,rfl,rfl⟩ ?_;refine IdxOb.mk ⟨b,0,none⟩ (Z09 x g.ds 0).toNat rfl (by omega) (by omega) ?_;refine StoreOb.add [⟨b5,.cells #[.slice (some ⟨b,0,none⟩) g.n g.n] 126 (0,0)⟩] [⟨b2,.cells #[.slice g.a g.n g.c] 30 (0,0)⟩] _ _ rfl ?_ rfl ?_
    ·simp only[List.size_toArray,List.length_map]
     show 0+(Z09 x g.ds 0).toNat * 1+1≤_
     omega
    refine⟨_,_,.refl,hI',?_⟩;rw[hmk]
    have e:=Z2n s (Z09 x g.ds 0).toNat (by omega) true;simp only[Z10];rw[←e]
    simp only[Nat.zero_add,Nat.mul_one];rfl
   ·refine⟨_,_,.refl,hI',?_⟩
    have:Z4I g.n s (Z09 x g.ds 0)=s:=by
     rw[Z4I,h1,h2];rfl
    rw[this];rfl
  ·refine⟨_,_,.refl,hI',?_⟩
   have:Z4I g.n s (Z09 x g.ds 0)=s:=by
    rw[Z4I,h1];rfl
   rw[this];rfl
 ·rintro I2 M2 - ⟨hI2,rfl⟩
  have hI02:∀ b o,I b=some o->I2 b=some o:=fun b o h=>hI2 _ _ (hI1 _ _ h)
  have hfull:(Z0A t.ns).take ((Z0A t.ns).map fun s=>[Value.string s]).length=Z0A t.ns:=List.take_of_length_le (by simp);rw[hfull]
  have hsl:=Z3P g.ds g.n (Z0A t.ns);have hcl:Z4l g t=Z1G true 0 (Z1X g.ds g.n (Z0A t.ns)):=rfl
  generalize hs:Z1X g.ds g.n (Z0A t.ns)=s at *;refine LoadOb.mk [.slice (some ⟨b,0,none⟩) g.n g.n] ⟨rfl,_,_,_,.inr ⟨_,.head _,rfl,rfl⟩,rfl,rfl⟩ ?_
  refine LoopOb.inv (ι:=Nat×OS) (fun x=>{ fl:=[(8,.val x.2.val),(32,.val (.slice (some ⟨b,0,none⟩) g.n g.n)),(33,.val (.int .i64 g.n)),(34,.val (.int .i64 x.1))],gi:=I2,mi:=x.2.blk 3++[Z10 b s] })
   (fun x=>x.1≤g.n∧x.2.ok 1 ((Z1G true 0 (s.take x.1)).map (.int .i64 ·))∧∀ g,x.2.a=some g->I2 g=none) (fun x=>g.n - x.1) ?_ ?_
  ·exact⟨(0,OS0),⟨by simp,Z1C 1,fun g h=>by cases h⟩,.sub (.cons _ (.cons_cons _ (List.nil_sublist _))) .refl,aF4,.nil⟩
  ·rintro⟨i,os⟩ ⟨hi,hos,hI⟩
   simp only at hi hos hI;have hol:=hos.len1;have hll:=Z72 true (s.take i) 0;have htl:=List.length_take_le i s;refine CondOb.mk (fun h=>?_) (fun h=>?_)
   ·have hlt:i < g.n:=by simpa using h
    have hlt':i < s.length:=by omega
    have hsn:=Z3O true s[i] (s.take i) 0;rw[←List.take_succ_eq_append_getElem hlt',List.length_take_of_le (by omega),Nat.zero_add] at hsn;refine IdxOb.mk ⟨b,0,none⟩ i rfl rfl hlt ?_;refine LoadOb.mk _ (Z3M (by simp) hlt') ?_;refine CondOb.mk (fun h2=>?_) (fun h2=>?_)
    ·rw[h2] at hsn
     refine AllocOb.mk fun b9 hb9 hbM9=>?_
     refine OtherOb.appendN Z00 rfl (by simp) (e:=3) rfl rfl rfl os hos rfl (m:=1) rfl (news:=[.int .i64 i]) (by decide) (Z0d (b:=b9) (cs:=[.int .i64 i]) (k:=0) (n:=1) (T:=3) (.head _) (by simp)) rfl (Mr:=[Z10 b s,⟨b9,.cells #[.int .i64 i] 3 (0,0)⟩]) (ZmC _ _ _) (by simp only[maxLen];omega) (by show (os.n+1) * 8≤_;omega) ?_;intro g' c' cur' q0 q1 q2 q3 q4;refine ArithOb.mk _ (Z03 (i:=i) (by omega)) ?_;refine⟨(i+1,⟨some g',os.n+1,c',cur'⟩),⟨⟨by simp only;omega,?_,fun g hg=>by cases hg;exact q0⟩,by simp only;omega⟩,.sub (.cons_cons _ (.cons_cons _ (List.nil_sublist _))) .refl,aF4,.nil⟩;simp only
     rw[hsn,List.map_append];exact Z5k hos q1 q2 q3 q4
    ·rw[h2] at hsn
     simp only[Bool.false_beq,Bool.not_true,cond_false,List.append_nil] at hsn;refine ArithOb.mk _ (Z03 (i:=i) (by omega)) ?_;refine⟨(i+1,os),⟨⟨by simp only;omega,?_,hI⟩,by simp only;omega⟩,.refl,aF4,.nil⟩;simp only
     rw[hsn];exact hos
   ·have hge:g.n≤i:=by simpa using h
    rw[List.take_of_length_le (by omega)] at hos hll hol;obtain⟨I',x,w1,w2,w3,w4,w5⟩:=OS.giveInts (e:=3) hos (by omega) hI [];rw[List.append_nil] at w1
    exact⟨_,_,.sub (List.sublist_append_left _ _) w1,fun b o h=>w2 _ _ (hI02 _ _ h),x,w3,w4,w5.trans hcl.symm,rfl⟩
def isM (m:List Bool) (k:Nat):Prop:=m.getD k false=true
def Z0T (m:List Bool) (o:List Int):List Int->List Bool×List Int
 | []=>(m,o)
 | k::ks=>bif m.getD k.toNat false then Z0T m o ks else Z0T (m.set k.toNat true) (o++[k]) ks
def Z4J (L:List (List Int)):Nat->List Bool->List Int->List Bool
 | 0,m,_=>m
 | f+1,m,o=>match o.getLast? with
  | none=>m
  | some w=>bif decide (0 < (Z0T m o.dropLast (L.getD w.toNat [])).2.length) then Z4J L f (Z0T m o.dropLast (L.getD w.toNat [])).1 (Z0T m o.dropLast (L.getD w.toNat [])).2 else (Z0T m o.dropLast (L.getD w.toNat [])).1
def Z3r (L:List (List Int)) (i:Nat):List Bool:=Z4J L (2 * L.length+2) ((List.replicate L.length false).set i true) [(i:Int)]
def Z4m:List Bool->Nat
 | []=>0
 | b::s=>(bif b then 0 else 1)+Z4m s
theorem Z74:∀ (m:List Bool) (k:Nat),k < m.length->m.getD k false=false->Z4m (m.set k true)+1=Z4m m
 | b::m,0,_,h=>by
  have:b=false:=by simpa using h
  subst this;simp[Z4m];omega
 | b::m,k+1,hk,h=>by
  have:=Z74 m k (by simpa using hk) (by simpa using h);simp only[List.set_cons_succ,Z4m]
  omega
theorem Zdm (m:List Bool):Z4m m≤m.length:=by
 induction m with
 | nil=>simp[Z4m]
 | cons b m ih=>
  simp only[Z4m,List.length_cons]
  cases b<;>simp<;>omega
theorem Z9l {m:List Bool} {k a:Nat} (hk:k < m.length):isM (m.set k true) a ↔ a=k∨isM m a:=by
 unfold isM;simp only[List.getD_eq_getElem?_getD,List.getElem?_set]
 by_cases e:k=a
 ·subst e
  simp[hk]
 ·rw[if_neg e]
  constructor
  ·exact .inr
  ·rintro(h | h)
   ·exact(e h.symm).elim
   ·exact h
def Z2d (n:Nat) (l:List Int):Prop:=∀ k∈l,0≤k∧k < n
structure Visited (m:List Bool) (o ks:List Int) (r:List Bool×List Int):Prop where
 len:r.1.length=m.length
 mono:∀ a,isM m a->isM r.1 a
 all:∀ k∈ks,isM r.1 k.toNat
 only:∀ a,isM r.1 a->isM m a∨((a:Int)∈ks∧(a:Int)∈r.2)
 keep:∀ k∈o,k∈r.2
 news:∀ k∈r.2,k∈o∨(k∈ks∧isM r.1 k.toNat)
 mu:2 * Z4m r.1+r.2.length≤2 * Z4m m+o.length
theorem Z75 {n:Nat}:∀ (ks:List Int) (m:List Bool) (o:List Int),m.length=n->Z2d n ks->Visited m o ks (Z0T m o ks)
 | [],m,o,_,_=>⟨rfl,fun _ h=>h,fun k hk=>by simp at hk,fun a h=>.inl h,fun k h=>h,fun k h=>.inl h,Nat.le_refl _⟩
 | k::ks,m,o,hm,hv=>by
  have hk:=hv k (by simp)
  have hv':Z2d n ks:=fun x hx=>hv x (by simp[hx])
  have hkl:k.toNat < m.length:=by omega
  unfold Z0T
  cases hb:m.getD k.toNat false with
  | true=>
   have h:=Z75 ks m o hm hv';simp only[cond_true];refine⟨h.len,h.mono,fun x hx=>?_,fun a ha=>?_,h.keep,fun x hx=>?_,h.mu⟩
   ·rcases List.mem_cons.1 hx with rfl | hx
    ·exact h.mono _ hb
    ·exact h.all x hx
   ·rcases h.only a ha with h1 | h1
    ·exact .inl h1
    ·exact .inr ⟨by simp[h1.1],h1.2⟩
   ·rcases h.news x hx with h1 | h1
    ·exact .inl h1
    ·exact .inr ⟨by simp[h1.1],h1.2⟩
  | false=>
   have h:=Z75 ks (m.set k.toNat true) (o++[k]) (by simpa using hm) hv';have hs:=Z74 m k.toNat hkl hb;have hmk:isM (Z0T (m.set k.toNat true) (o++[k]) ks).1 k.toNat:=h.mono _ ((Z9l hkl).2 (.inl rfl));have hko:k∈(Z0T (m.set k.toNat true) (o++[k]) ks).2:=h.keep k (by simp)
   simp only[cond_false];refine⟨by rw[h.len];simp,fun a ha=>h.mono a ((Z9l hkl).2 (.inr ha)),fun x hx=>?_,fun a ha=>?_,fun x hx=>h.keep x (by simp[hx]),fun x hx=>?_,?_⟩
   ·rcases List.mem_cons.1 hx with rfl | hx
    ·exact hmk
    ·exact h.all x hx
   ·rcases h.only a ha with h1 | h1
    ·rcases(Z9l hkl).1 h1 with rfl | h1
     ·have e:((k.toNat:Nat):Int)=k:=by omega
      rw[e];exact .inr ⟨by simp,hko⟩
     ·exact .inl h1
    ·exact .inr ⟨by simp[h1.1],h1.2⟩
   ·rcases h.news x hx with h1 | h1
    ·simp only[List.mem_append,List.mem_singleton] at h1
     rcases h1 with h1 | rfl
     ·exact .inl h1
     ·exact .inr ⟨by simp,hmk⟩
    ·exact .inr ⟨by simp[h1.1],h1.2⟩
   ·have:=h.mu
    simp only[List.length_append,List.length_cons,List.length_nil] at this;omega
inductive Comes (L:List (List Int)) (i:Nat):Nat->Prop
 | self:Comes L i i
 | next {a k:Nat} (h:Comes L i a) (hk:(k:Int)∈L.getD a []):Comes L i k
structure FromInv (L:List (List Int)) (i:Nat) (m:List Bool) (o:List Int):Prop where
 len:m.length=L.length
 val:Z2d L.length o
 mkd:∀ k∈o,isM m k.toNat
 cl:∀ a,isM m a->(a:Int)∈o∨∀ k∈L.getD a [],isM m k.toNat
 rch:∀ a,isM m a->Comes L i a
 self:isM m i
theorem ZmD {m:List Bool} {a:Nat} (h:isM m a):a < m.length:=by
 apply Nat.lt_of_not_le
 intro hle;unfold isM at h;simp[List.getD_eq_getElem?_getD,hle] at h
theorem FromInv.step {L:List (List Int)} (hL:∀ l∈L,Z2d L.length l) {i:Nat} {m:List Bool} {o:List Int} {w:Int} (h:FromInv L i m (o++[w])) :
  FromInv L i (Z0T m o (L.getD w.toNat [])).1 (Z0T m o (L.getD w.toNat [])).2∧2 * Z4m (Z0T m o (L.getD w.toNat [])).1+(Z0T m o (L.getD w.toNat [])).2.length < 2 * Z4m m+(o++[w]).length:=by
 have hw:=h.val w (by simp)
 have hwl:w.toNat < L.length:=by omega
 have hLw:L.getD w.toNat []=L[w.toNat]:=by simp[List.getD_eq_getElem?_getD,hwl]
 have hv:Z2d L.length (L.getD w.toNat []):=by rw[hLw];exact hL _ (List.getElem_mem hwl)
 have v:=Z75 (L.getD w.toNat []) m o h.len hv;have hwm:=h.mkd w (by simp);have hwc:=h.rch _ hwm
 refine⟨⟨v.len.trans h.len,fun k hk=>?_,fun k hk=>?_,fun a ha=>?_,fun a ha=>?_,v.mono _ h.self⟩,?_⟩
 ·rcases v.news k hk with h1 | h1
  ·exact h.val k (by simp[h1])
  ·exact hv k h1.1
 ·rcases v.news k hk with h1 | h1
  ·exact v.mono _ (h.mkd k (by simp[h1]))
  ·exact h1.2
 ·rcases v.only a ha with h1 | h1
  ·rcases h.cl a h1 with h2 | h2
   ·simp only[List.mem_append,List.mem_singleton] at h2
    rcases h2 with h2 | h2
    ·exact .inl (v.keep _ h2)
    ·have e:a=w.toNat:=by omega
     subst e;exact .inr v.all
   ·exact .inr fun k hk=>v.mono _ (h2 k hk)
  ·exact .inl h1.2
 ·rcases v.only a ha with h1 | h1
  ·exact h.rch a h1
  ·exact .next hwc h1.1
 ·have:=v.mu
  simp only[List.length_append,List.length_cons,List.length_nil];omega
structure FromSays (L:List (List Int)) (i:Nat) (m:List Bool):Prop where
 len:m.length=L.length
 iff:∀ a,isM m a ↔ Comes L i a
theorem FromInv.done {L:List (List Int)} {i:Nat} {m:List Bool} (hL:∀ l∈L,Z2d L.length l) (h:FromInv L i m []):FromSays L i m:=by
 refine⟨h.len,fun a=>⟨h.rch a,fun hc=>?_⟩⟩
 induction hc with
 | self=>exact h.self
 | next hc hk ih=>
  rcases h.cl _ ih with h1 | h1
  ·simp at h1
  ·simpa using h1 _ hk
theorem FromInv.start {L:List (List Int)} {i:Nat} (hi:i < L.length):FromInv L i ((List.replicate L.length false).set i true) [(i:Int)]:=by
 have hn:∀ a,¬ isM (List.replicate L.length false) a:=fun a=>by
  unfold isM
  by_cases h:a < L.length<;>simp[List.getD_eq_getElem?_getD,h]
 have hs:∀ a,isM ((List.replicate L.length false).set i true) a ↔ a=i:=fun a=>by
  rw[Z9l (by simpa using hi)];exact⟨fun h=>h.resolve_right (hn a),.inl⟩
 refine⟨by simp,fun k hk=>?_,fun k hk=>?_,fun a ha=>?_,fun a ha=>?_,(hs i).2 rfl⟩
 ·simp only[List.mem_singleton] at hk
  omega
 ·simp only[List.mem_singleton] at hk
  subst hk
  simpa using (hs i).2 rfl
 ·rw[(hs a).1 ha]
  exact .inl (by simp)
 ·rw[(hs a).1 ha]
  exact .self
theorem Zar {L:List (List Int)} (hL:∀ l∈L,Z2d L.length l) {i:Nat}:∀ (f:Nat) (m:List Bool) (o:List Int),FromInv L i m o->o≠[]->2 * Z4m m+o.length≤f->FromSays L i (Z4J L f m o)
 | 0,m,o,h,ho,hf=>by
  exact(ho (List.eq_nil_of_length_eq_zero (by omega))).elim
 | f+1,m,o,h,ho,hf=>by
  obtain⟨o',w,rfl⟩:∃ o' w,o=o'++[w]:=by
   rcases List.eq_nil_or_concat o with h1 | ⟨r,p,h1⟩
   ·exact(ho h1).elim
   ·exact⟨r,p,by simpa using h1⟩
  obtain⟨h1,h2⟩:=h.step hL;unfold Z4J;simp only[List.getLast?_concat,List.dropLast_concat]
  cases hb:decide (0 < (Z0T m o' (L.getD w.toNat [])).2.length) with
  | true=>
   simp only[cond_true];refine Zar hL f _ _ h1 (fun e=>?_) (by omega)
   rw[e] at hb;simp at hb
  | false=>
   simp only[cond_false];have e:(Z0T m o' (L.getD w.toNat [])).2=[]:=List.eq_nil_of_length_eq_zero (by simpa using hb)
   rw[e] at h1;exact h1.done hL
theorem ZiQ {L:List (List Int)} (hL:∀ l∈L,Z2d L.length l) {i:Nat} (hi:i < L.length):FromSays L i (Z3r L i):=by
 refine Zar hL _ _ _ (.start hi) (by simp) ?_;have:=Zdm ((List.replicate L.length false).set i true);simp only[List.length_set,List.length_replicate,List.length_cons,List.length_nil] at this ⊢
 omega
theorem Zew {pre post:List Value} {z v:Value} {k:Nat} (hk:k=pre.length):Z05 (pre++z::post) k [v]=pre++v::post:=by
 subst hk;unfold Z05
 have e:(pre++z::post).drop (pre.length+[v].length)=post:=by
  rw[show pre++z::post=(pre++[z])++post from by simp];exact List.drop_left' (by simp)
 rw[e,List.take_left' rfl];simp
def Z0O (g:Gr):List (List Int):=g.ds.map fun d=>Z4l g d.t
set_option maxHeartbeats 1000000 in
theorem Z8z {I:GH} {deb:List Int} (hT:Tabs I deb) {g:Gr} (hg:g.ok I) (hn:g.n≤1099511627776):Spec Tryz.prog 84 [g.val] I [] fun v I' M'=>(∀ b o,I b=some o->I' b=some o)∧M'=[] ∧
  ((Z13 deb g≠0∧v=.tuple #[.slice none 0 0,.bool false])∨(Z13 deb g=0∧∃ x:Ls,v=.tuple #[x.val,.bool true]∧x.ok I'∧x.ll=Z0O g)):=by
 refine Z01 [] Z00 Tryz.func84 rfl rfl rfl ?_;intro B h0;have hgn:=hg.n;refine CallOb.mk [] [] _ (.refl _) (Z6i hT hg) ?_;rintro v I1 M1 - ⟨rfl,hI1,rfl⟩;refine CondOb.mk (fun h=>?_) (fun h=>?_)
 ·exact⟨_,_,.refl,hI1,rfl,.inl ⟨by simpa using h,rfl⟩⟩
 ·have hmay:Z13 deb g=0:=by simpa using h
  refine MakeOb.mk g.n g.n rfl rfl (Nat.le_refl _) (by show 24 * g.n≤_;omega) (by omega) ?_
  refine AllocOb.mk fun b hb hbM=>?_
  refine LoopOb.inv (ι:=Nat×List Rw×GH) (fun x=>{ fl:=[(1,.ref 1 0),(4,.val (.slice (some ⟨b,0,none⟩) g.n g.n)),(15,.val (.slice g.a g.n g.c)),(16,.val (.int .i64 g.n)),(17,.val (.int .i64 x.1))],cl:=[(1,[.slice g.a g.n g.c])],gi:=x.2.2,mi:=[⟨b,.cells (x.2.1.map Rw.val++List.replicate (g.n - x.1) (Value.slice none 0 0)).toArray 57 (0,0)⟩] })
   (fun x=>x.1≤g.n∧x.2.1.length=x.1∧(∀ b o,I b=some o->x.2.2 b=some o)∧x.2.2 b=none∧(∀ r∈x.2.1,r.ok x.2.2)∧x.2.1.map (·.l)=(g.ds.take x.1).map (fun d=>Z4l g d.t)) (fun x=>g.n - x.1) ?_ ?_
  ·refine⟨(0,[],I1),⟨by simp,rfl,hI1,hb,by simp,rfl⟩,?_,aF5,.cons rfl .nil⟩
   show Wk _ _ [⟨b,.cells (Z15 [.slice none 0 0] (g.n * 1)).toArray 57 (0,0)⟩] _ _
   rw[Z1W,Nat.mul_one];exact .refl
  ·rintro⟨i,rs,I2⟩ ⟨hi,hrl,hI2,hb2,hro,hrs⟩
   simp only at hi hrl hI2 hb2 hro hrs;refine CondOb.mk (fun h=>?_) (fun h=>?_)
   ·have hlt:i < g.n:=by simpa using h
    have hlt':i < g.ds.length:=by omega
    have hg2:=hg.mono hI2;obtain⟨ad,had,hrd⟩:=hg2.rs.row Df.cells_len hlt hlt';have hdm:g.ds[i]∈g.ds:=List.getElem_mem hlt';refine IdxOb.mk ad i had rfl hlt ?_;refine LoadOb.mk _ (hrd _) ?_;refine CallOb.mkD [] [⟨b,.cells (rs.map Rw.val++List.replicate (g.n - i) (Value.slice none 0 0)).toArray 57 (0,0)⟩] _ (.refl _) (Z73 hg2 hn (hg2.ds _ hdm).t) ?_;rintro v I3 M3 - hd3 ⟨hI3,x,rfl,hx,hxl,rfl⟩;refine IdxOb.mk ⟨b,0,none⟩ i rfl rfl hlt ?_
    refine StoreOb.add [] [] _ _ rfl ?_ rfl ?_
    ·simp only[List.size_toArray,List.length_append,List.length_map,List.length_replicate]
     show 0+i * 1+1≤_
     omega
    refine ArithOb.mk _ (Z03 (i:=i) (by omega)) ?_;refine⟨(i+1,rs++[x],I3),⟨⟨by simp only;omega,by simp[hrl],fun b o h=>hI3 _ _ (hI2 _ _ h),hd3 _ (.head _),fun r hr=>?_,?_⟩,by simp only;omega⟩,?_,aF5,.cons rfl .nil⟩
    ·simp only[List.mem_append,List.mem_singleton] at hr
     rcases hr with hr | rfl
     ·exact(hro r hr).mono hI3
     ·exact hx
    ·simp only
     rw[List.map_append,hrs,List.take_succ_eq_append_getElem hlt',List.map_append];simp[hxl]
    ·have hrep:List.replicate (g.n - i) (Value.slice none 0 0)=.slice none 0 0::List.replicate (g.n - (i+1)) (Value.slice none 0 0):=by
      rw[show g.n - i=(g.n - (i+1))+1 from by omega,List.replicate_succ]
     have e:=Zew (pre:=rs.map Rw.val) (post:=List.replicate (g.n - (i+1)) (Value.slice none 0 0)) (z:=.slice none 0 0) (v:=x.val) (k:=0+i * 1) (by simp[hrl]);rw[hrep]
     simp only[List.map_append,List.map_cons,List.map_nil,List.append_assoc,List.cons_append,List.nil_append];rw[←e]
     exact .refl
   ·have hge:g.n≤i:=by simpa using h
    have hin:i=g.n:=by omega
    subst hin;refine⟨_,_,.prom rfl (by simp) .refl,fun b o h=>Z2p hb2 _ _ (hI2 _ _ h),rfl,.inr ⟨hmay,⟨rs,some ⟨b,0,none⟩,g.n,g.n⟩,rfl,⟨⟨by simp[hrl],⟨Nat.le_refl _,by simp only;omega⟩,.inr ⟨_,rfl,rfl,_,_,_,Z2b ..,?_⟩⟩,fun r hr=>(hro r hr).mono (Z2p hb2)⟩,?_⟩⟩
    ·simp[hrl]
     exact List.take_of_length_le (by simp[hrl])
    ·simp only[Ls.ll,hrs,Z0O]
     rw[List.take_of_length_le (by omega)]
theorem Zdn {X:Ctx} {c:Code} {F:Fr} {C:Bx} {I:GH} {M:List Blk} {K:KX} {t1 t2 t3:Nat} {a b d:SV} (h:∀ G GC,V X c (upd (upd (upd G t3 d) t2 b) t1 a) GC I M K)
  (h1:F t1=a) (h2:F t2=b) (h3:F t3=d):V X c F C I M K:=by
 have:=h F C
 rwa [Z3N h3,Z3N h2,Z3N h1] at this
abbrev ZiR:=Nat×List Bool×OS×List Int×Nat
def Zk1 (I:GH) (x:Ls) (y:ZiR):LP:={ fl:=[(0,.val x.val),(5,.val (.slice (some ⟨y.1,0,none⟩) x.n x.n)),(6,.val y.2.2.1.val)],gi:=I,mi:=y.2.2.1.blk 3++[Z10 y.1 y.2.1] }
structure FromLInv (I:GH) (L:List (List Int)) (i:Nat) (y:ZiR):Prop where
 blk:I y.1=none
 os:y.2.2.1.ok 1 (y.2.2.2.1.map (.int .i64 ·))
 inv:FromInv L i y.2.1 y.2.2.2.1
 ne:y.2.2.2.1≠[]
 mu:2 * Z4m y.2.1+y.2.2.2.1.length≤y.2.2.2.2
 top:y.2.2.2.2≤2 * L.length+2
 eq:Z3r L i=Z4J L y.2.2.2.2 y.2.1 y.2.2.2.1
theorem Zc1 (L:List (List Int)) (f:Nat) (m:List Bool) (o:List Int) (w:Int):Z4J L (f+1) m (o++[w]) =
  bif decide (0 < (Z0T m o (L.getD w.toNat [])).2.length) then Z4J L f (Z0T m o (L.getD w.toNat [])).1 (Z0T m o (L.getD w.toNat [])).2 else (Z0T m o (L.getD w.toNat [])).1:=by
 rw[Z4J];simp only[List.getLast?_concat,List.dropLast_concat]
set_option maxHeartbeats 4000000 in
theorem Zas {I:GH} {x:Ls} (hx:x.ok I) (hn:x.n≤1099511627776) (hL:∀ l∈x.ll,Z2d x.ll.length l) {i:Nat} (y:ZiR) (hy:FromLInv I x.ll i y) {p:Nat->ZiR->Prop}
  (hp:∀ z,FromLInv I x.ll i z->z.2.2.2.2 < y.2.2.2.2->p 0 z) (B:Nat) (h0:World) (G:Fr) (GC:Bx) :
  V ⟨Tryz.prog,Z2L,[],Tryz.f86.ntmps,B,h0,I,[],none⟩ (Z9j (Z5i (Tryz.f86.body.getD .skip)) 0)
   (upd (upd (upd G 6 (.val y.2.2.1.val)) 5 (.val (.slice (some ⟨y.1,0,none⟩) x.n x.n))) 0 (.val x.val)) GC I (y.2.2.1.blk 3++[Z10 y.1 y.2.1])
   (scK (fun l=>InvAt [] (Zk1 I x) (p l)) (ZfB ⟨Tryz.prog,Z2L,[],Tryz.f86.ntmps,B,h0,I,[],none⟩ Tryz.f86.results.toList
    (fun v I' M'=>(∀ b o,I b=some o->I' b=some o)∧∃ r:Rb,v=r.val∧r.ok I'∧r.l=Z3r x.ll i∧M'=[]))):=by
 obtain⟨b,m,⟨oa,n,cp,cur⟩,o,f⟩:=y;obtain⟨hb,hos,hinv,hne,hmu,htop,heq⟩:=hy;simp only at hb hos hinv hne hmu htop heq hp ⊢;have hxn:=hx.n
 have hll:x.ll.length=x.n:=by simp[Ls.ll,hxn]
 have hml:m.length=x.n:=hinv.len.trans hll
 obtain⟨o',w,rfl⟩:∃ o' w,o=o'++[w]:=by
  rcases List.eq_nil_or_concat o with h1 | ⟨r,p,h1⟩
  ·exact(hne h1).elim
  ·exact⟨r,p,by simpa using h1⟩
 have hol:n=o'.length+1:=by
  have:=hos.len1
  simpa using this
 cases oa with
 | none=>have:=(hos.nil rfl).1;simp only at this;omega
 | some gb=>
 obtain⟨hcl,hnc,hcm,hct⟩:=hos.cap gb rfl;simp only at hcl hnc hcm hct;have hw:=hinv.val w (by simp)
 have hwl:w.toNat < x.ll.length:=by omega
 have hwr:w.toNat < x.rows.length:=by omega
 have hwn:w.toNat < x.n:=by omega
 obtain⟨hst,hlt⟩:=hinv.step hL
 have hLw:x.ll.getD w.toNat []=x.rows[w.toNat].l:=by simp[Ls.ll,List.getD_eq_getElem?_getD,hwr]
 rw[hLw] at hst hlt;obtain⟨f,rfl⟩:∃ f',f=f'+1:=⟨f - 1,by simp at hmu;omega⟩
 have hgo:Z3r x.ll i=bif decide (0 < (Z0T m o' x.rows[w.toNat].l).2.length) then Z4J x.ll f (Z0T m o' x.rows[w.toNat].l).1 (Z0T m o' x.rows[w.toNat].l).2 else (Z0T m o' x.rows[w.toNat].l).1:=by
  rw[heq,Zc1,hLw]
 have hval:Z2d x.ll.length x.rows[w.toNat].l:=hL _ (by simp only[Ls.ll];exact List.mem_map.2 ⟨_,List.getElem_mem hwr,rfl⟩);have hrow:=hx.rows _ (List.getElem_mem hwr)
 have hrn:=hrow.n;have hrc:=hrow.rs.cap;obtain⟨ar,har,hrr⟩:=hx.rs.one hwn hwr
 have hn1:IntKind.i64.wrap ((n:Int) - 1)=((n - 1:Nat):Int):=by
  simp only[List.length_append,List.length_cons,List.length_nil] at hmu;rw[Z08 ⟨by omega,by omega⟩];omega
 obtain⟨rest,hcur⟩:∃ rest,cur=o'.map (Value.int .i64)++(.int .i64 w::rest):=by
  refine⟨cur.drop n,?_⟩;have h2:=List.take_append_drop (n * 1) cur
  rw[hct,Nat.mul_one] at h2;rw[List.map_append,List.append_assoc] at h2;exact h2.symm
 have hcw:cur.drop (n - 1)=.int .i64 w::rest:=by
  rw[hcur];exact List.drop_left' (by simp;omega)
 refine ArithOb.mk _ hn1 ?_;refine IdxOb.mk ⟨gb,0,none⟩ (n - 1) rfl rfl (by show n - 1 < n;omega) ?_;refine LoadOb.mk [.int .i64 w] ?_ ?_
 ·have:=Z0d (I:=I) (M:=[⟨gb,.cells cur.toArray 3 (0,0)⟩]++[Z10 b m]) (b:=gb) (cs:=cur) (T:=3) (.head _) (k:=(n - 1) * 1) (n:=1) (by omega)
  rw[Nat.mul_one,hcw] at this;rw[Nat.mul_one];exact this
 refine ArithOb.mk _ hn1 ?_;refine SliceOb.mk 0 (n - 1) rfl rfl (Nat.zero_le _) (by show n - 1≤cp;omega) ?_;refine IdxOb.mk ar w.toNat har (by omega) hwn ?_;refine LoadOb.mk _ (hrr _) ?_;generalize hks:x.rows[w.toNat]=row at *
 have hos0:OS.ok ⟨some gb,n - 1,cp,cur⟩ 1 (o'.map (.int .i64 ·)):=by
  refine⟨by simp;omega,(fun h=>by cases h),fun g3 h3=>⟨hcl,by show n - 1≤cp;omega,hcm,?_⟩⟩
  show cur.take ((n - 1) * 1)=_
  have h2:=List.take_append_drop (n * 1) cur;rw[hct,Nat.mul_one] at h2;rw[←h2,List.map_append,List.append_assoc,Nat.mul_one];exact List.take_left' (by simp;omega)
 simp only[List.length_append,List.length_cons,List.length_nil] at hlt hmu
 refine LoopOb.inv (ι:=Nat×List Bool×OS×List Int) (fun z=>{ fl:=[(0,.val x.val),(5,.val (.slice (some ⟨b,0,none⟩) x.n x.n)),(6,.val z.2.2.1.val),(32,.val row.val),(33,.val (.int .i64 row.n)),(34,.val (.int .i64 z.1))],gi:=I,mi:=z.2.2.1.blk 3++[Z10 b z.2.1] })
  (fun z=>z.1≤row.n∧z.2.1.length=x.n∧z.2.2.1.ok 1 (z.2.2.2.map (.int .i64 ·))∧2 * Z4m z.2.1+z.2.2.2.length≤2 * x.n+2∧Z0T m o' row.l=Z0T z.2.1 z.2.2.2 (row.l.drop z.1)) (fun z=>row.n - z.1) ?_ ?_
 ·exact⟨(0,m,⟨some gb,n - 1,cp,cur⟩,o'),⟨by simp,hml,hos0,by simp only;omega,rfl⟩,.refl,aF6,.nil⟩
 ·rintro⟨j,s,os,q⟩ ⟨hj,hsl,hoq,hmq,hvq⟩
  simp only at hj hsl hoq hmq hvq;refine CondOb.mk (fun h=>?_) (fun h=>?_)
  ·have hjl:j < row.n:=by simpa using h
   have hjl':j < row.l.length:=by omega
   obtain⟨ak,hak,hrk⟩:=hrow.rs.one hjl hjl';have hkd:row.l.drop j=row.l[j]::row.l.drop (j+1):=List.drop_eq_getElem_cons hjl';have hkv:=hval _ (List.getElem_mem hjl');generalize hk:row.l[j]=k at *
   have hkl:k.toNat < s.length:=by omega
   have hoql:=hoq.len1;refine IdxOb.mk ak j hak rfl hjl ?_;refine LoadOb.mk _ (hrk _) ?_;refine IdxOb.mk ⟨b,0,none⟩ k.toNat rfl (by omega) (by omega) ?_;refine LoadOb.mk _ (Z3M (by simp) hkl) ?_
   have hgd:s.getD k.toNat false=s[k.toNat]:=by simp[List.getD_eq_getElem?_getD,hkl]
   refine CondOb.mk (fun h2=>?_) (fun h2=>?_)
   ·have hf:s.getD k.toNat false=false:=by rw[hgd];simpa using h2
    have hop:=Z74 s k.toNat hkl hf;refine IdxOb.mk ⟨b,0,none⟩ k.toNat rfl (by omega) (by omega) ?_;refine StoreOb.add (os.blk 3) [] _ _ rfl ?_ rfl ?_
    ·simp only[List.size_toArray,List.length_map]
     show 0+k.toNat * 1+1≤_
     omega
    have e:=Z2n s k.toNat hkl true
    refine AllocOb.mk fun b9 hb9 hbM9=>?_
    refine OtherOb.append Z00 rfl (by simp) (e:=3) rfl rfl rfl os hoq rfl (m:=1) rfl (news:=[.int .i64 k]) (by decide) (Z0d (b:=b9) (cs:=[.int .i64 k]) (k:=0) (n:=1) (T:=3) (.head _) (by simp)) rfl (Mr:=[⟨b,.cells (Z05 (s.map Value.bool) (0+k.toNat * 1) [.bool true]).toArray 4 (0,0)⟩,⟨b9,.cells #[.int .i64 k] 3 (0,0)⟩]) (ZmC _ _ _) (by simp only[maxLen];omega) (by show (os.n+1) * 8≤_;omega) ?_;intro g' c' cur' q1 q2 q3 q4;refine ArithOb.mk _ (Z03 (i:=j) (by omega)) ?_;refine⟨(j+1,s.set k.toNat true,⟨some g',os.n+1,c',cur'⟩,q++[k]),⟨⟨by simp only;omega,by simpa using hsl,?_,?_,?_⟩,by simp only;omega⟩,?_,aF6,.nil⟩
    ·simp only
     rw[List.map_append];exact Z5k hoq q1 q2 q3 q4
    ·simp only[List.length_append,List.length_cons,List.length_nil]
     omega
    ·simp only
     rw[hvq,hkd,Z0T,hf];rfl
    ·simp only[Z10]
     rw[←e];simp only[Nat.zero_add,Nat.mul_one]
     exact .sub (.cons_cons _ (.cons_cons _ (List.nil_sublist _))) .refl
   ·have hf:s.getD k.toNat false=true:=by rw[hgd];simpa using h2
    refine ArithOb.mk _ (Z03 (i:=j) (by omega)) ?_;refine⟨(j+1,s,os,q),⟨⟨by simp only;omega,hsl,hoq,hmq,?_⟩,by simp only;omega⟩,.refl,aF6,.nil⟩;simp only
    rw[hvq,hkd,Z0T,hf];rfl
  ·have hge:row.n≤j:=by simpa using h
   have hv:Z0T m o' row.l=(s,q):=by
    rw[hvq,List.drop_eq_nil_of_le (by omega)];rfl
   rw[hv] at hgo hst hlt;simp only at hgo hst hlt;have hoql:=hoq.len1;refine CondOb.mk (fun h2=>?_) (fun h2=>?_)
   ·have hql:0 < q.length:=by simp at h2;omega
    refine⟨(b,s,os,q,f),hp _ ⟨hb,hoq,hst,fun e=>by simp only at e;rw[e] at hql;simp at hql,by simp only;omega,by simp only;omega,?_⟩ (by simp only;omega),.refl,aF3,.nil⟩;simp only
    rw[hgo,show decide (0 < q.length)=true from decide_eq_true hql];rfl
   ·have hql:¬ 0 < q.length:=by simp at h2;omega
    have hfl:Z3r x.ll i=s:=by
     rw[hgo,show decide (0 < q.length)=false from decide_eq_false hql];rfl
    refine⟨_,_,.sub (List.sublist_append_right _ _) (.prom rfl (by simp) .refl),Z2p hb,⟨some ⟨b,0,none⟩,x.n,x.n,s⟩,rfl,⟨⟨by simp[hsl],⟨Nat.le_refl _,by simp only;omega⟩,.inr ⟨_,rfl,rfl,_,_,_,Z2b ..,?_⟩⟩⟩,hfl.symm,rfl⟩;simp[hsl]
    exact List.take_of_length_le (by simp[hsl])
theorem Zat {I:GH} {x:Ls} (hx:x.ok I) (hn:x.n≤1099511627776) (hL:∀ l∈x.ll,Z2d x.ll.length l) {i:Nat} (hi:i < x.n):Spec Tryz.prog 86 [x.val,.int .i64 i] I [] fun v I' M'=>(∀ b o,I b=some o->I' b=some o)∧∃ r:Rb,v=r.val∧r.ok I'∧r.l=Z3r x.ll i∧M'=[]:=by
 refine Z01 [] Z00 Tryz.func86 rfl rfl rfl ?_;intro B h0;have hxn:=hx.n
 have hll:x.ll.length=x.n:=by simp[Ls.ll,hxn]
 refine CodeOb.scope Z00 rfl (Zk1 I x) (fun _=>0) (FromLInv I x.ll i) (fun y=>y.2.2.2.2) (fun _=>Z9j (Z5i (Tryz.f86.body.getD .skip)) 0) (fun _ _=>⟨by kernel_rfl,by kernel_rfl⟩) ?_ ?_
 ·refine MakeOb.mk x.n x.n rfl rfl (Nat.le_refl _) (by show 1 * x.n≤_;omega) (by omega) ?_
  refine AllocOb.mk fun b hb hbM=>?_
  refine IdxOb.mk ⟨b,0,none⟩ i rfl rfl hi ?_
  have hr:Z15 [.bool false] (x.n * 1)=(List.replicate x.n false).map Value.bool:=by
   rw[Z1W,Nat.mul_one,List.map_replicate]
  refine StoreOb.add [] [] (((List.replicate x.n false).map Value.bool).toArray) 4 (by rw[←hr];rfl) ?_ rfl ?_
  ·simp only[List.size_toArray,List.length_map,List.length_replicate]
   show 0+i * 1+1≤_
   omega
  refine AllocOb.mk fun b6 hb6 hbM6=>?_
  have e:=Z2n (List.replicate x.n false) i (by simpa using hi) true;have hst:=FromInv.start (L:=x.ll) (i:=i) (by omega);rw[hll] at hst
  have key:=fun G GC=>Zas hx hn hL (i:=i) (b,(List.replicate x.n false).set i true,⟨some b6,1,1,[.int .i64 i]⟩,[(i:Int)],2 * x.n+2) ⟨hb,⟨rfl,(fun h=>by cases h),fun g3 _=>⟨rfl,Nat.le_refl _,by simp only[maxLen];omega,rfl⟩⟩,hst,by simp,?_,by simp only;omega,by simp only[Z3r];rw[hll]⟩ (p:=fun l y=>FromLInv I x.ll i y∧0=l) (fun z hz _=>⟨hz,rfl⟩) B h0 G GC
  ·refine Zdn (t1:=0) (t2:=5) (t3:=6) (fun G GC=>?_) rfl rfl rfl
   have k2:=key G GC;simp only[Z10] at k2;rw[←e] at k2;simp only[Nat.zero_add,Nat.mul_one];exact k2
  ·simp only
   have:=Zdm ((List.replicate x.n false).set i true);simp only[List.length_set,List.length_replicate,List.length_cons,List.length_nil] at this ⊢
   omega
 ·intro y hy
  exact Zdn (t1:=0) (t2:=5) (t3:=6) (fun G GC=>Zas hx hn hL y hy (fun z hz hlt=>⟨⟨hz,rfl⟩,hlt⟩) B h0 G GC) rfl rfl rfl
theorem Z76 (wh:Bool):∀ (s:List Bool) (i:Nat) (k:Int),k∈Z1G wh i s ↔ ∃ j:Nat,k=((i+j:Nat):Int)∧s[j]?=some wh
 | [],i,k=>by simp[Z1G]
 | b::s,i,k=>by
  have ih:=Z76 wh s (i+1) k;unfold Z1G
  have tail:(∃ j:Nat,k=((i+1+j:Nat):Int)∧s[j]?=some wh) ↔ ∃ j:Nat,k=((i+(j+1):Nat):Int)∧(b::s)[j+1]?=some wh:=by
   constructor
   ·rintro⟨j,h1,h2⟩
    exact⟨j,by rw[h1];omega,by simpa using h2⟩
   ·rintro⟨j,h1,h2⟩
    exact⟨j,by rw[h1];omega,by simpa using h2⟩
  have split:(∃ j:Nat,k=((i+j:Nat):Int)∧(b::s)[j]?=some wh) ↔ (k=(i:Int)∧b=wh)∨∃ j:Nat,k=((i+(j+1):Nat):Int)∧(b::s)[j+1]?=some wh:=by
   constructor
   ·rintro⟨j,h1,h2⟩
    cases j with
    | zero=>exact .inl ⟨by simpa using h1,by simpa using h2⟩
    | succ j=>exact .inr ⟨j,h1,h2⟩
   ·rintro(⟨h1,h2⟩ | ⟨j,h1,h2⟩)
    ·exact⟨0,by simpa using h1,by simpa using h2⟩
    ·exact⟨j+1,h1,h2⟩
  rw[split]
  cases hb:b == wh with
  | true=>
   have:b=wh:=by simpa using hb
   simp only[cond_true,List.mem_cons,ih,tail];simp[this]
  | false=>
   have:b≠wh:=by simpa using hb
   simp only[cond_false,ih,tail];simp[this]
theorem Z77 {wh:Bool} {s:List Bool}:Z2d s.length (Z1G wh 0 s):=fun k hk=>by
 obtain⟨j,h1,h2⟩:=(Z76 wh s 0 k).1 hk;have:=(List.getElem?_eq_some_iff.1 h2).1;omega
theorem Z9m (g:Gr) (t:Tr):Z2d g.n (Z4l g t):=by
 have h:=Z77 (wh:=true) (s:=Z1X g.ds g.n (Z0A t.ns));rw[Z3P] at h
 exact h
theorem Z1Y {g:Gr} (hn:g.ds.length=g.n):∀ l∈Z0O g,Z2d (Z0O g).length l:=by
 intro l hl;obtain⟨d,_,rfl⟩:=List.mem_map.1 hl;simp only[Z0O,List.length_map,hn];exact Z9m g d.t
theorem listL_isM {s:List Bool} {k:Nat}:(k:Int)∈Z1G true 0 s ↔ isM s k:=by
 rw[Z76];unfold isM
 constructor
 ·rintro⟨j,h1,h2⟩
  have:k=j:=by omega
  subst this;simp[List.getD_eq_getElem?_getD,h2]
 ·intro h
  refine⟨k,by omega,?_⟩;have hl:=ZmD h
  simp only[List.getD_eq_getElem?_getD,List.getElem?_eq_getElem hl,Option.getD_some] at h;rw[List.getElem?_eq_getElem hl,h]
def mat (R:List (List Bool)) (i k:Nat):Bool:=(R.getD i []).getD k false
def Mutual (R:List (List Bool)) (i k:Nat):Prop:=mat R i k=true∧mat R k i=true
theorem Mutual.symm {R:List (List Bool)} {i j:Nat} (h:Mutual R i j):Mutual R j i:=⟨h.2,h.1⟩
theorem Comes.trans {L:List (List Int)} {i j k:Nat} (h1:Comes L i j) (h2:Comes L j k):Comes L i k:=by
 induction h2 with
 | self=>exact h1
 | next _ hk ih=>exact .next ih hk
def rw0:Rw:=⟨none,0,0,[]⟩
theorem Z5M (I:GH):rw0.ok I:=⟨⟨rfl,⟨Nat.le_refl _,by simp[rw0]⟩,.inl rfl⟩⟩
def inR (i:Int) (n:Nat):Bool:=!decide (i < 0) && !decide ((n:Int)≤i)
def Z0E (deb:List Int) (g:Gr) (i:Int):List Int:=bif inR i g.n && decide (Z13 deb g=0) then (Z0O g).getD i.toNat [] else []
def Zau (deb:List Int) (g:Gr) (i:Int):List Int:=bif inR i g.n && decide (Z13 deb g=0) then Z1G true 0 (Z3r (Z0O g) i.toNat) else []
def Z0Z (deb:List Int) (g:Gr):List Int:=bif decide (Z13 deb g=0) && !decide ((g.n:Int)=0) then Z1G false 0 (Z3r (Z0O g) 0) else []
theorem Zex {I:GH} {deb:List Int} (hT:Tabs I deb) {g:Gr} (hg:g.ok I) (hn:g.n≤1099511627776) (i:Int):Spec Tryz.prog 76 [g.val,.int .i64 i] I [] fun v I' M'=>(∀ b o,I b=some o->I' b=some o)∧∃ x:Rw,v=x.val∧x.ok I'∧x.l=Z0E deb g i∧M'=[]:=by
 refine Z01 [] Z00 Tryz.func76 rfl rfl rfl ?_;intro B h0;have hgn:=hg.n;refine GuardOb.mk (fun h1=>?_) (fun h1=>?_)
 ·refine GuardOb.mk (fun h2=>?_) (fun h2=>?_)
  ·have hin:inR i g.n=true:=by
    have h2':decide ((g.n:Int)≤i)=false:=h2;rw[inR,h1,h2'];rfl
   refine CallOb.mk [] [] _ (.refl _) (Z6i hT hg) ?_;rintro v I1 M1 - ⟨rfl,hI1,rfl⟩;refine CondOb.mk (fun h3=>?_) (fun h3=>?_)
   ·refine⟨_,_,.refl,hI1,rw0,rfl,Z5M _,?_,rfl⟩
    have h3':decide (Z13 deb g=0)=false:=by simpa using h3
    rw[Z0E,hin,h3'];rfl
   ·have hm:decide (Z13 deb g=0)=true:=by simpa using h3
    have hi0:0≤i:=by simpa using h1
    have hi1:i < g.n:=by simpa using h2
    have hl':i.toNat < g.ds.length:=by omega
    have hg1:=hg.mono hI1;obtain⟨ad,had,hrd⟩:=hg1.rs.row Df.cells_len (j:=i.toNat) (by omega) hl';have hdm:g.ds[i.toNat]∈g.ds:=List.getElem_mem hl';refine CodeOb.draw Z00 rfl rfl rfl ?_;refine IdxOb.mk ad i.toNat had (by omega) (by omega) ?_;refine LoadOb.mk _ (Rd.part (k:=1) (m:=2) (hrd _) (by decide)) ?_;refine CallOb.mk [] [] _ (.refl _) (Z73 hg1 hn (hg1.ds _ hdm).t) ?_;rintro v I2 M2 - ⟨hI2,x,rfl,hx,hxl,rfl⟩;refine⟨_,_,.refl,fun b o h=>hI2 _ _ (hI1 _ _ h),x,rfl,hx,?_,rfl⟩
    rw[Z0E,hin,hm,hxl];simp[Z0O,List.getD_eq_getElem?_getD,hl']
  ·refine⟨_,_,.refl,fun _ _ h=>h,rw0,rfl,Z5M _,?_,rfl⟩
   have h2':decide ((g.n:Int)≤i)=true:=h2;rw[Z0E,inR,h1,h2'];rfl
 ·refine⟨_,_,.refl,fun _ _ h=>h,rw0,rfl,Z5M _,?_,rfl⟩
  rw[Z0E,inR,h1];rfl
theorem Z3Q {g:Gr} (hn:g.ds.length=g.n):(Z0O g).length=g.n:=by simp[Z0O,hn]
theorem Z6j {L:List (List Int)} (hL:∀ l∈L,Z2d L.length l) {i:Nat} (hi:i < L.length):(Z3r L i).length=L.length:=(ZiQ hL hi).len
theorem Zg3 {I:GH} {deb:List Int} (hT:Tabs I deb) {g:Gr} (hg:g.ok I) (hn:g.n≤1099511627776) (i:Int):Spec Tryz.prog 46 [g.val,.int .i64 i] I [] fun v I' M'=>(∀ b o,I b=some o->I' b=some o)∧∃ x:Rw,v=x.val∧x.ok I'∧x.l=Zau deb g i∧M'=[]:=by
 refine Z01 [] Z00 Tryz.func46 rfl rfl rfl ?_;intro B h0;have hgn:=hg.n;refine CallOb.mk [] [] _ (.refl _) (Z8z hT hg hn) ?_;rintro v I1 M1 - ⟨hI1,rfl,⟨hm,rfl⟩ | ⟨hm,x,rfl,hx,hxl⟩⟩
 ·refine GuardOb.mk (fun h=>by cases h) (fun _=>?_)
  refine⟨_,_,.refl,hI1,rw0,rfl,Z5M _,?_,rfl⟩
  have h3':decide (Z13 deb g=0)=false:=by simpa using hm
  rw[Zau,h3',Bool.and_false];rfl
 ·have h3':decide (Z13 deb g=0)=true:=by simpa using hm
  have hxn:x.n=g.n:=by
   have h1:=hx.n;have h2:=congrArg List.length hxl;simp only[Ls.ll,List.length_map,Z0O] at h2;omega
  have hv:∀ l∈x.ll,Z2d x.ll.length l:=by rw[hxl];exact Z1Y hgn
  refine GuardOb.mk (fun _=>?_) (fun h=>by cases h);refine GuardOb.mk (fun h1=>?_) (fun h1=>?_)
  ·refine CondOb.mk (fun h2=>?_) (fun h2=>?_)
   ·refine⟨_,_,.refl,hI1,rw0,rfl,Z5M _,?_,rfl⟩
    have h2':decide ((g.n:Int)≤i)=true:=by rw[←hxn];exact h2
    rw[Zau,inR,h1,h2'];rfl
   ·have h2':decide ((g.n:Int)≤i)=false:=by rw[←hxn];exact h2
    have hi0:0≤i:=by simpa using h1
    have hi1:i < g.n:=by simpa using h2'
    obtain⟨j,rfl⟩:=Int.eq_ofNat_of_zero_le hi0;refine CallOb.mk [] [] _ (.refl _) (Zat hx (by omega) hv (i:=j) (by omega)) ?_;rintro v I2 M2 - ⟨hI2,r,rfl,hr,hrl,rfl⟩
    have hrn:r.n=g.n:=by
     have h1:=hr.n;rw[hrl,Z6j hv (by rw[hxl,Z3Q hgn];omega),hxl,Z3Q hgn] at h1;exact h1.symm
    refine CallOb.mk [] [] _ (.refl _) (Zap hr (by omega) true) ?_;rintro v I3 M3 - ⟨hI3,y,rfl,hy,hyl,rfl⟩;refine⟨_,_,.refl,fun b o h=>hI3 _ _ (hI2 _ _ (hI1 _ _ h)),y,rfl,hy,?_,rfl⟩
    rw[Zau,inR,h1,h2',h3',hyl,hrl,hxl];rfl
  ·refine⟨_,_,.refl,hI1,rw0,rfl,Z5M _,?_,rfl⟩
   rw[Zau,inR,h1];rfl
theorem Zav {I:GH} {deb:List Int} (hT:Tabs I deb) {g:Gr} (hg:g.ok I) (hn:g.n≤1099511627776):Spec Tryz.prog 47 [g.val] I [] fun v I' M'=>(∀ b o,I b=some o->I' b=some o)∧∃ x:Rw,v=x.val∧x.ok I'∧x.l=Z0Z deb g∧M'=[]:=by
 refine Z01 [] Z00 Tryz.func47 rfl rfl rfl ?_;intro B h0;have hgn:=hg.n;refine CallOb.mk [] [] _ (.refl _) (Z8z hT hg hn) ?_;rintro v I1 M1 - ⟨hI1,rfl,⟨hm,rfl⟩ | ⟨hm,x,rfl,hx,hxl⟩⟩
 ·refine GuardOb.mk (fun h=>by cases h) (fun _=>?_)
  refine⟨_,_,.refl,hI1,rw0,rfl,Z5M _,?_,rfl⟩
  have h3':decide (Z13 deb g=0)=false:=by simpa using hm
  rw[Z0Z,h3'];rfl
 ·have h3':decide (Z13 deb g=0)=true:=by simpa using hm
  have hxn:x.n=g.n:=by
   have h1:=hx.n;have h2:=congrArg List.length hxl;simp only[Ls.ll,List.length_map,Z0O] at h2;omega
  have hv:∀ l∈x.ll,Z2d x.ll.length l:=by rw[hxl];exact Z1Y hgn
  refine GuardOb.mk (fun _=>?_) (fun h=>by cases h);refine CondOb.mk (fun h2=>?_) (fun h2=>?_)
  ·refine⟨_,_,.refl,hI1,rw0,rfl,Z5M _,?_,rfl⟩
   have h2':decide ((g.n:Int)=0)=true:=by rw[←hxn];exact h2
   rw[Z0Z,h2',h3'];rfl
  ·have h2':decide ((g.n:Int)=0)=false:=by rw[←hxn];exact h2
   have hpos:g.n≠0:=by simp at h2';omega
   refine CallOb.mk [] [] _ (.refl _) (Zat hx (by omega) hv (i:=0) (by omega)) ?_;rintro v I2 M2 - ⟨hI2,r,rfl,hr,hrl,rfl⟩
   have hrn:r.n=g.n:=by
    have h1:=hr.n;rw[hrl,Z6j hv (by rw[hxl,Z3Q hgn];omega),hxl,Z3Q hgn] at h1;exact h1.symm
   refine CallOb.mk [] [] _ (.refl _) (Zap hr (by omega) false) ?_;rintro v I3 M3 - ⟨hI3,y,rfl,hy,hyl,rfl⟩;refine⟨_,_,.refl,fun b o h=>hI3 _ _ (hI2 _ _ (hI1 _ _ h)),y,rfl,hy,?_,rfl⟩
   rw[Z0Z,h2',h3',hyl,hrl,hxl];rfl
structure Lb where
 rows:List Rb
 a:Option Addr
 n:Nat
 c:Nat
def Lb.val (x:Lb):Value:=.slice x.a x.n x.c
structure Lb.ok (I:GH) (x:Lb):Prop where
 rs:RS I x.a x.n x.c 1 24 (x.rows.map Rb.val)
 rows:∀ r∈x.rows,r.ok I
def Z4n (W:World):GH:=fun b=>W.heap[b]?
theorem Zc2 (W:World):Holds (Z4n W) [] W:=⟨fun b o h=>h,(fun x hx=>by cases hx),(fun x hx=>by cases hx),List.nodup_nil⟩
structure OldKept (W W':World):Prop where
 old:∀ b,b < W.heap.size->W'.heap[b]?=W.heap[b]?
 sz:W.heap.size≤W'.heap.size
 out:Same W W'
theorem Z8b {P:Program} {f:Nat} {args:List Value} {W:World} {post:Value->GH->List Blk->Prop} (h:Z98 P f args (Z4n W) [] post) :
  Calls P f args.toArray W fun e W'=>∃ v,e=.returned v∧(∃ I' M',post v I' M')∧OldKept W W':=by
 refine(h.2 W (Zc2 W)).mono ?_;rintro e W' ⟨v,I',M',rfl,hp,_,hK⟩;exact⟨v,rfl,⟨I',M',hp⟩,fun b hb=>hK.old b hb (fun y hy=>by cases hy),hK.sz,hK.out⟩
theorem OldKept.kept {W W':World} (h:OldKept W W') (may:MemPlace->Prop):W.keptBut W' may:=by
 refine⟨h.out.1,h.out.2,fun i hi=>?_⟩;rw[h.old i hi]
 cases W.heap[i]? with
 | none=>rfl
 | some o=>cases o<;>simp
theorem OldKept.frozen {W W':World} (h:OldKept W W') {a:Addr} (ha:a.block < W.heap.size):W'.frozen? a=W.frozen? a:=by
 unfold World.frozen?;rw[h.old _ ha]
variable {H:Type} {enc:TypeId×Value->H} {P:Program}
theorem Zc3 {f:Func} {s:ChangeSpec} {apart fresh handsOn again:Bool} {W W':World} {args:Array Value} {v:Value} {ds gs:List (DataW H)} {before pa pv:List MemPlace}
  (hW:DataW.Whole enc P f.params.toList s.vars apart W args.toList ds gs before)
  (hres:∀ (b:Nat) (sp:Nat->Bool) (hd:Bool),DataW.TrodAll enc P W' b sp hd f.resultTypes.toList (v.resultList f.resultTypes.size) (s.fn H (ds++gs)).results [])
  (hargs:∀ sp:Nat->Bool,(∀ p∈before,sp p.block=true)->DataW.TrodAll enc P W' 0 sp true f.params.toList args.toList (s.fn H (ds++gs)).args pa)
  (hvars:∀ sp:Nat->Bool,(∀ p∈before,sp p.block=true)->DataW.TrodVars enc P W' sp s.vars (s.fn H (ds++gs)).vars pv)
  (hps:before=pa++pv) (hk:OldKept W W')
  (hok:∀ (j:Nat) (t:TypeId) (r:Value),f.resultTypes[j]?=some t->(v.resultList f.resultTypes.size)[j]?=some r->Value.okWide P W' .any 0 t r) :
  s.post enc P f apart fresh handsOn again W args v W':=by
 have hold:∀ p∈before,(fun b=>decide (b < W.heap.size)) p.block=true:=fun p hp=>by simpa using hW.lt p hp
 have hlt:∀ p∈before,p.block < W.heap.size:=fun p hp=>hW.lt p hp
 refine⟨ds,gs,before,[],pa,pv,hW,hres _ _ _,hargs _ hold,hvars _ hold,World.keptBut_mono (fun p hp=>⟨hp,?_⟩) (hk.kept (·∈before)),fun _=>?_⟩
 ·rw[hps,List.mem_append] at hp
  exact Or.inr hp
 ·obtain⟨_,_,_,_,_,hz,hn⟩:=hW
  refine⟨hok,_,_,([]++pa)++pv,⟨[]++pa,pv,ChangeShapes.trodAll_append (hargs _ (fun _ _=>rfl)) (hres _ _ _),hvars _ (fun _ _=>rfl),rfl,?_,?_⟩,?_⟩
  ·intro b off hp
   have hp':MemPlace.cell b off∈before:=by rw[hps];simpa using hp
   rw[hk.frozen (a:=⟨b,off,none⟩) (hlt _ hp')];exact hz b off hp'
  ·intro ha
   have:=hn ha;rw[hps] at this
   simpa using this
  ·intro p hp _
   rw[hps]
   simpa using hp
def Z36:DataW H->Option Value
 | .lit (.int k z)=>some (.int k z)
 | .lit (.string l)=>some (.string ⟨l.toArray⟩)
 | .lit (.bool b)=>some (.bool b)
 | _=>none
def Zg4 (P:Program) (e:TypeId):Bool:=match P.underlying e with
 | some .bool | some (.int _) | some .string=>true
 | _=>false
section
variable {w:World} {base:Nat} {sp:Nat->Bool} {held:Bool} {fuel:Nat} {t e:TypeId} {cs:List Value} {d:DataW H} {p:List MemPlace}
theorem Zdo (he:Zg4 P e=true) (h:DataW.trod enc P w base sp held fuel e cs=some (d,p)) {v:Value} (hv:Z36 d=some v):cs=[v]:=by
 unfold Zg4 at he
 split at he
 ·rename_i hu
  obtain⟨b,rfl,hx⟩:=DataW.trod_bool hu h;cases hx
  simpa[Z36] using hv
 ·rename_i k hu
  obtain⟨n,rfl,hx,_⟩:=DataW.trod_int hu h;cases hx
  simpa[Z36] using hv
 ·rename_i hu
  obtain⟨s,rfl,hx,_⟩:=DataW.trod_string hu h;cases hx
  simpa[Z36] using hv
 ·cases he
theorem Z6k {α β:Type} {f:α->Option β}:∀ {l:List α} {r:List β},l.mapM f=some r->r.length=l.length∧∀ i (h:i < l.length) (h':i < r.length),f l[i]=some r[i]
 | [],r,h=>by
  simp at h;subst h;exact⟨rfl,fun i h=>by simp at h⟩
 | x::l,r,h=>by
  simp only[List.mapM_cons,Option.bind_eq_bind,Option.bind_eq_some_iff,Option.pure_def,Option.some.injEq] at h;obtain⟨b,hb,r',hr',rfl⟩:=h;obtain⟨h1,h2⟩:=Z6k hr';refine⟨by simp[h1],fun i hi hi'=>?_⟩
  cases i with
  | zero=>simpa using hb
  | succ i=>simpa using h2 i (by simpa using hi) (by simpa using hi')
theorem Z8A {cs vs:List Value} (hl:cs.length=vs.length) (h:∀ i (hi:i < vs.length),(cs.drop i).take 1=[vs[i]]):cs=vs:=by
 apply List.ext_getElem hl
 intro i h1 h2;have:=h i h2;rw[List.drop_eq_getElem_cons h1,List.take_succ_cons,List.take_zero] at this
 simpa using this
theorem Z5N {n:Nat} (ht:P.underlying t=some (.array n e)) (he:Zg4 P e=true) (hce:P.cellsOf e=1) (hct:P.cellsOf t=n) {ds:List (DataW H)} (h:DataW.trod enc P w base sp held fuel t cs=some (.agg ds,p)) {vs:List Value} (hv:ds.mapM Z36=some vs):cs=vs:=by
 obtain⟨xs,m,rfl,hx,hl,hxl,hi⟩:=DataW.trod_array ht h
 have hds:ds=xs.map (·.1):=by
  have:=congrArg Prod.fst hx
  simpa using this
 obtain⟨g1,g2⟩:=Z6k hv
 have hvl:vs.length=n:=by rw[g1,hds];simpa using hxl
 refine Z8A (by rw[hl,hct,hvl]) fun i hi'=>?_
 have h1:=hi i (by omega);rw[hce,Nat.mul_one] at h1
 have hxi:i < xs.length:=by omega
 rw[List.getElem?_eq_getElem hxi] at h1;have h2:=g2 i (by rw[hds];simpa using hxi) hi'
 have h3:ds[i]'(by rw[hds];simpa using hxi)=xs[i].1:=by simp[hds]
 rw[h3] at h2;exact Zdo he (d:=xs[i].1) (p:=xs[i].2) h1 h2
theorem Z9n {fs:Array Field} (ht:P.underlying t=some (.struct fs)) (hf:∀ (i:Nat) (f:Field),fs[i]?=some f->Zg4 P f.type=true∧f.offset=i∧P.cellsOf f.type=1) (hct:P.cellsOf t=fs.size) {ds:List (DataW H)} (h:DataW.trod enc P w base sp held fuel t cs=some (.agg ds,p)) {vs:List Value} (hv:ds.mapM Z36=some vs):cs=vs:=by
 obtain⟨xs,m,rfl,hx,hl,hxl,hi⟩:=DataW.trod_struct ht h
 have hds:ds=xs.map (·.1):=by
  have:=congrArg Prod.fst hx
  simpa using this
 obtain⟨g1,g2⟩:=Z6k hv
 have hvl:vs.length=fs.size:=by rw[g1,hds];simpa using hxl
 refine Z8A (by rw[hl,hct,hvl]) fun i hi'=>?_
 have hif:i < fs.size:=by omega
 obtain⟨k1,k2,k3⟩:=hf i fs[i] (Array.getElem?_eq_getElem hif);have h1:=hi i fs[i] (Array.getElem?_eq_getElem hif)
 rw[k2,k3] at h1
 have hxi:i < xs.length:=by omega
 rw[List.getElem?_eq_getElem hxi] at h1;have h2:=g2 i (by rw[hds];simpa using hxi) hi'
 have h3:ds[i]'(by rw[hds];simpa using hxi)=xs[i].1:=by simp[hds]
 rw[h3] at h2;exact Zdo k1 (d:=xs[i].1) (p:=xs[i].2) h1 h2
theorem Z78 {sz:Nat}:∀ (rows:List (List Value)) (cs:List Value),cs.length=rows.length * sz->(∀ i (hi:i < rows.length),(cs.drop (i * sz)).take sz=rows[i])->cs=rows.flatten
 | [],cs,hl,_=>List.eq_nil_of_length_eq_zero (by simpa using hl)
 | r::rows,cs,hl,h=>by
  have h0:=h 0 (by simp);simp only[Nat.zero_mul,List.drop_zero,List.getElem_cons_zero] at h0
  rw[List.length_cons,Nat.add_mul,Nat.one_mul] at hl
  have ih:=Z78 (sz:=sz) rows (cs.drop sz) (by rw[List.length_drop];omega) fun i hi=>by
   have:=h (i+1) (by simpa using hi);rw[List.drop_drop,show sz+i * sz=(i+1) * sz from by rw[Nat.add_mul];omega]
   simpa using this
  rw[List.flatten_cons,←ih,←h0,List.take_append_drop]
theorem Zey {n sz:Nat} (ht:P.underlying t=some (.array n e)) (hce:P.cellsOf e=sz) (hct:P.cellsOf t=n * sz) {ds:List (DataW H)} (h:DataW.trod enc P w base sp held fuel t cs=some (.agg ds,p)) {rows:List (List Value)} (hr:rows.length=ds.length)
  (hin:∀ i (hi:i < ds.length) (hi':i < rows.length) fuel cs p,DataW.trod enc P w base sp held fuel e cs=some (ds[i],p)->cs=rows[i]):cs=rows.flatten:=by
 obtain⟨xs,m,rfl,hx,hl,hxl,hi⟩:=DataW.trod_array ht h
 have hds:ds=xs.map (·.1):=by
  have:=congrArg Prod.fst hx
  simpa using this
 have hrl:rows.length=n:=by rw[hr,hds];simpa using hxl
 refine Z78 (sz:=sz) rows cs (by rw[hl,hct,hrl]) fun i hi'=>?_
 have h1:=hi i (by omega);rw[hce] at h1
 have hxi:i < xs.length:=by omega
 rw[List.getElem?_eq_getElem hxi] at h1
 have h3:ds[i]'(by rw[hds];simpa using hxi)=xs[i].1:=by simp[hds]
 exact hin i (by rw[hds];simpa using hxi) hi' m _ xs[i].2 (by rw[h3];exact h1)
def Zk2 (d:DataW H):Option (List Value):=match d with
 | .agg l=>l.mapM Z36
 | _=>none
theorem Z4o {n sz:Nat} (ht:P.underlying t=some (.array n e)) (hce:P.cellsOf e=sz) (hct:P.cellsOf t=n * sz) {ds:List (DataW H)} (h:DataW.trod enc P w base sp held fuel t cs=some (.agg ds,p)) {rows:List (List Value)} (hr:ds.mapM Zk2=some rows)
  (hin:∀ fuel cs p l row,DataW.trod enc P w base sp held fuel e cs=some (.agg l,p)->l.mapM Z36=some row->cs=row):cs=rows.flatten:=by
 obtain⟨g1,g2⟩:=Z6k hr
 refine Zey ht hce hct h g1 fun i hi hi' fuel cs p h'=>?_
 have h2:=g2 i hi hi';unfold Zk2 at h2
 split at h2
 ·rename_i l hl
  rw[hl] at h';exact hin _ _ _ _ _ h' h2
 ·cases h2
end
end Go.V
namespace Go.V
open Go Go.Proofs
theorem Z4K {P:Program} {W:World} {n:String} {g:Nat} {cs:Array Value} (hg:P.globalNamed n=some g) (h:W.var? P n=some cs):∃ T fr,W.heap[g]?=some (.cells cs T fr):=by
 simp only[World.var?,hg,Option.bind_some] at h
 split at h
 ·rename_i c T fr hh
  cases h;exact⟨T,fr,hh⟩
 ·cases h
def debL:List Int:=[0,1,56,2,57,49,28,3,61,58,42,50,38,29,17,4,62,47,59,36,45,43,51,22,53,39,33,30,24,18,12,5,63,55,48,27,60,41,37,16,46,35,44,21,52,32,23,11,54,26,40,15,34,20,31,10,25,14,19,9,13,8,7,6]
theorem Zaw {W:World} {rest:List (String×DataW Unit)} (h:laidMet Tryz.prog ([("math/bits.deBruijn32tab",YtellgkgedepkjaaGreatDoor.Rows.laid_math_bits_deBruijn32tab),("math/bits.deBruijn64tab",YtellgkgedepkjaaGreatDoor.Rows.laid_math_bits_deBruijn64tab),("internal/strconv.uint64pow10",YtellgkgedepkjaaGreatDoor.Rows.laid_internal_strconv_uint64pow10),("bonsai/tree.counts",YtellgkgedepkjaaGreatDoor.Rows.laid_bonsai_tree_counts),("bonsai/print.counts",YtellgkgedepkjaaGreatDoor.Rows.laid_bonsai_print_counts),("bonsai/print.signs",YtellgkgedepkjaaGreatDoor.Rows.laid_bonsai_print_signs)]++rest) W):Tabs (Z4n W) debL:=by
 obtain⟨ps,hL,_⟩:=h;obtain⟨g1,t1,cs1,f1,p1,q1,hg1,ht1,hv1,hd1,hL,_⟩:=hL;obtain⟨g2,t2,cs2,f2,p2,q2,hg2,ht2,hv2,hd2,hL,_⟩:=hL;obtain⟨g3,t3,cs3,f3,p3,q3,hg3,ht3,hv3,hd3,hL,_⟩:=hL;obtain⟨g4,t4,cs4,f4,p4,q4,hg4,ht4,hv4,hd4,hL,_⟩:=hL;obtain⟨g5,t5,cs5,f5,p5,q5,hg5,ht5,hv5,hd5,hL,_⟩:=hL;obtain⟨g6,t6,cs6,f6,p6,q6,hg6,ht6,hv6,hd6,hL,_⟩:=hL
 obtain rfl:=Option.some.inj ((show Tryz.prog.globalNamed "math/bits.deBruijn64tab" = some 4 by kernel_rfl).symm.trans hg2)
 obtain rfl:=Option.some.inj ((show (Tryz.prog.globals[4]?).map (·.type)=some 328 by kernel_rfl).symm.trans ht2)
 obtain rfl:=Option.some.inj ((show Tryz.prog.globalNamed "bonsai/tree.counts" = some 0 by kernel_rfl).symm.trans hg4)
 obtain rfl:=Option.some.inj ((show (Tryz.prog.globals[0]?).map (·.type)=some 201 by kernel_rfl).symm.trans ht4)
 obtain rfl:=Option.some.inj ((show Tryz.prog.globalNamed "bonsai/print.counts" = some 2 by kernel_rfl).symm.trans hg5)
 obtain rfl:=Option.some.inj ((show (Tryz.prog.globals[2]?).map (·.type)=some 306 by kernel_rfl).symm.trans ht5)
 obtain rfl:=Option.some.inj ((show Tryz.prog.globalNamed "bonsai/print.signs" = some 1 by kernel_rfl).symm.trans hg6)
 obtain rfl:=Option.some.inj ((show (Tryz.prog.globals[1]?).map (·.type)=some 279 by kernel_rfl).symm.trans ht6);obtain⟨T2,r2,b2⟩:=Z4K hg2 hv2
 obtain⟨T4,r4,b4⟩:=Z4K hg4 hv4;obtain⟨T5,r5,b5⟩:=Z4K hg5 hv5;obtain⟨T6,r6,b6⟩:=Z4K hg6 hv6;have c2:cs2.toList=debL.map (Value.int .u8):=Z5N (show Tryz.prog.underlying 328=some (.array 64 5) by kernel_rfl) (by kernel_rfl) (by kernel_rfl) (by kernel_rfl) hd2 (by kernel_rfl)
 have c4:cs4.toList=countsL.map (Value.int .i64):=Z4o (n:=10) (sz:=2) (show Tryz.prog.underlying 201=some (.array 10 200) by kernel_rfl) (by kernel_rfl) (by kernel_rfl) hd4
  (rows:=[[.int .i64 0,.int .i64 0],[.int .i64 0,.int .i64 0],[.int .i64 0,.int .i64 0],[.int .i64 0,.int .i64 0],[.int .i64 2,.int .i64 (-1)],[.int .i64 2,.int .i64 (-1)],[.int .i64 1,.int .i64 1],[.int .i64 1,.int .i64 1],[.int .i64 1,.int .i64 1],[.int .i64 1,.int .i64 1]]) (by kernel_rfl)
  (fun _ _ _ _ _ h1 h2=>Z5N (show Tryz.prog.underlying 200=some (.array 2 3) by kernel_rfl) (by kernel_rfl) (by kernel_rfl) (by kernel_rfl) h1 h2)
 have fields:∀ {t:TypeId},(match Tryz.prog.underlying t with
   | some (.struct fs)=>decide (Tryz.prog.cellsOf t=fs.size) && (List.range fs.size).all fun i=>match fs[i]? with
    | some f=>Zg4 Tryz.prog f.type && (decide (f.offset=i) && decide (Tryz.prog.cellsOf f.type=1))
    | none=>false
   | _=>false)=true->∀ (fuel:Nat) (cs:List Value) (p:List MemPlace) (l:List (DataW Unit)) (row:List Value),DataW.trod (fun _=>()) Tryz.prog W 0 (fun _=>true) false fuel t cs=some (.agg l,p)->l.mapM Z36=some row->cs=row:=by
  intro t hc fuel cs p l row h1 h2
  split at hc
  ·rename_i fs hu
   simp only[Bool.and_eq_true,decide_eq_true_eq,List.all_eq_true,List.mem_range] at hc;refine Z9n hu (fun i f hf=>?_) hc.1 h1 h2;have hi:=hc.2 i (Array.getElem?_eq_some_iff.1 hf).1;rw[hf] at hi
   simpa using hi
  ·cases hc
 have c5:cs5.toList=pcountsV:=Z4o (n:=3) (sz:=3) (show Tryz.prog.underlying 306=some (.array 3 305) by kernel_rfl) (by kernel_rfl) (by kernel_rfl) hd5
  (rows:=[[.int .i64 0,.int .i64 1,.string ⟨#[63]⟩],[.int .i64 0,.int .i64 (-1),.string ⟨#[42]⟩],[.int .i64 1,.int .i64 (-1),.string ⟨#[43]⟩]]) (by kernel_rfl) (fields (by kernel_rfl))
 have c6:cs6.toList=signsL.map fun l=>Value.string (Z0f l):=Z4o (n:=10) (sz:=3) (show Tryz.prog.underlying 279=some (.array 10 278) by kernel_rfl) (by kernel_rfl) (by kernel_rfl) hd6
  (rows:=[[.string ⟨#[]⟩,.string ⟨#[]⟩,.string ⟨#[]⟩],[.string ⟨#[]⟩,.string ⟨#[]⟩,.string ⟨#[]⟩],[.string ⟨#[]⟩,.string ⟨#[]⟩,.string ⟨#[]⟩],[.string ⟨#[]⟩,.string ⟨#[]⟩,.string ⟨#[]⟩],[.string ⟨#[]⟩,.string ⟨#[32]⟩,.string ⟨#[]⟩],[.string ⟨#[]⟩,.string ⟨#[32,47,32]⟩,.string ⟨#[]⟩],[.string ⟨#[]⟩,.string ⟨#[]⟩,.string ⟨#[]⟩],[.string ⟨#[38]⟩,.string ⟨#[]⟩,.string ⟨#[]⟩],[.string ⟨#[33]⟩,.string ⟨#[]⟩,.string ⟨#[]⟩],[.string ⟨#[60]⟩,.string ⟨#[]⟩,.string ⟨#[62]⟩]]) (by kernel_rfl) (fields (by kernel_rfl))
 have arr:∀ {cs:Array Value} {l:List Value},cs.toList=l->cs=l.toArray:=fun h=>by
  apply Array.ext'
  simpa using h
 refine⟨⟨T4,r4,?_⟩,⟨T5,r5,?_⟩,⟨T6,r6,?_⟩,by decide,by decide,T2,r2,?_⟩
 ·rw[←arr c4];exact b4
 ·rw[←arr c5];exact b5
 ·rw[←arr c6];exact b6
 ·rw[←arr c2];exact b2
def Zmm (cs:Array Value):Obj->Obj
 | .cells _ t fr=>.cells cs t fr
 | o=>o
def pow10L:List Int:=(List.range 20).map fun i=>(10:Int) ^ i
def deb32L:List Int:=[0,1,28,2,29,14,24,3,30,22,20,15,25,17,4,8,31,27,13,23,21,19,16,7,26,12,18,6,11,5,10,9]
noncomputable def Z79 (os:Os):World:=
 { World.holding Tryz.prog os ⟨#[],#[],[]⟩ with heap:=((((((World.holding Tryz.prog os ⟨#[],#[],[]⟩).heap.modify 0 (Zmm (countsL.map (Value.int .i64)).toArray)).modify 2 (Zmm pcountsV.toArray)).modify 1 (Zmm (signsL.map fun l=>Value.string (Z0f l)).toArray)).modify 4 (Zmm (debL.map (Value.int .u8)).toArray)).modify 5 (Zmm (pow10L.map (Value.int .u64)).toArray)).modify 6 (Zmm (deb32L.map (Value.int .u8)).toArray) }
theorem own:ownKnob Tryz.prog.godebug=none:=by kernel_rfl
theorem Zg5:laidOutB Tryz.prog=true:=by kernel_rfl
theorem Zg6 {α:Type} {l:List α} {q:α->Bool} (h:l.all q=true) {x:α} (hx:x∈l):q x=true:=List.all_eq_true.1 h x hx
theorem Zez {W:World} {L:List (String×DataW Unit)} (hL:laidMetH Tryz.prog L W) (he:L=[("math/bits.deBruijn32tab",YtellgkgedepkjaaGreatDoor.Rows.laid_math_bits_deBruijn32tab),("math/bits.deBruijn64tab",YtellgkgedepkjaaGreatDoor.Rows.laid_math_bits_deBruijn64tab),("internal/strconv.uint64pow10",YtellgkgedepkjaaGreatDoor.Rows.laid_internal_strconv_uint64pow10),("bonsai/tree.counts",YtellgkgedepkjaaGreatDoor.Rows.laid_bonsai_tree_counts),("bonsai/print.counts",YtellgkgedepkjaaGreatDoor.Rows.laid_bonsai_print_counts),("bonsai/print.signs",YtellgkgedepkjaaGreatDoor.Rows.laid_bonsai_print_signs)]):Tabs (Z4n W) debL:=by
 subst he;exact Zaw (rest:=[]) hL
structure NdW (I:GH) (d:Nd):Prop where
 k:0≤d.k∧d.k < 256
 s0:Z0G d.s0
 s1:Z0G d.s1
 s2:Z0G d.s2
 s3:Z0G d.s3
 lo:Z22 d.lo
 hi:Z22 d.hi
 rs:RS I d.ka d.kn d.kc 1 0 (d.kids.map (.int .i64 ·))
 kids:∀ x∈d.kids,Z22 x
 ts:d.t.size≤9223372036854775807
structure TrW (I:GH) (t:Tr):Prop where
 rs:RS I t.a t.n t.c 9 0 (t.ns.flatMap Nd.cells)
 ns:∀ d∈t.ns,NdW I d
 root:Z22 t.root
structure DfW (I:GH) (d:Df):Prop where
 name:d.name.size≤9223372036854775807
 t:TrW I d.t
structure GrW (I:GH) (g:Gr):Prop where
 rs:RS I g.a g.n g.c 3 0 (g.ds.flatMap Df.cells)
 ds:∀ d∈g.ds,DfW I d
theorem RS.big {I:GH} {a:Option Addr} {n c size b b':Nat} {vs:List Value} (h:RS I a n c size b vs) (hb:n * b'≤140737488355328):RS I a n c size b' vs:=⟨h.len,⟨h.cap.1,hb⟩,h.rd⟩
structure NdSmall (d:Nd):Prop where
 kn:d.kn < 2500
structure DfSmall (d:Df):Prop where
 name:d.name.size < 2500
 n:d.t.n < 2500
 ns:∀ nd∈d.t.ns,NdSmall nd
structure GrSmall (g:Gr):Prop where
 n:g.n < 2500
 ds:∀ d∈g.ds,DfSmall d
theorem NdW.ok {I:GH} {d:Nd} (h:NdW I d) (hs:NdSmall d):d.ok I:=
 ⟨h.k,h.s0,h.s1,h.s2,h.s3,h.ts,h.lo,h.hi,h.rs.big (by have:=hs.kn;omega),h.kids⟩
theorem DfW.ok {I:GH} {d:Df} (h:DfW I d) (hs:DfSmall d):d.ok I:=
 ⟨by have:=hs.name;omega,⟨h.t.rs.big (by have:=hs.n;omega),fun nd hnd=>(h.t.ns nd hnd).ok (hs.ns nd hnd),h.t.root⟩⟩
theorem GrW.ok {I:GH} {g:Gr} (h:GrW I g) (hs:GrSmall g):g.ok I:=
 ⟨h.rs.big (by have:=hs.n;omega),fun d hd=>(h.ds d hd).ok (hs.ds d hd)⟩
theorem GrW.n {I:GH} {g:Gr} (h:GrW I g):g.ds.length=g.n:=by
 have:=h.rs.len;rw[Z0i _ 3 Df.cells_len] at this;omega
theorem TrW.n {I:GH} {t:Tr} (h:TrW I t):t.ns.length=t.n:=by
 have:=h.rs.len;rw[Z0i _ 9 Nd.cells_len] at this;omega
theorem Z3h {x r:Int} (h:x=r) (hr:-9223372036854775808≤r∧r≤9223372036854775807):IntKind.i64.wrap x=r:=by
 rw[h];exact Z08 hr
theorem OS.rdI {I:GH} {M:List Blk} {os:OS} {l:List Int} {e:Nat} (h:os.ok 1 (l.map (.int .i64 ·))) (hM:∀ x∈os.blk e,x∈M) {j:Nat} (hj:j < l.length) :
  ∃ ad,(os.a.map fun g=>(⟨g,0,none⟩:Addr))=some ad∧Rd I M (ad.add (j * 1)) 1 [.int .i64 l[j]]:=by
 obtain⟨a,n,c,cur⟩:=os;have hl:=h.len1;simp only at hl
 cases a with
 | none=>have:=(h.nil rfl).1;simp only at this;omega
 | some g=>
  obtain⟨h1,h2,h3,h4⟩:=h.cap g rfl;simp only at h1 h2 h4;refine⟨⟨g,0,none⟩,rfl,?_⟩;rw[Z06 _ rfl]
  refine⟨rfl,_,_,_,.inr ⟨⟨g,.cells cur.toArray e (0,0)⟩,hM _ (by simp[OS.blk]),rfl,rfl⟩,?_,rfl⟩;simp only[Nat.zero_add,Nat.mul_one]
  have hj':j < (l.map (Value.int .i64)).length:=by simpa using hj
  have e1:(cur.take (n * 1))[j]?=some (.int .i64 l[j]):=by
   rw[h4];simp[hj]
  rw[List.getElem?_take] at e1
  have hjn:j < n * 1:=by omega
  rw[if_pos hjn] at e1;have hjc:j < cur.length:=(List.getElem?_eq_some_iff.1 e1).1;rw[List.drop_eq_getElem_cons hjc,List.take_succ_cons,List.take_zero];rw[List.getElem?_eq_getElem hjc] at e1
  rw[Option.some.inj e1]
end Go.V
