/-
  Part 3 of what the proofs of this seat share: the executor, data in memory, walks.
-/
import Derived.Test.YtellgkgedepkjaaGreatDoorK2
import Derived.WideMake
import Derived.ChangeSame
import Derived.ChangeArms
import Derived.OpenShut
import Derived.Deep.DeepHandedRow
import Derived.Lib.LaidTab
import Derived.Test.YtellgkgedepkjaaGreatDoorRows
import Derived.Test.YtellgkgedepkjaaGreatDoorCards
import Derived.Test.YtellgkgedepkjaaGreatDoorTie
import Derived.WalkKit
import Derived.ProofKit
set_option linter.all false
namespace Go.V
open Go Go.Proofs
structure FitsSays (d:Nd):Prop where
 k:d.k < 10
 t:d.t.size≤255
 rep:d.k=6→0≤d.lo∧d.lo≤99∧(d.hi=-1∨(d.lo≤d.hi∧d.hi≤99))
theorem fits_says {d:Nd} {n:Int} (h:fits d n=true):FitsSays d:=by
 unfold fits at h
 cases h1:decide (10≤d.k) with
 | true=>rw[h1] at h;cases h
 | false=>
  rw[h1] at h
  simp only[cond_false] at h
  have hk:d.k < 10:=by simpa using h1
  cases h2:(decide (n < cntLo d.k.toNat) || (decide (0≤cntHi d.k.toNat) && decide (cntHi d.k.toNat < n))) with
  | true=>rw[h2] at h;cases h
  | false=>
   rw[h2] at h
   simp only[cond_false] at h
   have e0:d.t=⟨#[]⟩→d.t.size≤255:=fun e=>by rw[e];decide
   cases h3:decide (d.k=1) with
   | true=>
    rw[h3] at h
    simp only[cond_true,Bool.and_eq_true,decide_eq_true_eq] at h
    exact⟨hk,e0 h.1,fun e=>by simp at h3;omega⟩
   | false=>
    rw[h3] at h
    simp only[cond_false] at h
    cases h4:decide (d.k=2) with
    | true=>
     rw[h4] at h
     simp only[cond_true,Bool.and_eq_true,Bool.not_eq_true',Bool.or_eq_false_iff,decide_eq_false_iff_not] at h
     exact⟨hk,by omega,fun e=>by simp at h4;omega⟩
    | false=>
     rw[h4] at h
     simp only[cond_false] at h
     cases h5:(decide (d.k=3) || decide (d.k=9)) with
     | true=>
      rw[h5] at h
      simp only[cond_true,Bool.and_eq_true] at h
      refine⟨hk,?_,fun e=>by simp at h5;omega⟩
      have:=h.1
      unfold mayName at this
      simp only[Bool.and_eq_true,decide_eq_true_eq] at this
      omega
     | false=>
      rw[h5] at h
      simp only[cond_false] at h
      cases h6:decide (d.k=6) with
      | true=>
       rw[h6] at h
       simp only[cond_true,Bool.and_eq_true,decide_eq_true_eq,Bool.not_eq_true',Bool.or_eq_false_iff,decide_eq_false_iff_not,Bool.and_eq_false_iff] at h
       refine⟨hk,e0 h.2.2,fun _=>?_⟩
       obtain⟨⟨g1,g2,g3⟩,_⟩:=h
       refine⟨by omega,by omega,?_⟩
       rcases g3 with g3 | g3
       ·left
        simpa using g3
       ·right
        omega
      | false=>
       rw[h6] at h
       simp only[cond_false,Bool.and_eq_true,decide_eq_true_eq] at h
       exact⟨hk,e0 h.2.1,fun e=>by simp at h6;omega⟩
def pcountsV:List Value:=[.int .i64 0,.int .i64 1,.string ⟨#[63]⟩,.int .i64 0,.int .i64 (-1),.string ⟨#[42]⟩,.int .i64 1,.int .i64 (-1),.string ⟨#[43]⟩]
def HasPCounts (I:GH):Prop:=∃ T fr,I 2=some (.cells pcountsV.toArray T fr)
def repB (lo:Nat) (hi:Int):List UInt8:=
 bif decide (hi=lo) then [123]++dig lo++[125] else
 bif decide (hi=-1) then [123]++dig lo++[44,125] else [123]++dig lo++[44]++dig hi.toNat++[125]
def countB (lo:Nat) (hi:Int):List UInt8:=
 bif decide ((0:Int)=lo) && decide (1=hi) then [63] else
 bif decide ((0:Int)=lo) && decide (-1=hi) then [42] else
 bif decide ((1:Int)=lo) && decide (-1=hi) then [43] else repB lo hi
theorem repB_len (lo:Nat) (hi:Int):(repB lo hi).length≤7:=by
 have h1:=dig_len lo
 have h2:=dig_len hi.toNat
 unfold repB
 cases decide (hi=lo)<;>cases decide (hi=-1)<;>simp<;>omega
theorem countB_len (lo:Nat) (hi:Int):(countB lo hi).length≤7:=by
 have h1:=repB_len lo hi
 unfold countB
 cases (decide ((0:Int)=lo) && decide (1=hi))<;>cases (decide ((0:Int)=lo) && decide (-1=hi))<;>cases (decide ((1:Int)=lo) && decide (-1=hi))<;>simp<;>omega
theorem digS_size (n:Nat):(digS n).size≤2:=dig_len n
def repNd (lo hi:Int):Nd:=⟨6,0,0,0,0,⟨#[]⟩,lo,hi,none,0,0,[]⟩
theorem fits_rep {lo:Nat} {hi:Int} (hlo:lo≤99) (hhi:hi=-1∨((lo:Int)≤hi∧hi≤99)):fits (repNd lo hi) 1=true:=by
 have e1:cntLo 6=1:=by decide
 have e2:cntHi 6=1:=by decide
 rcases hhi with rfl | ⟨h1,h2⟩
 ·simp[fits,repNd,e1,e2,Nd.setZ]
  exact⟨decide_eq_false (by omega),decide_eq_false (by omega)⟩
 ·simp[fits,repNd,e1,e2,Nd.setZ]
  exact⟨decide_eq_false (by omega),decide_eq_false (by omega),.inr ⟨decide_eq_false (by omega),decide_eq_false (by omega)⟩⟩
theorem strOf_app (a b:List UInt8):strOf a++strOf b=strOf (a++b):=by
 apply bytes_eq
 simp[strOf]
theorem BinOb.concatL {P:Program} {t:Nat} {x y:Operand} {a b:List UInt8} (hs:a.length+b.length≤9223372036854775807) {V:Value→Prop} {other:Prop} (h:V (.string (strOf (a++b)))):BinOb P .add t x y (.val (.string (strOf a))) (.val (.string (strOf b))) V other:=
 BinOb.concat (a:=strOf a) (b:=strOf b) hs (by rw[strOf_app];exact h)
theorem Count_spec {I:GH} (hc:HasCounts I) (hp:HasPCounts I) (lo:Nat) (hi:Int) (hlo:lo≤99) (hhi:hi=-1∨((lo:Int)≤hi∧hi≤99)):Spec Tryz.prog 253 [.int .i64 lo,.int .i64 hi] I []
  fun r I' M'=>r=.string (strOf (countB lo hi))∧I'=I∧M'=[]:=by
 refine spec_of_V [] TryzEOK Tryz.func253 rfl rfl rfl ?_
 intro B h0
 have hok:(repNd lo hi).ok I:=⟨by simp[repNd],by simp[repNd,u64ok],by simp[repNd,u64ok],by simp[repNd,u64ok],by simp[repNd,u64ok],by show (0:Nat)≤_;omega,⟨by simp only[repNd];omega,by simp only[repNd];omega⟩,⟨by simp only[repNd];omega,by simp only[repNd];omega⟩,⟨rfl,⟨Nat.le_refl _,by simp[repNd]⟩,.inl rfl⟩,by simp[repNd]⟩
 refine CallOb.mk [] [] _ (.refl _) (Fits_spec hc hok 1) ?_
 rintro v I' M' - ⟨rfl,rfl,rfl⟩
 rw[fits_rep hlo hhi]
 refine CondOb.mk (fun h=>by cases h) (fun _=>?_)
 have hrd:Rd I' ([]++[]) ⟨2,0,none⟩ 9 pcountsV:=by
  obtain⟨T,fr,hp⟩:=hp
  exact⟨rfl,_,T,fr,.inl hp,rfl,rfl⟩
 refine LoadOb.mk _ hrd ?_
 refine LoopOb.inv (ι:=Nat) (fun i=>{ fl:=[(0,.val (.int .i64 lo)),(1,.val (.int .i64 hi)),(12,.val (.agg pcountsV.toArray)),(13,.val (.int .i64 i))],gi:=I' })
  (fun i=>i≤3∧(1≤i→(decide ((0:Int)=lo) && decide (1=hi))=false)∧(2≤i→(decide ((0:Int)=lo) && decide (-1=hi))=false)∧(3≤i→(decide ((1:Int)=lo) && decide (-1=hi))=false)) (fun i=>3 - i) ?_ ?_
 ·exact⟨0,⟨by simp,by simp,by simp,by simp⟩,.refl,aF4,.nil⟩
 ·rintro i ⟨hi3,m1,m2,m3⟩
  match i,hi3 with
  | 0,_=>
   refine CondOb.mk (fun _=>?_) (fun h=>by simp at h)
   refine ArrOb.mk 0 rfl (by decide) ?_
   have next:(decide ((0:Int)=lo) && decide (1=hi))=false→(((0+1:Nat)≤3∧(1≤(0+1:Nat)→(decide ((0:Int)=lo) && decide (1=hi))=false)∧(2≤(0+1:Nat)→(decide ((0:Int)=lo) && decide (-1=hi))=false)∧(3≤(0+1:Nat)→(decide ((1:Int)=lo) && decide (-1=hi))=false))∧3 - (0+1) < 3 - 0):=fun h=>by
    refine⟨⟨by simp,fun _=>?_,fun hh=>?_,fun hh=>?_⟩,by simp⟩
    ·exact h
    ·simp at hh
    ·simp at hh
   refine GuardOb.mk (fun g1=>?_) (fun g1=>?_)
   ·refine CondOb.mk (fun g2=>?_) (fun g2=>?_)
    ·refine⟨_,_,.refl,?_,rfl,rfl⟩
     have:countB lo hi=[63]:=by
      unfold countB
      rw[g1,g2]
      rfl
     rw[this]
     rfl
    ·refine ArithOb.mk 1 (by decide) ?_
     exact⟨1,next (by rw[g1,g2];rfl),.refl,aF4,.nil⟩
   ·refine ArithOb.mk 1 (by decide) ?_
    exact⟨1,next (by rw[g1];rfl),.refl,aF4,.nil⟩
  | 1,_=>
   refine CondOb.mk (fun _=>?_) (fun h=>by simp at h)
   refine ArrOb.mk 1 rfl (by decide) ?_
   have next:(decide ((0:Int)=lo) && decide (-1=hi))=false→(((1+1:Nat)≤3∧(1≤(1+1:Nat)→(decide ((0:Int)=lo) && decide (1=hi))=false)∧(2≤(1+1:Nat)→(decide ((0:Int)=lo) && decide (-1=hi))=false)∧(3≤(1+1:Nat)→(decide ((1:Int)=lo) && decide (-1=hi))=false))∧3 - (1+1) < 3 - 1):=fun h=>by
    refine⟨⟨by simp,fun _=>?_,fun hh=>?_,fun hh=>?_⟩,by simp⟩
    ·exact m1 (by decide)
    ·exact h
    ·simp at hh
   refine GuardOb.mk (fun g1=>?_) (fun g1=>?_)
   ·refine CondOb.mk (fun g2=>?_) (fun g2=>?_)
    ·refine⟨_,_,.refl,?_,rfl,rfl⟩
     have:countB lo hi=[42]:=by
      unfold countB
      rw[m1 (by decide),g1,g2]
      rfl
     rw[this]
     rfl
    ·refine ArithOb.mk 2 (by decide) ?_
     exact⟨2,next (by rw[g1,g2];rfl),.refl,aF4,.nil⟩
   ·refine ArithOb.mk 2 (by decide) ?_
    exact⟨2,next (by rw[g1];rfl),.refl,aF4,.nil⟩
  | 2,_=>
   refine CondOb.mk (fun _=>?_) (fun h=>by simp at h)
   refine ArrOb.mk 2 rfl (by decide) ?_
   have next:(decide ((1:Int)=lo) && decide (-1=hi))=false→(((2+1:Nat)≤3∧(1≤(2+1:Nat)→(decide ((0:Int)=lo) && decide (1=hi))=false)∧(2≤(2+1:Nat)→(decide ((0:Int)=lo) && decide (-1=hi))=false)∧(3≤(2+1:Nat)→(decide ((1:Int)=lo) && decide (-1=hi))=false))∧3 - (2+1) < 3 - 2):=fun h=>by
    refine⟨⟨by simp,fun _=>?_,fun hh=>?_,fun hh=>?_⟩,by simp⟩
    ·exact m1 (by decide)
    ·exact m2 (by decide)
    ·exact h
   refine GuardOb.mk (fun g1=>?_) (fun g1=>?_)
   ·refine CondOb.mk (fun g2=>?_) (fun g2=>?_)
    ·refine⟨_,_,.refl,?_,rfl,rfl⟩
     have:countB lo hi=[43]:=by
      unfold countB
      rw[m1 (by decide),m2 (by decide),g1,g2]
      rfl
     rw[this]
     rfl
    ·refine ArithOb.mk 3 (by decide) ?_
     exact⟨3,next (by rw[g1,g2];rfl),.refl,aF4,.nil⟩
   ·refine ArithOb.mk 3 (by decide) ?_
    exact⟨3,next (by rw[g1];rfl),.refl,aF4,.nil⟩
  | 3,_=>
   refine CondOb.mk (fun h=>by simp at h) (fun _=>?_)
   have e1:=m1 (by decide)
   have e2:=m2 (by decide)
   have e3:=m3 (by decide)
   have hcb:countB lo hi=repB lo hi:=by
    unfold countB
    rw[e1,e2,e3]
    rfl
   rw[hcb]
   have hl2:=digS_size lo
   have hh2:=digS_size hi.toNat
   have hl2:=dig_len lo
   refine CondOb.mk (fun h=>?_) (fun h=>?_)
   ·refine CallOb.mk [] [] _ (.refl _) (Show_spec lo (by omega)) ?_
    rintro v I' M' - ⟨rfl,rfl,rfl⟩
    refine BinOb.concatL (a:=[123]) (b:=dig lo) (by simp;omega) ?_
    refine BinOb.concatL (a:=[123]++dig lo) (b:=[125]) (by simp;omega) ?_
    refine⟨_,_,.refl,?_,rfl,rfl⟩
    rw[repB,h]
    rfl
   ·refine CondOb.mk (fun k=>?_) (fun k=>?_)
    ·refine CallOb.mk [] [] _ (.refl _) (Show_spec lo (by omega)) ?_
     rintro v I' M' - ⟨rfl,rfl,rfl⟩
     refine BinOb.concatL (a:=[123]) (b:=dig lo) (by simp;omega) ?_
     refine BinOb.concatL (a:=[123]++dig lo) (b:=[44,125]) (by simp;omega) ?_
     refine⟨_,_,.refl,?_,rfl,rfl⟩
     rw[repB,h,k]
     rfl
    ·refine CallOb.mk [] [] _ (.refl _) (Show_spec lo (by omega)) ?_
     rintro v I' M' - ⟨rfl,rfl,rfl⟩
     have hk:hi≠-1:=by simpa using k
     obtain⟨hn,rfl⟩:=Int.eq_ofNat_of_zero_le (show 0≤hi by omega)
     have hh2:=dig_len hn
     refine BinOb.concatL (a:=[123]) (b:=dig lo) (by simp;omega) ?_
     refine BinOb.concatL (a:=[123]++dig lo) (b:=[44]) (by simp;omega) ?_
     refine CallOb.mk [] [] _ (.refl _) (Show_spec hn (by omega)) ?_
     rintro v I' M' - ⟨rfl,rfl,rfl⟩
     refine BinOb.concatL (a:=[123]++dig lo++[44]) (b:=dig hn) (by simp;omega) ?_
     refine BinOb.concatL (a:=[123]++dig lo++[44]++dig hn) (b:=[125]) (by simp;omega) ?_
     refine⟨_,_,.refl,?_,rfl,rfl⟩
     rw[repB,h,k]
     rfl
def signsL:List (List UInt8):=[[],[],[],[],[],[],[],[],[],[],[],[],[],[32],[],[],[32,47,32],[],[],[],[],[38],[],[],[33],[],[],[60],[],[62]]
def sgn (j:Nat):List UInt8:=signsL.getD j []
def HasSigns (I:GH):Prop:=∃ T fr,I 1=some (.cells (signsL.map fun l=>Value.string (strOf l)).toArray T fr)
theorem HasSigns.rd {I:GH} (h:HasSigns I) (M:List Blk) {i j:Nat} (hj:i+j < 30):Rd I M ((Addr.add ⟨1,0,none⟩ i).add j) 1 [.string (strOf (sgn (i+j)))]:=by
 obtain⟨T,fr,h⟩:=h
 rw[add2,addr_add _ rfl]
 refine⟨rfl,_,T,fr,.inl h,?_,rfl⟩
 have h1:i+j < (signsL.map fun l=>Value.string (strOf l)).length:=by simp[signsL];omega
 have h2:i+j < signsL.length:=by simp[signsL];omega
 simp only[Nat.zero_add]
 rw[List.drop_eq_getElem_cons h1,List.take_succ_cons,List.take_zero]
 simp[sgn,List.getD_eq_getElem?_getD,h2]
theorem sgn_len (j:Nat):(sgn j).length≤3:=by
 by_cases h:j < 30
 ·have:∀ j:Fin 30,(sgn j.val).length≤3:=by decide
  exact this ⟨j,h⟩
 ·have:signsL.length≤j:=by simp[signsL];omega
  simp[sgn,List.getD_eq_getElem?_getD,this]
def aheadB (deb:List Int) (d:Nd):List UInt8:=
 bif decide (d.k=0) || decide (d.k=2) then litB d.t else
 bif decide (d.k=1) then classB deb d.s0 d.s1 d.s2 d.s3 else
 bif decide (d.k=3) then d.t.data.toList else
 bif decide (d.k=9) then sgn 27++d.t.data.toList++[58,32] else sgn (d.k.toNat * 3)
def behindB (d:Nd):List UInt8:=bif decide (d.k=6) then countB d.lo.toNat d.hi else sgn (d.k.toNat * 3+2)
theorem strOf_self (s:ByteArray):strOf s.data.toList=s:=bytes_eq (by simp[strOf])
theorem behind_spec {I:GH} (hc:HasCounts I) (hp:HasPCounts I) (hsg:HasSigns I) {d:Nd} (hd:d.ok I) (hf:FitsSays d):Spec Tryz.prog 233 [d.val] I [] fun r I' M'=>r=.string (strOf (behindB d))∧I'=I∧M'=[]:=by
 refine spec_of_V [] TryzEOK Tryz.func233 rfl rfl rfl ?_
 intro B h0
 refine CondOb.mk (fun h=>?_) (fun h=>?_)
 ·obtain⟨g1,g2,g3⟩:=hf.rep (by simpa using h)
  have e1:d.lo=((d.lo.toNat:Nat):Int):=by omega
  have hcs:=Count_spec hc hp d.lo.toNat d.hi (by omega) (by omega)
  rw[←e1] at hcs
  refine CallOb.mk [] [] _ (.refl _) hcs ?_
  rintro v I' M' - ⟨rfl,rfl,rfl⟩
  refine⟨_,_,.refl,?_,rfl,rfl⟩
  simp only[behindB,h]
  rfl
 ·have hk:=hd.k
  have hk1:=hf.k
  refine ArrOb.mk d.k.toNat (by omega) (by omega) ?_
  refine LoadOb.mk _ (hsg.rd _ (by show d.k.toNat * 3+2 < 30;omega)) ?_
  refine⟨_,_,.refl,?_,rfl,rfl⟩
  simp only[behindB,h]
  rfl
theorem ahead_spec {I:GH} {deb:List Int} (hdeb:HasDeb I deb) (hsg:HasSigns I) {d:Nd} (hd:d.ok I) (hf:FitsSays d):Spec Tryz.prog 231 [d.val] I []
  fun r I' M'=>r=.string (strOf (aheadB deb d))∧(∀ b o,I b=some o→I' b=some o)∧M'=[]:=by
 refine spec_of_V [] TryzEOK Tryz.func231 rfl rfl rfl ?_
 intro B h0
 have hk:=hd.k
 have hk1:=hf.k
 have ht:=hf.t
 have lit:(decide (d.k=0) || decide (d.k=2))=true→aheadB deb d=litB d.t:=fun h=>by
  simp only[aheadB,h]
  rfl
 refine CondOb.mk (fun h1=>?_) (fun h1=>?_)
 ·refine CondOb.mk (fun _=>?_) (fun h=>by rw[h1] at h;cases h)
  refine CallOb.mk [] [] _ (.refl _) (Literal_spec d.t (by omega)) ?_
  rintro v I' M' - ⟨rfl,rfl,rfl⟩
  refine⟨_,_,.refl,?_,fun _ _ h=>h,rfl⟩
  rw[lit (by rw[h1];rfl)]
 ·refine CondOb.mk (fun h2=>?_) (fun h2=>?_)
  ·refine CallOb.mk [] [] _ (.refl _) (Literal_spec d.t (by omega)) ?_
   rintro v I' M' - ⟨rfl,rfl,rfl⟩
   refine⟨_,_,.refl,?_,fun _ _ h=>h,rfl⟩
   rw[lit (by rw[h2];simp)]
  ·refine CondOb.mk (fun h3=>?_) (fun h3=>?_)
   ·refine CallOb.mk [] [] _ (.refl _) (Class_spec hdeb (a:=d.s0) (b:=d.s1) (c:=d.s2) (d:=d.s3) (fun x hx=>by
     simp only[List.mem_cons,List.not_mem_nil,or_false] at hx
     rcases hx with rfl | rfl | rfl | rfl
     ·exact hd.s0
     ·exact hd.s1
     ·exact hd.s2
     ·exact hd.s3)) ?_
    rintro v I' M' - ⟨rfl,hI,rfl⟩
    refine⟨_,_,.refl,?_,hI,rfl⟩
    simp only[aheadB,h1,h2,h3]
    rfl
   ·refine CondOb.mk (fun h4=>?_) (fun h4=>?_)
    ·refine⟨_,_,.refl,?_,fun _ _ h=>h,rfl⟩
     simp only[aheadB,h1,h2,h3,h4]
     rw[←strOf_self d.t]
     rfl
    ·refine CondOb.mk (fun h5=>?_) (fun h5=>?_)
     ·have hk9:d.k=9:=by simpa using h5
      refine CodeOb.draw TryzEOK rfl rfl rfl ?_
      refine ArrOb.mk 9 hk9 (by decide) ?_
      refine LoadOb.mk _ (hsg.rd _ (by decide)) ?_
      have hs1:(strOf (sgn 27)).size=1:=by decide
      refine BinOb.concat (a:=strOf (sgn 27)) (b:=d.t) (by omega) ?_
      refine BinOb.concat (a:=strOf (sgn 27)++d.t) (b:=strOf [58,32]) (by rw[ByteArray.size_append];show _+2≤_;omega) ?_
      refine⟨_,_,.refl,?_,fun _ _ h=>h,rfl⟩
      simp only[aheadB,h1,h2,h3,h4,h5]
      refine congrArg Value.string (bytes_eq ?_)
      simp[strOf]
     ·refine ArrOb.mk d.k.toNat (by omega) (by omega) ?_
      refine LoadOb.mk _ (hsg.rd _ (by show d.k.toNat * 3+0 < 30;omega)) ?_
      refine⟨_,_,.refl,?_,fun _ _ h=>h,rfl⟩
      simp only[aheadB,h1,h2,h3,h4,h5]
      rfl
def kindAt (ns:List Nd) (k:Int):Int:=(ns.map (·.k)).getD k.toNat 0
def paren (w:Bool) (s:List UInt8):List UInt8:=(bif w then [40] else [])++(s++(bif w then [41] else []))
def kidsT (sep:List UInt8) (f:Int→List UInt8):Bool→List Int→List UInt8
 | _,[]=>[]
 | b,k::ks=>(bif b then sep else [])++(f k++kidsT sep f true ks)
def sepOf (d:Nd):List UInt8:=sgn (d.k.toNat * 3+1)
def nodeT (deb:List Int) (ns:List Nd) (d:Nd) (g:Int→List UInt8):List UInt8:=
 aheadB deb d++(kidsT (sepOf d) (fun k=>paren (wrapsV d.k (kindAt ns k)) (g k)) false d.kids++behindB d)
def textOf (deb:List Int) (ns:List Nd):Int→List UInt8:=tabOf [] (nodeT deb ns) ns
def treeB (deb:List Int) (t:Tr):List UInt8:=bif right t then textOf deb t.ns t.root else []
theorem kidsT_congr {sep:List UInt8} {f g:Int→List UInt8}:∀ {ks:List Int} {b:Bool},(∀ k∈ks,f k=g k)→kidsT sep f b ks=kidsT sep g b ks
 | [],b,_=>rfl
 | k::ks,b,h=>by
  unfold kidsT
  rw[h k (by simp),kidsT_congr fun x hx=>h x (by simp[hx])]
theorem textOf_eq {deb:List Int} {t:Tr} (hr:right t=true) {j:Nat} (hj:j < t.ns.length):textOf deb t.ns j=nodeT deb t.ns t.ns[j] (textOf deb t.ns):=by
 refine tabOf_eq (fun d g g' h=>?_) hr hj
 unfold nodeT
 rw[kidsT_congr fun k hk=>by rw[h k hk]]
theorem paren_len (w:Bool) (s:List UInt8):(paren w s).length≤s.length+2:=by
 cases w<;>simp[paren]
theorem kidsT_len {sep:List UInt8} {f:Int→List UInt8} (hs:sep.length≤3) {g:Int→Nat} (hf:∀ k,(f k).length+3≤g k):∀ {ks:List Int} {b:Bool},(kidsT sep f b ks).length≤sumOf g ks
 | [],b=>by simp[kidsT,sumOf]
 | k::ks,b=>by
  have h1:=kidsT_len hs hf (ks:=ks) (b:=true)
  have h2:=hf k
  unfold kidsT
  simp only[List.length_append,sumOf,List.map_cons,List.sum_cons] at h1 ⊢
  cases b<;>simp<;>omega
theorem aheadB_len (deb:List Int) {d:Nd} (hf:FitsSays d):(aheadB deb d).length≤2400:=by
 have h1:(litB d.t).length≤2+4 * d.t.size:=by
  have:=flat_le (putB · quoL) 4 (fun c=>putB_len c quoL) d.t.data.toList
  have h2:d.t.data.toList.length=d.t.size:=rfl
  simp only[litB,List.length_append,List.length_cons,List.length_nil]
  omega
 have h2:=classB_len deb d.s0 d.s1 d.s2 d.s3
 have h3:=hf.t
 have h4:=sgn_len 27
 have h5:=sgn_len (d.k.toNat * 3)
 have h6:d.t.data.toList.length=d.t.size:=rfl
 unfold aheadB
 cases (decide (d.k=0) || decide (d.k=2))<;>cases decide (d.k=1)<;>cases decide (d.k=3)<;>cases decide (d.k=9)<;>simp only[cond_true,cond_false,List.length_append,List.length_cons,List.length_nil]<;>omega
theorem behindB_len (d:Nd):(behindB d).length≤7:=by
 have h1:=countB_len d.lo.toNat d.hi
 have h2:=sgn_len (d.k.toNat * 3+2)
 unfold behindB
 cases decide (d.k=6)<;>simp only[cond_true,cond_false]<;>omega
theorem sum_const {α:Type} (c:Nat):∀ l:List α,(l.map fun _=>c).sum=c * l.length
 | []=>by simp
 | x::l=>by
  rw[List.map_cons,List.sum_cons,sum_const c l,List.length_cons,Nat.mul_add]
  omega
theorem text_len {deb:List Int} {t:Tr} (hr:right t=true):(textOf deb t.ns t.root).length+5≤2412 * t.ns.length:=by
 have h:=right_sum hr (g:=fun k=>(textOf deb t.ns k).length+5) (c:=fun _=>2412) fun j hj=>by
  rw[textOf_eq hr hj]
  have h1:=aheadB_len deb (fits_says (right_fits hr hj))
  have h2:=behindB_len t.ns[j]
  have h3:=kidsT_len (sep:=sepOf t.ns[j]) (sgn_len _) (f:=fun k=>paren (wrapsV t.ns[j].k (kindAt t.ns k)) (textOf deb t.ns k)) (g:=fun k=>(textOf deb t.ns k).length+5)
   (fun k=>by have:=paren_len (wrapsV t.ns[j].k (kindAt t.ns k)) (textOf deb t.ns k);omega) (ks:=t.ns[j].kids) (b:=false)
  unfold nodeT
  simp only[List.length_append]
  omega
 rw[sum_const] at h
 exact h
theorem treeB_len (deb:List Int) (t:Tr):(treeB deb t).length≤2412 * t.ns.length:=by
 unfold treeB
 cases hr:right t with
 | false=>simp
 | true=>
  have:=text_len (deb:=deb) hr
  simp only[cond_true]
  omega
abbrev Open:=Nat×Nat×Bool
def openC (e:Open):List Value:=[.int .i64 e.1,.int .i64 e.2.1,.bool e.2.2]
def nodeAt (ns:List Nd) (j:Nat):Nd:=ns.getD j ⟨0,0,0,0,0,.empty,0,0,none,0,0,[]⟩
def kidF (deb:List Int) (ns:List Nd) (d:Nd) (k:Int):List UInt8:=paren (wrapsV d.k (kindAt ns k)) (textOf deb ns k)
def headE (deb:List Int) (ns:List Nd) (e:Open):List UInt8:=bif decide ((e.2.1:Int)=0) then (bif e.2.2 then [40] else [])++aheadB deb (nodeAt ns e.1) else []
def restE (deb:List Int) (ns:List Nd) (e:Open):List UInt8:=
 headE deb ns e++(kidsT (sepOf (nodeAt ns e.1)) (kidF deb ns (nodeAt ns e.1)) (decide (0 < (e.2.1:Int))) ((nodeAt ns e.1).kids.drop e.2.1)++(behindB (nodeAt ns e.1)++(bif e.2.2 then [41] else [])))
def wtOf (ns:List Nd):Int→Nat:=tabOf 0 (fun d g=>2+sumOf g d.kids) ns
def muE (ns:List Nd) (e:Open):Nat:=1+sumOf (wtOf ns) ((nodeAt ns e.1).kids.drop e.2.1)
def muAll (ns:List Nd) (st:List Open):Nat:=(st.map (muE ns)).sum
def restAll (deb:List Int) (ns:List Nd) (st:List Open):List UInt8:=st.reverse.flatMap (restE deb ns)
theorem restAll_snoc (deb:List Int) (ns:List Nd) (st:List Open) (e:Open):restAll deb ns (st++[e])=restE deb ns e++restAll deb ns st:=by
 simp[restAll]
theorem muAll_snoc (ns:List Nd) (st:List Open) (e:Open):muAll ns (st++[e])=muAll ns st+muE ns e:=by
 simp[muAll]
theorem muAll_len (ns:List Nd):∀ st:List Open,st.length≤muAll ns st
 | []=>by simp
 | e::st=>by
  have:=muAll_len ns st
  simp only[muAll,List.map_cons,List.sum_cons,List.length_cons,muE] at this ⊢
  omega
theorem nodeAt_eq {ns:List Nd} {j:Nat} (h:j < ns.length):nodeAt ns j=ns[j]:=by
 simp[nodeAt,List.getD_eq_getElem?_getD,h]
theorem sumOf_congr {g g':Int→Nat} {ks:List Int} (h:∀ k∈ks,g k=g' k):sumOf g ks=sumOf g' ks:=by
 unfold sumOf
 rw[List.map_congr_left h]
theorem wtOf_eq {t:Tr} (hr:right t=true) {j:Nat} (hj:j < t.ns.length):wtOf t.ns j=2+sumOf (wtOf t.ns) t.ns[j].kids:=
 tabOf_eq (fun d g g' h=>by rw[sumOf_congr h]) hr hj
theorem wt_root {t:Tr} (hr:right t=true):wtOf t.ns t.root≤2 * t.ns.length:=by
 have:=right_sum hr (g:=wtOf t.ns) (c:=fun _=>2) fun j hj=>by rw[wtOf_eq hr hj];exact Nat.le_refl _
 rwa [sum_const] at this
theorem restE_new {deb:List Int} {t:Tr} (hr:right t=true) {j:Nat} (hj:j < t.ns.length) (w:Bool):restE deb t.ns (j,0,w)=paren w (textOf deb t.ns j):=by
 rw[textOf_eq hr hj]
 simp only[restE,headE,nodeAt_eq hj]
 cases w<;>simp[paren,nodeT,kidF]<;>rfl
theorem muE_new {t:Tr} (hr:right t=true) {j:Nat} (hj:j < t.ns.length) (w:Bool):muE t.ns (j,0,w)+1=wtOf t.ns j:=by
 rw[wtOf_eq hr hj]
 simp[muE,nodeAt_eq hj]
 omega
theorem restE_kid {deb:List Int} {t:Tr} (hr:right t=true) {j i:Nat} (hj:j < t.ns.length) {w:Bool} (hi:i < t.ns[j].kids.length) :
  restE deb t.ns (j,i,w)=headE deb t.ns (j,i,w)++((bif decide (0 < (i:Int)) then sepOf t.ns[j] else [])++(restE deb t.ns (t.ns[j].kids[i].toNat,0,wrapsV t.ns[j].k (kindAt t.ns t.ns[j].kids[i]))++restE deb t.ns (j,i+1,w))):=by
 have hk:=right_kids hr j hj _ (List.getElem_mem hi)
 rw[restE_new hr (by omega)]
 have e1:(((t.ns[j].kids[i].toNat:Nat):Int))=t.ns[j].kids[i]:=Int.toNat_of_nonneg hk.1
 rw[e1]
 have hd:=List.drop_eq_getElem_cons hi
 simp only[restE,nodeAt_eq hj]
 rw[hd]
 have e2:headE deb t.ns (j,i+1,w)=[]:=by
  have:decide (((i+1:Nat):Int)=0)=false:=decide_eq_false (by omega)
  simp only[headE,this,cond_false]
 have e3:decide (0 < ((i+1:Nat):Int))=true:=decide_eq_true (by omega)
 rw[e2,e3]
 simp only[kidsT,kidF,List.append_assoc,List.nil_append]
theorem muE_kid {t:Tr} (hr:right t=true) {j i:Nat} (hj:j < t.ns.length) {w w':Bool} (hi:i < t.ns[j].kids.length):muE t.ns (j,i+1,w)+muE t.ns (t.ns[j].kids[i].toNat,0,w')+1=muE t.ns (j,i,w):=by
 have hk:=right_kids hr j hj _ (List.getElem_mem hi)
 have h1:=muE_new hr (j:=t.ns[j].kids[i].toNat) (by omega) w'
 have e1:(((t.ns[j].kids[i].toNat:Nat):Int))=t.ns[j].kids[i]:=Int.toNat_of_nonneg hk.1
 rw[e1] at h1
 have hd:=List.drop_eq_getElem_cons hi
 have e3:muE t.ns (j,i,w)=1+sumOf (wtOf t.ns) (t.ns[j].kids.drop i):=by simp[muE,nodeAt_eq hj]
 have e4:muE t.ns (j,i+1,w)=1+sumOf (wtOf t.ns) (t.ns[j].kids.drop (i+1)):=by simp[muE,nodeAt_eq hj]
 rw[e3,e4,hd]
 simp only[sumOf,List.map_cons,List.sum_cons]
 omega
theorem restE_end {deb:List Int} {t:Tr} {j i:Nat} (hj:j < t.ns.length) {w:Bool} (hi:t.ns[j].kids.length≤i):restE deb t.ns (j,i,w)=headE deb t.ns (j,i,w)++(behindB t.ns[j]++(bif w then [41] else [])):=by
 simp only[restE,nodeAt_eq hj,List.drop_eq_nil_of_le hi]
 rfl
theorem upd_self {F:Fr} {d:Nat} {x:SV} (h:F d=x):upd F d x=F:=by
 funext t
 unfold upd
 cases e:Nat.beq t d with
 | false=>rfl
 | true=>
  have:=Nat.eq_of_beq_eq_true e
  subst this
  exact h.symm
theorem updB_self {C:Bx} {d:Nat} {x:Option (List Value)} (h:C d=x):updB C d x=C:=by
 funext t
 unfold updB
 cases e:Nat.beq t d with
 | false=>rfl
 | true=>
  have:=Nat.eq_of_beq_eq_true e
  subst this
  exact h.symm
def scopeIn:Code→Code
 | .scope c=>c
 | .seq a b=>match scopeIn a with
  | .skip=>scopeIn b
  | c=>c
 | _=>.skip
def labelIn (c:Code) (l:Nat):Code:=(findLabel c l).getD .skip
theorem StoreOb.add2 {M:List Blk} {b i j:Nat} {vs:List Value} {K:List Blk→Prop} (pre post:List Blk) (cs:Array Value) (T:Nat) (hM:M=pre++⟨b,.cells cs T (0,0)⟩::post) (hb:i+j+vs.length≤cs.size) (h1:allOne vs=true)
  (h:K (pre++⟨b,.cells (splice cs.toList (i+j) vs).toArray T (0,0)⟩::post)):StoreOb M (((⟨b,0,none⟩:Addr).add i).add j) vs K:=by
 rw[Go.V.add2]
 refine StoreOb.add pre post cs T hM (by omega) h1 ?_
 rw[Nat.zero_add]
 exact h
structure Tabs (I:GH) (deb:List Int):Prop where
 c:HasCounts I
 p:HasPCounts I
 s:HasSigns I
 d:HasDeb I deb
theorem perm1 {α:Type} (a b c:α) (L:List α):(a::b::(L++[c])).Perm ([b,c]++(a::L)):=
 (List.Perm.swap b a _).trans (((((List.perm_append_singleton c L).cons a)).trans (List.Perm.swap c a L)).cons b)
theorem splice_mid (pre:List Value) (a b c z:Value) (rest:List Value):splice (pre++([a,b,c]++rest)) (pre.length+1) [z]=pre++([a,z,c]++rest):=by
 have:=splice_at pre a b z (c::rest) _ rfl
 exact this
theorem Tabs.mono {I I':GH} {deb:List Int} (h:Tabs I deb) (hI:∀ b o,I b=some o→I' b=some o):Tabs I' deb:=by
 obtain⟨⟨T1,f1,h1⟩,⟨T2,f2,h2⟩,⟨T3,f3,h3⟩,⟨h4,h5,T4,f4,h6⟩⟩:=h
 exact⟨⟨T1,f1,hI _ _ h1⟩,⟨T2,f2,hI _ _ h2⟩,⟨T3,f3,hI _ _ h3⟩,⟨h4,h5,T4,f4,hI _ _ h6⟩⟩
def stackV (st:List Open):List Value:=st.flatMap openC
theorem stackV_len (st:List Open):(stackV st).length=st.length * 3:=flat_len openC 3 (fun _=>rfl) st
theorem stackV_snoc (st:List Open) (e:Open):stackV (st++[e])=stackV st++[.int .i64 e.1,.int .i64 e.2.1,.bool e.2.2]:=by
 simp[stackV,openC]
abbrev TreeI:=Bd×OS×List Open×GH
def treeLP (t:Tr) (g:Nat) (x:TreeI):LP:={ fl:=[(1,.ref 1 0),(3,.val (ptr g)),(4,.val x.2.1.val)],cl:=[(1,t.cells)],gi:=x.2.2.2,mi:=x.2.1.blk 273++x.1.M g }
structure TreeInv (I0:GH) (deb:List Int) (t:Tr) (x:TreeI):Prop where
 le:∀ b o,I0 b=some o→x.2.2.2 b=some o
 ok:x.1.ok
 os:x.2.1.ok 3 (stackV x.2.2.1)
 ne:x.2.2.1≠[]
 inn:∀ e∈x.2.2.1,e.1 < t.ns.length
 txt:x.1.bs++restAll deb t.ns x.2.2.1=textOf deb t.ns t.root
 mu:muAll t.ns x.2.2.1≤2 * t.ns.length
set_option maxHeartbeats 8000000 in
set_option maxRecDepth 4000 in
theorem Tree_pass {I0:GH} {deb:List Int} (hT:Tabs I0 deb) {t:Tr} (ht:t.ok I0) (hr:right t=true) (hn:t.n≤1024) {g:Nat} {p:Nat→Nat×TreeI→Prop} (x:TreeI) (hx:TreeInv I0 deb t x)
  (hp:∀ y,TreeInv I0 deb t y→muAll t.ns y.2.2.1 < muAll t.ns x.2.2.1→p 0 (g,y)) (B:Nat) (h0:World) (G:Fr) (GC:Bx) :
  V ⟨Tryz.prog,TryzE,[3],Tryz.f209.ntmps,B,h0,I0,[],none⟩ (labelIn (scopeIn (Tryz.f209.body.getD .skip)) 0)
   (upd (upd (upd G 4 (.val x.2.1.val)) 3 (.val (ptr g))) 1 (.ref 1 0)) (updB GC 1 (some t.cells)) x.2.2.2 (x.2.1.blk 273++x.1.M g)
   (scK (fun l=>InvAt [] (fun y=>treeLP t y.1 y.2) (p l)) (retK ⟨Tryz.prog,TryzE,[3],Tryz.f209.ntmps,B,h0,I0,[],none⟩ Tryz.f209.results.toList
    (fun r I' M'=>r=.string (strOf (textOf deb t.ns t.root))∧(∀ b o,I0 b=some o→I' b=some o)∧M'=[]))):=by
 obtain⟨x,⟨oa,n,cp,cur⟩,st,I1⟩:=x
 obtain⟨hle,hxok,hos,hne,hin,htxt,hmu⟩:=hx
 simp only at hle hxok hos hne hin htxt hmu hp ⊢
 have hT1:=hT.mono hle
 have ht1:=ht.mono hle
 have hnl:=ht.n
 obtain⟨st0,⟨j,i,w⟩,rfl⟩:∃ st0 e,st=st0++[e]:=by
  rcases List.eq_nil_or_concat st with h | ⟨r,e,h⟩
  ·exact(hne h).elim
  ·exact⟨r,e,by simpa using h⟩
 have hsl:st0.length+1=n:=by
  have h1:=hos.len
  rw[stackV_len] at h1
  simp at h1
  omega
 have hj:j < t.ns.length:=hin (j,i,w) (by simp)
 have hj':j < t.n:=by omega
 cases oa with
 | none=>have:=(hos.nil rfl).1;simp only at this;omega
 | some gb=>
 obtain⟨hcl,hnc,hcm,hct⟩:=hos.cap gb rfl
 simp only at hcl hnc hcm hct
 have hp0:(stackV st0).length=(n - 1) * 3:=by rw[stackV_len];omega
 obtain⟨rest,hcur⟩:∃ rest,cur=stackV st0++([.int .i64 j,.int .i64 i,.bool w]++rest):=by
  refine⟨cur.drop (n * 3),?_⟩
  have h2:=List.take_append_drop (n * 3) cur
  rw[hct,stackV_snoc,List.append_assoc] at h2
  exact h2.symm
 have at0:cur[(n - 1) * 3+0]?=some (.int .i64 j):=by
  rw[hcur,←hp0,List.getElem?_append_right (by omega)]
  simp
 have at1:cur[(n - 1) * 3+1]?=some (.int .i64 i):=by
  rw[hcur,←hp0,List.getElem?_append_right (by omega)]
  simp
 have at2:cur[(n - 1) * 3+2]?=some (.bool w):=by
  rw[hcur,←hp0,List.getElem?_append_right (by omega)]
  simp
 have htl:=text_len (deb:=deb) hr
 have hxl:x.bs.length≤2412 * t.ns.length:=by
  have:=congrArg List.length htxt
  rw[List.length_append] at this
  omega
 have hstl:=muAll_len t.ns (st0++[(j,i,w)])
 simp only[List.length_append,List.length_cons,List.length_nil] at hstl
 have hdk:=ht1.ns t.ns[j] (List.getElem_mem hj)
 have hkn:=hdk.kn
 have hfs:=fits_says (right_fits hr hj)
 obtain⟨ad,had,hrd⟩:=ht1.rs.row Nd.cells_len hj' hj
 rw[restAll_snoc] at htxt
 rw[muAll_snoc] at hmu hp hstl
 have hn1:IntKind.i64.wrap ((n:Int) - 1)=((n - 1:Nat):Int):=by
  rw[wrap_i64 ⟨by omega,by omega⟩]
  omega
 refine ArithOb.mk (((n - 1:Nat)):Int) hn1 ?_
 refine IdxOb.mk ⟨gb,0,none⟩ (n - 1) rfl rfl (by show n - 1 < n;omega) ?_
 refine CodeOb.draw TryzEOK rfl rfl rfl ?_
 refine LoadOb.mk [.int .i64 j] (blk_rd2 (b:=gb) (cs:=cur) (T:=273) (by simp[OS.blk]) at0) ?_
 refine IdxOb.mk ad j had rfl hj' ?_
 refine LoadOb.mk _ (hrd _) ?_
 refine AllocOb.mk fun b6 hb6 hbM6=>?_
 refine StoreOb.mk [] (⟨gb,.cells cur.toArray 273 (0,0)⟩::x.M g) _ _ rfl rfl (Nat.le_of_ble_eq_true rfl) rfl ?_
 refine LoadOb.mk [.int .i64 i] (blk_rd2 (b:=gb) (cs:=cur) (T:=273) (by simp[OS.blk]) at1) ?_
 refine CondOb.mk (fun h1=>?_) (fun h1=>?_)
 ·refine LoadOb.mk [.bool w] (blk_rd2 (b:=gb) (cs:=cur) (T:=273) (by simp[OS.blk]) at2) ?_
  refine CondOb.mk (fun h2=>?_) (fun h2=>?_)
  ·refine CallOb.mk (x.M g) [⟨b6,.cells t.ns[j].cells.toArray 91 (0,0)⟩,⟨gb,.cells cur.toArray 273 (0,0)⟩] _ (List.perm_append_comm (l₁:=[_,_])) (WriteByte_spec g hxok 40 (by omega)) ?_
   rintro v I2 M2 - ⟨rfl,rfl,y,hy,hyb,rfl⟩
   have hyl:y.bs.length≤2412 * t.ns.length+1:=by rw[hyb];simp;omega
   refine LoadOb.mk _ (blk_rd (T:=91) (b:=b6) (cs:=t.ns[j].cells) (k:=0) (n:=9) (by simp) (Nat.le_of_ble_eq_true rfl)) ?_
   refine CallOb.mk [] (y.M g++[⟨b6,.cells t.ns[j].cells.toArray 91 (0,0)⟩,⟨gb,.cells cur.toArray 273 (0,0)⟩]) _ (by simp) (ahead_spec hT1.d hT1.s hdk hfs) ?_
   rintro v I2 M2 - ⟨rfl,hI2,rfl⟩
   have hI3:∀ b o,I0 b=some o→I2 b=some o:=fun b o h=>hI2 _ _ (hle _ _ h)
   have hal:=aheadB_len deb hfs
   refine CallOb.mk (y.M g) [⟨b6,.cells t.ns[j].cells.toArray 91 (0,0)⟩,⟨gb,.cells cur.toArray 273 (0,0)⟩] _ (by simp) (WriteString_spec g hy _ (by show _+(aheadB deb t.ns[j]).length≤_;omega)) ?_
   rintro v I3 M3 - ⟨rfl,rfl,u,hu,hub,rfl⟩
   have huh:u.bs=x.bs++headE deb t.ns (j,i,w):=by
    rw[hub,hyb]
    simp only[headE,h1,h2,nodeAt_eq hj,cond_true,cond_false]
    simp[strOf]
   have hul:u.bs.length≤2412 * t.ns.length+2401:=by
    rw[huh,List.length_append]
    simp only[headE,h1,h2,nodeAt_eq hj,cond_true,cond_false,List.length_append,List.length_cons,List.length_nil]
    omega
   have hT2:=hT.mono hI3
   have ht2:=ht.mono hI3
   have hdk2:=ht2.ns t.ns[j] (List.getElem_mem hj)
   have hrd6:∀ {k m:Nat},k+m≤9→Rd I3 (u.M g++[⟨b6,.cells t.ns[j].cells.toArray 91 (0,0)⟩,⟨gb,.cells cur.toArray 273 (0,0)⟩]) ((⟨b6,0,none⟩:Addr).add k) m ((t.ns[j].cells.drop k).take m):=fun h=>blk_rd (T:=91) (by simp) h
   refine CodeOb.draw TryzEOK rfl rfl rfl ?_
   refine LoadOb.mk [.int .i64 i] (blk_rd2 (b:=gb) (cs:=cur) (T:=273) (by simp[OS.blk]) at1) ?_
   refine LoadOb.mk _ (hrd6 (by decide)) ?_
   refine CondOb.mk (fun hk=>?_) (fun hk=>?_)
   ·have hil:i < t.ns[j].kn:=by simpa using hk
    have hil':i < t.ns[j].kids.length:=by omega
    obtain⟨ak,hak,hrk⟩:=hdk2.rs.one hil hil'
    have hkk:=right_kids hr j hj _ (List.getElem_mem hil')
    obtain⟨q,hq0⟩:=Int.eq_ofNat_of_zero_le hkk.1
    have hql:q < t.ns.length:=by omega
    have hql':q < t.n:=by omega
    obtain⟨aq,haq,hrq0⟩:=ht2.rs.row Nd.cells_len hql' hql
    have hrq:∀ M,Rd I3 M ((aq.add (q * 9)).add 0) 1 [.int .u8 t.ns[q].k]:=fun M=>(hrq0 M).part (k:=0) (m:=1) (by decide)
    have hkat:kindAt t.ns ((q:Nat):Int)=t.ns[q].k:=by simp[kindAt,List.getD_eq_getElem?_getD,hql]
    have hre:=restE_kid (deb:=deb) hr hj (w:=w) hil'
    have hme:=muE_kid hr hj (w:=w) (w':=wrapsV t.ns[j].k t.ns[q].k) hil'
    rw[hq0] at hre hme
    simp only[Int.ofNat_eq_natCast,Int.toNat_natCast] at hre hme
    rw[hkat] at hre
    have hwr:IntKind.i64.wrap ((i:Int)+1)=((i+1:Nat):Int):=by
     have:=hdk2.rs.cap
     rw[wrap_i64 ⟨by omega,by omega⟩]
     omega
    have hsp:splice cur ((n - 1) * 3+1) [.int .i64 ((i+1:Nat):Int)]=stackV st0++([.int .i64 j,.int .i64 ((i+1:Nat):Int),.bool w]++rest):=by
     rw[hcur,←hp0]
     exact splice_mid _ _ _ _ _ _
    have hos':OS.ok ⟨some gb,n,cp,splice cur ((n - 1) * 3+1) [.int .i64 ((i+1:Nat):Int)]⟩ 3 (stackV (st0++[(j,i+1,w)])):=by
     rw[hsp,stackV_snoc]
     refine⟨by simp only[List.length_append,List.length_cons,List.length_nil];omega,(fun h=>by cases h),fun g3 _=>⟨?_,hnc,hcm,?_⟩⟩
     ·simp only
      rw[←hcl,hcur]
      simp
     ·simp only
      rw[←List.append_assoc]
      refine List.take_left' ?_
      simp only[List.length_append,List.length_cons,List.length_nil]
      omega
    refine LoadOb.mk [.int .i64 i] (blk_rd2 (b:=gb) (cs:=cur) (T:=273) (by simp[OS.blk]) at1) ?_
    refine CondOb.mk (fun hz=>by simp at h1 hz;omega) (fun hz=>?_)
    refine CodeOb.draw TryzEOK rfl rfl rfl ?_
    refine LoadOb.mk _ (blk_rd (T:=91) (b:=b6) (cs:=t.ns[j].cells) (k:=8) (n:=1) (by simp) (Nat.le_of_ble_eq_true rfl)) ?_
    refine LoadOb.mk [.int .i64 i] (blk_rd2 (b:=gb) (cs:=cur) (T:=273) (by simp[OS.blk]) at1) ?_
    refine IdxOb.mk ak i hak rfl hil ?_
    refine LoadOb.mk [.int .i64 (q:Nat)] (by have h9:=hrk;rw[hq0] at h9;exact h9 _) ?_
    refine LoadOb.mk [.int .i64 i] (blk_rd2 (b:=gb) (cs:=cur) (T:=273) (by simp[OS.blk]) at1) ?_
    refine ArithOb.mk ((i+1:Nat):Int) hwr ?_
    refine StoreOb.add2 (u.M g++[⟨b6,.cells t.ns[j].cells.toArray 91 (0,0)⟩]) [] cur.toArray 273 (by simp[OS.blk]) ?_ rfl ?_
    ·simp only[List.size_toArray]
     show (n - 1) * 3+1+1≤_
     omega
    refine CodeOb.draw TryzEOK rfl rfl rfl ?_
    refine LoadOb.mk [.int .u8 t.ns[j].k] (blk_rd (T:=91) (b:=b6) (cs:=t.ns[j].cells) (k:=0) (n:=1) (by simp) (Nat.le_of_ble_eq_true rfl)) ?_
    refine IdxOb.mk aq q haq rfl hql' ?_
    refine LoadOb.mk [.int .u8 t.ns[q].k] (hrq _) ?_
    refine PCallOb.mk _ (wraps_spec t.ns[j].k t.ns[q].k) ?_
    rintro v I5 M5 - ⟨rfl,rfl,rfl⟩
    refine AllocOb.mk fun b9 hb9 hbM9=>?_
    refine OtherOb.append TryzEOK rfl (by simp) (e:=273) rfl rfl rfl ⟨some gb,n,cp,splice cur ((n - 1) * 3+1) [.int .i64 ((i+1:Nat):Int)]⟩ (xs:=stackV (st0++[(j,i+1,w)])) hos' rfl (m:=1) rfl (news:=openC (q,0,wrapsV t.ns[j].k t.ns[q].k)) (by decide) (blk_rd (b:=b9) (cs:=openC (q,0,wrapsV t.ns[j].k t.ns[q].k)) (k:=0) (n:=3) (T:=273) (.head _) (Nat.le_of_ble_eq_true rfl)) rfl (Mr:=⟨b9,.cells (openC (q,0,wrapsV t.ns[j].k t.ns[q].k)).toArray 273 (0,0)⟩::(u.M g++[⟨b6,.cells t.ns[j].cells.toArray 91 (0,0)⟩])) (by exact List.perm_append_comm (l₁:=(⟨b9,.cells (openC (q,0,wrapsV t.ns[j].k t.ns[q].k)).toArray 273 (0,0)⟩:Blk)::(u.M g++[⟨b6,.cells t.ns[j].cells.toArray 91 (0,0)⟩])) (l₂:=[⟨gb,.cells (splice cur ((n - 1) * 3+1) [.int .i64 ((i+1:Nat):Int)]).toArray 273 (0,0)⟩])) (by show n+1≤_;simp only[maxLen];omega) (by show (n+1) * 24≤_;omega) ?_
    intro g' c' cur' q1 q2 q3 q4
    refine⟨(g,u,⟨some g',n+1,c',cur'⟩,st0++[(j,i+1,w)]++[(q,0,wrapsV t.ns[j].k t.ns[q].k)],_),hp _ ⟨hI3,hu,⟨?_,(fun h=>by cases h),fun g3 _=>⟨q1,q2,q3,?_⟩⟩,by simp,?_,?_,?_⟩ ?_,.perm (M1:=[⟨b9,.cells (openC (q,0,wrapsV t.ns[j].k t.ns[q].k)).toArray 273 (0,0)⟩,⟨b6,.cells t.ns[j].cells.toArray 91 (0,0)⟩]++(⟨g',.cells cur'.toArray 273 (0,0)⟩::u.M g)) (perm1 _ _ _ _) (.sub (List.sublist_append_right _ _) .refl),aF3,.cons rfl .nil⟩
    ·show _=(n+1) * 3
     rw[stackV_len]
     simp
     omega
    ·show cur'.take ((n+1) * 3)=_
     rw[stackV_snoc (st0++[(j,i+1,w)])]
     exact q4
    ·intro e he
     simp only[List.mem_append,List.mem_singleton] at he
     rcases he with (he | rfl) | rfl
     ·exact hin e (by simp[he])
     ·exact hj
     ·exact hql
    ·simp only
     rw[restAll_snoc,restAll_snoc,huh,←htxt,hre]
     rw[show decide (0 < (i:Int))=false from hz]
     simp
    ·simp only
     rw[muAll_snoc,muAll_snoc]
     omega
    ·simp only
     rw[muAll_snoc,muAll_snoc]
     omega
   ·have hil:t.ns[j].kids.length≤i:=by simp at hk;omega
    have hre:=restE_end (deb:=deb) hj (w:=w) hil
    have hbl:=behindB_len t.ns[j]
    refine LoadOb.mk _ (blk_rd (T:=91) (b:=b6) (cs:=t.ns[j].cells) (k:=0) (n:=9) (by simp) (Nat.le_of_ble_eq_true rfl)) ?_
    refine CallOb.mk [] (u.M g++[⟨b6,.cells t.ns[j].cells.toArray 91 (0,0)⟩,⟨gb,.cells cur.toArray 273 (0,0)⟩]) _ (.refl _) (behind_spec hT2.c hT2.p hT2.s hdk2 hfs) ?_
    rintro v I5 M5 - ⟨rfl,rfl,rfl⟩
    refine CallOb.mk (u.M g) [⟨b6,.cells t.ns[j].cells.toArray 91 (0,0)⟩,⟨gb,.cells cur.toArray 273 (0,0)⟩] _ (by simp) (WriteString_spec g hu _ (by show _+(behindB t.ns[j]).length≤_;omega)) ?_
    rintro v I6 M6 - ⟨rfl,rfl,a,ha,hab,rfl⟩
    have hal2:a.bs.length≤2412 * t.ns.length+2410:=by
     rw[hab,List.length_append]
     show _+(behindB t.ns[j]).length≤_
     omega
    refine LoadOb.mk [.bool w] (blk_rd2 (b:=gb) (cs:=cur) (T:=273) (by simp[OS.blk]) at2) ?_
    refine CondOb.mk (fun hw=>?_) (fun hw=>?_)
    ·subst hw
     refine CallOb.mk (a.M g) [⟨b6,.cells t.ns[j].cells.toArray 91 (0,0)⟩,⟨gb,.cells cur.toArray 273 (0,0)⟩] _ (by simp) (WriteByte_spec g ha 41 (by omega)) ?_
     rintro v I8 M8 - ⟨rfl,rfl,c,hc,hcb,rfl⟩
     refine ArithOb.mk (((n - 1:Nat)):Int) hn1 ?_
     refine SliceOb.mk 0 (n - 1) rfl rfl (Nat.zero_le _) (by show n - 1≤cp;omega) ?_
     refine CondOb.mk (fun hz=>?_) (fun hz=>?_)
     ·have hz':0 < n - 1:=by simp at hz;omega
      refine⟨(g,c,⟨some gb,n - 1,cp,cur⟩,st0,_),hp _ ⟨hI3,hc,⟨?_,(fun h=>by cases h),fun g3 _=>⟨hcl,by show n - 1≤cp;omega,hcm,?_⟩⟩,?_,fun e he=>hin e (by simp[he]),?_,?_⟩ ?_,.perm (M1:=[⟨b6,.cells t.ns[j].cells.toArray 91 (0,0)⟩]++(⟨gb,.cells cur.toArray 273 (0,0)⟩::c.M g)) (List.perm_append_comm (l₂:=[_,_])) (.sub (List.sublist_append_right _ _) .refl),aF3,.cons rfl .nil⟩
      ·exact hp0
      ·show cur.take ((n - 1) * 3)=_
       rw[hcur,←hp0]
       exact List.take_left' rfl
      ·intro h
       simp only at h
       rw[h] at hsl
       simp at hsl
       omega
      ·simp only
       rw[hcb,hab,huh,←htxt,hre]
       simp[strOf]
      ·simp only
       omega
      ·simp only[muE]
       omega
     ·have hz':n - 1=0:=by simp at hz;omega
      have hst0:st0=[]:=List.eq_nil_of_length_eq_zero (by omega)
      have hfin:c.bs=textOf deb t.ns t.root:=by
       rw[hcb,hab,huh,←htxt,hre,hst0]
       simp[restAll,strOf]
      refine CallOb.mk (c.M g) [⟨b6,.cells t.ns[j].cells.toArray 91 (0,0)⟩,⟨gb,.cells cur.toArray 273 (0,0)⟩] _ (by simp) (BString_spec g hc (by rw[hfin];omega)) ?_
      rintro v I7 M7 - ⟨rfl,rfl,rfl⟩
      refine⟨_,_,.sub (List.nil_sublist _) .refl,?_,hI3,rfl⟩
      rw[hfin]
      rfl
    ·subst hw
     refine ArithOb.mk (((n - 1:Nat)):Int) hn1 ?_
     refine SliceOb.mk 0 (n - 1) rfl rfl (Nat.zero_le _) (by show n - 1≤cp;omega) ?_
     refine CondOb.mk (fun hz=>?_) (fun hz=>?_)
     ·have hz':0 < n - 1:=by simp at hz;omega
      refine⟨(g,a,⟨some gb,n - 1,cp,cur⟩,st0,_),hp _ ⟨hI3,ha,⟨?_,(fun h=>by cases h),fun g3 _=>⟨hcl,by show n - 1≤cp;omega,hcm,?_⟩⟩,?_,fun e he=>hin e (by simp[he]),?_,?_⟩ ?_,.perm (M1:=[⟨b6,.cells t.ns[j].cells.toArray 91 (0,0)⟩]++(⟨gb,.cells cur.toArray 273 (0,0)⟩::a.M g)) (List.perm_append_comm (l₂:=[_,_])) (.sub (List.sublist_append_right _ _) .refl),aF3,.cons rfl .nil⟩
      ·exact hp0
      ·show cur.take ((n - 1) * 3)=_
       rw[hcur,←hp0]
       exact List.take_left' rfl
      ·intro h
       simp only at h
       rw[h] at hsl
       simp at hsl
       omega
      ·simp only
       rw[hab,huh,←htxt,hre]
       simp[strOf]
      ·simp only
       omega
      ·simp only[muE]
       omega
     ·have hz':n - 1=0:=by simp at hz;omega
      have hst0:st0=[]:=List.eq_nil_of_length_eq_zero (by omega)
      have hfin:a.bs=textOf deb t.ns t.root:=by
       rw[hab,huh,←htxt,hre,hst0]
       simp[restAll,strOf]
      refine CallOb.mk (a.M g) [⟨b6,.cells t.ns[j].cells.toArray 91 (0,0)⟩,⟨gb,.cells cur.toArray 273 (0,0)⟩] _ (by simp) (BString_spec g ha (by rw[hfin];omega)) ?_
      rintro v I7 M7 - ⟨rfl,rfl,rfl⟩
      refine⟨_,_,.sub (List.nil_sublist _) .refl,?_,hI3,rfl⟩
      rw[hfin]
      rfl
  ·refine LoadOb.mk _ (blk_rd (T:=91) (b:=b6) (cs:=t.ns[j].cells) (k:=0) (n:=9) (.head _) (Nat.le_of_ble_eq_true rfl)) ?_
   refine CallOb.mk [] (⟨b6,.cells t.ns[j].cells.toArray 91 (0,0)⟩::⟨gb,.cells cur.toArray 273 (0,0)⟩::x.M g) _ (.refl _) (ahead_spec hT1.d hT1.s hdk hfs) ?_
   rintro v I2 M2 - ⟨rfl,hI2,rfl⟩
   have hI3:∀ b o,I0 b=some o→I2 b=some o:=fun b o h=>hI2 _ _ (hle _ _ h)
   have hal:=aheadB_len deb hfs
   refine CallOb.mk (x.M g) [⟨b6,.cells t.ns[j].cells.toArray 91 (0,0)⟩,⟨gb,.cells cur.toArray 273 (0,0)⟩] _ (List.perm_append_comm (l₁:=[_,_])) (WriteString_spec g hxok _ (by show _+(aheadB deb t.ns[j]).length≤_;omega)) ?_
   rintro v I3 M3 - ⟨rfl,rfl,u,hu,hub,rfl⟩
   have huh:u.bs=x.bs++headE deb t.ns (j,i,w):=by
    rw[hub]
    simp only[headE,h1,h2,nodeAt_eq hj,cond_true,cond_false]
    simp[strOf]
   have hul:u.bs.length≤2412 * t.ns.length+2401:=by
    rw[huh,List.length_append]
    simp only[headE,h1,h2,nodeAt_eq hj,cond_true,cond_false,List.length_append,List.length_cons,List.length_nil]
    omega
   have hT2:=hT.mono hI3
   have ht2:=ht.mono hI3
   have hdk2:=ht2.ns t.ns[j] (List.getElem_mem hj)
   have hrd6:∀ {k m:Nat},k+m≤9→Rd I3 (u.M g++[⟨b6,.cells t.ns[j].cells.toArray 91 (0,0)⟩,⟨gb,.cells cur.toArray 273 (0,0)⟩]) ((⟨b6,0,none⟩:Addr).add k) m ((t.ns[j].cells.drop k).take m):=fun h=>blk_rd (T:=91) (by simp) h
   refine CodeOb.draw TryzEOK rfl rfl rfl ?_
   refine LoadOb.mk [.int .i64 i] (blk_rd2 (b:=gb) (cs:=cur) (T:=273) (by simp[OS.blk]) at1) ?_
   refine LoadOb.mk _ (hrd6 (by decide)) ?_
   refine CondOb.mk (fun hk=>?_) (fun hk=>?_)
   ·have hil:i < t.ns[j].kn:=by simpa using hk
    have hil':i < t.ns[j].kids.length:=by omega
    obtain⟨ak,hak,hrk⟩:=hdk2.rs.one hil hil'
    have hkk:=right_kids hr j hj _ (List.getElem_mem hil')
    obtain⟨q,hq0⟩:=Int.eq_ofNat_of_zero_le hkk.1
    have hql:q < t.ns.length:=by omega
    have hql':q < t.n:=by omega
    obtain⟨aq,haq,hrq0⟩:=ht2.rs.row Nd.cells_len hql' hql
    have hrq:∀ M,Rd I3 M ((aq.add (q * 9)).add 0) 1 [.int .u8 t.ns[q].k]:=fun M=>(hrq0 M).part (k:=0) (m:=1) (by decide)
    have hkat:kindAt t.ns ((q:Nat):Int)=t.ns[q].k:=by simp[kindAt,List.getD_eq_getElem?_getD,hql]
    have hre:=restE_kid (deb:=deb) hr hj (w:=w) hil'
    have hme:=muE_kid hr hj (w:=w) (w':=wrapsV t.ns[j].k t.ns[q].k) hil'
    rw[hq0] at hre hme
    simp only[Int.ofNat_eq_natCast,Int.toNat_natCast] at hre hme
    rw[hkat] at hre
    have hwr:IntKind.i64.wrap ((i:Int)+1)=((i+1:Nat):Int):=by
     have:=hdk2.rs.cap
     rw[wrap_i64 ⟨by omega,by omega⟩]
     omega
    have hsp:splice cur ((n - 1) * 3+1) [.int .i64 ((i+1:Nat):Int)]=stackV st0++([.int .i64 j,.int .i64 ((i+1:Nat):Int),.bool w]++rest):=by
     rw[hcur,←hp0]
     exact splice_mid _ _ _ _ _ _
    have hos':OS.ok ⟨some gb,n,cp,splice cur ((n - 1) * 3+1) [.int .i64 ((i+1:Nat):Int)]⟩ 3 (stackV (st0++[(j,i+1,w)])):=by
     rw[hsp,stackV_snoc]
     refine⟨by simp only[List.length_append,List.length_cons,List.length_nil];omega,(fun h=>by cases h),fun g3 _=>⟨?_,hnc,hcm,?_⟩⟩
     ·simp only
      rw[←hcl,hcur]
      simp
     ·simp only
      rw[←List.append_assoc]
      refine List.take_left' ?_
      simp only[List.length_append,List.length_cons,List.length_nil]
      omega
    refine LoadOb.mk [.int .i64 i] (blk_rd2 (b:=gb) (cs:=cur) (T:=273) (by simp[OS.blk]) at1) ?_
    refine CondOb.mk (fun hz=>by simp at h1 hz;omega) (fun hz=>?_)
    refine CodeOb.draw TryzEOK rfl rfl rfl ?_
    refine LoadOb.mk _ (blk_rd (T:=91) (b:=b6) (cs:=t.ns[j].cells) (k:=8) (n:=1) (by simp) (Nat.le_of_ble_eq_true rfl)) ?_
    refine LoadOb.mk [.int .i64 i] (blk_rd2 (b:=gb) (cs:=cur) (T:=273) (by simp[OS.blk]) at1) ?_
    refine IdxOb.mk ak i hak rfl hil ?_
    refine LoadOb.mk [.int .i64 (q:Nat)] (by have h9:=hrk;rw[hq0] at h9;exact h9 _) ?_
    refine LoadOb.mk [.int .i64 i] (blk_rd2 (b:=gb) (cs:=cur) (T:=273) (by simp[OS.blk]) at1) ?_
    refine ArithOb.mk ((i+1:Nat):Int) hwr ?_
    refine StoreOb.add2 (u.M g++[⟨b6,.cells t.ns[j].cells.toArray 91 (0,0)⟩]) [] cur.toArray 273 (by simp[OS.blk]) ?_ rfl ?_
    ·simp only[List.size_toArray]
     show (n - 1) * 3+1+1≤_
     omega
    refine CodeOb.draw TryzEOK rfl rfl rfl ?_
    refine LoadOb.mk [.int .u8 t.ns[j].k] (blk_rd (T:=91) (b:=b6) (cs:=t.ns[j].cells) (k:=0) (n:=1) (by simp) (Nat.le_of_ble_eq_true rfl)) ?_
    refine IdxOb.mk aq q haq rfl hql' ?_
    refine LoadOb.mk [.int .u8 t.ns[q].k] (hrq _) ?_
    refine PCallOb.mk _ (wraps_spec t.ns[j].k t.ns[q].k) ?_
    rintro v I5 M5 - ⟨rfl,rfl,rfl⟩
    refine AllocOb.mk fun b9 hb9 hbM9=>?_
    refine OtherOb.append TryzEOK rfl (by simp) (e:=273) rfl rfl rfl ⟨some gb,n,cp,splice cur ((n - 1) * 3+1) [.int .i64 ((i+1:Nat):Int)]⟩ (xs:=stackV (st0++[(j,i+1,w)])) hos' rfl (m:=1) rfl (news:=openC (q,0,wrapsV t.ns[j].k t.ns[q].k)) (by decide) (blk_rd (b:=b9) (cs:=openC (q,0,wrapsV t.ns[j].k t.ns[q].k)) (k:=0) (n:=3) (T:=273) (.head _) (Nat.le_of_ble_eq_true rfl)) rfl (Mr:=⟨b9,.cells (openC (q,0,wrapsV t.ns[j].k t.ns[q].k)).toArray 273 (0,0)⟩::(u.M g++[⟨b6,.cells t.ns[j].cells.toArray 91 (0,0)⟩])) (by exact List.perm_append_comm (l₁:=(⟨b9,.cells (openC (q,0,wrapsV t.ns[j].k t.ns[q].k)).toArray 273 (0,0)⟩:Blk)::(u.M g++[⟨b6,.cells t.ns[j].cells.toArray 91 (0,0)⟩])) (l₂:=[⟨gb,.cells (splice cur ((n - 1) * 3+1) [.int .i64 ((i+1:Nat):Int)]).toArray 273 (0,0)⟩])) (by show n+1≤_;simp only[maxLen];omega) (by show (n+1) * 24≤_;omega) ?_
    intro g' c' cur' q1 q2 q3 q4
    refine⟨(g,u,⟨some g',n+1,c',cur'⟩,st0++[(j,i+1,w)]++[(q,0,wrapsV t.ns[j].k t.ns[q].k)],_),hp _ ⟨hI3,hu,⟨?_,(fun h=>by cases h),fun g3 _=>⟨q1,q2,q3,?_⟩⟩,by simp,?_,?_,?_⟩ ?_,.perm (M1:=[⟨b9,.cells (openC (q,0,wrapsV t.ns[j].k t.ns[q].k)).toArray 273 (0,0)⟩,⟨b6,.cells t.ns[j].cells.toArray 91 (0,0)⟩]++(⟨g',.cells cur'.toArray 273 (0,0)⟩::u.M g)) (perm1 _ _ _ _) (.sub (List.sublist_append_right _ _) .refl),aF3,.cons rfl .nil⟩
    ·show _=(n+1) * 3
     rw[stackV_len]
     simp
     omega
    ·show cur'.take ((n+1) * 3)=_
     rw[stackV_snoc (st0++[(j,i+1,w)])]
     exact q4
    ·intro e he
     simp only[List.mem_append,List.mem_singleton] at he
     rcases he with (he | rfl) | rfl
     ·exact hin e (by simp[he])
     ·exact hj
     ·exact hql
    ·simp only
     rw[restAll_snoc,restAll_snoc,huh,←htxt,hre]
     rw[show decide (0 < (i:Int))=false from hz]
     simp
    ·simp only
     rw[muAll_snoc,muAll_snoc]
     omega
    ·simp only
     rw[muAll_snoc,muAll_snoc]
     omega
   ·have hil:t.ns[j].kids.length≤i:=by simp at hk;omega
    have hre:=restE_end (deb:=deb) hj (w:=w) hil
    have hbl:=behindB_len t.ns[j]
    refine LoadOb.mk _ (blk_rd (T:=91) (b:=b6) (cs:=t.ns[j].cells) (k:=0) (n:=9) (by simp) (Nat.le_of_ble_eq_true rfl)) ?_
    refine CallOb.mk [] (u.M g++[⟨b6,.cells t.ns[j].cells.toArray 91 (0,0)⟩,⟨gb,.cells cur.toArray 273 (0,0)⟩]) _ (.refl _) (behind_spec hT2.c hT2.p hT2.s hdk2 hfs) ?_
    rintro v I5 M5 - ⟨rfl,rfl,rfl⟩
    refine CallOb.mk (u.M g) [⟨b6,.cells t.ns[j].cells.toArray 91 (0,0)⟩,⟨gb,.cells cur.toArray 273 (0,0)⟩] _ (by simp) (WriteString_spec g hu _ (by show _+(behindB t.ns[j]).length≤_;omega)) ?_
    rintro v I6 M6 - ⟨rfl,rfl,a,ha,hab,rfl⟩
    have hal2:a.bs.length≤2412 * t.ns.length+2410:=by
     rw[hab,List.length_append]
     show _+(behindB t.ns[j]).length≤_
     omega
    refine LoadOb.mk [.bool w] (blk_rd2 (b:=gb) (cs:=cur) (T:=273) (by simp[OS.blk]) at2) ?_
    refine CondOb.mk (fun hw=>?_) (fun hw=>?_)
    ·subst hw
     refine CallOb.mk (a.M g) [⟨b6,.cells t.ns[j].cells.toArray 91 (0,0)⟩,⟨gb,.cells cur.toArray 273 (0,0)⟩] _ (by simp) (WriteByte_spec g ha 41 (by omega)) ?_
     rintro v I8 M8 - ⟨rfl,rfl,c,hc,hcb,rfl⟩
     refine ArithOb.mk (((n - 1:Nat)):Int) hn1 ?_
     refine SliceOb.mk 0 (n - 1) rfl rfl (Nat.zero_le _) (by show n - 1≤cp;omega) ?_
     refine CondOb.mk (fun hz=>?_) (fun hz=>?_)
     ·have hz':0 < n - 1:=by simp at hz;omega
      refine⟨(g,c,⟨some gb,n - 1,cp,cur⟩,st0,_),hp _ ⟨hI3,hc,⟨?_,(fun h=>by cases h),fun g3 _=>⟨hcl,by show n - 1≤cp;omega,hcm,?_⟩⟩,?_,fun e he=>hin e (by simp[he]),?_,?_⟩ ?_,.perm (M1:=[⟨b6,.cells t.ns[j].cells.toArray 91 (0,0)⟩]++(⟨gb,.cells cur.toArray 273 (0,0)⟩::c.M g)) (List.perm_append_comm (l₂:=[_,_])) (.sub (List.sublist_append_right _ _) .refl),aF3,.cons rfl .nil⟩
      ·exact hp0
      ·show cur.take ((n - 1) * 3)=_
       rw[hcur,←hp0]
       exact List.take_left' rfl
      ·intro h
       simp only at h
       rw[h] at hsl
       simp at hsl
       omega
      ·simp only
       rw[hcb,hab,huh,←htxt,hre]
       simp[strOf]
      ·simp only
       omega
      ·simp only[muE]
       omega
     ·have hz':n - 1=0:=by simp at hz;omega
      have hst0:st0=[]:=List.eq_nil_of_length_eq_zero (by omega)
      have hfin:c.bs=textOf deb t.ns t.root:=by
       rw[hcb,hab,huh,←htxt,hre,hst0]
       simp[restAll,strOf]
      refine CallOb.mk (c.M g) [⟨b6,.cells t.ns[j].cells.toArray 91 (0,0)⟩,⟨gb,.cells cur.toArray 273 (0,0)⟩] _ (by simp) (BString_spec g hc (by rw[hfin];omega)) ?_
      rintro v I7 M7 - ⟨rfl,rfl,rfl⟩
      refine⟨_,_,.sub (List.nil_sublist _) .refl,?_,hI3,rfl⟩
      rw[hfin]
      rfl
    ·subst hw
     refine ArithOb.mk (((n - 1:Nat)):Int) hn1 ?_
     refine SliceOb.mk 0 (n - 1) rfl rfl (Nat.zero_le _) (by show n - 1≤cp;omega) ?_
     refine CondOb.mk (fun hz=>?_) (fun hz=>?_)
     ·have hz':0 < n - 1:=by simp at hz;omega
      refine⟨(g,a,⟨some gb,n - 1,cp,cur⟩,st0,_),hp _ ⟨hI3,ha,⟨?_,(fun h=>by cases h),fun g3 _=>⟨hcl,by show n - 1≤cp;omega,hcm,?_⟩⟩,?_,fun e he=>hin e (by simp[he]),?_,?_⟩ ?_,.perm (M1:=[⟨b6,.cells t.ns[j].cells.toArray 91 (0,0)⟩]++(⟨gb,.cells cur.toArray 273 (0,0)⟩::a.M g)) (List.perm_append_comm (l₂:=[_,_])) (.sub (List.sublist_append_right _ _) .refl),aF3,.cons rfl .nil⟩
      ·exact hp0
      ·show cur.take ((n - 1) * 3)=_
       rw[hcur,←hp0]
       exact List.take_left' rfl
      ·intro h
       simp only at h
       rw[h] at hsl
       simp at hsl
       omega
      ·simp only
       rw[hab,huh,←htxt,hre]
       simp[strOf]
      ·simp only
       omega
      ·simp only[muE]
       omega
     ·have hz':n - 1=0:=by simp at hz;omega
      have hst0:st0=[]:=List.eq_nil_of_length_eq_zero (by omega)
      have hfin:a.bs=textOf deb t.ns t.root:=by
       rw[hab,huh,←htxt,hre,hst0]
       simp[restAll,strOf]
      refine CallOb.mk (a.M g) [⟨b6,.cells t.ns[j].cells.toArray 91 (0,0)⟩,⟨gb,.cells cur.toArray 273 (0,0)⟩] _ (by simp) (BString_spec g ha (by rw[hfin];omega)) ?_
      rintro v I7 M7 - ⟨rfl,rfl,rfl⟩
      refine⟨_,_,.sub (List.nil_sublist _) .refl,?_,hI3,rfl⟩
      rw[hfin]
      rfl
 ·have hxh:x.bs=x.bs++headE deb t.ns (j,i,w):=by
   simp only[headE,h1,cond_false,List.append_nil]
  have hT2:=hT.mono hle
  have ht2:=ht.mono hle
  have hdk2:=ht2.ns t.ns[j] (List.getElem_mem hj)
  have hrd6:∀ {k m:Nat},k+m≤9→Rd I1 (⟨b6,.cells t.ns[j].cells.toArray 91 (0,0)⟩::⟨gb,.cells cur.toArray 273 (0,0)⟩::x.M g) ((⟨b6,0,none⟩:Addr).add k) m ((t.ns[j].cells.drop k).take m):=fun h=>blk_rd (T:=91) (by simp) h
  refine CodeOb.draw TryzEOK rfl rfl rfl ?_
  refine LoadOb.mk [.int .i64 i] (blk_rd2 (b:=gb) (cs:=cur) (T:=273) (by simp[OS.blk]) at1) ?_
  refine LoadOb.mk _ (hrd6 (by decide)) ?_
  refine CondOb.mk (fun hk=>?_) (fun hk=>?_)
  ·have hil:i < t.ns[j].kn:=by simpa using hk
   have hil':i < t.ns[j].kids.length:=by omega
   obtain⟨ak,hak,hrk⟩:=hdk2.rs.one hil hil'
   have hkk:=right_kids hr j hj _ (List.getElem_mem hil')
   obtain⟨q,hq0⟩:=Int.eq_ofNat_of_zero_le hkk.1
   have hql:q < t.ns.length:=by omega
   have hql':q < t.n:=by omega
   obtain⟨aq,haq,hrq0⟩:=ht2.rs.row Nd.cells_len hql' hql
   have hrq:∀ M,Rd I1 M ((aq.add (q * 9)).add 0) 1 [.int .u8 t.ns[q].k]:=fun M=>(hrq0 M).part (k:=0) (m:=1) (by decide)
   have hkat:kindAt t.ns ((q:Nat):Int)=t.ns[q].k:=by simp[kindAt,List.getD_eq_getElem?_getD,hql]
   have hre:=restE_kid (deb:=deb) hr hj (w:=w) hil'
   have hme:=muE_kid hr hj (w:=w) (w':=wrapsV t.ns[j].k t.ns[q].k) hil'
   rw[hq0] at hre hme
   simp only[Int.ofNat_eq_natCast,Int.toNat_natCast] at hre hme
   rw[hkat] at hre
   have hwr:IntKind.i64.wrap ((i:Int)+1)=((i+1:Nat):Int):=by
    have:=hdk2.rs.cap
    rw[wrap_i64 ⟨by omega,by omega⟩]
    omega
   have hsp:splice cur ((n - 1) * 3+1) [.int .i64 ((i+1:Nat):Int)]=stackV st0++([.int .i64 j,.int .i64 ((i+1:Nat):Int),.bool w]++rest):=by
    rw[hcur,←hp0]
    exact splice_mid _ _ _ _ _ _
   have hos':OS.ok ⟨some gb,n,cp,splice cur ((n - 1) * 3+1) [.int .i64 ((i+1:Nat):Int)]⟩ 3 (stackV (st0++[(j,i+1,w)])):=by
    rw[hsp,stackV_snoc]
    refine⟨by simp only[List.length_append,List.length_cons,List.length_nil];omega,(fun h=>by cases h),fun g3 _=>⟨?_,hnc,hcm,?_⟩⟩
    ·simp only
     rw[←hcl,hcur]
     simp
    ·simp only
     rw[←List.append_assoc]
     refine List.take_left' ?_
     simp only[List.length_append,List.length_cons,List.length_nil]
     omega
   refine LoadOb.mk [.int .i64 i] (blk_rd2 (b:=gb) (cs:=cur) (T:=273) (by simp[OS.blk]) at1) ?_
   refine CondOb.mk (fun hz=>?_) (fun hz=>by simp at h1 hz;omega)
   refine LoadOb.mk [.int .u8 t.ns[j].k] (blk_rd (T:=91) (b:=b6) (cs:=t.ns[j].cells) (k:=0) (n:=1) (.head _) (Nat.le_of_ble_eq_true rfl)) ?_
   refine ArrOb.mk t.ns[j].k.toNat (by have:=hdk2.k;omega) (by have:=hfs.k;have:=hdk2.k;omega) ?_
   refine LoadOb.mk _ (hT2.s.rd _ (by have:=hfs.k;have:=hdk2.k;show t.ns[j].k.toNat * 3+1 < 30;omega)) ?_
   refine CallOb.mk (x.M g) [⟨b6,.cells t.ns[j].cells.toArray 91 (0,0)⟩,⟨gb,.cells cur.toArray 273 (0,0)⟩] _ (List.perm_append_comm (l₁:=[_,_])) (WriteString_spec g hxok _ (by have:=sgn_len (t.ns[j].k.toNat * 3+1);show _+(sgn (t.ns[j].k.toNat * 3+1)).length≤_;omega)) ?_
   rintro v I4 M4 - ⟨rfl,rfl,z,hz1,hzb0,rfl⟩
   have hzb:z.bs=x.bs++sepOf t.ns[j]:=hzb0
   refine CodeOb.draw TryzEOK rfl rfl rfl ?_
   refine LoadOb.mk _ (blk_rd (T:=91) (b:=b6) (cs:=t.ns[j].cells) (k:=8) (n:=1) (by simp) (Nat.le_of_ble_eq_true rfl)) ?_
   refine LoadOb.mk [.int .i64 i] (blk_rd2 (b:=gb) (cs:=cur) (T:=273) (by simp[OS.blk]) at1) ?_
   refine IdxOb.mk ak i hak rfl hil ?_
   refine LoadOb.mk [.int .i64 (q:Nat)] (by have h9:=hrk;rw[hq0] at h9;exact h9 _) ?_
   refine LoadOb.mk [.int .i64 i] (blk_rd2 (b:=gb) (cs:=cur) (T:=273) (by simp[OS.blk]) at1) ?_
   refine ArithOb.mk ((i+1:Nat):Int) hwr ?_
   refine StoreOb.add2 (z.M g++[⟨b6,.cells t.ns[j].cells.toArray 91 (0,0)⟩]) [] cur.toArray 273 (by simp[OS.blk]) ?_ rfl ?_
   ·simp only[List.size_toArray]
    show (n - 1) * 3+1+1≤_
    omega
   refine CodeOb.draw TryzEOK rfl rfl rfl ?_
   refine LoadOb.mk [.int .u8 t.ns[j].k] (blk_rd (T:=91) (b:=b6) (cs:=t.ns[j].cells) (k:=0) (n:=1) (by simp) (Nat.le_of_ble_eq_true rfl)) ?_
   refine IdxOb.mk aq q haq rfl hql' ?_
   refine LoadOb.mk [.int .u8 t.ns[q].k] (hrq _) ?_
   refine PCallOb.mk _ (wraps_spec t.ns[j].k t.ns[q].k) ?_
   rintro v I5 M5 - ⟨rfl,rfl,rfl⟩
   refine AllocOb.mk fun b9 hb9 hbM9=>?_
   refine OtherOb.append TryzEOK rfl (by simp) (e:=273) rfl rfl rfl ⟨some gb,n,cp,splice cur ((n - 1) * 3+1) [.int .i64 ((i+1:Nat):Int)]⟩ (xs:=stackV (st0++[(j,i+1,w)])) hos' rfl (m:=1) rfl (news:=openC (q,0,wrapsV t.ns[j].k t.ns[q].k)) (by decide) (blk_rd (b:=b9) (cs:=openC (q,0,wrapsV t.ns[j].k t.ns[q].k)) (k:=0) (n:=3) (T:=273) (.head _) (Nat.le_of_ble_eq_true rfl)) rfl (Mr:=⟨b9,.cells (openC (q,0,wrapsV t.ns[j].k t.ns[q].k)).toArray 273 (0,0)⟩::(z.M g++[⟨b6,.cells t.ns[j].cells.toArray 91 (0,0)⟩])) (by exact List.perm_append_comm (l₁:=(⟨b9,.cells (openC (q,0,wrapsV t.ns[j].k t.ns[q].k)).toArray 273 (0,0)⟩:Blk)::(z.M g++[⟨b6,.cells t.ns[j].cells.toArray 91 (0,0)⟩])) (l₂:=[⟨gb,.cells (splice cur ((n - 1) * 3+1) [.int .i64 ((i+1:Nat):Int)]).toArray 273 (0,0)⟩])) (by show n+1≤_;simp only[maxLen];omega) (by show (n+1) * 24≤_;omega) ?_
   intro g' c' cur' q1 q2 q3 q4
   refine⟨(g,z,⟨some g',n+1,c',cur'⟩,st0++[(j,i+1,w)]++[(q,0,wrapsV t.ns[j].k t.ns[q].k)],_),hp _ ⟨hle,hz1,⟨?_,(fun h=>by cases h),fun g3 _=>⟨q1,q2,q3,?_⟩⟩,by simp,?_,?_,?_⟩ ?_,.perm (M1:=[⟨b9,.cells (openC (q,0,wrapsV t.ns[j].k t.ns[q].k)).toArray 273 (0,0)⟩,⟨b6,.cells t.ns[j].cells.toArray 91 (0,0)⟩]++(⟨g',.cells cur'.toArray 273 (0,0)⟩::z.M g)) (perm1 _ _ _ _) (.sub (List.sublist_append_right _ _) .refl),aF3,.cons rfl .nil⟩
   ·show _=(n+1) * 3
    rw[stackV_len]
    simp
    omega
   ·show cur'.take ((n+1) * 3)=_
    rw[stackV_snoc (st0++[(j,i+1,w)])]
    exact q4
   ·intro e he
    simp only[List.mem_append,List.mem_singleton] at he
    rcases he with (he | rfl) | rfl
    ·exact hin e (by simp[he])
    ·exact hj
    ·exact hql
   ·simp only
    rw[restAll_snoc,restAll_snoc,hzb,←htxt,hre]
    rw[show decide (0 < (i:Int))=true from hz,show headE deb t.ns (j,i,w)=[] from by simp only[headE,h1,cond_false]]
    simp
   ·simp only
    rw[muAll_snoc,muAll_snoc]
    omega
   ·simp only
    rw[muAll_snoc,muAll_snoc]
    omega
  ·have hil:t.ns[j].kids.length≤i:=by simp at hk;omega
   have hre0:=restE_end (deb:=deb) hj (w:=w) hil
   have hre:restE deb t.ns (j,i,w)=behindB t.ns[j]++(bif w then [41] else []):=by rw[hre0];simp only[headE,h1,cond_false,List.nil_append]
   have hbl:=behindB_len t.ns[j]
   refine LoadOb.mk _ (blk_rd (T:=91) (b:=b6) (cs:=t.ns[j].cells) (k:=0) (n:=9) (.head _) (Nat.le_of_ble_eq_true rfl)) ?_
   refine CallOb.mk [] (⟨b6,.cells t.ns[j].cells.toArray 91 (0,0)⟩::⟨gb,.cells cur.toArray 273 (0,0)⟩::x.M g) _ (.refl _) (behind_spec hT2.c hT2.p hT2.s hdk2 hfs) ?_
   rintro v I5 M5 - ⟨rfl,rfl,rfl⟩
   refine CallOb.mk (x.M g) [⟨b6,.cells t.ns[j].cells.toArray 91 (0,0)⟩,⟨gb,.cells cur.toArray 273 (0,0)⟩] _ (List.perm_append_comm (l₁:=[_,_])) (WriteString_spec g hxok _ (by show _+(behindB t.ns[j]).length≤_;omega)) ?_
   rintro v I6 M6 - ⟨rfl,rfl,a,ha,hab,rfl⟩
   have hal2:a.bs.length≤2412 * t.ns.length+2410:=by
    rw[hab,List.length_append]
    show _+(behindB t.ns[j]).length≤_
    omega
   refine LoadOb.mk [.bool w] (blk_rd2 (b:=gb) (cs:=cur) (T:=273) (by simp[OS.blk]) at2) ?_
   refine CondOb.mk (fun hw=>?_) (fun hw=>?_)
   ·subst hw
    refine CallOb.mk (a.M g) [⟨b6,.cells t.ns[j].cells.toArray 91 (0,0)⟩,⟨gb,.cells cur.toArray 273 (0,0)⟩] _ (by simp) (WriteByte_spec g ha 41 (by omega)) ?_
    rintro v I8 M8 - ⟨rfl,rfl,c,hc,hcb,rfl⟩
    refine ArithOb.mk (((n - 1:Nat)):Int) hn1 ?_
    refine SliceOb.mk 0 (n - 1) rfl rfl (Nat.zero_le _) (by show n - 1≤cp;omega) ?_
    refine CondOb.mk (fun hz=>?_) (fun hz=>?_)
    ·have hz':0 < n - 1:=by simp at hz;omega
     refine⟨(g,c,⟨some gb,n - 1,cp,cur⟩,st0,_),hp _ ⟨hle,hc,⟨?_,(fun h=>by cases h),fun g3 _=>⟨hcl,by show n - 1≤cp;omega,hcm,?_⟩⟩,?_,fun e he=>hin e (by simp[he]),?_,?_⟩ ?_,.perm (M1:=[⟨b6,.cells t.ns[j].cells.toArray 91 (0,0)⟩]++(⟨gb,.cells cur.toArray 273 (0,0)⟩::c.M g)) (List.perm_append_comm (l₂:=[_,_])) (.sub (List.sublist_append_right _ _) .refl),aF3,.cons rfl .nil⟩
     ·exact hp0
     ·show cur.take ((n - 1) * 3)=_
      rw[hcur,←hp0]
      exact List.take_left' rfl
     ·intro h
      simp only at h
      rw[h] at hsl
      simp at hsl
      omega
     ·simp only
      rw[hcb,hab,←htxt,hre]
      simp[strOf]
     ·simp only
      omega
     ·simp only[muE]
      omega
    ·have hz':n - 1=0:=by simp at hz;omega
     have hst0:st0=[]:=List.eq_nil_of_length_eq_zero (by omega)
     have hfin:c.bs=textOf deb t.ns t.root:=by
      rw[hcb,hab,←htxt,hre,hst0]
      simp[restAll,strOf]
     refine CallOb.mk (c.M g) [⟨b6,.cells t.ns[j].cells.toArray 91 (0,0)⟩,⟨gb,.cells cur.toArray 273 (0,0)⟩] _ (by simp) (BString_spec g hc (by rw[hfin];omega)) ?_
     rintro v I7 M7 - ⟨rfl,rfl,rfl⟩
     refine⟨_,_,.sub (List.nil_sublist _) .refl,?_,hle,rfl⟩
     rw[hfin]
     rfl
   ·subst hw
    refine ArithOb.mk (((n - 1:Nat)):Int) hn1 ?_
    refine SliceOb.mk 0 (n - 1) rfl rfl (Nat.zero_le _) (by show n - 1≤cp;omega) ?_
    refine CondOb.mk (fun hz=>?_) (fun hz=>?_)
    ·have hz':0 < n - 1:=by simp at hz;omega
     refine⟨(g,a,⟨some gb,n - 1,cp,cur⟩,st0,_),hp _ ⟨hle,ha,⟨?_,(fun h=>by cases h),fun g3 _=>⟨hcl,by show n - 1≤cp;omega,hcm,?_⟩⟩,?_,fun e he=>hin e (by simp[he]),?_,?_⟩ ?_,.perm (M1:=[⟨b6,.cells t.ns[j].cells.toArray 91 (0,0)⟩]++(⟨gb,.cells cur.toArray 273 (0,0)⟩::a.M g)) (List.perm_append_comm (l₂:=[_,_])) (.sub (List.sublist_append_right _ _) .refl),aF3,.cons rfl .nil⟩
     ·exact hp0
     ·show cur.take ((n - 1) * 3)=_
      rw[hcur,←hp0]
      exact List.take_left' rfl
     ·intro h
      simp only at h
      rw[h] at hsl
      simp at hsl
      omega
     ·simp only
      rw[hab,←htxt,hre]
      simp[strOf]
     ·simp only
      omega
     ·simp only[muE]
      omega
    ·have hz':n - 1=0:=by simp at hz;omega
     have hst0:st0=[]:=List.eq_nil_of_length_eq_zero (by omega)
     have hfin:a.bs=textOf deb t.ns t.root:=by
      rw[hab,←htxt,hre,hst0]
      simp[restAll,strOf]
     refine CallOb.mk (a.M g) [⟨b6,.cells t.ns[j].cells.toArray 91 (0,0)⟩,⟨gb,.cells cur.toArray 273 (0,0)⟩] _ (by simp) (BString_spec g ha (by rw[hfin];omega)) ?_
     rintro v I7 M7 - ⟨rfl,rfl,rfl⟩
     refine⟨_,_,.sub (List.nil_sublist _) .refl,?_,hle,rfl⟩
     rw[hfin]
     rfl
theorem V_frame {X:Ctx} {c:Code} {F:Fr} {C:Bx} {I:GH} {M:List Blk} {K:KX} {t1 t2 t3:Nat} {a b d:SV} {e:Option (List Value)} (h:∀ G GC,V X c (upd (upd (upd G t3 d) t2 b) t1 a) (updB GC t1 e) I M K)
  (h1:F t1=a) (h2:F t2=b) (h3:F t3=d) (h4:C t1=e):V X c F C I M K:=by
 have:=h F C
 rwa [upd_self h3,upd_self h2,upd_self h1,updB_self h4] at this
theorem Tree_spec {I:GH} {deb:List Int} (hT:Tabs I deb) {t:Tr} (ht:t.ok I) (hn:t.n≤1024):Spec Tryz.prog 209 [t.val] I [] fun r I' M'=>r=.string (strOf (treeB deb t))∧(∀ b o,I b=some o→I' b=some o)∧M'=[]:=by
 refine spec_of_V [3] TryzEOK Tryz.func209 rfl rfl rfl ?_
 intro B h0
 have hnl:=ht.n
 cases hr:right t with
 | true=>
  have htb:treeB deb t=textOf deb t.ns t.root:=by simp[treeB,hr]
  rw[htb]
  have hroot:=right_root hr
  obtain⟨r,hr0⟩:=Int.eq_ofNat_of_zero_le hroot.1
  have hrl:r < t.ns.length:=by omega
  obtain⟨ns,ta,tn,tc,root⟩:=t
  simp only at hr0
  subst hr0
  have hr0:(⟨ns,ta,tn,tc,Int.ofNat r⟩:Tr).root=Int.ofNat r:=rfl
  refine CodeOb.scope TryzEOK rfl (fun y:Nat×TreeI=>treeLP ⟨ns,ta,tn,tc,Int.ofNat r⟩ y.1 y.2) (fun _=>0) (fun y=>TreeInv I deb ⟨ns,ta,tn,tc,Int.ofNat r⟩ y.2) (fun y=>muAll ns y.2.2.2.1) (fun _=>labelIn (scopeIn (Tryz.f209.body.getD .skip)) 0) (fun _ _=>⟨by kernel_rfl,by kernel_rfl⟩) ?_ ?_
  ·refine CallOb.mk [] [] _ (.refl _) (Right_spec hT.c ht) ?_
   rintro v I' M' - ⟨rfl,rfl,rfl⟩
   rw[hr]
   refine CondOb.mk (fun h=>by cases h) (fun _=>?_)
   refine AllocOb.mk fun g hg hgM=>?_
   refine AllocOb.mk fun g4 hg4 hgM4=>?_
   refine V_frame (t1:=1) (t2:=3) (t3:=4) (fun G GC=>Tree_pass hT ht hr hn (p:=fun l y=>TreeInv _ deb ⟨ns,ta,tn,tc,Int.ofNat r⟩ y.2∧0=l) (g:=g) (Bd.new,⟨some g4,1,1,openC (r,0,false)⟩,[(r,0,false)],I') ?_ (fun y hy _=>⟨hy,rfl⟩) B h0 G GC) rfl rfl rfl rfl
   refine⟨fun _ _ h=>h,Bd.new_ok,⟨rfl,(fun h=>by cases h),fun g3 _=>⟨rfl,Nat.le_refl _,by simp only[maxLen];omega,rfl⟩⟩,by simp,?_,?_,?_⟩
   ·intro e he
    simp only[List.mem_singleton] at he
    subst he
    exact hrl
   ·simp only[restAll,List.reverse_singleton,List.flatMap_cons,List.flatMap_nil,List.append_nil]
    have h9:=restE_new (deb:=deb) hr hrl false
    simp only at h9 ⊢
    rw[h9]
    simp[Bd.new,paren]
   ·have h1:=muE_new hr hrl false
    have h2:=wt_root hr
    simp only[Int.ofNat_eq_natCast] at h1 h2
    simp only[muAll,List.map_cons,List.map_nil,List.sum_cons,List.sum_nil]
    omega
  ·rintro⟨g,x⟩ hx
   refine V_frame (t1:=1) (t2:=3) (t3:=4) (fun G GC=>Tree_pass hT ht hr hn (g:=g) x hx (fun y hy hlt=>⟨⟨hy,rfl⟩,hlt⟩) B h0 G GC) rfl rfl rfl rfl
 | false=>
  have htb:treeB deb t=[]:=by simp[treeB,hr]
  rw[htb]
  refine CodeOb.scope TryzEOK rfl (ι:=Empty) (fun e=>nomatch e) (fun e=>nomatch e) (fun e=>nomatch e) (fun e=>nomatch e) (fun _=>.skip) (fun e=>nomatch e) ?_ (fun e=>nomatch e)
  refine CallOb.mk [] [] _ (.refl _) (Right_spec hT.c ht) ?_
  rintro v I' M' - ⟨rfl,rfl,rfl⟩
  rw[hr]
  refine CondOb.mk (fun _=>?_) (fun h=>by cases h)
  exact⟨_,_,.refl,rfl,fun _ _ h=>h,rfl⟩
def Df.val (d:Df):Value:=.agg #[.string d.name,.slice d.t.a d.t.n d.t.c,.int .i64 d.t.root]
def defB (deb:List Int) (d:Df):List UInt8:=
 bif decide (strOf (treeB deb d.t)=⟨#[]⟩) || !mayName d.name then [] else d.name.data.toList++[32,60,45,32]++treeB deb d.t++[10]
theorem mayName_len {s:ByteArray} (h:mayName s=true):s.size≤32:=by
 unfold mayName at h
 simp only[Bool.and_eq_true,decide_eq_true_eq] at h
 omega
theorem defB_len (deb:List Int) (d:Df):(defB deb d).length≤37+2412 * d.t.ns.length:=by
 have h1:=treeB_len deb d.t
 unfold defB
 cases hc:(decide (strOf (treeB deb d.t)=⟨#[]⟩) || !mayName d.name) with
 | true=>simp
 | false=>
  simp only[Bool.or_eq_false_iff,Bool.not_eq_false'] at hc
  have h2:=mayName_len hc.2
  have h3:d.name.data.toList.length=d.name.size:=rfl
  simp only[cond_false,List.length_append,List.length_cons,List.length_nil]
  omega
theorem Def_spec {I:GH} {deb:List Int} (hT:Tabs I deb) {d:Df} (hd:d.ok I) (hn:d.t.n≤1024):Spec Tryz.prog 183 [d.val] I [] fun r I' M'=>r=.string (strOf (defB deb d))∧(∀ b o,I b=some o→I' b=some o)∧M'=[]:=by
 refine spec_of_V [] TryzEOK Tryz.func183 rfl rfl rfl ?_
 intro B h0
 refine CallOb.mk [] [] _ (.refl _) (Tree_spec hT hd.t hn) ?_
 rintro v I1 M1 - ⟨rfl,hI1,rfl⟩
 refine GuardOb.mk (fun h1=>?_) (fun h1=>?_)
 ·refine CallOb.mk [] [] _ (.refl _) (NMay_spec _ d.name) ?_
  rintro v I' M' - ⟨rfl,rfl,rfl⟩
  refine CondOb.mk (fun h2=>?_) (fun h2=>?_)
  ·refine⟨_,_,.refl,?_,hI1,rfl⟩
   have:defB deb d=[]:=by
    unfold defB
    rw[h1,h2]
    rfl
   rw[this]
   rfl
  ·have hm:mayName d.name=true:=by simpa using h2
   have h2:=mayName_len hm
   have h3:d.name.data.toList.length=d.name.size:=rfl
   have h4:=treeB_len deb d.t
   have h5:=hd.t.n
   refine BinOb.concat (a:=d.name) (b:=strOf [32,60,45,32]) (by show _+4≤_;omega) ?_
   refine BinOb.concat (a:=d.name++strOf [32,60,45,32]) (b:=strOf (treeB deb d.t)) (by rw[ByteArray.size_append];show _+4+(treeB deb d.t).length≤_;omega) ?_
   refine BinOb.concat (a:=d.name++strOf [32,60,45,32]++strOf (treeB deb d.t)) (b:=strOf [10]) (by rw[ByteArray.size_append,ByteArray.size_append];show _+4+(treeB deb d.t).length+1≤_;omega) ?_
   refine⟨_,_,.refl,?_,hI1,rfl⟩
   refine congrArg Value.string (bytes_eq ?_)
   rw[defB,h1,hm]
   simp[strOf]
 ·refine⟨_,_,.refl,?_,hI1,rfl⟩
  have:defB deb d=[]:=by
   unfold defB
   rw[h1]
   rfl
  rw[this]
  rfl
def gramB (deb:List Int):List Df→List UInt8→List UInt8
 | [],acc=>acc
 | d::ds,acc=>bif decide (strOf (defB deb d)=⟨#[]⟩) then [] else gramB deb ds (acc++defB deb d)
theorem Grammar_spec {I:GH} {deb:List Int} (hT:Tabs I deb) {g:Gr} (hg:g.ok I) (hn:g.n≤64) (ht:∀ d∈g.ds,d.t.n≤1024):Spec Tryz.prog 153 [g.val] I [] fun r I' M'=>r=.string (strOf (gramB deb g.ds []))∧(∀ b o,I b=some o→I' b=some o)∧M'=[]:=by
 refine spec_of_V [3] TryzEOK Tryz.func153 rfl rfl rfl ?_
 intro B h0
 have hgn:=hg.n
 have htl:∀ d∈g.ds,d.t.ns.length≤1024:=fun d hd=>by rw[(hg.ds d hd).t.n];exact ht d hd
 refine AllocOb.mk fun b hb hbM=>?_
 refine LoopOb.inv (ι:=Nat×Bd×GH) (fun p=>{ fl:=[(3,.val (ptr b)),(8,.val (.slice g.a g.n g.c)),(9,.val (.int .i64 g.n)),(10,.val (.int .i64 p.1))],gi:=p.2.2,mi:=p.2.1.M b })
  (fun p=>p.1≤g.n∧p.2.1.ok∧(∀ b o,I b=some o→p.2.2 b=some o)∧p.2.1.bs.length≤2500000 * p.1∧gramB deb g.ds []=gramB deb (g.ds.drop p.1) p.2.1.bs) (fun p=>g.n - p.1) ?_ ?_
 ·exact⟨(0,Bd.new,I),⟨by simp,Bd.new_ok,fun _ _ h=>h,by simp[Bd.new],rfl⟩,.refl,aF4,.nil⟩
 ·rintro⟨i,x,I1⟩ ⟨hi,hx,hI1,hxl,hxb⟩
  simp only at hi hx hI1 hxl hxb
  refine CondOb.mk (fun h=>?_) (fun h=>?_)
  ·have hlt:i < g.n:=by simpa using h
   have hlt':i < g.ds.length:=by omega
   have hg1:=hg.mono hI1
   obtain⟨ad,had,hrd⟩:=hg1.rs.row Df.cells_len hlt hlt'
   have hdm:g.ds[i]∈g.ds:=List.getElem_mem hlt'
   have hdl:=defB_len deb g.ds[i]
   have h9:=htl _ hdm
   have hdrop:g.ds.drop i=g.ds[i]::g.ds.drop (i+1):=List.drop_eq_getElem_cons hlt'
   refine IdxOb.mk ad i had rfl hlt ?_
   refine LoadOb.mk _ (hrd _) ?_
   refine CallOb.mk [] (x.M b) _ (.refl _) (Def_spec (hT.mono hI1) (hg1.ds _ hdm) (ht _ hdm)) ?_
   rintro v I2 M2 - ⟨rfl,hI2,rfl⟩
   refine CondOb.mk (fun h1=>?_) (fun h1=>?_)
   ·refine⟨_,_,.sub (List.nil_sublist _) .refl,?_,fun b o h=>hI2 _ _ (hI1 _ _ h),rfl⟩
    rw[hxb,hdrop,gramB,h1]
    rfl
   ·refine CallOb.mk (x.M b) [] _ (by simp) (WriteString_spec b hx _ (by show _+(defB deb g.ds[i]).length≤_;omega)) ?_
    rintro v I' M' - ⟨rfl,rfl,y,hy,hyb,rfl⟩
    have hyb':y.bs=x.bs++defB deb g.ds[i]:=hyb
    have hwr:IntKind.i64.wrap ((i:Int)+1)=((i+1:Nat):Int):=by
     rw[wrap_i64 ⟨by omega,by omega⟩]
     omega
    refine ArithOb.mk _ hwr ?_
    refine⟨(i+1,y,_),⟨⟨by simp only;omega,hy,fun b o h=>hI2 _ _ (hI1 _ _ h),?_,?_⟩,by simp only;omega⟩,.perm (by simp) .refl,aF4,.nil⟩
    ·simp only
     rw[hyb',List.length_append]
     omega
    ·simp only
     rw[hxb,hdrop,gramB,h1,hyb']
     rfl
  ·have hge:g.n≤i:=by simpa using h
   have hdn:g.ds.drop i=[]:=List.drop_eq_nil_of_le (by omega)
   refine CallOb.mk (x.M b) [] _ (by simp) (BString_spec b hx (by omega)) ?_
   rintro v I' M' - ⟨rfl,rfl,rfl⟩
   refine⟨_,_,.refl,?_,hI1,by simp⟩
   rw[hxb,hdn]
   rfl
theorem PSize_spec {I:GH} {deb:List Int} (hT:Tabs I deb) {g:Gr} (hg:g.ok I) (hn:g.n≤64) (ht:∀ d∈g.ds,d.t.n≤1024):Spec Tryz.prog 116 [g.val] I [] fun r I' M'=>r=.int .i64 ((gramB deb g.ds []).length:Int)∧(∀ b o,I b=some o→I' b=some o)∧M'=[]:=by
 refine spec_of_V [] TryzEOK Tryz.func116 rfl rfl rfl ?_
 intro B h0
 refine CallOb.mk [] [] _ (.refl _) (Grammar_spec hT hg hn ht) ?_
 rintro v I' M' - ⟨rfl,hI,rfl⟩
 exact⟨_,_,.refl,rfl,hI,rfl⟩
def normKids (ns:List Nd) (kind:Int):List Int→Bool
 | []=>true
 | k::ks=>bif decide (kindAt ns k=kind) || (decide (kindAt ns k=0) && decide (kind=4)) then false else normKids ns kind ks
def normNodes (ns:List Nd):List Nd→Bool
 | []=>true
 | d::ds=>bif !decide (d.k=4) && !decide (d.k=5) then normNodes ns ds else bif normKids ns d.k d.kids then normNodes ns ds else false
def normal (t:Tr):Bool:=right t && normNodes t.ns t.ns
theorem next_wr {i:Nat} (h:i≤140737488355328):IntKind.i64.wrap ((i:Int)+1)=((i+1:Nat):Int):=by
 rw[wrap_i64 ⟨by omega,by omega⟩]
 omega
set_option maxHeartbeats 1000000 in
theorem Normal_spec {I:GH} (hc:HasCounts I) {t:Tr} (ht:t.ok I):Spec Tryz.prog 68 [t.val] I [] (fun v I' M'=>v=.bool (normal t)∧I'=I∧M'=[]):=by
 refine spec_of_V [] TryzEOK Tryz.func68 rfl rfl rfl ?_
 intro B h0
 have hn:=ht.n
 have hcap:=ht.rs.cap
 refine CallOb.mk [] [] _ (.refl _) (Right_spec hc ht) ?_
 rintro v I' M' - ⟨rfl,rfl,rfl⟩
 refine CondOb.mk (fun h=>?_) (fun h=>?_)
 ·refine⟨_,_,.refl,?_,rfl,rfl⟩
  simp[normal,show right t=false by simpa using h]
 ·have hr:right t=true:=by simpa using h
  have hno:normal t=normNodes t.ns t.ns:=by simp[normal,hr]
  rw[hno]
  refine LoopOb.inv (ι:=Nat) (fun i=>{ fl:=[(1,.ref 1 0),(12,.val (.slice t.a t.n t.c)),(13,.val (.int .i64 t.n)),(14,.val (.int .i64 i))],cl:=[(1,t.cells)],gi:=I' })
   (fun i=>i≤t.n∧normNodes t.ns t.ns=normNodes t.ns (t.ns.drop i)) (fun i=>t.n - i) ?_ ?_
  ·exact⟨0,⟨by simp,rfl⟩,.refl,aF4,.cons rfl .nil⟩
  ·rintro i ⟨hi,hin⟩
   refine CondOb.mk (fun h=>?_) (fun h=>?_)
   ·have hlt:i < t.n:=by simpa using h
    have hlt':i < t.ns.length:=by omega
    obtain⟨ad,had,hrd⟩:=ht.rs.row Nd.cells_len hlt hlt'
    have hdk:=ht.ns t.ns[i] (List.getElem_mem hlt')
    have hkn:=hdk.kn
    have hdrop:t.ns.drop i=t.ns[i]::t.ns.drop (i+1):=List.drop_eq_getElem_cons hlt'
    refine IdxOb.mk ad i had rfl hlt ?_
    refine LoadOb.mk _ (hrd _) ?_
    refine GuardOb.mk (fun k1=>?_) (fun k1=>?_)
    ·refine CondOb.mk (fun k2=>?_) (fun k2=>?_)
     ·refine ArithOb.mk _ (next_wr (i:=i) (by omega)) ?_
      refine⟨i+1,⟨⟨by omega,?_⟩,by omega⟩,.refl,aF4,.cons rfl .nil⟩
      rw[hin,hdrop,normNodes,k1,k2]
      rfl
     ·have hstep:normNodes t.ns t.ns=bif normKids t.ns t.ns[i].k t.ns[i].kids then normNodes t.ns (t.ns.drop (i+1)) else false:=by
       rw[hin,hdrop,normNodes,k1,k2]
       rfl
      refine LoopOb.inv (ι:=Nat)
       (fun j=>{ fl:=[(1,.ref 1 0),(4,.ref 4 0),(12,.val (.slice t.a t.n t.c)),(13,.val (.int .i64 t.n)),(14,.val (.int .i64 i)),(27,.val (.slice t.ns[i].ka t.ns[i].kn t.ns[i].kc)),(28,.val (.int .i64 t.ns[i].kn)),(29,.val (.int .i64 j))],cl:=[(1,t.cells),(4,t.ns[i].cells)],gi:=I' })
       (fun j=>j≤t.ns[i].kn∧normKids t.ns t.ns[i].k t.ns[i].kids=normKids t.ns t.ns[i].k (t.ns[i].kids.drop j)) (fun j=>t.ns[i].kn - j) ?_ ?_
      ·exact⟨0,⟨by simp,rfl⟩,.refl,aF8,.cons rfl (.cons rfl .nil)⟩
      ·rintro j ⟨hj,hjn⟩
       refine CondOb.mk (fun h=>?_) (fun h=>?_)
       ·have hjl:j < t.ns[i].kn:=by simpa using h
        have hjl':j < t.ns[i].kids.length:=by omega
        obtain⟨ak,hak,hrk⟩:=hdk.rs.one hjl hjl'
        have hkd:t.ns[i].kids.drop j=t.ns[i].kids[j]::t.ns[i].kids.drop (j+1):=List.drop_eq_getElem_cons hjl'
        have hkk:=right_kids hr i hlt' _ (List.getElem_mem hjl')
        generalize hkv:t.ns[i].kids[j]=kv at *
        obtain⟨q,rfl⟩:=Int.eq_ofNat_of_zero_le hkk.1
        have hql:q < t.ns.length:=by omega
        have hql':q < t.n:=by omega
        obtain⟨aq,haq,hrq0⟩:=ht.rs.row Nd.cells_len hql' hql
        have hrq:∀ M,Rd I' M ((aq.add (q * 9)).add 0) 1 [.int .u8 t.ns[q].k]:=fun M=>(hrq0 M).part (k:=0) (m:=1) (by decide)
        have hkat:kindAt t.ns ((q:Nat):Int)=t.ns[q].k:=by simp[kindAt,List.getD_eq_getElem?_getD,hql]
        have bad:(decide (t.ns[q].k=t.ns[i].k) || (decide (t.ns[q].k=0) && decide (t.ns[i].k=4)))=true→normNodes t.ns t.ns=false:=fun hb=>by
         rw[hstep,hjn,hkd,normKids,hkat,hb]
         rfl
        have good:(decide (t.ns[q].k=t.ns[i].k) || (decide (t.ns[q].k=0) && decide (t.ns[i].k=4)))=false→normKids t.ns t.ns[i].k t.ns[i].kids=normKids t.ns t.ns[i].k (t.ns[i].kids.drop (j+1)):=fun hb=>by
         rw[hjn,hkd,normKids,hkat,hb]
         rfl
        have hwr:=next_wr (i:=j) (by have:=hdk.rs.cap;omega)
        refine IdxOb.mk ak j hak rfl hjl ?_
        refine LoadOb.mk _ (hrk _) ?_
        refine IdxOb.mk aq q haq rfl hql' ?_
        refine LoadOb.mk _ (hrq _) ?_
        refine GuardOb.mk (fun c1=>?_) (fun c1=>?_)
        ·refine GuardOb.mk (fun c2=>?_) (fun c2=>?_)
         ·refine CondOb.mk (fun c3=>?_) (fun c3=>?_)
          ·refine⟨_,_,.refl,?_,rfl,rfl⟩
           rw[bad (by rw[c1,c2,c3];rfl)]
          ·refine ArithOb.mk _ hwr ?_
           exact⟨j+1,⟨⟨by omega,good (by rw[c1,c2,c3];rfl)⟩,by omega⟩,.refl,aF8,.cons rfl (.cons rfl .nil)⟩
         ·refine ArithOb.mk _ hwr ?_
          exact⟨j+1,⟨⟨by omega,good (by rw[c1,c2];rfl)⟩,by omega⟩,.refl,aF8,.cons rfl (.cons rfl .nil)⟩
        ·refine⟨_,_,.refl,?_,rfl,rfl⟩
         rw[bad (by rw[c1];rfl)]
       ·have hje:t.ns[i].kids.drop j=[]:=List.drop_eq_nil_of_le (by simp at h;omega)
        refine ArithOb.mk _ (next_wr (i:=i) (by omega)) ?_
        refine⟨i+1,⟨⟨by omega,?_⟩,by omega⟩,.refl,aF4,.cons rfl .nil⟩
        rw[hstep,hjn,hje]
        rfl
    ·have hstep:normNodes t.ns t.ns=bif normKids t.ns t.ns[i].k t.ns[i].kids then normNodes t.ns (t.ns.drop (i+1)) else false:=by
      rw[hin,hdrop,normNodes,k1]
      rfl
     refine LoopOb.inv (ι:=Nat)
      (fun j=>{ fl:=[(1,.ref 1 0),(4,.ref 4 0),(12,.val (.slice t.a t.n t.c)),(13,.val (.int .i64 t.n)),(14,.val (.int .i64 i)),(27,.val (.slice t.ns[i].ka t.ns[i].kn t.ns[i].kc)),(28,.val (.int .i64 t.ns[i].kn)),(29,.val (.int .i64 j))],cl:=[(1,t.cells),(4,t.ns[i].cells)],gi:=I' })
      (fun j=>j≤t.ns[i].kn∧normKids t.ns t.ns[i].k t.ns[i].kids=normKids t.ns t.ns[i].k (t.ns[i].kids.drop j)) (fun j=>t.ns[i].kn - j) ?_ ?_
     ·exact⟨0,⟨by simp,rfl⟩,.refl,aF8,.cons rfl (.cons rfl .nil)⟩
     ·rintro j ⟨hj,hjn⟩
      refine CondOb.mk (fun h=>?_) (fun h=>?_)
      ·have hjl:j < t.ns[i].kn:=by simpa using h
       have hjl':j < t.ns[i].kids.length:=by omega
       obtain⟨ak,hak,hrk⟩:=hdk.rs.one hjl hjl'
       have hkd:t.ns[i].kids.drop j=t.ns[i].kids[j]::t.ns[i].kids.drop (j+1):=List.drop_eq_getElem_cons hjl'
       have hkk:=right_kids hr i hlt' _ (List.getElem_mem hjl')
       generalize hkv:t.ns[i].kids[j]=kv at *
       obtain⟨q,rfl⟩:=Int.eq_ofNat_of_zero_le hkk.1
       have hql:q < t.ns.length:=by omega
       have hql':q < t.n:=by omega
       obtain⟨aq,haq,hrq0⟩:=ht.rs.row Nd.cells_len hql' hql
       have hrq:∀ M,Rd I' M ((aq.add (q * 9)).add 0) 1 [.int .u8 t.ns[q].k]:=fun M=>(hrq0 M).part (k:=0) (m:=1) (by decide)
       have hkat:kindAt t.ns ((q:Nat):Int)=t.ns[q].k:=by simp[kindAt,List.getD_eq_getElem?_getD,hql]
       have bad:(decide (t.ns[q].k=t.ns[i].k) || (decide (t.ns[q].k=0) && decide (t.ns[i].k=4)))=true→normNodes t.ns t.ns=false:=fun hb=>by
        rw[hstep,hjn,hkd,normKids,hkat,hb]
        rfl
       have good:(decide (t.ns[q].k=t.ns[i].k) || (decide (t.ns[q].k=0) && decide (t.ns[i].k=4)))=false→normKids t.ns t.ns[i].k t.ns[i].kids=normKids t.ns t.ns[i].k (t.ns[i].kids.drop (j+1)):=fun hb=>by
        rw[hjn,hkd,normKids,hkat,hb]
        rfl
       have hwr:=next_wr (i:=j) (by have:=hdk.rs.cap;omega)
       refine IdxOb.mk ak j hak rfl hjl ?_
       refine LoadOb.mk _ (hrk _) ?_
       refine IdxOb.mk aq q haq rfl hql' ?_
       refine LoadOb.mk _ (hrq _) ?_
       refine GuardOb.mk (fun c1=>?_) (fun c1=>?_)
       ·refine GuardOb.mk (fun c2=>?_) (fun c2=>?_)
        ·refine CondOb.mk (fun c3=>?_) (fun c3=>?_)
         ·refine⟨_,_,.refl,?_,rfl,rfl⟩
          rw[bad (by rw[c1,c2,c3];rfl)]
         ·refine ArithOb.mk _ hwr ?_
          exact⟨j+1,⟨⟨by omega,good (by rw[c1,c2,c3];rfl)⟩,by omega⟩,.refl,aF8,.cons rfl (.cons rfl .nil)⟩
        ·refine ArithOb.mk _ hwr ?_
         exact⟨j+1,⟨⟨by omega,good (by rw[c1,c2];rfl)⟩,by omega⟩,.refl,aF8,.cons rfl (.cons rfl .nil)⟩
       ·refine⟨_,_,.refl,?_,rfl,rfl⟩
        rw[bad (by rw[c1];rfl)]
      ·have hje:t.ns[i].kids.drop j=[]:=List.drop_eq_nil_of_le (by simp at h;omega)
       refine ArithOb.mk _ (next_wr (i:=i) (by omega)) ?_
       refine⟨i+1,⟨⟨by omega,?_⟩,by omega⟩,.refl,aF4,.cons rfl .nil⟩
       rw[hstep,hjn,hje]
       rfl
   ·have hge:t.n≤i:=by simpa using h
    have hdn:t.ns.drop i=[]:=List.drop_eq_nil_of_le (by omega)
    refine⟨_,_,.refl,?_,rfl,rfl⟩
    rw[hin,hdn]
    rfl
def sizeT (t:Tr):Nat:=bif right t then t.n else 0
def nodesG (g:Gr):Nat:=(g.ds.map fun d=>sizeT d.t).sum
theorem sum_take_le {α:Type} (f:α→Nat) (m:Nat):∀ (l:List α),(∀ x∈l,f x≤m)→(l.map f).sum≤m * l.length
 | [],_=>by simp
 | x::l,h=>by
  have h1:=h x (by simp)
  have h2:=sum_take_le f m l fun y hy=>h y (by simp[hy])
  simp only[List.map_cons,List.sum_cons,List.length_cons,Nat.mul_add]
  omega
theorem GNodes_spec {I:GH} (hc:HasCounts I) {g:Gr} (hg:g.ok I) (hn:g.n≤64) (ht:∀ d∈g.ds,d.t.n≤1024):Spec Tryz.prog 115 [g.val] I [] (fun v I' M'=>v=.int .i64 (nodesG g:Nat)∧I'=I∧M'=[]):=by
 refine spec_of_V [] TryzEOK Tryz.func115 rfl rfl rfl ?_
 intro B h0
 have hgn:=hg.n
 refine LoopOb.inv (ι:=Nat) (fun i=>{ fl:=[(3,.val (.int .i64 (((g.ds.take i).map fun d=>sizeT d.t).sum:Nat))),(7,.val (.slice g.a g.n g.c)),(8,.val (.int .i64 g.n)),(9,.val (.int .i64 i))],gi:=I })
  (fun i=>i≤g.n) (fun i=>g.n - i) ?_ ?_
 ·exact⟨0,by simp,.refl,aF4,.nil⟩
 ·intro i hi
  refine CondOb.mk (fun h=>?_) (fun h=>?_)
  ·have hlt:i < g.n:=by simpa using h
   have hlt':i < g.ds.length:=by omega
   obtain⟨ad,had,hrd⟩:=hg.rs.row Df.cells_len hlt hlt'
   have hdm:g.ds[i]∈g.ds:=List.getElem_mem hlt'
   have hs:((g.ds.take i).map fun d=>sizeT d.t).sum≤1024 * (g.ds.take i).length:=sum_take_le _ 1024 _ fun d hd=>by
    have:=ht d (List.mem_of_mem_take hd)
    unfold sizeT
    cases right d.t<;>simp
    omega
   have hl:=List.length_take_le i g.ds
   have hs1:sizeT g.ds[i].t≤1024:=by
    have:=ht _ hdm
    unfold sizeT
    cases right g.ds[i].t<;>simp
    omega
   refine IdxOb.mk ad i had rfl hlt ?_
   refine LoadOb.mk _ (hrd _) ?_
   refine CallOb.mk [] [] _ (.refl _) (Size_spec hc (hg.ds _ hdm).t) ?_
   rintro v I' M' - ⟨rfl,rfl,rfl⟩
   have e1:(bif right g.ds[i].t then (g.ds[i].t.n:Int) else 0)=(sizeT g.ds[i].t:Nat):=by
    unfold sizeT
    cases right g.ds[i].t<;>rfl
   rw[e1]
   refine ArithOb.mk ((((g.ds.take (i+1)).map fun d=>sizeT d.t).sum:Nat):Int) ?_ ?_
   ·rw[wrap_i64 ⟨by omega,by omega⟩,List.take_succ_eq_append_getElem hlt',List.map_append,List.sum_append]
    simp
   refine ArithOb.mk _ (next_wr (i:=i) (by omega)) ?_
   exact⟨i+1,⟨by omega,by omega⟩,.refl,aF4,.nil⟩
  ·have hge:g.n≤i:=by simpa using h
   refine⟨_,_,.refl,?_,rfl,rfl⟩
   rw[List.take_of_length_le (by omega)]
   rfl
def largeG (deb:List Int) (g:Gr):Bool:=
 decide (64 < g.n) || ((!g.ds.all fun d=>mayTree d.t) || (decide (1024 < nodesG g) || decide (8192 < (gramB deb g.ds []).length)))
theorem large_spec {I:GH} {deb:List Int} (hT:Tabs I deb) {g:Gr} (hg:g.ok I):Spec Tryz.prog 69 [g.val] I [] (fun v I' M'=>v=.bool (largeG deb g)∧(∀ b o,I b=some o→I' b=some o)∧M'=[]):=by
 refine spec_of_V [] TryzEOK Tryz.func69 rfl rfl rfl ?_
 intro B h0
 have hgn:=hg.n
 refine CondOb.mk (fun h1=>?_) (fun h1=>?_)
 ·refine⟨_,_,.refl,?_,fun _ _ h=>h,rfl⟩
  have:64 < g.n:=by simp at h1;omega
  simp[largeG,this]
 ·have hn:g.n≤64:=by simp at h1;omega
  have e0:largeG deb g=((!g.ds.all fun d=>mayTree d.t) || (decide (1024 < nodesG g) || decide (8192 < (gramB deb g.ds []).length))):=by
   have:¬ 64 < g.n:=by omega
   simp[largeG,this]
  rw[e0]
  refine LoopOb.inv (ι:=Nat) (fun i=>{ fl:=[(1,.ref 1 0),(10,.val (.slice g.a g.n g.c)),(11,.val (.int .i64 g.n)),(12,.val (.int .i64 i))],cl:=[(1,[.slice g.a g.n g.c])],gi:=I })
   (fun i=>i≤g.n∧(g.ds.take i).all (fun d=>mayTree d.t)=true) (fun i=>g.n - i) ?_ ?_
  ·exact⟨0,⟨by simp,rfl⟩,.refl,aF4,.cons rfl .nil⟩
  ·rintro i ⟨hi,hall⟩
   refine CondOb.mk (fun h=>?_) (fun h=>?_)
   ·have hlt:i < g.n:=by simpa using h
    have hlt':i < g.ds.length:=by omega
    obtain⟨ad,had,hrd⟩:=hg.rs.row Df.cells_len hlt hlt'
    have hdm:g.ds[i]∈g.ds:=List.getElem_mem hlt'
    refine IdxOb.mk ad i had rfl hlt ?_
    refine LoadOb.mk _ (hrd _) ?_
    refine CallOb.mk [] [] _ (.refl _) (TMay_spec hT.c (hg.ds _ hdm).t) ?_
    rintro v I' M' - ⟨rfl,rfl,rfl⟩
    refine CondOb.mk (fun h2=>?_) (fun h2=>?_)
    ·refine⟨_,_,.refl,?_,fun _ _ h=>h,rfl⟩
     have hf:mayTree g.ds[i].t=false:=by simpa using h2
     have:(g.ds.all fun d=>mayTree d.t)=false:=by
      rw[List.all_eq_false]
      exact⟨_,hdm,by simp[hf]⟩
     rw[this]
     rfl
    ·have hf:mayTree g.ds[i].t=true:=by simpa using h2
     refine ArithOb.mk _ (next_wr (i:=i) (by omega)) ?_
     refine⟨i+1,⟨⟨by omega,?_⟩,by omega⟩,.refl,aF4,.cons rfl .nil⟩
     rw[List.take_succ_eq_append_getElem hlt',List.all_append,hall]
     simp[hf]
   ·have hge:g.n≤i:=by simpa using h
    rw[List.take_of_length_le (by omega)] at hall
    rw[hall]
    have hnt:∀ d∈g.ds,d.t.n≤1024:=fun d hd=>by
     have:=List.all_eq_true.1 hall d hd
     unfold mayTree at this
     simp only[Bool.and_eq_true,decide_eq_true_eq] at this
     exact this.1
    refine CallOb.mk [] [] _ (.refl _) (GNodes_spec hT.c hg hn hnt) ?_
    rintro v I' M' - ⟨rfl,rfl,rfl⟩
    refine GuardOb.mk (fun h2=>?_) (fun h2=>?_)
    ·refine CallOb.mk [] [] _ (.refl _) (PSize_spec hT hg hn hnt) ?_
     rintro v I2 M' - ⟨rfl,hI2,rfl⟩
     refine⟨_,_,.refl,?_,hI2,rfl⟩
     have h2':¬ 1024 < nodesG g:=by simp at h2;omega
     simp[h2']
     omega
    ·refine⟨_,_,.refl,?_,fun _ _ h=>h,rfl⟩
     have h2':1024 < nodesG g:=by simp at h2;omega
     simp[h2']
def findAt (name:ByteArray):List Df→Nat→Int
 | [],_=>-1
 | d::ds,i=>bif decide (d.name=name) then (i:Int) else findAt name ds (i+1)
theorem Find_spec {I:GH} {g:Gr} (hg:g.ok I) (name:ByteArray):Spec Tryz.prog 49 [g.val,.string name] I [] (fun v I' M'=>v=.int .i64 (findAt name g.ds 0)∧I'=I∧M'=[]):=by
 refine spec_of_V [] TryzEOK Tryz.func49 rfl rfl rfl ?_
 intro B h0
 have hgn:=hg.n
 have hcap:=hg.rs.cap
 refine LoopOb.inv (ι:=Nat) (fun i=>{ fl:=[(1,.val (.string name)),(8,.val (.slice g.a g.n g.c)),(9,.val (.int .i64 g.n)),(10,.val (.int .i64 i))],gi:=I })
  (fun i=>i≤g.n∧findAt name g.ds 0=findAt name (g.ds.drop i) i) (fun i=>g.n - i) ?_ ?_
 ·exact⟨0,⟨by simp,rfl⟩,.refl,aF4,.nil⟩
 ·rintro i ⟨hi,hf⟩
  refine CondOb.mk (fun h=>?_) (fun h=>?_)
  ·have hlt:i < g.n:=by simpa using h
   have hlt':i < g.ds.length:=by omega
   obtain⟨ad,had,hrd⟩:=hg.rs.row Df.cells_len hlt hlt'
   have hdrop:g.ds.drop i=g.ds[i]::g.ds.drop (i+1):=List.drop_eq_getElem_cons hlt'
   refine IdxOb.mk ad i had rfl hlt ?_
   refine LoadOb.mk _ (hrd _) ?_
   refine CondOb.mk (fun h2=>?_) (fun h2=>?_)
   ·refine⟨_,_,.refl,?_,rfl,rfl⟩
    rw[hf,hdrop,findAt,h2]
    rfl
   ·refine ArithOb.mk _ (next_wr (i:=i) (by omega)) ?_
    refine⟨i+1,⟨⟨by omega,?_⟩,by omega⟩,.refl,aF4,.nil⟩
    rw[hf,hdrop,findAt,h2]
    rfl
  ·have hge:g.n≤i:=by simpa using h
   refine⟨_,_,.refl,?_,rfl,rfl⟩
   rw[hf,List.drop_eq_nil_of_le (by omega)]
   rfl
theorem drop_cons {α:Type} {L:List α} {k:Nat} {x:α} {rest:List α} (h:L.drop k=x::rest):∃ hk:k < L.length,L[k]=x∧L.drop (k+1)=rest:=by
 have hk:k < L.length:=by
  apply Nat.lt_of_not_le
  intro hle
  rw[List.drop_eq_nil_of_le hle] at h
  cases h
 have hd:=List.drop_eq_getElem_cons hk
 rw[h] at hd
 obtain⟨h1,h2⟩:=List.cons.inj hd
 exact⟨hk,h1.symm,h2.symm⟩
def nodeVals:Nat→List Df→List (List Value)
 | _,[]=>[]
 | i,d::ds=>d.t.ns.map (fun n=>[.int .i64 i,n.val])++nodeVals (i+1) ds
theorem nodes_spec {I:GH} (g:Gr):Spec Tryz.prog 70 [g.val] I [] fun r I' M'=>∃ b,r=.func (.func 117) #[] #[ptr b]∧I' b=some (.cells #[.slice g.a g.n g.c] 30 (0,0))∧(∀ b o,I b=some o→I' b=some o)∧M'=[]:=by
 refine spec_of_V [1] TryzEOK Tryz.func70 rfl rfl rfl ?_
 intro B h0
 refine AllocOb.mk fun g hg hgM=>?_
 exact⟨_,_,.prom rfl (by simp) .refl,g,rfl,ins_self ..,ins_le hg,rfl⟩
theorem nodes1_iter {I:GH} {g:Gr} (hg:g.ok I) {b:Nat} (hb:I b=some (.cells #[.slice g.a g.n g.c] 30 (0,0))) :
  Iter Tryz.prog 117 [ptr b] I (nodeVals 0 g.ds):=by
 intro l R Rx hY I0 M0 hI0 hR0
 refine specE_of_V [] TryzEOK Tryz.func117 rfl rfl rfl ?_
 intro B h0
 have hgn:=hg.n
 have hcap:=hg.rs.cap
 have hrd:∀ (M:List Blk),Rd I0 M ((⟨b,0,none⟩:Addr).add 0) 1 [.slice g.a g.n g.c]:=fun M=>⟨rfl,_,_,_,.inl (hI0 _ _ hb),rfl,rfl⟩
 refine LoadOb.mk _ (hrd _) ?_
 refine LoopOb.inv (ι:=Nat×Nat×GH×List Blk)
  (fun x=>{ fl:=[(0,.val (.func (.yield l) #[] #[])),(8,.val (.slice g.a g.n g.c)),(9,.val (.int .i64 g.n)),(10,.val (.int .i64 x.1))],gi:=x.2.2.1,mi:=x.2.2.2 })
  (fun x=>x.1≤g.n∧(∀ b o,I b=some o→x.2.2.1 b=some o)∧R x.2.1 x.2.2.1 x.2.2.2∧x.2.1≤(nodeVals 0 g.ds).length∧(nodeVals 0 g.ds).drop x.2.1=nodeVals x.1 (g.ds.drop x.1)) (fun x=>g.n - x.1) ?_ ?_
 ·exact⟨(0,0,I0,M0),⟨by simp,hI0,hR0,by simp,rfl⟩,.refl,aF4,.nil⟩
 ·rintro⟨i,k,I1,M1⟩ ⟨hi,hI1,hR1,hkl,hd1⟩
  simp only at hi hI1 hR1 hkl hd1
  refine CondOb.mk (fun h=>?_) (fun h=>?_)
  ·have hlt:i < g.n:=by simpa using h
   have hlt':i < g.ds.length:=by omega
   have hg1:=hg.mono hI1
   obtain⟨ad,had,hrdd⟩:=hg1.rs.row Df.cells_len hlt hlt'
   have hdm:g.ds[i]∈g.ds:=List.getElem_mem hlt'
   have htn:=(hg.ds _ hdm).t.n
   have htc:=(hg.ds _ hdm).t.rs.cap
   have hdrop:g.ds.drop i=g.ds[i]::g.ds.drop (i+1):=List.drop_eq_getElem_cons hlt'
   refine IdxOb.mk ad i had rfl hlt ?_
   refine LoadOb.mk _ (hrdd _) ?_
   refine LoopOb.inv (ι:=Nat×Nat×GH×List Blk)
    (fun x=>{ fl:=[(0,.val (.func (.yield l) #[] #[])),(3,.val (.int .i64 i)),(8,.val (.slice g.a g.n g.c)),(9,.val (.int .i64 g.n)),(10,.val (.int .i64 i)),(17,.val (.slice g.ds[i].t.a g.ds[i].t.n g.ds[i].t.c)),(18,.val (.int .i64 g.ds[i].t.n)),(19,.val (.int .i64 x.1))],gi:=x.2.2.1,mi:=x.2.2.2 })
    (fun x=>x.1≤g.ds[i].t.n∧(∀ b o,I b=some o→x.2.2.1 b=some o)∧R x.2.1 x.2.2.1 x.2.2.2∧x.2.1≤(nodeVals 0 g.ds).length∧(nodeVals 0 g.ds).drop x.2.1=(g.ds[i].t.ns.drop x.1).map (fun n=>[.int .i64 i,n.val])++nodeVals (i+1) (g.ds.drop (i+1))) (fun x=>g.ds[i].t.n - x.1) ?_ ?_
   ·refine⟨(0,k,I1,M1),⟨by simp,hI1,hR1,hkl,?_⟩,.refl,aF8,.nil⟩
    simp only
    rw[hd1,hdrop]
    rfl
   ·rintro⟨j,k,I1,M1⟩ ⟨hj,hI1,hR1,hkl,hd1⟩
    simp only at hj hI1 hR1 hkl hd1
    refine CondOb.mk (fun h=>?_) (fun h=>?_)
    ·have hjl:j < g.ds[i].t.n:=by simpa using h
     have hjl':j < g.ds[i].t.ns.length:=by omega
     have hg1:=hg.mono hI1
     obtain⟨an,han,hrn⟩:=(hg1.ds _ hdm).t.rs.row Nd.cells_len hjl hjl'
     have hnd:g.ds[i].t.ns.drop j=g.ds[i].t.ns[j]::g.ds[i].t.ns.drop (j+1):=List.drop_eq_getElem_cons hjl'
     rw[hnd,List.map_cons,List.cons_append] at hd1
     obtain⟨hk,hv,hd2⟩:=drop_cons hd1
     refine IdxOb.mk an j han rfl hjl ?_
     refine LoadOb.mk _ (hrn _) ?_
     refine OtherOb.yield rfl (by simp) rfl rfl ?_
     have hy:=hY k hk I1 M1 hI1 hR1
     rw[hv] at hy
     refine CallObY.mk M1 [] _ (by simp) hy ?_
     rintro v I2 M2 hI2 (⟨rfl,hR2⟩ | ⟨rfl,hx⟩)
     ·refine CondOb.mk (fun h=>by simp at h) (fun _=>?_)
      refine ArithOb.mk _ (next_wr (i:=j) (by omega)) ?_
      exact⟨(j+1,k+1,I2,M2),⟨⟨by simp only;omega,fun b o h=>hI2 b o (hI1 b o h),hR2,hk,hd2⟩,by simp only;omega⟩,.perm (by simp) .refl,aF8,.nil⟩
     ·refine CondOb.mk (fun _=>?_) (fun h=>by simp at h)
      exact⟨_,_,.perm (by simp) .refl,.inr hx⟩
    ·have hge:g.ds[i].t.n≤j:=by simpa using h
     rw[List.drop_eq_nil_of_le (show g.ds[i].t.ns.length≤j by omega),List.map_nil,List.nil_append] at hd1
     refine ArithOb.mk _ (next_wr (i:=i) (by omega)) ?_
     exact⟨(i+1,k,I1,M1),⟨⟨by simp only;omega,hI1,hR1,hkl,hd1⟩,by simp only;omega⟩,.refl,aF4,.nil⟩
  ·have hge:g.n≤i:=by simpa using h
   refine⟨_,_,.refl,.inl ?_⟩
   rw[List.drop_eq_nil_of_le (show g.ds.length≤i by omega)] at hd1
   have hke:k=(nodeVals 0 g.ds).length:=by
    have:=List.drop_eq_nil_iff.1 hd1
    omega
   rw[←hke]
   exact hR1
def namedL (ns:List Nd):List ByteArray:=(ns.filter fun d=>decide (d.k=3)).map (·.t)
theorem named_spec {I:GH} (t:Tr):Spec Tryz.prog 154 [t.val] I [] fun r I' M'=>∃ b,r=.func (.func 186) #[] #[ptr b]∧I' b=some (.cells #[.slice t.a t.n t.c,.int .i64 t.root] 42 (0,0))∧(∀ b o,I b=some o→I' b=some o)∧M'=[]:=by
 refine spec_of_V [1] TryzEOK Tryz.func154 rfl rfl rfl ?_
 intro B h0
 refine AllocOb.mk fun g hg hgM=>?_
 exact⟨_,_,.prom rfl (by simp) .refl,g,rfl,ins_self ..,ins_le hg,rfl⟩
theorem named1_iter {I:GH} {t:Tr} (ht:t.ok I) {b:Nat} (hb:I b=some (.cells #[.slice t.a t.n t.c,.int .i64 t.root] 42 (0,0))) :
  Iter Tryz.prog 186 [ptr b] I ((namedL t.ns).map fun s=>[.string s]):=by
 intro l R Rx hY I0 M0 hI0 hR0
 refine specE_of_V [] TryzEOK Tryz.func186 rfl rfl rfl ?_
 intro B h0
 have htn:=ht.n
 have hcap:=ht.rs.cap
 have hrd:∀ (M:List Blk),Rd I0 M ((⟨b,0,none⟩:Addr).add 0) 1 [.slice t.a t.n t.c]:=fun M=>⟨rfl,_,_,_,.inl (hI0 _ _ hb),rfl,rfl⟩
 refine LoadOb.mk _ (hrd _) ?_
 refine LoopOb.inv (ι:=Nat×Nat×GH×List Blk)
  (fun x=>{ fl:=[(0,.val (.func (.yield l) #[] #[])),(6,.val (.slice t.a t.n t.c)),(7,.val (.int .i64 t.n)),(8,.val (.int .i64 x.1))],gi:=x.2.2.1,mi:=x.2.2.2 })
  (fun x=>x.1≤t.n∧(∀ b o,I b=some o→x.2.2.1 b=some o)∧R x.2.1 x.2.2.1 x.2.2.2∧x.2.1≤((namedL t.ns).map fun s=>[Value.string s]).length∧((namedL t.ns).map fun s=>[Value.string s]).drop x.2.1=(namedL (t.ns.drop x.1)).map fun s=>[.string s]) (fun x=>t.n - x.1) ?_ ?_
 ·exact⟨(0,0,I0,M0),⟨by simp,hI0,hR0,by simp,rfl⟩,.refl,aF4,.nil⟩
 ·rintro⟨j,k,I1,M1⟩ ⟨hj,hI1,hR1,hkl,hd1⟩
  simp only at hj hI1 hR1 hkl hd1
  refine CondOb.mk (fun h=>?_) (fun h=>?_)
  ·have hjl:j < t.n:=by simpa using h
   have hjl':j < t.ns.length:=by omega
   have ht1:=ht.mono hI1
   obtain⟨an,han,hrn⟩:=ht1.rs.row Nd.cells_len hjl hjl'
   have hnd:t.ns.drop j=t.ns[j]::t.ns.drop (j+1):=List.drop_eq_getElem_cons hjl'
   refine IdxOb.mk an j han rfl hjl ?_
   refine LoadOb.mk _ (hrn _) ?_
   refine GuardOb.mk (fun h1=>?_) (fun h1=>?_)
   ·have hn1:namedL (t.ns.drop j)=t.ns[j].t::namedL (t.ns.drop (j+1)):=by
     rw[hnd]
     simp only[namedL,List.filter_cons,h1,if_true,List.map_cons]
    rw[hn1,List.map_cons] at hd1
    obtain⟨hk,hv,hd2⟩:=drop_cons hd1
    refine OtherOb.yield rfl (by simp) rfl rfl ?_
    have hy:=hY k hk I1 M1 hI1 hR1
    rw[hv] at hy
    refine CallObY.mk M1 [] _ (by simp) hy ?_
    rintro v I2 M2 hI2 (⟨rfl,hR2⟩ | ⟨rfl,hx⟩)
    ·refine CondOb.mk (fun h=>by simp at h) (fun _=>?_)
     refine ArithOb.mk _ (next_wr (i:=j) (by omega)) ?_
     exact⟨(j+1,k+1,I2,M2),⟨⟨by simp only;omega,fun b o h=>hI2 b o (hI1 b o h),hR2,hk,hd2⟩,by simp only;omega⟩,.perm (by simp) .refl,aF4,.nil⟩
    ·refine CondOb.mk (fun _=>?_) (fun h=>by simp at h)
     exact⟨_,_,.perm (by simp) .refl,.inr hx⟩
   ·have hn1:namedL (t.ns.drop j)=namedL (t.ns.drop (j+1)):=by
     rw[hnd]
     have h1':decide (t.ns[j].k=3)=false:=h1
     simp only[namedL,List.filter_cons,h1']
     rfl
    rw[hn1] at hd1
    refine ArithOb.mk _ (next_wr (i:=j) (by omega)) ?_
    exact⟨(j+1,k,I1,M1),⟨⟨by simp only;omega,hI1,hR1,hkl,hd1⟩,by simp only;omega⟩,.refl,aF4,.nil⟩
  ·have hge:t.n≤j:=by simpa using h
   refine⟨_,_,.refl,.inl ?_⟩
   rw[List.drop_eq_nil_of_le (show t.ns.length≤j by omega)] at hd1
   have hke:k=((namedL t.ns).map fun s=>[Value.string s]).length:=by
    have:=List.drop_eq_nil_iff.1 hd1
    omega
   rw[←hke]
   exact hR1
section
variable {X:Ctx} {β:Nat→Nat} {a:Act} {w:World} {F:Fr} {C:Bx} {I:GH} {M:List Blk} {o:Oper} {K:KS}
theorem RelB.swap {n:Nat} {ob ob':Obj} {w':World} (h:RelB X β a w F C I (⟨n,ob⟩::M)) (hs:w'.heap.size=w.heap.size) (hn:w'.heap[n]?=some ob') (hb:∀ b,b≠n→w'.heap[b]?=w.heap[b]?) (ho:Same w w'):RelB X β a w' F C I (⟨n,ob'⟩::M):=by
 have h1:=h.lose hs hb ho
 have hx0:(⟨n,ob⟩:Blk)∈(⟨n,ob⟩:Blk)::M:=by simp
 have hnd:=h.holds.nd
 simp only[List.map_cons,List.nodup_cons] at hnd
 have mem:∀ x,x∈(⟨n,ob'⟩:Blk)::M→x=⟨n,ob'⟩∨x∈M:=fun x hx=>List.mem_cons.1 hx
 exact {
  size:=h1.size
  defers:=by
   obtain⟨rs,e1,e2,e3⟩:=h1.defers
   obtain⟨rs',f1,f2,f3⟩:=h.defers
   refine⟨rs,e1,e2,fun r hr=>{ e3 r hr with noM:=fun x hx=>?_ }⟩
   rcases mem x hx with rfl | hx
   ·have e4:rs=rs':=by
     have:=e1.symm.trans f1
     have hinj:∀ l l':List Nat,l.map markOf=l'.map markOf→l=l':=by
      intro l
      induction l with
      | nil=>intro l' h;cases l' with
       | nil=>rfl
       | cons=>simp at h
      | cons y l ih=>intro l' h;cases l' with
       | nil=>simp at h
       | cons z l'=>
        simp only[List.map_cons,List.cons.injEq,markOf,Deferred.mk.injEq] at h
        have hy:y=z:=by simpa using h.1
        rw[hy,ih l' h.2]
     exact hinj _ _ this
    subst e4
    exact(f3 r hr).noM ⟨n,ob⟩ hx0
   ·exact(e3 r hr).noM x hx
  holds:={
   i:=h1.holds.i
   m:=fun x hx=>by
    rcases mem x hx with rfl | hx
    ·exact hn
    ·exact h1.holds.m x hx
   d:=fun x hx=>by
    rcases mem x hx with rfl | hx
    ·exact h.holds.d ⟨n,ob⟩ hx0
    ·exact h1.holds.d x hx
   nd:=by simpa using hnd }
  fr:=h.fr
  bx:=fun s cs hcs=>by
   have hbx:=h.bx s cs hcs
   refine { h1.bx s cs hcs with noM:=fun x hx=>?_ }
   rcases mem x hx with rfl | hx
   ·exact hbx.noM ⟨n,ob⟩ hx0
   ·exact(h1.bx s cs hcs).noM x hx
  inj:=h.inj
  le0:=h.le0
  new0:=h.new0
  own:=fun x hx=>by
   rcases mem x hx with rfl | hx
   ·exact h.own ⟨n,ob⟩ hx0
   ·exact h1.own x hx
  old:=h1.old
  out:=h1.out
  sz:=h1.sz }
def ents (l:List (ByteArray×Int)):Nat→List MapEntry
 | i=>match l with
  | []=>[]
  | p::l=>{ key:=.string p.1,val:=.int .i64 p.2,born:=i }::ents l (i+1)
def mapO (l:List (ByteArray×Int)):Obj:=.map (ents l 0).toArray l.length
def lookM (s:ByteArray):List (ByteArray×Int)→Option Int
 | []=>none
 | p::l=>bif decide (s=p.1) then some p.2 else lookM s l
theorem ents_snoc (l:List (ByteArray×Int)) (p:ByteArray×Int):∀ i,ents (l++[p]) i=ents l i++[{ key:=.string p.1,val:=.int .i64 p.2,born:=i+l.length }]:=by
 induction l with
 | nil=>intro i;simp[ents]
 | cons q l ih=>
  intro i
  simp only[List.cons_append,ents,ih,List.length_cons,List.cons.injEq,true_and,List.append_cancel_left_eq,MapEntry.mk.injEq,and_true]
  omega
theorem bytes_beq (a b:ByteArray):(a == b)=decide (a=b):=by
 rw[Bool.eq_iff_iff]
 simp only[decide_eq_true_eq]
 constructor
 ·intro h
  first | exact eq_of_beq h | exact ByteArray.ext (eq_of_beq (a:=a.data) (b:=b.data) h)
 ·rintro rfl
  first | exact beq_self_eq_true _ | exact beq_self_eq_true a.data
theorem findNow_ents (s:ByteArray):∀ (l:List (ByteArray×Int)) (i j:Nat),∃ r,Instr.findNow .string (.string s) (ents l i) j=some r∧r.map (·.2)=(lookM s l).map (Value.int .i64)
 | [],i,j=>⟨none,rfl,rfl⟩
 | p::l,i,j=>by
  obtain⟨r,h1,h2⟩:=findNow_ents s l (i+1) (j+1)
  unfold ents Instr.findNow
  simp only[Instr.sameNow,bytes_beq]
  cases hb:decide (s=p.1) with
  | true=>exact⟨_,rfl,by simp[lookM,hb]⟩
  | false=>exact⟨r,h1,by simp only[lookM,hb,cond_false];exact h2⟩
theorem OtherOb.makeMap (hE:EOK X.P X.E) {t:Nat} {r:Operand} (ho:o.op=.makeMap t (some r)) (hd:∀ d,o.dst=some d→d < X.n) {ti:TI} {k e:Nat} (ht:X.E t=some ti) (hts:ti.sh=.map k e)
  {q:IntKind} {n:Int} (hr:ev F r=.val (.int q n)) (h:∀ b,K (put o.dst (.val (.map (some b))) F) C I (⟨b,mapO []⟩::M)):OtherOb X o F C I M K:=by
 refine⟨fun a w Q ⟨β,hR⟩=>?_⟩
 obtain⟨d,hud,hdd⟩:=(hE _ _ ht).und
 have h1:d=.map k e:=by rw[hts] at hdd;cases d<;>simp_all[shOf]
 subst h1
 have er:=eval_of_ev hR.fr hr
 refine wpIn_val (by rw[ho];simp) (v:=.map (some w.heap.size)) (w':=w.alloc (.map #[] 0)) ?_ ⟨_,_,_,_,⟨β,RelB.put (x:=.val (.map (some w.heap.size))) (hR.alloc_blk (mapO [])) hd rfl⟩,h _⟩
 unfold execOp
 simp only[ho,Option.map_some,er]
 simp[Instr.makeMap,run_underlying hud,asInt,asIntOf_int]
theorem OtherOb.lookup (hE:EOK X.P X.E) {t:Nat} {x y:Operand} (ho:o.op=.lookup t x y true) (hd:∀ d,o.dst=some d→d < X.n) {ti tk:TI} {k e:Nat} (ht:X.E t=some ti) (hts:ti.sh=.map k e) (hk:X.E k=some tk) (hks:tk.sh=.string)
  (hz:∀ w,(zeroValue e).run X.P w=.ok (.int .i64 0) w) {g:Nat} {l:List (ByteArray×Int)} {s:ByteArray} (hx:ev F x=.val (.map (some g))) (hy:ev F y=.val (.string s)) (hM:(⟨g,mapO l⟩:Blk)∈M)
  (h:K (put o.dst (.val (.tuple #[.int .i64 ((lookM s l).getD 0),.bool (lookM s l).isSome])) F) C I M):OtherOb X o F C I M K:=by
 refine⟨fun a w Q ⟨β,hR⟩=>?_⟩
 obtain⟨d,hud,hdd⟩:=(hE _ _ ht).und
 have h1:d=.map k e:=by rw[hts] at hdd;cases d<;>simp_all[shOf]
 subst h1
 obtain⟨dk,huk,hdk⟩:=(hE _ _ hk).und
 have h2:dk=.string:=by rw[hks] at hdk;cases dk<;>simp_all[shOf]
 subst h2
 have hg:w.heap[g]?=some (.map (ents l 0).toArray l.length):=hR.holds.m _ hM
 have ex:=eval_of_ev hR.fr hx
 have ey:=eval_of_ev hR.fr hy
 obtain⟨r,hf1,hf2⟩:=findNow_ents s l 0 0
 have hc:(Instr.checkKey (ents l 0).toArray.isEmpty 10000 k (.string s)).run X.P w=.ok () w:=MapKept.run_checkKey (k:=.string s) huk (by simp[MapKept.IsKey]) _ 9999
 have hfk:(Instr.findKey k (.string s) (ents l 0)).run X.P w=.ok r w:=MapKept.run_findKey huk hf1
 have hrun:(Instr.lookup t (.map (some g)) (.string s) true).run X.P w=.ok (.tuple #[.int .i64 ((lookM s l).getD 0),.bool (lookM s l).isSome]) w:=by
  unfold Instr.lookup
  simp only[Sem.run_bind,run_underlying hud,Result.andThen_ok,MapKept.run_getObj_map hg,Sem.run_pure,hc,hfk]
  cases r with
  | none=>
   cases hl:lookM s l with
   | none=>simp[hz]
   | some v=>rw[hl] at hf2;simp at hf2
  | some p=>
   cases hl:lookM s l with
   | none=>rw[hl] at hf2;simp at hf2
   | some v=>
    rw[hl] at hf2
    simp only[Option.map_some,Option.some.injEq] at hf2
    simp[hf2]
 refine done_vv hR hd (by rw[ho];simp) ?_ h
 unfold execOp
 simp only[ho,ex,ey,Sem.run_bind,hrun,Result.andThen_ok,Sem.run_pure]
theorem OtherOb.mapNew (hE:EOK X.P X.E) {t:Nat} {x y z:Operand} (ho:o.op=.mapUpdate t x y z) (hd:o.dst=none) {ti tk:TI} {k e:Nat} (ht:X.E t=some ti) (hts:ti.sh=.map k e) (hk:X.E k=some tk) (hks:tk.sh=.string)
  {g:Nat} {l:List (ByteArray×Int)} {s:ByteArray} {v:Int} (hx:ev F x=.val (.map (some g))) (hy:ev F y=.val (.string s)) (hzv:ev F z=.val (.int .i64 v)) (hl:lookM s l=none)
  {Mr:List Blk} (hM:M.Perm (⟨g,mapO l⟩::Mr)) (h:K F C I (⟨g,mapO (l++[(s,v)])⟩::Mr)):OtherOb X o F C I M K:=by
 refine⟨fun a w Q ⟨β,hR0⟩=>?_⟩
 have hR:RelB X β a w F C I (⟨g,mapO l⟩::Mr):=hR0.wk (.perm hM .refl)
 obtain⟨d,hud,hdd⟩:=(hE _ _ ht).und
 have h1:d=.map k e:=by rw[hts] at hdd;cases d<;>simp_all[shOf]
 subst h1
 obtain⟨dk,huk,hdk⟩:=(hE _ _ hk).und
 have h2:dk=.string:=by rw[hks] at hdk;cases dk<;>simp_all[shOf]
 subst h2
 have hg:w.heap[g]?=some (.map (ents l 0).toArray l.length):=hR.holds.m ⟨g,mapO l⟩ (by simp)
 have ex:=eval_of_ev hR.fr hx
 have ey:=eval_of_ev hR.fr hy
 have ez:=eval_of_ev hR.fr hzv
 obtain⟨r,hf1,hf2⟩:=findNow_ents s l 0 0
 have hr:r=none:=by
  rw[hl] at hf2
  cases r with
  | none=>rfl
  | some _=>simp at hf2
 subst hr
 have hc:(Instr.checkKey false 10000 k (.string s)).run X.P w=.ok () w:=MapKept.run_checkKey (k:=.string s) huk (by simp[MapKept.IsKey]) _ 9999
 have hfk:(Instr.findKey k (.string s) (ents l 0)).run X.P w=.ok none w:=MapKept.run_findKey huk hf1
 have hnew:mapO (l++[(s,v)])=.map ((ents l 0).toArray.push { key:=.string s,val:=.int .i64 v,born:=l.length }) (l.length+1):=by
  unfold mapO
  rw[ents_snoc]
  simp
 have hrun:(Instr.mapUpdate t (.map (some g)) (.string s) (.int .i64 v)).run X.P w=.ok () { w with heap:=w.heap.setIfInBounds g (mapO (l++[(s,v)])) }:=by
  unfold Instr.mapUpdate
  simp only[Sem.run_bind,run_underlying hud,Result.andThen_ok,MapKept.run_getObj_map hg,hc,hfk,MapKept.run_setObj_map _ hg,hnew]
 have hset:=MapKept.heap_set (o':=mapO (l++[(s,v)])) hg
 refine wpIn_skip' (by rw[ho];simp) (w':={ w with heap:=w.heap.setIfInBounds g (mapO (l++[(s,v)])) }) ?_ ⟨F,C,I,_,⟨β,?_⟩,h⟩
 ·unfold execOp
  simp only[ho,ex,ey,ez,Sem.run_bind,hrun,Result.andThen_ok,Sem.run_pure]
 ·rw[hd]
  exact hR.swap (by simp) hset.1 hset.2 ⟨rfl,rfl⟩
end
def nodePairs:Nat→List Df→List (Nat×Nd)
 | _,[]=>[]
 | i,d::ds=>d.t.ns.map (fun n=>(i,n))++nodePairs (i+1) ds
theorem nodeVals_eq:∀ (ds:List Df) (i:Nat),nodeVals i ds=(nodePairs i ds).map fun p=>[.int .i64 p.1,p.2.val]
 | [],i=>rfl
 | d::ds,i=>by
  simp only[nodeVals,nodePairs,List.map_append,List.map_map,nodeVals_eq ds (i+1)]
  rfl
def okDefs (ds:List Df):Bool:=ds.all fun d=>mayName d.name && normal d.t
def dups:List (ByteArray×Int)→Nat→List Df→Option (List (ByteArray×Int))
 | acc,_,[]=>some acc
 | acc,i,d::ds=>bif (lookM d.name acc).isSome then none else dups (acc++[(d.name,(i:Int))]) (i+1) ds
def nodeOk (acc:List (ByteArray×Int)) (n:Nd):Bool:=!decide (n.k=3) || (lookM n.t acc).isSome
def allNamed (acc:List (ByteArray×Int)) (ds:List Df):Bool:=(nodePairs 0 ds).all fun p=>nodeOk acc p.2
def mayG (deb:List Int) (g:Gr):Int:=
 bif decide ((g.n:Int)=0) then 4 else bif !okDefs g.ds then 4 else bif largeG deb g then 40 else
 match dups [] 0 g.ds with
 | none=>6
 | some acc=>bif allNamed acc g.ds then 0 else 41
def errB (b:Nat) (e:Int):Blk:=⟨b,.cells #[.int .i64 e] 32 (0,0)⟩
theorem errB_rd {I:GH} {M:List Blk} {b:Nat} {e:Int} (h:errB b e∈M):Rd I M ⟨b,0,none⟩ 1 [.int .i64 e]:=
 ⟨rfl,_,_,_,.inr ⟨_,h,rfl,rfl⟩,rfl,rfl⟩
theorem zero_int (w:World):(zeroValue 3).run Tryz.prog w=.ok (.int .i64 0) w:=by
 have h:(Tryz.prog.info? 3).map (fun i=>i.zero)=some (some (.int .i64 0)):=by kernel_rfl
 obtain⟨i,h1,h2⟩:=Option.map_eq_some_iff.1 h
 simp[zeroValue,typeInfo,h1,h2]
set_option maxHeartbeats 2000000 in
theorem May_spec {I:GH} {deb:List Int} (hT:Tabs I deb) {g:Gr} (hg:g.ok I):Spec Tryz.prog 25 [g.val] I [] (fun v I' M'=>v=.int .i64 (mayG deb g)∧(∀ b o,I b=some o→I' b=some o)∧M'=[]):=by
 refine spec_of_V [2,5] TryzEOK Tryz.func25 rfl rfl rfl ?_
 intro B h0
 have hgn:=hg.n
 have hcap:=hg.rs.cap
 refine AllocOb.mk fun b2 hb2 hbM2=>?_
 refine CondOb.mk (fun h1=>?_) (fun h1=>?_)
 ·refine StoreOb.mk [] [] _ _ rfl rfl (Nat.le_of_ble_eq_true rfl) rfl ?_
  refine LoadOb.mk _ (errB_rd (b:=b2) (e:=4) (.head _)) ?_
  refine⟨_,_,.sub (List.nil_sublist _) .refl,?_,fun _ _ h=>h,rfl⟩
  rw[mayG,h1]
  rfl
 ·have hpos:g.n≠0:=by simp at h1;omega
  refine LoopOb.inv (ι:=Nat) (fun i=>{ fl:=[(1,.ref 1 0),(2,.val (ptr b2)),(19,.val (.slice g.a g.n g.c)),(20,.val (.int .i64 g.n)),(21,.val (.int .i64 i))],cl:=[(1,[.slice g.a g.n g.c])],gi:=I,mi:=[errB b2 0] })
   (fun i=>i≤g.n∧okDefs (g.ds.take i)=true) (fun i=>g.n - i) ?_ ?_
  ·exact⟨0,⟨by simp,rfl⟩,.refl,aF5,.cons rfl .nil⟩
  ·rintro i ⟨hi,hall⟩
   refine CondOb.mk (fun h=>?_) (fun h=>?_)
   ·have hlt:i < g.n:=by simpa using h
    have hlt':i < g.ds.length:=by omega
    obtain⟨ad,had,hrd⟩:=hg.rs.row Df.cells_len hlt hlt'
    have hdm:g.ds[i]∈g.ds:=List.getElem_mem hlt'
    have bad:(mayName g.ds[i].name && normal g.ds[i].t)=false→mayG deb g=4:=fun hb=>by
     have:okDefs g.ds=false:=by
      unfold okDefs
      rw[List.all_eq_false]
      exact⟨_,hdm,by simp[hb]⟩
     rw[mayG,h1,this]
     rfl
    refine IdxOb.mk ad i had rfl hlt ?_
    refine LoadOb.mk _ (hrd _) ?_
    refine CallOb.mk [] [errB b2 0] _ (.refl _) (NMay_spec _ g.ds[i].name) ?_
    rintro v I' M' - ⟨rfl,rfl,rfl⟩
    refine GuardOb.mk (fun h2=>?_) (fun h2=>?_)
    ·have hm:mayName g.ds[i].name=true:=by simpa using h2
     refine CallOb.mk [] [errB b2 0] _ (.refl _) (Normal_spec hT.c (hg.ds _ hdm).t) ?_
     rintro v I' M' - ⟨rfl,rfl,rfl⟩
     refine CondOb.mk (fun h3=>?_) (fun h3=>?_)
     ·have hno:normal g.ds[i].t=false:=by simpa using h3
      refine StoreOb.mk [] [] _ _ rfl rfl (Nat.le_of_ble_eq_true rfl) rfl ?_
      refine LoadOb.mk _ (errB_rd (b:=b2) (e:=4) (.head _)) ?_
      refine⟨_,_,.sub (List.nil_sublist _) .refl,?_,fun _ _ h=>h,rfl⟩
      rw[bad (by rw[hm,hno];rfl)]
      rfl
     ·have hno:normal g.ds[i].t=true:=by simpa using h3
      refine ArithOb.mk _ (next_wr (i:=i) (by omega)) ?_
      refine⟨i+1,⟨⟨by omega,?_⟩,by omega⟩,.refl,aF5,.cons rfl .nil⟩
      unfold okDefs at hall ⊢
      rw[List.take_succ_eq_append_getElem hlt',List.all_append,hall]
      simp[hm,hno]
    ·have hm:mayName g.ds[i].name=false:=by simpa using h2
     refine StoreOb.mk [] [] _ _ rfl rfl (Nat.le_of_ble_eq_true rfl) rfl ?_
     refine LoadOb.mk _ (errB_rd (b:=b2) (e:=4) (.head _)) ?_
     refine⟨_,_,.sub (List.nil_sublist _) .refl,?_,fun _ _ h=>h,rfl⟩
     rw[bad (by rw[hm];rfl)]
     rfl
   ·have hge:g.n≤i:=by simpa using h
    rw[List.take_of_length_le (by omega)] at hall
    refine CallOb.mk [] [errB b2 0] _ (.refl _) (large_spec hT hg) ?_
    rintro v I1 M' - ⟨rfl,hI1,rfl⟩
    refine CondOb.mk (fun h2=>?_) (fun h2=>?_)
    ·refine StoreOb.mk [] [] _ _ rfl rfl (Nat.le_of_ble_eq_true rfl) rfl ?_
     refine LoadOb.mk _ (errB_rd (b:=b2) (e:=40) (.head _)) ?_
     refine⟨_,_,.sub (List.nil_sublist _) .refl,?_,hI1,rfl⟩
     rw[mayG,h1,hall,h2]
     rfl
    ·have hmg:mayG deb g=match dups [] 0 g.ds with
       | none=>6
       | some acc=>bif allNamed acc g.ds then 0 else 41:=by
      rw[mayG,h1,hall,h2]
      rfl
     rw[hmg]
     have hg1:=hg.mono hI1
     refine OtherOb.makeMap TryzEOK rfl (by simp) rfl rfl rfl fun bm=>?_
     refine AllocOb.mk fun b5 hb5 hbM5=>?_
     refine StoreOb.mk [] [⟨bm,mapO []⟩,errB b2 0] _ _ rfl rfl (Nat.le_of_ble_eq_true rfl) rfl ?_
     refine LoopOb.inv (ι:=Nat×List (ByteArray×Int)) (fun x=>{ fl:=[(1,.ref 1 0),(2,.val (ptr b2)),(5,.val (ptr b5)),(43,.val (.slice g.a g.n g.c)),(44,.val (.int .i64 g.n)),(45,.val (.int .i64 x.1))],cl:=[(1,[.slice g.a g.n g.c])],gi:=I1,mi:=[⟨b5,.cells #[.map (some bm)] 110 (0,0)⟩,⟨bm,mapO x.2⟩,errB b2 0] })
      (fun x=>x.1≤g.n∧dups [] 0 g.ds=dups x.2 x.1 (g.ds.drop x.1)) (fun x=>g.n - x.1) ?_ ?_
     ·exact⟨(0,[]),⟨by simp,rfl⟩,.refl,aF6,.cons rfl .nil⟩
     ·rintro⟨i,acc⟩ ⟨hi,hdu⟩
      simp only at hi hdu
      refine CondOb.mk (fun h=>?_) (fun h=>?_)
      ·have hlt:i < g.n:=by simpa using h
       have hlt':i < g.ds.length:=by omega
       obtain⟨ad,had,hrd⟩:=hg1.rs.row Df.cells_len hlt hlt'
       have hdrop:g.ds.drop i=g.ds[i]::g.ds.drop (i+1):=List.drop_eq_getElem_cons hlt'
       refine IdxOb.mk ad i had rfl hlt ?_
       refine LoadOb.mk _ (hrd _) ?_
       refine LoadOb.mk [.map (some bm)] ⟨rfl,_,_,_,.inr ⟨_,.head _,rfl,rfl⟩,rfl,rfl⟩ ?_
       refine OtherOb.lookup TryzEOK rfl (by simp) rfl rfl rfl rfl (fun w=>zero_int w) (l:=acc) (g:=bm) rfl rfl (by simp) ?_
       refine CondOb.mk (fun h3=>?_) (fun h3=>?_)
       ·refine StoreOb.mk [⟨b5,.cells #[.map (some bm)] 110 (0,0)⟩,⟨bm,mapO acc⟩] [] _ _ rfl rfl (Nat.le_of_ble_eq_true rfl) rfl ?_
        refine LoadOb.mk _ (errB_rd (b:=b2) (e:=6) (.tail _ (.tail _ (.head _)))) ?_
        refine⟨_,_,.sub (List.nil_sublist _) .refl,?_,hI1,rfl⟩
        rw[hdu,hdrop,dups,h3]
        rfl
       ·have hl:lookM g.ds[i].name acc=none:=by simpa using h3
        refine LoadOb.mk [.map (some bm)] ⟨rfl,_,_,_,.inr ⟨_,.head _,rfl,rfl⟩,rfl,rfl⟩ ?_
        refine OtherOb.mapNew TryzEOK rfl rfl rfl rfl rfl rfl rfl rfl rfl hl (Mr:=[⟨b5,.cells #[.map (some bm)] 110 (0,0)⟩,errB b2 0]) (List.Perm.swap _ _ _) ?_
        refine ArithOb.mk _ (next_wr (i:=i) (by omega)) ?_
        refine⟨(i+1,acc++[(g.ds[i].name,(i:Int))]),⟨⟨by simp only;omega,?_⟩,by simp only;omega⟩,.perm (List.Perm.swap _ _ _) .refl,aF6,.cons rfl .nil⟩
        simp only
        rw[hdu,hdrop,dups,h3]
        rfl
      ·have hge2:g.n≤i:=by simpa using h
       have hdd:dups [] 0 g.ds=some acc:=by
        rw[hdu,List.drop_eq_nil_of_le (by omega),dups]
       rw[hdd]
       refine CallOb.mk [] [⟨b5,.cells #[.map (some bm)] 110 (0,0)⟩,⟨bm,mapO acc⟩,errB b2 0] _ (.refl _) (nodes_spec g) ?_
       rintro v I2 M2 - ⟨gb,rfl,hgb,hI2,rfl⟩
       have hg2:=hg1.mono hI2
       have hI02:∀ b o,I b=some o→I2 b=some o:=fun b o h=>hI2 _ _ (hI1 _ _ h)
       refine CodeOb.range TryzEOK rfl rfl rfl .refl (nodes1_iter hg2 hgb) (fun vs h=>?_)
        (fun k I' M'=>(∀ b o,I2 b=some o→I' b=some o)∧((nodePairs 0 g.ds).take k).all (fun p=>nodeOk acc p.2)=true∧M'=[⟨b5,.cells #[.map (some bm)] 110 (0,0)⟩,⟨bm,mapO acc⟩,errB b2 0])
        (fun ex I' M'=>ex=.ret∧(∀ b o,I2 b=some o→I' b=some o)∧allNamed acc g.ds=false∧M'=[⟨b5,.cells #[.map (some bm)] 110 (0,0)⟩,⟨bm,mapO acc⟩,errB b2 41]) ⟨fun _ _ h=>h,rfl,rfl⟩ ?_ ?_ ?_
       ·rw[nodeVals_eq] at h
        obtain⟨p,_,rfl⟩:=List.mem_map.1 h
        rfl
       ·rintro k hk I' M' - ⟨hI',hok,rfl⟩ l B h0 h0'
        have hkp:k < (nodePairs 0 g.ds).length:=by simpa[nodeVals_eq] using hk
        generalize hp:(nodePairs 0 g.ds)[k]=p
        have hv:(nodeVals 0 g.ds)[k]=[.int .i64 p.1,p.2.val]:=by
         simp only[nodeVals_eq,List.getElem_map,hp]
        rw[hv]
        have next:nodeOk acc p.2=true→((nodePairs 0 g.ds).take (k+1)).all (fun p=>nodeOk acc p.2)=true:=fun h=>by
         rw[List.take_succ_eq_append_getElem hkp,List.all_append,hok,hp]
         simp[h]
        refine CondOb.mk (fun h3=>?_) (fun h3=>?_)
        ·refine⟨_,_,.refl,hI',next ?_,rfl⟩
         have h3':decide (p.2.k=3)=false:=by simpa using h3
         simp[nodeOk,h3']
        ·have h3':decide (p.2.k=3)=true:=by simpa using h3
         refine LoadOb.mk [.map (some bm)] ⟨rfl,_,_,_,.inr ⟨_,.head _,rfl,rfl⟩,rfl,rfl⟩ ?_
         refine OtherOb.lookup TryzEOK rfl (by simp) rfl rfl rfl rfl (fun w=>zero_int w) (l:=acc) (g:=bm) rfl rfl (by simp) ?_
         refine CondOb.mk (fun h4=>?_) (fun h4=>?_)
         ·refine StoreOb.mk [⟨b5,.cells #[.map (some bm)] 110 (0,0)⟩,⟨bm,mapO acc⟩] [] _ _ rfl rfl (Nat.le_of_ble_eq_true rfl) rfl ?_
          refine⟨_,_,.refl,rfl,hI',?_,rfl⟩
          unfold allNamed
          rw[List.all_eq_false]
          have h4':(lookM p.2.t acc).isSome=false:=by simpa using h4
          exact⟨p,by rw[←hp];exact List.getElem_mem hkp,by simp[nodeOk,h3',h4']⟩
         ·have h4':(lookM p.2.t acc).isSome=true:=by simpa using h4
          exact⟨_,_,.refl,hI',next (by simp[nodeOk,h4']),rfl⟩
       ·rintro I' M' - ⟨hI',hok,rfl⟩
        have hall2:allNamed acc g.ds=true:=by
         unfold allNamed
         rw[List.take_of_length_le (by simp[nodeVals_eq])] at hok
         exact hok
        refine StoreOb.mk [⟨b5,.cells #[.map (some bm)] 110 (0,0)⟩,⟨bm,mapO acc⟩] [] _ _ rfl rfl (Nat.le_of_ble_eq_true rfl) rfl ?_
        refine LoadOb.mk _ (errB_rd (b:=b2) (e:=0) (.tail _ (.tail _ (.head _)))) ?_
        refine⟨_,_,.sub (List.nil_sublist _) .refl,?_,fun b o h=>hI' _ _ (hI02 _ _ h),rfl⟩
        simp only[hall2]
        rfl
       ·rintro ex I' M' - ⟨rfl,hI',hall2,rfl⟩
        refine⟨by simp,?_⟩
        refine LoadOb.mk _ (errB_rd (b:=b2) (e:=41) (.tail _ (.tail _ (.head _)))) ?_
        refine⟨_,_,.sub (List.nil_sublist _) .refl,?_,fun b o h=>hI' _ _ (hI02 _ _ h),rfl⟩
        simp only[hall2]
        rfl
structure Rw where
 a:Option Addr
 n:Nat
 c:Nat
 l:List Int
def Rw.val (r:Rw):Value:=.slice r.a r.n r.c
structure Rw.ok (I:GH) (r:Rw):Prop where
 rs:RS I r.a r.n r.c 1 8 (r.l.map (.int .i64 ·))
theorem Rw.ok.n {I:GH} {r:Rw} (h:r.ok I):r.l.length=r.n:=by
 have:=h.rs.len
 simpa using this
theorem Rw.ok.mono {I I':GH} {r:Rw} (h:r.ok I) (hI:∀ b o,I b=some o→I' b=some o):r.ok I':=⟨h.rs.mono hI⟩
structure Ls where
 rows:List Rw
 a:Option Addr
 n:Nat
 c:Nat
def Ls.val (x:Ls):Value:=.slice x.a x.n x.c
structure Ls.ok (I:GH) (x:Ls):Prop where
 rs:RS I x.a x.n x.c 1 24 (x.rows.map Rw.val)
 rows:∀ r∈x.rows,r.ok I
theorem Ls.ok.n {I:GH} {x:Ls} (h:x.ok I):x.rows.length=x.n:=by
 have:=h.rs.len
 simpa using this
def Ls.ll (x:Ls):List (List Int):=x.rows.map (·.l)
theorem OS.give {I:GH} {os:OS} {xs:List Value} {e size b:Nat} (h:os.ok size xs) (hb:os.n * b≤140737488355328) (hI:∀ g,os.a=some g→I g=none) (Mr:List Blk) :
  ∃ I',Wk [] I (os.blk e++Mr) I' Mr∧(∀ b o,I b=some o→I' b=some o)∧RS I' (os.a.map fun g=>⟨g,0,none⟩) os.n os.c size b xs:=by
 obtain⟨a,n,c,cur⟩:=os
 cases a with
 | none=>
  obtain⟨h1,h2⟩:=h.nil rfl
  simp only at h1 h2
  subst h1
  subst h2
  exact⟨I,.refl,fun _ _ h=>h,h.len,⟨Nat.le_refl _,by simp⟩,.inl rfl⟩
 | some g=>
  obtain⟨h1,h2,h3,h4⟩:=h.cap g rfl
  have hg:=hI g rfl
  exact⟨ins I g (.cells cur.toArray e (0,0)),.prom rfl (by simp) .refl,ins_le hg,h.len,⟨h2,hb⟩,.inr ⟨⟨g,0,none⟩,rfl,rfl,_,_,_,ins_self ..,by simpa using h4⟩⟩
theorem OS.giveInts {I:GH} {os:OS} {l:List Int} {e:Nat} (h:os.ok 1 (l.map (.int .i64 ·))) (hb:os.n * 8≤140737488355328) (hI:∀ g,os.a=some g→I g=none) (Mr:List Blk) :
  ∃ (I':GH) (r:Rw),Wk [] I (os.blk e++Mr) I' Mr∧(∀ b o,I b=some o→I' b=some o)∧os.val=r.val∧r.ok I'∧r.l=l:=by
 obtain⟨I',h1,h2,h3⟩:=OS.give (b:=8) h hb hI Mr
 exact⟨I',⟨_,_,_,l⟩,h1,h2,rfl,⟨h3⟩,rfl⟩
def OS0:OS:=⟨none,0,0,[]⟩
theorem OS0_ok (size:Nat):OS0.ok size []:=⟨by simp[OS0],fun _=>⟨rfl,rfl⟩,fun g h=>by cases h⟩
theorem app1_ok {os:OS} {xs:List Value} {v:Value} (hos:os.ok 1 xs) {g c:Nat} {cur:List Value} (h1:cur.length=c * 1) (h2:os.n+1≤c) (h3:c≤maxLen) (h4:cur.take ((os.n+1) * 1)=xs++[v]) :
  OS.ok ⟨some g,os.n+1,c,cur⟩ 1 (xs++[v]):=by
 have hl:=hos.len
 refine⟨?_,(fun h=>by cases h),fun g3 hg3=>⟨h1,h2,h3,h4⟩⟩
 rw[List.length_append,hl]
 simp
theorem OS.ok.len1 {os:OS} {l:List Int} (h:os.ok 1 (l.map (Value.int .i64))):os.n=l.length:=by
 have:=h.len
 simp at this
 omega
theorem perm4 {α:Type} (a c:α) (L:List α):(a::(L++[c])).Perm (L++[c,a]):=by
 have h:=(List.perm_append_singleton a (L++[c])).symm
 rwa [List.append_assoc] at h
def listL (wh:Bool):Nat→List Bool→List Int
 | _,[]=>[]
 | i,b::s=>bif b == wh then (i:Int)::listL wh (i+1) s else listL wh (i+1) s
theorem listL_snoc (wh b:Bool):∀ (s:List Bool) (i:Nat),listL wh i (s++[b])=listL wh i s++(bif b == wh then [((i+s.length:Nat):Int)] else [])
 | [],i=>by
  show (bif b == wh then ((i:Nat):Int)::listL wh (i+1) [] else listL wh (i+1) [])=_
  cases b == wh<;>simp[listL]
 | c::s,i=>by
  have:=listL_snoc wh b s (i+1)
  rw[List.cons_append,listL,listL,this]
  cases c == wh<;>simp[Nat.add_comm,Nat.add_left_comm]
theorem listL_len (wh:Bool):∀ (s:List Bool) (i:Nat),(listL wh i s).length≤s.length
 | [],i=>by simp[listL]
 | c::s,i=>by
  have:=listL_len wh s (i+1)
  unfold listL
  cases c == wh<;>simp<;>omega
structure Rb where
 a:Option Addr
 n:Nat
 c:Nat
 l:List Bool
def Rb.val (r:Rb):Value:=.slice r.a r.n r.c
structure Rb.ok (I:GH) (r:Rb):Prop where
 rs:RS I r.a r.n r.c 1 1 (r.l.map Value.bool)
theorem Rb.ok.n {I:GH} {r:Rb} (h:r.ok I):r.l.length=r.n:=by
 have:=h.rs.len
 simpa using this
set_option maxHeartbeats 1000000 in
theorem list_spec {I:GH} {r:Rb} (hr:r.ok I) (hn:r.n≤1099511627776) (wh:Bool):Spec Tryz.prog 85 [r.val,.bool wh] I [] fun v I' M'=>(∀ b o,I b=some o→I' b=some o)∧∃ x:Rw,v=x.val∧x.ok I'∧x.l=listL wh 0 r.l∧M'=[]:=by
 refine spec_of_V [] TryzEOK Tryz.func85 rfl rfl rfl ?_
 intro B h0
 have hrn:=hr.n
 refine LoopOb.inv (ι:=Nat×OS) (fun x=>{ fl:=[(1,.val (.bool wh)),(5,.val x.2.val),(8,.val r.val),(9,.val (.int .i64 r.n)),(10,.val (.int .i64 x.1))],gi:=I,mi:=x.2.blk 3 })
  (fun x=>x.1≤r.n∧x.2.ok 1 ((listL wh 0 (r.l.take x.1)).map (.int .i64 ·))∧∀ g,x.2.a=some g→I g=none) (fun x=>r.n - x.1) ?_ ?_
 ·exact⟨(0,OS0),⟨by simp,OS0_ok 1,fun g h=>by cases h⟩,.refl,aF5,.nil⟩
 ·rintro⟨i,os⟩ ⟨hi,hos,hI⟩
  simp only at hi hos hI
  have hol:=hos.len1
  have hll:=listL_len wh (r.l.take i) 0
  have htl:=List.length_take_le i r.l
  refine CondOb.mk (fun h=>?_) (fun h=>?_)
  ·have hlt:i < r.n:=by simpa using h
   have hlt':i < r.l.length:=by omega
   obtain⟨ad,had,hrd⟩:=hr.rs.one hlt hlt'
   have hsn:=listL_snoc wh r.l[i] (r.l.take i) 0
   rw[←List.take_succ_eq_append_getElem hlt',List.length_take_of_le (by omega),Nat.zero_add] at hsn
   refine IdxOb.mk ad i had rfl hlt ?_
   refine LoadOb.mk _ (hrd _) ?_
   refine CondOb.mk (fun h2=>?_) (fun h2=>?_)
   ·rw[h2,cond_true] at hsn
    refine AllocOb.mk fun b9 hb9 hbM9=>?_
    refine OtherOb.appendN TryzEOK rfl (by simp) (e:=3) rfl rfl rfl os hos rfl (m:=1) rfl (news:=[.int .i64 i]) (by decide) (blk_rd (b:=b9) (cs:=[.int .i64 i]) (k:=0) (n:=1) (T:=3) (.head _) (by simp)) rfl (Mr:=[⟨b9,.cells #[.int .i64 i] 3 (0,0)⟩]) (List.perm_append_comm (l₁:=[_])) (by simp only[maxLen];omega) (by show (os.n+1) * 8≤_;omega) ?_
    intro g' c' cur' q0 q1 q2 q3 q4
    refine ArithOb.mk _ (next_wr (i:=i) (by omega)) ?_
    refine⟨(i+1,⟨some g',os.n+1,c',cur'⟩),⟨⟨by simp only;omega,?_,fun g hg=>by cases hg;exact q0⟩,by simp only;omega⟩,.sub (List.Sublist.cons_cons _ (List.nil_sublist _)) .refl,aF5,.nil⟩
    simp only
    rw[hsn,List.map_append]
    exact app1_ok hos q1 q2 q3 q4
   ·rw[h2,cond_false,List.append_nil] at hsn
    refine ArithOb.mk _ (next_wr (i:=i) (by omega)) ?_
    refine⟨(i+1,os),⟨⟨by simp only;omega,?_,hI⟩,by simp only;omega⟩,.refl,aF5,.nil⟩
    simp only
    rw[hsn]
    exact hos
  ·have hge:r.n≤i:=by simpa using h
   rw[List.take_of_length_le (by omega)] at hos hll hol
   obtain⟨I',x,w1,w2,w3,w4,w5⟩:=OS.giveInts (e:=3) hos (by omega) hI []
   rw[List.append_nil] at w1
   exact⟨_,_,w1,w2,x,w3,w4,w5,rfl⟩
def markK (n:Nat) (s:List Bool) (k:Int):List Bool:=bif decide (0≤k) && decide (k < n) then s.set k.toNat true else s
def thereL (ds:List Df) (n:Nat) (names:List ByteArray):List Bool:=names.foldl (fun s nm=>markK n s (findAt nm ds 0)) (List.replicate n false)
def calledL (g:Gr) (t:Tr):List Int:=listL true 0 (thereL g.ds g.n (namedL t.ns))
theorem markK_len (n:Nat) (s:List Bool) (k:Int):(markK n s k).length=s.length:=by
 unfold markK
 cases decide (0≤k) && decide (k < n)<;>simp
theorem thereL_len (ds:List Df) (n:Nat) (names:List ByteArray):(thereL ds n names).length=n:=by
 have:∀ (names:List ByteArray) (s:List Bool),(names.foldl (fun s nm=>markK n s (findAt nm ds 0)) s).length=s.length:=by
  intro names
  induction names with
  | nil=>intro s;rfl
  | cons nm names ih=>intro s;rw[List.foldl_cons,ih,markK_len]
 rw[thereL,this]
 simp
set_option maxHeartbeats 2000000 in
theorem called_spec {I:GH} {g:Gr} (hg:g.ok I) (hn:g.n≤1099511627776) {t:Tr} (ht:t.ok I):Spec Tryz.prog 120 [g.val,t.val] I [] fun v I' M'=>(∀ b o,I b=some o→I' b=some o)∧∃ x:Rw,v=x.val∧x.ok I'∧x.l=calledL g t∧M'=[]:=by
 refine spec_of_V [2,5] TryzEOK Tryz.func120 rfl rfl rfl ?_
 intro B h0
 have hgn:=hg.n
 refine AllocOb.mk fun b2 hb2 hbM2=>?_
 refine LoadOb.mk [.slice g.a g.n g.c] (blk_rd (b:=b2) (cs:=[.slice g.a g.n g.c]) (k:=0) (n:=1) (T:=30) (.head _) (by simp)) ?_
 refine MakeOb.mk g.n g.n rfl rfl (Nat.le_refl _) (by show 1 * g.n≤_;omega) (by omega) ?_
 refine AllocOb.mk fun b hb hbM=>?_
 refine AllocOb.mk fun b5 hb5 hbM5=>?_
 refine StoreOb.mk [] [⟨b,.cells (rowOf [.bool false] (g.n * 1)).toArray 4 (0,0)⟩,⟨b2,.cells #[.slice g.a g.n g.c] 30 (0,0)⟩] _ _ rfl rfl (Nat.le_of_ble_eq_true rfl) rfl ?_
 refine CallOb.mk [] [⟨b5,.cells #[.slice (some ⟨b,0,none⟩) g.n g.n] 126 (0,0)⟩,⟨b,.cells (rowOf [.bool false] (g.n * 1)).toArray 4 (0,0)⟩,⟨b2,.cells #[.slice g.a g.n g.c] 30 (0,0)⟩] _ (.refl _) (named_spec t) ?_
 rintro v I1 M1 - ⟨tb,rfl,htb,hI1,rfl⟩
 have hg1:=hg.mono hI1
 have ht1:=ht.mono hI1
 refine CodeOb.range TryzEOK rfl rfl rfl .refl (named1_iter ht1 htb) (fun vs h=>?_)
  (fun k I' M'=>(∀ b o,I1 b=some o→I' b=some o)∧M'=[⟨b5,.cells #[.slice (some ⟨b,0,none⟩) g.n g.n] 126 (0,0)⟩,boolRow b (thereL g.ds g.n ((namedL t.ns).take k)),⟨b2,.cells #[.slice g.a g.n g.c] 30 (0,0)⟩])
  (fun _ _ _=>False) ⟨fun _ _ h=>h,?_⟩ ?_ ?_ (fun _ _ _ _ h=>h.elim)
 ·obtain⟨c,_,rfl⟩:=List.mem_map.1 h
  rfl
 ·show _::_::_=_
  rw[rowOf_one,Nat.mul_one]
  simp[boolRow,thereL]
 ·rintro k hk I' M' - ⟨hI',rfl⟩ l B h0 h0'
  have hkL:k < (namedL t.ns).length:=by simpa using hk
  generalize hx:(namedL t.ns)[k]=x
  have hv:((namedL t.ns).map fun s=>[Value.string s])[k]=[.string x]:=by simp[hx]
  rw[hv]
  have hstep:thereL g.ds g.n ((namedL t.ns).take (k+1))=markK g.n (thereL g.ds g.n ((namedL t.ns).take k)) (findAt x g.ds 0):=by
   rw[List.take_succ_eq_append_getElem hkL,hx]
   simp[thereL,List.foldl_append]
  have hlen:=thereL_len g.ds g.n ((namedL t.ns).take k)
  generalize hs:thereL g.ds g.n ((namedL t.ns).take k)=s at *
  rw[hstep]
  refine LoadOb.mk [.slice g.a g.n g.c] ⟨rfl,_,_,_,.inr ⟨_,.tail _ (.tail _ (.head _)),rfl,rfl⟩,rfl,rfl⟩ ?_
  refine CallOb.mk [] [⟨b5,.cells #[.slice (some ⟨b,0,none⟩) g.n g.n] 126 (0,0)⟩,boolRow b s,⟨b2,.cells #[.slice g.a g.n g.c] 30 (0,0)⟩] _ (.refl _) (Find_spec (hg1.mono hI') x) ?_
  rintro v I' M' - ⟨rfl,rfl,rfl⟩
  refine GuardOb.mk (fun h1=>?_) (fun h1=>?_)
  ·refine LoadOb.mk [.slice (some ⟨b,0,none⟩) g.n g.n] ⟨rfl,_,_,_,.inr ⟨_,.head _,rfl,rfl⟩,rfl,rfl⟩ ?_
   refine CondOb.mk (fun h2=>?_) (fun h2=>?_)
   ·have hk0:0≤findAt x g.ds 0:=by simpa using h1
    have hkn:findAt x g.ds 0 < g.n:=by simpa using h2
    have hmk:markK g.n s (findAt x g.ds 0)=s.set (findAt x g.ds 0).toNat true:=by
     rw[markK,h1,h2]
     rfl
    refine LoadOb.mk [.slice (some ⟨b,0,none⟩) g.n g.n] ⟨rfl,_,_,_,.inr ⟨_,.head _,rfl,rfl⟩,rfl,rfl⟩ ?_
    refine IdxOb.mk ⟨b,0,none⟩ (findAt x g.ds 0).toNat rfl (by omega) (by omega) ?_
    refine StoreOb.add [⟨b5,.cells #[.slice (some ⟨b,0,none⟩) g.n g.n] 126 (0,0)⟩] [⟨b2,.cells #[.slice g.a g.n g.c] 30 (0,0)⟩] _ _ rfl ?_ rfl ?_
    ·simp only[List.size_toArray,List.length_map]
     show 0+(findAt x g.ds 0).toNat * 1+1≤_
     omega
    refine⟨_,_,.refl,hI',?_⟩
    rw[hmk]
    have e:=boolRow_set s (findAt x g.ds 0).toNat (by omega) true
    simp only[boolRow]
    rw[←e]
    simp only[Nat.zero_add,Nat.mul_one]
    rfl
   ·refine⟨_,_,.refl,hI',?_⟩
    have:markK g.n s (findAt x g.ds 0)=s:=by
     rw[markK,h1,h2]
     rfl
    rw[this]
    rfl
  ·refine⟨_,_,.refl,hI',?_⟩
   have:markK g.n s (findAt x g.ds 0)=s:=by
    rw[markK,h1]
    rfl
   rw[this]
   rfl
 ·rintro I2 M2 - ⟨hI2,rfl⟩
  have hI02:∀ b o,I b=some o→I2 b=some o:=fun b o h=>hI2 _ _ (hI1 _ _ h)
  have hfull:(namedL t.ns).take ((namedL t.ns).map fun s=>[Value.string s]).length=namedL t.ns:=List.take_of_length_le (by simp)
  rw[hfull]
  have hsl:=thereL_len g.ds g.n (namedL t.ns)
  have hcl:calledL g t=listL true 0 (thereL g.ds g.n (namedL t.ns)):=rfl
  generalize hs:thereL g.ds g.n (namedL t.ns)=s at *
  refine LoadOb.mk [.slice (some ⟨b,0,none⟩) g.n g.n] ⟨rfl,_,_,_,.inr ⟨_,.head _,rfl,rfl⟩,rfl,rfl⟩ ?_
  refine LoopOb.inv (ι:=Nat×OS) (fun x=>{ fl:=[(8,.val x.2.val),(32,.val (.slice (some ⟨b,0,none⟩) g.n g.n)),(33,.val (.int .i64 g.n)),(34,.val (.int .i64 x.1))],gi:=I2,mi:=x.2.blk 3++[boolRow b s] })
   (fun x=>x.1≤g.n∧x.2.ok 1 ((listL true 0 (s.take x.1)).map (.int .i64 ·))∧∀ g,x.2.a=some g→I2 g=none) (fun x=>g.n - x.1) ?_ ?_
  ·exact⟨(0,OS0),⟨by simp,OS0_ok 1,fun g h=>by cases h⟩,.sub (.cons _ (.cons_cons _ (List.nil_sublist _))) .refl,aF4,.nil⟩
  ·rintro⟨i,os⟩ ⟨hi,hos,hI⟩
   simp only at hi hos hI
   have hol:=hos.len1
   have hll:=listL_len true (s.take i) 0
   have htl:=List.length_take_le i s
   refine CondOb.mk (fun h=>?_) (fun h=>?_)
   ·have hlt:i < g.n:=by simpa using h
    have hlt':i < s.length:=by omega
    have hsn:=listL_snoc true s[i] (s.take i) 0
    rw[←List.take_succ_eq_append_getElem hlt',List.length_take_of_le (by omega),Nat.zero_add] at hsn
    refine IdxOb.mk ⟨b,0,none⟩ i rfl rfl hlt ?_
    refine LoadOb.mk _ (boolRow_rd (by simp) hlt') ?_
    refine CondOb.mk (fun h2=>?_) (fun h2=>?_)
    ·rw[h2] at hsn
     refine AllocOb.mk fun b9 hb9 hbM9=>?_
     refine OtherOb.appendN TryzEOK rfl (by simp) (e:=3) rfl rfl rfl os hos rfl (m:=1) rfl (news:=[.int .i64 i]) (by decide) (blk_rd (b:=b9) (cs:=[.int .i64 i]) (k:=0) (n:=1) (T:=3) (.head _) (by simp)) rfl (Mr:=[boolRow b s,⟨b9,.cells #[.int .i64 i] 3 (0,0)⟩]) (perm4 _ _ _) (by simp only[maxLen];omega) (by show (os.n+1) * 8≤_;omega) ?_
     intro g' c' cur' q0 q1 q2 q3 q4
     refine ArithOb.mk _ (next_wr (i:=i) (by omega)) ?_
     refine⟨(i+1,⟨some g',os.n+1,c',cur'⟩),⟨⟨by simp only;omega,?_,fun g hg=>by cases hg;exact q0⟩,by simp only;omega⟩,.sub (.cons_cons _ (.cons_cons _ (List.nil_sublist _))) .refl,aF4,.nil⟩
     simp only
     rw[hsn,List.map_append]
     exact app1_ok hos q1 q2 q3 q4
    ·rw[h2] at hsn
     simp only[Bool.false_beq,Bool.not_true,cond_false,List.append_nil] at hsn
     refine ArithOb.mk _ (next_wr (i:=i) (by omega)) ?_
     refine⟨(i+1,os),⟨⟨by simp only;omega,?_,hI⟩,by simp only;omega⟩,.refl,aF4,.nil⟩
     simp only
     rw[hsn]
     exact hos
   ·have hge:g.n≤i:=by simpa using h
    rw[List.take_of_length_le (by omega)] at hos hll hol
    obtain⟨I',x,w1,w2,w3,w4,w5⟩:=OS.giveInts (e:=3) hos (by omega) hI []
    rw[List.append_nil] at w1
    exact⟨_,_,.sub (List.sublist_append_left _ _) w1,fun b o h=>w2 _ _ (hI02 _ _ h),x,w3,w4,w5.trans hcl.symm,rfl⟩
def isM (m:List Bool) (k:Nat):Prop:=m.getD k false=true
def visitL (m:List Bool) (o:List Int):List Int→List Bool×List Int
 | []=>(m,o)
 | k::ks=>bif m.getD k.toNat false then visitL m o ks else visitL (m.set k.toNat true) (o++[k]) ks
def fromGo (L:List (List Int)):Nat→List Bool→List Int→List Bool
 | 0,m,_=>m
 | f+1,m,o=>match o.getLast? with
  | none=>m
  | some w=>bif decide (0 < (visitL m o.dropLast (L.getD w.toNat [])).2.length) then fromGo L f (visitL m o.dropLast (L.getD w.toNat [])).1 (visitL m o.dropLast (L.getD w.toNat [])).2 else (visitL m o.dropLast (L.getD w.toNat [])).1
def fromL (L:List (List Int)) (i:Nat):List Bool:=fromGo L (2 * L.length+2) ((List.replicate L.length false).set i true) [(i:Int)]
def openN:List Bool→Nat
 | []=>0
 | b::s=>(bif b then 0 else 1)+openN s
theorem openN_set:∀ (m:List Bool) (k:Nat),k < m.length→m.getD k false=false→openN (m.set k true)+1=openN m
 | b::m,0,_,h=>by
  have:b=false:=by simpa using h
  subst this
  simp[openN]
  omega
 | b::m,k+1,hk,h=>by
  have:=openN_set m k (by simpa using hk) (by simpa using h)
  simp only[List.set_cons_succ,openN]
  omega
theorem openN_le (m:List Bool):openN m≤m.length:=by
 induction m with
 | nil=>simp[openN]
 | cons b m ih=>
  simp only[openN,List.length_cons]
  cases b<;>simp<;>omega
theorem isM_set {m:List Bool} {k a:Nat} (hk:k < m.length):isM (m.set k true) a ↔ a=k∨isM m a:=by
 unfold isM
 simp only[List.getD_eq_getElem?_getD,List.getElem?_set]
 by_cases e:k=a
 ·subst e
  simp[hk]
 ·rw[if_neg e]
  constructor
  ·exact .inr
  ·rintro(h | h)
   ·exact(e h.symm).elim
   ·exact h
def valid (n:Nat) (l:List Int):Prop:=∀ k∈l,0≤k∧k < n
structure Visited (m:List Bool) (o ks:List Int) (r:List Bool×List Int):Prop where
 len:r.1.length=m.length
 mono:∀ a,isM m a→isM r.1 a
 all:∀ k∈ks,isM r.1 k.toNat
 only:∀ a,isM r.1 a→isM m a∨((a:Int)∈ks∧(a:Int)∈r.2)
 keep:∀ k∈o,k∈r.2
 news:∀ k∈r.2,k∈o∨(k∈ks∧isM r.1 k.toNat)
 mu:2 * openN r.1+r.2.length≤2 * openN m+o.length
theorem visitL_ok {n:Nat}:∀ (ks:List Int) (m:List Bool) (o:List Int),m.length=n→valid n ks→Visited m o ks (visitL m o ks)
 | [],m,o,_,_=>⟨rfl,fun _ h=>h,fun k hk=>by simp at hk,fun a h=>.inl h,fun k h=>h,fun k h=>.inl h,Nat.le_refl _⟩
 | k::ks,m,o,hm,hv=>by
  have hk:=hv k (by simp)
  have hv':valid n ks:=fun x hx=>hv x (by simp[hx])
  have hkl:k.toNat < m.length:=by omega
  unfold visitL
  cases hb:m.getD k.toNat false with
  | true=>
   have h:=visitL_ok ks m o hm hv'
   simp only[cond_true]
   refine⟨h.len,h.mono,fun x hx=>?_,fun a ha=>?_,h.keep,fun x hx=>?_,h.mu⟩
   ·rcases List.mem_cons.1 hx with rfl | hx
    ·exact h.mono _ hb
    ·exact h.all x hx
   ·rcases h.only a ha with h1 | h1
    ·exact .inl h1
    ·exact .inr ⟨by simp[h1.1],h1.2⟩
   ·rcases h.news x hx with h1 | h1
    ·exact .inl h1
    ·exact .inr ⟨by simp[h1.1],h1.2⟩
  | false=>
   have h:=visitL_ok ks (m.set k.toNat true) (o++[k]) (by simpa using hm) hv'
   have hs:=openN_set m k.toNat hkl hb
   have hmk:isM (visitL (m.set k.toNat true) (o++[k]) ks).1 k.toNat:=h.mono _ ((isM_set hkl).2 (.inl rfl))
   have hko:k∈(visitL (m.set k.toNat true) (o++[k]) ks).2:=h.keep k (by simp)
   simp only[cond_false]
   refine⟨by rw[h.len];simp,fun a ha=>h.mono a ((isM_set hkl).2 (.inr ha)),fun x hx=>?_,fun a ha=>?_,fun x hx=>h.keep x (by simp[hx]),fun x hx=>?_,?_⟩
   ·rcases List.mem_cons.1 hx with rfl | hx
    ·exact hmk
    ·exact h.all x hx
   ·rcases h.only a ha with h1 | h1
    ·rcases(isM_set hkl).1 h1 with rfl | h1
     ·have e:((k.toNat:Nat):Int)=k:=by omega
      rw[e]
      exact .inr ⟨by simp,hko⟩
     ·exact .inl h1
    ·exact .inr ⟨by simp[h1.1],h1.2⟩
   ·rcases h.news x hx with h1 | h1
    ·simp only[List.mem_append,List.mem_singleton] at h1
     rcases h1 with h1 | rfl
     ·exact .inl h1
     ·exact .inr ⟨by simp,hmk⟩
    ·exact .inr ⟨by simp[h1.1],h1.2⟩
   ·have:=h.mu
    simp only[List.length_append,List.length_cons,List.length_nil] at this
    omega
inductive Comes (L:List (List Int)) (i:Nat):Nat→Prop
 | self:Comes L i i
 | next {a k:Nat} (h:Comes L i a) (hk:(k:Int)∈L.getD a []):Comes L i k
structure FromInv (L:List (List Int)) (i:Nat) (m:List Bool) (o:List Int):Prop where
 len:m.length=L.length
 val:valid L.length o
 mkd:∀ k∈o,isM m k.toNat
 cl:∀ a,isM m a→(a:Int)∈o∨∀ k∈L.getD a [],isM m k.toNat
 rch:∀ a,isM m a→Comes L i a
 self:isM m i
theorem isM_lt {m:List Bool} {a:Nat} (h:isM m a):a < m.length:=by
 apply Nat.lt_of_not_le
 intro hle
 unfold isM at h
 simp[List.getD_eq_getElem?_getD,hle] at h
theorem FromInv.step {L:List (List Int)} (hL:∀ l∈L,valid L.length l) {i:Nat} {m:List Bool} {o:List Int} {w:Int} (h:FromInv L i m (o++[w])) :
  FromInv L i (visitL m o (L.getD w.toNat [])).1 (visitL m o (L.getD w.toNat [])).2∧2 * openN (visitL m o (L.getD w.toNat [])).1+(visitL m o (L.getD w.toNat [])).2.length < 2 * openN m+(o++[w]).length:=by
 have hw:=h.val w (by simp)
 have hwl:w.toNat < L.length:=by omega
 have hLw:L.getD w.toNat []=L[w.toNat]:=by simp[List.getD_eq_getElem?_getD,hwl]
 have hv:valid L.length (L.getD w.toNat []):=by rw[hLw];exact hL _ (List.getElem_mem hwl)
 have v:=visitL_ok (L.getD w.toNat []) m o h.len hv
 have hwm:=h.mkd w (by simp)
 have hwc:=h.rch _ hwm
 refine⟨⟨v.len.trans h.len,fun k hk=>?_,fun k hk=>?_,fun a ha=>?_,fun a ha=>?_,v.mono _ h.self⟩,?_⟩
 ·rcases v.news k hk with h1 | h1
  ·exact h.val k (by simp[h1])
  ·exact hv k h1.1
 ·rcases v.news k hk with h1 | h1
  ·exact v.mono _ (h.mkd k (by simp[h1]))
  ·exact h1.2
 ·rcases v.only a ha with h1 | h1
  ·rcases h.cl a h1 with h2 | h2
   ·simp only[List.mem_append,List.mem_singleton] at h2
    rcases h2 with h2 | h2
    ·exact .inl (v.keep _ h2)
    ·have e:a=w.toNat:=by omega
     subst e
     exact .inr v.all
   ·exact .inr fun k hk=>v.mono _ (h2 k hk)
  ·exact .inl h1.2
 ·rcases v.only a ha with h1 | h1
  ·exact h.rch a h1
  ·exact .next hwc h1.1
 ·have:=v.mu
  simp only[List.length_append,List.length_cons,List.length_nil]
  omega
structure FromSays (L:List (List Int)) (i:Nat) (m:List Bool):Prop where
 len:m.length=L.length
 iff:∀ a,isM m a ↔ Comes L i a
theorem FromInv.done {L:List (List Int)} {i:Nat} {m:List Bool} (hL:∀ l∈L,valid L.length l) (h:FromInv L i m []):FromSays L i m:=by
 refine⟨h.len,fun a=>⟨h.rch a,fun hc=>?_⟩⟩
 induction hc with
 | self=>exact h.self
 | next hc hk ih=>
  rcases h.cl _ ih with h1 | h1
  ·simp at h1
  ·simpa using h1 _ hk
theorem FromInv.start {L:List (List Int)} {i:Nat} (hi:i < L.length):FromInv L i ((List.replicate L.length false).set i true) [(i:Int)]:=by
 have hn:∀ a,¬ isM (List.replicate L.length false) a:=fun a=>by
  unfold isM
  by_cases h:a < L.length<;>simp[List.getD_eq_getElem?_getD,h]
 have hs:∀ a,isM ((List.replicate L.length false).set i true) a ↔ a=i:=fun a=>by
  rw[isM_set (by simpa using hi)]
  exact⟨fun h=>h.resolve_right (hn a),.inl⟩
 refine⟨by simp,fun k hk=>?_,fun k hk=>?_,fun a ha=>?_,fun a ha=>?_,(hs i).2 rfl⟩
 ·simp only[List.mem_singleton] at hk
  omega
 ·simp only[List.mem_singleton] at hk
  subst hk
  simpa using (hs i).2 rfl
 ·rw[(hs a).1 ha]
  exact .inl (by simp)
 ·rw[(hs a).1 ha]
  exact .self
theorem fromGo_ok {L:List (List Int)} (hL:∀ l∈L,valid L.length l) {i:Nat}:∀ (f:Nat) (m:List Bool) (o:List Int),FromInv L i m o→o≠[]→2 * openN m+o.length≤f→FromSays L i (fromGo L f m o)
 | 0,m,o,h,ho,hf=>by
  exact(ho (List.eq_nil_of_length_eq_zero (by omega))).elim
 | f+1,m,o,h,ho,hf=>by
  obtain⟨o',w,rfl⟩:∃ o' w,o=o'++[w]:=by
   rcases List.eq_nil_or_concat o with h1 | ⟨r,p,h1⟩
   ·exact(ho h1).elim
   ·exact⟨r,p,by simpa using h1⟩
  obtain⟨h1,h2⟩:=h.step hL
  unfold fromGo
  simp only[List.getLast?_concat,List.dropLast_concat]
  cases hb:decide (0 < (visitL m o' (L.getD w.toNat [])).2.length) with
  | true=>
   simp only[cond_true]
   refine fromGo_ok hL f _ _ h1 (fun e=>?_) (by omega)
   rw[e] at hb
   simp at hb
  | false=>
   simp only[cond_false]
   have e:(visitL m o' (L.getD w.toNat [])).2=[]:=List.eq_nil_of_length_eq_zero (by simpa using hb)
   rw[e] at h1
   exact h1.done hL
theorem fromL_ok {L:List (List Int)} (hL:∀ l∈L,valid L.length l) {i:Nat} (hi:i < L.length):FromSays L i (fromL L i):=by
 refine fromGo_ok hL _ _ _ (.start hi) (by simp) ?_
 have:=openN_le ((List.replicate L.length false).set i true)
 simp only[List.length_set,List.length_replicate,List.length_cons,List.length_nil] at this ⊢
 omega
theorem splice_pre {pre post:List Value} {z v:Value} {k:Nat} (hk:k=pre.length):splice (pre++z::post) k [v]=pre++v::post:=by
 subst hk
 unfold splice
 have e:(pre++z::post).drop (pre.length+[v].length)=post:=by
  rw[show pre++z::post=(pre++[z])++post from by simp]
  exact List.drop_left' (by simp)
 rw[e,List.take_left' rfl]
 simp
def callsL (g:Gr):List (List Int):=g.ds.map fun d=>calledL g d.t
set_option maxHeartbeats 1000000 in
theorem calls_spec {I:GH} {deb:List Int} (hT:Tabs I deb) {g:Gr} (hg:g.ok I) (hn:g.n≤1099511627776):Spec Tryz.prog 84 [g.val] I [] fun v I' M'=>(∀ b o,I b=some o→I' b=some o)∧M'=[] ∧
  ((mayG deb g≠0∧v=.tuple #[.slice none 0 0,.bool false])∨(mayG deb g=0∧∃ x:Ls,v=.tuple #[x.val,.bool true]∧x.ok I'∧x.ll=callsL g)):=by
 refine spec_of_V [] TryzEOK Tryz.func84 rfl rfl rfl ?_
 intro B h0
 have hgn:=hg.n
 refine CallOb.mk [] [] _ (.refl _) (May_spec hT hg) ?_
 rintro v I1 M1 - ⟨rfl,hI1,rfl⟩
 refine CondOb.mk (fun h=>?_) (fun h=>?_)
 ·exact⟨_,_,.refl,hI1,rfl,.inl ⟨by simpa using h,rfl⟩⟩
 ·have hmay:mayG deb g=0:=by simpa using h
  refine MakeOb.mk g.n g.n rfl rfl (Nat.le_refl _) (by show 24 * g.n≤_;omega) (by omega) ?_
  refine AllocOb.mk fun b hb hbM=>?_
  refine LoopOb.inv (ι:=Nat×List Rw×GH) (fun x=>{ fl:=[(1,.ref 1 0),(4,.val (.slice (some ⟨b,0,none⟩) g.n g.n)),(15,.val (.slice g.a g.n g.c)),(16,.val (.int .i64 g.n)),(17,.val (.int .i64 x.1))],cl:=[(1,[.slice g.a g.n g.c])],gi:=x.2.2,mi:=[⟨b,.cells (x.2.1.map Rw.val++List.replicate (g.n - x.1) (Value.slice none 0 0)).toArray 57 (0,0)⟩] })
   (fun x=>x.1≤g.n∧x.2.1.length=x.1∧(∀ b o,I b=some o→x.2.2 b=some o)∧x.2.2 b=none∧(∀ r∈x.2.1,r.ok x.2.2)∧x.2.1.map (·.l)=(g.ds.take x.1).map (fun d=>calledL g d.t)) (fun x=>g.n - x.1) ?_ ?_
  ·refine⟨(0,[],I1),⟨by simp,rfl,hI1,hb,by simp,rfl⟩,?_,aF5,.cons rfl .nil⟩
   show Wk _ _ [⟨b,.cells (rowOf [.slice none 0 0] (g.n * 1)).toArray 57 (0,0)⟩] _ _
   rw[rowOf_one,Nat.mul_one]
   exact .refl
  ·rintro⟨i,rs,I2⟩ ⟨hi,hrl,hI2,hb2,hro,hrs⟩
   simp only at hi hrl hI2 hb2 hro hrs
   refine CondOb.mk (fun h=>?_) (fun h=>?_)
   ·have hlt:i < g.n:=by simpa using h
    have hlt':i < g.ds.length:=by omega
    have hg2:=hg.mono hI2
    obtain⟨ad,had,hrd⟩:=hg2.rs.row Df.cells_len hlt hlt'
    have hdm:g.ds[i]∈g.ds:=List.getElem_mem hlt'
    refine IdxOb.mk ad i had rfl hlt ?_
    refine LoadOb.mk _ (hrd _) ?_
    refine CallOb.mkD [] [⟨b,.cells (rs.map Rw.val++List.replicate (g.n - i) (Value.slice none 0 0)).toArray 57 (0,0)⟩] _ (.refl _) (called_spec hg2 hn (hg2.ds _ hdm).t) ?_
    rintro v I3 M3 - hd3 ⟨hI3,x,rfl,hx,hxl,rfl⟩
    refine IdxOb.mk ⟨b,0,none⟩ i rfl rfl hlt ?_
    refine StoreOb.add [] [] _ _ rfl ?_ rfl ?_
    ·simp only[List.size_toArray,List.length_append,List.length_map,List.length_replicate]
     show 0+i * 1+1≤_
     omega
    refine ArithOb.mk _ (next_wr (i:=i) (by omega)) ?_
    refine⟨(i+1,rs++[x],I3),⟨⟨by simp only;omega,by simp[hrl],fun b o h=>hI3 _ _ (hI2 _ _ h),hd3 _ (.head _),fun r hr=>?_,?_⟩,by simp only;omega⟩,?_,aF5,.cons rfl .nil⟩
    ·simp only[List.mem_append,List.mem_singleton] at hr
     rcases hr with hr | rfl
     ·exact(hro r hr).mono hI3
     ·exact hx
    ·simp only
     rw[List.map_append,hrs,List.take_succ_eq_append_getElem hlt',List.map_append]
     simp[hxl]
    ·have hrep:List.replicate (g.n - i) (Value.slice none 0 0)=.slice none 0 0::List.replicate (g.n - (i+1)) (Value.slice none 0 0):=by
      rw[show g.n - i=(g.n - (i+1))+1 from by omega,List.replicate_succ]
     have e:=splice_pre (pre:=rs.map Rw.val) (post:=List.replicate (g.n - (i+1)) (Value.slice none 0 0)) (z:=.slice none 0 0) (v:=x.val) (k:=0+i * 1) (by simp[hrl])
     rw[hrep]
     simp only[List.map_append,List.map_cons,List.map_nil,List.append_assoc,List.cons_append,List.nil_append]
     rw[←e]
     exact .refl
   ·have hge:g.n≤i:=by simpa using h
    have hin:i=g.n:=by omega
    subst hin
    refine⟨_,_,.prom rfl (by simp) .refl,fun b o h=>ins_le hb2 _ _ (hI2 _ _ h),rfl,.inr ⟨hmay,⟨rs,some ⟨b,0,none⟩,g.n,g.n⟩,rfl,⟨⟨by simp[hrl],⟨Nat.le_refl _,by simp only;omega⟩,.inr ⟨_,rfl,rfl,_,_,_,ins_self ..,?_⟩⟩,fun r hr=>(hro r hr).mono (ins_le hb2)⟩,?_⟩⟩
    ·simp[hrl]
     exact List.take_of_length_le (by simp[hrl])
    ·simp only[Ls.ll,hrs,callsL]
     rw[List.take_of_length_le (by omega)]
theorem V_frameN {X:Ctx} {c:Code} {F:Fr} {C:Bx} {I:GH} {M:List Blk} {K:KX} {t1 t2 t3:Nat} {a b d:SV} (h:∀ G GC,V X c (upd (upd (upd G t3 d) t2 b) t1 a) GC I M K)
  (h1:F t1=a) (h2:F t2=b) (h3:F t3=d):V X c F C I M K:=by
 have:=h F C
 rwa [upd_self h3,upd_self h2,upd_self h1] at this
abbrev FromI:=Nat×List Bool×OS×List Int×Nat
def fromLP (I:GH) (x:Ls) (y:FromI):LP:={ fl:=[(0,.val x.val),(5,.val (.slice (some ⟨y.1,0,none⟩) x.n x.n)),(6,.val y.2.2.1.val)],gi:=I,mi:=y.2.2.1.blk 3++[boolRow y.1 y.2.1] }
structure FromLInv (I:GH) (L:List (List Int)) (i:Nat) (y:FromI):Prop where
 blk:I y.1=none
 os:y.2.2.1.ok 1 (y.2.2.2.1.map (.int .i64 ·))
 inv:FromInv L i y.2.1 y.2.2.2.1
 ne:y.2.2.2.1≠[]
 mu:2 * openN y.2.1+y.2.2.2.1.length≤y.2.2.2.2
 top:y.2.2.2.2≤2 * L.length+2
 eq:fromL L i=fromGo L y.2.2.2.2 y.2.1 y.2.2.2.1
theorem fromGo_succ (L:List (List Int)) (f:Nat) (m:List Bool) (o:List Int) (w:Int):fromGo L (f+1) m (o++[w]) =
  bif decide (0 < (visitL m o (L.getD w.toNat [])).2.length) then fromGo L f (visitL m o (L.getD w.toNat [])).1 (visitL m o (L.getD w.toNat [])).2 else (visitL m o (L.getD w.toNat [])).1:=by
 rw[fromGo]
 simp only[List.getLast?_concat,List.dropLast_concat]
set_option maxHeartbeats 4000000 in
theorem from_pass {I:GH} {x:Ls} (hx:x.ok I) (hn:x.n≤1099511627776) (hL:∀ l∈x.ll,valid x.ll.length l) {i:Nat} (y:FromI) (hy:FromLInv I x.ll i y) {p:Nat→FromI→Prop}
  (hp:∀ z,FromLInv I x.ll i z→z.2.2.2.2 < y.2.2.2.2→p 0 z) (B:Nat) (h0:World) (G:Fr) (GC:Bx) :
  V ⟨Tryz.prog,TryzE,[],Tryz.f86.ntmps,B,h0,I,[],none⟩ (labelIn (scopeIn (Tryz.f86.body.getD .skip)) 0)
   (upd (upd (upd G 6 (.val y.2.2.1.val)) 5 (.val (.slice (some ⟨y.1,0,none⟩) x.n x.n))) 0 (.val x.val)) GC I (y.2.2.1.blk 3++[boolRow y.1 y.2.1])
   (scK (fun l=>InvAt [] (fromLP I x) (p l)) (retK ⟨Tryz.prog,TryzE,[],Tryz.f86.ntmps,B,h0,I,[],none⟩ Tryz.f86.results.toList
    (fun v I' M'=>(∀ b o,I b=some o→I' b=some o)∧∃ r:Rb,v=r.val∧r.ok I'∧r.l=fromL x.ll i∧M'=[]))):=by
 obtain⟨b,m,⟨oa,n,cp,cur⟩,o,f⟩:=y
 obtain⟨hb,hos,hinv,hne,hmu,htop,heq⟩:=hy
 simp only at hb hos hinv hne hmu htop heq hp ⊢
 have hxn:=hx.n
 have hll:x.ll.length=x.n:=by simp[Ls.ll,hxn]
 have hml:m.length=x.n:=hinv.len.trans hll
 obtain⟨o',w,rfl⟩:∃ o' w,o=o'++[w]:=by
  rcases List.eq_nil_or_concat o with h1 | ⟨r,p,h1⟩
  ·exact(hne h1).elim
  ·exact⟨r,p,by simpa using h1⟩
 have hol:n=o'.length+1:=by
  have:=hos.len1
  simpa using this
 cases oa with
 | none=>have:=(hos.nil rfl).1;simp only at this;omega
 | some gb=>
 obtain⟨hcl,hnc,hcm,hct⟩:=hos.cap gb rfl
 simp only at hcl hnc hcm hct
 have hw:=hinv.val w (by simp)
 have hwl:w.toNat < x.ll.length:=by omega
 have hwr:w.toNat < x.rows.length:=by omega
 have hwn:w.toNat < x.n:=by omega
 obtain⟨hst,hlt⟩:=hinv.step hL
 have hLw:x.ll.getD w.toNat []=x.rows[w.toNat].l:=by simp[Ls.ll,List.getD_eq_getElem?_getD,hwr]
 rw[hLw] at hst hlt
 obtain⟨f,rfl⟩:∃ f',f=f'+1:=⟨f - 1,by simp at hmu;omega⟩
 have hgo:fromL x.ll i=bif decide (0 < (visitL m o' x.rows[w.toNat].l).2.length) then fromGo x.ll f (visitL m o' x.rows[w.toNat].l).1 (visitL m o' x.rows[w.toNat].l).2 else (visitL m o' x.rows[w.toNat].l).1:=by
  rw[heq,fromGo_succ,hLw]
 have hval:valid x.ll.length x.rows[w.toNat].l:=hL _ (by simp only[Ls.ll];exact List.mem_map.2 ⟨_,List.getElem_mem hwr,rfl⟩)
 have hrow:=hx.rows _ (List.getElem_mem hwr)
 have hrn:=hrow.n
 have hrc:=hrow.rs.cap
 obtain⟨ar,har,hrr⟩:=hx.rs.one hwn hwr
 have hn1:IntKind.i64.wrap ((n:Int) - 1)=((n - 1:Nat):Int):=by
  simp only[List.length_append,List.length_cons,List.length_nil] at hmu
  rw[wrap_i64 ⟨by omega,by omega⟩]
  omega
 obtain⟨rest,hcur⟩:∃ rest,cur=o'.map (Value.int .i64)++(.int .i64 w::rest):=by
  refine⟨cur.drop n,?_⟩
  have h2:=List.take_append_drop (n * 1) cur
  rw[hct,Nat.mul_one] at h2
  rw[List.map_append,List.append_assoc] at h2
  exact h2.symm
 have hcw:cur.drop (n - 1)=.int .i64 w::rest:=by
  rw[hcur]
  exact List.drop_left' (by simp;omega)
 refine ArithOb.mk _ hn1 ?_
 refine IdxOb.mk ⟨gb,0,none⟩ (n - 1) rfl rfl (by show n - 1 < n;omega) ?_
 refine LoadOb.mk [.int .i64 w] ?_ ?_
 ·have:=blk_rd (I:=I) (M:=[⟨gb,.cells cur.toArray 3 (0,0)⟩]++[boolRow b m]) (b:=gb) (cs:=cur) (T:=3) (.head _) (k:=(n - 1) * 1) (n:=1) (by omega)
  rw[Nat.mul_one,hcw] at this
  rw[Nat.mul_one]
  exact this
 refine ArithOb.mk _ hn1 ?_
 refine SliceOb.mk 0 (n - 1) rfl rfl (Nat.zero_le _) (by show n - 1≤cp;omega) ?_
 refine IdxOb.mk ar w.toNat har (by omega) hwn ?_
 refine LoadOb.mk _ (hrr _) ?_
 generalize hks:x.rows[w.toNat]=row at *
 have hos0:OS.ok ⟨some gb,n - 1,cp,cur⟩ 1 (o'.map (.int .i64 ·)):=by
  refine⟨by simp;omega,(fun h=>by cases h),fun g3 h3=>⟨hcl,by show n - 1≤cp;omega,hcm,?_⟩⟩
  show cur.take ((n - 1) * 1)=_
  have h2:=List.take_append_drop (n * 1) cur
  rw[hct,Nat.mul_one] at h2
  rw[←h2,List.map_append,List.append_assoc,Nat.mul_one]
  exact List.take_left' (by simp;omega)
 simp only[List.length_append,List.length_cons,List.length_nil] at hlt hmu
 refine LoopOb.inv (ι:=Nat×List Bool×OS×List Int) (fun z=>{ fl:=[(0,.val x.val),(5,.val (.slice (some ⟨b,0,none⟩) x.n x.n)),(6,.val z.2.2.1.val),(32,.val row.val),(33,.val (.int .i64 row.n)),(34,.val (.int .i64 z.1))],gi:=I,mi:=z.2.2.1.blk 3++[boolRow b z.2.1] })
  (fun z=>z.1≤row.n∧z.2.1.length=x.n∧z.2.2.1.ok 1 (z.2.2.2.map (.int .i64 ·))∧2 * openN z.2.1+z.2.2.2.length≤2 * x.n+2∧visitL m o' row.l=visitL z.2.1 z.2.2.2 (row.l.drop z.1)) (fun z=>row.n - z.1) ?_ ?_
 ·exact⟨(0,m,⟨some gb,n - 1,cp,cur⟩,o'),⟨by simp,hml,hos0,by simp only;omega,rfl⟩,.refl,aF6,.nil⟩
 ·rintro⟨j,s,os,q⟩ ⟨hj,hsl,hoq,hmq,hvq⟩
  simp only at hj hsl hoq hmq hvq
  refine CondOb.mk (fun h=>?_) (fun h=>?_)
  ·have hjl:j < row.n:=by simpa using h
   have hjl':j < row.l.length:=by omega
   obtain⟨ak,hak,hrk⟩:=hrow.rs.one hjl hjl'
   have hkd:row.l.drop j=row.l[j]::row.l.drop (j+1):=List.drop_eq_getElem_cons hjl'
   have hkv:=hval _ (List.getElem_mem hjl')
   generalize hk:row.l[j]=k at *
   have hkl:k.toNat < s.length:=by omega
   have hoql:=hoq.len1
   refine IdxOb.mk ak j hak rfl hjl ?_
   refine LoadOb.mk _ (hrk _) ?_
   refine IdxOb.mk ⟨b,0,none⟩ k.toNat rfl (by omega) (by omega) ?_
   refine LoadOb.mk _ (boolRow_rd (by simp) hkl) ?_
   have hgd:s.getD k.toNat false=s[k.toNat]:=by simp[List.getD_eq_getElem?_getD,hkl]
   refine CondOb.mk (fun h2=>?_) (fun h2=>?_)
   ·have hf:s.getD k.toNat false=false:=by rw[hgd];simpa using h2
    have hop:=openN_set s k.toNat hkl hf
    refine IdxOb.mk ⟨b,0,none⟩ k.toNat rfl (by omega) (by omega) ?_
    refine StoreOb.add (os.blk 3) [] _ _ rfl ?_ rfl ?_
    ·simp only[List.size_toArray,List.length_map]
     show 0+k.toNat * 1+1≤_
     omega
    have e:=boolRow_set s k.toNat hkl true
    refine AllocOb.mk fun b9 hb9 hbM9=>?_
    refine OtherOb.append TryzEOK rfl (by simp) (e:=3) rfl rfl rfl os hoq rfl (m:=1) rfl (news:=[.int .i64 k]) (by decide) (blk_rd (b:=b9) (cs:=[.int .i64 k]) (k:=0) (n:=1) (T:=3) (.head _) (by simp)) rfl (Mr:=[⟨b,.cells (splice (s.map Value.bool) (0+k.toNat * 1) [.bool true]).toArray 4 (0,0)⟩,⟨b9,.cells #[.int .i64 k] 3 (0,0)⟩]) (perm4 _ _ _) (by simp only[maxLen];omega) (by show (os.n+1) * 8≤_;omega) ?_
    intro g' c' cur' q1 q2 q3 q4
    refine ArithOb.mk _ (next_wr (i:=j) (by omega)) ?_
    refine⟨(j+1,s.set k.toNat true,⟨some g',os.n+1,c',cur'⟩,q++[k]),⟨⟨by simp only;omega,by simpa using hsl,?_,?_,?_⟩,by simp only;omega⟩,?_,aF6,.nil⟩
    ·simp only
     rw[List.map_append]
     exact app1_ok hoq q1 q2 q3 q4
    ·simp only[List.length_append,List.length_cons,List.length_nil]
     omega
    ·simp only
     rw[hvq,hkd,visitL,hf]
     rfl
    ·simp only[boolRow]
     rw[←e]
     simp only[Nat.zero_add,Nat.mul_one]
     exact .sub (.cons_cons _ (.cons_cons _ (List.nil_sublist _))) .refl
   ·have hf:s.getD k.toNat false=true:=by rw[hgd];simpa using h2
    refine ArithOb.mk _ (next_wr (i:=j) (by omega)) ?_
    refine⟨(j+1,s,os,q),⟨⟨by simp only;omega,hsl,hoq,hmq,?_⟩,by simp only;omega⟩,.refl,aF6,.nil⟩
    simp only
    rw[hvq,hkd,visitL,hf]
    rfl
  ·have hge:row.n≤j:=by simpa using h
   have hv:visitL m o' row.l=(s,q):=by
    rw[hvq,List.drop_eq_nil_of_le (by omega)]
    rfl
   rw[hv] at hgo hst hlt
   simp only at hgo hst hlt
   have hoql:=hoq.len1
   refine CondOb.mk (fun h2=>?_) (fun h2=>?_)
   ·have hql:0 < q.length:=by simp at h2;omega
    refine⟨(b,s,os,q,f),hp _ ⟨hb,hoq,hst,fun e=>by simp only at e;rw[e] at hql;simp at hql,by simp only;omega,by simp only;omega,?_⟩ (by simp only;omega),.refl,aF3,.nil⟩
    simp only
    rw[hgo,show decide (0 < q.length)=true from decide_eq_true hql]
    rfl
   ·have hql:¬ 0 < q.length:=by simp at h2;omega
    have hfl:fromL x.ll i=s:=by
     rw[hgo,show decide (0 < q.length)=false from decide_eq_false hql]
     rfl
    refine⟨_,_,.sub (List.sublist_append_right _ _) (.prom rfl (by simp) .refl),ins_le hb,⟨some ⟨b,0,none⟩,x.n,x.n,s⟩,rfl,⟨⟨by simp[hsl],⟨Nat.le_refl _,by simp only;omega⟩,.inr ⟨_,rfl,rfl,_,_,_,ins_self ..,?_⟩⟩⟩,hfl.symm,rfl⟩
    simp[hsl]
    exact List.take_of_length_le (by simp[hsl])
theorem from_spec {I:GH} {x:Ls} (hx:x.ok I) (hn:x.n≤1099511627776) (hL:∀ l∈x.ll,valid x.ll.length l) {i:Nat} (hi:i < x.n):Spec Tryz.prog 86 [x.val,.int .i64 i] I [] fun v I' M'=>(∀ b o,I b=some o→I' b=some o)∧∃ r:Rb,v=r.val∧r.ok I'∧r.l=fromL x.ll i∧M'=[]:=by
 refine spec_of_V [] TryzEOK Tryz.func86 rfl rfl rfl ?_
 intro B h0
 have hxn:=hx.n
 have hll:x.ll.length=x.n:=by simp[Ls.ll,hxn]
 refine CodeOb.scope TryzEOK rfl (fromLP I x) (fun _=>0) (FromLInv I x.ll i) (fun y=>y.2.2.2.2) (fun _=>labelIn (scopeIn (Tryz.f86.body.getD .skip)) 0) (fun _ _=>⟨by kernel_rfl,by kernel_rfl⟩) ?_ ?_
 ·refine MakeOb.mk x.n x.n rfl rfl (Nat.le_refl _) (by show 1 * x.n≤_;omega) (by omega) ?_
  refine AllocOb.mk fun b hb hbM=>?_
  refine IdxOb.mk ⟨b,0,none⟩ i rfl rfl hi ?_
  have hr:rowOf [.bool false] (x.n * 1)=(List.replicate x.n false).map Value.bool:=by
   rw[rowOf_one,Nat.mul_one,List.map_replicate]
  refine StoreOb.add [] [] (((List.replicate x.n false).map Value.bool).toArray) 4 (by rw[←hr];rfl) ?_ rfl ?_
  ·simp only[List.size_toArray,List.length_map,List.length_replicate]
   show 0+i * 1+1≤_
   omega
  refine AllocOb.mk fun b6 hb6 hbM6=>?_
  have e:=boolRow_set (List.replicate x.n false) i (by simpa using hi) true
  have hst:=FromInv.start (L:=x.ll) (i:=i) (by omega)
  rw[hll] at hst
  have key:=fun G GC=>from_pass hx hn hL (i:=i) (b,(List.replicate x.n false).set i true,⟨some b6,1,1,[.int .i64 i]⟩,[(i:Int)],2 * x.n+2) ⟨hb,⟨rfl,(fun h=>by cases h),fun g3 _=>⟨rfl,Nat.le_refl _,by simp only[maxLen];omega,rfl⟩⟩,hst,by simp,?_,by simp only;omega,by simp only[fromL];rw[hll]⟩ (p:=fun l y=>FromLInv I x.ll i y∧0=l) (fun z hz _=>⟨hz,rfl⟩) B h0 G GC
  ·refine V_frameN (t1:=0) (t2:=5) (t3:=6) (fun G GC=>?_) rfl rfl rfl
   have k2:=key G GC
   simp only[boolRow] at k2
   rw[←e] at k2
   simp only[Nat.zero_add,Nat.mul_one]
   exact k2
  ·simp only
   have:=openN_le ((List.replicate x.n false).set i true)
   simp only[List.length_set,List.length_replicate,List.length_cons,List.length_nil] at this ⊢
   omega
 ·intro y hy
  exact V_frameN (t1:=0) (t2:=5) (t3:=6) (fun G GC=>from_pass hx hn hL y hy (fun z hz hlt=>⟨⟨hz,rfl⟩,hlt⟩) B h0 G GC) rfl rfl rfl
theorem listL_mem (wh:Bool):∀ (s:List Bool) (i:Nat) (k:Int),k∈listL wh i s ↔ ∃ j:Nat,k=((i+j:Nat):Int)∧s[j]?=some wh
 | [],i,k=>by simp[listL]
 | b::s,i,k=>by
  have ih:=listL_mem wh s (i+1) k
  unfold listL
  have tail:(∃ j:Nat,k=((i+1+j:Nat):Int)∧s[j]?=some wh) ↔ ∃ j:Nat,k=((i+(j+1):Nat):Int)∧(b::s)[j+1]?=some wh:=by
   constructor
   ·rintro⟨j,h1,h2⟩
    exact⟨j,by rw[h1];omega,by simpa using h2⟩
   ·rintro⟨j,h1,h2⟩
    exact⟨j,by rw[h1];omega,by simpa using h2⟩
  have split:(∃ j:Nat,k=((i+j:Nat):Int)∧(b::s)[j]?=some wh) ↔ (k=(i:Int)∧b=wh)∨∃ j:Nat,k=((i+(j+1):Nat):Int)∧(b::s)[j+1]?=some wh:=by
   constructor
   ·rintro⟨j,h1,h2⟩
    cases j with
    | zero=>exact .inl ⟨by simpa using h1,by simpa using h2⟩
    | succ j=>exact .inr ⟨j,h1,h2⟩
   ·rintro(⟨h1,h2⟩ | ⟨j,h1,h2⟩)
    ·exact⟨0,by simpa using h1,by simpa using h2⟩
    ·exact⟨j+1,h1,h2⟩
  rw[split]
  cases hb:b == wh with
  | true=>
   have:b=wh:=by simpa using hb
   simp only[cond_true,List.mem_cons,ih,tail]
   simp[this]
  | false=>
   have:b≠wh:=by simpa using hb
   simp only[cond_false,ih,tail]
   simp[this]
theorem listL_valid {wh:Bool} {s:List Bool}:valid s.length (listL wh 0 s):=fun k hk=>by
 obtain⟨j,h1,h2⟩:=(listL_mem wh s 0 k).1 hk
 have:=(List.getElem?_eq_some_iff.1 h2).1
 omega
theorem calledL_valid (g:Gr) (t:Tr):valid g.n (calledL g t):=by
 have h:=listL_valid (wh:=true) (s:=thereL g.ds g.n (namedL t.ns))
 rw[thereL_len] at h
 exact h
theorem callsL_valid {g:Gr} (hn:g.ds.length=g.n):∀ l∈callsL g,valid (callsL g).length l:=by
 intro l hl
 obtain⟨d,_,rfl⟩:=List.mem_map.1 hl
 simp only[callsL,List.length_map,hn]
 exact calledL_valid g d.t
theorem listL_both:∀ (s:List Bool) (i j:Nat),(listL true i s).length+(listL false j s).length=s.length
 | [],_,_=>rfl
 | b::s,i,j=>by
  have:=listL_both s (i+1) (j+1)
  cases b<;>simp[listL]<;>omega
theorem listL_isM {s:List Bool} {k:Nat}:(k:Int)∈listL true 0 s ↔ isM s k:=by
 rw[listL_mem]
 unfold isM
 constructor
 ·rintro⟨j,h1,h2⟩
  have:k=j:=by omega
  subst this
  simp[List.getD_eq_getElem?_getD,h2]
 ·intro h
  refine⟨k,by omega,?_⟩
  have hl:=isM_lt h
  simp only[List.getD_eq_getElem?_getD,List.getElem?_eq_getElem hl,Option.getD_some] at h
  rw[List.getElem?_eq_getElem hl,h]
theorem listL_notM {s:List Bool} {k:Nat}:(k:Int)∈listL false 0 s ↔ k < s.length∧¬ isM s k:=by
 rw[listL_mem]
 unfold isM
 constructor
 ·rintro⟨j,h1,h2⟩
  have:k=j:=by omega
  subst this
  have hl:=(List.getElem?_eq_some_iff.1 h2).1
  exact⟨hl,by simp[List.getD_eq_getElem?_getD,h2]⟩
 ·rintro⟨hl,h⟩
  refine⟨k,by omega,?_⟩
  simp only[List.getD_eq_getElem?_getD,List.getElem?_eq_getElem hl,Option.getD_some] at h
  rw[List.getElem?_eq_getElem hl]
  simpa using h
def mat (R:List (List Bool)) (i k:Nat):Bool:=(R.getD i []).getD k false
def Mutual (R:List (List Bool)) (i k:Nat):Prop:=mat R i k=true∧mat R k i=true
theorem Mutual.symm {R:List (List Bool)} {i j:Nat} (h:Mutual R i j):Mutual R j i:=⟨h.2,h.1⟩
theorem Comes.trans {L:List (List Int)} {i j k:Nat} (h1:Comes L i j) (h2:Comes L j k):Comes L i k:=by
 induction h2 with
 | self=>exact h1
 | next _ hk ih=>exact .next ih hk
def rw0:Rw:=⟨none,0,0,[]⟩
theorem rw0_ok (I:GH):rw0.ok I:=⟨⟨rfl,⟨Nat.le_refl _,by simp[rw0]⟩,.inl rfl⟩⟩
def inR (i:Int) (n:Nat):Bool:=!decide (i < 0) && !decide ((n:Int)≤i)
def callsG (deb:List Int) (g:Gr) (i:Int):List Int:=bif inR i g.n && decide (mayG deb g=0) then (callsL g).getD i.toNat [] else []
def fromG (deb:List Int) (g:Gr) (i:Int):List Int:=bif inR i g.n && decide (mayG deb g=0) then listL true 0 (fromL (callsL g) i.toNat) else []
def uselessG (deb:List Int) (g:Gr):List Int:=bif decide (mayG deb g=0) && !decide ((g.n:Int)=0) then listL false 0 (fromL (callsL g) 0) else []
theorem Calls_spec {I:GH} {deb:List Int} (hT:Tabs I deb) {g:Gr} (hg:g.ok I) (hn:g.n≤1099511627776) (i:Int):Spec Tryz.prog 76 [g.val,.int .i64 i] I [] fun v I' M'=>(∀ b o,I b=some o→I' b=some o)∧∃ x:Rw,v=x.val∧x.ok I'∧x.l=callsG deb g i∧M'=[]:=by
 refine spec_of_V [] TryzEOK Tryz.func76 rfl rfl rfl ?_
 intro B h0
 have hgn:=hg.n
 refine GuardOb.mk (fun h1=>?_) (fun h1=>?_)
 ·refine GuardOb.mk (fun h2=>?_) (fun h2=>?_)
  ·have hin:inR i g.n=true:=by
    have h2':decide ((g.n:Int)≤i)=false:=h2
    rw[inR,h1,h2']
    rfl
   refine CallOb.mk [] [] _ (.refl _) (May_spec hT hg) ?_
   rintro v I1 M1 - ⟨rfl,hI1,rfl⟩
   refine CondOb.mk (fun h3=>?_) (fun h3=>?_)
   ·refine⟨_,_,.refl,hI1,rw0,rfl,rw0_ok _,?_,rfl⟩
    have h3':decide (mayG deb g=0)=false:=by simpa using h3
    rw[callsG,hin,h3']
    rfl
   ·have hm:decide (mayG deb g=0)=true:=by simpa using h3
    have hi0:0≤i:=by simpa using h1
    have hi1:i < g.n:=by simpa using h2
    have hl':i.toNat < g.ds.length:=by omega
    have hg1:=hg.mono hI1
    obtain⟨ad,had,hrd⟩:=hg1.rs.row Df.cells_len (j:=i.toNat) (by omega) hl'
    have hdm:g.ds[i.toNat]∈g.ds:=List.getElem_mem hl'
    refine CodeOb.draw TryzEOK rfl rfl rfl ?_
    refine IdxOb.mk ad i.toNat had (by omega) (by omega) ?_
    refine LoadOb.mk _ (Rd.part (k:=1) (m:=2) (hrd _) (by decide)) ?_
    refine CallOb.mk [] [] _ (.refl _) (called_spec hg1 hn (hg1.ds _ hdm).t) ?_
    rintro v I2 M2 - ⟨hI2,x,rfl,hx,hxl,rfl⟩
    refine⟨_,_,.refl,fun b o h=>hI2 _ _ (hI1 _ _ h),x,rfl,hx,?_,rfl⟩
    rw[callsG,hin,hm,hxl]
    simp[callsL,List.getD_eq_getElem?_getD,hl']
  ·refine⟨_,_,.refl,fun _ _ h=>h,rw0,rfl,rw0_ok _,?_,rfl⟩
   have h2':decide ((g.n:Int)≤i)=true:=h2
   rw[callsG,inR,h1,h2']
   rfl
 ·refine⟨_,_,.refl,fun _ _ h=>h,rw0,rfl,rw0_ok _,?_,rfl⟩
  rw[callsG,inR,h1]
  rfl
theorem callsL_len {g:Gr} (hn:g.ds.length=g.n):(callsL g).length=g.n:=by simp[callsL,hn]
theorem from_len {L:List (List Int)} (hL:∀ l∈L,valid L.length l) {i:Nat} (hi:i < L.length):(fromL L i).length=L.length:=(fromL_ok hL hi).len
theorem From_spec {I:GH} {deb:List Int} (hT:Tabs I deb) {g:Gr} (hg:g.ok I) (hn:g.n≤1099511627776) (i:Int):Spec Tryz.prog 46 [g.val,.int .i64 i] I [] fun v I' M'=>(∀ b o,I b=some o→I' b=some o)∧∃ x:Rw,v=x.val∧x.ok I'∧x.l=fromG deb g i∧M'=[]:=by
 refine spec_of_V [] TryzEOK Tryz.func46 rfl rfl rfl ?_
 intro B h0
 have hgn:=hg.n
 refine CallOb.mk [] [] _ (.refl _) (calls_spec hT hg hn) ?_
 rintro v I1 M1 - ⟨hI1,rfl,⟨hm,rfl⟩ | ⟨hm,x,rfl,hx,hxl⟩⟩
 ·refine GuardOb.mk (fun h=>by cases h) (fun _=>?_)
  refine⟨_,_,.refl,hI1,rw0,rfl,rw0_ok _,?_,rfl⟩
  have h3':decide (mayG deb g=0)=false:=by simpa using hm
  rw[fromG,h3',Bool.and_false]
  rfl
 ·have h3':decide (mayG deb g=0)=true:=by simpa using hm
  have hxn:x.n=g.n:=by
   have h1:=hx.n
   have h2:=congrArg List.length hxl
   simp only[Ls.ll,List.length_map,callsL] at h2
   omega
  have hv:∀ l∈x.ll,valid x.ll.length l:=by rw[hxl];exact callsL_valid hgn
  refine GuardOb.mk (fun _=>?_) (fun h=>by cases h)
  refine GuardOb.mk (fun h1=>?_) (fun h1=>?_)
  ·refine CondOb.mk (fun h2=>?_) (fun h2=>?_)
   ·refine⟨_,_,.refl,hI1,rw0,rfl,rw0_ok _,?_,rfl⟩
    have h2':decide ((g.n:Int)≤i)=true:=by rw[←hxn];exact h2
    rw[fromG,inR,h1,h2']
    rfl
   ·have h2':decide ((g.n:Int)≤i)=false:=by rw[←hxn];exact h2
    have hi0:0≤i:=by simpa using h1
    have hi1:i < g.n:=by simpa using h2'
    obtain⟨j,rfl⟩:=Int.eq_ofNat_of_zero_le hi0
    refine CallOb.mk [] [] _ (.refl _) (from_spec hx (by omega) hv (i:=j) (by omega)) ?_
    rintro v I2 M2 - ⟨hI2,r,rfl,hr,hrl,rfl⟩
    have hrn:r.n=g.n:=by
     have h1:=hr.n
     rw[hrl,from_len hv (by rw[hxl,callsL_len hgn];omega),hxl,callsL_len hgn] at h1
     exact h1.symm
    refine CallOb.mk [] [] _ (.refl _) (list_spec hr (by omega) true) ?_
    rintro v I3 M3 - ⟨hI3,y,rfl,hy,hyl,rfl⟩
    refine⟨_,_,.refl,fun b o h=>hI3 _ _ (hI2 _ _ (hI1 _ _ h)),y,rfl,hy,?_,rfl⟩
    rw[fromG,inR,h1,h2',h3',hyl,hrl,hxl]
    rfl
  ·refine⟨_,_,.refl,hI1,rw0,rfl,rw0_ok _,?_,rfl⟩
   rw[fromG,inR,h1]
   rfl
theorem Useless_spec {I:GH} {deb:List Int} (hT:Tabs I deb) {g:Gr} (hg:g.ok I) (hn:g.n≤1099511627776):Spec Tryz.prog 47 [g.val] I [] fun v I' M'=>(∀ b o,I b=some o→I' b=some o)∧∃ x:Rw,v=x.val∧x.ok I'∧x.l=uselessG deb g∧M'=[]:=by
 refine spec_of_V [] TryzEOK Tryz.func47 rfl rfl rfl ?_
 intro B h0
 have hgn:=hg.n
 refine CallOb.mk [] [] _ (.refl _) (calls_spec hT hg hn) ?_
 rintro v I1 M1 - ⟨hI1,rfl,⟨hm,rfl⟩ | ⟨hm,x,rfl,hx,hxl⟩⟩
 ·refine GuardOb.mk (fun h=>by cases h) (fun _=>?_)
  refine⟨_,_,.refl,hI1,rw0,rfl,rw0_ok _,?_,rfl⟩
  have h3':decide (mayG deb g=0)=false:=by simpa using hm
  rw[uselessG,h3']
  rfl
 ·have h3':decide (mayG deb g=0)=true:=by simpa using hm
  have hxn:x.n=g.n:=by
   have h1:=hx.n
   have h2:=congrArg List.length hxl
   simp only[Ls.ll,List.length_map,callsL] at h2
   omega
  have hv:∀ l∈x.ll,valid x.ll.length l:=by rw[hxl];exact callsL_valid hgn
  refine GuardOb.mk (fun _=>?_) (fun h=>by cases h)
  refine CondOb.mk (fun h2=>?_) (fun h2=>?_)
  ·refine⟨_,_,.refl,hI1,rw0,rfl,rw0_ok _,?_,rfl⟩
   have h2':decide ((g.n:Int)=0)=true:=by rw[←hxn];exact h2
   rw[uselessG,h2',h3']
   rfl
  ·have h2':decide ((g.n:Int)=0)=false:=by rw[←hxn];exact h2
   have hpos:g.n≠0:=by simp at h2';omega
   refine CallOb.mk [] [] _ (.refl _) (from_spec hx (by omega) hv (i:=0) (by omega)) ?_
   rintro v I2 M2 - ⟨hI2,r,rfl,hr,hrl,rfl⟩
   have hrn:r.n=g.n:=by
    have h1:=hr.n
    rw[hrl,from_len hv (by rw[hxl,callsL_len hgn];omega),hxl,callsL_len hgn] at h1
    exact h1.symm
   refine CallOb.mk [] [] _ (.refl _) (list_spec hr (by omega) false) ?_
   rintro v I3 M3 - ⟨hI3,y,rfl,hy,hyl,rfl⟩
   refine⟨_,_,.refl,fun b o h=>hI3 _ _ (hI2 _ _ (hI1 _ _ h)),y,rfl,hy,?_,rfl⟩
   rw[uselessG,h2',h3',hyl,hrl,hxl]
   rfl
structure Lb where
 rows:List Rb
 a:Option Addr
 n:Nat
 c:Nat
def Lb.val (x:Lb):Value:=.slice x.a x.n x.c
structure Lb.ok (I:GH) (x:Lb):Prop where
 rs:RS I x.a x.n x.c 1 24 (x.rows.map Rb.val)
 rows:∀ r∈x.rows,r.ok I
def ghost (W:World):GH:=fun b=>W.heap[b]?
theorem ghost_holds (W:World):Holds (ghost W) [] W:=⟨fun b o h=>h,(fun x hx=>by cases hx),(fun x hx=>by cases hx),List.nodup_nil⟩
structure OldKept (W W':World):Prop where
 old:∀ b,b < W.heap.size→W'.heap[b]?=W.heap[b]?
 sz:W.heap.size≤W'.heap.size
 out:Same W W'
theorem calls_of_specE {P:Program} {f:Nat} {args:List Value} {W:World} {post:Value→GH→List Blk→Prop} (h:SpecE P f args (ghost W) [] post) :
  Calls P f args.toArray W fun e W'=>∃ v,e=.returned v∧(∃ I' M',post v I' M')∧OldKept W W':=by
 refine(h.2 W (ghost_holds W)).mono ?_
 rintro e W' ⟨v,I',M',rfl,hp,_,hK⟩
 exact⟨v,rfl,⟨I',M',hp⟩,fun b hb=>hK.old b hb (fun y hy=>by cases hy),hK.sz,hK.out⟩
theorem OldKept.kept {W W':World} (h:OldKept W W') (may:MemPlace→Prop):W.keptBut W' may:=by
 refine⟨h.out.1,h.out.2,fun i hi=>?_⟩
 rw[h.old i hi]
 cases W.heap[i]? with
 | none=>rfl
 | some o=>cases o<;>simp
theorem OldKept.frozen {W W':World} (h:OldKept W W') {a:Addr} (ha:a.block < W.heap.size):W'.frozen? a=W.frozen? a:=by
 unfold World.frozen?
 rw[h.old _ ha]
variable {H:Type} {enc:TypeId×Value→H} {P:Program}
theorem post_of_old {f:Func} {s:ChangeSpec} {apart fresh handsOn again:Bool} {W W':World} {args:Array Value} {v:Value} {ds gs:List (DataW H)} {before pa pv:List MemPlace}
  (hW:DataW.Whole enc P f.params.toList s.vars apart W args.toList ds gs before)
  (hres:∀ (b:Nat) (sp:Nat→Bool) (hd:Bool),DataW.TrodAll enc P W' b sp hd f.resultTypes.toList (v.resultList f.resultTypes.size) (s.fn H (ds++gs)).results [])
  (hargs:∀ sp:Nat→Bool,(∀ p∈before,sp p.block=true)→DataW.TrodAll enc P W' 0 sp true f.params.toList args.toList (s.fn H (ds++gs)).args pa)
  (hvars:∀ sp:Nat→Bool,(∀ p∈before,sp p.block=true)→DataW.TrodVars enc P W' sp s.vars (s.fn H (ds++gs)).vars pv)
  (hps:before=pa++pv) (hk:OldKept W W')
  (hok:∀ (j:Nat) (t:TypeId) (r:Value),f.resultTypes[j]?=some t→(v.resultList f.resultTypes.size)[j]?=some r→Value.okWide P W' .any 0 t r) :
  s.post enc P f apart fresh handsOn again W args v W':=by
 have hold:∀ p∈before,(fun b=>decide (b < W.heap.size)) p.block=true:=fun p hp=>by simpa using hW.lt p hp
 have hlt:∀ p∈before,p.block < W.heap.size:=fun p hp=>hW.lt p hp
 refine⟨ds,gs,before,[],pa,pv,hW,hres _ _ _,hargs _ hold,hvars _ hold,World.keptBut_mono (fun p hp=>⟨hp,?_⟩) (hk.kept (·∈before)),fun _=>?_⟩
 ·rw[hps,List.mem_append] at hp
  exact Or.inr hp
 ·obtain⟨_,_,_,_,_,hz,hn⟩:=hW
  refine⟨hok,_,_,([]++pa)++pv,⟨[]++pa,pv,ChangeShapes.trodAll_append (hargs _ (fun _ _=>rfl)) (hres _ _ _),hvars _ (fun _ _=>rfl),rfl,?_,?_⟩,?_⟩
  ·intro b off hp
   have hp':MemPlace.cell b off∈before:=by rw[hps];simpa using hp
   rw[hk.frozen (a:=⟨b,off,none⟩) (hlt _ hp')]
   exact hz b off hp'
  ·intro ha
   have:=hn ha
   rw[hps] at this
   simpa using this
  ·intro p hp _
   rw[hps]
   simpa using hp
def leafVal:DataW H→Option Value
 | .lit (.int k z)=>some (.int k z)
 | .lit (.string l)=>some (.string ⟨l.toArray⟩)
 | .lit (.bool b)=>some (.bool b)
 | _=>none
def leafT (P:Program) (e:TypeId):Bool:=match P.underlying e with
 | some .bool | some (.int _) | some .string=>true
 | _=>false
section
variable {w:World} {base:Nat} {sp:Nat→Bool} {held:Bool} {fuel:Nat} {t e:TypeId} {cs:List Value} {d:DataW H} {p:List MemPlace}
theorem leaf_inv (he:leafT P e=true) (h:DataW.trod enc P w base sp held fuel e cs=some (d,p)) {v:Value} (hv:leafVal d=some v):cs=[v]:=by
 unfold leafT at he
 split at he
 ·rename_i hu
  obtain⟨b,rfl,hx⟩:=DataW.trod_bool hu h
  cases hx
  simpa[leafVal] using hv
 ·rename_i k hu
  obtain⟨n,rfl,hx,_⟩:=DataW.trod_int hu h
  cases hx
  simpa[leafVal] using hv
 ·rename_i hu
  obtain⟨s,rfl,hx,_⟩:=DataW.trod_string hu h
  cases hx
  simpa[leafVal] using hv
 ·cases he
theorem mapM_get {α β:Type} {f:α→Option β}:∀ {l:List α} {r:List β},l.mapM f=some r→r.length=l.length∧∀ i (h:i < l.length) (h':i < r.length),f l[i]=some r[i]
 | [],r,h=>by
  simp at h
  subst h
  exact⟨rfl,fun i h=>by simp at h⟩
 | x::l,r,h=>by
  simp only[List.mapM_cons,Option.bind_eq_bind,Option.bind_eq_some_iff,Option.pure_def,Option.some.injEq] at h
  obtain⟨b,hb,r',hr',rfl⟩:=h
  obtain⟨h1,h2⟩:=mapM_get hr'
  refine⟨by simp[h1],fun i hi hi'=>?_⟩
  cases i with
  | zero=>simpa using hb
  | succ i=>simpa using h2 i (by simpa using hi) (by simpa using hi')
theorem pieces_one {cs vs:List Value} (hl:cs.length=vs.length) (h:∀ i (hi:i < vs.length),(cs.drop i).take 1=[vs[i]]):cs=vs:=by
 apply List.ext_getElem hl
 intro i h1 h2
 have:=h i h2
 rw[List.drop_eq_getElem_cons h1,List.take_succ_cons,List.take_zero] at this
 simpa using this
theorem leaves_array {n:Nat} (ht:P.underlying t=some (.array n e)) (he:leafT P e=true) (hce:P.cellsOf e=1) (hct:P.cellsOf t=n) {ds:List (DataW H)} (h:DataW.trod enc P w base sp held fuel t cs=some (.agg ds,p)) {vs:List Value} (hv:ds.mapM leafVal=some vs):cs=vs:=by
 obtain⟨xs,m,rfl,hx,hl,hxl,hi⟩:=DataW.trod_array ht h
 have hds:ds=xs.map (·.1):=by
  have:=congrArg Prod.fst hx
  simpa using this
 obtain⟨g1,g2⟩:=mapM_get hv
 have hvl:vs.length=n:=by rw[g1,hds];simpa using hxl
 refine pieces_one (by rw[hl,hct,hvl]) fun i hi'=>?_
 have h1:=hi i (by omega)
 rw[hce,Nat.mul_one] at h1
 have hxi:i < xs.length:=by omega
 rw[List.getElem?_eq_getElem hxi] at h1
 have h2:=g2 i (by rw[hds];simpa using hxi) hi'
 have h3:ds[i]'(by rw[hds];simpa using hxi)=xs[i].1:=by simp[hds]
 rw[h3] at h2
 exact leaf_inv he (d:=xs[i].1) (p:=xs[i].2) h1 h2
theorem leaves_struct {fs:Array Field} (ht:P.underlying t=some (.struct fs)) (hf:∀ (i:Nat) (f:Field),fs[i]?=some f→leafT P f.type=true∧f.offset=i∧P.cellsOf f.type=1) (hct:P.cellsOf t=fs.size) {ds:List (DataW H)} (h:DataW.trod enc P w base sp held fuel t cs=some (.agg ds,p)) {vs:List Value} (hv:ds.mapM leafVal=some vs):cs=vs:=by
 obtain⟨xs,m,rfl,hx,hl,hxl,hi⟩:=DataW.trod_struct ht h
 have hds:ds=xs.map (·.1):=by
  have:=congrArg Prod.fst hx
  simpa using this
 obtain⟨g1,g2⟩:=mapM_get hv
 have hvl:vs.length=fs.size:=by rw[g1,hds];simpa using hxl
 refine pieces_one (by rw[hl,hct,hvl]) fun i hi'=>?_
 have hif:i < fs.size:=by omega
 obtain⟨k1,k2,k3⟩:=hf i fs[i] (Array.getElem?_eq_getElem hif)
 have h1:=hi i fs[i] (Array.getElem?_eq_getElem hif)
 rw[k2,k3] at h1
 have hxi:i < xs.length:=by omega
 rw[List.getElem?_eq_getElem hxi] at h1
 have h2:=g2 i (by rw[hds];simpa using hxi) hi'
 have h3:ds[i]'(by rw[hds];simpa using hxi)=xs[i].1:=by simp[hds]
 rw[h3] at h2
 exact leaf_inv k1 (d:=xs[i].1) (p:=xs[i].2) h1 h2
theorem pieces_flat {sz:Nat}:∀ (rows:List (List Value)) (cs:List Value),cs.length=rows.length * sz→(∀ i (hi:i < rows.length),(cs.drop (i * sz)).take sz=rows[i])→cs=rows.flatten
 | [],cs,hl,_=>List.eq_nil_of_length_eq_zero (by simpa using hl)
 | r::rows,cs,hl,h=>by
  have h0:=h 0 (by simp)
  simp only[Nat.zero_mul,List.drop_zero,List.getElem_cons_zero] at h0
  rw[List.length_cons,Nat.add_mul,Nat.one_mul] at hl
  have ih:=pieces_flat (sz:=sz) rows (cs.drop sz) (by rw[List.length_drop];omega) fun i hi=>by
   have:=h (i+1) (by simpa using hi)
   rw[List.drop_drop,show sz+i * sz=(i+1) * sz from by rw[Nat.add_mul];omega]
   simpa using this
  rw[List.flatten_cons,←ih,←h0,List.take_append_drop]
theorem rows_array {n sz:Nat} (ht:P.underlying t=some (.array n e)) (hce:P.cellsOf e=sz) (hct:P.cellsOf t=n * sz) {ds:List (DataW H)} (h:DataW.trod enc P w base sp held fuel t cs=some (.agg ds,p)) {rows:List (List Value)} (hr:rows.length=ds.length)
  (hin:∀ i (hi:i < ds.length) (hi':i < rows.length) fuel cs p,DataW.trod enc P w base sp held fuel e cs=some (ds[i],p)→cs=rows[i]):cs=rows.flatten:=by
 obtain⟨xs,m,rfl,hx,hl,hxl,hi⟩:=DataW.trod_array ht h
 have hds:ds=xs.map (·.1):=by
  have:=congrArg Prod.fst hx
  simpa using this
 have hrl:rows.length=n:=by rw[hr,hds];simpa using hxl
 refine pieces_flat (sz:=sz) rows cs (by rw[hl,hct,hrl]) fun i hi'=>?_
 have h1:=hi i (by omega)
 rw[hce] at h1
 have hxi:i < xs.length:=by omega
 rw[List.getElem?_eq_getElem hxi] at h1
 have h3:ds[i]'(by rw[hds];simpa using hxi)=xs[i].1:=by simp[hds]
 exact hin i (by rw[hds];simpa using hxi) hi' m _ xs[i].2 (by rw[h3];exact h1)
def rowVal (d:DataW H):Option (List Value):=match d with
 | .agg l=>l.mapM leafVal
 | _=>none
theorem rows_array2 {n sz:Nat} (ht:P.underlying t=some (.array n e)) (hce:P.cellsOf e=sz) (hct:P.cellsOf t=n * sz) {ds:List (DataW H)} (h:DataW.trod enc P w base sp held fuel t cs=some (.agg ds,p)) {rows:List (List Value)} (hr:ds.mapM rowVal=some rows)
  (hin:∀ fuel cs p l row,DataW.trod enc P w base sp held fuel e cs=some (.agg l,p)→l.mapM leafVal=some row→cs=row):cs=rows.flatten:=by
 obtain⟨g1,g2⟩:=mapM_get hr
 refine rows_array ht hce hct h g1 fun i hi hi' fuel cs p h'=>?_
 have h2:=g2 i hi hi'
 unfold rowVal at h2
 split at h2
 ·rename_i l hl
  rw[hl] at h'
  exact hin _ _ _ _ _ h' h2
 ·cases h2
end
end Go.V
namespace Go.V
open Go Go.Proofs
theorem var_block {P:Program} {W:World} {n:String} {g:Nat} {cs:Array Value} (hg:P.globalNamed n=some g) (h:W.var? P n=some cs):∃ T fr,W.heap[g]?=some (.cells cs T fr):=by
 simp only[World.var?,hg,Option.bind_some] at h
 split at h
 ·rename_i c T fr hh
  cases h
  exact⟨T,fr,hh⟩
 ·cases h
def debL:List Int:=[0,1,56,2,57,49,28,3,61,58,42,50,38,29,17,4,62,47,59,36,45,43,51,22,53,39,33,30,24,18,12,5,63,55,48,27,60,41,37,16,46,35,44,21,52,32,23,11,54,26,40,15,34,20,31,10,25,14,19,9,13,8,7,6]
theorem tabs_of_laid {W:World} {rest:List (String×DataW Unit)} (h:laidMet Tryz.prog ([("math/bits.deBruijn32tab",YtellgkgedepkjaaGreatDoor.Rows.laid_math_bits_deBruijn32tab),("math/bits.deBruijn64tab",YtellgkgedepkjaaGreatDoor.Rows.laid_math_bits_deBruijn64tab),("internal/strconv.uint64pow10",YtellgkgedepkjaaGreatDoor.Rows.laid_internal_strconv_uint64pow10),("bonsai/tree.counts",YtellgkgedepkjaaGreatDoor.Rows.laid_bonsai_tree_counts),("bonsai/print.counts",YtellgkgedepkjaaGreatDoor.Rows.laid_bonsai_print_counts),("bonsai/print.signs",YtellgkgedepkjaaGreatDoor.Rows.laid_bonsai_print_signs)]++rest) W):Tabs (ghost W) debL:=by
 obtain⟨ps,hL,_⟩:=h
 obtain⟨g1,t1,cs1,f1,p1,q1,hg1,ht1,hv1,hd1,hL,_⟩:=hL
 obtain⟨g2,t2,cs2,f2,p2,q2,hg2,ht2,hv2,hd2,hL,_⟩:=hL
 obtain⟨g3,t3,cs3,f3,p3,q3,hg3,ht3,hv3,hd3,hL,_⟩:=hL
 obtain⟨g4,t4,cs4,f4,p4,q4,hg4,ht4,hv4,hd4,hL,_⟩:=hL
 obtain⟨g5,t5,cs5,f5,p5,q5,hg5,ht5,hv5,hd5,hL,_⟩:=hL
 obtain⟨g6,t6,cs6,f6,p6,q6,hg6,ht6,hv6,hd6,hL,_⟩:=hL
 obtain rfl:=Option.some.inj ((show Tryz.prog.globalNamed "math/bits.deBruijn64tab" = some 4 by kernel_rfl).symm.trans hg2)
 obtain rfl:=Option.some.inj ((show (Tryz.prog.globals[4]?).map (·.type)=some 328 by kernel_rfl).symm.trans ht2)
 obtain rfl:=Option.some.inj ((show Tryz.prog.globalNamed "bonsai/tree.counts" = some 0 by kernel_rfl).symm.trans hg4)
 obtain rfl:=Option.some.inj ((show (Tryz.prog.globals[0]?).map (·.type)=some 201 by kernel_rfl).symm.trans ht4)
 obtain rfl:=Option.some.inj ((show Tryz.prog.globalNamed "bonsai/print.counts" = some 2 by kernel_rfl).symm.trans hg5)
 obtain rfl:=Option.some.inj ((show (Tryz.prog.globals[2]?).map (·.type)=some 306 by kernel_rfl).symm.trans ht5)
 obtain rfl:=Option.some.inj ((show Tryz.prog.globalNamed "bonsai/print.signs" = some 1 by kernel_rfl).symm.trans hg6)
 obtain rfl:=Option.some.inj ((show (Tryz.prog.globals[1]?).map (·.type)=some 279 by kernel_rfl).symm.trans ht6)
 obtain⟨T2,r2,b2⟩:=var_block hg2 hv2
 obtain⟨T4,r4,b4⟩:=var_block hg4 hv4
 obtain⟨T5,r5,b5⟩:=var_block hg5 hv5
 obtain⟨T6,r6,b6⟩:=var_block hg6 hv6
 have c2:cs2.toList=debL.map (Value.int .u8):=leaves_array (show Tryz.prog.underlying 328=some (.array 64 5) by kernel_rfl) (by kernel_rfl) (by kernel_rfl) (by kernel_rfl) hd2 (by kernel_rfl)
 have c4:cs4.toList=countsL.map (Value.int .i64):=rows_array2 (n:=10) (sz:=2) (show Tryz.prog.underlying 201=some (.array 10 200) by kernel_rfl) (by kernel_rfl) (by kernel_rfl) hd4
  (rows:=[[.int .i64 0,.int .i64 0],[.int .i64 0,.int .i64 0],[.int .i64 0,.int .i64 0],[.int .i64 0,.int .i64 0],[.int .i64 2,.int .i64 (-1)],[.int .i64 2,.int .i64 (-1)],[.int .i64 1,.int .i64 1],[.int .i64 1,.int .i64 1],[.int .i64 1,.int .i64 1],[.int .i64 1,.int .i64 1]]) (by kernel_rfl)
  (fun _ _ _ _ _ h1 h2=>leaves_array (show Tryz.prog.underlying 200=some (.array 2 3) by kernel_rfl) (by kernel_rfl) (by kernel_rfl) (by kernel_rfl) h1 h2)
 have fields:∀ {t:TypeId},(match Tryz.prog.underlying t with
   | some (.struct fs)=>decide (Tryz.prog.cellsOf t=fs.size) && (List.range fs.size).all fun i=>match fs[i]? with
    | some f=>leafT Tryz.prog f.type && (decide (f.offset=i) && decide (Tryz.prog.cellsOf f.type=1))
    | none=>false
   | _=>false)=true→∀ (fuel:Nat) (cs:List Value) (p:List MemPlace) (l:List (DataW Unit)) (row:List Value),DataW.trod (fun _=>()) Tryz.prog W 0 (fun _=>true) false fuel t cs=some (.agg l,p)→l.mapM leafVal=some row→cs=row:=by
  intro t hc fuel cs p l row h1 h2
  split at hc
  ·rename_i fs hu
   simp only[Bool.and_eq_true,decide_eq_true_eq,List.all_eq_true,List.mem_range] at hc
   refine leaves_struct hu (fun i f hf=>?_) hc.1 h1 h2
   have hi:=hc.2 i (Array.getElem?_eq_some_iff.1 hf).1
   rw[hf] at hi
   simpa using hi
  ·cases hc
 have c5:cs5.toList=pcountsV:=rows_array2 (n:=3) (sz:=3) (show Tryz.prog.underlying 306=some (.array 3 305) by kernel_rfl) (by kernel_rfl) (by kernel_rfl) hd5
  (rows:=[[.int .i64 0,.int .i64 1,.string ⟨#[63]⟩],[.int .i64 0,.int .i64 (-1),.string ⟨#[42]⟩],[.int .i64 1,.int .i64 (-1),.string ⟨#[43]⟩]]) (by kernel_rfl) (fields (by kernel_rfl))
 have c6:cs6.toList=signsL.map fun l=>Value.string (strOf l):=rows_array2 (n:=10) (sz:=3) (show Tryz.prog.underlying 279=some (.array 10 278) by kernel_rfl) (by kernel_rfl) (by kernel_rfl) hd6
  (rows:=[[.string ⟨#[]⟩,.string ⟨#[]⟩,.string ⟨#[]⟩],[.string ⟨#[]⟩,.string ⟨#[]⟩,.string ⟨#[]⟩],[.string ⟨#[]⟩,.string ⟨#[]⟩,.string ⟨#[]⟩],[.string ⟨#[]⟩,.string ⟨#[]⟩,.string ⟨#[]⟩],[.string ⟨#[]⟩,.string ⟨#[32]⟩,.string ⟨#[]⟩],[.string ⟨#[]⟩,.string ⟨#[32,47,32]⟩,.string ⟨#[]⟩],[.string ⟨#[]⟩,.string ⟨#[]⟩,.string ⟨#[]⟩],[.string ⟨#[38]⟩,.string ⟨#[]⟩,.string ⟨#[]⟩],[.string ⟨#[33]⟩,.string ⟨#[]⟩,.string ⟨#[]⟩],[.string ⟨#[60]⟩,.string ⟨#[]⟩,.string ⟨#[62]⟩]]) (by kernel_rfl) (fields (by kernel_rfl))
 have arr:∀ {cs:Array Value} {l:List Value},cs.toList=l→cs=l.toArray:=fun h=>by
  apply Array.ext'
  simpa using h
 refine⟨⟨T4,r4,?_⟩,⟨T5,r5,?_⟩,⟨T6,r6,?_⟩,by decide,by decide,T2,r2,?_⟩
 ·rw[←arr c4];exact b4
 ·rw[←arr c5];exact b5
 ·rw[←arr c6];exact b6
 ·rw[←arr c2];exact b2
def setC (cs:Array Value):Obj→Obj
 | .cells _ t fr=>.cells cs t fr
 | o=>o
def pow10L:List Int:=(List.range 20).map fun i=>(10:Int) ^ i
def deb32L:List Int:=[0,1,28,2,29,14,24,3,30,22,20,15,25,17,4,8,31,27,13,23,21,19,16,7,26,12,18,6,11,5,10,9]
noncomputable def laidWorld (os:Os):World:=
 { World.holding Tryz.prog os ⟨#[],#[],[]⟩ with heap:=((((((World.holding Tryz.prog os ⟨#[],#[],[]⟩).heap.modify 0 (setC (countsL.map (Value.int .i64)).toArray)).modify 2 (setC pcountsV.toArray)).modify 1 (setC (signsL.map fun l=>Value.string (strOf l)).toArray)).modify 4 (setC (debL.map (Value.int .u8)).toArray)).modify 5 (setC (pow10L.map (Value.int .u64)).toArray)).modify 6 (setC (deb32L.map (Value.int .u8)).toArray) }
theorem own:ownKnob Tryz.prog.godebug=none:=by kernel_rfl
theorem laidOut:laidOutB Tryz.prog=true:=by kernel_rfl
theorem all_mem {α:Type} {l:List α} {q:α→Bool} (h:l.all q=true) {x:α} (hx:x∈l):q x=true:=List.all_eq_true.1 h x hx
theorem tabs_ghost {W:World} {L:List (String×DataW Unit)} (hL:laidMetH Tryz.prog L W) (he:L=[("math/bits.deBruijn32tab",YtellgkgedepkjaaGreatDoor.Rows.laid_math_bits_deBruijn32tab),("math/bits.deBruijn64tab",YtellgkgedepkjaaGreatDoor.Rows.laid_math_bits_deBruijn64tab),("internal/strconv.uint64pow10",YtellgkgedepkjaaGreatDoor.Rows.laid_internal_strconv_uint64pow10),("bonsai/tree.counts",YtellgkgedepkjaaGreatDoor.Rows.laid_bonsai_tree_counts),("bonsai/print.counts",YtellgkgedepkjaaGreatDoor.Rows.laid_bonsai_print_counts),("bonsai/print.signs",YtellgkgedepkjaaGreatDoor.Rows.laid_bonsai_print_signs)]):Tabs (ghost W) debL:=by
 subst he
 exact tabs_of_laid (rest:=[]) hL
structure NdW (I:GH) (d:Nd):Prop where
 k:0≤d.k∧d.k < 256
 s0:u64ok d.s0
 s1:u64ok d.s1
 s2:u64ok d.s2
 s3:u64ok d.s3
 lo:i64ok d.lo
 hi:i64ok d.hi
 rs:RS I d.ka d.kn d.kc 1 0 (d.kids.map (.int .i64 ·))
 kids:∀ x∈d.kids,i64ok x
 ts:d.t.size≤9223372036854775807
structure TrW (I:GH) (t:Tr):Prop where
 rs:RS I t.a t.n t.c 9 0 (t.ns.flatMap Nd.cells)
 ns:∀ d∈t.ns,NdW I d
 root:i64ok t.root
structure DfW (I:GH) (d:Df):Prop where
 name:d.name.size≤9223372036854775807
 t:TrW I d.t
structure GrW (I:GH) (g:Gr):Prop where
 rs:RS I g.a g.n g.c 3 0 (g.ds.flatMap Df.cells)
 ds:∀ d∈g.ds,DfW I d
theorem RS.big {I:GH} {a:Option Addr} {n c size b b':Nat} {vs:List Value} (h:RS I a n c size b vs) (hb:n * b'≤140737488355328):RS I a n c size b' vs:=⟨h.len,⟨h.cap.1,hb⟩,h.rd⟩
structure NdSmall (d:Nd):Prop where
 kn:d.kn < 2500
structure DfSmall (d:Df):Prop where
 name:d.name.size < 2500
 n:d.t.n < 2500
 ns:∀ nd∈d.t.ns,NdSmall nd
structure GrSmall (g:Gr):Prop where
 n:g.n < 2500
 ds:∀ d∈g.ds,DfSmall d
theorem NdW.ok {I:GH} {d:Nd} (h:NdW I d) (hs:NdSmall d):d.ok I:=
 ⟨h.k,h.s0,h.s1,h.s2,h.s3,h.ts,h.lo,h.hi,h.rs.big (by have:=hs.kn;omega),h.kids⟩
theorem DfW.ok {I:GH} {d:Df} (h:DfW I d) (hs:DfSmall d):d.ok I:=
 ⟨by have:=hs.name;omega,⟨h.t.rs.big (by have:=hs.n;omega),fun nd hnd=>(h.t.ns nd hnd).ok (hs.ns nd hnd),h.t.root⟩⟩
theorem GrW.ok {I:GH} {g:Gr} (h:GrW I g) (hs:GrSmall g):g.ok I:=
 ⟨h.rs.big (by have:=hs.n;omega),fun d hd=>(h.ds d hd).ok (hs.ds d hd)⟩
theorem NdW.mono {I I':GH} {d:Nd} (h:NdW I d) (hI:∀ b o,I b=some o→I' b=some o):NdW I' d:={ h with rs:=h.rs.mono hI }
theorem DfW.mono {I I':GH} {d:Df} (h:DfW I d) (hI:∀ b o,I b=some o→I' b=some o):DfW I' d:=⟨h.name,h.t.rs.mono hI,fun nd hnd=>(h.t.ns nd hnd).mono hI,h.t.root⟩
theorem GrW.mono {I I':GH} {g:Gr} (h:GrW I g) (hI:∀ b o,I b=some o→I' b=some o):GrW I' g:=⟨h.rs.mono hI,fun d hd=>(h.ds d hd).mono hI⟩
theorem GrW.n {I:GH} {g:Gr} (h:GrW I g):g.ds.length=g.n:=by
 have:=h.rs.len
 rw[flat_len _ 3 Df.cells_len] at this
 omega
theorem TrW.n {I:GH} {t:Tr} (h:TrW I t):t.ns.length=t.n:=by
 have:=h.rs.len
 rw[flat_len _ 9 Nd.cells_len] at this
 omega
theorem wr_eq {x r:Int} (h:x=r) (hr:-9223372036854775808≤r∧r≤9223372036854775807):IntKind.i64.wrap x=r:=by
 rw[h]
 exact wrap_i64 hr
theorem OS.rdI {I:GH} {M:List Blk} {os:OS} {l:List Int} {e:Nat} (h:os.ok 1 (l.map (.int .i64 ·))) (hM:∀ x∈os.blk e,x∈M) {j:Nat} (hj:j < l.length) :
  ∃ ad,(os.a.map fun g=>(⟨g,0,none⟩:Addr))=some ad∧Rd I M (ad.add (j * 1)) 1 [.int .i64 l[j]]:=by
 obtain⟨a,n,c,cur⟩:=os
 have hl:=h.len1
 simp only at hl
 cases a with
 | none=>have:=(h.nil rfl).1;simp only at this;omega
 | some g=>
  obtain⟨h1,h2,h3,h4⟩:=h.cap g rfl
  simp only at h1 h2 h4
  refine⟨⟨g,0,none⟩,rfl,?_⟩
  rw[addr_add _ rfl]
  refine⟨rfl,_,_,_,.inr ⟨⟨g,.cells cur.toArray e (0,0)⟩,hM _ (by simp[OS.blk]),rfl,rfl⟩,?_,rfl⟩
  simp only[Nat.zero_add,Nat.mul_one]
  have hj':j < (l.map (Value.int .i64)).length:=by simpa using hj
  have e1:(cur.take (n * 1))[j]?=some (.int .i64 l[j]):=by
   rw[h4]
   simp[hj]
  rw[List.getElem?_take] at e1
  have hjn:j < n * 1:=by omega
  rw[if_pos hjn] at e1
  have hjc:j < cur.length:=(List.getElem?_eq_some_iff.1 e1).1
  rw[List.drop_eq_getElem_cons hjc,List.take_succ_cons,List.take_zero]
  rw[List.getElem?_eq_getElem hjc] at e1
  rw[Option.some.inj e1]
end Go.V
