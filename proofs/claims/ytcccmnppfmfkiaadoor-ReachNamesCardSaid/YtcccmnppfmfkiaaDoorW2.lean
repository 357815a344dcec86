/-
  Walks: tree.Fits, tree.Right.
-/
import Derived.Test.YtcccmnppfmfkiaaDoorW1
set_option linter.unusedVariables false
set_option linter.unusedSimpArgs false
namespace Go.V
open Go Go.Proofs

def countsL : List Int := [0, 0, 0, 0, 0, 0, 0, 0, 2, -1, 2, -1, 1, 1, 1, 1, 1, 1, 1, 1]
def cntLo (k : Nat) : Int := countsL.getD (k * 2) 0
def cntHi (k : Nat) : Int := countsL.getD (k * 2 + 1) 0
/-- The table that tree.Fits reads. -/
def HasCounts (I : GH) : Prop := ∃ T fr, I 0 = some (.cells (countsL.map (Value.int .i64)).toArray T fr)

theorem HasCounts.rd {I : GH} (h : HasCounts I) (M : List Blk) {j : Nat} (hj : j < 20) : Rd I M (Addr.add ⟨0, 0, none⟩ j) 1 [.int .i64 (countsL.getD j 0)] := by
  obtain ⟨T, fr, h⟩ := h
  rw [addr_add _ rfl]
  refine ⟨rfl, _, T, fr, .inl h, ?_, rfl⟩
  simp only [Nat.zero_add]
  have : ∀ j : Fin 20, (((countsL.map (Value.int .i64)).toArray.toList.drop j.val).take 1) = [Value.int .i64 (countsL.getD j.val 0)] := by
    intro j
    have h1 : j.val < (countsL.map (Value.int .i64)).length := by simp [countsL]
    rw [List.toList_toArray, List.drop_eq_getElem_cons h1, List.take_succ_cons, List.take_zero]
    have h2 : j.val < countsL.length := by simp [countsL]
    simp [List.getD_eq_getElem?_getD, h2]
  exact this ⟨j, hj⟩

theorem HasCounts.rd2 {I : GH} (h : HasCounts I) (M : List Blk) {i j : Nat} (hj : i + j < 20) : Rd I M ((Addr.add ⟨0, 0, none⟩ i).add j) 1 [.int .i64 (countsL.getD (i + j) 0)] := by
  have e : (Addr.add ⟨0, 0, none⟩ i).add j = Addr.add ⟨0, 0, none⟩ (i + j) := by
    rw [addr_add ⟨_, 0, none⟩ rfl i, addr_add _ rfl j, addr_add _ rfl (i + j)]
    simp
  rw [e]
  exact h.rd M hj

def Nd.setZ (d : Nd) : Bool := d.s0 == 0 && (d.s1 == 0 && (d.s2 == 0 && d.s3 == 0))
def fits (d : Nd) (n : Int) : Bool :=
  bif decide (10 ≤ d.k) then false else
  bif decide (n < cntLo d.k.toNat) || (decide (0 ≤ cntHi d.k.toNat) && decide (cntHi d.k.toNat < n)) then false else
  bif decide (d.k = 1) then decide (d.t = ⟨#[]⟩) && (decide (d.lo = 0) && decide (d.hi = 0)) else
  bif decide (d.k = 2) then (!(decide (d.t = ⟨#[]⟩) || decide (255 < d.t.size))) && (d.setZ && (decide (d.lo = 0) && decide (d.hi = 0))) else
  bif decide (d.k = 3) || decide (d.k = 9) then mayName d.t && (d.setZ && (decide (d.lo = 0) && decide (d.hi = 0))) else
  bif decide (d.k = 6) then (!(decide (d.lo < 0) || (decide (99 < d.lo) || (decide (d.hi ≠ -1) && (decide (d.hi < d.lo) || decide (99 < d.hi)))))) && (d.setZ && decide (d.t = ⟨#[]⟩)) else
  d.setZ && (decide (d.t = ⟨#[]⟩) && (decide (d.lo = 0) && decide (d.hi = 0)))

set_option maxHeartbeats 4000000 in
set_option maxRecDepth 20000 in
theorem Fits_spec {I : GH} (hc : HasCounts I) {d : Nd} (hd : d.ok I) (n : Int) : Spec Tryd.prog 62 [d.val, .int .i64 n] I [] (fun v I' M' => v = .bool (fits d n) ∧ I' = I ∧ M' = []) := by
  refine spec_of_V [] TrydEOK Tryd.func62 rfl rfl rfl ?_
  intro B h0
  have hk := hd.k
  refine ArithOb.mk d.k (by unfold IntKind.wrap; simp [IntKind.bits, IntKind.signed]; omega) ?_
  refine CondOb.mk (fun h => ?_) (fun h => ?_)
  · refine ⟨_, _, .refl, ?_, rfl, rfl⟩
    simp at h
    simp [fits, h]
  · have h10 : d.k < 10 := by simpa using h
    have hj : d.k = ((d.k.toNat : Nat) : Int) := by omega
    have hj10 : d.k.toNat < 10 := by omega
    refine CodeOb.draw TrydEOK rfl rfl rfl ?_
    refine ArrOb.mk d.k.toNat hj hj10 ?_
    refine ArrOb.mk 0 rfl (by omega) ?_
    refine LoadOb.mk [.int .i64 (cntLo d.k.toNat)] (hc.rd _ (j := d.k.toNat * 2) (by omega)) ?_
    refine ArrOb.mk d.k.toNat hj hj10 ?_
    refine ArrOb.mk 1 rfl (by omega) ?_
    refine LoadOb.mk [.int .i64 (cntHi d.k.toNat)] (hc.rd2 _ (i := d.k.toNat * 2) (j := 1) (by omega)) ?_
    repeat' first
      | refine GuardOb.mk (fun h => ?_) (fun h => ?_)
      | refine CondOb.mk (fun h => ?_) (fun h => ?_)
      | refine BinOb.eq4 TrydEOK (e := 27) rfl rfl rfl rfl (by kernel_rfl) ?_
      | (refine CallOb.mk [] [] _ (.refl _) (NMay_spec _ _) ?_; rintro v I' M' - ⟨rfl, rfl, rfl⟩)
    all_goals refine ⟨_, _, .refl, ?_⟩
    all_goals refine ⟨?_, rfl, rfl⟩
    all_goals clear hc hd hj
    all_goals (first | (simp_all [fits, Nd.setZ]; done) | (simp_all [fits, Nd.setZ]; omega) | (simp_all [fits, Nd.setZ]; rw [Bool.eq_iff_iff]; simp; omega))
end Go.V
