/-
  Walks: bits.TrailingZeros64, set.Not, set.All, set.each, set.Runs.
-/
import Derived.Test.YtcccmnppfmfkiaaDoorW6
set_option linter.unusedVariables false
set_option linter.unusedSimpArgs false
namespace Go.V
open Go Go.Proofs

/-! ### Words -/
theorem wrap_u64 (x : Int) : u64ok (IntKind.u64.wrap x) := by
  unfold IntKind.wrap u64ok
  simp only [IntKind.bits, IntKind.signed]
  simp
  omega
theorem wrap_u8 (x : Int) : 0 ≤ IntKind.u8.wrap x ∧ IntKind.u8.wrap x < 256 := by
  unfold IntKind.wrap
  simp only [IntKind.bits, IntKind.signed]
  simp
  omega
theorem wrap_u64_id {x : Int} (h : u64ok x) : IntKind.u64.wrap x = x := by
  obtain ⟨h1, h2⟩ := h
  unfold IntKind.wrap
  simp only [IntKind.bits, IntKind.signed]
  simp
  omega
/-- The table of de Bruijn's that bits.TrailingZeros64 reads. -/
def HasDeb (I : GH) (deb : List Int) : Prop := deb.length = 64 ∧ (∀ x ∈ deb, 0 ≤ x ∧ x < 256) ∧ ∃ T fr, I 3 = some (.cells (deb.map (Value.int .u8)).toArray T fr)
theorem HasDeb.rd {I : GH} {deb : List Int} (h : HasDeb I deb) (M : List Blk) {j : Nat} (hj : j < 64) : Rd I M (Addr.add ⟨3, 0, none⟩ (j * 1)) 1 [.int .u8 (deb.getD j 0)] := by
  obtain ⟨hl, _, T, fr, h⟩ := h
  rw [addr_add _ rfl]
  refine ⟨rfl, _, T, fr, .inl h, ?_, rfl⟩
  have h1 : j < (deb.map (Value.int .u8)).length := by simp [hl, hj]
  have h2 : j < deb.length := by omega
  simp only [Nat.zero_add, Nat.mul_one]
  rw [List.drop_eq_getElem_cons h1, List.take_succ_cons, List.take_zero]
  simp [List.getD_eq_getElem?_getD, h2]
theorem HasDeb.at {I : GH} {deb : List Int} (h : HasDeb I deb) (j : Nat) : 0 ≤ deb.getD j 0 ∧ deb.getD j 0 < 256 := by
  rw [List.getD_eq_getElem?_getD]
  by_cases hj : j < deb.length
  · rw [List.getElem?_eq_getElem hj]
    exact h.2.1 _ (List.getElem_mem hj)
  · simp [hj]

def andV (x y : Int) : Int := IntKind.u64.wrap (BitVec.ofInt 64 x &&& BitVec.ofInt 64 y).toNat
def tzA (x : Int) : Int := IntKind.u64.wrap (andV x (IntKind.u64.wrap (0 - x)) * 285870213051353865)
def tz64 (deb : List Int) (x : Int) : Int := bif decide (x = 0) then 64 else deb.getD ((tzA x).toNat / 2 ^ 58) 0
theorem tz64_ok {I : GH} {deb : List Int} (h : HasDeb I deb) (x : Int) : 0 ≤ tz64 deb x ∧ tz64 deb x < 256 := by
  unfold tz64
  cases decide (x = 0)
  · exact h.at _
  · simp

theorem TZ_spec {I : GH} {deb : List Int} (hb : HasDeb I deb) (x : Int) : Spec Tryd.prog 110 [.int .u64 x] I [] fun r I' M' => r = .int .i64 (tz64 deb x) ∧ I' = I ∧ M' = [] := by
  refine spec_of_V [] TrydEOK Tryd.func110 rfl rfl rfl ?_
  intro B h0
  refine CondOb.mk (fun h => ?_) (fun h => ?_)
  · refine ⟨_, _, .refl, ?_, rfl, rfl⟩
    simp only [tz64, h]
    rfl
  · have ha := wrap_u64 (andV x (IntKind.u64.wrap (0 - x)) * 285870213051353865)
    refine ArithOb.mk _ rfl ?_
    refine ArithOb.mk (tzA x) rfl ?_
    refine ShOb.mk 58 rfl ?_
    have e1 : ((2 : Int) ^ (min 58 IntKind.u64.bits)) = 2 ^ 58 := by decide
    rw [e1]
    obtain ⟨p1, p2⟩ := ha
    have e2 : (tzA x).fdiv (2 ^ 58) = (((tzA x).toNat / 2 ^ 58 : Nat) : Int) := by
      rw [Int.fdiv_eq_ediv_of_nonneg _ (by decide)]
      have : tzA x = ((tzA x).toNat : Int) := (Int.toNat_of_nonneg p1).symm
      omega
    rw [e2]
    have hj : (tzA x).toNat / 2 ^ 58 < 64 := by
      have : tzA x < 18446744073709551616 := p2
      omega
    refine ArrOb.mk ((tzA x).toNat / 2 ^ 58) rfl hj ?_
    refine LoadOb.mk [.int .u8 (deb.getD ((tzA x).toNat / 2 ^ 58) 0)] (hb.rd _ hj) ?_
    have hd := hb.at ((tzA x).toNat / 2 ^ 58)
    refine ArithOb.mk (deb.getD ((tzA x).toNat / 2 ^ 58) 0) (wrap_i64 ⟨by omega, by omega⟩) ?_
    refine ⟨_, _, .refl, ?_, rfl, rfl⟩
    simp only [tz64, h]
    rfl

/-! ### Not, All -/
def notC (a b c d : Int) : Nat → List Value
  | 0 => [.int .u64 (a), .int .u64 (b), .int .u64 (c), .int .u64 (d)]
  | 1 => [.int .u64 (notV a), .int .u64 (b), .int .u64 (c), .int .u64 (d)]
  | 2 => [.int .u64 (notV a), .int .u64 (notV b), .int .u64 (c), .int .u64 (d)]
  | 3 => [.int .u64 (notV a), .int .u64 (notV b), .int .u64 (notV c), .int .u64 (d)]
  | _ => [.int .u64 (notV a), .int .u64 (notV b), .int .u64 (notV c), .int .u64 (notV d)]
theorem Not_spec {I : GH} (a b c d : Int) : Spec Tryd.prog 105 [.agg #[.int .u64 a, .int .u64 b, .int .u64 c, .int .u64 d]] I [] fun r I' M' => r = .agg #[.int .u64 (notV a), .int .u64 (notV b), .int .u64 (notV c), .int .u64 (notV d)] ∧ I' = I ∧ M' = [] := by
  refine spec_of_V [] TrydEOK Tryd.func105 rfl rfl rfl ?_
  intro B h0
  refine LoopOb.inv (ι := Nat) (fun i => { fl := [(1, .ref 1 0), (2, .ref 2 0), (5, .val (.agg #[.int .u64 a, .int .u64 b, .int .u64 c, .int .u64 d])), (6, .val (.int .i64 i))], cl := [(1, notC a b c d i), (2, [.int .u64 0, .int .u64 0, .int .u64 0, .int .u64 0])], gi := I }) (fun i => i ≤ 4) (fun i => 4 - i) ?_ ?_
  · exact ⟨0, by simp, .refl, .cons .refl (.cons .refl (.cons .refl (.cons .refl .nil))), .cons rfl (.cons rfl .nil)⟩
  · intro i hi
    match i, hi with
    | 0, _ =>
      refine CondOb.mk (fun _ => ?_) (fun h => by simp at h)
      refine ArrOb.mk 0 rfl (by decide) ?_
      refine OtherOb.notU rfl (by simp) rfl ?_
      refine ArrOb.mk 0 rfl (by decide) ?_
      refine ArithOb.mk 1 (by decide) ?_
      exact ⟨1, ⟨by simp, by simp⟩, .refl, .cons .refl (.cons .refl (.cons .refl (.cons .refl .nil))), .cons rfl (.cons rfl .nil)⟩
    | 1, _ =>
      refine CondOb.mk (fun _ => ?_) (fun h => by simp at h)
      refine ArrOb.mk 1 rfl (by decide) ?_
      refine OtherOb.notU rfl (by simp) rfl ?_
      refine ArrOb.mk 1 rfl (by decide) ?_
      refine ArithOb.mk 2 (by decide) ?_
      exact ⟨2, ⟨by simp, by simp⟩, .refl, .cons .refl (.cons .refl (.cons .refl (.cons .refl .nil))), .cons rfl (.cons rfl .nil)⟩
    | 2, _ =>
      refine CondOb.mk (fun _ => ?_) (fun h => by simp at h)
      refine ArrOb.mk 2 rfl (by decide) ?_
      refine OtherOb.notU rfl (by simp) rfl ?_
      refine ArrOb.mk 2 rfl (by decide) ?_
      refine ArithOb.mk 3 (by decide) ?_
      exact ⟨3, ⟨by simp, by simp⟩, .refl, .cons .refl (.cons .refl (.cons .refl (.cons .refl .nil))), .cons rfl (.cons rfl .nil)⟩
    | 3, _ =>
      refine CondOb.mk (fun _ => ?_) (fun h => by simp at h)
      refine ArrOb.mk 3 rfl (by decide) ?_
      refine OtherOb.notU rfl (by simp) rfl ?_
      refine ArrOb.mk 3 rfl (by decide) ?_
      refine ArithOb.mk 4 (by decide) ?_
      exact ⟨4, ⟨by simp, by simp⟩, .refl, .cons .refl (.cons .refl (.cons .refl (.cons .refl .nil))), .cons rfl (.cons rfl .nil)⟩
    | 4, _ =>
      refine CondOb.mk (fun h => by simp at h) (fun _ => ?_)
      exact ⟨_, _, .refl, rfl, rfl, rfl⟩
theorem All_spec {I : GH} : Spec Tryd.prog 100 [] I [] fun r I' M' => r = .agg #[.int .u64 (notV 0), .int .u64 (notV 0), .int .u64 (notV 0), .int .u64 (notV 0)] ∧ I' = I ∧ M' = [] := by
  refine spec_of_V [] TrydEOK Tryd.func100 rfl rfl rfl ?_
  intro B h0
  refine CallOb.mk [] [] _ (.refl _) (Not_spec 0 0 0 0) ?_
  rintro v I' M' - ⟨rfl, rfl, rfl⟩
  exact ⟨_, _, .refl, rfl, rfl, rfl⟩
end Go.V
