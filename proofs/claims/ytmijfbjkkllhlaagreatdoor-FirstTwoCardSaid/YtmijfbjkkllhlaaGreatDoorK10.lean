/-
  Part 10 of what the proofs of this seat share: the executor, data in memory, walks.
-/
import Derived.Test.YtmijfbjkkllhlaaGreatDoorK8
import Derived.Test.YtmijfbjkkllhlaaGreatDoorK9

/-
  References: sets by the document's words: with, Or, Range, Subset.
-/
set_option linter.unusedVariables false
set_option linter.unusedSimpArgs false
namespace Go.V
open Go Go.Proofs

/-! ### Plain: bytes of a set -/
def Ws.has (w : Ws) (n : Nat) : Bool := (w.at (n / 64)).getLsbD (n % 64)
theorem Ws.at0 (w : Ws) : w.at 0 = w.a := rfl
theorem Ws.at1 (w : Ws) : w.at 1 = w.b := rfl
theorem Ws.at2 (w : Ws) : w.at 2 = w.c := rfl
theorem Ws.at3 (w : Ws) : w.at 3 = w.d := rfl
theorem Ws.ints (w : Ws) : ∀ x ∈ [(w.a.toNat : Int), (w.b.toNat : Int), (w.c.toNat : Int), (w.d.toNat : Int)], u64ok x := by
  have h1 := w.a.isLt
  have h2 := w.b.isLt
  have h3 := w.c.isLt
  have h4 := w.d.isLt
  intro x hx
  simp only [List.mem_cons, List.not_mem_nil, or_false] at hx
  unfold u64ok
  rcases hx with rfl | rfl | rfl | rfl <;> omega
theorem hasR_ws (w : Ws) {n : Nat} (h : n < 256) : hasR [(w.a.toNat : Int), (w.b.toNat : Int), (w.c.toNat : Int), (w.d.toNat : Int)] n = w.has n := by
  unfold hasR Ws.has
  rcases (by omega : n / 64 = 0 ∨ n / 64 = 1 ∨ n / 64 = 2 ∨ n / 64 = 3) with hj | hj | hj | hj <;> rw [hj]
  · rw [Ws.at0]; rfl
  · rw [Ws.at1]; rfl
  · rw [Ws.at2]; rfl
  · rw [Ws.at3]; rfl
theorem Ws.ext_has {x y : Ws} (h : ∀ n, n < 256 → x.has n = y.has n) : x = y := by
  have key : ∀ j, j < 4 → x.at j = y.at j := fun j hj => by
    apply BitVec.eq_of_getLsbD_eq
    intro i hi
    have := h (j * 64 + i) (by omega)
    unfold Ws.has at this
    rwa [show (j * 64 + i) / 64 = j by omega, show (j * 64 + i) % 64 = i by omega] at this
  exact Ws.ext' (key 0 (by decide)) (key 1 (by decide)) (key 2 (by decide)) (key 3 (by decide))
theorem Ws.at_or (x y : Ws) (j : Nat) : (x.or y).at j = x.at j ||| y.at j := by
  unfold Ws.at
  cases decide (j = 0) <;> cases decide (j = 1) <;> cases decide (j = 2) <;> rfl
theorem Ws.has_or (x y : Ws) (n : Nat) : (x.or y).has n = (x.has n || y.has n) := by
  unfold Ws.has
  rw [Ws.at_or, BitVec.getLsbD_or]
theorem Ws.has_zero (n : Nat) : Ws.zero.has n = false := by
  unfold Ws.has Ws.at Ws.zero
  cases decide (n / 64 = 0) <;> cases decide (n / 64 = 1) <;> cases decide (n / 64 = 2) <;> simp
theorem Ws.at_one {i : Nat} (x : BitVec 64) {j : Nat} (hj : j < 4) : (Ws.one i x).at j = if j = i then x else 0 := by
  unfold Ws.at Ws.one
  rcases (by omega : j = 0 ∨ j = 1 ∨ j = 2 ∨ j = 3) with rfl | rfl | rfl | rfl
  · by_cases h : i = 0 <;> simp [h]; omega
  · by_cases h : i = 1 <;> simp [h]; omega
  · by_cases h : i = 2 <;> simp [h]; omega
  · by_cases h : i = 3 <;> simp [h]; omega
theorem one_shl (k i : Nat) (hk : k < 64) (hi : i < 64) : (1#64 <<< k).getLsbD i = decide (i = k) := by
  rw [BitVec.getLsbD_shiftLeft, Bool.eq_iff_iff]
  simp only [hi, decide_true, Bool.true_and, Bool.and_eq_true, Bool.not_eq_true', decide_eq_false_iff_not, decide_eq_true_eq, BitVec.getLsbD_one]
  omega
theorem has_byte (b : UInt8) {n : Nat} (h : n < 256) : (byteW b).has n = decide (n = b.toNat) := by
  have hb := b.toNat_lt
  unfold Ws.has byteW
  rw [Ws.at_one _ (by omega)]
  by_cases e : n / 64 = b.toNat / 64
  · rw [if_pos e, one_shl _ _ (by omega) (by omega), Bool.eq_iff_iff, decide_eq_true_eq, decide_eq_true_eq]
    omega
  · rw [if_neg e]
    have : ¬ n = b.toNat := fun h => e (by rw [h])
    simp [this]
theorem Ws.or_in {w : Ws} {b : UInt8} (h : w.has b.toNat = true) : w.or (byteW b) = w := by
  refine Ws.ext_has fun n hn => ?_
  rw [Ws.has_or, has_byte b hn]
  by_cases e : n = b.toNat
  · subst e
    simp [h]
  · simp [e]
def fromP (p : Nat → Bool) : Nat → Ws
  | 0 => .zero
  | n + 1 => bif p n then (fromP p n).or (byteW (UInt8.ofNat n)) else fromP p n
theorem fromP_has (p : Nat → Bool) {m : Nat} (hm : m < 256) : ∀ n, n ≤ 256 → (fromP p n).has m = (decide (m < n) && p m)
  | 0, _ => by rw [fromP, Ws.has_zero]; simp
  | n + 1, hn => by
    have ih := fromP_has p hm n (by omega)
    rw [fromP]
    cases hp : p n with
    | false =>
      simp only [cond_false, ih]
      by_cases e : m = n
      · subst e
        simp [hp]
      · congr 1
        rw [Bool.eq_iff_iff, decide_eq_true_eq, decide_eq_true_eq]
        omega
    | true =>
      simp only [cond_true, Ws.has_or, ih, has_byte _ hm, u8nat (show n < 256 by omega)]
      by_cases e : m = n
      · subst e
        simp [hp]
      · have h1 : decide (m = n) = false := decide_eq_false e
        rw [h1, Bool.or_false]
        congr 1
        rw [Bool.eq_iff_iff, decide_eq_true_eq, decide_eq_true_eq]
        omega
theorem fromP_eq {p : Nat → Bool} {w : Ws} (h : ∀ n, n < 256 → p n = w.has n) : fromP p 256 = w := Ws.ext_has fun n hn => by
  rw [fromP_has p hn 256 (Nat.le_refl _), h n hn, decide_eq_true hn, Bool.true_and]

/-! ### with -/
theorem RHas_w {I : GH} (w : Ws) (b : UInt8) : Spec Tryz.prog 126 [w.val, .int .u8 b.toNat] I [] fun v I' M' => v = .bool (w.has b.toNat) ∧ I' = I ∧ M' = [] := by
  have h := RHas_spec (I := I) w.ints b
  rwa [hasR_ws w b.toNat_lt] at h
theorem add_bit {w : BitVec 64} {k : Nat} (hk : k < 64) (h : w.getLsbD k = false) : IntKind.u64.wrap ((w.toNat : Int) + ((2 ^ k : Nat) : Int)) = ((w ||| (1#64 <<< k)).toNat : Int) := by
  have hz : w &&& (1#64 <<< k) = 0#64 := by
    apply BitVec.eq_of_getLsbD_eq
    intro i hi
    rw [BitVec.getLsbD_and, one_shl k i hk hi]
    by_cases e : i = k
    · subst e
      simp [h]
    · simp [e]
  have h1 : (1#64 <<< k).toNat = 2 ^ k := by
    rw [BitVec.toNat_shiftLeft, Nat.shiftLeft_eq]
    have : 2 ^ k < 2 ^ 64 := Nat.pow_lt_pow_right (by decide) hk
    simp only [BitVec.toNat_ofNat]
    rw [Nat.mod_eq_of_lt (by decide : 1 < 2 ^ 64), Nat.one_mul]
    exact Nat.mod_eq_of_lt this
  rw [← BitVec.add_eq_or_of_and_eq_zero _ _ hz, BitVec.toNat_add, h1]
  unfold IntKind.wrap
  simp only [IntKind.bits, IntKind.signed]
  simp
set_option maxHeartbeats 1000000 in
theorem RWith_spec {I : GH} (w : Ws) (b : UInt8) : Spec Tryz.prog 127 [w.val, .int .u8 b.toNat] I [] fun v I' M' => v = (w.or (byteW b)).val ∧ I' = I ∧ M' = [] := by
  have hx := b.toNat_lt
  have hpw := RPower_spec (I := I) (b.toNat % 64) (by omega)
  have em : ((b.toNat : Int)).tmod 64 = ((b.toNat % 64 : Nat) : Int) := rfl
  have ed : ((b.toNat : Int)).tdiv 64 = ((b.toNat / 64 : Nat) : Int) := rfl
  refine spec_of_V [] TryzEOK Tryz.func127 rfl rfl rfl ?_
  intro B h0
  refine CallOb.mk [] [] _ (.refl _) (RHas_w w b) ?_
  rintro v I' M' - ⟨rfl, rfl, rfl⟩
  refine CondOb.mk (fun h => ?_) (fun h => ?_)
  rotate_left
  · have hh : w.has b.toNat = true := by simpa using h
    rw [Ws.or_in hh]
    exact ⟨_, _, .refl, rfl, rfl, rfl⟩
  have hh : w.has b.toNat = false := by simpa using h
  have hk : ∀ j, b.toNat / 64 = j → (w.at j).getLsbD (b.toNat % 64) = false := fun j hj => by rw [← hj]; exact hh
  refine CodeOb.draw TryzEOK rfl rfl rfl ?_
  refine ArithOb.mk (b.toNat : Int) (wrap_i64 ⟨by omega, by omega⟩) ?_
  refine DivOb.mk (by decide) ?_
  rcases (by omega : b.toNat / 64 = 0 ∨ b.toNat / 64 = 1 ∨ b.toNat / 64 = 2 ∨ b.toNat / 64 = 3) with hj | hj | hj | hj
  · refine ArithOb.mk 0 (by rw [ed, hj]; decide) ?_
    refine ArithOb.mk (b.toNat : Int) (wrap_i64 ⟨by omega, by omega⟩) ?_
    refine DivOb.mk (by decide) ?_
    refine ArithOb.mk 0 (by rw [ed, hj]; decide) ?_
    refine ArrOb.mk 0 rfl (by decide) ?_
    refine ArithOb.mk (b.toNat : Int) (wrap_i64 ⟨by omega, by omega⟩) ?_
    refine DivOb.mk (by decide) ?_
    refine PCallOb.mk _ hpw ?_
    rintro v J N - ⟨rfl, rfl, rfl⟩
    refine ArithOb.mk _ (add_bit (w := w.a) (by omega) (hk 0 hj)) ?_
    refine ArrOb.mk 0 rfl (by decide) ?_
    refine ⟨_, _, .refl, ?_, rfl, rfl⟩
    rw [show byteW b = Ws.one 0 (1#64 <<< (b.toNat % 64)) by rw [byteW, hj]]
    simp [Ws.val, Ws.or, Ws.one]
    try rfl
  · refine ArithOb.mk 1 (by rw [ed, hj]; decide) ?_
    refine ArithOb.mk (b.toNat : Int) (wrap_i64 ⟨by omega, by omega⟩) ?_
    refine DivOb.mk (by decide) ?_
    refine ArithOb.mk 1 (by rw [ed, hj]; decide) ?_
    refine ArrOb.mk 1 rfl (by decide) ?_
    refine ArithOb.mk (b.toNat : Int) (wrap_i64 ⟨by omega, by omega⟩) ?_
    refine DivOb.mk (by decide) ?_
    refine PCallOb.mk _ hpw ?_
    rintro v J N - ⟨rfl, rfl, rfl⟩
    refine ArithOb.mk _ (add_bit (w := w.b) (by omega) (hk 1 hj)) ?_
    refine ArrOb.mk 1 rfl (by decide) ?_
    refine ⟨_, _, .refl, ?_, rfl, rfl⟩
    rw [show byteW b = Ws.one 1 (1#64 <<< (b.toNat % 64)) by rw [byteW, hj]]
    simp [Ws.val, Ws.or, Ws.one]
    try rfl
  · refine ArithOb.mk 2 (by rw [ed, hj]; decide) ?_
    refine ArithOb.mk (b.toNat : Int) (wrap_i64 ⟨by omega, by omega⟩) ?_
    refine DivOb.mk (by decide) ?_
    refine ArithOb.mk 2 (by rw [ed, hj]; decide) ?_
    refine ArrOb.mk 2 rfl (by decide) ?_
    refine ArithOb.mk (b.toNat : Int) (wrap_i64 ⟨by omega, by omega⟩) ?_
    refine DivOb.mk (by decide) ?_
    refine PCallOb.mk _ hpw ?_
    rintro v J N - ⟨rfl, rfl, rfl⟩
    refine ArithOb.mk _ (add_bit (w := w.c) (by omega) (hk 2 hj)) ?_
    refine ArrOb.mk 2 rfl (by decide) ?_
    refine ⟨_, _, .refl, ?_, rfl, rfl⟩
    rw [show byteW b = Ws.one 2 (1#64 <<< (b.toNat % 64)) by rw [byteW, hj]]
    simp [Ws.val, Ws.or, Ws.one]
    try rfl
  · refine ArithOb.mk 3 (by rw [ed, hj]; decide) ?_
    refine ArithOb.mk (b.toNat : Int) (wrap_i64 ⟨by omega, by omega⟩) ?_
    refine DivOb.mk (by decide) ?_
    refine ArithOb.mk 3 (by rw [ed, hj]; decide) ?_
    refine ArrOb.mk 3 rfl (by decide) ?_
    refine ArithOb.mk (b.toNat : Int) (wrap_i64 ⟨by omega, by omega⟩) ?_
    refine DivOb.mk (by decide) ?_
    refine PCallOb.mk _ hpw ?_
    rintro v J N - ⟨rfl, rfl, rfl⟩
    refine ArithOb.mk _ (add_bit (w := w.d) (by omega) (hk 3 hj)) ?_
    refine ArrOb.mk 3 rfl (by decide) ?_
    refine ⟨_, _, .refl, ?_, rfl, rfl⟩
    rw [show byteW b = Ws.one 3 (1#64 <<< (b.toNat % 64)) by rw [byteW, hj]]
    simp [Ws.val, Ws.or, Ws.one]
    try rfl
set_option maxHeartbeats 1000000 in
theorem ROr0_spec {I : GH} (x y : Ws) : Spec Tryz.prog 89 [x.val, y.val] I [] fun v I' M' => v = (fromP (fun n => x.has n || y.has n) 256).val ∧ I' = I ∧ M' = [] := by
  refine spec_of_V [] TryzEOK Tryz.func89 rfl rfl rfl ?_
  intro B h0
  refine LoopOb.inv (ι := Nat) (fun i => { fl := [(2, .ref 2 0), (3, .ref 3 0), (4, .ref 4 0), (5, .ref 5 0), (6, .val (.int .i64 i))], cl := [(2, x.cells), (3, y.cells), (4, Ws.zero.cells), (5, (fromP (fun n => x.has n || y.has n) i).cells)], gi := I }) (fun i => i ≤ 256) (fun i => 256 - i) ?_ ?_
  · exact ⟨0, by simp, .refl, .cons .refl (.cons .refl (.cons .refl (.cons .refl (.cons .refl (.nil))))), .cons rfl (.cons rfl (.cons rfl (.cons rfl (.nil))))⟩
  intro i hi
  refine CondOb.mk (fun h => ?_) (fun h => ?_)
  rotate_left
  · have : i = 256 := by have : ¬ (i : Int) < 256 := of_decide_eq_false h; omega
    subst this
    exact ⟨_, _, .refl, rfl, rfl, rfl⟩
  have hlt : i < 256 := by have : (i : Int) < 256 := of_decide_eq_true h; omega
  have e8 := u8wr hlt
  have hb : (UInt8.ofNat i).toNat = i := u8nat hlt
  have hx := RHas_w (I := I) x (UInt8.ofNat i)
  have hy := RHas_w (I := I) y (UInt8.ofNat i)
  rw [hb] at hx hy
  refine ArithOb.mk (i : Int) (by rw [e8, hb]) ?_
  refine CallOb.mk [] [] _ (.refl _) hx ?_
  rintro v I1 M1 - ⟨rfl, rfl, rfl⟩
  refine GuardOb.mk (fun h1 => ?_) (fun h1 => ?_)
  · have h1' : x.has i = false := h1
    refine ArithOb.mk (i : Int) (by rw [e8, hb]) ?_
    refine CallOb.mk [] [] _ (.refl _) hy ?_
    rintro v I1 M1 - ⟨rfl, rfl, rfl⟩
    refine CondOb.mk (fun h2 => ?_) (fun h2 => ?_)
    · have h2' : y.has i = true := h2
      exact (by
      refine ArithOb.mk (i : Int) (by rw [e8, hb]) ?_
      have hw := RWith_spec (I := I1) (fromP (fun n => x.has n || y.has n) i) (UInt8.ofNat i)
      rw [hb] at hw
      refine CallOb.mk [] [] _ (.refl _) hw ?_
      rintro v I2 M2 - ⟨rfl, rfl, rfl⟩
      refine ArithOb.mk _ (next_wr (i := i) (by omega)) ?_
      refine ⟨i + 1, ⟨by omega, by omega⟩, .refl, .cons .refl (.cons .refl (.cons .refl (.cons .refl (.cons .refl (.nil))))), .cons rfl (.cons rfl (.cons rfl (.cons ?_ .nil)))⟩
      have e : (x.has i || y.has i) = true := by rw [h1', h2']; rfl
      simp only [fromP, e, cond_true]
      rfl)
    · have h2' : y.has i = false := h2
      exact (by
      refine ArithOb.mk _ (next_wr (i := i) (by omega)) ?_
      refine ⟨i + 1, ⟨by omega, by omega⟩, .refl, .cons .refl (.cons .refl (.cons .refl (.cons .refl (.cons .refl (.nil))))), .cons rfl (.cons rfl (.cons rfl (.cons ?_ .nil)))⟩
      have e : (x.has i || y.has i) = false := by rw [h1', h2']; rfl
      simp only [fromP, e, cond_false]
      rfl)
  · have h1' : x.has i = true := h1
    exact (by
      refine ArithOb.mk (i : Int) (by rw [e8, hb]) ?_
      have hw := RWith_spec (I := I1) (fromP (fun n => x.has n || y.has n) i) (UInt8.ofNat i)
      rw [hb] at hw
      refine CallOb.mk [] [] _ (.refl _) hw ?_
      rintro v I2 M2 - ⟨rfl, rfl, rfl⟩
      refine ArithOb.mk _ (next_wr (i := i) (by omega)) ?_
      refine ⟨i + 1, ⟨by omega, by omega⟩, .refl, .cons .refl (.cons .refl (.cons .refl (.cons .refl (.cons .refl (.nil))))), .cons rfl (.cons rfl (.cons rfl (.cons ?_ .nil)))⟩
      have e : (x.has i || y.has i) = true := by rw [h1']; rfl
      simp only [fromP, e, cond_true]
      rfl)
set_option maxHeartbeats 1000000 in
theorem RMinus0_spec {I : GH} (x y : Ws) : Spec Tryz.prog 130 [x.val, y.val] I [] fun v I' M' => v = (fromP (fun n => x.has n && !y.has n) 256).val ∧ I' = I ∧ M' = [] := by
  refine spec_of_V [] TryzEOK Tryz.func130 rfl rfl rfl ?_
  intro B h0
  refine LoopOb.inv (ι := Nat) (fun i => { fl := [(2, .ref 2 0), (3, .ref 3 0), (4, .ref 4 0), (5, .ref 5 0), (6, .val (.int .i64 i))], cl := [(2, x.cells), (3, y.cells), (4, Ws.zero.cells), (5, (fromP (fun n => x.has n && !y.has n) i).cells)], gi := I }) (fun i => i ≤ 256) (fun i => 256 - i) ?_ ?_
  · exact ⟨0, by simp, .refl, .cons .refl (.cons .refl (.cons .refl (.cons .refl (.cons .refl (.nil))))), .cons rfl (.cons rfl (.cons rfl (.cons rfl (.nil))))⟩
  intro i hi
  refine CondOb.mk (fun h => ?_) (fun h => ?_)
  rotate_left
  · have : i = 256 := by have : ¬ (i : Int) < 256 := of_decide_eq_false h; omega
    subst this
    exact ⟨_, _, .refl, rfl, rfl, rfl⟩
  have hlt : i < 256 := by have : (i : Int) < 256 := of_decide_eq_true h; omega
  have e8 := u8wr hlt
  have hb : (UInt8.ofNat i).toNat = i := u8nat hlt
  have hx := RHas_w (I := I) x (UInt8.ofNat i)
  have hy := RHas_w (I := I) y (UInt8.ofNat i)
  rw [hb] at hx hy
  refine ArithOb.mk (i : Int) (by rw [e8, hb]) ?_
  refine CallOb.mk [] [] _ (.refl _) hx ?_
  rintro v I1 M1 - ⟨rfl, rfl, rfl⟩
  refine GuardOb.mk (fun h1 => ?_) (fun h1 => ?_)
  · have h1' : x.has i = true := h1
    refine ArithOb.mk (i : Int) (by rw [e8, hb]) ?_
    refine CallOb.mk [] [] _ (.refl _) hy ?_
    rintro v I1 M1 - ⟨rfl, rfl, rfl⟩
    refine CondOb.mk (fun h2 => ?_) (fun h2 => ?_)
    · have h2' : y.has i = false := by simpa using h2
      exact (by
      refine ArithOb.mk (i : Int) (by rw [e8, hb]) ?_
      have hw := RWith_spec (I := I1) (fromP (fun n => x.has n && !y.has n) i) (UInt8.ofNat i)
      rw [hb] at hw
      refine CallOb.mk [] [] _ (.refl _) hw ?_
      rintro v I2 M2 - ⟨rfl, rfl, rfl⟩
      refine ArithOb.mk _ (next_wr (i := i) (by omega)) ?_
      refine ⟨i + 1, ⟨by omega, by omega⟩, .refl, .cons .refl (.cons .refl (.cons .refl (.cons .refl (.cons .refl (.nil))))), .cons rfl (.cons rfl (.cons rfl (.cons ?_ .nil)))⟩
      have e : (x.has i && !y.has i) = true := by rw [h1', h2']; rfl
      simp only [fromP, e, cond_true]
      rfl)
    · have h2' : y.has i = true := by simpa using h2
      exact (by
      refine ArithOb.mk _ (next_wr (i := i) (by omega)) ?_
      refine ⟨i + 1, ⟨by omega, by omega⟩, .refl, .cons .refl (.cons .refl (.cons .refl (.cons .refl (.cons .refl (.nil))))), .cons rfl (.cons rfl (.cons rfl (.cons ?_ .nil)))⟩
      have e : (x.has i && !y.has i) = false := by rw [h1', h2']; rfl
      simp only [fromP, e, cond_false]
      rfl)
  · have h1' : x.has i = false := h1
    exact (by
      refine ArithOb.mk _ (next_wr (i := i) (by omega)) ?_
      refine ⟨i + 1, ⟨by omega, by omega⟩, .refl, .cons .refl (.cons .refl (.cons .refl (.cons .refl (.cons .refl (.nil))))), .cons rfl (.cons rfl (.cons rfl (.cons ?_ .nil)))⟩
      have e : (x.has i && !y.has i) = false := by rw [h1']; rfl
      simp only [fromP, e, cond_false]
      rfl)
theorem ROr_spec {I : GH} (x y : Ws) : Spec Tryz.prog 89 [x.val, y.val] I [] fun v I' M' => v = (x.or y).val ∧ I' = I ∧ M' = [] := by
  have h := ROr0_spec (I := I) x y
  rwa [fromP_eq (w := x.or y) (fun n _ => (Ws.has_or x y n).symm)] at h
end Go.V

/-
  References: Len, List, Subset; the document's Seq, Choice, Within of firsts.
-/
set_option linter.unusedVariables false
set_option linter.unusedSimpArgs false
namespace Go.V
open Go Go.Proofs

section
variable {X : Ctx} {F : Fr} {C : Bx} {I : GH} {M : List Blk} {o : Oper} {K : KS}
/-- string(bytes) of no bytes. -/
theorem OtherOb.bytesN (hE : EOK X.P X.E) {x : Operand} {src dst e : Nat} (ho : o.op = .convert src dst x) (hd : ∀ d, o.dst = some d → d < X.n)
    {ti ei di : TI} (ht : X.E src = some ti) (hts : ti.sh = .slice e) (he : X.E e = some ei) (hes : ei.sh = .int .u8) (hdt : X.E dst = some di) (hds : di.sh = .string)
    {c : Nat} (hx : ev F x = .val (.slice none 0 c))
    (h : K (put o.dst (.val (.string ⟨#[]⟩)) F) C I M) : OtherOb X o F C I M K := by
  refine ⟨fun a w Q ⟨β, hR⟩ => ?_⟩
  obtain ⟨d, hud, hdd⟩ := (hE _ _ ht).und
  have h1 : d = .slice e := by rw [hts] at hdd; cases d <;> simp_all [shOf]
  subst h1
  obtain ⟨d2, hu2, hd2⟩ := (hE _ _ he).und
  have h2 : d2 = .int .u8 := by rw [hes] at hd2; cases d2 <;> simp_all [shOf]
  subst h2
  obtain ⟨d3, hu3, hd3⟩ := (hE _ _ hdt).und
  have h3 : d3 = .string := by rw [hds] at hd3; cases d3 <;> simp_all [shOf]
  subst h3
  have ex := eval_of_ev hR.fr hx
  refine done_vv hR hd (by rw [ho]; simp) ?_ h
  unfold execOp
  have hrun : (convert src dst (.slice none 0 c)).run X.P w = .ok (.string ⟨#[]⟩) w := by
    rw [run_convert_bytes_string w src dst e none 0 c hud hu2 hu3]
    rfl
  simp only [ho, Sem.run_bind, Sem.run_pure, ex, hrun, Result.andThen_ok]
end

def listW (w : Ws) (n : Nat) : List UInt8 := ((List.range n).filter w.has).map UInt8.ofNat
theorem listW_succ (w : Ws) (n : Nat) : listW w (n + 1) = listW w n ++ (bif w.has n then [UInt8.ofNat n] else []) := by
  unfold listW
  rw [List.range_succ, List.filter_append, List.map_append]
  cases h : w.has n <;> simp [h]
theorem listW_len (w : Ws) (n : Nat) : (listW w n).length ≤ n := by
  unfold listW
  rw [List.length_map]
  have := List.length_filter_le w.has (List.range n)
  simpa using this
theorem bytesV_len (l : List UInt8) : (bytesV l).length = l.length := by simp [bytesV]
set_option maxHeartbeats 1000000 in
theorem RList_spec {I : GH} (w : Ws) : Spec Tryz.prog 181 [w.val] I [] fun v I' M' => v = .string ⟨(listW w 256).toArray⟩ ∧ I' = I ∧ M' = [] := by
  refine spec_of_V [] TryzEOK Tryz.func181 rfl rfl rfl ?_
  intro B h0
  refine LoopOb.inv (ι := Nat × OS) (fun x => { fl := [(1, .ref 1 0), (3, .val x.2.val), (4, .val (.int .i64 x.1))], cl := [(1, w.cells)], gi := I, mi := x.2.blk 5 }) (fun x => x.1 ≤ 256 ∧ x.2.ok 1 (bytesV (listW w x.1))) (fun x => 256 - x.1) ?_ ?_
  · exact ⟨(0, OS0), ⟨by simp, OS0_ok 1⟩, .refl, .cons .refl (.cons .refl (.cons .refl (.nil))), .cons rfl .nil⟩
  rintro ⟨n, os⟩ ⟨hn, hos⟩
  simp only at hn hos
  have hol : os.n = (listW w n).length := by
    have := hos.len
    rw [bytesV_len] at this
    omega
  have hll := listW_len w n
  refine CondOb.mk (fun h => ?_) (fun h => ?_)
  rotate_left
  · have : n = 256 := by have : ¬ (n : Int) < 256 := of_decide_eq_false h; omega
    subst this
    obtain ⟨a, k, c, cur⟩ := os
    cases a with
    | none =>
      have hk : k = 0 := (hos.nil rfl).1
      have hl0 : listW w 256 = [] := List.eq_nil_of_length_eq_zero (by rw [← hol]; exact hk)
      subst hk
      refine OtherOb.bytesN TryzEOK rfl (by simp) rfl rfl rfl rfl rfl rfl (c := c) rfl ?_
      refine ⟨_, _, .sub (List.nil_sublist _) .refl, ?_, rfl, rfl⟩
      rw [hl0]
    | some g =>
      obtain ⟨q1, q2, q3, q4⟩ := hos.cap g rfl
      simp only at hol q1 q2 q4
      refine OtherOb.bytesS TryzEOK rfl (by simp) rfl rfl rfl rfl rfl rfl (ad := ⟨g, 0, none⟩) (n := k) (c := c) (l := listW w 256) rfl hol.symm ?_ ?_
      · have := blk_rd (I := I) (b := g) (cs := cur) (k := 0) (n := k) (T := 5) (M := OS.blk ⟨some g, k, c, cur⟩ 5) (.head _) (by omega)
        rw [List.drop_zero] at this
        rw [show k * 1 = k by omega] at q4
        rw [q4] at this
        exact this
      · exact ⟨_, _, .sub (List.nil_sublist _) .refl, rfl, rfl, rfl⟩
  have hlt : n < 256 := by have : (n : Int) < 256 := of_decide_eq_true h; omega
  have hb : (UInt8.ofNat n).toNat = n := u8nat hlt
  have hx := RHas_w (I := I) w (UInt8.ofNat n)
  rw [hb] at hx
  refine ArithOb.mk (n : Int) (by rw [u8wr hlt, hb]) ?_
  refine CallOb.mk [] (os.blk 5) _ (.refl _) hx ?_
  rintro v J N - ⟨rfl, hJ, rfl⟩
  subst J
  refine CondOb.mk (fun h1 => ?_) (fun h1 => ?_)
  · have hw : w.has n = true := h1
    refine ArithOb.mk (n : Int) (by rw [u8wr hlt, hb]) ?_
    refine AllocOb.mk fun b9 hb9 hbM9 => ?_
    refine OtherOb.append TryzEOK rfl (by simp) (e := 5) rfl rfl rfl os hos rfl (m := 1) rfl (news := [.int .u8 n]) (by decide) (blk_rd (b := b9) (cs := [.int .u8 n]) (k := 0) (n := 1) (T := 5) (.head _) (Nat.le_refl 1)) rfl (Mr := [⟨b9, .cells #[.int .u8 n] 5 (0, 0)⟩]) (List.perm_append_comm (l₁ := [_])) (by simp only [maxLen]; omega) (by show (os.n + 1) * 1 ≤ _; omega) ?_
    intro g2 c2 cur2 r1 r2 r3 r4
    refine ArithOb.mk _ (next_wr (i := n) (by omega)) ?_
    refine ⟨(n + 1, ⟨some g2, os.n + 1, c2, cur2⟩), ⟨⟨by simp only; omega, ?_⟩, by simp only; omega⟩, .sub (M1 := [⟨g2, .cells cur2.toArray 5 (0, 0)⟩]) (.cons_cons _ (List.nil_sublist _)) .refl, .cons .refl (.cons .refl (.cons .refl (.nil))), .cons rfl .nil⟩
    simp only
    rw [listW_succ, hw]
    have := appk_ok (g := g2) hos (ys := [.int .u8 n]) rfl r1 r2 r3 r4
    simpa [bytesV, hb] using this
  · have hw : w.has n = false := h1
    refine ArithOb.mk _ (next_wr (i := n) (by omega)) ?_
    refine ⟨(n + 1, os), ⟨⟨by simp only; omega, ?_⟩, by simp only; omega⟩, .refl, .cons .refl (.cons .refl (.cons .refl (.nil))), .cons rfl .nil⟩
    simp only
    rw [listW_succ, hw, cond_false, List.append_nil]
    exact hos
theorem RLen_spec {I : GH} (w : Ws) : Spec Tryz.prog 129 [w.val] I [] fun v I' M' => v = .int .i64 (listW w 256).length ∧ I' = I ∧ M' = [] := by
  refine spec_of_V [] TryzEOK Tryz.func129 rfl rfl rfl ?_
  intro B h0
  refine CallOb.mk [] [] _ (.refl _) (RList_spec w) ?_
  rintro v J N - ⟨rfl, rfl, rfl⟩
  exact ⟨_, _, .refl, rfl, rfl, rfl⟩
theorem list_nil {w : Ws} : (listW w 256).length = 0 ↔ w = .zero := by
  constructor
  · intro h
    refine Ws.ext_has fun n hn => ?_
    rw [Ws.has_zero]
    cases hw : w.has n with
    | false => rfl
    | true =>
      have hm : UInt8.ofNat n ∈ listW w 256 := List.mem_map.2 ⟨n, List.mem_filter.2 ⟨List.mem_range.2 hn, hw⟩, rfl⟩
      rw [List.eq_nil_of_length_eq_zero h] at hm
      cases hm
  · rintro rfl
    have : (List.range 256).filter Ws.zero.has = [] := List.filter_eq_nil_iff.2 fun n _ => by rw [Ws.has_zero]; simp
    simp [listW, this]
theorem Ws.has_and (x y : Ws) (n : Nat) : (x.and y).has n = (x.has n && y.has n) := by
  unfold Ws.has
  have : ∀ j, (x.and y).at j = x.at j &&& y.at j := fun j => by
    unfold Ws.at
    cases decide (j = 0) <;> cases decide (j = 1) <;> cases decide (j = 2) <;> rfl
  rw [this, BitVec.getLsbD_and]
theorem sub_minus (x y : Ws) : decide (((listW (fromP (fun n => x.has n && !y.has n) 256) 256).length : Int) = 0) = x.sub y := by
  have h1 : ((listW (fromP (fun n => x.has n && !y.has n) 256) 256).length : Int) = 0 ↔ fromP (fun n => x.has n && !y.has n) 256 = .zero := by
    rw [← list_nil]
    omega
  unfold Ws.sub
  rw [Bool.eq_iff_iff, decide_eq_true_eq, decide_eq_true_eq, h1]
  constructor
  · intro h
    refine Ws.ext_has fun n hn => ?_
    have := congrArg (fun w : Ws => w.has n) h
    simp only [fromP_has _ hn 256 (Nat.le_refl _), hn, decide_true, Bool.true_and, Ws.has_zero] at this
    rw [Ws.has_and]
    cases hx : x.has n <;> cases hy : y.has n <;> simp_all
  · intro h
    refine Ws.ext_has fun n hn => ?_
    rw [fromP_has _ hn 256 (Nat.le_refl _), Ws.has_zero]
    have := congrArg (fun w : Ws => w.has n) h
    simp only [Ws.has_and] at this
    cases hx : x.has n <;> cases hy : y.has n <;> simp_all
theorem RSubset_spec {I : GH} (x y : Ws) : Spec Tryz.prog 91 [x.val, y.val] I [] fun v I' M' => v = .bool (x.sub y) ∧ I' = I ∧ M' = [] := by
  refine spec_of_V [] TryzEOK Tryz.func91 rfl rfl rfl ?_
  intro B h0
  refine CallOb.mk [] [] _ (.refl _) (RMinus0_spec x y) ?_
  rintro v J N - ⟨rfl, rfl, rfl⟩
  refine CallOb.mk [] [] _ (.refl _) (RLen_spec _) ?_
  rintro v J N - ⟨rfl, rfl, rfl⟩
  exact ⟨_, _, .refl, congrArg Value.bool (sub_minus x y), rfl, rfl⟩

/-! ### Firsts -/
theorem eqE_firstR (a0 a1 a2 a3 b0 b1 b2 b3 : Int) (f g : Bool) : eqT Tryz.prog TryzE 8 70 (.a [.i .u64 a0, .i .u64 a1, .i .u64 a2, .i .u64 a3, .b f]) (.a [.i .u64 b0, .i .u64 b1, .i .u64 b2, .i .u64 b3, .b g]) = some (eqI a0 b0 && (eqI a1 b1 && (eqI a2 b2 && (eqI a3 b3 && (f == g))))) := by
  obtain ⟨i67, h67, hs67⟩ : ∃ i, TryzE 70 = some i ∧ i.sh = .struct [(65, 0), (4, 4)] := ⟨_, rfl, rfl⟩
  obtain ⟨i65, h65, hs65, hz65⟩ : ∃ i, TryzE 65 = some i ∧ i.sh = .array 4 63 ∧ i.size = 4 := ⟨_, rfl, rfl, rfl⟩
  obtain ⟨i63, h63, hs63, hz63⟩ : ∃ i, TryzE 63 = some i ∧ i.sh = .int .u64 ∧ i.size = 1 := ⟨_, rfl, rfl, rfl⟩
  obtain ⟨i4, h4, hs4, hz4⟩ : ∃ i, TryzE 4 = some i ∧ i.sh = .bool ∧ i.size = 1 := ⟨_, rfl, rfl, rfl⟩
  have hp : plainT Tryz.prog 70 = true := by kernel_rfl
  have hr : List.range 4 = [0, 1, 2, 3] := rfl
  have hq : ∀ k a b, eqT Tryz.prog TryzE (k + 1) 63 (.i .u64 a) (.i .u64 b) = some (eqI a b) := fun k a b => by
    simp only [eqT, h63, opn_s, hs63]
    rfl
  have hb : ∀ k a b, eqT Tryz.prog TryzE (k + 1) 4 (.b a) (.b b) = some (a == b) := fun k a b => by
    simp only [eqT, h4, opn_s, hs4]
  have hset : ∀ k, eqT Tryz.prog TryzE (k + 2) 65 (.a [.i .u64 a0, .i .u64 a1, .i .u64 a2, .i .u64 a3]) (.a [.i .u64 b0, .i .u64 b1, .i .u64 b2, .i .u64 b3]) = some (eqI a0 b0 && (eqI a1 b1 && (eqI a2 b2 && eqI a3 b3))) := fun k => by
    rw [eqT]
    simp only [h65, opn_s, hs65, h63, hz63, hr, List.map_cons, List.map_nil]
    have p0 : ∀ c0 c1 c2 c3, partE TryzE 63 (0 * 1) [.i .u64 c0, .i .u64 c1, .i .u64 c2, .i .u64 c3] = some (.i .u64 c0) := fun _ _ _ _ => rfl
    have p1 : ∀ c0 c1 c2 c3, partE TryzE 63 (1 * 1) [.i .u64 c0, .i .u64 c1, .i .u64 c2, .i .u64 c3] = some (.i .u64 c1) := fun _ _ _ _ => rfl
    have p2 : ∀ c0 c1 c2 c3, partE TryzE 63 (2 * 1) [.i .u64 c0, .i .u64 c1, .i .u64 c2, .i .u64 c3] = some (.i .u64 c2) := fun _ _ _ _ => rfl
    have p3 : ∀ c0 c1 c2 c3, partE TryzE 63 (3 * 1) [.i .u64 c0, .i .u64 c1, .i .u64 c2, .i .u64 c3] = some (.i .u64 c3) := fun _ _ _ _ => rfl
    simp only [eqPl, p0, p1, p2, p3, opn_s, hq, cnd_eq]
    cases eqI a0 b0 <;> cases eqI a1 b1 <;> cases eqI a2 b2 <;> cases eqI a3 b3 <;> rfl
  rw [eqT]
  simp only [h67, opn_s, hs67, hp]
  have p0 : ∀ c0 c1 c2 c3 c4, partE TryzE 65 0 [.i .u64 c0, .i .u64 c1, .i .u64 c2, .i .u64 c3, c4] = some (.a [.i .u64 c0, .i .u64 c1, .i .u64 c2, .i .u64 c3]) := fun _ _ _ _ _ => rfl
  have p1 : ∀ c0 c1 c2 c3 c4, partE TryzE 4 4 [.i .u64 c0, .i .u64 c1, .i .u64 c2, .i .u64 c3, c4] = some c4 := fun _ _ _ _ _ => rfl
  simp only [eqPl, p0, p1, opn_s, hset, hb, cnd_eq]
  cases eqI a0 b0 <;> cases eqI a1 b1 <;> cases eqI a2 b2 <;> cases eqI a3 b3 <;> cases f <;> cases g <;> rfl
theorem BinOb.eqIR {x y : Operand} {p q : Fi} {V : Value → Prop} {other : Prop} (h : V (.bool (decide (p = q)))) :
    BinOb Tryz.prog .eql 70 x y (.val (.agg #[.int .u64 p.w.a.toNat, .int .u64 p.w.b.toNat, .int .u64 p.w.c.toNat, .int .u64 p.w.d.toNat, .bool p.f])) (.val (.agg #[.int .u64 q.w.a.toNat, .int .u64 q.w.b.toNat, .int .u64 q.w.c.toNat, .int .u64 q.w.d.toNat, .bool q.f])) V other := by
  refine b_agg_ok (X := ⟨Tryz.prog, TryzE, [], 0, 0, default, fun _ => none, [], none⟩) (D := fun _ => none) (v := .b (decide (p = q))) TryzEOK ?_ (Fi.vrs _ p) (Fi.vrs _ q) (fun u hu => by simp only [VR] at hu; rw [hu]; exact h)
  show b_agg Tryz.prog TryzE .eql 70 _ _ = _
  unfold b_agg
  rw [eqE_firstR, Fi.eqb, show Tryz.prog.eqGuardType Tryz.prog.depth 70 = false by kernel_rfl]
  rfl
theorem BinOb.neIR {x y : Operand} {p q : Fi} {V : Value → Prop} {other : Prop} (h : V (.bool (!decide (p = q)))) :
    BinOb Tryz.prog .neq 70 x y (.val (.agg #[.int .u64 p.w.a.toNat, .int .u64 p.w.b.toNat, .int .u64 p.w.c.toNat, .int .u64 p.w.d.toNat, .bool p.f])) (.val (.agg #[.int .u64 q.w.a.toNat, .int .u64 q.w.b.toNat, .int .u64 q.w.c.toNat, .int .u64 q.w.d.toNat, .bool q.f])) V other := by
  refine b_agg_ok (X := ⟨Tryz.prog, TryzE, [], 0, 0, default, fun _ => none, [], none⟩) (D := fun _ => none) (v := .b (!decide (p = q))) TryzEOK ?_ (Fi.vrs _ p) (Fi.vrs _ q) (fun u hu => by simp only [VR] at hu; rw [hu]; exact h)
  show b_agg Tryz.prog TryzE .neq 70 _ _ = _
  unfold b_agg
  rw [eqE_firstR, Fi.eqb, show Tryz.prog.eqGuardType Tryz.prog.depth 70 = false by kernel_rfl]
  rfl

theorem RISeq_spec {I : GH} (x y : Fi) : Spec Tryz.prog 52 [x.val, y.val] I [] fun r I' M' => r = (x.seq y).val ∧ I' = I ∧ M' = [] := by
  obtain ⟨xw, xf⟩ := x
  refine spec_of_V [] TryzEOK Tryz.func52 rfl rfl rfl ?_
  intro B h0
  refine CondOb.mk (fun h => ?_) (fun h => ?_)
  rotate_left
  · have hf : xf = false := h
    subst hf
    exact ⟨_, _, .refl, rfl, rfl, rfl⟩
  have hf : xf = true := h
  subst hf
  refine CodeOb.draw TryzEOK rfl rfl rfl ?_
  refine PCallOb.mk _ (ROr_spec xw y.w) ?_
  rintro v I' M' - ⟨rfl, rfl, rfl⟩
  exact ⟨_, _, .refl, rfl, rfl, rfl⟩
theorem RIChoice_spec {I : GH} (x y : Fi) : Spec Tryz.prog 54 [x.val, y.val] I [] fun r I' M' => r = (x.choice y).val ∧ I' = I ∧ M' = [] := by
  obtain ⟨xw, xf⟩ := x
  refine spec_of_V [] TryzEOK Tryz.func54 rfl rfl rfl ?_
  intro B h0
  refine CodeOb.draw TryzEOK rfl rfl rfl ?_
  refine PCallOb.mk _ (ROr_spec xw y.w) ?_
  rintro v I' M' - ⟨rfl, rfl, rfl⟩
  refine GuardOb.mk (fun h => ?_) (fun h => ?_)
  all_goals
    have hf : xf = _ := h
    subst hf
    exact ⟨_, _, .refl, rfl, rfl, rfl⟩
theorem RIWithin_spec {I : GH} (x y : Fi) : Spec Tryz.prog 56 [x.val, y.val] I [] fun r I' M' => r = .bool (x.within y) ∧ I' = I ∧ M' = [] := by
  obtain ⟨xw, xf⟩ := x
  obtain ⟨yw, yf⟩ := y
  refine spec_of_V [] TryzEOK Tryz.func56 rfl rfl rfl ?_
  intro B h0
  refine CallOb.mk [] [] _ (.refl _) (RSubset_spec xw yw) ?_
  rintro v I' M' - ⟨rfl, rfl, rfl⟩
  repeat' refine GuardOb.mk (fun h => ?_) (fun h => ?_)
  all_goals
    refine ⟨_, _, .refl, ?_, rfl, rfl⟩
    refine congrArg Value.bool ?_
    simp_all [Fi.within]
end Go.V

/-
  Walks: flow.Within, Nodes, Tree, Of.
-/
set_option linter.unusedVariables false
set_option linter.unusedSimpArgs false
namespace Go.V
open Go Go.Proofs

theorem FsAt.mono {I I' : GH} {M : List Blk} {a : Option Addr} {n : Nat} {ks : List Fl} (h : FsAt I M a n ks) (hI : ∀ b o, I b = some o → I' b = some o) : FsAt I' M a n ks :=
  ⟨h.n, fun j hj => by
    obtain ⟨ad, h1, h2⟩ := h.rd j hj
    exact ⟨ad, h1, h2.mono hI⟩⟩
theorem FsAt.sub {I : GH} {M M' : List Blk} {a : Option Addr} {n : Nat} {ks : List Fl} (h : FsAt I M a n ks) (hM : ∀ x ∈ M, x ∈ M') : FsAt I M' a n ks :=
  ⟨h.n, fun j hj => by
    obtain ⟨ad, h1, h2⟩ := h.rd j hj
    exact ⟨ad, h1, h2.sub hM⟩⟩
theorem flRow_at {I : GH} {M : List Blk} {b : Nat} {l : List Fl} (hM : flRow b l ∈ M) : FsAt I M (some ⟨b, 0, none⟩) l.length l :=
  ⟨rfl, fun j hj => ⟨_, rfl, flRow_rd hM hj⟩⟩

def nodesP (g : Gr) (fl : List Fl) (t : Tr) : Option (List Fl) := bif decide (fl.length = g.n) && (right t && namedOk (placesL g.ds) t.ns) then some (nodesF (placesL g.ds) fl t.ns []) else none

set_option maxHeartbeats 4000000 in
theorem FNodes_spec {I : GH} {M0 : List Blk} {deb : List Int} (hT : Tabs I deb) {g : Gr} (hg : g.ok I) {t : Tr} (ht : t.ok I) {la : Option Addr} {ln lc : Nat} {fl : List Fl} (hfl : FsAt I M0 la ln fl) :
    Spec Tryz.prog 44 [g.val, .slice la ln lc, t.val] I M0 fun v I' M' => (∀ b o, I b = some o → I' b = some o) ∧
      ((nodesP g fl t = none ∧ v = .tuple #[.slice none 0 0, .bool false] ∧ M' = M0) ∨ ∃ r b, nodesP g fl t = some r ∧ v = .tuple #[.slice (some ⟨b, 0, none⟩) t.n t.n, .bool true] ∧ M' = flRow b r :: M0) := by
  refine spec_of_V [] TryzEOK Tryz.func44 rfl rfl rfl ?_
  intro B h0
  have hgn := hg.n
  have htn := ht.n
  have hcap := ht.rs.cap
  have hfn := hfl.n
  refine GuardOb.mk (fun h => ?_) (fun h => ?_)
  rotate_left
  · refine ⟨_, _, .refl, fun _ _ h => h, .inl ⟨?_, rfl, rfl⟩⟩
    have hne : ¬ (ln : Int) = (g.n : Int) := by simpa using h
    have : decide (fl.length = g.n) = false := decide_eq_false (by omega)
    simp [nodesP, this]
  have hln : ln = g.n := by
    have : (ln : Int) = (g.n : Int) := by simpa using h
    omega
  have hd1 : decide (fl.length = g.n) = true := decide_eq_true (by omega)
  refine CallOb.mk [] M0 _ (.refl _) (Right_spec hT.c ht) ?_
  rintro v I1 M1 - ⟨rfl, rfl, rfl⟩
  refine CondOb.mk (fun h => ?_) (fun h => ?_)
  · refine ⟨_, _, .refl, fun _ _ h => h, .inl ⟨?_, rfl, rfl⟩⟩
    have : right t = false := by simpa using h
    simp [nodesP, this]
  have hr : right t = true := by simpa using h
  refine CallOb.mk [] M0 _ (.refl _) (places_spec hg) ?_
  rintro v I2 M2 - ⟨hI2, rfl, gm, rfl, hgm⟩
  have ht2 := ht.mono hI2
  refine LoopOb.inv (ι := Nat) (fun x => { fl := [(1, .val (.slice la ln lc)), (3, .ref 3 0), (5, .ref 5 0), (8, .val (.map (some gm))), (27, .val (.slice t.a t.n t.c)), (28, .val (.int .i64 t.n)), (29, .val (.int .i64 x))], cl := [(3, [.slice g.a g.n g.c]), (5, t.cells)], gi := I2, mi := M0 })
    (fun x => x ≤ t.n ∧ ∀ d ∈ t.ns.take x, (!decide (d.k = 3) || (lookM d.t (placesL g.ds)).isSome) = true) (fun x => t.n - x) ?_ ?_
  · exact ⟨0, ⟨Nat.zero_le _, fun d hd => by simp at hd⟩, .refl, .cons .refl (.cons .refl (.cons .refl (.cons .refl (.cons .refl (.cons .refl (.cons .refl .nil)))))), .cons rfl (.cons rfl .nil)⟩
  rintro i ⟨hi, hnm⟩
  refine CondOb.mk (fun h => ?_) (fun h => ?_)
  · have hlt : i < t.n := by have : (i : Int) < (t.n : Int) := of_decide_eq_true h; omega
    have hlt' : i < t.ns.length := by omega
    obtain ⟨ad, had, hrd⟩ := ht2.rs.row Nd.cells_len hlt hlt'
    have htk : t.ns.take (i + 1) = t.ns.take i ++ [t.ns[i]] := List.take_succ_eq_append_getElem hlt'
    have hmem := List.getElem_mem hlt'
    have next : (!decide (t.ns[i].k = 3) || (lookM t.ns[i].t (placesL g.ds)).isSome) = true → ∀ d ∈ t.ns.take (i + 1), (!decide (d.k = 3) || (lookM d.t (placesL g.ds)).isSome) = true := fun h d hd => by
      rw [htk] at hd
      rcases List.mem_append.1 hd with hd | hd
      · exact hnm d hd
      · simp only [List.mem_singleton] at hd
        rw [hd]
        exact h
    refine IdxOb.mk ad i had rfl hlt ?_
    refine LoadOb.mk _ (hrd _) ?_
    refine CondOb.mk (fun h3 => ?_) (fun h3 => ?_)
    · refine ArithOb.mk _ (next_wr (i := i) (by omega)) ?_
      refine ⟨i + 1, ⟨⟨by omega, next ?_⟩, by omega⟩, .refl, .cons .refl (.cons .refl (.cons .refl (.cons .refl (.cons .refl (.cons .refl (.cons .refl .nil)))))), .cons rfl (.cons rfl .nil)⟩
      rw [show (!decide (t.ns[i].k = 3)) = true from h3]
      rfl
    · refine OtherOb.lookupT TryzEOK rfl (by simp) rfl rfl rfl rfl (fun w => zero_int w) (l := placesL g.ds) (g := gm) rfl rfl (.inl hgm) ?_
      refine CondOb.mk (fun h4 => ?_) (fun h4 => ?_)
      · refine ⟨_, _, .refl, hI2, .inl ⟨?_, rfl, rfl⟩⟩
        have h5 : namedOk (placesL g.ds) t.ns = false := by
          rw [namedOk, List.all_eq_false]
          refine ⟨_, hmem, ?_⟩
          have h6 : (lookM t.ns[i].t (placesL g.ds)).isSome = false := by simpa using h4
          rw [h6, show (!decide (t.ns[i].k = 3)) = false from h3]
          simp
        simp [nodesP, h5]
      · refine ArithOb.mk _ (next_wr (i := i) (by omega)) ?_
        refine ⟨i + 1, ⟨⟨by omega, next ?_⟩, by omega⟩, .refl, .cons .refl (.cons .refl (.cons .refl (.cons .refl (.cons .refl (.cons .refl (.cons .refl .nil)))))), .cons rfl (.cons rfl .nil)⟩
        have h6 : (lookM t.ns[i].t (placesL g.ds)).isSome = true := by simpa using h4
        rw [h6]
        simp
  have hge : i = t.n := by have : ¬ (i : Int) < (t.n : Int) := of_decide_eq_false h; omega
  rw [List.take_of_length_le (by omega)] at hnm
  have hno : namedOk (placesL g.ds) t.ns = true := List.all_eq_true.2 hnm
  have hca := called_of hno
  rw [hgn, ← hln] at hca
  refine CallOb.mk M0 [] _ perm_nil (fnodes_spec ht2 hr hgm (hfl.mono hI2) hca) ?_
  rintro v I3 M3 - ⟨rfl, b, rfl, rfl⟩
  rw [List.append_nil]
  exact ⟨_, _, .refl, hI2, .inr ⟨_, b, by rw [nodesP, hd1, hr, hno]; rfl, rfl, rfl⟩⟩

def treeP (g : Gr) (fl : List Fl) (t : Tr) : Option Fl := (nodesP g fl t).map fun r => r.getD t.root.toNat fl0
theorem nodesP_len {g : Gr} {fl : List Fl} {t : Tr} {r : List Fl} (h : nodesP g fl t = some r) : right t = true ∧ r.length = t.ns.length := by
  unfold nodesP at h
  cases hb : decide (fl.length = g.n) && (right t && namedOk (placesL g.ds) t.ns) with
  | false => rw [hb] at h; cases h
  | true =>
    rw [hb] at h
    simp only [cond_true, Option.some.injEq] at h
    simp only [Bool.and_eq_true] at hb
    refine ⟨hb.2.1, ?_⟩
    rw [← h, nodesF_len]
    simp

/-! ### Of -/
/-- What is known of a grammar that may be. -/
structure MayF (g : Gr) : Prop where
  n : g.ds.length = g.n
  right : ∀ d ∈ g.ds, right d.t = true
  named : ∀ d ∈ g.ds, namedOk (placesL g.ds) d.t.ns = true
theorem mayF_of {deb : List Int} {g : Gr} (hn : g.ds.length = g.n) (h : mayG deb g = 0) : MayF g := by
  refine ⟨hn, fun d hd => ?_, may_named h⟩
  have := List.all_eq_true.1 (may_ok h) d hd
  simp only [normal, Bool.and_eq_true] at this
  exact this.2.1
def ofM (b6 gm b5 bl b1 : Nat) (g : Gr) (l : List Fl) : List Blk := [⟨b6, .cells #[.map (some gm)] 119 (0, 0)⟩, ⟨b5, .cells #[.slice (some ⟨bl, 0, none⟩) g.n g.n] 74 (0, 0)⟩, flRow bl l, ⟨b1, .cells #[.slice g.a g.n g.c] 24 (0, 0)⟩]

theorem perm_at2 {α : Type} (a b c d : α) : [a, b, c, d].Perm ([c] ++ [a, b, d]) := List.perm_middle (l₁ := [a, b]) (l₂ := [d])
theorem perm_at3 {α : Type} (x a b c d : α) : [x, a, b, c, d].Perm ([c] ++ [x, a, b, d]) := List.perm_middle (l₁ := [x, a, b]) (l₂ := [d])
theorem blk_rd0 {I : GH} {M : List Blk} {b : Nat} {f : Fl} (hM : (⟨b, .cells f.cells.toArray 80 (0, 0)⟩ : Blk) ∈ M) : Rd I M (⟨b, 0, none⟩ : Addr) 3 f.cells := ⟨rfl, _, _, _, .inr ⟨_, hM, rfl, rfl⟩, rfl, rfl⟩
theorem ble_row {l : List Fl} {i : Nat} (hi : i < l.length) {x : Fl} : Nat.ble (0 + i * 3 + x.cells.length) (l.flatMap Fl.cells).length = true := by
  rw [Nat.ble_eq, fl_len, Fl.cells_len]
  omega
theorem StoreOb.to {M : List Blk} {a : Addr} {vs : List Value} {K : List Blk → Prop} (pre post : List Blk) (cs : Array Value) (T : Nat) (hM : M = pre ++ ⟨a.block, .cells cs T (0, 0)⟩ :: post) (hs : a.spot = none) (hb : Nat.ble (a.off + vs.length) cs.size = true) (h1 : allOne vs = true)
    (cs' : List Value) (he : splice cs.toList a.off vs = cs') (k : K (pre ++ ⟨a.block, .cells cs'.toArray T (0, 0)⟩ :: post)) : StoreOb M a vs K :=
  ⟨pre, post, cs, T, hM, hs, Nat.le_of_ble_eq_true hb, h1, by rw [he]; exact k⟩
set_option maxRecDepth 100000 in
set_option maxHeartbeats 8000000 in
theorem Of1_spec {I : GH} {g : Gr} (hg : g.ok I) (hm : MayF g) {b6 gm b5 bl b1 : Nat} (hgm : I gm = some (mapO (placesL g.ds))) {l0 : List Fl} (hl0 : PreF g.ds l0) :
    Spec Tryz.prog 82 [ptr b1, ptr b6, ptr b5] I (ofM b6 gm b5 bl b1 g l0) fun v I' M' => v = .bool (decide (roundGo (placesL g.ds) 0 g.ds l0 ≠ l0)) ∧ I' = I ∧ M' = ofM b6 gm b5 bl b1 g (roundGo (placesL g.ds) 0 g.ds l0) := by
  refine spec_of_V [] TryzEOK Tryz.func82 rfl rfl rfl ?_
  intro B h0
  have hgn := hg.n
  have hcap := hg.rs.cap
  have rd1 : ∀ {M : List Blk}, (⟨b1, .cells #[.slice g.a g.n g.c] 24 (0, 0)⟩ : Blk) ∈ M → Rd I M ((⟨b1, 0, none⟩ : Addr).add 0) 1 [.slice g.a g.n g.c] := fun hM => blk_rd (cs := [.slice g.a g.n g.c]) (k := 0) (n := 1) hM (by simp)
  have rd6 : ∀ {M : List Blk}, (⟨b6, .cells #[.map (some gm)] 119 (0, 0)⟩ : Blk) ∈ M → Rd I M (⟨b6, 0, none⟩ : Addr) 1 [.map (some gm)] := fun hM => ⟨rfl, _, _, _, .inr ⟨_, hM, rfl, rfl⟩, rfl, rfl⟩
  have rd5 : ∀ {M : List Blk}, (⟨b5, .cells #[.slice (some ⟨bl, 0, none⟩) g.n g.n] 74 (0, 0)⟩ : Blk) ∈ M → Rd I M (⟨b5, 0, none⟩ : Addr) 1 [.slice (some ⟨bl, 0, none⟩) g.n g.n] := fun hM => ⟨rfl, _, _, _, .inr ⟨_, hM, rfl, rfl⟩, rfl, rfl⟩
  refine LoadOb.mk _ (rd1 (by simp [ofM])) ?_
  refine LoopOb.inv (ι := Nat × List Fl) (fun x => { fl := [(0, .val (ptr b1)), (1, .val (ptr b6)), (2, .val (ptr b5)), (4, .val (.bool (decide (x.2 ≠ l0)))), (9, .val (.slice g.a g.n g.c)), (10, .val (.int .i64 g.n)), (11, .val (.int .i64 x.1))], gi := I, mi := ofM b6 gm b5 bl b1 g x.2 })
    (fun x => x.1 ≤ g.n ∧ PreF g.ds x.2 ∧ LeL l0 x.2 ∧ roundGo (placesL g.ds) 0 g.ds l0 = roundGo (placesL g.ds) x.1 (g.ds.drop x.1) x.2) (fun x => g.n - x.1) ?_ ?_
  · refine ⟨(0, l0), ⟨Nat.zero_le _, hl0, LeL.refl _, rfl⟩, .refl, .cons .refl (.cons .refl (.cons .refl (.cons ?_ (.cons .refl (.cons .refl (.cons .refl .nil)))))), .nil⟩
    exact sv_lit (by simp)
  rintro ⟨i, l⟩ ⟨hi, hP, hle, hgo⟩
  simp only at hi hP hle hgo
  have hll := hP.len
  refine CondOb.mk (fun h => ?_) (fun h => ?_)
  rotate_left
  · have hge : i = g.n := by have : ¬ (i : Int) < (g.n : Int) := of_decide_eq_false h; omega
    rw [List.drop_eq_nil_of_le (by omega), roundGo] at hgo
    exact ⟨_, _, .refl, by rw [hgo], rfl, by rw [hgo]⟩
  have hlt : i < g.n := by have : (i : Int) < (g.n : Int) := of_decide_eq_true h; omega
  have hlt' : i < g.ds.length := by omega
  have hil : i < l.length := by omega
  obtain ⟨ad, had, hrd⟩ := hg.rs.row Df.cells_len hlt hlt'
  have hdm := List.getElem_mem hlt'
  have hd := hg.ds _ hdm
  have hr := hm.right _ hdm
  have hca := called_of (hm.named _ hdm)
  rw [show g.ds.length = l.length from hll.symm] at hca
  obtain ⟨hP', hle'⟩ := hP.step hlt'
  have hgo' : roundGo (placesL g.ds) 0 g.ds l0 = roundGo (placesL g.ds) (i + 1) (g.ds.drop (i + 1)) (l.set i (bodyF (placesL g.ds) l g.ds[i])) := by
    rw [hgo, List.drop_eq_getElem_cons hlt', roundGo]
  have hbody : bodyF (placesL g.ds) l g.ds[i] = (nodesF (placesL g.ds) l g.ds[i].t.ns []).getD g.ds[i].t.root.toNat fl0 := rfl
  generalize bodyF (placesL g.ds) l g.ds[i] = f at hP' hle' hgo' hbody
  generalize g.ds[i] = d at hrd hd hr hca hbody
  have hroot := right_root hr
  have htn := hd.t.n
  have hnl := nodesF_len (placesL g.ds) l d.t.ns []
  simp only [List.length_nil, Nat.zero_add] at hnl
  have hrl : d.t.root.toNat < (nodesF (placesL g.ds) l d.t.ns []).length := by omega
  have hfe : (nodesF (placesL g.ds) l d.t.ns [])[d.t.root.toNat] = f := by
    rw [hbody]
    simp [List.getD_eq_getElem?_getD, hrl]
  have hspec := fnodes_spec (M0 := [flRow bl l]) (ln := l.length) (lc := g.n) hd.t hr hgm (flRow_at (I := I) (List.mem_singleton.2 rfl)) hca
  rw [show l.length = g.n by omega] at hspec
  refine IdxOb.mk ad i had rfl hlt ?_
  refine LoadOb.mk _ (hrd _) ?_
  have hlf : l.getD i fl0 = l[i] := by simp [List.getD_eq_getElem?_getD, hil]
  have more : (!decide (f = l[i])) = true → decide (l.set i f ≠ l0) = true := fun h => by
    have hne : f ≠ l[i] := by simpa using h
    rw [decide_eq_true_eq]
    intro e
    have e2 : l.set i f = l := by
      refine LeL.antisymm ?_ hle'
      rw [e]
      exact hle
    have h3 := set_getD l i i f hil
    rw [e2, if_pos rfl, hlf] at h3
    exact hne h3.symm
  have same : (!decide (f = l[i])) = false → l.set i f = l := fun h => by
    have he : f = l[i] := by simpa using h
    rw [he]
    exact List.set_getElem_self hil
  refine CodeOb.draw TryzEOK rfl rfl rfl ?_
  refine LoadOb.mk _ (rd6 (by simp [ofM])) ?_
  refine LoadOb.mk _ (rd5 (by simp [ofM])) ?_
  refine ⟨?_, ?_⟩
  · refine PCallOb.mkR [flRow bl l] [⟨b6, .cells #[.map (some gm)] 119 (0, 0)⟩, ⟨b5, .cells #[.slice (some ⟨bl, 0, none⟩) g.n g.n] 74 (0, 0)⟩, ⟨b1, .cells #[.slice g.a g.n g.c] 24 (0, 0)⟩] _ (perm_at2 ..) hspec (fun v I' M' h x hx => by obtain ⟨-, b, -, rfl⟩ := h; exact .tail _ hx) ?_
    rintro v I2 M2 - ⟨rfl, b, rfl, rfl⟩
    refine IdxOb.mk ⟨b, 0, none⟩ d.t.root.toNat rfl (by omega) (by omega) ?_
    refine LoadOb.mk _ (flRow_rd (.head _) hrl) ?_
    rw [hfe]
    refine AllocOb.mk fun b7 hb7 hbM7 => ?_
    refine StoreOb.to [] [flRow b (nodesF (placesL g.ds) l d.t.ns []), flRow bl l, ⟨b6, .cells #[.map (some gm)] 119 (0, 0)⟩, ⟨b5, .cells #[.slice (some ⟨bl, 0, none⟩) g.n g.n] 74 (0, 0)⟩, ⟨b1, .cells #[.slice g.a g.n g.c] 24 (0, 0)⟩] _ _ rfl rfl rfl rfl f.cells rfl ?_
    refine CodeOb.draw TryzEOK rfl rfl rfl ?_
    refine LoadOb.mk f.cells (blk_rd0 (by simp)) ?_
    refine LoadOb.mk _ (rd5 (by simp)) ?_
    refine IdxOb.mk ⟨bl, 0, none⟩ i rfl rfl hlt ?_
    refine LoadOb.mk _ (flRow_rd (by simp) hil) ?_
    refine BinOb.neF (p := f) (q := l[i]) ?_
    refine CondOb.mk (fun h => ?_) (fun h => ?_)
    · refine LoadOb.mk _ (rd5 (by simp)) ?_
      refine LoadOb.mk f.cells (blk_rd0 (by simp)) ?_
      refine IdxOb.mk ⟨bl, 0, none⟩ i rfl rfl hlt ?_
      refine StoreOb.addTo [(⟨b7, .cells f.cells.toArray 80 (0, 0)⟩ : Blk), flRow b (nodesF (placesL g.ds) l d.t.ns [])] [⟨b6, .cells #[.map (some gm)] 119 (0, 0)⟩, ⟨b5, .cells #[.slice (some ⟨bl, 0, none⟩) g.n g.n] 74 (0, 0)⟩, ⟨b1, .cells #[.slice g.a g.n g.c] 24 (0, 0)⟩] (l.flatMap Fl.cells) _ rfl (ble_row hil) rfl ((l.set i f).flatMap Fl.cells) (by rw [Nat.zero_add]; exact flRow_set l i hil f) ?_
      refine ArithOb.mk _ (next_wr (i := i) (by omega)) ?_
      refine ⟨(i + 1, l.set i f), ⟨⟨by simp only; omega, hP', hle.trans hle', hgo'⟩, by simp only; omega⟩, .sub (M1 := [flRow bl (l.set i f), ⟨b6, .cells #[.map (some gm)] 119 (0, 0)⟩, ⟨b5, .cells #[.slice (some ⟨bl, 0, none⟩) g.n g.n] 74 (0, 0)⟩, ⟨b1, .cells #[.slice g.a g.n g.c] 24 (0, 0)⟩]) (by exact .cons _ (.cons _ (.refl _))) (.perm (perm_at2 ..).symm .refl), .cons .refl (.cons .refl (.cons .refl (.cons (sv_lit (more h).symm) (.cons .refl (.cons .refl (.cons .refl .nil)))))), .nil⟩
    · have he : l.set i f = l := same h
      rw [he] at hgo'
      refine ArithOb.mk _ (next_wr (i := i) (by omega)) ?_
      exact ⟨(i + 1, l), ⟨⟨by simp only; omega, hP, hle, hgo'⟩, by simp only; omega⟩, .sub (M1 := [flRow bl l, ⟨b6, .cells #[.map (some gm)] 119 (0, 0)⟩, ⟨b5, .cells #[.slice (some ⟨bl, 0, none⟩) g.n g.n] 74 (0, 0)⟩, ⟨b1, .cells #[.slice g.a g.n g.c] 24 (0, 0)⟩]) (by exact .cons _ (.cons _ (.refl _))) (.perm (perm_at2 ..).symm .refl), .cons .refl (.cons .refl (.cons .refl (.cons .refl (.cons .refl (.cons .refl (.cons .refl .nil)))))), .nil⟩
  · refine AllocOb.mk fun b7 hb7 hbM7 => ?_
    refine PCallOb.mkR [flRow bl l] [(⟨b7, .cells fl0.cells.toArray 80 (0, 0)⟩ : Blk), ⟨b6, .cells #[.map (some gm)] 119 (0, 0)⟩, ⟨b5, .cells #[.slice (some ⟨bl, 0, none⟩) g.n g.n] 74 (0, 0)⟩, ⟨b1, .cells #[.slice g.a g.n g.c] 24 (0, 0)⟩] _ (perm_at3 ..) hspec (fun v I' M' h x hx => by obtain ⟨-, b, -, rfl⟩ := h; exact .tail _ hx) ?_
    rintro v I2 M2 - ⟨rfl, b, rfl, rfl⟩
    refine IdxOb.mk ⟨b, 0, none⟩ d.t.root.toNat rfl (by omega) (by omega) ?_
    refine LoadOb.mk _ (flRow_rd (.head _) hrl) ?_
    rw [hfe]
    refine StoreOb.to [flRow b (nodesF (placesL g.ds) l d.t.ns []), flRow bl l] [⟨b6, .cells #[.map (some gm)] 119 (0, 0)⟩, ⟨b5, .cells #[.slice (some ⟨bl, 0, none⟩) g.n g.n] 74 (0, 0)⟩, ⟨b1, .cells #[.slice g.a g.n g.c] 24 (0, 0)⟩] _ _ rfl rfl rfl rfl f.cells rfl ?_
    refine CodeOb.draw TryzEOK rfl rfl rfl ?_
    refine LoadOb.mk f.cells (blk_rd0 (by simp)) ?_
    refine LoadOb.mk _ (rd5 (by simp)) ?_
    refine IdxOb.mk ⟨bl, 0, none⟩ i rfl rfl hlt ?_
    refine LoadOb.mk _ (flRow_rd (by simp) hil) ?_
    refine BinOb.neF (p := f) (q := l[i]) ?_
    refine CondOb.mk (fun h => ?_) (fun h => ?_)
    · refine LoadOb.mk _ (rd5 (by simp)) ?_
      refine LoadOb.mk f.cells (blk_rd0 (by simp)) ?_
      refine IdxOb.mk ⟨bl, 0, none⟩ i rfl rfl hlt ?_
      refine StoreOb.addTo [flRow b (nodesF (placesL g.ds) l d.t.ns [])] [(⟨b7, .cells f.cells.toArray 80 (0, 0)⟩ : Blk), ⟨b6, .cells #[.map (some gm)] 119 (0, 0)⟩, ⟨b5, .cells #[.slice (some ⟨bl, 0, none⟩) g.n g.n] 74 (0, 0)⟩, ⟨b1, .cells #[.slice g.a g.n g.c] 24 (0, 0)⟩] (l.flatMap Fl.cells) _ rfl (ble_row hil) rfl ((l.set i f).flatMap Fl.cells) (by rw [Nat.zero_add]; exact flRow_set l i hil f) ?_
      refine ArithOb.mk _ (next_wr (i := i) (by omega)) ?_
      refine ⟨(i + 1, l.set i f), ⟨⟨by simp only; omega, hP', hle.trans hle', hgo'⟩, by simp only; omega⟩, .sub (M1 := [flRow bl (l.set i f), ⟨b6, .cells #[.map (some gm)] 119 (0, 0)⟩, ⟨b5, .cells #[.slice (some ⟨bl, 0, none⟩) g.n g.n] 74 (0, 0)⟩, ⟨b1, .cells #[.slice g.a g.n g.c] 24 (0, 0)⟩]) (by exact .cons _ (.cons_cons _ (.cons _ (.refl _)))) (.perm (perm_at2 ..).symm .refl), .cons .refl (.cons .refl (.cons .refl (.cons (sv_lit (more h).symm) (.cons .refl (.cons .refl (.cons .refl .nil)))))), .nil⟩
    · have he : l.set i f = l := same h
      rw [he] at hgo'
      refine ArithOb.mk _ (next_wr (i := i) (by omega)) ?_
      exact ⟨(i + 1, l), ⟨⟨by simp only; omega, hP, hle, hgo'⟩, by simp only; omega⟩, .sub (M1 := [flRow bl l, ⟨b6, .cells #[.map (some gm)] 119 (0, 0)⟩, ⟨b5, .cells #[.slice (some ⟨bl, 0, none⟩) g.n g.n] 74 (0, 0)⟩, ⟨b1, .cells #[.slice g.a g.n g.c] 24 (0, 0)⟩]) (by exact .cons _ (.cons_cons _ (.cons _ (.refl _)))) (.perm (perm_at2 ..).symm .refl), .cons .refl (.cons .refl (.cons .refl (.cons .refl (.cons .refl (.cons .refl (.cons .refl .nil)))))), .nil⟩

set_option maxHeartbeats 4000000 in
theorem FOf_spec {I : GH} {deb : List Int} (hT : Tabs I deb) {g : Gr} (hg : g.ok I) : Spec Tryz.prog 43 [g.val] I [] fun v I' M' => (∀ b o, I b = some o → I' b = some o) ∧
    ((mayG deb g ≠ 0 ∧ v = .tuple #[.slice none 0 0, .int .i64 (mayG deb g)] ∧ M' = []) ∨ (mayG deb g = 0 ∧ ∃ b l, v = .tuple #[.slice (some ⟨b, 0, none⟩) g.n g.n, .int .i64 0] ∧ M' = [flRow b l] ∧ IsFlow g.ds l)) := by
  refine spec_of_V [1, 5, 6] TryzEOK Tryz.func43 rfl rfl rfl ?_
  intro B h0
  have hgn := hg.n
  have hcap := hg.rs.cap
  refine AllocOb.mk fun b1 hb1 hbM1 => ?_
  refine LoadOb.mk [.slice g.a g.n g.c] ⟨rfl, _, _, _, .inr ⟨_, .head _, rfl, rfl⟩, rfl, rfl⟩ ?_
  refine CallOb.mk [] [⟨b1, .cells #[.slice g.a g.n g.c] 24 (0, 0)⟩] _ (.refl _) (May_spec hT hg) ?_
  rintro v I1 M1 - ⟨rfl, hI1, rfl⟩
  refine CondOb.mk (fun h => ?_) (fun h => ?_)
  · have hm : mayG deb g ≠ 0 := by simpa using h
    exact ⟨_, _, .sub (List.nil_sublist _) .refl, hI1, .inl ⟨hm, rfl, rfl⟩⟩
  have hm : mayG deb g = 0 := by simpa using h
  have hM := mayF_of hgn hm
  refine LoadOb.mk _ (blk_rd (b := b1) (cs := [.slice g.a g.n g.c]) (k := 0) (n := 1) (T := 24) (.head _) (by simp)) ?_
  refine MakeOb.mk g.n g.n rfl rfl (Nat.le_refl _) (by show 3 * g.n ≤ _; omega) (by omega) ?_
  refine AllocOb.mk fun bl hbl hbMl => ?_
  have e : rowOf fl0.cells (g.n * 3) = (List.replicate g.ds.length fl0).flatMap Fl.cells := by rw [hgn]; exact rowOf_fl g.n
  refine AllocOb.mk fun b5 hb5 hbM5 => ?_
  refine StoreOb.to [] _ _ _ rfl rfl rfl rfl [.slice (some ⟨bl, 0, none⟩) g.n g.n] rfl ?_
  refine LoadOb.mk [.slice g.a g.n g.c] ⟨rfl, _, _, _, .inr ⟨_, .tail _ (.tail _ (.head _)), rfl, rfl⟩, rfl, rfl⟩ ?_
  refine CallOb.mk [] _ _ (.refl _) (places_spec (hg.mono hI1)) ?_
  rintro v I2 M2 - ⟨hI2, rfl, gm, rfl, hgm⟩
  refine AllocOb.mk fun b6 hb6 hbM6 => ?_
  refine StoreOb.to [] _ _ _ rfl rfl rfl rfl [.map (some gm)] rfl ?_
  refine LoopOb.inv (ι := List Fl) (fun l => { fl := [(5, .val (ptr b5)), (7, .val (.func (.func 82) #[] #[ptr b1, ptr b6, ptr b5]))], gi := I2, mi := ofM b6 gm b5 bl b1 g l }) (PreF g.ds) offs ?_ ?_
  · refine ⟨List.replicate g.ds.length fl0, .start g.ds, ?_, .cons .refl (.cons .refl .nil), .nil⟩
    simp only [ofM, flRow]
    rw [← e]
    exact .refl
  intro l hl
  refine CallOb.mk (ofM b6 gm b5 bl b1 g l) [] _ (.refl _) (Of1_spec ((hg.mono hI1).mono hI2) hM hgm hl) ?_
  rintro v I3 M3 - ⟨rfl, rfl, rfl⟩
  obtain ⟨r1, r2, -⟩ := roundGo_pre g.ds [] rfl hl
  refine CondOb.mk (fun h => ?_) (fun h => ?_)
  · exact ⟨_, ⟨r1, offs_lt r2 (of_decide_eq_true h)⟩, .refl, .cons .refl (.cons .refl .nil), .nil⟩
  · have hf : roundGo (placesL g.ds) 0 g.ds l = l := by
      have := of_decide_eq_false h
      exact Classical.not_not.1 this
    rw [hf]
    refine LoadOb.mk [.slice (some ⟨bl, 0, none⟩) g.n g.n] ⟨rfl, _, _, _, .inr ⟨_, .tail _ (.head _), rfl, rfl⟩, rfl, rfl⟩ ?_
    refine ⟨I3, [flRow bl l], .sub (.cons _ (.cons _ (.cons_cons _ (List.nil_sublist _)))) .refl, fun b o h => hI2 _ _ (hI1 _ _ h), .inr ⟨hm, bl, l, rfl, rfl, hl.done hf⟩⟩
end Go.V

/-
  The laws of any two, any three firsts.
-/
set_option linter.unusedVariables false
set_option linter.unusedSimpArgs false
namespace Go.V
open Go Go.Proofs

theorem firstTwo_V {I : GH} (hT : Tabs I debL) {x : Fi} (hx : True) {y : Fi} (hy : True) : SpecE Tryz.prog 10 [x.val, y.val] I [] fun v I' M' => v = .bool true := by
  refine specE_of_V [] TryzEOK Tryz.func10 rfl rfl rfl ?_
  intro B h0
  refine CodeOb.drawC TryzEOK rfl rfl rfl (ι := Nat × Nat) (fun s => { fl := [(2, .ref 2 0), (3, .ref 3 0), (5, .val (ptr s.1)), (6, .val (ptr s.2))], cl := [(2, x.cells), (3, y.cells)], gi := I, mi := [⟨s.1, .cells x.cells.toArray 70 (0, 0)⟩, ⟨s.2, .cells y.cells.toArray 70 (0, 0)⟩] }) (fun _ => True) ?_ ?_
  · refine ⟨?_, ?_⟩
    · refine AllocOb.mk fun b5 hb5 hM5 => ?_
      refine AllocOb.mk fun b6 hb6 hM6 => ?_
      refine StoreOb.to [⟨b6, .cells fi0.cells.toArray 70 (0, 0)⟩] [] _ _ rfl rfl rfl rfl x.cells rfl ?_
      refine StoreOb.to [] [⟨b5, .cells x.cells.toArray 70 (0, 0)⟩] _ _ rfl rfl rfl rfl y.cells rfl ?_
      exact ⟨(b5, b6), trivial, .perm (List.Perm.swap _ _ _) .refl, .cons .refl (.cons .refl (.cons .refl (.cons .refl (.nil)))), .cons rfl (.cons rfl (.nil))⟩
    · refine AllocOb.mk fun b6 hb6 hM6 => ?_
      refine AllocOb.mk fun b5 hb5 hM5 => ?_
      refine StoreOb.to [] [⟨b6, .cells fi0.cells.toArray 70 (0, 0)⟩] _ _ rfl rfl rfl rfl x.cells rfl ?_
      refine StoreOb.to [⟨b5, .cells x.cells.toArray 70 (0, 0)⟩] [] _ _ rfl rfl rfl rfl y.cells rfl ?_
      exact ⟨(b5, b6), trivial, .refl, .cons .refl (.cons .refl (.cons .refl (.cons .refl (.nil)))), .cons rfl (.cons rfl (.nil))⟩
  rintro ⟨b5, b6⟩ -
  have r5 : ∀ {J : GH} {M : List Blk}, (⟨b5, .cells x.cells.toArray 70 (0, 0)⟩ : Blk) ∈ M → Rd J M (⟨b5, 0, none⟩ : Addr) 5 x.cells := fun hM => ⟨rfl, _, _, _, .inr ⟨_, hM, rfl, rfl⟩, rfl, rfl⟩
  have r6 : ∀ {J : GH} {M : List Blk}, (⟨b6, .cells y.cells.toArray 70 (0, 0)⟩ : Blk) ∈ M → Rd J M (⟨b6, 0, none⟩ : Addr) 5 y.cells := fun hM => ⟨rfl, _, _, _, .inr ⟨_, hM, rfl, rfl⟩, rfl, rfl⟩
  refine CodeOb.draw TryzEOK rfl rfl rfl ?_
  refine LoadOb.mk _ (r5 (.head _)) ?_
  refine LoadOb.mk _ (r6 (.tail _ (.head _))) ?_
  first | refine PCallOb.mk _ (ISeq_spec x y) ?_ | refine CallOb.mk [] _ _ (.refl _) (ISeq_spec x y) ?_
  rintro v J N - ⟨rfl, rfl, rfl⟩
  first | refine PCallOb.mk _ (RISeq_spec x y) ?_ | refine CallOb.mk [] _ _ (.refl _) (RISeq_spec x y) ?_
  rintro v J N - ⟨rfl, rfl, rfl⟩
  refine BinOb.eqIR (p := x.seq y) (q := x.seq y) ?_
  refine GuardOb.mk (fun _ => ?_) (fun h => absurd h (by simp))
  refine LoadOb.mk _ (r5 (.head _)) ?_
  refine LoadOb.mk _ (r6 (.tail _ (.head _))) ?_
  first | refine PCallOb.mk _ (IChoice_spec x y) ?_ | refine CallOb.mk [] _ _ (.refl _) (IChoice_spec x y) ?_
  rintro v J N - ⟨rfl, rfl, rfl⟩
  first | refine PCallOb.mk _ (RIChoice_spec x y) ?_ | refine CallOb.mk [] _ _ (.refl _) (RIChoice_spec x y) ?_
  rintro v J N - ⟨rfl, rfl, rfl⟩
  refine BinOb.eqIR (p := x.choice y) (q := x.choice y) ?_
  refine GuardOb.mk (fun _ => ?_) (fun h => absurd h (by simp))
  refine LoadOb.mk _ (r5 (.head _)) ?_
  refine LoadOb.mk _ (r6 (.tail _ (.head _))) ?_
  first | refine PCallOb.mk _ (IWithin_spec x y) ?_ | refine CallOb.mk [] _ _ (.refl _) (IWithin_spec x y) ?_
  rintro v J N - ⟨rfl, rfl, rfl⟩
  first | refine PCallOb.mk _ (RIWithin_spec x y) ?_ | refine CallOb.mk [] _ _ (.refl _) (RIWithin_spec x y) ?_
  rintro v J N - ⟨rfl, rfl, rfl⟩
  refine GuardOb.mk (fun _ => ?_) (fun h => absurd h (by simp))
  first | refine PCallOb.mk _ (awake11_spec hT) ?_ | refine CallOb.mk [] _ _ (.refl _) (awake11_spec hT) ?_
  rintro v J N - ⟨rfl, hJ, rfl⟩
  exact ⟨_, _, .refl, rfl⟩
end Go.V
