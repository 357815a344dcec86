/-
  Walks: name.Show (numbers below 100), print.wraps, bits.TrailingZeros64, set.Not, set.All, set.each, set.Runs.
-/
import Derived.Test.YtcccmnppfmfkiaaDoorW5
set_option linter.unusedVariables false
set_option linter.unusedSimpArgs false
namespace Go.V
open Go Go.Proofs

/-! ### Numbers' texts -/
def dig (n : Nat) : List UInt8 := bif Nat.blt n 10 then [UInt8.ofNat (48 + n)] else [UInt8.ofNat (48 + n / 10), UInt8.ofNat (48 + n % 10)]
def digS (n : Nat) : ByteArray := ⟨(dig n).toArray⟩
def lowL : ByteArray := ⟨((List.range 10).map (fun n => UInt8.ofNat (48 + n)) ++ (List.range 26).map (fun n => UInt8.ofNat (97 + n))).toArray⟩
def smallL : ByteArray := ⟨((List.range 100).flatMap fun n => [UInt8.ofNat (48 + n / 10), UInt8.ofNat (48 + n % 10)]).toArray⟩
theorem low_at : ∀ n : Fin 10, (lowL.extract n.val (n.val + 1)).data.toList = dig n.val := by decide +kernel
theorem small_at : ∀ n : Fin 100, 10 ≤ n.val → (smallL.extract (n.val * 2) (n.val * 2 + 2)).data.toList = dig n.val := by decide +kernel
theorem bytes_eq {a b : ByteArray} (h : a.data.toList = b.data.toList) : a = b := ByteArray.ext (Array.ext' h)
theorem lowL_size : lowL.size = 36 := by decide +kernel
theorem smallL_size : smallL.size = 200 := by decide +kernel
theorem dig_len (n : Nat) : (dig n).length ≤ 2 := by
  unfold dig
  cases Nat.blt n 10 <;> simp

set_option maxRecDepth 20000 in
theorem small_spec {I : GH} (n : Nat) (hn : n < 100) : Spec Tryd.prog 114 [.int .i64 n] I [] fun r I' M' => r = .string (digS n) ∧ I' = I ∧ M' = [] := by
  refine spec_of_V [] TrydEOK Tryd.func114 rfl rfl rfl ?_
  intro B h0
  refine CondOb.mk (fun h => ?_) (fun h => ?_)
  · have hlt : n < 10 := by simp at h; omega
    refine ArithOb.mk ((n + 1 : Nat) : Int) (by rw [wrap_i64 ⟨by omega, by omega⟩]; omega) ?_
    refine SliceOb.mk n (n + 1) rfl rfl (by omega) (by show _ ≤ 36; omega) ?_
    refine ⟨_, _, .refl, ?_, rfl, rfl⟩
    have : lowL.extract n (n + 1) = digS n := bytes_eq (low_at ⟨n, hlt⟩)
    rw [← this]
    rfl
  · have hge : 10 ≤ n := by simp at h; omega
    refine ArithOb.mk ((n * 2 : Nat) : Int) (by rw [wrap_i64 ⟨by omega, by omega⟩]; omega) ?_
    refine ArithOb.mk ((n * 2 : Nat) : Int) (by rw [wrap_i64 ⟨by omega, by omega⟩]; omega) ?_
    refine ArithOb.mk ((n * 2 + 2 : Nat) : Int) (by rw [wrap_i64 ⟨by omega, by omega⟩]; omega) ?_
    refine SliceOb.mk (n * 2) (n * 2 + 2) rfl rfl (by omega) (by show _ ≤ 200; omega) ?_
    refine ⟨_, _, .refl, ?_, rfl, rfl⟩
    have : smallL.extract (n * 2) (n * 2 + 2) = digS n := bytes_eq (small_at ⟨n, hn⟩ hge)
    rw [← this]
    rfl
theorem FormatInt_spec {I : GH} (n : Nat) (hn : n < 100) : Spec Tryd.prog 113 [.int .i64 n, .int .i64 10] I [] fun r I' M' => r = .string (digS n) ∧ I' = I ∧ M' = [] := by
  refine spec_of_V [] TrydEOK Tryd.func113 rfl rfl rfl ?_
  intro B h0
  refine CondOb.mk (fun h => ?_) (fun h => by cases h)
  refine GuardOb.mk (fun h => ?_) (fun h => by simp at h; try omega)
  refine CondOb.mk (fun h => ?_) (fun h => by simp at h; try omega)
  refine CallOb.mk [] [] _ (.refl _) (small_spec n hn) ?_
  rintro v I' M' - ⟨rfl, rfl, rfl⟩
  exact ⟨_, _, .refl, rfl, rfl, rfl⟩
theorem Itoa1_spec {I : GH} (n : Nat) (hn : n < 100) : Spec Tryd.prog 111 [.int .i64 n] I [] fun r I' M' => r = .string (digS n) ∧ I' = I ∧ M' = [] := by
  refine spec_of_V [] TrydEOK Tryd.func111 rfl rfl rfl ?_
  intro B h0
  refine CallOb.mk [] [] _ (.refl _) (FormatInt_spec n hn) ?_
  rintro v I' M' - ⟨rfl, rfl, rfl⟩
  exact ⟨_, _, .refl, rfl, rfl, rfl⟩
theorem Itoa_spec {I : GH} (n : Nat) (hn : n < 100) : Spec Tryd.prog 107 [.int .i64 n] I [] fun r I' M' => r = .string (digS n) ∧ I' = I ∧ M' = [] := by
  refine spec_of_V [] TrydEOK Tryd.func107 rfl rfl rfl ?_
  intro B h0
  refine CallOb.mk [] [] _ (.refl _) (Itoa1_spec n hn) ?_
  rintro v I' M' - ⟨rfl, rfl, rfl⟩
  exact ⟨_, _, .refl, rfl, rfl, rfl⟩
theorem Show_spec {I : GH} (n : Nat) (hn : n < 100) : Spec Tryd.prog 102 [.int .i64 n] I [] fun r I' M' => r = .string (digS n) ∧ I' = I ∧ M' = [] := by
  refine spec_of_V [] TrydEOK Tryd.func102 rfl rfl rfl ?_
  intro B h0
  refine CallOb.mk [] [] _ (.refl _) (Itoa_spec n hn) ?_
  rintro v I' M' - ⟨rfl, rfl, rfl⟩
  exact ⟨_, _, .refl, rfl, rfl, rfl⟩

/-! ### wraps -/
def wrapsV (node kid : Int) : Bool :=
  bif decide (node = 5) then decide (kid = 5) else
  bif decide (node = 4) || (decide (node = 7) || decide (node = 8)) then decide (kid = 4) || decide (kid = 5) else
  bif decide (node = 6) then decide (kid = 4) || (decide (kid = 5) || (decide (kid = 6) || (decide (kid = 7) || decide (kid = 8)))) else false

theorem wraps_spec {I : GH} (a b : Int) : Spec Tryd.prog 93 [.int .u8 a, .int .u8 b] I [] fun r I' M' => r = .bool (wrapsV a b) ∧ I' = I ∧ M' = [] := by
  refine spec_of_V [] TrydEOK Tryd.func93 rfl rfl rfl ?_
  intro B h0
  refine CondOb.mk (fun h1 => ?_) (fun h1 => ?_)
  · refine ⟨_, _, .refl, ?_, rfl, rfl⟩
    simp only [wrapsV, h1]
    rfl
  · have two : ∀ (I1 : GH) (h : (decide (a = 4) || (decide (a = 7) || decide (a = 8))) = true), wrapsV a b = (decide (b = 4) || decide (b = 5)) := fun _ h => by
      simp only [wrapsV, h1, h]
      rfl
    have two' : (decide (a = 4) || (decide (a = 7) || decide (a = 8))) = true → GuardOb (decide (b = 4)) false (RetOb [] I [] fun I' M' => Value.bool (decide (b = 5)) = .bool (wrapsV a b) ∧ I' = I ∧ M' = []) (RetOb [] I [] fun I' M' => Value.bool true = .bool (wrapsV a b) ∧ I' = I ∧ M' = []) := fun h => by
      refine GuardOb.mk (fun h4 => ?_) (fun h4 => ?_)
      · refine ⟨_, _, .refl, ?_, rfl, rfl⟩
        rw [two I h, h4]
        rfl
      · refine ⟨_, _, .refl, ?_, rfl, rfl⟩
        rw [two I h, h4]
        rfl
    refine CondOb.mk (fun h2 => ?_) (fun h2 => ?_)
    · refine CondOb.mk (fun _ => ?_) (fun h => by rw [h2] at h; cases h)
      exact two' (by rw [h2]; rfl)
    · refine CondOb.mk (fun h3 => ?_) (fun h3 => ?_)
      · refine CondOb.mk (fun _ => ?_) (fun h => by rw [h3] at h; cases h)
        exact two' (by rw [h3]; simp)
      · refine CondOb.mk (fun h4 => ?_) (fun h4 => ?_)
        · exact two' (by rw [h4]; simp)
        · have hw : wrapsV a b = (bif decide (a = 6) then decide (b = 4) || (decide (b = 5) || (decide (b = 6) || (decide (b = 7) || decide (b = 8)))) else false) := by
            simp only [wrapsV, h1, h2, h3, h4]
            rfl
          refine CondOb.mk (fun h5 => ?_) (fun h5 => ?_)
          · rw [h5] at hw
            simp only [cond_true] at hw
            refine GuardOb.mk (fun k1 => ?_) (fun k1 => ?_)
            · refine GuardOb.mk (fun k2 => ?_) (fun k2 => ?_)
              · refine GuardOb.mk (fun k3 => ?_) (fun k3 => ?_)
                · refine GuardOb.mk (fun k4 => ?_) (fun k4 => ?_)
                  · refine ⟨_, _, .refl, ?_, rfl, rfl⟩
                    rw [hw, k1, k2, k3, k4]
                    rfl
                  · refine ⟨_, _, .refl, ?_, rfl, rfl⟩
                    rw [hw, k1, k2, k3, k4]
                    rfl
                · refine ⟨_, _, .refl, ?_, rfl, rfl⟩
                  rw [hw, k1, k2, k3]
                  rfl
              · refine ⟨_, _, .refl, ?_, rfl, rfl⟩
                rw [hw, k1, k2]
                rfl
            · refine ⟨_, _, .refl, ?_, rfl, rfl⟩
              rw [hw, k1]
              rfl
          · refine ⟨_, _, .refl, ?_, rfl, rfl⟩
            rw [hw, h5]
            rfl
end Go.V
