/-
  Walks: bonsairef04.Fits (of nodes whose set is empty).
-/
import Derived.Test.YtcccmnppfmfkiaaDoorWm
set_option linter.unusedVariables false
set_option linter.unusedSimpArgs false
namespace Go.V
open Go Go.Proofs

def plainR (d : Nd) : Bool := decide (d.t = ⟨#[]⟩) && (decide (d.lo = 0) && decide (d.hi = 0))
def fitsR (d : Nd) (n : Int) : Bool :=
  bif decide (d.k = 0) then plainR d && decide (n = 0) else
  bif decide (d.k = 1) then plainR d && decide (n = 0) else
  bif decide (d.k = 2) then decide (d.lo = 0) && (decide (d.hi = 0) && (decide (n = 0) && (decide ((1 : Int) ≤ d.t.size) && decide ((d.t.size : Int) ≤ 255)))) else
  bif decide (d.k = 3) then decide (d.lo = 0) && (decide (d.hi = 0) && (decide (n = 0) && mayName d.t)) else
  bif decide (d.k = 4) || decide (d.k = 5) then plainR d && decide (2 ≤ n) else
  bif decide (d.k = 6) then decide (d.t = ⟨#[]⟩) && (decide (n = 1) && (decide (0 ≤ d.lo) && (decide (d.lo ≤ 99) && (decide (d.hi = -1) || (decide (d.lo ≤ d.hi) && decide (d.hi ≤ 99)))))) else
  bif decide (d.k = 7) || decide (d.k = 8) then plainR d && decide (n = 1) else
  bif decide (d.k = 9) then decide (d.lo = 0) && (decide (d.hi = 0) && (decide (n = 1) && mayName d.t)) else false

set_option maxHeartbeats 40000000 in
set_option maxRecDepth 20000 in
theorem RFits_spec {I : GH} (k : Int) (s : ByteArray) (lo hi : Int) (ka : Option Addr) (kn kc : Nat) (kids : List Int) (n : Int) : Spec Tryd.prog 51 [.agg #[.int .u8 k, .int .u64 0, .int .u64 0, .int .u64 0, .int .u64 0, .string s, .int .i64 lo, .int .i64 hi, .slice ka kn kc], .int .i64 n] I []
    (fun v I' M' => v = .bool (fitsR ⟨k, 0, 0, 0, 0, s, lo, hi, ka, kn, kc, kids⟩ n) ∧ I' = I ∧ M' = []) := by
  refine spec_of_V [] TrydEOK Tryd.func51 rfl rfl rfl ?_
  intro B h0
  refine BinOb.eq4 TrydEOK (e := 27) rfl rfl rfl rfl (by kernel_rfl) ?_
  refine GuardOb.mk (fun _ => ?_) (fun h => by cases h)
  have e1 : ∀ {b : Bool}, b = true → (!b) = false := fun h => by rw [h]; rfl
  repeat' (first
    | refine GuardOb.mk (fun h => ?_) (fun h => ?_)
    | refine CondOb.mk (fun h => ?_) (fun h => ?_)
    | refine BinOb.eq4 TrydEOK (e := 27) rfl rfl rfl rfl (by kernel_rfl) ?_
    | (refine CallOb.mk [] [] _ (.refl _) (RMay_spec _ s) ?_; rintro v I' M' - ⟨rfl, rfl, rfl⟩))
  all_goals first
    | (refine ⟨_, _, .refl, ?_, rfl, rfl⟩; simp_all [fitsR, plainR]; done)
    | (refine ⟨_, _, .refl, ?_, rfl, rfl⟩; simp_all [fitsR, plainR]; omega)
    | (exfalso; simp_all; done)
    | (exfalso; simp_all; omega)
    | skip
end Go.V
