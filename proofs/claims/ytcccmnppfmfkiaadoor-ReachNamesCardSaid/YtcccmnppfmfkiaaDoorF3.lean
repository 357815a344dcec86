/-
  What all cards of this seat share: a world for the witness.
-/
import Derived.Test.YtcccmnppfmfkiaaDoorF2
import Derived.Test.YtcccmnppfmfkiaaDoorCards
import Derived.Test.YtcccmnppfmfkiaaDoorTie
import Derived.WalkKit
import Derived.ProofKit
set_option linter.unusedVariables false
set_option linter.unusedSimpArgs false
namespace Go.V
open Go Go.Proofs

def setC (cs : Array Value) : Obj → Obj
  | .cells _ t fr => .cells cs t fr
  | o => o
def pow10L : List Int := (List.range 20).map fun i => (10 : Int) ^ i
def deb32L : List Int := [0, 1, 28, 2, 29, 14, 24, 3, 30, 22, 20, 15, 25, 17, 4, 8, 31, 27, 13, 23, 21, 19, 16, 7, 26, 12, 18, 6, 11, 5, 10, 9]
/-- A world for the witness: the settled one, the tables laid. -/
noncomputable def laidWorld (os : Os) : World :=
  { World.holding Tryd.prog os ⟨#[], #[], []⟩ with heap := ((((((World.holding Tryd.prog os ⟨#[], #[], []⟩).heap.modify 0 (setC (countsL.map (Value.int .i64)).toArray)).modify 2 (setC pcountsV.toArray)).modify 1 (setC (signsL.map fun l => Value.string (strOf l)).toArray)).modify 3 (setC (debL.map (Value.int .u8)).toArray)).modify 5 (setC (pow10L.map (Value.int .u64)).toArray)).modify 6 (setC (deb32L.map (Value.int .u8)).toArray) }
theorem own : ownKnob Tryd.prog.godebug = none := by kernel_rfl
theorem laidOut : laidOutB Tryd.prog = true := by kernel_rfl
theorem all_mem {α : Type} {l : List α} {q : α → Bool} (h : l.all q = true) {x : α} (hx : x ∈ l) : q x = true := List.all_eq_true.1 h x hx
theorem tabs_ghost {W : World} {L : List (String × DataW Unit)} (hL : laidMetH Tryd.prog L W) (he : L = [("math/bits.deBruijn32tab", YtcccmnppfmfkiaaDoor.Rows.laid_math_bits_deBruijn32tab), ("math/bits.deBruijn64tab", YtcccmnppfmfkiaaDoor.Rows.laid_math_bits_deBruijn64tab), ("internal/strconv.uint64pow10", YtcccmnppfmfkiaaDoor.Rows.laid_internal_strconv_uint64pow10), ("bonsai/tree.counts", YtcccmnppfmfkiaaDoor.Rows.laid_bonsai_tree_counts), ("bonsai/print.counts", YtcccmnppfmfkiaaDoor.Rows.laid_bonsai_print_counts), ("bonsai/print.signs", YtcccmnppfmfkiaaDoor.Rows.laid_bonsai_print_signs)]) : Tabs (ghost W) debL := by
  subst he
  exact tabs_of_laid (rest := []) hL
end Go.V
