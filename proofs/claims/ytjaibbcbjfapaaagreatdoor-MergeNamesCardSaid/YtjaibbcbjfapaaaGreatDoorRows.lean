/-
  NARROWER THAN 'FOR EVERY INPUT', by the rows' own cells (each row's printed sentence says how): MergeTwo: laid · MergeTells: laid · MergeMerged: laid · MergeMeans: laid · InlineMeans: laid · InlineTells: laid · FactorTwo: laid · FactorTells: laid · FactorAll: laid · FactorCommon: laid · FactorMeans: laid · MergeNames: laid.
  DERIVED. THE GIVEN ROWS OF THIS SEAT. 12 by the template 'for every input the law returns true; each argument reads behind the call as it read before'; 0 by the template 'total and deterministic' (their statements: YtjaibbcbjfapaaaGreatDoorTotals.lean).
  GIVEN WITH THE SEED: the statements are not yours to turn. If you find one false, say at which input.
  Laid BY PROGRAM, IN A SANDBOX (cutbox-rows.mjs): the forced cells as the released guide's own fill.sh prints them over the translation cc4e18768d49017f… (all of the seat's roots in one cut). By AI agents, Wed Nov 11 2026. No macro, syntax, notation, axiom, sorry.
-/
import Derived.Test.YtjaibbcbjfapaaaGreatDoorChecked
import GoSem.Claim
import GoSem.ClaimJoined
import GoSem.ClaimMapViews
import Derived.JoinedTies
import Derived.KernelRfl
namespace Go.Proofs.YtjaibbcbjfapaaaGreatDoor
/- THE CELL 'sum', in the pinned program and in every row, IS THE sha256 OF THE DUMP (.gsa) THAT YtjaibbcbjfapaaaGreatDoorProg.lean LOADS. Nothing in Lean hashes anything: it is a label: what it is worth is what the hold of that sum in a sandbox is worth. -/
noncomputable def Tryz.pinned : Pinned := { name := "ytjaibbcbjfapaaagreatdoor", sum := "cc4e18768d49017f837072253740c0658f93c3702564dc0c1067ca7de7940aa7", checked := Tryz.checked }
namespace Rows
def none {H : Type} : Left H := { results := [], args := [] }

/- WHAT THE LISTED PACKAGE-LEVEL VARIABLES READ AS WHEN THE CALL BEGINS. Each datum BY PROGRAM (the guide's laid-datum.mjs) off the statement by which the dump's own 'gosem.cut.vars' lays the variable. In a bare row this is a premise. The card (YtjaibbcbjfapaaaGreatDoorCards.lean) ties it to the program's text. -/
def laid_math_bits_deBruijn32tab {H : Type} : DataW H := .agg [.lit (.int .u8 0), .lit (.int .u8 1), .lit (.int .u8 28), .lit (.int .u8 2), .lit (.int .u8 29), .lit (.int .u8 14), .lit (.int .u8 24), .lit (.int .u8 3), .lit (.int .u8 30), .lit (.int .u8 22), .lit (.int .u8 20), .lit (.int .u8 15), .lit (.int .u8 25), .lit (.int .u8 17), .lit (.int .u8 4), .lit (.int .u8 8), .lit (.int .u8 31), .lit (.int .u8 27), .lit (.int .u8 13), .lit (.int .u8 23), .lit (.int .u8 21), .lit (.int .u8 19), .lit (.int .u8 16), .lit (.int .u8 7), .lit (.int .u8 26), .lit (.int .u8 12), .lit (.int .u8 18), .lit (.int .u8 6), .lit (.int .u8 11), .lit (.int .u8 5), .lit (.int .u8 10), .lit (.int .u8 9)]
def laid_math_bits_deBruijn64tab {H : Type} : DataW H := .agg [.lit (.int .u8 0), .lit (.int .u8 1), .lit (.int .u8 56), .lit (.int .u8 2), .lit (.int .u8 57), .lit (.int .u8 49), .lit (.int .u8 28), .lit (.int .u8 3), .lit (.int .u8 61), .lit (.int .u8 58), .lit (.int .u8 42), .lit (.int .u8 50), .lit (.int .u8 38), .lit (.int .u8 29), .lit (.int .u8 17), .lit (.int .u8 4), .lit (.int .u8 62), .lit (.int .u8 47), .lit (.int .u8 59), .lit (.int .u8 36), .lit (.int .u8 45), .lit (.int .u8 43), .lit (.int .u8 51), .lit (.int .u8 22), .lit (.int .u8 53), .lit (.int .u8 39), .lit (.int .u8 33), .lit (.int .u8 30), .lit (.int .u8 24), .lit (.int .u8 18), .lit (.int .u8 12), .lit (.int .u8 5), .lit (.int .u8 63), .lit (.int .u8 55), .lit (.int .u8 48), .lit (.int .u8 27), .lit (.int .u8 60), .lit (.int .u8 41), .lit (.int .u8 37), .lit (.int .u8 16), .lit (.int .u8 46), .lit (.int .u8 35), .lit (.int .u8 44), .lit (.int .u8 21), .lit (.int .u8 52), .lit (.int .u8 32), .lit (.int .u8 23), .lit (.int .u8 11), .lit (.int .u8 54), .lit (.int .u8 26), .lit (.int .u8 40), .lit (.int .u8 15), .lit (.int .u8 34), .lit (.int .u8 20), .lit (.int .u8 31), .lit (.int .u8 10), .lit (.int .u8 25), .lit (.int .u8 14), .lit (.int .u8 19), .lit (.int .u8 9), .lit (.int .u8 13), .lit (.int .u8 8), .lit (.int .u8 7), .lit (.int .u8 6)]
def laid_internal_strconv_uint64pow10 {H : Type} : DataW H := .agg [.lit (.int .u64 1), .lit (.int .u64 10), .lit (.int .u64 100), .lit (.int .u64 1000), .lit (.int .u64 10000), .lit (.int .u64 100000), .lit (.int .u64 1000000), .lit (.int .u64 10000000), .lit (.int .u64 100000000), .lit (.int .u64 1000000000), .lit (.int .u64 10000000000), .lit (.int .u64 100000000000), .lit (.int .u64 1000000000000), .lit (.int .u64 10000000000000), .lit (.int .u64 100000000000000), .lit (.int .u64 1000000000000000), .lit (.int .u64 10000000000000000), .lit (.int .u64 100000000000000000), .lit (.int .u64 1000000000000000000), .lit (.int .u64 10000000000000000000)]
def laid_bonsai_tree_counts {H : Type} : DataW H := .agg [.agg [.lit (.int .i64 0), .lit (.int .i64 0)], .agg [.lit (.int .i64 0), .lit (.int .i64 0)], .agg [.lit (.int .i64 0), .lit (.int .i64 0)], .agg [.lit (.int .i64 0), .lit (.int .i64 0)], .agg [.lit (.int .i64 2), .lit (.int .i64 (-1))], .agg [.lit (.int .i64 2), .lit (.int .i64 (-1))], .agg [.lit (.int .i64 1), .lit (.int .i64 1)], .agg [.lit (.int .i64 1), .lit (.int .i64 1)], .agg [.lit (.int .i64 1), .lit (.int .i64 1)], .agg [.lit (.int .i64 1), .lit (.int .i64 1)]]
def laid_bonsai_print_counts {H : Type} : DataW H := .agg [.agg [.lit (.int .i64 0), .lit (.int .i64 1), .lit (.string [63])], .agg [.lit (.int .i64 0), .lit (.int .i64 (-1)), .lit (.string [42])], .agg [.lit (.int .i64 1), .lit (.int .i64 (-1)), .lit (.string [43])]]
def laid_bonsai_print_signs {H : Type} : DataW H := .agg [.agg [.lit (.string []), .lit (.string []), .lit (.string [])], .agg [.lit (.string []), .lit (.string []), .lit (.string [])], .agg [.lit (.string []), .lit (.string []), .lit (.string [])], .agg [.lit (.string []), .lit (.string []), .lit (.string [])], .agg [.lit (.string []), .lit (.string [32]), .lit (.string [])], .agg [.lit (.string []), .lit (.string [32, 47, 32]), .lit (.string [])], .agg [.lit (.string []), .lit (.string []), .lit (.string [])], .agg [.lit (.string [38]), .lit (.string []), .lit (.string [])], .agg [.lit (.string [33]), .lit (.string []), .lit (.string [])], .agg [.lit (.string [60]), .lit (.string []), .lit (.string [62])]]

/-- 'bonsailaw23.MergeTwo': WHATEVER THE INPUT: true; the input reads as it did. -/
def mergeTwoSpec : ChangeSpec := { name := "mergeTwo", fn := fun _ => fun
  | [d1, d2, d3] => { results := [.lit (.bool true)], args := [d1, d2, d3] }
  | _ => none }
def mergeTwoRow : OpenClaim := { program := "ytjaibbcbjfapaaagreatdoor", sum := "cc4e18768d49017f837072253740c0658f93c3702564dc0c1067ca7de7940aa7", func := "bonsai/bonsailaw23.MergeTwo", spec := "mergeTwo", inPlace := ["internal/bytealg.IndexByteString", "internal/bytealg.IndexString", "internal/abi.NoEscape"], unfollowed := true, recurses := true, named := ["internal/bytealg.MaxLen", "bonsai/tree.counts", "bonsai/print.signs", "math/bits.deBruijn64tab", "bonsai/print.counts", "internal/strconv.uint64pow10", "math/bits.deBruijn32tab"], apart := false, laid := [("math/bits.deBruijn32tab", laid_math_bits_deBruijn32tab), ("math/bits.deBruijn64tab", laid_math_bits_deBruijn64tab), ("internal/strconv.uint64pow10", laid_internal_strconv_uint64pow10), ("bonsai/tree.counts", laid_bonsai_tree_counts), ("bonsai/print.counts", laid_bonsai_print_counts), ("bonsai/print.signs", laid_bonsai_print_signs)] }
def MergeTwoSaid : Prop := mergeTwoRow.holds Tryz.pinned (OpenSpec.ofChange mergeTwoSpec)

/-- ITS FALSE NEIGHBOUR: 'it returns false'. Refute it at one input. -/
def mergeTwoWrong : ChangeSpec := { name := "mergeTwo", fn := fun _ => fun
  | [d1, d2, d3] => { results := [.lit (.bool false)], args := [d1, d2, d3] }
  | _ => none }
def MergeTwoWrongFalsely : Prop := mergeTwoRow.holds Tryz.pinned (OpenSpec.ofChange mergeTwoWrong)

/-- 'bonsailaw23.MergeTells': WHATEVER THE INPUT: true; the input reads as it did. -/
def mergeTellsSpec : ChangeSpec := { name := "mergeTells", fn := fun _ => fun
  | [d1, d2] => { results := [.lit (.bool true)], args := [d1, d2] }
  | _ => none }
def mergeTellsRow : OpenClaim := { program := "ytjaibbcbjfapaaagreatdoor", sum := "cc4e18768d49017f837072253740c0658f93c3702564dc0c1067ca7de7940aa7", func := "bonsai/bonsailaw23.MergeTells", spec := "mergeTells", inPlace := ["internal/bytealg.IndexByteString", "internal/bytealg.IndexString", "internal/abi.NoEscape"], unfollowed := true, recurses := true, named := ["internal/bytealg.MaxLen", "bonsai/tree.counts", "bonsai/print.signs", "math/bits.deBruijn64tab", "bonsai/print.counts", "internal/strconv.uint64pow10", "math/bits.deBruijn32tab"], apart := false, laid := [("math/bits.deBruijn32tab", laid_math_bits_deBruijn32tab), ("math/bits.deBruijn64tab", laid_math_bits_deBruijn64tab), ("internal/strconv.uint64pow10", laid_internal_strconv_uint64pow10), ("bonsai/tree.counts", laid_bonsai_tree_counts), ("bonsai/print.counts", laid_bonsai_print_counts), ("bonsai/print.signs", laid_bonsai_print_signs)] }
def MergeTellsSaid : Prop := mergeTellsRow.holds Tryz.pinned (OpenSpec.ofChange mergeTellsSpec)

/-- ITS FALSE NEIGHBOUR: 'it returns false'. Refute it at one input. -/
def mergeTellsWrong : ChangeSpec := { name := "mergeTells", fn := fun _ => fun
  | [d1, d2] => { results := [.lit (.bool false)], args := [d1, d2] }
  | _ => none }
def MergeTellsWrongFalsely : Prop := mergeTellsRow.holds Tryz.pinned (OpenSpec.ofChange mergeTellsWrong)

/-- 'bonsailaw23.MergeMerged': WHATEVER THE INPUT: true; the input reads as it did. -/
def mergeMergedSpec : ChangeSpec := { name := "mergeMerged", fn := fun _ => fun
  | [d1, d2, d3, d4] => { results := [.lit (.bool true)], args := [d1, d2, d3, d4] }
  | _ => none }
def mergeMergedRow : OpenClaim := { program := "ytjaibbcbjfapaaagreatdoor", sum := "cc4e18768d49017f837072253740c0658f93c3702564dc0c1067ca7de7940aa7", func := "bonsai/bonsailaw23.MergeMerged", spec := "mergeMerged", inPlace := ["internal/bytealg.IndexByteString", "internal/bytealg.IndexString", "internal/abi.NoEscape"], unfollowed := true, recurses := true, named := ["internal/bytealg.MaxLen", "bonsai/tree.counts", "bonsai/print.signs", "math/bits.deBruijn64tab", "bonsai/print.counts", "internal/strconv.uint64pow10", "math/bits.deBruijn32tab"], apart := false, laid := [("math/bits.deBruijn32tab", laid_math_bits_deBruijn32tab), ("math/bits.deBruijn64tab", laid_math_bits_deBruijn64tab), ("internal/strconv.uint64pow10", laid_internal_strconv_uint64pow10), ("bonsai/tree.counts", laid_bonsai_tree_counts), ("bonsai/print.counts", laid_bonsai_print_counts), ("bonsai/print.signs", laid_bonsai_print_signs)] }
def MergeMergedSaid : Prop := mergeMergedRow.holds Tryz.pinned (OpenSpec.ofChange mergeMergedSpec)

/-- ITS FALSE NEIGHBOUR: 'it returns false'. Refute it at one input. -/
def mergeMergedWrong : ChangeSpec := { name := "mergeMerged", fn := fun _ => fun
  | [d1, d2, d3, d4] => { results := [.lit (.bool false)], args := [d1, d2, d3, d4] }
  | _ => none }
def MergeMergedWrongFalsely : Prop := mergeMergedRow.holds Tryz.pinned (OpenSpec.ofChange mergeMergedWrong)

/-- 'bonsailaw23.MergeMeans': WHATEVER THE INPUT: true; the input reads as it did. -/
def mergeMeansSpec : ChangeSpec := { name := "mergeMeans", fn := fun _ => fun
  | [d1, d2] => { results := [.lit (.bool true)], args := [d1, d2] }
  | _ => none }
def mergeMeansRow : OpenClaim := { program := "ytjaibbcbjfapaaagreatdoor", sum := "cc4e18768d49017f837072253740c0658f93c3702564dc0c1067ca7de7940aa7", func := "bonsai/bonsailaw23.MergeMeans", spec := "mergeMeans", inPlace := ["internal/bytealg.IndexByteString", "internal/bytealg.IndexString", "internal/abi.NoEscape"], unfollowed := true, recurses := true, named := ["internal/bytealg.MaxLen", "bonsai/tree.counts", "bonsai/print.signs", "math/bits.deBruijn64tab", "bonsai/print.counts", "internal/strconv.uint64pow10", "math/bits.deBruijn32tab"], apart := false, laid := [("math/bits.deBruijn32tab", laid_math_bits_deBruijn32tab), ("math/bits.deBruijn64tab", laid_math_bits_deBruijn64tab), ("internal/strconv.uint64pow10", laid_internal_strconv_uint64pow10), ("bonsai/tree.counts", laid_bonsai_tree_counts), ("bonsai/print.counts", laid_bonsai_print_counts), ("bonsai/print.signs", laid_bonsai_print_signs)] }
def MergeMeansSaid : Prop := mergeMeansRow.holds Tryz.pinned (OpenSpec.ofChange mergeMeansSpec)

/-- ITS FALSE NEIGHBOUR: 'it returns false'. Refute it at one input. -/
def mergeMeansWrong : ChangeSpec := { name := "mergeMeans", fn := fun _ => fun
  | [d1, d2] => { results := [.lit (.bool false)], args := [d1, d2] }
  | _ => none }
def MergeMeansWrongFalsely : Prop := mergeMeansRow.holds Tryz.pinned (OpenSpec.ofChange mergeMeansWrong)

/-- 'bonsailaw19.InlineMeans': WHATEVER THE INPUT: true; the input reads as it did. -/
def inlineMeansSpec : ChangeSpec := { name := "inlineMeans", fn := fun _ => fun
  | [d1, d2] => { results := [.lit (.bool true)], args := [d1, d2] }
  | _ => none }
def inlineMeansRow : OpenClaim := { program := "ytjaibbcbjfapaaagreatdoor", sum := "cc4e18768d49017f837072253740c0658f93c3702564dc0c1067ca7de7940aa7", func := "bonsai/bonsailaw19.InlineMeans", spec := "inlineMeans", inPlace := ["internal/bytealg.IndexByteString", "internal/bytealg.IndexString", "internal/abi.NoEscape"], unfollowed := true, recurses := true, named := ["internal/bytealg.MaxLen", "bonsai/tree.counts", "bonsai/print.signs", "math/bits.deBruijn64tab", "bonsai/print.counts", "internal/strconv.uint64pow10", "math/bits.deBruijn32tab"], apart := false, laid := [("math/bits.deBruijn32tab", laid_math_bits_deBruijn32tab), ("math/bits.deBruijn64tab", laid_math_bits_deBruijn64tab), ("internal/strconv.uint64pow10", laid_internal_strconv_uint64pow10), ("bonsai/tree.counts", laid_bonsai_tree_counts), ("bonsai/print.counts", laid_bonsai_print_counts), ("bonsai/print.signs", laid_bonsai_print_signs)] }
def InlineMeansSaid : Prop := inlineMeansRow.holds Tryz.pinned (OpenSpec.ofChange inlineMeansSpec)

/-- ITS FALSE NEIGHBOUR: 'it returns false'. Refute it at one input. -/
def inlineMeansWrong : ChangeSpec := { name := "inlineMeans", fn := fun _ => fun
  | [d1, d2] => { results := [.lit (.bool false)], args := [d1, d2] }
  | _ => none }
def InlineMeansWrongFalsely : Prop := inlineMeansRow.holds Tryz.pinned (OpenSpec.ofChange inlineMeansWrong)

/-- 'bonsailaw19.InlineTells': WHATEVER THE INPUT: true; the input reads as it did. -/
def inlineTellsSpec : ChangeSpec := { name := "inlineTells", fn := fun _ => fun
  | [d1, d2, d3] => { results := [.lit (.bool true)], args := [d1, d2, d3] }
  | _ => none }
def inlineTellsRow : OpenClaim := { program := "ytjaibbcbjfapaaagreatdoor", sum := "cc4e18768d49017f837072253740c0658f93c3702564dc0c1067ca7de7940aa7", func := "bonsai/bonsailaw19.InlineTells", spec := "inlineTells", inPlace := ["internal/bytealg.IndexByteString", "internal/bytealg.IndexString", "internal/abi.NoEscape"], unfollowed := true, recurses := true, named := ["internal/bytealg.MaxLen", "bonsai/tree.counts", "bonsai/print.signs", "math/bits.deBruijn64tab", "bonsai/print.counts", "internal/strconv.uint64pow10", "math/bits.deBruijn32tab"], apart := false, laid := [("math/bits.deBruijn32tab", laid_math_bits_deBruijn32tab), ("math/bits.deBruijn64tab", laid_math_bits_deBruijn64tab), ("internal/strconv.uint64pow10", laid_internal_strconv_uint64pow10), ("bonsai/tree.counts", laid_bonsai_tree_counts), ("bonsai/print.counts", laid_bonsai_print_counts), ("bonsai/print.signs", laid_bonsai_print_signs)] }
def InlineTellsSaid : Prop := inlineTellsRow.holds Tryz.pinned (OpenSpec.ofChange inlineTellsSpec)

/-- ITS FALSE NEIGHBOUR: 'it returns false'. Refute it at one input. -/
def inlineTellsWrong : ChangeSpec := { name := "inlineTells", fn := fun _ => fun
  | [d1, d2, d3] => { results := [.lit (.bool false)], args := [d1, d2, d3] }
  | _ => none }
def InlineTellsWrongFalsely : Prop := inlineTellsRow.holds Tryz.pinned (OpenSpec.ofChange inlineTellsWrong)

/-- 'bonsailaw21.FactorTwo': WHATEVER THE INPUT: true; the input reads as it did. -/
def factorTwoSpec : ChangeSpec := { name := "factorTwo", fn := fun _ => fun
  | [d1, d2] => { results := [.lit (.bool true)], args := [d1, d2] }
  | _ => none }
def factorTwoRow : OpenClaim := { program := "ytjaibbcbjfapaaagreatdoor", sum := "cc4e18768d49017f837072253740c0658f93c3702564dc0c1067ca7de7940aa7", func := "bonsai/bonsailaw21.FactorTwo", spec := "factorTwo", inPlace := ["internal/bytealg.IndexByteString", "internal/bytealg.IndexString", "internal/abi.NoEscape", "slices.overlaps[bonsai/api.Tree]"], unfollowed := true, recurses := true, named := ["internal/bytealg.MaxLen", "bonsai/tree.counts", "bonsai/print.signs", "math/bits.deBruijn64tab", "bonsai/print.counts", "internal/strconv.uint64pow10", "math/bits.deBruijn32tab"], apart := false, laid := [("math/bits.deBruijn32tab", laid_math_bits_deBruijn32tab), ("math/bits.deBruijn64tab", laid_math_bits_deBruijn64tab), ("internal/strconv.uint64pow10", laid_internal_strconv_uint64pow10), ("bonsai/tree.counts", laid_bonsai_tree_counts), ("bonsai/print.counts", laid_bonsai_print_counts), ("bonsai/print.signs", laid_bonsai_print_signs)] }
def FactorTwoSaid : Prop := factorTwoRow.holds Tryz.pinned (OpenSpec.ofChange factorTwoSpec)

/-- ITS FALSE NEIGHBOUR: 'it returns false'. Refute it at one input. -/
def factorTwoWrong : ChangeSpec := { name := "factorTwo", fn := fun _ => fun
  | [d1, d2] => { results := [.lit (.bool false)], args := [d1, d2] }
  | _ => none }
def FactorTwoWrongFalsely : Prop := factorTwoRow.holds Tryz.pinned (OpenSpec.ofChange factorTwoWrong)

/-- 'bonsailaw21.FactorTells': WHATEVER THE INPUT: true; the input reads as it did. -/
def factorTellsSpec : ChangeSpec := { name := "factorTells", fn := fun _ => fun
  | [d1, d2] => { results := [.lit (.bool true)], args := [d1, d2] }
  | _ => none }
def factorTellsRow : OpenClaim := { program := "ytjaibbcbjfapaaagreatdoor", sum := "cc4e18768d49017f837072253740c0658f93c3702564dc0c1067ca7de7940aa7", func := "bonsai/bonsailaw21.FactorTells", spec := "factorTells", inPlace := ["internal/bytealg.IndexByteString", "internal/bytealg.IndexString", "internal/abi.NoEscape", "slices.overlaps[bonsai/api.Tree]"], unfollowed := true, recurses := true, named := ["internal/bytealg.MaxLen", "bonsai/tree.counts", "bonsai/print.signs", "math/bits.deBruijn64tab", "bonsai/print.counts", "internal/strconv.uint64pow10", "math/bits.deBruijn32tab"], apart := false, laid := [("math/bits.deBruijn32tab", laid_math_bits_deBruijn32tab), ("math/bits.deBruijn64tab", laid_math_bits_deBruijn64tab), ("internal/strconv.uint64pow10", laid_internal_strconv_uint64pow10), ("bonsai/tree.counts", laid_bonsai_tree_counts), ("bonsai/print.counts", laid_bonsai_print_counts), ("bonsai/print.signs", laid_bonsai_print_signs)] }
def FactorTellsSaid : Prop := factorTellsRow.holds Tryz.pinned (OpenSpec.ofChange factorTellsSpec)

/-- ITS FALSE NEIGHBOUR: 'it returns false'. Refute it at one input. -/
def factorTellsWrong : ChangeSpec := { name := "factorTells", fn := fun _ => fun
  | [d1, d2] => { results := [.lit (.bool false)], args := [d1, d2] }
  | _ => none }
def FactorTellsWrongFalsely : Prop := factorTellsRow.holds Tryz.pinned (OpenSpec.ofChange factorTellsWrong)

/-- 'bonsailaw21.FactorAll': WHATEVER THE INPUT: true; the input reads as it did. -/
def factorAllSpec : ChangeSpec := { name := "factorAll", fn := fun _ => fun
  | [d] => { results := [.lit (.bool true)], args := [d] }
  | _ => none }
def factorAllRow : OpenClaim := { program := "ytjaibbcbjfapaaagreatdoor", sum := "cc4e18768d49017f837072253740c0658f93c3702564dc0c1067ca7de7940aa7", func := "bonsai/bonsailaw21.FactorAll", spec := "factorAll", inPlace := ["internal/bytealg.IndexByteString", "internal/bytealg.IndexString", "internal/abi.NoEscape", "slices.overlaps[bonsai/api.Tree]"], unfollowed := true, recurses := true, named := ["internal/bytealg.MaxLen", "bonsai/tree.counts", "bonsai/print.signs", "math/bits.deBruijn64tab", "bonsai/print.counts", "internal/strconv.uint64pow10", "math/bits.deBruijn32tab"], apart := false, laid := [("math/bits.deBruijn32tab", laid_math_bits_deBruijn32tab), ("math/bits.deBruijn64tab", laid_math_bits_deBruijn64tab), ("internal/strconv.uint64pow10", laid_internal_strconv_uint64pow10), ("bonsai/tree.counts", laid_bonsai_tree_counts), ("bonsai/print.counts", laid_bonsai_print_counts), ("bonsai/print.signs", laid_bonsai_print_signs)] }
def FactorAllSaid : Prop := factorAllRow.holds Tryz.pinned (OpenSpec.ofChange factorAllSpec)

/-- ITS FALSE NEIGHBOUR: 'it returns false'. Refute it at one input. -/
def factorAllWrong : ChangeSpec := { name := "factorAll", fn := fun _ => fun
  | [d] => { results := [.lit (.bool false)], args := [d] }
  | _ => none }
def FactorAllWrongFalsely : Prop := factorAllRow.holds Tryz.pinned (OpenSpec.ofChange factorAllWrong)

/-- 'bonsailaw21.FactorCommon': WHATEVER THE INPUT: true; the input reads as it did. -/
def factorCommonSpec : ChangeSpec := { name := "factorCommon", fn := fun _ => fun
  | [d1, d2, d3, d4] => { results := [.lit (.bool true)], args := [d1, d2, d3, d4] }
  | _ => none }
def factorCommonRow : OpenClaim := { program := "ytjaibbcbjfapaaagreatdoor", sum := "cc4e18768d49017f837072253740c0658f93c3702564dc0c1067ca7de7940aa7", func := "bonsai/bonsailaw21.FactorCommon", spec := "factorCommon", inPlace := ["internal/bytealg.IndexByteString", "internal/bytealg.IndexString", "internal/abi.NoEscape", "slices.overlaps[bonsai/api.Tree]"], unfollowed := true, recurses := true, named := ["internal/bytealg.MaxLen", "bonsai/tree.counts", "bonsai/print.signs", "math/bits.deBruijn64tab", "bonsai/print.counts", "internal/strconv.uint64pow10", "math/bits.deBruijn32tab"], apart := false, laid := [("math/bits.deBruijn32tab", laid_math_bits_deBruijn32tab), ("math/bits.deBruijn64tab", laid_math_bits_deBruijn64tab), ("internal/strconv.uint64pow10", laid_internal_strconv_uint64pow10), ("bonsai/tree.counts", laid_bonsai_tree_counts), ("bonsai/print.counts", laid_bonsai_print_counts), ("bonsai/print.signs", laid_bonsai_print_signs)] }
def FactorCommonSaid : Prop := factorCommonRow.holds Tryz.pinned (OpenSpec.ofChange factorCommonSpec)

/-- ITS FALSE NEIGHBOUR: 'it returns false'. Refute it at one input. -/
def factorCommonWrong : ChangeSpec := { name := "factorCommon", fn := fun _ => fun
  | [d1, d2, d3, d4] => { results := [.lit (.bool false)], args := [d1, d2, d3, d4] }
  | _ => none }
def FactorCommonWrongFalsely : Prop := factorCommonRow.holds Tryz.pinned (OpenSpec.ofChange factorCommonWrong)

/-- 'bonsailaw21.FactorMeans': WHATEVER THE INPUT: true; the input reads as it did. -/
def factorMeansSpec : ChangeSpec := { name := "factorMeans", fn := fun _ => fun
  | [d1, d2] => { results := [.lit (.bool true)], args := [d1, d2] }
  | _ => none }
def factorMeansRow : OpenClaim := { program := "ytjaibbcbjfapaaagreatdoor", sum := "cc4e18768d49017f837072253740c0658f93c3702564dc0c1067ca7de7940aa7", func := "bonsai/bonsailaw21.FactorMeans", spec := "factorMeans", inPlace := ["internal/bytealg.IndexByteString", "internal/bytealg.IndexString", "internal/abi.NoEscape", "slices.overlaps[bonsai/api.Tree]"], unfollowed := true, recurses := true, named := ["internal/bytealg.MaxLen", "bonsai/tree.counts", "bonsai/print.signs", "math/bits.deBruijn64tab", "bonsai/print.counts", "internal/strconv.uint64pow10", "math/bits.deBruijn32tab"], apart := false, laid := [("math/bits.deBruijn32tab", laid_math_bits_deBruijn32tab), ("math/bits.deBruijn64tab", laid_math_bits_deBruijn64tab), ("internal/strconv.uint64pow10", laid_internal_strconv_uint64pow10), ("bonsai/tree.counts", laid_bonsai_tree_counts), ("bonsai/print.counts", laid_bonsai_print_counts), ("bonsai/print.signs", laid_bonsai_print_signs)] }
def FactorMeansSaid : Prop := factorMeansRow.holds Tryz.pinned (OpenSpec.ofChange factorMeansSpec)

/-- ITS FALSE NEIGHBOUR: 'it returns false'. Refute it at one input. -/
def factorMeansWrong : ChangeSpec := { name := "factorMeans", fn := fun _ => fun
  | [d1, d2] => { results := [.lit (.bool false)], args := [d1, d2] }
  | _ => none }
def FactorMeansWrongFalsely : Prop := factorMeansRow.holds Tryz.pinned (OpenSpec.ofChange factorMeansWrong)

/-- 'bonsailaw23.MergeNames': WHATEVER THE INPUT: true; the input reads as it did. -/
def mergeNamesSpec : ChangeSpec := { name := "mergeNames", fn := fun _ => fun
  | [] => { results := [.lit (.bool true)], args := [] }
  | _ => none }
def mergeNamesRow : OpenClaim := { program := "ytjaibbcbjfapaaagreatdoor", sum := "cc4e18768d49017f837072253740c0658f93c3702564dc0c1067ca7de7940aa7", func := "bonsai/bonsailaw23.MergeNames", spec := "mergeNames", inPlace := ["internal/bytealg.IndexByteString", "internal/bytealg.IndexString", "internal/abi.NoEscape"], unfollowed := true, recurses := true, named := ["internal/bytealg.MaxLen", "bonsai/tree.counts", "bonsai/print.signs", "math/bits.deBruijn64tab", "bonsai/print.counts", "internal/strconv.uint64pow10", "math/bits.deBruijn32tab"], apart := false, laid := [("math/bits.deBruijn32tab", laid_math_bits_deBruijn32tab), ("math/bits.deBruijn64tab", laid_math_bits_deBruijn64tab), ("internal/strconv.uint64pow10", laid_internal_strconv_uint64pow10), ("bonsai/tree.counts", laid_bonsai_tree_counts), ("bonsai/print.counts", laid_bonsai_print_counts), ("bonsai/print.signs", laid_bonsai_print_signs)] }
def MergeNamesSaid : Prop := mergeNamesRow.holds Tryz.pinned (OpenSpec.ofChange mergeNamesSpec)

/-- ITS FALSE NEIGHBOUR: 'it returns false'. Refute it at one input. -/
def mergeNamesWrong : ChangeSpec := { name := "mergeNames", fn := fun _ => fun
  | [] => { results := [.lit (.bool false)], args := [] }
  | _ => none }
def MergeNamesWrongFalsely : Prop := mergeNamesRow.holds Tryz.pinned (OpenSpec.ofChange mergeNamesWrong)

/- THE SECOND FORM. 'bulk': how many values and letters a reading holds, each counted each time it is reached (what is shared counts as often as it is met; a slice's spare places count too). A statement '..UptoSaid' is the law's where the arguments, and the package variables that the reading takes, are together of bulk at most 1048576: NARROWER than '..Said'. Prove '..Said' where nothing that the law and all that it calls make is longer than what came in: it says more and counts as full. Else prove '..UptoSaid'. A law counts once. -/
mutual
def uptoBulk {H : Type} : DataW H → Nat
  | .lit (.string bytes) => bytes.length + 1
  | .lit _ => 1
  | .nil => 1
  | .ptr d => uptoBulk d + 1
  | .slice elems spare => uptoBulkAll elems + uptoBulkAll spare + 1
  | .agg parts => uptoBulkAll parts + 1
  | .iface _ d => uptoBulk d + 1
  | .map entries => uptoBulkEntries entries + 1
  | .held _ => 1
def uptoBulkAll {H : Type} : List (DataW H) → Nat
  | [] => 0
  | d :: r => uptoBulk d + uptoBulkAll r
def uptoBulkEntries {H : Type} : List (Lit × DataW H) → Nat
  | [] => 0
  | x :: r => uptoBulkEntry x + uptoBulkEntries r
def uptoBulkEntry {H : Type} : Lit × DataW H → Nat
  | (.string bytes, d) => bytes.length + uptoBulk d + 1
  | (_, d) => uptoBulk d + 1
 end
def uptoSmall : (H : Type) → List (DataW H) → Bool := fun _ ds => decide (uptoBulkAll ds ≤ 1048576)
def OpenSpec.upto (s : _root_.Go.ChangeSpec) : _root_.Go.OpenSpec := { _root_.Go.OpenSpec.ofChange s with cond := some uptoSmall }

/-- 'bonsailaw23.MergeTwo', WHERE WHAT IT READS IS OF BULK AT MOST 1048576: true; the input reads as it did. -/
def mergeTwoUptoRow : OpenClaim := { program := "ytjaibbcbjfapaaagreatdoor", sum := "cc4e18768d49017f837072253740c0658f93c3702564dc0c1067ca7de7940aa7", func := "bonsai/bonsailaw23.MergeTwo", spec := "mergeTwo", inPlace := ["internal/bytealg.IndexByteString", "internal/bytealg.IndexString", "internal/abi.NoEscape"], unfollowed := true, recurses := true, named := ["internal/bytealg.MaxLen", "bonsai/tree.counts", "bonsai/print.signs", "math/bits.deBruijn64tab", "bonsai/print.counts", "internal/strconv.uint64pow10", "math/bits.deBruijn32tab"], apart := false, laid := [("math/bits.deBruijn32tab", laid_math_bits_deBruijn32tab), ("math/bits.deBruijn64tab", laid_math_bits_deBruijn64tab), ("internal/strconv.uint64pow10", laid_internal_strconv_uint64pow10), ("bonsai/tree.counts", laid_bonsai_tree_counts), ("bonsai/print.counts", laid_bonsai_print_counts), ("bonsai/print.signs", laid_bonsai_print_signs)], narrowed := true }
def MergeTwoUptoSaid : Prop := mergeTwoUptoRow.holds Tryz.pinned (OpenSpec.upto mergeTwoSpec)

/-- 'bonsailaw23.MergeTells', WHERE WHAT IT READS IS OF BULK AT MOST 1048576: true; the input reads as it did. -/
def mergeTellsUptoRow : OpenClaim := { program := "ytjaibbcbjfapaaagreatdoor", sum := "cc4e18768d49017f837072253740c0658f93c3702564dc0c1067ca7de7940aa7", func := "bonsai/bonsailaw23.MergeTells", spec := "mergeTells", inPlace := ["internal/bytealg.IndexByteString", "internal/bytealg.IndexString", "internal/abi.NoEscape"], unfollowed := true, recurses := true, named := ["internal/bytealg.MaxLen", "bonsai/tree.counts", "bonsai/print.signs", "math/bits.deBruijn64tab", "bonsai/print.counts", "internal/strconv.uint64pow10", "math/bits.deBruijn32tab"], apart := false, laid := [("math/bits.deBruijn32tab", laid_math_bits_deBruijn32tab), ("math/bits.deBruijn64tab", laid_math_bits_deBruijn64tab), ("internal/strconv.uint64pow10", laid_internal_strconv_uint64pow10), ("bonsai/tree.counts", laid_bonsai_tree_counts), ("bonsai/print.counts", laid_bonsai_print_counts), ("bonsai/print.signs", laid_bonsai_print_signs)], narrowed := true }
def MergeTellsUptoSaid : Prop := mergeTellsUptoRow.holds Tryz.pinned (OpenSpec.upto mergeTellsSpec)

/-- 'bonsailaw23.MergeMerged', WHERE WHAT IT READS IS OF BULK AT MOST 1048576: true; the input reads as it did. -/
def mergeMergedUptoRow : OpenClaim := { program := "ytjaibbcbjfapaaagreatdoor", sum := "cc4e18768d49017f837072253740c0658f93c3702564dc0c1067ca7de7940aa7", func := "bonsai/bonsailaw23.MergeMerged", spec := "mergeMerged", inPlace := ["internal/bytealg.IndexByteString", "internal/bytealg.IndexString", "internal/abi.NoEscape"], unfollowed := true, recurses := true, named := ["internal/bytealg.MaxLen", "bonsai/tree.counts", "bonsai/print.signs", "math/bits.deBruijn64tab", "bonsai/print.counts", "internal/strconv.uint64pow10", "math/bits.deBruijn32tab"], apart := false, laid := [("math/bits.deBruijn32tab", laid_math_bits_deBruijn32tab), ("math/bits.deBruijn64tab", laid_math_bits_deBruijn64tab), ("internal/strconv.uint64pow10", laid_internal_strconv_uint64pow10), ("bonsai/tree.counts", laid_bonsai_tree_counts), ("bonsai/print.counts", laid_bonsai_print_counts), ("bonsai/print.signs", laid_bonsai_print_signs)], narrowed := true }
def MergeMergedUptoSaid : Prop := mergeMergedUptoRow.holds Tryz.pinned (OpenSpec.upto mergeMergedSpec)

/-- 'bonsailaw23.MergeMeans', WHERE WHAT IT READS IS OF BULK AT MOST 1048576: true; the input reads as it did. -/
def mergeMeansUptoRow : OpenClaim := { program := "ytjaibbcbjfapaaagreatdoor", sum := "cc4e18768d49017f837072253740c0658f93c3702564dc0c1067ca7de7940aa7", func := "bonsai/bonsailaw23.MergeMeans", spec := "mergeMeans", inPlace := ["internal/bytealg.IndexByteString", "internal/bytealg.IndexString", "internal/abi.NoEscape"], unfollowed := true, recurses := true, named := ["internal/bytealg.MaxLen", "bonsai/tree.counts", "bonsai/print.signs", "math/bits.deBruijn64tab", "bonsai/print.counts", "internal/strconv.uint64pow10", "math/bits.deBruijn32tab"], apart := false, laid := [("math/bits.deBruijn32tab", laid_math_bits_deBruijn32tab), ("math/bits.deBruijn64tab", laid_math_bits_deBruijn64tab), ("internal/strconv.uint64pow10", laid_internal_strconv_uint64pow10), ("bonsai/tree.counts", laid_bonsai_tree_counts), ("bonsai/print.counts", laid_bonsai_print_counts), ("bonsai/print.signs", laid_bonsai_print_signs)], narrowed := true }
def MergeMeansUptoSaid : Prop := mergeMeansUptoRow.holds Tryz.pinned (OpenSpec.upto mergeMeansSpec)

/-- 'bonsailaw19.InlineMeans', WHERE WHAT IT READS IS OF BULK AT MOST 1048576: true; the input reads as it did. -/
def inlineMeansUptoRow : OpenClaim := { program := "ytjaibbcbjfapaaagreatdoor", sum := "cc4e18768d49017f837072253740c0658f93c3702564dc0c1067ca7de7940aa7", func := "bonsai/bonsailaw19.InlineMeans", spec := "inlineMeans", inPlace := ["internal/bytealg.IndexByteString", "internal/bytealg.IndexString", "internal/abi.NoEscape"], unfollowed := true, recurses := true, named := ["internal/bytealg.MaxLen", "bonsai/tree.counts", "bonsai/print.signs", "math/bits.deBruijn64tab", "bonsai/print.counts", "internal/strconv.uint64pow10", "math/bits.deBruijn32tab"], apart := false, laid := [("math/bits.deBruijn32tab", laid_math_bits_deBruijn32tab), ("math/bits.deBruijn64tab", laid_math_bits_deBruijn64tab), ("internal/strconv.uint64pow10", laid_internal_strconv_uint64pow10), ("bonsai/tree.counts", laid_bonsai_tree_counts), ("bonsai/print.counts", laid_bonsai_print_counts), ("bonsai/print.signs", laid_bonsai_print_signs)], narrowed := true }
def InlineMeansUptoSaid : Prop := inlineMeansUptoRow.holds Tryz.pinned (OpenSpec.upto inlineMeansSpec)

/-- 'bonsailaw19.InlineTells', WHERE WHAT IT READS IS OF BULK AT MOST 1048576: true; the input reads as it did. -/
def inlineTellsUptoRow : OpenClaim := { program := "ytjaibbcbjfapaaagreatdoor", sum := "cc4e18768d49017f837072253740c0658f93c3702564dc0c1067ca7de7940aa7", func := "bonsai/bonsailaw19.InlineTells", spec := "inlineTells", inPlace := ["internal/bytealg.IndexByteString", "internal/bytealg.IndexString", "internal/abi.NoEscape"], unfollowed := true, recurses := true, named := ["internal/bytealg.MaxLen", "bonsai/tree.counts", "bonsai/print.signs", "math/bits.deBruijn64tab", "bonsai/print.counts", "internal/strconv.uint64pow10", "math/bits.deBruijn32tab"], apart := false, laid := [("math/bits.deBruijn32tab", laid_math_bits_deBruijn32tab), ("math/bits.deBruijn64tab", laid_math_bits_deBruijn64tab), ("internal/strconv.uint64pow10", laid_internal_strconv_uint64pow10), ("bonsai/tree.counts", laid_bonsai_tree_counts), ("bonsai/print.counts", laid_bonsai_print_counts), ("bonsai/print.signs", laid_bonsai_print_signs)], narrowed := true }
def InlineTellsUptoSaid : Prop := inlineTellsUptoRow.holds Tryz.pinned (OpenSpec.upto inlineTellsSpec)

/-- 'bonsailaw21.FactorTwo', WHERE WHAT IT READS IS OF BULK AT MOST 1048576: true; the input reads as it did. -/
def factorTwoUptoRow : OpenClaim := { program := "ytjaibbcbjfapaaagreatdoor", sum := "cc4e18768d49017f837072253740c0658f93c3702564dc0c1067ca7de7940aa7", func := "bonsai/bonsailaw21.FactorTwo", spec := "factorTwo", inPlace := ["internal/bytealg.IndexByteString", "internal/bytealg.IndexString", "internal/abi.NoEscape", "slices.overlaps[bonsai/api.Tree]"], unfollowed := true, recurses := true, named := ["internal/bytealg.MaxLen", "bonsai/tree.counts", "bonsai/print.signs", "math/bits.deBruijn64tab", "bonsai/print.counts", "internal/strconv.uint64pow10", "math/bits.deBruijn32tab"], apart := false, laid := [("math/bits.deBruijn32tab", laid_math_bits_deBruijn32tab), ("math/bits.deBruijn64tab", laid_math_bits_deBruijn64tab), ("internal/strconv.uint64pow10", laid_internal_strconv_uint64pow10), ("bonsai/tree.counts", laid_bonsai_tree_counts), ("bonsai/print.counts", laid_bonsai_print_counts), ("bonsai/print.signs", laid_bonsai_print_signs)], narrowed := true }
def FactorTwoUptoSaid : Prop := factorTwoUptoRow.holds Tryz.pinned (OpenSpec.upto factorTwoSpec)

/-- 'bonsailaw21.FactorTells', WHERE WHAT IT READS IS OF BULK AT MOST 1048576: true; the input reads as it did. -/
def factorTellsUptoRow : OpenClaim := { program := "ytjaibbcbjfapaaagreatdoor", sum := "cc4e18768d49017f837072253740c0658f93c3702564dc0c1067ca7de7940aa7", func := "bonsai/bonsailaw21.FactorTells", spec := "factorTells", inPlace := ["internal/bytealg.IndexByteString", "internal/bytealg.IndexString", "internal/abi.NoEscape", "slices.overlaps[bonsai/api.Tree]"], unfollowed := true, recurses := true, named := ["internal/bytealg.MaxLen", "bonsai/tree.counts", "bonsai/print.signs", "math/bits.deBruijn64tab", "bonsai/print.counts", "internal/strconv.uint64pow10", "math/bits.deBruijn32tab"], apart := false, laid := [("math/bits.deBruijn32tab", laid_math_bits_deBruijn32tab), ("math/bits.deBruijn64tab", laid_math_bits_deBruijn64tab), ("internal/strconv.uint64pow10", laid_internal_strconv_uint64pow10), ("bonsai/tree.counts", laid_bonsai_tree_counts), ("bonsai/print.counts", laid_bonsai_print_counts), ("bonsai/print.signs", laid_bonsai_print_signs)], narrowed := true }
def FactorTellsUptoSaid : Prop := factorTellsUptoRow.holds Tryz.pinned (OpenSpec.upto factorTellsSpec)

/-- 'bonsailaw21.FactorAll', WHERE WHAT IT READS IS OF BULK AT MOST 1048576: true; the input reads as it did. -/
def factorAllUptoRow : OpenClaim := { program := "ytjaibbcbjfapaaagreatdoor", sum := "cc4e18768d49017f837072253740c0658f93c3702564dc0c1067ca7de7940aa7", func := "bonsai/bonsailaw21.FactorAll", spec := "factorAll", inPlace := ["internal/bytealg.IndexByteString", "internal/bytealg.IndexString", "internal/abi.NoEscape", "slices.overlaps[bonsai/api.Tree]"], unfollowed := true, recurses := true, named := ["internal/bytealg.MaxLen", "bonsai/tree.counts", "bonsai/print.signs", "math/bits.deBruijn64tab", "bonsai/print.counts", "internal/strconv.uint64pow10", "math/bits.deBruijn32tab"], apart := false, laid := [("math/bits.deBruijn32tab", laid_math_bits_deBruijn32tab), ("math/bits.deBruijn64tab", laid_math_bits_deBruijn64tab), ("internal/strconv.uint64pow10", laid_internal_strconv_uint64pow10), ("bonsai/tree.counts", laid_bonsai_tree_counts), ("bonsai/print.counts", laid_bonsai_print_counts), ("bonsai/print.signs", laid_bonsai_print_signs)], narrowed := true }
def FactorAllUptoSaid : Prop := factorAllUptoRow.holds Tryz.pinned (OpenSpec.upto factorAllSpec)

/-- 'bonsailaw21.FactorCommon', WHERE WHAT IT READS IS OF BULK AT MOST 1048576: true; the input reads as it did. -/
def factorCommonUptoRow : OpenClaim := { program := "ytjaibbcbjfapaaagreatdoor", sum := "cc4e18768d49017f837072253740c0658f93c3702564dc0c1067ca7de7940aa7", func := "bonsai/bonsailaw21.FactorCommon", spec := "factorCommon", inPlace := ["internal/bytealg.IndexByteString", "internal/bytealg.IndexString", "internal/abi.NoEscape", "slices.overlaps[bonsai/api.Tree]"], unfollowed := true, recurses := true, named := ["internal/bytealg.MaxLen", "bonsai/tree.counts", "bonsai/print.signs", "math/bits.deBruijn64tab", "bonsai/print.counts", "internal/strconv.uint64pow10", "math/bits.deBruijn32tab"], apart := false, laid := [("math/bits.deBruijn32tab", laid_math_bits_deBruijn32tab), ("math/bits.deBruijn64tab", laid_math_bits_deBruijn64tab), ("internal/strconv.uint64pow10", laid_internal_strconv_uint64pow10), ("bonsai/tree.counts", laid_bonsai_tree_counts), ("bonsai/print.counts", laid_bonsai_print_counts), ("bonsai/print.signs", laid_bonsai_print_signs)], narrowed := true }
def FactorCommonUptoSaid : Prop := factorCommonUptoRow.holds Tryz.pinned (OpenSpec.upto factorCommonSpec)

/-- 'bonsailaw21.FactorMeans', WHERE WHAT IT READS IS OF BULK AT MOST 1048576: true; the input reads as it did. -/
def factorMeansUptoRow : OpenClaim := { program := "ytjaibbcbjfapaaagreatdoor", sum := "cc4e18768d49017f837072253740c0658f93c3702564dc0c1067ca7de7940aa7", func := "bonsai/bonsailaw21.FactorMeans", spec := "factorMeans", inPlace := ["internal/bytealg.IndexByteString", "internal/bytealg.IndexString", "internal/abi.NoEscape", "slices.overlaps[bonsai/api.Tree]"], unfollowed := true, recurses := true, named := ["internal/bytealg.MaxLen", "bonsai/tree.counts", "bonsai/print.signs", "math/bits.deBruijn64tab", "bonsai/print.counts", "internal/strconv.uint64pow10", "math/bits.deBruijn32tab"], apart := false, laid := [("math/bits.deBruijn32tab", laid_math_bits_deBruijn32tab), ("math/bits.deBruijn64tab", laid_math_bits_deBruijn64tab), ("internal/strconv.uint64pow10", laid_internal_strconv_uint64pow10), ("bonsai/tree.counts", laid_bonsai_tree_counts), ("bonsai/print.counts", laid_bonsai_print_counts), ("bonsai/print.signs", laid_bonsai_print_signs)], narrowed := true }
def FactorMeansUptoSaid : Prop := factorMeansUptoRow.holds Tryz.pinned (OpenSpec.upto factorMeansSpec)

/-- 'bonsailaw23.MergeNames', WHERE WHAT IT READS IS OF BULK AT MOST 1048576: true; the input reads as it did. -/
def mergeNamesUptoRow : OpenClaim := { program := "ytjaibbcbjfapaaagreatdoor", sum := "cc4e18768d49017f837072253740c0658f93c3702564dc0c1067ca7de7940aa7", func := "bonsai/bonsailaw23.MergeNames", spec := "mergeNames", inPlace := ["internal/bytealg.IndexByteString", "internal/bytealg.IndexString", "internal/abi.NoEscape"], unfollowed := true, recurses := true, named := ["internal/bytealg.MaxLen", "bonsai/tree.counts", "bonsai/print.signs", "math/bits.deBruijn64tab", "bonsai/print.counts", "internal/strconv.uint64pow10", "math/bits.deBruijn32tab"], apart := false, laid := [("math/bits.deBruijn32tab", laid_math_bits_deBruijn32tab), ("math/bits.deBruijn64tab", laid_math_bits_deBruijn64tab), ("internal/strconv.uint64pow10", laid_internal_strconv_uint64pow10), ("bonsai/tree.counts", laid_bonsai_tree_counts), ("bonsai/print.counts", laid_bonsai_print_counts), ("bonsai/print.signs", laid_bonsai_print_signs)], narrowed := true }
def MergeNamesUptoSaid : Prop := mergeNamesUptoRow.holds Tryz.pinned (OpenSpec.upto mergeNamesSpec)

end Rows
end Go.Proofs.YtjaibbcbjfapaaaGreatDoor
