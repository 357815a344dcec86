/-
  NARROWER THAN 'FOR EVERY INPUT', by the rows' own cells (each row's printed sentence says how): FuelNames: laid · InlineTells: laid · MergeTwo: laid · MergeTells: laid · MergeFewer: laid · MergeAll: laid · MergeNames: laid · InlineMeans: laid · MergeMerged: laid · MergeMeans: laid.
  DERIVED. THE GIVEN ROWS OF THIS SEAT. 10 by the template 'for every input the law returns true; each argument reads behind the call as it read before'; 0 by the template 'total and deterministic' (their statements: YthnoknnlcnikbaaGreatDoorTotals.lean).
  GIVEN WITH THE SEED: the statements are not yours to turn. If you find one false, say at which input.
  Laid BY PROGRAM, IN A SANDBOX (cutbox-rows.mjs): the forced cells as the released guide's own fill.sh prints them over the translation 29ea18b619c10475… (all of the seat's roots in one cut). By AI agents, Wed Nov 11 2026. No macro, syntax, notation, axiom, sorry.
-/
import Derived.Test.YthnoknnlcnikbaaGreatDoorChecked
import GoSem.Claim
import GoSem.ClaimJoined
import GoSem.ClaimMapViews
import Derived.JoinedTies
import Derived.KernelRfl
namespace Go.Proofs.YthnoknnlcnikbaaGreatDoor
/- THE CELL 'sum', in the pinned program and in every row, IS THE sha256 OF THE DUMP (.gsa) THAT YthnoknnlcnikbaaGreatDoorProg.lean LOADS. Nothing in Lean hashes anything: it is a label: what it is worth is what the hold of that sum in a sandbox is worth. -/
noncomputable def Tryz.pinned : Pinned := { name := "ythnoknnlcnikbaagreatdoor", sum := "29ea18b619c104755241d259f4e8c264eed6b2274393824bb4d1fa12daaf9284", checked := Tryz.checked }
namespace Rows
def none {H : Type} : Left H := { results := [], args := [] }

/- WHAT THE LISTED PACKAGE-LEVEL VARIABLES READ AS WHEN THE CALL BEGINS. Each datum BY PROGRAM (the guide's laid-datum.mjs) off the statement by which the dump's own 'gosem.cut.vars' lays the variable. In a bare row this is a premise. The card (YthnoknnlcnikbaaGreatDoorCards.lean) ties it to the program's text. -/
def laid_math_bits_deBruijn32tab {H : Type} : DataW H := .agg [.lit (.int .u8 0), .lit (.int .u8 1), .lit (.int .u8 28), .lit (.int .u8 2), .lit (.int .u8 29), .lit (.int .u8 14), .lit (.int .u8 24), .lit (.int .u8 3), .lit (.int .u8 30), .lit (.int .u8 22), .lit (.int .u8 20), .lit (.int .u8 15), .lit (.int .u8 25), .lit (.int .u8 17), .lit (.int .u8 4), .lit (.int .u8 8), .lit (.int .u8 31), .lit (.int .u8 27), .lit (.int .u8 13), .lit (.int .u8 23), .lit (.int .u8 21), .lit (.int .u8 19), .lit (.int .u8 16), .lit (.int .u8 7), .lit (.int .u8 26), .lit (.int .u8 12), .lit (.int .u8 18), .lit (.int .u8 6), .lit (.int .u8 11), .lit (.int .u8 5), .lit (.int .u8 10), .lit (.int .u8 9)]
def laid_math_bits_deBruijn64tab {H : Type} : DataW H := .agg [.lit (.int .u8 0), .lit (.int .u8 1), .lit (.int .u8 56), .lit (.int .u8 2), .lit (.int .u8 57), .lit (.int .u8 49), .lit (.int .u8 28), .lit (.int .u8 3), .lit (.int .u8 61), .lit (.int .u8 58), .lit (.int .u8 42), .lit (.int .u8 50), .lit (.int .u8 38), .lit (.int .u8 29), .lit (.int .u8 17), .lit (.int .u8 4), .lit (.int .u8 62), .lit (.int .u8 47), .lit (.int .u8 59), .lit (.int .u8 36), .lit (.int .u8 45), .lit (.int .u8 43), .lit (.int .u8 51), .lit (.int .u8 22), .lit (.int .u8 53), .lit (.int .u8 39), .lit (.int .u8 33), .lit (.int .u8 30), .lit (.int .u8 24), .lit (.int .u8 18), .lit (.int .u8 12), .lit (.int .u8 5), .lit (.int .u8 63), .lit (.int .u8 55), .lit (.int .u8 48), .lit (.int .u8 27), .lit (.int .u8 60), .lit (.int .u8 41), .lit (.int .u8 37), .lit (.int .u8 16), .lit (.int .u8 46), .lit (.int .u8 35), .lit (.int .u8 44), .lit (.int .u8 21), .lit (.int .u8 52), .lit (.int .u8 32), .lit (.int .u8 23), .lit (.int .u8 11), .lit (.int .u8 54), .lit (.int .u8 26), .lit (.int .u8 40), .lit (.int .u8 15), .lit (.int .u8 34), .lit (.int .u8 20), .lit (.int .u8 31), .lit (.int .u8 10), .lit (.int .u8 25), .lit (.int .u8 14), .lit (.int .u8 19), .lit (.int .u8 9), .lit (.int .u8 13), .lit (.int .u8 8), .lit (.int .u8 7), .lit (.int .u8 6)]
def laid_internal_strconv_uint64pow10 {H : Type} : DataW H := .agg [.lit (.int .u64 1), .lit (.int .u64 10), .lit (.int .u64 100), .lit (.int .u64 1000), .lit (.int .u64 10000), .lit (.int .u64 100000), .lit (.int .u64 1000000), .lit (.int .u64 10000000), .lit (.int .u64 100000000), .lit (.int .u64 1000000000), .lit (.int .u64 10000000000), .lit (.int .u64 100000000000), .lit (.int .u64 1000000000000), .lit (.int .u64 10000000000000), .lit (.int .u64 100000000000000), .lit (.int .u64 1000000000000000), .lit (.int .u64 10000000000000000), .lit (.int .u64 100000000000000000), .lit (.int .u64 1000000000000000000), .lit (.int .u64 10000000000000000000)]
def laid_bonsai_tree_counts {H : Type} : DataW H := .agg [.agg [.lit (.int .i64 0), .lit (.int .i64 0)], .agg [.lit (.int .i64 0), .lit (.int .i64 0)], .agg [.lit (.int .i64 0), .lit (.int .i64 0)], .agg [.lit (.int .i64 0), .lit (.int .i64 0)], .agg [.lit (.int .i64 2), .lit (.int .i64 (-1))], .agg [.lit (.int .i64 2), .lit (.int .i64 (-1))], .agg [.lit (.int .i64 1), .lit (.int .i64 1)], .agg [.lit (.int .i64 1), .lit (.int .i64 1)], .agg [.lit (.int .i64 1), .lit (.int .i64 1)], .agg [.lit (.int .i64 1), .lit (.int .i64 1)]]
def laid_bonsai_print_counts {H : Type} : DataW H := .agg [.agg [.lit (.int .i64 0), .lit (.int .i64 1), .lit (.string [63])], .agg [.lit (.int .i64 0), .lit (.int .i64 (-1)), .lit (.string [42])], .agg [.lit (.int .i64 1), .lit (.int .i64 (-1)), .lit (.string [43])]]
def laid_bonsai_print_signs {H : Type} : DataW H := .agg [.agg [.lit (.string []), .lit (.string []), .lit (.string [])], .agg [.lit (.string []), .lit (.string []), .lit (.string [])], .agg [.lit (.string []), .lit (.string []), .lit (.string [])], .agg [.lit (.string []), .lit (.string []), .lit (.string [])], .agg [.lit (.string []), .lit (.string [32]), .lit (.string [])], .agg [.lit (.string []), .lit (.string [32, 47, 32]), .lit (.string [])], .agg [.lit (.string []), .lit (.string []), .lit (.string [])], .agg [.lit (.string [38]), .lit (.string []), .lit (.string [])], .agg [.lit (.string [33]), .lit (.string []), .lit (.string [])], .agg [.lit (.string [60]), .lit (.string []), .lit (.string [62])]]

/-- 'bonsailaw17.FuelNames': WHATEVER THE INPUT: true; the input reads as it did. -/
def fuelNamesSpec : ChangeSpec := { name := "fuelNames", fn := fun _ => fun
  | [] => { results := [.lit (.bool true)], args := [] }
  | _ => none }
def fuelNamesRow : OpenClaim := { program := "ythnoknnlcnikbaagreatdoor", sum := "29ea18b619c104755241d259f4e8c264eed6b2274393824bb4d1fa12daaf9284", func := "bonsai/bonsailaw17.FuelNames", spec := "fuelNames", inPlace := ["internal/bytealg.IndexByteString", "internal/bytealg.IndexString", "internal/abi.NoEscape"], unfollowed := true, recurses := true, named := ["internal/bytealg.MaxLen", "bonsai/tree.counts", "bonsai/print.signs", "math/bits.deBruijn64tab", "bonsai/print.counts", "internal/strconv.uint64pow10", "math/bits.deBruijn32tab"], apart := false, laid := [("math/bits.deBruijn32tab", laid_math_bits_deBruijn32tab), ("math/bits.deBruijn64tab", laid_math_bits_deBruijn64tab), ("internal/strconv.uint64pow10", laid_internal_strconv_uint64pow10), ("bonsai/tree.counts", laid_bonsai_tree_counts), ("bonsai/print.counts", laid_bonsai_print_counts), ("bonsai/print.signs", laid_bonsai_print_signs)] }
def FuelNamesSaid : Prop := fuelNamesRow.holds Tryz.pinned (OpenSpec.ofChange fuelNamesSpec)

/-- ITS FALSE NEIGHBOUR: 'it returns false'. Refute it at one input. -/
def fuelNamesWrong : ChangeSpec := { name := "fuelNames", fn := fun _ => fun
  | [] => { results := [.lit (.bool false)], args := [] }
  | _ => none }
def FuelNamesWrongFalsely : Prop := fuelNamesRow.holds Tryz.pinned (OpenSpec.ofChange fuelNamesWrong)

/-- 'bonsailaw19.InlineTells': WHATEVER THE INPUT: true; the input reads as it did. -/
def inlineTellsSpec : ChangeSpec := { name := "inlineTells", fn := fun _ => fun
  | [d1, d2, d3] => { results := [.lit (.bool true)], args := [d1, d2, d3] }
  | _ => none }
def inlineTellsRow : OpenClaim := { program := "ythnoknnlcnikbaagreatdoor", sum := "29ea18b619c104755241d259f4e8c264eed6b2274393824bb4d1fa12daaf9284", func := "bonsai/bonsailaw19.InlineTells", spec := "inlineTells", inPlace := ["internal/bytealg.IndexByteString", "internal/bytealg.IndexString", "internal/abi.NoEscape"], unfollowed := true, recurses := true, named := ["internal/bytealg.MaxLen", "bonsai/tree.counts", "bonsai/print.signs", "math/bits.deBruijn64tab", "bonsai/print.counts", "internal/strconv.uint64pow10", "math/bits.deBruijn32tab"], apart := false, laid := [("math/bits.deBruijn32tab", laid_math_bits_deBruijn32tab), ("math/bits.deBruijn64tab", laid_math_bits_deBruijn64tab), ("internal/strconv.uint64pow10", laid_internal_strconv_uint64pow10), ("bonsai/tree.counts", laid_bonsai_tree_counts), ("bonsai/print.counts", laid_bonsai_print_counts), ("bonsai/print.signs", laid_bonsai_print_signs)] }
def InlineTellsSaid : Prop := inlineTellsRow.holds Tryz.pinned (OpenSpec.ofChange inlineTellsSpec)

/-- ITS FALSE NEIGHBOUR: 'it returns false'. Refute it at one input. -/
def inlineTellsWrong : ChangeSpec := { name := "inlineTells", fn := fun _ => fun
  | [d1, d2, d3] => { results := [.lit (.bool false)], args := [d1, d2, d3] }
  | _ => none }
def InlineTellsWrongFalsely : Prop := inlineTellsRow.holds Tryz.pinned (OpenSpec.ofChange inlineTellsWrong)

/-- 'bonsailaw23.MergeTwo': WHATEVER THE INPUT: true; the input reads as it did. -/
def mergeTwoSpec : ChangeSpec := { name := "mergeTwo", fn := fun _ => fun
  | [d1, d2, d3] => { results := [.lit (.bool true)], args := [d1, d2, d3] }
  | _ => none }
def mergeTwoRow : OpenClaim := { program := "ythnoknnlcnikbaagreatdoor", sum := "29ea18b619c104755241d259f4e8c264eed6b2274393824bb4d1fa12daaf9284", func := "bonsai/bonsailaw23.MergeTwo", spec := "mergeTwo", inPlace := ["internal/bytealg.IndexByteString", "internal/bytealg.IndexString", "internal/abi.NoEscape"], unfollowed := true, recurses := true, named := ["internal/bytealg.MaxLen", "bonsai/tree.counts", "bonsai/print.signs", "math/bits.deBruijn64tab", "bonsai/print.counts", "internal/strconv.uint64pow10", "math/bits.deBruijn32tab"], apart := false, laid := [("math/bits.deBruijn32tab", laid_math_bits_deBruijn32tab), ("math/bits.deBruijn64tab", laid_math_bits_deBruijn64tab), ("internal/strconv.uint64pow10", laid_internal_strconv_uint64pow10), ("bonsai/tree.counts", laid_bonsai_tree_counts), ("bonsai/print.counts", laid_bonsai_print_counts), ("bonsai/print.signs", laid_bonsai_print_signs)] }
def MergeTwoSaid : Prop := mergeTwoRow.holds Tryz.pinned (OpenSpec.ofChange mergeTwoSpec)

/-- ITS FALSE NEIGHBOUR: 'it returns false'. Refute it at one input. -/
def mergeTwoWrong : ChangeSpec := { name := "mergeTwo", fn := fun _ => fun
  | [d1, d2, d3] => { results := [.lit (.bool false)], args := [d1, d2, d3] }
  | _ => none }
def MergeTwoWrongFalsely : Prop := mergeTwoRow.holds Tryz.pinned (OpenSpec.ofChange mergeTwoWrong)

/-- 'bonsailaw23.MergeTells': WHATEVER THE INPUT: true; the input reads as it did. -/
def mergeTellsSpec : ChangeSpec := { name := "mergeTells", fn := fun _ => fun
  | [d1, d2] => { results := [.lit (.bool true)], args := [d1, d2] }
  | _ => none }
def mergeTellsRow : OpenClaim := { program := "ythnoknnlcnikbaagreatdoor", sum := "29ea18b619c104755241d259f4e8c264eed6b2274393824bb4d1fa12daaf9284", func := "bonsai/bonsailaw23.MergeTells", spec := "mergeTells", inPlace := ["internal/bytealg.IndexByteString", "internal/bytealg.IndexString", "internal/abi.NoEscape"], unfollowed := true, recurses := true, named := ["internal/bytealg.MaxLen", "bonsai/tree.counts", "bonsai/print.signs", "math/bits.deBruijn64tab", "bonsai/print.counts", "internal/strconv.uint64pow10", "math/bits.deBruijn32tab"], apart := false, laid := [("math/bits.deBruijn32tab", laid_math_bits_deBruijn32tab), ("math/bits.deBruijn64tab", laid_math_bits_deBruijn64tab), ("internal/strconv.uint64pow10", laid_internal_strconv_uint64pow10), ("bonsai/tree.counts", laid_bonsai_tree_counts), ("bonsai/print.counts", laid_bonsai_print_counts), ("bonsai/print.signs", laid_bonsai_print_signs)] }
def MergeTellsSaid : Prop := mergeTellsRow.holds Tryz.pinned (OpenSpec.ofChange mergeTellsSpec)

/-- ITS FALSE NEIGHBOUR: 'it returns false'. Refute it at one input. -/
def mergeTellsWrong : ChangeSpec := { name := "mergeTells", fn := fun _ => fun
  | [d1, d2] => { results := [.lit (.bool false)], args := [d1, d2] }
  | _ => none }
def MergeTellsWrongFalsely : Prop := mergeTellsRow.holds Tryz.pinned (OpenSpec.ofChange mergeTellsWrong)

/-- 'bonsailaw23.MergeFewer': WHATEVER THE INPUT: true; the input reads as it did. -/
def mergeFewerSpec : ChangeSpec := { name := "mergeFewer", fn := fun _ => fun
  | [d] => { results := [.lit (.bool true)], args := [d] }
  | _ => none }
def mergeFewerRow : OpenClaim := { program := "ythnoknnlcnikbaagreatdoor", sum := "29ea18b619c104755241d259f4e8c264eed6b2274393824bb4d1fa12daaf9284", func := "bonsai/bonsailaw23.MergeFewer", spec := "mergeFewer", inPlace := ["internal/bytealg.IndexByteString", "internal/bytealg.IndexString", "internal/abi.NoEscape"], unfollowed := true, recurses := true, named := ["internal/bytealg.MaxLen", "bonsai/tree.counts", "bonsai/print.signs", "math/bits.deBruijn64tab", "bonsai/print.counts", "internal/strconv.uint64pow10", "math/bits.deBruijn32tab"], apart := false, laid := [("math/bits.deBruijn32tab", laid_math_bits_deBruijn32tab), ("math/bits.deBruijn64tab", laid_math_bits_deBruijn64tab), ("internal/strconv.uint64pow10", laid_internal_strconv_uint64pow10), ("bonsai/tree.counts", laid_bonsai_tree_counts), ("bonsai/print.counts", laid_bonsai_print_counts), ("bonsai/print.signs", laid_bonsai_print_signs)] }
def MergeFewerSaid : Prop := mergeFewerRow.holds Tryz.pinned (OpenSpec.ofChange mergeFewerSpec)

/-- ITS FALSE NEIGHBOUR: 'it returns false'. Refute it at one input. -/
def mergeFewerWrong : ChangeSpec := { name := "mergeFewer", fn := fun _ => fun
  | [d] => { results := [.lit (.bool false)], args := [d] }
  | _ => none }
def MergeFewerWrongFalsely : Prop := mergeFewerRow.holds Tryz.pinned (OpenSpec.ofChange mergeFewerWrong)

/-- 'bonsailaw23.MergeAll': WHATEVER THE INPUT: true; the input reads as it did. -/
def mergeAllSpec : ChangeSpec := { name := "mergeAll", fn := fun _ => fun
  | [d] => { results := [.lit (.bool true)], args := [d] }
  | _ => none }
def mergeAllRow : OpenClaim := { program := "ythnoknnlcnikbaagreatdoor", sum := "29ea18b619c104755241d259f4e8c264eed6b2274393824bb4d1fa12daaf9284", func := "bonsai/bonsailaw23.MergeAll", spec := "mergeAll", inPlace := ["internal/bytealg.IndexByteString", "internal/bytealg.IndexString", "internal/abi.NoEscape"], unfollowed := true, recurses := true, named := ["internal/bytealg.MaxLen", "bonsai/tree.counts", "bonsai/print.signs", "math/bits.deBruijn64tab", "bonsai/print.counts", "internal/strconv.uint64pow10", "math/bits.deBruijn32tab"], apart := false, laid := [("math/bits.deBruijn32tab", laid_math_bits_deBruijn32tab), ("math/bits.deBruijn64tab", laid_math_bits_deBruijn64tab), ("internal/strconv.uint64pow10", laid_internal_strconv_uint64pow10), ("bonsai/tree.counts", laid_bonsai_tree_counts), ("bonsai/print.counts", laid_bonsai_print_counts), ("bonsai/print.signs", laid_bonsai_print_signs)] }
def MergeAllSaid : Prop := mergeAllRow.holds Tryz.pinned (OpenSpec.ofChange mergeAllSpec)

/-- ITS FALSE NEIGHBOUR: 'it returns false'. Refute it at one input. -/
def mergeAllWrong : ChangeSpec := { name := "mergeAll", fn := fun _ => fun
  | [d] => { results := [.lit (.bool false)], args := [d] }
  | _ => none }
def MergeAllWrongFalsely : Prop := mergeAllRow.holds Tryz.pinned (OpenSpec.ofChange mergeAllWrong)

/-- 'bonsailaw23.MergeNames': WHATEVER THE INPUT: true; the input reads as it did. -/
def mergeNamesSpec : ChangeSpec := { name := "mergeNames", fn := fun _ => fun
  | [] => { results := [.lit (.bool true)], args := [] }
  | _ => none }
def mergeNamesRow : OpenClaim := { program := "ythnoknnlcnikbaagreatdoor", sum := "29ea18b619c104755241d259f4e8c264eed6b2274393824bb4d1fa12daaf9284", func := "bonsai/bonsailaw23.MergeNames", spec := "mergeNames", inPlace := ["internal/bytealg.IndexByteString", "internal/bytealg.IndexString", "internal/abi.NoEscape"], unfollowed := true, recurses := true, named := ["internal/bytealg.MaxLen", "bonsai/tree.counts", "bonsai/print.signs", "math/bits.deBruijn64tab", "bonsai/print.counts", "internal/strconv.uint64pow10", "math/bits.deBruijn32tab"], apart := false, laid := [("math/bits.deBruijn32tab", laid_math_bits_deBruijn32tab), ("math/bits.deBruijn64tab", laid_math_bits_deBruijn64tab), ("internal/strconv.uint64pow10", laid_internal_strconv_uint64pow10), ("bonsai/tree.counts", laid_bonsai_tree_counts), ("bonsai/print.counts", laid_bonsai_print_counts), ("bonsai/print.signs", laid_bonsai_print_signs)] }
def MergeNamesSaid : Prop := mergeNamesRow.holds Tryz.pinned (OpenSpec.ofChange mergeNamesSpec)

/-- ITS FALSE NEIGHBOUR: 'it returns false'. Refute it at one input. -/
def mergeNamesWrong : ChangeSpec := { name := "mergeNames", fn := fun _ => fun
  | [] => { results := [.lit (.bool false)], args := [] }
  | _ => none }
def MergeNamesWrongFalsely : Prop := mergeNamesRow.holds Tryz.pinned (OpenSpec.ofChange mergeNamesWrong)

/-- 'bonsailaw19.InlineMeans': WHATEVER THE INPUT: true; the input reads as it did. -/
def inlineMeansSpec : ChangeSpec := { name := "inlineMeans", fn := fun _ => fun
  | [d1, d2] => { results := [.lit (.bool true)], args := [d1, d2] }
  | _ => none }
def inlineMeansRow : OpenClaim := { program := "ythnoknnlcnikbaagreatdoor", sum := "29ea18b619c104755241d259f4e8c264eed6b2274393824bb4d1fa12daaf9284", func := "bonsai/bonsailaw19.InlineMeans", spec := "inlineMeans", inPlace := ["internal/bytealg.IndexByteString", "internal/bytealg.IndexString", "internal/abi.NoEscape"], unfollowed := true, recurses := true, named := ["internal/bytealg.MaxLen", "bonsai/tree.counts", "bonsai/print.signs", "math/bits.deBruijn64tab", "bonsai/print.counts", "internal/strconv.uint64pow10", "math/bits.deBruijn32tab"], apart := false, laid := [("math/bits.deBruijn32tab", laid_math_bits_deBruijn32tab), ("math/bits.deBruijn64tab", laid_math_bits_deBruijn64tab), ("internal/strconv.uint64pow10", laid_internal_strconv_uint64pow10), ("bonsai/tree.counts", laid_bonsai_tree_counts), ("bonsai/print.counts", laid_bonsai_print_counts), ("bonsai/print.signs", laid_bonsai_print_signs)] }
def InlineMeansSaid : Prop := inlineMeansRow.holds Tryz.pinned (OpenSpec.ofChange inlineMeansSpec)

/-- ITS FALSE NEIGHBOUR: 'it returns false'. Refute it at one input. -/
def inlineMeansWrong : ChangeSpec := { name := "inlineMeans", fn := fun _ => fun
  | [d1, d2] => { results := [.lit (.bool false)], args := [d1, d2] }
  | _ => none }
def InlineMeansWrongFalsely : Prop := inlineMeansRow.holds Tryz.pinned (OpenSpec.ofChange inlineMeansWrong)

/-- 'bonsailaw23.MergeMerged': WHATEVER THE INPUT: true; the input reads as it did. -/
def mergeMergedSpec : ChangeSpec := { name := "mergeMerged", fn := fun _ => fun
  | [d1, d2, d3, d4] => { results := [.lit (.bool true)], args := [d1, d2, d3, d4] }
  | _ => none }
def mergeMergedRow : OpenClaim := { program := "ythnoknnlcnikbaagreatdoor", sum := "29ea18b619c104755241d259f4e8c264eed6b2274393824bb4d1fa12daaf9284", func := "bonsai/bonsailaw23.MergeMerged", spec := "mergeMerged", inPlace := ["internal/bytealg.IndexByteString", "internal/bytealg.IndexString", "internal/abi.NoEscape"], unfollowed := true, recurses := true, named := ["internal/bytealg.MaxLen", "bonsai/tree.counts", "bonsai/print.signs", "math/bits.deBruijn64tab", "bonsai/print.counts", "internal/strconv.uint64pow10", "math/bits.deBruijn32tab"], apart := false, laid := [("math/bits.deBruijn32tab", laid_math_bits_deBruijn32tab), ("math/bits.deBruijn64tab", laid_math_bits_deBruijn64tab), ("internal/strconv.uint64pow10", laid_internal_strconv_uint64pow10), ("bonsai/tree.counts", laid_bonsai_tree_counts), ("bonsai/print.counts", laid_bonsai_print_counts), ("bonsai/print.signs", laid_bonsai_print_signs)] }
def MergeMergedSaid : Prop := mergeMergedRow.holds Tryz.pinned (OpenSpec.ofChange mergeMergedSpec)

/-- ITS FALSE NEIGHBOUR: 'it returns false'. Refute it at one input. -/
def mergeMergedWrong : ChangeSpec := { name := "mergeMerged", fn := fun _ => fun
  | [d1, d2, d3, d4] => { results := [.lit (.bool false)], args := [d1, d2, d3, d4] }
  | _ => none }
def MergeMergedWrongFalsely : Prop := mergeMergedRow.holds Tryz.pinned (OpenSpec.ofChange mergeMergedWrong)

/-- 'bonsailaw23.MergeMeans': WHATEVER THE INPUT: true; the input reads as it did. -/
def mergeMeansSpec : ChangeSpec := { name := "mergeMeans", fn := fun _ => fun
  | [d1, d2] => { results := [.lit (.bool true)], args := [d1, d2] }
  | _ => none }
def mergeMeansRow : OpenClaim := { program := "ythnoknnlcnikbaagreatdoor", sum := "29ea18b619c104755241d259f4e8c264eed6b2274393824bb4d1fa12daaf9284", func := "bonsai/bonsailaw23.MergeMeans", spec := "mergeMeans", inPlace := ["internal/bytealg.IndexByteString", "internal/bytealg.IndexString", "internal/abi.NoEscape"], unfollowed := true, recurses := true, named := ["internal/bytealg.MaxLen", "bonsai/tree.counts", "bonsai/print.signs", "math/bits.deBruijn64tab", "bonsai/print.counts", "internal/strconv.uint64pow10", "math/bits.deBruijn32tab"], apart := false, laid := [("math/bits.deBruijn32tab", laid_math_bits_deBruijn32tab), ("math/bits.deBruijn64tab", laid_math_bits_deBruijn64tab), ("internal/strconv.uint64pow10", laid_internal_strconv_uint64pow10), ("bonsai/tree.counts", laid_bonsai_tree_counts), ("bonsai/print.counts", laid_bonsai_print_counts), ("bonsai/print.signs", laid_bonsai_print_signs)] }
def MergeMeansSaid : Prop := mergeMeansRow.holds Tryz.pinned (OpenSpec.ofChange mergeMeansSpec)

/-- ITS FALSE NEIGHBOUR: 'it returns false'. Refute it at one input. -/
def mergeMeansWrong : ChangeSpec := { name := "mergeMeans", fn := fun _ => fun
  | [d1, d2] => { results := [.lit (.bool false)], args := [d1, d2] }
  | _ => none }
def MergeMeansWrongFalsely : Prop := mergeMeansRow.holds Tryz.pinned (OpenSpec.ofChange mergeMeansWrong)

/- THE SECOND FORM. 'bulk': how many values and letters a reading holds, each counted each time it is reached (what is shared counts as often as it is met; a slice's spare places count too). A statement '..UptoSaid' is the law's where the arguments, and the package variables that the reading takes, are together of bulk at most 1048576: NARROWER than '..Said'. Prove '..Said' where nothing that the law and all that it calls make is longer than what came in: it says more and counts as full. Else prove '..UptoSaid'. A law counts once. -/
mutual
def uptoBulk {H : Type} : DataW H → Nat
  | .lit (.string bytes) => bytes.length + 1
  | .lit _ => 1
  | .nil => 1
  | .ptr d => uptoBulk d + 1
  | .slice elems spare => uptoBulkAll elems + uptoBulkAll spare + 1
  | .agg parts => uptoBulkAll parts + 1
  | .iface _ d => uptoBulk d + 1
  | .map entries => uptoBulkEntries entries + 1
  | .held _ => 1
def uptoBulkAll {H : Type} : List (DataW H) → Nat
  | [] => 0
  | d :: r => uptoBulk d + uptoBulkAll r
def uptoBulkEntries {H : Type} : List (Lit × DataW H) → Nat
  | [] => 0
  | x :: r => uptoBulkEntry x + uptoBulkEntries r
def uptoBulkEntry {H : Type} : Lit × DataW H → Nat
  | (.string bytes, d) => bytes.length + uptoBulk d + 1
  | (_, d) => uptoBulk d + 1
 end
def uptoSmall : (H : Type) → List (DataW H) → Bool := fun _ ds => decide (uptoBulkAll ds ≤ 1048576)
def OpenSpec.upto (s : _root_.Go.ChangeSpec) : _root_.Go.OpenSpec := { _root_.Go.OpenSpec.ofChange s with cond := some uptoSmall }

/-- 'bonsailaw17.FuelNames', WHERE WHAT IT READS IS OF BULK AT MOST 1048576: true; the input reads as it did. -/
def fuelNamesUptoRow : OpenClaim := { program := "ythnoknnlcnikbaagreatdoor", sum := "29ea18b619c104755241d259f4e8c264eed6b2274393824bb4d1fa12daaf9284", func := "bonsai/bonsailaw17.FuelNames", spec := "fuelNames", inPlace := ["internal/bytealg.IndexByteString", "internal/bytealg.IndexString", "internal/abi.NoEscape"], unfollowed := true, recurses := true, named := ["internal/bytealg.MaxLen", "bonsai/tree.counts", "bonsai/print.signs", "math/bits.deBruijn64tab", "bonsai/print.counts", "internal/strconv.uint64pow10", "math/bits.deBruijn32tab"], apart := false, laid := [("math/bits.deBruijn32tab", laid_math_bits_deBruijn32tab), ("math/bits.deBruijn64tab", laid_math_bits_deBruijn64tab), ("internal/strconv.uint64pow10", laid_internal_strconv_uint64pow10), ("bonsai/tree.counts", laid_bonsai_tree_counts), ("bonsai/print.counts", laid_bonsai_print_counts), ("bonsai/print.signs", laid_bonsai_print_signs)], narrowed := true }
def FuelNamesUptoSaid : Prop := fuelNamesUptoRow.holds Tryz.pinned (OpenSpec.upto fuelNamesSpec)

/-- 'bonsailaw19.InlineTells', WHERE WHAT IT READS IS OF BULK AT MOST 1048576: true; the input reads as it did. -/
def inlineTellsUptoRow : OpenClaim := { program := "ythnoknnlcnikbaagreatdoor", sum := "29ea18b619c104755241d259f4e8c264eed6b2274393824bb4d1fa12daaf9284", func := "bonsai/bonsailaw19.InlineTells", spec := "inlineTells", inPlace := ["internal/bytealg.IndexByteString", "internal/bytealg.IndexString", "internal/abi.NoEscape"], unfollowed := true, recurses := true, named := ["internal/bytealg.MaxLen", "bonsai/tree.counts", "bonsai/print.signs", "math/bits.deBruijn64tab", "bonsai/print.counts", "internal/strconv.uint64pow10", "math/bits.deBruijn32tab"], apart := false, laid := [("math/bits.deBruijn32tab", laid_math_bits_deBruijn32tab), ("math/bits.deBruijn64tab", laid_math_bits_deBruijn64tab), ("internal/strconv.uint64pow10", laid_internal_strconv_uint64pow10), ("bonsai/tree.counts", laid_bonsai_tree_counts), ("bonsai/print.counts", laid_bonsai_print_counts), ("bonsai/print.signs", laid_bonsai_print_signs)], narrowed := true }
def InlineTellsUptoSaid : Prop := inlineTellsUptoRow.holds Tryz.pinned (OpenSpec.upto inlineTellsSpec)

/-- 'bonsailaw23.MergeTwo', WHERE WHAT IT READS IS OF BULK AT MOST 1048576: true; the input reads as it did. -/
def mergeTwoUptoRow : OpenClaim := { program := "ythnoknnlcnikbaagreatdoor", sum := "29ea18b619c104755241d259f4e8c264eed6b2274393824bb4d1fa12daaf9284", func := "bonsai/bonsailaw23.MergeTwo", spec := "mergeTwo", inPlace := ["internal/bytealg.IndexByteString", "internal/bytealg.IndexString", "internal/abi.NoEscape"], unfollowed := true, recurses := true, named := ["internal/bytealg.MaxLen", "bonsai/tree.counts", "bonsai/print.signs", "math/bits.deBruijn64tab", "bonsai/print.counts", "internal/strconv.uint64pow10", "math/bits.deBruijn32tab"], apart := false, laid := [("math/bits.deBruijn32tab", laid_math_bits_deBruijn32tab), ("math/bits.deBruijn64tab", laid_math_bits_deBruijn64tab), ("internal/strconv.uint64pow10", laid_internal_strconv_uint64pow10), ("bonsai/tree.counts", laid_bonsai_tree_counts), ("bonsai/print.counts", laid_bonsai_print_counts), ("bonsai/print.signs", laid_bonsai_print_signs)], narrowed := true }
def MergeTwoUptoSaid : Prop := mergeTwoUptoRow.holds Tryz.pinned (OpenSpec.upto mergeTwoSpec)

/-- 'bonsailaw23.MergeTells', WHERE WHAT IT READS IS OF BULK AT MOST 1048576: true; the input reads as it did. -/
def mergeTellsUptoRow : OpenClaim := { program := "ythnoknnlcnikbaagreatdoor", sum := "29ea18b619c104755241d259f4e8c264eed6b2274393824bb4d1fa12daaf9284", func := "bonsai/bonsailaw23.MergeTells", spec := "mergeTells", inPlace := ["internal/bytealg.IndexByteString", "internal/bytealg.IndexString", "internal/abi.NoEscape"], unfollowed := true, recurses := true, named := ["internal/bytealg.MaxLen", "bonsai/tree.counts", "bonsai/print.signs", "math/bits.deBruijn64tab", "bonsai/print.counts", "internal/strconv.uint64pow10", "math/bits.deBruijn32tab"], apart := false, laid := [("math/bits.deBruijn32tab", laid_math_bits_deBruijn32tab), ("math/bits.deBruijn64tab", laid_math_bits_deBruijn64tab), ("internal/strconv.uint64pow10", laid_internal_strconv_uint64pow10), ("bonsai/tree.counts", laid_bonsai_tree_counts), ("bonsai/print.counts", laid_bonsai_print_counts), ("bonsai/print.signs", laid_bonsai_print_signs)], narrowed := true }
def MergeTellsUptoSaid : Prop := mergeTellsUptoRow.holds Tryz.pinned (OpenSpec.upto mergeTellsSpec)

/-- 'bonsailaw23.MergeFewer', WHERE WHAT IT READS IS OF BULK AT MOST 1048576: true; the input reads as it did. -/
def mergeFewerUptoRow : OpenClaim := { program := "ythnoknnlcnikbaagreatdoor", sum := "29ea18b619c104755241d259f4e8c264eed6b2274393824bb4d1fa12daaf9284", func := "bonsai/bonsailaw23.MergeFewer", spec := "mergeFewer", inPlace := ["internal/bytealg.IndexByteString", "internal/bytealg.IndexString", "internal/abi.NoEscape"], unfollowed := true, recurses := true, named := ["internal/bytealg.MaxLen", "bonsai/tree.counts", "bonsai/print.signs", "math/bits.deBruijn64tab", "bonsai/print.counts", "internal/strconv.uint64pow10", "math/bits.deBruijn32tab"], apart := false, laid := [("math/bits.deBruijn32tab", laid_math_bits_deBruijn32tab), ("math/bits.deBruijn64tab", laid_math_bits_deBruijn64tab), ("internal/strconv.uint64pow10", laid_internal_strconv_uint64pow10), ("bonsai/tree.counts", laid_bonsai_tree_counts), ("bonsai/print.counts", laid_bonsai_print_counts), ("bonsai/print.signs", laid_bonsai_print_signs)], narrowed := true }
def MergeFewerUptoSaid : Prop := mergeFewerUptoRow.holds Tryz.pinned (OpenSpec.upto mergeFewerSpec)

/-- 'bonsailaw23.MergeAll', WHERE WHAT IT READS IS OF BULK AT MOST 1048576: true; the input reads as it did. -/
def mergeAllUptoRow : OpenClaim := { program := "ythnoknnlcnikbaagreatdoor", sum := "29ea18b619c104755241d259f4e8c264eed6b2274393824bb4d1fa12daaf9284", func := "bonsai/bonsailaw23.MergeAll", spec := "mergeAll", inPlace := ["internal/bytealg.IndexByteString", "internal/bytealg.IndexString", "internal/abi.NoEscape"], unfollowed := true, recurses := true, named := ["internal/bytealg.MaxLen", "bonsai/tree.counts", "bonsai/print.signs", "math/bits.deBruijn64tab", "bonsai/print.counts", "internal/strconv.uint64pow10", "math/bits.deBruijn32tab"], apart := false, laid := [("math/bits.deBruijn32tab", laid_math_bits_deBruijn32tab), ("math/bits.deBruijn64tab", laid_math_bits_deBruijn64tab), ("internal/strconv.uint64pow10", laid_internal_strconv_uint64pow10), ("bonsai/tree.counts", laid_bonsai_tree_counts), ("bonsai/print.counts", laid_bonsai_print_counts), ("bonsai/print.signs", laid_bonsai_print_signs)], narrowed := true }
def MergeAllUptoSaid : Prop := mergeAllUptoRow.holds Tryz.pinned (OpenSpec.upto mergeAllSpec)

/-- 'bonsailaw23.MergeNames', WHERE WHAT IT READS IS OF BULK AT MOST 1048576: true; the input reads as it did. -/
def mergeNamesUptoRow : OpenClaim := { program := "ythnoknnlcnikbaagreatdoor", sum := "29ea18b619c104755241d259f4e8c264eed6b2274393824bb4d1fa12daaf9284", func := "bonsai/bonsailaw23.MergeNames", spec := "mergeNames", inPlace := ["internal/bytealg.IndexByteString", "internal/bytealg.IndexString", "internal/abi.NoEscape"], unfollowed := true, recurses := true, named := ["internal/bytealg.MaxLen", "bonsai/tree.counts", "bonsai/print.signs", "math/bits.deBruijn64tab", "bonsai/print.counts", "internal/strconv.uint64pow10", "math/bits.deBruijn32tab"], apart := false, laid := [("math/bits.deBruijn32tab", laid_math_bits_deBruijn32tab), ("math/bits.deBruijn64tab", laid_math_bits_deBruijn64tab), ("internal/strconv.uint64pow10", laid_internal_strconv_uint64pow10), ("bonsai/tree.counts", laid_bonsai_tree_counts), ("bonsai/print.counts", laid_bonsai_print_counts), ("bonsai/print.signs", laid_bonsai_print_signs)], narrowed := true }
def MergeNamesUptoSaid : Prop := mergeNamesUptoRow.holds Tryz.pinned (OpenSpec.upto mergeNamesSpec)

/-- 'bonsailaw19.InlineMeans', WHERE WHAT IT READS IS OF BULK AT MOST 1048576: true; the input reads as it did. -/
def inlineMeansUptoRow : OpenClaim := { program := "ythnoknnlcnikbaagreatdoor", sum := "29ea18b619c104755241d259f4e8c264eed6b2274393824bb4d1fa12daaf9284", func := "bonsai/bonsailaw19.InlineMeans", spec := "inlineMeans", inPlace := ["internal/bytealg.IndexByteString", "internal/bytealg.IndexString", "internal/abi.NoEscape"], unfollowed := true, recurses := true, named := ["internal/bytealg.MaxLen", "bonsai/tree.counts", "bonsai/print.signs", "math/bits.deBruijn64tab", "bonsai/print.counts", "internal/strconv.uint64pow10", "math/bits.deBruijn32tab"], apart := false, laid := [("math/bits.deBruijn32tab", laid_math_bits_deBruijn32tab), ("math/bits.deBruijn64tab", laid_math_bits_deBruijn64tab), ("internal/strconv.uint64pow10", laid_internal_strconv_uint64pow10), ("bonsai/tree.counts", laid_bonsai_tree_counts), ("bonsai/print.counts", laid_bonsai_print_counts), ("bonsai/print.signs", laid_bonsai_print_signs)], narrowed := true }
def InlineMeansUptoSaid : Prop := inlineMeansUptoRow.holds Tryz.pinned (OpenSpec.upto inlineMeansSpec)

/-- 'bonsailaw23.MergeMerged', WHERE WHAT IT READS IS OF BULK AT MOST 1048576: true; the input reads as it did. -/
def mergeMergedUptoRow : OpenClaim := { program := "ythnoknnlcnikbaagreatdoor", sum := "29ea18b619c104755241d259f4e8c264eed6b2274393824bb4d1fa12daaf9284", func := "bonsai/bonsailaw23.MergeMerged", spec := "mergeMerged", inPlace := ["internal/bytealg.IndexByteString", "internal/bytealg.IndexString", "internal/abi.NoEscape"], unfollowed := true, recurses := true, named := ["internal/bytealg.MaxLen", "bonsai/tree.counts", "bonsai/print.signs", "math/bits.deBruijn64tab", "bonsai/print.counts", "internal/strconv.uint64pow10", "math/bits.deBruijn32tab"], apart := false, laid := [("math/bits.deBruijn32tab", laid_math_bits_deBruijn32tab), ("math/bits.deBruijn64tab", laid_math_bits_deBruijn64tab), ("internal/strconv.uint64pow10", laid_internal_strconv_uint64pow10), ("bonsai/tree.counts", laid_bonsai_tree_counts), ("bonsai/print.counts", laid_bonsai_print_counts), ("bonsai/print.signs", laid_bonsai_print_signs)], narrowed := true }
def MergeMergedUptoSaid : Prop := mergeMergedUptoRow.holds Tryz.pinned (OpenSpec.upto mergeMergedSpec)

/-- 'bonsailaw23.MergeMeans', WHERE WHAT IT READS IS OF BULK AT MOST 1048576: true; the input reads as it did. -/
def mergeMeansUptoRow : OpenClaim := { program := "ythnoknnlcnikbaagreatdoor", sum := "29ea18b619c104755241d259f4e8c264eed6b2274393824bb4d1fa12daaf9284", func := "bonsai/bonsailaw23.MergeMeans", spec := "mergeMeans", inPlace := ["internal/bytealg.IndexByteString", "internal/bytealg.IndexString", "internal/abi.NoEscape"], unfollowed := true, recurses := true, named := ["internal/bytealg.MaxLen", "bonsai/tree.counts", "bonsai/print.signs", "math/bits.deBruijn64tab", "bonsai/print.counts", "internal/strconv.uint64pow10", "math/bits.deBruijn32tab"], apart := false, laid := [("math/bits.deBruijn32tab", laid_math_bits_deBruijn32tab), ("math/bits.deBruijn64tab", laid_math_bits_deBruijn64tab), ("internal/strconv.uint64pow10", laid_internal_strconv_uint64pow10), ("bonsai/tree.counts", laid_bonsai_tree_counts), ("bonsai/print.counts", laid_bonsai_print_counts), ("bonsai/print.signs", laid_bonsai_print_signs)], narrowed := true }
def MergeMeansUptoSaid : Prop := mergeMeansUptoRow.holds Tryz.pinned (OpenSpec.upto mergeMeansSpec)

end Rows
end Go.Proofs.YthnoknnlcnikbaaGreatDoor
