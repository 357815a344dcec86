/-
  NARROWER THAN 'FOR EVERY INPUT', by the rows' own cells (each row's printed sentence says how): WellTells: laid · WellRow: laid · WellNames: laid · FirstTells: laid · FirstFlows: laid · WellCalled: laid · FirstNames: laid · FirstTwo: laid · FirstClosed: laid · FirstBrackets: laid · WellDrops: laid · WellInlined: laid.
  DERIVED. THE GIVEN ROWS OF THIS SEAT. 12 by the template 'for every input the law returns true; each argument reads behind the call as it read before'; 0 by the template 'total and deterministic' (their statements: YtmijfbjkkllhlaaGreatDoorTotals.lean).
  GIVEN WITH THE SEED: the statements are not yours to turn. If you find one false, say at which input.
  Laid BY PROGRAM, IN A SANDBOX (cutbox-rows.mjs): the forced cells as the released guide's own fill.sh prints them over the translation 0026c0fb3a58c06e… (all of the seat's roots in one cut). By AI agents, Wed Nov 11 2026. No macro, syntax, notation, axiom, sorry.
-/
import Derived.Test.YtmijfbjkkllhlaaGreatDoorChecked
import GoSem.Claim
import GoSem.ClaimJoined
import GoSem.ClaimMapViews
import Derived.JoinedTies
import Derived.KernelRfl
namespace Go.Proofs.YtmijfbjkkllhlaaGreatDoor
/- THE CELL 'sum', in the pinned program and in every row, IS THE sha256 OF THE DUMP (.gsa) THAT YtmijfbjkkllhlaaGreatDoorProg.lean LOADS. Nothing in Lean hashes anything: it is a label: what it is worth is what the hold of that sum in a sandbox is worth. -/
noncomputable def Tryz.pinned : Pinned := { name := "ytmijfbjkkllhlaagreatdoor", sum := "0026c0fb3a58c06ef2b2b2ab1299e2eea5087e0f40cb2611140f1e8d03157cf2", checked := Tryz.checked }
namespace Rows
def none {H : Type} : Left H := { results := [], args := [] }

/- WHAT THE LISTED PACKAGE-LEVEL VARIABLES READ AS WHEN THE CALL BEGINS. Each datum BY PROGRAM (the guide's laid-datum.mjs) off the statement by which the dump's own 'gosem.cut.vars' lays the variable. In a bare row this is a premise. The card (YtmijfbjkkllhlaaGreatDoorCards.lean) ties it to the program's text. -/
def laid_math_bits_deBruijn32tab {H : Type} : DataW H := .agg [.lit (.int .u8 0), .lit (.int .u8 1), .lit (.int .u8 28), .lit (.int .u8 2), .lit (.int .u8 29), .lit (.int .u8 14), .lit (.int .u8 24), .lit (.int .u8 3), .lit (.int .u8 30), .lit (.int .u8 22), .lit (.int .u8 20), .lit (.int .u8 15), .lit (.int .u8 25), .lit (.int .u8 17), .lit (.int .u8 4), .lit (.int .u8 8), .lit (.int .u8 31), .lit (.int .u8 27), .lit (.int .u8 13), .lit (.int .u8 23), .lit (.int .u8 21), .lit (.int .u8 19), .lit (.int .u8 16), .lit (.int .u8 7), .lit (.int .u8 26), .lit (.int .u8 12), .lit (.int .u8 18), .lit (.int .u8 6), .lit (.int .u8 11), .lit (.int .u8 5), .lit (.int .u8 10), .lit (.int .u8 9)]
def laid_math_bits_deBruijn64tab {H : Type} : DataW H := .agg [.lit (.int .u8 0), .lit (.int .u8 1), .lit (.int .u8 56), .lit (.int .u8 2), .lit (.int .u8 57), .lit (.int .u8 49), .lit (.int .u8 28), .lit (.int .u8 3), .lit (.int .u8 61), .lit (.int .u8 58), .lit (.int .u8 42), .lit (.int .u8 50), .lit (.int .u8 38), .lit (.int .u8 29), .lit (.int .u8 17), .lit (.int .u8 4), .lit (.int .u8 62), .lit (.int .u8 47), .lit (.int .u8 59), .lit (.int .u8 36), .lit (.int .u8 45), .lit (.int .u8 43), .lit (.int .u8 51), .lit (.int .u8 22), .lit (.int .u8 53), .lit (.int .u8 39), .lit (.int .u8 33), .lit (.int .u8 30), .lit (.int .u8 24), .lit (.int .u8 18), .lit (.int .u8 12), .lit (.int .u8 5), .lit (.int .u8 63), .lit (.int .u8 55), .lit (.int .u8 48), .lit (.int .u8 27), .lit (.int .u8 60), .lit (.int .u8 41), .lit (.int .u8 37), .lit (.int .u8 16), .lit (.int .u8 46), .lit (.int .u8 35), .lit (.int .u8 44), .lit (.int .u8 21), .lit (.int .u8 52), .lit (.int .u8 32), .lit (.int .u8 23), .lit (.int .u8 11), .lit (.int .u8 54), .lit (.int .u8 26), .lit (.int .u8 40), .lit (.int .u8 15), .lit (.int .u8 34), .lit (.int .u8 20), .lit (.int .u8 31), .lit (.int .u8 10), .lit (.int .u8 25), .lit (.int .u8 14), .lit (.int .u8 19), .lit (.int .u8 9), .lit (.int .u8 13), .lit (.int .u8 8), .lit (.int .u8 7), .lit (.int .u8 6)]
def laid_internal_strconv_uint64pow10 {H : Type} : DataW H := .agg [.lit (.int .u64 1), .lit (.int .u64 10), .lit (.int .u64 100), .lit (.int .u64 1000), .lit (.int .u64 10000), .lit (.int .u64 100000), .lit (.int .u64 1000000), .lit (.int .u64 10000000), .lit (.int .u64 100000000), .lit (.int .u64 1000000000), .lit (.int .u64 10000000000), .lit (.int .u64 100000000000), .lit (.int .u64 1000000000000), .lit (.int .u64 10000000000000), .lit (.int .u64 100000000000000), .lit (.int .u64 1000000000000000), .lit (.int .u64 10000000000000000), .lit (.int .u64 100000000000000000), .lit (.int .u64 1000000000000000000), .lit (.int .u64 10000000000000000000)]
def laid_bonsai_tree_counts {H : Type} : DataW H := .agg [.agg [.lit (.int .i64 0), .lit (.int .i64 0)], .agg [.lit (.int .i64 0), .lit (.int .i64 0)], .agg [.lit (.int .i64 0), .lit (.int .i64 0)], .agg [.lit (.int .i64 0), .lit (.int .i64 0)], .agg [.lit (.int .i64 2), .lit (.int .i64 (-1))], .agg [.lit (.int .i64 2), .lit (.int .i64 (-1))], .agg [.lit (.int .i64 1), .lit (.int .i64 1)], .agg [.lit (.int .i64 1), .lit (.int .i64 1)], .agg [.lit (.int .i64 1), .lit (.int .i64 1)], .agg [.lit (.int .i64 1), .lit (.int .i64 1)]]
def laid_bonsai_print_counts {H : Type} : DataW H := .agg [.agg [.lit (.int .i64 0), .lit (.int .i64 1), .lit (.string [63])], .agg [.lit (.int .i64 0), .lit (.int .i64 (-1)), .lit (.string [42])], .agg [.lit (.int .i64 1), .lit (.int .i64 (-1)), .lit (.string [43])]]
def laid_bonsai_print_signs {H : Type} : DataW H := .agg [.agg [.lit (.string []), .lit (.string []), .lit (.string [])], .agg [.lit (.string []), .lit (.string []), .lit (.string [])], .agg [.lit (.string []), .lit (.string []), .lit (.string [])], .agg [.lit (.string []), .lit (.string []), .lit (.string [])], .agg [.lit (.string []), .lit (.string [32]), .lit (.string [])], .agg [.lit (.string []), .lit (.string [32, 47, 32]), .lit (.string [])], .agg [.lit (.string []), .lit (.string []), .lit (.string [])], .agg [.lit (.string [38]), .lit (.string []), .lit (.string [])], .agg [.lit (.string [33]), .lit (.string []), .lit (.string [])], .agg [.lit (.string [60]), .lit (.string []), .lit (.string [62])]]

/-- 'bonsailaw13.WellTells': WHATEVER THE INPUT: true; the input reads as it did. -/
def wellTellsSpec : ChangeSpec := { name := "wellTells", fn := fun _ => fun
  | [d1, d2] => { results := [.lit (.bool true)], args := [d1, d2] }
  | _ => none }
def wellTellsRow : OpenClaim := { program := "ytmijfbjkkllhlaagreatdoor", sum := "0026c0fb3a58c06ef2b2b2ab1299e2eea5087e0f40cb2611140f1e8d03157cf2", func := "bonsai/bonsailaw13.WellTells", spec := "wellTells", inPlace := ["internal/bytealg.IndexByteString", "internal/bytealg.IndexString", "internal/abi.NoEscape"], unfollowed := true, recurses := true, named := ["internal/bytealg.MaxLen", "bonsai/tree.counts", "bonsai/print.signs", "math/bits.deBruijn64tab", "bonsai/print.counts", "internal/strconv.uint64pow10", "math/bits.deBruijn32tab"], apart := false, laid := [("math/bits.deBruijn32tab", laid_math_bits_deBruijn32tab), ("math/bits.deBruijn64tab", laid_math_bits_deBruijn64tab), ("internal/strconv.uint64pow10", laid_internal_strconv_uint64pow10), ("bonsai/tree.counts", laid_bonsai_tree_counts), ("bonsai/print.counts", laid_bonsai_print_counts), ("bonsai/print.signs", laid_bonsai_print_signs)] }
def WellTellsSaid : Prop := wellTellsRow.holds Tryz.pinned (OpenSpec.ofChange wellTellsSpec)

/-- ITS FALSE NEIGHBOUR: 'it returns false'. Refute it at one input. -/
def wellTellsWrong : ChangeSpec := { name := "wellTells", fn := fun _ => fun
  | [d1, d2] => { results := [.lit (.bool false)], args := [d1, d2] }
  | _ => none }
def WellTellsWrongFalsely : Prop := wellTellsRow.holds Tryz.pinned (OpenSpec.ofChange wellTellsWrong)

/-- 'bonsailaw13.WellRow': WHATEVER THE INPUT: true; the input reads as it did. -/
def wellRowSpec : ChangeSpec := { name := "wellRow", fn := fun _ => fun
  | [d] => { results := [.lit (.bool true)], args := [d] }
  | _ => none }
def wellRowRow : OpenClaim := { program := "ytmijfbjkkllhlaagreatdoor", sum := "0026c0fb3a58c06ef2b2b2ab1299e2eea5087e0f40cb2611140f1e8d03157cf2", func := "bonsai/bonsailaw13.WellRow", spec := "wellRow", inPlace := ["internal/bytealg.IndexByteString", "internal/bytealg.IndexString", "internal/abi.NoEscape"], unfollowed := true, recurses := true, named := ["internal/bytealg.MaxLen", "bonsai/tree.counts", "bonsai/print.signs", "math/bits.deBruijn64tab", "bonsai/print.counts", "internal/strconv.uint64pow10", "math/bits.deBruijn32tab"], apart := false, laid := [("math/bits.deBruijn32tab", laid_math_bits_deBruijn32tab), ("math/bits.deBruijn64tab", laid_math_bits_deBruijn64tab), ("internal/strconv.uint64pow10", laid_internal_strconv_uint64pow10), ("bonsai/tree.counts", laid_bonsai_tree_counts), ("bonsai/print.counts", laid_bonsai_print_counts), ("bonsai/print.signs", laid_bonsai_print_signs)] }
def WellRowSaid : Prop := wellRowRow.holds Tryz.pinned (OpenSpec.ofChange wellRowSpec)

/-- ITS FALSE NEIGHBOUR: 'it returns false'. Refute it at one input. -/
def wellRowWrong : ChangeSpec := { name := "wellRow", fn := fun _ => fun
  | [d] => { results := [.lit (.bool false)], args := [d] }
  | _ => none }
def WellRowWrongFalsely : Prop := wellRowRow.holds Tryz.pinned (OpenSpec.ofChange wellRowWrong)

/-- 'bonsailaw13.WellNames': WHATEVER THE INPUT: true; the input reads as it did. -/
def wellNamesSpec : ChangeSpec := { name := "wellNames", fn := fun _ => fun
  | [] => { results := [.lit (.bool true)], args := [] }
  | _ => none }
def wellNamesRow : OpenClaim := { program := "ytmijfbjkkllhlaagreatdoor", sum := "0026c0fb3a58c06ef2b2b2ab1299e2eea5087e0f40cb2611140f1e8d03157cf2", func := "bonsai/bonsailaw13.WellNames", spec := "wellNames", inPlace := ["internal/bytealg.IndexByteString", "internal/bytealg.IndexString", "internal/abi.NoEscape"], unfollowed := true, recurses := true, named := ["internal/bytealg.MaxLen", "bonsai/tree.counts", "bonsai/print.signs", "math/bits.deBruijn64tab", "bonsai/print.counts", "internal/strconv.uint64pow10", "math/bits.deBruijn32tab"], apart := false, laid := [("math/bits.deBruijn32tab", laid_math_bits_deBruijn32tab), ("math/bits.deBruijn64tab", laid_math_bits_deBruijn64tab), ("internal/strconv.uint64pow10", laid_internal_strconv_uint64pow10), ("bonsai/tree.counts", laid_bonsai_tree_counts), ("bonsai/print.counts", laid_bonsai_print_counts), ("bonsai/print.signs", laid_bonsai_print_signs)] }
def WellNamesSaid : Prop := wellNamesRow.holds Tryz.pinned (OpenSpec.ofChange wellNamesSpec)

/-- ITS FALSE NEIGHBOUR: 'it returns false'. Refute it at one input. -/
def wellNamesWrong : ChangeSpec := { name := "wellNames", fn := fun _ => fun
  | [] => { results := [.lit (.bool false)], args := [] }
  | _ => none }
def WellNamesWrongFalsely : Prop := wellNamesRow.holds Tryz.pinned (OpenSpec.ofChange wellNamesWrong)

/-- 'bonsailaw11.FirstTells': WHATEVER THE INPUT: true; the input reads as it did. -/
def firstTellsSpec : ChangeSpec := { name := "firstTells", fn := fun _ => fun
  | [d1, d2, d3] => { results := [.lit (.bool true)], args := [d1, d2, d3] }
  | _ => none }
def firstTellsRow : OpenClaim := { program := "ytmijfbjkkllhlaagreatdoor", sum := "0026c0fb3a58c06ef2b2b2ab1299e2eea5087e0f40cb2611140f1e8d03157cf2", func := "bonsai/bonsailaw11.FirstTells", spec := "firstTells", inPlace := ["internal/bytealg.IndexByteString", "internal/bytealg.IndexString", "internal/abi.NoEscape"], unfollowed := true, recurses := true, named := ["internal/bytealg.MaxLen", "bonsai/tree.counts", "bonsai/print.signs", "math/bits.deBruijn64tab", "bonsai/print.counts", "internal/strconv.uint64pow10", "math/bits.deBruijn32tab"], apart := false, laid := [("math/bits.deBruijn32tab", laid_math_bits_deBruijn32tab), ("math/bits.deBruijn64tab", laid_math_bits_deBruijn64tab), ("internal/strconv.uint64pow10", laid_internal_strconv_uint64pow10), ("bonsai/tree.counts", laid_bonsai_tree_counts), ("bonsai/print.counts", laid_bonsai_print_counts), ("bonsai/print.signs", laid_bonsai_print_signs)] }
def FirstTellsSaid : Prop := firstTellsRow.holds Tryz.pinned (OpenSpec.ofChange firstTellsSpec)

/-- ITS FALSE NEIGHBOUR: 'it returns false'. Refute it at one input. -/
def firstTellsWrong : ChangeSpec := { name := "firstTells", fn := fun _ => fun
  | [d1, d2, d3] => { results := [.lit (.bool false)], args := [d1, d2, d3] }
  | _ => none }
def FirstTellsWrongFalsely : Prop := firstTellsRow.holds Tryz.pinned (OpenSpec.ofChange firstTellsWrong)

/-- 'bonsailaw11.FirstFlows': WHATEVER THE INPUT: true; the input reads as it did. -/
def firstFlowsSpec : ChangeSpec := { name := "firstFlows", fn := fun _ => fun
  | [d1, d2] => { results := [.lit (.bool true)], args := [d1, d2] }
  | _ => none }
def firstFlowsRow : OpenClaim := { program := "ytmijfbjkkllhlaagreatdoor", sum := "0026c0fb3a58c06ef2b2b2ab1299e2eea5087e0f40cb2611140f1e8d03157cf2", func := "bonsai/bonsailaw11.FirstFlows", spec := "firstFlows", inPlace := ["internal/bytealg.IndexByteString", "internal/bytealg.IndexString", "internal/abi.NoEscape"], unfollowed := true, recurses := true, named := ["internal/bytealg.MaxLen", "bonsai/tree.counts", "bonsai/print.signs", "math/bits.deBruijn64tab", "bonsai/print.counts", "internal/strconv.uint64pow10", "math/bits.deBruijn32tab"], apart := false, laid := [("math/bits.deBruijn32tab", laid_math_bits_deBruijn32tab), ("math/bits.deBruijn64tab", laid_math_bits_deBruijn64tab), ("internal/strconv.uint64pow10", laid_internal_strconv_uint64pow10), ("bonsai/tree.counts", laid_bonsai_tree_counts), ("bonsai/print.counts", laid_bonsai_print_counts), ("bonsai/print.signs", laid_bonsai_print_signs)] }
def FirstFlowsSaid : Prop := firstFlowsRow.holds Tryz.pinned (OpenSpec.ofChange firstFlowsSpec)

/-- ITS FALSE NEIGHBOUR: 'it returns false'. Refute it at one input. -/
def firstFlowsWrong : ChangeSpec := { name := "firstFlows", fn := fun _ => fun
  | [d1, d2] => { results := [.lit (.bool false)], args := [d1, d2] }
  | _ => none }
def FirstFlowsWrongFalsely : Prop := firstFlowsRow.holds Tryz.pinned (OpenSpec.ofChange firstFlowsWrong)

/-- 'bonsailaw13.WellCalled': WHATEVER THE INPUT: true; the input reads as it did. -/
def wellCalledSpec : ChangeSpec := { name := "wellCalled", fn := fun _ => fun
  | [d] => { results := [.lit (.bool true)], args := [d] }
  | _ => none }
def wellCalledRow : OpenClaim := { program := "ytmijfbjkkllhlaagreatdoor", sum := "0026c0fb3a58c06ef2b2b2ab1299e2eea5087e0f40cb2611140f1e8d03157cf2", func := "bonsai/bonsailaw13.WellCalled", spec := "wellCalled", inPlace := ["internal/bytealg.IndexByteString", "internal/bytealg.IndexString", "internal/abi.NoEscape"], unfollowed := true, recurses := true, named := ["internal/bytealg.MaxLen", "bonsai/tree.counts", "bonsai/print.signs", "math/bits.deBruijn64tab", "bonsai/print.counts", "internal/strconv.uint64pow10", "math/bits.deBruijn32tab"], apart := false, laid := [("math/bits.deBruijn32tab", laid_math_bits_deBruijn32tab), ("math/bits.deBruijn64tab", laid_math_bits_deBruijn64tab), ("internal/strconv.uint64pow10", laid_internal_strconv_uint64pow10), ("bonsai/tree.counts", laid_bonsai_tree_counts), ("bonsai/print.counts", laid_bonsai_print_counts), ("bonsai/print.signs", laid_bonsai_print_signs)] }
def WellCalledSaid : Prop := wellCalledRow.holds Tryz.pinned (OpenSpec.ofChange wellCalledSpec)

/-- ITS FALSE NEIGHBOUR: 'it returns false'. Refute it at one input. -/
def wellCalledWrong : ChangeSpec := { name := "wellCalled", fn := fun _ => fun
  | [d] => { results := [.lit (.bool false)], args := [d] }
  | _ => none }
def WellCalledWrongFalsely : Prop := wellCalledRow.holds Tryz.pinned (OpenSpec.ofChange wellCalledWrong)

/-- 'bonsailaw11.FirstNames': WHATEVER THE INPUT: true; the input reads as it did. -/
def firstNamesSpec : ChangeSpec := { name := "firstNames", fn := fun _ => fun
  | [] => { results := [.lit (.bool true)], args := [] }
  | _ => none }
def firstNamesRow : OpenClaim := { program := "ytmijfbjkkllhlaagreatdoor", sum := "0026c0fb3a58c06ef2b2b2ab1299e2eea5087e0f40cb2611140f1e8d03157cf2", func := "bonsai/bonsailaw11.FirstNames", spec := "firstNames", inPlace := ["internal/bytealg.IndexByteString", "internal/bytealg.IndexString", "internal/abi.NoEscape"], unfollowed := true, recurses := true, named := ["internal/bytealg.MaxLen", "bonsai/tree.counts", "bonsai/print.signs", "math/bits.deBruijn64tab", "bonsai/print.counts", "internal/strconv.uint64pow10", "math/bits.deBruijn32tab"], apart := false, laid := [("math/bits.deBruijn32tab", laid_math_bits_deBruijn32tab), ("math/bits.deBruijn64tab", laid_math_bits_deBruijn64tab), ("internal/strconv.uint64pow10", laid_internal_strconv_uint64pow10), ("bonsai/tree.counts", laid_bonsai_tree_counts), ("bonsai/print.counts", laid_bonsai_print_counts), ("bonsai/print.signs", laid_bonsai_print_signs)] }
def FirstNamesSaid : Prop := firstNamesRow.holds Tryz.pinned (OpenSpec.ofChange firstNamesSpec)

/-- ITS FALSE NEIGHBOUR: 'it returns false'. Refute it at one input. -/
def firstNamesWrong : ChangeSpec := { name := "firstNames", fn := fun _ => fun
  | [] => { results := [.lit (.bool false)], args := [] }
  | _ => none }
def FirstNamesWrongFalsely : Prop := firstNamesRow.holds Tryz.pinned (OpenSpec.ofChange firstNamesWrong)

/-- 'bonsailaw11.FirstTwo': WHATEVER THE INPUT: true; the input reads as it did. -/
def firstTwoSpec : ChangeSpec := { name := "firstTwo", fn := fun _ => fun
  | [d1, d2] => { results := [.lit (.bool true)], args := [d1, d2] }
  | _ => none }
def firstTwoRow : OpenClaim := { program := "ytmijfbjkkllhlaagreatdoor", sum := "0026c0fb3a58c06ef2b2b2ab1299e2eea5087e0f40cb2611140f1e8d03157cf2", func := "bonsai/bonsailaw11.FirstTwo", spec := "firstTwo", inPlace := ["internal/bytealg.IndexByteString", "internal/bytealg.IndexString", "internal/abi.NoEscape"], unfollowed := true, recurses := true, named := ["internal/bytealg.MaxLen", "bonsai/tree.counts", "bonsai/print.signs", "math/bits.deBruijn64tab", "bonsai/print.counts", "internal/strconv.uint64pow10", "math/bits.deBruijn32tab"], apart := false, laid := [("math/bits.deBruijn32tab", laid_math_bits_deBruijn32tab), ("math/bits.deBruijn64tab", laid_math_bits_deBruijn64tab), ("internal/strconv.uint64pow10", laid_internal_strconv_uint64pow10), ("bonsai/tree.counts", laid_bonsai_tree_counts), ("bonsai/print.counts", laid_bonsai_print_counts), ("bonsai/print.signs", laid_bonsai_print_signs)] }
def FirstTwoSaid : Prop := firstTwoRow.holds Tryz.pinned (OpenSpec.ofChange firstTwoSpec)

/-- ITS FALSE NEIGHBOUR: 'it returns false'. Refute it at one input. -/
def firstTwoWrong : ChangeSpec := { name := "firstTwo", fn := fun _ => fun
  | [d1, d2] => { results := [.lit (.bool false)], args := [d1, d2] }
  | _ => none }
def FirstTwoWrongFalsely : Prop := firstTwoRow.holds Tryz.pinned (OpenSpec.ofChange firstTwoWrong)

/-- 'bonsailaw11.FirstClosed': WHATEVER THE INPUT: true; the input reads as it did. -/
def firstClosedSpec : ChangeSpec := { name := "firstClosed", fn := fun _ => fun
  | [d1, d2] => { results := [.lit (.bool true)], args := [d1, d2] }
  | _ => none }
def firstClosedRow : OpenClaim := { program := "ytmijfbjkkllhlaagreatdoor", sum := "0026c0fb3a58c06ef2b2b2ab1299e2eea5087e0f40cb2611140f1e8d03157cf2", func := "bonsai/bonsailaw11.FirstClosed", spec := "firstClosed", inPlace := ["internal/bytealg.IndexByteString", "internal/bytealg.IndexString", "internal/abi.NoEscape"], unfollowed := true, recurses := true, named := ["internal/bytealg.MaxLen", "bonsai/tree.counts", "bonsai/print.signs", "math/bits.deBruijn64tab", "bonsai/print.counts", "internal/strconv.uint64pow10", "math/bits.deBruijn32tab"], apart := false, laid := [("math/bits.deBruijn32tab", laid_math_bits_deBruijn32tab), ("math/bits.deBruijn64tab", laid_math_bits_deBruijn64tab), ("internal/strconv.uint64pow10", laid_internal_strconv_uint64pow10), ("bonsai/tree.counts", laid_bonsai_tree_counts), ("bonsai/print.counts", laid_bonsai_print_counts), ("bonsai/print.signs", laid_bonsai_print_signs)] }
def FirstClosedSaid : Prop := firstClosedRow.holds Tryz.pinned (OpenSpec.ofChange firstClosedSpec)

/-- ITS FALSE NEIGHBOUR: 'it returns false'. Refute it at one input. -/
def firstClosedWrong : ChangeSpec := { name := "firstClosed", fn := fun _ => fun
  | [d1, d2] => { results := [.lit (.bool false)], args := [d1, d2] }
  | _ => none }
def FirstClosedWrongFalsely : Prop := firstClosedRow.holds Tryz.pinned (OpenSpec.ofChange firstClosedWrong)

/-- 'bonsailaw11.FirstBrackets': WHATEVER THE INPUT: true; the input reads as it did. -/
def firstBracketsSpec : ChangeSpec := { name := "firstBrackets", fn := fun _ => fun
  | [d1, d2, d3] => { results := [.lit (.bool true)], args := [d1, d2, d3] }
  | _ => none }
def firstBracketsRow : OpenClaim := { program := "ytmijfbjkkllhlaagreatdoor", sum := "0026c0fb3a58c06ef2b2b2ab1299e2eea5087e0f40cb2611140f1e8d03157cf2", func := "bonsai/bonsailaw11.FirstBrackets", spec := "firstBrackets", inPlace := ["internal/bytealg.IndexByteString", "internal/bytealg.IndexString", "internal/abi.NoEscape"], unfollowed := true, recurses := true, named := ["internal/bytealg.MaxLen", "bonsai/tree.counts", "bonsai/print.signs", "math/bits.deBruijn64tab", "bonsai/print.counts", "internal/strconv.uint64pow10", "math/bits.deBruijn32tab"], apart := false, laid := [("math/bits.deBruijn32tab", laid_math_bits_deBruijn32tab), ("math/bits.deBruijn64tab", laid_math_bits_deBruijn64tab), ("internal/strconv.uint64pow10", laid_internal_strconv_uint64pow10), ("bonsai/tree.counts", laid_bonsai_tree_counts), ("bonsai/print.counts", laid_bonsai_print_counts), ("bonsai/print.signs", laid_bonsai_print_signs)] }
def FirstBracketsSaid : Prop := firstBracketsRow.holds Tryz.pinned (OpenSpec.ofChange firstBracketsSpec)

/-- ITS FALSE NEIGHBOUR: 'it returns false'. Refute it at one input. -/
def firstBracketsWrong : ChangeSpec := { name := "firstBrackets", fn := fun _ => fun
  | [d1, d2, d3] => { results := [.lit (.bool false)], args := [d1, d2, d3] }
  | _ => none }
def FirstBracketsWrongFalsely : Prop := firstBracketsRow.holds Tryz.pinned (OpenSpec.ofChange firstBracketsWrong)

/-- 'bonsailaw13.WellDrops': WHATEVER THE INPUT: true; the input reads as it did. -/
def wellDropsSpec : ChangeSpec := { name := "wellDrops", fn := fun _ => fun
  | [d1, d2] => { results := [.lit (.bool true)], args := [d1, d2] }
  | _ => none }
def wellDropsRow : OpenClaim := { program := "ytmijfbjkkllhlaagreatdoor", sum := "0026c0fb3a58c06ef2b2b2ab1299e2eea5087e0f40cb2611140f1e8d03157cf2", func := "bonsai/bonsailaw13.WellDrops", spec := "wellDrops", inPlace := ["internal/bytealg.IndexByteString", "internal/bytealg.IndexString", "internal/abi.NoEscape"], unfollowed := true, recurses := true, named := ["internal/bytealg.MaxLen", "bonsai/tree.counts", "bonsai/print.signs", "math/bits.deBruijn64tab", "bonsai/print.counts", "internal/strconv.uint64pow10", "math/bits.deBruijn32tab"], apart := false, laid := [("math/bits.deBruijn32tab", laid_math_bits_deBruijn32tab), ("math/bits.deBruijn64tab", laid_math_bits_deBruijn64tab), ("internal/strconv.uint64pow10", laid_internal_strconv_uint64pow10), ("bonsai/tree.counts", laid_bonsai_tree_counts), ("bonsai/print.counts", laid_bonsai_print_counts), ("bonsai/print.signs", laid_bonsai_print_signs)] }
def WellDropsSaid : Prop := wellDropsRow.holds Tryz.pinned (OpenSpec.ofChange wellDropsSpec)

/-- ITS FALSE NEIGHBOUR: 'it returns false'. Refute it at one input. -/
def wellDropsWrong : ChangeSpec := { name := "wellDrops", fn := fun _ => fun
  | [d1, d2] => { results := [.lit (.bool false)], args := [d1, d2] }
  | _ => none }
def WellDropsWrongFalsely : Prop := wellDropsRow.holds Tryz.pinned (OpenSpec.ofChange wellDropsWrong)

/-- 'bonsailaw13.WellInlined': WHATEVER THE INPUT: true; the input reads as it did. -/
def wellInlinedSpec : ChangeSpec := { name := "wellInlined", fn := fun _ => fun
  | [d1, d2, d3] => { results := [.lit (.bool true)], args := [d1, d2, d3] }
  | _ => none }
def wellInlinedRow : OpenClaim := { program := "ytmijfbjkkllhlaagreatdoor", sum := "0026c0fb3a58c06ef2b2b2ab1299e2eea5087e0f40cb2611140f1e8d03157cf2", func := "bonsai/bonsailaw13.WellInlined", spec := "wellInlined", inPlace := ["internal/bytealg.IndexByteString", "internal/bytealg.IndexString", "internal/abi.NoEscape"], unfollowed := true, recurses := true, named := ["internal/bytealg.MaxLen", "bonsai/tree.counts", "bonsai/print.signs", "math/bits.deBruijn64tab", "bonsai/print.counts", "internal/strconv.uint64pow10", "math/bits.deBruijn32tab"], apart := false, laid := [("math/bits.deBruijn32tab", laid_math_bits_deBruijn32tab), ("math/bits.deBruijn64tab", laid_math_bits_deBruijn64tab), ("internal/strconv.uint64pow10", laid_internal_strconv_uint64pow10), ("bonsai/tree.counts", laid_bonsai_tree_counts), ("bonsai/print.counts", laid_bonsai_print_counts), ("bonsai/print.signs", laid_bonsai_print_signs)] }
def WellInlinedSaid : Prop := wellInlinedRow.holds Tryz.pinned (OpenSpec.ofChange wellInlinedSpec)

/-- ITS FALSE NEIGHBOUR: 'it returns false'. Refute it at one input. -/
def wellInlinedWrong : ChangeSpec := { name := "wellInlined", fn := fun _ => fun
  | [d1, d2, d3] => { results := [.lit (.bool false)], args := [d1, d2, d3] }
  | _ => none }
def WellInlinedWrongFalsely : Prop := wellInlinedRow.holds Tryz.pinned (OpenSpec.ofChange wellInlinedWrong)

/- THE SECOND FORM. 'bulk': how many values and letters a reading holds, each counted each time it is reached (what is shared counts as often as it is met; a slice's spare places count too). A statement '..UptoSaid' is the law's where the arguments, and the package variables that the reading takes, are together of bulk at most 1048576: NARROWER than '..Said'. Prove '..Said' where nothing that the law and all that it calls make is longer than what came in: it says more and counts as full. Else prove '..UptoSaid'. A law counts once. -/
mutual
def uptoBulk {H : Type} : DataW H → Nat
  | .lit (.string bytes) => bytes.length + 1
  | .lit _ => 1
  | .nil => 1
  | .ptr d => uptoBulk d + 1
  | .slice elems spare => uptoBulkAll elems + uptoBulkAll spare + 1
  | .agg parts => uptoBulkAll parts + 1
  | .iface _ d => uptoBulk d + 1
  | .map entries => uptoBulkEntries entries + 1
  | .held _ => 1
def uptoBulkAll {H : Type} : List (DataW H) → Nat
  | [] => 0
  | d :: r => uptoBulk d + uptoBulkAll r
def uptoBulkEntries {H : Type} : List (Lit × DataW H) → Nat
  | [] => 0
  | x :: r => uptoBulkEntry x + uptoBulkEntries r
def uptoBulkEntry {H : Type} : Lit × DataW H → Nat
  | (.string bytes, d) => bytes.length + uptoBulk d + 1
  | (_, d) => uptoBulk d + 1
 end
def uptoSmall : (H : Type) → List (DataW H) → Bool := fun _ ds => decide (uptoBulkAll ds ≤ 1048576)
def OpenSpec.upto (s : _root_.Go.ChangeSpec) : _root_.Go.OpenSpec := { _root_.Go.OpenSpec.ofChange s with cond := some uptoSmall }

/-- 'bonsailaw13.WellTells', WHERE WHAT IT READS IS OF BULK AT MOST 1048576: true; the input reads as it did. -/
def wellTellsUptoRow : OpenClaim := { program := "ytmijfbjkkllhlaagreatdoor", sum := "0026c0fb3a58c06ef2b2b2ab1299e2eea5087e0f40cb2611140f1e8d03157cf2", func := "bonsai/bonsailaw13.WellTells", spec := "wellTells", inPlace := ["internal/bytealg.IndexByteString", "internal/bytealg.IndexString", "internal/abi.NoEscape"], unfollowed := true, recurses := true, named := ["internal/bytealg.MaxLen", "bonsai/tree.counts", "bonsai/print.signs", "math/bits.deBruijn64tab", "bonsai/print.counts", "internal/strconv.uint64pow10", "math/bits.deBruijn32tab"], apart := false, laid := [("math/bits.deBruijn32tab", laid_math_bits_deBruijn32tab), ("math/bits.deBruijn64tab", laid_math_bits_deBruijn64tab), ("internal/strconv.uint64pow10", laid_internal_strconv_uint64pow10), ("bonsai/tree.counts", laid_bonsai_tree_counts), ("bonsai/print.counts", laid_bonsai_print_counts), ("bonsai/print.signs", laid_bonsai_print_signs)], narrowed := true }
def WellTellsUptoSaid : Prop := wellTellsUptoRow.holds Tryz.pinned (OpenSpec.upto wellTellsSpec)

/-- 'bonsailaw13.WellRow', WHERE WHAT IT READS IS OF BULK AT MOST 1048576: true; the input reads as it did. -/
def wellRowUptoRow : OpenClaim := { program := "ytmijfbjkkllhlaagreatdoor", sum := "0026c0fb3a58c06ef2b2b2ab1299e2eea5087e0f40cb2611140f1e8d03157cf2", func := "bonsai/bonsailaw13.WellRow", spec := "wellRow", inPlace := ["internal/bytealg.IndexByteString", "internal/bytealg.IndexString", "internal/abi.NoEscape"], unfollowed := true, recurses := true, named := ["internal/bytealg.MaxLen", "bonsai/tree.counts", "bonsai/print.signs", "math/bits.deBruijn64tab", "bonsai/print.counts", "internal/strconv.uint64pow10", "math/bits.deBruijn32tab"], apart := false, laid := [("math/bits.deBruijn32tab", laid_math_bits_deBruijn32tab), ("math/bits.deBruijn64tab", laid_math_bits_deBruijn64tab), ("internal/strconv.uint64pow10", laid_internal_strconv_uint64pow10), ("bonsai/tree.counts", laid_bonsai_tree_counts), ("bonsai/print.counts", laid_bonsai_print_counts), ("bonsai/print.signs", laid_bonsai_print_signs)], narrowed := true }
def WellRowUptoSaid : Prop := wellRowUptoRow.holds Tryz.pinned (OpenSpec.upto wellRowSpec)

/-- 'bonsailaw13.WellNames', WHERE WHAT IT READS IS OF BULK AT MOST 1048576: true; the input reads as it did. -/
def wellNamesUptoRow : OpenClaim := { program := "ytmijfbjkkllhlaagreatdoor", sum := "0026c0fb3a58c06ef2b2b2ab1299e2eea5087e0f40cb2611140f1e8d03157cf2", func := "bonsai/bonsailaw13.WellNames", spec := "wellNames", inPlace := ["internal/bytealg.IndexByteString", "internal/bytealg.IndexString", "internal/abi.NoEscape"], unfollowed := true, recurses := true, named := ["internal/bytealg.MaxLen", "bonsai/tree.counts", "bonsai/print.signs", "math/bits.deBruijn64tab", "bonsai/print.counts", "internal/strconv.uint64pow10", "math/bits.deBruijn32tab"], apart := false, laid := [("math/bits.deBruijn32tab", laid_math_bits_deBruijn32tab), ("math/bits.deBruijn64tab", laid_math_bits_deBruijn64tab), ("internal/strconv.uint64pow10", laid_internal_strconv_uint64pow10), ("bonsai/tree.counts", laid_bonsai_tree_counts), ("bonsai/print.counts", laid_bonsai_print_counts), ("bonsai/print.signs", laid_bonsai_print_signs)], narrowed := true }
def WellNamesUptoSaid : Prop := wellNamesUptoRow.holds Tryz.pinned (OpenSpec.upto wellNamesSpec)

/-- 'bonsailaw11.FirstTells', WHERE WHAT IT READS IS OF BULK AT MOST 1048576: true; the input reads as it did. -/
def firstTellsUptoRow : OpenClaim := { program := "ytmijfbjkkllhlaagreatdoor", sum := "0026c0fb3a58c06ef2b2b2ab1299e2eea5087e0f40cb2611140f1e8d03157cf2", func := "bonsai/bonsailaw11.FirstTells", spec := "firstTells", inPlace := ["internal/bytealg.IndexByteString", "internal/bytealg.IndexString", "internal/abi.NoEscape"], unfollowed := true, recurses := true, named := ["internal/bytealg.MaxLen", "bonsai/tree.counts", "bonsai/print.signs", "math/bits.deBruijn64tab", "bonsai/print.counts", "internal/strconv.uint64pow10", "math/bits.deBruijn32tab"], apart := false, laid := [("math/bits.deBruijn32tab", laid_math_bits_deBruijn32tab), ("math/bits.deBruijn64tab", laid_math_bits_deBruijn64tab), ("internal/strconv.uint64pow10", laid_internal_strconv_uint64pow10), ("bonsai/tree.counts", laid_bonsai_tree_counts), ("bonsai/print.counts", laid_bonsai_print_counts), ("bonsai/print.signs", laid_bonsai_print_signs)], narrowed := true }
def FirstTellsUptoSaid : Prop := firstTellsUptoRow.holds Tryz.pinned (OpenSpec.upto firstTellsSpec)

/-- 'bonsailaw11.FirstFlows', WHERE WHAT IT READS IS OF BULK AT MOST 1048576: true; the input reads as it did. -/
def firstFlowsUptoRow : OpenClaim := { program := "ytmijfbjkkllhlaagreatdoor", sum := "0026c0fb3a58c06ef2b2b2ab1299e2eea5087e0f40cb2611140f1e8d03157cf2", func := "bonsai/bonsailaw11.FirstFlows", spec := "firstFlows", inPlace := ["internal/bytealg.IndexByteString", "internal/bytealg.IndexString", "internal/abi.NoEscape"], unfollowed := true, recurses := true, named := ["internal/bytealg.MaxLen", "bonsai/tree.counts", "bonsai/print.signs", "math/bits.deBruijn64tab", "bonsai/print.counts", "internal/strconv.uint64pow10", "math/bits.deBruijn32tab"], apart := false, laid := [("math/bits.deBruijn32tab", laid_math_bits_deBruijn32tab), ("math/bits.deBruijn64tab", laid_math_bits_deBruijn64tab), ("internal/strconv.uint64pow10", laid_internal_strconv_uint64pow10), ("bonsai/tree.counts", laid_bonsai_tree_counts), ("bonsai/print.counts", laid_bonsai_print_counts), ("bonsai/print.signs", laid_bonsai_print_signs)], narrowed := true }
def FirstFlowsUptoSaid : Prop := firstFlowsUptoRow.holds Tryz.pinned (OpenSpec.upto firstFlowsSpec)

/-- 'bonsailaw13.WellCalled', WHERE WHAT IT READS IS OF BULK AT MOST 1048576: true; the input reads as it did. -/
def wellCalledUptoRow : OpenClaim := { program := "ytmijfbjkkllhlaagreatdoor", sum := "0026c0fb3a58c06ef2b2b2ab1299e2eea5087e0f40cb2611140f1e8d03157cf2", func := "bonsai/bonsailaw13.WellCalled", spec := "wellCalled", inPlace := ["internal/bytealg.IndexByteString", "internal/bytealg.IndexString", "internal/abi.NoEscape"], unfollowed := true, recurses := true, named := ["internal/bytealg.MaxLen", "bonsai/tree.counts", "bonsai/print.signs", "math/bits.deBruijn64tab", "bonsai/print.counts", "internal/strconv.uint64pow10", "math/bits.deBruijn32tab"], apart := false, laid := [("math/bits.deBruijn32tab", laid_math_bits_deBruijn32tab), ("math/bits.deBruijn64tab", laid_math_bits_deBruijn64tab), ("internal/strconv.uint64pow10", laid_internal_strconv_uint64pow10), ("bonsai/tree.counts", laid_bonsai_tree_counts), ("bonsai/print.counts", laid_bonsai_print_counts), ("bonsai/print.signs", laid_bonsai_print_signs)], narrowed := true }
def WellCalledUptoSaid : Prop := wellCalledUptoRow.holds Tryz.pinned (OpenSpec.upto wellCalledSpec)

/-- 'bonsailaw11.FirstNames', WHERE WHAT IT READS IS OF BULK AT MOST 1048576: true; the input reads as it did. -/
def firstNamesUptoRow : OpenClaim := { program := "ytmijfbjkkllhlaagreatdoor", sum := "0026c0fb3a58c06ef2b2b2ab1299e2eea5087e0f40cb2611140f1e8d03157cf2", func := "bonsai/bonsailaw11.FirstNames", spec := "firstNames", inPlace := ["internal/bytealg.IndexByteString", "internal/bytealg.IndexString", "internal/abi.NoEscape"], unfollowed := true, recurses := true, named := ["internal/bytealg.MaxLen", "bonsai/tree.counts", "bonsai/print.signs", "math/bits.deBruijn64tab", "bonsai/print.counts", "internal/strconv.uint64pow10", "math/bits.deBruijn32tab"], apart := false, laid := [("math/bits.deBruijn32tab", laid_math_bits_deBruijn32tab), ("math/bits.deBruijn64tab", laid_math_bits_deBruijn64tab), ("internal/strconv.uint64pow10", laid_internal_strconv_uint64pow10), ("bonsai/tree.counts", laid_bonsai_tree_counts), ("bonsai/print.counts", laid_bonsai_print_counts), ("bonsai/print.signs", laid_bonsai_print_signs)], narrowed := true }
def FirstNamesUptoSaid : Prop := firstNamesUptoRow.holds Tryz.pinned (OpenSpec.upto firstNamesSpec)

/-- 'bonsailaw11.FirstTwo', WHERE WHAT IT READS IS OF BULK AT MOST 1048576: true; the input reads as it did. -/
def firstTwoUptoRow : OpenClaim := { program := "ytmijfbjkkllhlaagreatdoor", sum := "0026c0fb3a58c06ef2b2b2ab1299e2eea5087e0f40cb2611140f1e8d03157cf2", func := "bonsai/bonsailaw11.FirstTwo", spec := "firstTwo", inPlace := ["internal/bytealg.IndexByteString", "internal/bytealg.IndexString", "internal/abi.NoEscape"], unfollowed := true, recurses := true, named := ["internal/bytealg.MaxLen", "bonsai/tree.counts", "bonsai/print.signs", "math/bits.deBruijn64tab", "bonsai/print.counts", "internal/strconv.uint64pow10", "math/bits.deBruijn32tab"], apart := false, laid := [("math/bits.deBruijn32tab", laid_math_bits_deBruijn32tab), ("math/bits.deBruijn64tab", laid_math_bits_deBruijn64tab), ("internal/strconv.uint64pow10", laid_internal_strconv_uint64pow10), ("bonsai/tree.counts", laid_bonsai_tree_counts), ("bonsai/print.counts", laid_bonsai_print_counts), ("bonsai/print.signs", laid_bonsai_print_signs)], narrowed := true }
def FirstTwoUptoSaid : Prop := firstTwoUptoRow.holds Tryz.pinned (OpenSpec.upto firstTwoSpec)

/-- 'bonsailaw11.FirstClosed', WHERE WHAT IT READS IS OF BULK AT MOST 1048576: true; the input reads as it did. -/
def firstClosedUptoRow : OpenClaim := { program := "ytmijfbjkkllhlaagreatdoor", sum := "0026c0fb3a58c06ef2b2b2ab1299e2eea5087e0f40cb2611140f1e8d03157cf2", func := "bonsai/bonsailaw11.FirstClosed", spec := "firstClosed", inPlace := ["internal/bytealg.IndexByteString", "internal/bytealg.IndexString", "internal/abi.NoEscape"], unfollowed := true, recurses := true, named := ["internal/bytealg.MaxLen", "bonsai/tree.counts", "bonsai/print.signs", "math/bits.deBruijn64tab", "bonsai/print.counts", "internal/strconv.uint64pow10", "math/bits.deBruijn32tab"], apart := false, laid := [("math/bits.deBruijn32tab", laid_math_bits_deBruijn32tab), ("math/bits.deBruijn64tab", laid_math_bits_deBruijn64tab), ("internal/strconv.uint64pow10", laid_internal_strconv_uint64pow10), ("bonsai/tree.counts", laid_bonsai_tree_counts), ("bonsai/print.counts", laid_bonsai_print_counts), ("bonsai/print.signs", laid_bonsai_print_signs)], narrowed := true }
def FirstClosedUptoSaid : Prop := firstClosedUptoRow.holds Tryz.pinned (OpenSpec.upto firstClosedSpec)

/-- 'bonsailaw11.FirstBrackets', WHERE WHAT IT READS IS OF BULK AT MOST 1048576: true; the input reads as it did. -/
def firstBracketsUptoRow : OpenClaim := { program := "ytmijfbjkkllhlaagreatdoor", sum := "0026c0fb3a58c06ef2b2b2ab1299e2eea5087e0f40cb2611140f1e8d03157cf2", func := "bonsai/bonsailaw11.FirstBrackets", spec := "firstBrackets", inPlace := ["internal/bytealg.IndexByteString", "internal/bytealg.IndexString", "internal/abi.NoEscape"], unfollowed := true, recurses := true, named := ["internal/bytealg.MaxLen", "bonsai/tree.counts", "bonsai/print.signs", "math/bits.deBruijn64tab", "bonsai/print.counts", "internal/strconv.uint64pow10", "math/bits.deBruijn32tab"], apart := false, laid := [("math/bits.deBruijn32tab", laid_math_bits_deBruijn32tab), ("math/bits.deBruijn64tab", laid_math_bits_deBruijn64tab), ("internal/strconv.uint64pow10", laid_internal_strconv_uint64pow10), ("bonsai/tree.counts", laid_bonsai_tree_counts), ("bonsai/print.counts", laid_bonsai_print_counts), ("bonsai/print.signs", laid_bonsai_print_signs)], narrowed := true }
def FirstBracketsUptoSaid : Prop := firstBracketsUptoRow.holds Tryz.pinned (OpenSpec.upto firstBracketsSpec)

/-- 'bonsailaw13.WellDrops', WHERE WHAT IT READS IS OF BULK AT MOST 1048576: true; the input reads as it did. -/
def wellDropsUptoRow : OpenClaim := { program := "ytmijfbjkkllhlaagreatdoor", sum := "0026c0fb3a58c06ef2b2b2ab1299e2eea5087e0f40cb2611140f1e8d03157cf2", func := "bonsai/bonsailaw13.WellDrops", spec := "wellDrops", inPlace := ["internal/bytealg.IndexByteString", "internal/bytealg.IndexString", "internal/abi.NoEscape"], unfollowed := true, recurses := true, named := ["internal/bytealg.MaxLen", "bonsai/tree.counts", "bonsai/print.signs", "math/bits.deBruijn64tab", "bonsai/print.counts", "internal/strconv.uint64pow10", "math/bits.deBruijn32tab"], apart := false, laid := [("math/bits.deBruijn32tab", laid_math_bits_deBruijn32tab), ("math/bits.deBruijn64tab", laid_math_bits_deBruijn64tab), ("internal/strconv.uint64pow10", laid_internal_strconv_uint64pow10), ("bonsai/tree.counts", laid_bonsai_tree_counts), ("bonsai/print.counts", laid_bonsai_print_counts), ("bonsai/print.signs", laid_bonsai_print_signs)], narrowed := true }
def WellDropsUptoSaid : Prop := wellDropsUptoRow.holds Tryz.pinned (OpenSpec.upto wellDropsSpec)

/-- 'bonsailaw13.WellInlined', WHERE WHAT IT READS IS OF BULK AT MOST 1048576: true; the input reads as it did. -/
def wellInlinedUptoRow : OpenClaim := { program := "ytmijfbjkkllhlaagreatdoor", sum := "0026c0fb3a58c06ef2b2b2ab1299e2eea5087e0f40cb2611140f1e8d03157cf2", func := "bonsai/bonsailaw13.WellInlined", spec := "wellInlined", inPlace := ["internal/bytealg.IndexByteString", "internal/bytealg.IndexString", "internal/abi.NoEscape"], unfollowed := true, recurses := true, named := ["internal/bytealg.MaxLen", "bonsai/tree.counts", "bonsai/print.signs", "math/bits.deBruijn64tab", "bonsai/print.counts", "internal/strconv.uint64pow10", "math/bits.deBruijn32tab"], apart := false, laid := [("math/bits.deBruijn32tab", laid_math_bits_deBruijn32tab), ("math/bits.deBruijn64tab", laid_math_bits_deBruijn64tab), ("internal/strconv.uint64pow10", laid_internal_strconv_uint64pow10), ("bonsai/tree.counts", laid_bonsai_tree_counts), ("bonsai/print.counts", laid_bonsai_print_counts), ("bonsai/print.signs", laid_bonsai_print_signs)], narrowed := true }
def WellInlinedUptoSaid : Prop := wellInlinedUptoRow.holds Tryz.pinned (OpenSpec.upto wellInlinedSpec)

end Rows
end Go.Proofs.YtmijfbjkkllhlaaGreatDoor
