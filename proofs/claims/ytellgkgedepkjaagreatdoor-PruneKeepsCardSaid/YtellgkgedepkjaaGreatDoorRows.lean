/-
  NARROWER THAN 'FOR EVERY INPUT', by the rows' own cells (each row's printed sentence says how): FuelNames: laid · WellInlined: laid · FuelCloser: laid · PruneNames: laid · PruneTells: laid · PruneKeeps: laid · PruneNeeded: laid · PruneKept: laid.
  DERIVED. THE GIVEN ROWS OF THIS SEAT. 8 by the template 'for every input the law returns true; each argument reads behind the call as it read before'; 0 by the template 'total and deterministic' (their statements: YtellgkgedepkjaaGreatDoorTotals.lean).
  GIVEN WITH THE SEED: the statements are not yours to turn. If you find one false, say at which input.
  Laid BY PROGRAM, IN A SANDBOX (cutbox-rows.mjs): the forced cells as the released guide's own fill.sh prints them over the translation 294309aa32162325… (all of the seat's roots in one cut). By AI agents, Wed Nov 11 2026. No macro, syntax, notation, axiom, sorry.
-/
import Derived.Test.YtellgkgedepkjaaGreatDoorChecked
import GoSem.Claim
import GoSem.ClaimJoined
import GoSem.ClaimMapViews
import Derived.JoinedTies
import Derived.KernelRfl
namespace Go.Proofs.YtellgkgedepkjaaGreatDoor
/- THE CELL 'sum', in the pinned program and in every row, IS THE sha256 OF THE DUMP (.gsa) THAT YtellgkgedepkjaaGreatDoorProg.lean LOADS. Nothing in Lean hashes anything: it is a label: what it is worth is what the hold of that sum in a sandbox is worth. -/
noncomputable def Tryz.pinned : Pinned := { name := "ytellgkgedepkjaagreatdoor", sum := "294309aa321623254b54c871c5f2ee0b34db5e1ad1713879b932374f970d2fe0", checked := Tryz.checked }
namespace Rows
def none {H : Type} : Left H := { results := [], args := [] }

/- WHAT THE LISTED PACKAGE-LEVEL VARIABLES READ AS WHEN THE CALL BEGINS. Each datum BY PROGRAM (the guide's laid-datum.mjs) off the statement by which the dump's own 'gosem.cut.vars' lays the variable. In a bare row this is a premise. The card (YtellgkgedepkjaaGreatDoorCards.lean) ties it to the program's text. -/
def laid_math_bits_deBruijn32tab {H : Type} : DataW H := .agg [.lit (.int .u8 0), .lit (.int .u8 1), .lit (.int .u8 28), .lit (.int .u8 2), .lit (.int .u8 29), .lit (.int .u8 14), .lit (.int .u8 24), .lit (.int .u8 3), .lit (.int .u8 30), .lit (.int .u8 22), .lit (.int .u8 20), .lit (.int .u8 15), .lit (.int .u8 25), .lit (.int .u8 17), .lit (.int .u8 4), .lit (.int .u8 8), .lit (.int .u8 31), .lit (.int .u8 27), .lit (.int .u8 13), .lit (.int .u8 23), .lit (.int .u8 21), .lit (.int .u8 19), .lit (.int .u8 16), .lit (.int .u8 7), .lit (.int .u8 26), .lit (.int .u8 12), .lit (.int .u8 18), .lit (.int .u8 6), .lit (.int .u8 11), .lit (.int .u8 5), .lit (.int .u8 10), .lit (.int .u8 9)]
def laid_math_bits_deBruijn64tab {H : Type} : DataW H := .agg [.lit (.int .u8 0), .lit (.int .u8 1), .lit (.int .u8 56), .lit (.int .u8 2), .lit (.int .u8 57), .lit (.int .u8 49), .lit (.int .u8 28), .lit (.int .u8 3), .lit (.int .u8 61), .lit (.int .u8 58), .lit (.int .u8 42), .lit (.int .u8 50), .lit (.int .u8 38), .lit (.int .u8 29), .lit (.int .u8 17), .lit (.int .u8 4), .lit (.int .u8 62), .lit (.int .u8 47), .lit (.int .u8 59), .lit (.int .u8 36), .lit (.int .u8 45), .lit (.int .u8 43), .lit (.int .u8 51), .lit (.int .u8 22), .lit (.int .u8 53), .lit (.int .u8 39), .lit (.int .u8 33), .lit (.int .u8 30), .lit (.int .u8 24), .lit (.int .u8 18), .lit (.int .u8 12), .lit (.int .u8 5), .lit (.int .u8 63), .lit (.int .u8 55), .lit (.int .u8 48), .lit (.int .u8 27), .lit (.int .u8 60), .lit (.int .u8 41), .lit (.int .u8 37), .lit (.int .u8 16), .lit (.int .u8 46), .lit (.int .u8 35), .lit (.int .u8 44), .lit (.int .u8 21), .lit (.int .u8 52), .lit (.int .u8 32), .lit (.int .u8 23), .lit (.int .u8 11), .lit (.int .u8 54), .lit (.int .u8 26), .lit (.int .u8 40), .lit (.int .u8 15), .lit (.int .u8 34), .lit (.int .u8 20), .lit (.int .u8 31), .lit (.int .u8 10), .lit (.int .u8 25), .lit (.int .u8 14), .lit (.int .u8 19), .lit (.int .u8 9), .lit (.int .u8 13), .lit (.int .u8 8), .lit (.int .u8 7), .lit (.int .u8 6)]
def laid_internal_strconv_uint64pow10 {H : Type} : DataW H := .agg [.lit (.int .u64 1), .lit (.int .u64 10), .lit (.int .u64 100), .lit (.int .u64 1000), .lit (.int .u64 10000), .lit (.int .u64 100000), .lit (.int .u64 1000000), .lit (.int .u64 10000000), .lit (.int .u64 100000000), .lit (.int .u64 1000000000), .lit (.int .u64 10000000000), .lit (.int .u64 100000000000), .lit (.int .u64 1000000000000), .lit (.int .u64 10000000000000), .lit (.int .u64 100000000000000), .lit (.int .u64 1000000000000000), .lit (.int .u64 10000000000000000), .lit (.int .u64 100000000000000000), .lit (.int .u64 1000000000000000000), .lit (.int .u64 10000000000000000000)]
def laid_bonsai_tree_counts {H : Type} : DataW H := .agg [.agg [.lit (.int .i64 0), .lit (.int .i64 0)], .agg [.lit (.int .i64 0), .lit (.int .i64 0)], .agg [.lit (.int .i64 0), .lit (.int .i64 0)], .agg [.lit (.int .i64 0), .lit (.int .i64 0)], .agg [.lit (.int .i64 2), .lit (.int .i64 (-1))], .agg [.lit (.int .i64 2), .lit (.int .i64 (-1))], .agg [.lit (.int .i64 1), .lit (.int .i64 1)], .agg [.lit (.int .i64 1), .lit (.int .i64 1)], .agg [.lit (.int .i64 1), .lit (.int .i64 1)], .agg [.lit (.int .i64 1), .lit (.int .i64 1)]]
def laid_bonsai_print_counts {H : Type} : DataW H := .agg [.agg [.lit (.int .i64 0), .lit (.int .i64 1), .lit (.string [63])], .agg [.lit (.int .i64 0), .lit (.int .i64 (-1)), .lit (.string [42])], .agg [.lit (.int .i64 1), .lit (.int .i64 (-1)), .lit (.string [43])]]
def laid_bonsai_print_signs {H : Type} : DataW H := .agg [.agg [.lit (.string []), .lit (.string []), .lit (.string [])], .agg [.lit (.string []), .lit (.string []), .lit (.string [])], .agg [.lit (.string []), .lit (.string []), .lit (.string [])], .agg [.lit (.string []), .lit (.string []), .lit (.string [])], .agg [.lit (.string []), .lit (.string [32]), .lit (.string [])], .agg [.lit (.string []), .lit (.string [32, 47, 32]), .lit (.string [])], .agg [.lit (.string []), .lit (.string []), .lit (.string [])], .agg [.lit (.string [38]), .lit (.string []), .lit (.string [])], .agg [.lit (.string [33]), .lit (.string []), .lit (.string [])], .agg [.lit (.string [60]), .lit (.string []), .lit (.string [62])]]

/-- 'bonsailaw17.FuelNames': WHATEVER THE INPUT: true; the input reads as it did. -/
def fuelNamesSpec : ChangeSpec := { name := "fuelNames", fn := fun _ => fun
  | [] => { results := [.lit (.bool true)], args := [] }
  | _ => none }
def fuelNamesRow : OpenClaim := { program := "ytellgkgedepkjaagreatdoor", sum := "294309aa321623254b54c871c5f2ee0b34db5e1ad1713879b932374f970d2fe0", func := "bonsai/bonsailaw17.FuelNames", spec := "fuelNames", inPlace := ["internal/bytealg.IndexByteString", "internal/bytealg.IndexString", "internal/abi.NoEscape"], unfollowed := true, recurses := true, named := ["internal/bytealg.MaxLen", "bonsai/tree.counts", "bonsai/print.signs", "math/bits.deBruijn64tab", "bonsai/print.counts", "internal/strconv.uint64pow10", "math/bits.deBruijn32tab"], apart := false, laid := [("math/bits.deBruijn32tab", laid_math_bits_deBruijn32tab), ("math/bits.deBruijn64tab", laid_math_bits_deBruijn64tab), ("internal/strconv.uint64pow10", laid_internal_strconv_uint64pow10), ("bonsai/tree.counts", laid_bonsai_tree_counts), ("bonsai/print.counts", laid_bonsai_print_counts), ("bonsai/print.signs", laid_bonsai_print_signs)] }
def FuelNamesSaid : Prop := fuelNamesRow.holds Tryz.pinned (OpenSpec.ofChange fuelNamesSpec)

/-- ITS FALSE NEIGHBOUR: 'it returns false'. Refute it at one input. -/
def fuelNamesWrong : ChangeSpec := { name := "fuelNames", fn := fun _ => fun
  | [] => { results := [.lit (.bool false)], args := [] }
  | _ => none }
def FuelNamesWrongFalsely : Prop := fuelNamesRow.holds Tryz.pinned (OpenSpec.ofChange fuelNamesWrong)

/-- 'bonsailaw13.WellInlined': WHATEVER THE INPUT: true; the input reads as it did. -/
def wellInlinedSpec : ChangeSpec := { name := "wellInlined", fn := fun _ => fun
  | [d1, d2, d3] => { results := [.lit (.bool true)], args := [d1, d2, d3] }
  | _ => none }
def wellInlinedRow : OpenClaim := { program := "ytellgkgedepkjaagreatdoor", sum := "294309aa321623254b54c871c5f2ee0b34db5e1ad1713879b932374f970d2fe0", func := "bonsai/bonsailaw13.WellInlined", spec := "wellInlined", inPlace := ["internal/bytealg.IndexByteString", "internal/bytealg.IndexString", "internal/abi.NoEscape"], unfollowed := true, recurses := true, named := ["internal/bytealg.MaxLen", "bonsai/tree.counts", "bonsai/print.signs", "math/bits.deBruijn64tab", "bonsai/print.counts", "internal/strconv.uint64pow10", "math/bits.deBruijn32tab"], apart := false, laid := [("math/bits.deBruijn32tab", laid_math_bits_deBruijn32tab), ("math/bits.deBruijn64tab", laid_math_bits_deBruijn64tab), ("internal/strconv.uint64pow10", laid_internal_strconv_uint64pow10), ("bonsai/tree.counts", laid_bonsai_tree_counts), ("bonsai/print.counts", laid_bonsai_print_counts), ("bonsai/print.signs", laid_bonsai_print_signs)] }
def WellInlinedSaid : Prop := wellInlinedRow.holds Tryz.pinned (OpenSpec.ofChange wellInlinedSpec)

/-- ITS FALSE NEIGHBOUR: 'it returns false'. Refute it at one input. -/
def wellInlinedWrong : ChangeSpec := { name := "wellInlined", fn := fun _ => fun
  | [d1, d2, d3] => { results := [.lit (.bool false)], args := [d1, d2, d3] }
  | _ => none }
def WellInlinedWrongFalsely : Prop := wellInlinedRow.holds Tryz.pinned (OpenSpec.ofChange wellInlinedWrong)

/-- 'bonsailaw17.FuelCloser': WHATEVER THE INPUT: true; the input reads as it did. -/
def fuelCloserSpec : ChangeSpec := { name := "fuelCloser", fn := fun _ => fun
  | [d1, d2, d3, d4] => { results := [.lit (.bool true)], args := [d1, d2, d3, d4] }
  | _ => none }
def fuelCloserRow : OpenClaim := { program := "ytellgkgedepkjaagreatdoor", sum := "294309aa321623254b54c871c5f2ee0b34db5e1ad1713879b932374f970d2fe0", func := "bonsai/bonsailaw17.FuelCloser", spec := "fuelCloser", inPlace := ["internal/bytealg.IndexByteString", "internal/bytealg.IndexString", "internal/abi.NoEscape"], unfollowed := true, recurses := true, named := ["internal/bytealg.MaxLen", "bonsai/tree.counts", "bonsai/print.signs", "math/bits.deBruijn64tab", "bonsai/print.counts", "internal/strconv.uint64pow10", "math/bits.deBruijn32tab"], apart := false, laid := [("math/bits.deBruijn32tab", laid_math_bits_deBruijn32tab), ("math/bits.deBruijn64tab", laid_math_bits_deBruijn64tab), ("internal/strconv.uint64pow10", laid_internal_strconv_uint64pow10), ("bonsai/tree.counts", laid_bonsai_tree_counts), ("bonsai/print.counts", laid_bonsai_print_counts), ("bonsai/print.signs", laid_bonsai_print_signs)] }
def FuelCloserSaid : Prop := fuelCloserRow.holds Tryz.pinned (OpenSpec.ofChange fuelCloserSpec)

/-- ITS FALSE NEIGHBOUR: 'it returns false'. Refute it at one input. -/
def fuelCloserWrong : ChangeSpec := { name := "fuelCloser", fn := fun _ => fun
  | [d1, d2, d3, d4] => { results := [.lit (.bool false)], args := [d1, d2, d3, d4] }
  | _ => none }
def FuelCloserWrongFalsely : Prop := fuelCloserRow.holds Tryz.pinned (OpenSpec.ofChange fuelCloserWrong)

/-- 'bonsailaw25.PruneNames': WHATEVER THE INPUT: true; the input reads as it did. -/
def pruneNamesSpec : ChangeSpec := { name := "pruneNames", fn := fun _ => fun
  | [] => { results := [.lit (.bool true)], args := [] }
  | _ => none }
def pruneNamesRow : OpenClaim := { program := "ytellgkgedepkjaagreatdoor", sum := "294309aa321623254b54c871c5f2ee0b34db5e1ad1713879b932374f970d2fe0", func := "bonsai/bonsailaw25.PruneNames", spec := "pruneNames", inPlace := ["internal/bytealg.IndexByteString", "internal/bytealg.IndexString", "internal/abi.NoEscape"], unfollowed := true, recurses := true, named := ["internal/bytealg.MaxLen", "bonsai/tree.counts", "bonsai/print.signs", "math/bits.deBruijn64tab", "bonsai/print.counts", "internal/strconv.uint64pow10", "math/bits.deBruijn32tab"], apart := false, laid := [("math/bits.deBruijn32tab", laid_math_bits_deBruijn32tab), ("math/bits.deBruijn64tab", laid_math_bits_deBruijn64tab), ("internal/strconv.uint64pow10", laid_internal_strconv_uint64pow10), ("bonsai/tree.counts", laid_bonsai_tree_counts), ("bonsai/print.counts", laid_bonsai_print_counts), ("bonsai/print.signs", laid_bonsai_print_signs)] }
def PruneNamesSaid : Prop := pruneNamesRow.holds Tryz.pinned (OpenSpec.ofChange pruneNamesSpec)

/-- ITS FALSE NEIGHBOUR: 'it returns false'. Refute it at one input. -/
def pruneNamesWrong : ChangeSpec := { name := "pruneNames", fn := fun _ => fun
  | [] => { results := [.lit (.bool false)], args := [] }
  | _ => none }
def PruneNamesWrongFalsely : Prop := pruneNamesRow.holds Tryz.pinned (OpenSpec.ofChange pruneNamesWrong)

/-- 'bonsailaw25.PruneTells': WHATEVER THE INPUT: true; the input reads as it did. -/
def pruneTellsSpec : ChangeSpec := { name := "pruneTells", fn := fun _ => fun
  | [d1, d2] => { results := [.lit (.bool true)], args := [d1, d2] }
  | _ => none }
def pruneTellsRow : OpenClaim := { program := "ytellgkgedepkjaagreatdoor", sum := "294309aa321623254b54c871c5f2ee0b34db5e1ad1713879b932374f970d2fe0", func := "bonsai/bonsailaw25.PruneTells", spec := "pruneTells", inPlace := ["internal/bytealg.IndexByteString", "internal/bytealg.IndexString", "internal/abi.NoEscape"], unfollowed := true, recurses := true, named := ["internal/bytealg.MaxLen", "bonsai/tree.counts", "bonsai/print.signs", "math/bits.deBruijn64tab", "bonsai/print.counts", "internal/strconv.uint64pow10", "math/bits.deBruijn32tab"], apart := false, laid := [("math/bits.deBruijn32tab", laid_math_bits_deBruijn32tab), ("math/bits.deBruijn64tab", laid_math_bits_deBruijn64tab), ("internal/strconv.uint64pow10", laid_internal_strconv_uint64pow10), ("bonsai/tree.counts", laid_bonsai_tree_counts), ("bonsai/print.counts", laid_bonsai_print_counts), ("bonsai/print.signs", laid_bonsai_print_signs)] }
def PruneTellsSaid : Prop := pruneTellsRow.holds Tryz.pinned (OpenSpec.ofChange pruneTellsSpec)

/-- ITS FALSE NEIGHBOUR: 'it returns false'. Refute it at one input. -/
def pruneTellsWrong : ChangeSpec := { name := "pruneTells", fn := fun _ => fun
  | [d1, d2] => { results := [.lit (.bool false)], args := [d1, d2] }
  | _ => none }
def PruneTellsWrongFalsely : Prop := pruneTellsRow.holds Tryz.pinned (OpenSpec.ofChange pruneTellsWrong)

/-- 'bonsailaw25.PruneKeeps': WHATEVER THE INPUT: true; the input reads as it did. -/
def pruneKeepsSpec : ChangeSpec := { name := "pruneKeeps", fn := fun _ => fun
  | [d1, d2] => { results := [.lit (.bool true)], args := [d1, d2] }
  | _ => none }
def pruneKeepsRow : OpenClaim := { program := "ytellgkgedepkjaagreatdoor", sum := "294309aa321623254b54c871c5f2ee0b34db5e1ad1713879b932374f970d2fe0", func := "bonsai/bonsailaw25.PruneKeeps", spec := "pruneKeeps", inPlace := ["internal/bytealg.IndexByteString", "internal/bytealg.IndexString", "internal/abi.NoEscape"], unfollowed := true, recurses := true, named := ["internal/bytealg.MaxLen", "bonsai/tree.counts", "bonsai/print.signs", "math/bits.deBruijn64tab", "bonsai/print.counts", "internal/strconv.uint64pow10", "math/bits.deBruijn32tab"], apart := false, laid := [("math/bits.deBruijn32tab", laid_math_bits_deBruijn32tab), ("math/bits.deBruijn64tab", laid_math_bits_deBruijn64tab), ("internal/strconv.uint64pow10", laid_internal_strconv_uint64pow10), ("bonsai/tree.counts", laid_bonsai_tree_counts), ("bonsai/print.counts", laid_bonsai_print_counts), ("bonsai/print.signs", laid_bonsai_print_signs)] }
def PruneKeepsSaid : Prop := pruneKeepsRow.holds Tryz.pinned (OpenSpec.ofChange pruneKeepsSpec)

/-- ITS FALSE NEIGHBOUR: 'it returns false'. Refute it at one input. -/
def pruneKeepsWrong : ChangeSpec := { name := "pruneKeeps", fn := fun _ => fun
  | [d1, d2] => { results := [.lit (.bool false)], args := [d1, d2] }
  | _ => none }
def PruneKeepsWrongFalsely : Prop := pruneKeepsRow.holds Tryz.pinned (OpenSpec.ofChange pruneKeepsWrong)

/-- 'bonsailaw25.PruneNeeded': WHATEVER THE INPUT: true; the input reads as it did. -/
def pruneNeededSpec : ChangeSpec := { name := "pruneNeeded", fn := fun _ => fun
  | [d] => { results := [.lit (.bool true)], args := [d] }
  | _ => none }
def pruneNeededRow : OpenClaim := { program := "ytellgkgedepkjaagreatdoor", sum := "294309aa321623254b54c871c5f2ee0b34db5e1ad1713879b932374f970d2fe0", func := "bonsai/bonsailaw25.PruneNeeded", spec := "pruneNeeded", inPlace := ["internal/bytealg.IndexByteString", "internal/bytealg.IndexString", "internal/abi.NoEscape"], unfollowed := true, recurses := true, named := ["internal/bytealg.MaxLen", "bonsai/tree.counts", "bonsai/print.signs", "math/bits.deBruijn64tab", "bonsai/print.counts", "internal/strconv.uint64pow10", "math/bits.deBruijn32tab"], apart := false, laid := [("math/bits.deBruijn32tab", laid_math_bits_deBruijn32tab), ("math/bits.deBruijn64tab", laid_math_bits_deBruijn64tab), ("internal/strconv.uint64pow10", laid_internal_strconv_uint64pow10), ("bonsai/tree.counts", laid_bonsai_tree_counts), ("bonsai/print.counts", laid_bonsai_print_counts), ("bonsai/print.signs", laid_bonsai_print_signs)] }
def PruneNeededSaid : Prop := pruneNeededRow.holds Tryz.pinned (OpenSpec.ofChange pruneNeededSpec)

/-- ITS FALSE NEIGHBOUR: 'it returns false'. Refute it at one input. -/
def pruneNeededWrong : ChangeSpec := { name := "pruneNeeded", fn := fun _ => fun
  | [d] => { results := [.lit (.bool false)], args := [d] }
  | _ => none }
def PruneNeededWrongFalsely : Prop := pruneNeededRow.holds Tryz.pinned (OpenSpec.ofChange pruneNeededWrong)

/-- 'bonsailaw25.PruneKept': WHATEVER THE INPUT: true; the input reads as it did. -/
def pruneKeptSpec : ChangeSpec := { name := "pruneKept", fn := fun _ => fun
  | [d1, d2] => { results := [.lit (.bool true)], args := [d1, d2] }
  | _ => none }
def pruneKeptRow : OpenClaim := { program := "ytellgkgedepkjaagreatdoor", sum := "294309aa321623254b54c871c5f2ee0b34db5e1ad1713879b932374f970d2fe0", func := "bonsai/bonsailaw25.PruneKept", spec := "pruneKept", inPlace := ["internal/bytealg.IndexByteString", "internal/bytealg.IndexString", "internal/abi.NoEscape"], unfollowed := true, recurses := true, named := ["internal/bytealg.MaxLen", "bonsai/tree.counts", "bonsai/print.signs", "math/bits.deBruijn64tab", "bonsai/print.counts", "internal/strconv.uint64pow10", "math/bits.deBruijn32tab"], apart := false, laid := [("math/bits.deBruijn32tab", laid_math_bits_deBruijn32tab), ("math/bits.deBruijn64tab", laid_math_bits_deBruijn64tab), ("internal/strconv.uint64pow10", laid_internal_strconv_uint64pow10), ("bonsai/tree.counts", laid_bonsai_tree_counts), ("bonsai/print.counts", laid_bonsai_print_counts), ("bonsai/print.signs", laid_bonsai_print_signs)] }
def PruneKeptSaid : Prop := pruneKeptRow.holds Tryz.pinned (OpenSpec.ofChange pruneKeptSpec)

/-- ITS FALSE NEIGHBOUR: 'it returns false'. Refute it at one input. -/
def pruneKeptWrong : ChangeSpec := { name := "pruneKept", fn := fun _ => fun
  | [d1, d2] => { results := [.lit (.bool false)], args := [d1, d2] }
  | _ => none }
def PruneKeptWrongFalsely : Prop := pruneKeptRow.holds Tryz.pinned (OpenSpec.ofChange pruneKeptWrong)

/- THE SECOND FORM. 'bulk': how many values and letters a reading holds, each counted each time it is reached (what is shared counts as often as it is met; a slice's spare places count too). A statement '..UptoSaid' is the law's where the arguments, and the package variables that the reading takes, are together of bulk at most 1048576: NARROWER than '..Said'. Prove '..Said' where nothing that the law and all that it calls make is longer than what came in: it says more and counts as full. Else prove '..UptoSaid'. A law counts once. -/
mutual
def uptoBulk {H : Type} : DataW H → Nat
  | .lit (.string bytes) => bytes.length + 1
  | .lit _ => 1
  | .nil => 1
  | .ptr d => uptoBulk d + 1
  | .slice elems spare => uptoBulkAll elems + uptoBulkAll spare + 1
  | .agg parts => uptoBulkAll parts + 1
  | .iface _ d => uptoBulk d + 1
  | .map entries => uptoBulkEntries entries + 1
  | .held _ => 1
def uptoBulkAll {H : Type} : List (DataW H) → Nat
  | [] => 0
  | d :: r => uptoBulk d + uptoBulkAll r
def uptoBulkEntries {H : Type} : List (Lit × DataW H) → Nat
  | [] => 0
  | x :: r => uptoBulkEntry x + uptoBulkEntries r
def uptoBulkEntry {H : Type} : Lit × DataW H → Nat
  | (.string bytes, d) => bytes.length + uptoBulk d + 1
  | (_, d) => uptoBulk d + 1
 end
def uptoSmall : (H : Type) → List (DataW H) → Bool := fun _ ds => decide (uptoBulkAll ds ≤ 1048576)
def OpenSpec.upto (s : _root_.Go.ChangeSpec) : _root_.Go.OpenSpec := { _root_.Go.OpenSpec.ofChange s with cond := some uptoSmall }

/-- 'bonsailaw17.FuelNames', WHERE WHAT IT READS IS OF BULK AT MOST 1048576: true; the input reads as it did. -/
def fuelNamesUptoRow : OpenClaim := { program := "ytellgkgedepkjaagreatdoor", sum := "294309aa321623254b54c871c5f2ee0b34db5e1ad1713879b932374f970d2fe0", func := "bonsai/bonsailaw17.FuelNames", spec := "fuelNames", inPlace := ["internal/bytealg.IndexByteString", "internal/bytealg.IndexString", "internal/abi.NoEscape"], unfollowed := true, recurses := true, named := ["internal/bytealg.MaxLen", "bonsai/tree.counts", "bonsai/print.signs", "math/bits.deBruijn64tab", "bonsai/print.counts", "internal/strconv.uint64pow10", "math/bits.deBruijn32tab"], apart := false, laid := [("math/bits.deBruijn32tab", laid_math_bits_deBruijn32tab), ("math/bits.deBruijn64tab", laid_math_bits_deBruijn64tab), ("internal/strconv.uint64pow10", laid_internal_strconv_uint64pow10), ("bonsai/tree.counts", laid_bonsai_tree_counts), ("bonsai/print.counts", laid_bonsai_print_counts), ("bonsai/print.signs", laid_bonsai_print_signs)], narrowed := true }
def FuelNamesUptoSaid : Prop := fuelNamesUptoRow.holds Tryz.pinned (OpenSpec.upto fuelNamesSpec)

/-- 'bonsailaw13.WellInlined', WHERE WHAT IT READS IS OF BULK AT MOST 1048576: true; the input reads as it did. -/
def wellInlinedUptoRow : OpenClaim := { program := "ytellgkgedepkjaagreatdoor", sum := "294309aa321623254b54c871c5f2ee0b34db5e1ad1713879b932374f970d2fe0", func := "bonsai/bonsailaw13.WellInlined", spec := "wellInlined", inPlace := ["internal/bytealg.IndexByteString", "internal/bytealg.IndexString", "internal/abi.NoEscape"], unfollowed := true, recurses := true, named := ["internal/bytealg.MaxLen", "bonsai/tree.counts", "bonsai/print.signs", "math/bits.deBruijn64tab", "bonsai/print.counts", "internal/strconv.uint64pow10", "math/bits.deBruijn32tab"], apart := false, laid := [("math/bits.deBruijn32tab", laid_math_bits_deBruijn32tab), ("math/bits.deBruijn64tab", laid_math_bits_deBruijn64tab), ("internal/strconv.uint64pow10", laid_internal_strconv_uint64pow10), ("bonsai/tree.counts", laid_bonsai_tree_counts), ("bonsai/print.counts", laid_bonsai_print_counts), ("bonsai/print.signs", laid_bonsai_print_signs)], narrowed := true }
def WellInlinedUptoSaid : Prop := wellInlinedUptoRow.holds Tryz.pinned (OpenSpec.upto wellInlinedSpec)

/-- 'bonsailaw17.FuelCloser', WHERE WHAT IT READS IS OF BULK AT MOST 1048576: true; the input reads as it did. -/
def fuelCloserUptoRow : OpenClaim := { program := "ytellgkgedepkjaagreatdoor", sum := "294309aa321623254b54c871c5f2ee0b34db5e1ad1713879b932374f970d2fe0", func := "bonsai/bonsailaw17.FuelCloser", spec := "fuelCloser", inPlace := ["internal/bytealg.IndexByteString", "internal/bytealg.IndexString", "internal/abi.NoEscape"], unfollowed := true, recurses := true, named := ["internal/bytealg.MaxLen", "bonsai/tree.counts", "bonsai/print.signs", "math/bits.deBruijn64tab", "bonsai/print.counts", "internal/strconv.uint64pow10", "math/bits.deBruijn32tab"], apart := false, laid := [("math/bits.deBruijn32tab", laid_math_bits_deBruijn32tab), ("math/bits.deBruijn64tab", laid_math_bits_deBruijn64tab), ("internal/strconv.uint64pow10", laid_internal_strconv_uint64pow10), ("bonsai/tree.counts", laid_bonsai_tree_counts), ("bonsai/print.counts", laid_bonsai_print_counts), ("bonsai/print.signs", laid_bonsai_print_signs)], narrowed := true }
def FuelCloserUptoSaid : Prop := fuelCloserUptoRow.holds Tryz.pinned (OpenSpec.upto fuelCloserSpec)

/-- 'bonsailaw25.PruneNames', WHERE WHAT IT READS IS OF BULK AT MOST 1048576: true; the input reads as it did. -/
def pruneNamesUptoRow : OpenClaim := { program := "ytellgkgedepkjaagreatdoor", sum := "294309aa321623254b54c871c5f2ee0b34db5e1ad1713879b932374f970d2fe0", func := "bonsai/bonsailaw25.PruneNames", spec := "pruneNames", inPlace := ["internal/bytealg.IndexByteString", "internal/bytealg.IndexString", "internal/abi.NoEscape"], unfollowed := true, recurses := true, named := ["internal/bytealg.MaxLen", "bonsai/tree.counts", "bonsai/print.signs", "math/bits.deBruijn64tab", "bonsai/print.counts", "internal/strconv.uint64pow10", "math/bits.deBruijn32tab"], apart := false, laid := [("math/bits.deBruijn32tab", laid_math_bits_deBruijn32tab), ("math/bits.deBruijn64tab", laid_math_bits_deBruijn64tab), ("internal/strconv.uint64pow10", laid_internal_strconv_uint64pow10), ("bonsai/tree.counts", laid_bonsai_tree_counts), ("bonsai/print.counts", laid_bonsai_print_counts), ("bonsai/print.signs", laid_bonsai_print_signs)], narrowed := true }
def PruneNamesUptoSaid : Prop := pruneNamesUptoRow.holds Tryz.pinned (OpenSpec.upto pruneNamesSpec)

/-- 'bonsailaw25.PruneTells', WHERE WHAT IT READS IS OF BULK AT MOST 1048576: true; the input reads as it did. -/
def pruneTellsUptoRow : OpenClaim := { program := "ytellgkgedepkjaagreatdoor", sum := "294309aa321623254b54c871c5f2ee0b34db5e1ad1713879b932374f970d2fe0", func := "bonsai/bonsailaw25.PruneTells", spec := "pruneTells", inPlace := ["internal/bytealg.IndexByteString", "internal/bytealg.IndexString", "internal/abi.NoEscape"], unfollowed := true, recurses := true, named := ["internal/bytealg.MaxLen", "bonsai/tree.counts", "bonsai/print.signs", "math/bits.deBruijn64tab", "bonsai/print.counts", "internal/strconv.uint64pow10", "math/bits.deBruijn32tab"], apart := false, laid := [("math/bits.deBruijn32tab", laid_math_bits_deBruijn32tab), ("math/bits.deBruijn64tab", laid_math_bits_deBruijn64tab), ("internal/strconv.uint64pow10", laid_internal_strconv_uint64pow10), ("bonsai/tree.counts", laid_bonsai_tree_counts), ("bonsai/print.counts", laid_bonsai_print_counts), ("bonsai/print.signs", laid_bonsai_print_signs)], narrowed := true }
def PruneTellsUptoSaid : Prop := pruneTellsUptoRow.holds Tryz.pinned (OpenSpec.upto pruneTellsSpec)

/-- 'bonsailaw25.PruneKeeps', WHERE WHAT IT READS IS OF BULK AT MOST 1048576: true; the input reads as it did. -/
def pruneKeepsUptoRow : OpenClaim := { program := "ytellgkgedepkjaagreatdoor", sum := "294309aa321623254b54c871c5f2ee0b34db5e1ad1713879b932374f970d2fe0", func := "bonsai/bonsailaw25.PruneKeeps", spec := "pruneKeeps", inPlace := ["internal/bytealg.IndexByteString", "internal/bytealg.IndexString", "internal/abi.NoEscape"], unfollowed := true, recurses := true, named := ["internal/bytealg.MaxLen", "bonsai/tree.counts", "bonsai/print.signs", "math/bits.deBruijn64tab", "bonsai/print.counts", "internal/strconv.uint64pow10", "math/bits.deBruijn32tab"], apart := false, laid := [("math/bits.deBruijn32tab", laid_math_bits_deBruijn32tab), ("math/bits.deBruijn64tab", laid_math_bits_deBruijn64tab), ("internal/strconv.uint64pow10", laid_internal_strconv_uint64pow10), ("bonsai/tree.counts", laid_bonsai_tree_counts), ("bonsai/print.counts", laid_bonsai_print_counts), ("bonsai/print.signs", laid_bonsai_print_signs)], narrowed := true }
def PruneKeepsUptoSaid : Prop := pruneKeepsUptoRow.holds Tryz.pinned (OpenSpec.upto pruneKeepsSpec)

/-- 'bonsailaw25.PruneNeeded', WHERE WHAT IT READS IS OF BULK AT MOST 1048576: true; the input reads as it did. -/
def pruneNeededUptoRow : OpenClaim := { program := "ytellgkgedepkjaagreatdoor", sum := "294309aa321623254b54c871c5f2ee0b34db5e1ad1713879b932374f970d2fe0", func := "bonsai/bonsailaw25.PruneNeeded", spec := "pruneNeeded", inPlace := ["internal/bytealg.IndexByteString", "internal/bytealg.IndexString", "internal/abi.NoEscape"], unfollowed := true, recurses := true, named := ["internal/bytealg.MaxLen", "bonsai/tree.counts", "bonsai/print.signs", "math/bits.deBruijn64tab", "bonsai/print.counts", "internal/strconv.uint64pow10", "math/bits.deBruijn32tab"], apart := false, laid := [("math/bits.deBruijn32tab", laid_math_bits_deBruijn32tab), ("math/bits.deBruijn64tab", laid_math_bits_deBruijn64tab), ("internal/strconv.uint64pow10", laid_internal_strconv_uint64pow10), ("bonsai/tree.counts", laid_bonsai_tree_counts), ("bonsai/print.counts", laid_bonsai_print_counts), ("bonsai/print.signs", laid_bonsai_print_signs)], narrowed := true }
def PruneNeededUptoSaid : Prop := pruneNeededUptoRow.holds Tryz.pinned (OpenSpec.upto pruneNeededSpec)

/-- 'bonsailaw25.PruneKept', WHERE WHAT IT READS IS OF BULK AT MOST 1048576: true; the input reads as it did. -/
def pruneKeptUptoRow : OpenClaim := { program := "ytellgkgedepkjaagreatdoor", sum := "294309aa321623254b54c871c5f2ee0b34db5e1ad1713879b932374f970d2fe0", func := "bonsai/bonsailaw25.PruneKept", spec := "pruneKept", inPlace := ["internal/bytealg.IndexByteString", "internal/bytealg.IndexString", "internal/abi.NoEscape"], unfollowed := true, recurses := true, named := ["internal/bytealg.MaxLen", "bonsai/tree.counts", "bonsai/print.signs", "math/bits.deBruijn64tab", "bonsai/print.counts", "internal/strconv.uint64pow10", "math/bits.deBruijn32tab"], apart := false, laid := [("math/bits.deBruijn32tab", laid_math_bits_deBruijn32tab), ("math/bits.deBruijn64tab", laid_math_bits_deBruijn64tab), ("internal/strconv.uint64pow10", laid_internal_strconv_uint64pow10), ("bonsai/tree.counts", laid_bonsai_tree_counts), ("bonsai/print.counts", laid_bonsai_print_counts), ("bonsai/print.signs", laid_bonsai_print_signs)], narrowed := true }
def PruneKeptUptoSaid : Prop := pruneKeptUptoRow.holds Tryz.pinned (OpenSpec.upto pruneKeptSpec)

end Rows
end Go.Proofs.YtellgkgedepkjaaGreatDoor
