/-
  NARROWER THAN 'FOR EVERY INPUT', by the rows' own cells (each row's printed sentence says how): FuelNames: laid · FuelTells: laid · FuelCloser: laid · TableMay: laid · TableTells: laid · TableNames: laid · TableBehind: laid.
  DERIVED. THE GIVEN ROWS OF THIS SEAT. 7 by the template 'for every input the law returns true; each argument reads behind the call as it read before'; 0 by the template 'total and deterministic' (their statements: YtelfblhcphnbmaaGreatDoorTotals.lean).
  GIVEN WITH THE SEED: the statements are not yours to turn. If you find one false, say at which input.
  Laid BY PROGRAM, IN A SANDBOX (cutbox-rows.mjs): the forced cells as the released guide's own fill.sh prints them over the translation 6a2ead4e732a0d6a… (all of the seat's roots in one cut). By AI agents, Wed Nov 11 2026. No macro, syntax, notation, axiom, sorry.
-/
import Derived.Test.YtelfblhcphnbmaaGreatDoorChecked
import GoSem.Claim
import GoSem.ClaimJoined
import GoSem.ClaimMapViews
import Derived.JoinedTies
import Derived.KernelRfl
namespace Go.Proofs.YtelfblhcphnbmaaGreatDoor
/- THE CELL 'sum', in the pinned program and in every row, IS THE sha256 OF THE DUMP (.gsa) THAT YtelfblhcphnbmaaGreatDoorProg.lean LOADS. Nothing in Lean hashes anything: it is a label: what it is worth is what the hold of that sum in a sandbox is worth. -/
noncomputable def Tryz.pinned : Pinned := { name := "ytelfblhcphnbmaagreatdoor", sum := "6a2ead4e732a0d6a56e45fb54c6b83d83335ec5b50886bbd4ca71e2ff4577ac6", checked := Tryz.checked }
namespace Rows
def none {H : Type} : Left H := { results := [], args := [] }

/- WHAT THE LISTED PACKAGE-LEVEL VARIABLES READ AS WHEN THE CALL BEGINS. Each datum BY PROGRAM (the guide's laid-datum.mjs) off the statement by which the dump's own 'gosem.cut.vars' lays the variable. In a bare row this is a premise. The card (YtelfblhcphnbmaaGreatDoorCards.lean) ties it to the program's text. -/
def laid_math_bits_deBruijn32tab {H : Type} : DataW H := .agg [.lit (.int .u8 0), .lit (.int .u8 1), .lit (.int .u8 28), .lit (.int .u8 2), .lit (.int .u8 29), .lit (.int .u8 14), .lit (.int .u8 24), .lit (.int .u8 3), .lit (.int .u8 30), .lit (.int .u8 22), .lit (.int .u8 20), .lit (.int .u8 15), .lit (.int .u8 25), .lit (.int .u8 17), .lit (.int .u8 4), .lit (.int .u8 8), .lit (.int .u8 31), .lit (.int .u8 27), .lit (.int .u8 13), .lit (.int .u8 23), .lit (.int .u8 21), .lit (.int .u8 19), .lit (.int .u8 16), .lit (.int .u8 7), .lit (.int .u8 26), .lit (.int .u8 12), .lit (.int .u8 18), .lit (.int .u8 6), .lit (.int .u8 11), .lit (.int .u8 5), .lit (.int .u8 10), .lit (.int .u8 9)]
def laid_math_bits_deBruijn64tab {H : Type} : DataW H := .agg [.lit (.int .u8 0), .lit (.int .u8 1), .lit (.int .u8 56), .lit (.int .u8 2), .lit (.int .u8 57), .lit (.int .u8 49), .lit (.int .u8 28), .lit (.int .u8 3), .lit (.int .u8 61), .lit (.int .u8 58), .lit (.int .u8 42), .lit (.int .u8 50), .lit (.int .u8 38), .lit (.int .u8 29), .lit (.int .u8 17), .lit (.int .u8 4), .lit (.int .u8 62), .lit (.int .u8 47), .lit (.int .u8 59), .lit (.int .u8 36), .lit (.int .u8 45), .lit (.int .u8 43), .lit (.int .u8 51), .lit (.int .u8 22), .lit (.int .u8 53), .lit (.int .u8 39), .lit (.int .u8 33), .lit (.int .u8 30), .lit (.int .u8 24), .lit (.int .u8 18), .lit (.int .u8 12), .lit (.int .u8 5), .lit (.int .u8 63), .lit (.int .u8 55), .lit (.int .u8 48), .lit (.int .u8 27), .lit (.int .u8 60), .lit (.int .u8 41), .lit (.int .u8 37), .lit (.int .u8 16), .lit (.int .u8 46), .lit (.int .u8 35), .lit (.int .u8 44), .lit (.int .u8 21), .lit (.int .u8 52), .lit (.int .u8 32), .lit (.int .u8 23), .lit (.int .u8 11), .lit (.int .u8 54), .lit (.int .u8 26), .lit (.int .u8 40), .lit (.int .u8 15), .lit (.int .u8 34), .lit (.int .u8 20), .lit (.int .u8 31), .lit (.int .u8 10), .lit (.int .u8 25), .lit (.int .u8 14), .lit (.int .u8 19), .lit (.int .u8 9), .lit (.int .u8 13), .lit (.int .u8 8), .lit (.int .u8 7), .lit (.int .u8 6)]
def laid_internal_strconv_uint64pow10 {H : Type} : DataW H := .agg [.lit (.int .u64 1), .lit (.int .u64 10), .lit (.int .u64 100), .lit (.int .u64 1000), .lit (.int .u64 10000), .lit (.int .u64 100000), .lit (.int .u64 1000000), .lit (.int .u64 10000000), .lit (.int .u64 100000000), .lit (.int .u64 1000000000), .lit (.int .u64 10000000000), .lit (.int .u64 100000000000), .lit (.int .u64 1000000000000), .lit (.int .u64 10000000000000), .lit (.int .u64 100000000000000), .lit (.int .u64 1000000000000000), .lit (.int .u64 10000000000000000), .lit (.int .u64 100000000000000000), .lit (.int .u64 1000000000000000000), .lit (.int .u64 10000000000000000000)]
def laid_bonsai_tree_counts {H : Type} : DataW H := .agg [.agg [.lit (.int .i64 0), .lit (.int .i64 0)], .agg [.lit (.int .i64 0), .lit (.int .i64 0)], .agg [.lit (.int .i64 0), .lit (.int .i64 0)], .agg [.lit (.int .i64 0), .lit (.int .i64 0)], .agg [.lit (.int .i64 2), .lit (.int .i64 (-1))], .agg [.lit (.int .i64 2), .lit (.int .i64 (-1))], .agg [.lit (.int .i64 1), .lit (.int .i64 1)], .agg [.lit (.int .i64 1), .lit (.int .i64 1)], .agg [.lit (.int .i64 1), .lit (.int .i64 1)], .agg [.lit (.int .i64 1), .lit (.int .i64 1)]]
def laid_bonsai_print_counts {H : Type} : DataW H := .agg [.agg [.lit (.int .i64 0), .lit (.int .i64 1), .lit (.string [63])], .agg [.lit (.int .i64 0), .lit (.int .i64 (-1)), .lit (.string [42])], .agg [.lit (.int .i64 1), .lit (.int .i64 (-1)), .lit (.string [43])]]
def laid_bonsai_print_signs {H : Type} : DataW H := .agg [.agg [.lit (.string []), .lit (.string []), .lit (.string [])], .agg [.lit (.string []), .lit (.string []), .lit (.string [])], .agg [.lit (.string []), .lit (.string []), .lit (.string [])], .agg [.lit (.string []), .lit (.string []), .lit (.string [])], .agg [.lit (.string []), .lit (.string [32]), .lit (.string [])], .agg [.lit (.string []), .lit (.string [32, 47, 32]), .lit (.string [])], .agg [.lit (.string []), .lit (.string []), .lit (.string [])], .agg [.lit (.string [38]), .lit (.string []), .lit (.string [])], .agg [.lit (.string [33]), .lit (.string []), .lit (.string [])], .agg [.lit (.string [60]), .lit (.string []), .lit (.string [62])]]

/-- 'bonsailaw17.FuelNames': WHATEVER THE INPUT: true; the input reads as it did. -/
def fuelNamesSpec : ChangeSpec := { name := "fuelNames", fn := fun _ => fun
  | [] => { results := [.lit (.bool true)], args := [] }
  | _ => none }
def fuelNamesRow : OpenClaim := { program := "ytelfblhcphnbmaagreatdoor", sum := "6a2ead4e732a0d6a56e45fb54c6b83d83335ec5b50886bbd4ca71e2ff4577ac6", func := "bonsai/bonsailaw17.FuelNames", spec := "fuelNames", inPlace := ["internal/bytealg.IndexByteString", "internal/bytealg.IndexString", "internal/abi.NoEscape"], unfollowed := true, recurses := true, named := ["internal/bytealg.MaxLen", "bonsai/tree.counts", "bonsai/print.signs", "math/bits.deBruijn64tab", "bonsai/print.counts", "internal/strconv.uint64pow10", "math/bits.deBruijn32tab"], apart := false, laid := [("math/bits.deBruijn32tab", laid_math_bits_deBruijn32tab), ("math/bits.deBruijn64tab", laid_math_bits_deBruijn64tab), ("internal/strconv.uint64pow10", laid_internal_strconv_uint64pow10), ("bonsai/tree.counts", laid_bonsai_tree_counts), ("bonsai/print.counts", laid_bonsai_print_counts), ("bonsai/print.signs", laid_bonsai_print_signs)] }
def FuelNamesSaid : Prop := fuelNamesRow.holds Tryz.pinned (OpenSpec.ofChange fuelNamesSpec)

/-- ITS FALSE NEIGHBOUR: 'it returns false'. Refute it at one input. -/
def fuelNamesWrong : ChangeSpec := { name := "fuelNames", fn := fun _ => fun
  | [] => { results := [.lit (.bool false)], args := [] }
  | _ => none }
def FuelNamesWrongFalsely : Prop := fuelNamesRow.holds Tryz.pinned (OpenSpec.ofChange fuelNamesWrong)

/-- 'bonsailaw17.FuelTells': WHATEVER THE INPUT: true; the input reads as it did. -/
def fuelTellsSpec : ChangeSpec := { name := "fuelTells", fn := fun _ => fun
  | [d1, d2, d3, d4, d5] => { results := [.lit (.bool true)], args := [d1, d2, d3, d4, d5] }
  | _ => none }
def fuelTellsRow : OpenClaim := { program := "ytelfblhcphnbmaagreatdoor", sum := "6a2ead4e732a0d6a56e45fb54c6b83d83335ec5b50886bbd4ca71e2ff4577ac6", func := "bonsai/bonsailaw17.FuelTells", spec := "fuelTells", inPlace := ["internal/bytealg.IndexByteString", "internal/bytealg.IndexString", "internal/abi.NoEscape"], unfollowed := true, recurses := true, named := ["internal/bytealg.MaxLen", "bonsai/tree.counts", "bonsai/print.signs", "math/bits.deBruijn64tab", "bonsai/print.counts", "internal/strconv.uint64pow10", "math/bits.deBruijn32tab"], apart := false, laid := [("math/bits.deBruijn32tab", laid_math_bits_deBruijn32tab), ("math/bits.deBruijn64tab", laid_math_bits_deBruijn64tab), ("internal/strconv.uint64pow10", laid_internal_strconv_uint64pow10), ("bonsai/tree.counts", laid_bonsai_tree_counts), ("bonsai/print.counts", laid_bonsai_print_counts), ("bonsai/print.signs", laid_bonsai_print_signs)] }
def FuelTellsSaid : Prop := fuelTellsRow.holds Tryz.pinned (OpenSpec.ofChange fuelTellsSpec)

/-- ITS FALSE NEIGHBOUR: 'it returns false'. Refute it at one input. -/
def fuelTellsWrong : ChangeSpec := { name := "fuelTells", fn := fun _ => fun
  | [d1, d2, d3, d4, d5] => { results := [.lit (.bool false)], args := [d1, d2, d3, d4, d5] }
  | _ => none }
def FuelTellsWrongFalsely : Prop := fuelTellsRow.holds Tryz.pinned (OpenSpec.ofChange fuelTellsWrong)

/-- 'bonsailaw17.FuelCloser': WHATEVER THE INPUT: true; the input reads as it did. -/
def fuelCloserSpec : ChangeSpec := { name := "fuelCloser", fn := fun _ => fun
  | [d1, d2, d3, d4] => { results := [.lit (.bool true)], args := [d1, d2, d3, d4] }
  | _ => none }
def fuelCloserRow : OpenClaim := { program := "ytelfblhcphnbmaagreatdoor", sum := "6a2ead4e732a0d6a56e45fb54c6b83d83335ec5b50886bbd4ca71e2ff4577ac6", func := "bonsai/bonsailaw17.FuelCloser", spec := "fuelCloser", inPlace := ["internal/bytealg.IndexByteString", "internal/bytealg.IndexString", "internal/abi.NoEscape"], unfollowed := true, recurses := true, named := ["internal/bytealg.MaxLen", "bonsai/tree.counts", "bonsai/print.signs", "math/bits.deBruijn64tab", "bonsai/print.counts", "internal/strconv.uint64pow10", "math/bits.deBruijn32tab"], apart := false, laid := [("math/bits.deBruijn32tab", laid_math_bits_deBruijn32tab), ("math/bits.deBruijn64tab", laid_math_bits_deBruijn64tab), ("internal/strconv.uint64pow10", laid_internal_strconv_uint64pow10), ("bonsai/tree.counts", laid_bonsai_tree_counts), ("bonsai/print.counts", laid_bonsai_print_counts), ("bonsai/print.signs", laid_bonsai_print_signs)] }
def FuelCloserSaid : Prop := fuelCloserRow.holds Tryz.pinned (OpenSpec.ofChange fuelCloserSpec)

/-- ITS FALSE NEIGHBOUR: 'it returns false'. Refute it at one input. -/
def fuelCloserWrong : ChangeSpec := { name := "fuelCloser", fn := fun _ => fun
  | [d1, d2, d3, d4] => { results := [.lit (.bool false)], args := [d1, d2, d3, d4] }
  | _ => none }
def FuelCloserWrongFalsely : Prop := fuelCloserRow.holds Tryz.pinned (OpenSpec.ofChange fuelCloserWrong)

/-- 'bonsailaw15.TableMay': WHATEVER THE INPUT: true; the input reads as it did. -/
def tableMaySpec : ChangeSpec := { name := "tableMay", fn := fun _ => fun
  | [d1, d2] => { results := [.lit (.bool true)], args := [d1, d2] }
  | _ => none }
def tableMayRow : OpenClaim := { program := "ytelfblhcphnbmaagreatdoor", sum := "6a2ead4e732a0d6a56e45fb54c6b83d83335ec5b50886bbd4ca71e2ff4577ac6", func := "bonsai/bonsailaw15.TableMay", spec := "tableMay", inPlace := ["internal/bytealg.IndexByteString", "internal/bytealg.IndexString", "internal/abi.NoEscape"], unfollowed := true, recurses := true, named := ["internal/bytealg.MaxLen", "bonsai/tree.counts", "bonsai/print.signs", "math/bits.deBruijn64tab", "bonsai/print.counts", "internal/strconv.uint64pow10", "math/bits.deBruijn32tab"], apart := false, laid := [("math/bits.deBruijn32tab", laid_math_bits_deBruijn32tab), ("math/bits.deBruijn64tab", laid_math_bits_deBruijn64tab), ("internal/strconv.uint64pow10", laid_internal_strconv_uint64pow10), ("bonsai/tree.counts", laid_bonsai_tree_counts), ("bonsai/print.counts", laid_bonsai_print_counts), ("bonsai/print.signs", laid_bonsai_print_signs)] }
def TableMaySaid : Prop := tableMayRow.holds Tryz.pinned (OpenSpec.ofChange tableMaySpec)

/-- ITS FALSE NEIGHBOUR: 'it returns false'. Refute it at one input. -/
def tableMayWrong : ChangeSpec := { name := "tableMay", fn := fun _ => fun
  | [d1, d2] => { results := [.lit (.bool false)], args := [d1, d2] }
  | _ => none }
def TableMayWrongFalsely : Prop := tableMayRow.holds Tryz.pinned (OpenSpec.ofChange tableMayWrong)

/-- 'bonsailaw15.TableTells': WHATEVER THE INPUT: true; the input reads as it did. -/
def tableTellsSpec : ChangeSpec := { name := "tableTells", fn := fun _ => fun
  | [d1, d2, d3, d4, d5] => { results := [.lit (.bool true)], args := [d1, d2, d3, d4, d5] }
  | _ => none }
def tableTellsRow : OpenClaim := { program := "ytelfblhcphnbmaagreatdoor", sum := "6a2ead4e732a0d6a56e45fb54c6b83d83335ec5b50886bbd4ca71e2ff4577ac6", func := "bonsai/bonsailaw15.TableTells", spec := "tableTells", inPlace := ["internal/bytealg.IndexByteString", "internal/bytealg.IndexString", "internal/abi.NoEscape"], unfollowed := true, recurses := true, named := ["internal/bytealg.MaxLen", "bonsai/tree.counts", "bonsai/print.signs", "math/bits.deBruijn64tab", "bonsai/print.counts", "internal/strconv.uint64pow10", "math/bits.deBruijn32tab"], apart := false, laid := [("math/bits.deBruijn32tab", laid_math_bits_deBruijn32tab), ("math/bits.deBruijn64tab", laid_math_bits_deBruijn64tab), ("internal/strconv.uint64pow10", laid_internal_strconv_uint64pow10), ("bonsai/tree.counts", laid_bonsai_tree_counts), ("bonsai/print.counts", laid_bonsai_print_counts), ("bonsai/print.signs", laid_bonsai_print_signs)] }
def TableTellsSaid : Prop := tableTellsRow.holds Tryz.pinned (OpenSpec.ofChange tableTellsSpec)

/-- ITS FALSE NEIGHBOUR: 'it returns false'. Refute it at one input. -/
def tableTellsWrong : ChangeSpec := { name := "tableTells", fn := fun _ => fun
  | [d1, d2, d3, d4, d5] => { results := [.lit (.bool false)], args := [d1, d2, d3, d4, d5] }
  | _ => none }
def TableTellsWrongFalsely : Prop := tableTellsRow.holds Tryz.pinned (OpenSpec.ofChange tableTellsWrong)

/-- 'bonsailaw15.TableNames': WHATEVER THE INPUT: true; the input reads as it did. -/
def tableNamesSpec : ChangeSpec := { name := "tableNames", fn := fun _ => fun
  | [] => { results := [.lit (.bool true)], args := [] }
  | _ => none }
def tableNamesRow : OpenClaim := { program := "ytelfblhcphnbmaagreatdoor", sum := "6a2ead4e732a0d6a56e45fb54c6b83d83335ec5b50886bbd4ca71e2ff4577ac6", func := "bonsai/bonsailaw15.TableNames", spec := "tableNames", inPlace := ["internal/bytealg.IndexByteString", "internal/bytealg.IndexString", "internal/abi.NoEscape"], unfollowed := true, recurses := true, named := ["bonsai/tree.counts", "internal/bytealg.MaxLen", "bonsai/print.signs", "math/bits.deBruijn64tab", "bonsai/print.counts", "internal/strconv.uint64pow10", "math/bits.deBruijn32tab"], apart := false, laid := [("math/bits.deBruijn32tab", laid_math_bits_deBruijn32tab), ("math/bits.deBruijn64tab", laid_math_bits_deBruijn64tab), ("internal/strconv.uint64pow10", laid_internal_strconv_uint64pow10), ("bonsai/tree.counts", laid_bonsai_tree_counts), ("bonsai/print.counts", laid_bonsai_print_counts), ("bonsai/print.signs", laid_bonsai_print_signs)] }
def TableNamesSaid : Prop := tableNamesRow.holds Tryz.pinned (OpenSpec.ofChange tableNamesSpec)

/-- ITS FALSE NEIGHBOUR: 'it returns false'. Refute it at one input. -/
def tableNamesWrong : ChangeSpec := { name := "tableNames", fn := fun _ => fun
  | [] => { results := [.lit (.bool false)], args := [] }
  | _ => none }
def TableNamesWrongFalsely : Prop := tableNamesRow.holds Tryz.pinned (OpenSpec.ofChange tableNamesWrong)

/-- 'bonsailaw15.TableBehind': WHATEVER THE INPUT: true; the input reads as it did. -/
def tableBehindSpec : ChangeSpec := { name := "tableBehind", fn := fun _ => fun
  | [d1, d2, d3] => { results := [.lit (.bool true)], args := [d1, d2, d3] }
  | _ => none }
def tableBehindRow : OpenClaim := { program := "ytelfblhcphnbmaagreatdoor", sum := "6a2ead4e732a0d6a56e45fb54c6b83d83335ec5b50886bbd4ca71e2ff4577ac6", func := "bonsai/bonsailaw15.TableBehind", spec := "tableBehind", inPlace := ["internal/bytealg.IndexByteString", "internal/bytealg.IndexString", "internal/abi.NoEscape"], unfollowed := true, recurses := true, named := ["internal/bytealg.MaxLen", "bonsai/tree.counts", "bonsai/print.signs", "math/bits.deBruijn64tab", "bonsai/print.counts", "internal/strconv.uint64pow10", "math/bits.deBruijn32tab"], apart := false, laid := [("math/bits.deBruijn32tab", laid_math_bits_deBruijn32tab), ("math/bits.deBruijn64tab", laid_math_bits_deBruijn64tab), ("internal/strconv.uint64pow10", laid_internal_strconv_uint64pow10), ("bonsai/tree.counts", laid_bonsai_tree_counts), ("bonsai/print.counts", laid_bonsai_print_counts), ("bonsai/print.signs", laid_bonsai_print_signs)] }
def TableBehindSaid : Prop := tableBehindRow.holds Tryz.pinned (OpenSpec.ofChange tableBehindSpec)

/-- ITS FALSE NEIGHBOUR: 'it returns false'. Refute it at one input. -/
def tableBehindWrong : ChangeSpec := { name := "tableBehind", fn := fun _ => fun
  | [d1, d2, d3] => { results := [.lit (.bool false)], args := [d1, d2, d3] }
  | _ => none }
def TableBehindWrongFalsely : Prop := tableBehindRow.holds Tryz.pinned (OpenSpec.ofChange tableBehindWrong)

/- THE SECOND FORM. 'bulk': how many values and letters a reading holds, each counted each time it is reached (what is shared counts as often as it is met; a slice's spare places count too). A statement '..UptoSaid' is the law's where the arguments, and the package variables that the reading takes, are together of bulk at most 1048576: NARROWER than '..Said'. Prove '..Said' where nothing that the law and all that it calls make is longer than what came in: it says more and counts as full. Else prove '..UptoSaid'. A law counts once. -/
mutual
def uptoBulk {H : Type} : DataW H → Nat
  | .lit (.string bytes) => bytes.length + 1
  | .lit _ => 1
  | .nil => 1
  | .ptr d => uptoBulk d + 1
  | .slice elems spare => uptoBulkAll elems + uptoBulkAll spare + 1
  | .agg parts => uptoBulkAll parts + 1
  | .iface _ d => uptoBulk d + 1
  | .map entries => uptoBulkEntries entries + 1
  | .held _ => 1
def uptoBulkAll {H : Type} : List (DataW H) → Nat
  | [] => 0
  | d :: r => uptoBulk d + uptoBulkAll r
def uptoBulkEntries {H : Type} : List (Lit × DataW H) → Nat
  | [] => 0
  | x :: r => uptoBulkEntry x + uptoBulkEntries r
def uptoBulkEntry {H : Type} : Lit × DataW H → Nat
  | (.string bytes, d) => bytes.length + uptoBulk d + 1
  | (_, d) => uptoBulk d + 1
 end
def uptoSmall : (H : Type) → List (DataW H) → Bool := fun _ ds => decide (uptoBulkAll ds ≤ 1048576)
def OpenSpec.upto (s : _root_.Go.ChangeSpec) : _root_.Go.OpenSpec := { _root_.Go.OpenSpec.ofChange s with cond := some uptoSmall }

/-- 'bonsailaw17.FuelNames', WHERE WHAT IT READS IS OF BULK AT MOST 1048576: true; the input reads as it did. -/
def fuelNamesUptoRow : OpenClaim := { program := "ytelfblhcphnbmaagreatdoor", sum := "6a2ead4e732a0d6a56e45fb54c6b83d83335ec5b50886bbd4ca71e2ff4577ac6", func := "bonsai/bonsailaw17.FuelNames", spec := "fuelNames", inPlace := ["internal/bytealg.IndexByteString", "internal/bytealg.IndexString", "internal/abi.NoEscape"], unfollowed := true, recurses := true, named := ["internal/bytealg.MaxLen", "bonsai/tree.counts", "bonsai/print.signs", "math/bits.deBruijn64tab", "bonsai/print.counts", "internal/strconv.uint64pow10", "math/bits.deBruijn32tab"], apart := false, laid := [("math/bits.deBruijn32tab", laid_math_bits_deBruijn32tab), ("math/bits.deBruijn64tab", laid_math_bits_deBruijn64tab), ("internal/strconv.uint64pow10", laid_internal_strconv_uint64pow10), ("bonsai/tree.counts", laid_bonsai_tree_counts), ("bonsai/print.counts", laid_bonsai_print_counts), ("bonsai/print.signs", laid_bonsai_print_signs)], narrowed := true }
def FuelNamesUptoSaid : Prop := fuelNamesUptoRow.holds Tryz.pinned (OpenSpec.upto fuelNamesSpec)

/-- 'bonsailaw17.FuelTells', WHERE WHAT IT READS IS OF BULK AT MOST 1048576: true; the input reads as it did. -/
def fuelTellsUptoRow : OpenClaim := { program := "ytelfblhcphnbmaagreatdoor", sum := "6a2ead4e732a0d6a56e45fb54c6b83d83335ec5b50886bbd4ca71e2ff4577ac6", func := "bonsai/bonsailaw17.FuelTells", spec := "fuelTells", inPlace := ["internal/bytealg.IndexByteString", "internal/bytealg.IndexString", "internal/abi.NoEscape"], unfollowed := true, recurses := true, named := ["internal/bytealg.MaxLen", "bonsai/tree.counts", "bonsai/print.signs", "math/bits.deBruijn64tab", "bonsai/print.counts", "internal/strconv.uint64pow10", "math/bits.deBruijn32tab"], apart := false, laid := [("math/bits.deBruijn32tab", laid_math_bits_deBruijn32tab), ("math/bits.deBruijn64tab", laid_math_bits_deBruijn64tab), ("internal/strconv.uint64pow10", laid_internal_strconv_uint64pow10), ("bonsai/tree.counts", laid_bonsai_tree_counts), ("bonsai/print.counts", laid_bonsai_print_counts), ("bonsai/print.signs", laid_bonsai_print_signs)], narrowed := true }
def FuelTellsUptoSaid : Prop := fuelTellsUptoRow.holds Tryz.pinned (OpenSpec.upto fuelTellsSpec)

/-- 'bonsailaw17.FuelCloser', WHERE WHAT IT READS IS OF BULK AT MOST 1048576: true; the input reads as it did. -/
def fuelCloserUptoRow : OpenClaim := { program := "ytelfblhcphnbmaagreatdoor", sum := "6a2ead4e732a0d6a56e45fb54c6b83d83335ec5b50886bbd4ca71e2ff4577ac6", func := "bonsai/bonsailaw17.FuelCloser", spec := "fuelCloser", inPlace := ["internal/bytealg.IndexByteString", "internal/bytealg.IndexString", "internal/abi.NoEscape"], unfollowed := true, recurses := true, named := ["internal/bytealg.MaxLen", "bonsai/tree.counts", "bonsai/print.signs", "math/bits.deBruijn64tab", "bonsai/print.counts", "internal/strconv.uint64pow10", "math/bits.deBruijn32tab"], apart := false, laid := [("math/bits.deBruijn32tab", laid_math_bits_deBruijn32tab), ("math/bits.deBruijn64tab", laid_math_bits_deBruijn64tab), ("internal/strconv.uint64pow10", laid_internal_strconv_uint64pow10), ("bonsai/tree.counts", laid_bonsai_tree_counts), ("bonsai/print.counts", laid_bonsai_print_counts), ("bonsai/print.signs", laid_bonsai_print_signs)], narrowed := true }
def FuelCloserUptoSaid : Prop := fuelCloserUptoRow.holds Tryz.pinned (OpenSpec.upto fuelCloserSpec)

/-- 'bonsailaw15.TableMay', WHERE WHAT IT READS IS OF BULK AT MOST 1048576: true; the input reads as it did. -/
def tableMayUptoRow : OpenClaim := { program := "ytelfblhcphnbmaagreatdoor", sum := "6a2ead4e732a0d6a56e45fb54c6b83d83335ec5b50886bbd4ca71e2ff4577ac6", func := "bonsai/bonsailaw15.TableMay", spec := "tableMay", inPlace := ["internal/bytealg.IndexByteString", "internal/bytealg.IndexString", "internal/abi.NoEscape"], unfollowed := true, recurses := true, named := ["internal/bytealg.MaxLen", "bonsai/tree.counts", "bonsai/print.signs", "math/bits.deBruijn64tab", "bonsai/print.counts", "internal/strconv.uint64pow10", "math/bits.deBruijn32tab"], apart := false, laid := [("math/bits.deBruijn32tab", laid_math_bits_deBruijn32tab), ("math/bits.deBruijn64tab", laid_math_bits_deBruijn64tab), ("internal/strconv.uint64pow10", laid_internal_strconv_uint64pow10), ("bonsai/tree.counts", laid_bonsai_tree_counts), ("bonsai/print.counts", laid_bonsai_print_counts), ("bonsai/print.signs", laid_bonsai_print_signs)], narrowed := true }
def TableMayUptoSaid : Prop := tableMayUptoRow.holds Tryz.pinned (OpenSpec.upto tableMaySpec)

/-- 'bonsailaw15.TableTells', WHERE WHAT IT READS IS OF BULK AT MOST 1048576: true; the input reads as it did. -/
def tableTellsUptoRow : OpenClaim := { program := "ytelfblhcphnbmaagreatdoor", sum := "6a2ead4e732a0d6a56e45fb54c6b83d83335ec5b50886bbd4ca71e2ff4577ac6", func := "bonsai/bonsailaw15.TableTells", spec := "tableTells", inPlace := ["internal/bytealg.IndexByteString", "internal/bytealg.IndexString", "internal/abi.NoEscape"], unfollowed := true, recurses := true, named := ["internal/bytealg.MaxLen", "bonsai/tree.counts", "bonsai/print.signs", "math/bits.deBruijn64tab", "bonsai/print.counts", "internal/strconv.uint64pow10", "math/bits.deBruijn32tab"], apart := false, laid := [("math/bits.deBruijn32tab", laid_math_bits_deBruijn32tab), ("math/bits.deBruijn64tab", laid_math_bits_deBruijn64tab), ("internal/strconv.uint64pow10", laid_internal_strconv_uint64pow10), ("bonsai/tree.counts", laid_bonsai_tree_counts), ("bonsai/print.counts", laid_bonsai_print_counts), ("bonsai/print.signs", laid_bonsai_print_signs)], narrowed := true }
def TableTellsUptoSaid : Prop := tableTellsUptoRow.holds Tryz.pinned (OpenSpec.upto tableTellsSpec)

/-- 'bonsailaw15.TableNames', WHERE WHAT IT READS IS OF BULK AT MOST 1048576: true; the input reads as it did. -/
def tableNamesUptoRow : OpenClaim := { program := "ytelfblhcphnbmaagreatdoor", sum := "6a2ead4e732a0d6a56e45fb54c6b83d83335ec5b50886bbd4ca71e2ff4577ac6", func := "bonsai/bonsailaw15.TableNames", spec := "tableNames", inPlace := ["internal/bytealg.IndexByteString", "internal/bytealg.IndexString", "internal/abi.NoEscape"], unfollowed := true, recurses := true, named := ["bonsai/tree.counts", "internal/bytealg.MaxLen", "bonsai/print.signs", "math/bits.deBruijn64tab", "bonsai/print.counts", "internal/strconv.uint64pow10", "math/bits.deBruijn32tab"], apart := false, laid := [("math/bits.deBruijn32tab", laid_math_bits_deBruijn32tab), ("math/bits.deBruijn64tab", laid_math_bits_deBruijn64tab), ("internal/strconv.uint64pow10", laid_internal_strconv_uint64pow10), ("bonsai/tree.counts", laid_bonsai_tree_counts), ("bonsai/print.counts", laid_bonsai_print_counts), ("bonsai/print.signs", laid_bonsai_print_signs)], narrowed := true }
def TableNamesUptoSaid : Prop := tableNamesUptoRow.holds Tryz.pinned (OpenSpec.upto tableNamesSpec)

/-- 'bonsailaw15.TableBehind', WHERE WHAT IT READS IS OF BULK AT MOST 1048576: true; the input reads as it did. -/
def tableBehindUptoRow : OpenClaim := { program := "ytelfblhcphnbmaagreatdoor", sum := "6a2ead4e732a0d6a56e45fb54c6b83d83335ec5b50886bbd4ca71e2ff4577ac6", func := "bonsai/bonsailaw15.TableBehind", spec := "tableBehind", inPlace := ["internal/bytealg.IndexByteString", "internal/bytealg.IndexString", "internal/abi.NoEscape"], unfollowed := true, recurses := true, named := ["internal/bytealg.MaxLen", "bonsai/tree.counts", "bonsai/print.signs", "math/bits.deBruijn64tab", "bonsai/print.counts", "internal/strconv.uint64pow10", "math/bits.deBruijn32tab"], apart := false, laid := [("math/bits.deBruijn32tab", laid_math_bits_deBruijn32tab), ("math/bits.deBruijn64tab", laid_math_bits_deBruijn64tab), ("internal/strconv.uint64pow10", laid_internal_strconv_uint64pow10), ("bonsai/tree.counts", laid_bonsai_tree_counts), ("bonsai/print.counts", laid_bonsai_print_counts), ("bonsai/print.signs", laid_bonsai_print_signs)], narrowed := true }
def TableBehindUptoSaid : Prop := tableBehindUptoRow.holds Tryz.pinned (OpenSpec.upto tableBehindSpec)

end Rows
end Go.Proofs.YtelfblhcphnbmaaGreatDoor
