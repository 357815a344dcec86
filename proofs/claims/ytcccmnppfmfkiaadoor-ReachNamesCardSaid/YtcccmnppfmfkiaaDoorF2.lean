/-
  The tables that this seat's rows list lie in the memory that stands.
-/
import Derived.Test.YtcccmnppfmfkiaaDoorF1
import Derived.Test.YtcccmnppfmfkiaaDoorRows
set_option linter.unusedVariables false
set_option linter.unusedSimpArgs false
namespace Go.V
open Go Go.Proofs

theorem var_block {P : Program} {W : World} {n : String} {g : Nat} {cs : Array Value} (hg : P.globalNamed n = some g) (h : W.var? P n = some cs) : ∃ T fr, W.heap[g]? = some (.cells cs T fr) := by
  simp only [World.var?, hg, Option.bind_some] at h
  split at h
  · rename_i c T fr hh
    cases h
    exact ⟨T, fr, hh⟩
  · cases h
def debL : List Int := [0, 1, 56, 2, 57, 49, 28, 3, 61, 58, 42, 50, 38, 29, 17, 4, 62, 47, 59, 36, 45, 43, 51, 22, 53, 39, 33, 30, 24, 18, 12, 5, 63, 55, 48, 27, 60, 41, 37, 16, 46, 35, 44, 21, 52, 32, 23, 11, 54, 26, 40, 15, 34, 20, 31, 10, 25, 14, 19, 9, 13, 8, 7, 6]

/-- From the list of a row, whatever stands at its end. -/
theorem tabs_of_laid {W : World} {rest : List (String × DataW Unit)} (h : laidMet Tryd.prog ([("math/bits.deBruijn32tab", YtcccmnppfmfkiaaDoor.Rows.laid_math_bits_deBruijn32tab), ("math/bits.deBruijn64tab", YtcccmnppfmfkiaaDoor.Rows.laid_math_bits_deBruijn64tab), ("internal/strconv.uint64pow10", YtcccmnppfmfkiaaDoor.Rows.laid_internal_strconv_uint64pow10), ("bonsai/tree.counts", YtcccmnppfmfkiaaDoor.Rows.laid_bonsai_tree_counts), ("bonsai/print.counts", YtcccmnppfmfkiaaDoor.Rows.laid_bonsai_print_counts), ("bonsai/print.signs", YtcccmnppfmfkiaaDoor.Rows.laid_bonsai_print_signs)] ++ rest) W) : Tabs (ghost W) debL := by
  obtain ⟨ps, hL, _⟩ := h
  obtain ⟨g1, t1, cs1, f1, p1, q1, hg1, ht1, hv1, hd1, hL, _⟩ := hL
  obtain ⟨g2, t2, cs2, f2, p2, q2, hg2, ht2, hv2, hd2, hL, _⟩ := hL
  obtain ⟨g3, t3, cs3, f3, p3, q3, hg3, ht3, hv3, hd3, hL, _⟩ := hL
  obtain ⟨g4, t4, cs4, f4, p4, q4, hg4, ht4, hv4, hd4, hL, _⟩ := hL
  obtain ⟨g5, t5, cs5, f5, p5, q5, hg5, ht5, hv5, hd5, hL, _⟩ := hL
  obtain ⟨g6, t6, cs6, f6, p6, q6, hg6, ht6, hv6, hd6, hL, _⟩ := hL
  obtain rfl := Option.some.inj ((show Tryd.prog.globalNamed "math/bits.deBruijn64tab" = some 3 by kernel_rfl).symm.trans hg2)
  obtain rfl := Option.some.inj ((show (Tryd.prog.globals[3]?).map (·.type) = some 150 by kernel_rfl).symm.trans ht2)
  obtain rfl := Option.some.inj ((show Tryd.prog.globalNamed "bonsai/tree.counts" = some 0 by kernel_rfl).symm.trans hg4)
  obtain rfl := Option.some.inj ((show (Tryd.prog.globals[0]?).map (·.type) = some 108 by kernel_rfl).symm.trans ht4)
  obtain rfl := Option.some.inj ((show Tryd.prog.globalNamed "bonsai/print.counts" = some 2 by kernel_rfl).symm.trans hg5)
  obtain rfl := Option.some.inj ((show (Tryd.prog.globals[2]?).map (·.type) = some 140 by kernel_rfl).symm.trans ht5)
  obtain rfl := Option.some.inj ((show Tryd.prog.globalNamed "bonsai/print.signs" = some 1 by kernel_rfl).symm.trans hg6)
  obtain rfl := Option.some.inj ((show (Tryd.prog.globals[1]?).map (·.type) = some 128 by kernel_rfl).symm.trans ht6)
  obtain ⟨T2, r2, b2⟩ := var_block hg2 hv2
  obtain ⟨T4, r4, b4⟩ := var_block hg4 hv4
  obtain ⟨T5, r5, b5⟩ := var_block hg5 hv5
  obtain ⟨T6, r6, b6⟩ := var_block hg6 hv6
  have c2 : cs2.toList = debL.map (Value.int .u8) := leaves_array (show Tryd.prog.underlying 150 = some (.array 64 5) by kernel_rfl) (by kernel_rfl) (by kernel_rfl) (by kernel_rfl) hd2 (by kernel_rfl)
  have c4 : cs4.toList = countsL.map (Value.int .i64) := rows_array2 (n := 10) (sz := 2) (show Tryd.prog.underlying 108 = some (.array 10 107) by kernel_rfl) (by kernel_rfl) (by kernel_rfl) hd4
    (rows := [[.int .i64 0, .int .i64 0], [.int .i64 0, .int .i64 0], [.int .i64 0, .int .i64 0], [.int .i64 0, .int .i64 0], [.int .i64 2, .int .i64 (-1)], [.int .i64 2, .int .i64 (-1)], [.int .i64 1, .int .i64 1], [.int .i64 1, .int .i64 1], [.int .i64 1, .int .i64 1], [.int .i64 1, .int .i64 1]]) (by kernel_rfl)
    (fun _ _ _ _ _ h1 h2 => leaves_array (show Tryd.prog.underlying 107 = some (.array 2 3) by kernel_rfl) (by kernel_rfl) (by kernel_rfl) (by kernel_rfl) h1 h2)
  have fields : ∀ {t : TypeId}, (match Tryd.prog.underlying t with
      | some (.struct fs) => decide (Tryd.prog.cellsOf t = fs.size) && (List.range fs.size).all fun i => match fs[i]? with
        | some f => leafT Tryd.prog f.type && (decide (f.offset = i) && decide (Tryd.prog.cellsOf f.type = 1))
        | none => false
      | _ => false) = true → ∀ (fuel : Nat) (cs : List Value) (p : List MemPlace) (l : List (DataW Unit)) (row : List Value), DataW.trod (fun _ => ()) Tryd.prog W 0 (fun _ => true) false fuel t cs = some (.agg l, p) → l.mapM leafVal = some row → cs = row := by
    intro t hc fuel cs p l row h1 h2
    split at hc
    · rename_i fs hu
      simp only [Bool.and_eq_true, decide_eq_true_eq, List.all_eq_true, List.mem_range] at hc
      refine leaves_struct hu (fun i f hf => ?_) hc.1 h1 h2
      have hi := hc.2 i (Array.getElem?_eq_some_iff.1 hf).1
      rw [hf] at hi
      simpa using hi
    · cases hc
  have c5 : cs5.toList = pcountsV := rows_array2 (n := 3) (sz := 3) (show Tryd.prog.underlying 140 = some (.array 3 139) by kernel_rfl) (by kernel_rfl) (by kernel_rfl) hd5
    (rows := [[.int .i64 0, .int .i64 1, .string ⟨#[63]⟩], [.int .i64 0, .int .i64 (-1), .string ⟨#[42]⟩], [.int .i64 1, .int .i64 (-1), .string ⟨#[43]⟩]]) (by kernel_rfl) (fields (by kernel_rfl))
  have c6 : cs6.toList = signsL.map fun l => Value.string (strOf l) := rows_array2 (n := 10) (sz := 3) (show Tryd.prog.underlying 128 = some (.array 10 127) by kernel_rfl) (by kernel_rfl) (by kernel_rfl) hd6
    (rows := [[.string ⟨#[]⟩, .string ⟨#[]⟩, .string ⟨#[]⟩], [.string ⟨#[]⟩, .string ⟨#[]⟩, .string ⟨#[]⟩], [.string ⟨#[]⟩, .string ⟨#[]⟩, .string ⟨#[]⟩], [.string ⟨#[]⟩, .string ⟨#[]⟩, .string ⟨#[]⟩], [.string ⟨#[]⟩, .string ⟨#[32]⟩, .string ⟨#[]⟩], [.string ⟨#[]⟩, .string ⟨#[32, 47, 32]⟩, .string ⟨#[]⟩], [.string ⟨#[]⟩, .string ⟨#[]⟩, .string ⟨#[]⟩], [.string ⟨#[38]⟩, .string ⟨#[]⟩, .string ⟨#[]⟩], [.string ⟨#[33]⟩, .string ⟨#[]⟩, .string ⟨#[]⟩], [.string ⟨#[60]⟩, .string ⟨#[]⟩, .string ⟨#[62]⟩]]) (by kernel_rfl) (fields (by kernel_rfl))
  have arr : ∀ {cs : Array Value} {l : List Value}, cs.toList = l → cs = l.toArray := fun h => by
    apply Array.ext'
    simpa using h
  refine ⟨⟨T4, r4, ?_⟩, ⟨T5, r5, ?_⟩, ⟨T6, r6, ?_⟩, by decide, by decide, T2, r2, ?_⟩
  · rw [← arr c4]; exact b4
  · rw [← arr c5]; exact b5
  · rw [← arr c6]; exact b6
  · rw [← arr c2]; exact b2
end Go.V
