/-
  Part 6 of what the proofs of this seat share: the executor, data in memory, walks.
-/
import Derived.Test.YtcccmnppfmfkiaaGreatDoorK5
import Derived.WideKeyArgs
import Derived.Below
import Derived.Test.YtcccmnppfmfkiaaGreatDoorK2
import Derived.Laws.IdiomStrings
import Derived.Test.YtcccmnppfmfkiaaGreatDoorK4

/-
  The arguments of a row, opened: numbers, nodes, trees, rules, grammars, out of what the row reads; and shut again, where all that stood stands.
-/
set_option linter.unusedVariables false
set_option linter.unusedSimpArgs false
namespace Go.V
open Go Go.Proofs

section
variable {H : Type} {enc : TypeId × Value → H} {P : Program} {W : World} {base : Nat} {sp : Nat → Bool} {held : Bool}

theorem exists_list {α : Type} {p : Nat → α → Prop} : ∀ (n : Nat), (∀ i, i < n → ∃ d, p i d) → ∃ l : List α, l.length = n ∧ ∀ i (h : i < l.length), p i l[i]
  | 0, _ => ⟨[], rfl, fun i h => by simp at h⟩
  | n + 1, h => by
    obtain ⟨l, h1, h2⟩ := exists_list n fun i hi => h i (by omega)
    obtain ⟨d, hd⟩ := h n (by omega)
    refine ⟨l ++ [d], by simp [h1], fun i hi => ?_⟩
    by_cases hlt : i < l.length
    · rw [List.getElem_append_left hlt]
      exact h2 i hlt
    · have e : i = l.length := by simp at hi; omega
      subst e
      simpa [h1] using hd

theorem open_rs {α : Type} {f : α → List Value} {size : Nat} (hs : 0 < size) (hf : ∀ x, (f x).length = size) (ok : α → Prop) {t e : TypeId} (ht : P.underlying t = some (.slice e)) (hc : P.cellsOf e = size)
    (hin : ∀ fuel cs x, DataW.trod enc P W base sp held fuel e cs = some x → ∃ d, cs = f d ∧ ok d) {fuel : Nat} {cs : List Value} {x : DataW H × List MemPlace} (h : DataW.trod enc P W base sp held fuel t cs = some x) :
    ∃ (a : Option Addr) (n c : Nat) (l : List α), cs = [.slice a n c] ∧ RS (ghost W) a n c size 0 (l.flatMap f) ∧ l.length = n ∧ (∀ d ∈ l, ok d) ∧ (a = none → c = 0) ∧ c ≤ maxLen := by
  rcases DataW.trod_slice ht h with ⟨rfl, _⟩ | ⟨a, len, cap, elems, rest, m, _, rfl, _, hb, hl, hm, hlen, hel, _, _⟩
  · exact ⟨none, 0, 0, [], rfl, ⟨by simp, ⟨Nat.le_refl _, by omega⟩, .inl rfl⟩, rfl, fun d hd => by simp at hd, fun _ => rfl, by unfold maxLen; omega⟩
  have each : ∀ i, i < len → ∃ d, ok d ∧ W.cells? base (a.add (i * size)) size = some (f d) := fun i hi => by
    have h1 := hel i hi
    rw [hc, List.getElem?_eq_getElem (by omega)] at h1
    obtain ⟨cs', h2, h3⟩ := Option.bind_eq_some_iff.1 h1
    obtain ⟨d, rfl, hd⟩ := hin _ _ _ h3
    exact ⟨d, hd, h2⟩
  obtain ⟨l, hll, hlp⟩ := exists_list len each
  refine ⟨some a, len, cap, l, rfl, ⟨by rw [flat_len f size hf, hll], ⟨hl, by omega⟩, ?_⟩, hll, fun d hd => ?_, fun h => by simp at h, hm⟩
  · by_cases h0 : len = 0
    · exact .inl h0
    right
    have c0 := (hlp 0 (by omega)).2
    obtain ⟨-, -, hcell⟩ := World.cells?_some c0
    have h00 := hcell 0 hs
    rw [List.getElem?_eq_getElem (by rw [hf]; exact hs)] at h00
    have hspot : a.spot = none := by
      have := World.cell?_spot h00
      cases hsp : a.spot with
      | none => rfl
      | some s => simp [Addr.add, hsp] at this
    refine ⟨a, rfl, hspot, ?_⟩
    have hcell' : ∀ i (hi : i < l.length), ∀ k, k < size → W.cell? ⟨a.block, a.off + (i * size + k), none⟩ = (f l[i])[k]? := fun i hi k hk => by
      obtain ⟨-, -, hh⟩ := World.cells?_some (hlp i hi).2
      have := hh k hk
      rw [addr_add _ hspot, addr_add _ rfl] at this
      rw [← this]
      congr 2
      simp only []
      omega
    have hblk : ∃ cs T fr, W.heap[a.block]? = some (.cells cs T fr) := by
      have h1 := hcell' 0 (by omega) 0 hs
      rw [List.getElem?_eq_getElem (by rw [hf]; exact hs)] at h1
      unfold World.cell? at h1
      cases hh : W.heap[a.block]? with
      | none => simp [hh] at h1
      | some o =>
        cases o with
        | cells cs T fr => exact ⟨cs, T, fr, rfl⟩
        | _ => simp [hh] at h1
    obtain ⟨cs, T, fr, hh⟩ := hblk
    refine ⟨cs, T, fr, hh, ?_⟩
    have hfl := flat_len f size hf l
    apply List.ext_getElem?
    intro j
    by_cases hj : j < len * size
    · have hdiv : j / size < l.length := by
        rw [hll]
        exact Nat.div_lt_of_lt_mul (by rw [Nat.mul_comm]; exact hj)
      have hmod := Nat.mod_lt j hs
      have e := Nat.div_add_mod j size
      rw [Nat.mul_comm] at e
      have h1 := hcell' (j / size) hdiv (j % size) hmod
      rw [e] at h1
      have h2 := flat_at f size hf l (j / size) hdiv
      have h3 : (l.flatMap f)[j]? = (f l[j / size])[j % size]? := by
        rw [← h2, List.getElem?_take, if_pos hmod, List.getElem?_drop, e]
      rw [h3, ← h1, List.getElem?_take, if_pos hj, List.getElem?_drop]
      simp [World.cell?, hh]
    · rw [List.getElem?_eq_none (by rw [List.length_take]; omega), List.getElem?_eq_none (by rw [hfl, hll]; omega)]
  · obtain ⟨i, hi, rfl⟩ := List.getElem_of_mem hd
    exact (hlp i hi).1

theorem open_num {k : IntKind} {t : TypeId} {fuel : Nat} {cs : List Value} {x : DataW H × List MemPlace} (ht : P.underlying t = some (.int k)) (h : DataW.trod enc P W base sp held fuel t cs = some x) : ∃ n, cs = [.int k n] ∧ (Lit.int k n).wf = true := by
  obtain ⟨n, h1, _, h2⟩ := DataW.trod_int ht h
  exact ⟨n, h1, h2⟩
theorem wf_i64 {n : Int} (h : (Lit.int .i64 n).wf = true) : i64ok n := by
  simp [Lit.wf, IntKind.min, IntKind.max, IntKind.signed, IntKind.bits] at h
  exact h
theorem wf_u64 {n : Int} (h : (Lit.int .u64 n).wf = true) : u64ok n := by
  simp [Lit.wf, IntKind.min, IntKind.max, IntKind.signed, IntKind.bits] at h
  unfold u64ok
  omega
theorem wf_u8 {n : Int} (h : (Lit.int .u8 n).wf = true) : 0 ≤ n ∧ n < 256 := by
  simp [Lit.wf, IntKind.min, IntKind.max, IntKind.signed, IntKind.bits] at h
  omega
end

section
variable {H : Type} {enc : TypeId × Value → H} {W : World} {base : Nat} {sp : Nat → Bool} {held : Bool}
theorem open_ints1 {fuel : Nat} {cs : List Value} {x : DataW H × List MemPlace} (h : DataW.trod enc Tryz.prog W base sp held fuel 27 cs = some x) :
    ∃ (a : Option Addr) (n c : Nat) (l : List Int), cs = [.slice a n c] ∧ RS (ghost W) a n c 1 0 (l.map (.int .i64 ·)) ∧ l.length = n ∧ ∀ k ∈ l, i64ok k := by
  obtain ⟨a, n, c, l, h1, h2, h3, h4, -, -⟩ := open_rs (f := fun k => [Value.int .i64 k]) (size := 1) (by decide) (fun _ => rfl) i64ok (show Tryz.prog.underlying 27 = some (.slice 3) by kernel_rfl) (by kernel_rfl)
    (fun fuel cs x h => by
      obtain ⟨n, h1, h2⟩ := open_num (show Tryz.prog.underlying 3 = some (.int .i64) by kernel_rfl) h
      exact ⟨n, h1, wf_i64 h2⟩) h
  refine ⟨a, n, c, l, h1, ?_, h3, h4⟩
  rwa [← List.map_eq_flatMap] at h2
theorem list4 {α : Type} {l : List α} (h : l.length = 4) : ∃ a b c d, l = [a, b, c, d] := by
  match l, h with
  | [a, b, c, d], _ => exact ⟨a, b, c, d, rfl⟩
theorem list9 {α : Type} {l : List α} (h : l.length = 9) : ∃ a b c d e f g i j, l = [a, b, c, d, e, f, g, i, j] := by
  match l, h with
  | [a, b, c, d, e, f, g, i, j], _ => exact ⟨a, b, c, d, e, f, g, i, j, rfl⟩
theorem list3 {α : Type} {l : List α} (h : l.length = 3) : ∃ a b c, l = [a, b, c] := by
  match l, h with
  | [a, b, c], _ => exact ⟨a, b, c, rfl⟩
theorem list2 {α : Type} {l : List α} (h : l.length = 2) : ∃ a b, l = [a, b] := by
  match l, h with
  | [a, b], _ => exact ⟨a, b, rfl⟩
theorem list1 {α : Type} {l : List α} (h : l.length = 1) : ∃ a, l = [a] := by
  match l, h with
  | [a], _ => exact ⟨a, rfl⟩
theorem open_set4 {fuel : Nat} {cs : List Value} {x : DataW H × List MemPlace} (h : DataW.trod enc Tryz.prog W base sp held fuel 65 cs = some x) :
    ∃ a b c d : Int, cs = [.int .u64 a, .int .u64 b, .int .u64 c, .int .u64 d] ∧ u64ok a ∧ u64ok b ∧ u64ok c ∧ u64ok d := by
  obtain ⟨xs, m, _, _, hl, hxl, hi⟩ := DataW.trod_array (show Tryz.prog.underlying 65 = some (.array 4 63) by kernel_rfl) h
  rw [show Tryz.prog.cellsOf 65 = 4 by kernel_rfl] at hl
  rw [show Tryz.prog.cellsOf 63 = 1 by kernel_rfl] at hi
  have hu : Tryz.prog.underlying 63 = some (.int .u64) := by kernel_rfl
  obtain ⟨a, b, c, d, rfl⟩ := list4 hl
  have get : ∀ i, (hi4 : i < 4) → ∃ n, (([a, b, c, d] : List Value).drop (i * 1)).take 1 = [.int .u64 n] ∧ u64ok n := fun i hi4 => by
    have h1 := hi i hi4
    rw [List.getElem?_eq_getElem (by omega)] at h1
    obtain ⟨n, h2, h3⟩ := open_num hu h1
    exact ⟨n, h2, wf_u64 h3⟩
  obtain ⟨n0, e0, k0⟩ := get 0 (by decide)
  obtain ⟨n1, e1, k1⟩ := get 1 (by decide)
  obtain ⟨n2, e2, k2⟩ := get 2 (by decide)
  obtain ⟨n3, e3, k3⟩ := get 3 (by decide)
  simp at e0 e1 e2 e3
  subst e0 e1 e2 e3
  exact ⟨_, _, _, _, rfl, k0, k1, k2, k3⟩

theorem struct_fields {P : Program} {t : Nat} {l : List (Nat × Nat)} (h : (match P.underlying t with
    | some (.struct fs) => decide (fs.toList.map (fun f => (f.type, f.offset)) = l)
    | _ => false) = true) : ∃ fs, P.underlying t = some (.struct fs) ∧ fs.toList.map (fun f => (f.type, f.offset)) = l := by
  split at h
  · rename_i fs hu
    exact ⟨fs, hu, of_decide_eq_true h⟩
  · cases h
theorem field_at {P : Program} {fs : Array Field} {l : List (Nat × Nat)} {q : Nat → Nat → Prop} (hf : fs.toList.map (fun f => (f.type, f.offset)) = l) (h : ∀ (i : Nat) (f : Field), fs[i]? = some f → q f.type f.offset) : ∀ (i t o : Nat), l[i]? = some (t, o) → q t o := by
  subst hf
  intro i t o hi
  simp only [List.getElem?_map, Option.map_eq_some_iff, Prod.mk.injEq] at hi
  obtain ⟨f, h1, rfl, rfl⟩ := hi
  exact h i f (by simpa using h1)
/-- A struct's fields: each reads, at its place. -/
theorem open_fields {P : Program} {t : TypeId} {fs : Array Field} {fuel : Nat} {cs : List Value} {x : DataW H × List MemPlace} (ht : P.underlying t = some (.struct fs)) (h : DataW.trod enc P W base sp held fuel t cs = some x) :
    cs.length = P.cellsOf t ∧ ∀ (i : Nat) (f : Field), fs[i]? = some f → ∃ fuel y, DataW.trod enc P W base sp held fuel f.type ((cs.drop f.offset).take (P.cellsOf f.type)) = some y := by
  obtain ⟨xs, m, _, _, hl, hxl, hi⟩ := DataW.trod_struct ht h
  refine ⟨hl, fun i f hf => ?_⟩
  have hlt := (Array.getElem?_eq_some_iff.1 hf).1
  have h1 := hi i f hf
  rw [List.getElem?_eq_getElem (by omega)] at h1
  exact ⟨_, _, h1⟩

theorem open_node {fuel : Nat} {cs : List Value} {x : DataW H × List MemPlace} (h : DataW.trod enc Tryz.prog W base sp held fuel 67 cs = some x) : ∃ d : Nd, cs = d.cells ∧ NdW (ghost W) d := by
  obtain ⟨fs, ht, hf⟩ : ∃ fs, Tryz.prog.underlying 67 = some (.struct fs) ∧ fs.toList.map (fun f => (f.type, f.offset)) = [(5, 0), (65, 1), (9, 5), (3, 6), (3, 7), (27, 8)] := struct_fields (by kernel_rfl)
  obtain ⟨hl, hi⟩ := open_fields ht h
  have hi : ∀ (i t o : Nat), [(5, 0), (65, 1), (9, 5), (3, 6), (3, 7), (27, 8)][i]? = some (t, o) → ∃ fuel y, DataW.trod enc Tryz.prog W base sp held fuel t ((cs.drop o).take (Tryz.prog.cellsOf t)) = some y := field_at (P := Tryz.prog) hf hi
  rw [show Tryz.prog.cellsOf 67 = 9 by kernel_rfl] at hl
  obtain ⟨c0, c1, c2, c3, c4, c5, c6, c7, c8, rfl⟩ := list9 hl
  obtain ⟨_, _, h0⟩ := hi 0 _ _ rfl
  obtain ⟨_, _, h1⟩ := hi 1 _ _ rfl
  obtain ⟨_, _, h2⟩ := hi 2 _ _ rfl
  obtain ⟨_, _, h3⟩ := hi 3 _ _ rfl
  obtain ⟨_, _, h4⟩ := hi 4 _ _ rfl
  obtain ⟨_, _, h5⟩ := hi 5 _ _ rfl
  rw [show Tryz.prog.cellsOf 5 = 1 by kernel_rfl] at h0
  rw [show Tryz.prog.cellsOf 65 = 4 by kernel_rfl] at h1
  rw [show Tryz.prog.cellsOf 9 = 1 by kernel_rfl] at h2
  rw [show Tryz.prog.cellsOf 3 = 1 by kernel_rfl] at h3 h4
  rw [show Tryz.prog.cellsOf 27 = 1 by kernel_rfl] at h5
  obtain ⟨k, e0, w0⟩ := open_num (show Tryz.prog.underlying 5 = some (.int .u8) by kernel_rfl) h0
  obtain ⟨a, b, c, d, e1, w1, w2, w3, w4⟩ := open_set4 h1
  obtain ⟨s, e2, -, ws⟩ := DataW.trod_string (show Tryz.prog.underlying 9 = some .string by kernel_rfl) h2
  obtain ⟨lo, e3, wl⟩ := open_num (show Tryz.prog.underlying 3 = some (.int .i64) by kernel_rfl) h3
  obtain ⟨hi', e4, wh⟩ := open_num (show Tryz.prog.underlying 3 = some (.int .i64) by kernel_rfl) h4
  obtain ⟨ka, kn, kc, kids, e5, hrs, hkn, hkids⟩ := open_ints1 h5
  simp at e0 e1 e2 e3 e4 e5
  obtain ⟨e1a, e1b, e1c, e1d⟩ := e1
  subst e0 e1a e1b e1c e1d e2 e3 e4 e5
  exact ⟨⟨k, a, b, c, d, s, lo, hi', ka, kn, kc, kids⟩, rfl, wf_u8 w0, w1, w2, w3, w4, wf_i64 wl, wf_i64 wh, hrs, hkids, by unfold maxLen at ws; omega⟩
theorem open_tree {fuel : Nat} {cs : List Value} {x : DataW H × List MemPlace} (h : DataW.trod enc Tryz.prog W base sp held fuel 37 cs = some x) : ∃ t : Tr, cs = t.cells ∧ TrW (ghost W) t := by
  obtain ⟨fs, ht, hf⟩ : ∃ fs, Tryz.prog.underlying 37 = some (.struct fs) ∧ fs.toList.map (fun f => (f.type, f.offset)) = [(35, 0), (3, 1)] := struct_fields (by kernel_rfl)
  obtain ⟨hl, hi⟩ := open_fields ht h
  have hi : ∀ (i t o : Nat), [(35, 0), (3, 1)][i]? = some (t, o) → ∃ fuel y, DataW.trod enc Tryz.prog W base sp held fuel t ((cs.drop o).take (Tryz.prog.cellsOf t)) = some y := field_at (P := Tryz.prog) hf hi
  rw [show Tryz.prog.cellsOf 37 = 2 by kernel_rfl] at hl
  obtain ⟨c0, c1, rfl⟩ := list2 hl
  obtain ⟨_, _, h0⟩ := hi 0 _ _ rfl
  obtain ⟨_, _, h1⟩ := hi 1 _ _ rfl
  rw [show Tryz.prog.cellsOf 35 = 1 by kernel_rfl] at h0
  rw [show Tryz.prog.cellsOf 3 = 1 by kernel_rfl] at h1
  obtain ⟨a, n, c, l, e0, hrs, hn, hok, -, -⟩ := open_rs (f := Nd.cells) (size := 9) (by decide) Nd.cells_len (NdW (ghost W)) (show Tryz.prog.underlying 35 = some (.slice 67) by kernel_rfl) (by kernel_rfl) (fun fuel cs x h => open_node h) h0
  obtain ⟨r, e1, wr⟩ := open_num (show Tryz.prog.underlying 3 = some (.int .i64) by kernel_rfl) h1
  simp at e0 e1
  subst e0 e1
  exact ⟨⟨l, a, n, c, r⟩, rfl, hrs, hok, wf_i64 wr⟩
theorem open_def {fuel : Nat} {cs : List Value} {x : DataW H × List MemPlace} (h : DataW.trod enc Tryz.prog W base sp held fuel 62 cs = some x) : ∃ d : Df, cs = d.cells ∧ DfW (ghost W) d := by
  obtain ⟨fs, ht, hf⟩ : ∃ fs, Tryz.prog.underlying 62 = some (.struct fs) ∧ fs.toList.map (fun f => (f.type, f.offset)) = [(9, 0), (37, 1)] := struct_fields (by kernel_rfl)
  obtain ⟨hl, hi⟩ := open_fields ht h
  have hi : ∀ (i t o : Nat), [(9, 0), (37, 1)][i]? = some (t, o) → ∃ fuel y, DataW.trod enc Tryz.prog W base sp held fuel t ((cs.drop o).take (Tryz.prog.cellsOf t)) = some y := field_at (P := Tryz.prog) hf hi
  rw [show Tryz.prog.cellsOf 62 = 3 by kernel_rfl] at hl
  obtain ⟨c0, c1, c2, rfl⟩ := list3 hl
  obtain ⟨_, _, h0⟩ := hi 0 _ _ rfl
  obtain ⟨_, _, h1⟩ := hi 1 _ _ rfl
  rw [show Tryz.prog.cellsOf 9 = 1 by kernel_rfl] at h0
  rw [show Tryz.prog.cellsOf 37 = 2 by kernel_rfl] at h1
  obtain ⟨s, e0, -, ws⟩ := DataW.trod_string (show Tryz.prog.underlying 9 = some .string by kernel_rfl) h0
  obtain ⟨t, e1, ht⟩ := open_tree h1
  simp [Tr.cells] at e0 e1
  obtain ⟨e1a, e1b⟩ := e1
  subst e0 e1a e1b
  exact ⟨⟨s, t⟩, rfl, by unfold maxLen at ws; exact ws, ht⟩
theorem open_grammar {fuel : Nat} {cs : List Value} {x : DataW H × List MemPlace} (h : DataW.trod enc Tryz.prog W base sp held fuel 24 cs = some x) : ∃ g : Gr, cs = [.slice g.a g.n g.c] ∧ GrW (ghost W) g := by
  obtain ⟨fs, ht, hf⟩ : ∃ fs, Tryz.prog.underlying 24 = some (.struct fs) ∧ fs.toList.map (fun f => (f.type, f.offset)) = [(22, 0)] := struct_fields (by kernel_rfl)
  obtain ⟨hl, hi⟩ := open_fields ht h
  have hi : ∀ (i t o : Nat), [(22, 0)][i]? = some (t, o) → ∃ fuel y, DataW.trod enc Tryz.prog W base sp held fuel t ((cs.drop o).take (Tryz.prog.cellsOf t)) = some y := field_at (P := Tryz.prog) hf hi
  rw [show Tryz.prog.cellsOf 24 = 1 by kernel_rfl] at hl
  obtain ⟨c0, rfl⟩ := list1 hl
  obtain ⟨_, _, h0⟩ := hi 0 _ _ rfl
  rw [show Tryz.prog.cellsOf 22 = 1 by kernel_rfl] at h0
  obtain ⟨a, n, c, l, e0, hrs, hn, hok, -, -⟩ := open_rs (f := Df.cells) (size := 3) (by decide) Df.cells_len (DfW (ghost W)) (show Tryz.prog.underlying 22 = some (.slice 62) by kernel_rfl) (by kernel_rfl) (fun fuel cs x h => open_def h) h0
  exact ⟨⟨l, a, n, c⟩, e0, hrs, hok⟩
theorem agg_of {P : Program} {w : World} {r : Reach} {base t : Nat} {v : Value} {fs : Array Field} (ht : P.underlying t = some (.struct fs)) (h : Value.okWide P w r base t v) : ∃ cs, v = .agg cs := by
  obtain ⟨cs, h1, -⟩ := Go.WideShapes.okWide_struct ht h
  exact ⟨cs, h1⟩
set_option maxRecDepth 100000 in
/-- A grammar among the arguments. -/
theorem arg_grammar {W : World} {base : Nat} {v : Value} {d : DataW H} {p : List MemPlace} (h : DataW.Trod enc Tryz.prog W 0 (fun _ => true) true 24 v d p) (hv : Value.okWide Tryz.prog W .any base 24 v) : ∃ g : Gr, v = g.val ∧ GrW (ghost W) g := by
  obtain ⟨fs, ht, -⟩ := struct_fields (P := Tryz.prog) (t := 24) (l := [(22, 0)]) (by kernel_rfl)
  obtain ⟨cs, rfl⟩ := agg_of ht hv
  obtain ⟨fuel, hf⟩ := h
  obtain ⟨g, e, hg⟩ := open_grammar hf
  refine ⟨g, ?_, hg⟩
  have e' : cs.toList = [.slice g.a g.n g.c] := e
  cases cs
  simp only at e'
  subst e'
  rfl
end

/-! ### Shut again -/
theorem trodAll_stays {H : Type} {enc : TypeId × Value → H} {P : Program} (hl : laidOutB P = true) {W W' : World} (hk : OldKept W W') : ∀ {ts : List TypeId} {vs : List Value} {ds : List (DataW H)} {ps : List MemPlace}, (∀ t ∈ ts, P.readableRec t = true ∧ t < P.types.size) →
    DataW.TrodAll enc P W 0 (fun _ => true) true ts vs ds ps → (∀ p ∈ ps, p.block < W.heap.size) → ∀ sp : Nat → Bool, (∀ p ∈ ps, sp p.block = true) → DataW.TrodAll enc P W' 0 sp true ts vs ds ps
  | [], [], [], _, _, h, _, _, _ => h
  | t :: ts, v :: vs, d :: ds, _, ht, ⟨p, q, h1, h2, e⟩, hlt, sp, hs => by
    subst e
    refine ⟨p, q, ?_, ?_, rfl⟩
    · refine Go.WideElems.Trod_stays hl (ht t (.head _)).1 (ht t (.head _)).2 h1 (fun x hx => ?_) (fun x hx => hs x (List.mem_append.2 (.inl hx)))
      have hlt' := hlt x (List.mem_append.2 (.inl hx))
      cases x with
      | cell b o => exact World.cell?_of_block (w := W) (hk.old b hlt')
      | map b => exact hk.old b hlt'
    · exact trodAll_stays hl hk (fun t h => ht t (.tail _ h)) h2 (fun x hx => hlt x (List.mem_append.2 (.inr hx))) sp (fun x hx => hs x (List.mem_append.2 (.inr hx)))
end Go.V

/-
  More rules: a text made of a row of bytes.
-/
set_option linter.unusedVariables false
set_option linter.unusedSimpArgs false
namespace Go.V
open Go

section
variable {X : Ctx} {o : Oper} {F : Fr} {C : Bx} {I : GH} {M : List Blk} {K : KS}
/-- 'string(row of bytes)'. -/
theorem OtherOb.bytesS (hE : EOK X.P X.E) {x : Operand} {src dst e : Nat} (ho : o.op = .convert src dst x) (hd : ∀ d, o.dst = some d → d < X.n)
    {ti ei di : TI} (ht : X.E src = some ti) (hts : ti.sh = .slice e) (he : X.E e = some ei) (hes : ei.sh = .int .u8) (hdt : X.E dst = some di) (hds : di.sh = .string)
    {ad : Addr} {n c : Nat} {l : List UInt8} (hx : ev F x = .val (.slice (some ad) n c)) (hn : l.length = n) (hrd : Rd I M ad n (l.map fun b => .int .u8 b.toNat))
    (h : K (put o.dst (.val (.string ⟨l.toArray⟩)) F) C I M) : OtherOb X o F C I M K := by
  subst hn
  refine ⟨fun a w Q ⟨β, hR⟩ => ?_⟩
  obtain ⟨hs, cs, T, fr, hk, hv, hl⟩ := hrd
  have hg := hk.heap hR.holds
  obtain ⟨d, hud, hdd⟩ := (hE _ _ ht).und
  have h1 : d = .slice e := by rw [hts] at hdd; cases d <;> simp_all [shOf]
  subst h1
  obtain ⟨d2, hu2, hd2⟩ := (hE _ _ he).und
  have h2 : d2 = .int .u8 := by rw [hes] at hd2; cases d2 <;> simp_all [shOf]
  subst h2
  obtain ⟨d3, hu3, hd3⟩ := (hE _ _ hdt).und
  have h3 : d3 = .string := by rw [hds] at hd3; cases d3 <;> simp_all [shOf]
  subst h3
  have hc : ∀ j (hj : j < l.length), w.cell? (ad.add j) = some (.int .u8 (l[j].toNat : Int)) := by
    intro j hj
    rw [addr_add ad hs, cell_of_block hg]
    have hj' : (l.map fun b => Value.int .u8 b.toNat)[j]? = some (.int .u8 (l[j].toNat : Int)) := by simp [hj]
    rw [← hv, List.getElem?_take, if_pos hj, List.getElem?_drop] at hj'
    simpa using hj'
  have ex := eval_of_ev hR.fr hx
  refine done_vv hR hd (by rw [ho]; simp) ?_ h
  unfold execOp
  simp only [ho, Sem.run_bind, Sem.run_pure, ex, run_convert_bytes_back w src dst e ad c l hud hu2 hu3 hc, Result.andThen_ok]

theorem eq2_run {P : Program} {t e : Nat} (ht : P.underlying t = some (.array 2 e)) {k : IntKind} (he : P.underlying e = some (.int k)) {inf : TypeInfo} (hi : P.info? e = some inf) (hs : inf.size = 1) (a0 a1 b0 b1 : Int) (w : World) :
    (Op.equal t (.agg #[.int k a0, .int k a1]) (.agg #[.int k b0, .int k b1])).run P w = .ok (a0 == b0 && a1 == b1) w := by
  have hpart : ∀ (xs : Array Value) (i : Nat) (v : Value) (w : World), xs[i]? = some v → (part e xs i).run P w = .ok v w := fun xs i v w h => by
    have hagg : (isAgg e).run P w = .ok false w := by
      unfold isAgg
      simp [run_underlying he]
    unfold part
    simp [hagg, sizeOf, typeInfo, hi, hs, h]
  have hint : ∀ (d : Nat) (x y : Int) (w : World), (Op.equalIn (d + 1) e (.int k x) (.int k y)).run P w = .ok (x == y) w := fun d x y w => by
    simp [Op.equalIn, run_underlying he]
  have key : ∀ m, (∀ (x y : Int) (w : World), (Op.equalIn m e (.int k x) (.int k y)).run P w = .ok (x == y) w) → (Op.equalIn (m + 1) t (.agg #[.int k a0, .int k a1]) (.agg #[.int k b0, .int k b1])).run P w = .ok (a0 == b0 && a1 == b1) w := fun m hint => by
    rw [Op.equalIn]
    simp only [Sem.run_bind, run_underlying ht, Result.andThen_ok, sizeOf, typeInfo, hi, run_program, Sem.run_pure, hs]
    simp only [Std.Legacy.Range.forIn_eq_forIn_range']
    have hr : List.range' 0 ([:2] : Std.Legacy.Range).size = [0, 1] := by decide
    rw [hr]
    have pa := fun (i : Nat) (v : Value) (w : World) => hpart #[.int k a0, .int k a1] i v w
    have pb := fun (i : Nat) (v : Value) (w : World) => hpart #[.int k b0, .int k b1] i v w
    simp only [List.forIn_cons, List.forIn_nil, Sem.run_bind]
    rw [pa (0 * 1) (.int k a0) w rfl]
    simp only [Result.andThen_ok, Sem.run_bind]
    rw [pb (0 * 1) (.int k b0) w rfl]
    simp only [Result.andThen_ok, Sem.run_bind]
    rw [hint]
    simp only [Result.andThen_ok]
    cases (a0 == b0)
    · simp
    simp only [Bool.not_true, Bool.false_eq_true, if_false, Sem.run_pure, Result.andThen_ok, Sem.run_bind]
    rw [pa (1 * 1) (.int k a1) w rfl]
    simp only [Result.andThen_ok, Sem.run_bind]
    rw [pb (1 * 1) (.int k b1) w rfl]
    simp only [Result.andThen_ok, Sem.run_bind]
    rw [hint]
    simp only [Result.andThen_ok]
    cases (a1 == b1)
    · simp
    simp
  exact key 9999 (hint 9998)

/-- '==' of two arrays of two numbers. -/
theorem BinOb.eq2 {P : Program} {E : Env} (hE : EOK P E) {t e : Nat} {ti ei : TI} {x y : Operand} (ht : E t = some ti) (hts : ti.sh = .array 2 e) (he : E e = some ei) {k : IntKind} (hes : ei.sh = .int k)
    (hg : P.eqGuardType P.depth t = false) {a0 a1 b0 b1 : Int} {V : Value → Prop} {other : Prop}
    (h : V (.bool (a0 == b0 && a1 == b1))) : BinOb P .eql t x y (.val (.agg #[.int k a0, .int k a1])) (.val (.agg #[.int k b0, .int k b1])) V other := by
  obtain ⟨d, hud, hdd⟩ := (hE _ _ ht).und
  obtain ⟨de, hue, hde⟩ := (hE _ _ he).und
  obtain ⟨inf, z, hi, hi1, _⟩ := (hE _ _ he).inf
  have h1 : d = .array 2 e := by rw [hts] at hdd; cases d <;> simp_all [shOf]
  have h2 : de = .int k := by rw [hes] at hde; cases de <;> simp_all [shOf]
  subst h1
  subst h2
  have hs1 : inf.size = 1 := by rw [hi1]; exact (hE _ _ he).sz1 (by rw [hes]; rfl)
  refine .mk _ _ _ rfl rfl (fun w => ?_) h
  simp only [Sem.run_bind, run_eqGuard_agg (hm := hg), Result.andThen_ok, binOp, eq2_run hud hue hi hs1, Sem.run_pure]
end
end Go.V

/-
  Walks: bonsairef01.power, Has, Runs.
-/
set_option linter.unusedVariables false
set_option linter.unusedSimpArgs false
namespace Go.V
open Go Go.Proofs

theorem RPower_spec {I : GH} (n : Nat) (hn : n < 64) : Spec Tryz.prog 137 [.int .i64 n] I [] fun v I' M' => v = .int .u64 ((2 ^ n : Nat) : Int) ∧ I' = I ∧ M' = [] := by
  refine spec_of_V [] TryzEOK Tryz.func137 rfl rfl rfl ?_
  intro B h0
  refine LoopOb.inv (ι := Nat) (fun i => { fl := [(0, .val (.int .i64 n)), (3, .val (.int .u64 ((2 ^ i : Nat) : Int))), (4, .val (.int .i64 i))], gi := I }) (fun i => i ≤ n) (fun i => n - i) ?_ ?_
  · exact ⟨0, Nat.zero_le _, .refl, .cons .refl (.cons .refl (.cons .refl .nil)), .nil⟩
  intro i hi
  refine CondOb.mk (fun h => ?_) (fun h => ?_)
  · have hlt : i < n := by simpa using h
    have hp : 2 ^ (i + 1) ≤ 2 ^ 63 := Nat.pow_le_pow_right (by omega) (by omega)
    have e : ((2 ^ i : Nat) : Int) * 2 = ((2 ^ (i + 1) : Nat) : Int) := by rw [Nat.pow_succ]; simp
    refine ArithOb.mk ((2 ^ (i + 1) : Nat) : Int) (by rw [e]; exact wrap_u64_id ⟨Int.natCast_nonneg _, by omega⟩) ?_
    refine ArithOb.mk _ (next_wr (i := i) (by omega)) ?_
    exact ⟨i + 1, ⟨hlt, by omega⟩, .refl, .cons .refl (.cons .refl (.cons .refl .nil)), .nil⟩
  · have : i = n := by simp at h; omega
    subst this
    exact ⟨_, _, .refl, rfl, rfl, rfl⟩

/-- Is a byte in a set of four words? -/
def hasR (ws : List Int) (n : Nat) : Bool := (ws.getD (n / 64) 0).toNat.testBit (n % 64)
theorem hasR_eq {w : Int} (hw : u64ok w) (k : Nat) : decide ((w.tdiv ((2 ^ k : Nat) : Int)).tmod 2 = 1) = w.toNat.testBit k := by
  obtain ⟨n, rfl⟩ := Int.eq_ofNat_of_zero_le hw.1
  rw [Nat.testBit_eq_decide_div_mod_eq]
  have e : ((n : Int).tdiv ((2 ^ k : Nat) : Int)).tmod 2 = ((n / 2 ^ k % 2 : Nat) : Int) := rfl
  rw [e, Int.toNat_natCast]
  congr 1
  simp only [eq_iff_iff]
  omega

set_option maxHeartbeats 1000000 in
theorem RHas_spec {I : GH} {a b c d : Int} (hws : ∀ x ∈ [a, b, c, d], u64ok x) (x : UInt8) : Spec Tryz.prog 130 [.agg #[.int .u64 a, .int .u64 b, .int .u64 c, .int .u64 d], .int .u8 x.toNat] I [] fun v I' M' => v = .bool (hasR [a, b, c, d] x.toNat) ∧ I' = I ∧ M' = [] := by
  have hx := x.toNat_lt
  have key : ∀ (w : Int) (j : Nat), x.toNat / 64 = j → [a, b, c, d].getD j 0 = w → u64ok w → decide ((w.tdiv ((2 ^ (x.toNat % 64) : Nat) : Int)).tmod 2 = 1) = hasR [a, b, c, d] x.toNat := fun w j hj hw hu => by
    rw [hasR_eq hu, hasR, hj, hw]
  have hpw := RPower_spec (I := I) (x.toNat % 64) (by omega)
  have hp0 : (0 : Int) < ((2 ^ (x.toNat % 64) : Nat) : Int) := by have := Nat.two_pow_pos (x.toNat % 64); omega
  have em : ((x.toNat : Int)).tmod 64 = ((x.toNat % 64 : Nat) : Int) := rfl
  have ed : ((x.toNat : Int)).tdiv 64 = ((x.toNat / 64 : Nat) : Int) := rfl
  have hdiv : ∀ w : Int, u64ok w → IntKind.u64.wrap (w.tdiv ((2 ^ (x.toNat % 64) : Nat) : Int)) = w.tdiv ((2 ^ (x.toNat % 64) : Nat) : Int) := fun w hw => by
    obtain ⟨n, rfl⟩ := Int.eq_ofNat_of_zero_le hw.1
    have e : (n : Int).tdiv ((2 ^ (x.toNat % 64) : Nat) : Int) = ((n / 2 ^ (x.toNat % 64) : Nat) : Int) := rfl
    rw [e]
    have h1 := Nat.div_le_self n (2 ^ (x.toNat % 64))
    have h2 := hw.2
    generalize n / 2 ^ (x.toNat % 64) = q at *
    exact wrap_u64_id ⟨by omega, by omega⟩
  refine spec_of_V [] TryzEOK Tryz.func130 rfl rfl rfl ?_
  intro B h0
  refine CodeOb.draw TryzEOK rfl rfl rfl ?_
  refine ArithOb.mk (x.toNat : Int) (wrap_i64 ⟨by omega, by omega⟩) ?_
  refine DivOb.mk (by decide) ?_
  rcases (by omega : x.toNat / 64 = 0 ∨ x.toNat / 64 = 1 ∨ x.toNat / 64 = 2 ∨ x.toNat / 64 = 3) with hj | hj | hj | hj
  · refine ArithOb.mk 0 (by rw [ed, hj]; decide) ?_
    refine ArrOb.mk 0 rfl (by decide) ?_
    refine ArithOb.mk (x.toNat : Int) (wrap_i64 ⟨by omega, by omega⟩) ?_
    refine DivOb.mk (by decide) ?_
    refine PCallOb.mk _ hpw ?_
    rintro v J N - ⟨rfl, rfl, rfl⟩
    refine DivOb.mk (by omega) ?_
    refine ArithOb.mk _ (hdiv a (hws a (by simp))) ?_
    refine DivOb.mk (by decide) ?_
    exact ⟨_, _, .refl, congrArg Value.bool (key a 0 hj rfl (hws a (by simp))), rfl, rfl⟩
  · refine ArithOb.mk 1 (by rw [ed, hj]; decide) ?_
    refine ArrOb.mk 1 rfl (by decide) ?_
    refine ArithOb.mk (x.toNat : Int) (wrap_i64 ⟨by omega, by omega⟩) ?_
    refine DivOb.mk (by decide) ?_
    refine PCallOb.mk _ hpw ?_
    rintro v J N - ⟨rfl, rfl, rfl⟩
    refine DivOb.mk (by omega) ?_
    refine ArithOb.mk _ (hdiv b (hws b (by simp))) ?_
    refine DivOb.mk (by decide) ?_
    exact ⟨_, _, .refl, congrArg Value.bool (key b 1 hj rfl (hws b (by simp))), rfl, rfl⟩
  · refine ArithOb.mk 2 (by rw [ed, hj]; decide) ?_
    refine ArrOb.mk 2 rfl (by decide) ?_
    refine ArithOb.mk (x.toNat : Int) (wrap_i64 ⟨by omega, by omega⟩) ?_
    refine DivOb.mk (by decide) ?_
    refine PCallOb.mk _ hpw ?_
    rintro v J N - ⟨rfl, rfl, rfl⟩
    refine DivOb.mk (by omega) ?_
    refine ArithOb.mk _ (hdiv c (hws c (by simp))) ?_
    refine DivOb.mk (by decide) ?_
    exact ⟨_, _, .refl, congrArg Value.bool (key c 2 hj rfl (hws c (by simp))), rfl, rfl⟩
  · refine ArithOb.mk 3 (by rw [ed, hj]; decide) ?_
    refine ArrOb.mk 3 rfl (by decide) ?_
    refine ArithOb.mk (x.toNat : Int) (wrap_i64 ⟨by omega, by omega⟩) ?_
    refine DivOb.mk (by decide) ?_
    refine PCallOb.mk _ hpw ?_
    rintro v J N - ⟨rfl, rfl, rfl⟩
    refine DivOb.mk (by omega) ?_
    refine ArithOb.mk _ (hdiv d (hws d (by simp))) ?_
    refine DivOb.mk (by decide) ?_
    exact ⟨_, _, .refl, congrArg Value.bool (key d 3 hj rfl (hws d (by simp))), rfl, rfl⟩

/-! ### Runs -/
def endR (p : Nat → Bool) : Nat → Nat → Nat
  | 0, t => t
  | f + 1, t => bif p (t + 1) then endR p f (t + 1) else t
def startR (p : Nat → Bool) (i : Nat) : Bool := p i && (decide (i = 0) || !p (i - 1))
def runsR (p : Nat → Bool) (n : Nat) : List (UInt8 × UInt8) := ((List.range n).filter (startR p)).map fun i => (UInt8.ofNat i, UInt8.ofNat (endR p (255 - i) i))
theorem runsR_succ (p : Nat → Bool) (n : Nat) : runsR p (n + 1) = runsR p n ++ (bif startR p n then [(UInt8.ofNat n, UInt8.ofNat (endR p (255 - n) n))] else []) := by
  unfold runsR
  rw [List.range_succ, List.filter_append, List.map_append]
  cases h : startR p n <;> simp [h]
theorem runsR_len (p : Nat → Bool) (n : Nat) : (runsR p n).length ≤ n := by
  have := List.length_filter_le (startR p) (List.range n)
  simpa [runsR] using this
theorem app_okP {os : OS} {rs : List (UInt8 × UInt8)} {x : UInt8 × UInt8} (hos : os.ok 2 (pairV rs)) {g c : Nat} {cur : List Value} (h1 : cur.length = c * 2) (h2 : os.n + 1 ≤ c) (h3 : c ≤ maxLen) (h4 : cur.take ((os.n + 1) * 2) = pairV rs ++ pairC x) :
    OS.ok ⟨some g, os.n + 1, c, cur⟩ 2 (pairV (rs ++ [x])) := by
  have hpx : pairV (rs ++ [x]) = pairV rs ++ pairC x := by simp [pairV]
  have hl := hos.len
  refine ⟨?_, (fun h => by cases h), fun g3 hg3 => ⟨h1, h2, h3, by rw [hpx]; exact h4⟩⟩
  rw [hpx, List.length_append, hl]
  simp [pairC]
  omega
theorem u8nat {n : Nat} (h : n < 256) : (UInt8.ofNat n).toNat = n := by
  rw [UInt8.toNat_ofNat']
  omega
theorem u8wr {n : Nat} (h : n < 256) : IntKind.u8.wrap (n : Int) = ((UInt8.ofNat n).toNat : Int) := by
  rw [u8nat h]
  simp [IntKind.wrap, IntKind.signed, IntKind.bits]
  omega
theorem RHas_n {I : GH} {a b c d : Int} (hws : ∀ x ∈ [a, b, c, d], u64ok x) {n : Nat} (hn : n < 256) : Spec Tryz.prog 130 [.agg #[.int .u64 a, .int .u64 b, .int .u64 c, .int .u64 d], .int .u8 (UInt8.ofNat n).toNat] I [] fun v I' M' => v = .bool (hasR [a, b, c, d] n) ∧ I' = I ∧ M' = [] := by
  have h := RHas_spec (I := I) hws (UInt8.ofNat n)
  rwa [show hasR [a, b, c, d] (UInt8.ofNat n).toNat = hasR [a, b, c, d] n from by rw [u8nat hn]] at h

set_option maxHeartbeats 4000000 in
theorem RRuns_spec {I : GH} {a b c d : Int} (hws : ∀ x ∈ [a, b, c, d], u64ok x) : Spec Tryz.prog 124 [.agg #[.int .u64 a, .int .u64 b, .int .u64 c, .int .u64 d]] I [] fun v I' M' => I' = I ∧ ∃ os : OS, v = os.val ∧ os.ok 2 (pairV (runsR (hasR [a, b, c, d]) 256)) ∧ M' = os.blk 150 := by
  refine spec_of_V [] TryzEOK Tryz.func124 rfl rfl rfl ?_
  intro B h0
  generalize hp : hasR [a, b, c, d] = p
  have hH : ∀ {n : Nat}, n < 256 → Spec Tryz.prog 130 [.agg #[.int .u64 a, .int .u64 b, .int .u64 c, .int .u64 d], .int .u8 (UInt8.ofNat n).toNat] I [] fun v I' M' => v = .bool (p n) ∧ I' = I ∧ M' = [] := fun hn => by
    rw [← hp]
    exact RHas_n hws hn
  refine LoopOb.inv (ι := Nat × OS) (fun x => { fl := [(1, .ref 1 0), (3, .val x.2.val), (4, .val (.int .i64 x.1))], cl := [(1, setV a b c d)], gi := I, mi := x.2.blk 150 }) (fun x => x.1 ≤ 256 ∧ x.2.ok 2 (pairV (runsR p x.1))) (fun x => 256 - x.1) ?_ ?_
  · exact ⟨(0, OS0), ⟨by simp, OS0_ok 2⟩, .refl, .cons .refl (.cons .refl (.cons .refl .nil)), .cons rfl .nil⟩
  rintro ⟨n, os⟩ ⟨hn, hos⟩
  simp only at hn hos
  have hol : os.n ≤ 256 := by
    have h1 := hos.len
    have h2 := runsR_len p n
    rw [pairV_len] at h1
    omega
  have hsu := runsR_succ p n
  refine CondOb.mk (fun h => ?_) (fun h => ?_)
  · have hlt : n < 256 := by simp at h; omega
    refine ArithOb.mk _ (u8wr hlt) ?_
    refine CallOb.mk [] (os.blk 150) _ (.refl _) (hH hlt) ?_
    rintro v J N - ⟨rfl, hJ, rfl⟩
    subst J
    refine GuardOb.mk (fun h1 => ?_) (fun h1 => ?_)
    · have hpn : p n = true := by simpa using h1
      refine GuardOb.mk (fun h2 => ?_) (fun h2 => ?_)
      · have hpos : 0 < n := by simpa using h2
        refine ArithOb.mk ((n - 1 : Nat) : Int) (by rw [wrap_i64 ⟨by omega, by omega⟩]; omega) ?_
        refine ArithOb.mk _ (u8wr (n := n - 1) (by omega)) ?_
        refine CallOb.mk [] (os.blk 150) _ (.refl _) (hH (n := n - 1) (by omega)) ?_
        rintro v J N - ⟨rfl, hJ, rfl⟩
        subst J
        refine CondOb.mk (fun h3 => ?_) (fun h3 => ?_)
        · refine ArithOb.mk _ (next_wr (i := n) (by omega)) ?_
          refine ⟨(n + 1, os), ⟨⟨by simp only; omega, ?_⟩, by simp only; omega⟩, .refl, .cons .refl (.cons .refl (.cons .refl .nil)), .cons rfl .nil⟩
          simp only
          have hst : startR p n = false := by
            have e : decide (n = 0) = false := by simp; omega
            rw [startR, hpn, h3, e]
            rfl
          rw [hsu, hst, cond_false, List.append_nil]
          exact hos
        have hst : startR p n = true := by rw [startR, hpn, h3]; simp
        refine LoopOb.inv (ι := Nat) (fun t => { fl := [(1, .ref 1 0), (3, .val os.val), (4, .val (.int .i64 n)), (5, .val (.int .i64 t))], cl := [(1, setV a b c d)], gi := I, mi := os.blk 150 }) (fun t => n ≤ t ∧ t ≤ 255 ∧ endR p (255 - n) n = endR p (255 - t) t) (fun t => 255 - t) ?_ ?_
        · exact ⟨n, ⟨Nat.le_refl _, by omega, rfl⟩, .refl, .cons .refl (.cons .refl (.cons .refl (.cons .refl .nil))), .cons rfl .nil⟩
        intro t ⟨ht1, ht2, ht3⟩
        refine GuardOb.mk (fun h4 => ?_) (fun h4 => ?_)
        · have hlt4 : t < 255 := by simp at h4; omega
          have hstep : endR p (255 - t) t = bif p (t + 1) then endR p (255 - (t + 1)) (t + 1) else t := by
            rw [show 255 - t = (255 - (t + 1)) + 1 from by omega, endR]
          refine ArithOb.mk _ (next_wr (i := t) (by omega)) ?_
          refine ArithOb.mk _ (u8wr (n := t + 1) (by omega)) ?_
          refine CallOb.mk [] (os.blk 150) _ (.refl _) (hH (n := t + 1) (by omega)) ?_
          rintro v J N - ⟨rfl, hJ, rfl⟩
          subst J
          refine CondOb.mk (fun h5 => ?_) (fun h5 => ?_)
          · refine ArithOb.mk _ (next_wr (i := t) (by omega)) ?_
            exact ⟨t + 1, ⟨⟨by omega, by omega, by rw [ht3, hstep, h5, cond_true]⟩, by omega⟩, .refl, .cons .refl (.cons .refl (.cons .refl (.cons .refl .nil))), .cons rfl .nil⟩
          · have hend : endR p (255 - n) n = t := by rw [ht3, hstep, h5, cond_false]
            refine ArithOb.mk _ (u8wr (n := n) (by omega)) ?_
            refine ArithOb.mk _ (u8wr (n := t) (by omega)) ?_
            refine AllocOb.mk fun b9 hb9 hbM9 => ?_
            refine OtherOb.appendN TryzEOK rfl (by simp) (e := 150) rfl rfl rfl os hos rfl (m := 1) rfl (news := pairC (UInt8.ofNat n, UInt8.ofNat t)) (by decide) (blk_rd (b := b9) (cs := pairC (UInt8.ofNat n, UInt8.ofNat t)) (k := 0) (n := 2) (T := 150) (.head _) (Nat.le_refl 2)) rfl (Mr := [⟨b9, .cells (pairC (UInt8.ofNat n, UInt8.ofNat t)).toArray 150 (0, 0)⟩]) (List.perm_append_comm (l₁ := [_])) (by simp only [maxLen]; omega) (by show (os.n + 1) * 2 ≤ _; omega) ?_
            intro g' c' cur' q0 q1 q2 q3 q4
            refine ArithOb.mk _ (next_wr (i := n) (by omega)) ?_
            refine ⟨(n + 1, ⟨some g', os.n + 1, c', cur'⟩), ⟨⟨by simp only; omega, ?_⟩, by simp only; omega⟩, .sub (List.Sublist.cons_cons _ (List.nil_sublist _)) .refl, .cons .refl (.cons .refl (.cons .refl .nil)), .cons rfl .nil⟩
            simp only
            rw [hsu, hst, cond_true, hend]
            exact app_okP hos q1 q2 q3 q4
        · have ht5 : t = 255 := by simp at h4; omega
          have hend : endR p (255 - n) n = t := by
            rw [ht3, ht5]
            rfl
          refine ArithOb.mk _ (u8wr (n := n) (by omega)) ?_
          refine ArithOb.mk _ (u8wr (n := t) (by omega)) ?_
          refine AllocOb.mk fun b9 hb9 hbM9 => ?_
          refine OtherOb.appendN TryzEOK rfl (by simp) (e := 150) rfl rfl rfl os hos rfl (m := 1) rfl (news := pairC (UInt8.ofNat n, UInt8.ofNat t)) (by decide) (blk_rd (b := b9) (cs := pairC (UInt8.ofNat n, UInt8.ofNat t)) (k := 0) (n := 2) (T := 150) (.head _) (Nat.le_refl 2)) rfl (Mr := [⟨b9, .cells (pairC (UInt8.ofNat n, UInt8.ofNat t)).toArray 150 (0, 0)⟩]) (List.perm_append_comm (l₁ := [_])) (by simp only [maxLen]; omega) (by show (os.n + 1) * 2 ≤ _; omega) ?_
          intro g' c' cur' q0 q1 q2 q3 q4
          refine ArithOb.mk _ (next_wr (i := n) (by omega)) ?_
          refine ⟨(n + 1, ⟨some g', os.n + 1, c', cur'⟩), ⟨⟨by simp only; omega, ?_⟩, by simp only; omega⟩, .sub (List.Sublist.cons_cons _ (List.nil_sublist _)) .refl, .cons .refl (.cons .refl (.cons .refl .nil)), .cons rfl .nil⟩
          simp only
          rw [hsu, hst, cond_true, hend]
          exact app_okP hos q1 q2 q3 q4
      · have hst : startR p n = true := by
          have e : n = 0 := by simp at h2; omega
          rw [startR, hpn, e]
          rfl
        refine LoopOb.inv (ι := Nat) (fun t => { fl := [(1, .ref 1 0), (3, .val os.val), (4, .val (.int .i64 n)), (5, .val (.int .i64 t))], cl := [(1, setV a b c d)], gi := I, mi := os.blk 150 }) (fun t => n ≤ t ∧ t ≤ 255 ∧ endR p (255 - n) n = endR p (255 - t) t) (fun t => 255 - t) ?_ ?_
        · exact ⟨n, ⟨Nat.le_refl _, by omega, rfl⟩, .refl, .cons .refl (.cons .refl (.cons .refl (.cons .refl .nil))), .cons rfl .nil⟩
        intro t ⟨ht1, ht2, ht3⟩
        refine GuardOb.mk (fun h4 => ?_) (fun h4 => ?_)
        · have hlt4 : t < 255 := by simp at h4; omega
          have hstep : endR p (255 - t) t = bif p (t + 1) then endR p (255 - (t + 1)) (t + 1) else t := by
            rw [show 255 - t = (255 - (t + 1)) + 1 from by omega, endR]
          refine ArithOb.mk _ (next_wr (i := t) (by omega)) ?_
          refine ArithOb.mk _ (u8wr (n := t + 1) (by omega)) ?_
          refine CallOb.mk [] (os.blk 150) _ (.refl _) (hH (n := t + 1) (by omega)) ?_
          rintro v J N - ⟨rfl, hJ, rfl⟩
          subst J
          refine CondOb.mk (fun h5 => ?_) (fun h5 => ?_)
          · refine ArithOb.mk _ (next_wr (i := t) (by omega)) ?_
            exact ⟨t + 1, ⟨⟨by omega, by omega, by rw [ht3, hstep, h5, cond_true]⟩, by omega⟩, .refl, .cons .refl (.cons .refl (.cons .refl (.cons .refl .nil))), .cons rfl .nil⟩
          · have hend : endR p (255 - n) n = t := by rw [ht3, hstep, h5, cond_false]
            refine ArithOb.mk _ (u8wr (n := n) (by omega)) ?_
            refine ArithOb.mk _ (u8wr (n := t) (by omega)) ?_
            refine AllocOb.mk fun b9 hb9 hbM9 => ?_
            refine OtherOb.appendN TryzEOK rfl (by simp) (e := 150) rfl rfl rfl os hos rfl (m := 1) rfl (news := pairC (UInt8.ofNat n, UInt8.ofNat t)) (by decide) (blk_rd (b := b9) (cs := pairC (UInt8.ofNat n, UInt8.ofNat t)) (k := 0) (n := 2) (T := 150) (.head _) (Nat.le_refl 2)) rfl (Mr := [⟨b9, .cells (pairC (UInt8.ofNat n, UInt8.ofNat t)).toArray 150 (0, 0)⟩]) (List.perm_append_comm (l₁ := [_])) (by simp only [maxLen]; omega) (by show (os.n + 1) * 2 ≤ _; omega) ?_
            intro g' c' cur' q0 q1 q2 q3 q4
            refine ArithOb.mk _ (next_wr (i := n) (by omega)) ?_
            refine ⟨(n + 1, ⟨some g', os.n + 1, c', cur'⟩), ⟨⟨by simp only; omega, ?_⟩, by simp only; omega⟩, .sub (List.Sublist.cons_cons _ (List.nil_sublist _)) .refl, .cons .refl (.cons .refl (.cons .refl .nil)), .cons rfl .nil⟩
            simp only
            rw [hsu, hst, cond_true, hend]
            exact app_okP hos q1 q2 q3 q4
        · have ht5 : t = 255 := by simp at h4; omega
          have hend : endR p (255 - n) n = t := by
            rw [ht3, ht5]
            rfl
          refine ArithOb.mk _ (u8wr (n := n) (by omega)) ?_
          refine ArithOb.mk _ (u8wr (n := t) (by omega)) ?_
          refine AllocOb.mk fun b9 hb9 hbM9 => ?_
          refine OtherOb.appendN TryzEOK rfl (by simp) (e := 150) rfl rfl rfl os hos rfl (m := 1) rfl (news := pairC (UInt8.ofNat n, UInt8.ofNat t)) (by decide) (blk_rd (b := b9) (cs := pairC (UInt8.ofNat n, UInt8.ofNat t)) (k := 0) (n := 2) (T := 150) (.head _) (Nat.le_refl 2)) rfl (Mr := [⟨b9, .cells (pairC (UInt8.ofNat n, UInt8.ofNat t)).toArray 150 (0, 0)⟩]) (List.perm_append_comm (l₁ := [_])) (by simp only [maxLen]; omega) (by show (os.n + 1) * 2 ≤ _; omega) ?_
          intro g' c' cur' q0 q1 q2 q3 q4
          refine ArithOb.mk _ (next_wr (i := n) (by omega)) ?_
          refine ⟨(n + 1, ⟨some g', os.n + 1, c', cur'⟩), ⟨⟨by simp only; omega, ?_⟩, by simp only; omega⟩, .sub (List.Sublist.cons_cons _ (List.nil_sublist _)) .refl, .cons .refl (.cons .refl (.cons .refl .nil)), .cons rfl .nil⟩
          simp only
          rw [hsu, hst, cond_true, hend]
          exact app_okP hos q1 q2 q3 q4
    · have hpn : p n = false := by simpa using h1
      refine ArithOb.mk _ (next_wr (i := n) (by omega)) ?_
      refine ⟨(n + 1, os), ⟨⟨by simp only; omega, ?_⟩, by simp only; omega⟩, .refl, .cons .refl (.cons .refl (.cons .refl .nil)), .cons rfl .nil⟩
      simp only
      rw [hsu, startR, hpn, Bool.false_and, cond_false, List.append_nil]
      exact hos
  · have : n = 256 := by simp at h; omega
    subst this
    exact ⟨_, _, .refl, rfl, os, rfl, hos, rfl⟩
end Go.V

/-
  Walks: bonsairef02.Show, bonsairef03.digit, within, Sign, Literal.
-/
set_option linter.unusedVariables false
set_option linter.unusedSimpArgs false
namespace Go.V
open Go Go.Proofs

theorem hex_one : ∀ n : Fin 16, (hexL.extract n.val (n.val + 1)).data.toList = [hexd n.val] := by decide +kernel
theorem Rhex_spec {I : GH} (n : Nat) (hn : n < 16) : Spec Tryz.prog 131 [.int .i64 n] I [] fun v I' M' => v = .string (strOf [hexd n]) ∧ I' = I ∧ M' = [] := by
  refine spec_of_V [] TryzEOK Tryz.func131 rfl rfl rfl ?_
  intro B h0
  refine ArithOb.mk ((n + 1 : Nat) : Int) (by rw [wrap_i64 ⟨by omega, by omega⟩]; omega) ?_
  refine SliceOb.mk n (n + 1) rfl rfl (by omega) (by show _ ≤ 16; omega) ?_
  refine ⟨_, _, .refl, ?_, rfl, rfl⟩
  have : hexL.extract n (n + 1) = strOf [hexd n] := bytes_eq (hex_one ⟨n, hn⟩)
  rw [← this]
  rfl

/-! ### within -/
def inB (c : UInt8) (s : ByteArray) : Bool := s.data.toList.any fun x => decide (x.toNat = c.toNat)
theorem Rwithin_spec {I : GH} (c : UInt8) (s : ByteArray) (hs : s.size ≤ 140737488355328) : Spec Tryz.prog 132 [.int .u8 c.toNat, .string s] I [] fun v I' M' => v = .bool (inB c s) ∧ I' = I ∧ M' = [] := by
  refine spec_of_V [] TryzEOK Tryz.func132 rfl rfl rfl ?_
  intro B h0
  have hsl : s.data.toList.length = s.size := rfl
  refine LoopOb.inv (ι := Nat) (fun i => { fl := [(0, .val (.int .u8 c.toNat)), (1, .val (.string s)), (5, .val (.int .i64 i))], gi := I }) (fun i => i ≤ s.size ∧ inB c s = (s.data.toList.drop i).any fun x => decide (x.toNat = c.toNat)) (fun i => s.size - i) ?_ ?_
  · exact ⟨0, ⟨Nat.zero_le _, rfl⟩, .refl, .cons .refl (.cons .refl (.cons .refl .nil)), .nil⟩
  intro i ⟨hi, hin⟩
  refine CondOb.mk (fun h => ?_) (fun h => ?_)
  · have hlt : i < s.size := by simpa using h
    rw [List.drop_eq_getElem_cons (show i < s.data.toList.length from hlt), List.any_cons] at hin
    have hel : s.data.toList[i]'hlt = s[i] := rfl
    rw [hel] at hin
    refine StrOb.mk i rfl hlt ?_
    refine CondOb.mk (fun h2 => ?_) (fun h2 => ?_)
    · have e : decide (s[i].toNat = c.toNat) = true := by simp at h2 ⊢; omega
      rw [e, Bool.true_or] at hin
      exact ⟨_, _, .refl, congrArg Value.bool hin.symm, rfl, rfl⟩
    · have e : decide (s[i].toNat = c.toNat) = false := by simp at h2 ⊢; omega
      rw [e, Bool.false_or] at hin
      refine ArithOb.mk _ (next_wr (i := i) (by omega)) ?_
      exact ⟨i + 1, ⟨⟨by omega, hin⟩, by omega⟩, .refl, .cons .refl (.cons .refl (.cons .refl .nil)), .nil⟩
  · have : i = s.size := by simp at h; omega
    subst this
    rw [List.drop_of_length_le (by omega)] at hin
    exact ⟨_, _, .refl, congrArg Value.bool hin.symm, rfl, rfl⟩

/-! ### Sign -/
def signB (c : UInt8) (sp : ByteArray) : List UInt8 :=
  bif decide ((c.toNat : Int) = 10) then [92, 110] else
  bif decide ((c.toNat : Int) = 13) then [92, 114] else
  bif decide ((c.toNat : Int) = 9) then [92, 116] else
  bif decide ((c.toNat : Int) < 32) || decide (126 < (c.toNat : Int)) then [92, 120, hexd (c.toNat / 16), hexd (c.toNat % 16)] else
  bif inB c sp then [92, c] else [c]
theorem signB_len (c : UInt8) (sp : ByteArray) : (signB c sp).length ≤ 4 := by
  unfold signB
  cases decide ((c.toNat : Int) = 10) <;> cases decide ((c.toNat : Int) = 13) <;> cases decide ((c.toNat : Int) = 9) <;> cases (decide ((c.toNat : Int) < 32) || decide (126 < (c.toNat : Int))) <;> cases inB c sp <;> simp
theorem RSign_spec {I : GH} (c : UInt8) (sp : ByteArray) (hs : sp.size ≤ 140737488355328) : Spec Tryz.prog 125 [.int .u8 c.toNat, .string sp] I [] fun v I' M' => v = .string (strOf (signB c sp)) ∧ I' = I ∧ M' = [] := by
  refine spec_of_V [] TryzEOK Tryz.func125 rfl rfl rfl ?_
  intro B h0
  have hc := c.toNat_lt
  refine CondOb.mk (fun h1 => ?_) (fun h1 => ?_)
  · exact ⟨_, _, .refl, by rw [signB, h1]; rfl, rfl, rfl⟩
  refine CondOb.mk (fun h2 => ?_) (fun h2 => ?_)
  · exact ⟨_, _, .refl, by rw [signB, h1, h2]; rfl, rfl, rfl⟩
  refine CondOb.mk (fun h3 => ?_) (fun h3 => ?_)
  · exact ⟨_, _, .refl, by rw [signB, h1, h2, h3]; rfl, rfl, rfl⟩
  have hexp : (decide ((c.toNat : Int) < 32) || decide (126 < (c.toNat : Int))) = true → signB c sp = [92, 120, hexd (c.toNat / 16), hexd (c.toNat % 16)] := fun h => by
    rw [signB, h1, h2, h3, h]
    rfl
  have hexn : (decide ((c.toNat : Int) < 32) || decide (126 < (c.toNat : Int))) = false → signB c sp = bif inB c sp then [92, c] else [c] := fun h => by
    rw [signB, h1, h2, h3, h]
    rfl
  refine GuardOb.mk (fun h4 => ?_) (fun h4 => ?_)
  · refine CondOb.mk (fun h5 => ?_) (fun h5 => ?_)
    · have hq : (decide ((c.toNat : Int) < 32) || decide (126 < (c.toNat : Int))) = true := by rw [h4, h5]; rfl
      refine ArithOb.mk (c.toNat : Int) (wrap_i64 ⟨by omega, by omega⟩) ?_
      refine DivOb.mk (by decide) ?_
      refine ArithOb.mk ((c.toNat / 16 : Nat) : Int) (wrap_i64 (x := ((c.toNat / 16 : Nat) : Int)) ⟨by omega, by omega⟩) ?_
      refine CallOb.mk [] [] _ (.refl _) (Rhex_spec (c.toNat / 16) (by omega)) ?_
      rintro v J N - ⟨rfl, hJ, rfl⟩
      subst J
      refine BinOb.concatL (a := [92, 120]) (by simp) ?_
      refine ArithOb.mk (c.toNat : Int) (wrap_i64 ⟨by omega, by omega⟩) ?_
      refine DivOb.mk (by decide) ?_
      refine CallOb.mk [] [] _ (.refl _) (Rhex_spec (c.toNat % 16) (by omega)) ?_
      rintro v J N - ⟨rfl, hJ, rfl⟩
      subst J
      refine BinOb.concatL (a := [92, 120, hexd (c.toNat / 16)]) (by simp) ?_
      exact ⟨_, _, .refl, by rw [hexp hq]; rfl, rfl, rfl⟩
    have hq : (decide ((c.toNat : Int) < 32) || decide (126 < (c.toNat : Int))) = false := by rw [h4, h5]; rfl
    refine CallOb.mk [] [] _ (.refl _) (Rwithin_spec c sp hs) ?_
    rintro v J N - ⟨rfl, hJ, rfl⟩
    subst J
    refine CondOb.mk (fun h6 => ?_) (fun h6 => ?_)
    · refine AllocOb.mk fun b hb hbM => ?_
      refine OtherOb.bytesS TryzEOK rfl (by simp) rfl rfl rfl rfl rfl rfl (ad := ⟨b, 0, none⟩) (n := 1) (l := [c]) rfl rfl (blk_rd (b := b) (cs := [.int .u8 c.toNat]) (k := 0) (n := 1) (T := 5) (.head _) (by simp)) ?_
      refine BinOb.concatL (a := [92]) (b := [c]) (by simp) ?_
      exact ⟨_, _, .sub (List.nil_sublist _) .refl, by rw [hexn hq, h6]; rfl, rfl, rfl⟩
    · refine AllocOb.mk fun b hb hbM => ?_
      refine OtherOb.bytesS TryzEOK rfl (by simp) rfl rfl rfl rfl rfl rfl (ad := ⟨b, 0, none⟩) (n := 1) (l := [c]) rfl rfl (blk_rd (b := b) (cs := [.int .u8 c.toNat]) (k := 0) (n := 1) (T := 5) (.head _) (by simp)) ?_
      exact ⟨_, _, .sub (List.nil_sublist _) .refl, by rw [hexn hq, h6]; rfl, rfl, rfl⟩
  · have hq : (decide ((c.toNat : Int) < 32) || decide (126 < (c.toNat : Int))) = true := by simp at h4; simp [h4]
    refine ArithOb.mk (c.toNat : Int) (wrap_i64 ⟨by omega, by omega⟩) ?_
    refine DivOb.mk (by decide) ?_
    refine ArithOb.mk ((c.toNat / 16 : Nat) : Int) (wrap_i64 (x := ((c.toNat / 16 : Nat) : Int)) ⟨by omega, by omega⟩) ?_
    refine CallOb.mk [] [] _ (.refl _) (Rhex_spec (c.toNat / 16) (by omega)) ?_
    rintro v J N - ⟨rfl, hJ, rfl⟩
    subst J
    refine BinOb.concatL (a := [92, 120]) (by simp) ?_
    refine ArithOb.mk (c.toNat : Int) (wrap_i64 ⟨by omega, by omega⟩) ?_
    refine DivOb.mk (by decide) ?_
    refine CallOb.mk [] [] _ (.refl _) (Rhex_spec (c.toNat % 16) (by omega)) ?_
    rintro v J N - ⟨rfl, hJ, rfl⟩
    subst J
    refine BinOb.concatL (a := [92, 120, hexd (c.toNat / 16)]) (by simp) ?_
    exact ⟨_, _, .refl, by rw [hexp hq]; rfl, rfl, rfl⟩
end Go.V

/-
  Walks: bonsairef02.Show, bonsairef03.Literal, Class.
-/
set_option linter.unusedVariables false
set_option linter.unusedSimpArgs false
namespace Go.V
open Go Go.Proofs

def quoR : ByteArray := ⟨#[34, 92]⟩
def clsR : ByteArray := ⟨#[93, 45, 94, 92]⟩
theorem sign_put (c : UInt8) : signB c quoR = putB c quoL ∧ signB c clsR = putB c clsL := by
  have h : ∀ n : Fin 256, signB (UInt8.ofNat n.val) quoR = putB (UInt8.ofNat n.val) quoL ∧ signB (UInt8.ofNat n.val) clsR = putB (UInt8.ofNat n.val) clsL := by decide +kernel
  have := h ⟨c.toNat, c.toNat_lt⟩
  simpa using this

theorem RLiteral_spec {I : GH} (s : ByteArray) (hs : s.size ≤ 1099511627776) : Spec Tryz.prog 117 [.string s] I [] fun r I' M' => r = .string (strOf (litB s)) ∧ I' = I ∧ M' = [] := by
  refine spec_of_V [] TryzEOK Tryz.func117 rfl rfl rfl ?_
  intro B h0
  have hfl : ∀ i, ((s.data.toList.take i).flatMap (putB · quoL)).length ≤ 4 * i := fun i => by
    have := flat_le (putB · quoL) 4 (fun c => putB_len c quoL) (s.data.toList.take i)
    have h2 := List.length_take_le i s.data.toList
    omega
  refine LoopOb.inv (ι := Nat) (fun i => { fl := [(0, .val (.string s)), (3, .val (.string (strOf ((s.data.toList.take i).flatMap (putB · quoL))))), (4, .val (.int .i64 i))], gi := I }) (fun i => i ≤ s.size) (fun i => s.size - i) ?_ ?_
  · exact ⟨0, Nat.zero_le _, .refl, .cons .refl (.cons .refl (.cons .refl .nil)), .nil⟩
  intro i hi
  have hli := hfl i
  refine CondOb.mk (fun h => ?_) (fun h => ?_)
  · have hlt : i < s.size := by simpa using h
    have hlt' : i < s.data.toList.length := hlt
    refine StrOb.mk i rfl hlt ?_
    have hsg := RSign_spec (I := I) s[i] quoR (by decide)
    rw [(sign_put s[i]).1] at hsg
    refine CallOb.mk [] [] _ (.refl _) hsg ?_
    rintro v J N - ⟨rfl, hJ, rfl⟩
    subst J
    have hpl := putB_len s[i] quoL
    refine BinOb.concatL (by omega) ?_
    refine ArithOb.mk _ (next_wr (i := i) (by omega)) ?_
    have e : (s.data.toList.take (i + 1)).flatMap (putB · quoL) = (s.data.toList.take i).flatMap (putB · quoL) ++ putB s[i] quoL := by
      rw [List.take_succ_eq_append_getElem hlt', List.flatMap_append]
      simp
      rfl
    refine ⟨i + 1, ⟨hlt, by omega⟩, .refl, .cons .refl (.cons ?_ (.cons .refl .nil)), .nil⟩
    rw [e]
    exact .refl
  · have : i = s.size := by simp at h; omega
    subst this
    have e : s.data.toList.take s.size = s.data.toList := List.take_of_length_le (Nat.le_refl _)
    refine BinOb.concatL (a := [34]) (by simp only [List.length_cons, List.length_nil]; omega) ?_
    refine BinOb.concatL (b := [34]) (by simp only [List.length_append, List.length_cons, List.length_nil]; omega) ?_
    exact ⟨_, _, .refl, by rw [litB, e], rfl, rfl⟩

/-! ### Show -/
theorem RShow_spec {I : GH} (n : Nat) (hn : n < 100) : Spec Tryz.prog 126 [.int .i64 n] I [] fun r I' M' => r = .string (digS n) ∧ I' = I ∧ M' = [] := by
  refine spec_of_V [] TryzEOK Tryz.func126 rfl rfl rfl ?_
  intro B h0
  refine ArithOb.mk (n : Int) (wrap_u64_id ⟨by omega, by omega⟩) ?_
  refine CondOb.mk (fun h => by simp at h; omega) (fun _ => ?_)
  refine LoopOb.inv (ι := Bool) (fun x => { fl := [(3, .val (.int .u64 ((bif x then n / 10 else n : Nat) : Int))), (4, .val (.string (strOf []))), (5, .val (.string (strOf (bif x then [UInt8.ofNat (48 + n % 10)] else []))))], gi := I }) (fun x => x = true → 10 ≤ n) (fun x => bif x then 0 else 1) ?_ ?_
  · exact ⟨false, (fun h => by cases h), .refl, .cons .refl (.cons .refl (.cons .refl .nil)), .nil⟩
  intro x hx
  cases x with
  | false =>
    refine CondOb.mk (fun h => ?_) (fun h => ?_)
    · have h9 : 10 ≤ n := by simp at h; omega
      refine DivOb.mk (by decide) ?_
      refine ArithOb.mk ((48 + n % 10 : Nat) : Int) (wrap_u64_id (x := ((48 + n % 10 : Nat) : Int)) ⟨by omega, by omega⟩) ?_
      refine ArithOb.mk _ (u8wr (n := 48 + n % 10) (by omega)) ?_
      refine AllocOb.mk fun b hb hbM => ?_
      refine OtherOb.bytesS TryzEOK rfl (by simp) rfl rfl rfl rfl rfl rfl (ad := ⟨b, 0, none⟩) (n := 1) (l := [UInt8.ofNat (48 + n % 10)]) rfl rfl (blk_rd (b := b) (cs := [.int .u8 (UInt8.ofNat (48 + n % 10)).toNat]) (k := 0) (n := 1) (T := 5) (.head _) (by simp)) ?_
      refine BinOb.concatL (a := [UInt8.ofNat (48 + n % 10)]) (b := []) (by simp) ?_
      refine DivOb.mk (by decide) ?_
      refine ArithOb.mk ((n / 10 : Nat) : Int) (wrap_u64_id (x := ((n / 10 : Nat) : Int)) ⟨by omega, by omega⟩) ?_
      exact ⟨true, ⟨fun _ => h9, by decide⟩, .sub (List.nil_sublist _) .refl, .cons .refl (.cons .refl (.cons .refl .nil)), .nil⟩
    · have h9 : n < 10 := by simp at h; omega
      refine ArithOb.mk ((48 + n : Nat) : Int) (wrap_u64_id (x := ((48 + n : Nat) : Int)) ⟨by omega, by omega⟩) ?_
      refine ArithOb.mk _ (u8wr (n := 48 + n) (by omega)) ?_
      refine AllocOb.mk fun b hb hbM => ?_
      refine OtherOb.bytesS TryzEOK rfl (by simp) rfl rfl rfl rfl rfl rfl (ad := ⟨b, 0, none⟩) (n := 1) (l := [UInt8.ofNat (48 + n)]) rfl rfl (blk_rd (b := b) (cs := [.int .u8 (UInt8.ofNat (48 + n)).toNat]) (k := 0) (n := 1) (T := 5) (.head _) (by simp)) ?_
      refine BinOb.concatL (a := []) (b := [UInt8.ofNat (48 + n)]) (by simp) ?_
      refine BinOb.concatL (a := [] ++ [UInt8.ofNat (48 + n)]) (b := []) (by simp) ?_
      have e : dig n = [UInt8.ofNat (48 + n)] := by
        have : Nat.blt n 10 = true := by simp [Nat.blt_eq]; omega
        rw [dig, this]
        rfl
      exact ⟨_, _, .sub (List.nil_sublist _) .refl, by rw [digS, e]; rfl, rfl, rfl⟩
  | true =>
    have h9 := hx rfl
    refine CondOb.mk (fun h => ?_) (fun h => ?_)
    · simp at h
      omega
    refine ArithOb.mk ((48 + n / 10 : Nat) : Int) (wrap_u64_id (x := ((48 + n / 10 : Nat) : Int)) ⟨by omega, by omega⟩) ?_
    refine ArithOb.mk _ (u8wr (n := 48 + n / 10) (by omega)) ?_
    refine AllocOb.mk fun b hb hbM => ?_
    refine OtherOb.bytesS TryzEOK rfl (by simp) rfl rfl rfl rfl rfl rfl (ad := ⟨b, 0, none⟩) (n := 1) (l := [UInt8.ofNat (48 + n / 10)]) rfl rfl (blk_rd (b := b) (cs := [.int .u8 (UInt8.ofNat (48 + n / 10)).toNat]) (k := 0) (n := 1) (T := 5) (.head _) (by simp)) ?_
    refine BinOb.concatL (a := []) (b := [UInt8.ofNat (48 + n / 10)]) (by simp) ?_
    refine BinOb.concatL (a := [] ++ [UInt8.ofNat (48 + n / 10)]) (b := [UInt8.ofNat (48 + n % 10)]) (by simp) ?_
    have e : dig n = [UInt8.ofNat (48 + n / 10), UInt8.ofNat (48 + n % 10)] := by
      have : Nat.blt n 10 = false := by
        rw [Bool.eq_false_iff]
        simp [Nat.blt_eq]
        omega
      rw [dig, this]
      rfl
    exact ⟨_, _, .sub (List.nil_sublist _) .refl, by rw [digS, e]; rfl, rfl, rfl⟩
end Go.V

/-
  Walk: bonsairef03.Class.
-/
set_option linter.unusedVariables false
set_option linter.unusedSimpArgs false
namespace Go.V
open Go Go.Proofs

def runR (p : UInt8 × UInt8) : List UInt8 := putB p.1 clsL ++ ((bif decide ((p.1.toNat : Int) + 1 < p.2.toNat) then [45] else []) ++ (bif decide ((p.1.toNat : Int) < p.2.toNat) then putB p.2 clsL else []))
def isAll (rs : List (UInt8 × UInt8)) : Bool := match rs with
  | [p] => ((p.1.toNat : Int) == 0) && ((p.2.toNat : Int) == 255)
  | _ => false
def classR (rs : List (UInt8 × UInt8)) : List UInt8 := bif isAll rs then [46] else [91] ++ rs.flatMap runR ++ [93]
theorem runR_len (p : UInt8 × UInt8) : (runR p).length ≤ 9 := by
  have h1 := putB_len p.1 clsL
  have h2 := putB_len p.2 clsL
  unfold runR
  cases decide ((p.1.toNat : Int) + 1 < p.2.toNat) <;> cases decide ((p.1.toNat : Int) < p.2.toNat) <;> simp <;> omega

set_option maxHeartbeats 2000000 in
theorem RClass_spec {I : GH} {a b c d : Int} (hws : ∀ x ∈ [a, b, c, d], u64ok x) : Spec Tryz.prog 116 [.agg #[.int .u64 a, .int .u64 b, .int .u64 c, .int .u64 d]] I []
    fun r I' M' => r = .string (strOf (classR (runsR (hasR [a, b, c, d]) 256))) ∧ I' = I ∧ M' = [] := by
  refine spec_of_V [] TryzEOK Tryz.func116 rfl rfl rfl ?_
  intro B h0
  refine CallOb.mk [] [] _ (.refl _) (RRuns_spec hws) ?_
  rintro v J N - ⟨hJ, os, rfl, hos, rfl⟩
  subst J
  have hrl := runsR_len (hasR [a, b, c, d]) 256
  generalize runsR (hasR [a, b, c, d]) 256 = rs at *
  have hn : rs.length = os.n := by
    have := hos.len
    rw [pairV_len] at this
    omega
  have main : isAll rs = false → classR rs = [91] ++ rs.flatMap runR ++ [93] := fun h => by rw [classR, h]; rfl
  have hfl : ∀ i, ((rs.take i).flatMap runR).length ≤ 9 * i := fun i => by
    have := flat_le runR 9 runR_len (rs.take i)
    have h2 := List.length_take_le i rs
    omega
  have row : ∀ {i : Nat} (hi : i < rs.length) (M : List Blk), (∀ y ∈ os.blk 150, y ∈ M) → ∃ ad, (os.a.map fun g => (⟨g, 0, none⟩ : Addr)) = some ad ∧ Rd I M (ad.add (i * 2)) 2 (pairC rs[i]) := fun {i} hi M hM => OS.ok.row (I := I) (M := M) (f := pairC) (fun _ => rfl) (by decide) hos (e := 150) hM hi
  refine GuardOb.mk (fun h1 => ?_) (fun h1 => ?_)
  · have hn1 : os.n = 1 := by simp at h1; omega
    obtain ⟨p, rfl⟩ : ∃ p, rs = [p] := by
      match rs, (show rs.length = 1 by omega) with
      | [p], _ => exact ⟨p, rfl⟩
    obtain ⟨ad, had, hrd⟩ := row (i := 0) (by simp) (os.blk 150 ++ []) (fun y hy => by simp [hy])
    refine IdxOb.mk ad 0 had rfl (by omega) ?_
    refine LoadOb.mk _ hrd ?_
    refine BinOb.eq2 TryzEOK (e := 5) rfl rfl rfl rfl (by kernel_rfl) ?_
    refine CondOb.mk (fun h2 => ?_) (fun h2 => ?_)
    · exact ⟨_, _, .sub (List.nil_sublist _) .refl, by rw [classR, show isAll [p] = true from h2]; rfl, rfl, rfl⟩
    · have hall : isAll [p] = false := h2
      have hm := main hall
      refine LoopOb.inv (ι := Nat × List UInt8) (fun x => { fl := [(3, .val os.val), (4, .val (.string (strOf x.2))), (5, .val (.int .i64 x.1))], gi := I, mi := os.blk 150 }) (fun x => x.1 ≤ os.n ∧ x.2 = ([p].take x.1).flatMap runR) (fun x => os.n - x.1) ?_ ?_
      · exact ⟨(0, []), ⟨Nat.zero_le _, rfl⟩, .perm (by simp) .refl, .cons .refl (.cons .refl (.cons .refl .nil)), .nil⟩
      rintro ⟨i, w⟩ ⟨hi, hw⟩
      simp only at hi hw
      have hli := hfl i
      rw [← hw] at hli
      refine CondOb.mk (fun h => ?_) (fun h => ?_)
      · have hlt : i < os.n := by simpa using h
        have hlt' : i < ([p] : List (UInt8 × UInt8)).length := by omega
        obtain ⟨ad, had, hrd⟩ := row (i := i) hlt' (os.blk 150) (fun y hy => hy)
        have etk : ([p].take (i + 1)).flatMap runR = ([p].take i).flatMap runR ++ runR ([p] : List (UInt8 × UInt8))[i] := by
          rw [List.take_succ_eq_append_getElem hlt', List.flatMap_append]
          simp
        generalize hq : ([p] : List (UInt8 × UInt8))[i] = q at hrd etk
        have hq1 := q.1.toNat_lt
        have hq2 := q.2.toNat_lt
        have hl1 := putB_len q.1 clsL
        have hl2 := putB_len q.2 clsL
        refine CodeOb.draw TryzEOK rfl rfl rfl ?_
        refine IdxOb.mk ad i had rfl hlt ?_
        refine ArrOb.mk 0 rfl (by decide) ?_
        refine LoadOb.mk _ (Rd.part (k := 0 * 1) (m := 1) hrd (by decide)) ?_
        refine ArithOb.mk (q.1.toNat : Int) (wrap_i64 ⟨by omega, by omega⟩) ?_
        refine IdxOb.mk ad i had rfl hlt ?_
        refine ArrOb.mk 1 rfl (by decide) ?_
        refine LoadOb.mk _ (Rd.part (k := 1 * 1) (m := 1) hrd (by decide)) ?_
        refine ArithOb.mk (q.2.toNat : Int) (wrap_i64 ⟨by omega, by omega⟩) ?_
        have hw1 : IntKind.u8.wrap (q.1.toNat : Int) = (q.1.toNat : Int) := by simp [IntKind.wrap, IntKind.signed, IntKind.bits]; omega
        have hw2 : IntKind.u8.wrap (q.2.toNat : Int) = (q.2.toNat : Int) := by simp [IntKind.wrap, IntKind.signed, IntKind.bits]; omega
        refine ArithOb.mk _ hw1 ?_
        have hs1 := RSign_spec (I := I) q.1 clsR (by decide)
        rw [(sign_put q.1).2] at hs1
        refine CallOb.mk [] (os.blk 150) _ (.refl _) hs1 ?_
        rintro v J N - ⟨rfl, hJ, rfl⟩
        subst J
        refine BinOb.concatL (a := w) (by omega) ?_
        refine ArithOb.mk ((q.1.toNat : Int) + 1) (wrap_i64 ⟨by omega, by omega⟩) ?_
        have hs2 := RSign_spec (I := I) q.2 clsR (by decide)
        rw [(sign_put q.2).2] at hs2
        refine CondOb.mk (fun k1 => ?_) (fun k1 => ?_)
        · refine BinOb.concatL (b := [45]) (by simp only [List.length_append, List.length_cons, List.length_nil]; omega) ?_
          refine CondOb.mk (fun k2 => ?_) (fun k2 => ?_)
          · refine ArithOb.mk _ hw2 ?_
            refine CallOb.mk [] (os.blk 150) _ (.refl _) hs2 ?_
            rintro v J N - ⟨rfl, hJ, rfl⟩
            subst J
            refine BinOb.concatL (by simp only [List.length_append, List.length_cons, List.length_nil]; omega) ?_
            refine ArithOb.mk _ (next_wr (i := i) (by omega)) ?_
            refine ⟨(i + 1, _), ⟨⟨hlt, ?_⟩, by simp only; omega⟩, .refl, .cons .refl (.cons .refl (.cons .refl .nil)), .nil⟩
            simp only
            rw [hw, etk, runR, k1, k2, cond_true, cond_true, ← List.append_assoc, ← List.append_assoc]
          · simp at k1 k2
            omega
        · refine CondOb.mk (fun k2 => ?_) (fun k2 => ?_)
          · refine ArithOb.mk _ hw2 ?_
            refine CallOb.mk [] (os.blk 150) _ (.refl _) hs2 ?_
            rintro v J N - ⟨rfl, hJ, rfl⟩
            subst J
            refine BinOb.concatL (by simp only [List.length_append, List.length_cons, List.length_nil]; omega) ?_
            refine ArithOb.mk _ (next_wr (i := i) (by omega)) ?_
            refine ⟨(i + 1, _), ⟨⟨hlt, ?_⟩, by simp only; omega⟩, .refl, .cons .refl (.cons .refl (.cons .refl .nil)), .nil⟩
            simp only
            rw [hw, etk, runR, k1, k2, cond_false, cond_true, List.nil_append, ← List.append_assoc]
          · refine ArithOb.mk _ (next_wr (i := i) (by omega)) ?_
            refine ⟨(i + 1, _), ⟨⟨hlt, ?_⟩, by simp only; omega⟩, .refl, .cons .refl (.cons .refl (.cons .refl .nil)), .nil⟩
            simp only
            rw [hw, etk, runR, k1, k2, cond_false, cond_false, List.nil_append, List.append_nil]
      · have : i = os.n := by simp at h; omega
        subst this
        have e : [p].take os.n = [p] := List.take_of_length_le (by omega)
        refine BinOb.concatL (a := [91]) (by simp only [List.length_cons, List.length_nil]; omega) ?_
        refine BinOb.concatL (b := [93]) (by simp only [List.length_append, List.length_cons, List.length_nil]; omega) ?_
        exact ⟨_, _, .sub (List.nil_sublist _) .refl, by rw [hm, hw, e], rfl, rfl⟩
  · have hall : isAll rs = false := by
      match rs, hn with
      | [], _ => rfl
      | [p], hn => simp at h1 hn; omega
      | _ :: _ :: _, _ => rfl
    have hm := main hall
    refine LoopOb.inv (ι := Nat × List UInt8) (fun x => { fl := [(3, .val os.val), (4, .val (.string (strOf x.2))), (5, .val (.int .i64 x.1))], gi := I, mi := os.blk 150 }) (fun x => x.1 ≤ os.n ∧ x.2 = (rs.take x.1).flatMap runR) (fun x => os.n - x.1) ?_ ?_
    · exact ⟨(0, []), ⟨Nat.zero_le _, rfl⟩, .perm (by simp) .refl, .cons .refl (.cons .refl (.cons .refl .nil)), .nil⟩
    rintro ⟨i, w⟩ ⟨hi, hw⟩
    simp only at hi hw
    have hli := hfl i
    rw [← hw] at hli
    refine CondOb.mk (fun h => ?_) (fun h => ?_)
    · have hlt : i < os.n := by simpa using h
      have hlt' : i < (rs : List (UInt8 × UInt8)).length := by omega
      obtain ⟨ad, had, hrd⟩ := row (i := i) hlt' (os.blk 150) (fun y hy => hy)
      have etk : (rs.take (i + 1)).flatMap runR = (rs.take i).flatMap runR ++ runR (rs : List (UInt8 × UInt8))[i] := by
        rw [List.take_succ_eq_append_getElem hlt', List.flatMap_append]
        simp
      generalize hq : (rs : List (UInt8 × UInt8))[i] = q at hrd etk
      have hq1 := q.1.toNat_lt
      have hq2 := q.2.toNat_lt
      have hl1 := putB_len q.1 clsL
      have hl2 := putB_len q.2 clsL
      refine CodeOb.draw TryzEOK rfl rfl rfl ?_
      refine IdxOb.mk ad i had rfl hlt ?_
      refine ArrOb.mk 0 rfl (by decide) ?_
      refine LoadOb.mk _ (Rd.part (k := 0 * 1) (m := 1) hrd (by decide)) ?_
      refine ArithOb.mk (q.1.toNat : Int) (wrap_i64 ⟨by omega, by omega⟩) ?_
      refine IdxOb.mk ad i had rfl hlt ?_
      refine ArrOb.mk 1 rfl (by decide) ?_
      refine LoadOb.mk _ (Rd.part (k := 1 * 1) (m := 1) hrd (by decide)) ?_
      refine ArithOb.mk (q.2.toNat : Int) (wrap_i64 ⟨by omega, by omega⟩) ?_
      have hw1 : IntKind.u8.wrap (q.1.toNat : Int) = (q.1.toNat : Int) := by simp [IntKind.wrap, IntKind.signed, IntKind.bits]; omega
      have hw2 : IntKind.u8.wrap (q.2.toNat : Int) = (q.2.toNat : Int) := by simp [IntKind.wrap, IntKind.signed, IntKind.bits]; omega
      refine ArithOb.mk _ hw1 ?_
      have hs1 := RSign_spec (I := I) q.1 clsR (by decide)
      rw [(sign_put q.1).2] at hs1
      refine CallOb.mk [] (os.blk 150) _ (.refl _) hs1 ?_
      rintro v J N - ⟨rfl, hJ, rfl⟩
      subst J
      refine BinOb.concatL (a := w) (by omega) ?_
      refine ArithOb.mk ((q.1.toNat : Int) + 1) (wrap_i64 ⟨by omega, by omega⟩) ?_
      have hs2 := RSign_spec (I := I) q.2 clsR (by decide)
      rw [(sign_put q.2).2] at hs2
      refine CondOb.mk (fun k1 => ?_) (fun k1 => ?_)
      · refine BinOb.concatL (b := [45]) (by simp only [List.length_append, List.length_cons, List.length_nil]; omega) ?_
        refine CondOb.mk (fun k2 => ?_) (fun k2 => ?_)
        · refine ArithOb.mk _ hw2 ?_
          refine CallOb.mk [] (os.blk 150) _ (.refl _) hs2 ?_
          rintro v J N - ⟨rfl, hJ, rfl⟩
          subst J
          refine BinOb.concatL (by simp only [List.length_append, List.length_cons, List.length_nil]; omega) ?_
          refine ArithOb.mk _ (next_wr (i := i) (by omega)) ?_
          refine ⟨(i + 1, _), ⟨⟨hlt, ?_⟩, by simp only; omega⟩, .refl, .cons .refl (.cons .refl (.cons .refl .nil)), .nil⟩
          simp only
          rw [hw, etk, runR, k1, k2, cond_true, cond_true, ← List.append_assoc, ← List.append_assoc]
        · simp at k1 k2
          omega
      · refine CondOb.mk (fun k2 => ?_) (fun k2 => ?_)
        · refine ArithOb.mk _ hw2 ?_
          refine CallOb.mk [] (os.blk 150) _ (.refl _) hs2 ?_
          rintro v J N - ⟨rfl, hJ, rfl⟩
          subst J
          refine BinOb.concatL (by simp only [List.length_append, List.length_cons, List.length_nil]; omega) ?_
          refine ArithOb.mk _ (next_wr (i := i) (by omega)) ?_
          refine ⟨(i + 1, _), ⟨⟨hlt, ?_⟩, by simp only; omega⟩, .refl, .cons .refl (.cons .refl (.cons .refl .nil)), .nil⟩
          simp only
          rw [hw, etk, runR, k1, k2, cond_false, cond_true, List.nil_append, ← List.append_assoc]
        · refine ArithOb.mk _ (next_wr (i := i) (by omega)) ?_
          refine ⟨(i + 1, _), ⟨⟨hlt, ?_⟩, by simp only; omega⟩, .refl, .cons .refl (.cons .refl (.cons .refl .nil)), .nil⟩
          simp only
          rw [hw, etk, runR, k1, k2, cond_false, cond_false, List.nil_append, List.append_nil]
    · have : i = os.n := by simp at h; omega
      subst this
      have e : rs.take os.n = rs := List.take_of_length_le (by omega)
      refine BinOb.concatL (a := [91]) (by simp only [List.length_cons, List.length_nil]; omega) ?_
      refine BinOb.concatL (b := [93]) (by simp only [List.length_append, List.length_cons, List.length_nil]; omega) ?_
      exact ⟨_, _, .sub (List.nil_sublist _) .refl, by rw [hm, hw, e], rfl, rfl⟩
end Go.V

/-
  Walks: bonsairef02 (Letter, digit, Take, May); tree.leaf, Rule, Text, Empty.
-/
set_option linter.unusedVariables false
set_option linter.unusedSimpArgs false
namespace Go.V
open Go Go.Proofs

theorem RLetter_spec (I : GH) (c : UInt8) : Spec Tryz.prog 105 [.int .u8 c.toNat] I [] (fun v I' M' => v = .bool (letter c) ∧ I' = I ∧ M' = []) := by
  refine spec_of_V [] TryzEOK Tryz.func105 rfl rfl rfl ?_
  intro B h0
  repeat' (refine GuardOb.mk (fun h => ?_) (fun h => ?_))
  all_goals
    refine ⟨_, _, .refl, ?_⟩
    refine ⟨?_, rfl, rfl⟩
    simp_all [letter]
    all_goals first
      | omega
      | (rw [Bool.eq_iff_iff]; simp; omega)

theorem Rdigit_spec (I : GH) (c : UInt8) : Spec Tryz.prog 106 [.int .u8 c.toNat] I [] (fun v I' M' => v = .bool (digit c) ∧ I' = I ∧ M' = []) := by
  refine spec_of_V [] TryzEOK Tryz.func106 rfl rfl rfl ?_
  intro B h0
  repeat' (refine GuardOb.mk (fun h => ?_) (fun h => ?_))
  all_goals
    refine ⟨_, _, .refl, ?_⟩
    refine ⟨?_, rfl, rfl⟩
    simp_all [digit]
    all_goals first
      | omega
      | (rw [Bool.eq_iff_iff]; simp; omega)

theorem RTake_spec (I : GH) (s : ByteArray) (hs : s.size ≤ 140737488355328) : Spec Tryz.prog 94 [.string s] I [] (fun v I' M' => v = .string (s.extract 0 (nameLen s)) ∧ I' = I ∧ M' = []) := by
  refine spec_of_V [] TryzEOK Tryz.func94 rfl rfl rfl ?_
  intro B h0
  have e0 : ∀ {s : ByteArray}, nameLen s = 0 → s.extract 0 (nameLen s) = ⟨#[]⟩ := fun h => by rw [h]; apply ByteArray.ext; simp [ByteArray.data_extract]
  refine GuardOb.mk (fun h => ?_) (fun h => ?_)
  · have h1 : s ≠ ⟨#[]⟩ := by simpa using h
    have hpos : 0 < s.size := by
      refine Nat.pos_of_ne_zero fun e => h1 ?_
      apply ByteArray.ext
      exact Array.eq_empty_of_size_eq_zero e
    refine StrOb.mk 0 rfl hpos ?_
    refine CallOb.mk [] [] _ (.refl _) (RLetter_spec I s[0]) ?_
    rintro v I' M' - ⟨rfl, rfl, rfl⟩
    refine CondOb.mk (fun h => ?_) (fun h => ?_)
    · have hl : letter s[0] = false := by simpa using h
      refine ⟨_, _, .refl, ?_, rfl, rfl⟩
      rw [e0]
      · unfold nameLen
        cases hd : s.data.toList with
        | nil => rfl
        | cons c r =>
          have : s[0] = c := by
            show s.data.toList[0] = c
            simp only [hd]
            rfl
          rw [this] at hl
          simp [hl]
    · have hl : letter s[0] = true := by simpa using h
      refine LoopOb.inv (ι := Nat) (fun i => { fl := [(0, .val (.string s)), (3, .val (.int .i64 i))], gi := I' }) (fun i => i ≤ s.size ∧ ∀ j (h : j < s.size), 1 ≤ j → j < i → nameCh s[j] = true) (fun i => s.size - i) ?_ ?_
      · exact ⟨0, ⟨by omega, fun j _ h1 h2 => by omega⟩, .refl, .cons .refl (.cons .refl .nil), .nil⟩
      · rintro i ⟨hi2, hi3⟩
        have hch0 : nameCh s[0] = true := by simp [nameCh, hl]
        have next : ∀ (hlt : i < s.size), nameCh s[i] = true → (i + 1 ≤ s.size ∧ ∀ k (h : k < s.size), 1 ≤ k → k < i + 1 → nameCh s[k] = true) ∧ s.size - (i + 1) < s.size - i := fun hlt hc =>
          ⟨⟨by omega, fun j hj h1 h2 => by
            by_cases e : j = i
            · subst e; exact hc
            · exact hi3 j hj h1 (by omega)⟩, by omega⟩
        have out : (∀ (h : i < s.size), nameCh s[i] = false) → s.extract 0 i = s.extract 0 (nameLen s) := fun hn => by
          have hi1 : 1 ≤ i := by
            apply Nat.one_le_iff_ne_zero.2
            intro e
            subst e
            rw [hn hpos] at hch0
            cases hch0
          rw [nameLen_of hpos hl hi1 hi2 hi3 hn]
        have hsz : (s.extract 0 i).size ≤ 140737488355328 := by
          rw [ByteArray.size_extract]
          omega
        have hwr : IntKind.i64.wrap ((i : Int) + 1) = ((i + 1 : Nat) : Int) := by
          rw [wrap_i64 ⟨by omega, by omega⟩]
          omega
        refine GuardOb.mk (fun h => ?_) (fun h => ?_)
        · have hlt : i < s.size := by simpa using h
          refine StrOb.mk i rfl hlt ?_
          refine CallOb.mk [] [] _ (.refl _) (RLetter_spec I' s[i]) ?_
          rintro v I' M' - ⟨rfl, rfl, rfl⟩
          refine GuardOb.mk (fun h => ?_) (fun h => ?_)
          · refine StrOb.mk i rfl hlt ?_
            refine CallOb.mk [] [] _ (.refl _) (Rdigit_spec _ s[i]) ?_
            rintro v I' M' - ⟨rfl, rfl, rfl⟩
            refine CondOb.mk (fun h2 => ?_) (fun h2 => ?_)
            · refine ArithOb.mk _ hwr ?_
              exact ⟨i + 1, next hlt (by simp only [nameCh]; rw [show digit s[i] = true from h2]; simp), .refl, .cons .refl (.cons .refl .nil), .nil⟩
            · refine SliceOb.mk 0 i rfl rfl (by omega) (by omega) ?_
              refine ⟨_, _, .refl, ?_, rfl, rfl⟩
              rw [← out fun _ => by simp only [nameCh]; rw [show letter s[i] = false from h, show digit s[i] = false from h2]; rfl]
          · refine ArithOb.mk _ hwr ?_
            exact ⟨i + 1, next hlt (by simp only [nameCh]; rw [show letter s[i] = true from h]; simp), .refl, .cons .refl (.cons .refl .nil), .nil⟩
        · have hge : ¬ i < s.size := by simpa using h
          refine SliceOb.mk 0 i rfl rfl (by omega) (by omega) ?_
          refine ⟨_, _, .refl, ?_, rfl, rfl⟩
          rw [← out fun h => (hge h).elim]
  · have h1 : s = ⟨#[]⟩ := by simpa using h
    subst h1
    refine ⟨_, _, .refl, ?_, rfl, rfl⟩
    rw [e0]
    rfl

theorem RMay_spec (I : GH) (s : ByteArray) : Spec Tryz.prog 69 [.string s] I [] (fun v I' M' => v = .bool (mayName s) ∧ I' = I ∧ M' = []) := by
  refine spec_of_V [] TryzEOK Tryz.func69 rfl rfl rfl ?_
  intro B h0
  refine GuardOb.mk (fun h1 => ?_) (fun h1 => ?_)
  · refine GuardOb.mk (fun h2 => ?_) (fun h2 => ?_)
    · have h2' : s.size ≤ 32 := by simp at h2; omega
      refine CallOb.mk [] [] _ (.refl _) (RTake_spec I s (by omega)) ?_
      rintro v I' M' - ⟨rfl, rfl, rfl⟩
      refine ⟨_, _, .refl, ?_, rfl, rfl⟩
      have hle := nameLen_le s
      have e1 : (s.extract 0 (nameLen s)).size = nameLen s := by rw [ByteArray.size_extract]; omega
      have e2 : decide (s.extract 0 (nameLen s) = s) = decide (nameLen s = s.size) := by
        rw [decide_eq_decide]
        constructor
        · intro h
          rw [← e1, h]
        · intro h
          rw [h]
          apply ByteArray.ext
          simp [ByteArray.data_extract]
      have h1' : decide (s ≠ ⟨#[]⟩) = true := by simpa using h1
      simp only [mayName, h1', Bool.true_and, show decide (s.size ≤ 32) = true from decide_eq_true h2', ← e2]
    · refine ⟨_, _, .refl, ?_, rfl, rfl⟩
      have h1' : decide (s ≠ ⟨#[]⟩) = true := by simpa using h1
      have h2' : decide (s.size ≤ 32) = false := by simp at h2; simp; omega
      simp only [mayName, h1', h2', Bool.true_and, Bool.false_and]
  · refine ⟨_, _, .refl, ?_, rfl, rfl⟩
    have h1' : decide (s ≠ ⟨#[]⟩) = false := by simpa using h1
    simp only [mayName, h1', Bool.false_and]

/-! ### Leaves -/
theorem u0 : u64ok 0 := ⟨by decide, by decide⟩
theorem i0 : i64ok 0 := ⟨by decide, by decide⟩
theorem leaf_spec {I : GH} {d : Nd} (hd : d.ok I) : Spec Tryz.prog 66 [d.val] I [] fun v I' M' => (∀ b o, I b = some o → I' b = some o) ∧ ∃ t : Tr, v = t.val ∧ t.ok I' ∧ t.ns = [d] ∧ t.root = 0 ∧ M' = [] := by
  refine spec_of_V [] TryzEOK Tryz.func66 rfl rfl rfl ?_
  intro B h0
  refine AllocOb.mk fun b hb hbM => ?_
  refine ⟨_, _, .prom rfl (by simp) .refl, ins_le hb, ⟨[d], some ⟨b, 0, none⟩, 1, 1, 0⟩, rfl, ⟨⟨rfl, ⟨Nat.le_refl _, by show 1 * 96 ≤ _; omega⟩, .inr ⟨_, rfl, rfl, _, _, _, ins_self .., rfl⟩⟩, fun x hx => ?_, i0⟩, rfl, rfl, rfl⟩
  simp only [List.mem_singleton] at hx
  subst hx
  exact hd.mono (ins_le hb)
def leafNd (k : Int) (s : ByteArray) : Nd := ⟨k, 0, 0, 0, 0, s, 0, 0, none, 0, 0, []⟩
theorem leafNd_ok {I : GH} {k : Int} (hk : 0 ≤ k ∧ k < 256) {s : ByteArray} (hs : s.size ≤ 140737488355328) : (leafNd k s).ok I :=
  ⟨hk, u0, u0, u0, u0, by show s.size ≤ _; omega, i0, i0, ⟨rfl, ⟨Nat.le_refl _, by show 0 * 8 ≤ _; omega⟩, .inl rfl⟩, fun x hx => by cases hx⟩
set_option maxRecDepth 20000 in
theorem Rule_spec {I : GH} {s : ByteArray} (hs : s.size ≤ 140737488355328) : Spec Tryz.prog 45 [.string s] I [] fun v I' M' => (∀ b o, I b = some o → I' b = some o) ∧ ∃ t : Tr, v = t.val ∧ t.ok I' ∧ t.ns = [leafNd 3 s] ∧ t.root = 0 ∧ M' = [] := by
  refine spec_of_V [] TryzEOK Tryz.func45 rfl rfl rfl ?_
  intro B h0
  have hl := leaf_spec (I := I) (leafNd_ok (k := 3) (by decide) hs)
  have hv : (leafNd 3 s).val = .agg #[.int .u8 3, .int .u64 0, .int .u64 0, .int .u64 0, .int .u64 0, .string s, .int .i64 0, .int .i64 0, .slice none 0 0] := rfl
  rw [hv] at hl
  refine CallOb.mk [] [] _ (.refl _) hl ?_
  rintro v I' M' - ⟨hI, t, rfl, ht, h1, h2, rfl⟩
  exact ⟨_, _, .refl, hI, t, rfl, ht, h1, h2, rfl⟩
set_option maxRecDepth 20000 in
theorem Text_spec {I : GH} {s : ByteArray} (hs : s.size ≤ 140737488355328) : Spec Tryz.prog 43 [.string s] I [] fun v I' M' => (∀ b o, I b = some o → I' b = some o) ∧ ∃ t : Tr, v = t.val ∧ t.ok I' ∧ t.ns = [leafNd 2 s] ∧ t.root = 0 ∧ M' = [] := by
  refine spec_of_V [] TryzEOK Tryz.func43 rfl rfl rfl ?_
  intro B h0
  have hl := leaf_spec (I := I) (leafNd_ok (k := 2) (by decide) hs)
  have hv : (leafNd 2 s).val = .agg #[.int .u8 2, .int .u64 0, .int .u64 0, .int .u64 0, .int .u64 0, .string s, .int .i64 0, .int .i64 0, .slice none 0 0] := rfl
  rw [hv] at hl
  refine CallOb.mk [] [] _ (.refl _) hl ?_
  rintro v I' M' - ⟨hI, t, rfl, ht, h1, h2, rfl⟩
  exact ⟨_, _, .refl, hI, t, rfl, ht, h1, h2, rfl⟩
set_option maxRecDepth 20000 in
theorem Empty_spec {I : GH} : Spec Tryz.prog 46 [] I [] fun v I' M' => (∀ b o, I b = some o → I' b = some o) ∧ ∃ t : Tr, v = t.val ∧ t.ok I' ∧ t.ns = [leafNd 0 ⟨#[]⟩] ∧ t.root = 0 ∧ M' = [] := by
  refine spec_of_V [] TryzEOK Tryz.func46 rfl rfl rfl ?_
  intro B h0
  have hl := leaf_spec (I := I) (leafNd_ok (k := 0) (s := ⟨#[]⟩) (by decide) (by decide))
  have hv : (leafNd 0 ⟨#[]⟩).val = .agg #[.int .u8 0, .int .u64 0, .int .u64 0, .int .u64 0, .int .u64 0, .string ⟨#[]⟩, .int .i64 0, .int .i64 0, .slice none 0 0] := rfl
  rw [hv] at hl
  refine CallOb.mk [] [] _ (.refl _) hl ?_
  rintro v I' M' - ⟨hI, t, rfl, ht, h1, h2, rfl⟩
  exact ⟨_, _, .refl, hI, t, rfl, ht, h1, h2, rfl⟩
end Go.V

/-
  Walks: bonsairef04.Fits (of nodes whose set is empty).
-/
set_option linter.unusedVariables false
set_option linter.unusedSimpArgs false
namespace Go.V
open Go Go.Proofs

def plainR (d : Nd) : Bool := decide (d.t = ⟨#[]⟩) && (decide (d.lo = 0) && decide (d.hi = 0))
def fitsR (d : Nd) (n : Int) : Bool :=
  bif decide (d.k = 0) then plainR d && decide (n = 0) else
  bif decide (d.k = 1) then plainR d && decide (n = 0) else
  bif decide (d.k = 2) then decide (d.lo = 0) && (decide (d.hi = 0) && (decide (n = 0) && (decide ((1 : Int) ≤ d.t.size) && decide ((d.t.size : Int) ≤ 255)))) else
  bif decide (d.k = 3) then decide (d.lo = 0) && (decide (d.hi = 0) && (decide (n = 0) && mayName d.t)) else
  bif decide (d.k = 4) || decide (d.k = 5) then plainR d && decide (2 ≤ n) else
  bif decide (d.k = 6) then decide (d.t = ⟨#[]⟩) && (decide (n = 1) && (decide (0 ≤ d.lo) && (decide (d.lo ≤ 99) && (decide (d.hi = -1) || (decide (d.lo ≤ d.hi) && decide (d.hi ≤ 99)))))) else
  bif decide (d.k = 7) || decide (d.k = 8) then plainR d && decide (n = 1) else
  bif decide (d.k = 9) then decide (d.lo = 0) && (decide (d.hi = 0) && (decide (n = 1) && mayName d.t)) else false

set_option maxHeartbeats 40000000 in
set_option maxRecDepth 20000 in
theorem RFits_spec {I : GH} (k : Int) (s : ByteArray) (lo hi : Int) (ka : Option Addr) (kn kc : Nat) (kids : List Int) (n : Int) : Spec Tryz.prog 75 [.agg #[.int .u8 k, .int .u64 0, .int .u64 0, .int .u64 0, .int .u64 0, .string s, .int .i64 lo, .int .i64 hi, .slice ka kn kc], .int .i64 n] I []
    (fun v I' M' => v = .bool (fitsR ⟨k, 0, 0, 0, 0, s, lo, hi, ka, kn, kc, kids⟩ n) ∧ I' = I ∧ M' = []) := by
  refine spec_of_V [] TryzEOK Tryz.func75 rfl rfl rfl ?_
  intro B h0
  refine BinOb.eq4 TryzEOK (e := 63) rfl rfl rfl rfl (by kernel_rfl) ?_
  refine GuardOb.mk (fun _ => ?_) (fun h => by cases h)
  have e1 : ∀ {b : Bool}, b = true → (!b) = false := fun h => by rw [h]; rfl
  repeat' (first
    | refine GuardOb.mk (fun h => ?_) (fun h => ?_)
    | refine CondOb.mk (fun h => ?_) (fun h => ?_)
    | refine BinOb.eq4 TryzEOK (e := 63) rfl rfl rfl rfl (by kernel_rfl) ?_
    | (refine CallOb.mk [] [] _ (.refl _) (RMay_spec _ s) ?_; rintro v I' M' - ⟨rfl, rfl, rfl⟩))
  all_goals first
    | (refine ⟨_, _, .refl, ?_, rfl, rfl⟩; simp_all [fitsR, plainR]; done)
    | (refine ⟨_, _, .refl, ?_, rfl, rfl⟩; simp_all [fitsR, plainR]; omega)
    | (exfalso; simp_all; done)
    | (exfalso; simp_all; omega)
    | skip
end Go.V

/-
  Walks: bonsairef04.Fits, of any node.
-/
set_option linter.unusedVariables false
set_option linter.unusedSimpArgs false
namespace Go.V
open Go Go.Proofs

/-- Each kind's own words. -/
def fitsK (z : Bool) (d : Nd) (n : Int) : Bool :=
  bif decide (d.k = 0) then z && (plainR d && decide (n = 0)) else
  bif decide (d.k = 1) then plainR d && decide (n = 0) else
  bif decide (d.k = 2) then z && (decide (d.lo = 0) && (decide (d.hi = 0) && (decide (n = 0) && (decide ((1 : Int) ≤ d.t.size) && decide ((d.t.size : Int) ≤ 255))))) else
  bif decide (d.k = 3) then z && (decide (d.lo = 0) && (decide (d.hi = 0) && (decide (n = 0) && mayName d.t))) else
  bif decide (d.k = 4) || decide (d.k = 5) then z && (plainR d && decide (2 ≤ n)) else
  bif decide (d.k = 6) then z && (decide (d.t = ⟨#[]⟩) && (decide (n = 1) && (decide (0 ≤ d.lo) && (decide (d.lo ≤ 99) && (decide (d.hi = -1) || (decide (d.lo ≤ d.hi) && decide (d.hi ≤ 99))))))) else
  bif decide (d.k = 7) || decide (d.k = 8) then z && (plainR d && decide (n = 1)) else
  bif decide (d.k = 9) then z && (decide (d.lo = 0) && (decide (d.hi = 0) && (decide (n = 1) && mayName d.t))) else false

theorem empty_size (s : ByteArray) : decide (s = ⟨#[]⟩) = decide (s.size = 0) := by
  rw [Bool.eq_iff_iff]
  simp only [decide_eq_true_eq]
  constructor
  · rintro rfl
    rfl
  · intro h
    cases s with
    | mk d =>
      have : d.size = 0 := h
      simp [Array.eq_empty_of_size_eq_zero this]
theorem fitsK_eq {d : Nd} (hk : 0 ≤ d.k ∧ d.k < 256) (n : Int) : fitsK d.setZ d n = fits d n := by
  by_cases h10 : 10 ≤ d.k
  · have e : fits d n = false := by simp [fits, h10]
    rw [e]
    unfold fitsK
    have h : ∀ j : Int, j < 10 → decide (d.k = j) = false := fun j hj => by simp; omega
    rw [h 0, h 1, h 2, h 3, h 4, h 5, h 6, h 7, h 8, h 9] <;> first | rfl | omega
  have hcases : d.k = 0 ∨ d.k = 1 ∨ d.k = 2 ∨ d.k = 3 ∨ d.k = 4 ∨ d.k = 5 ∨ d.k = 6 ∨ d.k = 7 ∨ d.k = 8 ∨ d.k = 9 := by omega
  generalize hz : d.setZ = z
  have hsz := empty_size d.t
  have hemp : (d.t = ByteArray.empty) ↔ d.t.size = 0 := by
    rw [← decide_eq_decide]
    exact hsz
  rcases hcases with h | h | h | h | h | h | h | h | h | h <;> rw [Bool.eq_iff_iff] <;> simp [fitsK, fits, h, hz, plainR, cntLo, cntHi, countsL, hemp] <;> cases z <;> first | (simp; done) | grind

theorem BinOb.eq4z {P : Program} {E : Env} (hE : EOK P E) {t e : Nat} {ti ei : TI} {x y : Operand} (ht : E t = some ti) (hts : ti.sh = .array 4 e) (he : E e = some ei) {k : IntKind} (hes : ei.sh = .int k)
    (hg : P.eqGuardType P.depth t = false) {a0 a1 a2 a3 b0 b1 b2 b3 : Int} {V : Value → Prop} {other : Prop} (z : Bool) (hz : (a0 == b0 && (a1 == b1 && (a2 == b2 && a3 == b3))) = z)
    (h : V (.bool z)) : BinOb P .eql t x y (.val (.agg #[.int k a0, .int k a1, .int k a2, .int k a3])) (.val (.agg #[.int k b0, .int k b1, .int k b2, .int k b3])) V other :=
  .eq4 hE ht hts he hes hg (by rw [hz]; exact h)

set_option maxHeartbeats 40000000 in
set_option maxRecDepth 20000 in
theorem RFits_gen {I : GH} {d : Nd} (hk : 0 ≤ d.k ∧ d.k < 256) (n : Int) : Spec Tryz.prog 75 [d.val, .int .i64 n] I []
    (fun v I' M' => v = .bool (fits d n) ∧ I' = I ∧ M' = []) := by
  rw [← fitsK_eq hk]
  obtain ⟨k, s0, s1, s2, s3, s, lo, hi, ka, kn, kc, kids⟩ := d
  clear hk
  refine spec_of_V [] TryzEOK Tryz.func75 rfl rfl rfl ?_
  intro B h0
  obtain ⟨z, hz⟩ : ∃ z, Nd.setZ ⟨k, s0, s1, s2, s3, s, lo, hi, ka, kn, kc, kids⟩ = z := ⟨_, rfl⟩
  rw [hz]
  refine BinOb.eq4z TryzEOK (e := 63) rfl rfl rfl rfl (by kernel_rfl) z hz ?_
  repeat' (first
    | refine GuardOb.mk (fun h => ?_) (fun h => ?_)
    | refine CondOb.mk (fun h => ?_) (fun h => ?_)
    | refine BinOb.eq4z TryzEOK (e := 63) rfl rfl rfl rfl (by kernel_rfl) z hz ?_
    | (refine CallOb.mk [] [] _ (.refl _) (RMay_spec _ s) ?_; rintro v I' M' - ⟨rfl, rfl, rfl⟩))
  all_goals clear hz
  all_goals first
    | (refine ⟨_, _, .refl, ?_, rfl, rfl⟩; simp_all [fitsK, plainR]; done)
    | (refine ⟨_, _, .refl, ?_, rfl, rfl⟩; simp_all [fitsK, plainR]; omega)
    | (exfalso; simp_all; done)
    | (exfalso; simp_all; omega)
    | skip
end Go.V

/-
  Walks: bonsairef04.Right, of any tree.
-/
set_option linter.unusedVariables false
set_option linter.unusedSimpArgs false
namespace Go.V
open Go Go.Proofs

def b2i (b : Bool) : Int := bif b then 1 else 0
theorem kidsOk_none_of {i : Nat} : ∀ {ks : List Int} {s : List Bool} {k : Int}, k ∈ ks → (k < 0 ∨ (i : Int) ≤ k) → kidsOk i ks s = none
  | a :: ks, s, k, hk, h => by
    unfold kidsOk
    cases hb : decide (a < 0) || (decide ((i : Int) ≤ a) || s.getD a.toNat false) with
    | true => rfl
    | false =>
      simp only [cond_false]
      simp only [Bool.or_eq_false_iff, decide_eq_false_iff_not] at hb
      rcases List.mem_cons.1 hk with rfl | hk
      · rcases h with h | h
        · exact (hb.1 h).elim
        · exact (hb.2.1 h).elim
      · exact kidsOk_none_of hk h
theorem rootOk_false {root : Int} : ∀ {s : List Bool} {i j : Nat}, j < s.length → (s.getD j false == decide (((i + j : Nat) : Int) = root)) = true → rootOk root i s = false
  | b :: s, i, 0, _, h => by
    unfold rootOk
    rw [show (b == decide ((i : Int) = root)) = true by simpa using h]
    rfl
  | b :: s, i, j + 1, hj, h => by
    unfold rootOk
    cases b == decide ((i : Int) = root) with
    | true => rfl
    | false =>
      simp only [cond_false]
      refine rootOk_false (j := j) (by simpa using hj) ?_
      rw [show i + 1 + j = i + (j + 1) by omega]
      simpa using h
theorem rootOk_true {root : Int} : ∀ {s : List Bool} {i : Nat}, (∀ j, j < s.length → (s.getD j false == decide (((i + j : Nat) : Int) = root)) = false) → rootOk root i s = true
  | [], i, h => rfl
  | b :: s, i, h => by
    unfold rootOk
    have h0 := h 0 (by simp)
    rw [show (b == decide ((i : Int) = root)) = false by simpa using h0]
    simp only [cond_false]
    refine rootOk_true fun j hj => ?_
    have := h (j + 1) (by simpa using hj)
    rw [show i + 1 + j = i + (j + 1) by omega]
    simpa using this

/-- How far a tree's nodes have been gone over: the counts of parents. -/
structure ParInv (t : Tr) (P : List Int) (W : Int) : Prop where
  len : P.length = t.ns.length
  bd : ∀ c ∈ P, 0 ≤ c ∧ c ≤ W
/-- Either all was well so far (and the marks are the counts), or it is known that it was not. -/
def ParAt (t : Tr) (P : List Int) (rest : List Bool → Option (List Bool)) : Prop :=
  (∃ s : List Bool, s.length = t.ns.length ∧ P = s.map b2i ∧ nodesOk 0 t.ns (List.replicate t.ns.length false) = rest s) ∨
  (nodesOk 0 t.ns (List.replicate t.ns.length false) = none ∧ ∃ k, k < t.ns.length ∧ 2 ≤ P.getD k 0)
def restN (t : Tr) (i : Nat) (s : List Bool) : Option (List Bool) := nodesOk i (t.ns.drop i) s
def restK (t : Tr) (i : Nat) (d : Nd) (k : Nat) (s : List Bool) : Option (List Bool) := match kidsOk i (d.kids.drop k) s with
  | some s' => nodesOk (i + 1) (t.ns.drop (i + 1)) s'
  | none => none
theorem right_none {t : Tr} (h : nodesOk 0 t.ns (List.replicate t.ns.length false) = none) : right t = false := by
  simp [right, h]
theorem ParAt.start (t : Tr) : ParAt t (List.replicate t.ns.length 0) (restN t 0) :=
  .inl ⟨List.replicate t.ns.length false, by simp, by simp [b2i], rfl⟩
theorem ParAt.enter {t : Tr} {P : List Int} {i : Nat} (h : ParAt t P (restN t i)) (hi : i < t.ns.length) (hf : fits t.ns[i] t.ns[i].kids.length = true) : ParAt t P (restK t i t.ns[i] 0) := by
  rcases h with ⟨s, h1, h2, h3⟩ | h
  · refine .inl ⟨s, h1, h2, ?_⟩
    rw [h3, restN, List.drop_eq_getElem_cons hi, nodesOk, hf]
    rfl
  · exact .inr h
theorem ParAt.unfit {t : Tr} {P : List Int} {i : Nat} (h : ParAt t P (restN t i)) (hi : i < t.ns.length) (hf : fits t.ns[i] t.ns[i].kids.length = false) : right t = false := by
  refine right_none ?_
  rcases h with ⟨s, h1, h2, h3⟩ | h
  · rw [h3, restN, List.drop_eq_getElem_cons hi, nodesOk, hf]
    rfl
  · exact h.1
theorem ParAt.out {t : Tr} {P : List Int} {i k : Nat} {d : Nd} (h : ParAt t P (restK t i d k)) (hk : k < d.kids.length) (hf : d.kids[k] < 0 ∨ (i : Int) ≤ d.kids[k]) : right t = false := by
  refine right_none ?_
  rcases h with ⟨s, h1, h2, h3⟩ | h
  · rw [h3, restK, kidsOk_none_of (k := d.kids[k]) (by rw [List.drop_eq_getElem_cons hk]; exact .head _) hf]
  · exact h.1
theorem ParAt.kid {t : Tr} {P : List Int} {i k : Nat} {d : Nd} (hl : P.length = t.ns.length) (hi : i ≤ t.ns.length) (h : ParAt t P (restK t i d k)) (hk : k < d.kids.length) (h0 : 0 ≤ d.kids[k]) (h1 : d.kids[k] < i) :
    ParAt t (P.set d.kids[k].toNat (P.getD d.kids[k].toNat 0 + 1)) (restK t i d (k + 1)) := by
  have hkl : d.kids[k].toNat < P.length := by omega
  rcases h with ⟨s, g1, g2, g3⟩ | ⟨g1, j, g2, g3⟩
  · have hsl : d.kids[k].toNat < s.length := by omega
    have hg : P.getD d.kids[k].toNat 0 = b2i (s.getD d.kids[k].toNat false) := by
      rw [g2]
      simp [List.getD_eq_getElem?_getD, hsl]
    cases hb : s.getD d.kids[k].toNat false with
    | false =>
      refine .inl ⟨s.set d.kids[k].toNat true, by simpa using g1, ?_, ?_⟩
      · rw [hg, hb, g2, List.map_set]
        rfl
      · rw [g3, restK, List.drop_eq_getElem_cons hk, kidsOk, hb]
        simp only [Bool.or_false]
        rw [decide_eq_false (by omega), decide_eq_false (by omega)]
        rfl
    | true =>
      refine .inr ⟨?_, d.kids[k].toNat, by omega, ?_⟩
      · rw [g3, restK, List.drop_eq_getElem_cons hk, kidsOk, hb]
        simp
      · rw [hg, hb]
        simp [List.getD_eq_getElem?_getD, List.getElem?_set, hkl, b2i]
  · refine .inr ⟨g1, j, g2, ?_⟩
    simp only [List.getD_eq_getElem?_getD, List.getElem?_set] at g3 ⊢
    by_cases e : d.kids[k].toNat = j
    · subst e
      simp [hkl] at g3 ⊢
      omega
    · rw [if_neg e]
      exact g3
theorem ParAt.leave {t : Tr} {P : List Int} {i k : Nat} {d : Nd} (h : ParAt t P (restK t i d k)) (hk : d.kids.length ≤ k) : ParAt t P (restN t (i + 1)) := by
  rcases h with ⟨s, h1, h2, h3⟩ | h
  · refine .inl ⟨s, h1, h2, ?_⟩
    rw [h3, restK, List.drop_eq_nil_of_le hk]
    rfl
  · exact .inr h
theorem ParInv.kid {t : Tr} {P : List Int} {W : Int} (h : ParInv t P W) {k : Nat} (hk : k < P.length) : ParInv t (P.set k (P.getD k 0 + 1)) (W + 1) := by
  refine ⟨by simpa using h.len, fun c hc => ?_⟩
  have hg : P.getD k 0 ∈ P := by
    simp only [List.getD_eq_getElem?_getD, List.getElem?_eq_getElem hk, Option.getD_some]
    exact List.getElem_mem hk
  have := h.bd _ hg
  rcases List.mem_or_eq_of_mem_set hc with hc | rfl
  · have := h.bd c hc
    omega
  · omega
/-- What is asked of each count at the end. -/
def parBad (t : Tr) (P : List Int) (i : Nat) : Bool := (decide ((i : Int) = t.root) && !decide (P.getD i 0 = 0)) || (!decide ((i : Int) = t.root) && !decide (P.getD i 0 = 1))
theorem ParAt.bad {t : Tr} {P : List Int} (h : ParAt t P (restN t t.ns.length)) {i : Nat} (hi : i < t.ns.length) (hq : parBad t P i = true) : right t = false := by
  rcases h with ⟨s, h1, h2, h3⟩ | h
  · rw [restN, List.drop_length, nodesOk] at h3
    have : rootOk t.root 0 s = false := by
      refine rootOk_false (j := i) (by omega) ?_
      have hg : P.getD i 0 = b2i (s.getD i false) := by
        rw [h2]
        simp [List.getD_eq_getElem?_getD, h1, hi]
      rw [parBad, hg] at hq
      rw [Nat.zero_add]
      generalize s.getD i false = x at hq ⊢
      cases x <;> cases hd : decide ((i : Int) = t.root) <;> simp_all [b2i]
    simp [right, h3, this]
  · exact right_none h.1
theorem ParAt.good {t : Tr} {P : List Int} (h : ParAt t P (restN t t.ns.length)) (h0 : 0 ≤ t.root ∧ t.root < t.ns.length) (hq : ∀ i, i < t.ns.length → parBad t P i = false) : right t = true := by
  rcases h with ⟨s, h1, h2, h3⟩ | ⟨h1, k, h2, h3⟩
  · rw [restN, List.drop_length, nodesOk] at h3
    have : rootOk t.root 0 s = true := by
      refine rootOk_true fun i hi => ?_
      have hg : P.getD i 0 = b2i (s.getD i false) := by
        rw [h2]
        simp [List.getD_eq_getElem?_getD, hi]
      have hq' := hq i (by omega)
      rw [parBad, hg] at hq'
      rw [Nat.zero_add]
      generalize s.getD i false = x at hq' ⊢
      cases x <;> cases hd : decide ((i : Int) = t.root) <;> simp_all [b2i]
    simp [right, h3, this, h0.1, h0.2]
  · have := hq k h2
    simp only [parBad, Bool.or_eq_false_iff, Bool.and_eq_false_iff, decide_eq_false_iff_not, Bool.not_eq_false', decide_eq_true_eq] at this
    omega

set_option maxHeartbeats 4000000 in
theorem RRight_gen {I : GH} {t : Tr} (ht : t.ok I) (W : Nat) (hW : ∀ d ∈ t.ns, d.kn ≤ W) (hb : t.n * W ≤ 1152921504606846976) : Spec Tryz.prog 55 [t.val] I [] fun v I' M' => v = .bool (right t) ∧ I' = I ∧ M' = [] := by
  refine spec_of_V [] TryzEOK Tryz.func55 rfl rfl rfl ?_
  intro B h0
  have htn := ht.n
  have hcap := ht.rs.cap
  refine GuardOb.mk (fun h => ?_) (fun h => ?_)
  rotate_left
  · refine ⟨_, _, .refl, ?_, rfl, rfl⟩
    have : t.root < 0 := by simpa using h
    rw [show right t = false by simp [right]; omega]
  have hr0 : 0 ≤ t.root := by have := of_decide_eq_false h; omega
  refine CondOb.mk (fun h2 => ?_) (fun h2 => ?_)
  · refine ⟨_, _, .refl, ?_, rfl, rfl⟩
    have := of_decide_eq_true h2
    rw [show right t = false by simp [right]; omega]
  have hr1 : t.root < t.n := by have := of_decide_eq_false h2; omega
  refine MakeOb.mk t.n t.n rfl rfl (Nat.le_refl _) (by show 8 * t.n ≤ _; omega) (by omega) ?_
  refine AllocOb.mk fun b1 hb1 hbM1 => ?_
  refine LoopOb.inv (ι := Nat × List Int) (fun x => { fl := [(1, .ref 1 0), (3, .val (.slice (some ⟨b1, 0, none⟩) t.n t.n)), (4, .val (.int .i64 x.1))], cl := [(1, t.cells)], gi := I, mi := [intRow b1 x.2] })
    (fun x => x.1 ≤ t.n ∧ ParInv t x.2 (x.1 * W : Nat) ∧ ParAt t x.2 (restN t x.1)) (fun x => t.n - x.1) ?_ ?_
  · refine ⟨(0, List.replicate t.n 0), ⟨Nat.zero_le _, ⟨by simp [htn], fun c hc => by have := List.eq_of_mem_replicate hc; simp only; omega⟩, by rw [← htn]; exact ParAt.start t⟩, ?_, .cons .refl (.cons .refl (.cons .refl .nil)), .cons rfl .nil⟩
    simp only [rowOf_one, intRow, List.map_replicate, Nat.mul_one]
    exact .refl
  rintro ⟨i, P⟩ ⟨hi, hP, hA⟩
  simp only at hi hP hA
  have hPl := hP.len
  refine CondOb.mk (fun h => ?_) (fun h => ?_)
  · have hlt : i < t.n := by have := of_decide_eq_true h; omega
    have hlt' : i < t.ns.length := by omega
    obtain ⟨ad, had, hrd⟩ := ht.rs.row Nd.cells_len hlt hlt'
    have hdm : t.ns[i] ∈ t.ns := List.getElem_mem hlt'
    have hd := ht.ns _ hdm
    have hkn := hd.kn
    have hkW := hW _ hdm
    have hcap2 := hd.rs.cap
    have hiW : (i + 1) * W ≤ 1152921504606846976 := Nat.le_trans (Nat.mul_le_mul_right W hlt) hb
    rw [Nat.add_mul, Nat.one_mul] at hiW
    refine IdxOb.mk ad i had rfl hlt ?_
    refine LoadOb.mk _ (hrd _) ?_
    refine CallOb.mk [] _ _ (.refl _) (RFits_gen hd.k t.ns[i].kn) ?_
    rintro v I2 M2 - ⟨rfl, rfl, rfl⟩
    rw [← hkn]
    refine CondOb.mk (fun h3 => ?_) (fun h3 => ?_)
    · refine ⟨_, _, .sub (List.nil_sublist _) .refl, ?_, rfl, rfl⟩
      rw [hA.unfit hlt' (by simpa using h3)]
    have hA := hA.enter hlt' (by simpa using h3)
    generalize hdd : t.ns[i] = d at hd hkn hkW hcap2 hrd hA
    refine LoopOb.inv (ι := Nat × List Int) (fun x => { fl := [(1, .ref 1 0), (3, .val (.slice (some ⟨b1, 0, none⟩) t.n t.n)), (4, .val (.int .i64 i)), (5, .ref 5 0), (6, .val (.int .i64 x.1))], cl := [(1, t.cells), (5, d.cells)], gi := I2, mi := [intRow b1 x.2] })
      (fun x => x.1 ≤ d.kn ∧ ParInv t x.2 (i * W + x.1 : Nat) ∧ ParAt t x.2 (restK t i d x.1)) (fun x => d.kn - x.1) ?_ ?_
    · exact ⟨(0, P), ⟨Nat.zero_le _, hP, hA⟩, .refl, .cons .refl (.cons .refl (.cons .refl (.cons .refl (.cons .refl .nil)))), .cons rfl (.cons rfl .nil)⟩
    rintro ⟨k, Q⟩ ⟨hk, hQ, hB⟩
    simp only at hk hQ hB
    have hQl := hQ.len
    refine CondOb.mk (fun h4 => ?_) (fun h4 => ?_)
    · have hkl : k < d.kn := by have := of_decide_eq_true h4; omega
      have hkl' : k < d.kids.length := by omega
      obtain ⟨ak, hak, hrk⟩ := hd.rs.one hkl hkl'
      refine IdxOb.mk ak k hak rfl hkl ?_
      refine LoadOb.mk _ (hrk _) ?_
      refine GuardOb.mk (fun h5 => ?_) (fun h5 => ?_)
      rotate_left
      · refine ⟨_, _, .sub (List.nil_sublist _) .refl, ?_, rfl, rfl⟩
        rw [hB.out hkl' (.inl (by simpa using h5))]
      have hk0 : 0 ≤ d.kids[k] := by have := of_decide_eq_false h5; omega
      refine IdxOb.mk ak k hak rfl hkl ?_
      refine LoadOb.mk _ (hrk _) ?_
      refine CondOb.mk (fun h6 => ?_) (fun h6 => ?_)
      · refine ⟨_, _, .sub (List.nil_sublist _) .refl, ?_, rfl, rfl⟩
        rw [hB.out hkl' (.inr (of_decide_eq_true h6))]
      have hk1 : d.kids[k] < i := by have := of_decide_eq_false h6; omega
      have hkQ : d.kids[k].toNat < Q.length := by omega
      have hQb : 0 ≤ Q[d.kids[k].toNat] ∧ Q[d.kids[k].toNat] ≤ (i * W + k : Nat) := hQ.bd _ (List.getElem_mem hkQ)
      have hQg : Q.getD d.kids[k].toNat 0 = Q[d.kids[k].toNat] := by simp [List.getD_eq_getElem?_getD, hkQ]
      have hB' := hB.kid hQl (by omega) hkl' hk0 hk1
      have hQ' := hQ.kid hkQ
      rw [hQg] at hB' hQ'
      refine IdxOb.mk ak k hak rfl hkl ?_
      refine LoadOb.mk _ (hrk _) ?_
      refine IdxOb.mk ⟨b1, 0, none⟩ d.kids[k].toNat rfl (by omega) (by omega) ?_
      refine LoadOb.mk _ (intRow_rd (s := Q) (.head _) hkQ) ?_
      refine ArithOb.mk (Q[d.kids[k].toNat] + 1) (wr_eq rfl (by omega)) ?_
      refine IdxOb.mk ⟨b1, 0, none⟩ d.kids[k].toNat rfl (by omega) (by omega) ?_
      refine StoreOb.add [] [] _ _ rfl ?_ rfl ?_
      · simp only [List.size_toArray, List.length_map]
        show 0 + d.kids[k].toNat * 1 + 1 ≤ _
        omega
      have e := intRow_set Q d.kids[k].toNat hkQ (Q[d.kids[k].toNat] + 1)
      refine ArithOb.mk _ (next_wr (i := k) (by omega)) ?_
      refine ⟨(k + 1, Q.set d.kids[k].toNat (Q[d.kids[k].toNat] + 1)), ⟨⟨by simp only; omega, ?_, hB'⟩, by simp only; omega⟩, ?_, .cons .refl (.cons .refl (.cons .refl (.cons .refl (.cons .refl .nil)))), .cons rfl (.cons rfl .nil)⟩
      · simp only
        rw [show ((i * W + (k + 1) : Nat) : Int) = ((i * W + k : Nat) : Int) + 1 by omega]
        exact hQ'
      · simp only [intRow]
        rw [← e]
        simp only [Nat.zero_add, Nat.mul_one]
        exact .refl
    · have hge : d.kn ≤ k := by have := of_decide_eq_false h4; omega
      refine ArithOb.mk _ (next_wr (i := i) (by omega)) ?_
      refine ⟨(i + 1, Q), ⟨⟨by simp only; omega, ⟨hQl, fun c hc => ?_⟩, hB.leave (by omega)⟩, by simp only; omega⟩, .refl, .cons .refl (.cons .refl (.cons .refl .nil)), .cons rfl .nil⟩
      have := hQ.bd c hc
      simp only [Nat.add_mul, Nat.one_mul]
      omega
  have hge : i = t.n := by have := of_decide_eq_false h; omega
  have hA2 : ParAt t P (restN t t.ns.length) := by rw [htn, ← hge]; exact hA
  clear hP h hi hA
  subst hge
  refine LoopOb.inv (ι := Nat) (fun x => { fl := [(1, .ref 1 0), (3, .val (.slice (some ⟨b1, 0, none⟩) t.n t.n)), (7, .val (.int .i64 x))], cl := [(1, t.cells)], gi := I, mi := [intRow b1 P] })
    (fun x => x ≤ t.n ∧ ∀ j, j < x → parBad t P j = false) (fun x => t.n - x) ?_ ?_
  · exact ⟨0, ⟨Nat.zero_le _, fun j hj => by omega⟩, .refl, .cons .refl (.cons .refl (.cons .refl .nil)), .cons rfl .nil⟩
  rintro i ⟨hi, hq⟩
  refine CondOb.mk (fun h => ?_) (fun h => ?_)
  rotate_left
  · have hge : i = t.n := by have := of_decide_eq_false h; omega
    refine ⟨_, _, .sub (List.nil_sublist _) .refl, ?_, rfl, rfl⟩
    rw [hA2.good ⟨hr0, by omega⟩ fun j hj => hq j (by omega)]
  have hlt : i < t.n := by have := of_decide_eq_true h; omega
  have hiP : i < P.length := by omega
  have hrd : Rd I [intRow b1 P] ((⟨b1, 0, none⟩ : Addr).add (i * 1)) 1 [.int .i64 P[i]] := intRow_rd (.head _) hiP
  have hg : P.getD i 0 = P[i] := by simp [List.getD_eq_getElem?_getD, hiP]
  have hbad : parBad t P i = true → right t = false := hA2.bad (by omega)
  have hgo : parBad t P i = false → ∀ j, j < i + 1 → parBad t P j = false := fun h j hj => by
    by_cases e : j = i
    · rw [e]; exact h
    · exact hq j (by omega)
  rw [parBad, hg] at hbad hgo
  clear h hq hA2
  generalize P[i] = c at hbad hgo hrd
  refine GuardOb.mk (fun h => ?_) (fun h => ?_)
  · rw [h] at hbad hgo
    refine IdxOb.mk ⟨b1, 0, none⟩ i rfl rfl hlt ?_
    refine LoadOb.mk _ hrd ?_
    refine GuardOb.mk (fun h2 => ?_) (fun h2 => ?_)
    · refine GuardOb.mk (fun h3 => ?_) (fun _ => ?_)
      · exfalso
        rw [h] at h3
        cases h3
      · refine ArithOb.mk _ (next_wr (i := i) (by omega)) ?_
        exact ⟨i + 1, ⟨⟨by omega, hgo (by simp [h2])⟩, by omega⟩, .refl, .cons .refl (.cons .refl (.cons .refl .nil)), .cons rfl .nil⟩
    · refine ⟨_, _, .sub (List.nil_sublist _) .refl, ?_, rfl, rfl⟩
      rw [hbad (by simp [h2])]
  · rw [show decide ((i : Int) = t.root) = false from h] at hbad hgo
    refine GuardOb.mk (fun h3 => ?_) (fun h3 => ?_)
    · refine IdxOb.mk ⟨b1, 0, none⟩ i rfl rfl hlt ?_
      refine LoadOb.mk _ hrd ?_
      refine CondOb.mk (fun h2 => ?_) (fun h2 => ?_)
      · refine ⟨_, _, .sub (List.nil_sublist _) .refl, ?_, rfl, rfl⟩
        rw [hbad (by simp [h2])]
      · refine ArithOb.mk _ (next_wr (i := i) (by omega)) ?_
        exact ⟨i + 1, ⟨⟨by omega, hgo (by simp [h2])⟩, by omega⟩, .refl, .cons .refl (.cons .refl (.cons .refl .nil)), .cons rfl .nil⟩
    · exfalso
      rw [show decide ((i : Int) = t.root) = false from h] at h3
      cases h3
end Go.V

/-
  Walks: bonsairef04.Right, Sub, Clean at trees of one leaf.
-/
set_option linter.unusedVariables false
set_option linter.unusedSimpArgs false
namespace Go.V
open Go Go.Proofs

/-- A tree of one leaf, in memory. -/
structure LeafAt (I : GH) (a : Option Addr) (c : Nat) (k : Int) (s : ByteArray) : Prop where
  rs : RS I a 1 c 9 96 (leafNd k s).cells
theorem LeafAt.mono {I I' : GH} {a : Option Addr} {c : Nat} {k : Int} {s : ByteArray} (h : LeafAt I a c k s) (hI : ∀ b o, I b = some o → I' b = some o) : LeafAt I' a c k s := ⟨h.rs.mono hI⟩
theorem LeafAt.rd {I : GH} {a : Option Addr} {c : Nat} {k : Int} {s : ByteArray} (h : LeafAt I a c k s) : ∃ ad, a = some ad ∧ ∀ M, Rd I M (ad.add (0 * 9)) 9 (leafNd k s).cells := by
  have := RS.row (f := Nd.cells) (l := [leafNd k s]) Nd.cells_len (size := 9) (j := 0) (by simpa using h.rs) (by decide) (Nat.le_refl 1)
  simpa using this

set_option maxHeartbeats 1000000 in
theorem RRight_leaf {I : GH} {a : Option Addr} {c : Nat} {k : Int} {s : ByteArray} (h : LeafAt I a c k s) : Spec Tryz.prog 55 [.agg #[.slice a 1 c, .int .i64 0]] I [] fun v I' M' => v = .bool (fitsR (leafNd k s) 0) ∧ I' = I ∧ M' = [] := by
  refine spec_of_V [] TryzEOK Tryz.func55 rfl rfl rfl ?_
  intro B h0
  obtain ⟨ad, rfl, hrd⟩ := h.rd
  refine GuardOb.mk (fun _ => ?_) (fun h => by simp at h)
  refine CondOb.mk (fun h => by simp at h) (fun _ => ?_)
  refine MakeOb.mk 1 1 rfl rfl (Nat.le_refl _) (by decide) (by decide) ?_
  refine AllocOb.mk fun b hb hbM => ?_
  refine LoopOb.inv (ι := Nat) (fun i => { fl := [(1, .ref 1 0), (3, .val (.slice (some ⟨b, 0, none⟩) 1 1)), (4, .val (.int .i64 i))], cl := [(1, [.slice (some ad) 1 c, .int .i64 0])], gi := I, mi := [intRow b [0]] })
    (fun i => i = 0 ∨ (i = 1 ∧ fitsR (leafNd k s) 0 = true)) (fun i => 1 - i) ?_ ?_
  · exact ⟨0, .inl rfl, .refl, .cons .refl (.cons .refl (.cons .refl .nil)), .cons rfl .nil⟩
  · rintro i (rfl | ⟨rfl, hf⟩)
    · refine CondOb.mk (fun _ => ?_) (fun h => by simp at h)
      refine IdxOb.mk ad 0 rfl rfl (by decide) ?_
      refine LoadOb.mk _ (hrd _) ?_
      have hfs := RFits_spec (I := I) k s 0 0 none 0 0 [] 0
      refine CallOb.mk [] [intRow b [0]] _ (.refl _) hfs ?_
      rintro v I' M' - ⟨rfl, rfl, rfl⟩
      refine CondOb.mk (fun h => ?_) (fun h => ?_)
      · have hf : fitsR (leafNd k s) 0 = false := by simpa [leafNd] using h
        refine ⟨_, _, .sub (List.nil_sublist _) .refl, ?_, rfl, rfl⟩
        rw [hf]
      · have hf : fitsR (leafNd k s) 0 = true := by simpa [leafNd] using h
        refine LoopOb.unroll 1 ?_
        refine CondOb.mk (fun h => by simp [leafNd] at h) (fun _ => ?_)
        refine ArithOb.mk 1 (by decide) ?_
        exact ⟨1, ⟨.inr ⟨rfl, hf⟩, by simp⟩, .refl, .cons .refl (.cons .refl (.cons .refl .nil)), .cons rfl .nil⟩
    · refine CondOb.mk (fun h => by simp at h) (fun _ => ?_)
      refine LoopOb.inv (ι := Nat) (fun i => { fl := [(1, .ref 1 0), (3, .val (.slice (some ⟨b, 0, none⟩) 1 1)), (7, .val (.int .i64 i))], cl := [(1, [.slice (some ad) 1 c, .int .i64 0])], gi := I, mi := [intRow b [0]] })
        (fun i => i = 0 ∨ i = 1) (fun i => 1 - i) ?_ ?_
      · exact ⟨0, .inl rfl, .refl, .cons .refl (.cons .refl (.cons .refl .nil)), .cons rfl .nil⟩
      · rintro i (rfl | rfl)
        · refine CondOb.mk (fun _ => ?_) (fun h => by simp at h)
          refine GuardOb.mk (fun _ => ?_) (fun h => by simp at h)
          refine IdxOb.mk ⟨b, 0, none⟩ 0 rfl rfl (by decide) ?_
          refine LoadOb.mk [.int .i64 0] (intRow_rd (s := [0]) (j := 0) (by simp) (by decide)) ?_
          refine GuardOb.mk (fun _ => ?_) (fun h => by simp at h)
          refine GuardOb.mk (fun h => by simp at h) (fun _ => ?_)
          refine ArithOb.mk 1 (by decide) ?_
          exact ⟨1, ⟨.inr rfl, by simp⟩, .refl, .cons .refl (.cons .refl (.cons .refl .nil)), .cons rfl .nil⟩
        · refine CondOb.mk (fun h => by simp at h) (fun _ => ?_)
          refine ⟨_, _, .sub (List.nil_sublist _) .refl, ?_, rfl, rfl⟩
          rw [hf]

theorem intCell {I : GH} {M : List Blk} {b : Nat} {cs : List Value} {v : Value} (hM : (⟨b, .cells cs.toArray 3 (0, 0)⟩ : Blk) ∈ M) (h : cs.take 1 = [v]) : Rd I M ((⟨b, 0, none⟩ : Addr).add (0 * 1)) 1 [v] := by
  rw [addr_add _ rfl]
  exact ⟨rfl, _, _, _, .inr ⟨_, hM, rfl, rfl⟩, by simpa using h, rfl⟩

set_option maxHeartbeats 2000000 in
theorem RSub_leaf {I : GH} {a : Option Addr} {c : Nat} {k : Int} {s : ByteArray} (h : LeafAt I a c k s) (hf : fitsR (leafNd k s) 0 = true) : Spec Tryz.prog 104 [.agg #[.slice a 1 c, .int .i64 0], .int .i64 0] I []
    fun v I' M' => (∀ b o, I b = some o → I' b = some o) ∧ M' = [] ∧ ∃ a' c', v = .tuple #[.agg #[.slice a' 1 c', .int .i64 0], .bool true] ∧ LeafAt I' a' c' k s := by
  refine spec_of_V [] TryzEOK Tryz.func104 rfl rfl rfl ?_
  intro B h0
  obtain ⟨ad, rfl, hrd⟩ := h.rd
  refine CallOb.mk [] [] _ (.refl _) (RRight_leaf h) ?_
  rintro v I' M' - ⟨rfl, rfl, rfl⟩
  rw [hf]
  refine GuardOb.mk (fun _ => ?_) (fun h => by cases h)
  refine GuardOb.mk (fun _ => ?_) (fun h => by simp at h)
  refine CondOb.mk (fun h => by simp at h) (fun _ => ?_)
  refine AllocOb.mk fun b1 hb1 hbM1 => ?_
  refine LoopOb.inv (ι := Option (Nat × Nat × List Value)) (fun x => match x with
      | none => { fl := [(2, .ref 2 0), (4, .ref 4 0), (6, .val (.slice none 0 0)), (7, .val (.slice (some ⟨b1, 0, none⟩) 1 1))], cl := [(2, [.slice (some ad) 1 c, .int .i64 0]), (4, [.slice none 0 0, .int .i64 0])], gi := I', mi := [⟨b1, .cells #[.int .i64 0] 3 (0, 0)⟩] }
      | some (g, c', cur) => { fl := [(2, .ref 2 0), (4, .ref 4 0), (6, .val (.slice (some ⟨g, 0, none⟩) 1 c')), (7, .val (.slice (some ⟨b1, 0, none⟩) 0 1))], cl := [(2, [.slice (some ad) 1 c, .int .i64 0]), (4, [.slice none 0 0, .int .i64 0])], gi := I', mi := [⟨g, .cells cur.toArray 3 (0, 0)⟩] })
    (fun x => match x with
      | none => True
      | some (g, c', cur) => cur.take 1 = [.int .i64 0]) (fun x => match x with
      | none => 1
      | some _ => 0) ?_ ?_
  · exact ⟨none, trivial, .refl, .cons .refl (.cons .refl (.cons .refl (.cons .refl .nil))), .cons rfl (.cons rfl .nil)⟩
  · rintro (_ | ⟨g, c', cur⟩) hcur
    · refine CondOb.mk (fun _ => ?_) (fun h => by simp at h)
      refine ArithOb.mk 0 (by decide) ?_
      refine IdxOb.mk ⟨b1, 0, none⟩ 0 rfl rfl (by decide) ?_
      refine LoadOb.mk [.int .i64 0] (intCell (cs := [.int .i64 0]) (.head _) rfl) ?_
      refine ArithOb.mk 0 (by decide) ?_
      refine SliceOb.mk 0 0 rfl rfl (Nat.le_refl _) (by decide) ?_
      refine AllocOb.mk fun b2 hb2 hbM2 => ?_
      refine OtherOb.append TryzEOK rfl (by simp) (e := 3) rfl rfl rfl OS0 (OS0_ok 1) rfl (m := 1) rfl (news := [.int .i64 0]) (by decide) (blk_rd (b := b2) (cs := [.int .i64 0]) (k := 0) (n := 1) (T := 3) (.head _) (by simp)) rfl (.refl _) (by decide) (by decide) ?_
      intro g' c' cur' q1 q2 q3 q4
      refine IdxOb.mk ad 0 rfl rfl (by decide) ?_
      refine LoadOb.mk [.slice none 0 0] (Rd.part (k := 8) (m := 1) (hrd _) (by decide)) ?_
      refine OtherOb.append0 TryzEOK rfl (by simp) (e := 3) rfl rfl rfl (by simp) rfl rfl (Nat.zero_le _) rfl (.inl ⟨none, 0, rfl⟩) ?_
      exact ⟨some (g', c', cur'), ⟨q4, by simp⟩, .sub (.cons_cons _ (List.nil_sublist _)) .refl, .cons .refl (.cons .refl (.cons .refl (.cons .refl .nil))), .cons rfl (.cons rfl .nil)⟩
    · refine CondOb.mk (fun h => by simp at h) (fun _ => ?_)
      refine MakeOb.mk 1 1 rfl rfl (Nat.le_refl _) (by decide) (by decide) ?_
      refine AllocOb.mk fun b3 hb3 hbM3 => ?_
      refine ArithOb.mk 0 (by decide) ?_
      refine LoopOb.inv (ι := Option (Nat × Nat × List Value)) (fun x => match x with
          | none => { fl := [(2, .ref 2 0), (4, .ref 4 0), (6, .val (.slice (some ⟨g, 0, none⟩) 1 c')), (9, .val (.slice (some ⟨b3, 0, none⟩) 1 1)), (10, .val (.slice none 0 0)), (11, .val (.int .i64 0))], cl := [(2, [.slice (some ad) 1 c, .int .i64 0]), (4, [.slice none 0 0, .int .i64 0])], gi := I', mi := [intRow b3 [0], ⟨g, .cells cur.toArray 3 (0, 0)⟩] }
          | some (g2, c2, cur2) => { fl := [(2, .ref 2 0), (4, .ref 4 0), (10, .val (.slice (some ⟨g2, 0, none⟩) 1 c2)), (11, .val (.int .i64 (-1)))], cl := [(2, [.slice (some ad) 1 c, .int .i64 0]), (4, [.slice none 0 0, .int .i64 0])], gi := I', mi := [⟨g2, .cells cur2.toArray 67 (0, 0)⟩] })
        (fun x => match x with
          | none => True
          | some (g2, c2, cur2) => I' g2 = none ∧ cur2.take 9 = (leafNd k s).cells ∧ 1 ≤ c2) (fun x => match x with
          | none => 1
          | some _ => 0) ?_ ?_
      · exact ⟨none, trivial, .refl, .cons .refl (.cons .refl (.cons .refl (.cons .refl (.cons .refl (.cons .refl .nil))))), .cons rfl (.cons rfl .nil)⟩
      · rintro (_ | ⟨g2, c2, cur2⟩) hc2
        · refine CondOb.mk (fun _ => ?_) (fun h => by simp at h)
          refine CodeOb.draw TryzEOK rfl rfl rfl ?_
          refine IdxOb.mk ⟨g, 0, none⟩ 0 rfl rfl (by decide) ?_
          refine LoadOb.mk [.int .i64 0] (intCell (cs := cur) (.tail _ (.head _)) hcur) ?_
          refine IdxOb.mk ad 0 rfl rfl (by decide) ?_
          refine LoadOb.mk _ (hrd _) ?_
          refine AllocOb.mk fun b12 hb12 hbM12 => ?_
          refine StoreOb.mk [] [intRow b3 [0], ⟨g, .cells cur.toArray 3 (0, 0)⟩] _ _ rfl rfl (Nat.le_of_ble_eq_true rfl) rfl ?_
          refine IdxOb.mk ⟨g, 0, none⟩ 0 rfl rfl (by decide) ?_
          refine LoadOb.mk [.int .i64 0] (intCell (cs := cur) (.tail _ (.tail _ (.head _))) hcur) ?_
          refine IdxOb.mk ⟨b3, 0, none⟩ 0 rfl rfl (by decide) ?_
          refine StoreOb.add [⟨b12, .cells (leafNd k s).cells.toArray 67 (0, 0)⟩] [⟨g, .cells cur.toArray 3 (0, 0)⟩] _ _ rfl (Nat.le_of_ble_eq_true rfl) rfl ?_
          refine LoopOb.unroll 1 ?_
          refine LoadOb.mk [.slice none 0 0] (blk_rd (b := b12) (cs := (leafNd k s).cells) (k := 8) (n := 1) (T := 67) (.head _) (Nat.le_of_ble_eq_true rfl)) ?_
          refine CondOb.mk (fun h => by simp at h) (fun _ => ?_)
          refine StoreOb.mk [] _ _ _ rfl rfl (Nat.le_of_ble_eq_true rfl) rfl ?_
          refine LoadOb.mk (leafNd k s).cells (blk_rd (b := b12) (cs := (leafNd k s).cells) (k := 0) (n := 9) (T := 67) (.head _) (Nat.le_of_ble_eq_true rfl)) ?_
          refine AllocOb.mk fun b20 hb20 hbM20 => ?_
          refine OtherOb.appendN TryzEOK rfl (by simp) (e := 67) rfl rfl rfl OS0 (OS0_ok 9) rfl (m := 1) rfl (news := (leafNd k s).cells) (by decide) (blk_rd (b := b20) (cs := (leafNd k s).cells) (k := 0) (n := 9) (T := 67) (.head _) (Nat.le_of_ble_eq_true rfl)) rfl (.refl _) (by decide) (by decide) ?_
          intro g' c' cur' q0 q1 q2 q3 q4
          refine ArithOb.mk (-1) (by decide) ?_
          exact ⟨some (g', c', cur'), ⟨⟨q0, q4, q2⟩, by simp⟩, .sub (.cons_cons _ (List.nil_sublist _)) .refl, .cons .refl (.cons .refl (.cons .refl (.cons .refl .nil))), .cons rfl (.cons rfl .nil)⟩
        · refine CondOb.mk (fun h => by simp at h) (fun _ => ?_)
          obtain ⟨hg2, hcu, hc1⟩ := hc2
          refine ArithOb.mk 0 (by decide) ?_
          exact ⟨_, _, .prom rfl (by simp) .refl, ins_le hg2, rfl, _, _, rfl, ⟨⟨rfl, ⟨hc1, by decide⟩, .inr ⟨_, rfl, rfl, _, _, _, ins_self .., hcu⟩⟩⟩⟩
end Go.V

/-
  Walks: bonsairef04.Clean and Of, where the kids are leaves.
-/
set_option linter.unusedVariables false
set_option linter.unusedSimpArgs false
namespace Go.V
open Go Go.Proofs

/-- What stands aside of what, where an operation is done. -/
theorem OtherOb.nd {X : Ctx} {o : Oper} {F : Fr} {C : Bx} {I : GH} {M : List Blk} {K : KS} (h : OtherOb X o F C I M (fun F C I M => (M.map (·.num)).Nodup → (∀ x ∈ M, I x.num = none) → K F C I M)) : OtherOb X o F C I M K :=
  ⟨fun a w Q hR => Oper.wpIn_mono (fun a' w' => fun ⟨F', C', I', M', ⟨β, hr⟩, hk⟩ => ⟨F', C', I', M', ⟨β, hr⟩, hk hr.holds.nd hr.holds.d⟩) (h.1 a w Q hR)⟩
theorem OS.giveF {I : GH} {foot : List Nat} {os : OS} {xs : List Value} {e size b : Nat} (h : os.ok size xs) (hb : os.n * b ≤ 140737488355328) (hI : ∀ g, os.a = some g → I g = none ∧ g ∉ foot) (Mr : List Blk) :
    ∃ I', (∀ I2 M2, Wk foot I' Mr I2 M2 → Wk foot I (os.blk e ++ Mr) I2 M2) ∧ (∀ b o, I b = some o → I' b = some o) ∧ RS I' (os.a.map fun g => ⟨g, 0, none⟩) os.n os.c size b xs ∧ (∀ g, os.a ≠ some g → I' g = I g) := by
  obtain ⟨a, n, c, cur⟩ := os
  cases a with
  | none =>
    obtain ⟨h1, h2⟩ := h.nil rfl
    simp only at h1 h2
    subst h1
    subst h2
    exact ⟨I, fun _ _ k => k, fun _ _ h => h, ⟨h.len, ⟨Nat.le_refl _, by simp⟩, .inl rfl⟩, fun _ _ => rfl⟩
  | some g =>
    obtain ⟨h1, h2, h3, h4⟩ := h.cap g rfl
    obtain ⟨hg, hgf⟩ := hI g rfl
    refine ⟨ins I g (.cells cur.toArray e (0, 0)), fun _ _ k => .prom rfl hgf k, ins_le hg, ⟨h.len, ⟨h2, hb⟩, .inr ⟨⟨g, 0, none⟩, rfl, rfl, _, _, _, ins_self .., by simpa using h4⟩⟩, fun g' hg' => ?_⟩
    have : g' ≠ g := fun e => hg' (by rw [e])
    unfold ins
    simp only [beq_ne this, cond_false]
theorem appk_ok {os : OS} {xs ys : List Value} {size : Nat} (hos : os.ok size xs) {g c : Nat} {cur : List Value} (hy : ys.length = size) (h1 : cur.length = c * size) (h2 : os.n + 1 ≤ c) (h3 : c ≤ maxLen) (h4 : cur.take ((os.n + 1) * size) = xs ++ ys) :
    OS.ok ⟨some g, os.n + 1, c, cur⟩ size (xs ++ ys) := by
  have hl := hos.len
  refine ⟨?_, (fun h => by cases h), fun g3 hg3 => ⟨h1, h2, h3, h4⟩⟩
  rw [List.length_append, hl, hy]
  simp only
  rw [Nat.add_mul, Nat.one_mul]

set_option maxHeartbeats 1000000 in
theorem RClean_leaf {I : GH} {a : Option Addr} {c : Nat} {k : Int} {s : ByteArray} (h : LeafAt I a c k s) (hf : fitsR (leafNd k s) 0 = true) : Spec Tryz.prog 84 [.agg #[.slice a 1 c, .int .i64 0]] I []
    fun v I' M' => (∀ b o, I b = some o → I' b = some o) ∧ M' = [] ∧ ∃ a' c', v = .agg #[.slice a' 1 c', .int .i64 0] ∧ LeafAt I' a' c' k s := by
  refine spec_of_V [] TryzEOK Tryz.func84 rfl rfl rfl ?_
  intro B h0
  refine CallOb.mk [] [] _ (.refl _) (RSub_leaf h hf) ?_
  rintro v I' M' - ⟨hI, rfl, a', c', rfl, hl⟩
  exact ⟨_, _, .refl, hI, rfl, a', c', rfl, hl⟩

abbrev Lf := Tr × Int × ByteArray
def Lf.nd (x : Lf) : Nd := leafNd x.2.1 x.2.2
structure Lf.ok (I : GH) (x : Lf) : Prop where
  t : x.1.ok I
  ns : x.1.ns = [x.nd]
  root : x.1.root = 0
  fits : fitsR x.nd 0 = true
theorem Lf.ok.mono {I I' : GH} {x : Lf} (h : Lf.ok I x) (hI : ∀ b o, I b = some o → I' b = some o) : Lf.ok I' x := ⟨h.t.mono hI, h.ns, h.root, h.fits⟩
theorem Lf.ok.at {I : GH} {x : Lf} (h : Lf.ok I x) : ∃ a c, x.1.cells = [.slice a 1 c, .int .i64 0] ∧ LeafAt I a c x.2.1 x.2.2 := by
  obtain ⟨⟨ns, a, n, c, root⟩, k, s⟩ := x
  obtain ⟨ht, h1, h2, h3⟩ := h
  have h1' : ns = [leafNd k s] := h1
  clear h1 h3
  simp only at h2 ht
  subst h1'
  subst h2
  have hn := ht.n
  simp only [List.length_cons, List.length_nil] at hn
  subst hn
  exact ⟨a, c, rfl, ⟨by simpa [Lf.nd] using ht.rs⟩⟩
def kidCells (L : List Lf) : List Value := L.flatMap fun x => x.1.cells
def kidBlk (b : Nat) (L : List Lf) : Blk := ⟨b, .cells (kidCells L).toArray 37 (0, 0)⟩
def iotaI (n : Nat) : List Int := (List.range n).map fun (j : Nat) => (j : Int)
theorem iotaI_succ (n : Nat) : iotaI (n + 1) = iotaI n ++ [(n : Int)] := by simp [iotaI, List.range_succ]
theorem iotaI_len (n : Nat) : (iotaI n).length = n := by simp [iotaI]
def ofNd (k : Int) (s : ByteArray) (ka : Option Addr) (kc n : Nat) : Nd := ⟨k, 0, 0, 0, 0, s, 0, 0, ka, n, kc, iotaI n⟩

set_option maxHeartbeats 4000000 in
theorem ROf_leaf {I : GH} {k0 : Int} {s0 : ByteArray} {L : List Lf} {b cc : Nat} (hm : L.length ≤ 100) (hk0 : 0 ≤ k0 ∧ k0 < 256) (hs0 : s0.size ≤ 140737488355328) (hL : ∀ x ∈ L, Lf.ok I x) (hf : fitsR (leafNd k0 s0) L.length = true) :
    Spec Tryz.prog 67 [.agg #[.int .u8 k0, .int .u64 0, .int .u64 0, .int .u64 0, .int .u64 0, .string s0, .int .i64 0, .int .i64 0, .slice none 0 0], .slice (some ⟨b, 0, none⟩) L.length cc] I [kidBlk b L]
      fun v I' M' => (∀ b o, I b = some o → I' b = some o) ∧ M' = [kidBlk b L] ∧ ∃ (t : Tr) (ka : Option Addr) (kc : Nat), v = .tuple #[t.val, .bool true] ∧ t.ok I' ∧ t.root = L.length ∧ t.ns = L.map Lf.nd ++ [ofNd k0 s0 ka kc L.length] := by
  refine spec_of_V [] TryzEOK Tryz.func67 rfl rfl rfl ?_
  intro B h0
  have hfs := RFits_spec (I := I) k0 s0 0 0 none 0 0 [] L.length
  refine CallOb.mk [] [kidBlk b L] _ (.refl _) hfs ?_
  rintro v I' M' - ⟨rfl, rfl, rfl⟩
  refine CondOb.mk (fun h => ?_) (fun _ => ?_)
  · exfalso
    have : fitsR (leafNd k0 s0) L.length = false := by simpa [leafNd] using h
    rw [hf] at this
    cases this
  refine LoopOb.inv (ι := Nat × OS × OS × GH) (fun x => { fl := [(1, .val (.slice (some ⟨b, 0, none⟩) L.length cc)), (2, .ref 2 0), (4, .ref 4 0), (6, .val x.2.1.val), (7, .val (.int .i64 x.1))], cl := [(2, [.int .u8 k0, .int .u64 0, .int .u64 0, .int .u64 0, .int .u64 0, .string s0, .int .i64 0, .int .i64 0, x.2.2.1.val]), (4, [.slice none 0 0, .int .i64 0])], gi := x.2.2.2, mi := x.2.1.blk 67 ++ (x.2.2.1.blk 3 ++ [kidBlk b L]) })
    (fun x => x.1 ≤ L.length ∧ x.2.1.ok 9 ((L.take x.1).flatMap fun y => y.nd.cells) ∧ x.2.2.1.ok 1 ((iotaI x.1).map (.int .i64 ·)) ∧ (∀ b o, I' b = some o → x.2.2.2 b = some o)) (fun x => L.length - x.1) ?_ ?_
  · exact ⟨(0, OS0, OS0, I'), ⟨Nat.zero_le _, OS0_ok 9, OS0_ok 1, fun _ _ h => h⟩, .refl, .cons .refl (.cons .refl (.cons .refl (.cons .refl (.cons .refl .nil)))), .cons rfl (.cons rfl .nil)⟩
  · rintro ⟨i, o1, o2, I2⟩ ⟨hi, ho1, ho2, hI2⟩
    simp only at hi ho1 ho2 hI2
    have hn2 := ho2.len1
    rw [iotaI_len] at hn2
    have hn1 : o1.n = i := by
      have := ho1.len
      rw [flat_len _ 9 (fun x => Nd.cells_len _), List.length_take, Nat.min_eq_left hi] at this
      omega
    have hkb : ∀ {i : Nat} (hi : i < L.length) {I : GH} {M : List Blk}, kidBlk b L ∈ M → Rd I M ((⟨b, 0, none⟩ : Addr).add (i * 2)) 2 (L[i].1.cells) := fun {i} hi {I M} hM => by
      have hk := flat_at (fun x : Lf => x.1.cells) 2 (fun _ => rfl) L i hi
      have hl := flat_len (fun x : Lf => x.1.cells) 2 (fun _ => rfl) L
      have := blk_rd (I := I) (M := M) (b := b) (cs := kidCells L) (k := i * 2) (n := 2) (T := 37) hM (by unfold kidCells; rw [hl]; omega)
      unfold kidCells at this
      rwa [hk] at this
    refine CondOb.mk (fun h => ?_) (fun h => ?_)
    · have hlt : i < L.length := by simpa using h
      obtain ⟨a, c, hc, hlf⟩ := ((hL L[i] (List.getElem_mem hlt)).mono hI2).at
      have hfit := (hL L[i] (List.getElem_mem hlt)).fits
      have hr : ∀ {I : GH} {M : List Blk}, kidBlk b L ∈ M → Rd I M ((⟨b, 0, none⟩ : Addr).add (i * 2)) 2 [.slice a 1 c, .int .i64 0] := fun hM => by rw [← hc]; exact hkb hlt hM
      have hmem : kidBlk b L ∈ o1.blk 67 ++ (o2.blk 3 ++ [kidBlk b L]) := by simp
      refine IdxOb.mk ⟨b, 0, none⟩ i rfl rfl hlt ?_
      refine LoadOb.mk _ (hr hmem) ?_
      refine CallOb.mk [] _ _ (.refl _) (RRight_leaf hlf) ?_
      rintro v I3 M3 - ⟨rfl, rfl, rfl⟩
      refine CondOb.mk (fun h2 => ?_) (fun _ => ?_)
      · exfalso
        have : fitsR L[i].nd 0 = false := by simpa [Lf.nd] using h2
        rw [hfit] at this
        cases this
      refine IdxOb.mk ⟨b, 0, none⟩ i rfl rfl hlt ?_
      refine LoadOb.mk _ (hr hmem) ?_
      refine CallOb.mk [] _ _ (.refl _) (RClean_leaf hlf hfit) ?_
      rintro v I4 M4 - ⟨hI4, rfl, a', c', rfl, hl4⟩
      obtain ⟨ad', rfl, hrd'⟩ := hl4.rd
      refine LoopOb.inv (ι := Option (Nat × Nat × List Value)) (fun x => match x with
          | none => { fl := [(1, .val (.slice (some ⟨b, 0, none⟩) L.length cc)), (2, .ref 2 0), (4, .ref 4 0), (6, .val o1.val), (7, .val (.int .i64 i)), (8, .ref 8 0), (9, .val (.int .i64 o1.n)), (10, .val (.int .i64 0))], cl := [(2, [.int .u8 k0, .int .u64 0, .int .u64 0, .int .u64 0, .int .u64 0, .string s0, .int .i64 0, .int .i64 0, o2.val]), (4, [.slice none 0 0, .int .i64 0]), (8, [.slice (some ad') 1 c', .int .i64 0])], gi := I4, mi := o1.blk 67 ++ (o2.blk 3 ++ [kidBlk b L]) }
          | some (g1, c1, cur1) => { fl := [(1, .val (.slice (some ⟨b, 0, none⟩) L.length cc)), (2, .ref 2 0), (4, .ref 4 0), (6, .val (.slice (some ⟨g1, 0, none⟩) (o1.n + 1) c1)), (7, .val (.int .i64 i)), (8, .ref 8 0), (10, .val (.int .i64 1))], cl := [(2, [.int .u8 k0, .int .u64 0, .int .u64 0, .int .u64 0, .int .u64 0, .string s0, .int .i64 0, .int .i64 0, o2.val]), (4, [.slice none 0 0, .int .i64 0]), (8, [.slice (some ad') 1 c', .int .i64 0])], gi := I4, mi := [⟨g1, .cells cur1.toArray 67 (0, 0)⟩] ++ (o2.blk 3 ++ [kidBlk b L]) })
        (fun x => match x with
          | none => True
          | some (g1, c1, cur1) => OS.ok ⟨some g1, o1.n + 1, c1, cur1⟩ 9 (((L.take i).flatMap fun y => y.nd.cells) ++ L[i].nd.cells)) (fun x => match x with
          | none => 1
          | some _ => 0) ?_ ?_
      · exact ⟨none, trivial, .refl, .cons .refl (.cons .refl (.cons .refl (.cons .refl (.cons .refl (.cons .refl (.cons .refl (.cons .refl .nil))))))), .cons rfl (.cons rfl (.cons rfl .nil))⟩
      rintro (_ | ⟨g1, c1, cur1⟩) hq1
      · refine CondOb.mk (fun _ => ?_) (fun h => by simp at h)
        refine IdxOb.mk ad' 0 rfl rfl (by decide) ?_
        refine LoadOb.mk _ (hrd' _) ?_
        refine LoopOb.unroll 1 ?_
        refine CondOb.mk (fun h => by simp [leafNd] at h) (fun _ => ?_)
        refine AllocOb.mk fun b20 hb20 hbM20 => ?_
        refine OtherOb.append TryzEOK rfl (by simp) (e := 67) rfl rfl rfl o1 ho1 rfl (m := 1) rfl (news := L[i].nd.cells) (by decide) (blk_rd (b := b20) (cs := L[i].nd.cells) (k := 0) (n := 9) (T := 67) (.head _) (Nat.le_of_ble_eq_true rfl)) rfl
          (Mr := ⟨b20, .cells L[i].nd.cells.toArray 67 (0, 0)⟩ :: (o2.blk 3 ++ [kidBlk b L])) (List.perm_middle (l₁ := o1.blk 67) (l₂ := o2.blk 3 ++ [kidBlk b L])).symm (by simp only [maxLen]; omega) (by show (o1.n + 1) * 96 ≤ _; omega) ?_
        intro g1 c1 cur1 q1 q2 q3 q4
        refine ArithOb.mk 1 (by decide) ?_
        exact ⟨some (g1, c1, cur1), ⟨appk_ok ho1 (Nd.cells_len _) q1 q2 q3 q4, by simp⟩, .sub (.cons_cons _ (.cons _ (.refl _))) .refl, .cons .refl (.cons .refl (.cons .refl (.cons .refl (.cons .refl (.cons .refl (.cons .refl .nil)))))), .cons rfl (.cons rfl (.cons rfl .nil))⟩
      simp only at hq1
      refine CondOb.mk (fun h => by simp at h) (fun _ => ?_)
      have hlast : IntKind.i64.wrap (((o1.n + 1 : Nat) : Int) - 1) = (i : Int) := by rw [wrap_i64 ⟨by omega, by omega⟩]; omega
      refine ArithOb.mk (i : Int) hlast ?_
      refine AllocOb.mk fun b21 hb21 hbM21 => ?_
      refine OtherOb.append TryzEOK rfl (by simp) (e := 3) rfl rfl rfl o2 ho2 rfl (m := 1) rfl (news := [.int .i64 i]) (by decide) (blk_rd (b := b21) (cs := [.int .i64 i]) (k := 0) (n := 1) (T := 3) (.head _) (by simp)) rfl
        (Mr := [⟨b21, .cells #[.int .i64 i] 3 (0, 0)⟩, ⟨g1, .cells cur1.toArray 67 (0, 0)⟩] ++ [kidBlk b L]) (List.perm_append_comm_assoc [_, _] _ _) (by simp only [maxLen]; omega) (by show (o2.n + 1) * 8 ≤ _; omega) ?_
      intro g2 c2 cur2 r1 r2 r3 r4
      refine ArithOb.mk _ (next_wr (i := i) (by omega)) ?_
      refine ⟨(i + 1, ⟨some g1, o1.n + 1, c1, cur1⟩, ⟨some g2, o2.n + 1, c2, cur2⟩, I4), ⟨⟨by simp only; omega, ?_, ?_, fun b o h => hI4 _ _ (hI2 _ _ h)⟩, by simp only; omega⟩, ?_, .cons .refl (.cons .refl (.cons .refl (.cons .refl (.cons .refl .nil)))), .cons rfl (.cons rfl .nil)⟩
      · simp only
        rw [List.take_succ_eq_append_getElem hlt, List.flatMap_append]
        have : ([L[i]].flatMap fun y => y.nd.cells) = L[i].nd.cells := by simp
        rw [this]
        exact hq1
      · simp only
        rw [iotaI_succ, List.map_append]
        exact app1_ok ho2 r1 r2 r3 r4
      · refine .sub (M1 := [⟨g2, .cells cur2.toArray 3 (0, 0)⟩, ⟨g1, .cells cur1.toArray 67 (0, 0)⟩, kidBlk b L]) ?_ (.perm (List.Perm.swap _ _ _) .refl)
        exact .cons_cons _ (.cons _ (.refl _))
    · have hge : i = L.length := by
        have : ¬ i < L.length := by simpa using h
        omega
      subst hge
      refine AllocOb.mk fun b20 hb20 hbM20 => ?_
      refine OtherOb.nd ?_
      refine OtherOb.append TryzEOK rfl (by simp) (e := 67) rfl rfl rfl o1 ho1 rfl (m := 1) rfl (news := [.int .u8 k0, .int .u64 0, .int .u64 0, .int .u64 0, .int .u64 0, .string s0, .int .i64 0, .int .i64 0, o2.val]) (by decide) (blk_rd (b := b20) (cs := [.int .u8 k0, .int .u64 0, .int .u64 0, .int .u64 0, .int .u64 0, .string s0, .int .i64 0, .int .i64 0, o2.val]) (k := 0) (n := 9) (T := 67) (.head _) (Nat.le_of_ble_eq_true rfl)) rfl
        (Mr := ⟨b20, .cells _ 67 (0, 0)⟩ :: (o2.blk 3 ++ [kidBlk b L])) (List.perm_middle (l₁ := o1.blk 67) (l₂ := o2.blk 3 ++ [kidBlk b L])).symm (by simp only [maxLen]; omega) (by show (o1.n + 1) * 96 ≤ _; omega) ?_
      intro g1 c1 cur1 q1 q2 q3 q4 hnd hdj
      have hlast : IntKind.i64.wrap (((o1.n + 1 : Nat) : Int) - 1) = (L.length : Int) := by rw [wrap_i64 ⟨by omega, by omega⟩]; omega
      refine ArithOb.mk (L.length : Int) hlast ?_
      have hok1 := appk_ok (g := g1) (ys := [.int .u8 k0, .int .u64 0, .int .u64 0, .int .u64 0, .int .u64 0, .string s0, .int .i64 0, .int .i64 0, o2.val]) ho1 rfl q1 q2 q3 q4
      simp only [List.map_cons, List.map_append, List.map_nil, List.nodup_cons, List.mem_cons, List.mem_append, not_or] at hnd
      obtain ⟨⟨n1, n2, n3⟩, n4, n5⟩ := hnd
      have n6 := (List.nodup_append.1 n5)
      have hg1I := hdj ⟨g1, .cells cur1.toArray 67 (0, 0)⟩ (.head _)
      obtain ⟨I5, w1, w2, w3, w4⟩ := OS.giveF (foot := [(kidBlk b L).num]) (e := 3) (b := 8) ho2 (by omega) (fun g hg => ⟨hdj ⟨g, .cells o2.cur.toArray 3 (0, 0)⟩ (by simp [OS.blk, hg]), fun hgb => by
        simp only [List.mem_singleton] at hgb
        refine n6.2.2 g ?_ _ (List.mem_singleton.2 rfl) hgb
        simp [OS.blk, hg]⟩) [⟨g1, .cells cur1.toArray 67 (0, 0)⟩, kidBlk b L]
      have hg15 : I5 g1 = none := by
        rw [w4 g1 (fun hg => n2 (by simp [OS.blk, hg]))]
        exact hg1I
      obtain ⟨I6, x1, x2, x3, x4⟩ := OS.giveF (foot := [(kidBlk b L).num]) (e := 67) (b := 96) hok1 (by show (o1.n + 1) * 96 ≤ _; omega) (fun g hg => by cases hg; exact ⟨hg15, by simpa using n3⟩) [kidBlk b L]
      have hlen : L.length = o2.n := hn2.symm
      refine ⟨I6, [kidBlk b L], .sub (M1 := ⟨g1, .cells cur1.toArray 67 (0, 0)⟩ :: (o2.blk 3 ++ [kidBlk b L])) (.cons_cons _ (.cons _ (.refl _))) (.perm List.perm_middle.symm (w1 _ _ (x1 _ _ .refl))), fun b o h => x2 _ _ (w2 _ _ (hI2 _ _ h)), rfl,
        ⟨L.map Lf.nd ++ [ofNd k0 s0 (o2.a.map fun g => ⟨g, 0, none⟩) o2.c L.length], some ⟨g1, 0, none⟩, o1.n + 1, c1, L.length⟩, (o2.a.map fun g => ⟨g, 0, none⟩), o2.c, rfl, ⟨?_, ?_, ⟨by simp only; omega, by simp only; omega⟩⟩, rfl, rfl⟩
      · have e : (L.map Lf.nd ++ [ofNd k0 s0 (o2.a.map fun g => ⟨g, 0, none⟩) o2.c L.length]).flatMap Nd.cells = ((L.take L.length).flatMap fun y => y.nd.cells) ++ [.int .u8 k0, .int .u64 0, .int .u64 0, .int .u64 0, .int .u64 0, .string s0, .int .i64 0, .int .i64 0, o2.val] := by
          rw [List.take_length, List.flatMap_append, List.flatMap_map]
          simp [ofNd, Nd.cells, OS.val, hlen]
        rw [e]
        exact x3
      · intro d hd
        simp only [List.mem_append, List.mem_map, List.mem_singleton] at hd
        rcases hd with ⟨x, hx, rfl⟩ | rfl
        · have hxo := hL x hx
          have : x.nd ∈ x.1.ns := by rw [hxo.ns]; simp
          exact (hxo.t.ns _ this).mono fun b o h => x2 _ _ (w2 _ _ (hI2 _ _ h))
        · refine ⟨hk0, u0, u0, u0, u0, by show s0.size ≤ _; omega, i0, i0, ?_, fun x hx => ?_⟩
          · show RS I6 _ L.length _ 1 8 ((iotaI L.length).map _)
            rw [hlen] at w3 ⊢
            exact w3.mono x2
          · simp only [ofNd, iotaI, List.mem_map, List.mem_range] at hx
            obtain ⟨j, hj, rfl⟩ := hx
            exact ⟨by omega, by omega⟩
end Go.V
