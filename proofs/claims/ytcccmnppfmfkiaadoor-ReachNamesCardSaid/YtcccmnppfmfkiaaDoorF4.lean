/-
  The arguments of a row, opened: numbers, nodes, trees, rules, grammars, out of what the row reads; and shut again, where all that stood stands.
-/
import Derived.Test.YtcccmnppfmfkiaaDoorF3
import Derived.Test.YtcccmnppfmfkiaaDoorWu
import Derived.WideKeyArgs
import Derived.Below
set_option linter.unusedVariables false
set_option linter.unusedSimpArgs false
namespace Go.V
open Go Go.Proofs

section
variable {H : Type} {enc : TypeId × Value → H} {P : Program} {W : World} {base : Nat} {sp : Nat → Bool} {held : Bool}

theorem exists_list {α : Type} {p : Nat → α → Prop} : ∀ (n : Nat), (∀ i, i < n → ∃ d, p i d) → ∃ l : List α, l.length = n ∧ ∀ i (h : i < l.length), p i l[i]
  | 0, _ => ⟨[], rfl, fun i h => by simp at h⟩
  | n + 1, h => by
    obtain ⟨l, h1, h2⟩ := exists_list n fun i hi => h i (by omega)
    obtain ⟨d, hd⟩ := h n (by omega)
    refine ⟨l ++ [d], by simp [h1], fun i hi => ?_⟩
    by_cases hlt : i < l.length
    · rw [List.getElem_append_left hlt]
      exact h2 i hlt
    · have e : i = l.length := by simp at hi; omega
      subst e
      simpa [h1] using hd

theorem open_rs {α : Type} {f : α → List Value} {size : Nat} (hs : 0 < size) (hf : ∀ x, (f x).length = size) (ok : α → Prop) {t e : TypeId} (ht : P.underlying t = some (.slice e)) (hc : P.cellsOf e = size)
    (hin : ∀ fuel cs x, DataW.trod enc P W base sp held fuel e cs = some x → ∃ d, cs = f d ∧ ok d) {fuel : Nat} {cs : List Value} {x : DataW H × List MemPlace} (h : DataW.trod enc P W base sp held fuel t cs = some x) :
    ∃ (a : Option Addr) (n c : Nat) (l : List α), cs = [.slice a n c] ∧ RS (ghost W) a n c size 0 (l.flatMap f) ∧ l.length = n ∧ (∀ d ∈ l, ok d) ∧ (a = none → c = 0) ∧ c ≤ maxLen := by
  rcases DataW.trod_slice ht h with ⟨rfl, _⟩ | ⟨a, len, cap, elems, rest, m, _, rfl, _, hb, hl, hm, hlen, hel, _, _⟩
  · exact ⟨none, 0, 0, [], rfl, ⟨by simp, ⟨Nat.le_refl _, by omega⟩, .inl rfl⟩, rfl, fun d hd => by simp at hd, fun _ => rfl, by unfold maxLen; omega⟩
  have each : ∀ i, i < len → ∃ d, ok d ∧ W.cells? base (a.add (i * size)) size = some (f d) := fun i hi => by
    have h1 := hel i hi
    rw [hc, List.getElem?_eq_getElem (by omega)] at h1
    obtain ⟨cs', h2, h3⟩ := Option.bind_eq_some_iff.1 h1
    obtain ⟨d, rfl, hd⟩ := hin _ _ _ h3
    exact ⟨d, hd, h2⟩
  obtain ⟨l, hll, hlp⟩ := exists_list len each
  refine ⟨some a, len, cap, l, rfl, ⟨by rw [flat_len f size hf, hll], ⟨hl, by omega⟩, ?_⟩, hll, fun d hd => ?_, fun h => by simp at h, hm⟩
  · by_cases h0 : len = 0
    · exact .inl h0
    right
    have c0 := (hlp 0 (by omega)).2
    obtain ⟨-, -, hcell⟩ := World.cells?_some c0
    have h00 := hcell 0 hs
    rw [List.getElem?_eq_getElem (by rw [hf]; exact hs)] at h00
    have hspot : a.spot = none := by
      have := World.cell?_spot h00
      cases hsp : a.spot with
      | none => rfl
      | some s => simp [Addr.add, hsp] at this
    refine ⟨a, rfl, hspot, ?_⟩
    have hcell' : ∀ i (hi : i < l.length), ∀ k, k < size → W.cell? ⟨a.block, a.off + (i * size + k), none⟩ = (f l[i])[k]? := fun i hi k hk => by
      obtain ⟨-, -, hh⟩ := World.cells?_some (hlp i hi).2
      have := hh k hk
      rw [addr_add _ hspot, addr_add _ rfl] at this
      rw [← this]
      congr 2
      simp only []
      omega
    have hblk : ∃ cs T fr, W.heap[a.block]? = some (.cells cs T fr) := by
      have h1 := hcell' 0 (by omega) 0 hs
      rw [List.getElem?_eq_getElem (by rw [hf]; exact hs)] at h1
      unfold World.cell? at h1
      cases hh : W.heap[a.block]? with
      | none => simp [hh] at h1
      | some o =>
        cases o with
        | cells cs T fr => exact ⟨cs, T, fr, rfl⟩
        | _ => simp [hh] at h1
    obtain ⟨cs, T, fr, hh⟩ := hblk
    refine ⟨cs, T, fr, hh, ?_⟩
    have hfl := flat_len f size hf l
    apply List.ext_getElem?
    intro j
    by_cases hj : j < len * size
    · have hdiv : j / size < l.length := by
        rw [hll]
        exact Nat.div_lt_of_lt_mul (by rw [Nat.mul_comm]; exact hj)
      have hmod := Nat.mod_lt j hs
      have e := Nat.div_add_mod j size
      rw [Nat.mul_comm] at e
      have h1 := hcell' (j / size) hdiv (j % size) hmod
      rw [e] at h1
      have h2 := flat_at f size hf l (j / size) hdiv
      have h3 : (l.flatMap f)[j]? = (f l[j / size])[j % size]? := by
        rw [← h2, List.getElem?_take, if_pos hmod, List.getElem?_drop, e]
      rw [h3, ← h1, List.getElem?_take, if_pos hj, List.getElem?_drop]
      simp [World.cell?, hh]
    · rw [List.getElem?_eq_none (by rw [List.length_take]; omega), List.getElem?_eq_none (by rw [hfl, hll]; omega)]
  · obtain ⟨i, hi, rfl⟩ := List.getElem_of_mem hd
    exact (hlp i hi).1

theorem open_num {k : IntKind} {t : TypeId} {fuel : Nat} {cs : List Value} {x : DataW H × List MemPlace} (ht : P.underlying t = some (.int k)) (h : DataW.trod enc P W base sp held fuel t cs = some x) : ∃ n, cs = [.int k n] ∧ (Lit.int k n).wf = true := by
  obtain ⟨n, h1, _, h2⟩ := DataW.trod_int ht h
  exact ⟨n, h1, h2⟩
theorem wf_i64 {n : Int} (h : (Lit.int .i64 n).wf = true) : i64ok n := by
  simp [Lit.wf, IntKind.min, IntKind.max, IntKind.signed, IntKind.bits] at h
  exact h
theorem wf_u64 {n : Int} (h : (Lit.int .u64 n).wf = true) : u64ok n := by
  simp [Lit.wf, IntKind.min, IntKind.max, IntKind.signed, IntKind.bits] at h
  unfold u64ok
  omega
theorem wf_u8 {n : Int} (h : (Lit.int .u8 n).wf = true) : 0 ≤ n ∧ n < 256 := by
  simp [Lit.wf, IntKind.min, IntKind.max, IntKind.signed, IntKind.bits] at h
  omega
end

section
variable {H : Type} {enc : TypeId × Value → H} {W : World} {base : Nat} {sp : Nat → Bool} {held : Bool}
theorem open_ints1 {fuel : Nat} {cs : List Value} {x : DataW H × List MemPlace} (h : DataW.trod enc Tryd.prog W base sp held fuel 30 cs = some x) :
    ∃ (a : Option Addr) (n c : Nat) (l : List Int), cs = [.slice a n c] ∧ RS (ghost W) a n c 1 0 (l.map (.int .i64 ·)) ∧ l.length = n ∧ ∀ k ∈ l, i64ok k := by
  obtain ⟨a, n, c, l, h1, h2, h3, h4, -, -⟩ := open_rs (f := fun k => [Value.int .i64 k]) (size := 1) (by decide) (fun _ => rfl) i64ok (show Tryd.prog.underlying 30 = some (.slice 3) by kernel_rfl) (by kernel_rfl)
    (fun fuel cs x h => by
      obtain ⟨n, h1, h2⟩ := open_num (show Tryd.prog.underlying 3 = some (.int .i64) by kernel_rfl) h
      exact ⟨n, h1, wf_i64 h2⟩) h
  refine ⟨a, n, c, l, h1, ?_, h3, h4⟩
  rwa [← List.map_eq_flatMap] at h2
theorem list4 {α : Type} {l : List α} (h : l.length = 4) : ∃ a b c d, l = [a, b, c, d] := by
  match l, h with
  | [a, b, c, d], _ => exact ⟨a, b, c, d, rfl⟩
theorem list9 {α : Type} {l : List α} (h : l.length = 9) : ∃ a b c d e f g i j, l = [a, b, c, d, e, f, g, i, j] := by
  match l, h with
  | [a, b, c, d, e, f, g, i, j], _ => exact ⟨a, b, c, d, e, f, g, i, j, rfl⟩
theorem list3 {α : Type} {l : List α} (h : l.length = 3) : ∃ a b c, l = [a, b, c] := by
  match l, h with
  | [a, b, c], _ => exact ⟨a, b, c, rfl⟩
theorem list2 {α : Type} {l : List α} (h : l.length = 2) : ∃ a b, l = [a, b] := by
  match l, h with
  | [a, b], _ => exact ⟨a, b, rfl⟩
theorem list1 {α : Type} {l : List α} (h : l.length = 1) : ∃ a, l = [a] := by
  match l, h with
  | [a], _ => exact ⟨a, rfl⟩
theorem open_set4 {fuel : Nat} {cs : List Value} {x : DataW H × List MemPlace} (h : DataW.trod enc Tryd.prog W base sp held fuel 29 cs = some x) :
    ∃ a b c d : Int, cs = [.int .u64 a, .int .u64 b, .int .u64 c, .int .u64 d] ∧ u64ok a ∧ u64ok b ∧ u64ok c ∧ u64ok d := by
  obtain ⟨xs, m, _, _, hl, hxl, hi⟩ := DataW.trod_array (show Tryd.prog.underlying 29 = some (.array 4 27) by kernel_rfl) h
  rw [show Tryd.prog.cellsOf 29 = 4 by kernel_rfl] at hl
  rw [show Tryd.prog.cellsOf 27 = 1 by kernel_rfl] at hi
  have hu : Tryd.prog.underlying 27 = some (.int .u64) := by kernel_rfl
  obtain ⟨a, b, c, d, rfl⟩ := list4 hl
  have get : ∀ i, (hi4 : i < 4) → ∃ n, (([a, b, c, d] : List Value).drop (i * 1)).take 1 = [.int .u64 n] ∧ u64ok n := fun i hi4 => by
    have h1 := hi i hi4
    rw [List.getElem?_eq_getElem (by omega)] at h1
    obtain ⟨n, h2, h3⟩ := open_num hu h1
    exact ⟨n, h2, wf_u64 h3⟩
  obtain ⟨n0, e0, k0⟩ := get 0 (by decide)
  obtain ⟨n1, e1, k1⟩ := get 1 (by decide)
  obtain ⟨n2, e2, k2⟩ := get 2 (by decide)
  obtain ⟨n3, e3, k3⟩ := get 3 (by decide)
  simp at e0 e1 e2 e3
  subst e0 e1 e2 e3
  exact ⟨_, _, _, _, rfl, k0, k1, k2, k3⟩

theorem struct_fields {P : Program} {t : Nat} {l : List (Nat × Nat)} (h : (match P.underlying t with
    | some (.struct fs) => decide (fs.toList.map (fun f => (f.type, f.offset)) = l)
    | _ => false) = true) : ∃ fs, P.underlying t = some (.struct fs) ∧ fs.toList.map (fun f => (f.type, f.offset)) = l := by
  split at h
  · rename_i fs hu
    exact ⟨fs, hu, of_decide_eq_true h⟩
  · cases h
theorem field_at {P : Program} {fs : Array Field} {l : List (Nat × Nat)} {q : Nat → Nat → Prop} (hf : fs.toList.map (fun f => (f.type, f.offset)) = l) (h : ∀ (i : Nat) (f : Field), fs[i]? = some f → q f.type f.offset) : ∀ (i t o : Nat), l[i]? = some (t, o) → q t o := by
  subst hf
  intro i t o hi
  simp only [List.getElem?_map, Option.map_eq_some_iff, Prod.mk.injEq] at hi
  obtain ⟨f, h1, rfl, rfl⟩ := hi
  exact h i f (by simpa using h1)
/-- A struct's fields: each reads, at its place. -/
theorem open_fields {P : Program} {t : TypeId} {fs : Array Field} {fuel : Nat} {cs : List Value} {x : DataW H × List MemPlace} (ht : P.underlying t = some (.struct fs)) (h : DataW.trod enc P W base sp held fuel t cs = some x) :
    cs.length = P.cellsOf t ∧ ∀ (i : Nat) (f : Field), fs[i]? = some f → ∃ fuel y, DataW.trod enc P W base sp held fuel f.type ((cs.drop f.offset).take (P.cellsOf f.type)) = some y := by
  obtain ⟨xs, m, _, _, hl, hxl, hi⟩ := DataW.trod_struct ht h
  refine ⟨hl, fun i f hf => ?_⟩
  have hlt := (Array.getElem?_eq_some_iff.1 hf).1
  have h1 := hi i f hf
  rw [List.getElem?_eq_getElem (by omega)] at h1
  exact ⟨_, _, h1⟩

theorem open_node {fuel : Nat} {cs : List Value} {x : DataW H × List MemPlace} (h : DataW.trod enc Tryd.prog W base sp held fuel 32 cs = some x) : ∃ d : Nd, cs = d.cells ∧ NdW (ghost W) d := by
  obtain ⟨fs, ht, hf⟩ : ∃ fs, Tryd.prog.underlying 32 = some (.struct fs) ∧ fs.toList.map (fun f => (f.type, f.offset)) = [(5, 0), (29, 1), (9, 5), (3, 6), (3, 7), (30, 8)] := struct_fields (by kernel_rfl)
  obtain ⟨hl, hi⟩ := open_fields ht h
  have hi : ∀ (i t o : Nat), [(5, 0), (29, 1), (9, 5), (3, 6), (3, 7), (30, 8)][i]? = some (t, o) → ∃ fuel y, DataW.trod enc Tryd.prog W base sp held fuel t ((cs.drop o).take (Tryd.prog.cellsOf t)) = some y := field_at (P := Tryd.prog) hf hi
  rw [show Tryd.prog.cellsOf 32 = 9 by kernel_rfl] at hl
  obtain ⟨c0, c1, c2, c3, c4, c5, c6, c7, c8, rfl⟩ := list9 hl
  obtain ⟨_, _, h0⟩ := hi 0 _ _ rfl
  obtain ⟨_, _, h1⟩ := hi 1 _ _ rfl
  obtain ⟨_, _, h2⟩ := hi 2 _ _ rfl
  obtain ⟨_, _, h3⟩ := hi 3 _ _ rfl
  obtain ⟨_, _, h4⟩ := hi 4 _ _ rfl
  obtain ⟨_, _, h5⟩ := hi 5 _ _ rfl
  rw [show Tryd.prog.cellsOf 5 = 1 by kernel_rfl] at h0
  rw [show Tryd.prog.cellsOf 29 = 4 by kernel_rfl] at h1
  rw [show Tryd.prog.cellsOf 9 = 1 by kernel_rfl] at h2
  rw [show Tryd.prog.cellsOf 3 = 1 by kernel_rfl] at h3 h4
  rw [show Tryd.prog.cellsOf 30 = 1 by kernel_rfl] at h5
  obtain ⟨k, e0, w0⟩ := open_num (show Tryd.prog.underlying 5 = some (.int .u8) by kernel_rfl) h0
  obtain ⟨a, b, c, d, e1, w1, w2, w3, w4⟩ := open_set4 h1
  obtain ⟨s, e2, -, ws⟩ := DataW.trod_string (show Tryd.prog.underlying 9 = some .string by kernel_rfl) h2
  obtain ⟨lo, e3, wl⟩ := open_num (show Tryd.prog.underlying 3 = some (.int .i64) by kernel_rfl) h3
  obtain ⟨hi', e4, wh⟩ := open_num (show Tryd.prog.underlying 3 = some (.int .i64) by kernel_rfl) h4
  obtain ⟨ka, kn, kc, kids, e5, hrs, hkn, hkids⟩ := open_ints1 h5
  simp at e0 e1 e2 e3 e4 e5
  obtain ⟨e1a, e1b, e1c, e1d⟩ := e1
  subst e0 e1a e1b e1c e1d e2 e3 e4 e5
  exact ⟨⟨k, a, b, c, d, s, lo, hi', ka, kn, kc, kids⟩, rfl, wf_u8 w0, w1, w2, w3, w4, wf_i64 wl, wf_i64 wh, hrs, hkids, by unfold maxLen at ws; omega⟩
theorem open_tree {fuel : Nat} {cs : List Value} {x : DataW H × List MemPlace} (h : DataW.trod enc Tryd.prog W base sp held fuel 25 cs = some x) : ∃ t : Tr, cs = t.cells ∧ TrW (ghost W) t := by
  obtain ⟨fs, ht, hf⟩ : ∃ fs, Tryd.prog.underlying 25 = some (.struct fs) ∧ fs.toList.map (fun f => (f.type, f.offset)) = [(23, 0), (3, 1)] := struct_fields (by kernel_rfl)
  obtain ⟨hl, hi⟩ := open_fields ht h
  have hi : ∀ (i t o : Nat), [(23, 0), (3, 1)][i]? = some (t, o) → ∃ fuel y, DataW.trod enc Tryd.prog W base sp held fuel t ((cs.drop o).take (Tryd.prog.cellsOf t)) = some y := field_at (P := Tryd.prog) hf hi
  rw [show Tryd.prog.cellsOf 25 = 2 by kernel_rfl] at hl
  obtain ⟨c0, c1, rfl⟩ := list2 hl
  obtain ⟨_, _, h0⟩ := hi 0 _ _ rfl
  obtain ⟨_, _, h1⟩ := hi 1 _ _ rfl
  rw [show Tryd.prog.cellsOf 23 = 1 by kernel_rfl] at h0
  rw [show Tryd.prog.cellsOf 3 = 1 by kernel_rfl] at h1
  obtain ⟨a, n, c, l, e0, hrs, hn, hok, -, -⟩ := open_rs (f := Nd.cells) (size := 9) (by decide) Nd.cells_len (NdW (ghost W)) (show Tryd.prog.underlying 23 = some (.slice 32) by kernel_rfl) (by kernel_rfl) (fun fuel cs x h => open_node h) h0
  obtain ⟨r, e1, wr⟩ := open_num (show Tryd.prog.underlying 3 = some (.int .i64) by kernel_rfl) h1
  simp at e0 e1
  subst e0 e1
  exact ⟨⟨l, a, n, c, r⟩, rfl, hrs, hok, wf_i64 wr⟩
theorem open_def {fuel : Nat} {cs : List Value} {x : DataW H × List MemPlace} (h : DataW.trod enc Tryd.prog W base sp held fuel 35 cs = some x) : ∃ d : Df, cs = d.cells ∧ DfW (ghost W) d := by
  obtain ⟨fs, ht, hf⟩ : ∃ fs, Tryd.prog.underlying 35 = some (.struct fs) ∧ fs.toList.map (fun f => (f.type, f.offset)) = [(9, 0), (25, 1)] := struct_fields (by kernel_rfl)
  obtain ⟨hl, hi⟩ := open_fields ht h
  have hi : ∀ (i t o : Nat), [(9, 0), (25, 1)][i]? = some (t, o) → ∃ fuel y, DataW.trod enc Tryd.prog W base sp held fuel t ((cs.drop o).take (Tryd.prog.cellsOf t)) = some y := field_at (P := Tryd.prog) hf hi
  rw [show Tryd.prog.cellsOf 35 = 3 by kernel_rfl] at hl
  obtain ⟨c0, c1, c2, rfl⟩ := list3 hl
  obtain ⟨_, _, h0⟩ := hi 0 _ _ rfl
  obtain ⟨_, _, h1⟩ := hi 1 _ _ rfl
  rw [show Tryd.prog.cellsOf 9 = 1 by kernel_rfl] at h0
  rw [show Tryd.prog.cellsOf 25 = 2 by kernel_rfl] at h1
  obtain ⟨s, e0, -, ws⟩ := DataW.trod_string (show Tryd.prog.underlying 9 = some .string by kernel_rfl) h0
  obtain ⟨t, e1, ht⟩ := open_tree h1
  simp [Tr.cells] at e0 e1
  obtain ⟨e1a, e1b⟩ := e1
  subst e0 e1a e1b
  exact ⟨⟨s, t⟩, rfl, by unfold maxLen at ws; exact ws, ht⟩
theorem open_grammar {fuel : Nat} {cs : List Value} {x : DataW H × List MemPlace} (h : DataW.trod enc Tryd.prog W base sp held fuel 38 cs = some x) : ∃ g : Gr, cs = [.slice g.a g.n g.c] ∧ GrW (ghost W) g := by
  obtain ⟨fs, ht, hf⟩ : ∃ fs, Tryd.prog.underlying 38 = some (.struct fs) ∧ fs.toList.map (fun f => (f.type, f.offset)) = [(36, 0)] := struct_fields (by kernel_rfl)
  obtain ⟨hl, hi⟩ := open_fields ht h
  have hi : ∀ (i t o : Nat), [(36, 0)][i]? = some (t, o) → ∃ fuel y, DataW.trod enc Tryd.prog W base sp held fuel t ((cs.drop o).take (Tryd.prog.cellsOf t)) = some y := field_at (P := Tryd.prog) hf hi
  rw [show Tryd.prog.cellsOf 38 = 1 by kernel_rfl] at hl
  obtain ⟨c0, rfl⟩ := list1 hl
  obtain ⟨_, _, h0⟩ := hi 0 _ _ rfl
  rw [show Tryd.prog.cellsOf 36 = 1 by kernel_rfl] at h0
  obtain ⟨a, n, c, l, e0, hrs, hn, hok, -, -⟩ := open_rs (f := Df.cells) (size := 3) (by decide) Df.cells_len (DfW (ghost W)) (show Tryd.prog.underlying 36 = some (.slice 35) by kernel_rfl) (by kernel_rfl) (fun fuel cs x h => open_def h) h0
  exact ⟨⟨l, a, n, c⟩, e0, hrs, hok⟩
theorem agg_of {P : Program} {w : World} {r : Reach} {base t : Nat} {v : Value} {fs : Array Field} (ht : P.underlying t = some (.struct fs)) (h : Value.okWide P w r base t v) : ∃ cs, v = .agg cs := by
  obtain ⟨cs, h1, -⟩ := Go.WideShapes.okWide_struct ht h
  exact ⟨cs, h1⟩
set_option maxRecDepth 100000 in
/-- A grammar among the arguments. -/
theorem arg_grammar {W : World} {base : Nat} {v : Value} {d : DataW H} {p : List MemPlace} (h : DataW.Trod enc Tryd.prog W 0 (fun _ => true) true 38 v d p) (hv : Value.okWide Tryd.prog W .any base 38 v) : ∃ g : Gr, v = g.val ∧ GrW (ghost W) g := by
  obtain ⟨fs, ht, -⟩ := struct_fields (P := Tryd.prog) (t := 38) (l := [(36, 0)]) (by kernel_rfl)
  obtain ⟨cs, rfl⟩ := agg_of ht hv
  obtain ⟨fuel, hf⟩ := h
  obtain ⟨g, e, hg⟩ := open_grammar hf
  refine ⟨g, ?_, hg⟩
  have e' : cs.toList = [.slice g.a g.n g.c] := e
  cases cs
  simp only at e'
  subst e'
  rfl
end

/-! ### Shut again -/
theorem trodAll_stays {H : Type} {enc : TypeId × Value → H} {P : Program} (hl : laidOutB P = true) {W W' : World} (hk : OldKept W W') : ∀ {ts : List TypeId} {vs : List Value} {ds : List (DataW H)} {ps : List MemPlace}, (∀ t ∈ ts, P.readableRec t = true ∧ t < P.types.size) →
    DataW.TrodAll enc P W 0 (fun _ => true) true ts vs ds ps → (∀ p ∈ ps, p.block < W.heap.size) → ∀ sp : Nat → Bool, (∀ p ∈ ps, sp p.block = true) → DataW.TrodAll enc P W' 0 sp true ts vs ds ps
  | [], [], [], _, _, h, _, _, _ => h
  | t :: ts, v :: vs, d :: ds, _, ht, ⟨p, q, h1, h2, e⟩, hlt, sp, hs => by
    subst e
    refine ⟨p, q, ?_, ?_, rfl⟩
    · refine Go.WideElems.Trod_stays hl (ht t (.head _)).1 (ht t (.head _)).2 h1 (fun x hx => ?_) (fun x hx => hs x (List.mem_append.2 (.inl hx)))
      have hlt' := hlt x (List.mem_append.2 (.inl hx))
      cases x with
      | cell b o => exact World.cell?_of_block (w := W) (hk.old b hlt')
      | map b => exact hk.old b hlt'
    · exact trodAll_stays hl hk (fun t h => ht t (.tail _ h)) h2 (fun x hx => hlt x (List.mem_append.2 (.inr hx))) sp (fun x hx => hs x (List.mem_append.2 (.inr hx)))
end Go.V
