/-
  From a row's own words to the executor's: the tables that the row lists lie in the memory that stands; what a contract leaves alone.
-/
import Derived.Test.YtcccmnppfmfkiaaDoorWl
import Derived.ChangeSame
import Derived.ChangeArms
import Derived.OpenShut
import Derived.Deep.DeepHandedRow
import Derived.Lib.LaidTab
set_option linter.unusedVariables false
set_option linter.unusedSimpArgs false
namespace Go.V
open Go Go.Proofs

/-! ### What a contract gives to one who calls from without -/
def ghost (W : World) : GH := fun b => W.heap[b]?
theorem ghost_holds (W : World) : Holds (ghost W) [] W := ⟨fun b o h => h, (fun x hx => by cases hx), (fun x hx => by cases hx), List.nodup_nil⟩
structure OldKept (W W' : World) : Prop where
  old : ∀ b, b < W.heap.size → W'.heap[b]? = W.heap[b]?
  sz : W.heap.size ≤ W'.heap.size
  out : Same W W'
theorem calls_of_specE {P : Program} {f : Nat} {args : List Value} {W : World} {post : Value → GH → List Blk → Prop} (h : SpecE P f args (ghost W) [] post) :
    Calls P f args.toArray W fun e W' => ∃ v, e = .returned v ∧ (∃ I' M', post v I' M') ∧ OldKept W W' := by
  refine (h.2 W (ghost_holds W)).mono ?_
  rintro e W' ⟨v, I', M', rfl, hp, _, hK⟩
  exact ⟨v, rfl, ⟨I', M', hp⟩, fun b hb => hK.old b hb (fun y hy => by cases hy), hK.sz, hK.out⟩

theorem OldKept.kept {W W' : World} (h : OldKept W W') (may : MemPlace → Prop) : W.keptBut W' may := by
  refine ⟨h.out.1, h.out.2, fun i hi => ?_⟩
  rw [h.old i hi]
  cases W.heap[i]? with
  | none => rfl
  | some o => cases o <;> simp
theorem OldKept.frozen {W W' : World} (h : OldKept W W') {a : Addr} (ha : a.block < W.heap.size) : W'.frozen? a = W.frozen? a := by
  unfold World.frozen?
  rw [h.old _ ha]

variable {H : Type} {enc : TypeId × Value → H} {P : Program}
/-- The row's closing, where all that stood at the call stands. -/
theorem post_of_old {f : Func} {s : ChangeSpec} {apart fresh handsOn again : Bool} {W W' : World} {args : Array Value} {v : Value} {ds gs : List (DataW H)} {before pa pv : List MemPlace}
    (hW : DataW.Whole enc P f.params.toList s.vars apart W args.toList ds gs before)
    (hres : ∀ (b : Nat) (sp : Nat → Bool) (hd : Bool), DataW.TrodAll enc P W' b sp hd f.resultTypes.toList (v.resultList f.resultTypes.size) (s.fn H (ds ++ gs)).results [])
    (hargs : ∀ sp : Nat → Bool, (∀ p ∈ before, sp p.block = true) → DataW.TrodAll enc P W' 0 sp true f.params.toList args.toList (s.fn H (ds ++ gs)).args pa)
    (hvars : ∀ sp : Nat → Bool, (∀ p ∈ before, sp p.block = true) → DataW.TrodVars enc P W' sp s.vars (s.fn H (ds ++ gs)).vars pv)
    (hps : before = pa ++ pv) (hk : OldKept W W')
    (hok : ∀ (j : Nat) (t : TypeId) (r : Value), f.resultTypes[j]? = some t → (v.resultList f.resultTypes.size)[j]? = some r → Value.okWide P W' .any 0 t r) :
    s.post enc P f apart fresh handsOn again W args v W' := by
  have hold : ∀ p ∈ before, (fun b => decide (b < W.heap.size)) p.block = true := fun p hp => by simpa using hW.lt p hp
  have hlt : ∀ p ∈ before, p.block < W.heap.size := fun p hp => hW.lt p hp
  refine ⟨ds, gs, before, [], pa, pv, hW, hres _ _ _, hargs _ hold, hvars _ hold, World.keptBut_mono (fun p hp => ⟨hp, ?_⟩) (hk.kept (· ∈ before)), fun _ => ?_⟩
  · rw [hps, List.mem_append] at hp
    exact Or.inr hp
  · obtain ⟨_, _, _, _, _, hz, hn⟩ := hW
    refine ⟨hok, _, _, ([] ++ pa) ++ pv, ⟨[] ++ pa, pv, ChangeShapes.trodAll_append (hargs _ (fun _ _ => rfl)) (hres _ _ _), hvars _ (fun _ _ => rfl), rfl, ?_, ?_⟩, ?_⟩
    · intro b off hp
      have hp' : MemPlace.cell b off ∈ before := by rw [hps]; simpa using hp
      rw [hk.frozen (a := ⟨b, off, none⟩) (hlt _ hp')]
      exact hz b off hp'
    · intro ha
      have := hn ha
      rw [hps] at this
      simpa using this
    · intro p hp _
      rw [hps]
      simpa using hp

/-! ### Tables -/
def leafVal : DataW H → Option Value
  | .lit (.int k z) => some (.int k z)
  | .lit (.string l) => some (.string ⟨l.toArray⟩)
  | .lit (.bool b) => some (.bool b)
  | _ => none
def leafT (P : Program) (e : TypeId) : Bool := match P.underlying e with
  | some .bool | some (.int _) | some .string => true
  | _ => false
section
variable {w : World} {base : Nat} {sp : Nat → Bool} {held : Bool} {fuel : Nat} {t e : TypeId} {cs : List Value} {d : DataW H} {p : List MemPlace}
theorem leaf_inv (he : leafT P e = true) (h : DataW.trod enc P w base sp held fuel e cs = some (d, p)) {v : Value} (hv : leafVal d = some v) : cs = [v] := by
  unfold leafT at he
  split at he
  · rename_i hu
    obtain ⟨b, rfl, hx⟩ := DataW.trod_bool hu h
    cases hx
    simpa [leafVal] using hv
  · rename_i k hu
    obtain ⟨n, rfl, hx, _⟩ := DataW.trod_int hu h
    cases hx
    simpa [leafVal] using hv
  · rename_i hu
    obtain ⟨s, rfl, hx, _⟩ := DataW.trod_string hu h
    cases hx
    simpa [leafVal] using hv
  · cases he
theorem mapM_get {α β : Type} {f : α → Option β} : ∀ {l : List α} {r : List β}, l.mapM f = some r → r.length = l.length ∧ ∀ i (h : i < l.length) (h' : i < r.length), f l[i] = some r[i]
  | [], r, h => by
    simp at h
    subst h
    exact ⟨rfl, fun i h => by simp at h⟩
  | x :: l, r, h => by
    simp only [List.mapM_cons, Option.bind_eq_bind, Option.bind_eq_some_iff, Option.pure_def, Option.some.injEq] at h
    obtain ⟨b, hb, r', hr', rfl⟩ := h
    obtain ⟨h1, h2⟩ := mapM_get hr'
    refine ⟨by simp [h1], fun i hi hi' => ?_⟩
    cases i with
    | zero => simpa using hb
    | succ i => simpa using h2 i (by simpa using hi) (by simpa using hi')
theorem pieces_one {cs vs : List Value} (hl : cs.length = vs.length) (h : ∀ i (hi : i < vs.length), (cs.drop i).take 1 = [vs[i]]) : cs = vs := by
  apply List.ext_getElem hl
  intro i h1 h2
  have := h i h2
  rw [List.drop_eq_getElem_cons h1, List.take_succ_cons, List.take_zero] at this
  simpa using this
theorem leaves_array {n : Nat} (ht : P.underlying t = some (.array n e)) (he : leafT P e = true) (hce : P.cellsOf e = 1) (hct : P.cellsOf t = n) {ds : List (DataW H)} (h : DataW.trod enc P w base sp held fuel t cs = some (.agg ds, p)) {vs : List Value} (hv : ds.mapM leafVal = some vs) : cs = vs := by
  obtain ⟨xs, m, rfl, hx, hl, hxl, hi⟩ := DataW.trod_array ht h
  have hds : ds = xs.map (·.1) := by
    have := congrArg Prod.fst hx
    simpa using this
  obtain ⟨g1, g2⟩ := mapM_get hv
  have hvl : vs.length = n := by rw [g1, hds]; simpa using hxl
  refine pieces_one (by rw [hl, hct, hvl]) fun i hi' => ?_
  have h1 := hi i (by omega)
  rw [hce, Nat.mul_one] at h1
  have hxi : i < xs.length := by omega
  rw [List.getElem?_eq_getElem hxi] at h1
  have h2 := g2 i (by rw [hds]; simpa using hxi) hi'
  have h3 : ds[i]'(by rw [hds]; simpa using hxi) = xs[i].1 := by simp [hds]
  rw [h3] at h2
  exact leaf_inv he (d := xs[i].1) (p := xs[i].2) h1 h2
theorem leaves_struct {fs : Array Field} (ht : P.underlying t = some (.struct fs)) (hf : ∀ (i : Nat) (f : Field), fs[i]? = some f → leafT P f.type = true ∧ f.offset = i ∧ P.cellsOf f.type = 1) (hct : P.cellsOf t = fs.size) {ds : List (DataW H)} (h : DataW.trod enc P w base sp held fuel t cs = some (.agg ds, p)) {vs : List Value} (hv : ds.mapM leafVal = some vs) : cs = vs := by
  obtain ⟨xs, m, rfl, hx, hl, hxl, hi⟩ := DataW.trod_struct ht h
  have hds : ds = xs.map (·.1) := by
    have := congrArg Prod.fst hx
    simpa using this
  obtain ⟨g1, g2⟩ := mapM_get hv
  have hvl : vs.length = fs.size := by rw [g1, hds]; simpa using hxl
  refine pieces_one (by rw [hl, hct, hvl]) fun i hi' => ?_
  have hif : i < fs.size := by omega
  obtain ⟨k1, k2, k3⟩ := hf i fs[i] (Array.getElem?_eq_getElem hif)
  have h1 := hi i fs[i] (Array.getElem?_eq_getElem hif)
  rw [k2, k3] at h1
  have hxi : i < xs.length := by omega
  rw [List.getElem?_eq_getElem hxi] at h1
  have h2 := g2 i (by rw [hds]; simpa using hxi) hi'
  have h3 : ds[i]'(by rw [hds]; simpa using hxi) = xs[i].1 := by simp [hds]
  rw [h3] at h2
  exact leaf_inv k1 (d := xs[i].1) (p := xs[i].2) h1 h2
theorem pieces_flat {sz : Nat} : ∀ (rows : List (List Value)) (cs : List Value), cs.length = rows.length * sz → (∀ i (hi : i < rows.length), (cs.drop (i * sz)).take sz = rows[i]) → cs = rows.flatten
  | [], cs, hl, _ => List.eq_nil_of_length_eq_zero (by simpa using hl)
  | r :: rows, cs, hl, h => by
    have h0 := h 0 (by simp)
    simp only [Nat.zero_mul, List.drop_zero, List.getElem_cons_zero] at h0
    rw [List.length_cons, Nat.add_mul, Nat.one_mul] at hl
    have ih := pieces_flat (sz := sz) rows (cs.drop sz) (by rw [List.length_drop]; omega) fun i hi => by
      have := h (i + 1) (by simpa using hi)
      rw [List.drop_drop, show sz + i * sz = (i + 1) * sz from by rw [Nat.add_mul]; omega]
      simpa using this
    rw [List.flatten_cons, ← ih, ← h0, List.take_append_drop]
/-- An array of rows. -/
theorem rows_array {n sz : Nat} (ht : P.underlying t = some (.array n e)) (hce : P.cellsOf e = sz) (hct : P.cellsOf t = n * sz) {ds : List (DataW H)} (h : DataW.trod enc P w base sp held fuel t cs = some (.agg ds, p)) {rows : List (List Value)} (hr : rows.length = ds.length)
    (hin : ∀ i (hi : i < ds.length) (hi' : i < rows.length) fuel cs p, DataW.trod enc P w base sp held fuel e cs = some (ds[i], p) → cs = rows[i]) : cs = rows.flatten := by
  obtain ⟨xs, m, rfl, hx, hl, hxl, hi⟩ := DataW.trod_array ht h
  have hds : ds = xs.map (·.1) := by
    have := congrArg Prod.fst hx
    simpa using this
  have hrl : rows.length = n := by rw [hr, hds]; simpa using hxl
  refine pieces_flat (sz := sz) rows cs (by rw [hl, hct, hrl]) fun i hi' => ?_
  have h1 := hi i (by omega)
  rw [hce] at h1
  have hxi : i < xs.length := by omega
  rw [List.getElem?_eq_getElem hxi] at h1
  have h3 : ds[i]'(by rw [hds]; simpa using hxi) = xs[i].1 := by simp [hds]
  exact hin i (by rw [hds]; simpa using hxi) hi' m _ xs[i].2 (by rw [h3]; exact h1)
def rowVal (d : DataW H) : Option (List Value) := match d with
  | .agg l => l.mapM leafVal
  | _ => none
theorem rows_array2 {n sz : Nat} (ht : P.underlying t = some (.array n e)) (hce : P.cellsOf e = sz) (hct : P.cellsOf t = n * sz) {ds : List (DataW H)} (h : DataW.trod enc P w base sp held fuel t cs = some (.agg ds, p)) {rows : List (List Value)} (hr : ds.mapM rowVal = some rows)
    (hin : ∀ fuel cs p l row, DataW.trod enc P w base sp held fuel e cs = some (.agg l, p) → l.mapM leafVal = some row → cs = row) : cs = rows.flatten := by
  obtain ⟨g1, g2⟩ := mapM_get hr
  refine rows_array ht hce hct h g1 fun i hi hi' fuel cs p h' => ?_
  have h2 := g2 i hi hi'
  unfold rowVal at h2
  split at h2
  · rename_i l hl
    rw [hl] at h'
    exact hin _ _ _ _ _ h' h2
  · cases h2
end
end Go.V
