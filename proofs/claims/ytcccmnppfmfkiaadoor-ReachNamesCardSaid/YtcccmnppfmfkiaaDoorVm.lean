/-
  Maps from texts to numbers, of the function's own: made, asked, filled.
-/
import Derived.Test.YtcccmnppfmfkiaaDoorVb
import Derived.WideMake
set_option linter.unusedVariables false
set_option linter.unusedSimpArgs false
namespace Go.V
open Go

section
variable {X : Ctx} {β : Nat → Nat} {a : Act} {w : World} {F : Fr} {C : Bx} {I : GH} {M : List Blk} {o : Oper} {K : KS}

/-- A block of the function's own turns. -/
theorem RelB.swap {n : Nat} {ob ob' : Obj} {w' : World} (h : RelB X β a w F C I (⟨n, ob⟩ :: M)) (hs : w'.heap.size = w.heap.size) (hn : w'.heap[n]? = some ob') (hb : ∀ b, b ≠ n → w'.heap[b]? = w.heap[b]?) (ho : Same w w') : RelB X β a w' F C I (⟨n, ob'⟩ :: M) := by
  have h1 := h.lose hs hb ho
  have hx0 : (⟨n, ob⟩ : Blk) ∈ (⟨n, ob⟩ : Blk) :: M := by simp
  have hnd := h.holds.nd
  simp only [List.map_cons, List.nodup_cons] at hnd
  have mem : ∀ x, x ∈ (⟨n, ob'⟩ : Blk) :: M → x = ⟨n, ob'⟩ ∨ x ∈ M := fun x hx => List.mem_cons.1 hx
  exact {
    size := h1.size
    defers := by
      obtain ⟨rs, e1, e2, e3⟩ := h1.defers
      obtain ⟨rs', f1, f2, f3⟩ := h.defers
      refine ⟨rs, e1, e2, fun r hr => { e3 r hr with noM := fun x hx => ?_ }⟩
      rcases mem x hx with rfl | hx
      · have e4 : rs = rs' := by
          have := e1.symm.trans f1
          have hinj : ∀ l l' : List Nat, l.map markOf = l'.map markOf → l = l' := by
            intro l
            induction l with
            | nil => intro l' h; cases l' with
              | nil => rfl
              | cons => simp at h
            | cons y l ih => intro l' h; cases l' with
              | nil => simp at h
              | cons z l' =>
                simp only [List.map_cons, List.cons.injEq, markOf, Deferred.mk.injEq] at h
                have hy : y = z := by simpa using h.1
                rw [hy, ih l' h.2]
          exact hinj _ _ this
        subst e4
        exact (f3 r hr).noM ⟨n, ob⟩ hx0
      · exact (e3 r hr).noM x hx
    holds := {
      i := h1.holds.i
      m := fun x hx => by
        rcases mem x hx with rfl | hx
        · exact hn
        · exact h1.holds.m x hx
      d := fun x hx => by
        rcases mem x hx with rfl | hx
        · exact h.holds.d ⟨n, ob⟩ hx0
        · exact h1.holds.d x hx
      nd := by simpa using hnd }
    fr := h.fr
    bx := fun s cs hcs => by
      have hbx := h.bx s cs hcs
      refine { h1.bx s cs hcs with noM := fun x hx => ?_ }
      rcases mem x hx with rfl | hx
      · exact hbx.noM ⟨n, ob⟩ hx0
      · exact (h1.bx s cs hcs).noM x hx
    inj := h.inj
    le0 := h.le0
    new0 := h.new0
    own := fun x hx => by
      rcases mem x hx with rfl | hx
      · exact h.own ⟨n, ob⟩ hx0
      · exact h1.own x hx
    old := h1.old
    out := h1.out
    sz := h1.sz }

/-- The entries of a map that was only filled. -/
def ents (l : List (ByteArray × Int)) : Nat → List MapEntry
  | i => match l with
    | [] => []
    | p :: l => { key := .string p.1, val := .int .i64 p.2, born := i } :: ents l (i + 1)
def mapO (l : List (ByteArray × Int)) : Obj := .map (ents l 0).toArray l.length
def lookM (s : ByteArray) : List (ByteArray × Int) → Option Int
  | [] => none
  | p :: l => bif decide (s = p.1) then some p.2 else lookM s l

theorem ents_snoc (l : List (ByteArray × Int)) (p : ByteArray × Int) : ∀ i, ents (l ++ [p]) i = ents l i ++ [{ key := .string p.1, val := .int .i64 p.2, born := i + l.length }] := by
  induction l with
  | nil => intro i; simp [ents]
  | cons q l ih =>
    intro i
    simp only [List.cons_append, ents, ih, List.length_cons, List.cons.injEq, true_and, List.append_cancel_left_eq, MapEntry.mk.injEq, and_true]
    omega

theorem bytes_beq (a b : ByteArray) : (a == b) = decide (a = b) := by
  rw [Bool.eq_iff_iff]
  simp only [decide_eq_true_eq]
  constructor
  · intro h
    first | exact eq_of_beq h | exact ByteArray.ext (eq_of_beq (a := a.data) (b := b.data) h)
  · rintro rfl
    first | exact beq_self_eq_true _ | exact beq_self_eq_true a.data
theorem findNow_ents (s : ByteArray) : ∀ (l : List (ByteArray × Int)) (i j : Nat), ∃ r, Instr.findNow .string (.string s) (ents l i) j = some r ∧ r.map (·.2) = (lookM s l).map (Value.int .i64)
  | [], i, j => ⟨none, rfl, rfl⟩
  | p :: l, i, j => by
    obtain ⟨r, h1, h2⟩ := findNow_ents s l (i + 1) (j + 1)
    unfold ents Instr.findNow
    simp only [Instr.sameNow, bytes_beq]
    cases hb : decide (s = p.1) with
    | true => exact ⟨_, rfl, by simp [lookM, hb]⟩
    | false => exact ⟨r, h1, by simp only [lookM, hb, cond_false]; exact h2⟩

/-- make(map). -/
theorem OtherOb.makeMap (hE : EOK X.P X.E) {t : Nat} {r : Operand} (ho : o.op = .makeMap t (some r)) (hd : ∀ d, o.dst = some d → d < X.n) {ti : TI} {k e : Nat} (ht : X.E t = some ti) (hts : ti.sh = .map k e)
    {q : IntKind} {n : Int} (hr : ev F r = .val (.int q n)) (h : ∀ b, K (put o.dst (.val (.map (some b))) F) C I (⟨b, mapO []⟩ :: M)) : OtherOb X o F C I M K := by
  refine ⟨fun a w Q ⟨β, hR⟩ => ?_⟩
  obtain ⟨d, hud, hdd⟩ := (hE _ _ ht).und
  have h1 : d = .map k e := by rw [hts] at hdd; cases d <;> simp_all [shOf]
  subst h1
  have er := eval_of_ev hR.fr hr
  refine wpIn_val (by rw [ho]; simp) (v := .map (some w.heap.size)) (w' := w.alloc (.map #[] 0)) ?_ ⟨_, _, _, _, ⟨β, RelB.put (x := .val (.map (some w.heap.size))) (hR.alloc_blk (mapO [])) hd rfl⟩, h _⟩
  unfold execOp
  simp only [ho, Option.map_some, er]
  simp [Instr.makeMap, run_underlying hud, asInt, asIntOf_int]

/-- 'v, ok := m[s]'. -/
theorem OtherOb.lookup (hE : EOK X.P X.E) {t : Nat} {x y : Operand} (ho : o.op = .lookup t x y true) (hd : ∀ d, o.dst = some d → d < X.n) {ti tk : TI} {k e : Nat} (ht : X.E t = some ti) (hts : ti.sh = .map k e) (hk : X.E k = some tk) (hks : tk.sh = .string)
    (hz : ∀ w, (zeroValue e).run X.P w = .ok (.int .i64 0) w) {g : Nat} {l : List (ByteArray × Int)} {s : ByteArray} (hx : ev F x = .val (.map (some g))) (hy : ev F y = .val (.string s)) (hM : (⟨g, mapO l⟩ : Blk) ∈ M)
    (h : K (put o.dst (.val (.tuple #[.int .i64 ((lookM s l).getD 0), .bool (lookM s l).isSome])) F) C I M) : OtherOb X o F C I M K := by
  refine ⟨fun a w Q ⟨β, hR⟩ => ?_⟩
  obtain ⟨d, hud, hdd⟩ := (hE _ _ ht).und
  have h1 : d = .map k e := by rw [hts] at hdd; cases d <;> simp_all [shOf]
  subst h1
  obtain ⟨dk, huk, hdk⟩ := (hE _ _ hk).und
  have h2 : dk = .string := by rw [hks] at hdk; cases dk <;> simp_all [shOf]
  subst h2
  have hg : w.heap[g]? = some (.map (ents l 0).toArray l.length) := hR.holds.m _ hM
  have ex := eval_of_ev hR.fr hx
  have ey := eval_of_ev hR.fr hy
  obtain ⟨r, hf1, hf2⟩ := findNow_ents s l 0 0
  have hc : (Instr.checkKey (ents l 0).toArray.isEmpty 10000 k (.string s)).run X.P w = .ok () w := MapKept.run_checkKey (k := .string s) huk (by simp [MapKept.IsKey]) _ 9999
  have hfk : (Instr.findKey k (.string s) (ents l 0)).run X.P w = .ok r w := MapKept.run_findKey huk hf1
  have hrun : (Instr.lookup t (.map (some g)) (.string s) true).run X.P w = .ok (.tuple #[.int .i64 ((lookM s l).getD 0), .bool (lookM s l).isSome]) w := by
    unfold Instr.lookup
    simp only [Sem.run_bind, run_underlying hud, Result.andThen_ok, MapKept.run_getObj_map hg, Sem.run_pure, hc, hfk]
    cases r with
    | none =>
      cases hl : lookM s l with
      | none => simp [hz]
      | some v => rw [hl] at hf2; simp at hf2
    | some p =>
      cases hl : lookM s l with
      | none => rw [hl] at hf2; simp at hf2
      | some v =>
        rw [hl] at hf2
        simp only [Option.map_some, Option.some.injEq] at hf2
        simp [hf2]
  refine done_vv hR hd (by rw [ho]; simp) ?_ h
  unfold execOp
  simp only [ho, ex, ey, Sem.run_bind, hrun, Result.andThen_ok, Sem.run_pure]

/-- 'm[s] = v', s not being there. -/
theorem OtherOb.mapNew (hE : EOK X.P X.E) {t : Nat} {x y z : Operand} (ho : o.op = .mapUpdate t x y z) (hd : o.dst = none) {ti tk : TI} {k e : Nat} (ht : X.E t = some ti) (hts : ti.sh = .map k e) (hk : X.E k = some tk) (hks : tk.sh = .string)
    {g : Nat} {l : List (ByteArray × Int)} {s : ByteArray} {v : Int} (hx : ev F x = .val (.map (some g))) (hy : ev F y = .val (.string s)) (hzv : ev F z = .val (.int .i64 v)) (hl : lookM s l = none)
    {Mr : List Blk} (hM : M.Perm (⟨g, mapO l⟩ :: Mr)) (h : K F C I (⟨g, mapO (l ++ [(s, v)])⟩ :: Mr)) : OtherOb X o F C I M K := by
  refine ⟨fun a w Q ⟨β, hR0⟩ => ?_⟩
  have hR : RelB X β a w F C I (⟨g, mapO l⟩ :: Mr) := hR0.wk (.perm hM .refl)
  obtain ⟨d, hud, hdd⟩ := (hE _ _ ht).und
  have h1 : d = .map k e := by rw [hts] at hdd; cases d <;> simp_all [shOf]
  subst h1
  obtain ⟨dk, huk, hdk⟩ := (hE _ _ hk).und
  have h2 : dk = .string := by rw [hks] at hdk; cases dk <;> simp_all [shOf]
  subst h2
  have hg : w.heap[g]? = some (.map (ents l 0).toArray l.length) := hR.holds.m ⟨g, mapO l⟩ (by simp)
  have ex := eval_of_ev hR.fr hx
  have ey := eval_of_ev hR.fr hy
  have ez := eval_of_ev hR.fr hzv
  obtain ⟨r, hf1, hf2⟩ := findNow_ents s l 0 0
  have hr : r = none := by
    rw [hl] at hf2
    cases r with
    | none => rfl
    | some _ => simp at hf2
  subst hr
  have hc : (Instr.checkKey false 10000 k (.string s)).run X.P w = .ok () w := MapKept.run_checkKey (k := .string s) huk (by simp [MapKept.IsKey]) _ 9999
  have hfk : (Instr.findKey k (.string s) (ents l 0)).run X.P w = .ok none w := MapKept.run_findKey huk hf1
  have hnew : mapO (l ++ [(s, v)]) = .map ((ents l 0).toArray.push { key := .string s, val := .int .i64 v, born := l.length }) (l.length + 1) := by
    unfold mapO
    rw [ents_snoc]
    simp
  have hrun : (Instr.mapUpdate t (.map (some g)) (.string s) (.int .i64 v)).run X.P w = .ok () { w with heap := w.heap.setIfInBounds g (mapO (l ++ [(s, v)])) } := by
    unfold Instr.mapUpdate
    simp only [Sem.run_bind, run_underlying hud, Result.andThen_ok, MapKept.run_getObj_map hg, hc, hfk, MapKept.run_setObj_map _ hg, hnew]
  have hset := MapKept.heap_set (o' := mapO (l ++ [(s, v)])) hg
  refine wpIn_skip' (by rw [ho]; simp) (w' := { w with heap := w.heap.setIfInBounds g (mapO (l ++ [(s, v)])) }) ?_ ⟨F, C, I, _, ⟨β, ?_⟩, h⟩
  · unfold execOp
    simp only [ho, ex, ey, ez, Sem.run_bind, hrun, Result.andThen_ok, Sem.run_pure]
  · rw [hd]
    exact hR.swap (by simp) hset.1 hset.2 ⟨rfl, rfl⟩
end
end Go.V
