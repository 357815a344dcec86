/-
  The executor's operations are sound: each one's demand gives the machine's own rule for that operation.
-/
import Derived.Test.YtcccmnppfmfkiaaDoorV
set_option linter.unusedVariables false
set_option linter.unusedSimpArgs false
namespace Go.V
open Go

theorem beq_ne {a b : Nat} (h : ¬ a = b) : Nat.beq a b = false := by
  cases hb : Nat.beq a b with
  | false => rfl
  | true => exact absurd (Nat.eq_of_beq_eq_true hb) h
theorem beq_self' (a : Nat) : Nat.beq a a = true := Nat.beq_refl a
theorem heapOld (w : World) (o : Obj) {i : Nat} (h : i < w.heap.size) : (w.alloc o).heap[i]? = w.heap[i]? := by
  show (w.heap.push o)[i]? = _
  simp [Array.getElem?_push, Nat.ne_of_lt h]
theorem heapNew (w : World) (o : Obj) : (w.alloc o).heap[w.heap.size]? = some o := by
  show (w.heap.push o)[w.heap.size]? = _
  simp

section
variable {X : Ctx} {β : Nat → Nat} {a : Act} {w : World} {F : Fr} {C : Bx} {I : GH} {M : List Blk} {o : Oper} {Q : Exit → Act → World → Prop} {next : Act → World → Prop} {K : KS}

theorem SVok_evr (h : ∀ t, SVok β (F t) (a.tmps.getD t undef)) (x : Operand) : SVok β (evr F x) (a.eval x) := by
  cases x with
  | tmp t => exact h t
  | const v => cases v <;> exact rfl
  | global g => exact rfl
  | func f => exact rfl

theorem eval_of_ev (h : ∀ t, SVok β (F t) (a.tmps.getD t undef)) {x : Operand} {v : Value} (hx : ev F x = .val v) : a.eval x = v := by
  have h1 := SVok_evr h x
  unfold ev evq at hx
  split at hx
  · rename_i b hb
    rw [hb] at h1
    cases hx
    exact h1
  · rw [hx] at h1
    exact h1

theorem eval_of_evr (h : ∀ t, SVok β (F t) (a.tmps.getD t undef)) {x : Operand} {v : Value} (hx : evr F x = .val v) : a.eval x = v := by
  have h1 := SVok_evr h x
  rw [hx] at h1
  exact h1

theorem eval_of_lit (h : ∀ t, SVok β (F t) (a.tmps.getD t undef)) {x : Operand} {b : Bool} (hx : evr F x = .lit b) : a.eval x = .bool b := by
  have h1 := SVok_evr h x
  rw [hx] at h1
  exact h1

theorem eval_of_ref (h : ∀ t, SVok β (F t) (a.tmps.getD t undef)) {x : Operand} {s off : Nat} (hx : evr F x = .ref s off) : a.eval x = .pointer (some ⟨β s, off, none⟩) := by
  have h1 := SVok_evr h x
  rw [hx] at h1
  exact h1

theorem SVok_ev (h : ∀ t, SVok β (F t) (a.tmps.getD t undef)) (x : Operand) : SVok β (ev F x) (a.eval x) := by
  have h1 := SVok_evr h x
  unfold ev evq
  split
  · rename_i b hb
    rw [hb] at h1
    exact h1
  · exact h1

theorem evs_ok (h : ∀ t, SVok β (F t) (a.tmps.getD t undef)) : ∀ {xs : List Operand} {vs : List Value}, evs F xs = some vs → xs.map a.eval = vs
  | [], vs, hx => by simp [evs, evqs] at hx; simp [hx]
  | x :: xs, vs, hx => by
    unfold evs evqs at hx
    split at hx
    · rename_i v vs' h1 h2
      cases hx
      simp [eval_of_ev h h1, evs_ok h h2]
    · cases hx

theorem evParts_ok (h : ∀ t, SVok β (F t) (a.tmps.getD t undef)) : ∀ {xs : List (Nat × Operand)} {vs : List (Nat × Value)}, evParts F xs = some vs → (xs.map fun (i, x) => (i, a.eval x)) = vs
  | [], vs, hx => by simp [evParts, evqParts] at hx; simp [hx]
  | (i, x) :: xs, vs, hx => by
    unfold evParts evqParts at hx
    split at hx
    · rename_i v vs' h1 h2
      cases hx
      simp [eval_of_ev h h1, evParts_ok h h2]
    · cases hx

theorem wpIn_val {v : Value} {w' : World} (hnd : ∀ c, o.op ≠ .defer c) (h : (execOp a.eval o).run X.P w = .ok (.value v) w') (hk : next (a.put o.dst v) w') : o.wpIn (fen X) 0 X.P a w next Q :=
  ⟨fun _ _ => trivial, by rw [Oper.semAt_eq _ _ _ hnd, h]; exact hk⟩

theorem wpIn_skip' {w' : World} (hnd : ∀ c, o.op ≠ .defer c) (h : (execOp a.eval o).run X.P w = .ok .skip w') (hk : next (a.put o.dst undef) w') : o.wpIn (fen X) 0 X.P a w next Q :=
  ⟨fun _ _ => trivial, by rw [Oper.semAt_eq _ _ _ hnd, h]; exact hk⟩

theorem getD_put (a : Act) (d t : Nat) (v : Value) (hd : d < a.tmps.size) : (a.put (some d) v).tmps.getD t undef = if t = d then v else a.tmps.getD t undef := by
  simp only [Act.put, Array.getD_eq_getD_getElem?, Array.getElem?_setIfInBounds]
  by_cases h : t = d
  · subst h; simp [hd]
  · simp [h, Ne.symm h]

theorem SVok_upd (h : ∀ t, SVok β (F t) (a.tmps.getD t undef)) {d : Nat} {x : SV} {v : Value} (hd : d < a.tmps.size) (hx : SVok β x v) (t : Nat) : SVok β (upd F d x t) ((a.put (some d) v).tmps.getD t undef) := by
  rw [getD_put a d t v hd]
  unfold upd
  by_cases h1 : t = d
  · subst h1; simp only [beq_self', cond_true, if_true]; exact hx
  · have : Nat.beq t d = false := beq_ne h1
    simp only [this, cond_false, if_neg h1]; exact h t

theorem setRow_same (w : World) (g : Nat) (cs : Array Value) : Same w (w.setRow g cs) := by
  unfold World.setRow
  first | exact ⟨rfl, rfl⟩ | (split <;> exact ⟨rfl, rfl⟩)
theorem putObj_same (w : World) (g : Nat) (o : Obj) : Same w (w.putObj g o) := by
  unfold World.putObj
  exact ⟨rfl, rfl⟩
theorem Marks.mono (h : Marks X a w I M) {w' : World} {I' : GH} {M' : List Blk} (hm : ∀ r, MarkAt X w I M r → MarkAt X w' I' M' r) : Marks X a w' I' M' := by
  obtain ⟨rs, h1, h2, h3⟩ := h
  exact ⟨rs, h1, h2, fun r hr => hm r (h3 r hr)⟩

theorem RelB.put (h : RelB X β a w F C I M) {dst : Option Nat} (hd : ∀ d, dst = some d → d < X.n) {x : SV} {v : Value} (hx : SVok β x v) : RelB X β (a.put dst v) w (put dst x F) C I M := by
  cases dst with
  | none => exact h
  | some d =>
    refine { h with size := ?_, defers := h.defers, fr := ?_ }
    · simp [Act.put, h.size]
    · exact SVok_upd h.fr (by rw [h.size]; exact hd d rfl) hx

theorem Holds.heap {w' : World} (h : Holds I M w) (hh : w'.heap = w.heap) : Holds I M w' :=
  { i := by rw [hh]; exact h.i, m := by rw [hh]; exact h.m, d := h.d, nd := h.nd }
theorem RelB.world {w' : World} (h : RelB X β a w F C I M) (hh : w'.heap = w.heap) (ho : Same w w' := by exact ⟨rfl, rfl⟩) : RelB X β a w' F C I M :=
  { h with
    holds := { i := by rw [hh]; exact h.holds.i, m := by rw [hh]; exact h.holds.m, d := h.holds.d, nd := h.holds.nd }
    defers := h.defers.mono fun r hr => { hr with at_ := by rw [hh]; exact hr.at_ }
    bx := fun s cs hs => { h.bx s cs hs with at_ := by rw [hh]; exact (h.bx s cs hs).at_ }
    old := by rw [hh]; exact h.old
    out := h.out.trans ho
    sz := by rw [hh]; exact h.sz }

/-! ### New blocks -/
theorem Holds.alloc (h : Holds I M w) (o : Obj) : Holds I M (w.alloc o) where
  i b x hb := by
    have h1 := h.i b x hb
    rw [heapOld w o (Array.getElem?_eq_some_iff.1 h1).1]
    exact h1
  m x hx := by
    have h1 := h.m x hx
    rw [heapOld w o (Array.getElem?_eq_some_iff.1 h1).1]
    exact h1
  d := h.d
  nd := h.nd

theorem Holds.lt (h : Holds I M w) {x : Blk} (hx : x ∈ M) : x.num < w.heap.size := (Array.getElem?_eq_some_iff.1 (h.m x hx)).1
theorem Holds.ltI (h : Holds I M w) {b : Nat} {o : Obj} (hb : I b = some o) : b < w.heap.size := (Array.getElem?_eq_some_iff.1 (h.i b o hb)).1
theorem Holds.freshI (h : Holds I M w) : I w.heap.size = none := by
  cases hb : I w.heap.size with
  | none => rfl
  | some o => exact absurd (h.ltI hb) (Nat.lt_irrefl _)
theorem Holds.freshM (h : Holds I M w) : ∀ x ∈ M, x.num ≠ w.heap.size := fun x hx e => by have := h.lt hx; omega

theorem Holds.cons (h : Holds I M w) (o : Obj) : Holds I (⟨w.heap.size, o⟩ :: M) (w.alloc o) where
  i := (h.alloc o).i
  m x hx := by
    rcases List.mem_cons.1 hx with rfl | hx
    · exact heapNew w o
    · exact (h.alloc o).m x hx
  d x hx := by
    rcases List.mem_cons.1 hx with rfl | hx
    · exact h.freshI
    · exact h.d x hx
  nd := by
    simp only [List.map_cons, List.nodup_cons]
    refine ⟨fun hm => ?_, h.nd⟩
    obtain ⟨x, hx, e⟩ := List.mem_map.1 hm
    exact h.freshM x hx e

theorem BoxAt.alloc {b : Nat} {cs : List Value} (h : BoxAt X w I M b cs) (o : Obj) : BoxAt X (w.alloc o) I M b cs where
  at_ := by
    obtain ⟨T, hT⟩ := h.at_
    exact ⟨T, by rw [heapOld w o (Array.getElem?_eq_some_iff.1 hT).1]; exact hT⟩
  base := h.base
  noI := h.noI
  noM := h.noM

theorem BoxAt.lt {b : Nat} {cs : List Value} (h : BoxAt X w I M b cs) : b < w.heap.size := by
  obtain ⟨T, hT⟩ := h.at_
  exact (Array.getElem?_eq_some_iff.1 hT).1

theorem BoxAt.consM {b : Nat} {cs : List Value} (h : BoxAt X w I M b cs) (o : Obj) : BoxAt X (w.alloc o) I (⟨w.heap.size, o⟩ :: M) b cs where
  at_ := (h.alloc o).at_
  base := h.base
  noI := h.noI
  noM x hx := by
    rcases List.mem_cons.1 hx with rfl | hx
    · exact fun e => by have := h.lt; simp only at e; omega
    · exact h.noM x hx

theorem MarkAt.alloc {r : Nat} (h : MarkAt X w I M r) (o : Obj) : MarkAt X (w.alloc o) I M r :=
  { h with at_ := by rw [heapOld w o (Array.getElem?_eq_some_iff.1 h.at_).1]; exact h.at_ }
theorem MarkAt.consM {r : Nat} (h : MarkAt X w I M r) (o : Obj) : MarkAt X (w.alloc o) I (⟨w.heap.size, o⟩ :: M) r := by
  refine { h.alloc o with noM := fun x hx => ?_ }
  rcases List.mem_cons.1 hx with rfl | hx
  · have h1 := (Array.getElem?_eq_some_iff.1 h.at_).1
    simp only
    omega
  · exact h.noM x hx

theorem old_alloc (h : ∀ b, b < X.B → b ∉ X.foot → w.heap[b]? = X.h0.heap[b]?) (hsz : X.B ≤ w.heap.size) (o : Obj) : ∀ b, b < X.B → b ∉ X.foot → (w.alloc o).heap[b]? = X.h0.heap[b]? := fun b hb hf => by
  rw [heapOld w o (by omega)]; exact h b hb hf

/-- A new block that is the function's own, and named by its number. -/
theorem RelB.alloc_blk (h : RelB X β a w F C I M) (o : Obj) : RelB X β a (w.alloc o) F C I (⟨w.heap.size, o⟩ :: M) where
  size := h.size
  defers := h.defers.mono fun r hr => hr.consM o
  holds := h.holds.cons o
  fr := h.fr
  bx s cs hs := (h.bx s cs hs).consM o
  inj := h.inj
  le0 := h.le0
  new0 := h.new0
  own x hx := by
    rcases List.mem_cons.1 hx with rfl | hx
    · exact .inr h.sz
    · exact h.own x hx
  old := old_alloc h.old h.sz o
  out := h.out
  sz := by have := h.sz; simp; omega

theorem RelB.dropBox (h : RelB X β a w F C I M) (d : Nat) : RelB X β a w (clr F d) (updB C d none) I M where
  size := h.size
  defers := h.defers
  holds := h.holds
  fr t := by
    have h1 := h.fr t
    unfold clr
    cases hF : F t with
    | ref s off =>
      rw [hF] at h1
      simp only
      cases Nat.beq s d
      · exact h1
      · trivial
    | _ => rw [hF] at h1; exact h1
  bx s cs hs := by
    unfold updB at hs
    cases hb : Nat.beq s d with
    | true => simp [hb] at hs
    | false => simp [hb] at hs; exact h.bx s cs hs
  inj s s' h1 h2 := h.inj s s' (fun e => h1 (by simp [updB, e])) (fun e => h2 (by simp [updB, e]))
  le0 := h.le0
  new0 := h.new0
  own := h.own
  old := h.old
  out := h.out
  sz := h.sz

/-- A new box of a slot's own. -/
theorem RelB.alloc_box (h : RelB X β a w F C I M) (d : Nat) (hd : d < X.n) (cs : List Value) (T : Nat) :
    ∃ β', RelB X β' (a.put (some d) (.pointer (some ⟨w.heap.size, 0, none⟩))) (w.alloc (.cells cs.toArray T (0, 0))) (upd (clr F d) d (.ref d 0)) (updB C d (some cs)) I M := by
  have h0 := h.dropBox d
  let β' : Nat → Nat := fun s => if s = d then w.heap.size else β s
  refine ⟨β', ?_⟩
  have hfr : ∀ t, SVok β' (clr F d t) (a.tmps.getD t undef) := fun t => by
    have h1 := h0.fr t
    cases hF : clr F d t with
    | ref s off =>
      rw [hF] at h1
      have hs : s ≠ d := by
        intro e
        subst e
        unfold clr at hF
        split at hF
        · rename_i s' off' hF'
          cases hb : Nat.beq s' s with
          | true => simp [hb] at hF
          | false =>
            simp [hb] at hF
            obtain ⟨rfl, _⟩ := hF
            simp at hb
        · rename_i hne
          exact hne _ _ hF
      simp only [SVok, β', if_neg hs]
      exact h1
    | _ => rw [hF] at h1; exact h1
  exact {
    size := by simp [Act.put, h.size]
    defers := h.defers.mono fun r hr => hr.alloc _
    holds := h.holds.alloc _
    fr := SVok_upd hfr (by rw [h.size]; exact hd) (by simp [SVok, β'])
    bx := fun s cs' hs => by
      by_cases e : s = d
      · subst e
        simp [updB] at hs
        subst hs
        simp only [β', if_pos rfl]
        exact { at_ := ⟨T, heapNew w _⟩, base := h.sz, noI := h.holds.freshI, noM := h.holds.freshM }
      · have hb : Nat.beq s d = false := beq_ne e
        simp [updB, hb] at hs
        simp only [β', if_neg e]
        exact (h.bx s cs' hs).alloc _
    inj := fun s s' h1 h2 he => by
      by_cases e : s = d <;> by_cases e' : s' = d
      · rw [e, e']
      · exfalso
        have hb : Nat.beq s' d = false := beq_ne e'
        simp [updB, hb] at h2
        obtain ⟨c, hc⟩ := Option.ne_none_iff_exists'.1 h2
        have := (h.bx s' c hc).lt
        simp only [β', if_pos e, if_neg e'] at he
        omega
      · exfalso
        have hb : Nat.beq s d = false := beq_ne e
        simp [updB, hb] at h1
        obtain ⟨c, hc⟩ := Option.ne_none_iff_exists'.1 h1
        have := (h.bx s c hc).lt
        simp only [β', if_neg e, if_pos e'] at he
        omega
      · have hb : Nat.beq s d = false := beq_ne e
        have hb' : Nat.beq s' d = false := beq_ne e'
        simp [updB, hb] at h1
        simp [updB, hb'] at h2
        simp only [β', if_neg e, if_neg e'] at he
        exact h.inj s s' h1 h2 he
    le0 := h.le0
    new0 := h.new0
    own := h.own
    old := old_alloc h.old h.sz _
    out := h.out
    sz := by have := h.sz; simp; omega }

/-! ### Reading and writing -/
theorem addr_add (a : Addr) (h : a.spot = none) (j : Nat) : a.add j = ⟨a.block, a.off + j, none⟩ := by
  obtain ⟨b, o, s⟩ := a
  simp only at h
  subst h
  unfold Addr.add
  split <;> simp_all

theorem cell_of_block {cs : Array Value} {T : Nat} {fr : Nat × Nat} {b : Nat} (hg : w.heap[b]? = some (.cells cs T fr)) (j : Nat) : w.cell? ⟨b, j, none⟩ = cs[j]? := by
  simp [World.cell?, hg]

variable {P : Program} {t : Nat} {i : TI}

theorem TIok.run_sizeOf (h : TIok P t i) (w : World) : (sizeOf t).run P w = .ok i.size w := by
  obtain ⟨inf, z, h1, h2, _⟩ := h.inf
  simp [sizeOf, typeInfo, h1, h2]
theorem TIok.run_bytes (h : TIok P t i) (w : World) : ∃ inf, (typeInfo t).run P w = .ok inf w ∧ inf.bytes = i.bytes ∧ inf.size = i.size := by
  obtain ⟨inf, z, h1, h2, h3, _⟩ := h.inf
  exact ⟨inf, by simp [typeInfo, h1], h3, h2⟩
theorem TIok.run_zero (h : TIok P t i) (w : World) : ∃ z, (zeroValue t).run P w = .ok z w ∧ z.cells.toList = i.zero := by
  obtain ⟨inf, z, h1, h2, h3, h4, h5⟩ := h.inf
  exact ⟨z, by simp [zeroValue, typeInfo, h1, h4], h5⟩
theorem TIok.run_und (h : TIok P t i) (w : World) : ∃ d, (underlying t).run P w = .ok d w ∧ shOf d = i.sh := by
  obtain ⟨d, h1, h2⟩ := h.und
  exact ⟨d, run_underlying h1 w, h2⟩
theorem TIok.run_isAgg (h : TIok P t i) (w : World) : (isAgg t).run P w = .ok i.sh.agg w := by
  obtain ⟨d, h1, h2⟩ := h.run_und w
  rw [← h2]
  unfold isAgg
  simp only [Sem.run_bind, h1, Result.andThen_ok]
  cases d <;> rfl

theorem headD_one {vs : List Value} (hl : vs.length = 1) : vs = [vs.headD undef] := by
  match vs, hl with
  | [v], _ => rfl

theorem loadVar_run (h : TIok P t i) {a : Addr} {cs : Array Value} {T : Nat} {fr : Nat × Nat} {vs : List Value} (hs : a.spot = none) (hg : w.heap[a.block]? = some (.cells cs T fr))
    (hv : (cs.toList.drop a.off).take i.size = vs) (hl : vs.length = i.size) : (loadVar t a).run P w = .ok (pack i.sh.agg vs) w := by
  have hc : ∀ j v, vs[j]? = some v → w.cell? (a.add j) = some v := by
    intro j v hj
    rw [addr_add a hs, cell_of_block hg]
    rw [← hv, List.getElem?_take] at hj
    split at hj
    · rw [List.getElem?_drop] at hj
      simpa using hj
    · cases hj
  unfold loadVar
  simp only [Sem.run_bind, h.run_isAgg, Result.andThen_ok]
  cases hagg : i.sh.agg with
  | true =>
    simp only [if_true, Sem.run_bind, h.run_sizeOf, Result.andThen_ok, ← hl]
    rw [run_loadCells_list w a vs hc]
    simp [pack]
  | false =>
    have h1 := h.sz1 hagg
    rw [h1] at hl
    have hvs := headD_one hl
    have := hc 0 (vs.headD undef) (by rw [hvs]; simp)
    have ha : a.add 0 = a := rfl
    rw [ha] at this
    simp [this, pack]

theorem allOne_spec {vs : List Value} (h : allOne vs = true) : ∀ v ∈ vs, v.oneCell' = true := by
  simpa [allOne] using h

theorem storeVar_run (h : TIok P t i) {a : Addr} {cs : Array Value} {T : Nat} {v : Value} (hs : a.spot = none) (hg : w.heap[a.block]? = some (.cells cs T (0, 0)))
    (hsz : v.cells.size = i.size) (hb : a.off + v.cells.toList.length ≤ cs.size) (h1 : allOne v.cells.toList = true) :
    (storeVar t a v).run P w = .ok () (w.setRow a.block (splice cs.toList a.off v.cells.toList).toArray) := by
  obtain ⟨b, o, s⟩ := a
  simp only at hs hg hb
  subst hs
  unfold storeVar
  simp only [Sem.run_bind, h.run_sizeOf, Result.andThen_ok, hsz, ne_eq, not_true, if_false, Sem.run_ite]
  have := run_storeCells_at (P := P) b o T v.cells.toList 0 cs w hg (by simpa using hb) (allOne_spec h1)
  simp only [Nat.add_zero] at this
  simp only [splice]
  simpa using this

/-- A store into a box. -/
theorem RelB.store_box (h : RelB X β a w F C I M) {s : Nat} {cs : List Value} (hs : C s = some cs) (cs' : List Value) : RelB X β a (w.setRow (β s) cs'.toArray) F (updB C s (some cs')) I M := by
  have hb := h.bx s cs hs
  obtain ⟨T, hT⟩ := hb.at_
  exact {
    size := h.size
    defers := h.defers.mono fun r hr => by
      refine { hr with at_ := ?_ }
      rw [setRow_other _ _ _ _ (fun e => by have h1 := hr.at_; rw [e, hT] at h1; cases h1)]
      exact hr.at_
    holds := {
      i := fun b o hbo => by
        rw [setRow_other _ _ _ _ (fun e => by rw [e, hb.noI] at hbo; cases hbo)]
        exact h.holds.i b o hbo
      m := fun x hx => by
        rw [setRow_other _ _ _ _ (hb.noM x hx)]
        exact h.holds.m x hx
      d := h.holds.d
      nd := h.holds.nd }
    fr := h.fr
    bx := fun s' c' hs' => by
      by_cases e : s' = s
      · subst e
        simp [updB, beq_self'] at hs'
        subst hs'
        exact { at_ := ⟨T, setRow_heap _ _ _ _ _ _ hT⟩, base := hb.base, noI := hb.noI, noM := hb.noM }
      · simp [updB, beq_ne e] at hs'
        have hb' := h.bx s' c' hs'
        obtain ⟨T', hT'⟩ := hb'.at_
        refine { at_ := ⟨T', ?_⟩, base := hb'.base, noI := hb'.noI, noM := hb'.noM }
        rw [setRow_other _ _ _ _ (fun e' => e (h.inj s' s (by simp [hs']) (by simp [hs]) e'))]
        exact hT'
    inj := fun s1 s2 h1 h2 => h.inj s1 s2 (fun e => by
        unfold updB at h1
        cases hq : Nat.beq s1 s with
        | true => have := Nat.eq_of_beq_eq_true hq; subst this; rw [hs] at e; cases e
        | false => rw [hq] at h1; exact h1 e) (fun e => by
        unfold updB at h2
        cases hq : Nat.beq s2 s with
        | true => have := Nat.eq_of_beq_eq_true hq; subst this; rw [hs] at e; cases e
        | false => rw [hq] at h2; exact h2 e)
    le0 := h.le0
    new0 := h.new0
    own := h.own
    old := fun b hb' hf => by
      rw [setRow_other _ _ _ _ (fun e => by have := hb.base; omega)]
      exact h.old b hb' hf
    out := h.out.trans (setRow_same _ _ _)
    sz := by have := h.sz; simpa using this }

/-- A store into a named block. -/
theorem RelB.store_blk (h : RelB X β a w F C I M) {pre post : List Blk} {g : Nat} {cs cs' : Array Value} {T : Nat} (hM : M = pre ++ ⟨g, .cells cs T (0, 0)⟩ :: post) :
    RelB X β a (w.setRow g cs') F C I (pre ++ ⟨g, .cells cs' T (0, 0)⟩ :: post) := by
  subst hM
  have hx0 : (⟨g, .cells cs T (0, 0)⟩ : Blk) ∈ pre ++ ⟨g, .cells cs T (0, 0)⟩ :: post := by simp
  have hg : w.heap[g]? = some (.cells cs T (0, 0)) := h.holds.m _ hx0
  have hnd := h.holds.nd
  simp only [List.map_append, List.map_cons] at hnd
  have hne : ∀ x, x ∈ pre ∨ x ∈ post → x.num ≠ g := by
    intro x hx e
    rw [List.nodup_append] at hnd
    obtain ⟨_, h2, h3⟩ := hnd
    rcases hx with hx | hx
    · exact h3 x.num (List.mem_map.2 ⟨x, hx, rfl⟩) g (by simp) e
    · rw [List.nodup_cons] at h2
      exact h2.1 (List.mem_map.2 ⟨x, hx, e⟩)
  have mem : ∀ x, x ∈ pre ++ (⟨g, .cells cs' T (0, 0)⟩ : Blk) :: post → x = ⟨g, .cells cs' T (0, 0)⟩ ∨ (x ∈ pre ∨ x ∈ post) := by
    intro x hx
    simp only [List.mem_append, List.mem_cons] at hx
    rcases hx with hx | hx | hx
    · exact .inr (.inl hx)
    · exact .inl hx
    · exact .inr (.inr hx)
  have back : ∀ x, x ∈ pre ∨ x ∈ post → x ∈ pre ++ (⟨g, .cells cs T (0, 0)⟩ : Blk) :: post := by
    intro x hx
    simp only [List.mem_append, List.mem_cons]
    rcases hx with hx | hx
    · exact .inl hx
    · exact .inr (.inr hx)
  exact {
    size := h.size
    defers := h.defers.mono fun r hr => by
      have hne' : g ≠ r := hr.noM _ hx0
      refine { hr with at_ := ?_, noM := fun x hx => ?_ }
      · rw [setRow_other _ _ _ _ (Ne.symm hne')]
        exact hr.at_
      · rcases mem x hx with rfl | hx
        · exact hne'
        · exact hr.noM x (back x hx)
    holds := {
      i := fun b o hbo => by
        rw [setRow_other _ _ _ _ (fun e => by have := h.holds.d _ hx0; simp only at this; rw [e, this] at hbo; cases hbo)]
        exact h.holds.i b o hbo
      m := fun x hx => by
        rcases mem x hx with rfl | hx
        · exact setRow_heap _ _ _ _ _ _ hg
        · rw [setRow_other _ _ _ _ (hne x hx)]
          exact h.holds.m x (back x hx)
      d := fun x hx => by
        rcases mem x hx with rfl | hx
        · exact h.holds.d ⟨g, .cells cs T (0, 0)⟩ hx0
        · exact h.holds.d x (back x hx)
      nd := by simpa [List.map_append] using hnd }
    fr := h.fr
    bx := fun s c hs => by
      have hb := h.bx s c hs
      obtain ⟨T', hT'⟩ := hb.at_
      have hgs : g ≠ β s := hb.noM _ hx0
      refine { at_ := ⟨T', ?_⟩, base := hb.base, noI := hb.noI, noM := fun x hx => ?_ }
      · rw [setRow_other _ _ _ _ (Ne.symm hgs)]
        exact hT'
      · rcases mem x hx with rfl | hx
        · exact hgs
        · exact hb.noM x (back x hx)
    inj := h.inj
    le0 := h.le0
    new0 := h.new0
    own := fun x hx => by
      rcases mem x hx with rfl | hx
      · exact h.own ⟨g, .cells cs T (0, 0)⟩ hx0
      · exact h.own x (back x hx)
    old := fun b hb hf => by
      rw [setRow_other _ _ _ _ (fun e => by
        rcases h.own _ hx0 with h1 | h1
        · simp only at h1; exact hf (e ▸ h1)
        · simp only at h1; omega)]
      exact h.old b hb hf
    out := h.out.trans (setRow_same _ _ _)
    sz := by have := h.sz; simpa using this }

theorem Kn.heap (h : Holds I M w) {b : Nat} {o : Obj} (hk : Kn I M b o) : w.heap[b]? = some o := by
  rcases hk with hk | ⟨x, hx, rfl, rfl⟩
  · exact h.i b o hk
  · exact h.m x hx

theorem splice_cons {cur : List Value} {off : Nat} {x : Value} {xs : List Value} (h : off + 1 + xs.length ≤ cur.length) : splice (cur.set off x) (off + 1) xs = splice cur off (x :: xs) := by
  unfold splice
  rw [List.take_set, List.drop_set, if_pos (by omega), List.take_succ_eq_append_getElem (by omega : off < cur.length)]
  have e : (List.take off cur ++ [cur[off]'(by omega)]).set off x = List.take off cur ++ [x] := by
    rw [List.set_append, if_neg (by simp; omega)]
    simp [Nat.min_eq_left (by omega : off ≤ cur.length)]
  rw [e]
  simp [Nat.add_assoc, Nat.add_comm 1]

theorem foldl_splice (off : Nat) : ∀ (xs : List Value) (k : Nat) (cur : List Value), off + k + xs.length ≤ cur.length →
    (xs.zipIdx k).foldl (fun (cs : Array Value) (p : Value × Nat) => cs.setIfInBounds (off + p.2) p.1) cur.toArray = (splice cur (off + k) xs).toArray
  | [], k, cur, _ => by simp [splice]
  | x :: xs, k, cur, hl => by
    simp only [List.length_cons] at hl
    simp only [List.zipIdx_cons, List.foldl_cons]
    rw [List.setIfInBounds_toArray, foldl_splice off xs (k + 1) _ (by simp; omega)]
    rw [show off + (k + 1) = off + k + 1 from by omega, splice_cons (by omega)]

theorem fill_eq (place : Nat → Option (Nat × Nat)) : ∀ (vs : List (Nat × Value)) (cells r : List Value), fillL place cells vs = some r → Instr.fill place cells.toArray vs = some r.toArray
  | [], cells, r, h => by simp [fillL] at h; simp [Instr.fill, h]
  | (i, v) :: rest, cells, r, h => by
    unfold fillL at h
    unfold Instr.fill
    split at h
    · cases h
    · rename_i off size hp
      simp only [hp]
      cases hc : (Nat.beq v.cells.size size && Nat.ble (off + size) cells.length) with
      | false => rw [hc] at h; cases h
      | true =>
        rw [hc] at h
        simp only [cond_true] at h
        rw [Bool.and_eq_true] at hc
        have h1 := Nat.eq_of_beq_eq_true hc.1
        have h2 := Nat.le_of_ble_eq_true hc.2
        have e1 : decide (v.cells.size ≠ size) = false := by simp [h1]
        have e2 : decide (off + v.cells.size > cells.toArray.size) = false := by simp; omega
        rw [e1, e2]
        simp only [Bool.or_false, Bool.false_eq_true, if_false]
        have ih := fill_eq place rest _ r h
        rw [← ih]
        congr 1
        have := foldl_splice off v.cells.toList 0 cells (by simp; omega)
        simp only [Nat.add_zero] at this
        rw [← this, ← Array.foldl_toList]
        simp
end

theorem Wk.le {foot : List Nat} {I I' : GH} {M M' : List Blk} (h : Wk foot I M I' M') {w : World} (hH : Holds I M w) : (∀ b o, I b = some o → I' b = some o) ∧ Holds I' M' w ∧
    (∀ b o, I' b = some o → I b = some o ∨ ∃ x ∈ M, x.num = b ∧ x.obj = o ∧ b ∉ foot) ∧ (∀ x ∈ M', x ∈ M) := by
  induction h with
  | refl => exact ⟨fun _ _ h => h, hH, fun _ _ h => .inl h, fun _ h => h⟩
  | @sub I M M1 I' M' hs k ih =>
    have h1 : Holds I M1 w := ⟨hH.i, fun x hx => hH.m x (hs.subset hx), fun x hx => hH.d x (hs.subset hx), (hs.map _).nodup hH.nd⟩
    obtain ⟨a1, a2, a3, a4⟩ := ih h1
    refine ⟨a1, a2, fun b o hb => ?_, fun x hx => hs.subset (a4 x hx)⟩
    rcases a3 b o hb with h | ⟨x, hx, h⟩
    · exact .inl h
    · exact .inr ⟨x, hs.subset hx, h⟩
  | @perm I M M1 I' M' hp k ih =>
    have h1 : Holds I M1 w := ⟨hH.i, fun x hx => hH.m x (hp.mem_iff.2 hx), fun x hx => hH.d x (hp.mem_iff.2 hx), (hp.map _).nodup_iff.1 hH.nd⟩
    obtain ⟨a1, a2, a3, a4⟩ := ih h1
    refine ⟨a1, a2, fun b o hb => ?_, fun x hx => hp.mem_iff.2 (a4 x hx)⟩
    rcases a3 b o hb with h | ⟨x, hx, h⟩
    · exact .inl h
    · exact .inr ⟨x, hp.mem_iff.2 hx, h⟩
  | @prom I M I' M' b o post hM hf k ih =>
    subst hM
    have hnd := hH.nd
    simp only [List.map_cons, List.nodup_cons] at hnd
    have hb := hH.d ⟨b, o⟩ (by simp)
    simp only at hb
    have h1 : Holds (ins I b o) post w := {
      i := fun b' o' h => by
        unfold ins at h
        by_cases e : b' = b
        · subst e
          simp only [beq_self', cond_true, Option.some.injEq] at h
          subst h
          exact hH.m ⟨b', o⟩ (by simp)
        · simp only [beq_ne e, cond_false] at h
          exact hH.i _ _ h
      m := fun x hx => hH.m x (by simp [hx])
      d := fun x hx => by
        unfold ins
        have e : x.num ≠ b := fun e => hnd.1 (List.mem_map.2 ⟨x, hx, e⟩)
        simp only [beq_ne e, cond_false]
        exact hH.d x (by simp [hx])
      nd := hnd.2 }
    obtain ⟨a1, a2, a3, a4⟩ := ih h1
    refine ⟨fun b' o' h => a1 b' o' ?_, a2, fun b' o' h => ?_, fun x hx => by simp [a4 x hx]⟩
    · unfold ins
      by_cases e : b' = b
      · subst e; rw [hb] at h; cases h
      · simp only [beq_ne e, cond_false]; exact h
    · rcases a3 b' o' h with h | ⟨x, hx, h⟩
      · unfold ins at h
        by_cases e : b' = b
        · subst e
          simp only [beq_self', cond_true, Option.some.injEq] at h
          exact .inr ⟨⟨b', o⟩, by simp, rfl, h, hf⟩
        · simp only [beq_ne e, cond_false] at h
          exact .inl h
      · exact .inr ⟨x, by simp [hx], h⟩

theorem RelB.wk {X : Ctx} {β : Nat → Nat} {a : Act} {w : World} {F : Fr} {C : Bx} {I I' : GH} {M M' : List Blk} (h : RelB X β a w F C I M) (hw : Wk X.foot I M I' M') : RelB X β a w F C I' M' := by
  obtain ⟨a1, a2, a3, a4⟩ := hw.le h.holds
  exact { h with
    holds := a2
    defers := h.defers.mono fun r hr => by
      refine { hr with noI := ?_, noM := fun x hx => hr.noM x (a4 x hx) }
      cases hI : I' r with
      | none => rfl
      | some o =>
        exfalso
        rcases a3 _ _ hI with h1 | ⟨x, hx, h1, _⟩
        · rw [hr.noI] at h1; cases h1
        · exact hr.noM x hx h1
    bx := fun s cs hs => { h.bx s cs hs with
      noI := by
        cases hI : I' (β s) with
        | none => rfl
        | some o =>
          exfalso
          rcases a3 _ _ hI with h1 | ⟨x, hx, h1, _⟩
          · rw [(h.bx s cs hs).noI] at h1; cases h1
          · exact (h.bx s cs hs).noM x hx h1
      noM := fun x hx => (h.bx s cs hs).noM x (a4 x hx) }
    le0 := fun b o hb => a1 b o (h.le0 b o hb)
    new0 := fun b o hb => by
      rcases a3 b o hb with h1 | ⟨x, hx, rfl, _, hf⟩
      · exact h.new0 b o h1
      · exact .inr ((h.own x hx).resolve_left hf)
    own := fun x hx => h.own x (a4 x hx) }

end Go.V
