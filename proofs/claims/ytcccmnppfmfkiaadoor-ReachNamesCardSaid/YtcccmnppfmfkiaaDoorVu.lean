/-
  Texts out of bytes: copy of a text into a row of the function's own, unsafe.String over such a row, texts put together.
-/
import Derived.Test.YtcccmnppfmfkiaaDoorVq
import Derived.Lib.UnsafeStr
set_option linter.unusedVariables false
set_option linter.unusedSimpArgs false
namespace Go.V
open Go

section
variable {X : Ctx} {β : Nat → Nat} {a : Act} {w : World} {F : Fr} {C : Bx} {I : GH} {M : List Blk} {o : Oper} {K : KS}

/-- Whatever becomes of a block that is named no more. -/
theorem RelB.lose {n : Nat} {ob : Obj} {w' : World} (h : RelB X β a w F C I (⟨n, ob⟩ :: M)) (hs : w'.heap.size = w.heap.size) (hb : ∀ b, b ≠ n → w'.heap[b]? = w.heap[b]?) (ho : Same w w') : RelB X β a w' F C I M := by
  have hx0 : (⟨n, ob⟩ : Blk) ∈ (⟨n, ob⟩ : Blk) :: M := by simp
  have hnd := h.holds.nd
  simp only [List.map_cons, List.nodup_cons] at hnd
  exact {
    size := h.size
    defers := h.defers.mono fun r hr => by
      have hne : n ≠ r := hr.noM _ hx0
      refine { hr with at_ := ?_, noM := fun x hx => hr.noM x (by simp [hx]) }
      rw [hb r (Ne.symm hne)]
      exact hr.at_
    holds := {
      i := fun b o hbo => by
        rw [hb b (fun e => by have := h.holds.d _ hx0; simp only at this; rw [e, this] at hbo; cases hbo)]
        exact h.holds.i b o hbo
      m := fun x hx => by
        rw [hb _ (fun e => hnd.1 (List.mem_map.2 ⟨x, hx, e⟩))]
        exact h.holds.m x (by simp [hx])
      d := fun x hx => h.holds.d x (by simp [hx])
      nd := hnd.2 }
    fr := h.fr
    bx := fun s cs hcs => by
      have hbx := h.bx s cs hcs
      have hne : n ≠ β s := hbx.noM _ hx0
      obtain ⟨T, hT⟩ := hbx.at_
      refine { hbx with at_ := ⟨T, ?_⟩, noM := fun x hx => hbx.noM x (by simp [hx]) }
      rw [hb _ (Ne.symm hne)]
      exact hT
    inj := h.inj
    le0 := h.le0
    new0 := h.new0
    own := fun x hx => h.own x (by simp [hx])
    old := fun b hlt hf => by
      rw [hb b (fun e => by
        rcases h.own _ hx0 with h1 | h1
        · simp only at h1; exact hf (e ▸ h1)
        · simp only at h1; omega)]
      exact h.old b hlt hf
    out := h.out.trans ho
    sz := by rw [hs]; exact h.sz }

theorem freeze_size (w : World) (p : Addr) (n : Nat) : (w.freeze p n).heap.size = w.heap.size := by
  unfold World.freeze
  split <;> simp
theorem freeze_same (w : World) (p : Addr) (n : Nat) : Same w (w.freeze p n) := by
  unfold World.freeze
  split <;> exact ⟨rfl, rfl⟩
theorem freeze_other (w : World) (p : Addr) (n b : Nat) (h : b ≠ p.block) : (w.freeze p n).heap[b]? = w.heap[b]? := by
  unfold World.freeze
  split
  · rfl
  · simp only [Array.getElem?_modify]
    rw [if_neg (Ne.symm h)]

/-- unsafe.String over the head of a row of the function's own: the row is named no more. -/
theorem OtherOb.ustring (hE : EOK X.P X.E) {p n : Operand} {pt it e : Nat} (ho : o.op = .call { callee := .builtin .unsafeString, args := #[p, n], argTypes := #[pt, it] }) (hd : ∀ d, o.dst = some d → d < X.n)
    {ti ei : TI} (ht : X.E pt = some ti) (hts : ti.sh = .pointer e) (he : X.E e = some ei) (hes : ei.size = 1)
    {g : Nat} {cs : Array Value} {l : List UInt8} (hp : ev F p = .val (.pointer (some ⟨g, 0, none⟩))) (hn : ev F n = .val (.int .i64 l.length)) (h0 : l ≠ []) (h63 : l.length ≤ 9223372036854775807)
    {Mr : List Blk} (hM : M.Perm (⟨g, .cells cs e (0, 0)⟩ :: Mr)) (hcs : cs.toList.take l.length = l.map fun b => .int .u8 b.toNat)
    (h : K (put o.dst (.val (.string ⟨l.toArray⟩)) F) C I Mr) : OtherOb X o F C I M K := by
  refine ⟨fun a w Q ⟨β, hR0⟩ => ?_⟩
  have hR : RelB X β a w F C I (⟨g, .cells cs e (0, 0)⟩ :: Mr) := hR0.wk (.perm hM .refl)
  have hg : w.heap[g]? = some (.cells cs e (0, 0)) := hR.holds.m ⟨g, .cells cs e (0, 0)⟩ (by simp)
  obtain ⟨d, hud, hdd⟩ := (hE _ _ ht).und
  have h1 : d = .pointer e := by rw [hts] at hdd; cases d <;> simp_all [shOf]
  subst h1
  obtain ⟨inf, z, hi, hi1, _⟩ := (hE _ _ he).inf
  have hc : X.P.cellsOf e = 1 := by simp [Program.cellsOf, hi, hi1, hes]
  have hlen : l.length ≤ cs.size := by
    have := congrArg List.length hcs
    simp only [List.length_take, List.length_map, Array.length_toList] at this
    omega
  have hrun := Lib.run_unsafeString_row (P := X.P) w pt it o.type e hud hc g cs.size (by simp [World.shape?, hg]) l h0 hlen h63 (fun j x hj => by
    rw [addr_add _ rfl, cell_of_block hg]
    have h2 : (cs.toList.take l.length)[j]? = some (.int .u8 x.toNat) := by rw [hcs]; simp [hj]
    rw [List.getElem?_take] at h2
    split at h2
    · simpa using h2
    · cases h2)
  have ep := eval_of_ev hR.fr hp
  have en := eval_of_ev hR.fr hn
  refine wpIn_val (by rw [ho]; simp) (v := .string ⟨l.toArray⟩) (w' := w.freeze ⟨g, 0, none⟩ l.length) ?_ ⟨_, _, _, _, ⟨β, RelB.put (x := .val (.string ⟨l.toArray⟩)) (hR.lose (freeze_size _ _ _) (fun b hb => freeze_other _ _ _ _ hb) (freeze_same _ _ _)) hd rfl⟩, h⟩
  unfold execOp
  simp only [ho, resolve, invoke, builtin, Sem.run_bind, Sem.run_pure, Result.andThen_ok, List.map_toArray, List.map_cons, List.map_nil, ep, en, hrun]

/-- unsafe.String of no byte. -/
theorem OtherOb.ustring0 {p n : Operand} {pt it : Nat} (ho : o.op = .call { callee := .builtin .unsafeString, args := #[p, n], argTypes := #[pt, it] }) (hd : ∀ d, o.dst = some d → d < X.n)
    {q : Option Addr} (hp : ev F p = .val (.pointer q)) (hn : ev F n = .val (.int .i64 0)) (h : K (put o.dst (.val (.string .empty)) F) C I M) : OtherOb X o F C I M K := by
  refine ⟨fun a w Q ⟨β, hR⟩ => ?_⟩
  have ep := eval_of_ev hR.fr hp
  have en := eval_of_ev hR.fr hn
  refine done_vv hR hd (by rw [ho]; simp) ?_ h
  unfold execOp
  simp only [ho, resolve, invoke, builtin, Sem.run_bind, Sem.run_pure, Result.andThen_ok, List.map_toArray, List.map_cons, List.map_nil, ep, en, Lib.run_unsafeString_none]

/-- unsafe.SliceData of a slice that is nil, or has room. -/
theorem OtherOb.sliceData {s : Operand} {t : Nat} (ho : o.op = .call { callee := .builtin .unsafeSliceData, args := #[s], argTypes := #[t] }) (hd : ∀ d, o.dst = some d → d < X.n)
    {q : Option Addr} {n c : Nat} (hs : ev F s = .val (.slice q n c)) (hc : q ≠ none → c ≠ 0) (h : K (put o.dst (.val (.pointer q)) F) C I M) : OtherOb X o F C I M K := by
  refine ⟨fun a w Q ⟨β, hR⟩ => ?_⟩
  have es := eval_of_ev hR.fr hs
  refine done_vv hR hd (by rw [ho]; simp) ?_ h
  unfold execOp
  simp only [ho, resolve, invoke, builtin, Sem.run_bind, Sem.run_pure, Result.andThen_ok, List.map_toArray, List.map_cons, List.map_nil, es]
  cases q with
  | none => rw [Lib.run_unsafeSliceData_nil]; rfl
  | some ad => rw [Lib.run_unsafeSliceData_row _ _ _ _ _ _ (hc (by simp))]; rfl

/-- 'copy(row, "text")', the text no longer than the row. -/
theorem OtherOb.copyS (hE : EOK X.P X.E) {x y : Operand} {t u e : Nat} (ho : o.op = .call { callee := .builtin .copy, args := #[x, y], argTypes := #[t, u] }) (hd : ∀ d, o.dst = some d → d < X.n)
    {ti ei : TI} (ht : X.E t = some ti) (hts : ti.sh = .slice e) (he : X.E e = some ei) (hes : ei.size = 1)
    {g off dl dc : Nat} {s : ByteArray} {cs : Array Value} {T : Nat} (hx : ev F x = .val (.slice (some ⟨g, off, none⟩) dl dc)) (hy : ev F y = .val (.string s)) (hle : s.size ≤ dl) (hfit : off + s.size ≤ cs.size)
    {Mr : List Blk} (hM : M.Perm (⟨g, .cells cs T (0, 0)⟩ :: Mr))
    (h : K (put o.dst (.val (.int .i64 s.size)) F) C I (⟨g, .cells (splice cs.toList off (byteVals s)).toArray T (0, 0)⟩ :: Mr)) : OtherOb X o F C I M K := by
  refine ⟨fun a w Q ⟨β, hR0⟩ => ?_⟩
  have hR : RelB X β a w F C I (⟨g, .cells cs T (0, 0)⟩ :: Mr) := hR0.wk (.perm hM .refl)
  have hg : w.heap[g]? = some (.cells cs T (0, 0)) := hR.holds.m ⟨g, .cells cs T (0, 0)⟩ (by simp)
  obtain ⟨d, hud, hdd⟩ := (hE _ _ ht).und
  have h1 : d = .slice e := by rw [hts] at hdd; cases d <;> simp_all [shOf]
  subst h1
  obtain ⟨inf, z, hi, hi1, _⟩ := (hE _ _ he).inf
  have hl : (byteVals s).length = s.size := by simp [byteVals]
  have h1 : ∀ v ∈ byteVals s, v.oneCell' = true := fun v hv => by
    obtain ⟨b, _, rfl⟩ := List.mem_map.1 hv
    rfl
  have hst := run_storeCells_at X.P g off T (byteVals s) 0 cs w hg (by rw [hl]; simpa using hfit) h1
  simp only [Nat.add_zero] at hst
  have hmin : Nat.min s.size dl = s.size := Nat.min_eq_left hle
  have hf : (Builtin.firstCells inf.size s.size (.string s)).run X.P w = .ok (byteVals s).toArray w := Lib.run_firstCells_string w inf.size s
  have ex := eval_of_ev hR.fr hx
  have ey := eval_of_ev hR.fr hy
  have hR2 := hR.store_blk (pre := []) (post := Mr) (cs' := (splice cs.toList off (byteVals s)).toArray) rfl
  refine wpIn_val (by rw [ho]; simp) (v := .int .i64 s.size) (w' := w.setRow g (splice cs.toList off (byteVals s)).toArray) ?_ ⟨_, _, _, _, ⟨β, RelB.put (x := .val (.int .i64 s.size)) hR2 hd rfl⟩, h⟩
  have hrun : (Builtin.copy_ #[t, u] o.type #[.slice (some ⟨g, off, none⟩) dl dc, .string s]).run X.P w = .ok (.int .i64 s.size) (w.setRow g (splice cs.toList off (byteVals s)).toArray) := by
    simp [Builtin.copy_, run_underlying hud, Builtin.lenOf, hmin, sizeOf, typeInfo, hi, hf, hst, splice, goInt]
  unfold execOp
  simp only [ho, resolve, invoke, builtin, Sem.run_bind, Sem.run_pure, Result.andThen_ok, List.map_toArray, List.map_cons, List.map_nil, ex, ey, hrun]
end
end Go.V
