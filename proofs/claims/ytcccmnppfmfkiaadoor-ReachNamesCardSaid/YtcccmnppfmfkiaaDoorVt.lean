/-
  The executor is sound: operations, lists of operations, code.
-/
import Derived.Test.YtcccmnppfmfkiaaDoorVs
import Derived.Lib.UnsafeStr
set_option linter.unusedVariables false
set_option linter.unusedSimpArgs false
namespace Go.V
open Go

section
variable {X : Ctx} {β : Nat → Nat} {a : Act} {w : World} {F : Fr} {C : Bx} {I : GH} {M : List Blk} {o : Oper} {Q : Exit → Act → World → Prop} {K : KS}

theorem done_val (h : RelB X β a w F C I M) (hd : ∀ d, o.dst = some d → d < X.n) (hnd : ∀ c, o.op ≠ .defer c) {v : Value} {x : SV} (hr : (execOp a.eval o).run X.P w = .ok (.value v) w) (hx : SVok β x v)
    (hk : K (put o.dst x F) C I M) : o.wpIn (fen X) 0 X.P a w (Sat X K) Q :=
  wpIn_val hnd hr ⟨_, _, _, _, ⟨β, h.put hd hx⟩, hk⟩

theorem done_vv (h : RelB X β a w F C I M) (hd : ∀ d, o.dst = some d → d < X.n) (hnd : ∀ c, o.op ≠ .defer c) {v : Value} (hr : (execOp a.eval o).run X.P w = .ok (.value v) w)
    (hk : K (put o.dst (.val v) F) C I M) : o.wpIn (fen X) 0 X.P a w (Sat X K) Q :=
  done_val (x := .val v) h hd hnd hr rfl hk

theorem asIntOf_int (k : IntKind) (n : Int) (w : World) (P : Program) : (asIntOf (.int k n)).run P w = .ok (k, n) w := rfl

theorem IntKind.eqb_eq {k k' : IntKind} (h : IntKind.eqb k k' = true) : k = k' := by
  cases k <;> cases k' <;> first | rfl | cases h

theorem run_eqGuard_int (op : BinOp) (t : Nat) (x y : Operand) (k k' : IntKind) (n m : Int) (P : Program) (w : World) : (eqGuard op t x y (.int k n) (.int k' m)).run P w = .ok () w := by
  unfold eqGuard
  cases op <;> rfl
theorem run_eqGuard_string (op : BinOp) (t : Nat) (x y : Operand) (n m : ByteArray) (P : Program) (w : World) : (eqGuard op t x y (.string n) (.string m)).run P w = .ok () w := by
  unfold eqGuard
  cases op <;> rfl
theorem run_eqGuard_bool (op : BinOp) (t : Nat) (x y : Operand) (n m : Bool) (P : Program) (w : World) : (eqGuard op t x y (.bool n) (.bool m)).run P w = .ok () w := by
  unfold eqGuard
  cases op <;> rfl

theorem toList_beq (a b : ByteArray) : (a.toList == b.toList) = decide (a = b) := by
  rw [Bool.eq_iff_iff]
  simp only [beq_iff_eq, decide_eq_true_eq]
  constructor
  · intro h
    have h1 : a.data.toList = b.data.toList := by rw [ByteArray.toList_eq, ByteArray.toList_eq] at h; exact h
    cases a; cases b
    simp only [ByteArray.mk.injEq]
    exact Array.ext' h1
  · intro h; rw [h]

theorem run_equal_bool {P : Program} {t : Nat} (hu : P.underlying t = some .bool) (a b : Bool) (w : World) : (Op.equal t (.bool a) (.bool b)).run P w = .ok (a == b) w := by
  have key : ∀ d, (Op.equalIn (d + 1) t (.bool a) (.bool b)).run P w = .ok (a == b) w := fun d => by
    simp only [Op.equalIn, Sem.run_bind, run_underlying hu, Result.andThen_ok, Sem.run_pure]
  exact key 9999

theorem V_bin_run (hE : EOK X.P X.E) (op : BinOp) (t : Nat) (x y : Operand) (u v : SV) (ux vy : Value) (hx : u = .val ux) (hy : v = .val vy) (KV : Value → Prop) (other : Prop)
    (h : V_bin op (X.E t) u v KV other) : other ∨ ∃ r, (∀ w, (do eqGuard op t x y ux vy; binOp op t ux vy : Sem Value).run X.P w = .ok r w) ∧ KV r := by
  subst hx
  subst hy
  unfold V_bin at h
  split at h
  · rename_i k a k' b e1 e2
    cases e1
    cases e2
    right
    split at h
    · obtain ⟨j, rfl, ⟨r, hr, hk⟩⟩ := h
      refine ⟨_, fun w => ?_, hk⟩
      simp only [Sem.run_bind, run_eqGuard_int, Result.andThen_ok, binOp, Op.shift]
      rw [if_neg (by omega)]
      simp [hr]
    · obtain ⟨j, rfl, hk⟩ := h
      refine ⟨_, fun w => ?_, hk⟩
      simp only [Sem.run_bind, run_eqGuard_int, Result.andThen_ok, binOp, Op.shift]
      rw [if_neg (by omega)]
      simp
    · rename_i hs1 hs2
      cases hkk : IntKind.eqb k k' with
      | false => rw [hkk] at h; exact h.elim
      | true =>
        rw [hkk] at h
        have hkk' := IntKind.eqb_eq hkk
        subst hkk'
        simp only [cond_true] at h
        cases op <;> simp only at h
        case add => obtain ⟨r, hr, hk⟩ := h; exact ⟨_, fun w => by simp [run_eqGuard_int, binOp, Op.intArith, hr], hk⟩
        case sub => obtain ⟨r, hr, hk⟩ := h; exact ⟨_, fun w => by simp [run_eqGuard_int, binOp, Op.intArith, hr], hk⟩
        case mul => obtain ⟨r, hr, hk⟩ := h; exact ⟨_, fun w => by simp [run_eqGuard_int, binOp, Op.intArith, hr], hk⟩
        case quo => obtain ⟨h0, r, hr, hk⟩ := h; exact ⟨_, fun w => by simp [run_eqGuard_int, binOp, Op.intDiv, h0, hr], hk⟩
        case rem => obtain ⟨h0, hk⟩ := h; exact ⟨_, fun w => by simp [run_eqGuard_int, binOp, Op.intDiv, h0], hk⟩
        case and => exact ⟨_, fun w => by simp [run_eqGuard_int, binOp, Op.intBits, bitsv], h⟩
        case or => exact ⟨_, fun w => by simp [run_eqGuard_int, binOp, Op.intBits, bitsv], h⟩
        case xor => exact ⟨_, fun w => by simp [run_eqGuard_int, binOp, Op.intBits, bitsv], h⟩
        case andNot => exact ⟨_, fun w => by simp [run_eqGuard_int, binOp, Op.intBits, bitsv], h⟩
        case shl => exact (hs1 rfl).elim
        case shr => exact (hs2 rfl).elim
        case eql => exact ⟨_, fun w => by simp only [Sem.run_bind, run_eqGuard_int, Result.andThen_ok, binOp, Op.intCmp, cmpv]; simp; rfl, h⟩
        case neq => exact ⟨_, fun w => by simp only [Sem.run_bind, run_eqGuard_int, Result.andThen_ok, binOp, Op.intCmp, cmpv]; simp; rfl, h⟩
        case lss => exact ⟨_, fun w => by simp [run_eqGuard_int, binOp, Op.intCmp, cmpv], h⟩
        case leq => exact ⟨_, fun w => by simp [run_eqGuard_int, binOp, Op.intCmp, cmpv], h⟩
        case gtr => exact ⟨_, fun w => by simp [run_eqGuard_int, binOp, Op.intCmp, cmpv], h⟩
        case geq => exact ⟨_, fun w => by simp [run_eqGuard_int, binOp, Op.intCmp, cmpv], h⟩
  · rename_i a b e1 e2
    cases e1
    cases e2
    split at h
    · exact .inr ⟨_, fun w => by simp only [Sem.run_bind, run_eqGuard_string, Result.andThen_ok, binOp, Op.stringOp, Sem.run_pure, toList_beq], h⟩
    · exact .inr ⟨_, fun w => by simp only [Sem.run_bind, run_eqGuard_string, Result.andThen_ok, binOp, Op.stringOp, Sem.run_pure, toList_beq], h⟩
    · exact .inl h
  · rename_i a b e1 e2
    cases e1
    cases e2
    split at h
    · rename_i ti sz by' z ht
      obtain ⟨d, hu, hd⟩ := (hE _ _ ht).und
      have hd' : d = .bool := by cases d <;> simp_all [shOf]
      subst hd'
      split at h
      · exact .inr ⟨_, fun w => by simp only [Sem.run_bind, run_eqGuard_bool, Result.andThen_ok, binOp, run_equal_bool hu, Sem.run_pure], h⟩
      · exact .inr ⟨_, fun w => by simp only [Sem.run_bind, run_eqGuard_bool, Result.andThen_ok, binOp, run_equal_bool hu, Sem.run_pure], h⟩
      · exact .inl h
    · exact .inl h
  · exact .inl h

theorem calls_fen {P : Program} {f : Nat} {args : Array Value} {R : Ending → World → Prop} (h : Calls P f args w R) (n : Nat) : CallsIn (fen X) n P f args w R := by
  have h1 := (callsIn_wide (n := n)).2 h
  exact ⟨trivial, fun cs hr => h1.2 cs (room_wide _)⟩

theorem Holds.part (h : Holds I M w) {Mc Mr : List Blk} (hM : M.Perm (Mc ++ Mr)) : Holds I Mc w := by
  have hmem : ∀ x, x ∈ M ↔ x ∈ Mc ∨ x ∈ Mr := fun x => by rw [hM.mem_iff, List.mem_append]
  have hnd : ((Mc ++ Mr).map (·.num)).Nodup := (hM.map (·.num)).nodup_iff.1 h.nd
  rw [List.map_append, List.nodup_append] at hnd
  exact ⟨h.i, fun x hx => h.m x ((hmem x).2 (.inl hx)), fun x hx => h.d x ((hmem x).2 (.inl hx)), hnd.1⟩

/-- After a call: what it does not name has been kept. -/
theorem RelB.after (h : RelB X β a w F C I M) {Mc Mr M' : List Blk} {I' : GH} {w' : World} (hM : M.Perm (Mc ++ Mr)) (hH' : Holds I' M' w') (hK : Kept I Mc w I' M' w') : RelB X β a w' F C I' (M' ++ Mr) := by
  have hmem : ∀ x, x ∈ M ↔ x ∈ Mc ∨ x ∈ Mr := fun x => by rw [hM.mem_iff, List.mem_append]
  have hnd : ((Mc ++ Mr).map (·.num)).Nodup := (hM.map (·.num)).nodup_iff.1 h.holds.nd
  rw [List.map_append, List.nodup_append] at hnd
  have hrne : ∀ x ∈ Mr, ∀ y ∈ Mc, y.num ≠ x.num := fun x hx y hy => hnd.2.2 y.num (List.mem_map.2 ⟨y, hy, rfl⟩) x.num (List.mem_map.2 ⟨x, hx, rfl⟩)
  have hrsame : ∀ x ∈ Mr, w'.heap[x.num]? = w.heap[x.num]? := fun x hx =>
    hK.old x.num (h.holds.lt ((hmem x).2 (.inr hx))) (hrne x hx)
  exact {
    size := h.size
    defers := h.defers.mono fun r hr => by
      have hlt := (Array.getElem?_eq_some_iff.1 hr.at_).1
      refine { at_ := ?_, base := hr.base, noI := ?_, noM := fun x hx => ?_ }
      · rw [hK.old _ hlt (fun y hy => hr.noM y ((hmem y).2 (.inl hy)))]
        exact hr.at_
      · cases hI : I' r with
        | none => rfl
        | some o =>
          exfalso
          rcases hK.newI _ _ hI with h1 | h1
          · rw [hr.noI] at h1; cases h1
          · omega
      · rcases List.mem_append.1 hx with hx | hx
        · rcases hK.newM x hx with ⟨z, hz, hzn⟩ | h1
          · rw [← hzn]; exact hr.noM z ((hmem z).2 (.inl hz))
          · omega
        · exact hr.noM x ((hmem x).2 (.inr hx))
    holds := {
      i := hH'.i
      m := fun x hx => by
        rcases List.mem_append.1 hx with hx | hx
        · exact hH'.m x hx
        · rw [hrsame x hx]; exact h.holds.m x ((hmem x).2 (.inr hx))
      d := fun x hx => by
        rcases List.mem_append.1 hx with hx | hx
        · exact hH'.d x hx
        · cases hI : I' x.num with
          | none => rfl
          | some o =>
            exfalso
            rcases hK.newI _ _ hI with h1 | h1
            · have := h.holds.d x ((hmem x).2 (.inr hx)); rw [this] at h1; cases h1
            · have := h.holds.lt ((hmem x).2 (.inr hx)); omega
      nd := by
        rw [List.map_append, List.nodup_append]
        refine ⟨hH'.nd, hnd.2.1, fun p hp q hq e => ?_⟩
        obtain ⟨x, hx, rfl⟩ := List.mem_map.1 hp
        obtain ⟨y, hy, rfl⟩ := List.mem_map.1 hq
        rcases hK.newM x hx with ⟨z, hz, hzn⟩ | h1
        · exact hrne y hy z hz (hzn.trans e)
        · have := h.holds.lt ((hmem y).2 (.inr hy)); omega }
    fr := h.fr
    bx := fun s cs hs => by
      have hb := h.bx s cs hs
      obtain ⟨T, hT⟩ := hb.at_
      refine { at_ := ⟨T, ?_⟩, base := hb.base, noI := ?_, noM := fun x hx => ?_ }
      · rw [hK.old _ hb.lt (fun y hy => hb.noM y ((hmem y).2 (.inl hy)))]
        exact hT
      · cases hI : I' (β s) with
        | none => rfl
        | some o =>
          exfalso
          rcases hK.newI _ _ hI with h1 | h1
          · rw [hb.noI] at h1; cases h1
          · have := hb.lt; omega
      · rcases List.mem_append.1 hx with hx | hx
        · rcases hK.newM x hx with ⟨z, hz, hzn⟩ | h1
          · rw [← hzn]; exact hb.noM z ((hmem z).2 (.inl hz))
          · have := hb.lt; omega
        · exact hb.noM x ((hmem x).2 (.inr hx))
    inj := h.inj
    le0 := fun b o hb => hK.le b o (h.le0 b o hb)
    new0 := fun b o hb => by
      rcases hK.newI b o hb with h1 | h1
      · exact h.new0 b o h1
      · exact .inr (Nat.le_trans h.sz h1)
    own := fun x hx => by
      rcases List.mem_append.1 hx with hx | hx
      · rcases hK.newM x hx with ⟨z, hz, hzn⟩ | h1
        · rw [← hzn]; exact h.own z ((hmem z).2 (.inl hz))
        · exact .inr (Nat.le_trans h.sz h1)
      · exact h.own x ((hmem x).2 (.inr hx))
    old := fun b hb hf => by
      rw [hK.old b (Nat.lt_of_lt_of_le hb h.sz) (fun y hy e => by
        rcases h.own y ((hmem y).2 (.inl hy)) with h1 | h1
        · exact hf (e ▸ h1)
        · omega)]
      exact h.old b hb hf
    out := h.out.trans hK.out
    sz := Nat.le_trans h.sz hK.sz }

/-- A call by its contract, what it does not name being kept. -/
theorem RelB.call {P : Program} {f : Nat} {args : List Value} (h : RelB X β a w F C I M) {KC : Value → GH → List Blk → Prop} (hc : CallOb X.foot P f args I M KC) :
    (Enters P f ∧ Calls P f args.toArray w fun e w' => ∃ v I' M', e = .returned v ∧ KC v I' M' ∧ RelB X β a w' F C I' M') ∨ (∃ v w' I' M', (callFunc f args.toArray).run P w = .ok (.value v) w' ∧ KC v I' M' ∧ RelB X β a w' F C I' M') := by
  obtain ⟨I1, Mc, Mr, post, hW, ⟨hent, hs⟩ | hs, hk⟩ := hc.elim <;> have h := h.wk hW <;> have hM := List.Perm.refl (Mc ++ Mr)
  · refine .inl ⟨hent, ?_⟩
    refine (hs w (h.holds.part hM)).mono ?_
    rintro e w' ⟨v, I', M', rfl, hp, hH', hK⟩
    have ha := h.after hM hH' hK
    exact ⟨v, I', M' ++ Mr, rfl, hk v I' M' hK.le ha.holds.d hp, ha⟩
  · obtain ⟨v, w', I', M', hr, hp, hH', hK⟩ := hs w (h.holds.part hM)
    have ha := h.after hM hH' hK
    exact .inr ⟨v, w', I', M' ++ Mr, hr, hk v I' M' hK.le ha.holds.d hp, ha⟩

theorem wpIn_enter {f : Nat} {args : Array Value} {next : Act → World → Prop} (hnd : ∀ c, o.op ≠ .defer c) (hr : (execOp a.eval o).run X.P w = .ok (.enter f args) w)
    (hc : Calls X.P f args w fun e w' => ∃ v, e = .returned v ∧ next (a.put o.dst v) w') : o.wpIn (fen X) 0 X.P a w next Q := by
  refine ⟨fun _ _ => trivial, ?_⟩
  rw [Oper.semAt_eq _ _ _ hnd, hr]
  refine ⟨(fun h => by cases h), ?_⟩
  refine (calls_fen hc _).mono ?_
  rintro e w' ⟨v, rfl, h⟩
  exact h

theorem madeCells_eq (z : Value) (zs : List Value) (h : z.cells.toList = zs) (n : Nat) : (Array.range n).map (z.cells[· % z.cells.size]!) = (rowOf zs n).toArray := by
  subst h
  apply Array.ext'
  simp [rowOf_eq, madeCells]

theorem TIok.struct {P : Program} {t sz by' : Nat} {z : List Value} {fs : List (Nat × Nat)} (h : TIok P t ⟨sz, by', z, .struct fs⟩) : ∃ fields, P.underlying t = some (.struct fields) ∧ fs = fields.toList.map fun f => (f.type, f.offset) := by
  obtain ⟨d, h1, h2⟩ := h.und
  cases d <;> simp [shOf] at h2
  exact ⟨_, h1, h2.symm⟩
theorem TIok.slice {P : Program} {t sz by' : Nat} {z : List Value} {e : Nat} (h : TIok P t ⟨sz, by', z, .slice e⟩) : P.underlying t = some (.slice e) := by
  obtain ⟨d, h1, h2⟩ := h.und
  cases d <;> simp [shOf] at h2
  rw [h1, h2]
theorem TIok.array {P : Program} {t sz by' : Nat} {z : List Value} {n e : Nat} (h : TIok P t ⟨sz, by', z, .array n e⟩) : P.underlying t = some (.array n e) := by
  obtain ⟨d, h1, h2⟩ := h.und
  cases d <;> simp [shOf] at h2
  rw [h1, h2.1, h2.2]
theorem TIok.string {P : Program} {t sz by' : Nat} {z : List Value} (h : TIok P t ⟨sz, by', z, .string⟩) : P.underlying t = some .string := by
  obtain ⟨d, h1, h2⟩ := h.und
  cases d <;> simp [shOf] at h2
  exact h1
theorem TIok.int {P : Program} {t sz by' : Nat} {z : List Value} {k : IntKind} (h : TIok P t ⟨sz, by', z, .int k⟩) : P.underlying t = some (.int k) := by
  obtain ⟨d, h1, h2⟩ := h.und
  cases d <;> simp [shOf] at h2
  rw [h1, h2]

theorem field_of {fields : Array Field} {i ft off : Nat} (h : (fields.toList.map fun f => (f.type, f.offset))[i]? = some (ft, off)) : ∃ f, fields[i]? = some f ∧ f.type = ft ∧ f.offset = off := by
  simp only [List.getElem?_map, Array.getElem?_toList] at h
  cases hf : fields[i]? with
  | none => simp [hf] at h
  | some f => simp [hf] at h; exact ⟨f, rfl, h.1, h.2⟩

theorem part_run {P : Program} {t : Nat} {i : TI} (h : TIok P t i) {cs : Array Value} {off : Nat} (hle : off + i.size ≤ cs.size) (w : World) : (part t cs off).run P w = .ok (pack i.sh.agg ((cs.toList.drop off).take i.size)) w := by
  unfold part
  simp only [Sem.run_bind, h.run_isAgg, Result.andThen_ok]
  cases hagg : i.sh.agg with
  | true =>
    simp only [if_true, Sem.run_bind, h.run_sizeOf, Result.andThen_ok, Sem.run_pure, pack, cond_true]
    congr 2
    apply Array.ext'
    simp [List.take_drop]
  | false =>
    have h1 := h.sz1 hagg
    rw [h1] at hle ⊢
    have hlt : off < cs.size := by omega
    simp only [Bool.false_eq_true, if_false, Array.getElem?_eq_getElem hlt, Sem.run_pure, pack, cond_false]
    congr 1
    rw [List.drop_eq_getElem_cons (by simpa using hlt)]
    simp

theorem indexAt_slice {P : Program} {t e : Nat} {ei : TI} (ht : P.underlying t = some (.slice e)) (he : TIok P e ei) {ad : Addr} {n c : Nat} {kk : IntKind} {j : Nat} (hj : j < n) (w : World) :
    (Instr.indexAt t (.slice (some ad) n c) (.int kk j)).run P w = .ok (.pointer (some (ad.add (j * ei.size)))) w := by
  unfold Instr.indexAt
  simp only [Sem.run_bind, asIntOf_int, Result.andThen_ok, run_underlying ht, Sem.run_pure]
  rw [if_pos ⟨by omega, by omega⟩]
  simp [he.run_sizeOf]

theorem indexAt_array {P : Program} {t e m : Nat} {ei : TI} (ht : P.underlying t = some (.array m e)) (he : TIok P e ei) {ad : Addr} {kk : IntKind} {j : Nat} (hj : j < m) (w : World) :
    (Instr.indexAt t (.pointer (some ad)) (.int kk j)).run P w = .ok (.pointer (some (ad.add (j * ei.size)))) w := by
  unfold Instr.indexAt
  simp only [Sem.run_bind, asIntOf_int, Result.andThen_ok, run_underlying ht, Sem.run_pure, Instr.sureAddr]
  rw [if_pos ⟨by omega, by omega⟩]
  simp [he.run_sizeOf]

theorem placesOk_run {P : Program} {E : Env} (hE : EOK P E) (w : World) : ∀ (fields : List Field), placesOk E (fields.map fun f => (f.type, f.offset)) = true →
    ∃ l : List (Nat × Nat), (fields.mapM fun f => (do pure (f.offset, ← sizeOf f.type) : Sem (Nat × Nat))).run P w = .ok l w ∧ ∀ i, l[i]? = places E (fields.map fun f => (f.type, f.offset)) i
  | [], _ => ⟨[], rfl, fun i => by simp [places]⟩
  | f :: fs, h => by
    simp only [placesOk, List.map_cons, List.all_cons, Bool.and_eq_true] at h
    obtain ⟨fi, hfi⟩ := Option.isSome_iff_exists.1 h.1
    obtain ⟨l, h1, h2⟩ := placesOk_run hE w fs h.2
    refine ⟨(f.offset, fi.size) :: l, ?_, fun i => ?_⟩
    · simp only [List.mapM_cons, Sem.run_bind, (hE _ _ hfi).run_sizeOf, Result.andThen_ok, Sem.run_pure]
      rw [h1]
      rfl
    · cases i with
      | zero => simp [places, hfi]
      | succ i =>
        simp only [List.getElem?_cons_succ, h2]
        simp [places]

theorem V_q_run (hE : EOK X.P X.E) (h : RelB X β a w F C I M) {VV : SV → Prop} {other : Prop} (op : Op) (ty : TypeId) (dst : Option Tmp) (pos : String) (after : Array Edge) (guard : Option (Nat × Bool)) (hv : V_q X op (evr F) C I M VV other) :
    other ∨ ∃ v x, (execOp a.eval ⟨dst, op, ty, pos, after, guard⟩).run X.P w = .ok (.value v) w ∧ SVok β x v ∧ VV x := by
  have done : ∀ {v x}, (execOp a.eval ⟨dst, op, ty, pos, after, guard⟩).run X.P w = .ok (.value v) w → SVok β x v → VV x → other ∨ ∃ v x, (execOp a.eval ⟨dst, op, ty, pos, after, guard⟩).run X.P w = .ok (.value v) w ∧ SVok β x v ∧ VV x :=
    fun h1 h2 h3 => .inr ⟨_, _, h1, h2, h3⟩
  have donev : ∀ {v}, (execOp a.eval ⟨dst, op, ty, pos, after, guard⟩).run X.P w = .ok (.value v) w → VV (.val v) → other ∨ ∃ v x, (execOp a.eval ⟨dst, op, ty, pos, after, guard⟩).run X.P w = .ok (.value v) w ∧ SVok β x v ∧ VV x :=
    fun {v} h1 h3 => .inr ⟨v, .val v, h1, rfl, h3⟩
  have hf := h.fr
  cases op
  case move x => exact done (by simp [execOp]) (SVok_evr hf x) hv
  case assign x => exact done (by simp [execOp]) (SVok_evr hf x) hv
  case pick c p q =>
    simp only [V_q] at hv
    split at hv
    · rename_i b hb
      have hc := eval_of_lit hf hb
      cases b
      · exact done (by simp [execOp, hc, asBool]) (SVok_evr hf q) hv
      · exact done (by simp [execOp, hc, asBool]) (SVok_evr hf p) hv
    · rename_i b hb
      have hc := eval_of_evr hf hb
      refine done (v := if b then a.eval p else a.eval q) (x := pickV b (ev F p) (ev F q)) (by simp [execOp, hc, asBool]) ?_ hv
      have h1 := SVok_ev hf p
      have h2 := SVok_ev hf q
      unfold pickV
      split
      · rename_i x y e1 e2
        rw [e1] at h1
        rw [e2] at h2
        simp only [SVok] at h1 h2 ⊢
        cases b <;> simp [h1, h2]
      · rename_i x y _ e1 e2
        rw [e1] at h1
        rw [e2] at h2
        simp only [SVok] at h1 h2 ⊢
        cases b <;> simp [h1, h2]
      · trivial
    · exact hv.elim
  case unOp op t x =>
    simp only [V_q] at hv
    split at hv
    · rename_i b hb
      exact done (v := .bool (!b)) (x := .lit (!b)) (by simp [execOp, eval_of_lit hf hb, Op.unary]) rfl hv
    · rename_i b hb
      exact donev (v := .bool (!b)) (by simp [execOp, eval_of_evr hf hb, Op.unary]) hv
    · rename_i k n hb
      obtain ⟨r, hr, hk⟩ := hv
      exact donev (v := .int k r) (by simp only [execOp, eval_of_evr hf hb, Op.unary, Op.intArith, hr]; simp) hk
    · exact Or.inl hv
  case binOp op t x y ty' =>
    simp only [V_q] at hv
    by_cases hx : ∃ ux vy, ev F x = .val ux ∧ ev F y = .val vy
    · obtain ⟨ux, vy, hx, hy⟩ := hx
      have fin : ∀ r, (∀ w, (do eqGuard op t x y ux vy; binOp op t ux vy : Sem Value).run X.P w = .ok r w) → VV (.val r) → (other ∨ ∃ v x', (execOp a.eval ⟨dst, .binOp op t x y ty', ty, pos, after, guard⟩).run X.P w = .ok (.value v) w ∧ SVok β x' v ∧ VV x') := fun r hr hk => by
        refine donev (v := r) ?_ hk
        have := hr w
        rw [← eval_of_ev hf hx, ← eval_of_ev hf hy] at this
        simp only [execOp]
        simp only [Sem.run_bind] at this ⊢
        rw [this]
        rfl
      rcases V_bin_run hE op t x y _ _ ux vy hx hy _ _ hv with (⟨p', q', r, hp, hq, hr, hk⟩ | h1) | ⟨r, hr, hk⟩
      · rw [show evq (evr F) x = ev F x from rfl, hx] at hp
        rw [show evq (evr F) y = ev F y from rfl, hy] at hq
        cases hp
        cases hq
        exact fin r hr hk
      · exact Or.inl h1
      · exact fin r hr hk
    · unfold V_bin at hv
      split at hv
      · rename_i e1 e2; exact (hx ⟨_, _, e1, e2⟩).elim
      · rename_i e1 e2; exact (hx ⟨_, _, e1, e2⟩).elim
      · rename_i e1 e2; exact (hx ⟨_, _, e1, e2⟩).elim
      · rcases hv with ⟨p', q', r, hp, hq, hr, hk⟩ | h1
        · exact (hx ⟨_, _, hp, hq⟩).elim
        · exact Or.inl h1
  case load t x =>
    simp only [V_q] at hv
    split at hv
    · rename_i i hi
      split at hv
      · rename_i s off hx
        have hx' := eval_of_ref hf hx
        split at hv
        · rename_i cs hs
          cases hle : Nat.ble (off + i.size) cs.length with
          | false => rw [hle] at hv; exact hv.elim
          | true =>
            rw [hle] at hv
            have hle' := Nat.le_of_ble_eq_true hle
            obtain ⟨T, hT⟩ := (h.bx s cs hs).at_
            refine donev (v := pack i.sh.agg ((cs.drop off).take i.size)) ?_ hv
            have := loadVar_run (hE _ _ hi) (a := ⟨β s, off, none⟩) rfl hT (vs := (cs.drop off).take i.size) (by simp) (by simp; omega)
            simp [execOp, Instr.loadAt, Instr.sureAddr, hx', this]
        · exact hv.elim
      · rename_i ad hx
        have hx' := eval_of_evr hf hx
        obtain ⟨vs, ⟨hsp, cs, T, fr, hkn, hvs, hl⟩, hk⟩ := hv
        refine donev (v := pack i.sh.agg vs) ?_ hk
        have := loadVar_run (hE _ _ hi) hsp (hkn.heap h.holds) hvs hl
        simp [execOp, Instr.loadAt, Instr.sureAddr, hx', this]
      · exact hv.elim
    · exact hv.elim
  case nilCheck x =>
    simp only [V_q] at hv
    split at hv
    · rename_i s off hx
      exact done (v := .pointer (some ⟨β s, off, none⟩)) (x := .ref s off) (by simp [execOp, eval_of_ref hf hx]) rfl hv
    · rename_i ad hx
      exact donev (v := .pointer (some ad)) (by simp [execOp, eval_of_evr hf hx]) hv
    · exact Or.inl hv
  case fieldAddr t x i =>
    simp only [V_q] at hv
    split at hv
    · rename_i sz by' z fs ht
      obtain ⟨fields, hu, rfl⟩ := (hE _ _ ht).struct
      split at hv
      · rename_i ft off hfs
        obtain ⟨f, hf1, rfl, rfl⟩ := field_of hfs
        split at hv
        · rename_i fi s o' hfi hx
          cases hz : Nat.beq fi.size 0 with
          | true => rw [hz] at hv; exact hv.elim
          | false =>
            rw [hz] at hv
            have hz' : fi.size ≠ 0 := fun e => by rw [e] at hz; cases hz
            refine done (v := .pointer (some ⟨β s, o' + f.offset, none⟩)) (x := .ref s (o' + f.offset)) ?_ rfl hv
            simp [execOp, Instr.fieldAt, run_underlying hu, hf1, eval_of_ref hf hx, Instr.sureAddr, fieldPlace, (hE _ _ hfi).run_sizeOf, hz', addr_add]
        · rename_i fi ad hfi hx
          cases hz : Nat.beq fi.size 0 with
          | true => rw [hz] at hv; exact hv.elim
          | false =>
            rw [hz] at hv
            have hz' : fi.size ≠ 0 := fun e => by rw [e] at hz; cases hz
            refine donev (v := .pointer (some (ad.add f.offset))) ?_ hv
            simp [execOp, Instr.fieldAt, run_underlying hu, hf1, eval_of_evr hf hx, Instr.sureAddr, fieldPlace, (hE _ _ hfi).run_sizeOf, hz']
        · exact hv.elim
      · exact hv.elim
    · exact hv.elim
  case field t x i =>
    simp only [V_q] at hv
    split at hv
    · rename_i sz by' z fs cs ht hx
      obtain ⟨fields, hu, rfl⟩ := (hE _ _ ht).struct
      split at hv
      · rename_i ft off hfs
        obtain ⟨f, hf1, rfl, rfl⟩ := field_of hfs
        split at hv
        · rename_i fi hfi
          cases hz : Nat.ble (f.offset + fi.size) cs.size with
          | false => rw [hz] at hv; exact hv.elim
          | true =>
            rw [hz] at hv
            refine donev ?_ hv
            simp [execOp, Instr.field, run_underlying hu, hf1, eval_of_ev hf hx, asAgg, part_run (hE _ _ hfi) (Nat.le_of_ble_eq_true hz)]
        · exact hv.elim
      · exact hv.elim
    · exact hv.elim
  case indexAddr t x i =>
    simp only [V_q] at hv
    split at hv
    · rename_i sz by' z e kk k ht hi
      have hu := (hE _ _ ht).slice
      split at hv
      · rename_i ei a' n c hei hx
        obtain ⟨ad, j, rfl, rfl, hj, hk⟩ := hv
        refine donev ?_ hk
        simp [execOp, eval_of_ev hf hx, eval_of_ev hf hi, indexAt_slice hu (hE _ _ hei) hj]
      · exact hv.elim
    · rename_i sz by' z n e kk k ht hi
      have hu := (hE _ _ ht).array
      split at hv
      · rename_i ei s o' hei hx
        obtain ⟨j, rfl, hj, hk⟩ := hv
        refine done (v := .pointer (some ⟨β s, o' + j * ei.size, none⟩)) (x := .ref s (o' + j * ei.size)) ?_ rfl hk
        simp [execOp, eval_of_ref hf hx, eval_of_ev hf hi, indexAt_array hu (hE _ _ hei) hj, addr_add]
      · rename_i ei ad hei hx
        obtain ⟨j, rfl, hj, hk⟩ := hv
        refine donev ?_ hk
        simp [execOp, eval_of_evr hf hx, eval_of_ev hf hi, indexAt_array hu (hE _ _ hei) hj]
      · exact hv.elim
    · exact hv.elim
  case index t x i =>
    simp only [V_q] at hv
    split at hv
    · rename_i sz by' z s kk k ht hx hi
      have hu := (hE _ _ ht).string
      obtain ⟨j, rfl, hj, hk⟩ := hv
      refine donev ?_ hk
      simp only [execOp, eval_of_ev hf hx, eval_of_ev hf hi, Instr.index, Sem.run_bind, asIntOf_int, Result.andThen_ok, run_underlying hu]
      rw [if_pos (by omega : (0 : Int) ≤ j)]
      simp [hj]
    · rename_i sz by' z n e cs kk k ht hx hi
      have hu := (hE _ _ ht).array
      split at hv
      · rename_i ei hei
        cases hz : Nat.beq (n * ei.size) cs.size with
        | false => rw [hz] at hv; exact hv.elim
        | true =>
          rw [hz] at hv
          obtain ⟨j, rfl, hj, hk⟩ := hv
          have hz' := Nat.eq_of_beq_eq_true hz
          refine donev ?_ hk
          have hle : j * ei.size + ei.size ≤ cs.size := by
            rw [← hz', ← Nat.succ_mul]
            exact Nat.mul_le_mul_right _ hj
          simp only [execOp, eval_of_ev hf hx, eval_of_ev hf hi, Instr.index, Sem.run_bind, asIntOf_int, Result.andThen_ok, run_underlying hu]
          rw [if_pos ⟨by omega, by omega⟩]
          simp [(hE _ _ hei).run_sizeOf, part_run (hE _ _ hei) hle]
      · exact hv.elim
    · exact hv.elim
  case build t parts =>
    simp only [V_q] at hv
    split at hv
    · rename_i i vs hi hvs
      have hp := evParts_ok hf hvs
      have hpp : (parts.map fun (i, x) => (i, a.eval x)).toList = vs := by simpa using hp
      obtain ⟨z, hz, hzc⟩ := (hE _ _ hi).run_zero w
      have hzz : z.cells = i.zero.toArray := by rw [← hzc]
      split at hv
      · rename_i fs hsh
        cases hok : placesOk X.E fs with
        | false => rw [hok] at hv; exact hv.elim
        | true =>
          rw [hok] at hv
          simp only [cond_true] at hv
          split at hv
          · rename_i cells hfill
            obtain ⟨sz, by', zz, sh⟩ := i
            simp only at hsh
            subst hsh
            obtain ⟨fields, hu, rfl⟩ := (hE _ _ hi).struct
            obtain ⟨l, hl, hll⟩ := placesOk_run hE w fields.toList hok
            refine donev ?_ hv
            have hm : (fields.mapM fun f => (do pure (f.offset, ← sizeOf f.type) : Sem (Nat × Nat))).run X.P w = .ok l.toArray w := by
              rw [Array.mapM_eq_mapM_toList, Sem.run_map, hl]
              rfl
            have hfe := fill_eq _ _ _ _ hfill
            have hfun : (fun j => l.toArray[j]?) = places X.E (fields.toList.map fun f => (f.type, f.offset)) := by
              funext j
              rw [← hll j]
              simp
            simp only [execOp, Instr.build, Sem.run_bind, hz, Result.andThen_ok, run_underlying hu, hzz, hpp]
            rw [hm]
            simp only [Result.andThen_ok, hfun, hfe, Sem.run_pure]
          · exact hv.elim
      · rename_i n e hsh
        split at hv
        · rename_i ei hei
          split at hv
          · rename_i cells hfill
            obtain ⟨sz, by', zz, sh⟩ := i
            simp only at hsh
            subst hsh
            have hu := (hE _ _ hi).array
            refine donev ?_ hv
            have hfe := fill_eq _ _ _ _ hfill
            simp only [execOp, Instr.build, Sem.run_bind, hz, Result.andThen_ok, run_underlying hu, hzz, hpp, (hE _ _ hei).run_sizeOf, hfe, Sem.run_pure]
          · exact hv.elim
        · exact hv.elim
      · exact hv.elim
    · exact hv.elim
  case makeFunc fn first captured =>
    simp only [V_q] at hv
    split at hv
    · rename_i fs cs h1 h2
      have e1 := evs_ok hf h1
      have e2 := evs_ok hf h2
      refine donev ?_ hv
      have e1' : first.map a.eval = fs.toArray := by apply Array.ext'; simpa using e1
      have e2' : captured.map a.eval = cs.toArray := by apply Array.ext'; simpa using e2
      simp [execOp, Instr.makeFunc, e1', e2']
    · exact hv.elim
  case slice t x lo hi mx =>
    simp only [V_q] at hv
    split at hv
    · rename_i sz by' z e a' n c ht hx
      have hu := (hE _ _ ht).slice
      have hx' := eval_of_ev hf hx
      split at hv
      · rename_i ei hei hlo hhi
        have hlo' : lo = none := by simpa using hlo
        have hhi' : hi = none := by simpa using hhi
        subst hlo'
        subst hhi'
        refine donev ?_ hv
        have e1 : (if c = 0 then a' else a'.map (·.add (0 * ei.size))) = a' := by split <;> cases a' <;> simp [Addr.add]
        simp [execOp, Instr.sliceAt, Instr.slice, Instr.sliceBounds, hx', run_underlying hu, (hE _ _ hei).run_sizeOf, Addr.add]
      · rename_i ei kk hv' hei hlo hhi
        have hlo' : lo = none := by simpa using hlo
        subst hlo'
        obtain ⟨hop, rfl, hh⟩ := Option.map_eq_some_iff.1 hhi
        obtain ⟨l, h2, hl0, rfl, hle, hle2, hk⟩ := hv
        refine donev ?_ hk
        simp only [execOp, Instr.sliceAt, Instr.slice, Instr.sliceBounds, Instr.sliceBound, hx', Sem.run_bind, run_underlying hu, Result.andThen_ok, (hE _ _ hei).run_sizeOf, Sem.run_pure, Option.map_some, Option.map_none, eval_of_ev hf hh, asIntOf_int]
        rw [if_pos ⟨by omega, by omega⟩]
        simp [Addr.add]
      · rename_i ei kk lv hei hlo hhi
        have hhi' : hi = none := by simpa using hhi
        subst hhi'
        obtain ⟨lop, rfl, hh⟩ := Option.map_eq_some_iff.1 hlo
        obtain ⟨l, h2, rfl, hh2, hle, hle2, hk⟩ := hv
        simp only [Option.getD_none, Option.getD_some] at *
        refine donev ?_ hk
        simp only [execOp, Instr.sliceAt, Instr.slice, Instr.sliceBounds, Instr.sliceBound, hx', Sem.run_bind, run_underlying hu, Result.andThen_ok, (hE _ _ hei).run_sizeOf, Sem.run_pure, Option.map_some, Option.map_none, eval_of_ev hf hh, asIntOf_int]
        rw [if_pos ⟨by omega, by omega⟩]
        simp
      · rename_i ei kk lv kk' hv' hei hlo hhi
        obtain ⟨lop, rfl, hh⟩ := Option.map_eq_some_iff.1 hlo
        obtain ⟨hop, rfl, hh'⟩ := Option.map_eq_some_iff.1 hhi
        obtain ⟨l, h2, rfl, rfl, hle, hle2, hk⟩ := hv
        refine donev ?_ hk
        simp only [execOp, Instr.sliceAt, Instr.slice, Instr.sliceBounds, Instr.sliceBound, hx', Sem.run_bind, run_underlying hu, Result.andThen_ok, (hE _ _ hei).run_sizeOf, Sem.run_pure, Option.map_some, Option.map_none, eval_of_ev hf hh, eval_of_ev hf hh', asIntOf_int]
        rw [if_pos ⟨by omega, by omega⟩]
        simp only [Sem.run_pure, Result.andThen_ok, Int.toNat_natCast]
        rw [if_pos ⟨by omega, by omega⟩]
        simp
      · exact hv.elim
    · rename_i sz by' z s ht hx
      have hu := (hE _ _ ht).string
      have hx' := eval_of_ev hf hx
      split at hv
      · rename_i hlo hhi
        have hlo' : lo = none := by simpa using hlo
        have hhi' : hi = none := by simpa using hhi
        subst hlo'
        subst hhi'
        refine donev ?_ hv
        have e1 : s.extract 0 s.size = s := by
          apply ByteArray.ext
          simp [ByteArray.data_extract]
        simp [execOp, Instr.sliceAt, Instr.slice, Instr.sliceBounds, hx', run_underlying hu, e1]
      · rename_i kk hv' hlo hhi
        have hlo' : lo = none := by simpa using hlo
        subst hlo'
        obtain ⟨hop, rfl, hh⟩ := Option.map_eq_some_iff.1 hhi
        obtain ⟨l, h2, hl0, rfl, hle, hle2, hk⟩ := hv
        refine donev ?_ hk
        simp only [execOp, Instr.sliceAt, Instr.slice, Instr.sliceBounds, Instr.sliceBound, hx', Sem.run_bind, run_underlying hu, Result.andThen_ok, Sem.run_pure, Option.map_some, Option.map_none, eval_of_ev hf hh, asIntOf_int]
        simp only [Option.isSome_none, Bool.false_eq_true, if_false, Sem.run_bind, Sem.run_pure, Result.andThen_ok, asIntOf_int]
        rw [if_pos ⟨by omega, by omega⟩]
        simp
      · rename_i kk lv hlo hhi
        have hhi' : hi = none := by simpa using hhi
        subst hhi'
        obtain ⟨lop, rfl, hh⟩ := Option.map_eq_some_iff.1 hlo
        obtain ⟨l, h2, rfl, hh2, hle, hle2, hk⟩ := hv
        simp only [Option.getD_none, Option.getD_some] at *
        refine donev ?_ hk
        simp only [execOp, Instr.sliceAt, Instr.slice, Instr.sliceBounds, Instr.sliceBound, hx', Sem.run_bind, run_underlying hu, Result.andThen_ok, Sem.run_pure, Option.map_some, Option.map_none, eval_of_ev hf hh, asIntOf_int]
        simp only [Option.isSome_none, Bool.false_eq_true, if_false, Sem.run_bind, Sem.run_pure, Result.andThen_ok, asIntOf_int]
        rw [if_pos ⟨by omega, by omega⟩]
        simp
      · rename_i kk lv kk' hv' hlo hhi
        obtain ⟨lop, rfl, hh⟩ := Option.map_eq_some_iff.1 hlo
        obtain ⟨hop, rfl, hh'⟩ := Option.map_eq_some_iff.1 hhi
        obtain ⟨l, h2, rfl, rfl, hle, hle2, hk⟩ := hv
        refine donev ?_ hk
        simp only [execOp, Instr.sliceAt, Instr.slice, Instr.sliceBounds, Instr.sliceBound, hx', Sem.run_bind, run_underlying hu, Result.andThen_ok, Sem.run_pure, Option.map_some, Option.map_none, eval_of_ev hf hh, eval_of_ev hf hh', asIntOf_int]
        simp only [Option.isSome_none, Bool.false_eq_true, if_false, Sem.run_bind, Sem.run_pure, Result.andThen_ok, asIntOf_int]
        rw [if_pos ⟨by omega, by omega⟩]
        simp only [Sem.run_pure, Result.andThen_ok, Int.toNat_natCast]
        rw [if_pos ⟨by omega, by omega⟩]
        simp
      · exact hv.elim
    · exact Or.inl hv
  case extract x i =>
    simp only [V_q] at hv
    split at hv
    · rename_i vs hx
      split at hv
      · rename_i v hi
        refine donev ?_ hv
        have hi' : vs[i]? = some v := by simpa using hi
        simp [execOp, Instr.extract, eval_of_ev hf hx, hi']
      · exact hv.elim
    · exact hv.elim
  case convert s d x =>
    simp only [V_q] at hv
    split at hv
    · rename_i si sz by' z k k' n hs ht hx
      have hu := (hE _ _ ht).int
      obtain ⟨ds, hus, _⟩ := (hE _ _ hs).und
      obtain ⟨r, hr, hk⟩ := hv
      refine donev ?_ hk
      simp only [execOp, convert, eval_of_ev hf hx, Sem.run_bind, run_underlying hus, run_underlying hu, Result.andThen_ok]
      simp only [Conv.intToInt, hr, Sem.run_pure, Result.andThen_ok]
    · exact Or.inl hv
  case call c =>
    obtain ⟨callee, args, argTypes⟩ := c
    cases callee with
    | value f => exact .inl hv
    | invoke r m => exact .inl hv
    | builtin b =>
      cases b
      case len =>
        simp only [V_q] at hv
        split at hv
        · rename_i t v h1 h2
          have e1 := evs_ok hf h2
          have e1' : args.map a.eval = #[v] := by apply Array.ext'; simpa using e1
          have ht : argTypes = #[t] := by apply Array.ext'; simpa using h1
          subst ht
          split at hv
          · rename_i sz by' z e ad n c hT
            have hu := (hE _ _ hT).slice
            refine donev ?_ hv
            simp [execOp, resolve, invoke, builtin, Builtin.len_, e1', run_underlying hu, goInt]
          · rename_i sz by' z s hT
            have hu := (hE _ _ hT).string
            refine donev ?_ hv
            simp [execOp, resolve, invoke, builtin, Builtin.len_, e1', run_underlying hu, goInt]
          · rename_i sz by' z n e hT
            have hu := (hE _ _ hT).array
            refine donev ?_ hv
            simp [execOp, resolve, invoke, builtin, Builtin.len_, e1', run_underlying hu, goInt]
          · exact Or.inl hv
        · exact Or.inl hv
      case cap =>
        simp only [V_q] at hv
        split at hv
        · rename_i t v h1 h2
          have e1 := evs_ok hf h2
          have e1' : args.map a.eval = #[v] := by apply Array.ext'; simpa using e1
          have ht : argTypes = #[t] := by apply Array.ext'; simpa using h1
          subst ht
          split at hv
          · rename_i sz by' z e ad n c hT
            have hu := (hE _ _ hT).slice
            refine donev ?_ hv
            simp [execOp, resolve, invoke, builtin, Builtin.cap_, e1', run_underlying hu, goInt]
          · exact Or.inl hv
        · exact Or.inl hv
      case max =>
        simp only [V_q] at hv
        split at hv
        · rename_i k p k' q h2
          have e1 := evs_ok hf h2
          have e1' : args.map a.eval = #[.int k p, .int k' q] := by apply Array.ext'; simpa using e1
          refine donev ?_ hv
          have hm : (if q > p then q else p) = max p q := by split <;> omega
          simp only [execOp, resolve, invoke, builtin, Builtin.max_, Builtin.max2, e1', Sem.run_bind, Sem.run_pure, Result.andThen_ok, List.foldlM_cons, List.foldlM_nil, hm]
        · exact Or.inl hv
      case min =>
        simp only [V_q] at hv
        split at hv
        · rename_i k p k' q h2
          have e1 := evs_ok hf h2
          have e1' : args.map a.eval = #[.int k p, .int k' q] := by apply Array.ext'; simpa using e1
          refine donev ?_ hv
          have hm : (if q < p then q else p) = min p q := by split <;> omega
          simp only [execOp, resolve, invoke, builtin, Builtin.min_, Builtin.min2, e1', Sem.run_bind, Sem.run_pure, Result.andThen_ok, List.foldlM_cons, List.foldlM_nil, hm]
        · exact Or.inl hv
      case unsafeSliceData =>
        simp only [V_q] at hv
        split at hv
        · rename_i n c h2
          have e1 := evs_ok hf h2
          have e1' : args.map a.eval = #[.slice none n c] := by apply Array.ext'; simpa using e1
          refine donev ?_ hv
          simp only [execOp, resolve, invoke, builtin, e1', Sem.run_bind, Sem.run_pure, Result.andThen_ok, Lib.run_unsafeSliceData_nil]
        · rename_i ad n c h2
          obtain ⟨h3, hv⟩ := hv
          have e1 := evs_ok hf h2
          have e1' : args.map a.eval = #[.slice (some ad) n c] := by apply Array.ext'; simpa using e1
          refine donev ?_ hv
          simp only [execOp, resolve, invoke, builtin, e1', Sem.run_bind, Sem.run_pure, Result.andThen_ok, Lib.run_unsafeSliceData_row _ _ _ _ _ _ (show c ≠ 0 by omega)]
        · exact Or.inl hv
      all_goals exact .inl hv
  all_goals exact .inl hv

theorem V_op_sound (hE : EOK X.P X.E) (hd : ∀ d, o.dst = some d → d < X.n) (h : Rel X a w F C I M) (hv : V_op X o F C I M K) : o.wpIn (fen X) 0 X.P a w (Sat X K) Q := by
  have hR := h
  obtain ⟨β, h⟩ := h
  obtain ⟨dst, op, ty, pos, after, guard⟩ := o
  have other : OtherOb X ⟨dst, op, ty, pos, after, guard⟩ F C I M K → (⟨dst, op, ty, pos, after, guard⟩ : Oper).wpIn (fen X) 0 X.P a w (Sat X K) Q := fun ⟨h⟩ => h a w Q hR
  have hf := h.fr
  have quiet : V_q X op (evr F) C I M (fun x => K (Go.V.put dst x F) C I M) (OtherOb X ⟨dst, op, ty, pos, after, guard⟩ F C I M K) → (∀ c, op ≠ .defer c) → (⟨dst, op, ty, pos, after, guard⟩ : Oper).wpIn (fen X) 0 X.P a w (Sat X K) Q := fun hq hnd => by
    rcases V_q_run hE h op ty dst pos after guard hq with h1 | ⟨v, x, hr, hx, hk⟩
    · exact other h1
    · exact done_val (o := ⟨dst, op, ty, pos, after, guard⟩) h hd hnd hr hx hk
  cases op
  case box t x =>
    simp only [V_op] at hv
    split at hv
    · rename_i d v hx
      have hx' := eval_of_ev hf hx
      have hr : (execOp a.eval ⟨some d, .box t x, ty, pos, after, guard⟩).run X.P w = .ok (.value (.pointer (some ⟨w.heap.size, 0, none⟩))) (w.alloc (.cells v.cells t (0, 0))) := by
        simp [execOp, Instr.box, newVar, newRow, hx', World.alloc_eq]
      have hdn : d < X.n := hd d rfl
      cases hesc : X.esc.contains d with
      | true =>
        rw [hesc] at hv
        obtain ⟨hv⟩ := hv
        have hk := hv w.heap.size h.holds.freshI h.holds.freshM
        have h1 := (h.alloc_blk (.cells v.cells t (0, 0))).dropBox d
        exact wpIn_val (by simp) hr ⟨_, _, _, _, ⟨β, RelB.put h1 (dst := some d) (x := .val (.pointer (some ⟨w.heap.size, 0, none⟩))) (by simpa using hdn) rfl⟩, hk⟩
      | false =>
        rw [hesc] at hv
        obtain ⟨β', h1⟩ := h.alloc_box d hdn v.cells.toList t
        exact wpIn_val (by simp) hr ⟨_, _, _, _, ⟨β', by simpa using h1⟩, hv⟩
    · exact hv.elim
  case alloc t =>
    simp only [V_op] at hv
    split at hv
    · rename_i d i hi
      obtain ⟨z, hz, hzc⟩ := (hE _ _ hi).run_zero w
      have hzz : z.cells = i.zero.toArray := by rw [← hzc]
      have hr : (execOp a.eval ⟨some d, .alloc t, ty, pos, after, guard⟩).run X.P w = .ok (.value (.pointer (some ⟨w.heap.size, 0, none⟩))) (w.alloc (.cells i.zero.toArray t (0, 0))) := by
        simp [execOp, Instr.alloc, newVar, newRow, hz, hzz, World.alloc_eq]
      have hdn : d < X.n := hd d rfl
      cases hesc : X.esc.contains d with
      | true =>
        rw [hesc] at hv
        obtain ⟨hv⟩ := hv
        have hk := hv w.heap.size h.holds.freshI h.holds.freshM
        have h1 := (h.alloc_blk (.cells i.zero.toArray t (0, 0))).dropBox d
        exact wpIn_val (by simp) hr ⟨_, _, _, _, ⟨β, RelB.put h1 (dst := some d) (x := .val (.pointer (some ⟨w.heap.size, 0, none⟩))) (by simpa using hdn) rfl⟩, hk⟩
      | false =>
        rw [hesc] at hv
        obtain ⟨β', h1⟩ := h.alloc_box d hdn i.zero t
        exact wpIn_val (by simp) hr ⟨_, _, _, _, ⟨β', h1⟩, hv⟩
    · exact hv.elim
  case store t x y =>
    simp only [V_op] at hv
    split at hv
    · rename_i i v hi hy
      have hy' := eval_of_ev hf hy
      split at hv
      · rename_i s off hx
        have hx' := eval_of_ref hf hx
        split at hv
        · rename_i cs hs
          cases hle : (Nat.ble (off + i.size) cs.length && (Nat.beq v.cells.size i.size && allOne v.cells.toList)) with
          | false => rw [hle] at hv; exact hv.elim
          | true =>
            rw [hle] at hv
            simp only [Bool.and_eq_true] at hle
            obtain ⟨hle, hsz, hone⟩ := hle
            have hle' := Nat.le_of_ble_eq_true hle
            have hsz' := Nat.eq_of_beq_eq_true hsz
            obtain ⟨T, hT⟩ := (h.bx s cs hs).at_
            have := storeVar_run (hE _ _ hi) (a := ⟨β s, off, none⟩) (v := v) rfl hT hsz' (by simp; omega) hone
            refine wpIn_skip' (by simp) (w' := w.setRow (β s) (splice cs off v.cells.toList).toArray) ?_ ⟨_, _, _, _, ⟨β, h.store_box hs (splice cs off v.cells.toList)⟩, hv⟩
            simp only [execOp, Instr.storeAt, hx', hy', Instr.sureAddr, Sem.run_bind, Sem.run_pure, Result.andThen_ok]
            simp only [List.toList_toArray] at this
            rw [this]
            rfl
        · exact hv.elim
      · rename_i ad hx
        have hx' := eval_of_evr hf hx
        cases hsz : Nat.beq v.cells.size i.size with
        | false => rw [hsz] at hv; exact hv.elim
        | true =>
          rw [hsz] at hv
          obtain ⟨pre, post, cs, T, hM, hsp, hb, hone, hk⟩ := hv
          have hsz' := Nat.eq_of_beq_eq_true hsz
          have hg : w.heap[ad.block]? = some (.cells cs T (0, 0)) := h.holds.m ⟨ad.block, .cells cs T (0, 0)⟩ (by rw [hM]; simp)
          have := storeVar_run (hE _ _ hi) (v := v) hsp hg hsz' hb hone
          refine wpIn_skip' (by simp) (w' := w.setRow ad.block (splice cs.toList ad.off v.cells.toList).toArray) ?_ ⟨_, _, _, _, ⟨β, h.store_blk hM⟩, hk⟩
          simp only [execOp, Instr.storeAt, hx', hy', Instr.sureAddr, Sem.run_bind, Sem.run_pure, Result.andThen_ok]
          rw [this]
          rfl
      · exact hv.elim
    · exact hv.elim
  case buildSlice t len parts =>
    simp only [V_op] at hv
    split at hv
    · rename_i sz by' z e vs ht hvs
      have hu := (hE _ _ ht).slice
      have hp := evParts_ok hf hvs
      have hpp : (parts.map fun (i, x) => (i, a.eval x)).toList = vs := by simpa using hp
      split at hv
      · rename_i ei hei
        cases hz : (Nat.ble (len * ei.size) 16777216 && Nat.blt 0 (len * ei.size)) with
        | false => rw [hz] at hv; exact hv.elim
        | true =>
          rw [hz] at hv
          simp only [cond_true] at hv
          rw [Bool.and_eq_true] at hz
          have hle := Nat.le_of_ble_eq_true hz.1
          have hpos : 0 < len * ei.size := by simpa using hz.2
          split at hv
          · rename_i cells hfill
            obtain ⟨zv, hzv, hzc⟩ := (hE _ _ hei).run_zero w
            obtain ⟨hv⟩ := hv
            have hk := hv w.heap.size h.holds.freshI h.holds.freshM
            refine wpIn_val (by simp) (v := .slice (some ⟨w.heap.size, 0, none⟩) len len) (w' := w.alloc (.cells cells.toArray e (0, 0))) ?_ ⟨_, _, _, _, ⟨β, (h.alloc_blk _).put (x := .val (.slice (some ⟨w.heap.size, 0, none⟩) len len)) hd rfl⟩, hk⟩
            have hfe := fill_eq _ _ _ _ hfill
            simp only [execOp, Instr.buildSlice, Sem.run_bind, Result.andThen_ok, run_underlying hu, (hE _ _ hei).run_sizeOf]
            rw [if_neg (by omega)]
            simp only [if_neg (show ¬ len * ei.size = 0 by omega), Sem.run_bind, hzv, Result.andThen_ok, Sem.run_pure, hpp, madeCells_eq zv ei.zero hzc, hfe]
            simp [newRow, World.alloc_eq]
          · exact hv.elim
      · exact hv.elim
    · exact hv.elim
  case makeSlice t l c =>
    simp only [V_op] at hv
    split at hv
    · rename_i sz by' z e kl l' kc c' ht hl hc
      have hu := (hE _ _ ht).slice
      split at hv
      · rename_i ei hei
        obtain ⟨n, m, rfl, rfl, hnm, hb, hm, ⟨hv⟩⟩ := hv
        have hk := hv w.heap.size h.holds.freshI h.holds.freshM
        obtain ⟨inf, zv, hi1, hi2, hi3, hi4, hi5⟩ := (hE _ _ hei).inf
        refine wpIn_val (by simp) (v := .slice (some ⟨w.heap.size, 0, none⟩) n m) (w' := w.alloc (.cells (rowOf ei.zero (m * ei.size)).toArray e (0, 0))) ?_ ⟨_, _, _, _, ⟨β, (h.alloc_blk _).put (x := .val (.slice (some ⟨w.heap.size, 0, none⟩) n m)) hd rfl⟩, hk⟩
        have hb2 : ((ei.bytes : Nat) : Int) * (m : Int) ≤ 281474976710656 := by
          have h2 : ((ei.bytes * m : Nat) : Int) ≤ 281474976710656 := by omega
          simpa using h2
        have := run_make (P := X.P) w t e inf zv hu hi1 hi4 kl kc (n : Int) (m : Int) (by omega) (by omega) (by rw [hi3]; exact hb2) (by omega)
        simp only [execOp, eval_of_ev hf hl, eval_of_ev hf hc, Sem.run_bind, this, Result.andThen_ok, Sem.run_pure, Int.toNat_natCast]
        have e1 : madeCells zv.cells (m * inf.size) = (rowOf ei.zero (m * ei.size)).toArray := by
          rw [hi2, ← hi5]
          simp [rowOf_eq]
        rw [e1]
      · exact hv.elim
    · exact hv.elim
  case call c =>
    obtain ⟨callee, args, argTypes⟩ := c
    cases callee with
    | value f =>
      simp only [V_op] at hv
      split at hv
      · rename_i g first cap vs hfv hvs
        have e1 := evs_ok hf hvs
        have e1' : args.map a.eval = vs.toArray := by apply Array.ext'; simpa using e1
        have hrun : ∀ {n : Next} {w' : World}, (callFunc g (first.toList ++ vs ++ cap.toList).toArray).run X.P w = .ok n w' → (execOp a.eval ⟨dst, .call { callee := .value f, args, argTypes }, ty, pos, after, guard⟩).run X.P w = .ok n w' := fun hr => by
          simp only [execOp, resolve, eval_of_ev hf hfv, Deferred.ofValue, Sem.run_bind, Sem.run_pure, Result.andThen_ok, e1', invoke]
          rw [show first ++ vs.toArray ++ cap = (first.toList ++ vs ++ cap.toList).toArray from by apply Array.ext'; simp]
          exact hr
        rcases h.call hv with ⟨hent, hcalls⟩ | ⟨v, w', I', M', hr, hk, hr'⟩
        · refine wpIn_enter (by simp) (f := g) (args := (first.toList ++ vs ++ cap.toList).toArray) (hrun (hent _ _)) ?_
          refine hcalls.mono ?_
          rintro e w' ⟨v, I', M', rfl, hk, hr⟩
          exact ⟨v, rfl, _, _, _, _, ⟨β, hr.put (x := .val v) hd rfl⟩, hk⟩
        · exact wpIn_val (by simp) (hrun hr) ⟨_, _, _, _, ⟨β, hr'.put (x := .val v) hd rfl⟩, hk⟩
      · exact other hv
    | invoke r m => exact quiet hv (by simp)
    | builtin b =>
      cases b
      all_goals exact quiet hv (by simp)
  case defer c => exact other hv
  all_goals exact quiet hv (by simp)
end
end Go.V
