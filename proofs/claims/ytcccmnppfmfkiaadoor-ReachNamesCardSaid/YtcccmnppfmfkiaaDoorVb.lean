/-
  More rules: append of nothing, operations by their own law, conversions to and from unsafe.Pointer, pointers compared, functions without a body.
-/
import Derived.Test.YtcccmnppfmfkiaaDoorVu
import Derived.Lib.Builder
import Derived.Lib.Bytealg
import Derived.Laws.Pointers
import Derived.Laws.StructEq
set_option linter.unusedVariables false
set_option linter.unusedSimpArgs false
namespace Go.V
open Go

theorem run_app0 {P : Program} {w : World} (t u ty e : Nat) (i : TypeInfo) (ht : P.underlying t = some (.slice e)) {du : TypeDesc} (hu : P.underlying u = some du) (hdu : ∀ k, du ≠ .int k) (hi : P.info? e = some i)
    {sa : Option Addr} {n c : Nat} (hnc : n ≤ c) {xv : Value} (h0 : (∃ b c, xv = .slice b 0 c) ∨ xv = .string .empty) : (Builtin.append_ #[t, u] ty #[.slice sa n c, xv]).run P w = .ok (.slice sa n c) w := by
  have hdu' : (match du with | .int _ => true | _ => false) = false := by cases du <;> first | rfl | exact (hdu _ rfl).elim
  rcases h0 with ⟨b, c', rfl⟩ | rfl
  · cases b <;> cases sa <;> simp [Builtin.append_, run_underlying ht, run_underlying hu, sizeOf, typeInfo, hi, hdu', Builtin.lenOf, hnc, Builtin.firstCells, Builtin.zeroCells, loadCells, loadCellsFrom, storeCells]
  · cases sa <;> simp [Builtin.append_, run_underlying ht, run_underlying hu, sizeOf, typeInfo, hi, hdu', Builtin.lenOf, hnc, Builtin.firstCells, loadCells, storeCells]

section
variable {X : Ctx} {β : Nat → Nat} {a : Act} {w : World} {F : Fr} {C : Bx} {I : GH} {M : List Blk} {o : Oper} {K : KS}

/-- Two values held against each other, by their own law. -/
theorem OtherOb.bin {op : BinOp} {x y : Operand} {t t' : Nat} (ho : o.op = .binOp op t x y t') (hd : ∀ d, o.dst = some d → d < X.n) {p q v : Value} (hx : ev F x = .val p) (hy : ev F y = .val q)
    (hg : ∀ w, (eqGuard op t x y p q).run X.P w = .ok () w) (hr : ∀ w, Holds I M w → (binOp op t p q).run X.P w = .ok v w) (h : K (put o.dst (.val v) F) C I M) : OtherOb X o F C I M K := by
  refine ⟨fun ac w Q ⟨β, hR⟩ => ?_⟩
  have ex := eval_of_ev hR.fr hx
  have ey := eval_of_ev hR.fr hy
  refine done_vv hR hd (by rw [ho]; simp) ?_ h
  unfold execOp
  simp only [ho, Sem.run_bind, ex, ey, hg, Result.andThen_ok, hr w hR.holds, Sem.run_pure]

/-- A conversion, by its own law. -/
theorem OtherOb.conv {x : Operand} {s t : Nat} (ho : o.op = .convert s t x) (hd : ∀ d, o.dst = some d → d < X.n) {p v : Value} (hx : ev F x = .val p)
    (hr : ∀ w, Holds I M w → (convert s t p).run X.P w = .ok v w) (h : K (put o.dst (.val v) F) C I M) : OtherOb X o F C I M K := by
  refine ⟨fun ac w Q ⟨β, hR⟩ => ?_⟩
  have ex := eval_of_ev hR.fr hx
  refine done_vv hR hd (by rw [ho]; simp) ?_ h
  unfold execOp
  simp only [ho, Sem.run_bind, ex, Result.andThen_ok, hr w hR.holds, Sem.run_pure]

/-- An operation on one value, by its own law. -/
theorem OtherOb.un {op : UnOp} {x : Operand} {t : Nat} (ho : o.op = .unOp op t x) (hd : ∀ d, o.dst = some d → d < X.n) {p v : Value} (hx : ev F x = .val p)
    (hr : ∀ w, Holds I M w → (Op.unary op p).run X.P w = .ok v w) (h : K (put o.dst (.val v) F) C I M) : OtherOb X o F C I M K := by
  refine ⟨fun ac w Q ⟨β, hR⟩ => ?_⟩
  have ex := eval_of_ev hR.fr hx
  refine done_vv hR hd (by rw [ho]; simp) ?_ h
  unfold execOp
  simp only [ho, Sem.run_bind, ex, Result.andThen_ok, hr w hR.holds, Sem.run_pure]
def notV (x : Int) : Int := IntKind.u64.wrap (BitVec.ofInt 64 IntKind.u64.max ^^^ BitVec.ofInt 64 x).toNat
/-- '^x' of 64 bits. -/
theorem OtherOb.notU {x : Operand} {t : Nat} (ho : o.op = .unOp .xor t x) (hd : ∀ d, o.dst = some d → d < X.n) {n : Int} (hx : ev F x = .val (.int .u64 n)) (h : K (put o.dst (.val (.int .u64 (notV n))) F) C I M) : OtherOb X o F C I M K :=
  .un ho hd hx (fun w _ => rfl) h

/-- append(s, x...), x being empty. -/
theorem OtherOb.append0 (hE : EOK X.P X.E) {s x : Operand} {t u : Nat} (ho : o.op = .call { callee := .builtin .append, args := #[s, x], argTypes := #[t, u] }) (hd : ∀ d, o.dst = some d → d < X.n)
    {e : Nat} {ti tu ei : TI} (ht : X.E t = some ti) (hts : ti.sh = .slice e) (hu : X.E u = some tu) (hus : ∀ k, tu.sh ≠ .int k) (he : X.E e = some ei)
    {sa : Option Addr} {n c : Nat} (hs : ev F s = .val (.slice sa n c)) (hnc : n ≤ c)
    {xv : Value} (hx : ev F x = .val xv) (h0 : (∃ b c, xv = .slice b 0 c) ∨ xv = .string .empty)
    (h : K (put o.dst (.val (.slice sa n c)) F) C I M) : OtherOb X o F C I M K := by
  refine ⟨fun a w Q ⟨β, hR⟩ => ?_⟩
  obtain ⟨inf, z, hi, hi1, hi2, hi3, hi4⟩ := (hE _ _ he).inf
  obtain ⟨d, hud, hdd⟩ := (hE _ _ hu).und
  obtain ⟨dt, htd, hdt⟩ := (hE _ _ ht).und
  have hdt' : dt = .slice e := by
    rw [hts] at hdt
    cases dt <;> simp_all [shOf]
  subst hdt'
  have hrun := run_app0 (w := w) t u o.type e inf htd hud (fun k e' => hus k (by rw [← hdd, e']; rfl)) hi (sa := sa) hnc h0
  have es := eval_of_ev hR.fr hs
  have ex := eval_of_ev hR.fr hx
  refine done_vv hR hd (by rw [ho]; simp) ?_ h
  unfold execOp
  simp only [ho, resolve, invoke, builtin, Sem.run_bind, Sem.run_pure, Result.andThen_ok, List.map_toArray, List.map_cons, List.map_nil, es, ex, hrun]

theorem run_eqGuard_pointer (op : BinOp) (t : Nat) (x y : Operand) (p q : Option Addr) (P : Program) (w : World) : (eqGuard op t x y (.pointer p) (.pointer q)).run P w = .ok () w := by
  unfold eqGuard
  cases op <;> rfl

/-- 'p == nil'. -/
theorem OtherOb.eqNil (hE : EOK X.P X.E) {x y : Operand} {t t' e : Nat} (ho : o.op = .binOp .eql t x y t') (hd : ∀ d, o.dst = some d → d < X.n) {ti : TI} (ht : X.E t = some ti) (hts : ti.sh = .pointer e)
    {p : Option Addr} (hx : ev F x = .val (.pointer p)) (hy : ev F y = .val (.pointer none)) (h : K (put o.dst (.val (.bool p.isNone)) F) C I M) : OtherOb X o F C I M K := by
  obtain ⟨d, hud, hdd⟩ := (hE _ _ ht).und
  have h1 : d = .pointer e := by rw [hts] at hdd; cases d <;> simp_all [shOf]
  subst h1
  exact .bin ho hd hx hy (fun w => run_eqGuard_pointer ..) (fun w _ => run_eql_pointer_nil w t p (by simp [Program.pointee, hud])) h

/-- 'p != p'. -/
theorem OtherOb.neSame (hE : EOK X.P X.E) {x y : Operand} {t t' e : Nat} (ho : o.op = .binOp .neq t x y t') (hd : ∀ d, o.dst = some d → d < X.n) {ti te : TI} (ht : X.E t = some ti) (hts : ti.sh = .pointer e) (he : X.E e = some te)
    {p : Addr} (hx : ev F x = .val (.pointer (some p))) (hy : ev F y = .val (.pointer (some p))) (h : K (put o.dst (.val (.bool false)) F) C I M) : OtherOb X o F C I M K := by
  obtain ⟨d, hud, hdd⟩ := (hE _ _ ht).und
  have h1 : d = .pointer e := by rw [hts] at hdd; cases d <;> simp_all [shOf]
  subst h1
  obtain ⟨inf, z, hi, _⟩ := (hE _ _ he).inf
  exact .bin ho hd hx hy (fun w => run_eqGuard_pointer ..) (fun w _ => Lib.run_neq_ptr_same w p hud hi) h
end

/-! ### Functions without a body -/
theorem specX_same {P : Program} {f : Nat} {fn : Func} {e : Array Value → Sem Value} {args : List Value} {v : Value} {I : GH} {M : List Blk} (hf : P.funcs[f]? = some fn) (hname : (fn.name == "runtime.NumGoroutine") = false)
    (hb : fn.body.isNone = true) (hn : Extern.findNext fn = none) (he : Extern.find fn = some e) (hr : ∀ w, (e args.toArray).run P w = .ok v w) : Spec P f args I M fun r I' M' => r = v ∧ I' = I ∧ M' = M := by
  refine .inr fun w hw => ⟨v, w, I, M, ?_, ⟨rfl, rfl, rfl⟩, hw, fun _ _ h => h, fun _ _ h => .inl h, fun x hx => .inl ⟨x, hx, rfl⟩, fun _ _ _ => rfl, .refl _, Nat.le_refl _⟩
  rw [run_callFunc_extern hf hname hb hn he, hr]
  rfl

/-- What a byte's place in a text is. -/
theorem indexByte_ge (l : List UInt8) (c : UInt8) : -1 ≤ Lib.indexByte l c := by
  induction l with
  | nil => simp [Lib.indexByte]
  | cons b l ih =>
    unfold Lib.indexByte
    split
    · omega
    · split
      · omega
      · omega
end Go.V
