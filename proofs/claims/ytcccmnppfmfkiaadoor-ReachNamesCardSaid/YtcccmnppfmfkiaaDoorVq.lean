/-
  More operations: arrays of four numbers compared; min, max; an empty text appended.
-/
import Derived.Test.YtcccmnppfmfkiaaDoorVa
set_option linter.unusedVariables false
set_option linter.unusedSimpArgs false
namespace Go.V
open Go

section
variable {X : Ctx} {F : Fr} {C : Bx} {I : GH} {M : List Blk} {o : Oper} {K : KS}

theorem eq4_run {P : Program} {t e : Nat} (ht : P.underlying t = some (.array 4 e)) {k : IntKind} (he : P.underlying e = some (.int k)) {inf : TypeInfo} (hi : P.info? e = some inf) (hs : inf.size = 1) (a0 a1 a2 a3 b0 b1 b2 b3 : Int) (w : World) :
    (Op.equal t (.agg #[.int k a0, .int k a1, .int k a2, .int k a3]) (.agg #[.int k b0, .int k b1, .int k b2, .int k b3])).run P w = .ok (a0 == b0 && (a1 == b1 && (a2 == b2 && a3 == b3))) w := by
  have hpart : ∀ (xs : Array Value) (i : Nat) (v : Value) (w : World), xs[i]? = some v → (part e xs i).run P w = .ok v w := fun xs i v w h => by
    have hagg : (isAgg e).run P w = .ok false w := by
      unfold isAgg
      simp [run_underlying he]
    unfold part
    simp [hagg, sizeOf, typeInfo, hi, hs, h]
  have hint : ∀ (d : Nat) (x y : Int) (w : World), (Op.equalIn (d + 1) e (.int k x) (.int k y)).run P w = .ok (x == y) w := fun d x y w => by
    simp [Op.equalIn, run_underlying he]
  have key : ∀ m, (∀ (x y : Int) (w : World), (Op.equalIn m e (.int k x) (.int k y)).run P w = .ok (x == y) w) → (Op.equalIn (m + 1) t (.agg #[.int k a0, .int k a1, .int k a2, .int k a3]) (.agg #[.int k b0, .int k b1, .int k b2, .int k b3])).run P w = .ok (a0 == b0 && (a1 == b1 && (a2 == b2 && a3 == b3))) w := fun m hint => by
    rw [Op.equalIn]
    simp only [Sem.run_bind, run_underlying ht, Result.andThen_ok, sizeOf, typeInfo, hi, run_program, Sem.run_pure, hs]
    simp only [Std.Legacy.Range.forIn_eq_forIn_range']
    have hr : List.range' 0 ([:4] : Std.Legacy.Range).size = [0, 1, 2, 3] := by decide
    rw [hr]
    have pa := fun (i : Nat) (v : Value) (w : World) => hpart #[.int k a0, .int k a1, .int k a2, .int k a3] i v w
    have pb := fun (i : Nat) (v : Value) (w : World) => hpart #[.int k b0, .int k b1, .int k b2, .int k b3] i v w
    simp only [List.forIn_cons, List.forIn_nil, Sem.run_bind]
    rw [pa (0 * 1) (.int k a0) w rfl]
    simp only [Result.andThen_ok, Sem.run_bind]
    rw [pb (0 * 1) (.int k b0) w rfl]
    simp only [Result.andThen_ok, Sem.run_bind]
    rw [hint]
    simp only [Result.andThen_ok]
    cases (a0 == b0)
    · simp
    simp only [Bool.not_true, Bool.false_eq_true, if_false, Sem.run_pure, Result.andThen_ok, Sem.run_bind]
    rw [pa (1 * 1) (.int k a1) w rfl]
    simp only [Result.andThen_ok, Sem.run_bind]
    rw [pb (1 * 1) (.int k b1) w rfl]
    simp only [Result.andThen_ok, Sem.run_bind]
    rw [hint]
    simp only [Result.andThen_ok]
    cases (a1 == b1)
    · simp
    simp only [Bool.not_true, Bool.false_eq_true, if_false, Sem.run_pure, Result.andThen_ok, Sem.run_bind]
    rw [pa (2 * 1) (.int k a2) w rfl]
    simp only [Result.andThen_ok, Sem.run_bind]
    rw [pb (2 * 1) (.int k b2) w rfl]
    simp only [Result.andThen_ok, Sem.run_bind]
    rw [hint]
    simp only [Result.andThen_ok]
    cases (a2 == b2)
    · simp
    simp only [Bool.not_true, Bool.false_eq_true, if_false, Sem.run_pure, Result.andThen_ok, Sem.run_bind]
    rw [pa (3 * 1) (.int k a3) w rfl]
    simp only [Result.andThen_ok, Sem.run_bind]
    rw [pb (3 * 1) (.int k b3) w rfl]
    simp only [Result.andThen_ok, Sem.run_bind]
    rw [hint]
    simp only [Result.andThen_ok]
    cases (a3 == b3)
    · simp
    simp
  exact key 9999 (hint 9998)

/-- '==' of two arrays of four numbers. -/
theorem BinOb.eq4 {P : Program} {E : Env} (hE : EOK P E) {t e : Nat} {ti ei : TI} {x y : Operand} (ht : E t = some ti) (hts : ti.sh = .array 4 e) (he : E e = some ei) {k : IntKind} (hes : ei.sh = .int k)
    (hg : P.eqGuardType P.depth t = false) {a0 a1 a2 a3 b0 b1 b2 b3 : Int} {V : Value → Prop} {other : Prop}
    (h : V (.bool (a0 == b0 && (a1 == b1 && (a2 == b2 && a3 == b3))))) : BinOb P .eql t x y (.val (.agg #[.int k a0, .int k a1, .int k a2, .int k a3])) (.val (.agg #[.int k b0, .int k b1, .int k b2, .int k b3])) V other := by
  obtain ⟨d, hud, hdd⟩ := (hE _ _ ht).und
  obtain ⟨de, hue, hde⟩ := (hE _ _ he).und
  obtain ⟨inf, z, hi, hi1, _⟩ := (hE _ _ he).inf
  have h1 : d = .array 4 e := by rw [hts] at hdd; cases d <;> simp_all [shOf]
  have h2 : de = .int k := by rw [hes] at hde; cases de <;> simp_all [shOf]
  subst h1
  subst h2
  have hs1 : inf.size = 1 := by rw [hi1]; exact (hE _ _ he).sz1 (by rw [hes]; rfl)
  refine .mk _ _ _ rfl rfl (fun w => ?_) h
  simp only [Sem.run_bind, run_eqGuard_agg (hm := hg), Result.andThen_ok, binOp, eq4_run hud hue hi hs1, Sem.run_pure]

/-- Texts put together. -/
theorem BinOb.concat {P : Program} {t : Nat} {x y : Operand} {a b : ByteArray} (hs : a.size + b.size ≤ 9223372036854775807) {V : Value → Prop} {other : Prop} (h : V (.string (a ++ b))) : BinOb P .add t x y (.val (.string a)) (.val (.string b)) V other := by
  refine .mk _ _ _ rfl rfl (fun w => ?_) h
  simp only [Sem.run_bind, run_eqGuard_string, Result.andThen_ok, binOp, run_string_add_sum _ _ _ hs, Sem.run_pure]
end
end Go.V
