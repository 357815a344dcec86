/-
  For every input bonsai/bonsailaw10.FlowTells returns true, and each argument reads behind the call as it read before: the given card, from the walk's contract. Conditions: those of the row itself.
-/
import Derived.Test.YtcccmnppfmfkiaaGreatDoorK5
import Derived.Test.YtcccmnppfmfkiaaGreatDoorK7
import Derived.Test.YtcccmnppfmfkiaaGreatDoorK4
import Derived.Test.YtcccmnppfmfkiaaGreatDoorK6
import Derived.Test.YtcccmnppfmfkiaaGreatDoorK8
import Derived.Test.YtcccmnppfmfkiaaGreatDoorK9
import Derived.Carry

/-
  Walks: the flows of a node, out of its kids'.
-/
set_option linter.unusedVariables false
set_option linter.unusedSimpArgs false
namespace Go.V
open Go Go.Proofs

structure Fl where
  z : Bool
  s : Bool
  f : Bool
  deriving DecidableEq
def Fl.cells (x : Fl) : List Value := [.bool x.z, .bool x.s, .bool x.f]
def Fl.val (x : Fl) : Value := .agg #[.bool x.z, .bool x.s, .bool x.f]
theorem Fl.cells_len (x : Fl) : x.cells.length = 3 := rfl
def Fl.suc (x : Fl) : Bool := x.z || x.s
def Fl.eqb (x y : Fl) : Bool := x.z == y.z && (x.s == y.s && x.f == y.f)
theorem Fl.eqb_iff (x y : Fl) : x.eqb y = decide (x = y) := by
  obtain ⟨a, b, c⟩ := x
  obtain ⟨d, e, f⟩ := y
  cases a <;> cases b <;> cases c <;> cases d <;> cases e <;> cases f <;> decide

theorem eqB3_run (x y : Fl) (p q : Operand) (w : World) : (do eqGuard .eql 51 p q x.val y.val; binOp .eql 51 x.val y.val : Sem Value).run Tryz.prog w = .ok (.bool (decide (x = y))) w := by
  obtain ⟨a, b, c⟩ := x
  obtain ⟨d, e, f⟩ := y
  cases a <;> cases b <;> cases c <;> cases d <;> cases e <;> cases f <;> kernel_rfl
theorem neB3_run (x y : Fl) (p q : Operand) (w : World) : (do eqGuard .neq 51 p q x.val y.val; binOp .neq 51 x.val y.val : Sem Value).run Tryz.prog w = .ok (.bool (!decide (x = y))) w := by
  obtain ⟨a, b, c⟩ := x
  obtain ⟨d, e, f⟩ := y
  cases a <;> cases b <;> cases c <;> cases d <;> cases e <;> cases f <;> kernel_rfl
theorem BinOb.eqF {x y : Operand} {p q : Fl} {V : Value → Prop} {other : Prop} (h : V (.bool (decide (p = q)))) : BinOb Tryz.prog .eql 51 x y (.val (.agg #[.bool p.z, .bool p.s, .bool p.f])) (.val (.agg #[.bool q.z, .bool q.s, .bool q.f])) V other :=
  .mk _ _ _ rfl rfl (fun w => eqB3_run p q x y w) h
theorem BinOb.neF {x y : Operand} {p q : Fl} {V : Value → Prop} {other : Prop} (h : V (.bool (!decide (p = q)))) : BinOb Tryz.prog .neq 51 x y (.val (.agg #[.bool p.z, .bool p.s, .bool p.f])) (.val (.agg #[.bool q.z, .bool q.s, .bool q.f])) V other :=
  .mk _ _ _ rfl rfl (fun w => neB3_run p q x y w) h

theorem fl_eq {z s f : Bool} {x : Fl} (h1 : z = x.z) (h2 : s = x.s) (h3 : f = x.f) : Value.agg #[.bool z, .bool s, .bool f] = x.val := by
  subst h1 h2 h3
  rfl
theorem fl_cells {z s f : Bool} {x : Fl} (h1 : z = x.z) (h2 : s = x.s) (h3 : f = x.f) : [Value.bool z, Value.bool s, Value.bool f] = x.cells := by
  subst h1 h2 h3
  rfl
theorem sv_bool {a b : Bool} (h : a = b) : SvLe (.val (.bool a)) (.val (.bool b)) := by
  subst h
  exact .refl
theorem sv_lit {a b : Bool} (h : a = b) : SvLe (.lit a) (.val (.bool b)) := by
  subst h
  exact .lit
theorem perm_nil {M : List Blk} : M.Perm (M ++ []) := by simp
theorem BinOb.ne4 {P : Program} {E : Env} (hE : EOK P E) {t e : Nat} {ti ei : TI} {x y : Operand} (ht : E t = some ti) (hts : ti.sh = .array 4 e) (he : E e = some ei) {k : IntKind} (hes : ei.sh = .int k)
    (hg : P.eqGuardType P.depth t = false) {a0 a1 a2 a3 b0 b1 b2 b3 : Int} {V : Value → Prop} {other : Prop}
    (h : V (.bool (!(a0 == b0 && (a1 == b1 && (a2 == b2 && a3 == b3)))))) : BinOb P .neq t x y (.val (.agg #[.int k a0, .int k a1, .int k a2, .int k a3])) (.val (.agg #[.int k b0, .int k b1, .int k b2, .int k b3])) V other := by
  obtain ⟨d, hud, hdd⟩ := (hE _ _ ht).und
  obtain ⟨de, hue, hde⟩ := (hE _ _ he).und
  obtain ⟨inf, z, hi, hi1, _⟩ := (hE _ _ he).inf
  have h1 : d = .array 4 e := by rw [hts] at hdd; cases d <;> simp_all [shOf]
  have h2 : de = .int k := by rw [hes] at hde; cases de <;> simp_all [shOf]
  subst h1
  subst h2
  have hs1 : inf.size = 1 := by rw [hi1]; exact (hE _ _ he).sz1 (by rw [hes]; rfl)
  refine .mk _ _ _ rfl rfl (fun w => ?_) h
  simp only [Sem.run_bind, run_eqGuard_agg (hm := hg), Result.andThen_ok, binOp, eq4_run hud hue hi hs1, Sem.run_pure]
theorem Suc_spec {I : GH} {M : List Blk} (x : Fl) : Spec Tryz.prog 28 [x.val] I M fun v I' M' => v = .bool x.suc ∧ I' = I ∧ M' = M := by
  obtain ⟨a, b, c⟩ := x
  refine spec_of_V [] TryzEOK Tryz.func28 rfl rfl rfl ?_
  intro B h0
  refine GuardOb.mk (fun h => ?_) (fun h => ?_)
  · exact ⟨_, _, .refl, by rw [show a = false from h]; rfl, rfl, rfl⟩
  · exact ⟨_, _, .refl, by rw [show a = true from h]; rfl, rfl, rfl⟩

/-- Flows that lie from an address on. -/
structure FsAt (I : GH) (M : List Blk) (a : Option Addr) (n : Nat) (ks : List Fl) : Prop where
  n : ks.length = n
  rd : ∀ j (h : j < ks.length), ∃ ad, a = some ad ∧ Rd I M (ad.add (j * 3)) 3 ks[j].cells

def seqStep (st : Fl × Bool) (k : Fl) : Fl × Bool := (⟨st.1.z && k.z, st.1.s || k.s, st.1.f || (st.2 && k.f)⟩, st.2 && k.suc)
def seqGo (ks : List Fl) : Fl × Bool := ks.foldl seqStep (⟨true, false, false⟩, true)
def seqFl (ks : List Fl) : Fl := ⟨(seqGo ks).1.z, (seqGo ks).1.s && (seqGo ks).2, (seqGo ks).1.f⟩
def chStep (f k : Fl) : Fl := ⟨f.z || (f.f && k.z), f.s || (f.f && k.s), f.f && k.f⟩
def chFl (ks : List Fl) : Fl := ks.foldl chStep ⟨false, false, true⟩
def fl0 : Fl := ⟨false, false, false⟩
def repFl (d : Nd) (k : Fl) : Fl := bif decide (d.hi = 0) then ⟨true, false, false⟩ else ⟨k.z || (decide (d.lo = 0) && k.f), k.s, decide (0 < d.lo) && k.f⟩
/-- What a node's kids come to (of a Rule its only kid is the rule's). -/
def comeFl (d : Nd) (ks : List Fl) : Fl :=
  bif decide (d.k = 0) then ⟨true, false, false⟩ else
  bif decide (d.k = 1) then ⟨false, !d.setZ, true⟩ else
  bif decide (d.k = 2) then ⟨false, true, true⟩ else
  bif decide (d.k = 3) then ks.headD fl0 else
  bif decide (d.k = 4) then seqFl ks else
  bif decide (d.k = 5) then chFl ks else
  bif decide (d.k = 6) then repFl d (ks.headD fl0) else
  bif decide (d.k = 7) then ⟨(ks.headD fl0).suc, false, (ks.headD fl0).f⟩ else
  bif decide (d.k = 8) then ⟨(ks.headD fl0).f, false, (ks.headD fl0).suc⟩ else ks.headD fl0

section
variable {I : GH} {M : List Blk} {d : Nd} {a : Option Addr} {n c : Nat} {ks : List Fl}
theorem FsAt.head (hk : FsAt I M a n ks) (h0 : 0 < n) : ∃ ad, a = some ad ∧ Rd I M (ad.add (0 * 3)) 3 (ks.headD fl0).cells := by
  have h1 : 0 < ks.length := by rw [hk.n]; exact h0
  obtain ⟨ad, h2, h3⟩ := hk.rd 0 h1
  refine ⟨ad, h2, ?_⟩
  cases ks with
  | nil => simp at h1
  | cons k ks => exact h3
theorem fEmpty_spec : Spec Tryz.prog 85 [d.val, .slice a n c] I M fun v I' M' => v = Fl.val ⟨true, false, false⟩ ∧ I' = I ∧ M' = M := by
  refine spec_of_V [] TryzEOK Tryz.func85 rfl rfl rfl ?_
  intro B h0
  exact ⟨_, _, .refl, rfl, rfl, rfl⟩
theorem fText_spec : Spec Tryz.prog 87 [d.val, .slice a n c] I M fun v I' M' => v = Fl.val ⟨false, true, true⟩ ∧ I' = I ∧ M' = M := by
  refine spec_of_V [] TryzEOK Tryz.func87 rfl rfl rfl ?_
  intro B h0
  exact ⟨_, _, .refl, rfl, rfl, rfl⟩
theorem fItself_spec (hk : FsAt I M a n ks) (h0 : 0 < n) : Spec Tryz.prog 88 [d.val, .slice a n c] I M fun v I' M' => v = (ks.headD fl0).val ∧ I' = I ∧ M' = M := by
  refine spec_of_V [] TryzEOK Tryz.func88 rfl rfl rfl ?_
  intro B h0'
  obtain ⟨ad, had, hrd⟩ := hk.head h0
  refine IdxOb.mk ad 0 had rfl h0 ?_
  refine LoadOb.mk _ hrd ?_
  exact ⟨_, _, .refl, rfl, rfl, rfl⟩
theorem fAnd_spec (hk : FsAt I M a n ks) (h0 : 0 < n) : Spec Tryz.prog 92 [d.val, .slice a n c] I M fun v I' M' => v = Fl.val ⟨(ks.headD fl0).suc, false, (ks.headD fl0).f⟩ ∧ I' = I ∧ M' = M := by
  refine spec_of_V [] TryzEOK Tryz.func92 rfl rfl rfl ?_
  intro B h0'
  obtain ⟨ad, had, hrd⟩ := hk.head h0
  refine CodeOb.draw TryzEOK rfl rfl rfl ?_
  refine IdxOb.mk ad 0 had rfl h0 ?_
  refine LoadOb.mk _ hrd ?_
  refine IdxOb.mk ad 0 had rfl h0 ?_
  refine LoadOb.mk _ (hrd.part (k := 2) (m := 1) (by decide)) ?_
  refine PCallOb.mkR M [] _ perm_nil (Suc_spec (ks.headD fl0)) (fun v I' M' h x hx => by rw [h.2.2]; exact hx) ?_
  rintro v I' M' - ⟨rfl, rfl, rfl⟩
  rw [List.append_nil]
  exact ⟨_, _, .refl, rfl, rfl, rfl⟩
theorem fNot_spec (hk : FsAt I M a n ks) (h0 : 0 < n) : Spec Tryz.prog 93 [d.val, .slice a n c] I M fun v I' M' => v = Fl.val ⟨(ks.headD fl0).f, false, (ks.headD fl0).suc⟩ ∧ I' = I ∧ M' = M := by
  refine spec_of_V [] TryzEOK Tryz.func93 rfl rfl rfl ?_
  intro B h0'
  obtain ⟨ad, had, hrd⟩ := hk.head h0
  refine CodeOb.draw TryzEOK rfl rfl rfl ?_
  refine IdxOb.mk ad 0 had rfl h0 ?_
  refine LoadOb.mk _ (hrd.part (k := 2) (m := 1) (by decide)) ?_
  refine IdxOb.mk ad 0 had rfl h0 ?_
  refine LoadOb.mk _ hrd ?_
  refine PCallOb.mkR M [] _ perm_nil (Suc_spec (ks.headD fl0)) (fun v I' M' h x hx => by rw [h.2.2]; exact hx) ?_
  rintro v I' M' - ⟨rfl, rfl, rfl⟩
  rw [List.append_nil]
  exact ⟨_, _, .refl, rfl, rfl, rfl⟩
theorem fSet_spec : Spec Tryz.prog 86 [d.val, .slice a n c] I M fun v I' M' => v = Fl.val ⟨false, !d.setZ, true⟩ ∧ I' = I ∧ M' = M := by
  refine spec_of_V [] TryzEOK Tryz.func86 rfl rfl rfl ?_
  intro B h0
  refine BinOb.ne4 TryzEOK (e := 63) rfl rfl rfl rfl (by kernel_rfl) ?_
  exact ⟨_, _, .refl, rfl, rfl, rfl⟩
theorem fRep_spec (hk : FsAt I M a n ks) (h0 : 0 < n) : Spec Tryz.prog 91 [d.val, .slice a n c] I M fun v I' M' => v = (repFl d (ks.headD fl0)).val ∧ I' = I ∧ M' = M := by
  refine spec_of_V [] TryzEOK Tryz.func91 rfl rfl rfl ?_
  intro B h0'
  obtain ⟨ad, had, hrd⟩ := hk.head h0
  generalize ks.headD fl0 = k at hrd
  obtain ⟨kz, kss, kf⟩ := k
  refine CondOb.mk (fun h => ?_) (fun h => ?_)
  · refine ⟨_, _, .refl, fl_eq ?_ ?_ ?_, rfl, rfl⟩ <;> simp [repFl, h]
  refine IdxOb.mk ad 0 had rfl h0 ?_
  refine LoadOb.mk _ hrd ?_
  repeat' refine GuardOb.mk (fun h => ?_) (fun h => ?_)
  all_goals refine ⟨_, _, .refl, fl_eq ?_ ?_ ?_, rfl, rfl⟩
  all_goals first | (simp_all [repFl]; done) | (simp_all [repFl]; intros; omega)
theorem fChoice_spec (hk : FsAt I M a n ks) (hn : n ≤ 140737488355328) : Spec Tryz.prog 90 [d.val, .slice a n c] I M fun v I' M' => v = (chFl ks).val ∧ I' = I ∧ M' = M := by
  refine spec_of_V [] TryzEOK Tryz.func90 rfl rfl rfl ?_
  intro B h0'
  have hkn := hk.n
  refine LoopOb.inv (ι := Nat × Fl) (fun x => { fl := [(4, .ref 4 0), (5, .ref 5 0), (9, .val (.slice a n c)), (10, .val (.int .i64 n)), (11, .val (.int .i64 x.1))], cl := [(4, fl0.cells), (5, x.2.cells)], gi := I, mi := M })
    (fun x => x.1 ≤ n ∧ x.2 = (ks.take x.1).foldl chStep ⟨false, false, true⟩) (fun x => n - x.1) ?_ ?_
  · exact ⟨(0, ⟨false, false, true⟩), ⟨Nat.zero_le _, rfl⟩, .refl, .cons .refl (.cons .refl (.cons .refl (.cons .refl (.cons .refl .nil)))), .cons rfl (.cons rfl .nil)⟩
  rintro ⟨i, f⟩ ⟨hi, hf⟩
  simp only at hi hf
  refine CondOb.mk (fun h => ?_) (fun h => ?_)
  rotate_left
  · have hge : n ≤ i := by have := of_decide_eq_false h; omega
    refine ⟨_, _, .refl, ?_, rfl, rfl⟩
    rw [List.take_of_length_le (by omega)] at hf
    rw [chFl, ← hf]
    rfl
  have hlt : i < n := by have := of_decide_eq_true h; omega
  obtain ⟨ad, had, hrd⟩ := hk.rd i (by omega)
  have hst : ∀ g : Fl, g = chStep f (ks[i]'(by omega)) → g = (ks.take (i + 1)).foldl chStep ⟨false, false, true⟩ := fun g hg => by
    rw [List.take_succ_eq_append_getElem (by omega), List.foldl_append, ← hf, hg]
    rfl
  generalize ks[i]'(by omega) = k at hrd hst
  obtain ⟨kz, kss, kf⟩ := k
  obtain ⟨z, s, ff⟩ := f
  refine IdxOb.mk ad i had rfl hlt ?_
  refine LoadOb.mk _ hrd ?_
  repeat' refine GuardOb.mk (fun h => ?_) (fun h => ?_)
  all_goals refine ArithOb.mk _ (next_wr (i := i) (by omega)) ?_
  all_goals refine ⟨(i + 1, _), ⟨⟨by simp only; omega, hst _ rfl⟩, by simp only; omega⟩, .refl, .cons .refl (.cons .refl (.cons .refl (.cons .refl (.cons .refl .nil)))), .cons rfl (.cons ?_ .nil)⟩
  all_goals clear hst hf hrd
  all_goals (refine congrArg some (fl_cells ?_ ?_ ?_) <;> simp_all [chStep])
theorem seqGo_snoc (l : List Fl) (k : Fl) : seqGo (l ++ [k]) = seqStep (seqGo l) k := by simp [seqGo]
set_option maxHeartbeats 4000000 in
theorem fSeq_spec (hk : FsAt I M a n ks) (hn : n ≤ 140737488355328) : Spec Tryz.prog 89 [d.val, .slice a n c] I M fun v I' M' => v = (seqFl ks).val ∧ I' = I ∧ M' = M := by
  refine spec_of_V [] TryzEOK Tryz.func89 rfl rfl rfl ?_
  intro B h0'
  have hkn := hk.n
  refine LoopOb.inv (ι := Nat × Fl × Bool) (fun x => { fl := [(4, .ref 4 0), (5, .ref 5 0), (6, .val (.bool x.2.2)), (10, .val (.slice a n c)), (11, .val (.int .i64 n)), (12, .val (.int .i64 x.1))], cl := [(4, fl0.cells), (5, x.2.1.cells)], gi := I, mi := M })
    (fun x => x.1 ≤ n ∧ x.2 = seqGo (ks.take x.1)) (fun x => n - x.1) ?_ ?_
  · exact ⟨(0, ⟨true, false, false⟩, true), ⟨Nat.zero_le _, rfl⟩, .refl, .cons .refl (.cons .refl (.cons .lit (.cons .refl (.cons .refl (.cons .refl .nil))))), .cons rfl (.cons rfl .nil)⟩
  rintro ⟨i, f, sc⟩ ⟨hi, hf⟩
  simp only at hi hf
  refine CondOb.mk (fun h => ?_) (fun h => ?_)
  rotate_left
  · have hge : n ≤ i := by have := of_decide_eq_false h; omega
    rw [List.take_of_length_le (by omega)] at hf
    obtain ⟨z, s, ff⟩ := f
    have e1 : (seqGo ks).1 = ⟨z, s, ff⟩ := by rw [← hf]
    have e2 : (seqGo ks).2 = sc := by rw [← hf]
    refine GuardOb.mk (fun h2 => ?_) (fun h2 => ?_)
    all_goals refine ⟨_, _, .refl, fl_eq ?_ ?_ ?_, rfl, rfl⟩
    all_goals simp_all [seqFl]
  have hlt : i < n := by have := of_decide_eq_true h; omega
  obtain ⟨ad, had, hrd⟩ := hk.rd i (by omega)
  have hst : ∀ g : Fl × Bool, g = seqStep (f, sc) (ks[i]'(by omega)) → g = seqGo (ks.take (i + 1)) := fun g hg => by
    rw [List.take_succ_eq_append_getElem (by omega), seqGo_snoc, ← hf, hg]
  generalize ks[i]'(by omega) = k at hrd hst
  obtain ⟨kz, kss, kf⟩ := k
  obtain ⟨z, s, ff⟩ := f
  refine IdxOb.mk ad i had rfl hlt ?_
  refine LoadOb.mk _ hrd ?_
  repeat' first
    | refine GuardOb.mk (fun h => ?_) (fun h => ?_)
    | (refine CallOb.mk M [] _ perm_nil (Suc_spec ⟨kz, kss, kf⟩) ?_; rintro v I' M' - ⟨rfl, rfl, rfl⟩; rw [List.append_nil])
  all_goals refine ArithOb.mk _ (next_wr (i := i) (by omega)) ?_
  all_goals refine ⟨(i + 1, _), ⟨⟨by simp only; omega, hst _ rfl⟩, by simp only; omega⟩, .refl, .cons .refl (.cons .refl (.cons ?_ (.cons .refl (.cons .refl (.cons .refl .nil))))), .cons rfl (.cons ?_ .nil)⟩
  all_goals clear hst hf hrd
  all_goals first
    | (refine congrArg some (fl_cells ?_ ?_ ?_) <;> simp_all [seqStep])
    | (refine sv_bool ?_; simp_all [seqStep])
    | (refine sv_lit ?_; simp_all [seqStep])
end
end Go.V

/-
  Maps that are read alone; flow.places.
-/
set_option linter.unusedVariables false
set_option linter.unusedSimpArgs false
namespace Go.V
open Go Go.Proofs

section
variable {X : Ctx} {β : Nat → Nat} {a : Act} {w : World} {F : Fr} {C : Bx} {I : GH} {M : List Blk} {o : Oper} {Q : Exit → Act → World → Prop} {K : KS}
theorem lookup_runs (hE : EOK X.P X.E) {t : Nat} {ti tk : TI} {k e : Nat} (ht : X.E t = some ti) (hts : ti.sh = .map k e) (hk : X.E k = some tk) (hks : tk.sh = .string)
    (hz : ∀ w, (zeroValue e).run X.P w = .ok (.int .i64 0) w) {g : Nat} {l : List (ByteArray × Int)} {s : ByteArray} (hg : w.heap[g]? = some (mapO l)) (ok : Bool) :
    (Instr.lookup t (.map (some g)) (.string s) ok).run X.P w = .ok (bif ok then .tuple #[.int .i64 ((lookM s l).getD 0), .bool (lookM s l).isSome] else .int .i64 ((lookM s l).getD 0)) w := by
  obtain ⟨d, hud, hdd⟩ := (hE _ _ ht).und
  have h1 : d = .map k e := by rw [hts] at hdd; cases d <;> simp_all [shOf]
  subst h1
  obtain ⟨dk, huk, hdk⟩ := (hE _ _ hk).und
  have h2 : dk = .string := by rw [hks] at hdk; cases dk <;> simp_all [shOf]
  subst h2
  have hg : w.heap[g]? = some (.map (ents l 0).toArray l.length) := hg
  obtain ⟨r, hf1, hf2⟩ := findNow_ents s l 0 0
  have hc : (Instr.checkKey (ents l 0).toArray.isEmpty 10000 k (.string s)).run X.P w = .ok () w := MapKept.run_checkKey (k := .string s) huk (by simp [MapKept.IsKey]) _ 9999
  have hfk : (Instr.findKey k (.string s) (ents l 0)).run X.P w = .ok r w := MapKept.run_findKey huk hf1
  unfold Instr.lookup
  simp only [Sem.run_bind, run_underlying hud, Result.andThen_ok, MapKept.run_getObj_map hg, Sem.run_pure, hc, hfk]
  cases r with
  | none =>
    cases hl : lookM s l with
    | none => cases ok <;> simp [hz]
    | some v => rw [hl] at hf2; simp at hf2
  | some p =>
    cases hl : lookM s l with
    | none => rw [hl] at hf2; simp at hf2
    | some v =>
      rw [hl] at hf2
      simp only [Option.map_some, Option.some.injEq] at hf2
      cases ok <;> simp [hf2]
theorem OtherOb.lookupT (hE : EOK X.P X.E) {t : Nat} {x y : Operand} (ho : o.op = .lookup t x y true) (hd : ∀ d, o.dst = some d → d < X.n) {ti tk : TI} {k e : Nat} (ht : X.E t = some ti) (hts : ti.sh = .map k e) (hk : X.E k = some tk) (hks : tk.sh = .string)
    (hz : ∀ w, (zeroValue e).run X.P w = .ok (.int .i64 0) w) {g : Nat} {l : List (ByteArray × Int)} {s : ByteArray} (hx : ev F x = .val (.map (some g))) (hy : ev F y = .val (.string s)) (hM : Kn I M g (mapO l))
    (h : K (put o.dst (.val (.tuple #[.int .i64 ((lookM s l).getD 0), .bool (lookM s l).isSome])) F) C I M) : OtherOb X o F C I M K := by
  refine ⟨fun a w Q ⟨β, hR⟩ => ?_⟩
  have hrun := lookup_runs hE ht hts hk hks hz (hM.heap hR.holds) (s := s) true
  have ex := eval_of_ev hR.fr hx
  have ey := eval_of_ev hR.fr hy
  refine done_vv hR hd (by rw [ho]; simp) ?_ h
  unfold execOp
  simp only [ho, ex, ey, Sem.run_bind, hrun, Result.andThen_ok, Sem.run_pure, cond_true]
theorem OtherOb.lookupF (hE : EOK X.P X.E) {t : Nat} {x y : Operand} (ho : o.op = .lookup t x y false) (hd : ∀ d, o.dst = some d → d < X.n) {ti tk : TI} {k e : Nat} (ht : X.E t = some ti) (hts : ti.sh = .map k e) (hk : X.E k = some tk) (hks : tk.sh = .string)
    (hz : ∀ w, (zeroValue e).run X.P w = .ok (.int .i64 0) w) {g : Nat} {l : List (ByteArray × Int)} {s : ByteArray} (hx : ev F x = .val (.map (some g))) (hy : ev F y = .val (.string s)) (hM : Kn I M g (mapO l))
    (h : K (put o.dst (.val (.int .i64 ((lookM s l).getD 0))) F) C I M) : OtherOb X o F C I M K := by
  refine ⟨fun a w Q ⟨β, hR⟩ => ?_⟩
  have hrun := lookup_runs hE ht hts hk hks hz (hM.heap hR.holds) (s := s) false
  have ex := eval_of_ev hR.fr hx
  have ey := eval_of_ev hR.fr hy
  refine done_vv hR hd (by rw [ho]; simp) ?_ h
  unfold execOp
  simp only [ho, ex, ey, Sem.run_bind, hrun, Result.andThen_ok, Sem.run_pure, cond_false]
end

/-- The place of the first rule of each name. -/
def placesGo : List (ByteArray × Int) → Nat → List Df → List (ByteArray × Int)
  | acc, _, [] => acc
  | acc, i, d :: ds => placesGo (bif (lookM d.name acc).isSome then acc else acc ++ [(d.name, (i : Int))]) (i + 1) ds
def placesL (ds : List Df) : List (ByteArray × Int) := placesGo [] 0 ds

set_option maxHeartbeats 1000000 in
theorem places_spec {I : GH} {g : Gr} (hg : g.ok I) : Spec Tryz.prog 50 [g.val] I [] fun v I' M' => (∀ b o, I b = some o → I' b = some o) ∧ M' = [] ∧ ∃ gm, v = .map (some gm) ∧ I' gm = some (mapO (placesL g.ds)) := by
  refine spec_of_VF [] TryzEOK Tryz.func50 rfl rfl rfl ?_
  intro B h0
  have hgn := hg.n
  have hcap := hg.rs.cap
  refine OtherOb.makeMap TryzEOK rfl (by simp) rfl rfl rfl fun bm => ?_
  refine LoopOb.inv (ι := Nat × List (ByteArray × Int)) (fun x => { fl := [(1, .ref 1 0), (3, .val (.map (some bm))), (13, .val (.slice g.a g.n g.c)), (14, .val (.int .i64 g.n)), (15, .val (.int .i64 x.1))], cl := [(1, [.slice g.a g.n g.c])], gi := I, mi := [⟨bm, mapO x.2⟩] })
    (fun x => x.1 ≤ g.n ∧ placesL g.ds = placesGo x.2 x.1 (g.ds.drop x.1)) (fun x => g.n - x.1) ?_ ?_
  · exact ⟨(0, []), ⟨Nat.zero_le _, rfl⟩, .refl, .cons .refl (.cons .refl (.cons .refl (.cons .refl (.cons .refl .nil)))), .cons rfl .nil⟩
  rintro ⟨i, acc⟩ ⟨hi, hp⟩
  simp only at hi hp
  refine CondOb.mk (fun h => ?_) (fun h => ?_)
  · have hlt : i < g.n := by have : (i : Int) < (g.n : Int) := of_decide_eq_true h; omega
    have hlt' : i < g.ds.length := by omega
    obtain ⟨ad, had, hrd⟩ := hg.rs.row Df.cells_len hlt hlt'
    rw [List.drop_eq_getElem_cons hlt', placesGo] at hp
    refine IdxOb.mk ad i had rfl hlt ?_
    refine LoadOb.mk _ (hrd _) ?_
    refine OtherOb.lookupT TryzEOK rfl (by simp) rfl rfl rfl rfl (fun w => zero_int w) (l := acc) (g := bm) rfl rfl (.inr ⟨_, .head _, rfl, rfl⟩) ?_
    refine CondOb.mk (fun h3 => ?_) (fun h3 => ?_)
    · have hn : (lookM g.ds[i].name acc).isSome = false := by simpa using h3
      have hl : lookM g.ds[i].name acc = none := by simpa using hn
      rw [hn, cond_false] at hp
      refine OtherOb.mapNew TryzEOK rfl rfl rfl rfl rfl rfl rfl rfl rfl hl (Mr := []) (.refl _) ?_
      refine ArithOb.mk _ (next_wr (i := i) (by omega)) ?_
      exact ⟨(i + 1, _), ⟨⟨by simp only; omega, hp⟩, by simp only; omega⟩, .refl, .cons .refl (.cons .refl (.cons .refl (.cons .refl (.cons .refl .nil)))), .cons rfl .nil⟩
    · have hn : (lookM g.ds[i].name acc).isSome = true := by simpa using h3
      rw [hn, cond_true] at hp
      refine ArithOb.mk _ (next_wr (i := i) (by omega)) ?_
      exact ⟨(i + 1, _), ⟨⟨by simp only; omega, hp⟩, by simp only; omega⟩, .refl, .cons .refl (.cons .refl (.cons .refl (.cons .refl (.cons .refl .nil)))), .cons rfl .nil⟩
  have hge : g.n ≤ i := by have : ¬ (i : Int) < (g.n : Int) := of_decide_eq_false h; omega
  rw [List.drop_eq_nil_of_le (by omega), placesGo] at hp
  intro hfa
  have hb := hfa.d ⟨bm, mapO acc⟩ (.head _)
  exact ⟨_, _, .prom rfl (by simp) .refl, ins_le hb, rfl, bm, rfl, by rw [hp]; exact ins_self ..⟩
end Go.V

/-
  Walks: flow.comes, nodes.
-/
set_option linter.unusedVariables false
set_option linter.unusedSimpArgs false
namespace Go.V
open Go Go.Proofs

def comeFs : List Nat := [85, 86, 87, 88, 89, 90, 91, 92, 93, 88]
def comeVs : List Value := [.func (.func 85) #[] #[], .func (.func 86) #[] #[], .func (.func 87) #[] #[], .func (.func 88) #[] #[], .func (.func 89) #[] #[], .func (.func 90) #[] #[], .func (.func 91) #[] #[], .func (.func 92) #[] #[], .func (.func 93) #[] #[], .func (.func 88) #[] #[]]
theorem comes_spec {I : GH} : Spec Tryz.prog 68 [] I [] fun v I' M' => v = .agg comeVs.toArray ∧ I' = I ∧ M' = [] := by
  refine spec_of_V [] TryzEOK Tryz.func68 rfl rfl rfl ?_
  intro B h0
  exact ⟨_, _, .refl, rfl, rfl, rfl⟩
theorem come_at {I : GH} {M : List Blk} {d : Nd} {a : Option Addr} {n c : Nat} {ks : List Fl} (hk : FsAt I M a n ks) (hn : n ≤ 140737488355328) (j : Nat) (hj : j < 10) (hd : d.k = j) (h0 : (j = 3 ∨ 6 ≤ j) → 0 < n) :
    Spec Tryz.prog (comeFs.getD j 0) [d.val, .slice a n c] I M fun v I' M' => v = (comeFl d ks).val ∧ I' = I ∧ M' = M := by
  match j, hj, hd, h0 with
  | 0, _, hd, _ => rw [show comeFl d ks = ⟨true, false, false⟩ by simp [comeFl, hd]]; exact fEmpty_spec (I := I) (M := M) (d := d) (a := a) (n := n) (c := c)
  | 1, _, hd, _ => rw [show comeFl d ks = ⟨false, !d.setZ, true⟩ by simp [comeFl, hd]]; exact fSet_spec (I := I) (M := M) (d := d) (a := a) (n := n) (c := c)
  | 2, _, hd, _ => rw [show comeFl d ks = ⟨false, true, true⟩ by simp [comeFl, hd]]; exact fText_spec (I := I) (M := M) (d := d) (a := a) (n := n) (c := c)
  | 3, _, hd, h0 => rw [show comeFl d ks = ks.headD fl0 by simp [comeFl, hd]]; exact fItself_spec (d := d) (c := c) hk (h0 (by omega))
  | 4, _, hd, _ => rw [show comeFl d ks = seqFl ks by simp [comeFl, hd]]; exact fSeq_spec (d := d) (c := c) hk hn
  | 5, _, hd, _ => rw [show comeFl d ks = chFl ks by simp [comeFl, hd]]; exact fChoice_spec (d := d) (c := c) hk hn
  | 6, _, hd, h0 => rw [show comeFl d ks = repFl d (ks.headD fl0) by simp [comeFl, hd]]; exact fRep_spec (d := d) (c := c) hk (h0 (by omega))
  | 7, _, hd, h0 => rw [show comeFl d ks = ⟨(ks.headD fl0).suc, false, (ks.headD fl0).f⟩ by simp [comeFl, hd]]; exact fAnd_spec (d := d) (c := c) hk (h0 (by omega))
  | 8, _, hd, h0 => rw [show comeFl d ks = ⟨(ks.headD fl0).f, false, (ks.headD fl0).suc⟩ by simp [comeFl, hd]]; exact fNot_spec (d := d) (c := c) hk (h0 (by omega))
  | 9, _, hd, h0 => rw [show comeFl d ks = ks.headD fl0 by simp [comeFl, hd]]; exact fItself_spec (d := d) (c := c) hk (h0 (by omega))

/-! ### Rows of flows -/
def flRow (b : Nat) (l : List Fl) : Blk := ⟨b, .cells (l.flatMap Fl.cells).toArray 51 (0, 0)⟩
theorem fl_len (l : List Fl) : (l.flatMap Fl.cells).length = l.length * 3 := flat_len _ 3 Fl.cells_len l
theorem flRow_rd {I : GH} {M : List Blk} {b : Nat} {l : List Fl} (hM : flRow b l ∈ M) {j : Nat} (hj : j < l.length) : Rd I M ((⟨b, 0, none⟩ : Addr).add (j * 3)) 3 l[j].cells := by
  have h := blk_rd (I := I) (cs := l.flatMap Fl.cells) (k := j * 3) (n := 3) hM (by rw [fl_len]; omega)
  rwa [flat_at Fl.cells 3 Fl.cells_len l j hj] at h
theorem flRow_set (l : List Fl) (j : Nat) (hj : j < l.length) (x : Fl) : splice (l.flatMap Fl.cells) (j * 3) x.cells = (l.set j x).flatMap Fl.cells := by
  have e : l.flatMap Fl.cells = (l.take j).flatMap Fl.cells ++ (l[j].cells ++ (l.drop (j + 1)).flatMap Fl.cells) := by
    have h1 : l = l.take j ++ (l[j] :: l.drop (j + 1)) := by rw [← List.drop_eq_getElem_cons hj, List.take_append_drop]
    have h2 := congrArg (fun q : List Fl => q.flatMap Fl.cells) h1
    simp only [List.flatMap_append, List.flatMap_cons] at h2
    exact h2
  have hl : ((l.take j).flatMap Fl.cells).length = j * 3 := by rw [fl_len, List.length_take]; congr 1; omega
  unfold splice
  rw [List.set_eq_take_append_cons_drop, if_pos hj, List.flatMap_append, List.flatMap_cons, e, List.append_assoc]
  congr 1
  · rw [← hl, List.take_left]
  · congr 1
    rw [Fl.cells_len, ← hl, ← List.append_assoc, List.drop_left' (by rw [List.length_append, Fl.cells_len])]
theorem flat_snoc (l : List Fl) (x : Fl) : (l ++ [x]).flatMap Fl.cells = l.flatMap Fl.cells ++ x.cells := by simp
theorem OS.zero {os : OS} {size : Nat} {xs : List Value} (h : os.ok size xs) : OS.ok ⟨os.a, 0, os.c, os.cur⟩ size [] := by
  refine ⟨by simp, fun ha => ⟨rfl, (h.nil ha).2⟩, fun g hg => ?_⟩
  obtain ⟨h1, h2, h3, h4⟩ := h.cap g hg
  exact ⟨h1, Nat.zero_le _, h3, by simp⟩
/-- A slice of the function's own, read. -/
theorem OS.fsAt {I : GH} {M : List Blk} {os : OS} {l : List Fl} {e : Nat} (h : os.ok 3 (l.flatMap Fl.cells)) (hM : ∀ x ∈ os.blk e, x ∈ M) : FsAt I M (os.a.map fun g => ⟨g, 0, none⟩) os.n l := by
  have hl := h.len
  rw [fl_len] at hl
  refine ⟨by omega, fun j hj => ?_⟩
  obtain ⟨a, n, c, cur⟩ := os
  simp only at hl
  cases a with
  | none => have := (h.nil rfl).1; simp only at this; omega
  | some g =>
    obtain ⟨h1, h2, h3, h4⟩ := h.cap g rfl
    simp only at h1 h2 h4
    refine ⟨⟨g, 0, none⟩, rfl, ?_⟩
    have hm : (⟨g, .cells cur.toArray e (0, 0)⟩ : Blk) ∈ M := hM _ (by simp [OS.blk])
    have hr := blk_rd (I := I) (cs := cur) (k := j * 3) (n := 3) hm (by omega)
    have e1 : (cur.drop (j * 3)).take 3 = ((cur.take (n * 3)).drop (j * 3)).take 3 := by
      rw [List.drop_take, List.take_take]
      congr 1
      omega
    rw [e1, h4, flat_at Fl.cells 3 Fl.cells_len l j hj] at hr
    exact hr

/-! ### nodes -/
def kidsF (pl : List (ByteArray × Int)) (fl acc : List Fl) (d : Nd) : List Fl :=
  d.kids.map (fun k => acc.getD k.toNat fl0) ++ bif decide (d.k = 3) then [fl.getD ((lookM d.t pl).getD 0).toNat fl0] else []
def nodesF (pl : List (ByteArray × Int)) (fl : List Fl) : List Nd → List Fl → List Fl
  | [], acc => acc
  | d :: ds, acc => nodesF pl fl ds (acc ++ [comeFl d (kidsF pl fl acc d)])
theorem nodesF_len (pl : List (ByteArray × Int)) (fl : List Fl) : ∀ (ds : List Nd) (acc : List Fl), (nodesF pl fl ds acc).length = acc.length + ds.length
  | [], acc => rfl
  | d :: ds, acc => by
    rw [nodesF, nodesF_len]
    simp
    omega
/-- Each rule that is called has a flow. -/
def Called (pl : List (ByteArray × Int)) (n : Nat) (ns : List Nd) : Prop := ∀ d ∈ ns, d.k = 3 → ∃ i : Nat, lookM d.t pl = some (i : Int) ∧ i < n
theorem fits_k {d : Nd} {n : Int} (h : fits d n = true) : d.k < 10 := by
  apply Int.lt_of_not_ge
  intro hge
  have : (10 : Int) ≤ d.k := hge
  simp [fits, this] at h
theorem fits_kid {d : Nd} {n : Int} (h0 : 0 ≤ d.k) (h : fits d n = true) (hk : 6 ≤ d.k) : 0 < n := by
  have h10 := fits_k h
  have hcases : d.k = 6 ∨ d.k = 7 ∨ d.k = 8 ∨ d.k = 9 := by omega
  rcases hcases with e | e | e | e <;> (simp [fits, e, cntLo, cntHi, countsL] at h; omega)

theorem rep_at (acc : List Fl) (n i : Nat) (hl : acc.length = i) (hi : i < n) (x : Fl) : (acc ++ List.replicate (n - i) fl0).set i x = (acc ++ [x]) ++ List.replicate (n - (i + 1)) fl0 := by
  subst hl
  rw [List.set_append_right _ _ (Nat.le_refl _), Nat.sub_self, show n - acc.length = (n - (acc.length + 1)) + 1 by omega, List.replicate_succ, List.set_cons_zero]
  simp

theorem rowOf_fl : ∀ n : Nat, rowOf fl0.cells (n * 3) = (List.replicate n fl0).flatMap Fl.cells := fun n => by
  apply List.ext_getElem
  · rw [fl_len, List.length_replicate]
    simp [rowOf_eq, madeCells]
  intro i h1 h2
  have h3 : ∀ x ∈ (List.replicate n fl0).flatMap Fl.cells, x = Value.bool false := fun x hx => by
    obtain ⟨y, hy, hx⟩ := List.mem_flatMap.1 hx
    have := List.eq_of_mem_replicate hy
    subst this
    simpa [Fl.cells, fl0] using hx
  rw [h3 _ (List.getElem_mem h2)]
  have hz : ∀ j, j < 3 → fl0.cells[j]! = Value.bool false := fun j hj => by
    match j, hj with
    | 0, _ => rfl
    | 1, _ => rfl
    | 2, _ => rfl
  simp only [rowOf, List.getElem_map, List.getElem_range]
  exact hz _ (Nat.mod_lt _ (by decide))
theorem ble_fl {acc : List Fl} {n i : Nat} (hacc : acc.length = i) (hlt : i < n) (x : Fl) : Nat.ble (0 + i * 3 + x.cells.length) ((acc ++ List.replicate (n - i) fl0).flatMap Fl.cells).length = true := by
  rw [Nat.ble_eq, fl_len, Fl.cells_len, List.length_append, List.length_replicate]
  omega
set_option maxRecDepth 100000 in
set_option maxHeartbeats 16000000 in
theorem fnodes_spec {I : GH} {M0 : List Blk} {t : Tr} (ht : t.ok I) (hr : right t = true) {gm : Nat} {pl : List (ByteArray × Int)} (hm : I gm = some (mapO pl)) {la : Option Addr} {ln lc : Nat} {fl : List Fl} (hfl : FsAt I M0 la ln fl) (hc : Called pl ln t.ns) :
    Spec Tryz.prog 52 [.map (some gm), .slice la ln lc, t.val] I M0 fun v I' M' => I' = I ∧ ∃ b, v = .slice (some ⟨b, 0, none⟩) t.n t.n ∧ M' = flRow b (nodesF pl fl t.ns []) :: M0 := by
  refine spec_of_V [] TryzEOK Tryz.func52 rfl rfl rfl ?_
  intro B h0
  have htn := ht.n
  have hcap := ht.rs.cap
  refine CallOb.mk [] M0 _ (.refl _) comes_spec ?_
  rintro v I1 M1 - ⟨rfl, rfl, rfl⟩
  refine MakeOb.mk t.n t.n rfl rfl (Nat.le_refl _) (by show 3 * t.n ≤ _; omega) (by omega) ?_
  refine AllocOb.mk fun b8 hb8 hbM8 => ?_
  refine LoopOb.inv (ι := Nat × List Fl × OS) (fun x => { fl := [(0, .val (.map (some gm))), (1, .val (.slice la ln lc)), (5, .ref 5 0), (7, .ref 7 0), (8, .val (.slice (some ⟨b8, 0, none⟩) t.n t.n)), (9, .val x.2.2.val), (20, .val (.slice t.a t.n t.c)), (21, .val (.int .i64 t.n)), (22, .val (.int .i64 x.1))], cl := [(5, t.cells), (7, comeVs)], gi := I1, mi := flRow b8 (x.2.1 ++ List.replicate (t.n - x.1) fl0) :: (x.2.2.blk 51 ++ M0) })
    (fun x => x.1 ≤ t.n ∧ x.2.1.length = x.1 ∧ nodesF pl fl t.ns [] = nodesF pl fl (t.ns.drop x.1) x.2.1 ∧ ∃ ks, x.2.2.ok 3 ks) (fun x => t.n - x.1) ?_ ?_
  · refine ⟨(0, [], OS0), ⟨Nat.zero_le _, rfl, rfl, [], OS0_ok 3⟩, ?_, .cons .refl (.cons .refl (.cons .refl (.cons .refl (.cons .refl (.cons .refl (.cons .refl (.cons .refl (.cons .refl .nil)))))))), .cons rfl (.cons rfl .nil)⟩
    have e : rowOf fl0.cells (t.n * 3) = (List.replicate t.n fl0).flatMap Fl.cells := rowOf_fl t.n
    simp only [flRow, List.nil_append, Nat.sub_zero]
    rw [← e]
    exact .refl
  rintro ⟨i, acc, ko⟩ ⟨hi, hacc, hnf, kx, hko⟩
  simp only at hi hacc hnf hko
  refine CondOb.mk (fun h => ?_) (fun h => ?_)
  rotate_left
  · have hge : i = t.n := by have : ¬ (i : Int) < (t.n : Int) := of_decide_eq_false h; omega
    subst hge
    rw [List.drop_eq_nil_of_le (by omega), nodesF] at hnf
    refine ⟨I1, flRow b8 (acc ++ List.replicate (t.n - t.n) fl0) :: M0, .sub (.cons_cons _ (List.sublist_append_right _ _)) .refl, rfl, b8, rfl, ?_⟩
    rw [hnf, Nat.sub_self, List.replicate_zero, List.append_nil]
  have hlt : i < t.n := by have : (i : Int) < (t.n : Int) := of_decide_eq_true h; omega
  have hlt' : i < t.ns.length := by omega
  obtain ⟨ad, had, hrd⟩ := ht.rs.row Nd.cells_len hlt hlt'
  have hdm := List.getElem_mem hlt'
  have hd := ht.ns _ hdm
  have hkn := hd.kn
  have hkc := hd.rs.cap
  have hkv := right_kids hr i hlt'
  have hft := right_fits hr hlt'
  have hcd := hc _ hdm
  have hnf' : nodesF pl fl t.ns [] = nodesF pl fl (t.ns.drop (i + 1)) (acc ++ [comeFl t.ns[i] (kidsF pl fl acc t.ns[i])]) := by
    rw [hnf, List.drop_eq_getElem_cons hlt', nodesF]
  generalize t.ns[i] = d at hrd hd hkn hkc hkv hft hcd hnf'
  have hk0 := hd.k.1
  have hk10 := fits_k hft
  have hrow : ∀ {M : List Blk} {q : Int}, flRow b8 (acc ++ List.replicate (t.n - i) fl0) ∈ M → q ∈ d.kids → Rd I1 M ((⟨b8, 0, none⟩ : Addr).add (q.toNat * 3)) 3 (acc.getD q.toNat fl0).cells := fun {M q} hM hq => by
    have hq' := hkv q hq
    have hql : q.toNat < acc.length := by omega
    have := flRow_rd (I := I1) hM (j := q.toNat) (by rw [List.length_append]; omega)
    rw [List.getElem_append_left hql] at this
    simpa [List.getD_eq_getElem?_getD, hql] using this
  refine IdxOb.mk ad i had rfl hlt ?_
  refine LoadOb.mk _ (hrd _) ?_
  refine SliceOb.mk 0 0 rfl rfl (Nat.le_refl _) (Nat.zero_le _) ?_
  refine LoopOb.inv (ι := Nat × OS × List Fl) (fun x => { fl := [(0, .val (.map (some gm))), (1, .val (.slice la ln lc)), (5, .ref 5 0), (7, .ref 7 0), (8, .val (.slice (some ⟨b8, 0, none⟩) t.n t.n)), (9, .val x.2.1.val), (10, .val (.int .i64 i)), (11, .ref 11 0), (20, .val (.slice t.a t.n t.c)), (21, .val (.int .i64 t.n)), (22, .val (.int .i64 i)), (30, .val (.slice d.ka d.kn d.kc)), (31, .val (.int .i64 d.kn)), (32, .val (.int .i64 x.1))], cl := [(5, t.cells), (7, comeVs), (11, d.cells)], gi := I1, mi := flRow b8 (acc ++ List.replicate (t.n - i) fl0) :: (x.2.1.blk 51 ++ M0) })
    (fun x => x.1 ≤ d.kn ∧ x.2.1.ok 3 (x.2.2.flatMap Fl.cells) ∧ x.2.2 = (d.kids.take x.1).map fun k => acc.getD k.toNat fl0) (fun x => d.kn - x.1) ?_ ?_
  · exact ⟨(0, ⟨ko.a, 0, ko.c, ko.cur⟩, []), ⟨Nat.zero_le _, OS.zero hko, rfl⟩, .refl, .cons .refl (.cons .refl (.cons .refl (.cons .refl (.cons .refl (.cons .refl (.cons .refl (.cons .refl (.cons .refl (.cons .refl (.cons .refl (.cons .refl (.cons .refl (.cons .refl .nil))))))))))))), .cons rfl (.cons rfl (.cons rfl .nil))⟩
  rintro ⟨k, k2, kl⟩ ⟨hk, hk2, hkl⟩
  simp only at hk hk2 hkl
  have hk2n : k2.n = kl.length := by have := hk2.len; rw [fl_len] at this; omega
  have hkll : kl.length ≤ k := by rw [hkl, List.length_map]; exact List.length_take_le _ _
  refine CondOb.mk (fun h => ?_) (fun h => ?_)
  · have hkk : k < d.kn := by have : (k : Int) < (d.kn : Int) := of_decide_eq_true h; omega
    have hkk' : k < d.kids.length := by omega
    obtain ⟨ak, hak, hrk⟩ := hd.rs.one hkk hkk'
    have hq := hkv _ (List.getElem_mem hkk')
    refine IdxOb.mk ak k hak rfl hkk ?_
    refine LoadOb.mk _ (hrk _) ?_
    refine IdxOb.mk ⟨b8, 0, none⟩ d.kids[k].toNat rfl (by omega) (by omega) ?_
    refine LoadOb.mk _ (hrow (.head _) (List.getElem_mem hkk')) ?_
    refine AllocOb.mk fun b9 hb9 hbM9 => ?_
    refine OtherOb.append TryzEOK rfl (by simp) (e := 51) rfl rfl rfl k2 hk2 rfl (m := 1) rfl (news := (acc.getD d.kids[k].toNat fl0).cells) (by decide) (blk_rd (b := b9) (cs := (acc.getD d.kids[k].toNat fl0).cells) (k := 0) (n := 3) (T := 51) (.head _) (Nat.le_of_ble_eq_true rfl)) rfl (Mr := ⟨b9, .cells (acc.getD d.kids[k].toNat fl0).cells.toArray 51 (0, 0)⟩ :: flRow b8 (acc ++ List.replicate (t.n - i) fl0) :: M0) (by
      have := List.perm_append_comm_assoc [(⟨b9, .cells (acc.getD d.kids[k].toNat fl0).cells.toArray 51 (0, 0)⟩ : Blk), flRow b8 (acc ++ List.replicate (t.n - i) fl0)] (k2.blk 51) M0
      exact this) (by simp only [maxLen]; omega) (by show (k2.n + 1) * 3 ≤ _; omega) ?_
    intro g2 c2 cur2 r1 r2 r3 r4
    refine ArithOb.mk _ (next_wr (i := k) (by omega)) ?_
    refine ⟨(k + 1, ⟨some g2, k2.n + 1, c2, cur2⟩, kl ++ [acc.getD d.kids[k].toNat fl0]), ⟨⟨by simp only; omega, ?_, ?_⟩, by simp only; omega⟩, .sub (M1 := [(⟨g2, .cells cur2.toArray 51 (0, 0)⟩ : Blk), flRow b8 (acc ++ List.replicate (t.n - i) fl0)] ++ M0) (.cons_cons _ (.cons _ (.refl _))) (.perm (List.Perm.swap _ _ _) .refl), .cons .refl (.cons .refl (.cons .refl (.cons .refl (.cons .refl (.cons .refl (.cons .refl (.cons .refl (.cons .refl (.cons .refl (.cons .refl (.cons .refl (.cons .refl (.cons .refl .nil))))))))))))), .cons rfl (.cons rfl (.cons rfl .nil))⟩
    · simp only
      rw [flat_snoc]
      exact appk_ok hk2 (Fl.cells_len _) r1 r2 r3 r4
    · simp only
      rw [List.take_succ_eq_append_getElem hkk', List.map_append, ← hkl]
      rfl
  have hge : d.kn ≤ k := by have : ¬ (k : Int) < (d.kn : Int) := of_decide_eq_false h; omega
  rw [List.take_of_length_le (by omega)] at hkl
  have hkln : kl.length = d.kids.length := by rw [hkl, List.length_map]
  have hb2 : k2.n + 1 ≤ 140737488355328 := by omega
  clear h hk hkll
  -- what each kind comes to
  have hset : ∀ x : Fl, splice ((acc ++ List.replicate (t.n - i) fl0).flatMap Fl.cells) (0 + i * 3) x.cells = ((acc ++ [x]) ++ List.replicate (t.n - (i + 1)) fl0).flatMap Fl.cells := fun x => by
    rw [Nat.zero_add, flRow_set _ _ (by simp; omega), rep_at acc t.n i hacc hlt]
  have hinv : ∀ (ko2 : OS) (ks2 : List Value), ko2.ok 3 ks2 → ((i + 1 ≤ t.n ∧ (acc ++ [comeFl d (kidsF pl fl acc d)]).length = i + 1 ∧ nodesF pl fl t.ns [] = nodesF pl fl (t.ns.drop (i + 1)) (acc ++ [comeFl d (kidsF pl fl acc d)]) ∧ ∃ ks, ko2.ok 3 ks) ∧ t.n - (i + 1) < t.n - i) := fun ko2 ks2 h2 =>
    ⟨⟨hlt, by simp [hacc], hnf', ks2, h2⟩, by omega⟩
  by_cases h3 : d.k = 3
  · refine CondOb.mk (fun _ => ?_) (fun h => absurd h (by simp [h3]))
    obtain ⟨q, hq1, hq2⟩ := hcd h3
    have hkf : kidsF pl fl acc d = kl ++ [fl.getD q fl0] := by
      rw [kidsF, ← hkl, hq1, h3]
      rfl
    have hql : q < fl.length := by rw [hfl.n]; exact hq2
    obtain ⟨al, hal, hrl⟩ := hfl.rd q hql
    have hgq : fl.getD q fl0 = fl[q] := by simp [List.getD_eq_getElem?_getD, hql]
    refine OtherOb.lookupF TryzEOK rfl (by simp) rfl rfl rfl rfl (fun w => zero_int w) (l := pl) (g := gm) rfl rfl (.inl hm) ?_
    rw [hq1]
    refine IdxOb.mk al q hal rfl hq2 ?_
    refine LoadOb.mk _ (hrl.sub fun x hx => by simp [hx]) ?_
    refine AllocOb.mk fun b9 hb9 hbM9 => ?_
    refine OtherOb.append TryzEOK rfl (by simp) (e := 51) rfl rfl rfl k2 hk2 rfl (m := 1) rfl (news := fl[q].cells) (by decide) (blk_rd (b := b9) (cs := fl[q].cells) (k := 0) (n := 3) (T := 51) (.head _) (Nat.le_of_ble_eq_true rfl)) rfl (Mr := ⟨b9, .cells fl[q].cells.toArray 51 (0, 0)⟩ :: flRow b8 (acc ++ List.replicate (t.n - i) fl0) :: M0) (by
      have := List.perm_append_comm_assoc [(⟨b9, .cells fl[q].cells.toArray 51 (0, 0)⟩ : Blk), flRow b8 (acc ++ List.replicate (t.n - i) fl0)] (k2.blk 51) M0
      exact this) (by simp only [maxLen]; omega) (by show (k2.n + 1) * 3 ≤ _; omega) ?_
    intro g2 c2 cur2 r1 r2 r3 r4
    have hok2 := appk_ok (g := g2) hk2 (Fl.cells_len fl[q]) r1 r2 r3 r4
    rw [← flat_snoc, ← hgq, ← hkf] at hok2
    have hks := OS.fsAt (I := I1) (M := ⟨g2, .cells cur2.toArray 51 (0, 0)⟩ :: ⟨b9, .cells fl[q].cells.toArray 51 (0, 0)⟩ :: flRow b8 (acc ++ List.replicate (t.n - i) fl0) :: M0) (e := 51) hok2 (fun x hx => by
      simp only [OS.blk, List.mem_singleton] at hx
      subst hx
      exact .head _)
    refine CodeOb.draw TryzEOK rfl rfl rfl ?_
    obtain ⟨dk, s0, s1, s2, s3, dt, lo, hi', dka, dkn, dkc, dkids⟩ := d
    simp only at h3
    subst h3
    refine ArrOb.mk 3 rfl (by decide) ?_
    refine PCallOb.mkR _ [] _ perm_nil (come_at (d := ⟨3, s0, s1, s2, s3, dt, lo, hi', dka, dkn, dkc, dkids⟩) hks hb2 3 (by decide) rfl (fun _ => Nat.succ_pos _)) (fun v I' M' h x hx => by rw [h.2.2]; exact hx) ?_
    rintro v I2 M2 - ⟨rfl, rfl, rfl⟩
    rw [List.append_nil]
    refine IdxOb.mk ⟨b8, 0, none⟩ i rfl rfl hlt ?_
    refine StoreOb.addTo [(⟨g2, .cells cur2.toArray 51 (0, 0)⟩ : Blk), ⟨b9, .cells fl[q].cells.toArray 51 (0, 0)⟩] M0 ((acc ++ List.replicate (t.n - i) fl0).flatMap Fl.cells) _ rfl (ble_fl hacc hlt _) rfl _ (hset _) ?_
    refine ArithOb.mk _ (next_wr (i := i) (by omega)) ?_
    exact ⟨(i + 1, _, ⟨some g2, k2.n + 1, c2, cur2⟩), hinv _ _ hok2, .sub (M1 := [(⟨g2, .cells cur2.toArray 51 (0, 0)⟩ : Blk), flRow b8 _] ++ M0) (.cons_cons _ (.cons _ (.refl _))) (.perm (List.Perm.swap _ _ _) .refl), .cons .refl (.cons .refl (.cons .refl (.cons .refl (.cons .refl (.cons .refl (.cons .refl (.cons .refl (.cons .refl .nil)))))))), .cons rfl (.cons rfl .nil)⟩
  refine CondOb.mk (fun h => absurd (of_decide_eq_true h) h3) (fun _ => ?_)
  have hkf : kidsF pl fl acc d = kl := by
    rw [kidsF, ← hkl, decide_eq_false h3]
    simp
  rw [hkf] at hinv
  have hks := OS.fsAt (I := I1) (M := flRow b8 (acc ++ List.replicate (t.n - i) fl0) :: (k2.blk 51 ++ M0)) (e := 51) hk2 (fun x hx => by simp [hx])
  have hpos : 6 ≤ d.k → 0 < k2.n := fun h6 => by
    have := fits_kid hk0 hft h6
    omega
  have hcases : d.k = 0 ∨ d.k = 1 ∨ d.k = 2 ∨ d.k = 4 ∨ d.k = 5 ∨ d.k = 6 ∨ d.k = 7 ∨ d.k = 8 ∨ d.k = 9 := by omega
  obtain ⟨dk, s0, s1, s2, s3, dt, lo, hi', dka, dkn, dkc, dkids⟩ := d
  simp only at hcases hpos h3
  refine CodeOb.draw TryzEOK rfl rfl rfl ?_
  rcases hcases with rfl | rfl | rfl | rfl | rfl | rfl | rfl | rfl | rfl
  · refine ArrOb.mk 0 rfl (by decide) ?_
    refine PCallOb.mkR _ [] _ perm_nil (come_at (d := ⟨0, s0, s1, s2, s3, dt, lo, hi', dka, dkn, dkc, dkids⟩) hks (Nat.le_of_succ_le hb2) 0 (by decide) rfl (fun h => by omega)) (fun v I' M' h x hx => by rw [h.2.2]; exact hx) ?_
    rintro v I2 M2 - ⟨rfl, rfl, rfl⟩
    rw [List.append_nil]
    refine IdxOb.mk ⟨b8, 0, none⟩ i rfl rfl hlt ?_
    refine StoreOb.addTo [] (k2.blk 51 ++ M0) ((acc ++ List.replicate (t.n - i) fl0).flatMap Fl.cells) _ rfl (ble_fl hacc hlt _) rfl _ (hset _) ?_
    refine ArithOb.mk _ (next_wr (i := i) (by omega)) ?_
    exact ⟨(i + 1, _, k2), hinv _ _ hk2, .refl, .cons .refl (.cons .refl (.cons .refl (.cons .refl (.cons .refl (.cons .refl (.cons .refl (.cons .refl (.cons .refl .nil)))))))), .cons rfl (.cons rfl .nil)⟩
  · refine ArrOb.mk 1 rfl (by decide) ?_
    refine PCallOb.mkR _ [] _ perm_nil (come_at (d := ⟨1, s0, s1, s2, s3, dt, lo, hi', dka, dkn, dkc, dkids⟩) hks (Nat.le_of_succ_le hb2) 1 (by decide) rfl (fun h => by omega)) (fun v I' M' h x hx => by rw [h.2.2]; exact hx) ?_
    rintro v I2 M2 - ⟨rfl, rfl, rfl⟩
    rw [List.append_nil]
    refine IdxOb.mk ⟨b8, 0, none⟩ i rfl rfl hlt ?_
    refine StoreOb.addTo [] (k2.blk 51 ++ M0) ((acc ++ List.replicate (t.n - i) fl0).flatMap Fl.cells) _ rfl (ble_fl hacc hlt _) rfl _ (hset _) ?_
    refine ArithOb.mk _ (next_wr (i := i) (by omega)) ?_
    exact ⟨(i + 1, _, k2), hinv _ _ hk2, .refl, .cons .refl (.cons .refl (.cons .refl (.cons .refl (.cons .refl (.cons .refl (.cons .refl (.cons .refl (.cons .refl .nil)))))))), .cons rfl (.cons rfl .nil)⟩
  · refine ArrOb.mk 2 rfl (by decide) ?_
    refine PCallOb.mkR _ [] _ perm_nil (come_at (d := ⟨2, s0, s1, s2, s3, dt, lo, hi', dka, dkn, dkc, dkids⟩) hks (Nat.le_of_succ_le hb2) 2 (by decide) rfl (fun h => by omega)) (fun v I' M' h x hx => by rw [h.2.2]; exact hx) ?_
    rintro v I2 M2 - ⟨rfl, rfl, rfl⟩
    rw [List.append_nil]
    refine IdxOb.mk ⟨b8, 0, none⟩ i rfl rfl hlt ?_
    refine StoreOb.addTo [] (k2.blk 51 ++ M0) ((acc ++ List.replicate (t.n - i) fl0).flatMap Fl.cells) _ rfl (ble_fl hacc hlt _) rfl _ (hset _) ?_
    refine ArithOb.mk _ (next_wr (i := i) (by omega)) ?_
    exact ⟨(i + 1, _, k2), hinv _ _ hk2, .refl, .cons .refl (.cons .refl (.cons .refl (.cons .refl (.cons .refl (.cons .refl (.cons .refl (.cons .refl (.cons .refl .nil)))))))), .cons rfl (.cons rfl .nil)⟩
  · refine ArrOb.mk 4 rfl (by decide) ?_
    refine PCallOb.mkR _ [] _ perm_nil (come_at (d := ⟨4, s0, s1, s2, s3, dt, lo, hi', dka, dkn, dkc, dkids⟩) hks (Nat.le_of_succ_le hb2) 4 (by decide) rfl (fun h => by omega)) (fun v I' M' h x hx => by rw [h.2.2]; exact hx) ?_
    rintro v I2 M2 - ⟨rfl, rfl, rfl⟩
    rw [List.append_nil]
    refine IdxOb.mk ⟨b8, 0, none⟩ i rfl rfl hlt ?_
    refine StoreOb.addTo [] (k2.blk 51 ++ M0) ((acc ++ List.replicate (t.n - i) fl0).flatMap Fl.cells) _ rfl (ble_fl hacc hlt _) rfl _ (hset _) ?_
    refine ArithOb.mk _ (next_wr (i := i) (by omega)) ?_
    exact ⟨(i + 1, _, k2), hinv _ _ hk2, .refl, .cons .refl (.cons .refl (.cons .refl (.cons .refl (.cons .refl (.cons .refl (.cons .refl (.cons .refl (.cons .refl .nil)))))))), .cons rfl (.cons rfl .nil)⟩
  · refine ArrOb.mk 5 rfl (by decide) ?_
    refine PCallOb.mkR _ [] _ perm_nil (come_at (d := ⟨5, s0, s1, s2, s3, dt, lo, hi', dka, dkn, dkc, dkids⟩) hks (Nat.le_of_succ_le hb2) 5 (by decide) rfl (fun h => by omega)) (fun v I' M' h x hx => by rw [h.2.2]; exact hx) ?_
    rintro v I2 M2 - ⟨rfl, rfl, rfl⟩
    rw [List.append_nil]
    refine IdxOb.mk ⟨b8, 0, none⟩ i rfl rfl hlt ?_
    refine StoreOb.addTo [] (k2.blk 51 ++ M0) ((acc ++ List.replicate (t.n - i) fl0).flatMap Fl.cells) _ rfl (ble_fl hacc hlt _) rfl _ (hset _) ?_
    refine ArithOb.mk _ (next_wr (i := i) (by omega)) ?_
    exact ⟨(i + 1, _, k2), hinv _ _ hk2, .refl, .cons .refl (.cons .refl (.cons .refl (.cons .refl (.cons .refl (.cons .refl (.cons .refl (.cons .refl (.cons .refl .nil)))))))), .cons rfl (.cons rfl .nil)⟩
  · refine ArrOb.mk 6 rfl (by decide) ?_
    refine PCallOb.mkR _ [] _ perm_nil (come_at (d := ⟨6, s0, s1, s2, s3, dt, lo, hi', dka, dkn, dkc, dkids⟩) hks (Nat.le_of_succ_le hb2) 6 (by decide) rfl (fun _ => hpos (by decide))) (fun v I' M' h x hx => by rw [h.2.2]; exact hx) ?_
    rintro v I2 M2 - ⟨rfl, rfl, rfl⟩
    rw [List.append_nil]
    refine IdxOb.mk ⟨b8, 0, none⟩ i rfl rfl hlt ?_
    refine StoreOb.addTo [] (k2.blk 51 ++ M0) ((acc ++ List.replicate (t.n - i) fl0).flatMap Fl.cells) _ rfl (ble_fl hacc hlt _) rfl _ (hset _) ?_
    refine ArithOb.mk _ (next_wr (i := i) (by omega)) ?_
    exact ⟨(i + 1, _, k2), hinv _ _ hk2, .refl, .cons .refl (.cons .refl (.cons .refl (.cons .refl (.cons .refl (.cons .refl (.cons .refl (.cons .refl (.cons .refl .nil)))))))), .cons rfl (.cons rfl .nil)⟩
  · refine ArrOb.mk 7 rfl (by decide) ?_
    refine PCallOb.mkR _ [] _ perm_nil (come_at (d := ⟨7, s0, s1, s2, s3, dt, lo, hi', dka, dkn, dkc, dkids⟩) hks (Nat.le_of_succ_le hb2) 7 (by decide) rfl (fun _ => hpos (by decide))) (fun v I' M' h x hx => by rw [h.2.2]; exact hx) ?_
    rintro v I2 M2 - ⟨rfl, rfl, rfl⟩
    rw [List.append_nil]
    refine IdxOb.mk ⟨b8, 0, none⟩ i rfl rfl hlt ?_
    refine StoreOb.addTo [] (k2.blk 51 ++ M0) ((acc ++ List.replicate (t.n - i) fl0).flatMap Fl.cells) _ rfl (ble_fl hacc hlt _) rfl _ (hset _) ?_
    refine ArithOb.mk _ (next_wr (i := i) (by omega)) ?_
    exact ⟨(i + 1, _, k2), hinv _ _ hk2, .refl, .cons .refl (.cons .refl (.cons .refl (.cons .refl (.cons .refl (.cons .refl (.cons .refl (.cons .refl (.cons .refl .nil)))))))), .cons rfl (.cons rfl .nil)⟩
  · refine ArrOb.mk 8 rfl (by decide) ?_
    refine PCallOb.mkR _ [] _ perm_nil (come_at (d := ⟨8, s0, s1, s2, s3, dt, lo, hi', dka, dkn, dkc, dkids⟩) hks (Nat.le_of_succ_le hb2) 8 (by decide) rfl (fun _ => hpos (by decide))) (fun v I' M' h x hx => by rw [h.2.2]; exact hx) ?_
    rintro v I2 M2 - ⟨rfl, rfl, rfl⟩
    rw [List.append_nil]
    refine IdxOb.mk ⟨b8, 0, none⟩ i rfl rfl hlt ?_
    refine StoreOb.addTo [] (k2.blk 51 ++ M0) ((acc ++ List.replicate (t.n - i) fl0).flatMap Fl.cells) _ rfl (ble_fl hacc hlt _) rfl _ (hset _) ?_
    refine ArithOb.mk _ (next_wr (i := i) (by omega)) ?_
    exact ⟨(i + 1, _, k2), hinv _ _ hk2, .refl, .cons .refl (.cons .refl (.cons .refl (.cons .refl (.cons .refl (.cons .refl (.cons .refl (.cons .refl (.cons .refl .nil)))))))), .cons rfl (.cons rfl .nil)⟩
  · refine ArrOb.mk 9 rfl (by decide) ?_
    refine PCallOb.mkR _ [] _ perm_nil (come_at (d := ⟨9, s0, s1, s2, s3, dt, lo, hi', dka, dkn, dkc, dkids⟩) hks (Nat.le_of_succ_le hb2) 9 (by decide) rfl (fun _ => hpos (by decide))) (fun v I' M' h x hx => by rw [h.2.2]; exact hx) ?_
    rintro v I2 M2 - ⟨rfl, rfl, rfl⟩
    rw [List.append_nil]
    refine IdxOb.mk ⟨b8, 0, none⟩ i rfl rfl hlt ?_
    refine StoreOb.addTo [] (k2.blk 51 ++ M0) ((acc ++ List.replicate (t.n - i) fl0).flatMap Fl.cells) _ rfl (ble_fl hacc hlt _) rfl _ (hset _) ?_
    refine ArithOb.mk _ (next_wr (i := i) (by omega)) ?_
    exact ⟨(i + 1, _, k2), hinv _ _ hk2, .refl, .cons .refl (.cons .refl (.cons .refl (.cons .refl (.cons .refl (.cons .refl (.cons .refl (.cons .refl (.cons .refl .nil)))))))), .cons rfl (.cons rfl .nil)⟩
end Go.V

/-
  Plain: flows: who is greater; the least ones that are closed. No program in sight.
-/
set_option linter.unusedVariables false
set_option linter.unusedSimpArgs false
namespace Go.V
open Go

/-! ### The order -/
structure Fl.le (a b : Fl) : Prop where
  z : a.z = true → b.z = true
  s : a.s = true → b.s = true
  f : a.f = true → b.f = true
theorem Fl.le_refl (a : Fl) : a.le a := ⟨id, id, id⟩
theorem Fl.le.trans {a b c : Fl} (h : a.le b) (h' : b.le c) : a.le c := ⟨fun x => h'.z (h.z x), fun x => h'.s (h.s x), fun x => h'.f (h.f x)⟩
theorem Fl.le.antisymm {a b : Fl} (h : a.le b) (h' : b.le a) : a = b := by
  obtain ⟨a1, a2, a3⟩ := a
  obtain ⟨b1, b2, b3⟩ := b
  have e : ∀ {x y : Bool}, (x = true → y = true) → (y = true → x = true) → x = y := fun {x y} h h' => by cases x <;> cases y <;> simp_all
  have e1 : a1 = b1 := e h.z h'.z
  have e2 : a2 = b2 := e h.s h'.s
  have e3 : a3 = b3 := e h.f h'.f
  subst e1 e2 e3
  rfl
theorem Fl.bot (a : Fl) : fl0.le a := ⟨(fun h => by cases h), (fun h => by cases h), (fun h => by cases h)⟩
def within (a b : Fl) : Bool := (!a.z || b.z) && ((!a.s || b.s) && (!a.f || b.f))
theorem within_iff {a b : Fl} : within a b = true ↔ a.le b := by
  obtain ⟨a1, a2, a3⟩ := a
  obtain ⟨b1, b2, b3⟩ := b
  constructor
  · intro h
    exact ⟨by cases a1 <;> cases b1 <;> simp_all [within], by cases a2 <;> cases b2 <;> simp_all [within], by cases a3 <;> cases b3 <;> simp_all [within]⟩
  · rintro ⟨h1, h2, h3⟩
    cases a1 <;> cases b1 <;> cases a2 <;> cases b2 <;> cases a3 <;> cases b3 <;> simp_all [within]
theorem Fl.suc_mono {a b : Fl} (h : a.le b) : a.suc = true → b.suc = true := by
  intro hs
  simp only [Fl.suc, Bool.or_eq_true] at hs ⊢
  exact hs.imp h.z h.s

/-- Rows, one by one. -/
inductive LeL : List Fl → List Fl → Prop
  | nil : LeL [] []
  | cons {a b l m} (h : Fl.le a b) (t : LeL l m) : LeL (a :: l) (b :: m)
theorem LeL.refl : ∀ l, LeL l l
  | [] => .nil
  | a :: l => .cons a.le_refl (LeL.refl l)
theorem LeL.trans : ∀ {a b c}, LeL a b → LeL b c → LeL a c
  | _, _, _, .nil, .nil => .nil
  | _, _, _, .cons h t, .cons h' t' => .cons (h.trans h') (t.trans t')
theorem LeL.antisymm : ∀ {a b}, LeL a b → LeL b a → a = b
  | _, _, .nil, _ => rfl
  | _, _, .cons h t, .cons h' t' => by rw [h.antisymm h', t.antisymm t']
theorem LeL.len : ∀ {a b}, LeL a b → a.length = b.length
  | _, _, .nil => rfl
  | _, _, .cons h t => by simp [t.len]
theorem LeL.append : ∀ {a b c d}, LeL a b → LeL c d → LeL (a ++ c) (b ++ d)
  | _, _, _, _, .nil, h => h
  | _, _, _, _, .cons h t, h' => .cons h (t.append h')
theorem LeL.getD : ∀ {a b}, LeL a b → ∀ i, (a.getD i fl0).le (b.getD i fl0)
  | _, _, .nil, i => by simp; exact Fl.le_refl _
  | _, _, .cons h t, 0 => h
  | _, _, .cons h t, i + 1 => by simpa using t.getD i
theorem LeL.of : ∀ {a b : List Fl}, a.length = b.length → (∀ i, i < a.length → (a.getD i fl0).le (b.getD i fl0)) → LeL a b
  | [], [], _, _ => .nil
  | x :: a, y :: b, hl, h => .cons (by simpa using h 0 (by simp)) (LeL.of (by simpa using hl) fun i hi => by simpa using h (i + 1) (by simpa using hi))
theorem LeL.map {α : Type} {f g : α → Fl} : ∀ {l : List α}, (∀ x ∈ l, (f x).le (g x)) → LeL (l.map f) (l.map g)
  | [], _ => .nil
  | x :: l, h => .cons (h x (.head _)) (LeL.map fun y hy => h y (.tail _ hy))
theorem LeL.head {a b : List Fl} (h : LeL a b) : (a.headD fl0).le (b.headD fl0) := by
  cases h with
  | nil => exact Fl.le_refl _
  | cons h _ => exact h
theorem LeL.bot : ∀ l : List Fl, LeL (List.replicate l.length fl0) l
  | [] => .nil
  | a :: l => .cons a.bot (LeL.bot l)

/-! ### The table is rising -/
theorem seq_mono : ∀ {a b : List Fl}, LeL a b → ∀ {x y : Fl × Bool}, x.1.le y.1 → (x.2 = true → y.2 = true) → (a.foldl seqStep x).1.le (b.foldl seqStep y).1 ∧ ((a.foldl seqStep x).2 = true → (b.foldl seqStep y).2 = true)
  | _, _, .nil, _, _, h1, h2 => ⟨h1, h2⟩
  | _, _, .cons h t, x, y, h1, h2 => by
    refine seq_mono t ⟨?_, ?_, ?_⟩ ?_
    · simp only [seqStep, Bool.and_eq_true]
      exact fun g => ⟨h1.z g.1, h.z g.2⟩
    · simp only [seqStep, Bool.or_eq_true]
      exact fun g => g.imp h1.s h.s
    · simp only [seqStep, Bool.or_eq_true, Bool.and_eq_true]
      exact fun g => g.imp h1.f fun g => ⟨h2 g.1, h.f g.2⟩
    · simp only [seqStep, Bool.and_eq_true]
      exact fun g => ⟨h2 g.1, Fl.suc_mono h g.2⟩
theorem ch_mono : ∀ {a b : List Fl}, LeL a b → ∀ {x y : Fl}, x.le y → (a.foldl chStep x).le (b.foldl chStep y)
  | _, _, .nil, _, _, h1 => h1
  | _, _, .cons h t, x, y, h1 => by
    refine ch_mono t ⟨?_, ?_, ?_⟩
    · simp only [chStep, Bool.or_eq_true, Bool.and_eq_true]
      exact fun g => g.imp h1.z fun g => ⟨h1.f g.1, h.z g.2⟩
    · simp only [chStep, Bool.or_eq_true, Bool.and_eq_true]
      exact fun g => g.imp h1.s fun g => ⟨h1.f g.1, h.s g.2⟩
    · simp only [chStep, Bool.and_eq_true]
      exact fun g => ⟨h1.f g.1, h.f g.2⟩
theorem rep_mono (d : Nd) {a b : Fl} (h : a.le b) : (repFl d a).le (repFl d b) := by
  unfold repFl
  cases decide (d.hi = 0) with
  | true => exact Fl.le_refl _
  | false =>
    refine ⟨?_, h.s, ?_⟩
    · simp only [cond_false, Bool.or_eq_true, Bool.and_eq_true]
      exact fun g => g.imp h.z fun g => ⟨g.1, h.f g.2⟩
    · simp only [cond_false, Bool.and_eq_true]
      exact fun g => ⟨g.1, h.f g.2⟩
theorem come_mono (d : Nd) {a b : List Fl} (h : LeL a b) : (comeFl d a).le (comeFl d b) := by
  have hh := h.head
  unfold comeFl
  cases decide (d.k = 0) with
  | true => exact Fl.le_refl _
  | false =>
  cases decide (d.k = 1) with
  | true => exact Fl.le_refl _
  | false =>
  cases decide (d.k = 2) with
  | true => exact Fl.le_refl _
  | false =>
  cases decide (d.k = 3) with
  | true => exact hh
  | false =>
  cases decide (d.k = 4) with
  | true =>
    have hs := seq_mono h (x := (⟨true, false, false⟩, true)) (y := (⟨true, false, false⟩, true)) (Fl.le_refl _) id
    refine ⟨hs.1.z, ?_, hs.1.f⟩
    simp only [cond_true, cond_false, seqFl, seqGo, Bool.and_eq_true]
    exact fun g => ⟨hs.1.s g.1, hs.2 g.2⟩
  | false =>
  cases decide (d.k = 5) with
  | true => exact ch_mono h (Fl.le_refl _)
  | false =>
  cases decide (d.k = 6) with
  | true => exact rep_mono d hh
  | false =>
  cases decide (d.k = 7) with
  | true => exact ⟨Fl.suc_mono hh, id, hh.f⟩
  | false =>
  cases decide (d.k = 8) with
  | true => exact ⟨hh.f, id, Fl.suc_mono hh⟩
  | false => exact hh
theorem kids_mono {pl : List (ByteArray × Int)} {fl fl' acc acc' : List Fl} (h : LeL fl fl') (ha : LeL acc acc') (d : Nd) : LeL (kidsF pl fl acc d) (kidsF pl fl' acc' d) := by
  unfold kidsF
  refine (LeL.map fun k _ => ha.getD _).append ?_
  cases decide (d.k = 3) with
  | true => exact .cons (h.getD _) .nil
  | false => exact .nil
theorem nodes_mono {pl : List (ByteArray × Int)} {fl fl' : List Fl} (h : LeL fl fl') : ∀ (ds : List Nd) {acc acc' : List Fl}, LeL acc acc' → LeL (nodesF pl fl ds acc) (nodesF pl fl' ds acc')
  | [], _, _, ha => ha
  | d :: ds, _, _, ha => nodes_mono h ds (ha.append (.cons (come_mono d (kids_mono h ha d)) .nil))

/-! ### A grammar's flows -/
/-- The flow of a rule's body, by flows of rules. -/
def bodyF (pl : List (ByteArray × Int)) (fl : List Fl) (d : Df) : Fl := (nodesF pl fl d.t.ns []).getD d.t.root.toNat fl0
theorem body_mono {pl : List (ByteArray × Int)} {fl fl' : List Fl} (h : LeL fl fl') (d : Df) : (bodyF pl fl d).le (bodyF pl fl' d) := (nodes_mono h d.t.ns .nil).getD _
def roundGo (pl : List (ByteArray × Int)) : Nat → List Df → List Fl → List Fl
  | _, [], l => l
  | i, d :: ds, l => roundGo pl (i + 1) ds (l.set i (bodyF pl l d))
/-- Flows on the way to the least ones. -/
structure PreF (ds : List Df) (l : List Fl) : Prop where
  len : l.length = ds.length
  up : ∀ i (h : i < ds.length), (l.getD i fl0).le (bodyF (placesL ds) l ds[i])
  least : ∀ m : List Fl, m.length = ds.length → (∀ i (h : i < ds.length), (bodyF (placesL ds) m ds[i]).le (m.getD i fl0)) → LeL l m
theorem set_getD (l : List Fl) (i j : Nat) (x : Fl) (hi : i < l.length) : (l.set i x).getD j fl0 = if i = j then x else l.getD j fl0 := by
  simp only [List.getD_eq_getElem?_getD, List.getElem?_set]
  by_cases e : i = j
  · subst e
    simp [hi]
  · rw [if_neg e, if_neg e]
theorem PreF.start (ds : List Df) : PreF ds (List.replicate ds.length fl0) := by
  refine ⟨by simp, fun i h => ?_, fun m hm _ => by rw [← hm]; exact LeL.bot m⟩
  have : (List.replicate ds.length fl0).getD i fl0 = fl0 := by simp [List.getD_eq_getElem?_getD, h]
  rw [this]
  exact Fl.bot _
theorem PreF.step {ds : List Df} {l : List Fl} (h : PreF ds l) {i : Nat} (hi : i < ds.length) : PreF ds (l.set i (bodyF (placesL ds) l ds[i])) ∧ LeL l (l.set i (bodyF (placesL ds) l ds[i])) := by
  have hil : i < l.length := by rw [h.len]; exact hi
  have hle : LeL l (l.set i (bodyF (placesL ds) l ds[i])) := LeL.of (by simp) fun j hj => by
    rw [set_getD _ _ _ _ hil]
    by_cases e : i = j
    · subst e
      rw [if_pos rfl]
      exact h.up i hi
    · rw [if_neg e]
      exact Fl.le_refl _
  refine ⟨⟨by simpa using h.len, fun j hj => ?_, fun m hm hc => ?_⟩, hle⟩
  · rw [set_getD _ _ _ _ hil]
    by_cases e : i = j
    · subst e
      rw [if_pos rfl]
      exact body_mono hle _
    · rw [if_neg e]
      exact (h.up j hj).trans (body_mono hle _)
  · have hlm := h.least m hm hc
    refine LeL.of (by simp [h.len, hm]) fun j hj => ?_
    rw [set_getD _ _ _ _ hil]
    by_cases e : i = j
    · subst e
      rw [if_pos rfl]
      exact (body_mono hlm _).trans (hc i hi)
    · rw [if_neg e]
      exact hlm.getD j
theorem roundGo_pre {ds : List Df} : ∀ (rest pre : List Df) {l : List Fl}, ds = pre ++ rest → PreF ds l → PreF ds (roundGo (placesL ds) pre.length rest l) ∧ LeL l (roundGo (placesL ds) pre.length rest l) ∧
    (roundGo (placesL ds) pre.length rest l = l → ∀ i (h : i < ds.length), pre.length ≤ i → l.getD i fl0 = bodyF (placesL ds) l ds[i])
  | [], pre, l, hds, h => ⟨h, LeL.refl l, fun _ i hi hge => by
    rw [hds, List.append_nil] at hi
    omega⟩
  | d :: rest, pre, l, hds, h => by
    have hi : pre.length < ds.length := by rw [hds]; simp
    have hd : ds[pre.length] = d := by simp [hds]
    have hil : pre.length < l.length := by rw [h.len]; exact hi
    obtain ⟨s1, s2⟩ := h.step hi
    rw [hd] at s1 s2
    obtain ⟨r1, r2, r3⟩ := roundGo_pre rest (pre ++ [d]) (by rw [hds]; simp) s1
    rw [List.length_append, List.length_cons, List.length_nil, Nat.zero_add] at r1 r2 r3
    refine ⟨r1, s2.trans r2, fun e i hi2 hge => ?_⟩
    have e1 : l.set pre.length (bodyF (placesL ds) l d) = l := by
      refine LeL.antisymm ?_ s2
      have : roundGo (placesL ds) pre.length (d :: rest) l = roundGo (placesL ds) (pre.length + 1) rest (l.set pre.length (bodyF (placesL ds) l d)) := rfl
      rw [this] at e
      rw [e] at r2
      exact r2
    have e2 : roundGo (placesL ds) (pre.length + 1) rest l = l := by
      have : roundGo (placesL ds) pre.length (d :: rest) l = roundGo (placesL ds) (pre.length + 1) rest (l.set pre.length (bodyF (placesL ds) l d)) := rfl
      rw [this, e1] at e
      exact e
    rw [e1] at r3
    by_cases hp : i = pre.length
    · subst hp
      have h4 := set_getD l pre.length pre.length (bodyF (placesL ds) l d) hil
      rw [e1, if_pos rfl] at h4
      rw [h4, hd]
    · exact r3 e2 i hi2 (by omega)

/-- The least flows that are closed. -/
structure IsFlow (ds : List Df) (l : List Fl) : Prop where
  len : l.length = ds.length
  fix : ∀ i (h : i < ds.length), l.getD i fl0 = bodyF (placesL ds) l ds[i]
  least : ∀ m : List Fl, m.length = ds.length → (∀ i (h : i < ds.length), (bodyF (placesL ds) m ds[i]).le (m.getD i fl0)) → LeL l m
theorem PreF.done {ds : List Df} {l : List Fl} (h : PreF ds l) (hf : roundGo (placesL ds) 0 ds l = l) : IsFlow ds l :=
  ⟨h.len, fun i hi => (roundGo_pre ds [] rfl h).2.2 hf i hi (Nat.zero_le _), h.least⟩
theorem IsFlow.unique {ds : List Df} {l l' : List Fl} (h : IsFlow ds l) (h' : IsFlow ds l') : l = l' :=
  LeL.antisymm (h.least l' h'.len fun i hi => by rw [← h'.fix i hi]; exact Fl.le_refl _) (h'.least l h.len fun i hi => by rw [← h.fix i hi]; exact Fl.le_refl _)
def iterF (ds : List Df) : Nat → List Fl
  | 0 => List.replicate ds.length fl0
  | n + 1 => roundGo (placesL ds) 0 ds (iterF ds n)
theorem iterF_pre (ds : List Df) : ∀ n, PreF ds (iterF ds n)
  | 0 => .start ds
  | n + 1 => (roundGo_pre ds [] rfl (iterF_pre ds n)).1
theorem isFlow_of {ds : List Df} {l : List Fl} (n : Nat) (h : iterF ds n = l) (h' : roundGo (placesL ds) 0 ds l = l) : IsFlow ds l := by
  subst h
  exact (iterF_pre ds n).done h'

/-- How many flags are down. -/
def offF (x : Fl) : Nat := (bif x.z then 0 else 1) + ((bif x.s then 0 else 1) + (bif x.f then 0 else 1))
def offs (l : List Fl) : Nat := (l.map offF).sum
theorem offF_le {a b : Fl} (h : a.le b) : offF b ≤ offF a ∧ (offF a ≤ offF b → a = b) := by
  obtain ⟨a1, a2, a3⟩ := a
  obtain ⟨b1, b2, b3⟩ := b
  obtain ⟨h1, h2, h3⟩ := h
  cases a1 <;> cases b1 <;> cases a2 <;> cases b2 <;> cases a3 <;> cases b3 <;> simp_all [offF]
theorem offs_le : ∀ {l m : List Fl}, LeL l m → offs m ≤ offs l ∧ (offs l ≤ offs m → l = m)
  | _, _, .nil => ⟨Nat.le_refl _, fun _ => rfl⟩
  | _, _, .cons h t => by
    obtain ⟨h1, h2⟩ := offF_le h
    obtain ⟨t1, t2⟩ := offs_le t
    simp only [offs, List.map_cons, List.sum_cons] at t1 t2 ⊢
    refine ⟨by omega, fun h => ?_⟩
    rw [h2 (by omega), t2 (by omega)]
theorem offs_lt {l m : List Fl} (h : LeL l m) (hne : m ≠ l) : offs m < offs l := by
  obtain ⟨h1, h2⟩ := offs_le h
  apply Nat.lt_of_le_of_ne h1
  intro e
  exact hne (h2 (by omega)).symm

/-! ### Names and places -/
def firstAt (nm : ByteArray) : List Df → Nat → Option Int
  | [], _ => none
  | d :: ds, i => bif decide (nm = d.name) then some (i : Int) else firstAt nm ds (i + 1)
theorem lookM_snoc (s n : ByteArray) (v : Int) : ∀ l : List (ByteArray × Int), lookM s (l ++ [(n, v)]) = match lookM s l with
    | some x => some x
    | none => bif decide (s = n) then some v else none
  | [] => rfl
  | p :: l => by
    have ih := lookM_snoc s n v l
    simp only [List.cons_append, lookM]
    cases decide (s = p.1) with
    | true => rfl
    | false => simpa using ih
theorem places_look : ∀ (ds : List Df) (acc : List (ByteArray × Int)) (i : Nat) (nm : ByteArray), lookM nm (placesGo acc i ds) = match lookM nm acc with
    | some x => some x
    | none => firstAt nm ds i
  | [], acc, i, nm => by
    rw [placesGo, firstAt]
    cases lookM nm acc <;> rfl
  | d :: ds, acc, i, nm => by
    rw [placesGo, places_look ds, firstAt]
    cases hd : (lookM d.name acc).isSome with
    | true =>
      simp only [cond_true]
      cases hl : lookM nm acc with
      | some x => rfl
      | none =>
        have : decide (nm = d.name) = false := by
          rw [decide_eq_false_iff_not]
          intro e
          rw [← e, hl] at hd
          cases hd
        rw [this]
        rfl
    | false =>
      simp only [cond_false, lookM_snoc]
      cases hl : lookM nm acc with
      | some x => rfl
      | none => cases decide (nm = d.name) <;> rfl
theorem places_first (ds : List Df) (nm : ByteArray) : lookM nm (placesL ds) = firstAt nm ds 0 := places_look ds [] 0 nm
theorem firstAt_lt : ∀ {ds : List Df} {i : Nat} {nm : ByteArray} {v : Int}, firstAt nm ds i = some v → ∃ j : Nat, v = ((i + j : Nat) : Int) ∧ j < ds.length
  | d :: ds, i, nm, v, h => by
    unfold firstAt at h
    cases hd : decide (nm = d.name) with
    | true =>
      rw [hd] at h
      simp only [cond_true, Option.some.injEq] at h
      exact ⟨0, by rw [← h]; rfl, by simp⟩
    | false =>
      rw [hd] at h
      obtain ⟨j, h1, h2⟩ := firstAt_lt h
      exact ⟨j + 1, by rw [h1]; congr 1; omega, by simpa using h2⟩
/-- Are the rules that are called there? -/
def namedOk (pl : List (ByteArray × Int)) (ns : List Nd) : Bool := ns.all fun d => !decide (d.k = 3) || (lookM d.t pl).isSome
theorem called_of {ds : List Df} {ns : List Nd} (h : namedOk (placesL ds) ns = true) : Called (placesL ds) ds.length ns := by
  intro d hd hk
  have := List.all_eq_true.1 h d hd
  simp only [hk, decide_true, Bool.not_true, Bool.false_or] at this
  obtain ⟨v, hv⟩ := Option.isSome_iff_exists.1 this
  have hv' := hv
  rw [places_first] at hv'
  obtain ⟨j, h1, h2⟩ := firstAt_lt hv'
  rw [Nat.zero_add] at h1
  exact ⟨j, by rw [hv, h1], h2⟩
theorem dups_places : ∀ (ds : List Df) {acc r : List (ByteArray × Int)} {i : Nat}, dups acc i ds = some r → placesGo acc i ds = r
  | [], acc, r, i, h => by
    simp only [dups, Option.some.injEq] at h
    exact h
  | d :: ds, acc, r, i, h => by
    unfold dups at h
    cases hd : (lookM d.name acc).isSome with
    | true => rw [hd] at h; cases h
    | false =>
      rw [hd] at h
      rw [placesGo, hd]
      exact dups_places ds h
theorem pairs_mem {d : Df} {nd : Nd} (hn : nd ∈ d.t.ns) : ∀ (ds : List Df) (i : Nat), d ∈ ds → ∃ j, (j, nd) ∈ nodePairs i ds := by
  intro ds
  induction ds with
  | nil => intro i hd; cases hd
  | cons x ds ih =>
    intro i hd
    rcases List.mem_cons.1 hd with e | hd
    · subst e
      exact ⟨i, List.mem_append.2 (.inl (List.mem_map.2 ⟨nd, hn, rfl⟩))⟩
    · obtain ⟨j, hj⟩ := ih (i + 1) hd
      exact ⟨j, List.mem_append.2 (.inr hj)⟩
theorem may_named {deb : List Int} {g : Gr} (h : mayG deb g = 0) : ∀ d ∈ g.ds, namedOk (placesL g.ds) d.t.ns = true := by
  unfold mayG at h
  cases h1 : decide ((g.n : Int) = 0) with
  | true => rw [h1] at h; cases h
  | false =>
  cases h2 : okDefs g.ds with
  | false => rw [h1, h2] at h; cases h
  | true =>
  cases h3 : largeG deb g with
  | true => rw [h1, h2, h3] at h; cases h
  | false =>
  rw [h1, h2, h3] at h
  simp only [cond_false, Bool.not_true] at h
  split at h
  · cases h
  · rename_i acc hacc
    have hp : placesL g.ds = acc := dups_places g.ds hacc
    cases h4 : allNamed acc g.ds with
    | false => rw [h4] at h; cases h
    | true =>
      intro d hd
      rw [hp, namedOk, List.all_eq_true]
      intro nd hnd
      obtain ⟨j, hj⟩ := pairs_mem hnd g.ds 0 hd
      exact List.all_eq_true.1 h4 _ hj
theorem may_ok {deb : List Int} {g : Gr} (h : mayG deb g = 0) : okDefs g.ds = true := by
  unfold mayG at h
  cases h1 : decide ((g.n : Int) = 0) with
  | true => rw [h1] at h; cases h
  | false =>
  cases h2 : okDefs g.ds with
  | false => rw [h1, h2] at h; cases h
  | true => rfl
end Go.V

/-
  Walks: flow.Within, Nodes, Tree, Of.
-/
set_option linter.unusedVariables false
set_option linter.unusedSimpArgs false
namespace Go.V
open Go Go.Proofs

theorem FsAt.mono {I I' : GH} {M : List Blk} {a : Option Addr} {n : Nat} {ks : List Fl} (h : FsAt I M a n ks) (hI : ∀ b o, I b = some o → I' b = some o) : FsAt I' M a n ks :=
  ⟨h.n, fun j hj => by
    obtain ⟨ad, h1, h2⟩ := h.rd j hj
    exact ⟨ad, h1, h2.mono hI⟩⟩
theorem FsAt.sub {I : GH} {M M' : List Blk} {a : Option Addr} {n : Nat} {ks : List Fl} (h : FsAt I M a n ks) (hM : ∀ x ∈ M, x ∈ M') : FsAt I M' a n ks :=
  ⟨h.n, fun j hj => by
    obtain ⟨ad, h1, h2⟩ := h.rd j hj
    exact ⟨ad, h1, h2.sub hM⟩⟩
theorem flRow_at {I : GH} {M : List Blk} {b : Nat} {l : List Fl} (hM : flRow b l ∈ M) : FsAt I M (some ⟨b, 0, none⟩) l.length l :=
  ⟨rfl, fun j hj => ⟨_, rfl, flRow_rd hM hj⟩⟩

theorem Within_spec {I : GH} {M : List Blk} (x y : Fl) : Spec Tryz.prog 30 [x.val, y.val] I M fun v I' M' => v = .bool (within x y) ∧ I' = I ∧ M' = M := by
  obtain ⟨a1, a2, a3⟩ := x
  obtain ⟨b1, b2, b3⟩ := y
  refine spec_of_V [] TryzEOK Tryz.func30 rfl rfl rfl ?_
  intro B h0
  repeat' refine GuardOb.mk (fun h => ?_) (fun h => ?_)
  all_goals refine ⟨_, _, .refl, ?_, rfl, rfl⟩
  all_goals first
    | (refine congrArg Value.bool ?_; simp_all [within]; done)
    | (simp_all [within]; done)

def nodesP (g : Gr) (fl : List Fl) (t : Tr) : Option (List Fl) := bif decide (fl.length = g.n) && (right t && namedOk (placesL g.ds) t.ns) then some (nodesF (placesL g.ds) fl t.ns []) else none

set_option maxHeartbeats 4000000 in
theorem FNodes_spec {I : GH} {M0 : List Blk} {deb : List Int} (hT : Tabs I deb) {g : Gr} (hg : g.ok I) {t : Tr} (ht : t.ok I) {la : Option Addr} {ln lc : Nat} {fl : List Fl} (hfl : FsAt I M0 la ln fl) :
    Spec Tryz.prog 22 [g.val, .slice la ln lc, t.val] I M0 fun v I' M' => (∀ b o, I b = some o → I' b = some o) ∧
      ((nodesP g fl t = none ∧ v = .tuple #[.slice none 0 0, .bool false] ∧ M' = M0) ∨ ∃ r b, nodesP g fl t = some r ∧ v = .tuple #[.slice (some ⟨b, 0, none⟩) t.n t.n, .bool true] ∧ M' = flRow b r :: M0) := by
  refine spec_of_V [] TryzEOK Tryz.func22 rfl rfl rfl ?_
  intro B h0
  have hgn := hg.n
  have htn := ht.n
  have hcap := ht.rs.cap
  have hfn := hfl.n
  refine GuardOb.mk (fun h => ?_) (fun h => ?_)
  rotate_left
  · refine ⟨_, _, .refl, fun _ _ h => h, .inl ⟨?_, rfl, rfl⟩⟩
    have hne : ¬ (ln : Int) = (g.n : Int) := by simpa using h
    have : decide (fl.length = g.n) = false := decide_eq_false (by omega)
    simp [nodesP, this]
  have hln : ln = g.n := by
    have : (ln : Int) = (g.n : Int) := by simpa using h
    omega
  have hd1 : decide (fl.length = g.n) = true := decide_eq_true (by omega)
  refine CallOb.mk [] M0 _ (.refl _) (Right_spec hT.c ht) ?_
  rintro v I1 M1 - ⟨rfl, rfl, rfl⟩
  refine CondOb.mk (fun h => ?_) (fun h => ?_)
  · refine ⟨_, _, .refl, fun _ _ h => h, .inl ⟨?_, rfl, rfl⟩⟩
    have : right t = false := by simpa using h
    simp [nodesP, this]
  have hr : right t = true := by simpa using h
  refine CallOb.mk [] M0 _ (.refl _) (places_spec hg) ?_
  rintro v I2 M2 - ⟨hI2, rfl, gm, rfl, hgm⟩
  have ht2 := ht.mono hI2
  refine LoopOb.inv (ι := Nat) (fun x => { fl := [(1, .val (.slice la ln lc)), (3, .ref 3 0), (5, .ref 5 0), (8, .val (.map (some gm))), (27, .val (.slice t.a t.n t.c)), (28, .val (.int .i64 t.n)), (29, .val (.int .i64 x))], cl := [(3, [.slice g.a g.n g.c]), (5, t.cells)], gi := I2, mi := M0 })
    (fun x => x ≤ t.n ∧ ∀ d ∈ t.ns.take x, (!decide (d.k = 3) || (lookM d.t (placesL g.ds)).isSome) = true) (fun x => t.n - x) ?_ ?_
  · exact ⟨0, ⟨Nat.zero_le _, fun d hd => by simp at hd⟩, .refl, .cons .refl (.cons .refl (.cons .refl (.cons .refl (.cons .refl (.cons .refl (.cons .refl .nil)))))), .cons rfl (.cons rfl .nil)⟩
  rintro i ⟨hi, hnm⟩
  refine CondOb.mk (fun h => ?_) (fun h => ?_)
  · have hlt : i < t.n := by have : (i : Int) < (t.n : Int) := of_decide_eq_true h; omega
    have hlt' : i < t.ns.length := by omega
    obtain ⟨ad, had, hrd⟩ := ht2.rs.row Nd.cells_len hlt hlt'
    have htk : t.ns.take (i + 1) = t.ns.take i ++ [t.ns[i]] := List.take_succ_eq_append_getElem hlt'
    have hmem := List.getElem_mem hlt'
    have next : (!decide (t.ns[i].k = 3) || (lookM t.ns[i].t (placesL g.ds)).isSome) = true → ∀ d ∈ t.ns.take (i + 1), (!decide (d.k = 3) || (lookM d.t (placesL g.ds)).isSome) = true := fun h d hd => by
      rw [htk] at hd
      rcases List.mem_append.1 hd with hd | hd
      · exact hnm d hd
      · simp only [List.mem_singleton] at hd
        rw [hd]
        exact h
    refine IdxOb.mk ad i had rfl hlt ?_
    refine LoadOb.mk _ (hrd _) ?_
    refine CondOb.mk (fun h3 => ?_) (fun h3 => ?_)
    · refine ArithOb.mk _ (next_wr (i := i) (by omega)) ?_
      refine ⟨i + 1, ⟨⟨by omega, next ?_⟩, by omega⟩, .refl, .cons .refl (.cons .refl (.cons .refl (.cons .refl (.cons .refl (.cons .refl (.cons .refl .nil)))))), .cons rfl (.cons rfl .nil)⟩
      rw [show (!decide (t.ns[i].k = 3)) = true from h3]
      rfl
    · refine OtherOb.lookupT TryzEOK rfl (by simp) rfl rfl rfl rfl (fun w => zero_int w) (l := placesL g.ds) (g := gm) rfl rfl (.inl hgm) ?_
      refine CondOb.mk (fun h4 => ?_) (fun h4 => ?_)
      · refine ⟨_, _, .refl, hI2, .inl ⟨?_, rfl, rfl⟩⟩
        have h5 : namedOk (placesL g.ds) t.ns = false := by
          rw [namedOk, List.all_eq_false]
          refine ⟨_, hmem, ?_⟩
          have h6 : (lookM t.ns[i].t (placesL g.ds)).isSome = false := by simpa using h4
          rw [h6, show (!decide (t.ns[i].k = 3)) = false from h3]
          simp
        simp [nodesP, h5]
      · refine ArithOb.mk _ (next_wr (i := i) (by omega)) ?_
        refine ⟨i + 1, ⟨⟨by omega, next ?_⟩, by omega⟩, .refl, .cons .refl (.cons .refl (.cons .refl (.cons .refl (.cons .refl (.cons .refl (.cons .refl .nil)))))), .cons rfl (.cons rfl .nil)⟩
        have h6 : (lookM t.ns[i].t (placesL g.ds)).isSome = true := by simpa using h4
        rw [h6]
        simp
  have hge : i = t.n := by have : ¬ (i : Int) < (t.n : Int) := of_decide_eq_false h; omega
  rw [List.take_of_length_le (by omega)] at hnm
  have hno : namedOk (placesL g.ds) t.ns = true := List.all_eq_true.2 hnm
  have hca := called_of hno
  rw [hgn, ← hln] at hca
  refine CallOb.mk M0 [] _ perm_nil (fnodes_spec ht2 hr hgm (hfl.mono hI2) hca) ?_
  rintro v I3 M3 - ⟨rfl, b, rfl, rfl⟩
  rw [List.append_nil]
  exact ⟨_, _, .refl, hI2, .inr ⟨_, b, by rw [nodesP, hd1, hr, hno]; rfl, rfl, rfl⟩⟩

def treeP (g : Gr) (fl : List Fl) (t : Tr) : Option Fl := (nodesP g fl t).map fun r => r.getD t.root.toNat fl0
theorem nodesP_len {g : Gr} {fl : List Fl} {t : Tr} {r : List Fl} (h : nodesP g fl t = some r) : right t = true ∧ r.length = t.ns.length := by
  unfold nodesP at h
  cases hb : decide (fl.length = g.n) && (right t && namedOk (placesL g.ds) t.ns) with
  | false => rw [hb] at h; cases h
  | true =>
    rw [hb] at h
    simp only [cond_true, Option.some.injEq] at h
    simp only [Bool.and_eq_true] at hb
    refine ⟨hb.2.1, ?_⟩
    rw [← h, nodesF_len]
    simp

theorem FTree_spec {I : GH} {M0 : List Blk} {deb : List Int} (hT : Tabs I deb) {g : Gr} (hg : g.ok I) {t : Tr} (ht : t.ok I) {la : Option Addr} {ln lc : Nat} {fl : List Fl} (hfl : FsAt I M0 la ln fl) :
    Spec Tryz.prog 25 [g.val, .slice la ln lc, t.val] I M0 fun v I' M' => (∀ b o, I b = some o → I' b = some o) ∧ M' = M0 ∧
      v = .tuple #[((treeP g fl t).getD fl0).val, .bool (treeP g fl t).isSome] := by
  refine spec_of_V [] TryzEOK Tryz.func25 rfl rfl rfl ?_
  intro B h0
  have htn := ht.n
  refine CallOb.mk M0 [] _ perm_nil (FNodes_spec hT hg ht hfl) ?_
  rintro v I1 M1 - ⟨hI1, ⟨hn, rfl, rfl⟩ | ⟨r, b, hn, rfl, rfl⟩⟩
  · rw [List.append_nil]
    refine CondOb.mk (fun _ => ?_) (fun h => by simp at h)
    exact ⟨_, _, .refl, hI1, rfl, by rw [treeP, hn]; rfl⟩
  · obtain ⟨hr, hrl⟩ := nodesP_len hn
    have hroot := right_root hr
    rw [List.append_nil]
    refine CondOb.mk (fun h => by simp at h) (fun _ => ?_)
    have hrl' : t.root.toNat < r.length := by omega
    refine IdxOb.mk ⟨b, 0, none⟩ t.root.toNat rfl (by omega) (by omega) ?_
    refine LoadOb.mk _ (flRow_rd (.head _) hrl') ?_
    refine ⟨_, M0, .sub (.cons _ (.refl _)) .refl, hI1, rfl, ?_⟩
    rw [treeP, hn]
    simp only [Option.map_some, Option.getD_some, Option.isSome_some, List.getD_eq_getElem?_getD, List.getElem?_eq_getElem hrl']
    rfl

/-! ### Of -/
/-- What is known of a grammar that may be. -/
structure MayF (g : Gr) : Prop where
  n : g.ds.length = g.n
  right : ∀ d ∈ g.ds, right d.t = true
  named : ∀ d ∈ g.ds, namedOk (placesL g.ds) d.t.ns = true
theorem mayF_of {deb : List Int} {g : Gr} (hn : g.ds.length = g.n) (h : mayG deb g = 0) : MayF g := by
  refine ⟨hn, fun d hd => ?_, may_named h⟩
  have := List.all_eq_true.1 (may_ok h) d hd
  simp only [normal, Bool.and_eq_true] at this
  exact this.2.1
def ofM (b6 gm b5 bl b1 : Nat) (g : Gr) (l : List Fl) : List Blk := [⟨b6, .cells #[.map (some gm)] 88 (0, 0)⟩, ⟨b5, .cells #[.slice (some ⟨bl, 0, none⟩) g.n g.n] 34 (0, 0)⟩, flRow bl l, ⟨b1, .cells #[.slice g.a g.n g.c] 24 (0, 0)⟩]

theorem perm_at2 {α : Type} (a b c d : α) : [a, b, c, d].Perm ([c] ++ [a, b, d]) := List.perm_middle (l₁ := [a, b]) (l₂ := [d])
theorem perm_at3 {α : Type} (x a b c d : α) : [x, a, b, c, d].Perm ([c] ++ [x, a, b, d]) := List.perm_middle (l₁ := [x, a, b]) (l₂ := [d])
theorem blk_rd0 {I : GH} {M : List Blk} {b : Nat} {f : Fl} (hM : (⟨b, .cells f.cells.toArray 51 (0, 0)⟩ : Blk) ∈ M) : Rd I M (⟨b, 0, none⟩ : Addr) 3 f.cells := ⟨rfl, _, _, _, .inr ⟨_, hM, rfl, rfl⟩, rfl, rfl⟩
theorem ble_row {l : List Fl} {i : Nat} (hi : i < l.length) {x : Fl} : Nat.ble (0 + i * 3 + x.cells.length) (l.flatMap Fl.cells).length = true := by
  rw [Nat.ble_eq, fl_len, Fl.cells_len]
  omega
theorem StoreOb.to {M : List Blk} {a : Addr} {vs : List Value} {K : List Blk → Prop} (pre post : List Blk) (cs : Array Value) (T : Nat) (hM : M = pre ++ ⟨a.block, .cells cs T (0, 0)⟩ :: post) (hs : a.spot = none) (hb : Nat.ble (a.off + vs.length) cs.size = true) (h1 : allOne vs = true)
    (cs' : List Value) (he : splice cs.toList a.off vs = cs') (k : K (pre ++ ⟨a.block, .cells cs'.toArray T (0, 0)⟩ :: post)) : StoreOb M a vs K :=
  ⟨pre, post, cs, T, hM, hs, Nat.le_of_ble_eq_true hb, h1, by rw [he]; exact k⟩
set_option maxRecDepth 100000 in
set_option maxHeartbeats 8000000 in
theorem Of1_spec {I : GH} {g : Gr} (hg : g.ok I) (hm : MayF g) {b6 gm b5 bl b1 : Nat} (hgm : I gm = some (mapO (placesL g.ds))) {l0 : List Fl} (hl0 : PreF g.ds l0) :
    Spec Tryz.prog 51 [ptr b1, ptr b6, ptr b5] I (ofM b6 gm b5 bl b1 g l0) fun v I' M' => v = .bool (decide (roundGo (placesL g.ds) 0 g.ds l0 ≠ l0)) ∧ I' = I ∧ M' = ofM b6 gm b5 bl b1 g (roundGo (placesL g.ds) 0 g.ds l0) := by
  refine spec_of_V [] TryzEOK Tryz.func51 rfl rfl rfl ?_
  intro B h0
  have hgn := hg.n
  have hcap := hg.rs.cap
  have rd1 : ∀ {M : List Blk}, (⟨b1, .cells #[.slice g.a g.n g.c] 24 (0, 0)⟩ : Blk) ∈ M → Rd I M ((⟨b1, 0, none⟩ : Addr).add 0) 1 [.slice g.a g.n g.c] := fun hM => blk_rd (cs := [.slice g.a g.n g.c]) (k := 0) (n := 1) hM (by simp)
  have rd6 : ∀ {M : List Blk}, (⟨b6, .cells #[.map (some gm)] 88 (0, 0)⟩ : Blk) ∈ M → Rd I M (⟨b6, 0, none⟩ : Addr) 1 [.map (some gm)] := fun hM => ⟨rfl, _, _, _, .inr ⟨_, hM, rfl, rfl⟩, rfl, rfl⟩
  have rd5 : ∀ {M : List Blk}, (⟨b5, .cells #[.slice (some ⟨bl, 0, none⟩) g.n g.n] 34 (0, 0)⟩ : Blk) ∈ M → Rd I M (⟨b5, 0, none⟩ : Addr) 1 [.slice (some ⟨bl, 0, none⟩) g.n g.n] := fun hM => ⟨rfl, _, _, _, .inr ⟨_, hM, rfl, rfl⟩, rfl, rfl⟩
  refine LoadOb.mk _ (rd1 (by simp [ofM])) ?_
  refine LoopOb.inv (ι := Nat × List Fl) (fun x => { fl := [(0, .val (ptr b1)), (1, .val (ptr b6)), (2, .val (ptr b5)), (4, .val (.bool (decide (x.2 ≠ l0)))), (9, .val (.slice g.a g.n g.c)), (10, .val (.int .i64 g.n)), (11, .val (.int .i64 x.1))], gi := I, mi := ofM b6 gm b5 bl b1 g x.2 })
    (fun x => x.1 ≤ g.n ∧ PreF g.ds x.2 ∧ LeL l0 x.2 ∧ roundGo (placesL g.ds) 0 g.ds l0 = roundGo (placesL g.ds) x.1 (g.ds.drop x.1) x.2) (fun x => g.n - x.1) ?_ ?_
  · refine ⟨(0, l0), ⟨Nat.zero_le _, hl0, LeL.refl _, rfl⟩, .refl, .cons .refl (.cons .refl (.cons .refl (.cons ?_ (.cons .refl (.cons .refl (.cons .refl .nil)))))), .nil⟩
    exact sv_lit (by simp)
  rintro ⟨i, l⟩ ⟨hi, hP, hle, hgo⟩
  simp only at hi hP hle hgo
  have hll := hP.len
  refine CondOb.mk (fun h => ?_) (fun h => ?_)
  rotate_left
  · have hge : i = g.n := by have : ¬ (i : Int) < (g.n : Int) := of_decide_eq_false h; omega
    rw [List.drop_eq_nil_of_le (by omega), roundGo] at hgo
    exact ⟨_, _, .refl, by rw [hgo], rfl, by rw [hgo]⟩
  have hlt : i < g.n := by have : (i : Int) < (g.n : Int) := of_decide_eq_true h; omega
  have hlt' : i < g.ds.length := by omega
  have hil : i < l.length := by omega
  obtain ⟨ad, had, hrd⟩ := hg.rs.row Df.cells_len hlt hlt'
  have hdm := List.getElem_mem hlt'
  have hd := hg.ds _ hdm
  have hr := hm.right _ hdm
  have hca := called_of (hm.named _ hdm)
  rw [show g.ds.length = l.length from hll.symm] at hca
  obtain ⟨hP', hle'⟩ := hP.step hlt'
  have hgo' : roundGo (placesL g.ds) 0 g.ds l0 = roundGo (placesL g.ds) (i + 1) (g.ds.drop (i + 1)) (l.set i (bodyF (placesL g.ds) l g.ds[i])) := by
    rw [hgo, List.drop_eq_getElem_cons hlt', roundGo]
  have hbody : bodyF (placesL g.ds) l g.ds[i] = (nodesF (placesL g.ds) l g.ds[i].t.ns []).getD g.ds[i].t.root.toNat fl0 := rfl
  generalize bodyF (placesL g.ds) l g.ds[i] = f at hP' hle' hgo' hbody
  generalize g.ds[i] = d at hrd hd hr hca hbody
  have hroot := right_root hr
  have htn := hd.t.n
  have hnl := nodesF_len (placesL g.ds) l d.t.ns []
  simp only [List.length_nil, Nat.zero_add] at hnl
  have hrl : d.t.root.toNat < (nodesF (placesL g.ds) l d.t.ns []).length := by omega
  have hfe : (nodesF (placesL g.ds) l d.t.ns [])[d.t.root.toNat] = f := by
    rw [hbody]
    simp [List.getD_eq_getElem?_getD, hrl]
  have hspec := fnodes_spec (M0 := [flRow bl l]) (ln := l.length) (lc := g.n) hd.t hr hgm (flRow_at (I := I) (List.mem_singleton.2 rfl)) hca
  rw [show l.length = g.n by omega] at hspec
  refine IdxOb.mk ad i had rfl hlt ?_
  refine LoadOb.mk _ (hrd _) ?_
  have hlf : l.getD i fl0 = l[i] := by simp [List.getD_eq_getElem?_getD, hil]
  have more : (!decide (f = l[i])) = true → decide (l.set i f ≠ l0) = true := fun h => by
    have hne : f ≠ l[i] := by simpa using h
    rw [decide_eq_true_eq]
    intro e
    have e2 : l.set i f = l := by
      refine LeL.antisymm ?_ hle'
      rw [e]
      exact hle
    have h3 := set_getD l i i f hil
    rw [e2, if_pos rfl, hlf] at h3
    exact hne h3.symm
  have same : (!decide (f = l[i])) = false → l.set i f = l := fun h => by
    have he : f = l[i] := by simpa using h
    rw [he]
    exact List.set_getElem_self hil
  refine CodeOb.draw TryzEOK rfl rfl rfl ?_
  refine LoadOb.mk _ (rd6 (by simp [ofM])) ?_
  refine LoadOb.mk _ (rd5 (by simp [ofM])) ?_
  refine ⟨?_, ?_⟩
  · refine PCallOb.mkR [flRow bl l] [⟨b6, .cells #[.map (some gm)] 88 (0, 0)⟩, ⟨b5, .cells #[.slice (some ⟨bl, 0, none⟩) g.n g.n] 34 (0, 0)⟩, ⟨b1, .cells #[.slice g.a g.n g.c] 24 (0, 0)⟩] _ (perm_at2 ..) hspec (fun v I' M' h x hx => by obtain ⟨-, b, -, rfl⟩ := h; exact .tail _ hx) ?_
    rintro v I2 M2 - ⟨rfl, b, rfl, rfl⟩
    refine IdxOb.mk ⟨b, 0, none⟩ d.t.root.toNat rfl (by omega) (by omega) ?_
    refine LoadOb.mk _ (flRow_rd (.head _) hrl) ?_
    rw [hfe]
    refine AllocOb.mk fun b7 hb7 hbM7 => ?_
    refine StoreOb.to [] [flRow b (nodesF (placesL g.ds) l d.t.ns []), flRow bl l, ⟨b6, .cells #[.map (some gm)] 88 (0, 0)⟩, ⟨b5, .cells #[.slice (some ⟨bl, 0, none⟩) g.n g.n] 34 (0, 0)⟩, ⟨b1, .cells #[.slice g.a g.n g.c] 24 (0, 0)⟩] _ _ rfl rfl rfl rfl f.cells rfl ?_
    refine CodeOb.draw TryzEOK rfl rfl rfl ?_
    refine LoadOb.mk f.cells (blk_rd0 (by simp)) ?_
    refine LoadOb.mk _ (rd5 (by simp)) ?_
    refine IdxOb.mk ⟨bl, 0, none⟩ i rfl rfl hlt ?_
    refine LoadOb.mk _ (flRow_rd (by simp) hil) ?_
    refine BinOb.neF (p := f) (q := l[i]) ?_
    refine CondOb.mk (fun h => ?_) (fun h => ?_)
    · refine LoadOb.mk _ (rd5 (by simp)) ?_
      refine LoadOb.mk f.cells (blk_rd0 (by simp)) ?_
      refine IdxOb.mk ⟨bl, 0, none⟩ i rfl rfl hlt ?_
      refine StoreOb.addTo [(⟨b7, .cells f.cells.toArray 51 (0, 0)⟩ : Blk), flRow b (nodesF (placesL g.ds) l d.t.ns [])] [⟨b6, .cells #[.map (some gm)] 88 (0, 0)⟩, ⟨b5, .cells #[.slice (some ⟨bl, 0, none⟩) g.n g.n] 34 (0, 0)⟩, ⟨b1, .cells #[.slice g.a g.n g.c] 24 (0, 0)⟩] (l.flatMap Fl.cells) _ rfl (ble_row hil) rfl ((l.set i f).flatMap Fl.cells) (by rw [Nat.zero_add]; exact flRow_set l i hil f) ?_
      refine ArithOb.mk _ (next_wr (i := i) (by omega)) ?_
      refine ⟨(i + 1, l.set i f), ⟨⟨by simp only; omega, hP', hle.trans hle', hgo'⟩, by simp only; omega⟩, .sub (M1 := [flRow bl (l.set i f), ⟨b6, .cells #[.map (some gm)] 88 (0, 0)⟩, ⟨b5, .cells #[.slice (some ⟨bl, 0, none⟩) g.n g.n] 34 (0, 0)⟩, ⟨b1, .cells #[.slice g.a g.n g.c] 24 (0, 0)⟩]) (by exact .cons _ (.cons _ (.refl _))) (.perm (perm_at2 ..).symm .refl), .cons .refl (.cons .refl (.cons .refl (.cons (sv_lit (more h).symm) (.cons .refl (.cons .refl (.cons .refl .nil)))))), .nil⟩
    · have he : l.set i f = l := same h
      rw [he] at hgo'
      refine ArithOb.mk _ (next_wr (i := i) (by omega)) ?_
      exact ⟨(i + 1, l), ⟨⟨by simp only; omega, hP, hle, hgo'⟩, by simp only; omega⟩, .sub (M1 := [flRow bl l, ⟨b6, .cells #[.map (some gm)] 88 (0, 0)⟩, ⟨b5, .cells #[.slice (some ⟨bl, 0, none⟩) g.n g.n] 34 (0, 0)⟩, ⟨b1, .cells #[.slice g.a g.n g.c] 24 (0, 0)⟩]) (by exact .cons _ (.cons _ (.refl _))) (.perm (perm_at2 ..).symm .refl), .cons .refl (.cons .refl (.cons .refl (.cons .refl (.cons .refl (.cons .refl (.cons .refl .nil)))))), .nil⟩
  · refine AllocOb.mk fun b7 hb7 hbM7 => ?_
    refine PCallOb.mkR [flRow bl l] [(⟨b7, .cells fl0.cells.toArray 51 (0, 0)⟩ : Blk), ⟨b6, .cells #[.map (some gm)] 88 (0, 0)⟩, ⟨b5, .cells #[.slice (some ⟨bl, 0, none⟩) g.n g.n] 34 (0, 0)⟩, ⟨b1, .cells #[.slice g.a g.n g.c] 24 (0, 0)⟩] _ (perm_at3 ..) hspec (fun v I' M' h x hx => by obtain ⟨-, b, -, rfl⟩ := h; exact .tail _ hx) ?_
    rintro v I2 M2 - ⟨rfl, b, rfl, rfl⟩
    refine IdxOb.mk ⟨b, 0, none⟩ d.t.root.toNat rfl (by omega) (by omega) ?_
    refine LoadOb.mk _ (flRow_rd (.head _) hrl) ?_
    rw [hfe]
    refine StoreOb.to [flRow b (nodesF (placesL g.ds) l d.t.ns []), flRow bl l] [⟨b6, .cells #[.map (some gm)] 88 (0, 0)⟩, ⟨b5, .cells #[.slice (some ⟨bl, 0, none⟩) g.n g.n] 34 (0, 0)⟩, ⟨b1, .cells #[.slice g.a g.n g.c] 24 (0, 0)⟩] _ _ rfl rfl rfl rfl f.cells rfl ?_
    refine CodeOb.draw TryzEOK rfl rfl rfl ?_
    refine LoadOb.mk f.cells (blk_rd0 (by simp)) ?_
    refine LoadOb.mk _ (rd5 (by simp)) ?_
    refine IdxOb.mk ⟨bl, 0, none⟩ i rfl rfl hlt ?_
    refine LoadOb.mk _ (flRow_rd (by simp) hil) ?_
    refine BinOb.neF (p := f) (q := l[i]) ?_
    refine CondOb.mk (fun h => ?_) (fun h => ?_)
    · refine LoadOb.mk _ (rd5 (by simp)) ?_
      refine LoadOb.mk f.cells (blk_rd0 (by simp)) ?_
      refine IdxOb.mk ⟨bl, 0, none⟩ i rfl rfl hlt ?_
      refine StoreOb.addTo [flRow b (nodesF (placesL g.ds) l d.t.ns [])] [(⟨b7, .cells f.cells.toArray 51 (0, 0)⟩ : Blk), ⟨b6, .cells #[.map (some gm)] 88 (0, 0)⟩, ⟨b5, .cells #[.slice (some ⟨bl, 0, none⟩) g.n g.n] 34 (0, 0)⟩, ⟨b1, .cells #[.slice g.a g.n g.c] 24 (0, 0)⟩] (l.flatMap Fl.cells) _ rfl (ble_row hil) rfl ((l.set i f).flatMap Fl.cells) (by rw [Nat.zero_add]; exact flRow_set l i hil f) ?_
      refine ArithOb.mk _ (next_wr (i := i) (by omega)) ?_
      refine ⟨(i + 1, l.set i f), ⟨⟨by simp only; omega, hP', hle.trans hle', hgo'⟩, by simp only; omega⟩, .sub (M1 := [flRow bl (l.set i f), ⟨b6, .cells #[.map (some gm)] 88 (0, 0)⟩, ⟨b5, .cells #[.slice (some ⟨bl, 0, none⟩) g.n g.n] 34 (0, 0)⟩, ⟨b1, .cells #[.slice g.a g.n g.c] 24 (0, 0)⟩]) (by exact .cons _ (.cons_cons _ (.cons _ (.refl _)))) (.perm (perm_at2 ..).symm .refl), .cons .refl (.cons .refl (.cons .refl (.cons (sv_lit (more h).symm) (.cons .refl (.cons .refl (.cons .refl .nil)))))), .nil⟩
    · have he : l.set i f = l := same h
      rw [he] at hgo'
      refine ArithOb.mk _ (next_wr (i := i) (by omega)) ?_
      exact ⟨(i + 1, l), ⟨⟨by simp only; omega, hP, hle, hgo'⟩, by simp only; omega⟩, .sub (M1 := [flRow bl l, ⟨b6, .cells #[.map (some gm)] 88 (0, 0)⟩, ⟨b5, .cells #[.slice (some ⟨bl, 0, none⟩) g.n g.n] 34 (0, 0)⟩, ⟨b1, .cells #[.slice g.a g.n g.c] 24 (0, 0)⟩]) (by exact .cons _ (.cons_cons _ (.cons _ (.refl _)))) (.perm (perm_at2 ..).symm .refl), .cons .refl (.cons .refl (.cons .refl (.cons .refl (.cons .refl (.cons .refl (.cons .refl .nil)))))), .nil⟩

set_option maxHeartbeats 4000000 in
theorem FOf_spec {I : GH} {deb : List Int} (hT : Tabs I deb) {g : Gr} (hg : g.ok I) : Spec Tryz.prog 20 [g.val] I [] fun v I' M' => (∀ b o, I b = some o → I' b = some o) ∧
    ((mayG deb g ≠ 0 ∧ v = .tuple #[.slice none 0 0, .int .i64 (mayG deb g)] ∧ M' = []) ∨ (mayG deb g = 0 ∧ ∃ b l, v = .tuple #[.slice (some ⟨b, 0, none⟩) g.n g.n, .int .i64 0] ∧ M' = [flRow b l] ∧ IsFlow g.ds l)) := by
  refine spec_of_V [1, 5, 6] TryzEOK Tryz.func20 rfl rfl rfl ?_
  intro B h0
  have hgn := hg.n
  have hcap := hg.rs.cap
  refine AllocOb.mk fun b1 hb1 hbM1 => ?_
  refine LoadOb.mk [.slice g.a g.n g.c] ⟨rfl, _, _, _, .inr ⟨_, .head _, rfl, rfl⟩, rfl, rfl⟩ ?_
  refine CallOb.mk [] [⟨b1, .cells #[.slice g.a g.n g.c] 24 (0, 0)⟩] _ (.refl _) (May_spec hT hg) ?_
  rintro v I1 M1 - ⟨rfl, hI1, rfl⟩
  refine CondOb.mk (fun h => ?_) (fun h => ?_)
  · have hm : mayG deb g ≠ 0 := by simpa using h
    exact ⟨_, _, .sub (List.nil_sublist _) .refl, hI1, .inl ⟨hm, rfl, rfl⟩⟩
  have hm : mayG deb g = 0 := by simpa using h
  have hM := mayF_of hgn hm
  refine LoadOb.mk _ (blk_rd (b := b1) (cs := [.slice g.a g.n g.c]) (k := 0) (n := 1) (T := 24) (.head _) (by simp)) ?_
  refine MakeOb.mk g.n g.n rfl rfl (Nat.le_refl _) (by show 3 * g.n ≤ _; omega) (by omega) ?_
  refine AllocOb.mk fun bl hbl hbMl => ?_
  have e : rowOf fl0.cells (g.n * 3) = (List.replicate g.ds.length fl0).flatMap Fl.cells := by rw [hgn]; exact rowOf_fl g.n
  refine AllocOb.mk fun b5 hb5 hbM5 => ?_
  refine StoreOb.to [] _ _ _ rfl rfl rfl rfl [.slice (some ⟨bl, 0, none⟩) g.n g.n] rfl ?_
  refine LoadOb.mk [.slice g.a g.n g.c] ⟨rfl, _, _, _, .inr ⟨_, .tail _ (.tail _ (.head _)), rfl, rfl⟩, rfl, rfl⟩ ?_
  refine CallOb.mk [] _ _ (.refl _) (places_spec (hg.mono hI1)) ?_
  rintro v I2 M2 - ⟨hI2, rfl, gm, rfl, hgm⟩
  refine AllocOb.mk fun b6 hb6 hbM6 => ?_
  refine StoreOb.to [] _ _ _ rfl rfl rfl rfl [.map (some gm)] rfl ?_
  refine LoopOb.inv (ι := List Fl) (fun l => { fl := [(5, .val (ptr b5)), (7, .val (.func (.func 51) #[] #[ptr b1, ptr b6, ptr b5]))], gi := I2, mi := ofM b6 gm b5 bl b1 g l }) (PreF g.ds) offs ?_ ?_
  · refine ⟨List.replicate g.ds.length fl0, .start g.ds, ?_, .cons .refl (.cons .refl .nil), .nil⟩
    simp only [ofM, flRow]
    rw [← e]
    exact .refl
  intro l hl
  refine CallOb.mk (ofM b6 gm b5 bl b1 g l) [] _ (.refl _) (Of1_spec ((hg.mono hI1).mono hI2) hM hgm hl) ?_
  rintro v I3 M3 - ⟨rfl, rfl, rfl⟩
  obtain ⟨r1, r2, -⟩ := roundGo_pre g.ds [] rfl hl
  refine CondOb.mk (fun h => ?_) (fun h => ?_)
  · exact ⟨_, ⟨r1, offs_lt r2 (of_decide_eq_true h)⟩, .refl, .cons .refl (.cons .refl .nil), .nil⟩
  · have hf : roundGo (placesL g.ds) 0 g.ds l = l := by
      have := of_decide_eq_false h
      exact Classical.not_not.1 this
    rw [hf]
    refine LoadOb.mk [.slice (some ⟨bl, 0, none⟩) g.n g.n] ⟨rfl, _, _, _, .inr ⟨_, .tail _ (.head _), rfl, rfl⟩, rfl, rfl⟩ ?_
    refine ⟨I3, [flRow bl l], .sub (.cons _ (.cons _ (.cons_cons _ (List.nil_sublist _)))) .refl, fun b o h => hI2 _ _ (hI1 _ _ h), .inr ⟨hm, bl, l, rfl, rfl, hl.done hf⟩⟩
end Go.V

/-
  Plain: what is told of trees and grammars hangs on what they hold, not on where it lies. No program in sight.
-/
set_option linter.unusedVariables false
set_option linter.unusedSimpArgs false
namespace Go.V
open Go

def Tr.ct (t : Tr) : Tr := ⟨t.ns.map Nd.ct, none, t.n, 0, t.root⟩
def Df.ct (d : Df) : Df := ⟨d.name, d.t.ct⟩
def Gr.ct (g : Gr) : Gr := ⟨g.ds.map Df.ct, none, g.n, 0⟩

theorem nodesOk_ct : ∀ (ds : List Nd) (i : Nat) (s : List Bool), nodesOk i (ds.map Nd.ct) s = nodesOk i ds s
  | [], i, s => rfl
  | d :: ds, i, s => by
    have h : ∀ s', nodesOk (i + 1) (ds.map Nd.ct) s' = nodesOk (i + 1) ds s' := fun s' => nodesOk_ct ds (i + 1) s'
    rw [List.map_cons, nodesOk, nodesOk]
    simp only [h]
    rfl
theorem right_ct (t : Tr) : right t.ct = right t := by
  unfold right Tr.ct
  simp only [nodesOk_ct, List.length_map]
theorem kindAt_ct (ns : List Nd) (k : Int) : kindAt (ns.map Nd.ct) k = kindAt ns k := by
  unfold kindAt
  rw [List.map_map]
  rfl
theorem normKids_ct (ns : List Nd) (kind : Int) : ∀ ks, normKids (ns.map Nd.ct) kind ks = normKids ns kind ks
  | [] => rfl
  | k :: ks => by rw [normKids, normKids, kindAt_ct, normKids_ct ns kind ks]
theorem normNodes_ct (ns : List Nd) : ∀ ds : List Nd, normNodes (ns.map Nd.ct) (ds.map Nd.ct) = normNodes ns ds
  | [] => rfl
  | d :: ds => by
    have h := normKids_ct ns d.k d.kids
    rw [List.map_cons, normNodes, normNodes, normNodes_ct ns ds]
    show (bif !decide (d.k = 4) && !decide (d.k = 5) then normNodes ns ds else bif normKids (ns.map Nd.ct) d.k d.kids then normNodes ns ds else false) = _
    rw [h]
theorem normal_ct (t : Tr) : normal t.ct = normal t := by
  unfold normal
  rw [right_ct]
  congr 1
  exact normNodes_ct t.ns t.ns
theorem depthsFrom_ct : ∀ (ds : List Nd) (i : Nat) (dp : List Int), depthsFrom i (ds.map Nd.ct) dp = depthsFrom i ds dp
  | [], i, dp => rfl
  | d :: ds, i, dp => by
    rw [List.map_cons, depthsFrom, depthsFrom, depthsFrom_ct ds]
    rfl
theorem depth_ct (t : Tr) : depth t.ct = depth t := by
  unfold depth
  rw [right_ct]
  simp only [Tr.ct, depthsFrom_ct, List.length_map]
theorem mayTree_ct (t : Tr) : mayTree t.ct = mayTree t := by
  unfold mayTree
  rw [right_ct, depth_ct]
  rfl
theorem tab_ct {α : Type} {z : α} {f g : Nd → (Int → α) → α} (h : ∀ d q, f d.ct q = g d q) : ∀ (ds : List Nd) (acc : List α), tab z f (ds.map Nd.ct) acc = tab z g ds acc
  | [], acc => rfl
  | d :: ds, acc => by rw [List.map_cons, tab, tab, h, tab_ct h ds]
theorem textOf_ct (deb : List Int) (ns : List Nd) (k : Int) : textOf deb (ns.map Nd.ct) k = textOf deb ns k := by
  unfold textOf tabOf
  rw [tab_ct (g := nodeT deb ns) (fun d q => ?_)]
  show aheadB deb d ++ (kidsT (sepOf d) (fun k => paren (wrapsV d.k (kindAt (ns.map Nd.ct) k)) (q k)) false d.kids ++ behindB d) = _
  simp only [kindAt_ct]
  rfl
theorem treeB_ct (deb : List Int) (t : Tr) : treeB deb t.ct = treeB deb t := by
  unfold treeB
  rw [right_ct]
  have : textOf deb t.ct.ns t.ct.root = textOf deb t.ns t.root := textOf_ct deb t.ns t.root
  rw [this]
theorem defB_ct (deb : List Int) (d : Df) : defB deb d.ct = defB deb d := by
  unfold defB
  have : treeB deb d.ct.t = treeB deb d.t := treeB_ct deb d.t
  rw [this]
  rfl
theorem gramB_ct (deb : List Int) : ∀ (ds : List Df) (acc : List UInt8), gramB deb (ds.map Df.ct) acc = gramB deb ds acc
  | [], acc => rfl
  | d :: ds, acc => by rw [List.map_cons, gramB, gramB, defB_ct, gramB_ct deb ds]
theorem nodesG_ct (g : Gr) : nodesG g.ct = nodesG g := by
  unfold nodesG Gr.ct
  rw [List.map_map]
  congr 1
  refine List.map_congr_left fun d _ => ?_
  show sizeT d.t.ct = sizeT d.t
  unfold sizeT
  rw [right_ct]
  rfl
theorem all_ct {q : Df → Bool} (h : ∀ d, q d.ct = q d) (ds : List Df) : (ds.map Df.ct).all q = ds.all q := by
  rw [List.all_map]
  congr 1
  funext d
  exact h d
theorem largeG_ct (deb : List Int) (g : Gr) : largeG deb g.ct = largeG deb g := by
  unfold largeG
  rw [nodesG_ct]
  have h1 : (g.ct.ds.all fun d => mayTree d.t) = g.ds.all fun d => mayTree d.t := all_ct (fun d => mayTree_ct d.t) g.ds
  have h2 : gramB deb g.ct.ds [] = gramB deb g.ds [] := gramB_ct deb g.ds []
  rw [h1, h2]
  rfl
theorem okDefs_ct (ds : List Df) : okDefs (ds.map Df.ct) = okDefs ds := all_ct (q := fun d => mayName d.name && normal d.t) (fun d => by
  show (mayName d.name && normal d.t.ct) = _
  rw [normal_ct]) ds
theorem dups_ct : ∀ (ds : List Df) (acc : List (ByteArray × Int)) (i : Nat), dups acc i (ds.map Df.ct) = dups acc i ds
  | [], acc, i => rfl
  | d :: ds, acc, i => by
    rw [List.map_cons, dups, dups]
    show (bif (lookM d.name acc).isSome then none else dups (acc ++ [(d.name, (i : Int))]) (i + 1) (ds.map Df.ct)) = _
    rw [dups_ct ds]
theorem pairs_ct : ∀ (ds : List Df) (i : Nat), nodePairs i (ds.map Df.ct) = (nodePairs i ds).map fun p => (p.1, p.2.ct)
  | [], i => rfl
  | d :: ds, i => by
    rw [List.map_cons, nodePairs, nodePairs, pairs_ct ds, List.map_append, List.map_map]
    show (d.t.ns.map Nd.ct).map (fun n => (i, n)) ++ _ = _
    rw [List.map_map]
    rfl
theorem allNamed_ct (acc : List (ByteArray × Int)) (ds : List Df) : allNamed acc (ds.map Df.ct) = allNamed acc ds := by
  unfold allNamed
  rw [pairs_ct, List.all_map]
  rfl
theorem mayG_ct (deb : List Int) (g : Gr) : mayG deb g.ct = mayG deb g := by
  unfold mayG
  rw [largeG_ct]
  have h1 : okDefs g.ct.ds = okDefs g.ds := okDefs_ct g.ds
  have h2 : dups [] 0 g.ct.ds = dups [] 0 g.ds := dups_ct g.ds [] 0
  have h3 : ∀ acc, allNamed acc g.ct.ds = allNamed acc g.ds := fun acc => allNamed_ct acc g.ds
  rw [h1, h2]
  simp only [h3]
  rfl

/-! ### Subtrees -/
theorem nodeAt_ct (ns : List Nd) (j : Nat) : (nodeAt (ns.map Nd.ct) j).ct = (nodeAt ns j).ct := by
  unfold nodeAt
  simp only [List.getD_eq_getElem?_getD, List.getElem?_map]
  cases ns[j]? <;> rfl
theorem kids_ct (ns : List Nd) (j : Nat) : (nodeAt (ns.map Nd.ct) j).kids = (nodeAt ns j).kids := by
  have h := congrArg Nd.kids (nodeAt_ct ns j)
  exact h
theorem backGo_ct (ns : List Nd) : ∀ (f : Nat) (todo b : List Int), backGo (ns.map Nd.ct) f todo b = backGo ns f todo b
  | 0, todo, b => rfl
  | f + 1, todo, b => by
    unfold backGo
    cases todo.getLast? with
    | none => rfl
    | some n =>
      simp only
      rw [kids_ct, backGo_ct ns f]
theorem withKids_ct (d : Nd) (l : List Int) : d.ct.withKids l = d.withKids l := rfl
theorem subStep_ct (ns : List Nd) : subStep (ns.map Nd.ct) = subStep ns := by
  funext st b
  unfold subStep
  rw [kids_ct, ← withKids_ct (nodeAt (ns.map Nd.ct) b.toNat), nodeAt_ct, withKids_ct]
theorem subC_ct (ns : List Nd) (node : Int) : subC (ns.map Nd.ct) node = subC ns node := by
  unfold subC backOf
  rw [subStep_ct, backGo_ct, List.length_map]

/-! ### Flows -/
theorem nodesF_ct (pl : List (ByteArray × Int)) (fl : List Fl) : ∀ (ds : List Nd) (acc : List Fl), nodesF pl fl (ds.map Nd.ct) acc = nodesF pl fl ds acc
  | [], acc => rfl
  | d :: ds, acc => by
    rw [List.map_cons, nodesF, nodesF, nodesF_ct pl fl ds]
    rfl
theorem namedOk_ct (pl : List (ByteArray × Int)) (ns : List Nd) : namedOk pl (ns.map Nd.ct) = namedOk pl ns := by
  unfold namedOk
  rw [List.all_map]
  rfl
theorem placesGo_ct : ∀ (ds : List Df) (acc : List (ByteArray × Int)) (i : Nat), placesGo acc i (ds.map Df.ct) = placesGo acc i ds
  | [], acc, i => rfl
  | d :: ds, acc, i => by
    rw [List.map_cons, placesGo, placesGo, placesGo_ct ds]
    rfl
theorem placesL_ct (ds : List Df) : placesL (ds.map Df.ct) = placesL ds := placesGo_ct ds [] 0
theorem bodyF_ct (pl : List (ByteArray × Int)) (fl : List Fl) (d : Df) : bodyF pl fl d.ct = bodyF pl fl d := by
  unfold bodyF
  have : nodesF pl fl d.ct.t.ns [] = nodesF pl fl d.t.ns [] := nodesF_ct pl fl d.t.ns []
  rw [this]
  rfl
theorem isFlow_ct {ds : List Df} {l : List Fl} (h : IsFlow ds l) : IsFlow (ds.map Df.ct) l := by
  refine ⟨by rw [h.len, List.length_map], fun i hi => ?_, fun m hm hc => ?_⟩
  · have hi' : i < ds.length := by simpa using hi
    rw [placesL_ct, List.getElem_map, bodyF_ct]
    exact h.fix i hi'
  · refine h.least m (by rw [hm, List.length_map]) fun i hi => ?_
    have := hc i (by simpa using hi)
    rwa [placesL_ct, List.getElem_map, bodyF_ct] at this
theorem nodesP_ct (g : Gr) (fl : List Fl) (t : Tr) : nodesP g.ct fl t.ct = nodesP g fl t := by
  unfold nodesP
  rw [right_ct]
  have h1 : placesL g.ct.ds = placesL g.ds := placesL_ct g.ds
  have h2 : ∀ pl, namedOk pl t.ct.ns = namedOk pl t.ns := fun pl => namedOk_ct pl t.ns
  have h3 : ∀ pl, nodesF pl fl t.ct.ns [] = nodesF pl fl t.ns [] := fun pl => nodesF_ct pl fl t.ns []
  rw [h1, h2, h3]
  rfl
theorem treeP_ct (g : Gr) (fl : List Fl) (t : Tr) : treeP g.ct fl t.ct = treeP g fl t := by
  unfold treeP
  rw [nodesP_ct]
  rfl

/-! ### A tree, by what it holds -/
def trOf (l : List Nd) : Tr := ⟨l, none, l.length, 0, (l.length : Int) - 1⟩
/-- A tree in memory that holds these nodes. -/
structure TC (I : GH) (t : Tr) (l : List Nd) : Prop where
  ok : t.ok I
  ct : t.ns.map Nd.ct = l
  root : t.root = (l.length : Int) - 1
theorem TC.mono {I I' : GH} {t : Tr} {l : List Nd} (h : TC I t l) (hI : ∀ b o, I b = some o → I' b = some o) : TC I' t l := ⟨h.ok.mono hI, h.ct, h.root⟩
theorem TC.len {I : GH} {t : Tr} {l : List Nd} (h : TC I t l) : t.n = l.length := by
  rw [← h.ok.n, ← h.ct, List.length_map]
theorem TC.tr {I : GH} {t : Tr} {l : List Nd} (h : TC I t l) : t.ct = trOf l := by
  unfold Tr.ct trOf
  rw [h.ct, h.root, h.len]
theorem TC.right {I : GH} {t : Tr} {l : List Nd} (h : TC I t l) : right t = right (trOf l) := by rw [← h.tr, right_ct]
theorem TC.leaf {I : GH} {t : Tr} {d : Nd} (ht : t.ok I) (h1 : t.ns = [d]) (h2 : t.root = 0) (hd : d.ct = d) : TC I t [d] := ⟨ht, by rw [h1]; simp [hd], by rw [h2]; rfl⟩
def cleanL (l : List Nd) : List Nd := subC l ((l.length : Int) - 1)
theorem TC.clean {I : GH} {t : Tr} {l : List Nd} (h : TC I t l) : cleanC t = cleanL l := by
  unfold cleanC cleanL
  rw [← subC_ct, h.ct, h.root]
def kidsB (l : List Nd) (m : Nat) : Bool := decide (l.length ≤ m) && l.all fun d => decide (d.kids.length ≤ m)
theorem TC.fit {I : GH} {t : Tr} {l : List Nd} (h : TC I t l) (hk : kidsB l 1000 = true) : Fit t 1000 := by
  simp only [kidsB, Bool.and_eq_true, decide_eq_true_eq, List.all_eq_true] at hk
  have hl := h.len
  refine ⟨fun d hd => ?_, by rw [hl]; omega, by omega⟩
  have hdn := (h.ok.ns d hd).kn
  have : d.ct ∈ l := by rw [← h.ct]; exact List.mem_map.2 ⟨d, hd, rfl⟩
  have := hk.2 _ this
  show d.kn ≤ 1000
  rw [← hdn]
  exact this
end Go.V

/-
  Walks: tree.Set; bonsailaw10.of, grammar, leaf.
-/
set_option linter.unusedVariables false
set_option linter.unusedSimpArgs false
namespace Go.V
open Go Go.Proofs

def cB (c : UInt8) : ByteArray := ⟨#[c]⟩
def nB : ByteArray := ⟨#[]⟩
def setNd (a b c d : Int) : Nd := ⟨1, a, b, c, d, ⟨#[]⟩, 0, 0, none, 0, 0, []⟩
def opNd (k : Int) (s : ByteArray) (lo hi : Int) : Nd := ⟨k, 0, 0, 0, 0, s, lo, hi, none, 0, 0, []⟩
theorem opNd_ok {I : GH} {k : Int} {s : ByteArray} {lo hi : Int} (hk : 0 ≤ k ∧ k < 256) (hs : s.size ≤ 140737488355328) (h1 : i64ok lo) (h2 : i64ok hi) : (opNd k s lo hi).ok I :=
  ⟨hk, u0, u0, u0, u0, by show s.size ≤ _; omega, h1, h2, ⟨rfl, ⟨Nat.le_refl _, by show 0 * 8 ≤ _; omega⟩, .inl rfl⟩, fun x hx => by cases hx⟩
set_option maxRecDepth 20000 in
theorem TSet_spec {I : GH} {a b c d : Int} (ha : u64ok a) (hb : u64ok b) (hc : u64ok c) (hd : u64ok d) : Spec Tryz.prog 47 [.agg #[.int .u64 a, .int .u64 b, .int .u64 c, .int .u64 d]] I [] fun v I' M' => (∀ b o, I b = some o → I' b = some o) ∧ ∃ t : Tr, v = t.val ∧ t.ok I' ∧ t.ns = [setNd a b c d] ∧ t.root = 0 ∧ M' = [] := by
  refine spec_of_V [] TryzEOK Tryz.func47 rfl rfl rfl ?_
  intro B h0
  have hok : (setNd a b c d).ok I := ⟨⟨by show (0 : Int) ≤ 1; decide, by show (1 : Int) < 256; decide⟩, ha, hb, hc, hd, by show (0 : Nat) ≤ _; decide, i0, i0, ⟨rfl, ⟨Nat.le_refl _, by show 0 * 8 ≤ _; omega⟩, .inl rfl⟩, fun x hx => by cases hx⟩
  have hl := leaf_spec (I := I) hok
  have hv : (setNd a b c d).val = .agg #[.int .u8 1, .int .u64 a, .int .u64 b, .int .u64 c, .int .u64 d, .string ⟨#[]⟩, .int .i64 0, .int .i64 0, .slice none 0 0] := rfl
  rw [hv] at hl
  refine CallOb.mk [] [] _ (.refl _) hl ?_
  rintro v I' M' - ⟨hI, t, rfl, ht, h1, h2, rfl⟩
  exact ⟨_, _, .refl, hI, t, rfl, ht, h1, h2, rfl⟩

/-! ### Kids' rows -/
def kidsBlk (b : Nat) (ts : List Tr) : Blk := ⟨b, .cells (ts.flatMap Tr.cells).toArray 37 (0, 0)⟩
theorem kidsBlk_rd {I : GH} {M : List Blk} {b : Nat} {ts : List Tr} (hM : kidsBlk b ts ∈ M) : ∀ j (h : j < ts.length), ∃ ad, some (⟨b, 0, none⟩ : Addr) = some ad ∧ Rd I M (ad.add (j * 2)) 2 ts[j].cells := fun j hj => by
  refine ⟨_, rfl, ?_⟩
  have hl := flat_len Tr.cells 2 (fun _ => rfl) ts
  have h := blk_rd (I := I) (cs := ts.flatMap Tr.cells) (k := j * 2) (n := 2) hM (by rw [hl]; omega)
  rwa [flat_at Tr.cells 2 (fun _ => rfl) ts j hj] at h
def ofB (d : Nd) (ls : List (List Nd)) : Bool := fits d ls.length && (decide (ls.length ≤ 1000) && ls.all fun l => right (trOf l) && kidsB l 1000)
def ofL (d : Nd) (ls : List (List Nd)) : List Nd := ofNds d (ls.map cleanL)
theorem of10_spec {I : GH} {M0 : List Blk} {d : Nd} (hd : d.ok I) {ts : List Tr} {ls : List (List Nd)} (hL : ∀ j (h : j < ts.length) (h' : j < ls.length), TC I ts[j] ls[j]) (hlen : ts.length = ls.length) {ka : Option Addr} {cc : Nat}
    (hrd : ∀ j (h : j < ts.length), ∃ ad, ka = some ad ∧ Rd I M0 (ad.add (j * 2)) 2 ts[j].cells) (hchk : ofB d ls = true) :
    Spec Tryz.prog 44 [d.val, .slice ka ts.length cc] I M0 fun v I' M' => (∀ b o, I b = some o → I' b = some o) ∧ M' = M0 ∧ ∃ t' : Tr, v = t'.val ∧ TC I' t' (ofL d ls) := by
  simp only [ofB, Bool.and_eq_true, decide_eq_true_eq, List.all_eq_true] at hchk
  obtain ⟨hf, hl, hr⟩ := hchk
  have each : ∀ t ∈ ts, ∃ l ∈ ls, TC I t l := fun t ht => by
    obtain ⟨j, hj, rfl⟩ := List.getElem_of_mem ht
    exact ⟨ls[j]'(by omega), List.getElem_mem _, hL j hj (by omega)⟩
  have hcl : ts.map cleanC = ls.map cleanL := by
    apply List.ext_getElem (by simp [hlen])
    intro j h1 h2
    simp only [List.getElem_map]
    exact (hL j (by simpa using h1) (by simpa using h2)).clean
  have hspec := ROf_gen (W := 1000) hd (L := ts) (ka := ka) (cc := cc) hrd (fun t ht => by
    obtain ⟨l, hl1, hl2⟩ := each t ht
    exact ⟨hl2.ok, by rw [hl2.right]; exact (hr l hl1).1⟩) (fun t ht => by
    obtain ⟨l, hl1, hl2⟩ := each t ht
    exact hl2.fit (hr l hl1).2) (by
    have h1 := sum_take_le (fun t : Tr => t.n) 1000 ts (fun t ht => by
      obtain ⟨l, hl1, hl2⟩ := each t ht
      have h2 := (hr l hl1).2
      simp only [kidsB, Bool.and_eq_true, decide_eq_true_eq] at h2
      rw [hl2.len]
      exact h2.1)
    have : (1000 : Nat) * ts.length ≤ 1000 * 1000 := Nat.mul_le_mul_left _ (by omega)
    omega) (by omega) (by rw [hlen]; exact hf)
  refine spec_of_V [] TryzEOK Tryz.func44 rfl rfl rfl ?_
  intro B h0
  refine CallOb.mk M0 [] _ perm_nil hspec ?_
  rintro v I' M' - ⟨hI, rfl, t', rfl, h1, h2, h3⟩
  rw [List.append_nil]
  refine ⟨_, _, .refl, hI, rfl, t', rfl, h1, ?_, ?_⟩
  · rw [h3, hcl]
    rfl
  · rw [h2]
    unfold ofL
    rw [← hcl, ← h3, List.length_map]
theorem grammar10_spec {I : GH} {M : List Blk} {a : Option Addr} {n c : Nat} : Spec Tryz.prog 48 [.slice a n c] I M fun v I' M' => v = .agg #[.slice a n c] ∧ I' = I ∧ M' = M := by
  refine spec_of_V [] TryzEOK Tryz.func48 rfl rfl rfl ?_
  intro B h0
  exact ⟨_, _, .refl, rfl, rfl, rfl⟩

/-- A rule's row, of the function's own. -/
def defsBlk (b : Nat) (ds : List Df) : Blk := ⟨b, .cells (ds.flatMap Df.cells).toArray 62 (0, 0)⟩
theorem defsBlk_gr {I : GH} {b n : Nat} {ds : List Df} (hn : ds.length = n) (hb : n ≤ 1000) (hI : I b = none) (h : ∀ d ∈ ds, d.ok I) : Gr.ok (ins I b (defsBlk b ds).obj) ⟨ds, some ⟨b, 0, none⟩, n, n⟩ := by
  subst hn
  refine ⟨⟨flat_len _ 3 Df.cells_len ds, ⟨Nat.le_refl _, by simp only; omega⟩, .inr ⟨_, rfl, rfl, _, _, _, ins_self .., ?_⟩⟩, fun d hd => (h d hd).mono (ins_le hI)⟩
  simp only [List.drop_zero]
  exact List.take_of_length_le (by rw [flat_len _ 3 Df.cells_len ds]; exact Nat.le_refl _)

/-- What comes of an expression, in a grammar of one rule that has no flow. -/
def xPl : List (ByteArray × Int) := [(cB 120, 0)]
def leafV (l : List Nd) : Fl := bif right (trOf l) && namedOk xPl l then (nodesF xPl [fl0] l []).getD ((l.length : Int) - 1).toNat fl0 else fl0
theorem leafV_eq {I : GH} {t : Tr} {l : List Nd} (h : TC I t l) (g : Gr) (hn : g.n = 1) (hp : placesL g.ds = xPl) : (treeP g [fl0] t).getD fl0 = leafV l := by
  unfold treeP nodesP leafV
  rw [hn, hp, h.right, ← h.ct, namedOk_ct]
  simp only [List.length_cons, List.length_nil, decide_true, Bool.true_and]
  rw [h.ct]
  cases hb : right (trOf l) && namedOk xPl t.ns with
  | false => rfl
  | true =>
    simp only [cond_true, Option.map_some, Option.getD_some]
    rw [← h.root, ← nodesF_ct xPl [fl0] t.ns, h.ct]

set_option maxRecDepth 100000 in
set_option maxHeartbeats 8000000 in
theorem leaf10_spec {I : GH} (hT : Tabs I debL) {t : Tr} {l : List Nd} (ht : TC I t l) : Spec Tryz.prog 49 [t.val] I [] fun v I' M' => (∀ b o, I b = some o → I' b = some o) ∧ M' = [] ∧ v = (leafV l).val := by
  refine spec_of_V [] TryzEOK Tryz.func49 rfl rfl rfl ?_
  intro B h0
  refine CodeOb.drawC TryzEOK rfl rfl rfl (ι := Nat × GH) (fun x => { fl := [(2, .ref 2 0), (3, .val (ptr x.1))], cl := [(2, fl0.cells)], gi := x.2, mi := [⟨x.1, .cells (leafV l).cells.toArray 51 (0, 0)⟩] }) (fun x => ∀ b o, I b = some o → x.2 b = some o) ?_ ?_
  rotate_left
  · rintro ⟨b3, J⟩ hJ
    refine LoadOb.mk (leafV l).cells (blk_rd0 (.head _)) ?_
    exact ⟨_, _, .sub (List.nil_sublist _) .refl, hJ, rfl, rfl⟩
  refine ⟨?_, ?_, ?_⟩
  · refine PCallOb.mk _ (Rule_spec (s := cB 120) (by decide)) ?_
    rintro v I1 M1 hI1 ⟨-, tx, rfl, htx, nx, rx, rfl⟩
    refine ⟨?_, ?_, ?_⟩
    · refine AllocOb.mk fun b2 hb2 hbM2 => ?_
      refine ⟨?_, ?_, ?_⟩
      · refine PCallOb.mk _ (grammar10_spec (M := [])) ?_
        rintro v I2 M2 - ⟨rfl, rfl, rfl⟩
        refine ⟨?_, ?_⟩
        · refine MakeOb.mk 1 1 rfl rfl (Nat.le_refl _) (by decide) (by decide) ?_
          refine AllocOb.mk fun b4 hb4 hbM4 => ?_
          refine ⟨?_, ?_⟩
          · refine CallOb.fa fun hfa => ?_
            have hb2 := hfa.d (defsBlk b2 [⟨cB 120, tx⟩]) (show _ ∈ ([flRow b4 [fl0], defsBlk b2 [⟨cB 120, tx⟩]] : List Blk) by simp)
            have hins := ins_le (o := (defsBlk b2 [⟨cB 120, tx⟩]).obj) hb2
            have hg : Gr.ok _ ⟨[⟨cB 120, tx⟩], some ⟨b2, 0, none⟩, 1, 1⟩ := defsBlk_gr rfl (by decide) hb2 (fun d hd => by simp only [List.mem_singleton] at hd; subst hd; exact ⟨(by decide : (cB 120).size ≤ 140737488355328), htx⟩)
            have hsp := FTree_spec (M0 := [flRow b4 [fl0]]) (lc := 1) ((hT.mono hI1).mono hins) hg ((ht.mono hI1).mono hins).ok (flRow_at (l := [fl0]) (List.mem_singleton.2 rfl))
            rw [leafV_eq ((ht.mono hI1).mono hins) ⟨[⟨cB 120, tx⟩], some ⟨b2, 0, none⟩, 1, 1⟩ rfl rfl] at hsp
            refine CallOb.mkW _ [flRow b4 [fl0]] [] _ (.perm (M1 := defsBlk b2 [⟨cB 120, tx⟩] :: ([flRow b4 [fl0]] ++ [])) (by first | exact .refl _ | exact .swap _ _ _ | exact (.cons _ (.swap _ _ _)) | exact (.trans (.swap _ _ _) (.cons _ (.swap _ _ _))) | exact (.trans (.cons _ (.swap _ _ _)) (.swap _ _ _)) | exact .trans (.swap _ _ _) (.trans (.cons _ (.swap _ _ _)) (.swap _ _ _))) (.prom rfl (by simp) .refl)) hsp ?_
            rintro v I3 M3 hI3 - ⟨-, rfl, rfl⟩
            refine AllocOb.mk fun b3 hb3 hbM3 => ?_
            refine StoreOb.to [] _ _ _ rfl rfl rfl rfl (leafV l).cells rfl ?_
            exact ⟨(b3, _), fun b o h => hI3 _ _ (hins _ _ (hI1 _ _ (h))), .sub (.cons_cons _ (List.nil_sublist _)) .refl, .cons .refl (.cons .refl .nil), .cons rfl .nil⟩
          · refine AllocOb.mk fun b3 hb3 hbM3 => ?_
            refine PCallOb.fa fun hfa => ?_
            have hb2 := hfa.d (defsBlk b2 [⟨cB 120, tx⟩]) (show _ ∈ ([(⟨b3, .cells fl0.cells.toArray 51 (0, 0)⟩ : Blk), flRow b4 [fl0], defsBlk b2 [⟨cB 120, tx⟩]] : List Blk) by simp)
            have hins := ins_le (o := (defsBlk b2 [⟨cB 120, tx⟩]).obj) hb2
            have hg : Gr.ok _ ⟨[⟨cB 120, tx⟩], some ⟨b2, 0, none⟩, 1, 1⟩ := defsBlk_gr rfl (by decide) hb2 (fun d hd => by simp only [List.mem_singleton] at hd; subst hd; exact ⟨(by decide : (cB 120).size ≤ 140737488355328), htx⟩)
            have hsp := FTree_spec (M0 := [flRow b4 [fl0]]) (lc := 1) ((hT.mono hI1).mono hins) hg ((ht.mono hI1).mono hins).ok (flRow_at (l := [fl0]) (List.mem_singleton.2 rfl))
            rw [leafV_eq ((ht.mono hI1).mono hins) ⟨[⟨cB 120, tx⟩], some ⟨b2, 0, none⟩, 1, 1⟩ rfl rfl] at hsp
            refine PCallOb.mkP b2 (defsBlk b2 [⟨cB 120, tx⟩]).obj [flRow b4 [fl0]] [(⟨b3, .cells fl0.cells.toArray 51 (0, 0)⟩ : Blk)] _ (by first | exact .refl _ | exact .swap _ _ _ | exact (.cons _ (.swap _ _ _)) | exact (.trans (.swap _ _ _) (.cons _ (.swap _ _ _))) | exact (.trans (.cons _ (.swap _ _ _)) (.swap _ _ _)) | exact .trans (.swap _ _ _) (.trans (.cons _ (.swap _ _ _)) (.swap _ _ _))) (by simp) hsp (fun v I' M' h x hx => by rw [h.2.1]; exact hx) ?_
            rintro v I3 M3 hI3 - ⟨-, rfl, rfl⟩
            refine StoreOb.to [flRow b4 [fl0]] _ _ _ rfl rfl rfl rfl (leafV l).cells rfl ?_
            exact ⟨(b3, _), fun b o h => hI3 _ _ (hins _ _ (hI1 _ _ (h))), .sub (.cons _ (.cons_cons _ (List.nil_sublist _))) .refl, .cons .refl (.cons .refl .nil), .cons rfl .nil⟩
        · refine AllocOb.mk fun b3 hb3 hbM3 => ?_
          refine MakeOb.mk 1 1 rfl rfl (Nat.le_refl _) (by decide) (by decide) ?_
          refine AllocOb.mk fun b4 hb4 hbM4 => ?_
          refine PCallOb.fa fun hfa => ?_
          have hb2 := hfa.d (defsBlk b2 [⟨cB 120, tx⟩]) (show _ ∈ ([flRow b4 [fl0], (⟨b3, .cells fl0.cells.toArray 51 (0, 0)⟩ : Blk), defsBlk b2 [⟨cB 120, tx⟩]] : List Blk) by simp)
          have hins := ins_le (o := (defsBlk b2 [⟨cB 120, tx⟩]).obj) hb2
          have hg : Gr.ok _ ⟨[⟨cB 120, tx⟩], some ⟨b2, 0, none⟩, 1, 1⟩ := defsBlk_gr rfl (by decide) hb2 (fun d hd => by simp only [List.mem_singleton] at hd; subst hd; exact ⟨(by decide : (cB 120).size ≤ 140737488355328), htx⟩)
          have hsp := FTree_spec (M0 := [flRow b4 [fl0]]) (lc := 1) ((hT.mono hI1).mono hins) hg ((ht.mono hI1).mono hins).ok (flRow_at (l := [fl0]) (List.mem_singleton.2 rfl))
          rw [leafV_eq ((ht.mono hI1).mono hins) ⟨[⟨cB 120, tx⟩], some ⟨b2, 0, none⟩, 1, 1⟩ rfl rfl] at hsp
          refine PCallOb.mkP b2 (defsBlk b2 [⟨cB 120, tx⟩]).obj [flRow b4 [fl0]] [(⟨b3, .cells fl0.cells.toArray 51 (0, 0)⟩ : Blk)] _ (by first | exact .refl _ | exact .swap _ _ _ | exact (.cons _ (.swap _ _ _)) | exact (.trans (.swap _ _ _) (.cons _ (.swap _ _ _))) | exact (.trans (.cons _ (.swap _ _ _)) (.swap _ _ _)) | exact .trans (.swap _ _ _) (.trans (.cons _ (.swap _ _ _)) (.swap _ _ _))) (by simp) hsp (fun v I' M' h x hx => by rw [h.2.1]; exact hx) ?_
          rintro v I3 M3 hI3 - ⟨-, rfl, rfl⟩
          refine StoreOb.to [flRow b4 [fl0]] _ _ _ rfl rfl rfl rfl (leafV l).cells rfl ?_
          exact ⟨(b3, _), fun b o h => hI3 _ _ (hins _ _ (hI1 _ _ (h))), .sub (.cons _ (.cons_cons _ (List.nil_sublist _))) .refl, .cons .refl (.cons .refl .nil), .cons rfl .nil⟩
      · refine MakeOb.mk 1 1 rfl rfl (Nat.le_refl _) (by decide) (by decide) ?_
        refine AllocOb.mk fun b4 hb4 hbM4 => ?_
        refine ⟨?_, ?_⟩
        · refine PCallOb.mk _ (grammar10_spec (M := [])) ?_
          rintro v I2 M2 - ⟨rfl, rfl, rfl⟩
          refine ⟨?_, ?_⟩
          · refine CallOb.fa fun hfa => ?_
            have hb2 := hfa.d (defsBlk b2 [⟨cB 120, tx⟩]) (show _ ∈ ([flRow b4 [fl0], defsBlk b2 [⟨cB 120, tx⟩]] : List Blk) by simp)
            have hins := ins_le (o := (defsBlk b2 [⟨cB 120, tx⟩]).obj) hb2
            have hg : Gr.ok _ ⟨[⟨cB 120, tx⟩], some ⟨b2, 0, none⟩, 1, 1⟩ := defsBlk_gr rfl (by decide) hb2 (fun d hd => by simp only [List.mem_singleton] at hd; subst hd; exact ⟨(by decide : (cB 120).size ≤ 140737488355328), htx⟩)
            have hsp := FTree_spec (M0 := [flRow b4 [fl0]]) (lc := 1) ((hT.mono hI1).mono hins) hg ((ht.mono hI1).mono hins).ok (flRow_at (l := [fl0]) (List.mem_singleton.2 rfl))
            rw [leafV_eq ((ht.mono hI1).mono hins) ⟨[⟨cB 120, tx⟩], some ⟨b2, 0, none⟩, 1, 1⟩ rfl rfl] at hsp
            refine CallOb.mkW _ [flRow b4 [fl0]] [] _ (.perm (M1 := defsBlk b2 [⟨cB 120, tx⟩] :: ([flRow b4 [fl0]] ++ [])) (by first | exact .refl _ | exact .swap _ _ _ | exact (.cons _ (.swap _ _ _)) | exact (.trans (.swap _ _ _) (.cons _ (.swap _ _ _))) | exact (.trans (.cons _ (.swap _ _ _)) (.swap _ _ _)) | exact .trans (.swap _ _ _) (.trans (.cons _ (.swap _ _ _)) (.swap _ _ _))) (.prom rfl (by simp) .refl)) hsp ?_
            rintro v I3 M3 hI3 - ⟨-, rfl, rfl⟩
            refine AllocOb.mk fun b3 hb3 hbM3 => ?_
            refine StoreOb.to [] _ _ _ rfl rfl rfl rfl (leafV l).cells rfl ?_
            exact ⟨(b3, _), fun b o h => hI3 _ _ (hins _ _ (hI1 _ _ (h))), .sub (.cons_cons _ (List.nil_sublist _)) .refl, .cons .refl (.cons .refl .nil), .cons rfl .nil⟩
          · refine AllocOb.mk fun b3 hb3 hbM3 => ?_
            refine PCallOb.fa fun hfa => ?_
            have hb2 := hfa.d (defsBlk b2 [⟨cB 120, tx⟩]) (show _ ∈ ([(⟨b3, .cells fl0.cells.toArray 51 (0, 0)⟩ : Blk), flRow b4 [fl0], defsBlk b2 [⟨cB 120, tx⟩]] : List Blk) by simp)
            have hins := ins_le (o := (defsBlk b2 [⟨cB 120, tx⟩]).obj) hb2
            have hg : Gr.ok _ ⟨[⟨cB 120, tx⟩], some ⟨b2, 0, none⟩, 1, 1⟩ := defsBlk_gr rfl (by decide) hb2 (fun d hd => by simp only [List.mem_singleton] at hd; subst hd; exact ⟨(by decide : (cB 120).size ≤ 140737488355328), htx⟩)
            have hsp := FTree_spec (M0 := [flRow b4 [fl0]]) (lc := 1) ((hT.mono hI1).mono hins) hg ((ht.mono hI1).mono hins).ok (flRow_at (l := [fl0]) (List.mem_singleton.2 rfl))
            rw [leafV_eq ((ht.mono hI1).mono hins) ⟨[⟨cB 120, tx⟩], some ⟨b2, 0, none⟩, 1, 1⟩ rfl rfl] at hsp
            refine PCallOb.mkP b2 (defsBlk b2 [⟨cB 120, tx⟩]).obj [flRow b4 [fl0]] [(⟨b3, .cells fl0.cells.toArray 51 (0, 0)⟩ : Blk)] _ (by first | exact .refl _ | exact .swap _ _ _ | exact (.cons _ (.swap _ _ _)) | exact (.trans (.swap _ _ _) (.cons _ (.swap _ _ _))) | exact (.trans (.cons _ (.swap _ _ _)) (.swap _ _ _)) | exact .trans (.swap _ _ _) (.trans (.cons _ (.swap _ _ _)) (.swap _ _ _))) (by simp) hsp (fun v I' M' h x hx => by rw [h.2.1]; exact hx) ?_
            rintro v I3 M3 hI3 - ⟨-, rfl, rfl⟩
            refine StoreOb.to [flRow b4 [fl0]] _ _ _ rfl rfl rfl rfl (leafV l).cells rfl ?_
            exact ⟨(b3, _), fun b o h => hI3 _ _ (hins _ _ (hI1 _ _ (h))), .sub (.cons _ (.cons_cons _ (List.nil_sublist _))) .refl, .cons .refl (.cons .refl .nil), .cons rfl .nil⟩
        · refine AllocOb.mk fun b3 hb3 hbM3 => ?_
          refine PCallOb.mk _ (grammar10_spec (M := [])) ?_
          rintro v I2 M2 - ⟨rfl, rfl, rfl⟩
          refine PCallOb.fa fun hfa => ?_
          have hb2 := hfa.d (defsBlk b2 [⟨cB 120, tx⟩]) (show _ ∈ ([(⟨b3, .cells fl0.cells.toArray 51 (0, 0)⟩ : Blk), flRow b4 [fl0], defsBlk b2 [⟨cB 120, tx⟩]] : List Blk) by simp)
          have hins := ins_le (o := (defsBlk b2 [⟨cB 120, tx⟩]).obj) hb2
          have hg : Gr.ok _ ⟨[⟨cB 120, tx⟩], some ⟨b2, 0, none⟩, 1, 1⟩ := defsBlk_gr rfl (by decide) hb2 (fun d hd => by simp only [List.mem_singleton] at hd; subst hd; exact ⟨(by decide : (cB 120).size ≤ 140737488355328), htx⟩)
          have hsp := FTree_spec (M0 := [flRow b4 [fl0]]) (lc := 1) ((hT.mono hI1).mono hins) hg ((ht.mono hI1).mono hins).ok (flRow_at (l := [fl0]) (List.mem_singleton.2 rfl))
          rw [leafV_eq ((ht.mono hI1).mono hins) ⟨[⟨cB 120, tx⟩], some ⟨b2, 0, none⟩, 1, 1⟩ rfl rfl] at hsp
          refine PCallOb.mkP b2 (defsBlk b2 [⟨cB 120, tx⟩]).obj [flRow b4 [fl0]] [(⟨b3, .cells fl0.cells.toArray 51 (0, 0)⟩ : Blk)] _ (by first | exact .refl _ | exact .swap _ _ _ | exact (.cons _ (.swap _ _ _)) | exact (.trans (.swap _ _ _) (.cons _ (.swap _ _ _))) | exact (.trans (.cons _ (.swap _ _ _)) (.swap _ _ _)) | exact .trans (.swap _ _ _) (.trans (.cons _ (.swap _ _ _)) (.swap _ _ _))) (by simp) hsp (fun v I' M' h x hx => by rw [h.2.1]; exact hx) ?_
          rintro v I3 M3 hI3 - ⟨-, rfl, rfl⟩
          refine StoreOb.to [flRow b4 [fl0]] _ _ _ rfl rfl rfl rfl (leafV l).cells rfl ?_
          exact ⟨(b3, _), fun b o h => hI3 _ _ (hins _ _ (hI1 _ _ (h))), .sub (.cons _ (.cons_cons _ (List.nil_sublist _))) .refl, .cons .refl (.cons .refl .nil), .cons rfl .nil⟩
      · refine AllocOb.mk fun b3 hb3 hbM3 => ?_
        refine ⟨?_, ?_⟩
        · refine PCallOb.mk _ (grammar10_spec (M := [])) ?_
          rintro v I2 M2 - ⟨rfl, rfl, rfl⟩
          refine MakeOb.mk 1 1 rfl rfl (Nat.le_refl _) (by decide) (by decide) ?_
          refine AllocOb.mk fun b4 hb4 hbM4 => ?_
          refine PCallOb.fa fun hfa => ?_
          have hb2 := hfa.d (defsBlk b2 [⟨cB 120, tx⟩]) (show _ ∈ ([flRow b4 [fl0], (⟨b3, .cells fl0.cells.toArray 51 (0, 0)⟩ : Blk), defsBlk b2 [⟨cB 120, tx⟩]] : List Blk) by simp)
          have hins := ins_le (o := (defsBlk b2 [⟨cB 120, tx⟩]).obj) hb2
          have hg : Gr.ok _ ⟨[⟨cB 120, tx⟩], some ⟨b2, 0, none⟩, 1, 1⟩ := defsBlk_gr rfl (by decide) hb2 (fun d hd => by simp only [List.mem_singleton] at hd; subst hd; exact ⟨(by decide : (cB 120).size ≤ 140737488355328), htx⟩)
          have hsp := FTree_spec (M0 := [flRow b4 [fl0]]) (lc := 1) ((hT.mono hI1).mono hins) hg ((ht.mono hI1).mono hins).ok (flRow_at (l := [fl0]) (List.mem_singleton.2 rfl))
          rw [leafV_eq ((ht.mono hI1).mono hins) ⟨[⟨cB 120, tx⟩], some ⟨b2, 0, none⟩, 1, 1⟩ rfl rfl] at hsp
          refine PCallOb.mkP b2 (defsBlk b2 [⟨cB 120, tx⟩]).obj [flRow b4 [fl0]] [(⟨b3, .cells fl0.cells.toArray 51 (0, 0)⟩ : Blk)] _ (by first | exact .refl _ | exact .swap _ _ _ | exact (.cons _ (.swap _ _ _)) | exact (.trans (.swap _ _ _) (.cons _ (.swap _ _ _))) | exact (.trans (.cons _ (.swap _ _ _)) (.swap _ _ _)) | exact .trans (.swap _ _ _) (.trans (.cons _ (.swap _ _ _)) (.swap _ _ _))) (by simp) hsp (fun v I' M' h x hx => by rw [h.2.1]; exact hx) ?_
          rintro v I3 M3 hI3 - ⟨-, rfl, rfl⟩
          refine StoreOb.to [flRow b4 [fl0]] _ _ _ rfl rfl rfl rfl (leafV l).cells rfl ?_
          exact ⟨(b3, _), fun b o h => hI3 _ _ (hins _ _ (hI1 _ _ (h))), .sub (.cons _ (.cons_cons _ (List.nil_sublist _))) .refl, .cons .refl (.cons .refl .nil), .cons rfl .nil⟩
        · refine MakeOb.mk 1 1 rfl rfl (Nat.le_refl _) (by decide) (by decide) ?_
          refine AllocOb.mk fun b4 hb4 hbM4 => ?_
          refine PCallOb.mk _ (grammar10_spec (M := [])) ?_
          rintro v I2 M2 - ⟨rfl, rfl, rfl⟩
          refine PCallOb.fa fun hfa => ?_
          have hb2 := hfa.d (defsBlk b2 [⟨cB 120, tx⟩]) (show _ ∈ ([flRow b4 [fl0], (⟨b3, .cells fl0.cells.toArray 51 (0, 0)⟩ : Blk), defsBlk b2 [⟨cB 120, tx⟩]] : List Blk) by simp)
          have hins := ins_le (o := (defsBlk b2 [⟨cB 120, tx⟩]).obj) hb2
          have hg : Gr.ok _ ⟨[⟨cB 120, tx⟩], some ⟨b2, 0, none⟩, 1, 1⟩ := defsBlk_gr rfl (by decide) hb2 (fun d hd => by simp only [List.mem_singleton] at hd; subst hd; exact ⟨(by decide : (cB 120).size ≤ 140737488355328), htx⟩)
          have hsp := FTree_spec (M0 := [flRow b4 [fl0]]) (lc := 1) ((hT.mono hI1).mono hins) hg ((ht.mono hI1).mono hins).ok (flRow_at (l := [fl0]) (List.mem_singleton.2 rfl))
          rw [leafV_eq ((ht.mono hI1).mono hins) ⟨[⟨cB 120, tx⟩], some ⟨b2, 0, none⟩, 1, 1⟩ rfl rfl] at hsp
          refine PCallOb.mkP b2 (defsBlk b2 [⟨cB 120, tx⟩]).obj [flRow b4 [fl0]] [(⟨b3, .cells fl0.cells.toArray 51 (0, 0)⟩ : Blk)] _ (by first | exact .refl _ | exact .swap _ _ _ | exact (.cons _ (.swap _ _ _)) | exact (.trans (.swap _ _ _) (.cons _ (.swap _ _ _))) | exact (.trans (.cons _ (.swap _ _ _)) (.swap _ _ _)) | exact .trans (.swap _ _ _) (.trans (.cons _ (.swap _ _ _)) (.swap _ _ _))) (by simp) hsp (fun v I' M' h x hx => by rw [h.2.1]; exact hx) ?_
          rintro v I3 M3 hI3 - ⟨-, rfl, rfl⟩
          refine StoreOb.to [flRow b4 [fl0]] _ _ _ rfl rfl rfl rfl (leafV l).cells rfl ?_
          exact ⟨(b3, _), fun b o h => hI3 _ _ (hins _ _ (hI1 _ _ (h))), .sub (.cons _ (.cons_cons _ (List.nil_sublist _))) .refl, .cons .refl (.cons .refl .nil), .cons rfl .nil⟩
    · refine MakeOb.mk 1 1 rfl rfl (Nat.le_refl _) (by decide) (by decide) ?_
      refine AllocOb.mk fun b4 hb4 hbM4 => ?_
      refine ⟨?_, ?_⟩
      · refine AllocOb.mk fun b2 hb2 hbM2 => ?_
        refine ⟨?_, ?_⟩
        · refine PCallOb.mk _ (grammar10_spec (M := [])) ?_
          rintro v I2 M2 - ⟨rfl, rfl, rfl⟩
          refine ⟨?_, ?_⟩
          · refine CallOb.fa fun hfa => ?_
            have hb2 := hfa.d (defsBlk b2 [⟨cB 120, tx⟩]) (show _ ∈ ([defsBlk b2 [⟨cB 120, tx⟩], flRow b4 [fl0]] : List Blk) by simp)
            have hins := ins_le (o := (defsBlk b2 [⟨cB 120, tx⟩]).obj) hb2
            have hg : Gr.ok _ ⟨[⟨cB 120, tx⟩], some ⟨b2, 0, none⟩, 1, 1⟩ := defsBlk_gr rfl (by decide) hb2 (fun d hd => by simp only [List.mem_singleton] at hd; subst hd; exact ⟨(by decide : (cB 120).size ≤ 140737488355328), htx⟩)
            have hsp := FTree_spec (M0 := [flRow b4 [fl0]]) (lc := 1) ((hT.mono hI1).mono hins) hg ((ht.mono hI1).mono hins).ok (flRow_at (l := [fl0]) (List.mem_singleton.2 rfl))
            rw [leafV_eq ((ht.mono hI1).mono hins) ⟨[⟨cB 120, tx⟩], some ⟨b2, 0, none⟩, 1, 1⟩ rfl rfl] at hsp
            refine CallOb.mkW _ [flRow b4 [fl0]] [] _ (.perm (M1 := defsBlk b2 [⟨cB 120, tx⟩] :: ([flRow b4 [fl0]] ++ [])) (by first | exact .refl _ | exact .swap _ _ _ | exact (.cons _ (.swap _ _ _)) | exact (.trans (.swap _ _ _) (.cons _ (.swap _ _ _))) | exact (.trans (.cons _ (.swap _ _ _)) (.swap _ _ _)) | exact .trans (.swap _ _ _) (.trans (.cons _ (.swap _ _ _)) (.swap _ _ _))) (.prom rfl (by simp) .refl)) hsp ?_
            rintro v I3 M3 hI3 - ⟨-, rfl, rfl⟩
            refine AllocOb.mk fun b3 hb3 hbM3 => ?_
            refine StoreOb.to [] _ _ _ rfl rfl rfl rfl (leafV l).cells rfl ?_
            exact ⟨(b3, _), fun b o h => hI3 _ _ (hins _ _ (hI1 _ _ (h))), .sub (.cons_cons _ (List.nil_sublist _)) .refl, .cons .refl (.cons .refl .nil), .cons rfl .nil⟩
          · refine AllocOb.mk fun b3 hb3 hbM3 => ?_
            refine PCallOb.fa fun hfa => ?_
            have hb2 := hfa.d (defsBlk b2 [⟨cB 120, tx⟩]) (show _ ∈ ([(⟨b3, .cells fl0.cells.toArray 51 (0, 0)⟩ : Blk), defsBlk b2 [⟨cB 120, tx⟩], flRow b4 [fl0]] : List Blk) by simp)
            have hins := ins_le (o := (defsBlk b2 [⟨cB 120, tx⟩]).obj) hb2
            have hg : Gr.ok _ ⟨[⟨cB 120, tx⟩], some ⟨b2, 0, none⟩, 1, 1⟩ := defsBlk_gr rfl (by decide) hb2 (fun d hd => by simp only [List.mem_singleton] at hd; subst hd; exact ⟨(by decide : (cB 120).size ≤ 140737488355328), htx⟩)
            have hsp := FTree_spec (M0 := [flRow b4 [fl0]]) (lc := 1) ((hT.mono hI1).mono hins) hg ((ht.mono hI1).mono hins).ok (flRow_at (l := [fl0]) (List.mem_singleton.2 rfl))
            rw [leafV_eq ((ht.mono hI1).mono hins) ⟨[⟨cB 120, tx⟩], some ⟨b2, 0, none⟩, 1, 1⟩ rfl rfl] at hsp
            refine PCallOb.mkP b2 (defsBlk b2 [⟨cB 120, tx⟩]).obj [flRow b4 [fl0]] [(⟨b3, .cells fl0.cells.toArray 51 (0, 0)⟩ : Blk)] _ (by first | exact .refl _ | exact .swap _ _ _ | exact (.cons _ (.swap _ _ _)) | exact (.trans (.swap _ _ _) (.cons _ (.swap _ _ _))) | exact (.trans (.cons _ (.swap _ _ _)) (.swap _ _ _)) | exact .trans (.swap _ _ _) (.trans (.cons _ (.swap _ _ _)) (.swap _ _ _))) (by simp) hsp (fun v I' M' h x hx => by rw [h.2.1]; exact hx) ?_
            rintro v I3 M3 hI3 - ⟨-, rfl, rfl⟩
            refine StoreOb.to [flRow b4 [fl0]] _ _ _ rfl rfl rfl rfl (leafV l).cells rfl ?_
            exact ⟨(b3, _), fun b o h => hI3 _ _ (hins _ _ (hI1 _ _ (h))), .sub (.cons _ (.cons_cons _ (List.nil_sublist _))) .refl, .cons .refl (.cons .refl .nil), .cons rfl .nil⟩
        · refine AllocOb.mk fun b3 hb3 hbM3 => ?_
          refine PCallOb.mk _ (grammar10_spec (M := [])) ?_
          rintro v I2 M2 - ⟨rfl, rfl, rfl⟩
          refine PCallOb.fa fun hfa => ?_
          have hb2 := hfa.d (defsBlk b2 [⟨cB 120, tx⟩]) (show _ ∈ ([(⟨b3, .cells fl0.cells.toArray 51 (0, 0)⟩ : Blk), defsBlk b2 [⟨cB 120, tx⟩], flRow b4 [fl0]] : List Blk) by simp)
          have hins := ins_le (o := (defsBlk b2 [⟨cB 120, tx⟩]).obj) hb2
          have hg : Gr.ok _ ⟨[⟨cB 120, tx⟩], some ⟨b2, 0, none⟩, 1, 1⟩ := defsBlk_gr rfl (by decide) hb2 (fun d hd => by simp only [List.mem_singleton] at hd; subst hd; exact ⟨(by decide : (cB 120).size ≤ 140737488355328), htx⟩)
          have hsp := FTree_spec (M0 := [flRow b4 [fl0]]) (lc := 1) ((hT.mono hI1).mono hins) hg ((ht.mono hI1).mono hins).ok (flRow_at (l := [fl0]) (List.mem_singleton.2 rfl))
          rw [leafV_eq ((ht.mono hI1).mono hins) ⟨[⟨cB 120, tx⟩], some ⟨b2, 0, none⟩, 1, 1⟩ rfl rfl] at hsp
          refine PCallOb.mkP b2 (defsBlk b2 [⟨cB 120, tx⟩]).obj [flRow b4 [fl0]] [(⟨b3, .cells fl0.cells.toArray 51 (0, 0)⟩ : Blk)] _ (by first | exact .refl _ | exact .swap _ _ _ | exact (.cons _ (.swap _ _ _)) | exact (.trans (.swap _ _ _) (.cons _ (.swap _ _ _))) | exact (.trans (.cons _ (.swap _ _ _)) (.swap _ _ _)) | exact .trans (.swap _ _ _) (.trans (.cons _ (.swap _ _ _)) (.swap _ _ _))) (by simp) hsp (fun v I' M' h x hx => by rw [h.2.1]; exact hx) ?_
          rintro v I3 M3 hI3 - ⟨-, rfl, rfl⟩
          refine StoreOb.to [flRow b4 [fl0]] _ _ _ rfl rfl rfl rfl (leafV l).cells rfl ?_
          exact ⟨(b3, _), fun b o h => hI3 _ _ (hins _ _ (hI1 _ _ (h))), .sub (.cons _ (.cons_cons _ (List.nil_sublist _))) .refl, .cons .refl (.cons .refl .nil), .cons rfl .nil⟩
      · refine AllocOb.mk fun b3 hb3 hbM3 => ?_
        refine AllocOb.mk fun b2 hb2 hbM2 => ?_
        refine PCallOb.mk _ (grammar10_spec (M := [])) ?_
        rintro v I2 M2 - ⟨rfl, rfl, rfl⟩
        refine PCallOb.fa fun hfa => ?_
        have hb2 := hfa.d (defsBlk b2 [⟨cB 120, tx⟩]) (show _ ∈ ([defsBlk b2 [⟨cB 120, tx⟩], (⟨b3, .cells fl0.cells.toArray 51 (0, 0)⟩ : Blk), flRow b4 [fl0]] : List Blk) by simp)
        have hins := ins_le (o := (defsBlk b2 [⟨cB 120, tx⟩]).obj) hb2
        have hg : Gr.ok _ ⟨[⟨cB 120, tx⟩], some ⟨b2, 0, none⟩, 1, 1⟩ := defsBlk_gr rfl (by decide) hb2 (fun d hd => by simp only [List.mem_singleton] at hd; subst hd; exact ⟨(by decide : (cB 120).size ≤ 140737488355328), htx⟩)
        have hsp := FTree_spec (M0 := [flRow b4 [fl0]]) (lc := 1) ((hT.mono hI1).mono hins) hg ((ht.mono hI1).mono hins).ok (flRow_at (l := [fl0]) (List.mem_singleton.2 rfl))
        rw [leafV_eq ((ht.mono hI1).mono hins) ⟨[⟨cB 120, tx⟩], some ⟨b2, 0, none⟩, 1, 1⟩ rfl rfl] at hsp
        refine PCallOb.mkP b2 (defsBlk b2 [⟨cB 120, tx⟩]).obj [flRow b4 [fl0]] [(⟨b3, .cells fl0.cells.toArray 51 (0, 0)⟩ : Blk)] _ (by first | exact .refl _ | exact .swap _ _ _ | exact (.cons _ (.swap _ _ _)) | exact (.trans (.swap _ _ _) (.cons _ (.swap _ _ _))) | exact (.trans (.cons _ (.swap _ _ _)) (.swap _ _ _)) | exact .trans (.swap _ _ _) (.trans (.cons _ (.swap _ _ _)) (.swap _ _ _))) (by simp) hsp (fun v I' M' h x hx => by rw [h.2.1]; exact hx) ?_
        rintro v I3 M3 hI3 - ⟨-, rfl, rfl⟩
        refine StoreOb.to [flRow b4 [fl0]] _ _ _ rfl rfl rfl rfl (leafV l).cells rfl ?_
        exact ⟨(b3, _), fun b o h => hI3 _ _ (hins _ _ (hI1 _ _ (h))), .sub (.cons _ (.cons_cons _ (List.nil_sublist _))) .refl, .cons .refl (.cons .refl .nil), .cons rfl .nil⟩
    · refine AllocOb.mk fun b3 hb3 hbM3 => ?_
      refine ⟨?_, ?_⟩
      · refine AllocOb.mk fun b2 hb2 hbM2 => ?_
        refine ⟨?_, ?_⟩
        · refine PCallOb.mk _ (grammar10_spec (M := [])) ?_
          rintro v I2 M2 - ⟨rfl, rfl, rfl⟩
          refine MakeOb.mk 1 1 rfl rfl (Nat.le_refl _) (by decide) (by decide) ?_
          refine AllocOb.mk fun b4 hb4 hbM4 => ?_
          refine PCallOb.fa fun hfa => ?_
          have hb2 := hfa.d (defsBlk b2 [⟨cB 120, tx⟩]) (show _ ∈ ([flRow b4 [fl0], defsBlk b2 [⟨cB 120, tx⟩], (⟨b3, .cells fl0.cells.toArray 51 (0, 0)⟩ : Blk)] : List Blk) by simp)
          have hins := ins_le (o := (defsBlk b2 [⟨cB 120, tx⟩]).obj) hb2
          have hg : Gr.ok _ ⟨[⟨cB 120, tx⟩], some ⟨b2, 0, none⟩, 1, 1⟩ := defsBlk_gr rfl (by decide) hb2 (fun d hd => by simp only [List.mem_singleton] at hd; subst hd; exact ⟨(by decide : (cB 120).size ≤ 140737488355328), htx⟩)
          have hsp := FTree_spec (M0 := [flRow b4 [fl0]]) (lc := 1) ((hT.mono hI1).mono hins) hg ((ht.mono hI1).mono hins).ok (flRow_at (l := [fl0]) (List.mem_singleton.2 rfl))
          rw [leafV_eq ((ht.mono hI1).mono hins) ⟨[⟨cB 120, tx⟩], some ⟨b2, 0, none⟩, 1, 1⟩ rfl rfl] at hsp
          refine PCallOb.mkP b2 (defsBlk b2 [⟨cB 120, tx⟩]).obj [flRow b4 [fl0]] [(⟨b3, .cells fl0.cells.toArray 51 (0, 0)⟩ : Blk)] _ (by first | exact .refl _ | exact .swap _ _ _ | exact (.cons _ (.swap _ _ _)) | exact (.trans (.swap _ _ _) (.cons _ (.swap _ _ _))) | exact (.trans (.cons _ (.swap _ _ _)) (.swap _ _ _)) | exact .trans (.swap _ _ _) (.trans (.cons _ (.swap _ _ _)) (.swap _ _ _))) (by simp) hsp (fun v I' M' h x hx => by rw [h.2.1]; exact hx) ?_
          rintro v I3 M3 hI3 - ⟨-, rfl, rfl⟩
          refine StoreOb.to [flRow b4 [fl0]] _ _ _ rfl rfl rfl rfl (leafV l).cells rfl ?_
          exact ⟨(b3, _), fun b o h => hI3 _ _ (hins _ _ (hI1 _ _ (h))), .sub (.cons _ (.cons_cons _ (List.nil_sublist _))) .refl, .cons .refl (.cons .refl .nil), .cons rfl .nil⟩
        · refine MakeOb.mk 1 1 rfl rfl (Nat.le_refl _) (by decide) (by decide) ?_
          refine AllocOb.mk fun b4 hb4 hbM4 => ?_
          refine PCallOb.mk _ (grammar10_spec (M := [])) ?_
          rintro v I2 M2 - ⟨rfl, rfl, rfl⟩
          refine PCallOb.fa fun hfa => ?_
          have hb2 := hfa.d (defsBlk b2 [⟨cB 120, tx⟩]) (show _ ∈ ([flRow b4 [fl0], defsBlk b2 [⟨cB 120, tx⟩], (⟨b3, .cells fl0.cells.toArray 51 (0, 0)⟩ : Blk)] : List Blk) by simp)
          have hins := ins_le (o := (defsBlk b2 [⟨cB 120, tx⟩]).obj) hb2
          have hg : Gr.ok _ ⟨[⟨cB 120, tx⟩], some ⟨b2, 0, none⟩, 1, 1⟩ := defsBlk_gr rfl (by decide) hb2 (fun d hd => by simp only [List.mem_singleton] at hd; subst hd; exact ⟨(by decide : (cB 120).size ≤ 140737488355328), htx⟩)
          have hsp := FTree_spec (M0 := [flRow b4 [fl0]]) (lc := 1) ((hT.mono hI1).mono hins) hg ((ht.mono hI1).mono hins).ok (flRow_at (l := [fl0]) (List.mem_singleton.2 rfl))
          rw [leafV_eq ((ht.mono hI1).mono hins) ⟨[⟨cB 120, tx⟩], some ⟨b2, 0, none⟩, 1, 1⟩ rfl rfl] at hsp
          refine PCallOb.mkP b2 (defsBlk b2 [⟨cB 120, tx⟩]).obj [flRow b4 [fl0]] [(⟨b3, .cells fl0.cells.toArray 51 (0, 0)⟩ : Blk)] _ (by first | exact .refl _ | exact .swap _ _ _ | exact (.cons _ (.swap _ _ _)) | exact (.trans (.swap _ _ _) (.cons _ (.swap _ _ _))) | exact (.trans (.cons _ (.swap _ _ _)) (.swap _ _ _)) | exact .trans (.swap _ _ _) (.trans (.cons _ (.swap _ _ _)) (.swap _ _ _))) (by simp) hsp (fun v I' M' h x hx => by rw [h.2.1]; exact hx) ?_
          rintro v I3 M3 hI3 - ⟨-, rfl, rfl⟩
          refine StoreOb.to [flRow b4 [fl0]] _ _ _ rfl rfl rfl rfl (leafV l).cells rfl ?_
          exact ⟨(b3, _), fun b o h => hI3 _ _ (hins _ _ (hI1 _ _ (h))), .sub (.cons _ (.cons_cons _ (List.nil_sublist _))) .refl, .cons .refl (.cons .refl .nil), .cons rfl .nil⟩
      · refine MakeOb.mk 1 1 rfl rfl (Nat.le_refl _) (by decide) (by decide) ?_
        refine AllocOb.mk fun b4 hb4 hbM4 => ?_
        refine AllocOb.mk fun b2 hb2 hbM2 => ?_
        refine PCallOb.mk _ (grammar10_spec (M := [])) ?_
        rintro v I2 M2 - ⟨rfl, rfl, rfl⟩
        refine PCallOb.fa fun hfa => ?_
        have hb2 := hfa.d (defsBlk b2 [⟨cB 120, tx⟩]) (show _ ∈ ([defsBlk b2 [⟨cB 120, tx⟩], flRow b4 [fl0], (⟨b3, .cells fl0.cells.toArray 51 (0, 0)⟩ : Blk)] : List Blk) by simp)
        have hins := ins_le (o := (defsBlk b2 [⟨cB 120, tx⟩]).obj) hb2
        have hg : Gr.ok _ ⟨[⟨cB 120, tx⟩], some ⟨b2, 0, none⟩, 1, 1⟩ := defsBlk_gr rfl (by decide) hb2 (fun d hd => by simp only [List.mem_singleton] at hd; subst hd; exact ⟨(by decide : (cB 120).size ≤ 140737488355328), htx⟩)
        have hsp := FTree_spec (M0 := [flRow b4 [fl0]]) (lc := 1) ((hT.mono hI1).mono hins) hg ((ht.mono hI1).mono hins).ok (flRow_at (l := [fl0]) (List.mem_singleton.2 rfl))
        rw [leafV_eq ((ht.mono hI1).mono hins) ⟨[⟨cB 120, tx⟩], some ⟨b2, 0, none⟩, 1, 1⟩ rfl rfl] at hsp
        refine PCallOb.mkP b2 (defsBlk b2 [⟨cB 120, tx⟩]).obj [flRow b4 [fl0]] [(⟨b3, .cells fl0.cells.toArray 51 (0, 0)⟩ : Blk)] _ (by first | exact .refl _ | exact .swap _ _ _ | exact (.cons _ (.swap _ _ _)) | exact (.trans (.swap _ _ _) (.cons _ (.swap _ _ _))) | exact (.trans (.cons _ (.swap _ _ _)) (.swap _ _ _)) | exact .trans (.swap _ _ _) (.trans (.cons _ (.swap _ _ _)) (.swap _ _ _))) (by simp) hsp (fun v I' M' h x hx => by rw [h.2.1]; exact hx) ?_
        rintro v I3 M3 hI3 - ⟨-, rfl, rfl⟩
        refine StoreOb.to [flRow b4 [fl0]] _ _ _ rfl rfl rfl rfl (leafV l).cells rfl ?_
        exact ⟨(b3, _), fun b o h => hI3 _ _ (hins _ _ (hI1 _ _ (h))), .sub (.cons _ (.cons_cons _ (List.nil_sublist _))) .refl, .cons .refl (.cons .refl .nil), .cons rfl .nil⟩
  · refine MakeOb.mk 1 1 rfl rfl (Nat.le_refl _) (by decide) (by decide) ?_
    refine AllocOb.mk fun b4 hb4 hbM4 => ?_
    refine ⟨?_, ?_⟩
    · refine PCallOb.mk _ (Rule_spec (s := cB 120) (by decide)) ?_
      rintro v I1 M1 hI1 ⟨-, tx, rfl, htx, nx, rx, rfl⟩
      refine ⟨?_, ?_⟩
      · refine AllocOb.mk fun b2 hb2 hbM2 => ?_
        refine ⟨?_, ?_⟩
        · refine PCallOb.mk _ (grammar10_spec (M := [])) ?_
          rintro v I2 M2 - ⟨rfl, rfl, rfl⟩
          refine ⟨?_, ?_⟩
          · refine CallOb.fa fun hfa => ?_
            have hb2 := hfa.d (defsBlk b2 [⟨cB 120, tx⟩]) (show _ ∈ ([defsBlk b2 [⟨cB 120, tx⟩], flRow b4 [fl0]] : List Blk) by simp)
            have hins := ins_le (o := (defsBlk b2 [⟨cB 120, tx⟩]).obj) hb2
            have hg : Gr.ok _ ⟨[⟨cB 120, tx⟩], some ⟨b2, 0, none⟩, 1, 1⟩ := defsBlk_gr rfl (by decide) hb2 (fun d hd => by simp only [List.mem_singleton] at hd; subst hd; exact ⟨(by decide : (cB 120).size ≤ 140737488355328), htx⟩)
            have hsp := FTree_spec (M0 := [flRow b4 [fl0]]) (lc := 1) ((hT.mono hI1).mono hins) hg ((ht.mono hI1).mono hins).ok (flRow_at (l := [fl0]) (List.mem_singleton.2 rfl))
            rw [leafV_eq ((ht.mono hI1).mono hins) ⟨[⟨cB 120, tx⟩], some ⟨b2, 0, none⟩, 1, 1⟩ rfl rfl] at hsp
            refine CallOb.mkW _ [flRow b4 [fl0]] [] _ (.perm (M1 := defsBlk b2 [⟨cB 120, tx⟩] :: ([flRow b4 [fl0]] ++ [])) (by first | exact .refl _ | exact .swap _ _ _ | exact (.cons _ (.swap _ _ _)) | exact (.trans (.swap _ _ _) (.cons _ (.swap _ _ _))) | exact (.trans (.cons _ (.swap _ _ _)) (.swap _ _ _)) | exact .trans (.swap _ _ _) (.trans (.cons _ (.swap _ _ _)) (.swap _ _ _))) (.prom rfl (by simp) .refl)) hsp ?_
            rintro v I3 M3 hI3 - ⟨-, rfl, rfl⟩
            refine AllocOb.mk fun b3 hb3 hbM3 => ?_
            refine StoreOb.to [] _ _ _ rfl rfl rfl rfl (leafV l).cells rfl ?_
            exact ⟨(b3, _), fun b o h => hI3 _ _ (hins _ _ (hI1 _ _ (h))), .sub (.cons_cons _ (List.nil_sublist _)) .refl, .cons .refl (.cons .refl .nil), .cons rfl .nil⟩
          · refine AllocOb.mk fun b3 hb3 hbM3 => ?_
            refine PCallOb.fa fun hfa => ?_
            have hb2 := hfa.d (defsBlk b2 [⟨cB 120, tx⟩]) (show _ ∈ ([(⟨b3, .cells fl0.cells.toArray 51 (0, 0)⟩ : Blk), defsBlk b2 [⟨cB 120, tx⟩], flRow b4 [fl0]] : List Blk) by simp)
            have hins := ins_le (o := (defsBlk b2 [⟨cB 120, tx⟩]).obj) hb2
            have hg : Gr.ok _ ⟨[⟨cB 120, tx⟩], some ⟨b2, 0, none⟩, 1, 1⟩ := defsBlk_gr rfl (by decide) hb2 (fun d hd => by simp only [List.mem_singleton] at hd; subst hd; exact ⟨(by decide : (cB 120).size ≤ 140737488355328), htx⟩)
            have hsp := FTree_spec (M0 := [flRow b4 [fl0]]) (lc := 1) ((hT.mono hI1).mono hins) hg ((ht.mono hI1).mono hins).ok (flRow_at (l := [fl0]) (List.mem_singleton.2 rfl))
            rw [leafV_eq ((ht.mono hI1).mono hins) ⟨[⟨cB 120, tx⟩], some ⟨b2, 0, none⟩, 1, 1⟩ rfl rfl] at hsp
            refine PCallOb.mkP b2 (defsBlk b2 [⟨cB 120, tx⟩]).obj [flRow b4 [fl0]] [(⟨b3, .cells fl0.cells.toArray 51 (0, 0)⟩ : Blk)] _ (by first | exact .refl _ | exact .swap _ _ _ | exact (.cons _ (.swap _ _ _)) | exact (.trans (.swap _ _ _) (.cons _ (.swap _ _ _))) | exact (.trans (.cons _ (.swap _ _ _)) (.swap _ _ _)) | exact .trans (.swap _ _ _) (.trans (.cons _ (.swap _ _ _)) (.swap _ _ _))) (by simp) hsp (fun v I' M' h x hx => by rw [h.2.1]; exact hx) ?_
            rintro v I3 M3 hI3 - ⟨-, rfl, rfl⟩
            refine StoreOb.to [flRow b4 [fl0]] _ _ _ rfl rfl rfl rfl (leafV l).cells rfl ?_
            exact ⟨(b3, _), fun b o h => hI3 _ _ (hins _ _ (hI1 _ _ (h))), .sub (.cons _ (.cons_cons _ (List.nil_sublist _))) .refl, .cons .refl (.cons .refl .nil), .cons rfl .nil⟩
        · refine AllocOb.mk fun b3 hb3 hbM3 => ?_
          refine PCallOb.mk _ (grammar10_spec (M := [])) ?_
          rintro v I2 M2 - ⟨rfl, rfl, rfl⟩
          refine PCallOb.fa fun hfa => ?_
          have hb2 := hfa.d (defsBlk b2 [⟨cB 120, tx⟩]) (show _ ∈ ([(⟨b3, .cells fl0.cells.toArray 51 (0, 0)⟩ : Blk), defsBlk b2 [⟨cB 120, tx⟩], flRow b4 [fl0]] : List Blk) by simp)
          have hins := ins_le (o := (defsBlk b2 [⟨cB 120, tx⟩]).obj) hb2
          have hg : Gr.ok _ ⟨[⟨cB 120, tx⟩], some ⟨b2, 0, none⟩, 1, 1⟩ := defsBlk_gr rfl (by decide) hb2 (fun d hd => by simp only [List.mem_singleton] at hd; subst hd; exact ⟨(by decide : (cB 120).size ≤ 140737488355328), htx⟩)
          have hsp := FTree_spec (M0 := [flRow b4 [fl0]]) (lc := 1) ((hT.mono hI1).mono hins) hg ((ht.mono hI1).mono hins).ok (flRow_at (l := [fl0]) (List.mem_singleton.2 rfl))
          rw [leafV_eq ((ht.mono hI1).mono hins) ⟨[⟨cB 120, tx⟩], some ⟨b2, 0, none⟩, 1, 1⟩ rfl rfl] at hsp
          refine PCallOb.mkP b2 (defsBlk b2 [⟨cB 120, tx⟩]).obj [flRow b4 [fl0]] [(⟨b3, .cells fl0.cells.toArray 51 (0, 0)⟩ : Blk)] _ (by first | exact .refl _ | exact .swap _ _ _ | exact (.cons _ (.swap _ _ _)) | exact (.trans (.swap _ _ _) (.cons _ (.swap _ _ _))) | exact (.trans (.cons _ (.swap _ _ _)) (.swap _ _ _)) | exact .trans (.swap _ _ _) (.trans (.cons _ (.swap _ _ _)) (.swap _ _ _))) (by simp) hsp (fun v I' M' h x hx => by rw [h.2.1]; exact hx) ?_
          rintro v I3 M3 hI3 - ⟨-, rfl, rfl⟩
          refine StoreOb.to [flRow b4 [fl0]] _ _ _ rfl rfl rfl rfl (leafV l).cells rfl ?_
          exact ⟨(b3, _), fun b o h => hI3 _ _ (hins _ _ (hI1 _ _ (h))), .sub (.cons _ (.cons_cons _ (List.nil_sublist _))) .refl, .cons .refl (.cons .refl .nil), .cons rfl .nil⟩
      · refine AllocOb.mk fun b3 hb3 hbM3 => ?_
        refine AllocOb.mk fun b2 hb2 hbM2 => ?_
        refine PCallOb.mk _ (grammar10_spec (M := [])) ?_
        rintro v I2 M2 - ⟨rfl, rfl, rfl⟩
        refine PCallOb.fa fun hfa => ?_
        have hb2 := hfa.d (defsBlk b2 [⟨cB 120, tx⟩]) (show _ ∈ ([defsBlk b2 [⟨cB 120, tx⟩], (⟨b3, .cells fl0.cells.toArray 51 (0, 0)⟩ : Blk), flRow b4 [fl0]] : List Blk) by simp)
        have hins := ins_le (o := (defsBlk b2 [⟨cB 120, tx⟩]).obj) hb2
        have hg : Gr.ok _ ⟨[⟨cB 120, tx⟩], some ⟨b2, 0, none⟩, 1, 1⟩ := defsBlk_gr rfl (by decide) hb2 (fun d hd => by simp only [List.mem_singleton] at hd; subst hd; exact ⟨(by decide : (cB 120).size ≤ 140737488355328), htx⟩)
        have hsp := FTree_spec (M0 := [flRow b4 [fl0]]) (lc := 1) ((hT.mono hI1).mono hins) hg ((ht.mono hI1).mono hins).ok (flRow_at (l := [fl0]) (List.mem_singleton.2 rfl))
        rw [leafV_eq ((ht.mono hI1).mono hins) ⟨[⟨cB 120, tx⟩], some ⟨b2, 0, none⟩, 1, 1⟩ rfl rfl] at hsp
        refine PCallOb.mkP b2 (defsBlk b2 [⟨cB 120, tx⟩]).obj [flRow b4 [fl0]] [(⟨b3, .cells fl0.cells.toArray 51 (0, 0)⟩ : Blk)] _ (by first | exact .refl _ | exact .swap _ _ _ | exact (.cons _ (.swap _ _ _)) | exact (.trans (.swap _ _ _) (.cons _ (.swap _ _ _))) | exact (.trans (.cons _ (.swap _ _ _)) (.swap _ _ _)) | exact .trans (.swap _ _ _) (.trans (.cons _ (.swap _ _ _)) (.swap _ _ _))) (by simp) hsp (fun v I' M' h x hx => by rw [h.2.1]; exact hx) ?_
        rintro v I3 M3 hI3 - ⟨-, rfl, rfl⟩
        refine StoreOb.to [flRow b4 [fl0]] _ _ _ rfl rfl rfl rfl (leafV l).cells rfl ?_
        exact ⟨(b3, _), fun b o h => hI3 _ _ (hins _ _ (hI1 _ _ (h))), .sub (.cons _ (.cons_cons _ (List.nil_sublist _))) .refl, .cons .refl (.cons .refl .nil), .cons rfl .nil⟩
    · refine AllocOb.mk fun b3 hb3 hbM3 => ?_
      refine PCallOb.mk _ (Rule_spec (s := cB 120) (by decide)) ?_
      rintro v I1 M1 hI1 ⟨-, tx, rfl, htx, nx, rx, rfl⟩
      refine AllocOb.mk fun b2 hb2 hbM2 => ?_
      refine PCallOb.mk _ (grammar10_spec (M := [])) ?_
      rintro v I2 M2 - ⟨rfl, rfl, rfl⟩
      refine PCallOb.fa fun hfa => ?_
      have hb2 := hfa.d (defsBlk b2 [⟨cB 120, tx⟩]) (show _ ∈ ([defsBlk b2 [⟨cB 120, tx⟩], (⟨b3, .cells fl0.cells.toArray 51 (0, 0)⟩ : Blk), flRow b4 [fl0]] : List Blk) by simp)
      have hins := ins_le (o := (defsBlk b2 [⟨cB 120, tx⟩]).obj) hb2
      have hg : Gr.ok _ ⟨[⟨cB 120, tx⟩], some ⟨b2, 0, none⟩, 1, 1⟩ := defsBlk_gr rfl (by decide) hb2 (fun d hd => by simp only [List.mem_singleton] at hd; subst hd; exact ⟨(by decide : (cB 120).size ≤ 140737488355328), htx⟩)
      have hsp := FTree_spec (M0 := [flRow b4 [fl0]]) (lc := 1) ((hT.mono hI1).mono hins) hg ((ht.mono hI1).mono hins).ok (flRow_at (l := [fl0]) (List.mem_singleton.2 rfl))
      rw [leafV_eq ((ht.mono hI1).mono hins) ⟨[⟨cB 120, tx⟩], some ⟨b2, 0, none⟩, 1, 1⟩ rfl rfl] at hsp
      refine PCallOb.mkP b2 (defsBlk b2 [⟨cB 120, tx⟩]).obj [flRow b4 [fl0]] [(⟨b3, .cells fl0.cells.toArray 51 (0, 0)⟩ : Blk)] _ (by first | exact .refl _ | exact .swap _ _ _ | exact (.cons _ (.swap _ _ _)) | exact (.trans (.swap _ _ _) (.cons _ (.swap _ _ _))) | exact (.trans (.cons _ (.swap _ _ _)) (.swap _ _ _)) | exact .trans (.swap _ _ _) (.trans (.cons _ (.swap _ _ _)) (.swap _ _ _))) (by simp) hsp (fun v I' M' h x hx => by rw [h.2.1]; exact hx) ?_
      rintro v I3 M3 hI3 - ⟨-, rfl, rfl⟩
      refine StoreOb.to [flRow b4 [fl0]] _ _ _ rfl rfl rfl rfl (leafV l).cells rfl ?_
      exact ⟨(b3, _), fun b o h => hI3 _ _ (hins _ _ (hI1 _ _ (h))), .sub (.cons _ (.cons_cons _ (List.nil_sublist _))) .refl, .cons .refl (.cons .refl .nil), .cons rfl .nil⟩
  · refine AllocOb.mk fun b3 hb3 hbM3 => ?_
    refine ⟨?_, ?_⟩
    · refine PCallOb.mk _ (Rule_spec (s := cB 120) (by decide)) ?_
      rintro v I1 M1 hI1 ⟨-, tx, rfl, htx, nx, rx, rfl⟩
      refine ⟨?_, ?_⟩
      · refine AllocOb.mk fun b2 hb2 hbM2 => ?_
        refine ⟨?_, ?_⟩
        · refine PCallOb.mk _ (grammar10_spec (M := [])) ?_
          rintro v I2 M2 - ⟨rfl, rfl, rfl⟩
          refine MakeOb.mk 1 1 rfl rfl (Nat.le_refl _) (by decide) (by decide) ?_
          refine AllocOb.mk fun b4 hb4 hbM4 => ?_
          refine PCallOb.fa fun hfa => ?_
          have hb2 := hfa.d (defsBlk b2 [⟨cB 120, tx⟩]) (show _ ∈ ([flRow b4 [fl0], defsBlk b2 [⟨cB 120, tx⟩], (⟨b3, .cells fl0.cells.toArray 51 (0, 0)⟩ : Blk)] : List Blk) by simp)
          have hins := ins_le (o := (defsBlk b2 [⟨cB 120, tx⟩]).obj) hb2
          have hg : Gr.ok _ ⟨[⟨cB 120, tx⟩], some ⟨b2, 0, none⟩, 1, 1⟩ := defsBlk_gr rfl (by decide) hb2 (fun d hd => by simp only [List.mem_singleton] at hd; subst hd; exact ⟨(by decide : (cB 120).size ≤ 140737488355328), htx⟩)
          have hsp := FTree_spec (M0 := [flRow b4 [fl0]]) (lc := 1) ((hT.mono hI1).mono hins) hg ((ht.mono hI1).mono hins).ok (flRow_at (l := [fl0]) (List.mem_singleton.2 rfl))
          rw [leafV_eq ((ht.mono hI1).mono hins) ⟨[⟨cB 120, tx⟩], some ⟨b2, 0, none⟩, 1, 1⟩ rfl rfl] at hsp
          refine PCallOb.mkP b2 (defsBlk b2 [⟨cB 120, tx⟩]).obj [flRow b4 [fl0]] [(⟨b3, .cells fl0.cells.toArray 51 (0, 0)⟩ : Blk)] _ (by first | exact .refl _ | exact .swap _ _ _ | exact (.cons _ (.swap _ _ _)) | exact (.trans (.swap _ _ _) (.cons _ (.swap _ _ _))) | exact (.trans (.cons _ (.swap _ _ _)) (.swap _ _ _)) | exact .trans (.swap _ _ _) (.trans (.cons _ (.swap _ _ _)) (.swap _ _ _))) (by simp) hsp (fun v I' M' h x hx => by rw [h.2.1]; exact hx) ?_
          rintro v I3 M3 hI3 - ⟨-, rfl, rfl⟩
          refine StoreOb.to [flRow b4 [fl0]] _ _ _ rfl rfl rfl rfl (leafV l).cells rfl ?_
          exact ⟨(b3, _), fun b o h => hI3 _ _ (hins _ _ (hI1 _ _ (h))), .sub (.cons _ (.cons_cons _ (List.nil_sublist _))) .refl, .cons .refl (.cons .refl .nil), .cons rfl .nil⟩
        · refine MakeOb.mk 1 1 rfl rfl (Nat.le_refl _) (by decide) (by decide) ?_
          refine AllocOb.mk fun b4 hb4 hbM4 => ?_
          refine PCallOb.mk _ (grammar10_spec (M := [])) ?_
          rintro v I2 M2 - ⟨rfl, rfl, rfl⟩
          refine PCallOb.fa fun hfa => ?_
          have hb2 := hfa.d (defsBlk b2 [⟨cB 120, tx⟩]) (show _ ∈ ([flRow b4 [fl0], defsBlk b2 [⟨cB 120, tx⟩], (⟨b3, .cells fl0.cells.toArray 51 (0, 0)⟩ : Blk)] : List Blk) by simp)
          have hins := ins_le (o := (defsBlk b2 [⟨cB 120, tx⟩]).obj) hb2
          have hg : Gr.ok _ ⟨[⟨cB 120, tx⟩], some ⟨b2, 0, none⟩, 1, 1⟩ := defsBlk_gr rfl (by decide) hb2 (fun d hd => by simp only [List.mem_singleton] at hd; subst hd; exact ⟨(by decide : (cB 120).size ≤ 140737488355328), htx⟩)
          have hsp := FTree_spec (M0 := [flRow b4 [fl0]]) (lc := 1) ((hT.mono hI1).mono hins) hg ((ht.mono hI1).mono hins).ok (flRow_at (l := [fl0]) (List.mem_singleton.2 rfl))
          rw [leafV_eq ((ht.mono hI1).mono hins) ⟨[⟨cB 120, tx⟩], some ⟨b2, 0, none⟩, 1, 1⟩ rfl rfl] at hsp
          refine PCallOb.mkP b2 (defsBlk b2 [⟨cB 120, tx⟩]).obj [flRow b4 [fl0]] [(⟨b3, .cells fl0.cells.toArray 51 (0, 0)⟩ : Blk)] _ (by first | exact .refl _ | exact .swap _ _ _ | exact (.cons _ (.swap _ _ _)) | exact (.trans (.swap _ _ _) (.cons _ (.swap _ _ _))) | exact (.trans (.cons _ (.swap _ _ _)) (.swap _ _ _)) | exact .trans (.swap _ _ _) (.trans (.cons _ (.swap _ _ _)) (.swap _ _ _))) (by simp) hsp (fun v I' M' h x hx => by rw [h.2.1]; exact hx) ?_
          rintro v I3 M3 hI3 - ⟨-, rfl, rfl⟩
          refine StoreOb.to [flRow b4 [fl0]] _ _ _ rfl rfl rfl rfl (leafV l).cells rfl ?_
          exact ⟨(b3, _), fun b o h => hI3 _ _ (hins _ _ (hI1 _ _ (h))), .sub (.cons _ (.cons_cons _ (List.nil_sublist _))) .refl, .cons .refl (.cons .refl .nil), .cons rfl .nil⟩
      · refine MakeOb.mk 1 1 rfl rfl (Nat.le_refl _) (by decide) (by decide) ?_
        refine AllocOb.mk fun b4 hb4 hbM4 => ?_
        refine AllocOb.mk fun b2 hb2 hbM2 => ?_
        refine PCallOb.mk _ (grammar10_spec (M := [])) ?_
        rintro v I2 M2 - ⟨rfl, rfl, rfl⟩
        refine PCallOb.fa fun hfa => ?_
        have hb2 := hfa.d (defsBlk b2 [⟨cB 120, tx⟩]) (show _ ∈ ([defsBlk b2 [⟨cB 120, tx⟩], flRow b4 [fl0], (⟨b3, .cells fl0.cells.toArray 51 (0, 0)⟩ : Blk)] : List Blk) by simp)
        have hins := ins_le (o := (defsBlk b2 [⟨cB 120, tx⟩]).obj) hb2
        have hg : Gr.ok _ ⟨[⟨cB 120, tx⟩], some ⟨b2, 0, none⟩, 1, 1⟩ := defsBlk_gr rfl (by decide) hb2 (fun d hd => by simp only [List.mem_singleton] at hd; subst hd; exact ⟨(by decide : (cB 120).size ≤ 140737488355328), htx⟩)
        have hsp := FTree_spec (M0 := [flRow b4 [fl0]]) (lc := 1) ((hT.mono hI1).mono hins) hg ((ht.mono hI1).mono hins).ok (flRow_at (l := [fl0]) (List.mem_singleton.2 rfl))
        rw [leafV_eq ((ht.mono hI1).mono hins) ⟨[⟨cB 120, tx⟩], some ⟨b2, 0, none⟩, 1, 1⟩ rfl rfl] at hsp
        refine PCallOb.mkP b2 (defsBlk b2 [⟨cB 120, tx⟩]).obj [flRow b4 [fl0]] [(⟨b3, .cells fl0.cells.toArray 51 (0, 0)⟩ : Blk)] _ (by first | exact .refl _ | exact .swap _ _ _ | exact (.cons _ (.swap _ _ _)) | exact (.trans (.swap _ _ _) (.cons _ (.swap _ _ _))) | exact (.trans (.cons _ (.swap _ _ _)) (.swap _ _ _)) | exact .trans (.swap _ _ _) (.trans (.cons _ (.swap _ _ _)) (.swap _ _ _))) (by simp) hsp (fun v I' M' h x hx => by rw [h.2.1]; exact hx) ?_
        rintro v I3 M3 hI3 - ⟨-, rfl, rfl⟩
        refine StoreOb.to [flRow b4 [fl0]] _ _ _ rfl rfl rfl rfl (leafV l).cells rfl ?_
        exact ⟨(b3, _), fun b o h => hI3 _ _ (hins _ _ (hI1 _ _ (h))), .sub (.cons _ (.cons_cons _ (List.nil_sublist _))) .refl, .cons .refl (.cons .refl .nil), .cons rfl .nil⟩
    · refine MakeOb.mk 1 1 rfl rfl (Nat.le_refl _) (by decide) (by decide) ?_
      refine AllocOb.mk fun b4 hb4 hbM4 => ?_
      refine PCallOb.mk _ (Rule_spec (s := cB 120) (by decide)) ?_
      rintro v I1 M1 hI1 ⟨-, tx, rfl, htx, nx, rx, rfl⟩
      refine AllocOb.mk fun b2 hb2 hbM2 => ?_
      refine PCallOb.mk _ (grammar10_spec (M := [])) ?_
      rintro v I2 M2 - ⟨rfl, rfl, rfl⟩
      refine PCallOb.fa fun hfa => ?_
      have hb2 := hfa.d (defsBlk b2 [⟨cB 120, tx⟩]) (show _ ∈ ([defsBlk b2 [⟨cB 120, tx⟩], flRow b4 [fl0], (⟨b3, .cells fl0.cells.toArray 51 (0, 0)⟩ : Blk)] : List Blk) by simp)
      have hins := ins_le (o := (defsBlk b2 [⟨cB 120, tx⟩]).obj) hb2
      have hg : Gr.ok _ ⟨[⟨cB 120, tx⟩], some ⟨b2, 0, none⟩, 1, 1⟩ := defsBlk_gr rfl (by decide) hb2 (fun d hd => by simp only [List.mem_singleton] at hd; subst hd; exact ⟨(by decide : (cB 120).size ≤ 140737488355328), htx⟩)
      have hsp := FTree_spec (M0 := [flRow b4 [fl0]]) (lc := 1) ((hT.mono hI1).mono hins) hg ((ht.mono hI1).mono hins).ok (flRow_at (l := [fl0]) (List.mem_singleton.2 rfl))
      rw [leafV_eq ((ht.mono hI1).mono hins) ⟨[⟨cB 120, tx⟩], some ⟨b2, 0, none⟩, 1, 1⟩ rfl rfl] at hsp
      refine PCallOb.mkP b2 (defsBlk b2 [⟨cB 120, tx⟩]).obj [flRow b4 [fl0]] [(⟨b3, .cells fl0.cells.toArray 51 (0, 0)⟩ : Blk)] _ (by first | exact .refl _ | exact .swap _ _ _ | exact (.cons _ (.swap _ _ _)) | exact (.trans (.swap _ _ _) (.cons _ (.swap _ _ _))) | exact (.trans (.cons _ (.swap _ _ _)) (.swap _ _ _)) | exact .trans (.swap _ _ _) (.trans (.cons _ (.swap _ _ _)) (.swap _ _ _))) (by simp) hsp (fun v I' M' h x hx => by rw [h.2.1]; exact hx) ?_
      rintro v I3 M3 hI3 - ⟨-, rfl, rfl⟩
      refine StoreOb.to [flRow b4 [fl0]] _ _ _ rfl rfl rfl rfl (leafV l).cells rfl ?_
      exact ⟨(b3, _), fun b o h => hI3 _ _ (hins _ _ (hI1 _ _ (h))), .sub (.cons _ (.cons_cons _ (List.nil_sublist _))) .refl, .cons .refl (.cons .refl .nil), .cons rfl .nil⟩
end Go.V

/-
  Walks: bonsailaw10.long.
-/
set_option linter.unusedVariables false
set_option linter.unusedSimpArgs false
namespace Go.V
open Go Go.Proofs

theorem OS.rowAt {α : Type} (f : α → List Value) (k : Nat) (hf : ∀ x, (f x).length = k) {I : GH} {M : List Blk} {os : OS} {l : List α} {e : Nat} (h : os.ok k (l.flatMap f)) (hk : 0 < k) (hM : ∀ x ∈ os.blk e, x ∈ M) :
    l.length = os.n ∧ ∀ j (hj : j < l.length), ∃ ad, (os.a.map fun g => (⟨g, 0, none⟩ : Addr)) = some ad ∧ Rd I M (ad.add (j * k)) k (f l[j]) := by
  have hl := h.len
  rw [flat_len f k hf] at hl
  have hl' := Nat.eq_of_mul_eq_mul_right hk hl
  refine ⟨hl', fun j hj => ?_⟩
  obtain ⟨a, n, c, cur⟩ := os
  simp only at hl hl'
  subst hl'
  cases a with
  | none => have := (h.nil rfl).1; simp only at this; omega
  | some g =>
    obtain ⟨h1, h2, h3, h4⟩ := h.cap g rfl
    simp only at h1 h2 h4
    refine ⟨⟨g, 0, none⟩, rfl, ?_⟩
    have hm : (⟨g, .cells cur.toArray e (0, 0)⟩ : Blk) ∈ M := hM _ (by simp [OS.blk])
    have hjk : j * k + k ≤ l.length * k := by
      have : (j + 1) * k ≤ l.length * k := Nat.mul_le_mul_right _ hj
      rwa [Nat.add_mul, Nat.one_mul] at this
    have hck : l.length * k ≤ c * k := Nat.mul_le_mul_right _ h2
    have hr := blk_rd (I := I) (cs := cur) (k := j * k) (n := k) hm (by omega)
    have e1 : (cur.drop (j * k)).take k = ((cur.take (l.length * k)).drop (j * k)).take k := by
      rw [List.drop_take, List.take_take]
      congr 1
      omega
    rw [e1, h4, flat_at f k hf l j hj] at hr
    exact hr

structure TrSmall (t : Tr) : Prop where
  n : t.n < 2500
  ns : ∀ nd ∈ t.ns, NdSmall nd
theorem TrW.ok {I : GH} {t : Tr} (h : TrW I t) (hs : TrSmall t) : t.ok I :=
  ⟨h.rs.big (by have := hs.n; omega), fun nd hnd => (h.ns nd hnd).ok (hs.ns nd hnd), h.root⟩
theorem TrW.mono {I I' : GH} {t : Tr} (h : TrW I t) (hI : ∀ b o, I b = some o → I' b = some o) : TrW I' t := ⟨h.rs.mono hI, fun nd hnd => (h.ns nd hnd).mono hI, h.root⟩

def bodies (g : Gr) (L0 : List Tr) (i : Nat) : List Tr := L0 ++ (g.ds.take i).map Df.t
theorem bodies_len {g : Gr} {L0 : List Tr} {i : Nat} (hi : i ≤ g.ds.length) : (bodies g L0 i).length = L0.length + i := by
  simp [bodies]
  omega
structure L1 (g : Gr) (L0 : List Tr) (x : Nat × Nat × OS) : Prop where
  i : x.2.1 ≤ g.n
  n : x.1 ≤ 6000
  five : 5 * x.2.1 ≤ x.1
  os : x.2.2.ok 2 ((bodies g L0 x.2.1).flatMap Tr.cells)
  small : x.1 < 2500 → ∀ j (h : j < g.ds.length), j < x.2.1 → g.ds[j].name.size < 2500
structure L2 (L : List Tr) (n0 : Nat) (x : Nat × Nat) : Prop where
  i : x.2 ≤ L.length
  n : x.1 ≤ 6000
  ge : n0 ≤ x.1
  small : x.1 < 2500 → x.2 ≤ x.1 ∧ ∀ j (h : j < L.length), j < x.2 → TrSmall L[j]
structure L3 (L : List Tr) (t : Tr) (n0 i : Nat) (x : Nat × Nat) : Prop where
  k : x.2 ≤ t.n
  n : x.1 ≤ 6000
  ge : n0 ≤ x.1
  small : x.1 < 2500 → i + 1 ≤ x.1 ∧ x.2 ≤ x.1 ∧ (∀ j (h : j < L.length), j < i → TrSmall L[j]) ∧ ∀ j (h : j < t.ns.length), j < x.2 → NdSmall t.ns[j]

set_option maxRecDepth 100000 in
set_option maxHeartbeats 4000000 in
theorem long10_spec {I : GH} {g : Gr} (hg : GrW I g) {os0 : OS} {L0 : List Tr} (hos0 : os0.ok 2 (L0.flatMap Tr.cells)) (hL0 : ∀ t ∈ L0, TrW I t) (hl0 : L0.length ≤ 2500) :
    Spec Tryz.prog 18 [g.val, os0.val] I (os0.blk 37) fun v I' M' => (∃ r, v = .bool r ∧ (r = false → GrSmall g ∧ ∀ t ∈ L0, TrSmall t)) ∧ I' = I ∧ M' = [] := by
  refine spec_of_V [] TryzEOK Tryz.func18 rfl rfl rfl ?_
  intro B h0
  have hgn := hg.n
  refine LoopOb.inv (ι := Nat × Nat × OS) (fun x => { fl := [(1, .val x.2.2.val), (2, .ref 2 0), (5, .val (.int .i64 x.1)), (6, .val (.int .i64 x.2.1))], cl := [(2, [.slice g.a g.n g.c])], gi := I, mi := x.2.2.blk 37 }) (L1 g L0) (fun x => g.n - x.2.1) ?_ ?_
  · exact ⟨(0, 0, os0), ⟨Nat.zero_le _, Nat.zero_le _, Nat.zero_le _, by simpa [bodies] using hos0, fun _ j _ h => by simp at h⟩, .refl, .cons .refl (.cons .refl (.cons .refl (.cons .refl .nil))), .cons rfl .nil⟩
  rintro ⟨n, i, os⟩ ⟨hi, hn, h5, hos, hsm⟩
  simp only at hi hn h5 hos hsm
  have hosn : os.n = L0.length + i := by
    have := (OS.rowAt Tr.cells 2 (fun _ => rfl) (I := I) (e := 0) hos (by decide) (fun x h => h)).1
    rw [bodies_len (by omega)] at this
    exact this.symm
  refine GuardOb.mk (fun h => CondOb.mk (fun h2 => ?body) (fun h2 => ?e1)) (fun h => ?e2)
  case body =>
    have hlt : i < g.n := by simpa using h
    have hn2 : n < 2500 := by have := of_decide_eq_true h2; omega
    have hds := hsm hn2
    have hlt' : i < g.ds.length := by omega
    obtain ⟨ad, had, hrd⟩ := hg.rs.row Df.cells_len hlt hlt'
    have hd := hg.ds _ (List.getElem_mem hlt')
    have hnm := hd.name
    have r1 : ∀ M, Rd I M ((ad.add (i * 3)).add 0) 1 [.string g.ds[i].name] := fun M => (hrd M).part (k := 0) (m := 1) (by decide)
    have r2 : ∀ M, Rd I M ((ad.add (i * 3)).add 1) 2 g.ds[i].t.cells := fun M => (hrd M).part (k := 1) (m := 2) (by decide)
    have hbd : bodies g L0 (i + 1) = bodies g L0 i ++ [g.ds[i].t] := by
      simp only [bodies]
      rw [List.take_succ_eq_append_getElem hlt', List.map_append, List.append_assoc]
      rfl
    generalize hdd : g.ds[i] = d at hd r1 r2 hnm hbd
    refine ArithOb.mk ((n + 5 : Nat) : Int) (wr_eq (by omega) (by omega)) ?_
    refine IdxOb.mk ad i had rfl hlt ?_
    refine LoadOb.mk _ (r1 _) ?_
    refine ArithOb.mk ((n + 5 + min 2500 d.name.size : Nat) : Int) (wr_eq (by omega) (by omega)) ?_
    refine IdxOb.mk ad i had rfl hlt ?_
    refine LoadOb.mk _ (r2 _) ?_
    refine AllocOb.mk fun b hb hbM => ?_
    refine OtherOb.append TryzEOK rfl (by simp) (e := 37) rfl rfl rfl os hos rfl (m := 1) rfl (news := d.t.cells) (by decide) (blk_rd (b := b) (cs := d.t.cells) (k := 0) (n := 2) (T := 37) (.head _) (Nat.le_of_ble_eq_true rfl)) rfl (Mr := [⟨b, .cells d.t.cells.toArray 37 (0, 0)⟩]) (List.perm_append_comm (l₁ := [_])) (by simp only [maxLen]; omega) (by show (os.n + 1) * 32 ≤ _; omega) ?_
    intro g1 c1 cur1 q1 q2 q3 q4
    refine ArithOb.mk _ (next_wr (i := i) (by omega)) ?_
    refine ⟨(_, i + 1, ⟨some g1, os.n + 1, c1, cur1⟩), ⟨⟨by simp only; omega, by simp only; omega, by simp only; omega, ?_, fun h j hj hj2 => ?_⟩, by simp only; omega⟩, .sub (.cons_cons _ (List.nil_sublist _)) .refl, .cons .refl (.cons .refl (.cons .refl (.cons .refl .nil))), .cons rfl .nil⟩
    · simp only
      rw [hbd, List.flatMap_append]
      have := appm_ok hos (m := 1) (g := g1) (ys := d.t.cells) rfl q1 q2 q3 q4
      simpa using this
    · simp only at h hj2
      by_cases e : j = i
      · subst e
        rw [hdd]
        omega
      · exact hds j hj (by omega)
  case' e1 => have hx : n < 2500 → i = g.n := fun hh => by have := of_decide_eq_false h2; omega
  case' e2 => have hx : n < 2500 → i = g.n := fun hh => by have : ¬ (i : Int) < (g.n : Int) := of_decide_eq_false h; omega
  all_goals
    clear h
    have hrow := OS.rowAt Tr.cells 2 (fun _ => rfl) (I := I) (M := os.blk 37) (e := 37) hos (by decide) (fun x h => h)
    have hLW : ∀ t ∈ bodies g L0 i, TrW I t := fun t ht => by
      rcases List.mem_append.1 ht with ht | ht
      · exact hL0 t ht
      · obtain ⟨d, hd, rfl⟩ := List.mem_map.1 ht
        exact (hg.ds d (List.mem_of_mem_take hd)).t
    have fin : ∀ m, n ≤ m → (m < 2500 → ∀ t ∈ bodies g L0 i, TrSmall t) → ∀ c, c = decide ((2500 : Int) ≤ (m : Int)) → (c = false → GrSmall g ∧ ∀ t ∈ L0, TrSmall t) := by
      intro m hnm h1 c hc hcf
      rw [hc] at hcf
      have hm : m < 2500 := by have := of_decide_eq_false hcf; omega
      have h2 := h1 hm
      have h3 := hx (by omega)
      have h4 := hsm (by omega)
      have h6 : ∀ d ∈ g.ds, DfSmall d := fun d hd => by
        obtain ⟨j, hj, rfl⟩ := List.getElem_of_mem hd
        have := h2 (g.ds[j].t) (List.mem_append_right _ (List.mem_map.2 ⟨g.ds[j], by rw [List.take_of_length_le (by omega)]; exact List.getElem_mem hj, rfl⟩))
        exact ⟨h4 j hj (by omega), this.n, this.ns⟩
      exact ⟨⟨by omega, h6⟩, fun t ht => h2 t (List.mem_append_left _ ht)⟩
    generalize bodies g L0 i = L at hrow hLW fin
    obtain ⟨hLn, hrow⟩ := hrow
    refine LoopOb.inv (ι := Nat × Nat) (fun x => { fl := [(1, .val os.val), (5, .val (.int .i64 x.1)), (7, .val (.int .i64 x.2))], gi := I, mi := os.blk 37 }) (L2 L n) (fun x => L.length - x.2) ?_ ?_
    · exact ⟨(n, 0), ⟨Nat.zero_le _, hn, Nat.le_refl _, fun _ => ⟨Nat.zero_le _, fun j _ h => by simp at h⟩⟩, .refl, .cons .refl (.cons .refl (.cons .refl .nil)), .nil⟩
    rintro ⟨m, k⟩ ⟨hk, hm, hge, hsm2⟩
    simp only at hk hm hge hsm2
    have alls : (m < 2500 → k = L.length) → (m < 2500 → ∀ t ∈ L, TrSmall t) := fun h1 h2 t ht => by
      obtain ⟨j, hj, rfl⟩ := List.getElem_of_mem ht
      exact (hsm2 h2).2 j hj (by have := h1 h2; omega)
    refine GuardOb.mk (fun h3 => CondOb.mk (fun h4 => ?_) (fun h4 => ?_)) (fun h3 => ?_)
    · have hkl : k < os.n := by simpa [OS.val] using h3
      have hm2 : m < 2500 := by have := of_decide_eq_true h4; omega
      obtain ⟨s1, s2⟩ := hsm2 hm2
      have hkl' : k < L.length := by omega
      obtain ⟨ad, had, hrd⟩ := hrow k hkl'
      have hW := hLW _ (List.getElem_mem hkl')
      have hWn := hW.n
      have r2 : Rd I (os.blk 37) ((ad.add (k * 2)).add 0) 1 [.slice L[k].a L[k].n L[k].c] := hrd.part (k := 0) (m := 1) (by decide)
      generalize htt : L[k] = t at hW hWn r2
      refine ArithOb.mk ((m + 1 : Nat) : Int) (wr_eq (by omega) (by omega)) ?_
      refine LoopOb.inv (ι := Nat × Nat) (fun x => { fl := [(1, .val os.val), (5, .val (.int .i64 x.1)), (7, .val (.int .i64 k)), (8, .val (.int .i64 x.2))], gi := I, mi := os.blk 37 }) (L3 L t n k) (fun x => t.n - x.2) ?_ ?_
      · exact ⟨(m + 1, 0), ⟨Nat.zero_le _, by simp only; omega, by simp only; omega, fun h => ⟨by simp only; omega, Nat.zero_le _, s2, fun j _ h => by simp at h⟩⟩, .refl, .cons .refl (.cons .refl (.cons .refl (.cons .refl .nil))), .nil⟩
      rintro ⟨p, q⟩ ⟨hq, hp, hpe, hsm3⟩
      simp only at hq hp hpe hsm3
      have out : (p < 2500 → q = t.n) → L2 L n (p, k + 1) := fun h1 => by
        refine ⟨by simp only; omega, hp, hpe, fun h2 => ?_⟩
        obtain ⟨u1, u2, u3, u4⟩ := hsm3 h2
        have u5 := h1 h2
        refine ⟨u1, fun j hj hj2 => ?_⟩
        by_cases e : j = k
        · subst e
          rw [htt]
          refine ⟨by simp only at h2; omega, fun nd hnd => ?_⟩
          obtain ⟨y, hy, rfl⟩ := List.getElem_of_mem hnd
          exact u4 y hy (by omega)
        · exact u3 j hj (by simp only at hj2; omega)
      refine IdxOb.mk ad k had rfl hkl ?_
      refine LoadOb.mk _ r2 ?_
      refine GuardOb.mk (fun h5 => CondOb.mk (fun h6 => ?_) (fun h6 => ?_)) (fun h5 => ?_)
      · have hql : q < t.n := by simpa using h5
        have hp2 : p < 2500 := by have := of_decide_eq_true h6; omega
        obtain ⟨u1, u2, u3, u4⟩ := hsm3 hp2
        have hql' : q < t.ns.length := by omega
        obtain ⟨bd, hbd, hrb⟩ := hW.rs.row Nd.cells_len hql hql'
        have hnd := hW.ns _ (List.getElem_mem hql')
        have hts := hnd.ts
        have r3 : ∀ M, Rd I M ((bd.add (q * 9)).add 8) 1 [.slice t.ns[q].ka t.ns[q].kn t.ns[q].kc] := fun M => (hrb M).part (k := 8) (m := 1) (by decide)
        have r4 : ∀ M, Rd I M ((bd.add (q * 9)).add 5) 1 [.string t.ns[q].t] := fun M => (hrb M).part (k := 5) (m := 1) (by decide)
        generalize hxx : t.ns[q] = nd at hnd hts r3 r4
        refine CodeOb.draw TryzEOK rfl rfl rfl ?_
        refine ArithOb.mk ((p + 1 : Nat) : Int) (wr_eq (by omega) (by omega)) ?_
        refine IdxOb.mk ad k had rfl hkl ?_
        refine LoadOb.mk _ r2 ?_
        refine IdxOb.mk bd q hbd rfl hql ?_
        refine LoadOb.mk _ (r3 _) ?_
        refine ArithOb.mk ((p + 1 + min 2500 nd.kn : Nat) : Int) (wr_eq (by omega) (by omega)) ?_
        refine IdxOb.mk ad k had rfl hkl ?_
        refine LoadOb.mk _ r2 ?_
        refine IdxOb.mk bd q hbd rfl hql ?_
        refine LoadOb.mk _ (r4 _) ?_
        refine DivOb.mk (by decide) ?_
        refine ArithOb.mk ((min 2500 nd.t.size / 20 : Nat) : Int) (wr_eq (by rw [Int.tdiv_eq_ediv_of_nonneg (by omega)]; omega) (by omega)) ?_
        refine ArithOb.mk ((p + 1 + min 2500 nd.kn + min 2500 nd.t.size / 20 : Nat) : Int) (wr_eq (by omega) (by omega)) ?_
        refine ArithOb.mk _ (next_wr (i := q) (by omega)) ?_
        refine ⟨(_, q + 1), ⟨⟨by simp only; omega, by simp only; omega, by simp only; omega, fun h7 => ?_⟩, by simp only; omega⟩, .refl, .cons .refl (.cons .refl (.cons .refl (.cons .refl .nil))), .nil⟩
        simp only at h7 ⊢
        refine ⟨by omega, by omega, u3, fun j hj hj2 => ?_⟩
        by_cases e : j = q
        · subst e
          rw [hxx]
          exact ⟨by omega⟩
        · exact u4 j hj (by omega)
      · have hp2 : 2500 ≤ p := by have := of_decide_eq_false h6; omega
        refine ArithOb.mk _ (next_wr (i := k) (by omega)) ?_
        exact ⟨(p, k + 1), ⟨out fun h => by omega, by simp only; omega⟩, .refl, .cons .refl (.cons .refl (.cons .refl .nil)), .nil⟩
      · have hql : t.n ≤ q := by simpa using h5
        refine ArithOb.mk _ (next_wr (i := k) (by omega)) ?_
        exact ⟨(p, k + 1), ⟨out fun h => by omega, by simp only; omega⟩, .refl, .cons .refl (.cons .refl (.cons .refl .nil)), .nil⟩
    · have hm2 : 2500 ≤ m := by have := of_decide_eq_false h4; omega
      exact ⟨_, _, .sub (List.nil_sublist _) .refl, ⟨_, rfl, fin m hge (alls fun h => by omega) _ rfl⟩, rfl, rfl⟩
    · have hge2 : os.n ≤ k := by simpa [OS.val] using h3
      exact ⟨_, _, .sub (List.nil_sublist _) .refl, ⟨_, rfl, fin m hge (alls fun h => by omega) _ rfl⟩, rfl, rfl⟩
end Go.V

/-
  Flows as an argument has them; a body's flow among a grammar that may be.
-/
set_option linter.unusedVariables false
set_option linter.unusedSimpArgs false
namespace Go.V
open Go Go.Proofs

/-- Flows handed in. -/
structure FA where
  l : List Fl
  a : Option Addr
  n : Nat
  c : Nat
def FA.val (x : FA) : Value := .slice x.a x.n x.c
structure FlW (I : GH) (x : FA) : Prop where
  at_ : FsAt I [] x.a x.n x.l
  n : x.n ≤ 9223372036854775807
theorem FlW.mono {I I' : GH} {x : FA} (h : FlW I x) (hI : ∀ b o, I b = some o → I' b = some o) : FlW I' x := ⟨h.at_.mono hI, h.n⟩

theorem treeP_body {g : Gr} (h : MayF g) {m : List Fl} (hm : m.length = g.n) {d : Df} (hd : d ∈ g.ds) : treeP g m d.t = some (bodyF (placesL g.ds) m d) := by
  unfold treeP nodesP bodyF
  rw [h.right d hd, h.named d hd]
  simp [hm]

end Go.V

/-
  More arguments, opened: flows, a tree.
-/
set_option linter.unusedVariables false
set_option linter.unusedSimpArgs false
namespace Go.V
open Go Go.Proofs

section
variable {H : Type} {enc : TypeId × Value → H} {W : World} {base : Nat} {sp : Nat → Bool} {held : Bool}
theorem open_flow {fuel : Nat} {cs : List Value} {x : DataW H × List MemPlace} (h : DataW.trod enc Tryz.prog W base sp held fuel 51 cs = some x) : ∃ d : Fl, cs = d.cells ∧ True := by
  obtain ⟨fs, ht, hf⟩ : ∃ fs, Tryz.prog.underlying 51 = some (.struct fs) ∧ fs.toList.map (fun f => (f.type, f.offset)) = [(4, 0), (4, 1), (4, 2)] := struct_fields (by kernel_rfl)
  obtain ⟨hl, hi⟩ := open_fields ht h
  have hi : ∀ (i t o : Nat), [(4, 0), (4, 1), (4, 2)][i]? = some (t, o) → ∃ fuel y, DataW.trod enc Tryz.prog W base sp held fuel t ((cs.drop o).take (Tryz.prog.cellsOf t)) = some y := field_at (P := Tryz.prog) hf hi
  rw [show Tryz.prog.cellsOf 51 = 3 by kernel_rfl] at hl
  obtain ⟨c0, c1, c2, rfl⟩ := list3 hl
  obtain ⟨_, _, h0⟩ := hi 0 _ _ rfl
  obtain ⟨_, _, h1⟩ := hi 1 _ _ rfl
  obtain ⟨_, _, h2⟩ := hi 2 _ _ rfl
  rw [show Tryz.prog.cellsOf 4 = 1 by kernel_rfl] at h0 h1 h2
  have hb : Tryz.prog.underlying 4 = some .bool := by kernel_rfl
  obtain ⟨a, e0, -⟩ := DataW.trod_bool hb h0
  obtain ⟨b, e1, -⟩ := DataW.trod_bool hb h1
  obtain ⟨c, e2, -⟩ := DataW.trod_bool hb h2
  simp at e0 e1 e2
  subst e0 e1 e2
  exact ⟨⟨a, b, c⟩, rfl, trivial⟩
set_option maxRecDepth 100000 in
/-- Flows among the arguments. -/
theorem arg_flows {W : World} {base : Nat} {v : Value} {d : DataW H} {p : List MemPlace} (h : DataW.Trod enc Tryz.prog W 0 (fun _ => true) true 34 v d p) (hv : Value.okWide Tryz.prog W .any base 34 v) : ∃ x : FA, v = x.val ∧ FlW (ghost W) x := by
  have ht : Tryz.prog.underlying 34 = some (.slice 51) := by kernel_rfl
  obtain ⟨a, n, c, rfl⟩ := Go.WideShapes.okWide_slice ht hv
  obtain ⟨fuel, hf⟩ := h
  obtain ⟨a', n', c', l, e0, hrs, hn, -, -, hc⟩ := open_rs (f := Fl.cells) (size := 3) (by decide) Fl.cells_len (fun _ => True) ht (by kernel_rfl) (fun fuel cs x h => open_flow h) hf
  have e1 : [Value.slice a n c] = [Value.slice a' n' c'] := e0
  simp only [List.cons.injEq, Value.slice.injEq, and_true] at e1
  obtain ⟨rfl, rfl, rfl⟩ := e1
  refine ⟨⟨l, a, n, c⟩, rfl, ⟨hn, fun j hj => ?_⟩, ?_⟩
  · obtain ⟨ad, h1, h2⟩ := hrs.row Fl.cells_len (j := j) (by have h1 : j < l.length := hj; omega) hj
    exact ⟨ad, h1, h2 []⟩
  · have := hrs.cap.1
    unfold maxLen at hc
    show n ≤ _
    omega
set_option maxRecDepth 100000 in
/-- A tree among the arguments. -/
theorem arg_tree {W : World} {base : Nat} {v : Value} {d : DataW H} {p : List MemPlace} (h : DataW.Trod enc Tryz.prog W 0 (fun _ => true) true 37 v d p) (hv : Value.okWide Tryz.prog W .any base 37 v) : ∃ t : Tr, v = t.val ∧ TrW (ghost W) t := by
  obtain ⟨fs, ht, -⟩ := struct_fields (P := Tryz.prog) (t := 37) (l := [(35, 0), (3, 1)]) (by kernel_rfl)
  obtain ⟨cs, rfl⟩ := agg_of ht hv
  obtain ⟨fuel, hf⟩ := h
  obtain ⟨g, e, hg⟩ := open_tree hf
  refine ⟨g, ?_, hg⟩
  have e' : cs.toList = g.cells := e
  cases cs
  simp only at e'
  subst e'
  rfl
end
end Go.V

/-
  Walks: bonsairef10.Succeeds, Within, seq, choice, Node.
-/
set_option linter.unusedVariables false
set_option linter.unusedSimpArgs false
namespace Go.V
open Go Go.Proofs

theorem neR3_run (x y : Fl) (p q : Operand) (w : World) : (do eqGuard .neq 54 p q x.val y.val; binOp .neq 54 x.val y.val : Sem Value).run Tryz.prog w = .ok (.bool (!decide (x = y))) w := by
  obtain ⟨a, b, c⟩ := x
  obtain ⟨d, e, f⟩ := y
  cases a <;> cases b <;> cases c <;> cases d <;> cases e <;> cases f <;> kernel_rfl
theorem BinOb.neR {x y : Operand} {p q : Fl} {V : Value → Prop} {other : Prop} (h : V (.bool (!decide (p = q)))) : BinOb Tryz.prog .neq 54 x y (.val (.agg #[.bool p.z, .bool p.s, .bool p.f])) (.val (.agg #[.bool q.z, .bool q.s, .bool q.f])) V other :=
  .mk _ _ _ rfl rfl (fun w => neR3_run p q x y w) h

theorem RSuc_spec {I : GH} {M : List Blk} (x : Fl) : Spec Tryz.prog 29 [x.val] I M fun v I' M' => v = .bool x.suc ∧ I' = I ∧ M' = M := by
  obtain ⟨a, b, c⟩ := x
  refine spec_of_V [] TryzEOK Tryz.func29 rfl rfl rfl ?_
  intro B h0
  refine GuardOb.mk (fun h => ?_) (fun h => ?_)
  · exact ⟨_, _, .refl, by rw [show a = false from h]; rfl, rfl, rfl⟩
  · exact ⟨_, _, .refl, by rw [show a = true from h]; rfl, rfl, rfl⟩
theorem RWithin_spec {I : GH} {M : List Blk} (x y : Fl) : Spec Tryz.prog 31 [x.val, y.val] I M fun v I' M' => v = .bool (within x y) ∧ I' = I ∧ M' = M := by
  obtain ⟨a1, a2, a3⟩ := x
  obtain ⟨b1, b2, b3⟩ := y
  refine spec_of_V [] TryzEOK Tryz.func31 rfl rfl rfl ?_
  intro B h0
  repeat' refine GuardOb.mk (fun h => ?_) (fun h => ?_)
  all_goals refine ⟨_, _, .refl, ?_, rfl, rfl⟩
  all_goals first
    | (refine congrArg Value.bool ?_; simp_all [within]; done)
    | (simp_all [within]; done)

section
variable {I : GH} {M : List Blk} {d : Nd} {a : Option Addr} {n c : Nat} {ks : List Fl}
set_option maxHeartbeats 8000000 in
theorem rSeq_spec (hk : FsAt I M a n ks) (hn : n ≤ 140737488355328) : Spec Tryz.prog 76 [.slice a n c] I M fun v I' M' => v = (seqFl ks).val ∧ I' = I ∧ M' = M := by
  refine spec_of_V [] TryzEOK Tryz.func76 rfl rfl rfl ?_
  intro B h0'
  have hkn := hk.n
  refine LoopOb.inv (ι := Nat × (Bool × Bool) × Bool × Bool) (fun x => { fl := [(0, .val (.slice a n c)), (2, .ref 2 0), (3, .ref 3 0), (4, .val (.bool x.2.2.1)), (5, .val (.bool x.2.2.2)), (6, .val (.int .i64 x.1))], cl := [(2, fl0.cells), (3, [.bool x.2.1.1, .bool false, .bool x.2.1.2])], gi := I, mi := M })
    (fun x => x.1 ≤ n ∧ seqGo (ks.take x.1) = (⟨x.2.1.1, x.2.2.2, x.2.1.2⟩, x.2.2.1)) (fun x => n - x.1) ?_ ?_
  · exact ⟨(0, (true, false), true, false), ⟨Nat.zero_le _, rfl⟩, .refl, .cons .refl (.cons .refl (.cons .refl (.cons .lit (.cons .lit (.cons .refl .nil))))), .cons rfl (.cons rfl .nil)⟩
  rintro ⟨i, ⟨z, f⟩, al, so⟩ ⟨hi, hf⟩
  simp only at hi hf
  refine CondOb.mk (fun h => ?_) (fun h => ?_)
  rotate_left
  · have hge : n ≤ i := by have := of_decide_eq_false h; omega
    rw [List.take_of_length_le (by omega)] at hf
    refine GuardOb.mk (fun h2 => ?_) (fun h2 => ?_)
    all_goals refine ⟨_, _, .refl, fl_eq ?_ ?_ ?_, rfl, rfl⟩
    all_goals simp_all [seqFl]
  have hlt : i < n := by have := of_decide_eq_true h; omega
  obtain ⟨ad, had, hrd⟩ := hk.rd i (by omega)
  have hst : ∀ g : Fl × Bool, seqStep (⟨z, so, f⟩, al) (ks[i]'(by omega)) = g → seqGo (ks.take (i + 1)) = g := fun g hg => by
    rw [List.take_succ_eq_append_getElem (by omega), seqGo_snoc, hf, hg]
  generalize ks[i]'(by omega) = k at hrd hst
  obtain ⟨kz, kss, kf⟩ := k
  repeat' first
    | refine GuardOb.mk (fun h => ?_) (fun h => ?_)
    | refine CondOb.mk (fun h => ?_) (fun h => ?_)
    | refine IdxOb.mk ad i had rfl hlt ?_
    | refine LoadOb.mk _ hrd ?_
    | refine LoadOb.mk _ (hrd.part (k := 0) (m := 1) (by decide)) ?_
    | refine LoadOb.mk _ (hrd.part (k := 1) (m := 1) (by decide)) ?_
    | refine LoadOb.mk _ (hrd.part (k := 2) (m := 1) (by decide)) ?_
    | (refine CallOb.mk M [] _ perm_nil (RSuc_spec ⟨kz, kss, kf⟩) ?_; rintro v I' M' - ⟨rfl, rfl, rfl⟩; rw [List.append_nil])
  all_goals refine ArithOb.mk _ (next_wr (i := i) (by omega)) ?_
  all_goals
    first
    | (exfalso; simp_all; done)
    | (refine ⟨(i + 1, ((seqStep (⟨z, so, f⟩, al) ⟨kz, kss, kf⟩).1.z, (seqStep (⟨z, so, f⟩, al) ⟨kz, kss, kf⟩).1.f), (seqStep (⟨z, so, f⟩, al) ⟨kz, kss, kf⟩).2, (seqStep (⟨z, so, f⟩, al) ⟨kz, kss, kf⟩).1.s), ⟨⟨by simp only; omega, hst _ rfl⟩, by simp only; omega⟩, .refl, .cons .refl (.cons .refl (.cons .refl (.cons ?_ (.cons ?_ (.cons .refl .nil))))), .cons rfl (.cons ?_ .nil)⟩
       all_goals clear hst hf hrd
       all_goals first
        | (refine sv_bool ?_; simp_all [seqStep]; done)
        | (refine sv_lit ?_; simp_all [seqStep]; done)
        | (refine congrArg some ?_; simp_all [seqStep] <;> rfl))
set_option maxHeartbeats 8000000 in
theorem rChoice_spec (hk : FsAt I M a n ks) (hn : n ≤ 140737488355328) : Spec Tryz.prog 77 [.slice a n c] I M fun v I' M' => v = (chFl ks).val ∧ I' = I ∧ M' = M := by
  refine spec_of_V [] TryzEOK Tryz.func77 rfl rfl rfl ?_
  intro B h0'
  have hkn := hk.n
  refine LoopOb.inv (ι := Nat × Fl) (fun x => { fl := [(0, .val (.slice a n c)), (2, .ref 2 0), (3, .ref 3 0), (4, .val (.bool x.2.f)), (5, .val (.int .i64 x.1))], cl := [(2, fl0.cells), (3, [.bool x.2.z, .bool x.2.s, .bool false])], gi := I, mi := M })
    (fun x => x.1 ≤ n ∧ (ks.take x.1).foldl chStep ⟨false, false, true⟩ = x.2) (fun x => n - x.1) ?_ ?_
  · exact ⟨(0, ⟨false, false, true⟩), ⟨Nat.zero_le _, rfl⟩, .refl, .cons .refl (.cons .refl (.cons .refl (.cons .lit (.cons .refl .nil)))), .cons rfl (.cons rfl .nil)⟩
  rintro ⟨i, ⟨z, s, f⟩⟩ ⟨hi, hf⟩
  simp only at hi hf
  refine CondOb.mk (fun h => ?_) (fun h => ?_)
  rotate_left
  · have hge : n ≤ i := by have := of_decide_eq_false h; omega
    rw [List.take_of_length_le (by omega)] at hf
    refine ⟨_, _, .refl, fl_eq ?_ ?_ ?_, rfl, rfl⟩
    all_goals rw [chFl, hf]
  have hlt : i < n := by have := of_decide_eq_true h; omega
  obtain ⟨ad, had, hrd⟩ := hk.rd i (by omega)
  have hst : ∀ g : Fl, chStep ⟨z, s, f⟩ (ks[i]'(by omega)) = g → (ks.take (i + 1)).foldl chStep ⟨false, false, true⟩ = g := fun g hg => by
    rw [List.take_succ_eq_append_getElem (by omega), List.foldl_append, hf, ← hg]
    rfl
  generalize ks[i]'(by omega) = k at hrd hst
  obtain ⟨kz, kss, kf⟩ := k
  repeat' first
    | refine GuardOb.mk (fun h => ?_) (fun h => ?_)
    | refine CondOb.mk (fun h => ?_) (fun h => ?_)
    | refine IdxOb.mk ad i had rfl hlt ?_
    | refine LoadOb.mk _ (hrd.part (k := 0) (m := 1) (by decide)) ?_
    | refine LoadOb.mk _ (hrd.part (k := 1) (m := 1) (by decide)) ?_
    | refine LoadOb.mk _ (hrd.part (k := 2) (m := 1) (by decide)) ?_
  all_goals refine ArithOb.mk _ (next_wr (i := i) (by omega)) ?_
  all_goals
    first
    | (exfalso; simp_all; done)
    | (refine ⟨(i + 1, chStep ⟨z, s, f⟩ ⟨kz, kss, kf⟩), ⟨⟨by simp only; omega, hst _ rfl⟩, by simp only; omega⟩, .refl, .cons .refl (.cons .refl (.cons .refl (.cons ?_ (.cons .refl .nil)))), .cons rfl (.cons ?_ .nil)⟩
       all_goals clear hst hf hrd
       all_goals first
        | (refine sv_bool ?_; simp_all [chStep]; done)
        | (refine sv_lit ?_; simp_all [chStep]; done)
        | (refine congrArg some ?_; simp_all [chStep] <;> rfl))

/-- What a node comes to; rule: a Rule's. -/
def comeR (d : Nd) (ks : List Fl) (rule : Fl) : Fl := bif decide (d.k = 3) then rule else comeFl d ks
set_option maxHeartbeats 8000000 in
theorem rNode_spec (hd : 0 ≤ d.k ∧ d.k < 10) (hk : FsAt I M a n ks) (hn : n ≤ 140737488355328) (h6 : 6 ≤ d.k → 0 < n) (rule : Fl) : Spec Tryz.prog 57 [d.val, .slice a n c, rule.val] I M fun v I' M' => v = (comeR d ks rule).val ∧ I' = I ∧ M' = M := by
  refine spec_of_V [] TryzEOK Tryz.func57 rfl rfl rfl ?_
  intro B h0'
  have hhd := fun h0 => hk.head h0
  refine CondOb.mk (fun e => ?_) (fun e0 => ?_)
  · exact ⟨_, _, .refl, by simp at e; simp [comeR, comeFl, e]; rfl, rfl, rfl⟩
  refine CondOb.mk (fun e => ?_) (fun e1 => ?_)
  · refine BinOb.ne4 TryzEOK (e := 63) rfl rfl rfl rfl (by kernel_rfl) ?_
    exact ⟨_, _, .refl, by rw [show comeR d ks rule = ⟨false, !d.setZ, true⟩ by simp at e; simp [comeR, comeFl, e]]; rfl, rfl, rfl⟩
  refine CondOb.mk (fun e => ?_) (fun e2 => ?_)
  · exact ⟨_, _, .refl, by simp at e; simp [comeR, comeFl, e]; rfl, rfl, rfl⟩
  refine CondOb.mk (fun e => ?_) (fun e3 => ?_)
  · exact ⟨_, _, .refl, by simp at e; simp [comeR, comeFl, e]; rfl, rfl, rfl⟩
  refine CondOb.mk (fun e => ?_) (fun e4 => ?_)
  · refine CallOb.mk M [] _ perm_nil (rSeq_spec hk hn) ?_
    rintro v I' M' - ⟨rfl, rfl, rfl⟩
    rw [List.append_nil]
    exact ⟨_, _, .refl, by simp at e; simp [comeR, comeFl, e]; rfl, rfl, rfl⟩
  refine CondOb.mk (fun e => ?_) (fun e5 => ?_)
  · refine CallOb.mk M [] _ perm_nil (rChoice_spec hk hn) ?_
    rintro v I' M' - ⟨rfl, rfl, rfl⟩
    rw [List.append_nil]
    exact ⟨_, _, .refl, by simp at e; simp [comeR, comeFl, e]; rfl, rfl, rfl⟩
  simp at e0 e1 e2 e3 e4 e5
  have h0 : 0 < n := h6 (by omega)
  obtain ⟨ad, had, hrd⟩ := hhd h0
  have hc0 : ∀ x : Fl, comeR d ks rule = x → comeR d ks rule = x := fun _ h => h
  refine CondOb.mk (fun e => ?_) (fun e6 => ?_)
  · have hce : comeR d ks rule = repFl d (ks.headD fl0) := by simp at e; simp [comeR, comeFl, e]
    rw [hce]
    generalize ks.headD fl0 = k at hrd
    obtain ⟨kz, kss, kf⟩ := k
    refine CondOb.mk (fun h => ?_) (fun h => ?_)
    · refine ⟨_, _, .refl, fl_eq ?_ ?_ ?_, rfl, rfl⟩ <;> simp [repFl, h]
    refine CodeOb.draw TryzEOK rfl rfl rfl ?_
    repeat' first
      | refine GuardOb.mk (fun h => ?_) (fun h => ?_)
      | refine IdxOb.mk ad 0 had rfl h0 ?_
      | refine LoadOb.mk _ (hrd.part (k := 0) (m := 1) (by decide)) ?_
      | refine LoadOb.mk _ (hrd.part (k := 1) (m := 1) (by decide)) ?_
      | refine LoadOb.mk _ (hrd.part (k := 2) (m := 1) (by decide)) ?_
    all_goals refine ⟨_, _, .refl, fl_eq ?_ ?_ ?_, rfl, rfl⟩
    all_goals first | (simp_all [repFl]; done) | (simp_all [repFl]; intros; omega)
  refine CondOb.mk (fun e => ?_) (fun e7 => ?_)
  · have hce : comeR d ks rule = ⟨(ks.headD fl0).suc, false, (ks.headD fl0).f⟩ := by simp at e; simp [comeR, comeFl, e]
    rw [hce]
    refine CodeOb.draw TryzEOK rfl rfl rfl ?_
    refine IdxOb.mk ad 0 had rfl h0 ?_
    refine LoadOb.mk _ hrd ?_
    refine IdxOb.mk ad 0 had rfl h0 ?_
    refine LoadOb.mk _ (hrd.part (k := 2) (m := 1) (by decide)) ?_
    refine PCallOb.mkR M [] _ perm_nil (RSuc_spec (ks.headD fl0)) (fun v I' M' h x hx => by rw [h.2.2]; exact hx) ?_
    rintro v I' M' - ⟨rfl, rfl, rfl⟩
    rw [List.append_nil]
    exact ⟨_, _, .refl, rfl, rfl, rfl⟩
  refine CondOb.mk (fun e => ?_) (fun e8 => ?_)
  · have hce : comeR d ks rule = ⟨(ks.headD fl0).f, false, (ks.headD fl0).suc⟩ := by simp at e; simp [comeR, comeFl, e]
    rw [hce]
    refine CodeOb.draw TryzEOK rfl rfl rfl ?_
    refine IdxOb.mk ad 0 had rfl h0 ?_
    refine LoadOb.mk _ (hrd.part (k := 2) (m := 1) (by decide)) ?_
    refine IdxOb.mk ad 0 had rfl h0 ?_
    refine LoadOb.mk _ hrd ?_
    refine PCallOb.mkR M [] _ perm_nil (RSuc_spec (ks.headD fl0)) (fun v I' M' h x hx => by rw [h.2.2]; exact hx) ?_
    rintro v I' M' - ⟨rfl, rfl, rfl⟩
    rw [List.append_nil]
    exact ⟨_, _, .refl, rfl, rfl, rfl⟩
  simp at e6 e7 e8
  have hce : comeR d ks rule = ks.headD fl0 := by simp [comeR, comeFl, e0, e1, e2, e3, e4, e5, e6, e7, e8]
  rw [hce]
  refine IdxOb.mk ad 0 had rfl h0 ?_
  refine LoadOb.mk _ hrd ?_
  exact ⟨_, _, .refl, rfl, rfl, rfl⟩
end
end Go.V

/-
  Walks: bonsairef10.Nodes, Tree.
-/
set_option linter.unusedVariables false
set_option linter.unusedSimpArgs false
namespace Go.V
open Go Go.Proofs

theorem firstAt_find (nm : ByteArray) : ∀ (ds : List Df) (i : Nat), firstAt nm ds i = bif decide (findAt nm ds i < 0) then none else some (findAt nm ds i)
  | [], i => rfl
  | d :: ds, i => by
    unfold firstAt findAt
    rw [show decide (nm = d.name) = decide (d.name = nm) by rw [Bool.eq_iff_iff]; simp [eq_comm]]
    cases decide (d.name = nm) with
    | true =>
      rw [cond_true, cond_true, decide_eq_false (by omega)]
      rfl
    | false =>
      rw [cond_false, cond_false]
      exact firstAt_find nm ds (i + 1)
theorem look_find (nm : ByteArray) (ds : List Df) : lookM nm (placesL ds) = bif decide (findAt nm ds 0 < 0) then none else some (findAt nm ds 0) := by
  rw [places_first, firstAt_find]
theorem nodesF_app (pl : List (ByteArray × Int)) (fl : List Fl) : ∀ (ds es : List Nd) (acc : List Fl), nodesF pl fl (ds ++ es) acc = nodesF pl fl es (nodesF pl fl ds acc)
  | [], es, acc => rfl
  | d :: ds, es, acc => by
    rw [List.cons_append, nodesF, nodesF, nodesF_app]

set_option maxRecDepth 100000 in
set_option maxHeartbeats 16000000 in
theorem RFNodes_spec {I : GH} {M0 : List Blk} {g : Gr} (hg : g.ok I) {t : Tr} (ht : t.ok I) {W : Nat} (hf : Fit t W) {la : Option Addr} {ln lc : Nat} {fl : List Fl} (hfl : FsAt I M0 la ln fl) :
    Spec Tryz.prog 23 [g.val, .slice la ln lc, t.val] I M0 fun v I' M' => I' = I ∧
      ((nodesP g fl t = none ∧ v = .tuple #[.slice none 0 0, .bool false] ∧ M' = M0) ∨ ∃ (r : List Fl) (os : OS), nodesP g fl t = some r ∧ os.ok 3 (r.flatMap Fl.cells) ∧ v = .tuple #[os.val, .bool true] ∧ M' = os.blk 54 ++ M0) := by
  refine spec_of_V [] TryzEOK Tryz.func23 rfl rfl rfl ?_
  intro B h0
  have hgn := hg.n
  have htn := ht.n
  have hcap := ht.rs.cap
  have hfn := hfl.n
  have hfnn := hf.n
  refine CallOb.mk [] M0 _ (.refl _) (RRight_gen ht W hf.w hf.b) ?_
  rintro v I1 M1 - ⟨rfl, rfl, rfl⟩
  rw [List.nil_append]
  refine GuardOb.mk (fun hr => ?_) (fun hr => ?_)
  rotate_left
  · refine ⟨_, _, .refl, rfl, .inl ⟨?_, rfl, rfl⟩⟩
    have : right t = false := by simpa using hr
    simp [nodesP, this]
  have hr : right t = true := by simpa using hr
  refine CondOb.mk (fun h => ?_) (fun h => ?_)
  · refine ⟨_, _, .refl, rfl, .inl ⟨?_, rfl, rfl⟩⟩
    have hne : ¬ (ln : Int) = (g.n : Int) := by simpa using h
    have : decide (fl.length = g.n) = false := decide_eq_false (by omega)
    simp [nodesP, this]
  have hln : ln = g.n := by
    have : (ln : Int) = (g.n : Int) := by simpa using h
    omega
  have hd1 : decide (fl.length = g.n) = true := decide_eq_true (by omega)
  refine LoopOb.inv (ι := Nat × OS) (fun x => { fl := [(1, .val (.slice la ln lc)), (3, .ref 3 0), (5, .ref 5 0), (8, .val x.2.val), (9, .val (.int .i64 x.1))], cl := [(3, [.slice g.a g.n g.c]), (5, t.cells)], gi := I1, mi := x.2.blk 54 ++ M0 })
    (fun x => x.1 ≤ t.n ∧ x.2.ok 3 ((nodesF (placesL g.ds) fl (t.ns.take x.1) []).flatMap Fl.cells) ∧ ∀ d ∈ t.ns.take x.1, (!decide (d.k = 3) || (lookM d.t (placesL g.ds)).isSome) = true) (fun x => t.n - x.1) ?_ ?_
  · exact ⟨(0, OS0), ⟨Nat.zero_le _, OS0_ok 3, fun d hd => by simp at hd⟩, .refl, .cons .refl (.cons .refl (.cons .refl (.cons .refl (.cons .refl (.nil))))), .cons rfl (.cons rfl (.nil))⟩
  rintro ⟨i, os⟩ ⟨hi, hos, hnm⟩
  simp only at hi hos hnm
  refine CondOb.mk (fun h => ?_) (fun h => ?_)
  rotate_left
  · have hge : i = t.n := by have : ¬ (i : Int) < (t.n : Int) := of_decide_eq_false h; omega
    rw [List.take_of_length_le (by omega)] at hnm hos
    have hno : namedOk (placesL g.ds) t.ns = true := List.all_eq_true.2 hnm
    exact ⟨_, _, .refl, rfl, .inr ⟨_, os, by rw [nodesP, hd1, hr, hno]; rfl, hos, rfl, rfl⟩⟩
  have hlt : i < t.n := by have : (i : Int) < (t.n : Int) := of_decide_eq_true h; omega
  have hlt' : i < t.ns.length := by omega
  obtain ⟨ad, had, hrd⟩ := ht.rs.row Nd.cells_len hlt hlt'
  have hdm := List.getElem_mem hlt'
  have hd := ht.ns _ hdm
  have hkn := hd.kn
  have hkc := hd.rs.cap
  have hkv := right_kids hr i hlt'
  have hft := right_fits hr hlt'
  have hacl := nodesF_len (placesL g.ds) fl (t.ns.take i) []
  rw [List.length_take_of_le (by omega), List.length_nil, Nat.zero_add] at hacl
  have hsn : nodesF (placesL g.ds) fl (t.ns.take (i + 1)) [] = nodesF (placesL g.ds) fl (t.ns.take i) [] ++ [comeFl t.ns[i] (kidsF (placesL g.ds) fl (nodesF (placesL g.ds) fl (t.ns.take i) []) t.ns[i])] := by
    rw [List.take_succ_eq_append_getElem hlt', nodesF_app, nodesF, nodesF]
  generalize nodesF (placesL g.ds) fl (t.ns.take i) [] = acc at hos hacl hsn
  have hosn : os.n = acc.length := by have := hos.len; rw [fl_len] at this; omega
  have hnext : (!decide (t.ns[i].k = 3) || (lookM t.ns[i].t (placesL g.ds)).isSome) = true → ∀ d ∈ t.ns.take (i + 1), (!decide (d.k = 3) || (lookM d.t (placesL g.ds)).isSome) = true := fun h d hd => by
    rw [List.take_succ_eq_append_getElem hlt'] at hd
    rcases List.mem_append.1 hd with hd | hd
    · exact hnm d hd
    · simp only [List.mem_singleton] at hd
      rw [hd]
      exact h
  have hbad : decide (t.ns[i].k = 3) = true → (lookM t.ns[i].t (placesL g.ds)).isSome = false → nodesP g fl t = none := fun e1 e2 => by
    have h5 : namedOk (placesL g.ds) t.ns = false := by
      rw [namedOk, List.all_eq_false]
      exact ⟨_, hdm, by rw [e1, e2]; simp⟩
    simp [nodesP, h5]
  generalize t.ns[i] = d at hrd hd hkn hkc hkv hft hsn hnext hbad
  have hk0 := hd.k.1
  have hk10 := fits_k hft
  refine IdxOb.mk ad i had rfl hlt ?_
  refine LoadOb.mk _ (hrd _) ?_
  refine CondOb.mk (fun h3 => ?_) (fun h3 => ?_)
  · have e3 : d.k = 3 := by simpa using h3
    refine CallOb.mk [] (os.blk 54 ++ M0) _ (.refl _) (RFind_spec hg d.t) ?_
    rintro v I2 M2 - ⟨rfl, rfl, rfl⟩
    rw [List.nil_append]
    have hlk := look_find d.t g.ds
    refine CondOb.mk (fun h4 => ?_) (fun h4 => ?_)
    · refine ⟨_, M0, .sub (List.sublist_append_right _ _) .refl, rfl, .inl ⟨hbad (decide_eq_true e3) ?_, rfl, rfl⟩⟩
      rw [hlk, show decide (findAt d.t g.ds 0 < 0) = true from h4]
      rfl
    · have h4' : ¬ findAt d.t g.ds 0 < 0 := of_decide_eq_false h4
      rw [show decide (findAt d.t g.ds 0 < 0) = false from h4, cond_false] at hlk
      obtain ⟨q, hq⟩ := Int.eq_ofNat_of_zero_le (by omega : 0 ≤ findAt d.t g.ds 0)
      have hlk' := hlk
      rw [places_first] at hlk'
      obtain ⟨j, hj1, hj2⟩ := firstAt_lt hlk'
      have hql : q < fl.length := by omega
      obtain ⟨al, hal, hrl⟩ := hfl.rd q hql
      refine IdxOb.mk al q hal hq (by omega) ?_
      refine LoadOb.mk _ (hrl.sub fun x hx => by simp [hx]) ?_
      obtain ⟨rule, hrule⟩ : ∃ rule : Fl, rule = fl[q] := ⟨_, rfl⟩
      have hcome : ∀ kl : List Fl, kl = d.kids.map (fun k => acc.getD k.toNat fl0) → comeR d kl rule = comeFl d (kidsF (placesL g.ds) fl acc d) := fun kl hkl => by
        have h0 : d.kids = [] := by
          have := (fits_more hk0 hft).leaf (by omega)
          exact List.eq_nil_of_length_eq_zero (by omega)
        rw [comeR, e3, kidsF, h0, e3, hlk, hq]
        simp [comeFl, e3, hrule, List.getD_eq_getElem?_getD, hql]
      have hnx := hnext (by rw [hlk]; simp)
      have hcell : fl[q].cells = rule.cells := by rw [hrule]
      have hsn' := hsn
      clear hsn hnext hbad hlk hlk' hq hrl hal
      refine LoopOb.inv (ι := Nat × OS × List Fl) (fun x => { fl := [(1, .val (.slice la ln lc)), (3, .ref 3 0), (5, .ref 5 0), (8, .val os.val), (9, .val (.int .i64 i)), (10, .ref 10 0), (11, .ref 11 0), (13, .val x.2.1.val), (14, .val (.int .i64 x.1))], cl := [(3, [.slice g.a g.n g.c]), (5, t.cells), (10, d.cells), (11, rule.cells)], gi := I2, mi := x.2.1.blk 54 ++ (os.blk 54 ++ M0) })
        (fun x => x.1 ≤ d.kn ∧ x.2.1.ok 3 (x.2.2.flatMap Fl.cells) ∧ x.2.2 = (d.kids.take x.1).map fun k => acc.getD k.toNat fl0) (fun x => d.kn - x.1) ?_ ?_
      · exact ⟨(0, OS0, []), ⟨Nat.zero_le _, OS0_ok 3, rfl⟩, .refl, .cons .refl (.cons .refl (.cons .refl (.cons .refl (.cons .refl (.cons .refl (.cons .refl (.cons .refl (.cons .refl (.nil))))))))), .cons rfl (.cons rfl (.cons rfl (.cons (congrArg some hcell) .nil)))⟩
      rintro ⟨k, kl', kl⟩ ⟨hk, hk2, hkl⟩
      simp only at hk hk2 hkl
      have hk2n : kl'.n = kl.length := by have := hk2.len; rw [fl_len] at this; omega
      have hkll : kl.length ≤ k := by rw [hkl, List.length_map]; exact List.length_take_le _ _
      refine CondOb.mk (fun h => ?_) (fun h => ?_)
      · have hkk : k < d.kn := by have : (k : Int) < (d.kn : Int) := of_decide_eq_true h; omega
        have hkk' : k < d.kids.length := by omega
        obtain ⟨ak, hak, hrk⟩ := hd.rs.one hkk hkk'
        have hq := hkv _ (List.getElem_mem hkk')
        have hql : d.kids[k].toNat < acc.length := by omega
        obtain ⟨ao, hao, hro⟩ := OS.ok.row (I := I2) (M := kl'.blk 54 ++ (os.blk 54 ++ M0)) (e := 54) Fl.cells_len (by decide) hos (fun x hx => by simp [hx]) hql
        refine IdxOb.mk ak k hak rfl hkk ?_
        refine LoadOb.mk _ (hrk _) ?_
        refine IdxOb.mk ao d.kids[k].toNat hao (by omega) (by omega) ?_
        refine LoadOb.mk _ hro ?_
        refine AllocOb.mk fun b9 hb9 hbM9 => ?_
        refine OtherOb.app1 TryzEOK rfl (by simp) (e := 54) rfl rfl rfl kl' hk2 rfl (cs := acc[d.kids[k].toNat].cells) rfl rfl rfl [] (os.blk 54 ++ M0) rfl (by omega) (by show (kl'.n + 1) * 3 ≤ _; omega) ?_
        intro os2 hn2 hI2 hok2
        refine ArithOb.mk _ (next_wr (i := k) (by omega)) ?_
        refine ⟨(k + 1, os2, kl ++ [acc[d.kids[k].toNat]]), ⟨⟨by simp only; omega, ?_, ?_⟩, by simp only; omega⟩, .refl, .cons .refl (.cons .refl (.cons .refl (.cons .refl (.cons .refl (.cons .refl (.cons .refl (.cons .refl (.cons .refl (.nil))))))))), .cons rfl (.cons rfl (.cons rfl (.cons rfl (.nil))))⟩
        · simp only
          rw [flat_snoc]
          exact hok2
        · simp only
          rw [List.take_succ_eq_append_getElem hkk', List.map_append, ← hkl]
          simp [List.getD_eq_getElem?_getD, hql]
      · have hge : d.kn ≤ k := by have : ¬ (k : Int) < (d.kn : Int) := of_decide_eq_false h; omega
        rw [List.take_of_length_le (by omega)] at hkl
        have hkln : kl.length = d.kids.length := by rw [hkl, List.length_map]
        have hks := OS.fsAt (I := I2) (M := kl'.blk 54 ++ (os.blk 54 ++ M0)) (e := 54) hk2 (fun x hx => by simp [hx])
        refine CallOb.mk (kl'.blk 54 ++ (os.blk 54 ++ M0)) [] _ perm_nil (rNode_spec ⟨hk0, hk10⟩ hks (by omega) (fun h6 => by have := fits_kid hk0 hft h6; omega) rule) ?_
        rintro v I3 M3 - ⟨rfl, rfl, rfl⟩
        rw [List.append_nil]
        refine AllocOb.mk fun b9 hb9 hbM9 => ?_
        refine OtherOb.app1 TryzEOK rfl (by simp) (e := 54) rfl rfl rfl os hos rfl (cs := (comeR d kl rule).cells) rfl rfl rfl (kl'.blk 54) M0 rfl (by omega) (by show (os.n + 1) * 3 ≤ _; omega) ?_
        intro os2 hn2 hI2 hok2
        refine ArithOb.mk _ (next_wr (i := i) (by omega)) ?_
        refine ⟨(i + 1, os2), ⟨⟨by simp only; omega, ?_, hnx⟩, by simp only; omega⟩, .sub (List.sublist_append_right _ _) .refl, .cons .refl (.cons .refl (.cons .refl (.cons .refl (.cons .refl (.nil))))), .cons rfl (.cons rfl (.nil))⟩
        simp only
        rw [hsn', flat_snoc, ← hcome kl hkl]
        exact hok2
  · have e3 : ¬ d.k = 3 := by simpa using h3
    obtain ⟨rule, hrule⟩ : ∃ rule : Fl, rule = fl0 := ⟨_, rfl⟩
    have hcome : ∀ kl : List Fl, kl = d.kids.map (fun k => acc.getD k.toNat fl0) → comeR d kl rule = comeFl d (kidsF (placesL g.ds) fl acc d) := fun kl hkl => by
      rw [comeR, kidsF, decide_eq_false e3, cond_false, cond_false, List.append_nil, hkl]
    have hnx := hnext (by rw [decide_eq_false e3]; rfl)
    have hcell : fl0.cells = rule.cells := by rw [hrule]
    have hsn' := hsn
    clear hsn hnext hbad
    refine LoopOb.inv (ι := Nat × OS × List Fl) (fun x => { fl := [(1, .val (.slice la ln lc)), (3, .ref 3 0), (5, .ref 5 0), (8, .val os.val), (9, .val (.int .i64 i)), (10, .ref 10 0), (11, .ref 11 0), (13, .val x.2.1.val), (14, .val (.int .i64 x.1))], cl := [(3, [.slice g.a g.n g.c]), (5, t.cells), (10, d.cells), (11, rule.cells)], gi := I1, mi := x.2.1.blk 54 ++ (os.blk 54 ++ M0) })
      (fun x => x.1 ≤ d.kn ∧ x.2.1.ok 3 (x.2.2.flatMap Fl.cells) ∧ x.2.2 = (d.kids.take x.1).map fun k => acc.getD k.toNat fl0) (fun x => d.kn - x.1) ?_ ?_
    · exact ⟨(0, OS0, []), ⟨Nat.zero_le _, OS0_ok 3, rfl⟩, .refl, .cons .refl (.cons .refl (.cons .refl (.cons .refl (.cons .refl (.cons .refl (.cons .refl (.cons .refl (.cons .refl (.nil))))))))), .cons rfl (.cons rfl (.cons rfl (.cons (congrArg some hcell) .nil)))⟩
    rintro ⟨k, kl', kl⟩ ⟨hk, hk2, hkl⟩
    simp only at hk hk2 hkl
    have hk2n : kl'.n = kl.length := by have := hk2.len; rw [fl_len] at this; omega
    have hkll : kl.length ≤ k := by rw [hkl, List.length_map]; exact List.length_take_le _ _
    refine CondOb.mk (fun h => ?_) (fun h => ?_)
    · have hkk : k < d.kn := by have : (k : Int) < (d.kn : Int) := of_decide_eq_true h; omega
      have hkk' : k < d.kids.length := by omega
      obtain ⟨ak, hak, hrk⟩ := hd.rs.one hkk hkk'
      have hq := hkv _ (List.getElem_mem hkk')
      have hql : d.kids[k].toNat < acc.length := by omega
      obtain ⟨ao, hao, hro⟩ := OS.ok.row (I := I1) (M := kl'.blk 54 ++ (os.blk 54 ++ M0)) (e := 54) Fl.cells_len (by decide) hos (fun x hx => by simp [hx]) hql
      refine IdxOb.mk ak k hak rfl hkk ?_
      refine LoadOb.mk _ (hrk _) ?_
      refine IdxOb.mk ao d.kids[k].toNat hao (by omega) (by omega) ?_
      refine LoadOb.mk _ hro ?_
      refine AllocOb.mk fun b9 hb9 hbM9 => ?_
      refine OtherOb.app1 TryzEOK rfl (by simp) (e := 54) rfl rfl rfl kl' hk2 rfl (cs := acc[d.kids[k].toNat].cells) rfl rfl rfl [] (os.blk 54 ++ M0) rfl (by omega) (by show (kl'.n + 1) * 3 ≤ _; omega) ?_
      intro os2 hn2 hI2 hok2
      refine ArithOb.mk _ (next_wr (i := k) (by omega)) ?_
      refine ⟨(k + 1, os2, kl ++ [acc[d.kids[k].toNat]]), ⟨⟨by simp only; omega, ?_, ?_⟩, by simp only; omega⟩, .refl, .cons .refl (.cons .refl (.cons .refl (.cons .refl (.cons .refl (.cons .refl (.cons .refl (.cons .refl (.cons .refl (.nil))))))))), .cons rfl (.cons rfl (.cons rfl (.cons rfl (.nil))))⟩
      · simp only
        rw [flat_snoc]
        exact hok2
      · simp only
        rw [List.take_succ_eq_append_getElem hkk', List.map_append, ← hkl]
        simp [List.getD_eq_getElem?_getD, hql]
    · have hge : d.kn ≤ k := by have : ¬ (k : Int) < (d.kn : Int) := of_decide_eq_false h; omega
      rw [List.take_of_length_le (by omega)] at hkl
      have hkln : kl.length = d.kids.length := by rw [hkl, List.length_map]
      have hks := OS.fsAt (I := I1) (M := kl'.blk 54 ++ (os.blk 54 ++ M0)) (e := 54) hk2 (fun x hx => by simp [hx])
      refine CallOb.mk (kl'.blk 54 ++ (os.blk 54 ++ M0)) [] _ perm_nil (rNode_spec ⟨hk0, hk10⟩ hks (by omega) (fun h6 => by have := fits_kid hk0 hft h6; omega) rule) ?_
      rintro v I3 M3 - ⟨rfl, rfl, rfl⟩
      rw [List.append_nil]
      refine AllocOb.mk fun b9 hb9 hbM9 => ?_
      refine OtherOb.app1 TryzEOK rfl (by simp) (e := 54) rfl rfl rfl os hos rfl (cs := (comeR d kl rule).cells) rfl rfl rfl (kl'.blk 54) M0 rfl (by omega) (by show (os.n + 1) * 3 ≤ _; omega) ?_
      intro os2 hn2 hI2 hok2
      refine ArithOb.mk _ (next_wr (i := i) (by omega)) ?_
      refine ⟨(i + 1, os2), ⟨⟨by simp only; omega, ?_, hnx⟩, by simp only; omega⟩, .sub (List.sublist_append_right _ _) .refl, .cons .refl (.cons .refl (.cons .refl (.cons .refl (.cons .refl (.nil))))), .cons rfl (.cons rfl (.nil))⟩
      simp only
      rw [hsn', flat_snoc, ← hcome kl hkl]
      exact hok2

theorem RFTree_spec {I : GH} {M0 : List Blk} {g : Gr} (hg : g.ok I) {t : Tr} (ht : t.ok I) {W : Nat} (hf : Fit t W) {la : Option Addr} {ln lc : Nat} {fl : List Fl} (hfl : FsAt I M0 la ln fl) :
    Spec Tryz.prog 26 [g.val, .slice la ln lc, t.val] I M0 fun v I' M' => I' = I ∧ M' = M0 ∧
      v = .tuple #[((treeP g fl t).getD fl0).val, .bool (treeP g fl t).isSome] := by
  refine spec_of_V [] TryzEOK Tryz.func26 rfl rfl rfl ?_
  intro B h0
  have htn := ht.n
  refine CallOb.mk M0 [] _ perm_nil (RFNodes_spec hg ht hf hfl) ?_
  rintro v I1 M1 - ⟨rfl, ⟨hn, rfl, rfl⟩ | ⟨r, os, hn, hos, rfl, rfl⟩⟩
  · rw [List.append_nil]
    refine CondOb.mk (fun _ => ?_) (fun h => by simp at h)
    exact ⟨_, _, .refl, rfl, rfl, by rw [treeP, hn]; rfl⟩
  · obtain ⟨hr, hrl⟩ := nodesP_len hn
    have hroot := right_root hr
    rw [List.append_nil]
    refine CondOb.mk (fun h => by simp at h) (fun _ => ?_)
    have hrl' : t.root.toNat < r.length := by omega
    have hosn : os.n = r.length := by have := hos.len; rw [fl_len] at this; omega
    obtain ⟨ad, had, hrd⟩ := OS.ok.row (I := I1) (M := os.blk 54 ++ M0) Fl.cells_len (by decide) hos (fun x hx => List.mem_append.2 (.inl hx)) hrl'
    refine IdxOb.mk ad t.root.toNat had (by omega) (by omega) ?_
    refine LoadOb.mk _ hrd ?_
    refine ⟨_, M0, .sub (List.sublist_append_right _ _) .refl, rfl, rfl, ?_⟩
    rw [treeP, hn]
    simp only [Option.map_some, Option.getD_some, Option.isSome_some, List.getD_eq_getElem?_getD, List.getElem?_eq_getElem hrl']
    rfl
end Go.V

/-
  Walks: bonsairef10.Of (all rules at once, round by round), bonsailaw10.told, same.
-/
set_option linter.unusedVariables false
set_option linter.unusedSimpArgs false
namespace Go.V
open Go Go.Proofs

/-! ### Plain: all rules at once -/
def jacF (ds : List Df) : Nat → List Fl
  | 0 => List.replicate ds.length fl0
  | n + 1 => ds.map (bodyF (placesL ds) (jacF ds n))
theorem map_getD {ds : List Df} {f : Df → Fl} {i : Nat} (h : i < ds.length) : (ds.map f).getD i fl0 = f ds[i] := by simp [List.getD_eq_getElem?_getD, h]
theorem PreF.all {ds : List Df} {l : List Fl} (h : PreF ds l) : PreF ds (ds.map (bodyF (placesL ds) l)) ∧ LeL l (ds.map (bodyF (placesL ds) l)) := by
  have hle : LeL l (ds.map (bodyF (placesL ds) l)) := LeL.of (by simp [h.len]) fun i hi => by
    rw [map_getD (by rw [← h.len]; exact hi)]
    exact h.up i _
  refine ⟨⟨by simp, fun i hi => ?_, fun m hm hc => LeL.of (by simp [hm]) fun i hi => ?_⟩, hle⟩
  · rw [map_getD hi]
    exact body_mono hle _
  · have hi' : i < ds.length := by simpa using hi
    rw [map_getD hi']
    exact (body_mono (h.least m hm hc) _).trans (hc i hi')
theorem jacF_pre (ds : List Df) : ∀ n, PreF ds (jacF ds n)
  | 0 => .start ds
  | n + 1 => (jacF_pre ds n).all.1
theorem offs_rep (n : Nat) : offs (List.replicate n fl0) = 3 * n := by
  induction n with
  | zero => rfl
  | succ n ih =>
    rw [List.replicate_succ]
    simp only [offs, List.map_cons, List.sum_cons] at ih ⊢
    rw [ih, show offF fl0 = 3 from rfl]
    omega
theorem jacF_stable (ds : List Df) : ∀ n, jacF ds (n + 1) = jacF ds n ∨ offs (jacF ds n) + n ≤ 3 * ds.length
  | 0 => .inr (by rw [jacF, offs_rep]; omega)
  | n + 1 => by
    rcases jacF_stable ds n with h | h
    · left
      rw [jacF, h]
      exact h
    · by_cases e : jacF ds (n + 1) = jacF ds n
      · left
        rw [jacF, e]
        exact e
      · right
        have := offs_lt (jacF_pre ds n).all.2 e
        have e2 : ds.map (bodyF (placesL ds) (jacF ds n)) = jacF ds (n + 1) := rfl
        rw [e2] at this
        omega
theorem jacF_flow (ds : List Df) {n : Nat} (hn : 3 * ds.length < n) : IsFlow ds (jacF ds n) := by
  have h : jacF ds (n + 1) = jacF ds n := by
    rcases jacF_stable ds n with h | h
    · exact h
    · omega
  have hp := jacF_pre ds n
  refine ⟨hp.len, fun i hi => ?_, hp.least⟩
  have : (jacF ds (n + 1)).getD i fl0 = (jacF ds n).getD i fl0 := by rw [h]
  rw [← this, jacF, map_getD hi]

/-! ### Walks -/
def flRowR (b : Nat) (l : List Fl) : Blk := ⟨b, .cells (l.flatMap Fl.cells).toArray 54 (0, 0)⟩
theorem flRowR_at {I : GH} {M : List Blk} {b : Nat} {l : List Fl} (hM : flRowR b l ∈ M) : FsAt I M (some ⟨b, 0, none⟩) l.length l :=
  ⟨rfl, fun j hj => ⟨_, rfl, by
    have := blk_rd (I := I) (cs := l.flatMap Fl.cells) (k := j * 3) (n := 3) hM (by rw [fl_len]; omega)
    rwa [flat_at Fl.cells 3 Fl.cells_len l j hj] at this⟩⟩
theorem jac_set (f : Df → Fl) (ds : List Df) (i : Nat) (hi : i < ds.length) : ((ds.take i).map f ++ List.replicate (ds.length - i) fl0).set i (f ds[i]) = (ds.take (i + 1)).map f ++ List.replicate (ds.length - (i + 1)) fl0 := by
  rw [rep_at _ ds.length i (by simp; omega) hi, List.take_succ_eq_append_getElem hi, List.map_append]
  rfl

set_option maxHeartbeats 8000000 in
theorem ROf_spec {I : GH} {deb : List Int} (hcl : ClsOk deb) {g : Gr} (hg : g.ok I) (hf : GFit g) : Spec Tryz.prog 21 [g.val] I [] fun v I' M' => I' = I ∧
    ((mayG deb g ≠ 0 ∧ v = .tuple #[.slice none 0 0, .int .i64 (mayG deb g)] ∧ M' = []) ∨ (mayG deb g = 0 ∧ ∃ b l, v = .tuple #[.slice (some ⟨b, 0, none⟩) g.n g.n, .int .i64 0] ∧ M' = [flRowR b l] ∧ IsFlow g.ds l)) := by
  refine spec_of_V [] TryzEOK Tryz.func21 rfl rfl rfl ?_
  intro B h0
  have hgn := hg.n
  have hcap := hg.rs.cap
  have hfn := hf.n
  refine CallOb.mk [] [] _ (.refl _) (RMay9_spec hcl hg hf) ?_
  rintro v I1 M1 - ⟨rfl, rfl, rfl⟩
  have hme : mayR deb g = mayG deb g := mayR_eq deb g
  refine CondOb.mk (fun h => ?_) (fun h => ?_)
  · have hm : mayR deb g ≠ 0 := by simpa using h
    rw [hme] at hm
    exact ⟨_, _, .refl, rfl, .inl ⟨hm, by rw [← hme], rfl⟩⟩
  have hm : mayG deb g = 0 := by rw [← hme]; simpa using h
  have hM := mayF_of hgn hm
  refine MakeOb.mk g.n g.n rfl rfl (Nat.le_refl _) (by show 3 * g.n ≤ _; omega) (by omega) ?_
  refine AllocOb.mk fun b0 hb0 hbM0 => ?_
  have e : rowOf fl0.cells (g.n * 3) = (List.replicate g.ds.length fl0).flatMap Fl.cells := by rw [hgn]; exact rowOf_fl g.n
  refine LoopOb.inv (ι := Nat × Nat) (fun x => { fl := [(1, .ref 1 0), (5, .val (.slice (some ⟨x.2, 0, none⟩) g.n g.n)), (6, .val (.int .i64 x.1))], cl := [(1, [.slice g.a g.n g.c])], gi := I1, mi := [flRowR x.2 (jacF g.ds x.1)] })
    (fun x => x.1 ≤ 3 * g.n + 1) (fun x => 3 * g.n + 1 - x.1) ?_ ?_
  · refine ⟨(0, b0), Nat.zero_le _, .eqM ?_, .cons .refl (.cons .refl (.cons .refl (.nil))), .cons rfl (.nil)⟩
    simp only [flRowR, jacF]
    rw [← e]
    rfl
  rintro ⟨k, b⟩ hk
  simp only at hk
  refine ArithOb.mk ((3 * g.n : Nat) : Int) (wr_eq (by simp) (by omega)) ?_
  refine CondOb.mk (fun h => ?_) (fun h => ?_)
  rotate_left
  · have hge : k = 3 * g.n + 1 := by have : ¬ (k : Int) ≤ ((3 * g.n : Nat) : Int) := of_decide_eq_false h; omega
    exact ⟨_, _, .refl, rfl, .inr ⟨hm, b, _, rfl, rfl, jacF_flow g.ds (by omega)⟩⟩
  have hlt : k ≤ 3 * g.n := by have : (k : Int) ≤ ((3 * g.n : Nat) : Int) := of_decide_eq_true h; omega
  have hjl : (jacF g.ds k).length = g.n := by rw [(jacF_pre g.ds k).len, hgn]
  refine MakeOb.mk g.n g.n rfl rfl (Nat.le_refl _) (by show 3 * g.n ≤ _; omega) (by omega) ?_
  refine AllocOb.mk fun b2 hb2 hbM2 => ?_
  refine LoopOb.inv (ι := Nat) (fun i => { fl := [(1, .ref 1 0), (5, .val (.slice (some ⟨b, 0, none⟩) g.n g.n)), (6, .val (.int .i64 k)), (7, .val (.slice (some ⟨b2, 0, none⟩) g.n g.n)), (8, .val (.int .i64 i))], cl := [(1, [.slice g.a g.n g.c])], gi := I1, mi := [flRowR b2 ((g.ds.take i).map (bodyF (placesL g.ds) (jacF g.ds k)) ++ List.replicate (g.ds.length - i) fl0), flRowR b (jacF g.ds k)] })
    (fun i => i ≤ g.n) (fun i => g.n - i) ?_ ?_
  · refine ⟨0, Nat.zero_le _, .eqM ?_, .cons .refl (.cons .refl (.cons .refl (.cons .refl (.cons .refl (.nil))))), .cons rfl (.nil)⟩
    simp only [List.take_zero, List.map_nil, List.nil_append, Nat.sub_zero]
    unfold flRowR
    rw [← e]
    rfl
  rintro i hi
  refine CondOb.mk (fun h => ?_) (fun h => ?_)
  rotate_left
  · have hge : i = g.n := by have : ¬ (i : Int) < (g.n : Int) := of_decide_eq_false h; omega
    refine ArithOb.mk _ (next_wr (i := k) (by omega)) ?_
    refine ⟨(k + 1, b2), ⟨by simp only; omega, by simp only; omega⟩, .sub (.cons_cons _ (List.nil_sublist _)) (.eqM ?_), .cons .refl (.cons .refl (.cons .refl (.nil))), .cons rfl (.nil)⟩
    rw [hge, ← hgn, List.take_length, Nat.sub_self, List.replicate_zero, List.append_nil]
    rfl
  have hil : i < g.n := by have : (i : Int) < (g.n : Int) := of_decide_eq_true h; omega
  have hil' : i < g.ds.length := by omega
  obtain ⟨ad, had, hrd⟩ := hg.rs.row Df.cells_len hil hil'
  have hdm := List.getElem_mem hil'
  have htb := treeP_body hM hjl hdm
  refine CodeOb.draw TryzEOK rfl rfl rfl ?_
  refine IdxOb.mk ad i had rfl hil ?_
  refine LoadOb.mk _ ((hrd _).part (k := 1) (m := 2) (by decide)) ?_
  have hfs := flRowR_at (I := I1) (M := [flRowR b2 ((g.ds.take i).map (bodyF (placesL g.ds) (jacF g.ds k)) ++ List.replicate (g.ds.length - i) fl0), flRowR b (jacF g.ds k)]) (b := b) (l := jacF g.ds k) (.tail _ (.head _))
  rw [hjl] at hfs
  have hsp := RFTree_spec hg (hg.ds _ hdm).t (hf.ds _ hdm) (lc := g.n) hfs
  rw [htb] at hsp
  refine PCallOb.mkR _ [] _ perm_nil hsp (fun v I' M' h x hx => by rw [h.2.1]; exact hx) ?_
  rintro v I2 M2 - ⟨rfl, rfl, rfl⟩
  rw [List.append_nil]
  refine IdxOb.mk ⟨b2, 0, none⟩ i rfl rfl hil ?_
  refine StoreOb.addTo [] [flRowR b (jacF g.ds k)] (((g.ds.take i).map (bodyF (placesL g.ds) (jacF g.ds k)) ++ List.replicate (g.ds.length - i) fl0).flatMap Fl.cells) _ rfl ?_ rfl (((g.ds.take (i + 1)).map (bodyF (placesL g.ds) (jacF g.ds k)) ++ List.replicate (g.ds.length - (i + 1)) fl0).flatMap Fl.cells) ?_ ?_
  · exact ble_fl (by simp; omega) hil' (bodyF (placesL g.ds) (jacF g.ds k) g.ds[i])
  · rw [Nat.zero_add]
    have := flRow_set ((g.ds.take i).map (bodyF (placesL g.ds) (jacF g.ds k)) ++ List.replicate (g.ds.length - i) fl0) i (by simp; omega) (bodyF (placesL g.ds) (jacF g.ds k) g.ds[i])
    rw [jac_set _ _ _ hil'] at this
    exact this
  refine ArithOb.mk _ (next_wr (i := i) (by omega)) ?_
  exact ⟨i + 1, ⟨by omega, by omega⟩, .refl, .cons .refl (.cons .refl (.cons .refl (.cons .refl (.cons .refl (.nil))))), .cons rfl (.nil)⟩

theorem told_spec {I : GH} {M0 : List Blk} {la : Option Addr} {ln lc : Nat} {fl : List Fl} (hfl : FsAt I M0 la ln fl) (hn : ln ≤ 140737488355328 / 6) : Spec Tryz.prog 24 [.slice la ln lc] I M0 fun v I' M' => I' = I ∧
    ∃ os : OS, v = os.val ∧ os.ok 3 (fl.flatMap Fl.cells) ∧ M' = os.blk 54 ++ M0 := by
  refine spec_of_V [] TryzEOK Tryz.func24 rfl rfl rfl ?_
  intro B h0
  have hfn := hfl.n
  refine LoopOb.inv (ι := Nat × OS) (fun x => { fl := [(0, .val (.slice la ln lc)), (3, .val x.2.val), (4, .val (.int .i64 x.1))], gi := I, mi := x.2.blk 54 ++ M0 })
    (fun x => x.1 ≤ ln ∧ x.2.ok 3 ((fl.take x.1).flatMap Fl.cells)) (fun x => ln - x.1) ?_ ?_
  · exact ⟨(0, OS0), ⟨Nat.zero_le _, OS0_ok 3⟩, .refl, .cons .refl (.cons .refl (.cons .refl (.nil))), .nil⟩
  rintro ⟨i, os⟩ ⟨hi, hos⟩
  simp only at hi hos
  have hosn : os.n = i := by have := hos.len; rw [fl_len, List.length_take_of_le (by omega)] at this; omega
  refine CondOb.mk (fun h => ?_) (fun h => ?_)
  rotate_left
  · have hge : i = ln := by have : ¬ (i : Int) < (ln : Int) := of_decide_eq_false h; omega
    rw [List.take_of_length_le (by omega)] at hos
    exact ⟨_, _, .refl, rfl, os, rfl, hos, rfl⟩
  have hlt : i < ln := by have : (i : Int) < (ln : Int) := of_decide_eq_true h; omega
  obtain ⟨ad, had, hrd⟩ := hfl.rd i (by omega)
  refine IdxOb.mk ad i had rfl hlt ?_
  refine LoadOb.mk _ (hrd.sub fun x hx => by simp [hx]) ?_
  refine AllocOb.mk fun b9 hb9 hbM9 => ?_
  refine OtherOb.app1 TryzEOK rfl (by simp) (e := 54) rfl rfl rfl os hos rfl (cs := (fl[i]'(by omega)).cells) rfl rfl rfl [] M0 rfl (by omega) (by show (os.n + 1) * 3 ≤ _; omega) ?_
  intro os2 hn2 hI2 hok2
  refine ArithOb.mk _ (next_wr (i := i) (by omega)) ?_
  refine ⟨(i + 1, os2), ⟨⟨by simp only; omega, ?_⟩, by simp only; omega⟩, .refl, .cons .refl (.cons .refl (.cons .refl (.nil))), .nil⟩
  simp only
  rw [List.take_succ_eq_append_getElem (by omega), flat_snoc]
  exact hok2

theorem sameF_spec {I : GH} {M : List Blk} {a a' : Option Addr} {n n' c c' : Nat} {l l' : List Fl} (h1 : FsAt I M a n l) (h2 : FsAt I M a' n' l') (hc : n ≤ 140737488355328) : Spec Tryz.prog 27 [.slice a n c, .slice a' n' c'] I M
    fun v I' M' => v = .bool (decide (l = l')) ∧ I' = I ∧ M' = M := by
  refine spec_of_V [] TryzEOK Tryz.func27 rfl rfl rfl ?_
  intro B h0
  have hln := h1.n
  have hln' := h2.n
  refine CondOb.mk (fun h => ?_) (fun h => ?_)
  · refine ⟨_, _, .refl, ?_, rfl, rfl⟩
    have : l ≠ l' := fun e => by
      rw [e] at hln
      simp at h
      omega
    simp [this]
  have hnn : n = n' := by simp at h; omega
  refine LoopOb.inv (ι := Nat) (fun i => { fl := [(0, .val (.slice a n c)), (1, .val (.slice a' n' c')), (5, .val (.int .i64 i))], gi := I, mi := M }) (fun i => i ≤ n ∧ l.take i = l'.take i) (fun i => n - i) ?_ ?_
  · exact ⟨0, ⟨Nat.zero_le _, rfl⟩, .refl, .cons .refl (.cons .refl (.cons .refl (.nil))), .nil⟩
  rintro i ⟨hi, htk⟩
  refine CondOb.mk (fun h => ?_) (fun h => ?_)
  rotate_left
  · have hge : n ≤ i := by simpa using h
    refine ⟨_, _, .refl, ?_, rfl, rfl⟩
    rw [List.take_of_length_le (by omega), List.take_of_length_le (by omega)] at htk
    simp [htk]
  have hlt : i < n := by simpa using h
  obtain ⟨ad, had, hr⟩ := h1.rd i (by omega)
  obtain ⟨ad', had', hr'⟩ := h2.rd i (by omega)
  refine CodeOb.draw TryzEOK rfl rfl rfl ?_
  refine IdxOb.mk ad i had rfl hlt ?_
  refine LoadOb.mk _ hr ?_
  refine IdxOb.mk ad' i had' rfl (by omega) ?_
  refine LoadOb.mk _ hr' ?_
  refine BinOb.neR (p := l[i]'(by omega)) (q := l'[i]'(by omega)) ?_
  refine CondOb.mk (fun h2 => ?_) (fun h2 => ?_)
  · refine ⟨_, _, .refl, ?_, rfl, rfl⟩
    have : l ≠ l' := fun e => by
      have h3 : ¬ l[i]'(by omega) = l'[i]'(by omega) := by simpa using h2
      exact h3 (by simp [e])
    simp [this]
  · have h3 : l[i]'(by omega) = l'[i]'(by omega) := by simpa using h2
    refine ArithOb.mk _ (next_wr (i := i) (by omega)) ?_
    refine ⟨i + 1, ⟨⟨by omega, ?_⟩, by omega⟩, .refl, .cons .refl (.cons .refl (.cons .refl (.nil))), .nil⟩
    rw [List.take_succ_eq_append_getElem (by omega), List.take_succ_eq_append_getElem (by omega), htk, h3]
end Go.V

/-
  Walks: bonsailaw10.works.
-/
set_option linter.unusedVariables false
set_option linter.unusedSimpArgs false
namespace Go.V
open Go Go.Proofs

def lX : List Nd := [leafNd 2 (cB 120)]
def lA : List Nd := ofL (opNd 5 nB 0 0) [ofL (opNd 4 nB 0 0) [lX, [leafNd 3 (cB 97)]], [leafNd 0 nB]]
def lC : List Nd := ofL (opNd 8 nB 0 0) [[leafNd 3 (cB 99)]]
def lD : List Nd := ofL (opNd 5 nB 0 0) [[setNd 0 0 0 0], [leafNd 2 (cB 121)]]
def lMaybe : List Nd := ofL (opNd 6 nB 0 1) [lX]
theorem ofB_A1 : ofB (opNd 4 nB 0 0) [lX, [leafNd 3 (cB 97)]] = true := by kernel_rfl
theorem ofB_A : ofB (opNd 5 nB 0 0) [ofL (opNd 4 nB 0 0) [lX, [leafNd 3 (cB 97)]], [leafNd 0 nB]] = true := by kernel_rfl
theorem ofB_C : ofB (opNd 8 nB 0 0) [[leafNd 3 (cB 99)]] = true := by kernel_rfl
theorem ofB_D : ofB (opNd 5 nB 0 0) [[setNd 0 0 0 0], [leafNd 2 (cB 121)]] = true := by kernel_rfl
theorem ofB_M : ofB (opNd 6 nB 0 1) [lX] = true := by kernel_rfl
theorem ofB_M1 : ofB (opNd 6 nB 0 5) [lMaybe] = true := by kernel_rfl
theorem ofB_M2 : ofB (opNd 6 nB 2 2) [lX] = true := by kernel_rfl
theorem ofB_M3 : ofB (opNd 6 nB 0 0) [lX] = true := by kernel_rfl
theorem leafV_M1 : leafV (ofL (opNd 6 nB 0 5) [lMaybe]) = ⟨true, true, false⟩ := by kernel_rfl
theorem leafV_M2 : leafV (ofL (opNd 6 nB 2 2) [lX]) = ⟨false, true, true⟩ := by kernel_rfl
theorem leafV_M3 : leafV (ofL (opNd 6 nB 0 0) [lX]) = ⟨true, false, false⟩ := by kernel_rfl
def wDs : List Df := [⟨cB 97, trOf lA⟩, ⟨cB 98, trOf [leafNd 3 (cB 98)]⟩, ⟨cB 99, trOf lC⟩, ⟨cB 100, trOf lD⟩]
def wFl : List Fl := [⟨true, true, false⟩, ⟨false, false, false⟩, ⟨false, false, false⟩, ⟨false, true, true⟩]
theorem wMay : mayG debL ⟨wDs, none, 4, 0⟩ = 0 := by kernel_rfl
theorem wFlow : IsFlow wDs wFl := isFlow_of 3 (by kernel_rfl) (by kernel_rfl)

theorem tcs_nil {I : GH} : ∀ j (h : j < ([] : List Tr).length) (h' : j < ([] : List (List Nd)).length), TC I ([] : List Tr)[j] ([] : List (List Nd))[j] := fun j h => by simp at h
theorem tcs_cons {I : GH} {t : Tr} {l : List Nd} {ts : List Tr} {ls : List (List Nd)} (h : TC I t l) (hs : ∀ j (h : j < ts.length) (h' : j < ls.length), TC I ts[j] ls[j]) : ∀ j (h : j < (t :: ts).length) (h' : j < (l :: ls).length), TC I (t :: ts)[j] (l :: ls)[j] := fun j hj hj' => by
  cases j with
  | zero => exact h
  | succ j => exact hs j (by simpa using hj) (by simpa using hj')
/-- 'of', its kids in a row of the caller's own. -/
theorem of10_1 {I : GH} {k lo hi : Int} {s : ByteArray} (hk : 0 ≤ k ∧ k < 256) (hs : s.size ≤ 140737488355328) (h1 : i64ok lo) (h2 : i64ok hi) {t : Tr} {l : List Nd} (h : TC I t l) {b : Nat} (hc : ofB (opNd k s lo hi) [l] = true) :
    Spec Tryz.prog 44 [.agg #[.int .u8 k, .int .u64 0, .int .u64 0, .int .u64 0, .int .u64 0, .string s, .int .i64 lo, .int .i64 hi, .slice none 0 0], .slice (some ⟨b, 0, none⟩) 1 1] I [kidsBlk b [t]] fun v I' M' => (∀ b o, I b = some o → I' b = some o) ∧ M' = [kidsBlk b [t]] ∧ ∃ t' : Tr, v = t'.val ∧ TC I' t' (ofL (opNd k s lo hi) [l]) :=
  of10_spec (cc := 1) (opNd_ok hk hs h1 h2) (tcs_cons h tcs_nil) rfl (kidsBlk_rd (List.mem_singleton.2 rfl)) hc
theorem of10_2 {I : GH} {k lo hi : Int} {s : ByteArray} (hk : 0 ≤ k ∧ k < 256) (hs : s.size ≤ 140737488355328) (h1 : i64ok lo) (h2 : i64ok hi) {t u : Tr} {l m : List Nd} (h : TC I t l) (h' : TC I u m) {b : Nat} (hc : ofB (opNd k s lo hi) [l, m] = true) :
    Spec Tryz.prog 44 [.agg #[.int .u8 k, .int .u64 0, .int .u64 0, .int .u64 0, .int .u64 0, .string s, .int .i64 lo, .int .i64 hi, .slice none 0 0], .slice (some ⟨b, 0, none⟩) 2 2] I [kidsBlk b [t, u]] fun v I' M' => (∀ b o, I b = some o → I' b = some o) ∧ M' = [kidsBlk b [t, u]] ∧ ∃ t' : Tr, v = t'.val ∧ TC I' t' (ofL (opNd k s lo hi) [l, m]) :=
  of10_spec (cc := 2) (opNd_ok hk hs h1 h2) (tcs_cons h (tcs_cons h' tcs_nil)) rfl (kidsBlk_rd (List.mem_singleton.2 rfl)) hc
theorem k_ok {k : Nat} (h : k < 256) : 0 ≤ (k : Int) ∧ (k : Int) < 256 := ⟨by omega, by omega⟩
theorem keep1 {β γ : Type} {P Q : Prop} {M M' : List Blk} (h : P ∧ M' = M ∧ Q) : ∀ x ∈ M, x ∈ M' := fun x hx => by rw [h.2.1]; exact hx

set_option maxRecDepth 100000 in
set_option maxHeartbeats 16000000 in
theorem works10_spec {I : GH} (hT : Tabs I debL) : Spec Tryz.prog 19 [] I [] fun v I' M' => v = .bool true ∧ (∀ b o, I b = some o → I' b = some o) ∧ M' = [] := by
  refine spec_of_V [] TryzEOK Tryz.func19 rfl rfl rfl ?_
  intro B h0
  refine CallOb.mk [] [] _ (.refl _) (Text_spec (s := cB 120) (by decide)) ?_
  rintro v I1 M1 - ⟨hI1, tx, rfl, htx, nx, rx, rfl⟩
  have tcx : TC I1 tx lX := .leaf htx nx rx rfl
  refine CodeOb.drawC TryzEOK rfl rfl rfl (ι := Nat × Tr × GH) (fun x => { fl := [(1, .ref 1 0), (2, .val (ptr x.1))], cl := [(1, tx.cells)], gi := x.2.2, mi := [⟨x.1, .cells x.2.1.cells.toArray 37 (0, 0)⟩] }) (fun x => TC x.2.2 x.2.1 lA ∧ ∀ b o, I1 b = some o → x.2.2 b = some o) ?_ ?_
  · refine ⟨?_, ?_⟩
    · refine PCallOb.mk _ (Rule_spec (s := cB 97) (by decide)) ?_
      rintro v I2 M2 hI2 ⟨-, ta, rfl, hta, na, ra, rfl⟩
      have tca : TC I2 ta [leafNd 3 (cB 97)] := .leaf hta na ra rfl
      refine ⟨?_, ?_⟩
      · refine AllocOb.mk fun b4 hb4 hbM4 => ?_
        refine ⟨?_, ?_⟩
        · refine PCallOb.mkR [kidsBlk b4 [tx, ta]] [] _ (by first | exact .refl _ | exact .swap _ _ _ | exact (.cons _ (.swap _ _ _)) | exact (.trans (.swap _ _ _) (.cons _ (.swap _ _ _))) | exact (.trans (.cons _ (.swap _ _ _)) (.swap _ _ _))) (of10_2 (k := 4) (lo := 0) (hi := 0) (s := nB) (by decide) (by decide) i0 i0 (tcx.mono hI2) tca ofB_A1) (fun v I' M' h x hx => by rw [h.2.1]; exact hx) ?_
          rintro v I3 M3 hI3 ⟨-, rfl, ts, rfl, tcs⟩
          refine ⟨?_, ?_⟩
          · refine PCallOb.mk _ Empty_spec ?_
            rintro v I4 M4 hI4 ⟨-, te, rfl, hte, ne, re, rfl⟩
            have tce : TC I4 te [leafNd 0 nB] := .leaf hte ne re rfl
            refine ⟨?_, ?_⟩
            · refine AllocOb.mk fun b7 hb7 hbM7 => ?_
              refine ⟨?_, ?_⟩
              · refine CallOb.mk [kidsBlk b7 [ts, te]] [kidsBlk b4 [tx, ta]] _ (by first | exact .refl _ | exact .swap _ _ _ | exact (.cons _ (.swap _ _ _)) | exact (.trans (.swap _ _ _) (.cons _ (.swap _ _ _))) | exact (.trans (.cons _ (.swap _ _ _)) (.swap _ _ _))) (of10_2 (k := 5) (lo := 0) (hi := 0) (s := nB) (by decide) (by decide) i0 i0 (tcs.mono hI4) tce ofB_A) ?_
                rintro v I5 M5 - ⟨hI5, rfl, tA, rfl, tcA⟩
                refine AllocOb.mk fun b2 hb2 hbM2 => ?_
                refine StoreOb.to [] _ _ _ rfl rfl rfl rfl tA.cells rfl ?_
                exact ⟨(b2, tA, I5), ⟨tcA, fun b o h => hI5 _ _ (hI4 _ _ (hI3 _ _ (hI2 _ _ h)))⟩, .sub (.cons_cons _ (List.nil_sublist _)) .refl, .cons .refl (.cons .refl .nil), .cons rfl .nil⟩
              · refine AllocOb.mk fun b2 hb2 hbM2 => ?_
                refine PCallOb.mkR [kidsBlk b7 [ts, te]] [(⟨b2, .cells #[.slice none 0 0, .int .i64 0] 37 (0, 0)⟩ : Blk), kidsBlk b4 [tx, ta]] _ (by first | exact .refl _ | exact .swap _ _ _ | exact (.cons _ (.swap _ _ _)) | exact (.trans (.swap _ _ _) (.cons _ (.swap _ _ _))) | exact (.trans (.cons _ (.swap _ _ _)) (.swap _ _ _))) (of10_2 (k := 5) (lo := 0) (hi := 0) (s := nB) (by decide) (by decide) i0 i0 (tcs.mono hI4) tce ofB_A) (fun v I' M' h x hx => by rw [h.2.1]; exact hx) ?_
                rintro v I5 M5 hI5 ⟨-, rfl, tA, rfl, tcA⟩
                refine StoreOb.to [kidsBlk b7 [ts, te]] _ _ _ rfl rfl rfl rfl tA.cells rfl ?_
                exact ⟨(b2, tA, I5), ⟨tcA, fun b o h => hI5 _ _ (hI4 _ _ (hI3 _ _ (hI2 _ _ h)))⟩, .sub (.cons _ (.cons_cons _ (List.nil_sublist _))) .refl, .cons .refl (.cons .refl .nil), .cons rfl .nil⟩
            · refine AllocOb.mk fun b2 hb2 hbM2 => ?_
              refine AllocOb.mk fun b7 hb7 hbM7 => ?_
              refine PCallOb.mkR [kidsBlk b7 [ts, te]] [(⟨b2, .cells #[.slice none 0 0, .int .i64 0] 37 (0, 0)⟩ : Blk), kidsBlk b4 [tx, ta]] _ (by first | exact .refl _ | exact .swap _ _ _ | exact (.cons _ (.swap _ _ _)) | exact (.trans (.swap _ _ _) (.cons _ (.swap _ _ _))) | exact (.trans (.cons _ (.swap _ _ _)) (.swap _ _ _))) (of10_2 (k := 5) (lo := 0) (hi := 0) (s := nB) (by decide) (by decide) i0 i0 (tcs.mono hI4) tce ofB_A) (fun v I' M' h x hx => by rw [h.2.1]; exact hx) ?_
              rintro v I5 M5 hI5 ⟨-, rfl, tA, rfl, tcA⟩
              refine StoreOb.to [kidsBlk b7 [ts, te]] _ _ _ rfl rfl rfl rfl tA.cells rfl ?_
              exact ⟨(b2, tA, I5), ⟨tcA, fun b o h => hI5 _ _ (hI4 _ _ (hI3 _ _ (hI2 _ _ h)))⟩, .sub (.cons _ (.cons_cons _ (List.nil_sublist _))) .refl, .cons .refl (.cons .refl .nil), .cons rfl .nil⟩
          · refine AllocOb.mk fun b2 hb2 hbM2 => ?_
            refine PCallOb.mk _ Empty_spec ?_
            rintro v I4 M4 hI4 ⟨-, te, rfl, hte, ne, re, rfl⟩
            have tce : TC I4 te [leafNd 0 nB] := .leaf hte ne re rfl
            refine AllocOb.mk fun b7 hb7 hbM7 => ?_
            refine PCallOb.mkR [kidsBlk b7 [ts, te]] [(⟨b2, .cells #[.slice none 0 0, .int .i64 0] 37 (0, 0)⟩ : Blk), kidsBlk b4 [tx, ta]] _ (by first | exact .refl _ | exact .swap _ _ _ | exact (.cons _ (.swap _ _ _)) | exact (.trans (.swap _ _ _) (.cons _ (.swap _ _ _))) | exact (.trans (.cons _ (.swap _ _ _)) (.swap _ _ _))) (of10_2 (k := 5) (lo := 0) (hi := 0) (s := nB) (by decide) (by decide) i0 i0 (tcs.mono hI4) tce ofB_A) (fun v I' M' h x hx => by rw [h.2.1]; exact hx) ?_
            rintro v I5 M5 hI5 ⟨-, rfl, tA, rfl, tcA⟩
            refine StoreOb.to [kidsBlk b7 [ts, te]] _ _ _ rfl rfl rfl rfl tA.cells rfl ?_
            exact ⟨(b2, tA, I5), ⟨tcA, fun b o h => hI5 _ _ (hI4 _ _ (hI3 _ _ (hI2 _ _ h)))⟩, .sub (.cons _ (.cons_cons _ (List.nil_sublist _))) .refl, .cons .refl (.cons .refl .nil), .cons rfl .nil⟩
        · refine AllocOb.mk fun b2 hb2 hbM2 => ?_
          refine PCallOb.mkR [kidsBlk b4 [tx, ta]] [(⟨b2, .cells #[.slice none 0 0, .int .i64 0] 37 (0, 0)⟩ : Blk)] _ (by first | exact .refl _ | exact .swap _ _ _ | exact (.cons _ (.swap _ _ _)) | exact (.trans (.swap _ _ _) (.cons _ (.swap _ _ _))) | exact (.trans (.cons _ (.swap _ _ _)) (.swap _ _ _))) (of10_2 (k := 4) (lo := 0) (hi := 0) (s := nB) (by decide) (by decide) i0 i0 (tcx.mono hI2) tca ofB_A1) (fun v I' M' h x hx => by rw [h.2.1]; exact hx) ?_
          rintro v I3 M3 hI3 ⟨-, rfl, ts, rfl, tcs⟩
          refine PCallOb.mk _ Empty_spec ?_
          rintro v I4 M4 hI4 ⟨-, te, rfl, hte, ne, re, rfl⟩
          have tce : TC I4 te [leafNd 0 nB] := .leaf hte ne re rfl
          refine AllocOb.mk fun b7 hb7 hbM7 => ?_
          refine PCallOb.mkR [kidsBlk b7 [ts, te]] [kidsBlk b4 [tx, ta], (⟨b2, .cells #[.slice none 0 0, .int .i64 0] 37 (0, 0)⟩ : Blk)] _ (by first | exact .refl _ | exact .swap _ _ _ | exact (.cons _ (.swap _ _ _)) | exact (.trans (.swap _ _ _) (.cons _ (.swap _ _ _))) | exact (.trans (.cons _ (.swap _ _ _)) (.swap _ _ _))) (of10_2 (k := 5) (lo := 0) (hi := 0) (s := nB) (by decide) (by decide) i0 i0 (tcs.mono hI4) tce ofB_A) (fun v I' M' h x hx => by rw [h.2.1]; exact hx) ?_
          rintro v I5 M5 hI5 ⟨-, rfl, tA, rfl, tcA⟩
          refine StoreOb.to [kidsBlk b7 [ts, te], kidsBlk b4 [tx, ta]] _ _ _ rfl rfl rfl rfl tA.cells rfl ?_
          exact ⟨(b2, tA, I5), ⟨tcA, fun b o h => hI5 _ _ (hI4 _ _ (hI3 _ _ (hI2 _ _ h)))⟩, .sub (.cons _ (.cons _ (.cons_cons _ (List.nil_sublist _)))) .refl, .cons .refl (.cons .refl .nil), .cons rfl .nil⟩
      · refine AllocOb.mk fun b2 hb2 hbM2 => ?_
        refine AllocOb.mk fun b4 hb4 hbM4 => ?_
        refine PCallOb.mkR [kidsBlk b4 [tx, ta]] [(⟨b2, .cells #[.slice none 0 0, .int .i64 0] 37 (0, 0)⟩ : Blk)] _ (by first | exact .refl _ | exact .swap _ _ _ | exact (.cons _ (.swap _ _ _)) | exact (.trans (.swap _ _ _) (.cons _ (.swap _ _ _))) | exact (.trans (.cons _ (.swap _ _ _)) (.swap _ _ _))) (of10_2 (k := 4) (lo := 0) (hi := 0) (s := nB) (by decide) (by decide) i0 i0 (tcx.mono hI2) tca ofB_A1) (fun v I' M' h x hx => by rw [h.2.1]; exact hx) ?_
        rintro v I3 M3 hI3 ⟨-, rfl, ts, rfl, tcs⟩
        refine PCallOb.mk _ Empty_spec ?_
        rintro v I4 M4 hI4 ⟨-, te, rfl, hte, ne, re, rfl⟩
        have tce : TC I4 te [leafNd 0 nB] := .leaf hte ne re rfl
        refine AllocOb.mk fun b7 hb7 hbM7 => ?_
        refine PCallOb.mkR [kidsBlk b7 [ts, te]] [kidsBlk b4 [tx, ta], (⟨b2, .cells #[.slice none 0 0, .int .i64 0] 37 (0, 0)⟩ : Blk)] _ (by first | exact .refl _ | exact .swap _ _ _ | exact (.cons _ (.swap _ _ _)) | exact (.trans (.swap _ _ _) (.cons _ (.swap _ _ _))) | exact (.trans (.cons _ (.swap _ _ _)) (.swap _ _ _))) (of10_2 (k := 5) (lo := 0) (hi := 0) (s := nB) (by decide) (by decide) i0 i0 (tcs.mono hI4) tce ofB_A) (fun v I' M' h x hx => by rw [h.2.1]; exact hx) ?_
        rintro v I5 M5 hI5 ⟨-, rfl, tA, rfl, tcA⟩
        refine StoreOb.to [kidsBlk b7 [ts, te], kidsBlk b4 [tx, ta]] _ _ _ rfl rfl rfl rfl tA.cells rfl ?_
        exact ⟨(b2, tA, I5), ⟨tcA, fun b o h => hI5 _ _ (hI4 _ _ (hI3 _ _ (hI2 _ _ h)))⟩, .sub (.cons _ (.cons _ (.cons_cons _ (List.nil_sublist _)))) .refl, .cons .refl (.cons .refl .nil), .cons rfl .nil⟩
    · refine AllocOb.mk fun b2 hb2 hbM2 => ?_
      refine PCallOb.mk _ (Rule_spec (s := cB 97) (by decide)) ?_
      rintro v I2 M2 hI2 ⟨-, ta, rfl, hta, na, ra, rfl⟩
      have tca : TC I2 ta [leafNd 3 (cB 97)] := .leaf hta na ra rfl
      refine AllocOb.mk fun b4 hb4 hbM4 => ?_
      refine PCallOb.mkR [kidsBlk b4 [tx, ta]] [(⟨b2, .cells #[.slice none 0 0, .int .i64 0] 37 (0, 0)⟩ : Blk)] _ (by first | exact .refl _ | exact .swap _ _ _ | exact (.cons _ (.swap _ _ _)) | exact (.trans (.swap _ _ _) (.cons _ (.swap _ _ _))) | exact (.trans (.cons _ (.swap _ _ _)) (.swap _ _ _))) (of10_2 (k := 4) (lo := 0) (hi := 0) (s := nB) (by decide) (by decide) i0 i0 (tcx.mono hI2) tca ofB_A1) (fun v I' M' h x hx => by rw [h.2.1]; exact hx) ?_
      rintro v I3 M3 hI3 ⟨-, rfl, ts, rfl, tcs⟩
      refine PCallOb.mk _ Empty_spec ?_
      rintro v I4 M4 hI4 ⟨-, te, rfl, hte, ne, re, rfl⟩
      have tce : TC I4 te [leafNd 0 nB] := .leaf hte ne re rfl
      refine AllocOb.mk fun b7 hb7 hbM7 => ?_
      refine PCallOb.mkR [kidsBlk b7 [ts, te]] [kidsBlk b4 [tx, ta], (⟨b2, .cells #[.slice none 0 0, .int .i64 0] 37 (0, 0)⟩ : Blk)] _ (by first | exact .refl _ | exact .swap _ _ _ | exact (.cons _ (.swap _ _ _)) | exact (.trans (.swap _ _ _) (.cons _ (.swap _ _ _))) | exact (.trans (.cons _ (.swap _ _ _)) (.swap _ _ _))) (of10_2 (k := 5) (lo := 0) (hi := 0) (s := nB) (by decide) (by decide) i0 i0 (tcs.mono hI4) tce ofB_A) (fun v I' M' h x hx => by rw [h.2.1]; exact hx) ?_
      rintro v I5 M5 hI5 ⟨-, rfl, tA, rfl, tcA⟩
      refine StoreOb.to [kidsBlk b7 [ts, te], kidsBlk b4 [tx, ta]] _ _ _ rfl rfl rfl rfl tA.cells rfl ?_
      exact ⟨(b2, tA, I5), ⟨tcA, fun b o h => hI5 _ _ (hI4 _ _ (hI3 _ _ (hI2 _ _ h)))⟩, .sub (.cons _ (.cons _ (.cons_cons _ (List.nil_sublist _)))) .refl, .cons .refl (.cons .refl .nil), .cons rfl .nil⟩
  rintro ⟨b2, tA, J⟩ ⟨tcA, hJ⟩
  simp only at tcA hJ
  have tcx := tcx.mono hJ
  have hI1J : ∀ b o, I b = some o → J b = some o := fun b o h => hJ _ _ (hI1 _ _ h)
  refine CallOb.mk [] _ _ (.refl _) (TSet_spec u0 u0 u0 u0) ?_
  rintro v J1 M1 - ⟨hJ1, t1, rfl, ht1, n1, r1, rfl⟩
  have tc1 : TC J1 t1 [setNd 0 0 0 0] := .leaf ht1 n1 r1 rfl
  refine CallOb.mk [] _ _ (.refl _) (Text_spec (s := cB 121) (by decide)) ?_
  rintro v J2 M2 - ⟨hJ2, t2, rfl, ht2, n2, r2, rfl⟩
  have tc2 : TC J2 t2 [leafNd 2 (cB 121)] := .leaf ht2 n2 r2 rfl
  refine AllocOb.mk fun b4 hb4 hbM4 => ?_
  refine CallOb.mk [kidsBlk b4 [t1, t2]] _ _ (.refl _) (of10_2 (k := 5) (lo := 0) (hi := 0) (s := nB) (by decide) (by decide) i0 i0 (tc1.mono hJ2) tc2 ofB_D) ?_
  rintro v J3 M3 - ⟨hJ3, rfl, tD, rfl, tcD⟩
  have hJ03 : ∀ b o, J b = some o → J3 b = some o := fun b o h => hJ3 _ _ (hJ2 _ _ (hJ1 _ _ h))
  -- the grammar
  refine CodeOb.draw TryzEOK rfl rfl rfl ?_
  refine LoadOb.mk tA.cells ⟨rfl, _, _, _, .inr ⟨⟨b2, .cells tA.cells.toArray 37 (0, 0)⟩, by simp, rfl, rfl⟩, rfl, rfl⟩ ?_
  refine PCallOb.mk _ (Rule_spec (s := cB 98) (by decide)) ?_
  rintro v J4 M4 hJ4 ⟨-, t4, rfl, ht4, n4, r4, rfl⟩
  have tc4 : TC J4 t4 [leafNd 3 (cB 98)] := .leaf ht4 n4 r4 rfl
  refine PCallOb.mk _ (Rule_spec (s := cB 99) (by decide)) ?_
  rintro v J5 M5 hJ5 ⟨-, t5, rfl, ht5, n5, r5, rfl⟩
  have tc5 : TC J5 t5 [leafNd 3 (cB 99)] := .leaf ht5 n5 r5 rfl
  refine AllocOb.mk fun b6 hb6 hbM6 => ?_
  refine PCallOb.mkR [kidsBlk b6 [t5]] [kidsBlk b4 [t1, t2], ⟨b2, .cells tA.cells.toArray 37 (0, 0)⟩] _ (.refl _) (of10_1 (k := 8) (lo := 0) (hi := 0) (s := nB) (by decide) (by decide) i0 i0 tc5 ofB_C) (fun v I' M' h x hx => by rw [h.2.1]; exact hx) ?_
  rintro v J6 M6 hJ6 ⟨-, rfl, tC, rfl, tcC⟩
  refine AllocOb.mk fun b7 hb7 hbM7 => ?_
  refine CallOb.mk [] _ _ (.refl _) (grammar10_spec (M := [])) ?_
  rintro v J7 M7 - ⟨rfl, rfl, rfl⟩
  have tA6 := ((tcA.mono hJ03).mono hJ4).mono hJ5 |>.mono hJ6
  have tB6 := (tc4.mono hJ5).mono hJ6
  have tD6 := ((tcD.mono hJ4).mono hJ5).mono hJ6
  have hds : ∀ d ∈ ([⟨cB 97, tA⟩, ⟨cB 98, t4⟩, ⟨cB 99, tC⟩, ⟨cB 100, tD⟩] : List Df), d.ok J7 := by
    simp only [List.mem_cons, List.not_mem_nil, or_false]
    rintro d (rfl | rfl | rfl | rfl)
    · exact ⟨(by decide : (cB 97).size ≤ 140737488355328), tA6.ok⟩
    · exact ⟨(by decide : (cB 98).size ≤ 140737488355328), tB6.ok⟩
    · exact ⟨(by decide : (cB 99).size ≤ 140737488355328), tcC.ok⟩
    · exact ⟨(by decide : (cB 100).size ≤ 140737488355328), tD6.ok⟩
  have hct : ([⟨cB 97, tA⟩, ⟨cB 98, t4⟩, ⟨cB 99, tC⟩, ⟨cB 100, tD⟩] : List Df).map Df.ct = wDs := by
    simp only [List.map_cons, List.map_nil, Df.ct, tA6.tr, tB6.tr, tcC.tr, tD6.tr]
    rfl
  refine CallOb.fa fun hfa => ?_
  have hb7' := hfa.d (defsBlk b7 [⟨cB 97, tA⟩, ⟨cB 98, t4⟩, ⟨cB 99, tC⟩, ⟨cB 100, tD⟩]) (.head _)
  have hins := ins_le (o := (defsBlk b7 [⟨cB 97, tA⟩, ⟨cB 98, t4⟩, ⟨cB 99, tC⟩, ⟨cB 100, tD⟩]).obj) hb7'
  have hg := defsBlk_gr (n := 4) rfl (by decide) hb7' hds
  have hT7 : Tabs J7 debL := hT.mono fun b o h => hJ6 _ _ (hJ5 _ _ (hJ4 _ _ (hJ03 _ _ (hI1J _ _ h))))
  have hsp := FOf_spec (hT7.mono hins) hg
  refine CallOb.mkW _ [] [kidsBlk b6 [t5], kidsBlk b4 [t1, t2], ⟨b2, .cells tA.cells.toArray 37 (0, 0)⟩] _ (.prom rfl (by simp) .refl) hsp ?_
  rintro v J8 M8 hJ8 - ⟨-, ⟨hm, rfl, rfl⟩ | ⟨hm, bF, fl, rfl, rfl, hfl⟩⟩
  · exfalso
    rw [← mayG_ct] at hm
    refine hm ?_
    show mayG debL ⟨([⟨cB 97, tA⟩, ⟨cB 98, t4⟩, ⟨cB 99, tC⟩, ⟨cB 100, tD⟩] : List Df).map Df.ct, none, 4, 0⟩ = 0
    rw [hct]
    exact wMay
  have hflw : fl = wFl := by
    have h1 := isFlow_ct hfl
    simp only at h1
    rw [hct] at h1
    exact h1.unique wFlow
  subst hflw
  have hIJ8 : ∀ b o, I b = some o → J8 b = some o := fun b o h => hJ8 _ _ (hins _ _ (hJ6 _ _ (hJ5 _ _ (hJ4 _ _ (hJ03 _ _ (hI1J _ _ h))))))
  have tcx8 : TC J8 tx lX := tcx.mono fun b o h => hJ8 _ _ (hins _ _ (hJ6 _ _ (hJ5 _ _ (hJ4 _ _ (hJ03 _ _ h)))))
  have frd : ∀ {M : List Blk} (j : Nat) (hj : j < wFl.length), flRow bF wFl ∈ M → Rd J8 M ((⟨bF, 0, none⟩ : Addr).add (j * 3)) 3 wFl[j].cells := fun j hj hM => flRow_rd hM hj
  refine GuardOb.mk (fun _ => ?_) (fun h => by simp at h)
  refine GuardOb.mk (fun _ => ?_) (fun h => by simp at h)
  refine IdxOb.mk ⟨bF, 0, none⟩ 0 rfl rfl (show (0 : Nat) < 4 by decide) ?_
  refine LoadOb.mk _ (frd 0 (by decide) (.head _)) ?_
  refine BinOb.neF (p := ⟨true, true, false⟩) (q := ⟨true, true, false⟩) ?_
  refine GuardOb.mk (fun _ => ?_) (fun h => by cases h)
  refine IdxOb.mk ⟨bF, 0, none⟩ 1 rfl rfl (show (1 : Nat) < 4 by decide) ?_
  refine LoadOb.mk _ (frd 1 (by decide) (.head _)) ?_
  refine BinOb.neF (p := ⟨false, false, false⟩) (q := ⟨false, false, false⟩) ?_
  refine GuardOb.mk (fun _ => ?_) (fun h => by cases h)
  refine IdxOb.mk ⟨bF, 0, none⟩ 2 rfl rfl (show (2 : Nat) < 4 by decide) ?_
  refine LoadOb.mk _ (frd 2 (by decide) (.head _)) ?_
  refine BinOb.neF (p := ⟨false, false, false⟩) (q := ⟨false, false, false⟩) ?_
  refine GuardOb.mk (fun _ => ?_) (fun h => by cases h)
  refine IdxOb.mk ⟨bF, 0, none⟩ 3 rfl rfl (show (3 : Nat) < 4 by decide) ?_
  refine LoadOb.mk _ (frd 3 (by decide) (.head _)) ?_
  refine BinOb.neF (p := ⟨false, true, true⟩) (q := ⟨false, true, true⟩) ?_
  refine CondOb.mk (fun h => by cases h) (fun _ => ?_)
  refine AllocOb.mk fun b10 hb10 hbM10 => ?_
  refine CallOb.mk [kidsBlk b10 [tx]] _ _ (.refl _) (of10_1 (k := 6) (lo := 0) (hi := 1) (s := nB) (by decide) (by decide) i0 ⟨by decide, by decide⟩ tcx8 ofB_M) ?_
  rintro v J9 M9 - ⟨hJ9, rfl, tM, rfl, tcM⟩
  replace tcM : TC J9 tM lMaybe := tcM
  refine AllocOb.mk fun b11 hb11 hbM11 => ?_
  refine CallOb.mk [kidsBlk b11 [tM]] _ _ (.refl _) (of10_1 (k := 6) (lo := 0) (hi := 5) (s := nB) (by decide) (by decide) i0 ⟨by decide, by decide⟩ tcM ofB_M1) ?_
  rintro v J10 M10 - ⟨hJ10, rfl, tM1, rfl, tcM1⟩
  have hT10 : Tabs J10 debL := ((hT.mono hIJ8).mono hJ9).mono hJ10
  have hl1 := leaf10_spec hT10 tcM1
  rw [leafV_M1] at hl1
  refine CallOb.mk [] _ _ (.refl _) hl1 ?_
  rintro v J11 M11 - ⟨hJ11, rfl, rfl⟩
  refine BinOb.eqF (p := ⟨true, true, false⟩) (q := ⟨true, true, false⟩) ?_
  refine GuardOb.mk (fun _ => ?_) (fun h => by cases h)
  refine AllocOb.mk fun b12 hb12 hbM12 => ?_
  have tcx11 : TC J11 tx lX := tcx8.mono fun b o h => hJ11 _ _ (hJ10 _ _ (hJ9 _ _ h))
  refine CallOb.mk [kidsBlk b12 [tx]] _ _ (.refl _) (of10_1 (k := 6) (lo := 2) (hi := 2) (s := nB) (by decide) (by decide) ⟨by decide, by decide⟩ ⟨by decide, by decide⟩ tcx11 ofB_M2) ?_
  rintro v J12 M12 - ⟨hJ12, rfl, tM2, rfl, tcM2⟩
  have hl2 := leaf10_spec ((hT10.mono hJ11).mono hJ12) tcM2
  rw [leafV_M2] at hl2
  refine CallOb.mk [] _ _ (.refl _) hl2 ?_
  rintro v J13 M13 - ⟨hJ13, rfl, rfl⟩
  refine BinOb.eqF (p := ⟨false, true, true⟩) (q := ⟨false, true, true⟩) ?_
  refine GuardOb.mk (fun _ => ?_) (fun h => by cases h)
  refine AllocOb.mk fun b13 hb13 hbM13 => ?_
  refine CallOb.mk [kidsBlk b13 [tx]] _ _ (.refl _) (of10_1 (k := 6) (lo := 0) (hi := 0) (s := nB) (by decide) (by decide) i0 i0 ((tcx11.mono hJ12).mono hJ13) ofB_M3) ?_
  rintro v J14 M14 - ⟨hJ14, rfl, tM3, rfl, tcM3⟩
  have hl3 := leaf10_spec ((((hT10.mono hJ11).mono hJ12).mono hJ13).mono hJ14) tcM3
  rw [leafV_M3] at hl3
  refine CallOb.mk [] _ _ (.refl _) hl3 ?_
  rintro v J15 M15 - ⟨hJ15, rfl, rfl⟩
  refine BinOb.eqF (p := ⟨true, false, false⟩) (q := ⟨true, false, false⟩) ?_
  exact ⟨_, _, .sub (List.nil_sublist _) .refl, rfl, fun b o h => hJ15 _ _ (hJ14 _ _ (hJ13 _ _ (hJ12 _ _ (hJ11 _ _ (hJ10 _ _ (hJ9 _ _ (hIJ8 _ _ h))))))), rfl⟩
end Go.V

/-
  Walk: bonsailaw10.FlowTells.
-/
set_option linter.unusedVariables false
set_option linter.unusedSimpArgs false
namespace Go.V
open Go Go.Proofs

theorem Spec.weak {P : Program} {f : Nat} {args : List Value} {I : GH} {M : List Blk} {p q : Value → GH → List Blk → Prop} (h : Spec P f args I M p) (hpq : ∀ v I' M', p v I' M' → q v I' M') : Spec P f args I M q := by
  rcases h with ⟨h1, h2⟩ | h2
  · refine .inl ⟨h1, fun w hw => (h2 w hw).mono ?_⟩
    rintro e w' ⟨v, I', M', h3, h4, h5⟩
    exact ⟨v, I', M', h3, hpq _ _ _ h4, h5⟩
  · refine .inr fun w hw => ?_
    obtain ⟨v, w', I', M', h3, h4, h5⟩ := h2 w hw
    exact ⟨v, w', I', M', h3, hpq _ _ _ h4, h5⟩
def OfRel (g : Gr) (l : List Fl) : Prop := (mayG debL g = 0 ∧ IsFlow g.ds l) ∨ (mayG debL g ≠ 0 ∧ l = [])
theorem OfRel.unique {g : Gr} {l l' : List Fl} (h : OfRel g l) (h' : OfRel g l') : l = l' := by
  rcases h with ⟨a, h⟩ | ⟨a, h⟩ <;> rcases h' with ⟨b, h'⟩ | ⟨b, h'⟩
  · exact h.unique h'
  · exact absurd a b
  · exact absurd b a
  · rw [h, h']
theorem OfRel.len {g : Gr} {l : List Fl} (h : OfRel g l) : l.length ≤ g.ds.length := by
  rcases h with ⟨a, h⟩ | ⟨a, h⟩
  · rw [h.len]; exact Nat.le_refl _
  · rw [h]; exact Nat.zero_le _
theorem rowOS {b n : Nat} {l : List Fl} (h : l.length = n) (hn : n ≤ 9223372036854775807) : OS.ok ⟨some b, n, n, l.flatMap Fl.cells⟩ 3 (l.flatMap Fl.cells) :=
  ⟨by simp only; rw [fl_len, h], (fun h => by cases h), fun g _ => ⟨by simp only; rw [fl_len, h], Nat.le_refl _, by unfold maxLen; exact hn, by simp only; exact List.take_of_length_le (by rw [fl_len, h]; exact Nat.le_refl _)⟩⟩
theorem FOf_own {I : GH} (hT : Tabs I debL) {g : Gr} (hg : g.ok I) (hn : g.n ≤ 9223372036854775807) {m : Int} (hm : mayG debL g = m) : Spec Tryz.prog 20 [g.val] I [] fun v I' M' => (∀ b o, I b = some o → I' b = some o) ∧
    ∃ (os : OS) (l : List Fl), OfRel g l ∧ os.ok 3 (l.flatMap Fl.cells) ∧ v = .tuple #[os.val, .int .i64 m] ∧ M' = os.blk 51 :=
  (FOf_spec hT hg).weak fun v I' M' h => ⟨h.1, by
    rcases h.2 with ⟨h1, rfl, rfl⟩ | ⟨h1, b, l, rfl, rfl, h2⟩
    · exact ⟨OS0, [], .inr ⟨h1, rfl⟩, OS0_ok 3, by rw [hm]; rfl, rfl⟩
    · exact ⟨⟨some b, g.n, g.n, l.flatMap Fl.cells⟩, l, .inl ⟨h1, h2⟩, rowOS (by rw [h2.len, hg.n]) hn, by rw [← hm, h1]; rfl, rfl⟩⟩
theorem ROf_own {I : GH} {g : Gr} (hg : g.ok I) (hf : GFit g) {m : Int} (hm : mayG debL g = m) : Spec Tryz.prog 21 [g.val] I [] fun v I' M' => I' = I ∧
    ∃ (os : OS) (l : List Fl), OfRel g l ∧ os.ok 3 (l.flatMap Fl.cells) ∧ v = .tuple #[os.val, .int .i64 m] ∧ M' = os.blk 54 :=
  (ROf_spec clsOk hg hf).weak fun v I' M' h => ⟨h.1, by
    rcases h.2 with ⟨h1, rfl, rfl⟩ | ⟨h1, b, l, rfl, rfl, h2⟩
    · exact ⟨OS0, [], .inr ⟨h1, rfl⟩, OS0_ok 3, by rw [hm]; rfl, rfl⟩
    · exact ⟨⟨some b, g.n, g.n, l.flatMap Fl.cells⟩, l, .inl ⟨h1, h2⟩, rowOS (by rw [h2.len, hg.n]) (by have := hf.n; omega), by rw [← hm, h1]; rfl, rfl⟩⟩
def nodesD (g : Gr) (fl : List Fl) (t : Tr) : List Fl := (nodesP g fl t).getD []
theorem nodesD_len {I : GH} {g : Gr} {fl : List Fl} {t : Tr} (ht : t.ok I) : (nodesD g fl t).length ≤ t.n := by
  unfold nodesD
  cases h : nodesP g fl t with
  | none => exact Nat.zero_le _
  | some r =>
    have := (nodesP_len h).2
    have := ht.n
    simp only [Option.getD_some]
    omega
theorem FNodes_own {I : GH} {M0 : List Blk} (hT : Tabs I debL) {g : Gr} (hg : g.ok I) {t : Tr} (ht : t.ok I) (hn : t.n ≤ 9223372036854775807) {la : Option Addr} {ln lc : Nat} {fl : List Fl} (hfl : FsAt I M0 la ln fl) {nb : Bool} (hb : (nodesP g fl t).isSome = nb) :
    Spec Tryz.prog 22 [g.val, .slice la ln lc, t.val] I M0 fun v I' M' => (∀ b o, I b = some o → I' b = some o) ∧
      ∃ os : OS, os.ok 3 ((nodesD g fl t).flatMap Fl.cells) ∧ v = .tuple #[os.val, .bool nb] ∧ M' = os.blk 51 ++ M0 :=
  (FNodes_spec hT hg ht hfl).weak fun v I' M' h => ⟨h.1, by
    rcases h.2 with ⟨h1, rfl, rfl⟩ | ⟨r, b, h1, rfl, rfl⟩
    · exact ⟨OS0, by rw [nodesD, h1]; exact OS0_ok 3, by rw [← hb, h1]; rfl, rfl⟩
    · exact ⟨⟨some b, t.n, t.n, r.flatMap Fl.cells⟩, by rw [nodesD, h1]; exact rowOS (by rw [(nodesP_len h1).2, ht.n]) hn, by rw [← hb, h1]; rfl, rfl⟩⟩
theorem RFNodes_own {I : GH} {M0 : List Blk} {g : Gr} (hg : g.ok I) {t : Tr} (ht : t.ok I) {W : Nat} (hf : Fit t W) {la : Option Addr} {ln lc : Nat} {fl : List Fl} (hfl : FsAt I M0 la ln fl) {nb : Bool} (hb : (nodesP g fl t).isSome = nb) :
    Spec Tryz.prog 23 [g.val, .slice la ln lc, t.val] I M0 fun v I' M' => I' = I ∧
      ∃ os : OS, os.ok 3 ((nodesD g fl t).flatMap Fl.cells) ∧ v = .tuple #[os.val, .bool nb] ∧ M' = os.blk 54 ++ M0 :=
  (RFNodes_spec hg ht hf hfl).weak fun v I' M' h => ⟨h.1, by
    rcases h.2 with ⟨h1, rfl, rfl⟩ | ⟨r, os, h1, h2, rfl, rfl⟩
    · exact ⟨OS0, by rw [nodesD, h1]; exact OS0_ok 3, by rw [← hb, h1]; rfl, rfl⟩
    · exact ⟨os, by rw [nodesD, h1]; exact h2, by rw [← hb, h1]; rfl, rfl⟩⟩

/-! ### One flag of an own row is written -/
theorem splice_in (pre mid post : List Value) (k : Nat) (vs : List Value) (h : k + vs.length ≤ mid.length) : splice (pre ++ (mid ++ post)) (pre.length + k) vs = pre ++ (splice mid k vs ++ post) := by
  unfold splice
  have h1 : (pre ++ (mid ++ post)).take (pre.length + k) = pre ++ mid.take k := by
    rw [List.take_append, Nat.add_sub_cancel_left, List.take_of_length_le (by omega), List.take_append_of_le_length (by omega)]
  have h2 : (pre ++ (mid ++ post)).drop (pre.length + k + vs.length) = mid.drop (k + vs.length) ++ post := by
    rw [Nat.add_assoc, List.drop_length_add_append, List.drop_append_of_le_length h]
  rw [h1, h2]
  simp
def Fl.put (x : Fl) (k : Nat) (v : Bool) : Fl := match k with
  | 0 => { x with z := v }
  | 1 => { x with s := v }
  | _ => { x with f := v }
theorem fl_put (l : List Fl) (i : Nat) (hi : i < l.length) (k : Nat) (hk : k < 3) (v : Bool) : splice (l.flatMap Fl.cells) (i * 3 + k) [.bool v] = (l.set i (l[i].put k v)).flatMap Fl.cells := by
  have e : l = l.take i ++ l[i] :: l.drop (i + 1) := by rw [← List.drop_eq_getElem_cons hi, List.take_append_drop]
  have e1 : l.flatMap Fl.cells = (l.take i).flatMap Fl.cells ++ (l[i].cells ++ (l.drop (i + 1)).flatMap Fl.cells) := by
    calc l.flatMap Fl.cells = (l.take i ++ l[i] :: l.drop (i + 1)).flatMap Fl.cells := congrArg _ e
      _ = _ := by rw [List.flatMap_append, List.flatMap_cons]
  have e2 : ((l.take i).flatMap Fl.cells).length = i * 3 := by rw [fl_len, List.length_take_of_le (by omega)]
  rw [e1, ← e2, splice_in _ _ _ _ _ (by show k + 1 ≤ 3; omega), List.set_eq_take_append_cons_drop, if_pos hi, List.flatMap_append, List.flatMap_cons]
  have : splice l[i].cells k [.bool v] = (l[i].put k v).cells := by
    match k, hk with
    | 0, _ => rfl
    | 1, _ => rfl
    | 2, _ => rfl
  rw [this]
theorem take_splice {cur : List Value} {j m : Nat} {v : Value} (h : j < m) (hm : m ≤ cur.length) : (splice cur j [v]).take m = splice (cur.take m) j [v] := by
  unfold splice
  have h1 : (cur.take m).take j = cur.take j := by rw [List.take_take, Nat.min_eq_left (by omega)]
  have h2 : (cur.take m).drop (j + 1) = (cur.drop (j + 1)).take (m - (j + 1)) := by rw [List.drop_take]
  have h3 : (cur.take j).length = j := by rw [List.length_take]; omega
  simp only [List.length_cons, List.length_nil, Nat.zero_add]
  rw [h1, h2, List.append_assoc, List.take_append, h3, List.take_of_length_le (by omega), show m - j = (m - (j + 1)) + 1 by omega, List.cons_append, List.nil_append, List.take_succ_cons]
  simp
theorem OS.flStore {M : List Blk} {os : OS} {l : List Fl} {e : Nat} (h : os.ok 3 (l.flatMap Fl.cells)) {i : Nat} (hi : i < l.length) (k : Nat) (hk : k < 3) {v : Bool} (pre post : List Blk) (hM : M = pre ++ (os.blk e ++ post)) {ad : Addr} (had : (os.a.map fun g => (⟨g, 0, none⟩ : Addr)) = some ad) {K : List Blk → Prop}
    (kk : ∀ (os' : OS), os'.val = os.val → os'.n = os.n → os'.ok 3 ((l.set i (l[i].put k v)).flatMap Fl.cells) → K (pre ++ (os'.blk e ++ post))) : StoreOb M ((ad.add (i * 3)).add k) [.bool v] K := by
  have hl0 := h.len
  rw [fl_len] at hl0
  obtain ⟨a, n, c, cur⟩ := os
  have hl : l.length * 3 = n * 3 := hl0
  cases a with
  | none => cases had
  | some g =>
    cases had
    obtain ⟨q1, q2, q3, q4⟩ := h.cap g rfl
    simp only at q1 q2 q3 q4
    have hb : n * 3 ≤ c * 3 := Nat.mul_le_mul_right _ q2
    subst hM
    rw [addr_add (⟨g, 0, none⟩ : Addr) rfl, addr_add _ rfl]
    refine StoreOb.mk pre post cur.toArray e rfl rfl ?_ rfl ?_
    · simp only [List.size_toArray, List.length_cons, List.length_nil]
      omega
    · have := kk ⟨some g, n, c, splice cur (i * 3 + k) [.bool v]⟩ rfl rfl ⟨?_, (fun h => by cases h), fun g' hg => ?_⟩
      · simpa [OS.blk] using this
      · simp only
        rw [fl_len, List.length_set]
        exact hl
      · cases hg
        refine ⟨?_, q2, q3, ?_⟩
        · simp only [splice, List.length_append, List.length_take, List.length_drop, List.length_cons, List.length_nil]
          omega
        · simp only
          rw [take_splice (by omega) (by omega), q4, fl_put l i hi k hk v]

/-- Flows handed in, as one row. -/
theorem FlW.whole {I : GH} {x : FA} (h : FlW I x) (h0 : 0 < x.n) (M : List Blk) : ∃ ad, x.a = some ad ∧ Rd I M ad (x.n * 3) (x.l.flatMap Fl.cells) := by
  have hn := h.at_.n
  obtain ⟨ad, ha, hs0, cs, T, fr, hk0, hv0, -⟩ := h.at_.rd 0 (by omega)
  have hsp : ad.spot = none := by
    cases hsp : ad.spot with
    | none => rfl
    | some s => simp [Addr.add, hsp] at hs0
  rw [addr_add _ hsp] at hk0
  have kn : ∀ {b o}, Kn I [] b o → I b = some o := fun {b o} hk => by
    rcases hk with hk | ⟨y, hy, _⟩
    · exact hk
    · cases hy
  have hI := kn hk0
  simp only at hI
  refine ⟨ad, ha, hsp, cs, T, fr, .inl hI, ?_, by rw [fl_len, hn]⟩
  have each : ∀ j (hj : j < x.l.length), (cs.toList.drop (ad.off + j * 3)).take 3 = (x.l[j]).cells := fun j hj => by
    obtain ⟨ad', ha', _, cs', T', fr', hk', hv', -⟩ := h.at_.rd j hj
    rw [ha] at ha'
    cases ha'
    rw [addr_add _ hsp] at hk' hv'
    have := (kn hk').symm.trans hI
    simp only [Option.some.injEq, Obj.cells.injEq] at this
    rw [this.1] at hv'
    exact hv'
  rw [← hn]
  clear hv0 hk0
  have key : ∀ m, m ≤ x.l.length → (cs.toList.drop ad.off).take (m * 3) = (x.l.take m).flatMap Fl.cells := by
    intro m
    induction m with
    | zero => intro _; simp
    | succ m ih =>
      intro hm
      rw [Nat.add_mul, Nat.one_mul, List.take_add, ih (by omega), List.drop_drop, each m (by omega), List.take_succ_eq_append_getElem (by omega), flat_snoc]
  have := key x.l.length (Nat.le_refl _)
  rwa [List.take_length] at this

theorem TrSmall.fit {t : Tr} (hs : TrSmall t) : Fit t 2500 := ⟨fun d hd => by have := (hs.ns d hd).kn; omega, by have := hs.n; omega, by have := hs.n; omega⟩

set_option maxRecDepth 100000 in
set_option maxHeartbeats 32000000 in
theorem flowTells_V {I : GH} (hT : Tabs I debL) {g : Gr} (hg : GrW I g) {x : FA} (hx : FlW I x) {t : Tr} (ht : TrW I t) : SpecE Tryz.prog 4 [g.val, x.val, t.val] I [] fun v I' M' => v = .bool true := by
  refine specE_of_V [19] TryzEOK Tryz.func4 rfl rfl rfl ?_
  intro B h0
  refine AllocOb.mk fun b1 hb1 hbM1 => ?_
  have hos1 : OS.ok ⟨some b1, 1, 1, t.cells⟩ 2 ([t].flatMap Tr.cells) := ⟨rfl, (fun h => by cases h), fun g' _ => ⟨rfl, Nat.le_refl _, by show (1 : Nat) ≤ maxLen; decide, rfl⟩⟩
  refine CallOb.mk [⟨b1, .cells t.cells.toArray 37 (0, 0)⟩] [] _ (.refl _) (long10_spec hg (os0 := ⟨some b1, 1, 1, t.cells⟩) hos1 (fun t' h => by rw [List.mem_singleton] at h; subst h; exact ht) (Nat.le_of_ble_eq_true rfl)) ?_
  rintro v I2 M2 - ⟨⟨r, rfl, hr⟩, rfl, rfl⟩
  refine GuardOb.mk (fun h => ?_) (fun h => ?_)
  rotate_left
  · refine CallOb.mk [] [] _ (.refl _) (works10_spec hT) ?_
    rintro v I3 M3 - ⟨rfl, hI3, rfl⟩
    exact ⟨_, _, .refl, rfl⟩
  obtain ⟨hs, hst⟩ := hr h
  have hst := hst t (List.mem_singleton.2 rfl)
  refine CondOb.mk (fun _ => ?_) (fun hlen => ?_)
  · refine CallOb.mk [] [] _ (.refl _) (works10_spec hT) ?_
    rintro v I3 M3 - ⟨rfl, hI3, rfl⟩
    exact ⟨_, _, .refl, rfl⟩
  have hok := hg.ok hs
  have hot := ht.ok hst
  have hgf := hs.fit hok
  have htf := hst.fit
  have hgn := hok.n
  have hsn := hs.n
  have htn := hst.n
  have hxn := hx.at_.n
  have hxl : x.n ≤ 500 := by
    have := of_decide_eq_false hlen
    omega
  refine AllocOb.mk fun b7 hb7 hbM7 => ?_
  refine OtherOb.appL TryzEOK rfl (by simp) (e := 51) rfl rfl rfl ⟨some b7, 0, 0, []⟩ (xs := []) ⟨rfl, (fun h => by cases h), fun g' _ => ⟨rfl, Nat.le_refl _, Nat.zero_le _, rfl⟩⟩ rfl (m := x.n) (news := x.l.flatMap Fl.cells) rfl (by rw [fl_len, hxn]) (fun h0 => hx.whole h0 _) (by
      refine List.all_eq_true.2 fun v hv => ?_
      obtain ⟨f, _, hf⟩ := List.mem_flatMap.1 hv
      simp only [Fl.cells, List.mem_cons, List.not_mem_nil, or_false] at hf
      rcases hf with rfl | rfl | rfl <;> rfl) [] [] rfl (by simp only; omega) (by show (0 + x.n) * 3 ≤ _; omega) ?_
  rintro os7 hn7 - hos7
  rw [List.nil_append] at hos7
  have hl7 : os7.n = x.n := by simpa using hn7
  refine LoopOb.inv (ι := Nat × GH) (fun s => { fl := [(1, .val x.val), (3, .ref 3 0), (5, .ref 5 0), (7, .val os7.val), (8, .val (.int .i64 s.1))], cl := [(3, [.slice g.a g.n g.c]), (5, t.cells)], gi := s.2, mi := os7.blk 51 }) (fun s => s.1 ≤ 2 ∧ ∀ b o, I2 b = some o → s.2 b = some o) (fun s => 2 - s.1) ?_ ?_
  · exact ⟨(0, I2), ⟨by simp, fun _ _ h => h⟩, .eqM (by simp), .cons .refl (.cons .refl (.cons .refl (.cons .refl (.cons .refl (.nil))))), .cons rfl (.cons rfl (.nil))⟩
  rintro ⟨rd, J0⟩ ⟨hrd, hJ0⟩
  simp only at hrd hJ0
  obtain ⟨m, hm⟩ : ∃ m, mayG debL g = m := ⟨_, rfl⟩
  obtain ⟨nb, hnb⟩ : ∃ nb, (nodesP g x.l t).isSome = nb := ⟨_, rfl⟩
  refine CondOb.mk (fun h => ?_) (fun h => ?_)
  rotate_left
  · -- the last loop
    have hTJ := hT.mono hJ0
    have hxJ := hx.mono hJ0
    refine LoopOb.inv (ι := Nat) (fun k => { fl := [(1, .val x.val), (7, .val os7.val), (23, .val (.int .i64 k))], gi := J0, mi := os7.blk 51 }) (fun k => k ≤ x.n) (fun k => x.n - k) ?_ ?_
    · exact ⟨0, Nat.zero_le _, .refl, .cons .refl (.cons .refl (.cons .refl (.nil))), .nil⟩
    rintro k hk
    refine ArithOb.mk _ (next_wr (i := k) (by omega)) ?_
    refine CondOb.mk (fun h => ?_) (fun h => ?_)
    · have hkl : k + 1 < x.n := by have : ((k + 1 : Nat) : Int) < (x.n : Int) := of_decide_eq_true h; omega
      obtain ⟨ad, had, hrd1⟩ := hxJ.at_.rd k (by omega)
      obtain ⟨ad', had', hrd2⟩ := hxJ.at_.rd (k + 1) (by omega)
      have s1 : ∀ M, Rd J0 M (ad.add (k * 3)) 3 (x.l[k]'(by omega)).cells := fun M => hrd1.sub fun y hy => by cases hy
      have s2 : ∀ M, Rd J0 M (ad'.add ((k + 1) * 3)) 3 (x.l[k + 1]'(by omega)).cells := fun M => hrd2.sub fun y hy => by cases hy
      refine CodeOb.draw TryzEOK rfl rfl rfl ?_
      refine IdxOb.mk ad k had rfl (show k < x.n by omega) ?_
      refine LoadOb.mk _ (s1 _) ?_
      refine ArithOb.mk _ (next_wr (i := k) (by omega)) ?_
      refine IdxOb.mk ad' (k + 1) had' rfl (show k + 1 < x.n by omega) ?_
      refine LoadOb.mk _ (s2 _) ?_
      refine IdxOb.mk ad k had rfl (show k < x.n by omega) ?_
      refine LoadOb.mk _ (s1 _) ?_
      refine ArithOb.mk _ (next_wr (i := k) (by omega)) ?_
      refine IdxOb.mk ad' (k + 1) had' rfl (show k + 1 < x.n by omega) ?_
      refine LoadOb.mk _ (s2 _) ?_
      refine PCallOb.whole _ (Within_spec (M := os7.blk 51) (x.l[k]'(by omega)) (x.l[k + 1]'(by omega))) (fun v I' M' h y hy => by rw [h.2.2]; exact hy) ?_
      rintro v J M - ⟨rfl, rfl, rfl⟩
      refine CallOb.whole _ (RWithin_spec (M := os7.blk 51) (x.l[k]'(by omega)) (x.l[k + 1]'(by omega))) ?_
      rintro v J M - ⟨rfl, rfl, rfl⟩
      refine CondOb.mk (fun e => by simp at e) (fun _ => ?_)
      refine ArithOb.mk _ (next_wr (i := k) (by omega)) ?_
      exact ⟨k + 1, ⟨by omega, by omega⟩, .refl, .cons .refl (.cons .refl (.cons .refl (.nil))), .nil⟩
    · refine CallOb.whole _ (told_spec (hxJ.at_.sub fun _ h => by cases h) (by omega)) ?_
      rintro v J N - ⟨rfl, ot, rfl, hot', rfl⟩
      refine CallOb.whole _ (sameF_spec (OS.fsAt (e := 51) hos7 fun y hy => by simp [hy]) (OS.fsAt (e := 54) hot' fun y hy => by simp [hy]) (by omega)) ?_
      rintro v J N - ⟨rfl, rfl, rfl⟩
      refine GuardOb.mk (fun _ => ?_) (fun e => by simp at e)
      refine CallOb.mk [] _ _ (.refl _) (works10_spec hTJ) ?_
      rintro v J N - ⟨rfl, hJ, rfl⟩
      exact ⟨_, _, .refl, rfl⟩
  have hrl : rd < 2 := by have := of_decide_eq_true h; simp at this; omega
  have hT0 := hT.mono hJ0
  have hok0 := hok.mono hJ0
  have hot0 := hot.mono hJ0
  refine CallOb.mk [] _ _ (.refl _) (FOf_own hT0 hok0 (by omega) hm) ?_
  rintro v J1 N1 hJ1 ⟨-, oa, la, hla, hoa, rfl, rfl⟩
  have hT1 := hT0.mono hJ1
  have hok1 := hok0.mono hJ1
  have hot1 := hot0.mono hJ1
  refine CallOb.mk [] _ _ (.refl _) (ROf_own hok1 hgf hm) ?_
  rintro v J2 N2 - ⟨rfl, ob, lb, hlb, hob, rfl, rfl⟩
  obtain rfl := hla.unique hlb
  have hal := hla.len
  have f7 : ∀ {J : GH} {M : List Blk}, (∀ y ∈ os7.blk 51, y ∈ M) → FsAt J M (os7.a.map fun g => ⟨g, 0, none⟩) os7.n x.l := fun hM => OS.fsAt hos7 hM
  refine CallOb.whole _ (FNodes_own hT1 hok1 hot1 (by omega) (f7 fun y hy => List.mem_append.2 (.inr (List.mem_append.2 (.inr (hy))))) hnb) ?_
  rintro v J3 N3 hJ3 ⟨-, oc, hoc, rfl, rfl⟩
  have hT3 := hT1.mono hJ3
  have hok3 := hok1.mono hJ3
  have hot3 := hot1.mono hJ3
  have hxJ3 : ∀ b o, I2 b = some o → J3 b = some o := fun b o h => hJ3 _ _ (hJ1 _ _ (hJ0 _ _ h))
  have hx3 := hx.mono hxJ3
  have hnl := nodesD_len (g := g) (fl := x.l) hot3
  refine CodeOb.draw TryzEOK rfl rfl rfl ?_
  refine PCallOb.whole _ (told_spec (hx3.at_.sub fun _ h => by cases h) (by omega)) (fun v I' M' h x hx => by obtain ⟨-, o, -, -, e⟩ := h; rw [e]; exact List.mem_append.2 (.inr hx)) ?_
  rintro v J4 N4 - ⟨rfl, ot, rfl, hot', rfl⟩
  have ft : ∀ {J : GH} {M : List Blk} {o : OS}, o.ok 3 (x.l.flatMap Fl.cells) → (∀ y ∈ o.blk 54, y ∈ M) → FsAt J M (o.a.map fun g => ⟨g, 0, none⟩) o.n x.l := fun ho hM => OS.fsAt ho hM
  refine CallOb.whole _ (RFNodes_own hok3 hot3 htf (ft hot' fun y hy => by simp [hy]) hnb) ?_
  rintro v J5 N5 - ⟨rfl, od, hod, rfl, rfl⟩
  refine CallOb.whole _ (FTree_spec hT3 hok3 hot3 (f7 fun y hy => List.mem_append.2 (.inr (List.mem_append.2 (.inr (List.mem_append.2 (.inr (List.mem_append.2 (.inr (List.mem_append.2 (.inr (hy)))))))))))) ?_
  rintro v J6 N6 hJ6 ⟨-, rfl, rfl⟩
  have hok6 := hok3.mono hJ6
  have hot6 := hot3.mono hJ6
  have hx6 := hx3.mono hJ6
  have hI6 : ∀ b o, I2 b = some o → J6 b = some o := fun b o h => hJ6 _ _ (hxJ3 _ _ h)
  generalize hy : (treeP g x.l t).getD fl0 = y
  generalize hyb : (treeP g x.l t).isSome = yb
  refine CodeOb.drawC TryzEOK rfl rfl rfl (ι := Nat) (fun b19 => { fl := [(1, .val x.val), (3, .ref 3 0), (5, .ref 5 0), (7, .val os7.val), (8, .val (.int .i64 rd)), (9, .val oa.val), (10, .val (.int .i64 m)), (11, .val ob.val), (12, .val (.int .i64 m)), (13, .val oc.val), (14, .val (.bool nb)), (15, .val od.val), (16, .val (.bool nb)), (17, .ref 17 0), (18, .val (.bool yb)), (19, .val (ptr b19)), (20, .val (.bool yb))], cl := [(3, [.slice g.a g.n g.c]), (5, t.cells), (17, y.cells)], gi := J6, mi := ⟨b19, .cells y.cells.toArray 54 (0, 0)⟩ :: (od.blk 54 ++ (oc.blk 51 ++ (ob.blk 54 ++ (oa.blk 51 ++ os7.blk 51)))) }) (fun _ => True) ?_ ?_
  · refine ⟨?_, ?_⟩
    · refine PCallOb.whole _ (told_spec (hx6.at_.sub fun _ h => by cases h) (by omega)) (fun v I' M' h x hx => by obtain ⟨-, o, -, -, e⟩ := h; rw [e]; exact List.mem_append.2 (.inr hx)) ?_
      rintro v J7 N7 - ⟨rfl, ou, rfl, hou, rfl⟩
      refine ⟨?_, ?_⟩
      · refine CallOb.whole _ (RFTree_spec hok6 hot6 htf (ft hou fun y hy => by simp [hy])) ?_
        rintro v J8 N8 - ⟨rfl, rfl, rfl⟩
        refine AllocOb.mk fun b19 hb19 hbM19 => ?_
        refine StoreOb.mk [] _ _ _ rfl rfl (Nat.le_of_ble_eq_true rfl) rfl ?_
        refine ⟨b19, trivial, .sub (M1 := ⟨b19, .cells ((treeP g x.l t).getD fl0).cells.toArray 54 (0, 0)⟩ :: (od.blk 54 ++ (oc.blk 51 ++ (ob.blk 54 ++ (oa.blk 51 ++ os7.blk 51))))) (.cons_cons _ ((List.Sublist.append (.refl _) (List.sublist_append_right _ _)).trans (List.sublist_append_right _ _))) (.eqM ?_), .cons .refl (.cons .refl (.cons .refl (.cons .refl (.cons .refl (.cons .refl (.cons .refl (.cons .refl (.cons .refl (.cons .refl (.cons .refl (.cons .refl (.cons .refl (.cons .refl (.cons .refl (.cons .refl (.cons (sv_bool hyb) .nil)))))))))))))))), .cons rfl (.cons rfl (.cons rfl .nil))⟩
        rw [hy]
      · refine AllocOb.mk fun b19 hb19 hbM19 => ?_
        refine PCallOb.whole _ (RFTree_spec hok6 hot6 htf (ft hou fun y hy => by simp [hy])) (fun v I' M' h x hx => by rw [h.2.1]; exact hx) ?_
        rintro v J8 N8 - ⟨rfl, rfl, rfl⟩
        refine StoreOb.mk [] _ _ _ rfl rfl (Nat.le_of_ble_eq_true rfl) rfl ?_
        refine ⟨b19, trivial, .sub (M1 := ⟨b19, .cells ((treeP g x.l t).getD fl0).cells.toArray 54 (0, 0)⟩ :: (od.blk 54 ++ (oc.blk 51 ++ (ob.blk 54 ++ (oa.blk 51 ++ os7.blk 51))))) (.cons_cons _ ((List.Sublist.append (.refl _) (List.sublist_append_right _ _)).trans (List.sublist_append_right _ _))) (.eqM ?_), .cons .refl (.cons .refl (.cons .refl (.cons .refl (.cons .refl (.cons .refl (.cons .refl (.cons .refl (.cons .refl (.cons .refl (.cons .refl (.cons .refl (.cons .refl (.cons .refl (.cons .refl (.cons .refl (.cons (sv_bool hyb) .nil)))))))))))))))), .cons rfl (.cons rfl (.cons rfl .nil))⟩
        rw [hy]
    · refine AllocOb.mk fun b19 hb19 hbM19 => ?_
      refine PCallOb.whole _ (told_spec (hx6.at_.sub fun _ h => by cases h) (by omega)) (fun v I' M' h x hx => by obtain ⟨-, o, -, -, e⟩ := h; rw [e]; exact List.mem_append.2 (.inr hx)) ?_
      rintro v J7 N7 - ⟨rfl, ou, rfl, hou, rfl⟩
      refine PCallOb.whole _ (RFTree_spec hok6 hot6 htf (ft hou fun y hy => by simp [hy])) (fun v I' M' h x hx => by rw [h.2.1]; exact hx) ?_
      rintro v J8 N8 - ⟨rfl, rfl, rfl⟩
      refine StoreOb.mk (ou.blk 54) _ _ _ rfl rfl (Nat.le_of_ble_eq_true rfl) rfl ?_
      refine ⟨b19, trivial, .sub (M1 := ⟨b19, .cells ((treeP g x.l t).getD fl0).cells.toArray 54 (0, 0)⟩ :: (od.blk 54 ++ (oc.blk 51 ++ (ob.blk 54 ++ (oa.blk 51 ++ os7.blk 51))))) ((List.Sublist.cons_cons _ (List.Sublist.append (.refl _) (List.sublist_append_right _ _))).trans (List.sublist_append_right _ _)) (.eqM ?_), .cons .refl (.cons .refl (.cons .refl (.cons .refl (.cons .refl (.cons .refl (.cons .refl (.cons .refl (.cons .refl (.cons .refl (.cons .refl (.cons .refl (.cons .refl (.cons .refl (.cons .refl (.cons .refl (.cons (sv_bool hyb) .nil)))))))))))))))), .cons rfl (.cons rfl (.cons rfl .nil))⟩
      rw [hy]
  rintro b19 -
  have hab : ∀ {o : OS} {l : List Fl}, o.ok 3 (l.flatMap Fl.cells) → o.n = l.length := fun {o l} h => by have := h.len; rw [fl_len] at this; omega
  have han := hab hoa
  have hcn := hab hoc
  refine CodeOb.draw TryzEOK rfl rfl rfl ?_
  refine GuardOb.mk (fun _ => ?_) (fun e => by simp at e)
  refine CallOb.whole _ (sameF_spec (OS.fsAt (e := 51) hoa fun z hz => by simp [hz]) (OS.fsAt (e := 54) hob fun z hz => by simp [hz]) (by omega)) ?_
  rintro v J7 N7 - ⟨rfl, rfl, rfl⟩
  refine GuardOb.mk (fun _ => ?_) (fun e => by simp at e)
  refine GuardOb.mk (fun _ => ?_) (fun e => by simp at e)
  refine CallOb.whole _ (sameF_spec (OS.fsAt (e := 51) hoc fun z hz => by simp [hz]) (OS.fsAt (e := 54) hod fun z hz => by simp [hz]) (by omega)) ?_
  rintro v J8 N8 - ⟨rfl, rfl, rfl⟩
  refine GuardOb.mk (fun _ => ?_) (fun e => by simp at e)
  refine GuardOb.mk (fun _ => ?_) (fun e => by simp at e)
  refine LoadOb.mk y.cells ⟨rfl, _, _, _, .inr ⟨_, .head _, rfl, rfl⟩, rfl, rfl⟩ ?_
  refine BinOb.neR (p := y) (q := y) ?_
  refine GuardOb.mk (fun _ => ?_) (fun e => by simp at e)
  refine LoadOb.mk y.cells ⟨rfl, _, _, _, .inr ⟨_, .head _, rfl, rfl⟩, rfl, rfl⟩ ?_
  refine PCallOb.whole _ (Suc_spec y) (fun v I' M' h z hz => by rw [h.2.2]; exact hz) ?_
  rintro v J9 N9 - ⟨rfl, rfl, rfl⟩
  refine CallOb.whole _ (RSuc_spec y) ?_
  rintro v J10 N10 - ⟨rfl, rfl, rfl⟩
  refine CondOb.mk (fun e => by simp at e) (fun _ => ?_)
  refine LoopOb.inv (ι := Nat × OS × List Fl) (fun s => { fl := [(1, .val x.val), (3, .ref 3 0), (5, .ref 5 0), (7, .val os7.val), (8, .val (.int .i64 rd)), (9, .val s.2.1.val), (13, .val oc.val), (21, .val (.int .i64 s.1))], cl := [(3, [.slice g.a g.n g.c]), (5, t.cells)], gi := J10, mi := oc.blk 51 ++ (s.2.1.blk 51 ++ os7.blk 51) })
    (fun s => s.1 ≤ oa.n ∧ s.2.1.n = oa.n ∧ s.2.2.length = oa.n ∧ s.2.1.ok 3 (s.2.2.flatMap Fl.cells)) (fun s => oa.n - s.1) ?_ ?_
  · exact ⟨(0, oa, la), ⟨Nat.zero_le _, rfl, han.symm, hoa⟩, .sub (.cons _ ((List.Sublist.append (.refl _) (List.sublist_append_right _ _)).trans (List.sublist_append_right _ _))) .refl, .cons .refl (.cons .refl (.cons .refl (.cons .refl (.cons .refl (.cons .refl (.cons .refl (.cons .refl (.nil)))))))), .cons rfl (.cons rfl (.nil))⟩
  rintro ⟨k, p, l⟩ ⟨hk, hpn, hll, hp⟩
  simp only at hk hpn hll hp
  refine CondOb.mk (fun h => ?_) (fun h => ?_)
  · have hkn : k < p.n := by simpa using h
    obtain ⟨ad, had, hrd⟩ := OS.ok.row (I := J10) (M := oc.blk 51 ++ (p.blk 51 ++ os7.blk 51)) (e := 51) Fl.cells_len (by decide) hp (fun z hz => by simp [hz]) (show k < l.length by omega)
    refine IdxOb.mk ad k had rfl hkn ?_
    refine LoadOb.mk _ (hrd.part (k := 0) (m := 1) (by decide)) ?_
    refine IdxOb.mk ad k had rfl hkn ?_
    refine OS.flStore (e := 51) hp (show k < l.length by omega) 0 (by decide) (oc.blk 51) (os7.blk 51) rfl had ?_
    intro p' hv' hn' hp'
    refine ArithOb.mk _ (next_wr (i := k) (by omega)) ?_
    exact ⟨(k + 1, p', _), ⟨⟨by simp only; omega, by simp only; omega, by simp only [List.length_set]; omega, hp'⟩, by simp only; omega⟩, .refl, .cons .refl (.cons .refl (.cons .refl (.cons .refl (.cons .refl (.cons (by rw [← hv']; exact .refl) (.cons .refl (.cons .refl .nil))))))), .cons rfl (.cons rfl (.nil))⟩
  refine LoopOb.inv (ι := Nat × OS × List Fl) (fun s => { fl := [(1, .val x.val), (3, .ref 3 0), (5, .ref 5 0), (7, .val os7.val), (8, .val (.int .i64 rd)), (13, .val s.2.1.val), (22, .val (.int .i64 s.1))], cl := [(3, [.slice g.a g.n g.c]), (5, t.cells)], gi := J10, mi := s.2.1.blk 51 ++ os7.blk 51 })
    (fun s => s.1 ≤ oc.n ∧ s.2.1.n = oc.n ∧ s.2.2.length = oc.n ∧ s.2.1.ok 3 (s.2.2.flatMap Fl.cells)) (fun s => oc.n - s.1) ?_ ?_
  · exact ⟨(0, oc, _), ⟨Nat.zero_le _, rfl, hcn.symm, hoc⟩, .sub (List.Sublist.append (.refl _) (List.sublist_append_right _ _)) .refl, .cons .refl (.cons .refl (.cons .refl (.cons .refl (.cons .refl (.cons .refl (.cons .refl (.nil))))))), .cons rfl (.cons rfl (.nil))⟩
  rintro ⟨k, p, l⟩ ⟨hk, hpn, hll, hp⟩
  simp only at hk hpn hll hp
  refine CondOb.mk (fun h => ?_) (fun h => ?_)
  · have hkn : k < p.n := by simpa using h
    obtain ⟨ad, had, hrd⟩ := OS.ok.row (I := J10) (M := p.blk 51 ++ os7.blk 51) (e := 51) Fl.cells_len (by decide) hp (fun z hz => by simp [hz]) (show k < l.length by omega)
    refine IdxOb.mk ad k had rfl hkn ?_
    refine LoadOb.mk _ (hrd.part (k := 2) (m := 1) (by decide)) ?_
    refine IdxOb.mk ad k had rfl hkn ?_
    refine OS.flStore (e := 51) hp (show k < l.length by omega) 2 (by decide) [] (os7.blk 51) rfl had ?_
    intro p' hv' hn' hp'
    refine ArithOb.mk _ (next_wr (i := k) (by omega)) ?_
    exact ⟨(k + 1, p', _), ⟨⟨by simp only; omega, by simp only; omega, by simp only [List.length_set]; omega, hp'⟩, by simp only; omega⟩, .refl, .cons .refl (.cons .refl (.cons .refl (.cons .refl (.cons .refl (.cons (by rw [← hv']; exact .refl) (.cons .refl .nil)))))), .cons rfl (.cons rfl (.nil))⟩
  refine ArithOb.mk _ (next_wr (i := rd) (by omega)) ?_
  exact ⟨(rd + 1, J10), ⟨⟨by simp only; omega, hI6⟩, by simp only; omega⟩, .sub (List.sublist_append_right _ _) .refl, .cons .refl (.cons .refl (.cons .refl (.cons .refl (.cons .refl (.nil))))), .cons rfl (.cons rfl (.nil))⟩
end Go.V

/-
  For every input bonsai/bonsailaw10.FlowTells returns true, and each argument reads behind the call as it read before: the given card, from the walk's contract. Conditions: those of the row itself.
-/
set_option linter.unusedVariables false
set_option linter.unusedSimpArgs false
namespace Go.Proofs.YtcccmnppfmfkiaaGreatDoor
open Go Go.V Go.ChangeShapes Go.WideShapes Go.ChangeAt Go.RowKit

theorem flowTells_laid (os : Os) : laidMet Tryz.prog Rows.flowTellsRow.laid ((laidWorld os).forCall (fun _ _ => 0) ⟨#[], #[.agg #[.slice none 0 0], .slice none 0 0, .agg #[.slice none 0 0, .int .i64 0]], []⟩).memory :=
  laidMet_of_run' 8 (by kernel_rfl) (by kernel_rfl)
theorem flowTells_reads (os : Os) {H : Type} (enc : TypeId × Value → H) : ∃ places, DataW.whole enc Tryz.prog ((laidWorld os).forCall (fun _ _ => 0) ⟨#[], #[.agg #[.slice none 0 0], .slice none 0 0, .agg #[.slice none 0 0, .int .i64 0]], []⟩).memory Tryz.f4.params.toList Rows.flowTellsSpec.vars false (#[.agg #[.slice none 0 0], .slice none 0 0, .agg #[.slice none 0 0, .int .i64 0]] : Array Value).toList 8 = some ([.agg [.nil], .nil, .agg [.nil, .lit (.int .i64 0)]], [], places) :=
  ⟨[], by kernel_rfl⟩
theorem flowTells_params : (Tryz.f4.params.toList.all fun t => Tryz.prog.readableRec t && decide (t < Tryz.prog.types.size) && !Tryz.prog.wantsStandIn t) = true := by kernel_rfl

set_option maxRecDepth 100000 in
theorem flowTells_contract (H : Type) (enc : TypeId × Value → H) (W : World) (base : Nat) (args : Array Value) (ds gs : List (DataW H)) (before : List MemPlace)
    (hval : ∀ (j : Nat) t v, Tryz.f4.params[j]? = some t → args[j]? = some v → Value.okWide Tryz.prog W .any base t v)
    (hW : DataW.Whole enc Tryz.prog Tryz.f4.params.toList Rows.flowTellsSpec.vars false W args.toList ds gs before) (hL : laidMetH Tryz.prog Rows.flowTellsRow.laid W) :
    Calls Tryz.prog 4 args W fun e W' => ∃ v, e = .returned v ∧ Rows.flowTellsSpec.post enc Tryz.prog Tryz.f4 false true false false W args v W' := by
  have hW' := hW
  obtain ⟨p, q, hA0, hV, rfl, hfz, hnd⟩ := hW
  have hA : DataW.TrodAll enc Tryz.prog W 0 (fun _ => true) true Tryz.f4.params.toList args.toList ds p := hA0
  have hAk := hA
  rw [Tryz.params4] at hA
  obtain ⟨rfl, rfl⟩ := trodVars_none hV
  have hlt : ∀ x ∈ p, x.block < W.heap.size := fun x hx => hW'.lt x (by simp [hx])
  have hT : Tabs (ghost W) debL := tabs_ghost hL rfl
  obtain ⟨v1, v2, v3, d1, d2, d3, p1, p2, p3, rfl, rfl, rfl, h1, h2, h3⟩ := trodAll_three hA
  obtain ⟨g1, rfl, hg1⟩ := arg_grammar h1 (hval 0 24 _ (by kernel_rfl) rfl)
  obtain ⟨g2, rfl, hg2⟩ := arg_flows h2 (hval 1 34 _ (by kernel_rfl) rfl)
  obtain ⟨g3, rfl, hg3⟩ := arg_tree h3 (hval 2 37 _ (by kernel_rfl) rfl)
  refine (calls_of_specE (flowTells_V hT hg1 hg2 hg3)).mono ?_
  rintro e W' ⟨v, rfl, ⟨I', M', rfl⟩, hK⟩
  refine ⟨_, rfl, post_of_old (pa := _) (pv := []) hW' (fun _ _ _ => ?_) (fun sp hs => trodAll_stays laidOut hK (fun t ht => ?_) hAk hlt sp (fun p hp => hs p (List.mem_append_left _ hp))) (fun _ _ => rfl) rfl hK (ok_one (by kernel_rfl) rfl (okWide_bool_mk Tryz.underlying4 _))⟩
  · exact trodAll_cons_mk (shut_bool Tryz.underlying4 _) trodAll_mk0
  · have := all_mem flowTells_params ht
    simp only [Bool.and_eq_true, decide_eq_true_eq] at this
    exact this.1

set_option maxRecDepth 100000 in
theorem flowTells_lifted (os : Os) (started : os.Started) (H : Type) (enc : TypeId × Value → H) (F : Stop.Interp) :
    ReturnsInHanded {} Tryz.checked os 4 .any ((OpenSpec.ofChange Rows.flowTellsSpec).preRow enc Tryz.prog Tryz.f4 Rows.flowTellsRow.domain false Rows.flowTellsRow.laid) (((OpenSpec.ofChange Rows.flowTellsSpec).at F).post enc Tryz.prog Tryz.f4 false true false false) := by
  obtain ⟨places, hx⟩ := flowTells_reads os enc
  refine returnsInHanded_of_row (C := Tryz.checked) (s := OpenSpec.ofChange Rows.flowTellsSpec) own started (by kernel_rfl) Tryz.func4
    (witness_row_at (enc := enc) (C := Tryz.checked) false (laidWorld os) #[.agg #[.slice none 0 0], .slice none 0 0, .agg #[.slice none 0 0, .int .i64 0]] rfl (by kernel_rfl) (by kernel_rfl) (by kernel_rfl)
      (OpenSpec.preRow_of_cond 8 hx (by kernel_rfl) (fun k hk => by cases hk) (by kernel_rfl) (flowTells_laid os))) ?_
  intro W base args ds gs before hval hW _ _ _ hL _ _
  exact flowTells_contract H enc W base args ds gs before hval hW hL

theorem flowTells_said : Rows.FlowTellsSaid :=
  OpenClaim.holds_of_cond 4 Tryz.f4 rfl rfl rfl rfl rfl rfl rfl ⟨rfl, rfl, rfl, rfl, rfl⟩ rfl rfl rfl rfl rfl (by kernel_rfl) Tryz.func4 (by kernel_rfl)
    (of_decide_eq_true (by kernel_rfl)) (by unfold Func.isWrapper; first | (rw [if_pos (by decide +kernel)]; kernel_rfl) | (rw [if_neg (by decide +kernel)]; exact ⟨rfl, rfl⟩))
    (fun os started H enc _ F => by rw [OpenClaim.pre_eq_preRow]; exact flowTells_lifted os started H enc F)

theorem flowTells_plain (f : FuncId) (fn : Func) (hf : Tryz.pinned.checked.prog.funcNamed "bonsai/bonsailaw10.FlowTells" = some f) (hfn : Tryz.pinned.checked.prog.funcs[f]? = some fn) :
    false = Tryz.pinned.checked.prog.looks [] ∧ ∀ (j : Nat) t, fn.params[j]? = some t → Tryz.pinned.checked.prog.wantsStandIn t = false := by
  obtain rfl : f = 4 := Option.some.inj ((show Tryz.prog.funcNamed "bonsai/bonsailaw10.FlowTells" = some 4 by kernel_rfl).symm.trans hf) |>.symm
  obtain rfl : fn = Tryz.f4 := (Option.some.inj (Tryz.func4.symm.trans hfn)).symm
  refine ⟨by kernel_rfl, fun j t ht => ?_⟩
  have := all_mem flowTells_params (x := t) (by simpa using Array.mem_of_getElem? ht)
  simp only [Bool.and_eq_true, Bool.not_eq_true', decide_eq_true_eq] at this
  exact this.2

/-- The card. -/
theorem flowTells_card : Rows.FlowTellsCardSaid :=
  Claim7.holds_tied_plain_at .later [] _ _ _ _ flowTells_said (fun _ h => by cases h) (by kernel_rfl) (fun _ h => by cases h) flowTells_row_tie rfl ⟨rfl, rfl⟩ (by kernel_rfl) rfl flowTells_plain (by kernel_rfl)
end Go.Proofs.YtcccmnppfmfkiaaGreatDoor
