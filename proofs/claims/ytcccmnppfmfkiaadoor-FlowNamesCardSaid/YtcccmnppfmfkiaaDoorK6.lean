/-
  Part 6 of what the proofs of this seat share: the executor, data in memory, walks.
-/
import Derived.Test.YtcccmnppfmfkiaaDoorK5
import Derived.Test.YtcccmnppfmfkiaaDoorK4

/-
  Walks: the flows of a node, out of its kids'.
-/
set_option linter.unusedVariables false
set_option linter.unusedSimpArgs false
namespace Go.V
open Go Go.Proofs

structure Fl where
  z : Bool
  s : Bool
  f : Bool
  deriving DecidableEq
def Fl.cells (x : Fl) : List Value := [.bool x.z, .bool x.s, .bool x.f]
def Fl.val (x : Fl) : Value := .agg #[.bool x.z, .bool x.s, .bool x.f]
theorem Fl.cells_len (x : Fl) : x.cells.length = 3 := rfl
def Fl.suc (x : Fl) : Bool := x.z || x.s
def Fl.eqb (x y : Fl) : Bool := x.z == y.z && (x.s == y.s && x.f == y.f)
theorem Fl.eqb_iff (x y : Fl) : x.eqb y = decide (x = y) := by
  obtain ⟨a, b, c⟩ := x
  obtain ⟨d, e, f⟩ := y
  cases a <;> cases b <;> cases c <;> cases d <;> cases e <;> cases f <;> decide

theorem eqB3_run (x y : Fl) (p q : Operand) (w : World) : (do eqGuard .eql 55 p q x.val y.val; binOp .eql 55 x.val y.val : Sem Value).run Tryd.prog w = .ok (.bool (decide (x = y))) w := by
  obtain ⟨a, b, c⟩ := x
  obtain ⟨d, e, f⟩ := y
  cases a <;> cases b <;> cases c <;> cases d <;> cases e <;> cases f <;> kernel_rfl
theorem neB3_run (x y : Fl) (p q : Operand) (w : World) : (do eqGuard .neq 55 p q x.val y.val; binOp .neq 55 x.val y.val : Sem Value).run Tryd.prog w = .ok (.bool (!decide (x = y))) w := by
  obtain ⟨a, b, c⟩ := x
  obtain ⟨d, e, f⟩ := y
  cases a <;> cases b <;> cases c <;> cases d <;> cases e <;> cases f <;> kernel_rfl
theorem BinOb.eqF {x y : Operand} {p q : Fl} {V : Value → Prop} {other : Prop} (h : V (.bool (decide (p = q)))) : BinOb Tryd.prog .eql 55 x y (.val (.agg #[.bool p.z, .bool p.s, .bool p.f])) (.val (.agg #[.bool q.z, .bool q.s, .bool q.f])) V other :=
  .mk _ _ _ rfl rfl (fun w => eqB3_run p q x y w) h
theorem BinOb.neF {x y : Operand} {p q : Fl} {V : Value → Prop} {other : Prop} (h : V (.bool (!decide (p = q)))) : BinOb Tryd.prog .neq 55 x y (.val (.agg #[.bool p.z, .bool p.s, .bool p.f])) (.val (.agg #[.bool q.z, .bool q.s, .bool q.f])) V other :=
  .mk _ _ _ rfl rfl (fun w => neB3_run p q x y w) h

theorem fl_eq {z s f : Bool} {x : Fl} (h1 : z = x.z) (h2 : s = x.s) (h3 : f = x.f) : Value.agg #[.bool z, .bool s, .bool f] = x.val := by
  subst h1 h2 h3
  rfl
theorem fl_cells {z s f : Bool} {x : Fl} (h1 : z = x.z) (h2 : s = x.s) (h3 : f = x.f) : [Value.bool z, Value.bool s, Value.bool f] = x.cells := by
  subst h1 h2 h3
  rfl
theorem sv_bool {a b : Bool} (h : a = b) : SvLe (.val (.bool a)) (.val (.bool b)) := by
  subst h
  exact .refl
theorem sv_lit {a b : Bool} (h : a = b) : SvLe (.lit a) (.val (.bool b)) := by
  subst h
  exact .lit
theorem perm_nil {M : List Blk} : M.Perm (M ++ []) := by simp
theorem BinOb.ne4 {P : Program} {E : Env} (hE : EOK P E) {t e : Nat} {ti ei : TI} {x y : Operand} (ht : E t = some ti) (hts : ti.sh = .array 4 e) (he : E e = some ei) {k : IntKind} (hes : ei.sh = .int k)
    (hg : P.eqGuardType P.depth t = false) {a0 a1 a2 a3 b0 b1 b2 b3 : Int} {V : Value → Prop} {other : Prop}
    (h : V (.bool (!(a0 == b0 && (a1 == b1 && (a2 == b2 && a3 == b3)))))) : BinOb P .neq t x y (.val (.agg #[.int k a0, .int k a1, .int k a2, .int k a3])) (.val (.agg #[.int k b0, .int k b1, .int k b2, .int k b3])) V other := by
  obtain ⟨d, hud, hdd⟩ := (hE _ _ ht).und
  obtain ⟨de, hue, hde⟩ := (hE _ _ he).und
  obtain ⟨inf, z, hi, hi1, _⟩ := (hE _ _ he).inf
  have h1 : d = .array 4 e := by rw [hts] at hdd; cases d <;> simp_all [shOf]
  have h2 : de = .int k := by rw [hes] at hde; cases de <;> simp_all [shOf]
  subst h1
  subst h2
  have hs1 : inf.size = 1 := by rw [hi1]; exact (hE _ _ he).sz1 (by rw [hes]; rfl)
  refine .mk _ _ _ rfl rfl (fun w => ?_) h
  simp only [Sem.run_bind, run_eqGuard_agg (hm := hg), Result.andThen_ok, binOp, eq4_run hud hue hi hs1, Sem.run_pure]
theorem Suc_spec {I : GH} {M : List Blk} (x : Fl) : Spec Tryd.prog 28 [x.val] I M fun v I' M' => v = .bool x.suc ∧ I' = I ∧ M' = M := by
  obtain ⟨a, b, c⟩ := x
  refine spec_of_V [] TrydEOK Tryd.func28 rfl rfl rfl ?_
  intro B h0
  refine GuardOb.mk (fun h => ?_) (fun h => ?_)
  · exact ⟨_, _, .refl, by rw [show a = false from h]; rfl, rfl, rfl⟩
  · exact ⟨_, _, .refl, by rw [show a = true from h]; rfl, rfl, rfl⟩

/-- Flows that lie from an address on. -/
structure FsAt (I : GH) (M : List Blk) (a : Option Addr) (n : Nat) (ks : List Fl) : Prop where
  n : ks.length = n
  rd : ∀ j (h : j < ks.length), ∃ ad, a = some ad ∧ Rd I M (ad.add (j * 3)) 3 ks[j].cells

def seqStep (st : Fl × Bool) (k : Fl) : Fl × Bool := (⟨st.1.z && k.z, st.1.s || k.s, st.1.f || (st.2 && k.f)⟩, st.2 && k.suc)
def seqGo (ks : List Fl) : Fl × Bool := ks.foldl seqStep (⟨true, false, false⟩, true)
def seqFl (ks : List Fl) : Fl := ⟨(seqGo ks).1.z, (seqGo ks).1.s && (seqGo ks).2, (seqGo ks).1.f⟩
def chStep (f k : Fl) : Fl := ⟨f.z || (f.f && k.z), f.s || (f.f && k.s), f.f && k.f⟩
def chFl (ks : List Fl) : Fl := ks.foldl chStep ⟨false, false, true⟩
def fl0 : Fl := ⟨false, false, false⟩
def repFl (d : Nd) (k : Fl) : Fl := bif decide (d.hi = 0) then ⟨true, false, false⟩ else ⟨k.z || (decide (d.lo = 0) && k.f), k.s, decide (0 < d.lo) && k.f⟩
/-- What a node's kids come to (of a Rule its only kid is the rule's). -/
def comeFl (d : Nd) (ks : List Fl) : Fl :=
  bif decide (d.k = 0) then ⟨true, false, false⟩ else
  bif decide (d.k = 1) then ⟨false, !d.setZ, true⟩ else
  bif decide (d.k = 2) then ⟨false, true, true⟩ else
  bif decide (d.k = 3) then ks.headD fl0 else
  bif decide (d.k = 4) then seqFl ks else
  bif decide (d.k = 5) then chFl ks else
  bif decide (d.k = 6) then repFl d (ks.headD fl0) else
  bif decide (d.k = 7) then ⟨(ks.headD fl0).suc, false, (ks.headD fl0).f⟩ else
  bif decide (d.k = 8) then ⟨(ks.headD fl0).f, false, (ks.headD fl0).suc⟩ else ks.headD fl0

section
variable {I : GH} {M : List Blk} {d : Nd} {a : Option Addr} {n c : Nat} {ks : List Fl}
theorem FsAt.head (hk : FsAt I M a n ks) (h0 : 0 < n) : ∃ ad, a = some ad ∧ Rd I M (ad.add (0 * 3)) 3 (ks.headD fl0).cells := by
  have h1 : 0 < ks.length := by rw [hk.n]; exact h0
  obtain ⟨ad, h2, h3⟩ := hk.rd 0 h1
  refine ⟨ad, h2, ?_⟩
  cases ks with
  | nil => simp at h1
  | cons k ks => exact h3
theorem fEmpty_spec : Spec Tryd.prog 73 [d.val, .slice a n c] I M fun v I' M' => v = Fl.val ⟨true, false, false⟩ ∧ I' = I ∧ M' = M := by
  refine spec_of_V [] TrydEOK Tryd.func73 rfl rfl rfl ?_
  intro B h0
  exact ⟨_, _, .refl, rfl, rfl, rfl⟩
theorem fText_spec : Spec Tryd.prog 75 [d.val, .slice a n c] I M fun v I' M' => v = Fl.val ⟨false, true, true⟩ ∧ I' = I ∧ M' = M := by
  refine spec_of_V [] TrydEOK Tryd.func75 rfl rfl rfl ?_
  intro B h0
  exact ⟨_, _, .refl, rfl, rfl, rfl⟩
theorem fItself_spec (hk : FsAt I M a n ks) (h0 : 0 < n) : Spec Tryd.prog 76 [d.val, .slice a n c] I M fun v I' M' => v = (ks.headD fl0).val ∧ I' = I ∧ M' = M := by
  refine spec_of_V [] TrydEOK Tryd.func76 rfl rfl rfl ?_
  intro B h0'
  obtain ⟨ad, had, hrd⟩ := hk.head h0
  refine IdxOb.mk ad 0 had rfl h0 ?_
  refine LoadOb.mk _ hrd ?_
  exact ⟨_, _, .refl, rfl, rfl, rfl⟩
theorem fAnd_spec (hk : FsAt I M a n ks) (h0 : 0 < n) : Spec Tryd.prog 80 [d.val, .slice a n c] I M fun v I' M' => v = Fl.val ⟨(ks.headD fl0).suc, false, (ks.headD fl0).f⟩ ∧ I' = I ∧ M' = M := by
  refine spec_of_V [] TrydEOK Tryd.func80 rfl rfl rfl ?_
  intro B h0'
  obtain ⟨ad, had, hrd⟩ := hk.head h0
  refine CodeOb.draw TrydEOK rfl rfl rfl ?_
  refine IdxOb.mk ad 0 had rfl h0 ?_
  refine LoadOb.mk _ hrd ?_
  refine IdxOb.mk ad 0 had rfl h0 ?_
  refine LoadOb.mk _ (hrd.part (k := 2) (m := 1) (by decide)) ?_
  refine PCallOb.mkR M [] _ perm_nil (Suc_spec (ks.headD fl0)) (fun v I' M' h x hx => by rw [h.2.2]; exact hx) ?_
  rintro v I' M' - ⟨rfl, rfl, rfl⟩
  rw [List.append_nil]
  exact ⟨_, _, .refl, rfl, rfl, rfl⟩
theorem fNot_spec (hk : FsAt I M a n ks) (h0 : 0 < n) : Spec Tryd.prog 81 [d.val, .slice a n c] I M fun v I' M' => v = Fl.val ⟨(ks.headD fl0).f, false, (ks.headD fl0).suc⟩ ∧ I' = I ∧ M' = M := by
  refine spec_of_V [] TrydEOK Tryd.func81 rfl rfl rfl ?_
  intro B h0'
  obtain ⟨ad, had, hrd⟩ := hk.head h0
  refine CodeOb.draw TrydEOK rfl rfl rfl ?_
  refine IdxOb.mk ad 0 had rfl h0 ?_
  refine LoadOb.mk _ (hrd.part (k := 2) (m := 1) (by decide)) ?_
  refine IdxOb.mk ad 0 had rfl h0 ?_
  refine LoadOb.mk _ hrd ?_
  refine PCallOb.mkR M [] _ perm_nil (Suc_spec (ks.headD fl0)) (fun v I' M' h x hx => by rw [h.2.2]; exact hx) ?_
  rintro v I' M' - ⟨rfl, rfl, rfl⟩
  rw [List.append_nil]
  exact ⟨_, _, .refl, rfl, rfl, rfl⟩
theorem fSet_spec : Spec Tryd.prog 74 [d.val, .slice a n c] I M fun v I' M' => v = Fl.val ⟨false, !d.setZ, true⟩ ∧ I' = I ∧ M' = M := by
  refine spec_of_V [] TrydEOK Tryd.func74 rfl rfl rfl ?_
  intro B h0
  refine BinOb.ne4 TrydEOK (e := 27) rfl rfl rfl rfl (by kernel_rfl) ?_
  exact ⟨_, _, .refl, rfl, rfl, rfl⟩
theorem fRep_spec (hk : FsAt I M a n ks) (h0 : 0 < n) : Spec Tryd.prog 79 [d.val, .slice a n c] I M fun v I' M' => v = (repFl d (ks.headD fl0)).val ∧ I' = I ∧ M' = M := by
  refine spec_of_V [] TrydEOK Tryd.func79 rfl rfl rfl ?_
  intro B h0'
  obtain ⟨ad, had, hrd⟩ := hk.head h0
  generalize ks.headD fl0 = k at hrd
  obtain ⟨kz, kss, kf⟩ := k
  refine CondOb.mk (fun h => ?_) (fun h => ?_)
  · refine ⟨_, _, .refl, fl_eq ?_ ?_ ?_, rfl, rfl⟩ <;> simp [repFl, h]
  refine IdxOb.mk ad 0 had rfl h0 ?_
  refine LoadOb.mk _ hrd ?_
  repeat' refine GuardOb.mk (fun h => ?_) (fun h => ?_)
  all_goals refine ⟨_, _, .refl, fl_eq ?_ ?_ ?_, rfl, rfl⟩
  all_goals first | (simp_all [repFl]; done) | (simp_all [repFl]; intros; omega)
theorem fChoice_spec (hk : FsAt I M a n ks) (hn : n ≤ 140737488355328) : Spec Tryd.prog 78 [d.val, .slice a n c] I M fun v I' M' => v = (chFl ks).val ∧ I' = I ∧ M' = M := by
  refine spec_of_V [] TrydEOK Tryd.func78 rfl rfl rfl ?_
  intro B h0'
  have hkn := hk.n
  refine LoopOb.inv (ι := Nat × Fl) (fun x => { fl := [(4, .ref 4 0), (5, .ref 5 0), (9, .val (.slice a n c)), (10, .val (.int .i64 n)), (11, .val (.int .i64 x.1))], cl := [(4, fl0.cells), (5, x.2.cells)], gi := I, mi := M })
    (fun x => x.1 ≤ n ∧ x.2 = (ks.take x.1).foldl chStep ⟨false, false, true⟩) (fun x => n - x.1) ?_ ?_
  · exact ⟨(0, ⟨false, false, true⟩), ⟨Nat.zero_le _, rfl⟩, .refl, .cons .refl (.cons .refl (.cons .refl (.cons .refl (.cons .refl .nil)))), .cons rfl (.cons rfl .nil)⟩
  rintro ⟨i, f⟩ ⟨hi, hf⟩
  simp only at hi hf
  refine CondOb.mk (fun h => ?_) (fun h => ?_)
  rotate_left
  · have hge : n ≤ i := by have := of_decide_eq_false h; omega
    refine ⟨_, _, .refl, ?_, rfl, rfl⟩
    rw [List.take_of_length_le (by omega)] at hf
    rw [chFl, ← hf]
    rfl
  have hlt : i < n := by have := of_decide_eq_true h; omega
  obtain ⟨ad, had, hrd⟩ := hk.rd i (by omega)
  have hst : ∀ g : Fl, g = chStep f (ks[i]'(by omega)) → g = (ks.take (i + 1)).foldl chStep ⟨false, false, true⟩ := fun g hg => by
    rw [List.take_succ_eq_append_getElem (by omega), List.foldl_append, ← hf, hg]
    rfl
  generalize ks[i]'(by omega) = k at hrd hst
  obtain ⟨kz, kss, kf⟩ := k
  obtain ⟨z, s, ff⟩ := f
  refine IdxOb.mk ad i had rfl hlt ?_
  refine LoadOb.mk _ hrd ?_
  repeat' refine GuardOb.mk (fun h => ?_) (fun h => ?_)
  all_goals refine ArithOb.mk _ (next_wr (i := i) (by omega)) ?_
  all_goals refine ⟨(i + 1, _), ⟨⟨by simp only; omega, hst _ rfl⟩, by simp only; omega⟩, .refl, .cons .refl (.cons .refl (.cons .refl (.cons .refl (.cons .refl .nil)))), .cons rfl (.cons ?_ .nil)⟩
  all_goals clear hst hf hrd
  all_goals (refine congrArg some (fl_cells ?_ ?_ ?_) <;> simp_all [chStep])
theorem seqGo_snoc (l : List Fl) (k : Fl) : seqGo (l ++ [k]) = seqStep (seqGo l) k := by simp [seqGo]
set_option maxHeartbeats 4000000 in
theorem fSeq_spec (hk : FsAt I M a n ks) (hn : n ≤ 140737488355328) : Spec Tryd.prog 77 [d.val, .slice a n c] I M fun v I' M' => v = (seqFl ks).val ∧ I' = I ∧ M' = M := by
  refine spec_of_V [] TrydEOK Tryd.func77 rfl rfl rfl ?_
  intro B h0'
  have hkn := hk.n
  refine LoopOb.inv (ι := Nat × Fl × Bool) (fun x => { fl := [(4, .ref 4 0), (5, .ref 5 0), (6, .val (.bool x.2.2)), (10, .val (.slice a n c)), (11, .val (.int .i64 n)), (12, .val (.int .i64 x.1))], cl := [(4, fl0.cells), (5, x.2.1.cells)], gi := I, mi := M })
    (fun x => x.1 ≤ n ∧ x.2 = seqGo (ks.take x.1)) (fun x => n - x.1) ?_ ?_
  · exact ⟨(0, ⟨true, false, false⟩, true), ⟨Nat.zero_le _, rfl⟩, .refl, .cons .refl (.cons .refl (.cons .lit (.cons .refl (.cons .refl (.cons .refl .nil))))), .cons rfl (.cons rfl .nil)⟩
  rintro ⟨i, f, sc⟩ ⟨hi, hf⟩
  simp only at hi hf
  refine CondOb.mk (fun h => ?_) (fun h => ?_)
  rotate_left
  · have hge : n ≤ i := by have := of_decide_eq_false h; omega
    rw [List.take_of_length_le (by omega)] at hf
    obtain ⟨z, s, ff⟩ := f
    have e1 : (seqGo ks).1 = ⟨z, s, ff⟩ := by rw [← hf]
    have e2 : (seqGo ks).2 = sc := by rw [← hf]
    refine GuardOb.mk (fun h2 => ?_) (fun h2 => ?_)
    all_goals refine ⟨_, _, .refl, fl_eq ?_ ?_ ?_, rfl, rfl⟩
    all_goals simp_all [seqFl]
  have hlt : i < n := by have := of_decide_eq_true h; omega
  obtain ⟨ad, had, hrd⟩ := hk.rd i (by omega)
  have hst : ∀ g : Fl × Bool, g = seqStep (f, sc) (ks[i]'(by omega)) → g = seqGo (ks.take (i + 1)) := fun g hg => by
    rw [List.take_succ_eq_append_getElem (by omega), seqGo_snoc, ← hf, hg]
  generalize ks[i]'(by omega) = k at hrd hst
  obtain ⟨kz, kss, kf⟩ := k
  obtain ⟨z, s, ff⟩ := f
  refine IdxOb.mk ad i had rfl hlt ?_
  refine LoadOb.mk _ hrd ?_
  repeat' first
    | refine GuardOb.mk (fun h => ?_) (fun h => ?_)
    | (refine CallOb.mk M [] _ perm_nil (Suc_spec ⟨kz, kss, kf⟩) ?_; rintro v I' M' - ⟨rfl, rfl, rfl⟩; rw [List.append_nil])
  all_goals refine ArithOb.mk _ (next_wr (i := i) (by omega)) ?_
  all_goals refine ⟨(i + 1, _), ⟨⟨by simp only; omega, hst _ rfl⟩, by simp only; omega⟩, .refl, .cons .refl (.cons .refl (.cons ?_ (.cons .refl (.cons .refl (.cons .refl .nil))))), .cons rfl (.cons ?_ .nil)⟩
  all_goals clear hst hf hrd
  all_goals first
    | (refine congrArg some (fl_cells ?_ ?_ ?_) <;> simp_all [seqStep])
    | (refine sv_bool ?_; simp_all [seqStep])
    | (refine sv_lit ?_; simp_all [seqStep])
end
end Go.V

/-
  Walks: bonsairef02 (Letter, digit, Take, May); tree.leaf, Rule, Text, Empty.
-/
set_option linter.unusedVariables false
set_option linter.unusedSimpArgs false
namespace Go.V
open Go Go.Proofs

theorem RLetter_spec (I : GH) (c : UInt8) : Spec Tryd.prog 87 [.int .u8 c.toNat] I [] (fun v I' M' => v = .bool (letter c) ∧ I' = I ∧ M' = []) := by
  refine spec_of_V [] TrydEOK Tryd.func87 rfl rfl rfl ?_
  intro B h0
  repeat' (refine GuardOb.mk (fun h => ?_) (fun h => ?_))
  all_goals
    refine ⟨_, _, .refl, ?_⟩
    refine ⟨?_, rfl, rfl⟩
    simp_all [letter]
    all_goals first
      | omega
      | (rw [Bool.eq_iff_iff]; simp; omega)

theorem Rdigit_spec (I : GH) (c : UInt8) : Spec Tryd.prog 88 [.int .u8 c.toNat] I [] (fun v I' M' => v = .bool (digit c) ∧ I' = I ∧ M' = []) := by
  refine spec_of_V [] TrydEOK Tryd.func88 rfl rfl rfl ?_
  intro B h0
  repeat' (refine GuardOb.mk (fun h => ?_) (fun h => ?_))
  all_goals
    refine ⟨_, _, .refl, ?_⟩
    refine ⟨?_, rfl, rfl⟩
    simp_all [digit]
    all_goals first
      | omega
      | (rw [Bool.eq_iff_iff]; simp; omega)

theorem RTake_spec (I : GH) (s : ByteArray) (hs : s.size ≤ 140737488355328) : Spec Tryd.prog 82 [.string s] I [] (fun v I' M' => v = .string (s.extract 0 (nameLen s)) ∧ I' = I ∧ M' = []) := by
  refine spec_of_V [] TrydEOK Tryd.func82 rfl rfl rfl ?_
  intro B h0
  have e0 : ∀ {s : ByteArray}, nameLen s = 0 → s.extract 0 (nameLen s) = ⟨#[]⟩ := fun h => by rw [h]; apply ByteArray.ext; simp [ByteArray.data_extract]
  refine GuardOb.mk (fun h => ?_) (fun h => ?_)
  · have h1 : s ≠ ⟨#[]⟩ := by simpa using h
    have hpos : 0 < s.size := by
      refine Nat.pos_of_ne_zero fun e => h1 ?_
      apply ByteArray.ext
      exact Array.eq_empty_of_size_eq_zero e
    refine StrOb.mk 0 rfl hpos ?_
    refine CallOb.mk [] [] _ (.refl _) (RLetter_spec I s[0]) ?_
    rintro v I' M' - ⟨rfl, rfl, rfl⟩
    refine CondOb.mk (fun h => ?_) (fun h => ?_)
    · have hl : letter s[0] = false := by simpa using h
      refine ⟨_, _, .refl, ?_, rfl, rfl⟩
      rw [e0]
      · unfold nameLen
        cases hd : s.data.toList with
        | nil => rfl
        | cons c r =>
          have : s[0] = c := by
            show s.data.toList[0] = c
            simp only [hd]
            rfl
          rw [this] at hl
          simp [hl]
    · have hl : letter s[0] = true := by simpa using h
      refine LoopOb.inv (ι := Nat) (fun i => { fl := [(0, .val (.string s)), (3, .val (.int .i64 i))], gi := I' }) (fun i => i ≤ s.size ∧ ∀ j (h : j < s.size), 1 ≤ j → j < i → nameCh s[j] = true) (fun i => s.size - i) ?_ ?_
      · exact ⟨0, ⟨by omega, fun j _ h1 h2 => by omega⟩, .refl, .cons .refl (.cons .refl .nil), .nil⟩
      · rintro i ⟨hi2, hi3⟩
        have hch0 : nameCh s[0] = true := by simp [nameCh, hl]
        have next : ∀ (hlt : i < s.size), nameCh s[i] = true → (i + 1 ≤ s.size ∧ ∀ k (h : k < s.size), 1 ≤ k → k < i + 1 → nameCh s[k] = true) ∧ s.size - (i + 1) < s.size - i := fun hlt hc =>
          ⟨⟨by omega, fun j hj h1 h2 => by
            by_cases e : j = i
            · subst e; exact hc
            · exact hi3 j hj h1 (by omega)⟩, by omega⟩
        have out : (∀ (h : i < s.size), nameCh s[i] = false) → s.extract 0 i = s.extract 0 (nameLen s) := fun hn => by
          have hi1 : 1 ≤ i := by
            apply Nat.one_le_iff_ne_zero.2
            intro e
            subst e
            rw [hn hpos] at hch0
            cases hch0
          rw [nameLen_of hpos hl hi1 hi2 hi3 hn]
        have hsz : (s.extract 0 i).size ≤ 140737488355328 := by
          rw [ByteArray.size_extract]
          omega
        have hwr : IntKind.i64.wrap ((i : Int) + 1) = ((i + 1 : Nat) : Int) := by
          rw [wrap_i64 ⟨by omega, by omega⟩]
          omega
        refine GuardOb.mk (fun h => ?_) (fun h => ?_)
        · have hlt : i < s.size := by simpa using h
          refine StrOb.mk i rfl hlt ?_
          refine CallOb.mk [] [] _ (.refl _) (RLetter_spec I' s[i]) ?_
          rintro v I' M' - ⟨rfl, rfl, rfl⟩
          refine GuardOb.mk (fun h => ?_) (fun h => ?_)
          · refine StrOb.mk i rfl hlt ?_
            refine CallOb.mk [] [] _ (.refl _) (Rdigit_spec _ s[i]) ?_
            rintro v I' M' - ⟨rfl, rfl, rfl⟩
            refine CondOb.mk (fun h2 => ?_) (fun h2 => ?_)
            · refine ArithOb.mk _ hwr ?_
              exact ⟨i + 1, next hlt (by simp only [nameCh]; rw [show digit s[i] = true from h2]; simp), .refl, .cons .refl (.cons .refl .nil), .nil⟩
            · refine SliceOb.mk 0 i rfl rfl (by omega) (by omega) ?_
              refine ⟨_, _, .refl, ?_, rfl, rfl⟩
              rw [← out fun _ => by simp only [nameCh]; rw [show letter s[i] = false from h, show digit s[i] = false from h2]; rfl]
          · refine ArithOb.mk _ hwr ?_
            exact ⟨i + 1, next hlt (by simp only [nameCh]; rw [show letter s[i] = true from h]; simp), .refl, .cons .refl (.cons .refl .nil), .nil⟩
        · have hge : ¬ i < s.size := by simpa using h
          refine SliceOb.mk 0 i rfl rfl (by omega) (by omega) ?_
          refine ⟨_, _, .refl, ?_, rfl, rfl⟩
          rw [← out fun h => (hge h).elim]
  · have h1 : s = ⟨#[]⟩ := by simpa using h
    subst h1
    refine ⟨_, _, .refl, ?_, rfl, rfl⟩
    rw [e0]
    rfl

theorem RMay_spec (I : GH) (s : ByteArray) : Spec Tryd.prog 64 [.string s] I [] (fun v I' M' => v = .bool (mayName s) ∧ I' = I ∧ M' = []) := by
  refine spec_of_V [] TrydEOK Tryd.func64 rfl rfl rfl ?_
  intro B h0
  refine GuardOb.mk (fun h1 => ?_) (fun h1 => ?_)
  · refine GuardOb.mk (fun h2 => ?_) (fun h2 => ?_)
    · have h2' : s.size ≤ 32 := by simp at h2; omega
      refine CallOb.mk [] [] _ (.refl _) (RTake_spec I s (by omega)) ?_
      rintro v I' M' - ⟨rfl, rfl, rfl⟩
      refine ⟨_, _, .refl, ?_, rfl, rfl⟩
      have hle := nameLen_le s
      have e1 : (s.extract 0 (nameLen s)).size = nameLen s := by rw [ByteArray.size_extract]; omega
      have e2 : decide (s.extract 0 (nameLen s) = s) = decide (nameLen s = s.size) := by
        rw [decide_eq_decide]
        constructor
        · intro h
          rw [← e1, h]
        · intro h
          rw [h]
          apply ByteArray.ext
          simp [ByteArray.data_extract]
      have h1' : decide (s ≠ ⟨#[]⟩) = true := by simpa using h1
      simp only [mayName, h1', Bool.true_and, show decide (s.size ≤ 32) = true from decide_eq_true h2', ← e2]
    · refine ⟨_, _, .refl, ?_, rfl, rfl⟩
      have h1' : decide (s ≠ ⟨#[]⟩) = true := by simpa using h1
      have h2' : decide (s.size ≤ 32) = false := by simp at h2; simp; omega
      simp only [mayName, h1', h2', Bool.true_and, Bool.false_and]
  · refine ⟨_, _, .refl, ?_, rfl, rfl⟩
    have h1' : decide (s ≠ ⟨#[]⟩) = false := by simpa using h1
    simp only [mayName, h1', Bool.false_and]

/-! ### Leaves -/
theorem u0 : u64ok 0 := ⟨by decide, by decide⟩
theorem i0 : i64ok 0 := ⟨by decide, by decide⟩
theorem leaf_spec {I : GH} {d : Nd} (hd : d.ok I) : Spec Tryd.prog 36 [d.val] I [] fun v I' M' => (∀ b o, I b = some o → I' b = some o) ∧ ∃ t : Tr, v = t.val ∧ t.ok I' ∧ t.ns = [d] ∧ t.root = 0 ∧ M' = [] := by
  refine spec_of_V [] TrydEOK Tryd.func36 rfl rfl rfl ?_
  intro B h0
  refine AllocOb.mk fun b hb hbM => ?_
  refine ⟨_, _, .prom rfl (by simp) .refl, ins_le hb, ⟨[d], some ⟨b, 0, none⟩, 1, 1, 0⟩, rfl, ⟨⟨rfl, ⟨Nat.le_refl _, by show 1 * 96 ≤ _; omega⟩, .inr ⟨_, rfl, rfl, _, _, _, ins_self .., rfl⟩⟩, fun x hx => ?_, i0⟩, rfl, rfl, rfl⟩
  simp only [List.mem_singleton] at hx
  subst hx
  exact hd.mono (ins_le hb)
def leafNd (k : Int) (s : ByteArray) : Nd := ⟨k, 0, 0, 0, 0, s, 0, 0, none, 0, 0, []⟩
theorem leafNd_ok {I : GH} {k : Int} (hk : 0 ≤ k ∧ k < 256) {s : ByteArray} (hs : s.size ≤ 140737488355328) : (leafNd k s).ok I :=
  ⟨hk, u0, u0, u0, u0, by show s.size ≤ _; omega, i0, i0, ⟨rfl, ⟨Nat.le_refl _, by show 0 * 8 ≤ _; omega⟩, .inl rfl⟩, fun x hx => by cases hx⟩
set_option maxRecDepth 20000 in
theorem Rule_spec {I : GH} {s : ByteArray} (hs : s.size ≤ 140737488355328) : Spec Tryd.prog 11 [.string s] I [] fun v I' M' => (∀ b o, I b = some o → I' b = some o) ∧ ∃ t : Tr, v = t.val ∧ t.ok I' ∧ t.ns = [leafNd 3 s] ∧ t.root = 0 ∧ M' = [] := by
  refine spec_of_V [] TrydEOK Tryd.func11 rfl rfl rfl ?_
  intro B h0
  have hl := leaf_spec (I := I) (leafNd_ok (k := 3) (by decide) hs)
  have hv : (leafNd 3 s).val = .agg #[.int .u8 3, .int .u64 0, .int .u64 0, .int .u64 0, .int .u64 0, .string s, .int .i64 0, .int .i64 0, .slice none 0 0] := rfl
  rw [hv] at hl
  refine CallOb.mk [] [] _ (.refl _) hl ?_
  rintro v I' M' - ⟨hI, t, rfl, ht, h1, h2, rfl⟩
  exact ⟨_, _, .refl, hI, t, rfl, ht, h1, h2, rfl⟩
set_option maxRecDepth 20000 in
theorem Text_spec {I : GH} {s : ByteArray} (hs : s.size ≤ 140737488355328) : Spec Tryd.prog 12 [.string s] I [] fun v I' M' => (∀ b o, I b = some o → I' b = some o) ∧ ∃ t : Tr, v = t.val ∧ t.ok I' ∧ t.ns = [leafNd 2 s] ∧ t.root = 0 ∧ M' = [] := by
  refine spec_of_V [] TrydEOK Tryd.func12 rfl rfl rfl ?_
  intro B h0
  have hl := leaf_spec (I := I) (leafNd_ok (k := 2) (by decide) hs)
  have hv : (leafNd 2 s).val = .agg #[.int .u8 2, .int .u64 0, .int .u64 0, .int .u64 0, .int .u64 0, .string s, .int .i64 0, .int .i64 0, .slice none 0 0] := rfl
  rw [hv] at hl
  refine CallOb.mk [] [] _ (.refl _) hl ?_
  rintro v I' M' - ⟨hI, t, rfl, ht, h1, h2, rfl⟩
  exact ⟨_, _, .refl, hI, t, rfl, ht, h1, h2, rfl⟩
set_option maxRecDepth 20000 in
theorem Empty_spec {I : GH} : Spec Tryd.prog 24 [] I [] fun v I' M' => (∀ b o, I b = some o → I' b = some o) ∧ ∃ t : Tr, v = t.val ∧ t.ok I' ∧ t.ns = [leafNd 0 ⟨#[]⟩] ∧ t.root = 0 ∧ M' = [] := by
  refine spec_of_V [] TrydEOK Tryd.func24 rfl rfl rfl ?_
  intro B h0
  have hl := leaf_spec (I := I) (leafNd_ok (k := 0) (s := ⟨#[]⟩) (by decide) (by decide))
  have hv : (leafNd 0 ⟨#[]⟩).val = .agg #[.int .u8 0, .int .u64 0, .int .u64 0, .int .u64 0, .int .u64 0, .string ⟨#[]⟩, .int .i64 0, .int .i64 0, .slice none 0 0] := rfl
  rw [hv] at hl
  refine CallOb.mk [] [] _ (.refl _) hl ?_
  rintro v I' M' - ⟨hI, t, rfl, ht, h1, h2, rfl⟩
  exact ⟨_, _, .refl, hI, t, rfl, ht, h1, h2, rfl⟩
end Go.V

/-
  Walks: bonsairef04.Fits (of nodes whose set is empty).
-/
set_option linter.unusedVariables false
set_option linter.unusedSimpArgs false
namespace Go.V
open Go Go.Proofs

def plainR (d : Nd) : Bool := decide (d.t = ⟨#[]⟩) && (decide (d.lo = 0) && decide (d.hi = 0))
def fitsR (d : Nd) (n : Int) : Bool :=
  bif decide (d.k = 0) then plainR d && decide (n = 0) else
  bif decide (d.k = 1) then plainR d && decide (n = 0) else
  bif decide (d.k = 2) then decide (d.lo = 0) && (decide (d.hi = 0) && (decide (n = 0) && (decide ((1 : Int) ≤ d.t.size) && decide ((d.t.size : Int) ≤ 255)))) else
  bif decide (d.k = 3) then decide (d.lo = 0) && (decide (d.hi = 0) && (decide (n = 0) && mayName d.t)) else
  bif decide (d.k = 4) || decide (d.k = 5) then plainR d && decide (2 ≤ n) else
  bif decide (d.k = 6) then decide (d.t = ⟨#[]⟩) && (decide (n = 1) && (decide (0 ≤ d.lo) && (decide (d.lo ≤ 99) && (decide (d.hi = -1) || (decide (d.lo ≤ d.hi) && decide (d.hi ≤ 99)))))) else
  bif decide (d.k = 7) || decide (d.k = 8) then plainR d && decide (n = 1) else
  bif decide (d.k = 9) then decide (d.lo = 0) && (decide (d.hi = 0) && (decide (n = 1) && mayName d.t)) else false

set_option maxHeartbeats 40000000 in
set_option maxRecDepth 20000 in
theorem RFits_spec {I : GH} (k : Int) (s : ByteArray) (lo hi : Int) (ka : Option Addr) (kn kc : Nat) (kids : List Int) (n : Int) : Spec Tryd.prog 51 [.agg #[.int .u8 k, .int .u64 0, .int .u64 0, .int .u64 0, .int .u64 0, .string s, .int .i64 lo, .int .i64 hi, .slice ka kn kc], .int .i64 n] I []
    (fun v I' M' => v = .bool (fitsR ⟨k, 0, 0, 0, 0, s, lo, hi, ka, kn, kc, kids⟩ n) ∧ I' = I ∧ M' = []) := by
  refine spec_of_V [] TrydEOK Tryd.func51 rfl rfl rfl ?_
  intro B h0
  refine BinOb.eq4 TrydEOK (e := 27) rfl rfl rfl rfl (by kernel_rfl) ?_
  refine GuardOb.mk (fun _ => ?_) (fun h => by cases h)
  have e1 : ∀ {b : Bool}, b = true → (!b) = false := fun h => by rw [h]; rfl
  repeat' (first
    | refine GuardOb.mk (fun h => ?_) (fun h => ?_)
    | refine CondOb.mk (fun h => ?_) (fun h => ?_)
    | refine BinOb.eq4 TrydEOK (e := 27) rfl rfl rfl rfl (by kernel_rfl) ?_
    | (refine CallOb.mk [] [] _ (.refl _) (RMay_spec _ s) ?_; rintro v I' M' - ⟨rfl, rfl, rfl⟩))
  all_goals first
    | (refine ⟨_, _, .refl, ?_, rfl, rfl⟩; simp_all [fitsR, plainR]; done)
    | (refine ⟨_, _, .refl, ?_, rfl, rfl⟩; simp_all [fitsR, plainR]; omega)
    | (exfalso; simp_all; done)
    | (exfalso; simp_all; omega)
    | skip
end Go.V

/-
  Walks: bonsairef04.Fits, of any node.
-/
set_option linter.unusedVariables false
set_option linter.unusedSimpArgs false
namespace Go.V
open Go Go.Proofs

/-- Each kind's own words. -/
def fitsK (z : Bool) (d : Nd) (n : Int) : Bool :=
  bif decide (d.k = 0) then z && (plainR d && decide (n = 0)) else
  bif decide (d.k = 1) then plainR d && decide (n = 0) else
  bif decide (d.k = 2) then z && (decide (d.lo = 0) && (decide (d.hi = 0) && (decide (n = 0) && (decide ((1 : Int) ≤ d.t.size) && decide ((d.t.size : Int) ≤ 255))))) else
  bif decide (d.k = 3) then z && (decide (d.lo = 0) && (decide (d.hi = 0) && (decide (n = 0) && mayName d.t))) else
  bif decide (d.k = 4) || decide (d.k = 5) then z && (plainR d && decide (2 ≤ n)) else
  bif decide (d.k = 6) then z && (decide (d.t = ⟨#[]⟩) && (decide (n = 1) && (decide (0 ≤ d.lo) && (decide (d.lo ≤ 99) && (decide (d.hi = -1) || (decide (d.lo ≤ d.hi) && decide (d.hi ≤ 99))))))) else
  bif decide (d.k = 7) || decide (d.k = 8) then z && (plainR d && decide (n = 1)) else
  bif decide (d.k = 9) then z && (decide (d.lo = 0) && (decide (d.hi = 0) && (decide (n = 1) && mayName d.t))) else false

theorem empty_size (s : ByteArray) : decide (s = ⟨#[]⟩) = decide (s.size = 0) := by
  rw [Bool.eq_iff_iff]
  simp only [decide_eq_true_eq]
  constructor
  · rintro rfl
    rfl
  · intro h
    cases s with
    | mk d =>
      have : d.size = 0 := h
      simp [Array.eq_empty_of_size_eq_zero this]
theorem fitsK_eq {d : Nd} (hk : 0 ≤ d.k ∧ d.k < 256) (n : Int) : fitsK d.setZ d n = fits d n := by
  by_cases h10 : 10 ≤ d.k
  · have e : fits d n = false := by simp [fits, h10]
    rw [e]
    unfold fitsK
    have h : ∀ j : Int, j < 10 → decide (d.k = j) = false := fun j hj => by simp; omega
    rw [h 0, h 1, h 2, h 3, h 4, h 5, h 6, h 7, h 8, h 9] <;> first | rfl | omega
  have hcases : d.k = 0 ∨ d.k = 1 ∨ d.k = 2 ∨ d.k = 3 ∨ d.k = 4 ∨ d.k = 5 ∨ d.k = 6 ∨ d.k = 7 ∨ d.k = 8 ∨ d.k = 9 := by omega
  generalize hz : d.setZ = z
  have hsz := empty_size d.t
  have hemp : (d.t = ByteArray.empty) ↔ d.t.size = 0 := by
    rw [← decide_eq_decide]
    exact hsz
  rcases hcases with h | h | h | h | h | h | h | h | h | h <;> rw [Bool.eq_iff_iff] <;> simp [fitsK, fits, h, hz, plainR, cntLo, cntHi, countsL, hemp] <;> cases z <;> first | (simp; done) | grind

theorem BinOb.eq4z {P : Program} {E : Env} (hE : EOK P E) {t e : Nat} {ti ei : TI} {x y : Operand} (ht : E t = some ti) (hts : ti.sh = .array 4 e) (he : E e = some ei) {k : IntKind} (hes : ei.sh = .int k)
    (hg : P.eqGuardType P.depth t = false) {a0 a1 a2 a3 b0 b1 b2 b3 : Int} {V : Value → Prop} {other : Prop} (z : Bool) (hz : (a0 == b0 && (a1 == b1 && (a2 == b2 && a3 == b3))) = z)
    (h : V (.bool z)) : BinOb P .eql t x y (.val (.agg #[.int k a0, .int k a1, .int k a2, .int k a3])) (.val (.agg #[.int k b0, .int k b1, .int k b2, .int k b3])) V other :=
  .eq4 hE ht hts he hes hg (by rw [hz]; exact h)

set_option maxHeartbeats 40000000 in
set_option maxRecDepth 20000 in
theorem RFits_gen {I : GH} {d : Nd} (hk : 0 ≤ d.k ∧ d.k < 256) (n : Int) : Spec Tryd.prog 51 [d.val, .int .i64 n] I []
    (fun v I' M' => v = .bool (fits d n) ∧ I' = I ∧ M' = []) := by
  rw [← fitsK_eq hk]
  obtain ⟨k, s0, s1, s2, s3, s, lo, hi, ka, kn, kc, kids⟩ := d
  clear hk
  refine spec_of_V [] TrydEOK Tryd.func51 rfl rfl rfl ?_
  intro B h0
  obtain ⟨z, hz⟩ : ∃ z, Nd.setZ ⟨k, s0, s1, s2, s3, s, lo, hi, ka, kn, kc, kids⟩ = z := ⟨_, rfl⟩
  rw [hz]
  refine BinOb.eq4z TrydEOK (e := 27) rfl rfl rfl rfl (by kernel_rfl) z hz ?_
  repeat' (first
    | refine GuardOb.mk (fun h => ?_) (fun h => ?_)
    | refine CondOb.mk (fun h => ?_) (fun h => ?_)
    | refine BinOb.eq4z TrydEOK (e := 27) rfl rfl rfl rfl (by kernel_rfl) z hz ?_
    | (refine CallOb.mk [] [] _ (.refl _) (RMay_spec _ s) ?_; rintro v I' M' - ⟨rfl, rfl, rfl⟩))
  all_goals clear hz
  all_goals first
    | (refine ⟨_, _, .refl, ?_, rfl, rfl⟩; simp_all [fitsK, plainR]; done)
    | (refine ⟨_, _, .refl, ?_, rfl, rfl⟩; simp_all [fitsK, plainR]; omega)
    | (exfalso; simp_all; done)
    | (exfalso; simp_all; omega)
    | skip
end Go.V

/-
  Walks: bonsairef04.Right, of any tree.
-/
set_option linter.unusedVariables false
set_option linter.unusedSimpArgs false
namespace Go.V
open Go Go.Proofs

def b2i (b : Bool) : Int := bif b then 1 else 0
theorem kidsOk_none_of {i : Nat} : ∀ {ks : List Int} {s : List Bool} {k : Int}, k ∈ ks → (k < 0 ∨ (i : Int) ≤ k) → kidsOk i ks s = none
  | a :: ks, s, k, hk, h => by
    unfold kidsOk
    cases hb : decide (a < 0) || (decide ((i : Int) ≤ a) || s.getD a.toNat false) with
    | true => rfl
    | false =>
      simp only [cond_false]
      simp only [Bool.or_eq_false_iff, decide_eq_false_iff_not] at hb
      rcases List.mem_cons.1 hk with rfl | hk
      · rcases h with h | h
        · exact (hb.1 h).elim
        · exact (hb.2.1 h).elim
      · exact kidsOk_none_of hk h
theorem rootOk_false {root : Int} : ∀ {s : List Bool} {i j : Nat}, j < s.length → (s.getD j false == decide (((i + j : Nat) : Int) = root)) = true → rootOk root i s = false
  | b :: s, i, 0, _, h => by
    unfold rootOk
    rw [show (b == decide ((i : Int) = root)) = true by simpa using h]
    rfl
  | b :: s, i, j + 1, hj, h => by
    unfold rootOk
    cases b == decide ((i : Int) = root) with
    | true => rfl
    | false =>
      simp only [cond_false]
      refine rootOk_false (j := j) (by simpa using hj) ?_
      rw [show i + 1 + j = i + (j + 1) by omega]
      simpa using h
theorem rootOk_true {root : Int} : ∀ {s : List Bool} {i : Nat}, (∀ j, j < s.length → (s.getD j false == decide (((i + j : Nat) : Int) = root)) = false) → rootOk root i s = true
  | [], i, h => rfl
  | b :: s, i, h => by
    unfold rootOk
    have h0 := h 0 (by simp)
    rw [show (b == decide ((i : Int) = root)) = false by simpa using h0]
    simp only [cond_false]
    refine rootOk_true fun j hj => ?_
    have := h (j + 1) (by simpa using hj)
    rw [show i + 1 + j = i + (j + 1) by omega]
    simpa using this

/-- How far a tree's nodes have been gone over: the counts of parents. -/
structure ParInv (t : Tr) (P : List Int) (W : Int) : Prop where
  len : P.length = t.ns.length
  bd : ∀ c ∈ P, 0 ≤ c ∧ c ≤ W
/-- Either all was well so far (and the marks are the counts), or it is known that it was not. -/
def ParAt (t : Tr) (P : List Int) (rest : List Bool → Option (List Bool)) : Prop :=
  (∃ s : List Bool, s.length = t.ns.length ∧ P = s.map b2i ∧ nodesOk 0 t.ns (List.replicate t.ns.length false) = rest s) ∨
  (nodesOk 0 t.ns (List.replicate t.ns.length false) = none ∧ ∃ k, k < t.ns.length ∧ 2 ≤ P.getD k 0)
def restN (t : Tr) (i : Nat) (s : List Bool) : Option (List Bool) := nodesOk i (t.ns.drop i) s
def restK (t : Tr) (i : Nat) (d : Nd) (k : Nat) (s : List Bool) : Option (List Bool) := match kidsOk i (d.kids.drop k) s with
  | some s' => nodesOk (i + 1) (t.ns.drop (i + 1)) s'
  | none => none
theorem right_none {t : Tr} (h : nodesOk 0 t.ns (List.replicate t.ns.length false) = none) : right t = false := by
  simp [right, h]
theorem ParAt.start (t : Tr) : ParAt t (List.replicate t.ns.length 0) (restN t 0) :=
  .inl ⟨List.replicate t.ns.length false, by simp, by simp [b2i], rfl⟩
theorem ParAt.enter {t : Tr} {P : List Int} {i : Nat} (h : ParAt t P (restN t i)) (hi : i < t.ns.length) (hf : fits t.ns[i] t.ns[i].kids.length = true) : ParAt t P (restK t i t.ns[i] 0) := by
  rcases h with ⟨s, h1, h2, h3⟩ | h
  · refine .inl ⟨s, h1, h2, ?_⟩
    rw [h3, restN, List.drop_eq_getElem_cons hi, nodesOk, hf]
    rfl
  · exact .inr h
theorem ParAt.unfit {t : Tr} {P : List Int} {i : Nat} (h : ParAt t P (restN t i)) (hi : i < t.ns.length) (hf : fits t.ns[i] t.ns[i].kids.length = false) : right t = false := by
  refine right_none ?_
  rcases h with ⟨s, h1, h2, h3⟩ | h
  · rw [h3, restN, List.drop_eq_getElem_cons hi, nodesOk, hf]
    rfl
  · exact h.1
theorem ParAt.out {t : Tr} {P : List Int} {i k : Nat} {d : Nd} (h : ParAt t P (restK t i d k)) (hk : k < d.kids.length) (hf : d.kids[k] < 0 ∨ (i : Int) ≤ d.kids[k]) : right t = false := by
  refine right_none ?_
  rcases h with ⟨s, h1, h2, h3⟩ | h
  · rw [h3, restK, kidsOk_none_of (k := d.kids[k]) (by rw [List.drop_eq_getElem_cons hk]; exact .head _) hf]
  · exact h.1
theorem ParAt.kid {t : Tr} {P : List Int} {i k : Nat} {d : Nd} (hl : P.length = t.ns.length) (hi : i ≤ t.ns.length) (h : ParAt t P (restK t i d k)) (hk : k < d.kids.length) (h0 : 0 ≤ d.kids[k]) (h1 : d.kids[k] < i) :
    ParAt t (P.set d.kids[k].toNat (P.getD d.kids[k].toNat 0 + 1)) (restK t i d (k + 1)) := by
  have hkl : d.kids[k].toNat < P.length := by omega
  rcases h with ⟨s, g1, g2, g3⟩ | ⟨g1, j, g2, g3⟩
  · have hsl : d.kids[k].toNat < s.length := by omega
    have hg : P.getD d.kids[k].toNat 0 = b2i (s.getD d.kids[k].toNat false) := by
      rw [g2]
      simp [List.getD_eq_getElem?_getD, hsl]
    cases hb : s.getD d.kids[k].toNat false with
    | false =>
      refine .inl ⟨s.set d.kids[k].toNat true, by simpa using g1, ?_, ?_⟩
      · rw [hg, hb, g2, List.map_set]
        rfl
      · rw [g3, restK, List.drop_eq_getElem_cons hk, kidsOk, hb]
        simp only [Bool.or_false]
        rw [decide_eq_false (by omega), decide_eq_false (by omega)]
        rfl
    | true =>
      refine .inr ⟨?_, d.kids[k].toNat, by omega, ?_⟩
      · rw [g3, restK, List.drop_eq_getElem_cons hk, kidsOk, hb]
        simp
      · rw [hg, hb]
        simp [List.getD_eq_getElem?_getD, List.getElem?_set, hkl, b2i]
  · refine .inr ⟨g1, j, g2, ?_⟩
    simp only [List.getD_eq_getElem?_getD, List.getElem?_set] at g3 ⊢
    by_cases e : d.kids[k].toNat = j
    · subst e
      simp [hkl] at g3 ⊢
      omega
    · rw [if_neg e]
      exact g3
theorem ParAt.leave {t : Tr} {P : List Int} {i k : Nat} {d : Nd} (h : ParAt t P (restK t i d k)) (hk : d.kids.length ≤ k) : ParAt t P (restN t (i + 1)) := by
  rcases h with ⟨s, h1, h2, h3⟩ | h
  · refine .inl ⟨s, h1, h2, ?_⟩
    rw [h3, restK, List.drop_eq_nil_of_le hk]
    rfl
  · exact .inr h
theorem ParInv.kid {t : Tr} {P : List Int} {W : Int} (h : ParInv t P W) {k : Nat} (hk : k < P.length) : ParInv t (P.set k (P.getD k 0 + 1)) (W + 1) := by
  refine ⟨by simpa using h.len, fun c hc => ?_⟩
  have hg : P.getD k 0 ∈ P := by
    simp only [List.getD_eq_getElem?_getD, List.getElem?_eq_getElem hk, Option.getD_some]
    exact List.getElem_mem hk
  have := h.bd _ hg
  rcases List.mem_or_eq_of_mem_set hc with hc | rfl
  · have := h.bd c hc
    omega
  · omega
/-- What is asked of each count at the end. -/
def parBad (t : Tr) (P : List Int) (i : Nat) : Bool := (decide ((i : Int) = t.root) && !decide (P.getD i 0 = 0)) || (!decide ((i : Int) = t.root) && !decide (P.getD i 0 = 1))
theorem ParAt.bad {t : Tr} {P : List Int} (h : ParAt t P (restN t t.ns.length)) {i : Nat} (hi : i < t.ns.length) (hq : parBad t P i = true) : right t = false := by
  rcases h with ⟨s, h1, h2, h3⟩ | h
  · rw [restN, List.drop_length, nodesOk] at h3
    have : rootOk t.root 0 s = false := by
      refine rootOk_false (j := i) (by omega) ?_
      have hg : P.getD i 0 = b2i (s.getD i false) := by
        rw [h2]
        simp [List.getD_eq_getElem?_getD, h1, hi]
      rw [parBad, hg] at hq
      rw [Nat.zero_add]
      generalize s.getD i false = x at hq ⊢
      cases x <;> cases hd : decide ((i : Int) = t.root) <;> simp_all [b2i]
    simp [right, h3, this]
  · exact right_none h.1
theorem ParAt.good {t : Tr} {P : List Int} (h : ParAt t P (restN t t.ns.length)) (h0 : 0 ≤ t.root ∧ t.root < t.ns.length) (hq : ∀ i, i < t.ns.length → parBad t P i = false) : right t = true := by
  rcases h with ⟨s, h1, h2, h3⟩ | ⟨h1, k, h2, h3⟩
  · rw [restN, List.drop_length, nodesOk] at h3
    have : rootOk t.root 0 s = true := by
      refine rootOk_true fun i hi => ?_
      have hg : P.getD i 0 = b2i (s.getD i false) := by
        rw [h2]
        simp [List.getD_eq_getElem?_getD, hi]
      have hq' := hq i (by omega)
      rw [parBad, hg] at hq'
      rw [Nat.zero_add]
      generalize s.getD i false = x at hq' ⊢
      cases x <;> cases hd : decide ((i : Int) = t.root) <;> simp_all [b2i]
    simp [right, h3, this, h0.1, h0.2]
  · have := hq k h2
    simp only [parBad, Bool.or_eq_false_iff, Bool.and_eq_false_iff, decide_eq_false_iff_not, Bool.not_eq_false', decide_eq_true_eq] at this
    omega

set_option maxHeartbeats 4000000 in
theorem RRight_gen {I : GH} {t : Tr} (ht : t.ok I) (W : Nat) (hW : ∀ d ∈ t.ns, d.kn ≤ W) (hb : t.n * W ≤ 1152921504606846976) : Spec Tryd.prog 52 [t.val] I [] fun v I' M' => v = .bool (right t) ∧ I' = I ∧ M' = [] := by
  refine spec_of_V [] TrydEOK Tryd.func52 rfl rfl rfl ?_
  intro B h0
  have htn := ht.n
  have hcap := ht.rs.cap
  refine GuardOb.mk (fun h => ?_) (fun h => ?_)
  rotate_left
  · refine ⟨_, _, .refl, ?_, rfl, rfl⟩
    have : t.root < 0 := by simpa using h
    rw [show right t = false by simp [right]; omega]
  have hr0 : 0 ≤ t.root := by have := of_decide_eq_false h; omega
  refine CondOb.mk (fun h2 => ?_) (fun h2 => ?_)
  · refine ⟨_, _, .refl, ?_, rfl, rfl⟩
    have := of_decide_eq_true h2
    rw [show right t = false by simp [right]; omega]
  have hr1 : t.root < t.n := by have := of_decide_eq_false h2; omega
  refine MakeOb.mk t.n t.n rfl rfl (Nat.le_refl _) (by show 8 * t.n ≤ _; omega) (by omega) ?_
  refine AllocOb.mk fun b1 hb1 hbM1 => ?_
  refine LoopOb.inv (ι := Nat × List Int) (fun x => { fl := [(1, .ref 1 0), (3, .val (.slice (some ⟨b1, 0, none⟩) t.n t.n)), (4, .val (.int .i64 x.1))], cl := [(1, t.cells)], gi := I, mi := [intRow b1 x.2] })
    (fun x => x.1 ≤ t.n ∧ ParInv t x.2 (x.1 * W : Nat) ∧ ParAt t x.2 (restN t x.1)) (fun x => t.n - x.1) ?_ ?_
  · refine ⟨(0, List.replicate t.n 0), ⟨Nat.zero_le _, ⟨by simp [htn], fun c hc => by have := List.eq_of_mem_replicate hc; simp only; omega⟩, by rw [← htn]; exact ParAt.start t⟩, ?_, .cons .refl (.cons .refl (.cons .refl .nil)), .cons rfl .nil⟩
    simp only [rowOf_one, intRow, List.map_replicate, Nat.mul_one]
    exact .refl
  rintro ⟨i, P⟩ ⟨hi, hP, hA⟩
  simp only at hi hP hA
  have hPl := hP.len
  refine CondOb.mk (fun h => ?_) (fun h => ?_)
  · have hlt : i < t.n := by have := of_decide_eq_true h; omega
    have hlt' : i < t.ns.length := by omega
    obtain ⟨ad, had, hrd⟩ := ht.rs.row Nd.cells_len hlt hlt'
    have hdm : t.ns[i] ∈ t.ns := List.getElem_mem hlt'
    have hd := ht.ns _ hdm
    have hkn := hd.kn
    have hkW := hW _ hdm
    have hcap2 := hd.rs.cap
    have hiW : (i + 1) * W ≤ 1152921504606846976 := Nat.le_trans (Nat.mul_le_mul_right W hlt) hb
    rw [Nat.add_mul, Nat.one_mul] at hiW
    refine IdxOb.mk ad i had rfl hlt ?_
    refine LoadOb.mk _ (hrd _) ?_
    refine CallOb.mk [] _ _ (.refl _) (RFits_gen hd.k t.ns[i].kn) ?_
    rintro v I2 M2 - ⟨rfl, rfl, rfl⟩
    rw [← hkn]
    refine CondOb.mk (fun h3 => ?_) (fun h3 => ?_)
    · refine ⟨_, _, .sub (List.nil_sublist _) .refl, ?_, rfl, rfl⟩
      rw [hA.unfit hlt' (by simpa using h3)]
    have hA := hA.enter hlt' (by simpa using h3)
    generalize hdd : t.ns[i] = d at hd hkn hkW hcap2 hrd hA
    refine LoopOb.inv (ι := Nat × List Int) (fun x => { fl := [(1, .ref 1 0), (3, .val (.slice (some ⟨b1, 0, none⟩) t.n t.n)), (4, .val (.int .i64 i)), (5, .ref 5 0), (6, .val (.int .i64 x.1))], cl := [(1, t.cells), (5, d.cells)], gi := I2, mi := [intRow b1 x.2] })
      (fun x => x.1 ≤ d.kn ∧ ParInv t x.2 (i * W + x.1 : Nat) ∧ ParAt t x.2 (restK t i d x.1)) (fun x => d.kn - x.1) ?_ ?_
    · exact ⟨(0, P), ⟨Nat.zero_le _, hP, hA⟩, .refl, .cons .refl (.cons .refl (.cons .refl (.cons .refl (.cons .refl .nil)))), .cons rfl (.cons rfl .nil)⟩
    rintro ⟨k, Q⟩ ⟨hk, hQ, hB⟩
    simp only at hk hQ hB
    have hQl := hQ.len
    refine CondOb.mk (fun h4 => ?_) (fun h4 => ?_)
    · have hkl : k < d.kn := by have := of_decide_eq_true h4; omega
      have hkl' : k < d.kids.length := by omega
      obtain ⟨ak, hak, hrk⟩ := hd.rs.one hkl hkl'
      refine IdxOb.mk ak k hak rfl hkl ?_
      refine LoadOb.mk _ (hrk _) ?_
      refine GuardOb.mk (fun h5 => ?_) (fun h5 => ?_)
      rotate_left
      · refine ⟨_, _, .sub (List.nil_sublist _) .refl, ?_, rfl, rfl⟩
        rw [hB.out hkl' (.inl (by simpa using h5))]
      have hk0 : 0 ≤ d.kids[k] := by have := of_decide_eq_false h5; omega
      refine IdxOb.mk ak k hak rfl hkl ?_
      refine LoadOb.mk _ (hrk _) ?_
      refine CondOb.mk (fun h6 => ?_) (fun h6 => ?_)
      · refine ⟨_, _, .sub (List.nil_sublist _) .refl, ?_, rfl, rfl⟩
        rw [hB.out hkl' (.inr (of_decide_eq_true h6))]
      have hk1 : d.kids[k] < i := by have := of_decide_eq_false h6; omega
      have hkQ : d.kids[k].toNat < Q.length := by omega
      have hQb : 0 ≤ Q[d.kids[k].toNat] ∧ Q[d.kids[k].toNat] ≤ (i * W + k : Nat) := hQ.bd _ (List.getElem_mem hkQ)
      have hQg : Q.getD d.kids[k].toNat 0 = Q[d.kids[k].toNat] := by simp [List.getD_eq_getElem?_getD, hkQ]
      have hB' := hB.kid hQl (by omega) hkl' hk0 hk1
      have hQ' := hQ.kid hkQ
      rw [hQg] at hB' hQ'
      refine IdxOb.mk ak k hak rfl hkl ?_
      refine LoadOb.mk _ (hrk _) ?_
      refine IdxOb.mk ⟨b1, 0, none⟩ d.kids[k].toNat rfl (by omega) (by omega) ?_
      refine LoadOb.mk _ (intRow_rd (s := Q) (.head _) hkQ) ?_
      refine ArithOb.mk (Q[d.kids[k].toNat] + 1) (wr_eq rfl (by omega)) ?_
      refine IdxOb.mk ⟨b1, 0, none⟩ d.kids[k].toNat rfl (by omega) (by omega) ?_
      refine StoreOb.add [] [] _ _ rfl ?_ rfl ?_
      · simp only [List.size_toArray, List.length_map]
        show 0 + d.kids[k].toNat * 1 + 1 ≤ _
        omega
      have e := intRow_set Q d.kids[k].toNat hkQ (Q[d.kids[k].toNat] + 1)
      refine ArithOb.mk _ (next_wr (i := k) (by omega)) ?_
      refine ⟨(k + 1, Q.set d.kids[k].toNat (Q[d.kids[k].toNat] + 1)), ⟨⟨by simp only; omega, ?_, hB'⟩, by simp only; omega⟩, ?_, .cons .refl (.cons .refl (.cons .refl (.cons .refl (.cons .refl .nil)))), .cons rfl (.cons rfl .nil)⟩
      · simp only
        rw [show ((i * W + (k + 1) : Nat) : Int) = ((i * W + k : Nat) : Int) + 1 by omega]
        exact hQ'
      · simp only [intRow]
        rw [← e]
        simp only [Nat.zero_add, Nat.mul_one]
        exact .refl
    · have hge : d.kn ≤ k := by have := of_decide_eq_false h4; omega
      refine ArithOb.mk _ (next_wr (i := i) (by omega)) ?_
      refine ⟨(i + 1, Q), ⟨⟨by simp only; omega, ⟨hQl, fun c hc => ?_⟩, hB.leave (by omega)⟩, by simp only; omega⟩, .refl, .cons .refl (.cons .refl (.cons .refl .nil)), .cons rfl .nil⟩
      have := hQ.bd c hc
      simp only [Nat.add_mul, Nat.one_mul]
      omega
  have hge : i = t.n := by have := of_decide_eq_false h; omega
  have hA2 : ParAt t P (restN t t.ns.length) := by rw [htn, ← hge]; exact hA
  clear hP h hi hA
  subst hge
  refine LoopOb.inv (ι := Nat) (fun x => { fl := [(1, .ref 1 0), (3, .val (.slice (some ⟨b1, 0, none⟩) t.n t.n)), (7, .val (.int .i64 x))], cl := [(1, t.cells)], gi := I, mi := [intRow b1 P] })
    (fun x => x ≤ t.n ∧ ∀ j, j < x → parBad t P j = false) (fun x => t.n - x) ?_ ?_
  · exact ⟨0, ⟨Nat.zero_le _, fun j hj => by omega⟩, .refl, .cons .refl (.cons .refl (.cons .refl .nil)), .cons rfl .nil⟩
  rintro i ⟨hi, hq⟩
  refine CondOb.mk (fun h => ?_) (fun h => ?_)
  rotate_left
  · have hge : i = t.n := by have := of_decide_eq_false h; omega
    refine ⟨_, _, .sub (List.nil_sublist _) .refl, ?_, rfl, rfl⟩
    rw [hA2.good ⟨hr0, by omega⟩ fun j hj => hq j (by omega)]
  have hlt : i < t.n := by have := of_decide_eq_true h; omega
  have hiP : i < P.length := by omega
  have hrd : Rd I [intRow b1 P] ((⟨b1, 0, none⟩ : Addr).add (i * 1)) 1 [.int .i64 P[i]] := intRow_rd (.head _) hiP
  have hg : P.getD i 0 = P[i] := by simp [List.getD_eq_getElem?_getD, hiP]
  have hbad : parBad t P i = true → right t = false := hA2.bad (by omega)
  have hgo : parBad t P i = false → ∀ j, j < i + 1 → parBad t P j = false := fun h j hj => by
    by_cases e : j = i
    · rw [e]; exact h
    · exact hq j (by omega)
  rw [parBad, hg] at hbad hgo
  clear h hq hA2
  generalize P[i] = c at hbad hgo hrd
  refine GuardOb.mk (fun h => ?_) (fun h => ?_)
  · rw [h] at hbad hgo
    refine IdxOb.mk ⟨b1, 0, none⟩ i rfl rfl hlt ?_
    refine LoadOb.mk _ hrd ?_
    refine GuardOb.mk (fun h2 => ?_) (fun h2 => ?_)
    · refine GuardOb.mk (fun h3 => ?_) (fun _ => ?_)
      · exfalso
        rw [h] at h3
        cases h3
      · refine ArithOb.mk _ (next_wr (i := i) (by omega)) ?_
        exact ⟨i + 1, ⟨⟨by omega, hgo (by simp [h2])⟩, by omega⟩, .refl, .cons .refl (.cons .refl (.cons .refl .nil)), .cons rfl .nil⟩
    · refine ⟨_, _, .sub (List.nil_sublist _) .refl, ?_, rfl, rfl⟩
      rw [hbad (by simp [h2])]
  · rw [show decide ((i : Int) = t.root) = false from h] at hbad hgo
    refine GuardOb.mk (fun h3 => ?_) (fun h3 => ?_)
    · refine IdxOb.mk ⟨b1, 0, none⟩ i rfl rfl hlt ?_
      refine LoadOb.mk _ hrd ?_
      refine CondOb.mk (fun h2 => ?_) (fun h2 => ?_)
      · refine ⟨_, _, .sub (List.nil_sublist _) .refl, ?_, rfl, rfl⟩
        rw [hbad (by simp [h2])]
      · refine ArithOb.mk _ (next_wr (i := i) (by omega)) ?_
        exact ⟨i + 1, ⟨⟨by omega, hgo (by simp [h2])⟩, by omega⟩, .refl, .cons .refl (.cons .refl (.cons .refl .nil)), .cons rfl .nil⟩
    · exfalso
      rw [show decide ((i : Int) = t.root) = false from h] at h3
      cases h3
end Go.V

/-
  Walks: bonsairef04.Right, Sub, Clean at trees of one leaf.
-/
set_option linter.unusedVariables false
set_option linter.unusedSimpArgs false
namespace Go.V
open Go Go.Proofs

/-- A tree of one leaf, in memory. -/
structure LeafAt (I : GH) (a : Option Addr) (c : Nat) (k : Int) (s : ByteArray) : Prop where
  rs : RS I a 1 c 9 96 (leafNd k s).cells
theorem LeafAt.mono {I I' : GH} {a : Option Addr} {c : Nat} {k : Int} {s : ByteArray} (h : LeafAt I a c k s) (hI : ∀ b o, I b = some o → I' b = some o) : LeafAt I' a c k s := ⟨h.rs.mono hI⟩
theorem LeafAt.rd {I : GH} {a : Option Addr} {c : Nat} {k : Int} {s : ByteArray} (h : LeafAt I a c k s) : ∃ ad, a = some ad ∧ ∀ M, Rd I M (ad.add (0 * 9)) 9 (leafNd k s).cells := by
  have := RS.row (f := Nd.cells) (l := [leafNd k s]) Nd.cells_len (size := 9) (j := 0) (by simpa using h.rs) (by decide) (Nat.le_refl 1)
  simpa using this

set_option maxHeartbeats 1000000 in
theorem RRight_leaf {I : GH} {a : Option Addr} {c : Nat} {k : Int} {s : ByteArray} (h : LeafAt I a c k s) : Spec Tryd.prog 52 [.agg #[.slice a 1 c, .int .i64 0]] I [] fun v I' M' => v = .bool (fitsR (leafNd k s) 0) ∧ I' = I ∧ M' = [] := by
  refine spec_of_V [] TrydEOK Tryd.func52 rfl rfl rfl ?_
  intro B h0
  obtain ⟨ad, rfl, hrd⟩ := h.rd
  refine GuardOb.mk (fun _ => ?_) (fun h => by simp at h)
  refine CondOb.mk (fun h => by simp at h) (fun _ => ?_)
  refine MakeOb.mk 1 1 rfl rfl (Nat.le_refl _) (by decide) (by decide) ?_
  refine AllocOb.mk fun b hb hbM => ?_
  refine LoopOb.inv (ι := Nat) (fun i => { fl := [(1, .ref 1 0), (3, .val (.slice (some ⟨b, 0, none⟩) 1 1)), (4, .val (.int .i64 i))], cl := [(1, [.slice (some ad) 1 c, .int .i64 0])], gi := I, mi := [intRow b [0]] })
    (fun i => i = 0 ∨ (i = 1 ∧ fitsR (leafNd k s) 0 = true)) (fun i => 1 - i) ?_ ?_
  · exact ⟨0, .inl rfl, .refl, .cons .refl (.cons .refl (.cons .refl .nil)), .cons rfl .nil⟩
  · rintro i (rfl | ⟨rfl, hf⟩)
    · refine CondOb.mk (fun _ => ?_) (fun h => by simp at h)
      refine IdxOb.mk ad 0 rfl rfl (by decide) ?_
      refine LoadOb.mk _ (hrd _) ?_
      have hfs := RFits_spec (I := I) k s 0 0 none 0 0 [] 0
      refine CallOb.mk [] [intRow b [0]] _ (.refl _) hfs ?_
      rintro v I' M' - ⟨rfl, rfl, rfl⟩
      refine CondOb.mk (fun h => ?_) (fun h => ?_)
      · have hf : fitsR (leafNd k s) 0 = false := by simpa [leafNd] using h
        refine ⟨_, _, .sub (List.nil_sublist _) .refl, ?_, rfl, rfl⟩
        rw [hf]
      · have hf : fitsR (leafNd k s) 0 = true := by simpa [leafNd] using h
        refine LoopOb.unroll 1 ?_
        refine CondOb.mk (fun h => by simp [leafNd] at h) (fun _ => ?_)
        refine ArithOb.mk 1 (by decide) ?_
        exact ⟨1, ⟨.inr ⟨rfl, hf⟩, by simp⟩, .refl, .cons .refl (.cons .refl (.cons .refl .nil)), .cons rfl .nil⟩
    · refine CondOb.mk (fun h => by simp at h) (fun _ => ?_)
      refine LoopOb.inv (ι := Nat) (fun i => { fl := [(1, .ref 1 0), (3, .val (.slice (some ⟨b, 0, none⟩) 1 1)), (7, .val (.int .i64 i))], cl := [(1, [.slice (some ad) 1 c, .int .i64 0])], gi := I, mi := [intRow b [0]] })
        (fun i => i = 0 ∨ i = 1) (fun i => 1 - i) ?_ ?_
      · exact ⟨0, .inl rfl, .refl, .cons .refl (.cons .refl (.cons .refl .nil)), .cons rfl .nil⟩
      · rintro i (rfl | rfl)
        · refine CondOb.mk (fun _ => ?_) (fun h => by simp at h)
          refine GuardOb.mk (fun _ => ?_) (fun h => by simp at h)
          refine IdxOb.mk ⟨b, 0, none⟩ 0 rfl rfl (by decide) ?_
          refine LoadOb.mk [.int .i64 0] (intRow_rd (s := [0]) (j := 0) (by simp) (by decide)) ?_
          refine GuardOb.mk (fun _ => ?_) (fun h => by simp at h)
          refine GuardOb.mk (fun h => by simp at h) (fun _ => ?_)
          refine ArithOb.mk 1 (by decide) ?_
          exact ⟨1, ⟨.inr rfl, by simp⟩, .refl, .cons .refl (.cons .refl (.cons .refl .nil)), .cons rfl .nil⟩
        · refine CondOb.mk (fun h => by simp at h) (fun _ => ?_)
          refine ⟨_, _, .sub (List.nil_sublist _) .refl, ?_, rfl, rfl⟩
          rw [hf]

theorem intCell {I : GH} {M : List Blk} {b : Nat} {cs : List Value} {v : Value} (hM : (⟨b, .cells cs.toArray 3 (0, 0)⟩ : Blk) ∈ M) (h : cs.take 1 = [v]) : Rd I M ((⟨b, 0, none⟩ : Addr).add (0 * 1)) 1 [v] := by
  rw [addr_add _ rfl]
  exact ⟨rfl, _, _, _, .inr ⟨_, hM, rfl, rfl⟩, by simpa using h, rfl⟩

set_option maxHeartbeats 2000000 in
theorem RSub_leaf {I : GH} {a : Option Addr} {c : Nat} {k : Int} {s : ByteArray} (h : LeafAt I a c k s) (hf : fitsR (leafNd k s) 0 = true) : Spec Tryd.prog 65 [.agg #[.slice a 1 c, .int .i64 0], .int .i64 0] I []
    fun v I' M' => (∀ b o, I b = some o → I' b = some o) ∧ M' = [] ∧ ∃ a' c', v = .tuple #[.agg #[.slice a' 1 c', .int .i64 0], .bool true] ∧ LeafAt I' a' c' k s := by
  refine spec_of_V [] TrydEOK Tryd.func65 rfl rfl rfl ?_
  intro B h0
  obtain ⟨ad, rfl, hrd⟩ := h.rd
  refine CallOb.mk [] [] _ (.refl _) (RRight_leaf h) ?_
  rintro v I' M' - ⟨rfl, rfl, rfl⟩
  rw [hf]
  refine GuardOb.mk (fun _ => ?_) (fun h => by cases h)
  refine GuardOb.mk (fun _ => ?_) (fun h => by simp at h)
  refine CondOb.mk (fun h => by simp at h) (fun _ => ?_)
  refine AllocOb.mk fun b1 hb1 hbM1 => ?_
  refine LoopOb.inv (ι := Option (Nat × Nat × List Value)) (fun x => match x with
      | none => { fl := [(2, .ref 2 0), (4, .ref 4 0), (6, .val (.slice none 0 0)), (7, .val (.slice (some ⟨b1, 0, none⟩) 1 1))], cl := [(2, [.slice (some ad) 1 c, .int .i64 0]), (4, [.slice none 0 0, .int .i64 0])], gi := I', mi := [⟨b1, .cells #[.int .i64 0] 3 (0, 0)⟩] }
      | some (g, c', cur) => { fl := [(2, .ref 2 0), (4, .ref 4 0), (6, .val (.slice (some ⟨g, 0, none⟩) 1 c')), (7, .val (.slice (some ⟨b1, 0, none⟩) 0 1))], cl := [(2, [.slice (some ad) 1 c, .int .i64 0]), (4, [.slice none 0 0, .int .i64 0])], gi := I', mi := [⟨g, .cells cur.toArray 3 (0, 0)⟩] })
    (fun x => match x with
      | none => True
      | some (g, c', cur) => cur.take 1 = [.int .i64 0]) (fun x => match x with
      | none => 1
      | some _ => 0) ?_ ?_
  · exact ⟨none, trivial, .refl, .cons .refl (.cons .refl (.cons .refl (.cons .refl .nil))), .cons rfl (.cons rfl .nil)⟩
  · rintro (_ | ⟨g, c', cur⟩) hcur
    · refine CondOb.mk (fun _ => ?_) (fun h => by simp at h)
      refine ArithOb.mk 0 (by decide) ?_
      refine IdxOb.mk ⟨b1, 0, none⟩ 0 rfl rfl (by decide) ?_
      refine LoadOb.mk [.int .i64 0] (intCell (cs := [.int .i64 0]) (.head _) rfl) ?_
      refine ArithOb.mk 0 (by decide) ?_
      refine SliceOb.mk 0 0 rfl rfl (Nat.le_refl _) (by decide) ?_
      refine AllocOb.mk fun b2 hb2 hbM2 => ?_
      refine OtherOb.append TrydEOK rfl (by simp) (e := 3) rfl rfl rfl OS0 (OS0_ok 1) rfl (m := 1) rfl (news := [.int .i64 0]) (by decide) (blk_rd (b := b2) (cs := [.int .i64 0]) (k := 0) (n := 1) (T := 3) (.head _) (by simp)) rfl (.refl _) (by decide) (by decide) ?_
      intro g' c' cur' q1 q2 q3 q4
      refine IdxOb.mk ad 0 rfl rfl (by decide) ?_
      refine LoadOb.mk [.slice none 0 0] (Rd.part (k := 8) (m := 1) (hrd _) (by decide)) ?_
      refine OtherOb.append0 TrydEOK rfl (by simp) (e := 3) rfl rfl rfl (by simp) rfl rfl (Nat.zero_le _) rfl (.inl ⟨none, 0, rfl⟩) ?_
      exact ⟨some (g', c', cur'), ⟨q4, by simp⟩, .sub (.cons_cons _ (List.nil_sublist _)) .refl, .cons .refl (.cons .refl (.cons .refl (.cons .refl .nil))), .cons rfl (.cons rfl .nil)⟩
    · refine CondOb.mk (fun h => by simp at h) (fun _ => ?_)
      refine MakeOb.mk 1 1 rfl rfl (Nat.le_refl _) (by decide) (by decide) ?_
      refine AllocOb.mk fun b3 hb3 hbM3 => ?_
      refine ArithOb.mk 0 (by decide) ?_
      refine LoopOb.inv (ι := Option (Nat × Nat × List Value)) (fun x => match x with
          | none => { fl := [(2, .ref 2 0), (4, .ref 4 0), (6, .val (.slice (some ⟨g, 0, none⟩) 1 c')), (9, .val (.slice (some ⟨b3, 0, none⟩) 1 1)), (10, .val (.slice none 0 0)), (11, .val (.int .i64 0))], cl := [(2, [.slice (some ad) 1 c, .int .i64 0]), (4, [.slice none 0 0, .int .i64 0])], gi := I', mi := [intRow b3 [0], ⟨g, .cells cur.toArray 3 (0, 0)⟩] }
          | some (g2, c2, cur2) => { fl := [(2, .ref 2 0), (4, .ref 4 0), (10, .val (.slice (some ⟨g2, 0, none⟩) 1 c2)), (11, .val (.int .i64 (-1)))], cl := [(2, [.slice (some ad) 1 c, .int .i64 0]), (4, [.slice none 0 0, .int .i64 0])], gi := I', mi := [⟨g2, .cells cur2.toArray 32 (0, 0)⟩] })
        (fun x => match x with
          | none => True
          | some (g2, c2, cur2) => I' g2 = none ∧ cur2.take 9 = (leafNd k s).cells ∧ 1 ≤ c2) (fun x => match x with
          | none => 1
          | some _ => 0) ?_ ?_
      · exact ⟨none, trivial, .refl, .cons .refl (.cons .refl (.cons .refl (.cons .refl (.cons .refl (.cons .refl .nil))))), .cons rfl (.cons rfl .nil)⟩
      · rintro (_ | ⟨g2, c2, cur2⟩) hc2
        · refine CondOb.mk (fun _ => ?_) (fun h => by simp at h)
          refine CodeOb.draw TrydEOK rfl rfl rfl ?_
          refine IdxOb.mk ⟨g, 0, none⟩ 0 rfl rfl (by decide) ?_
          refine LoadOb.mk [.int .i64 0] (intCell (cs := cur) (.tail _ (.head _)) hcur) ?_
          refine IdxOb.mk ad 0 rfl rfl (by decide) ?_
          refine LoadOb.mk _ (hrd _) ?_
          refine AllocOb.mk fun b12 hb12 hbM12 => ?_
          refine StoreOb.mk [] [intRow b3 [0], ⟨g, .cells cur.toArray 3 (0, 0)⟩] _ _ rfl rfl (Nat.le_of_ble_eq_true rfl) rfl ?_
          refine IdxOb.mk ⟨g, 0, none⟩ 0 rfl rfl (by decide) ?_
          refine LoadOb.mk [.int .i64 0] (intCell (cs := cur) (.tail _ (.tail _ (.head _))) hcur) ?_
          refine IdxOb.mk ⟨b3, 0, none⟩ 0 rfl rfl (by decide) ?_
          refine StoreOb.add [⟨b12, .cells (leafNd k s).cells.toArray 32 (0, 0)⟩] [⟨g, .cells cur.toArray 3 (0, 0)⟩] _ _ rfl (Nat.le_of_ble_eq_true rfl) rfl ?_
          refine LoopOb.unroll 1 ?_
          refine LoadOb.mk [.slice none 0 0] (blk_rd (b := b12) (cs := (leafNd k s).cells) (k := 8) (n := 1) (T := 32) (.head _) (Nat.le_of_ble_eq_true rfl)) ?_
          refine CondOb.mk (fun h => by simp at h) (fun _ => ?_)
          refine StoreOb.mk [] _ _ _ rfl rfl (Nat.le_of_ble_eq_true rfl) rfl ?_
          refine LoadOb.mk (leafNd k s).cells (blk_rd (b := b12) (cs := (leafNd k s).cells) (k := 0) (n := 9) (T := 32) (.head _) (Nat.le_of_ble_eq_true rfl)) ?_
          refine AllocOb.mk fun b20 hb20 hbM20 => ?_
          refine OtherOb.appendN TrydEOK rfl (by simp) (e := 32) rfl rfl rfl OS0 (OS0_ok 9) rfl (m := 1) rfl (news := (leafNd k s).cells) (by decide) (blk_rd (b := b20) (cs := (leafNd k s).cells) (k := 0) (n := 9) (T := 32) (.head _) (Nat.le_of_ble_eq_true rfl)) rfl (.refl _) (by decide) (by decide) ?_
          intro g' c' cur' q0 q1 q2 q3 q4
          refine ArithOb.mk (-1) (by decide) ?_
          exact ⟨some (g', c', cur'), ⟨⟨q0, q4, q2⟩, by simp⟩, .sub (.cons_cons _ (List.nil_sublist _)) .refl, .cons .refl (.cons .refl (.cons .refl (.cons .refl .nil))), .cons rfl (.cons rfl .nil)⟩
        · refine CondOb.mk (fun h => by simp at h) (fun _ => ?_)
          obtain ⟨hg2, hcu, hc1⟩ := hc2
          refine ArithOb.mk 0 (by decide) ?_
          exact ⟨_, _, .prom rfl (by simp) .refl, ins_le hg2, rfl, _, _, rfl, ⟨⟨rfl, ⟨hc1, by decide⟩, .inr ⟨_, rfl, rfl, _, _, _, ins_self .., hcu⟩⟩⟩⟩
end Go.V

/-
  Walks: bonsairef04.Clean and Of, where the kids are leaves.
-/
set_option linter.unusedVariables false
set_option linter.unusedSimpArgs false
namespace Go.V
open Go Go.Proofs

/-- What stands aside of what, where an operation is done. -/
theorem OtherOb.nd {X : Ctx} {o : Oper} {F : Fr} {C : Bx} {I : GH} {M : List Blk} {K : KS} (h : OtherOb X o F C I M (fun F C I M => (M.map (·.num)).Nodup → (∀ x ∈ M, I x.num = none) → K F C I M)) : OtherOb X o F C I M K :=
  ⟨fun a w Q hR => Oper.wpIn_mono (fun a' w' => fun ⟨F', C', I', M', ⟨β, hr⟩, hk⟩ => ⟨F', C', I', M', ⟨β, hr⟩, hk hr.holds.nd hr.holds.d⟩) (h.1 a w Q hR)⟩
theorem OS.giveF {I : GH} {foot : List Nat} {os : OS} {xs : List Value} {e size b : Nat} (h : os.ok size xs) (hb : os.n * b ≤ 140737488355328) (hI : ∀ g, os.a = some g → I g = none ∧ g ∉ foot) (Mr : List Blk) :
    ∃ I', (∀ I2 M2, Wk foot I' Mr I2 M2 → Wk foot I (os.blk e ++ Mr) I2 M2) ∧ (∀ b o, I b = some o → I' b = some o) ∧ RS I' (os.a.map fun g => ⟨g, 0, none⟩) os.n os.c size b xs ∧ (∀ g, os.a ≠ some g → I' g = I g) := by
  obtain ⟨a, n, c, cur⟩ := os
  cases a with
  | none =>
    obtain ⟨h1, h2⟩ := h.nil rfl
    simp only at h1 h2
    subst h1
    subst h2
    exact ⟨I, fun _ _ k => k, fun _ _ h => h, ⟨h.len, ⟨Nat.le_refl _, by simp⟩, .inl rfl⟩, fun _ _ => rfl⟩
  | some g =>
    obtain ⟨h1, h2, h3, h4⟩ := h.cap g rfl
    obtain ⟨hg, hgf⟩ := hI g rfl
    refine ⟨ins I g (.cells cur.toArray e (0, 0)), fun _ _ k => .prom rfl hgf k, ins_le hg, ⟨h.len, ⟨h2, hb⟩, .inr ⟨⟨g, 0, none⟩, rfl, rfl, _, _, _, ins_self .., by simpa using h4⟩⟩, fun g' hg' => ?_⟩
    have : g' ≠ g := fun e => hg' (by rw [e])
    unfold ins
    simp only [beq_ne this, cond_false]
theorem appk_ok {os : OS} {xs ys : List Value} {size : Nat} (hos : os.ok size xs) {g c : Nat} {cur : List Value} (hy : ys.length = size) (h1 : cur.length = c * size) (h2 : os.n + 1 ≤ c) (h3 : c ≤ maxLen) (h4 : cur.take ((os.n + 1) * size) = xs ++ ys) :
    OS.ok ⟨some g, os.n + 1, c, cur⟩ size (xs ++ ys) := by
  have hl := hos.len
  refine ⟨?_, (fun h => by cases h), fun g3 hg3 => ⟨h1, h2, h3, h4⟩⟩
  rw [List.length_append, hl, hy]
  simp only
  rw [Nat.add_mul, Nat.one_mul]

set_option maxHeartbeats 1000000 in
theorem RClean_leaf {I : GH} {a : Option Addr} {c : Nat} {k : Int} {s : ByteArray} (h : LeafAt I a c k s) (hf : fitsR (leafNd k s) 0 = true) : Spec Tryd.prog 53 [.agg #[.slice a 1 c, .int .i64 0]] I []
    fun v I' M' => (∀ b o, I b = some o → I' b = some o) ∧ M' = [] ∧ ∃ a' c', v = .agg #[.slice a' 1 c', .int .i64 0] ∧ LeafAt I' a' c' k s := by
  refine spec_of_V [] TrydEOK Tryd.func53 rfl rfl rfl ?_
  intro B h0
  refine CallOb.mk [] [] _ (.refl _) (RSub_leaf h hf) ?_
  rintro v I' M' - ⟨hI, rfl, a', c', rfl, hl⟩
  exact ⟨_, _, .refl, hI, rfl, a', c', rfl, hl⟩

abbrev Lf := Tr × Int × ByteArray
def Lf.nd (x : Lf) : Nd := leafNd x.2.1 x.2.2
structure Lf.ok (I : GH) (x : Lf) : Prop where
  t : x.1.ok I
  ns : x.1.ns = [x.nd]
  root : x.1.root = 0
  fits : fitsR x.nd 0 = true
theorem Lf.ok.mono {I I' : GH} {x : Lf} (h : Lf.ok I x) (hI : ∀ b o, I b = some o → I' b = some o) : Lf.ok I' x := ⟨h.t.mono hI, h.ns, h.root, h.fits⟩
theorem Lf.ok.at {I : GH} {x : Lf} (h : Lf.ok I x) : ∃ a c, x.1.cells = [.slice a 1 c, .int .i64 0] ∧ LeafAt I a c x.2.1 x.2.2 := by
  obtain ⟨⟨ns, a, n, c, root⟩, k, s⟩ := x
  obtain ⟨ht, h1, h2, h3⟩ := h
  have h1' : ns = [leafNd k s] := h1
  clear h1 h3
  simp only at h2 ht
  subst h1'
  subst h2
  have hn := ht.n
  simp only [List.length_cons, List.length_nil] at hn
  subst hn
  exact ⟨a, c, rfl, ⟨by simpa [Lf.nd] using ht.rs⟩⟩
def kidCells (L : List Lf) : List Value := L.flatMap fun x => x.1.cells
def kidBlk (b : Nat) (L : List Lf) : Blk := ⟨b, .cells (kidCells L).toArray 25 (0, 0)⟩
def iotaI (n : Nat) : List Int := (List.range n).map fun (j : Nat) => (j : Int)
theorem iotaI_succ (n : Nat) : iotaI (n + 1) = iotaI n ++ [(n : Int)] := by simp [iotaI, List.range_succ]
theorem iotaI_len (n : Nat) : (iotaI n).length = n := by simp [iotaI]
def ofNd (k : Int) (s : ByteArray) (ka : Option Addr) (kc n : Nat) : Nd := ⟨k, 0, 0, 0, 0, s, 0, 0, ka, n, kc, iotaI n⟩

set_option maxHeartbeats 4000000 in
theorem ROf_leaf {I : GH} {k0 : Int} {s0 : ByteArray} {L : List Lf} {b cc : Nat} (hm : L.length ≤ 100) (hk0 : 0 ≤ k0 ∧ k0 < 256) (hs0 : s0.size ≤ 140737488355328) (hL : ∀ x ∈ L, Lf.ok I x) (hf : fitsR (leafNd k0 s0) L.length = true) :
    Spec Tryd.prog 35 [.agg #[.int .u8 k0, .int .u64 0, .int .u64 0, .int .u64 0, .int .u64 0, .string s0, .int .i64 0, .int .i64 0, .slice none 0 0], .slice (some ⟨b, 0, none⟩) L.length cc] I [kidBlk b L]
      fun v I' M' => (∀ b o, I b = some o → I' b = some o) ∧ M' = [kidBlk b L] ∧ ∃ (t : Tr) (ka : Option Addr) (kc : Nat), v = .tuple #[t.val, .bool true] ∧ t.ok I' ∧ t.root = L.length ∧ t.ns = L.map Lf.nd ++ [ofNd k0 s0 ka kc L.length] := by
  refine spec_of_V [] TrydEOK Tryd.func35 rfl rfl rfl ?_
  intro B h0
  have hfs := RFits_spec (I := I) k0 s0 0 0 none 0 0 [] L.length
  refine CallOb.mk [] [kidBlk b L] _ (.refl _) hfs ?_
  rintro v I' M' - ⟨rfl, rfl, rfl⟩
  refine CondOb.mk (fun h => ?_) (fun _ => ?_)
  · exfalso
    have : fitsR (leafNd k0 s0) L.length = false := by simpa [leafNd] using h
    rw [hf] at this
    cases this
  refine LoopOb.inv (ι := Nat × OS × OS × GH) (fun x => { fl := [(1, .val (.slice (some ⟨b, 0, none⟩) L.length cc)), (2, .ref 2 0), (4, .ref 4 0), (6, .val x.2.1.val), (7, .val (.int .i64 x.1))], cl := [(2, [.int .u8 k0, .int .u64 0, .int .u64 0, .int .u64 0, .int .u64 0, .string s0, .int .i64 0, .int .i64 0, x.2.2.1.val]), (4, [.slice none 0 0, .int .i64 0])], gi := x.2.2.2, mi := x.2.1.blk 32 ++ (x.2.2.1.blk 3 ++ [kidBlk b L]) })
    (fun x => x.1 ≤ L.length ∧ x.2.1.ok 9 ((L.take x.1).flatMap fun y => y.nd.cells) ∧ x.2.2.1.ok 1 ((iotaI x.1).map (.int .i64 ·)) ∧ (∀ b o, I' b = some o → x.2.2.2 b = some o)) (fun x => L.length - x.1) ?_ ?_
  · exact ⟨(0, OS0, OS0, I'), ⟨Nat.zero_le _, OS0_ok 9, OS0_ok 1, fun _ _ h => h⟩, .refl, .cons .refl (.cons .refl (.cons .refl (.cons .refl (.cons .refl .nil)))), .cons rfl (.cons rfl .nil)⟩
  · rintro ⟨i, o1, o2, I2⟩ ⟨hi, ho1, ho2, hI2⟩
    simp only at hi ho1 ho2 hI2
    have hn2 := ho2.len1
    rw [iotaI_len] at hn2
    have hn1 : o1.n = i := by
      have := ho1.len
      rw [flat_len _ 9 (fun x => Nd.cells_len _), List.length_take, Nat.min_eq_left hi] at this
      omega
    have hkb : ∀ {i : Nat} (hi : i < L.length) {I : GH} {M : List Blk}, kidBlk b L ∈ M → Rd I M ((⟨b, 0, none⟩ : Addr).add (i * 2)) 2 (L[i].1.cells) := fun {i} hi {I M} hM => by
      have hk := flat_at (fun x : Lf => x.1.cells) 2 (fun _ => rfl) L i hi
      have hl := flat_len (fun x : Lf => x.1.cells) 2 (fun _ => rfl) L
      have := blk_rd (I := I) (M := M) (b := b) (cs := kidCells L) (k := i * 2) (n := 2) (T := 25) hM (by unfold kidCells; rw [hl]; omega)
      unfold kidCells at this
      rwa [hk] at this
    refine CondOb.mk (fun h => ?_) (fun h => ?_)
    · have hlt : i < L.length := by simpa using h
      obtain ⟨a, c, hc, hlf⟩ := ((hL L[i] (List.getElem_mem hlt)).mono hI2).at
      have hfit := (hL L[i] (List.getElem_mem hlt)).fits
      have hr : ∀ {I : GH} {M : List Blk}, kidBlk b L ∈ M → Rd I M ((⟨b, 0, none⟩ : Addr).add (i * 2)) 2 [.slice a 1 c, .int .i64 0] := fun hM => by rw [← hc]; exact hkb hlt hM
      have hmem : kidBlk b L ∈ o1.blk 32 ++ (o2.blk 3 ++ [kidBlk b L]) := by simp
      refine IdxOb.mk ⟨b, 0, none⟩ i rfl rfl hlt ?_
      refine LoadOb.mk _ (hr hmem) ?_
      refine CallOb.mk [] _ _ (.refl _) (RRight_leaf hlf) ?_
      rintro v I3 M3 - ⟨rfl, rfl, rfl⟩
      refine CondOb.mk (fun h2 => ?_) (fun _ => ?_)
      · exfalso
        have : fitsR L[i].nd 0 = false := by simpa [Lf.nd] using h2
        rw [hfit] at this
        cases this
      refine IdxOb.mk ⟨b, 0, none⟩ i rfl rfl hlt ?_
      refine LoadOb.mk _ (hr hmem) ?_
      refine CallOb.mk [] _ _ (.refl _) (RClean_leaf hlf hfit) ?_
      rintro v I4 M4 - ⟨hI4, rfl, a', c', rfl, hl4⟩
      obtain ⟨ad', rfl, hrd'⟩ := hl4.rd
      refine LoopOb.inv (ι := Option (Nat × Nat × List Value)) (fun x => match x with
          | none => { fl := [(1, .val (.slice (some ⟨b, 0, none⟩) L.length cc)), (2, .ref 2 0), (4, .ref 4 0), (6, .val o1.val), (7, .val (.int .i64 i)), (8, .ref 8 0), (9, .val (.int .i64 o1.n)), (10, .val (.int .i64 0))], cl := [(2, [.int .u8 k0, .int .u64 0, .int .u64 0, .int .u64 0, .int .u64 0, .string s0, .int .i64 0, .int .i64 0, o2.val]), (4, [.slice none 0 0, .int .i64 0]), (8, [.slice (some ad') 1 c', .int .i64 0])], gi := I4, mi := o1.blk 32 ++ (o2.blk 3 ++ [kidBlk b L]) }
          | some (g1, c1, cur1) => { fl := [(1, .val (.slice (some ⟨b, 0, none⟩) L.length cc)), (2, .ref 2 0), (4, .ref 4 0), (6, .val (.slice (some ⟨g1, 0, none⟩) (o1.n + 1) c1)), (7, .val (.int .i64 i)), (8, .ref 8 0), (10, .val (.int .i64 1))], cl := [(2, [.int .u8 k0, .int .u64 0, .int .u64 0, .int .u64 0, .int .u64 0, .string s0, .int .i64 0, .int .i64 0, o2.val]), (4, [.slice none 0 0, .int .i64 0]), (8, [.slice (some ad') 1 c', .int .i64 0])], gi := I4, mi := [⟨g1, .cells cur1.toArray 32 (0, 0)⟩] ++ (o2.blk 3 ++ [kidBlk b L]) })
        (fun x => match x with
          | none => True
          | some (g1, c1, cur1) => OS.ok ⟨some g1, o1.n + 1, c1, cur1⟩ 9 (((L.take i).flatMap fun y => y.nd.cells) ++ L[i].nd.cells)) (fun x => match x with
          | none => 1
          | some _ => 0) ?_ ?_
      · exact ⟨none, trivial, .refl, .cons .refl (.cons .refl (.cons .refl (.cons .refl (.cons .refl (.cons .refl (.cons .refl (.cons .refl .nil))))))), .cons rfl (.cons rfl (.cons rfl .nil))⟩
      rintro (_ | ⟨g1, c1, cur1⟩) hq1
      · refine CondOb.mk (fun _ => ?_) (fun h => by simp at h)
        refine IdxOb.mk ad' 0 rfl rfl (by decide) ?_
        refine LoadOb.mk _ (hrd' _) ?_
        refine LoopOb.unroll 1 ?_
        refine CondOb.mk (fun h => by simp [leafNd] at h) (fun _ => ?_)
        refine AllocOb.mk fun b20 hb20 hbM20 => ?_
        refine OtherOb.append TrydEOK rfl (by simp) (e := 32) rfl rfl rfl o1 ho1 rfl (m := 1) rfl (news := L[i].nd.cells) (by decide) (blk_rd (b := b20) (cs := L[i].nd.cells) (k := 0) (n := 9) (T := 32) (.head _) (Nat.le_of_ble_eq_true rfl)) rfl
          (Mr := ⟨b20, .cells L[i].nd.cells.toArray 32 (0, 0)⟩ :: (o2.blk 3 ++ [kidBlk b L])) (List.perm_middle (l₁ := o1.blk 32) (l₂ := o2.blk 3 ++ [kidBlk b L])).symm (by simp only [maxLen]; omega) (by show (o1.n + 1) * 96 ≤ _; omega) ?_
        intro g1 c1 cur1 q1 q2 q3 q4
        refine ArithOb.mk 1 (by decide) ?_
        exact ⟨some (g1, c1, cur1), ⟨appk_ok ho1 (Nd.cells_len _) q1 q2 q3 q4, by simp⟩, .sub (.cons_cons _ (.cons _ (.refl _))) .refl, .cons .refl (.cons .refl (.cons .refl (.cons .refl (.cons .refl (.cons .refl (.cons .refl .nil)))))), .cons rfl (.cons rfl (.cons rfl .nil))⟩
      simp only at hq1
      refine CondOb.mk (fun h => by simp at h) (fun _ => ?_)
      have hlast : IntKind.i64.wrap (((o1.n + 1 : Nat) : Int) - 1) = (i : Int) := by rw [wrap_i64 ⟨by omega, by omega⟩]; omega
      refine ArithOb.mk (i : Int) hlast ?_
      refine AllocOb.mk fun b21 hb21 hbM21 => ?_
      refine OtherOb.append TrydEOK rfl (by simp) (e := 3) rfl rfl rfl o2 ho2 rfl (m := 1) rfl (news := [.int .i64 i]) (by decide) (blk_rd (b := b21) (cs := [.int .i64 i]) (k := 0) (n := 1) (T := 3) (.head _) (by simp)) rfl
        (Mr := [⟨b21, .cells #[.int .i64 i] 3 (0, 0)⟩, ⟨g1, .cells cur1.toArray 32 (0, 0)⟩] ++ [kidBlk b L]) (List.perm_append_comm_assoc [_, _] _ _) (by simp only [maxLen]; omega) (by show (o2.n + 1) * 8 ≤ _; omega) ?_
      intro g2 c2 cur2 r1 r2 r3 r4
      refine ArithOb.mk _ (next_wr (i := i) (by omega)) ?_
      refine ⟨(i + 1, ⟨some g1, o1.n + 1, c1, cur1⟩, ⟨some g2, o2.n + 1, c2, cur2⟩, I4), ⟨⟨by simp only; omega, ?_, ?_, fun b o h => hI4 _ _ (hI2 _ _ h)⟩, by simp only; omega⟩, ?_, .cons .refl (.cons .refl (.cons .refl (.cons .refl (.cons .refl .nil)))), .cons rfl (.cons rfl .nil)⟩
      · simp only
        rw [List.take_succ_eq_append_getElem hlt, List.flatMap_append]
        have : ([L[i]].flatMap fun y => y.nd.cells) = L[i].nd.cells := by simp
        rw [this]
        exact hq1
      · simp only
        rw [iotaI_succ, List.map_append]
        exact app1_ok ho2 r1 r2 r3 r4
      · refine .sub (M1 := [⟨g2, .cells cur2.toArray 3 (0, 0)⟩, ⟨g1, .cells cur1.toArray 32 (0, 0)⟩, kidBlk b L]) ?_ (.perm (List.Perm.swap _ _ _) .refl)
        exact .cons_cons _ (.cons _ (.refl _))
    · have hge : i = L.length := by
        have : ¬ i < L.length := by simpa using h
        omega
      subst hge
      refine AllocOb.mk fun b20 hb20 hbM20 => ?_
      refine OtherOb.nd ?_
      refine OtherOb.append TrydEOK rfl (by simp) (e := 32) rfl rfl rfl o1 ho1 rfl (m := 1) rfl (news := [.int .u8 k0, .int .u64 0, .int .u64 0, .int .u64 0, .int .u64 0, .string s0, .int .i64 0, .int .i64 0, o2.val]) (by decide) (blk_rd (b := b20) (cs := [.int .u8 k0, .int .u64 0, .int .u64 0, .int .u64 0, .int .u64 0, .string s0, .int .i64 0, .int .i64 0, o2.val]) (k := 0) (n := 9) (T := 32) (.head _) (Nat.le_of_ble_eq_true rfl)) rfl
        (Mr := ⟨b20, .cells _ 32 (0, 0)⟩ :: (o2.blk 3 ++ [kidBlk b L])) (List.perm_middle (l₁ := o1.blk 32) (l₂ := o2.blk 3 ++ [kidBlk b L])).symm (by simp only [maxLen]; omega) (by show (o1.n + 1) * 96 ≤ _; omega) ?_
      intro g1 c1 cur1 q1 q2 q3 q4 hnd hdj
      have hlast : IntKind.i64.wrap (((o1.n + 1 : Nat) : Int) - 1) = (L.length : Int) := by rw [wrap_i64 ⟨by omega, by omega⟩]; omega
      refine ArithOb.mk (L.length : Int) hlast ?_
      have hok1 := appk_ok (g := g1) (ys := [.int .u8 k0, .int .u64 0, .int .u64 0, .int .u64 0, .int .u64 0, .string s0, .int .i64 0, .int .i64 0, o2.val]) ho1 rfl q1 q2 q3 q4
      simp only [List.map_cons, List.map_append, List.map_nil, List.nodup_cons, List.mem_cons, List.mem_append, not_or] at hnd
      obtain ⟨⟨n1, n2, n3⟩, n4, n5⟩ := hnd
      have n6 := (List.nodup_append.1 n5)
      have hg1I := hdj ⟨g1, .cells cur1.toArray 32 (0, 0)⟩ (.head _)
      obtain ⟨I5, w1, w2, w3, w4⟩ := OS.giveF (foot := [(kidBlk b L).num]) (e := 3) (b := 8) ho2 (by omega) (fun g hg => ⟨hdj ⟨g, .cells o2.cur.toArray 3 (0, 0)⟩ (by simp [OS.blk, hg]), fun hgb => by
        simp only [List.mem_singleton] at hgb
        refine n6.2.2 g ?_ _ (List.mem_singleton.2 rfl) hgb
        simp [OS.blk, hg]⟩) [⟨g1, .cells cur1.toArray 32 (0, 0)⟩, kidBlk b L]
      have hg15 : I5 g1 = none := by
        rw [w4 g1 (fun hg => n2 (by simp [OS.blk, hg]))]
        exact hg1I
      obtain ⟨I6, x1, x2, x3, x4⟩ := OS.giveF (foot := [(kidBlk b L).num]) (e := 32) (b := 96) hok1 (by show (o1.n + 1) * 96 ≤ _; omega) (fun g hg => by cases hg; exact ⟨hg15, by simpa using n3⟩) [kidBlk b L]
      have hlen : L.length = o2.n := hn2.symm
      refine ⟨I6, [kidBlk b L], .sub (M1 := ⟨g1, .cells cur1.toArray 32 (0, 0)⟩ :: (o2.blk 3 ++ [kidBlk b L])) (.cons_cons _ (.cons _ (.refl _))) (.perm List.perm_middle.symm (w1 _ _ (x1 _ _ .refl))), fun b o h => x2 _ _ (w2 _ _ (hI2 _ _ h)), rfl,
        ⟨L.map Lf.nd ++ [ofNd k0 s0 (o2.a.map fun g => ⟨g, 0, none⟩) o2.c L.length], some ⟨g1, 0, none⟩, o1.n + 1, c1, L.length⟩, (o2.a.map fun g => ⟨g, 0, none⟩), o2.c, rfl, ⟨?_, ?_, ⟨by simp only; omega, by simp only; omega⟩⟩, rfl, rfl⟩
      · have e : (L.map Lf.nd ++ [ofNd k0 s0 (o2.a.map fun g => ⟨g, 0, none⟩) o2.c L.length]).flatMap Nd.cells = ((L.take L.length).flatMap fun y => y.nd.cells) ++ [.int .u8 k0, .int .u64 0, .int .u64 0, .int .u64 0, .int .u64 0, .string s0, .int .i64 0, .int .i64 0, o2.val] := by
          rw [List.take_length, List.flatMap_append, List.flatMap_map]
          simp [ofNd, Nd.cells, OS.val, hlen]
        rw [e]
        exact x3
      · intro d hd
        simp only [List.mem_append, List.mem_map, List.mem_singleton] at hd
        rcases hd with ⟨x, hx, rfl⟩ | rfl
        · have hxo := hL x hx
          have : x.nd ∈ x.1.ns := by rw [hxo.ns]; simp
          exact (hxo.t.ns _ this).mono fun b o h => x2 _ _ (w2 _ _ (hI2 _ _ h))
        · refine ⟨hk0, u0, u0, u0, u0, by show s0.size ≤ _; omega, i0, i0, ?_, fun x hx => ?_⟩
          · show RS I6 _ L.length _ 1 8 ((iotaI L.length).map _)
            rw [hlen] at w3 ⊢
            exact w3.mono x2
          · simp only [ofNd, iotaI, List.mem_map, List.mem_range] at hx
            obtain ⟨j, hj, rfl⟩ := hx
            exact ⟨by omega, by omega⟩
end Go.V

/-
  Walks: bonsairef04.Sub, of any right tree; Clean.
-/
set_option linter.unusedVariables false
set_option linter.unusedSimpArgs false
namespace Go.V
open Go Go.Proofs

/-! ### How many stand within a node -/
def szOf (ns : List Nd) : Int → Nat := tabOf 0 (fun d g => 1 + sumOf g d.kids) ns
theorem szOf_eq {t : Tr} (hr : right t = true) {j : Nat} (hj : j < t.ns.length) : szOf t.ns j = 1 + sumOf (szOf t.ns) t.ns[j].kids :=
  tabOf_eq (fun d g g' h => by rw [sumOf_congr h]) hr hj
theorem sz_root {t : Tr} (hr : right t = true) : szOf t.ns t.root ≤ t.ns.length := by
  have := right_sum hr (g := szOf t.ns) (c := fun _ => 1) fun j hj => by rw [szOf_eq hr hj]; exact Nat.le_refl _
  rwa [sum_const, Nat.one_mul] at this
theorem kidsOk_mark {i : Nat} : ∀ {ks : List Int} {s s' : List Bool}, kidsOk i ks s = some s' → ∀ j, s'.getD j false = true → s.getD j false = true ∨ ((j : Int) ∈ ks ∧ j < i)
  | [], s, s', h, j, hj => by
    simp only [kidsOk, Option.some.injEq] at h
    subst h
    exact .inl hj
  | k :: ks, s, s', h, j, hj => by
    unfold kidsOk at h
    cases hb : decide (k < 0) || (decide ((i : Int) ≤ k) || s.getD k.toNat false) with
    | true => rw [hb] at h; cases h
    | false =>
      rw [hb] at h
      simp only [cond_false] at h
      simp only [Bool.or_eq_false_iff, decide_eq_false_iff_not] at hb
      rcases kidsOk_mark h j hj with h1 | h1
      · by_cases e : k.toNat = j
        · right
          refine ⟨?_, by omega⟩
          have : (j : Int) = k := by omega
          rw [this]
          exact .head _
        · left
          simp only [List.getD_eq_getElem?_getD, List.getElem?_set] at h1 ⊢
          rwa [if_neg e] at h1
      · exact .inr ⟨.tail _ h1.1, h1.2⟩
theorem nodesOk_mark : ∀ {ds : List Nd} {i : Nat} {s s' : List Bool}, nodesOk i ds s = some s' → ∀ j, s'.getD j false = true → s.getD j false = true ∨ ∃ q, ∃ h : q < ds.length, (j : Int) ∈ ds[q].kids ∧ j < i + q
  | [], i, s, s', h, j, hj => by
    simp only [nodesOk, Option.some.injEq] at h
    subst h
    exact .inl hj
  | d :: ds, i, s, s', h, j, hj => by
    unfold nodesOk at h
    cases hf : fits d d.kids.length with
    | false => rw [hf] at h; cases h
    | true =>
      rw [hf] at h
      simp only [cond_true] at h
      split at h
      · rename_i s1 hs1
        rcases nodesOk_mark h j hj with h1 | ⟨q, hq, h1, h2⟩
        · rcases kidsOk_mark hs1 j h1 with h3 | ⟨h3, h4⟩
          · exact .inl h3
          · exact .inr ⟨0, by simp, h3, by omega⟩
        · exact .inr ⟨q + 1, by simpa using hq, by simpa using h1, by omega⟩
      · cases h
theorem right_parent {t : Tr} (hr : right t = true) {j : Nat} (hj : j < t.ns.length) (hne : (j : Int) ≠ t.root) : ∃ p, ∃ h : p < t.ns.length, (j : Int) ∈ t.ns[p].kids ∧ j < p := by
  unfold right at hr
  simp only [Bool.and_eq_true] at hr
  obtain ⟨_, _, hr⟩ := hr
  split at hr
  · rename_i s hs
    have hsl := (free_nodes (g := fun _ => 0) (c := fun _ => 0) hs (by simp) (fun j hj => by simp)).1
    have hm : s.getD j false = true := by
      cases hb : s.getD j false with
      | true => rfl
      | false =>
        have := rootOk_false (root := t.root) (s := s) (i := 0) (j := j) (by rw [hsl]; simpa using hj) (by rw [hb, Nat.zero_add]; simp [hne])
        rw [this] at hr
        cases hr
    rcases nodesOk_mark hs j hm with h1 | ⟨q, hq, h1, h2⟩
    · simp [List.getD_eq_getElem?_getD, hj] at h1
    · exact ⟨q, hq, h1, by omega⟩
  · cases hr
theorem sumOf_mem {g : Int → Nat} : ∀ {ks : List Int} {k : Int}, k ∈ ks → g k ≤ sumOf g ks
  | a :: ks, k, h => by
    simp only [sumOf, List.map_cons, List.sum_cons]
    rcases List.mem_cons.1 h with rfl | h
    · omega
    · have := sumOf_mem (g := g) h
      simp only [sumOf] at this
      omega
theorem sz_le {t : Tr} (hr : right t = true) : ∀ (m j : Nat), j < t.ns.length → t.ns.length - j ≤ m → szOf t.ns j ≤ t.ns.length
  | 0, j, hj, hm => by omega
  | m + 1, j, hj, hm => by
    by_cases e : (j : Int) = t.root
    · rw [e]
      exact sz_root hr
    · obtain ⟨p, hp, hk, hlt⟩ := right_parent hr hj e
      have h1 := sz_le hr m p hp (by omega)
      rw [szOf_eq hr hp] at h1
      have := sumOf_mem (g := szOf t.ns) hk
      omega
theorem sumOf_append (g : Int → Nat) (a b : List Int) : sumOf g (a ++ b) = sumOf g a + sumOf g b := by
  simp [sumOf]

theorem len_le_sum {t : Tr} (hr : right t = true) : ∀ {l : List Int}, valid t.ns.length l → l.length ≤ sumOf (szOf t.ns) l
  | [], _ => by simp
  | a :: l, hv => by
    have h1 := len_le_sum hr (l := l) fun k hk => hv k (.tail _ hk)
    have h2 := hv a (.head _)
    obtain ⟨a, rfl⟩ := Int.eq_ofNat_of_zero_le h2.1
    have h3 := szOf_eq hr (j := a) (by omega)
    simp only [sumOf, List.map_cons, List.sum_cons, List.length_cons] at h1 ⊢
    have h4 : szOf t.ns (Int.ofNat a) = szOf t.ns a := rfl
    omega
/-! ### Sub, plainly -/
def backGo (ns : List Nd) : Nat → List Int → List Int → List Int
  | 0, _, b => b
  | f + 1, todo, b => match todo.getLast? with
    | none => b
    | some n => backGo ns f (todo.dropLast ++ (nodeAt ns n.toNat).kids) (b ++ [n])
def backOf (ns : List Nd) (node : Int) : List Int := backGo ns (ns.length + 1) [node] []
theorem backGo_nil (ns : List Nd) (f : Nat) (b : List Int) : backGo ns f [] b = b := by cases f <;> rfl
theorem backGo_snoc (ns : List Nd) (f : Nat) (todo : List Int) (n : Int) (b : List Int) : backGo ns (f + 1) (todo ++ [n]) b = backGo ns f (todo ++ (nodeAt ns n.toNat).kids) (b ++ [n]) := by
  rw [backGo]
  simp only [List.getLast?_concat, List.dropLast_concat]
/-- A node, wherever its kids lie. -/
def Nd.ct (d : Nd) : Nd := ⟨d.k, d.s0, d.s1, d.s2, d.s3, d.t, d.lo, d.hi, none, 0, 0, d.kids⟩
def Nd.withKids (d : Nd) (l : List Int) : Nd := ⟨d.k, d.s0, d.s1, d.s2, d.s3, d.t, d.lo, d.hi, none, 0, 0, l⟩
def subStep (ns : List Nd) (st : List Int × List Nd) (b : Int) : List Int × List Nd :=
  (st.1.set b.toNat st.2.length, st.2 ++ [(nodeAt ns b.toNat).withKids ((nodeAt ns b.toNat).kids.map fun k => (st.1.set b.toNat st.2.length).getD k.toNat 0)])
def subC (ns : List Nd) (node : Int) : List Nd := ((backOf ns node).reverse.foldl (subStep ns) (List.replicate ns.length 0, [])).2

/-! ### Slices of the function's own -/
theorem OS.pop {os : OS} {xs : List Value} {x : Value} (h : os.ok 1 (xs ++ [x])) : OS.ok ⟨os.a, os.n - 1, os.c, os.cur⟩ 1 xs := by
  have hl := h.len
  simp only [List.length_append, List.length_cons, List.length_nil, Nat.mul_one] at hl
  refine ⟨by simp only; omega, fun ha => ?_, fun g hg => ?_⟩
  · have := h.nil ha
    simp only
    omega
  · obtain ⟨h1, h2, h3, h4⟩ := h.cap g hg
    refine ⟨h1, by simp only; omega, h3, ?_⟩
    simp only
    have e : os.n * 1 = xs.length + 1 := by omega
    rw [e] at h4
    have : os.cur.take xs.length = (os.cur.take (xs.length + 1)).take xs.length := by rw [List.take_take]; congr 1; omega
    rw [show (os.n - 1) * 1 = xs.length by omega, this, h4, List.take_left]
theorem appm_ok {os : OS} {xs ys : List Value} {size m : Nat} (hos : os.ok size xs) {g c : Nat} {cur : List Value} (hy : ys.length = m * size) (h1 : cur.length = c * size) (h2 : os.n + m ≤ c) (h3 : c ≤ maxLen) (h4 : cur.take ((os.n + m) * size) = xs ++ ys) :
    OS.ok ⟨some g, os.n + m, c, cur⟩ size (xs ++ ys) := by
  have hl := hos.len
  refine ⟨?_, (fun h => by cases h), fun g3 hg3 => ⟨h1, h2, h3, h4⟩⟩
  rw [List.length_append, hl, hy]
  simp only
  rw [Nat.add_mul]

theorem StoreOb.addTo {M : List Blk} {b o k : Nat} {vs : List Value} {K : List Blk → Prop} (pre post : List Blk) (cs : List Value) (T : Nat) (hM : M = pre ++ ⟨b, .cells cs.toArray T (0, 0)⟩ :: post) (hb : Nat.ble (o + k + vs.length) cs.length = true) (h1 : allOne vs = true)
    (cs' : List Value) (he : splice cs (o + k) vs = cs') (h : K (pre ++ ⟨b, .cells cs'.toArray T (0, 0)⟩ :: post)) : StoreOb M ((⟨b, o, none⟩ : Addr).add k) vs K :=
  StoreOb.add pre post _ _ hM (by simpa using Nat.le_of_ble_eq_true hb) h1 (by rw [← he] at h; exact h)
structure BackInv (t : Tr) (node : Int) (x : OS × List Int × OS × List Int × Nat) : Prop where
  todo : x.1.ok 1 (x.2.1.map (.int .i64 ·))
  back : x.2.2.1.ok 1 (x.2.2.2.1.map (.int .i64 ·))
  vt : valid t.ns.length x.2.1
  vb : valid t.ns.length x.2.2.2.1
  sum : sumOf (szOf t.ns) x.2.1 + x.2.2.2.1.length = szOf t.ns node
  fuel : sumOf (szOf t.ns) x.2.1 + 1 ≤ x.2.2.2.2
  eq : backOf t.ns node = backGo t.ns x.2.2.2.2 x.2.1 x.2.2.2.1

structure SubInv (I : GH) (t : Tr) (rb : List Int) (x : Nat × List Int × OS × List Nd × GH) : Prop where
  j : x.1 ≤ rb.length
  len : x.2.1.length = t.ns.length
  out : x.2.2.1.ok 9 (x.2.2.2.1.flatMap Nd.cells)
  on : x.2.2.2.1.length = x.1
  eq : (rb.take x.1).foldl (subStep t.ns) (List.replicate t.ns.length 0, []) = (x.2.1, x.2.2.2.1.map Nd.ct)
  ok : ∀ d ∈ x.2.2.2.1, d.ok x.2.2.2.2
  le : ∀ b o, I b = some o → x.2.2.2.2 b = some o
  bd : ∀ c ∈ x.2.1, 0 ≤ c ∧ c ≤ rb.length
  kb : ∀ d ∈ x.2.2.2.1, ∀ k ∈ d.kids, 0 ≤ k ∧ k ≤ rb.length

set_option maxRecDepth 100000 in
set_option maxHeartbeats 8000000 in
theorem RSub_gen {I : GH} {t : Tr} (ht : t.ok I) (hr : right t = true) (W : Nat) (hW : ∀ d ∈ t.ns, d.kn ≤ W) (hb : t.n * W ≤ 1152921504606846976) (hn : t.n ≤ 1099511627776) {node : Nat} (hnode : node < t.n) :
    Spec Tryd.prog 65 [t.val, .int .i64 node] I [] fun v I' M' => (∀ b o, I b = some o → I' b = some o) ∧ M' = [] ∧ ∃ t' : Tr, v = .tuple #[t'.val, .bool true] ∧ t'.ok I' ∧ t'.ns.map Nd.ct = subC t.ns node ∧ t'.root = (t'.ns.length : Int) - 1 ∧ t'.ns.length ≤ t.n ∧ ∀ d ∈ t'.ns, ∀ k ∈ d.kids, 0 ≤ k ∧ k ≤ t.n := by
  refine spec_of_VF [] TrydEOK Tryd.func65 rfl rfl rfl ?_
  intro B h0
  have htn := ht.n
  have hcap := ht.rs.cap
  have hszn : szOf t.ns node ≤ t.ns.length := sz_le hr t.ns.length node (by omega) (by omega)
  refine CallOb.mk [] [] _ (.refl _) (RRight_gen ht W hW hb) ?_
  rintro v I' M' - ⟨rfl, rfl, rfl⟩
  rw [hr]
  refine GuardOb.mk (fun _ => ?_) (fun h => by simp at h)
  refine GuardOb.mk (fun _ => ?_) (fun h => ?_)
  rotate_left
  · have : ((node : Nat) : Int) < 0 := of_decide_eq_true h
    omega
  refine CondOb.mk (fun h => ?_) (fun _ => ?_)
  · have : ((t.n : Nat) : Int) ≤ ((node : Nat) : Int) := of_decide_eq_true h
    omega
  refine AllocOb.mk fun b1 hb1 hbM1 => ?_
  -- the row turned about
  refine LoopOb.inv (ι := OS × List Int × OS × List Int × Nat) (fun x => { fl := [(2, .ref 2 0), (4, .ref 4 0), (6, .val x.2.2.1.val), (7, .val x.1.val)], cl := [(2, t.cells), (4, [.slice none 0 0, .int .i64 0])], gi := I', mi := x.2.2.1.blk 3 ++ x.1.blk 3 })
    (BackInv t node) (fun x => sumOf (szOf t.ns) x.2.1) ?_ ?_
  · refine ⟨(⟨some b1, 1, 1, [.int .i64 node]⟩, [(node : Int)], OS0, [], t.ns.length + 1), ⟨⟨rfl, (fun h => by cases h), fun g' hg' => ⟨rfl, Nat.le_refl _, by simp [maxLen], rfl⟩⟩, OS0_ok 1, fun k hk => ?_, (fun k hk => by cases hk), ?_, ?_, rfl⟩, .refl, .cons .refl (.cons .refl (.cons .refl (.cons .refl .nil))), .cons rfl (.cons rfl .nil)⟩
    · simp only [List.mem_singleton] at hk
      omega
    · simp [sumOf]
    · simp only [sumOf, List.map_cons, List.map_nil, List.sum_cons, List.sum_nil]
      omega
  rintro ⟨todo, tl, back, bl, f⟩ ⟨htodo, hback, hvt, hvb, hsum, hfuel, heq⟩
  simp only at htodo hback hvt hvb hsum hfuel heq
  have hbl := hback.len1
  have htl := htodo.len1
  refine CondOb.mk (fun h => ?_) (fun h => ?_)
  · have h0t : 0 < todo.n := by
      have : (0 : Int) < (todo.n : Int) := of_decide_eq_true h
      omega
    obtain ⟨tl', m, rfl⟩ : ∃ tl' m, tl = tl' ++ [m] := by
      rcases List.eq_nil_or_concat tl with h1 | ⟨r, p, h1⟩
      · subst h1
        simp at htl
        omega
      · exact ⟨r, p, by simpa using h1⟩
    have hm := hvt m (by simp)
    obtain ⟨m, rfl⟩ := Int.eq_ofNat_of_zero_le hm.1
    have hml : m < t.n := by omega
    have hml' : m < t.ns.length := by omega
    have htl' : todo.n = tl'.length + 1 := by simpa using htl
    have hszm := szOf_eq hr hml'
    rw [sumOf_append] at hsum hfuel
    have hs1 : sumOf (szOf t.ns) [(m : Int)] = szOf t.ns m := by simp [sumOf]
    rw [hs1, hszm] at hsum hfuel
    have htlen : tl'.length ≤ sumOf (szOf t.ns) tl' := len_le_sum hr fun k hk => hvt k (by simp [hk])
    have hklen : t.ns[m].kids.length ≤ sumOf (szOf t.ns) t.ns[m].kids := len_le_sum hr fun k hk => by
      have := right_kids hr m hml' k hk
      omega
    have htot : tl'.length + t.ns[m].kids.length ≤ t.ns.length := by omega
    obtain ⟨ad, had, hrd⟩ := OS.rdI (I := I') (e := 3) (M := back.blk 3 ++ todo.blk 3) htodo (fun x hx => by simp [hx]) (j := tl'.length) (by simp)
    rw [List.getElem_concat_length rfl] at hrd
    have hpop := htodo
    rw [List.map_append] at hpop
    have hpop := OS.pop hpop
    refine ArithOb.mk ((tl'.length : Nat) : Int) (wr_eq (by simp only [OS.val]; omega) (by omega)) ?_
    refine IdxOb.mk ad tl'.length had rfl (show tl'.length < todo.n by omega) ?_
    refine LoadOb.mk _ hrd ?_
    refine ArithOb.mk ((tl'.length : Nat) : Int) (wr_eq (by simp only [OS.val]; omega) (by omega)) ?_
    refine SliceOb.mk 0 tl'.length rfl rfl (Nat.zero_le _) ?_ ?_
    · have := htodo.cap
      obtain ⟨oa, on, oc, ocur⟩ := todo
      cases oa with
      | none => have := (htodo.nil rfl).1; simp only at this htl'; omega
      | some gg =>
        obtain ⟨-, h2, -, -⟩ := htodo.cap gg rfl
        simp only at h2 htl' ⊢
        omega
    refine AllocOb.mk fun b2 hb2 hbM2 => ?_
    refine OtherOb.append TrydEOK rfl (by simp) (e := 3) rfl rfl rfl back hback rfl (m := 1) rfl (news := [.int .i64 m]) (by decide) (blk_rd (b := b2) (cs := [.int .i64 m]) (k := 0) (n := 1) (T := 3) (.head _) (by simp)) rfl (Mr := ⟨b2, .cells #[.int .i64 m] 3 (0, 0)⟩ :: todo.blk 3) List.perm_middle.symm (by simp only [maxLen]; omega) (by show (back.n + 1) * 8 ≤ _; omega) ?_
    intro g1 c1 cur1 q1 q2 q3 q4
    have hback' : OS.ok ⟨some g1, back.n + 1, c1, cur1⟩ 1 ((bl ++ [(m : Int)]).map (.int .i64 ·)) := by
      rw [List.map_append]
      exact app1_ok hback q1 q2 q3 q4
    obtain ⟨an, han, hrn⟩ := ht.rs.row Nd.cells_len hml hml'
    have hd := ht.ns _ (List.getElem_mem hml')
    have hkn := hd.kn
    have hkc := hd.rs.cap
    have hkv := right_kids hr m hml'
    have hvt' : valid t.ns.length (tl' ++ t.ns[m].kids) := fun k hk => by
      rcases List.mem_append.1 hk with hk | hk
      · exact hvt k (by simp [hk])
      · have := hkv k hk
        omega
    have hvb' : valid t.ns.length (bl ++ [(m : Int)]) := fun k hk => by
      rcases List.mem_append.1 hk with hk | hk
      · exact hvb k hk
      · simp only [List.mem_singleton] at hk
        omega
    have heq' : ∀ f', f = f' + 1 → backOf t.ns node = backGo t.ns f' (tl' ++ t.ns[m].kids) (bl ++ [(m : Int)]) := fun f' hf' => by
      rw [heq, hf', backGo_snoc, Int.toNat_natCast, nodeAt_eq hml']
    have hinv : ∀ td : OS, td.ok 1 ((tl' ++ t.ns[m].kids).map (.int .i64 ·)) → BackInv t node (td, tl' ++ t.ns[m].kids, ⟨some g1, back.n + 1, c1, cur1⟩, bl ++ [(m : Int)], f - 1) := fun td htd => by
      refine ⟨htd, hback', hvt', hvb', ?_, ?_, heq' (f - 1) (by omega)⟩
      · simp only [sumOf_append, List.length_append, List.length_cons, List.length_nil]
        omega
      · simp only [sumOf_append]
        omega
    have hmu : sumOf (szOf t.ns) (tl' ++ t.ns[m].kids) < sumOf (szOf t.ns) (tl' ++ [(m : Int)]) := by
      rw [sumOf_append, sumOf_append, hs1, hszm]
      omega
    refine IdxOb.mk an m han rfl hml ?_
    refine LoadOb.mk _ ((hrn _).part (k := 8) (m := 1) (by decide)) ?_
    generalize hdd : t.ns[m] = d at hd hkn hkc hrn hinv hmu htot
    by_cases hk0 : d.kn = 0
    · have hnil : d.kids = [] := List.eq_nil_of_length_eq_zero (by omega)
      rw [hnil, List.append_nil] at hinv hmu
      refine OtherOb.append0 TrydEOK rfl (by simp) (e := 3) (sa := todo.a.map fun g => ⟨g, 0, none⟩) (n := tl'.length) (c := todo.c) rfl rfl rfl (by simp) rfl rfl ?_ rfl (.inl ⟨d.ka, d.kc, by rw [← hk0]; rfl⟩) ?_
      · obtain ⟨oa, on, oc, ocur⟩ := todo
        cases oa with
        | none => have := (htodo.nil rfl).1; simp only at this htl'; omega
        | some gg =>
          obtain ⟨-, h2, -, -⟩ := htodo.cap gg rfl
          simp only at h2 htl' ⊢
          omega
      have he : todo.n - 1 = tl'.length := by omega
      refine ⟨_, ⟨hinv _ hpop, hmu⟩, .sub (M1 := ⟨g1, .cells cur1.toArray 3 (0, 0)⟩ :: todo.blk 3) (.cons_cons _ (.cons _ (.refl _))) .refl, .cons .refl (.cons .refl (.cons .refl (.cons ?_ .nil))), .cons rfl (.cons rfl .nil)⟩
      simp only [OS.val, he]
      exact .refl
    · obtain ⟨ak, hak, hsp, cs, T, fr, hI, hv⟩ := hd.rs.rd.resolve_left hk0
      have hpop' : OS.ok ⟨todo.a, tl'.length, todo.c, todo.cur⟩ 1 (tl'.map (.int .i64 ·)) := by
        have he : todo.n - 1 = tl'.length := by omega
        rw [← he]
        exact hpop
      refine OtherOb.append TrydEOK rfl (by simp) (e := 3) rfl rfl rfl ⟨todo.a, tl'.length, todo.c, todo.cur⟩ hpop' rfl (ad := ak) (m := d.kn) (c' := d.kc) (by rw [← hak]; rfl) (news := d.kids.map (.int .i64 ·)) (by omega) ⟨hsp, cs, T, fr, .inl hI, hv, by simp [hkn]⟩ ?_ (Mr := [⟨g1, .cells cur1.toArray 3 (0, 0)⟩, ⟨b2, .cells #[.int .i64 m] 3 (0, 0)⟩]) (List.perm_append_comm (l₁ := [_, _])) (by simp only [maxLen]; omega) (by show (tl'.length + d.kn) * 8 ≤ _; omega) ?_
      · simp [allOne, Value.oneCell']
      intro g2 c2 cur2 r1 r2 r3 r4
      refine ⟨(⟨some g2, tl'.length + d.kn, c2, cur2⟩, _, _, _, _), ⟨hinv _ ?_, hmu⟩, .sub (M1 := [⟨g2, .cells cur2.toArray 3 (0, 0)⟩, ⟨g1, .cells cur1.toArray 3 (0, 0)⟩]) (.cons_cons _ (.cons_cons _ (List.nil_sublist _))) (.perm (List.Perm.swap _ _ _) .refl), .cons .refl (.cons .refl (.cons .refl (.cons .refl .nil))), .cons rfl (.cons rfl .nil)⟩
      rw [List.map_append]
      exact appm_ok hpop' (by simp [hkn]) r1 r2 r3 r4
  have htl0 : tl = [] := by
    have : ¬ (0 : Int) < (todo.n : Int) := of_decide_eq_false h
    exact List.eq_nil_of_length_eq_zero (by omega)
  subst htl0
  rw [backGo_nil] at heq
  simp only [sumOf, List.map_nil, List.sum_nil, Nat.zero_add] at hsum
  clear hfuel htodo hvt h
  refine MakeOb.mk t.n t.n rfl rfl (Nat.le_refl _) (by show 8 * t.n ≤ _; omega) (by omega) ?_
  refine AllocOb.mk fun b9 hb9 hbM9 => ?_
  refine ArithOb.mk ((bl.length : Int) - 1) (wr_eq (by simp only [OS.val]; omega) (by omega)) ?_
  refine LoopOb.invF (ι := Nat × List Int × OS × List Nd × GH) (fun x => { fl := [(2, .ref 2 0), (4, .ref 4 0), (6, .val back.val), (9, .val (.slice (some ⟨b9, 0, none⟩) t.n t.n)), (10, .val x.2.2.1.val), (11, .val (.int .i64 ((bl.length : Int) - 1 - x.1)))], cl := [(2, t.cells), (4, [.slice none 0 0, .int .i64 0])], gi := x.2.2.2.2, mi := intRow b9 x.2.1 :: (x.2.2.1.blk 32 ++ back.blk 3) })
    (SubInv I' t bl.reverse) (fun x => bl.length - x.1) ?_ ?_
  · intro _
    refine ⟨(0, List.replicate t.n 0, OS0, [], I'), ⟨Nat.zero_le _, by simp [htn], OS0_ok 9, rfl, (by rw [htn]; rfl), (fun d hd => by cases hd), fun _ _ h => h, (fun c hc => by have := List.eq_of_mem_replicate hc; omega), (fun d hd => by cases hd)⟩, ?_, .cons .refl (.cons .refl (.cons .refl (.cons .refl (.cons .refl (.cons ?_ .nil))))), .cons rfl (.cons rfl .nil)⟩
    · simp only [rowOf_one, intRow, List.map_replicate, Nat.mul_one]
      exact .sub (M1 := ⟨b9, .cells (List.replicate t.n (Value.int .i64 0)).toArray 3 (0, 0)⟩ :: (OS0.blk 32 ++ back.blk 3)) (.cons_cons _ (List.sublist_append_left _ _)) .refl
    · simp only [Int.ofNat_zero, Int.sub_zero]
      exact .refl
  rintro ⟨j, P, out, outN, J⟩ ⟨hj, hPl, hout, hon, hfold, hJok, hJ, hPb, hkb⟩
  simp only at hj hPl hout hon hfold hJok hJ hPb hkb
  rw [List.length_reverse] at hj hPb hkb
  have hol : out.n = j := by
    have := hout.len
    rw [flat_len _ 9 Nd.cells_len, hon] at this
    omega
  subst hol
  refine CondOb.mk (fun h => ?_) (fun h => ?_)
  · have hjl : out.n < bl.length := by
      have : (0 : Int) ≤ (bl.length : Int) - 1 - (out.n : Int) := of_decide_eq_true h
      omega
    have hjr : out.n < bl.reverse.length := by simpa using hjl
    -- the next one
    have hbi : bl.length - 1 - out.n < bl.length := by omega
    have hrev : bl.reverse[out.n] = bl[bl.length - 1 - out.n] := by rw [List.getElem_reverse]
    have hm := hvb _ (List.getElem_mem hbi)
    obtain ⟨m, hmm⟩ := Int.eq_ofNat_of_zero_le hm.1
    rw [hmm] at hm
    have hml : m < t.n := by omega
    have hml' : m < t.ns.length := by omega
    have hidx : ((bl.length : Int) - 1 - (out.n : Int)) = ((bl.length - 1 - out.n : Nat) : Int) := by omega
    have hbrd : ∀ {M : List Blk}, (∀ x ∈ back.blk 3, x ∈ M) → ∃ ad, (back.a.map fun g => (⟨g, 0, none⟩ : Addr)) = some ad ∧ Rd J M (ad.add ((bl.length - 1 - out.n) * 1)) 1 [.int .i64 m] := fun hM => by
      obtain ⟨ad, h1, h2⟩ := OS.rdI (I := J) (e := 3) hback hM hbi
      rw [hmm] at h2
      exact ⟨ad, h1, h2⟩
    obtain ⟨an, han, hrn⟩ := (ht.rs.mono hJ).row Nd.cells_len hml hml'
    have hd := (ht.ns _ (List.getElem_mem hml')).mono hJ
    have hkn := hd.kn
    have hkc := hd.rs.cap
    have hkv := right_kids hr m hml'
    have hna : nodeAt t.ns m = t.ns[m] := nodeAt_eq hml'
    generalize hdd : t.ns[m] = d at hd hkn hkc hkv hrn hna
    obtain ⟨ad, had, hrdb⟩ := hbrd (M := intRow b9 P :: (out.blk 32 ++ back.blk 3)) (fun x hx => by simp [hx])
    refine CodeOb.draw TrydEOK rfl rfl rfl ?_
    refine IdxOb.mk ad (bl.length - 1 - out.n) had hidx (show _ < back.n by omega) ?_
    refine LoadOb.mk _ hrdb ?_
    refine IdxOb.mk an m han rfl hml ?_
    refine LoadOb.mk _ (hrn _) ?_
    refine AllocOb.mk fun b12 hb12 hbM12 => ?_
    refine StoreOb.mk [] _ _ _ rfl rfl (Nat.le_of_ble_eq_true rfl) rfl ?_
    obtain ⟨ad2, had2, hrdb2⟩ := hbrd (M := ⟨b12, .cells d.cells.toArray 32 (0, 0)⟩ :: intRow b9 P :: (out.blk 32 ++ back.blk 3)) (fun x hx => by simp [hx])
    refine IdxOb.mk ad2 (bl.length - 1 - out.n) had2 hidx (show _ < back.n by omega) ?_
    refine LoadOb.mk _ hrdb2 ?_
    refine IdxOb.mk ⟨b9, 0, none⟩ m rfl rfl hml ?_
    refine StoreOb.add [⟨b12, .cells d.cells.toArray 32 (0, 0)⟩] (out.blk 32 ++ back.blk 3) _ _ rfl ?_ rfl ?_
    · simp only [List.size_toArray, List.length_map]
      show 0 + m * 1 + 1 ≤ _
      omega
    have hset := intRow_set P m (by omega) (out.n : Int)
    generalize hP' : P.set m (out.n : Int) = P' at hset
    have hPl' : P'.length = t.ns.length := by rw [← hP']; simpa using hPl
    have hPb' : ∀ c ∈ P', 0 ≤ c ∧ c ≤ bl.length := fun c hc => by
      rw [← hP'] at hc
      rcases List.mem_or_eq_of_mem_set hc with hc | rfl
      · exact hPb c hc
      · omega
    have b12rd : ∀ {M : List Blk} {cs : List Value} (k n : Nat), (⟨b12, .cells cs.toArray 32 (0, 0)⟩ : Blk) ∈ M → k + n ≤ cs.length → Rd J M ((⟨b12, 0, none⟩ : Addr).add k) n ((cs.drop k).take n) := fun k n hM hl => blk_rd hM hl
    refine LoopOb.inv (ι := Nat × OS × List Int) (fun y => { fl := [(2, .ref 2 0), (4, .ref 4 0), (6, .val back.val), (9, .val (.slice (some ⟨b9, 0, none⟩) t.n t.n)), (10, .val out.val), (11, .val (.int .i64 ((bl.length : Int) - 1 - out.n))), (12, .val (ptr b12)), (13, .val y.2.1.val), (14, .val (.int .i64 y.1))], cl := [(2, t.cells), (4, [.slice none 0 0, .int .i64 0])], gi := J, mi := y.2.1.blk 3 ++ (⟨b12, .cells d.cells.toArray 32 (0, 0)⟩ :: intRow b9 P' :: (out.blk 32 ++ back.blk 3)) })
      (fun y => y.1 ≤ d.kn ∧ y.2.1.ok 1 (y.2.2.map (.int .i64 ·)) ∧ y.2.2 = (d.kids.take y.1).map fun k => P'.getD k.toNat 0) (fun y => d.kn - y.1) ?_ ?_
    · refine ⟨(0, OS0, []), ⟨Nat.zero_le _, OS0_ok 1, by simp⟩, ?_, .cons .refl (.cons .refl (.cons .refl (.cons .refl (.cons .refl (.cons .refl (.cons .refl (.cons .refl (.cons .refl .nil)))))))), .cons rfl (.cons rfl .nil)⟩
      simp only [intRow]
      rw [← hset]
      simp only [Nat.zero_add, Nat.mul_one]
      exact .refl
    rintro ⟨k, ko, kl⟩ ⟨hk, hko, hkl⟩
    simp only at hk hko hkl
    have hkon := hko.len1
    have hmem : (⟨b12, .cells d.cells.toArray 32 (0, 0)⟩ : Blk) ∈ ko.blk 3 ++ (⟨b12, .cells d.cells.toArray 32 (0, 0)⟩ :: intRow b9 P' :: (out.blk 32 ++ back.blk 3)) := by simp
    have hmemP : intRow b9 P' ∈ ko.blk 3 ++ (⟨b12, .cells d.cells.toArray 32 (0, 0)⟩ :: intRow b9 P' :: (out.blk 32 ++ back.blk 3)) := by simp
    have hsl : kl.length ≤ d.kn := by
      rw [hkl, List.length_map]
      exact Nat.le_trans (List.length_take_le _ _) hk
    have hsk : kl.length ≤ k := by
      rw [hkl, List.length_map]
      exact List.length_take_le _ _
    refine LoadOb.mk [.slice d.ka d.kn d.kc] (b12rd 8 1 hmem (by rw [Nd.cells_len]; decide)) ?_
    refine CondOb.mk (fun h2 => ?_) (fun h2 => ?_)
    · have hkk : k < d.kn := by have : (k : Int) < (d.kn : Int) := of_decide_eq_true h2; omega
      have hkk' : k < d.kids.length := by omega
      obtain ⟨ak, hak, hrk⟩ := hd.rs.one hkk hkk'
      have hv := hkv _ (List.getElem_mem hkk')
      have hkP : d.kids[k].toNat < P'.length := by omega
      have hPg : P'.getD d.kids[k].toNat 0 = P'[d.kids[k].toNat] := by simp [List.getD_eq_getElem?_getD, hkP]
      refine LoadOb.mk [.slice d.ka d.kn d.kc] (b12rd 8 1 hmem (by rw [Nd.cells_len]; decide)) ?_
      refine IdxOb.mk ak k hak rfl hkk ?_
      refine LoadOb.mk _ (hrk _) ?_
      refine IdxOb.mk ⟨b9, 0, none⟩ d.kids[k].toNat rfl (by omega) (by omega) ?_
      refine LoadOb.mk _ (intRow_rd hmemP hkP) ?_
      refine AllocOb.mk fun b13 hb13 hbM13 => ?_
      refine OtherOb.append TrydEOK rfl (by simp) (e := 3) rfl rfl rfl ko hko rfl (m := 1) rfl (news := [.int .i64 P'[d.kids[k].toNat]]) (by decide) (blk_rd (b := b13) (cs := [.int .i64 P'[d.kids[k].toNat]]) (k := 0) (n := 1) (T := 3) (.head _) (by simp)) rfl (Mr := ⟨b13, .cells #[.int .i64 P'[d.kids[k].toNat]] 3 (0, 0)⟩ :: (⟨b12, .cells d.cells.toArray 32 (0, 0)⟩ :: intRow b9 P' :: (out.blk 32 ++ back.blk 3))) List.perm_middle.symm (by simp only [maxLen]; omega) (by show (ko.n + 1) * 8 ≤ _; omega) ?_
      intro g2 c2 cur2 r1 r2 r3 r4
      refine ArithOb.mk _ (next_wr (i := k) (by omega)) ?_
      refine ⟨(k + 1, ⟨some g2, ko.n + 1, c2, cur2⟩, kl ++ [P'[d.kids[k].toNat]]), ⟨⟨by simp only; omega, ?_, ?_⟩, by simp only; omega⟩, .sub (.cons_cons _ (.cons _ (.refl _))) .refl, .cons .refl (.cons .refl (.cons .refl (.cons .refl (.cons .refl (.cons .refl (.cons .refl (.cons .refl (.cons .refl .nil)))))))), .cons rfl (.cons rfl .nil)⟩
      · simp only
        rw [List.map_append]
        exact app1_ok hko r1 r2 r3 r4
      · simp only
        rw [List.take_succ_eq_append_getElem hkk', List.map_append, ← hkl, List.map_cons, List.map_nil, hPg]
    have hge : d.kn ≤ k := by have : ¬ (k : Int) < (d.kn : Int) := of_decide_eq_false h2; omega
    rw [List.take_of_length_le (by omega)] at hkl
    have hnd : ∃ nd : Nd, nd = ⟨d.k, d.s0, d.s1, d.s2, d.s3, d.t, d.lo, d.hi, ko.a.map fun g => ⟨g, 0, none⟩, ko.n, ko.c, kl⟩ := ⟨_, rfl⟩
    obtain ⟨nd, hnd⟩ := hnd
    have hndc : splice d.cells (0 + 8) [ko.val] = nd.cells := by rw [hnd]; rfl
    refine StoreOb.addTo (ko.blk 3) (intRow b9 P' :: (out.blk 32 ++ back.blk 3)) d.cells _ rfl rfl rfl nd.cells hndc ?_
    have hmem2 : (⟨b12, .cells nd.cells.toArray 32 (0, 0)⟩ : Blk) ∈ ko.blk 3 ++ (⟨b12, .cells nd.cells.toArray 32 (0, 0)⟩ :: intRow b9 P' :: (out.blk 32 ++ back.blk 3)) := by simp
    refine LoadOb.mk nd.cells (b12rd 0 9 hmem2 (by rw [Nd.cells_len]; decide)) ?_
    refine AllocOb.mk fun b15 hb15 hbM15 => ?_
    have hperm15 : (⟨b15, .cells nd.cells.toArray 32 (0, 0)⟩ :: (ko.blk 3 ++ (⟨b12, .cells nd.cells.toArray 32 (0, 0)⟩ :: intRow b9 P' :: (out.blk 32 ++ back.blk 3)))).Perm (out.blk 32 ++ (⟨b15, .cells nd.cells.toArray 32 (0, 0)⟩ :: (ko.blk 3 ++ (⟨b12, .cells nd.cells.toArray 32 (0, 0)⟩ :: intRow b9 P' :: back.blk 3)))) := by
      simpa using List.perm_append_comm_assoc (⟨b15, .cells nd.cells.toArray 32 (0, 0)⟩ :: (ko.blk 3 ++ [⟨b12, .cells nd.cells.toArray 32 (0, 0)⟩, intRow b9 P'])) (out.blk 32) (back.blk 3)
    refine OtherOb.append TrydEOK rfl (by simp) (e := 32) rfl rfl rfl out hout rfl (m := 1) rfl (news := nd.cells) (by decide) (blk_rd (b := b15) (cs := nd.cells) (k := 0) (n := 9) (T := 32) (.head _) (by rw [Nd.cells_len]; decide)) rfl
      (Mr := ⟨b15, .cells nd.cells.toArray 32 (0, 0)⟩ :: (ko.blk 3 ++ (⟨b12, .cells nd.cells.toArray 32 (0, 0)⟩ :: intRow b9 P' :: back.blk 3))) ?_ (by simp only [maxLen]; omega) (by show (out.n + 1) * 96 ≤ _; omega) ?_
    · exact hperm15
    intro g3 c3 cur3 u1 u2 u3 u4
    refine ArithOb.mk ((bl.length : Int) - 1 - (out.n + 1 : Nat)) (wr_eq (by omega) (by omega)) ?_
    have hklb : ∀ c ∈ kl, 0 ≤ c ∧ c ≤ bl.length := fun c hc => by
      rw [hkl] at hc
      obtain ⟨q, hq, rfl⟩ := List.mem_map.1 hc
      have hq' := hkv q hq
      have hqP : q.toNat < P'.length := by omega
      exact hPb' (P'.getD q.toNat 0) (by simp only [List.getD_eq_getElem?_getD, List.getElem?_eq_getElem hqP, Option.getD_some]; exact List.getElem_mem _)
    intro hfa
    obtain ⟨J', hw, hle, hrs⟩ := OS.give (I := J) (b := 8) (e := 3) hko (by omega) (fun g hg => hfa.d ⟨g, .cells ko.cur.toArray 3 (0, 0)⟩ (by simp [OS.blk, hg])) (intRow b9 P' :: ([⟨g3, .cells cur3.toArray 32 (0, 0)⟩] ++ back.blk 3))
    refine ⟨(out.n + 1, P', ⟨some g3, out.n + 1, c3, cur3⟩, outN ++ [nd], J'), ⟨⟨by simp only; omega, hPl', ?_, by simp [hon], ?_, ?_, fun b o h => hle _ _ (hJ _ _ h), ?_, ?_⟩, by simp only; omega⟩, ?_, .cons .refl (.cons .refl (.cons .refl (.cons .refl (.cons .refl (.cons .refl .nil))))), .cons rfl (.cons rfl .nil)⟩
    · simp only
      rw [List.flatMap_append]
      have : ([nd].flatMap Nd.cells) = nd.cells := by simp
      rw [this]
      exact appk_ok hout (Nd.cells_len _) u1 u2 u3 u4
    · simp only
      rw [List.take_succ_eq_append_getElem hjr, List.foldl_append, hfold, List.foldl_cons, List.foldl_nil, hrev, hmm]
      show (P.set m ((outN.map Nd.ct).length : Int), outN.map Nd.ct ++ [(nodeAt t.ns m).withKids ((nodeAt t.ns m).kids.map fun k => (P.set m ((outN.map Nd.ct).length : Int)).getD k.toNat 0)]) = _
      rw [List.length_map, hon, hP', hna, ← hkl, List.map_append, hnd]
      rfl
    · simp only
      intro x hx
      rcases List.mem_append.1 hx with hx | hx
      · exact (hJok x hx).mono hle
      · simp only [List.mem_singleton] at hx
        rw [hx, hnd]
        refine ⟨hd.k, hd.s0, hd.s1, hd.s2, hd.s3, hd.t, hd.lo, hd.hi, hrs, fun c hc => ?_⟩
        have := hklb c hc
        exact ⟨by omega, by omega⟩
    · simp only [List.length_reverse]
      exact hPb'
    · simp only [List.length_reverse]
      intro x hx
      rcases List.mem_append.1 hx with hx | hx
      · exact hkb x hx
      · simp only [List.mem_singleton] at hx
        rw [hx, hnd]
        exact hklb
    · simp only
      refine .sub (M1 := ⟨g3, .cells cur3.toArray 32 (0, 0)⟩ :: (ko.blk 3 ++ (intRow b9 P' :: back.blk 3))) (.cons_cons _ (.cons _ (List.Sublist.append (.refl _) (.cons _ (.refl _))))) ?_
      refine .perm (M1 := ko.blk 3 ++ (intRow b9 P' :: ([(⟨g3, .cells cur3.toArray 32 (0, 0)⟩ : Blk)] ++ back.blk 3))) ?_ hw
      exact List.perm_middle.symm.trans (List.Perm.append_left _ (List.Perm.swap _ _ _))
  have hge : out.n = bl.length := by
    have : ¬ (0 : Int) ≤ (bl.length : Int) - 1 - (out.n : Int) := of_decide_eq_false h
    omega
  refine ArithOb.mk ((outN.length : Int) - 1) (wr_eq (by simp only [OS.val]; omega) (by omega)) ?_
  intro hfa
  obtain ⟨J', hw, hle, hrs⟩ := OS.give (I := J) (b := 96) (e := 32) hout (by omega) (fun g hg => hfa.d ⟨g, .cells out.cur.toArray 32 (0, 0)⟩ (by simp [OS.blk, hg])) []
  refine ⟨J', [], .sub (M1 := out.blk 32 ++ []) (by rw [List.append_nil]; exact .cons _ (List.sublist_append_left _ _)) hw, fun b o h => hle _ _ (hJ _ _ h), rfl, ⟨outN, out.a.map fun g => ⟨g, 0, none⟩, out.n, out.c, (outN.length : Int) - 1⟩, rfl, ⟨hrs, fun d hd => (hJok d hd).mono hle, ⟨by simp only; omega, by simp only; omega⟩⟩, ?_, rfl, by simp only; omega, fun d hd k hk => by have := hkb d hd k hk; omega⟩
  rw [List.take_of_length_le (by rw [List.length_reverse]; omega)] at hfold
  rw [subC, heq, hfold]
end Go.V

/-
  Walks: bonsairef04.Clean, of any right tree; Of, of any right kids.
-/
set_option linter.unusedVariables false
set_option linter.unusedSimpArgs false
namespace Go.V
open Go Go.Proofs

def cleanC (t : Tr) : List Nd := subC t.ns t.root
/-- How large trees may be, for the walks. -/
structure Fit (t : Tr) (W : Nat) : Prop where
  w : ∀ d ∈ t.ns, d.kn ≤ W
  b : t.n * W ≤ 1152921504606846976
  n : t.n ≤ 1099511627776

theorem RClean_gen {I : GH} {t : Tr} (ht : t.ok I) (hr : right t = true) {W : Nat} (hf : Fit t W) :
    Spec Tryd.prog 53 [t.val] I [] fun v I' M' => (∀ b o, I b = some o → I' b = some o) ∧ M' = [] ∧ ∃ t' : Tr, v = t'.val ∧ t'.ok I' ∧ t'.ns.map Nd.ct = cleanC t ∧ t'.root = (t'.ns.length : Int) - 1 ∧ t'.ns.length ≤ t.n ∧ ∀ d ∈ t'.ns, ∀ k ∈ d.kids, 0 ≤ k ∧ k ≤ t.n := by
  have hroot := right_root hr
  have htn := ht.n
  obtain ⟨r, hr'⟩ := Int.eq_ofNat_of_zero_le hroot.1
  have hspec := RSub_gen ht hr W hf.w hf.b hf.n (node := r) (by omega)
  rw [show ((r : Nat) : Int) = t.root from hr'.symm] at hspec
  refine spec_of_V [] TrydEOK Tryd.func53 rfl rfl rfl ?_
  intro B h0
  refine CallOb.mk [] [] _ (.refl _) hspec ?_
  rintro v I' M' - ⟨hI, rfl, t', rfl, h1, h2, h3, h4, h5⟩
  exact ⟨_, _, .refl, hI, rfl, t', rfl, h1, h2, h3, h4, h5⟩

theorem Rd.mono {I I' : GH} {M : List Blk} {a : Addr} {n : Nat} {vs : List Value} (h : Rd I M a n vs) (hI : ∀ b o, I b = some o → I' b = some o) : Rd I' M a n vs := by
  obtain ⟨h1, cs, T, fr, h2, h3⟩ := h
  exact ⟨h1, cs, T, fr, h2.imp (hI _ _) id, h3⟩
theorem Rd.sub {I : GH} {M M' : List Blk} {a : Addr} {n : Nat} {vs : List Value} (h : Rd I M a n vs) (hM : ∀ x ∈ M, x ∈ M') : Rd I M' a n vs := by
  obtain ⟨h1, cs, T, fr, h2, h3⟩ := h
  refine ⟨h1, cs, T, fr, h2.imp id ?_, h3⟩
  rintro ⟨x, hx, e1, e2⟩
  exact ⟨x, hM x hx, e1, e2⟩
theorem nd_ne {M A C : List Blk} (h : (M.map (·.num)).Nodup) (hM : M.Perm (A ++ C)) {x y : Blk} (hx : x ∈ A) (hy : y ∈ C) : x.num ≠ y.num := by
  have h2 := ((hM.map (·.num)).nodup_iff).1 h
  rw [List.map_append, List.nodup_append] at h2
  exact h2.2.2 _ (List.mem_map.2 ⟨x, hx, rfl⟩) _ (List.mem_map.2 ⟨y, hy, rfl⟩)

def ofStep (st : List Nd × List Int) (l : List Nd) : List Nd × List Int :=
  (st.1 ++ l.map (fun x => x.withKids (x.kids.map fun k => (st.1.length : Int) + k)), st.2 ++ [((st.1.length + l.length : Nat) : Int) - 1])
def ofNds (d : Nd) (ls : List (List Nd)) : List Nd := (ls.foldl ofStep ([], [])).1 ++ [d.withKids (ls.foldl ofStep ([], [])).2]

structure OfInv (I : GH) (L : List Tr) (x : Nat × OS × List Nd × OS × List Int × GH) : Prop where
  i : x.1 ≤ L.length
  out : x.2.1.ok 9 (x.2.2.1.flatMap Nd.cells)
  kd : x.2.2.2.1.ok 1 (x.2.2.2.2.1.map (.int .i64 ·))
  kl : x.2.2.2.2.1.length = x.1
  eq : ((L.take x.1).map cleanC).foldl ofStep ([], []) = (x.2.2.1.map Nd.ct, x.2.2.2.2.1)
  ok : ∀ d ∈ x.2.2.1, d.ok x.2.2.2.2.2
  le : ∀ b o, I b = some o → x.2.2.2.2.2 b = some o
  n : x.2.2.1.length ≤ ((L.take x.1).map (·.n)).sum
  kb : ∀ k ∈ x.2.2.2.2.1, -1 ≤ k ∧ k ≤ ((L.take x.1).map (·.n)).sum

theorem take_sum_le (L : List Tr) (i : Nat) : ((L.take i).map (·.n)).sum ≤ (L.map (·.n)).sum := by
  have h := congrArg (fun l : List Tr => (l.map (·.n)).sum) (List.take_append_drop i L)
  simp only [List.map_append, List.sum_append] at h
  omega
theorem take_sum_succ (L : List Tr) (i : Nat) (hi : i < L.length) : ((L.take (i + 1)).map (·.n)).sum = ((L.take i).map (·.n)).sum + L[i].n := by
  rw [List.take_succ_eq_append_getElem hi, List.map_append, List.sum_append]
  simp

set_option maxRecDepth 100000 in
set_option maxHeartbeats 8000000 in
theorem ROf_gen {I : GH} {M0 : List Blk} {d : Nd} (hd : d.ok I) {L : List Tr} {ka : Option Addr} {cc : Nat} (hrd : ∀ j (h : j < L.length), ∃ ad, ka = some ad ∧ Rd I M0 (ad.add (j * 2)) 2 L[j].cells)
    (hL : ∀ t ∈ L, t.ok I ∧ right t = true) {W : Nat} (hW : ∀ t ∈ L, Fit t W) (hn : (L.map (·.n)).sum ≤ 1099511627776) (hl : L.length ≤ 1099511627776) (hf : fits d L.length = true) :
    Spec Tryd.prog 35 [d.val, .slice ka L.length cc] I M0 fun v I' M' => (∀ b o, I b = some o → I' b = some o) ∧ M' = M0 ∧
      ∃ t' : Tr, v = .tuple #[t'.val, .bool true] ∧ t'.ok I' ∧ t'.root = (t'.ns.length : Int) - 1 ∧ t'.ns.map Nd.ct = ofNds d (L.map cleanC) := by
  refine spec_of_VF [] TrydEOK Tryd.func35 rfl rfl rfl ?_
  intro B h0
  refine CallOb.mk [] M0 _ (.refl _) (RFits_gen hd.k L.length) ?_
  rintro v I' M' - ⟨rfl, rfl, rfl⟩
  refine CondOb.mk (fun h => ?_) (fun _ => ?_)
  · exfalso
    rw [hf] at h
    cases h
  have hd8 : ∀ s : Value, splice d.cells 8 [s] = d.cells.take 8 ++ [s] := fun s => rfl
  refine LoopOb.inv (ι := Nat × OS × List Nd × OS × List Int × GH) (fun x => { fl := [(1, .val (.slice ka L.length cc)), (2, .ref 2 0), (4, .ref 4 0), (6, .val x.2.1.val), (7, .val (.int .i64 x.1))], cl := [(2, d.cells.take 8 ++ [x.2.2.2.1.val]), (4, [.slice none 0 0, .int .i64 0])], gi := x.2.2.2.2.2, mi := x.2.1.blk 32 ++ (x.2.2.2.1.blk 3 ++ M0) })
    (OfInv I' L) (fun x => L.length - x.1) ?_ ?_
  · exact ⟨(0, OS0, [], OS0, [], I'), ⟨Nat.zero_le _, OS0_ok 9, OS0_ok 1, rfl, rfl, (fun d hd => by cases hd), fun _ _ h => h, Nat.zero_le _, (fun k hk => by cases hk)⟩, .refl, .cons .refl (.cons .refl (.cons .refl (.cons .refl (.cons .refl .nil)))), .cons rfl (.cons rfl .nil)⟩
  rintro ⟨i, out, outN, kd, kdL, J⟩ ⟨hi, hout, hkd, hkl, hfold, hok, hJ, hon, hkb⟩
  simp only at hi hout hkd hkl hfold hok hJ hon hkb
  have hts := take_sum_le L i
  have hol : out.n = outN.length := by
    have := hout.len
    rw [flat_len _ 9 Nd.cells_len] at this
    omega
  have hkdl := hkd.len1
  refine CondOb.mk (fun h => ?_) (fun h => ?_)
  · have hlt : i < L.length := by have : (i : Int) < (L.length : Int) := of_decide_eq_true h; omega
    obtain ⟨ad, had, hrdi⟩ := hrd i hlt
    have hrdi : Rd J (out.blk 32 ++ (kd.blk 3 ++ M0)) (ad.add (i * 2)) 2 L[i].cells := (hrdi.mono hJ).sub fun x hx => by simp [hx]
    obtain ⟨htI, hrt⟩ := hL _ (List.getElem_mem hlt)
    have hfit := hW _ (List.getElem_mem hlt)
    have htJ := htI.mono hJ
    have hts2 := take_sum_le L (i + 1)
    rw [take_sum_succ L i hlt] at hts2
    have hTi : (L.take (i + 1)).map cleanC = (L.take i).map cleanC ++ [cleanC L[i]] := by
      rw [List.take_succ_eq_append_getElem hlt, List.map_append]
      rfl
    have hsucc := take_sum_succ L i hlt
    generalize hti : L[i] = t at htI hrt hfit htJ hrdi hts2 hTi hsucc
    refine IdxOb.mk ad i had rfl hlt ?_
    refine LoadOb.mk _ hrdi ?_
    refine CallOb.mk [] _ _ (.refl _) (RRight_gen htJ W hfit.w hfit.b) ?_
    rintro v I3 M3 - ⟨rfl, rfl, rfl⟩
    rw [hrt]
    refine CondOb.mk (fun h => by simp at h) (fun _ => ?_)
    refine IdxOb.mk ad i had rfl hlt ?_
    refine LoadOb.mk _ hrdi ?_
    refine CallOb.mk [] _ _ (.refl _) (RClean_gen htJ hrt hfit) ?_
    rintro v J1 M4 - ⟨hJ1, rfl, t', rfl, htok, htct, htroot, htlen, htkb⟩
    have htn := htok.n
    refine LoopOb.invF (ι := Nat × OS × List Nd × GH) (fun x => { fl := [(1, .val (.slice ka L.length cc)), (2, .ref 2 0), (4, .ref 4 0), (6, .val x.2.1.val), (7, .val (.int .i64 i)), (8, .ref 8 0), (9, .val (.int .i64 (outN.length : Nat))), (10, .val (.int .i64 x.1))], cl := [(2, d.cells.take 8 ++ [kd.val]), (4, [.slice none 0 0, .int .i64 0]), (8, t'.cells)], gi := x.2.2.2, mi := x.2.1.blk 32 ++ (kd.blk 3 ++ M0) })
      (fun x => x.1 ≤ t'.n ∧ x.2.1.ok 9 ((outN ++ x.2.2.1).flatMap Nd.cells) ∧ x.2.2.1.map Nd.ct = (t'.ns.take x.1).map (fun y => y.withKids (y.kids.map fun k => (outN.length : Int) + k)) ∧ (∀ y ∈ x.2.2.1, y.ok x.2.2.2) ∧ ∀ b o, J1 b = some o → x.2.2.2 b = some o) (fun x => t'.n - x.1) ?_ ?_
    · intro _
      refine ⟨(0, out, [], J1), ⟨Nat.zero_le _, by rw [List.append_nil]; exact hout, rfl, (fun y hy => by cases hy), fun _ _ h => h⟩, .refl, .cons .refl (.cons .refl (.cons .refl (.cons .refl (.cons .refl (.cons .refl (.cons ?_ (.cons .refl .nil))))))), .cons rfl (.cons rfl (.cons rfl .nil))⟩
      simp only [← hol]
      exact .refl
    rintro ⟨k, ou, nw, J2⟩ ⟨hk, hou, hnw, hnok, hJ2⟩
    simp only at hk hou hnw hnok hJ2
    have hnl : nw.length = k := by
      have := congrArg List.length hnw
      simpa [htn, Nat.min_eq_left hk] using this
    have houl : ou.n = outN.length + k := by
      have := hou.len
      rw [flat_len _ 9 Nd.cells_len, List.length_append, hnl] at this
      omega
    refine CondOb.mk (fun h2 => ?_) (fun h2 => ?_)
    · have hkt : k < t'.n := by have : (k : Int) < (t'.n : Int) := of_decide_eq_true h2; omega
      have hkt' : k < t'.ns.length := by omega
      obtain ⟨an, han, hrn⟩ := (htok.mono hJ2).rs.row Nd.cells_len hkt hkt'
      have hx := (htok.ns _ (List.getElem_mem hkt')).mono hJ2
      have hxkb := htkb _ (List.getElem_mem hkt')
      have hxn := hx.kn
      have hxc := hx.rs.cap
      have htk : (t'.ns.take (k + 1)) = t'.ns.take k ++ [t'.ns[k]] := List.take_succ_eq_append_getElem hkt'
      generalize hxx : t'.ns[k] = x at hrn hx hxkb hxn hxc htk
      refine IdxOb.mk an k han rfl hkt ?_
      refine LoadOb.mk _ (hrn _) ?_
      refine LoopOb.inv (ι := Nat × OS × List Int) (fun y => { fl := [(1, .val (.slice ka L.length cc)), (2, .ref 2 0), (4, .ref 4 0), (6, .val ou.val), (7, .val (.int .i64 i)), (8, .ref 8 0), (9, .val (.int .i64 (outN.length : Nat))), (10, .val (.int .i64 k)), (11, .ref 11 0), (12, .val y.2.1.val), (13, .val (.int .i64 y.1))], cl := [(2, d.cells.take 8 ++ [kd.val]), (4, [.slice none 0 0, .int .i64 0]), (8, t'.cells), (11, x.cells)], gi := J2, mi := y.2.1.blk 3 ++ (ou.blk 32 ++ (kd.blk 3 ++ M0)) })
        (fun y => y.1 ≤ x.kn ∧ y.2.1.ok 1 (y.2.2.map (.int .i64 ·)) ∧ y.2.2 = (x.kids.take y.1).map fun k => (outN.length : Int) + k) (fun y => x.kn - y.1) ?_ ?_
      · exact ⟨(0, OS0, []), ⟨Nat.zero_le _, OS0_ok 1, rfl⟩, .refl, .cons .refl (.cons .refl (.cons .refl (.cons .refl (.cons .refl (.cons .refl (.cons .refl (.cons .refl (.cons .refl (.cons .refl (.cons .refl .nil)))))))))), .cons rfl (.cons rfl (.cons rfl (.cons rfl .nil)))⟩
      rintro ⟨j, ow, ol⟩ ⟨hj, how, hol2⟩
      simp only at hj how hol2
      have howl := how.len1
      have hjl : ol.length ≤ j := by
        rw [hol2, List.length_map]
        exact List.length_take_le _ _
      refine CondOb.mk (fun h3 => ?_) (fun h3 => ?_)
      · have hjx : j < x.kn := by have : (j : Int) < (x.kn : Int) := of_decide_eq_true h3; omega
        have hjx' : j < x.kids.length := by omega
        obtain ⟨ak, hak, hrk⟩ := hx.rs.one hjx hjx'
        have hkv := hxkb _ (List.getElem_mem hjx')
        refine IdxOb.mk ak j hak rfl hjx ?_
        refine LoadOb.mk _ (hrk _) ?_
        refine ArithOb.mk ((outN.length : Int) + x.kids[j]) (wr_eq rfl (by have := hfit.n; omega)) ?_
        refine AllocOb.mk fun b13 hb13 hbM13 => ?_
        refine OtherOb.append TrydEOK rfl (by simp) (e := 3) rfl rfl rfl ow how rfl (m := 1) rfl (news := [.int .i64 ((outN.length : Int) + x.kids[j])]) (by decide) (blk_rd (b := b13) (cs := [.int .i64 ((outN.length : Int) + x.kids[j])]) (k := 0) (n := 1) (T := 3) (.head _) (by simp)) rfl (Mr := ⟨b13, .cells #[.int .i64 ((outN.length : Int) + x.kids[j])] 3 (0, 0)⟩ :: (ou.blk 32 ++ (kd.blk 3 ++ M0))) List.perm_middle.symm (by simp only [maxLen]; omega) (by show (ow.n + 1) * 8 ≤ _; omega) ?_
        intro g2 c2 cur2 r1 r2 r3 r4
        refine ArithOb.mk _ (next_wr (i := j) (by omega)) ?_
        refine ⟨(j + 1, ⟨some g2, ow.n + 1, c2, cur2⟩, ol ++ [(outN.length : Int) + x.kids[j]]), ⟨⟨by simp only; omega, ?_, ?_⟩, by simp only; omega⟩, .sub (.cons_cons _ (.cons _ (.refl _))) .refl, .cons .refl (.cons .refl (.cons .refl (.cons .refl (.cons .refl (.cons .refl (.cons .refl (.cons .refl (.cons .refl (.cons .refl (.cons .refl .nil)))))))))), .cons rfl (.cons rfl (.cons rfl (.cons rfl .nil)))⟩
        · simp only
          rw [List.map_append]
          exact app1_ok how r1 r2 r3 r4
        · simp only
          rw [List.take_succ_eq_append_getElem hjx', List.map_append, ← hol2]
          rfl
      have hge : x.kn ≤ j := by have : ¬ (j : Int) < (x.kn : Int) := of_decide_eq_false h3; omega
      rw [List.take_of_length_le (by omega)] at hol2
      obtain ⟨nd, hnd⟩ : ∃ nd : Nd, nd = ⟨x.k, x.s0, x.s1, x.s2, x.s3, x.t, x.lo, x.hi, ow.a.map fun g => ⟨g, 0, none⟩, ow.n, ow.c, ol⟩ := ⟨_, rfl⟩
      have hndc : nd.cells = [.int .u8 x.k, .int .u64 x.s0, .int .u64 x.s1, .int .u64 x.s2, .int .u64 x.s3, .string x.t, .int .i64 x.lo, .int .i64 x.hi, ow.val] := by rw [hnd]; rfl
      refine AllocOb.mk fun b20 hb20 hbM20 => ?_
      refine OtherOb.append TrydEOK rfl (by simp) (e := 32) rfl rfl rfl ou hou rfl (m := 1) rfl (news := nd.cells) (by decide) (by rw [hndc]; exact blk_rd (b := b20) (cs := [.int .u8 x.k, .int .u64 x.s0, .int .u64 x.s1, .int .u64 x.s2, .int .u64 x.s3, .string x.t, .int .i64 x.lo, .int .i64 x.hi, ow.val]) (k := 0) (n := 9) (T := 32) (.head _) (Nat.le_of_ble_eq_true rfl)) (by rw [hndc]; rfl)
        (Mr := ⟨b20, .cells [.int .u8 x.k, .int .u64 x.s0, .int .u64 x.s1, .int .u64 x.s2, .int .u64 x.s3, .string x.t, .int .i64 x.lo, .int .i64 x.hi, ow.val].toArray 32 (0, 0)⟩ :: (ow.blk 3 ++ (kd.blk 3 ++ M0))) ?_ (by simp only [maxLen]; omega) (by show (ou.n + 1) * 96 ≤ _; omega) ?_
      · have := List.perm_append_comm_assoc ((⟨b20, .cells [.int .u8 x.k, .int .u64 x.s0, .int .u64 x.s1, .int .u64 x.s2, .int .u64 x.s3, .string x.t, .int .i64 x.lo, .int .i64 x.hi, ow.val].toArray 32 (0, 0)⟩ : Blk) :: ow.blk 3) (ou.blk 32) (kd.blk 3 ++ M0)
        exact this
      intro g3 c3 cur3 u1 u2 u3 u4
      refine ArithOb.mk _ (next_wr (i := k) (by omega)) ?_
      intro hfa
      have hM : ∀ g, ow.a = some g → (⟨g, .cells ow.cur.toArray 3 (0, 0)⟩ : Blk) ∈ ow.blk 3 := fun g hg => by simp [OS.blk, hg]
      obtain ⟨J3, hw, hle, hrs, -⟩ := OS.giveF (I := J2) (foot := M0.map (·.num)) (b := 8) (e := 3) how (by omega) (fun g hg => ⟨hfa.d ⟨g, .cells ow.cur.toArray 3 (0, 0)⟩ (by simp [hM g hg]), fun hm => by
        obtain ⟨y, hy, e⟩ := List.mem_map.1 hm
        refine nd_ne hfa.nd (A := ⟨g3, .cells cur3.toArray 32 (0, 0)⟩ :: ⟨b20, .cells [.int .u8 x.k, .int .u64 x.s0, .int .u64 x.s1, .int .u64 x.s2, .int .u64 x.s3, .string x.t, .int .i64 x.lo, .int .i64 x.hi, ow.val].toArray 32 (0, 0)⟩ :: (ow.blk 3 ++ kd.blk 3)) (C := M0) (by simp) (x := ⟨g, .cells ow.cur.toArray 3 (0, 0)⟩) (by simp [hM g hg]) hy e.symm⟩) ([(⟨g3, .cells cur3.toArray 32 (0, 0)⟩ : Blk)] ++ (kd.blk 3 ++ M0))
      refine ⟨(k + 1, ⟨some g3, ou.n + 1, c3, cur3⟩, nw ++ [nd], J3), ⟨⟨by simp only; omega, ?_, ?_, ?_, fun b o h => hle _ _ (hJ2 _ _ h)⟩, by simp only; omega⟩, ?_, .cons .refl (.cons .refl (.cons .refl (.cons .refl (.cons .refl (.cons .refl (.cons .refl (.cons .refl .nil))))))), .cons rfl (.cons rfl (.cons rfl .nil))⟩
      · simp only
        rw [← List.append_assoc, List.flatMap_append]
        have : ([nd].flatMap Nd.cells) = nd.cells := by simp
        rw [this]
        exact appk_ok hou (Nd.cells_len _) u1 u2 u3 u4
      · simp only
        rw [htk, List.map_append, List.map_append, ← hnw, List.map_cons, List.map_nil, hnd, hol2]
        rfl
      · simp only
        intro y hy
        rcases List.mem_append.1 hy with hy | hy
        · exact (hnok y hy).mono hle
        · simp only [List.mem_singleton] at hy
          rw [hy, hnd]
          refine ⟨hx.k, hx.s0, hx.s1, hx.s2, hx.s3, hx.t, hx.lo, hx.hi, hrs, fun c hc => ?_⟩
          simp only at hc
          rw [hol2] at hc
          obtain ⟨q, hq, rfl⟩ := List.mem_map.1 hc
          have := hxkb q hq
          have := hfit.n
          exact ⟨by omega, by omega⟩
      · simp only
        refine .sub (M1 := (⟨g3, .cells cur3.toArray 32 (0, 0)⟩ : Blk) :: (ow.blk 3 ++ (kd.blk 3 ++ M0))) (.cons_cons _ (.cons _ (.refl _))) ?_
        exact .perm (M1 := ow.blk 3 ++ ([(⟨g3, .cells cur3.toArray 32 (0, 0)⟩ : Blk)] ++ (kd.blk 3 ++ M0))) List.perm_middle.symm (hw _ _ .refl)
    have hge : k = t'.n := by have : ¬ (k : Int) < (t'.n : Int) := of_decide_eq_false h2; omega
    rw [List.take_of_length_le (by omega)] at hnw
    subst hge
    refine ArithOb.mk ((outN.length + t'.n : Nat) - 1 : Int) (wr_eq (by simp only [OS.val]; omega) (by omega)) ?_
    refine AllocOb.mk fun b21 hb21 hbM21 => ?_
    refine OtherOb.append TrydEOK rfl (by simp) (e := 3) rfl rfl rfl kd hkd rfl (m := 1) rfl (news := [.int .i64 ((outN.length + t'.n : Nat) - 1 : Int)]) (by decide) (blk_rd (b := b21) (cs := [.int .i64 ((outN.length + t'.n : Nat) - 1 : Int)]) (k := 0) (n := 1) (T := 3) (.head _) (by simp)) rfl (Mr := ⟨b21, .cells #[.int .i64 ((outN.length + t'.n : Nat) - 1 : Int)] 3 (0, 0)⟩ :: (ou.blk 32 ++ M0)) ?_ (by simp only [maxLen]; omega) (by show (kd.n + 1) * 8 ≤ _; omega) ?_
    · have := List.perm_append_comm_assoc ((⟨b21, .cells #[.int .i64 ((outN.length + t'.n : Nat) - 1 : Int)] 3 (0, 0)⟩ : Blk) :: ou.blk 32) (kd.blk 3) M0
      exact this
    intro g2 c2 cur2 r1 r2 r3 r4
    refine ArithOb.mk _ (next_wr (i := i) (by omega)) ?_
    refine ⟨(i + 1, ou, outN ++ nw, ⟨some g2, kd.n + 1, c2, cur2⟩, kdL ++ [((outN.length + t'.n : Nat) - 1 : Int)], J2), ⟨⟨by simp only; omega, hou, ?_, by simp [hkl], ?_, ?_, fun b o h => hJ2 _ _ (hJ1 _ _ (hJ _ _ h)), ?_, ?_⟩, by simp only; omega⟩, ?_, .cons .refl (.cons .refl (.cons .refl (.cons .refl (.cons .refl .nil)))), .cons rfl (.cons rfl .nil)⟩
    · simp only
      rw [List.map_append]
      exact app1_ok hkd r1 r2 r3 r4
    · simp only
      rw [hTi, List.foldl_append, hfold, List.foldl_cons, List.foldl_nil, ofStep, ← htct, List.map_append, hnw]
      simp only [List.length_map, List.map_map, htn]
      rfl
    · simp only
      intro y hy
      rcases List.mem_append.1 hy with hy | hy
      · exact (hok y hy).mono fun b o h => hJ2 _ _ (hJ1 _ _ h)
      · exact hnok y hy
    · simp only [List.length_append]
      omega
    · simp only
      intro q hq
      rcases List.mem_append.1 hq with hq | hq
      · have := hkb q hq
        omega
      · simp only [List.mem_singleton] at hq
        omega
    · simp only
      refine .sub (M1 := (⟨g2, .cells cur2.toArray 3 (0, 0)⟩ : Blk) :: (ou.blk 32 ++ M0)) (.cons_cons _ (.cons _ (.refl _))) ?_
      exact .perm (M1 := ou.blk 32 ++ ([(⟨g2, .cells cur2.toArray 3 (0, 0)⟩ : Blk)] ++ M0)) List.perm_middle.symm .refl
  have hge : i = L.length := by have : ¬ (i : Int) < (L.length : Int) := of_decide_eq_false h; omega
  rw [List.take_of_length_le (by omega)] at hfold hon hkb hts
  obtain ⟨nd, hnd⟩ : ∃ nd : Nd, nd = ⟨d.k, d.s0, d.s1, d.s2, d.s3, d.t, d.lo, d.hi, kd.a.map fun g => ⟨g, 0, none⟩, kd.n, kd.c, kdL⟩ := ⟨_, rfl⟩
  have hndc : nd.cells = [.int .u8 d.k, .int .u64 d.s0, .int .u64 d.s1, .int .u64 d.s2, .int .u64 d.s3, .string d.t, .int .i64 d.lo, .int .i64 d.hi, kd.val] := by rw [hnd]; rfl
  refine AllocOb.mk fun b20 hb20 hbM20 => ?_
  refine OtherOb.append TrydEOK rfl (by simp) (e := 32) rfl rfl rfl out hout rfl (m := 1) rfl (news := nd.cells) (by decide) (by rw [hndc]; exact blk_rd (b := b20) (cs := [.int .u8 d.k, .int .u64 d.s0, .int .u64 d.s1, .int .u64 d.s2, .int .u64 d.s3, .string d.t, .int .i64 d.lo, .int .i64 d.hi, kd.val]) (k := 0) (n := 9) (T := 32) (.head _) (Nat.le_of_ble_eq_true rfl)) (by rw [hndc]; rfl)
    (Mr := ⟨b20, .cells [.int .u8 d.k, .int .u64 d.s0, .int .u64 d.s1, .int .u64 d.s2, .int .u64 d.s3, .string d.t, .int .i64 d.lo, .int .i64 d.hi, kd.val].toArray 32 (0, 0)⟩ :: (kd.blk 3 ++ M0)) List.perm_middle.symm (by simp only [maxLen]; omega) (by show (out.n + 1) * 96 ≤ _; omega) ?_
  intro g3 c3 cur3 u1 u2 u3 u4
  have hok1 := appk_ok (g := g3) hout (Nd.cells_len nd) u1 u2 u3 u4
  refine ArithOb.mk ((outN.length : Nat) : Int) (wr_eq (by omega) (by omega)) ?_
  intro hfa
  have hM : ∀ g, kd.a = some g → (⟨g, .cells kd.cur.toArray 3 (0, 0)⟩ : Blk) ∈ kd.blk 3 := fun g hg => by simp [OS.blk, hg]
  have hg3 : ∀ g, kd.a = some g → g ≠ g3 := fun g hg e =>
    nd_ne hfa.nd (A := [⟨g3, .cells cur3.toArray 32 (0, 0)⟩]) (C := ⟨b20, .cells [.int .u8 d.k, .int .u64 d.s0, .int .u64 d.s1, .int .u64 d.s2, .int .u64 d.s3, .string d.t, .int .i64 d.lo, .int .i64 d.hi, kd.val].toArray 32 (0, 0)⟩ :: (kd.blk 3 ++ M0)) (.refl _) (x := ⟨g3, .cells cur3.toArray 32 (0, 0)⟩) (by simp) (y := ⟨g, .cells kd.cur.toArray 3 (0, 0)⟩) (by simp [hM g hg]) e.symm
  obtain ⟨J5, w1, w2, w3, w4⟩ := OS.giveF (I := J) (foot := M0.map (·.num)) (b := 8) (e := 3) hkd (by omega) (fun g hg => ⟨hfa.d ⟨g, .cells kd.cur.toArray 3 (0, 0)⟩ (by simp [hM g hg]), fun hm => by
    obtain ⟨y, hy, e⟩ := List.mem_map.1 hm
    refine nd_ne hfa.nd (A := ⟨g3, .cells cur3.toArray 32 (0, 0)⟩ :: ⟨b20, .cells [.int .u8 d.k, .int .u64 d.s0, .int .u64 d.s1, .int .u64 d.s2, .int .u64 d.s3, .string d.t, .int .i64 d.lo, .int .i64 d.hi, kd.val].toArray 32 (0, 0)⟩ :: kd.blk 3) (C := M0) (.refl _) (x := ⟨g, .cells kd.cur.toArray 3 (0, 0)⟩) (by simp [hM g hg]) hy e.symm⟩) ([(⟨g3, .cells cur3.toArray 32 (0, 0)⟩ : Blk)] ++ M0)
  have hg3I : J5 g3 = none := by
    rw [w4 g3 (fun hg => hg3 g3 hg rfl)]
    exact hfa.d ⟨g3, .cells cur3.toArray 32 (0, 0)⟩ (.head _)
  obtain ⟨J6, x1, x2, x3, x4⟩ := OS.giveF (I := J5) (foot := M0.map (·.num)) (b := 96) (e := 32) hok1 (by show (out.n + 1) * 96 ≤ _; omega) (fun g hg => by
    cases hg
    refine ⟨hg3I, fun hm => ?_⟩
    obtain ⟨y, hy, e⟩ := List.mem_map.1 hm
    exact nd_ne hfa.nd (A := [⟨g3, .cells cur3.toArray 32 (0, 0)⟩]) (C := ⟨b20, .cells [.int .u8 d.k, .int .u64 d.s0, .int .u64 d.s1, .int .u64 d.s2, .int .u64 d.s3, .string d.t, .int .i64 d.lo, .int .i64 d.hi, kd.val].toArray 32 (0, 0)⟩ :: (kd.blk 3 ++ M0)) (.refl _) (x := ⟨g3, .cells cur3.toArray 32 (0, 0)⟩) (by simp) (by simp [hy]) e.symm) M0
  refine ⟨J6, M0, .sub (M1 := (⟨g3, .cells cur3.toArray 32 (0, 0)⟩ : Blk) :: (kd.blk 3 ++ M0)) (.cons_cons _ (.cons _ (.refl _))) (.perm (M1 := kd.blk 3 ++ ([(⟨g3, .cells cur3.toArray 32 (0, 0)⟩ : Blk)] ++ M0)) List.perm_middle.symm (w1 _ _ (x1 _ _ .refl))),
    fun b o h => x2 _ _ (w2 _ _ (hJ _ _ h)), rfl, ⟨outN ++ [nd], some ⟨g3, 0, none⟩, out.n + 1, c3, (outN.length : Nat)⟩, rfl, ⟨?_, fun y hy => ?_, ⟨by simp only; omega, by simp only; omega⟩⟩, by simp, ?_⟩
  · have : ((outN ++ [nd]).flatMap Nd.cells) = outN.flatMap Nd.cells ++ nd.cells := by simp
    rw [this]
    exact x3
  · rcases List.mem_append.1 hy with hy | hy
    · exact (hok y hy).mono fun b o h => x2 _ _ (w2 _ _ h)
    · simp only [List.mem_singleton] at hy
      rw [hy, hnd]
      refine ⟨hd.k, hd.s0, hd.s1, hd.s2, hd.s3, hd.t, hd.lo, hd.hi, w3.mono x2, fun c hc => ?_⟩
      have := hkb c hc
      exact ⟨by omega, by omega⟩
  · simp only
    rw [ofNds, hfold, List.map_append, hnd]
    rfl
end Go.V

/-
  Maps that are read alone; flow.places.
-/
set_option linter.unusedVariables false
set_option linter.unusedSimpArgs false
namespace Go.V
open Go Go.Proofs

section
variable {X : Ctx} {β : Nat → Nat} {a : Act} {w : World} {F : Fr} {C : Bx} {I : GH} {M : List Blk} {o : Oper} {Q : Exit → Act → World → Prop} {K : KS}
theorem lookup_runs (hE : EOK X.P X.E) {t : Nat} {ti tk : TI} {k e : Nat} (ht : X.E t = some ti) (hts : ti.sh = .map k e) (hk : X.E k = some tk) (hks : tk.sh = .string)
    (hz : ∀ w, (zeroValue e).run X.P w = .ok (.int .i64 0) w) {g : Nat} {l : List (ByteArray × Int)} {s : ByteArray} (hg : w.heap[g]? = some (mapO l)) (ok : Bool) :
    (Instr.lookup t (.map (some g)) (.string s) ok).run X.P w = .ok (bif ok then .tuple #[.int .i64 ((lookM s l).getD 0), .bool (lookM s l).isSome] else .int .i64 ((lookM s l).getD 0)) w := by
  obtain ⟨d, hud, hdd⟩ := (hE _ _ ht).und
  have h1 : d = .map k e := by rw [hts] at hdd; cases d <;> simp_all [shOf]
  subst h1
  obtain ⟨dk, huk, hdk⟩ := (hE _ _ hk).und
  have h2 : dk = .string := by rw [hks] at hdk; cases dk <;> simp_all [shOf]
  subst h2
  have hg : w.heap[g]? = some (.map (ents l 0).toArray l.length) := hg
  obtain ⟨r, hf1, hf2⟩ := findNow_ents s l 0 0
  have hc : (Instr.checkKey (ents l 0).toArray.isEmpty 10000 k (.string s)).run X.P w = .ok () w := MapKept.run_checkKey (k := .string s) huk (by simp [MapKept.IsKey]) _ 9999
  have hfk : (Instr.findKey k (.string s) (ents l 0)).run X.P w = .ok r w := MapKept.run_findKey huk hf1
  unfold Instr.lookup
  simp only [Sem.run_bind, run_underlying hud, Result.andThen_ok, MapKept.run_getObj_map hg, Sem.run_pure, hc, hfk]
  cases r with
  | none =>
    cases hl : lookM s l with
    | none => cases ok <;> simp [hz]
    | some v => rw [hl] at hf2; simp at hf2
  | some p =>
    cases hl : lookM s l with
    | none => rw [hl] at hf2; simp at hf2
    | some v =>
      rw [hl] at hf2
      simp only [Option.map_some, Option.some.injEq] at hf2
      cases ok <;> simp [hf2]
theorem OtherOb.lookupT (hE : EOK X.P X.E) {t : Nat} {x y : Operand} (ho : o.op = .lookup t x y true) (hd : ∀ d, o.dst = some d → d < X.n) {ti tk : TI} {k e : Nat} (ht : X.E t = some ti) (hts : ti.sh = .map k e) (hk : X.E k = some tk) (hks : tk.sh = .string)
    (hz : ∀ w, (zeroValue e).run X.P w = .ok (.int .i64 0) w) {g : Nat} {l : List (ByteArray × Int)} {s : ByteArray} (hx : ev F x = .val (.map (some g))) (hy : ev F y = .val (.string s)) (hM : Kn I M g (mapO l))
    (h : K (put o.dst (.val (.tuple #[.int .i64 ((lookM s l).getD 0), .bool (lookM s l).isSome])) F) C I M) : OtherOb X o F C I M K := by
  refine ⟨fun a w Q ⟨β, hR⟩ => ?_⟩
  have hrun := lookup_runs hE ht hts hk hks hz (hM.heap hR.holds) (s := s) true
  have ex := eval_of_ev hR.fr hx
  have ey := eval_of_ev hR.fr hy
  refine done_vv hR hd (by rw [ho]; simp) ?_ h
  unfold execOp
  simp only [ho, ex, ey, Sem.run_bind, hrun, Result.andThen_ok, Sem.run_pure, cond_true]
theorem OtherOb.lookupF (hE : EOK X.P X.E) {t : Nat} {x y : Operand} (ho : o.op = .lookup t x y false) (hd : ∀ d, o.dst = some d → d < X.n) {ti tk : TI} {k e : Nat} (ht : X.E t = some ti) (hts : ti.sh = .map k e) (hk : X.E k = some tk) (hks : tk.sh = .string)
    (hz : ∀ w, (zeroValue e).run X.P w = .ok (.int .i64 0) w) {g : Nat} {l : List (ByteArray × Int)} {s : ByteArray} (hx : ev F x = .val (.map (some g))) (hy : ev F y = .val (.string s)) (hM : Kn I M g (mapO l))
    (h : K (put o.dst (.val (.int .i64 ((lookM s l).getD 0))) F) C I M) : OtherOb X o F C I M K := by
  refine ⟨fun a w Q ⟨β, hR⟩ => ?_⟩
  have hrun := lookup_runs hE ht hts hk hks hz (hM.heap hR.holds) (s := s) false
  have ex := eval_of_ev hR.fr hx
  have ey := eval_of_ev hR.fr hy
  refine done_vv hR hd (by rw [ho]; simp) ?_ h
  unfold execOp
  simp only [ho, ex, ey, Sem.run_bind, hrun, Result.andThen_ok, Sem.run_pure, cond_false]
end

/-- The place of the first rule of each name. -/
def placesGo : List (ByteArray × Int) → Nat → List Df → List (ByteArray × Int)
  | acc, _, [] => acc
  | acc, i, d :: ds => placesGo (bif (lookM d.name acc).isSome then acc else acc ++ [(d.name, (i : Int))]) (i + 1) ds
def placesL (ds : List Df) : List (ByteArray × Int) := placesGo [] 0 ds

set_option maxHeartbeats 1000000 in
theorem places_spec {I : GH} {g : Gr} (hg : g.ok I) : Spec Tryd.prog 48 [g.val] I [] fun v I' M' => (∀ b o, I b = some o → I' b = some o) ∧ M' = [] ∧ ∃ gm, v = .map (some gm) ∧ I' gm = some (mapO (placesL g.ds)) := by
  refine spec_of_VF [] TrydEOK Tryd.func48 rfl rfl rfl ?_
  intro B h0
  have hgn := hg.n
  have hcap := hg.rs.cap
  refine OtherOb.makeMap TrydEOK rfl (by simp) rfl rfl rfl fun bm => ?_
  refine LoopOb.inv (ι := Nat × List (ByteArray × Int)) (fun x => { fl := [(1, .ref 1 0), (3, .val (.map (some bm))), (13, .val (.slice g.a g.n g.c)), (14, .val (.int .i64 g.n)), (15, .val (.int .i64 x.1))], cl := [(1, [.slice g.a g.n g.c])], gi := I, mi := [⟨bm, mapO x.2⟩] })
    (fun x => x.1 ≤ g.n ∧ placesL g.ds = placesGo x.2 x.1 (g.ds.drop x.1)) (fun x => g.n - x.1) ?_ ?_
  · exact ⟨(0, []), ⟨Nat.zero_le _, rfl⟩, .refl, .cons .refl (.cons .refl (.cons .refl (.cons .refl (.cons .refl .nil)))), .cons rfl .nil⟩
  rintro ⟨i, acc⟩ ⟨hi, hp⟩
  simp only at hi hp
  refine CondOb.mk (fun h => ?_) (fun h => ?_)
  · have hlt : i < g.n := by have : (i : Int) < (g.n : Int) := of_decide_eq_true h; omega
    have hlt' : i < g.ds.length := by omega
    obtain ⟨ad, had, hrd⟩ := hg.rs.row Df.cells_len hlt hlt'
    rw [List.drop_eq_getElem_cons hlt', placesGo] at hp
    refine IdxOb.mk ad i had rfl hlt ?_
    refine LoadOb.mk _ (hrd _) ?_
    refine OtherOb.lookupT TrydEOK rfl (by simp) rfl rfl rfl rfl (fun w => zero_int w) (l := acc) (g := bm) rfl rfl (.inr ⟨_, .head _, rfl, rfl⟩) ?_
    refine CondOb.mk (fun h3 => ?_) (fun h3 => ?_)
    · have hn : (lookM g.ds[i].name acc).isSome = false := by simpa using h3
      have hl : lookM g.ds[i].name acc = none := by simpa using hn
      rw [hn, cond_false] at hp
      refine OtherOb.mapNew TrydEOK rfl rfl rfl rfl rfl rfl rfl rfl rfl hl (Mr := []) (.refl _) ?_
      refine ArithOb.mk _ (next_wr (i := i) (by omega)) ?_
      exact ⟨(i + 1, _), ⟨⟨by simp only; omega, hp⟩, by simp only; omega⟩, .refl, .cons .refl (.cons .refl (.cons .refl (.cons .refl (.cons .refl .nil)))), .cons rfl .nil⟩
    · have hn : (lookM g.ds[i].name acc).isSome = true := by simpa using h3
      rw [hn, cond_true] at hp
      refine ArithOb.mk _ (next_wr (i := i) (by omega)) ?_
      exact ⟨(i + 1, _), ⟨⟨by simp only; omega, hp⟩, by simp only; omega⟩, .refl, .cons .refl (.cons .refl (.cons .refl (.cons .refl (.cons .refl .nil)))), .cons rfl .nil⟩
  have hge : g.n ≤ i := by have : ¬ (i : Int) < (g.n : Int) := of_decide_eq_false h; omega
  rw [List.drop_eq_nil_of_le (by omega), placesGo] at hp
  intro hfa
  have hb := hfa.d ⟨bm, mapO acc⟩ (.head _)
  exact ⟨_, _, .prom rfl (by simp) .refl, ins_le hb, rfl, bm, rfl, by rw [hp]; exact ins_self ..⟩
end Go.V
