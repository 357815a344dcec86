/-
  Data in memory, as the walks of this seat read them: slices of numbers, nodes, trees, rules, grammars, in blocks that nothing changes.
-/
import Derived.Test.YtcccmnppfmfkiaaDoorVu
set_option linter.unusedVariables false
set_option linter.unusedSimpArgs false
namespace Go.V
open Go

/-- A slice in memory that nothing changes: its cells. -/
structure RS (I : GH) (a : Option Addr) (n c size b : Nat) (vs : List Value) : Prop where
  len : vs.length = n * size
  cap : n ≤ c ∧ n * b ≤ 140737488355328
  rd : n = 0 ∨ ∃ ad, a = some ad ∧ ad.spot = none ∧ ∃ cs T fr, I ad.block = some (.cells cs T fr) ∧ (cs.toList.drop ad.off).take (n * size) = vs

theorem RS.mono {I I' : GH} {a : Option Addr} {n c size b : Nat} {vs : List Value} (h : RS I a n c size b vs) (hI : ∀ b o, I b = some o → I' b = some o) : RS I' a n c size b vs :=
  ⟨h.len, h.cap, h.rd.imp id fun ⟨ad, h1, h2, cs, T, fr, h3, h4⟩ => ⟨ad, h1, h2, cs, T, fr, hI _ _ h3, h4⟩⟩

theorem RS.idx {I : GH} {a : Option Addr} {n c size b : Nat} {vs : List Value} (h : RS I a n c size b vs) {j : Nat} (hj : j < n) :
    ∃ ad, a = some ad ∧ ∀ M, Rd I M (ad.add (j * size)) size ((vs.drop (j * size)).take size) := by
  obtain ⟨hl, _, h0 | ⟨ad, ha, hs, cs, T, fr, hI, hv⟩⟩ := h
  · omega
  · refine ⟨ad, ha, fun M => ?_⟩
    have hle : j * size + size ≤ n * size := by
      have := Nat.mul_le_mul_right size (show j + 1 ≤ n from hj)
      rw [Nat.add_mul, Nat.one_mul] at this
      exact this
    refine ⟨by rw [addr_add _ hs], cs, T, fr, .inl (by rw [addr_add _ hs]; exact hI), ?_, ?_⟩
    · rw [addr_add _ hs, ← hv, List.drop_take, List.drop_drop, List.take_take]
      congr 1
      omega
    · rw [List.length_take, List.length_drop, hl]
      omega

theorem RS.one {I : GH} {a : Option Addr} {n c b : Nat} {α : Type} {f : α → Value} {l : List α} (h : RS I a n c 1 b (l.map f)) {j : Nat} (hj : j < n) (hj' : j < l.length) :
    ∃ ad, a = some ad ∧ ∀ M, Rd I M (ad.add (j * 1)) 1 [f l[j]] := by
  obtain ⟨ad, h1, h2⟩ := h.idx hj
  refine ⟨ad, h1, fun M => ?_⟩
  have := h2 M
  rw [Nat.mul_one, ← List.map_drop, ← List.map_take, List.drop_eq_getElem_cons hj', List.take_succ_cons, List.take_zero] at this
  rw [Nat.mul_one]
  exact this

/-- Rows of several cells each. -/
theorem flat_at {α : Type} (f : α → List Value) (size : Nat) (hf : ∀ x, (f x).length = size) : ∀ (l : List α) (j : Nat) (hj : j < l.length), ((l.flatMap f).drop (j * size)).take size = f l[j]
  | x :: l, 0, _ => by
    simp only [List.flatMap_cons, Nat.zero_mul, List.drop_zero, List.getElem_cons_zero]
    rw [← hf x]
    exact List.take_left
  | x :: l, j + 1, hj => by
    have ih := flat_at f size hf l j (by simpa using hj)
    simp only [List.flatMap_cons, List.getElem_cons_succ]
    rw [← ih, show (j + 1) * size = (f x).length + j * size from by rw [hf, Nat.add_mul]; omega, List.drop_length_add_append]
theorem flat_len {α : Type} (f : α → List Value) (size : Nat) (hf : ∀ x, (f x).length = size) : ∀ (l : List α), (l.flatMap f).length = l.length * size
  | [] => by simp
  | x :: l => by simp [flat_len f size hf l, hf x, Nat.add_mul]; omega

theorem RS.row {I : GH} {a : Option Addr} {n c size b : Nat} {α : Type} {f : α → List Value} (hf : ∀ x, (f x).length = size) {l : List α} (h : RS I a n c size b (l.flatMap f)) {j : Nat} (hj : j < n) (hj' : j < l.length) :
    ∃ ad, a = some ad ∧ ∀ M, Rd I M (ad.add (j * size)) size (f l[j]) := by
  obtain ⟨ad, h1, h2⟩ := h.idx hj
  refine ⟨ad, h1, fun M => ?_⟩
  have := h2 M
  rwa [flat_at f size hf l j hj'] at this

/-- A part of a row. -/
theorem Rd.part {I : GH} {M : List Blk} {a : Addr} {n k m : Nat} {vs : List Value} (h : Rd I M a n vs) (hk : k + m ≤ n) : Rd I M (a.add k) m ((vs.drop k).take m) := by
  obtain ⟨hs, cs, T, fr, h1, h2, h3⟩ := h
  refine ⟨by rw [addr_add _ hs], cs, T, fr, by rw [addr_add _ hs]; exact h1, ?_, ?_⟩
  · rw [addr_add _ hs, ← h2, List.drop_take, List.drop_drop, List.take_take]
    congr 1
    omega
  · rw [List.length_take, List.length_drop, h3]
    omega

/-! ### Nodes, trees, rules, grammars -/
/-- A node: what it says, and where its children's slice lies. -/
structure Nd where
  k : Int
  s0 : Int
  s1 : Int
  s2 : Int
  s3 : Int
  t : ByteArray
  lo : Int
  hi : Int
  ka : Option Addr
  kn : Nat
  kc : Nat
  kids : List Int
def Nd.cells (d : Nd) : List Value := [.int .u8 d.k, .int .u64 d.s0, .int .u64 d.s1, .int .u64 d.s2, .int .u64 d.s3, .string d.t, .int .i64 d.lo, .int .i64 d.hi, .slice d.ka d.kn d.kc]
def Nd.val (d : Nd) : Value := .agg #[.int .u8 d.k, .int .u64 d.s0, .int .u64 d.s1, .int .u64 d.s2, .int .u64 d.s3, .string d.t, .int .i64 d.lo, .int .i64 d.hi, .slice d.ka d.kn d.kc]
def i64ok (x : Int) : Prop := -9223372036854775808 ≤ x ∧ x ≤ 9223372036854775807
def u64ok (x : Int) : Prop := 0 ≤ x ∧ x < 18446744073709551616
structure Nd.ok (I : GH) (d : Nd) : Prop where
  k : 0 ≤ d.k ∧ d.k < 256
  s0 : u64ok d.s0
  s1 : u64ok d.s1
  s2 : u64ok d.s2
  s3 : u64ok d.s3
  t : d.t.size ≤ 9223372036854775807
  lo : i64ok d.lo
  hi : i64ok d.hi
  rs : RS I d.ka d.kn d.kc 1 8 (d.kids.map (.int .i64 ·))
  kids : ∀ x ∈ d.kids, i64ok x
theorem Nd.cells_len (d : Nd) : d.cells.length = 9 := rfl
theorem Nd.ok.kn {I : GH} {d : Nd} (h : d.ok I) : d.kids.length = d.kn := by
  have := h.rs.len
  simpa using this

structure Tr where
  ns : List Nd
  a : Option Addr
  n : Nat
  c : Nat
  root : Int
def Tr.cells (t : Tr) : List Value := [.slice t.a t.n t.c, .int .i64 t.root]
def Tr.val (t : Tr) : Value := .agg #[.slice t.a t.n t.c, .int .i64 t.root]
structure Tr.ok (I : GH) (t : Tr) : Prop where
  rs : RS I t.a t.n t.c 9 96 (t.ns.flatMap Nd.cells)
  ns : ∀ d ∈ t.ns, d.ok I
  root : i64ok t.root
theorem Tr.ok.n {I : GH} {t : Tr} (h : t.ok I) : t.ns.length = t.n := by
  have := h.rs.len
  rw [flat_len _ 9 Nd.cells_len] at this
  omega

structure Df where
  name : ByteArray
  t : Tr
def Df.cells (d : Df) : List Value := [.string d.name, .slice d.t.a d.t.n d.t.c, .int .i64 d.t.root]
structure Df.ok (I : GH) (d : Df) : Prop where
  name : d.name.size ≤ 140737488355328
  t : d.t.ok I
theorem Df.cells_len (d : Df) : d.cells.length = 3 := rfl

structure Gr where
  ds : List Df
  a : Option Addr
  n : Nat
  c : Nat
def Gr.val (g : Gr) : Value := .agg #[.slice g.a g.n g.c]
structure Gr.ok (I : GH) (g : Gr) : Prop where
  rs : RS I g.a g.n g.c 3 48 (g.ds.flatMap Df.cells)
  ds : ∀ d ∈ g.ds, d.ok I
theorem Gr.ok.n {I : GH} {g : Gr} (h : g.ok I) : g.ds.length = g.n := by
  have := h.rs.len
  rw [flat_len _ 3 Df.cells_len] at this
  omega

theorem Nd.ok.mono {I I' : GH} {d : Nd} (h : d.ok I) (hI : ∀ b o, I b = some o → I' b = some o) : d.ok I' := { h with rs := h.rs.mono hI }
theorem Tr.ok.mono {I I' : GH} {t : Tr} (h : t.ok I) (hI : ∀ b o, I b = some o → I' b = some o) : t.ok I' := ⟨h.rs.mono hI, fun d hd => (h.ns d hd).mono hI, h.root⟩
theorem Df.ok.mono {I I' : GH} {d : Df} (h : d.ok I) (hI : ∀ b o, I b = some o → I' b = some o) : d.ok I' := ⟨h.name, h.t.mono hI⟩
theorem Gr.ok.mono {I I' : GH} {g : Gr} (h : g.ok I) (hI : ∀ b o, I b = some o → I' b = some o) : g.ok I' := ⟨h.rs.mono hI, fun d hd => (h.ds d hd).mono hI⟩

/-! ### Whole numbers of 64 bits that do not wrap -/
theorem wrap_i64 {x : Int} (h : i64ok x) : IntKind.i64.wrap x = x := by
  obtain ⟨h1, h2⟩ := h
  unfold IntKind.wrap
  simp only [IntKind.bits, IntKind.signed]
  simp
  omega
end Go.V
