/-
  Walks: reach.called, list, calls.
-/
import Derived.Test.YtcccmnppfmfkiaaDoorWf
set_option linter.unusedVariables false
set_option linter.unusedSimpArgs false
namespace Go.V
open Go Go.Proofs

/-! ### Rows of numbers in memory -/
structure Rw where
  a : Option Addr
  n : Nat
  c : Nat
  l : List Int
def Rw.val (r : Rw) : Value := .slice r.a r.n r.c
structure Rw.ok (I : GH) (r : Rw) : Prop where
  rs : RS I r.a r.n r.c 1 8 (r.l.map (.int .i64 ·))
theorem Rw.ok.n {I : GH} {r : Rw} (h : r.ok I) : r.l.length = r.n := by
  have := h.rs.len
  simpa using this
theorem Rw.ok.mono {I I' : GH} {r : Rw} (h : r.ok I) (hI : ∀ b o, I b = some o → I' b = some o) : r.ok I' := ⟨h.rs.mono hI⟩
structure Ls where
  rows : List Rw
  a : Option Addr
  n : Nat
  c : Nat
def Ls.val (x : Ls) : Value := .slice x.a x.n x.c
structure Ls.ok (I : GH) (x : Ls) : Prop where
  rs : RS I x.a x.n x.c 1 24 (x.rows.map Rw.val)
  rows : ∀ r ∈ x.rows, r.ok I
theorem Ls.ok.n {I : GH} {x : Ls} (h : x.ok I) : x.rows.length = x.n := by
  have := h.rs.len
  simpa using this
theorem Ls.ok.mono {I I' : GH} {x : Ls} (h : x.ok I) (hI : ∀ b o, I b = some o → I' b = some o) : x.ok I' := ⟨h.rs.mono hI, fun r hr => (h.rows r hr).mono hI⟩
def Ls.ll (x : Ls) : List (List Int) := x.rows.map (·.l)

/-- The function's own slice, given away: nothing changes it any more. -/
theorem OS.give {I : GH} {os : OS} {xs : List Value} {e size b : Nat} (h : os.ok size xs) (hb : os.n * b ≤ 140737488355328) (hI : ∀ g, os.a = some g → I g = none) (Mr : List Blk) :
    ∃ I', Wk [] I (os.blk e ++ Mr) I' Mr ∧ (∀ b o, I b = some o → I' b = some o) ∧ RS I' (os.a.map fun g => ⟨g, 0, none⟩) os.n os.c size b xs := by
  obtain ⟨a, n, c, cur⟩ := os
  cases a with
  | none =>
    obtain ⟨h1, h2⟩ := h.nil rfl
    simp only at h1 h2
    subst h1
    subst h2
    exact ⟨I, .refl, fun _ _ h => h, h.len, ⟨Nat.le_refl _, by simp⟩, .inl rfl⟩
  | some g =>
    obtain ⟨h1, h2, h3, h4⟩ := h.cap g rfl
    have hg := hI g rfl
    exact ⟨ins I g (.cells cur.toArray e (0, 0)), .prom rfl (by simp) .refl, ins_le hg, h.len, ⟨h2, hb⟩, .inr ⟨⟨g, 0, none⟩, rfl, rfl, _, _, _, ins_self .., by simpa using h4⟩⟩
/-- The same, wh a row of numbers. -/
theorem OS.giveInts {I : GH} {os : OS} {l : List Int} {e : Nat} (h : os.ok 1 (l.map (.int .i64 ·))) (hb : os.n * 8 ≤ 140737488355328) (hI : ∀ g, os.a = some g → I g = none) (Mr : List Blk) :
    ∃ (I' : GH) (r : Rw), Wk [] I (os.blk e ++ Mr) I' Mr ∧ (∀ b o, I b = some o → I' b = some o) ∧ os.val = r.val ∧ r.ok I' ∧ r.l = l := by
  obtain ⟨I', h1, h2, h3⟩ := OS.give (b := 8) h hb hI Mr
  exact ⟨I', ⟨_, _, _, l⟩, h1, h2, rfl, ⟨h3⟩, rfl⟩

def OS0 : OS := ⟨none, 0, 0, []⟩
theorem OS0_ok (size : Nat) : OS0.ok size [] := ⟨by simp [OS0], fun _ => ⟨rfl, rfl⟩, fun g h => by cases h⟩
theorem app1_ok {os : OS} {xs : List Value} {v : Value} (hos : os.ok 1 xs) {g c : Nat} {cur : List Value} (h1 : cur.length = c * 1) (h2 : os.n + 1 ≤ c) (h3 : c ≤ maxLen) (h4 : cur.take ((os.n + 1) * 1) = xs ++ [v]) :
    OS.ok ⟨some g, os.n + 1, c, cur⟩ 1 (xs ++ [v]) := by
  have hl := hos.len
  refine ⟨?_, (fun h => by cases h), fun g3 hg3 => ⟨h1, h2, h3, h4⟩⟩
  rw [List.length_append, hl]
  simp
theorem OS.ok.len1 {os : OS} {l : List Int} (h : os.ok 1 (l.map (Value.int .i64))) : os.n = l.length := by
  have := h.len
  simp at this
  omega

theorem perm4 {α : Type} (a c : α) (L : List α) : (a :: (L ++ [c])).Perm (L ++ [c, a]) := by
  have h := (List.perm_append_singleton a (L ++ [c])).symm
  rwa [List.append_assoc] at h

/-! ### list -/
def listL (wh : Bool) : Nat → List Bool → List Int
  | _, [] => []
  | i, b :: s => bif b == wh then (i : Int) :: listL wh (i + 1) s else listL wh (i + 1) s
theorem listL_snoc (wh b : Bool) : ∀ (s : List Bool) (i : Nat), listL wh i (s ++ [b]) = listL wh i s ++ (bif b == wh then [((i + s.length : Nat) : Int)] else [])
  | [], i => by
    show (bif b == wh then ((i : Nat) : Int) :: listL wh (i + 1) [] else listL wh (i + 1) []) = _
    cases b == wh <;> simp [listL]
  | c :: s, i => by
    have := listL_snoc wh b s (i + 1)
    rw [List.cons_append, listL, listL, this]
    cases c == wh <;> simp [Nat.add_comm, Nat.add_left_comm]
theorem listL_len (wh : Bool) : ∀ (s : List Bool) (i : Nat), (listL wh i s).length ≤ s.length
  | [], i => by simp [listL]
  | c :: s, i => by
    have := listL_len wh s (i + 1)
    unfold listL
    cases c == wh <;> simp <;> omega

/-- A row of bools in memory. -/
structure Rb where
  a : Option Addr
  n : Nat
  c : Nat
  l : List Bool
def Rb.val (r : Rb) : Value := .slice r.a r.n r.c
structure Rb.ok (I : GH) (r : Rb) : Prop where
  rs : RS I r.a r.n r.c 1 1 (r.l.map Value.bool)
theorem Rb.ok.n {I : GH} {r : Rb} (h : r.ok I) : r.l.length = r.n := by
  have := h.rs.len
  simpa using this
theorem Rb.ok.mono {I I' : GH} {r : Rb} (h : r.ok I) (hI : ∀ b o, I b = some o → I' b = some o) : r.ok I' := ⟨h.rs.mono hI⟩

set_option maxHeartbeats 1000000 in
theorem list_spec {I : GH} {r : Rb} (hr : r.ok I) (hn : r.n ≤ 1099511627776) (wh : Bool) : Spec Tryd.prog 42 [r.val, .bool wh] I [] fun v I' M' => (∀ b o, I b = some o → I' b = some o) ∧ ∃ x : Rw, v = x.val ∧ x.ok I' ∧ x.l = listL wh 0 r.l ∧ M' = [] := by
  refine spec_of_V [] TrydEOK Tryd.func42 rfl rfl rfl ?_
  intro B h0
  have hrn := hr.n
  refine LoopOb.inv (ι := Nat × OS) (fun x => { fl := [(1, .val (.bool wh)), (5, .val x.2.val), (8, .val r.val), (9, .val (.int .i64 r.n)), (10, .val (.int .i64 x.1))], gi := I, mi := x.2.blk 3 })
    (fun x => x.1 ≤ r.n ∧ x.2.ok 1 ((listL wh 0 (r.l.take x.1)).map (.int .i64 ·)) ∧ ∀ g, x.2.a = some g → I g = none) (fun x => r.n - x.1) ?_ ?_
  · exact ⟨(0, OS0), ⟨by simp, OS0_ok 1, fun g h => by cases h⟩, .refl, .cons .refl (.cons .refl (.cons .refl (.cons .refl (.cons .refl .nil)))), .nil⟩
  · rintro ⟨i, os⟩ ⟨hi, hos, hI⟩
    simp only at hi hos hI
    have hol := hos.len1
    have hll := listL_len wh (r.l.take i) 0
    have htl := List.length_take_le i r.l
    refine CondOb.mk (fun h => ?_) (fun h => ?_)
    · have hlt : i < r.n := by simpa using h
      have hlt' : i < r.l.length := by omega
      obtain ⟨ad, had, hrd⟩ := hr.rs.one hlt hlt'
      have hsn := listL_snoc wh r.l[i] (r.l.take i) 0
      rw [← List.take_succ_eq_append_getElem hlt', List.length_take_of_le (by omega), Nat.zero_add] at hsn
      refine IdxOb.mk ad i had rfl hlt ?_
      refine LoadOb.mk _ (hrd _) ?_
      refine CondOb.mk (fun h2 => ?_) (fun h2 => ?_)
      · rw [h2, cond_true] at hsn
        refine AllocOb.mk fun b9 hb9 hbM9 => ?_
        refine OtherOb.appendN TrydEOK rfl (by simp) (e := 3) rfl rfl rfl os hos rfl (m := 1) rfl (news := [.int .i64 i]) (by decide) (blk_rd (b := b9) (cs := [.int .i64 i]) (k := 0) (n := 1) (T := 3) (.head _) (by simp)) rfl (Mr := [⟨b9, .cells #[.int .i64 i] 3 (0, 0)⟩]) (List.perm_append_comm (l₁ := [_])) (by simp only [maxLen]; omega) (by show (os.n + 1) * 8 ≤ _; omega) ?_
        intro g' c' cur' q0 q1 q2 q3 q4
        refine ArithOb.mk _ (next_wr (i := i) (by omega)) ?_
        refine ⟨(i + 1, ⟨some g', os.n + 1, c', cur'⟩), ⟨⟨by simp only; omega, ?_, fun g hg => by cases hg; exact q0⟩, by simp only; omega⟩, .sub (List.Sublist.cons_cons _ (List.nil_sublist _)) .refl, .cons .refl (.cons .refl (.cons .refl (.cons .refl (.cons .refl .nil)))), .nil⟩
        simp only
        rw [hsn, List.map_append]
        exact app1_ok hos q1 q2 q3 q4
      · rw [h2, cond_false, List.append_nil] at hsn
        refine ArithOb.mk _ (next_wr (i := i) (by omega)) ?_
        refine ⟨(i + 1, os), ⟨⟨by simp only; omega, ?_, hI⟩, by simp only; omega⟩, .refl, .cons .refl (.cons .refl (.cons .refl (.cons .refl (.cons .refl .nil)))), .nil⟩
        simp only
        rw [hsn]
        exact hos
    · have hge : r.n ≤ i := by simpa using h
      rw [List.take_of_length_le (by omega)] at hos hll hol
      obtain ⟨I', x, w1, w2, w3, w4, w5⟩ := OS.giveInts (e := 3) hos (by omega) hI []
      rw [List.append_nil] at w1
      exact ⟨_, _, w1, w2, x, w3, w4, w5, rfl⟩

/-! ### called -/
def markK (n : Nat) (s : List Bool) (k : Int) : List Bool := bif decide (0 ≤ k) && decide (k < n) then s.set k.toNat true else s
def thereL (ds : List Df) (n : Nat) (names : List ByteArray) : List Bool := names.foldl (fun s nm => markK n s (findAt nm ds 0)) (List.replicate n false)
def calledL (g : Gr) (t : Tr) : List Int := listL true 0 (thereL g.ds g.n (namedL t.ns))
theorem markK_len (n : Nat) (s : List Bool) (k : Int) : (markK n s k).length = s.length := by
  unfold markK
  cases decide (0 ≤ k) && decide (k < n) <;> simp
theorem thereL_len (ds : List Df) (n : Nat) (names : List ByteArray) : (thereL ds n names).length = n := by
  have : ∀ (names : List ByteArray) (s : List Bool), (names.foldl (fun s nm => markK n s (findAt nm ds 0)) s).length = s.length := by
    intro names
    induction names with
    | nil => intro s; rfl
    | cons nm names ih => intro s; rw [List.foldl_cons, ih, markK_len]
  rw [thereL, this]
  simp

set_option maxHeartbeats 2000000 in
theorem called_spec {I : GH} {g : Gr} (hg : g.ok I) (hn : g.n ≤ 1099511627776) {t : Tr} (ht : t.ok I) : Spec Tryd.prog 37 [g.val, t.val] I [] fun v I' M' => (∀ b o, I b = some o → I' b = some o) ∧ ∃ x : Rw, v = x.val ∧ x.ok I' ∧ x.l = calledL g t ∧ M' = [] := by
  refine spec_of_V [2, 5] TrydEOK Tryd.func37 rfl rfl rfl ?_
  intro B h0
  have hgn := hg.n
  refine AllocOb.mk fun b2 hb2 hbM2 => ?_
  refine LoadOb.mk [.slice g.a g.n g.c] (blk_rd (b := b2) (cs := [.slice g.a g.n g.c]) (k := 0) (n := 1) (T := 38) (.head _) (by simp)) ?_
  refine MakeOb.mk g.n g.n rfl rfl (Nat.le_refl _) (by show 1 * g.n ≤ _; omega) (by omega) ?_
  refine AllocOb.mk fun b hb hbM => ?_
  refine AllocOb.mk fun b5 hb5 hbM5 => ?_
  refine StoreOb.mk [] [⟨b, .cells (rowOf [.bool false] (g.n * 1)).toArray 4 (0, 0)⟩, ⟨b2, .cells #[.slice g.a g.n g.c] 38 (0, 0)⟩] _ _ rfl rfl (Nat.le_of_ble_eq_true rfl) rfl ?_
  refine CallOb.mk [] [⟨b5, .cells #[.slice (some ⟨b, 0, none⟩) g.n g.n] 76 (0, 0)⟩, ⟨b, .cells (rowOf [.bool false] (g.n * 1)).toArray 4 (0, 0)⟩, ⟨b2, .cells #[.slice g.a g.n g.c] 38 (0, 0)⟩] _ (.refl _) (named_spec t) ?_
  rintro v I1 M1 - ⟨tb, rfl, htb, hI1, rfl⟩
  have hg1 := hg.mono hI1
  have ht1 := ht.mono hI1
  refine CodeOb.range TrydEOK rfl rfl rfl .refl (named1_iter ht1 htb) (fun vs h => ?_)
    (fun k I' M' => (∀ b o, I1 b = some o → I' b = some o) ∧ M' = [⟨b5, .cells #[.slice (some ⟨b, 0, none⟩) g.n g.n] 76 (0, 0)⟩, boolRow b (thereL g.ds g.n ((namedL t.ns).take k)), ⟨b2, .cells #[.slice g.a g.n g.c] 38 (0, 0)⟩])
    (fun _ _ _ => False) ⟨fun _ _ h => h, ?_⟩ ?_ ?_ (fun _ _ _ _ h => h.elim)
  · obtain ⟨c, _, rfl⟩ := List.mem_map.1 h
    rfl
  · show _ :: _ :: _ = _
    rw [rowOf_one, Nat.mul_one]
    simp [boolRow, thereL]
  · rintro k hk I' M' - ⟨hI', rfl⟩ l B h0 h0'
    have hkL : k < (namedL t.ns).length := by simpa using hk
    generalize hx : (namedL t.ns)[k] = x
    have hv : ((namedL t.ns).map fun s => [Value.string s])[k] = [.string x] := by simp [hx]
    rw [hv]
    have hstep : thereL g.ds g.n ((namedL t.ns).take (k + 1)) = markK g.n (thereL g.ds g.n ((namedL t.ns).take k)) (findAt x g.ds 0) := by
      rw [List.take_succ_eq_append_getElem hkL, hx]
      simp [thereL, List.foldl_append]
    have hlen := thereL_len g.ds g.n ((namedL t.ns).take k)
    generalize hs : thereL g.ds g.n ((namedL t.ns).take k) = s at *
    rw [hstep]
    refine LoadOb.mk [.slice g.a g.n g.c] ⟨rfl, _, _, _, .inr ⟨_, .tail _ (.tail _ (.head _)), rfl, rfl⟩, rfl, rfl⟩ ?_
    refine CallOb.mk [] [⟨b5, .cells #[.slice (some ⟨b, 0, none⟩) g.n g.n] 76 (0, 0)⟩, boolRow b s, ⟨b2, .cells #[.slice g.a g.n g.c] 38 (0, 0)⟩] _ (.refl _) (Find_spec (hg1.mono hI') x) ?_
    rintro v I' M' - ⟨rfl, rfl, rfl⟩
    refine GuardOb.mk (fun h1 => ?_) (fun h1 => ?_)
    · refine LoadOb.mk [.slice (some ⟨b, 0, none⟩) g.n g.n] ⟨rfl, _, _, _, .inr ⟨_, .head _, rfl, rfl⟩, rfl, rfl⟩ ?_
      refine CondOb.mk (fun h2 => ?_) (fun h2 => ?_)
      · have hk0 : 0 ≤ findAt x g.ds 0 := by simpa using h1
        have hkn : findAt x g.ds 0 < g.n := by simpa using h2
        have hmk : markK g.n s (findAt x g.ds 0) = s.set (findAt x g.ds 0).toNat true := by
          rw [markK, h1, h2]
          rfl
        refine LoadOb.mk [.slice (some ⟨b, 0, none⟩) g.n g.n] ⟨rfl, _, _, _, .inr ⟨_, .head _, rfl, rfl⟩, rfl, rfl⟩ ?_
        refine IdxOb.mk ⟨b, 0, none⟩ (findAt x g.ds 0).toNat rfl (by omega) (by omega) ?_
        refine StoreOb.add [⟨b5, .cells #[.slice (some ⟨b, 0, none⟩) g.n g.n] 76 (0, 0)⟩] [⟨b2, .cells #[.slice g.a g.n g.c] 38 (0, 0)⟩] _ _ rfl ?_ rfl ?_
        · simp only [List.size_toArray, List.length_map]
          show 0 + (findAt x g.ds 0).toNat * 1 + 1 ≤ _
          omega
        refine ⟨_, _, .refl, hI', ?_⟩
        rw [hmk]
        have e := boolRow_set s (findAt x g.ds 0).toNat (by omega) true
        simp only [boolRow]
        rw [← e]
        simp only [Nat.zero_add, Nat.mul_one]
        rfl
      · refine ⟨_, _, .refl, hI', ?_⟩
        have : markK g.n s (findAt x g.ds 0) = s := by
          rw [markK, h1, h2]
          rfl
        rw [this]
        rfl
    · refine ⟨_, _, .refl, hI', ?_⟩
      have : markK g.n s (findAt x g.ds 0) = s := by
        rw [markK, h1]
        rfl
      rw [this]
      rfl
  · rintro I2 M2 - ⟨hI2, rfl⟩
    have hI02 : ∀ b o, I b = some o → I2 b = some o := fun b o h => hI2 _ _ (hI1 _ _ h)
    have hfull : (namedL t.ns).take ((namedL t.ns).map fun s => [Value.string s]).length = namedL t.ns := List.take_of_length_le (by simp)
    rw [hfull]
    have hsl := thereL_len g.ds g.n (namedL t.ns)
    have hcl : calledL g t = listL true 0 (thereL g.ds g.n (namedL t.ns)) := rfl
    generalize hs : thereL g.ds g.n (namedL t.ns) = s at *
    refine LoadOb.mk [.slice (some ⟨b, 0, none⟩) g.n g.n] ⟨rfl, _, _, _, .inr ⟨_, .head _, rfl, rfl⟩, rfl, rfl⟩ ?_
    refine LoopOb.inv (ι := Nat × OS) (fun x => { fl := [(8, .val x.2.val), (32, .val (.slice (some ⟨b, 0, none⟩) g.n g.n)), (33, .val (.int .i64 g.n)), (34, .val (.int .i64 x.1))], gi := I2, mi := x.2.blk 3 ++ [boolRow b s] })
      (fun x => x.1 ≤ g.n ∧ x.2.ok 1 ((listL true 0 (s.take x.1)).map (.int .i64 ·)) ∧ ∀ g, x.2.a = some g → I2 g = none) (fun x => g.n - x.1) ?_ ?_
    · exact ⟨(0, OS0), ⟨by simp, OS0_ok 1, fun g h => by cases h⟩, .sub (.cons _ (.cons_cons _ (List.nil_sublist _))) .refl, .cons .refl (.cons .refl (.cons .refl (.cons .refl .nil))), .nil⟩
    · rintro ⟨i, os⟩ ⟨hi, hos, hI⟩
      simp only at hi hos hI
      have hol := hos.len1
      have hll := listL_len true (s.take i) 0
      have htl := List.length_take_le i s
      refine CondOb.mk (fun h => ?_) (fun h => ?_)
      · have hlt : i < g.n := by simpa using h
        have hlt' : i < s.length := by omega
        have hsn := listL_snoc true s[i] (s.take i) 0
        rw [← List.take_succ_eq_append_getElem hlt', List.length_take_of_le (by omega), Nat.zero_add] at hsn
        refine IdxOb.mk ⟨b, 0, none⟩ i rfl rfl hlt ?_
        refine LoadOb.mk _ (boolRow_rd (by simp) hlt') ?_
        refine CondOb.mk (fun h2 => ?_) (fun h2 => ?_)
        · rw [h2] at hsn
          refine AllocOb.mk fun b9 hb9 hbM9 => ?_
          refine OtherOb.appendN TrydEOK rfl (by simp) (e := 3) rfl rfl rfl os hos rfl (m := 1) rfl (news := [.int .i64 i]) (by decide) (blk_rd (b := b9) (cs := [.int .i64 i]) (k := 0) (n := 1) (T := 3) (.head _) (by simp)) rfl (Mr := [boolRow b s, ⟨b9, .cells #[.int .i64 i] 3 (0, 0)⟩]) (perm4 _ _ _) (by simp only [maxLen]; omega) (by show (os.n + 1) * 8 ≤ _; omega) ?_
          intro g' c' cur' q0 q1 q2 q3 q4
          refine ArithOb.mk _ (next_wr (i := i) (by omega)) ?_
          refine ⟨(i + 1, ⟨some g', os.n + 1, c', cur'⟩), ⟨⟨by simp only; omega, ?_, fun g hg => by cases hg; exact q0⟩, by simp only; omega⟩, .sub (.cons_cons _ (.cons_cons _ (List.nil_sublist _))) .refl, .cons .refl (.cons .refl (.cons .refl (.cons .refl .nil))), .nil⟩
          simp only
          rw [hsn, List.map_append]
          exact app1_ok hos q1 q2 q3 q4
        · rw [h2] at hsn
          simp only [Bool.false_beq, Bool.not_true, cond_false, List.append_nil] at hsn
          refine ArithOb.mk _ (next_wr (i := i) (by omega)) ?_
          refine ⟨(i + 1, os), ⟨⟨by simp only; omega, ?_, hI⟩, by simp only; omega⟩, .refl, .cons .refl (.cons .refl (.cons .refl (.cons .refl .nil))), .nil⟩
          simp only
          rw [hsn]
          exact hos
      · have hge : g.n ≤ i := by simpa using h
        rw [List.take_of_length_le (by omega)] at hos hll hol
        obtain ⟨I', x, w1, w2, w3, w4, w5⟩ := OS.giveInts (e := 3) hos (by omega) hI []
        rw [List.append_nil] at w1
        exact ⟨_, _, .sub (List.sublist_append_left _ _) w1, fun b o h => w2 _ _ (hI02 _ _ h), x, w3, w4, w5.trans hcl.symm, rfl⟩
end Go.V
