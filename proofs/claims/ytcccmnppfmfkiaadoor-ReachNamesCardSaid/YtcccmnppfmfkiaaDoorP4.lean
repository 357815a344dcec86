/-
  Plain: rows of numbers out of marks; rules parted. No program in sight.
-/
import Derived.Test.YtcccmnppfmfkiaaDoorWh
set_option linter.unusedVariables false
set_option linter.unusedSimpArgs false
namespace Go.V
open Go

theorem listL_mem (wh : Bool) : ∀ (s : List Bool) (i : Nat) (k : Int), k ∈ listL wh i s ↔ ∃ j : Nat, k = ((i + j : Nat) : Int) ∧ s[j]? = some wh
  | [], i, k => by simp [listL]
  | b :: s, i, k => by
    have ih := listL_mem wh s (i + 1) k
    unfold listL
    have tail : (∃ j : Nat, k = ((i + 1 + j : Nat) : Int) ∧ s[j]? = some wh) ↔ ∃ j : Nat, k = ((i + (j + 1) : Nat) : Int) ∧ (b :: s)[j + 1]? = some wh := by
      constructor
      · rintro ⟨j, h1, h2⟩
        exact ⟨j, by rw [h1]; omega, by simpa using h2⟩
      · rintro ⟨j, h1, h2⟩
        exact ⟨j, by rw [h1]; omega, by simpa using h2⟩
    have split : (∃ j : Nat, k = ((i + j : Nat) : Int) ∧ (b :: s)[j]? = some wh) ↔ (k = (i : Int) ∧ b = wh) ∨ ∃ j : Nat, k = ((i + (j + 1) : Nat) : Int) ∧ (b :: s)[j + 1]? = some wh := by
      constructor
      · rintro ⟨j, h1, h2⟩
        cases j with
        | zero => exact .inl ⟨by simpa using h1, by simpa using h2⟩
        | succ j => exact .inr ⟨j, h1, h2⟩
      · rintro (⟨h1, h2⟩ | ⟨j, h1, h2⟩)
        · exact ⟨0, by simpa using h1, by simpa using h2⟩
        · exact ⟨j + 1, h1, h2⟩
    rw [split]
    cases hb : b == wh with
    | true =>
      have : b = wh := by simpa using hb
      simp only [cond_true, List.mem_cons, ih, tail]
      simp [this]
    | false =>
      have : b ≠ wh := by simpa using hb
      simp only [cond_false, ih, tail]
      simp [this]
theorem listL_valid {wh : Bool} {s : List Bool} : valid s.length (listL wh 0 s) := fun k hk => by
  obtain ⟨j, h1, h2⟩ := (listL_mem wh s 0 k).1 hk
  have := (List.getElem?_eq_some_iff.1 h2).1
  omega
theorem calledL_valid (g : Gr) (t : Tr) : valid g.n (calledL g t) := by
  have h := listL_valid (wh := true) (s := thereL g.ds g.n (namedL t.ns))
  rw [thereL_len] at h
  exact h
theorem callsL_valid {g : Gr} (hn : g.ds.length = g.n) : ∀ l ∈ callsL g, valid (callsL g).length l := by
  intro l hl
  obtain ⟨d, _, rfl⟩ := List.mem_map.1 hl
  simp only [callsL, List.length_map, hn]
  exact calledL_valid g d.t
theorem listL_both : ∀ (s : List Bool) (i j : Nat), (listL true i s).length + (listL false j s).length = s.length
  | [], _, _ => rfl
  | b :: s, i, j => by
    have := listL_both s (i + 1) (j + 1)
    cases b <;> simp [listL] <;> omega
theorem listL_isM {s : List Bool} {k : Nat} : (k : Int) ∈ listL true 0 s ↔ isM s k := by
  rw [listL_mem]
  unfold isM
  constructor
  · rintro ⟨j, h1, h2⟩
    have : k = j := by omega
    subst this
    simp [List.getD_eq_getElem?_getD, h2]
  · intro h
    refine ⟨k, by omega, ?_⟩
    have hl := isM_lt h
    simp only [List.getD_eq_getElem?_getD, List.getElem?_eq_getElem hl, Option.getD_some] at h
    rw [List.getElem?_eq_getElem hl, h]
theorem listL_notM {s : List Bool} {k : Nat} : (k : Int) ∈ listL false 0 s ↔ k < s.length ∧ ¬ isM s k := by
  rw [listL_mem]
  unfold isM
  constructor
  · rintro ⟨j, h1, h2⟩
    have : k = j := by omega
    subst this
    have hl := (List.getElem?_eq_some_iff.1 h2).1
    exact ⟨hl, by simp [List.getD_eq_getElem?_getD, h2]⟩
  · rintro ⟨hl, h⟩
    refine ⟨k, by omega, ?_⟩
    simp only [List.getD_eq_getElem?_getD, List.getElem?_eq_getElem hl, Option.getD_some] at h
    rw [List.getElem?_eq_getElem hl]
    simpa using h

/-! ### Parts -/
def matOf (L : List (List Int)) : List (List Bool) := (List.range L.length).map fun i => fromL L i
def mat (R : List (List Bool)) (i k : Nat) : Bool := (R.getD i []).getD k false
def partGo (R : List (List Bool)) (i : Nat) : Nat → Nat → List Bool → List Int → List Bool × List Int
  | 0, _, p, q => (p, q)
  | f + 1, k, p, q => bif mat R i k && mat R k i then partGo R i f (k + 1) (p.set k true) (q ++ [(k : Int)]) else partGo R i f (k + 1) p q
def roundsGo (R : List (List Bool)) (n : Nat) : Nat → Nat → List Bool → List (List Int) → List (List Int)
  | 0, _, _, ps => ps
  | f + 1, i, p, ps => bif p.getD i false then roundsGo R n f (i + 1) p ps else roundsGo R n f (i + 1) (partGo R i (n - i) i p []).1 (ps ++ [(partGo R i (n - i) i p []).2])
def roundsL (L : List (List Int)) : List (List Int) := roundsGo (matOf L) L.length L.length 0 (List.replicate L.length false) []

theorem partGo_len (R : List (List Bool)) (i : Nat) : ∀ (f k : Nat) (p : List Bool) (q : List Int), (partGo R i f k p q).1.length = p.length ∧ (partGo R i f k p q).2.length ≤ q.length + f
  | 0, k, p, q => by simp [partGo]
  | f + 1, k, p, q => by
    unfold partGo
    cases mat R i k && mat R k i with
    | true =>
      obtain ⟨h1, h2⟩ := partGo_len R i f (k + 1) (p.set k true) (q ++ [(k : Int)])
      simp only [cond_true]
      refine ⟨by rw [h1]; simp, ?_⟩
      simp only [List.length_append, List.length_cons, List.length_nil] at h2
      omega
    | false =>
      obtain ⟨h1, h2⟩ := partGo_len R i f (k + 1) p q
      simp only [cond_false]
      exact ⟨h1, by omega⟩

/-- Two are in one part. -/
def Mutual (R : List (List Bool)) (i k : Nat) : Prop := mat R i k = true ∧ mat R k i = true
theorem partGo_ok {R : List (List Bool)} {i n : Nat} : ∀ (f k : Nat) (p : List Bool) (q : List Int), k + f = n → p.length = n → (∀ a, k ≤ a → a < n → Mutual R i a → ¬ isM p a) →
    (∀ a, isM (partGo R i f k p q).1 a ↔ isM p a ∨ (k ≤ a ∧ a < n ∧ Mutual R i a)) ∧
    (∀ x, x ∈ (partGo R i f k p q).2 ↔ x ∈ q ∨ ∃ a : Nat, x = (a : Int) ∧ k ≤ a ∧ a < n ∧ Mutual R i a) ∧
    openN (partGo R i f k p q).1 + (partGo R i f k p q).2.length = openN p + q.length
  | 0, k, p, q, hk, hp, hd => by
    refine ⟨fun a => ?_, fun x => ?_, rfl⟩
    · constructor
      · exact .inl
      · rintro (h | ⟨h1, h2, _⟩)
        · exact h
        · omega
    · constructor
      · exact .inl
      · rintro (h | ⟨a, _, h1, h2, _⟩)
        · exact h
        · omega
  | f + 1, k, p, q, hk, hp, hd => by
    unfold partGo
    cases hm : mat R i k && mat R k i with
    | true =>
      have hmu : Mutual R i k := by simpa [Mutual] using hm
      have hkp : k < p.length := by omega
      have hnk := hd k (Nat.le_refl _) (by omega) hmu
      obtain ⟨h1, h2, h3⟩ := partGo_ok (n := n) f (k + 1) (p.set k true) (q ++ [(k : Int)]) (by omega) (by simpa using hp) (fun a ha1 ha2 ha3 hc => by
        rcases (isM_set hkp).1 hc with rfl | hc
        · omega
        · exact hd a (by omega) ha2 ha3 hc)
      simp only [cond_true]
      refine ⟨fun a => ?_, fun x => ?_, ?_⟩
      · rw [h1, isM_set hkp]
        constructor
        · rintro ((rfl | h) | ⟨g1, g2, g3⟩)
          · exact .inr ⟨Nat.le_refl _, by omega, hmu⟩
          · exact .inl h
          · exact .inr ⟨by omega, g2, g3⟩
        · rintro (h | ⟨g1, g2, g3⟩)
          · exact .inl (.inr h)
          · by_cases e : a = k
            · exact .inl (.inl e)
            · exact .inr ⟨by omega, g2, g3⟩
      · rw [h2]
        simp only [List.mem_append, List.mem_singleton]
        constructor
        · rintro ((h | h) | ⟨a, g0, g1, g2, g3⟩)
          · exact .inl h
          · exact .inr ⟨k, h, Nat.le_refl _, by omega, hmu⟩
          · exact .inr ⟨a, g0, by omega, g2, g3⟩
        · rintro (h | ⟨a, g0, g1, g2, g3⟩)
          · exact .inl (.inl h)
          · by_cases e : a = k
            · subst e
              exact .inl (.inr g0)
            · exact .inr ⟨a, g0, by omega, g2, g3⟩
      · have hs := openN_set p k hkp (by simpa [isM] using hnk)
        simp only [List.length_append, List.length_cons, List.length_nil] at h3
        omega
    | false =>
      have hmu : ¬ Mutual R i k := by
        intro h
        rw [h.1, h.2] at hm
        cases hm
      obtain ⟨h1, h2, h3⟩ := partGo_ok (n := n) f (k + 1) p q (by omega) hp (fun a ha1 ha2 ha3 hc => hd a (by omega) ha2 ha3 hc)
      simp only [cond_false]
      refine ⟨fun a => ?_, fun x => ?_, h3⟩
      · rw [h1]
        constructor
        · rintro (h | ⟨g1, g2, g3⟩)
          · exact .inl h
          · exact .inr ⟨by omega, g2, g3⟩
        · rintro (h | ⟨g1, g2, g3⟩)
          · exact .inl h
          · by_cases e : a = k
            · subst e
              exact (hmu g3).elim
            · exact .inr ⟨by omega, g2, g3⟩
      · rw [h2]
        constructor
        · rintro (h | ⟨a, g0, g1, g2, g3⟩)
          · exact .inl h
          · exact .inr ⟨a, g0, by omega, g2, g3⟩
        · rintro (h | ⟨a, g0, g1, g2, g3⟩)
          · exact .inl h
          · by_cases e : a = k
            · subst e
              exact (hmu g3).elim
            · exact .inr ⟨a, g0, by omega, g2, g3⟩

/-- An equivalence below n. -/
structure Equ (R : List (List Bool)) (n : Nat) : Prop where
  refl : ∀ i, i < n → Mutual R i i
  trans : ∀ i j k, Mutual R i j → Mutual R j k → Mutual R i k
theorem Mutual.symm {R : List (List Bool)} {i j : Nat} (h : Mutual R i j) : Mutual R j i := ⟨h.2, h.1⟩

theorem roundsGo_sum {R : List (List Bool)} {n : Nat} (hR : Equ R n) : ∀ (f i : Nat) (p : List Bool) (ps : List (List Int)), i + f = n → p.length = n → (∀ a, a < n → (isM p a ↔ ∃ j, j < i ∧ Mutual R j a)) →
    ((roundsGo R n f i p ps).map List.length).sum = (ps.map List.length).sum + openN p
  | 0, i, p, ps, hi, hp, hpl => by
    have : openN p = 0 := by
      have all : ∀ (m : List Bool), (∀ a, a < m.length → isM m a) → openN m = 0 := by
        intro m
        induction m with
        | nil => intro _; rfl
        | cons b m ih =>
          intro h
          have h0 := h 0 (by simp)
          have hb : b = true := by simpa [isM] using h0
          subst hb
          have := ih fun a ha => by
            have := h (a + 1) (by simpa using ha)
            simpa [isM] using this
          simp [openN, this]
      exact all p fun a ha => (hpl a (by omega)).2 ⟨a, by omega, hR.refl a (by omega)⟩
    simp [roundsGo, this]
  | f + 1, i, p, ps, hi, hp, hpl => by
    unfold roundsGo
    cases hb : p.getD i false with
    | true =>
      simp only [cond_true]
      refine roundsGo_sum hR f (i + 1) p ps (by omega) hp fun a ha => ?_
      rw [hpl a ha]
      constructor
      · rintro ⟨j, h1, h2⟩
        exact ⟨j, by omega, h2⟩
      · rintro ⟨j, h1, h2⟩
        by_cases e : j = i
        · subst e
          obtain ⟨j', g1, g2⟩ := (hpl j (by omega)).1 hb
          exact ⟨j', g1, hR.trans _ _ _ g2 h2⟩
        · exact ⟨j, by omega, h2⟩
    | false =>
      have hni : ¬ isM p i := by simpa [isM] using hb
      have hno : ∀ j, j < i → ¬ Mutual R j i := fun j hj hm => hni ((hpl i (by omega)).2 ⟨j, hj, hm⟩)
      have hnp : ∀ a, i ≤ a → a < n → Mutual R i a → ¬ isM p a := fun a h1 h2 h3 h4 => by
        obtain ⟨j, g1, g2⟩ := (hpl a h2).1 h4
        exact hno j g1 (hR.trans _ _ _ g2 h3.symm)
      obtain ⟨q1, q2, q3⟩ := partGo_ok (n := n) (n - i) i p [] (by omega) hp hnp
      have hl := (partGo_len R i (n - i) i p []).1
      simp only [cond_false]
      rw [roundsGo_sum hR f (i + 1) _ _ (by omega) (by rw [hl]; exact hp) fun a ha => ?_]
      · simp only [List.map_append, List.sum_append, List.map_cons, List.map_nil, List.sum_cons, List.sum_nil, List.length_nil] at q3 ⊢
        omega
      · rw [q1, hpl a ha]
        constructor
        · rintro (⟨j, h1, h2⟩ | ⟨h1, h2, h3⟩)
          · exact ⟨j, by omega, h2⟩
          · exact ⟨i, by omega, h3⟩
        · rintro ⟨j, h1, h2⟩
          by_cases e : j = i
          · subst e
            refine .inr ⟨?_, ha, h2⟩
            apply Nat.le_of_not_lt
            intro hlt
            exact hno a hlt h2.symm
          · exact .inl ⟨j, by omega, h2⟩

theorem Comes.trans {L : List (List Int)} {i j k : Nat} (h1 : Comes L i j) (h2 : Comes L j k) : Comes L i k := by
  induction h2 with
  | self => exact h1
  | next _ hk ih => exact .next ih hk
theorem mat_ok {L : List (List Int)} (hL : ∀ l ∈ L, valid L.length l) {i k : Nat} (hi : i < L.length) : mat (matOf L) i k = true ↔ Comes L i k := by
  have h := (fromL_ok hL hi).iff k
  have e : (matOf L).getD i [] = fromL L i := by simp [matOf, List.getD_eq_getElem?_getD, hi]
  unfold mat
  rw [e]
  exact h
theorem mat_lt {L : List (List Int)} {i k : Nat} (h : mat (matOf L) i k = true) : i < L.length := by
  apply Nat.lt_of_not_le
  intro hle
  have e : (matOf L).getD i [] = [] := by simp [matOf, List.getD_eq_getElem?_getD, hle]
  unfold mat at h
  rw [e] at h
  simp at h
theorem equ_mat {L : List (List Int)} (hL : ∀ l ∈ L, valid L.length l) : Equ (matOf L) L.length := by
  refine ⟨fun i hi => ⟨(mat_ok hL hi).2 .self, (mat_ok hL hi).2 .self⟩, fun i j k h1 h2 => ?_⟩
  have a1 := mat_lt h1.1
  have a2 := mat_lt h1.2
  have a3 := mat_lt h2.2
  exact ⟨(mat_ok hL a1).2 (((mat_ok hL a1).1 h1.1).trans ((mat_ok hL a2).1 h2.1)), (mat_ok hL a3).2 (((mat_ok hL a3).1 h2.2).trans ((mat_ok hL a2).1 h1.2))⟩
theorem roundsL_sum {L : List (List Int)} (hL : ∀ l ∈ L, valid L.length l) : ((roundsL L).map List.length).sum = L.length := by
  have hn : ∀ a, ¬ isM (List.replicate L.length false) a := fun a => by
    unfold isM
    by_cases h : a < L.length <;> simp [List.getD_eq_getElem?_getD, h]
  have ho : ∀ n, openN (List.replicate n false) = n := fun n => by
    induction n with
    | zero => rfl
    | succ n ih => simp [List.replicate_succ, openN, ih]; omega
  unfold roundsL
  rw [roundsGo_sum (equ_mat hL) _ _ _ _ (by omega) (by simp) fun a ha => ⟨fun h => (hn a h).elim, fun ⟨j, h, _⟩ => by omega⟩, ho]
  simp
end Go.V
