/-
  Plain: whom a rule reaches. No program in sight.
-/
import Derived.Test.YtcccmnppfmfkiaaDoorP2
set_option linter.unusedVariables false
set_option linter.unusedSimpArgs false
namespace Go.V
open Go

def isM (m : List Bool) (k : Nat) : Prop := m.getD k false = true
def visitL (m : List Bool) (o : List Int) : List Int → List Bool × List Int
  | [] => (m, o)
  | k :: ks => bif m.getD k.toNat false then visitL m o ks else visitL (m.set k.toNat true) (o ++ [k]) ks
def fromGo (L : List (List Int)) : Nat → List Bool → List Int → List Bool
  | 0, m, _ => m
  | f + 1, m, o => match o.getLast? with
    | none => m
    | some w => bif decide (0 < (visitL m o.dropLast (L.getD w.toNat [])).2.length) then fromGo L f (visitL m o.dropLast (L.getD w.toNat [])).1 (visitL m o.dropLast (L.getD w.toNat [])).2 else (visitL m o.dropLast (L.getD w.toNat [])).1
def fromL (L : List (List Int)) (i : Nat) : List Bool := fromGo L (2 * L.length + 2) ((List.replicate L.length false).set i true) [(i : Int)]

/-- How many are not marked. -/
def openN : List Bool → Nat
  | [] => 0
  | b :: s => (bif b then 0 else 1) + openN s
theorem openN_set : ∀ (m : List Bool) (k : Nat), k < m.length → m.getD k false = false → openN (m.set k true) + 1 = openN m
  | b :: m, 0, _, h => by
    have : b = false := by simpa using h
    subst this
    simp [openN]
    omega
  | b :: m, k + 1, hk, h => by
    have := openN_set m k (by simpa using hk) (by simpa using h)
    simp only [List.set_cons_succ, openN]
    omega
theorem openN_le (m : List Bool) : openN m ≤ m.length := by
  induction m with
  | nil => simp [openN]
  | cons b m ih =>
    simp only [openN, List.length_cons]
    cases b <;> simp <;> omega

theorem isM_set {m : List Bool} {k a : Nat} (hk : k < m.length) : isM (m.set k true) a ↔ a = k ∨ isM m a := by
  unfold isM
  simp only [List.getD_eq_getElem?_getD, List.getElem?_set]
  by_cases e : k = a
  · subst e
    simp [hk]
  · rw [if_neg e]
    constructor
    · exact .inr
    · rintro (h | h)
      · exact (e h.symm).elim
      · exact h

def valid (n : Nat) (l : List Int) : Prop := ∀ k ∈ l, 0 ≤ k ∧ k < n
structure Visited (m : List Bool) (o ks : List Int) (r : List Bool × List Int) : Prop where
  len : r.1.length = m.length
  mono : ∀ a, isM m a → isM r.1 a
  all : ∀ k ∈ ks, isM r.1 k.toNat
  only : ∀ a, isM r.1 a → isM m a ∨ ((a : Int) ∈ ks ∧ (a : Int) ∈ r.2)
  keep : ∀ k ∈ o, k ∈ r.2
  news : ∀ k ∈ r.2, k ∈ o ∨ (k ∈ ks ∧ isM r.1 k.toNat)
  mu : 2 * openN r.1 + r.2.length ≤ 2 * openN m + o.length
theorem visitL_ok {n : Nat} : ∀ (ks : List Int) (m : List Bool) (o : List Int), m.length = n → valid n ks → Visited m o ks (visitL m o ks)
  | [], m, o, _, _ => ⟨rfl, fun _ h => h, fun k hk => by simp at hk, fun a h => .inl h, fun k h => h, fun k h => .inl h, Nat.le_refl _⟩
  | k :: ks, m, o, hm, hv => by
    have hk := hv k (by simp)
    have hv' : valid n ks := fun x hx => hv x (by simp [hx])
    have hkl : k.toNat < m.length := by omega
    unfold visitL
    cases hb : m.getD k.toNat false with
    | true =>
      have h := visitL_ok ks m o hm hv'
      simp only [cond_true]
      refine ⟨h.len, h.mono, fun x hx => ?_, fun a ha => ?_, h.keep, fun x hx => ?_, h.mu⟩
      · rcases List.mem_cons.1 hx with rfl | hx
        · exact h.mono _ hb
        · exact h.all x hx
      · rcases h.only a ha with h1 | h1
        · exact .inl h1
        · exact .inr ⟨by simp [h1.1], h1.2⟩
      · rcases h.news x hx with h1 | h1
        · exact .inl h1
        · exact .inr ⟨by simp [h1.1], h1.2⟩
    | false =>
      have h := visitL_ok ks (m.set k.toNat true) (o ++ [k]) (by simpa using hm) hv'
      have hs := openN_set m k.toNat hkl hb
      have hmk : isM (visitL (m.set k.toNat true) (o ++ [k]) ks).1 k.toNat := h.mono _ ((isM_set hkl).2 (.inl rfl))
      have hko : k ∈ (visitL (m.set k.toNat true) (o ++ [k]) ks).2 := h.keep k (by simp)
      simp only [cond_false]
      refine ⟨by rw [h.len]; simp, fun a ha => h.mono a ((isM_set hkl).2 (.inr ha)), fun x hx => ?_, fun a ha => ?_, fun x hx => h.keep x (by simp [hx]), fun x hx => ?_, ?_⟩
      · rcases List.mem_cons.1 hx with rfl | hx
        · exact hmk
        · exact h.all x hx
      · rcases h.only a ha with h1 | h1
        · rcases (isM_set hkl).1 h1 with rfl | h1
          · have e : ((k.toNat : Nat) : Int) = k := by omega
            rw [e]
            exact .inr ⟨by simp, hko⟩
          · exact .inl h1
        · exact .inr ⟨by simp [h1.1], h1.2⟩
      · rcases h.news x hx with h1 | h1
        · simp only [List.mem_append, List.mem_singleton] at h1
          rcases h1 with h1 | rfl
          · exact .inl h1
          · exact .inr ⟨by simp, hmk⟩
        · exact .inr ⟨by simp [h1.1], h1.2⟩
      · have := h.mu
        simp only [List.length_append, List.length_cons, List.length_nil] at this
        omega

/-- Whom one comes to, by whom each one calls. -/
inductive Comes (L : List (List Int)) (i : Nat) : Nat → Prop
  | self : Comes L i i
  | next {a k : Nat} (h : Comes L i a) (hk : (k : Int) ∈ L.getD a []) : Comes L i k

structure FromInv (L : List (List Int)) (i : Nat) (m : List Bool) (o : List Int) : Prop where
  len : m.length = L.length
  val : valid L.length o
  mkd : ∀ k ∈ o, isM m k.toNat
  cl : ∀ a, isM m a → (a : Int) ∈ o ∨ ∀ k ∈ L.getD a [], isM m k.toNat
  rch : ∀ a, isM m a → Comes L i a
  self : isM m i

theorem isM_lt {m : List Bool} {a : Nat} (h : isM m a) : a < m.length := by
  apply Nat.lt_of_not_le
  intro hle
  unfold isM at h
  simp [List.getD_eq_getElem?_getD, hle] at h
theorem FromInv.step {L : List (List Int)} (hL : ∀ l ∈ L, valid L.length l) {i : Nat} {m : List Bool} {o : List Int} {w : Int} (h : FromInv L i m (o ++ [w])) :
    FromInv L i (visitL m o (L.getD w.toNat [])).1 (visitL m o (L.getD w.toNat [])).2 ∧ 2 * openN (visitL m o (L.getD w.toNat [])).1 + (visitL m o (L.getD w.toNat [])).2.length < 2 * openN m + (o ++ [w]).length := by
  have hw := h.val w (by simp)
  have hwl : w.toNat < L.length := by omega
  have hLw : L.getD w.toNat [] = L[w.toNat] := by simp [List.getD_eq_getElem?_getD, hwl]
  have hv : valid L.length (L.getD w.toNat []) := by rw [hLw]; exact hL _ (List.getElem_mem hwl)
  have v := visitL_ok (L.getD w.toNat []) m o h.len hv
  have hwm := h.mkd w (by simp)
  have hwc := h.rch _ hwm
  refine ⟨⟨v.len.trans h.len, fun k hk => ?_, fun k hk => ?_, fun a ha => ?_, fun a ha => ?_, v.mono _ h.self⟩, ?_⟩
  · rcases v.news k hk with h1 | h1
    · exact h.val k (by simp [h1])
    · exact hv k h1.1
  · rcases v.news k hk with h1 | h1
    · exact v.mono _ (h.mkd k (by simp [h1]))
    · exact h1.2
  · rcases v.only a ha with h1 | h1
    · rcases h.cl a h1 with h2 | h2
      · simp only [List.mem_append, List.mem_singleton] at h2
        rcases h2 with h2 | h2
        · exact .inl (v.keep _ h2)
        · have e : a = w.toNat := by omega
          subst e
          exact .inr v.all
      · exact .inr fun k hk => v.mono _ (h2 k hk)
    · exact .inl h1.2
  · rcases v.only a ha with h1 | h1
    · exact h.rch a h1
    · exact .next hwc h1.1
  · have := v.mu
    simp only [List.length_append, List.length_cons, List.length_nil]
    omega

structure FromSays (L : List (List Int)) (i : Nat) (m : List Bool) : Prop where
  len : m.length = L.length
  iff : ∀ a, isM m a ↔ Comes L i a
theorem FromInv.done {L : List (List Int)} {i : Nat} {m : List Bool} (hL : ∀ l ∈ L, valid L.length l) (h : FromInv L i m []) : FromSays L i m := by
  refine ⟨h.len, fun a => ⟨h.rch a, fun hc => ?_⟩⟩
  induction hc with
  | self => exact h.self
  | next hc hk ih =>
    rcases h.cl _ ih with h1 | h1
    · simp at h1
    · simpa using h1 _ hk
theorem FromInv.start {L : List (List Int)} {i : Nat} (hi : i < L.length) : FromInv L i ((List.replicate L.length false).set i true) [(i : Int)] := by
  have hn : ∀ a, ¬ isM (List.replicate L.length false) a := fun a => by
    unfold isM
    by_cases h : a < L.length <;> simp [List.getD_eq_getElem?_getD, h]
  have hs : ∀ a, isM ((List.replicate L.length false).set i true) a ↔ a = i := fun a => by
    rw [isM_set (by simpa using hi)]
    exact ⟨fun h => h.resolve_right (hn a), .inl⟩
  refine ⟨by simp, fun k hk => ?_, fun k hk => ?_, fun a ha => ?_, fun a ha => ?_, (hs i).2 rfl⟩
  · simp only [List.mem_singleton] at hk
    omega
  · simp only [List.mem_singleton] at hk
    subst hk
    simpa using (hs i).2 rfl
  · rw [(hs a).1 ha]
    exact .inl (by simp)
  · rw [(hs a).1 ha]
    exact .self
theorem fromGo_ok {L : List (List Int)} (hL : ∀ l ∈ L, valid L.length l) {i : Nat} : ∀ (f : Nat) (m : List Bool) (o : List Int), FromInv L i m o → o ≠ [] → 2 * openN m + o.length ≤ f → FromSays L i (fromGo L f m o)
  | 0, m, o, h, ho, hf => by
    exact (ho (List.eq_nil_of_length_eq_zero (by omega))).elim
  | f + 1, m, o, h, ho, hf => by
    obtain ⟨o', w, rfl⟩ : ∃ o' w, o = o' ++ [w] := by
      rcases List.eq_nil_or_concat o with h1 | ⟨r, p, h1⟩
      · exact (ho h1).elim
      · exact ⟨r, p, by simpa using h1⟩
    obtain ⟨h1, h2⟩ := h.step hL
    unfold fromGo
    simp only [List.getLast?_concat, List.dropLast_concat]
    cases hb : decide (0 < (visitL m o' (L.getD w.toNat [])).2.length) with
    | true =>
      simp only [cond_true]
      refine fromGo_ok hL f _ _ h1 (fun e => ?_) (by omega)
      rw [e] at hb
      simp at hb
    | false =>
      simp only [cond_false]
      have e : (visitL m o' (L.getD w.toNat [])).2 = [] := List.eq_nil_of_length_eq_zero (by simpa using hb)
      rw [e] at h1
      exact h1.done hL
theorem fromL_ok {L : List (List Int)} (hL : ∀ l ∈ L, valid L.length l) {i : Nat} (hi : i < L.length) : FromSays L i (fromL L i) := by
  refine fromGo_ok hL _ _ _ (.start hi) (by simp) ?_
  have := openN_le ((List.replicate L.length false).set i true)
  simp only [List.length_set, List.length_replicate, List.length_cons, List.length_nil] at this ⊢
  omega
end Go.V
