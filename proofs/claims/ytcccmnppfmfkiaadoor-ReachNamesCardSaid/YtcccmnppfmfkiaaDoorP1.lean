/-
  Plain laws on right trees: what comes of each node out of what comes of its children; sums over a tree's nodes. No program in sight.
-/
import Derived.Test.YtcccmnppfmfkiaaDoorW4
set_option linter.unusedVariables false
set_option linter.unusedSimpArgs false
namespace Go.V
open Go

/-- What each node comes to, out of what its children come to ('f d g': g tells what a child comes to). -/
def tab {α : Type} (z : α) (f : Nd → (Int → α) → α) : List Nd → List α → List α
  | [], acc => acc
  | d :: ds, acc => tab z f ds (acc ++ [f d fun k => acc.getD k.toNat z])

section
variable {α : Type} {z : α} {f : Nd → (Int → α) → α}
theorem tab_len : ∀ (ds : List Nd) (acc : List α), (tab z f ds acc).length = acc.length + ds.length
  | [], acc => by simp [tab]
  | d :: ds, acc => by rw [tab, tab_len ds]; simp; omega
theorem tab_pre : ∀ (ds : List Nd) (acc : List α) (j : Nat), j < acc.length → (tab z f ds acc)[j]? = acc[j]?
  | [], acc, j, _ => rfl
  | d :: ds, acc, j, h => by
    rw [tab, tab_pre ds _ j (by simp; omega), List.getElem?_append_left h]
theorem tab_at : ∀ (ds : List Nd) (acc : List α) (j : Nat) (h : j < ds.length),
    (tab z f ds acc)[acc.length + j]? = some (f ds[j] fun k => ((tab z f ds acc).take (acc.length + j)).getD k.toNat z)
  | d :: ds, acc, 0, _ => by
    rw [tab, Nat.add_zero, tab_pre ds _ acc.length (by simp)]
    simp only [List.getElem?_concat_length, List.getElem_cons_zero, Option.some.injEq]
    congr 1
    funext k
    have : (tab z f ds (acc ++ [f d fun k => acc.getD k.toNat z])).take acc.length = acc := by
      apply List.ext_getElem?
      intro i
      rw [List.getElem?_take]
      split
      · rename_i hi
        rw [tab_pre ds _ i (by simp; omega), List.getElem?_append_left hi]
      · rw [List.getElem?_eq_none (by omega)]
    rw [this]
  | d :: ds, acc, j + 1, h => by
    have := tab_at ds (acc ++ [f d fun k => acc.getD k.toNat z]) j (by simpa using h)
    rw [tab]
    simp only [List.length_append, List.length_cons, List.length_nil, Nat.zero_add, List.getElem_cons_succ] at this ⊢
    rw [show acc.length + (j + 1) = acc.length + 1 + j from by omega]
    exact this

/-- What a node of a right tree comes to. -/
def tabOf (z : α) (f : Nd → (Int → α) → α) (ns : List Nd) (k : Int) : α := (tab z f ns []).getD k.toNat z
theorem tabOf_eq (hf : ∀ d g g', (∀ k ∈ d.kids, g k = g' k) → f d g = f d g') {t : Tr} (hr : right t = true) {j : Nat} (hj : j < t.ns.length) : tabOf z f t.ns j = f t.ns[j] (tabOf z f t.ns) := by
  have h := tab_at (z := z) (f := f) t.ns [] j hj
  simp only [List.length_nil, Nat.zero_add] at h
  unfold tabOf
  rw [List.getD_eq_getElem?_getD, show ((j : Int).toNat) = j from by omega, h, Option.getD_some]
  refine hf _ _ _ fun k hk => ?_
  have := right_kids hr j hj k hk
  rw [List.getD_eq_getElem?_getD, List.getD_eq_getElem?_getD, List.getElem?_take, if_pos (by omega)]
end

/-! ### Sums over a right tree's nodes -/
def free (g : Nat → Nat) (s : List Bool) : Nat → Nat
  | 0 => 0
  | i + 1 => free g s i + (bif s.getD i false then 0 else g i)
theorem free_set_ge {g : Nat → Nat} {s : List Bool} {k : Nat} : ∀ {i : Nat}, i ≤ k → free g (s.set k true) i = free g s i
  | 0, _ => rfl
  | i + 1, h => by
    unfold free
    rw [free_set_ge (by omega)]
    simp only [List.getD_eq_getElem?_getD, List.getElem?_set]
    rw [if_neg (by omega)]
theorem free_set {g : Nat → Nat} {s : List Bool} {k : Nat} (hs : s.getD k false = false) (hl : k < s.length) : ∀ {i : Nat}, k < i → free g (s.set k true) i + g k = free g s i
  | i + 1, h => by
    unfold free
    by_cases e : i = k
    · subst e
      rw [free_set_ge (Nat.le_refl _), hs]
      simp [List.getD_eq_getElem?_getD, hl]
    · have := free_set (g := g) hs hl (i := i) (by omega)
      simp only [List.getD_eq_getElem?_getD, List.getElem?_set] at this ⊢
      rw [if_neg (by omega)]
      omega
def sumOf (g : Int → Nat) (ks : List Int) : Nat := (ks.map g).sum
theorem free_kids {g : Nat → Nat} {i : Nat} : ∀ {ks : List Int} {s s' : List Bool}, kidsOk i ks s = some s' → i ≤ s.length → s'.length = s.length ∧ free g s' i + sumOf (fun k => g k.toNat) ks = free g s i
  | [], s, s', h, _ => by
    simp only [kidsOk, Option.some.injEq] at h
    subst h
    exact ⟨rfl, rfl⟩
  | x :: ks, s, s', h, hl => by
    unfold kidsOk at h
    cases hb : (decide (x < 0) || (decide ((i : Int) ≤ x) || s.getD x.toNat false)) with
    | true => rw [hb] at h; cases h
    | false =>
      rw [hb] at h
      simp only [Bool.or_eq_false_iff, decide_eq_false_iff_not] at hb
      obtain ⟨h1, h2, h3⟩ := hb
      obtain ⟨e1, e2⟩ := free_kids (g := g) h (by simpa using hl)
      have e3 := free_set (g := g) h3 (by omega) (i := i) (by omega)
      refine ⟨by simpa using e1, ?_⟩
      simp only [sumOf, List.map_cons, List.sum_cons] at e2 ⊢
      omega
theorem free_nodes {g : Nat → Nat} {c : Nd → Nat} : ∀ {ds : List Nd} {i : Nat} {s s' : List Bool}, nodesOk i ds s = some s' → i + ds.length ≤ s.length → (∀ j (h : j < ds.length), g (i + j) ≤ c ds[j] + sumOf (fun k => g k.toNat) ds[j].kids) →
    s'.length = s.length ∧ free g s' (i + ds.length) ≤ free g s i + (ds.map c).sum
  | [], i, s, s', h, _, _ => by
    simp only [nodesOk, Option.some.injEq] at h
    subst h
    simp
  | d :: ds, i, s, s', h, hl, hg => by
    unfold nodesOk at h
    cases hf : fits d d.kids.length with
    | false => rw [hf] at h; cases h
    | true =>
      rw [hf] at h
      simp only [cond_true] at h
      cases ho : kidsOk i d.kids s with
      | none => rw [ho] at h; cases h
      | some s1 =>
        rw [ho] at h
        simp only [List.length_cons] at hl
        obtain ⟨e1, e2⟩ := free_kids (g := g) ho (by omega)
        obtain ⟨e3, e4⟩ := free_nodes (g := g) (c := c) h (by omega) (fun j hj => by
          have := hg (j + 1) (by simp; omega)
          simp only [List.getElem_cons_succ] at this
          rw [show i + 1 + j = i + (j + 1) from by omega]
          exact this)
        have h0 := hg 0 (by simp)
        simp only [Nat.add_zero, List.getElem_cons_zero] at h0
        refine ⟨by omega, ?_⟩
        have e5 : free g s1 (i + 1) ≤ free g s1 i + g i := by
          show free g s1 i + _ ≤ _
          cases s1.getD i false <;> simp
        simp only [List.length_cons, List.map_cons, List.sum_cons]
        rw [show i + (ds.length + 1) = i + 1 + ds.length from by omega]
        omega
theorem rootOk_root {root : Int} : ∀ {s : List Bool} {i : Nat}, rootOk root i s = true → ∀ j, j < s.length → (i + j : Nat) = root → s.getD j false = false
  | b :: s, i, h, j, hj, e => by
    unfold rootOk at h
    cases hb : (b == decide ((i : Int) = root)) with
    | true => rw [hb] at h; cases h
    | false =>
      rw [hb] at h
      cases j with
      | zero =>
        have : decide ((i : Int) = root) = true := by simpa using e
        rw [this] at hb
        simpa using hb
      | succ j =>
        have := rootOk_root (i := i + 1) h j (by simpa using hj) (by omega)
        simpa using this
theorem free_ge {g : Nat → Nat} {s : List Bool} {k : Nat} (hk : s.getD k false = false) : ∀ {n : Nat}, k < n → g k ≤ free g s n
  | n + 1, h => by
    unfold free
    by_cases e : n = k
    · subst e
      rw [hk]
      simp
    · have := free_ge (g := g) hk (n := n) (by omega)
      omega
theorem right_sum {t : Tr} (hr : right t = true) {g : Int → Nat} {c : Nd → Nat} (h : ∀ j (hj : j < t.ns.length), g j ≤ c t.ns[j] + sumOf g t.ns[j].kids) : g t.root ≤ (t.ns.map c).sum := by
  have hroot := right_root hr
  have hk := right_kids hr
  unfold right at hr
  simp only [Bool.and_eq_true] at hr
  obtain ⟨_, _, hr⟩ := hr
  split at hr
  · rename_i s hs
    obtain ⟨e1, e2⟩ := free_nodes (g := fun k => g k) (c := c) hs (by simp) (fun j hj => by
      refine Nat.le_trans (by rw [Nat.zero_add]; exact h j hj) (Nat.le_of_eq ?_)
      congr 1
      unfold sumOf
      congr 1
      refine List.map_congr_left fun k hkk => ?_
      have := hk j hj k hkk
      rw [Int.toNat_of_nonneg this.1])
    simp only [List.length_replicate, Nat.zero_add] at e1 e2
    have hz := rootOk_root hr t.root.toNat (by omega) (by omega)
    have := free_ge (g := fun k => g k) hz (n := t.ns.length) (by omega)
    rw [Int.toNat_of_nonneg hroot.1] at this
    simp only [free] at e2
    omega
  · cases hr
theorem right_fits {t : Tr} (hr : right t = true) {j : Nat} (hj : j < t.ns.length) : fits t.ns[j] t.ns[j].kids.length = true := by
  have aux : ∀ {ds : List Nd} {i : Nat} {s s' : List Bool}, nodesOk i ds s = some s' → ∀ j (h : j < ds.length), fits ds[j] ds[j].kids.length = true := by
    intro ds
    induction ds with
    | nil => intro i s s' _ j hj; cases hj
    | cons d ds ih =>
      intro i s s' h j hj
      unfold nodesOk at h
      cases hf : fits d d.kids.length with
      | false => rw [hf] at h; cases h
      | true =>
        rw [hf] at h
        simp only [cond_true] at h
        cases ho : kidsOk i d.kids s with
        | none => rw [ho] at h; cases h
        | some s1 =>
          rw [ho] at h
          cases j with
          | zero => exact hf
          | succ j => exact ih h j (by simpa using hj)
  unfold right at hr
  simp only [Bool.and_eq_true] at hr
  obtain ⟨_, _, hr⟩ := hr
  split at hr
  · rename_i s hs
    exact aux hs j hj
  · cases hr
end Go.V
