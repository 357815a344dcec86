/-
  Part 7 of what the proofs of this seat share: the executor, data in memory, walks.
-/
import Derived.Test.YtmijfbjkkllhlaaGreatDoorK4
import Derived.Test.YtmijfbjkkllhlaaGreatDoorK6
import Derived.Test.YtmijfbjkkllhlaaGreatDoorK2

/-
  Plain: least rows that are closed under bodies, by any order; the firsts of nodes. No program in sight.
-/
set_option linter.unusedVariables false
set_option linter.unusedSimpArgs false
namespace Go.V
open Go

/-! ### Rows in any order -/
structure OrdB (α : Type) where
  le : α → α → Prop
  bot : α
  refl : ∀ a, le a a
  trans : ∀ {a b c}, le a b → le b c → le a c
  anti : ∀ {a b}, le a b → le b a → a = b
  low : ∀ a, le bot a
structure LeR {α : Type} (O : OrdB α) (l m : List α) : Prop where
  len : l.length = m.length
  at' : ∀ i, O.le (l.getD i O.bot) (m.getD i O.bot)
section
variable {α : Type} {O : OrdB α}
theorem LeR.refl (l : List α) : LeR O l l := ⟨rfl, fun _ => O.refl _⟩
theorem LeR.trans {a b c : List α} (h : LeR O a b) (h' : LeR O b c) : LeR O a c := ⟨h.len.trans h'.len, fun i => O.trans (h.at' i) (h'.at' i)⟩
theorem LeR.anti {a b : List α} (h : LeR O a b) (h' : LeR O b a) : a = b := by
  apply List.ext_getElem h.len
  intro i h1 h2
  have := O.anti (h.at' i) (h'.at' i)
  simpa [List.getD_eq_getElem?_getD, h1, h2] using this
theorem LeR.of {a b : List α} (hl : a.length = b.length) (h : ∀ i, i < a.length → O.le (a.getD i O.bot) (b.getD i O.bot)) : LeR O a b := ⟨hl, fun i => by
  by_cases hi : i < a.length
  · exact h i hi
  · have e : a.getD i O.bot = O.bot := by simp [List.getD_eq_getElem?_getD, List.getElem?_eq_none (Nat.le_of_not_lt hi)]
    rw [e]
    exact O.low _⟩
theorem LeR.snoc {a b : List α} {x y : α} (h : LeR O a b) (hx : O.le x y) : LeR O (a ++ [x]) (b ++ [y]) := by
  have hl := h.len
  refine .of (by simp [hl]) fun i hi => ?_
  rcases Nat.lt_or_ge i a.length with h1 | h1
  · have h2 : i < b.length := by omega
    have := h.at' i
    simpa [List.getD_eq_getElem?_getD, List.getElem?_append_left h1, List.getElem?_append_left h2] using this
  · have h2 : i = a.length := by simp at hi; omega
    subst h2
    have e1 : (a ++ [x]).getD a.length O.bot = x := by simp [List.getD_eq_getElem?_getD]
    have e2 : (b ++ [y]).getD a.length O.bot = y := by rw [hl]; simp [List.getD_eq_getElem?_getD]
    rw [e1, e2]
    exact hx
theorem set_getR (l : List α) (b : α) (i j : Nat) (x : α) (hi : i < l.length) : (l.set i x).getD j b = if i = j then x else l.getD j b := by
  simp only [List.getD_eq_getElem?_getD, List.getElem?_set]
  by_cases e : i = j
  · subst e
    simp [hi]
  · rw [if_neg e, if_neg e]
def roundR (body : List α → Nat → α) : Nat → Nat → List α → List α
  | _, 0, l => l
  | i, k + 1, l => roundR body (i + 1) k (l.set i (body l i))
/-- On the way to the least row that is closed. -/
structure PreR (O : OrdB α) (n : Nat) (body : List α → Nat → α) (l : List α) : Prop where
  len : l.length = n
  up : ∀ i, i < n → O.le (l.getD i O.bot) (body l i)
  least : ∀ m : List α, m.length = n → (∀ i, i < n → O.le (body m i) (m.getD i O.bot)) → LeR O l m
/-- The least row that is closed. -/
structure IsR (O : OrdB α) (n : Nat) (body : List α → Nat → α) (l : List α) : Prop where
  len : l.length = n
  fix : ∀ i, i < n → l.getD i O.bot = body l i
  least : ∀ m : List α, m.length = n → (∀ i, i < n → O.le (body m i) (m.getD i O.bot)) → LeR O l m
theorem IsR.unique {n : Nat} {body : List α → Nat → α} {l l' : List α} (h : IsR O n body l) (h' : IsR O n body l') : l = l' :=
  LeR.anti (h.least l' h'.len fun i hi => by rw [← h'.fix i hi]; exact O.refl _) (h'.least l h.len fun i hi => by rw [← h.fix i hi]; exact O.refl _)
theorem rep_getR (n i : Nat) (b : α) : (List.replicate n b).getD i b = b := by
  by_cases h : i < n <;> simp [List.getD_eq_getElem?_getD, List.getElem?_replicate, h]
theorem PreR.start (n : Nat) (body : List α → Nat → α) : PreR O n body (List.replicate n O.bot) := by
  refine ⟨by simp, fun i h => ?_, fun m hm _ => ⟨by simp [hm], fun i => ?_⟩⟩
  · rw [rep_getR]; exact O.low _
  · rw [rep_getR]; exact O.low _
section
variable {n : Nat} {body : List α → Nat → α} (hmono : ∀ {l m : List α}, LeR O l m → ∀ i, i < n → O.le (body l i) (body m i))
include hmono
theorem PreR.step {l : List α} (h : PreR O n body l) {i : Nat} (hi : i < n) : PreR O n body (l.set i (body l i)) ∧ LeR O l (l.set i (body l i)) := by
  have hil : i < l.length := by rw [h.len]; exact hi
  have hle : LeR O l (l.set i (body l i)) := .of (by simp) fun j hj => by
    rw [set_getR _ _ _ _ _ hil]
    by_cases e : i = j
    · subst e
      rw [if_pos rfl]
      exact h.up i hi
    · rw [if_neg e]
      exact O.refl _
  refine ⟨⟨by simpa using h.len, fun j hj => ?_, fun m hm hc => ?_⟩, hle⟩
  · rw [set_getR _ _ _ _ _ hil]
    by_cases e : i = j
    · subst e
      rw [if_pos rfl]
      exact hmono hle _ hi
    · rw [if_neg e]
      exact O.trans (h.up j hj) (hmono hle _ hj)
  · have hlm := h.least m hm hc
    refine .of (by simp [h.len, hm]) fun j hj => ?_
    rw [set_getR _ _ _ _ _ hil]
    by_cases e : i = j
    · subst e
      rw [if_pos rfl]
      exact O.trans (hmono hlm _ hi) (hc i hi)
    · rw [if_neg e]
      exact hlm.at' j
theorem roundR_pre : ∀ (k i : Nat) {l : List α}, i + k = n → PreR O n body l → PreR O n body (roundR body i k l) ∧ LeR O l (roundR body i k l) ∧
    (roundR body i k l = l → ∀ j, j < n → i ≤ j → l.getD j O.bot = body l j)
  | 0, i, l, hk, h => ⟨h, LeR.refl l, fun _ j hj hge => by omega⟩
  | k + 1, i, l, hk, h => by
    have hi : i < n := by omega
    have hil : i < l.length := by rw [h.len]; exact hi
    obtain ⟨s1, s2⟩ := h.step hmono hi
    obtain ⟨r1, r2, r3⟩ := roundR_pre k (i + 1) (by omega) s1
    refine ⟨r1, s2.trans r2, fun e j hj hge => ?_⟩
    have e0 : roundR body i (k + 1) l = roundR body (i + 1) k (l.set i (body l i)) := rfl
    have e1 : l.set i (body l i) = l := by
      refine LeR.anti (O := O) ?_ s2
      rw [e0] at e
      rw [e] at r2
      exact r2
    have e2 : roundR body (i + 1) k l = l := by
      rw [e0, e1] at e
      exact e
    rw [e1] at r3
    by_cases hp : j = i
    · subst hp
      have h4 := set_getR l O.bot j j (body l j) hil
      rw [e1, if_pos rfl] at h4
      exact h4
    · exact r3 e2 j hj (by omega)
theorem PreR.done {l : List α} (h : PreR O n body l) (hf : roundR body 0 n l = l) : IsR O n body l :=
  ⟨h.len, fun i hi => (roundR_pre hmono n 0 (Nat.zero_add n) h).2.2 hf i hi (Nat.zero_le _), h.least⟩
end
end

/-! ### How much is out of a set -/
theorem countP_eq_of {α : Type} {p q : α → Bool} : ∀ {l : List α}, (∀ x ∈ l, p x = true → q x = true) → l.countP q ≤ l.countP p → ∀ x ∈ l, q x = true → p x = true
  | [], _, _, x, hx, _ => by cases hx
  | y :: l, h, hle, x, hx, hq => by
    have hm := List.countP_mono_left (p := p) (q := q) (l := l) (fun x hx => h x (.tail _ hx))
    rw [List.countP_cons, List.countP_cons] at hle
    have hy := h y (.head _)
    have key : (q y = true → p y = true) ∧ l.countP q ≤ l.countP p := by
      cases hp : p y <;> cases hqy : q y <;> simp_all <;> omega
    rcases List.mem_cons.1 hx with rfl | hx
    · exact key.1 hq
    · exact countP_eq_of (fun x hx => h x (.tail _ hx)) key.2 x hx hq
def offW (x : BitVec 64) : Nat := (List.range 64).countP fun i => !x.getLsbD i
theorem offW_le {x y : BitVec 64} (h : x &&& y = x) : offW y ≤ offW x ∧ (offW x ≤ offW y → x = y) := by
  have hb : ∀ i, x.getLsbD i = true → y.getLsbD i = true := fun i hx => by
    have := congrArg (fun w : BitVec 64 => w.getLsbD i) h
    simp only [BitVec.getLsbD_and, hx, Bool.true_and] at this
    exact this
  have hp : ∀ i ∈ List.range 64, (!y.getLsbD i) = true → (!x.getLsbD i) = true := fun i _ hi => by
    have h1 := hb i
    cases hx : x.getLsbD i with
    | false => rfl
    | true => rw [h1 hx] at hi; cases hi
  refine ⟨List.countP_mono_left hp, fun hle => ?_⟩
  have := countP_eq_of hp hle
  apply BitVec.eq_of_getLsbD_eq
  intro i hi
  have h1 := hb i
  have h2 := this i (List.mem_range.2 hi)
  cases hx : x.getLsbD i <;> cases hy : y.getLsbD i <;> simp_all
theorem offW_max (x : BitVec 64) : offW x ≤ 64 := by
  have := List.countP_le_length (p := fun i => !x.getLsbD i) (l := List.range 64)
  simpa [offW] using this
def offI (x : Fi) : Nat := (offW x.w.a + offW x.w.b + offW x.w.c + offW x.w.d) + (bif x.f then 0 else 1)
theorem offI_max (x : Fi) : offI x ≤ 257 := by
  have h1 := offW_max x.w.a
  have h2 := offW_max x.w.b
  have h3 := offW_max x.w.c
  have h4 := offW_max x.w.d
  unfold offI
  cases x.f <;> simp <;> omega
theorem offI_le {a b : Fi} (h : a.le b) : offI b ≤ offI a ∧ (offI a ≤ offI b → a = b) := by
  obtain ⟨h1, h2⟩ := h
  obtain ⟨⟨a1, a2, a3, a4⟩, af⟩ := a
  obtain ⟨⟨b1, b2, b3, b4⟩, bf⟩ := b
  have h1 := of_decide_eq_true h1
  simp only [Ws.and, Ws.mk.injEq] at h1
  obtain ⟨g1, g2, g3, g4⟩ := h1
  obtain ⟨p1, q1⟩ := offW_le g1
  obtain ⟨p2, q2⟩ := offW_le g2
  obtain ⟨p3, q3⟩ := offW_le g3
  obtain ⟨p4, q4⟩ := offW_le g4
  simp only at h2
  have hf : (bif bf then 0 else 1) ≤ (bif af then 0 else 1) ∧ ((bif af then 0 else 1) ≤ (bif bf then 0 else 1) → af = bf) := by
    cases af <;> cases bf <;> simp_all
  unfold offI
  simp only
  refine ⟨by omega, fun hle => ?_⟩
  obtain rfl := q1 (by omega)
  obtain rfl := q2 (by omega)
  obtain rfl := q3 (by omega)
  obtain rfl := q4 (by omega)
  obtain rfl := hf.2 (by omega)
  rfl
def OI : OrdB Fi := ⟨Fi.le, fi0, Fi.le_refl, fun h h' => h.trans h', fun h h' => h.antisymm h', Fi.bot⟩
def offsI (l : List Fi) : Nat := (l.map offI).sum
theorem offsI_le : ∀ {l m : List Fi}, LeR OI l m → offsI m ≤ offsI l ∧ (offsI l ≤ offsI m → l = m)
  | [], [], _ => ⟨Nat.le_refl _, fun _ => rfl⟩
  | [], _ :: _, h => by have := h.len; simp at this
  | _ :: _, [], h => by have := h.len; simp at this
  | a :: l, b :: m, h => by
    have h0 : a.le b := h.at' 0
    have ht : LeR OI l m := ⟨by simpa using h.len, fun i => by simpa using h.at' (i + 1)⟩
    obtain ⟨h1, h2⟩ := offI_le h0
    obtain ⟨t1, t2⟩ := offsI_le ht
    simp only [offsI, List.map_cons, List.sum_cons] at t1 t2 ⊢
    refine ⟨by omega, fun h => ?_⟩
    rw [h2 (by omega), t2 (by omega)]
theorem offsI_lt {l m : List Fi} (h : LeR OI l m) (hne : m ≠ l) : offsI m < offsI l := by
  obtain ⟨h1, h2⟩ := offsI_le h
  apply Nat.lt_of_le_of_ne h1
  intro e
  exact hne (h2 (by omega)).symm
theorem offsI_max : ∀ l : List Fi, offsI l ≤ 257 * l.length
  | [] => Nat.le_refl _
  | a :: l => by
    have h1 := offI_max a
    have h2 := offsI_max l
    simp only [offsI, List.map_cons, List.sum_cons, List.length_cons] at h2 ⊢
    omega

/-! ### The firsts of nodes -/
def Ws.at (w : Ws) (i : Nat) : BitVec 64 := bif decide (i = 0) then w.a else bif decide (i = 1) then w.b else bif decide (i = 2) then w.c else w.d
def Ws.one (i : Nat) (x : BitVec 64) : Ws := ⟨bif decide (i = 0) then x else 0, bif decide (i = 1) then x else 0, bif decide (i = 2) then x else 0, bif decide (i = 3) then x else 0⟩
/-- The set of one byte. -/
def byteW (b : UInt8) : Ws := .one (b.toNat / 64) (1#64 <<< (b.toNat % 64))
def ofW (l : List UInt8) : Ws := l.foldl (fun w b => w.or (byteW b)) .zero
def Nd.ws (d : Nd) : Ws := ⟨BitVec.ofInt 64 d.s0, BitVec.ofInt 64 d.s1, BitVec.ofInt 64 d.s2, BitVec.ofInt 64 d.s3⟩
def repFi (d : Nd) (k : Fi) : Fi := bif decide (d.hi = 0) then fiT else ⟨k.w, k.f || decide (d.lo = 0)⟩
def seqFi (ks : List Fi) : Fi := ks.foldl Fi.seq fiT
def chFi (ks : List Fi) : Fi := ks.foldl Fi.choice fi0
def textFi (t : ByteArray) : Fi := ⟨ofW (t.data.toList.take 1), false⟩
/-- What a node's flow and kids come to (of a Rule its only kid is the rule's). -/
def comeFi (d : Nd) (x : Fl) (ks : List Fi) : Fi :=
  bif decide (d.k = 0) then ⟨.zero, x.suc⟩ else
  bif decide (d.k = 1) then ⟨d.ws, false⟩ else
  bif decide (d.k = 2) then textFi d.t else
  bif decide (d.k = 3) then ks.headD fi0 else
  bif decide (d.k = 4) then seqFi ks else
  bif decide (d.k = 5) then chFi ks else
  bif decide (d.k = 6) then repFi d (ks.headD fi0) else
  bif decide (d.k = 7) then ⟨.zero, x.suc⟩ else
  bif decide (d.k = 8) then ⟨.zero, x.suc⟩ else ks.headD fi0
def kidsI (pl : List (ByteArray × Int)) (fl acc : List Fi) (d : Nd) : List Fi :=
  d.kids.map (fun k => acc.getD k.toNat fi0) ++ bif decide (d.k = 3) then [fl.getD ((lookM d.t pl).getD 0).toNat fi0] else []
def nodesI (pl : List (ByteArray × Int)) (fl : List Fi) (xs : List Fl) : List Nd → List Fi → List Fi
  | [], acc => acc
  | d :: ds, acc => nodesI pl fl xs ds (acc ++ [comeFi d (xs.getD acc.length fl0) (kidsI pl fl acc d)])
theorem nodesI_len (pl : List (ByteArray × Int)) (fl : List Fi) (xs : List Fl) : ∀ (ds : List Nd) (acc : List Fi), (nodesI pl fl xs ds acc).length = acc.length + ds.length
  | [], acc => rfl
  | d :: ds, acc => by
    rw [nodesI, nodesI_len]
    simp
    omega
theorem LeI.map {α : Type} {f g : α → Fi} {l : List α} (h : ∀ x ∈ l, (f x).le (g x)) : LeR OI (l.map f) (l.map g) := .of (by simp) fun i hi => by
  have hi' : i < l.length := by simpa using hi
  have := h _ (List.getElem_mem hi')
  simpa [List.getD_eq_getElem?_getD, hi'] using (show OI.le _ _ from this)
theorem fold_mono {f : Fi → Fi → Fi} (hf : ∀ {a b x y : Fi}, a.le b → x.le y → (f a x).le (f b y)) : ∀ {l m : List Fi} {a b : Fi}, LeR OI l m → a.le b → (l.foldl f a).le (m.foldl f b)
  | [], [], _, _, _, h => h
  | [], _ :: _, _, _, h, _ => by have := h.len; simp at this
  | _ :: _, [], _, _, h, _ => by have := h.len; simp at this
  | x :: l, y :: m, a, b, h, h' => fold_mono hf (l := l) (m := m) ⟨by simpa using h.len, fun i => by simpa using h.at' (i + 1)⟩ (hf h' (h.at' 0))
theorem head_mono {l m : List Fi} (h : LeR OI l m) : (l.headD fi0).le (m.headD fi0) := by
  have := h.at' 0
  cases l <;> cases m <;> exact this
theorem comeI_mono (d : Nd) (x : Fl) {a b : List Fi} (h : LeR OI a b) : (comeFi d x a).le (comeFi d x b) := by
  have hh := head_mono h
  unfold comeFi
  cases decide (d.k = 0) with
  | true => exact Fi.le_refl _
  | false =>
  cases decide (d.k = 1) with
  | true => exact Fi.le_refl _
  | false =>
  cases decide (d.k = 2) with
  | true => exact Fi.le_refl _
  | false =>
  cases decide (d.k = 3) with
  | true => exact hh
  | false =>
  cases decide (d.k = 4) with
  | true => exact fold_mono Fi.seq_mono h (Fi.le_refl _)
  | false =>
  cases decide (d.k = 5) with
  | true => exact fold_mono Fi.choice_mono h (Fi.le_refl _)
  | false =>
  cases decide (d.k = 6) with
  | true =>
    simp only [cond_true, cond_false, repFi]
    cases decide (d.hi = 0) with
    | true => exact Fi.le_refl _
    | false =>
      refine ⟨hh.w, ?_⟩
      simp only [cond_false, Bool.or_eq_true]
      exact fun g => g.imp hh.f id
  | false =>
  cases decide (d.k = 7) with
  | true => exact Fi.le_refl _
  | false =>
  cases decide (d.k = 8) with
  | true => exact Fi.le_refl _
  | false => exact hh
theorem LeI.append {a b c d : List Fi} (h : LeR OI a b) (h' : LeR OI c d) : LeR OI (a ++ c) (b ++ d) := by
  have hl := h.len
  have hl' := h'.len
  refine .of (by simp [hl, hl']) fun i hi => ?_
  rcases Nat.lt_or_ge i a.length with h1 | h1
  · have h2 : i < b.length := by omega
    have := h.at' i
    simpa [List.getD_eq_getElem?_getD, List.getElem?_append_left h1, List.getElem?_append_left h2] using this
  · have h2 : b.length ≤ i := by omega
    have := h'.at' (i - a.length)
    simp only [List.getD_eq_getElem?_getD, List.getElem?_append_right h1, List.getElem?_append_right h2] at this ⊢
    rwa [hl] at this ⊢
theorem kidsI_mono {pl : List (ByteArray × Int)} {fl fl' acc acc' : List Fi} (h : LeR OI fl fl') (ha : LeR OI acc acc') (d : Nd) : LeR OI (kidsI pl fl acc d) (kidsI pl fl' acc' d) := by
  unfold kidsI
  refine LeI.append (LeI.map fun k _ => ha.at' _) ?_
  cases decide (d.k = 3) with
  | true =>
    refine .of rfl fun i hi => ?_
    have : i = 0 := by simpa using hi
    subst this
    exact h.at' _
  | false => exact LeR.refl _
theorem nodesI_mono {pl : List (ByteArray × Int)} {fl fl' : List Fi} {xs : List Fl} (h : LeR OI fl fl') : ∀ (ds : List Nd) {acc acc' : List Fi}, LeR OI acc acc' → LeR OI (nodesI pl fl xs ds acc) (nodesI pl fl' xs ds acc')
  | [], _, _, ha => ha
  | d :: ds, acc, acc', ha => by
    rw [nodesI, nodesI, ← ha.len]
    exact nodesI_mono h ds (ha.snoc (comeI_mono d _ (kidsI_mono h ha d)))
/-- The first of a rule's body, by firsts of rules, and the rules' flows. -/
def bodyI (pl : List (ByteArray × Int)) (F : List Fl) (ds : List Df) (l : List Fi) (i : Nat) : Fi := match ds[i]? with
  | some d => (nodesI pl l (nodesF pl F d.t.ns []) d.t.ns []).getD d.t.root.toNat fi0
  | none => fi0
theorem bodyI_mono {pl : List (ByteArray × Int)} {F : List Fl} {ds : List Df} {l m : List Fi} (h : LeR OI l m) (i : Nat) : (bodyI pl F ds l i).le (bodyI pl F ds m i) := by
  unfold bodyI
  split
  · exact (nodesI_mono h _ (LeR.refl _)).at' _
  · exact Fi.le_refl _
/-- The least firsts that are closed. -/
def IsFirst (ds : List Df) (F : List Fl) (l : List Fi) : Prop := IsR OI ds.length (bodyI (placesL ds) F ds) l
def PreI (ds : List Df) (F : List Fl) (l : List Fi) : Prop := PreR OI ds.length (bodyI (placesL ds) F ds) l
end Go.V

/-
  Walks: set.Of; the first of a node, out of its kids'.
-/
set_option linter.unusedVariables false
set_option linter.unusedSimpArgs false
namespace Go.V
open Go Go.Proofs

theorem shl_bit {k : Nat} (hk : k < 64) : IntKind.u64.wrap (1 * 2 ^ (min k IntKind.u64.bits)) = ((1#64 <<< k).toNat : Int) := by
  have h1 : (1#64 <<< k).toNat = 2 ^ k := by
    rw [BitVec.toNat_shiftLeft, Nat.shiftLeft_eq]
    have : 2 ^ k < 2 ^ 64 := Nat.pow_lt_pow_right (by decide) hk
    simp only [BitVec.toNat_ofNat]
    rw [Nat.mod_eq_of_lt (by decide : 1 < 2 ^ 64), Nat.one_mul]
    exact Nat.mod_eq_of_lt this
  have h2 : min k IntKind.u64.bits = k := by simp only [IntKind.bits]; omega
  have h3 : 2 ^ k < 2 ^ 64 := Nat.pow_lt_pow_right (by decide) hk
  rw [h1, h2, Int.one_mul]
  have e : ((2 : Int) ^ k) = ((2 ^ k : Nat) : Int) := by simp
  rw [e]
  generalize 2 ^ k = q at h3
  unfold IntKind.wrap
  simp only [IntKind.bits, IntKind.signed]
  simp
  omega
theorem ofW_snoc (l : List UInt8) (b : UInt8) : ofW (l ++ [b]) = (ofW l).or (byteW b) := by simp [ofW]
set_option maxHeartbeats 1000000 in
theorem Of_spec {I : GH} {M : List Blk} (s : ByteArray) (hs : s.size ≤ 140737488355328) : Spec Tryz.prog 87 [.string s] I M fun r I' M' => r = (ofW s.data.toList).val ∧ I' = I ∧ M' = M := by
  refine spec_of_V [] TryzEOK Tryz.func87 rfl rfl rfl ?_
  intro B h0
  have hsz : s.data.toList.length = s.size := Array.length_toList
  refine LoopOb.inv (ι := Nat) (fun i => { fl := [(0, .val (.string s)), (2, .ref 2 0), (3, .ref 3 0), (4, .val (.int .i64 i))], cl := [(2, Ws.zero.cells), (3, (ofW (s.data.toList.take i)).cells)], gi := I, mi := M }) (fun i => i ≤ s.size) (fun i => s.size - i) ?_ ?_
  · exact ⟨0, Nat.zero_le _, .refl, .cons .refl (.cons .refl (.cons .refl (.cons .refl (.nil)))), .cons rfl (.cons rfl (.nil))⟩
  intro i hi
  refine CondOb.mk (fun h => ?_) (fun h => ?_)
  rotate_left
  · have hge : s.size ≤ i := by have : ¬ (i : Int) < (s.size : Int) := of_decide_eq_false h; omega
    have hw : s.data.toList.take i = s.data.toList := List.take_of_length_le (by omega)
    refine ⟨_, _, .refl, ?_, rfl, rfl⟩
    show (ofW (s.data.toList.take i)).val = _
    rw [hw]
  have hlt : i < s.size := by have : (i : Int) < (s.size : Int) := of_decide_eq_true h; omega
  have hget : s.data.toList[i]'(by omega) = s[i] := by rw [Array.getElem_toList]; rfl
  have hnext : ofW (s.data.toList.take (i + 1)) = (ofW (s.data.toList.take i)).or (byteW s[i]) := by
    rw [List.take_succ_eq_append_getElem (by omega), ofW_snoc, hget]
  generalize ofW (s.data.toList.take i) = w at hnext
  have hb := s[i].toNat_lt
  have em : ((s[i].toNat : Int)).tmod 64 = ((s[i].toNat % 64 : Nat) : Int) := rfl
  have ed : ((s[i].toNat : Int)).tdiv 64 = ((s[i].toNat / 64 : Nat) : Int) := rfl
  refine CodeOb.draw TryzEOK rfl rfl rfl ?_
  refine StrOb.mk i rfl hlt ?_
  refine DivOb.mk (by decide) ?_
  rcases (by omega : s[i].toNat / 64 = 0 ∨ s[i].toNat / 64 = 1 ∨ s[i].toNat / 64 = 2 ∨ s[i].toNat / 64 = 3) with hj | hj | hj | hj
  · refine ArithOb.mk 0 (by rw [ed, hj]; decide) ?_
    refine ArrOb.mk 0 rfl (by decide) ?_
    refine StrOb.mk i rfl hlt ?_
    refine DivOb.mk (by decide) ?_
    refine ShOb.mk (s[i].toNat % 64) em ?_
    refine ArithOb.mk _ (shl_bit (by omega)) ?_
    refine ArrOb.mk 0 rfl (by decide) ?_
    refine ArithOb.mk _ (next_wr (i := i) (by omega)) ?_
    refine ⟨i + 1, ⟨hlt, by omega⟩, .refl, .cons .refl (.cons .refl (.cons .refl (.cons .refl (.nil)))), .cons rfl (.cons ?_ .nil)⟩
    rw [hnext, show byteW s[i] = Ws.one 0 (1#64 <<< (s[i].toNat % 64)) by rw [byteW, hj]]
    refine congrArg some ?_
    show ([.int .u64 (worV w.a.toNat (1#64 <<< (s[i].toNat % 64)).toNat), .int .u64 w.b.toNat, .int .u64 w.c.toNat, .int .u64 w.d.toNat] : List Value) = _
    rw [worV_bv]
    simp [Ws.cells, Ws.or, Ws.one]
  · refine ArithOb.mk 1 (by rw [ed, hj]; decide) ?_
    refine ArrOb.mk 1 rfl (by decide) ?_
    refine StrOb.mk i rfl hlt ?_
    refine DivOb.mk (by decide) ?_
    refine ShOb.mk (s[i].toNat % 64) em ?_
    refine ArithOb.mk _ (shl_bit (by omega)) ?_
    refine ArrOb.mk 1 rfl (by decide) ?_
    refine ArithOb.mk _ (next_wr (i := i) (by omega)) ?_
    refine ⟨i + 1, ⟨hlt, by omega⟩, .refl, .cons .refl (.cons .refl (.cons .refl (.cons .refl (.nil)))), .cons rfl (.cons ?_ .nil)⟩
    rw [hnext, show byteW s[i] = Ws.one 1 (1#64 <<< (s[i].toNat % 64)) by rw [byteW, hj]]
    refine congrArg some ?_
    show ([.int .u64 w.a.toNat, .int .u64 (worV w.b.toNat (1#64 <<< (s[i].toNat % 64)).toNat), .int .u64 w.c.toNat, .int .u64 w.d.toNat] : List Value) = _
    rw [worV_bv]
    simp [Ws.cells, Ws.or, Ws.one]
  · refine ArithOb.mk 2 (by rw [ed, hj]; decide) ?_
    refine ArrOb.mk 2 rfl (by decide) ?_
    refine StrOb.mk i rfl hlt ?_
    refine DivOb.mk (by decide) ?_
    refine ShOb.mk (s[i].toNat % 64) em ?_
    refine ArithOb.mk _ (shl_bit (by omega)) ?_
    refine ArrOb.mk 2 rfl (by decide) ?_
    refine ArithOb.mk _ (next_wr (i := i) (by omega)) ?_
    refine ⟨i + 1, ⟨hlt, by omega⟩, .refl, .cons .refl (.cons .refl (.cons .refl (.cons .refl (.nil)))), .cons rfl (.cons ?_ .nil)⟩
    rw [hnext, show byteW s[i] = Ws.one 2 (1#64 <<< (s[i].toNat % 64)) by rw [byteW, hj]]
    refine congrArg some ?_
    show ([.int .u64 w.a.toNat, .int .u64 w.b.toNat, .int .u64 (worV w.c.toNat (1#64 <<< (s[i].toNat % 64)).toNat), .int .u64 w.d.toNat] : List Value) = _
    rw [worV_bv]
    simp [Ws.cells, Ws.or, Ws.one]
  · refine ArithOb.mk 3 (by rw [ed, hj]; decide) ?_
    refine ArrOb.mk 3 rfl (by decide) ?_
    refine StrOb.mk i rfl hlt ?_
    refine DivOb.mk (by decide) ?_
    refine ShOb.mk (s[i].toNat % 64) em ?_
    refine ArithOb.mk _ (shl_bit (by omega)) ?_
    refine ArrOb.mk 3 rfl (by decide) ?_
    refine ArithOb.mk _ (next_wr (i := i) (by omega)) ?_
    refine ⟨i + 1, ⟨hlt, by omega⟩, .refl, .cons .refl (.cons .refl (.cons .refl (.cons .refl (.nil)))), .cons rfl (.cons ?_ .nil)⟩
    rw [hnext, show byteW s[i] = Ws.one 3 (1#64 <<< (s[i].toNat % 64)) by rw [byteW, hj]]
    refine congrArg some ?_
    show ([.int .u64 w.a.toNat, .int .u64 w.b.toNat, .int .u64 w.c.toNat, .int .u64 (worV w.d.toNat (1#64 <<< (s[i].toNat % 64)).toNat)] : List Value) = _
    rw [worV_bv]
    simp [Ws.cells, Ws.or, Ws.one]

section
variable {I : GH} {M : List Blk} {d : Nd} {x : Fl} {a : Option Addr} {n c : Nat} {ks : List Fi}
theorem IsAt.head (hk : IsAt I M a n ks) (h0 : 0 < n) : ∃ ad, a = some ad ∧ Rd I M (ad.add (0 * 5)) 5 (ks.headD fi0).cells := by
  have h1 : 0 < ks.length := by rw [hk.n]; exact h0
  obtain ⟨ad, h2, h3⟩ := hk.rd 0 h1
  refine ⟨ad, h2, ?_⟩
  cases ks with
  | nil => simp at h1
  | cons k ks => exact h3
theorem iFlows_spec : Spec Tryz.prog 156 [d.val, x.val, .slice a n c] I M fun v I' M' => v = Fi.val ⟨.zero, x.suc⟩ ∧ I' = I ∧ M' = M := by
  refine spec_of_V [] TryzEOK Tryz.func156 rfl rfl rfl ?_
  intro B h0
  refine CallOb.mk M [] _ perm_nil (Suc_spec x) ?_
  rintro v I' M' - ⟨rfl, rfl, rfl⟩
  rw [List.append_nil]
  exact ⟨_, _, .refl, rfl, rfl, rfl⟩
theorem bv_int {z : Int} (h : u64ok z) : ((BitVec.ofInt 64 z).toNat : Int) = z := by
  obtain ⟨w, rfl⟩ := bv_of h
  rw [bv_ofInt]
theorem iBytes_spec (hd : u64ok d.s0 ∧ u64ok d.s1 ∧ u64ok d.s2 ∧ u64ok d.s3) : Spec Tryz.prog 157 [d.val, x.val, .slice a n c] I M fun v I' M' => v = Fi.val ⟨d.ws, false⟩ ∧ I' = I ∧ M' = M := by
  refine spec_of_V [] TryzEOK Tryz.func157 rfl rfl rfl ?_
  intro B h0
  refine ⟨_, _, .refl, ?_, rfl, rfl⟩
  obtain ⟨h0, h1, h2, h3⟩ := hd
  simp only [Fi.val, Nd.ws, bv_int h0, bv_int h1, bv_int h2, bv_int h3]
  rfl
theorem iText_spec (h1 : 1 ≤ d.t.size) : Spec Tryz.prog 158 [d.val, x.val, .slice a n c] I M fun v I' M' => v = (textFi d.t).val ∧ I' = I ∧ M' = M := by
  refine spec_of_V [] TryzEOK Tryz.func158 rfl rfl rfl ?_
  intro B h0
  refine SliceOb.mk 0 1 rfl rfl (by decide) h1 ?_
  have hl : (d.t.extract 0 1).data.toList = d.t.data.toList.take 1 := by simp
  refine CallOb.mk M [] _ perm_nil (Of_spec (d.t.extract 0 1) (by simp; omega)) ?_
  rintro v I' M' - ⟨rfl, rfl, rfl⟩
  rw [List.append_nil]
  refine ⟨_, _, .refl, ?_, rfl, rfl⟩
  rw [hl]
  rfl
theorem iItself_spec (hk : IsAt I M a n ks) (h0 : 0 < n) : Spec Tryz.prog 159 [d.val, x.val, .slice a n c] I M fun v I' M' => v = (ks.headD fi0).val ∧ I' = I ∧ M' = M := by
  refine spec_of_V [] TryzEOK Tryz.func159 rfl rfl rfl ?_
  intro B h0'
  obtain ⟨ad, had, hrd⟩ := hk.head h0
  refine IdxOb.mk ad 0 had rfl h0 ?_
  refine LoadOb.mk _ hrd ?_
  exact ⟨_, _, .refl, rfl, rfl, rfl⟩
theorem iRep_spec (hk : IsAt I M a n ks) (h0 : 0 < n) : Spec Tryz.prog 162 [d.val, x.val, .slice a n c] I M fun v I' M' => v = (repFi d (ks.headD fi0)).val ∧ I' = I ∧ M' = M := by
  refine spec_of_V [] TryzEOK Tryz.func162 rfl rfl rfl ?_
  intro B h0'
  obtain ⟨ad, had, hrd⟩ := hk.head h0
  generalize ks.headD fi0 = k at hrd
  obtain ⟨⟨k0, k1, k2, k3⟩, kf⟩ := k
  refine CondOb.mk (fun h => ?_) (fun h => ?_)
  · refine ⟨_, _, .refl, ?_, rfl, rfl⟩
    simp [repFi, h]
    rfl
  refine CodeOb.draw TryzEOK rfl rfl rfl ?_
  refine IdxOb.mk ad 0 had rfl h0 ?_
  refine LoadOb.mk _ (hrd.part (k := 0) (m := 4) (by decide)) ?_
  refine IdxOb.mk ad 0 had rfl h0 ?_
  refine LoadOb.mk _ (hrd.part (k := 4) (m := 1) (by decide)) ?_
  refine GuardOb.mk (fun h2 => ?_) (fun h2 => ?_)
  all_goals
    have hf : kf = _ := h2
    subst hf
    refine ⟨_, _, .refl, ?_, rfl, rfl⟩
    simp [repFi, h]
    rfl
theorem iChoice_spec (hk : IsAt I M a n ks) (hn : n ≤ 140737488355328) : Spec Tryz.prog 161 [d.val, x.val, .slice a n c] I M fun v I' M' => v = (chFi ks).val ∧ I' = I ∧ M' = M := by
  refine spec_of_V [] TryzEOK Tryz.func161 rfl rfl rfl ?_
  intro B h0'
  have hkn := hk.n
  refine LoopOb.inv (ι := Nat × Fi) (fun s => { fl := [(6, .ref 6 0), (7, .ref 7 0), (10, .val (.slice a n c)), (11, .val (.int .i64 n)), (12, .val (.int .i64 s.1))], cl := [(6, fi0.cells), (7, s.2.cells)], gi := I, mi := M })
    (fun s => s.1 ≤ n ∧ s.2 = chFi (ks.take s.1)) (fun s => n - s.1) ?_ ?_
  · exact ⟨(0, fi0), ⟨Nat.zero_le _, rfl⟩, .refl, .cons .refl (.cons .refl (.cons .refl (.cons .refl (.cons .refl (.nil))))), .cons rfl (.cons rfl (.nil))⟩
  rintro ⟨i, f⟩ ⟨hi, hf⟩
  simp only at hi hf
  refine CondOb.mk (fun h => ?_) (fun h => ?_)
  rotate_left
  · have hge : n ≤ i := by have := of_decide_eq_false h; omega
    refine ⟨_, _, .refl, ?_, rfl, rfl⟩
    rw [List.take_of_length_le (by omega)] at hf
    rw [← hf]
    rfl
  have hlt : i < n := by have := of_decide_eq_true h; omega
  obtain ⟨ad, had, hrd⟩ := hk.rd i (by omega)
  have hst : f.choice (ks[i]'(by omega)) = chFi (ks.take (i + 1)) := by
    rw [List.take_succ_eq_append_getElem (by omega), chFi, List.foldl_append, hf]
    rfl
  generalize ks[i]'(by omega) = k at hrd hst
  refine IdxOb.mk ad i had rfl hlt ?_
  refine LoadOb.mk _ hrd ?_
  refine CallOb.mk M [] _ perm_nil (IChoice_spec f k) ?_
  rintro v I' M' - ⟨rfl, rfl, rfl⟩
  rw [List.append_nil]
  refine ArithOb.mk _ (next_wr (i := i) (by omega)) ?_
  exact ⟨(i + 1, f.choice k), ⟨⟨by simp only; omega, hst⟩, by simp only; omega⟩, .refl, .cons .refl (.cons .refl (.cons .refl (.cons .refl (.cons .refl (.nil))))), .cons rfl (.cons rfl (.nil))⟩
theorem iSeq_spec (hk : IsAt I M a n ks) (hn : n ≤ 140737488355328) : Spec Tryz.prog 160 [d.val, x.val, .slice a n c] I M fun v I' M' => v = (seqFi ks).val ∧ I' = I ∧ M' = M := by
  refine spec_of_V [] TryzEOK Tryz.func160 rfl rfl rfl ?_
  intro B h0'
  have hkn := hk.n
  refine LoopOb.inv (ι := Nat × Fi) (fun s => { fl := [(6, .ref 6 0), (7, .ref 7 0), (11, .val (.slice a n c)), (12, .val (.int .i64 n)), (13, .val (.int .i64 s.1))], cl := [(6, fi0.cells), (7, s.2.cells)], gi := I, mi := M })
    (fun s => s.1 ≤ n ∧ s.2 = seqFi (ks.take s.1)) (fun s => n - s.1) ?_ ?_
  · exact ⟨(0, fiT), ⟨Nat.zero_le _, rfl⟩, .refl, .cons .refl (.cons .refl (.cons .refl (.cons .refl (.cons .refl (.nil))))), .cons rfl (.cons rfl (.nil))⟩
  rintro ⟨i, f⟩ ⟨hi, hf⟩
  simp only at hi hf
  refine CondOb.mk (fun h => ?_) (fun h => ?_)
  rotate_left
  · have hge : n ≤ i := by have := of_decide_eq_false h; omega
    refine ⟨_, _, .refl, ?_, rfl, rfl⟩
    rw [List.take_of_length_le (by omega)] at hf
    rw [← hf]
    rfl
  have hlt : i < n := by have := of_decide_eq_true h; omega
  obtain ⟨ad, had, hrd⟩ := hk.rd i (by omega)
  have hst : f.seq (ks[i]'(by omega)) = seqFi (ks.take (i + 1)) := by
    rw [List.take_succ_eq_append_getElem (by omega), seqFi, List.foldl_append, hf]
    rfl
  generalize ks[i]'(by omega) = k at hrd hst
  refine IdxOb.mk ad i had rfl hlt ?_
  refine LoadOb.mk _ hrd ?_
  refine CallOb.mk M [] _ perm_nil (ISeq_spec f k) ?_
  rintro v I' M' - ⟨rfl, rfl, rfl⟩
  rw [List.append_nil]
  refine ArithOb.mk _ (next_wr (i := i) (by omega)) ?_
  exact ⟨(i + 1, f.seq k), ⟨⟨by simp only; omega, hst⟩, by simp only; omega⟩, .refl, .cons .refl (.cons .refl (.cons .refl (.cons .refl (.cons .refl (.nil))))), .cons rfl (.cons rfl (.nil))⟩
end

def comeIs : List Nat := [156, 157, 158, 159, 160, 161, 162, 156, 156, 159]
def comeIv : List Value := [.func (.func 156) #[] #[], .func (.func 157) #[] #[], .func (.func 158) #[] #[], .func (.func 159) #[] #[], .func (.func 160) #[] #[], .func (.func 161) #[] #[], .func (.func 162) #[] #[], .func (.func 156) #[] #[], .func (.func 156) #[] #[], .func (.func 159) #[] #[]]
theorem icomes_spec {I : GH} : Spec Tryz.prog 120 [] I [] fun v I' M' => v = .agg comeIv.toArray ∧ I' = I ∧ M' = [] := by
  refine spec_of_V [] TryzEOK Tryz.func120 rfl rfl rfl ?_
  intro B h0
  exact ⟨_, _, .refl, rfl, rfl, rfl⟩
theorem icome_at {I : GH} {M : List Blk} {d : Nd} {x : Fl} {a : Option Addr} {n c : Nat} {ks : List Fi} (hu : u64ok d.s0 ∧ u64ok d.s1 ∧ u64ok d.s2 ∧ u64ok d.s3) (hk : IsAt I M a n ks) (hn : n ≤ 140737488355328) (j : Nat) (hj : j < 10) (hd : d.k = j) (h0 : (j = 3 ∨ j = 6 ∨ j = 9) → 0 < n) (ht : j = 2 → 1 ≤ d.t.size) :
    Spec Tryz.prog (comeIs.getD j 0) [d.val, x.val, .slice a n c] I M fun v I' M' => v = (comeFi d x ks).val ∧ I' = I ∧ M' = M := by
  match j, hj, hd, h0, ht with
  | 0, _, hd, _, _ => rw [show comeFi d x ks = ⟨.zero, x.suc⟩ by simp [comeFi, hd]]; exact iFlows_spec (d := d) (x := x) (a := a) (n := n) (c := c)
  | 1, _, hd, _, _ => rw [show comeFi d x ks = ⟨d.ws, false⟩ by simp [comeFi, hd]]; exact iBytes_spec (d := d) (x := x) (a := a) (n := n) (c := c) hu
  | 2, _, hd, _, ht => rw [show comeFi d x ks = textFi d.t by simp [comeFi, hd]]; exact iText_spec (d := d) (x := x) (a := a) (n := n) (c := c) (ht rfl)
  | 3, _, hd, h0, _ => rw [show comeFi d x ks = ks.headD fi0 by simp [comeFi, hd]]; exact iItself_spec (d := d) (x := x) (c := c) hk (h0 (by omega))
  | 4, _, hd, _, _ => rw [show comeFi d x ks = seqFi ks by simp [comeFi, hd]]; exact iSeq_spec (d := d) (x := x) (c := c) hk hn
  | 5, _, hd, _, _ => rw [show comeFi d x ks = chFi ks by simp [comeFi, hd]]; exact iChoice_spec (d := d) (x := x) (c := c) hk hn
  | 6, _, hd, h0, _ => rw [show comeFi d x ks = repFi d (ks.headD fi0) by simp [comeFi, hd]]; exact iRep_spec (d := d) (x := x) (c := c) hk (h0 (by omega))
  | 7, _, hd, _, _ => rw [show comeFi d x ks = ⟨.zero, x.suc⟩ by simp [comeFi, hd]]; exact iFlows_spec (d := d) (x := x) (a := a) (n := n) (c := c)
  | 8, _, hd, _, _ => rw [show comeFi d x ks = ⟨.zero, x.suc⟩ by simp [comeFi, hd]]; exact iFlows_spec (d := d) (x := x) (a := a) (n := n) (c := c)
  | 9, _, hd, h0, _ => rw [show comeFi d x ks = ks.headD fi0 by simp [comeFi, hd]]; exact iItself_spec (d := d) (x := x) (c := c) hk (h0 (by omega))
end Go.V

/-
  Walks: flow.Within, Nodes, Tree, Of.
-/
set_option linter.unusedVariables false
set_option linter.unusedSimpArgs false
namespace Go.V
open Go Go.Proofs

theorem FsAt.mono {I I' : GH} {M : List Blk} {a : Option Addr} {n : Nat} {ks : List Fl} (h : FsAt I M a n ks) (hI : ∀ b o, I b = some o → I' b = some o) : FsAt I' M a n ks :=
  ⟨h.n, fun j hj => by
    obtain ⟨ad, h1, h2⟩ := h.rd j hj
    exact ⟨ad, h1, h2.mono hI⟩⟩
theorem FsAt.sub {I : GH} {M M' : List Blk} {a : Option Addr} {n : Nat} {ks : List Fl} (h : FsAt I M a n ks) (hM : ∀ x ∈ M, x ∈ M') : FsAt I M' a n ks :=
  ⟨h.n, fun j hj => by
    obtain ⟨ad, h1, h2⟩ := h.rd j hj
    exact ⟨ad, h1, h2.sub hM⟩⟩
theorem flRow_at {I : GH} {M : List Blk} {b : Nat} {l : List Fl} (hM : flRow b l ∈ M) : FsAt I M (some ⟨b, 0, none⟩) l.length l :=
  ⟨rfl, fun j hj => ⟨_, rfl, flRow_rd hM hj⟩⟩

def nodesP (g : Gr) (fl : List Fl) (t : Tr) : Option (List Fl) := bif decide (fl.length = g.n) && (right t && namedOk (placesL g.ds) t.ns) then some (nodesF (placesL g.ds) fl t.ns []) else none

set_option maxHeartbeats 4000000 in
theorem FNodes_spec {I : GH} {M0 : List Blk} {deb : List Int} (hT : Tabs I deb) {g : Gr} (hg : g.ok I) {t : Tr} (ht : t.ok I) {la : Option Addr} {ln lc : Nat} {fl : List Fl} (hfl : FsAt I M0 la ln fl) :
    Spec Tryz.prog 44 [g.val, .slice la ln lc, t.val] I M0 fun v I' M' => (∀ b o, I b = some o → I' b = some o) ∧
      ((nodesP g fl t = none ∧ v = .tuple #[.slice none 0 0, .bool false] ∧ M' = M0) ∨ ∃ r b, nodesP g fl t = some r ∧ v = .tuple #[.slice (some ⟨b, 0, none⟩) t.n t.n, .bool true] ∧ M' = flRow b r :: M0) := by
  refine spec_of_V [] TryzEOK Tryz.func44 rfl rfl rfl ?_
  intro B h0
  have hgn := hg.n
  have htn := ht.n
  have hcap := ht.rs.cap
  have hfn := hfl.n
  refine GuardOb.mk (fun h => ?_) (fun h => ?_)
  rotate_left
  · refine ⟨_, _, .refl, fun _ _ h => h, .inl ⟨?_, rfl, rfl⟩⟩
    have hne : ¬ (ln : Int) = (g.n : Int) := by simpa using h
    have : decide (fl.length = g.n) = false := decide_eq_false (by omega)
    simp [nodesP, this]
  have hln : ln = g.n := by
    have : (ln : Int) = (g.n : Int) := by simpa using h
    omega
  have hd1 : decide (fl.length = g.n) = true := decide_eq_true (by omega)
  refine CallOb.mk [] M0 _ (.refl _) (Right_spec hT.c ht) ?_
  rintro v I1 M1 - ⟨rfl, rfl, rfl⟩
  refine CondOb.mk (fun h => ?_) (fun h => ?_)
  · refine ⟨_, _, .refl, fun _ _ h => h, .inl ⟨?_, rfl, rfl⟩⟩
    have : right t = false := by simpa using h
    simp [nodesP, this]
  have hr : right t = true := by simpa using h
  refine CallOb.mk [] M0 _ (.refl _) (places_spec hg) ?_
  rintro v I2 M2 - ⟨hI2, rfl, gm, rfl, hgm⟩
  have ht2 := ht.mono hI2
  refine LoopOb.inv (ι := Nat) (fun x => { fl := [(1, .val (.slice la ln lc)), (3, .ref 3 0), (5, .ref 5 0), (8, .val (.map (some gm))), (27, .val (.slice t.a t.n t.c)), (28, .val (.int .i64 t.n)), (29, .val (.int .i64 x))], cl := [(3, [.slice g.a g.n g.c]), (5, t.cells)], gi := I2, mi := M0 })
    (fun x => x ≤ t.n ∧ ∀ d ∈ t.ns.take x, (!decide (d.k = 3) || (lookM d.t (placesL g.ds)).isSome) = true) (fun x => t.n - x) ?_ ?_
  · exact ⟨0, ⟨Nat.zero_le _, fun d hd => by simp at hd⟩, .refl, .cons .refl (.cons .refl (.cons .refl (.cons .refl (.cons .refl (.cons .refl (.cons .refl .nil)))))), .cons rfl (.cons rfl .nil)⟩
  rintro i ⟨hi, hnm⟩
  refine CondOb.mk (fun h => ?_) (fun h => ?_)
  · have hlt : i < t.n := by have : (i : Int) < (t.n : Int) := of_decide_eq_true h; omega
    have hlt' : i < t.ns.length := by omega
    obtain ⟨ad, had, hrd⟩ := ht2.rs.row Nd.cells_len hlt hlt'
    have htk : t.ns.take (i + 1) = t.ns.take i ++ [t.ns[i]] := List.take_succ_eq_append_getElem hlt'
    have hmem := List.getElem_mem hlt'
    have next : (!decide (t.ns[i].k = 3) || (lookM t.ns[i].t (placesL g.ds)).isSome) = true → ∀ d ∈ t.ns.take (i + 1), (!decide (d.k = 3) || (lookM d.t (placesL g.ds)).isSome) = true := fun h d hd => by
      rw [htk] at hd
      rcases List.mem_append.1 hd with hd | hd
      · exact hnm d hd
      · simp only [List.mem_singleton] at hd
        rw [hd]
        exact h
    refine IdxOb.mk ad i had rfl hlt ?_
    refine LoadOb.mk _ (hrd _) ?_
    refine CondOb.mk (fun h3 => ?_) (fun h3 => ?_)
    · refine ArithOb.mk _ (next_wr (i := i) (by omega)) ?_
      refine ⟨i + 1, ⟨⟨by omega, next ?_⟩, by omega⟩, .refl, .cons .refl (.cons .refl (.cons .refl (.cons .refl (.cons .refl (.cons .refl (.cons .refl .nil)))))), .cons rfl (.cons rfl .nil)⟩
      rw [show (!decide (t.ns[i].k = 3)) = true from h3]
      rfl
    · refine OtherOb.lookupT TryzEOK rfl (by simp) rfl rfl rfl rfl (fun w => zero_int w) (l := placesL g.ds) (g := gm) rfl rfl (.inl hgm) ?_
      refine CondOb.mk (fun h4 => ?_) (fun h4 => ?_)
      · refine ⟨_, _, .refl, hI2, .inl ⟨?_, rfl, rfl⟩⟩
        have h5 : namedOk (placesL g.ds) t.ns = false := by
          rw [namedOk, List.all_eq_false]
          refine ⟨_, hmem, ?_⟩
          have h6 : (lookM t.ns[i].t (placesL g.ds)).isSome = false := by simpa using h4
          rw [h6, show (!decide (t.ns[i].k = 3)) = false from h3]
          simp
        simp [nodesP, h5]
      · refine ArithOb.mk _ (next_wr (i := i) (by omega)) ?_
        refine ⟨i + 1, ⟨⟨by omega, next ?_⟩, by omega⟩, .refl, .cons .refl (.cons .refl (.cons .refl (.cons .refl (.cons .refl (.cons .refl (.cons .refl .nil)))))), .cons rfl (.cons rfl .nil)⟩
        have h6 : (lookM t.ns[i].t (placesL g.ds)).isSome = true := by simpa using h4
        rw [h6]
        simp
  have hge : i = t.n := by have : ¬ (i : Int) < (t.n : Int) := of_decide_eq_false h; omega
  rw [List.take_of_length_le (by omega)] at hnm
  have hno : namedOk (placesL g.ds) t.ns = true := List.all_eq_true.2 hnm
  have hca := called_of hno
  rw [hgn, ← hln] at hca
  refine CallOb.mk M0 [] _ perm_nil (fnodes_spec ht2 hr hgm (hfl.mono hI2) hca) ?_
  rintro v I3 M3 - ⟨rfl, b, rfl, rfl⟩
  rw [List.append_nil]
  exact ⟨_, _, .refl, hI2, .inr ⟨_, b, by rw [nodesP, hd1, hr, hno]; rfl, rfl, rfl⟩⟩

/-! ### Of -/
/-- What is known of a grammar that may be. -/
structure MayF (g : Gr) : Prop where
  n : g.ds.length = g.n
  right : ∀ d ∈ g.ds, right d.t = true
  named : ∀ d ∈ g.ds, namedOk (placesL g.ds) d.t.ns = true
theorem mayF_of {deb : List Int} {g : Gr} (hn : g.ds.length = g.n) (h : mayG deb g = 0) : MayF g := by
  refine ⟨hn, fun d hd => ?_, may_named h⟩
  have := List.all_eq_true.1 (may_ok h) d hd
  simp only [normal, Bool.and_eq_true] at this
  exact this.2.1
def ofM (b6 gm b5 bl b1 : Nat) (g : Gr) (l : List Fl) : List Blk := [⟨b6, .cells #[.map (some gm)] 119 (0, 0)⟩, ⟨b5, .cells #[.slice (some ⟨bl, 0, none⟩) g.n g.n] 74 (0, 0)⟩, flRow bl l, ⟨b1, .cells #[.slice g.a g.n g.c] 24 (0, 0)⟩]

theorem perm_at2 {α : Type} (a b c d : α) : [a, b, c, d].Perm ([c] ++ [a, b, d]) := List.perm_middle (l₁ := [a, b]) (l₂ := [d])
theorem perm_at3 {α : Type} (x a b c d : α) : [x, a, b, c, d].Perm ([c] ++ [x, a, b, d]) := List.perm_middle (l₁ := [x, a, b]) (l₂ := [d])
theorem blk_rd0 {I : GH} {M : List Blk} {b : Nat} {f : Fl} (hM : (⟨b, .cells f.cells.toArray 80 (0, 0)⟩ : Blk) ∈ M) : Rd I M (⟨b, 0, none⟩ : Addr) 3 f.cells := ⟨rfl, _, _, _, .inr ⟨_, hM, rfl, rfl⟩, rfl, rfl⟩
theorem ble_row {l : List Fl} {i : Nat} (hi : i < l.length) {x : Fl} : Nat.ble (0 + i * 3 + x.cells.length) (l.flatMap Fl.cells).length = true := by
  rw [Nat.ble_eq, fl_len, Fl.cells_len]
  omega
theorem StoreOb.to {M : List Blk} {a : Addr} {vs : List Value} {K : List Blk → Prop} (pre post : List Blk) (cs : Array Value) (T : Nat) (hM : M = pre ++ ⟨a.block, .cells cs T (0, 0)⟩ :: post) (hs : a.spot = none) (hb : Nat.ble (a.off + vs.length) cs.size = true) (h1 : allOne vs = true)
    (cs' : List Value) (he : splice cs.toList a.off vs = cs') (k : K (pre ++ ⟨a.block, .cells cs'.toArray T (0, 0)⟩ :: post)) : StoreOb M a vs K :=
  ⟨pre, post, cs, T, hM, hs, Nat.le_of_ble_eq_true hb, h1, by rw [he]; exact k⟩
set_option maxRecDepth 100000 in
set_option maxHeartbeats 8000000 in
theorem Of1_spec {I : GH} {g : Gr} (hg : g.ok I) (hm : MayF g) {b6 gm b5 bl b1 : Nat} (hgm : I gm = some (mapO (placesL g.ds))) {l0 : List Fl} (hl0 : PreF g.ds l0) :
    Spec Tryz.prog 82 [ptr b1, ptr b6, ptr b5] I (ofM b6 gm b5 bl b1 g l0) fun v I' M' => v = .bool (decide (roundGo (placesL g.ds) 0 g.ds l0 ≠ l0)) ∧ I' = I ∧ M' = ofM b6 gm b5 bl b1 g (roundGo (placesL g.ds) 0 g.ds l0) := by
  refine spec_of_V [] TryzEOK Tryz.func82 rfl rfl rfl ?_
  intro B h0
  have hgn := hg.n
  have hcap := hg.rs.cap
  have rd1 : ∀ {M : List Blk}, (⟨b1, .cells #[.slice g.a g.n g.c] 24 (0, 0)⟩ : Blk) ∈ M → Rd I M ((⟨b1, 0, none⟩ : Addr).add 0) 1 [.slice g.a g.n g.c] := fun hM => blk_rd (cs := [.slice g.a g.n g.c]) (k := 0) (n := 1) hM (by simp)
  have rd6 : ∀ {M : List Blk}, (⟨b6, .cells #[.map (some gm)] 119 (0, 0)⟩ : Blk) ∈ M → Rd I M (⟨b6, 0, none⟩ : Addr) 1 [.map (some gm)] := fun hM => ⟨rfl, _, _, _, .inr ⟨_, hM, rfl, rfl⟩, rfl, rfl⟩
  have rd5 : ∀ {M : List Blk}, (⟨b5, .cells #[.slice (some ⟨bl, 0, none⟩) g.n g.n] 74 (0, 0)⟩ : Blk) ∈ M → Rd I M (⟨b5, 0, none⟩ : Addr) 1 [.slice (some ⟨bl, 0, none⟩) g.n g.n] := fun hM => ⟨rfl, _, _, _, .inr ⟨_, hM, rfl, rfl⟩, rfl, rfl⟩
  refine LoadOb.mk _ (rd1 (by simp [ofM])) ?_
  refine LoopOb.inv (ι := Nat × List Fl) (fun x => { fl := [(0, .val (ptr b1)), (1, .val (ptr b6)), (2, .val (ptr b5)), (4, .val (.bool (decide (x.2 ≠ l0)))), (9, .val (.slice g.a g.n g.c)), (10, .val (.int .i64 g.n)), (11, .val (.int .i64 x.1))], gi := I, mi := ofM b6 gm b5 bl b1 g x.2 })
    (fun x => x.1 ≤ g.n ∧ PreF g.ds x.2 ∧ LeL l0 x.2 ∧ roundGo (placesL g.ds) 0 g.ds l0 = roundGo (placesL g.ds) x.1 (g.ds.drop x.1) x.2) (fun x => g.n - x.1) ?_ ?_
  · refine ⟨(0, l0), ⟨Nat.zero_le _, hl0, LeL.refl _, rfl⟩, .refl, .cons .refl (.cons .refl (.cons .refl (.cons ?_ (.cons .refl (.cons .refl (.cons .refl .nil)))))), .nil⟩
    exact sv_lit (by simp)
  rintro ⟨i, l⟩ ⟨hi, hP, hle, hgo⟩
  simp only at hi hP hle hgo
  have hll := hP.len
  refine CondOb.mk (fun h => ?_) (fun h => ?_)
  rotate_left
  · have hge : i = g.n := by have : ¬ (i : Int) < (g.n : Int) := of_decide_eq_false h; omega
    rw [List.drop_eq_nil_of_le (by omega), roundGo] at hgo
    exact ⟨_, _, .refl, by rw [hgo], rfl, by rw [hgo]⟩
  have hlt : i < g.n := by have : (i : Int) < (g.n : Int) := of_decide_eq_true h; omega
  have hlt' : i < g.ds.length := by omega
  have hil : i < l.length := by omega
  obtain ⟨ad, had, hrd⟩ := hg.rs.row Df.cells_len hlt hlt'
  have hdm := List.getElem_mem hlt'
  have hd := hg.ds _ hdm
  have hr := hm.right _ hdm
  have hca := called_of (hm.named _ hdm)
  rw [show g.ds.length = l.length from hll.symm] at hca
  obtain ⟨hP', hle'⟩ := hP.step hlt'
  have hgo' : roundGo (placesL g.ds) 0 g.ds l0 = roundGo (placesL g.ds) (i + 1) (g.ds.drop (i + 1)) (l.set i (bodyF (placesL g.ds) l g.ds[i])) := by
    rw [hgo, List.drop_eq_getElem_cons hlt', roundGo]
  have hbody : bodyF (placesL g.ds) l g.ds[i] = (nodesF (placesL g.ds) l g.ds[i].t.ns []).getD g.ds[i].t.root.toNat fl0 := rfl
  generalize bodyF (placesL g.ds) l g.ds[i] = f at hP' hle' hgo' hbody
  generalize g.ds[i] = d at hrd hd hr hca hbody
  have hroot := right_root hr
  have htn := hd.t.n
  have hnl := nodesF_len (placesL g.ds) l d.t.ns []
  simp only [List.length_nil, Nat.zero_add] at hnl
  have hrl : d.t.root.toNat < (nodesF (placesL g.ds) l d.t.ns []).length := by omega
  have hfe : (nodesF (placesL g.ds) l d.t.ns [])[d.t.root.toNat] = f := by
    rw [hbody]
    simp [List.getD_eq_getElem?_getD, hrl]
  have hspec := fnodes_spec (M0 := [flRow bl l]) (ln := l.length) (lc := g.n) hd.t hr hgm (flRow_at (I := I) (List.mem_singleton.2 rfl)) hca
  rw [show l.length = g.n by omega] at hspec
  refine IdxOb.mk ad i had rfl hlt ?_
  refine LoadOb.mk _ (hrd _) ?_
  have hlf : l.getD i fl0 = l[i] := by simp [List.getD_eq_getElem?_getD, hil]
  have more : (!decide (f = l[i])) = true → decide (l.set i f ≠ l0) = true := fun h => by
    have hne : f ≠ l[i] := by simpa using h
    rw [decide_eq_true_eq]
    intro e
    have e2 : l.set i f = l := by
      refine LeL.antisymm ?_ hle'
      rw [e]
      exact hle
    have h3 := set_getD l i i f hil
    rw [e2, if_pos rfl, hlf] at h3
    exact hne h3.symm
  have same : (!decide (f = l[i])) = false → l.set i f = l := fun h => by
    have he : f = l[i] := by simpa using h
    rw [he]
    exact List.set_getElem_self hil
  refine CodeOb.draw TryzEOK rfl rfl rfl ?_
  refine LoadOb.mk _ (rd6 (by simp [ofM])) ?_
  refine LoadOb.mk _ (rd5 (by simp [ofM])) ?_
  refine ⟨?_, ?_⟩
  · refine PCallOb.mkR [flRow bl l] [⟨b6, .cells #[.map (some gm)] 119 (0, 0)⟩, ⟨b5, .cells #[.slice (some ⟨bl, 0, none⟩) g.n g.n] 74 (0, 0)⟩, ⟨b1, .cells #[.slice g.a g.n g.c] 24 (0, 0)⟩] _ (perm_at2 ..) hspec (fun v I' M' h x hx => by obtain ⟨-, b, -, rfl⟩ := h; exact .tail _ hx) ?_
    rintro v I2 M2 - ⟨rfl, b, rfl, rfl⟩
    refine IdxOb.mk ⟨b, 0, none⟩ d.t.root.toNat rfl (by omega) (by omega) ?_
    refine LoadOb.mk _ (flRow_rd (.head _) hrl) ?_
    rw [hfe]
    refine AllocOb.mk fun b7 hb7 hbM7 => ?_
    refine StoreOb.to [] [flRow b (nodesF (placesL g.ds) l d.t.ns []), flRow bl l, ⟨b6, .cells #[.map (some gm)] 119 (0, 0)⟩, ⟨b5, .cells #[.slice (some ⟨bl, 0, none⟩) g.n g.n] 74 (0, 0)⟩, ⟨b1, .cells #[.slice g.a g.n g.c] 24 (0, 0)⟩] _ _ rfl rfl rfl rfl f.cells rfl ?_
    refine CodeOb.draw TryzEOK rfl rfl rfl ?_
    refine LoadOb.mk f.cells (blk_rd0 (by simp)) ?_
    refine LoadOb.mk _ (rd5 (by simp)) ?_
    refine IdxOb.mk ⟨bl, 0, none⟩ i rfl rfl hlt ?_
    refine LoadOb.mk _ (flRow_rd (by simp) hil) ?_
    refine BinOb.neF (p := f) (q := l[i]) ?_
    refine CondOb.mk (fun h => ?_) (fun h => ?_)
    · refine LoadOb.mk _ (rd5 (by simp)) ?_
      refine LoadOb.mk f.cells (blk_rd0 (by simp)) ?_
      refine IdxOb.mk ⟨bl, 0, none⟩ i rfl rfl hlt ?_
      refine StoreOb.addTo [(⟨b7, .cells f.cells.toArray 80 (0, 0)⟩ : Blk), flRow b (nodesF (placesL g.ds) l d.t.ns [])] [⟨b6, .cells #[.map (some gm)] 119 (0, 0)⟩, ⟨b5, .cells #[.slice (some ⟨bl, 0, none⟩) g.n g.n] 74 (0, 0)⟩, ⟨b1, .cells #[.slice g.a g.n g.c] 24 (0, 0)⟩] (l.flatMap Fl.cells) _ rfl (ble_row hil) rfl ((l.set i f).flatMap Fl.cells) (by rw [Nat.zero_add]; exact flRow_set l i hil f) ?_
      refine ArithOb.mk _ (next_wr (i := i) (by omega)) ?_
      refine ⟨(i + 1, l.set i f), ⟨⟨by simp only; omega, hP', hle.trans hle', hgo'⟩, by simp only; omega⟩, .sub (M1 := [flRow bl (l.set i f), ⟨b6, .cells #[.map (some gm)] 119 (0, 0)⟩, ⟨b5, .cells #[.slice (some ⟨bl, 0, none⟩) g.n g.n] 74 (0, 0)⟩, ⟨b1, .cells #[.slice g.a g.n g.c] 24 (0, 0)⟩]) (by exact .cons _ (.cons _ (.refl _))) (.perm (perm_at2 ..).symm .refl), .cons .refl (.cons .refl (.cons .refl (.cons (sv_lit (more h).symm) (.cons .refl (.cons .refl (.cons .refl .nil)))))), .nil⟩
    · have he : l.set i f = l := same h
      rw [he] at hgo'
      refine ArithOb.mk _ (next_wr (i := i) (by omega)) ?_
      exact ⟨(i + 1, l), ⟨⟨by simp only; omega, hP, hle, hgo'⟩, by simp only; omega⟩, .sub (M1 := [flRow bl l, ⟨b6, .cells #[.map (some gm)] 119 (0, 0)⟩, ⟨b5, .cells #[.slice (some ⟨bl, 0, none⟩) g.n g.n] 74 (0, 0)⟩, ⟨b1, .cells #[.slice g.a g.n g.c] 24 (0, 0)⟩]) (by exact .cons _ (.cons _ (.refl _))) (.perm (perm_at2 ..).symm .refl), .cons .refl (.cons .refl (.cons .refl (.cons .refl (.cons .refl (.cons .refl (.cons .refl .nil)))))), .nil⟩
  · refine AllocOb.mk fun b7 hb7 hbM7 => ?_
    refine PCallOb.mkR [flRow bl l] [(⟨b7, .cells fl0.cells.toArray 80 (0, 0)⟩ : Blk), ⟨b6, .cells #[.map (some gm)] 119 (0, 0)⟩, ⟨b5, .cells #[.slice (some ⟨bl, 0, none⟩) g.n g.n] 74 (0, 0)⟩, ⟨b1, .cells #[.slice g.a g.n g.c] 24 (0, 0)⟩] _ (perm_at3 ..) hspec (fun v I' M' h x hx => by obtain ⟨-, b, -, rfl⟩ := h; exact .tail _ hx) ?_
    rintro v I2 M2 - ⟨rfl, b, rfl, rfl⟩
    refine IdxOb.mk ⟨b, 0, none⟩ d.t.root.toNat rfl (by omega) (by omega) ?_
    refine LoadOb.mk _ (flRow_rd (.head _) hrl) ?_
    rw [hfe]
    refine StoreOb.to [flRow b (nodesF (placesL g.ds) l d.t.ns []), flRow bl l] [⟨b6, .cells #[.map (some gm)] 119 (0, 0)⟩, ⟨b5, .cells #[.slice (some ⟨bl, 0, none⟩) g.n g.n] 74 (0, 0)⟩, ⟨b1, .cells #[.slice g.a g.n g.c] 24 (0, 0)⟩] _ _ rfl rfl rfl rfl f.cells rfl ?_
    refine CodeOb.draw TryzEOK rfl rfl rfl ?_
    refine LoadOb.mk f.cells (blk_rd0 (by simp)) ?_
    refine LoadOb.mk _ (rd5 (by simp)) ?_
    refine IdxOb.mk ⟨bl, 0, none⟩ i rfl rfl hlt ?_
    refine LoadOb.mk _ (flRow_rd (by simp) hil) ?_
    refine BinOb.neF (p := f) (q := l[i]) ?_
    refine CondOb.mk (fun h => ?_) (fun h => ?_)
    · refine LoadOb.mk _ (rd5 (by simp)) ?_
      refine LoadOb.mk f.cells (blk_rd0 (by simp)) ?_
      refine IdxOb.mk ⟨bl, 0, none⟩ i rfl rfl hlt ?_
      refine StoreOb.addTo [flRow b (nodesF (placesL g.ds) l d.t.ns [])] [(⟨b7, .cells f.cells.toArray 80 (0, 0)⟩ : Blk), ⟨b6, .cells #[.map (some gm)] 119 (0, 0)⟩, ⟨b5, .cells #[.slice (some ⟨bl, 0, none⟩) g.n g.n] 74 (0, 0)⟩, ⟨b1, .cells #[.slice g.a g.n g.c] 24 (0, 0)⟩] (l.flatMap Fl.cells) _ rfl (ble_row hil) rfl ((l.set i f).flatMap Fl.cells) (by rw [Nat.zero_add]; exact flRow_set l i hil f) ?_
      refine ArithOb.mk _ (next_wr (i := i) (by omega)) ?_
      refine ⟨(i + 1, l.set i f), ⟨⟨by simp only; omega, hP', hle.trans hle', hgo'⟩, by simp only; omega⟩, .sub (M1 := [flRow bl (l.set i f), ⟨b6, .cells #[.map (some gm)] 119 (0, 0)⟩, ⟨b5, .cells #[.slice (some ⟨bl, 0, none⟩) g.n g.n] 74 (0, 0)⟩, ⟨b1, .cells #[.slice g.a g.n g.c] 24 (0, 0)⟩]) (by exact .cons _ (.cons_cons _ (.cons _ (.refl _)))) (.perm (perm_at2 ..).symm .refl), .cons .refl (.cons .refl (.cons .refl (.cons (sv_lit (more h).symm) (.cons .refl (.cons .refl (.cons .refl .nil)))))), .nil⟩
    · have he : l.set i f = l := same h
      rw [he] at hgo'
      refine ArithOb.mk _ (next_wr (i := i) (by omega)) ?_
      exact ⟨(i + 1, l), ⟨⟨by simp only; omega, hP, hle, hgo'⟩, by simp only; omega⟩, .sub (M1 := [flRow bl l, ⟨b6, .cells #[.map (some gm)] 119 (0, 0)⟩, ⟨b5, .cells #[.slice (some ⟨bl, 0, none⟩) g.n g.n] 74 (0, 0)⟩, ⟨b1, .cells #[.slice g.a g.n g.c] 24 (0, 0)⟩]) (by exact .cons _ (.cons_cons _ (.cons _ (.refl _)))) (.perm (perm_at2 ..).symm .refl), .cons .refl (.cons .refl (.cons .refl (.cons .refl (.cons .refl (.cons .refl (.cons .refl .nil)))))), .nil⟩

set_option maxHeartbeats 4000000 in
theorem FOf_spec {I : GH} {deb : List Int} (hT : Tabs I deb) {g : Gr} (hg : g.ok I) : Spec Tryz.prog 43 [g.val] I [] fun v I' M' => (∀ b o, I b = some o → I' b = some o) ∧
    ((mayG deb g ≠ 0 ∧ v = .tuple #[.slice none 0 0, .int .i64 (mayG deb g)] ∧ M' = []) ∨ (mayG deb g = 0 ∧ ∃ b l, v = .tuple #[.slice (some ⟨b, 0, none⟩) g.n g.n, .int .i64 0] ∧ M' = [flRow b l] ∧ IsFlow g.ds l)) := by
  refine spec_of_V [1, 5, 6] TryzEOK Tryz.func43 rfl rfl rfl ?_
  intro B h0
  have hgn := hg.n
  have hcap := hg.rs.cap
  refine AllocOb.mk fun b1 hb1 hbM1 => ?_
  refine LoadOb.mk [.slice g.a g.n g.c] ⟨rfl, _, _, _, .inr ⟨_, .head _, rfl, rfl⟩, rfl, rfl⟩ ?_
  refine CallOb.mk [] [⟨b1, .cells #[.slice g.a g.n g.c] 24 (0, 0)⟩] _ (.refl _) (May_spec hT hg) ?_
  rintro v I1 M1 - ⟨rfl, hI1, rfl⟩
  refine CondOb.mk (fun h => ?_) (fun h => ?_)
  · have hm : mayG deb g ≠ 0 := by simpa using h
    exact ⟨_, _, .sub (List.nil_sublist _) .refl, hI1, .inl ⟨hm, rfl, rfl⟩⟩
  have hm : mayG deb g = 0 := by simpa using h
  have hM := mayF_of hgn hm
  refine LoadOb.mk _ (blk_rd (b := b1) (cs := [.slice g.a g.n g.c]) (k := 0) (n := 1) (T := 24) (.head _) (by simp)) ?_
  refine MakeOb.mk g.n g.n rfl rfl (Nat.le_refl _) (by show 3 * g.n ≤ _; omega) (by omega) ?_
  refine AllocOb.mk fun bl hbl hbMl => ?_
  have e : rowOf fl0.cells (g.n * 3) = (List.replicate g.ds.length fl0).flatMap Fl.cells := by rw [hgn]; exact rowOf_fl g.n
  refine AllocOb.mk fun b5 hb5 hbM5 => ?_
  refine StoreOb.to [] _ _ _ rfl rfl rfl rfl [.slice (some ⟨bl, 0, none⟩) g.n g.n] rfl ?_
  refine LoadOb.mk [.slice g.a g.n g.c] ⟨rfl, _, _, _, .inr ⟨_, .tail _ (.tail _ (.head _)), rfl, rfl⟩, rfl, rfl⟩ ?_
  refine CallOb.mk [] _ _ (.refl _) (places_spec (hg.mono hI1)) ?_
  rintro v I2 M2 - ⟨hI2, rfl, gm, rfl, hgm⟩
  refine AllocOb.mk fun b6 hb6 hbM6 => ?_
  refine StoreOb.to [] _ _ _ rfl rfl rfl rfl [.map (some gm)] rfl ?_
  refine LoopOb.inv (ι := List Fl) (fun l => { fl := [(5, .val (ptr b5)), (7, .val (.func (.func 82) #[] #[ptr b1, ptr b6, ptr b5]))], gi := I2, mi := ofM b6 gm b5 bl b1 g l }) (PreF g.ds) offs ?_ ?_
  · refine ⟨List.replicate g.ds.length fl0, .start g.ds, ?_, .cons .refl (.cons .refl .nil), .nil⟩
    simp only [ofM, flRow]
    rw [← e]
    exact .refl
  intro l hl
  refine CallOb.mk (ofM b6 gm b5 bl b1 g l) [] _ (.refl _) (Of1_spec ((hg.mono hI1).mono hI2) hM hgm hl) ?_
  rintro v I3 M3 - ⟨rfl, rfl, rfl⟩
  obtain ⟨r1, r2, -⟩ := roundGo_pre g.ds [] rfl hl
  refine CondOb.mk (fun h => ?_) (fun h => ?_)
  · exact ⟨_, ⟨r1, offs_lt r2 (of_decide_eq_true h)⟩, .refl, .cons .refl (.cons .refl .nil), .nil⟩
  · have hf : roundGo (placesL g.ds) 0 g.ds l = l := by
      have := of_decide_eq_false h
      exact Classical.not_not.1 this
    rw [hf]
    refine LoadOb.mk [.slice (some ⟨bl, 0, none⟩) g.n g.n] ⟨rfl, _, _, _, .inr ⟨_, .tail _ (.head _), rfl, rfl⟩, rfl, rfl⟩ ?_
    refine ⟨I3, [flRow bl l], .sub (.cons _ (.cons _ (.cons_cons _ (List.nil_sublist _)))) .refl, fun b o h => hI2 _ _ (hI1 _ _ h), .inr ⟨hm, bl, l, rfl, rfl, hl.done hf⟩⟩
end Go.V

/-
  Walks: first.nodes.
-/
set_option linter.unusedVariables false
set_option linter.unusedSimpArgs false
namespace Go.V
open Go Go.Proofs

/-! ### Rows of firsts -/
def fiRow (b : Nat) (l : List Fi) : Blk := ⟨b, .cells (l.flatMap Fi.cells).toArray 67 (0, 0)⟩
theorem fi_len (l : List Fi) : (l.flatMap Fi.cells).length = l.length * 5 := flat_len _ 5 Fi.cells_len l
theorem fiRow_rd {I : GH} {M : List Blk} {b : Nat} {l : List Fi} (hM : fiRow b l ∈ M) {j : Nat} (hj : j < l.length) : Rd I M ((⟨b, 0, none⟩ : Addr).add (j * 5)) 5 l[j].cells := by
  have h := blk_rd (I := I) (cs := l.flatMap Fi.cells) (k := j * 5) (n := 5) hM (by rw [fi_len]; omega)
  rwa [flat_at Fi.cells 5 Fi.cells_len l j hj] at h
theorem fiRow_at {I : GH} {M : List Blk} {b : Nat} {l : List Fi} (hM : fiRow b l ∈ M) : IsAt I M (some ⟨b, 0, none⟩) l.length l :=
  ⟨rfl, fun j hj => ⟨_, rfl, fiRow_rd hM hj⟩⟩
theorem fiRow_set (l : List Fi) (j : Nat) (hj : j < l.length) (x : Fi) : splice (l.flatMap Fi.cells) (j * 5) x.cells = (l.set j x).flatMap Fi.cells := by
  have e : l.flatMap Fi.cells = (l.take j).flatMap Fi.cells ++ (l[j].cells ++ (l.drop (j + 1)).flatMap Fi.cells) := by
    have h1 : l = l.take j ++ (l[j] :: l.drop (j + 1)) := by rw [← List.drop_eq_getElem_cons hj, List.take_append_drop]
    have h2 := congrArg (fun q : List Fi => q.flatMap Fi.cells) h1
    simp only [List.flatMap_append, List.flatMap_cons] at h2
    exact h2
  have hl : ((l.take j).flatMap Fi.cells).length = j * 5 := by rw [fi_len, List.length_take]; congr 1; omega
  unfold splice
  rw [List.set_eq_take_append_cons_drop, if_pos hj, List.flatMap_append, List.flatMap_cons, e, List.append_assoc]
  congr 1
  · rw [← hl, List.take_left]
  · congr 1
    rw [Fi.cells_len, ← hl, ← List.append_assoc, List.drop_left' (by rw [List.length_append, Fi.cells_len])]
theorem flatI_snoc (l : List Fi) (x : Fi) : (l ++ [x]).flatMap Fi.cells = l.flatMap Fi.cells ++ x.cells := by simp
theorem IsAt.mono {I I' : GH} {M : List Blk} {a : Option Addr} {n : Nat} {ks : List Fi} (h : IsAt I M a n ks) (hI : ∀ b o, I b = some o → I' b = some o) : IsAt I' M a n ks :=
  ⟨h.n, fun j hj => by
    obtain ⟨ad, h1, h2⟩ := h.rd j hj
    exact ⟨ad, h1, h2.mono hI⟩⟩
theorem IsAt.sub {I : GH} {M M' : List Blk} {a : Option Addr} {n : Nat} {ks : List Fi} (h : IsAt I M a n ks) (hM : ∀ x ∈ M, x ∈ M') : IsAt I M' a n ks :=
  ⟨h.n, fun j hj => by
    obtain ⟨ad, h1, h2⟩ := h.rd j hj
    exact ⟨ad, h1, h2.sub hM⟩⟩
/-- A slice of the function's own, read. -/
theorem OS.isAt {I : GH} {M : List Blk} {os : OS} {l : List Fi} {e : Nat} (h : os.ok 5 (l.flatMap Fi.cells)) (hM : ∀ x ∈ os.blk e, x ∈ M) : IsAt I M (os.a.map fun g => ⟨g, 0, none⟩) os.n l := by
  have hl := h.len
  rw [fi_len] at hl
  refine ⟨by omega, fun j hj => ?_⟩
  obtain ⟨a, n, c, cur⟩ := os
  simp only at hl
  cases a with
  | none => have := (h.nil rfl).1; simp only at this; omega
  | some g =>
    obtain ⟨h1, h2, h3, h4⟩ := h.cap g rfl
    simp only at h1 h2 h4
    refine ⟨⟨g, 0, none⟩, rfl, ?_⟩
    have hm : (⟨g, .cells cur.toArray e (0, 0)⟩ : Blk) ∈ M := hM _ (by simp [OS.blk])
    have hr := blk_rd (I := I) (cs := cur) (k := j * 5) (n := 5) hm (by omega)
    have e1 : (cur.drop (j * 5)).take 5 = ((cur.take (n * 5)).drop (j * 5)).take 5 := by
      rw [List.drop_take, List.take_take]
      congr 1
      omega
    rw [e1, h4, flat_at Fi.cells 5 Fi.cells_len l j hj] at hr
    exact hr
theorem repI_at (acc : List Fi) (n i : Nat) (hl : acc.length = i) (hi : i < n) (x : Fi) : (acc ++ List.replicate (n - i) fi0).set i x = (acc ++ [x]) ++ List.replicate (n - (i + 1)) fi0 := by
  subst hl
  rw [List.set_append_right _ _ (Nat.le_refl _), Nat.sub_self, show n - acc.length = (n - (acc.length + 1)) + 1 by omega, List.replicate_succ, List.set_cons_zero]
  simp
theorem rowOf_flat {α : Type} (f : α → List Value) (z : α) (size : Nat) (hz : (f z).length = size) (h0 : 0 < size) : ∀ n : Nat, rowOf (f z) (n * size) = (List.replicate n z).flatMap f := fun n => by
  have hlen : ((List.replicate n z).flatMap f).length = n * size := by
    induction n with
    | zero => simp
    | succ n ih => rw [List.replicate_succ, List.flatMap_cons, List.length_append, ih, hz, Nat.add_mul]; omega
  apply List.ext_getElem
  · rw [hlen]
    simp [rowOf_eq, madeCells]
  intro i h1 h2
  have h3 : i < n * size := by rw [hlen] at h2; exact h2
  have key : ∀ (n i : Nat) (h : i < ((List.replicate n z).flatMap f).length), ((List.replicate n z).flatMap f)[i] = (f z)[i % size]! := by
    intro n
    induction n with
    | zero => intro i h; simp at h
    | succ n ih =>
      intro i h
      by_cases hi : i < size
      · have e : ((List.replicate (n + 1) z).flatMap f) = f z ++ (List.replicate n z).flatMap f := by rw [List.replicate_succ, List.flatMap_cons]
        simp only [e]
        rw [List.getElem_append_left (by omega), Nat.mod_eq_of_lt hi]
        rw [getElem!_pos (f z) i (by omega)]
      · have e : ((List.replicate (n + 1) z).flatMap f) = f z ++ (List.replicate n z).flatMap f := by rw [List.replicate_succ, List.flatMap_cons]
        simp only [e] at h ⊢
        rw [List.getElem_append_right (by omega)]
        have := ih (i - (f z).length) (by rw [List.length_append] at h; omega)
        rw [this, hz, Nat.mod_eq_sub_mod (a := i) (by omega)]
  rw [key n i h2]
  simp only [rowOf, List.getElem_map, List.getElem_range, hz]
theorem rowOf_fi (n : Nat) : rowOf fi0.cells (n * 5) = (List.replicate n fi0).flatMap Fi.cells := rowOf_flat Fi.cells fi0 5 rfl (by decide) n
theorem ble_fi {acc : List Fi} {n i : Nat} (hacc : acc.length = i) (hlt : i < n) (x : Fi) : Nat.ble (0 + i * 5 + x.cells.length) ((acc ++ List.replicate (n - i) fi0).flatMap Fi.cells).length = true := by
  rw [Nat.ble_eq, fi_len, Fi.cells_len, List.length_append, List.length_replicate]
  omega
theorem firstAt_findI (nm : ByteArray) : ∀ (ds : List Df) (i : Nat), firstAt nm ds i = bif decide (findAt nm ds i < 0) then none else some (findAt nm ds i)
  | [], i => rfl
  | d :: ds, i => by
    unfold firstAt findAt
    rw [show decide (nm = d.name) = decide (d.name = nm) by rw [Bool.eq_iff_iff]; simp [eq_comm]]
    cases decide (d.name = nm) with
    | true =>
      rw [cond_true, cond_true, decide_eq_false (by omega)]
      rfl
    | false =>
      rw [cond_false, cond_false]
      exact firstAt_findI nm ds (i + 1)
theorem find_of_look {nm : ByteArray} {ds : List Df} {q : Int} (h : lookM nm (placesL ds) = some q) : findAt nm ds 0 = q := by
  rw [places_first, firstAt_findI] at h
  cases hd : decide (findAt nm ds 0 < 0) with
  | true => rw [hd] at h; cases h
  | false => rw [hd] at h; simpa using h
theorem fits_text {d : Nd} {n : Int} (h : fits d n = true) (hk : d.k = 2) : 1 ≤ d.t.size := by
  apply Nat.pos_of_ne_zero
  intro e
  have he : d.t = ⟨#[]⟩ := ByteArray.ext (Array.eq_empty_of_size_eq_zero e)
  simp [fits, hk, he] at h

/-- A tree's nodes have no more kids than go into a row of firsts. -/
def KB (t : Tr) : Prop := ∀ n ∈ t.ns, n.kn ≤ 3000000000000
set_option maxRecDepth 100000 in
set_option maxHeartbeats 16000000 in
theorem inodes_spec {I : GH} {M0 : List Blk} {g : Gr} (hg : g.ok I) {t : Tr} (ht : t.ok I) (hkb : KB t) (hr : right t = true) {la : Option Addr} {ln lc : Nat} {fl : List Fi} (hfl : IsAt I M0 la ln fl) (hc : Called (placesL g.ds) ln t.ns) {xa : Option Addr} {xc : Nat} {xs : List Fl} (hxs : FsAt I M0 xa t.n xs) :
    Spec Tryz.prog 78 [g.val, .slice la ln lc, t.val, .slice xa t.n xc] I M0 fun v I' M' => I' = I ∧ ∃ b, v = .slice (some ⟨b, 0, none⟩) t.n t.n ∧ M' = fiRow b (nodesI (placesL g.ds) fl xs t.ns []) :: M0 := by
  refine spec_of_V [] TryzEOK Tryz.func78 rfl rfl rfl ?_
  intro B h0
  have htn := ht.n
  have hgn := hg.n
  have hcap := ht.rs.cap
  have hxn := hxs.n
  refine CallOb.mk [] M0 _ (.refl _) icomes_spec ?_
  rintro v I1 M1 - ⟨rfl, rfl, rfl⟩
  refine MakeOb.mk t.n t.n rfl rfl (Nat.le_refl _) (by show 40 * t.n ≤ _; omega) (by omega) ?_
  refine AllocOb.mk fun b8 hb8 hbM8 => ?_
  refine LoopOb.inv (ι := Nat × List Fi × OS) (fun x => { fl := [(1, .val (.slice la ln lc)), (3, .val (.slice xa t.n xc)), (4, .ref 4 0), (9, .ref 9 0), (10, .val (.slice (some ⟨b8, 0, none⟩) t.n t.n)), (11, .val x.2.2.val), (22, .val (.slice t.a t.n t.c)), (23, .val (.int .i64 t.n)), (24, .val (.int .i64 x.1))], cl := [(4, [.slice g.a g.n g.c]), (9, comeIv)], gi := I1, mi := fiRow b8 (x.2.1 ++ List.replicate (t.n - x.1) fi0) :: (x.2.2.blk 67 ++ M0) })
    (fun x => x.1 ≤ t.n ∧ x.2.1.length = x.1 ∧ nodesI (placesL g.ds) fl xs t.ns [] = nodesI (placesL g.ds) fl xs (t.ns.drop x.1) x.2.1 ∧ ∃ ks, x.2.2.ok 5 ks) (fun x => t.n - x.1) ?_ ?_
  · refine ⟨(0, [], OS0), ⟨Nat.zero_le _, rfl, rfl, [], OS0_ok 5⟩, ?_, .cons .refl (.cons .refl (.cons .refl (.cons .refl (.cons .refl (.cons .refl (.cons .refl (.cons .refl (.cons .refl (.nil))))))))), .cons rfl (.cons rfl (.nil))⟩
    have e : rowOf fi0.cells (t.n * 5) = (List.replicate t.n fi0).flatMap Fi.cells := rowOf_fi t.n
    simp only [fiRow, List.nil_append, Nat.sub_zero]
    rw [← e]
    exact .refl
  rintro ⟨i, acc, ko⟩ ⟨hi, hacc, hnf, kx, hko⟩
  simp only at hi hacc hnf hko
  refine CondOb.mk (fun h => ?_) (fun h => ?_)
  rotate_left
  · have hge : i = t.n := by have : ¬ (i : Int) < (t.n : Int) := of_decide_eq_false h; omega
    subst hge
    rw [List.drop_eq_nil_of_le (by omega), nodesI] at hnf
    refine ⟨I1, fiRow b8 (acc ++ List.replicate (t.n - t.n) fi0) :: M0, .sub (.cons_cons _ (List.sublist_append_right _ _)) .refl, rfl, b8, rfl, ?_⟩
    rw [hnf, Nat.sub_self, List.replicate_zero, List.append_nil]
  have hlt : i < t.n := by have : (i : Int) < (t.n : Int) := of_decide_eq_true h; omega
  have hlt' : i < t.ns.length := by omega
  obtain ⟨ad, had, hrd⟩ := ht.rs.row Nd.cells_len hlt hlt'
  have hdm := List.getElem_mem hlt'
  have hd := ht.ns _ hdm
  have hkn := hd.kn
  have hkc := hd.rs.cap
  have hkk3 := hkb _ hdm
  have hkv := right_kids hr i hlt'
  have hft := right_fits hr hlt'
  have hcd := hc _ hdm
  obtain ⟨ax, hax, hrx⟩ := hxs.rd i (by omega)
  have hxg : xs.getD i fl0 = xs[i]'(by omega) := by simp [List.getD_eq_getElem?_getD, show i < xs.length by omega]
  have hnf' : nodesI (placesL g.ds) fl xs t.ns [] = nodesI (placesL g.ds) fl xs (t.ns.drop (i + 1)) (acc ++ [comeFi t.ns[i] (xs[i]'(by omega)) (kidsI (placesL g.ds) fl acc t.ns[i])]) := by
    rw [hnf, List.drop_eq_getElem_cons hlt', nodesI, hacc, hxg]
  generalize xs[i]'(by omega) = x at hrx hnf'
  generalize t.ns[i] = d at hrd hd hkn hkc hkk3 hkv hft hcd hnf'
  have hk0 := hd.k.1
  have hk10 := fits_k hft
  have hu : u64ok d.s0 ∧ u64ok d.s1 ∧ u64ok d.s2 ∧ u64ok d.s3 := ⟨hd.s0, hd.s1, hd.s2, hd.s3⟩
  have htx : d.k = 2 → 1 ≤ d.t.size := fits_text hft
  have hrow : ∀ {M : List Blk} {q : Int}, fiRow b8 (acc ++ List.replicate (t.n - i) fi0) ∈ M → q ∈ d.kids → Rd I1 M ((⟨b8, 0, none⟩ : Addr).add (q.toNat * 5)) 5 (acc.getD q.toNat fi0).cells := fun {M q} hM hq => by
    have hq' := hkv q hq
    have hql : q.toNat < acc.length := by omega
    have := fiRow_rd (I := I1) hM (j := q.toNat) (by rw [List.length_append]; omega)
    rw [List.getElem_append_left hql] at this
    simpa [List.getD_eq_getElem?_getD, hql] using this
  refine IdxOb.mk ad i had rfl hlt ?_
  refine LoadOb.mk _ (hrd _) ?_
  refine SliceOb.mk 0 0 rfl rfl (Nat.le_refl _) (Nat.zero_le _) ?_
  refine LoopOb.inv (ι := Nat × OS × List Fi) (fun s => { fl := [(1, .val (.slice la ln lc)), (3, .val (.slice xa t.n xc)), (4, .ref 4 0), (9, .ref 9 0), (10, .val (.slice (some ⟨b8, 0, none⟩) t.n t.n)), (11, .val s.2.1.val), (12, .val (.int .i64 i)), (13, .ref 13 0), (22, .val (.slice t.a t.n t.c)), (23, .val (.int .i64 t.n)), (24, .val (.int .i64 i)), (32, .val (.slice d.ka d.kn d.kc)), (33, .val (.int .i64 d.kn)), (34, .val (.int .i64 s.1))], cl := [(4, [.slice g.a g.n g.c]), (9, comeIv), (13, d.cells)], gi := I1, mi := fiRow b8 (acc ++ List.replicate (t.n - i) fi0) :: (s.2.1.blk 67 ++ M0) })
    (fun s => s.1 ≤ d.kn ∧ s.2.1.ok 5 (s.2.2.flatMap Fi.cells) ∧ s.2.2 = (d.kids.take s.1).map fun k => acc.getD k.toNat fi0) (fun s => d.kn - s.1) ?_ ?_
  · exact ⟨(0, ⟨ko.a, 0, ko.c, ko.cur⟩, []), ⟨Nat.zero_le _, OS.zero hko, rfl⟩, .refl, .cons .refl (.cons .refl (.cons .refl (.cons .refl (.cons .refl (.cons .refl (.cons .refl (.cons .refl (.cons .refl (.cons .refl (.cons .refl (.cons .refl (.cons .refl (.cons .refl (.nil)))))))))))))), .cons rfl (.cons rfl (.cons rfl (.nil)))⟩
  rintro ⟨k, k2, kl⟩ ⟨hk, hk2, hkl⟩
  simp only at hk hk2 hkl
  have hk2n : k2.n = kl.length := by have := hk2.len; rw [fi_len] at this; omega
  have hkll : kl.length ≤ k := by rw [hkl, List.length_map]; exact List.length_take_le _ _
  refine CondOb.mk (fun h => ?_) (fun h => ?_)
  · have hkk : k < d.kn := by have : (k : Int) < (d.kn : Int) := of_decide_eq_true h; omega
    have hkk' : k < d.kids.length := by omega
    obtain ⟨ak, hak, hrk⟩ := hd.rs.one hkk hkk'
    have hq := hkv _ (List.getElem_mem hkk')
    refine IdxOb.mk ak k hak rfl hkk ?_
    refine LoadOb.mk _ (hrk _) ?_
    refine IdxOb.mk ⟨b8, 0, none⟩ d.kids[k].toNat rfl (by omega) (by omega) ?_
    refine LoadOb.mk _ (hrow (.head _) (List.getElem_mem hkk')) ?_
    refine AllocOb.mk fun b9 hb9 hbM9 => ?_
    refine OtherOb.app1 TryzEOK rfl (by simp) (e := 67) rfl rfl rfl k2 hk2 rfl (b9 := b9) (cs := (acc.getD d.kids[k].toNat fi0).cells) rfl rfl rfl [fiRow b8 (acc ++ List.replicate (t.n - i) fi0)] M0 rfl (by omega) (by show (k2.n + 1) * 40 ≤ _; omega) ?_
    intro k3 e1 e2 e3
    refine ArithOb.mk _ (next_wr (i := k) (by omega)) ?_
    refine ⟨(k + 1, k3, kl ++ [acc.getD d.kids[k].toNat fi0]), ⟨⟨by simp only; omega, ?_, ?_⟩, by simp only; omega⟩, .refl, .cons .refl (.cons .refl (.cons .refl (.cons .refl (.cons .refl (.cons .refl (.cons .refl (.cons .refl (.cons .refl (.cons .refl (.cons .refl (.cons .refl (.cons .refl (.cons .refl (.nil)))))))))))))), .cons rfl (.cons rfl (.cons rfl (.nil)))⟩
    · simp only
      rw [flatI_snoc]
      exact e3
    · simp only
      rw [List.take_succ_eq_append_getElem hkk', List.map_append, ← hkl]
      rfl
  have hge : d.kn ≤ k := by have : ¬ (k : Int) < (d.kn : Int) := of_decide_eq_false h; omega
  rw [List.take_of_length_le (by omega)] at hkl
  have hkln : kl.length = d.kids.length := by rw [hkl, List.length_map]
  have hb2 : k2.n + 1 ≤ 140737488355328 := by omega
  clear h hk hkll
  have hset : ∀ y : Fi, splice ((acc ++ List.replicate (t.n - i) fi0).flatMap Fi.cells) (0 + i * 5) y.cells = ((acc ++ [y]) ++ List.replicate (t.n - (i + 1)) fi0).flatMap Fi.cells := fun y => by
    rw [Nat.zero_add, fiRow_set _ _ (by simp; omega), repI_at acc t.n i hacc hlt]
  have hinv : ∀ (ko2 : OS) (ks2 : List Value), ko2.ok 5 ks2 → ((i + 1 ≤ t.n ∧ (acc ++ [comeFi d x (kidsI (placesL g.ds) fl acc d)]).length = i + 1 ∧ nodesI (placesL g.ds) fl xs t.ns [] = nodesI (placesL g.ds) fl xs (t.ns.drop (i + 1)) (acc ++ [comeFi d x (kidsI (placesL g.ds) fl acc d)]) ∧ ∃ ks, ko2.ok 5 ks) ∧ t.n - (i + 1) < t.n - i) := fun ko2 ks2 h2 =>
    ⟨⟨hlt, by simp [hacc], hnf', ks2, h2⟩, by omega⟩
  by_cases h3 : d.k = 3
  · refine CondOb.mk (fun _ => ?_) (fun h => absurd h (by simp [h3]))
    obtain ⟨q, hq1, hq2⟩ := hcd h3
    have hkf : kidsI (placesL g.ds) fl acc d = kl ++ [fl.getD q fi0] := by
      rw [kidsI, ← hkl, hq1, h3]
      rfl
    have hql : q < fl.length := by rw [hfl.n]; exact hq2
    obtain ⟨al, hal, hrl⟩ := hfl.rd q hql
    have hgq : fl.getD q fi0 = fl[q] := by simp [List.getD_eq_getElem?_getD, hql]
    have hfind := find_of_look hq1
    refine CallOb.mk [] _ _ (.refl _) (Find_spec hg d.t) ?_
    rintro v I2 M2 - ⟨rfl, rfl, rfl⟩
    refine IdxOb.mk al q hal hfind hq2 ?_
    refine LoadOb.mk _ (hrl.sub fun x hx => by simp [hx]) ?_
    refine AllocOb.mk fun b9 hb9 hbM9 => ?_
    refine OtherOb.app1 TryzEOK rfl (by simp) (e := 67) rfl rfl rfl k2 hk2 rfl (b9 := b9) (cs := fl[q].cells) rfl rfl rfl [fiRow b8 (acc ++ List.replicate (t.n - i) fi0)] M0 rfl (by omega) (by show (k2.n + 1) * 40 ≤ _; omega) ?_
    intro k3 e1 e2 e3
    rw [← flatI_snoc, ← hgq, ← hkf] at e3
    have hks := OS.isAt (I := I2) (M := fiRow b8 (acc ++ List.replicate (t.n - i) fi0) :: (k3.blk 67 ++ M0)) (e := 67) e3 (fun x hx => by simp [hx])
    obtain ⟨dk, s0, s1, s2, s3, dt, lo, hi', dka, dkn, dkc, dkids⟩ := d
    simp only at h3
    subst h3
    refine CodeOb.draw TryzEOK rfl rfl rfl ?_
    refine ArrOb.mk 3 rfl (by decide) ?_
    refine IdxOb.mk ax i hax rfl hlt ?_
    refine LoadOb.mk _ (hrx.sub fun x hx => by simp [hx]) ?_
    refine PCallOb.whole _ (icome_at (d := ⟨3, s0, s1, s2, s3, dt, lo, hi', dka, dkn, dkc, dkids⟩) (x := x) hu hks (by omega) 3 (by decide) rfl (fun _ => by rw [e1]; exact Nat.succ_pos _) (fun h => absurd h (by decide))) (fun v I' M' h x hx => by rw [h.2.2]; exact hx) ?_
    rintro v I3 M3 - ⟨rfl, rfl, rfl⟩
    refine IdxOb.mk ⟨b8, 0, none⟩ i rfl rfl hlt ?_
    refine StoreOb.addTo [] (k3.blk 67 ++ M0) ((acc ++ List.replicate (t.n - i) fi0).flatMap Fi.cells) _ rfl (ble_fi hacc hlt _) rfl _ (hset _) ?_
    refine ArithOb.mk _ (next_wr (i := i) (by omega)) ?_
    exact ⟨(i + 1, _, k3), hinv _ _ e3, .refl, .cons .refl (.cons .refl (.cons .refl (.cons .refl (.cons .refl (.cons .refl (.cons .refl (.cons .refl (.cons .refl (.nil))))))))), .cons rfl (.cons rfl (.nil))⟩
  refine CondOb.mk (fun h => absurd (of_decide_eq_true h) h3) (fun _ => ?_)
  have hkf : kidsI (placesL g.ds) fl acc d = kl := by
    rw [kidsI, ← hkl, decide_eq_false h3]
    simp
  rw [hkf] at hinv
  have hks := OS.isAt (I := I1) (M := fiRow b8 (acc ++ List.replicate (t.n - i) fi0) :: (k2.blk 67 ++ M0)) (e := 67) hk2 (fun x hx => by simp [hx])
  have hpos : 6 ≤ d.k → 0 < k2.n := fun h6 => by
    have := fits_kid hk0 hft h6
    omega
  have hcases : d.k = 0 ∨ d.k = 1 ∨ d.k = 2 ∨ d.k = 4 ∨ d.k = 5 ∨ d.k = 6 ∨ d.k = 7 ∨ d.k = 8 ∨ d.k = 9 := by omega
  obtain ⟨dk, s0, s1, s2, s3, dt, lo, hi', dka, dkn, dkc, dkids⟩ := d
  simp only at hcases hpos h3 htx
  refine CodeOb.draw TryzEOK rfl rfl rfl ?_
  rcases hcases with rfl | rfl | rfl | rfl | rfl | rfl | rfl | rfl | rfl
  · refine ArrOb.mk 0 rfl (by decide) ?_
    refine IdxOb.mk ax i hax rfl hlt ?_
    refine LoadOb.mk _ (hrx.sub fun x hx => by simp [hx]) ?_
    refine PCallOb.whole _ (icome_at (d := ⟨0, s0, s1, s2, s3, dt, lo, hi', dka, dkn, dkc, dkids⟩) (x := x) hu hks (Nat.le_of_succ_le hb2) 0 (by decide) rfl (fun h => by omega) (fun h => absurd h (by decide))) (fun v I' M' h x hx => by rw [h.2.2]; exact hx) ?_
    rintro v I2 M2 - ⟨rfl, rfl, rfl⟩
    refine IdxOb.mk ⟨b8, 0, none⟩ i rfl rfl hlt ?_
    refine StoreOb.addTo [] (k2.blk 67 ++ M0) ((acc ++ List.replicate (t.n - i) fi0).flatMap Fi.cells) _ rfl (ble_fi hacc hlt _) rfl _ (hset _) ?_
    refine ArithOb.mk _ (next_wr (i := i) (by omega)) ?_
    exact ⟨(i + 1, _, k2), hinv _ _ hk2, .refl, .cons .refl (.cons .refl (.cons .refl (.cons .refl (.cons .refl (.cons .refl (.cons .refl (.cons .refl (.cons .refl (.nil))))))))), .cons rfl (.cons rfl (.nil))⟩
  · refine ArrOb.mk 1 rfl (by decide) ?_
    refine IdxOb.mk ax i hax rfl hlt ?_
    refine LoadOb.mk _ (hrx.sub fun x hx => by simp [hx]) ?_
    refine PCallOb.whole _ (icome_at (d := ⟨1, s0, s1, s2, s3, dt, lo, hi', dka, dkn, dkc, dkids⟩) (x := x) hu hks (Nat.le_of_succ_le hb2) 1 (by decide) rfl (fun h => by omega) (fun h => absurd h (by decide))) (fun v I' M' h x hx => by rw [h.2.2]; exact hx) ?_
    rintro v I2 M2 - ⟨rfl, rfl, rfl⟩
    refine IdxOb.mk ⟨b8, 0, none⟩ i rfl rfl hlt ?_
    refine StoreOb.addTo [] (k2.blk 67 ++ M0) ((acc ++ List.replicate (t.n - i) fi0).flatMap Fi.cells) _ rfl (ble_fi hacc hlt _) rfl _ (hset _) ?_
    refine ArithOb.mk _ (next_wr (i := i) (by omega)) ?_
    exact ⟨(i + 1, _, k2), hinv _ _ hk2, .refl, .cons .refl (.cons .refl (.cons .refl (.cons .refl (.cons .refl (.cons .refl (.cons .refl (.cons .refl (.cons .refl (.nil))))))))), .cons rfl (.cons rfl (.nil))⟩
  · refine ArrOb.mk 2 rfl (by decide) ?_
    refine IdxOb.mk ax i hax rfl hlt ?_
    refine LoadOb.mk _ (hrx.sub fun x hx => by simp [hx]) ?_
    refine PCallOb.whole _ (icome_at (d := ⟨2, s0, s1, s2, s3, dt, lo, hi', dka, dkn, dkc, dkids⟩) (x := x) hu hks (Nat.le_of_succ_le hb2) 2 (by decide) rfl (fun h => by omega) (fun _ => htx rfl)) (fun v I' M' h x hx => by rw [h.2.2]; exact hx) ?_
    rintro v I2 M2 - ⟨rfl, rfl, rfl⟩
    refine IdxOb.mk ⟨b8, 0, none⟩ i rfl rfl hlt ?_
    refine StoreOb.addTo [] (k2.blk 67 ++ M0) ((acc ++ List.replicate (t.n - i) fi0).flatMap Fi.cells) _ rfl (ble_fi hacc hlt _) rfl _ (hset _) ?_
    refine ArithOb.mk _ (next_wr (i := i) (by omega)) ?_
    exact ⟨(i + 1, _, k2), hinv _ _ hk2, .refl, .cons .refl (.cons .refl (.cons .refl (.cons .refl (.cons .refl (.cons .refl (.cons .refl (.cons .refl (.cons .refl (.nil))))))))), .cons rfl (.cons rfl (.nil))⟩
  · refine ArrOb.mk 4 rfl (by decide) ?_
    refine IdxOb.mk ax i hax rfl hlt ?_
    refine LoadOb.mk _ (hrx.sub fun x hx => by simp [hx]) ?_
    refine PCallOb.whole _ (icome_at (d := ⟨4, s0, s1, s2, s3, dt, lo, hi', dka, dkn, dkc, dkids⟩) (x := x) hu hks (Nat.le_of_succ_le hb2) 4 (by decide) rfl (fun h => by omega) (fun h => absurd h (by decide))) (fun v I' M' h x hx => by rw [h.2.2]; exact hx) ?_
    rintro v I2 M2 - ⟨rfl, rfl, rfl⟩
    refine IdxOb.mk ⟨b8, 0, none⟩ i rfl rfl hlt ?_
    refine StoreOb.addTo [] (k2.blk 67 ++ M0) ((acc ++ List.replicate (t.n - i) fi0).flatMap Fi.cells) _ rfl (ble_fi hacc hlt _) rfl _ (hset _) ?_
    refine ArithOb.mk _ (next_wr (i := i) (by omega)) ?_
    exact ⟨(i + 1, _, k2), hinv _ _ hk2, .refl, .cons .refl (.cons .refl (.cons .refl (.cons .refl (.cons .refl (.cons .refl (.cons .refl (.cons .refl (.cons .refl (.nil))))))))), .cons rfl (.cons rfl (.nil))⟩
  · refine ArrOb.mk 5 rfl (by decide) ?_
    refine IdxOb.mk ax i hax rfl hlt ?_
    refine LoadOb.mk _ (hrx.sub fun x hx => by simp [hx]) ?_
    refine PCallOb.whole _ (icome_at (d := ⟨5, s0, s1, s2, s3, dt, lo, hi', dka, dkn, dkc, dkids⟩) (x := x) hu hks (Nat.le_of_succ_le hb2) 5 (by decide) rfl (fun h => by omega) (fun h => absurd h (by decide))) (fun v I' M' h x hx => by rw [h.2.2]; exact hx) ?_
    rintro v I2 M2 - ⟨rfl, rfl, rfl⟩
    refine IdxOb.mk ⟨b8, 0, none⟩ i rfl rfl hlt ?_
    refine StoreOb.addTo [] (k2.blk 67 ++ M0) ((acc ++ List.replicate (t.n - i) fi0).flatMap Fi.cells) _ rfl (ble_fi hacc hlt _) rfl _ (hset _) ?_
    refine ArithOb.mk _ (next_wr (i := i) (by omega)) ?_
    exact ⟨(i + 1, _, k2), hinv _ _ hk2, .refl, .cons .refl (.cons .refl (.cons .refl (.cons .refl (.cons .refl (.cons .refl (.cons .refl (.cons .refl (.cons .refl (.nil))))))))), .cons rfl (.cons rfl (.nil))⟩
  · refine ArrOb.mk 6 rfl (by decide) ?_
    refine IdxOb.mk ax i hax rfl hlt ?_
    refine LoadOb.mk _ (hrx.sub fun x hx => by simp [hx]) ?_
    refine PCallOb.whole _ (icome_at (d := ⟨6, s0, s1, s2, s3, dt, lo, hi', dka, dkn, dkc, dkids⟩) (x := x) hu hks (Nat.le_of_succ_le hb2) 6 (by decide) rfl (fun _ => hpos (by decide)) (fun h => absurd h (by decide))) (fun v I' M' h x hx => by rw [h.2.2]; exact hx) ?_
    rintro v I2 M2 - ⟨rfl, rfl, rfl⟩
    refine IdxOb.mk ⟨b8, 0, none⟩ i rfl rfl hlt ?_
    refine StoreOb.addTo [] (k2.blk 67 ++ M0) ((acc ++ List.replicate (t.n - i) fi0).flatMap Fi.cells) _ rfl (ble_fi hacc hlt _) rfl _ (hset _) ?_
    refine ArithOb.mk _ (next_wr (i := i) (by omega)) ?_
    exact ⟨(i + 1, _, k2), hinv _ _ hk2, .refl, .cons .refl (.cons .refl (.cons .refl (.cons .refl (.cons .refl (.cons .refl (.cons .refl (.cons .refl (.cons .refl (.nil))))))))), .cons rfl (.cons rfl (.nil))⟩
  · refine ArrOb.mk 7 rfl (by decide) ?_
    refine IdxOb.mk ax i hax rfl hlt ?_
    refine LoadOb.mk _ (hrx.sub fun x hx => by simp [hx]) ?_
    refine PCallOb.whole _ (icome_at (d := ⟨7, s0, s1, s2, s3, dt, lo, hi', dka, dkn, dkc, dkids⟩) (x := x) hu hks (Nat.le_of_succ_le hb2) 7 (by decide) rfl (fun h => by omega) (fun h => absurd h (by decide))) (fun v I' M' h x hx => by rw [h.2.2]; exact hx) ?_
    rintro v I2 M2 - ⟨rfl, rfl, rfl⟩
    refine IdxOb.mk ⟨b8, 0, none⟩ i rfl rfl hlt ?_
    refine StoreOb.addTo [] (k2.blk 67 ++ M0) ((acc ++ List.replicate (t.n - i) fi0).flatMap Fi.cells) _ rfl (ble_fi hacc hlt _) rfl _ (hset _) ?_
    refine ArithOb.mk _ (next_wr (i := i) (by omega)) ?_
    exact ⟨(i + 1, _, k2), hinv _ _ hk2, .refl, .cons .refl (.cons .refl (.cons .refl (.cons .refl (.cons .refl (.cons .refl (.cons .refl (.cons .refl (.cons .refl (.nil))))))))), .cons rfl (.cons rfl (.nil))⟩
  · refine ArrOb.mk 8 rfl (by decide) ?_
    refine IdxOb.mk ax i hax rfl hlt ?_
    refine LoadOb.mk _ (hrx.sub fun x hx => by simp [hx]) ?_
    refine PCallOb.whole _ (icome_at (d := ⟨8, s0, s1, s2, s3, dt, lo, hi', dka, dkn, dkc, dkids⟩) (x := x) hu hks (Nat.le_of_succ_le hb2) 8 (by decide) rfl (fun h => by omega) (fun h => absurd h (by decide))) (fun v I' M' h x hx => by rw [h.2.2]; exact hx) ?_
    rintro v I2 M2 - ⟨rfl, rfl, rfl⟩
    refine IdxOb.mk ⟨b8, 0, none⟩ i rfl rfl hlt ?_
    refine StoreOb.addTo [] (k2.blk 67 ++ M0) ((acc ++ List.replicate (t.n - i) fi0).flatMap Fi.cells) _ rfl (ble_fi hacc hlt _) rfl _ (hset _) ?_
    refine ArithOb.mk _ (next_wr (i := i) (by omega)) ?_
    exact ⟨(i + 1, _, k2), hinv _ _ hk2, .refl, .cons .refl (.cons .refl (.cons .refl (.cons .refl (.cons .refl (.cons .refl (.cons .refl (.cons .refl (.cons .refl (.nil))))))))), .cons rfl (.cons rfl (.nil))⟩
  · refine ArrOb.mk 9 rfl (by decide) ?_
    refine IdxOb.mk ax i hax rfl hlt ?_
    refine LoadOb.mk _ (hrx.sub fun x hx => by simp [hx]) ?_
    refine PCallOb.whole _ (icome_at (d := ⟨9, s0, s1, s2, s3, dt, lo, hi', dka, dkn, dkc, dkids⟩) (x := x) hu hks (Nat.le_of_succ_le hb2) 9 (by decide) rfl (fun _ => hpos (by decide)) (fun h => absurd h (by decide))) (fun v I' M' h x hx => by rw [h.2.2]; exact hx) ?_
    rintro v I2 M2 - ⟨rfl, rfl, rfl⟩
    refine IdxOb.mk ⟨b8, 0, none⟩ i rfl rfl hlt ?_
    refine StoreOb.addTo [] (k2.blk 67 ++ M0) ((acc ++ List.replicate (t.n - i) fi0).flatMap Fi.cells) _ rfl (ble_fi hacc hlt _) rfl _ (hset _) ?_
    refine ArithOb.mk _ (next_wr (i := i) (by omega)) ?_
    exact ⟨(i + 1, _, k2), hinv _ _ hk2, .refl, .cons .refl (.cons .refl (.cons .refl (.cons .refl (.cons .refl (.cons .refl (.cons .refl (.cons .refl (.cons .refl (.nil))))))))), .cons rfl (.cons rfl (.nil))⟩
end Go.V

/-
  Walks: first.Of, Nodes, Tree.
-/
set_option linter.unusedVariables false
set_option linter.unusedSimpArgs false
namespace Go.V
open Go Go.Proofs

/-- The rows of flows of the rules' bodies, known. -/
def rowV (b : Nat) (n : Nat) : Value := .slice (some ⟨b, 0, none⟩) n n
structure RowsF (I : GH) (pl : List (ByteArray × Int)) (F : List Fl) (ds : List Df) (k : Nat) (rows : List Value) : Prop where
  len : rows.length = ds.length
  row : ∀ i (h : i < ds.length), i < k → ∃ b, rows[i]? = some (rowV b ds[i].t.n) ∧ I b = some (flRow b (nodesF pl F ds[i].t.ns [])).obj
theorem RowsF.mono {I I' : GH} {pl : List (ByteArray × Int)} {F : List Fl} {ds : List Df} {k : Nat} {rows : List Value} (h : RowsF I pl F ds k rows) (hI : ∀ b o, I b = some o → I' b = some o) : RowsF I' pl F ds k rows :=
  ⟨h.len, fun i hi hk => by
    obtain ⟨b, h1, h2⟩ := h.row i hi hk
    exact ⟨b, h1, hI _ _ h2⟩⟩
theorem flRow_kn {I : GH} {M : List Blk} {b : Nat} {l : List Fl} (h : I b = some (flRow b l).obj) : FsAt I M (some ⟨b, 0, none⟩) l.length l :=
  ⟨rfl, fun j hj => ⟨_, rfl, by
    have h1 := flRow_rd (I := I) (M := [flRow b l]) (.head _) hj
    obtain ⟨q1, cs, T, f, q2, q3, q4⟩ := h1
    rw [addr_add _ rfl] at q2 ⊢
    refine ⟨rfl, (l.flatMap Fl.cells).toArray, _, _, .inl h, ?_, q4⟩
    rcases q2 with q2 | ⟨x, hx, e1, e2⟩
    · rw [addr_add _ rfl] at q3
      have : some (Obj.cells cs T f) = some (flRow b l).obj := q2.symm.trans h
      simp only [flRow, Option.some.injEq, Obj.cells.injEq] at this
      rw [← this.1]
      exact q3
    · simp only [List.mem_singleton] at hx
      subst hx
      rw [addr_add _ rfl] at q3
      simp only [flRow, Obj.cells.injEq] at e2
      rw [e2.1]
      exact q3⟩⟩
def iM (b6 bl b7 bF b1 : Nat) (g : Gr) (l : List Fi) (rows : List Value) : List Blk := [⟨b6, .cells #[.slice (some ⟨bl, 0, none⟩) g.n g.n] 49 (0, 0)⟩, ⟨b7, .cells #[.slice (some ⟨bF, 0, none⟩) g.n g.n] 134 (0, 0)⟩, fiRow bl l, ⟨bF, .cells rows.toArray 74 (0, 0)⟩, ⟨b1, .cells #[.slice g.a g.n g.c] 24 (0, 0)⟩]
theorem blkI_rd0 {I : GH} {M : List Blk} {b : Nat} {f : Fi} (hM : (⟨b, .cells f.cells.toArray 67 (0, 0)⟩ : Blk) ∈ M) : Rd I M (⟨b, 0, none⟩ : Addr) 5 f.cells := ⟨rfl, _, _, _, .inr ⟨_, hM, rfl, rfl⟩, rfl, rfl⟩
theorem ble_rowI {l : List Fi} {i : Nat} (hi : i < l.length) {x : Fi} : Nat.ble (0 + i * 5 + x.cells.length) (l.flatMap Fi.cells).length = true := by
  rw [Nat.ble_eq, fi_len, Fi.cells_len]
  omega
theorem splice_oneI (l : List Value) (k : Nat) (v : Value) (h : k < l.length) : splice l k [v] = l.set k v := by
  rw [splice, List.set_eq_take_append_cons_drop, if_pos h]
  simp
theorem roundR_step {α : Type} (body : List α → Nat → α) {i n : Nat} (h : i < n) (l : List α) : roundR body i (n - i) l = roundR body (i + 1) (n - (i + 1)) (l.set i (body l i)) := by
  rw [show n - i = (n - (i + 1)) + 1 by omega, roundR]
theorem bodyI_mono' {pl : List (ByteArray × Int)} {F : List Fl} {ds : List Df} {n : Nat} : ∀ {l m : List Fi}, LeR OI l m → ∀ i, i < n → OI.le (bodyI pl F ds l i) (bodyI pl F ds m i) := fun h i _ => bodyI_mono h i

set_option maxRecDepth 100000 in
set_option maxHeartbeats 8000000 in
theorem IOf1_spec {I : GH} {g : Gr} (hg : g.ok I) (hkb : ∀ d ∈ g.ds, KB d.t) (hm : MayF g) {F : List Fl} {rows : List Value} (hrows : RowsF I (placesL g.ds) F g.ds g.ds.length rows) {b6 bl b7 bF b1 : Nat} {l0 : List Fi} (hl0 : PreI g.ds F l0) :
    Spec Tryz.prog 77 [ptr b1, ptr b6, ptr b7] I (iM b6 bl b7 bF b1 g l0 rows) fun v I' M' => v = .bool (decide (roundR (bodyI (placesL g.ds) F g.ds) 0 g.n l0 ≠ l0)) ∧ I' = I ∧ M' = iM b6 bl b7 bF b1 g (roundR (bodyI (placesL g.ds) F g.ds) 0 g.n l0) rows := by
  refine spec_of_V [] TryzEOK Tryz.func77 rfl rfl rfl ?_
  intro B h0
  have hgn := hg.n
  have hcap := hg.rs.cap
  have rd1 : ∀ {M : List Blk}, (⟨b1, .cells #[.slice g.a g.n g.c] 24 (0, 0)⟩ : Blk) ∈ M → Rd I M ((⟨b1, 0, none⟩ : Addr).add 0) 1 [.slice g.a g.n g.c] := fun hM => blk_rd (cs := [.slice g.a g.n g.c]) (k := 0) (n := 1) hM (by simp)
  have rd1' : ∀ {M : List Blk}, (⟨b1, .cells #[.slice g.a g.n g.c] 24 (0, 0)⟩ : Blk) ∈ M → Rd I M (⟨b1, 0, none⟩ : Addr) 1 [.slice g.a g.n g.c] := fun hM => ⟨rfl, _, _, _, .inr ⟨_, hM, rfl, rfl⟩, rfl, rfl⟩
  have rd6 : ∀ {M : List Blk}, (⟨b6, .cells #[.slice (some ⟨bl, 0, none⟩) g.n g.n] 49 (0, 0)⟩ : Blk) ∈ M → Rd I M (⟨b6, 0, none⟩ : Addr) 1 [.slice (some ⟨bl, 0, none⟩) g.n g.n] := fun hM => ⟨rfl, _, _, _, .inr ⟨_, hM, rfl, rfl⟩, rfl, rfl⟩
  have rd7 : ∀ {M : List Blk}, (⟨b7, .cells #[.slice (some ⟨bF, 0, none⟩) g.n g.n] 134 (0, 0)⟩ : Blk) ∈ M → Rd I M (⟨b7, 0, none⟩ : Addr) 1 [.slice (some ⟨bF, 0, none⟩) g.n g.n] := fun hM => ⟨rfl, _, _, _, .inr ⟨_, hM, rfl, rfl⟩, rfl, rfl⟩
  refine LoadOb.mk _ (rd1 (by simp [iM])) ?_
  refine LoopOb.inv (ι := Nat × List Fi) (fun x => { fl := [(0, .val (ptr b1)), (1, .val (ptr b6)), (2, .val (ptr b7)), (4, .val (.bool (decide (x.2 ≠ l0)))), (9, .val (.slice g.a g.n g.c)), (10, .val (.int .i64 g.n)), (11, .val (.int .i64 x.1))], gi := I, mi := iM b6 bl b7 bF b1 g x.2 rows })
    (fun x => x.1 ≤ g.n ∧ PreI g.ds F x.2 ∧ LeR OI l0 x.2 ∧ roundR (bodyI (placesL g.ds) F g.ds) 0 g.n l0 = roundR (bodyI (placesL g.ds) F g.ds) x.1 (g.n - x.1) x.2) (fun x => g.n - x.1) ?_ ?_
  · refine ⟨(0, l0), ⟨Nat.zero_le _, hl0, LeR.refl _, rfl⟩, .refl, .cons .refl (.cons .refl (.cons .refl (.cons ?_ (.cons .refl (.cons .refl (.cons .refl .nil)))))), .nil⟩
    exact sv_lit (by simp)
  rintro ⟨i, l⟩ ⟨hi, hP, hle, hgo⟩
  simp only at hi hP hle hgo
  have hll := hP.len
  refine CondOb.mk (fun h => ?_) (fun h => ?_)
  rotate_left
  · have hge : i = g.n := by have : ¬ (i : Int) < (g.n : Int) := of_decide_eq_false h; omega
    rw [hge, Nat.sub_self, roundR] at hgo
    exact ⟨_, _, .refl, by rw [hgo], rfl, by rw [hgo]⟩
  have hlt : i < g.n := by have : (i : Int) < (g.n : Int) := of_decide_eq_true h; omega
  have hlt' : i < g.ds.length := by omega
  have hil : i < l.length := by omega
  obtain ⟨ad, had, hrd⟩ := hg.rs.row Df.cells_len hlt hlt'
  have hdm := List.getElem_mem hlt'
  have hd := hg.ds _ hdm
  have hr := hm.right _ hdm
  have hkbd := hkb _ hdm
  have hca := called_of (hm.named _ hdm)
  rw [show g.ds.length = l.length from hll.symm] at hca
  obtain ⟨hP', hle'⟩ := PreR.step bodyI_mono' hP hlt'
  have hgo' : roundR (bodyI (placesL g.ds) F g.ds) 0 g.n l0 = roundR (bodyI (placesL g.ds) F g.ds) (i + 1) (g.n - (i + 1)) (l.set i (bodyI (placesL g.ds) F g.ds l i)) := by
    rw [hgo, roundR_step _ hlt]
  obtain ⟨bk, hbk1, hbk2⟩ := hrows.row i hlt' hlt'
  have hrl2 : i < rows.length := by rw [hrows.len]; exact hlt'
  have hbody : bodyI (placesL g.ds) F g.ds l i = (nodesI (placesL g.ds) l (nodesF (placesL g.ds) F g.ds[i].t.ns []) g.ds[i].t.ns []).getD g.ds[i].t.root.toNat fi0 := by
    unfold bodyI
    rw [List.getElem?_eq_getElem hlt']
  generalize bodyI (placesL g.ds) F g.ds l i = f at hP' hle' hgo' hbody
  generalize g.ds[i] = d at hrd hd hr hkbd hca hbody hbk1 hbk2
  have hroot := right_root hr
  have htn := hd.t.n
  have hxl := nodesF_len (placesL g.ds) F d.t.ns []
  simp only [List.length_nil, Nat.zero_add] at hxl
  have hnl := nodesI_len (placesL g.ds) l (nodesF (placesL g.ds) F d.t.ns []) d.t.ns []
  simp only [List.length_nil, Nat.zero_add] at hnl
  have hrl : d.t.root.toNat < (nodesI (placesL g.ds) l (nodesF (placesL g.ds) F d.t.ns []) d.t.ns []).length := by omega
  have hfe : (nodesI (placesL g.ds) l (nodesF (placesL g.ds) F d.t.ns []) d.t.ns [])[d.t.root.toNat] = f := by
    rw [hbody]
    simp [List.getD_eq_getElem?_getD, hrl]
  have hxs : ∀ M, FsAt I M (some ⟨bk, 0, none⟩) d.t.n (nodesF (placesL g.ds) F d.t.ns []) := fun M => by
    have := flRow_kn (I := I) (M := M) hbk2
    rwa [hxl, htn] at this
  have hspec : ∀ {M : List Blk}, fiRow bl l ∈ M → Spec Tryz.prog 78 [g.val, .slice (some ⟨bl, 0, none⟩) g.n g.n, d.t.val, .slice (some ⟨bk, 0, none⟩) d.t.n d.t.n] I M fun v I' M' => I' = I ∧ ∃ b, v = .slice (some ⟨b, 0, none⟩) d.t.n d.t.n ∧ M' = fiRow b (nodesI (placesL g.ds) l (nodesF (placesL g.ds) F d.t.ns []) d.t.ns []) :: M := fun {M} hM => by
    have hat := fiRow_at (I := I) hM
    have := inodes_spec (M0 := M) (lc := g.n) (xc := d.t.n) hg hd.t hkbd hr hat hca (hxs M)
    rwa [show l.length = g.n by omega] at this
  refine IdxOb.mk ad i had rfl hlt ?_
  refine LoadOb.mk _ (hrd _) ?_
  have hlf : l.getD i fi0 = l[i] := by simp [List.getD_eq_getElem?_getD, hil]
  have more : (!decide (f = l[i])) = true → decide (l.set i f ≠ l0) = true := fun h => by
    have hne : f ≠ l[i] := by simpa using h
    rw [decide_eq_true_eq]
    intro e
    have e2 : l.set i f = l := by
      refine LeR.anti (O := OI) ?_ hle'
      rw [e]
      exact hle
    have h3 := set_getR l fi0 i i f hil
    rw [e2, if_pos rfl, hlf] at h3
    exact hne h3.symm
  have same : (!decide (f = l[i])) = false → l.set i f = l := fun h => by
    have he : f = l[i] := by simpa using h
    rw [he]
    exact List.set_getElem_self hil
  have rdF : ∀ {M : List Blk}, (⟨bF, .cells rows.toArray 74 (0, 0)⟩ : Blk) ∈ M → Rd I M ((⟨bF, 0, none⟩ : Addr).add (i * 1)) 1 [rowV bk d.t.n] := fun hM => by
    have h := blk_rd (I := I) (cs := rows) (k := i) (n := 1) hM (by omega)
    have hri : rows[i] = rowV bk d.t.n := by
      have := hbk1
      rw [List.getElem?_eq_getElem hrl2] at this
      exact Option.some.inj this
    rw [List.drop_eq_getElem_cons hrl2, List.take_succ_cons, List.take_zero, hri] at h
    rw [Nat.mul_one]
    exact h
  refine CodeOb.drawC TryzEOK rfl rfl rfl (ι := Nat) (fun s => { fl := [(0, .val (ptr b1)), (1, .val (ptr b6)), (2, .val (ptr b7)), (4, .val (.bool (decide (l ≠ l0)))), (5, .val (.int .i64 i)), (7, .val (ptr s)), (9, .val (.slice g.a g.n g.c)), (10, .val (.int .i64 g.n)), (11, .val (.int .i64 i))], gi := I, mi := ⟨s, .cells f.cells.toArray 67 (0, 0)⟩ :: iM b6 bl b7 bF b1 g l rows }) (fun _ => True) ?_ ?_
  · refine LoadOb.mk _ (rd1' (by simp [iM])) ?_
    refine LoadOb.mk _ (rd6 (by simp [iM])) ?_
    refine LoadOb.mk _ (rd7 (by simp [iM])) ?_
    refine IdxOb.mk ⟨bF, 0, none⟩ i rfl rfl hlt ?_
    refine LoadOb.mk _ (rdF (by simp [iM])) ?_
    refine ⟨?_, ?_⟩
    · refine PCallOb.whole _ (hspec (by simp [iM])) (fun v I' M' h x hx => by obtain ⟨-, b, -, rfl⟩ := h; exact .tail _ hx) ?_
      rintro v I2 M2 - ⟨rfl, b, rfl, rfl⟩
      refine IdxOb.mk ⟨b, 0, none⟩ d.t.root.toNat rfl (by omega) (by omega) ?_
      refine LoadOb.mk _ (fiRow_rd (.head _) hrl) ?_
      rw [hfe]
      refine AllocOb.mk fun s hs hsM => ?_
      refine StoreOb.to [] _ _ _ rfl rfl rfl rfl f.cells rfl ?_
      exact ⟨s, trivial, .sub (.cons_cons _ (.cons _ (.refl _))) .refl, .cons .refl (.cons .refl (.cons .refl (.cons .refl (.cons .refl (.cons .refl (.cons .refl (.cons .refl (.cons .refl (.nil))))))))), .nil⟩
    · refine AllocOb.mk fun s hs hsM => ?_
      refine PCallOb.whole _ (hspec (by simp [iM])) (fun v I' M' h x hx => by obtain ⟨-, b, -, rfl⟩ := h; exact .tail _ hx) ?_
      rintro v I2 M2 - ⟨rfl, b, rfl, rfl⟩
      refine IdxOb.mk ⟨b, 0, none⟩ d.t.root.toNat rfl (by omega) (by omega) ?_
      refine LoadOb.mk _ (fiRow_rd (.head _) hrl) ?_
      rw [hfe]
      refine StoreOb.to [_] _ _ _ rfl rfl rfl rfl f.cells rfl ?_
      exact ⟨s, trivial, .sub (.cons _ (.refl _)) .refl, .cons .refl (.cons .refl (.cons .refl (.cons .refl (.cons .refl (.cons .refl (.cons .refl (.cons .refl (.cons .refl (.nil))))))))), .nil⟩
  rintro s -
  refine CodeOb.draw TryzEOK rfl rfl rfl ?_
  refine LoadOb.mk f.cells (blkI_rd0 (by simp)) ?_
  refine LoadOb.mk _ (rd6 (by simp [iM])) ?_
  refine IdxOb.mk ⟨bl, 0, none⟩ i rfl rfl hlt ?_
  refine LoadOb.mk _ (fiRow_rd (by simp [iM]) hil) ?_
  refine BinOb.neI (p := f) (q := l[i]) ?_
  refine CondOb.mk (fun h => ?_) (fun h => ?_)
  · refine LoadOb.mk _ (rd6 (by simp [iM])) ?_
    refine LoadOb.mk f.cells (blkI_rd0 (by simp)) ?_
    refine IdxOb.mk ⟨bl, 0, none⟩ i rfl rfl hlt ?_
    refine StoreOb.addTo [⟨s, .cells f.cells.toArray 67 (0, 0)⟩, ⟨b6, .cells #[.slice (some ⟨bl, 0, none⟩) g.n g.n] 49 (0, 0)⟩, ⟨b7, .cells #[.slice (some ⟨bF, 0, none⟩) g.n g.n] 134 (0, 0)⟩] [⟨bF, .cells rows.toArray 74 (0, 0)⟩, ⟨b1, .cells #[.slice g.a g.n g.c] 24 (0, 0)⟩] (l.flatMap Fi.cells) _ rfl (ble_rowI hil) rfl ((l.set i f).flatMap Fi.cells) (by rw [Nat.zero_add]; exact fiRow_set l i hil f) ?_
    refine ArithOb.mk _ (next_wr (i := i) (by omega)) ?_
    exact ⟨(i + 1, l.set i f), ⟨⟨by simp only; omega, hP', hle.trans hle', hgo'⟩, by simp only; omega⟩, .sub (M1 := iM b6 bl b7 bF b1 g (l.set i f) rows) (by exact .cons _ (.refl _)) .refl, .cons .refl (.cons .refl (.cons .refl (.cons (sv_lit (more h).symm) (.cons .refl (.cons .refl (.cons .refl .nil)))))), .nil⟩
  · have he : l.set i f = l := same h
    rw [he] at hgo'
    refine ArithOb.mk _ (next_wr (i := i) (by omega)) ?_
    exact ⟨(i + 1, l), ⟨⟨by simp only; omega, hP, hle, hgo'⟩, by simp only; omega⟩, .sub (M1 := iM b6 bl b7 bF b1 g l rows) (by exact .cons _ (.refl _)) .refl, .cons .refl (.cons .refl (.cons .refl (.cons .refl (.cons .refl (.cons .refl (.cons .refl .nil)))))), .nil⟩
end Go.V

/-
  Walks: first.Of, Nodes, Tree, from their inner parts.
-/
set_option linter.unusedVariables false
set_option linter.unusedSimpArgs false
namespace Go.V
open Go Go.Proofs

theorem permI5 {α : Type} (a b c d e : α) : [a, b, c, d, e].Perm [c, a, d, b, e] := (List.perm_middle (l₁ := [a, b]) (l₂ := [d, e])).trans (.cons _ (.cons _ (.swap _ _ _)))
def nilV : Value := .slice none 0 0
theorem rowOf_nil (n : Nat) : rowOf [nilV] (n * 1) = List.replicate n nilV := by
  have key : ∀ n : Nat, (List.replicate n nilV).flatMap (fun v : Value => [v]) = List.replicate n nilV := by
    intro n
    induction n with
    | zero => rfl
    | succ n ih => rw [List.replicate_succ, List.flatMap_cons, ih]; rfl
  exact (rowOf_flat (fun v : Value => [v]) nilV 1 rfl (by decide) n).trans (key n)
set_option maxRecDepth 100000 in
set_option maxHeartbeats 8000000 in
theorem IOf_spec {I : GH} {deb : List Int} (hT : Tabs I deb) {g : Gr} (hg : g.ok I) (hkb : ∀ d ∈ g.ds, KB d.t) : Spec Tryz.prog 36 [g.val] I [] fun v I' M' => (∀ b o, I b = some o → I' b = some o) ∧
    ((mayG deb g ≠ 0 ∧ v = .tuple #[.slice none 0 0, .int .i64 (mayG deb g)] ∧ M' = []) ∨ (mayG deb g = 0 ∧ ∃ F b l, IsFlow g.ds F ∧ IsFirst g.ds F l ∧ v = .tuple #[.slice (some ⟨b, 0, none⟩) g.n g.n, .int .i64 0] ∧ M' = [fiRow b l])) := by
  refine spec_of_V [1, 6, 7] TryzEOK Tryz.func36 rfl rfl rfl ?_
  intro B h0
  have hgn := hg.n
  have hcap := hg.rs.cap
  refine AllocOb.mk fun b1 hb1 hbM1 => ?_
  refine LoadOb.mk [.slice g.a g.n g.c] ⟨rfl, _, _, _, .inr ⟨_, .head _, rfl, rfl⟩, rfl, rfl⟩ ?_
  refine CallOb.mk [] [⟨b1, .cells #[.slice g.a g.n g.c] 24 (0, 0)⟩] _ (.refl _) (FOf_spec hT hg) ?_
  rintro v I1 M1 - ⟨hI1, ⟨hm, rfl, rfl⟩ | ⟨hm, bf, F, rfl, rfl, hF⟩⟩
  · refine CondOb.mk (fun h => ?_) (fun h => ?_)
    · exact ⟨_, _, .sub (List.nil_sublist _) .refl, hI1, .inl ⟨hm, rfl, rfl⟩⟩
    · exact absurd h (by simp [hm])
  refine CondOb.mk (fun h => absurd h (by simp)) (fun _ => ?_)
  have hM := mayF_of hgn hm
  have hg1 := hg.mono hI1
  have hFn := hF.len
  refine LoadOb.mk _ (blk_rd (b := b1) (cs := [.slice g.a g.n g.c]) (k := 0) (n := 1) (T := 24) (.tail _ (.head _)) (by simp)) ?_
  refine MakeOb.mk g.n g.n rfl rfl (Nat.le_refl _) (by show 40 * g.n ≤ _; omega) (by omega) ?_
  refine AllocOb.mk fun bl hbl hbMl => ?_
  refine AllocOb.mk fun b6 hb6 hbM6 => ?_
  refine StoreOb.to [] _ _ _ rfl rfl rfl rfl [.slice (some ⟨bl, 0, none⟩) g.n g.n] rfl ?_
  refine LoadOb.mk _ (blk_rd (b := b1) (cs := [.slice g.a g.n g.c]) (k := 0) (n := 1) (T := 24) (by simp) (by simp)) ?_
  refine MakeOb.mk g.n g.n rfl rfl (Nat.le_refl _) (by show 24 * g.n ≤ _; omega) (by omega) ?_
  refine AllocOb.mk fun bF hbF hbMF => ?_
  refine AllocOb.mk fun b7 hb7 hbM7 => ?_
  refine StoreOb.to [] _ _ _ rfl rfl rfl rfl [.slice (some ⟨bF, 0, none⟩) g.n g.n] rfl ?_
  refine LoadOb.mk _ (blk_rd (b := b1) (cs := [.slice g.a g.n g.c]) (k := 0) (n := 1) (T := 24) (by simp) (by simp)) ?_
  have e : rowOf fi0.cells (g.n * 5) = (List.replicate g.ds.length fi0).flatMap Fi.cells := by rw [hgn]; exact rowOf_fi g.n
  have e2 : rowOf [nilV] (g.n * 1) = List.replicate g.n nilV := rowOf_nil g.n
  refine LoopOb.invF (ι := Nat × GH × List Value) (fun x => { fl := [(1, .val (ptr b1)), (4, .val (.slice (some ⟨bf, 0, none⟩) g.n g.n)), (6, .val (ptr b6)), (7, .val (ptr b7)), (28, .val (.slice g.a g.n g.c)), (29, .val (.int .i64 g.n)), (30, .val (.int .i64 x.1))], gi := x.2.1, mi := [⟨b7, .cells #[.slice (some ⟨bF, 0, none⟩) g.n g.n] 134 (0, 0)⟩, ⟨bF, .cells x.2.2.toArray 74 (0, 0)⟩, ⟨b6, .cells #[.slice (some ⟨bl, 0, none⟩) g.n g.n] 49 (0, 0)⟩, fiRow bl (List.replicate g.ds.length fi0), flRow bf F, ⟨b1, .cells #[.slice g.a g.n g.c] 24 (0, 0)⟩] })
    (fun x => x.1 ≤ g.n ∧ (∀ b o, I1 b = some o → x.2.1 b = some o) ∧ RowsF x.2.1 (placesL g.ds) F g.ds x.1 x.2.2) (fun x => g.n - x.1) (fun _ => ?_) ?_
  · refine ⟨(0, I1, List.replicate g.n nilV), ⟨Nat.zero_le _, fun _ _ h => h, ⟨by simp [hgn], fun i _ h => by simp at h⟩⟩, ?_, .cons .refl (.cons .refl (.cons .refl (.cons .refl (.cons .refl (.cons .refl (.cons .refl (.nil))))))), .nil⟩
    simp only [fiRow]
    rw [← e, ← e2]
    exact .refl
  rintro ⟨i, J, rows⟩ ⟨hi, hJ, hR⟩
  simp only at hi hJ hR
  have hgJ := hg1.mono hJ
  refine CondOb.mk (fun h => ?_) (fun h => ?_)
  · have hlt : i < g.n := by have : (i : Int) < (g.n : Int) := of_decide_eq_true h; omega
    have hlt' : i < g.ds.length := by omega
    obtain ⟨ad, had, hrd⟩ := hgJ.rs.row Df.cells_len hlt hlt'
    have hdm := List.getElem_mem hlt'
    have hd := hgJ.ds _ hdm
    have hr := hM.right _ hdm
    have hno := hM.named _ hdm
    have hRl := hR.len
    refine IdxOb.mk ad i had rfl hlt ?_
    refine LoadOb.mk _ (hrd _) ?_
    have hTJ := (hT.mono hI1).mono hJ
    have hnp : nodesP g F g.ds[i].t = some (nodesF (placesL g.ds) F g.ds[i].t.ns []) := by
      rw [nodesP, show decide (F.length = g.n) = true by rw [hFn]; simp [hgn], hr, hno]
      rfl
    have hstep : ∀ (J2 : GH) (b : Nat), (∀ b o, J b = some o → J2 b = some o) → J2 b = none → RowsF (ins J2 b (flRow b (nodesF (placesL g.ds) F g.ds[i].t.ns [])).obj) (placesL g.ds) F g.ds (i + 1) (rows.set i (rowV b g.ds[i].t.n)) := fun J2 b hJ2 hb => by
      refine ⟨by simpa using hRl, fun j hj hji => ?_⟩
      by_cases ej : j = i
      · subst ej
        exact ⟨b, by simp [hRl, hj], ins_self ..⟩
      · obtain ⟨bk, q1, q2⟩ := hR.row j hj (by omega)
        exact ⟨bk, by rw [List.getElem?_set_ne (by omega)]; exact q1, ins_le hb _ _ (hJ2 _ _ q2)⟩
    generalize g.ds[i] = d at hrd hd hr hno hnp hstep
    refine CodeOb.draw TryzEOK rfl rfl rfl ?_
    refine LoadOb.mk [.slice (some ⟨bF, 0, none⟩) g.n g.n] ⟨rfl, _, _, _, .inr ⟨_, .head _, rfl, rfl⟩, rfl, rfl⟩ ?_
    refine LoadOb.mk [.slice g.a g.n g.c] ⟨rfl, _, _, _, .inr ⟨⟨b1, .cells #[.slice g.a g.n g.c] 24 (0, 0)⟩, by simp, rfl, rfl⟩, rfl, rfl⟩ ?_
    have hat : FsAt J [⟨b7, .cells #[.slice (some ⟨bF, 0, none⟩) g.n g.n] 134 (0, 0)⟩, ⟨bF, .cells rows.toArray 74 (0, 0)⟩, ⟨b6, .cells #[.slice (some ⟨bl, 0, none⟩) g.n g.n] 49 (0, 0)⟩, fiRow bl (List.replicate g.ds.length fi0), flRow bf F, ⟨b1, .cells #[.slice g.a g.n g.c] 24 (0, 0)⟩] (some ⟨bf, 0, none⟩) g.n F := by
      have := flRow_at (I := J) (M := [⟨b7, .cells #[.slice (some ⟨bF, 0, none⟩) g.n g.n] 134 (0, 0)⟩, ⟨bF, .cells rows.toArray 74 (0, 0)⟩, ⟨b6, .cells #[.slice (some ⟨bl, 0, none⟩) g.n g.n] 49 (0, 0)⟩, fiRow bl (List.replicate g.ds.length fi0), flRow bf F, ⟨b1, .cells #[.slice g.a g.n g.c] 24 (0, 0)⟩]) (b := bf) (l := F) (by simp)
      rwa [show F.length = g.n by omega] at this
    refine PCallOb.whole _ (FNodes_spec (lc := g.n) hTJ hgJ hd.t hat) (fun v I' M' h x hx => by
      rcases h.2 with ⟨-, -, rfl⟩ | ⟨r, b, -, -, rfl⟩
      · exact hx
      · exact .tail _ hx) ?_
    rintro v J2 M2 - ⟨hJ2, ⟨hn, -, -⟩ | ⟨r, b, hn, rfl, rfl⟩⟩
    · rw [hnp] at hn; cases hn
    rw [hnp] at hn
    obtain rfl := Option.some.inj hn
    refine IdxOb.mk ⟨bF, 0, none⟩ i rfl rfl hlt ?_
    refine StoreOb.addTo [_, _] _ rows _ rfl (by rw [Nat.ble_eq]; show 0 + i * 1 + 1 ≤ rows.length; omega) rfl (rows.set i (rowV b d.t.n)) ?_ ?_
    · show splice rows (0 + i * 1) [rowV b d.t.n] = _
      rw [Nat.zero_add, Nat.mul_one, splice_oneI _ _ _ (by omega)]
    refine ArithOb.mk _ (next_wr (i := i) (by omega)) ?_
    intro hfa
    have hb := hfa.d (flRow b (nodesF (placesL g.ds) F d.t.ns [])) (.head _)
    exact ⟨(i + 1, ins J2 b (flRow b (nodesF (placesL g.ds) F d.t.ns [])).obj, rows.set i (rowV b d.t.n)), ⟨⟨hlt, fun b o h => ins_le hb _ _ (hJ2 _ _ (hJ _ _ h)), hstep J2 b hJ2 hb⟩, by simp only; omega⟩, .prom rfl (by simp) .refl, .cons .refl (.cons .refl (.cons .refl (.cons .refl (.cons .refl (.cons .refl (.cons .refl (.nil))))))), .nil⟩
  have hge : i = g.n := by have : ¬ (i : Int) < (g.n : Int) := of_decide_eq_false h; omega
  subst hge
  have hR' : RowsF J (placesL g.ds) F g.ds g.ds.length rows := by rw [hgn]; exact hR
  refine LoopOb.inv (ι := List Fi) (fun l => { fl := [(6, .val (ptr b6)), (10, .val (.func (.func 77) #[] #[ptr b1, ptr b6, ptr b7]))], gi := J, mi := iM b6 bl b7 bF b1 g l rows }) (PreI g.ds F) offsI ?_ ?_
  · refine ⟨List.replicate g.ds.length fi0, PreR.start (O := OI) _ _, .sub (.cons_cons _ (.cons_cons _ (.cons_cons _ (.cons_cons _ (.cons _ (.refl _)))))) (.perm (permI5 ..) .refl), .cons .refl (.cons .refl (.nil)), .nil⟩
  intro l hl
  refine CallOb.whole _ (IOf1_spec hgJ hkb hM hR' hl) ?_
  rintro v J3 M3 - ⟨rfl, rfl, rfl⟩
  have hgl : g.ds.length = g.n := hgn
  obtain ⟨r1, r2, -⟩ := roundR_pre bodyI_mono' g.ds.length 0 (Nat.zero_add _) hl
  rw [hgl] at r1 r2
  refine CondOb.mk (fun h => ?_) (fun h => ?_)
  · exact ⟨_, ⟨by unfold PreI; rw [hgl]; exact r1, offsI_lt r2 (of_decide_eq_true h)⟩, .refl, .cons .refl (.cons .refl (.nil)), .nil⟩
  · have hf : roundR (bodyI (placesL g.ds) F g.ds) 0 g.n l = l := by
      have := of_decide_eq_false h
      exact Classical.not_not.1 this
    rw [hf]
    refine LoadOb.mk [.slice (some ⟨bl, 0, none⟩) g.n g.n] ⟨rfl, _, _, _, .inr ⟨_, .head _, rfl, rfl⟩, rfl, rfl⟩ ?_
    refine ⟨J3, [fiRow bl l], .sub (.cons _ (.cons _ (.cons_cons _ (List.nil_sublist _)))) .refl, fun b o h => hJ _ _ (hI1 _ _ h), .inr ⟨hm, F, bl, l, hF, ?_, rfl, rfl⟩⟩
    exact PreR.done bodyI_mono' hl (by rw [hgl]; exact hf)

/-- May firsts be asked for of a tree? -/
def okI (deb : List Int) (g : Gr) (l : List Fi) (t : Tr) : Bool := decide (l.length = g.n) && (decide (mayG deb g = 0) && (right t && namedOk (placesL g.ds) t.ns))
set_option maxHeartbeats 4000000 in
theorem INodes_spec {I : GH} {M0 : List Blk} {deb : List Int} (hT : Tabs I deb) {g : Gr} (hg : g.ok I) {t : Tr} (ht : t.ok I) (hkb : KB t) {la : Option Addr} {ln lc : Nat} {l : List Fi} (hl : IsAt I M0 la ln l) :
    Spec Tryz.prog 39 [g.val, .slice la ln lc, t.val] I M0 fun v I' M' => (∀ b o, I b = some o → I' b = some o) ∧
      ((okI deb g l t = false ∧ v = .tuple #[.slice none 0 0, .bool false] ∧ M' = M0) ∨ (okI deb g l t = true ∧ ∃ F b, IsFlow g.ds F ∧ v = .tuple #[.slice (some ⟨b, 0, none⟩) t.n t.n, .bool true] ∧ M' = fiRow b (nodesI (placesL g.ds) l (nodesF (placesL g.ds) F t.ns []) t.ns []) :: M0)) := by
  refine spec_of_V [] TryzEOK Tryz.func39 rfl rfl rfl ?_
  intro B h0
  have hgn := hg.n
  have htn := ht.n
  have hln := hl.n
  refine CondOb.mk (fun h => ?_) (fun h => ?_)
  · have hne : ¬ (ln : Int) = (g.n : Int) := by simpa using h
    have hd : decide (l.length = g.n) = false := decide_eq_false (by omega)
    exact ⟨_, _, .refl, fun _ _ h => h, .inl ⟨by simp [okI, hd], rfl, rfl⟩⟩
  have hln' : ln = g.n := by
    have : (ln : Int) = (g.n : Int) := by simpa using h
    omega
  have hd1 : decide (l.length = g.n) = true := decide_eq_true (by omega)
  refine CallOb.mk [] M0 _ (.refl _) (FOf_spec hT hg) ?_
  rintro v I1 M1 - ⟨hI1, ⟨hm, rfl, rfl⟩ | ⟨hm, bf, F, rfl, rfl, hF⟩⟩
  · refine CondOb.mk (fun _ => ?_) (fun h => absurd h (by simp [hm]))
    exact ⟨_, _, .refl, hI1, .inl ⟨by simp [okI, hm], rfl, rfl⟩⟩
  refine CondOb.mk (fun h => absurd h (by simp)) (fun _ => ?_)
  have hFn := hF.len
  have hg1 := hg.mono hI1
  have ht1 := ht.mono hI1
  have hat : FsAt I1 (flRow bf F :: M0) (some ⟨bf, 0, none⟩) g.n F := by
    have := flRow_at (I := I1) (M := flRow bf F :: M0) (b := bf) (l := F) (.head _)
    rwa [show F.length = g.n by omega] at this
  refine CallOb.whole _ (FNodes_spec (lc := g.n) (hT.mono hI1) hg1 ht1 hat) ?_
  have hdF : decide (F.length = g.n) = true := decide_eq_true (by omega)
  rintro v I2 M2 - ⟨hI2, ⟨hn, rfl, rfl⟩ | ⟨r, b, hn, rfl, rfl⟩⟩
  · refine CondOb.mk (fun _ => ?_) (fun h => absurd h (by simp))
    refine ⟨_, _, .sub (.cons _ (.refl _)) .refl, fun b o h => hI2 _ _ (hI1 _ _ h), .inl ⟨?_, rfl, rfl⟩⟩
    cases hb : (right t && namedOk (placesL g.ds) t.ns) with
    | false => simp [okI, hb]
    | true => rw [nodesP, hdF, hb] at hn; cases hn
  refine CondOb.mk (fun h => absurd h (by simp)) (fun _ => ?_)
  have hb : (right t && namedOk (placesL g.ds) t.ns) = true := by
    cases hb : (right t && namedOk (placesL g.ds) t.ns) with
    | false => rw [nodesP, hdF, hb] at hn; cases hn
    | true => rfl
  have hr : r = nodesF (placesL g.ds) F t.ns [] := by
    rw [nodesP, hdF, hb] at hn
    exact (Option.some.inj hn).symm
  subst hr
  have hb' := hb
  rw [Bool.and_eq_true] at hb'
  have hca := called_of hb'.2
  rw [hgn, ← hln'] at hca
  have hxl := nodesF_len (placesL g.ds) F t.ns []
  simp only [List.length_nil, Nat.zero_add] at hxl
  have hxs : FsAt I2 (flRow b (nodesF (placesL g.ds) F t.ns []) :: flRow bf F :: M0) (some ⟨b, 0, none⟩) t.n (nodesF (placesL g.ds) F t.ns []) := by
    have := flRow_at (I := I2) (M := flRow b (nodesF (placesL g.ds) F t.ns []) :: flRow bf F :: M0) (b := b) (l := nodesF (placesL g.ds) F t.ns []) (.head _)
    rwa [hxl, htn] at this
  have hl2 : IsAt I2 (flRow b (nodesF (placesL g.ds) F t.ns []) :: flRow bf F :: M0) la ln l := ((hl.mono hI1).mono hI2).sub fun x hx => .tail _ (.tail _ hx)
  refine CallOb.whole _ (inodes_spec (lc := lc) (xc := t.n) (hg1.mono hI2) (ht1.mono hI2) hkb hb'.1 hl2 hca hxs) ?_
  rintro v I3 M3 - ⟨rfl, b3, rfl, rfl⟩
  exact ⟨I3, fiRow b3 (nodesI (placesL g.ds) l (nodesF (placesL g.ds) F t.ns []) t.ns []) :: M0, .sub (.cons_cons _ (.cons _ (.cons _ (.refl _)))) .refl, fun b o h => hI2 _ _ (hI1 _ _ h), .inr ⟨by rw [okI, hd1, hm, hb]; rfl, F, b3, hF, rfl, rfl⟩⟩

theorem ITree_spec {I : GH} {M0 : List Blk} {deb : List Int} (hT : Tabs I deb) {g : Gr} (hg : g.ok I) {t : Tr} (ht : t.ok I) (hkb : KB t) {la : Option Addr} {ln lc : Nat} {l : List Fi} (hl : IsAt I M0 la ln l) :
    Spec Tryz.prog 41 [g.val, .slice la ln lc, t.val] I M0 fun v I' M' => (∀ b o, I b = some o → I' b = some o) ∧ M' = M0 ∧
      ((okI deb g l t = false ∧ v = .tuple #[fi0.val, .bool false]) ∨ (okI deb g l t = true ∧ ∃ F, IsFlow g.ds F ∧ v = .tuple #[((nodesI (placesL g.ds) l (nodesF (placesL g.ds) F t.ns []) t.ns []).getD t.root.toNat fi0).val, .bool true])) := by
  refine spec_of_V [] TryzEOK Tryz.func41 rfl rfl rfl ?_
  intro B h0
  have htn := ht.n
  refine CallOb.whole _ (INodes_spec (lc := lc) hT hg ht hkb hl) ?_
  rintro v I1 M1 - ⟨hI1, ⟨hn, rfl, rfl⟩ | ⟨hn, F, b, hF, rfl, rfl⟩⟩
  · refine CondOb.mk (fun _ => ?_) (fun h => by simp at h)
    exact ⟨_, _, .refl, hI1, rfl, .inl ⟨hn, rfl⟩⟩
  have hr : right t = true := by
    simp only [okI, Bool.and_eq_true] at hn
    exact hn.2.2.1
  have hroot := right_root hr
  have hnl := nodesI_len (placesL g.ds) l (nodesF (placesL g.ds) F t.ns []) t.ns []
  simp only [List.length_nil, Nat.zero_add] at hnl
  refine CondOb.mk (fun h => by simp at h) (fun _ => ?_)
  have hrl' : t.root.toNat < (nodesI (placesL g.ds) l (nodesF (placesL g.ds) F t.ns []) t.ns []).length := by omega
  refine IdxOb.mk ⟨b, 0, none⟩ t.root.toNat rfl (by omega) (by omega) ?_
  refine LoadOb.mk _ (fiRow_rd (.head _) hrl') ?_
  refine ⟨_, M0, .sub (.cons _ (.refl _)) .refl, hI1, rfl, .inr ⟨hn, F, hF, ?_⟩⟩
  simp only [List.getD_eq_getElem?_getD, List.getElem?_eq_getElem hrl', Option.getD_some]
  rfl
end Go.V

/-
  Plain: what is told of trees and grammars hangs on what they hold, not on where it lies. No program in sight.
-/
set_option linter.unusedVariables false
set_option linter.unusedSimpArgs false
namespace Go.V
open Go

def Tr.ct (t : Tr) : Tr := ⟨t.ns.map Nd.ct, none, t.n, 0, t.root⟩
def Df.ct (d : Df) : Df := ⟨d.name, d.t.ct⟩
def Gr.ct (g : Gr) : Gr := ⟨g.ds.map Df.ct, none, g.n, 0⟩

theorem nodesOk_ct : ∀ (ds : List Nd) (i : Nat) (s : List Bool), nodesOk i (ds.map Nd.ct) s = nodesOk i ds s
  | [], i, s => rfl
  | d :: ds, i, s => by
    have h : ∀ s', nodesOk (i + 1) (ds.map Nd.ct) s' = nodesOk (i + 1) ds s' := fun s' => nodesOk_ct ds (i + 1) s'
    rw [List.map_cons, nodesOk, nodesOk]
    simp only [h]
    rfl
theorem right_ct (t : Tr) : right t.ct = right t := by
  unfold right Tr.ct
  simp only [nodesOk_ct, List.length_map]
/-! ### Subtrees -/
/-! ### Flows -/
/-! ### A tree, by what it holds -/
def trOf (l : List Nd) : Tr := ⟨l, none, l.length, 0, (l.length : Int) - 1⟩
/-- A tree in memory that holds these nodes. -/
structure TC (I : GH) (t : Tr) (l : List Nd) : Prop where
  ok : t.ok I
  ct : t.ns.map Nd.ct = l
  root : t.root = (l.length : Int) - 1
theorem TC.mono {I I' : GH} {t : Tr} {l : List Nd} (h : TC I t l) (hI : ∀ b o, I b = some o → I' b = some o) : TC I' t l := ⟨h.ok.mono hI, h.ct, h.root⟩
theorem TC.len {I : GH} {t : Tr} {l : List Nd} (h : TC I t l) : t.n = l.length := by
  rw [← h.ok.n, ← h.ct, List.length_map]
theorem TC.tr {I : GH} {t : Tr} {l : List Nd} (h : TC I t l) : t.ct = trOf l := by
  unfold Tr.ct trOf
  rw [h.ct, h.root, h.len]
theorem TC.right {I : GH} {t : Tr} {l : List Nd} (h : TC I t l) : right t = right (trOf l) := by rw [← h.tr, right_ct]
theorem TC.leaf {I : GH} {t : Tr} {d : Nd} (ht : t.ok I) (h1 : t.ns = [d]) (h2 : t.root = 0) (hd : d.ct = d) : TC I t [d] := ⟨ht, by rw [h1]; simp [hd], by rw [h2]; rfl⟩
def cleanL (l : List Nd) : List Nd := subC l ((l.length : Int) - 1)
end Go.V

/-
  Walks: tree.Set; bonsailaw10.of, grammar, leaf.
-/
set_option linter.unusedVariables false
set_option linter.unusedSimpArgs false
namespace Go.V
open Go Go.Proofs

/-! ### Kids' rows -/
def ofL (d : Nd) (ls : List (List Nd)) : List Nd := ofNds d (ls.map cleanL)
end Go.V

/-
  Walks: bonsailaw10.long.
-/
set_option linter.unusedVariables false
set_option linter.unusedSimpArgs false
namespace Go.V
open Go Go.Proofs

structure TrSmall (t : Tr) : Prop where
  n : t.n < 2500
  ns : ∀ nd ∈ t.ns, NdSmall nd
theorem TrW.ok {I : GH} {t : Tr} (h : TrW I t) (hs : TrSmall t) : t.ok I :=
  ⟨h.rs.big (by have := hs.n; omega), fun nd hnd => (h.ns nd hnd).ok (hs.ns nd hnd), h.root⟩
theorem TrW.mono {I I' : GH} {t : Tr} (h : TrW I t) (hI : ∀ b o, I b = some o → I' b = some o) : TrW I' t := ⟨h.rs.mono hI, fun nd hnd => (h.ns nd hnd).mono hI, h.root⟩

def bodies (g : Gr) (L0 : List Tr) (i : Nat) : List Tr := L0 ++ (g.ds.take i).map Df.t
structure L2 (L : List Tr) (n0 : Nat) (x : Nat × Nat) : Prop where
  i : x.2 ≤ L.length
  n : x.1 ≤ 6000
  ge : n0 ≤ x.1
  small : x.1 < 2500 → x.2 ≤ x.1 ∧ ∀ j (h : j < L.length), j < x.2 → TrSmall L[j]
end Go.V

/-
  Walks: bonsailaw11.large.
-/
set_option linter.unusedVariables false
set_option linter.unusedSimpArgs false
namespace Go.V
open Go Go.Proofs

structure Ns11 (d : Nd) : Prop where
  kn : d.kn < 400
  t : d.t.size < 8020
structure Ts11 (t : Tr) : Prop where
  n : t.n < 400
  ns : ∀ nd ∈ t.ns, Ns11 nd
structure Ds11 (d : Df) : Prop where
  name : d.name.size < 8020
  t : Ts11 d.t
structure Gs11 (g : Gr) : Prop where
  n : g.n < 400
  ds : ∀ d ∈ g.ds, Ds11 d
theorem NdW.ok11 {I : GH} {d : Nd} (h : NdW I d) (hs : Ns11 d) : d.ok I :=
  ⟨h.k, h.s0, h.s1, h.s2, h.s3, h.ts, h.lo, h.hi, h.rs.big (by have := hs.kn; omega), h.kids⟩
theorem TrW.ok11 {I : GH} {t : Tr} (h : TrW I t) (hs : Ts11 t) : t.ok I :=
  ⟨h.rs.big (by have := hs.n; omega), fun nd hnd => (h.ns nd hnd).ok11 (hs.ns nd hnd), h.root⟩
theorem GrW.ok11 {I : GH} {g : Gr} (h : GrW I g) (hs : Gs11 g) : g.ok I :=
  ⟨h.rs.big (by have := hs.n; omega), fun d hd => ⟨by have := (hs.ds d hd).name; omega, (h.ds d hd).t.ok11 (hs.ds d hd).t⟩⟩
theorem sv_int {a b : Int} (h : a = b) : SvLe (.val (.int .i64 a)) (.val (.int .i64 b)) := by
  subst h
  exact .refl
structure N1 (t : Tr) (x : Nat × Nat) : Prop where
  j : x.2 ≤ t.n
  n : x.1 ≤ 2000
  len : x.1 < 400 → t.n < 400
  small : x.1 < 400 → ∀ i (h : i < t.ns.length), i < x.2 → Ns11 t.ns[i]
structure N2 (g : Gr) (x : Nat × Nat) : Prop where
  k : x.2 ≤ g.n
  n : x.1 ≤ 2000
  small : x.1 < 400 → x.2 ≤ x.1 ∧ ∀ i (h : i < g.ds.length), i < x.2 → Ds11 g.ds[i]
structure N3 (g : Gr) (t : Tr) (k : Nat) (x : Nat × Nat) : Prop where
  j : x.2 ≤ t.n
  n : x.1 ≤ 2000
  small : x.1 < 400 → t.n < 400 ∧ k + 1 ≤ x.1 ∧ (∀ i (h : i < g.ds.length), i < k → Ds11 g.ds[i]) ∧ (∀ h : k < g.ds.length, g.ds[k].name.size < 8020) ∧ ∀ i (h : i < t.ns.length), i < x.2 → Ns11 t.ns[i]

set_option maxRecDepth 100000 in
set_option maxHeartbeats 4000000 in
theorem large11_spec {I : GH} {g : Gr} (hg : GrW I g) {t : Tr} (ht : TrW I t) :
    Spec Tryz.prog 33 [g.val, t.val] I [] fun v I' M' => (∃ r, v = .bool r ∧ (r = false → Gs11 g ∧ Ts11 t)) ∧ I' = I ∧ M' = [] := by
  refine spec_of_V [] TryzEOK Tryz.func33 rfl rfl rfl ?_
  intro B h0
  have hgn := hg.n
  have htn := ht.n
  have htc := ht.rs.len
  refine LoopOb.inv (ι := Nat × Nat) (fun x => { fl := [(2, .ref 2 0), (3, .ref 3 0), (5, .val (.int .i64 x.1)), (6, .val (.int .i64 x.2))], cl := [(2, [.slice g.a g.n g.c]), (3, t.cells)], gi := I }) (N1 t) (fun x => t.n - x.2) ?_ ?_
  · refine ⟨(min 400 t.n, 0), ⟨Nat.zero_le _, by simp only; omega, fun h => by simp only at h; omega, fun _ i _ h => by simp at h⟩, .refl, .cons .refl (.cons .refl (.cons ?_ (.cons .refl .nil))), .cons rfl (.cons rfl (.nil))⟩
    refine sv_int ?_
    omega
  rintro ⟨n, j⟩ ⟨hj, hn, hl, hsm⟩
  simp only at hj hn hl hsm
  refine GuardOb.mk (fun h => CondOb.mk (fun h2 => ?body) (fun h2 => ?e1)) (fun h => ?e2)
  case body =>
    have hlt : j < t.n := by simpa using h
    have hn2 : n < 400 := by have := of_decide_eq_true h2; omega
    have hlt' : j < t.ns.length := by omega
    obtain ⟨bd, hbd, hrb⟩ := ht.rs.row Nd.cells_len hlt hlt'
    have hnd := ht.ns _ (List.getElem_mem hlt')
    have hts := hnd.ts
    have r3 : ∀ M, Rd I M ((bd.add (j * 9)).add 8) 1 [.slice t.ns[j].ka t.ns[j].kn t.ns[j].kc] := fun M => (hrb M).part (k := 8) (m := 1) (by decide)
    have r4 : ∀ M, Rd I M ((bd.add (j * 9)).add 5) 1 [.string t.ns[j].t] := fun M => (hrb M).part (k := 5) (m := 1) (by decide)
    generalize hxx : t.ns[j] = nd at hnd hts r3 r4
    refine CodeOb.draw TryzEOK rfl rfl rfl ?_
    refine IdxOb.mk bd j hbd rfl hlt ?_
    refine LoadOb.mk _ (r3 _) ?_
    refine ArithOb.mk ((n + min 400 nd.kn : Nat) : Int) (wr_eq (by omega) (by omega)) ?_
    refine IdxOb.mk bd j hbd rfl hlt ?_
    refine LoadOb.mk _ (r4 _) ?_
    refine DivOb.mk (by decide) ?_
    refine ArithOb.mk ((nd.t.size / 20 : Nat) : Int) (wr_eq (by rw [Int.tdiv_eq_ediv_of_nonneg (by omega)]; omega) (by omega)) ?_
    refine ArithOb.mk ((n + min 400 nd.kn + min 400 (nd.t.size / 20) : Nat) : Int) (wr_eq (by omega) (by omega)) ?_
    refine ArithOb.mk _ (next_wr (i := j) (by omega)) ?_
    refine ⟨(_, j + 1), ⟨⟨by simp only; omega, by simp only; omega, fun h7 => by simp only at h7; exact hl (by omega), fun h7 i hi hi2 => ?_⟩, by simp only; omega⟩, .refl, .cons .refl (.cons .refl (.cons .refl (.cons .refl (.nil)))), .cons rfl (.cons rfl (.nil))⟩
    simp only at h7 hi2
    by_cases e : i = j
    · subst e
      rw [hxx]
      exact ⟨by omega, by omega⟩
    · exact hsm (by omega) i hi (by omega)
  case' e1 => have hx : n < 400 → j = t.n := fun hh => by have := of_decide_eq_false h2; omega
  case' e2 => have hx : n < 400 → j = t.n := fun hh => by have : ¬ (j : Int) < (t.n : Int) := of_decide_eq_false h; omega
  all_goals
    clear h
    have hT : n < 400 → Ts11 t := fun hh => ⟨hl hh, fun nd hnd => by
      obtain ⟨y, hy, rfl⟩ := List.getElem_of_mem hnd
      exact hsm hh y hy (by have := hx hh; omega)⟩
    refine LoopOb.inv (ι := Nat × Nat) (fun x => { fl := [(2, .ref 2 0), (5, .val (.int .i64 x.1)), (7, .val (.int .i64 x.2))], cl := [(2, [.slice g.a g.n g.c])], gi := I }) (fun x => N2 g x ∧ n ≤ x.1) (fun x => g.n - x.2) ?_ ?_
    · exact ⟨(n, 0), ⟨⟨Nat.zero_le _, hn, fun _ => ⟨Nat.zero_le _, fun i _ h => by simp at h⟩⟩, Nat.le_refl _⟩, .refl, .cons .refl (.cons .refl (.cons .refl (.nil))), .cons rfl (.nil)⟩
    rintro ⟨m, k⟩ ⟨⟨hk, hm, hsm2⟩, hge⟩
    simp only at hk hm hsm2 hge
    have fin : (m < 400 → k = g.n) → ∀ c, c = decide ((400 : Int) ≤ (m : Int)) → (c = false → Gs11 g ∧ Ts11 t) := fun h1 c hc hcf => by
      rw [hc] at hcf
      have hm4 : m < 400 := by have := of_decide_eq_false hcf; omega
      obtain ⟨s1, s2⟩ := hsm2 hm4
      have h3 := h1 hm4
      refine ⟨⟨by omega, fun d hd => ?_⟩, hT (by omega)⟩
      obtain ⟨y, hy, rfl⟩ := List.getElem_of_mem hd
      exact s2 y hy (by omega)
    refine GuardOb.mk (fun h3 => CondOb.mk (fun h4 => ?_) (fun h4 => ?_)) (fun h3 => ?_)
    · have hkl : k < g.n := by simpa using h3
      have hm2 : m < 400 := by have := of_decide_eq_true h4; omega
      obtain ⟨s1, s2⟩ := hsm2 hm2
      have hkl' : k < g.ds.length := by omega
      obtain ⟨ad, had, hrd⟩ := hg.rs.row Df.cells_len hkl hkl'
      have hd := hg.ds _ (List.getElem_mem hkl')
      have hnm := hd.name
      have hW := hd.t
      have hWn := hW.n
      have r1 : ∀ M, Rd I M ((ad.add (k * 3)).add 0) 1 [.string g.ds[k].name] := fun M => (hrd M).part (k := 0) (m := 1) (by decide)
      have r2 : ∀ M, Rd I M ((ad.add (k * 3)).add 1) 2 g.ds[k].t.cells := fun M => (hrd M).part (k := 1) (m := 2) (by decide)
      have hname : ∀ (q : Nat), q < 8020 → g.ds[k].name.size = q → ∀ h : k < g.ds.length, g.ds[k].name.size < 8020 := fun q hq e h => by rw [e]; exact hq
      generalize hdn : g.ds[k].name = nm at hnm r1 hname
      generalize htt : g.ds[k].t = u at hW hWn r2
      refine IdxOb.mk ad k had rfl hkl ?_
      refine LoadOb.mk _ (r2 _) ?_
      refine CodeOb.draw TryzEOK rfl rfl rfl ?_
      refine ArithOb.mk ((m + 1 : Nat) : Int) (wr_eq (by omega) (by omega)) ?_
      refine ArithOb.mk ((m + 1 + min 400 u.n : Nat) : Int) (wr_eq (by omega) (by omega)) ?_
      refine IdxOb.mk ad k had rfl hkl ?_
      refine LoadOb.mk _ (r1 _) ?_
      refine DivOb.mk (by decide) ?_
      refine ArithOb.mk ((nm.size / 20 : Nat) : Int) (wr_eq (by rw [Int.tdiv_eq_ediv_of_nonneg (by omega)]; omega) (by omega)) ?_
      refine ArithOb.mk ((m + 1 + min 400 u.n + min 400 (nm.size / 20) : Nat) : Int) (wr_eq (by omega) (by omega)) ?_
      refine LoopOb.inv (ι := Nat × Nat) (fun x => { fl := [(2, .ref 2 0), (5, .val (.int .i64 x.1)), (7, .val (.int .i64 k)), (8, .ref 8 0), (9, .val (.int .i64 x.2))], cl := [(2, [.slice g.a g.n g.c]), (8, u.cells)], gi := I }) (fun x => N3 g u k x ∧ n ≤ x.1) (fun x => u.n - x.2) ?_ ?_
      · exact ⟨(_, 0), ⟨⟨Nat.zero_le _, by simp only; omega, fun h => by simp only at h; exact ⟨by omega, by simp only; omega, s2, fun h => hname nm.size (by omega) rfl h, fun i _ h => by simp at h⟩⟩, by simp only; omega⟩, .refl, .cons .refl (.cons .refl (.cons .refl (.cons .refl (.cons .refl (.nil))))), .cons rfl (.cons rfl (.nil))⟩
      rintro ⟨p, q⟩ ⟨⟨hq, hp, hsm3⟩, hpe⟩
      simp only at hq hp hpe hsm3
      have out : (p < 400 → q = u.n) → N2 g (p, k + 1) := fun h1 => by
        refine ⟨by simp only; omega, hp, fun h2 => ?_⟩
        simp only at h2
        obtain ⟨u1, u2, u3, u4, u5⟩ := hsm3 h2
        have u6 := h1 h2
        refine ⟨u2, fun i hi hi2 => ?_⟩
        by_cases e : i = k
        · subst e
          refine ⟨u4 hi, ?_⟩
          rw [htt]
          exact ⟨u1, fun nd hnd => by
            obtain ⟨y, hy, rfl⟩ := List.getElem_of_mem hnd
            exact u5 y hy (by omega)⟩
        · exact u3 i hi (by simp only at hi2; omega)
      refine GuardOb.mk (fun h5 => CondOb.mk (fun h6 => ?_) (fun h6 => ?_)) (fun h5 => ?_)
      · have hql : q < u.n := by simpa using h5
        have hp2 : p < 400 := by have := of_decide_eq_true h6; omega
        obtain ⟨u1, u2, u3, u4, u5⟩ := hsm3 hp2
        have hql' : q < u.ns.length := by omega
        obtain ⟨bd, hbd, hrb⟩ := hW.rs.row Nd.cells_len hql hql'
        have hnd := hW.ns _ (List.getElem_mem hql')
        have hts := hnd.ts
        have r3 : ∀ M, Rd I M ((bd.add (q * 9)).add 8) 1 [.slice u.ns[q].ka u.ns[q].kn u.ns[q].kc] := fun M => (hrb M).part (k := 8) (m := 1) (by decide)
        have r4 : ∀ M, Rd I M ((bd.add (q * 9)).add 5) 1 [.string u.ns[q].t] := fun M => (hrb M).part (k := 5) (m := 1) (by decide)
        generalize hxx : u.ns[q] = nd at hnd hts r3 r4
        refine CodeOb.draw TryzEOK rfl rfl rfl ?_
        refine IdxOb.mk bd q hbd rfl hql ?_
        refine LoadOb.mk _ (r3 _) ?_
        refine ArithOb.mk ((p + min 400 nd.kn : Nat) : Int) (wr_eq (by omega) (by omega)) ?_
        refine IdxOb.mk bd q hbd rfl hql ?_
        refine LoadOb.mk _ (r4 _) ?_
        refine DivOb.mk (by decide) ?_
        refine ArithOb.mk ((nd.t.size / 20 : Nat) : Int) (wr_eq (by rw [Int.tdiv_eq_ediv_of_nonneg (by omega)]; omega) (by omega)) ?_
        refine ArithOb.mk ((p + min 400 nd.kn + min 400 (nd.t.size / 20) : Nat) : Int) (wr_eq (by omega) (by omega)) ?_
        refine ArithOb.mk _ (next_wr (i := q) (by omega)) ?_
        refine ⟨(_, q + 1), ⟨⟨⟨by simp only; omega, by simp only; omega, fun h7 => ?_⟩, by simp only; omega⟩, by simp only; omega⟩, .refl, .cons .refl (.cons .refl (.cons .refl (.cons .refl (.cons .refl (.nil))))), .cons rfl (.cons rfl (.nil))⟩
        simp only at h7 ⊢
        refine ⟨u1, by omega, u3, u4, fun i hi hi2 => ?_⟩
        by_cases e : i = q
        · subst e
          rw [hxx]
          exact ⟨by omega, by omega⟩
        · exact u5 i hi (by omega)
      · have hp2 : 400 ≤ p := by have := of_decide_eq_false h6; omega
        refine ArithOb.mk _ (next_wr (i := k) (by omega)) ?_
        exact ⟨(p, k + 1), ⟨⟨out fun h => by omega, hpe⟩, by simp only; omega⟩, .refl, .cons .refl (.cons .refl (.cons .refl (.nil))), .cons rfl (.nil)⟩
      · have hql : u.n ≤ q := by simpa using h5
        refine ArithOb.mk _ (next_wr (i := k) (by omega)) ?_
        exact ⟨(p, k + 1), ⟨⟨out fun h => by omega, hpe⟩, by simp only; omega⟩, .refl, .cons .refl (.cons .refl (.cons .refl (.nil))), .cons rfl (.nil)⟩
    · have hm2 : 400 ≤ m := by have := of_decide_eq_false h4; omega
      exact ⟨_, _, .refl, ⟨_, rfl, fin (fun h => by omega) _ rfl⟩, rfl, rfl⟩
    · have hge2 : g.n ≤ k := by simpa using h3
      exact ⟨_, _, .refl, ⟨_, rfl, fin (fun h => by omega) _ rfl⟩, rfl, rfl⟩
end Go.V

/-
  Plain: what is made greater as long as it is not closed is closed at last. No program in sight.
-/
set_option linter.unusedVariables false
set_option linter.unusedSimpArgs false
namespace Go.V
open Go

def upStep (body : List Fi → Nat → Fi) (l : List Fi) (i : Nat) : List Fi := bif (body l i).within (l.getD i fi0) then l else l.set i ((l.getD i fi0).choice (body l i))
def upGo (body : List Fi → Nat → Fi) : Nat → Nat → List Fi → List Fi
  | _, 0, l => l
  | i, k + 1, l => upGo body (i + 1) k (upStep body l i)
theorem upStep_len (body : List Fi → Nat → Fi) (l : List Fi) (i : Nat) : (upStep body l i).length = l.length := by
  unfold upStep
  cases (body l i).within (l.getD i fi0) <;> simp
theorem upStep_le (body : List Fi → Nat → Fi) {l : List Fi} {i : Nat} (hi : i < l.length) : LeR OI l (upStep body l i) ∧ (upStep body l i = l → (body l i).within (l.getD i fi0) = true) := by
  unfold upStep
  cases h : (body l i).within (l.getD i fi0) with
  | true => exact ⟨LeR.refl l, fun _ => rfl⟩
  | false =>
    refine ⟨.of (by simp) fun j hj => ?_, fun e => ?_⟩
    · rw [cond_false, set_getR _ _ _ _ _ hi]
      by_cases ej : i = j
      · subst ej
        rw [if_pos rfl]
        exact Fi.le_choice _ _
      · rw [if_neg ej]
        exact OI.refl _
    · rw [cond_false] at e
      have h1 := set_getR l fi0 i i ((l.getD i fi0).choice (body l i)) hi
      rw [e, if_pos rfl] at h1
      have h2 : (body l i).le (l.getD i fi0) := by
        rw [h1, Fi.choice_comm]
        exact Fi.le_choice _ _
      rw [Fi.within_iff.2 h2] at h
      cases h
theorem upGo_le (body : List Fi → Nat → Fi) : ∀ (k i : Nat) {l : List Fi}, i + k ≤ l.length → LeR OI l (upGo body i k l) ∧ (upGo body i k l = l → ∀ j, i ≤ j → j < i + k → (body l j).within (l.getD j fi0) = true)
  | 0, i, l, _ => ⟨LeR.refl l, fun _ j h h' => by omega⟩
  | k + 1, i, l, h => by
    obtain ⟨s1, s2⟩ := upStep_le body (l := l) (i := i) (by omega)
    obtain ⟨r1, r2⟩ := upGo_le body k (i + 1) (l := upStep body l i) (by rw [upStep_len]; omega)
    refine ⟨s1.trans r1, fun e j hj hj' => ?_⟩
    rw [upGo] at e
    have e1 : upStep body l i = l := by
      refine LeR.anti (O := OI) ?_ s1
      rw [e] at r1
      exact r1
    by_cases ej : j = i
    · subst ej
      exact s2 e1
    · rw [e1] at r2 e
      exact r2 e j (by omega) (by omega)
/-- A round that makes nothing greater: all is closed. -/
theorem upGo_closed {n : Nat} {body : List Fi → Nat → Fi} {l m : List Fi} (hl : IsR OI n body l) (hm : m.length = n) (h : upGo body 0 n m = m) : LeR OI l m :=
  hl.least m hm fun i hi => Fi.within_iff.1 ((upGo_le body n 0 (by omega)).2 h i (Nat.zero_le _) (by omega))
end Go.V

/-
  An item of an own row is written over.
-/
set_option linter.unusedVariables false
set_option linter.unusedSimpArgs false
namespace Go.V
open Go

/-! ### One cell, or one item, of an own row is written -/
theorem splice_mid' (pre mid post : List Value) (k : Nat) (vs : List Value) (h : k + vs.length ≤ mid.length) : splice (pre ++ (mid ++ post)) (pre.length + k) vs = pre ++ (splice mid k vs ++ post) := by
  unfold splice
  have h1 : (pre ++ (mid ++ post)).take (pre.length + k) = pre ++ mid.take k := by
    rw [List.take_append, Nat.add_sub_cancel_left, List.take_of_length_le (by omega), List.take_append_of_le_length (by omega)]
  have h2 : (pre ++ (mid ++ post)).drop (pre.length + k + vs.length) = mid.drop (k + vs.length) ++ post := by
    rw [Nat.add_assoc, List.drop_length_add_append, List.drop_append_of_le_length h]
  rw [h1, h2]
  simp
theorem flat_put {α : Type} (f : α → List Value) (size : Nat) (hf : ∀ x, (f x).length = size) (l : List α) (i : Nat) (hi : i < l.length) (k : Nat) (vs : List Value) (hk : k + vs.length ≤ size) (x' : α) (hx : splice (f l[i]) k vs = f x') :
    splice (l.flatMap f) (i * size + k) vs = (l.set i x').flatMap f := by
  have e : l = l.take i ++ l[i] :: l.drop (i + 1) := by rw [← List.drop_eq_getElem_cons hi, List.take_append_drop]
  have e1 : l.flatMap f = (l.take i).flatMap f ++ (f l[i] ++ (l.drop (i + 1)).flatMap f) := by
    calc l.flatMap f = (l.take i ++ l[i] :: l.drop (i + 1)).flatMap f := congrArg _ e
      _ = _ := by rw [List.flatMap_append, List.flatMap_cons]
  have e2 : ((l.take i).flatMap f).length = i * size := by rw [flat_len f size hf, List.length_take_of_le (by omega)]
  rw [e1, ← e2, splice_mid' _ _ _ _ _ (by rw [hf]; exact hk), List.set_eq_take_append_cons_drop, if_pos hi, List.flatMap_append, List.flatMap_cons, hx]
theorem take_splice' {cur : List Value} {j m : Nat} {vs : List Value} (h : j + vs.length ≤ m) (hm : m ≤ cur.length) : (splice cur j vs).take m = splice (cur.take m) j vs := by
  unfold splice
  have h1 : (cur.take m).take j = cur.take j := by rw [List.take_take, Nat.min_eq_left (by omega)]
  have h2 : (cur.take m).drop (j + vs.length) = (cur.drop (j + vs.length)).take (m - (j + vs.length)) := by rw [List.drop_take]
  have h3 : (cur.take j).length = j := by rw [List.length_take]; omega
  rw [h1, h2, List.append_assoc, List.append_assoc, List.take_append, h3, List.take_of_length_le (by omega), List.take_append, List.take_of_length_le (by omega : vs.length ≤ m - j)]
  congr 3
  omega
theorem OS.put {α : Type} (f : α → List Value) (size : Nat) (hf : ∀ x, (f x).length = size) {M : List Blk} {os : OS} {l : List α} {e : Nat} (h : os.ok size (l.flatMap f)) {i : Nat} (hi : i < l.length) (k : Nat) {vs : List Value} (hk : k + vs.length ≤ size) (h1 : allOne vs = true) (x' : α) (hx : splice (f l[i]) k vs = f x')
    (pre post : List Blk) (hM : M = pre ++ (os.blk e ++ post)) {g off : Nat} (hg : os.a = some g) (hoff : off = i * size + k) {K : List Blk → Prop}
    (kk : ∀ (os' : OS), os'.val = os.val → os'.a = os.a → os'.n = os.n → os'.ok size ((l.set i x').flatMap f) → K (pre ++ (os'.blk e ++ post))) : StoreOb M ⟨g, off, none⟩ vs K := by
  have hl0 := h.len
  rw [flat_len f size hf] at hl0
  obtain ⟨a, n, c, cur⟩ := os
  have hl : l.length * size = n * size := hl0
  simp only at hg
  subst hg
  obtain ⟨q1, q2, q3, q4⟩ := h.cap g rfl
  simp only at q1 q2 q3 q4
  have hb : n * size ≤ c * size := Nat.mul_le_mul_right _ q2
  have hi2 : i * size + size ≤ l.length * size := by
    have := Nat.mul_le_mul_right size (show i + 1 ≤ l.length from hi)
    rwa [Nat.add_mul, Nat.one_mul] at this
  subst hM
  subst hoff
  refine StoreOb.mk pre post cur.toArray e rfl rfl ?_ h1 ?_
  · simp only [List.size_toArray]
    omega
  · have := kk ⟨some g, n, c, splice cur (i * size + k) vs⟩ rfl rfl rfl ⟨?_, (fun h => by cases h), fun g' hg => ?_⟩
    · simpa [OS.blk] using this
    · rw [flat_len f size hf, List.length_set]
      exact hl
    · cases hg
      refine ⟨?_, q2, q3, ?_⟩
      · simp only [splice, List.length_append, List.length_take, List.length_drop]
        omega
      · simp only
        rw [take_splice' (by omega) (by omega), q4, flat_put f size hf l i hi k vs hk x' hx]

/-- An item of an own row, by its number. -/
theorem OS.putI {α : Type} (f : α → List Value) (size : Nat) (hf : ∀ x, (f x).length = size) {M : List Blk} {os : OS} {l : List α} {e : Nat} (h : os.ok size (l.flatMap f)) {i : Nat} (hi : i < l.length) (x' : α) (h1 : allOne (f x') = true)
    (pre post : List Blk) (hM : M = pre ++ (os.blk e ++ post)) {ad : Addr} (had : (os.a.map fun g => (⟨g, 0, none⟩ : Addr)) = some ad) {K : List Blk → Prop}
    (kk : ∀ (os' : OS), os'.val = os.val → os'.a = os.a → os'.n = os.n → os'.ok size ((l.set i x').flatMap f) → K (pre ++ (os'.blk e ++ post))) : StoreOb M (ad.add (i * size)) (f x') K := by
  obtain ⟨g, hg, rfl⟩ : ∃ g, os.a = some g ∧ ad = ⟨g, 0, none⟩ := by
    cases ha : os.a with
    | none => rw [ha] at had; cases had
    | some g => rw [ha] at had; cases had; exact ⟨g, rfl, rfl⟩
  rw [addr_add (⟨g, 0, none⟩ : Addr) rfl]
  refine OS.put f size hf h hi 0 (vs := f x') (by rw [hf]; omega) h1 x' ?_ pre post hM hg (by simp) kk
  unfold splice
  simp [hf]
end Go.V

/-
  Rows of firsts: handed in, as one row; own ones, written over.
-/
set_option linter.unusedVariables false
set_option linter.unusedSimpArgs false
namespace Go.V
open Go Go.Proofs

theorem IsW.mono {I I' : GH} {x : IA} (h : IsW I x) (hI : ∀ b o, I b = some o → I' b = some o) : IsW I' x := ⟨h.at'.mono hI, h.n⟩
/-- Firsts handed in, as one row. -/
theorem IsW.whole {I : GH} {x : IA} (h : IsW I x) (h0 : 0 < x.n) (M : List Blk) : ∃ ad, x.a = some ad ∧ Rd I M ad (x.n * 5) (x.l.flatMap Fi.cells) := by
  have hn := h.at'.n
  obtain ⟨ad, ha, hs0, cs, T, fr, hk0, hv0, -⟩ := h.at'.rd 0 (by omega)
  have hsp : ad.spot = none := by
    cases hsp : ad.spot with
    | none => rfl
    | some s => simp [Addr.add, hsp] at hs0
  rw [addr_add _ hsp] at hk0
  have kn : ∀ {b o}, Kn I [] b o → I b = some o := fun {b o} hk => by
    rcases hk with hk | ⟨y, hy, _⟩
    · exact hk
    · cases hy
  have hI := kn hk0
  simp only at hI
  refine ⟨ad, ha, hsp, cs, T, fr, .inl hI, ?_, by rw [fi_len, hn]⟩
  have each : ∀ j (hj : j < x.l.length), (cs.toList.drop (ad.off + j * 5)).take 5 = (x.l[j]).cells := fun j hj => by
    obtain ⟨ad', ha', _, cs', T', fr', hk', hv', -⟩ := h.at'.rd j hj
    rw [ha] at ha'
    cases ha'
    rw [addr_add _ hsp] at hk' hv'
    have := (kn hk').symm.trans hI
    simp only [Option.some.injEq, Obj.cells.injEq] at this
    rw [this.1] at hv'
    exact hv'
  rw [← hn]
  clear hv0 hk0
  have key : ∀ m, m ≤ x.l.length → (cs.toList.drop ad.off).take (m * 5) = (x.l.take m).flatMap Fi.cells := by
    intro m
    induction m with
    | zero => intro _; simp
    | succ m ih =>
      intro hm
      rw [Nat.add_mul, Nat.one_mul, List.take_add, ih (by omega), List.drop_drop, each m (by omega), List.take_succ_eq_append_getElem (by omega), flatI_snoc]
  have := key x.l.length (Nat.le_refl _)
  rwa [List.take_length] at this
theorem fi_one (l : List Fi) : allOne (l.flatMap Fi.cells) = true := by
  refine List.all_eq_true.2 fun v hv => ?_
  obtain ⟨f, _, hf⟩ := List.mem_flatMap.1 hv
  simp only [Fi.cells, List.mem_cons, List.not_mem_nil, or_false] at hf
  rcases hf with rfl | rfl | rfl | rfl | rfl <;> rfl
end Go.V

/-
  The law of a grammar's firsts: closed, and the least that are.
-/
set_option linter.unusedVariables false
set_option linter.unusedSimpArgs false
namespace Go.V
open Go Go.Proofs

def tr0 : Tr := ⟨[], none, 0, 0, 0⟩
theorem tr0_w {I : GH} : TrW I tr0 := ⟨⟨rfl, ⟨Nat.le_refl _, Nat.zero_le _⟩, .inl rfl⟩, fun d hd => (by cases hd), ⟨by decide, by decide⟩⟩

/-- The first of a rule's body, if there are as many firsts as rules. -/
def bodyU (pl : List (ByteArray × Int)) (F : List Fl) (ds : List Df) (n : Nat) (u : List Fi) (i : Nat) : Fi := bif decide (u.length = n) then bodyI pl F ds u i else fi0
theorem IBody_spec {I : GH} {M0 : List Blk} {deb : List Int} (hT : Tabs I deb) {g : Gr} (hg : g.ok I) (hm : mayG deb g = 0) {F : List Fl} (hF : IsFlow g.ds F) (hkb : ∀ d ∈ g.ds, KB d.t) {i : Nat} (hi : i < g.ds.length) {la : Option Addr} {ln lc : Nat} {u : List Fi} (hl : IsAt I M0 la ln u) :
    Spec Tryz.prog 41 [g.val, .slice la ln lc, g.ds[i].t.val] I M0 fun v I' M' => (∀ b o, I b = some o → I' b = some o) ∧ M' = M0 ∧ v = .tuple #[(bodyU (placesL g.ds) F g.ds g.n u i).val, .bool (decide (u.length = g.n))] := by
  have hdm := List.getElem_mem hi
  have hM := mayF_of hg.n hm
  refine Spec.weakK (ITree_spec (lc := lc) hT hg (hg.ds _ hdm).t (hkb _ hdm) hl) ?_
  rintro v J M ⟨h1, h2, h3⟩
  refine ⟨h1, h2, ?_⟩
  have hok : okI deb g u g.ds[i].t = decide (u.length = g.n) := by
    rw [okI, hm, hM.right _ hdm, hM.named _ hdm]
    simp
  rcases h3 with ⟨hn, rfl⟩ | ⟨hn, F', hF', rfl⟩
  · rw [hok] at hn
    rw [bodyU, hn]
    rfl
  · rw [hok] at hn
    obtain rfl := hF.unique hF'
    rw [bodyU, hn, cond_true, bodyI, List.getElem?_eq_getElem hi]
theorem IWithin_b {J : GH} {M : List Blk} {a b : Fi} {p : Bool} (h : a.within b = p) : Spec Tryz.prog 55 [a.val, b.val] J M fun r I' M' => r = .bool p ∧ I' = J ∧ M' = M := by
  have := IWithin_spec (I := J) (M := M) a b
  rwa [h] at this

set_option maxHeartbeats 16000000 in
theorem firstClosed_V {I : GH} (hT : Tabs I debL) {g : Gr} (hgw : GrW I g) {x : IA} (hxw : IsW I x) : SpecE Tryz.prog 11 [g.val, x.val] I [] fun v I' M' => v = .bool true := by
  refine specE_of_V [] TryzEOK Tryz.func11 rfl rfl rfl ?_
  intro B h0
  refine CallOb.mk [] [] _ (.refl _) (large11_spec hgw (t := tr0) tr0_w) ?_
  rintro v J N - ⟨⟨r, rfl, hr⟩, rfl, rfl⟩
  cases r with
  | true =>
    refine GuardOb.mk (fun h => absurd h (by simp)) (fun _ => ?_)
    refine CallOb.mk [] [] _ (.refl _) (awake11_spec hT) ?_
    rintro v J1 N - ⟨rfl, hJ1, rfl⟩
    exact ⟨_, _, .refl, rfl⟩
  | false =>
  refine GuardOb.mk (fun _ => ?_) (fun h => absurd h (by simp))
  refine GuardOb.mk (fun hx100 => ?_) (fun hx100 => ?_)
  rotate_left
  · refine CallOb.mk [] [] _ (.refl _) (awake11_spec hT) ?_
    rintro v J1 N - ⟨rfl, hJ1, rfl⟩
    exact ⟨_, _, .refl, rfl⟩
  refine CallOb.mk [] [] _ (.refl _) (awake11_spec hT) ?_
  rintro v J1 N - ⟨rfl, hJ1, rfl⟩
  refine CondOb.mk (fun h => by cases h) (fun _ => ?_)
  have hx1 : x.n ≤ 100 := by have := of_decide_eq_false hx100; omega
  obtain ⟨hgs, -⟩ := hr rfl
  have hT := hT.mono hJ1
  have hg := (hgw.mono hJ1).ok11 hgs
  have hx := hxw.mono hJ1
  have hgn := hg.n
  have hg400 := hgs.n
  clear hgw hxw
  have hkg : ∀ d ∈ g.ds, KB d.t := fun d hd n hn => by have := ((hgs.ds d hd).t.ns n hn).kn; omega
  refine CallOb.mk [] [] _ (.refl _) (IOf_spec hT hg hkg) ?_
  rintro v J2 N - ⟨hJ2, ⟨hm, rfl, rfl⟩ | ⟨hm, F, b, l, hF, hl, rfl, rfl⟩⟩
  · refine CondOb.mk (fun _ => ?_) (fun h => absurd h (by simp [hm]))
    refine CallOb.mk [] [] _ (.refl _) (May_spec (hT.mono hJ2) (hg.mono hJ2)) ?_
    rintro v J3 N - ⟨rfl, hJ3, rfl⟩
    refine GuardOb.mk (fun _ => ?_) (fun h => absurd h (by simp))
    exact ⟨_, _, .refl, rfl⟩
  refine CondOb.mk (fun h => absurd h (by simp)) (fun _ => ?_)
  refine CondOb.mk (fun h => absurd h (by simp)) (fun _ => ?_)
  have hln := hl.len
  have hMay := mayF_of hgn hm
  have hcap := hg.rs.cap
  -- each is that of the rule's body; is 'more' closed?
  refine LoopOb.inv (ι := Nat × Bool × GH) (fun s => { fl := [(1, .val x.val), (2, .ref 2 0), (5, .val (.slice (some ⟨b, 0, none⟩) g.n g.n)), (7, .val (.bool s.2.1)), (8, .val (.int .i64 s.1))], cl := [(2, [.slice g.a g.n g.c])], gi := s.2.2, mi := [fiRow b l] })
    (fun s => s.1 ≤ g.n ∧ (∀ b o, J2 b = some o → s.2.2 b = some o) ∧ (s.2.1 = true → x.l.length = g.n ∧ ∀ i, i < s.1 → (bodyI (placesL g.ds) F g.ds x.l i).le (x.l.getD i fi0))) (fun s => g.n - s.1) ?_ ?_
  · refine ⟨(0, decide ((x.n : Int) = (g.n : Int)), J2), ⟨Nat.zero_le _, fun _ _ h => h, fun h => ⟨?_, fun i h => by simp at h⟩⟩, .refl, .cons .refl (.cons .refl (.cons .refl (.cons .refl (.cons .refl (.nil))))), .cons rfl (.nil)⟩
    have := of_decide_eq_true h
    have := hx.at'.n
    omega
  rintro ⟨i, c, J⟩ ⟨hi, hJ, hc⟩
  simp only at hi hJ hc
  refine CondOb.mk (fun h => ?_) (fun h => ?_)
  · have hlt : i < g.n := by have : (i : Int) < (g.n : Int) := of_decide_eq_true h; omega
    have hlt' : i < g.ds.length := by omega
    have hil : i < l.length := by omega
    have hTJ := (hT.mono hJ2).mono hJ
    have hgJ := (hg.mono hJ2).mono hJ
    have hxJ := (hx.mono hJ2).mono hJ
    obtain ⟨ad, had, hrd⟩ := (hg.mono hJ2).rs.row Df.cells_len hlt hlt'
    have r2 : ∀ (K : GH) (M : List Blk), (∀ b o, J2 b = some o → K b = some o) → Rd K M ((ad.add (i * 3)).add 1) 2 g.ds[i].t.cells := fun K M hK => ((hrd M).part (k := 1) (m := 2) (by decide)).mono hK
    have hfix : l.getD i fi0 = bodyI (placesL g.ds) F g.ds l i := hl.fix i hlt'
    have hgl : l.getD i fi0 = l[i] := by simp [List.getD_eq_getElem?_getD, hil]
    have s1 : ∀ {K : GH} {M : List Blk}, (∀ b o, J b = some o → K b = some o) → fiRow b l ∈ M → Spec Tryz.prog 41 [g.val, .slice (some ⟨b, 0, none⟩) g.n g.n, g.ds[i].t.val] K M fun v I' M' => (∀ b o, K b = some o → I' b = some o) ∧ M' = M ∧ v = .tuple #[l[i].val, .bool true] := fun {K M} hK hM => by
      have hat := fiRow_at (I := K) hM
      rw [show l.length = g.n by omega] at hat
      have := IBody_spec (lc := g.n) (hTJ.mono hK) (hgJ.mono hK) hm hF hkg hlt' hat
      rw [bodyU, decide_eq_true (show l.length = g.n by omega), cond_true, ← hfix, hgl] at this
      exact this
    refine CodeOb.drawC TryzEOK rfl rfl rfl (ι := Nat × GH) (fun s => { fl := [(1, .val x.val), (2, .ref 2 0), (5, .val (.slice (some ⟨b, 0, none⟩) g.n g.n)), (7, .val (.bool c)), (8, .val (.int .i64 i)), (9, .val (ptr s.1)), (10, .val (.bool true))], cl := [(2, [.slice g.a g.n g.c])], gi := s.2, mi := ⟨s.1, .cells l[i].cells.toArray 67 (0, 0)⟩ :: [fiRow b l] }) (fun s => ∀ b o, J b = some o → s.2 b = some o) ?_ ?_
    · refine IdxOb.mk ad i had rfl hlt ?_
      refine LoadOb.mk _ (r2 _ _ hJ) ?_
      refine ⟨?_, ?_⟩
      · refine CallOb.whole _ (s1 (fun _ _ h => h) (by simp)) ?_
        rintro v J3 M3 - ⟨hJ3, rfl, rfl⟩
        refine AllocOb.mk fun s hs hsM => ?_
        refine StoreOb.to [] _ _ _ rfl rfl rfl rfl l[i].cells rfl ?_
        exact ⟨(s, J3), hJ3, .refl, .cons .refl (.cons .refl (.cons .refl (.cons .refl (.cons .refl (.cons .refl (.cons .refl (.nil))))))), .cons rfl (.nil)⟩
      · refine AllocOb.mk fun s hs hsM => ?_
        refine PCallOb.whole _ (s1 (fun _ _ h => h) (by simp)) (fun v I' M' h x hx => by rw [h.2.1]; exact hx) ?_
        rintro v J3 M3 - ⟨hJ3, rfl, rfl⟩
        refine StoreOb.to [] _ _ _ rfl rfl rfl rfl l[i].cells rfl ?_
        exact ⟨(s, J3), hJ3, .refl, .cons .refl (.cons .refl (.cons .refl (.cons .refl (.cons .refl (.cons .refl (.cons .refl (.nil))))))), .cons rfl (.nil)⟩
    rintro ⟨s9, J3⟩ hJ3
    simp only at hJ3
    refine CodeOb.draw TryzEOK rfl rfl rfl ?_
    refine GuardOb.mk (fun _ => ?_) (fun h => absurd h (by simp))
    refine LoadOb.mk l[i].cells (blkI_rd0 (by simp)) ?_
    refine IdxOb.mk ⟨b, 0, none⟩ i rfl rfl hlt ?_
    refine LoadOb.mk _ (fiRow_rd (by simp) hil) ?_
    refine BinOb.neI (p := l[i]) (q := l[i]) ?_
    refine CondOb.mk (fun h => absurd h (by simp)) (fun _ => ?_)
    have hY : ∀ {K : GH} {M : List Blk}, (∀ b o, J3 b = some o → K b = some o) → Spec Tryz.prog 41 [g.val, .slice x.a x.n x.c, g.ds[i].t.val] K M fun v I' M' => (∀ b o, K b = some o → I' b = some o) ∧ M' = M ∧ v = .tuple #[(bodyU (placesL g.ds) F g.ds g.n x.l i).val, .bool (decide (x.l.length = g.n))] := fun {K M} hK =>
      IBody_spec ((hTJ.mono hJ3).mono hK) ((hgJ.mono hJ3).mono hK) hm hF hkg hlt' ((((hxJ.mono hJ3).mono hK).at').sub fun _ h => by cases h)
    obtain ⟨y, hy⟩ : ∃ y, bodyU (placesL g.ds) F g.ds g.n x.l i = y := ⟨_, rfl⟩
    obtain ⟨ok, hok⟩ : ∃ ok, decide (x.l.length = g.n) = ok := ⟨_, rfl⟩
    rw [hy, hok] at hY
    have hJ23 : ∀ b o, J2 b = some o → J3 b = some o := fun b o h => hJ3 _ _ (hJ _ _ h)
    refine CodeOb.drawC TryzEOK rfl rfl rfl (ι := Nat × GH) (fun s => { fl := [(1, .val x.val), (2, .ref 2 0), (5, .val (.slice (some ⟨b, 0, none⟩) g.n g.n)), (7, .val (.bool c)), (8, .val (.int .i64 i)), (11, .val (ptr s.1)), (12, .val (.bool ok))], cl := [(2, [.slice g.a g.n g.c])], gi := s.2, mi := ⟨s.1, .cells y.cells.toArray 67 (0, 0)⟩ :: [fiRow b l] }) (fun s => ∀ b o, J3 b = some o → s.2 b = some o) ?_ ?_
    · refine IdxOb.mk ad i had rfl hlt ?_
      refine LoadOb.mk _ (r2 _ _ hJ23) ?_
      refine ⟨?_, ?_⟩
      · refine CallOb.whole _ (hY fun _ _ h => h) ?_
        rintro v J4 M4 - ⟨hJ4, rfl, rfl⟩
        refine AllocOb.mk fun s hs hsM => ?_
        refine StoreOb.to [] _ _ _ rfl rfl rfl rfl y.cells rfl ?_
        exact ⟨(s, J4), hJ4, .sub (.cons_cons _ (.cons _ (.refl _))) .refl, .cons .refl (.cons .refl (.cons .refl (.cons .refl (.cons .refl (.cons .refl (.cons .refl (.nil))))))), .cons rfl (.nil)⟩
      · refine AllocOb.mk fun s hs hsM => ?_
        refine PCallOb.whole _ (hY fun _ _ h => h) (fun v I' M' h x hx => by rw [h.2.1]; exact hx) ?_
        rintro v J4 M4 - ⟨hJ4, rfl, rfl⟩
        refine StoreOb.to [] _ _ _ rfl rfl rfl rfl y.cells rfl ?_
        exact ⟨(s, J4), hJ4, .sub (.cons_cons _ (.cons _ (.refl _))) .refl, .cons .refl (.cons .refl (.cons .refl (.cons .refl (.cons .refl (.cons .refl (.cons .refl (.nil))))))), .cons rfl (.nil)⟩
    rintro ⟨s11, J4⟩ hJ4
    simp only at hJ4
    have hJ24 : ∀ b o, J2 b = some o → J4 b = some o := fun b o h => hJ4 _ _ (hJ23 _ _ h)
    refine CodeOb.draw TryzEOK rfl rfl rfl ?_
    cases c with
    | false =>
      refine GuardOb.mk (fun h => absurd h (by simp)) (fun _ => ?_)
      refine ArithOb.mk _ (next_wr (i := i) (by omega)) ?_
      exact ⟨(i + 1, false, J4), ⟨⟨hlt, hJ24, fun h => by cases h⟩, by simp only; omega⟩, .sub (.cons _ (.refl _)) .refl, .cons .refl (.cons .refl (.cons .refl (.cons .lit (.cons .refl .nil)))), .cons rfl (.nil)⟩
    | true =>
      obtain ⟨hxl, hcl⟩ := hc rfl
      have hix : i < x.l.length := by omega
      have hixn : i < x.n := by have := hx.at'.n; omega
      obtain rfl : true = ok := by rw [← hok, hxl]; simp
      have hyb : y = bodyI (placesL g.ds) F g.ds x.l i := by rw [← hy, bodyU, hxl]; simp
      obtain ⟨ax, hax, hrx⟩ := ((hxJ.mono hJ3).mono hJ4).at'.rd i hix
      obtain ⟨w, hw⟩ : ∃ w, y.within x.l[i] = w := ⟨_, rfl⟩
      refine GuardOb.mk (fun _ => ?_) (fun h => absurd h (by simp))
      refine GuardOb.mk (fun _ => ?_) (fun h => absurd h (by simp))
      refine LoadOb.mk y.cells (blkI_rd0 (by simp)) ?_
      refine IdxOb.mk ax i hax rfl hixn ?_
      refine LoadOb.mk _ (hrx.sub fun _ h => by cases h) ?_
      refine CallOb.whole _ (IWithin_b hw) ?_
      rintro v J5 M5 - ⟨rfl, rfl, rfl⟩
      refine ArithOb.mk _ (next_wr (i := i) (by omega)) ?_
      refine ⟨(i + 1, w, J5), ⟨⟨hlt, hJ24, fun hwt => ⟨hxl, fun j hj => ?_⟩⟩, by simp only; omega⟩, .sub (.cons _ (.refl _)) .refl, .cons .refl (.cons .refl (.cons .refl (.cons .refl (.cons .refl (.nil))))), .cons rfl (.nil)⟩
      simp only at hwt hj
      by_cases e : j = i
      · subst e
        rw [hwt, hyb] at hw
        have := Fi.within_iff.1 hw
        simpa [List.getD_eq_getElem?_getD, hix] using this
      · exact hcl j (by omega)
  -- what is made greater
  have hcle : c = true → x.l.length = g.n ∧ LeR OI l x.l := fun hct => by
    have hge : i = g.n := by have : ¬ (i : Int) < (g.n : Int) := of_decide_eq_false h; omega
    obtain ⟨h1, h2⟩ := hc hct
    exact ⟨h1, hl.least x.l (by omega) fun j hj => h2 j (by omega)⟩
  clear hc
  have hTJ := (hT.mono hJ2).mono hJ
  have hgJ := (hg.mono hJ2).mono hJ
  have hxJ := (hx.mono hJ2).mono hJ
  have hxn := hx.at'.n
  refine AllocOb.mk fun b13 hb13 hbM13 => ?_
  refine OtherOb.appL TryzEOK rfl (by simp) (e := 67) rfl rfl rfl ⟨some b13, 0, 0, []⟩ (xs := []) ⟨rfl, (fun h => by cases h), fun g' _ => ⟨rfl, Nat.le_refl _, Nat.zero_le _, rfl⟩⟩ rfl (m := x.n) (news := x.l.flatMap Fi.cells) rfl (by rw [fi_len, hxn]) (fun h0 => hxJ.whole h0 _) (fi_one _) [] [fiRow b l] rfl (by simp only; omega) (by show (0 + x.n) * 40 ≤ _; omega) ?_
  rintro os0 hn0 - hos0
  rw [List.nil_append] at hos0
  have hon : ∀ {os : OS} {u : List Fi}, os.ok 5 (u.flatMap Fi.cells) → os.n = u.length := fun {os u} h => by have := h.len; rw [fi_len] at this; omega
  refine LoopOb.inv (ι := Nat × List Fi × OS × GH) (fun s => { fl := [(1, .val x.val), (2, .ref 2 0), (5, .val (.slice (some ⟨b, 0, none⟩) g.n g.n)), (7, .val (.bool c)), (13, .val s.2.2.1.val), (14, .val (.int .i64 s.1))], cl := [(2, [.slice g.a g.n g.c])], gi := s.2.2.2, mi := s.2.2.1.blk 67 ++ [fiRow b l] })
    (fun s => s.2.1.length = x.l.length ∧ s.2.2.1.ok 5 (s.2.1.flatMap Fi.cells) ∧ (∀ b o, J b = some o → s.2.2.2 b = some o) ∧ (x.l.length = g.n → offsI s.2.1 + s.1 ≤ 257 * g.n) ∧ s.1 ≤ 260 * g.n) (fun s => 260 * g.n - s.1) ?_ ?_
  · refine ⟨(0, x.l, os0, J), ⟨rfl, hos0, fun _ _ h => h, fun h => ?_, Nat.zero_le _⟩, .eqM (by simp), .cons .refl (.cons .refl (.cons .refl (.cons .refl (.cons .refl (.cons .refl (.nil)))))), .cons rfl (.nil)⟩
    have := offsI_max x.l
    rw [h] at this
    exact this
  rintro ⟨rd, u, os, K⟩ ⟨hul, hos, hK, hoff, hrd⟩
  simp only at hul hos hK hoff hrd
  have hosn := hon hos
  refine ArithOb.mk ((260 * g.n : Nat) : Int) (wr_eq (by simp) (by omega)) ?_
  refine GuardOb.mk (fun h1 => CondOb.mk (fun h2 => ?body) (fun h2 => ?e1)) (fun h1 => ?e2)
  case' e1 =>
    have hfin : u.length = g.n → LeR OI l u := fun e => by
      exfalso
      have : ¬ (os.n : Int) = (g.n : Int) := of_decide_eq_false h2
      omega
  case' e2 =>
    have hfin : u.length = g.n → LeR OI l u := fun e => by
      have h3 : ¬ (rd : Int) < ((260 * g.n : Nat) : Int) := of_decide_eq_false h1
      have h4 := hoff (by omega)
      have h5 : g.n = 0 := by omega
      refine .of (by omega) fun i hi => ?_
      omega
  case' body =>
    have hun : u.length = g.n := by
      have : (os.n : Int) = (g.n : Int) := of_decide_eq_true h2
      omega
    have hrl : rd < 260 * g.n := by
      have : (rd : Int) < ((260 * g.n : Nat) : Int) := of_decide_eq_true h1
      omega
    have hoff' := hoff (by omega)
    have hxg : x.l.length = g.n := by omega
    refine LoopOb.inv (ι := Nat × List Fi × OS × Bool × GH) (fun s => { fl := [(1, .val x.val), (2, .ref 2 0), (5, .val (.slice (some ⟨b, 0, none⟩) g.n g.n)), (7, .val (.bool c)), (13, .val s.2.2.1.val), (14, .val (.int .i64 rd)), (15, .val (.bool s.2.2.2.1)), (16, .val (.int .i64 s.1))], cl := [(2, [.slice g.a g.n g.c])], gi := s.2.2.2.2, mi := s.2.2.1.blk 67 ++ [fiRow b l] })
      (fun s => s.1 ≤ g.n ∧ s.2.1.length = g.n ∧ s.2.2.1.ok 5 (s.2.1.flatMap Fi.cells) ∧ (∀ b o, J b = some o → s.2.2.2.2 b = some o) ∧ upGo (bodyI (placesL g.ds) F g.ds) 0 g.n u = upGo (bodyI (placesL g.ds) F g.ds) s.1 (g.n - s.1) s.2.1 ∧ (s.2.2.2.1 = false → s.2.1 = u) ∧ (s.2.2.2.1 = true → LeR OI u s.2.1 ∧ s.2.1 ≠ u)) (fun s => g.n - s.1) ?_ ?_
    · exact ⟨(0, u, os, false, K), ⟨Nat.zero_le _, hun, hos, hK, rfl, fun _ => rfl, fun h => by cases h⟩, .refl, .cons .refl (.cons .refl (.cons .refl (.cons .refl (.cons .refl (.cons .refl (.cons .lit (.cons .refl .nil))))))), .cons rfl (.nil)⟩
    clear hul hos hK hoff hosn h1 h2 hun
    rintro ⟨q, v, os, gr, K⟩ ⟨hq, hvn, hos, hK, hgo, hg0, hg1⟩
    simp only at hq hvn hos hK hgo hg0 hg1
    have hosn := hon hos
    refine CondOb.mk (fun h1 => ?rnd) (fun h1 => ?out)
    case' out =>
      have hq' : q = g.n := by have : ¬ (q : Int) < (g.n : Int) := of_decide_eq_false h1; omega
      rw [hq', Nat.sub_self] at hgo
      have hgo' : upGo (bodyI (placesL g.ds) F g.ds) 0 g.n u = v := hgo
      refine CondOb.mk (fun h2 => ?brk) (fun h2 => ?nxt)
    case nxt =>
      have hgr : gr = true := by simpa using h2
      obtain ⟨hle, hne⟩ := hg1 hgr
      have hlt := offsI_lt hle hne
      refine ArithOb.mk _ (next_wr (i := rd) (by omega)) ?_
      exact ⟨(rd + 1, v, os, K), ⟨⟨by simp only; omega, hos, hK, fun _ => by simp only; omega, by simp only; omega⟩, by simp only; omega⟩, .refl, .cons .refl (.cons .refl (.cons .refl (.cons .refl (.cons .refl (.cons .refl (.nil)))))), .cons rfl (.nil)⟩
    case rnd =>
      have hqn : q < g.n := by have : (q : Int) < (g.n : Int) := of_decide_eq_true h1; omega
      have hqd : q < g.ds.length := by omega
      have hqv : q < v.length := by omega
      have hqo : q < os.n := by omega
      have hgK := hgJ.mono hK
      obtain ⟨ad, had, hrdr⟩ := hgJ.rs.row Df.cells_len hqn hqd
      have r2 : ∀ (K' : GH) (M : List Blk), (∀ b o, J b = some o → K' b = some o) → Rd K' M ((ad.add (q * 3)).add 1) 2 g.ds[q].t.cells := fun K' M hK' => ((hrdr M).part (k := 1) (m := 2) (by decide)).mono hK'
      obtain ⟨y, hy⟩ : ∃ y, bodyI (placesL g.ds) F g.ds v q = y := ⟨_, rfl⟩
      have hY : ∀ {K' : GH} {M : List Blk}, (∀ b o, J b = some o → K' b = some o) → (∀ z ∈ os.blk 67, z ∈ M) → Spec Tryz.prog 41 [g.val, os.val, g.ds[q].t.val] K' M fun r I' M' => (∀ b o, K' b = some o → I' b = some o) ∧ M' = M ∧ r = .tuple #[y.val, .bool true] := fun {K' M} hK' hM => by
        have := IBody_spec (lc := os.c) (hTJ.mono hK') (hgJ.mono hK') hm hF hkg hqd (OS.isAt (I := K') hos hM)
        rw [bodyU, decide_eq_true hvn, cond_true, hy] at this
        exact this
      have hstep : upGo (bodyI (placesL g.ds) F g.ds) 0 g.n u = upGo (bodyI (placesL g.ds) F g.ds) (q + 1) (g.n - (q + 1)) (upStep (bodyI (placesL g.ds) F g.ds) v q) := by
        rw [hgo, show g.n - q = (g.n - (q + 1)) + 1 by omega, upGo]
      have hvq : v.getD q fi0 = v[q] := by simp [List.getD_eq_getElem?_getD, hqv]
      obtain ⟨w, hw⟩ : ∃ w, y.within v[q] = w := ⟨_, rfl⟩
      have hus : upStep (bodyI (placesL g.ds) F g.ds) v q = bif w then v else v.set q (v[q].choice y) := by
        rw [upStep, hy, hvq, hw]
      have hule := upStep_le (bodyI (placesL g.ds) F g.ds) hqv
      rw [hus] at hstep hule
      refine CodeOb.drawC TryzEOK rfl rfl rfl (ι := Nat × GH) (fun s => { fl := [(1, .val x.val), (2, .ref 2 0), (5, .val (.slice (some ⟨b, 0, none⟩) g.n g.n)), (7, .val (.bool c)), (13, .val os.val), (14, .val (.int .i64 rd)), (15, .val (.bool gr)), (16, .val (.int .i64 q)), (17, .val (ptr s.1))], cl := [(2, [.slice g.a g.n g.c])], gi := s.2, mi := ⟨s.1, .cells y.cells.toArray 67 (0, 0)⟩ :: (os.blk 67 ++ [fiRow b l]) }) (fun s => ∀ b o, J b = some o → s.2 b = some o) ?_ ?_
      · refine IdxOb.mk ad q had rfl hqn ?_
        refine LoadOb.mk _ (r2 _ _ hK) ?_
        refine ⟨?_, ?_⟩
        · refine CallOb.whole _ (hY hK (fun z hz => by simp [hz])) ?_
          rintro r K2 M2 - ⟨hK2, rfl, rfl⟩
          refine AllocOb.mk fun s hs hsM => ?_
          refine StoreOb.to [] _ _ _ rfl rfl rfl rfl y.cells rfl ?_
          exact ⟨(s, K2), fun b o h => hK2 _ _ (hK _ _ h), .refl, .cons .refl (.cons .refl (.cons .refl (.cons .refl (.cons .refl (.cons .refl (.cons .refl (.cons .refl (.cons .refl (.nil))))))))), .cons rfl (.nil)⟩
        · refine AllocOb.mk fun s hs hsM => ?_
          refine PCallOb.whole _ (hY hK (fun z hz => by simp [hz])) (fun v I' M' h x hx => by rw [h.2.1]; exact hx) ?_
          rintro r K2 M2 - ⟨hK2, rfl, rfl⟩
          refine StoreOb.to [] _ _ _ rfl rfl rfl rfl y.cells rfl ?_
          exact ⟨(s, K2), fun b o h => hK2 _ _ (hK _ _ h), .refl, .cons .refl (.cons .refl (.cons .refl (.cons .refl (.cons .refl (.cons .refl (.cons .refl (.cons .refl (.cons .refl (.nil))))))))), .cons rfl (.nil)⟩
      rintro ⟨s17, K2⟩ hK2
      simp only at hK2
      obtain ⟨ao, hao, hro⟩ := OS.ok.row (I := K2) (M := ⟨s17, .cells y.cells.toArray 67 (0, 0)⟩ :: (os.blk 67 ++ [fiRow b l])) (e := 67) Fi.cells_len (by decide) hos (fun z hz => by simp [hz]) hqv
      refine CodeOb.draw TryzEOK rfl rfl rfl ?_
      refine LoadOb.mk y.cells (blkI_rd0 (by simp)) ?_
      refine IdxOb.mk ao q hao rfl hqo ?_
      refine LoadOb.mk _ hro ?_
      refine CallOb.whole _ (IWithin_b hw) ?_
      rintro r K3 M3 - ⟨rfl, rfl, rfl⟩
      cases w with
      | true =>
        refine CondOb.mk (fun h => by cases h) (fun _ => ?_)
        refine ArithOb.mk _ (next_wr (i := q) (by omega)) ?_
        exact ⟨(q + 1, v, os, gr, K3), ⟨⟨hqn, hvn, hos, hK2, hstep, hg0, hg1⟩, by simp only; omega⟩, .sub (.cons _ (.refl _)) .refl, .cons .refl (.cons .refl (.cons .refl (.cons .refl (.cons .refl (.cons .refl (.cons .refl (.cons .refl (.nil)))))))), .cons rfl (.nil)⟩
      | false =>
        refine CondOb.mk (fun _ => ?_) (fun h => by cases h)
        refine CodeOb.draw TryzEOK rfl rfl rfl ?_
        refine IdxOb.mk ao q hao rfl hqo ?_
        refine LoadOb.mk _ hro ?_
        refine LoadOb.mk y.cells (blkI_rd0 (by simp)) ?_
        refine PCallOb.whole _ (IChoice_spec v[q] y) (fun v I' M' h x hx => by rw [h.2.2]; exact hx) ?_
        rintro r K4 M4 - ⟨rfl, rfl, rfl⟩
        refine IdxOb.mk ao q hao rfl hqo ?_
        refine OS.putI Fi.cells 5 Fi.cells_len (e := 67) hos hqv (v[q].choice y) rfl [⟨s17, .cells y.cells.toArray 67 (0, 0)⟩] [fiRow b l] rfl hao ?_
        intro os' hv' ha' hn' hok'
        refine ArithOb.mk _ (next_wr (i := q) (by omega)) ?_
        have hne : v.set q (v[q].choice y) ≠ v := fun e => by
          have h3 := hule.2 e
          rw [hy, hvq, hw] at h3
          cases h3
        have hlu : LeR OI u (v.set q (v[q].choice y)) ∧ v.set q (v[q].choice y) ≠ u := by
          cases hgr : gr with
          | false =>
            have := hg0 hgr
            rw [← this]
            exact ⟨hule.1, hne⟩
          | true =>
            obtain ⟨h1, h2⟩ := hg1 hgr
            refine ⟨h1.trans hule.1, fun e => ?_⟩
            have h4 := hule.1
            rw [cond_false, e] at h4
            exact h2 (LeR.anti h4 h1)
        exact ⟨(q + 1, v.set q (v[q].choice y), os', true, K4), ⟨⟨hqn, by simp only [List.length_set]; exact hvn, hok', hK2, hstep, fun h => (by cases h), fun _ => hlu⟩, by simp only; omega⟩, .sub (.cons _ (.refl _)) .refl, .cons .refl (.cons .refl (.cons .refl (.cons .refl (.cons (by rw [← hv']; exact .refl) (.cons .refl (.cons .lit (.cons .refl .nil))))))), .cons rfl (.nil)⟩
    case' brk =>
      have hgr : gr = false := by simpa using h2
      have hvu := hg0 hgr
      have hfin : v.length = g.n → LeR OI l v := fun e => by
        rw [← hvu] at hgo'
        exact upGo_closed hl (by omega) (by rw [hgn]; exact hgo')
      clear hvu hgo' hgo hg0 hg1 hoff'
      obtain ⟨u, hu⟩ : ∃ u', u' = v := ⟨_, rfl⟩
      subst hu
  all_goals
    have hosn' := hon hos
    have hxK := hxJ.mono hK
    refine LoopOb.inv (ι := Nat) (fun k => { fl := [(1, .val x.val), (5, .val (.slice (some ⟨b, 0, none⟩) g.n g.n)), (7, .val (.bool c)), (13, .val os.val), (19, .val (.int .i64 k))], gi := K, mi := os.blk 67 ++ [fiRow b l] }) (fun k => k ≤ g.n) (fun k => g.n - k) ?_ ?_
    · exact ⟨0, Nat.zero_le _, .refl, .cons .refl (.cons .refl (.cons .refl (.cons .refl (.cons .refl (.nil))))), .nil⟩
    intro k hk
    refine CondOb.mk (fun h3 => ?_) (fun h3 => ?_)
    rotate_left
    · exact ⟨_, _, .refl, rfl⟩
    have hkn : k < g.n := by have : (k : Int) < (g.n : Int) := of_decide_eq_true h3; omega
    have hkl : k < l.length := by omega
    refine CodeOb.draw TryzEOK rfl rfl rfl ?_
    cases c with
    | true =>
      obtain ⟨hc1, hc2⟩ := hcle rfl
      have hkx : k < x.l.length := by omega
      have hwx : l[k].within x.l[k] = true := by
        have := hc2.at' k
        refine Fi.within_iff.2 ?_
        have h9 : OI.le l[k] x.l[k] := by simpa [List.getD_eq_getElem?_getD, hkl, hkx] using this
        exact h9
      obtain ⟨ax, hax, hrx⟩ := hxK.at'.rd k hkx
      refine GuardOb.mk (fun _ => ?_) (fun h => absurd h (by simp))
      refine IdxOb.mk ⟨b, 0, none⟩ k rfl rfl hkn ?_
      refine LoadOb.mk _ (fiRow_rd (by simp) hkl) ?_
      refine IdxOb.mk ax k hax rfl (by omega) ?_
      refine LoadOb.mk _ (hrx.sub fun _ h => by cases h) ?_
      refine CallOb.whole _ (IWithin_b hwx) ?_
      rintro r K5 M5 - ⟨rfl, hK5, hM5⟩
      subst K5
      subst M5
      refine GuardOb.mk (fun _ => ?_) (fun h => absurd h (by simp))
      refine GuardOb.mk (fun h4 => ?_) (fun h4 => ?_)
      · have hun : u.length = g.n := by have : (os.n : Int) = (g.n : Int) := of_decide_eq_true h4; omega
        have hku : k < u.length := by omega
        have hwu : l[k].within u[k] = true := by
          have := (hfin hun).at' k
          refine Fi.within_iff.2 ?_
          have h9 : OI.le l[k] u[k] := by simpa [List.getD_eq_getElem?_getD, hkl, hku] using this
          exact h9
        obtain ⟨ao, hao, hro⟩ := OS.ok.row (I := K) (M := os.blk 67 ++ [fiRow b l]) (e := 67) Fi.cells_len (by decide) hos (fun z hz => by simp [hz]) hku
        refine IdxOb.mk ⟨b, 0, none⟩ k rfl rfl hkn ?_
        refine LoadOb.mk _ (fiRow_rd (by simp) hkl) ?_
        refine IdxOb.mk ao k hao rfl (by omega) ?_
        refine LoadOb.mk _ hro ?_
        refine CallOb.whole _ (IWithin_b hwu) ?_
        rintro r K6 M6 - ⟨rfl, rfl, rfl⟩
        refine CondOb.mk (fun h => absurd h (by simp)) (fun _ => ?_)
        refine ArithOb.mk _ (next_wr (i := k) (by omega)) ?_
        exact ⟨k + 1, ⟨hkn, by omega⟩, .refl, .cons .refl (.cons .refl (.cons .refl (.cons .refl (.cons .refl (.nil))))), .nil⟩
      · refine ArithOb.mk _ (next_wr (i := k) (by omega)) ?_
        exact ⟨k + 1, ⟨hkn, by omega⟩, .refl, .cons .refl (.cons .refl (.cons .refl (.cons .refl (.cons .refl (.nil))))), .nil⟩
    | false =>
      refine GuardOb.mk (fun h => absurd h (by simp)) (fun _ => ?_)
      refine GuardOb.mk (fun h4 => ?_) (fun h4 => ?_)
      · have hun : u.length = g.n := by have : (os.n : Int) = (g.n : Int) := of_decide_eq_true h4; omega
        have hku : k < u.length := by omega
        have hwu : l[k].within u[k] = true := by
          have := (hfin hun).at' k
          refine Fi.within_iff.2 ?_
          have h9 : OI.le l[k] u[k] := by simpa [List.getD_eq_getElem?_getD, hkl, hku] using this
          exact h9
        obtain ⟨ao, hao, hro⟩ := OS.ok.row (I := K) (M := os.blk 67 ++ [fiRow b l]) (e := 67) Fi.cells_len (by decide) hos (fun z hz => by simp [hz]) hku
        refine IdxOb.mk ⟨b, 0, none⟩ k rfl rfl hkn ?_
        refine LoadOb.mk _ (fiRow_rd (by simp) hkl) ?_
        refine IdxOb.mk ao k hao rfl (by omega) ?_
        refine LoadOb.mk _ hro ?_
        refine CallOb.whole _ (IWithin_b hwu) ?_
        rintro r K6 M6 - ⟨rfl, rfl, rfl⟩
        refine CondOb.mk (fun h => absurd h (by simp)) (fun _ => ?_)
        refine ArithOb.mk _ (next_wr (i := k) (by omega)) ?_
        exact ⟨k + 1, ⟨hkn, by omega⟩, .refl, .cons .refl (.cons .refl (.cons .refl (.cons .refl (.cons .refl (.nil))))), .nil⟩
      · refine ArithOb.mk _ (next_wr (i := k) (by omega)) ?_
        exact ⟨k + 1, ⟨hkn, by omega⟩, .refl, .cons .refl (.cons .refl (.cons .refl (.cons .refl (.cons .refl (.nil))))), .nil⟩
end Go.V
