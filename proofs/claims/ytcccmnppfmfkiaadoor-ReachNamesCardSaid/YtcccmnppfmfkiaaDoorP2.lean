/-
  Plain: the text of a tree, its length, how much is still to be written. No program in sight.
-/
import Derived.Test.YtcccmnppfmfkiaaDoorWa
set_option linter.unusedVariables false
set_option linter.unusedSimpArgs false
namespace Go.V
open Go

def kindAt (ns : List Nd) (k : Int) : Int := (ns.map (·.k)).getD k.toNat 0
def paren (w : Bool) (s : List UInt8) : List UInt8 := (bif w then [40] else []) ++ (s ++ (bif w then [41] else []))
/-- The children's texts, what stands between two of them ahead of each, but for the first one. -/
def kidsT (sep : List UInt8) (f : Int → List UInt8) : Bool → List Int → List UInt8
  | _, [] => []
  | b, k :: ks => (bif b then sep else []) ++ (f k ++ kidsT sep f true ks)
def sepOf (d : Nd) : List UInt8 := sgn (d.k.toNat * 3 + 1)
def nodeT (deb : List Int) (ns : List Nd) (d : Nd) (g : Int → List UInt8) : List UInt8 :=
  aheadB deb d ++ (kidsT (sepOf d) (fun k => paren (wrapsV d.k (kindAt ns k)) (g k)) false d.kids ++ behindB d)
def textOf (deb : List Int) (ns : List Nd) : Int → List UInt8 := tabOf [] (nodeT deb ns) ns
def treeB (deb : List Int) (t : Tr) : List UInt8 := bif right t then textOf deb t.ns t.root else []

theorem kidsT_congr {sep : List UInt8} {f g : Int → List UInt8} : ∀ {ks : List Int} {b : Bool}, (∀ k ∈ ks, f k = g k) → kidsT sep f b ks = kidsT sep g b ks
  | [], b, _ => rfl
  | k :: ks, b, h => by
    unfold kidsT
    rw [h k (by simp), kidsT_congr fun x hx => h x (by simp [hx])]
theorem textOf_eq {deb : List Int} {t : Tr} (hr : right t = true) {j : Nat} (hj : j < t.ns.length) : textOf deb t.ns j = nodeT deb t.ns t.ns[j] (textOf deb t.ns) := by
  refine tabOf_eq (fun d g g' h => ?_) hr hj
  unfold nodeT
  rw [kidsT_congr fun k hk => by rw [h k hk]]

/-! ### Lengths -/
theorem paren_len (w : Bool) (s : List UInt8) : (paren w s).length ≤ s.length + 2 := by
  cases w <;> simp [paren]
theorem kidsT_len {sep : List UInt8} {f : Int → List UInt8} (hs : sep.length ≤ 3) {g : Int → Nat} (hf : ∀ k, (f k).length + 3 ≤ g k) : ∀ {ks : List Int} {b : Bool}, (kidsT sep f b ks).length ≤ sumOf g ks
  | [], b => by simp [kidsT, sumOf]
  | k :: ks, b => by
    have h1 := kidsT_len hs hf (ks := ks) (b := true)
    have h2 := hf k
    unfold kidsT
    simp only [List.length_append, sumOf, List.map_cons, List.sum_cons] at h1 ⊢
    cases b <;> simp <;> omega
theorem aheadB_len (deb : List Int) {d : Nd} (hf : FitsSays d) : (aheadB deb d).length ≤ 2400 := by
  have h1 : (litB d.t).length ≤ 2 + 4 * d.t.size := by
    have := flat_le (putB · quoL) 4 (fun c => putB_len c quoL) d.t.data.toList
    have h2 : d.t.data.toList.length = d.t.size := rfl
    simp only [litB, List.length_append, List.length_cons, List.length_nil]
    omega
  have h2 := classB_len deb d.s0 d.s1 d.s2 d.s3
  have h3 := hf.t
  have h4 := sgn_len 27
  have h5 := sgn_len (d.k.toNat * 3)
  have h6 : d.t.data.toList.length = d.t.size := rfl
  unfold aheadB
  cases (decide (d.k = 0) || decide (d.k = 2)) <;> cases decide (d.k = 1) <;> cases decide (d.k = 3) <;> cases decide (d.k = 9) <;> simp only [cond_true, cond_false, List.length_append, List.length_cons, List.length_nil] <;> omega
theorem behindB_len (d : Nd) : (behindB d).length ≤ 7 := by
  have h1 := countB_len d.lo.toNat d.hi
  have h2 := sgn_len (d.k.toNat * 3 + 2)
  unfold behindB
  cases decide (d.k = 6) <;> simp only [cond_true, cond_false] <;> omega
theorem sum_const {α : Type} (c : Nat) : ∀ l : List α, (l.map fun _ => c).sum = c * l.length
  | [] => by simp
  | x :: l => by
    rw [List.map_cons, List.sum_cons, sum_const c l, List.length_cons, Nat.mul_add]
    omega
theorem text_len {deb : List Int} {t : Tr} (hr : right t = true) : (textOf deb t.ns t.root).length + 5 ≤ 2412 * t.ns.length := by
  have h := right_sum hr (g := fun k => (textOf deb t.ns k).length + 5) (c := fun _ => 2412) fun j hj => by
    rw [textOf_eq hr hj]
    have h1 := aheadB_len deb (fits_says (right_fits hr hj))
    have h2 := behindB_len t.ns[j]
    have h3 := kidsT_len (sep := sepOf t.ns[j]) (sgn_len _) (f := fun k => paren (wrapsV t.ns[j].k (kindAt t.ns k)) (textOf deb t.ns k)) (g := fun k => (textOf deb t.ns k).length + 5)
      (fun k => by have := paren_len (wrapsV t.ns[j].k (kindAt t.ns k)) (textOf deb t.ns k); omega) (ks := t.ns[j].kids) (b := false)
    unfold nodeT
    simp only [List.length_append]
    omega
  rw [sum_const] at h
  exact h
theorem treeB_len (deb : List Int) (t : Tr) : (treeB deb t).length ≤ 2412 * t.ns.length := by
  unfold treeB
  cases hr : right t with
  | false => simp
  | true =>
    have := text_len (deb := deb) hr
    simp only [cond_true]
    omega

/-! ### What is open -/
abbrev Open := Nat × Nat × Bool
def openC (e : Open) : List Value := [.int .i64 e.1, .int .i64 e.2.1, .bool e.2.2]
def nodeAt (ns : List Nd) (j : Nat) : Nd := ns.getD j ⟨0, 0, 0, 0, 0, .empty, 0, 0, none, 0, 0, []⟩
def kidF (deb : List Int) (ns : List Nd) (d : Nd) (k : Int) : List UInt8 := paren (wrapsV d.k (kindAt ns k)) (textOf deb ns k)
def headE (deb : List Int) (ns : List Nd) (e : Open) : List UInt8 := bif decide ((e.2.1 : Int) = 0) then (bif e.2.2 then [40] else []) ++ aheadB deb (nodeAt ns e.1) else []
def restE (deb : List Int) (ns : List Nd) (e : Open) : List UInt8 :=
  headE deb ns e ++ (kidsT (sepOf (nodeAt ns e.1)) (kidF deb ns (nodeAt ns e.1)) (decide (0 < (e.2.1 : Int))) ((nodeAt ns e.1).kids.drop e.2.1) ++ (behindB (nodeAt ns e.1) ++ (bif e.2.2 then [41] else [])))
def wtOf (ns : List Nd) : Int → Nat := tabOf 0 (fun d g => 2 + sumOf g d.kids) ns
def muE (ns : List Nd) (e : Open) : Nat := 1 + sumOf (wtOf ns) ((nodeAt ns e.1).kids.drop e.2.1)
def muAll (ns : List Nd) (st : List Open) : Nat := (st.map (muE ns)).sum
def restAll (deb : List Int) (ns : List Nd) (st : List Open) : List UInt8 := st.reverse.flatMap (restE deb ns)
theorem restAll_snoc (deb : List Int) (ns : List Nd) (st : List Open) (e : Open) : restAll deb ns (st ++ [e]) = restE deb ns e ++ restAll deb ns st := by
  simp [restAll]
theorem muAll_snoc (ns : List Nd) (st : List Open) (e : Open) : muAll ns (st ++ [e]) = muAll ns st + muE ns e := by
  simp [muAll]
theorem muAll_len (ns : List Nd) : ∀ st : List Open, st.length ≤ muAll ns st
  | [] => by simp
  | e :: st => by
    have := muAll_len ns st
    simp only [muAll, List.map_cons, List.sum_cons, List.length_cons, muE] at this ⊢
    omega
theorem nodeAt_eq {ns : List Nd} {j : Nat} (h : j < ns.length) : nodeAt ns j = ns[j] := by
  simp [nodeAt, List.getD_eq_getElem?_getD, h]
theorem sumOf_congr {g g' : Int → Nat} {ks : List Int} (h : ∀ k ∈ ks, g k = g' k) : sumOf g ks = sumOf g' ks := by
  unfold sumOf
  rw [List.map_congr_left h]
theorem wtOf_eq {t : Tr} (hr : right t = true) {j : Nat} (hj : j < t.ns.length) : wtOf t.ns j = 2 + sumOf (wtOf t.ns) t.ns[j].kids :=
  tabOf_eq (fun d g g' h => by rw [sumOf_congr h]) hr hj
theorem wt_root {t : Tr} (hr : right t = true) : wtOf t.ns t.root ≤ 2 * t.ns.length := by
  have := right_sum hr (g := wtOf t.ns) (c := fun _ => 2) fun j hj => by rw [wtOf_eq hr hj]; exact Nat.le_refl _
  rwa [sum_const] at this
/-- A node that is begun. -/
theorem restE_new {deb : List Int} {t : Tr} (hr : right t = true) {j : Nat} (hj : j < t.ns.length) (w : Bool) : restE deb t.ns (j, 0, w) = paren w (textOf deb t.ns j) := by
  rw [textOf_eq hr hj]
  simp only [restE, headE, nodeAt_eq hj]
  cases w <;> simp [paren, nodeT, kidF] <;> rfl
theorem muE_new {t : Tr} (hr : right t = true) {j : Nat} (hj : j < t.ns.length) (w : Bool) : muE t.ns (j, 0, w) + 1 = wtOf t.ns j := by
  rw [wtOf_eq hr hj]
  simp [muE, nodeAt_eq hj]
  omega
/-- A step: the next child. -/
theorem restE_kid {deb : List Int} {t : Tr} (hr : right t = true) {j i : Nat} (hj : j < t.ns.length) {w : Bool} (hi : i < t.ns[j].kids.length) :
    restE deb t.ns (j, i, w) = headE deb t.ns (j, i, w) ++ ((bif decide (0 < (i : Int)) then sepOf t.ns[j] else []) ++ (restE deb t.ns (t.ns[j].kids[i].toNat, 0, wrapsV t.ns[j].k (kindAt t.ns t.ns[j].kids[i])) ++ restE deb t.ns (j, i + 1, w))) := by
  have hk := right_kids hr j hj _ (List.getElem_mem hi)
  rw [restE_new hr (by omega)]
  have e1 : (((t.ns[j].kids[i].toNat : Nat) : Int)) = t.ns[j].kids[i] := Int.toNat_of_nonneg hk.1
  rw [e1]
  have hd := List.drop_eq_getElem_cons hi
  simp only [restE, nodeAt_eq hj]
  rw [hd]
  have e2 : headE deb t.ns (j, i + 1, w) = [] := by
    have : decide (((i + 1 : Nat) : Int) = 0) = false := decide_eq_false (by omega)
    simp only [headE, this, cond_false]
  have e3 : decide (0 < ((i + 1 : Nat) : Int)) = true := decide_eq_true (by omega)
  rw [e2, e3]
  simp only [kidsT, kidF, List.append_assoc, List.nil_append]
theorem muE_kid {t : Tr} (hr : right t = true) {j i : Nat} (hj : j < t.ns.length) {w w' : Bool} (hi : i < t.ns[j].kids.length) : muE t.ns (j, i + 1, w) + muE t.ns (t.ns[j].kids[i].toNat, 0, w') + 1 = muE t.ns (j, i, w) := by
  have hk := right_kids hr j hj _ (List.getElem_mem hi)
  have h1 := muE_new hr (j := t.ns[j].kids[i].toNat) (by omega) w'
  have e1 : (((t.ns[j].kids[i].toNat : Nat) : Int)) = t.ns[j].kids[i] := Int.toNat_of_nonneg hk.1
  rw [e1] at h1
  have hd := List.drop_eq_getElem_cons hi
  have e3 : muE t.ns (j, i, w) = 1 + sumOf (wtOf t.ns) (t.ns[j].kids.drop i) := by simp [muE, nodeAt_eq hj]
  have e4 : muE t.ns (j, i + 1, w) = 1 + sumOf (wtOf t.ns) (t.ns[j].kids.drop (i + 1)) := by simp [muE, nodeAt_eq hj]
  rw [e3, e4, hd]
  simp only [sumOf, List.map_cons, List.sum_cons]
  omega
theorem restE_end {deb : List Int} {t : Tr} {j i : Nat} (hj : j < t.ns.length) {w : Bool} (hi : t.ns[j].kids.length ≤ i) : restE deb t.ns (j, i, w) = headE deb t.ns (j, i, w) ++ (behindB t.ns[j] ++ (bif w then [41] else [])) := by
  simp only [restE, nodeAt_eq hj, List.drop_eq_nil_of_le hi]
  rfl
end Go.V
