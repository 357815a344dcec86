/-
  Part 3 of what the proofs of this seat share: the executor, data in memory, walks.
-/
import Derived.Test.YtmijfbjkkllhlaaGreatDoorK2
import Derived.Lib.Builder
import Derived.Lib.Bytealg
import Derived.Laws.Pointers
import Derived.Laws.StructEq

/-
  Walks: tree.Right.
-/
set_option linter.unusedVariables false
set_option linter.unusedSimpArgs false
namespace Go.V
open Go Go.Proofs

def kidsOk (i : Nat) : List Int → List Bool → Option (List Bool)
  | [], s => some s
  | k :: ks, s => bif decide (k < 0) || (decide ((i : Int) ≤ k) || s.getD k.toNat false) then none else kidsOk i ks (s.set k.toNat true)
def nodesOk : Nat → List Nd → List Bool → Option (List Bool)
  | _, [], s => some s
  | i, d :: ds, s => bif fits d d.kids.length then (match kidsOk i d.kids s with
    | some s' => nodesOk (i + 1) ds s'
    | none => none) else none
def rootOk (root : Int) : Nat → List Bool → Bool
  | _, [] => true
  | i, b :: s => bif b == decide ((i : Int) = root) then false else rootOk root (i + 1) s
def right (t : Tr) : Bool := decide (0 ≤ t.root) && (decide (t.root < t.ns.length) && (match nodesOk 0 t.ns (List.replicate t.ns.length false) with
  | some s => rootOk t.root 0 s
  | none => false))

theorem rowOf_one (v : Value) (n : Nat) : rowOf [v] n = List.replicate n v := by
  apply List.ext_getElem
  · simp [rowOf_eq, madeCells]
  · intro i h1 h2
    simp [rowOf_eq, madeCells, Nat.mod_one]
/-- A row of bools of the function's own. -/
def boolRow (b : Nat) (s : List Bool) : Blk := ⟨b, .cells (s.map Value.bool).toArray 4 (0, 0)⟩
theorem boolRow_rd {I : GH} {M : List Blk} {b : Nat} {s : List Bool} (hM : boolRow b s ∈ M) {j : Nat} (hj : j < s.length) : Rd I M ((⟨b, 0, none⟩ : Addr).add (j * 1)) 1 [.bool s[j]] := by
  rw [addr_add _ rfl]
  refine ⟨rfl, _, 4, (0, 0), .inr ⟨_, hM, rfl, rfl⟩, ?_, rfl⟩
  have h1 : j < (s.map Value.bool).length := by simpa using hj
  simp only [Nat.zero_add, Nat.mul_one]
  rw [List.drop_eq_getElem_cons h1, List.take_succ_cons, List.take_zero]
  simp
theorem boolRow_set (s : List Bool) (j : Nat) (hj : j < s.length) (b : Bool) : splice (s.map Value.bool) j [.bool b] = (s.set j b).map Value.bool := by
  unfold splice
  rw [List.map_set, List.set_eq_take_append_cons_drop]
  simp [hj]

theorem StoreOb.add {M : List Blk} {b o k : Nat} {vs : List Value} {K : List Blk → Prop} (pre post : List Blk) (cs : Array Value) (T : Nat) (hM : M = pre ++ ⟨b, .cells cs T (0, 0)⟩ :: post) (hb : o + k + vs.length ≤ cs.size) (h1 : allOne vs = true)
    (h : K (pre ++ ⟨b, .cells (splice cs.toList (o + k) vs).toArray T (0, 0)⟩ :: post)) : StoreOb M ((⟨b, o, none⟩ : Addr).add k) vs K := by
  rw [addr_add _ rfl]
  exact .mk pre post cs T hM rfl hb h1 h

theorem StoreOb.addTo {M : List Blk} {b o k : Nat} {vs : List Value} {K : List Blk → Prop} (pre post : List Blk) (cs : List Value) (T : Nat) (hM : M = pre ++ ⟨b, .cells cs.toArray T (0, 0)⟩ :: post) (hb : Nat.ble (o + k + vs.length) cs.length = true) (h1 : allOne vs = true)
    (cs' : List Value) (he : splice cs (o + k) vs = cs') (h : K (pre ++ ⟨b, .cells cs'.toArray T (0, 0)⟩ :: post)) : StoreOb M ((⟨b, o, none⟩ : Addr).add k) vs K :=
  StoreOb.add pre post _ _ hM (by simpa using Nat.le_of_ble_eq_true hb) h1 (by rw [← he] at h; exact h)
theorem Right_spec {I : GH} (hc : HasCounts I) {t : Tr} (ht : t.ok I) : Spec Tryz.prog 84 [t.val] I [] (fun v I' M' => v = .bool (right t) ∧ I' = I ∧ M' = []) := by
  refine spec_of_V [] TryzEOK Tryz.func84 rfl rfl rfl ?_
  intro B h0
  have hn := ht.n
  have hcap := ht.rs.cap
  refine GuardOb.mk (fun h1 => ?_) (fun h1 => ?_)
  · refine CondOb.mk (fun h2 => ?_) (fun h2 => ?_)
    · refine ⟨_, _, .refl, ?_, rfl, rfl⟩
      simp at h2
      have : ¬ t.root < t.ns.length := by omega
      simp [right, this]
    · have g1 : 0 ≤ t.root := by simpa using h1
      have g2 : t.root < t.ns.length := by simp at h2; omega
      refine MakeOb.mk t.n t.n rfl rfl (Nat.le_refl _) (by show 1 * t.n ≤ _; omega) (by omega) ?_
      refine AllocOb.mk fun b hb hbM => ?_
      refine LoopOb.inv (ι := Nat × List Bool)
        (fun x => { fl := [(1, .ref 1 0), (3, .val (.slice (some ⟨b, 0, none⟩) t.n t.n)), (26, .val (.slice t.a t.n t.c)), (27, .val (.int .i64 t.n)), (28, .val (.int .i64 x.1))], cl := [(1, t.cells)], gi := I, mi := [boolRow b x.2] })
        (fun x => x.1 ≤ t.n ∧ x.2.length = t.n ∧ nodesOk 0 t.ns (List.replicate t.ns.length false) = nodesOk x.1 (t.ns.drop x.1) x.2) (fun x => t.n - x.1) ?_ ?_
      · refine ⟨(0, List.replicate t.n false), ⟨by omega, by simp, by simp [hn]⟩, ?_, .cons .refl (.cons .refl (.cons .refl (.cons .refl (.cons .refl .nil)))), .cons rfl .nil⟩
        show Wk _ _ [⟨b, .cells (rowOf [Value.bool false] (t.n * 1)).toArray 4 (0, 0)⟩] _ [boolRow b (List.replicate t.n false)]
        rw [rowOf_one, Nat.mul_one]
        simp only [boolRow, List.map_replicate]
        exact .refl
      · rintro ⟨i, s⟩ ⟨hi1, hi2, hi3⟩
        simp only at hi1 hi2 hi3
        refine CondOb.mk (fun h => ?_) (fun h => ?_)
        · have hlt : i < t.n := by simpa using h
          have hlt' : i < t.ns.length := by omega
          obtain ⟨ad, had, hrd⟩ := ht.rs.row Nd.cells_len hlt hlt'
          have hdk := ht.ns t.ns[i] (List.getElem_mem hlt')
          have hkn := hdk.kn
          have hdrop : t.ns.drop i = t.ns[i] :: t.ns.drop (i + 1) := List.drop_eq_getElem_cons hlt'
          refine IdxOb.mk ad i had rfl hlt ?_
          refine LoadOb.mk t.ns[i].cells (hrd _) ?_
          refine CallOb.mk [] [boolRow b s] _ (.refl _) (Fits_spec hc hdk t.ns[i].kn) ?_
          rintro v I' M' - ⟨rfl, rfl, rfl⟩
          refine CondOb.mk (fun h3 => ?_) (fun h3 => ?_)
          · refine ⟨_, _, .sub (List.nil_sublist _) .refl, ?_, rfl, rfl⟩
            have hf : fits t.ns[i] t.ns[i].kids.length = false := by rw [hkn]; simpa using h3
            have : right t = false := by
              unfold right
              rw [hi3, hdrop]
              simp [nodesOk, hf]
            rw [this]
          · have hf : fits t.ns[i] t.ns[i].kids.length = true := by rw [hkn]; simpa using h3
            refine LoopOb.inv (ι := Nat × List Bool)
              (fun x => { fl := [(1, .ref 1 0), (3, .val (.slice (some ⟨b, 0, none⟩) t.n t.n)), (4, .val (.int .i64 i)), (26, .val (.slice t.a t.n t.c)), (27, .val (.int .i64 t.n)), (28, .val (.int .i64 i)), (40, .val (.slice t.ns[i].ka t.ns[i].kn t.ns[i].kc)), (41, .val (.int .i64 t.ns[i].kn)), (42, .val (.int .i64 x.1))], cl := [(1, t.cells)], gi := I', mi := [boolRow b x.2] })
              (fun x => x.1 ≤ t.ns[i].kn ∧ x.2.length = t.n ∧ kidsOk i t.ns[i].kids s = kidsOk i (t.ns[i].kids.drop x.1) x.2) (fun x => t.ns[i].kn - x.1) ?_ ?_
            · exact ⟨(0, s), ⟨by omega, hi2, rfl⟩, .refl, .cons .refl (.cons .refl (.cons .refl (.cons .refl (.cons .refl (.cons .refl (.cons .refl (.cons .refl (.cons .refl .nil)))))))), .cons rfl .nil⟩
            · rintro ⟨j, s'⟩ ⟨hj1, hj2, hj3⟩
              simp only at hj1 hj2 hj3
              refine CondOb.mk (fun h => ?_) (fun h => ?_)
              · have hjl : j < t.ns[i].kn := by simpa using h
                have hjl' : j < t.ns[i].kids.length := by omega
                obtain ⟨ak, hak, hrk⟩ := hdk.rs.one hjl hjl'
                refine IdxOb.mk ak j hak rfl hjl ?_
                refine LoadOb.mk [.int .i64 t.ns[i].kids[j]] (hrk _) ?_
                have hkd : t.ns[i].kids.drop j = t.ns[i].kids[j] :: t.ns[i].kids.drop (j + 1) := List.drop_eq_getElem_cons hjl'
                have bad : (decide (t.ns[i].kids[j] < 0) || (decide ((i : Int) ≤ t.ns[i].kids[j]) || s'.getD t.ns[i].kids[j].toNat false)) = true → right t = false := fun hb => by
                  unfold right
                  rw [hi3, hdrop]
                  simp only [nodesOk, hf, cond_true, hj3, hkd, kidsOk, hb]
                  simp
                refine GuardOb.mk (fun h4 => ?_) (fun h4 => ?_)
                · refine GuardOb.mk (fun h5 => ?_) (fun h5 => ?_)
                  · simp only [decide_eq_false_iff_not, Int.not_lt, Int.not_le] at h4 h5
                    have hk0 : t.ns[i].kids[j] = ((t.ns[i].kids[j].toNat : Nat) : Int) := by omega
                    have hkl : t.ns[i].kids[j].toNat < t.n := by omega
                    have hkl' : t.ns[i].kids[j].toNat < s'.length := by omega
                    refine IdxOb.mk ⟨b, 0, none⟩ t.ns[i].kids[j].toNat rfl hk0 hkl ?_
                    refine LoadOb.mk [.bool s'[t.ns[i].kids[j].toNat]] (boolRow_rd (by simp) hkl') ?_
                    refine CondOb.mk (fun h6 => ?_) (fun h6 => ?_)
                    · refine ⟨_, _, .sub (List.nil_sublist _) .refl, ?_, rfl, rfl⟩
                      rw [bad]
                      simp [List.getD_eq_getElem?_getD, hkl', h6]
                    · refine IdxOb.mk ⟨b, 0, none⟩ t.ns[i].kids[j].toNat rfl hk0 hkl ?_
                      refine StoreOb.add [] [] _ 4 rfl ?_ rfl ?_
                      · simp only [List.size_toArray, List.length_map]
                        show 0 + t.ns[i].kids[j].toNat * 1 + 1 ≤ _
                        omega
                      have hwr : IntKind.i64.wrap ((j : Int) + 1) = ((j + 1 : Nat) : Int) := by
                        rw [wrap_i64 ⟨by omega, by have := hdk.rs.cap; omega⟩]
                        omega
                      refine ArithOb.mk _ hwr ?_
                      refine ⟨(j + 1, s'.set t.ns[i].kids[j].toNat true), ⟨⟨by omega, by simp [hj2], ?_⟩, by show _ < _; simp only; omega⟩, ?_, .cons .refl (.cons .refl (.cons .refl (.cons .refl (.cons .refl (.cons .refl (.cons .refl (.cons .refl (.cons .refl .nil)))))))), .cons rfl .nil⟩
                      · simp only
                        rw [hj3, hkd]
                        have hq : (decide (t.ns[i].kids[j] < 0) || (decide ((i : Int) ≤ t.ns[i].kids[j]) || s'.getD t.ns[i].kids[j].toNat false)) = false := by
                          have e1 : ¬ t.ns[i].kids[j] < 0 := by omega
                          have e2 : ¬ (i : Int) ≤ t.ns[i].kids[j] := by omega
                          simp [e1, e2, List.getD_eq_getElem?_getD, hkl', show s'[t.ns[i].kids[j].toNat] = false from h6]
                        simp only [kidsOk, hq, cond_false]
                      · have e := boolRow_set s' t.ns[i].kids[j].toNat hkl' true
                        simp only [boolRow]
                        rw [← e]
                        simp only [Nat.zero_add, Nat.mul_one]
                        exact .refl
                  · refine ⟨_, _, .sub (List.nil_sublist _) .refl, ?_, rfl, rfl⟩
                    rw [bad]
                    simp at h5
                    simp [h5]
                · refine ⟨_, _, .sub (List.nil_sublist _) .refl, ?_, rfl, rfl⟩
                  rw [bad]
                  simp at h4
                  simp [h4]
              · have hjl : ¬ j < t.ns[i].kn := by simpa using h
                have hje : t.ns[i].kids.drop j = [] := List.drop_eq_nil_of_le (by omega)
                have hwr : IntKind.i64.wrap ((i : Int) + 1) = ((i + 1 : Nat) : Int) := by
                  rw [wrap_i64 ⟨by omega, by omega⟩]
                  omega
                refine ArithOb.mk _ hwr ?_
                refine ⟨(i + 1, s'), ⟨⟨by omega, hj2, ?_⟩, by show _ < _; simp only; omega⟩, .refl, .cons .refl (.cons .refl (.cons .refl (.cons .refl (.cons .refl .nil)))), .cons rfl .nil⟩
                simp only
                rw [hi3, hdrop]
                simp only [nodesOk, hf, cond_true, hj3, hje, kidsOk]
        · have hge : ¬ i < t.n := by simpa using h
          have hdn : t.ns.drop i = [] := List.drop_eq_nil_of_le (by omega)
          have hall : nodesOk 0 t.ns (List.replicate t.ns.length false) = some s := by rw [hi3, hdn]; rfl
          have hr : right t = rootOk t.root 0 s := by
            unfold right
            rw [hall]
            simp [g1, g2]
          refine LoopOb.inv (ι := Nat)
            (fun m => { fl := [(1, .ref 1 0), (64, .val (.slice (some ⟨b, 0, none⟩) t.n t.n)), (65, .val (.int .i64 t.n)), (66, .val (.int .i64 m))], cl := [(1, t.cells)], gi := I, mi := [boolRow b s] })
            (fun m => m ≤ t.n ∧ rootOk t.root 0 s = rootOk t.root m (s.drop m)) (fun m => t.n - m) ?_ ?_
          · exact ⟨0, ⟨by omega, rfl⟩, .refl, .cons .refl (.cons .refl (.cons .refl (.cons .refl .nil))), .cons rfl .nil⟩
          · rintro m ⟨hm1, hm2⟩
            refine CondOb.mk (fun h => ?_) (fun h => ?_)
            · have hml : m < t.n := by simpa using h
              have hml' : m < s.length := by omega
              have hmd : s.drop m = s[m] :: s.drop (m + 1) := List.drop_eq_getElem_cons hml'
              refine IdxOb.mk ⟨b, 0, none⟩ m rfl rfl hml ?_
              refine LoadOb.mk [.bool s[m]] (boolRow_rd (by simp) hml') ?_
              refine CondOb.mk (fun h7 => ?_) (fun h7 => ?_)
              · refine ⟨_, _, .sub (List.nil_sublist _) .refl, ?_, rfl, rfl⟩
                have : right t = false := by
                  rw [hr, hm2, hmd]
                  simp only [rootOk, show (s[m] == decide ((m : Int) = t.root)) = true from h7, cond_true]
                rw [this]
              · have hwr : IntKind.i64.wrap ((m : Int) + 1) = ((m + 1 : Nat) : Int) := by
                  rw [wrap_i64 ⟨by omega, by omega⟩]
                  omega
                refine ArithOb.mk _ hwr ?_
                refine ⟨m + 1, ⟨⟨by omega, ?_⟩, by omega⟩, .refl, .cons .refl (.cons .refl (.cons .refl (.cons .refl .nil))), .cons rfl .nil⟩
                rw [hm2, hmd]
                simp only [rootOk, show (s[m] == decide ((m : Int) = t.root)) = false from h7, cond_false]
            · have hml : ¬ m < t.n := by simpa using h
              have hmd : s.drop m = [] := List.drop_eq_nil_of_le (by omega)
              refine ⟨_, _, .sub (List.nil_sublist _) .refl, ?_, rfl, rfl⟩
              rw [hr, hm2, hmd]
              rfl
  · refine ⟨_, _, .refl, ?_, rfl, rfl⟩
    have : ¬ 0 ≤ t.root := by simp at h1; omega
    simp [right, this]
end Go.V

/-
  Walks: tree.Size, tree.Depth, tree.May.
-/
set_option linter.unusedVariables false
set_option linter.unusedSimpArgs false
namespace Go.V
open Go Go.Proofs

/-- A row of numbers of the function's own. -/
def intRow (b : Nat) (s : List Int) : Blk := ⟨b, .cells (s.map (Value.int .i64)).toArray 3 (0, 0)⟩
theorem intRow_rd {I : GH} {M : List Blk} {b : Nat} {s : List Int} (hM : intRow b s ∈ M) {j : Nat} (hj : j < s.length) : Rd I M ((⟨b, 0, none⟩ : Addr).add (j * 1)) 1 [.int .i64 s[j]] := by
  rw [addr_add _ rfl]
  refine ⟨rfl, _, 3, (0, 0), .inr ⟨_, hM, rfl, rfl⟩, ?_, rfl⟩
  have h1 : j < (s.map (Value.int .i64)).length := by simpa using hj
  simp only [Nat.zero_add, Nat.mul_one]
  rw [List.drop_eq_getElem_cons h1, List.take_succ_cons, List.take_zero]
  simp
theorem intRow_rd' {I : GH} {M : List Blk} {b : Nat} {s : List Int} {v : Int} {j : Nat} (hj : j < s.length) (hv : s[j] = v) (hM : intRow b s ∈ M) : Rd I M ((⟨b, 0, none⟩ : Addr).add (j * 1)) 1 [.int .i64 v] := hv ▸ intRow_rd hM hj
theorem intRow_set (s : List Int) (j : Nat) (hj : j < s.length) (b : Int) : splice (s.map (Value.int .i64)) j [.int .i64 b] = (s.set j b).map (Value.int .i64) := by
  unfold splice
  rw [List.map_set, List.set_eq_take_append_cons_drop]
  simp [hj]

theorem Size_spec {I : GH} (hc : HasCounts I) {t : Tr} (ht : t.ok I) : Spec Tryz.prog 151 [t.val] I [] (fun v I' M' => v = .int .i64 (bif right t then (t.n : Int) else 0) ∧ I' = I ∧ M' = []) := by
  refine spec_of_V [] TryzEOK Tryz.func151 rfl rfl rfl ?_
  intro B h0
  refine CallOb.mk [] [] _ (.refl _) (Right_spec hc ht) ?_
  rintro v I' M' - ⟨rfl, rfl, rfl⟩
  refine CondOb.mk (fun h => ?_) (fun h => ?_)
  · refine ⟨_, _, .refl, ?_, rfl, rfl⟩
    rw [show right t = false by simpa using h]
    rfl
  · refine ⟨_, _, .refl, ?_, rfl, rfl⟩
    rw [show right t = true by simpa using h]
    rfl

/-! ### What a right tree's children are -/
theorem kidsOk_lt {i : Nat} : ∀ {ks : List Int} {s s' : List Bool}, kidsOk i ks s = some s' → ∀ k ∈ ks, 0 ≤ k ∧ k < i
  | [], s, s', _, k, hk => by cases hk
  | x :: ks, s, s', h, k, hk => by
    unfold kidsOk at h
    cases hb : (decide (x < 0) || (decide ((i : Int) ≤ x) || s.getD x.toNat false)) with
    | true => rw [hb] at h; cases h
    | false =>
      rw [hb] at h
      simp only [Bool.or_eq_false_iff, decide_eq_false_iff_not] at hb
      rcases List.mem_cons.1 hk with rfl | hk
      · omega
      · exact kidsOk_lt h k hk
theorem nodesOk_kids : ∀ {i : Nat} {ds : List Nd} {s s' : List Bool}, nodesOk i ds s = some s' → ∀ j (h : j < ds.length), ∀ k ∈ ds[j].kids, 0 ≤ k ∧ k < (i + j : Nat)
  | i, [], s, s', _, j, hj, _, _ => by cases hj
  | i, d :: ds, s, s', h, j, hj, k, hk => by
    unfold nodesOk at h
    cases hf : fits d d.kids.length with
    | false => rw [hf] at h; cases h
    | true =>
      rw [hf] at h
      simp only [cond_true] at h
      cases ho : kidsOk i d.kids s with
      | none => rw [ho] at h; cases h
      | some s1 =>
        rw [ho] at h
        cases j with
        | zero => exact kidsOk_lt ho k (by simpa using hk)
        | succ j =>
          have := nodesOk_kids h j (by simpa using hj) k (by simpa using hk)
          omega
theorem right_kids {t : Tr} (h : right t = true) : ∀ j (hj : j < t.ns.length), ∀ k ∈ t.ns[j].kids, 0 ≤ k ∧ k < j := by
  unfold right at h
  simp only [Bool.and_eq_true] at h
  obtain ⟨_, _, h⟩ := h
  split at h
  · rename_i s hs
    intro j hj k hk
    have := nodesOk_kids hs j hj k hk
    omega
  · cases h
theorem right_root {t : Tr} (h : right t = true) : 0 ≤ t.root ∧ t.root < t.ns.length := by
  unfold right at h
  simp only [Bool.and_eq_true, decide_eq_true_eq] at h
  exact ⟨h.1, h.2.1⟩

def kidMax (dp : List Int) : List Int → Int → Int
  | [], m => m
  | k :: ks, m => kidMax dp ks (max m (dp.getD k.toNat 0))
def depthsFrom : Nat → List Nd → List Int → List Int
  | _, [], dp => dp
  | i, d :: ds, dp => depthsFrom (i + 1) ds (dp.set i (kidMax dp d.kids 0 + 1))
def depth (t : Tr) : Int := bif right t then (depthsFrom 0 t.ns (List.replicate t.ns.length 0)).getD t.root.toNat 0 else 0

theorem Depth_spec {I : GH} (hc : HasCounts I) {t : Tr} (ht : t.ok I) : Spec Tryz.prog 150 [t.val] I [] (fun v I' M' => v = .int .i64 (depth t) ∧ I' = I ∧ M' = []) := by
  refine spec_of_V [] TryzEOK Tryz.func150 rfl rfl rfl ?_
  intro B h0
  have hn := ht.n
  have hcap := ht.rs.cap
  refine CallOb.mk [] [] _ (.refl _) (Right_spec hc ht) ?_
  rintro v I' M' - ⟨rfl, rfl, rfl⟩
  refine CondOb.mk (fun h => ?_) (fun h => ?_)
  · refine ⟨_, _, .refl, ?_, rfl, rfl⟩
    simp [depth, show right t = false by simpa using h]
  · have hr : right t = true := by simpa using h
    have hkids := right_kids hr
    obtain ⟨g1, g2⟩ := right_root hr
    refine MakeOb.mk t.n t.n rfl rfl (Nat.le_refl _) (by show 8 * t.n ≤ _; omega) (by omega) ?_
    refine AllocOb.mk fun b hb hbM => ?_
    refine LoopOb.inv (ι := Nat × List Int)
      (fun x => { fl := [(1, .ref 1 0), (3, .val (.slice (some ⟨b, 0, none⟩) t.n t.n)), (16, .val (.slice t.a t.n t.c)), (17, .val (.int .i64 t.n)), (18, .val (.int .i64 x.1))], cl := [(1, t.cells)], gi := I', mi := [intRow b x.2] })
      (fun x => x.1 ≤ t.n ∧ x.2.length = t.n ∧ (∀ j, 0 ≤ x.2.getD j 0 ∧ x.2.getD j 0 ≤ x.1) ∧ (∀ j, x.1 ≤ j → x.2.getD j 0 = 0) ∧ depthsFrom 0 t.ns (List.replicate t.ns.length 0) = depthsFrom x.1 (t.ns.drop x.1) x.2) (fun x => t.n - x.1) ?_ ?_
    · have z : ∀ j, (List.replicate t.n (0 : Int)).getD j 0 = 0 := fun j => by
        by_cases hj : j < t.n <;> simp [List.getD_eq_getElem?_getD, hj]
      refine ⟨(0, List.replicate t.n 0), ⟨by omega, by simp, fun j => by rw [z]; simp, fun j _ => z j, by simp [hn]⟩, ?_, .cons .refl (.cons .refl (.cons .refl (.cons .refl (.cons .refl .nil)))), .cons rfl .nil⟩
      show Wk _ _ [⟨b, .cells (rowOf [Value.int .i64 0] (t.n * 1)).toArray 3 (0, 0)⟩] _ [intRow b (List.replicate t.n 0)]
      rw [rowOf_one, Nat.mul_one]
      simp only [intRow, List.map_replicate]
      exact .refl
    · rintro ⟨i, dp⟩ ⟨hi1, hi2, hi3, hi4, hi5⟩
      simp only at hi1 hi2 hi3 hi4 hi5
      refine CondOb.mk (fun h => ?_) (fun h => ?_)
      · have hlt : i < t.n := by simpa using h
        have hlt' : i < t.ns.length := by omega
        obtain ⟨ad, had, hrd⟩ := ht.rs.row Nd.cells_len hlt hlt'
        have hdk := ht.ns t.ns[i] (List.getElem_mem hlt')
        have hkn := hdk.kn
        have hdrop : t.ns.drop i = t.ns[i] :: t.ns.drop (i + 1) := List.drop_eq_getElem_cons hlt'
        refine IdxOb.mk ad i had rfl hlt ?_
        refine LoadOb.mk t.ns[i].cells (hrd _) ?_
        refine LoopOb.inv (ι := Nat × Int)
          (fun x => { fl := [(1, .ref 1 0), (3, .val (.slice (some ⟨b, 0, none⟩) t.n t.n)), (4, .val (.int .i64 i)), (16, .val (.slice t.a t.n t.c)), (17, .val (.int .i64 t.n)), (18, .val (.int .i64 i)), (24, .val (.slice t.ns[i].ka t.ns[i].kn t.ns[i].kc)), (25, .val (.int .i64 t.ns[i].kn)), (26, .val (.int .i64 x.1))], cl := [(1, t.cells)], gi := I', mi := [intRow b (dp.set i x.2)] })
          (fun x => x.1 ≤ t.ns[i].kn ∧ 0 ≤ x.2 ∧ x.2 ≤ i ∧ kidMax dp t.ns[i].kids 0 = kidMax dp (t.ns[i].kids.drop x.1) x.2) (fun x => t.ns[i].kn - x.1) ?_ ?_
        · refine ⟨(0, 0), ⟨by omega, by omega, by simp, rfl⟩, ?_, .cons .refl (.cons .refl (.cons .refl (.cons .refl (.cons .refl (.cons .refl (.cons .refl (.cons .refl (.cons .refl .nil)))))))), .cons rfl .nil⟩
          have e : dp.set i 0 = dp := by
            have h1 := hi4 i (Nat.le_refl _)
            rw [List.getD_eq_getElem?_getD] at h1
            apply List.ext_getElem?
            intro j
            rw [List.getElem?_set]
            split
            · rename_i e
              subst e
              have : i < dp.length := by omega
              simp [this] at h1 ⊢
              exact h1.symm
            · rfl
          simp only
          rw [e]
          exact .refl
        · rintro ⟨j, m⟩ ⟨hj1, hj2, hj3, hj4⟩
          simp only at hj1 hj2 hj3 hj4
          refine CondOb.mk (fun h => ?_) (fun h => ?_)
          · have hjl : j < t.ns[i].kn := by simpa using h
            have hjl' : j < t.ns[i].kids.length := by omega
            obtain ⟨ak, hak, hrk⟩ := hdk.rs.one hjl hjl'
            have hkd : t.ns[i].kids.drop j = t.ns[i].kids[j] :: t.ns[i].kids.drop (j + 1) := List.drop_eq_getElem_cons hjl'
            have hk := hkids i hlt' t.ns[i].kids[j] (List.getElem_mem hjl')
            have hk0 : t.ns[i].kids[j] = ((t.ns[i].kids[j].toNat : Nat) : Int) := by omega
            have hkl : t.ns[i].kids[j].toNat < t.n := by omega
            refine IdxOb.mk ak j hak rfl hjl ?_
            refine LoadOb.mk [.int .i64 t.ns[i].kids[j]] (hrk _) ?_
            refine CodeOb.draw TryzEOK rfl rfl rfl ?_
            have hil : i < (dp.set i m).length := by simp; omega
            have hkl' : t.ns[i].kids[j].toNat < (dp.set i m).length := by simp; omega
            have hii : (dp.set i m)[i] = m := by simp
            have hkk : (dp.set i m)[t.ns[i].kids[j].toNat] = dp.getD t.ns[i].kids[j].toNat 0 := by
              have hne : i ≠ t.ns[i].kids[j].toNat := by omega
              have h9 : t.ns[i].kids[j].toNat < dp.length := by omega
              rw [List.getElem_set, if_neg hne]
              simp [List.getD_eq_getElem?_getD, h9]
            refine IdxOb.mk ⟨b, 0, none⟩ i rfl rfl hlt ?_
            refine LoadOb.mk [.int .i64 m] (intRow_rd' hil hii (by simp)) ?_
            refine IdxOb.mk ⟨b, 0, none⟩ t.ns[i].kids[j].toNat rfl hk0 hkl ?_
            refine LoadOb.mk [.int .i64 (dp.getD t.ns[i].kids[j].toNat 0)] (intRow_rd' hkl' hkk (by simp)) ?_
            refine IdxOb.mk ⟨b, 0, none⟩ i rfl rfl hlt ?_
            refine StoreOb.add [] [] _ 3 rfl ?_ rfl ?_
            · simp only [List.size_toArray, List.length_map]
              show 0 + i * 1 + 1 ≤ _
              simp
              omega
            have hwr : IntKind.i64.wrap ((j : Int) + 1) = ((j + 1 : Nat) : Int) := by
              rw [wrap_i64 ⟨by omega, by have := hdk.rs.cap; omega⟩]
              omega
            refine ArithOb.mk _ hwr ?_
            have h3k := hi3 t.ns[i].kids[j].toNat
            refine ⟨(j + 1, max m (dp.getD t.ns[i].kids[j].toNat 0)), ⟨⟨by omega, by simp only; omega, by simp only; omega, ?_⟩, by show _ < _; simp only; omega⟩, ?_, .cons .refl (.cons .refl (.cons .refl (.cons .refl (.cons .refl (.cons .refl (.cons .refl (.cons .refl (.cons .refl .nil)))))))), .cons rfl .nil⟩
            · simp only
              rw [hj4, hkd]
              rfl
            · have e := intRow_set (dp.set i m) i hil (max m (dp.getD t.ns[i].kids[j].toNat 0))
              simp only [intRow]
              rw [List.set_set] at e
              rw [← e]
              simp only [Nat.zero_add, Nat.mul_one]
              exact .refl
          · have hjl : ¬ j < t.ns[i].kn := by simpa using h
            have hje : t.ns[i].kids.drop j = [] := List.drop_eq_nil_of_le (by omega)
            have hm : kidMax dp t.ns[i].kids 0 = m := by rw [hj4, hje]; rfl
            have hil : i < (dp.set i m).length := by simp; omega
            have hii : (dp.set i m)[i] = m := by simp
            have hwm : IntKind.i64.wrap (m + 1) = m + 1 := wrap_i64 ⟨by omega, by omega⟩
            have hwr : IntKind.i64.wrap ((i : Int) + 1) = ((i + 1 : Nat) : Int) := by
              rw [wrap_i64 ⟨by omega, by omega⟩]
              omega
            refine IdxOb.mk ⟨b, 0, none⟩ i rfl rfl hlt ?_
            refine LoadOb.mk [.int .i64 m] (intRow_rd' hil hii (by simp)) ?_
            refine ArithOb.mk _ hwm ?_
            refine IdxOb.mk ⟨b, 0, none⟩ i rfl rfl hlt ?_
            refine StoreOb.add [] [] _ 3 rfl ?_ rfl ?_
            · simp only [List.size_toArray, List.length_map]
              show 0 + i * 1 + 1 ≤ _
              omega
            refine ArithOb.mk _ hwr ?_
            refine ⟨(i + 1, dp.set i (m + 1)), ⟨⟨by omega, by simp [hi2], ?_, ?_, ?_⟩, by show _ < _; simp only; omega⟩, ?_, .cons .refl (.cons .refl (.cons .refl (.cons .refl (.cons .refl .nil)))), .cons rfl .nil⟩
            · intro q
              have h3q := hi3 q
              simp only [List.getD_eq_getElem?_getD, List.getElem?_set] at h3q ⊢
              split
              · rename_i e
                subst e
                have : i < dp.length := by omega
                simp [this]
                omega
              · omega
            · intro q hq
              have h4q := hi4 q (by omega)
              simp only at hq
              simp only [List.getD_eq_getElem?_getD, List.getElem?_set] at h4q ⊢
              rw [if_neg (by omega)]
              exact h4q
            · simp only
              rw [hi5, hdrop]
              simp only [depthsFrom, hm]
            · have e := intRow_set (dp.set i m) i hil (m + 1)
              simp only [intRow]
              rw [List.set_set] at e
              rw [← e]
              simp only [Nat.zero_add, Nat.mul_one]
              exact .refl
      · have hge : ¬ i < t.n := by simpa using h
        have hdn : t.ns.drop i = [] := List.drop_eq_nil_of_le (by omega)
        have hall : depthsFrom 0 t.ns (List.replicate t.ns.length 0) = dp := by rw [hi5, hdn]; rfl
        have hr0 : t.root = ((t.root.toNat : Nat) : Int) := by omega
        have hrl : t.root.toNat < dp.length := by omega
        refine IdxOb.mk ⟨b, 0, none⟩ t.root.toNat rfl hr0 (by omega) ?_
        refine LoadOb.mk [.int .i64 dp[t.root.toNat]] (intRow_rd' hrl rfl (by simp)) ?_
        refine ⟨_, _, .sub (List.nil_sublist _) .refl, ?_, rfl, rfl⟩
        have : depth t = dp[t.root.toNat] := by
          unfold depth
          rw [hr, hall]
          simp [List.getD_eq_getElem?_getD, hrl]
        rw [this]
        rfl

def mayTree (t : Tr) : Bool := decide (t.n ≤ 1024) && (right t && decide (depth t ≤ 32))
theorem TMay_spec {I : GH} (hc : HasCounts I) {t : Tr} (ht : t.ok I) : Spec Tryz.prog 112 [t.val] I [] (fun v I' M' => v = .bool (mayTree t) ∧ I' = I ∧ M' = []) := by
  refine spec_of_V [] TryzEOK Tryz.func112 rfl rfl rfl ?_
  intro B h0
  refine GuardOb.mk (fun h1 => ?_) (fun h1 => ?_)
  · refine CallOb.mk [] [] _ (.refl _) (Right_spec hc ht) ?_
    rintro v I' M' - ⟨rfl, rfl, rfl⟩
    refine GuardOb.mk (fun h2 => ?_) (fun h2 => ?_)
    · refine CallOb.mk [] [] _ (.refl _) (Depth_spec hc ht) ?_
      rintro v I' M' - ⟨rfl, rfl, rfl⟩
      refine ⟨_, _, .refl, ?_, rfl, rfl⟩
      have h1' : t.n ≤ 1024 := by simp at h1; omega
      simp [mayTree, h1', h2]
    · refine ⟨_, _, .refl, ?_, rfl, rfl⟩
      have h2' : right t = false := h2
      simp [mayTree, h2']
  · refine ⟨_, _, .refl, ?_, rfl, rfl⟩
    have h1' : ¬ t.n ≤ 1024 := by simp at h1; omega
    simp [mayTree, h1']
end Go.V

/-
  Plain laws on right trees: what comes of each node out of what comes of its children; sums over a tree's nodes. No program in sight.
-/
set_option linter.unusedVariables false
set_option linter.unusedSimpArgs false
namespace Go.V
open Go

/-- What each node comes to, out of what its children come to ('f d g': g tells what a child comes to). -/
def tab {α : Type} (z : α) (f : Nd → (Int → α) → α) : List Nd → List α → List α
  | [], acc => acc
  | d :: ds, acc => tab z f ds (acc ++ [f d fun k => acc.getD k.toNat z])

section
variable {α : Type} {z : α} {f : Nd → (Int → α) → α}
theorem tab_pre : ∀ (ds : List Nd) (acc : List α) (j : Nat), j < acc.length → (tab z f ds acc)[j]? = acc[j]?
  | [], acc, j, _ => rfl
  | d :: ds, acc, j, h => by
    rw [tab, tab_pre ds _ j (by simp; omega), List.getElem?_append_left h]
theorem tab_at : ∀ (ds : List Nd) (acc : List α) (j : Nat) (h : j < ds.length),
    (tab z f ds acc)[acc.length + j]? = some (f ds[j] fun k => ((tab z f ds acc).take (acc.length + j)).getD k.toNat z)
  | d :: ds, acc, 0, _ => by
    rw [tab, Nat.add_zero, tab_pre ds _ acc.length (by simp)]
    simp only [List.getElem?_concat_length, List.getElem_cons_zero, Option.some.injEq]
    congr 1
    funext k
    have : (tab z f ds (acc ++ [f d fun k => acc.getD k.toNat z])).take acc.length = acc := by
      apply List.ext_getElem?
      intro i
      rw [List.getElem?_take]
      split
      · rename_i hi
        rw [tab_pre ds _ i (by simp; omega), List.getElem?_append_left hi]
      · rw [List.getElem?_eq_none (by omega)]
    rw [this]
  | d :: ds, acc, j + 1, h => by
    have := tab_at ds (acc ++ [f d fun k => acc.getD k.toNat z]) j (by simpa using h)
    rw [tab]
    simp only [List.length_append, List.length_cons, List.length_nil, Nat.zero_add, List.getElem_cons_succ] at this ⊢
    rw [show acc.length + (j + 1) = acc.length + 1 + j from by omega]
    exact this

/-- What a node of a right tree comes to. -/
def tabOf (z : α) (f : Nd → (Int → α) → α) (ns : List Nd) (k : Int) : α := (tab z f ns []).getD k.toNat z
theorem tabOf_eq (hf : ∀ d g g', (∀ k ∈ d.kids, g k = g' k) → f d g = f d g') {t : Tr} (hr : right t = true) {j : Nat} (hj : j < t.ns.length) : tabOf z f t.ns j = f t.ns[j] (tabOf z f t.ns) := by
  have h := tab_at (z := z) (f := f) t.ns [] j hj
  simp only [List.length_nil, Nat.zero_add] at h
  unfold tabOf
  rw [List.getD_eq_getElem?_getD, show ((j : Int).toNat) = j from by omega, h, Option.getD_some]
  refine hf _ _ _ fun k hk => ?_
  have := right_kids hr j hj k hk
  rw [List.getD_eq_getElem?_getD, List.getD_eq_getElem?_getD, List.getElem?_take, if_pos (by omega)]
end

/-! ### Sums over a right tree's nodes -/
def free (g : Nat → Nat) (s : List Bool) : Nat → Nat
  | 0 => 0
  | i + 1 => free g s i + (bif s.getD i false then 0 else g i)
theorem free_set_ge {g : Nat → Nat} {s : List Bool} {k : Nat} : ∀ {i : Nat}, i ≤ k → free g (s.set k true) i = free g s i
  | 0, _ => rfl
  | i + 1, h => by
    unfold free
    rw [free_set_ge (by omega)]
    simp only [List.getD_eq_getElem?_getD, List.getElem?_set]
    rw [if_neg (by omega)]
theorem free_set {g : Nat → Nat} {s : List Bool} {k : Nat} (hs : s.getD k false = false) (hl : k < s.length) : ∀ {i : Nat}, k < i → free g (s.set k true) i + g k = free g s i
  | i + 1, h => by
    unfold free
    by_cases e : i = k
    · subst e
      rw [free_set_ge (Nat.le_refl _), hs]
      simp [List.getD_eq_getElem?_getD, hl]
    · have := free_set (g := g) hs hl (i := i) (by omega)
      simp only [List.getD_eq_getElem?_getD, List.getElem?_set] at this ⊢
      rw [if_neg (by omega)]
      omega
def sumOf (g : Int → Nat) (ks : List Int) : Nat := (ks.map g).sum
theorem free_kids {g : Nat → Nat} {i : Nat} : ∀ {ks : List Int} {s s' : List Bool}, kidsOk i ks s = some s' → i ≤ s.length → s'.length = s.length ∧ free g s' i + sumOf (fun k => g k.toNat) ks = free g s i
  | [], s, s', h, _ => by
    simp only [kidsOk, Option.some.injEq] at h
    subst h
    exact ⟨rfl, rfl⟩
  | x :: ks, s, s', h, hl => by
    unfold kidsOk at h
    cases hb : (decide (x < 0) || (decide ((i : Int) ≤ x) || s.getD x.toNat false)) with
    | true => rw [hb] at h; cases h
    | false =>
      rw [hb] at h
      simp only [Bool.or_eq_false_iff, decide_eq_false_iff_not] at hb
      obtain ⟨h1, h2, h3⟩ := hb
      obtain ⟨e1, e2⟩ := free_kids (g := g) h (by simpa using hl)
      have e3 := free_set (g := g) h3 (by omega) (i := i) (by omega)
      refine ⟨by simpa using e1, ?_⟩
      simp only [sumOf, List.map_cons, List.sum_cons] at e2 ⊢
      omega
theorem free_nodes {g : Nat → Nat} {c : Nd → Nat} : ∀ {ds : List Nd} {i : Nat} {s s' : List Bool}, nodesOk i ds s = some s' → i + ds.length ≤ s.length → (∀ j (h : j < ds.length), g (i + j) ≤ c ds[j] + sumOf (fun k => g k.toNat) ds[j].kids) →
    s'.length = s.length ∧ free g s' (i + ds.length) ≤ free g s i + (ds.map c).sum
  | [], i, s, s', h, _, _ => by
    simp only [nodesOk, Option.some.injEq] at h
    subst h
    simp
  | d :: ds, i, s, s', h, hl, hg => by
    unfold nodesOk at h
    cases hf : fits d d.kids.length with
    | false => rw [hf] at h; cases h
    | true =>
      rw [hf] at h
      simp only [cond_true] at h
      cases ho : kidsOk i d.kids s with
      | none => rw [ho] at h; cases h
      | some s1 =>
        rw [ho] at h
        simp only [List.length_cons] at hl
        obtain ⟨e1, e2⟩ := free_kids (g := g) ho (by omega)
        obtain ⟨e3, e4⟩ := free_nodes (g := g) (c := c) h (by omega) (fun j hj => by
          have := hg (j + 1) (by simp; omega)
          simp only [List.getElem_cons_succ] at this
          rw [show i + 1 + j = i + (j + 1) from by omega]
          exact this)
        have h0 := hg 0 (by simp)
        simp only [Nat.add_zero, List.getElem_cons_zero] at h0
        refine ⟨by omega, ?_⟩
        have e5 : free g s1 (i + 1) ≤ free g s1 i + g i := by
          show free g s1 i + _ ≤ _
          cases s1.getD i false <;> simp
        simp only [List.length_cons, List.map_cons, List.sum_cons]
        rw [show i + (ds.length + 1) = i + 1 + ds.length from by omega]
        omega
theorem rootOk_root {root : Int} : ∀ {s : List Bool} {i : Nat}, rootOk root i s = true → ∀ j, j < s.length → (i + j : Nat) = root → s.getD j false = false
  | b :: s, i, h, j, hj, e => by
    unfold rootOk at h
    cases hb : (b == decide ((i : Int) = root)) with
    | true => rw [hb] at h; cases h
    | false =>
      rw [hb] at h
      cases j with
      | zero =>
        have : decide ((i : Int) = root) = true := by simpa using e
        rw [this] at hb
        simpa using hb
      | succ j =>
        have := rootOk_root (i := i + 1) h j (by simpa using hj) (by omega)
        simpa using this
theorem free_ge {g : Nat → Nat} {s : List Bool} {k : Nat} (hk : s.getD k false = false) : ∀ {n : Nat}, k < n → g k ≤ free g s n
  | n + 1, h => by
    unfold free
    by_cases e : n = k
    · subst e
      rw [hk]
      simp
    · have := free_ge (g := g) hk (n := n) (by omega)
      omega
theorem right_sum {t : Tr} (hr : right t = true) {g : Int → Nat} {c : Nd → Nat} (h : ∀ j (hj : j < t.ns.length), g j ≤ c t.ns[j] + sumOf g t.ns[j].kids) : g t.root ≤ (t.ns.map c).sum := by
  have hroot := right_root hr
  have hk := right_kids hr
  unfold right at hr
  simp only [Bool.and_eq_true] at hr
  obtain ⟨_, _, hr⟩ := hr
  split at hr
  · rename_i s hs
    obtain ⟨e1, e2⟩ := free_nodes (g := fun k => g k) (c := c) hs (by simp) (fun j hj => by
      refine Nat.le_trans (by rw [Nat.zero_add]; exact h j hj) (Nat.le_of_eq ?_)
      congr 1
      unfold sumOf
      congr 1
      refine List.map_congr_left fun k hkk => ?_
      have := hk j hj k hkk
      rw [Int.toNat_of_nonneg this.1])
    simp only [List.length_replicate, Nat.zero_add] at e1 e2
    have hz := rootOk_root hr t.root.toNat (by omega) (by omega)
    have := free_ge (g := fun k => g k) hz (n := t.ns.length) (by omega)
    rw [Int.toNat_of_nonneg hroot.1] at this
    simp only [free] at e2
    omega
  · cases hr
theorem right_fits {t : Tr} (hr : right t = true) {j : Nat} (hj : j < t.ns.length) : fits t.ns[j] t.ns[j].kids.length = true := by
  have aux : ∀ {ds : List Nd} {i : Nat} {s s' : List Bool}, nodesOk i ds s = some s' → ∀ j (h : j < ds.length), fits ds[j] ds[j].kids.length = true := by
    intro ds
    induction ds with
    | nil => intro i s s' _ j hj; cases hj
    | cons d ds ih =>
      intro i s s' h j hj
      unfold nodesOk at h
      cases hf : fits d d.kids.length with
      | false => rw [hf] at h; cases h
      | true =>
        rw [hf] at h
        simp only [cond_true] at h
        cases ho : kidsOk i d.kids s with
        | none => rw [ho] at h; cases h
        | some s1 =>
          rw [ho] at h
          cases j with
          | zero => exact hf
          | succ j => exact ih h j (by simpa using hj)
  unfold right at hr
  simp only [Bool.and_eq_true] at hr
  obtain ⟨_, _, hr⟩ := hr
  split at hr
  · rename_i s hs
    exact aux hs j hj
  · cases hr
end Go.V

/-
  More rules: append of nothing, operations by their own law, conversions to and from unsafe.Pointer, pointers compared, functions without a body.
-/
set_option linter.unusedVariables false
set_option linter.unusedSimpArgs false
namespace Go.V
open Go

theorem run_app0 {P : Program} {w : World} (t u ty e : Nat) (i : TypeInfo) (ht : P.underlying t = some (.slice e)) {du : TypeDesc} (hu : P.underlying u = some du) (hdu : ∀ k, du ≠ .int k) (hi : P.info? e = some i)
    {sa : Option Addr} {n c : Nat} (hnc : n ≤ c) {xv : Value} (h0 : (∃ b c, xv = .slice b 0 c) ∨ xv = .string .empty) : (Builtin.append_ #[t, u] ty #[.slice sa n c, xv]).run P w = .ok (.slice sa n c) w := by
  have hdu' : (match du with | .int _ => true | _ => false) = false := by cases du <;> first | rfl | exact (hdu _ rfl).elim
  rcases h0 with ⟨b, c', rfl⟩ | rfl
  · cases b <;> cases sa <;> simp [Builtin.append_, run_underlying ht, run_underlying hu, sizeOf, typeInfo, hi, hdu', Builtin.lenOf, hnc, Builtin.firstCells, Builtin.zeroCells, loadCells, loadCellsFrom, storeCells]
  · cases sa <;> simp [Builtin.append_, run_underlying ht, run_underlying hu, sizeOf, typeInfo, hi, hdu', Builtin.lenOf, hnc, Builtin.firstCells, loadCells, storeCells]

section
variable {X : Ctx} {β : Nat → Nat} {a : Act} {w : World} {F : Fr} {C : Bx} {I : GH} {M : List Blk} {o : Oper} {K : KS}

/-- Two values held against each other, by their own law. -/
theorem OtherOb.bin {op : BinOp} {x y : Operand} {t t' : Nat} (ho : o.op = .binOp op t x y t') (hd : ∀ d, o.dst = some d → d < X.n) {p q v : Value} (hx : ev F x = .val p) (hy : ev F y = .val q)
    (hg : ∀ w, (eqGuard op t x y p q).run X.P w = .ok () w) (hr : ∀ w, Holds I M w → (binOp op t p q).run X.P w = .ok v w) (h : K (put o.dst (.val v) F) C I M) : OtherOb X o F C I M K := by
  refine ⟨fun ac w Q ⟨β, hR⟩ => ?_⟩
  have ex := eval_of_ev hR.fr hx
  have ey := eval_of_ev hR.fr hy
  refine done_vv hR hd (by rw [ho]; simp) ?_ h
  unfold execOp
  simp only [ho, Sem.run_bind, ex, ey, hg, Result.andThen_ok, hr w hR.holds, Sem.run_pure]

/-- A conversion, by its own law. -/
theorem OtherOb.conv {x : Operand} {s t : Nat} (ho : o.op = .convert s t x) (hd : ∀ d, o.dst = some d → d < X.n) {p v : Value} (hx : ev F x = .val p)
    (hr : ∀ w, Holds I M w → (convert s t p).run X.P w = .ok v w) (h : K (put o.dst (.val v) F) C I M) : OtherOb X o F C I M K := by
  refine ⟨fun ac w Q ⟨β, hR⟩ => ?_⟩
  have ex := eval_of_ev hR.fr hx
  refine done_vv hR hd (by rw [ho]; simp) ?_ h
  unfold execOp
  simp only [ho, Sem.run_bind, ex, Result.andThen_ok, hr w hR.holds, Sem.run_pure]

/-- An operation on one value, by its own law. -/
theorem OtherOb.un {op : UnOp} {x : Operand} {t : Nat} (ho : o.op = .unOp op t x) (hd : ∀ d, o.dst = some d → d < X.n) {p v : Value} (hx : ev F x = .val p)
    (hr : ∀ w, Holds I M w → (Op.unary op p).run X.P w = .ok v w) (h : K (put o.dst (.val v) F) C I M) : OtherOb X o F C I M K := by
  refine ⟨fun ac w Q ⟨β, hR⟩ => ?_⟩
  have ex := eval_of_ev hR.fr hx
  refine done_vv hR hd (by rw [ho]; simp) ?_ h
  unfold execOp
  simp only [ho, Sem.run_bind, ex, Result.andThen_ok, hr w hR.holds, Sem.run_pure]
def notV (x : Int) : Int := IntKind.u64.wrap (BitVec.ofInt 64 IntKind.u64.max ^^^ BitVec.ofInt 64 x).toNat
/-- '^x' of 64 bits. -/
theorem OtherOb.notU {x : Operand} {t : Nat} (ho : o.op = .unOp .xor t x) (hd : ∀ d, o.dst = some d → d < X.n) {n : Int} (hx : ev F x = .val (.int .u64 n)) (h : K (put o.dst (.val (.int .u64 (notV n))) F) C I M) : OtherOb X o F C I M K :=
  .un ho hd hx (fun w _ => rfl) h

/-- append(s, x...), x being empty. -/
theorem OtherOb.append0 (hE : EOK X.P X.E) {s x : Operand} {t u : Nat} (ho : o.op = .call { callee := .builtin .append, args := #[s, x], argTypes := #[t, u] }) (hd : ∀ d, o.dst = some d → d < X.n)
    {e : Nat} {ti tu ei : TI} (ht : X.E t = some ti) (hts : ti.sh = .slice e) (hu : X.E u = some tu) (hus : ∀ k, tu.sh ≠ .int k) (he : X.E e = some ei)
    {sa : Option Addr} {n c : Nat} (hs : ev F s = .val (.slice sa n c)) (hnc : n ≤ c)
    {xv : Value} (hx : ev F x = .val xv) (h0 : (∃ b c, xv = .slice b 0 c) ∨ xv = .string .empty)
    (h : K (put o.dst (.val (.slice sa n c)) F) C I M) : OtherOb X o F C I M K := by
  refine ⟨fun a w Q ⟨β, hR⟩ => ?_⟩
  obtain ⟨inf, z, hi, hi1, hi2, hi3, hi4⟩ := (hE _ _ he).inf
  obtain ⟨d, hud, hdd⟩ := (hE _ _ hu).und
  obtain ⟨dt, htd, hdt⟩ := (hE _ _ ht).und
  have hdt' : dt = .slice e := by
    rw [hts] at hdt
    cases dt <;> simp_all [shOf]
  subst hdt'
  have hrun := run_app0 (w := w) t u o.type e inf htd hud (fun k e' => hus k (by rw [← hdd, e']; rfl)) hi (sa := sa) hnc h0
  have es := eval_of_ev hR.fr hs
  have ex := eval_of_ev hR.fr hx
  refine done_vv hR hd (by rw [ho]; simp) ?_ h
  unfold execOp
  simp only [ho, resolve, invoke, builtin, Sem.run_bind, Sem.run_pure, Result.andThen_ok, List.map_toArray, List.map_cons, List.map_nil, es, ex, hrun]

theorem run_eqGuard_pointer (op : BinOp) (t : Nat) (x y : Operand) (p q : Option Addr) (P : Program) (w : World) : (eqGuard op t x y (.pointer p) (.pointer q)).run P w = .ok () w := by
  unfold eqGuard
  cases op <;> rfl

/-- 'p == nil'. -/
theorem OtherOb.eqNil (hE : EOK X.P X.E) {x y : Operand} {t t' e : Nat} (ho : o.op = .binOp .eql t x y t') (hd : ∀ d, o.dst = some d → d < X.n) {ti : TI} (ht : X.E t = some ti) (hts : ti.sh = .pointer e)
    {p : Option Addr} (hx : ev F x = .val (.pointer p)) (hy : ev F y = .val (.pointer none)) (h : K (put o.dst (.val (.bool p.isNone)) F) C I M) : OtherOb X o F C I M K := by
  obtain ⟨d, hud, hdd⟩ := (hE _ _ ht).und
  have h1 : d = .pointer e := by rw [hts] at hdd; cases d <;> simp_all [shOf]
  subst h1
  exact .bin ho hd hx hy (fun w => run_eqGuard_pointer ..) (fun w _ => run_eql_pointer_nil w t p (by simp [Program.pointee, hud])) h

/-- 'p != p'. -/
theorem OtherOb.neSame (hE : EOK X.P X.E) {x y : Operand} {t t' e : Nat} (ho : o.op = .binOp .neq t x y t') (hd : ∀ d, o.dst = some d → d < X.n) {ti te : TI} (ht : X.E t = some ti) (hts : ti.sh = .pointer e) (he : X.E e = some te)
    {p : Addr} (hx : ev F x = .val (.pointer (some p))) (hy : ev F y = .val (.pointer (some p))) (h : K (put o.dst (.val (.bool false)) F) C I M) : OtherOb X o F C I M K := by
  obtain ⟨d, hud, hdd⟩ := (hE _ _ ht).und
  have h1 : d = .pointer e := by rw [hts] at hdd; cases d <;> simp_all [shOf]
  subst h1
  obtain ⟨inf, z, hi, _⟩ := (hE _ _ he).inf
  exact .bin ho hd hx hy (fun w => run_eqGuard_pointer ..) (fun w _ => Lib.run_neq_ptr_same w p hud hi) h
end

/-! ### Functions without a body -/
theorem specX_same {P : Program} {f : Nat} {fn : Func} {e : Array Value → Sem Value} {args : List Value} {v : Value} {I : GH} {M : List Blk} (hf : P.funcs[f]? = some fn) (hname : (fn.name == "runtime.NumGoroutine") = false)
    (hb : fn.body.isNone = true) (hn : Extern.findNext fn = none) (he : Extern.find fn = some e) (hr : ∀ w, (e args.toArray).run P w = .ok v w) : Spec P f args I M fun r I' M' => r = v ∧ I' = I ∧ M' = M := by
  refine .inr fun w hw => ⟨v, w, I, M, ?_, ⟨rfl, rfl, rfl⟩, hw, fun _ _ h => h, fun _ _ h => .inl h, fun x hx => .inl ⟨x, hx, rfl⟩, fun _ _ _ => rfl, .refl _, Nat.le_refl _⟩
  rw [run_callFunc_extern hf hname hb hn he, hr]
  rfl

end Go.V

/-
  Walks: strings.Builder (copyCheck, WriteByte, WriteString, String), quote.plain, quote.put.
-/
set_option linter.unusedVariables false
set_option linter.unusedSimpArgs false
namespace Go.V
open Go Go.Proofs

def bytesV (l : List UInt8) : List Value := l.map fun b => .int .u8 b.toNat
/-- What a strings.Builder of the function's own holds. -/
structure Bd where
  used : Bool
  os : OS
  bs : List UInt8
def Bd.blk (b : Nat) (x : Bd) : Blk := ⟨b, .cells #[.pointer (bif x.used then some ⟨b, 0, none⟩ else none), x.os.val] 229 (0, 0)⟩
def Bd.M (b : Nat) (x : Bd) : List Blk := x.blk b :: x.os.blk 5
structure Bd.ok (x : Bd) : Prop where
  os : x.os.ok 1 (bytesV x.bs)
  ne : ∀ g, x.os.a = some g → x.bs ≠ []
def Bd.new : Bd := ⟨false, ⟨none, 0, 0, []⟩, []⟩
theorem Bd.new_ok : Bd.new.ok := ⟨⟨rfl, fun _ => ⟨rfl, rfl⟩, fun g h => by cases h⟩, fun g h => by cases h⟩
theorem Bd.ok.n {x : Bd} (h : x.ok) : x.os.n = x.bs.length := by
  have := h.os.len
  simp [bytesV] at this
  omega
def ptr (b : Nat) : Value := .pointer (some ⟨b, 0, none⟩)

theorem blk_rd {I : GH} {M : List Blk} {b T : Nat} {cs : List Value} (hM : (⟨b, .cells cs.toArray T (0, 0)⟩ : Blk) ∈ M) {k n : Nat} (h : k + n ≤ cs.length) : Rd I M ((⟨b, 0, none⟩ : Addr).add k) n ((cs.drop k).take n) := by
  rw [addr_add _ rfl]
  refine ⟨rfl, _, T, (0, 0), .inr ⟨_, hM, rfl, rfl⟩, ?_, ?_⟩
  · simp
  · simp
    omega

theorem NoEscape_spec {I : GH} {M : List Blk} (v : Value) : Spec Tryz.prog 216 [v] I M fun r I' M' => r = v ∧ I' = I ∧ M' = M :=
  specX_same Tryz.func216 (by kernel_rfl) (by kernel_rfl) (by kernel_rfl) (e := Extern.AbiNoEscape.same) (by kernel_rfl) (fun w => Lib.run_noEscape w _)
theorem IndexByteString_spec {I : GH} {M : List Blk} (s : ByteArray) (c : UInt8) : Spec Tryz.prog 253 [.string s, .int .u8 c.toNat] I M fun r I' M' => r = .int .i64 (Lib.indexByte s.data.toList c) ∧ I' = I ∧ M' = M :=
  specX_same Tryz.func253 (by kernel_rfl) (by kernel_rfl) (by kernel_rfl) (e := Extern.BytealgIndexByte.indexByte) (by kernel_rfl) (fun w => by
    have := Lib.run_indexByteString (P := Tryz.prog) s (c.toNat : Int) w
    simpa using this)
theorem IndexByteL_spec {I : GH} (s : ByteArray) (c : UInt8) : Spec Tryz.prog 238 [.string s, .int .u8 c.toNat] I [] fun r I' M' => r = .int .i64 (Lib.indexByte s.data.toList c) ∧ I' = I ∧ M' = [] := by
  refine spec_of_V [] TryzEOK Tryz.func238 rfl rfl rfl ?_
  intro B h0
  refine CallOb.mk [] [] _ (.refl _) (IndexByteString_spec s c) ?_
  rintro v I' M' - ⟨rfl, rfl, rfl⟩
  exact ⟨_, _, .refl, rfl, rfl, rfl⟩
theorem IndexByte_spec {I : GH} (s : ByteArray) (c : UInt8) : Spec Tryz.prog 224 [.string s, .int .u8 c.toNat] I [] fun r I' M' => r = .int .i64 (Lib.indexByte s.data.toList c) ∧ I' = I ∧ M' = [] := by
  refine spec_of_V [] TryzEOK Tryz.func224 rfl rfl rfl ?_
  intro B h0
  refine CallOb.mk [] [] _ (.refl _) (IndexByteL_spec s c) ?_
  rintro v I' M' - ⟨rfl, rfl, rfl⟩
  exact ⟨_, _, .refl, rfl, rfl, rfl⟩

theorem shape_of {I : GH} {M : List Blk} {w : World} (h : Holds I M w) {b T : Nat} {cs : Array Value} {fr : Nat × Nat} (hM : (⟨b, .cells cs T fr⟩ : Blk) ∈ M) : w.shape? b = some (T, cs.size) := by
  have := h.m _ hM
  simp only at this
  simp [World.shape?, this]

theorem copyCheck_spec {I : GH} (b : Nat) (x : Bd) : Spec Tryz.prog 203 [ptr b] I [x.blk b] fun r I' M' => r = .tuple #[] ∧ I' = I ∧ M' = [{ x with used := true : Bd }.blk b] := by
  obtain ⟨used, os, bs⟩ := x
  obtain ⟨inf, z, hi, hi1, _⟩ := (TryzEOK 229 _ rfl).inf
  refine spec_of_V [] TryzEOK Tryz.func203 rfl rfl rfl ?_
  intro B h0
  cases used with
  | false =>
    refine LoadOb.mk [.pointer none] (blk_rd (cs := [.pointer none, os.val]) (k := 0) (n := 1) (T := 229) (List.mem_singleton.2 rfl) (by simp)) ?_
    refine .other (OtherOb.eqNil TryzEOK rfl (by simp) rfl rfl rfl rfl ?_)
    refine CondOb.mk (fun _ => ?_) (fun h => by cases h)
    refine OtherOb.conv rfl (by simp) rfl (fun w hw => Lib.run_to_unsafe (t := 229) (e := 229) (cells := 2) w ⟨b, 0, none⟩ (by kernel_rfl) (by kernel_rfl) (j := inf) hi (by rw [hi1]; decide) (shape_of (cs := #[.pointer none, os.val]) hw (List.mem_singleton.2 rfl)) (by simp)) ?_
    refine CallOb.mk [Bd.blk b ⟨false, os, bs⟩] [] _ (by simp) (NoEscape_spec _) ?_
    rintro v I' M' - ⟨rfl, rfl, rfl⟩
    refine OtherOb.conv rfl (by simp) rfl (fun w hw => Lib.run_from_unsafe (u := 229) (e := 229) (cells := 2) w ⟨b, 0, none⟩ (by kernel_rfl) (by kernel_rfl) (j := inf) hi (shape_of (cs := #[.pointer none, os.val]) hw (List.mem_singleton.2 rfl)) (by kernel_rfl)) ?_
    refine StoreOb.add [] [] _ _ rfl (Nat.le_of_ble_eq_true rfl) rfl ?_
    exact ⟨_, _, .refl, rfl, rfl, rfl⟩
  | true =>
    refine LoadOb.mk [ptr b] (blk_rd (cs := [ptr b, os.val]) (k := 0) (n := 1) (T := 229) (List.mem_singleton.2 rfl) (by simp)) ?_
    refine .other (OtherOb.eqNil TryzEOK rfl (by simp) rfl rfl rfl rfl ?_)
    refine CondOb.mk (fun h => by cases h) (fun _ => ?_)
    refine LoadOb.mk [ptr b] (blk_rd (cs := [ptr b, os.val]) (k := 0) (n := 1) (T := 229) (List.mem_singleton.2 rfl) (by simp)) ?_
    refine .other (OtherOb.neSame TryzEOK rfl (by simp) rfl rfl rfl rfl rfl ?_)
    refine CondOb.mk (fun h => by cases h) (fun _ => ?_)
    exact ⟨_, _, .refl, rfl, rfl, rfl⟩

theorem WriteByte_spec {I : GH} (b : Nat) {x : Bd} (hx : x.ok) (c : UInt8) (hl : x.bs.length < 70368744177664) : Spec Tryz.prog 212 [ptr b, .int .u8 c.toNat] I (x.M b)
    fun r I' M' => r = .nilIface ∧ I' = I ∧ ∃ y : Bd, y.ok ∧ y.bs = x.bs ++ [c] ∧ M' = y.M b := by
  refine spec_of_V [] TryzEOK Tryz.func212 rfl rfl rfl ?_
  intro B h0
  have hn := hx.n
  refine CallOb.mk [x.blk b] (x.os.blk 5) _ (.refl _) (copyCheck_spec b x) ?_
  rintro v I' M' - ⟨rfl, rfl, rfl⟩
  refine LoadOb.mk [x.os.val] (blk_rd (cs := [ptr b, x.os.val]) (k := 1) (n := 1) (T := 229) (.head _) (by simp)) ?_
  refine AllocOb.mk fun g hg hgM => ?_
  refine OtherOb.append TryzEOK rfl (by simp) (e := 5) rfl rfl rfl x.os (xs := bytesV x.bs) hx.os rfl (m := 1) rfl (news := [.int .u8 c.toNat]) (by decide) ?_ rfl (Mr := [⟨g, .cells #[.int .u8 c.toNat] 5 (0, 0)⟩, { x with used := true : Bd }.blk b]) ?_ ?_ ?_ ?_
  · exact blk_rd (cs := [.int .u8 c.toNat]) (k := 0) (n := 1) (T := 5) (.head _) (by simp)
  · exact List.perm_append_comm (l₁ := [_, _]) (l₂ := x.os.blk 5)
  · simp only [maxLen]; omega
  · show (x.os.n + 1) * 1 ≤ _
    omega
  · intro g' c' cur h1 h2 h3 h4
    refine StoreOb.add [⟨g', .cells cur.toArray 5 (0, 0)⟩, ⟨g, .cells #[.int .u8 c.toNat] 5 (0, 0)⟩] [] _ _ rfl (Nat.le_of_ble_eq_true rfl) rfl ?_
    refine ⟨_, _, .perm (M1 := [⟨g, .cells #[.int .u8 c.toNat] 5 (0, 0)⟩] ++ Bd.M b ⟨true, ⟨some g', x.os.n + 1, c', cur⟩, x.bs ++ [c]⟩) ?_ (.sub (List.sublist_append_right _ _) .refl), rfl, rfl, _, ?_, rfl, rfl⟩
    · exact List.perm_append_comm (l₁ := [_]) (l₂ := [_, _])
    · refine ⟨⟨?_, fun h => by simp at h, ?_⟩, by simp⟩
      · simp [bytesV, hn]
      · intro g2 hg2
        refine ⟨h1, h2, h3, ?_⟩
        rw [h4]
        simp [bytesV]

theorem WriteString_spec {I : GH} (b : Nat) {x : Bd} (hx : x.ok) (s : ByteArray) (hl : x.bs.length + s.size ≤ 70368744177664) : Spec Tryz.prog 192 [ptr b, .string s] I (x.M b)
    fun r I' M' => r = .tuple #[.int .i64 s.size, .nilIface] ∧ I' = I ∧ ∃ y : Bd, y.ok ∧ y.bs = x.bs ++ s.data.toList ∧ M' = y.M b := by
  refine spec_of_V [] TryzEOK Tryz.func192 rfl rfl rfl ?_
  intro B h0
  have hn := hx.n
  refine CallOb.mk [x.blk b] (x.os.blk 5) _ (.refl _) (copyCheck_spec b x) ?_
  rintro v I' M' - ⟨rfl, rfl, rfl⟩
  refine LoadOb.mk [x.os.val] (blk_rd (cs := [ptr b, x.os.val]) (k := 1) (n := 1) (T := 229) (.head _) (by simp)) ?_
  by_cases hs : s.size = 0
  · have he : s = .empty := ByteArray.ext (Array.eq_empty_of_size_eq_zero hs)
    subst he
    have hnc : x.os.n ≤ x.os.c := by
      cases ha : x.os.a with
      | none => obtain ⟨h1, h2⟩ := hx.os.nil ha; omega
      | some g => exact (hx.os.cap g ha).2.1
    refine OtherOb.append0 TryzEOK rfl (by simp) (e := 5) rfl rfl rfl (by simp) rfl rfl hnc rfl (.inr rfl) ?_
    refine StoreOb.add [] (x.os.blk 5) _ _ rfl (Nat.le_of_ble_eq_true rfl) rfl ?_
    exact ⟨_, _, .refl, rfl, rfl, ⟨true, x.os, x.bs⟩, ⟨hx.os, hx.ne⟩, by simp, rfl⟩
  · refine OtherOb.appendS TryzEOK rfl (by simp) (e := 5) rfl rfl rfl rfl rfl rfl x.os (xs := bytesV x.bs) hx.os rfl rfl (by omega) (Mr := [{ x with used := true : Bd }.blk b]) (List.perm_append_comm (l₁ := [_])) ?_ ?_ ?_
    · simp only [maxLen]; omega
    · show (x.os.n + s.size) * 1 ≤ _
      omega
    · intro g' c' cur h1 h2 h3 h4
      refine StoreOb.add [⟨g', .cells cur.toArray 5 (0, 0)⟩] [] _ _ rfl (Nat.le_of_ble_eq_true rfl) rfl ?_
      refine ⟨_, _, .perm (M1 := Bd.M b ⟨true, ⟨some g', x.os.n + s.size, c', cur⟩, x.bs ++ s.data.toList⟩) ?_ .refl, rfl, rfl, _, ?_, rfl, rfl⟩
      · exact List.perm_append_comm (l₁ := [_]) (l₂ := [_])
      · refine ⟨⟨?_, fun h => by simp at h, ?_⟩, fun g _ h => ?_⟩
        · simp [bytesV, hn]
        · intro g2 hg2
          refine ⟨h1, h2, h3, ?_⟩
          rw [h4]
          simp [bytesV, byteVals]
        · have h5 := congrArg List.length (List.append_eq_nil_iff.1 h).2
          exact hs (by simpa using h5)

theorem BString_spec {I : GH} (b : Nat) {x : Bd} (hx : x.ok) (hl : x.bs.length ≤ 70368744177664) : Spec Tryz.prog 193 [ptr b] I (x.M b)
    fun r I' M' => r = .string ⟨x.bs.toArray⟩ ∧ I' = I ∧ M' = [] := by
  refine spec_of_V [] TryzEOK Tryz.func193 rfl rfl rfl ?_
  intro B h0
  have hn := hx.n
  obtain ⟨used, ⟨a, n, c, cur⟩, bs⟩ := x
  simp only at hn hl
  subst hn
  refine CodeOb.draw TryzEOK rfl rfl rfl ?_
  cases a with
  | none =>
    obtain ⟨h1, h2⟩ := hx.os.nil rfl
    simp only at h1 h2
    have hbs : bs = [] := List.eq_nil_of_length_eq_zero h1
    subst hbs
    subst h2
    refine LoadOb.mk [.slice none 0 0] (blk_rd (cs := [.pointer (bif used then some ⟨b, 0, none⟩ else none), .slice none 0 0]) (k := 1) (n := 1) (T := 229) (.head _) (by simp)) ?_
    refine LoadOb.mk [.slice none 0 0] (blk_rd (cs := [.pointer (bif used then some ⟨b, 0, none⟩ else none), .slice none 0 0]) (k := 1) (n := 1) (T := 229) (.head _) (by simp)) ?_
    refine OtherOb.ustring0 rfl (by simp) rfl rfl ?_
    exact ⟨_, _, .sub (List.nil_sublist _) .refl, rfl, rfl, rfl⟩
  | some g =>
    obtain ⟨h1, h2, h3, h4⟩ := hx.os.cap g rfl
    have hne := hx.ne g rfl
    simp only at h1 h2 h3 h4 hne
    have hpos : bs.length ≠ 0 := fun h => hne (List.eq_nil_of_length_eq_zero h)
    refine LoadOb.mk [.slice (some ⟨g, 0, none⟩) bs.length c] (blk_rd (cs := [.pointer (bif used then some ⟨b, 0, none⟩ else none), .slice (some ⟨g, 0, none⟩) bs.length c]) (k := 1) (n := 1) (T := 229) (.head _) (by simp)) ?_
    refine DivOb.mk (by omega) ?_
    refine LoadOb.mk [.slice (some ⟨g, 0, none⟩) bs.length c] (blk_rd (cs := [.pointer (bif used then some ⟨b, 0, none⟩ else none), .slice (some ⟨g, 0, none⟩) bs.length c]) (k := 1) (n := 1) (T := 229) (.head _) (by simp)) ?_
    refine OtherOb.ustring TryzEOK rfl (by simp) (e := 5) rfl rfl rfl rfl (l := bs) (g := g) (cs := cur.toArray) rfl rfl hne (by omega) (Mr := [Bd.blk b ⟨used, ⟨some g, bs.length, c, cur⟩, bs⟩]) (List.perm_append_comm (l₁ := [_]) (l₂ := [_])) ?_ ?_
    · rw [Nat.mul_one] at h4
      exact h4
    · exact ⟨_, _, .sub (List.nil_sublist _) .refl, rfl, rfl, rfl⟩

/-! ### A byte's sign -/
def plainB (c : UInt8) (left : ByteArray) : Bool := decide ((32 : Int) ≤ c.toNat) && (decide ((c.toNat : Int) ≤ 126) && (!decide ((c.toNat : Int) = 92) && decide (Lib.indexByte left.data.toList c < 0)))
theorem plain_spec {I : GH} (c : UInt8) (left : ByteArray) : Spec Tryz.prog 254 [.int .u8 c.toNat, .string left] I [] fun r I' M' => r = .bool (plainB c left) ∧ I' = I ∧ M' = [] := by
  refine spec_of_V [] TryzEOK Tryz.func254 rfl rfl rfl ?_
  intro B h0
  refine GuardOb.mk (fun h1 => ?_) (fun h1 => ?_)
  · refine GuardOb.mk (fun h2 => ?_) (fun h2 => ?_)
    · refine GuardOb.mk (fun h3 => ?_) (fun h3 => ?_)
      · refine CallOb.mk [] [] _ (.refl _) (IndexByte_spec left c) ?_
        rintro v I' M' - ⟨rfl, rfl, rfl⟩
        refine ⟨_, _, .refl, ?_, rfl, rfl⟩
        simp only [plainB, h1, h2, h3, Bool.true_and]
      · refine ⟨_, _, .refl, ?_, rfl, rfl⟩
        simp only [plainB, h1, h2, h3, Bool.true_and, Bool.not_true, Bool.false_and]
    · refine ⟨_, _, .refl, ?_, rfl, rfl⟩
      simp only [plainB, h1, h2, Bool.true_and, Bool.not_true, Bool.false_and]
  · refine ⟨_, _, .refl, ?_, rfl, rfl⟩
    simp only [plainB, h1, Bool.true_and, Bool.not_true, Bool.false_and]

def hexL : ByteArray := ⟨#[48, 49, 50, 51, 52, 53, 54, 55, 56, 57, 97, 98, 99, 100, 101, 102]⟩
def hexd (n : Nat) : UInt8 := hexL.data.toList.getD n 0
def putB (c : UInt8) (left : ByteArray) : List UInt8 :=
  bif plainB c left then [c] else
  bif decide ((c.toNat : Int) = 10) then [92, 110] else
  bif decide ((c.toNat : Int) = 13) then [92, 114] else
  bif decide ((c.toNat : Int) = 9) then [92, 116] else
  bif decide ((c.toNat : Int) = 92) || decide ((0 : Int) ≤ Lib.indexByte left.data.toList c) then [92, c] else [92, 120, hexd (c.toNat / 16), hexd (c.toNat % 16)]
theorem putB_len (c : UInt8) (left : ByteArray) : (putB c left).length ≤ 4 := by
  unfold putB
  cases plainB c left <;> cases decide ((c.toNat : Int) = 10) <;> cases decide ((c.toNat : Int) = 13) <;> cases decide ((c.toNat : Int) = 9) <;> cases (decide ((c.toNat : Int) = 92) || decide ((0 : Int) ≤ Lib.indexByte left.data.toList c)) <;> simp
theorem and15 : ∀ n : Nat, n < 256 → IntKind.u8.wrap ((BitVec.ofInt 8 (n : Int)) &&& (BitVec.ofInt 8 15)).toNat = ((n % 16 : Nat) : Int) := by decide +kernel
theorem hex_at {j : Nat} (hj : j < hexL.size) : hexL[j] = hexd j := by
  have : j < hexL.data.toList.length := hj
  simp only [hexd, List.getD_eq_getElem?_getD, List.getElem?_eq_getElem this, Option.getD_some]
  rfl

set_option maxHeartbeats 2000000 in
theorem put_spec {I : GH} (b : Nat) {x : Bd} (hx : x.ok) (c : UInt8) (left : ByteArray) (hl : x.bs.length ≤ 70368744177600) : Spec Tryz.prog 241 [ptr b, .int .u8 c.toNat, .string left] I (x.M b)
    fun r I' M' => I' = I ∧ ∃ y : Bd, y.ok ∧ y.bs = x.bs ++ putB c left ∧ M' = y.M b := by
  refine spec_of_V [] TryzEOK Tryz.func241 rfl rfl rfl ?_
  intro B h0
  refine CallOb.mk [] (x.M b) _ (.refl _) (plain_spec c left) ?_
  rintro v I' M' - ⟨rfl, rfl, rfl⟩
  refine CondOb.mk (fun h1 => ?_) (fun h1 => ?_)
  · refine CallOb.mk (x.M b) [] _ (by simp) (WriteByte_spec b hx c (by omega)) ?_
    rintro v I' M' - ⟨rfl, rfl, y, hy, hyb, rfl⟩
    refine ⟨_, _, .refl, rfl, y, hy, ?_, by simp⟩
    rw [hyb, putB, h1]
    rfl
  · refine CondOb.mk (fun h2 => ?_) (fun h2 => ?_)
    · refine CallOb.mk (x.M b) [] _ (by simp) (WriteString_spec b hx _ (by show _ + 2 ≤ _; omega)) ?_
      rintro v I' M' - ⟨rfl, rfl, y, hy, hyb, rfl⟩
      refine ⟨_, _, .refl, rfl, y, hy, ?_, by simp⟩
      rw [hyb, putB, h1, h2]
      rfl
    · refine CondOb.mk (fun h3 => ?_) (fun h3 => ?_)
      · refine CallOb.mk (x.M b) [] _ (by simp) (WriteString_spec b hx _ (by show _ + 2 ≤ _; omega)) ?_
        rintro v I' M' - ⟨rfl, rfl, y, hy, hyb, rfl⟩
        refine ⟨_, _, .refl, rfl, y, hy, ?_, by simp⟩
        rw [hyb, putB, h1, h2, h3]
        rfl
      · refine CondOb.mk (fun h4 => ?_) (fun h4 => ?_)
        · refine CallOb.mk (x.M b) [] _ (by simp) (WriteString_spec b hx _ (by show _ + 2 ≤ _; omega)) ?_
          rintro v I' M' - ⟨rfl, rfl, y, hy, hyb, rfl⟩
          refine ⟨_, _, .refl, rfl, y, hy, ?_, by simp⟩
          rw [hyb, putB, h1, h2, h3, h4]
          rfl
        · have two : ∀ (I1 : GH), (decide ((c.toNat : Int) = 92) || decide ((0 : Int) ≤ Lib.indexByte left.data.toList c)) = true → putB c left = [92, c] := fun _ h => by
            rw [putB, h1, h2, h3, h4, h]
            rfl
          have other : (decide ((c.toNat : Int) = 92) || decide ((0 : Int) ≤ Lib.indexByte left.data.toList c)) = false → putB c left = [92, 120, hexd (c.toNat / 16), hexd (c.toNat % 16)] := fun h => by
            rw [putB, h1, h2, h3, h4, h]
            rfl
          have hc := c.toNat_lt
          refine GuardOb.mk (fun h5 => ?_) (fun h5 => ?_)
          · refine CallOb.mk [] (x.M b) _ (.refl _) (IndexByte_spec left c) ?_
            rintro v I' M' - ⟨rfl, rfl, rfl⟩
            refine CondOb.mk (fun h6 => ?_) (fun h6 => ?_)
            · refine CallOb.mk (x.M b) [] _ (by simp) (WriteByte_spec b hx 92 (by omega)) ?_
              rintro v I' M' - ⟨rfl, rfl, y, hy, hyb, rfl⟩
              refine CallOb.mk (y.M b) [] _ (by simp) (WriteByte_spec b hy c (by rw [hyb]; simp; omega)) ?_
              rintro v I' M' - ⟨rfl, rfl, z, hz, hzb, rfl⟩
              refine ⟨_, _, .refl, rfl, z, hz, ?_, by simp⟩
              rw [hzb, hyb, two I' (by rw [h5]; exact h6)]
              simp
            · refine CallOb.mk (x.M b) [] _ (by simp) (WriteString_spec b hx _ (by show _ + 2 ≤ _; omega)) ?_
              rintro v I' M' - ⟨rfl, rfl, y, hy, hyb, rfl⟩
              have hyl : y.bs.length = x.bs.length + 2 := by rw [hyb]; simp
              refine ShOb.mk 4 rfl ?_
              refine StrOb.mk (s := hexL) (c.toNat / 16) ?_ (by show _ < 16; omega) ?_
              · show (c.toNat : Int).fdiv (2 ^ (min 4 (IntKind.u8.bits))) = _
                have e16 : ((2 : Int) ^ (min 4 IntKind.u8.bits)) = 16 := by decide
                rw [e16, Int.fdiv_eq_ediv_of_nonneg _ (by omega)]
                omega
              rw [hex_at]
              refine CallOb.mk (y.M b) [] _ (by simp) (WriteByte_spec b hy (hexd (c.toNat / 16)) (by omega)) ?_
              rintro v I' M' - ⟨rfl, rfl, z, hz, hzb, rfl⟩
              have hzl : z.bs.length = x.bs.length + 3 := by rw [hzb]; simp; omega
              refine StrOb.mk (s := hexL) (c.toNat % 16) (and15 c.toNat hc) (by show _ < 16; omega) ?_
              rw [hex_at]
              refine CallOb.mk (z.M b) [] _ (by simp) (WriteByte_spec b hz (hexd (c.toNat % 16)) (by omega)) ?_
              rintro v I' M' - ⟨rfl, rfl, u, hu, hub, rfl⟩
              refine ⟨_, _, .refl, rfl, u, hu, ?_, by simp⟩
              rw [hub, hzb, hyb, other (by rw [h5]; exact h6)]
              simp
          · refine CallOb.mk (x.M b) [] _ (by simp) (WriteByte_spec b hx 92 (by omega)) ?_
            rintro v I' M' - ⟨rfl, rfl, y, hy, hyb, rfl⟩
            refine CallOb.mk (y.M b) [] _ (by simp) (WriteByte_spec b hy c (by rw [hyb]; simp; omega)) ?_
            rintro v I' M' - ⟨rfl, rfl, z, hz, hzb, rfl⟩
            refine ⟨_, _, .refl, rfl, z, hz, ?_, by simp⟩
            rw [hzb, hyb, two I' (by rw [h5]; rfl)]
            simp
end Go.V

/-
  Walks: name.Show (numbers below 100), print.wraps, bits.TrailingZeros64, set.Not, set.All, set.each, set.Runs.
-/
set_option linter.unusedVariables false
set_option linter.unusedSimpArgs false
namespace Go.V
open Go Go.Proofs

/-! ### Numbers' texts -/
def dig (n : Nat) : List UInt8 := bif Nat.blt n 10 then [UInt8.ofNat (48 + n)] else [UInt8.ofNat (48 + n / 10), UInt8.ofNat (48 + n % 10)]
def digS (n : Nat) : ByteArray := ⟨(dig n).toArray⟩
def lowL : ByteArray := ⟨((List.range 10).map (fun n => UInt8.ofNat (48 + n)) ++ (List.range 26).map (fun n => UInt8.ofNat (97 + n))).toArray⟩
def smallL : ByteArray := ⟨((List.range 100).flatMap fun n => [UInt8.ofNat (48 + n / 10), UInt8.ofNat (48 + n % 10)]).toArray⟩
theorem low_at : ∀ n : Fin 10, (lowL.extract n.val (n.val + 1)).data.toList = dig n.val := by decide +kernel
theorem small_at : ∀ n : Fin 100, 10 ≤ n.val → (smallL.extract (n.val * 2) (n.val * 2 + 2)).data.toList = dig n.val := by decide +kernel
theorem bytes_eq {a b : ByteArray} (h : a.data.toList = b.data.toList) : a = b := ByteArray.ext (Array.ext' h)
theorem dig_len (n : Nat) : (dig n).length ≤ 2 := by
  unfold dig
  cases Nat.blt n 10 <;> simp

set_option maxRecDepth 20000 in
theorem small_spec {I : GH} (n : Nat) (hn : n < 100) : Spec Tryz.prog 271 [.int .i64 n] I [] fun r I' M' => r = .string (digS n) ∧ I' = I ∧ M' = [] := by
  refine spec_of_V [] TryzEOK Tryz.func271 rfl rfl rfl ?_
  intro B h0
  refine CondOb.mk (fun h => ?_) (fun h => ?_)
  · have hlt : n < 10 := by simp at h; omega
    refine ArithOb.mk ((n + 1 : Nat) : Int) (by rw [wrap_i64 ⟨by omega, by omega⟩]; omega) ?_
    refine SliceOb.mk n (n + 1) rfl rfl (by omega) (by show _ ≤ 36; omega) ?_
    refine ⟨_, _, .refl, ?_, rfl, rfl⟩
    have : lowL.extract n (n + 1) = digS n := bytes_eq (low_at ⟨n, hlt⟩)
    rw [← this]
    rfl
  · have hge : 10 ≤ n := by simp at h; omega
    refine ArithOb.mk ((n * 2 : Nat) : Int) (by rw [wrap_i64 ⟨by omega, by omega⟩]; omega) ?_
    refine ArithOb.mk ((n * 2 : Nat) : Int) (by rw [wrap_i64 ⟨by omega, by omega⟩]; omega) ?_
    refine ArithOb.mk ((n * 2 + 2 : Nat) : Int) (by rw [wrap_i64 ⟨by omega, by omega⟩]; omega) ?_
    refine SliceOb.mk (n * 2) (n * 2 + 2) rfl rfl (by omega) (by show _ ≤ 200; omega) ?_
    refine ⟨_, _, .refl, ?_, rfl, rfl⟩
    have : smallL.extract (n * 2) (n * 2 + 2) = digS n := bytes_eq (small_at ⟨n, hn⟩ hge)
    rw [← this]
    rfl
theorem FormatInt_spec {I : GH} (n : Nat) (hn : n < 100) : Spec Tryz.prog 269 [.int .i64 n, .int .i64 10] I [] fun r I' M' => r = .string (digS n) ∧ I' = I ∧ M' = [] := by
  refine spec_of_V [] TryzEOK Tryz.func269 rfl rfl rfl ?_
  intro B h0
  refine CondOb.mk (fun h => ?_) (fun h => by cases h)
  refine GuardOb.mk (fun h => ?_) (fun h => by simp at h; try omega)
  refine CondOb.mk (fun h => ?_) (fun h => by simp at h; try omega)
  refine CallOb.mk [] [] _ (.refl _) (small_spec n hn) ?_
  rintro v I' M' - ⟨rfl, rfl, rfl⟩
  exact ⟨_, _, .refl, rfl, rfl, rfl⟩
theorem Itoa1_spec {I : GH} (n : Nat) (hn : n < 100) : Spec Tryz.prog 264 [.int .i64 n] I [] fun r I' M' => r = .string (digS n) ∧ I' = I ∧ M' = [] := by
  refine spec_of_V [] TryzEOK Tryz.func264 rfl rfl rfl ?_
  intro B h0
  refine CallOb.mk [] [] _ (.refl _) (FormatInt_spec n hn) ?_
  rintro v I' M' - ⟨rfl, rfl, rfl⟩
  exact ⟨_, _, .refl, rfl, rfl, rfl⟩
theorem Itoa_spec {I : GH} (n : Nat) (hn : n < 100) : Spec Tryz.prog 256 [.int .i64 n] I [] fun r I' M' => r = .string (digS n) ∧ I' = I ∧ M' = [] := by
  refine spec_of_V [] TryzEOK Tryz.func256 rfl rfl rfl ?_
  intro B h0
  refine CallOb.mk [] [] _ (.refl _) (Itoa1_spec n hn) ?_
  rintro v I' M' - ⟨rfl, rfl, rfl⟩
  exact ⟨_, _, .refl, rfl, rfl, rfl⟩
theorem Show_spec {I : GH} (n : Nat) (hn : n < 100) : Spec Tryz.prog 243 [.int .i64 n] I [] fun r I' M' => r = .string (digS n) ∧ I' = I ∧ M' = [] := by
  refine spec_of_V [] TryzEOK Tryz.func243 rfl rfl rfl ?_
  intro B h0
  refine CallOb.mk [] [] _ (.refl _) (Itoa_spec n hn) ?_
  rintro v I' M' - ⟨rfl, rfl, rfl⟩
  exact ⟨_, _, .refl, rfl, rfl, rfl⟩

/-! ### wraps -/
def wrapsV (node kid : Int) : Bool :=
  bif decide (node = 5) then decide (kid = 5) else
  bif decide (node = 4) || (decide (node = 7) || decide (node = 8)) then decide (kid = 4) || decide (kid = 5) else
  bif decide (node = 6) then decide (kid = 4) || (decide (kid = 5) || (decide (kid = 6) || (decide (kid = 7) || decide (kid = 8)))) else false

theorem wraps_spec {I : GH} (a b : Int) : Spec Tryz.prog 214 [.int .u8 a, .int .u8 b] I [] fun r I' M' => r = .bool (wrapsV a b) ∧ I' = I ∧ M' = [] := by
  refine spec_of_V [] TryzEOK Tryz.func214 rfl rfl rfl ?_
  intro B h0
  refine CondOb.mk (fun h1 => ?_) (fun h1 => ?_)
  · refine ⟨_, _, .refl, ?_, rfl, rfl⟩
    simp only [wrapsV, h1]
    rfl
  · have two : ∀ (I1 : GH) (h : (decide (a = 4) || (decide (a = 7) || decide (a = 8))) = true), wrapsV a b = (decide (b = 4) || decide (b = 5)) := fun _ h => by
      simp only [wrapsV, h1, h]
      rfl
    have two' : (decide (a = 4) || (decide (a = 7) || decide (a = 8))) = true → GuardOb (decide (b = 4)) false (RetOb [] I [] fun I' M' => Value.bool (decide (b = 5)) = .bool (wrapsV a b) ∧ I' = I ∧ M' = []) (RetOb [] I [] fun I' M' => Value.bool true = .bool (wrapsV a b) ∧ I' = I ∧ M' = []) := fun h => by
      refine GuardOb.mk (fun h4 => ?_) (fun h4 => ?_)
      · refine ⟨_, _, .refl, ?_, rfl, rfl⟩
        rw [two I h, h4]
        rfl
      · refine ⟨_, _, .refl, ?_, rfl, rfl⟩
        rw [two I h, h4]
        rfl
    refine CondOb.mk (fun h2 => ?_) (fun h2 => ?_)
    · refine CondOb.mk (fun _ => ?_) (fun h => by rw [h2] at h; cases h)
      exact two' (by rw [h2]; rfl)
    · refine CondOb.mk (fun h3 => ?_) (fun h3 => ?_)
      · refine CondOb.mk (fun _ => ?_) (fun h => by rw [h3] at h; cases h)
        exact two' (by rw [h3]; simp)
      · refine CondOb.mk (fun h4 => ?_) (fun h4 => ?_)
        · exact two' (by rw [h4]; simp)
        · have hw : wrapsV a b = (bif decide (a = 6) then decide (b = 4) || (decide (b = 5) || (decide (b = 6) || (decide (b = 7) || decide (b = 8)))) else false) := by
            simp only [wrapsV, h1, h2, h3, h4]
            rfl
          refine CondOb.mk (fun h5 => ?_) (fun h5 => ?_)
          · rw [h5] at hw
            simp only [cond_true] at hw
            refine GuardOb.mk (fun k1 => ?_) (fun k1 => ?_)
            · refine GuardOb.mk (fun k2 => ?_) (fun k2 => ?_)
              · refine GuardOb.mk (fun k3 => ?_) (fun k3 => ?_)
                · refine GuardOb.mk (fun k4 => ?_) (fun k4 => ?_)
                  · refine ⟨_, _, .refl, ?_, rfl, rfl⟩
                    rw [hw, k1, k2, k3, k4]
                    rfl
                  · refine ⟨_, _, .refl, ?_, rfl, rfl⟩
                    rw [hw, k1, k2, k3, k4]
                    rfl
                · refine ⟨_, _, .refl, ?_, rfl, rfl⟩
                  rw [hw, k1, k2, k3]
                  rfl
              · refine ⟨_, _, .refl, ?_, rfl, rfl⟩
                rw [hw, k1, k2]
                rfl
            · refine ⟨_, _, .refl, ?_, rfl, rfl⟩
              rw [hw, k1]
              rfl
          · refine ⟨_, _, .refl, ?_, rfl, rfl⟩
            rw [hw, h5]
            rfl
end Go.V

/-
  Walks: bits.TrailingZeros64, set.Not, set.All, set.each, set.Runs.
-/
set_option linter.unusedVariables false
set_option linter.unusedSimpArgs false
namespace Go.V
open Go Go.Proofs

/-! ### Words -/
theorem wrap_u64 (x : Int) : u64ok (IntKind.u64.wrap x) := by
  unfold IntKind.wrap u64ok
  simp only [IntKind.bits, IntKind.signed]
  simp
  omega
theorem wrap_u8 (x : Int) : 0 ≤ IntKind.u8.wrap x ∧ IntKind.u8.wrap x < 256 := by
  unfold IntKind.wrap
  simp only [IntKind.bits, IntKind.signed]
  simp
  omega
theorem wrap_u64_id {x : Int} (h : u64ok x) : IntKind.u64.wrap x = x := by
  obtain ⟨h1, h2⟩ := h
  unfold IntKind.wrap
  simp only [IntKind.bits, IntKind.signed]
  simp
  omega
/-- The table of de Bruijn's that bits.TrailingZeros64 reads. -/
def HasDeb (I : GH) (deb : List Int) : Prop := deb.length = 64 ∧ (∀ x ∈ deb, 0 ≤ x ∧ x < 256) ∧ ∃ T fr, I 4 = some (.cells (deb.map (Value.int .u8)).toArray T fr)
theorem HasDeb.rd {I : GH} {deb : List Int} (h : HasDeb I deb) (M : List Blk) {j : Nat} (hj : j < 64) : Rd I M (Addr.add ⟨4, 0, none⟩ (j * 1)) 1 [.int .u8 (deb.getD j 0)] := by
  obtain ⟨hl, _, T, fr, h⟩ := h
  rw [addr_add _ rfl]
  refine ⟨rfl, _, T, fr, .inl h, ?_, rfl⟩
  have h1 : j < (deb.map (Value.int .u8)).length := by simp [hl, hj]
  have h2 : j < deb.length := by omega
  simp only [Nat.zero_add, Nat.mul_one]
  rw [List.drop_eq_getElem_cons h1, List.take_succ_cons, List.take_zero]
  simp [List.getD_eq_getElem?_getD, h2]
theorem HasDeb.at {I : GH} {deb : List Int} (h : HasDeb I deb) (j : Nat) : 0 ≤ deb.getD j 0 ∧ deb.getD j 0 < 256 := by
  rw [List.getD_eq_getElem?_getD]
  by_cases hj : j < deb.length
  · rw [List.getElem?_eq_getElem hj]
    exact h.2.1 _ (List.getElem_mem hj)
  · simp [hj]

def andV (x y : Int) : Int := IntKind.u64.wrap (BitVec.ofInt 64 x &&& BitVec.ofInt 64 y).toNat
def tzA (x : Int) : Int := IntKind.u64.wrap (andV x (IntKind.u64.wrap (0 - x)) * 285870213051353865)
def tz64 (deb : List Int) (x : Int) : Int := bif decide (x = 0) then 64 else deb.getD ((tzA x).toNat / 2 ^ 58) 0
theorem tz64_ok {I : GH} {deb : List Int} (h : HasDeb I deb) (x : Int) : 0 ≤ tz64 deb x ∧ tz64 deb x < 256 := by
  unfold tz64
  cases decide (x = 0)
  · exact h.at _
  · simp

theorem TZ_spec {I : GH} {deb : List Int} (hb : HasDeb I deb) (x : Int) : Spec Tryz.prog 263 [.int .u64 x] I [] fun r I' M' => r = .int .i64 (tz64 deb x) ∧ I' = I ∧ M' = [] := by
  refine spec_of_V [] TryzEOK Tryz.func263 rfl rfl rfl ?_
  intro B h0
  refine CondOb.mk (fun h => ?_) (fun h => ?_)
  · refine ⟨_, _, .refl, ?_, rfl, rfl⟩
    simp only [tz64, h]
    rfl
  · have ha := wrap_u64 (andV x (IntKind.u64.wrap (0 - x)) * 285870213051353865)
    refine ArithOb.mk _ rfl ?_
    refine ArithOb.mk (tzA x) rfl ?_
    refine ShOb.mk 58 rfl ?_
    have e1 : ((2 : Int) ^ (min 58 IntKind.u64.bits)) = 2 ^ 58 := by decide
    rw [e1]
    obtain ⟨p1, p2⟩ := ha
    have e2 : (tzA x).fdiv (2 ^ 58) = (((tzA x).toNat / 2 ^ 58 : Nat) : Int) := by
      rw [Int.fdiv_eq_ediv_of_nonneg _ (by decide)]
      have : tzA x = ((tzA x).toNat : Int) := (Int.toNat_of_nonneg p1).symm
      omega
    rw [e2]
    have hj : (tzA x).toNat / 2 ^ 58 < 64 := by
      have : tzA x < 18446744073709551616 := p2
      omega
    refine ArrOb.mk ((tzA x).toNat / 2 ^ 58) rfl hj ?_
    refine LoadOb.mk [.int .u8 (deb.getD ((tzA x).toNat / 2 ^ 58) 0)] (hb.rd _ hj) ?_
    have hd := hb.at ((tzA x).toNat / 2 ^ 58)
    refine ArithOb.mk (deb.getD ((tzA x).toNat / 2 ^ 58) 0) (wrap_i64 ⟨by omega, by omega⟩) ?_
    refine ⟨_, _, .refl, ?_, rfl, rfl⟩
    simp only [tz64, h]
    rfl

/-! ### Not, All -/
def notC (a b c d : Int) : Nat → List Value
  | 0 => [.int .u64 (a), .int .u64 (b), .int .u64 (c), .int .u64 (d)]
  | 1 => [.int .u64 (notV a), .int .u64 (b), .int .u64 (c), .int .u64 (d)]
  | 2 => [.int .u64 (notV a), .int .u64 (notV b), .int .u64 (c), .int .u64 (d)]
  | 3 => [.int .u64 (notV a), .int .u64 (notV b), .int .u64 (notV c), .int .u64 (d)]
  | _ => [.int .u64 (notV a), .int .u64 (notV b), .int .u64 (notV c), .int .u64 (notV d)]
theorem Not_spec {I : GH} (a b c d : Int) : Spec Tryz.prog 251 [.agg #[.int .u64 a, .int .u64 b, .int .u64 c, .int .u64 d]] I [] fun r I' M' => r = .agg #[.int .u64 (notV a), .int .u64 (notV b), .int .u64 (notV c), .int .u64 (notV d)] ∧ I' = I ∧ M' = [] := by
  refine spec_of_V [] TryzEOK Tryz.func251 rfl rfl rfl ?_
  intro B h0
  refine LoopOb.inv (ι := Nat) (fun i => { fl := [(1, .ref 1 0), (2, .ref 2 0), (5, .val (.agg #[.int .u64 a, .int .u64 b, .int .u64 c, .int .u64 d])), (6, .val (.int .i64 i))], cl := [(1, notC a b c d i), (2, [.int .u64 0, .int .u64 0, .int .u64 0, .int .u64 0])], gi := I }) (fun i => i ≤ 4) (fun i => 4 - i) ?_ ?_
  · exact ⟨0, by simp, .refl, .cons .refl (.cons .refl (.cons .refl (.cons .refl .nil))), .cons rfl (.cons rfl .nil)⟩
  · intro i hi
    match i, hi with
    | 0, _ =>
      refine CondOb.mk (fun _ => ?_) (fun h => by simp at h)
      refine ArrOb.mk 0 rfl (by decide) ?_
      refine OtherOb.notU rfl (by simp) rfl ?_
      refine ArrOb.mk 0 rfl (by decide) ?_
      refine ArithOb.mk 1 (by decide) ?_
      exact ⟨1, ⟨by simp, by simp⟩, .refl, .cons .refl (.cons .refl (.cons .refl (.cons .refl .nil))), .cons rfl (.cons rfl .nil)⟩
    | 1, _ =>
      refine CondOb.mk (fun _ => ?_) (fun h => by simp at h)
      refine ArrOb.mk 1 rfl (by decide) ?_
      refine OtherOb.notU rfl (by simp) rfl ?_
      refine ArrOb.mk 1 rfl (by decide) ?_
      refine ArithOb.mk 2 (by decide) ?_
      exact ⟨2, ⟨by simp, by simp⟩, .refl, .cons .refl (.cons .refl (.cons .refl (.cons .refl .nil))), .cons rfl (.cons rfl .nil)⟩
    | 2, _ =>
      refine CondOb.mk (fun _ => ?_) (fun h => by simp at h)
      refine ArrOb.mk 2 rfl (by decide) ?_
      refine OtherOb.notU rfl (by simp) rfl ?_
      refine ArrOb.mk 2 rfl (by decide) ?_
      refine ArithOb.mk 3 (by decide) ?_
      exact ⟨3, ⟨by simp, by simp⟩, .refl, .cons .refl (.cons .refl (.cons .refl (.cons .refl .nil))), .cons rfl (.cons rfl .nil)⟩
    | 3, _ =>
      refine CondOb.mk (fun _ => ?_) (fun h => by simp at h)
      refine ArrOb.mk 3 rfl (by decide) ?_
      refine OtherOb.notU rfl (by simp) rfl ?_
      refine ArrOb.mk 3 rfl (by decide) ?_
      refine ArithOb.mk 4 (by decide) ?_
      exact ⟨4, ⟨by simp, by simp⟩, .refl, .cons .refl (.cons .refl (.cons .refl (.cons .refl .nil))), .cons rfl (.cons rfl .nil)⟩
    | 4, _ =>
      refine CondOb.mk (fun h => by simp at h) (fun _ => ?_)
      exact ⟨_, _, .refl, rfl, rfl, rfl⟩
theorem All_spec {I : GH} : Spec Tryz.prog 235 [] I [] fun r I' M' => r = .agg #[.int .u64 (notV 0), .int .u64 (notV 0), .int .u64 (notV 0), .int .u64 (notV 0)] ∧ I' = I ∧ M' = [] := by
  refine spec_of_V [] TryzEOK Tryz.func235 rfl rfl rfl ?_
  intro B h0
  refine CallOb.mk [] [] _ (.refl _) (Not_spec 0 0 0 0) ?_
  rintro v I' M' - ⟨rfl, rfl, rfl⟩
  exact ⟨_, _, .refl, rfl, rfl, rfl⟩
end Go.V

/-
  Walks: set.each, its iterator, set.Runs.
-/
set_option linter.unusedVariables false
set_option linter.unusedSimpArgs false
namespace Go.V
open Go Go.Proofs

theorem ins_self (I : GH) (b : Nat) (o : Obj) : ins I b o b = some o := by
  simp [ins]
theorem ins_le {I : GH} {b : Nat} {o : Obj} (hb : I b = none) : ∀ c p, I c = some p → ins I b o c = some p := by
  intro c p h
  unfold ins
  cases e : Nat.beq c b with
  | false => exact h
  | true =>
    have := Nat.eq_of_beq_eq_true e
    subst this
    rw [hb] at h
    cases h

/-! ### A word's bits -/
theorem andV_nat {x y : Int} (hx : u64ok x) (hy : u64ok y) : andV x y = ((x.toNat &&& y.toNat : Nat) : Int) := by
  obtain ⟨x, rfl⟩ := Int.eq_ofNat_of_zero_le hx.1
  obtain ⟨y, rfl⟩ := Int.eq_ofNat_of_zero_le hy.1
  have h1 : x < 18446744073709551616 := by have := hx.2; omega
  have h2 : y < 18446744073709551616 := by have := hy.2; omega
  have e : ∀ z : Nat, z < 18446744073709551616 → (BitVec.ofInt 64 (z : Int)).toNat = z := fun z hz => by
    rw [BitVec.toNat_ofInt]
    omega
  unfold andV
  rw [BitVec.toNat_and, e x h1, e y h2, wrap_u64_id]
  · simp
  · have := Nat.and_le_left (n := x) (m := y)
    exact ⟨by omega, by omega⟩
def nxtV (x : Int) : Int := andV x (IntKind.u64.wrap (x - 1))
def popc (n : Nat) : Nat := ((List.range 64).filter n.testBit).length
theorem popc_le (n : Nat) : popc n ≤ 64 := by
  have := List.length_filter_le n.testBit (List.range 64)
  simpa [popc] using this
theorem nxt_pop {x : Int} (hx : u64ok x) (h0 : x ≠ 0) : u64ok (nxtV x) ∧ popc (nxtV x).toNat < popc x.toNat := by
  obtain ⟨n, rfl⟩ := Int.eq_ofNat_of_zero_le hx.1
  have h1 : n < 18446744073709551616 := by have := hx.2; omega
  have hpos : 0 < n := by omega
  have hs : u64ok ((n : Int) - 1) := ⟨by omega, by omega⟩
  have e : nxtV (n : Int) = ((n &&& (n - 1) : Nat) : Int) := by
    unfold nxtV
    rw [wrap_u64_id hs, andV_nat hx hs]
    congr 2
    omega
  have hle : n &&& (n - 1) ≤ n - 1 := Nat.and_le_right
  refine ⟨by rw [e]; exact ⟨by omega, by omega⟩, ?_⟩
  rw [e]
  simp only [Int.toNat_natCast]
  unfold popc
  have hsub : List.Sublist ((List.range 64).filter (n &&& (n - 1)).testBit) ((List.range 64).filter n.testBit) := by
    have : (List.range 64).filter (n &&& (n - 1)).testBit = ((List.range 64).filter n.testBit).filter (n - 1).testBit := by
      rw [List.filter_filter]
      congr 1
      funext i
      rw [Nat.testBit_and, Bool.and_comm]
    rw [this]
    exact List.filter_sublist
  rcases Nat.lt_or_eq_of_le hsub.length_le with h | h
  · exact h
  · exfalso
    have heq := hsub.eq_of_length h
    have : n &&& (n - 1) = n := by
      apply Nat.eq_of_testBit_eq
      intro i
      by_cases hi : i < 64
      · have hm : i ∈ (List.range 64).filter (n &&& (n - 1)).testBit ↔ i ∈ (List.range 64).filter n.testBit := by rw [heq]
        simp only [List.mem_filter, List.mem_range, hi, true_and] at hm
        cases h1 : (n &&& (n - 1)).testBit i <;> cases h2 : n.testBit i <;> simp_all
      · have h2 : 2 ^ 64 ≤ 2 ^ i := Nat.pow_le_pow_right (by omega) (by omega)
        rw [Nat.testBit_lt_two_pow (by omega), Nat.testBit_lt_two_pow (by omega)]
    omega

def byteOf (deb : List Int) (i : Nat) (w : Int) : UInt8 := UInt8.ofNat (IntKind.u8.wrap ((i : Int) * 64 + tz64 deb w)).toNat
theorem byteOf_val (deb : List Int) (i : Nat) (w : Int) : ((byteOf deb i w).toNat : Int) = IntKind.u8.wrap ((i : Int) * 64 + tz64 deb w) := by
  have := wrap_u8 ((i : Int) * 64 + tz64 deb w)
  unfold byteOf
  rw [UInt8.toNat_ofNat']
  omega
def bitsL (deb : List Int) (i : Nat) : Nat → Int → List UInt8
  | 0, _ => []
  | f + 1, w => bif decide (w = 0) then [] else byteOf deb i w :: bitsL deb i f (nxtV w)
def eachFrom (deb : List Int) : Nat → List Int → List UInt8
  | _, [] => []
  | i, w :: ws => bitsL deb i 64 w ++ eachFrom deb (i + 1) ws
theorem bitsL_len (deb : List Int) (i : Nat) : ∀ f w, (bitsL deb i f w).length ≤ f
  | 0, _ => by simp [bitsL]
  | f + 1, w => by
    unfold bitsL
    have := bitsL_len deb i f (nxtV w)
    cases decide (w = 0) <;> simp
    exact this
theorem eachFrom_len (deb : List Int) : ∀ ws i, (eachFrom deb i ws).length ≤ 64 * ws.length
  | [], _ => by simp [eachFrom]
  | w :: ws, i => by
    have h1 := bitsL_len deb i 64 w
    have h2 := eachFrom_len deb ws (i + 1)
    simp only [eachFrom, List.length_append, List.length_cons]
    omega

def u8s (l : List UInt8) : List (List Value) := l.map fun c => [.int .u8 c.toNat]
def setV (a b c d : Int) : List Value := [.int .u64 a, .int .u64 b, .int .u64 c, .int .u64 d]

theorem each_spec {I : GH} (a b c d : Int) : Spec Tryz.prog 255 [.agg #[.int .u64 a, .int .u64 b, .int .u64 c, .int .u64 d]] I [] fun r I' M' => ∃ g, r = .func (.func 262) #[] #[ptr g] ∧ I' g = some (.cells (setV a b c d).toArray 65 (0, 0)) ∧ (∀ b o, I b = some o → I' b = some o) ∧ M' = [] := by
  refine spec_of_V [1] TryzEOK Tryz.func255 rfl rfl rfl ?_
  intro B h0
  refine AllocOb.mk fun g hg hgM => ?_
  exact ⟨_, _, .prom rfl (by simp) .refl, g, rfl, ins_self .., ins_le hg, rfl⟩

theorem each1_iter {I : GH} {deb : List Int} (hdeb : HasDeb I deb) {g : Nat} {a b c d : Int} (hws : ∀ x ∈ [a, b, c, d], u64ok x) (hg : I g = some (.cells (setV a b c d).toArray 65 (0, 0))) :
    Iter Tryz.prog 262 [ptr g] I (u8s (eachFrom deb 0 [a, b, c, d])) := by
  intro l R Rx hY I0 M0 hI0 hR0
  refine specE_of_V [] TryzEOK Tryz.func262 rfl rfl rfl ?_
  intro B h0
  have hrd : ∀ (I1 : GH) (M : List Blk), (∀ b o, I b = some o → I1 b = some o) → Rd I1 M ⟨g, 0, none⟩ 4 (setV a b c d) := fun I1 M h => ⟨rfl, _, _, _, .inl (h _ _ hg), rfl, rfl⟩
  refine LoadOb.mk _ (hrd _ _ hI0) ?_
  refine LoopOb.inv (ι := Nat × Nat × GH × List Blk)
    (fun x => { fl := [(0, .val (.func (.yield l) #[] #[])), (5, .val (.agg (setV a b c d).toArray)), (6, .val (.int .i64 x.1))], gi := x.2.2.1, mi := x.2.2.2 })
    (fun x => x.1 ≤ 4 ∧ (∀ b o, I b = some o → x.2.2.1 b = some o) ∧ R x.2.1 x.2.2.1 x.2.2.2 ∧ x.2.1 ≤ (eachFrom deb 0 [a, b, c, d]).length ∧ (eachFrom deb 0 [a, b, c, d]).drop x.2.1 = eachFrom deb x.1 ([a, b, c, d].drop x.1)) (fun x => 4 - x.1) ?_ ?_
  · exact ⟨(0, 0, I0, M0), ⟨by simp, hI0, hR0, by simp, rfl⟩, .refl, .cons .refl (.cons .refl (.cons .refl .nil)), .nil⟩
  · rintro ⟨i, k, I1, M1⟩ ⟨hi, hI1, hR1, hkl, hd1⟩
    simp only at hi hI1 hR1 hkl hd1
    refine CondOb.mk (fun h => ?_) (fun h => ?_)
    · have hlt : i < 4 := by simp at h; omega
      have hlt' : i < [a, b, c, d].length := hlt
      refine ArrOb.mk i rfl hlt ?_
      have hval : pack false ((((setV a b c d).toArray).toList.drop (i * 1)).take 1) = .int .u64 [a, b, c, d][i] := by
        match i, hlt with
        | 0, _ => rfl
        | 1, _ => rfl
        | 2, _ => rfl
        | 3, _ => rfl
      have hdrop : [a, b, c, d].drop i = [a, b, c, d][i] :: [a, b, c, d].drop (i + 1) := List.drop_eq_getElem_cons hlt'
      refine LoopOb.inv (ι := Int × Nat × Nat × GH × List Blk)
        (fun x => { fl := [(0, .val (.func (.yield l) #[] #[])), (3, .val (.int .i64 i)), (4, .val (.int .u64 x.1)), (5, .val (.agg (setV a b c d).toArray)), (6, .val (.int .i64 i))], gi := x.2.2.2.1, mi := x.2.2.2.2 })
        (fun x => u64ok x.1 ∧ popc x.1.toNat ≤ x.2.1 ∧ (∀ b o, I b = some o → x.2.2.2.1 b = some o) ∧ R x.2.2.1 x.2.2.2.1 x.2.2.2.2 ∧ x.2.2.1 ≤ (eachFrom deb 0 [a, b, c, d]).length ∧ (eachFrom deb 0 [a, b, c, d]).drop x.2.2.1 = bitsL deb i x.2.1 x.1 ++ eachFrom deb (i + 1) ([a, b, c, d].drop (i + 1))) (fun x => popc x.1.toNat) ?_ ?_
      · refine ⟨([a, b, c, d][i], 64, k, I1, M1), ⟨hws _ (List.getElem_mem hlt'), popc_le _, hI1, hR1, hkl, ?_⟩, .refl, .cons .refl (.cons .refl (.cons ?_ (.cons .refl (.cons .refl .nil)))), .nil⟩
        · simp only
          rw [hd1, hdrop]
          rfl
        · simp only
          rw [← hval]
          exact .refl
      · rintro ⟨w, f, k, I1, M1⟩ ⟨hw, hf, hI1, hR1, hkl, hd1⟩
        simp only at hw hf hI1 hR1 hkl hd1
        refine CondOb.mk (fun h => ?_) (fun h => ?_)
        · have hw0 : w ≠ 0 := by simpa using h
          obtain ⟨n1, n2⟩ := nxt_pop hw hw0
          obtain ⟨f, rfl⟩ : ∃ f', f = f' + 1 := ⟨f - 1, by omega⟩
          have hb : bitsL deb i (f + 1) w = byteOf deb i w :: bitsL deb i f (nxtV w) := by
            simp [bitsL, hw0]
          rw [hb, List.cons_append] at hd1
          have hk : k < (eachFrom deb 0 [a, b, c, d]).length := by
            apply Nat.lt_of_not_le
            intro hle
            rw [List.drop_eq_nil_of_le hle] at hd1
            cases hd1
          have hdk := List.drop_eq_getElem_cons hk
          rw [hd1] at hdk
          obtain ⟨hk1, hk2⟩ := List.cons.inj hdk
          have hkv : k < (u8s (eachFrom deb 0 [a, b, c, d])).length := by simpa [u8s] using hk
          have hv : (u8s (eachFrom deb 0 [a, b, c, d]))[k] = [.int .u8 (IntKind.u8.wrap ((i : Int) * 64 + tz64 deb w))] := by
            simp only [u8s, List.getElem_map, ← hk1, byteOf_val]
          have hdb : HasDeb I1 deb := by
            obtain ⟨q1, q2, T, fr, q3⟩ := hdeb
            exact ⟨q1, q2, T, fr, hI1 _ _ q3⟩
          have htz := tz64_ok hdb w
          refine ArithOb.mk ((i : Int) * 64) (wrap_i64 ⟨by omega, by omega⟩) ?_
          refine CallOb.mk [] M1 _ (.refl _) (TZ_spec hdb w) ?_
          rintro v I' M' - ⟨rfl, rfl, rfl⟩
          refine ArithOb.mk ((i : Int) * 64 + tz64 deb w) (wrap_i64 ⟨by omega, by omega⟩) ?_
          refine ArithOb.mk _ rfl ?_
          refine OtherOb.yield rfl (by simp) rfl rfl ?_
          have hy := hY k hkv I' M1 hI1 hR1
          rw [hv] at hy
          refine CallObY.mk M1 [] _ (by simp) hy ?_
          rintro v I2 M2 hI2 (⟨rfl, hR2⟩ | ⟨rfl, hx⟩)
          · refine CondOb.mk (fun h => by simp at h) (fun _ => ?_)
            refine ArithOb.mk _ rfl ?_
            exact ⟨(nxtV w, f, k + 1, I2, M2), ⟨⟨n1, by simp only; omega, fun b o h => hI2 b o (hI1 b o h), hR2, hk, hk2.symm⟩, by simp only; exact n2⟩, .perm (by simp) .refl, .cons .refl (.cons .refl (.cons .refl (.cons .refl (.cons .refl .nil)))), .nil⟩
          · refine CondOb.mk (fun _ => ?_) (fun h => by simp at h)
            exact ⟨_, _, .perm (by simp) .refl, .inr hx⟩
        · have hw0 : w = 0 := by simpa using h
          have hwr : IntKind.i64.wrap ((i : Int) + 1) = ((i + 1 : Nat) : Int) := by
            rw [wrap_i64 ⟨by omega, by omega⟩]
            omega
          refine ArithOb.mk _ hwr ?_
          have hb : bitsL deb i f w = [] := by cases f <;> simp [bitsL, hw0]
          rw [hb, List.nil_append] at hd1
          exact ⟨(i + 1, k, I1, M1), ⟨⟨by simp only; omega, hI1, hR1, hkl, hd1⟩, by simp only; omega⟩, .refl, .cons .refl (.cons .refl (.cons .refl .nil)), .nil⟩
    · have hi4 : i = 4 := by simp at h; omega
      subst hi4
      refine ⟨_, _, .refl, .inl ?_⟩
      have hnil : (eachFrom deb 0 [a, b, c, d]).drop k = [] := by rw [hd1]; rfl
      have hke : k = (u8s (eachFrom deb 0 [a, b, c, d])).length := by
        have := List.drop_eq_nil_iff.1 hnil
        simp only [u8s, List.length_map]
        omega
      rw [← hke]
      exact hR1

/-! ### Runs -/
def runStep (l : List (UInt8 × UInt8)) (b : UInt8) : List (UInt8 × UInt8) := match l.getLast? with
  | some p => bif decide ((p.2.toNat : Int) + 1 = b.toNat) then l.dropLast ++ [(p.1, b)] else l ++ [(b, b)]
  | none => [(b, b)]
def runsOf (l : List UInt8) : List (UInt8 × UInt8) := l.foldl runStep []
def pairC (p : UInt8 × UInt8) : List Value := [.int .u8 p.1.toNat, .int .u8 p.2.toNat]
def pairV (l : List (UInt8 × UInt8)) : List Value := l.flatMap pairC
theorem pairV_len (l : List (UInt8 × UInt8)) : (pairV l).length = l.length * 2 := flat_len pairC 2 (fun _ => rfl) l
theorem runStep_len (l : List (UInt8 × UInt8)) (b : UInt8) : (runStep l b).length ≤ l.length + 1 := by
  unfold runStep
  split
  · rename_i p h
    cases decide ((p.2.toNat : Int) + 1 = b.toNat) <;> simp
  · simp
theorem runsOf_len (l : List UInt8) : (runsOf l).length ≤ l.length := by
  have : ∀ (l : List UInt8) (acc : List (UInt8 × UInt8)), (l.foldl runStep acc).length ≤ acc.length + l.length := by
    intro l
    induction l with
    | nil => intro acc; simp
    | cons b l ih =>
      intro acc
      have h1 := ih (runStep acc b)
      have h2 := runStep_len acc b
      simp only [List.foldl_cons, List.length_cons]
      omega
  simpa [runsOf] using this l []

theorem add2 {b i j : Nat} : ((⟨b, 0, none⟩ : Addr).add i).add j = (⟨b, 0, none⟩ : Addr).add (i + j) := by
  rw [addr_add ⟨_, 0, none⟩ rfl i, addr_add _ rfl j, addr_add _ rfl (i + j)]
  simp
theorem blk_rd2 {I : GH} {M : List Blk} {b T : Nat} {cs : List Value} (hM : (⟨b, .cells cs.toArray T (0, 0)⟩ : Blk) ∈ M) {i j : Nat} {v : Value} (h : cs[i + j]? = some v) : Rd I M (((⟨b, 0, none⟩ : Addr).add i).add j) 1 [v] := by
  obtain ⟨hl, rfl⟩ := List.getElem?_eq_some_iff.1 h
  have := blk_rd (I := I) hM (k := i + j) (n := 1) (by omega)
  rw [List.drop_eq_getElem_cons hl, List.take_succ_cons, List.take_zero] at this
  rw [add2]
  exact this
theorem splice_at (pre : List Value) (u v z : Value) (rest : List Value) (k : Nat) (hk : k = pre.length + 1) : splice (pre ++ ([u, v] ++ rest)) k [z] = pre ++ ([u, z] ++ rest) := by
  subst hk
  unfold splice
  have e1 : (pre ++ ([u, v] ++ rest)).take (pre.length + 1) = pre ++ [u] := by
    rw [show pre ++ ([u, v] ++ rest) = (pre ++ [u]) ++ (v :: rest) from by simp]
    exact List.take_left' (by simp)
  have e2 : (pre ++ ([u, v] ++ rest)).drop (pre.length + 1 + [z].length) = rest := by
    rw [show pre ++ ([u, v] ++ rest) = (pre ++ [u, v]) ++ rest from by simp]
    exact List.drop_left' (by simp)
  rw [e1, e2]
  simp
theorem app_ok {os : OS} {rs : List (UInt8 × UInt8)} {x : UInt8} (hos : os.ok 2 (pairV rs)) {g c : Nat} {cur : List Value} (h1 : cur.length = c * 2) (h2 : os.n + 1 ≤ c) (h3 : c ≤ maxLen) (h4 : cur.take ((os.n + 1) * 2) = pairV rs ++ pairC (x, x)) :
    OS.ok ⟨some g, os.n + 1, c, cur⟩ 2 (pairV (rs ++ [(x, x)])) := by
  have hpx : pairV (rs ++ [(x, x)]) = pairV rs ++ pairC (x, x) := by simp [pairV]
  have hl := hos.len
  refine ⟨?_, (fun h => by cases h), fun g3 hg3 => ⟨h1, h2, h3, by rw [hpx]; exact h4⟩⟩
  rw [hpx, List.length_append, hl]
  simp [pairC]
  omega
theorem runsOf_snoc (l : List UInt8) (x : UInt8) : runsOf (l ++ [x]) = runStep (runsOf l) x := by
  simp [runsOf]

set_option maxHeartbeats 1000000 in
theorem Runs_spec {I : GH} {deb : List Int} (hdeb : HasDeb I deb) {a b c d : Int} (hws : ∀ x ∈ [a, b, c, d], u64ok x) : Spec Tryz.prog 242 [.agg #[.int .u64 a, .int .u64 b, .int .u64 c, .int .u64 d]] I []
    fun r I' M' => (∀ b o, I b = some o → I' b = some o) ∧ ∃ os : OS, r = os.val ∧ os.ok 2 (pairV (runsOf (eachFrom deb 0 [a, b, c, d]))) ∧ M' = os.blk 270 := by
  refine spec_of_V [3] TryzEOK Tryz.func242 rfl rfl rfl ?_
  intro B h0
  refine AllocOb.mk fun g hg hgM => ?_
  refine CallOb.mk [] [⟨g, .cells #[.slice none 0 0] 268 (0, 0)⟩] _ (.refl _) (each_spec a b c d) ?_
  rintro v I1 M1 - ⟨g1, rfl, hg1, hI1, rfl⟩
  have hdeb1 : HasDeb I1 deb := by
    obtain ⟨q1, q2, T, fr, q3⟩ := hdeb
    exact ⟨q1, q2, T, fr, hI1 _ _ q3⟩
  have hL := eachFrom_len deb [a, b, c, d] 0
  refine CodeOb.range TryzEOK rfl rfl rfl .refl (each1_iter hdeb1 hws hg1) (fun vs h => ?_)
    (fun k I' M' => (∀ b o, I1 b = some o → I' b = some o) ∧ ∃ os : OS, os.ok 2 (pairV (runsOf ((eachFrom deb 0 [a, b, c, d]).take k))) ∧ M' = ⟨g, .cells #[os.val] 268 (0, 0)⟩ :: os.blk 270)
    (fun _ _ _ => False) ⟨fun _ _ h => h, ⟨none, 0, 0, []⟩, ⟨rfl, fun _ => ⟨rfl, rfl⟩, fun g h => by cases h⟩, rfl⟩ ?_ ?_ (fun _ _ _ _ h => h.elim)
  · obtain ⟨c, _, rfl⟩ := List.mem_map.1 h
    rfl
  · rintro k hk I' M' - ⟨hI', os, hos, rfl⟩ l B h0 h0'
    have hkL : k < (eachFrom deb 0 [a, b, c, d]).length := by simpa [u8s] using hk
    generalize hLd : eachFrom deb 0 [a, b, c, d] = L at *
    generalize hx : L[k] = x
    have hv : (u8s L)[k] = [.int .u8 x.toNat] := by simp [u8s, hx]
    rw [hv]
    have htk : runsOf (L.take (k + 1)) = runStep (runsOf (L.take k)) x := by
      rw [List.take_succ_eq_append_getElem hkL, hx, runsOf_snoc]
    rw [htk]
    have hrl : (runsOf (L.take k)).length ≤ 256 := by
      have h1 := runsOf_len (L.take k)
      have h2 := List.length_take_le k L
      simp only [List.length_cons, List.length_nil] at hL
      omega
    generalize hrs : runsOf (L.take k) = rs at *
    have hxl := x.toNat_lt
    obtain ⟨oa, n, cp, cur⟩ := os
    have hn : rs.length = n := by
      have := hos.len
      rw [pairV_len] at this
      simp only at this
      omega
    cases oa with
    | none =>
      obtain ⟨e1, e2⟩ := hos.nil rfl
      simp only at e1 e2
      subst e1
      subst e2
      have hr0 : rs = [] := List.eq_nil_of_length_eq_zero hn
      have hstep : runStep rs x = rs ++ [(x, x)] := by rw [hr0]; rfl
      refine LoadOb.mk [.slice none 0 0] (blk_rd (cs := [.slice none 0 0]) (k := 0) (n := 1) (T := 268) (.head _) (by simp)) ?_
      refine ArithOb.mk (-1) (by decide) ?_
      refine GuardOb.mk (fun h => by simp at h) (fun _ => ?_)
      refine LoadOb.mk [.slice none 0 0] (blk_rd (cs := [.slice none 0 0]) (k := 0) (n := 1) (T := 268) (.head _) (by simp)) ?_
      refine AllocOb.mk fun g2 hg2 hgM2 => ?_
      refine OtherOb.append TryzEOK rfl (by simp) (e := 270) rfl rfl rfl (⟨none, 0, 0, cur⟩ : OS) hos rfl (m := 1) rfl (news := pairC (x, x)) (by decide) (blk_rd (cs := pairC (x, x)) (k := 0) (n := 2) (T := 270) (.head _) (by simp [pairC])) rfl (Mr := [⟨g2, .cells (pairC (x, x)).toArray 270 (0, 0)⟩, ⟨g, .cells #[.slice none 0 0] 268 (0, 0)⟩]) (List.perm_append_comm (l₁ := [_, _])) (by simp only [maxLen]; omega) (by show (_ + 1) * 2 ≤ _; simp only; omega) ?_
      intro g' c' cur' q1 q2 q3 q4
      refine StoreOb.mk [⟨g', .cells cur'.toArray 270 (0, 0)⟩, ⟨g2, .cells (pairC (x, x)).toArray 270 (0, 0)⟩] [] _ _ rfl rfl (Nat.le_of_ble_eq_true rfl) rfl ?_
      refine ⟨_, _, .perm (M1 := [⟨g2, .cells (pairC (x, x)).toArray 270 (0, 0)⟩] ++ (⟨g, .cells #[OS.val ⟨some g', (⟨none, 0, 0, cur⟩ : OS).n + 1, c', cur'⟩] 268 (0, 0)⟩ :: OS.blk ⟨some g', (⟨none, 0, 0, cur⟩ : OS).n + 1, c', cur'⟩ 270)) (List.perm_append_comm (l₁ := [_]) (l₂ := [_, _])) (.sub (List.sublist_append_right _ _) .refl), hI', ⟨some g', (⟨none, 0, 0, cur⟩ : OS).n + 1, c', cur'⟩, ?_, rfl⟩
      rw [hstep]
      exact app_ok hos q1 q2 q3 q4
    | some gb =>
      obtain ⟨hcl, hnc, hcm, hct⟩ := hos.cap gb rfl
      simp only at hcl hnc hcm hct
      refine LoadOb.mk [.slice (some ⟨gb, 0, none⟩) n cp] (blk_rd (cs := [.slice (some ⟨gb, 0, none⟩) n cp]) (k := 0) (n := 1) (T := 268) (.head _) (by simp)) ?_
      refine ArithOb.mk ((n : Int) - 1) (wrap_i64 ⟨by omega, by omega⟩) ?_
      refine GuardOb.mk (fun h1 => ?_) (fun h1 => ?_)
      · have hpos : 1 ≤ n := by simp at h1; omega
        obtain ⟨rs0, p, rfl⟩ : ∃ rs0 p, rs = rs0 ++ [p] := by
          rcases List.eq_nil_or_concat rs with h | ⟨r, p, h⟩
          · subst h; simp at hn; omega
          · exact ⟨r, p, by simpa using h⟩
        have hn0 : rs0.length = n - 1 := by simp at hn; omega
        have hp0 : (pairV rs0).length = (n - 1) * 2 := by rw [pairV_len, hn0]
        obtain ⟨rest, hcur⟩ : ∃ rest, cur = pairV rs0 ++ ([.int .u8 p.1.toNat, .int .u8 p.2.toNat] ++ rest) := by
          refine ⟨cur.drop (n * 2), ?_⟩
          have h2 := List.take_append_drop (n * 2) cur
          rw [hct] at h2
          rw [← h2, List.drop_left' (by rw [pairV_len, hn])]
          simp [pairV, pairC]
        have hat : cur[(n - 1) * 2 + 1 * 1]? = some (.int .u8 p.2.toNat) := by
          rw [hcur, ← hp0, List.getElem?_append_right (by omega)]
          simp
        have hpl := p.2.toNat_lt
        refine LoadOb.mk [.slice (some ⟨gb, 0, none⟩) n cp] (blk_rd (cs := [.slice (some ⟨gb, 0, none⟩) n cp]) (k := 0) (n := 1) (T := 268) (.head _) (by simp)) ?_
        refine IdxOb.mk ⟨gb, 0, none⟩ (n - 1) rfl (by omega) (by omega) ?_
        refine ArrOb.mk 1 rfl (by decide) ?_
        refine LoadOb.mk [.int .u8 p.2.toNat] (blk_rd2 (b := gb) (cs := cur) (T := 270) (by simp [OS.blk]) hat) ?_
        refine ArithOb.mk (p.2.toNat : Int) (wrap_i64 ⟨by omega, by omega⟩) ?_
        refine ArithOb.mk ((p.2.toNat : Int) + 1) (wrap_i64 ⟨by omega, by omega⟩) ?_
        refine ArithOb.mk (x.toNat : Int) (wrap_i64 ⟨by omega, by omega⟩) ?_
        have hstep : runStep (rs0 ++ [p]) x = bif decide ((p.2.toNat : Int) + 1 = x.toNat) then rs0 ++ [(p.1, x)] else rs0 ++ [p] ++ [(x, x)] := by
          simp [runStep]
        refine CondOb.mk (fun h2 => ?_) (fun h2 => ?_)
        · rw [h2] at hstep
          refine LoadOb.mk [.slice (some ⟨gb, 0, none⟩) n cp] (blk_rd (cs := [.slice (some ⟨gb, 0, none⟩) n cp]) (k := 0) (n := 1) (T := 268) (.head _) (by simp)) ?_
          refine IdxOb.mk ⟨gb, 0, none⟩ (n - 1) rfl (by omega) (by omega) ?_
          refine ArrOb.mk 1 rfl (by decide) ?_
          rw [add2]
          refine StoreOb.add [⟨g, .cells #[.slice (some ⟨gb, 0, none⟩) n cp] 268 (0, 0)⟩] [] cur.toArray _ rfl ?_ rfl ?_
          · simp only [List.size_toArray]
            show 0 + ((n - 1) * 2 + 1) + 1 ≤ _
            omega
          · refine ⟨_, _, .refl, hI', ⟨some gb, n, cp, splice cur (0 + ((n - 1) * 2 + 1 * 1)) [.int .u8 x.toNat]⟩, ?_, rfl⟩
            have hsp : splice cur (0 + ((n - 1) * 2 + 1 * 1)) [.int .u8 x.toNat] = pairV rs0 ++ ([.int .u8 p.1.toNat, .int .u8 x.toNat] ++ rest) := by
              rw [hcur]
              exact splice_at _ _ _ _ _ _ (by omega)
            rw [hstep, hsp]
            have hpx : pairV (rs0 ++ [(p.1, x)]) = pairV rs0 ++ [.int .u8 p.1.toNat, .int .u8 x.toNat] := by simp [pairV, pairC]
            refine ⟨?_, (fun h => by cases h), fun g3 hg3 => ⟨?_, hnc, hcm, ?_⟩⟩
            · simp only [cond_true]
              rw [hpx, List.length_append, hp0]
              simp
              omega
            · simp only
              rw [← hcl, hcur]
              simp
            · simp only [cond_true]
              rw [hpx, ← List.append_assoc]
              refine List.take_left' ?_
              rw [List.length_append, hp0]
              simp
              omega
        · rw [h2] at hstep
          simp only [cond_false] at hstep
          refine LoadOb.mk [.slice (some ⟨gb, 0, none⟩) n cp] (blk_rd (cs := [.slice (some ⟨gb, 0, none⟩) n cp]) (k := 0) (n := 1) (T := 268) (.head _) (by simp)) ?_
          refine AllocOb.mk fun g2 hg2 hgM2 => ?_
          refine OtherOb.append TryzEOK rfl (by simp) (e := 270) rfl rfl rfl (⟨some gb, n, cp, cur⟩ : OS) hos rfl (m := 1) rfl (news := pairC (x, x)) (by decide) (blk_rd (cs := pairC (x, x)) (k := 0) (n := 2) (T := 270) (.head _) (by simp [pairC])) rfl (Mr := [⟨g2, .cells (pairC (x, x)).toArray 270 (0, 0)⟩, ⟨g, .cells #[.slice (some ⟨gb, 0, none⟩) n cp] 268 (0, 0)⟩]) (List.perm_append_comm (l₁ := [_, _])) (by simp only [maxLen]; omega) (by show (_ + 1) * 2 ≤ _; simp only; omega) ?_
          intro g' c' cur' q1 q2 q3 q4
          refine StoreOb.mk [⟨g', .cells cur'.toArray 270 (0, 0)⟩, ⟨g2, .cells (pairC (x, x)).toArray 270 (0, 0)⟩] [] _ _ rfl rfl (Nat.le_of_ble_eq_true rfl) rfl ?_
          refine ⟨_, _, .perm (M1 := [⟨g2, .cells (pairC (x, x)).toArray 270 (0, 0)⟩] ++ (⟨g, .cells #[OS.val ⟨some g', (⟨some gb, n, cp, cur⟩ : OS).n + 1, c', cur'⟩] 268 (0, 0)⟩ :: OS.blk ⟨some g', (⟨some gb, n, cp, cur⟩ : OS).n + 1, c', cur'⟩ 270)) (List.perm_append_comm (l₁ := [_]) (l₂ := [_, _])) (.sub (List.sublist_append_right _ _) .refl), hI', ⟨some g', (⟨some gb, n, cp, cur⟩ : OS).n + 1, c', cur'⟩, ?_, rfl⟩
          rw [hstep]
          exact app_ok hos q1 q2 q3 q4
      · have hn0 : n = 0 := by simp at h1; omega
        have hr0 : rs = [] := List.eq_nil_of_length_eq_zero (by omega)
        have hstep : runStep rs x = rs ++ [(x, x)] := by rw [hr0]; rfl
        refine LoadOb.mk [.slice (some ⟨gb, 0, none⟩) n cp] (blk_rd (cs := [.slice (some ⟨gb, 0, none⟩) n cp]) (k := 0) (n := 1) (T := 268) (.head _) (by simp)) ?_
        refine AllocOb.mk fun g2 hg2 hgM2 => ?_
        refine OtherOb.append TryzEOK rfl (by simp) (e := 270) rfl rfl rfl (⟨some gb, n, cp, cur⟩ : OS) hos rfl (m := 1) rfl (news := pairC (x, x)) (by decide) (blk_rd (cs := pairC (x, x)) (k := 0) (n := 2) (T := 270) (.head _) (by simp [pairC])) rfl (Mr := [⟨g2, .cells (pairC (x, x)).toArray 270 (0, 0)⟩, ⟨g, .cells #[.slice (some ⟨gb, 0, none⟩) n cp] 268 (0, 0)⟩]) (List.perm_append_comm (l₁ := [_, _])) (by simp only [maxLen]; omega) (by show (_ + 1) * 2 ≤ _; simp only; omega) ?_
        intro g' c' cur' q1 q2 q3 q4
        refine StoreOb.mk [⟨g', .cells cur'.toArray 270 (0, 0)⟩, ⟨g2, .cells (pairC (x, x)).toArray 270 (0, 0)⟩] [] _ _ rfl rfl (Nat.le_of_ble_eq_true rfl) rfl ?_
        refine ⟨_, _, .perm (M1 := [⟨g2, .cells (pairC (x, x)).toArray 270 (0, 0)⟩] ++ (⟨g, .cells #[OS.val ⟨some g', (⟨some gb, n, cp, cur⟩ : OS).n + 1, c', cur'⟩] 268 (0, 0)⟩ :: OS.blk ⟨some g', (⟨some gb, n, cp, cur⟩ : OS).n + 1, c', cur'⟩ 270)) (List.perm_append_comm (l₁ := [_]) (l₂ := [_, _])) (.sub (List.sublist_append_right _ _) .refl), hI', ⟨some g', (⟨some gb, n, cp, cur⟩ : OS).n + 1, c', cur'⟩, ?_, rfl⟩
        rw [hstep]
        exact app_ok hos q1 q2 q3 q4
  · rintro I' M' - ⟨hI', os, hos, rfl⟩
    refine LoadOb.mk [os.val] (blk_rd (cs := [os.val]) (k := 0) (n := 1) (T := 268) (.head _) (by simp)) ?_
    refine ⟨_, _, .sub (List.sublist_cons_self _ _) .refl, fun b o h => hI' _ _ (hI1 _ _ h), os, rfl, ?_, rfl⟩
    have : (eachFrom deb 0 [a, b, c, d]).take (u8s (eachFrom deb 0 [a, b, c, d])).length = eachFrom deb 0 [a, b, c, d] := List.take_of_length_le (by simp [u8s])
    rw [this] at hos
    exact hos
end Go.V

/-
  Walks: quote.Literal, quote.Class.
-/
set_option linter.unusedVariables false
set_option linter.unusedSimpArgs false
namespace Go.V
open Go Go.Proofs

theorem OS.ok.row {I : GH} {M : List Blk} {os : OS} {α : Type} {f : α → List Value} {size : Nat} (hf : ∀ x, (f x).length = size) (h0 : 0 < size) {l : List α} (h : os.ok size (l.flatMap f)) {e : Nat} (hM : ∀ x ∈ os.blk e, x ∈ M) {j : Nat} (hj : j < l.length) :
    ∃ ad, os.a.map (fun g => (⟨g, 0, none⟩ : Addr)) = some ad ∧ Rd I M (ad.add (j * size)) size (f l[j]) := by
  have hn : l.length = os.n := by
    have h1 := h.len
    rw [flat_len f size hf] at h1
    exact Nat.eq_of_mul_eq_mul_right h0 h1
  cases ha : os.a with
  | none => have := (h.nil ha).1; omega
  | some g =>
    obtain ⟨h1, h2, h3, h4⟩ := h.cap g ha
    refine ⟨⟨g, 0, none⟩, rfl, ?_⟩
    have hle : j * size + size ≤ os.n * size := by
      have := Nat.mul_le_mul_right size (show j + 1 ≤ os.n by omega)
      rw [Nat.add_mul, Nat.one_mul] at this
      exact this
    have hcl : os.n * size ≤ os.cur.length := by rw [h1]; exact Nat.mul_le_mul_right _ h2
    have := blk_rd (I := I) (M := M) (b := g) (T := e) (cs := os.cur) (hM _ (by simp [OS.blk, ha])) (k := j * size) (n := size) (by omega)
    have e1 : (os.cur.drop (j * size)).take size = f l[j] := by
      rw [← flat_at f size hf l j hj, ← h4, List.drop_take, List.take_take]
      congr 1
      omega
    rw [e1] at this
    exact this

def quoL : ByteArray := ⟨#[34]⟩
def clsL : ByteArray := ⟨#[93, 45, 94]⟩
def litB (s : ByteArray) : List UInt8 := [34] ++ s.data.toList.flatMap (putB · quoL) ++ [34]
def strOf (l : List UInt8) : ByteArray := ⟨l.toArray⟩
theorem flat_le {α β : Type} (f : α → List β) (m : Nat) (hf : ∀ x, (f x).length ≤ m) : ∀ l : List α, (l.flatMap f).length ≤ m * l.length
  | [] => by simp
  | x :: l => by
    have h1 := flat_le f m hf l
    have h2 := hf x
    simp only [List.flatMap_cons, List.length_append, List.length_cons, Nat.mul_add]
    omega

theorem Literal_spec {I : GH} (s : ByteArray) (hs : s.size ≤ 1099511627776) : Spec Tryz.prog 228 [.string s] I [] fun r I' M' => r = .string (strOf (litB s)) ∧ I' = I ∧ M' = [] := by
  refine spec_of_V [3] TryzEOK Tryz.func228 rfl rfl rfl ?_
  intro B h0
  refine AllocOb.mk fun b hb hbM => ?_
  refine CallOb.mk (Bd.new.M b) [] _ (.refl _) (WriteByte_spec b Bd.new_ok 34 (by decide)) ?_
  rintro v I' M' - ⟨rfl, rfl, x0, hx0, hb0, rfl⟩
  refine LoopOb.inv (ι := Nat × Bd) (fun p => { fl := [(0, .val (.string s)), (3, .val (ptr b)), (4, .val (.int .i64 p.1))], gi := I', mi := p.2.M b })
    (fun p => p.1 ≤ s.size ∧ p.2.ok ∧ p.2.bs = [34] ++ (s.data.toList.take p.1).flatMap (putB · quoL)) (fun p => s.size - p.1) ?_ ?_
  · exact ⟨(0, x0), ⟨by simp, hx0, by simp [hb0, Bd.new]⟩, .perm (by simp) .refl, .cons .refl (.cons .refl (.cons .refl .nil)), .nil⟩
  · rintro ⟨i, x⟩ ⟨hi, hx, hxb⟩
    simp only at hi hx hxb
    have hlen : x.bs.length ≤ 1 + 4 * i := by
      rw [hxb]
      have := flat_le (putB · quoL) 4 (fun c => putB_len c quoL) (s.data.toList.take i)
      have h2 := List.length_take_le i s.data.toList
      simp only [List.length_append, List.length_cons, List.length_nil]
      omega
    refine CondOb.mk (fun h => ?_) (fun h => ?_)
    · have hlt : i < s.size := by simpa using h
      have hlt' : i < s.data.toList.length := hlt
      refine StrOb.mk i rfl hlt ?_
      refine CallOb.mk (x.M b) [] _ (by simp) (put_spec b hx s[i] quoL (by omega)) ?_
      rintro v I' M' - ⟨rfl, y, hy, hyb, rfl⟩
      have hwr : IntKind.i64.wrap ((i : Int) + 1) = ((i + 1 : Nat) : Int) := by
        rw [wrap_i64 ⟨by omega, by omega⟩]
        omega
      refine ArithOb.mk _ hwr ?_
      refine ⟨(i + 1, y), ⟨⟨by simp only; omega, hy, ?_⟩, by simp only; omega⟩, .perm (by simp) .refl, .cons .refl (.cons .refl (.cons .refl .nil)), .nil⟩
      simp only
      rw [hyb, hxb, List.take_succ_eq_append_getElem hlt', List.flatMap_append, List.append_assoc]
      congr 1
      simp
      rfl
    · have hge : s.size ≤ i := by simpa using h
      have hall : s.data.toList.take i = s.data.toList := List.take_of_length_le hge
      refine CallOb.mk (x.M b) [] _ (by simp) (WriteByte_spec b hx 34 (by omega)) ?_
      rintro v I' M' - ⟨rfl, rfl, y, hy, hyb, rfl⟩
      refine CallOb.mk (y.M b) [] _ (by simp) (BString_spec b hy (by rw [hyb]; simp; omega)) ?_
      rintro v I' M' - ⟨rfl, rfl, rfl⟩
      refine ⟨_, _, .refl, ?_, rfl, by simp⟩
      rw [hyb, hxb, hall]
      rfl

def runB (p : UInt8 × UInt8) : List UInt8 :=
  putB p.1 clsL ++ ((bif decide (1 < IntKind.u8.wrap ((p.2.toNat : Int) - p.1.toNat)) then [45] else []) ++ (bif !decide ((p.2.toNat : Int) = p.1.toNat) then putB p.2 clsL else []))
def classB (deb : List Int) (a b c d : Int) : List UInt8 :=
  bif (a == notV 0 && (b == notV 0 && (c == notV 0 && d == notV 0))) then [46] else [91] ++ (runsOf (eachFrom deb 0 [a, b, c, d])).flatMap runB ++ [93]
theorem runB_len (p : UInt8 × UInt8) : (runB p).length ≤ 9 := by
  have h1 := putB_len p.1 clsL
  have h2 := putB_len p.2 clsL
  unfold runB
  cases decide (1 < IntKind.u8.wrap ((p.2.toNat : Int) - p.1.toNat)) <;> cases decide ((p.2.toNat : Int) = p.1.toNat) <;> simp <;> omega
theorem runs_le (deb : List Int) (a b c d : Int) : (runsOf (eachFrom deb 0 [a, b, c, d])).length ≤ 256 := by
  have h1 := eachFrom_len deb [a, b, c, d] 0
  have h2 := runsOf_len (eachFrom deb 0 [a, b, c, d])
  simp only [List.length_cons, List.length_nil] at h1
  omega
theorem classB_len (deb : List Int) (a b c d : Int) : (classB deb a b c d).length ≤ 2306 := by
  have h1 := runs_le deb a b c d
  have h2 := flat_le runB 9 runB_len (runsOf (eachFrom deb 0 [a, b, c, d]))
  unfold classB
  cases (a == notV 0 && (b == notV 0 && (c == notV 0 && d == notV 0)))
  · simp only [cond_false, List.length_append, List.length_cons, List.length_nil]
    omega
  · simp

set_option maxHeartbeats 1000000 in
theorem Class_spec {I : GH} {deb : List Int} (hdeb : HasDeb I deb) {a b c d : Int} (hws : ∀ x ∈ [a, b, c, d], u64ok x) : Spec Tryz.prog 229 [.agg #[.int .u64 a, .int .u64 b, .int .u64 c, .int .u64 d]] I []
    fun r I' M' => r = .string (strOf (classB deb a b c d)) ∧ (∀ b o, I b = some o → I' b = some o) ∧ M' = [] := by
  refine spec_of_V [3] TryzEOK Tryz.func229 rfl rfl rfl ?_
  intro B h0
  refine CodeOb.draw TryzEOK rfl rfl rfl ?_
  refine PCallOb.mk _ All_spec ?_
  rintro v I' M' - ⟨rfl, rfl, rfl⟩
  refine BinOb.eq4 TryzEOK (e := 63) rfl rfl rfl rfl (by kernel_rfl) ?_
  refine CondOb.mk (fun h => ?_) (fun h => ?_)
  · refine ⟨_, _, .refl, ?_, fun _ _ h => h, rfl⟩
    simp only [classB, h]
    rfl
  · refine AllocOb.mk fun g hg hgM => ?_
    refine CallOb.mk (Bd.new.M g) [] _ (.refl _) (WriteByte_spec g Bd.new_ok 91 (by decide)) ?_
    rintro v I' M' - ⟨rfl, rfl, x0, hx0, hb0, rfl⟩
    refine CallOb.mk [] (x0.M g) _ (by simp) (Runs_spec hdeb hws) ?_
    rintro v I1 M1 - ⟨hI1, os, rfl, hos, rfl⟩
    have hrl := runs_le deb a b c d
    have hcl : classB deb a b c d = [91] ++ (runsOf (eachFrom deb 0 [a, b, c, d])).flatMap runB ++ [93] := by
      simp only [classB, h]
      rfl
    generalize hrs : runsOf (eachFrom deb 0 [a, b, c, d]) = rs at *
    have hn : rs.length = os.n := by
      have := hos.len
      rw [pairV_len] at this
      omega
    refine LoopOb.inv (ι := Nat × Bd) (fun p => { fl := [(3, .val (ptr g)), (11, .val os.val), (12, .val (.int .i64 os.n)), (13, .val (.int .i64 p.1))], gi := I1, mi := p.2.M g ++ os.blk 270 })
      (fun p => p.1 ≤ os.n ∧ p.2.ok ∧ p.2.bs = [91] ++ (rs.take p.1).flatMap runB) (fun p => os.n - p.1) ?_ ?_
    · exact ⟨(0, x0), ⟨by simp, hx0, by simp [hb0, Bd.new]⟩, .perm (by simpa using List.perm_append_comm) .refl, .cons .refl (.cons .refl (.cons .refl (.cons .refl .nil))), .nil⟩
    · rintro ⟨i, x⟩ ⟨hi, hx, hxb⟩
      simp only at hi hx hxb
      have hlen : x.bs.length ≤ 1 + 9 * i := by
        rw [hxb]
        have := flat_le runB 9 runB_len (rs.take i)
        have h2 := List.length_take_le i rs
        simp only [List.length_append, List.length_cons, List.length_nil]
        omega
      refine CondOb.mk (fun h => ?_) (fun h => ?_)
      · have hlt : i < os.n := by simpa using h
        have hlt' : i < rs.length := by omega
        obtain ⟨ad, had, hrd⟩ := OS.ok.row (I := I1) (M := x.M g ++ os.blk 270) (f := pairC) (fun _ => rfl) (by decide) hos (e := 270) (fun y hy => by simp [hy]) hlt'
        refine IdxOb.mk ad i had rfl hlt ?_
        refine LoadOb.mk _ hrd ?_
        generalize hp : rs[i] = p
        refine ArrOb.mk 0 rfl (by decide) ?_
        refine CallOb.mk (x.M g) (os.blk 270) _ (.refl _) (put_spec g hx p.1 clsL (by omega)) ?_
        rintro v I' M' - ⟨rfl, y, hy, hyb, rfl⟩
        have hyl : y.bs.length ≤ 5 + 9 * i := by
          rw [hyb, List.length_append]
          have := putB_len p.1 clsL
          omega
        refine ArrOb.mk 1 rfl (by decide) ?_
        refine ArrOb.mk 0 rfl (by decide) ?_
        refine ArithOb.mk _ rfl ?_
        refine CondOb.mk (fun k1 => ?_) (fun k1 => ?_)
        · refine CallOb.mk (y.M g) (os.blk 270) _ (by simp) (WriteByte_spec g hy 45 (by omega)) ?_
          rintro v I' M' - ⟨rfl, rfl, u, hu, hub, rfl⟩
          have hul : u.bs.length ≤ 6 + 9 * i := by rw [hub]; simp; omega
          refine ArrOb.mk 1 rfl (by decide) ?_
          refine ArrOb.mk 0 rfl (by decide) ?_
          refine CondOb.mk (fun k2 => ?_) (fun k2 => ?_)
          · refine ArrOb.mk 1 rfl (by decide) ?_
            refine CallOb.mk (u.M g) (os.blk 270) _ (by simp) (put_spec g hu p.2 clsL (by omega)) ?_
            rintro v I' M' - ⟨rfl, z, hz, hzb, rfl⟩
            have hwr : IntKind.i64.wrap ((i : Int) + 1) = ((i + 1 : Nat) : Int) := by
              rw [wrap_i64 ⟨by omega, by omega⟩]
              omega
            refine ArithOb.mk _ hwr ?_
            refine ⟨(i + 1, z), ⟨⟨by simp only; omega, hz, ?_⟩, by simp only; omega⟩, .perm (by simp) .refl, .cons .refl (.cons .refl (.cons .refl (.cons .refl .nil))), .nil⟩
            simp only
            rw [hzb, hub, hyb, hxb, List.take_succ_eq_append_getElem hlt', List.flatMap_append, hp]
            simp [runB, k1, k2]
          · have hwr : IntKind.i64.wrap ((i : Int) + 1) = ((i + 1 : Nat) : Int) := by
              rw [wrap_i64 ⟨by omega, by omega⟩]
              omega
            refine ArithOb.mk _ hwr ?_
            refine ⟨(i + 1, u), ⟨⟨by simp only; omega, hu, ?_⟩, by simp only; omega⟩, .perm (by simp) .refl, .cons .refl (.cons .refl (.cons .refl (.cons .refl .nil))), .nil⟩
            simp only
            rw [hub, hyb, hxb, List.take_succ_eq_append_getElem hlt', List.flatMap_append, hp]
            simp [runB, k1, k2]
        · refine ArrOb.mk 1 rfl (by decide) ?_
          refine ArrOb.mk 0 rfl (by decide) ?_
          refine CondOb.mk (fun k2 => ?_) (fun k2 => ?_)
          · refine ArrOb.mk 1 rfl (by decide) ?_
            refine CallOb.mk (y.M g) (os.blk 270) _ (by simp) (put_spec g hy p.2 clsL (by omega)) ?_
            rintro v I' M' - ⟨rfl, z, hz, hzb, rfl⟩
            have hwr : IntKind.i64.wrap ((i : Int) + 1) = ((i + 1 : Nat) : Int) := by
              rw [wrap_i64 ⟨by omega, by omega⟩]
              omega
            refine ArithOb.mk _ hwr ?_
            refine ⟨(i + 1, z), ⟨⟨by simp only; omega, hz, ?_⟩, by simp only; omega⟩, .perm (by simp) .refl, .cons .refl (.cons .refl (.cons .refl (.cons .refl .nil))), .nil⟩
            simp only
            rw [hzb, hyb, hxb, List.take_succ_eq_append_getElem hlt', List.flatMap_append, hp]
            simp [runB, k1, k2]
          · have hwr : IntKind.i64.wrap ((i : Int) + 1) = ((i + 1 : Nat) : Int) := by
              rw [wrap_i64 ⟨by omega, by omega⟩]
              omega
            refine ArithOb.mk _ hwr ?_
            refine ⟨(i + 1, y), ⟨⟨by simp only; omega, hy, ?_⟩, by simp only; omega⟩, .perm (by simp) .refl, .cons .refl (.cons .refl (.cons .refl (.cons .refl .nil))), .nil⟩
            simp only
            rw [hyb, hxb, List.take_succ_eq_append_getElem hlt', List.flatMap_append, hp]
            simp [runB, k1, k2]
      · have hge : os.n ≤ i := by simpa using h
        have hall : rs.take i = rs := List.take_of_length_le (by omega)
        refine CallOb.mk (x.M g) (os.blk 270) _ (.refl _) (WriteByte_spec g hx 93 (by omega)) ?_
        rintro v I' M' - ⟨rfl, rfl, y, hy, hyb, rfl⟩
        refine CallOb.mk (y.M g) (os.blk 270) _ (.refl _) (BString_spec g hy (by rw [hyb]; simp; omega)) ?_
        rintro v I' M' - ⟨rfl, rfl, rfl⟩
        refine ⟨_, _, .sub (List.nil_sublist _) .refl, ?_, hI1, rfl⟩
        rw [hyb, hxb, hall, hcl]
        rfl
end Go.V

/-
  Walks: print.Count, print.ahead, print.behind.
-/
set_option linter.unusedVariables false
set_option linter.unusedSimpArgs false
namespace Go.V
open Go Go.Proofs

structure FitsSays (d : Nd) : Prop where
  k : d.k < 10
  t : d.t.size ≤ 255
  rep : d.k = 6 → 0 ≤ d.lo ∧ d.lo ≤ 99 ∧ (d.hi = -1 ∨ (d.lo ≤ d.hi ∧ d.hi ≤ 99))
theorem fits_says {d : Nd} {n : Int} (h : fits d n = true) : FitsSays d := by
  unfold fits at h
  cases h1 : decide (10 ≤ d.k) with
  | true => rw [h1] at h; cases h
  | false =>
    rw [h1] at h
    simp only [cond_false] at h
    have hk : d.k < 10 := by simpa using h1
    cases h2 : (decide (n < cntLo d.k.toNat) || (decide (0 ≤ cntHi d.k.toNat) && decide (cntHi d.k.toNat < n))) with
    | true => rw [h2] at h; cases h
    | false =>
      rw [h2] at h
      simp only [cond_false] at h
      have e0 : d.t = ⟨#[]⟩ → d.t.size ≤ 255 := fun e => by rw [e]; decide
      cases h3 : decide (d.k = 1) with
      | true =>
        rw [h3] at h
        simp only [cond_true, Bool.and_eq_true, decide_eq_true_eq] at h
        exact ⟨hk, e0 h.1, fun e => by simp at h3; omega⟩
      | false =>
        rw [h3] at h
        simp only [cond_false] at h
        cases h4 : decide (d.k = 2) with
        | true =>
          rw [h4] at h
          simp only [cond_true, Bool.and_eq_true, Bool.not_eq_true', Bool.or_eq_false_iff, decide_eq_false_iff_not] at h
          exact ⟨hk, by omega, fun e => by simp at h4; omega⟩
        | false =>
          rw [h4] at h
          simp only [cond_false] at h
          cases h5 : (decide (d.k = 3) || decide (d.k = 9)) with
          | true =>
            rw [h5] at h
            simp only [cond_true, Bool.and_eq_true] at h
            refine ⟨hk, ?_, fun e => by simp at h5; omega⟩
            have := h.1
            unfold mayName at this
            simp only [Bool.and_eq_true, decide_eq_true_eq] at this
            omega
          | false =>
            rw [h5] at h
            simp only [cond_false] at h
            cases h6 : decide (d.k = 6) with
            | true =>
              rw [h6] at h
              simp only [cond_true, Bool.and_eq_true, decide_eq_true_eq, Bool.not_eq_true', Bool.or_eq_false_iff, decide_eq_false_iff_not, Bool.and_eq_false_iff] at h
              refine ⟨hk, e0 h.2.2, fun _ => ?_⟩
              obtain ⟨⟨g1, g2, g3⟩, _⟩ := h
              refine ⟨by omega, by omega, ?_⟩
              rcases g3 with g3 | g3
              · left
                simpa using g3
              · right
                omega
            | false =>
              rw [h6] at h
              simp only [cond_false, Bool.and_eq_true, decide_eq_true_eq] at h
              exact ⟨hk, e0 h.2.1, fun e => by simp at h6; omega⟩

/-! ### Count -/
def pcountsV : List Value := [.int .i64 0, .int .i64 1, .string ⟨#[63]⟩, .int .i64 0, .int .i64 (-1), .string ⟨#[42]⟩, .int .i64 1, .int .i64 (-1), .string ⟨#[43]⟩]
def HasPCounts (I : GH) : Prop := ∃ T fr, I 2 = some (.cells pcountsV.toArray T fr)
def repB (lo : Nat) (hi : Int) : List UInt8 :=
  bif decide (hi = lo) then [123] ++ dig lo ++ [125] else
  bif decide (hi = -1) then [123] ++ dig lo ++ [44, 125] else [123] ++ dig lo ++ [44] ++ dig hi.toNat ++ [125]
def countB (lo : Nat) (hi : Int) : List UInt8 :=
  bif decide ((0 : Int) = lo) && decide (1 = hi) then [63] else
  bif decide ((0 : Int) = lo) && decide (-1 = hi) then [42] else
  bif decide ((1 : Int) = lo) && decide (-1 = hi) then [43] else repB lo hi
theorem repB_len (lo : Nat) (hi : Int) : (repB lo hi).length ≤ 7 := by
  have h1 := dig_len lo
  have h2 := dig_len hi.toNat
  unfold repB
  cases decide (hi = lo) <;> cases decide (hi = -1) <;> simp <;> omega
theorem countB_len (lo : Nat) (hi : Int) : (countB lo hi).length ≤ 7 := by
  have h1 := repB_len lo hi
  unfold countB
  cases (decide ((0 : Int) = lo) && decide (1 = hi)) <;> cases (decide ((0 : Int) = lo) && decide (-1 = hi)) <;> cases (decide ((1 : Int) = lo) && decide (-1 = hi)) <;> simp <;> omega
theorem digS_size (n : Nat) : (digS n).size ≤ 2 := dig_len n
def repNd (lo hi : Int) : Nd := ⟨6, 0, 0, 0, 0, ⟨#[]⟩, lo, hi, none, 0, 0, []⟩
theorem fits_rep {lo : Nat} {hi : Int} (hlo : lo ≤ 99) (hhi : hi = -1 ∨ ((lo : Int) ≤ hi ∧ hi ≤ 99)) : fits (repNd lo hi) 1 = true := by
  have e1 : cntLo 6 = 1 := by decide
  have e2 : cntHi 6 = 1 := by decide
  rcases hhi with rfl | ⟨h1, h2⟩
  · simp [fits, repNd, e1, e2, Nd.setZ]
    exact ⟨decide_eq_false (by omega), decide_eq_false (by omega)⟩
  · simp [fits, repNd, e1, e2, Nd.setZ]
    exact ⟨decide_eq_false (by omega), decide_eq_false (by omega), .inr ⟨decide_eq_false (by omega), decide_eq_false (by omega)⟩⟩

theorem strOf_app (a b : List UInt8) : strOf a ++ strOf b = strOf (a ++ b) := by
  apply bytes_eq
  simp [strOf]
theorem BinOb.concatL {P : Program} {t : Nat} {x y : Operand} {a b : List UInt8} (hs : a.length + b.length ≤ 9223372036854775807) {V : Value → Prop} {other : Prop} (h : V (.string (strOf (a ++ b)))) : BinOb P .add t x y (.val (.string (strOf a))) (.val (.string (strOf b))) V other :=
  BinOb.concat (a := strOf a) (b := strOf b) hs (by rw [strOf_app]; exact h)

theorem Count_spec {I : GH} (hc : HasCounts I) (hp : HasPCounts I) (lo : Nat) (hi : Int) (hlo : lo ≤ 99) (hhi : hi = -1 ∨ ((lo : Int) ≤ hi ∧ hi ≤ 99)) : Spec Tryz.prog 230 [.int .i64 lo, .int .i64 hi] I []
    fun r I' M' => r = .string (strOf (countB lo hi)) ∧ I' = I ∧ M' = [] := by
  refine spec_of_V [] TryzEOK Tryz.func230 rfl rfl rfl ?_
  intro B h0
  have hok : (repNd lo hi).ok I := ⟨by simp [repNd], by simp [repNd, u64ok], by simp [repNd, u64ok], by simp [repNd, u64ok], by simp [repNd, u64ok], by show (0 : Nat) ≤ _; omega, ⟨by simp only [repNd]; omega, by simp only [repNd]; omega⟩, ⟨by simp only [repNd]; omega, by simp only [repNd]; omega⟩, ⟨rfl, ⟨Nat.le_refl _, by simp [repNd]⟩, .inl rfl⟩, by simp [repNd]⟩
  refine CallOb.mk [] [] _ (.refl _) (Fits_spec hc hok 1) ?_
  rintro v I' M' - ⟨rfl, rfl, rfl⟩
  rw [fits_rep hlo hhi]
  refine CondOb.mk (fun h => by cases h) (fun _ => ?_)
  have hrd : Rd I' ([] ++ []) ⟨2, 0, none⟩ 9 pcountsV := by
    obtain ⟨T, fr, hp⟩ := hp
    exact ⟨rfl, _, T, fr, .inl hp, rfl, rfl⟩
  refine LoadOb.mk _ hrd ?_
  refine LoopOb.inv (ι := Nat) (fun i => { fl := [(0, .val (.int .i64 lo)), (1, .val (.int .i64 hi)), (12, .val (.agg pcountsV.toArray)), (13, .val (.int .i64 i))], gi := I' })
    (fun i => i ≤ 3 ∧ (1 ≤ i → (decide ((0 : Int) = lo) && decide (1 = hi)) = false) ∧ (2 ≤ i → (decide ((0 : Int) = lo) && decide (-1 = hi)) = false) ∧ (3 ≤ i → (decide ((1 : Int) = lo) && decide (-1 = hi)) = false)) (fun i => 3 - i) ?_ ?_
  · exact ⟨0, ⟨by simp, by simp, by simp, by simp⟩, .refl, .cons .refl (.cons .refl (.cons .refl (.cons .refl .nil))), .nil⟩
  · rintro i ⟨hi3, m1, m2, m3⟩
    match i, hi3 with
    | 0, _ =>
      refine CondOb.mk (fun _ => ?_) (fun h => by simp at h)
      refine ArrOb.mk 0 rfl (by decide) ?_
      have next : (decide ((0 : Int) = lo) && decide (1 = hi)) = false → (((0 + 1 : Nat) ≤ 3 ∧ (1 ≤ (0 + 1 : Nat) → (decide ((0 : Int) = lo) && decide (1 = hi)) = false) ∧ (2 ≤ (0 + 1 : Nat) → (decide ((0 : Int) = lo) && decide (-1 = hi)) = false) ∧ (3 ≤ (0 + 1 : Nat) → (decide ((1 : Int) = lo) && decide (-1 = hi)) = false)) ∧ 3 - (0 + 1) < 3 - 0) := fun h => by
        refine ⟨⟨by simp, fun _ => ?_, fun hh => ?_, fun hh => ?_⟩, by simp⟩
        · exact h
        · simp at hh
        · simp at hh
      refine GuardOb.mk (fun g1 => ?_) (fun g1 => ?_)
      · refine CondOb.mk (fun g2 => ?_) (fun g2 => ?_)
        · refine ⟨_, _, .refl, ?_, rfl, rfl⟩
          have : countB lo hi = [63] := by
            unfold countB
            rw [g1, g2]
            rfl
          rw [this]
          rfl
        · refine ArithOb.mk 1 (by decide) ?_
          exact ⟨1, next (by rw [g1, g2]; rfl), .refl, .cons .refl (.cons .refl (.cons .refl (.cons .refl .nil))), .nil⟩
      · refine ArithOb.mk 1 (by decide) ?_
        exact ⟨1, next (by rw [g1]; rfl), .refl, .cons .refl (.cons .refl (.cons .refl (.cons .refl .nil))), .nil⟩
    | 1, _ =>
      refine CondOb.mk (fun _ => ?_) (fun h => by simp at h)
      refine ArrOb.mk 1 rfl (by decide) ?_
      have next : (decide ((0 : Int) = lo) && decide (-1 = hi)) = false → (((1 + 1 : Nat) ≤ 3 ∧ (1 ≤ (1 + 1 : Nat) → (decide ((0 : Int) = lo) && decide (1 = hi)) = false) ∧ (2 ≤ (1 + 1 : Nat) → (decide ((0 : Int) = lo) && decide (-1 = hi)) = false) ∧ (3 ≤ (1 + 1 : Nat) → (decide ((1 : Int) = lo) && decide (-1 = hi)) = false)) ∧ 3 - (1 + 1) < 3 - 1) := fun h => by
        refine ⟨⟨by simp, fun _ => ?_, fun hh => ?_, fun hh => ?_⟩, by simp⟩
        · exact m1 (by decide)
        · exact h
        · simp at hh
      refine GuardOb.mk (fun g1 => ?_) (fun g1 => ?_)
      · refine CondOb.mk (fun g2 => ?_) (fun g2 => ?_)
        · refine ⟨_, _, .refl, ?_, rfl, rfl⟩
          have : countB lo hi = [42] := by
            unfold countB
            rw [m1 (by decide), g1, g2]
            rfl
          rw [this]
          rfl
        · refine ArithOb.mk 2 (by decide) ?_
          exact ⟨2, next (by rw [g1, g2]; rfl), .refl, .cons .refl (.cons .refl (.cons .refl (.cons .refl .nil))), .nil⟩
      · refine ArithOb.mk 2 (by decide) ?_
        exact ⟨2, next (by rw [g1]; rfl), .refl, .cons .refl (.cons .refl (.cons .refl (.cons .refl .nil))), .nil⟩
    | 2, _ =>
      refine CondOb.mk (fun _ => ?_) (fun h => by simp at h)
      refine ArrOb.mk 2 rfl (by decide) ?_
      have next : (decide ((1 : Int) = lo) && decide (-1 = hi)) = false → (((2 + 1 : Nat) ≤ 3 ∧ (1 ≤ (2 + 1 : Nat) → (decide ((0 : Int) = lo) && decide (1 = hi)) = false) ∧ (2 ≤ (2 + 1 : Nat) → (decide ((0 : Int) = lo) && decide (-1 = hi)) = false) ∧ (3 ≤ (2 + 1 : Nat) → (decide ((1 : Int) = lo) && decide (-1 = hi)) = false)) ∧ 3 - (2 + 1) < 3 - 2) := fun h => by
        refine ⟨⟨by simp, fun _ => ?_, fun hh => ?_, fun hh => ?_⟩, by simp⟩
        · exact m1 (by decide)
        · exact m2 (by decide)
        · exact h
      refine GuardOb.mk (fun g1 => ?_) (fun g1 => ?_)
      · refine CondOb.mk (fun g2 => ?_) (fun g2 => ?_)
        · refine ⟨_, _, .refl, ?_, rfl, rfl⟩
          have : countB lo hi = [43] := by
            unfold countB
            rw [m1 (by decide), m2 (by decide), g1, g2]
            rfl
          rw [this]
          rfl
        · refine ArithOb.mk 3 (by decide) ?_
          exact ⟨3, next (by rw [g1, g2]; rfl), .refl, .cons .refl (.cons .refl (.cons .refl (.cons .refl .nil))), .nil⟩
      · refine ArithOb.mk 3 (by decide) ?_
        exact ⟨3, next (by rw [g1]; rfl), .refl, .cons .refl (.cons .refl (.cons .refl (.cons .refl .nil))), .nil⟩
    | 3, _ =>
      refine CondOb.mk (fun h => by simp at h) (fun _ => ?_)
      have e1 := m1 (by decide)
      have e2 := m2 (by decide)
      have e3 := m3 (by decide)
      have hcb : countB lo hi = repB lo hi := by
        unfold countB
        rw [e1, e2, e3]
        rfl
      rw [hcb]
      have hl2 := digS_size lo
      have hh2 := digS_size hi.toNat
      have hl2 := dig_len lo
      refine CondOb.mk (fun h => ?_) (fun h => ?_)
      · refine CallOb.mk [] [] _ (.refl _) (Show_spec lo (by omega)) ?_
        rintro v I' M' - ⟨rfl, rfl, rfl⟩
        refine BinOb.concatL (a := [123]) (b := dig lo) (by simp; omega) ?_
        refine BinOb.concatL (a := [123] ++ dig lo) (b := [125]) (by simp; omega) ?_
        refine ⟨_, _, .refl, ?_, rfl, rfl⟩
        rw [repB, h]
        rfl
      · refine CondOb.mk (fun k => ?_) (fun k => ?_)
        · refine CallOb.mk [] [] _ (.refl _) (Show_spec lo (by omega)) ?_
          rintro v I' M' - ⟨rfl, rfl, rfl⟩
          refine BinOb.concatL (a := [123]) (b := dig lo) (by simp; omega) ?_
          refine BinOb.concatL (a := [123] ++ dig lo) (b := [44, 125]) (by simp; omega) ?_
          refine ⟨_, _, .refl, ?_, rfl, rfl⟩
          rw [repB, h, k]
          rfl
        · refine CallOb.mk [] [] _ (.refl _) (Show_spec lo (by omega)) ?_
          rintro v I' M' - ⟨rfl, rfl, rfl⟩
          have hk : hi ≠ -1 := by simpa using k
          obtain ⟨hn, rfl⟩ := Int.eq_ofNat_of_zero_le (show 0 ≤ hi by omega)
          have hh2 := dig_len hn
          refine BinOb.concatL (a := [123]) (b := dig lo) (by simp; omega) ?_
          refine BinOb.concatL (a := [123] ++ dig lo) (b := [44]) (by simp; omega) ?_
          refine CallOb.mk [] [] _ (.refl _) (Show_spec hn (by omega)) ?_
          rintro v I' M' - ⟨rfl, rfl, rfl⟩
          refine BinOb.concatL (a := [123] ++ dig lo ++ [44]) (b := dig hn) (by simp; omega) ?_
          refine BinOb.concatL (a := [123] ++ dig lo ++ [44] ++ dig hn) (b := [125]) (by simp; omega) ?_
          refine ⟨_, _, .refl, ?_, rfl, rfl⟩
          rw [repB, h, k]
          rfl

/-! ### Signs -/
def signsL : List (List UInt8) := [[], [], [], [], [], [], [], [], [], [], [], [], [], [32], [], [], [32, 47, 32], [], [], [], [], [38], [], [], [33], [], [], [60], [], [62]]
def sgn (j : Nat) : List UInt8 := signsL.getD j []
def HasSigns (I : GH) : Prop := ∃ T fr, I 1 = some (.cells (signsL.map fun l => Value.string (strOf l)).toArray T fr)
theorem HasSigns.rd {I : GH} (h : HasSigns I) (M : List Blk) {i j : Nat} (hj : i + j < 30) : Rd I M ((Addr.add ⟨1, 0, none⟩ i).add j) 1 [.string (strOf (sgn (i + j)))] := by
  obtain ⟨T, fr, h⟩ := h
  rw [add2, addr_add _ rfl]
  refine ⟨rfl, _, T, fr, .inl h, ?_, rfl⟩
  have h1 : i + j < (signsL.map fun l => Value.string (strOf l)).length := by simp [signsL]; omega
  have h2 : i + j < signsL.length := by simp [signsL]; omega
  simp only [Nat.zero_add]
  rw [List.drop_eq_getElem_cons h1, List.take_succ_cons, List.take_zero]
  simp [sgn, List.getD_eq_getElem?_getD, h2]
theorem sgn_len (j : Nat) : (sgn j).length ≤ 3 := by
  by_cases h : j < 30
  · have : ∀ j : Fin 30, (sgn j.val).length ≤ 3 := by decide
    exact this ⟨j, h⟩
  · have : signsL.length ≤ j := by simp [signsL]; omega
    simp [sgn, List.getD_eq_getElem?_getD, this]

def aheadB (deb : List Int) (d : Nd) : List UInt8 :=
  bif decide (d.k = 0) || decide (d.k = 2) then litB d.t else
  bif decide (d.k = 1) then classB deb d.s0 d.s1 d.s2 d.s3 else
  bif decide (d.k = 3) then d.t.data.toList else
  bif decide (d.k = 9) then sgn 27 ++ d.t.data.toList ++ [58, 32] else sgn (d.k.toNat * 3)
def behindB (d : Nd) : List UInt8 := bif decide (d.k = 6) then countB d.lo.toNat d.hi else sgn (d.k.toNat * 3 + 2)
theorem strOf_self (s : ByteArray) : strOf s.data.toList = s := bytes_eq (by simp [strOf])

theorem behind_spec {I : GH} (hc : HasCounts I) (hp : HasPCounts I) (hsg : HasSigns I) {d : Nd} (hd : d.ok I) (hf : FitsSays d) : Spec Tryz.prog 215 [d.val] I [] fun r I' M' => r = .string (strOf (behindB d)) ∧ I' = I ∧ M' = [] := by
  refine spec_of_V [] TryzEOK Tryz.func215 rfl rfl rfl ?_
  intro B h0
  refine CondOb.mk (fun h => ?_) (fun h => ?_)
  · obtain ⟨g1, g2, g3⟩ := hf.rep (by simpa using h)
    have e1 : d.lo = ((d.lo.toNat : Nat) : Int) := by omega
    have hcs := Count_spec hc hp d.lo.toNat d.hi (by omega) (by omega)
    rw [← e1] at hcs
    refine CallOb.mk [] [] _ (.refl _) hcs ?_
    rintro v I' M' - ⟨rfl, rfl, rfl⟩
    refine ⟨_, _, .refl, ?_, rfl, rfl⟩
    simp only [behindB, h]
    rfl
  · have hk := hd.k
    have hk1 := hf.k
    refine ArrOb.mk d.k.toNat (by omega) (by omega) ?_
    refine LoadOb.mk _ (hsg.rd _ (by show d.k.toNat * 3 + 2 < 30; omega)) ?_
    refine ⟨_, _, .refl, ?_, rfl, rfl⟩
    simp only [behindB, h]
    rfl

theorem ahead_spec {I : GH} {deb : List Int} (hdeb : HasDeb I deb) (hsg : HasSigns I) {d : Nd} (hd : d.ok I) (hf : FitsSays d) : Spec Tryz.prog 213 [d.val] I []
    fun r I' M' => r = .string (strOf (aheadB deb d)) ∧ (∀ b o, I b = some o → I' b = some o) ∧ M' = [] := by
  refine spec_of_V [] TryzEOK Tryz.func213 rfl rfl rfl ?_
  intro B h0
  have hk := hd.k
  have hk1 := hf.k
  have ht := hf.t
  have lit : (decide (d.k = 0) || decide (d.k = 2)) = true → aheadB deb d = litB d.t := fun h => by
    simp only [aheadB, h]
    rfl
  refine CondOb.mk (fun h1 => ?_) (fun h1 => ?_)
  · refine CondOb.mk (fun _ => ?_) (fun h => by rw [h1] at h; cases h)
    refine CallOb.mk [] [] _ (.refl _) (Literal_spec d.t (by omega)) ?_
    rintro v I' M' - ⟨rfl, rfl, rfl⟩
    refine ⟨_, _, .refl, ?_, fun _ _ h => h, rfl⟩
    rw [lit (by rw [h1]; rfl)]
  · refine CondOb.mk (fun h2 => ?_) (fun h2 => ?_)
    · refine CallOb.mk [] [] _ (.refl _) (Literal_spec d.t (by omega)) ?_
      rintro v I' M' - ⟨rfl, rfl, rfl⟩
      refine ⟨_, _, .refl, ?_, fun _ _ h => h, rfl⟩
      rw [lit (by rw [h2]; simp)]
    · refine CondOb.mk (fun h3 => ?_) (fun h3 => ?_)
      · refine CallOb.mk [] [] _ (.refl _) (Class_spec hdeb (a := d.s0) (b := d.s1) (c := d.s2) (d := d.s3) (fun x hx => by
          simp only [List.mem_cons, List.not_mem_nil, or_false] at hx
          rcases hx with rfl | rfl | rfl | rfl
          · exact hd.s0
          · exact hd.s1
          · exact hd.s2
          · exact hd.s3)) ?_
        rintro v I' M' - ⟨rfl, hI, rfl⟩
        refine ⟨_, _, .refl, ?_, hI, rfl⟩
        simp only [aheadB, h1, h2, h3]
        rfl
      · refine CondOb.mk (fun h4 => ?_) (fun h4 => ?_)
        · refine ⟨_, _, .refl, ?_, fun _ _ h => h, rfl⟩
          simp only [aheadB, h1, h2, h3, h4]
          rw [← strOf_self d.t]
          rfl
        · refine CondOb.mk (fun h5 => ?_) (fun h5 => ?_)
          · have hk9 : d.k = 9 := by simpa using h5
            refine CodeOb.draw TryzEOK rfl rfl rfl ?_
            refine ArrOb.mk 9 hk9 (by decide) ?_
            refine LoadOb.mk _ (hsg.rd _ (by decide)) ?_
            have hs1 : (strOf (sgn 27)).size = 1 := by decide
            refine BinOb.concat (a := strOf (sgn 27)) (b := d.t) (by omega) ?_
            refine BinOb.concat (a := strOf (sgn 27) ++ d.t) (b := strOf [58, 32]) (by rw [ByteArray.size_append]; show _ + 2 ≤ _; omega) ?_
            refine ⟨_, _, .refl, ?_, fun _ _ h => h, rfl⟩
            simp only [aheadB, h1, h2, h3, h4, h5]
            refine congrArg Value.string (bytes_eq ?_)
            simp [strOf]
          · refine ArrOb.mk d.k.toNat (by omega) (by omega) ?_
            refine LoadOb.mk _ (hsg.rd _ (by show d.k.toNat * 3 + 0 < 30; omega)) ?_
            refine ⟨_, _, .refl, ?_, fun _ _ h => h, rfl⟩
            simp only [aheadB, h1, h2, h3, h4, h5]
            rfl
end Go.V

/-
  Plain: the text of a tree, its length, how much is still to be written. No program in sight.
-/
set_option linter.unusedVariables false
set_option linter.unusedSimpArgs false
namespace Go.V
open Go

def kindAt (ns : List Nd) (k : Int) : Int := (ns.map (·.k)).getD k.toNat 0
def paren (w : Bool) (s : List UInt8) : List UInt8 := (bif w then [40] else []) ++ (s ++ (bif w then [41] else []))
/-- The children's texts, what stands between two of them ahead of each, but for the first one. -/
def kidsT (sep : List UInt8) (f : Int → List UInt8) : Bool → List Int → List UInt8
  | _, [] => []
  | b, k :: ks => (bif b then sep else []) ++ (f k ++ kidsT sep f true ks)
def sepOf (d : Nd) : List UInt8 := sgn (d.k.toNat * 3 + 1)
def nodeT (deb : List Int) (ns : List Nd) (d : Nd) (g : Int → List UInt8) : List UInt8 :=
  aheadB deb d ++ (kidsT (sepOf d) (fun k => paren (wrapsV d.k (kindAt ns k)) (g k)) false d.kids ++ behindB d)
def textOf (deb : List Int) (ns : List Nd) : Int → List UInt8 := tabOf [] (nodeT deb ns) ns
def treeB (deb : List Int) (t : Tr) : List UInt8 := bif right t then textOf deb t.ns t.root else []

theorem kidsT_congr {sep : List UInt8} {f g : Int → List UInt8} : ∀ {ks : List Int} {b : Bool}, (∀ k ∈ ks, f k = g k) → kidsT sep f b ks = kidsT sep g b ks
  | [], b, _ => rfl
  | k :: ks, b, h => by
    unfold kidsT
    rw [h k (by simp), kidsT_congr fun x hx => h x (by simp [hx])]
theorem textOf_eq {deb : List Int} {t : Tr} (hr : right t = true) {j : Nat} (hj : j < t.ns.length) : textOf deb t.ns j = nodeT deb t.ns t.ns[j] (textOf deb t.ns) := by
  refine tabOf_eq (fun d g g' h => ?_) hr hj
  unfold nodeT
  rw [kidsT_congr fun k hk => by rw [h k hk]]

/-! ### Lengths -/
theorem paren_len (w : Bool) (s : List UInt8) : (paren w s).length ≤ s.length + 2 := by
  cases w <;> simp [paren]
theorem kidsT_len {sep : List UInt8} {f : Int → List UInt8} (hs : sep.length ≤ 3) {g : Int → Nat} (hf : ∀ k, (f k).length + 3 ≤ g k) : ∀ {ks : List Int} {b : Bool}, (kidsT sep f b ks).length ≤ sumOf g ks
  | [], b => by simp [kidsT, sumOf]
  | k :: ks, b => by
    have h1 := kidsT_len hs hf (ks := ks) (b := true)
    have h2 := hf k
    unfold kidsT
    simp only [List.length_append, sumOf, List.map_cons, List.sum_cons] at h1 ⊢
    cases b <;> simp <;> omega
theorem aheadB_len (deb : List Int) {d : Nd} (hf : FitsSays d) : (aheadB deb d).length ≤ 2400 := by
  have h1 : (litB d.t).length ≤ 2 + 4 * d.t.size := by
    have := flat_le (putB · quoL) 4 (fun c => putB_len c quoL) d.t.data.toList
    have h2 : d.t.data.toList.length = d.t.size := rfl
    simp only [litB, List.length_append, List.length_cons, List.length_nil]
    omega
  have h2 := classB_len deb d.s0 d.s1 d.s2 d.s3
  have h3 := hf.t
  have h4 := sgn_len 27
  have h5 := sgn_len (d.k.toNat * 3)
  have h6 : d.t.data.toList.length = d.t.size := rfl
  unfold aheadB
  cases (decide (d.k = 0) || decide (d.k = 2)) <;> cases decide (d.k = 1) <;> cases decide (d.k = 3) <;> cases decide (d.k = 9) <;> simp only [cond_true, cond_false, List.length_append, List.length_cons, List.length_nil] <;> omega
theorem behindB_len (d : Nd) : (behindB d).length ≤ 7 := by
  have h1 := countB_len d.lo.toNat d.hi
  have h2 := sgn_len (d.k.toNat * 3 + 2)
  unfold behindB
  cases decide (d.k = 6) <;> simp only [cond_true, cond_false] <;> omega
theorem sum_const {α : Type} (c : Nat) : ∀ l : List α, (l.map fun _ => c).sum = c * l.length
  | [] => by simp
  | x :: l => by
    rw [List.map_cons, List.sum_cons, sum_const c l, List.length_cons, Nat.mul_add]
    omega
theorem text_len {deb : List Int} {t : Tr} (hr : right t = true) : (textOf deb t.ns t.root).length + 5 ≤ 2412 * t.ns.length := by
  have h := right_sum hr (g := fun k => (textOf deb t.ns k).length + 5) (c := fun _ => 2412) fun j hj => by
    rw [textOf_eq hr hj]
    have h1 := aheadB_len deb (fits_says (right_fits hr hj))
    have h2 := behindB_len t.ns[j]
    have h3 := kidsT_len (sep := sepOf t.ns[j]) (sgn_len _) (f := fun k => paren (wrapsV t.ns[j].k (kindAt t.ns k)) (textOf deb t.ns k)) (g := fun k => (textOf deb t.ns k).length + 5)
      (fun k => by have := paren_len (wrapsV t.ns[j].k (kindAt t.ns k)) (textOf deb t.ns k); omega) (ks := t.ns[j].kids) (b := false)
    unfold nodeT
    simp only [List.length_append]
    omega
  rw [sum_const] at h
  exact h
theorem treeB_len (deb : List Int) (t : Tr) : (treeB deb t).length ≤ 2412 * t.ns.length := by
  unfold treeB
  cases hr : right t with
  | false => simp
  | true =>
    have := text_len (deb := deb) hr
    simp only [cond_true]
    omega

/-! ### What is open -/
abbrev Open := Nat × Nat × Bool
def openC (e : Open) : List Value := [.int .i64 e.1, .int .i64 e.2.1, .bool e.2.2]
def nodeAt (ns : List Nd) (j : Nat) : Nd := ns.getD j ⟨0, 0, 0, 0, 0, .empty, 0, 0, none, 0, 0, []⟩
def kidF (deb : List Int) (ns : List Nd) (d : Nd) (k : Int) : List UInt8 := paren (wrapsV d.k (kindAt ns k)) (textOf deb ns k)
def headE (deb : List Int) (ns : List Nd) (e : Open) : List UInt8 := bif decide ((e.2.1 : Int) = 0) then (bif e.2.2 then [40] else []) ++ aheadB deb (nodeAt ns e.1) else []
def restE (deb : List Int) (ns : List Nd) (e : Open) : List UInt8 :=
  headE deb ns e ++ (kidsT (sepOf (nodeAt ns e.1)) (kidF deb ns (nodeAt ns e.1)) (decide (0 < (e.2.1 : Int))) ((nodeAt ns e.1).kids.drop e.2.1) ++ (behindB (nodeAt ns e.1) ++ (bif e.2.2 then [41] else [])))
def wtOf (ns : List Nd) : Int → Nat := tabOf 0 (fun d g => 2 + sumOf g d.kids) ns
def muE (ns : List Nd) (e : Open) : Nat := 1 + sumOf (wtOf ns) ((nodeAt ns e.1).kids.drop e.2.1)
def muAll (ns : List Nd) (st : List Open) : Nat := (st.map (muE ns)).sum
def restAll (deb : List Int) (ns : List Nd) (st : List Open) : List UInt8 := st.reverse.flatMap (restE deb ns)
theorem restAll_snoc (deb : List Int) (ns : List Nd) (st : List Open) (e : Open) : restAll deb ns (st ++ [e]) = restE deb ns e ++ restAll deb ns st := by
  simp [restAll]
theorem muAll_snoc (ns : List Nd) (st : List Open) (e : Open) : muAll ns (st ++ [e]) = muAll ns st + muE ns e := by
  simp [muAll]
theorem muAll_len (ns : List Nd) : ∀ st : List Open, st.length ≤ muAll ns st
  | [] => by simp
  | e :: st => by
    have := muAll_len ns st
    simp only [muAll, List.map_cons, List.sum_cons, List.length_cons, muE] at this ⊢
    omega
theorem nodeAt_eq {ns : List Nd} {j : Nat} (h : j < ns.length) : nodeAt ns j = ns[j] := by
  simp [nodeAt, List.getD_eq_getElem?_getD, h]
theorem sumOf_congr {g g' : Int → Nat} {ks : List Int} (h : ∀ k ∈ ks, g k = g' k) : sumOf g ks = sumOf g' ks := by
  unfold sumOf
  rw [List.map_congr_left h]
theorem wtOf_eq {t : Tr} (hr : right t = true) {j : Nat} (hj : j < t.ns.length) : wtOf t.ns j = 2 + sumOf (wtOf t.ns) t.ns[j].kids :=
  tabOf_eq (fun d g g' h => by rw [sumOf_congr h]) hr hj
theorem wt_root {t : Tr} (hr : right t = true) : wtOf t.ns t.root ≤ 2 * t.ns.length := by
  have := right_sum hr (g := wtOf t.ns) (c := fun _ => 2) fun j hj => by rw [wtOf_eq hr hj]; exact Nat.le_refl _
  rwa [sum_const] at this
/-- A node that is begun. -/
theorem restE_new {deb : List Int} {t : Tr} (hr : right t = true) {j : Nat} (hj : j < t.ns.length) (w : Bool) : restE deb t.ns (j, 0, w) = paren w (textOf deb t.ns j) := by
  rw [textOf_eq hr hj]
  simp only [restE, headE, nodeAt_eq hj]
  cases w <;> simp [paren, nodeT, kidF] <;> rfl
theorem muE_new {t : Tr} (hr : right t = true) {j : Nat} (hj : j < t.ns.length) (w : Bool) : muE t.ns (j, 0, w) + 1 = wtOf t.ns j := by
  rw [wtOf_eq hr hj]
  simp [muE, nodeAt_eq hj]
  omega
/-- A step: the next child. -/
theorem restE_kid {deb : List Int} {t : Tr} (hr : right t = true) {j i : Nat} (hj : j < t.ns.length) {w : Bool} (hi : i < t.ns[j].kids.length) :
    restE deb t.ns (j, i, w) = headE deb t.ns (j, i, w) ++ ((bif decide (0 < (i : Int)) then sepOf t.ns[j] else []) ++ (restE deb t.ns (t.ns[j].kids[i].toNat, 0, wrapsV t.ns[j].k (kindAt t.ns t.ns[j].kids[i])) ++ restE deb t.ns (j, i + 1, w))) := by
  have hk := right_kids hr j hj _ (List.getElem_mem hi)
  rw [restE_new hr (by omega)]
  have e1 : (((t.ns[j].kids[i].toNat : Nat) : Int)) = t.ns[j].kids[i] := Int.toNat_of_nonneg hk.1
  rw [e1]
  have hd := List.drop_eq_getElem_cons hi
  simp only [restE, nodeAt_eq hj]
  rw [hd]
  have e2 : headE deb t.ns (j, i + 1, w) = [] := by
    have : decide (((i + 1 : Nat) : Int) = 0) = false := decide_eq_false (by omega)
    simp only [headE, this, cond_false]
  have e3 : decide (0 < ((i + 1 : Nat) : Int)) = true := decide_eq_true (by omega)
  rw [e2, e3]
  simp only [kidsT, kidF, List.append_assoc, List.nil_append]
theorem muE_kid {t : Tr} (hr : right t = true) {j i : Nat} (hj : j < t.ns.length) {w w' : Bool} (hi : i < t.ns[j].kids.length) : muE t.ns (j, i + 1, w) + muE t.ns (t.ns[j].kids[i].toNat, 0, w') + 1 = muE t.ns (j, i, w) := by
  have hk := right_kids hr j hj _ (List.getElem_mem hi)
  have h1 := muE_new hr (j := t.ns[j].kids[i].toNat) (by omega) w'
  have e1 : (((t.ns[j].kids[i].toNat : Nat) : Int)) = t.ns[j].kids[i] := Int.toNat_of_nonneg hk.1
  rw [e1] at h1
  have hd := List.drop_eq_getElem_cons hi
  have e3 : muE t.ns (j, i, w) = 1 + sumOf (wtOf t.ns) (t.ns[j].kids.drop i) := by simp [muE, nodeAt_eq hj]
  have e4 : muE t.ns (j, i + 1, w) = 1 + sumOf (wtOf t.ns) (t.ns[j].kids.drop (i + 1)) := by simp [muE, nodeAt_eq hj]
  rw [e3, e4, hd]
  simp only [sumOf, List.map_cons, List.sum_cons]
  omega
theorem restE_end {deb : List Int} {t : Tr} {j i : Nat} (hj : j < t.ns.length) {w : Bool} (hi : t.ns[j].kids.length ≤ i) : restE deb t.ns (j, i, w) = headE deb t.ns (j, i, w) ++ (behindB t.ns[j] ++ (bif w then [41] else [])) := by
  simp only [restE, nodeAt_eq hj, List.drop_eq_nil_of_le hi]
  rfl
end Go.V

/-
  Walks: print.Tree.
-/
set_option linter.unusedVariables false
set_option linter.unusedSimpArgs false
namespace Go.V
open Go Go.Proofs

theorem upd_self {F : Fr} {d : Nat} {x : SV} (h : F d = x) : upd F d x = F := by
  funext t
  unfold upd
  cases e : Nat.beq t d with
  | false => rfl
  | true =>
    have := Nat.eq_of_beq_eq_true e
    subst this
    exact h.symm
theorem updB_self {C : Bx} {d : Nat} {x : Option (List Value)} (h : C d = x) : updB C d x = C := by
  funext t
  unfold updB
  cases e : Nat.beq t d with
  | false => rfl
  | true =>
    have := Nat.eq_of_beq_eq_true e
    subst this
    exact h.symm
/-- The body of the first scope in a code. -/
def scopeIn : Code → Code
  | .scope c => c
  | .seq a b => match scopeIn a with
    | .skip => scopeIn b
    | c => c
  | _ => .skip
def labelIn (c : Code) (l : Nat) : Code := (findLabel c l).getD .skip

theorem StoreOb.add2 {M : List Blk} {b i j : Nat} {vs : List Value} {K : List Blk → Prop} (pre post : List Blk) (cs : Array Value) (T : Nat) (hM : M = pre ++ ⟨b, .cells cs T (0, 0)⟩ :: post) (hb : i + j + vs.length ≤ cs.size) (h1 : allOne vs = true)
    (h : K (pre ++ ⟨b, .cells (splice cs.toList (i + j) vs).toArray T (0, 0)⟩ :: post)) : StoreOb M (((⟨b, 0, none⟩ : Addr).add i).add j) vs K := by
  rw [Go.V.add2]
  refine StoreOb.add pre post cs T hM (by omega) h1 ?_
  rw [Nat.zero_add]
  exact h

/-- The tables that the printer reads. -/
structure Tabs (I : GH) (deb : List Int) : Prop where
  c : HasCounts I
  p : HasPCounts I
  s : HasSigns I
  d : HasDeb I deb
theorem perm1 {α : Type} (a b c : α) (L : List α) : (a :: b :: (L ++ [c])).Perm ([b, c] ++ (a :: L)) :=
  (List.Perm.swap b a _).trans (((((List.perm_append_singleton c L).cons a)).trans (List.Perm.swap c a L)).cons b)
theorem splice_mid (pre : List Value) (a b c z : Value) (rest : List Value) : splice (pre ++ ([a, b, c] ++ rest)) (pre.length + 1) [z] = pre ++ ([a, z, c] ++ rest) := by
  have := splice_at pre a b z (c :: rest) _ rfl
  exact this
theorem Tabs.mono {I I' : GH} {deb : List Int} (h : Tabs I deb) (hI : ∀ b o, I b = some o → I' b = some o) : Tabs I' deb := by
  obtain ⟨⟨T1, f1, h1⟩, ⟨T2, f2, h2⟩, ⟨T3, f3, h3⟩, ⟨h4, h5, T4, f4, h6⟩⟩ := h
  exact ⟨⟨T1, f1, hI _ _ h1⟩, ⟨T2, f2, hI _ _ h2⟩, ⟨T3, f3, hI _ _ h3⟩, ⟨h4, h5, T4, f4, hI _ _ h6⟩⟩

def stackV (st : List Open) : List Value := st.flatMap openC
theorem stackV_len (st : List Open) : (stackV st).length = st.length * 3 := flat_len openC 3 (fun _ => rfl) st
theorem stackV_snoc (st : List Open) (e : Open) : stackV (st ++ [e]) = stackV st ++ [.int .i64 e.1, .int .i64 e.2.1, .bool e.2.2] := by
  simp [stackV, openC]

abbrev TreeI := Bd × OS × List Open × GH
def treeLP (t : Tr) (g : Nat) (x : TreeI) : LP := { fl := [(1, .ref 1 0), (3, .val (ptr g)), (4, .val x.2.1.val)], cl := [(1, t.cells)], gi := x.2.2.2, mi := x.2.1.blk 257 ++ x.1.M g }
structure TreeInv (I0 : GH) (deb : List Int) (t : Tr) (x : TreeI) : Prop where
  le : ∀ b o, I0 b = some o → x.2.2.2 b = some o
  ok : x.1.ok
  os : x.2.1.ok 3 (stackV x.2.2.1)
  ne : x.2.2.1 ≠ []
  inn : ∀ e ∈ x.2.2.1, e.1 < t.ns.length
  txt : x.1.bs ++ restAll deb t.ns x.2.2.1 = textOf deb t.ns t.root
  mu : muAll t.ns x.2.2.1 ≤ 2 * t.ns.length

set_option maxHeartbeats 8000000 in
set_option maxRecDepth 4000 in
theorem Tree_pass {I0 : GH} {deb : List Int} (hT : Tabs I0 deb) {t : Tr} (ht : t.ok I0) (hr : right t = true) (hn : t.n ≤ 1024) {g : Nat} {p : Nat → Nat × TreeI → Prop} (x : TreeI) (hx : TreeInv I0 deb t x)
    (hp : ∀ y, TreeInv I0 deb t y → muAll t.ns y.2.2.1 < muAll t.ns x.2.2.1 → p 0 (g, y)) (B : Nat) (h0 : World) (G : Fr) (GC : Bx) :
    V ⟨Tryz.prog, TryzE, [3], Tryz.f202.ntmps, B, h0, I0, [], none⟩ (labelIn (scopeIn (Tryz.f202.body.getD .skip)) 0)
      (upd (upd (upd G 4 (.val x.2.1.val)) 3 (.val (ptr g))) 1 (.ref 1 0)) (updB GC 1 (some t.cells)) x.2.2.2 (x.2.1.blk 257 ++ x.1.M g)
      (scK (fun l => InvAt [] (fun y => treeLP t y.1 y.2) (p l)) (retK ⟨Tryz.prog, TryzE, [3], Tryz.f202.ntmps, B, h0, I0, [], none⟩ Tryz.f202.results.toList
        (fun r I' M' => r = .string (strOf (textOf deb t.ns t.root)) ∧ (∀ b o, I0 b = some o → I' b = some o) ∧ M' = []))) := by
  obtain ⟨x, ⟨oa, n, cp, cur⟩, st, I1⟩ := x
  obtain ⟨hle, hxok, hos, hne, hin, htxt, hmu⟩ := hx
  simp only at hle hxok hos hne hin htxt hmu hp ⊢
  have hT1 := hT.mono hle
  have ht1 := ht.mono hle
  have hnl := ht.n
  obtain ⟨st0, ⟨j, i, w⟩, rfl⟩ : ∃ st0 e, st = st0 ++ [e] := by
    rcases List.eq_nil_or_concat st with h | ⟨r, e, h⟩
    · exact (hne h).elim
    · exact ⟨r, e, by simpa using h⟩
  have hsl : st0.length + 1 = n := by
    have h1 := hos.len
    rw [stackV_len] at h1
    simp at h1
    omega
  have hj : j < t.ns.length := hin (j, i, w) (by simp)
  have hj' : j < t.n := by omega
  cases oa with
  | none => have := (hos.nil rfl).1; simp only at this; omega
  | some gb =>
  obtain ⟨hcl, hnc, hcm, hct⟩ := hos.cap gb rfl
  simp only at hcl hnc hcm hct
  have hp0 : (stackV st0).length = (n - 1) * 3 := by rw [stackV_len]; omega
  obtain ⟨rest, hcur⟩ : ∃ rest, cur = stackV st0 ++ ([.int .i64 j, .int .i64 i, .bool w] ++ rest) := by
    refine ⟨cur.drop (n * 3), ?_⟩
    have h2 := List.take_append_drop (n * 3) cur
    rw [hct, stackV_snoc, List.append_assoc] at h2
    exact h2.symm
  have at0 : cur[(n - 1) * 3 + 0]? = some (.int .i64 j) := by
    rw [hcur, ← hp0, List.getElem?_append_right (by omega)]
    simp
  have at1 : cur[(n - 1) * 3 + 1]? = some (.int .i64 i) := by
    rw [hcur, ← hp0, List.getElem?_append_right (by omega)]
    simp
  have at2 : cur[(n - 1) * 3 + 2]? = some (.bool w) := by
    rw [hcur, ← hp0, List.getElem?_append_right (by omega)]
    simp
  have htl := text_len (deb := deb) hr
  have hxl : x.bs.length ≤ 2412 * t.ns.length := by
    have := congrArg List.length htxt
    rw [List.length_append] at this
    omega
  have hstl := muAll_len t.ns (st0 ++ [(j, i, w)])
  simp only [List.length_append, List.length_cons, List.length_nil] at hstl
  have hdk := ht1.ns t.ns[j] (List.getElem_mem hj)
  have hkn := hdk.kn
  have hfs := fits_says (right_fits hr hj)
  obtain ⟨ad, had, hrd⟩ := ht1.rs.row Nd.cells_len hj' hj
  rw [restAll_snoc] at htxt
  rw [muAll_snoc] at hmu hp hstl
  have hn1 : IntKind.i64.wrap ((n : Int) - 1) = ((n - 1 : Nat) : Int) := by
    rw [wrap_i64 ⟨by omega, by omega⟩]
    omega
  refine ArithOb.mk (((n - 1 : Nat)) : Int) hn1 ?_
  refine IdxOb.mk ⟨gb, 0, none⟩ (n - 1) rfl rfl (by show n - 1 < n; omega) ?_
  refine CodeOb.draw TryzEOK rfl rfl rfl ?_
  refine LoadOb.mk [.int .i64 j] (blk_rd2 (b := gb) (cs := cur) (T := 257) (by simp [OS.blk]) at0) ?_
  refine IdxOb.mk ad j had rfl hj' ?_
  refine LoadOb.mk _ (hrd _) ?_
  refine AllocOb.mk fun b6 hb6 hbM6 => ?_
  refine StoreOb.mk [] (⟨gb, .cells cur.toArray 257 (0, 0)⟩ :: x.M g) _ _ rfl rfl (Nat.le_of_ble_eq_true rfl) rfl ?_
  refine LoadOb.mk [.int .i64 i] (blk_rd2 (b := gb) (cs := cur) (T := 257) (by simp [OS.blk]) at1) ?_
  refine CondOb.mk (fun h1 => ?_) (fun h1 => ?_)
  · refine LoadOb.mk [.bool w] (blk_rd2 (b := gb) (cs := cur) (T := 257) (by simp [OS.blk]) at2) ?_
    refine CondOb.mk (fun h2 => ?_) (fun h2 => ?_)
    · refine CallOb.mk (x.M g) [⟨b6, .cells t.ns[j].cells.toArray 82 (0, 0)⟩, ⟨gb, .cells cur.toArray 257 (0, 0)⟩] _ (List.perm_append_comm (l₁ := [_, _])) (WriteByte_spec g hxok 40 (by omega)) ?_
      rintro v I2 M2 - ⟨rfl, rfl, y, hy, hyb, rfl⟩
      have hyl : y.bs.length ≤ 2412 * t.ns.length + 1 := by rw [hyb]; simp; omega
      refine LoadOb.mk _ (blk_rd (T := 82) (b := b6) (cs := t.ns[j].cells) (k := 0) (n := 9) (by simp) (Nat.le_of_ble_eq_true rfl)) ?_
      refine CallOb.mk [] (y.M g ++ [⟨b6, .cells t.ns[j].cells.toArray 82 (0, 0)⟩, ⟨gb, .cells cur.toArray 257 (0, 0)⟩]) _ (by simp) (ahead_spec hT1.d hT1.s hdk hfs) ?_
      rintro v I2 M2 - ⟨rfl, hI2, rfl⟩
      have hI3 : ∀ b o, I0 b = some o → I2 b = some o := fun b o h => hI2 _ _ (hle _ _ h)
      have hal := aheadB_len deb hfs
      refine CallOb.mk (y.M g) [⟨b6, .cells t.ns[j].cells.toArray 82 (0, 0)⟩, ⟨gb, .cells cur.toArray 257 (0, 0)⟩] _ (by simp) (WriteString_spec g hy _ (by show _ + (aheadB deb t.ns[j]).length ≤ _; omega)) ?_
      rintro v I3 M3 - ⟨rfl, rfl, u, hu, hub, rfl⟩
      have huh : u.bs = x.bs ++ headE deb t.ns (j, i, w) := by
        rw [hub, hyb]
        simp only [headE, h1, h2, nodeAt_eq hj, cond_true, cond_false]
        simp [strOf]
      have hul : u.bs.length ≤ 2412 * t.ns.length + 2401 := by
        rw [huh, List.length_append]
        simp only [headE, h1, h2, nodeAt_eq hj, cond_true, cond_false, List.length_append, List.length_cons, List.length_nil]
        omega
      have hT2 := hT.mono hI3
      have ht2 := ht.mono hI3
      have hdk2 := ht2.ns t.ns[j] (List.getElem_mem hj)
      have hrd6 : ∀ {k m : Nat}, k + m ≤ 9 → Rd I3 (u.M g ++ [⟨b6, .cells t.ns[j].cells.toArray 82 (0, 0)⟩, ⟨gb, .cells cur.toArray 257 (0, 0)⟩]) ((⟨b6, 0, none⟩ : Addr).add k) m ((t.ns[j].cells.drop k).take m) := fun h => blk_rd (T := 82) (by simp) h
      refine CodeOb.draw TryzEOK rfl rfl rfl ?_
      refine LoadOb.mk [.int .i64 i] (blk_rd2 (b := gb) (cs := cur) (T := 257) (by simp [OS.blk]) at1) ?_
      refine LoadOb.mk _ (hrd6 (by decide)) ?_
      refine CondOb.mk (fun hk => ?_) (fun hk => ?_)
      · have hil : i < t.ns[j].kn := by simpa using hk
        have hil' : i < t.ns[j].kids.length := by omega
        obtain ⟨ak, hak, hrk⟩ := hdk2.rs.one hil hil'
        have hkk := right_kids hr j hj _ (List.getElem_mem hil')
        obtain ⟨q, hq0⟩ := Int.eq_ofNat_of_zero_le hkk.1
        have hql : q < t.ns.length := by omega
        have hql' : q < t.n := by omega
        obtain ⟨aq, haq, hrq0⟩ := ht2.rs.row Nd.cells_len hql' hql
        have hrq : ∀ M, Rd I3 M ((aq.add (q * 9)).add 0) 1 [.int .u8 t.ns[q].k] := fun M => (hrq0 M).part (k := 0) (m := 1) (by decide)
        have hkat : kindAt t.ns ((q : Nat) : Int) = t.ns[q].k := by simp [kindAt, List.getD_eq_getElem?_getD, hql]
        have hre := restE_kid (deb := deb) hr hj (w := w) hil'
        have hme := muE_kid hr hj (w := w) (w' := wrapsV t.ns[j].k t.ns[q].k) hil'
        rw [hq0] at hre hme
        simp only [Int.ofNat_eq_natCast, Int.toNat_natCast] at hre hme
        rw [hkat] at hre
        have hwr : IntKind.i64.wrap ((i : Int) + 1) = ((i + 1 : Nat) : Int) := by
          have := hdk2.rs.cap
          rw [wrap_i64 ⟨by omega, by omega⟩]
          omega
        have hsp : splice cur ((n - 1) * 3 + 1) [.int .i64 ((i + 1 : Nat) : Int)] = stackV st0 ++ ([.int .i64 j, .int .i64 ((i + 1 : Nat) : Int), .bool w] ++ rest) := by
          rw [hcur, ← hp0]
          exact splice_mid _ _ _ _ _ _
        have hos' : OS.ok ⟨some gb, n, cp, splice cur ((n - 1) * 3 + 1) [.int .i64 ((i + 1 : Nat) : Int)]⟩ 3 (stackV (st0 ++ [(j, i + 1, w)])) := by
          rw [hsp, stackV_snoc]
          refine ⟨by simp only [List.length_append, List.length_cons, List.length_nil]; omega, (fun h => by cases h), fun g3 _ => ⟨?_, hnc, hcm, ?_⟩⟩
          · simp only
            rw [← hcl, hcur]
            simp
          · simp only
            rw [← List.append_assoc]
            refine List.take_left' ?_
            simp only [List.length_append, List.length_cons, List.length_nil]
            omega
        refine LoadOb.mk [.int .i64 i] (blk_rd2 (b := gb) (cs := cur) (T := 257) (by simp [OS.blk]) at1) ?_
        refine CondOb.mk (fun hz => by simp at h1 hz; omega) (fun hz => ?_)
        refine CodeOb.draw TryzEOK rfl rfl rfl ?_
        refine LoadOb.mk _ (blk_rd (T := 82) (b := b6) (cs := t.ns[j].cells) (k := 8) (n := 1) (by simp) (Nat.le_of_ble_eq_true rfl)) ?_
        refine LoadOb.mk [.int .i64 i] (blk_rd2 (b := gb) (cs := cur) (T := 257) (by simp [OS.blk]) at1) ?_
        refine IdxOb.mk ak i hak rfl hil ?_
        refine LoadOb.mk [.int .i64 (q : Nat)] (by have h9 := hrk; rw [hq0] at h9; exact h9 _) ?_
        refine LoadOb.mk [.int .i64 i] (blk_rd2 (b := gb) (cs := cur) (T := 257) (by simp [OS.blk]) at1) ?_
        refine ArithOb.mk ((i + 1 : Nat) : Int) hwr ?_
        refine StoreOb.add2 (u.M g ++ [⟨b6, .cells t.ns[j].cells.toArray 82 (0, 0)⟩]) [] cur.toArray 257 (by simp [OS.blk]) ?_ rfl ?_
        · simp only [List.size_toArray]
          show (n - 1) * 3 + 1 + 1 ≤ _
          omega
        refine CodeOb.draw TryzEOK rfl rfl rfl ?_
        refine LoadOb.mk [.int .u8 t.ns[j].k] (blk_rd (T := 82) (b := b6) (cs := t.ns[j].cells) (k := 0) (n := 1) (by simp) (Nat.le_of_ble_eq_true rfl)) ?_
        refine IdxOb.mk aq q haq rfl hql' ?_
        refine LoadOb.mk [.int .u8 t.ns[q].k] (hrq _) ?_
        refine PCallOb.mk _ (wraps_spec t.ns[j].k t.ns[q].k) ?_
        rintro v I5 M5 - ⟨rfl, rfl, rfl⟩
        refine AllocOb.mk fun b9 hb9 hbM9 => ?_
        refine OtherOb.append TryzEOK rfl (by simp) (e := 257) rfl rfl rfl ⟨some gb, n, cp, splice cur ((n - 1) * 3 + 1) [.int .i64 ((i + 1 : Nat) : Int)]⟩ (xs := stackV (st0 ++ [(j, i + 1, w)])) hos' rfl (m := 1) rfl (news := openC (q, 0, wrapsV t.ns[j].k t.ns[q].k)) (by decide) (blk_rd (b := b9) (cs := openC (q, 0, wrapsV t.ns[j].k t.ns[q].k)) (k := 0) (n := 3) (T := 257) (.head _) (Nat.le_of_ble_eq_true rfl)) rfl (Mr := ⟨b9, .cells (openC (q, 0, wrapsV t.ns[j].k t.ns[q].k)).toArray 257 (0, 0)⟩ :: (u.M g ++ [⟨b6, .cells t.ns[j].cells.toArray 82 (0, 0)⟩])) (by exact List.perm_append_comm (l₁ := (⟨b9, .cells (openC (q, 0, wrapsV t.ns[j].k t.ns[q].k)).toArray 257 (0, 0)⟩ : Blk) :: (u.M g ++ [⟨b6, .cells t.ns[j].cells.toArray 82 (0, 0)⟩])) (l₂ := [⟨gb, .cells (splice cur ((n - 1) * 3 + 1) [.int .i64 ((i + 1 : Nat) : Int)]).toArray 257 (0, 0)⟩])) (by show n + 1 ≤ _; simp only [maxLen]; omega) (by show (n + 1) * 24 ≤ _; omega) ?_
        intro g' c' cur' q1 q2 q3 q4
        refine ⟨(g, u, ⟨some g', n + 1, c', cur'⟩, st0 ++ [(j, i + 1, w)] ++ [(q, 0, wrapsV t.ns[j].k t.ns[q].k)], _), hp _ ⟨hI3, hu, ⟨?_, (fun h => by cases h), fun g3 _ => ⟨q1, q2, q3, ?_⟩⟩, by simp, ?_, ?_, ?_⟩ ?_, .perm (M1 := [⟨b9, .cells (openC (q, 0, wrapsV t.ns[j].k t.ns[q].k)).toArray 257 (0, 0)⟩, ⟨b6, .cells t.ns[j].cells.toArray 82 (0, 0)⟩] ++ (⟨g', .cells cur'.toArray 257 (0, 0)⟩ :: u.M g)) (perm1 _ _ _ _) (.sub (List.sublist_append_right _ _) .refl), .cons .refl (.cons .refl (.cons .refl .nil)), .cons rfl .nil⟩
        · show _ = (n + 1) * 3
          rw [stackV_len]
          simp
          omega
        · show cur'.take ((n + 1) * 3) = _
          rw [stackV_snoc (st0 ++ [(j, i + 1, w)])]
          exact q4
        · intro e he
          simp only [List.mem_append, List.mem_singleton] at he
          rcases he with (he | rfl) | rfl
          · exact hin e (by simp [he])
          · exact hj
          · exact hql
        · simp only
          rw [restAll_snoc, restAll_snoc, huh, ← htxt, hre]
          rw [show decide (0 < (i : Int)) = false from hz]
          simp
        · simp only
          rw [muAll_snoc, muAll_snoc]
          omega
        · simp only
          rw [muAll_snoc, muAll_snoc]
          omega
      · have hil : t.ns[j].kids.length ≤ i := by simp at hk; omega
        have hre := restE_end (deb := deb) hj (w := w) hil
        have hbl := behindB_len t.ns[j]
        refine LoadOb.mk _ (blk_rd (T := 82) (b := b6) (cs := t.ns[j].cells) (k := 0) (n := 9) (by simp) (Nat.le_of_ble_eq_true rfl)) ?_
        refine CallOb.mk [] (u.M g ++ [⟨b6, .cells t.ns[j].cells.toArray 82 (0, 0)⟩, ⟨gb, .cells cur.toArray 257 (0, 0)⟩]) _ (.refl _) (behind_spec hT2.c hT2.p hT2.s hdk2 hfs) ?_
        rintro v I5 M5 - ⟨rfl, rfl, rfl⟩
        refine CallOb.mk (u.M g) [⟨b6, .cells t.ns[j].cells.toArray 82 (0, 0)⟩, ⟨gb, .cells cur.toArray 257 (0, 0)⟩] _ (by simp) (WriteString_spec g hu _ (by show _ + (behindB t.ns[j]).length ≤ _; omega)) ?_
        rintro v I6 M6 - ⟨rfl, rfl, a, ha, hab, rfl⟩
        have hal2 : a.bs.length ≤ 2412 * t.ns.length + 2410 := by
          rw [hab, List.length_append]
          show _ + (behindB t.ns[j]).length ≤ _
          omega
        refine LoadOb.mk [.bool w] (blk_rd2 (b := gb) (cs := cur) (T := 257) (by simp [OS.blk]) at2) ?_
        refine CondOb.mk (fun hw => ?_) (fun hw => ?_)
        · subst hw
          refine CallOb.mk (a.M g) [⟨b6, .cells t.ns[j].cells.toArray 82 (0, 0)⟩, ⟨gb, .cells cur.toArray 257 (0, 0)⟩] _ (by simp) (WriteByte_spec g ha 41 (by omega)) ?_
          rintro v I8 M8 - ⟨rfl, rfl, c, hc, hcb, rfl⟩
          refine ArithOb.mk (((n - 1 : Nat)) : Int) hn1 ?_
          refine SliceOb.mk 0 (n - 1) rfl rfl (Nat.zero_le _) (by show n - 1 ≤ cp; omega) ?_
          refine CondOb.mk (fun hz => ?_) (fun hz => ?_)
          · have hz' : 0 < n - 1 := by simp at hz; omega
            refine ⟨(g, c, ⟨some gb, n - 1, cp, cur⟩, st0, _), hp _ ⟨hI3, hc, ⟨?_, (fun h => by cases h), fun g3 _ => ⟨hcl, by show n - 1 ≤ cp; omega, hcm, ?_⟩⟩, ?_, fun e he => hin e (by simp [he]), ?_, ?_⟩ ?_, .perm (M1 := [⟨b6, .cells t.ns[j].cells.toArray 82 (0, 0)⟩] ++ (⟨gb, .cells cur.toArray 257 (0, 0)⟩ :: c.M g)) (List.perm_append_comm (l₂ := [_, _])) (.sub (List.sublist_append_right _ _) .refl), .cons .refl (.cons .refl (.cons .refl .nil)), .cons rfl .nil⟩
            · exact hp0
            · show cur.take ((n - 1) * 3) = _
              rw [hcur, ← hp0]
              exact List.take_left' rfl
            · intro h
              simp only at h
              rw [h] at hsl
              simp at hsl
              omega
            · simp only
              rw [hcb, hab, huh, ← htxt, hre]
              simp [strOf]
            · simp only
              omega
            · simp only [muE]
              omega
          · have hz' : n - 1 = 0 := by simp at hz; omega
            have hst0 : st0 = [] := List.eq_nil_of_length_eq_zero (by omega)
            have hfin : c.bs = textOf deb t.ns t.root := by
              rw [hcb, hab, huh, ← htxt, hre, hst0]
              simp [restAll, strOf]
            refine CallOb.mk (c.M g) [⟨b6, .cells t.ns[j].cells.toArray 82 (0, 0)⟩, ⟨gb, .cells cur.toArray 257 (0, 0)⟩] _ (by simp) (BString_spec g hc (by rw [hfin]; omega)) ?_
            rintro v I7 M7 - ⟨rfl, rfl, rfl⟩
            refine ⟨_, _, .sub (List.nil_sublist _) .refl, ?_, hI3, rfl⟩
            rw [hfin]
            rfl
        · subst hw
          refine ArithOb.mk (((n - 1 : Nat)) : Int) hn1 ?_
          refine SliceOb.mk 0 (n - 1) rfl rfl (Nat.zero_le _) (by show n - 1 ≤ cp; omega) ?_
          refine CondOb.mk (fun hz => ?_) (fun hz => ?_)
          · have hz' : 0 < n - 1 := by simp at hz; omega
            refine ⟨(g, a, ⟨some gb, n - 1, cp, cur⟩, st0, _), hp _ ⟨hI3, ha, ⟨?_, (fun h => by cases h), fun g3 _ => ⟨hcl, by show n - 1 ≤ cp; omega, hcm, ?_⟩⟩, ?_, fun e he => hin e (by simp [he]), ?_, ?_⟩ ?_, .perm (M1 := [⟨b6, .cells t.ns[j].cells.toArray 82 (0, 0)⟩] ++ (⟨gb, .cells cur.toArray 257 (0, 0)⟩ :: a.M g)) (List.perm_append_comm (l₂ := [_, _])) (.sub (List.sublist_append_right _ _) .refl), .cons .refl (.cons .refl (.cons .refl .nil)), .cons rfl .nil⟩
            · exact hp0
            · show cur.take ((n - 1) * 3) = _
              rw [hcur, ← hp0]
              exact List.take_left' rfl
            · intro h
              simp only at h
              rw [h] at hsl
              simp at hsl
              omega
            · simp only
              rw [hab, huh, ← htxt, hre]
              simp [strOf]
            · simp only
              omega
            · simp only [muE]
              omega
          · have hz' : n - 1 = 0 := by simp at hz; omega
            have hst0 : st0 = [] := List.eq_nil_of_length_eq_zero (by omega)
            have hfin : a.bs = textOf deb t.ns t.root := by
              rw [hab, huh, ← htxt, hre, hst0]
              simp [restAll, strOf]
            refine CallOb.mk (a.M g) [⟨b6, .cells t.ns[j].cells.toArray 82 (0, 0)⟩, ⟨gb, .cells cur.toArray 257 (0, 0)⟩] _ (by simp) (BString_spec g ha (by rw [hfin]; omega)) ?_
            rintro v I7 M7 - ⟨rfl, rfl, rfl⟩
            refine ⟨_, _, .sub (List.nil_sublist _) .refl, ?_, hI3, rfl⟩
            rw [hfin]
            rfl
    · refine LoadOb.mk _ (blk_rd (T := 82) (b := b6) (cs := t.ns[j].cells) (k := 0) (n := 9) (.head _) (Nat.le_of_ble_eq_true rfl)) ?_
      refine CallOb.mk [] (⟨b6, .cells t.ns[j].cells.toArray 82 (0, 0)⟩ :: ⟨gb, .cells cur.toArray 257 (0, 0)⟩ :: x.M g) _ (.refl _) (ahead_spec hT1.d hT1.s hdk hfs) ?_
      rintro v I2 M2 - ⟨rfl, hI2, rfl⟩
      have hI3 : ∀ b o, I0 b = some o → I2 b = some o := fun b o h => hI2 _ _ (hle _ _ h)
      have hal := aheadB_len deb hfs
      refine CallOb.mk (x.M g) [⟨b6, .cells t.ns[j].cells.toArray 82 (0, 0)⟩, ⟨gb, .cells cur.toArray 257 (0, 0)⟩] _ (List.perm_append_comm (l₁ := [_, _])) (WriteString_spec g hxok _ (by show _ + (aheadB deb t.ns[j]).length ≤ _; omega)) ?_
      rintro v I3 M3 - ⟨rfl, rfl, u, hu, hub, rfl⟩
      have huh : u.bs = x.bs ++ headE deb t.ns (j, i, w) := by
        rw [hub]
        simp only [headE, h1, h2, nodeAt_eq hj, cond_true, cond_false]
        simp [strOf]
      have hul : u.bs.length ≤ 2412 * t.ns.length + 2401 := by
        rw [huh, List.length_append]
        simp only [headE, h1, h2, nodeAt_eq hj, cond_true, cond_false, List.length_append, List.length_cons, List.length_nil]
        omega
      have hT2 := hT.mono hI3
      have ht2 := ht.mono hI3
      have hdk2 := ht2.ns t.ns[j] (List.getElem_mem hj)
      have hrd6 : ∀ {k m : Nat}, k + m ≤ 9 → Rd I3 (u.M g ++ [⟨b6, .cells t.ns[j].cells.toArray 82 (0, 0)⟩, ⟨gb, .cells cur.toArray 257 (0, 0)⟩]) ((⟨b6, 0, none⟩ : Addr).add k) m ((t.ns[j].cells.drop k).take m) := fun h => blk_rd (T := 82) (by simp) h
      refine CodeOb.draw TryzEOK rfl rfl rfl ?_
      refine LoadOb.mk [.int .i64 i] (blk_rd2 (b := gb) (cs := cur) (T := 257) (by simp [OS.blk]) at1) ?_
      refine LoadOb.mk _ (hrd6 (by decide)) ?_
      refine CondOb.mk (fun hk => ?_) (fun hk => ?_)
      · have hil : i < t.ns[j].kn := by simpa using hk
        have hil' : i < t.ns[j].kids.length := by omega
        obtain ⟨ak, hak, hrk⟩ := hdk2.rs.one hil hil'
        have hkk := right_kids hr j hj _ (List.getElem_mem hil')
        obtain ⟨q, hq0⟩ := Int.eq_ofNat_of_zero_le hkk.1
        have hql : q < t.ns.length := by omega
        have hql' : q < t.n := by omega
        obtain ⟨aq, haq, hrq0⟩ := ht2.rs.row Nd.cells_len hql' hql
        have hrq : ∀ M, Rd I3 M ((aq.add (q * 9)).add 0) 1 [.int .u8 t.ns[q].k] := fun M => (hrq0 M).part (k := 0) (m := 1) (by decide)
        have hkat : kindAt t.ns ((q : Nat) : Int) = t.ns[q].k := by simp [kindAt, List.getD_eq_getElem?_getD, hql]
        have hre := restE_kid (deb := deb) hr hj (w := w) hil'
        have hme := muE_kid hr hj (w := w) (w' := wrapsV t.ns[j].k t.ns[q].k) hil'
        rw [hq0] at hre hme
        simp only [Int.ofNat_eq_natCast, Int.toNat_natCast] at hre hme
        rw [hkat] at hre
        have hwr : IntKind.i64.wrap ((i : Int) + 1) = ((i + 1 : Nat) : Int) := by
          have := hdk2.rs.cap
          rw [wrap_i64 ⟨by omega, by omega⟩]
          omega
        have hsp : splice cur ((n - 1) * 3 + 1) [.int .i64 ((i + 1 : Nat) : Int)] = stackV st0 ++ ([.int .i64 j, .int .i64 ((i + 1 : Nat) : Int), .bool w] ++ rest) := by
          rw [hcur, ← hp0]
          exact splice_mid _ _ _ _ _ _
        have hos' : OS.ok ⟨some gb, n, cp, splice cur ((n - 1) * 3 + 1) [.int .i64 ((i + 1 : Nat) : Int)]⟩ 3 (stackV (st0 ++ [(j, i + 1, w)])) := by
          rw [hsp, stackV_snoc]
          refine ⟨by simp only [List.length_append, List.length_cons, List.length_nil]; omega, (fun h => by cases h), fun g3 _ => ⟨?_, hnc, hcm, ?_⟩⟩
          · simp only
            rw [← hcl, hcur]
            simp
          · simp only
            rw [← List.append_assoc]
            refine List.take_left' ?_
            simp only [List.length_append, List.length_cons, List.length_nil]
            omega
        refine LoadOb.mk [.int .i64 i] (blk_rd2 (b := gb) (cs := cur) (T := 257) (by simp [OS.blk]) at1) ?_
        refine CondOb.mk (fun hz => by simp at h1 hz; omega) (fun hz => ?_)
        refine CodeOb.draw TryzEOK rfl rfl rfl ?_
        refine LoadOb.mk _ (blk_rd (T := 82) (b := b6) (cs := t.ns[j].cells) (k := 8) (n := 1) (by simp) (Nat.le_of_ble_eq_true rfl)) ?_
        refine LoadOb.mk [.int .i64 i] (blk_rd2 (b := gb) (cs := cur) (T := 257) (by simp [OS.blk]) at1) ?_
        refine IdxOb.mk ak i hak rfl hil ?_
        refine LoadOb.mk [.int .i64 (q : Nat)] (by have h9 := hrk; rw [hq0] at h9; exact h9 _) ?_
        refine LoadOb.mk [.int .i64 i] (blk_rd2 (b := gb) (cs := cur) (T := 257) (by simp [OS.blk]) at1) ?_
        refine ArithOb.mk ((i + 1 : Nat) : Int) hwr ?_
        refine StoreOb.add2 (u.M g ++ [⟨b6, .cells t.ns[j].cells.toArray 82 (0, 0)⟩]) [] cur.toArray 257 (by simp [OS.blk]) ?_ rfl ?_
        · simp only [List.size_toArray]
          show (n - 1) * 3 + 1 + 1 ≤ _
          omega
        refine CodeOb.draw TryzEOK rfl rfl rfl ?_
        refine LoadOb.mk [.int .u8 t.ns[j].k] (blk_rd (T := 82) (b := b6) (cs := t.ns[j].cells) (k := 0) (n := 1) (by simp) (Nat.le_of_ble_eq_true rfl)) ?_
        refine IdxOb.mk aq q haq rfl hql' ?_
        refine LoadOb.mk [.int .u8 t.ns[q].k] (hrq _) ?_
        refine PCallOb.mk _ (wraps_spec t.ns[j].k t.ns[q].k) ?_
        rintro v I5 M5 - ⟨rfl, rfl, rfl⟩
        refine AllocOb.mk fun b9 hb9 hbM9 => ?_
        refine OtherOb.append TryzEOK rfl (by simp) (e := 257) rfl rfl rfl ⟨some gb, n, cp, splice cur ((n - 1) * 3 + 1) [.int .i64 ((i + 1 : Nat) : Int)]⟩ (xs := stackV (st0 ++ [(j, i + 1, w)])) hos' rfl (m := 1) rfl (news := openC (q, 0, wrapsV t.ns[j].k t.ns[q].k)) (by decide) (blk_rd (b := b9) (cs := openC (q, 0, wrapsV t.ns[j].k t.ns[q].k)) (k := 0) (n := 3) (T := 257) (.head _) (Nat.le_of_ble_eq_true rfl)) rfl (Mr := ⟨b9, .cells (openC (q, 0, wrapsV t.ns[j].k t.ns[q].k)).toArray 257 (0, 0)⟩ :: (u.M g ++ [⟨b6, .cells t.ns[j].cells.toArray 82 (0, 0)⟩])) (by exact List.perm_append_comm (l₁ := (⟨b9, .cells (openC (q, 0, wrapsV t.ns[j].k t.ns[q].k)).toArray 257 (0, 0)⟩ : Blk) :: (u.M g ++ [⟨b6, .cells t.ns[j].cells.toArray 82 (0, 0)⟩])) (l₂ := [⟨gb, .cells (splice cur ((n - 1) * 3 + 1) [.int .i64 ((i + 1 : Nat) : Int)]).toArray 257 (0, 0)⟩])) (by show n + 1 ≤ _; simp only [maxLen]; omega) (by show (n + 1) * 24 ≤ _; omega) ?_
        intro g' c' cur' q1 q2 q3 q4
        refine ⟨(g, u, ⟨some g', n + 1, c', cur'⟩, st0 ++ [(j, i + 1, w)] ++ [(q, 0, wrapsV t.ns[j].k t.ns[q].k)], _), hp _ ⟨hI3, hu, ⟨?_, (fun h => by cases h), fun g3 _ => ⟨q1, q2, q3, ?_⟩⟩, by simp, ?_, ?_, ?_⟩ ?_, .perm (M1 := [⟨b9, .cells (openC (q, 0, wrapsV t.ns[j].k t.ns[q].k)).toArray 257 (0, 0)⟩, ⟨b6, .cells t.ns[j].cells.toArray 82 (0, 0)⟩] ++ (⟨g', .cells cur'.toArray 257 (0, 0)⟩ :: u.M g)) (perm1 _ _ _ _) (.sub (List.sublist_append_right _ _) .refl), .cons .refl (.cons .refl (.cons .refl .nil)), .cons rfl .nil⟩
        · show _ = (n + 1) * 3
          rw [stackV_len]
          simp
          omega
        · show cur'.take ((n + 1) * 3) = _
          rw [stackV_snoc (st0 ++ [(j, i + 1, w)])]
          exact q4
        · intro e he
          simp only [List.mem_append, List.mem_singleton] at he
          rcases he with (he | rfl) | rfl
          · exact hin e (by simp [he])
          · exact hj
          · exact hql
        · simp only
          rw [restAll_snoc, restAll_snoc, huh, ← htxt, hre]
          rw [show decide (0 < (i : Int)) = false from hz]
          simp
        · simp only
          rw [muAll_snoc, muAll_snoc]
          omega
        · simp only
          rw [muAll_snoc, muAll_snoc]
          omega
      · have hil : t.ns[j].kids.length ≤ i := by simp at hk; omega
        have hre := restE_end (deb := deb) hj (w := w) hil
        have hbl := behindB_len t.ns[j]
        refine LoadOb.mk _ (blk_rd (T := 82) (b := b6) (cs := t.ns[j].cells) (k := 0) (n := 9) (by simp) (Nat.le_of_ble_eq_true rfl)) ?_
        refine CallOb.mk [] (u.M g ++ [⟨b6, .cells t.ns[j].cells.toArray 82 (0, 0)⟩, ⟨gb, .cells cur.toArray 257 (0, 0)⟩]) _ (.refl _) (behind_spec hT2.c hT2.p hT2.s hdk2 hfs) ?_
        rintro v I5 M5 - ⟨rfl, rfl, rfl⟩
        refine CallOb.mk (u.M g) [⟨b6, .cells t.ns[j].cells.toArray 82 (0, 0)⟩, ⟨gb, .cells cur.toArray 257 (0, 0)⟩] _ (by simp) (WriteString_spec g hu _ (by show _ + (behindB t.ns[j]).length ≤ _; omega)) ?_
        rintro v I6 M6 - ⟨rfl, rfl, a, ha, hab, rfl⟩
        have hal2 : a.bs.length ≤ 2412 * t.ns.length + 2410 := by
          rw [hab, List.length_append]
          show _ + (behindB t.ns[j]).length ≤ _
          omega
        refine LoadOb.mk [.bool w] (blk_rd2 (b := gb) (cs := cur) (T := 257) (by simp [OS.blk]) at2) ?_
        refine CondOb.mk (fun hw => ?_) (fun hw => ?_)
        · subst hw
          refine CallOb.mk (a.M g) [⟨b6, .cells t.ns[j].cells.toArray 82 (0, 0)⟩, ⟨gb, .cells cur.toArray 257 (0, 0)⟩] _ (by simp) (WriteByte_spec g ha 41 (by omega)) ?_
          rintro v I8 M8 - ⟨rfl, rfl, c, hc, hcb, rfl⟩
          refine ArithOb.mk (((n - 1 : Nat)) : Int) hn1 ?_
          refine SliceOb.mk 0 (n - 1) rfl rfl (Nat.zero_le _) (by show n - 1 ≤ cp; omega) ?_
          refine CondOb.mk (fun hz => ?_) (fun hz => ?_)
          · have hz' : 0 < n - 1 := by simp at hz; omega
            refine ⟨(g, c, ⟨some gb, n - 1, cp, cur⟩, st0, _), hp _ ⟨hI3, hc, ⟨?_, (fun h => by cases h), fun g3 _ => ⟨hcl, by show n - 1 ≤ cp; omega, hcm, ?_⟩⟩, ?_, fun e he => hin e (by simp [he]), ?_, ?_⟩ ?_, .perm (M1 := [⟨b6, .cells t.ns[j].cells.toArray 82 (0, 0)⟩] ++ (⟨gb, .cells cur.toArray 257 (0, 0)⟩ :: c.M g)) (List.perm_append_comm (l₂ := [_, _])) (.sub (List.sublist_append_right _ _) .refl), .cons .refl (.cons .refl (.cons .refl .nil)), .cons rfl .nil⟩
            · exact hp0
            · show cur.take ((n - 1) * 3) = _
              rw [hcur, ← hp0]
              exact List.take_left' rfl
            · intro h
              simp only at h
              rw [h] at hsl
              simp at hsl
              omega
            · simp only
              rw [hcb, hab, huh, ← htxt, hre]
              simp [strOf]
            · simp only
              omega
            · simp only [muE]
              omega
          · have hz' : n - 1 = 0 := by simp at hz; omega
            have hst0 : st0 = [] := List.eq_nil_of_length_eq_zero (by omega)
            have hfin : c.bs = textOf deb t.ns t.root := by
              rw [hcb, hab, huh, ← htxt, hre, hst0]
              simp [restAll, strOf]
            refine CallOb.mk (c.M g) [⟨b6, .cells t.ns[j].cells.toArray 82 (0, 0)⟩, ⟨gb, .cells cur.toArray 257 (0, 0)⟩] _ (by simp) (BString_spec g hc (by rw [hfin]; omega)) ?_
            rintro v I7 M7 - ⟨rfl, rfl, rfl⟩
            refine ⟨_, _, .sub (List.nil_sublist _) .refl, ?_, hI3, rfl⟩
            rw [hfin]
            rfl
        · subst hw
          refine ArithOb.mk (((n - 1 : Nat)) : Int) hn1 ?_
          refine SliceOb.mk 0 (n - 1) rfl rfl (Nat.zero_le _) (by show n - 1 ≤ cp; omega) ?_
          refine CondOb.mk (fun hz => ?_) (fun hz => ?_)
          · have hz' : 0 < n - 1 := by simp at hz; omega
            refine ⟨(g, a, ⟨some gb, n - 1, cp, cur⟩, st0, _), hp _ ⟨hI3, ha, ⟨?_, (fun h => by cases h), fun g3 _ => ⟨hcl, by show n - 1 ≤ cp; omega, hcm, ?_⟩⟩, ?_, fun e he => hin e (by simp [he]), ?_, ?_⟩ ?_, .perm (M1 := [⟨b6, .cells t.ns[j].cells.toArray 82 (0, 0)⟩] ++ (⟨gb, .cells cur.toArray 257 (0, 0)⟩ :: a.M g)) (List.perm_append_comm (l₂ := [_, _])) (.sub (List.sublist_append_right _ _) .refl), .cons .refl (.cons .refl (.cons .refl .nil)), .cons rfl .nil⟩
            · exact hp0
            · show cur.take ((n - 1) * 3) = _
              rw [hcur, ← hp0]
              exact List.take_left' rfl
            · intro h
              simp only at h
              rw [h] at hsl
              simp at hsl
              omega
            · simp only
              rw [hab, huh, ← htxt, hre]
              simp [strOf]
            · simp only
              omega
            · simp only [muE]
              omega
          · have hz' : n - 1 = 0 := by simp at hz; omega
            have hst0 : st0 = [] := List.eq_nil_of_length_eq_zero (by omega)
            have hfin : a.bs = textOf deb t.ns t.root := by
              rw [hab, huh, ← htxt, hre, hst0]
              simp [restAll, strOf]
            refine CallOb.mk (a.M g) [⟨b6, .cells t.ns[j].cells.toArray 82 (0, 0)⟩, ⟨gb, .cells cur.toArray 257 (0, 0)⟩] _ (by simp) (BString_spec g ha (by rw [hfin]; omega)) ?_
            rintro v I7 M7 - ⟨rfl, rfl, rfl⟩
            refine ⟨_, _, .sub (List.nil_sublist _) .refl, ?_, hI3, rfl⟩
            rw [hfin]
            rfl
  · have hxh : x.bs = x.bs ++ headE deb t.ns (j, i, w) := by
      simp only [headE, h1, cond_false, List.append_nil]
    have hT2 := hT.mono hle
    have ht2 := ht.mono hle
    have hdk2 := ht2.ns t.ns[j] (List.getElem_mem hj)
    have hrd6 : ∀ {k m : Nat}, k + m ≤ 9 → Rd I1 (⟨b6, .cells t.ns[j].cells.toArray 82 (0, 0)⟩ :: ⟨gb, .cells cur.toArray 257 (0, 0)⟩ :: x.M g) ((⟨b6, 0, none⟩ : Addr).add k) m ((t.ns[j].cells.drop k).take m) := fun h => blk_rd (T := 82) (by simp) h
    refine CodeOb.draw TryzEOK rfl rfl rfl ?_
    refine LoadOb.mk [.int .i64 i] (blk_rd2 (b := gb) (cs := cur) (T := 257) (by simp [OS.blk]) at1) ?_
    refine LoadOb.mk _ (hrd6 (by decide)) ?_
    refine CondOb.mk (fun hk => ?_) (fun hk => ?_)
    · have hil : i < t.ns[j].kn := by simpa using hk
      have hil' : i < t.ns[j].kids.length := by omega
      obtain ⟨ak, hak, hrk⟩ := hdk2.rs.one hil hil'
      have hkk := right_kids hr j hj _ (List.getElem_mem hil')
      obtain ⟨q, hq0⟩ := Int.eq_ofNat_of_zero_le hkk.1
      have hql : q < t.ns.length := by omega
      have hql' : q < t.n := by omega
      obtain ⟨aq, haq, hrq0⟩ := ht2.rs.row Nd.cells_len hql' hql
      have hrq : ∀ M, Rd I1 M ((aq.add (q * 9)).add 0) 1 [.int .u8 t.ns[q].k] := fun M => (hrq0 M).part (k := 0) (m := 1) (by decide)
      have hkat : kindAt t.ns ((q : Nat) : Int) = t.ns[q].k := by simp [kindAt, List.getD_eq_getElem?_getD, hql]
      have hre := restE_kid (deb := deb) hr hj (w := w) hil'
      have hme := muE_kid hr hj (w := w) (w' := wrapsV t.ns[j].k t.ns[q].k) hil'
      rw [hq0] at hre hme
      simp only [Int.ofNat_eq_natCast, Int.toNat_natCast] at hre hme
      rw [hkat] at hre
      have hwr : IntKind.i64.wrap ((i : Int) + 1) = ((i + 1 : Nat) : Int) := by
        have := hdk2.rs.cap
        rw [wrap_i64 ⟨by omega, by omega⟩]
        omega
      have hsp : splice cur ((n - 1) * 3 + 1) [.int .i64 ((i + 1 : Nat) : Int)] = stackV st0 ++ ([.int .i64 j, .int .i64 ((i + 1 : Nat) : Int), .bool w] ++ rest) := by
        rw [hcur, ← hp0]
        exact splice_mid _ _ _ _ _ _
      have hos' : OS.ok ⟨some gb, n, cp, splice cur ((n - 1) * 3 + 1) [.int .i64 ((i + 1 : Nat) : Int)]⟩ 3 (stackV (st0 ++ [(j, i + 1, w)])) := by
        rw [hsp, stackV_snoc]
        refine ⟨by simp only [List.length_append, List.length_cons, List.length_nil]; omega, (fun h => by cases h), fun g3 _ => ⟨?_, hnc, hcm, ?_⟩⟩
        · simp only
          rw [← hcl, hcur]
          simp
        · simp only
          rw [← List.append_assoc]
          refine List.take_left' ?_
          simp only [List.length_append, List.length_cons, List.length_nil]
          omega
      refine LoadOb.mk [.int .i64 i] (blk_rd2 (b := gb) (cs := cur) (T := 257) (by simp [OS.blk]) at1) ?_
      refine CondOb.mk (fun hz => ?_) (fun hz => by simp at h1 hz; omega)
      refine LoadOb.mk [.int .u8 t.ns[j].k] (blk_rd (T := 82) (b := b6) (cs := t.ns[j].cells) (k := 0) (n := 1) (.head _) (Nat.le_of_ble_eq_true rfl)) ?_
      refine ArrOb.mk t.ns[j].k.toNat (by have := hdk2.k; omega) (by have := hfs.k; have := hdk2.k; omega) ?_
      refine LoadOb.mk _ (hT2.s.rd _ (by have := hfs.k; have := hdk2.k; show t.ns[j].k.toNat * 3 + 1 < 30; omega)) ?_
      refine CallOb.mk (x.M g) [⟨b6, .cells t.ns[j].cells.toArray 82 (0, 0)⟩, ⟨gb, .cells cur.toArray 257 (0, 0)⟩] _ (List.perm_append_comm (l₁ := [_, _])) (WriteString_spec g hxok _ (by have := sgn_len (t.ns[j].k.toNat * 3 + 1); show _ + (sgn (t.ns[j].k.toNat * 3 + 1)).length ≤ _; omega)) ?_
      rintro v I4 M4 - ⟨rfl, rfl, z, hz1, hzb0, rfl⟩
      have hzb : z.bs = x.bs ++ sepOf t.ns[j] := hzb0
      refine CodeOb.draw TryzEOK rfl rfl rfl ?_
      refine LoadOb.mk _ (blk_rd (T := 82) (b := b6) (cs := t.ns[j].cells) (k := 8) (n := 1) (by simp) (Nat.le_of_ble_eq_true rfl)) ?_
      refine LoadOb.mk [.int .i64 i] (blk_rd2 (b := gb) (cs := cur) (T := 257) (by simp [OS.blk]) at1) ?_
      refine IdxOb.mk ak i hak rfl hil ?_
      refine LoadOb.mk [.int .i64 (q : Nat)] (by have h9 := hrk; rw [hq0] at h9; exact h9 _) ?_
      refine LoadOb.mk [.int .i64 i] (blk_rd2 (b := gb) (cs := cur) (T := 257) (by simp [OS.blk]) at1) ?_
      refine ArithOb.mk ((i + 1 : Nat) : Int) hwr ?_
      refine StoreOb.add2 (z.M g ++ [⟨b6, .cells t.ns[j].cells.toArray 82 (0, 0)⟩]) [] cur.toArray 257 (by simp [OS.blk]) ?_ rfl ?_
      · simp only [List.size_toArray]
        show (n - 1) * 3 + 1 + 1 ≤ _
        omega
      refine CodeOb.draw TryzEOK rfl rfl rfl ?_
      refine LoadOb.mk [.int .u8 t.ns[j].k] (blk_rd (T := 82) (b := b6) (cs := t.ns[j].cells) (k := 0) (n := 1) (by simp) (Nat.le_of_ble_eq_true rfl)) ?_
      refine IdxOb.mk aq q haq rfl hql' ?_
      refine LoadOb.mk [.int .u8 t.ns[q].k] (hrq _) ?_
      refine PCallOb.mk _ (wraps_spec t.ns[j].k t.ns[q].k) ?_
      rintro v I5 M5 - ⟨rfl, rfl, rfl⟩
      refine AllocOb.mk fun b9 hb9 hbM9 => ?_
      refine OtherOb.append TryzEOK rfl (by simp) (e := 257) rfl rfl rfl ⟨some gb, n, cp, splice cur ((n - 1) * 3 + 1) [.int .i64 ((i + 1 : Nat) : Int)]⟩ (xs := stackV (st0 ++ [(j, i + 1, w)])) hos' rfl (m := 1) rfl (news := openC (q, 0, wrapsV t.ns[j].k t.ns[q].k)) (by decide) (blk_rd (b := b9) (cs := openC (q, 0, wrapsV t.ns[j].k t.ns[q].k)) (k := 0) (n := 3) (T := 257) (.head _) (Nat.le_of_ble_eq_true rfl)) rfl (Mr := ⟨b9, .cells (openC (q, 0, wrapsV t.ns[j].k t.ns[q].k)).toArray 257 (0, 0)⟩ :: (z.M g ++ [⟨b6, .cells t.ns[j].cells.toArray 82 (0, 0)⟩])) (by exact List.perm_append_comm (l₁ := (⟨b9, .cells (openC (q, 0, wrapsV t.ns[j].k t.ns[q].k)).toArray 257 (0, 0)⟩ : Blk) :: (z.M g ++ [⟨b6, .cells t.ns[j].cells.toArray 82 (0, 0)⟩])) (l₂ := [⟨gb, .cells (splice cur ((n - 1) * 3 + 1) [.int .i64 ((i + 1 : Nat) : Int)]).toArray 257 (0, 0)⟩])) (by show n + 1 ≤ _; simp only [maxLen]; omega) (by show (n + 1) * 24 ≤ _; omega) ?_
      intro g' c' cur' q1 q2 q3 q4
      refine ⟨(g, z, ⟨some g', n + 1, c', cur'⟩, st0 ++ [(j, i + 1, w)] ++ [(q, 0, wrapsV t.ns[j].k t.ns[q].k)], _), hp _ ⟨hle, hz1, ⟨?_, (fun h => by cases h), fun g3 _ => ⟨q1, q2, q3, ?_⟩⟩, by simp, ?_, ?_, ?_⟩ ?_, .perm (M1 := [⟨b9, .cells (openC (q, 0, wrapsV t.ns[j].k t.ns[q].k)).toArray 257 (0, 0)⟩, ⟨b6, .cells t.ns[j].cells.toArray 82 (0, 0)⟩] ++ (⟨g', .cells cur'.toArray 257 (0, 0)⟩ :: z.M g)) (perm1 _ _ _ _) (.sub (List.sublist_append_right _ _) .refl), .cons .refl (.cons .refl (.cons .refl .nil)), .cons rfl .nil⟩
      · show _ = (n + 1) * 3
        rw [stackV_len]
        simp
        omega
      · show cur'.take ((n + 1) * 3) = _
        rw [stackV_snoc (st0 ++ [(j, i + 1, w)])]
        exact q4
      · intro e he
        simp only [List.mem_append, List.mem_singleton] at he
        rcases he with (he | rfl) | rfl
        · exact hin e (by simp [he])
        · exact hj
        · exact hql
      · simp only
        rw [restAll_snoc, restAll_snoc, hzb, ← htxt, hre]
        rw [show decide (0 < (i : Int)) = true from hz, show headE deb t.ns (j, i, w) = [] from by simp only [headE, h1, cond_false]]
        simp
      · simp only
        rw [muAll_snoc, muAll_snoc]
        omega
      · simp only
        rw [muAll_snoc, muAll_snoc]
        omega
    · have hil : t.ns[j].kids.length ≤ i := by simp at hk; omega
      have hre0 := restE_end (deb := deb) hj (w := w) hil
      have hre : restE deb t.ns (j, i, w) = behindB t.ns[j] ++ (bif w then [41] else []) := by rw [hre0]; simp only [headE, h1, cond_false, List.nil_append]
      have hbl := behindB_len t.ns[j]
      refine LoadOb.mk _ (blk_rd (T := 82) (b := b6) (cs := t.ns[j].cells) (k := 0) (n := 9) (.head _) (Nat.le_of_ble_eq_true rfl)) ?_
      refine CallOb.mk [] (⟨b6, .cells t.ns[j].cells.toArray 82 (0, 0)⟩ :: ⟨gb, .cells cur.toArray 257 (0, 0)⟩ :: x.M g) _ (.refl _) (behind_spec hT2.c hT2.p hT2.s hdk2 hfs) ?_
      rintro v I5 M5 - ⟨rfl, rfl, rfl⟩
      refine CallOb.mk (x.M g) [⟨b6, .cells t.ns[j].cells.toArray 82 (0, 0)⟩, ⟨gb, .cells cur.toArray 257 (0, 0)⟩] _ (List.perm_append_comm (l₁ := [_, _])) (WriteString_spec g hxok _ (by show _ + (behindB t.ns[j]).length ≤ _; omega)) ?_
      rintro v I6 M6 - ⟨rfl, rfl, a, ha, hab, rfl⟩
      have hal2 : a.bs.length ≤ 2412 * t.ns.length + 2410 := by
        rw [hab, List.length_append]
        show _ + (behindB t.ns[j]).length ≤ _
        omega
      refine LoadOb.mk [.bool w] (blk_rd2 (b := gb) (cs := cur) (T := 257) (by simp [OS.blk]) at2) ?_
      refine CondOb.mk (fun hw => ?_) (fun hw => ?_)
      · subst hw
        refine CallOb.mk (a.M g) [⟨b6, .cells t.ns[j].cells.toArray 82 (0, 0)⟩, ⟨gb, .cells cur.toArray 257 (0, 0)⟩] _ (by simp) (WriteByte_spec g ha 41 (by omega)) ?_
        rintro v I8 M8 - ⟨rfl, rfl, c, hc, hcb, rfl⟩
        refine ArithOb.mk (((n - 1 : Nat)) : Int) hn1 ?_
        refine SliceOb.mk 0 (n - 1) rfl rfl (Nat.zero_le _) (by show n - 1 ≤ cp; omega) ?_
        refine CondOb.mk (fun hz => ?_) (fun hz => ?_)
        · have hz' : 0 < n - 1 := by simp at hz; omega
          refine ⟨(g, c, ⟨some gb, n - 1, cp, cur⟩, st0, _), hp _ ⟨hle, hc, ⟨?_, (fun h => by cases h), fun g3 _ => ⟨hcl, by show n - 1 ≤ cp; omega, hcm, ?_⟩⟩, ?_, fun e he => hin e (by simp [he]), ?_, ?_⟩ ?_, .perm (M1 := [⟨b6, .cells t.ns[j].cells.toArray 82 (0, 0)⟩] ++ (⟨gb, .cells cur.toArray 257 (0, 0)⟩ :: c.M g)) (List.perm_append_comm (l₂ := [_, _])) (.sub (List.sublist_append_right _ _) .refl), .cons .refl (.cons .refl (.cons .refl .nil)), .cons rfl .nil⟩
          · exact hp0
          · show cur.take ((n - 1) * 3) = _
            rw [hcur, ← hp0]
            exact List.take_left' rfl
          · intro h
            simp only at h
            rw [h] at hsl
            simp at hsl
            omega
          · simp only
            rw [hcb, hab, ← htxt, hre]
            simp [strOf]
          · simp only
            omega
          · simp only [muE]
            omega
        · have hz' : n - 1 = 0 := by simp at hz; omega
          have hst0 : st0 = [] := List.eq_nil_of_length_eq_zero (by omega)
          have hfin : c.bs = textOf deb t.ns t.root := by
            rw [hcb, hab, ← htxt, hre, hst0]
            simp [restAll, strOf]
          refine CallOb.mk (c.M g) [⟨b6, .cells t.ns[j].cells.toArray 82 (0, 0)⟩, ⟨gb, .cells cur.toArray 257 (0, 0)⟩] _ (by simp) (BString_spec g hc (by rw [hfin]; omega)) ?_
          rintro v I7 M7 - ⟨rfl, rfl, rfl⟩
          refine ⟨_, _, .sub (List.nil_sublist _) .refl, ?_, hle, rfl⟩
          rw [hfin]
          rfl
      · subst hw
        refine ArithOb.mk (((n - 1 : Nat)) : Int) hn1 ?_
        refine SliceOb.mk 0 (n - 1) rfl rfl (Nat.zero_le _) (by show n - 1 ≤ cp; omega) ?_
        refine CondOb.mk (fun hz => ?_) (fun hz => ?_)
        · have hz' : 0 < n - 1 := by simp at hz; omega
          refine ⟨(g, a, ⟨some gb, n - 1, cp, cur⟩, st0, _), hp _ ⟨hle, ha, ⟨?_, (fun h => by cases h), fun g3 _ => ⟨hcl, by show n - 1 ≤ cp; omega, hcm, ?_⟩⟩, ?_, fun e he => hin e (by simp [he]), ?_, ?_⟩ ?_, .perm (M1 := [⟨b6, .cells t.ns[j].cells.toArray 82 (0, 0)⟩] ++ (⟨gb, .cells cur.toArray 257 (0, 0)⟩ :: a.M g)) (List.perm_append_comm (l₂ := [_, _])) (.sub (List.sublist_append_right _ _) .refl), .cons .refl (.cons .refl (.cons .refl .nil)), .cons rfl .nil⟩
          · exact hp0
          · show cur.take ((n - 1) * 3) = _
            rw [hcur, ← hp0]
            exact List.take_left' rfl
          · intro h
            simp only at h
            rw [h] at hsl
            simp at hsl
            omega
          · simp only
            rw [hab, ← htxt, hre]
            simp [strOf]
          · simp only
            omega
          · simp only [muE]
            omega
        · have hz' : n - 1 = 0 := by simp at hz; omega
          have hst0 : st0 = [] := List.eq_nil_of_length_eq_zero (by omega)
          have hfin : a.bs = textOf deb t.ns t.root := by
            rw [hab, ← htxt, hre, hst0]
            simp [restAll, strOf]
          refine CallOb.mk (a.M g) [⟨b6, .cells t.ns[j].cells.toArray 82 (0, 0)⟩, ⟨gb, .cells cur.toArray 257 (0, 0)⟩] _ (by simp) (BString_spec g ha (by rw [hfin]; omega)) ?_
          rintro v I7 M7 - ⟨rfl, rfl, rfl⟩
          refine ⟨_, _, .sub (List.nil_sublist _) .refl, ?_, hle, rfl⟩
          rw [hfin]
          rfl
end Go.V
