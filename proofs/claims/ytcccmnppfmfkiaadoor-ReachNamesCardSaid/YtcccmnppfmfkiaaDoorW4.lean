/-
  Walks: tree.Size, tree.Depth, tree.May.
-/
import Derived.Test.YtcccmnppfmfkiaaDoorW3
set_option linter.unusedVariables false
set_option linter.unusedSimpArgs false
namespace Go.V
open Go Go.Proofs

/-- A row of numbers of the function's own. -/
def intRow (b : Nat) (s : List Int) : Blk := ⟨b, .cells (s.map (Value.int .i64)).toArray 3 (0, 0)⟩
theorem intRow_rd {I : GH} {M : List Blk} {b : Nat} {s : List Int} (hM : intRow b s ∈ M) {j : Nat} (hj : j < s.length) : Rd I M ((⟨b, 0, none⟩ : Addr).add (j * 1)) 1 [.int .i64 s[j]] := by
  rw [addr_add _ rfl]
  refine ⟨rfl, _, 3, (0, 0), .inr ⟨_, hM, rfl, rfl⟩, ?_, rfl⟩
  have h1 : j < (s.map (Value.int .i64)).length := by simpa using hj
  simp only [Nat.zero_add, Nat.mul_one]
  rw [List.drop_eq_getElem_cons h1, List.take_succ_cons, List.take_zero]
  simp
theorem intRow_rd' {I : GH} {M : List Blk} {b : Nat} {s : List Int} {v : Int} {j : Nat} (hj : j < s.length) (hv : s[j] = v) (hM : intRow b s ∈ M) : Rd I M ((⟨b, 0, none⟩ : Addr).add (j * 1)) 1 [.int .i64 v] := hv ▸ intRow_rd hM hj
theorem intRow_set (s : List Int) (j : Nat) (hj : j < s.length) (b : Int) : splice (s.map (Value.int .i64)) j [.int .i64 b] = (s.set j b).map (Value.int .i64) := by
  unfold splice
  rw [List.map_set, List.set_eq_take_append_cons_drop]
  simp [hj]

theorem Size_spec {I : GH} (hc : HasCounts I) {t : Tr} (ht : t.ok I) : Spec Tryd.prog 71 [t.val] I [] (fun v I' M' => v = .int .i64 (bif right t then (t.n : Int) else 0) ∧ I' = I ∧ M' = []) := by
  refine spec_of_V [] TrydEOK Tryd.func71 rfl rfl rfl ?_
  intro B h0
  refine CallOb.mk [] [] _ (.refl _) (Right_spec hc ht) ?_
  rintro v I' M' - ⟨rfl, rfl, rfl⟩
  refine CondOb.mk (fun h => ?_) (fun h => ?_)
  · refine ⟨_, _, .refl, ?_, rfl, rfl⟩
    rw [show right t = false by simpa using h]
    rfl
  · refine ⟨_, _, .refl, ?_, rfl, rfl⟩
    rw [show right t = true by simpa using h]
    rfl

/-! ### What a right tree's children are -/
theorem kidsOk_lt {i : Nat} : ∀ {ks : List Int} {s s' : List Bool}, kidsOk i ks s = some s' → ∀ k ∈ ks, 0 ≤ k ∧ k < i
  | [], s, s', _, k, hk => by cases hk
  | x :: ks, s, s', h, k, hk => by
    unfold kidsOk at h
    cases hb : (decide (x < 0) || (decide ((i : Int) ≤ x) || s.getD x.toNat false)) with
    | true => rw [hb] at h; cases h
    | false =>
      rw [hb] at h
      simp only [Bool.or_eq_false_iff, decide_eq_false_iff_not] at hb
      rcases List.mem_cons.1 hk with rfl | hk
      · omega
      · exact kidsOk_lt h k hk
theorem nodesOk_kids : ∀ {i : Nat} {ds : List Nd} {s s' : List Bool}, nodesOk i ds s = some s' → ∀ j (h : j < ds.length), ∀ k ∈ ds[j].kids, 0 ≤ k ∧ k < (i + j : Nat)
  | i, [], s, s', _, j, hj, _, _ => by cases hj
  | i, d :: ds, s, s', h, j, hj, k, hk => by
    unfold nodesOk at h
    cases hf : fits d d.kids.length with
    | false => rw [hf] at h; cases h
    | true =>
      rw [hf] at h
      simp only [cond_true] at h
      cases ho : kidsOk i d.kids s with
      | none => rw [ho] at h; cases h
      | some s1 =>
        rw [ho] at h
        cases j with
        | zero => exact kidsOk_lt ho k (by simpa using hk)
        | succ j =>
          have := nodesOk_kids h j (by simpa using hj) k (by simpa using hk)
          omega
theorem right_kids {t : Tr} (h : right t = true) : ∀ j (hj : j < t.ns.length), ∀ k ∈ t.ns[j].kids, 0 ≤ k ∧ k < j := by
  unfold right at h
  simp only [Bool.and_eq_true] at h
  obtain ⟨_, _, h⟩ := h
  split at h
  · rename_i s hs
    intro j hj k hk
    have := nodesOk_kids hs j hj k hk
    omega
  · cases h
theorem right_root {t : Tr} (h : right t = true) : 0 ≤ t.root ∧ t.root < t.ns.length := by
  unfold right at h
  simp only [Bool.and_eq_true, decide_eq_true_eq] at h
  exact ⟨h.1, h.2.1⟩

def kidMax (dp : List Int) : List Int → Int → Int
  | [], m => m
  | k :: ks, m => kidMax dp ks (max m (dp.getD k.toNat 0))
def depthsFrom : Nat → List Nd → List Int → List Int
  | _, [], dp => dp
  | i, d :: ds, dp => depthsFrom (i + 1) ds (dp.set i (kidMax dp d.kids 0 + 1))
def depth (t : Tr) : Int := bif right t then (depthsFrom 0 t.ns (List.replicate t.ns.length 0)).getD t.root.toNat 0 else 0

theorem kidMax_le {dp : List Int} {b : Int} (hd : ∀ j, dp.getD j 0 ≤ b) : ∀ (ks : List Int) (m : Int), m ≤ b → kidMax dp ks m ≤ b
  | [], m, h => h
  | k :: ks, m, h => kidMax_le hd ks _ (by have := hd k.toNat; omega)
theorem kidMax_ge {dp : List Int} : ∀ (ks : List Int) (m : Int), m ≤ kidMax dp ks m
  | [], m => Int.le_refl _
  | k :: ks, m => Int.le_trans (Int.le_max_left ..) (kidMax_ge ks _)

theorem Depth_spec {I : GH} (hc : HasCounts I) {t : Tr} (ht : t.ok I) : Spec Tryd.prog 70 [t.val] I [] (fun v I' M' => v = .int .i64 (depth t) ∧ I' = I ∧ M' = []) := by
  refine spec_of_V [] TrydEOK Tryd.func70 rfl rfl rfl ?_
  intro B h0
  have hn := ht.n
  have hcap := ht.rs.cap
  refine CallOb.mk [] [] _ (.refl _) (Right_spec hc ht) ?_
  rintro v I' M' - ⟨rfl, rfl, rfl⟩
  refine CondOb.mk (fun h => ?_) (fun h => ?_)
  · refine ⟨_, _, .refl, ?_, rfl, rfl⟩
    simp [depth, show right t = false by simpa using h]
  · have hr : right t = true := by simpa using h
    have hkids := right_kids hr
    obtain ⟨g1, g2⟩ := right_root hr
    refine MakeOb.mk t.n t.n rfl rfl (Nat.le_refl _) (by show 8 * t.n ≤ _; omega) (by omega) ?_
    refine AllocOb.mk fun b hb hbM => ?_
    refine LoopOb.inv (ι := Nat × List Int)
      (fun x => { fl := [(1, .ref 1 0), (3, .val (.slice (some ⟨b, 0, none⟩) t.n t.n)), (16, .val (.slice t.a t.n t.c)), (17, .val (.int .i64 t.n)), (18, .val (.int .i64 x.1))], cl := [(1, t.cells)], gi := I', mi := [intRow b x.2] })
      (fun x => x.1 ≤ t.n ∧ x.2.length = t.n ∧ (∀ j, 0 ≤ x.2.getD j 0 ∧ x.2.getD j 0 ≤ x.1) ∧ (∀ j, x.1 ≤ j → x.2.getD j 0 = 0) ∧ depthsFrom 0 t.ns (List.replicate t.ns.length 0) = depthsFrom x.1 (t.ns.drop x.1) x.2) (fun x => t.n - x.1) ?_ ?_
    · have z : ∀ j, (List.replicate t.n (0 : Int)).getD j 0 = 0 := fun j => by
        by_cases hj : j < t.n <;> simp [List.getD_eq_getElem?_getD, hj]
      refine ⟨(0, List.replicate t.n 0), ⟨by omega, by simp, fun j => by rw [z]; simp, fun j _ => z j, by simp [hn]⟩, ?_, .cons .refl (.cons .refl (.cons .refl (.cons .refl (.cons .refl .nil)))), .cons rfl .nil⟩
      show Wk _ _ [⟨b, .cells (rowOf [Value.int .i64 0] (t.n * 1)).toArray 3 (0, 0)⟩] _ [intRow b (List.replicate t.n 0)]
      rw [rowOf_one, Nat.mul_one]
      simp only [intRow, List.map_replicate]
      exact .refl
    · rintro ⟨i, dp⟩ ⟨hi1, hi2, hi3, hi4, hi5⟩
      simp only at hi1 hi2 hi3 hi4 hi5
      refine CondOb.mk (fun h => ?_) (fun h => ?_)
      · have hlt : i < t.n := by simpa using h
        have hlt' : i < t.ns.length := by omega
        obtain ⟨ad, had, hrd⟩ := ht.rs.row Nd.cells_len hlt hlt'
        have hdk := ht.ns t.ns[i] (List.getElem_mem hlt')
        have hkn := hdk.kn
        have hdrop : t.ns.drop i = t.ns[i] :: t.ns.drop (i + 1) := List.drop_eq_getElem_cons hlt'
        refine IdxOb.mk ad i had rfl hlt ?_
        refine LoadOb.mk t.ns[i].cells (hrd _) ?_
        refine LoopOb.inv (ι := Nat × Int)
          (fun x => { fl := [(1, .ref 1 0), (3, .val (.slice (some ⟨b, 0, none⟩) t.n t.n)), (4, .val (.int .i64 i)), (16, .val (.slice t.a t.n t.c)), (17, .val (.int .i64 t.n)), (18, .val (.int .i64 i)), (24, .val (.slice t.ns[i].ka t.ns[i].kn t.ns[i].kc)), (25, .val (.int .i64 t.ns[i].kn)), (26, .val (.int .i64 x.1))], cl := [(1, t.cells)], gi := I', mi := [intRow b (dp.set i x.2)] })
          (fun x => x.1 ≤ t.ns[i].kn ∧ 0 ≤ x.2 ∧ x.2 ≤ i ∧ kidMax dp t.ns[i].kids 0 = kidMax dp (t.ns[i].kids.drop x.1) x.2) (fun x => t.ns[i].kn - x.1) ?_ ?_
        · refine ⟨(0, 0), ⟨by omega, by omega, by simp, rfl⟩, ?_, .cons .refl (.cons .refl (.cons .refl (.cons .refl (.cons .refl (.cons .refl (.cons .refl (.cons .refl (.cons .refl .nil)))))))), .cons rfl .nil⟩
          have e : dp.set i 0 = dp := by
            have h1 := hi4 i (Nat.le_refl _)
            rw [List.getD_eq_getElem?_getD] at h1
            apply List.ext_getElem?
            intro j
            rw [List.getElem?_set]
            split
            · rename_i e
              subst e
              have : i < dp.length := by omega
              simp [this] at h1 ⊢
              exact h1.symm
            · rfl
          simp only
          rw [e]
          exact .refl
        · rintro ⟨j, m⟩ ⟨hj1, hj2, hj3, hj4⟩
          simp only at hj1 hj2 hj3 hj4
          refine CondOb.mk (fun h => ?_) (fun h => ?_)
          · have hjl : j < t.ns[i].kn := by simpa using h
            have hjl' : j < t.ns[i].kids.length := by omega
            obtain ⟨ak, hak, hrk⟩ := hdk.rs.one hjl hjl'
            have hkd : t.ns[i].kids.drop j = t.ns[i].kids[j] :: t.ns[i].kids.drop (j + 1) := List.drop_eq_getElem_cons hjl'
            have hk := hkids i hlt' t.ns[i].kids[j] (List.getElem_mem hjl')
            have hk0 : t.ns[i].kids[j] = ((t.ns[i].kids[j].toNat : Nat) : Int) := by omega
            have hkl : t.ns[i].kids[j].toNat < t.n := by omega
            refine IdxOb.mk ak j hak rfl hjl ?_
            refine LoadOb.mk [.int .i64 t.ns[i].kids[j]] (hrk _) ?_
            refine CodeOb.draw TrydEOK rfl rfl rfl ?_
            have hil : i < (dp.set i m).length := by simp; omega
            have hkl' : t.ns[i].kids[j].toNat < (dp.set i m).length := by simp; omega
            have hii : (dp.set i m)[i] = m := by simp
            have hkk : (dp.set i m)[t.ns[i].kids[j].toNat] = dp.getD t.ns[i].kids[j].toNat 0 := by
              have hne : i ≠ t.ns[i].kids[j].toNat := by omega
              have h9 : t.ns[i].kids[j].toNat < dp.length := by omega
              rw [List.getElem_set, if_neg hne]
              simp [List.getD_eq_getElem?_getD, h9]
            refine IdxOb.mk ⟨b, 0, none⟩ i rfl rfl hlt ?_
            refine LoadOb.mk [.int .i64 m] (intRow_rd' hil hii (by simp)) ?_
            refine IdxOb.mk ⟨b, 0, none⟩ t.ns[i].kids[j].toNat rfl hk0 hkl ?_
            refine LoadOb.mk [.int .i64 (dp.getD t.ns[i].kids[j].toNat 0)] (intRow_rd' hkl' hkk (by simp)) ?_
            refine IdxOb.mk ⟨b, 0, none⟩ i rfl rfl hlt ?_
            refine StoreOb.add [] [] _ 3 rfl ?_ rfl ?_
            · simp only [List.size_toArray, List.length_map]
              show 0 + i * 1 + 1 ≤ _
              simp
              omega
            have hwr : IntKind.i64.wrap ((j : Int) + 1) = ((j + 1 : Nat) : Int) := by
              rw [wrap_i64 ⟨by omega, by have := hdk.rs.cap; omega⟩]
              omega
            refine ArithOb.mk _ hwr ?_
            have h3k := hi3 t.ns[i].kids[j].toNat
            refine ⟨(j + 1, max m (dp.getD t.ns[i].kids[j].toNat 0)), ⟨⟨by omega, by simp only; omega, by simp only; omega, ?_⟩, by show _ < _; simp only; omega⟩, ?_, .cons .refl (.cons .refl (.cons .refl (.cons .refl (.cons .refl (.cons .refl (.cons .refl (.cons .refl (.cons .refl .nil)))))))), .cons rfl .nil⟩
            · simp only
              rw [hj4, hkd]
              rfl
            · have e := intRow_set (dp.set i m) i hil (max m (dp.getD t.ns[i].kids[j].toNat 0))
              simp only [intRow]
              rw [List.set_set] at e
              rw [← e]
              simp only [Nat.zero_add, Nat.mul_one]
              exact .refl
          · have hjl : ¬ j < t.ns[i].kn := by simpa using h
            have hje : t.ns[i].kids.drop j = [] := List.drop_eq_nil_of_le (by omega)
            have hm : kidMax dp t.ns[i].kids 0 = m := by rw [hj4, hje]; rfl
            have hil : i < (dp.set i m).length := by simp; omega
            have hii : (dp.set i m)[i] = m := by simp
            have hwm : IntKind.i64.wrap (m + 1) = m + 1 := wrap_i64 ⟨by omega, by omega⟩
            have hwr : IntKind.i64.wrap ((i : Int) + 1) = ((i + 1 : Nat) : Int) := by
              rw [wrap_i64 ⟨by omega, by omega⟩]
              omega
            refine IdxOb.mk ⟨b, 0, none⟩ i rfl rfl hlt ?_
            refine LoadOb.mk [.int .i64 m] (intRow_rd' hil hii (by simp)) ?_
            refine ArithOb.mk _ hwm ?_
            refine IdxOb.mk ⟨b, 0, none⟩ i rfl rfl hlt ?_
            refine StoreOb.add [] [] _ 3 rfl ?_ rfl ?_
            · simp only [List.size_toArray, List.length_map]
              show 0 + i * 1 + 1 ≤ _
              omega
            refine ArithOb.mk _ hwr ?_
            refine ⟨(i + 1, dp.set i (m + 1)), ⟨⟨by omega, by simp [hi2], ?_, ?_, ?_⟩, by show _ < _; simp only; omega⟩, ?_, .cons .refl (.cons .refl (.cons .refl (.cons .refl (.cons .refl .nil)))), .cons rfl .nil⟩
            · intro q
              have h3q := hi3 q
              simp only [List.getD_eq_getElem?_getD, List.getElem?_set] at h3q ⊢
              split
              · rename_i e
                subst e
                have : i < dp.length := by omega
                simp [this]
                omega
              · omega
            · intro q hq
              have h4q := hi4 q (by omega)
              simp only at hq
              simp only [List.getD_eq_getElem?_getD, List.getElem?_set] at h4q ⊢
              rw [if_neg (by omega)]
              exact h4q
            · simp only
              rw [hi5, hdrop]
              simp only [depthsFrom, hm]
            · have e := intRow_set (dp.set i m) i hil (m + 1)
              simp only [intRow]
              rw [List.set_set] at e
              rw [← e]
              simp only [Nat.zero_add, Nat.mul_one]
              exact .refl
      · have hge : ¬ i < t.n := by simpa using h
        have hdn : t.ns.drop i = [] := List.drop_eq_nil_of_le (by omega)
        have hall : depthsFrom 0 t.ns (List.replicate t.ns.length 0) = dp := by rw [hi5, hdn]; rfl
        have hr0 : t.root = ((t.root.toNat : Nat) : Int) := by omega
        have hrl : t.root.toNat < dp.length := by omega
        refine IdxOb.mk ⟨b, 0, none⟩ t.root.toNat rfl hr0 (by omega) ?_
        refine LoadOb.mk [.int .i64 dp[t.root.toNat]] (intRow_rd' hrl rfl (by simp)) ?_
        refine ⟨_, _, .sub (List.nil_sublist _) .refl, ?_, rfl, rfl⟩
        have : depth t = dp[t.root.toNat] := by
          unfold depth
          rw [hr, hall]
          simp [List.getD_eq_getElem?_getD, hrl]
        rw [this]
        rfl

def mayTree (t : Tr) : Bool := decide (t.n ≤ 1024) && (right t && decide (depth t ≤ 32))
theorem TMay_spec {I : GH} (hc : HasCounts I) {t : Tr} (ht : t.ok I) : Spec Tryd.prog 58 [t.val] I [] (fun v I' M' => v = .bool (mayTree t) ∧ I' = I ∧ M' = []) := by
  refine spec_of_V [] TrydEOK Tryd.func58 rfl rfl rfl ?_
  intro B h0
  refine GuardOb.mk (fun h1 => ?_) (fun h1 => ?_)
  · refine CallOb.mk [] [] _ (.refl _) (Right_spec hc ht) ?_
    rintro v I' M' - ⟨rfl, rfl, rfl⟩
    refine GuardOb.mk (fun h2 => ?_) (fun h2 => ?_)
    · refine CallOb.mk [] [] _ (.refl _) (Depth_spec hc ht) ?_
      rintro v I' M' - ⟨rfl, rfl, rfl⟩
      refine ⟨_, _, .refl, ?_, rfl, rfl⟩
      have h1' : t.n ≤ 1024 := by simp at h1; omega
      simp [mayTree, h1', h2]
    · refine ⟨_, _, .refl, ?_, rfl, rfl⟩
      have h2' : right t = false := h2
      simp [mayTree, h2']
  · refine ⟨_, _, .refl, ?_, rfl, rfl⟩
    have h1' : ¬ t.n ≤ 1024 := by simp at h1; omega
    simp [mayTree, h1']
end Go.V
