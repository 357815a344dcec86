/-
  Walks: tree.Right.
-/
import Derived.Test.YtcccmnppfmfkiaaDoorW2
set_option linter.unusedVariables false
set_option linter.unusedSimpArgs false
namespace Go.V
open Go Go.Proofs

def kidsOk (i : Nat) : List Int → List Bool → Option (List Bool)
  | [], s => some s
  | k :: ks, s => bif decide (k < 0) || (decide ((i : Int) ≤ k) || s.getD k.toNat false) then none else kidsOk i ks (s.set k.toNat true)
def nodesOk : Nat → List Nd → List Bool → Option (List Bool)
  | _, [], s => some s
  | i, d :: ds, s => bif fits d d.kids.length then (match kidsOk i d.kids s with
    | some s' => nodesOk (i + 1) ds s'
    | none => none) else none
def rootOk (root : Int) : Nat → List Bool → Bool
  | _, [] => true
  | i, b :: s => bif b == decide ((i : Int) = root) then false else rootOk root (i + 1) s
def right (t : Tr) : Bool := decide (0 ≤ t.root) && (decide (t.root < t.ns.length) && (match nodesOk 0 t.ns (List.replicate t.ns.length false) with
  | some s => rootOk t.root 0 s
  | none => false))

theorem rowOf_one (v : Value) (n : Nat) : rowOf [v] n = List.replicate n v := by
  apply List.ext_getElem
  · simp [rowOf_eq, madeCells]
  · intro i h1 h2
    simp [rowOf_eq, madeCells, Nat.mod_one]
/-- A row of bools of the function's own. -/
def boolRow (b : Nat) (s : List Bool) : Blk := ⟨b, .cells (s.map Value.bool).toArray 4 (0, 0)⟩
theorem boolRow_rd {I : GH} {M : List Blk} {b : Nat} {s : List Bool} (hM : boolRow b s ∈ M) {j : Nat} (hj : j < s.length) : Rd I M ((⟨b, 0, none⟩ : Addr).add (j * 1)) 1 [.bool s[j]] := by
  rw [addr_add _ rfl]
  refine ⟨rfl, _, 4, (0, 0), .inr ⟨_, hM, rfl, rfl⟩, ?_, rfl⟩
  have h1 : j < (s.map Value.bool).length := by simpa using hj
  simp only [Nat.zero_add, Nat.mul_one]
  rw [List.drop_eq_getElem_cons h1, List.take_succ_cons, List.take_zero]
  simp
theorem boolRow_set (s : List Bool) (j : Nat) (hj : j < s.length) (b : Bool) : splice (s.map Value.bool) j [.bool b] = (s.set j b).map Value.bool := by
  unfold splice
  rw [List.map_set, List.set_eq_take_append_cons_drop]
  simp [hj]

theorem StoreOb.add {M : List Blk} {b o k : Nat} {vs : List Value} {K : List Blk → Prop} (pre post : List Blk) (cs : Array Value) (T : Nat) (hM : M = pre ++ ⟨b, .cells cs T (0, 0)⟩ :: post) (hb : o + k + vs.length ≤ cs.size) (h1 : allOne vs = true)
    (h : K (pre ++ ⟨b, .cells (splice cs.toList (o + k) vs).toArray T (0, 0)⟩ :: post)) : StoreOb M ((⟨b, o, none⟩ : Addr).add k) vs K := by
  rw [addr_add _ rfl]
  exact .mk pre post cs T hM rfl hb h1 h

theorem Right_spec {I : GH} (hc : HasCounts I) {t : Tr} (ht : t.ok I) : Spec Tryd.prog 47 [t.val] I [] (fun v I' M' => v = .bool (right t) ∧ I' = I ∧ M' = []) := by
  refine spec_of_V [] TrydEOK Tryd.func47 rfl rfl rfl ?_
  intro B h0
  have hn := ht.n
  have hcap := ht.rs.cap
  refine GuardOb.mk (fun h1 => ?_) (fun h1 => ?_)
  · refine CondOb.mk (fun h2 => ?_) (fun h2 => ?_)
    · refine ⟨_, _, .refl, ?_, rfl, rfl⟩
      simp at h2
      have : ¬ t.root < t.ns.length := by omega
      simp [right, this]
    · have g1 : 0 ≤ t.root := by simpa using h1
      have g2 : t.root < t.ns.length := by simp at h2; omega
      refine MakeOb.mk t.n t.n rfl rfl (Nat.le_refl _) (by show 1 * t.n ≤ _; omega) (by omega) ?_
      refine AllocOb.mk fun b hb hbM => ?_
      refine LoopOb.inv (ι := Nat × List Bool)
        (fun x => { fl := [(1, .ref 1 0), (3, .val (.slice (some ⟨b, 0, none⟩) t.n t.n)), (26, .val (.slice t.a t.n t.c)), (27, .val (.int .i64 t.n)), (28, .val (.int .i64 x.1))], cl := [(1, t.cells)], gi := I, mi := [boolRow b x.2] })
        (fun x => x.1 ≤ t.n ∧ x.2.length = t.n ∧ nodesOk 0 t.ns (List.replicate t.ns.length false) = nodesOk x.1 (t.ns.drop x.1) x.2) (fun x => t.n - x.1) ?_ ?_
      · refine ⟨(0, List.replicate t.n false), ⟨by omega, by simp, by simp [hn]⟩, ?_, .cons .refl (.cons .refl (.cons .refl (.cons .refl (.cons .refl .nil)))), .cons rfl .nil⟩
        show Wk _ _ [⟨b, .cells (rowOf [Value.bool false] (t.n * 1)).toArray 4 (0, 0)⟩] _ [boolRow b (List.replicate t.n false)]
        rw [rowOf_one, Nat.mul_one]
        simp only [boolRow, List.map_replicate]
        exact .refl
      · rintro ⟨i, s⟩ ⟨hi1, hi2, hi3⟩
        simp only at hi1 hi2 hi3
        refine CondOb.mk (fun h => ?_) (fun h => ?_)
        · have hlt : i < t.n := by simpa using h
          have hlt' : i < t.ns.length := by omega
          obtain ⟨ad, had, hrd⟩ := ht.rs.row Nd.cells_len hlt hlt'
          have hdk := ht.ns t.ns[i] (List.getElem_mem hlt')
          have hkn := hdk.kn
          have hdrop : t.ns.drop i = t.ns[i] :: t.ns.drop (i + 1) := List.drop_eq_getElem_cons hlt'
          refine IdxOb.mk ad i had rfl hlt ?_
          refine LoadOb.mk t.ns[i].cells (hrd _) ?_
          refine CallOb.mk [] [boolRow b s] _ (.refl _) (Fits_spec hc hdk t.ns[i].kn) ?_
          rintro v I' M' - ⟨rfl, rfl, rfl⟩
          refine CondOb.mk (fun h3 => ?_) (fun h3 => ?_)
          · refine ⟨_, _, .sub (List.nil_sublist _) .refl, ?_, rfl, rfl⟩
            have hf : fits t.ns[i] t.ns[i].kids.length = false := by rw [hkn]; simpa using h3
            have : right t = false := by
              unfold right
              rw [hi3, hdrop]
              simp [nodesOk, hf]
            rw [this]
          · have hf : fits t.ns[i] t.ns[i].kids.length = true := by rw [hkn]; simpa using h3
            refine LoopOb.inv (ι := Nat × List Bool)
              (fun x => { fl := [(1, .ref 1 0), (3, .val (.slice (some ⟨b, 0, none⟩) t.n t.n)), (4, .val (.int .i64 i)), (26, .val (.slice t.a t.n t.c)), (27, .val (.int .i64 t.n)), (28, .val (.int .i64 i)), (40, .val (.slice t.ns[i].ka t.ns[i].kn t.ns[i].kc)), (41, .val (.int .i64 t.ns[i].kn)), (42, .val (.int .i64 x.1))], cl := [(1, t.cells)], gi := I', mi := [boolRow b x.2] })
              (fun x => x.1 ≤ t.ns[i].kn ∧ x.2.length = t.n ∧ kidsOk i t.ns[i].kids s = kidsOk i (t.ns[i].kids.drop x.1) x.2) (fun x => t.ns[i].kn - x.1) ?_ ?_
            · exact ⟨(0, s), ⟨by omega, hi2, rfl⟩, .refl, .cons .refl (.cons .refl (.cons .refl (.cons .refl (.cons .refl (.cons .refl (.cons .refl (.cons .refl (.cons .refl .nil)))))))), .cons rfl .nil⟩
            · rintro ⟨j, s'⟩ ⟨hj1, hj2, hj3⟩
              simp only at hj1 hj2 hj3
              refine CondOb.mk (fun h => ?_) (fun h => ?_)
              · have hjl : j < t.ns[i].kn := by simpa using h
                have hjl' : j < t.ns[i].kids.length := by omega
                obtain ⟨ak, hak, hrk⟩ := hdk.rs.one hjl hjl'
                refine IdxOb.mk ak j hak rfl hjl ?_
                refine LoadOb.mk [.int .i64 t.ns[i].kids[j]] (hrk _) ?_
                have hkd : t.ns[i].kids.drop j = t.ns[i].kids[j] :: t.ns[i].kids.drop (j + 1) := List.drop_eq_getElem_cons hjl'
                have bad : (decide (t.ns[i].kids[j] < 0) || (decide ((i : Int) ≤ t.ns[i].kids[j]) || s'.getD t.ns[i].kids[j].toNat false)) = true → right t = false := fun hb => by
                  unfold right
                  rw [hi3, hdrop]
                  simp only [nodesOk, hf, cond_true, hj3, hkd, kidsOk, hb]
                  simp
                refine GuardOb.mk (fun h4 => ?_) (fun h4 => ?_)
                · refine GuardOb.mk (fun h5 => ?_) (fun h5 => ?_)
                  · simp only [decide_eq_false_iff_not, Int.not_lt, Int.not_le] at h4 h5
                    have hk0 : t.ns[i].kids[j] = ((t.ns[i].kids[j].toNat : Nat) : Int) := by omega
                    have hkl : t.ns[i].kids[j].toNat < t.n := by omega
                    have hkl' : t.ns[i].kids[j].toNat < s'.length := by omega
                    refine IdxOb.mk ⟨b, 0, none⟩ t.ns[i].kids[j].toNat rfl hk0 hkl ?_
                    refine LoadOb.mk [.bool s'[t.ns[i].kids[j].toNat]] (boolRow_rd (by simp) hkl') ?_
                    refine CondOb.mk (fun h6 => ?_) (fun h6 => ?_)
                    · refine ⟨_, _, .sub (List.nil_sublist _) .refl, ?_, rfl, rfl⟩
                      rw [bad]
                      simp [List.getD_eq_getElem?_getD, hkl', h6]
                    · refine IdxOb.mk ⟨b, 0, none⟩ t.ns[i].kids[j].toNat rfl hk0 hkl ?_
                      refine StoreOb.add [] [] _ 4 rfl ?_ rfl ?_
                      · simp only [List.size_toArray, List.length_map]
                        show 0 + t.ns[i].kids[j].toNat * 1 + 1 ≤ _
                        omega
                      have hwr : IntKind.i64.wrap ((j : Int) + 1) = ((j + 1 : Nat) : Int) := by
                        rw [wrap_i64 ⟨by omega, by have := hdk.rs.cap; omega⟩]
                        omega
                      refine ArithOb.mk _ hwr ?_
                      refine ⟨(j + 1, s'.set t.ns[i].kids[j].toNat true), ⟨⟨by omega, by simp [hj2], ?_⟩, by show _ < _; simp only; omega⟩, ?_, .cons .refl (.cons .refl (.cons .refl (.cons .refl (.cons .refl (.cons .refl (.cons .refl (.cons .refl (.cons .refl .nil)))))))), .cons rfl .nil⟩
                      · simp only
                        rw [hj3, hkd]
                        have hq : (decide (t.ns[i].kids[j] < 0) || (decide ((i : Int) ≤ t.ns[i].kids[j]) || s'.getD t.ns[i].kids[j].toNat false)) = false := by
                          have e1 : ¬ t.ns[i].kids[j] < 0 := by omega
                          have e2 : ¬ (i : Int) ≤ t.ns[i].kids[j] := by omega
                          simp [e1, e2, List.getD_eq_getElem?_getD, hkl', show s'[t.ns[i].kids[j].toNat] = false from h6]
                        simp only [kidsOk, hq, cond_false]
                      · have e := boolRow_set s' t.ns[i].kids[j].toNat hkl' true
                        simp only [boolRow]
                        rw [← e]
                        simp only [Nat.zero_add, Nat.mul_one]
                        exact .refl
                  · refine ⟨_, _, .sub (List.nil_sublist _) .refl, ?_, rfl, rfl⟩
                    rw [bad]
                    simp at h5
                    simp [h5]
                · refine ⟨_, _, .sub (List.nil_sublist _) .refl, ?_, rfl, rfl⟩
                  rw [bad]
                  simp at h4
                  simp [h4]
              · have hjl : ¬ j < t.ns[i].kn := by simpa using h
                have hje : t.ns[i].kids.drop j = [] := List.drop_eq_nil_of_le (by omega)
                have hwr : IntKind.i64.wrap ((i : Int) + 1) = ((i + 1 : Nat) : Int) := by
                  rw [wrap_i64 ⟨by omega, by omega⟩]
                  omega
                refine ArithOb.mk _ hwr ?_
                refine ⟨(i + 1, s'), ⟨⟨by omega, hj2, ?_⟩, by show _ < _; simp only; omega⟩, .refl, .cons .refl (.cons .refl (.cons .refl (.cons .refl (.cons .refl .nil)))), .cons rfl .nil⟩
                simp only
                rw [hi3, hdrop]
                simp only [nodesOk, hf, cond_true, hj3, hje, kidsOk]
        · have hge : ¬ i < t.n := by simpa using h
          have hdn : t.ns.drop i = [] := List.drop_eq_nil_of_le (by omega)
          have hall : nodesOk 0 t.ns (List.replicate t.ns.length false) = some s := by rw [hi3, hdn]; rfl
          have hr : right t = rootOk t.root 0 s := by
            unfold right
            rw [hall]
            simp [g1, g2]
          refine LoopOb.inv (ι := Nat)
            (fun m => { fl := [(1, .ref 1 0), (64, .val (.slice (some ⟨b, 0, none⟩) t.n t.n)), (65, .val (.int .i64 t.n)), (66, .val (.int .i64 m))], cl := [(1, t.cells)], gi := I, mi := [boolRow b s] })
            (fun m => m ≤ t.n ∧ rootOk t.root 0 s = rootOk t.root m (s.drop m)) (fun m => t.n - m) ?_ ?_
          · exact ⟨0, ⟨by omega, rfl⟩, .refl, .cons .refl (.cons .refl (.cons .refl (.cons .refl .nil))), .cons rfl .nil⟩
          · rintro m ⟨hm1, hm2⟩
            refine CondOb.mk (fun h => ?_) (fun h => ?_)
            · have hml : m < t.n := by simpa using h
              have hml' : m < s.length := by omega
              have hmd : s.drop m = s[m] :: s.drop (m + 1) := List.drop_eq_getElem_cons hml'
              refine IdxOb.mk ⟨b, 0, none⟩ m rfl rfl hml ?_
              refine LoadOb.mk [.bool s[m]] (boolRow_rd (by simp) hml') ?_
              refine CondOb.mk (fun h7 => ?_) (fun h7 => ?_)
              · refine ⟨_, _, .sub (List.nil_sublist _) .refl, ?_, rfl, rfl⟩
                have : right t = false := by
                  rw [hr, hm2, hmd]
                  simp only [rootOk, show (s[m] == decide ((m : Int) = t.root)) = true from h7, cond_true]
                rw [this]
              · have hwr : IntKind.i64.wrap ((m : Int) + 1) = ((m + 1 : Nat) : Int) := by
                  rw [wrap_i64 ⟨by omega, by omega⟩]
                  omega
                refine ArithOb.mk _ hwr ?_
                refine ⟨m + 1, ⟨⟨by omega, ?_⟩, by omega⟩, .refl, .cons .refl (.cons .refl (.cons .refl (.cons .refl .nil))), .cons rfl .nil⟩
                rw [hm2, hmd]
                simp only [rootOk, show (s[m] == decide ((m : Int) = t.root)) = false from h7, cond_false]
            · have hml : ¬ m < t.n := by simpa using h
              have hmd : s.drop m = [] := List.drop_eq_nil_of_le (by omega)
              refine ⟨_, _, .sub (List.nil_sublist _) .refl, ?_, rfl, rfl⟩
              rw [hr, hm2, hmd]
              rfl
  · refine ⟨_, _, .refl, ?_, rfl, rfl⟩
    have : ¬ 0 ≤ t.root := by simp at h1; omega
    simp [right, this]
end Go.V
