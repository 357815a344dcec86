/-
  Walks: gram.nodes, reach.named: iterators.
-/
import Derived.Test.YtcccmnppfmfkiaaDoorWd
set_option linter.unusedVariables false
set_option linter.unusedSimpArgs false
namespace Go.V
open Go Go.Proofs

theorem drop_cons {α : Type} {L : List α} {k : Nat} {x : α} {rest : List α} (h : L.drop k = x :: rest) : ∃ hk : k < L.length, L[k] = x ∧ L.drop (k + 1) = rest := by
  have hk : k < L.length := by
    apply Nat.lt_of_not_le
    intro hle
    rw [List.drop_eq_nil_of_le hle] at h
    cases h
  have hd := List.drop_eq_getElem_cons hk
  rw [h] at hd
  obtain ⟨h1, h2⟩ := List.cons.inj hd
  exact ⟨hk, h1.symm, h2.symm⟩

def nodeVals : Nat → List Df → List (List Value)
  | _, [] => []
  | i, d :: ds => d.t.ns.map (fun n => [.int .i64 i, n.val]) ++ nodeVals (i + 1) ds

theorem nodes_spec {I : GH} (g : Gr) : Spec Tryd.prog 46 [g.val] I [] fun r I' M' => ∃ b, r = .func (.func 61) #[] #[ptr b] ∧ I' b = some (.cells #[.slice g.a g.n g.c] 38 (0, 0)) ∧ (∀ b o, I b = some o → I' b = some o) ∧ M' = [] := by
  refine spec_of_V [1] TrydEOK Tryd.func46 rfl rfl rfl ?_
  intro B h0
  refine AllocOb.mk fun g hg hgM => ?_
  exact ⟨_, _, .prom rfl (by simp) .refl, g, rfl, ins_self .., ins_le hg, rfl⟩

theorem nodes1_iter {I : GH} {g : Gr} (hg : g.ok I) {b : Nat} (hb : I b = some (.cells #[.slice g.a g.n g.c] 38 (0, 0))) :
    Iter Tryd.prog 61 [ptr b] I (nodeVals 0 g.ds) := by
  intro l R Rx hY I0 M0 hI0 hR0
  refine specE_of_V [] TrydEOK Tryd.func61 rfl rfl rfl ?_
  intro B h0
  have hgn := hg.n
  have hcap := hg.rs.cap
  have hrd : ∀ (M : List Blk), Rd I0 M ((⟨b, 0, none⟩ : Addr).add 0) 1 [.slice g.a g.n g.c] := fun M => ⟨rfl, _, _, _, .inl (hI0 _ _ hb), rfl, rfl⟩
  refine LoadOb.mk _ (hrd _) ?_
  refine LoopOb.inv (ι := Nat × Nat × GH × List Blk)
    (fun x => { fl := [(0, .val (.func (.yield l) #[] #[])), (8, .val (.slice g.a g.n g.c)), (9, .val (.int .i64 g.n)), (10, .val (.int .i64 x.1))], gi := x.2.2.1, mi := x.2.2.2 })
    (fun x => x.1 ≤ g.n ∧ (∀ b o, I b = some o → x.2.2.1 b = some o) ∧ R x.2.1 x.2.2.1 x.2.2.2 ∧ x.2.1 ≤ (nodeVals 0 g.ds).length ∧ (nodeVals 0 g.ds).drop x.2.1 = nodeVals x.1 (g.ds.drop x.1)) (fun x => g.n - x.1) ?_ ?_
  · exact ⟨(0, 0, I0, M0), ⟨by simp, hI0, hR0, by simp, rfl⟩, .refl, .cons .refl (.cons .refl (.cons .refl (.cons .refl .nil))), .nil⟩
  · rintro ⟨i, k, I1, M1⟩ ⟨hi, hI1, hR1, hkl, hd1⟩
    simp only at hi hI1 hR1 hkl hd1
    refine CondOb.mk (fun h => ?_) (fun h => ?_)
    · have hlt : i < g.n := by simpa using h
      have hlt' : i < g.ds.length := by omega
      have hg1 := hg.mono hI1
      obtain ⟨ad, had, hrdd⟩ := hg1.rs.row Df.cells_len hlt hlt'
      have hdm : g.ds[i] ∈ g.ds := List.getElem_mem hlt'
      have htn := (hg.ds _ hdm).t.n
      have htc := (hg.ds _ hdm).t.rs.cap
      have hdrop : g.ds.drop i = g.ds[i] :: g.ds.drop (i + 1) := List.drop_eq_getElem_cons hlt'
      refine IdxOb.mk ad i had rfl hlt ?_
      refine LoadOb.mk _ (hrdd _) ?_
      refine LoopOb.inv (ι := Nat × Nat × GH × List Blk)
        (fun x => { fl := [(0, .val (.func (.yield l) #[] #[])), (3, .val (.int .i64 i)), (8, .val (.slice g.a g.n g.c)), (9, .val (.int .i64 g.n)), (10, .val (.int .i64 i)), (17, .val (.slice g.ds[i].t.a g.ds[i].t.n g.ds[i].t.c)), (18, .val (.int .i64 g.ds[i].t.n)), (19, .val (.int .i64 x.1))], gi := x.2.2.1, mi := x.2.2.2 })
        (fun x => x.1 ≤ g.ds[i].t.n ∧ (∀ b o, I b = some o → x.2.2.1 b = some o) ∧ R x.2.1 x.2.2.1 x.2.2.2 ∧ x.2.1 ≤ (nodeVals 0 g.ds).length ∧ (nodeVals 0 g.ds).drop x.2.1 = (g.ds[i].t.ns.drop x.1).map (fun n => [.int .i64 i, n.val]) ++ nodeVals (i + 1) (g.ds.drop (i + 1))) (fun x => g.ds[i].t.n - x.1) ?_ ?_
      · refine ⟨(0, k, I1, M1), ⟨by simp, hI1, hR1, hkl, ?_⟩, .refl, .cons .refl (.cons .refl (.cons .refl (.cons .refl (.cons .refl (.cons .refl (.cons .refl (.cons .refl .nil))))))), .nil⟩
        simp only
        rw [hd1, hdrop]
        rfl
      · rintro ⟨j, k, I1, M1⟩ ⟨hj, hI1, hR1, hkl, hd1⟩
        simp only at hj hI1 hR1 hkl hd1
        refine CondOb.mk (fun h => ?_) (fun h => ?_)
        · have hjl : j < g.ds[i].t.n := by simpa using h
          have hjl' : j < g.ds[i].t.ns.length := by omega
          have hg1 := hg.mono hI1
          obtain ⟨an, han, hrn⟩ := (hg1.ds _ hdm).t.rs.row Nd.cells_len hjl hjl'
          have hnd : g.ds[i].t.ns.drop j = g.ds[i].t.ns[j] :: g.ds[i].t.ns.drop (j + 1) := List.drop_eq_getElem_cons hjl'
          rw [hnd, List.map_cons, List.cons_append] at hd1
          obtain ⟨hk, hv, hd2⟩ := drop_cons hd1
          refine IdxOb.mk an j han rfl hjl ?_
          refine LoadOb.mk _ (hrn _) ?_
          refine OtherOb.yield rfl (by simp) rfl rfl ?_
          have hy := hY k hk I1 M1 hI1 hR1
          rw [hv] at hy
          refine CallObY.mk M1 [] _ (by simp) hy ?_
          rintro v I2 M2 hI2 (⟨rfl, hR2⟩ | ⟨rfl, hx⟩)
          · refine CondOb.mk (fun h => by simp at h) (fun _ => ?_)
            refine ArithOb.mk _ (next_wr (i := j) (by omega)) ?_
            exact ⟨(j + 1, k + 1, I2, M2), ⟨⟨by simp only; omega, fun b o h => hI2 b o (hI1 b o h), hR2, hk, hd2⟩, by simp only; omega⟩, .perm (by simp) .refl, .cons .refl (.cons .refl (.cons .refl (.cons .refl (.cons .refl (.cons .refl (.cons .refl (.cons .refl .nil))))))), .nil⟩
          · refine CondOb.mk (fun _ => ?_) (fun h => by simp at h)
            exact ⟨_, _, .perm (by simp) .refl, .inr hx⟩
        · have hge : g.ds[i].t.n ≤ j := by simpa using h
          rw [List.drop_eq_nil_of_le (show g.ds[i].t.ns.length ≤ j by omega), List.map_nil, List.nil_append] at hd1
          refine ArithOb.mk _ (next_wr (i := i) (by omega)) ?_
          exact ⟨(i + 1, k, I1, M1), ⟨⟨by simp only; omega, hI1, hR1, hkl, hd1⟩, by simp only; omega⟩, .refl, .cons .refl (.cons .refl (.cons .refl (.cons .refl .nil))), .nil⟩
    · have hge : g.n ≤ i := by simpa using h
      refine ⟨_, _, .refl, .inl ?_⟩
      rw [List.drop_eq_nil_of_le (show g.ds.length ≤ i by omega)] at hd1
      have hke : k = (nodeVals 0 g.ds).length := by
        have := List.drop_eq_nil_iff.1 hd1
        omega
      rw [← hke]
      exact hR1

/-! ### reach.named -/
def namedL (ns : List Nd) : List ByteArray := (ns.filter fun d => decide (d.k = 3)).map (·.t)
theorem named_spec {I : GH} (t : Tr) : Spec Tryd.prog 54 [t.val] I [] fun r I' M' => ∃ b, r = .func (.func 66) #[] #[ptr b] ∧ I' b = some (.cells #[.slice t.a t.n t.c, .int .i64 t.root] 25 (0, 0)) ∧ (∀ b o, I b = some o → I' b = some o) ∧ M' = [] := by
  refine spec_of_V [1] TrydEOK Tryd.func54 rfl rfl rfl ?_
  intro B h0
  refine AllocOb.mk fun g hg hgM => ?_
  exact ⟨_, _, .prom rfl (by simp) .refl, g, rfl, ins_self .., ins_le hg, rfl⟩

theorem named1_iter {I : GH} {t : Tr} (ht : t.ok I) {b : Nat} (hb : I b = some (.cells #[.slice t.a t.n t.c, .int .i64 t.root] 25 (0, 0))) :
    Iter Tryd.prog 66 [ptr b] I ((namedL t.ns).map fun s => [.string s]) := by
  intro l R Rx hY I0 M0 hI0 hR0
  refine specE_of_V [] TrydEOK Tryd.func66 rfl rfl rfl ?_
  intro B h0
  have htn := ht.n
  have hcap := ht.rs.cap
  have hrd : ∀ (M : List Blk), Rd I0 M ((⟨b, 0, none⟩ : Addr).add 0) 1 [.slice t.a t.n t.c] := fun M => ⟨rfl, _, _, _, .inl (hI0 _ _ hb), rfl, rfl⟩
  refine LoadOb.mk _ (hrd _) ?_
  refine LoopOb.inv (ι := Nat × Nat × GH × List Blk)
    (fun x => { fl := [(0, .val (.func (.yield l) #[] #[])), (6, .val (.slice t.a t.n t.c)), (7, .val (.int .i64 t.n)), (8, .val (.int .i64 x.1))], gi := x.2.2.1, mi := x.2.2.2 })
    (fun x => x.1 ≤ t.n ∧ (∀ b o, I b = some o → x.2.2.1 b = some o) ∧ R x.2.1 x.2.2.1 x.2.2.2 ∧ x.2.1 ≤ ((namedL t.ns).map fun s => [Value.string s]).length ∧ ((namedL t.ns).map fun s => [Value.string s]).drop x.2.1 = (namedL (t.ns.drop x.1)).map fun s => [.string s]) (fun x => t.n - x.1) ?_ ?_
  · exact ⟨(0, 0, I0, M0), ⟨by simp, hI0, hR0, by simp, rfl⟩, .refl, .cons .refl (.cons .refl (.cons .refl (.cons .refl .nil))), .nil⟩
  · rintro ⟨j, k, I1, M1⟩ ⟨hj, hI1, hR1, hkl, hd1⟩
    simp only at hj hI1 hR1 hkl hd1
    refine CondOb.mk (fun h => ?_) (fun h => ?_)
    · have hjl : j < t.n := by simpa using h
      have hjl' : j < t.ns.length := by omega
      have ht1 := ht.mono hI1
      obtain ⟨an, han, hrn⟩ := ht1.rs.row Nd.cells_len hjl hjl'
      have hnd : t.ns.drop j = t.ns[j] :: t.ns.drop (j + 1) := List.drop_eq_getElem_cons hjl'
      refine IdxOb.mk an j han rfl hjl ?_
      refine LoadOb.mk _ (hrn _) ?_
      refine GuardOb.mk (fun h1 => ?_) (fun h1 => ?_)
      · have hn1 : namedL (t.ns.drop j) = t.ns[j].t :: namedL (t.ns.drop (j + 1)) := by
          rw [hnd]
          simp only [namedL, List.filter_cons, h1, if_true, List.map_cons]
        rw [hn1, List.map_cons] at hd1
        obtain ⟨hk, hv, hd2⟩ := drop_cons hd1
        refine OtherOb.yield rfl (by simp) rfl rfl ?_
        have hy := hY k hk I1 M1 hI1 hR1
        rw [hv] at hy
        refine CallObY.mk M1 [] _ (by simp) hy ?_
        rintro v I2 M2 hI2 (⟨rfl, hR2⟩ | ⟨rfl, hx⟩)
        · refine CondOb.mk (fun h => by simp at h) (fun _ => ?_)
          refine ArithOb.mk _ (next_wr (i := j) (by omega)) ?_
          exact ⟨(j + 1, k + 1, I2, M2), ⟨⟨by simp only; omega, fun b o h => hI2 b o (hI1 b o h), hR2, hk, hd2⟩, by simp only; omega⟩, .perm (by simp) .refl, .cons .refl (.cons .refl (.cons .refl (.cons .refl .nil))), .nil⟩
        · refine CondOb.mk (fun _ => ?_) (fun h => by simp at h)
          exact ⟨_, _, .perm (by simp) .refl, .inr hx⟩
      · have hn1 : namedL (t.ns.drop j) = namedL (t.ns.drop (j + 1)) := by
          rw [hnd]
          have h1' : decide (t.ns[j].k = 3) = false := h1
          simp only [namedL, List.filter_cons, h1']
          rfl
        rw [hn1] at hd1
        refine ArithOb.mk _ (next_wr (i := j) (by omega)) ?_
        exact ⟨(j + 1, k, I1, M1), ⟨⟨by simp only; omega, hI1, hR1, hkl, hd1⟩, by simp only; omega⟩, .refl, .cons .refl (.cons .refl (.cons .refl (.cons .refl .nil))), .nil⟩
    · have hge : t.n ≤ j := by simpa using h
      refine ⟨_, _, .refl, .inl ?_⟩
      rw [List.drop_eq_nil_of_le (show t.ns.length ≤ j by omega)] at hd1
      have hke : k = ((namedL t.ns).map fun s => [Value.string s]).length := by
        have := List.drop_eq_nil_iff.1 hd1
        omega
      rw [← hke]
      exact hR1
end Go.V
