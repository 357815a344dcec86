/-
  Walks: reach.calls, reach.from.
-/
import Derived.Test.YtcccmnppfmfkiaaDoorWg
import Derived.Test.YtcccmnppfmfkiaaDoorP3
set_option linter.unusedVariables false
set_option linter.unusedSimpArgs false
namespace Go.V
open Go Go.Proofs

theorem splice_pre {pre post : List Value} {z v : Value} {k : Nat} (hk : k = pre.length) : splice (pre ++ z :: post) k [v] = pre ++ v :: post := by
  subst hk
  unfold splice
  have e : (pre ++ z :: post).drop (pre.length + [v].length) = post := by
    rw [show pre ++ z :: post = (pre ++ [z]) ++ post from by simp]
    exact List.drop_left' (by simp)
  rw [e, List.take_left' rfl]
  simp
def callsL (g : Gr) : List (List Int) := g.ds.map fun d => calledL g d.t

set_option maxHeartbeats 1000000 in
theorem calls_spec {I : GH} {deb : List Int} (hT : Tabs I deb) {g : Gr} (hg : g.ok I) (hn : g.n ≤ 1099511627776) : Spec Tryd.prog 38 [g.val] I [] fun v I' M' => (∀ b o, I b = some o → I' b = some o) ∧ M' = [] ∧
    ((mayG deb g ≠ 0 ∧ v = .tuple #[.slice none 0 0, .bool false]) ∨ (mayG deb g = 0 ∧ ∃ x : Ls, v = .tuple #[x.val, .bool true] ∧ x.ok I' ∧ x.ll = callsL g)) := by
  refine spec_of_V [] TrydEOK Tryd.func38 rfl rfl rfl ?_
  intro B h0
  have hgn := hg.n
  refine CallOb.mk [] [] _ (.refl _) (May_spec hT hg) ?_
  rintro v I1 M1 - ⟨rfl, hI1, rfl⟩
  refine CondOb.mk (fun h => ?_) (fun h => ?_)
  · exact ⟨_, _, .refl, hI1, rfl, .inl ⟨by simpa using h, rfl⟩⟩
  · have hmay : mayG deb g = 0 := by simpa using h
    refine MakeOb.mk g.n g.n rfl rfl (Nat.le_refl _) (by show 24 * g.n ≤ _; omega) (by omega) ?_
    refine AllocOb.mk fun b hb hbM => ?_
    refine LoopOb.inv (ι := Nat × List Rw × GH) (fun x => { fl := [(1, .ref 1 0), (4, .val (.slice (some ⟨b, 0, none⟩) g.n g.n)), (15, .val (.slice g.a g.n g.c)), (16, .val (.int .i64 g.n)), (17, .val (.int .i64 x.1))], cl := [(1, [.slice g.a g.n g.c])], gi := x.2.2, mi := [⟨b, .cells (x.2.1.map Rw.val ++ List.replicate (g.n - x.1) (Value.slice none 0 0)).toArray 30 (0, 0)⟩] })
      (fun x => x.1 ≤ g.n ∧ x.2.1.length = x.1 ∧ (∀ b o, I b = some o → x.2.2 b = some o) ∧ x.2.2 b = none ∧ (∀ r ∈ x.2.1, r.ok x.2.2) ∧ x.2.1.map (·.l) = (g.ds.take x.1).map (fun d => calledL g d.t)) (fun x => g.n - x.1) ?_ ?_
    · refine ⟨(0, [], I1), ⟨by simp, rfl, hI1, hb, by simp, rfl⟩, ?_, .cons .refl (.cons .refl (.cons .refl (.cons .refl (.cons .refl .nil)))), .cons rfl .nil⟩
      show Wk _ _ [⟨b, .cells (rowOf [.slice none 0 0] (g.n * 1)).toArray 30 (0, 0)⟩] _ _
      rw [rowOf_one, Nat.mul_one]
      exact .refl
    · rintro ⟨i, rs, I2⟩ ⟨hi, hrl, hI2, hb2, hro, hrs⟩
      simp only at hi hrl hI2 hb2 hro hrs
      refine CondOb.mk (fun h => ?_) (fun h => ?_)
      · have hlt : i < g.n := by simpa using h
        have hlt' : i < g.ds.length := by omega
        have hg2 := hg.mono hI2
        obtain ⟨ad, had, hrd⟩ := hg2.rs.row Df.cells_len hlt hlt'
        have hdm : g.ds[i] ∈ g.ds := List.getElem_mem hlt'
        refine IdxOb.mk ad i had rfl hlt ?_
        refine LoadOb.mk _ (hrd _) ?_
        refine CallOb.mkD [] [⟨b, .cells (rs.map Rw.val ++ List.replicate (g.n - i) (Value.slice none 0 0)).toArray 30 (0, 0)⟩] _ (.refl _) (called_spec hg2 hn (hg2.ds _ hdm).t) ?_
        rintro v I3 M3 - hd3 ⟨hI3, x, rfl, hx, hxl, rfl⟩
        refine IdxOb.mk ⟨b, 0, none⟩ i rfl rfl hlt ?_
        refine StoreOb.add [] [] _ _ rfl ?_ rfl ?_
        · simp only [List.size_toArray, List.length_append, List.length_map, List.length_replicate]
          show 0 + i * 1 + 1 ≤ _
          omega
        refine ArithOb.mk _ (next_wr (i := i) (by omega)) ?_
        refine ⟨(i + 1, rs ++ [x], I3), ⟨⟨by simp only; omega, by simp [hrl], fun b o h => hI3 _ _ (hI2 _ _ h), hd3 _ (.head _), fun r hr => ?_, ?_⟩, by simp only; omega⟩, ?_, .cons .refl (.cons .refl (.cons .refl (.cons .refl (.cons .refl .nil)))), .cons rfl .nil⟩
        · simp only [List.mem_append, List.mem_singleton] at hr
          rcases hr with hr | rfl
          · exact (hro r hr).mono hI3
          · exact hx
        · simp only
          rw [List.map_append, hrs, List.take_succ_eq_append_getElem hlt', List.map_append]
          simp [hxl]
        · have hrep : List.replicate (g.n - i) (Value.slice none 0 0) = .slice none 0 0 :: List.replicate (g.n - (i + 1)) (Value.slice none 0 0) := by
            rw [show g.n - i = (g.n - (i + 1)) + 1 from by omega, List.replicate_succ]
          have e := splice_pre (pre := rs.map Rw.val) (post := List.replicate (g.n - (i + 1)) (Value.slice none 0 0)) (z := .slice none 0 0) (v := x.val) (k := 0 + i * 1) (by simp [hrl])
          rw [hrep]
          simp only [List.map_append, List.map_cons, List.map_nil, List.append_assoc, List.cons_append, List.nil_append]
          rw [← e]
          exact .refl
      · have hge : g.n ≤ i := by simpa using h
        have hin : i = g.n := by omega
        subst hin
        refine ⟨_, _, .prom rfl (by simp) .refl, fun b o h => ins_le hb2 _ _ (hI2 _ _ h), rfl, .inr ⟨hmay, ⟨rs, some ⟨b, 0, none⟩, g.n, g.n⟩, rfl, ⟨⟨by simp [hrl], ⟨Nat.le_refl _, by simp only; omega⟩, .inr ⟨_, rfl, rfl, _, _, _, ins_self .., ?_⟩⟩, fun r hr => (hro r hr).mono (ins_le hb2)⟩, ?_⟩⟩
        · simp [hrl]
          exact List.take_of_length_le (by simp [hrl])
        · simp only [Ls.ll, hrs, callsL]
          rw [List.take_of_length_le (by omega)]

end Go.V
