/-
  For every input bonsai/bonsailaw12.ReachClosed returns true, and each argument reads behind the call as it read before: the given card, from the walk's contract. Conditions: those of the row itself.
-/
import Derived.Test.YtcccmnppfmfkiaaDoorK6
import Derived.Test.YtcccmnppfmfkiaaDoorK5
import Derived.Carry

/-
  The walk of bonsailaw12.ReachClosed.
-/
set_option linter.unusedVariables false
set_option linter.unusedSimpArgs false
namespace Go.V
open Go Go.Proofs

theorem ownOf_le (i : Int) : ∀ (ps : List (List Int)), ownOf i ps ≤ (ps.map List.length).sum
  | [] => by simp [ownOf]
  | p :: ps => by
    have := ownOf_le i ps
    simp only [ownOf, List.map_cons, List.sum_cons] at this ⊢
    cases decide (i ∈ p) <;> simp <;> omega
theorem sum_take_map_le (ps : List (List Int)) (k : Nat) : ((ps.take k).map List.length).sum ≤ (ps.map List.length).sum := by
  rw [List.map_take]
  exact psum_le _ _
theorem ownOf_take (i : Int) (ps : List (List Int)) (k : Nat) (hk : k < ps.length) : ownOf i (ps.take (k + 1)) = ownOf i (ps.take k) + bif decide (i ∈ ps[k]) then ps[k].length else 0 := by
  rw [List.take_succ_eq_append_getElem hk, ownOf_snoc]

abbrev SeenI := Nat × OS × List Int × GH
abbrev NextI := Nat × OS × List Int

set_option maxRecDepth 100000 in
set_option maxHeartbeats 8000000 in
theorem reachClosed_V {I : GH} (hT : Tabs I debL) {g : Gr} (hg : GrW I g) : SpecE Tryd.prog 4 [g.val] I [] fun v I' M' => v = .bool true := by
  refine specE_of_V [] TrydEOK Tryd.func4 rfl rfl rfl ?_
  intro B h0
  refine CallOb.mk [] [] _ (.refl _) (works_spec hT) ?_
  rintro v I1 M1 - ⟨rfl, hI1, rfl⟩
  have hT1 := hT.mono hI1
  have hg1 := hg.mono hI1
  refine GuardOb.mk (fun _ => ?_) (fun h => by simp at h)
  refine CallOb.mk [] [] _ (.refl _) (long_spec hg1) ?_
  rintro v I2 M2 - ⟨⟨r, rfl, hr⟩, rfl, rfl⟩
  refine CondOb.mk (fun h => ?_) (fun h => ?_)
  · refine CallOb.mk [] [] _ (.refl _) (works_spec hT1) ?_
    rintro v I3 M3 - ⟨rfl, hI3, rfl⟩
    exact ⟨_, _, .refl, rfl⟩
  have hs := hr h
  have hok := hg1.ok hs
  have hgn := hok.n
  have hn : g.n ≤ 1099511627776 := by have := hs.n; omega
  refine CallOb.mkD [] [] _ (.refl _) (Rounds_spec hT1 hok hn) ?_
  rintro v I5 M5 hI5 hD5 ⟨-, os, rs, rfl, hos, hrs, hrl, rfl⟩
  have hosn : os.n ≤ 1099511627776 := by
    have h1 := hos.len
    have h2 := congrArg List.length hrl
    have h3 := roundsG_length debL hgn
    simp only [List.length_map] at h1 h2
    omega
  obtain ⟨I6, x3, hW6, hI6, hv3, hx3, hl3⟩ := parts_give hos hrs hD5 hosn
  rw [hv3]
  rw [hrl] at hl3
  refine CallOb.mkW I6 [] _ _ hW6 (May_spec ((hT1.mono hI5).mono hI6) ((hok.mono hI5).mono hI6)) ?_
  rintro v I7 M7 hI7 - ⟨rfl, -, rfl⟩
  have hT7 := ((hT1.mono hI5).mono hI6).mono hI7
  have hok7 := ((hok.mono hI5).mono hI6).mono hI7
  have hx3 := hx3.mono hI7
  have n3 := hx3.n
  have n3' : x3.ll.length = x3.n := by simp [Ls.ll, n3]
  have hll3 := n3'
  have c3 := hx3.rs.cap
  rw [hl3] at n3'
  refine CondOb.mk (fun h => ?_) (fun h => ?_)
  · have hm : mayG debL g ≠ 0 := by simpa using h
    have e3 : roundsG debL g = [] := by simp [roundsG, hm]
    rw [e3] at n3'
    refine ⟨_, _, .refl, ?_⟩
    have : x3.n = 0 := by simpa using n3'.symm
    rw [this]
    rfl
  have hm : mayG debL g = 0 := by simpa using h
  have O : Okay g := ⟨hm, hgn⟩
  have hpos := may_pos hgn hm
  have hLn := O.L
  rw [O.rounds] at hl3
  have hn25 := hs.n
  have hsum : (x3.ll.map List.length).sum = g.n := by rw [hl3, roundsL_sum O.v, hLn]
  refine LoopOb.inv (ι := Nat × GH) (fun y => { fl := [(1, .ref 1 0), (3, .val x3.val), (4, .val (.int .i64 y.1))], cl := [(1, [.slice g.a g.n g.c])], gi := y.2 })
    (fun y => y.1 ≤ g.n ∧ ∀ b o, I7 b = some o → y.2 b = some o) (fun y => g.n - y.1) ?_ ?_
  · exact ⟨(0, I7), ⟨Nat.zero_le _, fun _ _ h => h⟩, .sub (List.nil_sublist _) .refl, .cons .refl (.cons .refl (.cons .refl .nil)), .cons rfl .nil⟩
  rintro ⟨i, J⟩ ⟨hi, hJ⟩
  simp only at hi hJ
  refine CondOb.mk (fun h => ?_) (fun h => ?_)
  rotate_left
  · exact ⟨_, _, .refl, rfl⟩
  have hlt : i < g.n := by simpa using h
  have hiL : i < (callsL g).length := by omega
  have hok8 := hok7.mono hJ
  have hT8 := hT7.mono hJ
  have hx38 := hx3.mono hJ
  refine CodeOb.draw TrydEOK rfl rfl rfl ?_
  refine PCallOb.mk _ (Calls_spec hT8 hok8 hn i) ?_
  rintro v J1 M9 hJ1 ⟨-, x5, rfl, hx5, hl5, rfl⟩
  refine CallOb.mk [] _ _ (.refl _) (From_spec (hT8.mono hJ1) (hok8.mono hJ1) hn i) ?_
  rintro v J2 M10 hJ2 ⟨-, x6, rfl, hx6, hl6, rfl⟩
  rw [O.calls hlt] at hl5
  rw [O.from hlt] at hl6
  have hx5 := hx5.mono hJ2
  have hT10 := (hT8.mono hJ1).mono hJ2
  have hok10 := (hok8.mono hJ1).mono hJ2
  have hx310 := (hx38.mono hJ1).mono hJ2
  have n5 := hx5.n
  have n6 := hx6.n
  have c5 := hx5.rs.cap
  have c6 : x6.n ≤ g.n := by
    rw [← n6, hl6, ← hLn]
    exact nodup_lt (listL_nodup ..) (fromI_valid O.v hiL)
  refine CallOb.mk [] _ _ (.refl _) (has_rw hx6 (by omega) i) ?_
  rintro v J3 M11 - ⟨rfl, rfl, rfl⟩
  refine CondOb.mk (fun h => ?_) (fun _ => ?_)
  · exfalso
    have h1 : (i : Int) ∈ x6.l := by rw [hl6, fromI_mem O.v hiL]; exact .self
    simp [h1] at h
  -- whom it calls: whom these reach
  refine LoopOb.inv (ι := Nat × GH) (fun y => { fl := [(1, .ref 1 0), (3, .val x3.val), (4, .val (.int .i64 i)), (5, .val x5.val), (6, .val x6.val), (7, .val (.int .i64 y.1))], cl := [(1, [.slice g.a g.n g.c])], gi := y.2 })
    (fun y => y.1 ≤ x5.n ∧ ∀ b o, J3 b = some o → y.2 b = some o) (fun y => x5.n - y.1) ?_ ?_
  · exact ⟨(0, J3), ⟨Nat.zero_le _, fun _ _ h => h⟩, .sub (List.nil_sublist _) .refl, .cons .refl (.cons .refl (.cons .refl (.cons .refl (.cons .refl (.cons .refl .nil))))), .cons rfl .nil⟩
  rintro ⟨k, K⟩ ⟨hk, hK⟩
  simp only at hk hK
  have hT12 := hT10.mono hK
  have hok12 := hok10.mono hK
  have hx5K := hx5.mono hK
  have hx6K := hx6.mono hK
  have hx3K := hx310.mono hK
  refine CondOb.mk (fun h => ?_) (fun h => ?_)
  · have hkl : k < x5.n := by simpa using h
    obtain ⟨ad, had, hrd⟩ := hx5K.rs.one (j := k) hkl (by omega)
    have hmem : x5.l[k]'(by omega) ∈ (callsL g).getD i [] := by
      rw [← hl5]
      exact List.getElem_mem _
    have hcv := callsL_in O.v hmem
    obtain ⟨a, ha⟩ := Int.eq_ofNat_of_zero_le hcv.2.1
    rw [ha] at hmem
    have haL : a < (callsL g).length := by omega
    refine CodeOb.draw TrydEOK rfl rfl rfl ?_
    refine IdxOb.mk ad k had rfl hkl ?_
    refine LoadOb.mk _ (hrd _) ?_
    rw [ha]
    refine CallOb.mk [] _ _ (.refl _) (From_spec hT12 hok12 hn (a : Int)) ?_
    rintro v K1 M13 hK1 ⟨-, x8, rfl, hx8, hl8, rfl⟩
    rw [O.from (by omega)] at hl8
    have n8 := hx8.n
    have c8 := hx8.rs.cap
    have hx6K1 := hx6K.mono hK1
    refine LoopOb.inv (ι := Nat) (fun q => { fl := [(1, .ref 1 0), (3, .val x3.val), (4, .val (.int .i64 i)), (5, .val x5.val), (6, .val x6.val), (7, .val (.int .i64 k)), (8, .val x8.val), (9, .val (.int .i64 q))], cl := [(1, [.slice g.a g.n g.c])], gi := K1 })
      (fun q => q ≤ x8.n) (fun q => x8.n - q) ?_ ?_
    · exact ⟨0, Nat.zero_le _, .sub (List.nil_sublist _) .refl, .cons .refl (.cons .refl (.cons .refl (.cons .refl (.cons .refl (.cons .refl (.cons .refl (.cons .refl .nil))))))), .cons rfl .nil⟩
    rintro q hq
    refine CondOb.mk (fun h => ?_) (fun h => ?_)
    · have hql : q < x8.n := by simpa using h
      obtain ⟨ad2, had2, hrd2⟩ := hx8.rs.one (j := q) hql (by omega)
      refine IdxOb.mk ad2 q had2 rfl hql ?_
      refine LoadOb.mk _ (hrd2 _) ?_
      refine CallOb.mk [] _ _ (.refl _) (has_rw hx6K1 (by omega) _) ?_
      rintro v K2 M14 - ⟨rfl, rfl, rfl⟩
      refine CondOb.mk (fun h => ?_) (fun _ => ?_)
      · exfalso
        have h1 : x8.l[q]'(by omega) ∈ fromI (callsL g) a := by
          rw [← hl8]
          exact List.getElem_mem _
        obtain ⟨b, hb1, hb2, hb3⟩ := fromI_nat O.v haL h1
        have h2 : x8.l[q]'(by omega) ∈ x6.l := by
          rw [hb1, hl6, fromI_mem O.v hiL]
          exact (Comes.next .self hmem).trans hb3
        simp [h2] at h
      · refine ArithOb.mk _ (next_wr (i := q) (by omega)) ?_
        exact ⟨q + 1, ⟨by omega, by omega⟩, .refl, .cons .refl (.cons .refl (.cons .refl (.cons .refl (.cons .refl (.cons .refl (.cons .refl (.cons .refl .nil))))))), .cons rfl .nil⟩
    · refine ArithOb.mk _ (next_wr (i := k) (by omega)) ?_
      exact ⟨(k + 1, K1), ⟨⟨by simp only; omega, fun b o h => hK1 _ _ (hK _ _ h)⟩, by simp only; omega⟩, .refl, .cons .refl (.cons .refl (.cons .refl (.cons .refl (.cons .refl (.cons .refl .nil))))), .cons rfl .nil⟩
  -- nobody else
  refine AllocOb.mk fun b1 hb1 hbM1 => ?_
  have hsl0 : ∀ S k, SeenInv (callsL g) i S k → S.length ≤ g.n := fun S k h => by rw [← hLn]; exact nodup_lt h.nd h.val
  refine LoopOb.inv (ι := SeenI) (fun y => { fl := [(1, .ref 1 0), (3, .val x3.val), (4, .val (.int .i64 i)), (5, .val x5.val), (6, .val x6.val), (10, .val y.2.1.val), (11, .val (.int .i64 y.1))], cl := [(1, [.slice g.a g.n g.c])], gi := y.2.2.2, mi := y.2.1.blk 3 })
    (fun y => SeenInv (callsL g) i y.2.2.1 y.1 ∧ y.1 ≤ y.2.2.1.length ∧ y.2.1.ok 1 (y.2.2.1.map (.int .i64 ·)) ∧ ∀ b o, K b = some o → y.2.2.2 b = some o) (fun y => g.n - y.1) ?_ ?_
  · refine ⟨(0, ⟨some b1, 1, 1, [.int .i64 i]⟩, [(i : Int)], K), ⟨SeenInv.start hiL, Nat.zero_le _, ⟨rfl, (fun h => by cases h), fun g' hg' => ⟨rfl, Nat.le_refl _, by simp [maxLen], rfl⟩⟩, fun _ _ h => h⟩, .sub (List.cons_sublist_cons.2 (List.nil_sublist _)) .refl, .cons .refl (.cons .refl (.cons .refl (.cons .refl (.cons .refl (.cons .refl (.cons .refl .nil)))))), .cons rfl .nil⟩
  rintro ⟨k2, os2, S, K3⟩ ⟨hS, hkS, hos2, hK3⟩
  simp only at hS hkS hos2 hK3
  have hS1 := hsl0 S k2 hS
  have hol2 := hos2.len1
  have hT15 := hT12.mono hK3
  have hok15 := hok12.mono hK3
  have hx5K3 := hx5K.mono hK3
  have hx6K3 := hx6K.mono hK3
  have hx3K3 := hx3K.mono hK3
  refine CondOb.mk (fun h => ?_) (fun h => ?_)
  · have hkl : k2 < S.length := by
      have : (k2 : Int) < (os2.n : Int) := of_decide_eq_true h
      omega
    obtain ⟨ad, had, hrd⟩ := OS.rdI (I := K3) (M := os2.blk 3) hos2 (fun x hx => hx) hkl
    have hSm : S[k2] ∈ S := List.getElem_mem _
    have hSv := hS.val _ hSm
    obtain ⟨a, ha⟩ := Int.eq_ofNat_of_zero_le hSv.1
    have hga : (callsL g).getD (S.getD k2 0).toNat [] = (callsL g).getD a [] := by simp [List.getD_eq_getElem?_getD, hkl, ha]
    refine CodeOb.draw TrydEOK rfl rfl rfl ?_
    refine IdxOb.mk ad k2 had rfl (show k2 < os2.n by omega) ?_
    refine LoadOb.mk _ hrd ?_
    rw [ha]
    refine CallOb.mk [] (os2.blk 3) _ (.refl _) (Calls_spec hT15 hok15 hn (a : Int)) ?_
    rintro v K4 M16 hK4 ⟨-, x12, rfl, hx12, hl12, rfl⟩
    rw [O.calls (by omega)] at hl12
    have n12 := hx12.n
    have c12 := hx12.rs.cap
    refine LoopOb.inv (ι := NextI) (fun y => { fl := [(1, .ref 1 0), (3, .val x3.val), (4, .val (.int .i64 i)), (5, .val x5.val), (6, .val x6.val), (10, .val y.2.1.val), (11, .val (.int .i64 k2)), (12, .val x12.val), (13, .val (.int .i64 y.1))], cl := [(1, [.slice g.a g.n g.c])], gi := K4, mi := y.2.1.blk 3 })
      (fun y => y.1 ≤ x12.n ∧ SeenInv (callsL g) i y.2.2 k2 ∧ k2 < y.2.2.length ∧ y.2.2.getD k2 0 = (a : Int) ∧ y.2.1.ok 1 (y.2.2.map (.int .i64 ·)) ∧ ∀ x ∈ x12.l.take y.1, x ∈ y.2.2) (fun y => x12.n - y.1) ?_ ?_
    · exact ⟨(0, os2, S), ⟨Nat.zero_le _, hS, hkl, by simp [List.getD_eq_getElem?_getD, hkl, ha], hos2, by simp⟩, .refl, .cons .refl (.cons .refl (.cons .refl (.cons .refl (.cons .refl (.cons .refl (.cons .refl (.cons .refl (.cons .refl .nil)))))))), .cons rfl .nil⟩
    rintro ⟨q, os3, T⟩ ⟨hq, hTs, hkT, hTa, hos3, htk⟩
    simp only at hq hTs hkT hTa hos3 htk
    have hT1' := hsl0 T k2 hTs
    have hol3 := hos3.len1
    refine CondOb.mk (fun h => ?_) (fun h => ?_)
    · have hql : q < x12.n := by simpa using h
      have hql' : q < x12.l.length := by omega
      obtain ⟨ad2, had2, hrd2⟩ := hx12.rs.one (j := q) hql hql'
      refine IdxOb.mk ad2 q had2 rfl hql ?_
      refine LoadOb.mk _ (hrd2 _) ?_
      refine CallOb.mk (os3.blk 3) [] _ (by simp) (has_os hos3 (by omega) _) ?_
      rintro v K5 M17 - ⟨rfl, rfl, rfl⟩
      rw [List.append_nil]
      refine CondOb.mk (fun h2 => ?_) (fun h2 => ?_)
      · have hni : x12.l[q] ∉ T := by simpa using h2
        refine IdxOb.mk ad2 q had2 rfl hql ?_
        refine LoadOb.mk _ (hrd2 _) ?_
        refine AllocOb.mk fun b9 hb9 hbM9 => ?_
        have hTs' := SeenInv.add O.v hTs hkT (x := x12.l[q]) (by rw [hTa, Int.toNat_natCast, ← hl12]; exact List.getElem_mem _) hni
        refine OtherOb.append TrydEOK rfl (by simp) (e := 3) rfl rfl rfl os3 hos3 rfl (m := 1) rfl (news := [.int .i64 x12.l[q]]) (by decide) (blk_rd (b := b9) (cs := [.int .i64 x12.l[q]]) (k := 0) (n := 1) (T := 3) (.head _) (by simp)) rfl (Mr := [⟨b9, .cells #[.int .i64 x12.l[q]] 3 (0, 0)⟩]) (List.perm_append_comm (l₁ := [_])) (by simp only [maxLen]; omega) (by show (os3.n + 1) * 8 ≤ _; omega) ?_
        intro g' c' cur' q1 q2 q3 q4
        refine ArithOb.mk _ (next_wr (i := q) (by omega)) ?_
        refine ⟨(q + 1, ⟨some g', os3.n + 1, c', cur'⟩, T ++ [x12.l[q]]), ⟨⟨by simp only; omega, hTs', by simp only [List.length_append]; omega, ?_, ?_, ?_⟩, by simp only; omega⟩, .sub (List.Sublist.cons_cons _ (List.nil_sublist _)) .refl, .cons .refl (.cons .refl (.cons .refl (.cons .refl (.cons .refl (.cons .refl (.cons .refl (.cons .refl (.cons .refl .nil)))))))), .cons rfl .nil⟩
        · simp only [List.getD_eq_getElem?_getD, List.getElem?_append_left hkT]
          simpa [List.getD_eq_getElem?_getD] using hTa
        · simp only
          rw [List.map_append]
          exact app1_ok hos3 q1 q2 q3 q4
        · simp only
          intro x hx
          rw [List.take_succ_eq_append_getElem hql', List.mem_append, List.mem_singleton] at hx
          rcases hx with hx | rfl
          · exact List.mem_append.2 (.inl (htk x hx))
          · simp
      · have hin : x12.l[q] ∈ T := by simpa using h2
        refine ArithOb.mk _ (next_wr (i := q) (by omega)) ?_
        refine ⟨(q + 1, os3, T), ⟨⟨by simp only; omega, hTs, hkT, hTa, hos3, ?_⟩, by simp only; omega⟩, .refl, .cons .refl (.cons .refl (.cons .refl (.cons .refl (.cons .refl (.cons .refl (.cons .refl (.cons .refl (.cons .refl .nil)))))))), .cons rfl .nil⟩
        simp only
        intro x hx
        rw [List.take_succ_eq_append_getElem hql', List.mem_append, List.mem_singleton] at hx
        rcases hx with hx | rfl
        · exact htk x hx
        · exact hin
    · have hge : x12.n ≤ q := by simpa using h
      refine ArithOb.mk _ (next_wr (i := k2) (by omega)) ?_
      refine ⟨(k2 + 1, os3, T, K4), ⟨⟨hTs.next ?_, by simp only; omega, hos3, fun b o h => hK4 _ _ (hK3 _ _ h)⟩, by simp only; omega⟩, .refl, .cons .refl (.cons .refl (.cons .refl (.cons .refl (.cons .refl (.cons .refl (.cons .refl .nil)))))), .cons rfl .nil⟩
      rw [hTa, Int.toNat_natCast, ← hl12]
      rwa [List.take_of_length_le (by omega)] at htk
  have hge : S.length ≤ k2 := by
    have : ¬ (k2 : Int) < (os2.n : Int) := of_decide_eq_false h
    omega
  have hlen := hS.done O.v hiL hge
  rw [← hl6] at hlen
  refine CondOb.mk (fun h => ?_) (fun _ => ?_)
  · exfalso
    simp only [OS.val, Rw.val] at h
    simp at h
    omega
  -- its own part
  refine LoopOb.inv (ι := Nat × Nat) (fun y => { fl := [(1, .ref 1 0), (3, .val x3.val), (4, .val (.int .i64 i)), (5, .val x5.val), (14, .val (.int .i64 y.1)), (15, .val (.int .i64 y.2))], cl := [(1, [.slice g.a g.n g.c])], gi := K3 })
    (fun y => y.2 ≤ x3.n ∧ y.1 = ownOf (i : Int) (x3.ll.take y.2)) (fun y => x3.n - y.2) ?_ ?_
  · exact ⟨(0, 0), ⟨Nat.zero_le _, by simp [ownOf]⟩, .sub (List.nil_sublist _) .refl, .cons .refl (.cons .refl (.cons .refl (.cons .refl (.cons .refl (.cons .refl .nil))))), .cons rfl .nil⟩
  rintro ⟨own, q⟩ ⟨hq, hown⟩
  simp only at hq hown
  have hob1 := ownOf_le (i : Int) (x3.ll.take q)
  have hob2 := sum_take_map_le x3.ll q
  refine CondOb.mk (fun h => ?_) (fun h => ?_)
  · have hql : q < x3.n := by simpa using h
    obtain ⟨ad, had, hrd⟩ := hx3K3.rs.one (f := Rw.val) (j := q) hql (by omega)
    have hrow := hx3K3.rows _ (List.getElem_mem (h := (by omega : q < x3.rows.length)))
    have hrn := hrow.n
    have hlk : q < x3.ll.length := by omega
    have hek : x3.ll[q] = (x3.rows[q]'(by omega)).l := by simp [Ls.ll]
    have hst := ownOf_take (i : Int) x3.ll q hlk
    have hob3 := ownOf_le (i : Int) (x3.ll.take (q + 1))
    have hob4 := sum_take_map_le x3.ll (q + 1)
    rw [hek, ← hown] at hst
    generalize hrr : x3.rows[q]'(by omega) = row at *
    have crow := hrow.rs.cap
    refine IdxOb.mk ad q had rfl hql ?_
    refine LoadOb.mk _ (hrd _) ?_
    refine CallOb.mk [] _ _ (.refl _) (has_rw hrow (by
      have : row.l.length ≤ g.n := by
        rw [← hsum]
        have h1 : x3.ll[q].length ∈ x3.ll.map List.length := List.mem_map.2 ⟨_, List.getElem_mem hlk, rfl⟩
        have h2 : ∀ (l : List Nat) (x : Nat), x ∈ l → x ≤ l.sum := fun l x hx => by
          induction l with
          | nil => simp at hx
          | cons y l ih =>
            simp only [List.sum_cons]
            rcases List.mem_cons.1 hx with rfl | hx
            · omega
            · have := ih hx
              omega
        have := h2 _ _ h1
        rwa [hek] at this
      omega) i) ?_
    rintro v K6 M18 - ⟨rfl, rfl, rfl⟩
    refine CondOb.mk (fun h2 => ?_) (fun h2 => ?_)
    · refine IdxOb.mk ad q had rfl hql ?_
      refine LoadOb.mk _ (hrd _) ?_
      rw [h2, cond_true, hrn] at hst
      refine ArithOb.mk ((own + row.n : Nat) : Int) (wr_eq (by omega) (by omega)) ?_
      refine ArithOb.mk _ (next_wr (i := q) (by omega)) ?_
      exact ⟨(_, q + 1), ⟨⟨by simp only; omega, hst.symm⟩, by simp only; omega⟩, .refl, .cons .refl (.cons .refl (.cons .refl (.cons .refl (.cons .refl (.cons .refl .nil))))), .cons rfl .nil⟩
    · rw [h2, cond_false, Nat.add_zero] at hst
      refine ArithOb.mk _ (next_wr (i := q) (by omega)) ?_
      exact ⟨(_, q + 1), ⟨⟨by simp only; omega, hst.symm⟩, by simp only; omega⟩, .refl, .cons .refl (.cons .refl (.cons .refl (.cons .refl (.cons .refl (.cons .refl .nil))))), .cons rfl .nil⟩
  have hge2 : x3.n ≤ q := by simpa using h
  have howne : own = ownOf (i : Int) (roundsL (callsL g)) := by
    rw [hown, List.take_of_length_le (by omega), hl3]
  have hop := own_pos O.v hiL
  have hlaw := self_law O.v hiL
  rw [← howne] at hop hlaw
  refine GuardOb.mk (fun _ => ?_) (fun h => ?_)
  rotate_left
  · exfalso
    simp at h
    omega
  refine CallOb.mk [] _ _ (.refl _) (Self_spec hT15 hok15 hn i) ?_
  rintro v K7 M19 - ⟨rfl, hK7, rfl⟩
  refine CallOb.mk [] _ _ (.refl _) (has_rw (hx5K3.mono hK7) (by omega) i) ?_
  rintro v K8 M20 - ⟨rfl, rfl, rfl⟩
  rw [O.self hlt, hlaw, hl5]
  refine GuardOb.mk (fun h => ?_) (fun h => ?_)
  · refine CondOb.mk (fun h2 => ?_) (fun _ => ?_)
    · exfalso
      rw [h] at h2
      simp at h2
    · refine ArithOb.mk _ (next_wr (i := i) (by omega)) ?_
      exact ⟨(i + 1, K8), ⟨⟨by simp only; omega, fun b o h => hK7 _ _ (hK3 _ _ (hK _ _ (hJ2 _ _ (hJ1 _ _ (hJ _ _ h)))))⟩, by simp only; omega⟩, .sub (List.nil_sublist _) .refl, .cons .refl (.cons .refl (.cons .refl .nil)), .cons rfl .nil⟩
  · refine CondOb.mk (fun h2 => ?_) (fun _ => ?_)
    · exfalso
      rw [h] at h2
      simp at h2
    · refine ArithOb.mk _ (next_wr (i := i) (by omega)) ?_
      exact ⟨(i + 1, K8), ⟨⟨by simp only; omega, fun b o h => hK7 _ _ (hK3 _ _ (hK _ _ (hJ2 _ _ (hJ1 _ _ (hJ _ _ h)))))⟩, by simp only; omega⟩, .sub (List.nil_sublist _) .refl, .cons .refl (.cons .refl (.cons .refl .nil)), .cons rfl .nil⟩
end Go.V

/-
  For every input bonsai/bonsailaw12.ReachClosed returns true, and each argument reads behind the call as it read before: the given card, from the walk's contract. Conditions: those of the row itself.
-/
set_option linter.unusedVariables false
set_option linter.unusedSimpArgs false
namespace Go.Proofs.YtcccmnppfmfkiaaDoor
open Go Go.V Go.ChangeShapes Go.WideShapes Go.ChangeAt Go.RowKit

theorem reachClosed_laid (os : Os) : laidMet Tryd.prog Rows.reachClosedRow.laid ((laidWorld os).forCall (fun _ _ => 0) ⟨#[], #[.agg #[.slice none 0 0]], []⟩).memory :=
  laidMet_of_run' 8 (by kernel_rfl) (by kernel_rfl)
theorem reachClosed_reads (os : Os) {H : Type} (enc : TypeId × Value → H) : ∃ places, DataW.whole enc Tryd.prog ((laidWorld os).forCall (fun _ _ => 0) ⟨#[], #[.agg #[.slice none 0 0]], []⟩).memory Tryd.f4.params.toList Rows.reachClosedSpec.vars false (#[.agg #[.slice none 0 0]] : Array Value).toList 8 = some ([.agg [.nil]], [], places) :=
  ⟨[], by kernel_rfl⟩
theorem reachClosed_params : (Tryd.f4.params.toList.all fun t => Tryd.prog.readableRec t && decide (t < Tryd.prog.types.size) && !Tryd.prog.wantsStandIn t) = true := by kernel_rfl

set_option maxRecDepth 100000 in
theorem reachClosed_contract (H : Type) (enc : TypeId × Value → H) (W : World) (base : Nat) (args : Array Value) (ds gs : List (DataW H)) (before : List MemPlace)
    (hval : ∀ (j : Nat) t v, Tryd.f4.params[j]? = some t → args[j]? = some v → Value.okWide Tryd.prog W .any base t v)
    (hW : DataW.Whole enc Tryd.prog Tryd.f4.params.toList Rows.reachClosedSpec.vars false W args.toList ds gs before) (hL : laidMetH Tryd.prog Rows.reachClosedRow.laid W) :
    Calls Tryd.prog 4 args W fun e W' => ∃ v, e = .returned v ∧ Rows.reachClosedSpec.post enc Tryd.prog Tryd.f4 false true false false W args v W' := by
  have hW' := hW
  obtain ⟨p, q, hA0, hV, rfl, hfz, hnd⟩ := hW
  have hA : DataW.TrodAll enc Tryd.prog W 0 (fun _ => true) true Tryd.f4.params.toList args.toList ds p := hA0
  have hAk := hA
  rw [Tryd.params4] at hA
  obtain ⟨rfl, rfl⟩ := trodVars_none hV
  have hlt : ∀ x ∈ p, x.block < W.heap.size := fun x hx => hW'.lt x (by simp [hx])
  have hT : Tabs (ghost W) debL := tabs_ghost hL rfl
  obtain ⟨v1, d1, rfl, rfl, h1⟩ := trodAll_one hA
  obtain ⟨g1, rfl, hg1⟩ := arg_grammar h1 (hval 0 38 _ (by kernel_rfl) rfl)
  refine (calls_of_specE (reachClosed_V hT hg1)).mono ?_
  rintro e W' ⟨v, rfl, ⟨I', M', rfl⟩, hK⟩
  refine ⟨_, rfl, post_of_old (pa := _) (pv := []) hW' (fun _ _ _ => ?_) (fun sp hs => trodAll_stays laidOut hK (fun t ht => ?_) hAk hlt sp (fun p hp => hs p (by simp [hp]))) (fun _ _ => rfl) rfl hK (ok_one (by kernel_rfl) rfl (okWide_bool_mk Tryd.underlying4 _))⟩
  · exact trodAll_cons_mk (shut_bool Tryd.underlying4 _) trodAll_mk0
  · have := all_mem reachClosed_params ht
    simp only [Bool.and_eq_true, decide_eq_true_eq] at this
    exact this.1

set_option maxRecDepth 100000 in
theorem reachClosed_lifted (os : Os) (started : os.Started) (H : Type) (enc : TypeId × Value → H) (F : Stop.Interp) :
    ReturnsInHanded {} Tryd.checked os 4 .any ((OpenSpec.ofChange Rows.reachClosedSpec).preRow enc Tryd.prog Tryd.f4 Rows.reachClosedRow.domain false Rows.reachClosedRow.laid) (((OpenSpec.ofChange Rows.reachClosedSpec).at F).post enc Tryd.prog Tryd.f4 false true false false) := by
  obtain ⟨places, hx⟩ := reachClosed_reads os enc
  refine returnsInHanded_of_row (C := Tryd.checked) (s := OpenSpec.ofChange Rows.reachClosedSpec) own started (by kernel_rfl) Tryd.func4
    (witness_row_at (enc := enc) (C := Tryd.checked) false (laidWorld os) #[.agg #[.slice none 0 0]] rfl (by kernel_rfl) (by kernel_rfl) (by kernel_rfl)
      (OpenSpec.preRow_of_cond 8 hx (by kernel_rfl) (fun k hk => by cases hk) (by kernel_rfl) (reachClosed_laid os))) ?_
  intro W base args ds gs before hval hW _ _ _ hL _ _
  exact reachClosed_contract H enc W base args ds gs before hval hW hL

theorem reachClosed_said : Rows.ReachClosedSaid :=
  OpenClaim.holds_of_cond 4 Tryd.f4 rfl rfl rfl rfl rfl rfl rfl ⟨rfl, rfl, rfl, rfl, rfl⟩ rfl rfl rfl rfl rfl (by kernel_rfl) Tryd.func4 (by kernel_rfl)
    (of_decide_eq_true (by kernel_rfl)) (by unfold Func.isWrapper; first | (rw [if_pos (by decide +kernel)]; kernel_rfl) | (rw [if_neg (by decide +kernel)]; exact ⟨rfl, rfl⟩))
    (fun os started H enc _ F => by rw [OpenClaim.pre_eq_preRow]; exact reachClosed_lifted os started H enc F)

theorem reachClosed_plain (f : FuncId) (fn : Func) (hf : Tryd.pinned.checked.prog.funcNamed "bonsai/bonsailaw12.ReachClosed" = some f) (hfn : Tryd.pinned.checked.prog.funcs[f]? = some fn) :
    false = Tryd.pinned.checked.prog.looks [] ∧ ∀ (j : Nat) t, fn.params[j]? = some t → Tryd.pinned.checked.prog.wantsStandIn t = false := by
  obtain rfl : f = 4 := Option.some.inj ((show Tryd.prog.funcNamed "bonsai/bonsailaw12.ReachClosed" = some 4 by kernel_rfl).symm.trans hf) |>.symm
  obtain rfl : fn = Tryd.f4 := (Option.some.inj (Tryd.func4.symm.trans hfn)).symm
  refine ⟨by kernel_rfl, fun j t ht => ?_⟩
  have := all_mem reachClosed_params (x := t) (by simpa using Array.mem_of_getElem? ht)
  simp only [Bool.and_eq_true, Bool.not_eq_true', decide_eq_true_eq] at this
  exact this.2

/-- The card. -/
theorem reachClosed_card : Rows.ReachClosedCardSaid :=
  Claim7.holds_tied_plain_at .later [] _ _ _ _ reachClosed_said (fun _ h => by cases h) (by kernel_rfl) (fun _ h => by cases h) reachClosed_row_tie rfl ⟨rfl, rfl⟩ (by kernel_rfl) rfl reachClosed_plain (by kernel_rfl)
end Go.Proofs.YtcccmnppfmfkiaaDoor
