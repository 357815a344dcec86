/-
  Walks: reach.Rounds.
-/
import Derived.Test.YtcccmnppfmfkiaaDoorWk
set_option linter.unusedVariables false
set_option linter.unusedSimpArgs false
namespace Go.V
open Go Go.Proofs

structure Lb where
  rows : List Rb
  a : Option Addr
  n : Nat
  c : Nat
def Lb.val (x : Lb) : Value := .slice x.a x.n x.c
structure Lb.ok (I : GH) (x : Lb) : Prop where
  rs : RS I x.a x.n x.c 1 24 (x.rows.map Rb.val)
  rows : ∀ r ∈ x.rows, r.ok I
theorem Lb.ok.mono {I I' : GH} {x : Lb} (h : x.ok I) (hI : ∀ b o, I b = some o → I' b = some o) : x.ok I' := ⟨h.rs.mono hI, fun r hr => (h.rows r hr).mono hI⟩

theorem perm5 {α : Type} (a c : α) (L1 L2 : List α) : (a :: ((L1 ++ L2) ++ [c])).Perm (L1 ++ (L2 ++ [c, a])) := by
  have h := perm4 a c (L1 ++ L2)
  rwa [List.append_assoc L1 L2 [c, a]] at h
theorem perm6 {α : Type} (a r : α) (Q O : List α) : (a :: (Q ++ (O ++ [r]))).Perm (O ++ (Q ++ [r, a])) := by
  have h1 : (Q ++ (O ++ [r])).Perm (O ++ Q ++ [r]) := by
    rw [← List.append_assoc]
    exact List.perm_append_comm.append_right [r]
  have h2 := (h1.cons a).trans (perm4 a r (O ++ Q))
  rwa [List.append_assoc] at h2
theorem perm7 {α : Type} (g r b : α) (Q : List α) : (g :: (Q ++ [r, b])).Perm ([b] ++ (Q ++ [g, r])) := by
  have h1 : (Q ++ [r, b]).Perm (b :: (Q ++ [r])) := (perm4 b r Q).symm
  have h2 : (g :: (Q ++ [r])).Perm (Q ++ [g, r]) := List.perm_middle.symm
  exact ((h1.cons g).trans (List.Perm.swap b g _)).trans (h2.cons b)

def roundsG (deb : List Int) (g : Gr) : List (List Int) := bif decide (mayG deb g = 0) then roundsL (callsL g) else []

set_option maxHeartbeats 4000000 in
theorem Rounds_spec {I : GH} {deb : List Int} (hT : Tabs I deb) {g : Gr} (hg : g.ok I) (hn : g.n ≤ 1099511627776) : Spec Tryd.prog 18 [g.val] I [] fun v I' M' => (∀ b o, I b = some o → I' b = some o) ∧ ∃ (os : OS) (rs : List Rw), v = os.val ∧ os.ok 1 (rs.map Rw.val) ∧ (∀ r ∈ rs, r.ok I') ∧ rs.map (·.l) = roundsG deb g ∧ M' = os.blk 30 := by
  refine spec_of_V [] TrydEOK Tryd.func18 rfl rfl rfl ?_
  intro B h0
  have hgn := hg.n
  refine CallOb.mk [] [] _ (.refl _) (calls_spec hT hg hn) ?_
  rintro v I1 M1 - ⟨hI1, rfl, ⟨hm, rfl⟩ | ⟨hm, x, rfl, hx, hxl⟩⟩
  · refine CondOb.mk (fun _ => ?_) (fun h => by cases h)
    refine ⟨_, _, .refl, hI1, OS0, [], rfl, OS0_ok 1, by simp, ?_, rfl⟩
    have h3' : decide (mayG deb g = 0) = false := by simpa using hm
    rw [roundsG, h3']
    rfl
  · have h3' : decide (mayG deb g = 0) = true := by simpa using hm
    have hrg : roundsG deb g = roundsL x.ll := by
      rw [roundsG, h3', hxl]
      rfl
    rw [hrg]
    have hxr := hx.n
    have hxn : x.n = g.n := by
      have h2 := congrArg List.length hxl
      simp only [Ls.ll, List.length_map, callsL] at h2
      omega
    have hv : ∀ l ∈ x.ll, valid x.ll.length l := by rw [hxl]; exact callsL_valid hgn
    have hll : x.ll.length = x.n := by simp [Ls.ll, hxr]
    refine CondOb.mk (fun h => by cases h) (fun _ => ?_)
    refine MakeOb.mk x.n x.n rfl rfl (Nat.le_refl _) (by show 24 * x.n ≤ _; omega) (by omega) ?_
    refine AllocOb.mk fun b hb hbM => ?_
    refine LoopOb.inv (ι := Nat × List Rb × GH) (fun y => { fl := [(3, .val x.val), (5, .val (.slice (some ⟨b, 0, none⟩) x.n x.n)), (23, .val (.int .i64 x.n)), (24, .val (.int .i64 y.1))], gi := y.2.2, mi := [⟨b, .cells (y.2.1.map Rb.val ++ List.replicate (x.n - y.1) (Value.slice none 0 0)).toArray 76 (0, 0)⟩] })
      (fun y => y.1 ≤ x.n ∧ y.2.1.length = y.1 ∧ (∀ b o, I1 b = some o → y.2.2 b = some o) ∧ y.2.2 b = none ∧ (∀ r ∈ y.2.1, r.ok y.2.2) ∧ y.2.1.map (·.l) = (List.range y.1).map (fun i => fromL x.ll i)) (fun y => x.n - y.1) ?_ ?_
    · refine ⟨(0, [], I1), ⟨by simp, rfl, fun _ _ h => h, hb, by simp, rfl⟩, ?_, .cons .refl (.cons .refl (.cons .refl (.cons .refl .nil))), .nil⟩
      show Wk _ _ [⟨b, .cells (rowOf [.slice none 0 0] (x.n * 1)).toArray 76 (0, 0)⟩] _ _
      rw [rowOf_one, Nat.mul_one]
      exact .refl
    · rintro ⟨i, rs, I2⟩ ⟨hi, hrl, hI2, hb2, hro, hrs⟩
      simp only at hi hrl hI2 hb2 hro hrs
      refine CondOb.mk (fun h => ?_) (fun h => ?_)
      · have hlt : i < x.n := by simpa using h
        refine CallOb.mkD [] [⟨b, .cells (rs.map Rb.val ++ List.replicate (x.n - i) (Value.slice none 0 0)).toArray 76 (0, 0)⟩] _ (.refl _) (from_spec (hx.mono hI2) (by omega) hv (i := i) hlt) ?_
        rintro v I3 M3 - hd3 ⟨hI3, r, rfl, hr, hrlv, rfl⟩
        refine IdxOb.mk ⟨b, 0, none⟩ i rfl rfl hlt ?_
        refine StoreOb.add [] [] _ _ rfl ?_ rfl ?_
        · simp only [List.size_toArray, List.length_append, List.length_map, List.length_replicate]
          show 0 + i * 1 + 1 ≤ _
          omega
        refine ArithOb.mk _ (next_wr (i := i) (by omega)) ?_
        refine ⟨(i + 1, rs ++ [r], I3), ⟨⟨by simp only; omega, by simp [hrl], fun b o h => hI3 _ _ (hI2 _ _ h), hd3 _ (.head _), fun r' hr' => ?_, ?_⟩, by simp only; omega⟩, ?_, .cons .refl (.cons .refl (.cons .refl (.cons .refl .nil))), .nil⟩
        · simp only [List.mem_append, List.mem_singleton] at hr'
          rcases hr' with hr' | rfl
          · exact (hro r' hr').mono hI3
          · exact hr
        · simp only
          rw [List.map_append, hrs, List.range_succ, List.map_append]
          simp [hrlv]
        · have hrep : List.replicate (x.n - i) (Value.slice none 0 0) = .slice none 0 0 :: List.replicate (x.n - (i + 1)) (.slice none 0 0) := by
            rw [show x.n - i = (x.n - (i + 1)) + 1 from by omega, List.replicate_succ]
          have e := splice_pre (pre := rs.map Rb.val) (post := List.replicate (x.n - (i + 1)) (.slice none 0 0)) (z := .slice none 0 0) (v := r.val) (k := 0 + i * 1) (by simp [hrl])
          rw [hrep]
          simp only [List.map_append, List.map_cons, List.map_nil, List.append_assoc, List.cons_append, List.nil_append]
          rw [← e]
          exact .refl
      · have hge : x.n ≤ i := by simpa using h
        have hin : i = x.n := by omega
        subst hin
        have hmat : rs.map (·.l) = matOf x.ll := by rw [hrs, matOf, hll]
        -- the rows of marks stand
        have hRok : Lb.ok (ins I2 b (.cells (rs.map Rb.val ++ List.replicate (x.n - x.n) (Value.slice none 0 0)).toArray 76 (0, 0))) ⟨rs, some ⟨b, 0, none⟩, x.n, x.n⟩ := by
          refine ⟨⟨by simp [hrl], ⟨Nat.le_refl _, by simp only; omega⟩, .inr ⟨_, rfl, rfl, _, _, _, ins_self .., ?_⟩⟩, fun r hr => (hro r hr).mono (ins_le hb2)⟩
          simp [hrl]
          exact List.take_of_length_le (by simp [hrl])
        generalize hR : (⟨rs, some ⟨b, 0, none⟩, x.n, x.n⟩ : Lb) = R at hRok
        have hRv : R.val = .slice (some ⟨b, 0, none⟩) x.n x.n := by rw [← hR]; rfl
        have hRr : R.rows = rs := by rw [← hR]
        have hRn : R.n = x.n := by rw [← hR]
        have hRa : R.a = some ⟨b, 0, none⟩ := by rw [← hR]
        generalize hI0 : ins I2 b (.cells (rs.map Rb.val ++ List.replicate (x.n - x.n) (Value.slice none 0 0)).toArray 76 (0, 0)) = I0 at hRok
        have hI20 : ∀ b o, I2 b = some o → I0 b = some o := by rw [← hI0]; exact ins_le hb2
        refine MakeOb.mk x.n x.n rfl rfl (Nat.le_refl _) (by show 1 * x.n ≤ _; omega) (by omega) ?_
        refine AllocOb.mk fun b8 hb8 hbM8 => ?_
        refine LoopOb.inv (ι := Nat × List Bool × OS × List Rw × GH) (fun y => { fl := [(3, .val x.val), (5, .val R.val), (7, .val y.2.2.1.val), (8, .val (.slice (some ⟨b8, 0, none⟩) x.n x.n)), (38, .val (.int .i64 x.n)), (39, .val (.int .i64 y.1))], gi := y.2.2.2.2, mi := y.2.2.1.blk 30 ++ [boolRow b8 y.2.1] })
          (fun y => y.1 ≤ x.n ∧ y.2.1.length = x.n ∧ y.2.2.1.ok 1 (y.2.2.2.1.map Rw.val) ∧ (∀ b o, I0 b = some o → y.2.2.2.2 b = some o) ∧ (∀ r ∈ y.2.2.2.1, r.ok y.2.2.2.2) ∧ y.2.2.2.1.length ≤ y.1 ∧ roundsL x.ll = roundsGo (matOf x.ll) x.n (x.n - y.1) y.1 y.2.1 (y.2.2.2.1.map (·.l))) (fun y => x.n - y.1) ?_ ?_
        · refine ⟨(0, List.replicate x.n false, OS0, [], I0), ⟨by simp, by simp, OS0_ok 1, fun _ _ h => h, by simp, by simp, by simp only [roundsL, hll]; rfl⟩, ?_, .cons .refl (.cons (by simp only [hRv]; exact .refl) (.cons .refl (.cons .refl (.cons .refl (.cons .refl .nil))))), .nil⟩
          have hr8 : rowOf [.bool false] (x.n * 1) = (List.replicate x.n false).map Value.bool := by
            rw [rowOf_one, Nat.mul_one, List.map_replicate]
          show Wk _ _ [⟨b8, .cells (rowOf [.bool false] (x.n * 1)).toArray 4 (0, 0)⟩, _] _ _
          rw [hr8]
          refine .perm (List.Perm.swap _ _ _) (.prom rfl (by simp) ?_)
          rw [hI0]
          exact .refl
        · rintro ⟨i, p, os, ws, I3⟩ ⟨hi, hpl, hos, hI3, hws, hwl, hgo⟩
          simp only at hi hpl hos hI3 hws hwl hgo
          refine CondOb.mk (fun h => ?_) (fun h => ?_)
          · have hlt : i < x.n := by simpa using h
            have hlp : i < p.length := by omega
            have hR3 := hRok.mono hI3
            have hosn : os.n = ws.length := by
              have := hos.len
              simp at this
              omega
            have hgd : p.getD i false = p[i] := by simp [List.getD_eq_getElem?_getD, hlp]
            have hgo1 : roundsL x.ll = bif p.getD i false then roundsGo (matOf x.ll) x.n (x.n - (i + 1)) (i + 1) p (ws.map (·.l)) else roundsGo (matOf x.ll) x.n (x.n - (i + 1)) (i + 1) (partGo (matOf x.ll) i (x.n - i) i p []).1 (ws.map (·.l) ++ [(partGo (matOf x.ll) i (x.n - i) i p []).2]) := by
              rw [hgo, show x.n - i = (x.n - (i + 1)) + 1 from by omega, roundsGo, show (x.n - (i + 1)) + 1 = x.n - i from by omega]
            refine IdxOb.mk ⟨b8, 0, none⟩ i rfl rfl hlt ?_
            refine LoadOb.mk _ (boolRow_rd (by simp) hlp) ?_
            refine CondOb.mk (fun h2 => ?_) (fun h2 => ?_)
            · rw [hgd, h2] at hgo1
              refine ArithOb.mk _ (next_wr (i := i) (by omega)) ?_
              exact ⟨(i + 1, p, os, ws, I3), ⟨⟨by simp only; omega, hpl, hos, hI3, hws, by simp only; omega, hgo1⟩, by simp only; omega⟩, .refl, .cons .refl (.cons .refl (.cons .refl (.cons .refl (.cons .refl (.cons .refl .nil))))), .nil⟩
            · rw [hgd, h2, cond_false] at hgo1
              refine LoopOb.inv (ι := Nat × List Bool × OS × List Int) (fun z => { fl := [(3, .val x.val), (5, .val R.val), (7, .val os.val), (8, .val (.slice (some ⟨b8, 0, none⟩) x.n x.n)), (9, .val (.int .i64 i)), (10, .val z.2.2.1.val), (11, .val (.int .i64 z.1)), (38, .val (.int .i64 x.n)), (39, .val (.int .i64 i))], gi := I3, mi := z.2.2.1.blk 3 ++ (os.blk 30 ++ [boolRow b8 z.2.1]) })
                (fun z => z.1 ≤ x.n ∧ i ≤ z.1 ∧ z.2.1.length = x.n ∧ z.2.2.1.ok 1 (z.2.2.2.map (.int .i64 ·)) ∧ (∀ g, z.2.2.1.a = some g → I3 g = none) ∧ z.2.2.2.length ≤ z.1 ∧ partGo (matOf x.ll) i (x.n - i) i p [] = partGo (matOf x.ll) i (x.n - z.1) z.1 z.2.1 z.2.2.2) (fun z => x.n - z.1) ?_ ?_
              · exact ⟨(i, p, OS0, []), ⟨by simp only; omega, Nat.le_refl _, hpl, OS0_ok 1, (fun g h => by cases h), Nat.zero_le _, rfl⟩, .refl, .cons .refl (.cons .refl (.cons .refl (.cons .refl (.cons .refl (.cons .refl (.cons .refl (.cons .refl (.cons .refl .nil)))))))), .nil⟩
              · rintro ⟨k, s, oq, q⟩ ⟨hk, hik, hsl, hoq, hoI, hql, hpg⟩
                simp only at hk hik hsl hoq hoI hql hpg
                have hoqn := hoq.len1
                refine CondOb.mk (fun h => ?_) (fun h => ?_)
                · have hkl : k < x.n := by simpa using h
                  have rowi : ∀ {j : Nat} (hj : j < x.n), ∃ (hjr : j < R.rows.length), (R.rows[j]'hjr).ok I3 ∧ (R.rows[j]'hjr).n = x.n ∧ (R.rows[j]'hjr).l.length = x.n ∧ ∀ a (ha : a < (R.rows[j]'hjr).l.length), mat (matOf x.ll) j a = (R.rows[j]'hjr).l[a] := fun {j} hj => by
                    have hjr : j < R.rows.length := by rw [hRr]; omega
                    have hok := hR3.rows _ (List.getElem_mem hjr)
                    have hmj : (matOf x.ll).getD j [] = (R.rows[j]'hjr).l := by
                      rw [← hmat, ← hRr]
                      simp [List.getD_eq_getElem?_getD, hjr]
                    have hl : (R.rows[j]'hjr).l.length = x.n := by
                      rw [← hmj]
                      have : (matOf x.ll).getD j [] = fromL x.ll j := by simp [matOf, List.getD_eq_getElem?_getD, hll, hj]
                      rw [this, from_len hv (by omega), hll]
                    refine ⟨hjr, hok, by rw [← hok.n, hl], hl, fun a ha => ?_⟩
                    unfold mat
                    rw [hmj]
                    simp [List.getD_eq_getElem?_getD, ha]
                  obtain ⟨hir, hiok, hin, hil, himat⟩ := rowi hlt
                  obtain ⟨hkr, hkok, hkn, hkll, hkmat⟩ := rowi hkl
                  have hone : ∀ {j : Nat} (hj : j < R.n) (hj' : j < R.rows.length), ∃ ad, R.a = some ad ∧ ∀ M, Rd I3 M (ad.add (j * 1)) 1 [(R.rows[j]'hj').val] := fun hj hj' => hR3.rs.one hj hj'
                  obtain ⟨ai, hai, hri⟩ := hone (j := i) (by omega) hir
                  obtain ⟨ak, hak, hrk⟩ := hone (j := k) (by omega) hkr
                  obtain ⟨ci, hci, hrci⟩ := hiok.rs.one (j := k) (by omega) (by omega)
                  obtain ⟨ck, hck, hrck⟩ := hkok.rs.one (j := i) (by omega) (by omega)
                  have hgk : partGo (matOf x.ll) i (x.n - i) i p [] = bif mat (matOf x.ll) i k && mat (matOf x.ll) k i then partGo (matOf x.ll) i (x.n - (k + 1)) (k + 1) (s.set k true) (q ++ [(k : Int)]) else partGo (matOf x.ll) i (x.n - (k + 1)) (k + 1) s q := by
                    rw [hpg, show x.n - k = (x.n - (k + 1)) + 1 from by omega, partGo]
                  rw [himat k (by omega), hkmat i (by omega)] at hgk
                  refine IdxOb.mk ai i hai rfl (by omega) ?_
                  refine LoadOb.mk _ (hri _) ?_
                  refine IdxOb.mk ci k hci rfl (by omega) ?_
                  refine LoadOb.mk _ (hrci _) ?_
                  refine GuardOb.mk (fun c1 => ?_) (fun c1 => ?_)
                  · refine IdxOb.mk ak k hak rfl (by omega) ?_
                    refine LoadOb.mk _ (hrk _) ?_
                    refine IdxOb.mk ck i hck rfl (by omega) ?_
                    refine LoadOb.mk _ (hrck _) ?_
                    refine CondOb.mk (fun c2 => ?_) (fun c2 => ?_)
                    · have hks : k < s.length := by omega
                      have e := boolRow_set s k hks true
                      refine IdxOb.mk ⟨b8, 0, none⟩ k rfl rfl hkl ?_
                      refine StoreOb.add (oq.blk 3 ++ os.blk 30) [] (s.map Value.bool).toArray 4 (by simp [boolRow]) ?_ rfl ?_
                      · simp only [List.size_toArray, List.length_map]
                        show 0 + k * 1 + 1 ≤ _
                        omega
                      refine AllocOb.mk fun b9 hb9 hbM9 => ?_
                      refine OtherOb.appendN TrydEOK rfl (by simp) (e := 3) rfl rfl rfl oq hoq rfl (m := 1) rfl (news := [.int .i64 k]) (by decide) (blk_rd (b := b9) (cs := [.int .i64 k]) (k := 0) (n := 1) (T := 3) (.head _) (by simp)) rfl (Mr := os.blk 30 ++ [⟨b8, .cells (splice (s.map Value.bool) (0 + k * 1) [.bool true]).toArray 4 (0, 0)⟩, ⟨b9, .cells #[.int .i64 k] 3 (0, 0)⟩]) (perm5 _ _ _ _) (by simp only [maxLen]; omega) (by show (oq.n + 1) * 8 ≤ _; omega) ?_
                      intro g' c' cur' q0 q1 q2 q3 q4
                      refine ArithOb.mk _ (next_wr (i := k) (by omega)) ?_
                      refine ⟨(k + 1, s.set k true, ⟨some g', oq.n + 1, c', cur'⟩, q ++ [(k : Int)]), ⟨⟨by simp only; omega, by simp only; omega, by simpa using hsl, ?_, fun g hg => by cases hg; exact q0, by simp only [List.length_append, List.length_cons, List.length_nil]; omega, ?_⟩, by simp only; omega⟩, ?_, .cons .refl (.cons .refl (.cons .refl (.cons .refl (.cons .refl (.cons .refl (.cons .refl (.cons .refl (.cons .refl .nil)))))))), .nil⟩
                      · simp only
                        rw [List.map_append]
                        exact app1_ok hoq q1 q2 q3 q4
                      · simp only
                        rw [hgk, c1, c2]
                        rfl
                      · simp only [boolRow]
                        rw [← e]
                        simp only [Nat.zero_add, Nat.mul_one]
                        exact .sub (.cons_cons _ (List.Sublist.append_left (.cons_cons _ (List.nil_sublist _)) _)) .refl
                    · refine ArithOb.mk _ (next_wr (i := k) (by omega)) ?_
                      refine ⟨(k + 1, s, oq, q), ⟨⟨by simp only; omega, by simp only; omega, hsl, hoq, hoI, by simp only; omega, ?_⟩, by simp only; omega⟩, .refl, .cons .refl (.cons .refl (.cons .refl (.cons .refl (.cons .refl (.cons .refl (.cons .refl (.cons .refl (.cons .refl .nil)))))))), .nil⟩
                      simp only
                      rw [hgk, c1, c2]
                      rfl
                  · refine ArithOb.mk _ (next_wr (i := k) (by omega)) ?_
                    refine ⟨(k + 1, s, oq, q), ⟨⟨by simp only; omega, by simp only; omega, hsl, hoq, hoI, by simp only; omega, ?_⟩, by simp only; omega⟩, .refl, .cons .refl (.cons .refl (.cons .refl (.cons .refl (.cons .refl (.cons .refl (.cons .refl (.cons .refl (.cons .refl .nil)))))))), .nil⟩
                    simp only
                    rw [hgk, c1]
                    rfl
                · have hge : x.n ≤ k := by simpa using h
                  have hpf : partGo (matOf x.ll) i (x.n - i) i p [] = (s, q) := by
                    rw [hpg, show x.n - k = 0 from by omega]
                    rfl
                  rw [hpf] at hgo1
                  refine AllocOb.mk fun b9 hb9 hbM9 => ?_
                  refine OtherOb.appendN TrydEOK rfl (by simp) (e := 30) rfl rfl rfl os hos rfl (m := 1) rfl (news := [oq.val]) (by decide) (blk_rd (b := b9) (cs := [oq.val]) (k := 0) (n := 1) (T := 30) (.head _) (by simp)) rfl (Mr := oq.blk 3 ++ [boolRow b8 s, (⟨b9, .cells #[oq.val] 30 (0, 0)⟩ : Blk)]) (perm6 _ _ _ _) (by simp only [maxLen]; omega) (by show (os.n + 1) * 24 ≤ _; omega) ?_
                  intro g' c' cur' q0 q1 q2 q3 q4
                  refine ArithOb.mk _ (next_wr (i := i) (by omega)) ?_
                  obtain ⟨I4, r, w1, w2, w3, w4, w5⟩ := OS.giveInts (e := 3) hoq (by omega) hoI [⟨g', .cells cur'.toArray 30 (0, 0)⟩, boolRow b8 s]
                  refine ⟨(i + 1, s, ⟨some g', os.n + 1, c', cur'⟩, ws ++ [r], I4), ⟨⟨by simp only; omega, hsl, ?_, fun b o h => w2 _ _ (hI3 _ _ h), fun r' hr' => ?_, by simp only [List.length_append, List.length_cons, List.length_nil]; omega, ?_⟩, by simp only; omega⟩, .perm (perm7 _ _ _ _) (.sub (List.sublist_append_right [(⟨b9, .cells #[oq.val] 30 (0, 0)⟩ : Blk)] _) w1), .cons .refl (.cons .refl (.cons .refl (.cons .refl (.cons .refl (.cons .refl .nil))))), .nil⟩
                  · simp only
                    rw [List.map_append, List.map_cons, List.map_nil, ← w3]
                    exact app1_ok hos q1 q2 q3 q4
                  · simp only [List.mem_append, List.mem_singleton] at hr'
                    rcases hr' with hr' | rfl
                    · exact (hws r' hr').mono w2
                    · exact w4
                  · simp only
                    rw [List.map_append, List.map_cons, List.map_nil, w5]
                    exact hgo1
          · have hge : x.n ≤ i := by simpa using h
            refine ⟨_, _, .sub (List.sublist_append_left _ _) .refl, fun b o h => hI3 _ _ (hI20 _ _ (hI2 _ _ (hI1 _ _ h))), os, ws, rfl, hos, hws, ?_, rfl⟩
            rw [hgo, show x.n - i = 0 from by omega]
            rfl
end Go.V
