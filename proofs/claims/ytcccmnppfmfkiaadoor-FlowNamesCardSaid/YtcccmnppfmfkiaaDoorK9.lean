/-
  Part 9 of what the proofs of this seat share: the executor, data in memory, walks.
-/
import Derived.Test.YtcccmnppfmfkiaaDoorK8

/-
  Walk: bonsailaw10.FlowNames.
-/
set_option linter.unusedVariables false
set_option linter.unusedSimpArgs false
namespace Go.V
open Go Go.Proofs

def trBlk (b : Nat) (t : Tr) : Blk := ⟨b, .cells t.cells.toArray 25 (0, 0)⟩
def zrBlk (b : Nat) : Blk := ⟨b, .cells #[.slice none 0 0, .int .i64 0] 25 (0, 0)⟩
theorem Wk.ofEq {foot : List Nat} {I : GH} {M M' : List Blk} (h : M = M') : Wk foot I M I M' := by
  subst h
  exact .refl
def zrT : Tr := ⟨[], none, 0, 0, 0⟩
theorem zrT_ok {I : GH} : zrT.ok I := ⟨⟨rfl, ⟨Nat.le_refl _, by decide⟩, .inl rfl⟩, (fun d h => by cases h), ⟨by decide, by decide⟩⟩
def zrG : Gr := ⟨[], none, 0, 0⟩
theorem zrG_ok {I : GH} : zrG.ok I := ⟨⟨rfl, ⟨Nat.le_refl _, by decide⟩, .inl rfl⟩, fun d h => by cases h⟩
theorem zrG_may : mayG debL zrG ≠ 0 := by
  have h : decide (mayG debL zrG = 0) = false := by kernel_rfl
  exact of_decide_eq_false h
theorem bH_may : mayG debL ⟨[⟨cB 97, trOf [leafNd 3 (cB 98)]⟩], none, 1, 0⟩ ≠ 0 := by
  have h : decide (mayG debL ⟨[⟨cB 97, trOf [leafNd 3 (cB 98)]⟩], none, 1, 0⟩ = 0) = false := by kernel_rfl
  exact of_decide_eq_false h
theorem Spec.imp {P : Program} {f : Nat} {args : List Value} {I : GH} {M : List Blk} {p q : Value → GH → List Blk → Prop} (h : Spec P f args I M p) (hpq : ∀ v I' M', p v I' M' → q v I' M') : Spec P f args I M q := by
  rcases h with ⟨h1, h2⟩ | h2
  · refine .inl ⟨h1, fun w hw => (h2 w hw).mono ?_⟩
    rintro e w' ⟨v, I', M', h3, h4, h5⟩
    exact ⟨v, I', M', h3, hpq _ _ _ h4, h5⟩
  · refine .inr fun w hw => ?_
    obtain ⟨v, w', I', M', h3, h4, h5⟩ := h2 w hw
    exact ⟨v, w', I', M', h3, hpq _ _ _ h4, h5⟩
/-- The flows of a grammar that may not be. -/
theorem FOf_bad {I : GH} (hT : Tabs I debL) {g : Gr} (hg : g.ok I) (hm : mayG debL g ≠ 0) : Spec Tryd.prog 32 [g.val] I [] fun v I' M' => (∀ b o, I b = some o → I' b = some o) ∧ M' = [] ∧ ∃ m, m ≠ 0 ∧ v = .tuple #[.slice none 0 0, .int .i64 m] :=
  (FOf_spec hT hg).imp fun v I' M' h => ⟨h.1, by
    rcases h.2 with ⟨h1, h2, h3⟩ | ⟨h1, _⟩
    · exact ⟨h3, _, h1, h2⟩
    · exact absurd h1 hm⟩
theorem seqLeaf {b T : Nat} {r : Fl} {x y z : Bool} {l : List Blk} (h1 : r.z = x) (h2 : r.s = y) (h3 : r.f = z) : (⟨b, .cells #[.bool x, .bool y, .bool z] T (0, 0)⟩ :: l : List Blk) = ⟨b, .cells r.cells.toArray T (0, 0)⟩ :: l := by
  subst h1
  subst h2
  subst h3
  rfl
set_option maxRecDepth 100000 in
set_option maxHeartbeats 80000000 in
theorem flowNames_V {I : GH} (hT : Tabs I debL) : SpecE Tryd.prog 6 [] I [] fun v I' M' => v = .bool true := by
  refine specE_of_V [] TrydEOK Tryd.func6 rfl rfl rfl ?_
  intro B h0
  refine CallOb.mk [] [] _ (.refl _) (works10_spec hT) ?_
  rintro v I1 M1 - ⟨rfl, hI1, rfl⟩
  refine CondOb.mk (fun h => by simp at h) (fun _ => ?_)
  refine CallOb.mk [] [] _ (.refl _) (Rule_spec (s := cB 120) (by decide)) ?_
  rintro v I2 M2 - ⟨hI2, t1, rfl, ht1, n1, r1, rfl⟩
  have c1 : TC I2 t1 [leafNd 3 (cB 120)] := .leaf ht1 n1 r1 rfl
  refine CallOb.mk [] [] _ (.refl _) Empty_spec ?_
  rintro v I3 M3 - ⟨hI3, t2, rfl, ht2, n2, r2, rfl⟩
  have c2 : TC I3 t2 [leafNd 0 nB] := .leaf ht2 n2 r2 rfl
  refine CallOb.mk [] [] _ (.refl _) (Text_spec (s := cB 116) (by decide)) ?_
  rintro v I4 M4 - ⟨hI4, t3, rfl, ht3, n3, r3, rfl⟩
  have c3 : TC I4 t3 nT := .leaf ht3 n3 r3 rfl
  refine CallOb.mk [] [] _ (.refl _) (TSet_spec u0 u0 u0 u0) ?_
  rintro v I5 M5 - ⟨hI5, t4, rfl, ht4, n4, r4, rfl⟩
  have c4 : TC I5 t4 [setNd 0 0 0 0] := .leaf ht4 n4 r4 rfl
  refine AllocOb.mk fun b5 hb5 hbM5 => ?_
  refine CallOb.mk [kidsBlk b5 [t3]] [] _ (.refl _) (of10_1 (k := 6) (lo := 0) (hi := -1) (s := nB) (by decide) (by decide) i0 ⟨by decide, by decide⟩ (c3.mono hI5) nOf4) ?_
  rintro v I6 M6 - ⟨hI6, rfl, t5, rfl, c5⟩
  refine CodeOb.draw TrydEOK rfl rfl rfl ?_
  refine AllocOb.mk fun b7 hb7 hbM7 => ?_
  refine PCallOb.mkR [kidsBlk b7 [t3]] [kidsBlk b5 [t3]] _ (.refl _) (of10_1 (k := 7) (lo := 0) (hi := 0) (s := nB) (by decide) (by decide) i0 i0 ((c3.mono hI5).mono hI6) nOf5) (fun v I' M' h x hx => by rw [h.2.1]; exact hx) ?_
  rintro v I7 M7 hI7 ⟨-, rfl, t6, rfl, c6⟩
  refine AllocOb.mk fun b8 hb8 hbM8 => ?_
  refine AllocOb.mk fun b9 hb9 hbM9 => ?_
  have hI17 : ∀ b o, I b = some o → I7 b = some o := fun b o h => hI7 _ _ (hI6 _ _ (hI5 _ _ (hI4 _ _ (hI3 _ _ (hI2 _ _ (hI1 _ _ h))))))
  obtain ⟨ts, hts⟩ : ∃ ts, ts = [t1, t2, t3, t4, t5, t6] := ⟨_, rfl⟩
  have htl : ts.length = 6 := by rw [hts]; rfl
  have hTC : ∀ j (h : j < ts.length), TC I7 ts[j] (nL j) := by
    subst hts
    intro j hj
    match j, hj with
    | 0, _ => exact (((((c1.mono hI3).mono hI4).mono hI5).mono hI6).mono hI7)
    | 1, _ => exact ((((c2.mono hI4).mono hI5).mono hI6).mono hI7)
    | 2, _ => exact (((c3.mono hI5).mono hI6).mono hI7)
    | 3, _ => exact ((c4.mono hI6).mono hI7)
    | 4, _ => exact (c5.mono hI7)
    | 5, _ => exact c6
  refine LoopOb.inv (ι := Nat × GH) (fun x => { fl := [(3, .ref 3 0), (6, .val (.slice (some ⟨b8, 0, none⟩) 6 6)), (7, .val (.slice (some ⟨b9, 0, none⟩) 6 6)), (8, .val (.int .i64 x.1))], cl := [(3, t3.cells)], gi := x.2, mi := [flRow b9 nWs, kidsBlk b8 ts] }) (fun x => x.1 ≤ 6 ∧ ∀ b o, I7 b = some o → x.2 b = some o) (fun x => 6 - x.1) ?_ ?_
  · subst hts
    exact ⟨(0, I7), ⟨Nat.zero_le _, fun _ _ h => h⟩, .sub (.cons_cons _ (.cons_cons _ (List.nil_sublist _))) .refl, .cons .refl (.cons .refl (.cons .refl (.cons .refl .nil))), .cons rfl .nil⟩
  rintro ⟨i, J⟩ ⟨hi, hJ⟩
  simp only at hi hJ
  have hTJ : Tabs J debL := hT.mono fun b o h => hJ _ _ (hI17 _ _ h)
  refine CondOb.mk (fun h1 => ?_) (fun h1 => ?_)
  · have hlt : i < 6 := by have := of_decide_eq_true h1; omega
    have hti : i < ts.length := by omega
    have ci := (hTC i hti).mono hJ
    have rf : ∀ M j (hj : j < 6), flRow b9 nWs ∈ M → Rd J M ((⟨b9, 0, none⟩ : Addr).add (j * 3)) 3 (nW j).cells := fun M j hj hM => by
      have h := flRow_rd (I := J) hM (j := j) (l := nWs) hj
      have e : nWs[j] = nW j := by simp only [nW, List.getD_eq_getElem?_getD, List.getElem?_eq_getElem (show j < nWs.length from hj)]; rfl
      rwa [e] at h
    have rt : ∀ (K : GH) M j (hj : j < ts.length), kidsBlk b8 ts ∈ M → Rd K M ((⟨b8, 0, none⟩ : Addr).add (j * 2)) 2 ts[j].cells := fun K M j hj hM => by
      obtain ⟨ad, had, h⟩ := kidsBlk_rd (I := K) hM j hj
      cases had
      exact h
    have ok1 : leafV (nL i) = nW i ∧ ∀ p ∈ nOnes, oneOk i p = true := by
      have := List.all_eq_true.1 nOnes_ok i (List.mem_range.2 hlt)
      rw [Bool.and_eq_true, decide_eq_true_eq, List.all_eq_true] at this
      exact this
    refine IdxOb.mk ⟨b9, 0, none⟩ i rfl rfl hlt ?_
    refine LoadOb.mk _ (rf _ i hlt (.head _)) ?_
    generalize hf : nW i = f at ok1
    refine CodeOb.drawC TrydEOK rfl rfl rfl (ι := GH) (fun K => { fl := [(3, .ref 3 0), (6, .val (.slice (some ⟨b8, 0, none⟩) 6 6)), (7, .val (.slice (some ⟨b9, 0, none⟩) 6 6)), (8, .val (.int .i64 i)), (9, .ref 9 0), (145, .val (.bool (!decide (f = f))))], cl := [(3, t3.cells), (9, f.cells)], gi := K, mi := [flRow b9 nWs, kidsBlk b8 ts] }) (fun K => ∀ b o, J b = some o → K b = some o) ?_ ?_
    rotate_left
    · intro K hK
      refine CondOb.mk (fun h => by simp at h) (fun _ => ?_)
      refine LoopOb.inv (ι := Nat × GH) (fun x => { fl := [(3, .ref 3 0), (6, .val (.slice (some ⟨b8, 0, none⟩) 6 6)), (7, .val (.slice (some ⟨b9, 0, none⟩) 6 6)), (8, .val (.int .i64 i)), (9, .ref 9 0), (10, .val (.int .i64 x.1))], cl := [(3, t3.cells), (9, f.cells)], gi := x.2, mi := [flRow b9 nWs, kidsBlk b8 ts] }) (fun x => x.1 ≤ 6 ∧ ∀ b o, J b = some o → x.2 b = some o) (fun x => 6 - x.1) ?_ ?_
      · exact ⟨(0, K), ⟨Nat.zero_le _, hK⟩, .refl, .cons .refl (.cons .refl (.cons .refl (.cons .refl (.cons .refl (.cons .refl .nil))))), .cons rfl (.cons rfl .nil)⟩
      rintro ⟨k, L⟩ ⟨hk, hL⟩
      simp only at hk hL
      refine CondOb.mk (fun h2 => ?_) (fun h2 => ?_)
      · have hkt : k < 6 := by have := of_decide_eq_true h2; omega
        have htk : k < ts.length := by omega
        have ck := ((hTC k htk).mono hJ).mono hL
        have ok2 := List.all_eq_true.1 (List.all_eq_true.1 nTwos_ok i (List.mem_range.2 hlt)) k (List.mem_range.2 hkt)
        simp only [twoOk, hf, Bool.and_eq_true, decide_eq_true_eq] at ok2
        have hTL : Tabs L debL := hTJ.mono hL
        have rfL : ∀ M j (hj : j < 6), flRow b9 nWs ∈ M → Rd L M ((⟨b9, 0, none⟩ : Addr).add (j * 3)) 3 (nW j).cells := fun M j hj hM => by
          have h := flRow_rd (I := L) hM (j := j) (l := nWs) hj
          have e : nWs[j] = nW j := by simp only [nW, List.getD_eq_getElem?_getD, List.getElem?_eq_getElem (show j < nWs.length from hj)]; rfl
          rwa [e] at h
        refine IdxOb.mk ⟨b9, 0, none⟩ k rfl rfl hkt ?_
        refine LoadOb.mk _ (rfL _ k hkt (.head _)) ?_
        generalize hh : nW k = h at ok2
        refine CodeOb.drawC TrydEOK rfl rfl rfl (ι := Nat) (fun b12 => { fl := [(3, .ref 3 0), (6, .val (.slice (some ⟨b8, 0, none⟩) 6 6)), (7, .val (.slice (some ⟨b9, 0, none⟩) 6 6)), (8, .val (.int .i64 i)), (9, .ref 9 0), (10, .val (.int .i64 k)), (11, .ref 11 0), (12, .val (.pointer (some ⟨b12, 0, none⟩)))], cl := [(3, t3.cells), (9, f.cells), (11, h.cells)], gi := L, mi := [⟨b12, .cells (seqF f h).cells.toArray 55 (0, 0)⟩, flRow b9 nWs, kidsBlk b8 ts] }) (fun _ => True) ?_ ?_
        rotate_left
        · intro b12 _
          have ci2 := ci.mono hL
          cases hz : f.z <;> cases hs : f.s <;> cases hff : f.f
          -- PAIRS
          · refine GuardOb.mk (fun _ => ?_) (fun e => absurd e (by simp [hz, hs, hff]))
            refine GuardOb.mk (fun e => absurd e (by simp [hz, hs, hff])) (fun _ => ?_)
            refine GuardOb.mk (fun _ => ?_) (fun e => absurd e (by simp [hz, hs, hff]))
            refine GuardOb.mk (fun e => absurd e (by simp [hz, hs, hff])) (fun _ => ?_)
            refine GuardOb.mk (fun e => absurd e (by simp [hz, hs, hff])) (fun _ => ?_)
            refine CodeOb.draw TrydEOK rfl rfl rfl ?_
            refine IdxOb.mk ⟨b8, 0, none⟩ i rfl rfl hlt ?_
            refine LoadOb.mk _ (rt _ _ i hti (.tail _ (.tail _ (.head _)))) ?_
            refine IdxOb.mk ⟨b8, 0, none⟩ k rfl rfl hkt ?_
            refine LoadOb.mk _ (rt _ _ k htk (.tail _ (.tail _ (.head _)))) ?_
            refine LoadOb.mk _ (blk_rd (b := b12) (cs := (seqF f h).cells) (k := 0) (n := 3) (T := 55) (.head _) (Nat.le_refl 3)) ?_
            refine AllocOb.mk fun a1 ha1 haM1 => ?_
            refine PCallOb.mkR [kidsBlk a1 [ts[i], ts[k]]] [⟨b12, .cells (seqF f h).cells.toArray 55 (0, 0)⟩, flRow b9 nWs, kidsBlk b8 ts] _ (.refl _) (of10_2 (k := 4) (lo := 0) (hi := 0) (s := nB) (by decide) (by decide) i0 i0 (ci2.mono (fun _ _ h => h)) (ck.mono (fun _ _ h => h)) ok2.1.1) (fun v I' M' h x hx => by rw [h.2.1]; exact hx) ?_
            rintro v P1 N1 hP1 ⟨-, rfl, u1, rfl, d1⟩
            have hG1 : ∀ b o, L b = some o → P1 b = some o := fun b o h => hP1 _ _ h
            have hl1 := leaf10_spec (hTL.mono hG1) d1
            rw [ok2.1.2] at hl1
            refine PCallOb.mk _ hl1 ?_
            rintro v P2 N2 hP2 ⟨-, rfl, rfl⟩
            have hG2 : ∀ b o, L b = some o → P2 b = some o := fun b o h => hP2 _ _ (hG1 _ _ h)
            refine BinOb.neF (p := seqF f h) (q := seqF f h) ?_
            refine GuardOb.mk (fun _ => ?_) (fun h => by simp at h)
            refine IdxOb.mk ⟨b8, 0, none⟩ i rfl rfl hlt ?_
            refine LoadOb.mk _ (rt _ _ i hti (.tail _ (.tail _ (.tail _ (.head _))))) ?_
            refine IdxOb.mk ⟨b8, 0, none⟩ k rfl rfl hkt ?_
            refine LoadOb.mk _ (rt _ _ k htk (.tail _ (.tail _ (.tail _ (.head _))))) ?_
            refine AllocOb.mk fun a2 ha2 haM2 => ?_
            refine PCallOb.mkR [kidsBlk a2 [ts[i], ts[k]]] [kidsBlk a1 [ts[i], ts[k]], ⟨b12, .cells (seqF f h).cells.toArray 55 (0, 0)⟩, flRow b9 nWs, kidsBlk b8 ts] _ (.refl _) (of10_2 (k := 5) (lo := 0) (hi := 0) (s := nB) (by decide) (by decide) i0 i0 (ci2.mono (hG2)) (ck.mono (hG2)) ok2.2.1) (fun v I' M' h x hx => by rw [h.2.1]; exact hx) ?_
            rintro v P3 N3 hP3 ⟨-, rfl, u2, rfl, d2⟩
            have hG3 : ∀ b o, L b = some o → P3 b = some o := fun b o h => hP3 _ _ (hG2 _ _ h)
            have hl2 := leaf10_spec (hTL.mono hG3) d2
            rw [ok2.2.2] at hl2
            refine PCallOb.mk _ hl2 ?_
            rintro v P4 N4 hP4 ⟨-, rfl, rfl⟩
            have hG4 : ∀ b o, L b = some o → P4 b = some o := fun b o h => hP4 _ _ (hG3 _ _ h)
            refine BinOb.neF (p := choF f h) (q := ⟨false, false, false⟩) ?_
            refine CondOb.mk (fun e => absurd e (by simp [choF, hz, hs, hff])) (fun _ => ?_)
            refine ArithOb.mk _ (next_wr (i := k) (by omega)) ?_
            exact ⟨(k + 1, P4), ⟨⟨by simp only; omega, fun b o h => hG4 _ _ (hL _ _ h)⟩, by simp only; omega⟩, .sub (.cons _ (.cons _ (.cons _ (.refl _)))) .refl, .cons .refl (.cons .refl (.cons .refl (.cons .refl (.cons .refl (.cons .refl .nil))))), .cons rfl (.cons rfl .nil)⟩
          · refine GuardOb.mk (fun _ => ?_) (fun e => absurd e (by simp [hz, hs, hff]))
            refine GuardOb.mk (fun _ => ?_) (fun e => absurd e (by simp [hz, hs, hff]))
            refine GuardOb.mk (fun _ => ?_) (fun e => absurd e (by simp [hz, hs, hff]))
            refine GuardOb.mk (fun _ => ?_) (fun e => absurd e (by simp [hz, hs, hff]))
            refine GuardOb.mk (fun _ => ?_) (fun e => absurd e (by simp [hz, hs, hff]))
            refine CodeOb.draw TrydEOK rfl rfl rfl ?_
            refine IdxOb.mk ⟨b8, 0, none⟩ i rfl rfl hlt ?_
            refine LoadOb.mk _ (rt _ _ i hti (.tail _ (.tail _ (.head _)))) ?_
            refine IdxOb.mk ⟨b8, 0, none⟩ k rfl rfl hkt ?_
            refine LoadOb.mk _ (rt _ _ k htk (.tail _ (.tail _ (.head _)))) ?_
            refine LoadOb.mk _ (blk_rd (b := b12) (cs := (seqF f h).cells) (k := 0) (n := 3) (T := 55) (.head _) (Nat.le_refl 3)) ?_
            refine AllocOb.mk fun a1 ha1 haM1 => ?_
            refine PCallOb.mkR [kidsBlk a1 [ts[i], ts[k]]] [⟨b12, .cells (seqF f h).cells.toArray 55 (0, 0)⟩, flRow b9 nWs, kidsBlk b8 ts] _ (.refl _) (of10_2 (k := 4) (lo := 0) (hi := 0) (s := nB) (by decide) (by decide) i0 i0 (ci2.mono (fun _ _ h => h)) (ck.mono (fun _ _ h => h)) ok2.1.1) (fun v I' M' h x hx => by rw [h.2.1]; exact hx) ?_
            rintro v P1 N1 hP1 ⟨-, rfl, u1, rfl, d1⟩
            have hG1 : ∀ b o, L b = some o → P1 b = some o := fun b o h => hP1 _ _ h
            have hl1 := leaf10_spec (hTL.mono hG1) d1
            rw [ok2.1.2] at hl1
            refine PCallOb.mk _ hl1 ?_
            rintro v P2 N2 hP2 ⟨-, rfl, rfl⟩
            have hG2 : ∀ b o, L b = some o → P2 b = some o := fun b o h => hP2 _ _ (hG1 _ _ h)
            refine BinOb.neF (p := seqF f h) (q := seqF f h) ?_
            refine GuardOb.mk (fun _ => ?_) (fun h => by simp at h)
            refine IdxOb.mk ⟨b8, 0, none⟩ i rfl rfl hlt ?_
            refine LoadOb.mk _ (rt _ _ i hti (.tail _ (.tail _ (.tail _ (.head _))))) ?_
            refine IdxOb.mk ⟨b8, 0, none⟩ k rfl rfl hkt ?_
            refine LoadOb.mk _ (rt _ _ k htk (.tail _ (.tail _ (.tail _ (.head _))))) ?_
            refine AllocOb.mk fun a2 ha2 haM2 => ?_
            refine PCallOb.mkR [kidsBlk a2 [ts[i], ts[k]]] [kidsBlk a1 [ts[i], ts[k]], ⟨b12, .cells (seqF f h).cells.toArray 55 (0, 0)⟩, flRow b9 nWs, kidsBlk b8 ts] _ (.refl _) (of10_2 (k := 5) (lo := 0) (hi := 0) (s := nB) (by decide) (by decide) i0 i0 (ci2.mono (hG2)) (ck.mono (hG2)) ok2.2.1) (fun v I' M' h x hx => by rw [h.2.1]; exact hx) ?_
            rintro v P3 N3 hP3 ⟨-, rfl, u2, rfl, d2⟩
            have hG3 : ∀ b o, L b = some o → P3 b = some o := fun b o h => hP3 _ _ (hG2 _ _ h)
            have hl2 := leaf10_spec (hTL.mono hG3) d2
            rw [ok2.2.2] at hl2
            refine PCallOb.mk _ hl2 ?_
            rintro v P4 N4 hP4 ⟨-, rfl, rfl⟩
            have hG4 : ∀ b o, L b = some o → P4 b = some o := fun b o h => hP4 _ _ (hG3 _ _ h)
            refine BinOb.neF (p := choF f h) (q := ⟨h.z, h.s, h.f⟩) ?_
            refine CondOb.mk (fun e => absurd e (by simp [choF, hz, hs, hff])) (fun _ => ?_)
            refine ArithOb.mk _ (next_wr (i := k) (by omega)) ?_
            exact ⟨(k + 1, P4), ⟨⟨by simp only; omega, fun b o h => hG4 _ _ (hL _ _ h)⟩, by simp only; omega⟩, .sub (.cons _ (.cons _ (.cons _ (.refl _)))) .refl, .cons .refl (.cons .refl (.cons .refl (.cons .refl (.cons .refl (.cons .refl .nil))))), .cons rfl (.cons rfl .nil)⟩
          · refine GuardOb.mk (fun _ => ?_) (fun e => absurd e (by simp [hz, hs, hff]))
            refine GuardOb.mk (fun e => absurd e (by simp [hz, hs, hff])) (fun _ => ?_)
            refine GuardOb.mk (fun e => absurd e (by simp [hz, hs, hff])) (fun _ => ?_)
            refine GuardOb.mk (fun e => absurd e (by simp [hz, hs, hff])) (fun _ => ?_)
            refine CodeOb.draw TrydEOK rfl rfl rfl ?_
            refine IdxOb.mk ⟨b8, 0, none⟩ i rfl rfl hlt ?_
            refine LoadOb.mk _ (rt _ _ i hti (.tail _ (.tail _ (.head _)))) ?_
            refine IdxOb.mk ⟨b8, 0, none⟩ k rfl rfl hkt ?_
            refine LoadOb.mk _ (rt _ _ k htk (.tail _ (.tail _ (.head _)))) ?_
            refine LoadOb.mk _ (blk_rd (b := b12) (cs := (seqF f h).cells) (k := 0) (n := 3) (T := 55) (.head _) (Nat.le_refl 3)) ?_
            refine AllocOb.mk fun a1 ha1 haM1 => ?_
            refine PCallOb.mkR [kidsBlk a1 [ts[i], ts[k]]] [⟨b12, .cells (seqF f h).cells.toArray 55 (0, 0)⟩, flRow b9 nWs, kidsBlk b8 ts] _ (.refl _) (of10_2 (k := 4) (lo := 0) (hi := 0) (s := nB) (by decide) (by decide) i0 i0 (ci2.mono (fun _ _ h => h)) (ck.mono (fun _ _ h => h)) ok2.1.1) (fun v I' M' h x hx => by rw [h.2.1]; exact hx) ?_
            rintro v P1 N1 hP1 ⟨-, rfl, u1, rfl, d1⟩
            have hG1 : ∀ b o, L b = some o → P1 b = some o := fun b o h => hP1 _ _ h
            have hl1 := leaf10_spec (hTL.mono hG1) d1
            rw [ok2.1.2] at hl1
            refine PCallOb.mk _ hl1 ?_
            rintro v P2 N2 hP2 ⟨-, rfl, rfl⟩
            have hG2 : ∀ b o, L b = some o → P2 b = some o := fun b o h => hP2 _ _ (hG1 _ _ h)
            refine BinOb.neF (p := seqF f h) (q := seqF f h) ?_
            refine GuardOb.mk (fun _ => ?_) (fun h => by simp at h)
            refine IdxOb.mk ⟨b8, 0, none⟩ i rfl rfl hlt ?_
            refine LoadOb.mk _ (rt _ _ i hti (.tail _ (.tail _ (.tail _ (.head _))))) ?_
            refine IdxOb.mk ⟨b8, 0, none⟩ k rfl rfl hkt ?_
            refine LoadOb.mk _ (rt _ _ k htk (.tail _ (.tail _ (.tail _ (.head _))))) ?_
            refine AllocOb.mk fun a2 ha2 haM2 => ?_
            refine PCallOb.mkR [kidsBlk a2 [ts[i], ts[k]]] [kidsBlk a1 [ts[i], ts[k]], ⟨b12, .cells (seqF f h).cells.toArray 55 (0, 0)⟩, flRow b9 nWs, kidsBlk b8 ts] _ (.refl _) (of10_2 (k := 5) (lo := 0) (hi := 0) (s := nB) (by decide) (by decide) i0 i0 (ci2.mono (hG2)) (ck.mono (hG2)) ok2.2.1) (fun v I' M' h x hx => by rw [h.2.1]; exact hx) ?_
            rintro v P3 N3 hP3 ⟨-, rfl, u2, rfl, d2⟩
            have hG3 : ∀ b o, L b = some o → P3 b = some o := fun b o h => hP3 _ _ (hG2 _ _ h)
            have hl2 := leaf10_spec (hTL.mono hG3) d2
            rw [ok2.2.2] at hl2
            refine PCallOb.mk _ hl2 ?_
            rintro v P4 N4 hP4 ⟨-, rfl, rfl⟩
            have hG4 : ∀ b o, L b = some o → P4 b = some o := fun b o h => hP4 _ _ (hG3 _ _ h)
            refine BinOb.neF (p := choF f h) (q := ⟨false, true, false⟩) ?_
            refine CondOb.mk (fun e => absurd e (by simp [choF, hz, hs, hff])) (fun _ => ?_)
            refine ArithOb.mk _ (next_wr (i := k) (by omega)) ?_
            exact ⟨(k + 1, P4), ⟨⟨by simp only; omega, fun b o h => hG4 _ _ (hL _ _ h)⟩, by simp only; omega⟩, .sub (.cons _ (.cons _ (.cons _ (.refl _)))) .refl, .cons .refl (.cons .refl (.cons .refl (.cons .refl (.cons .refl (.cons .refl .nil))))), .cons rfl (.cons rfl .nil)⟩
          · refine GuardOb.mk (fun _ => ?_) (fun e => absurd e (by simp [hz, hs, hff]))
            refine GuardOb.mk (fun _ => ?_) (fun e => absurd e (by simp [hz, hs, hff]))
            refine GuardOb.mk (fun e => absurd e (by simp [hz, hs, hff])) (fun _ => ?_)
            refine GuardOb.mk (fun _ => ?_) (fun e => absurd e (by simp [hz, hs, hff]))
            refine CodeOb.draw TrydEOK rfl rfl rfl ?_
            refine IdxOb.mk ⟨b8, 0, none⟩ i rfl rfl hlt ?_
            refine LoadOb.mk _ (rt _ _ i hti (.tail _ (.tail _ (.head _)))) ?_
            refine IdxOb.mk ⟨b8, 0, none⟩ k rfl rfl hkt ?_
            refine LoadOb.mk _ (rt _ _ k htk (.tail _ (.tail _ (.head _)))) ?_
            refine LoadOb.mk _ (blk_rd (b := b12) (cs := (seqF f h).cells) (k := 0) (n := 3) (T := 55) (.head _) (Nat.le_refl 3)) ?_
            refine AllocOb.mk fun a1 ha1 haM1 => ?_
            refine PCallOb.mkR [kidsBlk a1 [ts[i], ts[k]]] [⟨b12, .cells (seqF f h).cells.toArray 55 (0, 0)⟩, flRow b9 nWs, kidsBlk b8 ts] _ (.refl _) (of10_2 (k := 4) (lo := 0) (hi := 0) (s := nB) (by decide) (by decide) i0 i0 (ci2.mono (fun _ _ h => h)) (ck.mono (fun _ _ h => h)) ok2.1.1) (fun v I' M' h x hx => by rw [h.2.1]; exact hx) ?_
            rintro v P1 N1 hP1 ⟨-, rfl, u1, rfl, d1⟩
            have hG1 : ∀ b o, L b = some o → P1 b = some o := fun b o h => hP1 _ _ h
            have hl1 := leaf10_spec (hTL.mono hG1) d1
            rw [ok2.1.2] at hl1
            refine PCallOb.mk _ hl1 ?_
            rintro v P2 N2 hP2 ⟨-, rfl, rfl⟩
            have hG2 : ∀ b o, L b = some o → P2 b = some o := fun b o h => hP2 _ _ (hG1 _ _ h)
            refine BinOb.neF (p := seqF f h) (q := seqF f h) ?_
            refine GuardOb.mk (fun _ => ?_) (fun h => by simp at h)
            refine IdxOb.mk ⟨b8, 0, none⟩ i rfl rfl hlt ?_
            refine LoadOb.mk _ (rt _ _ i hti (.tail _ (.tail _ (.tail _ (.head _))))) ?_
            refine IdxOb.mk ⟨b8, 0, none⟩ k rfl rfl hkt ?_
            refine LoadOb.mk _ (rt _ _ k htk (.tail _ (.tail _ (.tail _ (.head _))))) ?_
            refine AllocOb.mk fun a2 ha2 haM2 => ?_
            refine PCallOb.mkR [kidsBlk a2 [ts[i], ts[k]]] [kidsBlk a1 [ts[i], ts[k]], ⟨b12, .cells (seqF f h).cells.toArray 55 (0, 0)⟩, flRow b9 nWs, kidsBlk b8 ts] _ (.refl _) (of10_2 (k := 5) (lo := 0) (hi := 0) (s := nB) (by decide) (by decide) i0 i0 (ci2.mono (hG2)) (ck.mono (hG2)) ok2.2.1) (fun v I' M' h x hx => by rw [h.2.1]; exact hx) ?_
            rintro v P3 N3 hP3 ⟨-, rfl, u2, rfl, d2⟩
            have hG3 : ∀ b o, L b = some o → P3 b = some o := fun b o h => hP3 _ _ (hG2 _ _ h)
            have hl2 := leaf10_spec (hTL.mono hG3) d2
            rw [ok2.2.2] at hl2
            refine PCallOb.mk _ hl2 ?_
            rintro v P4 N4 hP4 ⟨-, rfl, rfl⟩
            have hG4 : ∀ b o, L b = some o → P4 b = some o := fun b o h => hP4 _ _ (hG3 _ _ h)
            refine BinOb.neF (p := choF f h) (q := ⟨h.z, true, h.f⟩) ?_
            refine CondOb.mk (fun e => absurd e (by simp [choF, hz, hs, hff])) (fun _ => ?_)
            refine ArithOb.mk _ (next_wr (i := k) (by omega)) ?_
            exact ⟨(k + 1, P4), ⟨⟨by simp only; omega, fun b o h => hG4 _ _ (hL _ _ h)⟩, by simp only; omega⟩, .sub (.cons _ (.cons _ (.cons _ (.refl _)))) .refl, .cons .refl (.cons .refl (.cons .refl (.cons .refl (.cons .refl (.cons .refl .nil))))), .cons rfl (.cons rfl .nil)⟩
          · refine GuardOb.mk (fun e => absurd e (by simp [hz, hs, hff])) (fun _ => ?_)
            refine GuardOb.mk (fun _ => ?_) (fun e => absurd e (by simp [hz, hs, hff]))
            refine GuardOb.mk (fun e => absurd e (by simp [hz, hs, hff])) (fun _ => ?_)
            refine GuardOb.mk (fun e => absurd e (by simp [hz, hs, hff])) (fun _ => ?_)
            refine CodeOb.draw TrydEOK rfl rfl rfl ?_
            refine IdxOb.mk ⟨b8, 0, none⟩ i rfl rfl hlt ?_
            refine LoadOb.mk _ (rt _ _ i hti (.tail _ (.tail _ (.head _)))) ?_
            refine IdxOb.mk ⟨b8, 0, none⟩ k rfl rfl hkt ?_
            refine LoadOb.mk _ (rt _ _ k htk (.tail _ (.tail _ (.head _)))) ?_
            refine LoadOb.mk _ (blk_rd (b := b12) (cs := (seqF f h).cells) (k := 0) (n := 3) (T := 55) (.head _) (Nat.le_refl 3)) ?_
            refine AllocOb.mk fun a1 ha1 haM1 => ?_
            refine PCallOb.mkR [kidsBlk a1 [ts[i], ts[k]]] [⟨b12, .cells (seqF f h).cells.toArray 55 (0, 0)⟩, flRow b9 nWs, kidsBlk b8 ts] _ (.refl _) (of10_2 (k := 4) (lo := 0) (hi := 0) (s := nB) (by decide) (by decide) i0 i0 (ci2.mono (fun _ _ h => h)) (ck.mono (fun _ _ h => h)) ok2.1.1) (fun v I' M' h x hx => by rw [h.2.1]; exact hx) ?_
            rintro v P1 N1 hP1 ⟨-, rfl, u1, rfl, d1⟩
            have hG1 : ∀ b o, L b = some o → P1 b = some o := fun b o h => hP1 _ _ h
            have hl1 := leaf10_spec (hTL.mono hG1) d1
            rw [ok2.1.2] at hl1
            refine PCallOb.mk _ hl1 ?_
            rintro v P2 N2 hP2 ⟨-, rfl, rfl⟩
            have hG2 : ∀ b o, L b = some o → P2 b = some o := fun b o h => hP2 _ _ (hG1 _ _ h)
            refine BinOb.neF (p := seqF f h) (q := seqF f h) ?_
            refine GuardOb.mk (fun _ => ?_) (fun h => by simp at h)
            refine IdxOb.mk ⟨b8, 0, none⟩ i rfl rfl hlt ?_
            refine LoadOb.mk _ (rt _ _ i hti (.tail _ (.tail _ (.tail _ (.head _))))) ?_
            refine IdxOb.mk ⟨b8, 0, none⟩ k rfl rfl hkt ?_
            refine LoadOb.mk _ (rt _ _ k htk (.tail _ (.tail _ (.tail _ (.head _))))) ?_
            refine AllocOb.mk fun a2 ha2 haM2 => ?_
            refine PCallOb.mkR [kidsBlk a2 [ts[i], ts[k]]] [kidsBlk a1 [ts[i], ts[k]], ⟨b12, .cells (seqF f h).cells.toArray 55 (0, 0)⟩, flRow b9 nWs, kidsBlk b8 ts] _ (.refl _) (of10_2 (k := 5) (lo := 0) (hi := 0) (s := nB) (by decide) (by decide) i0 i0 (ci2.mono (hG2)) (ck.mono (hG2)) ok2.2.1) (fun v I' M' h x hx => by rw [h.2.1]; exact hx) ?_
            rintro v P3 N3 hP3 ⟨-, rfl, u2, rfl, d2⟩
            have hG3 : ∀ b o, L b = some o → P3 b = some o := fun b o h => hP3 _ _ (hG2 _ _ h)
            have hl2 := leaf10_spec (hTL.mono hG3) d2
            rw [ok2.2.2] at hl2
            refine PCallOb.mk _ hl2 ?_
            rintro v P4 N4 hP4 ⟨-, rfl, rfl⟩
            have hG4 : ∀ b o, L b = some o → P4 b = some o := fun b o h => hP4 _ _ (hG3 _ _ h)
            refine BinOb.neF (p := choF f h) (q := ⟨true, false, false⟩) ?_
            refine CondOb.mk (fun e => absurd e (by simp [choF, hz, hs, hff])) (fun _ => ?_)
            refine ArithOb.mk _ (next_wr (i := k) (by omega)) ?_
            exact ⟨(k + 1, P4), ⟨⟨by simp only; omega, fun b o h => hG4 _ _ (hL _ _ h)⟩, by simp only; omega⟩, .sub (.cons _ (.cons _ (.cons _ (.refl _)))) .refl, .cons .refl (.cons .refl (.cons .refl (.cons .refl (.cons .refl (.cons .refl .nil))))), .cons rfl (.cons rfl .nil)⟩
          · refine GuardOb.mk (fun e => absurd e (by simp [hz, hs, hff])) (fun _ => ?_)
            refine GuardOb.mk (fun _ => ?_) (fun e => absurd e (by simp [hz, hs, hff]))
            refine GuardOb.mk (fun _ => ?_) (fun e => absurd e (by simp [hz, hs, hff]))
            refine GuardOb.mk (fun _ => ?_) (fun e => absurd e (by simp [hz, hs, hff]))
            refine CodeOb.draw TrydEOK rfl rfl rfl ?_
            refine IdxOb.mk ⟨b8, 0, none⟩ i rfl rfl hlt ?_
            refine LoadOb.mk _ (rt _ _ i hti (.tail _ (.tail _ (.head _)))) ?_
            refine IdxOb.mk ⟨b8, 0, none⟩ k rfl rfl hkt ?_
            refine LoadOb.mk _ (rt _ _ k htk (.tail _ (.tail _ (.head _)))) ?_
            refine LoadOb.mk _ (blk_rd (b := b12) (cs := (seqF f h).cells) (k := 0) (n := 3) (T := 55) (.head _) (Nat.le_refl 3)) ?_
            refine AllocOb.mk fun a1 ha1 haM1 => ?_
            refine PCallOb.mkR [kidsBlk a1 [ts[i], ts[k]]] [⟨b12, .cells (seqF f h).cells.toArray 55 (0, 0)⟩, flRow b9 nWs, kidsBlk b8 ts] _ (.refl _) (of10_2 (k := 4) (lo := 0) (hi := 0) (s := nB) (by decide) (by decide) i0 i0 (ci2.mono (fun _ _ h => h)) (ck.mono (fun _ _ h => h)) ok2.1.1) (fun v I' M' h x hx => by rw [h.2.1]; exact hx) ?_
            rintro v P1 N1 hP1 ⟨-, rfl, u1, rfl, d1⟩
            have hG1 : ∀ b o, L b = some o → P1 b = some o := fun b o h => hP1 _ _ h
            have hl1 := leaf10_spec (hTL.mono hG1) d1
            rw [ok2.1.2] at hl1
            refine PCallOb.mk _ hl1 ?_
            rintro v P2 N2 hP2 ⟨-, rfl, rfl⟩
            have hG2 : ∀ b o, L b = some o → P2 b = some o := fun b o h => hP2 _ _ (hG1 _ _ h)
            refine BinOb.neF (p := seqF f h) (q := seqF f h) ?_
            refine GuardOb.mk (fun _ => ?_) (fun h => by simp at h)
            refine IdxOb.mk ⟨b8, 0, none⟩ i rfl rfl hlt ?_
            refine LoadOb.mk _ (rt _ _ i hti (.tail _ (.tail _ (.tail _ (.head _))))) ?_
            refine IdxOb.mk ⟨b8, 0, none⟩ k rfl rfl hkt ?_
            refine LoadOb.mk _ (rt _ _ k htk (.tail _ (.tail _ (.tail _ (.head _))))) ?_
            refine AllocOb.mk fun a2 ha2 haM2 => ?_
            refine PCallOb.mkR [kidsBlk a2 [ts[i], ts[k]]] [kidsBlk a1 [ts[i], ts[k]], ⟨b12, .cells (seqF f h).cells.toArray 55 (0, 0)⟩, flRow b9 nWs, kidsBlk b8 ts] _ (.refl _) (of10_2 (k := 5) (lo := 0) (hi := 0) (s := nB) (by decide) (by decide) i0 i0 (ci2.mono (hG2)) (ck.mono (hG2)) ok2.2.1) (fun v I' M' h x hx => by rw [h.2.1]; exact hx) ?_
            rintro v P3 N3 hP3 ⟨-, rfl, u2, rfl, d2⟩
            have hG3 : ∀ b o, L b = some o → P3 b = some o := fun b o h => hP3 _ _ (hG2 _ _ h)
            have hl2 := leaf10_spec (hTL.mono hG3) d2
            rw [ok2.2.2] at hl2
            refine PCallOb.mk _ hl2 ?_
            rintro v P4 N4 hP4 ⟨-, rfl, rfl⟩
            have hG4 : ∀ b o, L b = some o → P4 b = some o := fun b o h => hP4 _ _ (hG3 _ _ h)
            refine BinOb.neF (p := choF f h) (q := ⟨true, h.s, h.f⟩) ?_
            refine CondOb.mk (fun e => absurd e (by simp [choF, hz, hs, hff])) (fun _ => ?_)
            refine ArithOb.mk _ (next_wr (i := k) (by omega)) ?_
            exact ⟨(k + 1, P4), ⟨⟨by simp only; omega, fun b o h => hG4 _ _ (hL _ _ h)⟩, by simp only; omega⟩, .sub (.cons _ (.cons _ (.cons _ (.refl _)))) .refl, .cons .refl (.cons .refl (.cons .refl (.cons .refl (.cons .refl (.cons .refl .nil))))), .cons rfl (.cons rfl .nil)⟩
          · refine GuardOb.mk (fun e => absurd e (by simp [hz, hs, hff])) (fun _ => ?_)
            refine GuardOb.mk (fun e => absurd e (by simp [hz, hs, hff])) (fun _ => ?_)
            refine GuardOb.mk (fun e => absurd e (by simp [hz, hs, hff])) (fun _ => ?_)
            refine CodeOb.draw TrydEOK rfl rfl rfl ?_
            refine IdxOb.mk ⟨b8, 0, none⟩ i rfl rfl hlt ?_
            refine LoadOb.mk _ (rt _ _ i hti (.tail _ (.tail _ (.head _)))) ?_
            refine IdxOb.mk ⟨b8, 0, none⟩ k rfl rfl hkt ?_
            refine LoadOb.mk _ (rt _ _ k htk (.tail _ (.tail _ (.head _)))) ?_
            refine LoadOb.mk _ (blk_rd (b := b12) (cs := (seqF f h).cells) (k := 0) (n := 3) (T := 55) (.head _) (Nat.le_refl 3)) ?_
            refine AllocOb.mk fun a1 ha1 haM1 => ?_
            refine PCallOb.mkR [kidsBlk a1 [ts[i], ts[k]]] [⟨b12, .cells (seqF f h).cells.toArray 55 (0, 0)⟩, flRow b9 nWs, kidsBlk b8 ts] _ (.refl _) (of10_2 (k := 4) (lo := 0) (hi := 0) (s := nB) (by decide) (by decide) i0 i0 (ci2.mono (fun _ _ h => h)) (ck.mono (fun _ _ h => h)) ok2.1.1) (fun v I' M' h x hx => by rw [h.2.1]; exact hx) ?_
            rintro v P1 N1 hP1 ⟨-, rfl, u1, rfl, d1⟩
            have hG1 : ∀ b o, L b = some o → P1 b = some o := fun b o h => hP1 _ _ h
            have hl1 := leaf10_spec (hTL.mono hG1) d1
            rw [ok2.1.2] at hl1
            refine PCallOb.mk _ hl1 ?_
            rintro v P2 N2 hP2 ⟨-, rfl, rfl⟩
            have hG2 : ∀ b o, L b = some o → P2 b = some o := fun b o h => hP2 _ _ (hG1 _ _ h)
            refine BinOb.neF (p := seqF f h) (q := seqF f h) ?_
            refine GuardOb.mk (fun _ => ?_) (fun h => by simp at h)
            refine IdxOb.mk ⟨b8, 0, none⟩ i rfl rfl hlt ?_
            refine LoadOb.mk _ (rt _ _ i hti (.tail _ (.tail _ (.tail _ (.head _))))) ?_
            refine IdxOb.mk ⟨b8, 0, none⟩ k rfl rfl hkt ?_
            refine LoadOb.mk _ (rt _ _ k htk (.tail _ (.tail _ (.tail _ (.head _))))) ?_
            refine AllocOb.mk fun a2 ha2 haM2 => ?_
            refine PCallOb.mkR [kidsBlk a2 [ts[i], ts[k]]] [kidsBlk a1 [ts[i], ts[k]], ⟨b12, .cells (seqF f h).cells.toArray 55 (0, 0)⟩, flRow b9 nWs, kidsBlk b8 ts] _ (.refl _) (of10_2 (k := 5) (lo := 0) (hi := 0) (s := nB) (by decide) (by decide) i0 i0 (ci2.mono (hG2)) (ck.mono (hG2)) ok2.2.1) (fun v I' M' h x hx => by rw [h.2.1]; exact hx) ?_
            rintro v P3 N3 hP3 ⟨-, rfl, u2, rfl, d2⟩
            have hG3 : ∀ b o, L b = some o → P3 b = some o := fun b o h => hP3 _ _ (hG2 _ _ h)
            have hl2 := leaf10_spec (hTL.mono hG3) d2
            rw [ok2.2.2] at hl2
            refine PCallOb.mk _ hl2 ?_
            rintro v P4 N4 hP4 ⟨-, rfl, rfl⟩
            have hG4 : ∀ b o, L b = some o → P4 b = some o := fun b o h => hP4 _ _ (hG3 _ _ h)
            refine BinOb.neF (p := choF f h) (q := ⟨true, true, false⟩) ?_
            refine CondOb.mk (fun e => absurd e (by simp [choF, hz, hs, hff])) (fun _ => ?_)
            refine ArithOb.mk _ (next_wr (i := k) (by omega)) ?_
            exact ⟨(k + 1, P4), ⟨⟨by simp only; omega, fun b o h => hG4 _ _ (hL _ _ h)⟩, by simp only; omega⟩, .sub (.cons _ (.cons _ (.cons _ (.refl _)))) .refl, .cons .refl (.cons .refl (.cons .refl (.cons .refl (.cons .refl (.cons .refl .nil))))), .cons rfl (.cons rfl .nil)⟩
          · refine GuardOb.mk (fun e => absurd e (by simp [hz, hs, hff])) (fun _ => ?_)
            refine GuardOb.mk (fun e => absurd e (by simp [hz, hs, hff])) (fun _ => ?_)
            refine GuardOb.mk (fun _ => ?_) (fun e => absurd e (by simp [hz, hs, hff]))
            refine CodeOb.draw TrydEOK rfl rfl rfl ?_
            refine IdxOb.mk ⟨b8, 0, none⟩ i rfl rfl hlt ?_
            refine LoadOb.mk _ (rt _ _ i hti (.tail _ (.tail _ (.head _)))) ?_
            refine IdxOb.mk ⟨b8, 0, none⟩ k rfl rfl hkt ?_
            refine LoadOb.mk _ (rt _ _ k htk (.tail _ (.tail _ (.head _)))) ?_
            refine LoadOb.mk _ (blk_rd (b := b12) (cs := (seqF f h).cells) (k := 0) (n := 3) (T := 55) (.head _) (Nat.le_refl 3)) ?_
            refine AllocOb.mk fun a1 ha1 haM1 => ?_
            refine PCallOb.mkR [kidsBlk a1 [ts[i], ts[k]]] [⟨b12, .cells (seqF f h).cells.toArray 55 (0, 0)⟩, flRow b9 nWs, kidsBlk b8 ts] _ (.refl _) (of10_2 (k := 4) (lo := 0) (hi := 0) (s := nB) (by decide) (by decide) i0 i0 (ci2.mono (fun _ _ h => h)) (ck.mono (fun _ _ h => h)) ok2.1.1) (fun v I' M' h x hx => by rw [h.2.1]; exact hx) ?_
            rintro v P1 N1 hP1 ⟨-, rfl, u1, rfl, d1⟩
            have hG1 : ∀ b o, L b = some o → P1 b = some o := fun b o h => hP1 _ _ h
            have hl1 := leaf10_spec (hTL.mono hG1) d1
            rw [ok2.1.2] at hl1
            refine PCallOb.mk _ hl1 ?_
            rintro v P2 N2 hP2 ⟨-, rfl, rfl⟩
            have hG2 : ∀ b o, L b = some o → P2 b = some o := fun b o h => hP2 _ _ (hG1 _ _ h)
            refine BinOb.neF (p := seqF f h) (q := seqF f h) ?_
            refine GuardOb.mk (fun _ => ?_) (fun h => by simp at h)
            refine IdxOb.mk ⟨b8, 0, none⟩ i rfl rfl hlt ?_
            refine LoadOb.mk _ (rt _ _ i hti (.tail _ (.tail _ (.tail _ (.head _))))) ?_
            refine IdxOb.mk ⟨b8, 0, none⟩ k rfl rfl hkt ?_
            refine LoadOb.mk _ (rt _ _ k htk (.tail _ (.tail _ (.tail _ (.head _))))) ?_
            refine AllocOb.mk fun a2 ha2 haM2 => ?_
            refine PCallOb.mkR [kidsBlk a2 [ts[i], ts[k]]] [kidsBlk a1 [ts[i], ts[k]], ⟨b12, .cells (seqF f h).cells.toArray 55 (0, 0)⟩, flRow b9 nWs, kidsBlk b8 ts] _ (.refl _) (of10_2 (k := 5) (lo := 0) (hi := 0) (s := nB) (by decide) (by decide) i0 i0 (ci2.mono (hG2)) (ck.mono (hG2)) ok2.2.1) (fun v I' M' h x hx => by rw [h.2.1]; exact hx) ?_
            rintro v P3 N3 hP3 ⟨-, rfl, u2, rfl, d2⟩
            have hG3 : ∀ b o, L b = some o → P3 b = some o := fun b o h => hP3 _ _ (hG2 _ _ h)
            have hl2 := leaf10_spec (hTL.mono hG3) d2
            rw [ok2.2.2] at hl2
            refine PCallOb.mk _ hl2 ?_
            rintro v P4 N4 hP4 ⟨-, rfl, rfl⟩
            have hG4 : ∀ b o, L b = some o → P4 b = some o := fun b o h => hP4 _ _ (hG3 _ _ h)
            refine BinOb.neF (p := choF f h) (q := ⟨true, true, h.f⟩) ?_
            refine CondOb.mk (fun e => absurd e (by simp [choF, hz, hs, hff])) (fun _ => ?_)
            refine ArithOb.mk _ (next_wr (i := k) (by omega)) ?_
            exact ⟨(k + 1, P4), ⟨⟨by simp only; omega, fun b o h => hG4 _ _ (hL _ _ h)⟩, by simp only; omega⟩, .sub (.cons _ (.cons _ (.cons _ (.refl _)))) .refl, .cons .refl (.cons .refl (.cons .refl (.cons .refl (.cons .refl (.cons .refl .nil))))), .cons rfl (.cons rfl .nil)⟩
          -- END PAIRS
        clear ok2 rfL ck
        cases hz : f.z <;> cases hs : f.s <;> cases hff : f.f
        -- WAYS
        · have hsu : f.suc = false := by simp [Fl.suc, hz, hs]
          refine GuardOb.mk (fun e => absurd e (by simp [hsu, hz, hs, hff])) (fun _ => ?_)
          refine And.intro ?_ ?_
          · refine PCallOb.mk _ (Suc_spec (M := []) f) ?_
            rintro v JS NS - ⟨rfl, rfl, rfl⟩
            refine GuardOb.mk (fun e => absurd e (by simp [hsu, hz, hs, hff])) (fun _ => ?_)
            refine And.intro ?_ ?_
            · refine GuardOb.mk (fun _ => ?_) (fun e => absurd e (by simp [hsu, hz, hs, hff]))
              refine And.intro ?_ ?_
              · refine PCallOb.mk _ (Suc_spec (M := []) f) ?_
                rintro v JS NS - ⟨rfl, rfl, rfl⟩
                refine GuardOb.mk (fun e => absurd e (by simp [hsu, hz, hs, hff])) (fun _ => ?_)
                refine AllocOb.mk fun b12 hb12 hbM12 => ?_
                refine StoreOb.mk [] [flRow b9 nWs, kidsBlk b8 ts] _ _ rfl rfl (Nat.le_of_ble_eq_true rfl) rfl ?_
                refine ⟨_, trivial, Wk.ofEq ?_, .cons .refl (.cons .refl (.cons .refl (.cons .refl (.cons .refl (.cons .refl (.cons .refl (.cons .refl .nil))))))), .cons rfl (.cons rfl (.cons rfl .nil))⟩
                exact seqLeaf (by simp [seqF, hsu, hz, hs, hff]) (by simp [seqF, hsu, hz, hs, hff]) (by simp [seqF, hsu, hz, hs, hff])
              refine AllocOb.mk fun b12 hb12 hbM12 => ?_
              refine PCallOb.mk _ (Suc_spec (M := []) f) ?_
              rintro v JS NS - ⟨rfl, rfl, rfl⟩
              refine GuardOb.mk (fun e => absurd e (by simp [hsu, hz, hs, hff])) (fun _ => ?_)
              refine StoreOb.mk [] [flRow b9 nWs, kidsBlk b8 ts] _ _ rfl rfl (Nat.le_of_ble_eq_true rfl) rfl ?_
              refine ⟨_, trivial, Wk.ofEq ?_, .cons .refl (.cons .refl (.cons .refl (.cons .refl (.cons .refl (.cons .refl (.cons .refl (.cons .refl .nil))))))), .cons rfl (.cons rfl (.cons rfl .nil))⟩
              exact seqLeaf (by simp [seqF, hsu, hz, hs, hff]) (by simp [seqF, hsu, hz, hs, hff]) (by simp [seqF, hsu, hz, hs, hff])
            refine AllocOb.mk fun b12 hb12 hbM12 => ?_
            refine GuardOb.mk (fun _ => ?_) (fun e => absurd e (by simp [hsu, hz, hs, hff]))
            refine PCallOb.mk _ (Suc_spec (M := []) f) ?_
            rintro v JS NS - ⟨rfl, rfl, rfl⟩
            refine GuardOb.mk (fun e => absurd e (by simp [hsu, hz, hs, hff])) (fun _ => ?_)
            refine StoreOb.mk [] [flRow b9 nWs, kidsBlk b8 ts] _ _ rfl rfl (Nat.le_of_ble_eq_true rfl) rfl ?_
            refine ⟨_, trivial, Wk.ofEq ?_, .cons .refl (.cons .refl (.cons .refl (.cons .refl (.cons .refl (.cons .refl (.cons .refl (.cons .refl .nil))))))), .cons rfl (.cons rfl (.cons rfl .nil))⟩
            exact seqLeaf (by simp [seqF, hsu, hz, hs, hff]) (by simp [seqF, hsu, hz, hs, hff]) (by simp [seqF, hsu, hz, hs, hff])
          refine AllocOb.mk fun b12 hb12 hbM12 => ?_
          refine PCallOb.mk _ (Suc_spec (M := []) f) ?_
          rintro v JS NS - ⟨rfl, rfl, rfl⟩
          refine GuardOb.mk (fun e => absurd e (by simp [hsu, hz, hs, hff])) (fun _ => ?_)
          refine GuardOb.mk (fun _ => ?_) (fun e => absurd e (by simp [hsu, hz, hs, hff]))
          refine PCallOb.mk _ (Suc_spec (M := []) f) ?_
          rintro v JS NS - ⟨rfl, rfl, rfl⟩
          refine GuardOb.mk (fun e => absurd e (by simp [hsu, hz, hs, hff])) (fun _ => ?_)
          refine StoreOb.mk [] [flRow b9 nWs, kidsBlk b8 ts] _ _ rfl rfl (Nat.le_of_ble_eq_true rfl) rfl ?_
          refine ⟨_, trivial, Wk.ofEq ?_, .cons .refl (.cons .refl (.cons .refl (.cons .refl (.cons .refl (.cons .refl (.cons .refl (.cons .refl .nil))))))), .cons rfl (.cons rfl (.cons rfl .nil))⟩
          exact seqLeaf (by simp [seqF, hsu, hz, hs, hff]) (by simp [seqF, hsu, hz, hs, hff]) (by simp [seqF, hsu, hz, hs, hff])
        · have hsu : f.suc = false := by simp [Fl.suc, hz, hs]
          refine GuardOb.mk (fun e => absurd e (by simp [hsu, hz, hs, hff])) (fun _ => ?_)
          refine And.intro ?_ ?_
          · refine PCallOb.mk _ (Suc_spec (M := []) f) ?_
            rintro v JS NS - ⟨rfl, rfl, rfl⟩
            refine GuardOb.mk (fun e => absurd e (by simp [hsu, hz, hs, hff])) (fun _ => ?_)
            refine And.intro ?_ ?_
            · refine GuardOb.mk (fun e => absurd e (by simp [hsu, hz, hs, hff])) (fun _ => ?_)
              refine And.intro ?_ ?_
              · refine AllocOb.mk fun b12 hb12 hbM12 => ?_
                refine StoreOb.mk [] [flRow b9 nWs, kidsBlk b8 ts] _ _ rfl rfl (Nat.le_of_ble_eq_true rfl) rfl ?_
                refine ⟨_, trivial, Wk.ofEq ?_, .cons .refl (.cons .refl (.cons .refl (.cons .refl (.cons .refl (.cons .refl (.cons .refl (.cons .refl .nil))))))), .cons rfl (.cons rfl (.cons rfl .nil))⟩
                exact seqLeaf (by simp [seqF, hsu, hz, hs, hff]) (by simp [seqF, hsu, hz, hs, hff]) (by simp [seqF, hsu, hz, hs, hff])
              refine AllocOb.mk fun b12 hb12 hbM12 => ?_
              refine StoreOb.mk [] [flRow b9 nWs, kidsBlk b8 ts] _ _ rfl rfl (Nat.le_of_ble_eq_true rfl) rfl ?_
              refine ⟨_, trivial, Wk.ofEq ?_, .cons .refl (.cons .refl (.cons .refl (.cons .refl (.cons .refl (.cons .refl (.cons .refl (.cons .refl .nil))))))), .cons rfl (.cons rfl (.cons rfl .nil))⟩
              exact seqLeaf (by simp [seqF, hsu, hz, hs, hff]) (by simp [seqF, hsu, hz, hs, hff]) (by simp [seqF, hsu, hz, hs, hff])
            refine AllocOb.mk fun b12 hb12 hbM12 => ?_
            refine GuardOb.mk (fun e => absurd e (by simp [hsu, hz, hs, hff])) (fun _ => ?_)
            refine StoreOb.mk [] [flRow b9 nWs, kidsBlk b8 ts] _ _ rfl rfl (Nat.le_of_ble_eq_true rfl) rfl ?_
            refine ⟨_, trivial, Wk.ofEq ?_, .cons .refl (.cons .refl (.cons .refl (.cons .refl (.cons .refl (.cons .refl (.cons .refl (.cons .refl .nil))))))), .cons rfl (.cons rfl (.cons rfl .nil))⟩
            exact seqLeaf (by simp [seqF, hsu, hz, hs, hff]) (by simp [seqF, hsu, hz, hs, hff]) (by simp [seqF, hsu, hz, hs, hff])
          refine AllocOb.mk fun b12 hb12 hbM12 => ?_
          refine PCallOb.mk _ (Suc_spec (M := []) f) ?_
          rintro v JS NS - ⟨rfl, rfl, rfl⟩
          refine GuardOb.mk (fun e => absurd e (by simp [hsu, hz, hs, hff])) (fun _ => ?_)
          refine GuardOb.mk (fun e => absurd e (by simp [hsu, hz, hs, hff])) (fun _ => ?_)
          refine StoreOb.mk [] [flRow b9 nWs, kidsBlk b8 ts] _ _ rfl rfl (Nat.le_of_ble_eq_true rfl) rfl ?_
          refine ⟨_, trivial, Wk.ofEq ?_, .cons .refl (.cons .refl (.cons .refl (.cons .refl (.cons .refl (.cons .refl (.cons .refl (.cons .refl .nil))))))), .cons rfl (.cons rfl (.cons rfl .nil))⟩
          exact seqLeaf (by simp [seqF, hsu, hz, hs, hff]) (by simp [seqF, hsu, hz, hs, hff]) (by simp [seqF, hsu, hz, hs, hff])
        · have hsu : f.suc = true := by simp [Fl.suc, hz, hs]
          refine GuardOb.mk (fun e => absurd e (by simp [hsu, hz, hs, hff])) (fun _ => ?_)
          refine And.intro ?_ ?_
          · refine PCallOb.mk _ (Suc_spec (M := []) f) ?_
            rintro v JS NS - ⟨rfl, rfl, rfl⟩
            refine GuardOb.mk (fun _ => ?_) (fun e => absurd e (by simp [hsu, hz, hs, hff]))
            refine And.intro ?_ ?_
            · refine PCallOb.mk _ (Suc_spec (M := []) h) ?_
              rintro v JS NS - ⟨rfl, rfl, rfl⟩
              refine GuardOb.mk (fun e1 => ?_) (fun e1 => ?_)
              · refine GuardOb.mk (fun e => absurd e (by simp [hsu, hz, hs, hff, e1])) (fun _ => ?_)
                refine GuardOb.mk (fun _ => ?_) (fun e => absurd e (by simp [hsu, hz, hs, hff, e1]))
                refine And.intro ?_ ?_
                · refine PCallOb.mk _ (Suc_spec (M := []) f) ?_
                  rintro v JS NS - ⟨rfl, rfl, rfl⟩
                  refine GuardOb.mk (fun _ => ?_) (fun e => absurd e (by simp [hsu, hz, hs, hff, e1]))
                  refine AllocOb.mk fun b12 hb12 hbM12 => ?_
                  refine StoreOb.mk [] [flRow b9 nWs, kidsBlk b8 ts] _ _ rfl rfl (Nat.le_of_ble_eq_true rfl) rfl ?_
                  refine ⟨_, trivial, Wk.ofEq ?_, .cons .refl (.cons .refl (.cons .refl (.cons .refl (.cons .refl (.cons .refl (.cons .refl (.cons .refl .nil))))))), .cons rfl (.cons rfl (.cons rfl .nil))⟩
                  exact seqLeaf (by simp [seqF, hsu, hz, hs, hff, e1]) (by simp [seqF, hsu, hz, hs, hff, e1]) (by simp [seqF, hsu, hz, hs, hff, e1])
                refine AllocOb.mk fun b12 hb12 hbM12 => ?_
                refine PCallOb.mk _ (Suc_spec (M := []) f) ?_
                rintro v JS NS - ⟨rfl, rfl, rfl⟩
                refine GuardOb.mk (fun _ => ?_) (fun e => absurd e (by simp [hsu, hz, hs, hff, e1]))
                refine StoreOb.mk [] [flRow b9 nWs, kidsBlk b8 ts] _ _ rfl rfl (Nat.le_of_ble_eq_true rfl) rfl ?_
                refine ⟨_, trivial, Wk.ofEq ?_, .cons .refl (.cons .refl (.cons .refl (.cons .refl (.cons .refl (.cons .refl (.cons .refl (.cons .refl .nil))))))), .cons rfl (.cons rfl (.cons rfl .nil))⟩
                exact seqLeaf (by simp [seqF, hsu, hz, hs, hff, e1]) (by simp [seqF, hsu, hz, hs, hff, e1]) (by simp [seqF, hsu, hz, hs, hff, e1])
              · refine GuardOb.mk (fun _ => ?_) (fun e => absurd e (by simp [hsu, hz, hs, hff, e1]))
                refine And.intro ?_ ?_
                · refine PCallOb.mk _ (Suc_spec (M := []) f) ?_
                  rintro v JS NS - ⟨rfl, rfl, rfl⟩
                  refine GuardOb.mk (fun _ => ?_) (fun e => absurd e (by simp [hsu, hz, hs, hff, e1]))
                  refine AllocOb.mk fun b12 hb12 hbM12 => ?_
                  refine StoreOb.mk [] [flRow b9 nWs, kidsBlk b8 ts] _ _ rfl rfl (Nat.le_of_ble_eq_true rfl) rfl ?_
                  refine ⟨_, trivial, Wk.ofEq ?_, .cons .refl (.cons .refl (.cons .refl (.cons .refl (.cons .refl (.cons .refl (.cons .refl (.cons .refl .nil))))))), .cons rfl (.cons rfl (.cons rfl .nil))⟩
                  exact seqLeaf (by simp [seqF, hsu, hz, hs, hff, e1]) (by simp [seqF, hsu, hz, hs, hff, e1]) (by simp [seqF, hsu, hz, hs, hff, e1])
                refine AllocOb.mk fun b12 hb12 hbM12 => ?_
                refine PCallOb.mk _ (Suc_spec (M := []) f) ?_
                rintro v JS NS - ⟨rfl, rfl, rfl⟩
                refine GuardOb.mk (fun _ => ?_) (fun e => absurd e (by simp [hsu, hz, hs, hff, e1]))
                refine StoreOb.mk [] [flRow b9 nWs, kidsBlk b8 ts] _ _ rfl rfl (Nat.le_of_ble_eq_true rfl) rfl ?_
                refine ⟨_, trivial, Wk.ofEq ?_, .cons .refl (.cons .refl (.cons .refl (.cons .refl (.cons .refl (.cons .refl (.cons .refl (.cons .refl .nil))))))), .cons rfl (.cons rfl (.cons rfl .nil))⟩
                exact seqLeaf (by simp [seqF, hsu, hz, hs, hff, e1]) (by simp [seqF, hsu, hz, hs, hff, e1]) (by simp [seqF, hsu, hz, hs, hff, e1])
            refine AllocOb.mk fun b12 hb12 hbM12 => ?_
            refine PCallOb.mk _ (Suc_spec (M := []) h) ?_
            rintro v JS NS - ⟨rfl, rfl, rfl⟩
            refine GuardOb.mk (fun e2 => ?_) (fun e2 => ?_)
            · refine GuardOb.mk (fun e => absurd e (by simp [hsu, hz, hs, hff, e2])) (fun _ => ?_)
              refine GuardOb.mk (fun _ => ?_) (fun e => absurd e (by simp [hsu, hz, hs, hff, e2]))
              refine PCallOb.mk _ (Suc_spec (M := []) f) ?_
              rintro v JS NS - ⟨rfl, rfl, rfl⟩
              refine GuardOb.mk (fun _ => ?_) (fun e => absurd e (by simp [hsu, hz, hs, hff, e2]))
              refine StoreOb.mk [] [flRow b9 nWs, kidsBlk b8 ts] _ _ rfl rfl (Nat.le_of_ble_eq_true rfl) rfl ?_
              refine ⟨_, trivial, Wk.ofEq ?_, .cons .refl (.cons .refl (.cons .refl (.cons .refl (.cons .refl (.cons .refl (.cons .refl (.cons .refl .nil))))))), .cons rfl (.cons rfl (.cons rfl .nil))⟩
              exact seqLeaf (by simp [seqF, hsu, hz, hs, hff, e2]) (by simp [seqF, hsu, hz, hs, hff, e2]) (by simp [seqF, hsu, hz, hs, hff, e2])
            · refine GuardOb.mk (fun _ => ?_) (fun e => absurd e (by simp [hsu, hz, hs, hff, e2]))
              refine PCallOb.mk _ (Suc_spec (M := []) f) ?_
              rintro v JS NS - ⟨rfl, rfl, rfl⟩
              refine GuardOb.mk (fun _ => ?_) (fun e => absurd e (by simp [hsu, hz, hs, hff, e2]))
              refine StoreOb.mk [] [flRow b9 nWs, kidsBlk b8 ts] _ _ rfl rfl (Nat.le_of_ble_eq_true rfl) rfl ?_
              refine ⟨_, trivial, Wk.ofEq ?_, .cons .refl (.cons .refl (.cons .refl (.cons .refl (.cons .refl (.cons .refl (.cons .refl (.cons .refl .nil))))))), .cons rfl (.cons rfl (.cons rfl .nil))⟩
              exact seqLeaf (by simp [seqF, hsu, hz, hs, hff, e2]) (by simp [seqF, hsu, hz, hs, hff, e2]) (by simp [seqF, hsu, hz, hs, hff, e2])
          refine AllocOb.mk fun b12 hb12 hbM12 => ?_
          refine PCallOb.mk _ (Suc_spec (M := []) f) ?_
          rintro v JS NS - ⟨rfl, rfl, rfl⟩
          refine GuardOb.mk (fun _ => ?_) (fun e => absurd e (by simp [hsu, hz, hs, hff]))
          refine PCallOb.mk _ (Suc_spec (M := []) h) ?_
          rintro v JS NS - ⟨rfl, rfl, rfl⟩
          refine GuardOb.mk (fun e3 => ?_) (fun e3 => ?_)
          · refine GuardOb.mk (fun e => absurd e (by simp [hsu, hz, hs, hff, e3])) (fun _ => ?_)
            refine GuardOb.mk (fun _ => ?_) (fun e => absurd e (by simp [hsu, hz, hs, hff, e3]))
            refine PCallOb.mk _ (Suc_spec (M := []) f) ?_
            rintro v JS NS - ⟨rfl, rfl, rfl⟩
            refine GuardOb.mk (fun _ => ?_) (fun e => absurd e (by simp [hsu, hz, hs, hff, e3]))
            refine StoreOb.mk [] [flRow b9 nWs, kidsBlk b8 ts] _ _ rfl rfl (Nat.le_of_ble_eq_true rfl) rfl ?_
            refine ⟨_, trivial, Wk.ofEq ?_, .cons .refl (.cons .refl (.cons .refl (.cons .refl (.cons .refl (.cons .refl (.cons .refl (.cons .refl .nil))))))), .cons rfl (.cons rfl (.cons rfl .nil))⟩
            exact seqLeaf (by simp [seqF, hsu, hz, hs, hff, e3]) (by simp [seqF, hsu, hz, hs, hff, e3]) (by simp [seqF, hsu, hz, hs, hff, e3])
          · refine GuardOb.mk (fun _ => ?_) (fun e => absurd e (by simp [hsu, hz, hs, hff, e3]))
            refine PCallOb.mk _ (Suc_spec (M := []) f) ?_
            rintro v JS NS - ⟨rfl, rfl, rfl⟩
            refine GuardOb.mk (fun _ => ?_) (fun e => absurd e (by simp [hsu, hz, hs, hff, e3]))
            refine StoreOb.mk [] [flRow b9 nWs, kidsBlk b8 ts] _ _ rfl rfl (Nat.le_of_ble_eq_true rfl) rfl ?_
            refine ⟨_, trivial, Wk.ofEq ?_, .cons .refl (.cons .refl (.cons .refl (.cons .refl (.cons .refl (.cons .refl (.cons .refl (.cons .refl .nil))))))), .cons rfl (.cons rfl (.cons rfl .nil))⟩
            exact seqLeaf (by simp [seqF, hsu, hz, hs, hff, e3]) (by simp [seqF, hsu, hz, hs, hff, e3]) (by simp [seqF, hsu, hz, hs, hff, e3])
        · have hsu : f.suc = true := by simp [Fl.suc, hz, hs]
          refine GuardOb.mk (fun e => absurd e (by simp [hsu, hz, hs, hff])) (fun _ => ?_)
          refine And.intro ?_ ?_
          · refine PCallOb.mk _ (Suc_spec (M := []) f) ?_
            rintro v JS NS - ⟨rfl, rfl, rfl⟩
            refine GuardOb.mk (fun _ => ?_) (fun e => absurd e (by simp [hsu, hz, hs, hff]))
            refine And.intro ?_ ?_
            · refine PCallOb.mk _ (Suc_spec (M := []) h) ?_
              rintro v JS NS - ⟨rfl, rfl, rfl⟩
              refine GuardOb.mk (fun e4 => ?_) (fun e4 => ?_)
              · refine GuardOb.mk (fun e => absurd e (by simp [hsu, hz, hs, hff, e4])) (fun _ => ?_)
                refine GuardOb.mk (fun e => absurd e (by simp [hsu, hz, hs, hff, e4])) (fun _ => ?_)
                refine And.intro ?_ ?_
                · refine AllocOb.mk fun b12 hb12 hbM12 => ?_
                  refine StoreOb.mk [] [flRow b9 nWs, kidsBlk b8 ts] _ _ rfl rfl (Nat.le_of_ble_eq_true rfl) rfl ?_
                  refine ⟨_, trivial, Wk.ofEq ?_, .cons .refl (.cons .refl (.cons .refl (.cons .refl (.cons .refl (.cons .refl (.cons .refl (.cons .refl .nil))))))), .cons rfl (.cons rfl (.cons rfl .nil))⟩
                  exact seqLeaf (by simp [seqF, hsu, hz, hs, hff, e4]) (by simp [seqF, hsu, hz, hs, hff, e4]) (by simp [seqF, hsu, hz, hs, hff, e4])
                refine AllocOb.mk fun b12 hb12 hbM12 => ?_
                refine StoreOb.mk [] [flRow b9 nWs, kidsBlk b8 ts] _ _ rfl rfl (Nat.le_of_ble_eq_true rfl) rfl ?_
                refine ⟨_, trivial, Wk.ofEq ?_, .cons .refl (.cons .refl (.cons .refl (.cons .refl (.cons .refl (.cons .refl (.cons .refl (.cons .refl .nil))))))), .cons rfl (.cons rfl (.cons rfl .nil))⟩
                exact seqLeaf (by simp [seqF, hsu, hz, hs, hff, e4]) (by simp [seqF, hsu, hz, hs, hff, e4]) (by simp [seqF, hsu, hz, hs, hff, e4])
              · refine GuardOb.mk (fun e => absurd e (by simp [hsu, hz, hs, hff, e4])) (fun _ => ?_)
                refine And.intro ?_ ?_
                · refine AllocOb.mk fun b12 hb12 hbM12 => ?_
                  refine StoreOb.mk [] [flRow b9 nWs, kidsBlk b8 ts] _ _ rfl rfl (Nat.le_of_ble_eq_true rfl) rfl ?_
                  refine ⟨_, trivial, Wk.ofEq ?_, .cons .refl (.cons .refl (.cons .refl (.cons .refl (.cons .refl (.cons .refl (.cons .refl (.cons .refl .nil))))))), .cons rfl (.cons rfl (.cons rfl .nil))⟩
                  exact seqLeaf (by simp [seqF, hsu, hz, hs, hff, e4]) (by simp [seqF, hsu, hz, hs, hff, e4]) (by simp [seqF, hsu, hz, hs, hff, e4])
                refine AllocOb.mk fun b12 hb12 hbM12 => ?_
                refine StoreOb.mk [] [flRow b9 nWs, kidsBlk b8 ts] _ _ rfl rfl (Nat.le_of_ble_eq_true rfl) rfl ?_
                refine ⟨_, trivial, Wk.ofEq ?_, .cons .refl (.cons .refl (.cons .refl (.cons .refl (.cons .refl (.cons .refl (.cons .refl (.cons .refl .nil))))))), .cons rfl (.cons rfl (.cons rfl .nil))⟩
                exact seqLeaf (by simp [seqF, hsu, hz, hs, hff, e4]) (by simp [seqF, hsu, hz, hs, hff, e4]) (by simp [seqF, hsu, hz, hs, hff, e4])
            refine AllocOb.mk fun b12 hb12 hbM12 => ?_
            refine PCallOb.mk _ (Suc_spec (M := []) h) ?_
            rintro v JS NS - ⟨rfl, rfl, rfl⟩
            refine GuardOb.mk (fun e5 => ?_) (fun e5 => ?_)
            · refine GuardOb.mk (fun e => absurd e (by simp [hsu, hz, hs, hff, e5])) (fun _ => ?_)
              refine GuardOb.mk (fun e => absurd e (by simp [hsu, hz, hs, hff, e5])) (fun _ => ?_)
              refine StoreOb.mk [] [flRow b9 nWs, kidsBlk b8 ts] _ _ rfl rfl (Nat.le_of_ble_eq_true rfl) rfl ?_
              refine ⟨_, trivial, Wk.ofEq ?_, .cons .refl (.cons .refl (.cons .refl (.cons .refl (.cons .refl (.cons .refl (.cons .refl (.cons .refl .nil))))))), .cons rfl (.cons rfl (.cons rfl .nil))⟩
              exact seqLeaf (by simp [seqF, hsu, hz, hs, hff, e5]) (by simp [seqF, hsu, hz, hs, hff, e5]) (by simp [seqF, hsu, hz, hs, hff, e5])
            · refine GuardOb.mk (fun e => absurd e (by simp [hsu, hz, hs, hff, e5])) (fun _ => ?_)
              refine StoreOb.mk [] [flRow b9 nWs, kidsBlk b8 ts] _ _ rfl rfl (Nat.le_of_ble_eq_true rfl) rfl ?_
              refine ⟨_, trivial, Wk.ofEq ?_, .cons .refl (.cons .refl (.cons .refl (.cons .refl (.cons .refl (.cons .refl (.cons .refl (.cons .refl .nil))))))), .cons rfl (.cons rfl (.cons rfl .nil))⟩
              exact seqLeaf (by simp [seqF, hsu, hz, hs, hff, e5]) (by simp [seqF, hsu, hz, hs, hff, e5]) (by simp [seqF, hsu, hz, hs, hff, e5])
          refine AllocOb.mk fun b12 hb12 hbM12 => ?_
          refine PCallOb.mk _ (Suc_spec (M := []) f) ?_
          rintro v JS NS - ⟨rfl, rfl, rfl⟩
          refine GuardOb.mk (fun _ => ?_) (fun e => absurd e (by simp [hsu, hz, hs, hff]))
          refine PCallOb.mk _ (Suc_spec (M := []) h) ?_
          rintro v JS NS - ⟨rfl, rfl, rfl⟩
          refine GuardOb.mk (fun e6 => ?_) (fun e6 => ?_)
          · refine GuardOb.mk (fun e => absurd e (by simp [hsu, hz, hs, hff, e6])) (fun _ => ?_)
            refine GuardOb.mk (fun e => absurd e (by simp [hsu, hz, hs, hff, e6])) (fun _ => ?_)
            refine StoreOb.mk [] [flRow b9 nWs, kidsBlk b8 ts] _ _ rfl rfl (Nat.le_of_ble_eq_true rfl) rfl ?_
            refine ⟨_, trivial, Wk.ofEq ?_, .cons .refl (.cons .refl (.cons .refl (.cons .refl (.cons .refl (.cons .refl (.cons .refl (.cons .refl .nil))))))), .cons rfl (.cons rfl (.cons rfl .nil))⟩
            exact seqLeaf (by simp [seqF, hsu, hz, hs, hff, e6]) (by simp [seqF, hsu, hz, hs, hff, e6]) (by simp [seqF, hsu, hz, hs, hff, e6])
          · refine GuardOb.mk (fun e => absurd e (by simp [hsu, hz, hs, hff, e6])) (fun _ => ?_)
            refine StoreOb.mk [] [flRow b9 nWs, kidsBlk b8 ts] _ _ rfl rfl (Nat.le_of_ble_eq_true rfl) rfl ?_
            refine ⟨_, trivial, Wk.ofEq ?_, .cons .refl (.cons .refl (.cons .refl (.cons .refl (.cons .refl (.cons .refl (.cons .refl (.cons .refl .nil))))))), .cons rfl (.cons rfl (.cons rfl .nil))⟩
            exact seqLeaf (by simp [seqF, hsu, hz, hs, hff, e6]) (by simp [seqF, hsu, hz, hs, hff, e6]) (by simp [seqF, hsu, hz, hs, hff, e6])
        · have hsu : f.suc = true := by simp [Fl.suc, hz, hs]
          refine GuardOb.mk (fun _ => ?_) (fun e => absurd e (by simp [hsu, hz, hs, hff]))
          refine And.intro ?_ ?_
          · refine PCallOb.mk _ (Suc_spec (M := []) f) ?_
            rintro v JS NS - ⟨rfl, rfl, rfl⟩
            refine GuardOb.mk (fun _ => ?_) (fun e => absurd e (by simp [hsu, hz, hs, hff]))
            refine And.intro ?_ ?_
            · refine PCallOb.mk _ (Suc_spec (M := []) h) ?_
              rintro v JS NS - ⟨rfl, rfl, rfl⟩
              refine GuardOb.mk (fun e7 => ?_) (fun e7 => ?_)
              · refine GuardOb.mk (fun _ => ?_) (fun e => absurd e (by simp [hsu, hz, hs, hff, e7]))
                refine GuardOb.mk (fun _ => ?_) (fun e => absurd e (by simp [hsu, hz, hs, hff, e7]))
                refine And.intro ?_ ?_
                · refine PCallOb.mk _ (Suc_spec (M := []) f) ?_
                  rintro v JS NS - ⟨rfl, rfl, rfl⟩
                  refine GuardOb.mk (fun _ => ?_) (fun e => absurd e (by simp [hsu, hz, hs, hff, e7]))
                  refine AllocOb.mk fun b12 hb12 hbM12 => ?_
                  refine StoreOb.mk [] [flRow b9 nWs, kidsBlk b8 ts] _ _ rfl rfl (Nat.le_of_ble_eq_true rfl) rfl ?_
                  refine ⟨_, trivial, Wk.ofEq ?_, .cons .refl (.cons .refl (.cons .refl (.cons .refl (.cons .refl (.cons .refl (.cons .refl (.cons .refl .nil))))))), .cons rfl (.cons rfl (.cons rfl .nil))⟩
                  exact seqLeaf (by simp [seqF, hsu, hz, hs, hff, e7]) (by simp [seqF, hsu, hz, hs, hff, e7]) (by simp [seqF, hsu, hz, hs, hff, e7])
                refine AllocOb.mk fun b12 hb12 hbM12 => ?_
                refine PCallOb.mk _ (Suc_spec (M := []) f) ?_
                rintro v JS NS - ⟨rfl, rfl, rfl⟩
                refine GuardOb.mk (fun _ => ?_) (fun e => absurd e (by simp [hsu, hz, hs, hff, e7]))
                refine StoreOb.mk [] [flRow b9 nWs, kidsBlk b8 ts] _ _ rfl rfl (Nat.le_of_ble_eq_true rfl) rfl ?_
                refine ⟨_, trivial, Wk.ofEq ?_, .cons .refl (.cons .refl (.cons .refl (.cons .refl (.cons .refl (.cons .refl (.cons .refl (.cons .refl .nil))))))), .cons rfl (.cons rfl (.cons rfl .nil))⟩
                exact seqLeaf (by simp [seqF, hsu, hz, hs, hff, e7]) (by simp [seqF, hsu, hz, hs, hff, e7]) (by simp [seqF, hsu, hz, hs, hff, e7])
              · refine GuardOb.mk (fun _ => ?_) (fun e => absurd e (by simp [hsu, hz, hs, hff, e7]))
                refine And.intro ?_ ?_
                · refine PCallOb.mk _ (Suc_spec (M := []) f) ?_
                  rintro v JS NS - ⟨rfl, rfl, rfl⟩
                  refine GuardOb.mk (fun _ => ?_) (fun e => absurd e (by simp [hsu, hz, hs, hff, e7]))
                  refine AllocOb.mk fun b12 hb12 hbM12 => ?_
                  refine StoreOb.mk [] [flRow b9 nWs, kidsBlk b8 ts] _ _ rfl rfl (Nat.le_of_ble_eq_true rfl) rfl ?_
                  refine ⟨_, trivial, Wk.ofEq ?_, .cons .refl (.cons .refl (.cons .refl (.cons .refl (.cons .refl (.cons .refl (.cons .refl (.cons .refl .nil))))))), .cons rfl (.cons rfl (.cons rfl .nil))⟩
                  exact seqLeaf (by simp [seqF, hsu, hz, hs, hff, e7]) (by simp [seqF, hsu, hz, hs, hff, e7]) (by simp [seqF, hsu, hz, hs, hff, e7])
                refine AllocOb.mk fun b12 hb12 hbM12 => ?_
                refine PCallOb.mk _ (Suc_spec (M := []) f) ?_
                rintro v JS NS - ⟨rfl, rfl, rfl⟩
                refine GuardOb.mk (fun _ => ?_) (fun e => absurd e (by simp [hsu, hz, hs, hff, e7]))
                refine StoreOb.mk [] [flRow b9 nWs, kidsBlk b8 ts] _ _ rfl rfl (Nat.le_of_ble_eq_true rfl) rfl ?_
                refine ⟨_, trivial, Wk.ofEq ?_, .cons .refl (.cons .refl (.cons .refl (.cons .refl (.cons .refl (.cons .refl (.cons .refl (.cons .refl .nil))))))), .cons rfl (.cons rfl (.cons rfl .nil))⟩
                exact seqLeaf (by simp [seqF, hsu, hz, hs, hff, e7]) (by simp [seqF, hsu, hz, hs, hff, e7]) (by simp [seqF, hsu, hz, hs, hff, e7])
            refine AllocOb.mk fun b12 hb12 hbM12 => ?_
            refine PCallOb.mk _ (Suc_spec (M := []) h) ?_
            rintro v JS NS - ⟨rfl, rfl, rfl⟩
            refine GuardOb.mk (fun e8 => ?_) (fun e8 => ?_)
            · refine GuardOb.mk (fun _ => ?_) (fun e => absurd e (by simp [hsu, hz, hs, hff, e8]))
              refine GuardOb.mk (fun _ => ?_) (fun e => absurd e (by simp [hsu, hz, hs, hff, e8]))
              refine PCallOb.mk _ (Suc_spec (M := []) f) ?_
              rintro v JS NS - ⟨rfl, rfl, rfl⟩
              refine GuardOb.mk (fun _ => ?_) (fun e => absurd e (by simp [hsu, hz, hs, hff, e8]))
              refine StoreOb.mk [] [flRow b9 nWs, kidsBlk b8 ts] _ _ rfl rfl (Nat.le_of_ble_eq_true rfl) rfl ?_
              refine ⟨_, trivial, Wk.ofEq ?_, .cons .refl (.cons .refl (.cons .refl (.cons .refl (.cons .refl (.cons .refl (.cons .refl (.cons .refl .nil))))))), .cons rfl (.cons rfl (.cons rfl .nil))⟩
              exact seqLeaf (by simp [seqF, hsu, hz, hs, hff, e8]) (by simp [seqF, hsu, hz, hs, hff, e8]) (by simp [seqF, hsu, hz, hs, hff, e8])
            · refine GuardOb.mk (fun _ => ?_) (fun e => absurd e (by simp [hsu, hz, hs, hff, e8]))
              refine PCallOb.mk _ (Suc_spec (M := []) f) ?_
              rintro v JS NS - ⟨rfl, rfl, rfl⟩
              refine GuardOb.mk (fun _ => ?_) (fun e => absurd e (by simp [hsu, hz, hs, hff, e8]))
              refine StoreOb.mk [] [flRow b9 nWs, kidsBlk b8 ts] _ _ rfl rfl (Nat.le_of_ble_eq_true rfl) rfl ?_
              refine ⟨_, trivial, Wk.ofEq ?_, .cons .refl (.cons .refl (.cons .refl (.cons .refl (.cons .refl (.cons .refl (.cons .refl (.cons .refl .nil))))))), .cons rfl (.cons rfl (.cons rfl .nil))⟩
              exact seqLeaf (by simp [seqF, hsu, hz, hs, hff, e8]) (by simp [seqF, hsu, hz, hs, hff, e8]) (by simp [seqF, hsu, hz, hs, hff, e8])
          refine AllocOb.mk fun b12 hb12 hbM12 => ?_
          refine PCallOb.mk _ (Suc_spec (M := []) f) ?_
          rintro v JS NS - ⟨rfl, rfl, rfl⟩
          refine GuardOb.mk (fun _ => ?_) (fun e => absurd e (by simp [hsu, hz, hs, hff]))
          refine PCallOb.mk _ (Suc_spec (M := []) h) ?_
          rintro v JS NS - ⟨rfl, rfl, rfl⟩
          refine GuardOb.mk (fun e9 => ?_) (fun e9 => ?_)
          · refine GuardOb.mk (fun _ => ?_) (fun e => absurd e (by simp [hsu, hz, hs, hff, e9]))
            refine GuardOb.mk (fun _ => ?_) (fun e => absurd e (by simp [hsu, hz, hs, hff, e9]))
            refine PCallOb.mk _ (Suc_spec (M := []) f) ?_
            rintro v JS NS - ⟨rfl, rfl, rfl⟩
            refine GuardOb.mk (fun _ => ?_) (fun e => absurd e (by simp [hsu, hz, hs, hff, e9]))
            refine StoreOb.mk [] [flRow b9 nWs, kidsBlk b8 ts] _ _ rfl rfl (Nat.le_of_ble_eq_true rfl) rfl ?_
            refine ⟨_, trivial, Wk.ofEq ?_, .cons .refl (.cons .refl (.cons .refl (.cons .refl (.cons .refl (.cons .refl (.cons .refl (.cons .refl .nil))))))), .cons rfl (.cons rfl (.cons rfl .nil))⟩
            exact seqLeaf (by simp [seqF, hsu, hz, hs, hff, e9]) (by simp [seqF, hsu, hz, hs, hff, e9]) (by simp [seqF, hsu, hz, hs, hff, e9])
          · refine GuardOb.mk (fun _ => ?_) (fun e => absurd e (by simp [hsu, hz, hs, hff, e9]))
            refine PCallOb.mk _ (Suc_spec (M := []) f) ?_
            rintro v JS NS - ⟨rfl, rfl, rfl⟩
            refine GuardOb.mk (fun _ => ?_) (fun e => absurd e (by simp [hsu, hz, hs, hff, e9]))
            refine StoreOb.mk [] [flRow b9 nWs, kidsBlk b8 ts] _ _ rfl rfl (Nat.le_of_ble_eq_true rfl) rfl ?_
            refine ⟨_, trivial, Wk.ofEq ?_, .cons .refl (.cons .refl (.cons .refl (.cons .refl (.cons .refl (.cons .refl (.cons .refl (.cons .refl .nil))))))), .cons rfl (.cons rfl (.cons rfl .nil))⟩
            exact seqLeaf (by simp [seqF, hsu, hz, hs, hff, e9]) (by simp [seqF, hsu, hz, hs, hff, e9]) (by simp [seqF, hsu, hz, hs, hff, e9])
        · have hsu : f.suc = true := by simp [Fl.suc, hz, hs]
          refine GuardOb.mk (fun _ => ?_) (fun e => absurd e (by simp [hsu, hz, hs, hff]))
          refine And.intro ?_ ?_
          · refine PCallOb.mk _ (Suc_spec (M := []) f) ?_
            rintro v JS NS - ⟨rfl, rfl, rfl⟩
            refine GuardOb.mk (fun _ => ?_) (fun e => absurd e (by simp [hsu, hz, hs, hff]))
            refine And.intro ?_ ?_
            · refine PCallOb.mk _ (Suc_spec (M := []) h) ?_
              rintro v JS NS - ⟨rfl, rfl, rfl⟩
              refine GuardOb.mk (fun e10 => ?_) (fun e10 => ?_)
              · refine GuardOb.mk (fun _ => ?_) (fun e => absurd e (by simp [hsu, hz, hs, hff, e10]))
                refine GuardOb.mk (fun e => absurd e (by simp [hsu, hz, hs, hff, e10])) (fun _ => ?_)
                refine And.intro ?_ ?_
                · refine AllocOb.mk fun b12 hb12 hbM12 => ?_
                  refine StoreOb.mk [] [flRow b9 nWs, kidsBlk b8 ts] _ _ rfl rfl (Nat.le_of_ble_eq_true rfl) rfl ?_
                  refine ⟨_, trivial, Wk.ofEq ?_, .cons .refl (.cons .refl (.cons .refl (.cons .refl (.cons .refl (.cons .refl (.cons .refl (.cons .refl .nil))))))), .cons rfl (.cons rfl (.cons rfl .nil))⟩
                  exact seqLeaf (by simp [seqF, hsu, hz, hs, hff, e10]) (by simp [seqF, hsu, hz, hs, hff, e10]) (by simp [seqF, hsu, hz, hs, hff, e10])
                refine AllocOb.mk fun b12 hb12 hbM12 => ?_
                refine StoreOb.mk [] [flRow b9 nWs, kidsBlk b8 ts] _ _ rfl rfl (Nat.le_of_ble_eq_true rfl) rfl ?_
                refine ⟨_, trivial, Wk.ofEq ?_, .cons .refl (.cons .refl (.cons .refl (.cons .refl (.cons .refl (.cons .refl (.cons .refl (.cons .refl .nil))))))), .cons rfl (.cons rfl (.cons rfl .nil))⟩
                exact seqLeaf (by simp [seqF, hsu, hz, hs, hff, e10]) (by simp [seqF, hsu, hz, hs, hff, e10]) (by simp [seqF, hsu, hz, hs, hff, e10])
              · refine GuardOb.mk (fun e => absurd e (by simp [hsu, hz, hs, hff, e10])) (fun _ => ?_)
                refine And.intro ?_ ?_
                · refine AllocOb.mk fun b12 hb12 hbM12 => ?_
                  refine StoreOb.mk [] [flRow b9 nWs, kidsBlk b8 ts] _ _ rfl rfl (Nat.le_of_ble_eq_true rfl) rfl ?_
                  refine ⟨_, trivial, Wk.ofEq ?_, .cons .refl (.cons .refl (.cons .refl (.cons .refl (.cons .refl (.cons .refl (.cons .refl (.cons .refl .nil))))))), .cons rfl (.cons rfl (.cons rfl .nil))⟩
                  exact seqLeaf (by simp [seqF, hsu, hz, hs, hff, e10]) (by simp [seqF, hsu, hz, hs, hff, e10]) (by simp [seqF, hsu, hz, hs, hff, e10])
                refine AllocOb.mk fun b12 hb12 hbM12 => ?_
                refine StoreOb.mk [] [flRow b9 nWs, kidsBlk b8 ts] _ _ rfl rfl (Nat.le_of_ble_eq_true rfl) rfl ?_
                refine ⟨_, trivial, Wk.ofEq ?_, .cons .refl (.cons .refl (.cons .refl (.cons .refl (.cons .refl (.cons .refl (.cons .refl (.cons .refl .nil))))))), .cons rfl (.cons rfl (.cons rfl .nil))⟩
                exact seqLeaf (by simp [seqF, hsu, hz, hs, hff, e10]) (by simp [seqF, hsu, hz, hs, hff, e10]) (by simp [seqF, hsu, hz, hs, hff, e10])
            refine AllocOb.mk fun b12 hb12 hbM12 => ?_
            refine PCallOb.mk _ (Suc_spec (M := []) h) ?_
            rintro v JS NS - ⟨rfl, rfl, rfl⟩
            refine GuardOb.mk (fun e11 => ?_) (fun e11 => ?_)
            · refine GuardOb.mk (fun _ => ?_) (fun e => absurd e (by simp [hsu, hz, hs, hff, e11]))
              refine GuardOb.mk (fun e => absurd e (by simp [hsu, hz, hs, hff, e11])) (fun _ => ?_)
              refine StoreOb.mk [] [flRow b9 nWs, kidsBlk b8 ts] _ _ rfl rfl (Nat.le_of_ble_eq_true rfl) rfl ?_
              refine ⟨_, trivial, Wk.ofEq ?_, .cons .refl (.cons .refl (.cons .refl (.cons .refl (.cons .refl (.cons .refl (.cons .refl (.cons .refl .nil))))))), .cons rfl (.cons rfl (.cons rfl .nil))⟩
              exact seqLeaf (by simp [seqF, hsu, hz, hs, hff, e11]) (by simp [seqF, hsu, hz, hs, hff, e11]) (by simp [seqF, hsu, hz, hs, hff, e11])
            · refine GuardOb.mk (fun e => absurd e (by simp [hsu, hz, hs, hff, e11])) (fun _ => ?_)
              refine StoreOb.mk [] [flRow b9 nWs, kidsBlk b8 ts] _ _ rfl rfl (Nat.le_of_ble_eq_true rfl) rfl ?_
              refine ⟨_, trivial, Wk.ofEq ?_, .cons .refl (.cons .refl (.cons .refl (.cons .refl (.cons .refl (.cons .refl (.cons .refl (.cons .refl .nil))))))), .cons rfl (.cons rfl (.cons rfl .nil))⟩
              exact seqLeaf (by simp [seqF, hsu, hz, hs, hff, e11]) (by simp [seqF, hsu, hz, hs, hff, e11]) (by simp [seqF, hsu, hz, hs, hff, e11])
          refine AllocOb.mk fun b12 hb12 hbM12 => ?_
          refine PCallOb.mk _ (Suc_spec (M := []) f) ?_
          rintro v JS NS - ⟨rfl, rfl, rfl⟩
          refine GuardOb.mk (fun _ => ?_) (fun e => absurd e (by simp [hsu, hz, hs, hff]))
          refine PCallOb.mk _ (Suc_spec (M := []) h) ?_
          rintro v JS NS - ⟨rfl, rfl, rfl⟩
          refine GuardOb.mk (fun e12 => ?_) (fun e12 => ?_)
          · refine GuardOb.mk (fun _ => ?_) (fun e => absurd e (by simp [hsu, hz, hs, hff, e12]))
            refine GuardOb.mk (fun e => absurd e (by simp [hsu, hz, hs, hff, e12])) (fun _ => ?_)
            refine StoreOb.mk [] [flRow b9 nWs, kidsBlk b8 ts] _ _ rfl rfl (Nat.le_of_ble_eq_true rfl) rfl ?_
            refine ⟨_, trivial, Wk.ofEq ?_, .cons .refl (.cons .refl (.cons .refl (.cons .refl (.cons .refl (.cons .refl (.cons .refl (.cons .refl .nil))))))), .cons rfl (.cons rfl (.cons rfl .nil))⟩
            exact seqLeaf (by simp [seqF, hsu, hz, hs, hff, e12]) (by simp [seqF, hsu, hz, hs, hff, e12]) (by simp [seqF, hsu, hz, hs, hff, e12])
          · refine GuardOb.mk (fun e => absurd e (by simp [hsu, hz, hs, hff, e12])) (fun _ => ?_)
            refine StoreOb.mk [] [flRow b9 nWs, kidsBlk b8 ts] _ _ rfl rfl (Nat.le_of_ble_eq_true rfl) rfl ?_
            refine ⟨_, trivial, Wk.ofEq ?_, .cons .refl (.cons .refl (.cons .refl (.cons .refl (.cons .refl (.cons .refl (.cons .refl (.cons .refl .nil))))))), .cons rfl (.cons rfl (.cons rfl .nil))⟩
            exact seqLeaf (by simp [seqF, hsu, hz, hs, hff, e12]) (by simp [seqF, hsu, hz, hs, hff, e12]) (by simp [seqF, hsu, hz, hs, hff, e12])
        · have hsu : f.suc = true := by simp [Fl.suc, hz, hs]
          refine GuardOb.mk (fun _ => ?_) (fun e => absurd e (by simp [hsu, hz, hs, hff]))
          refine And.intro ?_ ?_
          · refine PCallOb.mk _ (Suc_spec (M := []) f) ?_
            rintro v JS NS - ⟨rfl, rfl, rfl⟩
            refine GuardOb.mk (fun _ => ?_) (fun e => absurd e (by simp [hsu, hz, hs, hff]))
            refine And.intro ?_ ?_
            · refine PCallOb.mk _ (Suc_spec (M := []) h) ?_
              rintro v JS NS - ⟨rfl, rfl, rfl⟩
              refine GuardOb.mk (fun e13 => ?_) (fun e13 => ?_)
              · refine GuardOb.mk (fun e => absurd e (by simp [hsu, hz, hs, hff, e13])) (fun _ => ?_)
                refine GuardOb.mk (fun _ => ?_) (fun e => absurd e (by simp [hsu, hz, hs, hff, e13]))
                refine And.intro ?_ ?_
                · refine PCallOb.mk _ (Suc_spec (M := []) f) ?_
                  rintro v JS NS - ⟨rfl, rfl, rfl⟩
                  refine GuardOb.mk (fun _ => ?_) (fun e => absurd e (by simp [hsu, hz, hs, hff, e13]))
                  refine AllocOb.mk fun b12 hb12 hbM12 => ?_
                  refine StoreOb.mk [] [flRow b9 nWs, kidsBlk b8 ts] _ _ rfl rfl (Nat.le_of_ble_eq_true rfl) rfl ?_
                  refine ⟨_, trivial, Wk.ofEq ?_, .cons .refl (.cons .refl (.cons .refl (.cons .refl (.cons .refl (.cons .refl (.cons .refl (.cons .refl .nil))))))), .cons rfl (.cons rfl (.cons rfl .nil))⟩
                  exact seqLeaf (by simp [seqF, hsu, hz, hs, hff, e13]) (by simp [seqF, hsu, hz, hs, hff, e13]) (by simp [seqF, hsu, hz, hs, hff, e13])
                refine AllocOb.mk fun b12 hb12 hbM12 => ?_
                refine PCallOb.mk _ (Suc_spec (M := []) f) ?_
                rintro v JS NS - ⟨rfl, rfl, rfl⟩
                refine GuardOb.mk (fun _ => ?_) (fun e => absurd e (by simp [hsu, hz, hs, hff, e13]))
                refine StoreOb.mk [] [flRow b9 nWs, kidsBlk b8 ts] _ _ rfl rfl (Nat.le_of_ble_eq_true rfl) rfl ?_
                refine ⟨_, trivial, Wk.ofEq ?_, .cons .refl (.cons .refl (.cons .refl (.cons .refl (.cons .refl (.cons .refl (.cons .refl (.cons .refl .nil))))))), .cons rfl (.cons rfl (.cons rfl .nil))⟩
                exact seqLeaf (by simp [seqF, hsu, hz, hs, hff, e13]) (by simp [seqF, hsu, hz, hs, hff, e13]) (by simp [seqF, hsu, hz, hs, hff, e13])
              · refine GuardOb.mk (fun _ => ?_) (fun e => absurd e (by simp [hsu, hz, hs, hff, e13]))
                refine And.intro ?_ ?_
                · refine PCallOb.mk _ (Suc_spec (M := []) f) ?_
                  rintro v JS NS - ⟨rfl, rfl, rfl⟩
                  refine GuardOb.mk (fun _ => ?_) (fun e => absurd e (by simp [hsu, hz, hs, hff, e13]))
                  refine AllocOb.mk fun b12 hb12 hbM12 => ?_
                  refine StoreOb.mk [] [flRow b9 nWs, kidsBlk b8 ts] _ _ rfl rfl (Nat.le_of_ble_eq_true rfl) rfl ?_
                  refine ⟨_, trivial, Wk.ofEq ?_, .cons .refl (.cons .refl (.cons .refl (.cons .refl (.cons .refl (.cons .refl (.cons .refl (.cons .refl .nil))))))), .cons rfl (.cons rfl (.cons rfl .nil))⟩
                  exact seqLeaf (by simp [seqF, hsu, hz, hs, hff, e13]) (by simp [seqF, hsu, hz, hs, hff, e13]) (by simp [seqF, hsu, hz, hs, hff, e13])
                refine AllocOb.mk fun b12 hb12 hbM12 => ?_
                refine PCallOb.mk _ (Suc_spec (M := []) f) ?_
                rintro v JS NS - ⟨rfl, rfl, rfl⟩
                refine GuardOb.mk (fun _ => ?_) (fun e => absurd e (by simp [hsu, hz, hs, hff, e13]))
                refine StoreOb.mk [] [flRow b9 nWs, kidsBlk b8 ts] _ _ rfl rfl (Nat.le_of_ble_eq_true rfl) rfl ?_
                refine ⟨_, trivial, Wk.ofEq ?_, .cons .refl (.cons .refl (.cons .refl (.cons .refl (.cons .refl (.cons .refl (.cons .refl (.cons .refl .nil))))))), .cons rfl (.cons rfl (.cons rfl .nil))⟩
                exact seqLeaf (by simp [seqF, hsu, hz, hs, hff, e13]) (by simp [seqF, hsu, hz, hs, hff, e13]) (by simp [seqF, hsu, hz, hs, hff, e13])
            refine AllocOb.mk fun b12 hb12 hbM12 => ?_
            refine PCallOb.mk _ (Suc_spec (M := []) h) ?_
            rintro v JS NS - ⟨rfl, rfl, rfl⟩
            refine GuardOb.mk (fun e14 => ?_) (fun e14 => ?_)
            · refine GuardOb.mk (fun e => absurd e (by simp [hsu, hz, hs, hff, e14])) (fun _ => ?_)
              refine GuardOb.mk (fun _ => ?_) (fun e => absurd e (by simp [hsu, hz, hs, hff, e14]))
              refine PCallOb.mk _ (Suc_spec (M := []) f) ?_
              rintro v JS NS - ⟨rfl, rfl, rfl⟩
              refine GuardOb.mk (fun _ => ?_) (fun e => absurd e (by simp [hsu, hz, hs, hff, e14]))
              refine StoreOb.mk [] [flRow b9 nWs, kidsBlk b8 ts] _ _ rfl rfl (Nat.le_of_ble_eq_true rfl) rfl ?_
              refine ⟨_, trivial, Wk.ofEq ?_, .cons .refl (.cons .refl (.cons .refl (.cons .refl (.cons .refl (.cons .refl (.cons .refl (.cons .refl .nil))))))), .cons rfl (.cons rfl (.cons rfl .nil))⟩
              exact seqLeaf (by simp [seqF, hsu, hz, hs, hff, e14]) (by simp [seqF, hsu, hz, hs, hff, e14]) (by simp [seqF, hsu, hz, hs, hff, e14])
            · refine GuardOb.mk (fun _ => ?_) (fun e => absurd e (by simp [hsu, hz, hs, hff, e14]))
              refine PCallOb.mk _ (Suc_spec (M := []) f) ?_
              rintro v JS NS - ⟨rfl, rfl, rfl⟩
              refine GuardOb.mk (fun _ => ?_) (fun e => absurd e (by simp [hsu, hz, hs, hff, e14]))
              refine StoreOb.mk [] [flRow b9 nWs, kidsBlk b8 ts] _ _ rfl rfl (Nat.le_of_ble_eq_true rfl) rfl ?_
              refine ⟨_, trivial, Wk.ofEq ?_, .cons .refl (.cons .refl (.cons .refl (.cons .refl (.cons .refl (.cons .refl (.cons .refl (.cons .refl .nil))))))), .cons rfl (.cons rfl (.cons rfl .nil))⟩
              exact seqLeaf (by simp [seqF, hsu, hz, hs, hff, e14]) (by simp [seqF, hsu, hz, hs, hff, e14]) (by simp [seqF, hsu, hz, hs, hff, e14])
          refine AllocOb.mk fun b12 hb12 hbM12 => ?_
          refine PCallOb.mk _ (Suc_spec (M := []) f) ?_
          rintro v JS NS - ⟨rfl, rfl, rfl⟩
          refine GuardOb.mk (fun _ => ?_) (fun e => absurd e (by simp [hsu, hz, hs, hff]))
          refine PCallOb.mk _ (Suc_spec (M := []) h) ?_
          rintro v JS NS - ⟨rfl, rfl, rfl⟩
          refine GuardOb.mk (fun e15 => ?_) (fun e15 => ?_)
          · refine GuardOb.mk (fun e => absurd e (by simp [hsu, hz, hs, hff, e15])) (fun _ => ?_)
            refine GuardOb.mk (fun _ => ?_) (fun e => absurd e (by simp [hsu, hz, hs, hff, e15]))
            refine PCallOb.mk _ (Suc_spec (M := []) f) ?_
            rintro v JS NS - ⟨rfl, rfl, rfl⟩
            refine GuardOb.mk (fun _ => ?_) (fun e => absurd e (by simp [hsu, hz, hs, hff, e15]))
            refine StoreOb.mk [] [flRow b9 nWs, kidsBlk b8 ts] _ _ rfl rfl (Nat.le_of_ble_eq_true rfl) rfl ?_
            refine ⟨_, trivial, Wk.ofEq ?_, .cons .refl (.cons .refl (.cons .refl (.cons .refl (.cons .refl (.cons .refl (.cons .refl (.cons .refl .nil))))))), .cons rfl (.cons rfl (.cons rfl .nil))⟩
            exact seqLeaf (by simp [seqF, hsu, hz, hs, hff, e15]) (by simp [seqF, hsu, hz, hs, hff, e15]) (by simp [seqF, hsu, hz, hs, hff, e15])
          · refine GuardOb.mk (fun _ => ?_) (fun e => absurd e (by simp [hsu, hz, hs, hff, e15]))
            refine PCallOb.mk _ (Suc_spec (M := []) f) ?_
            rintro v JS NS - ⟨rfl, rfl, rfl⟩
            refine GuardOb.mk (fun _ => ?_) (fun e => absurd e (by simp [hsu, hz, hs, hff, e15]))
            refine StoreOb.mk [] [flRow b9 nWs, kidsBlk b8 ts] _ _ rfl rfl (Nat.le_of_ble_eq_true rfl) rfl ?_
            refine ⟨_, trivial, Wk.ofEq ?_, .cons .refl (.cons .refl (.cons .refl (.cons .refl (.cons .refl (.cons .refl (.cons .refl (.cons .refl .nil))))))), .cons rfl (.cons rfl (.cons rfl .nil))⟩
            exact seqLeaf (by simp [seqF, hsu, hz, hs, hff, e15]) (by simp [seqF, hsu, hz, hs, hff, e15]) (by simp [seqF, hsu, hz, hs, hff, e15])
        · have hsu : f.suc = true := by simp [Fl.suc, hz, hs]
          refine GuardOb.mk (fun _ => ?_) (fun e => absurd e (by simp [hsu, hz, hs, hff]))
          refine And.intro ?_ ?_
          · refine PCallOb.mk _ (Suc_spec (M := []) f) ?_
            rintro v JS NS - ⟨rfl, rfl, rfl⟩
            refine GuardOb.mk (fun _ => ?_) (fun e => absurd e (by simp [hsu, hz, hs, hff]))
            refine And.intro ?_ ?_
            · refine PCallOb.mk _ (Suc_spec (M := []) h) ?_
              rintro v JS NS - ⟨rfl, rfl, rfl⟩
              refine GuardOb.mk (fun e16 => ?_) (fun e16 => ?_)
              · refine GuardOb.mk (fun e => absurd e (by simp [hsu, hz, hs, hff, e16])) (fun _ => ?_)
                refine GuardOb.mk (fun e => absurd e (by simp [hsu, hz, hs, hff, e16])) (fun _ => ?_)
                refine And.intro ?_ ?_
                · refine AllocOb.mk fun b12 hb12 hbM12 => ?_
                  refine StoreOb.mk [] [flRow b9 nWs, kidsBlk b8 ts] _ _ rfl rfl (Nat.le_of_ble_eq_true rfl) rfl ?_
                  refine ⟨_, trivial, Wk.ofEq ?_, .cons .refl (.cons .refl (.cons .refl (.cons .refl (.cons .refl (.cons .refl (.cons .refl (.cons .refl .nil))))))), .cons rfl (.cons rfl (.cons rfl .nil))⟩
                  exact seqLeaf (by simp [seqF, hsu, hz, hs, hff, e16]) (by simp [seqF, hsu, hz, hs, hff, e16]) (by simp [seqF, hsu, hz, hs, hff, e16])
                refine AllocOb.mk fun b12 hb12 hbM12 => ?_
                refine StoreOb.mk [] [flRow b9 nWs, kidsBlk b8 ts] _ _ rfl rfl (Nat.le_of_ble_eq_true rfl) rfl ?_
                refine ⟨_, trivial, Wk.ofEq ?_, .cons .refl (.cons .refl (.cons .refl (.cons .refl (.cons .refl (.cons .refl (.cons .refl (.cons .refl .nil))))))), .cons rfl (.cons rfl (.cons rfl .nil))⟩
                exact seqLeaf (by simp [seqF, hsu, hz, hs, hff, e16]) (by simp [seqF, hsu, hz, hs, hff, e16]) (by simp [seqF, hsu, hz, hs, hff, e16])
              · refine GuardOb.mk (fun e => absurd e (by simp [hsu, hz, hs, hff, e16])) (fun _ => ?_)
                refine And.intro ?_ ?_
                · refine AllocOb.mk fun b12 hb12 hbM12 => ?_
                  refine StoreOb.mk [] [flRow b9 nWs, kidsBlk b8 ts] _ _ rfl rfl (Nat.le_of_ble_eq_true rfl) rfl ?_
                  refine ⟨_, trivial, Wk.ofEq ?_, .cons .refl (.cons .refl (.cons .refl (.cons .refl (.cons .refl (.cons .refl (.cons .refl (.cons .refl .nil))))))), .cons rfl (.cons rfl (.cons rfl .nil))⟩
                  exact seqLeaf (by simp [seqF, hsu, hz, hs, hff, e16]) (by simp [seqF, hsu, hz, hs, hff, e16]) (by simp [seqF, hsu, hz, hs, hff, e16])
                refine AllocOb.mk fun b12 hb12 hbM12 => ?_
                refine StoreOb.mk [] [flRow b9 nWs, kidsBlk b8 ts] _ _ rfl rfl (Nat.le_of_ble_eq_true rfl) rfl ?_
                refine ⟨_, trivial, Wk.ofEq ?_, .cons .refl (.cons .refl (.cons .refl (.cons .refl (.cons .refl (.cons .refl (.cons .refl (.cons .refl .nil))))))), .cons rfl (.cons rfl (.cons rfl .nil))⟩
                exact seqLeaf (by simp [seqF, hsu, hz, hs, hff, e16]) (by simp [seqF, hsu, hz, hs, hff, e16]) (by simp [seqF, hsu, hz, hs, hff, e16])
            refine AllocOb.mk fun b12 hb12 hbM12 => ?_
            refine PCallOb.mk _ (Suc_spec (M := []) h) ?_
            rintro v JS NS - ⟨rfl, rfl, rfl⟩
            refine GuardOb.mk (fun e17 => ?_) (fun e17 => ?_)
            · refine GuardOb.mk (fun e => absurd e (by simp [hsu, hz, hs, hff, e17])) (fun _ => ?_)
              refine GuardOb.mk (fun e => absurd e (by simp [hsu, hz, hs, hff, e17])) (fun _ => ?_)
              refine StoreOb.mk [] [flRow b9 nWs, kidsBlk b8 ts] _ _ rfl rfl (Nat.le_of_ble_eq_true rfl) rfl ?_
              refine ⟨_, trivial, Wk.ofEq ?_, .cons .refl (.cons .refl (.cons .refl (.cons .refl (.cons .refl (.cons .refl (.cons .refl (.cons .refl .nil))))))), .cons rfl (.cons rfl (.cons rfl .nil))⟩
              exact seqLeaf (by simp [seqF, hsu, hz, hs, hff, e17]) (by simp [seqF, hsu, hz, hs, hff, e17]) (by simp [seqF, hsu, hz, hs, hff, e17])
            · refine GuardOb.mk (fun e => absurd e (by simp [hsu, hz, hs, hff, e17])) (fun _ => ?_)
              refine StoreOb.mk [] [flRow b9 nWs, kidsBlk b8 ts] _ _ rfl rfl (Nat.le_of_ble_eq_true rfl) rfl ?_
              refine ⟨_, trivial, Wk.ofEq ?_, .cons .refl (.cons .refl (.cons .refl (.cons .refl (.cons .refl (.cons .refl (.cons .refl (.cons .refl .nil))))))), .cons rfl (.cons rfl (.cons rfl .nil))⟩
              exact seqLeaf (by simp [seqF, hsu, hz, hs, hff, e17]) (by simp [seqF, hsu, hz, hs, hff, e17]) (by simp [seqF, hsu, hz, hs, hff, e17])
          refine AllocOb.mk fun b12 hb12 hbM12 => ?_
          refine PCallOb.mk _ (Suc_spec (M := []) f) ?_
          rintro v JS NS - ⟨rfl, rfl, rfl⟩
          refine GuardOb.mk (fun _ => ?_) (fun e => absurd e (by simp [hsu, hz, hs, hff]))
          refine PCallOb.mk _ (Suc_spec (M := []) h) ?_
          rintro v JS NS - ⟨rfl, rfl, rfl⟩
          refine GuardOb.mk (fun e18 => ?_) (fun e18 => ?_)
          · refine GuardOb.mk (fun e => absurd e (by simp [hsu, hz, hs, hff, e18])) (fun _ => ?_)
            refine GuardOb.mk (fun e => absurd e (by simp [hsu, hz, hs, hff, e18])) (fun _ => ?_)
            refine StoreOb.mk [] [flRow b9 nWs, kidsBlk b8 ts] _ _ rfl rfl (Nat.le_of_ble_eq_true rfl) rfl ?_
            refine ⟨_, trivial, Wk.ofEq ?_, .cons .refl (.cons .refl (.cons .refl (.cons .refl (.cons .refl (.cons .refl (.cons .refl (.cons .refl .nil))))))), .cons rfl (.cons rfl (.cons rfl .nil))⟩
            exact seqLeaf (by simp [seqF, hsu, hz, hs, hff, e18]) (by simp [seqF, hsu, hz, hs, hff, e18]) (by simp [seqF, hsu, hz, hs, hff, e18])
          · refine GuardOb.mk (fun e => absurd e (by simp [hsu, hz, hs, hff, e18])) (fun _ => ?_)
            refine StoreOb.mk [] [flRow b9 nWs, kidsBlk b8 ts] _ _ rfl rfl (Nat.le_of_ble_eq_true rfl) rfl ?_
            refine ⟨_, trivial, Wk.ofEq ?_, .cons .refl (.cons .refl (.cons .refl (.cons .refl (.cons .refl (.cons .refl (.cons .refl (.cons .refl .nil))))))), .cons rfl (.cons rfl (.cons rfl .nil))⟩
            exact seqLeaf (by simp [seqF, hsu, hz, hs, hff, e18]) (by simp [seqF, hsu, hz, hs, hff, e18]) (by simp [seqF, hsu, hz, hs, hff, e18])
        -- END WAYS
      · refine ArithOb.mk _ (next_wr (i := i) (by omega)) ?_
        exact ⟨(i + 1, L), ⟨⟨by simp only; omega, fun b o h => hL _ _ (hJ _ _ h)⟩, by simp only; omega⟩, .refl, .cons .refl (.cons .refl (.cons .refl (.cons .refl .nil))), .cons rfl .nil⟩
    refine IdxOb.mk ⟨b8, 0, none⟩ i rfl rfl hlt ?_
    refine LoadOb.mk _ (rt _ _ i hti (.tail _ (.head _))) ?_
    have hl0 := leaf10_spec hTJ ci
    rw [ok1.1] at hl0
    refine PCallOb.mk _ hl0 ?_
    rintro v J1 N1 hJ1 ⟨-, rfl, rfl⟩
    refine BinOb.neF (p := f) (q := f) ?_
    refine GuardOb.mk (fun _ => ?_) (fun h => by simp at h)
    refine IdxOb.mk ⟨b8, 0, none⟩ i rfl rfl hlt ?_
    refine LoadOb.mk _ (rt _ _ i hti (.tail _ (.head _))) ?_
    refine AllocOb.mk fun a1 ha1 haM1 => ?_
    have hG1 := hJ1
    -- CHAINS
    have o1 := ok1.2 (opNd 9 (cB 110) 0 0, id) (by simp [nOnes])
    simp only [oneOk, hf, id, Bool.and_eq_true, decide_eq_true_eq] at o1
    refine PCallOb.mkR [kidsBlk a1 [ts[i]]] [flRow b9 nWs, kidsBlk b8 ts] _ (.refl _) (of10_1 (k := 9) (lo := 0) (hi := 0) (s := cB 110) (by decide) (by decide) i0 i0 (ci.mono hG1) o1.1) (fun v I' M' h x hx => by rw [h.2.1]; exact hx) ?_
    rintro v J2 N2 hJ2 ⟨-, rfl, u1, rfl, d1⟩
    have hG2 : ∀ b o, J b = some o → J2 b = some o := fun b o h => hJ2 _ _ (hG1 _ _ h)
    have hl1 := leaf10_spec (hTJ.mono hG2) d1
    rw [o1.2] at hl1
    refine PCallOb.mk _ hl1 ?_
    rintro v J3 N3 hJ3 ⟨-, rfl, rfl⟩
    have hG3 : ∀ b o, J b = some o → J3 b = some o := fun b o h => hJ3 _ _ (hG2 _ _ h)
    refine BinOb.neF (p := f) (q := f) ?_
    refine GuardOb.mk (fun _ => ?_) (fun h => by simp at h)
    refine IdxOb.mk ⟨b8, 0, none⟩ i rfl rfl hlt ?_
    refine LoadOb.mk _ (rt _ _ i hti (.tail _ (.tail _ (.head _)))) ?_
    refine AllocOb.mk fun a2 ha2 haM2 => ?_
    have o2 := ok1.2 (opNd 7 (nB) 0 0, fun f => ⟨f.suc, false, f.f⟩) (by simp [nOnes])
    simp only [oneOk, hf, id, Bool.and_eq_true, decide_eq_true_eq] at o2
    refine PCallOb.mkR [kidsBlk a2 [ts[i]]] [kidsBlk a1 [ts[i]], flRow b9 nWs, kidsBlk b8 ts] _ (.refl _) (of10_1 (k := 7) (lo := 0) (hi := 0) (s := nB) (by decide) (by decide) i0 i0 (ci.mono hG3) o2.1) (fun v I' M' h x hx => by rw [h.2.1]; exact hx) ?_
    rintro v J4 N4 hJ4 ⟨-, rfl, u2, rfl, d2⟩
    have hG4 : ∀ b o, J b = some o → J4 b = some o := fun b o h => hJ4 _ _ (hG3 _ _ h)
    have hl2 := leaf10_spec (hTJ.mono hG4) d2
    rw [o2.2] at hl2
    refine PCallOb.mk _ hl2 ?_
    rintro v J5 N5 hJ5 ⟨-, rfl, rfl⟩
    have hG5 : ∀ b o, J b = some o → J5 b = some o := fun b o h => hJ5 _ _ (hG4 _ _ h)
    refine PCallOb.mk _ (Suc_spec (M := []) f) ?_
    rintro v JS2 NS2 - ⟨rfl, rfl, rfl⟩
    refine BinOb.neF (p := ⟨f.suc, false, f.f⟩) (q := ⟨f.suc, false, f.f⟩) ?_
    refine GuardOb.mk (fun _ => ?_) (fun h => by simp at h)
    refine IdxOb.mk ⟨b8, 0, none⟩ i rfl rfl hlt ?_
    refine LoadOb.mk _ (rt _ _ i hti (.tail _ (.tail _ (.tail _ (.head _))))) ?_
    refine AllocOb.mk fun a3 ha3 haM3 => ?_
    have o3 := ok1.2 (opNd 8 (nB) 0 0, fun f => ⟨f.f, false, f.suc⟩) (by simp [nOnes])
    simp only [oneOk, hf, id, Bool.and_eq_true, decide_eq_true_eq] at o3
    refine PCallOb.mkR [kidsBlk a3 [ts[i]]] [kidsBlk a2 [ts[i]], kidsBlk a1 [ts[i]], flRow b9 nWs, kidsBlk b8 ts] _ (.refl _) (of10_1 (k := 8) (lo := 0) (hi := 0) (s := nB) (by decide) (by decide) i0 i0 (ci.mono hG5) o3.1) (fun v I' M' h x hx => by rw [h.2.1]; exact hx) ?_
    rintro v J6 N6 hJ6 ⟨-, rfl, u3, rfl, d3⟩
    have hG6 : ∀ b o, J b = some o → J6 b = some o := fun b o h => hJ6 _ _ (hG5 _ _ h)
    have hl3 := leaf10_spec (hTJ.mono hG6) d3
    rw [o3.2] at hl3
    refine PCallOb.mk _ hl3 ?_
    rintro v J7 N7 hJ7 ⟨-, rfl, rfl⟩
    have hG7 : ∀ b o, J b = some o → J7 b = some o := fun b o h => hJ7 _ _ (hG6 _ _ h)
    refine PCallOb.mk _ (Suc_spec (M := []) f) ?_
    rintro v JS3 NS3 - ⟨rfl, rfl, rfl⟩
    refine BinOb.neF (p := ⟨f.f, false, f.suc⟩) (q := ⟨f.f, false, f.suc⟩) ?_
    refine GuardOb.mk (fun _ => ?_) (fun h => by simp at h)
    refine IdxOb.mk ⟨b8, 0, none⟩ i rfl rfl hlt ?_
    refine LoadOb.mk _ (rt _ _ i hti (.tail _ (.tail _ (.tail _ (.tail _ (.head _)))))) ?_
    refine AllocOb.mk fun a4 ha4 haM4 => ?_
    have o4 := ok1.2 (opNd 6 (nB) 0 3, fun f => ⟨f.z || f.f, f.s, false⟩) (by simp [nOnes])
    simp only [oneOk, hf, id, Bool.and_eq_true, decide_eq_true_eq] at o4
    refine PCallOb.mkR [kidsBlk a4 [ts[i]]] [kidsBlk a3 [ts[i]], kidsBlk a2 [ts[i]], kidsBlk a1 [ts[i]], flRow b9 nWs, kidsBlk b8 ts] _ (.refl _) (of10_1 (k := 6) (lo := 0) (hi := 3) (s := nB) (by decide) (by decide) i0 ⟨by decide, by decide⟩ (ci.mono hG7) o4.1) (fun v I' M' h x hx => by rw [h.2.1]; exact hx) ?_
    rintro v J8 N8 hJ8 ⟨-, rfl, u4, rfl, d4⟩
    have hG8 : ∀ b o, J b = some o → J8 b = some o := fun b o h => hJ8 _ _ (hG7 _ _ h)
    have hl4 := leaf10_spec (hTJ.mono hG8) d4
    rw [o4.2] at hl4
    refine PCallOb.mk _ hl4 ?_
    rintro v J9 N9 hJ9 ⟨-, rfl, rfl⟩
    have hG9 : ∀ b o, J b = some o → J9 b = some o := fun b o h => hJ9 _ _ (hG8 _ _ h)
    refine GuardOb.mk (fun hz => ?_) (fun hz => ?_)
    · refine BinOb.neF (p := ⟨f.z || f.f, f.s, false⟩) (q := ⟨f.f, f.s, false⟩) ?_
      refine GuardOb.mk (fun _ => ?_) (fun h => by simp [hz] at h)
      refine IdxOb.mk ⟨b8, 0, none⟩ i rfl rfl hlt ?_
      refine LoadOb.mk _ (rt _ _ i hti (.tail _ (.tail _ (.tail _ (.tail _ (.tail _ (.head _))))))) ?_
      refine AllocOb.mk fun a5 ha5 haM5 => ?_
      have o5 := ok1.2 (opNd 6 (nB) 1 1, id) (by simp [nOnes])
      simp only [oneOk, hf, id, Bool.and_eq_true, decide_eq_true_eq] at o5
      refine PCallOb.mkR [kidsBlk a5 [ts[i]]] [kidsBlk a4 [ts[i]], kidsBlk a3 [ts[i]], kidsBlk a2 [ts[i]], kidsBlk a1 [ts[i]], flRow b9 nWs, kidsBlk b8 ts] _ (.refl _) (of10_1 (k := 6) (lo := 1) (hi := 1) (s := nB) (by decide) (by decide) ⟨by decide, by decide⟩ ⟨by decide, by decide⟩ (ci.mono hG9) o5.1) (fun v I' M' h x hx => by rw [h.2.1]; exact hx) ?_
      rintro v J10 N10 hJ10 ⟨-, rfl, u5, rfl, d5⟩
      have hG10 : ∀ b o, J b = some o → J10 b = some o := fun b o h => hJ10 _ _ (hG9 _ _ h)
      have hl5 := leaf10_spec (hTJ.mono hG10) d5
      rw [o5.2] at hl5
      refine PCallOb.mk _ hl5 ?_
      rintro v J11 N11 hJ11 ⟨-, rfl, rfl⟩
      have hG11 : ∀ b o, J b = some o → J11 b = some o := fun b o h => hJ11 _ _ (hG10 _ _ h)
      refine BinOb.neF (p := f) (q := f) ?_
      exact ⟨J11, hG11, .sub (.cons _ (.cons _ (.cons _ (.cons _ (.cons _ (.refl _)))))) .refl, .cons .refl (.cons .refl (.cons .refl (.cons .refl (.cons .refl (.cons .refl .nil))))), .cons rfl (.cons rfl .nil)⟩
    · refine BinOb.neF (p := ⟨f.z || f.f, f.s, false⟩) (q := ⟨true, f.s, false⟩) ?_
      refine GuardOb.mk (fun _ => ?_) (fun h => by simp [hz] at h)
      refine IdxOb.mk ⟨b8, 0, none⟩ i rfl rfl hlt ?_
      refine LoadOb.mk _ (rt _ _ i hti (.tail _ (.tail _ (.tail _ (.tail _ (.tail _ (.head _))))))) ?_
      refine AllocOb.mk fun a5 ha5 haM5 => ?_
      have o5 := ok1.2 (opNd 6 (nB) 1 1, id) (by simp [nOnes])
      simp only [oneOk, hf, id, Bool.and_eq_true, decide_eq_true_eq] at o5
      refine PCallOb.mkR [kidsBlk a5 [ts[i]]] [kidsBlk a4 [ts[i]], kidsBlk a3 [ts[i]], kidsBlk a2 [ts[i]], kidsBlk a1 [ts[i]], flRow b9 nWs, kidsBlk b8 ts] _ (.refl _) (of10_1 (k := 6) (lo := 1) (hi := 1) (s := nB) (by decide) (by decide) ⟨by decide, by decide⟩ ⟨by decide, by decide⟩ (ci.mono hG9) o5.1) (fun v I' M' h x hx => by rw [h.2.1]; exact hx) ?_
      rintro v J10 N10 hJ10 ⟨-, rfl, u5, rfl, d5⟩
      have hG10 : ∀ b o, J b = some o → J10 b = some o := fun b o h => hJ10 _ _ (hG9 _ _ h)
      have hl5 := leaf10_spec (hTJ.mono hG10) d5
      rw [o5.2] at hl5
      refine PCallOb.mk _ hl5 ?_
      rintro v J11 N11 hJ11 ⟨-, rfl, rfl⟩
      have hG11 : ∀ b o, J b = some o → J11 b = some o := fun b o h => hJ11 _ _ (hG10 _ _ h)
      refine BinOb.neF (p := f) (q := f) ?_
      exact ⟨J11, hG11, .sub (.cons _ (.cons _ (.cons _ (.cons _ (.cons _ (.refl _)))))) .refl, .cons .refl (.cons .refl (.cons .refl (.cons .refl (.cons .refl (.cons .refl .nil))))), .cons rfl (.cons rfl .nil)⟩
    -- END CHAINS
  · have cT : TC J t3 nT := (((c3.mono hI5).mono hI6).mono hI7).mono hJ
    refine AllocOb.mk fun bG hbG hbMG => ?_
    refine CallOb.mk [] _ _ (.refl _) (grammar10_spec (M := [])) ?_
    rintro v K0 N0 - ⟨rfl, rfl, rfl⟩
    refine CallOb.fa fun hfa => ?_
    have hbG' := hfa.d (defsBlk bG [⟨cB 97, t3⟩]) (.head _)
    have hins := ins_le (o := (defsBlk bG [⟨cB 97, t3⟩]).obj) hbG'
    have hg : Gr.ok _ ⟨[⟨cB 97, t3⟩], some ⟨bG, 0, none⟩, 1, 1⟩ := defsBlk_gr rfl (by decide) hbG' (fun d hd => by simp only [List.mem_singleton] at hd; subst hd; exact ⟨(by decide : (cB 97).size ≤ 140737488355328), cT.ok⟩)
    have hT1 := hTJ.mono hins
    have hsp := FTree_spec (M0 := []) (la := none) (ln := 0) (lc := 0) (fl := []) hT1 hg (cT.mono hins).ok ⟨rfl, fun j h => by simp at h⟩
    rw [show treeP ⟨[⟨cB 97, t3⟩], some ⟨bG, 0, none⟩, 1, 1⟩ [] t3 = none from rfl] at hsp
    refine CallOb.mkW _ [] [] _ (.prom rfl (by simp) (.sub (List.nil_sublist _) .refl)) hsp ?_
    rintro v K1 N1 hK1 - ⟨-, rfl, rfl⟩
    have hg1 := hg.mono hK1
    have hT2 := hT1.mono hK1
    refine CodeOb.drawC TrydEOK rfl rfl rfl (ι := GH) (fun K => { fl := [(14, .ref 14 0), (16, .val (.bool false)), (18, .val (.bool false))], cl := [(14, [.slice (some ⟨bG, 0, none⟩) 1 1])], gi := K, mi := [] }) (fun K => ∀ b o, K1 b = some o → K b = some o) ?_ ?_
    rotate_left
    · intro K hK
      have hg2 := hg1.mono hK
      have hT3 := hT2.mono hK
      refine CodeOb.draw TrydEOK rfl rfl rfl ?_
      refine MakeOb.mk 1 1 rfl rfl (Nat.le_refl _) (by decide) (by decide) ?_
      refine AllocOb.mk fun b4 hb4 hbM4 => ?_
      refine CallOb.mk [flRow b4 [fl0]] [] _ (.refl _) (FNodes_spec (M0 := [flRow b4 [fl0]]) (lc := 1) hT3 hg2 (t := zrT) zrT_ok (flRow_at (l := [fl0]) (List.mem_singleton.2 rfl))) ?_
      rintro v K2 N2 - ⟨hK2, ⟨-, rfl, rfl⟩ | ⟨r, b, hn, -, -⟩⟩
      rotate_left
      · exfalso
        rw [show nodesP ⟨[⟨cB 97, t3⟩], some ⟨bG, 0, none⟩, 1, 1⟩ [fl0] zrT = none from rfl] at hn
        cases hn
      have hT4 := hT3.mono hK2
      refine CallOb.mk [] _ _ (.refl _) (FOf_bad hT4 (g := zrG) zrG_ok zrG_may) ?_
      rintro v K3 N3 - ⟨hK3, rfl, m1, hm1, rfl⟩
      refine CallOb.mk [] _ _ (.refl _) (Rule_spec (s := cB 98) (by decide)) ?_
      rintro v K4 N4 - ⟨hK4, tb, rfl, htb, nb, rb, rfl⟩
      have ctb : TC K4 tb [leafNd 3 (cB 98)] := .leaf htb nb rb rfl
      refine AllocOb.mk fun bH hbH hbMH => ?_
      refine CallOb.mk [] _ _ (.refl _) (grammar10_spec (M := [])) ?_
      rintro v K5 N5 - ⟨rfl, rfl, rfl⟩
      refine CallOb.fa fun hfa => ?_
      have hbH' := hfa.d (defsBlk bH [⟨cB 97, tb⟩]) (.head _)
      have hins2 := ins_le (o := (defsBlk bH [⟨cB 97, tb⟩]).obj) hbH'
      have hgH : Gr.ok _ ⟨[⟨cB 97, tb⟩], some ⟨bH, 0, none⟩, 1, 1⟩ := defsBlk_gr rfl (by decide) hbH' (fun d hd => by simp only [List.mem_singleton] at hd; subst hd; exact ⟨(by decide : (cB 97).size ≤ 140737488355328), htb⟩)
      have hbad : mayG debL ⟨[⟨cB 97, tb⟩], some ⟨bH, 0, none⟩, 1, 1⟩ ≠ 0 := by
        rw [← mayG_ct]
        have e : (⟨[⟨cB 97, tb⟩], some ⟨bH, 0, none⟩, 1, 1⟩ : Gr).ct = ⟨[⟨cB 97, trOf [leafNd 3 (cB 98)]⟩], none, 1, 0⟩ := by
          simp only [Gr.ct, List.map_cons, List.map_nil, Df.ct, ctb.tr]
        rw [e]
        exact bH_may
      have hspB := FOf_bad (((hT4.mono hK3).mono hK4).mono hins2) hgH hbad
      refine CallOb.mkW _ [] [] _ (.prom (b := bH) (o := (defsBlk bH [⟨cB 97, tb⟩]).obj) rfl (by simp) (.sub (List.nil_sublist _) .refl)) hspB ?_
      rintro v K6 N6 - - ⟨hK6, rfl, m2, hm2, rfl⟩
      refine GuardOb.mk (fun _ => ?_) (fun h => by cases h)
      refine GuardOb.mk (fun _ => ?_) (fun h => by cases h)
      refine GuardOb.mk (fun _ => ?_) (fun h => by cases h)
      refine GuardOb.mk (fun _ => ?_) (fun h => by cases h)
      refine GuardOb.mk (fun _ => ?_) (fun h => by simp [hm1] at h)
      refine GuardOb.mk (fun _ => ?_) (fun h => by cases h)
      refine GuardOb.mk (fun _ => ?_) (fun h => by simp [hm2] at h)
      refine CallOb.mk [] _ _ (.refl _) (Within_spec (M := []) fl0 fl0) ?_
      rintro v K7 N7 - ⟨rfl, rfl, rfl⟩
      refine GuardOb.mk (fun _ => ?_) (fun h => by cases h)
      refine CallOb.mk [] _ _ (.refl _) (Within_spec (M := []) ⟨true, false, false⟩ ⟨true, false, true⟩) ?_
      rintro v K8 N8 - ⟨rfl, rfl, rfl⟩
      refine GuardOb.mk (fun _ => ?_) (fun h => by cases h)
      refine CallOb.mk [] _ _ (.refl _) (Within_spec (M := []) ⟨true, true, false⟩ ⟨true, false, false⟩) ?_
      rintro v K9 N9 - ⟨rfl, rfl, rfl⟩
      exact ⟨_, _, .refl, rfl⟩
    have hnone : ∀ (tx : Tr), tx.ns = [leafNd 3 (cB 98)] → treeP ⟨[⟨cB 97, t3⟩], some ⟨bG, 0, none⟩, 1, 1⟩ [fl0] tx = none := fun tx nx => by
      have e : namedOk [(cB 97, (0 : Int))] [leafNd 3 (cB 98)] = false := by decide
      unfold treeP nodesP
      rw [nx, show placesL (⟨[⟨cB 97, t3⟩], some ⟨bG, 0, none⟩, 1, 1⟩ : Gr).ds = [(cB 97, (0 : Int))] from rfl, e, Bool.and_false, Bool.and_false]
      rfl
    refine And.intro ?_ ?_
    · refine MakeOb.mk 1 1 rfl rfl (Nat.le_refl _) (by decide) (by decide) ?_
      refine AllocOb.mk fun b4 hb4 hbM4 => ?_
      refine And.intro ?_ ?_
      · refine PCallOb.mk _ (Rule_spec (s := cB 98) (by decide)) ?_
        rintro v K2 N2 hK2 ⟨-, tx, rfl, htx, nx, rx, rfl⟩
        refine And.intro ?_ ?_
        · have hsp := FTree_spec (M0 := [flRow b4 [fl0]]) (lc := 1) (hT2.mono hK2) (hg1.mono hK2) htx (flRow_at (l := [fl0]) (List.mem_singleton.2 rfl))
          rw [hnone tx nx] at hsp
          refine CallOb.mk [flRow b4 [fl0]] [] _ (.refl _) hsp ?_
          rintro v K3 N3 - ⟨hK3, rfl, rfl⟩
          refine AllocOb.mk fun b3 hb3 hbM3 => ?_
          refine StoreOb.to [] _ _ _ rfl rfl rfl rfl fl0.cells rfl ?_
          exact ⟨K3, fun b o h => hK3 _ _ (hK2 _ _ h), .sub (List.nil_sublist _) .refl, .cons .refl (.cons .refl (.cons .refl .nil)), .cons rfl .nil⟩
        refine AllocOb.mk fun b3 hb3 hbM3 => ?_
        have hsp := FTree_spec (M0 := [flRow b4 [fl0]]) (lc := 1) (hT2.mono hK2) (hg1.mono hK2) htx (flRow_at (l := [fl0]) (List.mem_singleton.2 rfl))
        rw [hnone tx nx] at hsp
        refine PCallOb.mkR [flRow b4 [fl0]] [(⟨b3, .cells fl0.cells.toArray 55 (0, 0)⟩ : Blk)] _ (.swap _ _ _) hsp (fun v I' M' h x hx => by rw [h.2.1]; exact hx) ?_
        rintro v K3 N3 hK3 ⟨-, rfl, rfl⟩
        refine StoreOb.to [flRow b4 [fl0]] _ _ _ rfl rfl rfl rfl fl0.cells rfl ?_
        exact ⟨K3, fun b o h => hK3 _ _ (hK2 _ _ h), .sub (List.nil_sublist _) .refl, .cons .refl (.cons .refl (.cons .refl .nil)), .cons rfl .nil⟩
      refine AllocOb.mk fun b3 hb3 hbM3 => ?_
      refine PCallOb.mk _ (Rule_spec (s := cB 98) (by decide)) ?_
      rintro v K2 N2 hK2 ⟨-, tx, rfl, htx, nx, rx, rfl⟩
      have hsp := FTree_spec (M0 := [flRow b4 [fl0]]) (lc := 1) (hT2.mono hK2) (hg1.mono hK2) htx (flRow_at (l := [fl0]) (List.mem_singleton.2 rfl))
      rw [hnone tx nx] at hsp
      refine PCallOb.mkR [flRow b4 [fl0]] [(⟨b3, .cells fl0.cells.toArray 55 (0, 0)⟩ : Blk)] _ (.swap _ _ _) hsp (fun v I' M' h x hx => by rw [h.2.1]; exact hx) ?_
      rintro v K3 N3 hK3 ⟨-, rfl, rfl⟩
      refine StoreOb.to [flRow b4 [fl0]] _ _ _ rfl rfl rfl rfl fl0.cells rfl ?_
      exact ⟨K3, fun b o h => hK3 _ _ (hK2 _ _ h), .sub (List.nil_sublist _) .refl, .cons .refl (.cons .refl (.cons .refl .nil)), .cons rfl .nil⟩
    refine And.intro ?_ ?_
    · refine PCallOb.mk _ (Rule_spec (s := cB 98) (by decide)) ?_
      rintro v K2 N2 hK2 ⟨-, tx, rfl, htx, nx, rx, rfl⟩
      refine And.intro ?_ ?_
      · refine MakeOb.mk 1 1 rfl rfl (Nat.le_refl _) (by decide) (by decide) ?_
        refine AllocOb.mk fun b4 hb4 hbM4 => ?_
        refine And.intro ?_ ?_
        · have hsp := FTree_spec (M0 := [flRow b4 [fl0]]) (lc := 1) (hT2.mono hK2) (hg1.mono hK2) htx (flRow_at (l := [fl0]) (List.mem_singleton.2 rfl))
          rw [hnone tx nx] at hsp
          refine CallOb.mk [flRow b4 [fl0]] [] _ (.refl _) hsp ?_
          rintro v K3 N3 - ⟨hK3, rfl, rfl⟩
          refine AllocOb.mk fun b3 hb3 hbM3 => ?_
          refine StoreOb.to [] _ _ _ rfl rfl rfl rfl fl0.cells rfl ?_
          exact ⟨K3, fun b o h => hK3 _ _ (hK2 _ _ h), .sub (List.nil_sublist _) .refl, .cons .refl (.cons .refl (.cons .refl .nil)), .cons rfl .nil⟩
        refine AllocOb.mk fun b3 hb3 hbM3 => ?_
        have hsp := FTree_spec (M0 := [flRow b4 [fl0]]) (lc := 1) (hT2.mono hK2) (hg1.mono hK2) htx (flRow_at (l := [fl0]) (List.mem_singleton.2 rfl))
        rw [hnone tx nx] at hsp
        refine PCallOb.mkR [flRow b4 [fl0]] [(⟨b3, .cells fl0.cells.toArray 55 (0, 0)⟩ : Blk)] _ (.swap _ _ _) hsp (fun v I' M' h x hx => by rw [h.2.1]; exact hx) ?_
        rintro v K3 N3 hK3 ⟨-, rfl, rfl⟩
        refine StoreOb.to [flRow b4 [fl0]] _ _ _ rfl rfl rfl rfl fl0.cells rfl ?_
        exact ⟨K3, fun b o h => hK3 _ _ (hK2 _ _ h), .sub (List.nil_sublist _) .refl, .cons .refl (.cons .refl (.cons .refl .nil)), .cons rfl .nil⟩
      refine AllocOb.mk fun b3 hb3 hbM3 => ?_
      refine MakeOb.mk 1 1 rfl rfl (Nat.le_refl _) (by decide) (by decide) ?_
      refine AllocOb.mk fun b4 hb4 hbM4 => ?_
      have hsp := FTree_spec (M0 := [flRow b4 [fl0]]) (lc := 1) (hT2.mono hK2) (hg1.mono hK2) htx (flRow_at (l := [fl0]) (List.mem_singleton.2 rfl))
      rw [hnone tx nx] at hsp
      refine PCallOb.mkR [flRow b4 [fl0]] [(⟨b3, .cells fl0.cells.toArray 55 (0, 0)⟩ : Blk)] _ (.refl _) hsp (fun v I' M' h x hx => by rw [h.2.1]; exact hx) ?_
      rintro v K3 N3 hK3 ⟨-, rfl, rfl⟩
      refine StoreOb.to [flRow b4 [fl0]] _ _ _ rfl rfl rfl rfl fl0.cells rfl ?_
      exact ⟨K3, fun b o h => hK3 _ _ (hK2 _ _ h), .sub (List.nil_sublist _) .refl, .cons .refl (.cons .refl (.cons .refl .nil)), .cons rfl .nil⟩
    refine AllocOb.mk fun b3 hb3 hbM3 => ?_
    refine And.intro ?_ ?_
    · refine MakeOb.mk 1 1 rfl rfl (Nat.le_refl _) (by decide) (by decide) ?_
      refine AllocOb.mk fun b4 hb4 hbM4 => ?_
      refine PCallOb.mk _ (Rule_spec (s := cB 98) (by decide)) ?_
      rintro v K2 N2 hK2 ⟨-, tx, rfl, htx, nx, rx, rfl⟩
      have hsp := FTree_spec (M0 := [flRow b4 [fl0]]) (lc := 1) (hT2.mono hK2) (hg1.mono hK2) htx (flRow_at (l := [fl0]) (List.mem_singleton.2 rfl))
      rw [hnone tx nx] at hsp
      refine PCallOb.mkR [flRow b4 [fl0]] [(⟨b3, .cells fl0.cells.toArray 55 (0, 0)⟩ : Blk)] _ (.refl _) hsp (fun v I' M' h x hx => by rw [h.2.1]; exact hx) ?_
      rintro v K3 N3 hK3 ⟨-, rfl, rfl⟩
      refine StoreOb.to [flRow b4 [fl0]] _ _ _ rfl rfl rfl rfl fl0.cells rfl ?_
      exact ⟨K3, fun b o h => hK3 _ _ (hK2 _ _ h), .sub (List.nil_sublist _) .refl, .cons .refl (.cons .refl (.cons .refl .nil)), .cons rfl .nil⟩
    refine PCallOb.mk _ (Rule_spec (s := cB 98) (by decide)) ?_
    rintro v K2 N2 hK2 ⟨-, tx, rfl, htx, nx, rx, rfl⟩
    refine MakeOb.mk 1 1 rfl rfl (Nat.le_refl _) (by decide) (by decide) ?_
    refine AllocOb.mk fun b4 hb4 hbM4 => ?_
    have hsp := FTree_spec (M0 := [flRow b4 [fl0]]) (lc := 1) (hT2.mono hK2) (hg1.mono hK2) htx (flRow_at (l := [fl0]) (List.mem_singleton.2 rfl))
    rw [hnone tx nx] at hsp
    refine PCallOb.mkR [flRow b4 [fl0]] [(⟨b3, .cells fl0.cells.toArray 55 (0, 0)⟩ : Blk)] _ (.refl _) hsp (fun v I' M' h x hx => by rw [h.2.1]; exact hx) ?_
    rintro v K3 N3 hK3 ⟨-, rfl, rfl⟩
    refine StoreOb.to [flRow b4 [fl0]] _ _ _ rfl rfl rfl rfl fl0.cells rfl ?_
    exact ⟨K3, fun b o h => hK3 _ _ (hK2 _ _ h), .sub (List.nil_sublist _) .refl, .cons .refl (.cons .refl (.cons .refl .nil)), .cons rfl .nil⟩
end Go.V
