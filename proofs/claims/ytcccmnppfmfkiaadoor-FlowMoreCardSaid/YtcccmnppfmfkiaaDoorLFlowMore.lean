/-
  For every input bonsai/bonsailaw10.FlowMore returns true, and each argument reads behind the call as it read before: the given card, from the walk's contract. Conditions: those of the row itself.
-/
import Derived.Test.YtcccmnppfmfkiaaDoorK8
import Derived.Test.YtcccmnppfmfkiaaDoorK5
import Derived.Carry

/-
  Walk: bonsailaw10.FlowMore; its law.
-/
set_option linter.unusedVariables false
set_option linter.unusedSimpArgs false
namespace Go.V
open Go Go.Proofs

def orF (p q : Fl) : Fl := ⟨p.z || q.z, p.s || q.s, p.f || q.f⟩
theorem orF_le (p q : Fl) : p.le (orF p q) := within_iff.1 (by
  obtain ⟨a, b, c⟩ := p
  obtain ⟨d, e, f⟩ := q
  cases a <;> cases b <;> cases c <;> cases d <;> cases e <;> cases f <;> rfl)
def orL (l m : List Fl) : List Fl := List.zipWith orF l m
theorem orL_len {l m : List Fl} (h : l.length = m.length) : (orL l m).length = l.length := by
  simp [orL, h]
theorem orL_le : ∀ {l m : List Fl}, l.length = m.length → LeL l (orL l m)
  | [], [], _ => .nil
  | p :: l, q :: m, h => .cons (orF_le p q) (orL_le (by simpa using h))
theorem nodesP_of {g : Gr} {l m : List Fl} {t : Tr} (h : LeL l m) : (nodesP g l t = none ∧ nodesP g m t = none) ∨ ∃ r s, nodesP g l t = some r ∧ nodesP g m t = some s ∧ LeL r s := by
  unfold nodesP
  rw [← h.len]
  cases decide (l.length = g.n) && (right t && namedOk (placesL g.ds) t.ns) with
  | false => exact .inl ⟨rfl, rfl⟩
  | true => exact .inr ⟨_, _, rfl, rfl, nodes_mono h t.ns .nil⟩

structure MoreIn (x y : FA) (s : Nat × OS) : Prop where
  i : s.1 ≤ x.n
  os : s.2.ok 3 (((orL x.l y.l).take s.1).flatMap Fl.cells)

set_option maxRecDepth 100000 in
set_option maxHeartbeats 8000000 in
theorem flowMore_V {I : GH} (hT : Tabs I debL) {g : Gr} (hg : GrW I g) {x y : FA} (hx : FlW I x) (hy : FlW I y) {t : Tr} (ht : TrW I t) : SpecE Tryd.prog 8 [g.val, x.val, y.val, t.val] I [] fun v I' M' => v = .bool true := by
  refine specE_of_V [] TrydEOK Tryd.func8 rfl rfl rfl ?_
  intro B h0
  refine CallOb.mk [] [] _ (.refl _) (works10_spec hT) ?_
  rintro v I1 M1 - ⟨rfl, hI1, rfl⟩
  have hT1 := hT.mono hI1
  have hg1 := hg.mono hI1
  have ht1 := ht.mono hI1
  have hx1 := hx.mono hI1
  have hy1 := hy.mono hI1
  refine GuardOb.mk (fun _ => ?_) (fun h => by simp at h)
  refine AllocOb.mk fun b1 hb1 hbM1 => ?_
  have hos1 : OS.ok ⟨some b1, 1, 1, t.cells⟩ 2 ([t].flatMap Tr.cells) := ⟨rfl, (fun h => by cases h), fun g' _ => ⟨rfl, Nat.le_refl _, by show (1 : Nat) ≤ maxLen; decide, rfl⟩⟩
  refine CallOb.mk [⟨b1, .cells t.cells.toArray 25 (0, 0)⟩] [] _ (.refl _) (long10_spec hg1 (os0 := ⟨some b1, 1, 1, t.cells⟩) hos1 (fun t' h => by rw [List.mem_singleton] at h; subst h; exact ht1) (Nat.le_of_ble_eq_true rfl)) ?_
  rintro v I2 M2 - ⟨⟨r, rfl, hr⟩, rfl, rfl⟩
  have again : ∀ {c : Bool}, True := trivial
  refine GuardOb.mk (fun h => ?_) (fun h => ?_)
  rotate_left
  · refine CallOb.mk [] [] _ (.refl _) (works10_spec hT1) ?_
    rintro v I3 M3 - ⟨rfl, hI3, rfl⟩
    exact ⟨_, _, .refl, rfl⟩
  obtain ⟨hs, hst⟩ := hr h
  have hst := hst t (List.mem_singleton.2 rfl)
  refine GuardOb.mk (fun hlen => ?_) (fun hlen => ?_)
  rotate_left
  · refine CallOb.mk [] [] _ (.refl _) (works10_spec hT1) ?_
    rintro v I3 M3 - ⟨rfl, hI3, rfl⟩
    exact ⟨_, _, .refl, rfl⟩
  refine CondOb.mk (fun _ => ?_) (fun hne => ?_)
  · refine CallOb.mk [] [] _ (.refl _) (works10_spec hT1) ?_
    rintro v I3 M3 - ⟨rfl, hI3, rfl⟩
    exact ⟨_, _, .refl, rfl⟩
  have hok := hg1.ok hs
  have hot := ht1.ok hst
  have hgn := hok.n
  have hxn := hx.at_.n
  have hyn := hy.at_.n
  have hxl : x.n ≤ 500 := by
    have := of_decide_eq_false hlen
    omega
  have hxy : x.n = y.n := by
    simp only [Bool.not_eq_false', decide_eq_true_eq] at hne
    omega
  have hln : (orL x.l y.l).length = x.n := by rw [orL_len (by omega), hxn]
  refine LoopOb.inv (ι := Nat × OS) (fun s => { fl := [(1, .val x.val), (2, .val y.val), (4, .ref 4 0), (7, .ref 7 0), (9, .val s.2.val), (10, .val (.int .i64 s.1))], cl := [(4, [.slice g.a g.n g.c]), (7, t.cells)], gi := I2, mi := s.2.blk 55 }) (MoreIn x y) (fun s => x.n - s.1) ?_ ?_
  · exact ⟨(0, OS0), ⟨Nat.zero_le _, OS0_ok 3⟩, .refl, .cons .refl (.cons .refl (.cons .refl (.cons .refl (.cons .refl (.cons .refl .nil))))), .cons rfl (.cons rfl .nil)⟩
  rintro ⟨i, os⟩ ⟨hi, hos⟩
  simp only at hi hos
  have hosn : os.n = i := by
    have := (OS.rowAt Fl.cells 3 Fl.cells_len (I := I2) (e := 0) hos (by decide) (fun x h => h)).1
    simp only [List.length_take] at this
    omega
  refine CondOb.mk (fun h1 => ?_) (fun h1 => ?_)
  · have hlt : i < x.n := by simpa using h1
    have hlx : i < x.l.length := by omega
    have hly : i < y.l.length := by omega
    have hlty : i < y.n := by omega
    obtain ⟨ax, hax, hrx⟩ := hx1.at_.rd i hlx
    obtain ⟨ay, hay, hry⟩ := hy1.at_.rd i hly
    have hor : (orL x.l y.l).take (i + 1) = (orL x.l y.l).take i ++ [orF x.l[i] y.l[i]] := by
      rw [List.take_succ_eq_append_getElem (by omega)]
      simp [orL]
    generalize x.l[i] = p at hrx hor
    generalize y.l[i] = q at hry hor
    have rx : ∀ M k (h : k < 3), Rd I2 M ((ax.add (i * 3)).add k) 1 ((p.cells.drop k).take 1) := fun M k h => (hrx.sub (fun z hz => by cases hz)).part (k := k) (m := 1) (by omega)
    have ry : ∀ M k (h : k < 3), Rd I2 M ((ay.add (i * 3)).add k) 1 ((q.cells.drop k).take 1) := fun M k h => (hry.sub (fun z hz => by cases hz)).part (k := k) (m := 1) (by omega)
    have rx0 : ∀ M, Rd I2 M ((ax.add (i * 3)).add 0) 1 [.bool p.z] := fun M => rx M 0 (by decide)
    have rx1 : ∀ M, Rd I2 M ((ax.add (i * 3)).add 1) 1 [.bool p.s] := fun M => rx M 1 (by decide)
    have rx2 : ∀ M, Rd I2 M ((ax.add (i * 3)).add 2) 1 [.bool p.f] := fun M => rx M 2 (by decide)
    have ry0 : ∀ M, Rd I2 M ((ay.add (i * 3)).add 0) 1 [.bool q.z] := fun M => ry M 0 (by decide)
    have ry1 : ∀ M, Rd I2 M ((ay.add (i * 3)).add 1) 1 [.bool q.s] := fun M => ry M 1 (by decide)
    have ry2 : ∀ M, Rd I2 M ((ay.add (i * 3)).add 2) 1 [.bool q.f] := fun M => ry M 2 (by decide)
    have hfin : ∀ {g9 c9 : Nat} {cur9 : List Value}, cur9.length = c9 * 3 → os.n + 1 ≤ c9 → c9 ≤ maxLen → cur9.take ((os.n + 1) * 3) = ((orL x.l y.l).take i).flatMap Fl.cells ++ (orF p q).cells → MoreIn x y (i + 1, ⟨some g9, os.n + 1, c9, cur9⟩) := by
      intro g9 c9 cur9 q1 q2 q3 q4
      refine ⟨by simp only; omega, ?_⟩
      simp only
      rw [hor, List.flatMap_append]
      have := appm_ok hos (m := 1) (g := g9) (ys := (orF p q).cells) rfl q1 q2 q3 q4
      simpa using this
    refine CodeOb.draw TrydEOK rfl rfl rfl ?_
    -- BEGIN WAYS
    refine IdxOb.mk ax i hax rfl hlt ?_
    refine LoadOb.mk _ (rx0 _) ?_
    refine GuardOb.mk (fun g1 => ?_) (fun g1 => ?_)
    · refine IdxOb.mk ay i hay rfl hlty ?_
      refine LoadOb.mk _ (ry0 _) ?_
      refine IdxOb.mk ax i hax rfl hlt ?_
      refine LoadOb.mk _ (rx1 _) ?_
      refine GuardOb.mk (fun g2 => ?_) (fun g2 => ?_)
      · refine IdxOb.mk ay i hay rfl hlty ?_
        refine LoadOb.mk _ (ry1 _) ?_
        refine IdxOb.mk ax i hax rfl hlt ?_
        refine LoadOb.mk _ (rx2 _) ?_
        refine GuardOb.mk (fun g3 => ?_) (fun g3 => ?_)
        · refine IdxOb.mk ay i hay rfl hlty ?_
          refine LoadOb.mk _ (ry2 _) ?_
          have hc : (orF p q).cells = [.bool q.z, .bool q.s, .bool q.f] := by simp [orF, Fl.cells, g1, g2, g3]
          refine AllocOb.mk fun b2 hb2 hbM2 => ?_
          refine OtherOb.append TrydEOK rfl (by simp) (e := 55) rfl rfl rfl os hos rfl (m := 1) rfl (news := (orF p q).cells) (by decide) (blk_rd (b := b2) (cs := (orF p q).cells) (k := 0) (n := 3) (T := 55) (by rw [hc]; exact .head _) (Nat.le_of_ble_eq_true rfl)) rfl (Mr := [_]) (List.perm_append_comm (l₁ := [_])) (by simp only [maxLen]; omega) (by show (os.n + 1) * 3 ≤ _; omega) ?_
          intro g9 c9 cur9 q1 q2 q3 q4
          refine ArithOb.mk _ (next_wr (i := i) (by omega)) ?_
          exact ⟨(i + 1, ⟨some g9, os.n + 1, c9, cur9⟩), ⟨hfin q1 q2 q3 q4, by simp only; omega⟩, .sub (.cons_cons _ (List.nil_sublist _)) .refl, .cons .refl (.cons .refl (.cons .refl (.cons .refl (.cons .refl (.cons .refl .nil))))), .cons rfl (.cons rfl .nil)⟩
        · have hc : (orF p q).cells = [.bool q.z, .bool q.s, .bool true] := by simp [orF, Fl.cells, g1, g2, g3]
          refine AllocOb.mk fun b2 hb2 hbM2 => ?_
          refine OtherOb.append TrydEOK rfl (by simp) (e := 55) rfl rfl rfl os hos rfl (m := 1) rfl (news := (orF p q).cells) (by decide) (blk_rd (b := b2) (cs := (orF p q).cells) (k := 0) (n := 3) (T := 55) (by rw [hc]; exact .head _) (Nat.le_of_ble_eq_true rfl)) rfl (Mr := [_]) (List.perm_append_comm (l₁ := [_])) (by simp only [maxLen]; omega) (by show (os.n + 1) * 3 ≤ _; omega) ?_
          intro g9 c9 cur9 q1 q2 q3 q4
          refine ArithOb.mk _ (next_wr (i := i) (by omega)) ?_
          exact ⟨(i + 1, ⟨some g9, os.n + 1, c9, cur9⟩), ⟨hfin q1 q2 q3 q4, by simp only; omega⟩, .sub (.cons_cons _ (List.nil_sublist _)) .refl, .cons .refl (.cons .refl (.cons .refl (.cons .refl (.cons .refl (.cons .refl .nil))))), .cons rfl (.cons rfl .nil)⟩
      · refine IdxOb.mk ax i hax rfl hlt ?_
        refine LoadOb.mk _ (rx2 _) ?_
        refine GuardOb.mk (fun g3 => ?_) (fun g3 => ?_)
        · refine IdxOb.mk ay i hay rfl hlty ?_
          refine LoadOb.mk _ (ry2 _) ?_
          have hc : (orF p q).cells = [.bool q.z, .bool true, .bool q.f] := by simp [orF, Fl.cells, g1, g2, g3]
          refine AllocOb.mk fun b2 hb2 hbM2 => ?_
          refine OtherOb.append TrydEOK rfl (by simp) (e := 55) rfl rfl rfl os hos rfl (m := 1) rfl (news := (orF p q).cells) (by decide) (blk_rd (b := b2) (cs := (orF p q).cells) (k := 0) (n := 3) (T := 55) (by rw [hc]; exact .head _) (Nat.le_of_ble_eq_true rfl)) rfl (Mr := [_]) (List.perm_append_comm (l₁ := [_])) (by simp only [maxLen]; omega) (by show (os.n + 1) * 3 ≤ _; omega) ?_
          intro g9 c9 cur9 q1 q2 q3 q4
          refine ArithOb.mk _ (next_wr (i := i) (by omega)) ?_
          exact ⟨(i + 1, ⟨some g9, os.n + 1, c9, cur9⟩), ⟨hfin q1 q2 q3 q4, by simp only; omega⟩, .sub (.cons_cons _ (List.nil_sublist _)) .refl, .cons .refl (.cons .refl (.cons .refl (.cons .refl (.cons .refl (.cons .refl .nil))))), .cons rfl (.cons rfl .nil)⟩
        · have hc : (orF p q).cells = [.bool q.z, .bool true, .bool true] := by simp [orF, Fl.cells, g1, g2, g3]
          refine AllocOb.mk fun b2 hb2 hbM2 => ?_
          refine OtherOb.append TrydEOK rfl (by simp) (e := 55) rfl rfl rfl os hos rfl (m := 1) rfl (news := (orF p q).cells) (by decide) (blk_rd (b := b2) (cs := (orF p q).cells) (k := 0) (n := 3) (T := 55) (by rw [hc]; exact .head _) (Nat.le_of_ble_eq_true rfl)) rfl (Mr := [_]) (List.perm_append_comm (l₁ := [_])) (by simp only [maxLen]; omega) (by show (os.n + 1) * 3 ≤ _; omega) ?_
          intro g9 c9 cur9 q1 q2 q3 q4
          refine ArithOb.mk _ (next_wr (i := i) (by omega)) ?_
          exact ⟨(i + 1, ⟨some g9, os.n + 1, c9, cur9⟩), ⟨hfin q1 q2 q3 q4, by simp only; omega⟩, .sub (.cons_cons _ (List.nil_sublist _)) .refl, .cons .refl (.cons .refl (.cons .refl (.cons .refl (.cons .refl (.cons .refl .nil))))), .cons rfl (.cons rfl .nil)⟩
    · refine IdxOb.mk ax i hax rfl hlt ?_
      refine LoadOb.mk _ (rx1 _) ?_
      refine GuardOb.mk (fun g2 => ?_) (fun g2 => ?_)
      · refine IdxOb.mk ay i hay rfl hlty ?_
        refine LoadOb.mk _ (ry1 _) ?_
        refine IdxOb.mk ax i hax rfl hlt ?_
        refine LoadOb.mk _ (rx2 _) ?_
        refine GuardOb.mk (fun g3 => ?_) (fun g3 => ?_)
        · refine IdxOb.mk ay i hay rfl hlty ?_
          refine LoadOb.mk _ (ry2 _) ?_
          have hc : (orF p q).cells = [.bool true, .bool q.s, .bool q.f] := by simp [orF, Fl.cells, g1, g2, g3]
          refine AllocOb.mk fun b2 hb2 hbM2 => ?_
          refine OtherOb.append TrydEOK rfl (by simp) (e := 55) rfl rfl rfl os hos rfl (m := 1) rfl (news := (orF p q).cells) (by decide) (blk_rd (b := b2) (cs := (orF p q).cells) (k := 0) (n := 3) (T := 55) (by rw [hc]; exact .head _) (Nat.le_of_ble_eq_true rfl)) rfl (Mr := [_]) (List.perm_append_comm (l₁ := [_])) (by simp only [maxLen]; omega) (by show (os.n + 1) * 3 ≤ _; omega) ?_
          intro g9 c9 cur9 q1 q2 q3 q4
          refine ArithOb.mk _ (next_wr (i := i) (by omega)) ?_
          exact ⟨(i + 1, ⟨some g9, os.n + 1, c9, cur9⟩), ⟨hfin q1 q2 q3 q4, by simp only; omega⟩, .sub (.cons_cons _ (List.nil_sublist _)) .refl, .cons .refl (.cons .refl (.cons .refl (.cons .refl (.cons .refl (.cons .refl .nil))))), .cons rfl (.cons rfl .nil)⟩
        · have hc : (orF p q).cells = [.bool true, .bool q.s, .bool true] := by simp [orF, Fl.cells, g1, g2, g3]
          refine AllocOb.mk fun b2 hb2 hbM2 => ?_
          refine OtherOb.append TrydEOK rfl (by simp) (e := 55) rfl rfl rfl os hos rfl (m := 1) rfl (news := (orF p q).cells) (by decide) (blk_rd (b := b2) (cs := (orF p q).cells) (k := 0) (n := 3) (T := 55) (by rw [hc]; exact .head _) (Nat.le_of_ble_eq_true rfl)) rfl (Mr := [_]) (List.perm_append_comm (l₁ := [_])) (by simp only [maxLen]; omega) (by show (os.n + 1) * 3 ≤ _; omega) ?_
          intro g9 c9 cur9 q1 q2 q3 q4
          refine ArithOb.mk _ (next_wr (i := i) (by omega)) ?_
          exact ⟨(i + 1, ⟨some g9, os.n + 1, c9, cur9⟩), ⟨hfin q1 q2 q3 q4, by simp only; omega⟩, .sub (.cons_cons _ (List.nil_sublist _)) .refl, .cons .refl (.cons .refl (.cons .refl (.cons .refl (.cons .refl (.cons .refl .nil))))), .cons rfl (.cons rfl .nil)⟩
      · refine IdxOb.mk ax i hax rfl hlt ?_
        refine LoadOb.mk _ (rx2 _) ?_
        refine GuardOb.mk (fun g3 => ?_) (fun g3 => ?_)
        · refine IdxOb.mk ay i hay rfl hlty ?_
          refine LoadOb.mk _ (ry2 _) ?_
          have hc : (orF p q).cells = [.bool true, .bool true, .bool q.f] := by simp [orF, Fl.cells, g1, g2, g3]
          refine AllocOb.mk fun b2 hb2 hbM2 => ?_
          refine OtherOb.append TrydEOK rfl (by simp) (e := 55) rfl rfl rfl os hos rfl (m := 1) rfl (news := (orF p q).cells) (by decide) (blk_rd (b := b2) (cs := (orF p q).cells) (k := 0) (n := 3) (T := 55) (by rw [hc]; exact .head _) (Nat.le_of_ble_eq_true rfl)) rfl (Mr := [_]) (List.perm_append_comm (l₁ := [_])) (by simp only [maxLen]; omega) (by show (os.n + 1) * 3 ≤ _; omega) ?_
          intro g9 c9 cur9 q1 q2 q3 q4
          refine ArithOb.mk _ (next_wr (i := i) (by omega)) ?_
          exact ⟨(i + 1, ⟨some g9, os.n + 1, c9, cur9⟩), ⟨hfin q1 q2 q3 q4, by simp only; omega⟩, .sub (.cons_cons _ (List.nil_sublist _)) .refl, .cons .refl (.cons .refl (.cons .refl (.cons .refl (.cons .refl (.cons .refl .nil))))), .cons rfl (.cons rfl .nil)⟩
        · have hc : (orF p q).cells = [.bool true, .bool true, .bool true] := by simp [orF, Fl.cells, g1, g2, g3]
          refine AllocOb.mk fun b2 hb2 hbM2 => ?_
          refine OtherOb.append TrydEOK rfl (by simp) (e := 55) rfl rfl rfl os hos rfl (m := 1) rfl (news := (orF p q).cells) (by decide) (blk_rd (b := b2) (cs := (orF p q).cells) (k := 0) (n := 3) (T := 55) (by rw [hc]; exact .head _) (Nat.le_of_ble_eq_true rfl)) rfl (Mr := [_]) (List.perm_append_comm (l₁ := [_])) (by simp only [maxLen]; omega) (by show (os.n + 1) * 3 ≤ _; omega) ?_
          intro g9 c9 cur9 q1 q2 q3 q4
          refine ArithOb.mk _ (next_wr (i := i) (by omega)) ?_
          exact ⟨(i + 1, ⟨some g9, os.n + 1, c9, cur9⟩), ⟨hfin q1 q2 q3 q4, by simp only; omega⟩, .sub (.cons_cons _ (List.nil_sublist _)) .refl, .cons .refl (.cons .refl (.cons .refl (.cons .refl (.cons .refl (.cons .refl .nil))))), .cons rfl (.cons rfl .nil)⟩
    -- END WAYS
  have hge : i = x.n := by have : ¬ (i : Int) < (x.n : Int) := of_decide_eq_false h1; omega
  subst hge
  rw [List.take_of_length_le (by omega)] at hos
  have hle : LeL x.l (orL x.l y.l) := orL_le (by omega)
  have hall := OS.fsAt (I := I2) (M := os.blk 55) (e := 55) hos (fun z hz => hz)
  generalize orL x.l y.l = al at hall hle
  refine CallOb.mk [] _ _ (.refl _) (FNodes_spec (M0 := []) (lc := x.c) hT1 hok hot hx1.at_) ?_
  rintro v I3 M3 - ⟨hI3, hA⟩
  have hsp := FNodes_spec (M0 := os.blk 55) (lc := os.c) (hT1.mono hI3) (hok.mono hI3) (hot.mono hI3) (hall.mono hI3)
  rcases nodesP_of (g := g) (t := t) hle with ⟨hn1, hn2⟩ | ⟨r, s, hn1, hn2, hrs⟩
  · rcases hA with ⟨-, rfl, rfl⟩ | ⟨r, b, hn, -⟩
    rotate_left
    · rw [hn1] at hn
      cases hn
    refine CallOb.mk (os.blk 55) [] _ perm_nil hsp ?_
    rintro v I4 M4 - ⟨hI4, ⟨-, rfl, rfl⟩ | ⟨r, b, hn, -⟩⟩
    rotate_left
    · rw [hn2] at hn
      cases hn
    refine GuardOb.mk (fun _ => ?_) (fun h => by simp at h)
    refine CondOb.mk (fun h => by simp at h) (fun _ => ?_)
    refine LoopOb.inv (ι := Nat) (fun j => { fl := [(11, .val (.slice none 0 0)), (15, .val (.int .i64 j))], gi := I4, mi := [] }) (fun _ => True) (fun _ => 0) ?_ ?_
    · exact ⟨0, trivial, .sub (List.nil_sublist _) .refl, .cons .refl (.cons .refl .nil), .nil⟩
    intro j _
    refine CondOb.mk (fun h => by simp at h; omega) (fun _ => ?_)
    exact ⟨_, _, .refl, rfl⟩
  · rcases hA with ⟨hn, -⟩ | ⟨r', b, hn, rfl, rfl⟩
    · rw [hn1] at hn
      cases hn
    rw [hn1] at hn
    cases hn
    refine CallOb.mk (os.blk 55) [flRow b r] _ (List.perm_append_comm (l₁ := [_])) hsp ?_
    rintro v I4 M4 - ⟨hI4, ⟨hn, -⟩ | ⟨s', b', hn, rfl, rfl⟩⟩
    · rw [hn2] at hn
      cases hn
    rw [hn2] at hn
    cases hn
    have hrl := (nodesP_len hn1).2
    have hsl := (nodesP_len hn2).2
    have htn := hot.n
    refine GuardOb.mk (fun _ => ?_) (fun h => by simp at h)
    refine CondOb.mk (fun h => by simp at h) (fun _ => ?_)
    refine LoopOb.inv (ι := Nat) (fun j => { fl := [(11, .val (.slice (some ⟨b, 0, none⟩) t.n t.n)), (13, .val (.slice (some ⟨b', 0, none⟩) t.n t.n)), (15, .val (.int .i64 j))], gi := I4, mi := [flRow b' s, flRow b r] }) (fun j => j ≤ t.n) (fun j => t.n - j) ?_ ?_
    · exact ⟨0, Nat.zero_le _, .sub (.cons_cons _ (List.sublist_append_right _ _)) .refl, .cons .refl (.cons .refl (.cons .refl .nil)), .nil⟩
    intro j hj
    refine CondOb.mk (fun h => ?_) (fun _ => ?_)
    · have hjn : j < t.n := by simpa using h
      have hjr : j < r.length := by omega
      have hjs : j < s.length := by omega
      refine CodeOb.draw TrydEOK rfl rfl rfl ?_
      refine IdxOb.mk ⟨b, 0, none⟩ j rfl rfl hjn ?_
      refine LoadOb.mk _ (flRow_rd (.tail _ (.head _)) hjr) ?_
      refine IdxOb.mk ⟨b', 0, none⟩ j rfl rfl hjn ?_
      refine LoadOb.mk _ (flRow_rd (.head _) hjs) ?_
      refine CallOb.mk [] _ _ (.refl _) (Within_spec (M := []) r[j] s[j]) ?_
      rintro v K3 M5 - ⟨rfl, rfl, rfl⟩
      have hw : within r[j] s[j] = true := by
        refine within_iff.2 ?_
        have := hrs.getD j
        rwa [List.getD_eq_getElem?_getD, List.getD_eq_getElem?_getD, List.getElem?_eq_getElem hjr, List.getElem?_eq_getElem hjs] at this
      refine CondOb.mk (fun h4 => ?_) (fun _ => ?_)
      · simp [hw] at h4
      refine ArithOb.mk _ (next_wr (i := j) (by have := hot.rs.cap; omega)) ?_
      exact ⟨j + 1, ⟨by omega, by omega⟩, .refl, .cons .refl (.cons .refl (.cons .refl .nil)), .nil⟩
    · exact ⟨_, _, .refl, rfl⟩
end Go.V

/-
  For every input bonsai/bonsailaw10.FlowMore returns true, and each argument reads behind the call as it read before: the given card, from the walk's contract. Conditions: those of the row itself.
-/
set_option linter.unusedVariables false
set_option linter.unusedSimpArgs false
namespace Go.Proofs.YtcccmnppfmfkiaaDoor
open Go Go.V Go.ChangeShapes Go.WideShapes Go.ChangeAt Go.RowKit

theorem flowMore_laid (os : Os) : laidMet Tryd.prog Rows.flowMoreRow.laid ((laidWorld os).forCall (fun _ _ => 0) ⟨#[], #[.agg #[.slice none 0 0], .slice none 0 0, .slice none 0 0, .agg #[.slice none 0 0, .int .i64 0]], []⟩).memory :=
  laidMet_of_run' 8 (by kernel_rfl) (by kernel_rfl)
theorem flowMore_reads (os : Os) {H : Type} (enc : TypeId × Value → H) : ∃ places, DataW.whole enc Tryd.prog ((laidWorld os).forCall (fun _ _ => 0) ⟨#[], #[.agg #[.slice none 0 0], .slice none 0 0, .slice none 0 0, .agg #[.slice none 0 0, .int .i64 0]], []⟩).memory Tryd.f8.params.toList Rows.flowMoreSpec.vars false (#[.agg #[.slice none 0 0], .slice none 0 0, .slice none 0 0, .agg #[.slice none 0 0, .int .i64 0]] : Array Value).toList 8 = some ([.agg [.nil], .nil, .nil, .agg [.nil, .lit (.int .i64 0)]], [], places) :=
  ⟨[], by kernel_rfl⟩
theorem flowMore_params : (Tryd.f8.params.toList.all fun t => Tryd.prog.readableRec t && decide (t < Tryd.prog.types.size) && !Tryd.prog.wantsStandIn t) = true := by kernel_rfl

set_option maxRecDepth 100000 in
theorem flowMore_contract (H : Type) (enc : TypeId × Value → H) (W : World) (base : Nat) (args : Array Value) (ds gs : List (DataW H)) (before : List MemPlace)
    (hval : ∀ (j : Nat) t v, Tryd.f8.params[j]? = some t → args[j]? = some v → Value.okWide Tryd.prog W .any base t v)
    (hW : DataW.Whole enc Tryd.prog Tryd.f8.params.toList Rows.flowMoreSpec.vars false W args.toList ds gs before) (hL : laidMetH Tryd.prog Rows.flowMoreRow.laid W) :
    Calls Tryd.prog 8 args W fun e W' => ∃ v, e = .returned v ∧ Rows.flowMoreSpec.post enc Tryd.prog Tryd.f8 false true false false W args v W' := by
  have hW' := hW
  obtain ⟨p, q, hA0, hV, rfl, hfz, hnd⟩ := hW
  have hA : DataW.TrodAll enc Tryd.prog W 0 (fun _ => true) true Tryd.f8.params.toList args.toList ds p := hA0
  have hAk := hA
  rw [Tryd.params8] at hA
  obtain ⟨rfl, rfl⟩ := trodVars_none hV
  have hlt : ∀ x ∈ p, x.block < W.heap.size := fun x hx => hW'.lt x (by simp [hx])
  have hT : Tabs (ghost W) debL := tabs_ghost hL rfl
  obtain ⟨v1, v2, v3, v4, d1, d2, d3, d4, p1, p2, p3, p4, rfl, rfl, rfl, h1, h2, h3, h4⟩ := trodAll_four hA
  obtain ⟨g1, rfl, hg1⟩ := arg_grammar h1 (hval 0 38 _ (by kernel_rfl) rfl)
  obtain ⟨g2, rfl, hg2⟩ := arg_flows h2 (hval 1 56 _ (by kernel_rfl) rfl)
  obtain ⟨g3, rfl, hg3⟩ := arg_flows h3 (hval 2 56 _ (by kernel_rfl) rfl)
  obtain ⟨g4, rfl, hg4⟩ := arg_tree h4 (hval 3 25 _ (by kernel_rfl) rfl)
  refine (calls_of_specE (flowMore_V hT hg1 hg2 hg3 hg4)).mono ?_
  rintro e W' ⟨v, rfl, ⟨I', M', rfl⟩, hK⟩
  refine ⟨_, rfl, post_of_old (pa := _) (pv := []) hW' (fun _ _ _ => ?_) (fun sp hs => trodAll_stays laidOut hK (fun t ht => ?_) hAk hlt sp (fun p hp => hs p (List.mem_append_left _ hp))) (fun _ _ => rfl) rfl hK (ok_one (by kernel_rfl) rfl (okWide_bool_mk Tryd.underlying4 _))⟩
  · exact trodAll_cons_mk (shut_bool Tryd.underlying4 _) trodAll_mk0
  · have := all_mem flowMore_params ht
    simp only [Bool.and_eq_true, decide_eq_true_eq] at this
    exact this.1

set_option maxRecDepth 100000 in
theorem flowMore_lifted (os : Os) (started : os.Started) (H : Type) (enc : TypeId × Value → H) (F : Stop.Interp) :
    ReturnsInHanded {} Tryd.checked os 8 .any ((OpenSpec.ofChange Rows.flowMoreSpec).preRow enc Tryd.prog Tryd.f8 Rows.flowMoreRow.domain false Rows.flowMoreRow.laid) (((OpenSpec.ofChange Rows.flowMoreSpec).at F).post enc Tryd.prog Tryd.f8 false true false false) := by
  obtain ⟨places, hx⟩ := flowMore_reads os enc
  refine returnsInHanded_of_row (C := Tryd.checked) (s := OpenSpec.ofChange Rows.flowMoreSpec) own started (by kernel_rfl) Tryd.func8
    (witness_row_at (enc := enc) (C := Tryd.checked) false (laidWorld os) #[.agg #[.slice none 0 0], .slice none 0 0, .slice none 0 0, .agg #[.slice none 0 0, .int .i64 0]] rfl (by kernel_rfl) (by kernel_rfl) (by kernel_rfl)
      (OpenSpec.preRow_of_cond 8 hx (by kernel_rfl) (fun k hk => by cases hk) (by kernel_rfl) (flowMore_laid os))) ?_
  intro W base args ds gs before hval hW _ _ _ hL _ _
  exact flowMore_contract H enc W base args ds gs before hval hW hL

theorem flowMore_said : Rows.FlowMoreSaid :=
  OpenClaim.holds_of_cond 8 Tryd.f8 rfl rfl rfl rfl rfl rfl rfl ⟨rfl, rfl, rfl, rfl, rfl⟩ rfl rfl rfl rfl rfl (by kernel_rfl) Tryd.func8 (by kernel_rfl)
    (of_decide_eq_true (by kernel_rfl)) (by unfold Func.isWrapper; first | (rw [if_pos (by decide +kernel)]; kernel_rfl) | (rw [if_neg (by decide +kernel)]; exact ⟨rfl, rfl⟩))
    (fun os started H enc _ F => by rw [OpenClaim.pre_eq_preRow]; exact flowMore_lifted os started H enc F)

theorem flowMore_plain (f : FuncId) (fn : Func) (hf : Tryd.pinned.checked.prog.funcNamed "bonsai/bonsailaw10.FlowMore" = some f) (hfn : Tryd.pinned.checked.prog.funcs[f]? = some fn) :
    false = Tryd.pinned.checked.prog.looks [] ∧ ∀ (j : Nat) t, fn.params[j]? = some t → Tryd.pinned.checked.prog.wantsStandIn t = false := by
  obtain rfl : f = 8 := Option.some.inj ((show Tryd.prog.funcNamed "bonsai/bonsailaw10.FlowMore" = some 8 by kernel_rfl).symm.trans hf) |>.symm
  obtain rfl : fn = Tryd.f8 := (Option.some.inj (Tryd.func8.symm.trans hfn)).symm
  refine ⟨by kernel_rfl, fun j t ht => ?_⟩
  have := all_mem flowMore_params (x := t) (by simpa using Array.mem_of_getElem? ht)
  simp only [Bool.and_eq_true, Bool.not_eq_true', decide_eq_true_eq] at this
  exact this.2

/-- The card. -/
theorem flowMore_card : Rows.FlowMoreCardSaid :=
  Claim7.holds_tied_plain_at .later [] _ _ _ _ flowMore_said (fun _ h => by cases h) (by kernel_rfl) (fun _ h => by cases h) flowMore_row_tie rfl ⟨rfl, rfl⟩ (by kernel_rfl) rfl flowMore_plain (by kernel_rfl)
end Go.Proofs.YtcccmnppfmfkiaaDoor
