/-
  For every input bonsai/bonsailaw12.ReachNames returns true, and each argument reads behind the call as it read before: the given card, from the walk's contract. Conditions: those of the row itself.
-/
import Derived.Test.YtcccmnppfmfkiaaDoorK6
import Derived.Test.YtcccmnppfmfkiaaDoorK5
import Derived.Carry

/-
  The walk of bonsailaw12.ReachNames.
-/
set_option linter.unusedVariables false
set_option linter.unusedSimpArgs false
namespace Go.V
open Go Go.Proofs

/-- A row of numbers, its length written out. -/
theorem rw_is {I : GH} {x : Rw} (hx : x.ok I) {l : List Int} (hl : x.l = l) {n : Nat} (hn : l.length = n) : ∃ a c, x = ⟨a, n, c, l⟩ := by
  obtain ⟨a, m, c, l'⟩ := x
  simp only at hl
  subst hl
  have := hx.n
  simp only at this
  refine ⟨a, c, ?_⟩
  rw [← hn, ← this]

def namesDs (p1 p2 p3 : At4) : List Df := [⟨cS 97, tOf 4 nS [leafNd 3 (cS 99), leafNd 3 (cS 98), leafNd 3 (cS 99)] p1⟩, ⟨cS 98, tOf 8 nS [leafNd 3 (cS 98)] p2⟩, ⟨cS 99, tOf 9 (cS 97) [leafNd 2 (cS 97)] p3⟩]
def namesG (b : Nat) (p1 p2 p3 : At4) : Gr := ⟨namesDs p1 p2 p3, some ⟨b, 0, none⟩, 3, 3⟩
def badDs (p1 p2 : At4) (p3 p4 : Option Addr × Nat) : List Df := [⟨cS 97, tOf 4 nS [leafNd 3 (cS 98), leafNd 2 (cS 120)] p1⟩, ⟨cS 98, tOf 5 nS [leafNd 3 (cS 99), leafNd 0 nS] p2⟩, ⟨cS 99, tLeaf 3 (cS 122) p3⟩, ⟨cS 100, tLeaf 3 (cS 97) p4⟩]
def badG (b : Nat) (p1 p2 : At4) (p3 p4 : Option Addr × Nat) : Gr := ⟨badDs p1 p2 p3 p4, some ⟨b, 0, none⟩, 4, 4⟩
def noG : Gr := ⟨[], none, 0, 0⟩
section
variable (b : Nat) (p1 p2 p3 : At4)
theorem names_calls0 : callsG debL (namesG b p1 p2 p3) 0 = [1, 2] := by kernel_rfl
theorem names_calls2 : callsG debL (namesG b p1 p2 p3) 2 = [] := by kernel_rfl
theorem names_calls3 : callsG debL (namesG b p1 p2 p3) 3 = [] := by kernel_rfl
theorem names_callsM : callsG debL (namesG b p1 p2 p3) (-1) = [] := by kernel_rfl
theorem names_from2 : fromG debL (namesG b p1 p2 p3) 2 = [2] := by kernel_rfl
theorem names_from3 : fromG debL (namesG b p1 p2 p3) 3 = [] := by kernel_rfl
theorem names_self1 : selfG debL (namesG b p1 p2 p3) 1 = true := by kernel_rfl
theorem names_self2 : selfG debL (namesG b p1 p2 p3) 2 = false := by kernel_rfl
theorem names_self3 : selfG debL (namesG b p1 p2 p3) 3 = false := by kernel_rfl
theorem names_selfM : selfG debL (namesG b p1 p2 p3) (-1) = false := by kernel_rfl
theorem names_useless : uselessG debL (namesG b p1 p2 p3) = [] := by kernel_rfl
theorem names_rounds : roundsG debL (namesG b p1 p2 p3) = [[0], [1], [2]] := by kernel_rfl
end
/-- A grammar that may not be. -/
structure NoMay (g : Gr) : Prop where
  c : callsG debL g 0 = []
  f : fromG debL g 0 = []
  u : uselessG debL g = []
  r : roundsG debL g = []
  s : selfG debL g 1 = false
theorem not_no : NoMay noG := ⟨by kernel_rfl, by kernel_rfl, by kernel_rfl, by kernel_rfl, by kernel_rfl⟩
theorem not_bad (b : Nat) (p1 p2 : At4) (p3 p4 : Option Addr × Nat) : NoMay (badG b p1 p2 p3 p4) := ⟨by kernel_rfl, by kernel_rfl, by kernel_rfl, by kernel_rfl, by kernel_rfl⟩
theorem no_told {I : GH} (hT : Tabs I debL) : Told I (.agg #[.slice none 0 0]) noG := ⟨hT, ⟨⟨rfl, ⟨Nat.le_refl _, by show 0 * 48 ≤ _; omega⟩, .inl rfl⟩, fun d hd => by cases hd⟩, (by decide : (0 : Nat) ≤ 1099511627776), rfl⟩

theorem ins_ne {I : GH} {b c : Nat} {o : Obj} (h : c ≠ b) : ins I b o c = I c := by
  unfold ins
  rw [beq_ne h]
  rfl
theorem StoreOb.to {M : List Blk} {a : Addr} {vs : List Value} {K : List Blk → Prop} (pre post : List Blk) (cs : Array Value) (T : Nat) (hM : M = pre ++ ⟨a.block, .cells cs T (0, 0)⟩ :: post) (hs : a.spot = none) (hb : Nat.ble (a.off + vs.length) cs.size = true) (h1 : allOne vs = true)
    (cs' : List Value) (he : splice cs.toList a.off vs = cs') (k : K (pre ++ ⟨a.block, .cells cs'.toArray T (0, 0)⟩ :: post)) : StoreOb M a vs K :=
  ⟨pre, post, cs, T, hM, hs, Nat.le_of_ble_eq_true hb, h1, by rw [he]; exact k⟩
/-- The loop over what may not be. -/
def badCells (b7 : Nat) : List Value := [.slice none 0 0, .slice (some ⟨b7, 0, none⟩) 4 4]
def badLP (b4 b8 : Nat) (x : GH × Nat) : LP := { fl := [(1, .ref 1 0), (73, .val (.slice (some ⟨b8, 0, none⟩) 2 2)), (74, .val (.int .i64 2)), (75, .val (.int .i64 x.2))], cl := [(1, [.slice (some ⟨b4, 0, none⟩) 3 3])], gi := x.1 }
structure BadInv (b4 b7 b8 : Nat) (p1 p2 p3 q1 q2 : At4) (q5 q4 : Option Addr × Nat) (I : GH) : Prop where
  names : Told I (.agg #[.slice (some ⟨b4, 0, none⟩) 3 3]) (namesG b4 p1 p2 p3)
  no : Told I (.agg #[.slice none 0 0]) noG
  bad : Told I (.agg #[.slice (some ⟨b7, 0, none⟩) 4 4]) (badG b7 q1 q2 q5 q4)
  row : ∃ T, I b8 = some (.cells (badCells b7).toArray T (0, 0))
theorem BadInv.mono {b4 b7 b8 : Nat} {p1 p2 p3 q1 q2 : At4} {q5 q4 : Option Addr × Nat} {I I' : GH} (h : BadInv b4 b7 b8 p1 p2 p3 q1 q2 q5 q4 I) (hI : ∀ b o, I b = some o → I' b = some o) : BadInv b4 b7 b8 p1 p2 p3 q1 q2 q5 q4 I' :=
  ⟨h.names.mono hI, h.no.mono hI, h.bad.mono hI, h.row.imp fun T h => hI _ _ h⟩
theorem BadInv.at {b4 b7 b8 : Nat} {p1 p2 p3 q1 q2 : At4} {q5 q4 : Option Addr × Nat} {I : GH} (h : BadInv b4 b7 b8 p1 p2 p3 q1 q2 q5 q4 I) {i : Nat} (hi : i < 2) {M : List Blk} :
    ∃ sa sn sc g, NoMay g ∧ Told I (.agg #[.slice sa sn sc]) g ∧ Rd I M ((⟨b8, 0, none⟩ : Addr).add (i * 1)) 1 [.slice sa sn sc] := by
  obtain ⟨T, hT⟩ := h.row
  match i, hi with
  | 0, _ => exact ⟨_, _, _, _, not_no, h.no, rfl, _, _, _, .inl hT, rfl, rfl⟩
  | 1, _ => exact ⟨_, _, _, _, not_bad .., h.bad, rfl, _, _, _, .inl hT, rfl, rfl⟩

theorem len0 : (0 : Nat) ≤ 140737488355328 := Nat.zero_le _
theorem names_told {I : GH} (hT : Tabs I debL) {b : Nat} {p1 p2 p3 : At4} (hb : I b = none) (hds : ∀ d ∈ namesDs p1 p2 p3, d.ok I) : Told (ins I b (defBlk b (namesDs p1 p2 p3)).obj) (.agg #[.slice (some ⟨b, 0, none⟩) 3 3]) (namesG b p1 p2 p3) :=
  ⟨hT.mono (ins_le hb), defBlk_gr rfl (by decide) hb hds, (by decide : (3 : Nat) ≤ 1099511627776), rfl⟩
theorem bad_told {I : GH} (hT : Tabs I debL) {b : Nat} {p1 p2 : At4} {p3 p4 : Option Addr × Nat} (hb : I b = none) (hds : ∀ d ∈ badDs p1 p2 p3 p4, d.ok I) : Told (ins I b (defBlk b (badDs p1 p2 p3 p4)).obj) (.agg #[.slice (some ⟨b, 0, none⟩) 4 4]) (badG b p1 p2 p3 p4) :=
  ⟨hT.mono (ins_le hb), defBlk_gr rfl (by decide) hb hds, (by decide : (4 : Nat) ≤ 1099511627776), rfl⟩

set_option maxHeartbeats 8000000 in
theorem names_V {I : GH} (hT : Tabs I debL) : SpecE Tryd.prog 3 [] I [] fun v I' M' => v = .bool true := by
  refine specE_of_V [] TrydEOK Tryd.func3 rfl rfl rfl ?_
  intro B h0
  refine CallOb.mk [] [] _ (.refl _) (works_spec hT) ?_
  rintro v I1 M1 - ⟨rfl, hI1, rfl⟩
  refine CondOb.mk (fun h => by simp at h) (fun _ => ?_)
  have hT1 := hT.mono hI1
  -- the grammar
  refine CallOb.mk [] _ _ (.refl _) (Rule_spec (s := cS 99) (by decide)) ?_
  rintro v I2 M2 hI2 ⟨-, t1, rfl, ht1, n1, r1, rfl⟩
  refine CallOb.mk [] _ _ (.refl _) (Rule_spec (s := cS 98) (by decide)) ?_
  rintro v I3 M3 hI3 ⟨-, t2, rfl, ht2, n2, r2, rfl⟩
  refine CallOb.mk [] _ _ (.refl _) (Rule_spec (s := cS 99) (by decide)) ?_
  rintro v I4 M4 hI4 ⟨-, t3, rfl, ht3, n3, r3, rfl⟩
  refine AllocOb.mk fun b1 hb1 hbM1 => ?_
  have hL : ∀ x ∈ [((t1, 3, cS 99) : Lf), (t2, 3, cS 98), (t3, 3, cS 99)], Lf.ok I4 x := by
    simp only [List.mem_cons, List.not_mem_nil, or_false]
    rintro x (rfl | rfl | rfl)
    · exact lf_ok ((ht1.mono hI3).mono hI4) n1 r1 (by kernel_rfl)
    · exact lf_ok (ht2.mono hI4) n2 r2 (by kernel_rfl)
    · exact lf_ok ht3 n3 r3 (by kernel_rfl)
  refine CallOb.mk [kidBlk b1 [(t1, 3, cS 99), (t2, 3, cS 98), (t3, 3, cS 99)]] _ _ (.refl _) (of_leaf (k0 := 4) (s0 := nS) (cc := 3) (Nat.le_of_ble_eq_true rfl) (by decide) (by decide) hL (by kernel_rfl)) ?_
  rintro v I5 M5 hI5 ⟨-, rfl, t4, ka4, kc4, rfl, ht4, r4, n4⟩
  refine CallOb.mk [] _ _ (.refl _) (Rule_spec (s := cS 98) (by decide)) ?_
  rintro v I6 M6 hI6 ⟨-, t5, rfl, ht5, n5, r5, rfl⟩
  refine AllocOb.mk fun b2 hb2 hbM2 => ?_
  have hL2 : ∀ x ∈ [((t5, 3, cS 98) : Lf)], Lf.ok I6 x := by
    simp only [List.mem_cons, List.not_mem_nil, or_false]
    rintro x rfl
    exact lf_ok ht5 n5 r5 (by kernel_rfl)
  refine CallOb.mk [kidBlk b2 [(t5, 3, cS 98)]] _ _ (.refl _) (of_leaf (k0 := 8) (s0 := nS) (cc := 1) (Nat.le_of_ble_eq_true rfl) (by decide) (by decide) hL2 (by kernel_rfl)) ?_
  rintro v I7 M7 hI7 ⟨-, rfl, t6, ka6, kc6, rfl, ht6, r6, n6⟩
  refine CallOb.mk [] _ _ (.refl _) (Text_spec (s := cS 97) (by decide)) ?_
  rintro v I8 M8 hI8 ⟨-, t7, rfl, ht7, n7, r7, rfl⟩
  refine AllocOb.mk fun b3 hb3 hbM3 => ?_
  have hL3 : ∀ x ∈ [((t7, 2, cS 97) : Lf)], Lf.ok I8 x := by
    simp only [List.mem_cons, List.not_mem_nil, or_false]
    rintro x rfl
    exact lf_ok ht7 n7 r7 (by kernel_rfl)
  refine CallOb.mk [kidBlk b3 [(t7, 2, cS 97)]] _ _ (.refl _) (of_leaf (k0 := 9) (s0 := cS 97) (cc := 1) (Nat.le_of_ble_eq_true rfl) (by decide) (by decide) hL3 (by kernel_rfl)) ?_
  rintro v I9 M9 hI9 ⟨-, rfl, t8, ka8, kc8, rfl, ht8, r8, n8⟩
  obtain ⟨p1, rfl⟩ := tOf_of ht4 r4 n4
  obtain ⟨p2, rfl⟩ := tOf_of ht6 r6 n6
  obtain ⟨p3, rfl⟩ := tOf_of ht8 r8 n8
  refine AllocOb.mk fun b4 hb4 hbM4 => ?_
  have c1 : ∀ c : UInt8, (cS c).size ≤ 140737488355328 := fun c => (by decide : (1 : Nat) ≤ 140737488355328)
  have hds : ∀ d ∈ namesDs p1 p2 p3, d.ok I9 := by
    simp only [namesDs, List.mem_cons, List.not_mem_nil, or_false]
    rintro d (rfl | rfl | rfl)
    · exact ⟨c1 _, ht4.mono fun b o h => hI9 _ _ (hI8 _ _ (hI7 _ _ (hI6 _ _ h)))⟩
    · exact ⟨c1 _, ht6.mono fun b o h => hI9 _ _ (hI8 _ _ h)⟩
    · exact ⟨c1 _, ht8⟩
  have hT9 : Tabs I9 debL := hT1.mono fun b o h => hI9 _ _ (hI8 _ _ (hI7 _ _ (hI6 _ _ (hI5 _ _ (hI4 _ _ (hI3 _ _ (hI2 _ _ h)))))))
  have hg := names_told hT9 hb4 hds
  have hW : ∀ post, Wk [] I9 (defBlk b4 (namesDs p1 p2 p3) :: post) (ins I9 b4 (defBlk b4 (namesDs p1 p2 p3)).obj) ([] ++ []) := fun post => .prom rfl (by simp) (.sub (List.nil_sublist _) .refl)
  generalize ins I9 b4 (defBlk b4 (namesDs p1 p2 p3)).obj = I10 at hg hW
  refine CallOb.mkW I10 [] [] _ (hW _) (hg.calls 0 (names_calls0 ..)) ?_
  rintro v I11 M11 hI11 - ⟨-, x1, rfl, hx1, hl1, rfl⟩
  have hg11 := hg.mono hI11
  refine AllocOb.mk fun b5 hb5 hbM5 => ?_
  refine CallOb.mk [intRow b5 [1, 2]] _ _ (.refl _) (ints_is hx1 hl1 true rfl) ?_
  rintro v J1 M12 - ⟨rfl, rfl, rfl⟩
  refine GuardOb.mk (fun _ => ?_) (fun h => by simp at h)
  refine CallOb.mk [] _ _ (.refl _) (hg11.self 1 (names_self1 ..)) ?_
  rintro v I12 M13 - ⟨rfl, hI12, rfl⟩
  have hg12 := hg11.mono hI12
  refine GuardOb.mk (fun _ => ?_) (fun h => by simp at h)
  refine CallOb.mk [] _ _ (.refl _) (hg12.self 2 (names_self2 ..)) ?_
  rintro v I13 M14 - ⟨rfl, hI13, rfl⟩
  have hg13 := hg12.mono hI13
  refine GuardOb.mk (fun _ => ?_) (fun h => by simp at h)
  refine CallOb.mk [] _ _ (.refl _) (hg13.calls 2 (names_calls2 ..)) ?_
  rintro v I14 M15 hI14 ⟨-, x2, rfl, hx2, hl2, rfl⟩
  have hg14 := hg13.mono hI14
  obtain ⟨a2, c2, rfl⟩ := rw_is hx2 hl2 (n := 0) rfl
  refine GuardOb.mk (fun _ => ?_) (fun h => by simp at h)
  refine CallOb.mk [] _ _ (.refl _) (hg14.from 2 (names_from2 ..)) ?_
  rintro v I15 M16 hI15 ⟨-, x3, rfl, hx3, hl3, rfl⟩
  have hg15 := hg14.mono hI15
  refine AllocOb.mk fun b6 hb6 hbM6 => ?_
  refine CallOb.mk [intRow b6 [2]] _ _ (.refl _) (ints_is hx3 hl3 true rfl) ?_
  rintro v J2 M17 - ⟨rfl, rfl, rfl⟩
  refine GuardOb.mk (fun _ => ?_) (fun h => by simp at h)
  refine CallOb.mk [] _ _ (.refl _) (hg15.useless (names_useless ..)) ?_
  rintro v I16 M18 hI16 ⟨-, x4, rfl, hx4, hl4, rfl⟩
  have hg16 := hg15.mono hI16
  obtain ⟨a4, c4, rfl⟩ := rw_is hx4 hl4 (n := 0) rfl
  refine GuardOb.mk (fun _ => ?_) (fun h => by simp at h)
  refine CallOb.mk [] _ _ (.refl _) (hg16.rounds (names_rounds ..)) ?_
  rintro v I17 M19 hI17 ⟨-, os, rs, rfl, hos, hrs, hrl, rfl⟩
  have hg17 := hg16.mono hI17
  obtain ⟨w1, w2, w3, rfl, -, -, -⟩ := rows3 hrl
  obtain ⟨gb, gc, cur, hov, hob, hcur⟩ := OS.val3 hos (e := 30)
  rw [hov, hob]
  refine CondOb.mk (fun h => by simp at h) (fun _ => ?_)
  -- one that may not be
  refine CallOb.mk [] _ _ (.refl _) some_spec ?_
  rintro v I18 M20 hI18 ⟨-, b7, q1, q2, q3, q4, rfl, hb7, hds7, rfl⟩
  have hg18 := hg17.mono hI18
  refine CodeOb.draw TrydEOK rfl rfl rfl ?_
  refine PCallOb.mkD _ (Rule_spec (s := cS 122) (by decide)) ?_
  rintro v I19 M21 hI19 hD19 ⟨-, t9, rfl, ht9, n9, r9, rfl⟩
  have hg19 := hg18.mono hI19
  obtain ⟨q5, rfl⟩ := tLeaf_of ht9 n9 r9
  refine IdxOb.mk ⟨b7, 0, none⟩ 2 rfl rfl (by decide) ?_
  have hb7' : I19 b7 = none := hD19 (defBlk b7 (someDs q1 q2 q3 q4)) (by simp)
  have hds8 : ∀ d ∈ badDs q1 q2 q5 q4, d.ok I19 := by
    have h1 : ∀ d ∈ someDs q1 q2 q3 q4, d.ok I19 := fun d hd => (hds7 d hd).mono hI19
    simp only [badDs, List.mem_cons, List.not_mem_nil, or_false]
    rintro d (rfl | rfl | rfl | rfl)
    · exact h1 _ (by simp [someDs])
    · exact h1 _ (by simp [someDs])
    · exact ⟨c1 _, ht9⟩
    · exact h1 _ (by simp [someDs])
  refine StoreOb.to [] _ _ _ rfl rfl (by kernel_rfl) (by kernel_rfl) (((badDs q1 q2 q5 q4).flatMap Df.cells)) (by kernel_rfl) ?_
  refine AllocOb.mk fun b8 hb8 hbM8 => ?_
  have hne : b7 ≠ b8 := hbM8 _ (.head _)
  refine LoopOb.inv (ι := GH × Nat) (badLP b4 b8) (fun x => BadInv b4 b7 b8 p1 p2 p3 q1 q2 q5 q4 x.1 ∧ x.2 ≤ 2) (fun x => 2 - x.2) ?_ ?_
  · refine ⟨(ins (ins I19 b8 _) b7 _, 0), ⟨?_, Nat.zero_le _⟩, .prom rfl (by simp) (.prom rfl (by simp) (.sub (List.nil_sublist _) .refl)), .cons .refl (.cons .refl (.cons .refl (.cons .refl .nil))), .cons rfl .nil⟩
    have hI8' : ∀ b o, I19 b = some o → ins I19 b8 (.cells (badCells b7).toArray 38 (0, 0)) b = some o := ins_le hb8
    have hb7'' : ins I19 b8 (.cells (badCells b7).toArray 38 (0, 0)) b7 = none := by rw [ins_ne hne]; exact hb7'
    have hle := ins_le (o := (defBlk b7 (badDs q1 q2 q5 q4)).obj) hb7''
    refine ⟨(hg19.mono hI8').mono hle, no_told ((hg19.tabs.mono hI8').mono hle), bad_told (hg19.tabs.mono hI8') hb7'' (fun d hd => (hds8 d hd).mono hI8'), _, hle _ _ (ins_self ..)⟩
  rintro ⟨J, i⟩ ⟨hJ, hi⟩
  simp only at hJ hi
  refine CondOb.mk (fun h => ?_) (fun h => ?_)
  · have hlt : i < 2 := by have := of_decide_eq_true h; omega
    obtain ⟨sa, sn, sc, g, hno, htd, hrd⟩ := hJ.at hlt (M := [])
    refine IdxOb.mk ⟨b8, 0, none⟩ i rfl rfl hlt ?_
    refine LoadOb.mk _ hrd ?_
    refine CodeOb.draw TrydEOK rfl rfl rfl ?_
    refine PCallOb.mk _ (htd.calls 0 hno.c) ?_
    rintro v J1 N1 hJ1 ⟨-, y1, rfl, hy1, hk1, rfl⟩
    obtain ⟨a1, c1, rfl⟩ := rw_is hy1 hk1 (n := 0) rfl
    have htd := htd.mono hJ1
    refine PCallOb.mk _ (htd.from 0 hno.f) ?_
    rintro v J2 N2 hJ2 ⟨-, y2, rfl, hy2, hk2, rfl⟩
    obtain ⟨a2, c2, rfl⟩ := rw_is hy2 hk2 (n := 0) rfl
    have htd := htd.mono hJ2
    refine ArithOb.mk (0 : Int) rfl ?_
    refine PCallOb.mk _ (htd.useless hno.u) ?_
    rintro v J3 N3 hJ3 ⟨-, y3, rfl, hy3, hk3, rfl⟩
    obtain ⟨a3, c3, rfl⟩ := rw_is hy3 hk3 (n := 0) rfl
    have htd := htd.mono hJ3
    refine ArithOb.mk (0 : Int) rfl ?_
    refine PCallOb.mk _ (htd.rounds hno.r) ?_
    rintro v J4 N4 hJ4 ⟨-, os4, rs4, rfl, hos4, -, hk4, rfl⟩
    have htd := htd.mono hJ4
    obtain rfl : rs4 = [] := by simpa using hk4
    obtain ⟨oa4, n4', oc4, cur4⟩ := os4
    obtain rfl : n4' = 0 := by
      have := hos4.len
      simp only [List.map_nil, List.length_nil] at this
      omega
    refine ArithOb.mk (0 : Int) rfl ?_
    refine GuardOb.mk (fun _ => ?_) (fun h => by simp at h)
    refine CallOb.mk [] _ _ (.refl _) (htd.self 1 hno.s) ?_
    rintro v J5 N5 - ⟨rfl, hJ5, rfl⟩
    refine CondOb.mk (fun h => by simp at h) (fun _ => ?_)
    refine ArithOb.mk _ (next_wr (i := i) (by omega)) ?_
    exact ⟨(J5, i + 1), ⟨⟨((((hJ.mono hJ1).mono hJ2).mono hJ3).mono hJ4).mono hJ5, by simp only; omega⟩, by simp only; omega⟩, .sub (List.nil_sublist _) .refl, .cons .refl (.cons .refl (.cons .refl (.cons .refl .nil))), .cons rfl .nil⟩
  · have htd := hJ.names
    refine CodeOb.draw TrydEOK rfl rfl rfl ?_
    refine PCallOb.mk _ (htd.calls (-1) (names_callsM ..)) ?_
    rintro v J1 N1 hJ1 ⟨-, y1, rfl, hy1, hk1, rfl⟩
    obtain ⟨a1, c1, rfl⟩ := rw_is hy1 hk1 (n := 0) rfl
    have htd := htd.mono hJ1
    refine PCallOb.mk _ (htd.from 3 (names_from3 ..)) ?_
    rintro v J2 N2 hJ2 ⟨-, y2, rfl, hy2, hk2, rfl⟩
    obtain ⟨a2, c2, rfl⟩ := rw_is hy2 hk2 (n := 0) rfl
    have htd := htd.mono hJ2
    refine ArithOb.mk (0 : Int) rfl ?_
    refine PCallOb.mk _ (htd.calls 3 (names_calls3 ..)) ?_
    rintro v J3 N3 hJ3 ⟨-, y3, rfl, hy3, hk3, rfl⟩
    obtain ⟨a3, c3, rfl⟩ := rw_is hy3 hk3 (n := 0) rfl
    have htd := htd.mono hJ3
    refine ArithOb.mk (0 : Int) rfl ?_
    refine GuardOb.mk (fun _ => ?_) (fun h => by simp at h)
    refine CallOb.mk [] _ _ (.refl _) (htd.self (-1) (names_selfM ..)) ?_
    rintro v J4 N4 - ⟨rfl, hJ4, rfl⟩
    have htd := htd.mono hJ4
    refine GuardOb.mk (fun _ => ?_) (fun h => by simp at h)
    refine CallOb.mk [] _ _ (.refl _) (htd.self 3 (names_self3 ..)) ?_
    rintro v J5 N5 - ⟨rfl, -, rfl⟩
    exact ⟨_, _, .refl, rfl⟩
end Go.V

/-
  For every input bonsai/bonsailaw12.ReachNames returns true, and each argument reads behind the call as it read before: the given card, from the walk's contract. Conditions: those of the row itself.
-/
set_option linter.unusedVariables false
set_option linter.unusedSimpArgs false
namespace Go.Proofs.YtcccmnppfmfkiaaDoor
open Go Go.V Go.ChangeShapes Go.WideShapes Go.ChangeAt Go.RowKit

theorem reachNames_laid (os : Os) : laidMet Tryd.prog Rows.reachNamesRow.laid ((laidWorld os).forCall (fun _ _ => 0) ⟨#[], #[], []⟩).memory :=
  laidMet_of_run' 8 (by kernel_rfl) (by kernel_rfl)
theorem reachNames_reads (os : Os) {H : Type} (enc : TypeId × Value → H) : ∃ places, DataW.whole enc Tryd.prog ((laidWorld os).forCall (fun _ _ => 0) ⟨#[], #[], []⟩).memory Tryd.f3.params.toList Rows.reachNamesSpec.vars false (#[] : Array Value).toList 8 = some ([], [], places) :=
  ⟨[], by kernel_rfl⟩
theorem reachNames_params : (Tryd.f3.params.toList.all fun t => Tryd.prog.readableRec t && decide (t < Tryd.prog.types.size) && !Tryd.prog.wantsStandIn t) = true := by kernel_rfl

set_option maxRecDepth 100000 in
theorem reachNames_contract (H : Type) (enc : TypeId × Value → H) (W : World) (base : Nat) (args : Array Value) (ds gs : List (DataW H)) (before : List MemPlace)
    (hval : ∀ (j : Nat) t v, Tryd.f3.params[j]? = some t → args[j]? = some v → Value.okWide Tryd.prog W .any base t v)
    (hW : DataW.Whole enc Tryd.prog Tryd.f3.params.toList Rows.reachNamesSpec.vars false W args.toList ds gs before) (hL : laidMetH Tryd.prog Rows.reachNamesRow.laid W) :
    Calls Tryd.prog 3 args W fun e W' => ∃ v, e = .returned v ∧ Rows.reachNamesSpec.post enc Tryd.prog Tryd.f3 false true false false W args v W' := by
  have hW' := hW
  obtain ⟨p, q, hA0, hV, rfl, hfz, hnd⟩ := hW
  have hA : DataW.TrodAll enc Tryd.prog W 0 (fun _ => true) true Tryd.f3.params.toList args.toList ds p := hA0
  have hAk := hA
  rw [Tryd.params3] at hA
  obtain ⟨rfl, rfl⟩ := trodVars_none hV
  have hlt : ∀ x ∈ p, x.block < W.heap.size := fun x hx => hW'.lt x (by simp [hx])
  have hT : Tabs (ghost W) debL := tabs_ghost hL rfl
  obtain ⟨hargs, rfl, rfl⟩ := trodAll_nil hA
  obtain rfl : args = #[] := by cases args; simp_all
  refine (calls_of_specE (names_V hT)).mono ?_
  rintro e W' ⟨v, rfl, ⟨I', M', rfl⟩, hK⟩
  refine ⟨_, rfl, post_of_old (pa := _) (pv := []) hW' (fun _ _ _ => ?_) (fun sp hs => trodAll_stays laidOut hK (fun t ht => ?_) hAk hlt sp (fun p hp => hs p (by simp [hp]))) (fun _ _ => rfl) rfl hK (ok_one (by kernel_rfl) rfl (okWide_bool_mk Tryd.underlying4 _))⟩
  · exact trodAll_cons_mk (shut_bool Tryd.underlying4 _) trodAll_mk0
  · have := all_mem reachNames_params ht
    simp only [Bool.and_eq_true, decide_eq_true_eq] at this
    exact this.1

set_option maxRecDepth 100000 in
theorem reachNames_lifted (os : Os) (started : os.Started) (H : Type) (enc : TypeId × Value → H) (F : Stop.Interp) :
    ReturnsInHanded {} Tryd.checked os 3 .any ((OpenSpec.ofChange Rows.reachNamesSpec).preRow enc Tryd.prog Tryd.f3 Rows.reachNamesRow.domain false Rows.reachNamesRow.laid) (((OpenSpec.ofChange Rows.reachNamesSpec).at F).post enc Tryd.prog Tryd.f3 false true false false) := by
  obtain ⟨places, hx⟩ := reachNames_reads os enc
  refine returnsInHanded_of_row (C := Tryd.checked) (s := OpenSpec.ofChange Rows.reachNamesSpec) own started (by kernel_rfl) Tryd.func3
    (witness_row_at (enc := enc) (C := Tryd.checked) false (laidWorld os) #[] rfl (by kernel_rfl) (by kernel_rfl) (by kernel_rfl)
      (OpenSpec.preRow_of_cond 8 hx (by kernel_rfl) (fun k hk => by cases hk) (by kernel_rfl) (reachNames_laid os))) ?_
  intro W base args ds gs before hval hW _ _ _ hL _ _
  exact reachNames_contract H enc W base args ds gs before hval hW hL

theorem reachNames_said : Rows.ReachNamesSaid :=
  OpenClaim.holds_of_cond 3 Tryd.f3 rfl rfl rfl rfl rfl rfl rfl ⟨rfl, rfl, rfl, rfl, rfl⟩ rfl rfl rfl rfl rfl (by kernel_rfl) Tryd.func3 (by kernel_rfl)
    (of_decide_eq_true (by kernel_rfl)) (by unfold Func.isWrapper; first | (rw [if_pos (by decide +kernel)]; kernel_rfl) | (rw [if_neg (by decide +kernel)]; exact ⟨rfl, rfl⟩))
    (fun os started H enc _ F => by rw [OpenClaim.pre_eq_preRow]; exact reachNames_lifted os started H enc F)

theorem reachNames_plain (f : FuncId) (fn : Func) (hf : Tryd.pinned.checked.prog.funcNamed "bonsai/bonsailaw12.ReachNames" = some f) (hfn : Tryd.pinned.checked.prog.funcs[f]? = some fn) :
    false = Tryd.pinned.checked.prog.looks [] ∧ ∀ (j : Nat) t, fn.params[j]? = some t → Tryd.pinned.checked.prog.wantsStandIn t = false := by
  obtain rfl : f = 3 := Option.some.inj ((show Tryd.prog.funcNamed "bonsai/bonsailaw12.ReachNames" = some 3 by kernel_rfl).symm.trans hf) |>.symm
  obtain rfl : fn = Tryd.f3 := (Option.some.inj (Tryd.func3.symm.trans hfn)).symm
  refine ⟨by kernel_rfl, fun j t ht => ?_⟩
  have := all_mem reachNames_params (x := t) (by simpa using Array.mem_of_getElem? ht)
  simp only [Bool.and_eq_true, Bool.not_eq_true', decide_eq_true_eq] at this
  exact this.2

/-- The card. -/
theorem reachNames_card : Rows.ReachNamesCardSaid :=
  Claim7.holds_tied_plain_at .later [] _ _ _ _ reachNames_said (fun _ h => by cases h) (by kernel_rfl) (fun _ h => by cases h) reachNames_row_tie rfl ⟨rfl, rfl⟩ (by kernel_rfl) rfl reachNames_plain (by kernel_rfl)
end Go.Proofs.YtcccmnppfmfkiaaDoor
