/-
  Walks: bonsailaw12.works.
-/
import Derived.Test.YtcccmnppfmfkiaaDoorWr
import Derived.Test.YtcccmnppfmfkiaaDoorF2
set_option linter.unusedVariables false
set_option linter.unusedSimpArgs false
namespace Go.V
open Go Go.Proofs

/-- 'ints', where the numbers are known. -/
theorem ints_is {I : GH} {x : Rw} (hx : x.ok I) {l l' : List Int} (hl : x.l = l') (r : Bool) (hr : decide (l' = l) = r) {b c : Nat} : Spec Tryd.prog 13 [x.val, .slice (some ⟨b, 0, none⟩) l.length c] I [intRow b l]
    fun v I' M' => v = .bool r ∧ I' = I ∧ M' = [intRow b l] := by
  have h := ints_spec hx (l := l) (b := b) (c := c)
  rw [hl, hr] at h
  exact h
theorem Self_is {I : GH} (hT : Tabs I debL) {g : Gr} (hg : g.ok I) (hn : g.n ≤ 1099511627776) (i : Int) (r : Bool) (hr : selfG debL g i = r) : Spec Tryd.prog 15 [g.val, .int .i64 i] I [] fun v I' M' => v = .bool r ∧ (∀ b o, I b = some o → I' b = some o) ∧ M' = [] := by
  have h := Self_spec hT hg hn i
  rw [hr] at h
  exact h
theorem rows3 {rs : List Rw} {a b c : List Int} (h : rs.map (·.l) = [a, b, c]) : ∃ r1 r2 r3, rs = [r1, r2, r3] ∧ r1.l = a ∧ r2.l = b ∧ r3.l = c := by
  match rs, h with
  | [r1, r2, r3], h => exact ⟨r1, r2, r3, rfl, by simpa using h⟩
theorem OS.val3 {os : OS} {a b c : Value} (h : os.ok 1 [a, b, c]) {e : Nat} : ∃ (g c' : Nat) (cur : List Value), os.val = .slice (some ⟨g, 0, none⟩) 3 c' ∧ os.blk e = [⟨g, .cells cur.toArray e (0, 0)⟩] ∧ cur.take 3 = [a, b, c] := by
  obtain ⟨oa, n, c', cur⟩ := os
  have hn := h.len
  simp only [List.length_cons, List.length_nil, Nat.mul_one] at hn
  subst hn
  cases oa with
  | none => have := (h.nil rfl).1; simp at this
  | some g =>
    obtain ⟨-, -, -, h4⟩ := h.cap g rfl
    exact ⟨g, c', cur, rfl, rfl, h4⟩
theorem cell3 {I : GH} {M : List Blk} {b T : Nat} {cur : List Value} (hM : (⟨b, .cells cur.toArray T (0, 0)⟩ : Blk) ∈ M) {x y z : Value} (h : cur.take 3 = [x, y, z]) : 3 ≤ cur.length ∧ Rd I M ((⟨b, 0, none⟩ : Addr).add (0 * 1)) 1 [x] ∧ Rd I M ((⟨b, 0, none⟩ : Addr).add (1 * 1)) 1 [y] ∧ Rd I M ((⟨b, 0, none⟩ : Addr).add (2 * 1)) 1 [z] := by
  match cur, h with
  | p :: q :: r :: cs, h =>
    simp at h
    obtain ⟨rfl, rfl, rfl⟩ := h
    exact ⟨by simp, blk_rd (cs := p :: q :: r :: cs) (k := 0) (n := 1) hM (by simp), blk_rd (cs := p :: q :: r :: cs) (k := 1) (n := 1) hM (by simp), blk_rd (cs := p :: q :: r :: cs) (k := 2) (n := 1) hM (by simp)⟩

def someG (b : Nat) (p1 p2 : At4) (p3 p4 : Option Addr × Nat) : Gr := ⟨someDs p1 p2 p3 p4, some ⟨b, 0, none⟩, 4, 4⟩
section
variable (b : Nat) (p1 p2 : At4) (p3 p4 : Option Addr × Nat)
theorem some_calls0 : callsG debL (someG b p1 p2 p3 p4) 0 = [1] := by kernel_rfl
theorem some_from0 : fromG debL (someG b p1 p2 p3 p4) 0 = [0, 1, 2] := by kernel_rfl
theorem some_self0 : selfG debL (someG b p1 p2 p3 p4) 0 = false := by kernel_rfl
theorem some_self1 : selfG debL (someG b p1 p2 p3 p4) 1 = true := by kernel_rfl
theorem some_self2 : selfG debL (someG b p1 p2 p3 p4) 2 = true := by kernel_rfl
theorem some_self3 : selfG debL (someG b p1 p2 p3 p4) 3 = false := by kernel_rfl
theorem some_useless : uselessG debL (someG b p1 p2 p3 p4) = [3] := by kernel_rfl
theorem some_rounds : roundsG debL (someG b p1 p2 p3 p4) = [[0], [1, 2], [3]] := by kernel_rfl
end

/-- What is told of a grammar of the examples, its value being known. -/
structure Told (I : GH) (u : Value) (g : Gr) : Prop where
  tabs : Tabs I debL
  gok : g.ok I
  num : g.n ≤ 1099511627776
  val : g.val = u
theorem Told.mono {I I' : GH} {u : Value} {g : Gr} (h : Told I u g) (hI : ∀ b o, I b = some o → I' b = some o) : Told I' u g := ⟨h.tabs.mono hI, h.gok.mono hI, h.num, h.val⟩
theorem Told.calls {I : GH} {u : Value} {g : Gr} (h : Told I u g) (i : Int) {l : List Int} (hl : callsG debL g i = l) : Spec Tryd.prog 14 [u, .int .i64 i] I [] fun v I' M' => (∀ b o, I b = some o → I' b = some o) ∧ ∃ x : Rw, v = x.val ∧ x.ok I' ∧ x.l = l ∧ M' = [] := by
  have := Calls_spec h.tabs h.gok h.num i
  rwa [hl, h.val] at this
theorem Told.from {I : GH} {u : Value} {g : Gr} (h : Told I u g) (i : Int) {l : List Int} (hl : fromG debL g i = l) : Spec Tryd.prog 16 [u, .int .i64 i] I [] fun v I' M' => (∀ b o, I b = some o → I' b = some o) ∧ ∃ x : Rw, v = x.val ∧ x.ok I' ∧ x.l = l ∧ M' = [] := by
  have := From_spec h.tabs h.gok h.num i
  rwa [hl, h.val] at this
theorem Told.self {I : GH} {u : Value} {g : Gr} (h : Told I u g) (i : Int) {r : Bool} (hl : selfG debL g i = r) : Spec Tryd.prog 15 [u, .int .i64 i] I [] fun v I' M' => v = .bool r ∧ (∀ b o, I b = some o → I' b = some o) ∧ M' = [] := by
  have := Self_spec h.tabs h.gok h.num i
  rwa [hl, h.val] at this
theorem Told.useless {I : GH} {u : Value} {g : Gr} (h : Told I u g) {l : List Int} (hl : uselessG debL g = l) : Spec Tryd.prog 17 [u] I [] fun v I' M' => (∀ b o, I b = some o → I' b = some o) ∧ ∃ x : Rw, v = x.val ∧ x.ok I' ∧ x.l = l ∧ M' = [] := by
  have := Useless_spec h.tabs h.gok h.num
  rwa [hl, h.val] at this
theorem Told.rounds {I : GH} {u : Value} {g : Gr} (h : Told I u g) {l : List (List Int)} (hl : roundsG debL g = l) : Spec Tryd.prog 18 [u] I [] fun v I' M' => (∀ b o, I b = some o → I' b = some o) ∧ ∃ (os : OS) (rs : List Rw), v = os.val ∧ os.ok 1 (rs.map Rw.val) ∧ (∀ r ∈ rs, r.ok I') ∧ rs.map (·.l) = l ∧ M' = os.blk 30 := by
  have := Rounds_spec h.tabs h.gok h.num
  rwa [hl, h.val] at this
theorem some_told {I : GH} (hT : Tabs I debL) {b : Nat} {p1 p2 : At4} {p3 p4 : Option Addr × Nat} (hb : I b = none) (hds : ∀ d ∈ someDs p1 p2 p3 p4, d.ok I) : Told (ins I b (defBlk b (someDs p1 p2 p3 p4)).obj) (.agg #[.slice (some ⟨b, 0, none⟩) 4 4]) (someG b p1 p2 p3 p4) :=
  ⟨hT.mono (ins_le hb), defBlk_gr rfl (by decide) hb hds, (by decide : (4 : Nat) ≤ 1099511627776), rfl⟩

set_option maxHeartbeats 4000000 in
theorem works_spec {I : GH} (hT : Tabs I debL) : Spec Tryd.prog 9 [] I [] fun v I' M' => v = .bool true ∧ (∀ b o, I b = some o → I' b = some o) ∧ M' = [] := by
  refine spec_of_V [] TrydEOK Tryd.func9 rfl rfl rfl ?_
  intro B h0
  refine CallOb.mk [] [] _ (.refl _) some_spec ?_
  rintro v I1 M1 hI1 ⟨-, b, p1, p2, p3, p4, rfl, hbI, hds, rfl⟩
  have hg := some_told (hT.mono hI1) hbI hds
  have hIg := ins_le (o := (defBlk b (someDs p1 p2 p3 p4)).obj) hbI
  have hW : Wk [] I1 [defBlk b (someDs p1 p2 p3 p4)] (ins I1 b (defBlk b (someDs p1 p2 p3 p4)).obj) ([] ++ []) := .prom rfl (by simp) .refl
  generalize ins I1 b (defBlk b (someDs p1 p2 p3 p4)).obj = I2 at hg hIg hW
  refine CallOb.mkW I2 [] [] _ hW (hg.rounds (some_rounds ..)) ?_
  rintro v I3 M3 hI3 - ⟨-, os, rs, rfl, hos, hrs, hrl, rfl⟩
  obtain ⟨w1, w2, w3, rfl, hw1, hw2, hw3⟩ := rows3 hrl
  have k1 := hrs w1 (by simp)
  have k2 := hrs w2 (by simp)
  have k3 := hrs w3 (by simp)
  obtain ⟨gb, gc, cur, hov, hob, hcur⟩ := OS.val3 hos (e := 30)
  rw [hov, hob]
  have hg3 := hg.mono hI3
  refine CallOb.mk [] _ _ (.refl _) (hg3.calls 0 (some_calls0 ..)) ?_
  rintro v I4 M4 hI4 ⟨-, x4, rfl, hx4, hl4, rfl⟩
  have hg4 := hg3.mono hI4
  have k1 := k1.mono hI4
  have k2 := k2.mono hI4
  have k3 := k3.mono hI4
  refine AllocOb.mk fun b1 hb1 hbM1 => ?_
  refine CallOb.mk [intRow b1 [1]] _ _ (.refl _) (ints_is hx4 hl4 true rfl) ?_
  rintro v J5 M5 - ⟨rfl, rfl, rfl⟩
  refine GuardOb.mk (fun _ => ?_) (fun h => by simp at h)
  refine CallOb.mk [] _ _ (.refl _) (hg4.from 0 (some_from0 ..)) ?_
  rintro v I6 M6 hI6 ⟨-, x6, rfl, hx6, hl6, rfl⟩
  have hg6 := hg4.mono hI6
  have k1 := k1.mono hI6
  have k2 := k2.mono hI6
  have k3 := k3.mono hI6
  refine AllocOb.mk fun b2 hb2 hbM2 => ?_
  refine CallOb.mk [intRow b2 [0, 1, 2]] _ _ (.refl _) (ints_is hx6 hl6 true rfl) ?_
  rintro v J7 M7 - ⟨rfl, rfl, rfl⟩
  refine GuardOb.mk (fun _ => ?_) (fun h => by simp at h)
  refine CallOb.mk [] _ _ (.refl _) (hg6.self 0 (some_self0 ..)) ?_
  rintro v I8 M8 - ⟨rfl, hI8, rfl⟩
  have hg8 := hg6.mono hI8
  have k1 := k1.mono hI8
  have k2 := k2.mono hI8
  have k3 := k3.mono hI8
  refine GuardOb.mk (fun _ => ?_) (fun h => by simp at h)
  refine CallOb.mk [] _ _ (.refl _) (hg8.self 1 (some_self1 ..)) ?_
  rintro v I9 M9 - ⟨rfl, hI9, rfl⟩
  have hg9 := hg8.mono hI9
  have k1 := k1.mono hI9
  have k2 := k2.mono hI9
  have k3 := k3.mono hI9
  refine GuardOb.mk (fun _ => ?_) (fun h => by simp at h)
  refine CallOb.mk [] _ _ (.refl _) (hg9.self 2 (some_self2 ..)) ?_
  rintro v I10 M10 - ⟨rfl, hI10, rfl⟩
  have hg10 := hg9.mono hI10
  have k1 := k1.mono hI10
  have k2 := k2.mono hI10
  have k3 := k3.mono hI10
  refine GuardOb.mk (fun _ => ?_) (fun h => by simp at h)
  refine CallOb.mk [] _ _ (.refl _) (hg10.self 3 (some_self3 ..)) ?_
  rintro v I11 M11 - ⟨rfl, hI11, rfl⟩
  have hg11 := hg10.mono hI11
  have k1 := k1.mono hI11
  have k2 := k2.mono hI11
  have k3 := k3.mono hI11
  refine GuardOb.mk (fun _ => ?_) (fun h => by simp at h)
  refine CallOb.mk [] _ _ (.refl _) (hg11.useless (some_useless ..)) ?_
  rintro v I12 M12 hI12 ⟨-, x12, rfl, hx12, hl12, rfl⟩
  have hg12 := hg11.mono hI12
  have k1 := k1.mono hI12
  have k2 := k2.mono hI12
  have k3 := k3.mono hI12
  refine AllocOb.mk fun b3 hb3 hbM3 => ?_
  refine CallOb.mk [intRow b3 [3]] _ _ (.refl _) (ints_is hx12 hl12 true rfl) ?_
  rintro v J13 M13 - ⟨rfl, rfl, rfl⟩
  refine GuardOb.mk (fun _ => ?_) (fun h => by simp at h)
  refine GuardOb.mk (fun _ => ?_) (fun h => by simp at h)
  refine IdxOb.mk ⟨gb, 0, none⟩ 0 rfl rfl (by decide) ?_
  refine LoadOb.mk _ (cell3 (T := 30) (b := gb) (cur := cur) (by simp) hcur).2.1 ?_
  refine AllocOb.mk fun b4 hb4 hbM4 => ?_
  refine CallOb.mk [intRow b4 [0]] _ _ (.refl _) (ints_is k1 hw1 true rfl) ?_
  rintro v J14 M14 - ⟨rfl, rfl, rfl⟩
  refine GuardOb.mk (fun _ => ?_) (fun h => by simp at h)
  refine IdxOb.mk ⟨gb, 0, none⟩ 1 rfl rfl (by decide) ?_
  refine LoadOb.mk _ (cell3 (T := 30) (b := gb) (cur := cur) (by simp) hcur).2.2.1 ?_
  refine AllocOb.mk fun b5 hb5 hbM5 => ?_
  refine CallOb.mk [intRow b5 [1, 2]] _ _ (.refl _) (ints_is k2 hw2 true rfl) ?_
  rintro v J15 M15 - ⟨rfl, rfl, rfl⟩
  refine GuardOb.mk (fun _ => ?_) (fun h => by simp at h)
  refine IdxOb.mk ⟨gb, 0, none⟩ 2 rfl rfl (by decide) ?_
  refine LoadOb.mk _ (cell3 (T := 30) (b := gb) (cur := cur) (by simp) hcur).2.2.2 ?_
  refine AllocOb.mk fun b6 hb6 hbM6 => ?_
  refine CallOb.mk [intRow b6 [3]] _ _ (.refl _) (ints_is k3 hw3 true rfl) ?_
  rintro v J16 M16 - ⟨rfl, rfl, rfl⟩
  exact ⟨_, _, .sub (List.nil_sublist _) .refl, rfl, fun b o h => hI12 _ _ (hI11 _ _ (hI10 _ _ (hI9 _ _ (hI8 _ _ (hI6 _ _ (hI4 _ _ (hI3 _ _ (hIg _ _ (hI1 _ _ h))))))))), rfl⟩
end Go.V
