/-
  Part 9 of what the proofs of this seat share: the executor, data in memory, walks.
-/
import Derived.Test.YtmijfbjkkllhlaaGreatDoorK8
import Derived.Test.YtmijfbjkkllhlaaGreatDoorK5
import Derived.Test.YtmijfbjkkllhlaaGreatDoorK4

/-
  Walks: bonsairef04.Right, Sub, Clean at trees of one leaf.
-/
set_option linter.unusedVariables false
set_option linter.unusedSimpArgs false
namespace Go.V
open Go Go.Proofs

/-- A tree of one leaf, in memory. -/
structure LeafAt (I : GH) (a : Option Addr) (c : Nat) (k : Int) (s : ByteArray) : Prop where
  rs : RS I a 1 c 9 96 (leafNd k s).cells
theorem LeafAt.mono {I I' : GH} {a : Option Addr} {c : Nat} {k : Int} {s : ByteArray} (h : LeafAt I a c k s) (hI : ∀ b o, I b = some o → I' b = some o) : LeafAt I' a c k s := ⟨h.rs.mono hI⟩
theorem LeafAt.rd {I : GH} {a : Option Addr} {c : Nat} {k : Int} {s : ByteArray} (h : LeafAt I a c k s) : ∃ ad, a = some ad ∧ ∀ M, Rd I M (ad.add (0 * 9)) 9 (leafNd k s).cells := by
  have := RS.row (f := Nd.cells) (l := [leafNd k s]) Nd.cells_len (size := 9) (j := 0) (by simpa using h.rs) (by decide) (Nat.le_refl 1)
  simpa using this

set_option maxHeartbeats 1000000 in
theorem RRight_leaf {I : GH} {a : Option Addr} {c : Nat} {k : Int} {s : ByteArray} (h : LeafAt I a c k s) : Spec Tryz.prog 121 [.agg #[.slice a 1 c, .int .i64 0]] I [] fun v I' M' => v = .bool (fitsR (leafNd k s) 0) ∧ I' = I ∧ M' = [] := by
  refine spec_of_V [] TryzEOK Tryz.func121 rfl rfl rfl ?_
  intro B h0
  obtain ⟨ad, rfl, hrd⟩ := h.rd
  refine GuardOb.mk (fun _ => ?_) (fun h => by simp at h)
  refine CondOb.mk (fun h => by simp at h) (fun _ => ?_)
  refine MakeOb.mk 1 1 rfl rfl (Nat.le_refl _) (by decide) (by decide) ?_
  refine AllocOb.mk fun b hb hbM => ?_
  refine LoopOb.inv (ι := Nat) (fun i => { fl := [(1, .ref 1 0), (3, .val (.slice (some ⟨b, 0, none⟩) 1 1)), (4, .val (.int .i64 i))], cl := [(1, [.slice (some ad) 1 c, .int .i64 0])], gi := I, mi := [intRow b [0]] })
    (fun i => i = 0 ∨ (i = 1 ∧ fitsR (leafNd k s) 0 = true)) (fun i => 1 - i) ?_ ?_
  · exact ⟨0, .inl rfl, .refl, .cons .refl (.cons .refl (.cons .refl .nil)), .cons rfl .nil⟩
  · rintro i (rfl | ⟨rfl, hf⟩)
    · refine CondOb.mk (fun _ => ?_) (fun h => by simp at h)
      refine IdxOb.mk ad 0 rfl rfl (by decide) ?_
      refine LoadOb.mk _ (hrd _) ?_
      have hfs := RFits_spec (I := I) k s 0 0 none 0 0 [] 0
      refine CallOb.mk [] [intRow b [0]] _ (.refl _) hfs ?_
      rintro v I' M' - ⟨rfl, rfl, rfl⟩
      refine CondOb.mk (fun h => ?_) (fun h => ?_)
      · have hf : fitsR (leafNd k s) 0 = false := by simpa [leafNd] using h
        refine ⟨_, _, .sub (List.nil_sublist _) .refl, ?_, rfl, rfl⟩
        rw [hf]
      · have hf : fitsR (leafNd k s) 0 = true := by simpa [leafNd] using h
        refine LoopOb.unroll 1 ?_
        refine CondOb.mk (fun h => by simp [leafNd] at h) (fun _ => ?_)
        refine ArithOb.mk 1 (by decide) ?_
        exact ⟨1, ⟨.inr ⟨rfl, hf⟩, by simp⟩, .refl, .cons .refl (.cons .refl (.cons .refl .nil)), .cons rfl .nil⟩
    · refine CondOb.mk (fun h => by simp at h) (fun _ => ?_)
      refine LoopOb.inv (ι := Nat) (fun i => { fl := [(1, .ref 1 0), (3, .val (.slice (some ⟨b, 0, none⟩) 1 1)), (7, .val (.int .i64 i))], cl := [(1, [.slice (some ad) 1 c, .int .i64 0])], gi := I, mi := [intRow b [0]] })
        (fun i => i = 0 ∨ i = 1) (fun i => 1 - i) ?_ ?_
      · exact ⟨0, .inl rfl, .refl, .cons .refl (.cons .refl (.cons .refl .nil)), .cons rfl .nil⟩
      · rintro i (rfl | rfl)
        · refine CondOb.mk (fun _ => ?_) (fun h => by simp at h)
          refine GuardOb.mk (fun _ => ?_) (fun h => by simp at h)
          refine IdxOb.mk ⟨b, 0, none⟩ 0 rfl rfl (by decide) ?_
          refine LoadOb.mk [.int .i64 0] (intRow_rd (s := [0]) (j := 0) (by simp) (by decide)) ?_
          refine GuardOb.mk (fun _ => ?_) (fun h => by simp at h)
          refine GuardOb.mk (fun h => by simp at h) (fun _ => ?_)
          refine ArithOb.mk 1 (by decide) ?_
          exact ⟨1, ⟨.inr rfl, by simp⟩, .refl, .cons .refl (.cons .refl (.cons .refl .nil)), .cons rfl .nil⟩
        · refine CondOb.mk (fun h => by simp at h) (fun _ => ?_)
          refine ⟨_, _, .sub (List.nil_sublist _) .refl, ?_, rfl, rfl⟩
          rw [hf]

theorem intCell {I : GH} {M : List Blk} {b : Nat} {cs : List Value} {v : Value} (hM : (⟨b, .cells cs.toArray 3 (0, 0)⟩ : Blk) ∈ M) (h : cs.take 1 = [v]) : Rd I M ((⟨b, 0, none⟩ : Addr).add (0 * 1)) 1 [v] := by
  rw [addr_add _ rfl]
  exact ⟨rfl, _, _, _, .inr ⟨_, hM, rfl, rfl⟩, by simpa using h, rfl⟩

set_option maxHeartbeats 2000000 in
theorem RSub_leaf {I : GH} {a : Option Addr} {c : Nat} {k : Int} {s : ByteArray} (h : LeafAt I a c k s) (hf : fitsR (leafNd k s) 0 = true) : Spec Tryz.prog 80 [.agg #[.slice a 1 c, .int .i64 0], .int .i64 0] I []
    fun v I' M' => (∀ b o, I b = some o → I' b = some o) ∧ M' = [] ∧ ∃ a' c', v = .tuple #[.agg #[.slice a' 1 c', .int .i64 0], .bool true] ∧ LeafAt I' a' c' k s := by
  refine spec_of_V [] TryzEOK Tryz.func80 rfl rfl rfl ?_
  intro B h0
  obtain ⟨ad, rfl, hrd⟩ := h.rd
  refine CallOb.mk [] [] _ (.refl _) (RRight_leaf h) ?_
  rintro v I' M' - ⟨rfl, rfl, rfl⟩
  rw [hf]
  refine GuardOb.mk (fun _ => ?_) (fun h => by cases h)
  refine GuardOb.mk (fun _ => ?_) (fun h => by simp at h)
  refine CondOb.mk (fun h => by simp at h) (fun _ => ?_)
  refine AllocOb.mk fun b1 hb1 hbM1 => ?_
  refine LoopOb.inv (ι := Option (Nat × Nat × List Value)) (fun x => match x with
      | none => { fl := [(2, .ref 2 0), (4, .ref 4 0), (6, .val (.slice none 0 0)), (7, .val (.slice (some ⟨b1, 0, none⟩) 1 1))], cl := [(2, [.slice (some ad) 1 c, .int .i64 0]), (4, [.slice none 0 0, .int .i64 0])], gi := I', mi := [⟨b1, .cells #[.int .i64 0] 3 (0, 0)⟩] }
      | some (g, c', cur) => { fl := [(2, .ref 2 0), (4, .ref 4 0), (6, .val (.slice (some ⟨g, 0, none⟩) 1 c')), (7, .val (.slice (some ⟨b1, 0, none⟩) 0 1))], cl := [(2, [.slice (some ad) 1 c, .int .i64 0]), (4, [.slice none 0 0, .int .i64 0])], gi := I', mi := [⟨g, .cells cur.toArray 3 (0, 0)⟩] })
    (fun x => match x with
      | none => True
      | some (g, c', cur) => cur.take 1 = [.int .i64 0]) (fun x => match x with
      | none => 1
      | some _ => 0) ?_ ?_
  · exact ⟨none, trivial, .refl, .cons .refl (.cons .refl (.cons .refl (.cons .refl .nil))), .cons rfl (.cons rfl .nil)⟩
  · rintro (_ | ⟨g, c', cur⟩) hcur
    · refine CondOb.mk (fun _ => ?_) (fun h => by simp at h)
      refine ArithOb.mk 0 (by decide) ?_
      refine IdxOb.mk ⟨b1, 0, none⟩ 0 rfl rfl (by decide) ?_
      refine LoadOb.mk [.int .i64 0] (intCell (cs := [.int .i64 0]) (.head _) rfl) ?_
      refine ArithOb.mk 0 (by decide) ?_
      refine SliceOb.mk 0 0 rfl rfl (Nat.le_refl _) (by decide) ?_
      refine AllocOb.mk fun b2 hb2 hbM2 => ?_
      refine OtherOb.append TryzEOK rfl (by simp) (e := 3) rfl rfl rfl OS0 (OS0_ok 1) rfl (m := 1) rfl (news := [.int .i64 0]) (by decide) (blk_rd (b := b2) (cs := [.int .i64 0]) (k := 0) (n := 1) (T := 3) (.head _) (by simp)) rfl (.refl _) (by decide) (by decide) ?_
      intro g' c' cur' q1 q2 q3 q4
      refine IdxOb.mk ad 0 rfl rfl (by decide) ?_
      refine LoadOb.mk [.slice none 0 0] (Rd.part (k := 8) (m := 1) (hrd _) (by decide)) ?_
      refine OtherOb.append0 TryzEOK rfl (by simp) (e := 3) rfl rfl rfl (by simp) rfl rfl (Nat.zero_le _) rfl (.inl ⟨none, 0, rfl⟩) ?_
      exact ⟨some (g', c', cur'), ⟨q4, by simp⟩, .sub (.cons_cons _ (List.nil_sublist _)) .refl, .cons .refl (.cons .refl (.cons .refl (.cons .refl .nil))), .cons rfl (.cons rfl .nil)⟩
    · refine CondOb.mk (fun h => by simp at h) (fun _ => ?_)
      refine MakeOb.mk 1 1 rfl rfl (Nat.le_refl _) (by decide) (by decide) ?_
      refine AllocOb.mk fun b3 hb3 hbM3 => ?_
      refine ArithOb.mk 0 (by decide) ?_
      refine LoopOb.inv (ι := Option (Nat × Nat × List Value)) (fun x => match x with
          | none => { fl := [(2, .ref 2 0), (4, .ref 4 0), (6, .val (.slice (some ⟨g, 0, none⟩) 1 c')), (9, .val (.slice (some ⟨b3, 0, none⟩) 1 1)), (10, .val (.slice none 0 0)), (11, .val (.int .i64 0))], cl := [(2, [.slice (some ad) 1 c, .int .i64 0]), (4, [.slice none 0 0, .int .i64 0])], gi := I', mi := [intRow b3 [0], ⟨g, .cells cur.toArray 3 (0, 0)⟩] }
          | some (g2, c2, cur2) => { fl := [(2, .ref 2 0), (4, .ref 4 0), (10, .val (.slice (some ⟨g2, 0, none⟩) 1 c2)), (11, .val (.int .i64 (-1)))], cl := [(2, [.slice (some ad) 1 c, .int .i64 0]), (4, [.slice none 0 0, .int .i64 0])], gi := I', mi := [⟨g2, .cells cur2.toArray 82 (0, 0)⟩] })
        (fun x => match x with
          | none => True
          | some (g2, c2, cur2) => I' g2 = none ∧ cur2.take 9 = (leafNd k s).cells ∧ 1 ≤ c2) (fun x => match x with
          | none => 1
          | some _ => 0) ?_ ?_
      · exact ⟨none, trivial, .refl, .cons .refl (.cons .refl (.cons .refl (.cons .refl (.cons .refl (.cons .refl .nil))))), .cons rfl (.cons rfl .nil)⟩
      · rintro (_ | ⟨g2, c2, cur2⟩) hc2
        · refine CondOb.mk (fun _ => ?_) (fun h => by simp at h)
          refine CodeOb.draw TryzEOK rfl rfl rfl ?_
          refine IdxOb.mk ⟨g, 0, none⟩ 0 rfl rfl (by decide) ?_
          refine LoadOb.mk [.int .i64 0] (intCell (cs := cur) (.tail _ (.head _)) hcur) ?_
          refine IdxOb.mk ad 0 rfl rfl (by decide) ?_
          refine LoadOb.mk _ (hrd _) ?_
          refine AllocOb.mk fun b12 hb12 hbM12 => ?_
          refine StoreOb.mk [] [intRow b3 [0], ⟨g, .cells cur.toArray 3 (0, 0)⟩] _ _ rfl rfl (Nat.le_of_ble_eq_true rfl) rfl ?_
          refine IdxOb.mk ⟨g, 0, none⟩ 0 rfl rfl (by decide) ?_
          refine LoadOb.mk [.int .i64 0] (intCell (cs := cur) (.tail _ (.tail _ (.head _))) hcur) ?_
          refine IdxOb.mk ⟨b3, 0, none⟩ 0 rfl rfl (by decide) ?_
          refine StoreOb.add [⟨b12, .cells (leafNd k s).cells.toArray 82 (0, 0)⟩] [⟨g, .cells cur.toArray 3 (0, 0)⟩] _ _ rfl (Nat.le_of_ble_eq_true rfl) rfl ?_
          refine LoopOb.unroll 1 ?_
          refine LoadOb.mk [.slice none 0 0] (blk_rd (b := b12) (cs := (leafNd k s).cells) (k := 8) (n := 1) (T := 82) (.head _) (Nat.le_of_ble_eq_true rfl)) ?_
          refine CondOb.mk (fun h => by simp at h) (fun _ => ?_)
          refine StoreOb.mk [] _ _ _ rfl rfl (Nat.le_of_ble_eq_true rfl) rfl ?_
          refine LoadOb.mk (leafNd k s).cells (blk_rd (b := b12) (cs := (leafNd k s).cells) (k := 0) (n := 9) (T := 82) (.head _) (Nat.le_of_ble_eq_true rfl)) ?_
          refine AllocOb.mk fun b20 hb20 hbM20 => ?_
          refine OtherOb.appendN TryzEOK rfl (by simp) (e := 82) rfl rfl rfl OS0 (OS0_ok 9) rfl (m := 1) rfl (news := (leafNd k s).cells) (by decide) (blk_rd (b := b20) (cs := (leafNd k s).cells) (k := 0) (n := 9) (T := 82) (.head _) (Nat.le_of_ble_eq_true rfl)) rfl (.refl _) (by decide) (by decide) ?_
          intro g' c' cur' q0 q1 q2 q3 q4
          refine ArithOb.mk (-1) (by decide) ?_
          exact ⟨some (g', c', cur'), ⟨⟨q0, q4, q2⟩, by simp⟩, .sub (.cons_cons _ (List.nil_sublist _)) .refl, .cons .refl (.cons .refl (.cons .refl (.cons .refl .nil))), .cons rfl (.cons rfl .nil)⟩
        · refine CondOb.mk (fun h => by simp at h) (fun _ => ?_)
          obtain ⟨hg2, hcu, hc1⟩ := hc2
          refine ArithOb.mk 0 (by decide) ?_
          exact ⟨_, _, .prom rfl (by simp) .refl, ins_le hg2, rfl, _, _, rfl, ⟨⟨rfl, ⟨hc1, by decide⟩, .inr ⟨_, rfl, rfl, _, _, _, ins_self .., hcu⟩⟩⟩⟩
end Go.V

/-
  Walks: bonsairef04.Clean and Of, where the kids are leaves.
-/
set_option linter.unusedVariables false
set_option linter.unusedSimpArgs false
namespace Go.V
open Go Go.Proofs

/-- What stands aside of what, where an operation is done. -/
theorem OtherOb.nd {X : Ctx} {o : Oper} {F : Fr} {C : Bx} {I : GH} {M : List Blk} {K : KS} (h : OtherOb X o F C I M (fun F C I M => (M.map (·.num)).Nodup → (∀ x ∈ M, I x.num = none) → K F C I M)) : OtherOb X o F C I M K :=
  ⟨fun a w Q hR => Oper.wpIn_mono (fun a' w' => fun ⟨F', C', I', M', ⟨β, hr⟩, hk⟩ => ⟨F', C', I', M', ⟨β, hr⟩, hk hr.holds.nd hr.holds.d⟩) (h.1 a w Q hR)⟩
theorem OS.giveF {I : GH} {foot : List Nat} {os : OS} {xs : List Value} {e size b : Nat} (h : os.ok size xs) (hb : os.n * b ≤ 140737488355328) (hI : ∀ g, os.a = some g → I g = none ∧ g ∉ foot) (Mr : List Blk) :
    ∃ I', (∀ I2 M2, Wk foot I' Mr I2 M2 → Wk foot I (os.blk e ++ Mr) I2 M2) ∧ (∀ b o, I b = some o → I' b = some o) ∧ RS I' (os.a.map fun g => ⟨g, 0, none⟩) os.n os.c size b xs ∧ (∀ g, os.a ≠ some g → I' g = I g) := by
  obtain ⟨a, n, c, cur⟩ := os
  cases a with
  | none =>
    obtain ⟨h1, h2⟩ := h.nil rfl
    simp only at h1 h2
    subst h1
    subst h2
    exact ⟨I, fun _ _ k => k, fun _ _ h => h, ⟨h.len, ⟨Nat.le_refl _, by simp⟩, .inl rfl⟩, fun _ _ => rfl⟩
  | some g =>
    obtain ⟨h1, h2, h3, h4⟩ := h.cap g rfl
    obtain ⟨hg, hgf⟩ := hI g rfl
    refine ⟨ins I g (.cells cur.toArray e (0, 0)), fun _ _ k => .prom rfl hgf k, ins_le hg, ⟨h.len, ⟨h2, hb⟩, .inr ⟨⟨g, 0, none⟩, rfl, rfl, _, _, _, ins_self .., by simpa using h4⟩⟩, fun g' hg' => ?_⟩
    have : g' ≠ g := fun e => hg' (by rw [e])
    unfold ins
    simp only [beq_ne this, cond_false]
theorem appk_ok {os : OS} {xs ys : List Value} {size : Nat} (hos : os.ok size xs) {g c : Nat} {cur : List Value} (hy : ys.length = size) (h1 : cur.length = c * size) (h2 : os.n + 1 ≤ c) (h3 : c ≤ maxLen) (h4 : cur.take ((os.n + 1) * size) = xs ++ ys) :
    OS.ok ⟨some g, os.n + 1, c, cur⟩ size (xs ++ ys) := by
  have hl := hos.len
  refine ⟨?_, (fun h => by cases h), fun g3 hg3 => ⟨h1, h2, h3, h4⟩⟩
  rw [List.length_append, hl, hy]
  simp only
  rw [Nat.add_mul, Nat.one_mul]

abbrev Lf := Tr × Int × ByteArray
def Lf.nd (x : Lf) : Nd := leafNd x.2.1 x.2.2
structure Lf.ok (I : GH) (x : Lf) : Prop where
  t : x.1.ok I
  ns : x.1.ns = [x.nd]
  root : x.1.root = 0
  fits : fitsR x.nd 0 = true
theorem Lf.ok.mono {I I' : GH} {x : Lf} (h : Lf.ok I x) (hI : ∀ b o, I b = some o → I' b = some o) : Lf.ok I' x := ⟨h.t.mono hI, h.ns, h.root, h.fits⟩
theorem Lf.ok.at {I : GH} {x : Lf} (h : Lf.ok I x) : ∃ a c, x.1.cells = [.slice a 1 c, .int .i64 0] ∧ LeafAt I a c x.2.1 x.2.2 := by
  obtain ⟨⟨ns, a, n, c, root⟩, k, s⟩ := x
  obtain ⟨ht, h1, h2, h3⟩ := h
  have h1' : ns = [leafNd k s] := h1
  clear h1 h3
  simp only at h2 ht
  subst h1'
  subst h2
  have hn := ht.n
  simp only [List.length_cons, List.length_nil] at hn
  subst hn
  exact ⟨a, c, rfl, ⟨by simpa [Lf.nd] using ht.rs⟩⟩
def kidCells (L : List Lf) : List Value := L.flatMap fun x => x.1.cells
def kidBlk (b : Nat) (L : List Lf) : Blk := ⟨b, .cells (kidCells L).toArray 43 (0, 0)⟩
def iotaI (n : Nat) : List Int := (List.range n).map fun (j : Nat) => (j : Int)
theorem iotaI_succ (n : Nat) : iotaI (n + 1) = iotaI n ++ [(n : Int)] := by simp [iotaI, List.range_succ]
theorem iotaI_len (n : Nat) : (iotaI n).length = n := by simp [iotaI]
def ofNd (k : Int) (s : ByteArray) (ka : Option Addr) (kc n : Nat) : Nd := ⟨k, 0, 0, 0, 0, s, 0, 0, ka, n, kc, iotaI n⟩

end Go.V

/-
  Walks: bonsairef04.Sub, of any right tree; Clean.
-/
set_option linter.unusedVariables false
set_option linter.unusedSimpArgs false
namespace Go.V
open Go Go.Proofs

/-! ### How many stand within a node -/
def szOf (ns : List Nd) : Int → Nat := tabOf 0 (fun d g => 1 + sumOf g d.kids) ns
theorem szOf_eq {t : Tr} (hr : right t = true) {j : Nat} (hj : j < t.ns.length) : szOf t.ns j = 1 + sumOf (szOf t.ns) t.ns[j].kids :=
  tabOf_eq (fun d g g' h => by rw [sumOf_congr h]) hr hj
theorem sz_root {t : Tr} (hr : right t = true) : szOf t.ns t.root ≤ t.ns.length := by
  have := right_sum hr (g := szOf t.ns) (c := fun _ => 1) fun j hj => by rw [szOf_eq hr hj]; exact Nat.le_refl _
  rwa [sum_const, Nat.one_mul] at this
theorem kidsOk_mark {i : Nat} : ∀ {ks : List Int} {s s' : List Bool}, kidsOk i ks s = some s' → ∀ j, s'.getD j false = true → s.getD j false = true ∨ ((j : Int) ∈ ks ∧ j < i)
  | [], s, s', h, j, hj => by
    simp only [kidsOk, Option.some.injEq] at h
    subst h
    exact .inl hj
  | k :: ks, s, s', h, j, hj => by
    unfold kidsOk at h
    cases hb : decide (k < 0) || (decide ((i : Int) ≤ k) || s.getD k.toNat false) with
    | true => rw [hb] at h; cases h
    | false =>
      rw [hb] at h
      simp only [cond_false] at h
      simp only [Bool.or_eq_false_iff, decide_eq_false_iff_not] at hb
      rcases kidsOk_mark h j hj with h1 | h1
      · by_cases e : k.toNat = j
        · right
          refine ⟨?_, by omega⟩
          have : (j : Int) = k := by omega
          rw [this]
          exact .head _
        · left
          simp only [List.getD_eq_getElem?_getD, List.getElem?_set] at h1 ⊢
          rwa [if_neg e] at h1
      · exact .inr ⟨.tail _ h1.1, h1.2⟩
theorem nodesOk_mark : ∀ {ds : List Nd} {i : Nat} {s s' : List Bool}, nodesOk i ds s = some s' → ∀ j, s'.getD j false = true → s.getD j false = true ∨ ∃ q, ∃ h : q < ds.length, (j : Int) ∈ ds[q].kids ∧ j < i + q
  | [], i, s, s', h, j, hj => by
    simp only [nodesOk, Option.some.injEq] at h
    subst h
    exact .inl hj
  | d :: ds, i, s, s', h, j, hj => by
    unfold nodesOk at h
    cases hf : fits d d.kids.length with
    | false => rw [hf] at h; cases h
    | true =>
      rw [hf] at h
      simp only [cond_true] at h
      split at h
      · rename_i s1 hs1
        rcases nodesOk_mark h j hj with h1 | ⟨q, hq, h1, h2⟩
        · rcases kidsOk_mark hs1 j h1 with h3 | ⟨h3, h4⟩
          · exact .inl h3
          · exact .inr ⟨0, by simp, h3, by omega⟩
        · exact .inr ⟨q + 1, by simpa using hq, by simpa using h1, by omega⟩
      · cases h
theorem right_parent {t : Tr} (hr : right t = true) {j : Nat} (hj : j < t.ns.length) (hne : (j : Int) ≠ t.root) : ∃ p, ∃ h : p < t.ns.length, (j : Int) ∈ t.ns[p].kids ∧ j < p := by
  unfold right at hr
  simp only [Bool.and_eq_true] at hr
  obtain ⟨_, _, hr⟩ := hr
  split at hr
  · rename_i s hs
    have hsl := (free_nodes (g := fun _ => 0) (c := fun _ => 0) hs (by simp) (fun j hj => by simp)).1
    have hm : s.getD j false = true := by
      cases hb : s.getD j false with
      | true => rfl
      | false =>
        have := rootOk_false (root := t.root) (s := s) (i := 0) (j := j) (by rw [hsl]; simpa using hj) (by rw [hb, Nat.zero_add]; simp [hne])
        rw [this] at hr
        cases hr
    rcases nodesOk_mark hs j hm with h1 | ⟨q, hq, h1, h2⟩
    · simp [List.getD_eq_getElem?_getD, hj] at h1
    · exact ⟨q, hq, h1, by omega⟩
  · cases hr
theorem sumOf_mem {g : Int → Nat} : ∀ {ks : List Int} {k : Int}, k ∈ ks → g k ≤ sumOf g ks
  | a :: ks, k, h => by
    simp only [sumOf, List.map_cons, List.sum_cons]
    rcases List.mem_cons.1 h with rfl | h
    · omega
    · have := sumOf_mem (g := g) h
      simp only [sumOf] at this
      omega
theorem sz_le {t : Tr} (hr : right t = true) : ∀ (m j : Nat), j < t.ns.length → t.ns.length - j ≤ m → szOf t.ns j ≤ t.ns.length
  | 0, j, hj, hm => by omega
  | m + 1, j, hj, hm => by
    by_cases e : (j : Int) = t.root
    · rw [e]
      exact sz_root hr
    · obtain ⟨p, hp, hk, hlt⟩ := right_parent hr hj e
      have h1 := sz_le hr m p hp (by omega)
      rw [szOf_eq hr hp] at h1
      have := sumOf_mem (g := szOf t.ns) hk
      omega
theorem sumOf_append (g : Int → Nat) (a b : List Int) : sumOf g (a ++ b) = sumOf g a + sumOf g b := by
  simp [sumOf]

theorem len_le_sum {t : Tr} (hr : right t = true) : ∀ {l : List Int}, valid t.ns.length l → l.length ≤ sumOf (szOf t.ns) l
  | [], _ => by simp
  | a :: l, hv => by
    have h1 := len_le_sum hr (l := l) fun k hk => hv k (.tail _ hk)
    have h2 := hv a (.head _)
    obtain ⟨a, rfl⟩ := Int.eq_ofNat_of_zero_le h2.1
    have h3 := szOf_eq hr (j := a) (by omega)
    simp only [sumOf, List.map_cons, List.sum_cons, List.length_cons] at h1 ⊢
    have h4 : szOf t.ns (Int.ofNat a) = szOf t.ns a := rfl
    omega
/-! ### Sub, plainly -/
def backGo (ns : List Nd) : Nat → List Int → List Int → List Int
  | 0, _, b => b
  | f + 1, todo, b => match todo.getLast? with
    | none => b
    | some n => backGo ns f (todo.dropLast ++ (nodeAt ns n.toNat).kids) (b ++ [n])
def backOf (ns : List Nd) (node : Int) : List Int := backGo ns (ns.length + 1) [node] []
theorem backGo_nil (ns : List Nd) (f : Nat) (b : List Int) : backGo ns f [] b = b := by cases f <;> rfl
theorem backGo_snoc (ns : List Nd) (f : Nat) (todo : List Int) (n : Int) (b : List Int) : backGo ns (f + 1) (todo ++ [n]) b = backGo ns f (todo ++ (nodeAt ns n.toNat).kids) (b ++ [n]) := by
  rw [backGo]
  simp only [List.getLast?_concat, List.dropLast_concat]
/-- A node, wherever its kids lie. -/
def Nd.ct (d : Nd) : Nd := ⟨d.k, d.s0, d.s1, d.s2, d.s3, d.t, d.lo, d.hi, none, 0, 0, d.kids⟩
def Nd.withKids (d : Nd) (l : List Int) : Nd := ⟨d.k, d.s0, d.s1, d.s2, d.s3, d.t, d.lo, d.hi, none, 0, 0, l⟩
def subStep (ns : List Nd) (st : List Int × List Nd) (b : Int) : List Int × List Nd :=
  (st.1.set b.toNat st.2.length, st.2 ++ [(nodeAt ns b.toNat).withKids ((nodeAt ns b.toNat).kids.map fun k => (st.1.set b.toNat st.2.length).getD k.toNat 0)])
def subC (ns : List Nd) (node : Int) : List Nd := ((backOf ns node).reverse.foldl (subStep ns) (List.replicate ns.length 0, [])).2

/-! ### Slices of the function's own -/
theorem OS.pop {os : OS} {xs : List Value} {x : Value} (h : os.ok 1 (xs ++ [x])) : OS.ok ⟨os.a, os.n - 1, os.c, os.cur⟩ 1 xs := by
  have hl := h.len
  simp only [List.length_append, List.length_cons, List.length_nil, Nat.mul_one] at hl
  refine ⟨by simp only; omega, fun ha => ?_, fun g hg => ?_⟩
  · have := h.nil ha
    simp only
    omega
  · obtain ⟨h1, h2, h3, h4⟩ := h.cap g hg
    refine ⟨h1, by simp only; omega, h3, ?_⟩
    simp only
    have e : os.n * 1 = xs.length + 1 := by omega
    rw [e] at h4
    have : os.cur.take xs.length = (os.cur.take (xs.length + 1)).take xs.length := by rw [List.take_take]; congr 1; omega
    rw [show (os.n - 1) * 1 = xs.length by omega, this, h4, List.take_left]
theorem appm_ok {os : OS} {xs ys : List Value} {size m : Nat} (hos : os.ok size xs) {g c : Nat} {cur : List Value} (hy : ys.length = m * size) (h1 : cur.length = c * size) (h2 : os.n + m ≤ c) (h3 : c ≤ maxLen) (h4 : cur.take ((os.n + m) * size) = xs ++ ys) :
    OS.ok ⟨some g, os.n + m, c, cur⟩ size (xs ++ ys) := by
  have hl := hos.len
  refine ⟨?_, (fun h => by cases h), fun g3 hg3 => ⟨h1, h2, h3, h4⟩⟩
  rw [List.length_append, hl, hy]
  simp only
  rw [Nat.add_mul]

structure BackInv (t : Tr) (node : Int) (x : OS × List Int × OS × List Int × Nat) : Prop where
  todo : x.1.ok 1 (x.2.1.map (.int .i64 ·))
  back : x.2.2.1.ok 1 (x.2.2.2.1.map (.int .i64 ·))
  vt : valid t.ns.length x.2.1
  vb : valid t.ns.length x.2.2.2.1
  sum : sumOf (szOf t.ns) x.2.1 + x.2.2.2.1.length = szOf t.ns node
  fuel : sumOf (szOf t.ns) x.2.1 + 1 ≤ x.2.2.2.2
  eq : backOf t.ns node = backGo t.ns x.2.2.2.2 x.2.1 x.2.2.2.1

structure SubInv (I : GH) (t : Tr) (rb : List Int) (x : Nat × List Int × OS × List Nd × GH) : Prop where
  j : x.1 ≤ rb.length
  len : x.2.1.length = t.ns.length
  out : x.2.2.1.ok 9 (x.2.2.2.1.flatMap Nd.cells)
  on : x.2.2.2.1.length = x.1
  eq : (rb.take x.1).foldl (subStep t.ns) (List.replicate t.ns.length 0, []) = (x.2.1, x.2.2.2.1.map Nd.ct)
  ok : ∀ d ∈ x.2.2.2.1, d.ok x.2.2.2.2
  le : ∀ b o, I b = some o → x.2.2.2.2 b = some o
  bd : ∀ c ∈ x.2.1, 0 ≤ c ∧ c ≤ rb.length
  kb : ∀ d ∈ x.2.2.2.1, ∀ k ∈ d.kids, 0 ≤ k ∧ k ≤ rb.length

set_option maxRecDepth 100000 in
set_option maxHeartbeats 8000000 in
theorem RSub_gen {I : GH} {t : Tr} (ht : t.ok I) (hr : right t = true) (W : Nat) (hW : ∀ d ∈ t.ns, d.kn ≤ W) (hb : t.n * W ≤ 1152921504606846976) (hn : t.n ≤ 1099511627776) {node : Nat} (hnode : node < t.n) :
    Spec Tryz.prog 80 [t.val, .int .i64 node] I [] fun v I' M' => (∀ b o, I b = some o → I' b = some o) ∧ M' = [] ∧ ∃ t' : Tr, v = .tuple #[t'.val, .bool true] ∧ t'.ok I' ∧ t'.ns.map Nd.ct = subC t.ns node ∧ t'.root = (t'.ns.length : Int) - 1 ∧ t'.ns.length ≤ t.n ∧ ∀ d ∈ t'.ns, ∀ k ∈ d.kids, 0 ≤ k ∧ k ≤ t.n := by
  refine spec_of_VF [] TryzEOK Tryz.func80 rfl rfl rfl ?_
  intro B h0
  have htn := ht.n
  have hcap := ht.rs.cap
  have hszn : szOf t.ns node ≤ t.ns.length := sz_le hr t.ns.length node (by omega) (by omega)
  refine CallOb.mk [] [] _ (.refl _) (RRight_gen ht W hW hb) ?_
  rintro v I' M' - ⟨rfl, rfl, rfl⟩
  rw [hr]
  refine GuardOb.mk (fun _ => ?_) (fun h => by simp at h)
  refine GuardOb.mk (fun _ => ?_) (fun h => ?_)
  rotate_left
  · have : ((node : Nat) : Int) < 0 := of_decide_eq_true h
    omega
  refine CondOb.mk (fun h => ?_) (fun _ => ?_)
  · have : ((t.n : Nat) : Int) ≤ ((node : Nat) : Int) := of_decide_eq_true h
    omega
  refine AllocOb.mk fun b1 hb1 hbM1 => ?_
  -- the row turned about
  refine LoopOb.inv (ι := OS × List Int × OS × List Int × Nat) (fun x => { fl := [(2, .ref 2 0), (4, .ref 4 0), (6, .val x.2.2.1.val), (7, .val x.1.val)], cl := [(2, t.cells), (4, [.slice none 0 0, .int .i64 0])], gi := I', mi := x.2.2.1.blk 3 ++ x.1.blk 3 })
    (BackInv t node) (fun x => sumOf (szOf t.ns) x.2.1) ?_ ?_
  · refine ⟨(⟨some b1, 1, 1, [.int .i64 node]⟩, [(node : Int)], OS0, [], t.ns.length + 1), ⟨⟨rfl, (fun h => by cases h), fun g' hg' => ⟨rfl, Nat.le_refl _, by simp [maxLen], rfl⟩⟩, OS0_ok 1, fun k hk => ?_, (fun k hk => by cases hk), ?_, ?_, rfl⟩, .refl, .cons .refl (.cons .refl (.cons .refl (.cons .refl .nil))), .cons rfl (.cons rfl .nil)⟩
    · simp only [List.mem_singleton] at hk
      omega
    · simp [sumOf]
    · simp only [sumOf, List.map_cons, List.map_nil, List.sum_cons, List.sum_nil]
      omega
  rintro ⟨todo, tl, back, bl, f⟩ ⟨htodo, hback, hvt, hvb, hsum, hfuel, heq⟩
  simp only at htodo hback hvt hvb hsum hfuel heq
  have hbl := hback.len1
  have htl := htodo.len1
  refine CondOb.mk (fun h => ?_) (fun h => ?_)
  · have h0t : 0 < todo.n := by
      have : (0 : Int) < (todo.n : Int) := of_decide_eq_true h
      omega
    obtain ⟨tl', m, rfl⟩ : ∃ tl' m, tl = tl' ++ [m] := by
      rcases List.eq_nil_or_concat tl with h1 | ⟨r, p, h1⟩
      · subst h1
        simp at htl
        omega
      · exact ⟨r, p, by simpa using h1⟩
    have hm := hvt m (by simp)
    obtain ⟨m, rfl⟩ := Int.eq_ofNat_of_zero_le hm.1
    have hml : m < t.n := by omega
    have hml' : m < t.ns.length := by omega
    have htl' : todo.n = tl'.length + 1 := by simpa using htl
    have hszm := szOf_eq hr hml'
    rw [sumOf_append] at hsum hfuel
    have hs1 : sumOf (szOf t.ns) [(m : Int)] = szOf t.ns m := by simp [sumOf]
    rw [hs1, hszm] at hsum hfuel
    have htlen : tl'.length ≤ sumOf (szOf t.ns) tl' := len_le_sum hr fun k hk => hvt k (by simp [hk])
    have hklen : t.ns[m].kids.length ≤ sumOf (szOf t.ns) t.ns[m].kids := len_le_sum hr fun k hk => by
      have := right_kids hr m hml' k hk
      omega
    have htot : tl'.length + t.ns[m].kids.length ≤ t.ns.length := by omega
    obtain ⟨ad, had, hrd⟩ := OS.rdI (I := I') (e := 3) (M := back.blk 3 ++ todo.blk 3) htodo (fun x hx => by simp [hx]) (j := tl'.length) (by simp)
    rw [List.getElem_concat_length rfl] at hrd
    have hpop := htodo
    rw [List.map_append] at hpop
    have hpop := OS.pop hpop
    refine ArithOb.mk ((tl'.length : Nat) : Int) (wr_eq (by simp only [OS.val]; omega) (by omega)) ?_
    refine IdxOb.mk ad tl'.length had rfl (show tl'.length < todo.n by omega) ?_
    refine LoadOb.mk _ hrd ?_
    refine ArithOb.mk ((tl'.length : Nat) : Int) (wr_eq (by simp only [OS.val]; omega) (by omega)) ?_
    refine SliceOb.mk 0 tl'.length rfl rfl (Nat.zero_le _) ?_ ?_
    · have := htodo.cap
      obtain ⟨oa, on, oc, ocur⟩ := todo
      cases oa with
      | none => have := (htodo.nil rfl).1; simp only at this htl'; omega
      | some gg =>
        obtain ⟨-, h2, -, -⟩ := htodo.cap gg rfl
        simp only at h2 htl' ⊢
        omega
    refine AllocOb.mk fun b2 hb2 hbM2 => ?_
    refine OtherOb.append TryzEOK rfl (by simp) (e := 3) rfl rfl rfl back hback rfl (m := 1) rfl (news := [.int .i64 m]) (by decide) (blk_rd (b := b2) (cs := [.int .i64 m]) (k := 0) (n := 1) (T := 3) (.head _) (by simp)) rfl (Mr := ⟨b2, .cells #[.int .i64 m] 3 (0, 0)⟩ :: todo.blk 3) List.perm_middle.symm (by simp only [maxLen]; omega) (by show (back.n + 1) * 8 ≤ _; omega) ?_
    intro g1 c1 cur1 q1 q2 q3 q4
    have hback' : OS.ok ⟨some g1, back.n + 1, c1, cur1⟩ 1 ((bl ++ [(m : Int)]).map (.int .i64 ·)) := by
      rw [List.map_append]
      exact app1_ok hback q1 q2 q3 q4
    obtain ⟨an, han, hrn⟩ := ht.rs.row Nd.cells_len hml hml'
    have hd := ht.ns _ (List.getElem_mem hml')
    have hkn := hd.kn
    have hkc := hd.rs.cap
    have hkv := right_kids hr m hml'
    have hvt' : valid t.ns.length (tl' ++ t.ns[m].kids) := fun k hk => by
      rcases List.mem_append.1 hk with hk | hk
      · exact hvt k (by simp [hk])
      · have := hkv k hk
        omega
    have hvb' : valid t.ns.length (bl ++ [(m : Int)]) := fun k hk => by
      rcases List.mem_append.1 hk with hk | hk
      · exact hvb k hk
      · simp only [List.mem_singleton] at hk
        omega
    have heq' : ∀ f', f = f' + 1 → backOf t.ns node = backGo t.ns f' (tl' ++ t.ns[m].kids) (bl ++ [(m : Int)]) := fun f' hf' => by
      rw [heq, hf', backGo_snoc, Int.toNat_natCast, nodeAt_eq hml']
    have hinv : ∀ td : OS, td.ok 1 ((tl' ++ t.ns[m].kids).map (.int .i64 ·)) → BackInv t node (td, tl' ++ t.ns[m].kids, ⟨some g1, back.n + 1, c1, cur1⟩, bl ++ [(m : Int)], f - 1) := fun td htd => by
      refine ⟨htd, hback', hvt', hvb', ?_, ?_, heq' (f - 1) (by omega)⟩
      · simp only [sumOf_append, List.length_append, List.length_cons, List.length_nil]
        omega
      · simp only [sumOf_append]
        omega
    have hmu : sumOf (szOf t.ns) (tl' ++ t.ns[m].kids) < sumOf (szOf t.ns) (tl' ++ [(m : Int)]) := by
      rw [sumOf_append, sumOf_append, hs1, hszm]
      omega
    refine IdxOb.mk an m han rfl hml ?_
    refine LoadOb.mk _ ((hrn _).part (k := 8) (m := 1) (by decide)) ?_
    generalize hdd : t.ns[m] = d at hd hkn hkc hrn hinv hmu htot
    by_cases hk0 : d.kn = 0
    · have hnil : d.kids = [] := List.eq_nil_of_length_eq_zero (by omega)
      rw [hnil, List.append_nil] at hinv hmu
      refine OtherOb.append0 TryzEOK rfl (by simp) (e := 3) (sa := todo.a.map fun g => ⟨g, 0, none⟩) (n := tl'.length) (c := todo.c) rfl rfl rfl (by simp) rfl rfl ?_ rfl (.inl ⟨d.ka, d.kc, by rw [← hk0]; rfl⟩) ?_
      · obtain ⟨oa, on, oc, ocur⟩ := todo
        cases oa with
        | none => have := (htodo.nil rfl).1; simp only at this htl'; omega
        | some gg =>
          obtain ⟨-, h2, -, -⟩ := htodo.cap gg rfl
          simp only at h2 htl' ⊢
          omega
      have he : todo.n - 1 = tl'.length := by omega
      refine ⟨_, ⟨hinv _ hpop, hmu⟩, .sub (M1 := ⟨g1, .cells cur1.toArray 3 (0, 0)⟩ :: todo.blk 3) (.cons_cons _ (.cons _ (.refl _))) .refl, .cons .refl (.cons .refl (.cons .refl (.cons ?_ .nil))), .cons rfl (.cons rfl .nil)⟩
      simp only [OS.val, he]
      exact .refl
    · obtain ⟨ak, hak, hsp, cs, T, fr, hI, hv⟩ := hd.rs.rd.resolve_left hk0
      have hpop' : OS.ok ⟨todo.a, tl'.length, todo.c, todo.cur⟩ 1 (tl'.map (.int .i64 ·)) := by
        have he : todo.n - 1 = tl'.length := by omega
        rw [← he]
        exact hpop
      refine OtherOb.append TryzEOK rfl (by simp) (e := 3) rfl rfl rfl ⟨todo.a, tl'.length, todo.c, todo.cur⟩ hpop' rfl (ad := ak) (m := d.kn) (c' := d.kc) (by rw [← hak]; rfl) (news := d.kids.map (.int .i64 ·)) (by omega) ⟨hsp, cs, T, fr, .inl hI, hv, by simp [hkn]⟩ ?_ (Mr := [⟨g1, .cells cur1.toArray 3 (0, 0)⟩, ⟨b2, .cells #[.int .i64 m] 3 (0, 0)⟩]) (List.perm_append_comm (l₁ := [_, _])) (by simp only [maxLen]; omega) (by show (tl'.length + d.kn) * 8 ≤ _; omega) ?_
      · simp [allOne, Value.oneCell']
      intro g2 c2 cur2 r1 r2 r3 r4
      refine ⟨(⟨some g2, tl'.length + d.kn, c2, cur2⟩, _, _, _, _), ⟨hinv _ ?_, hmu⟩, .sub (M1 := [⟨g2, .cells cur2.toArray 3 (0, 0)⟩, ⟨g1, .cells cur1.toArray 3 (0, 0)⟩]) (.cons_cons _ (.cons_cons _ (List.nil_sublist _))) (.perm (List.Perm.swap _ _ _) .refl), .cons .refl (.cons .refl (.cons .refl (.cons .refl .nil))), .cons rfl (.cons rfl .nil)⟩
      rw [List.map_append]
      exact appm_ok hpop' (by simp [hkn]) r1 r2 r3 r4
  have htl0 : tl = [] := by
    have : ¬ (0 : Int) < (todo.n : Int) := of_decide_eq_false h
    exact List.eq_nil_of_length_eq_zero (by omega)
  subst htl0
  rw [backGo_nil] at heq
  simp only [sumOf, List.map_nil, List.sum_nil, Nat.zero_add] at hsum
  clear hfuel htodo hvt h
  refine MakeOb.mk t.n t.n rfl rfl (Nat.le_refl _) (by show 8 * t.n ≤ _; omega) (by omega) ?_
  refine AllocOb.mk fun b9 hb9 hbM9 => ?_
  refine ArithOb.mk ((bl.length : Int) - 1) (wr_eq (by simp only [OS.val]; omega) (by omega)) ?_
  refine LoopOb.invF (ι := Nat × List Int × OS × List Nd × GH) (fun x => { fl := [(2, .ref 2 0), (4, .ref 4 0), (6, .val back.val), (9, .val (.slice (some ⟨b9, 0, none⟩) t.n t.n)), (10, .val x.2.2.1.val), (11, .val (.int .i64 ((bl.length : Int) - 1 - x.1)))], cl := [(2, t.cells), (4, [.slice none 0 0, .int .i64 0])], gi := x.2.2.2.2, mi := intRow b9 x.2.1 :: (x.2.2.1.blk 82 ++ back.blk 3) })
    (SubInv I' t bl.reverse) (fun x => bl.length - x.1) ?_ ?_
  · intro _
    refine ⟨(0, List.replicate t.n 0, OS0, [], I'), ⟨Nat.zero_le _, by simp [htn], OS0_ok 9, rfl, (by rw [htn]; rfl), (fun d hd => by cases hd), fun _ _ h => h, (fun c hc => by have := List.eq_of_mem_replicate hc; omega), (fun d hd => by cases hd)⟩, ?_, .cons .refl (.cons .refl (.cons .refl (.cons .refl (.cons .refl (.cons ?_ .nil))))), .cons rfl (.cons rfl .nil)⟩
    · simp only [rowOf_one, intRow, List.map_replicate, Nat.mul_one]
      exact .sub (M1 := ⟨b9, .cells (List.replicate t.n (Value.int .i64 0)).toArray 3 (0, 0)⟩ :: (OS0.blk 82 ++ back.blk 3)) (.cons_cons _ (List.sublist_append_left _ _)) .refl
    · simp only [Int.ofNat_zero, Int.sub_zero]
      exact .refl
  rintro ⟨j, P, out, outN, J⟩ ⟨hj, hPl, hout, hon, hfold, hJok, hJ, hPb, hkb⟩
  simp only at hj hPl hout hon hfold hJok hJ hPb hkb
  rw [List.length_reverse] at hj hPb hkb
  have hol : out.n = j := by
    have := hout.len
    rw [flat_len _ 9 Nd.cells_len, hon] at this
    omega
  subst hol
  refine CondOb.mk (fun h => ?_) (fun h => ?_)
  · have hjl : out.n < bl.length := by
      have : (0 : Int) ≤ (bl.length : Int) - 1 - (out.n : Int) := of_decide_eq_true h
      omega
    have hjr : out.n < bl.reverse.length := by simpa using hjl
    -- the next one
    have hbi : bl.length - 1 - out.n < bl.length := by omega
    have hrev : bl.reverse[out.n] = bl[bl.length - 1 - out.n] := by rw [List.getElem_reverse]
    have hm := hvb _ (List.getElem_mem hbi)
    obtain ⟨m, hmm⟩ := Int.eq_ofNat_of_zero_le hm.1
    rw [hmm] at hm
    have hml : m < t.n := by omega
    have hml' : m < t.ns.length := by omega
    have hidx : ((bl.length : Int) - 1 - (out.n : Int)) = ((bl.length - 1 - out.n : Nat) : Int) := by omega
    have hbrd : ∀ {M : List Blk}, (∀ x ∈ back.blk 3, x ∈ M) → ∃ ad, (back.a.map fun g => (⟨g, 0, none⟩ : Addr)) = some ad ∧ Rd J M (ad.add ((bl.length - 1 - out.n) * 1)) 1 [.int .i64 m] := fun hM => by
      obtain ⟨ad, h1, h2⟩ := OS.rdI (I := J) (e := 3) hback hM hbi
      rw [hmm] at h2
      exact ⟨ad, h1, h2⟩
    obtain ⟨an, han, hrn⟩ := (ht.rs.mono hJ).row Nd.cells_len hml hml'
    have hd := (ht.ns _ (List.getElem_mem hml')).mono hJ
    have hkn := hd.kn
    have hkc := hd.rs.cap
    have hkv := right_kids hr m hml'
    have hna : nodeAt t.ns m = t.ns[m] := nodeAt_eq hml'
    generalize hdd : t.ns[m] = d at hd hkn hkc hkv hrn hna
    obtain ⟨ad, had, hrdb⟩ := hbrd (M := intRow b9 P :: (out.blk 82 ++ back.blk 3)) (fun x hx => by simp [hx])
    refine CodeOb.draw TryzEOK rfl rfl rfl ?_
    refine IdxOb.mk ad (bl.length - 1 - out.n) had hidx (show _ < back.n by omega) ?_
    refine LoadOb.mk _ hrdb ?_
    refine IdxOb.mk an m han rfl hml ?_
    refine LoadOb.mk _ (hrn _) ?_
    refine AllocOb.mk fun b12 hb12 hbM12 => ?_
    refine StoreOb.mk [] _ _ _ rfl rfl (Nat.le_of_ble_eq_true rfl) rfl ?_
    obtain ⟨ad2, had2, hrdb2⟩ := hbrd (M := ⟨b12, .cells d.cells.toArray 82 (0, 0)⟩ :: intRow b9 P :: (out.blk 82 ++ back.blk 3)) (fun x hx => by simp [hx])
    refine IdxOb.mk ad2 (bl.length - 1 - out.n) had2 hidx (show _ < back.n by omega) ?_
    refine LoadOb.mk _ hrdb2 ?_
    refine IdxOb.mk ⟨b9, 0, none⟩ m rfl rfl hml ?_
    refine StoreOb.add [⟨b12, .cells d.cells.toArray 82 (0, 0)⟩] (out.blk 82 ++ back.blk 3) _ _ rfl ?_ rfl ?_
    · simp only [List.size_toArray, List.length_map]
      show 0 + m * 1 + 1 ≤ _
      omega
    have hset := intRow_set P m (by omega) (out.n : Int)
    generalize hP' : P.set m (out.n : Int) = P' at hset
    have hPl' : P'.length = t.ns.length := by rw [← hP']; simpa using hPl
    have hPb' : ∀ c ∈ P', 0 ≤ c ∧ c ≤ bl.length := fun c hc => by
      rw [← hP'] at hc
      rcases List.mem_or_eq_of_mem_set hc with hc | rfl
      · exact hPb c hc
      · omega
    have b12rd : ∀ {M : List Blk} {cs : List Value} (k n : Nat), (⟨b12, .cells cs.toArray 82 (0, 0)⟩ : Blk) ∈ M → k + n ≤ cs.length → Rd J M ((⟨b12, 0, none⟩ : Addr).add k) n ((cs.drop k).take n) := fun k n hM hl => blk_rd hM hl
    refine LoopOb.inv (ι := Nat × OS × List Int) (fun y => { fl := [(2, .ref 2 0), (4, .ref 4 0), (6, .val back.val), (9, .val (.slice (some ⟨b9, 0, none⟩) t.n t.n)), (10, .val out.val), (11, .val (.int .i64 ((bl.length : Int) - 1 - out.n))), (12, .val (ptr b12)), (13, .val y.2.1.val), (14, .val (.int .i64 y.1))], cl := [(2, t.cells), (4, [.slice none 0 0, .int .i64 0])], gi := J, mi := y.2.1.blk 3 ++ (⟨b12, .cells d.cells.toArray 82 (0, 0)⟩ :: intRow b9 P' :: (out.blk 82 ++ back.blk 3)) })
      (fun y => y.1 ≤ d.kn ∧ y.2.1.ok 1 (y.2.2.map (.int .i64 ·)) ∧ y.2.2 = (d.kids.take y.1).map fun k => P'.getD k.toNat 0) (fun y => d.kn - y.1) ?_ ?_
    · refine ⟨(0, OS0, []), ⟨Nat.zero_le _, OS0_ok 1, by simp⟩, ?_, .cons .refl (.cons .refl (.cons .refl (.cons .refl (.cons .refl (.cons .refl (.cons .refl (.cons .refl (.cons .refl .nil)))))))), .cons rfl (.cons rfl .nil)⟩
      simp only [intRow]
      rw [← hset]
      simp only [Nat.zero_add, Nat.mul_one]
      exact .refl
    rintro ⟨k, ko, kl⟩ ⟨hk, hko, hkl⟩
    simp only at hk hko hkl
    have hkon := hko.len1
    have hmem : (⟨b12, .cells d.cells.toArray 82 (0, 0)⟩ : Blk) ∈ ko.blk 3 ++ (⟨b12, .cells d.cells.toArray 82 (0, 0)⟩ :: intRow b9 P' :: (out.blk 82 ++ back.blk 3)) := by simp
    have hmemP : intRow b9 P' ∈ ko.blk 3 ++ (⟨b12, .cells d.cells.toArray 82 (0, 0)⟩ :: intRow b9 P' :: (out.blk 82 ++ back.blk 3)) := by simp
    have hsl : kl.length ≤ d.kn := by
      rw [hkl, List.length_map]
      exact Nat.le_trans (List.length_take_le _ _) hk
    have hsk : kl.length ≤ k := by
      rw [hkl, List.length_map]
      exact List.length_take_le _ _
    refine LoadOb.mk [.slice d.ka d.kn d.kc] (b12rd 8 1 hmem (by rw [Nd.cells_len]; decide)) ?_
    refine CondOb.mk (fun h2 => ?_) (fun h2 => ?_)
    · have hkk : k < d.kn := by have : (k : Int) < (d.kn : Int) := of_decide_eq_true h2; omega
      have hkk' : k < d.kids.length := by omega
      obtain ⟨ak, hak, hrk⟩ := hd.rs.one hkk hkk'
      have hv := hkv _ (List.getElem_mem hkk')
      have hkP : d.kids[k].toNat < P'.length := by omega
      have hPg : P'.getD d.kids[k].toNat 0 = P'[d.kids[k].toNat] := by simp [List.getD_eq_getElem?_getD, hkP]
      refine LoadOb.mk [.slice d.ka d.kn d.kc] (b12rd 8 1 hmem (by rw [Nd.cells_len]; decide)) ?_
      refine IdxOb.mk ak k hak rfl hkk ?_
      refine LoadOb.mk _ (hrk _) ?_
      refine IdxOb.mk ⟨b9, 0, none⟩ d.kids[k].toNat rfl (by omega) (by omega) ?_
      refine LoadOb.mk _ (intRow_rd hmemP hkP) ?_
      refine AllocOb.mk fun b13 hb13 hbM13 => ?_
      refine OtherOb.append TryzEOK rfl (by simp) (e := 3) rfl rfl rfl ko hko rfl (m := 1) rfl (news := [.int .i64 P'[d.kids[k].toNat]]) (by decide) (blk_rd (b := b13) (cs := [.int .i64 P'[d.kids[k].toNat]]) (k := 0) (n := 1) (T := 3) (.head _) (by simp)) rfl (Mr := ⟨b13, .cells #[.int .i64 P'[d.kids[k].toNat]] 3 (0, 0)⟩ :: (⟨b12, .cells d.cells.toArray 82 (0, 0)⟩ :: intRow b9 P' :: (out.blk 82 ++ back.blk 3))) List.perm_middle.symm (by simp only [maxLen]; omega) (by show (ko.n + 1) * 8 ≤ _; omega) ?_
      intro g2 c2 cur2 r1 r2 r3 r4
      refine ArithOb.mk _ (next_wr (i := k) (by omega)) ?_
      refine ⟨(k + 1, ⟨some g2, ko.n + 1, c2, cur2⟩, kl ++ [P'[d.kids[k].toNat]]), ⟨⟨by simp only; omega, ?_, ?_⟩, by simp only; omega⟩, .sub (.cons_cons _ (.cons _ (.refl _))) .refl, .cons .refl (.cons .refl (.cons .refl (.cons .refl (.cons .refl (.cons .refl (.cons .refl (.cons .refl (.cons .refl .nil)))))))), .cons rfl (.cons rfl .nil)⟩
      · simp only
        rw [List.map_append]
        exact app1_ok hko r1 r2 r3 r4
      · simp only
        rw [List.take_succ_eq_append_getElem hkk', List.map_append, ← hkl, List.map_cons, List.map_nil, hPg]
    have hge : d.kn ≤ k := by have : ¬ (k : Int) < (d.kn : Int) := of_decide_eq_false h2; omega
    rw [List.take_of_length_le (by omega)] at hkl
    have hnd : ∃ nd : Nd, nd = ⟨d.k, d.s0, d.s1, d.s2, d.s3, d.t, d.lo, d.hi, ko.a.map fun g => ⟨g, 0, none⟩, ko.n, ko.c, kl⟩ := ⟨_, rfl⟩
    obtain ⟨nd, hnd⟩ := hnd
    have hndc : splice d.cells (0 + 8) [ko.val] = nd.cells := by rw [hnd]; rfl
    refine StoreOb.addTo (ko.blk 3) (intRow b9 P' :: (out.blk 82 ++ back.blk 3)) d.cells _ rfl rfl rfl nd.cells hndc ?_
    have hmem2 : (⟨b12, .cells nd.cells.toArray 82 (0, 0)⟩ : Blk) ∈ ko.blk 3 ++ (⟨b12, .cells nd.cells.toArray 82 (0, 0)⟩ :: intRow b9 P' :: (out.blk 82 ++ back.blk 3)) := by simp
    refine LoadOb.mk nd.cells (b12rd 0 9 hmem2 (by rw [Nd.cells_len]; decide)) ?_
    refine AllocOb.mk fun b15 hb15 hbM15 => ?_
    have hperm15 : (⟨b15, .cells nd.cells.toArray 82 (0, 0)⟩ :: (ko.blk 3 ++ (⟨b12, .cells nd.cells.toArray 82 (0, 0)⟩ :: intRow b9 P' :: (out.blk 82 ++ back.blk 3)))).Perm (out.blk 82 ++ (⟨b15, .cells nd.cells.toArray 82 (0, 0)⟩ :: (ko.blk 3 ++ (⟨b12, .cells nd.cells.toArray 82 (0, 0)⟩ :: intRow b9 P' :: back.blk 3)))) := by
      simpa using List.perm_append_comm_assoc (⟨b15, .cells nd.cells.toArray 82 (0, 0)⟩ :: (ko.blk 3 ++ [⟨b12, .cells nd.cells.toArray 82 (0, 0)⟩, intRow b9 P'])) (out.blk 82) (back.blk 3)
    refine OtherOb.append TryzEOK rfl (by simp) (e := 82) rfl rfl rfl out hout rfl (m := 1) rfl (news := nd.cells) (by decide) (blk_rd (b := b15) (cs := nd.cells) (k := 0) (n := 9) (T := 82) (.head _) (by rw [Nd.cells_len]; decide)) rfl
      (Mr := ⟨b15, .cells nd.cells.toArray 82 (0, 0)⟩ :: (ko.blk 3 ++ (⟨b12, .cells nd.cells.toArray 82 (0, 0)⟩ :: intRow b9 P' :: back.blk 3))) ?_ (by simp only [maxLen]; omega) (by show (out.n + 1) * 96 ≤ _; omega) ?_
    · exact hperm15
    intro g3 c3 cur3 u1 u2 u3 u4
    refine ArithOb.mk ((bl.length : Int) - 1 - (out.n + 1 : Nat)) (wr_eq (by omega) (by omega)) ?_
    have hklb : ∀ c ∈ kl, 0 ≤ c ∧ c ≤ bl.length := fun c hc => by
      rw [hkl] at hc
      obtain ⟨q, hq, rfl⟩ := List.mem_map.1 hc
      have hq' := hkv q hq
      have hqP : q.toNat < P'.length := by omega
      exact hPb' (P'.getD q.toNat 0) (by simp only [List.getD_eq_getElem?_getD, List.getElem?_eq_getElem hqP, Option.getD_some]; exact List.getElem_mem _)
    intro hfa
    obtain ⟨J', hw, hle, hrs⟩ := OS.give (I := J) (b := 8) (e := 3) hko (by omega) (fun g hg => hfa.d ⟨g, .cells ko.cur.toArray 3 (0, 0)⟩ (by simp [OS.blk, hg])) (intRow b9 P' :: ([⟨g3, .cells cur3.toArray 82 (0, 0)⟩] ++ back.blk 3))
    refine ⟨(out.n + 1, P', ⟨some g3, out.n + 1, c3, cur3⟩, outN ++ [nd], J'), ⟨⟨by simp only; omega, hPl', ?_, by simp [hon], ?_, ?_, fun b o h => hle _ _ (hJ _ _ h), ?_, ?_⟩, by simp only; omega⟩, ?_, .cons .refl (.cons .refl (.cons .refl (.cons .refl (.cons .refl (.cons .refl .nil))))), .cons rfl (.cons rfl .nil)⟩
    · simp only
      rw [List.flatMap_append]
      have : ([nd].flatMap Nd.cells) = nd.cells := by simp
      rw [this]
      exact appk_ok hout (Nd.cells_len _) u1 u2 u3 u4
    · simp only
      rw [List.take_succ_eq_append_getElem hjr, List.foldl_append, hfold, List.foldl_cons, List.foldl_nil, hrev, hmm]
      show (P.set m ((outN.map Nd.ct).length : Int), outN.map Nd.ct ++ [(nodeAt t.ns m).withKids ((nodeAt t.ns m).kids.map fun k => (P.set m ((outN.map Nd.ct).length : Int)).getD k.toNat 0)]) = _
      rw [List.length_map, hon, hP', hna, ← hkl, List.map_append, hnd]
      rfl
    · simp only
      intro x hx
      rcases List.mem_append.1 hx with hx | hx
      · exact (hJok x hx).mono hle
      · simp only [List.mem_singleton] at hx
        rw [hx, hnd]
        refine ⟨hd.k, hd.s0, hd.s1, hd.s2, hd.s3, hd.t, hd.lo, hd.hi, hrs, fun c hc => ?_⟩
        have := hklb c hc
        exact ⟨by omega, by omega⟩
    · simp only [List.length_reverse]
      exact hPb'
    · simp only [List.length_reverse]
      intro x hx
      rcases List.mem_append.1 hx with hx | hx
      · exact hkb x hx
      · simp only [List.mem_singleton] at hx
        rw [hx, hnd]
        exact hklb
    · simp only
      refine .sub (M1 := ⟨g3, .cells cur3.toArray 82 (0, 0)⟩ :: (ko.blk 3 ++ (intRow b9 P' :: back.blk 3))) (.cons_cons _ (.cons _ (List.Sublist.append (.refl _) (.cons _ (.refl _))))) ?_
      refine .perm (M1 := ko.blk 3 ++ (intRow b9 P' :: ([(⟨g3, .cells cur3.toArray 82 (0, 0)⟩ : Blk)] ++ back.blk 3))) ?_ hw
      exact List.perm_middle.symm.trans (List.Perm.append_left _ (List.Perm.swap _ _ _))
  have hge : out.n = bl.length := by
    have : ¬ (0 : Int) ≤ (bl.length : Int) - 1 - (out.n : Int) := of_decide_eq_false h
    omega
  refine ArithOb.mk ((outN.length : Int) - 1) (wr_eq (by simp only [OS.val]; omega) (by omega)) ?_
  intro hfa
  obtain ⟨J', hw, hle, hrs⟩ := OS.give (I := J) (b := 96) (e := 82) hout (by omega) (fun g hg => hfa.d ⟨g, .cells out.cur.toArray 82 (0, 0)⟩ (by simp [OS.blk, hg])) []
  refine ⟨J', [], .sub (M1 := out.blk 82 ++ []) (by rw [List.append_nil]; exact .cons _ (List.sublist_append_left _ _)) hw, fun b o h => hle _ _ (hJ _ _ h), rfl, ⟨outN, out.a.map fun g => ⟨g, 0, none⟩, out.n, out.c, (outN.length : Int) - 1⟩, rfl, ⟨hrs, fun d hd => (hJok d hd).mono hle, ⟨by simp only; omega, by simp only; omega⟩⟩, ?_, rfl, by simp only; omega, fun d hd k hk => by have := hkb d hd k hk; omega⟩
  rw [List.take_of_length_le (by rw [List.length_reverse]; omega)] at hfold
  rw [subC, heq, hfold]
end Go.V

/-
  Walks: bonsairef04.Clean, of any right tree; Of, of any right kids.
-/
set_option linter.unusedVariables false
set_option linter.unusedSimpArgs false
namespace Go.V
open Go Go.Proofs

def cleanC (t : Tr) : List Nd := subC t.ns t.root
/-- How large trees may be, for the walks. -/
structure Fit (t : Tr) (W : Nat) : Prop where
  w : ∀ d ∈ t.ns, d.kn ≤ W
  b : t.n * W ≤ 1152921504606846976
  n : t.n ≤ 1099511627776

theorem Rd.mono {I I' : GH} {M : List Blk} {a : Addr} {n : Nat} {vs : List Value} (h : Rd I M a n vs) (hI : ∀ b o, I b = some o → I' b = some o) : Rd I' M a n vs := by
  obtain ⟨h1, cs, T, fr, h2, h3⟩ := h
  exact ⟨h1, cs, T, fr, h2.imp (hI _ _) id, h3⟩
theorem Rd.sub {I : GH} {M M' : List Blk} {a : Addr} {n : Nat} {vs : List Value} (h : Rd I M a n vs) (hM : ∀ x ∈ M, x ∈ M') : Rd I M' a n vs := by
  obtain ⟨h1, cs, T, fr, h2, h3⟩ := h
  refine ⟨h1, cs, T, fr, h2.imp id ?_, h3⟩
  rintro ⟨x, hx, e1, e2⟩
  exact ⟨x, hM x hx, e1, e2⟩
theorem nd_ne {M A C : List Blk} (h : (M.map (·.num)).Nodup) (hM : M.Perm (A ++ C)) {x y : Blk} (hx : x ∈ A) (hy : y ∈ C) : x.num ≠ y.num := by
  have h2 := ((hM.map (·.num)).nodup_iff).1 h
  rw [List.map_append, List.nodup_append] at h2
  exact h2.2.2 _ (List.mem_map.2 ⟨x, hx, rfl⟩) _ (List.mem_map.2 ⟨y, hy, rfl⟩)

def ofStep (st : List Nd × List Int) (l : List Nd) : List Nd × List Int :=
  (st.1 ++ l.map (fun x => x.withKids (x.kids.map fun k => (st.1.length : Int) + k)), st.2 ++ [((st.1.length + l.length : Nat) : Int) - 1])
def ofNds (d : Nd) (ls : List (List Nd)) : List Nd := (ls.foldl ofStep ([], [])).1 ++ [d.withKids (ls.foldl ofStep ([], [])).2]

structure OfInv (I : GH) (L : List Tr) (x : Nat × OS × List Nd × OS × List Int × GH) : Prop where
  i : x.1 ≤ L.length
  out : x.2.1.ok 9 (x.2.2.1.flatMap Nd.cells)
  kd : x.2.2.2.1.ok 1 (x.2.2.2.2.1.map (.int .i64 ·))
  kl : x.2.2.2.2.1.length = x.1
  eq : ((L.take x.1).map cleanC).foldl ofStep ([], []) = (x.2.2.1.map Nd.ct, x.2.2.2.2.1)
  ok : ∀ d ∈ x.2.2.1, d.ok x.2.2.2.2.2
  le : ∀ b o, I b = some o → x.2.2.2.2.2 b = some o
  n : x.2.2.1.length ≤ ((L.take x.1).map (·.n)).sum
  kb : ∀ k ∈ x.2.2.2.2.1, -1 ≤ k ∧ k ≤ ((L.take x.1).map (·.n)).sum

theorem take_sum_le (L : List Tr) (i : Nat) : ((L.take i).map (·.n)).sum ≤ (L.map (·.n)).sum := by
  have h := congrArg (fun l : List Tr => (l.map (·.n)).sum) (List.take_append_drop i L)
  simp only [List.map_append, List.sum_append] at h
  omega
theorem take_sum_succ (L : List Tr) (i : Nat) (hi : i < L.length) : ((L.take (i + 1)).map (·.n)).sum = ((L.take i).map (·.n)).sum + L[i].n := by
  rw [List.take_succ_eq_append_getElem hi, List.map_append, List.sum_append]
  simp

end Go.V

/-
  Maps that are read alone; flow.places.
-/
set_option linter.unusedVariables false
set_option linter.unusedSimpArgs false
namespace Go.V
open Go Go.Proofs

section
variable {X : Ctx} {β : Nat → Nat} {a : Act} {w : World} {F : Fr} {C : Bx} {I : GH} {M : List Blk} {o : Oper} {Q : Exit → Act → World → Prop} {K : KS}
theorem lookup_runs (hE : EOK X.P X.E) {t : Nat} {ti tk : TI} {k e : Nat} (ht : X.E t = some ti) (hts : ti.sh = .map k e) (hk : X.E k = some tk) (hks : tk.sh = .string)
    (hz : ∀ w, (zeroValue e).run X.P w = .ok (.int .i64 0) w) {g : Nat} {l : List (ByteArray × Int)} {s : ByteArray} (hg : w.heap[g]? = some (mapO l)) (ok : Bool) :
    (Instr.lookup t (.map (some g)) (.string s) ok).run X.P w = .ok (bif ok then .tuple #[.int .i64 ((lookM s l).getD 0), .bool (lookM s l).isSome] else .int .i64 ((lookM s l).getD 0)) w := by
  obtain ⟨d, hud, hdd⟩ := (hE _ _ ht).und
  have h1 : d = .map k e := by rw [hts] at hdd; cases d <;> simp_all [shOf]
  subst h1
  obtain ⟨dk, huk, hdk⟩ := (hE _ _ hk).und
  have h2 : dk = .string := by rw [hks] at hdk; cases dk <;> simp_all [shOf]
  subst h2
  have hg : w.heap[g]? = some (.map (ents l 0).toArray l.length) := hg
  obtain ⟨r, hf1, hf2⟩ := findNow_ents s l 0 0
  have hc : (Instr.checkKey (ents l 0).toArray.isEmpty 10000 k (.string s)).run X.P w = .ok () w := MapKept.run_checkKey (k := .string s) huk (by simp [MapKept.IsKey]) _ 9999
  have hfk : (Instr.findKey k (.string s) (ents l 0)).run X.P w = .ok r w := MapKept.run_findKey huk hf1
  unfold Instr.lookup
  simp only [Sem.run_bind, run_underlying hud, Result.andThen_ok, MapKept.run_getObj_map hg, Sem.run_pure, hc, hfk]
  cases r with
  | none =>
    cases hl : lookM s l with
    | none => cases ok <;> simp [hz]
    | some v => rw [hl] at hf2; simp at hf2
  | some p =>
    cases hl : lookM s l with
    | none => rw [hl] at hf2; simp at hf2
    | some v =>
      rw [hl] at hf2
      simp only [Option.map_some, Option.some.injEq] at hf2
      cases ok <;> simp [hf2]
theorem OtherOb.lookupT (hE : EOK X.P X.E) {t : Nat} {x y : Operand} (ho : o.op = .lookup t x y true) (hd : ∀ d, o.dst = some d → d < X.n) {ti tk : TI} {k e : Nat} (ht : X.E t = some ti) (hts : ti.sh = .map k e) (hk : X.E k = some tk) (hks : tk.sh = .string)
    (hz : ∀ w, (zeroValue e).run X.P w = .ok (.int .i64 0) w) {g : Nat} {l : List (ByteArray × Int)} {s : ByteArray} (hx : ev F x = .val (.map (some g))) (hy : ev F y = .val (.string s)) (hM : Kn I M g (mapO l))
    (h : K (put o.dst (.val (.tuple #[.int .i64 ((lookM s l).getD 0), .bool (lookM s l).isSome])) F) C I M) : OtherOb X o F C I M K := by
  refine ⟨fun a w Q ⟨β, hR⟩ => ?_⟩
  have hrun := lookup_runs hE ht hts hk hks hz (hM.heap hR.holds) (s := s) true
  have ex := eval_of_ev hR.fr hx
  have ey := eval_of_ev hR.fr hy
  refine done_vv hR hd (by rw [ho]; simp) ?_ h
  unfold execOp
  simp only [ho, ex, ey, Sem.run_bind, hrun, Result.andThen_ok, Sem.run_pure, cond_true]
theorem OtherOb.lookupF (hE : EOK X.P X.E) {t : Nat} {x y : Operand} (ho : o.op = .lookup t x y false) (hd : ∀ d, o.dst = some d → d < X.n) {ti tk : TI} {k e : Nat} (ht : X.E t = some ti) (hts : ti.sh = .map k e) (hk : X.E k = some tk) (hks : tk.sh = .string)
    (hz : ∀ w, (zeroValue e).run X.P w = .ok (.int .i64 0) w) {g : Nat} {l : List (ByteArray × Int)} {s : ByteArray} (hx : ev F x = .val (.map (some g))) (hy : ev F y = .val (.string s)) (hM : Kn I M g (mapO l))
    (h : K (put o.dst (.val (.int .i64 ((lookM s l).getD 0))) F) C I M) : OtherOb X o F C I M K := by
  refine ⟨fun a w Q ⟨β, hR⟩ => ?_⟩
  have hrun := lookup_runs hE ht hts hk hks hz (hM.heap hR.holds) (s := s) false
  have ex := eval_of_ev hR.fr hx
  have ey := eval_of_ev hR.fr hy
  refine done_vv hR hd (by rw [ho]; simp) ?_ h
  unfold execOp
  simp only [ho, ex, ey, Sem.run_bind, hrun, Result.andThen_ok, Sem.run_pure, cond_false]
end

/-- The place of the first rule of each name. -/
def placesGo : List (ByteArray × Int) → Nat → List Df → List (ByteArray × Int)
  | acc, _, [] => acc
  | acc, i, d :: ds => placesGo (bif (lookM d.name acc).isSome then acc else acc ++ [(d.name, (i : Int))]) (i + 1) ds
def placesL (ds : List Df) : List (ByteArray × Int) := placesGo [] 0 ds

set_option maxHeartbeats 1000000 in
theorem places_spec {I : GH} {g : Gr} (hg : g.ok I) : Spec Tryz.prog 81 [g.val] I [] fun v I' M' => (∀ b o, I b = some o → I' b = some o) ∧ M' = [] ∧ ∃ gm, v = .map (some gm) ∧ I' gm = some (mapO (placesL g.ds)) := by
  refine spec_of_VF [] TryzEOK Tryz.func81 rfl rfl rfl ?_
  intro B h0
  have hgn := hg.n
  have hcap := hg.rs.cap
  refine OtherOb.makeMap TryzEOK rfl (by simp) rfl rfl rfl fun bm => ?_
  refine LoopOb.inv (ι := Nat × List (ByteArray × Int)) (fun x => { fl := [(1, .ref 1 0), (3, .val (.map (some bm))), (13, .val (.slice g.a g.n g.c)), (14, .val (.int .i64 g.n)), (15, .val (.int .i64 x.1))], cl := [(1, [.slice g.a g.n g.c])], gi := I, mi := [⟨bm, mapO x.2⟩] })
    (fun x => x.1 ≤ g.n ∧ placesL g.ds = placesGo x.2 x.1 (g.ds.drop x.1)) (fun x => g.n - x.1) ?_ ?_
  · exact ⟨(0, []), ⟨Nat.zero_le _, rfl⟩, .refl, .cons .refl (.cons .refl (.cons .refl (.cons .refl (.cons .refl .nil)))), .cons rfl .nil⟩
  rintro ⟨i, acc⟩ ⟨hi, hp⟩
  simp only at hi hp
  refine CondOb.mk (fun h => ?_) (fun h => ?_)
  · have hlt : i < g.n := by have : (i : Int) < (g.n : Int) := of_decide_eq_true h; omega
    have hlt' : i < g.ds.length := by omega
    obtain ⟨ad, had, hrd⟩ := hg.rs.row Df.cells_len hlt hlt'
    rw [List.drop_eq_getElem_cons hlt', placesGo] at hp
    refine IdxOb.mk ad i had rfl hlt ?_
    refine LoadOb.mk _ (hrd _) ?_
    refine OtherOb.lookupT TryzEOK rfl (by simp) rfl rfl rfl rfl (fun w => zero_int w) (l := acc) (g := bm) rfl rfl (.inr ⟨_, .head _, rfl, rfl⟩) ?_
    refine CondOb.mk (fun h3 => ?_) (fun h3 => ?_)
    · have hn : (lookM g.ds[i].name acc).isSome = false := by simpa using h3
      have hl : lookM g.ds[i].name acc = none := by simpa using hn
      rw [hn, cond_false] at hp
      refine OtherOb.mapNew TryzEOK rfl rfl rfl rfl rfl rfl rfl rfl rfl hl (Mr := []) (.refl _) ?_
      refine ArithOb.mk _ (next_wr (i := i) (by omega)) ?_
      exact ⟨(i + 1, _), ⟨⟨by simp only; omega, hp⟩, by simp only; omega⟩, .refl, .cons .refl (.cons .refl (.cons .refl (.cons .refl (.cons .refl .nil)))), .cons rfl .nil⟩
    · have hn : (lookM g.ds[i].name acc).isSome = true := by simpa using h3
      rw [hn, cond_true] at hp
      refine ArithOb.mk _ (next_wr (i := i) (by omega)) ?_
      exact ⟨(i + 1, _), ⟨⟨by simp only; omega, hp⟩, by simp only; omega⟩, .refl, .cons .refl (.cons .refl (.cons .refl (.cons .refl (.cons .refl .nil)))), .cons rfl .nil⟩
  have hge : g.n ≤ i := by have : ¬ (i : Int) < (g.n : Int) := of_decide_eq_false h; omega
  rw [List.drop_eq_nil_of_le (by omega), placesGo] at hp
  intro hfa
  have hb := hfa.d ⟨bm, mapO acc⟩ (.head _)
  exact ⟨_, _, .prom rfl (by simp) .refl, ins_le hb, rfl, bm, rfl, by rw [hp]; exact ins_self ..⟩
end Go.V

/-
  Walks: flow.comes, nodes.
-/
set_option linter.unusedVariables false
set_option linter.unusedSimpArgs false
namespace Go.V
open Go Go.Proofs

def comeFs : List Nat := [164, 165, 166, 167, 168, 169, 170, 171, 172, 167]
def comeVs : List Value := [.func (.func 164) #[] #[], .func (.func 165) #[] #[], .func (.func 166) #[] #[], .func (.func 167) #[] #[], .func (.func 168) #[] #[], .func (.func 169) #[] #[], .func (.func 170) #[] #[], .func (.func 171) #[] #[], .func (.func 172) #[] #[], .func (.func 167) #[] #[]]
theorem comes_spec {I : GH} : Spec Tryz.prog 122 [] I [] fun v I' M' => v = .agg comeVs.toArray ∧ I' = I ∧ M' = [] := by
  refine spec_of_V [] TryzEOK Tryz.func122 rfl rfl rfl ?_
  intro B h0
  exact ⟨_, _, .refl, rfl, rfl, rfl⟩
theorem come_at {I : GH} {M : List Blk} {d : Nd} {a : Option Addr} {n c : Nat} {ks : List Fl} (hk : FsAt I M a n ks) (hn : n ≤ 140737488355328) (j : Nat) (hj : j < 10) (hd : d.k = j) (h0 : (j = 3 ∨ 6 ≤ j) → 0 < n) :
    Spec Tryz.prog (comeFs.getD j 0) [d.val, .slice a n c] I M fun v I' M' => v = (comeFl d ks).val ∧ I' = I ∧ M' = M := by
  match j, hj, hd, h0 with
  | 0, _, hd, _ => rw [show comeFl d ks = ⟨true, false, false⟩ by simp [comeFl, hd]]; exact fEmpty_spec (I := I) (M := M) (d := d) (a := a) (n := n) (c := c)
  | 1, _, hd, _ => rw [show comeFl d ks = ⟨false, !d.setZ, true⟩ by simp [comeFl, hd]]; exact fSet_spec (I := I) (M := M) (d := d) (a := a) (n := n) (c := c)
  | 2, _, hd, _ => rw [show comeFl d ks = ⟨false, true, true⟩ by simp [comeFl, hd]]; exact fText_spec (I := I) (M := M) (d := d) (a := a) (n := n) (c := c)
  | 3, _, hd, h0 => rw [show comeFl d ks = ks.headD fl0 by simp [comeFl, hd]]; exact fItself_spec (d := d) (c := c) hk (h0 (by omega))
  | 4, _, hd, _ => rw [show comeFl d ks = seqFl ks by simp [comeFl, hd]]; exact fSeq_spec (d := d) (c := c) hk hn
  | 5, _, hd, _ => rw [show comeFl d ks = chFl ks by simp [comeFl, hd]]; exact fChoice_spec (d := d) (c := c) hk hn
  | 6, _, hd, h0 => rw [show comeFl d ks = repFl d (ks.headD fl0) by simp [comeFl, hd]]; exact fRep_spec (d := d) (c := c) hk (h0 (by omega))
  | 7, _, hd, h0 => rw [show comeFl d ks = ⟨(ks.headD fl0).suc, false, (ks.headD fl0).f⟩ by simp [comeFl, hd]]; exact fAnd_spec (d := d) (c := c) hk (h0 (by omega))
  | 8, _, hd, h0 => rw [show comeFl d ks = ⟨(ks.headD fl0).f, false, (ks.headD fl0).suc⟩ by simp [comeFl, hd]]; exact fNot_spec (d := d) (c := c) hk (h0 (by omega))
  | 9, _, hd, h0 => rw [show comeFl d ks = ks.headD fl0 by simp [comeFl, hd]]; exact fItself_spec (d := d) (c := c) hk (h0 (by omega))

/-! ### Rows of flows -/
def flRow (b : Nat) (l : List Fl) : Blk := ⟨b, .cells (l.flatMap Fl.cells).toArray 80 (0, 0)⟩
theorem fl_len (l : List Fl) : (l.flatMap Fl.cells).length = l.length * 3 := flat_len _ 3 Fl.cells_len l
theorem flRow_rd {I : GH} {M : List Blk} {b : Nat} {l : List Fl} (hM : flRow b l ∈ M) {j : Nat} (hj : j < l.length) : Rd I M ((⟨b, 0, none⟩ : Addr).add (j * 3)) 3 l[j].cells := by
  have h := blk_rd (I := I) (cs := l.flatMap Fl.cells) (k := j * 3) (n := 3) hM (by rw [fl_len]; omega)
  rwa [flat_at Fl.cells 3 Fl.cells_len l j hj] at h
theorem flRow_set (l : List Fl) (j : Nat) (hj : j < l.length) (x : Fl) : splice (l.flatMap Fl.cells) (j * 3) x.cells = (l.set j x).flatMap Fl.cells := by
  have e : l.flatMap Fl.cells = (l.take j).flatMap Fl.cells ++ (l[j].cells ++ (l.drop (j + 1)).flatMap Fl.cells) := by
    have h1 : l = l.take j ++ (l[j] :: l.drop (j + 1)) := by rw [← List.drop_eq_getElem_cons hj, List.take_append_drop]
    have h2 := congrArg (fun q : List Fl => q.flatMap Fl.cells) h1
    simp only [List.flatMap_append, List.flatMap_cons] at h2
    exact h2
  have hl : ((l.take j).flatMap Fl.cells).length = j * 3 := by rw [fl_len, List.length_take]; congr 1; omega
  unfold splice
  rw [List.set_eq_take_append_cons_drop, if_pos hj, List.flatMap_append, List.flatMap_cons, e, List.append_assoc]
  congr 1
  · rw [← hl, List.take_left]
  · congr 1
    rw [Fl.cells_len, ← hl, ← List.append_assoc, List.drop_left' (by rw [List.length_append, Fl.cells_len])]
theorem flat_snoc (l : List Fl) (x : Fl) : (l ++ [x]).flatMap Fl.cells = l.flatMap Fl.cells ++ x.cells := by simp
theorem OS.zero {os : OS} {size : Nat} {xs : List Value} (h : os.ok size xs) : OS.ok ⟨os.a, 0, os.c, os.cur⟩ size [] := by
  refine ⟨by simp, fun ha => ⟨rfl, (h.nil ha).2⟩, fun g hg => ?_⟩
  obtain ⟨h1, h2, h3, h4⟩ := h.cap g hg
  exact ⟨h1, Nat.zero_le _, h3, by simp⟩
/-- A slice of the function's own, read. -/
theorem OS.fsAt {I : GH} {M : List Blk} {os : OS} {l : List Fl} {e : Nat} (h : os.ok 3 (l.flatMap Fl.cells)) (hM : ∀ x ∈ os.blk e, x ∈ M) : FsAt I M (os.a.map fun g => ⟨g, 0, none⟩) os.n l := by
  have hl := h.len
  rw [fl_len] at hl
  refine ⟨by omega, fun j hj => ?_⟩
  obtain ⟨a, n, c, cur⟩ := os
  simp only at hl
  cases a with
  | none => have := (h.nil rfl).1; simp only at this; omega
  | some g =>
    obtain ⟨h1, h2, h3, h4⟩ := h.cap g rfl
    simp only at h1 h2 h4
    refine ⟨⟨g, 0, none⟩, rfl, ?_⟩
    have hm : (⟨g, .cells cur.toArray e (0, 0)⟩ : Blk) ∈ M := hM _ (by simp [OS.blk])
    have hr := blk_rd (I := I) (cs := cur) (k := j * 3) (n := 3) hm (by omega)
    have e1 : (cur.drop (j * 3)).take 3 = ((cur.take (n * 3)).drop (j * 3)).take 3 := by
      rw [List.drop_take, List.take_take]
      congr 1
      omega
    rw [e1, h4, flat_at Fl.cells 3 Fl.cells_len l j hj] at hr
    exact hr

/-! ### nodes -/
def kidsF (pl : List (ByteArray × Int)) (fl acc : List Fl) (d : Nd) : List Fl :=
  d.kids.map (fun k => acc.getD k.toNat fl0) ++ bif decide (d.k = 3) then [fl.getD ((lookM d.t pl).getD 0).toNat fl0] else []
def nodesF (pl : List (ByteArray × Int)) (fl : List Fl) : List Nd → List Fl → List Fl
  | [], acc => acc
  | d :: ds, acc => nodesF pl fl ds (acc ++ [comeFl d (kidsF pl fl acc d)])
theorem nodesF_len (pl : List (ByteArray × Int)) (fl : List Fl) : ∀ (ds : List Nd) (acc : List Fl), (nodesF pl fl ds acc).length = acc.length + ds.length
  | [], acc => rfl
  | d :: ds, acc => by
    rw [nodesF, nodesF_len]
    simp
    omega
/-- Each rule that is called has a flow. -/
def Called (pl : List (ByteArray × Int)) (n : Nat) (ns : List Nd) : Prop := ∀ d ∈ ns, d.k = 3 → ∃ i : Nat, lookM d.t pl = some (i : Int) ∧ i < n
theorem fits_k {d : Nd} {n : Int} (h : fits d n = true) : d.k < 10 := by
  apply Int.lt_of_not_ge
  intro hge
  have : (10 : Int) ≤ d.k := hge
  simp [fits, this] at h
theorem fits_kid {d : Nd} {n : Int} (h0 : 0 ≤ d.k) (h : fits d n = true) (hk : 6 ≤ d.k) : 0 < n := by
  have h10 := fits_k h
  have hcases : d.k = 6 ∨ d.k = 7 ∨ d.k = 8 ∨ d.k = 9 := by omega
  rcases hcases with e | e | e | e <;> (simp [fits, e, cntLo, cntHi, countsL] at h; omega)

theorem rep_at (acc : List Fl) (n i : Nat) (hl : acc.length = i) (hi : i < n) (x : Fl) : (acc ++ List.replicate (n - i) fl0).set i x = (acc ++ [x]) ++ List.replicate (n - (i + 1)) fl0 := by
  subst hl
  rw [List.set_append_right _ _ (Nat.le_refl _), Nat.sub_self, show n - acc.length = (n - (acc.length + 1)) + 1 by omega, List.replicate_succ, List.set_cons_zero]
  simp

theorem rowOf_fl : ∀ n : Nat, rowOf fl0.cells (n * 3) = (List.replicate n fl0).flatMap Fl.cells := fun n => by
  apply List.ext_getElem
  · rw [fl_len, List.length_replicate]
    simp [rowOf_eq, madeCells]
  intro i h1 h2
  have h3 : ∀ x ∈ (List.replicate n fl0).flatMap Fl.cells, x = Value.bool false := fun x hx => by
    obtain ⟨y, hy, hx⟩ := List.mem_flatMap.1 hx
    have := List.eq_of_mem_replicate hy
    subst this
    simpa [Fl.cells, fl0] using hx
  rw [h3 _ (List.getElem_mem h2)]
  have hz : ∀ j, j < 3 → fl0.cells[j]! = Value.bool false := fun j hj => by
    match j, hj with
    | 0, _ => rfl
    | 1, _ => rfl
    | 2, _ => rfl
  simp only [rowOf, List.getElem_map, List.getElem_range]
  exact hz _ (Nat.mod_lt _ (by decide))
theorem ble_fl {acc : List Fl} {n i : Nat} (hacc : acc.length = i) (hlt : i < n) (x : Fl) : Nat.ble (0 + i * 3 + x.cells.length) ((acc ++ List.replicate (n - i) fl0).flatMap Fl.cells).length = true := by
  rw [Nat.ble_eq, fl_len, Fl.cells_len, List.length_append, List.length_replicate]
  omega
set_option maxRecDepth 100000 in
set_option maxHeartbeats 16000000 in
theorem fnodes_spec {I : GH} {M0 : List Blk} {t : Tr} (ht : t.ok I) (hr : right t = true) {gm : Nat} {pl : List (ByteArray × Int)} (hm : I gm = some (mapO pl)) {la : Option Addr} {ln lc : Nat} {fl : List Fl} (hfl : FsAt I M0 la ln fl) (hc : Called pl ln t.ns) :
    Spec Tryz.prog 83 [.map (some gm), .slice la ln lc, t.val] I M0 fun v I' M' => I' = I ∧ ∃ b, v = .slice (some ⟨b, 0, none⟩) t.n t.n ∧ M' = flRow b (nodesF pl fl t.ns []) :: M0 := by
  refine spec_of_V [] TryzEOK Tryz.func83 rfl rfl rfl ?_
  intro B h0
  have htn := ht.n
  have hcap := ht.rs.cap
  refine CallOb.mk [] M0 _ (.refl _) comes_spec ?_
  rintro v I1 M1 - ⟨rfl, rfl, rfl⟩
  refine MakeOb.mk t.n t.n rfl rfl (Nat.le_refl _) (by show 3 * t.n ≤ _; omega) (by omega) ?_
  refine AllocOb.mk fun b8 hb8 hbM8 => ?_
  refine LoopOb.inv (ι := Nat × List Fl × OS) (fun x => { fl := [(0, .val (.map (some gm))), (1, .val (.slice la ln lc)), (5, .ref 5 0), (7, .ref 7 0), (8, .val (.slice (some ⟨b8, 0, none⟩) t.n t.n)), (9, .val x.2.2.val), (20, .val (.slice t.a t.n t.c)), (21, .val (.int .i64 t.n)), (22, .val (.int .i64 x.1))], cl := [(5, t.cells), (7, comeVs)], gi := I1, mi := flRow b8 (x.2.1 ++ List.replicate (t.n - x.1) fl0) :: (x.2.2.blk 80 ++ M0) })
    (fun x => x.1 ≤ t.n ∧ x.2.1.length = x.1 ∧ nodesF pl fl t.ns [] = nodesF pl fl (t.ns.drop x.1) x.2.1 ∧ ∃ ks, x.2.2.ok 3 ks) (fun x => t.n - x.1) ?_ ?_
  · refine ⟨(0, [], OS0), ⟨Nat.zero_le _, rfl, rfl, [], OS0_ok 3⟩, ?_, .cons .refl (.cons .refl (.cons .refl (.cons .refl (.cons .refl (.cons .refl (.cons .refl (.cons .refl (.cons .refl .nil)))))))), .cons rfl (.cons rfl .nil)⟩
    have e : rowOf fl0.cells (t.n * 3) = (List.replicate t.n fl0).flatMap Fl.cells := rowOf_fl t.n
    simp only [flRow, List.nil_append, Nat.sub_zero]
    rw [← e]
    exact .refl
  rintro ⟨i, acc, ko⟩ ⟨hi, hacc, hnf, kx, hko⟩
  simp only at hi hacc hnf hko
  refine CondOb.mk (fun h => ?_) (fun h => ?_)
  rotate_left
  · have hge : i = t.n := by have : ¬ (i : Int) < (t.n : Int) := of_decide_eq_false h; omega
    subst hge
    rw [List.drop_eq_nil_of_le (by omega), nodesF] at hnf
    refine ⟨I1, flRow b8 (acc ++ List.replicate (t.n - t.n) fl0) :: M0, .sub (.cons_cons _ (List.sublist_append_right _ _)) .refl, rfl, b8, rfl, ?_⟩
    rw [hnf, Nat.sub_self, List.replicate_zero, List.append_nil]
  have hlt : i < t.n := by have : (i : Int) < (t.n : Int) := of_decide_eq_true h; omega
  have hlt' : i < t.ns.length := by omega
  obtain ⟨ad, had, hrd⟩ := ht.rs.row Nd.cells_len hlt hlt'
  have hdm := List.getElem_mem hlt'
  have hd := ht.ns _ hdm
  have hkn := hd.kn
  have hkc := hd.rs.cap
  have hkv := right_kids hr i hlt'
  have hft := right_fits hr hlt'
  have hcd := hc _ hdm
  have hnf' : nodesF pl fl t.ns [] = nodesF pl fl (t.ns.drop (i + 1)) (acc ++ [comeFl t.ns[i] (kidsF pl fl acc t.ns[i])]) := by
    rw [hnf, List.drop_eq_getElem_cons hlt', nodesF]
  generalize t.ns[i] = d at hrd hd hkn hkc hkv hft hcd hnf'
  have hk0 := hd.k.1
  have hk10 := fits_k hft
  have hrow : ∀ {M : List Blk} {q : Int}, flRow b8 (acc ++ List.replicate (t.n - i) fl0) ∈ M → q ∈ d.kids → Rd I1 M ((⟨b8, 0, none⟩ : Addr).add (q.toNat * 3)) 3 (acc.getD q.toNat fl0).cells := fun {M q} hM hq => by
    have hq' := hkv q hq
    have hql : q.toNat < acc.length := by omega
    have := flRow_rd (I := I1) hM (j := q.toNat) (by rw [List.length_append]; omega)
    rw [List.getElem_append_left hql] at this
    simpa [List.getD_eq_getElem?_getD, hql] using this
  refine IdxOb.mk ad i had rfl hlt ?_
  refine LoadOb.mk _ (hrd _) ?_
  refine SliceOb.mk 0 0 rfl rfl (Nat.le_refl _) (Nat.zero_le _) ?_
  refine LoopOb.inv (ι := Nat × OS × List Fl) (fun x => { fl := [(0, .val (.map (some gm))), (1, .val (.slice la ln lc)), (5, .ref 5 0), (7, .ref 7 0), (8, .val (.slice (some ⟨b8, 0, none⟩) t.n t.n)), (9, .val x.2.1.val), (10, .val (.int .i64 i)), (11, .ref 11 0), (20, .val (.slice t.a t.n t.c)), (21, .val (.int .i64 t.n)), (22, .val (.int .i64 i)), (30, .val (.slice d.ka d.kn d.kc)), (31, .val (.int .i64 d.kn)), (32, .val (.int .i64 x.1))], cl := [(5, t.cells), (7, comeVs), (11, d.cells)], gi := I1, mi := flRow b8 (acc ++ List.replicate (t.n - i) fl0) :: (x.2.1.blk 80 ++ M0) })
    (fun x => x.1 ≤ d.kn ∧ x.2.1.ok 3 (x.2.2.flatMap Fl.cells) ∧ x.2.2 = (d.kids.take x.1).map fun k => acc.getD k.toNat fl0) (fun x => d.kn - x.1) ?_ ?_
  · exact ⟨(0, ⟨ko.a, 0, ko.c, ko.cur⟩, []), ⟨Nat.zero_le _, OS.zero hko, rfl⟩, .refl, .cons .refl (.cons .refl (.cons .refl (.cons .refl (.cons .refl (.cons .refl (.cons .refl (.cons .refl (.cons .refl (.cons .refl (.cons .refl (.cons .refl (.cons .refl (.cons .refl .nil))))))))))))), .cons rfl (.cons rfl (.cons rfl .nil))⟩
  rintro ⟨k, k2, kl⟩ ⟨hk, hk2, hkl⟩
  simp only at hk hk2 hkl
  have hk2n : k2.n = kl.length := by have := hk2.len; rw [fl_len] at this; omega
  have hkll : kl.length ≤ k := by rw [hkl, List.length_map]; exact List.length_take_le _ _
  refine CondOb.mk (fun h => ?_) (fun h => ?_)
  · have hkk : k < d.kn := by have : (k : Int) < (d.kn : Int) := of_decide_eq_true h; omega
    have hkk' : k < d.kids.length := by omega
    obtain ⟨ak, hak, hrk⟩ := hd.rs.one hkk hkk'
    have hq := hkv _ (List.getElem_mem hkk')
    refine IdxOb.mk ak k hak rfl hkk ?_
    refine LoadOb.mk _ (hrk _) ?_
    refine IdxOb.mk ⟨b8, 0, none⟩ d.kids[k].toNat rfl (by omega) (by omega) ?_
    refine LoadOb.mk _ (hrow (.head _) (List.getElem_mem hkk')) ?_
    refine AllocOb.mk fun b9 hb9 hbM9 => ?_
    refine OtherOb.append TryzEOK rfl (by simp) (e := 80) rfl rfl rfl k2 hk2 rfl (m := 1) rfl (news := (acc.getD d.kids[k].toNat fl0).cells) (by decide) (blk_rd (b := b9) (cs := (acc.getD d.kids[k].toNat fl0).cells) (k := 0) (n := 3) (T := 80) (.head _) (Nat.le_of_ble_eq_true rfl)) rfl (Mr := ⟨b9, .cells (acc.getD d.kids[k].toNat fl0).cells.toArray 80 (0, 0)⟩ :: flRow b8 (acc ++ List.replicate (t.n - i) fl0) :: M0) (by
      have := List.perm_append_comm_assoc [(⟨b9, .cells (acc.getD d.kids[k].toNat fl0).cells.toArray 80 (0, 0)⟩ : Blk), flRow b8 (acc ++ List.replicate (t.n - i) fl0)] (k2.blk 80) M0
      exact this) (by simp only [maxLen]; omega) (by show (k2.n + 1) * 3 ≤ _; omega) ?_
    intro g2 c2 cur2 r1 r2 r3 r4
    refine ArithOb.mk _ (next_wr (i := k) (by omega)) ?_
    refine ⟨(k + 1, ⟨some g2, k2.n + 1, c2, cur2⟩, kl ++ [acc.getD d.kids[k].toNat fl0]), ⟨⟨by simp only; omega, ?_, ?_⟩, by simp only; omega⟩, .sub (M1 := [(⟨g2, .cells cur2.toArray 80 (0, 0)⟩ : Blk), flRow b8 (acc ++ List.replicate (t.n - i) fl0)] ++ M0) (.cons_cons _ (.cons _ (.refl _))) (.perm (List.Perm.swap _ _ _) .refl), .cons .refl (.cons .refl (.cons .refl (.cons .refl (.cons .refl (.cons .refl (.cons .refl (.cons .refl (.cons .refl (.cons .refl (.cons .refl (.cons .refl (.cons .refl (.cons .refl .nil))))))))))))), .cons rfl (.cons rfl (.cons rfl .nil))⟩
    · simp only
      rw [flat_snoc]
      exact appk_ok hk2 (Fl.cells_len _) r1 r2 r3 r4
    · simp only
      rw [List.take_succ_eq_append_getElem hkk', List.map_append, ← hkl]
      rfl
  have hge : d.kn ≤ k := by have : ¬ (k : Int) < (d.kn : Int) := of_decide_eq_false h; omega
  rw [List.take_of_length_le (by omega)] at hkl
  have hkln : kl.length = d.kids.length := by rw [hkl, List.length_map]
  have hb2 : k2.n + 1 ≤ 140737488355328 := by omega
  clear h hk hkll
  -- what each kind comes to
  have hset : ∀ x : Fl, splice ((acc ++ List.replicate (t.n - i) fl0).flatMap Fl.cells) (0 + i * 3) x.cells = ((acc ++ [x]) ++ List.replicate (t.n - (i + 1)) fl0).flatMap Fl.cells := fun x => by
    rw [Nat.zero_add, flRow_set _ _ (by simp; omega), rep_at acc t.n i hacc hlt]
  have hinv : ∀ (ko2 : OS) (ks2 : List Value), ko2.ok 3 ks2 → ((i + 1 ≤ t.n ∧ (acc ++ [comeFl d (kidsF pl fl acc d)]).length = i + 1 ∧ nodesF pl fl t.ns [] = nodesF pl fl (t.ns.drop (i + 1)) (acc ++ [comeFl d (kidsF pl fl acc d)]) ∧ ∃ ks, ko2.ok 3 ks) ∧ t.n - (i + 1) < t.n - i) := fun ko2 ks2 h2 =>
    ⟨⟨hlt, by simp [hacc], hnf', ks2, h2⟩, by omega⟩
  by_cases h3 : d.k = 3
  · refine CondOb.mk (fun _ => ?_) (fun h => absurd h (by simp [h3]))
    obtain ⟨q, hq1, hq2⟩ := hcd h3
    have hkf : kidsF pl fl acc d = kl ++ [fl.getD q fl0] := by
      rw [kidsF, ← hkl, hq1, h3]
      rfl
    have hql : q < fl.length := by rw [hfl.n]; exact hq2
    obtain ⟨al, hal, hrl⟩ := hfl.rd q hql
    have hgq : fl.getD q fl0 = fl[q] := by simp [List.getD_eq_getElem?_getD, hql]
    refine OtherOb.lookupF TryzEOK rfl (by simp) rfl rfl rfl rfl (fun w => zero_int w) (l := pl) (g := gm) rfl rfl (.inl hm) ?_
    rw [hq1]
    refine IdxOb.mk al q hal rfl hq2 ?_
    refine LoadOb.mk _ (hrl.sub fun x hx => by simp [hx]) ?_
    refine AllocOb.mk fun b9 hb9 hbM9 => ?_
    refine OtherOb.append TryzEOK rfl (by simp) (e := 80) rfl rfl rfl k2 hk2 rfl (m := 1) rfl (news := fl[q].cells) (by decide) (blk_rd (b := b9) (cs := fl[q].cells) (k := 0) (n := 3) (T := 80) (.head _) (Nat.le_of_ble_eq_true rfl)) rfl (Mr := ⟨b9, .cells fl[q].cells.toArray 80 (0, 0)⟩ :: flRow b8 (acc ++ List.replicate (t.n - i) fl0) :: M0) (by
      have := List.perm_append_comm_assoc [(⟨b9, .cells fl[q].cells.toArray 80 (0, 0)⟩ : Blk), flRow b8 (acc ++ List.replicate (t.n - i) fl0)] (k2.blk 80) M0
      exact this) (by simp only [maxLen]; omega) (by show (k2.n + 1) * 3 ≤ _; omega) ?_
    intro g2 c2 cur2 r1 r2 r3 r4
    have hok2 := appk_ok (g := g2) hk2 (Fl.cells_len fl[q]) r1 r2 r3 r4
    rw [← flat_snoc, ← hgq, ← hkf] at hok2
    have hks := OS.fsAt (I := I1) (M := ⟨g2, .cells cur2.toArray 80 (0, 0)⟩ :: ⟨b9, .cells fl[q].cells.toArray 80 (0, 0)⟩ :: flRow b8 (acc ++ List.replicate (t.n - i) fl0) :: M0) (e := 80) hok2 (fun x hx => by
      simp only [OS.blk, List.mem_singleton] at hx
      subst hx
      exact .head _)
    refine CodeOb.draw TryzEOK rfl rfl rfl ?_
    obtain ⟨dk, s0, s1, s2, s3, dt, lo, hi', dka, dkn, dkc, dkids⟩ := d
    simp only at h3
    subst h3
    refine ArrOb.mk 3 rfl (by decide) ?_
    refine PCallOb.mkR _ [] _ perm_nil (come_at (d := ⟨3, s0, s1, s2, s3, dt, lo, hi', dka, dkn, dkc, dkids⟩) hks hb2 3 (by decide) rfl (fun _ => Nat.succ_pos _)) (fun v I' M' h x hx => by rw [h.2.2]; exact hx) ?_
    rintro v I2 M2 - ⟨rfl, rfl, rfl⟩
    rw [List.append_nil]
    refine IdxOb.mk ⟨b8, 0, none⟩ i rfl rfl hlt ?_
    refine StoreOb.addTo [(⟨g2, .cells cur2.toArray 80 (0, 0)⟩ : Blk), ⟨b9, .cells fl[q].cells.toArray 80 (0, 0)⟩] M0 ((acc ++ List.replicate (t.n - i) fl0).flatMap Fl.cells) _ rfl (ble_fl hacc hlt _) rfl _ (hset _) ?_
    refine ArithOb.mk _ (next_wr (i := i) (by omega)) ?_
    exact ⟨(i + 1, _, ⟨some g2, k2.n + 1, c2, cur2⟩), hinv _ _ hok2, .sub (M1 := [(⟨g2, .cells cur2.toArray 80 (0, 0)⟩ : Blk), flRow b8 _] ++ M0) (.cons_cons _ (.cons _ (.refl _))) (.perm (List.Perm.swap _ _ _) .refl), .cons .refl (.cons .refl (.cons .refl (.cons .refl (.cons .refl (.cons .refl (.cons .refl (.cons .refl (.cons .refl .nil)))))))), .cons rfl (.cons rfl .nil)⟩
  refine CondOb.mk (fun h => absurd (of_decide_eq_true h) h3) (fun _ => ?_)
  have hkf : kidsF pl fl acc d = kl := by
    rw [kidsF, ← hkl, decide_eq_false h3]
    simp
  rw [hkf] at hinv
  have hks := OS.fsAt (I := I1) (M := flRow b8 (acc ++ List.replicate (t.n - i) fl0) :: (k2.blk 80 ++ M0)) (e := 80) hk2 (fun x hx => by simp [hx])
  have hpos : 6 ≤ d.k → 0 < k2.n := fun h6 => by
    have := fits_kid hk0 hft h6
    omega
  have hcases : d.k = 0 ∨ d.k = 1 ∨ d.k = 2 ∨ d.k = 4 ∨ d.k = 5 ∨ d.k = 6 ∨ d.k = 7 ∨ d.k = 8 ∨ d.k = 9 := by omega
  obtain ⟨dk, s0, s1, s2, s3, dt, lo, hi', dka, dkn, dkc, dkids⟩ := d
  simp only at hcases hpos h3
  refine CodeOb.draw TryzEOK rfl rfl rfl ?_
  rcases hcases with rfl | rfl | rfl | rfl | rfl | rfl | rfl | rfl | rfl
  · refine ArrOb.mk 0 rfl (by decide) ?_
    refine PCallOb.mkR _ [] _ perm_nil (come_at (d := ⟨0, s0, s1, s2, s3, dt, lo, hi', dka, dkn, dkc, dkids⟩) hks (Nat.le_of_succ_le hb2) 0 (by decide) rfl (fun h => by omega)) (fun v I' M' h x hx => by rw [h.2.2]; exact hx) ?_
    rintro v I2 M2 - ⟨rfl, rfl, rfl⟩
    rw [List.append_nil]
    refine IdxOb.mk ⟨b8, 0, none⟩ i rfl rfl hlt ?_
    refine StoreOb.addTo [] (k2.blk 80 ++ M0) ((acc ++ List.replicate (t.n - i) fl0).flatMap Fl.cells) _ rfl (ble_fl hacc hlt _) rfl _ (hset _) ?_
    refine ArithOb.mk _ (next_wr (i := i) (by omega)) ?_
    exact ⟨(i + 1, _, k2), hinv _ _ hk2, .refl, .cons .refl (.cons .refl (.cons .refl (.cons .refl (.cons .refl (.cons .refl (.cons .refl (.cons .refl (.cons .refl .nil)))))))), .cons rfl (.cons rfl .nil)⟩
  · refine ArrOb.mk 1 rfl (by decide) ?_
    refine PCallOb.mkR _ [] _ perm_nil (come_at (d := ⟨1, s0, s1, s2, s3, dt, lo, hi', dka, dkn, dkc, dkids⟩) hks (Nat.le_of_succ_le hb2) 1 (by decide) rfl (fun h => by omega)) (fun v I' M' h x hx => by rw [h.2.2]; exact hx) ?_
    rintro v I2 M2 - ⟨rfl, rfl, rfl⟩
    rw [List.append_nil]
    refine IdxOb.mk ⟨b8, 0, none⟩ i rfl rfl hlt ?_
    refine StoreOb.addTo [] (k2.blk 80 ++ M0) ((acc ++ List.replicate (t.n - i) fl0).flatMap Fl.cells) _ rfl (ble_fl hacc hlt _) rfl _ (hset _) ?_
    refine ArithOb.mk _ (next_wr (i := i) (by omega)) ?_
    exact ⟨(i + 1, _, k2), hinv _ _ hk2, .refl, .cons .refl (.cons .refl (.cons .refl (.cons .refl (.cons .refl (.cons .refl (.cons .refl (.cons .refl (.cons .refl .nil)))))))), .cons rfl (.cons rfl .nil)⟩
  · refine ArrOb.mk 2 rfl (by decide) ?_
    refine PCallOb.mkR _ [] _ perm_nil (come_at (d := ⟨2, s0, s1, s2, s3, dt, lo, hi', dka, dkn, dkc, dkids⟩) hks (Nat.le_of_succ_le hb2) 2 (by decide) rfl (fun h => by omega)) (fun v I' M' h x hx => by rw [h.2.2]; exact hx) ?_
    rintro v I2 M2 - ⟨rfl, rfl, rfl⟩
    rw [List.append_nil]
    refine IdxOb.mk ⟨b8, 0, none⟩ i rfl rfl hlt ?_
    refine StoreOb.addTo [] (k2.blk 80 ++ M0) ((acc ++ List.replicate (t.n - i) fl0).flatMap Fl.cells) _ rfl (ble_fl hacc hlt _) rfl _ (hset _) ?_
    refine ArithOb.mk _ (next_wr (i := i) (by omega)) ?_
    exact ⟨(i + 1, _, k2), hinv _ _ hk2, .refl, .cons .refl (.cons .refl (.cons .refl (.cons .refl (.cons .refl (.cons .refl (.cons .refl (.cons .refl (.cons .refl .nil)))))))), .cons rfl (.cons rfl .nil)⟩
  · refine ArrOb.mk 4 rfl (by decide) ?_
    refine PCallOb.mkR _ [] _ perm_nil (come_at (d := ⟨4, s0, s1, s2, s3, dt, lo, hi', dka, dkn, dkc, dkids⟩) hks (Nat.le_of_succ_le hb2) 4 (by decide) rfl (fun h => by omega)) (fun v I' M' h x hx => by rw [h.2.2]; exact hx) ?_
    rintro v I2 M2 - ⟨rfl, rfl, rfl⟩
    rw [List.append_nil]
    refine IdxOb.mk ⟨b8, 0, none⟩ i rfl rfl hlt ?_
    refine StoreOb.addTo [] (k2.blk 80 ++ M0) ((acc ++ List.replicate (t.n - i) fl0).flatMap Fl.cells) _ rfl (ble_fl hacc hlt _) rfl _ (hset _) ?_
    refine ArithOb.mk _ (next_wr (i := i) (by omega)) ?_
    exact ⟨(i + 1, _, k2), hinv _ _ hk2, .refl, .cons .refl (.cons .refl (.cons .refl (.cons .refl (.cons .refl (.cons .refl (.cons .refl (.cons .refl (.cons .refl .nil)))))))), .cons rfl (.cons rfl .nil)⟩
  · refine ArrOb.mk 5 rfl (by decide) ?_
    refine PCallOb.mkR _ [] _ perm_nil (come_at (d := ⟨5, s0, s1, s2, s3, dt, lo, hi', dka, dkn, dkc, dkids⟩) hks (Nat.le_of_succ_le hb2) 5 (by decide) rfl (fun h => by omega)) (fun v I' M' h x hx => by rw [h.2.2]; exact hx) ?_
    rintro v I2 M2 - ⟨rfl, rfl, rfl⟩
    rw [List.append_nil]
    refine IdxOb.mk ⟨b8, 0, none⟩ i rfl rfl hlt ?_
    refine StoreOb.addTo [] (k2.blk 80 ++ M0) ((acc ++ List.replicate (t.n - i) fl0).flatMap Fl.cells) _ rfl (ble_fl hacc hlt _) rfl _ (hset _) ?_
    refine ArithOb.mk _ (next_wr (i := i) (by omega)) ?_
    exact ⟨(i + 1, _, k2), hinv _ _ hk2, .refl, .cons .refl (.cons .refl (.cons .refl (.cons .refl (.cons .refl (.cons .refl (.cons .refl (.cons .refl (.cons .refl .nil)))))))), .cons rfl (.cons rfl .nil)⟩
  · refine ArrOb.mk 6 rfl (by decide) ?_
    refine PCallOb.mkR _ [] _ perm_nil (come_at (d := ⟨6, s0, s1, s2, s3, dt, lo, hi', dka, dkn, dkc, dkids⟩) hks (Nat.le_of_succ_le hb2) 6 (by decide) rfl (fun _ => hpos (by decide))) (fun v I' M' h x hx => by rw [h.2.2]; exact hx) ?_
    rintro v I2 M2 - ⟨rfl, rfl, rfl⟩
    rw [List.append_nil]
    refine IdxOb.mk ⟨b8, 0, none⟩ i rfl rfl hlt ?_
    refine StoreOb.addTo [] (k2.blk 80 ++ M0) ((acc ++ List.replicate (t.n - i) fl0).flatMap Fl.cells) _ rfl (ble_fl hacc hlt _) rfl _ (hset _) ?_
    refine ArithOb.mk _ (next_wr (i := i) (by omega)) ?_
    exact ⟨(i + 1, _, k2), hinv _ _ hk2, .refl, .cons .refl (.cons .refl (.cons .refl (.cons .refl (.cons .refl (.cons .refl (.cons .refl (.cons .refl (.cons .refl .nil)))))))), .cons rfl (.cons rfl .nil)⟩
  · refine ArrOb.mk 7 rfl (by decide) ?_
    refine PCallOb.mkR _ [] _ perm_nil (come_at (d := ⟨7, s0, s1, s2, s3, dt, lo, hi', dka, dkn, dkc, dkids⟩) hks (Nat.le_of_succ_le hb2) 7 (by decide) rfl (fun _ => hpos (by decide))) (fun v I' M' h x hx => by rw [h.2.2]; exact hx) ?_
    rintro v I2 M2 - ⟨rfl, rfl, rfl⟩
    rw [List.append_nil]
    refine IdxOb.mk ⟨b8, 0, none⟩ i rfl rfl hlt ?_
    refine StoreOb.addTo [] (k2.blk 80 ++ M0) ((acc ++ List.replicate (t.n - i) fl0).flatMap Fl.cells) _ rfl (ble_fl hacc hlt _) rfl _ (hset _) ?_
    refine ArithOb.mk _ (next_wr (i := i) (by omega)) ?_
    exact ⟨(i + 1, _, k2), hinv _ _ hk2, .refl, .cons .refl (.cons .refl (.cons .refl (.cons .refl (.cons .refl (.cons .refl (.cons .refl (.cons .refl (.cons .refl .nil)))))))), .cons rfl (.cons rfl .nil)⟩
  · refine ArrOb.mk 8 rfl (by decide) ?_
    refine PCallOb.mkR _ [] _ perm_nil (come_at (d := ⟨8, s0, s1, s2, s3, dt, lo, hi', dka, dkn, dkc, dkids⟩) hks (Nat.le_of_succ_le hb2) 8 (by decide) rfl (fun _ => hpos (by decide))) (fun v I' M' h x hx => by rw [h.2.2]; exact hx) ?_
    rintro v I2 M2 - ⟨rfl, rfl, rfl⟩
    rw [List.append_nil]
    refine IdxOb.mk ⟨b8, 0, none⟩ i rfl rfl hlt ?_
    refine StoreOb.addTo [] (k2.blk 80 ++ M0) ((acc ++ List.replicate (t.n - i) fl0).flatMap Fl.cells) _ rfl (ble_fl hacc hlt _) rfl _ (hset _) ?_
    refine ArithOb.mk _ (next_wr (i := i) (by omega)) ?_
    exact ⟨(i + 1, _, k2), hinv _ _ hk2, .refl, .cons .refl (.cons .refl (.cons .refl (.cons .refl (.cons .refl (.cons .refl (.cons .refl (.cons .refl (.cons .refl .nil)))))))), .cons rfl (.cons rfl .nil)⟩
  · refine ArrOb.mk 9 rfl (by decide) ?_
    refine PCallOb.mkR _ [] _ perm_nil (come_at (d := ⟨9, s0, s1, s2, s3, dt, lo, hi', dka, dkn, dkc, dkids⟩) hks (Nat.le_of_succ_le hb2) 9 (by decide) rfl (fun _ => hpos (by decide))) (fun v I' M' h x hx => by rw [h.2.2]; exact hx) ?_
    rintro v I2 M2 - ⟨rfl, rfl, rfl⟩
    rw [List.append_nil]
    refine IdxOb.mk ⟨b8, 0, none⟩ i rfl rfl hlt ?_
    refine StoreOb.addTo [] (k2.blk 80 ++ M0) ((acc ++ List.replicate (t.n - i) fl0).flatMap Fl.cells) _ rfl (ble_fl hacc hlt _) rfl _ (hset _) ?_
    refine ArithOb.mk _ (next_wr (i := i) (by omega)) ?_
    exact ⟨(i + 1, _, k2), hinv _ _ hk2, .refl, .cons .refl (.cons .refl (.cons .refl (.cons .refl (.cons .refl (.cons .refl (.cons .refl (.cons .refl (.cons .refl .nil)))))))), .cons rfl (.cons rfl .nil)⟩
end Go.V

/-
  Plain: flows: who is greater; the least ones that are closed. No program in sight.
-/
set_option linter.unusedVariables false
set_option linter.unusedSimpArgs false
namespace Go.V
open Go

/-! ### The order -/
structure Fl.le (a b : Fl) : Prop where
  z : a.z = true → b.z = true
  s : a.s = true → b.s = true
  f : a.f = true → b.f = true
theorem Fl.le_refl (a : Fl) : a.le a := ⟨id, id, id⟩
theorem Fl.le.trans {a b c : Fl} (h : a.le b) (h' : b.le c) : a.le c := ⟨fun x => h'.z (h.z x), fun x => h'.s (h.s x), fun x => h'.f (h.f x)⟩
theorem Fl.le.antisymm {a b : Fl} (h : a.le b) (h' : b.le a) : a = b := by
  obtain ⟨a1, a2, a3⟩ := a
  obtain ⟨b1, b2, b3⟩ := b
  have e : ∀ {x y : Bool}, (x = true → y = true) → (y = true → x = true) → x = y := fun {x y} h h' => by cases x <;> cases y <;> simp_all
  have e1 : a1 = b1 := e h.z h'.z
  have e2 : a2 = b2 := e h.s h'.s
  have e3 : a3 = b3 := e h.f h'.f
  subst e1 e2 e3
  rfl
theorem Fl.bot (a : Fl) : fl0.le a := ⟨(fun h => by cases h), (fun h => by cases h), (fun h => by cases h)⟩
def within (a b : Fl) : Bool := (!a.z || b.z) && ((!a.s || b.s) && (!a.f || b.f))
theorem within_iff {a b : Fl} : within a b = true ↔ a.le b := by
  obtain ⟨a1, a2, a3⟩ := a
  obtain ⟨b1, b2, b3⟩ := b
  constructor
  · intro h
    exact ⟨by cases a1 <;> cases b1 <;> simp_all [within], by cases a2 <;> cases b2 <;> simp_all [within], by cases a3 <;> cases b3 <;> simp_all [within]⟩
  · rintro ⟨h1, h2, h3⟩
    cases a1 <;> cases b1 <;> cases a2 <;> cases b2 <;> cases a3 <;> cases b3 <;> simp_all [within]
theorem Fl.suc_mono {a b : Fl} (h : a.le b) : a.suc = true → b.suc = true := by
  intro hs
  simp only [Fl.suc, Bool.or_eq_true] at hs ⊢
  exact hs.imp h.z h.s

/-- Rows, one by one. -/
inductive LeL : List Fl → List Fl → Prop
  | nil : LeL [] []
  | cons {a b l m} (h : Fl.le a b) (t : LeL l m) : LeL (a :: l) (b :: m)
theorem LeL.refl : ∀ l, LeL l l
  | [] => .nil
  | a :: l => .cons a.le_refl (LeL.refl l)
theorem LeL.trans : ∀ {a b c}, LeL a b → LeL b c → LeL a c
  | _, _, _, .nil, .nil => .nil
  | _, _, _, .cons h t, .cons h' t' => .cons (h.trans h') (t.trans t')
theorem LeL.antisymm : ∀ {a b}, LeL a b → LeL b a → a = b
  | _, _, .nil, _ => rfl
  | _, _, .cons h t, .cons h' t' => by rw [h.antisymm h', t.antisymm t']
theorem LeL.len : ∀ {a b}, LeL a b → a.length = b.length
  | _, _, .nil => rfl
  | _, _, .cons h t => by simp [t.len]
theorem LeL.append : ∀ {a b c d}, LeL a b → LeL c d → LeL (a ++ c) (b ++ d)
  | _, _, _, _, .nil, h => h
  | _, _, _, _, .cons h t, h' => .cons h (t.append h')
theorem LeL.getD : ∀ {a b}, LeL a b → ∀ i, (a.getD i fl0).le (b.getD i fl0)
  | _, _, .nil, i => by simp; exact Fl.le_refl _
  | _, _, .cons h t, 0 => h
  | _, _, .cons h t, i + 1 => by simpa using t.getD i
theorem LeL.of : ∀ {a b : List Fl}, a.length = b.length → (∀ i, i < a.length → (a.getD i fl0).le (b.getD i fl0)) → LeL a b
  | [], [], _, _ => .nil
  | x :: a, y :: b, hl, h => .cons (by simpa using h 0 (by simp)) (LeL.of (by simpa using hl) fun i hi => by simpa using h (i + 1) (by simpa using hi))
theorem LeL.map {α : Type} {f g : α → Fl} : ∀ {l : List α}, (∀ x ∈ l, (f x).le (g x)) → LeL (l.map f) (l.map g)
  | [], _ => .nil
  | x :: l, h => .cons (h x (.head _)) (LeL.map fun y hy => h y (.tail _ hy))
theorem LeL.head {a b : List Fl} (h : LeL a b) : (a.headD fl0).le (b.headD fl0) := by
  cases h with
  | nil => exact Fl.le_refl _
  | cons h _ => exact h
theorem LeL.bot : ∀ l : List Fl, LeL (List.replicate l.length fl0) l
  | [] => .nil
  | a :: l => .cons a.bot (LeL.bot l)

/-! ### The table is rising -/
theorem seq_mono : ∀ {a b : List Fl}, LeL a b → ∀ {x y : Fl × Bool}, x.1.le y.1 → (x.2 = true → y.2 = true) → (a.foldl seqStep x).1.le (b.foldl seqStep y).1 ∧ ((a.foldl seqStep x).2 = true → (b.foldl seqStep y).2 = true)
  | _, _, .nil, _, _, h1, h2 => ⟨h1, h2⟩
  | _, _, .cons h t, x, y, h1, h2 => by
    refine seq_mono t ⟨?_, ?_, ?_⟩ ?_
    · simp only [seqStep, Bool.and_eq_true]
      exact fun g => ⟨h1.z g.1, h.z g.2⟩
    · simp only [seqStep, Bool.or_eq_true]
      exact fun g => g.imp h1.s h.s
    · simp only [seqStep, Bool.or_eq_true, Bool.and_eq_true]
      exact fun g => g.imp h1.f fun g => ⟨h2 g.1, h.f g.2⟩
    · simp only [seqStep, Bool.and_eq_true]
      exact fun g => ⟨h2 g.1, Fl.suc_mono h g.2⟩
theorem ch_mono : ∀ {a b : List Fl}, LeL a b → ∀ {x y : Fl}, x.le y → (a.foldl chStep x).le (b.foldl chStep y)
  | _, _, .nil, _, _, h1 => h1
  | _, _, .cons h t, x, y, h1 => by
    refine ch_mono t ⟨?_, ?_, ?_⟩
    · simp only [chStep, Bool.or_eq_true, Bool.and_eq_true]
      exact fun g => g.imp h1.z fun g => ⟨h1.f g.1, h.z g.2⟩
    · simp only [chStep, Bool.or_eq_true, Bool.and_eq_true]
      exact fun g => g.imp h1.s fun g => ⟨h1.f g.1, h.s g.2⟩
    · simp only [chStep, Bool.and_eq_true]
      exact fun g => ⟨h1.f g.1, h.f g.2⟩
theorem rep_mono (d : Nd) {a b : Fl} (h : a.le b) : (repFl d a).le (repFl d b) := by
  unfold repFl
  cases decide (d.hi = 0) with
  | true => exact Fl.le_refl _
  | false =>
    refine ⟨?_, h.s, ?_⟩
    · simp only [cond_false, Bool.or_eq_true, Bool.and_eq_true]
      exact fun g => g.imp h.z fun g => ⟨g.1, h.f g.2⟩
    · simp only [cond_false, Bool.and_eq_true]
      exact fun g => ⟨g.1, h.f g.2⟩
theorem come_mono (d : Nd) {a b : List Fl} (h : LeL a b) : (comeFl d a).le (comeFl d b) := by
  have hh := h.head
  unfold comeFl
  cases decide (d.k = 0) with
  | true => exact Fl.le_refl _
  | false =>
  cases decide (d.k = 1) with
  | true => exact Fl.le_refl _
  | false =>
  cases decide (d.k = 2) with
  | true => exact Fl.le_refl _
  | false =>
  cases decide (d.k = 3) with
  | true => exact hh
  | false =>
  cases decide (d.k = 4) with
  | true =>
    have hs := seq_mono h (x := (⟨true, false, false⟩, true)) (y := (⟨true, false, false⟩, true)) (Fl.le_refl _) id
    refine ⟨hs.1.z, ?_, hs.1.f⟩
    simp only [cond_true, cond_false, seqFl, seqGo, Bool.and_eq_true]
    exact fun g => ⟨hs.1.s g.1, hs.2 g.2⟩
  | false =>
  cases decide (d.k = 5) with
  | true => exact ch_mono h (Fl.le_refl _)
  | false =>
  cases decide (d.k = 6) with
  | true => exact rep_mono d hh
  | false =>
  cases decide (d.k = 7) with
  | true => exact ⟨Fl.suc_mono hh, id, hh.f⟩
  | false =>
  cases decide (d.k = 8) with
  | true => exact ⟨hh.f, id, Fl.suc_mono hh⟩
  | false => exact hh
theorem kids_mono {pl : List (ByteArray × Int)} {fl fl' acc acc' : List Fl} (h : LeL fl fl') (ha : LeL acc acc') (d : Nd) : LeL (kidsF pl fl acc d) (kidsF pl fl' acc' d) := by
  unfold kidsF
  refine (LeL.map fun k _ => ha.getD _).append ?_
  cases decide (d.k = 3) with
  | true => exact .cons (h.getD _) .nil
  | false => exact .nil
theorem nodes_mono {pl : List (ByteArray × Int)} {fl fl' : List Fl} (h : LeL fl fl') : ∀ (ds : List Nd) {acc acc' : List Fl}, LeL acc acc' → LeL (nodesF pl fl ds acc) (nodesF pl fl' ds acc')
  | [], _, _, ha => ha
  | d :: ds, _, _, ha => nodes_mono h ds (ha.append (.cons (come_mono d (kids_mono h ha d)) .nil))

/-! ### A grammar's flows -/
/-- The flow of a rule's body, by flows of rules. -/
def bodyF (pl : List (ByteArray × Int)) (fl : List Fl) (d : Df) : Fl := (nodesF pl fl d.t.ns []).getD d.t.root.toNat fl0
theorem body_mono {pl : List (ByteArray × Int)} {fl fl' : List Fl} (h : LeL fl fl') (d : Df) : (bodyF pl fl d).le (bodyF pl fl' d) := (nodes_mono h d.t.ns .nil).getD _
def roundGo (pl : List (ByteArray × Int)) : Nat → List Df → List Fl → List Fl
  | _, [], l => l
  | i, d :: ds, l => roundGo pl (i + 1) ds (l.set i (bodyF pl l d))
/-- Flows on the way to the least ones. -/
structure PreF (ds : List Df) (l : List Fl) : Prop where
  len : l.length = ds.length
  up : ∀ i (h : i < ds.length), (l.getD i fl0).le (bodyF (placesL ds) l ds[i])
  least : ∀ m : List Fl, m.length = ds.length → (∀ i (h : i < ds.length), (bodyF (placesL ds) m ds[i]).le (m.getD i fl0)) → LeL l m
theorem set_getD (l : List Fl) (i j : Nat) (x : Fl) (hi : i < l.length) : (l.set i x).getD j fl0 = if i = j then x else l.getD j fl0 := by
  simp only [List.getD_eq_getElem?_getD, List.getElem?_set]
  by_cases e : i = j
  · subst e
    simp [hi]
  · rw [if_neg e, if_neg e]
theorem PreF.start (ds : List Df) : PreF ds (List.replicate ds.length fl0) := by
  refine ⟨by simp, fun i h => ?_, fun m hm _ => by rw [← hm]; exact LeL.bot m⟩
  have : (List.replicate ds.length fl0).getD i fl0 = fl0 := by simp [List.getD_eq_getElem?_getD, h]
  rw [this]
  exact Fl.bot _
theorem PreF.step {ds : List Df} {l : List Fl} (h : PreF ds l) {i : Nat} (hi : i < ds.length) : PreF ds (l.set i (bodyF (placesL ds) l ds[i])) ∧ LeL l (l.set i (bodyF (placesL ds) l ds[i])) := by
  have hil : i < l.length := by rw [h.len]; exact hi
  have hle : LeL l (l.set i (bodyF (placesL ds) l ds[i])) := LeL.of (by simp) fun j hj => by
    rw [set_getD _ _ _ _ hil]
    by_cases e : i = j
    · subst e
      rw [if_pos rfl]
      exact h.up i hi
    · rw [if_neg e]
      exact Fl.le_refl _
  refine ⟨⟨by simpa using h.len, fun j hj => ?_, fun m hm hc => ?_⟩, hle⟩
  · rw [set_getD _ _ _ _ hil]
    by_cases e : i = j
    · subst e
      rw [if_pos rfl]
      exact body_mono hle _
    · rw [if_neg e]
      exact (h.up j hj).trans (body_mono hle _)
  · have hlm := h.least m hm hc
    refine LeL.of (by simp [h.len, hm]) fun j hj => ?_
    rw [set_getD _ _ _ _ hil]
    by_cases e : i = j
    · subst e
      rw [if_pos rfl]
      exact (body_mono hlm _).trans (hc i hi)
    · rw [if_neg e]
      exact hlm.getD j
theorem roundGo_pre {ds : List Df} : ∀ (rest pre : List Df) {l : List Fl}, ds = pre ++ rest → PreF ds l → PreF ds (roundGo (placesL ds) pre.length rest l) ∧ LeL l (roundGo (placesL ds) pre.length rest l) ∧
    (roundGo (placesL ds) pre.length rest l = l → ∀ i (h : i < ds.length), pre.length ≤ i → l.getD i fl0 = bodyF (placesL ds) l ds[i])
  | [], pre, l, hds, h => ⟨h, LeL.refl l, fun _ i hi hge => by
    rw [hds, List.append_nil] at hi
    omega⟩
  | d :: rest, pre, l, hds, h => by
    have hi : pre.length < ds.length := by rw [hds]; simp
    have hd : ds[pre.length] = d := by simp [hds]
    have hil : pre.length < l.length := by rw [h.len]; exact hi
    obtain ⟨s1, s2⟩ := h.step hi
    rw [hd] at s1 s2
    obtain ⟨r1, r2, r3⟩ := roundGo_pre rest (pre ++ [d]) (by rw [hds]; simp) s1
    rw [List.length_append, List.length_cons, List.length_nil, Nat.zero_add] at r1 r2 r3
    refine ⟨r1, s2.trans r2, fun e i hi2 hge => ?_⟩
    have e1 : l.set pre.length (bodyF (placesL ds) l d) = l := by
      refine LeL.antisymm ?_ s2
      have : roundGo (placesL ds) pre.length (d :: rest) l = roundGo (placesL ds) (pre.length + 1) rest (l.set pre.length (bodyF (placesL ds) l d)) := rfl
      rw [this] at e
      rw [e] at r2
      exact r2
    have e2 : roundGo (placesL ds) (pre.length + 1) rest l = l := by
      have : roundGo (placesL ds) pre.length (d :: rest) l = roundGo (placesL ds) (pre.length + 1) rest (l.set pre.length (bodyF (placesL ds) l d)) := rfl
      rw [this, e1] at e
      exact e
    rw [e1] at r3
    by_cases hp : i = pre.length
    · subst hp
      have h4 := set_getD l pre.length pre.length (bodyF (placesL ds) l d) hil
      rw [e1, if_pos rfl] at h4
      rw [h4, hd]
    · exact r3 e2 i hi2 (by omega)

/-- The least flows that are closed. -/
structure IsFlow (ds : List Df) (l : List Fl) : Prop where
  len : l.length = ds.length
  fix : ∀ i (h : i < ds.length), l.getD i fl0 = bodyF (placesL ds) l ds[i]
  least : ∀ m : List Fl, m.length = ds.length → (∀ i (h : i < ds.length), (bodyF (placesL ds) m ds[i]).le (m.getD i fl0)) → LeL l m
theorem PreF.done {ds : List Df} {l : List Fl} (h : PreF ds l) (hf : roundGo (placesL ds) 0 ds l = l) : IsFlow ds l :=
  ⟨h.len, fun i hi => (roundGo_pre ds [] rfl h).2.2 hf i hi (Nat.zero_le _), h.least⟩
theorem IsFlow.unique {ds : List Df} {l l' : List Fl} (h : IsFlow ds l) (h' : IsFlow ds l') : l = l' :=
  LeL.antisymm (h.least l' h'.len fun i hi => by rw [← h'.fix i hi]; exact Fl.le_refl _) (h'.least l h.len fun i hi => by rw [← h.fix i hi]; exact Fl.le_refl _)
def iterF (ds : List Df) : Nat → List Fl
  | 0 => List.replicate ds.length fl0
  | n + 1 => roundGo (placesL ds) 0 ds (iterF ds n)
theorem iterF_pre (ds : List Df) : ∀ n, PreF ds (iterF ds n)
  | 0 => .start ds
  | n + 1 => (roundGo_pre ds [] rfl (iterF_pre ds n)).1
theorem isFlow_of {ds : List Df} {l : List Fl} (n : Nat) (h : iterF ds n = l) (h' : roundGo (placesL ds) 0 ds l = l) : IsFlow ds l := by
  subst h
  exact (iterF_pre ds n).done h'

/-- How many flags are down. -/
def offF (x : Fl) : Nat := (bif x.z then 0 else 1) + ((bif x.s then 0 else 1) + (bif x.f then 0 else 1))
def offs (l : List Fl) : Nat := (l.map offF).sum
theorem offF_le {a b : Fl} (h : a.le b) : offF b ≤ offF a ∧ (offF a ≤ offF b → a = b) := by
  obtain ⟨a1, a2, a3⟩ := a
  obtain ⟨b1, b2, b3⟩ := b
  obtain ⟨h1, h2, h3⟩ := h
  cases a1 <;> cases b1 <;> cases a2 <;> cases b2 <;> cases a3 <;> cases b3 <;> simp_all [offF]
theorem offs_le : ∀ {l m : List Fl}, LeL l m → offs m ≤ offs l ∧ (offs l ≤ offs m → l = m)
  | _, _, .nil => ⟨Nat.le_refl _, fun _ => rfl⟩
  | _, _, .cons h t => by
    obtain ⟨h1, h2⟩ := offF_le h
    obtain ⟨t1, t2⟩ := offs_le t
    simp only [offs, List.map_cons, List.sum_cons] at t1 t2 ⊢
    refine ⟨by omega, fun h => ?_⟩
    rw [h2 (by omega), t2 (by omega)]
theorem offs_lt {l m : List Fl} (h : LeL l m) (hne : m ≠ l) : offs m < offs l := by
  obtain ⟨h1, h2⟩ := offs_le h
  apply Nat.lt_of_le_of_ne h1
  intro e
  exact hne (h2 (by omega)).symm

/-! ### Names and places -/
def firstAt (nm : ByteArray) : List Df → Nat → Option Int
  | [], _ => none
  | d :: ds, i => bif decide (nm = d.name) then some (i : Int) else firstAt nm ds (i + 1)
theorem lookM_snoc (s n : ByteArray) (v : Int) : ∀ l : List (ByteArray × Int), lookM s (l ++ [(n, v)]) = match lookM s l with
    | some x => some x
    | none => bif decide (s = n) then some v else none
  | [] => rfl
  | p :: l => by
    have ih := lookM_snoc s n v l
    simp only [List.cons_append, lookM]
    cases decide (s = p.1) with
    | true => rfl
    | false => simpa using ih
theorem places_look : ∀ (ds : List Df) (acc : List (ByteArray × Int)) (i : Nat) (nm : ByteArray), lookM nm (placesGo acc i ds) = match lookM nm acc with
    | some x => some x
    | none => firstAt nm ds i
  | [], acc, i, nm => by
    rw [placesGo, firstAt]
    cases lookM nm acc <;> rfl
  | d :: ds, acc, i, nm => by
    rw [placesGo, places_look ds, firstAt]
    cases hd : (lookM d.name acc).isSome with
    | true =>
      simp only [cond_true]
      cases hl : lookM nm acc with
      | some x => rfl
      | none =>
        have : decide (nm = d.name) = false := by
          rw [decide_eq_false_iff_not]
          intro e
          rw [← e, hl] at hd
          cases hd
        rw [this]
        rfl
    | false =>
      simp only [cond_false, lookM_snoc]
      cases hl : lookM nm acc with
      | some x => rfl
      | none => cases decide (nm = d.name) <;> rfl
theorem places_first (ds : List Df) (nm : ByteArray) : lookM nm (placesL ds) = firstAt nm ds 0 := places_look ds [] 0 nm
theorem firstAt_lt : ∀ {ds : List Df} {i : Nat} {nm : ByteArray} {v : Int}, firstAt nm ds i = some v → ∃ j : Nat, v = ((i + j : Nat) : Int) ∧ j < ds.length
  | d :: ds, i, nm, v, h => by
    unfold firstAt at h
    cases hd : decide (nm = d.name) with
    | true =>
      rw [hd] at h
      simp only [cond_true, Option.some.injEq] at h
      exact ⟨0, by rw [← h]; rfl, by simp⟩
    | false =>
      rw [hd] at h
      obtain ⟨j, h1, h2⟩ := firstAt_lt h
      exact ⟨j + 1, by rw [h1]; congr 1; omega, by simpa using h2⟩
/-- Are the rules that are called there? -/
def namedOk (pl : List (ByteArray × Int)) (ns : List Nd) : Bool := ns.all fun d => !decide (d.k = 3) || (lookM d.t pl).isSome
theorem called_of {ds : List Df} {ns : List Nd} (h : namedOk (placesL ds) ns = true) : Called (placesL ds) ds.length ns := by
  intro d hd hk
  have := List.all_eq_true.1 h d hd
  simp only [hk, decide_true, Bool.not_true, Bool.false_or] at this
  obtain ⟨v, hv⟩ := Option.isSome_iff_exists.1 this
  have hv' := hv
  rw [places_first] at hv'
  obtain ⟨j, h1, h2⟩ := firstAt_lt hv'
  rw [Nat.zero_add] at h1
  exact ⟨j, by rw [hv, h1], h2⟩
theorem dups_places : ∀ (ds : List Df) {acc r : List (ByteArray × Int)} {i : Nat}, dups acc i ds = some r → placesGo acc i ds = r
  | [], acc, r, i, h => by
    simp only [dups, Option.some.injEq] at h
    exact h
  | d :: ds, acc, r, i, h => by
    unfold dups at h
    cases hd : (lookM d.name acc).isSome with
    | true => rw [hd] at h; cases h
    | false =>
      rw [hd] at h
      rw [placesGo, hd]
      exact dups_places ds h
theorem pairs_mem {d : Df} {nd : Nd} (hn : nd ∈ d.t.ns) : ∀ (ds : List Df) (i : Nat), d ∈ ds → ∃ j, (j, nd) ∈ nodePairs i ds := by
  intro ds
  induction ds with
  | nil => intro i hd; cases hd
  | cons x ds ih =>
    intro i hd
    rcases List.mem_cons.1 hd with e | hd
    · subst e
      exact ⟨i, List.mem_append.2 (.inl (List.mem_map.2 ⟨nd, hn, rfl⟩))⟩
    · obtain ⟨j, hj⟩ := ih (i + 1) hd
      exact ⟨j, List.mem_append.2 (.inr hj)⟩
theorem may_named {deb : List Int} {g : Gr} (h : mayG deb g = 0) : ∀ d ∈ g.ds, namedOk (placesL g.ds) d.t.ns = true := by
  unfold mayG at h
  cases h1 : decide ((g.n : Int) = 0) with
  | true => rw [h1] at h; cases h
  | false =>
  cases h2 : okDefs g.ds with
  | false => rw [h1, h2] at h; cases h
  | true =>
  cases h3 : largeG deb g with
  | true => rw [h1, h2, h3] at h; cases h
  | false =>
  rw [h1, h2, h3] at h
  simp only [cond_false, Bool.not_true] at h
  split at h
  · cases h
  · rename_i acc hacc
    have hp : placesL g.ds = acc := dups_places g.ds hacc
    cases h4 : allNamed acc g.ds with
    | false => rw [h4] at h; cases h
    | true =>
      intro d hd
      rw [hp, namedOk, List.all_eq_true]
      intro nd hnd
      obtain ⟨j, hj⟩ := pairs_mem hnd g.ds 0 hd
      exact List.all_eq_true.1 h4 _ hj
theorem may_ok {deb : List Int} {g : Gr} (h : mayG deb g = 0) : okDefs g.ds = true := by
  unfold mayG at h
  cases h1 : decide ((g.n : Int) = 0) with
  | true => rw [h1] at h; cases h
  | false =>
  cases h2 : okDefs g.ds with
  | false => rw [h1, h2] at h; cases h
  | true => rfl
end Go.V

/-
  Plain: least rows that are closed under bodies, by any order; the firsts of nodes. No program in sight.
-/
set_option linter.unusedVariables false
set_option linter.unusedSimpArgs false
namespace Go.V
open Go

/-! ### Rows in any order -/
structure OrdB (α : Type) where
  le : α → α → Prop
  bot : α
  refl : ∀ a, le a a
  trans : ∀ {a b c}, le a b → le b c → le a c
  anti : ∀ {a b}, le a b → le b a → a = b
  low : ∀ a, le bot a
structure LeR {α : Type} (O : OrdB α) (l m : List α) : Prop where
  len : l.length = m.length
  at' : ∀ i, O.le (l.getD i O.bot) (m.getD i O.bot)
section
variable {α : Type} {O : OrdB α}
theorem LeR.refl (l : List α) : LeR O l l := ⟨rfl, fun _ => O.refl _⟩
theorem LeR.trans {a b c : List α} (h : LeR O a b) (h' : LeR O b c) : LeR O a c := ⟨h.len.trans h'.len, fun i => O.trans (h.at' i) (h'.at' i)⟩
theorem LeR.anti {a b : List α} (h : LeR O a b) (h' : LeR O b a) : a = b := by
  apply List.ext_getElem h.len
  intro i h1 h2
  have := O.anti (h.at' i) (h'.at' i)
  simpa [List.getD_eq_getElem?_getD, h1, h2] using this
theorem LeR.of {a b : List α} (hl : a.length = b.length) (h : ∀ i, i < a.length → O.le (a.getD i O.bot) (b.getD i O.bot)) : LeR O a b := ⟨hl, fun i => by
  by_cases hi : i < a.length
  · exact h i hi
  · have e : a.getD i O.bot = O.bot := by simp [List.getD_eq_getElem?_getD, List.getElem?_eq_none (Nat.le_of_not_lt hi)]
    rw [e]
    exact O.low _⟩
theorem LeR.snoc {a b : List α} {x y : α} (h : LeR O a b) (hx : O.le x y) : LeR O (a ++ [x]) (b ++ [y]) := by
  have hl := h.len
  refine .of (by simp [hl]) fun i hi => ?_
  rcases Nat.lt_or_ge i a.length with h1 | h1
  · have h2 : i < b.length := by omega
    have := h.at' i
    simpa [List.getD_eq_getElem?_getD, List.getElem?_append_left h1, List.getElem?_append_left h2] using this
  · have h2 : i = a.length := by simp at hi; omega
    subst h2
    have e1 : (a ++ [x]).getD a.length O.bot = x := by simp [List.getD_eq_getElem?_getD]
    have e2 : (b ++ [y]).getD a.length O.bot = y := by rw [hl]; simp [List.getD_eq_getElem?_getD]
    rw [e1, e2]
    exact hx
theorem set_getR (l : List α) (b : α) (i j : Nat) (x : α) (hi : i < l.length) : (l.set i x).getD j b = if i = j then x else l.getD j b := by
  simp only [List.getD_eq_getElem?_getD, List.getElem?_set]
  by_cases e : i = j
  · subst e
    simp [hi]
  · rw [if_neg e, if_neg e]
def roundR (body : List α → Nat → α) : Nat → Nat → List α → List α
  | _, 0, l => l
  | i, k + 1, l => roundR body (i + 1) k (l.set i (body l i))
theorem roundR_len (body : List α → Nat → α) : ∀ (k i : Nat) (l : List α), (roundR body i k l).length = l.length
  | 0, _, _ => rfl
  | k + 1, i, l => by rw [roundR, roundR_len body k]; simp
/-- On the way to the least row that is closed. -/
structure PreR (O : OrdB α) (n : Nat) (body : List α → Nat → α) (l : List α) : Prop where
  len : l.length = n
  up : ∀ i, i < n → O.le (l.getD i O.bot) (body l i)
  least : ∀ m : List α, m.length = n → (∀ i, i < n → O.le (body m i) (m.getD i O.bot)) → LeR O l m
/-- The least row that is closed. -/
structure IsR (O : OrdB α) (n : Nat) (body : List α → Nat → α) (l : List α) : Prop where
  len : l.length = n
  fix : ∀ i, i < n → l.getD i O.bot = body l i
  least : ∀ m : List α, m.length = n → (∀ i, i < n → O.le (body m i) (m.getD i O.bot)) → LeR O l m
theorem IsR.unique {n : Nat} {body : List α → Nat → α} {l l' : List α} (h : IsR O n body l) (h' : IsR O n body l') : l = l' :=
  LeR.anti (h.least l' h'.len fun i hi => by rw [← h'.fix i hi]; exact O.refl _) (h'.least l h.len fun i hi => by rw [← h.fix i hi]; exact O.refl _)
theorem rep_getR (n i : Nat) (b : α) : (List.replicate n b).getD i b = b := by
  by_cases h : i < n <;> simp [List.getD_eq_getElem?_getD, List.getElem?_replicate, h]
theorem PreR.start (n : Nat) (body : List α → Nat → α) : PreR O n body (List.replicate n O.bot) := by
  refine ⟨by simp, fun i h => ?_, fun m hm _ => ⟨by simp [hm], fun i => ?_⟩⟩
  · rw [rep_getR]; exact O.low _
  · rw [rep_getR]; exact O.low _
section
variable {n : Nat} {body : List α → Nat → α} (hmono : ∀ {l m : List α}, LeR O l m → ∀ i, i < n → O.le (body l i) (body m i))
include hmono
theorem PreR.step {l : List α} (h : PreR O n body l) {i : Nat} (hi : i < n) : PreR O n body (l.set i (body l i)) ∧ LeR O l (l.set i (body l i)) := by
  have hil : i < l.length := by rw [h.len]; exact hi
  have hle : LeR O l (l.set i (body l i)) := .of (by simp) fun j hj => by
    rw [set_getR _ _ _ _ _ hil]
    by_cases e : i = j
    · subst e
      rw [if_pos rfl]
      exact h.up i hi
    · rw [if_neg e]
      exact O.refl _
  refine ⟨⟨by simpa using h.len, fun j hj => ?_, fun m hm hc => ?_⟩, hle⟩
  · rw [set_getR _ _ _ _ _ hil]
    by_cases e : i = j
    · subst e
      rw [if_pos rfl]
      exact hmono hle _ hi
    · rw [if_neg e]
      exact O.trans (h.up j hj) (hmono hle _ hj)
  · have hlm := h.least m hm hc
    refine .of (by simp [h.len, hm]) fun j hj => ?_
    rw [set_getR _ _ _ _ _ hil]
    by_cases e : i = j
    · subst e
      rw [if_pos rfl]
      exact O.trans (hmono hlm _ hi) (hc i hi)
    · rw [if_neg e]
      exact hlm.at' j
theorem roundR_pre : ∀ (k i : Nat) {l : List α}, i + k = n → PreR O n body l → PreR O n body (roundR body i k l) ∧ LeR O l (roundR body i k l) ∧
    (roundR body i k l = l → ∀ j, j < n → i ≤ j → l.getD j O.bot = body l j)
  | 0, i, l, hk, h => ⟨h, LeR.refl l, fun _ j hj hge => by omega⟩
  | k + 1, i, l, hk, h => by
    have hi : i < n := by omega
    have hil : i < l.length := by rw [h.len]; exact hi
    obtain ⟨s1, s2⟩ := h.step hmono hi
    obtain ⟨r1, r2, r3⟩ := roundR_pre k (i + 1) (by omega) s1
    refine ⟨r1, s2.trans r2, fun e j hj hge => ?_⟩
    have e0 : roundR body i (k + 1) l = roundR body (i + 1) k (l.set i (body l i)) := rfl
    have e1 : l.set i (body l i) = l := by
      refine LeR.anti (O := O) ?_ s2
      rw [e0] at e
      rw [e] at r2
      exact r2
    have e2 : roundR body (i + 1) k l = l := by
      rw [e0, e1] at e
      exact e
    rw [e1] at r3
    by_cases hp : j = i
    · subst hp
      have h4 := set_getR l O.bot j j (body l j) hil
      rw [e1, if_pos rfl] at h4
      exact h4
    · exact r3 e2 j hj (by omega)
theorem PreR.done {l : List α} (h : PreR O n body l) (hf : roundR body 0 n l = l) : IsR O n body l :=
  ⟨h.len, fun i hi => (roundR_pre hmono n 0 (Nat.zero_add n) h).2.2 hf i hi (Nat.zero_le _), h.least⟩
end
end

/-! ### How much is out of a set -/
theorem countP_eq_of {α : Type} {p q : α → Bool} : ∀ {l : List α}, (∀ x ∈ l, p x = true → q x = true) → l.countP q ≤ l.countP p → ∀ x ∈ l, q x = true → p x = true
  | [], _, _, x, hx, _ => by cases hx
  | y :: l, h, hle, x, hx, hq => by
    have hm := List.countP_mono_left (p := p) (q := q) (l := l) (fun x hx => h x (.tail _ hx))
    rw [List.countP_cons, List.countP_cons] at hle
    have hy := h y (.head _)
    have key : (q y = true → p y = true) ∧ l.countP q ≤ l.countP p := by
      cases hp : p y <;> cases hqy : q y <;> simp_all <;> omega
    rcases List.mem_cons.1 hx with rfl | hx
    · exact key.1 hq
    · exact countP_eq_of (fun x hx => h x (.tail _ hx)) key.2 x hx hq
def offW (x : BitVec 64) : Nat := (List.range 64).countP fun i => !x.getLsbD i
theorem offW_le {x y : BitVec 64} (h : x &&& y = x) : offW y ≤ offW x ∧ (offW x ≤ offW y → x = y) := by
  have hb : ∀ i, x.getLsbD i = true → y.getLsbD i = true := fun i hx => by
    have := congrArg (fun w : BitVec 64 => w.getLsbD i) h
    simp only [BitVec.getLsbD_and, hx, Bool.true_and] at this
    exact this
  have hp : ∀ i ∈ List.range 64, (!y.getLsbD i) = true → (!x.getLsbD i) = true := fun i _ hi => by
    have h1 := hb i
    cases hx : x.getLsbD i with
    | false => rfl
    | true => rw [h1 hx] at hi; cases hi
  refine ⟨List.countP_mono_left hp, fun hle => ?_⟩
  have := countP_eq_of hp hle
  apply BitVec.eq_of_getLsbD_eq
  intro i hi
  have h1 := hb i
  have h2 := this i (List.mem_range.2 hi)
  cases hx : x.getLsbD i <;> cases hy : y.getLsbD i <;> simp_all
theorem offW_max (x : BitVec 64) : offW x ≤ 64 := by
  have := List.countP_le_length (p := fun i => !x.getLsbD i) (l := List.range 64)
  simpa [offW] using this
def offI (x : Fi) : Nat := (offW x.w.a + offW x.w.b + offW x.w.c + offW x.w.d) + (bif x.f then 0 else 1)
theorem offI_max (x : Fi) : offI x ≤ 257 := by
  have h1 := offW_max x.w.a
  have h2 := offW_max x.w.b
  have h3 := offW_max x.w.c
  have h4 := offW_max x.w.d
  unfold offI
  cases x.f <;> simp <;> omega
theorem offI_le {a b : Fi} (h : a.le b) : offI b ≤ offI a ∧ (offI a ≤ offI b → a = b) := by
  obtain ⟨h1, h2⟩ := h
  obtain ⟨⟨a1, a2, a3, a4⟩, af⟩ := a
  obtain ⟨⟨b1, b2, b3, b4⟩, bf⟩ := b
  have h1 := of_decide_eq_true h1
  simp only [Ws.and, Ws.mk.injEq] at h1
  obtain ⟨g1, g2, g3, g4⟩ := h1
  obtain ⟨p1, q1⟩ := offW_le g1
  obtain ⟨p2, q2⟩ := offW_le g2
  obtain ⟨p3, q3⟩ := offW_le g3
  obtain ⟨p4, q4⟩ := offW_le g4
  simp only at h2
  have hf : (bif bf then 0 else 1) ≤ (bif af then 0 else 1) ∧ ((bif af then 0 else 1) ≤ (bif bf then 0 else 1) → af = bf) := by
    cases af <;> cases bf <;> simp_all
  unfold offI
  simp only
  refine ⟨by omega, fun hle => ?_⟩
  obtain rfl := q1 (by omega)
  obtain rfl := q2 (by omega)
  obtain rfl := q3 (by omega)
  obtain rfl := q4 (by omega)
  obtain rfl := hf.2 (by omega)
  rfl
def OI : OrdB Fi := ⟨Fi.le, fi0, Fi.le_refl, fun h h' => h.trans h', fun h h' => h.antisymm h', Fi.bot⟩
def offsI (l : List Fi) : Nat := (l.map offI).sum
theorem offsI_le : ∀ {l m : List Fi}, LeR OI l m → offsI m ≤ offsI l ∧ (offsI l ≤ offsI m → l = m)
  | [], [], _ => ⟨Nat.le_refl _, fun _ => rfl⟩
  | [], _ :: _, h => by have := h.len; simp at this
  | _ :: _, [], h => by have := h.len; simp at this
  | a :: l, b :: m, h => by
    have h0 : a.le b := h.at' 0
    have ht : LeR OI l m := ⟨by simpa using h.len, fun i => by simpa using h.at' (i + 1)⟩
    obtain ⟨h1, h2⟩ := offI_le h0
    obtain ⟨t1, t2⟩ := offsI_le ht
    simp only [offsI, List.map_cons, List.sum_cons] at t1 t2 ⊢
    refine ⟨by omega, fun h => ?_⟩
    rw [h2 (by omega), t2 (by omega)]
theorem offsI_lt {l m : List Fi} (h : LeR OI l m) (hne : m ≠ l) : offsI m < offsI l := by
  obtain ⟨h1, h2⟩ := offsI_le h
  apply Nat.lt_of_le_of_ne h1
  intro e
  exact hne (h2 (by omega)).symm
theorem offsI_max : ∀ l : List Fi, offsI l ≤ 257 * l.length
  | [] => Nat.le_refl _
  | a :: l => by
    have h1 := offI_max a
    have h2 := offsI_max l
    simp only [offsI, List.map_cons, List.sum_cons, List.length_cons] at h2 ⊢
    omega

/-! ### The firsts of nodes -/
def Ws.at (w : Ws) (i : Nat) : BitVec 64 := bif decide (i = 0) then w.a else bif decide (i = 1) then w.b else bif decide (i = 2) then w.c else w.d
def Ws.one (i : Nat) (x : BitVec 64) : Ws := ⟨bif decide (i = 0) then x else 0, bif decide (i = 1) then x else 0, bif decide (i = 2) then x else 0, bif decide (i = 3) then x else 0⟩
/-- The set of one byte. -/
def byteW (b : UInt8) : Ws := .one (b.toNat / 64) (1#64 <<< (b.toNat % 64))
def ofW (l : List UInt8) : Ws := l.foldl (fun w b => w.or (byteW b)) .zero
def Nd.ws (d : Nd) : Ws := ⟨BitVec.ofInt 64 d.s0, BitVec.ofInt 64 d.s1, BitVec.ofInt 64 d.s2, BitVec.ofInt 64 d.s3⟩
def repFi (d : Nd) (k : Fi) : Fi := bif decide (d.hi = 0) then fiT else ⟨k.w, k.f || decide (d.lo = 0)⟩
def seqFi (ks : List Fi) : Fi := ks.foldl Fi.seq fiT
def chFi (ks : List Fi) : Fi := ks.foldl Fi.choice fi0
def textFi (t : ByteArray) : Fi := ⟨ofW (t.data.toList.take 1), false⟩
/-- What a node's flow and kids come to (of a Rule its only kid is the rule's). -/
def comeFi (d : Nd) (x : Fl) (ks : List Fi) : Fi :=
  bif decide (d.k = 0) then ⟨.zero, x.suc⟩ else
  bif decide (d.k = 1) then ⟨d.ws, false⟩ else
  bif decide (d.k = 2) then textFi d.t else
  bif decide (d.k = 3) then ks.headD fi0 else
  bif decide (d.k = 4) then seqFi ks else
  bif decide (d.k = 5) then chFi ks else
  bif decide (d.k = 6) then repFi d (ks.headD fi0) else
  bif decide (d.k = 7) then ⟨.zero, x.suc⟩ else
  bif decide (d.k = 8) then ⟨.zero, x.suc⟩ else ks.headD fi0
def kidsI (pl : List (ByteArray × Int)) (fl acc : List Fi) (d : Nd) : List Fi :=
  d.kids.map (fun k => acc.getD k.toNat fi0) ++ bif decide (d.k = 3) then [fl.getD ((lookM d.t pl).getD 0).toNat fi0] else []
def nodesI (pl : List (ByteArray × Int)) (fl : List Fi) (xs : List Fl) : List Nd → List Fi → List Fi
  | [], acc => acc
  | d :: ds, acc => nodesI pl fl xs ds (acc ++ [comeFi d (xs.getD acc.length fl0) (kidsI pl fl acc d)])
theorem nodesI_len (pl : List (ByteArray × Int)) (fl : List Fi) (xs : List Fl) : ∀ (ds : List Nd) (acc : List Fi), (nodesI pl fl xs ds acc).length = acc.length + ds.length
  | [], acc => rfl
  | d :: ds, acc => by
    rw [nodesI, nodesI_len]
    simp
    omega
theorem LeI.map {α : Type} {f g : α → Fi} {l : List α} (h : ∀ x ∈ l, (f x).le (g x)) : LeR OI (l.map f) (l.map g) := .of (by simp) fun i hi => by
  have hi' : i < l.length := by simpa using hi
  have := h _ (List.getElem_mem hi')
  simpa [List.getD_eq_getElem?_getD, hi'] using (show OI.le _ _ from this)
theorem fold_mono {f : Fi → Fi → Fi} (hf : ∀ {a b x y : Fi}, a.le b → x.le y → (f a x).le (f b y)) : ∀ {l m : List Fi} {a b : Fi}, LeR OI l m → a.le b → (l.foldl f a).le (m.foldl f b)
  | [], [], _, _, _, h => h
  | [], _ :: _, _, _, h, _ => by have := h.len; simp at this
  | _ :: _, [], _, _, h, _ => by have := h.len; simp at this
  | x :: l, y :: m, a, b, h, h' => fold_mono hf (l := l) (m := m) ⟨by simpa using h.len, fun i => by simpa using h.at' (i + 1)⟩ (hf h' (h.at' 0))
theorem head_mono {l m : List Fi} (h : LeR OI l m) : (l.headD fi0).le (m.headD fi0) := by
  have := h.at' 0
  cases l <;> cases m <;> exact this
theorem comeI_mono (d : Nd) (x : Fl) {a b : List Fi} (h : LeR OI a b) : (comeFi d x a).le (comeFi d x b) := by
  have hh := head_mono h
  unfold comeFi
  cases decide (d.k = 0) with
  | true => exact Fi.le_refl _
  | false =>
  cases decide (d.k = 1) with
  | true => exact Fi.le_refl _
  | false =>
  cases decide (d.k = 2) with
  | true => exact Fi.le_refl _
  | false =>
  cases decide (d.k = 3) with
  | true => exact hh
  | false =>
  cases decide (d.k = 4) with
  | true => exact fold_mono Fi.seq_mono h (Fi.le_refl _)
  | false =>
  cases decide (d.k = 5) with
  | true => exact fold_mono Fi.choice_mono h (Fi.le_refl _)
  | false =>
  cases decide (d.k = 6) with
  | true =>
    simp only [cond_true, cond_false, repFi]
    cases decide (d.hi = 0) with
    | true => exact Fi.le_refl _
    | false =>
      refine ⟨hh.w, ?_⟩
      simp only [cond_false, Bool.or_eq_true]
      exact fun g => g.imp hh.f id
  | false =>
  cases decide (d.k = 7) with
  | true => exact Fi.le_refl _
  | false =>
  cases decide (d.k = 8) with
  | true => exact Fi.le_refl _
  | false => exact hh
theorem LeI.append {a b c d : List Fi} (h : LeR OI a b) (h' : LeR OI c d) : LeR OI (a ++ c) (b ++ d) := by
  have hl := h.len
  have hl' := h'.len
  refine .of (by simp [hl, hl']) fun i hi => ?_
  rcases Nat.lt_or_ge i a.length with h1 | h1
  · have h2 : i < b.length := by omega
    have := h.at' i
    simpa [List.getD_eq_getElem?_getD, List.getElem?_append_left h1, List.getElem?_append_left h2] using this
  · have h2 : b.length ≤ i := by omega
    have := h'.at' (i - a.length)
    simp only [List.getD_eq_getElem?_getD, List.getElem?_append_right h1, List.getElem?_append_right h2] at this ⊢
    rwa [hl] at this ⊢
theorem kidsI_mono {pl : List (ByteArray × Int)} {fl fl' acc acc' : List Fi} (h : LeR OI fl fl') (ha : LeR OI acc acc') (d : Nd) : LeR OI (kidsI pl fl acc d) (kidsI pl fl' acc' d) := by
  unfold kidsI
  refine LeI.append (LeI.map fun k _ => ha.at' _) ?_
  cases decide (d.k = 3) with
  | true =>
    refine .of rfl fun i hi => ?_
    have : i = 0 := by simpa using hi
    subst this
    exact h.at' _
  | false => exact LeR.refl _
theorem nodesI_mono {pl : List (ByteArray × Int)} {fl fl' : List Fi} {xs : List Fl} (h : LeR OI fl fl') : ∀ (ds : List Nd) {acc acc' : List Fi}, LeR OI acc acc' → LeR OI (nodesI pl fl xs ds acc) (nodesI pl fl' xs ds acc')
  | [], _, _, ha => ha
  | d :: ds, acc, acc', ha => by
    rw [nodesI, nodesI, ← ha.len]
    exact nodesI_mono h ds (ha.snoc (comeI_mono d _ (kidsI_mono h ha d)))
/-- The first of a rule's body, by firsts of rules, and the rules' flows. -/
def bodyI (pl : List (ByteArray × Int)) (F : List Fl) (ds : List Df) (l : List Fi) (i : Nat) : Fi := match ds[i]? with
  | some d => (nodesI pl l (nodesF pl F d.t.ns []) d.t.ns []).getD d.t.root.toNat fi0
  | none => fi0
theorem bodyI_mono {pl : List (ByteArray × Int)} {F : List Fl} {ds : List Df} {l m : List Fi} (h : LeR OI l m) (i : Nat) : (bodyI pl F ds l i).le (bodyI pl F ds m i) := by
  unfold bodyI
  split
  · exact (nodesI_mono h _ (LeR.refl _)).at' _
  · exact Fi.le_refl _
/-- The least firsts that are closed. -/
def IsFirst (ds : List Df) (F : List Fl) (l : List Fi) : Prop := IsR OI ds.length (bodyI (placesL ds) F ds) l
def PreI (ds : List Df) (F : List Fl) (l : List Fi) : Prop := PreR OI ds.length (bodyI (placesL ds) F ds) l
end Go.V
