/-
  Walks: bonsairef04.Right, Sub, Clean at trees of one leaf.
-/
import Derived.Test.YtcccmnppfmfkiaaDoorWn
set_option linter.unusedVariables false
set_option linter.unusedSimpArgs false
namespace Go.V
open Go Go.Proofs

/-- A tree of one leaf, in memory. -/
structure LeafAt (I : GH) (a : Option Addr) (c : Nat) (k : Int) (s : ByteArray) : Prop where
  rs : RS I a 1 c 9 96 (leafNd k s).cells
theorem LeafAt.mono {I I' : GH} {a : Option Addr} {c : Nat} {k : Int} {s : ByteArray} (h : LeafAt I a c k s) (hI : ∀ b o, I b = some o → I' b = some o) : LeafAt I' a c k s := ⟨h.rs.mono hI⟩
theorem LeafAt.rd {I : GH} {a : Option Addr} {c : Nat} {k : Int} {s : ByteArray} (h : LeafAt I a c k s) : ∃ ad, a = some ad ∧ ∀ M, Rd I M (ad.add (0 * 9)) 9 (leafNd k s).cells := by
  have := RS.row (f := Nd.cells) (l := [leafNd k s]) Nd.cells_len (size := 9) (j := 0) (by simpa using h.rs) (by decide) (Nat.le_refl 1)
  simpa using this

set_option maxHeartbeats 1000000 in
theorem RRight_leaf {I : GH} {a : Option Addr} {c : Nat} {k : Int} {s : ByteArray} (h : LeafAt I a c k s) : Spec Tryd.prog 52 [.agg #[.slice a 1 c, .int .i64 0]] I [] fun v I' M' => v = .bool (fitsR (leafNd k s) 0) ∧ I' = I ∧ M' = [] := by
  refine spec_of_V [] TrydEOK Tryd.func52 rfl rfl rfl ?_
  intro B h0
  obtain ⟨ad, rfl, hrd⟩ := h.rd
  refine GuardOb.mk (fun _ => ?_) (fun h => by simp at h)
  refine CondOb.mk (fun h => by simp at h) (fun _ => ?_)
  refine MakeOb.mk 1 1 rfl rfl (Nat.le_refl _) (by decide) (by decide) ?_
  refine AllocOb.mk fun b hb hbM => ?_
  refine LoopOb.inv (ι := Nat) (fun i => { fl := [(1, .ref 1 0), (3, .val (.slice (some ⟨b, 0, none⟩) 1 1)), (4, .val (.int .i64 i))], cl := [(1, [.slice (some ad) 1 c, .int .i64 0])], gi := I, mi := [intRow b [0]] })
    (fun i => i = 0 ∨ (i = 1 ∧ fitsR (leafNd k s) 0 = true)) (fun i => 1 - i) ?_ ?_
  · exact ⟨0, .inl rfl, .refl, .cons .refl (.cons .refl (.cons .refl .nil)), .cons rfl .nil⟩
  · rintro i (rfl | ⟨rfl, hf⟩)
    · refine CondOb.mk (fun _ => ?_) (fun h => by simp at h)
      refine IdxOb.mk ad 0 rfl rfl (by decide) ?_
      refine LoadOb.mk _ (hrd _) ?_
      have hfs := RFits_spec (I := I) k s 0 0 none 0 0 [] 0
      refine CallOb.mk [] [intRow b [0]] _ (.refl _) hfs ?_
      rintro v I' M' - ⟨rfl, rfl, rfl⟩
      refine CondOb.mk (fun h => ?_) (fun h => ?_)
      · have hf : fitsR (leafNd k s) 0 = false := by simpa [leafNd] using h
        refine ⟨_, _, .sub (List.nil_sublist _) .refl, ?_, rfl, rfl⟩
        rw [hf]
      · have hf : fitsR (leafNd k s) 0 = true := by simpa [leafNd] using h
        refine LoopOb.unroll 1 ?_
        refine CondOb.mk (fun h => by simp [leafNd] at h) (fun _ => ?_)
        refine ArithOb.mk 1 (by decide) ?_
        exact ⟨1, ⟨.inr ⟨rfl, hf⟩, by simp⟩, .refl, .cons .refl (.cons .refl (.cons .refl .nil)), .cons rfl .nil⟩
    · refine CondOb.mk (fun h => by simp at h) (fun _ => ?_)
      refine LoopOb.inv (ι := Nat) (fun i => { fl := [(1, .ref 1 0), (3, .val (.slice (some ⟨b, 0, none⟩) 1 1)), (7, .val (.int .i64 i))], cl := [(1, [.slice (some ad) 1 c, .int .i64 0])], gi := I, mi := [intRow b [0]] })
        (fun i => i = 0 ∨ i = 1) (fun i => 1 - i) ?_ ?_
      · exact ⟨0, .inl rfl, .refl, .cons .refl (.cons .refl (.cons .refl .nil)), .cons rfl .nil⟩
      · rintro i (rfl | rfl)
        · refine CondOb.mk (fun _ => ?_) (fun h => by simp at h)
          refine GuardOb.mk (fun _ => ?_) (fun h => by simp at h)
          refine IdxOb.mk ⟨b, 0, none⟩ 0 rfl rfl (by decide) ?_
          refine LoadOb.mk [.int .i64 0] (intRow_rd (s := [0]) (j := 0) (by simp) (by decide)) ?_
          refine GuardOb.mk (fun _ => ?_) (fun h => by simp at h)
          refine GuardOb.mk (fun h => by simp at h) (fun _ => ?_)
          refine ArithOb.mk 1 (by decide) ?_
          exact ⟨1, ⟨.inr rfl, by simp⟩, .refl, .cons .refl (.cons .refl (.cons .refl .nil)), .cons rfl .nil⟩
        · refine CondOb.mk (fun h => by simp at h) (fun _ => ?_)
          refine ⟨_, _, .sub (List.nil_sublist _) .refl, ?_, rfl, rfl⟩
          rw [hf]

theorem intCell {I : GH} {M : List Blk} {b : Nat} {cs : List Value} {v : Value} (hM : (⟨b, .cells cs.toArray 3 (0, 0)⟩ : Blk) ∈ M) (h : cs.take 1 = [v]) : Rd I M ((⟨b, 0, none⟩ : Addr).add (0 * 1)) 1 [v] := by
  rw [addr_add _ rfl]
  exact ⟨rfl, _, _, _, .inr ⟨_, hM, rfl, rfl⟩, by simpa using h, rfl⟩

set_option maxHeartbeats 2000000 in
theorem RSub_leaf {I : GH} {a : Option Addr} {c : Nat} {k : Int} {s : ByteArray} (h : LeafAt I a c k s) (hf : fitsR (leafNd k s) 0 = true) : Spec Tryd.prog 65 [.agg #[.slice a 1 c, .int .i64 0], .int .i64 0] I []
    fun v I' M' => (∀ b o, I b = some o → I' b = some o) ∧ M' = [] ∧ ∃ a' c', v = .tuple #[.agg #[.slice a' 1 c', .int .i64 0], .bool true] ∧ LeafAt I' a' c' k s := by
  refine spec_of_V [] TrydEOK Tryd.func65 rfl rfl rfl ?_
  intro B h0
  obtain ⟨ad, rfl, hrd⟩ := h.rd
  refine CallOb.mk [] [] _ (.refl _) (RRight_leaf h) ?_
  rintro v I' M' - ⟨rfl, rfl, rfl⟩
  rw [hf]
  refine GuardOb.mk (fun _ => ?_) (fun h => by cases h)
  refine GuardOb.mk (fun _ => ?_) (fun h => by simp at h)
  refine CondOb.mk (fun h => by simp at h) (fun _ => ?_)
  refine AllocOb.mk fun b1 hb1 hbM1 => ?_
  refine LoopOb.inv (ι := Option (Nat × Nat × List Value)) (fun x => match x with
      | none => { fl := [(2, .ref 2 0), (4, .ref 4 0), (6, .val (.slice none 0 0)), (7, .val (.slice (some ⟨b1, 0, none⟩) 1 1))], cl := [(2, [.slice (some ad) 1 c, .int .i64 0]), (4, [.slice none 0 0, .int .i64 0])], gi := I', mi := [⟨b1, .cells #[.int .i64 0] 3 (0, 0)⟩] }
      | some (g, c', cur) => { fl := [(2, .ref 2 0), (4, .ref 4 0), (6, .val (.slice (some ⟨g, 0, none⟩) 1 c')), (7, .val (.slice (some ⟨b1, 0, none⟩) 0 1))], cl := [(2, [.slice (some ad) 1 c, .int .i64 0]), (4, [.slice none 0 0, .int .i64 0])], gi := I', mi := [⟨g, .cells cur.toArray 3 (0, 0)⟩] })
    (fun x => match x with
      | none => True
      | some (g, c', cur) => cur.take 1 = [.int .i64 0]) (fun x => match x with
      | none => 1
      | some _ => 0) ?_ ?_
  · exact ⟨none, trivial, .refl, .cons .refl (.cons .refl (.cons .refl (.cons .refl .nil))), .cons rfl (.cons rfl .nil)⟩
  · rintro (_ | ⟨g, c', cur⟩) hcur
    · refine CondOb.mk (fun _ => ?_) (fun h => by simp at h)
      refine ArithOb.mk 0 (by decide) ?_
      refine IdxOb.mk ⟨b1, 0, none⟩ 0 rfl rfl (by decide) ?_
      refine LoadOb.mk [.int .i64 0] (intCell (cs := [.int .i64 0]) (.head _) rfl) ?_
      refine ArithOb.mk 0 (by decide) ?_
      refine SliceOb.mk 0 0 rfl rfl (Nat.le_refl _) (by decide) ?_
      refine AllocOb.mk fun b2 hb2 hbM2 => ?_
      refine OtherOb.append TrydEOK rfl (by simp) (e := 3) rfl rfl rfl OS0 (OS0_ok 1) rfl (m := 1) rfl (news := [.int .i64 0]) (by decide) (blk_rd (b := b2) (cs := [.int .i64 0]) (k := 0) (n := 1) (T := 3) (.head _) (by simp)) rfl (.refl _) (by decide) (by decide) ?_
      intro g' c' cur' q1 q2 q3 q4
      refine IdxOb.mk ad 0 rfl rfl (by decide) ?_
      refine LoadOb.mk [.slice none 0 0] (Rd.part (k := 8) (m := 1) (hrd _) (by decide)) ?_
      refine OtherOb.append0 TrydEOK rfl (by simp) (e := 3) rfl rfl rfl (by simp) rfl rfl (Nat.zero_le _) rfl (.inl ⟨none, 0, rfl⟩) ?_
      exact ⟨some (g', c', cur'), ⟨q4, by simp⟩, .sub (.cons_cons _ (List.nil_sublist _)) .refl, .cons .refl (.cons .refl (.cons .refl (.cons .refl .nil))), .cons rfl (.cons rfl .nil)⟩
    · refine CondOb.mk (fun h => by simp at h) (fun _ => ?_)
      refine MakeOb.mk 1 1 rfl rfl (Nat.le_refl _) (by decide) (by decide) ?_
      refine AllocOb.mk fun b3 hb3 hbM3 => ?_
      refine ArithOb.mk 0 (by decide) ?_
      refine LoopOb.inv (ι := Option (Nat × Nat × List Value)) (fun x => match x with
          | none => { fl := [(2, .ref 2 0), (4, .ref 4 0), (6, .val (.slice (some ⟨g, 0, none⟩) 1 c')), (9, .val (.slice (some ⟨b3, 0, none⟩) 1 1)), (10, .val (.slice none 0 0)), (11, .val (.int .i64 0))], cl := [(2, [.slice (some ad) 1 c, .int .i64 0]), (4, [.slice none 0 0, .int .i64 0])], gi := I', mi := [intRow b3 [0], ⟨g, .cells cur.toArray 3 (0, 0)⟩] }
          | some (g2, c2, cur2) => { fl := [(2, .ref 2 0), (4, .ref 4 0), (10, .val (.slice (some ⟨g2, 0, none⟩) 1 c2)), (11, .val (.int .i64 (-1)))], cl := [(2, [.slice (some ad) 1 c, .int .i64 0]), (4, [.slice none 0 0, .int .i64 0])], gi := I', mi := [⟨g2, .cells cur2.toArray 32 (0, 0)⟩] })
        (fun x => match x with
          | none => True
          | some (g2, c2, cur2) => I' g2 = none ∧ cur2.take 9 = (leafNd k s).cells ∧ 1 ≤ c2) (fun x => match x with
          | none => 1
          | some _ => 0) ?_ ?_
      · exact ⟨none, trivial, .refl, .cons .refl (.cons .refl (.cons .refl (.cons .refl (.cons .refl (.cons .refl .nil))))), .cons rfl (.cons rfl .nil)⟩
      · rintro (_ | ⟨g2, c2, cur2⟩) hc2
        · refine CondOb.mk (fun _ => ?_) (fun h => by simp at h)
          refine CodeOb.draw TrydEOK rfl rfl rfl ?_
          refine IdxOb.mk ⟨g, 0, none⟩ 0 rfl rfl (by decide) ?_
          refine LoadOb.mk [.int .i64 0] (intCell (cs := cur) (.tail _ (.head _)) hcur) ?_
          refine IdxOb.mk ad 0 rfl rfl (by decide) ?_
          refine LoadOb.mk _ (hrd _) ?_
          refine AllocOb.mk fun b12 hb12 hbM12 => ?_
          refine StoreOb.mk [] [intRow b3 [0], ⟨g, .cells cur.toArray 3 (0, 0)⟩] _ _ rfl rfl (Nat.le_of_ble_eq_true rfl) rfl ?_
          refine IdxOb.mk ⟨g, 0, none⟩ 0 rfl rfl (by decide) ?_
          refine LoadOb.mk [.int .i64 0] (intCell (cs := cur) (.tail _ (.tail _ (.head _))) hcur) ?_
          refine IdxOb.mk ⟨b3, 0, none⟩ 0 rfl rfl (by decide) ?_
          refine StoreOb.add [⟨b12, .cells (leafNd k s).cells.toArray 32 (0, 0)⟩] [⟨g, .cells cur.toArray 3 (0, 0)⟩] _ _ rfl (Nat.le_of_ble_eq_true rfl) rfl ?_
          refine LoopOb.unroll 1 ?_
          refine LoadOb.mk [.slice none 0 0] (blk_rd (b := b12) (cs := (leafNd k s).cells) (k := 8) (n := 1) (T := 32) (.head _) (Nat.le_of_ble_eq_true rfl)) ?_
          refine CondOb.mk (fun h => by simp at h) (fun _ => ?_)
          refine StoreOb.mk [] _ _ _ rfl rfl (Nat.le_of_ble_eq_true rfl) rfl ?_
          refine LoadOb.mk (leafNd k s).cells (blk_rd (b := b12) (cs := (leafNd k s).cells) (k := 0) (n := 9) (T := 32) (.head _) (Nat.le_of_ble_eq_true rfl)) ?_
          refine AllocOb.mk fun b20 hb20 hbM20 => ?_
          refine OtherOb.appendN TrydEOK rfl (by simp) (e := 32) rfl rfl rfl OS0 (OS0_ok 9) rfl (m := 1) rfl (news := (leafNd k s).cells) (by decide) (blk_rd (b := b20) (cs := (leafNd k s).cells) (k := 0) (n := 9) (T := 32) (.head _) (Nat.le_of_ble_eq_true rfl)) rfl (.refl _) (by decide) (by decide) ?_
          intro g' c' cur' q0 q1 q2 q3 q4
          refine ArithOb.mk (-1) (by decide) ?_
          exact ⟨some (g', c', cur'), ⟨⟨q0, q4, q2⟩, by simp⟩, .sub (.cons_cons _ (List.nil_sublist _)) .refl, .cons .refl (.cons .refl (.cons .refl (.cons .refl .nil))), .cons rfl (.cons rfl .nil)⟩
        · refine CondOb.mk (fun h => by simp at h) (fun _ => ?_)
          obtain ⟨hg2, hcu, hc1⟩ := hc2
          refine ArithOb.mk 0 (by decide) ?_
          exact ⟨_, _, .prom rfl (by simp) .refl, ins_le hg2, rfl, _, _, rfl, ⟨⟨rfl, ⟨hc1, by decide⟩, .inr ⟨_, rfl, rfl, _, _, _, ins_self .., hcu⟩⟩⟩⟩
end Go.V
