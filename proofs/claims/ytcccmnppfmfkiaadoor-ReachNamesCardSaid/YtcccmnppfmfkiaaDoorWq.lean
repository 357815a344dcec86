/-
  Walks: bonsairef04.Clean and Of, where the kids are leaves.
-/
import Derived.Test.YtcccmnppfmfkiaaDoorWo
import Derived.Test.YtcccmnppfmfkiaaDoorWl
set_option linter.unusedVariables false
set_option linter.unusedSimpArgs false
namespace Go.V
open Go Go.Proofs

/-- What stands aside of what, where an operation is done. -/
theorem OtherOb.nd {X : Ctx} {o : Oper} {F : Fr} {C : Bx} {I : GH} {M : List Blk} {K : KS} (h : OtherOb X o F C I M (fun F C I M => (M.map (·.num)).Nodup → (∀ x ∈ M, I x.num = none) → K F C I M)) : OtherOb X o F C I M K :=
  ⟨fun a w Q hR => Oper.wpIn_mono (fun a' w' => fun ⟨F', C', I', M', ⟨β, hr⟩, hk⟩ => ⟨F', C', I', M', ⟨β, hr⟩, hk hr.holds.nd hr.holds.d⟩) (h.1 a w Q hR)⟩
theorem OS.giveF {I : GH} {foot : List Nat} {os : OS} {xs : List Value} {e size b : Nat} (h : os.ok size xs) (hb : os.n * b ≤ 140737488355328) (hI : ∀ g, os.a = some g → I g = none ∧ g ∉ foot) (Mr : List Blk) :
    ∃ I', (∀ I2 M2, Wk foot I' Mr I2 M2 → Wk foot I (os.blk e ++ Mr) I2 M2) ∧ (∀ b o, I b = some o → I' b = some o) ∧ RS I' (os.a.map fun g => ⟨g, 0, none⟩) os.n os.c size b xs ∧ (∀ g, os.a ≠ some g → I' g = I g) := by
  obtain ⟨a, n, c, cur⟩ := os
  cases a with
  | none =>
    obtain ⟨h1, h2⟩ := h.nil rfl
    simp only at h1 h2
    subst h1
    subst h2
    exact ⟨I, fun _ _ k => k, fun _ _ h => h, ⟨h.len, ⟨Nat.le_refl _, by simp⟩, .inl rfl⟩, fun _ _ => rfl⟩
  | some g =>
    obtain ⟨h1, h2, h3, h4⟩ := h.cap g rfl
    obtain ⟨hg, hgf⟩ := hI g rfl
    refine ⟨ins I g (.cells cur.toArray e (0, 0)), fun _ _ k => .prom rfl hgf k, ins_le hg, ⟨h.len, ⟨h2, hb⟩, .inr ⟨⟨g, 0, none⟩, rfl, rfl, _, _, _, ins_self .., by simpa using h4⟩⟩, fun g' hg' => ?_⟩
    have : g' ≠ g := fun e => hg' (by rw [e])
    unfold ins
    simp only [beq_ne this, cond_false]
theorem appk_ok {os : OS} {xs ys : List Value} {size : Nat} (hos : os.ok size xs) {g c : Nat} {cur : List Value} (hy : ys.length = size) (h1 : cur.length = c * size) (h2 : os.n + 1 ≤ c) (h3 : c ≤ maxLen) (h4 : cur.take ((os.n + 1) * size) = xs ++ ys) :
    OS.ok ⟨some g, os.n + 1, c, cur⟩ size (xs ++ ys) := by
  have hl := hos.len
  refine ⟨?_, (fun h => by cases h), fun g3 hg3 => ⟨h1, h2, h3, h4⟩⟩
  rw [List.length_append, hl, hy]
  simp only
  rw [Nat.add_mul, Nat.one_mul]

set_option maxHeartbeats 1000000 in
theorem RClean_leaf {I : GH} {a : Option Addr} {c : Nat} {k : Int} {s : ByteArray} (h : LeafAt I a c k s) (hf : fitsR (leafNd k s) 0 = true) : Spec Tryd.prog 53 [.agg #[.slice a 1 c, .int .i64 0]] I []
    fun v I' M' => (∀ b o, I b = some o → I' b = some o) ∧ M' = [] ∧ ∃ a' c', v = .agg #[.slice a' 1 c', .int .i64 0] ∧ LeafAt I' a' c' k s := by
  refine spec_of_V [] TrydEOK Tryd.func53 rfl rfl rfl ?_
  intro B h0
  refine CallOb.mk [] [] _ (.refl _) (RSub_leaf h hf) ?_
  rintro v I' M' - ⟨hI, rfl, a', c', rfl, hl⟩
  exact ⟨_, _, .refl, hI, rfl, a', c', rfl, hl⟩

abbrev Lf := Tr × Int × ByteArray
def Lf.nd (x : Lf) : Nd := leafNd x.2.1 x.2.2
structure Lf.ok (I : GH) (x : Lf) : Prop where
  t : x.1.ok I
  ns : x.1.ns = [x.nd]
  root : x.1.root = 0
  fits : fitsR x.nd 0 = true
theorem Lf.ok.mono {I I' : GH} {x : Lf} (h : Lf.ok I x) (hI : ∀ b o, I b = some o → I' b = some o) : Lf.ok I' x := ⟨h.t.mono hI, h.ns, h.root, h.fits⟩
theorem Lf.ok.at {I : GH} {x : Lf} (h : Lf.ok I x) : ∃ a c, x.1.cells = [.slice a 1 c, .int .i64 0] ∧ LeafAt I a c x.2.1 x.2.2 := by
  obtain ⟨⟨ns, a, n, c, root⟩, k, s⟩ := x
  obtain ⟨ht, h1, h2, h3⟩ := h
  have h1' : ns = [leafNd k s] := h1
  clear h1 h3
  simp only at h2 ht
  subst h1'
  subst h2
  have hn := ht.n
  simp only [List.length_cons, List.length_nil] at hn
  subst hn
  exact ⟨a, c, rfl, ⟨by simpa [Lf.nd] using ht.rs⟩⟩
def kidCells (L : List Lf) : List Value := L.flatMap fun x => x.1.cells
def kidBlk (b : Nat) (L : List Lf) : Blk := ⟨b, .cells (kidCells L).toArray 25 (0, 0)⟩
def iotaI (n : Nat) : List Int := (List.range n).map fun (j : Nat) => (j : Int)
theorem iotaI_succ (n : Nat) : iotaI (n + 1) = iotaI n ++ [(n : Int)] := by simp [iotaI, List.range_succ]
theorem iotaI_len (n : Nat) : (iotaI n).length = n := by simp [iotaI]
def ofNd (k : Int) (s : ByteArray) (ka : Option Addr) (kc n : Nat) : Nd := ⟨k, 0, 0, 0, 0, s, 0, 0, ka, n, kc, iotaI n⟩

set_option maxHeartbeats 4000000 in
theorem ROf_leaf {I : GH} {k0 : Int} {s0 : ByteArray} {L : List Lf} {b cc : Nat} (hm : L.length ≤ 100) (hk0 : 0 ≤ k0 ∧ k0 < 256) (hs0 : s0.size ≤ 140737488355328) (hL : ∀ x ∈ L, Lf.ok I x) (hf : fitsR (leafNd k0 s0) L.length = true) :
    Spec Tryd.prog 35 [.agg #[.int .u8 k0, .int .u64 0, .int .u64 0, .int .u64 0, .int .u64 0, .string s0, .int .i64 0, .int .i64 0, .slice none 0 0], .slice (some ⟨b, 0, none⟩) L.length cc] I [kidBlk b L]
      fun v I' M' => (∀ b o, I b = some o → I' b = some o) ∧ M' = [kidBlk b L] ∧ ∃ (t : Tr) (ka : Option Addr) (kc : Nat), v = .tuple #[t.val, .bool true] ∧ t.ok I' ∧ t.root = L.length ∧ t.ns = L.map Lf.nd ++ [ofNd k0 s0 ka kc L.length] := by
  refine spec_of_V [] TrydEOK Tryd.func35 rfl rfl rfl ?_
  intro B h0
  have hfs := RFits_spec (I := I) k0 s0 0 0 none 0 0 [] L.length
  refine CallOb.mk [] [kidBlk b L] _ (.refl _) hfs ?_
  rintro v I' M' - ⟨rfl, rfl, rfl⟩
  refine CondOb.mk (fun h => ?_) (fun _ => ?_)
  · exfalso
    have : fitsR (leafNd k0 s0) L.length = false := by simpa [leafNd] using h
    rw [hf] at this
    cases this
  refine LoopOb.inv (ι := Nat × OS × OS × GH) (fun x => { fl := [(1, .val (.slice (some ⟨b, 0, none⟩) L.length cc)), (2, .ref 2 0), (4, .ref 4 0), (6, .val x.2.1.val), (7, .val (.int .i64 x.1))], cl := [(2, [.int .u8 k0, .int .u64 0, .int .u64 0, .int .u64 0, .int .u64 0, .string s0, .int .i64 0, .int .i64 0, x.2.2.1.val]), (4, [.slice none 0 0, .int .i64 0])], gi := x.2.2.2, mi := x.2.1.blk 32 ++ (x.2.2.1.blk 3 ++ [kidBlk b L]) })
    (fun x => x.1 ≤ L.length ∧ x.2.1.ok 9 ((L.take x.1).flatMap fun y => y.nd.cells) ∧ x.2.2.1.ok 1 ((iotaI x.1).map (.int .i64 ·)) ∧ (∀ b o, I' b = some o → x.2.2.2 b = some o)) (fun x => L.length - x.1) ?_ ?_
  · exact ⟨(0, OS0, OS0, I'), ⟨Nat.zero_le _, OS0_ok 9, OS0_ok 1, fun _ _ h => h⟩, .refl, .cons .refl (.cons .refl (.cons .refl (.cons .refl (.cons .refl .nil)))), .cons rfl (.cons rfl .nil)⟩
  · rintro ⟨i, o1, o2, I2⟩ ⟨hi, ho1, ho2, hI2⟩
    simp only at hi ho1 ho2 hI2
    have hn2 := ho2.len1
    rw [iotaI_len] at hn2
    have hn1 : o1.n = i := by
      have := ho1.len
      rw [flat_len _ 9 (fun x => Nd.cells_len _), List.length_take, Nat.min_eq_left hi] at this
      omega
    have hkb : ∀ {i : Nat} (hi : i < L.length) {I : GH} {M : List Blk}, kidBlk b L ∈ M → Rd I M ((⟨b, 0, none⟩ : Addr).add (i * 2)) 2 (L[i].1.cells) := fun {i} hi {I M} hM => by
      have hk := flat_at (fun x : Lf => x.1.cells) 2 (fun _ => rfl) L i hi
      have hl := flat_len (fun x : Lf => x.1.cells) 2 (fun _ => rfl) L
      have := blk_rd (I := I) (M := M) (b := b) (cs := kidCells L) (k := i * 2) (n := 2) (T := 25) hM (by unfold kidCells; rw [hl]; omega)
      unfold kidCells at this
      rwa [hk] at this
    refine CondOb.mk (fun h => ?_) (fun h => ?_)
    · have hlt : i < L.length := by simpa using h
      obtain ⟨a, c, hc, hlf⟩ := ((hL L[i] (List.getElem_mem hlt)).mono hI2).at
      have hfit := (hL L[i] (List.getElem_mem hlt)).fits
      have hr : ∀ {I : GH} {M : List Blk}, kidBlk b L ∈ M → Rd I M ((⟨b, 0, none⟩ : Addr).add (i * 2)) 2 [.slice a 1 c, .int .i64 0] := fun hM => by rw [← hc]; exact hkb hlt hM
      have hmem : kidBlk b L ∈ o1.blk 32 ++ (o2.blk 3 ++ [kidBlk b L]) := by simp
      refine IdxOb.mk ⟨b, 0, none⟩ i rfl rfl hlt ?_
      refine LoadOb.mk _ (hr hmem) ?_
      refine CallOb.mk [] _ _ (.refl _) (RRight_leaf hlf) ?_
      rintro v I3 M3 - ⟨rfl, rfl, rfl⟩
      refine CondOb.mk (fun h2 => ?_) (fun _ => ?_)
      · exfalso
        have : fitsR L[i].nd 0 = false := by simpa [Lf.nd] using h2
        rw [hfit] at this
        cases this
      refine IdxOb.mk ⟨b, 0, none⟩ i rfl rfl hlt ?_
      refine LoadOb.mk _ (hr hmem) ?_
      refine CallOb.mk [] _ _ (.refl _) (RClean_leaf hlf hfit) ?_
      rintro v I4 M4 - ⟨hI4, rfl, a', c', rfl, hl4⟩
      obtain ⟨ad', rfl, hrd'⟩ := hl4.rd
      refine LoopOb.inv (ι := Option (Nat × Nat × List Value)) (fun x => match x with
          | none => { fl := [(1, .val (.slice (some ⟨b, 0, none⟩) L.length cc)), (2, .ref 2 0), (4, .ref 4 0), (6, .val o1.val), (7, .val (.int .i64 i)), (8, .ref 8 0), (9, .val (.int .i64 o1.n)), (10, .val (.int .i64 0))], cl := [(2, [.int .u8 k0, .int .u64 0, .int .u64 0, .int .u64 0, .int .u64 0, .string s0, .int .i64 0, .int .i64 0, o2.val]), (4, [.slice none 0 0, .int .i64 0]), (8, [.slice (some ad') 1 c', .int .i64 0])], gi := I4, mi := o1.blk 32 ++ (o2.blk 3 ++ [kidBlk b L]) }
          | some (g1, c1, cur1) => { fl := [(1, .val (.slice (some ⟨b, 0, none⟩) L.length cc)), (2, .ref 2 0), (4, .ref 4 0), (6, .val (.slice (some ⟨g1, 0, none⟩) (o1.n + 1) c1)), (7, .val (.int .i64 i)), (8, .ref 8 0), (10, .val (.int .i64 1))], cl := [(2, [.int .u8 k0, .int .u64 0, .int .u64 0, .int .u64 0, .int .u64 0, .string s0, .int .i64 0, .int .i64 0, o2.val]), (4, [.slice none 0 0, .int .i64 0]), (8, [.slice (some ad') 1 c', .int .i64 0])], gi := I4, mi := [⟨g1, .cells cur1.toArray 32 (0, 0)⟩] ++ (o2.blk 3 ++ [kidBlk b L]) })
        (fun x => match x with
          | none => True
          | some (g1, c1, cur1) => OS.ok ⟨some g1, o1.n + 1, c1, cur1⟩ 9 (((L.take i).flatMap fun y => y.nd.cells) ++ L[i].nd.cells)) (fun x => match x with
          | none => 1
          | some _ => 0) ?_ ?_
      · exact ⟨none, trivial, .refl, .cons .refl (.cons .refl (.cons .refl (.cons .refl (.cons .refl (.cons .refl (.cons .refl (.cons .refl .nil))))))), .cons rfl (.cons rfl (.cons rfl .nil))⟩
      rintro (_ | ⟨g1, c1, cur1⟩) hq1
      · refine CondOb.mk (fun _ => ?_) (fun h => by simp at h)
        refine IdxOb.mk ad' 0 rfl rfl (by decide) ?_
        refine LoadOb.mk _ (hrd' _) ?_
        refine LoopOb.unroll 1 ?_
        refine CondOb.mk (fun h => by simp [leafNd] at h) (fun _ => ?_)
        refine AllocOb.mk fun b20 hb20 hbM20 => ?_
        refine OtherOb.append TrydEOK rfl (by simp) (e := 32) rfl rfl rfl o1 ho1 rfl (m := 1) rfl (news := L[i].nd.cells) (by decide) (blk_rd (b := b20) (cs := L[i].nd.cells) (k := 0) (n := 9) (T := 32) (.head _) (Nat.le_of_ble_eq_true rfl)) rfl
          (Mr := ⟨b20, .cells L[i].nd.cells.toArray 32 (0, 0)⟩ :: (o2.blk 3 ++ [kidBlk b L])) (List.perm_middle (l₁ := o1.blk 32) (l₂ := o2.blk 3 ++ [kidBlk b L])).symm (by simp only [maxLen]; omega) (by show (o1.n + 1) * 96 ≤ _; omega) ?_
        intro g1 c1 cur1 q1 q2 q3 q4
        refine ArithOb.mk 1 (by decide) ?_
        exact ⟨some (g1, c1, cur1), ⟨appk_ok ho1 (Nd.cells_len _) q1 q2 q3 q4, by simp⟩, .sub (.cons_cons _ (.cons _ (.refl _))) .refl, .cons .refl (.cons .refl (.cons .refl (.cons .refl (.cons .refl (.cons .refl (.cons .refl .nil)))))), .cons rfl (.cons rfl (.cons rfl .nil))⟩
      simp only at hq1
      refine CondOb.mk (fun h => by simp at h) (fun _ => ?_)
      have hlast : IntKind.i64.wrap (((o1.n + 1 : Nat) : Int) - 1) = (i : Int) := by rw [wrap_i64 ⟨by omega, by omega⟩]; omega
      refine ArithOb.mk (i : Int) hlast ?_
      refine AllocOb.mk fun b21 hb21 hbM21 => ?_
      refine OtherOb.append TrydEOK rfl (by simp) (e := 3) rfl rfl rfl o2 ho2 rfl (m := 1) rfl (news := [.int .i64 i]) (by decide) (blk_rd (b := b21) (cs := [.int .i64 i]) (k := 0) (n := 1) (T := 3) (.head _) (by simp)) rfl
        (Mr := [⟨b21, .cells #[.int .i64 i] 3 (0, 0)⟩, ⟨g1, .cells cur1.toArray 32 (0, 0)⟩] ++ [kidBlk b L]) (List.perm_append_comm_assoc [_, _] _ _) (by simp only [maxLen]; omega) (by show (o2.n + 1) * 8 ≤ _; omega) ?_
      intro g2 c2 cur2 r1 r2 r3 r4
      refine ArithOb.mk _ (next_wr (i := i) (by omega)) ?_
      refine ⟨(i + 1, ⟨some g1, o1.n + 1, c1, cur1⟩, ⟨some g2, o2.n + 1, c2, cur2⟩, I4), ⟨⟨by simp only; omega, ?_, ?_, fun b o h => hI4 _ _ (hI2 _ _ h)⟩, by simp only; omega⟩, ?_, .cons .refl (.cons .refl (.cons .refl (.cons .refl (.cons .refl .nil)))), .cons rfl (.cons rfl .nil)⟩
      · simp only
        rw [List.take_succ_eq_append_getElem hlt, List.flatMap_append]
        have : ([L[i]].flatMap fun y => y.nd.cells) = L[i].nd.cells := by simp
        rw [this]
        exact hq1
      · simp only
        rw [iotaI_succ, List.map_append]
        exact app1_ok ho2 r1 r2 r3 r4
      · refine .sub (M1 := [⟨g2, .cells cur2.toArray 3 (0, 0)⟩, ⟨g1, .cells cur1.toArray 32 (0, 0)⟩, kidBlk b L]) ?_ (.perm (List.Perm.swap _ _ _) .refl)
        exact .cons_cons _ (.cons _ (.refl _))
    · have hge : i = L.length := by
        have : ¬ i < L.length := by simpa using h
        omega
      subst hge
      refine AllocOb.mk fun b20 hb20 hbM20 => ?_
      refine OtherOb.nd ?_
      refine OtherOb.append TrydEOK rfl (by simp) (e := 32) rfl rfl rfl o1 ho1 rfl (m := 1) rfl (news := [.int .u8 k0, .int .u64 0, .int .u64 0, .int .u64 0, .int .u64 0, .string s0, .int .i64 0, .int .i64 0, o2.val]) (by decide) (blk_rd (b := b20) (cs := [.int .u8 k0, .int .u64 0, .int .u64 0, .int .u64 0, .int .u64 0, .string s0, .int .i64 0, .int .i64 0, o2.val]) (k := 0) (n := 9) (T := 32) (.head _) (Nat.le_of_ble_eq_true rfl)) rfl
        (Mr := ⟨b20, .cells _ 32 (0, 0)⟩ :: (o2.blk 3 ++ [kidBlk b L])) (List.perm_middle (l₁ := o1.blk 32) (l₂ := o2.blk 3 ++ [kidBlk b L])).symm (by simp only [maxLen]; omega) (by show (o1.n + 1) * 96 ≤ _; omega) ?_
      intro g1 c1 cur1 q1 q2 q3 q4 hnd hdj
      have hlast : IntKind.i64.wrap (((o1.n + 1 : Nat) : Int) - 1) = (L.length : Int) := by rw [wrap_i64 ⟨by omega, by omega⟩]; omega
      refine ArithOb.mk (L.length : Int) hlast ?_
      have hok1 := appk_ok (g := g1) (ys := [.int .u8 k0, .int .u64 0, .int .u64 0, .int .u64 0, .int .u64 0, .string s0, .int .i64 0, .int .i64 0, o2.val]) ho1 rfl q1 q2 q3 q4
      simp only [List.map_cons, List.map_append, List.map_nil, List.nodup_cons, List.mem_cons, List.mem_append, not_or] at hnd
      obtain ⟨⟨n1, n2, n3⟩, n4, n5⟩ := hnd
      have n6 := (List.nodup_append.1 n5)
      have hg1I := hdj ⟨g1, .cells cur1.toArray 32 (0, 0)⟩ (.head _)
      obtain ⟨I5, w1, w2, w3, w4⟩ := OS.giveF (foot := [(kidBlk b L).num]) (e := 3) (b := 8) ho2 (by omega) (fun g hg => ⟨hdj ⟨g, .cells o2.cur.toArray 3 (0, 0)⟩ (by simp [OS.blk, hg]), fun hgb => by
        simp only [List.mem_singleton] at hgb
        refine n6.2.2 g ?_ _ (List.mem_singleton.2 rfl) hgb
        simp [OS.blk, hg]⟩) [⟨g1, .cells cur1.toArray 32 (0, 0)⟩, kidBlk b L]
      have hg15 : I5 g1 = none := by
        rw [w4 g1 (fun hg => n2 (by simp [OS.blk, hg]))]
        exact hg1I
      obtain ⟨I6, x1, x2, x3, x4⟩ := OS.giveF (foot := [(kidBlk b L).num]) (e := 32) (b := 96) hok1 (by show (o1.n + 1) * 96 ≤ _; omega) (fun g hg => by cases hg; exact ⟨hg15, by simpa using n3⟩) [kidBlk b L]
      have hlen : L.length = o2.n := hn2.symm
      refine ⟨I6, [kidBlk b L], .sub (M1 := ⟨g1, .cells cur1.toArray 32 (0, 0)⟩ :: (o2.blk 3 ++ [kidBlk b L])) (.cons_cons _ (.cons _ (.refl _))) (.perm List.perm_middle.symm (w1 _ _ (x1 _ _ .refl))), fun b o h => x2 _ _ (w2 _ _ (hI2 _ _ h)), rfl,
        ⟨L.map Lf.nd ++ [ofNd k0 s0 (o2.a.map fun g => ⟨g, 0, none⟩) o2.c L.length], some ⟨g1, 0, none⟩, o1.n + 1, c1, L.length⟩, (o2.a.map fun g => ⟨g, 0, none⟩), o2.c, rfl, ⟨?_, ?_, ⟨by simp only; omega, by simp only; omega⟩⟩, rfl, rfl⟩
      · have e : (L.map Lf.nd ++ [ofNd k0 s0 (o2.a.map fun g => ⟨g, 0, none⟩) o2.c L.length]).flatMap Nd.cells = ((L.take L.length).flatMap fun y => y.nd.cells) ++ [.int .u8 k0, .int .u64 0, .int .u64 0, .int .u64 0, .int .u64 0, .string s0, .int .i64 0, .int .i64 0, o2.val] := by
          rw [List.take_length, List.flatMap_append, List.flatMap_map]
          simp [ofNd, Nd.cells, OS.val, hlen]
        rw [e]
        exact x3
      · intro d hd
        simp only [List.mem_append, List.mem_map, List.mem_singleton] at hd
        rcases hd with ⟨x, hx, rfl⟩ | rfl
        · have hxo := hL x hx
          have : x.nd ∈ x.1.ns := by rw [hxo.ns]; simp
          exact (hxo.t.ns _ this).mono fun b o h => x2 _ _ (w2 _ _ (hI2 _ _ h))
        · refine ⟨hk0, u0, u0, u0, u0, by show s0.size ≤ _; omega, i0, i0, ?_, fun x hx => ?_⟩
          · show RS I6 _ L.length _ 1 8 ((iotaI L.length).map _)
            rw [hlen] at w3 ⊢
            exact w3.mono x2
          · simp only [ofNd, iotaI, List.mem_map, List.mem_range] at hx
            obtain ⟨j, hj, rfl⟩ := hx
            exact ⟨by omega, by omega⟩
end Go.V
