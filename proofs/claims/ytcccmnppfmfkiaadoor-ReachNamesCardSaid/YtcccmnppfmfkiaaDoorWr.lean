/-
  Walks: bonsailaw12.of, ints, some.
-/
import Derived.Test.YtcccmnppfmfkiaaDoorWq
set_option linter.unusedVariables false
set_option linter.unusedSimpArgs false
namespace Go.V
open Go Go.Proofs

theorem of_leaf {I : GH} {k0 : Int} {s0 : ByteArray} {L : List Lf} {b cc : Nat} (hm : L.length ≤ 100) (hk0 : 0 ≤ k0 ∧ k0 < 256) (hs0 : s0.size ≤ 140737488355328) (hL : ∀ x ∈ L, Lf.ok I x) (hf : fitsR (leafNd k0 s0) L.length = true) :
    Spec Tryd.prog 10 [.agg #[.int .u8 k0, .int .u64 0, .int .u64 0, .int .u64 0, .int .u64 0, .string s0, .int .i64 0, .int .i64 0, .slice none 0 0], .slice (some ⟨b, 0, none⟩) L.length cc] I [kidBlk b L]
      fun v I' M' => (∀ b o, I b = some o → I' b = some o) ∧ M' = [kidBlk b L] ∧ ∃ (t : Tr) (ka : Option Addr) (kc : Nat), v = t.val ∧ t.ok I' ∧ t.root = L.length ∧ t.ns = L.map Lf.nd ++ [ofNd k0 s0 ka kc L.length] := by
  refine spec_of_V [] TrydEOK Tryd.func10 rfl rfl rfl ?_
  intro B h0
  refine CallOb.mk [kidBlk b L] [] _ (.refl _) (ROf_leaf hm hk0 hs0 hL hf) ?_
  rintro v I' M' - ⟨hI, rfl, t, ka, kc, rfl, h1, h2, h3⟩
  exact ⟨_, _, .refl, hI, rfl, t, ka, kc, rfl, h1, h2, h3⟩

set_option maxHeartbeats 1000000 in
theorem ints_spec {I : GH} {x : Rw} (hx : x.ok I) {l : List Int} {b c : Nat} : Spec Tryd.prog 13 [x.val, .slice (some ⟨b, 0, none⟩) l.length c] I [intRow b l]
    fun v I' M' => v = .bool (decide (x.l = l)) ∧ I' = I ∧ M' = [intRow b l] := by
  refine spec_of_V [] TrydEOK Tryd.func13 rfl rfl rfl ?_
  intro B h0
  have hxn := hx.n
  have hn := hx.rs.cap.2
  refine CondOb.mk (fun h => ?_) (fun h => ?_)
  · refine ⟨_, _, .refl, ?_, rfl, rfl⟩
    have : x.l ≠ l := fun e => by
      rw [e] at hxn
      simp [hxn] at h
    simp [this]
  · have hll : x.n = l.length := by
      simp at h
      omega
    refine LoopOb.inv (ι := Nat) (fun i => { fl := [(0, .val x.val), (1, .val (.slice (some ⟨b, 0, none⟩) l.length c)), (5, .val (.int .i64 i))], gi := I, mi := [intRow b l] }) (fun i => i ≤ x.n ∧ x.l.take i = l.take i) (fun i => x.n - i) ?_ ?_
    · exact ⟨0, ⟨Nat.zero_le _, rfl⟩, .refl, .cons .refl (.cons .refl (.cons .refl .nil)), .nil⟩
    · rintro i ⟨hi, htk⟩
      refine CondOb.mk (fun h => ?_) (fun h => ?_)
      · have hlt : i < x.n := by simpa using h
        obtain ⟨ad, had, hr⟩ := hx.rs.one (j := i) hlt (by omega)
        refine CodeOb.draw TrydEOK rfl rfl rfl ?_
        refine IdxOb.mk ad i had rfl hlt ?_
        refine LoadOb.mk _ (hr _) ?_
        refine IdxOb.mk ⟨b, 0, none⟩ i rfl rfl (by omega) ?_
        refine LoadOb.mk _ (intRow_rd (s := l) (j := i) (by simp) (by omega)) ?_
        refine CondOb.mk (fun h2 => ?_) (fun h2 => ?_)
        · refine ⟨_, _, .refl, ?_, rfl, rfl⟩
          have : x.l ≠ l := fun e => by
            have h3 : ¬ x.l[i]'(by omega) = l[i]'(by omega) := by simpa using h2
            exact h3 (by simp [e])
          simp [this]
        · have h3 : x.l[i]'(by omega) = l[i]'(by omega) := by simpa using h2
          refine ArithOb.mk _ (next_wr (i := i) (by omega)) ?_
          refine ⟨i + 1, ⟨⟨by omega, ?_⟩, by omega⟩, .refl, .cons .refl (.cons .refl (.cons .refl .nil)), .nil⟩
          rw [List.take_succ_eq_append_getElem (by omega), List.take_succ_eq_append_getElem (by omega), htk, h3]
      · have hge : x.n ≤ i := by simpa using h
        refine ⟨_, _, .refl, ?_, rfl, rfl⟩
        have : x.l = l := by
          rw [List.take_of_length_le (by omega), List.take_of_length_le (by omega)] at htk
          exact htk
        simp [this]

/-! ### The grammars of the examples -/
def cS (c : UInt8) : ByteArray := ⟨#[c]⟩
def nS : ByteArray := ⟨#[]⟩
/-- A rule's row, of the function's own. -/
def defBlk (b : Nat) (ds : List Df) : Blk := ⟨b, .cells (ds.flatMap Df.cells).toArray 35 (0, 0)⟩
theorem defBlk_gr {I : GH} {b n : Nat} {ds : List Df} (hn : ds.length = n) (hb : n ≤ 1000) (hI : I b = none) (h : ∀ d ∈ ds, d.ok I) : Gr.ok (ins I b (defBlk b ds).obj) ⟨ds, some ⟨b, 0, none⟩, n, n⟩ := by
  subst hn
  refine ⟨⟨flat_len _ 3 Df.cells_len ds, ⟨Nat.le_refl _, by simp only; omega⟩, .inr ⟨_, rfl, rfl, _, _, _, ins_self .., ?_⟩⟩, fun d hd => (h d hd).mono (ins_le hI)⟩
  simp only [List.drop_zero]
  exact List.take_of_length_le (by rw [flat_len _ 3 Df.cells_len ds]; exact Nat.le_refl _)

/-- A tree of a leaf: where it lies. -/
def tLeaf (k : Int) (s : ByteArray) (p : Option Addr × Nat) : Tr := ⟨[leafNd k s], p.1, 1, p.2, 0⟩
/-- A tree of leaves under a node: where they lie. -/
def tOf (k : Int) (s : ByteArray) (l : List Nd) (p : Option Addr × Nat × Option Addr × Nat) : Tr := ⟨l ++ [ofNd k s p.2.2.1 p.2.2.2 l.length], p.1, l.length + 1, p.2.1, l.length⟩
theorem tLeaf_of {I : GH} {t : Tr} {k : Int} {s : ByteArray} (ht : t.ok I) (h1 : t.ns = [leafNd k s]) (h2 : t.root = 0) : ∃ p, t = tLeaf k s p := by
  obtain ⟨ns, a, n, c, root⟩ := t
  simp only at h1 h2
  subst h1
  subst h2
  have := ht.n
  simp only [List.length_cons, List.length_nil] at this
  subst this
  exact ⟨(a, c), rfl⟩
theorem tOf_of {I : GH} {t : Tr} {k : Int} {s : ByteArray} {L : List Lf} {ka : Option Addr} {kc : Nat} (ht : t.ok I) (h2 : t.root = L.length) (h1 : t.ns = L.map Lf.nd ++ [ofNd k s ka kc L.length]) : ∃ p, t = tOf k s (L.map Lf.nd) p := by
  obtain ⟨ns, a, n, c, root⟩ := t
  simp only at h1 h2
  subst h1
  subst h2
  have := ht.n
  simp only [List.length_append, List.length_map, List.length_cons, List.length_nil] at this
  subst this
  exact ⟨(a, c, ka, kc), by simp [tOf]⟩
abbrev At4 := Option Addr × Nat × Option Addr × Nat
def someDs (p1 p2 : At4) (p3 p4 : Option Addr × Nat) : List Df := [⟨cS 97, tOf 4 nS [leafNd 3 (cS 98), leafNd 2 (cS 120)] p1⟩, ⟨cS 98, tOf 5 nS [leafNd 3 (cS 99), leafNd 0 nS] p2⟩, ⟨cS 99, tLeaf 3 (cS 98) p3⟩, ⟨cS 100, tLeaf 3 (cS 97) p4⟩]

theorem lf_ok {I : GH} {t : Tr} {k : Int} {s : ByteArray} (ht : t.ok I) (h1 : t.ns = [leafNd k s]) (h2 : t.root = 0) (hf : fitsR (leafNd k s) 0 = true) : Lf.ok I (t, k, s) := ⟨ht, h1, h2, hf⟩

set_option maxHeartbeats 4000000 in
theorem some_spec {I : GH} : Spec Tryd.prog 19 [] I [] fun v I' M' => (∀ b o, I b = some o → I' b = some o) ∧ ∃ (b : Nat) (p1 p2 : At4) (p3 p4 : Option Addr × Nat), v = .agg #[.slice (some ⟨b, 0, none⟩) 4 4] ∧ I' b = none ∧ (∀ d ∈ someDs p1 p2 p3 p4, d.ok I') ∧ M' = [defBlk b (someDs p1 p2 p3 p4)] := by
  refine spec_of_V [] TrydEOK Tryd.func19 rfl rfl rfl ?_
  intro B h0
  refine CallOb.mk [] [] _ (.refl _) (Text_spec (s := cS 120) (by decide)) ?_
  rintro v I1 M1 hI1 ⟨-, t1, rfl, ht1, n1, r1, rfl⟩
  refine CodeOb.draw TrydEOK rfl rfl rfl ?_
  refine PCallOb.mk _ (Rule_spec (s := cS 98) (by decide)) ?_
  rintro v I2 M2 hI2 ⟨-, t2, rfl, ht2, n2, r2, rfl⟩
  refine AllocOb.mk fun b1 hb1 hbM1 => ?_
  have ht1' := ht1.mono hI2
  have hL : ∀ x ∈ [((t2, 3, cS 98) : Lf), (t1, 2, cS 120)], Lf.ok I2 x := by
    simp only [List.mem_cons, List.not_mem_nil, or_false]
    rintro x (rfl | rfl)
    · exact lf_ok ht2 n2 r2 (by kernel_rfl)
    · exact lf_ok ht1' n1 r1 (by kernel_rfl)
  refine PCallOb.mkR [kidBlk b1 [(t2, 3, cS 98), (t1, 2, cS 120)]] [] _ (.refl _) (of_leaf (k0 := 4) (s0 := nS) (cc := 2) (Nat.le_of_ble_eq_true rfl) (by decide) (by decide) hL (by kernel_rfl)) ?_ ?_
  · rintro v I' M' ⟨-, rfl, -⟩ x hx
    exact hx
  rintro v I3 M3 hI3 ⟨-, rfl, t3, ka1, kc1, rfl, ht3, r3, n3⟩
  refine PCallOb.mk _ (Rule_spec (s := cS 99) (by decide)) ?_
  rintro v I4 M4 hI4 ⟨-, t4, rfl, ht4, n4, r4, rfl⟩
  refine PCallOb.mk _ Empty_spec ?_
  rintro v I5 M5 hI5 ⟨-, t5, rfl, ht5, n5, r5, rfl⟩
  refine AllocOb.mk fun b2 hb2 hbM2 => ?_
  have ht4' := ht4.mono hI5
  have hL2 : ∀ x ∈ [((t4, 3, cS 99) : Lf), (t5, 0, nS)], Lf.ok I5 x := by
    simp only [List.mem_cons, List.not_mem_nil, or_false]
    rintro x (rfl | rfl)
    · exact lf_ok ht4' n4 r4 (by kernel_rfl)
    · exact lf_ok ht5 n5 r5 (by kernel_rfl)
  refine PCallOb.mkR [kidBlk b2 [(t4, 3, cS 99), (t5, 0, nS)]] [kidBlk b1 [(t2, 3, cS 98), (t1, 2, cS 120)]] _ (.refl _) (of_leaf (k0 := 5) (s0 := nS) (cc := 2) (Nat.le_of_ble_eq_true rfl) (by decide) (by decide) hL2 (by kernel_rfl)) ?_ ?_
  · rintro v I' M' ⟨-, rfl, -⟩ x hx
    exact hx
  rintro v I6 M6 hI6 ⟨-, rfl, t6, ka2, kc2, rfl, ht6, r6, n6⟩
  refine PCallOb.mk _ (Rule_spec (s := cS 98) (by decide)) ?_
  rintro v I7 M7 hI7 ⟨-, t7, rfl, ht7, n7, r7, rfl⟩
  refine PCallOb.mk _ (Rule_spec (s := cS 97) (by decide)) ?_
  rintro v I8 M8 hI8 ⟨-, t8, rfl, ht8, n8, r8, rfl⟩
  have e1 : ∀ b o, I3 b = some o → I8 b = some o := fun b o h => hI8 _ _ (hI7 _ _ (hI6 _ _ (hI5 _ _ (hI4 _ _ h))))
  obtain ⟨p1, rfl⟩ := tOf_of ht3 r3 n3
  obtain ⟨p2, rfl⟩ := tOf_of ht6 r6 n6
  obtain ⟨p3, rfl⟩ := tLeaf_of ht7 n7 r7
  obtain ⟨p4, rfl⟩ := tLeaf_of ht8 n8 r8
  refine AllocOb.mk fun b3 hb3 hbM3 => ?_
  refine ⟨I8, [defBlk b3 (someDs p1 p2 p3 p4)], .sub (.cons_cons _ (List.nil_sublist _)) .refl, fun b o h => e1 _ _ (hI3 _ _ (hI2 _ _ (hI1 _ _ h))), b3, p1, p2, p3, p4, rfl, hb3, ?_, rfl⟩
  have c1 : ∀ c : UInt8, (cS c).size ≤ 140737488355328 := fun c => (by decide : (1 : Nat) ≤ 140737488355328)
  simp only [someDs, List.mem_cons, List.not_mem_nil, or_false]
  rintro d (rfl | rfl | rfl | rfl)
  · exact ⟨c1 _, ht3.mono e1⟩
  · exact ⟨c1 _, ht6.mono fun b o h => hI8 _ _ (hI7 _ _ h)⟩
  · exact ⟨c1 _, ht7.mono hI8⟩
  · exact ⟨c1 _, ht8⟩
end Go.V
