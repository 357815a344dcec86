/-
  Part 9 of what the proofs of this seat share: the executor, data in memory, walks.
-/
import Derived.Test.YtcccmnppfmfkiaaGreatDoorK6
import Derived.Test.YtcccmnppfmfkiaaGreatDoorK5
import Derived.Test.YtcccmnppfmfkiaaGreatDoorK7
import Derived.Lib.TrailingZeros
import Derived.Test.YtcccmnppfmfkiaaGreatDoorK8

/-
  Walks: bonsailaw12.of, ints, some.
-/
set_option linter.unusedVariables false
set_option linter.unusedSimpArgs false
namespace Go.V
open Go Go.Proofs

theorem of_leaf {I : GH} {k0 : Int} {s0 : ByteArray} {L : List Lf} {b cc : Nat} (hm : L.length ≤ 100) (hk0 : 0 ≤ k0 ∧ k0 < 256) (hs0 : s0.size ≤ 140737488355328) (hL : ∀ x ∈ L, Lf.ok I x) (hf : fitsR (leafNd k0 s0) L.length = true) :
    Spec Tryz.prog 58 [.agg #[.int .u8 k0, .int .u64 0, .int .u64 0, .int .u64 0, .int .u64 0, .string s0, .int .i64 0, .int .i64 0, .slice none 0 0], .slice (some ⟨b, 0, none⟩) L.length cc] I [kidBlk b L]
      fun v I' M' => (∀ b o, I b = some o → I' b = some o) ∧ M' = [kidBlk b L] ∧ ∃ (t : Tr) (ka : Option Addr) (kc : Nat), v = t.val ∧ t.ok I' ∧ t.root = L.length ∧ t.ns = L.map Lf.nd ++ [ofNd k0 s0 ka kc L.length] := by
  refine spec_of_V [] TryzEOK Tryz.func58 rfl rfl rfl ?_
  intro B h0
  refine CallOb.mk [kidBlk b L] [] _ (.refl _) (ROf_leaf hm hk0 hs0 hL hf) ?_
  rintro v I' M' - ⟨hI, rfl, t, ka, kc, rfl, h1, h2, h3⟩
  exact ⟨_, _, .refl, hI, rfl, t, ka, kc, rfl, h1, h2, h3⟩

set_option maxHeartbeats 1000000 in
theorem ints_spec {I : GH} {x : Rw} (hx : x.ok I) {l : List Int} {b c : Nat} : Spec Tryz.prog 12 [x.val, .slice (some ⟨b, 0, none⟩) l.length c] I [intRow b l]
    fun v I' M' => v = .bool (decide (x.l = l)) ∧ I' = I ∧ M' = [intRow b l] := by
  refine spec_of_V [] TryzEOK Tryz.func12 rfl rfl rfl ?_
  intro B h0
  have hxn := hx.n
  have hn := hx.rs.cap.2
  refine CondOb.mk (fun h => ?_) (fun h => ?_)
  · refine ⟨_, _, .refl, ?_, rfl, rfl⟩
    have : x.l ≠ l := fun e => by
      rw [e] at hxn
      simp [hxn] at h
    simp [this]
  · have hll : x.n = l.length := by
      simp at h
      omega
    refine LoopOb.inv (ι := Nat) (fun i => { fl := [(0, .val x.val), (1, .val (.slice (some ⟨b, 0, none⟩) l.length c)), (5, .val (.int .i64 i))], gi := I, mi := [intRow b l] }) (fun i => i ≤ x.n ∧ x.l.take i = l.take i) (fun i => x.n - i) ?_ ?_
    · exact ⟨0, ⟨Nat.zero_le _, rfl⟩, .refl, .cons .refl (.cons .refl (.cons .refl .nil)), .nil⟩
    · rintro i ⟨hi, htk⟩
      refine CondOb.mk (fun h => ?_) (fun h => ?_)
      · have hlt : i < x.n := by simpa using h
        obtain ⟨ad, had, hr⟩ := hx.rs.one (j := i) hlt (by omega)
        refine CodeOb.draw TryzEOK rfl rfl rfl ?_
        refine IdxOb.mk ad i had rfl hlt ?_
        refine LoadOb.mk _ (hr _) ?_
        refine IdxOb.mk ⟨b, 0, none⟩ i rfl rfl (by omega) ?_
        refine LoadOb.mk _ (intRow_rd (s := l) (j := i) (by simp) (by omega)) ?_
        refine CondOb.mk (fun h2 => ?_) (fun h2 => ?_)
        · refine ⟨_, _, .refl, ?_, rfl, rfl⟩
          have : x.l ≠ l := fun e => by
            have h3 : ¬ x.l[i]'(by omega) = l[i]'(by omega) := by simpa using h2
            exact h3 (by simp [e])
          simp [this]
        · have h3 : x.l[i]'(by omega) = l[i]'(by omega) := by simpa using h2
          refine ArithOb.mk _ (next_wr (i := i) (by omega)) ?_
          refine ⟨i + 1, ⟨⟨by omega, ?_⟩, by omega⟩, .refl, .cons .refl (.cons .refl (.cons .refl .nil)), .nil⟩
          rw [List.take_succ_eq_append_getElem (by omega), List.take_succ_eq_append_getElem (by omega), htk, h3]
      · have hge : x.n ≤ i := by simpa using h
        refine ⟨_, _, .refl, ?_, rfl, rfl⟩
        have : x.l = l := by
          rw [List.take_of_length_le (by omega), List.take_of_length_le (by omega)] at htk
          exact htk
        simp [this]

/-! ### The grammars of the examples -/
def cS (c : UInt8) : ByteArray := ⟨#[c]⟩
def nS : ByteArray := ⟨#[]⟩
/-- A rule's row, of the function's own. -/
def defBlk (b : Nat) (ds : List Df) : Blk := ⟨b, .cells (ds.flatMap Df.cells).toArray 62 (0, 0)⟩
theorem defBlk_gr {I : GH} {b n : Nat} {ds : List Df} (hn : ds.length = n) (hb : n ≤ 1000) (hI : I b = none) (h : ∀ d ∈ ds, d.ok I) : Gr.ok (ins I b (defBlk b ds).obj) ⟨ds, some ⟨b, 0, none⟩, n, n⟩ := by
  subst hn
  refine ⟨⟨flat_len _ 3 Df.cells_len ds, ⟨Nat.le_refl _, by simp only; omega⟩, .inr ⟨_, rfl, rfl, _, _, _, ins_self .., ?_⟩⟩, fun d hd => (h d hd).mono (ins_le hI)⟩
  simp only [List.drop_zero]
  exact List.take_of_length_le (by rw [flat_len _ 3 Df.cells_len ds]; exact Nat.le_refl _)

/-- A tree of a leaf: where it lies. -/
def tLeaf (k : Int) (s : ByteArray) (p : Option Addr × Nat) : Tr := ⟨[leafNd k s], p.1, 1, p.2, 0⟩
/-- A tree of leaves under a node: where they lie. -/
def tOf (k : Int) (s : ByteArray) (l : List Nd) (p : Option Addr × Nat × Option Addr × Nat) : Tr := ⟨l ++ [ofNd k s p.2.2.1 p.2.2.2 l.length], p.1, l.length + 1, p.2.1, l.length⟩
theorem tLeaf_of {I : GH} {t : Tr} {k : Int} {s : ByteArray} (ht : t.ok I) (h1 : t.ns = [leafNd k s]) (h2 : t.root = 0) : ∃ p, t = tLeaf k s p := by
  obtain ⟨ns, a, n, c, root⟩ := t
  simp only at h1 h2
  subst h1
  subst h2
  have := ht.n
  simp only [List.length_cons, List.length_nil] at this
  subst this
  exact ⟨(a, c), rfl⟩
theorem tOf_of {I : GH} {t : Tr} {k : Int} {s : ByteArray} {L : List Lf} {ka : Option Addr} {kc : Nat} (ht : t.ok I) (h2 : t.root = L.length) (h1 : t.ns = L.map Lf.nd ++ [ofNd k s ka kc L.length]) : ∃ p, t = tOf k s (L.map Lf.nd) p := by
  obtain ⟨ns, a, n, c, root⟩ := t
  simp only at h1 h2
  subst h1
  subst h2
  have := ht.n
  simp only [List.length_append, List.length_map, List.length_cons, List.length_nil] at this
  subst this
  exact ⟨(a, c, ka, kc), by simp [tOf]⟩
abbrev At4 := Option Addr × Nat × Option Addr × Nat
def someDs (p1 p2 : At4) (p3 p4 : Option Addr × Nat) : List Df := [⟨cS 97, tOf 4 nS [leafNd 3 (cS 98), leafNd 2 (cS 120)] p1⟩, ⟨cS 98, tOf 5 nS [leafNd 3 (cS 99), leafNd 0 nS] p2⟩, ⟨cS 99, tLeaf 3 (cS 98) p3⟩, ⟨cS 100, tLeaf 3 (cS 97) p4⟩]

theorem lf_ok {I : GH} {t : Tr} {k : Int} {s : ByteArray} (ht : t.ok I) (h1 : t.ns = [leafNd k s]) (h2 : t.root = 0) (hf : fitsR (leafNd k s) 0 = true) : Lf.ok I (t, k, s) := ⟨ht, h1, h2, hf⟩

set_option maxHeartbeats 4000000 in
theorem some_spec {I : GH} : Spec Tryz.prog 32 [] I [] fun v I' M' => (∀ b o, I b = some o → I' b = some o) ∧ ∃ (b : Nat) (p1 p2 : At4) (p3 p4 : Option Addr × Nat), v = .agg #[.slice (some ⟨b, 0, none⟩) 4 4] ∧ I' b = none ∧ (∀ d ∈ someDs p1 p2 p3 p4, d.ok I') ∧ M' = [defBlk b (someDs p1 p2 p3 p4)] := by
  refine spec_of_V [] TryzEOK Tryz.func32 rfl rfl rfl ?_
  intro B h0
  refine CallOb.mk [] [] _ (.refl _) (Text_spec (s := cS 120) (by decide)) ?_
  rintro v I1 M1 hI1 ⟨-, t1, rfl, ht1, n1, r1, rfl⟩
  refine CodeOb.draw TryzEOK rfl rfl rfl ?_
  refine PCallOb.mk _ (Rule_spec (s := cS 98) (by decide)) ?_
  rintro v I2 M2 hI2 ⟨-, t2, rfl, ht2, n2, r2, rfl⟩
  refine AllocOb.mk fun b1 hb1 hbM1 => ?_
  have ht1' := ht1.mono hI2
  have hL : ∀ x ∈ [((t2, 3, cS 98) : Lf), (t1, 2, cS 120)], Lf.ok I2 x := by
    simp only [List.mem_cons, List.not_mem_nil, or_false]
    rintro x (rfl | rfl)
    · exact lf_ok ht2 n2 r2 (by kernel_rfl)
    · exact lf_ok ht1' n1 r1 (by kernel_rfl)
  refine PCallOb.mkR [kidBlk b1 [(t2, 3, cS 98), (t1, 2, cS 120)]] [] _ (.refl _) (of_leaf (k0 := 4) (s0 := nS) (cc := 2) (Nat.le_of_ble_eq_true rfl) (by decide) (by decide) hL (by kernel_rfl)) ?_ ?_
  · rintro v I' M' ⟨-, rfl, -⟩ x hx
    exact hx
  rintro v I3 M3 hI3 ⟨-, rfl, t3, ka1, kc1, rfl, ht3, r3, n3⟩
  refine PCallOb.mk _ (Rule_spec (s := cS 99) (by decide)) ?_
  rintro v I4 M4 hI4 ⟨-, t4, rfl, ht4, n4, r4, rfl⟩
  refine PCallOb.mk _ Empty_spec ?_
  rintro v I5 M5 hI5 ⟨-, t5, rfl, ht5, n5, r5, rfl⟩
  refine AllocOb.mk fun b2 hb2 hbM2 => ?_
  have ht4' := ht4.mono hI5
  have hL2 : ∀ x ∈ [((t4, 3, cS 99) : Lf), (t5, 0, nS)], Lf.ok I5 x := by
    simp only [List.mem_cons, List.not_mem_nil, or_false]
    rintro x (rfl | rfl)
    · exact lf_ok ht4' n4 r4 (by kernel_rfl)
    · exact lf_ok ht5 n5 r5 (by kernel_rfl)
  refine PCallOb.mkR [kidBlk b2 [(t4, 3, cS 99), (t5, 0, nS)]] [kidBlk b1 [(t2, 3, cS 98), (t1, 2, cS 120)]] _ (.refl _) (of_leaf (k0 := 5) (s0 := nS) (cc := 2) (Nat.le_of_ble_eq_true rfl) (by decide) (by decide) hL2 (by kernel_rfl)) ?_ ?_
  · rintro v I' M' ⟨-, rfl, -⟩ x hx
    exact hx
  rintro v I6 M6 hI6 ⟨-, rfl, t6, ka2, kc2, rfl, ht6, r6, n6⟩
  refine PCallOb.mk _ (Rule_spec (s := cS 98) (by decide)) ?_
  rintro v I7 M7 hI7 ⟨-, t7, rfl, ht7, n7, r7, rfl⟩
  refine PCallOb.mk _ (Rule_spec (s := cS 97) (by decide)) ?_
  rintro v I8 M8 hI8 ⟨-, t8, rfl, ht8, n8, r8, rfl⟩
  have e1 : ∀ b o, I3 b = some o → I8 b = some o := fun b o h => hI8 _ _ (hI7 _ _ (hI6 _ _ (hI5 _ _ (hI4 _ _ h))))
  obtain ⟨p1, rfl⟩ := tOf_of ht3 r3 n3
  obtain ⟨p2, rfl⟩ := tOf_of ht6 r6 n6
  obtain ⟨p3, rfl⟩ := tLeaf_of ht7 n7 r7
  obtain ⟨p4, rfl⟩ := tLeaf_of ht8 n8 r8
  refine AllocOb.mk fun b3 hb3 hbM3 => ?_
  refine ⟨I8, [defBlk b3 (someDs p1 p2 p3 p4)], .sub (.cons_cons _ (List.nil_sublist _)) .refl, fun b o h => e1 _ _ (hI3 _ _ (hI2 _ _ (hI1 _ _ h))), b3, p1, p2, p3, p4, rfl, hb3, ?_, rfl⟩
  have c1 : ∀ c : UInt8, (cS c).size ≤ 140737488355328 := fun c => (by decide : (1 : Nat) ≤ 140737488355328)
  simp only [someDs, List.mem_cons, List.not_mem_nil, or_false]
  rintro d (rfl | rfl | rfl | rfl)
  · exact ⟨c1 _, ht3.mono e1⟩
  · exact ⟨c1 _, ht6.mono fun b o h => hI8 _ _ (hI7 _ _ h)⟩
  · exact ⟨c1 _, ht7.mono hI8⟩
  · exact ⟨c1 _, ht8⟩
end Go.V

/-
  Walks: bonsailaw12.works.
-/
set_option linter.unusedVariables false
set_option linter.unusedSimpArgs false
namespace Go.V
open Go Go.Proofs

/-- 'ints', where the numbers are known. -/
theorem ints_is {I : GH} {x : Rw} (hx : x.ok I) {l l' : List Int} (hl : x.l = l') (r : Bool) (hr : decide (l' = l) = r) {b c : Nat} : Spec Tryz.prog 12 [x.val, .slice (some ⟨b, 0, none⟩) l.length c] I [intRow b l]
    fun v I' M' => v = .bool r ∧ I' = I ∧ M' = [intRow b l] := by
  have h := ints_spec hx (l := l) (b := b) (c := c)
  rw [hl, hr] at h
  exact h
theorem Self_is {I : GH} (hT : Tabs I debL) {g : Gr} (hg : g.ok I) (hn : g.n ≤ 1099511627776) (i : Int) (r : Bool) (hr : selfG debL g i = r) : Spec Tryz.prog 16 [g.val, .int .i64 i] I [] fun v I' M' => v = .bool r ∧ (∀ b o, I b = some o → I' b = some o) ∧ M' = [] := by
  have h := Self_spec hT hg hn i
  rw [hr] at h
  exact h
theorem rows3 {rs : List Rw} {a b c : List Int} (h : rs.map (·.l) = [a, b, c]) : ∃ r1 r2 r3, rs = [r1, r2, r3] ∧ r1.l = a ∧ r2.l = b ∧ r3.l = c := by
  match rs, h with
  | [r1, r2, r3], h => exact ⟨r1, r2, r3, rfl, by simpa using h⟩
theorem OS.val3 {os : OS} {a b c : Value} (h : os.ok 1 [a, b, c]) {e : Nat} : ∃ (g c' : Nat) (cur : List Value), os.val = .slice (some ⟨g, 0, none⟩) 3 c' ∧ os.blk e = [⟨g, .cells cur.toArray e (0, 0)⟩] ∧ cur.take 3 = [a, b, c] := by
  obtain ⟨oa, n, c', cur⟩ := os
  have hn := h.len
  simp only [List.length_cons, List.length_nil, Nat.mul_one] at hn
  subst hn
  cases oa with
  | none => have := (h.nil rfl).1; simp at this
  | some g =>
    obtain ⟨-, -, -, h4⟩ := h.cap g rfl
    exact ⟨g, c', cur, rfl, rfl, h4⟩
theorem cell3 {I : GH} {M : List Blk} {b T : Nat} {cur : List Value} (hM : (⟨b, .cells cur.toArray T (0, 0)⟩ : Blk) ∈ M) {x y z : Value} (h : cur.take 3 = [x, y, z]) : 3 ≤ cur.length ∧ Rd I M ((⟨b, 0, none⟩ : Addr).add (0 * 1)) 1 [x] ∧ Rd I M ((⟨b, 0, none⟩ : Addr).add (1 * 1)) 1 [y] ∧ Rd I M ((⟨b, 0, none⟩ : Addr).add (2 * 1)) 1 [z] := by
  match cur, h with
  | p :: q :: r :: cs, h =>
    simp at h
    obtain ⟨rfl, rfl, rfl⟩ := h
    exact ⟨by simp, blk_rd (cs := p :: q :: r :: cs) (k := 0) (n := 1) hM (by simp), blk_rd (cs := p :: q :: r :: cs) (k := 1) (n := 1) hM (by simp), blk_rd (cs := p :: q :: r :: cs) (k := 2) (n := 1) hM (by simp)⟩

def someG (b : Nat) (p1 p2 : At4) (p3 p4 : Option Addr × Nat) : Gr := ⟨someDs p1 p2 p3 p4, some ⟨b, 0, none⟩, 4, 4⟩
section
variable (b : Nat) (p1 p2 : At4) (p3 p4 : Option Addr × Nat)
theorem some_calls0 : callsG debL (someG b p1 p2 p3 p4) 0 = [1] := by kernel_rfl
theorem some_from0 : fromG debL (someG b p1 p2 p3 p4) 0 = [0, 1, 2] := by kernel_rfl
theorem some_self0 : selfG debL (someG b p1 p2 p3 p4) 0 = false := by kernel_rfl
theorem some_self1 : selfG debL (someG b p1 p2 p3 p4) 1 = true := by kernel_rfl
theorem some_self2 : selfG debL (someG b p1 p2 p3 p4) 2 = true := by kernel_rfl
theorem some_self3 : selfG debL (someG b p1 p2 p3 p4) 3 = false := by kernel_rfl
theorem some_useless : uselessG debL (someG b p1 p2 p3 p4) = [3] := by kernel_rfl
theorem some_rounds : roundsG debL (someG b p1 p2 p3 p4) = [[0], [1, 2], [3]] := by kernel_rfl
end

/-- What is told of a grammar of the examples, its value being known. -/
structure Told (I : GH) (u : Value) (g : Gr) : Prop where
  tabs : Tabs I debL
  gok : g.ok I
  num : g.n ≤ 1099511627776
  val : g.val = u
theorem Told.mono {I I' : GH} {u : Value} {g : Gr} (h : Told I u g) (hI : ∀ b o, I b = some o → I' b = some o) : Told I' u g := ⟨h.tabs.mono hI, h.gok.mono hI, h.num, h.val⟩
theorem Told.calls {I : GH} {u : Value} {g : Gr} (h : Told I u g) (i : Int) {l : List Int} (hl : callsG debL g i = l) : Spec Tryz.prog 7 [u, .int .i64 i] I [] fun v I' M' => (∀ b o, I b = some o → I' b = some o) ∧ ∃ x : Rw, v = x.val ∧ x.ok I' ∧ x.l = l ∧ M' = [] := by
  have := Calls_spec h.tabs h.gok h.num i
  rwa [hl, h.val] at this
theorem Told.from {I : GH} {u : Value} {g : Gr} (h : Told I u g) (i : Int) {l : List Int} (hl : fromG debL g i = l) : Spec Tryz.prog 8 [u, .int .i64 i] I [] fun v I' M' => (∀ b o, I b = some o → I' b = some o) ∧ ∃ x : Rw, v = x.val ∧ x.ok I' ∧ x.l = l ∧ M' = [] := by
  have := From_spec h.tabs h.gok h.num i
  rwa [hl, h.val] at this
theorem Told.self {I : GH} {u : Value} {g : Gr} (h : Told I u g) (i : Int) {r : Bool} (hl : selfG debL g i = r) : Spec Tryz.prog 16 [u, .int .i64 i] I [] fun v I' M' => v = .bool r ∧ (∀ b o, I b = some o → I' b = some o) ∧ M' = [] := by
  have := Self_spec h.tabs h.gok h.num i
  rwa [hl, h.val] at this
theorem Told.useless {I : GH} {u : Value} {g : Gr} (h : Told I u g) {l : List Int} (hl : uselessG debL g = l) : Spec Tryz.prog 9 [u] I [] fun v I' M' => (∀ b o, I b = some o → I' b = some o) ∧ ∃ x : Rw, v = x.val ∧ x.ok I' ∧ x.l = l ∧ M' = [] := by
  have := Useless_spec h.tabs h.gok h.num
  rwa [hl, h.val] at this
theorem Told.rounds {I : GH} {u : Value} {g : Gr} (h : Told I u g) {l : List (List Int)} (hl : roundsG debL g = l) : Spec Tryz.prog 10 [u] I [] fun v I' M' => (∀ b o, I b = some o → I' b = some o) ∧ ∃ (os : OS) (rs : List Rw), v = os.val ∧ os.ok 1 (rs.map Rw.val) ∧ (∀ r ∈ rs, r.ok I') ∧ rs.map (·.l) = l ∧ M' = os.blk 27 := by
  have := Rounds_spec h.tabs h.gok h.num
  rwa [hl, h.val] at this
theorem some_told {I : GH} (hT : Tabs I debL) {b : Nat} {p1 p2 : At4} {p3 p4 : Option Addr × Nat} (hb : I b = none) (hds : ∀ d ∈ someDs p1 p2 p3 p4, d.ok I) : Told (ins I b (defBlk b (someDs p1 p2 p3 p4)).obj) (.agg #[.slice (some ⟨b, 0, none⟩) 4 4]) (someG b p1 p2 p3 p4) :=
  ⟨hT.mono (ins_le hb), defBlk_gr rfl (by decide) hb hds, (by decide : (4 : Nat) ≤ 1099511627776), rfl⟩

set_option maxHeartbeats 4000000 in
theorem works_spec {I : GH} (hT : Tabs I debL) : Spec Tryz.prog 6 [] I [] fun v I' M' => v = .bool true ∧ (∀ b o, I b = some o → I' b = some o) ∧ M' = [] := by
  refine spec_of_V [] TryzEOK Tryz.func6 rfl rfl rfl ?_
  intro B h0
  refine CallOb.mk [] [] _ (.refl _) some_spec ?_
  rintro v I1 M1 hI1 ⟨-, b, p1, p2, p3, p4, rfl, hbI, hds, rfl⟩
  have hg := some_told (hT.mono hI1) hbI hds
  have hIg := ins_le (o := (defBlk b (someDs p1 p2 p3 p4)).obj) hbI
  have hW : Wk [] I1 [defBlk b (someDs p1 p2 p3 p4)] (ins I1 b (defBlk b (someDs p1 p2 p3 p4)).obj) ([] ++ []) := .prom rfl (by simp) .refl
  generalize ins I1 b (defBlk b (someDs p1 p2 p3 p4)).obj = I2 at hg hIg hW
  refine CallOb.mkW I2 [] [] _ hW (hg.rounds (some_rounds ..)) ?_
  rintro v I3 M3 hI3 - ⟨-, os, rs, rfl, hos, hrs, hrl, rfl⟩
  obtain ⟨w1, w2, w3, rfl, hw1, hw2, hw3⟩ := rows3 hrl
  have k1 := hrs w1 (by simp)
  have k2 := hrs w2 (by simp)
  have k3 := hrs w3 (by simp)
  obtain ⟨gb, gc, cur, hov, hob, hcur⟩ := OS.val3 hos (e := 27)
  rw [hov, hob]
  have hg3 := hg.mono hI3
  refine CallOb.mk [] _ _ (.refl _) (hg3.calls 0 (some_calls0 ..)) ?_
  rintro v I4 M4 hI4 ⟨-, x4, rfl, hx4, hl4, rfl⟩
  have hg4 := hg3.mono hI4
  have k1 := k1.mono hI4
  have k2 := k2.mono hI4
  have k3 := k3.mono hI4
  refine AllocOb.mk fun b1 hb1 hbM1 => ?_
  refine CallOb.mk [intRow b1 [1]] _ _ (.refl _) (ints_is hx4 hl4 true rfl) ?_
  rintro v J5 M5 - ⟨rfl, rfl, rfl⟩
  refine GuardOb.mk (fun _ => ?_) (fun h => by simp at h)
  refine CallOb.mk [] _ _ (.refl _) (hg4.from 0 (some_from0 ..)) ?_
  rintro v I6 M6 hI6 ⟨-, x6, rfl, hx6, hl6, rfl⟩
  have hg6 := hg4.mono hI6
  have k1 := k1.mono hI6
  have k2 := k2.mono hI6
  have k3 := k3.mono hI6
  refine AllocOb.mk fun b2 hb2 hbM2 => ?_
  refine CallOb.mk [intRow b2 [0, 1, 2]] _ _ (.refl _) (ints_is hx6 hl6 true rfl) ?_
  rintro v J7 M7 - ⟨rfl, rfl, rfl⟩
  refine GuardOb.mk (fun _ => ?_) (fun h => by simp at h)
  refine CallOb.mk [] _ _ (.refl _) (hg6.self 0 (some_self0 ..)) ?_
  rintro v I8 M8 - ⟨rfl, hI8, rfl⟩
  have hg8 := hg6.mono hI8
  have k1 := k1.mono hI8
  have k2 := k2.mono hI8
  have k3 := k3.mono hI8
  refine GuardOb.mk (fun _ => ?_) (fun h => by simp at h)
  refine CallOb.mk [] _ _ (.refl _) (hg8.self 1 (some_self1 ..)) ?_
  rintro v I9 M9 - ⟨rfl, hI9, rfl⟩
  have hg9 := hg8.mono hI9
  have k1 := k1.mono hI9
  have k2 := k2.mono hI9
  have k3 := k3.mono hI9
  refine GuardOb.mk (fun _ => ?_) (fun h => by simp at h)
  refine CallOb.mk [] _ _ (.refl _) (hg9.self 2 (some_self2 ..)) ?_
  rintro v I10 M10 - ⟨rfl, hI10, rfl⟩
  have hg10 := hg9.mono hI10
  have k1 := k1.mono hI10
  have k2 := k2.mono hI10
  have k3 := k3.mono hI10
  refine GuardOb.mk (fun _ => ?_) (fun h => by simp at h)
  refine CallOb.mk [] _ _ (.refl _) (hg10.self 3 (some_self3 ..)) ?_
  rintro v I11 M11 - ⟨rfl, hI11, rfl⟩
  have hg11 := hg10.mono hI11
  have k1 := k1.mono hI11
  have k2 := k2.mono hI11
  have k3 := k3.mono hI11
  refine GuardOb.mk (fun _ => ?_) (fun h => by simp at h)
  refine CallOb.mk [] _ _ (.refl _) (hg11.useless (some_useless ..)) ?_
  rintro v I12 M12 hI12 ⟨-, x12, rfl, hx12, hl12, rfl⟩
  have hg12 := hg11.mono hI12
  have k1 := k1.mono hI12
  have k2 := k2.mono hI12
  have k3 := k3.mono hI12
  refine AllocOb.mk fun b3 hb3 hbM3 => ?_
  refine CallOb.mk [intRow b3 [3]] _ _ (.refl _) (ints_is hx12 hl12 true rfl) ?_
  rintro v J13 M13 - ⟨rfl, rfl, rfl⟩
  refine GuardOb.mk (fun _ => ?_) (fun h => by simp at h)
  refine GuardOb.mk (fun _ => ?_) (fun h => by simp at h)
  refine IdxOb.mk ⟨gb, 0, none⟩ 0 rfl rfl (by decide) ?_
  refine LoadOb.mk _ (cell3 (T := 27) (b := gb) (cur := cur) (by simp) hcur).2.1 ?_
  refine AllocOb.mk fun b4 hb4 hbM4 => ?_
  refine CallOb.mk [intRow b4 [0]] _ _ (.refl _) (ints_is k1 hw1 true rfl) ?_
  rintro v J14 M14 - ⟨rfl, rfl, rfl⟩
  refine GuardOb.mk (fun _ => ?_) (fun h => by simp at h)
  refine IdxOb.mk ⟨gb, 0, none⟩ 1 rfl rfl (by decide) ?_
  refine LoadOb.mk _ (cell3 (T := 27) (b := gb) (cur := cur) (by simp) hcur).2.2.1 ?_
  refine AllocOb.mk fun b5 hb5 hbM5 => ?_
  refine CallOb.mk [intRow b5 [1, 2]] _ _ (.refl _) (ints_is k2 hw2 true rfl) ?_
  rintro v J15 M15 - ⟨rfl, rfl, rfl⟩
  refine GuardOb.mk (fun _ => ?_) (fun h => by simp at h)
  refine IdxOb.mk ⟨gb, 0, none⟩ 2 rfl rfl (by decide) ?_
  refine LoadOb.mk _ (cell3 (T := 27) (b := gb) (cur := cur) (by simp) hcur).2.2.2 ?_
  refine AllocOb.mk fun b6 hb6 hbM6 => ?_
  refine CallOb.mk [intRow b6 [3]] _ _ (.refl _) (ints_is k3 hw3 true rfl) ?_
  rintro v J16 M16 - ⟨rfl, rfl, rfl⟩
  exact ⟨_, _, .sub (List.nil_sublist _) .refl, rfl, fun b o h => hI12 _ _ (hI11 _ _ (hI10 _ _ (hI9 _ _ (hI8 _ _ (hI6 _ _ (hI4 _ _ (hI3 _ _ (hIg _ _ (hI1 _ _ h))))))))), rfl⟩
end Go.V

/-
  Plain: a set's bytes, in order, are those whose bits stand; its runs.
-/
set_option linter.unusedVariables false
set_option linter.unusedSimpArgs false
namespace Go.V
open Go Go.Proofs

theorem filter_first {p : Nat → Bool} {k : Nat} : ∀ {l : List Nat}, l.Pairwise (· < ·) → k ∈ l → p k = true → (∀ j ∈ l, j < k → p j = false) → l.filter p = k :: l.filter fun j => p j && !decide (j = k)
  | x :: xs, hs, hk, hp, hb => by
    obtain ⟨h1, h2⟩ := List.pairwise_cons.1 hs
    rcases List.mem_cons.1 hk with rfl | hk
    · have e : (k :: xs).filter (fun j => p j && !decide (j = k)) = xs.filter p := by
        rw [List.filter_cons]
        simp
        apply List.filter_congr
        intro j hj
        have := h1 j hj
        have : ¬ j = k := by omega
        simp [this]
      rw [e, List.filter_cons, hp]
      rfl
    · have hx := h1 k hk
      have hpx := hb x (by simp) hx
      rw [List.filter_cons, hpx, List.filter_cons, hpx]
      simp only [Bool.false_and, Bool.false_eq_true, if_false]
      exact filter_first h2 hk hp fun j hj hjk => hb j (by simp [hj]) hjk

theorem low_bits {n : Nat} (h0 : n ≠ 0) (h : n < 2 ^ 64) : ∃ k, k < 64 ∧ n &&& (2 ^ 64 - n) = 2 ^ k ∧ n.testBit k = true ∧ (∀ j, j < k → n.testBit j = false) ∧ ∀ j, (n &&& (n - 1)).testBit j = (n.testBit j && !decide (j = k)) := by
  obtain ⟨m, hm, hk⟩ := Lib.ctzFrom_spec 64 n (by omega) h
  generalize Lib.ctzFrom 64 n = k at hm hk
  have e1 : n = 2 ^ (k + 1) * m + 2 ^ k := by
    rw [hm, Nat.pow_succ, Nat.mul_add, Nat.mul_one, Nat.mul_assoc]
  have hp := Nat.two_pow_pos k
  have e2 : n - 1 = 2 ^ (k + 1) * m + (2 ^ k - 1) := by omega
  have hb1 : 2 ^ k < 2 ^ (k + 1) := by rw [Nat.pow_succ]; omega
  have t1 : ∀ j, n.testBit j = if j < k + 1 then decide (k = j) else m.testBit (j - (k + 1)) := fun j => by
    rw [e1, Nat.testBit_two_pow_mul_add _ hb1, Nat.testBit_two_pow]
  have t2 : ∀ j, (n - 1).testBit j = if j < k + 1 then decide (j < k) else m.testBit (j - (k + 1)) := fun j => by
    rw [e2, Nat.testBit_two_pow_mul_add _ (by omega), Nat.testBit_two_pow_sub_one]
  refine ⟨k, hk, ?_, ?_, fun j hj => ?_, fun j => ?_⟩
  · have := Lib.and_neg 64 k m (by rw [← hm]; exact h)
    rwa [← hm] at this
  · rw [t1]; simp
  · rw [t1, if_pos (by omega)]
    simp
    omega
  · rw [Nat.testBit_and, t1, t2]
    by_cases hj : j < k + 1
    · rw [if_pos hj, if_pos hj]
      by_cases hjk : j = k
      · subst hjk; simp
      · have : ¬ k = j := fun e => hjk e.symm
        simp [this]
    · rw [if_neg hj, if_neg hj]
      have : ¬ j = k := by omega
      simp [this]

theorem debL_at : ∀ k : Fin 64, debL.getD (2 ^ k.val * 285870213051353865 % 18446744073709551616 / 288230376151711744) 0 = (k.val : Int) := by decide +kernel

theorem tz_low {n k : Nat} (h0 : n ≠ 0) (h : n < 2 ^ 64) (hk : k < 64) (hl : n &&& (2 ^ 64 - n) = 2 ^ k) : tz64 debL (n : Int) = k := by
  have e0 : decide ((n : Int) = 0) = false := decide_eq_false (by omega)
  have hw : IntKind.u64.wrap (0 - (n : Int)) = ((2 ^ 64 - n : Nat) : Int) := by
    simp [IntKind.wrap, IntKind.signed, IntKind.bits]
    omega
  have ha : andV (n : Int) ((2 ^ 64 - n : Nat) : Int) = ((2 ^ k : Nat) : Int) := by
    rw [andV_nat ⟨by omega, by omega⟩ ⟨by omega, by omega⟩, Int.toNat_natCast, Int.toNat_natCast, hl]
  have ht : (tzA (n : Int)).toNat = 2 ^ k * 285870213051353865 % 18446744073709551616 := by
    unfold tzA
    rw [hw, ha]
    have : ((2 ^ k : Nat) : Int) * 285870213051353865 = ((2 ^ k * 285870213051353865 : Nat) : Int) := by simp
    rw [this]
    generalize 2 ^ k * 285870213051353865 = q
    simp [IntKind.wrap, IntKind.signed, IntKind.bits]
    omega
  unfold tz64
  rw [e0, cond_false, ht]
  exact debL_at ⟨k, hk⟩
theorem nxt_nat {n : Nat} (h0 : n ≠ 0) (h : n < 2 ^ 64) : nxtV (n : Int) = ((n &&& (n - 1) : Nat) : Int) := by
  have hs : u64ok ((n : Int) - 1) := ⟨by omega, by omega⟩
  unfold nxtV
  rw [wrap_u64_id hs, andV_nat ⟨by omega, by omega⟩ hs]
  congr 2
  omega
theorem bits_eq (i : Nat) (hi : i < 4) : ∀ (f n : Nat), n < 2 ^ 64 → ((List.range 64).filter n.testBit).length ≤ f → bitsL debL i f (n : Int) = ((List.range 64).filter n.testBit).map fun j => UInt8.ofNat (i * 64 + j)
  | 0, n, h, hf => by
    rw [List.eq_nil_of_length_eq_zero (Nat.le_zero.1 hf)]
    rfl
  | f + 1, n, h, hf => by
    unfold bitsL
    by_cases h0 : n = 0
    · subst h0
      simp
    · have e0 : decide ((n : Int) = 0) = false := decide_eq_false (by omega)
      obtain ⟨k, hk, hl, hb, hlt, hnx⟩ := low_bits h0 h
      have hff : (List.range 64).filter n.testBit = k :: (List.range 64).filter (n &&& (n - 1)).testBit := by
        rw [filter_first List.pairwise_lt_range (List.mem_range.2 hk) hb fun j _ hj => hlt j hj]
        congr 1
        apply List.filter_congr
        intro j _
        rw [hnx]
      rw [hff] at hf ⊢
      have hle : n &&& (n - 1) ≤ n - 1 := Nat.and_le_right
      rw [e0, cond_false, nxt_nat h0 h, bits_eq i hi f _ (by omega) (by simp at hf; omega), List.map_cons]
      congr 1
      unfold byteOf
      rw [tz_low h0 h hk hl]
      have : IntKind.u8.wrap ((i : Int) * 64 + (k : Int)) = ((i * 64 + k : Nat) : Int) := by
        simp [IntKind.wrap, IntKind.signed, IntKind.bits]
        omega
      rw [this, Int.toNat_natCast]

/-- A set's bytes: those that are in it. -/
theorem each_eq {a b c d : Int} (hws : ∀ x ∈ [a, b, c, d], u64ok x) : eachFrom debL 0 [a, b, c, d] = ((List.range 256).filter (hasR [a, b, c, d])).map UInt8.ofNat := by
  have nat : ∀ x ∈ [a, b, c, d], ∃ n : Nat, x = n ∧ n < 2 ^ 64 := fun x hx => by
    have := hws x hx
    obtain ⟨n, rfl⟩ := Int.eq_ofNat_of_zero_le this.1
    exact ⟨n, rfl, by have := this.2; omega⟩
  obtain ⟨a, rfl, ha⟩ := nat a (by simp)
  obtain ⟨b, rfl, hb⟩ := nat b (by simp)
  obtain ⟨c, rfl, hc⟩ := nat c (by simp)
  obtain ⟨d, rfl, hd⟩ := nat d (by simp)
  have len : ∀ n : Nat, ((List.range 64).filter n.testBit).length ≤ 64 := fun n => by
    have := List.length_filter_le n.testBit (List.range 64)
    simpa using this
  unfold eachFrom eachFrom eachFrom eachFrom eachFrom
  rw [bits_eq 0 (by decide) 64 a ha (len _), bits_eq (0 + 1) (by decide) 64 b hb (len _), bits_eq (0 + 1 + 1) (by decide) 64 c hc (len _), bits_eq (0 + 1 + 1 + 1) (by decide) 64 d hd (len _)]
  have hr : List.range 256 = (List.range 64).map (0 * 64 + ·) ++ ((List.range 64).map (1 * 64 + ·) ++ ((List.range 64).map (2 * 64 + ·) ++ (List.range 64).map (3 * 64 + ·))) := by decide +kernel
  have part : ∀ (i : Nat) (n : Nat), i < 4 → ([(a : Int), b, c, d].getD i 0) = n → (((List.range 64).map (i * 64 + ·)).filter (hasR [(a : Int), b, c, d])) = ((List.range 64).filter n.testBit).map (i * 64 + ·) := fun i n hi hn => by
    rw [List.filter_map]
    congr 1
    apply List.filter_congr
    intro j hj
    have hj := List.mem_range.1 hj
    simp only [Function.comp, hasR]
    rw [show (i * 64 + j) / 64 = i by omega, show (i * 64 + j) % 64 = j by omega, hn, Int.toNat_natCast]
  rw [hr]
  simp only [List.filter_append, List.map_append]
  rw [part 0 a (by decide) rfl, part 1 b (by decide) rfl, part 2 c (by decide) rfl, part 3 d (by decide) rfl]
  simp only [List.map_map, List.append_nil]
  rfl
end Go.V

/-
  Plain: a set's runs, by its marks; the text of a class is the document's (ClsOk).
-/
set_option linter.unusedVariables false
set_option linter.unusedSimpArgs false
namespace Go.V
open Go Go.Proofs

def bytesTo (p : Nat → Bool) (n : Nat) : List UInt8 := ((List.range n).filter p).map UInt8.ofNat
theorem bytesTo_succ (p : Nat → Bool) (n : Nat) : bytesTo p (n + 1) = bytesTo p n ++ (bif p n then [UInt8.ofNat n] else []) := by
  unfold bytesTo
  rw [List.range_succ, List.filter_append, List.map_append]
  cases h : p n <;> simp [h]
theorem runStep_last (l : List (UInt8 × UInt8)) (b : UInt8) : ((runStep l b).getLast?).map (·.2) = some b := by
  unfold runStep
  split
  · rename_i p h
    cases decide ((p.2.toNat : Int) + 1 = b.toNat) <;> simp
  · rfl
theorem runsOf_last (l : List UInt8) : ((runsOf l).getLast?).map (·.2) = l.getLast? := by
  rcases List.eq_nil_or_concat l with h | ⟨m, b, h⟩
  · subst h; rfl
  · rw [h, List.concat_eq_append, runsOf_snoc, runStep_last]
    simp
theorem bytesTo_last (p : Nat → Bool) : ∀ (n : Nat), n ≤ 256 → ∀ x, (bytesTo p n).getLast? = some x → ∃ j, j < n ∧ p j = true ∧ x.toNat = j
  | 0, _, x, h => by simp [bytesTo] at h
  | n + 1, hn, x, h => by
    rw [bytesTo_succ] at h
    cases hp : p n with
    | true =>
      rw [hp, cond_true] at h
      simp at h
      exact ⟨n, by omega, hp, by rw [← h]; exact u8nat (by omega)⟩
    | false =>
      rw [hp, cond_false, List.append_nil] at h
      obtain ⟨j, h1, h2, h3⟩ := bytesTo_last p n (by omega) x h
      exact ⟨j, by omega, h2, h3⟩
/-- A run begins where nothing stands just ahead. -/
theorem run_start (p : Nat → Bool) {n : Nat} (hn : n < 256) (hp : n = 0 ∨ p (n - 1) = false) : runStep (runsOf (bytesTo p n)) (UInt8.ofNat n) = runsOf (bytesTo p n) ++ [(UInt8.ofNat n, UInt8.ofNat n)] := by
  unfold runStep
  split
  · rename_i q h
    have hl := runsOf_last (bytesTo p n)
    rw [h] at hl
    obtain ⟨j, h1, h2, h3⟩ := bytesTo_last p n (by omega) q.2 hl.symm
    have hne : decide ((q.2.toNat : Int) + 1 = (UInt8.ofNat n).toNat) = false := by
      rw [u8nat hn, h3]
      apply decide_eq_false
      intro e
      have : j = n - 1 := by omega
      rcases hp with hp | hp
      · omega
      · rw [this, hp] at h2
        cases h2
    rw [hne]
    rfl
  · rename_i h
    have : runsOf (bytesTo p n) = [] := List.getLast?_eq_none_iff.1 h
    rw [this]
    rfl
theorem run_grow (p : Nat → Bool) {n : Nat} (hs : n = 0 ∨ p (n - 1) = false) : ∀ t, n ≤ t → t < 256 → (∀ j, n ≤ j → j ≤ t → p j = true) → runsOf (bytesTo p (t + 1)) = runsOf (bytesTo p n) ++ [(UInt8.ofNat n, UInt8.ofNat t)] := by
  intro t
  induction t with
  | zero =>
    intro h1 h2 h3
    have : n = 0 := by omega
    subst this
    rw [bytesTo_succ, h3 0 (Nat.le_refl _) (Nat.le_refl _), cond_true, runsOf_snoc]
    exact run_start p h2 hs
  | succ t ih =>
    intro h1 h2 h3
    rw [bytesTo_succ, h3 (t + 1) h1 (Nat.le_refl _), cond_true, runsOf_snoc]
    by_cases hn : n = t + 1
    · subst hn
      exact run_start p h2 hs
    · rw [ih (by omega) (by omega) (fun j a b => h3 j a (by omega))]
      unfold runStep
      rw [List.getLast?_concat]
      simp only
      have : decide (((UInt8.ofNat t).toNat : Int) + 1 = (UInt8.ofNat (t + 1)).toNat) = true := by
        rw [u8nat (by omega), u8nat (by omega)]
        simp
      rw [this, cond_true, List.dropLast_concat]
theorem endR_run (p : Nat → Bool) : ∀ (f t : Nat), t ≤ endR p f t ∧ endR p f t ≤ t + f ∧ (∀ j, t < j → j ≤ endR p f t → p j = true) ∧ (endR p f t < t + f → p (endR p f t + 1) = false)
  | 0, t => ⟨Nat.le_refl _, Nat.le_refl _, fun j a b => by simp [endR] at b; omega, fun h => by simp [endR] at h⟩
  | f + 1, t => by
    unfold endR
    cases h : p (t + 1) with
    | false => exact ⟨Nat.le_refl _, by simp, fun j a b => by simp at b; omega, fun _ => h⟩
    | true =>
      obtain ⟨h1, h2, h3, h4⟩ := endR_run p f (t + 1)
      refine ⟨by simp; omega, by simp; omega, fun j a b => ?_, fun q => ?_⟩
      · simp at b
        by_cases e : j = t + 1
        · rw [e]; exact h
        · exact h3 j (by omega) b
      · simp at q ⊢
        exact h4 (by omega)
/-- How far the runs go that begin below n. -/
def curTo (p : Nat → Bool) (n : Nat) : Nat := bif decide (0 < n) && p (n - 1) then endR p (256 - n) (n - 1) + 1 else n
theorem runs_to (p : Nat → Bool) : ∀ n, n ≤ 256 → runsR p n = runsOf (bytesTo p (curTo p n))
  | 0, _ => rfl
  | n + 1, hn => by
    have ih := runs_to p n (by omega)
    have hc1 : curTo p (n + 1) = bif p n then endR p (255 - n) n + 1 else n + 1 := by
      unfold curTo
      simp only [Nat.add_sub_cancel, show 256 - (n + 1) = 255 - n by omega]
      have : decide (0 < n + 1) = true := decide_eq_true (by omega)
      rw [this, Bool.true_and]
    rw [runsR_succ, hc1, ih]
    cases hp : p n with
    | false =>
      have hs : startR p n = false := by rw [startR, hp]; rfl
      have hcn : curTo p n = n := by
        unfold curTo
        cases hb : decide (0 < n) && p (n - 1) with
        | false => rfl
        | true =>
          simp at hb
          have e : endR p (256 - n) (n - 1) = n - 1 := by
            rw [show 256 - n = (255 - n) + 1 by omega, endR, show n - 1 + 1 = n by omega, hp]
            rfl
          rw [cond_true, e]
          omega
      rw [hs, cond_false, List.append_nil, hcn, cond_false, bytesTo_succ, hp]
      simp
    | true =>
      rw [cond_true]
      cases hb : decide (0 < n) && p (n - 1) with
      | true =>
        have hb' := hb
        simp at hb'
        have hs : startR p n = false := by
          have : decide (n = 0) = false := decide_eq_false (by omega)
          rw [startR, hp, hb'.2, this]
          rfl
        have hcn : curTo p n = endR p (255 - n) n + 1 := by
          unfold curTo
          rw [hb, cond_true, show 256 - n = (255 - n) + 1 by omega, endR, show n - 1 + 1 = n by omega, hp, cond_true]
        rw [hs, cond_false, List.append_nil, hcn]
      | false =>
        have hst : n = 0 ∨ p (n - 1) = false := by
          simp at hb
          by_cases h : n = 0
          · exact .inl h
          · exact .inr (hb (by omega))
        have hs : startR p n = true := by
          rw [startR, hp]
          rcases hst with h | h
          · simp [h]
          · simp [h]
        have hcn : curTo p n = n := by
          unfold curTo
          rw [hb]
          rfl
        obtain ⟨h1, h2, h3, _⟩ := endR_run p (255 - n) n
        rw [hs, cond_true, hcn, run_grow p hst _ h1 (by omega) fun j a b => by
          by_cases e : j = n
          · rw [e]; exact hp
          · exact h3 j (by omega) b]
theorem runs_eq (p : Nat → Bool) : runsR p 256 = runsOf (bytesTo p 256) := by
  rw [runs_to p 256 (Nat.le_refl _)]
  congr 2
  unfold curTo
  simp [endR]

/-! ### A class's text -/
theorem runR_eq {x y : UInt8} (h : x.toNat ≤ y.toNat) : runR (x, y) = runB (x, y) := by
  have hx := x.toNat_lt
  have hy := y.toNat_lt
  have e1 : IntKind.u8.wrap ((y.toNat : Int) - x.toNat) = (y.toNat : Int) - x.toNat := by
    simp [IntKind.wrap, IntKind.signed, IntKind.bits]
    omega
  unfold runR runB
  simp only
  rw [e1]
  have d1 : decide ((x.toNat : Int) + 1 < y.toNat) = decide (1 < (y.toNat : Int) - x.toNat) := decide_eq_decide.2 (by omega)
  have d2 : decide ((x.toNat : Int) < y.toNat) = !decide ((y.toNat : Int) = x.toNat) := by
    rw [← decide_not]
    exact decide_eq_decide.2 (by omega)
  rw [d1, d2]
theorem runs_pair (p : Nat → Bool) (n : Nat) (hn : n ≤ 256) : ∀ q ∈ runsR p n, q.1.toNat ≤ q.2.toNat := by
  intro q hq
  obtain ⟨i, hi, rfl⟩ := List.mem_map.1 hq
  have hi := List.mem_range.1 (List.mem_filter.1 hi).1
  obtain ⟨h1, h2, _⟩ := endR_run p (255 - i) i
  simp only
  rw [u8nat (by omega), u8nat (by omega)]
  exact h1
theorem isAll_eq {a b c d : Int} (hws : ∀ x ∈ [a, b, c, d], u64ok x) : isAll (runsR (hasR [a, b, c, d]) 256) = (a == notV 0 && (b == notV 0 && (c == notV 0 && d == notV 0))) := by
  have hn0 : notV 0 = 18446744073709551615 := by decide
  rw [Bool.eq_iff_iff]
  simp only [Bool.and_eq_true, beq_iff_eq, hn0]
  constructor
  · intro h
    have hall : ∀ n, n < 256 → hasR [a, b, c, d] n = true := by
      generalize hp : hasR [a, b, c, d] = p at h
      match hr : runsR p 256, h with
      | [q], h =>
        simp [isAll] at h
        have hq : q ∈ runsR p 256 := by rw [hr]; simp
        obtain ⟨i, hi, hqe⟩ := List.mem_map.1 hq
        have hst := (List.mem_filter.1 hi).2
        have hi := List.mem_range.1 (List.mem_filter.1 hi).1
        obtain ⟨h1, h2, h3, _⟩ := endR_run p (255 - i) i
        have hq1 : q.1.toNat = i := by rw [← hqe]; exact u8nat (by omega)
        have hq2 : q.2.toNat = endR p (255 - i) i := by rw [← hqe]; exact u8nat (by omega)
        have hi0 : i = 0 := by have := h.1; omega
        have he : endR p (255 - i) i = 255 := by have := h.2; omega
        intro n hn
        by_cases e : n = 0
        · subst hi0
          rw [e]
          unfold startR at hst
          simp at hst
          exact hst
        · exact h3 n (by omega) (by omega)
    have word : ∀ (i : Nat) (x : Int), i < 4 → [a, b, c, d].getD i 0 = x → u64ok x → x = 18446744073709551615 := fun i x hi hx hu => by
      obtain ⟨n, rfl⟩ := Int.eq_ofNat_of_zero_le hu.1
      have hn : n < 2 ^ 64 := by have := hu.2; omega
      have : n = 2 ^ 64 - 1 := by
        apply Nat.eq_of_testBit_eq
        intro j
        rw [Nat.testBit_two_pow_sub_one]
        by_cases hj : j < 64
        · have := hall (i * 64 + j) (by omega)
          unfold hasR at this
          rw [show (i * 64 + j) / 64 = i by omega, show (i * 64 + j) % 64 = j by omega, hx, Int.toNat_natCast] at this
          rw [this]
          simp [hj]
        · rw [Nat.testBit_lt_two_pow (Nat.lt_of_lt_of_le hn (Nat.pow_le_pow_right (by omega) (by omega)))]
          simp [hj]
      omega
    exact ⟨word 0 a (by decide) rfl (hws a (by simp)), word 1 b (by decide) rfl (hws b (by simp)), word 2 c (by decide) rfl (hws c (by simp)), word 3 d (by decide) rfl (hws d (by simp))⟩
  · rintro ⟨rfl, rfl, rfl, rfl⟩
    have : isAll (runsR (hasR [18446744073709551615, 18446744073709551615, 18446744073709551615, 18446744073709551615]) 256) = true := by kernel_rfl
    exact this
theorem clsOk : ClsOk debL := fun a b c d hws => by
  unfold classR classB
  rw [isAll_eq hws]
  congr 1
  congr 1
  congr 1
  rw [each_eq hws, runs_eq]
  have h := runs_pair (hasR [a, b, c, d]) 256 (Nat.le_refl _)
  rw [runs_eq] at h
  unfold bytesTo at h ⊢
  generalize runsOf _ = rs at *
  clear hws
  induction rs with
  | nil => rfl
  | cons q rs ih =>
    rw [List.flatMap_cons, List.flatMap_cons, ih fun q hq => h q (by simp [hq])]
    congr 1
    exact runR_eq (x := q.1) (y := q.2) (h q (by simp))
end Go.V

/-
  Walk: bonsailaw12.ReachTells.
-/
set_option linter.unusedVariables false
set_option linter.unusedSimpArgs false
namespace Go.V
open Go Go.Proofs

theorem GrSmall.fit {I : GH} {g : Gr} (h : GrSmall g) (hg : g.ok I) : GFit g := by
  refine ⟨by have := h.n; omega, fun d hd => ?_⟩
  have hs := h.ds d hd
  have hn := hs.n
  refine ⟨fun nd hnd => by have := (hs.ns nd hnd).kn; omega, by omega, by omega⟩

/-- One number of an own row is written over. -/
theorem OS.storeI {M : List Blk} {os : OS} {l : List Int} {e : Nat} (h : os.ok 1 (l.map (.int .i64 ·))) {i : Nat} (hi : i < l.length) {v : Int} (pre post : List Blk) (hM : M = pre ++ (os.blk e ++ post)) {K : Addr → List Blk → Prop}
    (k : ∀ (ad : Addr) (os' : OS), os'.val = os.val → os'.ok 1 ((l.set i v).map (.int .i64 ·)) → K ad (pre ++ (os'.blk e ++ post))) : IdxOb (os.a.map fun g => (⟨g, 0, none⟩ : Addr)) os.n 1 (i : Int) fun ad => StoreOb M ad [.int .i64 v] (K ad) := by
  have hl0 := h.len1
  obtain ⟨cur', hc, hw⟩ := OS.written h hi v
  obtain ⟨a, n, c, cur⟩ := os
  have hl : n = l.length := hl0
  simp only at hc
  cases a with
  | none => have := (h.nil rfl).1; simp only at this; omega
  | some g =>
    obtain ⟨q1, q2, q3, q4⟩ := h.cap g rfl
    simp only at q1 q2 q3
    refine IdxOb.mk ⟨g, 0, none⟩ i rfl rfl (by omega) ?_
    subst hM
    refine StoreOb.add pre post cur.toArray e rfl ?_ rfl ?_
    · simp only [List.size_toArray, List.length_cons, List.length_nil]
      omega
    · have := k ((⟨g, 0, none⟩ : Addr).add (i * 1)) ⟨some g, n, c, cur'⟩ rfl hw
      rw [hc] at this
      simpa [OS.blk] using this

theorem psB_split {ps : List OS} {k : Nat} (hk : k < ps.length) : psB ps = psB (ps.take k) ++ (ps[k].blk 3 ++ psB (ps.drop (k + 1))) := by
  have e : ps = ps.take k ++ ps[k] :: ps.drop (k + 1) := by rw [← List.drop_eq_getElem_cons hk, List.take_append_drop]
  calc psB ps = psB (ps.take k ++ ps[k] :: ps.drop (k + 1)) := congrArg psB e
    _ = _ := by rw [psB, List.flatMap_append, List.flatMap_cons]; rfl
theorem psB_set {ps : List OS} {k : Nat} (hk : k < ps.length) (o : OS) : psB (ps.set k o) = psB (ps.take k) ++ (o.blk 3 ++ psB (ps.drop (k + 1))) := by
  rw [List.set_eq_take_append_cons_drop, if_pos hk]
  simp [psB]
theorem PsOk.set {ps : List OS} {ls : List (List Int)} (h : PsOk ps ls) {k : Nat} {o : OS} {l : List Int} (ho : o.ok 1 (l.map (.int .i64 ·))) : PsOk (ps.set k o) (ls.set k l) := by
  refine ⟨by simp [h.len], fun j hj hj' => ?_⟩
  simp only [List.getElem_set]
  simp only [List.length_set] at hj hj'
  split
  · exact ho
  · exact h.ok j hj hj'
theorem map_set_val {ps : List OS} {k : Nat} (hk : k < ps.length) {o : OS} (ho : o.val = ps[k].val) : (ps.set k o).map OS.val = ps.map OS.val := by
  rw [List.map_set, ho]
  apply List.ext_getElem (by simp)
  intro j h1 h2
  simp only [List.getElem_set, List.getElem_map]
  split
  · rename_i h; subst h; rfl
  · rfl
theorem map_flat1 {α : Type} (f : α → Value) (l : List α) : l.flatMap (fun x => [f x]) = l.map f := by
  induction l with
  | nil => rfl
  | cons x l ih => simp only [List.flatMap_cons, ih, List.map_cons, List.cons_append, List.nil_append]
theorem OS.rowV {α : Type} (f : α → Value) {I : GH} {M : List Blk} {os : OS} {l : List α} {e : Nat} (h : os.ok 1 (l.map f)) (hM : ∀ x ∈ os.blk e, x ∈ M) :
    l.length = os.n ∧ ∀ j (hj : j < l.length), ∃ ad, (os.a.map fun g => (⟨g, 0, none⟩ : Addr)) = some ad ∧ Rd I M (ad.add (j * 1)) 1 [f l[j]] :=
  ⟨by have := h.len; simpa using this, fun j hj => OS.ok.row (f := fun x => [f x]) (fun _ => rfl) (by decide) (by rw [map_flat1]; exact h) hM hj⟩

set_option maxRecDepth 100000 in
set_option maxHeartbeats 16000000 in
theorem reachTells_V {I : GH} (hT : Tabs I debL) {g : Gr} (hg : GrW I g) {i : Int} (hi : i64ok i) : SpecE Tryz.prog 3 [g.val, .int .i64 i] I [] fun v I' M' => v = .bool true := by
  refine specE_of_V [] TryzEOK Tryz.func3 rfl rfl rfl ?_
  intro B h0
  refine CallOb.mk [] [] _ (.refl _) (long_spec hg) ?_
  rintro v J N - ⟨⟨r, rfl, hsm⟩, hJ, rfl⟩
  subst J
  refine CondOb.mk (fun h => ?_) (fun h => ?_)
  · refine CallOb.mk [] [] _ (.refl _) (works_spec hT) ?_
    rintro v J N - ⟨rfl, hJ, rfl⟩
    exact ⟨_, _, .refl, rfl⟩
  have hs := hsm h
  have hok := hg.ok hs
  have hgf := hs.fit hok
  have hgn := hok.n
  have hn40 : g.n ≤ 1099511627776 := by have := hs.n; omega
  refine LoopOb.inv (ι := Nat × GH) (fun x => { fl := [(1, .val (.int .i64 i)), (2, .ref 2 0), (5, .val (.int .i64 x.1))], cl := [(2, [.slice g.a g.n g.c])], gi := x.2 }) (fun x => x.1 ≤ 2 ∧ ∀ b o, I b = some o → x.2 b = some o) (fun x => 2 - x.1) ?_ ?_
  · exact ⟨(0, I), ⟨by simp, fun _ _ h => h⟩, .refl, .cons .refl (.cons .refl (.cons .refl .nil)), .cons rfl .nil⟩
  rintro ⟨rd, I0⟩ ⟨hrd, hI0⟩
  simp only at hrd hI0
  have hT0 := hT.mono hI0
  have hok0 := hok.mono hI0
  refine CondOb.mk (fun h => ?_) (fun h => ?_)
  · have hrl : rd < 2 := by simp at h; omega
    refine CodeOb.draw TryzEOK rfl rfl rfl ?_
    refine PCallOb.mk _ (Calls_own hT0 hok0 hn40 i) ?_
    rintro v J1 N1 hJ1 ⟨-, o1, rfl, ho1, rfl⟩
    refine PCallOb.mk _ (From_own (hT0.mono hJ1) (hok0.mono hJ1) hn40 i) ?_
    rintro v J2 N2 hJ2 ⟨-, o2, rfl, ho2, rfl⟩
    refine PCallOb.mk _ (Useless_spec ((hT0.mono hJ1).mono hJ2) ((hok0.mono hJ1).mono hJ2) hn40) ?_
    rintro v J3 N3 hJ3 ⟨-, u3, rfl, hu3, hu3l, rfl⟩
    have hT3 := ((hT0.mono hJ1).mono hJ2).mono hJ3
    have hok3 := ((hok0.mono hJ1).mono hJ2).mono hJ3
    refine CallOb.mk [] _ _ (.refl _) (Rounds_own hT3 hok3 hn40) ?_
    rintro v J4 N4 hJ4 ⟨-, o4, ps, rfl, ho4, hps, rfl⟩
    have hok4 := hok3.mono hJ4
    refine CallOb.mk [] _ _ (.refl _) (RRounds_spec clsOk hok4 hgf) ?_
    rintro v J5 N5 hJ5 ⟨-, o5, rs, rfl, ho5, hrs, hrsl, rfl⟩
    have hok5 := hok4.mono hJ5
    have hs2500 := hs.n
    have hb1 : o1.n ≤ 140737488355328 := by
      have h1 := ho1.len1
      rw [← callsR_eq debL hgn i] at h1
      have h2 := pickL_len (callR g i.toNat) g.n
      unfold callsR at h1
      cases ht : thereR debL g i <;> rw [ht] at h1 <;> simp at h1 <;> omega
    refine CodeOb.draw TryzEOK rfl rfl rfl ?_
    refine PCallOb.mk _ (RCalls_spec clsOk hok5 hgf i) ?_
    rintro v J6 N6 - ⟨hJ6, o6, rfl, ho6, rfl⟩
    subst J6
    have hb6 : o6.n ≤ 140737488355328 := by
      have h1 := ho6.len1
      have h2 := pickL_len (callR g i.toNat) g.n
      unfold callsR at h1
      cases ht : thereR debL g i <;> rw [ht] at h1 <;> simp at h1 <;> omega
    have h5 : ∀ x ∈ o1.blk 3, x ∈ o6.blk 3 ++ (o5.blk 27 ++ (((o4.blk 27 ++ psB ps)) ++ ([] ++ (o2.blk 3 ++ (o1.blk 3 ++ []))))) := fun x hx => by simp [hx]
    refine CallOb.mk (o6.blk 3 ++ (o5.blk 27 ++ (((o4.blk 27 ++ psB ps)) ++ ([] ++ (o2.blk 3 ++ (o1.blk 3 ++ [])))))) [] _ (.of_eq (List.append_nil _).symm) (ints_gen (OS.intsAt (e := 3) ho1 hb1 h5) (OS.intsAt (e := 3) ho6 hb6 (fun x hx => by simp [hx]))) ?_
    rintro v J7 N7 - ⟨rfl, hJ7, rfl⟩
    subst J7
    refine GuardOb.mk (fun _ => ?_) (fun e => by simp [callsR_eq debL hgn i] at e)
    have hb2 : ∀ o : OS, o.ok 1 ((fromG debL g i).map (.int .i64 ·)) → o.n ≤ 140737488355328 := fun o ho => by
      have h1 := ho.len1
      have : (fromG debL g i).length ≤ g.n := by
        unfold fromG
        show (bif thereR debL g i then _ else _ : List Int).length ≤ _
        cases ht : thereR debL g i with
        | false => simp
        | true =>
          obtain ⟨q1, q2⟩ := there_in ht
          have hm : mayG debL g = 0 := by unfold thereR at ht; simp at ht; exact ht.2
          rw [cond_true, row_pick hgn hm true q2]
          exact pickL_len _ _
      omega
    refine PCallOb.mk _ (RFrom_spec clsOk hok5 hgf i) ?_
    rintro v J8 N8 hJ8 ⟨-, o7, rfl, ho7, rfl⟩
    have h6 : ∀ x ∈ o2.blk 3, x ∈ o7.blk 3 ++ (o6.blk 3 ++ (o5.blk 27 ++ (((o4.blk 27 ++ psB ps)) ++ ([] ++ (o2.blk 3 ++ (o1.blk 3 ++ []))))) ++ []) := fun x hx => by simp [hx]
    refine CallOb.mk (o7.blk 3 ++ (o6.blk 3 ++ (o5.blk 27 ++ (((o4.blk 27 ++ psB ps)) ++ ([] ++ (o2.blk 3 ++ (o1.blk 3 ++ []))))) ++ [])) [] _ (.of_eq (List.append_nil _).symm) (ints_gen (OS.intsAt (e := 3) ho2 (hb2 _ ho2) h6) (OS.intsAt (e := 3) ho7 (hb2 _ ho7) (fun x hx => by simp [hx]))) ?_
    rintro v J9 N9 - ⟨rfl, hJ9, rfl⟩
    subst J9
    refine GuardOb.mk (fun _ => ?_) (fun e => by simp at e)
    refine PCallOb.mk _ (RUseless_spec clsOk (hok5.mono hJ8) hgf) ?_
    rintro v J10 N10 hJ10 ⟨-, o8, rfl, ho8, rfl⟩
    have hu10 : u3.ok J10 := (((hu3.mono hJ4).mono hJ5).mono hJ8).mono hJ10
    have hb8 : o8.n ≤ 140737488355328 := by
      have h1 := ho8.len1
      rw [← hu3l, hu3.n] at h1
      have := hu3.rs.cap.2
      omega
    refine CallOb.mk (o8.blk 3 ++ ((o7.blk 3 ++ (o6.blk 3 ++ (o5.blk 27 ++ (((o4.blk 27 ++ psB ps)) ++ ([] ++ (o2.blk 3 ++ (o1.blk 3 ++ []))))) ++ [])) ++ [])) [] _ (.of_eq (List.append_nil _).symm) (ints_gen (Rw.intsAt hu10) (OS.intsAt (e := 3) ho8 hb8 (fun x hx => by simp [hx]))) ?_
    rintro v J11 N11 - ⟨rfl, hJ11, rfl⟩
    subst J11
    refine GuardOb.mk (fun _ => ?_) (fun e => by simp [hu3l] at e)
    have hlen : o4.n = o5.n := by
      have h1 := ho4.len
      have h2 := ho5.len
      have h3 := hps.len
      have h4 := congrArg List.length hrsl
      simp at h1 h2 h4
      omega
    refine GuardOb.mk (fun _ => ?_) (fun e => by simp [hlen] at e)
    have hok10 := (hok5.mono hJ8).mono hJ10
    have hT10 := (((hT3.mono hJ4).mono hJ5).mono hJ8).mono hJ10
    refine PCallOb.mk _ (Self_spec hT10 hok10 hn40 i) ?_
    rintro v J12 N12 hJ12 ⟨rfl, -, rfl⟩
    refine CallOb.mk [] _ _ (.refl _) (RSelf_spec clsOk (hok10.mono hJ12) hgf i) ?_
    rintro v J13 N13 hJ13 ⟨rfl, -, rfl⟩
    refine CondOb.mk (fun e => by simp at e) (fun _ => ?_)
    have hok13 := (hok10.mono hJ12).mono hJ13
    have hrs13 : ∀ r ∈ rs, r.ok J13 := fun r hr => ((((hrs r hr).mono hJ8).mono hJ10).mono hJ12).mono hJ13
    have hrsl2 : rs.length = ps.length := by have := congrArg List.length hrsl; have := hps.len; simp at *; omega
    have hpsm : ps.length ≤ 9223372036854775807 := by
      have h1 := ho4.len
      simp at h1
      cases ha : o4.a with
      | none => have := (ho4.nil ha).1; omega
      | some q => have := ho4.cap q ha; have h4 : o4.c ≤ 9223372036854775807 := this.2.2.1; omega
    have hrow : ∀ k (hk : k < rs.length) (hk' : k < (roundsG debL g).length), rs[k].l = (roundsG debL g)[k] := fun k hk hk' => by
      have := congrArg (fun z : List (List Int) => z[k]?) hrsl
      simp only [List.getElem?_map] at this
      rw [List.getElem?_eq_getElem hk, List.getElem?_eq_getElem hk'] at this
      simpa using this
    have hI13 : ∀ b o, I b = some o → J13 b = some o := fun b o h => hJ13 _ _ (hJ12 _ _ (hJ10 _ _ (hJ8 _ _ (hJ5 _ _ (hJ4 _ _ (hJ3 _ _ (hJ2 _ _ (hJ1 _ _ (hI0 _ _ h)))))))))
    refine LoopOb.inv (ι := Nat × List OS × List (List Int)) (fun x => { fl := [(1, .val (.int .i64 i)), (2, .ref 2 0), (5, .val (.int .i64 rd)), (6, .val o1.val), (7, .val o2.val), (9, .val o4.val), (10, .val o5.val), (11, .val (.int .i64 x.1))], cl := [(2, [.slice g.a g.n g.c])], gi := J13, mi := o5.blk 27 ++ (o4.blk 27 ++ (psB x.2.1 ++ (o2.blk 3 ++ o1.blk 3))) })
      (fun x => x.1 ≤ ps.length ∧ x.2.1.map OS.val = ps.map OS.val ∧ PsOk x.2.1 x.2.2 ∧ x.2.2.drop x.1 = (roundsG debL g).drop x.1) (fun x => ps.length - x.1) ?_ ?_
    · refine ⟨(0, ps, roundsG debL g), ⟨Nat.zero_le _, rfl, hps, rfl⟩, .sub ?_ .refl, .cons .refl (.cons .refl (.cons .refl (.cons .refl (.cons .refl (.cons .refl (.cons .refl (.cons .refl .nil))))))), .cons rfl .nil⟩
      simp only [List.nil_append, List.append_nil, List.append_assoc]
      exact ((List.sublist_append_right _ _).trans (List.sublist_append_right _ _)).trans (List.sublist_append_right _ _)
    rintro ⟨k, qs, ls⟩ ⟨hk, hval, hqs, hdr⟩
    simp only at hk hval hqs hdr
    have hql : qs.length = ps.length := by have := congrArg List.length hval; simpa using this
    have ho4n : o4.n = ps.length := by have := ho4.len; simp at this; omega
    have hpl := hps.len
    have hlsl := hqs.len
    refine CondOb.mk (fun h => ?_) (fun h => ?_)
    · have hkl : k < ps.length := by have h' := of_decide_eq_true h; omega
      have hkq : k < qs.length := by omega
      have hkr : k < rs.length := by omega
      have hkg : k < (roundsG debL g).length := by omega
      have hkls : k < ls.length := by omega
      have e0 : ls[k] = (roundsG debL g)[k] := by
        have := congrArg (fun z : List (List Int) => z[0]?) hdr
        simpa [List.getElem?_drop, hkls, hkg] using this
      obtain ⟨-, hr4⟩ := OS.rowV (I := J13) (M := o5.blk 27 ++ (o4.blk 27 ++ (psB qs ++ (o2.blk 3 ++ o1.blk 3)))) OS.val (l := qs) (by rw [hval]; exact ho4) (e := 27) (fun x hx => by simp [hx])
      obtain ⟨ad, had, hrd⟩ := hr4 k hkq
      obtain ⟨-, hr5⟩ := OS.rowV (I := J13) (M := o5.blk 27 ++ (o4.blk 27 ++ (psB qs ++ (o2.blk 3 ++ o1.blk 3)))) Rw.val ho5 (e := 27) (fun x hx => by simp [hx])
      obtain ⟨ad', had', hrd'⟩ := hr5 k hkr
      refine CodeOb.draw TryzEOK rfl rfl rfl ?_
      refine IdxOb.mk ad k had rfl (by omega) ?_
      refine LoadOb.mk _ hrd ?_
      refine IdxOb.mk ad' k had' rfl (by omega) ?_
      refine LoadOb.mk _ hrd' ?_
      have hokk := hqs.ok k hkq hkls
      have hrk := hrs13 _ (List.getElem_mem hkr)
      have hwl : ls[k] = rs[k].l := by rw [e0, hrow k hkr hkg]
      have hcapk : qs[k].n ≤ 140737488355328 := by
        have h1 := hokk.len1
        have h2 := hrk.n
        have h3 := hrk.rs.cap.2
        rw [h1, hwl]
        omega
      refine CallOb.mk (o5.blk 27 ++ (o4.blk 27 ++ (psB qs ++ (o2.blk 3 ++ o1.blk 3)))) [] _ (.of_eq (List.append_nil _).symm) (ints_gen (OS.intsAt (e := 3) hokk hcapk (fun x hx => by rw [psB_split hkq]; simp [hx])) (Rw.intsAt hrk)) ?_
      rintro v J14 N14 - ⟨rfl, hJ14, rfl⟩
      subst J14
      rw [List.append_nil]
      refine CondOb.mk (fun e => by simp [hwl] at e) (fun _ => ?_)
      refine LoopOb.inv (ι := Nat × List OS × List (List Int)) (fun x => { fl := [(1, .val (.int .i64 i)), (2, .ref 2 0), (5, .val (.int .i64 rd)), (6, .val o1.val), (7, .val o2.val), (9, .val o4.val), (10, .val o5.val), (11, .val (.int .i64 k)), (12, .val (.int .i64 x.1))], cl := [(2, [.slice g.a g.n g.c])], gi := J13, mi := o5.blk 27 ++ (o4.blk 27 ++ (psB x.2.1 ++ (o2.blk 3 ++ o1.blk 3))) })
        (fun x => x.1 ≤ qs[k].n ∧ x.2.1.map OS.val = ps.map OS.val ∧ PsOk x.2.1 x.2.2 ∧ x.2.2.drop (k + 1) = (roundsG debL g).drop (k + 1)) (fun x => qs[k].n - x.1) ?_ ?_
      · refine ⟨(0, qs, ls), ⟨Nat.zero_le _, hval, hqs, ?_⟩, .refl, .cons .refl (.cons .refl (.cons .refl (.cons .refl (.cons .refl (.cons .refl (.cons .refl (.cons .refl (.cons .refl .nil)))))))), .cons rfl .nil⟩
        have := congrArg (List.drop 1) hdr
        simpa [List.drop_drop] using this
      rintro ⟨n, ts, us⟩ ⟨hn, hvt, hts, hdt⟩
      simp only at hn hvt hts hdt
      have htl : ts.length = ps.length := by have := congrArg List.length hvt; simpa using this
      have hul := hts.len
      have hkt : k < ts.length := by omega
      have hku : k < us.length := by omega
      have hvk : ts[k].val = qs[k].val := by
        have := congrArg (fun z : List Value => z[k]?) (hvt.trans hval.symm)
        simpa [hkt, hkq] using this
      have hnk : ts[k].n = qs[k].n := by
        unfold OS.val at hvk
        injection hvk
      have hokt := hts.ok k hkt hku
      have hlt := hokt.len1
      obtain ⟨-, hr4⟩ := OS.rowV (I := J13) (M := o5.blk 27 ++ (o4.blk 27 ++ (psB ts ++ (o2.blk 3 ++ o1.blk 3)))) OS.val (l := ts) (by rw [hvt]; exact ho4) (e := 27) (fun x hx => by simp [hx])
      obtain ⟨ad, had, hrd⟩ := hr4 k hkt
      refine IdxOb.mk ad k had rfl (by omega) ?_
      refine LoadOb.mk _ hrd ?_
      refine CondOb.mk (fun h => ?_) (fun h => ?_)
      · have hnl : n < ts[k].n := by simpa using h
        refine IdxOb.mk ad k had rfl (by omega) ?_
        refine LoadOb.mk _ hrd ?_
        refine OS.storeI (e := 3) hokt (by omega) (o5.blk 27 ++ (o4.blk 27 ++ psB (ts.take k))) (psB (ts.drop (k + 1)) ++ (o2.blk 3 ++ o1.blk 3)) (by rw [psB_split hkt]; simp) ?_
        intro ad2 os' hv' hos'
        refine ArithOb.mk _ (next_wr (i := n) (by omega)) ?_
        refine ⟨(n + 1, ts.set k os', us.set k (us[k].set n (-7))), ⟨⟨by simp only; omega, ?_, hts.set hos', ?_⟩, by simp only; omega⟩, .eqM ?_, .cons .refl (.cons .refl (.cons .refl (.cons .refl (.cons .refl (.cons .refl (.cons .refl (.cons .refl (.cons .refl .nil)))))))), .cons rfl .nil⟩
        · simp only
          rw [map_set_val hkt hv', hvt]
        · simp only
          rw [List.drop_set_of_lt (by omega), hdt]
        · simp only
          rw [psB_set hkt]
          simp
      · refine ArithOb.mk _ (wr_eq (r := ((k + 1 : Nat) : Int)) (by simp) (by omega)) ?_
        exact ⟨(k + 1, ts, us), ⟨⟨by simp only; omega, hvt, hts, hdt⟩, by simp only; omega⟩, .refl, .cons .refl (.cons .refl (.cons .refl (.cons .refl (.cons .refl (.cons .refl (.cons .refl (.cons .refl .nil))))))), .cons rfl .nil⟩
    · refine LoopOb.inv (ι := Nat × OS × List Int) (fun x => { fl := [(1, .val (.int .i64 i)), (2, .ref 2 0), (5, .val (.int .i64 rd)), (6, .val x.2.1.val), (7, .val o2.val), (13, .val (.int .i64 x.1))], cl := [(2, [.slice g.a g.n g.c])], gi := J13, mi := o2.blk 3 ++ x.2.1.blk 3 })
        (fun x => x.1 ≤ o1.n ∧ x.2.1.n = o1.n ∧ x.2.1.ok 1 (x.2.2.map (.int .i64 ·))) (fun x => o1.n - x.1) ?_ ?_
      · exact ⟨(0, o1, _), ⟨Nat.zero_le _, rfl, ho1⟩, .sub (by exact ((List.sublist_append_right _ _).trans (List.sublist_append_right _ _)).trans (List.sublist_append_right _ _)) .refl, .cons .refl (.cons .refl (.cons .refl (.cons .refl (.cons .refl (.cons .refl .nil))))), .cons rfl .nil⟩
      rintro ⟨n, p1, l1⟩ ⟨hn, hpn, hp1⟩
      simp only at hn hpn hp1
      have hl1 := hp1.len1
      refine CondOb.mk (fun h => ?_) (fun h => ?_)
      · have hnl : n < p1.n := by simpa using h
        refine OS.storeI (e := 3) hp1 (by omega) (o2.blk 3) [] (by simp) ?_
        intro ad2 os' hv' hos'
        have hn' : os'.n = p1.n := by unfold OS.val at hv'; injection hv'
        refine ArithOb.mk _ (next_wr (i := n) (by omega)) ?_
        exact ⟨(n + 1, os', _), ⟨⟨by simp only; omega, by simp only; omega, hos'⟩, by simp only; omega⟩, .eqM (by simp), .cons .refl (.cons .refl (.cons .refl (.cons (by rw [← hv']; exact .refl) (.cons .refl (.cons .refl .nil))))), .cons rfl .nil⟩
      · refine LoopOb.inv (ι := Nat × OS × List Int) (fun x => { fl := [(1, .val (.int .i64 i)), (2, .ref 2 0), (5, .val (.int .i64 rd)), (7, .val x.2.1.val), (14, .val (.int .i64 x.1))], cl := [(2, [.slice g.a g.n g.c])], gi := J13, mi := x.2.1.blk 3 })
          (fun x => x.1 ≤ o2.n ∧ x.2.1.n = o2.n ∧ x.2.1.ok 1 (x.2.2.map (.int .i64 ·))) (fun x => o2.n - x.1) ?_ ?_
        · exact ⟨(0, o2, _), ⟨Nat.zero_le _, rfl, ho2⟩, .sub (List.sublist_append_left _ _) .refl, .cons .refl (.cons .refl (.cons .refl (.cons .refl (.cons .refl .nil)))), .cons rfl .nil⟩
        rintro ⟨n, p2, l2⟩ ⟨hn, hpn, hp2⟩
        simp only at hn hpn hp2
        have hl2 := hp2.len1
        have hb2' := hb2 _ ho2
        refine CondOb.mk (fun h => ?_) (fun h => ?_)
        · have hnl : n < p2.n := by simpa using h
          refine OS.storeI (e := 3) hp2 (by omega) [] [] (by simp) ?_
          intro ad2 os' hv' hos'
          have hn' : os'.n = p2.n := by unfold OS.val at hv'; injection hv'
          refine ArithOb.mk _ (next_wr (i := n) (by omega)) ?_
          exact ⟨(n + 1, os', _), ⟨⟨by simp only; omega, by simp only; omega, hos'⟩, by simp only; omega⟩, .eqM (by simp), .cons .refl (.cons .refl (.cons .refl (.cons (by rw [← hv']; exact .refl) (.cons .refl .nil)))), .cons rfl .nil⟩
        · refine ArithOb.mk _ (next_wr (i := rd) (by omega)) ?_
          exact ⟨(rd + 1, J13), ⟨⟨by simp only; omega, hI13⟩, by simp only; omega⟩, .sub (List.nil_sublist _) .refl, .cons .refl (.cons .refl (.cons .refl .nil)), .cons rfl .nil⟩
  · refine CallOb.mk [] [] _ (.refl _) (works_spec hT0) ?_
    rintro v J N - ⟨rfl, hJ, rfl⟩
    exact ⟨_, _, .refl, rfl⟩
end Go.V
