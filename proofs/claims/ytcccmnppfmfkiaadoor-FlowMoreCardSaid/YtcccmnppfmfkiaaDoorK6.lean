/-
  Part 6 of what the proofs of this seat share: the executor, data in memory, walks.
-/
import Derived.Test.YtcccmnppfmfkiaaDoorK5
import Derived.Test.YtcccmnppfmfkiaaDoorK4

/-
  Walks: bonsairef02 (Letter, digit, Take, May); tree.leaf, Rule, Text, Empty.
-/
set_option linter.unusedVariables false
set_option linter.unusedSimpArgs false
namespace Go.V
open Go Go.Proofs

theorem RLetter_spec (I : GH) (c : UInt8) : Spec Tryd.prog 87 [.int .u8 c.toNat] I [] (fun v I' M' => v = .bool (letter c) ∧ I' = I ∧ M' = []) := by
  refine spec_of_V [] TrydEOK Tryd.func87 rfl rfl rfl ?_
  intro B h0
  repeat' (refine GuardOb.mk (fun h => ?_) (fun h => ?_))
  all_goals
    refine ⟨_, _, .refl, ?_⟩
    refine ⟨?_, rfl, rfl⟩
    simp_all [letter]
    all_goals first
      | omega
      | (rw [Bool.eq_iff_iff]; simp; omega)

theorem Rdigit_spec (I : GH) (c : UInt8) : Spec Tryd.prog 88 [.int .u8 c.toNat] I [] (fun v I' M' => v = .bool (digit c) ∧ I' = I ∧ M' = []) := by
  refine spec_of_V [] TrydEOK Tryd.func88 rfl rfl rfl ?_
  intro B h0
  repeat' (refine GuardOb.mk (fun h => ?_) (fun h => ?_))
  all_goals
    refine ⟨_, _, .refl, ?_⟩
    refine ⟨?_, rfl, rfl⟩
    simp_all [digit]
    all_goals first
      | omega
      | (rw [Bool.eq_iff_iff]; simp; omega)

theorem RTake_spec (I : GH) (s : ByteArray) (hs : s.size ≤ 140737488355328) : Spec Tryd.prog 82 [.string s] I [] (fun v I' M' => v = .string (s.extract 0 (nameLen s)) ∧ I' = I ∧ M' = []) := by
  refine spec_of_V [] TrydEOK Tryd.func82 rfl rfl rfl ?_
  intro B h0
  have e0 : ∀ {s : ByteArray}, nameLen s = 0 → s.extract 0 (nameLen s) = ⟨#[]⟩ := fun h => by rw [h]; apply ByteArray.ext; simp [ByteArray.data_extract]
  refine GuardOb.mk (fun h => ?_) (fun h => ?_)
  · have h1 : s ≠ ⟨#[]⟩ := by simpa using h
    have hpos : 0 < s.size := by
      refine Nat.pos_of_ne_zero fun e => h1 ?_
      apply ByteArray.ext
      exact Array.eq_empty_of_size_eq_zero e
    refine StrOb.mk 0 rfl hpos ?_
    refine CallOb.mk [] [] _ (.refl _) (RLetter_spec I s[0]) ?_
    rintro v I' M' - ⟨rfl, rfl, rfl⟩
    refine CondOb.mk (fun h => ?_) (fun h => ?_)
    · have hl : letter s[0] = false := by simpa using h
      refine ⟨_, _, .refl, ?_, rfl, rfl⟩
      rw [e0]
      · unfold nameLen
        cases hd : s.data.toList with
        | nil => rfl
        | cons c r =>
          have : s[0] = c := by
            show s.data.toList[0] = c
            simp only [hd]
            rfl
          rw [this] at hl
          simp [hl]
    · have hl : letter s[0] = true := by simpa using h
      refine LoopOb.inv (ι := Nat) (fun i => { fl := [(0, .val (.string s)), (3, .val (.int .i64 i))], gi := I' }) (fun i => i ≤ s.size ∧ ∀ j (h : j < s.size), 1 ≤ j → j < i → nameCh s[j] = true) (fun i => s.size - i) ?_ ?_
      · exact ⟨0, ⟨by omega, fun j _ h1 h2 => by omega⟩, .refl, .cons .refl (.cons .refl .nil), .nil⟩
      · rintro i ⟨hi2, hi3⟩
        have hch0 : nameCh s[0] = true := by simp [nameCh, hl]
        have next : ∀ (hlt : i < s.size), nameCh s[i] = true → (i + 1 ≤ s.size ∧ ∀ k (h : k < s.size), 1 ≤ k → k < i + 1 → nameCh s[k] = true) ∧ s.size - (i + 1) < s.size - i := fun hlt hc =>
          ⟨⟨by omega, fun j hj h1 h2 => by
            by_cases e : j = i
            · subst e; exact hc
            · exact hi3 j hj h1 (by omega)⟩, by omega⟩
        have out : (∀ (h : i < s.size), nameCh s[i] = false) → s.extract 0 i = s.extract 0 (nameLen s) := fun hn => by
          have hi1 : 1 ≤ i := by
            apply Nat.one_le_iff_ne_zero.2
            intro e
            subst e
            rw [hn hpos] at hch0
            cases hch0
          rw [nameLen_of hpos hl hi1 hi2 hi3 hn]
        have hsz : (s.extract 0 i).size ≤ 140737488355328 := by
          rw [ByteArray.size_extract]
          omega
        have hwr : IntKind.i64.wrap ((i : Int) + 1) = ((i + 1 : Nat) : Int) := by
          rw [wrap_i64 ⟨by omega, by omega⟩]
          omega
        refine GuardOb.mk (fun h => ?_) (fun h => ?_)
        · have hlt : i < s.size := by simpa using h
          refine StrOb.mk i rfl hlt ?_
          refine CallOb.mk [] [] _ (.refl _) (RLetter_spec I' s[i]) ?_
          rintro v I' M' - ⟨rfl, rfl, rfl⟩
          refine GuardOb.mk (fun h => ?_) (fun h => ?_)
          · refine StrOb.mk i rfl hlt ?_
            refine CallOb.mk [] [] _ (.refl _) (Rdigit_spec _ s[i]) ?_
            rintro v I' M' - ⟨rfl, rfl, rfl⟩
            refine CondOb.mk (fun h2 => ?_) (fun h2 => ?_)
            · refine ArithOb.mk _ hwr ?_
              exact ⟨i + 1, next hlt (by simp only [nameCh]; rw [show digit s[i] = true from h2]; simp), .refl, .cons .refl (.cons .refl .nil), .nil⟩
            · refine SliceOb.mk 0 i rfl rfl (by omega) (by omega) ?_
              refine ⟨_, _, .refl, ?_, rfl, rfl⟩
              rw [← out fun _ => by simp only [nameCh]; rw [show letter s[i] = false from h, show digit s[i] = false from h2]; rfl]
          · refine ArithOb.mk _ hwr ?_
            exact ⟨i + 1, next hlt (by simp only [nameCh]; rw [show letter s[i] = true from h]; simp), .refl, .cons .refl (.cons .refl .nil), .nil⟩
        · have hge : ¬ i < s.size := by simpa using h
          refine SliceOb.mk 0 i rfl rfl (by omega) (by omega) ?_
          refine ⟨_, _, .refl, ?_, rfl, rfl⟩
          rw [← out fun h => (hge h).elim]
  · have h1 : s = ⟨#[]⟩ := by simpa using h
    subst h1
    refine ⟨_, _, .refl, ?_, rfl, rfl⟩
    rw [e0]
    rfl

theorem RMay_spec (I : GH) (s : ByteArray) : Spec Tryd.prog 64 [.string s] I [] (fun v I' M' => v = .bool (mayName s) ∧ I' = I ∧ M' = []) := by
  refine spec_of_V [] TrydEOK Tryd.func64 rfl rfl rfl ?_
  intro B h0
  refine GuardOb.mk (fun h1 => ?_) (fun h1 => ?_)
  · refine GuardOb.mk (fun h2 => ?_) (fun h2 => ?_)
    · have h2' : s.size ≤ 32 := by simp at h2; omega
      refine CallOb.mk [] [] _ (.refl _) (RTake_spec I s (by omega)) ?_
      rintro v I' M' - ⟨rfl, rfl, rfl⟩
      refine ⟨_, _, .refl, ?_, rfl, rfl⟩
      have hle := nameLen_le s
      have e1 : (s.extract 0 (nameLen s)).size = nameLen s := by rw [ByteArray.size_extract]; omega
      have e2 : decide (s.extract 0 (nameLen s) = s) = decide (nameLen s = s.size) := by
        rw [decide_eq_decide]
        constructor
        · intro h
          rw [← e1, h]
        · intro h
          rw [h]
          apply ByteArray.ext
          simp [ByteArray.data_extract]
      have h1' : decide (s ≠ ⟨#[]⟩) = true := by simpa using h1
      simp only [mayName, h1', Bool.true_and, show decide (s.size ≤ 32) = true from decide_eq_true h2', ← e2]
    · refine ⟨_, _, .refl, ?_, rfl, rfl⟩
      have h1' : decide (s ≠ ⟨#[]⟩) = true := by simpa using h1
      have h2' : decide (s.size ≤ 32) = false := by simp at h2; simp; omega
      simp only [mayName, h1', h2', Bool.true_and, Bool.false_and]
  · refine ⟨_, _, .refl, ?_, rfl, rfl⟩
    have h1' : decide (s ≠ ⟨#[]⟩) = false := by simpa using h1
    simp only [mayName, h1', Bool.false_and]

/-! ### Leaves -/
theorem u0 : u64ok 0 := ⟨by decide, by decide⟩
theorem i0 : i64ok 0 := ⟨by decide, by decide⟩
theorem leaf_spec {I : GH} {d : Nd} (hd : d.ok I) : Spec Tryd.prog 36 [d.val] I [] fun v I' M' => (∀ b o, I b = some o → I' b = some o) ∧ ∃ t : Tr, v = t.val ∧ t.ok I' ∧ t.ns = [d] ∧ t.root = 0 ∧ M' = [] := by
  refine spec_of_V [] TrydEOK Tryd.func36 rfl rfl rfl ?_
  intro B h0
  refine AllocOb.mk fun b hb hbM => ?_
  refine ⟨_, _, .prom rfl (by simp) .refl, ins_le hb, ⟨[d], some ⟨b, 0, none⟩, 1, 1, 0⟩, rfl, ⟨⟨rfl, ⟨Nat.le_refl _, by show 1 * 96 ≤ _; omega⟩, .inr ⟨_, rfl, rfl, _, _, _, ins_self .., rfl⟩⟩, fun x hx => ?_, i0⟩, rfl, rfl, rfl⟩
  simp only [List.mem_singleton] at hx
  subst hx
  exact hd.mono (ins_le hb)
def leafNd (k : Int) (s : ByteArray) : Nd := ⟨k, 0, 0, 0, 0, s, 0, 0, none, 0, 0, []⟩
theorem leafNd_ok {I : GH} {k : Int} (hk : 0 ≤ k ∧ k < 256) {s : ByteArray} (hs : s.size ≤ 140737488355328) : (leafNd k s).ok I :=
  ⟨hk, u0, u0, u0, u0, by show s.size ≤ _; omega, i0, i0, ⟨rfl, ⟨Nat.le_refl _, by show 0 * 8 ≤ _; omega⟩, .inl rfl⟩, fun x hx => by cases hx⟩
set_option maxRecDepth 20000 in
theorem Rule_spec {I : GH} {s : ByteArray} (hs : s.size ≤ 140737488355328) : Spec Tryd.prog 11 [.string s] I [] fun v I' M' => (∀ b o, I b = some o → I' b = some o) ∧ ∃ t : Tr, v = t.val ∧ t.ok I' ∧ t.ns = [leafNd 3 s] ∧ t.root = 0 ∧ M' = [] := by
  refine spec_of_V [] TrydEOK Tryd.func11 rfl rfl rfl ?_
  intro B h0
  have hl := leaf_spec (I := I) (leafNd_ok (k := 3) (by decide) hs)
  have hv : (leafNd 3 s).val = .agg #[.int .u8 3, .int .u64 0, .int .u64 0, .int .u64 0, .int .u64 0, .string s, .int .i64 0, .int .i64 0, .slice none 0 0] := rfl
  rw [hv] at hl
  refine CallOb.mk [] [] _ (.refl _) hl ?_
  rintro v I' M' - ⟨hI, t, rfl, ht, h1, h2, rfl⟩
  exact ⟨_, _, .refl, hI, t, rfl, ht, h1, h2, rfl⟩
set_option maxRecDepth 20000 in
theorem Text_spec {I : GH} {s : ByteArray} (hs : s.size ≤ 140737488355328) : Spec Tryd.prog 12 [.string s] I [] fun v I' M' => (∀ b o, I b = some o → I' b = some o) ∧ ∃ t : Tr, v = t.val ∧ t.ok I' ∧ t.ns = [leafNd 2 s] ∧ t.root = 0 ∧ M' = [] := by
  refine spec_of_V [] TrydEOK Tryd.func12 rfl rfl rfl ?_
  intro B h0
  have hl := leaf_spec (I := I) (leafNd_ok (k := 2) (by decide) hs)
  have hv : (leafNd 2 s).val = .agg #[.int .u8 2, .int .u64 0, .int .u64 0, .int .u64 0, .int .u64 0, .string s, .int .i64 0, .int .i64 0, .slice none 0 0] := rfl
  rw [hv] at hl
  refine CallOb.mk [] [] _ (.refl _) hl ?_
  rintro v I' M' - ⟨hI, t, rfl, ht, h1, h2, rfl⟩
  exact ⟨_, _, .refl, hI, t, rfl, ht, h1, h2, rfl⟩
set_option maxRecDepth 20000 in
theorem Empty_spec {I : GH} : Spec Tryd.prog 24 [] I [] fun v I' M' => (∀ b o, I b = some o → I' b = some o) ∧ ∃ t : Tr, v = t.val ∧ t.ok I' ∧ t.ns = [leafNd 0 ⟨#[]⟩] ∧ t.root = 0 ∧ M' = [] := by
  refine spec_of_V [] TrydEOK Tryd.func24 rfl rfl rfl ?_
  intro B h0
  have hl := leaf_spec (I := I) (leafNd_ok (k := 0) (s := ⟨#[]⟩) (by decide) (by decide))
  have hv : (leafNd 0 ⟨#[]⟩).val = .agg #[.int .u8 0, .int .u64 0, .int .u64 0, .int .u64 0, .int .u64 0, .string ⟨#[]⟩, .int .i64 0, .int .i64 0, .slice none 0 0] := rfl
  rw [hv] at hl
  refine CallOb.mk [] [] _ (.refl _) hl ?_
  rintro v I' M' - ⟨hI, t, rfl, ht, h1, h2, rfl⟩
  exact ⟨_, _, .refl, hI, t, rfl, ht, h1, h2, rfl⟩
end Go.V

/-
  Walks: bonsairef04.Fits (of nodes whose set is empty).
-/
set_option linter.unusedVariables false
set_option linter.unusedSimpArgs false
namespace Go.V
open Go Go.Proofs

def plainR (d : Nd) : Bool := decide (d.t = ⟨#[]⟩) && (decide (d.lo = 0) && decide (d.hi = 0))
def fitsR (d : Nd) (n : Int) : Bool :=
  bif decide (d.k = 0) then plainR d && decide (n = 0) else
  bif decide (d.k = 1) then plainR d && decide (n = 0) else
  bif decide (d.k = 2) then decide (d.lo = 0) && (decide (d.hi = 0) && (decide (n = 0) && (decide ((1 : Int) ≤ d.t.size) && decide ((d.t.size : Int) ≤ 255)))) else
  bif decide (d.k = 3) then decide (d.lo = 0) && (decide (d.hi = 0) && (decide (n = 0) && mayName d.t)) else
  bif decide (d.k = 4) || decide (d.k = 5) then plainR d && decide (2 ≤ n) else
  bif decide (d.k = 6) then decide (d.t = ⟨#[]⟩) && (decide (n = 1) && (decide (0 ≤ d.lo) && (decide (d.lo ≤ 99) && (decide (d.hi = -1) || (decide (d.lo ≤ d.hi) && decide (d.hi ≤ 99)))))) else
  bif decide (d.k = 7) || decide (d.k = 8) then plainR d && decide (n = 1) else
  bif decide (d.k = 9) then decide (d.lo = 0) && (decide (d.hi = 0) && (decide (n = 1) && mayName d.t)) else false

set_option maxHeartbeats 40000000 in
set_option maxRecDepth 20000 in
theorem RFits_spec {I : GH} (k : Int) (s : ByteArray) (lo hi : Int) (ka : Option Addr) (kn kc : Nat) (kids : List Int) (n : Int) : Spec Tryd.prog 51 [.agg #[.int .u8 k, .int .u64 0, .int .u64 0, .int .u64 0, .int .u64 0, .string s, .int .i64 lo, .int .i64 hi, .slice ka kn kc], .int .i64 n] I []
    (fun v I' M' => v = .bool (fitsR ⟨k, 0, 0, 0, 0, s, lo, hi, ka, kn, kc, kids⟩ n) ∧ I' = I ∧ M' = []) := by
  refine spec_of_V [] TrydEOK Tryd.func51 rfl rfl rfl ?_
  intro B h0
  refine BinOb.eq4 TrydEOK (e := 27) rfl rfl rfl rfl (by kernel_rfl) ?_
  refine GuardOb.mk (fun _ => ?_) (fun h => by cases h)
  have e1 : ∀ {b : Bool}, b = true → (!b) = false := fun h => by rw [h]; rfl
  repeat' (first
    | refine GuardOb.mk (fun h => ?_) (fun h => ?_)
    | refine CondOb.mk (fun h => ?_) (fun h => ?_)
    | refine BinOb.eq4 TrydEOK (e := 27) rfl rfl rfl rfl (by kernel_rfl) ?_
    | (refine CallOb.mk [] [] _ (.refl _) (RMay_spec _ s) ?_; rintro v I' M' - ⟨rfl, rfl, rfl⟩))
  all_goals first
    | (refine ⟨_, _, .refl, ?_, rfl, rfl⟩; simp_all [fitsR, plainR]; done)
    | (refine ⟨_, _, .refl, ?_, rfl, rfl⟩; simp_all [fitsR, plainR]; omega)
    | (exfalso; simp_all; done)
    | (exfalso; simp_all; omega)
    | skip
end Go.V

/-
  Walks: bonsairef04.Right, Sub, Clean at trees of one leaf.
-/
set_option linter.unusedVariables false
set_option linter.unusedSimpArgs false
namespace Go.V
open Go Go.Proofs

/-- A tree of one leaf, in memory. -/
structure LeafAt (I : GH) (a : Option Addr) (c : Nat) (k : Int) (s : ByteArray) : Prop where
  rs : RS I a 1 c 9 96 (leafNd k s).cells
theorem LeafAt.mono {I I' : GH} {a : Option Addr} {c : Nat} {k : Int} {s : ByteArray} (h : LeafAt I a c k s) (hI : ∀ b o, I b = some o → I' b = some o) : LeafAt I' a c k s := ⟨h.rs.mono hI⟩
theorem LeafAt.rd {I : GH} {a : Option Addr} {c : Nat} {k : Int} {s : ByteArray} (h : LeafAt I a c k s) : ∃ ad, a = some ad ∧ ∀ M, Rd I M (ad.add (0 * 9)) 9 (leafNd k s).cells := by
  have := RS.row (f := Nd.cells) (l := [leafNd k s]) Nd.cells_len (size := 9) (j := 0) (by simpa using h.rs) (by decide) (Nat.le_refl 1)
  simpa using this

set_option maxHeartbeats 1000000 in
theorem RRight_leaf {I : GH} {a : Option Addr} {c : Nat} {k : Int} {s : ByteArray} (h : LeafAt I a c k s) : Spec Tryd.prog 52 [.agg #[.slice a 1 c, .int .i64 0]] I [] fun v I' M' => v = .bool (fitsR (leafNd k s) 0) ∧ I' = I ∧ M' = [] := by
  refine spec_of_V [] TrydEOK Tryd.func52 rfl rfl rfl ?_
  intro B h0
  obtain ⟨ad, rfl, hrd⟩ := h.rd
  refine GuardOb.mk (fun _ => ?_) (fun h => by simp at h)
  refine CondOb.mk (fun h => by simp at h) (fun _ => ?_)
  refine MakeOb.mk 1 1 rfl rfl (Nat.le_refl _) (by decide) (by decide) ?_
  refine AllocOb.mk fun b hb hbM => ?_
  refine LoopOb.inv (ι := Nat) (fun i => { fl := [(1, .ref 1 0), (3, .val (.slice (some ⟨b, 0, none⟩) 1 1)), (4, .val (.int .i64 i))], cl := [(1, [.slice (some ad) 1 c, .int .i64 0])], gi := I, mi := [intRow b [0]] })
    (fun i => i = 0 ∨ (i = 1 ∧ fitsR (leafNd k s) 0 = true)) (fun i => 1 - i) ?_ ?_
  · exact ⟨0, .inl rfl, .refl, .cons .refl (.cons .refl (.cons .refl .nil)), .cons rfl .nil⟩
  · rintro i (rfl | ⟨rfl, hf⟩)
    · refine CondOb.mk (fun _ => ?_) (fun h => by simp at h)
      refine IdxOb.mk ad 0 rfl rfl (by decide) ?_
      refine LoadOb.mk _ (hrd _) ?_
      have hfs := RFits_spec (I := I) k s 0 0 none 0 0 [] 0
      refine CallOb.mk [] [intRow b [0]] _ (.refl _) hfs ?_
      rintro v I' M' - ⟨rfl, rfl, rfl⟩
      refine CondOb.mk (fun h => ?_) (fun h => ?_)
      · have hf : fitsR (leafNd k s) 0 = false := by simpa [leafNd] using h
        refine ⟨_, _, .sub (List.nil_sublist _) .refl, ?_, rfl, rfl⟩
        rw [hf]
      · have hf : fitsR (leafNd k s) 0 = true := by simpa [leafNd] using h
        refine LoopOb.unroll 1 ?_
        refine CondOb.mk (fun h => by simp [leafNd] at h) (fun _ => ?_)
        refine ArithOb.mk 1 (by decide) ?_
        exact ⟨1, ⟨.inr ⟨rfl, hf⟩, by simp⟩, .refl, .cons .refl (.cons .refl (.cons .refl .nil)), .cons rfl .nil⟩
    · refine CondOb.mk (fun h => by simp at h) (fun _ => ?_)
      refine LoopOb.inv (ι := Nat) (fun i => { fl := [(1, .ref 1 0), (3, .val (.slice (some ⟨b, 0, none⟩) 1 1)), (7, .val (.int .i64 i))], cl := [(1, [.slice (some ad) 1 c, .int .i64 0])], gi := I, mi := [intRow b [0]] })
        (fun i => i = 0 ∨ i = 1) (fun i => 1 - i) ?_ ?_
      · exact ⟨0, .inl rfl, .refl, .cons .refl (.cons .refl (.cons .refl .nil)), .cons rfl .nil⟩
      · rintro i (rfl | rfl)
        · refine CondOb.mk (fun _ => ?_) (fun h => by simp at h)
          refine GuardOb.mk (fun _ => ?_) (fun h => by simp at h)
          refine IdxOb.mk ⟨b, 0, none⟩ 0 rfl rfl (by decide) ?_
          refine LoadOb.mk [.int .i64 0] (intRow_rd (s := [0]) (j := 0) (by simp) (by decide)) ?_
          refine GuardOb.mk (fun _ => ?_) (fun h => by simp at h)
          refine GuardOb.mk (fun h => by simp at h) (fun _ => ?_)
          refine ArithOb.mk 1 (by decide) ?_
          exact ⟨1, ⟨.inr rfl, by simp⟩, .refl, .cons .refl (.cons .refl (.cons .refl .nil)), .cons rfl .nil⟩
        · refine CondOb.mk (fun h => by simp at h) (fun _ => ?_)
          refine ⟨_, _, .sub (List.nil_sublist _) .refl, ?_, rfl, rfl⟩
          rw [hf]

theorem intCell {I : GH} {M : List Blk} {b : Nat} {cs : List Value} {v : Value} (hM : (⟨b, .cells cs.toArray 3 (0, 0)⟩ : Blk) ∈ M) (h : cs.take 1 = [v]) : Rd I M ((⟨b, 0, none⟩ : Addr).add (0 * 1)) 1 [v] := by
  rw [addr_add _ rfl]
  exact ⟨rfl, _, _, _, .inr ⟨_, hM, rfl, rfl⟩, by simpa using h, rfl⟩

set_option maxHeartbeats 2000000 in
theorem RSub_leaf {I : GH} {a : Option Addr} {c : Nat} {k : Int} {s : ByteArray} (h : LeafAt I a c k s) (hf : fitsR (leafNd k s) 0 = true) : Spec Tryd.prog 65 [.agg #[.slice a 1 c, .int .i64 0], .int .i64 0] I []
    fun v I' M' => (∀ b o, I b = some o → I' b = some o) ∧ M' = [] ∧ ∃ a' c', v = .tuple #[.agg #[.slice a' 1 c', .int .i64 0], .bool true] ∧ LeafAt I' a' c' k s := by
  refine spec_of_V [] TrydEOK Tryd.func65 rfl rfl rfl ?_
  intro B h0
  obtain ⟨ad, rfl, hrd⟩ := h.rd
  refine CallOb.mk [] [] _ (.refl _) (RRight_leaf h) ?_
  rintro v I' M' - ⟨rfl, rfl, rfl⟩
  rw [hf]
  refine GuardOb.mk (fun _ => ?_) (fun h => by cases h)
  refine GuardOb.mk (fun _ => ?_) (fun h => by simp at h)
  refine CondOb.mk (fun h => by simp at h) (fun _ => ?_)
  refine AllocOb.mk fun b1 hb1 hbM1 => ?_
  refine LoopOb.inv (ι := Option (Nat × Nat × List Value)) (fun x => match x with
      | none => { fl := [(2, .ref 2 0), (4, .ref 4 0), (6, .val (.slice none 0 0)), (7, .val (.slice (some ⟨b1, 0, none⟩) 1 1))], cl := [(2, [.slice (some ad) 1 c, .int .i64 0]), (4, [.slice none 0 0, .int .i64 0])], gi := I', mi := [⟨b1, .cells #[.int .i64 0] 3 (0, 0)⟩] }
      | some (g, c', cur) => { fl := [(2, .ref 2 0), (4, .ref 4 0), (6, .val (.slice (some ⟨g, 0, none⟩) 1 c')), (7, .val (.slice (some ⟨b1, 0, none⟩) 0 1))], cl := [(2, [.slice (some ad) 1 c, .int .i64 0]), (4, [.slice none 0 0, .int .i64 0])], gi := I', mi := [⟨g, .cells cur.toArray 3 (0, 0)⟩] })
    (fun x => match x with
      | none => True
      | some (g, c', cur) => cur.take 1 = [.int .i64 0]) (fun x => match x with
      | none => 1
      | some _ => 0) ?_ ?_
  · exact ⟨none, trivial, .refl, .cons .refl (.cons .refl (.cons .refl (.cons .refl .nil))), .cons rfl (.cons rfl .nil)⟩
  · rintro (_ | ⟨g, c', cur⟩) hcur
    · refine CondOb.mk (fun _ => ?_) (fun h => by simp at h)
      refine ArithOb.mk 0 (by decide) ?_
      refine IdxOb.mk ⟨b1, 0, none⟩ 0 rfl rfl (by decide) ?_
      refine LoadOb.mk [.int .i64 0] (intCell (cs := [.int .i64 0]) (.head _) rfl) ?_
      refine ArithOb.mk 0 (by decide) ?_
      refine SliceOb.mk 0 0 rfl rfl (Nat.le_refl _) (by decide) ?_
      refine AllocOb.mk fun b2 hb2 hbM2 => ?_
      refine OtherOb.append TrydEOK rfl (by simp) (e := 3) rfl rfl rfl OS0 (OS0_ok 1) rfl (m := 1) rfl (news := [.int .i64 0]) (by decide) (blk_rd (b := b2) (cs := [.int .i64 0]) (k := 0) (n := 1) (T := 3) (.head _) (by simp)) rfl (.refl _) (by decide) (by decide) ?_
      intro g' c' cur' q1 q2 q3 q4
      refine IdxOb.mk ad 0 rfl rfl (by decide) ?_
      refine LoadOb.mk [.slice none 0 0] (Rd.part (k := 8) (m := 1) (hrd _) (by decide)) ?_
      refine OtherOb.append0 TrydEOK rfl (by simp) (e := 3) rfl rfl rfl (by simp) rfl rfl (Nat.zero_le _) rfl (.inl ⟨none, 0, rfl⟩) ?_
      exact ⟨some (g', c', cur'), ⟨q4, by simp⟩, .sub (.cons_cons _ (List.nil_sublist _)) .refl, .cons .refl (.cons .refl (.cons .refl (.cons .refl .nil))), .cons rfl (.cons rfl .nil)⟩
    · refine CondOb.mk (fun h => by simp at h) (fun _ => ?_)
      refine MakeOb.mk 1 1 rfl rfl (Nat.le_refl _) (by decide) (by decide) ?_
      refine AllocOb.mk fun b3 hb3 hbM3 => ?_
      refine ArithOb.mk 0 (by decide) ?_
      refine LoopOb.inv (ι := Option (Nat × Nat × List Value)) (fun x => match x with
          | none => { fl := [(2, .ref 2 0), (4, .ref 4 0), (6, .val (.slice (some ⟨g, 0, none⟩) 1 c')), (9, .val (.slice (some ⟨b3, 0, none⟩) 1 1)), (10, .val (.slice none 0 0)), (11, .val (.int .i64 0))], cl := [(2, [.slice (some ad) 1 c, .int .i64 0]), (4, [.slice none 0 0, .int .i64 0])], gi := I', mi := [intRow b3 [0], ⟨g, .cells cur.toArray 3 (0, 0)⟩] }
          | some (g2, c2, cur2) => { fl := [(2, .ref 2 0), (4, .ref 4 0), (10, .val (.slice (some ⟨g2, 0, none⟩) 1 c2)), (11, .val (.int .i64 (-1)))], cl := [(2, [.slice (some ad) 1 c, .int .i64 0]), (4, [.slice none 0 0, .int .i64 0])], gi := I', mi := [⟨g2, .cells cur2.toArray 32 (0, 0)⟩] })
        (fun x => match x with
          | none => True
          | some (g2, c2, cur2) => I' g2 = none ∧ cur2.take 9 = (leafNd k s).cells ∧ 1 ≤ c2) (fun x => match x with
          | none => 1
          | some _ => 0) ?_ ?_
      · exact ⟨none, trivial, .refl, .cons .refl (.cons .refl (.cons .refl (.cons .refl (.cons .refl (.cons .refl .nil))))), .cons rfl (.cons rfl .nil)⟩
      · rintro (_ | ⟨g2, c2, cur2⟩) hc2
        · refine CondOb.mk (fun _ => ?_) (fun h => by simp at h)
          refine CodeOb.draw TrydEOK rfl rfl rfl ?_
          refine IdxOb.mk ⟨g, 0, none⟩ 0 rfl rfl (by decide) ?_
          refine LoadOb.mk [.int .i64 0] (intCell (cs := cur) (.tail _ (.head _)) hcur) ?_
          refine IdxOb.mk ad 0 rfl rfl (by decide) ?_
          refine LoadOb.mk _ (hrd _) ?_
          refine AllocOb.mk fun b12 hb12 hbM12 => ?_
          refine StoreOb.mk [] [intRow b3 [0], ⟨g, .cells cur.toArray 3 (0, 0)⟩] _ _ rfl rfl (Nat.le_of_ble_eq_true rfl) rfl ?_
          refine IdxOb.mk ⟨g, 0, none⟩ 0 rfl rfl (by decide) ?_
          refine LoadOb.mk [.int .i64 0] (intCell (cs := cur) (.tail _ (.tail _ (.head _))) hcur) ?_
          refine IdxOb.mk ⟨b3, 0, none⟩ 0 rfl rfl (by decide) ?_
          refine StoreOb.add [⟨b12, .cells (leafNd k s).cells.toArray 32 (0, 0)⟩] [⟨g, .cells cur.toArray 3 (0, 0)⟩] _ _ rfl (Nat.le_of_ble_eq_true rfl) rfl ?_
          refine LoopOb.unroll 1 ?_
          refine LoadOb.mk [.slice none 0 0] (blk_rd (b := b12) (cs := (leafNd k s).cells) (k := 8) (n := 1) (T := 32) (.head _) (Nat.le_of_ble_eq_true rfl)) ?_
          refine CondOb.mk (fun h => by simp at h) (fun _ => ?_)
          refine StoreOb.mk [] _ _ _ rfl rfl (Nat.le_of_ble_eq_true rfl) rfl ?_
          refine LoadOb.mk (leafNd k s).cells (blk_rd (b := b12) (cs := (leafNd k s).cells) (k := 0) (n := 9) (T := 32) (.head _) (Nat.le_of_ble_eq_true rfl)) ?_
          refine AllocOb.mk fun b20 hb20 hbM20 => ?_
          refine OtherOb.appendN TrydEOK rfl (by simp) (e := 32) rfl rfl rfl OS0 (OS0_ok 9) rfl (m := 1) rfl (news := (leafNd k s).cells) (by decide) (blk_rd (b := b20) (cs := (leafNd k s).cells) (k := 0) (n := 9) (T := 32) (.head _) (Nat.le_of_ble_eq_true rfl)) rfl (.refl _) (by decide) (by decide) ?_
          intro g' c' cur' q0 q1 q2 q3 q4
          refine ArithOb.mk (-1) (by decide) ?_
          exact ⟨some (g', c', cur'), ⟨⟨q0, q4, q2⟩, by simp⟩, .sub (.cons_cons _ (List.nil_sublist _)) .refl, .cons .refl (.cons .refl (.cons .refl (.cons .refl .nil))), .cons rfl (.cons rfl .nil)⟩
        · refine CondOb.mk (fun h => by simp at h) (fun _ => ?_)
          obtain ⟨hg2, hcu, hc1⟩ := hc2
          refine ArithOb.mk 0 (by decide) ?_
          exact ⟨_, _, .prom rfl (by simp) .refl, ins_le hg2, rfl, _, _, rfl, ⟨⟨rfl, ⟨hc1, by decide⟩, .inr ⟨_, rfl, rfl, _, _, _, ins_self .., hcu⟩⟩⟩⟩
end Go.V

/-
  Walks: bonsairef04.Clean and Of, where the kids are leaves.
-/
set_option linter.unusedVariables false
set_option linter.unusedSimpArgs false
namespace Go.V
open Go Go.Proofs

/-- What stands aside of what, where an operation is done. -/
theorem OtherOb.nd {X : Ctx} {o : Oper} {F : Fr} {C : Bx} {I : GH} {M : List Blk} {K : KS} (h : OtherOb X o F C I M (fun F C I M => (M.map (·.num)).Nodup → (∀ x ∈ M, I x.num = none) → K F C I M)) : OtherOb X o F C I M K :=
  ⟨fun a w Q hR => Oper.wpIn_mono (fun a' w' => fun ⟨F', C', I', M', ⟨β, hr⟩, hk⟩ => ⟨F', C', I', M', ⟨β, hr⟩, hk hr.holds.nd hr.holds.d⟩) (h.1 a w Q hR)⟩
theorem OS.giveF {I : GH} {foot : List Nat} {os : OS} {xs : List Value} {e size b : Nat} (h : os.ok size xs) (hb : os.n * b ≤ 140737488355328) (hI : ∀ g, os.a = some g → I g = none ∧ g ∉ foot) (Mr : List Blk) :
    ∃ I', (∀ I2 M2, Wk foot I' Mr I2 M2 → Wk foot I (os.blk e ++ Mr) I2 M2) ∧ (∀ b o, I b = some o → I' b = some o) ∧ RS I' (os.a.map fun g => ⟨g, 0, none⟩) os.n os.c size b xs ∧ (∀ g, os.a ≠ some g → I' g = I g) := by
  obtain ⟨a, n, c, cur⟩ := os
  cases a with
  | none =>
    obtain ⟨h1, h2⟩ := h.nil rfl
    simp only at h1 h2
    subst h1
    subst h2
    exact ⟨I, fun _ _ k => k, fun _ _ h => h, ⟨h.len, ⟨Nat.le_refl _, by simp⟩, .inl rfl⟩, fun _ _ => rfl⟩
  | some g =>
    obtain ⟨h1, h2, h3, h4⟩ := h.cap g rfl
    obtain ⟨hg, hgf⟩ := hI g rfl
    refine ⟨ins I g (.cells cur.toArray e (0, 0)), fun _ _ k => .prom rfl hgf k, ins_le hg, ⟨h.len, ⟨h2, hb⟩, .inr ⟨⟨g, 0, none⟩, rfl, rfl, _, _, _, ins_self .., by simpa using h4⟩⟩, fun g' hg' => ?_⟩
    have : g' ≠ g := fun e => hg' (by rw [e])
    unfold ins
    simp only [beq_ne this, cond_false]
theorem appk_ok {os : OS} {xs ys : List Value} {size : Nat} (hos : os.ok size xs) {g c : Nat} {cur : List Value} (hy : ys.length = size) (h1 : cur.length = c * size) (h2 : os.n + 1 ≤ c) (h3 : c ≤ maxLen) (h4 : cur.take ((os.n + 1) * size) = xs ++ ys) :
    OS.ok ⟨some g, os.n + 1, c, cur⟩ size (xs ++ ys) := by
  have hl := hos.len
  refine ⟨?_, (fun h => by cases h), fun g3 hg3 => ⟨h1, h2, h3, h4⟩⟩
  rw [List.length_append, hl, hy]
  simp only
  rw [Nat.add_mul, Nat.one_mul]

set_option maxHeartbeats 1000000 in
theorem RClean_leaf {I : GH} {a : Option Addr} {c : Nat} {k : Int} {s : ByteArray} (h : LeafAt I a c k s) (hf : fitsR (leafNd k s) 0 = true) : Spec Tryd.prog 53 [.agg #[.slice a 1 c, .int .i64 0]] I []
    fun v I' M' => (∀ b o, I b = some o → I' b = some o) ∧ M' = [] ∧ ∃ a' c', v = .agg #[.slice a' 1 c', .int .i64 0] ∧ LeafAt I' a' c' k s := by
  refine spec_of_V [] TrydEOK Tryd.func53 rfl rfl rfl ?_
  intro B h0
  refine CallOb.mk [] [] _ (.refl _) (RSub_leaf h hf) ?_
  rintro v I' M' - ⟨hI, rfl, a', c', rfl, hl⟩
  exact ⟨_, _, .refl, hI, rfl, a', c', rfl, hl⟩

abbrev Lf := Tr × Int × ByteArray
def Lf.nd (x : Lf) : Nd := leafNd x.2.1 x.2.2
structure Lf.ok (I : GH) (x : Lf) : Prop where
  t : x.1.ok I
  ns : x.1.ns = [x.nd]
  root : x.1.root = 0
  fits : fitsR x.nd 0 = true
theorem Lf.ok.mono {I I' : GH} {x : Lf} (h : Lf.ok I x) (hI : ∀ b o, I b = some o → I' b = some o) : Lf.ok I' x := ⟨h.t.mono hI, h.ns, h.root, h.fits⟩
theorem Lf.ok.at {I : GH} {x : Lf} (h : Lf.ok I x) : ∃ a c, x.1.cells = [.slice a 1 c, .int .i64 0] ∧ LeafAt I a c x.2.1 x.2.2 := by
  obtain ⟨⟨ns, a, n, c, root⟩, k, s⟩ := x
  obtain ⟨ht, h1, h2, h3⟩ := h
  have h1' : ns = [leafNd k s] := h1
  clear h1 h3
  simp only at h2 ht
  subst h1'
  subst h2
  have hn := ht.n
  simp only [List.length_cons, List.length_nil] at hn
  subst hn
  exact ⟨a, c, rfl, ⟨by simpa [Lf.nd] using ht.rs⟩⟩
def kidCells (L : List Lf) : List Value := L.flatMap fun x => x.1.cells
def kidBlk (b : Nat) (L : List Lf) : Blk := ⟨b, .cells (kidCells L).toArray 25 (0, 0)⟩
def iotaI (n : Nat) : List Int := (List.range n).map fun (j : Nat) => (j : Int)
theorem iotaI_succ (n : Nat) : iotaI (n + 1) = iotaI n ++ [(n : Int)] := by simp [iotaI, List.range_succ]
theorem iotaI_len (n : Nat) : (iotaI n).length = n := by simp [iotaI]
def ofNd (k : Int) (s : ByteArray) (ka : Option Addr) (kc n : Nat) : Nd := ⟨k, 0, 0, 0, 0, s, 0, 0, ka, n, kc, iotaI n⟩

set_option maxHeartbeats 4000000 in
theorem ROf_leaf {I : GH} {k0 : Int} {s0 : ByteArray} {L : List Lf} {b cc : Nat} (hm : L.length ≤ 100) (hk0 : 0 ≤ k0 ∧ k0 < 256) (hs0 : s0.size ≤ 140737488355328) (hL : ∀ x ∈ L, Lf.ok I x) (hf : fitsR (leafNd k0 s0) L.length = true) :
    Spec Tryd.prog 35 [.agg #[.int .u8 k0, .int .u64 0, .int .u64 0, .int .u64 0, .int .u64 0, .string s0, .int .i64 0, .int .i64 0, .slice none 0 0], .slice (some ⟨b, 0, none⟩) L.length cc] I [kidBlk b L]
      fun v I' M' => (∀ b o, I b = some o → I' b = some o) ∧ M' = [kidBlk b L] ∧ ∃ (t : Tr) (ka : Option Addr) (kc : Nat), v = .tuple #[t.val, .bool true] ∧ t.ok I' ∧ t.root = L.length ∧ t.ns = L.map Lf.nd ++ [ofNd k0 s0 ka kc L.length] := by
  refine spec_of_V [] TrydEOK Tryd.func35 rfl rfl rfl ?_
  intro B h0
  have hfs := RFits_spec (I := I) k0 s0 0 0 none 0 0 [] L.length
  refine CallOb.mk [] [kidBlk b L] _ (.refl _) hfs ?_
  rintro v I' M' - ⟨rfl, rfl, rfl⟩
  refine CondOb.mk (fun h => ?_) (fun _ => ?_)
  · exfalso
    have : fitsR (leafNd k0 s0) L.length = false := by simpa [leafNd] using h
    rw [hf] at this
    cases this
  refine LoopOb.inv (ι := Nat × OS × OS × GH) (fun x => { fl := [(1, .val (.slice (some ⟨b, 0, none⟩) L.length cc)), (2, .ref 2 0), (4, .ref 4 0), (6, .val x.2.1.val), (7, .val (.int .i64 x.1))], cl := [(2, [.int .u8 k0, .int .u64 0, .int .u64 0, .int .u64 0, .int .u64 0, .string s0, .int .i64 0, .int .i64 0, x.2.2.1.val]), (4, [.slice none 0 0, .int .i64 0])], gi := x.2.2.2, mi := x.2.1.blk 32 ++ (x.2.2.1.blk 3 ++ [kidBlk b L]) })
    (fun x => x.1 ≤ L.length ∧ x.2.1.ok 9 ((L.take x.1).flatMap fun y => y.nd.cells) ∧ x.2.2.1.ok 1 ((iotaI x.1).map (.int .i64 ·)) ∧ (∀ b o, I' b = some o → x.2.2.2 b = some o)) (fun x => L.length - x.1) ?_ ?_
  · exact ⟨(0, OS0, OS0, I'), ⟨Nat.zero_le _, OS0_ok 9, OS0_ok 1, fun _ _ h => h⟩, .refl, .cons .refl (.cons .refl (.cons .refl (.cons .refl (.cons .refl .nil)))), .cons rfl (.cons rfl .nil)⟩
  · rintro ⟨i, o1, o2, I2⟩ ⟨hi, ho1, ho2, hI2⟩
    simp only at hi ho1 ho2 hI2
    have hn2 := ho2.len1
    rw [iotaI_len] at hn2
    have hn1 : o1.n = i := by
      have := ho1.len
      rw [flat_len _ 9 (fun x => Nd.cells_len _), List.length_take, Nat.min_eq_left hi] at this
      omega
    have hkb : ∀ {i : Nat} (hi : i < L.length) {I : GH} {M : List Blk}, kidBlk b L ∈ M → Rd I M ((⟨b, 0, none⟩ : Addr).add (i * 2)) 2 (L[i].1.cells) := fun {i} hi {I M} hM => by
      have hk := flat_at (fun x : Lf => x.1.cells) 2 (fun _ => rfl) L i hi
      have hl := flat_len (fun x : Lf => x.1.cells) 2 (fun _ => rfl) L
      have := blk_rd (I := I) (M := M) (b := b) (cs := kidCells L) (k := i * 2) (n := 2) (T := 25) hM (by unfold kidCells; rw [hl]; omega)
      unfold kidCells at this
      rwa [hk] at this
    refine CondOb.mk (fun h => ?_) (fun h => ?_)
    · have hlt : i < L.length := by simpa using h
      obtain ⟨a, c, hc, hlf⟩ := ((hL L[i] (List.getElem_mem hlt)).mono hI2).at
      have hfit := (hL L[i] (List.getElem_mem hlt)).fits
      have hr : ∀ {I : GH} {M : List Blk}, kidBlk b L ∈ M → Rd I M ((⟨b, 0, none⟩ : Addr).add (i * 2)) 2 [.slice a 1 c, .int .i64 0] := fun hM => by rw [← hc]; exact hkb hlt hM
      have hmem : kidBlk b L ∈ o1.blk 32 ++ (o2.blk 3 ++ [kidBlk b L]) := by simp
      refine IdxOb.mk ⟨b, 0, none⟩ i rfl rfl hlt ?_
      refine LoadOb.mk _ (hr hmem) ?_
      refine CallOb.mk [] _ _ (.refl _) (RRight_leaf hlf) ?_
      rintro v I3 M3 - ⟨rfl, rfl, rfl⟩
      refine CondOb.mk (fun h2 => ?_) (fun _ => ?_)
      · exfalso
        have : fitsR L[i].nd 0 = false := by simpa [Lf.nd] using h2
        rw [hfit] at this
        cases this
      refine IdxOb.mk ⟨b, 0, none⟩ i rfl rfl hlt ?_
      refine LoadOb.mk _ (hr hmem) ?_
      refine CallOb.mk [] _ _ (.refl _) (RClean_leaf hlf hfit) ?_
      rintro v I4 M4 - ⟨hI4, rfl, a', c', rfl, hl4⟩
      obtain ⟨ad', rfl, hrd'⟩ := hl4.rd
      refine LoopOb.inv (ι := Option (Nat × Nat × List Value)) (fun x => match x with
          | none => { fl := [(1, .val (.slice (some ⟨b, 0, none⟩) L.length cc)), (2, .ref 2 0), (4, .ref 4 0), (6, .val o1.val), (7, .val (.int .i64 i)), (8, .ref 8 0), (9, .val (.int .i64 o1.n)), (10, .val (.int .i64 0))], cl := [(2, [.int .u8 k0, .int .u64 0, .int .u64 0, .int .u64 0, .int .u64 0, .string s0, .int .i64 0, .int .i64 0, o2.val]), (4, [.slice none 0 0, .int .i64 0]), (8, [.slice (some ad') 1 c', .int .i64 0])], gi := I4, mi := o1.blk 32 ++ (o2.blk 3 ++ [kidBlk b L]) }
          | some (g1, c1, cur1) => { fl := [(1, .val (.slice (some ⟨b, 0, none⟩) L.length cc)), (2, .ref 2 0), (4, .ref 4 0), (6, .val (.slice (some ⟨g1, 0, none⟩) (o1.n + 1) c1)), (7, .val (.int .i64 i)), (8, .ref 8 0), (10, .val (.int .i64 1))], cl := [(2, [.int .u8 k0, .int .u64 0, .int .u64 0, .int .u64 0, .int .u64 0, .string s0, .int .i64 0, .int .i64 0, o2.val]), (4, [.slice none 0 0, .int .i64 0]), (8, [.slice (some ad') 1 c', .int .i64 0])], gi := I4, mi := [⟨g1, .cells cur1.toArray 32 (0, 0)⟩] ++ (o2.blk 3 ++ [kidBlk b L]) })
        (fun x => match x with
          | none => True
          | some (g1, c1, cur1) => OS.ok ⟨some g1, o1.n + 1, c1, cur1⟩ 9 (((L.take i).flatMap fun y => y.nd.cells) ++ L[i].nd.cells)) (fun x => match x with
          | none => 1
          | some _ => 0) ?_ ?_
      · exact ⟨none, trivial, .refl, .cons .refl (.cons .refl (.cons .refl (.cons .refl (.cons .refl (.cons .refl (.cons .refl (.cons .refl .nil))))))), .cons rfl (.cons rfl (.cons rfl .nil))⟩
      rintro (_ | ⟨g1, c1, cur1⟩) hq1
      · refine CondOb.mk (fun _ => ?_) (fun h => by simp at h)
        refine IdxOb.mk ad' 0 rfl rfl (by decide) ?_
        refine LoadOb.mk _ (hrd' _) ?_
        refine LoopOb.unroll 1 ?_
        refine CondOb.mk (fun h => by simp [leafNd] at h) (fun _ => ?_)
        refine AllocOb.mk fun b20 hb20 hbM20 => ?_
        refine OtherOb.append TrydEOK rfl (by simp) (e := 32) rfl rfl rfl o1 ho1 rfl (m := 1) rfl (news := L[i].nd.cells) (by decide) (blk_rd (b := b20) (cs := L[i].nd.cells) (k := 0) (n := 9) (T := 32) (.head _) (Nat.le_of_ble_eq_true rfl)) rfl
          (Mr := ⟨b20, .cells L[i].nd.cells.toArray 32 (0, 0)⟩ :: (o2.blk 3 ++ [kidBlk b L])) (List.perm_middle (l₁ := o1.blk 32) (l₂ := o2.blk 3 ++ [kidBlk b L])).symm (by simp only [maxLen]; omega) (by show (o1.n + 1) * 96 ≤ _; omega) ?_
        intro g1 c1 cur1 q1 q2 q3 q4
        refine ArithOb.mk 1 (by decide) ?_
        exact ⟨some (g1, c1, cur1), ⟨appk_ok ho1 (Nd.cells_len _) q1 q2 q3 q4, by simp⟩, .sub (.cons_cons _ (.cons _ (.refl _))) .refl, .cons .refl (.cons .refl (.cons .refl (.cons .refl (.cons .refl (.cons .refl (.cons .refl .nil)))))), .cons rfl (.cons rfl (.cons rfl .nil))⟩
      simp only at hq1
      refine CondOb.mk (fun h => by simp at h) (fun _ => ?_)
      have hlast : IntKind.i64.wrap (((o1.n + 1 : Nat) : Int) - 1) = (i : Int) := by rw [wrap_i64 ⟨by omega, by omega⟩]; omega
      refine ArithOb.mk (i : Int) hlast ?_
      refine AllocOb.mk fun b21 hb21 hbM21 => ?_
      refine OtherOb.append TrydEOK rfl (by simp) (e := 3) rfl rfl rfl o2 ho2 rfl (m := 1) rfl (news := [.int .i64 i]) (by decide) (blk_rd (b := b21) (cs := [.int .i64 i]) (k := 0) (n := 1) (T := 3) (.head _) (by simp)) rfl
        (Mr := [⟨b21, .cells #[.int .i64 i] 3 (0, 0)⟩, ⟨g1, .cells cur1.toArray 32 (0, 0)⟩] ++ [kidBlk b L]) (List.perm_append_comm_assoc [_, _] _ _) (by simp only [maxLen]; omega) (by show (o2.n + 1) * 8 ≤ _; omega) ?_
      intro g2 c2 cur2 r1 r2 r3 r4
      refine ArithOb.mk _ (next_wr (i := i) (by omega)) ?_
      refine ⟨(i + 1, ⟨some g1, o1.n + 1, c1, cur1⟩, ⟨some g2, o2.n + 1, c2, cur2⟩, I4), ⟨⟨by simp only; omega, ?_, ?_, fun b o h => hI4 _ _ (hI2 _ _ h)⟩, by simp only; omega⟩, ?_, .cons .refl (.cons .refl (.cons .refl (.cons .refl (.cons .refl .nil)))), .cons rfl (.cons rfl .nil)⟩
      · simp only
        rw [List.take_succ_eq_append_getElem hlt, List.flatMap_append]
        have : ([L[i]].flatMap fun y => y.nd.cells) = L[i].nd.cells := by simp
        rw [this]
        exact hq1
      · simp only
        rw [iotaI_succ, List.map_append]
        exact app1_ok ho2 r1 r2 r3 r4
      · refine .sub (M1 := [⟨g2, .cells cur2.toArray 3 (0, 0)⟩, ⟨g1, .cells cur1.toArray 32 (0, 0)⟩, kidBlk b L]) ?_ (.perm (List.Perm.swap _ _ _) .refl)
        exact .cons_cons _ (.cons _ (.refl _))
    · have hge : i = L.length := by
        have : ¬ i < L.length := by simpa using h
        omega
      subst hge
      refine AllocOb.mk fun b20 hb20 hbM20 => ?_
      refine OtherOb.nd ?_
      refine OtherOb.append TrydEOK rfl (by simp) (e := 32) rfl rfl rfl o1 ho1 rfl (m := 1) rfl (news := [.int .u8 k0, .int .u64 0, .int .u64 0, .int .u64 0, .int .u64 0, .string s0, .int .i64 0, .int .i64 0, o2.val]) (by decide) (blk_rd (b := b20) (cs := [.int .u8 k0, .int .u64 0, .int .u64 0, .int .u64 0, .int .u64 0, .string s0, .int .i64 0, .int .i64 0, o2.val]) (k := 0) (n := 9) (T := 32) (.head _) (Nat.le_of_ble_eq_true rfl)) rfl
        (Mr := ⟨b20, .cells _ 32 (0, 0)⟩ :: (o2.blk 3 ++ [kidBlk b L])) (List.perm_middle (l₁ := o1.blk 32) (l₂ := o2.blk 3 ++ [kidBlk b L])).symm (by simp only [maxLen]; omega) (by show (o1.n + 1) * 96 ≤ _; omega) ?_
      intro g1 c1 cur1 q1 q2 q3 q4 hnd hdj
      have hlast : IntKind.i64.wrap (((o1.n + 1 : Nat) : Int) - 1) = (L.length : Int) := by rw [wrap_i64 ⟨by omega, by omega⟩]; omega
      refine ArithOb.mk (L.length : Int) hlast ?_
      have hok1 := appk_ok (g := g1) (ys := [.int .u8 k0, .int .u64 0, .int .u64 0, .int .u64 0, .int .u64 0, .string s0, .int .i64 0, .int .i64 0, o2.val]) ho1 rfl q1 q2 q3 q4
      simp only [List.map_cons, List.map_append, List.map_nil, List.nodup_cons, List.mem_cons, List.mem_append, not_or] at hnd
      obtain ⟨⟨n1, n2, n3⟩, n4, n5⟩ := hnd
      have n6 := (List.nodup_append.1 n5)
      have hg1I := hdj ⟨g1, .cells cur1.toArray 32 (0, 0)⟩ (.head _)
      obtain ⟨I5, w1, w2, w3, w4⟩ := OS.giveF (foot := [(kidBlk b L).num]) (e := 3) (b := 8) ho2 (by omega) (fun g hg => ⟨hdj ⟨g, .cells o2.cur.toArray 3 (0, 0)⟩ (by simp [OS.blk, hg]), fun hgb => by
        simp only [List.mem_singleton] at hgb
        refine n6.2.2 g ?_ _ (List.mem_singleton.2 rfl) hgb
        simp [OS.blk, hg]⟩) [⟨g1, .cells cur1.toArray 32 (0, 0)⟩, kidBlk b L]
      have hg15 : I5 g1 = none := by
        rw [w4 g1 (fun hg => n2 (by simp [OS.blk, hg]))]
        exact hg1I
      obtain ⟨I6, x1, x2, x3, x4⟩ := OS.giveF (foot := [(kidBlk b L).num]) (e := 32) (b := 96) hok1 (by show (o1.n + 1) * 96 ≤ _; omega) (fun g hg => by cases hg; exact ⟨hg15, by simpa using n3⟩) [kidBlk b L]
      have hlen : L.length = o2.n := hn2.symm
      refine ⟨I6, [kidBlk b L], .sub (M1 := ⟨g1, .cells cur1.toArray 32 (0, 0)⟩ :: (o2.blk 3 ++ [kidBlk b L])) (.cons_cons _ (.cons _ (.refl _))) (.perm List.perm_middle.symm (w1 _ _ (x1 _ _ .refl))), fun b o h => x2 _ _ (w2 _ _ (hI2 _ _ h)), rfl,
        ⟨L.map Lf.nd ++ [ofNd k0 s0 (o2.a.map fun g => ⟨g, 0, none⟩) o2.c L.length], some ⟨g1, 0, none⟩, o1.n + 1, c1, L.length⟩, (o2.a.map fun g => ⟨g, 0, none⟩), o2.c, rfl, ⟨?_, ?_, ⟨by simp only; omega, by simp only; omega⟩⟩, rfl, rfl⟩
      · have e : (L.map Lf.nd ++ [ofNd k0 s0 (o2.a.map fun g => ⟨g, 0, none⟩) o2.c L.length]).flatMap Nd.cells = ((L.take L.length).flatMap fun y => y.nd.cells) ++ [.int .u8 k0, .int .u64 0, .int .u64 0, .int .u64 0, .int .u64 0, .string s0, .int .i64 0, .int .i64 0, o2.val] := by
          rw [List.take_length, List.flatMap_append, List.flatMap_map]
          simp [ofNd, Nd.cells, OS.val, hlen]
        rw [e]
        exact x3
      · intro d hd
        simp only [List.mem_append, List.mem_map, List.mem_singleton] at hd
        rcases hd with ⟨x, hx, rfl⟩ | rfl
        · have hxo := hL x hx
          have : x.nd ∈ x.1.ns := by rw [hxo.ns]; simp
          exact (hxo.t.ns _ this).mono fun b o h => x2 _ _ (w2 _ _ (hI2 _ _ h))
        · refine ⟨hk0, u0, u0, u0, u0, by show s0.size ≤ _; omega, i0, i0, ?_, fun x hx => ?_⟩
          · show RS I6 _ L.length _ 1 8 ((iotaI L.length).map _)
            rw [hlen] at w3 ⊢
            exact w3.mono x2
          · simp only [ofNd, iotaI, List.mem_map, List.mem_range] at hx
            obtain ⟨j, hj, rfl⟩ := hx
            exact ⟨by omega, by omega⟩
end Go.V

/-
  Walks: bonsailaw12.of, ints, some.
-/
set_option linter.unusedVariables false
set_option linter.unusedSimpArgs false
namespace Go.V
open Go Go.Proofs

theorem of_leaf {I : GH} {k0 : Int} {s0 : ByteArray} {L : List Lf} {b cc : Nat} (hm : L.length ≤ 100) (hk0 : 0 ≤ k0 ∧ k0 < 256) (hs0 : s0.size ≤ 140737488355328) (hL : ∀ x ∈ L, Lf.ok I x) (hf : fitsR (leafNd k0 s0) L.length = true) :
    Spec Tryd.prog 10 [.agg #[.int .u8 k0, .int .u64 0, .int .u64 0, .int .u64 0, .int .u64 0, .string s0, .int .i64 0, .int .i64 0, .slice none 0 0], .slice (some ⟨b, 0, none⟩) L.length cc] I [kidBlk b L]
      fun v I' M' => (∀ b o, I b = some o → I' b = some o) ∧ M' = [kidBlk b L] ∧ ∃ (t : Tr) (ka : Option Addr) (kc : Nat), v = t.val ∧ t.ok I' ∧ t.root = L.length ∧ t.ns = L.map Lf.nd ++ [ofNd k0 s0 ka kc L.length] := by
  refine spec_of_V [] TrydEOK Tryd.func10 rfl rfl rfl ?_
  intro B h0
  refine CallOb.mk [kidBlk b L] [] _ (.refl _) (ROf_leaf hm hk0 hs0 hL hf) ?_
  rintro v I' M' - ⟨hI, rfl, t, ka, kc, rfl, h1, h2, h3⟩
  exact ⟨_, _, .refl, hI, rfl, t, ka, kc, rfl, h1, h2, h3⟩

set_option maxHeartbeats 1000000 in
theorem ints_spec {I : GH} {x : Rw} (hx : x.ok I) {l : List Int} {b c : Nat} : Spec Tryd.prog 13 [x.val, .slice (some ⟨b, 0, none⟩) l.length c] I [intRow b l]
    fun v I' M' => v = .bool (decide (x.l = l)) ∧ I' = I ∧ M' = [intRow b l] := by
  refine spec_of_V [] TrydEOK Tryd.func13 rfl rfl rfl ?_
  intro B h0
  have hxn := hx.n
  have hn := hx.rs.cap.2
  refine CondOb.mk (fun h => ?_) (fun h => ?_)
  · refine ⟨_, _, .refl, ?_, rfl, rfl⟩
    have : x.l ≠ l := fun e => by
      rw [e] at hxn
      simp [hxn] at h
    simp [this]
  · have hll : x.n = l.length := by
      simp at h
      omega
    refine LoopOb.inv (ι := Nat) (fun i => { fl := [(0, .val x.val), (1, .val (.slice (some ⟨b, 0, none⟩) l.length c)), (5, .val (.int .i64 i))], gi := I, mi := [intRow b l] }) (fun i => i ≤ x.n ∧ x.l.take i = l.take i) (fun i => x.n - i) ?_ ?_
    · exact ⟨0, ⟨Nat.zero_le _, rfl⟩, .refl, .cons .refl (.cons .refl (.cons .refl .nil)), .nil⟩
    · rintro i ⟨hi, htk⟩
      refine CondOb.mk (fun h => ?_) (fun h => ?_)
      · have hlt : i < x.n := by simpa using h
        obtain ⟨ad, had, hr⟩ := hx.rs.one (j := i) hlt (by omega)
        refine CodeOb.draw TrydEOK rfl rfl rfl ?_
        refine IdxOb.mk ad i had rfl hlt ?_
        refine LoadOb.mk _ (hr _) ?_
        refine IdxOb.mk ⟨b, 0, none⟩ i rfl rfl (by omega) ?_
        refine LoadOb.mk _ (intRow_rd (s := l) (j := i) (by simp) (by omega)) ?_
        refine CondOb.mk (fun h2 => ?_) (fun h2 => ?_)
        · refine ⟨_, _, .refl, ?_, rfl, rfl⟩
          have : x.l ≠ l := fun e => by
            have h3 : ¬ x.l[i]'(by omega) = l[i]'(by omega) := by simpa using h2
            exact h3 (by simp [e])
          simp [this]
        · have h3 : x.l[i]'(by omega) = l[i]'(by omega) := by simpa using h2
          refine ArithOb.mk _ (next_wr (i := i) (by omega)) ?_
          refine ⟨i + 1, ⟨⟨by omega, ?_⟩, by omega⟩, .refl, .cons .refl (.cons .refl (.cons .refl .nil)), .nil⟩
          rw [List.take_succ_eq_append_getElem (by omega), List.take_succ_eq_append_getElem (by omega), htk, h3]
      · have hge : x.n ≤ i := by simpa using h
        refine ⟨_, _, .refl, ?_, rfl, rfl⟩
        have : x.l = l := by
          rw [List.take_of_length_le (by omega), List.take_of_length_le (by omega)] at htk
          exact htk
        simp [this]

/-! ### The grammars of the examples -/
def cS (c : UInt8) : ByteArray := ⟨#[c]⟩
def nS : ByteArray := ⟨#[]⟩
/-- A rule's row, of the function's own. -/
def defBlk (b : Nat) (ds : List Df) : Blk := ⟨b, .cells (ds.flatMap Df.cells).toArray 35 (0, 0)⟩
theorem defBlk_gr {I : GH} {b n : Nat} {ds : List Df} (hn : ds.length = n) (hb : n ≤ 1000) (hI : I b = none) (h : ∀ d ∈ ds, d.ok I) : Gr.ok (ins I b (defBlk b ds).obj) ⟨ds, some ⟨b, 0, none⟩, n, n⟩ := by
  subst hn
  refine ⟨⟨flat_len _ 3 Df.cells_len ds, ⟨Nat.le_refl _, by simp only; omega⟩, .inr ⟨_, rfl, rfl, _, _, _, ins_self .., ?_⟩⟩, fun d hd => (h d hd).mono (ins_le hI)⟩
  simp only [List.drop_zero]
  exact List.take_of_length_le (by rw [flat_len _ 3 Df.cells_len ds]; exact Nat.le_refl _)

/-- A tree of a leaf: where it lies. -/
def tLeaf (k : Int) (s : ByteArray) (p : Option Addr × Nat) : Tr := ⟨[leafNd k s], p.1, 1, p.2, 0⟩
/-- A tree of leaves under a node: where they lie. -/
def tOf (k : Int) (s : ByteArray) (l : List Nd) (p : Option Addr × Nat × Option Addr × Nat) : Tr := ⟨l ++ [ofNd k s p.2.2.1 p.2.2.2 l.length], p.1, l.length + 1, p.2.1, l.length⟩
theorem tLeaf_of {I : GH} {t : Tr} {k : Int} {s : ByteArray} (ht : t.ok I) (h1 : t.ns = [leafNd k s]) (h2 : t.root = 0) : ∃ p, t = tLeaf k s p := by
  obtain ⟨ns, a, n, c, root⟩ := t
  simp only at h1 h2
  subst h1
  subst h2
  have := ht.n
  simp only [List.length_cons, List.length_nil] at this
  subst this
  exact ⟨(a, c), rfl⟩
theorem tOf_of {I : GH} {t : Tr} {k : Int} {s : ByteArray} {L : List Lf} {ka : Option Addr} {kc : Nat} (ht : t.ok I) (h2 : t.root = L.length) (h1 : t.ns = L.map Lf.nd ++ [ofNd k s ka kc L.length]) : ∃ p, t = tOf k s (L.map Lf.nd) p := by
  obtain ⟨ns, a, n, c, root⟩ := t
  simp only at h1 h2
  subst h1
  subst h2
  have := ht.n
  simp only [List.length_append, List.length_map, List.length_cons, List.length_nil] at this
  subst this
  exact ⟨(a, c, ka, kc), by simp [tOf]⟩
abbrev At4 := Option Addr × Nat × Option Addr × Nat
def someDs (p1 p2 : At4) (p3 p4 : Option Addr × Nat) : List Df := [⟨cS 97, tOf 4 nS [leafNd 3 (cS 98), leafNd 2 (cS 120)] p1⟩, ⟨cS 98, tOf 5 nS [leafNd 3 (cS 99), leafNd 0 nS] p2⟩, ⟨cS 99, tLeaf 3 (cS 98) p3⟩, ⟨cS 100, tLeaf 3 (cS 97) p4⟩]

theorem lf_ok {I : GH} {t : Tr} {k : Int} {s : ByteArray} (ht : t.ok I) (h1 : t.ns = [leafNd k s]) (h2 : t.root = 0) (hf : fitsR (leafNd k s) 0 = true) : Lf.ok I (t, k, s) := ⟨ht, h1, h2, hf⟩

set_option maxHeartbeats 4000000 in
theorem some_spec {I : GH} : Spec Tryd.prog 19 [] I [] fun v I' M' => (∀ b o, I b = some o → I' b = some o) ∧ ∃ (b : Nat) (p1 p2 : At4) (p3 p4 : Option Addr × Nat), v = .agg #[.slice (some ⟨b, 0, none⟩) 4 4] ∧ I' b = none ∧ (∀ d ∈ someDs p1 p2 p3 p4, d.ok I') ∧ M' = [defBlk b (someDs p1 p2 p3 p4)] := by
  refine spec_of_V [] TrydEOK Tryd.func19 rfl rfl rfl ?_
  intro B h0
  refine CallOb.mk [] [] _ (.refl _) (Text_spec (s := cS 120) (by decide)) ?_
  rintro v I1 M1 hI1 ⟨-, t1, rfl, ht1, n1, r1, rfl⟩
  refine CodeOb.draw TrydEOK rfl rfl rfl ?_
  refine PCallOb.mk _ (Rule_spec (s := cS 98) (by decide)) ?_
  rintro v I2 M2 hI2 ⟨-, t2, rfl, ht2, n2, r2, rfl⟩
  refine AllocOb.mk fun b1 hb1 hbM1 => ?_
  have ht1' := ht1.mono hI2
  have hL : ∀ x ∈ [((t2, 3, cS 98) : Lf), (t1, 2, cS 120)], Lf.ok I2 x := by
    simp only [List.mem_cons, List.not_mem_nil, or_false]
    rintro x (rfl | rfl)
    · exact lf_ok ht2 n2 r2 (by kernel_rfl)
    · exact lf_ok ht1' n1 r1 (by kernel_rfl)
  refine PCallOb.mkR [kidBlk b1 [(t2, 3, cS 98), (t1, 2, cS 120)]] [] _ (.refl _) (of_leaf (k0 := 4) (s0 := nS) (cc := 2) (Nat.le_of_ble_eq_true rfl) (by decide) (by decide) hL (by kernel_rfl)) ?_ ?_
  · rintro v I' M' ⟨-, rfl, -⟩ x hx
    exact hx
  rintro v I3 M3 hI3 ⟨-, rfl, t3, ka1, kc1, rfl, ht3, r3, n3⟩
  refine PCallOb.mk _ (Rule_spec (s := cS 99) (by decide)) ?_
  rintro v I4 M4 hI4 ⟨-, t4, rfl, ht4, n4, r4, rfl⟩
  refine PCallOb.mk _ Empty_spec ?_
  rintro v I5 M5 hI5 ⟨-, t5, rfl, ht5, n5, r5, rfl⟩
  refine AllocOb.mk fun b2 hb2 hbM2 => ?_
  have ht4' := ht4.mono hI5
  have hL2 : ∀ x ∈ [((t4, 3, cS 99) : Lf), (t5, 0, nS)], Lf.ok I5 x := by
    simp only [List.mem_cons, List.not_mem_nil, or_false]
    rintro x (rfl | rfl)
    · exact lf_ok ht4' n4 r4 (by kernel_rfl)
    · exact lf_ok ht5 n5 r5 (by kernel_rfl)
  refine PCallOb.mkR [kidBlk b2 [(t4, 3, cS 99), (t5, 0, nS)]] [kidBlk b1 [(t2, 3, cS 98), (t1, 2, cS 120)]] _ (.refl _) (of_leaf (k0 := 5) (s0 := nS) (cc := 2) (Nat.le_of_ble_eq_true rfl) (by decide) (by decide) hL2 (by kernel_rfl)) ?_ ?_
  · rintro v I' M' ⟨-, rfl, -⟩ x hx
    exact hx
  rintro v I6 M6 hI6 ⟨-, rfl, t6, ka2, kc2, rfl, ht6, r6, n6⟩
  refine PCallOb.mk _ (Rule_spec (s := cS 98) (by decide)) ?_
  rintro v I7 M7 hI7 ⟨-, t7, rfl, ht7, n7, r7, rfl⟩
  refine PCallOb.mk _ (Rule_spec (s := cS 97) (by decide)) ?_
  rintro v I8 M8 hI8 ⟨-, t8, rfl, ht8, n8, r8, rfl⟩
  have e1 : ∀ b o, I3 b = some o → I8 b = some o := fun b o h => hI8 _ _ (hI7 _ _ (hI6 _ _ (hI5 _ _ (hI4 _ _ h))))
  obtain ⟨p1, rfl⟩ := tOf_of ht3 r3 n3
  obtain ⟨p2, rfl⟩ := tOf_of ht6 r6 n6
  obtain ⟨p3, rfl⟩ := tLeaf_of ht7 n7 r7
  obtain ⟨p4, rfl⟩ := tLeaf_of ht8 n8 r8
  refine AllocOb.mk fun b3 hb3 hbM3 => ?_
  refine ⟨I8, [defBlk b3 (someDs p1 p2 p3 p4)], .sub (.cons_cons _ (List.nil_sublist _)) .refl, fun b o h => e1 _ _ (hI3 _ _ (hI2 _ _ (hI1 _ _ h))), b3, p1, p2, p3, p4, rfl, hb3, ?_, rfl⟩
  have c1 : ∀ c : UInt8, (cS c).size ≤ 140737488355328 := fun c => (by decide : (1 : Nat) ≤ 140737488355328)
  simp only [someDs, List.mem_cons, List.not_mem_nil, or_false]
  rintro d (rfl | rfl | rfl | rfl)
  · exact ⟨c1 _, ht3.mono e1⟩
  · exact ⟨c1 _, ht6.mono fun b o h => hI8 _ _ (hI7 _ _ h)⟩
  · exact ⟨c1 _, ht7.mono hI8⟩
  · exact ⟨c1 _, ht8⟩
end Go.V

/-
  Walks: bonsailaw12.works.
-/
set_option linter.unusedVariables false
set_option linter.unusedSimpArgs false
namespace Go.V
open Go Go.Proofs

/-- 'ints', where the numbers are known. -/
theorem ints_is {I : GH} {x : Rw} (hx : x.ok I) {l l' : List Int} (hl : x.l = l') (r : Bool) (hr : decide (l' = l) = r) {b c : Nat} : Spec Tryd.prog 13 [x.val, .slice (some ⟨b, 0, none⟩) l.length c] I [intRow b l]
    fun v I' M' => v = .bool r ∧ I' = I ∧ M' = [intRow b l] := by
  have h := ints_spec hx (l := l) (b := b) (c := c)
  rw [hl, hr] at h
  exact h
theorem Self_is {I : GH} (hT : Tabs I debL) {g : Gr} (hg : g.ok I) (hn : g.n ≤ 1099511627776) (i : Int) (r : Bool) (hr : selfG debL g i = r) : Spec Tryd.prog 15 [g.val, .int .i64 i] I [] fun v I' M' => v = .bool r ∧ (∀ b o, I b = some o → I' b = some o) ∧ M' = [] := by
  have h := Self_spec hT hg hn i
  rw [hr] at h
  exact h
theorem rows3 {rs : List Rw} {a b c : List Int} (h : rs.map (·.l) = [a, b, c]) : ∃ r1 r2 r3, rs = [r1, r2, r3] ∧ r1.l = a ∧ r2.l = b ∧ r3.l = c := by
  match rs, h with
  | [r1, r2, r3], h => exact ⟨r1, r2, r3, rfl, by simpa using h⟩
theorem OS.val3 {os : OS} {a b c : Value} (h : os.ok 1 [a, b, c]) {e : Nat} : ∃ (g c' : Nat) (cur : List Value), os.val = .slice (some ⟨g, 0, none⟩) 3 c' ∧ os.blk e = [⟨g, .cells cur.toArray e (0, 0)⟩] ∧ cur.take 3 = [a, b, c] := by
  obtain ⟨oa, n, c', cur⟩ := os
  have hn := h.len
  simp only [List.length_cons, List.length_nil, Nat.mul_one] at hn
  subst hn
  cases oa with
  | none => have := (h.nil rfl).1; simp at this
  | some g =>
    obtain ⟨-, -, -, h4⟩ := h.cap g rfl
    exact ⟨g, c', cur, rfl, rfl, h4⟩
theorem cell3 {I : GH} {M : List Blk} {b T : Nat} {cur : List Value} (hM : (⟨b, .cells cur.toArray T (0, 0)⟩ : Blk) ∈ M) {x y z : Value} (h : cur.take 3 = [x, y, z]) : 3 ≤ cur.length ∧ Rd I M ((⟨b, 0, none⟩ : Addr).add (0 * 1)) 1 [x] ∧ Rd I M ((⟨b, 0, none⟩ : Addr).add (1 * 1)) 1 [y] ∧ Rd I M ((⟨b, 0, none⟩ : Addr).add (2 * 1)) 1 [z] := by
  match cur, h with
  | p :: q :: r :: cs, h =>
    simp at h
    obtain ⟨rfl, rfl, rfl⟩ := h
    exact ⟨by simp, blk_rd (cs := p :: q :: r :: cs) (k := 0) (n := 1) hM (by simp), blk_rd (cs := p :: q :: r :: cs) (k := 1) (n := 1) hM (by simp), blk_rd (cs := p :: q :: r :: cs) (k := 2) (n := 1) hM (by simp)⟩

def someG (b : Nat) (p1 p2 : At4) (p3 p4 : Option Addr × Nat) : Gr := ⟨someDs p1 p2 p3 p4, some ⟨b, 0, none⟩, 4, 4⟩
section
variable (b : Nat) (p1 p2 : At4) (p3 p4 : Option Addr × Nat)
theorem some_calls0 : callsG debL (someG b p1 p2 p3 p4) 0 = [1] := by kernel_rfl
theorem some_from0 : fromG debL (someG b p1 p2 p3 p4) 0 = [0, 1, 2] := by kernel_rfl
theorem some_self0 : selfG debL (someG b p1 p2 p3 p4) 0 = false := by kernel_rfl
theorem some_self1 : selfG debL (someG b p1 p2 p3 p4) 1 = true := by kernel_rfl
theorem some_self2 : selfG debL (someG b p1 p2 p3 p4) 2 = true := by kernel_rfl
theorem some_self3 : selfG debL (someG b p1 p2 p3 p4) 3 = false := by kernel_rfl
theorem some_useless : uselessG debL (someG b p1 p2 p3 p4) = [3] := by kernel_rfl
theorem some_rounds : roundsG debL (someG b p1 p2 p3 p4) = [[0], [1, 2], [3]] := by kernel_rfl
end

/-- What is told of a grammar of the examples, its value being known. -/
structure Told (I : GH) (u : Value) (g : Gr) : Prop where
  tabs : Tabs I debL
  gok : g.ok I
  num : g.n ≤ 1099511627776
  val : g.val = u
theorem Told.mono {I I' : GH} {u : Value} {g : Gr} (h : Told I u g) (hI : ∀ b o, I b = some o → I' b = some o) : Told I' u g := ⟨h.tabs.mono hI, h.gok.mono hI, h.num, h.val⟩
theorem Told.calls {I : GH} {u : Value} {g : Gr} (h : Told I u g) (i : Int) {l : List Int} (hl : callsG debL g i = l) : Spec Tryd.prog 14 [u, .int .i64 i] I [] fun v I' M' => (∀ b o, I b = some o → I' b = some o) ∧ ∃ x : Rw, v = x.val ∧ x.ok I' ∧ x.l = l ∧ M' = [] := by
  have := Calls_spec h.tabs h.gok h.num i
  rwa [hl, h.val] at this
theorem Told.from {I : GH} {u : Value} {g : Gr} (h : Told I u g) (i : Int) {l : List Int} (hl : fromG debL g i = l) : Spec Tryd.prog 16 [u, .int .i64 i] I [] fun v I' M' => (∀ b o, I b = some o → I' b = some o) ∧ ∃ x : Rw, v = x.val ∧ x.ok I' ∧ x.l = l ∧ M' = [] := by
  have := From_spec h.tabs h.gok h.num i
  rwa [hl, h.val] at this
theorem Told.self {I : GH} {u : Value} {g : Gr} (h : Told I u g) (i : Int) {r : Bool} (hl : selfG debL g i = r) : Spec Tryd.prog 15 [u, .int .i64 i] I [] fun v I' M' => v = .bool r ∧ (∀ b o, I b = some o → I' b = some o) ∧ M' = [] := by
  have := Self_spec h.tabs h.gok h.num i
  rwa [hl, h.val] at this
theorem Told.useless {I : GH} {u : Value} {g : Gr} (h : Told I u g) {l : List Int} (hl : uselessG debL g = l) : Spec Tryd.prog 17 [u] I [] fun v I' M' => (∀ b o, I b = some o → I' b = some o) ∧ ∃ x : Rw, v = x.val ∧ x.ok I' ∧ x.l = l ∧ M' = [] := by
  have := Useless_spec h.tabs h.gok h.num
  rwa [hl, h.val] at this
theorem Told.rounds {I : GH} {u : Value} {g : Gr} (h : Told I u g) {l : List (List Int)} (hl : roundsG debL g = l) : Spec Tryd.prog 18 [u] I [] fun v I' M' => (∀ b o, I b = some o → I' b = some o) ∧ ∃ (os : OS) (rs : List Rw), v = os.val ∧ os.ok 1 (rs.map Rw.val) ∧ (∀ r ∈ rs, r.ok I') ∧ rs.map (·.l) = l ∧ M' = os.blk 30 := by
  have := Rounds_spec h.tabs h.gok h.num
  rwa [hl, h.val] at this
theorem some_told {I : GH} (hT : Tabs I debL) {b : Nat} {p1 p2 : At4} {p3 p4 : Option Addr × Nat} (hb : I b = none) (hds : ∀ d ∈ someDs p1 p2 p3 p4, d.ok I) : Told (ins I b (defBlk b (someDs p1 p2 p3 p4)).obj) (.agg #[.slice (some ⟨b, 0, none⟩) 4 4]) (someG b p1 p2 p3 p4) :=
  ⟨hT.mono (ins_le hb), defBlk_gr rfl (by decide) hb hds, (by decide : (4 : Nat) ≤ 1099511627776), rfl⟩

set_option maxHeartbeats 4000000 in
theorem works_spec {I : GH} (hT : Tabs I debL) : Spec Tryd.prog 9 [] I [] fun v I' M' => v = .bool true ∧ (∀ b o, I b = some o → I' b = some o) ∧ M' = [] := by
  refine spec_of_V [] TrydEOK Tryd.func9 rfl rfl rfl ?_
  intro B h0
  refine CallOb.mk [] [] _ (.refl _) some_spec ?_
  rintro v I1 M1 hI1 ⟨-, b, p1, p2, p3, p4, rfl, hbI, hds, rfl⟩
  have hg := some_told (hT.mono hI1) hbI hds
  have hIg := ins_le (o := (defBlk b (someDs p1 p2 p3 p4)).obj) hbI
  have hW : Wk [] I1 [defBlk b (someDs p1 p2 p3 p4)] (ins I1 b (defBlk b (someDs p1 p2 p3 p4)).obj) ([] ++ []) := .prom rfl (by simp) .refl
  generalize ins I1 b (defBlk b (someDs p1 p2 p3 p4)).obj = I2 at hg hIg hW
  refine CallOb.mkW I2 [] [] _ hW (hg.rounds (some_rounds ..)) ?_
  rintro v I3 M3 hI3 - ⟨-, os, rs, rfl, hos, hrs, hrl, rfl⟩
  obtain ⟨w1, w2, w3, rfl, hw1, hw2, hw3⟩ := rows3 hrl
  have k1 := hrs w1 (by simp)
  have k2 := hrs w2 (by simp)
  have k3 := hrs w3 (by simp)
  obtain ⟨gb, gc, cur, hov, hob, hcur⟩ := OS.val3 hos (e := 30)
  rw [hov, hob]
  have hg3 := hg.mono hI3
  refine CallOb.mk [] _ _ (.refl _) (hg3.calls 0 (some_calls0 ..)) ?_
  rintro v I4 M4 hI4 ⟨-, x4, rfl, hx4, hl4, rfl⟩
  have hg4 := hg3.mono hI4
  have k1 := k1.mono hI4
  have k2 := k2.mono hI4
  have k3 := k3.mono hI4
  refine AllocOb.mk fun b1 hb1 hbM1 => ?_
  refine CallOb.mk [intRow b1 [1]] _ _ (.refl _) (ints_is hx4 hl4 true rfl) ?_
  rintro v J5 M5 - ⟨rfl, rfl, rfl⟩
  refine GuardOb.mk (fun _ => ?_) (fun h => by simp at h)
  refine CallOb.mk [] _ _ (.refl _) (hg4.from 0 (some_from0 ..)) ?_
  rintro v I6 M6 hI6 ⟨-, x6, rfl, hx6, hl6, rfl⟩
  have hg6 := hg4.mono hI6
  have k1 := k1.mono hI6
  have k2 := k2.mono hI6
  have k3 := k3.mono hI6
  refine AllocOb.mk fun b2 hb2 hbM2 => ?_
  refine CallOb.mk [intRow b2 [0, 1, 2]] _ _ (.refl _) (ints_is hx6 hl6 true rfl) ?_
  rintro v J7 M7 - ⟨rfl, rfl, rfl⟩
  refine GuardOb.mk (fun _ => ?_) (fun h => by simp at h)
  refine CallOb.mk [] _ _ (.refl _) (hg6.self 0 (some_self0 ..)) ?_
  rintro v I8 M8 - ⟨rfl, hI8, rfl⟩
  have hg8 := hg6.mono hI8
  have k1 := k1.mono hI8
  have k2 := k2.mono hI8
  have k3 := k3.mono hI8
  refine GuardOb.mk (fun _ => ?_) (fun h => by simp at h)
  refine CallOb.mk [] _ _ (.refl _) (hg8.self 1 (some_self1 ..)) ?_
  rintro v I9 M9 - ⟨rfl, hI9, rfl⟩
  have hg9 := hg8.mono hI9
  have k1 := k1.mono hI9
  have k2 := k2.mono hI9
  have k3 := k3.mono hI9
  refine GuardOb.mk (fun _ => ?_) (fun h => by simp at h)
  refine CallOb.mk [] _ _ (.refl _) (hg9.self 2 (some_self2 ..)) ?_
  rintro v I10 M10 - ⟨rfl, hI10, rfl⟩
  have hg10 := hg9.mono hI10
  have k1 := k1.mono hI10
  have k2 := k2.mono hI10
  have k3 := k3.mono hI10
  refine GuardOb.mk (fun _ => ?_) (fun h => by simp at h)
  refine CallOb.mk [] _ _ (.refl _) (hg10.self 3 (some_self3 ..)) ?_
  rintro v I11 M11 - ⟨rfl, hI11, rfl⟩
  have hg11 := hg10.mono hI11
  have k1 := k1.mono hI11
  have k2 := k2.mono hI11
  have k3 := k3.mono hI11
  refine GuardOb.mk (fun _ => ?_) (fun h => by simp at h)
  refine CallOb.mk [] _ _ (.refl _) (hg11.useless (some_useless ..)) ?_
  rintro v I12 M12 hI12 ⟨-, x12, rfl, hx12, hl12, rfl⟩
  have hg12 := hg11.mono hI12
  have k1 := k1.mono hI12
  have k2 := k2.mono hI12
  have k3 := k3.mono hI12
  refine AllocOb.mk fun b3 hb3 hbM3 => ?_
  refine CallOb.mk [intRow b3 [3]] _ _ (.refl _) (ints_is hx12 hl12 true rfl) ?_
  rintro v J13 M13 - ⟨rfl, rfl, rfl⟩
  refine GuardOb.mk (fun _ => ?_) (fun h => by simp at h)
  refine GuardOb.mk (fun _ => ?_) (fun h => by simp at h)
  refine IdxOb.mk ⟨gb, 0, none⟩ 0 rfl rfl (by decide) ?_
  refine LoadOb.mk _ (cell3 (T := 30) (b := gb) (cur := cur) (by simp) hcur).2.1 ?_
  refine AllocOb.mk fun b4 hb4 hbM4 => ?_
  refine CallOb.mk [intRow b4 [0]] _ _ (.refl _) (ints_is k1 hw1 true rfl) ?_
  rintro v J14 M14 - ⟨rfl, rfl, rfl⟩
  refine GuardOb.mk (fun _ => ?_) (fun h => by simp at h)
  refine IdxOb.mk ⟨gb, 0, none⟩ 1 rfl rfl (by decide) ?_
  refine LoadOb.mk _ (cell3 (T := 30) (b := gb) (cur := cur) (by simp) hcur).2.2.1 ?_
  refine AllocOb.mk fun b5 hb5 hbM5 => ?_
  refine CallOb.mk [intRow b5 [1, 2]] _ _ (.refl _) (ints_is k2 hw2 true rfl) ?_
  rintro v J15 M15 - ⟨rfl, rfl, rfl⟩
  refine GuardOb.mk (fun _ => ?_) (fun h => by simp at h)
  refine IdxOb.mk ⟨gb, 0, none⟩ 2 rfl rfl (by decide) ?_
  refine LoadOb.mk _ (cell3 (T := 30) (b := gb) (cur := cur) (by simp) hcur).2.2.2 ?_
  refine AllocOb.mk fun b6 hb6 hbM6 => ?_
  refine CallOb.mk [intRow b6 [3]] _ _ (.refl _) (ints_is k3 hw3 true rfl) ?_
  rintro v J16 M16 - ⟨rfl, rfl, rfl⟩
  exact ⟨_, _, .sub (List.nil_sublist _) .refl, rfl, fun b o h => hI12 _ _ (hI11 _ _ (hI10 _ _ (hI9 _ _ (hI8 _ _ (hI6 _ _ (hI4 _ _ (hI3 _ _ (hIg _ _ (hI1 _ _ h))))))))), rfl⟩
end Go.V

/-
  Plain: what the laws of 'reach' say, of what the walks tell. No program in sight.
-/
set_option linter.unusedVariables false
set_option linter.unusedSimpArgs false
namespace Go.V
open Go

theorem listL_nodup (wh : Bool) : ∀ (s : List Bool) (i : Nat), (listL wh i s).Nodup
  | [], i => by simp [listL]
  | b :: s, i => by
    have ih := listL_nodup wh s (i + 1)
    unfold listL
    cases b == wh with
    | false => exact ih
    | true =>
      simp only [cond_true, List.nodup_cons]
      refine ⟨fun h => ?_, ih⟩
      obtain ⟨j, h1, _⟩ := (listL_mem wh s (i + 1) _).1 h
      omega

/-- Two rows of the same numbers, each once. -/
theorem nodup_len {l l' : List Int} (h : l.Nodup) (h' : l'.Nodup) (hm : ∀ k, k ∈ l ↔ k ∈ l') : l.length = l'.length := by
  have : l.Perm l' := (List.perm_ext_iff_of_nodup h h').2 fun {a} => hm a
  exact this.length_eq
theorem nodup_lt {n : Nat} {l : List Int} (h : l.Nodup) (hv : valid n l) : l.length ≤ n := by
  have h2 : ((List.range n).map fun (j : Nat) => (j : Int)).length = n := by simp
  rw [← h2]
  refine List.Nodup.length_le_of_subset h fun k hk => ?_
  obtain ⟨h3, h4⟩ := hv k hk
  exact List.mem_map.2 ⟨k.toNat, by simp; omega, by omega⟩

/-! ### Whom one comes to -/
section
variable {L : List (List Int)}
theorem callsL_in (hL : ∀ l ∈ L, valid L.length l) {a : Nat} {k : Int} (h : k ∈ L.getD a []) : a < L.length ∧ 0 ≤ k ∧ k < L.length := by
  have ha : a < L.length := by
    apply Nat.lt_of_not_le
    intro hle
    simp [List.getD_eq_getElem?_getD, hle] at h
  have e : L.getD a [] = L[a] := by simp [List.getD_eq_getElem?_getD, ha]
  rw [e] at h
  exact ⟨ha, hL _ (List.getElem_mem ha) k h⟩
theorem Comes.lt (hL : ∀ l ∈ L, valid L.length l) {i a : Nat} (hi : i < L.length) (h : Comes L i a) : a < L.length := by
  cases h with
  | self => exact hi
  | next _ hk => have := callsL_in hL hk; omega
/-- Whom the marks name. -/
def fromI (L : List (List Int)) (i : Nat) : List Int := listL true 0 (fromL L i)
theorem fromI_mem (hL : ∀ l ∈ L, valid L.length l) {i a : Nat} (hi : i < L.length) : (a : Int) ∈ fromI L i ↔ Comes L i a := by
  rw [fromI, listL_isM]
  exact (fromL_ok hL hi).iff a
theorem fromI_valid (hL : ∀ l ∈ L, valid L.length l) {i : Nat} (hi : i < L.length) : valid L.length (fromI L i) := by
  have := listL_valid (wh := true) (s := fromL L i)
  rwa [(fromL_ok hL hi).len] at this
theorem fromI_nat (hL : ∀ l ∈ L, valid L.length l) {i : Nat} (hi : i < L.length) {k : Int} (h : k ∈ fromI L i) : ∃ a : Nat, k = a ∧ a < L.length ∧ Comes L i a := by
  have hv := fromI_valid hL hi k h
  refine ⟨k.toNat, by omega, by omega, ?_⟩
  rw [← fromI_mem hL hi]
  rwa [show ((k.toNat : Nat) : Int) = k by omega]

/-- Nobody else: by rounds from itself on. -/
structure SeenInv (L : List (List Int)) (i : Nat) (S : List Int) (k : Nat) : Prop where
  nd : S.Nodup
  val : valid L.length S
  rch : ∀ a : Nat, (a : Int) ∈ S → Comes L i a
  self : (i : Int) ∈ S
  cl : ∀ j, j < k → ∀ x ∈ L.getD (S.getD j 0).toNat [], x ∈ S
theorem SeenInv.start {i : Nat} (hi : i < L.length) : SeenInv L i [(i : Int)] 0 :=
  ⟨by simp, fun k hk => by simp at hk; omega, fun a ha => by
    have : a = i := by
      have := List.mem_singleton.1 ha
      omega
    subst this
    exact .self, by simp, fun j hj => by omega⟩
theorem SeenInv.add {i : Nat} {S : List Int} {k : Nat} (hL : ∀ l ∈ L, valid L.length l) (h : SeenInv L i S k) (hk : k < S.length) {x : Int} (hx : x ∈ L.getD (S.getD k 0).toNat []) (hn : x ∉ S) : SeenInv L i (S ++ [x]) k := by
  have hv := callsL_in hL hx
  have hS : S.getD k 0 ∈ S := by
    simp only [List.getD_eq_getElem?_getD, List.getElem?_eq_getElem hk, Option.getD_some]
    exact List.getElem_mem hk
  have hSk := h.val _ hS
  refine ⟨?_, fun y hy => ?_, fun a ha => ?_, by simp [h.self], fun j hj y hy => ?_⟩
  · rw [List.nodup_append]
    refine ⟨h.nd, by simp, fun a ha b hb => ?_⟩
    simp only [List.mem_singleton] at hb
    subst hb
    intro e
    subst e
    exact hn ha
  · rcases List.mem_append.1 hy with hy | hy
    · exact h.val y hy
    · simp only [List.mem_singleton] at hy
      subst hy
      exact hv.2
  · rcases List.mem_append.1 ha with ha | ha
    · exact h.rch a ha
    · simp only [List.mem_singleton] at ha
      subst ha
      refine .next (h.rch (S.getD k 0).toNat ?_) hx
      rwa [show (((S.getD k 0).toNat : Nat) : Int) = S.getD k 0 by omega]
  · have hjl : j < S.length := by omega
    have e : (S ++ [x]).getD j 0 = S.getD j 0 := by simp [List.getD_eq_getElem?_getD, List.getElem?_append_left hjl]
    rw [e] at hy
    exact List.mem_append.2 (.inl (h.cl j hj y hy))
theorem SeenInv.next {i : Nat} {S : List Int} {k : Nat} (h : SeenInv L i S k) (hc : ∀ x ∈ L.getD (S.getD k 0).toNat [], x ∈ S) : SeenInv L i S (k + 1) :=
  ⟨h.nd, h.val, h.rch, h.self, fun j hj x hx => by
    by_cases e : j = k
    · subst e
      exact hc x hx
    · exact h.cl j (by omega) x hx⟩
theorem SeenInv.done {i : Nat} {S : List Int} {k : Nat} (hL : ∀ l ∈ L, valid L.length l) (hi : i < L.length) (h : SeenInv L i S k) (hk : S.length ≤ k) : S.length = (fromI L i).length := by
  refine nodup_len h.nd (listL_nodup ..) fun x => ⟨fun hx => ?_, fun hx => ?_⟩
  · have hv := h.val x hx
    have e : ((x.toNat : Nat) : Int) = x := by omega
    rw [← e] at hx ⊢
    exact (fromI_mem hL hi).2 (h.rch _ hx)
  · obtain ⟨a, rfl, -, hc⟩ := fromI_nat hL hi hx
    clear hx
    induction hc with
    | self => exact h.self
    | next _ hk' ih =>
      obtain ⟨j, hj, hjS⟩ := List.getElem_of_mem ih
      refine h.cl j (by omega) _ ?_
      have e : S.getD j 0 = S[j] := by simp [List.getD_eq_getElem?_getD, hj]
      rw [e, hjS]
      simpa using hk'

/-! ### The parts -/
/-- How many stand in the parts that have one. -/
def ownOf (i : Int) (ps : List (List Int)) : Nat := (ps.map fun p => bif decide (i ∈ p) then p.length else 0).sum
def cls (R : List (List Bool)) (n a : Nat) : List Nat := (List.range n).filter fun b => mat R a b && mat R b a
theorem cls_mem {R : List (List Bool)} {n a b : Nat} : b ∈ cls R n a ↔ b < n ∧ Mutual R a b := by
  simp [cls, Mutual]
theorem cls_nodup (R : List (List Bool)) (n a : Nat) : (cls R n a).Nodup := List.nodup_range.filter _
theorem ownOf_snoc (i : Int) (ps : List (List Int)) (p : List Int) : ownOf i (ps ++ [p]) = ownOf i ps + bif decide (i ∈ p) then p.length else 0 := by
  simp [ownOf]

theorem partGo_nodup (R : List (List Bool)) (i : Nat) : ∀ (f k : Nat) (p : List Bool) (q : List Int), q.Nodup → (∀ x ∈ q, x < (k : Int)) → (partGo R i f k p q).2.Nodup
  | 0, k, p, q, h, _ => h
  | f + 1, k, p, q, h, hq => by
    unfold partGo
    cases mat R i k && mat R k i with
    | false => exact partGo_nodup R i f (k + 1) p q h fun x hx => by have := hq x hx; omega
    | true =>
      refine partGo_nodup R i f (k + 1) _ _ ?_ fun x hx => ?_
      · rw [List.nodup_append]
        refine ⟨h, by simp, fun a ha b hb => ?_⟩
        simp only [List.mem_singleton] at hb
        have := hq a ha
        omega
      · rcases List.mem_append.1 hx with hx | hx
        · have := hq x hx
          omega
        · simp only [List.mem_singleton] at hx
          omega

theorem roundsGo_own {R : List (List Bool)} {n : Nat} (hR : Equ R n) {a : Nat} (ha : a < n) : ∀ (f i : Nat) (p : List Bool) (ps : List (List Int)), i + f = n → p.length = n → (∀ a, a < n → (isM p a ↔ ∃ j, j < i ∧ Mutual R j a)) →
    ownOf (a : Int) (roundsGo R n f i p ps) = ownOf (a : Int) ps + bif p.getD a false then 0 else (cls R n a).length
  | 0, i, p, ps, hi, hp, hpl => by
    have : p.getD a false = true := (hpl a ha).2 ⟨a, by omega, hR.refl a ha⟩
    rw [this]
    rfl
  | f + 1, i, p, ps, hi, hp, hpl => by
    unfold roundsGo
    cases hb : p.getD i false with
    | true =>
      simp only [cond_true]
      refine roundsGo_own hR ha f (i + 1) p ps (by omega) hp fun a ha => ?_
      rw [hpl a ha]
      constructor
      · rintro ⟨j, h1, h2⟩
        exact ⟨j, by omega, h2⟩
      · rintro ⟨j, h1, h2⟩
        by_cases e : j = i
        · subst e
          obtain ⟨j', g1, g2⟩ := (hpl j (by omega)).1 hb
          exact ⟨j', g1, hR.trans _ _ _ g2 h2⟩
        · exact ⟨j, by omega, h2⟩
    | false =>
      have hni : ¬ isM p i := by simpa [isM] using hb
      have hno : ∀ j, j < i → ¬ Mutual R j i := fun j hj hm => hni ((hpl i (by omega)).2 ⟨j, hj, hm⟩)
      have hnp : ∀ a, i ≤ a → a < n → Mutual R i a → ¬ isM p a := fun a h1 h2 h3 h4 => by
        obtain ⟨j, g1, g2⟩ := (hpl a h2).1 h4
        exact hno j g1 (hR.trans _ _ _ g2 h3.symm)
      obtain ⟨q1, q2, q3⟩ := partGo_ok (n := n) (n - i) i p [] (by omega) hp hnp
      have hl := (partGo_len R i (n - i) i p []).1
      have hnd := partGo_nodup R i (n - i) i p [] (by simp) (fun x hx => by simp at hx)
      simp only [cond_false]
      rw [roundsGo_own hR ha f (i + 1) _ _ (by omega) (by rw [hl]; exact hp) fun a ha => ?_, ownOf_snoc]
      · have hin : (a : Int) ∈ (partGo R i (n - i) i p []).2 ↔ i ≤ a ∧ Mutual R i a := by
          rw [q2]
          constructor
          · rintro (h | ⟨b, h1, h2, h3, h4⟩)
            · simp at h
            · have : a = b := by omega
              subst this
              exact ⟨h2, h4⟩
          · rintro ⟨h1, h2⟩
            exact .inr ⟨a, rfl, h1, ha, h2⟩
        by_cases hm : isM p a
        · have h1 : ¬ (a : Int) ∈ (partGo R i (n - i) i p []).2 := fun h => hnp a (hin.1 h).1 ha (hin.1 h).2 hm
          have h2 : isM (partGo R i (n - i) i p []).1 a := (q1 a).2 (.inl hm)
          rw [show (partGo R i (n - i) i p []).1.getD a false = true from h2, show p.getD a false = true from hm, decide_eq_false h1]
          rfl
        · have hm' : p.getD a false = false := by simpa [isM] using hm
          by_cases h1 : (a : Int) ∈ (partGo R i (n - i) i p []).2
          · have h2 : isM (partGo R i (n - i) i p []).1 a := (q1 a).2 (.inr ⟨(hin.1 h1).1, ha, (hin.1 h1).2⟩)
            rw [show (partGo R i (n - i) i p []).1.getD a false = true from h2, hm', decide_eq_true h1]
            simp only [cond_true, cond_false, Nat.add_zero]
            have hia := (hin.1 h1).2
            congr 1
            have := nodup_len hnd (l' := (cls R n a).map fun (j : Nat) => (j : Int)) ?_ fun x => ?_
            · simpa using this
            · exact (cls_nodup R n a).map _ (fun x y h => by omega)
            · rw [q2]
              simp only [List.not_mem_nil, false_or, List.mem_map, cls_mem]
              constructor
              · rintro ⟨b, rfl, g1, g2, g3⟩
                exact ⟨b, ⟨g2, hR.trans _ _ _ hia.symm g3⟩, rfl⟩
              · rintro ⟨b, ⟨g1, g2⟩, rfl⟩
                have g3 := hR.trans _ _ _ hia g2
                refine ⟨b, rfl, ?_, g1, g3⟩
                apply Nat.le_of_not_lt
                intro hlt
                exact hno b hlt g3.symm
          · have h2 : ¬ isM (partGo R i (n - i) i p []).1 a := fun h => by
              rcases (q1 a).1 h with h | ⟨g1, g2, g3⟩
              · exact hm h
              · exact h1 (hin.2 ⟨g1, g3⟩)
            have h2' : (partGo R i (n - i) i p []).1.getD a false = false := by simpa [isM] using h2
            rw [h2', hm', decide_eq_false h1]
            rfl
      · rw [q1, hpl a ha]
        constructor
        · rintro (⟨j, h1, h2⟩ | ⟨h1, h2, h3⟩)
          · exact ⟨j, by omega, h2⟩
          · exact ⟨i, by omega, h3⟩
        · rintro ⟨j, h1, h2⟩
          by_cases e : j = i
          · subst e
            refine .inr ⟨?_, ha, h2⟩
            apply Nat.le_of_not_lt
            intro hlt
            exact hno a hlt h2.symm
          · exact .inl ⟨j, by omega, h2⟩
theorem rounds_own (hL : ∀ l ∈ L, valid L.length l) {a : Nat} (ha : a < L.length) : ownOf (a : Int) (roundsL L) = (cls (matOf L) L.length a).length := by
  have hn : ∀ a, ¬ isM (List.replicate L.length false) a := fun a => by
    unfold isM
    by_cases h : a < L.length <;> simp [List.getD_eq_getElem?_getD, h]
  have h0 : (List.replicate L.length false).getD a false = false := by simpa [isM] using hn a
  unfold roundsL
  rw [roundsGo_own (equ_mat hL) ha _ _ _ _ (by omega) (by simp) fun a ha => ⟨fun h => (hn a h).elim, fun ⟨j, h, _⟩ => by omega⟩, h0]
  simp [ownOf]

/-- One's own part. -/
theorem own_pos (hL : ∀ l ∈ L, valid L.length l) {a : Nat} (ha : a < L.length) : 1 ≤ ownOf (a : Int) (roundsL L) := by
  rw [rounds_own hL ha]
  exact List.length_pos_of_mem (cls_mem.2 ⟨ha, (equ_mat hL).refl a ha⟩)
theorem nodup_two {l : List Nat} (h : l.Nodup) {a : Nat} (ha : a ∈ l) : 1 < l.length ↔ ∃ b ∈ l, b ≠ a := by
  constructor
  · intro hl
    match l, h, hl with
    | b :: c :: l, h, _ =>
      by_cases e : b = a
      · refine ⟨c, by simp, fun e' => ?_⟩
        subst e
        subst e'
        simp at h
      · exact ⟨b, by simp, e⟩
  · rintro ⟨b, hb, hne⟩
    match l, ha, hb with
    | [c], ha, hb => simp at ha hb; omega
    | _ :: _ :: _, _, _ => simp
/-- The first step of a way. -/
theorem Comes.first {i a : Nat} (h : Comes L i a) : a = i ∨ ∃ k : Nat, (k : Int) ∈ L.getD i [] ∧ Comes L k a := by
  induction h with
  | self => exact .inl rfl
  | @next b k hb hk ih =>
    rcases ih with rfl | ⟨c, h1, h2⟩
    · exact .inr ⟨k, hk, .self⟩
    · exact .inr ⟨c, h1, .next h2 hk⟩
theorem self_law (hL : ∀ l ∈ L, valid L.length l) {i : Nat} (hi : i < L.length) :
    ((L.getD i []).any fun k => (fromL L k.toNat).getD i false) = (decide ((i : Int) ∈ L.getD i []) || decide (1 < (ownOf (i : Int) (roundsL L) : Int))) := by
  have hE := equ_mat hL
  rw [Bool.eq_iff_iff]
  simp only [List.any_eq_true, Bool.or_eq_true, decide_eq_true_eq]
  have hown : (1 : Int) < (ownOf (i : Int) (roundsL L) : Int) ↔ ∃ b, b < L.length ∧ Mutual (matOf L) i b ∧ b ≠ i := by
    rw [rounds_own hL hi, show ((1 : Int) < ((cls (matOf L) L.length i).length : Int)) ↔ 1 < (cls (matOf L) L.length i).length by omega, nodup_two (cls_nodup ..) (cls_mem.2 ⟨hi, hE.refl i hi⟩)]
    constructor
    · rintro ⟨b, h1, h2⟩
      exact ⟨b, (cls_mem.1 h1).1, (cls_mem.1 h1).2, h2⟩
    · rintro ⟨b, h1, h2, h3⟩
      exact ⟨b, cls_mem.2 ⟨h1, h2⟩, h3⟩
  rw [hown]
  constructor
  · rintro ⟨k, hk, hf⟩
    have hv := callsL_in hL hk
    have hkk : ((k.toNat : Nat) : Int) = k := by omega
    have hc : Comes L k.toNat i := ((fromL_ok hL (i := k.toNat) (by omega)).iff i).1 hf
    by_cases e : k.toNat = i
    · left
      rw [← e, hkk, e]
      exact hk
    · right
      have h1 : Comes L i k.toNat := .next .self (by rw [hkk]; exact hk)
      exact ⟨k.toNat, by omega, ⟨(mat_ok hL hi).2 h1, (mat_ok hL (by omega)).2 hc⟩, e⟩
  · rintro (h | ⟨b, hb, hm, hne⟩)
    · exact ⟨_, h, by rw [Int.toNat_natCast]; exact ((fromL_ok hL hi).iff i).2 .self⟩
    · have h1 := (mat_ok hL hi).1 hm.1
      have h2 := (mat_ok hL hb).1 hm.2
      rcases h1.first with e | ⟨k, hk, hkb⟩
      · exact (hne e).elim
      · have hv := callsL_in hL hk
        exact ⟨k, hk, by rw [Int.toNat_natCast]; exact ((fromL_ok hL (i := k) (by omega)).iff i).2 (hkb.trans h2)⟩
end
end Go.V

/-
  The walk of bonsailaw12.ReachUseless.
-/
set_option linter.unusedVariables false
set_option linter.unusedSimpArgs false
namespace Go.V
open Go Go.Proofs

theorem roundsGo_length (R : List (List Bool)) (n : Nat) : ∀ (f i : Nat) (p : List Bool) (ps : List (List Int)), (roundsGo R n f i p ps).length ≤ ps.length + f
  | 0, i, p, ps => Nat.le_refl _
  | f + 1, i, p, ps => by
    unfold roundsGo
    cases p.getD i false with
    | true =>
      have := roundsGo_length R n f (i + 1) p ps
      simp only [cond_true]
      omega
    | false =>
      have := roundsGo_length R n f (i + 1) (partGo R i (n - i) i p []).1 (ps ++ [(partGo R i (n - i) i p []).2])
      simp only [cond_false]
      simp only [List.length_append, List.length_cons, List.length_nil] at this
      omega
theorem roundsG_length (deb : List Int) {g : Gr} (hn : g.ds.length = g.n) : (roundsG deb g).length ≤ g.n := by
  unfold roundsG
  cases decide (mayG deb g = 0) with
  | false => simp
  | true =>
    have := roundsGo_length (matOf (callsL g)) (callsL g).length (callsL g).length 0 (List.replicate (callsL g).length false) []
    simp only [cond_true, roundsL]
    simp only [callsL, List.length_map, hn, List.length_nil, Nat.zero_add] at this ⊢
    exact this

theorem parts_give {I : GH} {os : OS} {rs : List Rw} (hos : os.ok 1 (rs.map Rw.val)) (hrs : ∀ r ∈ rs, r.ok I) {e : Nat} {Mr : List Blk} (hd : ∀ x ∈ os.blk e ++ Mr, I x.num = none) (hn : os.n ≤ 1099511627776) :
    ∃ (I' : GH) (x : Ls), Wk [] I (os.blk e ++ Mr) I' Mr ∧ (∀ b o, I b = some o → I' b = some o) ∧ os.val = x.val ∧ x.ok I' ∧ x.ll = rs.map (·.l) := by
  obtain ⟨I', h1, h2, h3⟩ := OS.give (b := 24) (e := e) hos (by omega) (fun g hg => hd ⟨g, .cells os.cur.toArray e (0, 0)⟩ (by simp [OS.blk, hg])) Mr
  exact ⟨I', ⟨rs, _, _, _⟩, h1, h2, rfl, ⟨h3, fun r hr => (hrs r hr).mono h2⟩, rfl⟩

theorem psum_le (l : List Nat) (k : Nat) : (l.take k).sum ≤ l.sum := by
  have h := congrArg List.sum (List.take_append_drop k l)
  rw [List.sum_append] at h
  omega

theorem may_pos {deb : List Int} {g : Gr} (hn : g.ds.length = g.n) (h : mayG deb g = 0) : 0 < g.n := by
  apply Nat.pos_of_ne_zero
  intro h0
  rw [mayG] at h
  simp [h0] at h

/-- What stands where a grammar may be. -/
structure Okay (g : Gr) : Prop where
  m : mayG debL g = 0
  n : g.ds.length = g.n
theorem Okay.L {g : Gr} (h : Okay g) : (callsL g).length = g.n := by simp [callsL, h.n]
theorem Okay.v {g : Gr} (h : Okay g) : ∀ l ∈ callsL g, valid (callsL g).length l := callsL_valid h.n
theorem Okay.calls {g : Gr} (h : Okay g) {i : Nat} (hi : i < g.n) : callsG debL g i = (callsL g).getD i [] := by
  have : inR (i : Int) g.n = true := by simp [inR]; omega
  simp [callsG, this, h.m]
theorem Okay.from {g : Gr} (h : Okay g) {i : Nat} (hi : i < g.n) : fromG debL g i = fromI (callsL g) i := by
  have : inR (i : Int) g.n = true := by simp [inR]; omega
  simp [fromG, this, h.m, fromI]
theorem Okay.useless {g : Gr} (h : Okay g) : uselessG debL g = listL false 0 (fromL (callsL g) 0) := by
  have := may_pos h.n h.m
  have : ¬ g.n = 0 := by omega
  simp [uselessG, h.m, this]
theorem Okay.rounds {g : Gr} (h : Okay g) : roundsG debL g = roundsL (callsL g) := by
  simp [roundsG, h.m]
theorem Okay.self {g : Gr} (h : Okay g) {i : Nat} (hi : i < g.n) : selfG debL g i = ((callsL g).getD i []).any fun k => (fromL (callsL g) k.toNat).getD i false := by
  have : inR (i : Int) g.n = true := by simp [inR]; omega
  simp [selfG, this, h.m]

set_option maxHeartbeats 4000000 in
theorem reachUseless_V {I : GH} (hT : Tabs I debL) {g : Gr} (hg : GrW I g) : SpecE Tryd.prog 5 [g.val] I [] fun v I' M' => v = .bool true := by
  refine specE_of_V [] TrydEOK Tryd.func5 rfl rfl rfl ?_
  intro B h0
  refine CallOb.mk [] [] _ (.refl _) (works_spec hT) ?_
  rintro v I1 M1 - ⟨rfl, hI1, rfl⟩
  have hT1 := hT.mono hI1
  have hg1 := hg.mono hI1
  refine GuardOb.mk (fun _ => ?_) (fun h => by simp at h)
  refine CallOb.mk [] [] _ (.refl _) (long_spec hg1) ?_
  rintro v I2 M2 - ⟨⟨r, rfl, hr⟩, rfl, rfl⟩
  refine CondOb.mk (fun h => ?_) (fun h => ?_)
  · refine CallOb.mk [] [] _ (.refl _) (works_spec hT1) ?_
    rintro v I3 M3 - ⟨rfl, hI3, rfl⟩
    exact ⟨_, _, .refl, rfl⟩
  have hs := hr h
  have hok := hg1.ok hs
  have hgn := hok.n
  have hn : g.n ≤ 1099511627776 := by have := hs.n; omega
  refine CodeOb.draw TrydEOK rfl rfl rfl ?_
  refine PCallOb.mk _ (Useless_spec hT1 hok hn) ?_
  rintro v I3 M3 hI3 ⟨-, x1, rfl, hx1, hl1, rfl⟩
  refine PCallOb.mk _ (From_spec (hT1.mono hI3) (hok.mono hI3) hn 0) ?_
  rintro v I4 M4 hI4 ⟨-, x2, rfl, hx2, hl2, rfl⟩
  have hT4 := (hT1.mono hI3).mono hI4
  have hok4 := (hok.mono hI3).mono hI4
  refine CallOb.mkD [] _ _ (.refl _) (Rounds_spec hT4 hok4 hn) ?_
  rintro v I5 M5 hI5 hD5 ⟨-, os, rs, rfl, hos, hrs, hrl, rfl⟩
  have hosn : os.n ≤ 1099511627776 := by
    have h1 := hos.len
    have h2 := congrArg List.length hrl
    have h3 := roundsG_length debL hgn
    simp only [List.length_map] at h1 h2
    omega
  obtain ⟨I6, x3, hW6, hI6, hv3, hx3, hl3⟩ := parts_give hos hrs hD5 hosn
  rw [hv3]
  rw [hrl] at hl3
  refine CallOb.mkW I6 [] _ _ hW6 (May_spec ((hT4.mono hI5).mono hI6) ((hok4.mono hI5).mono hI6)) ?_
  rintro v I7 M7 hI7 - ⟨rfl, -, rfl⟩
  have hT7 := ((hT4.mono hI5).mono hI6).mono hI7
  have hok7 := ((hok4.mono hI5).mono hI6).mono hI7
  have hx1 := (((hx1.mono hI4).mono hI5).mono hI6).mono hI7
  have hx2 := ((hx2.mono hI5).mono hI6).mono hI7
  have hx3 := hx3.mono hI7
  have n1 := hx1.n
  have n2 := hx2.n
  have n3 := hx3.n
  have n3' : x3.ll.length = x3.n := by simp [Ls.ll, n3]
  have hll3 := n3'
  have c3 := hx3.rs.cap
  rw [hl1] at n1
  rw [hl2] at n2
  rw [hl3] at n3'
  refine CondOb.mk (fun h => ?_) (fun h => ?_)
  · have hm : mayG debL g ≠ 0 := by simpa using h
    have e1 : uselessG debL g = [] := by simp [uselessG, hm]
    have e2 : fromG debL g 0 = [] := by simp [fromG, hm]
    have e3 : roundsG debL g = [] := by simp [roundsG, hm]
    rw [e1] at n1
    rw [e2] at n2
    rw [e3] at n3'
    simp only [List.length_nil] at n1 n2 n3'
    refine ArithOb.mk (0 : Int) (wr_eq (by omega) (by omega)) ?_
    refine ArithOb.mk (0 : Int) (wr_eq (by omega) (by omega)) ?_
    exact ⟨_, _, .refl, rfl⟩
  have hm : mayG debL g = 0 := by simpa using h
  have O : Okay g := ⟨hm, hgn⟩
  have hpos := may_pos hgn hm
  have hLn := O.L
  have hF := fromL_ok O.v (i := 0) (by omega)
  rw [O.useless] at hl1 n1
  rw [show (0 : Int) = ((0 : Nat) : Int) from rfl, O.from hpos] at hl2 n2
  rw [O.rounds] at hl3
  have hsum : (x3.ll.map List.length).sum = g.n := by rw [hl3, roundsL_sum O.v, hLn]
  have hboth : x1.n + x2.n = g.n := by
    have := listL_both (fromL (callsL g) 0) 0 0
    rw [hF.len, hLn] at this
    rw [← n1, ← n2, fromI]
    omega
  -- how many there are in the parts
  refine LoopOb.inv (ι := Nat × Nat) (fun y => { fl := [(1, .ref 1 0), (3, .val x1.val), (4, .val x2.val), (5, .val x3.val), (6, .val (.int .i64 y.1)), (7, .val (.int .i64 y.2))], cl := [(1, [.slice g.a g.n g.c])], gi := I7 })
    (fun y => y.2 ≤ x3.n ∧ y.1 = ((x3.ll.map List.length).take y.2).sum) (fun y => x3.n - y.2) ?_ ?_
  · exact ⟨(0, 0), ⟨Nat.zero_le _, by simp⟩, .sub (List.nil_sublist _) .refl, .cons .refl (.cons .refl (.cons .refl (.cons .refl (.cons .refl (.cons .refl .nil))))), .cons rfl .nil⟩
  rintro ⟨al, k⟩ ⟨hk, hal⟩
  simp only at hk hal
  have hle := psum_le (x3.ll.map List.length) k
  refine CondOb.mk (fun h => ?_) (fun h => ?_)
  · have hlt : k < x3.n := by simpa using h
    obtain ⟨ad, had, hrd⟩ := hx3.rs.one (f := Rw.val) (j := k) hlt (by omega)
    have hrk := (hx3.rows _ (List.getElem_mem (h := (by omega : k < x3.rows.length)))).n
    have hlk : k < x3.ll.length := by omega
    have hek : x3.ll[k] = (x3.rows[k]'(by omega)).l := by simp [Ls.ll]
    have hlk2 := psum_le (x3.ll.map List.length) (k + 1)
    have hst : ((x3.ll.map List.length).take (k + 1)).sum = al + (x3.rows[k]'(by omega)).n := by
      rw [List.take_succ_eq_append_getElem (by simpa using hlk), List.sum_append, ← hal, List.getElem_map, hek, hrk]
      simp
    refine IdxOb.mk ad k had rfl hlt ?_
    refine LoadOb.mk _ (hrd _) ?_
    refine ArithOb.mk ((al + (x3.rows[k]'(by omega)).n : Nat) : Int) (wr_eq (by omega) (by omega)) ?_
    refine ArithOb.mk _ (next_wr (i := k) (by omega)) ?_
    exact ⟨(_, k + 1), ⟨⟨by simp only; omega, hst.symm⟩, by simp only; omega⟩, .refl, .cons .refl (.cons .refl (.cons .refl (.cons .refl (.cons .refl (.cons .refl .nil))))), .cons rfl .nil⟩
  have hge : x3.n ≤ k := by simpa using h
  have haln : al = g.n := by
    rw [hal, List.take_of_length_le (by rw [List.length_map]; omega), hsum]
  clear hal hle
  subst haln
  refine ArithOb.mk ((x1.n + x2.n : Nat) : Int) (wr_eq (by omega) (by omega)) ?_
  refine GuardOb.mk (fun _ => ?_) (fun h => ?_)
  rotate_left
  · exact absurd h (by rw [hboth]; simp)
  refine CallOb.mk [] _ _ (.refl _) (has_rw hx1 (by omega) 0) ?_
  rintro v I8 M8 - ⟨rfl, rfl, rfl⟩
  have h0u : (0 : Int) ∉ x1.l := by
    rw [hl1, show (0 : Int) = ((0 : Nat) : Int) from rfl, listL_notM]
    rintro ⟨-, h⟩
    exact h ((hF.iff 0).2 .self)
  refine GuardOb.mk (fun _ => ?_) (fun h => ?_)
  rotate_left
  · exact absurd h (by simp [h0u])
  refine CondOb.mk (fun h => ?_) (fun _ => ?_)
  · exact absurd h (by simp)
  -- each rule
  refine LoopOb.inv (ι := Nat × GH) (fun y => { fl := [(1, .ref 1 0), (3, .val x1.val), (4, .val x2.val), (8, .val (.int .i64 y.1))], cl := [(1, [.slice g.a g.n g.c])], gi := y.2 })
    (fun y => y.1 ≤ g.n ∧ ∀ b o, I8 b = some o → y.2 b = some o) (fun y => g.n - y.1) ?_ ?_
  · exact ⟨(0, I8), ⟨Nat.zero_le _, fun _ _ h => h⟩, .refl, .cons .refl (.cons .refl (.cons .refl (.cons .refl .nil))), .cons rfl .nil⟩
  rintro ⟨i, J⟩ ⟨hi, hJ⟩
  simp only at hi hJ
  have hx1J := hx1.mono hJ
  have hx2J := hx2.mono hJ
  refine CondOb.mk (fun h => ?_) (fun h => ?_)
  rotate_left
  · exact ⟨_, _, .refl, rfl⟩
  have hlt : i < g.n := by simpa using h
  have hu1 : (i : Int) ∈ x1.l ↔ ¬ Comes (callsL g) 0 i := by
    rw [hl1, listL_notM, hF.iff i, hF.len, hLn]
    exact ⟨fun h => h.2, fun h => ⟨hlt, h⟩⟩
  have hu2 : (i : Int) ∈ x2.l ↔ Comes (callsL g) 0 i := by
    rw [hl2, fromI_mem O.v (by omega)]
  refine CallOb.mk [] _ _ (.refl _) (has_rw hx1J (by omega) i) ?_
  rintro v I9 M9 - ⟨rfl, rfl, rfl⟩
  refine CallOb.mk [] _ _ (.refl _) (has_rw hx2J (by omega) i) ?_
  rintro v I10 M10 - ⟨rfl, rfl, rfl⟩
  refine CondOb.mk (fun h => ?_) (fun _ => ?_)
  · exfalso
    by_cases hc : Comes (callsL g) 0 i
    · have a1 : ¬ (i : Int) ∈ x1.l := fun h => hu1.1 h hc
      have a2 := hu2.2 hc
      simp [a1, a2] at h
    · have a1 := hu1.2 hc
      have a2 : ¬ (i : Int) ∈ x2.l := fun h => hc (hu2.1 h)
      simp [a1, a2] at h
  refine CallOb.mk [] _ _ (.refl _) (Calls_spec (hT7.mono hJ) (hok7.mono hJ) hn i) ?_
  rintro v I11 M11 hI11 ⟨-, x4, rfl, hx4, hl4, rfl⟩
  rw [O.calls hlt] at hl4
  have n4 := hx4.n
  have hx1K := hx1J.mono hI11
  have hx2K := hx2J.mono hI11
  have hn4 : x4.n ≤ 140737488355328 := by have := hx4.rs.cap; omega
  refine LoopOb.inv (ι := Nat) (fun k => { fl := [(1, .ref 1 0), (3, .val x1.val), (4, .val x2.val), (8, .val (.int .i64 i)), (9, .val x4.val), (10, .val (.int .i64 k))], cl := [(1, [.slice g.a g.n g.c])], gi := I11 })
    (fun k => k ≤ x4.n) (fun k => x4.n - k) ?_ ?_
  · exact ⟨0, Nat.zero_le _, .refl, .cons .refl (.cons .refl (.cons .refl (.cons .refl (.cons .refl (.cons .refl .nil))))), .cons rfl .nil⟩
  rintro k hk
  refine CondOb.mk (fun h => ?_) (fun h => ?_)
  rotate_left
  · refine ArithOb.mk _ (next_wr (i := i) (by omega)) ?_
    exact ⟨(i + 1, I11), ⟨⟨by simp only; omega, fun b o h => hI11 _ _ (hJ _ _ h)⟩, by simp only; omega⟩, .refl, .cons .refl (.cons .refl (.cons .refl (.cons .refl .nil))), .cons rfl .nil⟩
  have hkl : k < x4.n := by simpa using h
  refine CallOb.mk [] _ _ (.refl _) (has_rw hx2K (by omega) i) ?_
  rintro v I12 M12 - ⟨rfl, rfl, rfl⟩
  refine GuardOb.mk (fun h => ?_) (fun h => ?_)
  rotate_left
  · refine ArithOb.mk _ (next_wr (i := k) (by omega)) ?_
    exact ⟨k + 1, ⟨by omega, by omega⟩, .refl, .cons .refl (.cons .refl (.cons .refl (.cons .refl (.cons .refl (.cons .refl .nil))))), .cons rfl .nil⟩
  have hci : Comes (callsL g) 0 i := hu2.1 (by simpa using h)
  obtain ⟨ad, had, hrd⟩ := hx4.rs.one (j := k) hkl (by omega)
  refine IdxOb.mk ad k had rfl hkl ?_
  refine LoadOb.mk _ (hrd _) ?_
  refine CallOb.mk [] _ _ (.refl _) (has_rw hx1K (by omega) _) ?_
  rintro v I13 M13 - ⟨rfl, rfl, rfl⟩
  refine CondOb.mk (fun h => ?_) (fun _ => ?_)
  · exfalso
    have h1 : x4.l[k]'(by omega) ∈ x1.l := by simpa using h
    have h2 : x4.l[k]'(by omega) ∈ (callsL g).getD i [] := by
      rw [← hl4]
      exact List.getElem_mem _
    have h3 := callsL_in O.v h2
    have e : (((x4.l[k]'(by omega)).toNat : Nat) : Int) = x4.l[k]'(by omega) := by omega
    rw [← e] at h1 h2
    rw [hl1, listL_notM, hF.iff] at h1
    exact h1.2 (.next hci h2)
  refine ArithOb.mk _ (next_wr (i := k) (by omega)) ?_
  exact ⟨k + 1, ⟨by omega, by omega⟩, .refl, .cons .refl (.cons .refl (.cons .refl (.cons .refl (.cons .refl (.cons .refl .nil))))), .cons rfl .nil⟩
end Go.V

/-
  Walks: bonsairef04.Fits, of any node.
-/
set_option linter.unusedVariables false
set_option linter.unusedSimpArgs false
namespace Go.V
open Go Go.Proofs

/-- Each kind's own words. -/
def fitsK (z : Bool) (d : Nd) (n : Int) : Bool :=
  bif decide (d.k = 0) then z && (plainR d && decide (n = 0)) else
  bif decide (d.k = 1) then plainR d && decide (n = 0) else
  bif decide (d.k = 2) then z && (decide (d.lo = 0) && (decide (d.hi = 0) && (decide (n = 0) && (decide ((1 : Int) ≤ d.t.size) && decide ((d.t.size : Int) ≤ 255))))) else
  bif decide (d.k = 3) then z && (decide (d.lo = 0) && (decide (d.hi = 0) && (decide (n = 0) && mayName d.t))) else
  bif decide (d.k = 4) || decide (d.k = 5) then z && (plainR d && decide (2 ≤ n)) else
  bif decide (d.k = 6) then z && (decide (d.t = ⟨#[]⟩) && (decide (n = 1) && (decide (0 ≤ d.lo) && (decide (d.lo ≤ 99) && (decide (d.hi = -1) || (decide (d.lo ≤ d.hi) && decide (d.hi ≤ 99))))))) else
  bif decide (d.k = 7) || decide (d.k = 8) then z && (plainR d && decide (n = 1)) else
  bif decide (d.k = 9) then z && (decide (d.lo = 0) && (decide (d.hi = 0) && (decide (n = 1) && mayName d.t))) else false

theorem empty_size (s : ByteArray) : decide (s = ⟨#[]⟩) = decide (s.size = 0) := by
  rw [Bool.eq_iff_iff]
  simp only [decide_eq_true_eq]
  constructor
  · rintro rfl
    rfl
  · intro h
    cases s with
    | mk d =>
      have : d.size = 0 := h
      simp [Array.eq_empty_of_size_eq_zero this]
theorem fitsK_eq {d : Nd} (hk : 0 ≤ d.k ∧ d.k < 256) (n : Int) : fitsK d.setZ d n = fits d n := by
  by_cases h10 : 10 ≤ d.k
  · have e : fits d n = false := by simp [fits, h10]
    rw [e]
    unfold fitsK
    have h : ∀ j : Int, j < 10 → decide (d.k = j) = false := fun j hj => by simp; omega
    rw [h 0, h 1, h 2, h 3, h 4, h 5, h 6, h 7, h 8, h 9] <;> first | rfl | omega
  have hcases : d.k = 0 ∨ d.k = 1 ∨ d.k = 2 ∨ d.k = 3 ∨ d.k = 4 ∨ d.k = 5 ∨ d.k = 6 ∨ d.k = 7 ∨ d.k = 8 ∨ d.k = 9 := by omega
  generalize hz : d.setZ = z
  have hsz := empty_size d.t
  have hemp : (d.t = ByteArray.empty) ↔ d.t.size = 0 := by
    rw [← decide_eq_decide]
    exact hsz
  rcases hcases with h | h | h | h | h | h | h | h | h | h <;> rw [Bool.eq_iff_iff] <;> simp [fitsK, fits, h, hz, plainR, cntLo, cntHi, countsL, hemp] <;> cases z <;> first | (simp; done) | grind

theorem BinOb.eq4z {P : Program} {E : Env} (hE : EOK P E) {t e : Nat} {ti ei : TI} {x y : Operand} (ht : E t = some ti) (hts : ti.sh = .array 4 e) (he : E e = some ei) {k : IntKind} (hes : ei.sh = .int k)
    (hg : P.eqGuardType P.depth t = false) {a0 a1 a2 a3 b0 b1 b2 b3 : Int} {V : Value → Prop} {other : Prop} (z : Bool) (hz : (a0 == b0 && (a1 == b1 && (a2 == b2 && a3 == b3))) = z)
    (h : V (.bool z)) : BinOb P .eql t x y (.val (.agg #[.int k a0, .int k a1, .int k a2, .int k a3])) (.val (.agg #[.int k b0, .int k b1, .int k b2, .int k b3])) V other :=
  .eq4 hE ht hts he hes hg (by rw [hz]; exact h)

set_option maxHeartbeats 40000000 in
set_option maxRecDepth 20000 in
theorem RFits_gen {I : GH} {d : Nd} (hk : 0 ≤ d.k ∧ d.k < 256) (n : Int) : Spec Tryd.prog 51 [d.val, .int .i64 n] I []
    (fun v I' M' => v = .bool (fits d n) ∧ I' = I ∧ M' = []) := by
  rw [← fitsK_eq hk]
  obtain ⟨k, s0, s1, s2, s3, s, lo, hi, ka, kn, kc, kids⟩ := d
  clear hk
  refine spec_of_V [] TrydEOK Tryd.func51 rfl rfl rfl ?_
  intro B h0
  obtain ⟨z, hz⟩ : ∃ z, Nd.setZ ⟨k, s0, s1, s2, s3, s, lo, hi, ka, kn, kc, kids⟩ = z := ⟨_, rfl⟩
  rw [hz]
  refine BinOb.eq4z TrydEOK (e := 27) rfl rfl rfl rfl (by kernel_rfl) z hz ?_
  repeat' (first
    | refine GuardOb.mk (fun h => ?_) (fun h => ?_)
    | refine CondOb.mk (fun h => ?_) (fun h => ?_)
    | refine BinOb.eq4z TrydEOK (e := 27) rfl rfl rfl rfl (by kernel_rfl) z hz ?_
    | (refine CallOb.mk [] [] _ (.refl _) (RMay_spec _ s) ?_; rintro v I' M' - ⟨rfl, rfl, rfl⟩))
  all_goals clear hz
  all_goals first
    | (refine ⟨_, _, .refl, ?_, rfl, rfl⟩; simp_all [fitsK, plainR]; done)
    | (refine ⟨_, _, .refl, ?_, rfl, rfl⟩; simp_all [fitsK, plainR]; omega)
    | (exfalso; simp_all; done)
    | (exfalso; simp_all; omega)
    | skip
end Go.V

/-
  Walks: bonsairef04.Right, of any tree.
-/
set_option linter.unusedVariables false
set_option linter.unusedSimpArgs false
namespace Go.V
open Go Go.Proofs

def b2i (b : Bool) : Int := bif b then 1 else 0
theorem kidsOk_none_of {i : Nat} : ∀ {ks : List Int} {s : List Bool} {k : Int}, k ∈ ks → (k < 0 ∨ (i : Int) ≤ k) → kidsOk i ks s = none
  | a :: ks, s, k, hk, h => by
    unfold kidsOk
    cases hb : decide (a < 0) || (decide ((i : Int) ≤ a) || s.getD a.toNat false) with
    | true => rfl
    | false =>
      simp only [cond_false]
      simp only [Bool.or_eq_false_iff, decide_eq_false_iff_not] at hb
      rcases List.mem_cons.1 hk with rfl | hk
      · rcases h with h | h
        · exact (hb.1 h).elim
        · exact (hb.2.1 h).elim
      · exact kidsOk_none_of hk h
theorem rootOk_false {root : Int} : ∀ {s : List Bool} {i j : Nat}, j < s.length → (s.getD j false == decide (((i + j : Nat) : Int) = root)) = true → rootOk root i s = false
  | b :: s, i, 0, _, h => by
    unfold rootOk
    rw [show (b == decide ((i : Int) = root)) = true by simpa using h]
    rfl
  | b :: s, i, j + 1, hj, h => by
    unfold rootOk
    cases b == decide ((i : Int) = root) with
    | true => rfl
    | false =>
      simp only [cond_false]
      refine rootOk_false (j := j) (by simpa using hj) ?_
      rw [show i + 1 + j = i + (j + 1) by omega]
      simpa using h
theorem rootOk_true {root : Int} : ∀ {s : List Bool} {i : Nat}, (∀ j, j < s.length → (s.getD j false == decide (((i + j : Nat) : Int) = root)) = false) → rootOk root i s = true
  | [], i, h => rfl
  | b :: s, i, h => by
    unfold rootOk
    have h0 := h 0 (by simp)
    rw [show (b == decide ((i : Int) = root)) = false by simpa using h0]
    simp only [cond_false]
    refine rootOk_true fun j hj => ?_
    have := h (j + 1) (by simpa using hj)
    rw [show i + 1 + j = i + (j + 1) by omega]
    simpa using this

/-- How far a tree's nodes have been gone over: the counts of parents. -/
structure ParInv (t : Tr) (P : List Int) (W : Int) : Prop where
  len : P.length = t.ns.length
  bd : ∀ c ∈ P, 0 ≤ c ∧ c ≤ W
/-- Either all was well so far (and the marks are the counts), or it is known that it was not. -/
def ParAt (t : Tr) (P : List Int) (rest : List Bool → Option (List Bool)) : Prop :=
  (∃ s : List Bool, s.length = t.ns.length ∧ P = s.map b2i ∧ nodesOk 0 t.ns (List.replicate t.ns.length false) = rest s) ∨
  (nodesOk 0 t.ns (List.replicate t.ns.length false) = none ∧ ∃ k, k < t.ns.length ∧ 2 ≤ P.getD k 0)
def restN (t : Tr) (i : Nat) (s : List Bool) : Option (List Bool) := nodesOk i (t.ns.drop i) s
def restK (t : Tr) (i : Nat) (d : Nd) (k : Nat) (s : List Bool) : Option (List Bool) := match kidsOk i (d.kids.drop k) s with
  | some s' => nodesOk (i + 1) (t.ns.drop (i + 1)) s'
  | none => none
theorem right_none {t : Tr} (h : nodesOk 0 t.ns (List.replicate t.ns.length false) = none) : right t = false := by
  simp [right, h]
theorem ParAt.start (t : Tr) : ParAt t (List.replicate t.ns.length 0) (restN t 0) :=
  .inl ⟨List.replicate t.ns.length false, by simp, by simp [b2i], rfl⟩
theorem ParAt.enter {t : Tr} {P : List Int} {i : Nat} (h : ParAt t P (restN t i)) (hi : i < t.ns.length) (hf : fits t.ns[i] t.ns[i].kids.length = true) : ParAt t P (restK t i t.ns[i] 0) := by
  rcases h with ⟨s, h1, h2, h3⟩ | h
  · refine .inl ⟨s, h1, h2, ?_⟩
    rw [h3, restN, List.drop_eq_getElem_cons hi, nodesOk, hf]
    rfl
  · exact .inr h
theorem ParAt.unfit {t : Tr} {P : List Int} {i : Nat} (h : ParAt t P (restN t i)) (hi : i < t.ns.length) (hf : fits t.ns[i] t.ns[i].kids.length = false) : right t = false := by
  refine right_none ?_
  rcases h with ⟨s, h1, h2, h3⟩ | h
  · rw [h3, restN, List.drop_eq_getElem_cons hi, nodesOk, hf]
    rfl
  · exact h.1
theorem ParAt.out {t : Tr} {P : List Int} {i k : Nat} {d : Nd} (h : ParAt t P (restK t i d k)) (hk : k < d.kids.length) (hf : d.kids[k] < 0 ∨ (i : Int) ≤ d.kids[k]) : right t = false := by
  refine right_none ?_
  rcases h with ⟨s, h1, h2, h3⟩ | h
  · rw [h3, restK, kidsOk_none_of (k := d.kids[k]) (by rw [List.drop_eq_getElem_cons hk]; exact .head _) hf]
  · exact h.1
theorem ParAt.kid {t : Tr} {P : List Int} {i k : Nat} {d : Nd} (hl : P.length = t.ns.length) (hi : i ≤ t.ns.length) (h : ParAt t P (restK t i d k)) (hk : k < d.kids.length) (h0 : 0 ≤ d.kids[k]) (h1 : d.kids[k] < i) :
    ParAt t (P.set d.kids[k].toNat (P.getD d.kids[k].toNat 0 + 1)) (restK t i d (k + 1)) := by
  have hkl : d.kids[k].toNat < P.length := by omega
  rcases h with ⟨s, g1, g2, g3⟩ | ⟨g1, j, g2, g3⟩
  · have hsl : d.kids[k].toNat < s.length := by omega
    have hg : P.getD d.kids[k].toNat 0 = b2i (s.getD d.kids[k].toNat false) := by
      rw [g2]
      simp [List.getD_eq_getElem?_getD, hsl]
    cases hb : s.getD d.kids[k].toNat false with
    | false =>
      refine .inl ⟨s.set d.kids[k].toNat true, by simpa using g1, ?_, ?_⟩
      · rw [hg, hb, g2, List.map_set]
        rfl
      · rw [g3, restK, List.drop_eq_getElem_cons hk, kidsOk, hb]
        simp only [Bool.or_false]
        rw [decide_eq_false (by omega), decide_eq_false (by omega)]
        rfl
    | true =>
      refine .inr ⟨?_, d.kids[k].toNat, by omega, ?_⟩
      · rw [g3, restK, List.drop_eq_getElem_cons hk, kidsOk, hb]
        simp
      · rw [hg, hb]
        simp [List.getD_eq_getElem?_getD, List.getElem?_set, hkl, b2i]
  · refine .inr ⟨g1, j, g2, ?_⟩
    simp only [List.getD_eq_getElem?_getD, List.getElem?_set] at g3 ⊢
    by_cases e : d.kids[k].toNat = j
    · subst e
      simp [hkl] at g3 ⊢
      omega
    · rw [if_neg e]
      exact g3
theorem ParAt.leave {t : Tr} {P : List Int} {i k : Nat} {d : Nd} (h : ParAt t P (restK t i d k)) (hk : d.kids.length ≤ k) : ParAt t P (restN t (i + 1)) := by
  rcases h with ⟨s, h1, h2, h3⟩ | h
  · refine .inl ⟨s, h1, h2, ?_⟩
    rw [h3, restK, List.drop_eq_nil_of_le hk]
    rfl
  · exact .inr h
theorem ParInv.kid {t : Tr} {P : List Int} {W : Int} (h : ParInv t P W) {k : Nat} (hk : k < P.length) : ParInv t (P.set k (P.getD k 0 + 1)) (W + 1) := by
  refine ⟨by simpa using h.len, fun c hc => ?_⟩
  have hg : P.getD k 0 ∈ P := by
    simp only [List.getD_eq_getElem?_getD, List.getElem?_eq_getElem hk, Option.getD_some]
    exact List.getElem_mem hk
  have := h.bd _ hg
  rcases List.mem_or_eq_of_mem_set hc with hc | rfl
  · have := h.bd c hc
    omega
  · omega
/-- What is asked of each count at the end. -/
def parBad (t : Tr) (P : List Int) (i : Nat) : Bool := (decide ((i : Int) = t.root) && !decide (P.getD i 0 = 0)) || (!decide ((i : Int) = t.root) && !decide (P.getD i 0 = 1))
theorem ParAt.bad {t : Tr} {P : List Int} (h : ParAt t P (restN t t.ns.length)) {i : Nat} (hi : i < t.ns.length) (hq : parBad t P i = true) : right t = false := by
  rcases h with ⟨s, h1, h2, h3⟩ | h
  · rw [restN, List.drop_length, nodesOk] at h3
    have : rootOk t.root 0 s = false := by
      refine rootOk_false (j := i) (by omega) ?_
      have hg : P.getD i 0 = b2i (s.getD i false) := by
        rw [h2]
        simp [List.getD_eq_getElem?_getD, h1, hi]
      rw [parBad, hg] at hq
      rw [Nat.zero_add]
      generalize s.getD i false = x at hq ⊢
      cases x <;> cases hd : decide ((i : Int) = t.root) <;> simp_all [b2i]
    simp [right, h3, this]
  · exact right_none h.1
theorem ParAt.good {t : Tr} {P : List Int} (h : ParAt t P (restN t t.ns.length)) (h0 : 0 ≤ t.root ∧ t.root < t.ns.length) (hq : ∀ i, i < t.ns.length → parBad t P i = false) : right t = true := by
  rcases h with ⟨s, h1, h2, h3⟩ | ⟨h1, k, h2, h3⟩
  · rw [restN, List.drop_length, nodesOk] at h3
    have : rootOk t.root 0 s = true := by
      refine rootOk_true fun i hi => ?_
      have hg : P.getD i 0 = b2i (s.getD i false) := by
        rw [h2]
        simp [List.getD_eq_getElem?_getD, hi]
      have hq' := hq i (by omega)
      rw [parBad, hg] at hq'
      rw [Nat.zero_add]
      generalize s.getD i false = x at hq' ⊢
      cases x <;> cases hd : decide ((i : Int) = t.root) <;> simp_all [b2i]
    simp [right, h3, this, h0.1, h0.2]
  · have := hq k h2
    simp only [parBad, Bool.or_eq_false_iff, Bool.and_eq_false_iff, decide_eq_false_iff_not, Bool.not_eq_false', decide_eq_true_eq] at this
    omega

set_option maxHeartbeats 4000000 in
theorem RRight_gen {I : GH} {t : Tr} (ht : t.ok I) (W : Nat) (hW : ∀ d ∈ t.ns, d.kn ≤ W) (hb : t.n * W ≤ 1152921504606846976) : Spec Tryd.prog 52 [t.val] I [] fun v I' M' => v = .bool (right t) ∧ I' = I ∧ M' = [] := by
  refine spec_of_V [] TrydEOK Tryd.func52 rfl rfl rfl ?_
  intro B h0
  have htn := ht.n
  have hcap := ht.rs.cap
  refine GuardOb.mk (fun h => ?_) (fun h => ?_)
  rotate_left
  · refine ⟨_, _, .refl, ?_, rfl, rfl⟩
    have : t.root < 0 := by simpa using h
    rw [show right t = false by simp [right]; omega]
  have hr0 : 0 ≤ t.root := by have := of_decide_eq_false h; omega
  refine CondOb.mk (fun h2 => ?_) (fun h2 => ?_)
  · refine ⟨_, _, .refl, ?_, rfl, rfl⟩
    have := of_decide_eq_true h2
    rw [show right t = false by simp [right]; omega]
  have hr1 : t.root < t.n := by have := of_decide_eq_false h2; omega
  refine MakeOb.mk t.n t.n rfl rfl (Nat.le_refl _) (by show 8 * t.n ≤ _; omega) (by omega) ?_
  refine AllocOb.mk fun b1 hb1 hbM1 => ?_
  refine LoopOb.inv (ι := Nat × List Int) (fun x => { fl := [(1, .ref 1 0), (3, .val (.slice (some ⟨b1, 0, none⟩) t.n t.n)), (4, .val (.int .i64 x.1))], cl := [(1, t.cells)], gi := I, mi := [intRow b1 x.2] })
    (fun x => x.1 ≤ t.n ∧ ParInv t x.2 (x.1 * W : Nat) ∧ ParAt t x.2 (restN t x.1)) (fun x => t.n - x.1) ?_ ?_
  · refine ⟨(0, List.replicate t.n 0), ⟨Nat.zero_le _, ⟨by simp [htn], fun c hc => by have := List.eq_of_mem_replicate hc; simp only; omega⟩, by rw [← htn]; exact ParAt.start t⟩, ?_, .cons .refl (.cons .refl (.cons .refl .nil)), .cons rfl .nil⟩
    simp only [rowOf_one, intRow, List.map_replicate, Nat.mul_one]
    exact .refl
  rintro ⟨i, P⟩ ⟨hi, hP, hA⟩
  simp only at hi hP hA
  have hPl := hP.len
  refine CondOb.mk (fun h => ?_) (fun h => ?_)
  · have hlt : i < t.n := by have := of_decide_eq_true h; omega
    have hlt' : i < t.ns.length := by omega
    obtain ⟨ad, had, hrd⟩ := ht.rs.row Nd.cells_len hlt hlt'
    have hdm : t.ns[i] ∈ t.ns := List.getElem_mem hlt'
    have hd := ht.ns _ hdm
    have hkn := hd.kn
    have hkW := hW _ hdm
    have hcap2 := hd.rs.cap
    have hiW : (i + 1) * W ≤ 1152921504606846976 := Nat.le_trans (Nat.mul_le_mul_right W hlt) hb
    rw [Nat.add_mul, Nat.one_mul] at hiW
    refine IdxOb.mk ad i had rfl hlt ?_
    refine LoadOb.mk _ (hrd _) ?_
    refine CallOb.mk [] _ _ (.refl _) (RFits_gen hd.k t.ns[i].kn) ?_
    rintro v I2 M2 - ⟨rfl, rfl, rfl⟩
    rw [← hkn]
    refine CondOb.mk (fun h3 => ?_) (fun h3 => ?_)
    · refine ⟨_, _, .sub (List.nil_sublist _) .refl, ?_, rfl, rfl⟩
      rw [hA.unfit hlt' (by simpa using h3)]
    have hA := hA.enter hlt' (by simpa using h3)
    generalize hdd : t.ns[i] = d at hd hkn hkW hcap2 hrd hA
    refine LoopOb.inv (ι := Nat × List Int) (fun x => { fl := [(1, .ref 1 0), (3, .val (.slice (some ⟨b1, 0, none⟩) t.n t.n)), (4, .val (.int .i64 i)), (5, .ref 5 0), (6, .val (.int .i64 x.1))], cl := [(1, t.cells), (5, d.cells)], gi := I2, mi := [intRow b1 x.2] })
      (fun x => x.1 ≤ d.kn ∧ ParInv t x.2 (i * W + x.1 : Nat) ∧ ParAt t x.2 (restK t i d x.1)) (fun x => d.kn - x.1) ?_ ?_
    · exact ⟨(0, P), ⟨Nat.zero_le _, hP, hA⟩, .refl, .cons .refl (.cons .refl (.cons .refl (.cons .refl (.cons .refl .nil)))), .cons rfl (.cons rfl .nil)⟩
    rintro ⟨k, Q⟩ ⟨hk, hQ, hB⟩
    simp only at hk hQ hB
    have hQl := hQ.len
    refine CondOb.mk (fun h4 => ?_) (fun h4 => ?_)
    · have hkl : k < d.kn := by have := of_decide_eq_true h4; omega
      have hkl' : k < d.kids.length := by omega
      obtain ⟨ak, hak, hrk⟩ := hd.rs.one hkl hkl'
      refine IdxOb.mk ak k hak rfl hkl ?_
      refine LoadOb.mk _ (hrk _) ?_
      refine GuardOb.mk (fun h5 => ?_) (fun h5 => ?_)
      rotate_left
      · refine ⟨_, _, .sub (List.nil_sublist _) .refl, ?_, rfl, rfl⟩
        rw [hB.out hkl' (.inl (by simpa using h5))]
      have hk0 : 0 ≤ d.kids[k] := by have := of_decide_eq_false h5; omega
      refine IdxOb.mk ak k hak rfl hkl ?_
      refine LoadOb.mk _ (hrk _) ?_
      refine CondOb.mk (fun h6 => ?_) (fun h6 => ?_)
      · refine ⟨_, _, .sub (List.nil_sublist _) .refl, ?_, rfl, rfl⟩
        rw [hB.out hkl' (.inr (of_decide_eq_true h6))]
      have hk1 : d.kids[k] < i := by have := of_decide_eq_false h6; omega
      have hkQ : d.kids[k].toNat < Q.length := by omega
      have hQb : 0 ≤ Q[d.kids[k].toNat] ∧ Q[d.kids[k].toNat] ≤ (i * W + k : Nat) := hQ.bd _ (List.getElem_mem hkQ)
      have hQg : Q.getD d.kids[k].toNat 0 = Q[d.kids[k].toNat] := by simp [List.getD_eq_getElem?_getD, hkQ]
      have hB' := hB.kid hQl (by omega) hkl' hk0 hk1
      have hQ' := hQ.kid hkQ
      rw [hQg] at hB' hQ'
      refine IdxOb.mk ak k hak rfl hkl ?_
      refine LoadOb.mk _ (hrk _) ?_
      refine IdxOb.mk ⟨b1, 0, none⟩ d.kids[k].toNat rfl (by omega) (by omega) ?_
      refine LoadOb.mk _ (intRow_rd (s := Q) (.head _) hkQ) ?_
      refine ArithOb.mk (Q[d.kids[k].toNat] + 1) (wr_eq rfl (by omega)) ?_
      refine IdxOb.mk ⟨b1, 0, none⟩ d.kids[k].toNat rfl (by omega) (by omega) ?_
      refine StoreOb.add [] [] _ _ rfl ?_ rfl ?_
      · simp only [List.size_toArray, List.length_map]
        show 0 + d.kids[k].toNat * 1 + 1 ≤ _
        omega
      have e := intRow_set Q d.kids[k].toNat hkQ (Q[d.kids[k].toNat] + 1)
      refine ArithOb.mk _ (next_wr (i := k) (by omega)) ?_
      refine ⟨(k + 1, Q.set d.kids[k].toNat (Q[d.kids[k].toNat] + 1)), ⟨⟨by simp only; omega, ?_, hB'⟩, by simp only; omega⟩, ?_, .cons .refl (.cons .refl (.cons .refl (.cons .refl (.cons .refl .nil)))), .cons rfl (.cons rfl .nil)⟩
      · simp only
        rw [show ((i * W + (k + 1) : Nat) : Int) = ((i * W + k : Nat) : Int) + 1 by omega]
        exact hQ'
      · simp only [intRow]
        rw [← e]
        simp only [Nat.zero_add, Nat.mul_one]
        exact .refl
    · have hge : d.kn ≤ k := by have := of_decide_eq_false h4; omega
      refine ArithOb.mk _ (next_wr (i := i) (by omega)) ?_
      refine ⟨(i + 1, Q), ⟨⟨by simp only; omega, ⟨hQl, fun c hc => ?_⟩, hB.leave (by omega)⟩, by simp only; omega⟩, .refl, .cons .refl (.cons .refl (.cons .refl .nil)), .cons rfl .nil⟩
      have := hQ.bd c hc
      simp only [Nat.add_mul, Nat.one_mul]
      omega
  have hge : i = t.n := by have := of_decide_eq_false h; omega
  have hA2 : ParAt t P (restN t t.ns.length) := by rw [htn, ← hge]; exact hA
  clear hP h hi hA
  subst hge
  refine LoopOb.inv (ι := Nat) (fun x => { fl := [(1, .ref 1 0), (3, .val (.slice (some ⟨b1, 0, none⟩) t.n t.n)), (7, .val (.int .i64 x))], cl := [(1, t.cells)], gi := I, mi := [intRow b1 P] })
    (fun x => x ≤ t.n ∧ ∀ j, j < x → parBad t P j = false) (fun x => t.n - x) ?_ ?_
  · exact ⟨0, ⟨Nat.zero_le _, fun j hj => by omega⟩, .refl, .cons .refl (.cons .refl (.cons .refl .nil)), .cons rfl .nil⟩
  rintro i ⟨hi, hq⟩
  refine CondOb.mk (fun h => ?_) (fun h => ?_)
  rotate_left
  · have hge : i = t.n := by have := of_decide_eq_false h; omega
    refine ⟨_, _, .sub (List.nil_sublist _) .refl, ?_, rfl, rfl⟩
    rw [hA2.good ⟨hr0, by omega⟩ fun j hj => hq j (by omega)]
  have hlt : i < t.n := by have := of_decide_eq_true h; omega
  have hiP : i < P.length := by omega
  have hrd : Rd I [intRow b1 P] ((⟨b1, 0, none⟩ : Addr).add (i * 1)) 1 [.int .i64 P[i]] := intRow_rd (.head _) hiP
  have hg : P.getD i 0 = P[i] := by simp [List.getD_eq_getElem?_getD, hiP]
  have hbad : parBad t P i = true → right t = false := hA2.bad (by omega)
  have hgo : parBad t P i = false → ∀ j, j < i + 1 → parBad t P j = false := fun h j hj => by
    by_cases e : j = i
    · rw [e]; exact h
    · exact hq j (by omega)
  rw [parBad, hg] at hbad hgo
  clear h hq hA2
  generalize P[i] = c at hbad hgo hrd
  refine GuardOb.mk (fun h => ?_) (fun h => ?_)
  · rw [h] at hbad hgo
    refine IdxOb.mk ⟨b1, 0, none⟩ i rfl rfl hlt ?_
    refine LoadOb.mk _ hrd ?_
    refine GuardOb.mk (fun h2 => ?_) (fun h2 => ?_)
    · refine GuardOb.mk (fun h3 => ?_) (fun _ => ?_)
      · exfalso
        rw [h] at h3
        cases h3
      · refine ArithOb.mk _ (next_wr (i := i) (by omega)) ?_
        exact ⟨i + 1, ⟨⟨by omega, hgo (by simp [h2])⟩, by omega⟩, .refl, .cons .refl (.cons .refl (.cons .refl .nil)), .cons rfl .nil⟩
    · refine ⟨_, _, .sub (List.nil_sublist _) .refl, ?_, rfl, rfl⟩
      rw [hbad (by simp [h2])]
  · rw [show decide ((i : Int) = t.root) = false from h] at hbad hgo
    refine GuardOb.mk (fun h3 => ?_) (fun h3 => ?_)
    · refine IdxOb.mk ⟨b1, 0, none⟩ i rfl rfl hlt ?_
      refine LoadOb.mk _ hrd ?_
      refine CondOb.mk (fun h2 => ?_) (fun h2 => ?_)
      · refine ⟨_, _, .sub (List.nil_sublist _) .refl, ?_, rfl, rfl⟩
        rw [hbad (by simp [h2])]
      · refine ArithOb.mk _ (next_wr (i := i) (by omega)) ?_
        exact ⟨i + 1, ⟨⟨by omega, hgo (by simp [h2])⟩, by omega⟩, .refl, .cons .refl (.cons .refl (.cons .refl .nil)), .cons rfl .nil⟩
    · exfalso
      rw [show decide ((i : Int) = t.root) = false from h] at h3
      cases h3
end Go.V

/-
  Walks: bonsairef04.Sub, of any right tree; Clean.
-/
set_option linter.unusedVariables false
set_option linter.unusedSimpArgs false
namespace Go.V
open Go Go.Proofs

/-! ### How many stand within a node -/
def szOf (ns : List Nd) : Int → Nat := tabOf 0 (fun d g => 1 + sumOf g d.kids) ns
theorem szOf_eq {t : Tr} (hr : right t = true) {j : Nat} (hj : j < t.ns.length) : szOf t.ns j = 1 + sumOf (szOf t.ns) t.ns[j].kids :=
  tabOf_eq (fun d g g' h => by rw [sumOf_congr h]) hr hj
theorem sz_root {t : Tr} (hr : right t = true) : szOf t.ns t.root ≤ t.ns.length := by
  have := right_sum hr (g := szOf t.ns) (c := fun _ => 1) fun j hj => by rw [szOf_eq hr hj]; exact Nat.le_refl _
  rwa [sum_const, Nat.one_mul] at this
theorem kidsOk_mark {i : Nat} : ∀ {ks : List Int} {s s' : List Bool}, kidsOk i ks s = some s' → ∀ j, s'.getD j false = true → s.getD j false = true ∨ ((j : Int) ∈ ks ∧ j < i)
  | [], s, s', h, j, hj => by
    simp only [kidsOk, Option.some.injEq] at h
    subst h
    exact .inl hj
  | k :: ks, s, s', h, j, hj => by
    unfold kidsOk at h
    cases hb : decide (k < 0) || (decide ((i : Int) ≤ k) || s.getD k.toNat false) with
    | true => rw [hb] at h; cases h
    | false =>
      rw [hb] at h
      simp only [cond_false] at h
      simp only [Bool.or_eq_false_iff, decide_eq_false_iff_not] at hb
      rcases kidsOk_mark h j hj with h1 | h1
      · by_cases e : k.toNat = j
        · right
          refine ⟨?_, by omega⟩
          have : (j : Int) = k := by omega
          rw [this]
          exact .head _
        · left
          simp only [List.getD_eq_getElem?_getD, List.getElem?_set] at h1 ⊢
          rwa [if_neg e] at h1
      · exact .inr ⟨.tail _ h1.1, h1.2⟩
theorem nodesOk_mark : ∀ {ds : List Nd} {i : Nat} {s s' : List Bool}, nodesOk i ds s = some s' → ∀ j, s'.getD j false = true → s.getD j false = true ∨ ∃ q, ∃ h : q < ds.length, (j : Int) ∈ ds[q].kids ∧ j < i + q
  | [], i, s, s', h, j, hj => by
    simp only [nodesOk, Option.some.injEq] at h
    subst h
    exact .inl hj
  | d :: ds, i, s, s', h, j, hj => by
    unfold nodesOk at h
    cases hf : fits d d.kids.length with
    | false => rw [hf] at h; cases h
    | true =>
      rw [hf] at h
      simp only [cond_true] at h
      split at h
      · rename_i s1 hs1
        rcases nodesOk_mark h j hj with h1 | ⟨q, hq, h1, h2⟩
        · rcases kidsOk_mark hs1 j h1 with h3 | ⟨h3, h4⟩
          · exact .inl h3
          · exact .inr ⟨0, by simp, h3, by omega⟩
        · exact .inr ⟨q + 1, by simpa using hq, by simpa using h1, by omega⟩
      · cases h
theorem right_parent {t : Tr} (hr : right t = true) {j : Nat} (hj : j < t.ns.length) (hne : (j : Int) ≠ t.root) : ∃ p, ∃ h : p < t.ns.length, (j : Int) ∈ t.ns[p].kids ∧ j < p := by
  unfold right at hr
  simp only [Bool.and_eq_true] at hr
  obtain ⟨_, _, hr⟩ := hr
  split at hr
  · rename_i s hs
    have hsl := (free_nodes (g := fun _ => 0) (c := fun _ => 0) hs (by simp) (fun j hj => by simp)).1
    have hm : s.getD j false = true := by
      cases hb : s.getD j false with
      | true => rfl
      | false =>
        have := rootOk_false (root := t.root) (s := s) (i := 0) (j := j) (by rw [hsl]; simpa using hj) (by rw [hb, Nat.zero_add]; simp [hne])
        rw [this] at hr
        cases hr
    rcases nodesOk_mark hs j hm with h1 | ⟨q, hq, h1, h2⟩
    · simp [List.getD_eq_getElem?_getD, hj] at h1
    · exact ⟨q, hq, h1, by omega⟩
  · cases hr
theorem sumOf_mem {g : Int → Nat} : ∀ {ks : List Int} {k : Int}, k ∈ ks → g k ≤ sumOf g ks
  | a :: ks, k, h => by
    simp only [sumOf, List.map_cons, List.sum_cons]
    rcases List.mem_cons.1 h with rfl | h
    · omega
    · have := sumOf_mem (g := g) h
      simp only [sumOf] at this
      omega
theorem sz_le {t : Tr} (hr : right t = true) : ∀ (m j : Nat), j < t.ns.length → t.ns.length - j ≤ m → szOf t.ns j ≤ t.ns.length
  | 0, j, hj, hm => by omega
  | m + 1, j, hj, hm => by
    by_cases e : (j : Int) = t.root
    · rw [e]
      exact sz_root hr
    · obtain ⟨p, hp, hk, hlt⟩ := right_parent hr hj e
      have h1 := sz_le hr m p hp (by omega)
      rw [szOf_eq hr hp] at h1
      have := sumOf_mem (g := szOf t.ns) hk
      omega
theorem sumOf_append (g : Int → Nat) (a b : List Int) : sumOf g (a ++ b) = sumOf g a + sumOf g b := by
  simp [sumOf]

theorem len_le_sum {t : Tr} (hr : right t = true) : ∀ {l : List Int}, valid t.ns.length l → l.length ≤ sumOf (szOf t.ns) l
  | [], _ => by simp
  | a :: l, hv => by
    have h1 := len_le_sum hr (l := l) fun k hk => hv k (.tail _ hk)
    have h2 := hv a (.head _)
    obtain ⟨a, rfl⟩ := Int.eq_ofNat_of_zero_le h2.1
    have h3 := szOf_eq hr (j := a) (by omega)
    simp only [sumOf, List.map_cons, List.sum_cons, List.length_cons] at h1 ⊢
    have h4 : szOf t.ns (Int.ofNat a) = szOf t.ns a := rfl
    omega
/-! ### Sub, plainly -/
def backGo (ns : List Nd) : Nat → List Int → List Int → List Int
  | 0, _, b => b
  | f + 1, todo, b => match todo.getLast? with
    | none => b
    | some n => backGo ns f (todo.dropLast ++ (nodeAt ns n.toNat).kids) (b ++ [n])
def backOf (ns : List Nd) (node : Int) : List Int := backGo ns (ns.length + 1) [node] []
theorem backGo_nil (ns : List Nd) (f : Nat) (b : List Int) : backGo ns f [] b = b := by cases f <;> rfl
theorem backGo_snoc (ns : List Nd) (f : Nat) (todo : List Int) (n : Int) (b : List Int) : backGo ns (f + 1) (todo ++ [n]) b = backGo ns f (todo ++ (nodeAt ns n.toNat).kids) (b ++ [n]) := by
  rw [backGo]
  simp only [List.getLast?_concat, List.dropLast_concat]
/-- A node, wherever its kids lie. -/
def Nd.ct (d : Nd) : Nd := ⟨d.k, d.s0, d.s1, d.s2, d.s3, d.t, d.lo, d.hi, none, 0, 0, d.kids⟩
def Nd.withKids (d : Nd) (l : List Int) : Nd := ⟨d.k, d.s0, d.s1, d.s2, d.s3, d.t, d.lo, d.hi, none, 0, 0, l⟩
def subStep (ns : List Nd) (st : List Int × List Nd) (b : Int) : List Int × List Nd :=
  (st.1.set b.toNat st.2.length, st.2 ++ [(nodeAt ns b.toNat).withKids ((nodeAt ns b.toNat).kids.map fun k => (st.1.set b.toNat st.2.length).getD k.toNat 0)])
def subC (ns : List Nd) (node : Int) : List Nd := ((backOf ns node).reverse.foldl (subStep ns) (List.replicate ns.length 0, [])).2

/-! ### Slices of the function's own -/
theorem OS.pop {os : OS} {xs : List Value} {x : Value} (h : os.ok 1 (xs ++ [x])) : OS.ok ⟨os.a, os.n - 1, os.c, os.cur⟩ 1 xs := by
  have hl := h.len
  simp only [List.length_append, List.length_cons, List.length_nil, Nat.mul_one] at hl
  refine ⟨by simp only; omega, fun ha => ?_, fun g hg => ?_⟩
  · have := h.nil ha
    simp only
    omega
  · obtain ⟨h1, h2, h3, h4⟩ := h.cap g hg
    refine ⟨h1, by simp only; omega, h3, ?_⟩
    simp only
    have e : os.n * 1 = xs.length + 1 := by omega
    rw [e] at h4
    have : os.cur.take xs.length = (os.cur.take (xs.length + 1)).take xs.length := by rw [List.take_take]; congr 1; omega
    rw [show (os.n - 1) * 1 = xs.length by omega, this, h4, List.take_left]
theorem appm_ok {os : OS} {xs ys : List Value} {size m : Nat} (hos : os.ok size xs) {g c : Nat} {cur : List Value} (hy : ys.length = m * size) (h1 : cur.length = c * size) (h2 : os.n + m ≤ c) (h3 : c ≤ maxLen) (h4 : cur.take ((os.n + m) * size) = xs ++ ys) :
    OS.ok ⟨some g, os.n + m, c, cur⟩ size (xs ++ ys) := by
  have hl := hos.len
  refine ⟨?_, (fun h => by cases h), fun g3 hg3 => ⟨h1, h2, h3, h4⟩⟩
  rw [List.length_append, hl, hy]
  simp only
  rw [Nat.add_mul]

theorem StoreOb.addTo {M : List Blk} {b o k : Nat} {vs : List Value} {K : List Blk → Prop} (pre post : List Blk) (cs : List Value) (T : Nat) (hM : M = pre ++ ⟨b, .cells cs.toArray T (0, 0)⟩ :: post) (hb : Nat.ble (o + k + vs.length) cs.length = true) (h1 : allOne vs = true)
    (cs' : List Value) (he : splice cs (o + k) vs = cs') (h : K (pre ++ ⟨b, .cells cs'.toArray T (0, 0)⟩ :: post)) : StoreOb M ((⟨b, o, none⟩ : Addr).add k) vs K :=
  StoreOb.add pre post _ _ hM (by simpa using Nat.le_of_ble_eq_true hb) h1 (by rw [← he] at h; exact h)
structure BackInv (t : Tr) (node : Int) (x : OS × List Int × OS × List Int × Nat) : Prop where
  todo : x.1.ok 1 (x.2.1.map (.int .i64 ·))
  back : x.2.2.1.ok 1 (x.2.2.2.1.map (.int .i64 ·))
  vt : valid t.ns.length x.2.1
  vb : valid t.ns.length x.2.2.2.1
  sum : sumOf (szOf t.ns) x.2.1 + x.2.2.2.1.length = szOf t.ns node
  fuel : sumOf (szOf t.ns) x.2.1 + 1 ≤ x.2.2.2.2
  eq : backOf t.ns node = backGo t.ns x.2.2.2.2 x.2.1 x.2.2.2.1

structure SubInv (I : GH) (t : Tr) (rb : List Int) (x : Nat × List Int × OS × List Nd × GH) : Prop where
  j : x.1 ≤ rb.length
  len : x.2.1.length = t.ns.length
  out : x.2.2.1.ok 9 (x.2.2.2.1.flatMap Nd.cells)
  on : x.2.2.2.1.length = x.1
  eq : (rb.take x.1).foldl (subStep t.ns) (List.replicate t.ns.length 0, []) = (x.2.1, x.2.2.2.1.map Nd.ct)
  ok : ∀ d ∈ x.2.2.2.1, d.ok x.2.2.2.2
  le : ∀ b o, I b = some o → x.2.2.2.2 b = some o
  bd : ∀ c ∈ x.2.1, 0 ≤ c ∧ c ≤ rb.length
  kb : ∀ d ∈ x.2.2.2.1, ∀ k ∈ d.kids, 0 ≤ k ∧ k ≤ rb.length

set_option maxRecDepth 100000 in
set_option maxHeartbeats 8000000 in
theorem RSub_gen {I : GH} {t : Tr} (ht : t.ok I) (hr : right t = true) (W : Nat) (hW : ∀ d ∈ t.ns, d.kn ≤ W) (hb : t.n * W ≤ 1152921504606846976) (hn : t.n ≤ 1099511627776) {node : Nat} (hnode : node < t.n) :
    Spec Tryd.prog 65 [t.val, .int .i64 node] I [] fun v I' M' => (∀ b o, I b = some o → I' b = some o) ∧ M' = [] ∧ ∃ t' : Tr, v = .tuple #[t'.val, .bool true] ∧ t'.ok I' ∧ t'.ns.map Nd.ct = subC t.ns node ∧ t'.root = (t'.ns.length : Int) - 1 ∧ t'.ns.length ≤ t.n ∧ ∀ d ∈ t'.ns, ∀ k ∈ d.kids, 0 ≤ k ∧ k ≤ t.n := by
  refine spec_of_VF [] TrydEOK Tryd.func65 rfl rfl rfl ?_
  intro B h0
  have htn := ht.n
  have hcap := ht.rs.cap
  have hszn : szOf t.ns node ≤ t.ns.length := sz_le hr t.ns.length node (by omega) (by omega)
  refine CallOb.mk [] [] _ (.refl _) (RRight_gen ht W hW hb) ?_
  rintro v I' M' - ⟨rfl, rfl, rfl⟩
  rw [hr]
  refine GuardOb.mk (fun _ => ?_) (fun h => by simp at h)
  refine GuardOb.mk (fun _ => ?_) (fun h => ?_)
  rotate_left
  · have : ((node : Nat) : Int) < 0 := of_decide_eq_true h
    omega
  refine CondOb.mk (fun h => ?_) (fun _ => ?_)
  · have : ((t.n : Nat) : Int) ≤ ((node : Nat) : Int) := of_decide_eq_true h
    omega
  refine AllocOb.mk fun b1 hb1 hbM1 => ?_
  -- the row turned about
  refine LoopOb.inv (ι := OS × List Int × OS × List Int × Nat) (fun x => { fl := [(2, .ref 2 0), (4, .ref 4 0), (6, .val x.2.2.1.val), (7, .val x.1.val)], cl := [(2, t.cells), (4, [.slice none 0 0, .int .i64 0])], gi := I', mi := x.2.2.1.blk 3 ++ x.1.blk 3 })
    (BackInv t node) (fun x => sumOf (szOf t.ns) x.2.1) ?_ ?_
  · refine ⟨(⟨some b1, 1, 1, [.int .i64 node]⟩, [(node : Int)], OS0, [], t.ns.length + 1), ⟨⟨rfl, (fun h => by cases h), fun g' hg' => ⟨rfl, Nat.le_refl _, by simp [maxLen], rfl⟩⟩, OS0_ok 1, fun k hk => ?_, (fun k hk => by cases hk), ?_, ?_, rfl⟩, .refl, .cons .refl (.cons .refl (.cons .refl (.cons .refl .nil))), .cons rfl (.cons rfl .nil)⟩
    · simp only [List.mem_singleton] at hk
      omega
    · simp [sumOf]
    · simp only [sumOf, List.map_cons, List.map_nil, List.sum_cons, List.sum_nil]
      omega
  rintro ⟨todo, tl, back, bl, f⟩ ⟨htodo, hback, hvt, hvb, hsum, hfuel, heq⟩
  simp only at htodo hback hvt hvb hsum hfuel heq
  have hbl := hback.len1
  have htl := htodo.len1
  refine CondOb.mk (fun h => ?_) (fun h => ?_)
  · have h0t : 0 < todo.n := by
      have : (0 : Int) < (todo.n : Int) := of_decide_eq_true h
      omega
    obtain ⟨tl', m, rfl⟩ : ∃ tl' m, tl = tl' ++ [m] := by
      rcases List.eq_nil_or_concat tl with h1 | ⟨r, p, h1⟩
      · subst h1
        simp at htl
        omega
      · exact ⟨r, p, by simpa using h1⟩
    have hm := hvt m (by simp)
    obtain ⟨m, rfl⟩ := Int.eq_ofNat_of_zero_le hm.1
    have hml : m < t.n := by omega
    have hml' : m < t.ns.length := by omega
    have htl' : todo.n = tl'.length + 1 := by simpa using htl
    have hszm := szOf_eq hr hml'
    rw [sumOf_append] at hsum hfuel
    have hs1 : sumOf (szOf t.ns) [(m : Int)] = szOf t.ns m := by simp [sumOf]
    rw [hs1, hszm] at hsum hfuel
    have htlen : tl'.length ≤ sumOf (szOf t.ns) tl' := len_le_sum hr fun k hk => hvt k (by simp [hk])
    have hklen : t.ns[m].kids.length ≤ sumOf (szOf t.ns) t.ns[m].kids := len_le_sum hr fun k hk => by
      have := right_kids hr m hml' k hk
      omega
    have htot : tl'.length + t.ns[m].kids.length ≤ t.ns.length := by omega
    obtain ⟨ad, had, hrd⟩ := OS.rdI (I := I') (e := 3) (M := back.blk 3 ++ todo.blk 3) htodo (fun x hx => by simp [hx]) (j := tl'.length) (by simp)
    rw [List.getElem_concat_length rfl] at hrd
    have hpop := htodo
    rw [List.map_append] at hpop
    have hpop := OS.pop hpop
    refine ArithOb.mk ((tl'.length : Nat) : Int) (wr_eq (by simp only [OS.val]; omega) (by omega)) ?_
    refine IdxOb.mk ad tl'.length had rfl (show tl'.length < todo.n by omega) ?_
    refine LoadOb.mk _ hrd ?_
    refine ArithOb.mk ((tl'.length : Nat) : Int) (wr_eq (by simp only [OS.val]; omega) (by omega)) ?_
    refine SliceOb.mk 0 tl'.length rfl rfl (Nat.zero_le _) ?_ ?_
    · have := htodo.cap
      obtain ⟨oa, on, oc, ocur⟩ := todo
      cases oa with
      | none => have := (htodo.nil rfl).1; simp only at this htl'; omega
      | some gg =>
        obtain ⟨-, h2, -, -⟩ := htodo.cap gg rfl
        simp only at h2 htl' ⊢
        omega
    refine AllocOb.mk fun b2 hb2 hbM2 => ?_
    refine OtherOb.append TrydEOK rfl (by simp) (e := 3) rfl rfl rfl back hback rfl (m := 1) rfl (news := [.int .i64 m]) (by decide) (blk_rd (b := b2) (cs := [.int .i64 m]) (k := 0) (n := 1) (T := 3) (.head _) (by simp)) rfl (Mr := ⟨b2, .cells #[.int .i64 m] 3 (0, 0)⟩ :: todo.blk 3) List.perm_middle.symm (by simp only [maxLen]; omega) (by show (back.n + 1) * 8 ≤ _; omega) ?_
    intro g1 c1 cur1 q1 q2 q3 q4
    have hback' : OS.ok ⟨some g1, back.n + 1, c1, cur1⟩ 1 ((bl ++ [(m : Int)]).map (.int .i64 ·)) := by
      rw [List.map_append]
      exact app1_ok hback q1 q2 q3 q4
    obtain ⟨an, han, hrn⟩ := ht.rs.row Nd.cells_len hml hml'
    have hd := ht.ns _ (List.getElem_mem hml')
    have hkn := hd.kn
    have hkc := hd.rs.cap
    have hkv := right_kids hr m hml'
    have hvt' : valid t.ns.length (tl' ++ t.ns[m].kids) := fun k hk => by
      rcases List.mem_append.1 hk with hk | hk
      · exact hvt k (by simp [hk])
      · have := hkv k hk
        omega
    have hvb' : valid t.ns.length (bl ++ [(m : Int)]) := fun k hk => by
      rcases List.mem_append.1 hk with hk | hk
      · exact hvb k hk
      · simp only [List.mem_singleton] at hk
        omega
    have heq' : ∀ f', f = f' + 1 → backOf t.ns node = backGo t.ns f' (tl' ++ t.ns[m].kids) (bl ++ [(m : Int)]) := fun f' hf' => by
      rw [heq, hf', backGo_snoc, Int.toNat_natCast, nodeAt_eq hml']
    have hinv : ∀ td : OS, td.ok 1 ((tl' ++ t.ns[m].kids).map (.int .i64 ·)) → BackInv t node (td, tl' ++ t.ns[m].kids, ⟨some g1, back.n + 1, c1, cur1⟩, bl ++ [(m : Int)], f - 1) := fun td htd => by
      refine ⟨htd, hback', hvt', hvb', ?_, ?_, heq' (f - 1) (by omega)⟩
      · simp only [sumOf_append, List.length_append, List.length_cons, List.length_nil]
        omega
      · simp only [sumOf_append]
        omega
    have hmu : sumOf (szOf t.ns) (tl' ++ t.ns[m].kids) < sumOf (szOf t.ns) (tl' ++ [(m : Int)]) := by
      rw [sumOf_append, sumOf_append, hs1, hszm]
      omega
    refine IdxOb.mk an m han rfl hml ?_
    refine LoadOb.mk _ ((hrn _).part (k := 8) (m := 1) (by decide)) ?_
    generalize hdd : t.ns[m] = d at hd hkn hkc hrn hinv hmu htot
    by_cases hk0 : d.kn = 0
    · have hnil : d.kids = [] := List.eq_nil_of_length_eq_zero (by omega)
      rw [hnil, List.append_nil] at hinv hmu
      refine OtherOb.append0 TrydEOK rfl (by simp) (e := 3) (sa := todo.a.map fun g => ⟨g, 0, none⟩) (n := tl'.length) (c := todo.c) rfl rfl rfl (by simp) rfl rfl ?_ rfl (.inl ⟨d.ka, d.kc, by rw [← hk0]; rfl⟩) ?_
      · obtain ⟨oa, on, oc, ocur⟩ := todo
        cases oa with
        | none => have := (htodo.nil rfl).1; simp only at this htl'; omega
        | some gg =>
          obtain ⟨-, h2, -, -⟩ := htodo.cap gg rfl
          simp only at h2 htl' ⊢
          omega
      have he : todo.n - 1 = tl'.length := by omega
      refine ⟨_, ⟨hinv _ hpop, hmu⟩, .sub (M1 := ⟨g1, .cells cur1.toArray 3 (0, 0)⟩ :: todo.blk 3) (.cons_cons _ (.cons _ (.refl _))) .refl, .cons .refl (.cons .refl (.cons .refl (.cons ?_ .nil))), .cons rfl (.cons rfl .nil)⟩
      simp only [OS.val, he]
      exact .refl
    · obtain ⟨ak, hak, hsp, cs, T, fr, hI, hv⟩ := hd.rs.rd.resolve_left hk0
      have hpop' : OS.ok ⟨todo.a, tl'.length, todo.c, todo.cur⟩ 1 (tl'.map (.int .i64 ·)) := by
        have he : todo.n - 1 = tl'.length := by omega
        rw [← he]
        exact hpop
      refine OtherOb.append TrydEOK rfl (by simp) (e := 3) rfl rfl rfl ⟨todo.a, tl'.length, todo.c, todo.cur⟩ hpop' rfl (ad := ak) (m := d.kn) (c' := d.kc) (by rw [← hak]; rfl) (news := d.kids.map (.int .i64 ·)) (by omega) ⟨hsp, cs, T, fr, .inl hI, hv, by simp [hkn]⟩ ?_ (Mr := [⟨g1, .cells cur1.toArray 3 (0, 0)⟩, ⟨b2, .cells #[.int .i64 m] 3 (0, 0)⟩]) (List.perm_append_comm (l₁ := [_, _])) (by simp only [maxLen]; omega) (by show (tl'.length + d.kn) * 8 ≤ _; omega) ?_
      · simp [allOne, Value.oneCell']
      intro g2 c2 cur2 r1 r2 r3 r4
      refine ⟨(⟨some g2, tl'.length + d.kn, c2, cur2⟩, _, _, _, _), ⟨hinv _ ?_, hmu⟩, .sub (M1 := [⟨g2, .cells cur2.toArray 3 (0, 0)⟩, ⟨g1, .cells cur1.toArray 3 (0, 0)⟩]) (.cons_cons _ (.cons_cons _ (List.nil_sublist _))) (.perm (List.Perm.swap _ _ _) .refl), .cons .refl (.cons .refl (.cons .refl (.cons .refl .nil))), .cons rfl (.cons rfl .nil)⟩
      rw [List.map_append]
      exact appm_ok hpop' (by simp [hkn]) r1 r2 r3 r4
  have htl0 : tl = [] := by
    have : ¬ (0 : Int) < (todo.n : Int) := of_decide_eq_false h
    exact List.eq_nil_of_length_eq_zero (by omega)
  subst htl0
  rw [backGo_nil] at heq
  simp only [sumOf, List.map_nil, List.sum_nil, Nat.zero_add] at hsum
  clear hfuel htodo hvt h
  refine MakeOb.mk t.n t.n rfl rfl (Nat.le_refl _) (by show 8 * t.n ≤ _; omega) (by omega) ?_
  refine AllocOb.mk fun b9 hb9 hbM9 => ?_
  refine ArithOb.mk ((bl.length : Int) - 1) (wr_eq (by simp only [OS.val]; omega) (by omega)) ?_
  refine LoopOb.invF (ι := Nat × List Int × OS × List Nd × GH) (fun x => { fl := [(2, .ref 2 0), (4, .ref 4 0), (6, .val back.val), (9, .val (.slice (some ⟨b9, 0, none⟩) t.n t.n)), (10, .val x.2.2.1.val), (11, .val (.int .i64 ((bl.length : Int) - 1 - x.1)))], cl := [(2, t.cells), (4, [.slice none 0 0, .int .i64 0])], gi := x.2.2.2.2, mi := intRow b9 x.2.1 :: (x.2.2.1.blk 32 ++ back.blk 3) })
    (SubInv I' t bl.reverse) (fun x => bl.length - x.1) ?_ ?_
  · intro _
    refine ⟨(0, List.replicate t.n 0, OS0, [], I'), ⟨Nat.zero_le _, by simp [htn], OS0_ok 9, rfl, (by rw [htn]; rfl), (fun d hd => by cases hd), fun _ _ h => h, (fun c hc => by have := List.eq_of_mem_replicate hc; omega), (fun d hd => by cases hd)⟩, ?_, .cons .refl (.cons .refl (.cons .refl (.cons .refl (.cons .refl (.cons ?_ .nil))))), .cons rfl (.cons rfl .nil)⟩
    · simp only [rowOf_one, intRow, List.map_replicate, Nat.mul_one]
      exact .sub (M1 := ⟨b9, .cells (List.replicate t.n (Value.int .i64 0)).toArray 3 (0, 0)⟩ :: (OS0.blk 32 ++ back.blk 3)) (.cons_cons _ (List.sublist_append_left _ _)) .refl
    · simp only [Int.ofNat_zero, Int.sub_zero]
      exact .refl
  rintro ⟨j, P, out, outN, J⟩ ⟨hj, hPl, hout, hon, hfold, hJok, hJ, hPb, hkb⟩
  simp only at hj hPl hout hon hfold hJok hJ hPb hkb
  rw [List.length_reverse] at hj hPb hkb
  have hol : out.n = j := by
    have := hout.len
    rw [flat_len _ 9 Nd.cells_len, hon] at this
    omega
  subst hol
  refine CondOb.mk (fun h => ?_) (fun h => ?_)
  · have hjl : out.n < bl.length := by
      have : (0 : Int) ≤ (bl.length : Int) - 1 - (out.n : Int) := of_decide_eq_true h
      omega
    have hjr : out.n < bl.reverse.length := by simpa using hjl
    -- the next one
    have hbi : bl.length - 1 - out.n < bl.length := by omega
    have hrev : bl.reverse[out.n] = bl[bl.length - 1 - out.n] := by rw [List.getElem_reverse]
    have hm := hvb _ (List.getElem_mem hbi)
    obtain ⟨m, hmm⟩ := Int.eq_ofNat_of_zero_le hm.1
    rw [hmm] at hm
    have hml : m < t.n := by omega
    have hml' : m < t.ns.length := by omega
    have hidx : ((bl.length : Int) - 1 - (out.n : Int)) = ((bl.length - 1 - out.n : Nat) : Int) := by omega
    have hbrd : ∀ {M : List Blk}, (∀ x ∈ back.blk 3, x ∈ M) → ∃ ad, (back.a.map fun g => (⟨g, 0, none⟩ : Addr)) = some ad ∧ Rd J M (ad.add ((bl.length - 1 - out.n) * 1)) 1 [.int .i64 m] := fun hM => by
      obtain ⟨ad, h1, h2⟩ := OS.rdI (I := J) (e := 3) hback hM hbi
      rw [hmm] at h2
      exact ⟨ad, h1, h2⟩
    obtain ⟨an, han, hrn⟩ := (ht.rs.mono hJ).row Nd.cells_len hml hml'
    have hd := (ht.ns _ (List.getElem_mem hml')).mono hJ
    have hkn := hd.kn
    have hkc := hd.rs.cap
    have hkv := right_kids hr m hml'
    have hna : nodeAt t.ns m = t.ns[m] := nodeAt_eq hml'
    generalize hdd : t.ns[m] = d at hd hkn hkc hkv hrn hna
    obtain ⟨ad, had, hrdb⟩ := hbrd (M := intRow b9 P :: (out.blk 32 ++ back.blk 3)) (fun x hx => by simp [hx])
    refine CodeOb.draw TrydEOK rfl rfl rfl ?_
    refine IdxOb.mk ad (bl.length - 1 - out.n) had hidx (show _ < back.n by omega) ?_
    refine LoadOb.mk _ hrdb ?_
    refine IdxOb.mk an m han rfl hml ?_
    refine LoadOb.mk _ (hrn _) ?_
    refine AllocOb.mk fun b12 hb12 hbM12 => ?_
    refine StoreOb.mk [] _ _ _ rfl rfl (Nat.le_of_ble_eq_true rfl) rfl ?_
    obtain ⟨ad2, had2, hrdb2⟩ := hbrd (M := ⟨b12, .cells d.cells.toArray 32 (0, 0)⟩ :: intRow b9 P :: (out.blk 32 ++ back.blk 3)) (fun x hx => by simp [hx])
    refine IdxOb.mk ad2 (bl.length - 1 - out.n) had2 hidx (show _ < back.n by omega) ?_
    refine LoadOb.mk _ hrdb2 ?_
    refine IdxOb.mk ⟨b9, 0, none⟩ m rfl rfl hml ?_
    refine StoreOb.add [⟨b12, .cells d.cells.toArray 32 (0, 0)⟩] (out.blk 32 ++ back.blk 3) _ _ rfl ?_ rfl ?_
    · simp only [List.size_toArray, List.length_map]
      show 0 + m * 1 + 1 ≤ _
      omega
    have hset := intRow_set P m (by omega) (out.n : Int)
    generalize hP' : P.set m (out.n : Int) = P' at hset
    have hPl' : P'.length = t.ns.length := by rw [← hP']; simpa using hPl
    have hPb' : ∀ c ∈ P', 0 ≤ c ∧ c ≤ bl.length := fun c hc => by
      rw [← hP'] at hc
      rcases List.mem_or_eq_of_mem_set hc with hc | rfl
      · exact hPb c hc
      · omega
    have b12rd : ∀ {M : List Blk} {cs : List Value} (k n : Nat), (⟨b12, .cells cs.toArray 32 (0, 0)⟩ : Blk) ∈ M → k + n ≤ cs.length → Rd J M ((⟨b12, 0, none⟩ : Addr).add k) n ((cs.drop k).take n) := fun k n hM hl => blk_rd hM hl
    refine LoopOb.inv (ι := Nat × OS × List Int) (fun y => { fl := [(2, .ref 2 0), (4, .ref 4 0), (6, .val back.val), (9, .val (.slice (some ⟨b9, 0, none⟩) t.n t.n)), (10, .val out.val), (11, .val (.int .i64 ((bl.length : Int) - 1 - out.n))), (12, .val (ptr b12)), (13, .val y.2.1.val), (14, .val (.int .i64 y.1))], cl := [(2, t.cells), (4, [.slice none 0 0, .int .i64 0])], gi := J, mi := y.2.1.blk 3 ++ (⟨b12, .cells d.cells.toArray 32 (0, 0)⟩ :: intRow b9 P' :: (out.blk 32 ++ back.blk 3)) })
      (fun y => y.1 ≤ d.kn ∧ y.2.1.ok 1 (y.2.2.map (.int .i64 ·)) ∧ y.2.2 = (d.kids.take y.1).map fun k => P'.getD k.toNat 0) (fun y => d.kn - y.1) ?_ ?_
    · refine ⟨(0, OS0, []), ⟨Nat.zero_le _, OS0_ok 1, by simp⟩, ?_, .cons .refl (.cons .refl (.cons .refl (.cons .refl (.cons .refl (.cons .refl (.cons .refl (.cons .refl (.cons .refl .nil)))))))), .cons rfl (.cons rfl .nil)⟩
      simp only [intRow]
      rw [← hset]
      simp only [Nat.zero_add, Nat.mul_one]
      exact .refl
    rintro ⟨k, ko, kl⟩ ⟨hk, hko, hkl⟩
    simp only at hk hko hkl
    have hkon := hko.len1
    have hmem : (⟨b12, .cells d.cells.toArray 32 (0, 0)⟩ : Blk) ∈ ko.blk 3 ++ (⟨b12, .cells d.cells.toArray 32 (0, 0)⟩ :: intRow b9 P' :: (out.blk 32 ++ back.blk 3)) := by simp
    have hmemP : intRow b9 P' ∈ ko.blk 3 ++ (⟨b12, .cells d.cells.toArray 32 (0, 0)⟩ :: intRow b9 P' :: (out.blk 32 ++ back.blk 3)) := by simp
    have hsl : kl.length ≤ d.kn := by
      rw [hkl, List.length_map]
      exact Nat.le_trans (List.length_take_le _ _) hk
    have hsk : kl.length ≤ k := by
      rw [hkl, List.length_map]
      exact List.length_take_le _ _
    refine LoadOb.mk [.slice d.ka d.kn d.kc] (b12rd 8 1 hmem (by rw [Nd.cells_len]; decide)) ?_
    refine CondOb.mk (fun h2 => ?_) (fun h2 => ?_)
    · have hkk : k < d.kn := by have : (k : Int) < (d.kn : Int) := of_decide_eq_true h2; omega
      have hkk' : k < d.kids.length := by omega
      obtain ⟨ak, hak, hrk⟩ := hd.rs.one hkk hkk'
      have hv := hkv _ (List.getElem_mem hkk')
      have hkP : d.kids[k].toNat < P'.length := by omega
      have hPg : P'.getD d.kids[k].toNat 0 = P'[d.kids[k].toNat] := by simp [List.getD_eq_getElem?_getD, hkP]
      refine LoadOb.mk [.slice d.ka d.kn d.kc] (b12rd 8 1 hmem (by rw [Nd.cells_len]; decide)) ?_
      refine IdxOb.mk ak k hak rfl hkk ?_
      refine LoadOb.mk _ (hrk _) ?_
      refine IdxOb.mk ⟨b9, 0, none⟩ d.kids[k].toNat rfl (by omega) (by omega) ?_
      refine LoadOb.mk _ (intRow_rd hmemP hkP) ?_
      refine AllocOb.mk fun b13 hb13 hbM13 => ?_
      refine OtherOb.append TrydEOK rfl (by simp) (e := 3) rfl rfl rfl ko hko rfl (m := 1) rfl (news := [.int .i64 P'[d.kids[k].toNat]]) (by decide) (blk_rd (b := b13) (cs := [.int .i64 P'[d.kids[k].toNat]]) (k := 0) (n := 1) (T := 3) (.head _) (by simp)) rfl (Mr := ⟨b13, .cells #[.int .i64 P'[d.kids[k].toNat]] 3 (0, 0)⟩ :: (⟨b12, .cells d.cells.toArray 32 (0, 0)⟩ :: intRow b9 P' :: (out.blk 32 ++ back.blk 3))) List.perm_middle.symm (by simp only [maxLen]; omega) (by show (ko.n + 1) * 8 ≤ _; omega) ?_
      intro g2 c2 cur2 r1 r2 r3 r4
      refine ArithOb.mk _ (next_wr (i := k) (by omega)) ?_
      refine ⟨(k + 1, ⟨some g2, ko.n + 1, c2, cur2⟩, kl ++ [P'[d.kids[k].toNat]]), ⟨⟨by simp only; omega, ?_, ?_⟩, by simp only; omega⟩, .sub (.cons_cons _ (.cons _ (.refl _))) .refl, .cons .refl (.cons .refl (.cons .refl (.cons .refl (.cons .refl (.cons .refl (.cons .refl (.cons .refl (.cons .refl .nil)))))))), .cons rfl (.cons rfl .nil)⟩
      · simp only
        rw [List.map_append]
        exact app1_ok hko r1 r2 r3 r4
      · simp only
        rw [List.take_succ_eq_append_getElem hkk', List.map_append, ← hkl, List.map_cons, List.map_nil, hPg]
    have hge : d.kn ≤ k := by have : ¬ (k : Int) < (d.kn : Int) := of_decide_eq_false h2; omega
    rw [List.take_of_length_le (by omega)] at hkl
    have hnd : ∃ nd : Nd, nd = ⟨d.k, d.s0, d.s1, d.s2, d.s3, d.t, d.lo, d.hi, ko.a.map fun g => ⟨g, 0, none⟩, ko.n, ko.c, kl⟩ := ⟨_, rfl⟩
    obtain ⟨nd, hnd⟩ := hnd
    have hndc : splice d.cells (0 + 8) [ko.val] = nd.cells := by rw [hnd]; rfl
    refine StoreOb.addTo (ko.blk 3) (intRow b9 P' :: (out.blk 32 ++ back.blk 3)) d.cells _ rfl rfl rfl nd.cells hndc ?_
    have hmem2 : (⟨b12, .cells nd.cells.toArray 32 (0, 0)⟩ : Blk) ∈ ko.blk 3 ++ (⟨b12, .cells nd.cells.toArray 32 (0, 0)⟩ :: intRow b9 P' :: (out.blk 32 ++ back.blk 3)) := by simp
    refine LoadOb.mk nd.cells (b12rd 0 9 hmem2 (by rw [Nd.cells_len]; decide)) ?_
    refine AllocOb.mk fun b15 hb15 hbM15 => ?_
    have hperm15 : (⟨b15, .cells nd.cells.toArray 32 (0, 0)⟩ :: (ko.blk 3 ++ (⟨b12, .cells nd.cells.toArray 32 (0, 0)⟩ :: intRow b9 P' :: (out.blk 32 ++ back.blk 3)))).Perm (out.blk 32 ++ (⟨b15, .cells nd.cells.toArray 32 (0, 0)⟩ :: (ko.blk 3 ++ (⟨b12, .cells nd.cells.toArray 32 (0, 0)⟩ :: intRow b9 P' :: back.blk 3)))) := by
      simpa using List.perm_append_comm_assoc (⟨b15, .cells nd.cells.toArray 32 (0, 0)⟩ :: (ko.blk 3 ++ [⟨b12, .cells nd.cells.toArray 32 (0, 0)⟩, intRow b9 P'])) (out.blk 32) (back.blk 3)
    refine OtherOb.append TrydEOK rfl (by simp) (e := 32) rfl rfl rfl out hout rfl (m := 1) rfl (news := nd.cells) (by decide) (blk_rd (b := b15) (cs := nd.cells) (k := 0) (n := 9) (T := 32) (.head _) (by rw [Nd.cells_len]; decide)) rfl
      (Mr := ⟨b15, .cells nd.cells.toArray 32 (0, 0)⟩ :: (ko.blk 3 ++ (⟨b12, .cells nd.cells.toArray 32 (0, 0)⟩ :: intRow b9 P' :: back.blk 3))) ?_ (by simp only [maxLen]; omega) (by show (out.n + 1) * 96 ≤ _; omega) ?_
    · exact hperm15
    intro g3 c3 cur3 u1 u2 u3 u4
    refine ArithOb.mk ((bl.length : Int) - 1 - (out.n + 1 : Nat)) (wr_eq (by omega) (by omega)) ?_
    have hklb : ∀ c ∈ kl, 0 ≤ c ∧ c ≤ bl.length := fun c hc => by
      rw [hkl] at hc
      obtain ⟨q, hq, rfl⟩ := List.mem_map.1 hc
      have hq' := hkv q hq
      have hqP : q.toNat < P'.length := by omega
      exact hPb' (P'.getD q.toNat 0) (by simp only [List.getD_eq_getElem?_getD, List.getElem?_eq_getElem hqP, Option.getD_some]; exact List.getElem_mem _)
    intro hfa
    obtain ⟨J', hw, hle, hrs⟩ := OS.give (I := J) (b := 8) (e := 3) hko (by omega) (fun g hg => hfa.d ⟨g, .cells ko.cur.toArray 3 (0, 0)⟩ (by simp [OS.blk, hg])) (intRow b9 P' :: ([⟨g3, .cells cur3.toArray 32 (0, 0)⟩] ++ back.blk 3))
    refine ⟨(out.n + 1, P', ⟨some g3, out.n + 1, c3, cur3⟩, outN ++ [nd], J'), ⟨⟨by simp only; omega, hPl', ?_, by simp [hon], ?_, ?_, fun b o h => hle _ _ (hJ _ _ h), ?_, ?_⟩, by simp only; omega⟩, ?_, .cons .refl (.cons .refl (.cons .refl (.cons .refl (.cons .refl (.cons .refl .nil))))), .cons rfl (.cons rfl .nil)⟩
    · simp only
      rw [List.flatMap_append]
      have : ([nd].flatMap Nd.cells) = nd.cells := by simp
      rw [this]
      exact appk_ok hout (Nd.cells_len _) u1 u2 u3 u4
    · simp only
      rw [List.take_succ_eq_append_getElem hjr, List.foldl_append, hfold, List.foldl_cons, List.foldl_nil, hrev, hmm]
      show (P.set m ((outN.map Nd.ct).length : Int), outN.map Nd.ct ++ [(nodeAt t.ns m).withKids ((nodeAt t.ns m).kids.map fun k => (P.set m ((outN.map Nd.ct).length : Int)).getD k.toNat 0)]) = _
      rw [List.length_map, hon, hP', hna, ← hkl, List.map_append, hnd]
      rfl
    · simp only
      intro x hx
      rcases List.mem_append.1 hx with hx | hx
      · exact (hJok x hx).mono hle
      · simp only [List.mem_singleton] at hx
        rw [hx, hnd]
        refine ⟨hd.k, hd.s0, hd.s1, hd.s2, hd.s3, hd.t, hd.lo, hd.hi, hrs, fun c hc => ?_⟩
        have := hklb c hc
        exact ⟨by omega, by omega⟩
    · simp only [List.length_reverse]
      exact hPb'
    · simp only [List.length_reverse]
      intro x hx
      rcases List.mem_append.1 hx with hx | hx
      · exact hkb x hx
      · simp only [List.mem_singleton] at hx
        rw [hx, hnd]
        exact hklb
    · simp only
      refine .sub (M1 := ⟨g3, .cells cur3.toArray 32 (0, 0)⟩ :: (ko.blk 3 ++ (intRow b9 P' :: back.blk 3))) (.cons_cons _ (.cons _ (List.Sublist.append (.refl _) (.cons _ (.refl _))))) ?_
      refine .perm (M1 := ko.blk 3 ++ (intRow b9 P' :: ([(⟨g3, .cells cur3.toArray 32 (0, 0)⟩ : Blk)] ++ back.blk 3))) ?_ hw
      exact List.perm_middle.symm.trans (List.Perm.append_left _ (List.Perm.swap _ _ _))
  have hge : out.n = bl.length := by
    have : ¬ (0 : Int) ≤ (bl.length : Int) - 1 - (out.n : Int) := of_decide_eq_false h
    omega
  refine ArithOb.mk ((outN.length : Int) - 1) (wr_eq (by simp only [OS.val]; omega) (by omega)) ?_
  intro hfa
  obtain ⟨J', hw, hle, hrs⟩ := OS.give (I := J) (b := 96) (e := 32) hout (by omega) (fun g hg => hfa.d ⟨g, .cells out.cur.toArray 32 (0, 0)⟩ (by simp [OS.blk, hg])) []
  refine ⟨J', [], .sub (M1 := out.blk 32 ++ []) (by rw [List.append_nil]; exact .cons _ (List.sublist_append_left _ _)) hw, fun b o h => hle _ _ (hJ _ _ h), rfl, ⟨outN, out.a.map fun g => ⟨g, 0, none⟩, out.n, out.c, (outN.length : Int) - 1⟩, rfl, ⟨hrs, fun d hd => (hJok d hd).mono hle, ⟨by simp only; omega, by simp only; omega⟩⟩, ?_, rfl, by simp only; omega, fun d hd k hk => by have := hkb d hd k hk; omega⟩
  rw [List.take_of_length_le (by rw [List.length_reverse]; omega)] at hfold
  rw [subC, heq, hfold]
end Go.V
