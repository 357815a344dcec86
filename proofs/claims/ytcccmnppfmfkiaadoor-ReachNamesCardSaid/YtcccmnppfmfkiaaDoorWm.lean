/-
  Walks: bonsairef02 (Letter, digit, Take, May); tree.leaf, Rule, Text, Empty.
-/
import Derived.Test.YtcccmnppfmfkiaaDoorWl
set_option linter.unusedVariables false
set_option linter.unusedSimpArgs false
namespace Go.V
open Go Go.Proofs

theorem RLetter_spec (I : GH) (c : UInt8) : Spec Tryd.prog 87 [.int .u8 c.toNat] I [] (fun v I' M' => v = .bool (letter c) ∧ I' = I ∧ M' = []) := by
  refine spec_of_V [] TrydEOK Tryd.func87 rfl rfl rfl ?_
  intro B h0
  repeat' (refine GuardOb.mk (fun h => ?_) (fun h => ?_))
  all_goals
    refine ⟨_, _, .refl, ?_⟩
    refine ⟨?_, rfl, rfl⟩
    simp_all [letter]
    all_goals first
      | omega
      | (rw [Bool.eq_iff_iff]; simp; omega)

theorem Rdigit_spec (I : GH) (c : UInt8) : Spec Tryd.prog 88 [.int .u8 c.toNat] I [] (fun v I' M' => v = .bool (digit c) ∧ I' = I ∧ M' = []) := by
  refine spec_of_V [] TrydEOK Tryd.func88 rfl rfl rfl ?_
  intro B h0
  repeat' (refine GuardOb.mk (fun h => ?_) (fun h => ?_))
  all_goals
    refine ⟨_, _, .refl, ?_⟩
    refine ⟨?_, rfl, rfl⟩
    simp_all [digit]
    all_goals first
      | omega
      | (rw [Bool.eq_iff_iff]; simp; omega)

theorem RTake_spec (I : GH) (s : ByteArray) (hs : s.size ≤ 140737488355328) : Spec Tryd.prog 82 [.string s] I [] (fun v I' M' => v = .string (s.extract 0 (nameLen s)) ∧ I' = I ∧ M' = []) := by
  refine spec_of_V [] TrydEOK Tryd.func82 rfl rfl rfl ?_
  intro B h0
  have e0 : ∀ {s : ByteArray}, nameLen s = 0 → s.extract 0 (nameLen s) = ⟨#[]⟩ := fun h => by rw [h]; apply ByteArray.ext; simp [ByteArray.data_extract]
  refine GuardOb.mk (fun h => ?_) (fun h => ?_)
  · have h1 : s ≠ ⟨#[]⟩ := by simpa using h
    have hpos : 0 < s.size := by
      refine Nat.pos_of_ne_zero fun e => h1 ?_
      apply ByteArray.ext
      exact Array.eq_empty_of_size_eq_zero e
    refine StrOb.mk 0 rfl hpos ?_
    refine CallOb.mk [] [] _ (.refl _) (RLetter_spec I s[0]) ?_
    rintro v I' M' - ⟨rfl, rfl, rfl⟩
    refine CondOb.mk (fun h => ?_) (fun h => ?_)
    · have hl : letter s[0] = false := by simpa using h
      refine ⟨_, _, .refl, ?_, rfl, rfl⟩
      rw [e0]
      · unfold nameLen
        cases hd : s.data.toList with
        | nil => rfl
        | cons c r =>
          have : s[0] = c := by
            show s.data.toList[0] = c
            simp only [hd]
            rfl
          rw [this] at hl
          simp [hl]
    · have hl : letter s[0] = true := by simpa using h
      refine LoopOb.inv (ι := Nat) (fun i => { fl := [(0, .val (.string s)), (3, .val (.int .i64 i))], gi := I' }) (fun i => i ≤ s.size ∧ ∀ j (h : j < s.size), 1 ≤ j → j < i → nameCh s[j] = true) (fun i => s.size - i) ?_ ?_
      · exact ⟨0, ⟨by omega, fun j _ h1 h2 => by omega⟩, .refl, .cons .refl (.cons .refl .nil), .nil⟩
      · rintro i ⟨hi2, hi3⟩
        have hch0 : nameCh s[0] = true := by simp [nameCh, hl]
        have next : ∀ (hlt : i < s.size), nameCh s[i] = true → (i + 1 ≤ s.size ∧ ∀ k (h : k < s.size), 1 ≤ k → k < i + 1 → nameCh s[k] = true) ∧ s.size - (i + 1) < s.size - i := fun hlt hc =>
          ⟨⟨by omega, fun j hj h1 h2 => by
            by_cases e : j = i
            · subst e; exact hc
            · exact hi3 j hj h1 (by omega)⟩, by omega⟩
        have out : (∀ (h : i < s.size), nameCh s[i] = false) → s.extract 0 i = s.extract 0 (nameLen s) := fun hn => by
          have hi1 : 1 ≤ i := by
            apply Nat.one_le_iff_ne_zero.2
            intro e
            subst e
            rw [hn hpos] at hch0
            cases hch0
          rw [nameLen_of hpos hl hi1 hi2 hi3 hn]
        have hsz : (s.extract 0 i).size ≤ 140737488355328 := by
          rw [ByteArray.size_extract]
          omega
        have hwr : IntKind.i64.wrap ((i : Int) + 1) = ((i + 1 : Nat) : Int) := by
          rw [wrap_i64 ⟨by omega, by omega⟩]
          omega
        refine GuardOb.mk (fun h => ?_) (fun h => ?_)
        · have hlt : i < s.size := by simpa using h
          refine StrOb.mk i rfl hlt ?_
          refine CallOb.mk [] [] _ (.refl _) (RLetter_spec I' s[i]) ?_
          rintro v I' M' - ⟨rfl, rfl, rfl⟩
          refine GuardOb.mk (fun h => ?_) (fun h => ?_)
          · refine StrOb.mk i rfl hlt ?_
            refine CallOb.mk [] [] _ (.refl _) (Rdigit_spec _ s[i]) ?_
            rintro v I' M' - ⟨rfl, rfl, rfl⟩
            refine CondOb.mk (fun h2 => ?_) (fun h2 => ?_)
            · refine ArithOb.mk _ hwr ?_
              exact ⟨i + 1, next hlt (by simp only [nameCh]; rw [show digit s[i] = true from h2]; simp), .refl, .cons .refl (.cons .refl .nil), .nil⟩
            · refine SliceOb.mk 0 i rfl rfl (by omega) (by omega) ?_
              refine ⟨_, _, .refl, ?_, rfl, rfl⟩
              rw [← out fun _ => by simp only [nameCh]; rw [show letter s[i] = false from h, show digit s[i] = false from h2]; rfl]
          · refine ArithOb.mk _ hwr ?_
            exact ⟨i + 1, next hlt (by simp only [nameCh]; rw [show letter s[i] = true from h]; simp), .refl, .cons .refl (.cons .refl .nil), .nil⟩
        · have hge : ¬ i < s.size := by simpa using h
          refine SliceOb.mk 0 i rfl rfl (by omega) (by omega) ?_
          refine ⟨_, _, .refl, ?_, rfl, rfl⟩
          rw [← out fun h => (hge h).elim]
  · have h1 : s = ⟨#[]⟩ := by simpa using h
    subst h1
    refine ⟨_, _, .refl, ?_, rfl, rfl⟩
    rw [e0]
    rfl

theorem RMay_spec (I : GH) (s : ByteArray) : Spec Tryd.prog 64 [.string s] I [] (fun v I' M' => v = .bool (mayName s) ∧ I' = I ∧ M' = []) := by
  refine spec_of_V [] TrydEOK Tryd.func64 rfl rfl rfl ?_
  intro B h0
  refine GuardOb.mk (fun h1 => ?_) (fun h1 => ?_)
  · refine GuardOb.mk (fun h2 => ?_) (fun h2 => ?_)
    · have h2' : s.size ≤ 32 := by simp at h2; omega
      refine CallOb.mk [] [] _ (.refl _) (RTake_spec I s (by omega)) ?_
      rintro v I' M' - ⟨rfl, rfl, rfl⟩
      refine ⟨_, _, .refl, ?_, rfl, rfl⟩
      have hle := nameLen_le s
      have e1 : (s.extract 0 (nameLen s)).size = nameLen s := by rw [ByteArray.size_extract]; omega
      have e2 : decide (s.extract 0 (nameLen s) = s) = decide (nameLen s = s.size) := by
        rw [decide_eq_decide]
        constructor
        · intro h
          rw [← e1, h]
        · intro h
          rw [h]
          apply ByteArray.ext
          simp [ByteArray.data_extract]
      have h1' : decide (s ≠ ⟨#[]⟩) = true := by simpa using h1
      simp only [mayName, h1', Bool.true_and, show decide (s.size ≤ 32) = true from decide_eq_true h2', ← e2]
    · refine ⟨_, _, .refl, ?_, rfl, rfl⟩
      have h1' : decide (s ≠ ⟨#[]⟩) = true := by simpa using h1
      have h2' : decide (s.size ≤ 32) = false := by simp at h2; simp; omega
      simp only [mayName, h1', h2', Bool.true_and, Bool.false_and]
  · refine ⟨_, _, .refl, ?_, rfl, rfl⟩
    have h1' : decide (s ≠ ⟨#[]⟩) = false := by simpa using h1
    simp only [mayName, h1', Bool.false_and]

/-! ### Leaves -/
theorem u0 : u64ok 0 := ⟨by decide, by decide⟩
theorem i0 : i64ok 0 := ⟨by decide, by decide⟩
theorem leaf_spec {I : GH} {d : Nd} (hd : d.ok I) : Spec Tryd.prog 36 [d.val] I [] fun v I' M' => (∀ b o, I b = some o → I' b = some o) ∧ ∃ t : Tr, v = t.val ∧ t.ok I' ∧ t.ns = [d] ∧ t.root = 0 ∧ M' = [] := by
  refine spec_of_V [] TrydEOK Tryd.func36 rfl rfl rfl ?_
  intro B h0
  refine AllocOb.mk fun b hb hbM => ?_
  refine ⟨_, _, .prom rfl (by simp) .refl, ins_le hb, ⟨[d], some ⟨b, 0, none⟩, 1, 1, 0⟩, rfl, ⟨⟨rfl, ⟨Nat.le_refl _, by show 1 * 96 ≤ _; omega⟩, .inr ⟨_, rfl, rfl, _, _, _, ins_self .., rfl⟩⟩, fun x hx => ?_, i0⟩, rfl, rfl, rfl⟩
  simp only [List.mem_singleton] at hx
  subst hx
  exact hd.mono (ins_le hb)
def leafNd (k : Int) (s : ByteArray) : Nd := ⟨k, 0, 0, 0, 0, s, 0, 0, none, 0, 0, []⟩
theorem leafNd_ok {I : GH} {k : Int} (hk : 0 ≤ k ∧ k < 256) {s : ByteArray} (hs : s.size ≤ 140737488355328) : (leafNd k s).ok I :=
  ⟨hk, u0, u0, u0, u0, by show s.size ≤ _; omega, i0, i0, ⟨rfl, ⟨Nat.le_refl _, by show 0 * 8 ≤ _; omega⟩, .inl rfl⟩, fun x hx => by cases hx⟩
set_option maxRecDepth 20000 in
theorem Rule_spec {I : GH} {s : ByteArray} (hs : s.size ≤ 140737488355328) : Spec Tryd.prog 11 [.string s] I [] fun v I' M' => (∀ b o, I b = some o → I' b = some o) ∧ ∃ t : Tr, v = t.val ∧ t.ok I' ∧ t.ns = [leafNd 3 s] ∧ t.root = 0 ∧ M' = [] := by
  refine spec_of_V [] TrydEOK Tryd.func11 rfl rfl rfl ?_
  intro B h0
  have hl := leaf_spec (I := I) (leafNd_ok (k := 3) (by decide) hs)
  have hv : (leafNd 3 s).val = .agg #[.int .u8 3, .int .u64 0, .int .u64 0, .int .u64 0, .int .u64 0, .string s, .int .i64 0, .int .i64 0, .slice none 0 0] := rfl
  rw [hv] at hl
  refine CallOb.mk [] [] _ (.refl _) hl ?_
  rintro v I' M' - ⟨hI, t, rfl, ht, h1, h2, rfl⟩
  exact ⟨_, _, .refl, hI, t, rfl, ht, h1, h2, rfl⟩
set_option maxRecDepth 20000 in
theorem Text_spec {I : GH} {s : ByteArray} (hs : s.size ≤ 140737488355328) : Spec Tryd.prog 12 [.string s] I [] fun v I' M' => (∀ b o, I b = some o → I' b = some o) ∧ ∃ t : Tr, v = t.val ∧ t.ok I' ∧ t.ns = [leafNd 2 s] ∧ t.root = 0 ∧ M' = [] := by
  refine spec_of_V [] TrydEOK Tryd.func12 rfl rfl rfl ?_
  intro B h0
  have hl := leaf_spec (I := I) (leafNd_ok (k := 2) (by decide) hs)
  have hv : (leafNd 2 s).val = .agg #[.int .u8 2, .int .u64 0, .int .u64 0, .int .u64 0, .int .u64 0, .string s, .int .i64 0, .int .i64 0, .slice none 0 0] := rfl
  rw [hv] at hl
  refine CallOb.mk [] [] _ (.refl _) hl ?_
  rintro v I' M' - ⟨hI, t, rfl, ht, h1, h2, rfl⟩
  exact ⟨_, _, .refl, hI, t, rfl, ht, h1, h2, rfl⟩
set_option maxRecDepth 20000 in
theorem Empty_spec {I : GH} : Spec Tryd.prog 24 [] I [] fun v I' M' => (∀ b o, I b = some o → I' b = some o) ∧ ∃ t : Tr, v = t.val ∧ t.ok I' ∧ t.ns = [leafNd 0 ⟨#[]⟩] ∧ t.root = 0 ∧ M' = [] := by
  refine spec_of_V [] TrydEOK Tryd.func24 rfl rfl rfl ?_
  intro B h0
  have hl := leaf_spec (I := I) (leafNd_ok (k := 0) (s := ⟨#[]⟩) (by decide) (by decide))
  have hv : (leafNd 0 ⟨#[]⟩).val = .agg #[.int .u8 0, .int .u64 0, .int .u64 0, .int .u64 0, .int .u64 0, .string ⟨#[]⟩, .int .i64 0, .int .i64 0, .slice none 0 0] := rfl
  rw [hv] at hl
  refine CallOb.mk [] [] _ (.refl _) hl ?_
  rintro v I' M' - ⟨hI, t, rfl, ht, h1, h2, rfl⟩
  exact ⟨_, _, .refl, hI, t, rfl, ht, h1, h2, rfl⟩
end Go.V
