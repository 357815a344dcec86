/-
  Walks: names (name.Letter, name.digit, name.Take, name.May), strings.Clone.
-/
import Derived.Test.YtcccmnppfmfkiaaDoorR
import Derived.Test.YtcccmnppfmfkiaaDoorEnv
set_option linter.unusedVariables false
set_option linter.unusedSimpArgs false
namespace Go.V
open Go Go.Proofs

def letter (c : UInt8) : Bool := decide (97 ≤ c.toNat ∧ c.toNat ≤ 122) || (decide (65 ≤ c.toNat ∧ c.toNat ≤ 90) || decide (c.toNat = 95))
def digit (c : UInt8) : Bool := decide (48 ≤ c.toNat ∧ c.toNat ≤ 57)

theorem Letter_spec (I : GH) (c : UInt8) : Spec Tryd.prog 67 [.int .u8 c.toNat] I [] (fun v I' M' => v = .bool (letter c) ∧ I' = I ∧ M' = []) := by
  refine spec_of_V [] TrydEOK Tryd.func67 rfl rfl rfl ?_
  intro B h0
  repeat' (refine GuardOb.mk (fun h => ?_) (fun h => ?_))
  all_goals
    refine ⟨_, _, .refl, ?_⟩
    refine ⟨?_, rfl, rfl⟩
    simp_all [letter]
    all_goals first
      | omega
      | (rw [Bool.eq_iff_iff]; simp; omega)
theorem digit_spec (I : GH) (c : UInt8) : Spec Tryd.prog 68 [.int .u8 c.toNat] I [] (fun v I' M' => v = .bool (digit c) ∧ I' = I ∧ M' = []) := by
  refine spec_of_V [] TrydEOK Tryd.func68 rfl rfl rfl ?_
  intro B h0
  repeat' (refine GuardOb.mk (fun h => ?_) (fun h => ?_))
  all_goals
    refine ⟨_, _, .refl, ?_⟩
    refine ⟨?_, rfl, rfl⟩
    simp_all [digit]
    all_goals first
      | omega
      | (rw [Bool.eq_iff_iff]; simp; omega)

theorem bytes_len (s : ByteArray) : s.data.toList.length = s.size := Array.length_toList

theorem SClone_spec (I : GH) (s : ByteArray) (hs : s.size ≤ 140737488355328) : Spec Tryd.prog 83 [.string s] I [] (fun v I' M' => v = .string s ∧ I' = I ∧ M' = []) := by
  refine spec_of_V [] TrydEOK Tryd.func83 rfl rfl rfl ?_
  intro B h0
  refine CondOb.mk (fun h => ?_) (fun h => ?_)
  · refine ⟨_, _, .refl, ?_, rfl, rfl⟩
    have h1 : s.size = 0 := by simpa using h
    have : s = .empty := by
      apply ByteArray.ext
      exact Array.eq_empty_of_size_eq_zero h1
    rw [this]
    rfl
  · have h1 : s.size ≠ 0 := by simpa using h
    refine MakeOb.mk s.size s.size rfl rfl (Nat.le_refl _) (by show 1 * s.size ≤ _; omega) (by omega) ?_
    refine AllocOb.mk fun b hb hbM => ?_
    refine OtherOb.copyS TrydEOK rfl (by simp) (e := 5) rfl rfl rfl rfl rfl rfl (Nat.le_refl _) ?_ (.refl _) ?_
    · simp [rowOf_eq, madeCells]
    refine IdxOb.mk ⟨b, 0, none⟩ 0 rfl rfl (by omega) ?_
    refine OtherOb.ustring TrydEOK rfl (by simp) (e := 5) rfl rfl rfl rfl (g := b) (l := s.data.toList) rfl ?_ ?_ ?_ (.refl _) ?_ ?_
    · show SV.val (.int .i64 (s.size : Int)) = SV.val (.int .i64 (s.data.toList.length : Int))
      rw [bytes_len]
    · intro e
      have := congrArg List.length e
      rw [bytes_len] at this
      exact h1 this
    · rw [bytes_len]; omega
    · rw [bytes_len]
      have hl : (byteVals s).length = s.size := by simp [byteVals]
      simp only [splice]
      rw [List.take_zero, List.nil_append, List.take_append_of_le_length (by rw [hl]; exact Nat.le_refl _), ← hl, List.take_length]
      rfl
    · exact ⟨_, _, .refl, rfl, rfl, rfl⟩

theorem Clone_spec (I : GH) (s : ByteArray) (hs : s.size ≤ 140737488355328) : Spec Tryd.prog 69 [.string s] I [] (fun v I' M' => v = .string s ∧ I' = I ∧ M' = []) := by
  refine spec_of_V [] TrydEOK Tryd.func69 rfl rfl rfl ?_
  intro B h0
  refine CallOb.mk [] [] _ (.refl _) (SClone_spec I s hs) ?_
  rintro v I' M' - ⟨rfl, rfl, rfl⟩
  exact ⟨_, _, .refl, rfl, rfl, rfl⟩

def nameCh (c : UInt8) : Bool := letter c || digit c
def nameLen (s : ByteArray) : Nat := match s.data.toList with
  | [] => 0
  | c :: r => bif letter c then 1 + (r.takeWhile nameCh).length else 0

theorem takeWhile_len {α : Type} (p : α → Bool) : ∀ (l : List α) (i : Nat), i ≤ l.length → (∀ j (h : j < l.length), j < i → p l[j] = true) → (∀ (h : i < l.length), p l[i] = false) → (l.takeWhile p).length = i
  | [], i, h, _, _ => by simp at h; simp [h]
  | x :: l, 0, _, _, h => by
    have := h (by simp)
    simp only [List.getElem_cons_zero] at this
    simp [this]
  | x :: l, i + 1, hi, h1, h2 => by
    have hx := h1 0 (by simp) (by omega)
    simp only [List.getElem_cons_zero] at hx
    have ih := takeWhile_len p l i (by simpa using hi) (fun j hj hji => by have := h1 (j + 1) (by simpa using hj) (by omega); simpa using this) (fun h => by have := h2 (by simpa using h); simpa using this)
    simp [hx, ih]

theorem nameLen_of {s : ByteArray} (h0 : 0 < s.size) (hl : letter s[0] = true) {i : Nat} (h1 : 1 ≤ i) (hi : i ≤ s.size) (ha : ∀ j (h : j < s.size), 1 ≤ j → j < i → nameCh s[j] = true) (hb : ∀ (h : i < s.size), nameCh s[i] = false) : nameLen s = i := by
  have get : ∀ j (h : j < s.size), s[j] = s.data.toList[j]'(by rw [bytes_len]; exact h) := fun j h => rfl
  unfold nameLen
  have hlen := bytes_len s
  cases hd : s.data.toList with
  | nil => rw [hd] at hlen; simp at hlen; omega
  | cons c r =>
    have g : ∀ j (h : j < s.size), s[j] = (c :: r)[j]'(by rw [← hd, hlen]; exact h) := fun j h => by rw [get j h]; simp only [hd]
    rw [hd] at hlen
    have hc : letter c = true := by rw [g 0 h0] at hl; simpa using hl
    simp only [hc, cond_true]
    simp only [List.length_cons] at hlen
    rw [takeWhile_len nameCh r (i - 1) (by omega) (fun j hj hji => by
      have h3 : j + 1 < s.size := by omega
      have := ha (j + 1) h3 (by omega) (by omega)
      rw [g (j + 1) h3] at this
      simpa using this) (fun h => by
      have h3 : i < s.size := by omega
      have := hb h3
      rw [g i h3] at this
      have e : i = (i - 1) + 1 := by omega
      rw [List.getElem_cons] at this
      rw [dif_neg (by omega)] at this
      exact this)]
    omega

theorem Take_spec (I : GH) (s : ByteArray) (hs : s.size ≤ 140737488355328) : Spec Tryd.prog 57 [.string s] I [] (fun v I' M' => v = .string (s.extract 0 (nameLen s)) ∧ I' = I ∧ M' = []) := by
  refine spec_of_V [] TrydEOK Tryd.func57 rfl rfl rfl ?_
  intro B h0
  have e0 : ∀ {s : ByteArray}, nameLen s = 0 → s.extract 0 (nameLen s) = ⟨#[]⟩ := fun h => by rw [h]; apply ByteArray.ext; simp [ByteArray.data_extract]
  refine GuardOb.mk (fun h => ?_) (fun h => ?_)
  · have h1 : s ≠ ⟨#[]⟩ := by simpa using h
    have hpos : 0 < s.size := by
      refine Nat.pos_of_ne_zero fun e => h1 ?_
      apply ByteArray.ext
      exact Array.eq_empty_of_size_eq_zero e
    refine StrOb.mk 0 rfl hpos ?_
    refine CallOb.mk [] [] _ (.refl _) (Letter_spec I s[0]) ?_
    rintro v I' M' - ⟨rfl, rfl, rfl⟩
    refine CondOb.mk (fun h => ?_) (fun h => ?_)
    · have hl : letter s[0] = false := by simpa using h
      refine ⟨_, _, .refl, ?_, rfl, rfl⟩
      rw [e0]
      · unfold nameLen
        cases hd : s.data.toList with
        | nil => rfl
        | cons c r =>
          have : s[0] = c := by
            show s.data.toList[0] = c
            simp only [hd]
            rfl
          rw [this] at hl
          simp [hl]
    · have hl : letter s[0] = true := by simpa using h
      refine LoopOb.inv (ι := Nat) (fun i => { fl := [(0, .val (.string s)), (3, .val (.int .i64 i))], gi := I' }) (fun i => 1 ≤ i ∧ i ≤ s.size ∧ ∀ j (h : j < s.size), 1 ≤ j → j < i → nameCh s[j] = true) (fun i => s.size - i) ?_ ?_
      · exact ⟨1, ⟨by omega, by omega, fun j _ h1 h2 => by omega⟩, .refl, .cons .refl (.cons .refl .nil), .nil⟩
      · rintro i ⟨hi1, hi2, hi3⟩
        have next : ∀ (hlt : i < s.size), nameCh s[i] = true → (1 ≤ i + 1 ∧ i + 1 ≤ s.size ∧ ∀ k (h : k < s.size), 1 ≤ k → k < i + 1 → nameCh s[k] = true) ∧ s.size - (i + 1) < s.size - i := fun hlt hc =>
          ⟨⟨by omega, by omega, fun j hj h1 h2 => by
            by_cases e : j = i
            · subst e; exact hc
            · exact hi3 j hj h1 (by omega)⟩, by omega⟩
        have out : (∀ (h : i < s.size), nameCh s[i] = false) → s.extract 0 i = s.extract 0 (nameLen s) := fun hn => by
          rw [nameLen_of hpos hl hi1 hi2 hi3 hn]
        have hsz : (s.extract 0 i).size ≤ 140737488355328 := by
          rw [ByteArray.size_extract]
          omega
        have hwr : IntKind.i64.wrap ((i : Int) + 1) = ((i + 1 : Nat) : Int) := by
          rw [wrap_i64 ⟨by omega, by omega⟩]
          omega
        refine GuardOb.mk (fun h => ?_) (fun h => ?_)
        · have hlt : i < s.size := by simpa using h
          refine StrOb.mk i rfl hlt ?_
          refine CallOb.mk [] [] _ (.refl _) (Letter_spec I' s[i]) ?_
          rintro v I' M' - ⟨rfl, rfl, rfl⟩
          refine GuardOb.mk (fun h => ?_) (fun h => ?_)
          · refine StrOb.mk i rfl hlt ?_
            refine CallOb.mk [] [] _ (.refl _) (digit_spec _ s[i]) ?_
            rintro v I' M' - ⟨rfl, rfl, rfl⟩
            refine CondOb.mk (fun h2 => ?_) (fun h2 => ?_)
            · refine ArithOb.mk _ hwr ?_
              exact ⟨i + 1, next hlt (by simp only [nameCh]; rw [show digit s[i] = true from h2]; simp), .refl, .cons .refl (.cons .refl .nil), .nil⟩
            · refine SliceOb.mk 0 i rfl rfl (by omega) (by omega) ?_
              refine CallOb.mk [] [] _ (.refl _) (Clone_spec _ _ hsz) ?_
              rintro v I' M' - ⟨rfl, rfl, rfl⟩
              refine ⟨_, _, .refl, ?_, rfl, rfl⟩
              rw [← out fun _ => by simp only [nameCh]; rw [show letter s[i] = false from h, show digit s[i] = false from h2]; rfl]
          · refine ArithOb.mk _ hwr ?_
            exact ⟨i + 1, next hlt (by simp only [nameCh]; rw [show letter s[i] = true from h]; simp), .refl, .cons .refl (.cons .refl .nil), .nil⟩
        · have hge : ¬ i < s.size := by simpa using h
          refine SliceOb.mk 0 i rfl rfl (by omega) (by omega) ?_
          refine CallOb.mk [] [] _ (.refl _) (Clone_spec _ _ hsz) ?_
          rintro v I' M' - ⟨rfl, rfl, rfl⟩
          refine ⟨_, _, .refl, ?_, rfl, rfl⟩
          rw [← out fun h => (hge h).elim]
  · have h1 : s = ⟨#[]⟩ := by simpa using h
    subst h1
    refine ⟨_, _, .refl, ?_, rfl, rfl⟩
    rw [e0]
    rfl

def mayName (s : ByteArray) : Bool := decide (s ≠ ⟨#[]⟩) && (decide (s.size ≤ 32) && decide (nameLen s = s.size))

theorem nameLen_le (s : ByteArray) : nameLen s ≤ s.size := by
  unfold nameLen
  have hl := bytes_len s
  cases hd : s.data.toList with
  | nil => simp
  | cons c r =>
    rw [hd] at hl
    simp only [List.length_cons] at hl
    simp only
    cases letter c
    · simp
    · simp only [cond_true]
      have := (List.takeWhile_sublist (p := nameCh) (l := r)).length_le
      omega

theorem NMay_spec (I : GH) (s : ByteArray) : Spec Tryd.prog 43 [.string s] I [] (fun v I' M' => v = .bool (mayName s) ∧ I' = I ∧ M' = []) := by
  refine spec_of_V [] TrydEOK Tryd.func43 rfl rfl rfl ?_
  intro B h0
  refine GuardOb.mk (fun h1 => ?_) (fun h1 => ?_)
  · refine GuardOb.mk (fun h2 => ?_) (fun h2 => ?_)
    · have h2' : s.size ≤ 32 := by simp at h2; omega
      refine CallOb.mk [] [] _ (.refl _) (Take_spec I s (by omega)) ?_
      rintro v I' M' - ⟨rfl, rfl, rfl⟩
      refine ⟨_, _, .refl, ?_, rfl, rfl⟩
      have hle := nameLen_le s
      have e1 : (s.extract 0 (nameLen s)).size = nameLen s := by rw [ByteArray.size_extract]; omega
      simp_all [mayName]
      all_goals omega
    · refine ⟨_, _, .refl, ?_, rfl, rfl⟩
      simp_all [mayName]
      all_goals omega
  · refine ⟨_, _, .refl, ?_, rfl, rfl⟩
    simp_all [mayName]
end Go.V
