/-
  Part 9 of what the proofs of this seat share: the executor, data in memory, walks.
-/
import Derived.Test.YtcccmnppfmfkiaaGreatDoorK8
import Derived.Test.YtcccmnppfmfkiaaGreatDoorK5
import Derived.Test.YtcccmnppfmfkiaaGreatDoorK7
import Derived.Lib.TrailingZeros

/-
  Walk: bonsailaw12.ints, of any two rows of numbers.
-/
set_option linter.unusedVariables false
set_option linter.unusedSimpArgs false
namespace Go.V
open Go Go.Proofs

theorem GrSmall.fit {I : GH} {g : Gr} (h : GrSmall g) (hg : g.ok I) : GFit g := by
  refine ⟨by have := h.n; omega, fun d hd => ?_⟩
  have hs := h.ds d hd
  have hn := hs.n
  refine ⟨fun nd hnd => by have := (hs.ns nd hnd).kn; omega, by omega, by omega⟩

/-- A row of numbers that may be read. -/
structure IntsAt (I : GH) (M : List Blk) (a : Option Addr) (n : Nat) (l : List Int) : Prop where
  len : l.length = n
  cap : n ≤ 140737488355328
  rd : ∀ j (h : j < l.length), ∃ ad, a = some ad ∧ Rd I M (ad.add (j * 1)) 1 [.int .i64 l[j]]
theorem OS.intsAt {I : GH} {M : List Blk} {os : OS} {l : List Int} {e : Nat} (h : os.ok 1 (l.map (.int .i64 ·))) (hc : os.n ≤ 140737488355328) (hM : ∀ x ∈ os.blk e, x ∈ M) : IntsAt I M (os.a.map fun g => (⟨g, 0, none⟩ : Addr)) os.n l :=
  ⟨h.len1.symm, hc, fun j hj => OS.rdI h hM hj⟩
theorem Rw.intsAt {I : GH} {M : List Blk} {x : Rw} (hx : x.ok I) : IntsAt I M x.a x.n x.l :=
  ⟨hx.n, by have := hx.rs.cap.2; omega, fun j hj => by
    obtain ⟨ad, h1, h2⟩ := hx.rs.one (j := j) (by have := hx.n; omega) hj
    exact ⟨ad, h1, h2 M⟩⟩

set_option maxHeartbeats 1000000 in
theorem ints_gen {I : GH} {M : List Blk} {a a' : Option Addr} {n n' c c' : Nat} {l l' : List Int} (h1 : IntsAt I M a n l) (h2 : IntsAt I M a' n' l') : Spec Tryz.prog 12 [.slice a n c, .slice a' n' c'] I M
    fun v I' M' => v = .bool (decide (l = l')) ∧ I' = I ∧ M' = M := by
  refine spec_of_V [] TryzEOK Tryz.func12 rfl rfl rfl ?_
  intro B h0
  have hln := h1.len
  have hln' := h2.len
  have hcap := h1.cap
  refine CondOb.mk (fun h => ?_) (fun h => ?_)
  · refine ⟨_, _, .refl, ?_, rfl, rfl⟩
    have : l ≠ l' := fun e => by
      rw [e] at hln
      simp at h
      omega
    simp [this]
  · have hnn : n = n' := by simp at h; omega
    refine LoopOb.inv (ι := Nat) (fun i => { fl := [(0, .val (.slice a n c)), (1, .val (.slice a' n' c')), (5, .val (.int .i64 i))], gi := I, mi := M }) (fun i => i ≤ n ∧ l.take i = l'.take i) (fun i => n - i) ?_ ?_
    · exact ⟨0, ⟨Nat.zero_le _, rfl⟩, .refl, .cons .refl (.cons .refl (.cons .refl .nil)), .nil⟩
    · rintro i ⟨hi, htk⟩
      refine CondOb.mk (fun h => ?_) (fun h => ?_)
      · have hlt : i < n := by simpa using h
        obtain ⟨ad, had, hr⟩ := h1.rd i (by omega)
        obtain ⟨ad', had', hr'⟩ := h2.rd i (by omega)
        refine CodeOb.draw TryzEOK rfl rfl rfl ?_
        refine IdxOb.mk ad i had rfl hlt ?_
        refine LoadOb.mk _ hr ?_
        refine IdxOb.mk ad' i had' rfl (by omega) ?_
        refine LoadOb.mk _ hr' ?_
        refine CondOb.mk (fun h2 => ?_) (fun h2 => ?_)
        · refine ⟨_, _, .refl, ?_, rfl, rfl⟩
          have : l ≠ l' := fun e => by
            have h3 : ¬ l[i]'(by omega) = l'[i]'(by omega) := by simpa using h2
            exact h3 (by simp [e])
          simp [this]
        · have h3 : l[i]'(by omega) = l'[i]'(by omega) := by simpa using h2
          refine ArithOb.mk _ (next_wr (i := i) (by omega)) ?_
          refine ⟨i + 1, ⟨⟨by omega, ?_⟩, by omega⟩, .refl, .cons .refl (.cons .refl (.cons .refl .nil)), .nil⟩
          rw [List.take_succ_eq_append_getElem (by omega), List.take_succ_eq_append_getElem (by omega), htk, h3]
      · have hge : n ≤ i := by simpa using h
        refine ⟨_, _, .refl, ?_, rfl, rfl⟩
        have : l = l' := by
          rw [List.take_of_length_le (by omega), List.take_of_length_le (by omega)] at htk
          exact htk
        simp [this]

/-- A row of the function's own that was written over with one number. -/
theorem OS.written {os : OS} {l : List Int} (h : os.ok 1 (l.map (.int .i64 ·))) {i : Nat} (hi : i < l.length) (v : Int) : ∃ cur', cur' = splice os.cur (i * 1) [.int .i64 v] ∧ OS.ok ⟨os.a, os.n, os.c, cur'⟩ 1 ((l.set i v).map (.int .i64 ·)) := by
  refine ⟨_, rfl, ?_⟩
  have hl := h.len1
  refine ⟨by simp [hl], fun hn => ?_, fun g hg => ?_⟩
  · have := (h.nil hn).1
    omega
  · obtain ⟨q1, q2, q3, q4⟩ := h.cap g hg
    refine ⟨?_, q2, q3, ?_⟩
    · simp only [splice, List.length_append, List.length_take, List.length_drop, List.length_cons, List.length_nil]
      omega
    · simp only at q4 ⊢
      have hin : i < os.n * 1 := by omega
      apply List.ext_getElem?
      intro j
      have e4 := congrArg (fun z : List Value => z[j]?) q4
      simp only [List.getElem?_take] at e4
      rw [List.getElem?_take]
      by_cases hj : j < os.n * 1
      · rw [if_pos hj] at e4 ⊢
        unfold splice
        rw [List.map_set, List.getElem?_set, List.append_assoc]
        by_cases hij : i = j
        · subst hij
          have hlc : i < os.cur.length := by omega
          rw [List.getElem?_append_right (by simp; omega)]
          simp [hi, Nat.min_eq_left (by omega : i ≤ os.cur.length)]
        · rw [if_neg hij]
          rw [← e4]
          by_cases hji : j < i
          · rw [List.getElem?_append_left (by simp; omega), List.getElem?_take, if_pos (by omega)]
          · rw [List.getElem?_append_right (by simp; omega)]
            have hm : (os.cur.take (i * 1)).length = i := by simp; omega
            rw [hm, List.getElem?_append_right (by simp; omega), List.getElem?_drop]
            simp only [List.length_cons, List.length_nil]
            congr 1
            omega
      · rw [if_neg hj]
        rw [List.getElem?_eq_none]
        simp
        omega
end Go.V

/-
  Plain: a set's bytes, in order, are those whose bits stand; its runs.
-/
set_option linter.unusedVariables false
set_option linter.unusedSimpArgs false
namespace Go.V
open Go Go.Proofs

theorem filter_first {p : Nat → Bool} {k : Nat} : ∀ {l : List Nat}, l.Pairwise (· < ·) → k ∈ l → p k = true → (∀ j ∈ l, j < k → p j = false) → l.filter p = k :: l.filter fun j => p j && !decide (j = k)
  | x :: xs, hs, hk, hp, hb => by
    obtain ⟨h1, h2⟩ := List.pairwise_cons.1 hs
    rcases List.mem_cons.1 hk with rfl | hk
    · have e : (k :: xs).filter (fun j => p j && !decide (j = k)) = xs.filter p := by
        rw [List.filter_cons]
        simp
        apply List.filter_congr
        intro j hj
        have := h1 j hj
        have : ¬ j = k := by omega
        simp [this]
      rw [e, List.filter_cons, hp]
      rfl
    · have hx := h1 k hk
      have hpx := hb x (by simp) hx
      rw [List.filter_cons, hpx, List.filter_cons, hpx]
      simp only [Bool.false_and, Bool.false_eq_true, if_false]
      exact filter_first h2 hk hp fun j hj hjk => hb j (by simp [hj]) hjk

theorem low_bits {n : Nat} (h0 : n ≠ 0) (h : n < 2 ^ 64) : ∃ k, k < 64 ∧ n &&& (2 ^ 64 - n) = 2 ^ k ∧ n.testBit k = true ∧ (∀ j, j < k → n.testBit j = false) ∧ ∀ j, (n &&& (n - 1)).testBit j = (n.testBit j && !decide (j = k)) := by
  obtain ⟨m, hm, hk⟩ := Lib.ctzFrom_spec 64 n (by omega) h
  generalize Lib.ctzFrom 64 n = k at hm hk
  have e1 : n = 2 ^ (k + 1) * m + 2 ^ k := by
    rw [hm, Nat.pow_succ, Nat.mul_add, Nat.mul_one, Nat.mul_assoc]
  have hp := Nat.two_pow_pos k
  have e2 : n - 1 = 2 ^ (k + 1) * m + (2 ^ k - 1) := by omega
  have hb1 : 2 ^ k < 2 ^ (k + 1) := by rw [Nat.pow_succ]; omega
  have t1 : ∀ j, n.testBit j = if j < k + 1 then decide (k = j) else m.testBit (j - (k + 1)) := fun j => by
    rw [e1, Nat.testBit_two_pow_mul_add _ hb1, Nat.testBit_two_pow]
  have t2 : ∀ j, (n - 1).testBit j = if j < k + 1 then decide (j < k) else m.testBit (j - (k + 1)) := fun j => by
    rw [e2, Nat.testBit_two_pow_mul_add _ (by omega), Nat.testBit_two_pow_sub_one]
  refine ⟨k, hk, ?_, ?_, fun j hj => ?_, fun j => ?_⟩
  · have := Lib.and_neg 64 k m (by rw [← hm]; exact h)
    rwa [← hm] at this
  · rw [t1]; simp
  · rw [t1, if_pos (by omega)]
    simp
    omega
  · rw [Nat.testBit_and, t1, t2]
    by_cases hj : j < k + 1
    · rw [if_pos hj, if_pos hj]
      by_cases hjk : j = k
      · subst hjk; simp
      · have : ¬ k = j := fun e => hjk e.symm
        simp [this]
    · rw [if_neg hj, if_neg hj]
      have : ¬ j = k := by omega
      simp [this]

theorem debL_at : ∀ k : Fin 64, debL.getD (2 ^ k.val * 285870213051353865 % 18446744073709551616 / 288230376151711744) 0 = (k.val : Int) := by decide +kernel

theorem tz_low {n k : Nat} (h0 : n ≠ 0) (h : n < 2 ^ 64) (hk : k < 64) (hl : n &&& (2 ^ 64 - n) = 2 ^ k) : tz64 debL (n : Int) = k := by
  have e0 : decide ((n : Int) = 0) = false := decide_eq_false (by omega)
  have hw : IntKind.u64.wrap (0 - (n : Int)) = ((2 ^ 64 - n : Nat) : Int) := by
    simp [IntKind.wrap, IntKind.signed, IntKind.bits]
    omega
  have ha : andV (n : Int) ((2 ^ 64 - n : Nat) : Int) = ((2 ^ k : Nat) : Int) := by
    rw [andV_nat ⟨by omega, by omega⟩ ⟨by omega, by omega⟩, Int.toNat_natCast, Int.toNat_natCast, hl]
  have ht : (tzA (n : Int)).toNat = 2 ^ k * 285870213051353865 % 18446744073709551616 := by
    unfold tzA
    rw [hw, ha]
    have : ((2 ^ k : Nat) : Int) * 285870213051353865 = ((2 ^ k * 285870213051353865 : Nat) : Int) := by simp
    rw [this]
    generalize 2 ^ k * 285870213051353865 = q
    simp [IntKind.wrap, IntKind.signed, IntKind.bits]
    omega
  unfold tz64
  rw [e0, cond_false, ht]
  exact debL_at ⟨k, hk⟩
theorem nxt_nat {n : Nat} (h0 : n ≠ 0) (h : n < 2 ^ 64) : nxtV (n : Int) = ((n &&& (n - 1) : Nat) : Int) := by
  have hs : u64ok ((n : Int) - 1) := ⟨by omega, by omega⟩
  unfold nxtV
  rw [wrap_u64_id hs, andV_nat ⟨by omega, by omega⟩ hs]
  congr 2
  omega
theorem bits_eq (i : Nat) (hi : i < 4) : ∀ (f n : Nat), n < 2 ^ 64 → ((List.range 64).filter n.testBit).length ≤ f → bitsL debL i f (n : Int) = ((List.range 64).filter n.testBit).map fun j => UInt8.ofNat (i * 64 + j)
  | 0, n, h, hf => by
    rw [List.eq_nil_of_length_eq_zero (Nat.le_zero.1 hf)]
    rfl
  | f + 1, n, h, hf => by
    unfold bitsL
    by_cases h0 : n = 0
    · subst h0
      simp
    · have e0 : decide ((n : Int) = 0) = false := decide_eq_false (by omega)
      obtain ⟨k, hk, hl, hb, hlt, hnx⟩ := low_bits h0 h
      have hff : (List.range 64).filter n.testBit = k :: (List.range 64).filter (n &&& (n - 1)).testBit := by
        rw [filter_first List.pairwise_lt_range (List.mem_range.2 hk) hb fun j _ hj => hlt j hj]
        congr 1
        apply List.filter_congr
        intro j _
        rw [hnx]
      rw [hff] at hf ⊢
      have hle : n &&& (n - 1) ≤ n - 1 := Nat.and_le_right
      rw [e0, cond_false, nxt_nat h0 h, bits_eq i hi f _ (by omega) (by simp at hf; omega), List.map_cons]
      congr 1
      unfold byteOf
      rw [tz_low h0 h hk hl]
      have : IntKind.u8.wrap ((i : Int) * 64 + (k : Int)) = ((i * 64 + k : Nat) : Int) := by
        simp [IntKind.wrap, IntKind.signed, IntKind.bits]
        omega
      rw [this, Int.toNat_natCast]

/-- A set's bytes: those that are in it. -/
theorem each_eq {a b c d : Int} (hws : ∀ x ∈ [a, b, c, d], u64ok x) : eachFrom debL 0 [a, b, c, d] = ((List.range 256).filter (hasR [a, b, c, d])).map UInt8.ofNat := by
  have nat : ∀ x ∈ [a, b, c, d], ∃ n : Nat, x = n ∧ n < 2 ^ 64 := fun x hx => by
    have := hws x hx
    obtain ⟨n, rfl⟩ := Int.eq_ofNat_of_zero_le this.1
    exact ⟨n, rfl, by have := this.2; omega⟩
  obtain ⟨a, rfl, ha⟩ := nat a (by simp)
  obtain ⟨b, rfl, hb⟩ := nat b (by simp)
  obtain ⟨c, rfl, hc⟩ := nat c (by simp)
  obtain ⟨d, rfl, hd⟩ := nat d (by simp)
  have len : ∀ n : Nat, ((List.range 64).filter n.testBit).length ≤ 64 := fun n => by
    have := List.length_filter_le n.testBit (List.range 64)
    simpa using this
  unfold eachFrom eachFrom eachFrom eachFrom eachFrom
  rw [bits_eq 0 (by decide) 64 a ha (len _), bits_eq (0 + 1) (by decide) 64 b hb (len _), bits_eq (0 + 1 + 1) (by decide) 64 c hc (len _), bits_eq (0 + 1 + 1 + 1) (by decide) 64 d hd (len _)]
  have hr : List.range 256 = (List.range 64).map (0 * 64 + ·) ++ ((List.range 64).map (1 * 64 + ·) ++ ((List.range 64).map (2 * 64 + ·) ++ (List.range 64).map (3 * 64 + ·))) := by decide +kernel
  have part : ∀ (i : Nat) (n : Nat), i < 4 → ([(a : Int), b, c, d].getD i 0) = n → (((List.range 64).map (i * 64 + ·)).filter (hasR [(a : Int), b, c, d])) = ((List.range 64).filter n.testBit).map (i * 64 + ·) := fun i n hi hn => by
    rw [List.filter_map]
    congr 1
    apply List.filter_congr
    intro j hj
    have hj := List.mem_range.1 hj
    simp only [Function.comp, hasR]
    rw [show (i * 64 + j) / 64 = i by omega, show (i * 64 + j) % 64 = j by omega, hn, Int.toNat_natCast]
  rw [hr]
  simp only [List.filter_append, List.map_append]
  rw [part 0 a (by decide) rfl, part 1 b (by decide) rfl, part 2 c (by decide) rfl, part 3 d (by decide) rfl]
  simp only [List.map_map, List.append_nil]
  rfl
end Go.V

/-
  Plain: a set's runs, by its marks; the text of a class is the document's (ClsOk).
-/
set_option linter.unusedVariables false
set_option linter.unusedSimpArgs false
namespace Go.V
open Go Go.Proofs

def bytesTo (p : Nat → Bool) (n : Nat) : List UInt8 := ((List.range n).filter p).map UInt8.ofNat
theorem bytesTo_succ (p : Nat → Bool) (n : Nat) : bytesTo p (n + 1) = bytesTo p n ++ (bif p n then [UInt8.ofNat n] else []) := by
  unfold bytesTo
  rw [List.range_succ, List.filter_append, List.map_append]
  cases h : p n <;> simp [h]
theorem runStep_last (l : List (UInt8 × UInt8)) (b : UInt8) : ((runStep l b).getLast?).map (·.2) = some b := by
  unfold runStep
  split
  · rename_i p h
    cases decide ((p.2.toNat : Int) + 1 = b.toNat) <;> simp
  · rfl
theorem runsOf_last (l : List UInt8) : ((runsOf l).getLast?).map (·.2) = l.getLast? := by
  rcases List.eq_nil_or_concat l with h | ⟨m, b, h⟩
  · subst h; rfl
  · rw [h, List.concat_eq_append, runsOf_snoc, runStep_last]
    simp
theorem bytesTo_last (p : Nat → Bool) : ∀ (n : Nat), n ≤ 256 → ∀ x, (bytesTo p n).getLast? = some x → ∃ j, j < n ∧ p j = true ∧ x.toNat = j
  | 0, _, x, h => by simp [bytesTo] at h
  | n + 1, hn, x, h => by
    rw [bytesTo_succ] at h
    cases hp : p n with
    | true =>
      rw [hp, cond_true] at h
      simp at h
      exact ⟨n, by omega, hp, by rw [← h]; exact u8nat (by omega)⟩
    | false =>
      rw [hp, cond_false, List.append_nil] at h
      obtain ⟨j, h1, h2, h3⟩ := bytesTo_last p n (by omega) x h
      exact ⟨j, by omega, h2, h3⟩
/-- A run begins where nothing stands just ahead. -/
theorem run_start (p : Nat → Bool) {n : Nat} (hn : n < 256) (hp : n = 0 ∨ p (n - 1) = false) : runStep (runsOf (bytesTo p n)) (UInt8.ofNat n) = runsOf (bytesTo p n) ++ [(UInt8.ofNat n, UInt8.ofNat n)] := by
  unfold runStep
  split
  · rename_i q h
    have hl := runsOf_last (bytesTo p n)
    rw [h] at hl
    obtain ⟨j, h1, h2, h3⟩ := bytesTo_last p n (by omega) q.2 hl.symm
    have hne : decide ((q.2.toNat : Int) + 1 = (UInt8.ofNat n).toNat) = false := by
      rw [u8nat hn, h3]
      apply decide_eq_false
      intro e
      have : j = n - 1 := by omega
      rcases hp with hp | hp
      · omega
      · rw [this, hp] at h2
        cases h2
    rw [hne]
    rfl
  · rename_i h
    have : runsOf (bytesTo p n) = [] := List.getLast?_eq_none_iff.1 h
    rw [this]
    rfl
theorem run_grow (p : Nat → Bool) {n : Nat} (hs : n = 0 ∨ p (n - 1) = false) : ∀ t, n ≤ t → t < 256 → (∀ j, n ≤ j → j ≤ t → p j = true) → runsOf (bytesTo p (t + 1)) = runsOf (bytesTo p n) ++ [(UInt8.ofNat n, UInt8.ofNat t)] := by
  intro t
  induction t with
  | zero =>
    intro h1 h2 h3
    have : n = 0 := by omega
    subst this
    rw [bytesTo_succ, h3 0 (Nat.le_refl _) (Nat.le_refl _), cond_true, runsOf_snoc]
    exact run_start p h2 hs
  | succ t ih =>
    intro h1 h2 h3
    rw [bytesTo_succ, h3 (t + 1) h1 (Nat.le_refl _), cond_true, runsOf_snoc]
    by_cases hn : n = t + 1
    · subst hn
      exact run_start p h2 hs
    · rw [ih (by omega) (by omega) (fun j a b => h3 j a (by omega))]
      unfold runStep
      rw [List.getLast?_concat]
      simp only
      have : decide (((UInt8.ofNat t).toNat : Int) + 1 = (UInt8.ofNat (t + 1)).toNat) = true := by
        rw [u8nat (by omega), u8nat (by omega)]
        simp
      rw [this, cond_true, List.dropLast_concat]
theorem endR_run (p : Nat → Bool) : ∀ (f t : Nat), t ≤ endR p f t ∧ endR p f t ≤ t + f ∧ (∀ j, t < j → j ≤ endR p f t → p j = true) ∧ (endR p f t < t + f → p (endR p f t + 1) = false)
  | 0, t => ⟨Nat.le_refl _, Nat.le_refl _, fun j a b => by simp [endR] at b; omega, fun h => by simp [endR] at h⟩
  | f + 1, t => by
    unfold endR
    cases h : p (t + 1) with
    | false => exact ⟨Nat.le_refl _, by simp, fun j a b => by simp at b; omega, fun _ => h⟩
    | true =>
      obtain ⟨h1, h2, h3, h4⟩ := endR_run p f (t + 1)
      refine ⟨by simp; omega, by simp; omega, fun j a b => ?_, fun q => ?_⟩
      · simp at b
        by_cases e : j = t + 1
        · rw [e]; exact h
        · exact h3 j (by omega) b
      · simp at q ⊢
        exact h4 (by omega)
/-- How far the runs go that begin below n. -/
def curTo (p : Nat → Bool) (n : Nat) : Nat := bif decide (0 < n) && p (n - 1) then endR p (256 - n) (n - 1) + 1 else n
theorem runs_to (p : Nat → Bool) : ∀ n, n ≤ 256 → runsR p n = runsOf (bytesTo p (curTo p n))
  | 0, _ => rfl
  | n + 1, hn => by
    have ih := runs_to p n (by omega)
    have hc1 : curTo p (n + 1) = bif p n then endR p (255 - n) n + 1 else n + 1 := by
      unfold curTo
      simp only [Nat.add_sub_cancel, show 256 - (n + 1) = 255 - n by omega]
      have : decide (0 < n + 1) = true := decide_eq_true (by omega)
      rw [this, Bool.true_and]
    rw [runsR_succ, hc1, ih]
    cases hp : p n with
    | false =>
      have hs : startR p n = false := by rw [startR, hp]; rfl
      have hcn : curTo p n = n := by
        unfold curTo
        cases hb : decide (0 < n) && p (n - 1) with
        | false => rfl
        | true =>
          simp at hb
          have e : endR p (256 - n) (n - 1) = n - 1 := by
            rw [show 256 - n = (255 - n) + 1 by omega, endR, show n - 1 + 1 = n by omega, hp]
            rfl
          rw [cond_true, e]
          omega
      rw [hs, cond_false, List.append_nil, hcn, cond_false, bytesTo_succ, hp]
      simp
    | true =>
      rw [cond_true]
      cases hb : decide (0 < n) && p (n - 1) with
      | true =>
        have hb' := hb
        simp at hb'
        have hs : startR p n = false := by
          have : decide (n = 0) = false := decide_eq_false (by omega)
          rw [startR, hp, hb'.2, this]
          rfl
        have hcn : curTo p n = endR p (255 - n) n + 1 := by
          unfold curTo
          rw [hb, cond_true, show 256 - n = (255 - n) + 1 by omega, endR, show n - 1 + 1 = n by omega, hp, cond_true]
        rw [hs, cond_false, List.append_nil, hcn]
      | false =>
        have hst : n = 0 ∨ p (n - 1) = false := by
          simp at hb
          by_cases h : n = 0
          · exact .inl h
          · exact .inr (hb (by omega))
        have hs : startR p n = true := by
          rw [startR, hp]
          rcases hst with h | h
          · simp [h]
          · simp [h]
        have hcn : curTo p n = n := by
          unfold curTo
          rw [hb]
          rfl
        obtain ⟨h1, h2, h3, _⟩ := endR_run p (255 - n) n
        rw [hs, cond_true, hcn, run_grow p hst _ h1 (by omega) fun j a b => by
          by_cases e : j = n
          · rw [e]; exact hp
          · exact h3 j (by omega) b]
theorem runs_eq (p : Nat → Bool) : runsR p 256 = runsOf (bytesTo p 256) := by
  rw [runs_to p 256 (Nat.le_refl _)]
  congr 2
  unfold curTo
  simp [endR]

/-! ### A class's text -/
theorem runR_eq {x y : UInt8} (h : x.toNat ≤ y.toNat) : runR (x, y) = runB (x, y) := by
  have hx := x.toNat_lt
  have hy := y.toNat_lt
  have e1 : IntKind.u8.wrap ((y.toNat : Int) - x.toNat) = (y.toNat : Int) - x.toNat := by
    simp [IntKind.wrap, IntKind.signed, IntKind.bits]
    omega
  unfold runR runB
  simp only
  rw [e1]
  have d1 : decide ((x.toNat : Int) + 1 < y.toNat) = decide (1 < (y.toNat : Int) - x.toNat) := decide_eq_decide.2 (by omega)
  have d2 : decide ((x.toNat : Int) < y.toNat) = !decide ((y.toNat : Int) = x.toNat) := by
    rw [← decide_not]
    exact decide_eq_decide.2 (by omega)
  rw [d1, d2]
theorem runs_pair (p : Nat → Bool) (n : Nat) (hn : n ≤ 256) : ∀ q ∈ runsR p n, q.1.toNat ≤ q.2.toNat := by
  intro q hq
  obtain ⟨i, hi, rfl⟩ := List.mem_map.1 hq
  have hi := List.mem_range.1 (List.mem_filter.1 hi).1
  obtain ⟨h1, h2, _⟩ := endR_run p (255 - i) i
  simp only
  rw [u8nat (by omega), u8nat (by omega)]
  exact h1
theorem isAll_eq {a b c d : Int} (hws : ∀ x ∈ [a, b, c, d], u64ok x) : isAll (runsR (hasR [a, b, c, d]) 256) = (a == notV 0 && (b == notV 0 && (c == notV 0 && d == notV 0))) := by
  have hn0 : notV 0 = 18446744073709551615 := by decide
  rw [Bool.eq_iff_iff]
  simp only [Bool.and_eq_true, beq_iff_eq, hn0]
  constructor
  · intro h
    have hall : ∀ n, n < 256 → hasR [a, b, c, d] n = true := by
      generalize hp : hasR [a, b, c, d] = p at h
      match hr : runsR p 256, h with
      | [q], h =>
        simp [isAll] at h
        have hq : q ∈ runsR p 256 := by rw [hr]; simp
        obtain ⟨i, hi, hqe⟩ := List.mem_map.1 hq
        have hst := (List.mem_filter.1 hi).2
        have hi := List.mem_range.1 (List.mem_filter.1 hi).1
        obtain ⟨h1, h2, h3, _⟩ := endR_run p (255 - i) i
        have hq1 : q.1.toNat = i := by rw [← hqe]; exact u8nat (by omega)
        have hq2 : q.2.toNat = endR p (255 - i) i := by rw [← hqe]; exact u8nat (by omega)
        have hi0 : i = 0 := by have := h.1; omega
        have he : endR p (255 - i) i = 255 := by have := h.2; omega
        intro n hn
        by_cases e : n = 0
        · subst hi0
          rw [e]
          unfold startR at hst
          simp at hst
          exact hst
        · exact h3 n (by omega) (by omega)
    have word : ∀ (i : Nat) (x : Int), i < 4 → [a, b, c, d].getD i 0 = x → u64ok x → x = 18446744073709551615 := fun i x hi hx hu => by
      obtain ⟨n, rfl⟩ := Int.eq_ofNat_of_zero_le hu.1
      have hn : n < 2 ^ 64 := by have := hu.2; omega
      have : n = 2 ^ 64 - 1 := by
        apply Nat.eq_of_testBit_eq
        intro j
        rw [Nat.testBit_two_pow_sub_one]
        by_cases hj : j < 64
        · have := hall (i * 64 + j) (by omega)
          unfold hasR at this
          rw [show (i * 64 + j) / 64 = i by omega, show (i * 64 + j) % 64 = j by omega, hx, Int.toNat_natCast] at this
          rw [this]
          simp [hj]
        · rw [Nat.testBit_lt_two_pow (Nat.lt_of_lt_of_le hn (Nat.pow_le_pow_right (by omega) (by omega)))]
          simp [hj]
      omega
    exact ⟨word 0 a (by decide) rfl (hws a (by simp)), word 1 b (by decide) rfl (hws b (by simp)), word 2 c (by decide) rfl (hws c (by simp)), word 3 d (by decide) rfl (hws d (by simp))⟩
  · rintro ⟨rfl, rfl, rfl, rfl⟩
    have : isAll (runsR (hasR [18446744073709551615, 18446744073709551615, 18446744073709551615, 18446744073709551615]) 256) = true := by kernel_rfl
    exact this
theorem clsOk : ClsOk debL := fun a b c d hws => by
  unfold classR classB
  rw [isAll_eq hws]
  congr 1
  congr 1
  congr 1
  rw [each_eq hws, runs_eq]
  have h := runs_pair (hasR [a, b, c, d]) 256 (Nat.le_refl _)
  rw [runs_eq] at h
  unfold bytesTo at h ⊢
  generalize runsOf _ = rs at *
  clear hws
  induction rs with
  | nil => rfl
  | cons q rs ih =>
    rw [List.flatMap_cons, List.flatMap_cons, ih fun q hq => h q (by simp [hq])]
    congr 1
    exact runR_eq (x := q.1) (y := q.2) (h q (by simp))
end Go.V
