/-
  Walks: print.Count, print.ahead, print.behind.
-/
import Derived.Test.YtcccmnppfmfkiaaDoorW9
set_option linter.unusedVariables false
set_option linter.unusedSimpArgs false
namespace Go.V
open Go Go.Proofs

structure FitsSays (d : Nd) : Prop where
  k : d.k < 10
  t : d.t.size ≤ 255
  rep : d.k = 6 → 0 ≤ d.lo ∧ d.lo ≤ 99 ∧ (d.hi = -1 ∨ (d.lo ≤ d.hi ∧ d.hi ≤ 99))
theorem fits_says {d : Nd} {n : Int} (h : fits d n = true) : FitsSays d := by
  unfold fits at h
  cases h1 : decide (10 ≤ d.k) with
  | true => rw [h1] at h; cases h
  | false =>
    rw [h1] at h
    simp only [cond_false] at h
    have hk : d.k < 10 := by simpa using h1
    cases h2 : (decide (n < cntLo d.k.toNat) || (decide (0 ≤ cntHi d.k.toNat) && decide (cntHi d.k.toNat < n))) with
    | true => rw [h2] at h; cases h
    | false =>
      rw [h2] at h
      simp only [cond_false] at h
      have e0 : d.t = ⟨#[]⟩ → d.t.size ≤ 255 := fun e => by rw [e]; decide
      cases h3 : decide (d.k = 1) with
      | true =>
        rw [h3] at h
        simp only [cond_true, Bool.and_eq_true, decide_eq_true_eq] at h
        exact ⟨hk, e0 h.1, fun e => by simp at h3; omega⟩
      | false =>
        rw [h3] at h
        simp only [cond_false] at h
        cases h4 : decide (d.k = 2) with
        | true =>
          rw [h4] at h
          simp only [cond_true, Bool.and_eq_true, Bool.not_eq_true', Bool.or_eq_false_iff, decide_eq_false_iff_not] at h
          exact ⟨hk, by omega, fun e => by simp at h4; omega⟩
        | false =>
          rw [h4] at h
          simp only [cond_false] at h
          cases h5 : (decide (d.k = 3) || decide (d.k = 9)) with
          | true =>
            rw [h5] at h
            simp only [cond_true, Bool.and_eq_true] at h
            refine ⟨hk, ?_, fun e => by simp at h5; omega⟩
            have := h.1
            unfold mayName at this
            simp only [Bool.and_eq_true, decide_eq_true_eq] at this
            omega
          | false =>
            rw [h5] at h
            simp only [cond_false] at h
            cases h6 : decide (d.k = 6) with
            | true =>
              rw [h6] at h
              simp only [cond_true, Bool.and_eq_true, decide_eq_true_eq, Bool.not_eq_true', Bool.or_eq_false_iff, decide_eq_false_iff_not, Bool.and_eq_false_iff] at h
              refine ⟨hk, e0 h.2.2, fun _ => ?_⟩
              obtain ⟨⟨g1, g2, g3⟩, _⟩ := h
              refine ⟨by omega, by omega, ?_⟩
              rcases g3 with g3 | g3
              · left
                simpa using g3
              · right
                omega
            | false =>
              rw [h6] at h
              simp only [cond_false, Bool.and_eq_true, decide_eq_true_eq] at h
              exact ⟨hk, e0 h.2.1, fun e => by simp at h6; omega⟩

/-! ### Count -/
def pcountsV : List Value := [.int .i64 0, .int .i64 1, .string ⟨#[63]⟩, .int .i64 0, .int .i64 (-1), .string ⟨#[42]⟩, .int .i64 1, .int .i64 (-1), .string ⟨#[43]⟩]
def HasPCounts (I : GH) : Prop := ∃ T fr, I 2 = some (.cells pcountsV.toArray T fr)
def repB (lo : Nat) (hi : Int) : List UInt8 :=
  bif decide (hi = lo) then [123] ++ dig lo ++ [125] else
  bif decide (hi = -1) then [123] ++ dig lo ++ [44, 125] else [123] ++ dig lo ++ [44] ++ dig hi.toNat ++ [125]
def countB (lo : Nat) (hi : Int) : List UInt8 :=
  bif decide ((0 : Int) = lo) && decide (1 = hi) then [63] else
  bif decide ((0 : Int) = lo) && decide (-1 = hi) then [42] else
  bif decide ((1 : Int) = lo) && decide (-1 = hi) then [43] else repB lo hi
theorem repB_len (lo : Nat) (hi : Int) : (repB lo hi).length ≤ 7 := by
  have h1 := dig_len lo
  have h2 := dig_len hi.toNat
  unfold repB
  cases decide (hi = lo) <;> cases decide (hi = -1) <;> simp <;> omega
theorem countB_len (lo : Nat) (hi : Int) : (countB lo hi).length ≤ 7 := by
  have h1 := repB_len lo hi
  unfold countB
  cases (decide ((0 : Int) = lo) && decide (1 = hi)) <;> cases (decide ((0 : Int) = lo) && decide (-1 = hi)) <;> cases (decide ((1 : Int) = lo) && decide (-1 = hi)) <;> simp <;> omega
theorem digS_size (n : Nat) : (digS n).size ≤ 2 := dig_len n
def repNd (lo hi : Int) : Nd := ⟨6, 0, 0, 0, 0, ⟨#[]⟩, lo, hi, none, 0, 0, []⟩
theorem fits_rep {lo : Nat} {hi : Int} (hlo : lo ≤ 99) (hhi : hi = -1 ∨ ((lo : Int) ≤ hi ∧ hi ≤ 99)) : fits (repNd lo hi) 1 = true := by
  have e1 : cntLo 6 = 1 := by decide
  have e2 : cntHi 6 = 1 := by decide
  rcases hhi with rfl | ⟨h1, h2⟩
  · simp [fits, repNd, e1, e2, Nd.setZ]
    exact ⟨decide_eq_false (by omega), decide_eq_false (by omega)⟩
  · simp [fits, repNd, e1, e2, Nd.setZ]
    exact ⟨decide_eq_false (by omega), decide_eq_false (by omega), .inr ⟨decide_eq_false (by omega), decide_eq_false (by omega)⟩⟩

theorem strOf_app (a b : List UInt8) : strOf a ++ strOf b = strOf (a ++ b) := by
  apply bytes_eq
  simp [strOf]
theorem BinOb.concatL {P : Program} {t : Nat} {x y : Operand} {a b : List UInt8} (hs : a.length + b.length ≤ 9223372036854775807) {V : Value → Prop} {other : Prop} (h : V (.string (strOf (a ++ b)))) : BinOb P .add t x y (.val (.string (strOf a))) (.val (.string (strOf b))) V other :=
  BinOb.concat (a := strOf a) (b := strOf b) hs (by rw [strOf_app]; exact h)

theorem Count_spec {I : GH} (hc : HasCounts I) (hp : HasPCounts I) (lo : Nat) (hi : Int) (hlo : lo ≤ 99) (hhi : hi = -1 ∨ ((lo : Int) ≤ hi ∧ hi ≤ 99)) : Spec Tryd.prog 98 [.int .i64 lo, .int .i64 hi] I []
    fun r I' M' => r = .string (strOf (countB lo hi)) ∧ I' = I ∧ M' = [] := by
  refine spec_of_V [] TrydEOK Tryd.func98 rfl rfl rfl ?_
  intro B h0
  have hok : (repNd lo hi).ok I := ⟨by simp [repNd], by simp [repNd, u64ok], by simp [repNd, u64ok], by simp [repNd, u64ok], by simp [repNd, u64ok], by show (0 : Nat) ≤ _; omega, ⟨by simp only [repNd]; omega, by simp only [repNd]; omega⟩, ⟨by simp only [repNd]; omega, by simp only [repNd]; omega⟩, ⟨rfl, ⟨Nat.le_refl _, by simp [repNd]⟩, .inl rfl⟩, by simp [repNd]⟩
  refine CallOb.mk [] [] _ (.refl _) (Fits_spec hc hok 1) ?_
  rintro v I' M' - ⟨rfl, rfl, rfl⟩
  rw [fits_rep hlo hhi]
  refine CondOb.mk (fun h => by cases h) (fun _ => ?_)
  have hrd : Rd I' ([] ++ []) ⟨2, 0, none⟩ 9 pcountsV := by
    obtain ⟨T, fr, hp⟩ := hp
    exact ⟨rfl, _, T, fr, .inl hp, rfl, rfl⟩
  refine LoadOb.mk _ hrd ?_
  refine LoopOb.inv (ι := Nat) (fun i => { fl := [(0, .val (.int .i64 lo)), (1, .val (.int .i64 hi)), (12, .val (.agg pcountsV.toArray)), (13, .val (.int .i64 i))], gi := I' })
    (fun i => i ≤ 3 ∧ (1 ≤ i → (decide ((0 : Int) = lo) && decide (1 = hi)) = false) ∧ (2 ≤ i → (decide ((0 : Int) = lo) && decide (-1 = hi)) = false) ∧ (3 ≤ i → (decide ((1 : Int) = lo) && decide (-1 = hi)) = false)) (fun i => 3 - i) ?_ ?_
  · exact ⟨0, ⟨by simp, by simp, by simp, by simp⟩, .refl, .cons .refl (.cons .refl (.cons .refl (.cons .refl .nil))), .nil⟩
  · rintro i ⟨hi3, m1, m2, m3⟩
    match i, hi3 with
    | 0, _ =>
      refine CondOb.mk (fun _ => ?_) (fun h => by simp at h)
      refine ArrOb.mk 0 rfl (by decide) ?_
      have next : (decide ((0 : Int) = lo) && decide (1 = hi)) = false → (((0 + 1 : Nat) ≤ 3 ∧ (1 ≤ (0 + 1 : Nat) → (decide ((0 : Int) = lo) && decide (1 = hi)) = false) ∧ (2 ≤ (0 + 1 : Nat) → (decide ((0 : Int) = lo) && decide (-1 = hi)) = false) ∧ (3 ≤ (0 + 1 : Nat) → (decide ((1 : Int) = lo) && decide (-1 = hi)) = false)) ∧ 3 - (0 + 1) < 3 - 0) := fun h => by
        refine ⟨⟨by simp, fun _ => ?_, fun hh => ?_, fun hh => ?_⟩, by simp⟩
        · exact h
        · simp at hh
        · simp at hh
      refine GuardOb.mk (fun g1 => ?_) (fun g1 => ?_)
      · refine CondOb.mk (fun g2 => ?_) (fun g2 => ?_)
        · refine ⟨_, _, .refl, ?_, rfl, rfl⟩
          have : countB lo hi = [63] := by
            unfold countB
            rw [g1, g2]
            rfl
          rw [this]
          rfl
        · refine ArithOb.mk 1 (by decide) ?_
          exact ⟨1, next (by rw [g1, g2]; rfl), .refl, .cons .refl (.cons .refl (.cons .refl (.cons .refl .nil))), .nil⟩
      · refine ArithOb.mk 1 (by decide) ?_
        exact ⟨1, next (by rw [g1]; rfl), .refl, .cons .refl (.cons .refl (.cons .refl (.cons .refl .nil))), .nil⟩
    | 1, _ =>
      refine CondOb.mk (fun _ => ?_) (fun h => by simp at h)
      refine ArrOb.mk 1 rfl (by decide) ?_
      have next : (decide ((0 : Int) = lo) && decide (-1 = hi)) = false → (((1 + 1 : Nat) ≤ 3 ∧ (1 ≤ (1 + 1 : Nat) → (decide ((0 : Int) = lo) && decide (1 = hi)) = false) ∧ (2 ≤ (1 + 1 : Nat) → (decide ((0 : Int) = lo) && decide (-1 = hi)) = false) ∧ (3 ≤ (1 + 1 : Nat) → (decide ((1 : Int) = lo) && decide (-1 = hi)) = false)) ∧ 3 - (1 + 1) < 3 - 1) := fun h => by
        refine ⟨⟨by simp, fun _ => ?_, fun hh => ?_, fun hh => ?_⟩, by simp⟩
        · exact m1 (by decide)
        · exact h
        · simp at hh
      refine GuardOb.mk (fun g1 => ?_) (fun g1 => ?_)
      · refine CondOb.mk (fun g2 => ?_) (fun g2 => ?_)
        · refine ⟨_, _, .refl, ?_, rfl, rfl⟩
          have : countB lo hi = [42] := by
            unfold countB
            rw [m1 (by decide), g1, g2]
            rfl
          rw [this]
          rfl
        · refine ArithOb.mk 2 (by decide) ?_
          exact ⟨2, next (by rw [g1, g2]; rfl), .refl, .cons .refl (.cons .refl (.cons .refl (.cons .refl .nil))), .nil⟩
      · refine ArithOb.mk 2 (by decide) ?_
        exact ⟨2, next (by rw [g1]; rfl), .refl, .cons .refl (.cons .refl (.cons .refl (.cons .refl .nil))), .nil⟩
    | 2, _ =>
      refine CondOb.mk (fun _ => ?_) (fun h => by simp at h)
      refine ArrOb.mk 2 rfl (by decide) ?_
      have next : (decide ((1 : Int) = lo) && decide (-1 = hi)) = false → (((2 + 1 : Nat) ≤ 3 ∧ (1 ≤ (2 + 1 : Nat) → (decide ((0 : Int) = lo) && decide (1 = hi)) = false) ∧ (2 ≤ (2 + 1 : Nat) → (decide ((0 : Int) = lo) && decide (-1 = hi)) = false) ∧ (3 ≤ (2 + 1 : Nat) → (decide ((1 : Int) = lo) && decide (-1 = hi)) = false)) ∧ 3 - (2 + 1) < 3 - 2) := fun h => by
        refine ⟨⟨by simp, fun _ => ?_, fun hh => ?_, fun hh => ?_⟩, by simp⟩
        · exact m1 (by decide)
        · exact m2 (by decide)
        · exact h
      refine GuardOb.mk (fun g1 => ?_) (fun g1 => ?_)
      · refine CondOb.mk (fun g2 => ?_) (fun g2 => ?_)
        · refine ⟨_, _, .refl, ?_, rfl, rfl⟩
          have : countB lo hi = [43] := by
            unfold countB
            rw [m1 (by decide), m2 (by decide), g1, g2]
            rfl
          rw [this]
          rfl
        · refine ArithOb.mk 3 (by decide) ?_
          exact ⟨3, next (by rw [g1, g2]; rfl), .refl, .cons .refl (.cons .refl (.cons .refl (.cons .refl .nil))), .nil⟩
      · refine ArithOb.mk 3 (by decide) ?_
        exact ⟨3, next (by rw [g1]; rfl), .refl, .cons .refl (.cons .refl (.cons .refl (.cons .refl .nil))), .nil⟩
    | 3, _ =>
      refine CondOb.mk (fun h => by simp at h) (fun _ => ?_)
      have e1 := m1 (by decide)
      have e2 := m2 (by decide)
      have e3 := m3 (by decide)
      have hcb : countB lo hi = repB lo hi := by
        unfold countB
        rw [e1, e2, e3]
        rfl
      rw [hcb]
      have hl2 := digS_size lo
      have hh2 := digS_size hi.toNat
      have hl2 := dig_len lo
      refine CondOb.mk (fun h => ?_) (fun h => ?_)
      · refine CallOb.mk [] [] _ (.refl _) (Show_spec lo (by omega)) ?_
        rintro v I' M' - ⟨rfl, rfl, rfl⟩
        refine BinOb.concatL (a := [123]) (b := dig lo) (by simp; omega) ?_
        refine BinOb.concatL (a := [123] ++ dig lo) (b := [125]) (by simp; omega) ?_
        refine ⟨_, _, .refl, ?_, rfl, rfl⟩
        rw [repB, h]
        rfl
      · refine CondOb.mk (fun k => ?_) (fun k => ?_)
        · refine CallOb.mk [] [] _ (.refl _) (Show_spec lo (by omega)) ?_
          rintro v I' M' - ⟨rfl, rfl, rfl⟩
          refine BinOb.concatL (a := [123]) (b := dig lo) (by simp; omega) ?_
          refine BinOb.concatL (a := [123] ++ dig lo) (b := [44, 125]) (by simp; omega) ?_
          refine ⟨_, _, .refl, ?_, rfl, rfl⟩
          rw [repB, h, k]
          rfl
        · refine CallOb.mk [] [] _ (.refl _) (Show_spec lo (by omega)) ?_
          rintro v I' M' - ⟨rfl, rfl, rfl⟩
          have hk : hi ≠ -1 := by simpa using k
          obtain ⟨hn, rfl⟩ := Int.eq_ofNat_of_zero_le (show 0 ≤ hi by omega)
          have hh2 := dig_len hn
          refine BinOb.concatL (a := [123]) (b := dig lo) (by simp; omega) ?_
          refine BinOb.concatL (a := [123] ++ dig lo) (b := [44]) (by simp; omega) ?_
          refine CallOb.mk [] [] _ (.refl _) (Show_spec hn (by omega)) ?_
          rintro v I' M' - ⟨rfl, rfl, rfl⟩
          refine BinOb.concatL (a := [123] ++ dig lo ++ [44]) (b := dig hn) (by simp; omega) ?_
          refine BinOb.concatL (a := [123] ++ dig lo ++ [44] ++ dig hn) (b := [125]) (by simp; omega) ?_
          refine ⟨_, _, .refl, ?_, rfl, rfl⟩
          rw [repB, h, k]
          rfl

/-! ### Signs -/
def signsL : List (List UInt8) := [[], [], [], [], [], [], [], [], [], [], [], [], [], [32], [], [], [32, 47, 32], [], [], [], [], [38], [], [], [33], [], [], [60], [], [62]]
def sgn (j : Nat) : List UInt8 := signsL.getD j []
def HasSigns (I : GH) : Prop := ∃ T fr, I 1 = some (.cells (signsL.map fun l => Value.string (strOf l)).toArray T fr)
theorem HasSigns.rd {I : GH} (h : HasSigns I) (M : List Blk) {i j : Nat} (hj : i + j < 30) : Rd I M ((Addr.add ⟨1, 0, none⟩ i).add j) 1 [.string (strOf (sgn (i + j)))] := by
  obtain ⟨T, fr, h⟩ := h
  rw [add2, addr_add _ rfl]
  refine ⟨rfl, _, T, fr, .inl h, ?_, rfl⟩
  have h1 : i + j < (signsL.map fun l => Value.string (strOf l)).length := by simp [signsL]; omega
  have h2 : i + j < signsL.length := by simp [signsL]; omega
  simp only [Nat.zero_add]
  rw [List.drop_eq_getElem_cons h1, List.take_succ_cons, List.take_zero]
  simp [sgn, List.getD_eq_getElem?_getD, h2]
theorem sgn_len (j : Nat) : (sgn j).length ≤ 3 := by
  by_cases h : j < 30
  · have : ∀ j : Fin 30, (sgn j.val).length ≤ 3 := by decide
    exact this ⟨j, h⟩
  · have : signsL.length ≤ j := by simp [signsL]; omega
    simp [sgn, List.getD_eq_getElem?_getD, this]

def aheadB (deb : List Int) (d : Nd) : List UInt8 :=
  bif decide (d.k = 0) || decide (d.k = 2) then litB d.t else
  bif decide (d.k = 1) then classB deb d.s0 d.s1 d.s2 d.s3 else
  bif decide (d.k = 3) then d.t.data.toList else
  bif decide (d.k = 9) then sgn 27 ++ d.t.data.toList ++ [58, 32] else sgn (d.k.toNat * 3)
def behindB (d : Nd) : List UInt8 := bif decide (d.k = 6) then countB d.lo.toNat d.hi else sgn (d.k.toNat * 3 + 2)
theorem strOf_self (s : ByteArray) : strOf s.data.toList = s := bytes_eq (by simp [strOf])

theorem behind_spec {I : GH} (hc : HasCounts I) (hp : HasPCounts I) (hsg : HasSigns I) {d : Nd} (hd : d.ok I) (hf : FitsSays d) : Spec Tryd.prog 94 [d.val] I [] fun r I' M' => r = .string (strOf (behindB d)) ∧ I' = I ∧ M' = [] := by
  refine spec_of_V [] TrydEOK Tryd.func94 rfl rfl rfl ?_
  intro B h0
  refine CondOb.mk (fun h => ?_) (fun h => ?_)
  · obtain ⟨g1, g2, g3⟩ := hf.rep (by simpa using h)
    have e1 : d.lo = ((d.lo.toNat : Nat) : Int) := by omega
    have hcs := Count_spec hc hp d.lo.toNat d.hi (by omega) (by omega)
    rw [← e1] at hcs
    refine CallOb.mk [] [] _ (.refl _) hcs ?_
    rintro v I' M' - ⟨rfl, rfl, rfl⟩
    refine ⟨_, _, .refl, ?_, rfl, rfl⟩
    simp only [behindB, h]
    rfl
  · have hk := hd.k
    have hk1 := hf.k
    refine ArrOb.mk d.k.toNat (by omega) (by omega) ?_
    refine LoadOb.mk _ (hsg.rd _ (by show d.k.toNat * 3 + 2 < 30; omega)) ?_
    refine ⟨_, _, .refl, ?_, rfl, rfl⟩
    simp only [behindB, h]
    rfl

theorem ahead_spec {I : GH} {deb : List Int} (hdeb : HasDeb I deb) (hsg : HasSigns I) {d : Nd} (hd : d.ok I) (hf : FitsSays d) : Spec Tryd.prog 92 [d.val] I []
    fun r I' M' => r = .string (strOf (aheadB deb d)) ∧ (∀ b o, I b = some o → I' b = some o) ∧ M' = [] := by
  refine spec_of_V [] TrydEOK Tryd.func92 rfl rfl rfl ?_
  intro B h0
  have hk := hd.k
  have hk1 := hf.k
  have ht := hf.t
  have lit : (decide (d.k = 0) || decide (d.k = 2)) = true → aheadB deb d = litB d.t := fun h => by
    simp only [aheadB, h]
    rfl
  refine CondOb.mk (fun h1 => ?_) (fun h1 => ?_)
  · refine CondOb.mk (fun _ => ?_) (fun h => by rw [h1] at h; cases h)
    refine CallOb.mk [] [] _ (.refl _) (Literal_spec d.t (by omega)) ?_
    rintro v I' M' - ⟨rfl, rfl, rfl⟩
    refine ⟨_, _, .refl, ?_, fun _ _ h => h, rfl⟩
    rw [lit (by rw [h1]; rfl)]
  · refine CondOb.mk (fun h2 => ?_) (fun h2 => ?_)
    · refine CallOb.mk [] [] _ (.refl _) (Literal_spec d.t (by omega)) ?_
      rintro v I' M' - ⟨rfl, rfl, rfl⟩
      refine ⟨_, _, .refl, ?_, fun _ _ h => h, rfl⟩
      rw [lit (by rw [h2]; simp)]
    · refine CondOb.mk (fun h3 => ?_) (fun h3 => ?_)
      · refine CallOb.mk [] [] _ (.refl _) (Class_spec hdeb (a := d.s0) (b := d.s1) (c := d.s2) (d := d.s3) (fun x hx => by
          simp only [List.mem_cons, List.not_mem_nil, or_false] at hx
          rcases hx with rfl | rfl | rfl | rfl
          · exact hd.s0
          · exact hd.s1
          · exact hd.s2
          · exact hd.s3)) ?_
        rintro v I' M' - ⟨rfl, hI, rfl⟩
        refine ⟨_, _, .refl, ?_, hI, rfl⟩
        simp only [aheadB, h1, h2, h3]
        rfl
      · refine CondOb.mk (fun h4 => ?_) (fun h4 => ?_)
        · refine ⟨_, _, .refl, ?_, fun _ _ h => h, rfl⟩
          simp only [aheadB, h1, h2, h3, h4]
          rw [← strOf_self d.t]
          rfl
        · refine CondOb.mk (fun h5 => ?_) (fun h5 => ?_)
          · have hk9 : d.k = 9 := by simpa using h5
            refine CodeOb.draw TrydEOK rfl rfl rfl ?_
            refine ArrOb.mk 9 hk9 (by decide) ?_
            refine LoadOb.mk _ (hsg.rd _ (by decide)) ?_
            have hs1 : (strOf (sgn 27)).size = 1 := by decide
            refine BinOb.concat (a := strOf (sgn 27)) (b := d.t) (by omega) ?_
            refine BinOb.concat (a := strOf (sgn 27) ++ d.t) (b := strOf [58, 32]) (by rw [ByteArray.size_append]; show _ + 2 ≤ _; omega) ?_
            refine ⟨_, _, .refl, ?_, fun _ _ h => h, rfl⟩
            simp only [aheadB, h1, h2, h3, h4, h5]
            refine congrArg Value.string (bytes_eq ?_)
            simp [strOf]
          · refine ArrOb.mk d.k.toNat (by omega) (by omega) ?_
            refine LoadOb.mk _ (hsg.rd _ (by show d.k.toNat * 3 + 0 < 30; omega)) ?_
            refine ⟨_, _, .refl, ?_, fun _ _ h => h, rfl⟩
            simp only [aheadB, h1, h2, h3, h4, h5]
            rfl
end Go.V
