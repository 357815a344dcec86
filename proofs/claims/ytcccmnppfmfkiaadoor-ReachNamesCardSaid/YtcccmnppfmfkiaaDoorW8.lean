/-
  Walks: set.each, its iterator, set.Runs.
-/
import Derived.Test.YtcccmnppfmfkiaaDoorW7
set_option linter.unusedVariables false
set_option linter.unusedSimpArgs false
namespace Go.V
open Go Go.Proofs

theorem ins_self (I : GH) (b : Nat) (o : Obj) : ins I b o b = some o := by
  simp [ins]
theorem ins_le {I : GH} {b : Nat} {o : Obj} (hb : I b = none) : ∀ c p, I c = some p → ins I b o c = some p := by
  intro c p h
  unfold ins
  cases e : Nat.beq c b with
  | false => exact h
  | true =>
    have := Nat.eq_of_beq_eq_true e
    subst this
    rw [hb] at h
    cases h

/-! ### A word's bits -/
theorem andV_nat {x y : Int} (hx : u64ok x) (hy : u64ok y) : andV x y = ((x.toNat &&& y.toNat : Nat) : Int) := by
  obtain ⟨x, rfl⟩ := Int.eq_ofNat_of_zero_le hx.1
  obtain ⟨y, rfl⟩ := Int.eq_ofNat_of_zero_le hy.1
  have h1 : x < 18446744073709551616 := by have := hx.2; omega
  have h2 : y < 18446744073709551616 := by have := hy.2; omega
  have e : ∀ z : Nat, z < 18446744073709551616 → (BitVec.ofInt 64 (z : Int)).toNat = z := fun z hz => by
    rw [BitVec.toNat_ofInt]
    omega
  unfold andV
  rw [BitVec.toNat_and, e x h1, e y h2, wrap_u64_id]
  · simp
  · have := Nat.and_le_left (n := x) (m := y)
    exact ⟨by omega, by omega⟩
def nxtV (x : Int) : Int := andV x (IntKind.u64.wrap (x - 1))
def popc (n : Nat) : Nat := ((List.range 64).filter n.testBit).length
theorem popc_le (n : Nat) : popc n ≤ 64 := by
  have := List.length_filter_le n.testBit (List.range 64)
  simpa [popc] using this
theorem nxt_pop {x : Int} (hx : u64ok x) (h0 : x ≠ 0) : u64ok (nxtV x) ∧ popc (nxtV x).toNat < popc x.toNat := by
  obtain ⟨n, rfl⟩ := Int.eq_ofNat_of_zero_le hx.1
  have h1 : n < 18446744073709551616 := by have := hx.2; omega
  have hpos : 0 < n := by omega
  have hs : u64ok ((n : Int) - 1) := ⟨by omega, by omega⟩
  have e : nxtV (n : Int) = ((n &&& (n - 1) : Nat) : Int) := by
    unfold nxtV
    rw [wrap_u64_id hs, andV_nat hx hs]
    congr 2
    omega
  have hle : n &&& (n - 1) ≤ n - 1 := Nat.and_le_right
  refine ⟨by rw [e]; exact ⟨by omega, by omega⟩, ?_⟩
  rw [e]
  simp only [Int.toNat_natCast]
  unfold popc
  have hsub : List.Sublist ((List.range 64).filter (n &&& (n - 1)).testBit) ((List.range 64).filter n.testBit) := by
    have : (List.range 64).filter (n &&& (n - 1)).testBit = ((List.range 64).filter n.testBit).filter (n - 1).testBit := by
      rw [List.filter_filter]
      congr 1
      funext i
      rw [Nat.testBit_and, Bool.and_comm]
    rw [this]
    exact List.filter_sublist
  rcases Nat.lt_or_eq_of_le hsub.length_le with h | h
  · exact h
  · exfalso
    have heq := hsub.eq_of_length h
    have : n &&& (n - 1) = n := by
      apply Nat.eq_of_testBit_eq
      intro i
      by_cases hi : i < 64
      · have hm : i ∈ (List.range 64).filter (n &&& (n - 1)).testBit ↔ i ∈ (List.range 64).filter n.testBit := by rw [heq]
        simp only [List.mem_filter, List.mem_range, hi, true_and] at hm
        cases h1 : (n &&& (n - 1)).testBit i <;> cases h2 : n.testBit i <;> simp_all
      · have h2 : 2 ^ 64 ≤ 2 ^ i := Nat.pow_le_pow_right (by omega) (by omega)
        rw [Nat.testBit_lt_two_pow (by omega), Nat.testBit_lt_two_pow (by omega)]
    omega

def byteOf (deb : List Int) (i : Nat) (w : Int) : UInt8 := UInt8.ofNat (IntKind.u8.wrap ((i : Int) * 64 + tz64 deb w)).toNat
theorem byteOf_val (deb : List Int) (i : Nat) (w : Int) : ((byteOf deb i w).toNat : Int) = IntKind.u8.wrap ((i : Int) * 64 + tz64 deb w) := by
  have := wrap_u8 ((i : Int) * 64 + tz64 deb w)
  unfold byteOf
  rw [UInt8.toNat_ofNat']
  omega
def bitsL (deb : List Int) (i : Nat) : Nat → Int → List UInt8
  | 0, _ => []
  | f + 1, w => bif decide (w = 0) then [] else byteOf deb i w :: bitsL deb i f (nxtV w)
def eachFrom (deb : List Int) : Nat → List Int → List UInt8
  | _, [] => []
  | i, w :: ws => bitsL deb i 64 w ++ eachFrom deb (i + 1) ws
theorem bitsL_len (deb : List Int) (i : Nat) : ∀ f w, (bitsL deb i f w).length ≤ f
  | 0, _ => by simp [bitsL]
  | f + 1, w => by
    unfold bitsL
    have := bitsL_len deb i f (nxtV w)
    cases decide (w = 0) <;> simp
    exact this
theorem eachFrom_len (deb : List Int) : ∀ ws i, (eachFrom deb i ws).length ≤ 64 * ws.length
  | [], _ => by simp [eachFrom]
  | w :: ws, i => by
    have h1 := bitsL_len deb i 64 w
    have h2 := eachFrom_len deb ws (i + 1)
    simp only [eachFrom, List.length_append, List.length_cons]
    omega

def u8s (l : List UInt8) : List (List Value) := l.map fun c => [.int .u8 c.toNat]
def setV (a b c d : Int) : List Value := [.int .u64 a, .int .u64 b, .int .u64 c, .int .u64 d]

theorem each_spec {I : GH} (a b c d : Int) : Spec Tryd.prog 106 [.agg #[.int .u64 a, .int .u64 b, .int .u64 c, .int .u64 d]] I [] fun r I' M' => ∃ g, r = .func (.func 109) #[] #[ptr g] ∧ I' g = some (.cells (setV a b c d).toArray 29 (0, 0)) ∧ (∀ b o, I b = some o → I' b = some o) ∧ M' = [] := by
  refine spec_of_V [1] TrydEOK Tryd.func106 rfl rfl rfl ?_
  intro B h0
  refine AllocOb.mk fun g hg hgM => ?_
  exact ⟨_, _, .prom rfl (by simp) .refl, g, rfl, ins_self .., ins_le hg, rfl⟩

theorem each1_iter {I : GH} {deb : List Int} (hdeb : HasDeb I deb) {g : Nat} {a b c d : Int} (hws : ∀ x ∈ [a, b, c, d], u64ok x) (hg : I g = some (.cells (setV a b c d).toArray 29 (0, 0))) :
    Iter Tryd.prog 109 [ptr g] I (u8s (eachFrom deb 0 [a, b, c, d])) := by
  intro l R Rx hY I0 M0 hI0 hR0
  refine specE_of_V [] TrydEOK Tryd.func109 rfl rfl rfl ?_
  intro B h0
  have hrd : ∀ (I1 : GH) (M : List Blk), (∀ b o, I b = some o → I1 b = some o) → Rd I1 M ⟨g, 0, none⟩ 4 (setV a b c d) := fun I1 M h => ⟨rfl, _, _, _, .inl (h _ _ hg), rfl, rfl⟩
  refine LoadOb.mk _ (hrd _ _ hI0) ?_
  refine LoopOb.inv (ι := Nat × Nat × GH × List Blk)
    (fun x => { fl := [(0, .val (.func (.yield l) #[] #[])), (5, .val (.agg (setV a b c d).toArray)), (6, .val (.int .i64 x.1))], gi := x.2.2.1, mi := x.2.2.2 })
    (fun x => x.1 ≤ 4 ∧ (∀ b o, I b = some o → x.2.2.1 b = some o) ∧ R x.2.1 x.2.2.1 x.2.2.2 ∧ x.2.1 ≤ (eachFrom deb 0 [a, b, c, d]).length ∧ (eachFrom deb 0 [a, b, c, d]).drop x.2.1 = eachFrom deb x.1 ([a, b, c, d].drop x.1)) (fun x => 4 - x.1) ?_ ?_
  · exact ⟨(0, 0, I0, M0), ⟨by simp, hI0, hR0, by simp, rfl⟩, .refl, .cons .refl (.cons .refl (.cons .refl .nil)), .nil⟩
  · rintro ⟨i, k, I1, M1⟩ ⟨hi, hI1, hR1, hkl, hd1⟩
    simp only at hi hI1 hR1 hkl hd1
    refine CondOb.mk (fun h => ?_) (fun h => ?_)
    · have hlt : i < 4 := by simp at h; omega
      have hlt' : i < [a, b, c, d].length := hlt
      refine ArrOb.mk i rfl hlt ?_
      have hval : pack false ((((setV a b c d).toArray).toList.drop (i * 1)).take 1) = .int .u64 [a, b, c, d][i] := by
        match i, hlt with
        | 0, _ => rfl
        | 1, _ => rfl
        | 2, _ => rfl
        | 3, _ => rfl
      have hdrop : [a, b, c, d].drop i = [a, b, c, d][i] :: [a, b, c, d].drop (i + 1) := List.drop_eq_getElem_cons hlt'
      refine LoopOb.inv (ι := Int × Nat × Nat × GH × List Blk)
        (fun x => { fl := [(0, .val (.func (.yield l) #[] #[])), (3, .val (.int .i64 i)), (4, .val (.int .u64 x.1)), (5, .val (.agg (setV a b c d).toArray)), (6, .val (.int .i64 i))], gi := x.2.2.2.1, mi := x.2.2.2.2 })
        (fun x => u64ok x.1 ∧ popc x.1.toNat ≤ x.2.1 ∧ (∀ b o, I b = some o → x.2.2.2.1 b = some o) ∧ R x.2.2.1 x.2.2.2.1 x.2.2.2.2 ∧ x.2.2.1 ≤ (eachFrom deb 0 [a, b, c, d]).length ∧ (eachFrom deb 0 [a, b, c, d]).drop x.2.2.1 = bitsL deb i x.2.1 x.1 ++ eachFrom deb (i + 1) ([a, b, c, d].drop (i + 1))) (fun x => popc x.1.toNat) ?_ ?_
      · refine ⟨([a, b, c, d][i], 64, k, I1, M1), ⟨hws _ (List.getElem_mem hlt'), popc_le _, hI1, hR1, hkl, ?_⟩, .refl, .cons .refl (.cons .refl (.cons ?_ (.cons .refl (.cons .refl .nil)))), .nil⟩
        · simp only
          rw [hd1, hdrop]
          rfl
        · simp only
          rw [← hval]
          exact .refl
      · rintro ⟨w, f, k, I1, M1⟩ ⟨hw, hf, hI1, hR1, hkl, hd1⟩
        simp only at hw hf hI1 hR1 hkl hd1
        refine CondOb.mk (fun h => ?_) (fun h => ?_)
        · have hw0 : w ≠ 0 := by simpa using h
          obtain ⟨n1, n2⟩ := nxt_pop hw hw0
          obtain ⟨f, rfl⟩ : ∃ f', f = f' + 1 := ⟨f - 1, by omega⟩
          have hb : bitsL deb i (f + 1) w = byteOf deb i w :: bitsL deb i f (nxtV w) := by
            simp [bitsL, hw0]
          rw [hb, List.cons_append] at hd1
          have hk : k < (eachFrom deb 0 [a, b, c, d]).length := by
            apply Nat.lt_of_not_le
            intro hle
            rw [List.drop_eq_nil_of_le hle] at hd1
            cases hd1
          have hdk := List.drop_eq_getElem_cons hk
          rw [hd1] at hdk
          obtain ⟨hk1, hk2⟩ := List.cons.inj hdk
          have hkv : k < (u8s (eachFrom deb 0 [a, b, c, d])).length := by simpa [u8s] using hk
          have hv : (u8s (eachFrom deb 0 [a, b, c, d]))[k] = [.int .u8 (IntKind.u8.wrap ((i : Int) * 64 + tz64 deb w))] := by
            simp only [u8s, List.getElem_map, ← hk1, byteOf_val]
          have hdb : HasDeb I1 deb := by
            obtain ⟨q1, q2, T, fr, q3⟩ := hdeb
            exact ⟨q1, q2, T, fr, hI1 _ _ q3⟩
          have htz := tz64_ok hdb w
          refine ArithOb.mk ((i : Int) * 64) (wrap_i64 ⟨by omega, by omega⟩) ?_
          refine CallOb.mk [] M1 _ (.refl _) (TZ_spec hdb w) ?_
          rintro v I' M' - ⟨rfl, rfl, rfl⟩
          refine ArithOb.mk ((i : Int) * 64 + tz64 deb w) (wrap_i64 ⟨by omega, by omega⟩) ?_
          refine ArithOb.mk _ rfl ?_
          refine OtherOb.yield rfl (by simp) rfl rfl ?_
          have hy := hY k hkv I' M1 hI1 hR1
          rw [hv] at hy
          refine CallObY.mk M1 [] _ (by simp) hy ?_
          rintro v I2 M2 hI2 (⟨rfl, hR2⟩ | ⟨rfl, hx⟩)
          · refine CondOb.mk (fun h => by simp at h) (fun _ => ?_)
            refine ArithOb.mk _ rfl ?_
            exact ⟨(nxtV w, f, k + 1, I2, M2), ⟨⟨n1, by simp only; omega, fun b o h => hI2 b o (hI1 b o h), hR2, hk, hk2.symm⟩, by simp only; exact n2⟩, .perm (by simp) .refl, .cons .refl (.cons .refl (.cons .refl (.cons .refl (.cons .refl .nil)))), .nil⟩
          · refine CondOb.mk (fun _ => ?_) (fun h => by simp at h)
            exact ⟨_, _, .perm (by simp) .refl, .inr hx⟩
        · have hw0 : w = 0 := by simpa using h
          have hwr : IntKind.i64.wrap ((i : Int) + 1) = ((i + 1 : Nat) : Int) := by
            rw [wrap_i64 ⟨by omega, by omega⟩]
            omega
          refine ArithOb.mk _ hwr ?_
          have hb : bitsL deb i f w = [] := by cases f <;> simp [bitsL, hw0]
          rw [hb, List.nil_append] at hd1
          exact ⟨(i + 1, k, I1, M1), ⟨⟨by simp only; omega, hI1, hR1, hkl, hd1⟩, by simp only; omega⟩, .refl, .cons .refl (.cons .refl (.cons .refl .nil)), .nil⟩
    · have hi4 : i = 4 := by simp at h; omega
      subst hi4
      refine ⟨_, _, .refl, .inl ?_⟩
      have hnil : (eachFrom deb 0 [a, b, c, d]).drop k = [] := by rw [hd1]; rfl
      have hke : k = (u8s (eachFrom deb 0 [a, b, c, d])).length := by
        have := List.drop_eq_nil_iff.1 hnil
        simp only [u8s, List.length_map]
        omega
      rw [← hke]
      exact hR1

/-! ### Runs -/
def runStep (l : List (UInt8 × UInt8)) (b : UInt8) : List (UInt8 × UInt8) := match l.getLast? with
  | some p => bif decide ((p.2.toNat : Int) + 1 = b.toNat) then l.dropLast ++ [(p.1, b)] else l ++ [(b, b)]
  | none => [(b, b)]
def runsOf (l : List UInt8) : List (UInt8 × UInt8) := l.foldl runStep []
def pairC (p : UInt8 × UInt8) : List Value := [.int .u8 p.1.toNat, .int .u8 p.2.toNat]
def pairV (l : List (UInt8 × UInt8)) : List Value := l.flatMap pairC
theorem pairV_len (l : List (UInt8 × UInt8)) : (pairV l).length = l.length * 2 := flat_len pairC 2 (fun _ => rfl) l
theorem runStep_len (l : List (UInt8 × UInt8)) (b : UInt8) : (runStep l b).length ≤ l.length + 1 := by
  unfold runStep
  split
  · rename_i p h
    cases decide ((p.2.toNat : Int) + 1 = b.toNat) <;> simp
  · simp
theorem runsOf_len (l : List UInt8) : (runsOf l).length ≤ l.length := by
  have : ∀ (l : List UInt8) (acc : List (UInt8 × UInt8)), (l.foldl runStep acc).length ≤ acc.length + l.length := by
    intro l
    induction l with
    | nil => intro acc; simp
    | cons b l ih =>
      intro acc
      have h1 := ih (runStep acc b)
      have h2 := runStep_len acc b
      simp only [List.foldl_cons, List.length_cons]
      omega
  simpa [runsOf] using this l []

theorem add2 {b i j : Nat} : ((⟨b, 0, none⟩ : Addr).add i).add j = (⟨b, 0, none⟩ : Addr).add (i + j) := by
  rw [addr_add ⟨_, 0, none⟩ rfl i, addr_add _ rfl j, addr_add _ rfl (i + j)]
  simp
theorem blk_rd2 {I : GH} {M : List Blk} {b T : Nat} {cs : List Value} (hM : (⟨b, .cells cs.toArray T (0, 0)⟩ : Blk) ∈ M) {i j : Nat} {v : Value} (h : cs[i + j]? = some v) : Rd I M (((⟨b, 0, none⟩ : Addr).add i).add j) 1 [v] := by
  obtain ⟨hl, rfl⟩ := List.getElem?_eq_some_iff.1 h
  have := blk_rd (I := I) hM (k := i + j) (n := 1) (by omega)
  rw [List.drop_eq_getElem_cons hl, List.take_succ_cons, List.take_zero] at this
  rw [add2]
  exact this
theorem splice_at (pre : List Value) (u v z : Value) (rest : List Value) (k : Nat) (hk : k = pre.length + 1) : splice (pre ++ ([u, v] ++ rest)) k [z] = pre ++ ([u, z] ++ rest) := by
  subst hk
  unfold splice
  have e1 : (pre ++ ([u, v] ++ rest)).take (pre.length + 1) = pre ++ [u] := by
    rw [show pre ++ ([u, v] ++ rest) = (pre ++ [u]) ++ (v :: rest) from by simp]
    exact List.take_left' (by simp)
  have e2 : (pre ++ ([u, v] ++ rest)).drop (pre.length + 1 + [z].length) = rest := by
    rw [show pre ++ ([u, v] ++ rest) = (pre ++ [u, v]) ++ rest from by simp]
    exact List.drop_left' (by simp)
  rw [e1, e2]
  simp
theorem app_ok {os : OS} {rs : List (UInt8 × UInt8)} {x : UInt8} (hos : os.ok 2 (pairV rs)) {g c : Nat} {cur : List Value} (h1 : cur.length = c * 2) (h2 : os.n + 1 ≤ c) (h3 : c ≤ maxLen) (h4 : cur.take ((os.n + 1) * 2) = pairV rs ++ pairC (x, x)) :
    OS.ok ⟨some g, os.n + 1, c, cur⟩ 2 (pairV (rs ++ [(x, x)])) := by
  have hpx : pairV (rs ++ [(x, x)]) = pairV rs ++ pairC (x, x) := by simp [pairV]
  have hl := hos.len
  refine ⟨?_, (fun h => by cases h), fun g3 hg3 => ⟨h1, h2, h3, by rw [hpx]; exact h4⟩⟩
  rw [hpx, List.length_append, hl]
  simp [pairC]
  omega
theorem runsOf_snoc (l : List UInt8) (x : UInt8) : runsOf (l ++ [x]) = runStep (runsOf l) x := by
  simp [runsOf]

set_option maxHeartbeats 1000000 in
theorem Runs_spec {I : GH} {deb : List Int} (hdeb : HasDeb I deb) {a b c d : Int} (hws : ∀ x ∈ [a, b, c, d], u64ok x) : Spec Tryd.prog 101 [.agg #[.int .u64 a, .int .u64 b, .int .u64 c, .int .u64 d]] I []
    fun r I' M' => (∀ b o, I b = some o → I' b = some o) ∧ ∃ os : OS, r = os.val ∧ os.ok 2 (pairV (runsOf (eachFrom deb 0 [a, b, c, d]))) ∧ M' = os.blk 138 := by
  refine spec_of_V [3] TrydEOK Tryd.func101 rfl rfl rfl ?_
  intro B h0
  refine AllocOb.mk fun g hg hgM => ?_
  refine CallOb.mk [] [⟨g, .cells #[.slice none 0 0] 136 (0, 0)⟩] _ (.refl _) (each_spec a b c d) ?_
  rintro v I1 M1 - ⟨g1, rfl, hg1, hI1, rfl⟩
  have hdeb1 : HasDeb I1 deb := by
    obtain ⟨q1, q2, T, fr, q3⟩ := hdeb
    exact ⟨q1, q2, T, fr, hI1 _ _ q3⟩
  have hL := eachFrom_len deb [a, b, c, d] 0
  refine CodeOb.range TrydEOK rfl rfl rfl .refl (each1_iter hdeb1 hws hg1) (fun vs h => ?_)
    (fun k I' M' => (∀ b o, I1 b = some o → I' b = some o) ∧ ∃ os : OS, os.ok 2 (pairV (runsOf ((eachFrom deb 0 [a, b, c, d]).take k))) ∧ M' = ⟨g, .cells #[os.val] 136 (0, 0)⟩ :: os.blk 138)
    (fun _ _ _ => False) ⟨fun _ _ h => h, ⟨none, 0, 0, []⟩, ⟨rfl, fun _ => ⟨rfl, rfl⟩, fun g h => by cases h⟩, rfl⟩ ?_ ?_ (fun _ _ _ _ h => h.elim)
  · obtain ⟨c, _, rfl⟩ := List.mem_map.1 h
    rfl
  · rintro k hk I' M' - ⟨hI', os, hos, rfl⟩ l B h0 h0'
    have hkL : k < (eachFrom deb 0 [a, b, c, d]).length := by simpa [u8s] using hk
    generalize hLd : eachFrom deb 0 [a, b, c, d] = L at *
    generalize hx : L[k] = x
    have hv : (u8s L)[k] = [.int .u8 x.toNat] := by simp [u8s, hx]
    rw [hv]
    have htk : runsOf (L.take (k + 1)) = runStep (runsOf (L.take k)) x := by
      rw [List.take_succ_eq_append_getElem hkL, hx, runsOf_snoc]
    rw [htk]
    have hrl : (runsOf (L.take k)).length ≤ 256 := by
      have h1 := runsOf_len (L.take k)
      have h2 := List.length_take_le k L
      simp only [List.length_cons, List.length_nil] at hL
      omega
    generalize hrs : runsOf (L.take k) = rs at *
    have hxl := x.toNat_lt
    obtain ⟨oa, n, cp, cur⟩ := os
    have hn : rs.length = n := by
      have := hos.len
      rw [pairV_len] at this
      simp only at this
      omega
    cases oa with
    | none =>
      obtain ⟨e1, e2⟩ := hos.nil rfl
      simp only at e1 e2
      subst e1
      subst e2
      have hr0 : rs = [] := List.eq_nil_of_length_eq_zero hn
      have hstep : runStep rs x = rs ++ [(x, x)] := by rw [hr0]; rfl
      refine LoadOb.mk [.slice none 0 0] (blk_rd (cs := [.slice none 0 0]) (k := 0) (n := 1) (T := 136) (.head _) (by simp)) ?_
      refine ArithOb.mk (-1) (by decide) ?_
      refine GuardOb.mk (fun h => by simp at h) (fun _ => ?_)
      refine LoadOb.mk [.slice none 0 0] (blk_rd (cs := [.slice none 0 0]) (k := 0) (n := 1) (T := 136) (.head _) (by simp)) ?_
      refine AllocOb.mk fun g2 hg2 hgM2 => ?_
      refine OtherOb.append TrydEOK rfl (by simp) (e := 138) rfl rfl rfl (⟨none, 0, 0, cur⟩ : OS) hos rfl (m := 1) rfl (news := pairC (x, x)) (by decide) (blk_rd (cs := pairC (x, x)) (k := 0) (n := 2) (T := 138) (.head _) (by simp [pairC])) rfl (Mr := [⟨g2, .cells (pairC (x, x)).toArray 138 (0, 0)⟩, ⟨g, .cells #[.slice none 0 0] 136 (0, 0)⟩]) (List.perm_append_comm (l₁ := [_, _])) (by simp only [maxLen]; omega) (by show (_ + 1) * 2 ≤ _; simp only; omega) ?_
      intro g' c' cur' q1 q2 q3 q4
      refine StoreOb.mk [⟨g', .cells cur'.toArray 138 (0, 0)⟩, ⟨g2, .cells (pairC (x, x)).toArray 138 (0, 0)⟩] [] _ _ rfl rfl (Nat.le_of_ble_eq_true rfl) rfl ?_
      refine ⟨_, _, .perm (M1 := [⟨g2, .cells (pairC (x, x)).toArray 138 (0, 0)⟩] ++ (⟨g, .cells #[OS.val ⟨some g', (⟨none, 0, 0, cur⟩ : OS).n + 1, c', cur'⟩] 136 (0, 0)⟩ :: OS.blk ⟨some g', (⟨none, 0, 0, cur⟩ : OS).n + 1, c', cur'⟩ 138)) (List.perm_append_comm (l₁ := [_]) (l₂ := [_, _])) (.sub (List.sublist_append_right _ _) .refl), hI', ⟨some g', (⟨none, 0, 0, cur⟩ : OS).n + 1, c', cur'⟩, ?_, rfl⟩
      rw [hstep]
      exact app_ok hos q1 q2 q3 q4
    | some gb =>
      obtain ⟨hcl, hnc, hcm, hct⟩ := hos.cap gb rfl
      simp only at hcl hnc hcm hct
      refine LoadOb.mk [.slice (some ⟨gb, 0, none⟩) n cp] (blk_rd (cs := [.slice (some ⟨gb, 0, none⟩) n cp]) (k := 0) (n := 1) (T := 136) (.head _) (by simp)) ?_
      refine ArithOb.mk ((n : Int) - 1) (wrap_i64 ⟨by omega, by omega⟩) ?_
      refine GuardOb.mk (fun h1 => ?_) (fun h1 => ?_)
      · have hpos : 1 ≤ n := by simp at h1; omega
        obtain ⟨rs0, p, rfl⟩ : ∃ rs0 p, rs = rs0 ++ [p] := by
          rcases List.eq_nil_or_concat rs with h | ⟨r, p, h⟩
          · subst h; simp at hn; omega
          · exact ⟨r, p, by simpa using h⟩
        have hn0 : rs0.length = n - 1 := by simp at hn; omega
        have hp0 : (pairV rs0).length = (n - 1) * 2 := by rw [pairV_len, hn0]
        obtain ⟨rest, hcur⟩ : ∃ rest, cur = pairV rs0 ++ ([.int .u8 p.1.toNat, .int .u8 p.2.toNat] ++ rest) := by
          refine ⟨cur.drop (n * 2), ?_⟩
          have h2 := List.take_append_drop (n * 2) cur
          rw [hct] at h2
          rw [← h2, List.drop_left' (by rw [pairV_len, hn])]
          simp [pairV, pairC]
        have hat : cur[(n - 1) * 2 + 1 * 1]? = some (.int .u8 p.2.toNat) := by
          rw [hcur, ← hp0, List.getElem?_append_right (by omega)]
          simp
        have hpl := p.2.toNat_lt
        refine LoadOb.mk [.slice (some ⟨gb, 0, none⟩) n cp] (blk_rd (cs := [.slice (some ⟨gb, 0, none⟩) n cp]) (k := 0) (n := 1) (T := 136) (.head _) (by simp)) ?_
        refine IdxOb.mk ⟨gb, 0, none⟩ (n - 1) rfl (by omega) (by omega) ?_
        refine ArrOb.mk 1 rfl (by decide) ?_
        refine LoadOb.mk [.int .u8 p.2.toNat] (blk_rd2 (b := gb) (cs := cur) (T := 138) (by simp [OS.blk]) hat) ?_
        refine ArithOb.mk (p.2.toNat : Int) (wrap_i64 ⟨by omega, by omega⟩) ?_
        refine ArithOb.mk ((p.2.toNat : Int) + 1) (wrap_i64 ⟨by omega, by omega⟩) ?_
        refine ArithOb.mk (x.toNat : Int) (wrap_i64 ⟨by omega, by omega⟩) ?_
        have hstep : runStep (rs0 ++ [p]) x = bif decide ((p.2.toNat : Int) + 1 = x.toNat) then rs0 ++ [(p.1, x)] else rs0 ++ [p] ++ [(x, x)] := by
          simp [runStep]
        refine CondOb.mk (fun h2 => ?_) (fun h2 => ?_)
        · rw [h2] at hstep
          refine LoadOb.mk [.slice (some ⟨gb, 0, none⟩) n cp] (blk_rd (cs := [.slice (some ⟨gb, 0, none⟩) n cp]) (k := 0) (n := 1) (T := 136) (.head _) (by simp)) ?_
          refine IdxOb.mk ⟨gb, 0, none⟩ (n - 1) rfl (by omega) (by omega) ?_
          refine ArrOb.mk 1 rfl (by decide) ?_
          rw [add2]
          refine StoreOb.add [⟨g, .cells #[.slice (some ⟨gb, 0, none⟩) n cp] 136 (0, 0)⟩] [] cur.toArray _ rfl ?_ rfl ?_
          · simp only [List.size_toArray]
            show 0 + ((n - 1) * 2 + 1) + 1 ≤ _
            omega
          · refine ⟨_, _, .refl, hI', ⟨some gb, n, cp, splice cur (0 + ((n - 1) * 2 + 1 * 1)) [.int .u8 x.toNat]⟩, ?_, rfl⟩
            have hsp : splice cur (0 + ((n - 1) * 2 + 1 * 1)) [.int .u8 x.toNat] = pairV rs0 ++ ([.int .u8 p.1.toNat, .int .u8 x.toNat] ++ rest) := by
              rw [hcur]
              exact splice_at _ _ _ _ _ _ (by omega)
            rw [hstep, hsp]
            have hpx : pairV (rs0 ++ [(p.1, x)]) = pairV rs0 ++ [.int .u8 p.1.toNat, .int .u8 x.toNat] := by simp [pairV, pairC]
            refine ⟨?_, (fun h => by cases h), fun g3 hg3 => ⟨?_, hnc, hcm, ?_⟩⟩
            · simp only [cond_true]
              rw [hpx, List.length_append, hp0]
              simp
              omega
            · simp only
              rw [← hcl, hcur]
              simp
            · simp only [cond_true]
              rw [hpx, ← List.append_assoc]
              refine List.take_left' ?_
              rw [List.length_append, hp0]
              simp
              omega
        · rw [h2] at hstep
          simp only [cond_false] at hstep
          refine LoadOb.mk [.slice (some ⟨gb, 0, none⟩) n cp] (blk_rd (cs := [.slice (some ⟨gb, 0, none⟩) n cp]) (k := 0) (n := 1) (T := 136) (.head _) (by simp)) ?_
          refine AllocOb.mk fun g2 hg2 hgM2 => ?_
          refine OtherOb.append TrydEOK rfl (by simp) (e := 138) rfl rfl rfl (⟨some gb, n, cp, cur⟩ : OS) hos rfl (m := 1) rfl (news := pairC (x, x)) (by decide) (blk_rd (cs := pairC (x, x)) (k := 0) (n := 2) (T := 138) (.head _) (by simp [pairC])) rfl (Mr := [⟨g2, .cells (pairC (x, x)).toArray 138 (0, 0)⟩, ⟨g, .cells #[.slice (some ⟨gb, 0, none⟩) n cp] 136 (0, 0)⟩]) (List.perm_append_comm (l₁ := [_, _])) (by simp only [maxLen]; omega) (by show (_ + 1) * 2 ≤ _; simp only; omega) ?_
          intro g' c' cur' q1 q2 q3 q4
          refine StoreOb.mk [⟨g', .cells cur'.toArray 138 (0, 0)⟩, ⟨g2, .cells (pairC (x, x)).toArray 138 (0, 0)⟩] [] _ _ rfl rfl (Nat.le_of_ble_eq_true rfl) rfl ?_
          refine ⟨_, _, .perm (M1 := [⟨g2, .cells (pairC (x, x)).toArray 138 (0, 0)⟩] ++ (⟨g, .cells #[OS.val ⟨some g', (⟨some gb, n, cp, cur⟩ : OS).n + 1, c', cur'⟩] 136 (0, 0)⟩ :: OS.blk ⟨some g', (⟨some gb, n, cp, cur⟩ : OS).n + 1, c', cur'⟩ 138)) (List.perm_append_comm (l₁ := [_]) (l₂ := [_, _])) (.sub (List.sublist_append_right _ _) .refl), hI', ⟨some g', (⟨some gb, n, cp, cur⟩ : OS).n + 1, c', cur'⟩, ?_, rfl⟩
          rw [hstep]
          exact app_ok hos q1 q2 q3 q4
      · have hn0 : n = 0 := by simp at h1; omega
        have hr0 : rs = [] := List.eq_nil_of_length_eq_zero (by omega)
        have hstep : runStep rs x = rs ++ [(x, x)] := by rw [hr0]; rfl
        refine LoadOb.mk [.slice (some ⟨gb, 0, none⟩) n cp] (blk_rd (cs := [.slice (some ⟨gb, 0, none⟩) n cp]) (k := 0) (n := 1) (T := 136) (.head _) (by simp)) ?_
        refine AllocOb.mk fun g2 hg2 hgM2 => ?_
        refine OtherOb.append TrydEOK rfl (by simp) (e := 138) rfl rfl rfl (⟨some gb, n, cp, cur⟩ : OS) hos rfl (m := 1) rfl (news := pairC (x, x)) (by decide) (blk_rd (cs := pairC (x, x)) (k := 0) (n := 2) (T := 138) (.head _) (by simp [pairC])) rfl (Mr := [⟨g2, .cells (pairC (x, x)).toArray 138 (0, 0)⟩, ⟨g, .cells #[.slice (some ⟨gb, 0, none⟩) n cp] 136 (0, 0)⟩]) (List.perm_append_comm (l₁ := [_, _])) (by simp only [maxLen]; omega) (by show (_ + 1) * 2 ≤ _; simp only; omega) ?_
        intro g' c' cur' q1 q2 q3 q4
        refine StoreOb.mk [⟨g', .cells cur'.toArray 138 (0, 0)⟩, ⟨g2, .cells (pairC (x, x)).toArray 138 (0, 0)⟩] [] _ _ rfl rfl (Nat.le_of_ble_eq_true rfl) rfl ?_
        refine ⟨_, _, .perm (M1 := [⟨g2, .cells (pairC (x, x)).toArray 138 (0, 0)⟩] ++ (⟨g, .cells #[OS.val ⟨some g', (⟨some gb, n, cp, cur⟩ : OS).n + 1, c', cur'⟩] 136 (0, 0)⟩ :: OS.blk ⟨some g', (⟨some gb, n, cp, cur⟩ : OS).n + 1, c', cur'⟩ 138)) (List.perm_append_comm (l₁ := [_]) (l₂ := [_, _])) (.sub (List.sublist_append_right _ _) .refl), hI', ⟨some g', (⟨some gb, n, cp, cur⟩ : OS).n + 1, c', cur'⟩, ?_, rfl⟩
        rw [hstep]
        exact app_ok hos q1 q2 q3 q4
  · rintro I' M' - ⟨hI', os, hos, rfl⟩
    refine LoadOb.mk [os.val] (blk_rd (cs := [os.val]) (k := 0) (n := 1) (T := 136) (.head _) (by simp)) ?_
    refine ⟨_, _, .sub (List.sublist_cons_self _ _) .refl, fun b o h => hI' _ _ (hI1 _ _ h), os, rfl, ?_, rfl⟩
    have : (eachFrom deb 0 [a, b, c, d]).take (u8s (eachFrom deb 0 [a, b, c, d])).length = eachFrom deb 0 [a, b, c, d] := List.take_of_length_le (by simp [u8s])
    rw [this] at hos
    exact hos
end Go.V
