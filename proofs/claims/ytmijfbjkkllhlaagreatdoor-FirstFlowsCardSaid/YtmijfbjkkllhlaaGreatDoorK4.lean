/-
  Part 4 of what the proofs of this seat share: the executor, data in memory, walks.
-/
import Derived.Test.YtmijfbjkkllhlaaGreatDoorK3

/-
  Walks: set.each, its iterator, set.Runs.
-/
set_option linter.unusedVariables false
set_option linter.unusedSimpArgs false
namespace Go.V
open Go Go.Proofs

theorem ins_self (I : GH) (b : Nat) (o : Obj) : ins I b o b = some o := by
  simp [ins]
theorem ins_le {I : GH} {b : Nat} {o : Obj} (hb : I b = none) : ∀ c p, I c = some p → ins I b o c = some p := by
  intro c p h
  unfold ins
  cases e : Nat.beq c b with
  | false => exact h
  | true =>
    have := Nat.eq_of_beq_eq_true e
    subst this
    rw [hb] at h
    cases h

/-! ### A word's bits -/
theorem andV_nat {x y : Int} (hx : u64ok x) (hy : u64ok y) : andV x y = ((x.toNat &&& y.toNat : Nat) : Int) := by
  obtain ⟨x, rfl⟩ := Int.eq_ofNat_of_zero_le hx.1
  obtain ⟨y, rfl⟩ := Int.eq_ofNat_of_zero_le hy.1
  have h1 : x < 18446744073709551616 := by have := hx.2; omega
  have h2 : y < 18446744073709551616 := by have := hy.2; omega
  have e : ∀ z : Nat, z < 18446744073709551616 → (BitVec.ofInt 64 (z : Int)).toNat = z := fun z hz => by
    rw [BitVec.toNat_ofInt]
    omega
  unfold andV
  rw [BitVec.toNat_and, e x h1, e y h2, wrap_u64_id]
  · simp
  · have := Nat.and_le_left (n := x) (m := y)
    exact ⟨by omega, by omega⟩
def nxtV (x : Int) : Int := andV x (IntKind.u64.wrap (x - 1))
def popc (n : Nat) : Nat := ((List.range 64).filter n.testBit).length
theorem popc_le (n : Nat) : popc n ≤ 64 := by
  have := List.length_filter_le n.testBit (List.range 64)
  simpa [popc] using this
theorem nxt_pop {x : Int} (hx : u64ok x) (h0 : x ≠ 0) : u64ok (nxtV x) ∧ popc (nxtV x).toNat < popc x.toNat := by
  obtain ⟨n, rfl⟩ := Int.eq_ofNat_of_zero_le hx.1
  have h1 : n < 18446744073709551616 := by have := hx.2; omega
  have hpos : 0 < n := by omega
  have hs : u64ok ((n : Int) - 1) := ⟨by omega, by omega⟩
  have e : nxtV (n : Int) = ((n &&& (n - 1) : Nat) : Int) := by
    unfold nxtV
    rw [wrap_u64_id hs, andV_nat hx hs]
    congr 2
    omega
  have hle : n &&& (n - 1) ≤ n - 1 := Nat.and_le_right
  refine ⟨by rw [e]; exact ⟨by omega, by omega⟩, ?_⟩
  rw [e]
  simp only [Int.toNat_natCast]
  unfold popc
  have hsub : List.Sublist ((List.range 64).filter (n &&& (n - 1)).testBit) ((List.range 64).filter n.testBit) := by
    have : (List.range 64).filter (n &&& (n - 1)).testBit = ((List.range 64).filter n.testBit).filter (n - 1).testBit := by
      rw [List.filter_filter]
      congr 1
      funext i
      rw [Nat.testBit_and, Bool.and_comm]
    rw [this]
    exact List.filter_sublist
  rcases Nat.lt_or_eq_of_le hsub.length_le with h | h
  · exact h
  · exfalso
    have heq := hsub.eq_of_length h
    have : n &&& (n - 1) = n := by
      apply Nat.eq_of_testBit_eq
      intro i
      by_cases hi : i < 64
      · have hm : i ∈ (List.range 64).filter (n &&& (n - 1)).testBit ↔ i ∈ (List.range 64).filter n.testBit := by rw [heq]
        simp only [List.mem_filter, List.mem_range, hi, true_and] at hm
        cases h1 : (n &&& (n - 1)).testBit i <;> cases h2 : n.testBit i <;> simp_all
      · have h2 : 2 ^ 64 ≤ 2 ^ i := Nat.pow_le_pow_right (by omega) (by omega)
        rw [Nat.testBit_lt_two_pow (by omega), Nat.testBit_lt_two_pow (by omega)]
    omega

def byteOf (deb : List Int) (i : Nat) (w : Int) : UInt8 := UInt8.ofNat (IntKind.u8.wrap ((i : Int) * 64 + tz64 deb w)).toNat
theorem byteOf_val (deb : List Int) (i : Nat) (w : Int) : ((byteOf deb i w).toNat : Int) = IntKind.u8.wrap ((i : Int) * 64 + tz64 deb w) := by
  have := wrap_u8 ((i : Int) * 64 + tz64 deb w)
  unfold byteOf
  rw [UInt8.toNat_ofNat']
  omega
def bitsL (deb : List Int) (i : Nat) : Nat → Int → List UInt8
  | 0, _ => []
  | f + 1, w => bif decide (w = 0) then [] else byteOf deb i w :: bitsL deb i f (nxtV w)
def eachFrom (deb : List Int) : Nat → List Int → List UInt8
  | _, [] => []
  | i, w :: ws => bitsL deb i 64 w ++ eachFrom deb (i + 1) ws
theorem bitsL_len (deb : List Int) (i : Nat) : ∀ f w, (bitsL deb i f w).length ≤ f
  | 0, _ => by simp [bitsL]
  | f + 1, w => by
    unfold bitsL
    have := bitsL_len deb i f (nxtV w)
    cases decide (w = 0) <;> simp
    exact this
theorem eachFrom_len (deb : List Int) : ∀ ws i, (eachFrom deb i ws).length ≤ 64 * ws.length
  | [], _ => by simp [eachFrom]
  | w :: ws, i => by
    have h1 := bitsL_len deb i 64 w
    have h2 := eachFrom_len deb ws (i + 1)
    simp only [eachFrom, List.length_append, List.length_cons]
    omega

def u8s (l : List UInt8) : List (List Value) := l.map fun c => [.int .u8 c.toNat]
def setV (a b c d : Int) : List Value := [.int .u64 a, .int .u64 b, .int .u64 c, .int .u64 d]

theorem each_spec {I : GH} (a b c d : Int) : Spec Tryz.prog 255 [.agg #[.int .u64 a, .int .u64 b, .int .u64 c, .int .u64 d]] I [] fun r I' M' => ∃ g, r = .func (.func 262) #[] #[ptr g] ∧ I' g = some (.cells (setV a b c d).toArray 65 (0, 0)) ∧ (∀ b o, I b = some o → I' b = some o) ∧ M' = [] := by
  refine spec_of_V [1] TryzEOK Tryz.func255 rfl rfl rfl ?_
  intro B h0
  refine AllocOb.mk fun g hg hgM => ?_
  exact ⟨_, _, .prom rfl (by simp) .refl, g, rfl, ins_self .., ins_le hg, rfl⟩

theorem each1_iter {I : GH} {deb : List Int} (hdeb : HasDeb I deb) {g : Nat} {a b c d : Int} (hws : ∀ x ∈ [a, b, c, d], u64ok x) (hg : I g = some (.cells (setV a b c d).toArray 65 (0, 0))) :
    Iter Tryz.prog 262 [ptr g] I (u8s (eachFrom deb 0 [a, b, c, d])) := by
  intro l R Rx hY I0 M0 hI0 hR0
  refine specE_of_V [] TryzEOK Tryz.func262 rfl rfl rfl ?_
  intro B h0
  have hrd : ∀ (I1 : GH) (M : List Blk), (∀ b o, I b = some o → I1 b = some o) → Rd I1 M ⟨g, 0, none⟩ 4 (setV a b c d) := fun I1 M h => ⟨rfl, _, _, _, .inl (h _ _ hg), rfl, rfl⟩
  refine LoadOb.mk _ (hrd _ _ hI0) ?_
  refine LoopOb.inv (ι := Nat × Nat × GH × List Blk)
    (fun x => { fl := [(0, .val (.func (.yield l) #[] #[])), (5, .val (.agg (setV a b c d).toArray)), (6, .val (.int .i64 x.1))], gi := x.2.2.1, mi := x.2.2.2 })
    (fun x => x.1 ≤ 4 ∧ (∀ b o, I b = some o → x.2.2.1 b = some o) ∧ R x.2.1 x.2.2.1 x.2.2.2 ∧ x.2.1 ≤ (eachFrom deb 0 [a, b, c, d]).length ∧ (eachFrom deb 0 [a, b, c, d]).drop x.2.1 = eachFrom deb x.1 ([a, b, c, d].drop x.1)) (fun x => 4 - x.1) ?_ ?_
  · exact ⟨(0, 0, I0, M0), ⟨by simp, hI0, hR0, by simp, rfl⟩, .refl, .cons .refl (.cons .refl (.cons .refl .nil)), .nil⟩
  · rintro ⟨i, k, I1, M1⟩ ⟨hi, hI1, hR1, hkl, hd1⟩
    simp only at hi hI1 hR1 hkl hd1
    refine CondOb.mk (fun h => ?_) (fun h => ?_)
    · have hlt : i < 4 := by simp at h; omega
      have hlt' : i < [a, b, c, d].length := hlt
      refine ArrOb.mk i rfl hlt ?_
      have hval : pack false ((((setV a b c d).toArray).toList.drop (i * 1)).take 1) = .int .u64 [a, b, c, d][i] := by
        match i, hlt with
        | 0, _ => rfl
        | 1, _ => rfl
        | 2, _ => rfl
        | 3, _ => rfl
      have hdrop : [a, b, c, d].drop i = [a, b, c, d][i] :: [a, b, c, d].drop (i + 1) := List.drop_eq_getElem_cons hlt'
      refine LoopOb.inv (ι := Int × Nat × Nat × GH × List Blk)
        (fun x => { fl := [(0, .val (.func (.yield l) #[] #[])), (3, .val (.int .i64 i)), (4, .val (.int .u64 x.1)), (5, .val (.agg (setV a b c d).toArray)), (6, .val (.int .i64 i))], gi := x.2.2.2.1, mi := x.2.2.2.2 })
        (fun x => u64ok x.1 ∧ popc x.1.toNat ≤ x.2.1 ∧ (∀ b o, I b = some o → x.2.2.2.1 b = some o) ∧ R x.2.2.1 x.2.2.2.1 x.2.2.2.2 ∧ x.2.2.1 ≤ (eachFrom deb 0 [a, b, c, d]).length ∧ (eachFrom deb 0 [a, b, c, d]).drop x.2.2.1 = bitsL deb i x.2.1 x.1 ++ eachFrom deb (i + 1) ([a, b, c, d].drop (i + 1))) (fun x => popc x.1.toNat) ?_ ?_
      · refine ⟨([a, b, c, d][i], 64, k, I1, M1), ⟨hws _ (List.getElem_mem hlt'), popc_le _, hI1, hR1, hkl, ?_⟩, .refl, .cons .refl (.cons .refl (.cons ?_ (.cons .refl (.cons .refl .nil)))), .nil⟩
        · simp only
          rw [hd1, hdrop]
          rfl
        · simp only
          rw [← hval]
          exact .refl
      · rintro ⟨w, f, k, I1, M1⟩ ⟨hw, hf, hI1, hR1, hkl, hd1⟩
        simp only at hw hf hI1 hR1 hkl hd1
        refine CondOb.mk (fun h => ?_) (fun h => ?_)
        · have hw0 : w ≠ 0 := by simpa using h
          obtain ⟨n1, n2⟩ := nxt_pop hw hw0
          obtain ⟨f, rfl⟩ : ∃ f', f = f' + 1 := ⟨f - 1, by omega⟩
          have hb : bitsL deb i (f + 1) w = byteOf deb i w :: bitsL deb i f (nxtV w) := by
            simp [bitsL, hw0]
          rw [hb, List.cons_append] at hd1
          have hk : k < (eachFrom deb 0 [a, b, c, d]).length := by
            apply Nat.lt_of_not_le
            intro hle
            rw [List.drop_eq_nil_of_le hle] at hd1
            cases hd1
          have hdk := List.drop_eq_getElem_cons hk
          rw [hd1] at hdk
          obtain ⟨hk1, hk2⟩ := List.cons.inj hdk
          have hkv : k < (u8s (eachFrom deb 0 [a, b, c, d])).length := by simpa [u8s] using hk
          have hv : (u8s (eachFrom deb 0 [a, b, c, d]))[k] = [.int .u8 (IntKind.u8.wrap ((i : Int) * 64 + tz64 deb w))] := by
            simp only [u8s, List.getElem_map, ← hk1, byteOf_val]
          have hdb : HasDeb I1 deb := by
            obtain ⟨q1, q2, T, fr, q3⟩ := hdeb
            exact ⟨q1, q2, T, fr, hI1 _ _ q3⟩
          have htz := tz64_ok hdb w
          refine ArithOb.mk ((i : Int) * 64) (wrap_i64 ⟨by omega, by omega⟩) ?_
          refine CallOb.mk [] M1 _ (.refl _) (TZ_spec hdb w) ?_
          rintro v I' M' - ⟨rfl, rfl, rfl⟩
          refine ArithOb.mk ((i : Int) * 64 + tz64 deb w) (wrap_i64 ⟨by omega, by omega⟩) ?_
          refine ArithOb.mk _ rfl ?_
          refine OtherOb.yield rfl (by simp) rfl rfl ?_
          have hy := hY k hkv I' M1 hI1 hR1
          rw [hv] at hy
          refine CallObY.mk M1 [] _ (by simp) hy ?_
          rintro v I2 M2 hI2 (⟨rfl, hR2⟩ | ⟨rfl, hx⟩)
          · refine CondOb.mk (fun h => by simp at h) (fun _ => ?_)
            refine ArithOb.mk _ rfl ?_
            exact ⟨(nxtV w, f, k + 1, I2, M2), ⟨⟨n1, by simp only; omega, fun b o h => hI2 b o (hI1 b o h), hR2, hk, hk2.symm⟩, by simp only; exact n2⟩, .perm (by simp) .refl, .cons .refl (.cons .refl (.cons .refl (.cons .refl (.cons .refl .nil)))), .nil⟩
          · refine CondOb.mk (fun _ => ?_) (fun h => by simp at h)
            exact ⟨_, _, .perm (by simp) .refl, .inr hx⟩
        · have hw0 : w = 0 := by simpa using h
          have hwr : IntKind.i64.wrap ((i : Int) + 1) = ((i + 1 : Nat) : Int) := by
            rw [wrap_i64 ⟨by omega, by omega⟩]
            omega
          refine ArithOb.mk _ hwr ?_
          have hb : bitsL deb i f w = [] := by cases f <;> simp [bitsL, hw0]
          rw [hb, List.nil_append] at hd1
          exact ⟨(i + 1, k, I1, M1), ⟨⟨by simp only; omega, hI1, hR1, hkl, hd1⟩, by simp only; omega⟩, .refl, .cons .refl (.cons .refl (.cons .refl .nil)), .nil⟩
    · have hi4 : i = 4 := by simp at h; omega
      subst hi4
      refine ⟨_, _, .refl, .inl ?_⟩
      have hnil : (eachFrom deb 0 [a, b, c, d]).drop k = [] := by rw [hd1]; rfl
      have hke : k = (u8s (eachFrom deb 0 [a, b, c, d])).length := by
        have := List.drop_eq_nil_iff.1 hnil
        simp only [u8s, List.length_map]
        omega
      rw [← hke]
      exact hR1

/-! ### Runs -/
def runStep (l : List (UInt8 × UInt8)) (b : UInt8) : List (UInt8 × UInt8) := match l.getLast? with
  | some p => bif decide ((p.2.toNat : Int) + 1 = b.toNat) then l.dropLast ++ [(p.1, b)] else l ++ [(b, b)]
  | none => [(b, b)]
def runsOf (l : List UInt8) : List (UInt8 × UInt8) := l.foldl runStep []
def pairC (p : UInt8 × UInt8) : List Value := [.int .u8 p.1.toNat, .int .u8 p.2.toNat]
def pairV (l : List (UInt8 × UInt8)) : List Value := l.flatMap pairC
theorem pairV_len (l : List (UInt8 × UInt8)) : (pairV l).length = l.length * 2 := flat_len pairC 2 (fun _ => rfl) l
theorem runStep_len (l : List (UInt8 × UInt8)) (b : UInt8) : (runStep l b).length ≤ l.length + 1 := by
  unfold runStep
  split
  · rename_i p h
    cases decide ((p.2.toNat : Int) + 1 = b.toNat) <;> simp
  · simp
theorem runsOf_len (l : List UInt8) : (runsOf l).length ≤ l.length := by
  have : ∀ (l : List UInt8) (acc : List (UInt8 × UInt8)), (l.foldl runStep acc).length ≤ acc.length + l.length := by
    intro l
    induction l with
    | nil => intro acc; simp
    | cons b l ih =>
      intro acc
      have h1 := ih (runStep acc b)
      have h2 := runStep_len acc b
      simp only [List.foldl_cons, List.length_cons]
      omega
  simpa [runsOf] using this l []

theorem add2 {b i j : Nat} : ((⟨b, 0, none⟩ : Addr).add i).add j = (⟨b, 0, none⟩ : Addr).add (i + j) := by
  rw [addr_add ⟨_, 0, none⟩ rfl i, addr_add _ rfl j, addr_add _ rfl (i + j)]
  simp
theorem blk_rd2 {I : GH} {M : List Blk} {b T : Nat} {cs : List Value} (hM : (⟨b, .cells cs.toArray T (0, 0)⟩ : Blk) ∈ M) {i j : Nat} {v : Value} (h : cs[i + j]? = some v) : Rd I M (((⟨b, 0, none⟩ : Addr).add i).add j) 1 [v] := by
  obtain ⟨hl, rfl⟩ := List.getElem?_eq_some_iff.1 h
  have := blk_rd (I := I) hM (k := i + j) (n := 1) (by omega)
  rw [List.drop_eq_getElem_cons hl, List.take_succ_cons, List.take_zero] at this
  rw [add2]
  exact this
theorem splice_at (pre : List Value) (u v z : Value) (rest : List Value) (k : Nat) (hk : k = pre.length + 1) : splice (pre ++ ([u, v] ++ rest)) k [z] = pre ++ ([u, z] ++ rest) := by
  subst hk
  unfold splice
  have e1 : (pre ++ ([u, v] ++ rest)).take (pre.length + 1) = pre ++ [u] := by
    rw [show pre ++ ([u, v] ++ rest) = (pre ++ [u]) ++ (v :: rest) from by simp]
    exact List.take_left' (by simp)
  have e2 : (pre ++ ([u, v] ++ rest)).drop (pre.length + 1 + [z].length) = rest := by
    rw [show pre ++ ([u, v] ++ rest) = (pre ++ [u, v]) ++ rest from by simp]
    exact List.drop_left' (by simp)
  rw [e1, e2]
  simp
theorem app_ok {os : OS} {rs : List (UInt8 × UInt8)} {x : UInt8} (hos : os.ok 2 (pairV rs)) {g c : Nat} {cur : List Value} (h1 : cur.length = c * 2) (h2 : os.n + 1 ≤ c) (h3 : c ≤ maxLen) (h4 : cur.take ((os.n + 1) * 2) = pairV rs ++ pairC (x, x)) :
    OS.ok ⟨some g, os.n + 1, c, cur⟩ 2 (pairV (rs ++ [(x, x)])) := by
  have hpx : pairV (rs ++ [(x, x)]) = pairV rs ++ pairC (x, x) := by simp [pairV]
  have hl := hos.len
  refine ⟨?_, (fun h => by cases h), fun g3 hg3 => ⟨h1, h2, h3, by rw [hpx]; exact h4⟩⟩
  rw [hpx, List.length_append, hl]
  simp [pairC]
  omega
theorem runsOf_snoc (l : List UInt8) (x : UInt8) : runsOf (l ++ [x]) = runStep (runsOf l) x := by
  simp [runsOf]

set_option maxHeartbeats 1000000 in
theorem Runs_spec {I : GH} {deb : List Int} (hdeb : HasDeb I deb) {a b c d : Int} (hws : ∀ x ∈ [a, b, c, d], u64ok x) : Spec Tryz.prog 242 [.agg #[.int .u64 a, .int .u64 b, .int .u64 c, .int .u64 d]] I []
    fun r I' M' => (∀ b o, I b = some o → I' b = some o) ∧ ∃ os : OS, r = os.val ∧ os.ok 2 (pairV (runsOf (eachFrom deb 0 [a, b, c, d]))) ∧ M' = os.blk 270 := by
  refine spec_of_V [3] TryzEOK Tryz.func242 rfl rfl rfl ?_
  intro B h0
  refine AllocOb.mk fun g hg hgM => ?_
  refine CallOb.mk [] [⟨g, .cells #[.slice none 0 0] 268 (0, 0)⟩] _ (.refl _) (each_spec a b c d) ?_
  rintro v I1 M1 - ⟨g1, rfl, hg1, hI1, rfl⟩
  have hdeb1 : HasDeb I1 deb := by
    obtain ⟨q1, q2, T, fr, q3⟩ := hdeb
    exact ⟨q1, q2, T, fr, hI1 _ _ q3⟩
  have hL := eachFrom_len deb [a, b, c, d] 0
  refine CodeOb.range TryzEOK rfl rfl rfl .refl (each1_iter hdeb1 hws hg1) (fun vs h => ?_)
    (fun k I' M' => (∀ b o, I1 b = some o → I' b = some o) ∧ ∃ os : OS, os.ok 2 (pairV (runsOf ((eachFrom deb 0 [a, b, c, d]).take k))) ∧ M' = ⟨g, .cells #[os.val] 268 (0, 0)⟩ :: os.blk 270)
    (fun _ _ _ => False) ⟨fun _ _ h => h, ⟨none, 0, 0, []⟩, ⟨rfl, fun _ => ⟨rfl, rfl⟩, fun g h => by cases h⟩, rfl⟩ ?_ ?_ (fun _ _ _ _ h => h.elim)
  · obtain ⟨c, _, rfl⟩ := List.mem_map.1 h
    rfl
  · rintro k hk I' M' - ⟨hI', os, hos, rfl⟩ l B h0 h0'
    have hkL : k < (eachFrom deb 0 [a, b, c, d]).length := by simpa [u8s] using hk
    generalize hLd : eachFrom deb 0 [a, b, c, d] = L at *
    generalize hx : L[k] = x
    have hv : (u8s L)[k] = [.int .u8 x.toNat] := by simp [u8s, hx]
    rw [hv]
    have htk : runsOf (L.take (k + 1)) = runStep (runsOf (L.take k)) x := by
      rw [List.take_succ_eq_append_getElem hkL, hx, runsOf_snoc]
    rw [htk]
    have hrl : (runsOf (L.take k)).length ≤ 256 := by
      have h1 := runsOf_len (L.take k)
      have h2 := List.length_take_le k L
      simp only [List.length_cons, List.length_nil] at hL
      omega
    generalize hrs : runsOf (L.take k) = rs at *
    have hxl := x.toNat_lt
    obtain ⟨oa, n, cp, cur⟩ := os
    have hn : rs.length = n := by
      have := hos.len
      rw [pairV_len] at this
      simp only at this
      omega
    cases oa with
    | none =>
      obtain ⟨e1, e2⟩ := hos.nil rfl
      simp only at e1 e2
      subst e1
      subst e2
      have hr0 : rs = [] := List.eq_nil_of_length_eq_zero hn
      have hstep : runStep rs x = rs ++ [(x, x)] := by rw [hr0]; rfl
      refine LoadOb.mk [.slice none 0 0] (blk_rd (cs := [.slice none 0 0]) (k := 0) (n := 1) (T := 268) (.head _) (by simp)) ?_
      refine ArithOb.mk (-1) (by decide) ?_
      refine GuardOb.mk (fun h => by simp at h) (fun _ => ?_)
      refine LoadOb.mk [.slice none 0 0] (blk_rd (cs := [.slice none 0 0]) (k := 0) (n := 1) (T := 268) (.head _) (by simp)) ?_
      refine AllocOb.mk fun g2 hg2 hgM2 => ?_
      refine OtherOb.append TryzEOK rfl (by simp) (e := 270) rfl rfl rfl (⟨none, 0, 0, cur⟩ : OS) hos rfl (m := 1) rfl (news := pairC (x, x)) (by decide) (blk_rd (cs := pairC (x, x)) (k := 0) (n := 2) (T := 270) (.head _) (by simp [pairC])) rfl (Mr := [⟨g2, .cells (pairC (x, x)).toArray 270 (0, 0)⟩, ⟨g, .cells #[.slice none 0 0] 268 (0, 0)⟩]) (List.perm_append_comm (l₁ := [_, _])) (by simp only [maxLen]; omega) (by show (_ + 1) * 2 ≤ _; simp only; omega) ?_
      intro g' c' cur' q1 q2 q3 q4
      refine StoreOb.mk [⟨g', .cells cur'.toArray 270 (0, 0)⟩, ⟨g2, .cells (pairC (x, x)).toArray 270 (0, 0)⟩] [] _ _ rfl rfl (Nat.le_of_ble_eq_true rfl) rfl ?_
      refine ⟨_, _, .perm (M1 := [⟨g2, .cells (pairC (x, x)).toArray 270 (0, 0)⟩] ++ (⟨g, .cells #[OS.val ⟨some g', (⟨none, 0, 0, cur⟩ : OS).n + 1, c', cur'⟩] 268 (0, 0)⟩ :: OS.blk ⟨some g', (⟨none, 0, 0, cur⟩ : OS).n + 1, c', cur'⟩ 270)) (List.perm_append_comm (l₁ := [_]) (l₂ := [_, _])) (.sub (List.sublist_append_right _ _) .refl), hI', ⟨some g', (⟨none, 0, 0, cur⟩ : OS).n + 1, c', cur'⟩, ?_, rfl⟩
      rw [hstep]
      exact app_ok hos q1 q2 q3 q4
    | some gb =>
      obtain ⟨hcl, hnc, hcm, hct⟩ := hos.cap gb rfl
      simp only at hcl hnc hcm hct
      refine LoadOb.mk [.slice (some ⟨gb, 0, none⟩) n cp] (blk_rd (cs := [.slice (some ⟨gb, 0, none⟩) n cp]) (k := 0) (n := 1) (T := 268) (.head _) (by simp)) ?_
      refine ArithOb.mk ((n : Int) - 1) (wrap_i64 ⟨by omega, by omega⟩) ?_
      refine GuardOb.mk (fun h1 => ?_) (fun h1 => ?_)
      · have hpos : 1 ≤ n := by simp at h1; omega
        obtain ⟨rs0, p, rfl⟩ : ∃ rs0 p, rs = rs0 ++ [p] := by
          rcases List.eq_nil_or_concat rs with h | ⟨r, p, h⟩
          · subst h; simp at hn; omega
          · exact ⟨r, p, by simpa using h⟩
        have hn0 : rs0.length = n - 1 := by simp at hn; omega
        have hp0 : (pairV rs0).length = (n - 1) * 2 := by rw [pairV_len, hn0]
        obtain ⟨rest, hcur⟩ : ∃ rest, cur = pairV rs0 ++ ([.int .u8 p.1.toNat, .int .u8 p.2.toNat] ++ rest) := by
          refine ⟨cur.drop (n * 2), ?_⟩
          have h2 := List.take_append_drop (n * 2) cur
          rw [hct] at h2
          rw [← h2, List.drop_left' (by rw [pairV_len, hn])]
          simp [pairV, pairC]
        have hat : cur[(n - 1) * 2 + 1 * 1]? = some (.int .u8 p.2.toNat) := by
          rw [hcur, ← hp0, List.getElem?_append_right (by omega)]
          simp
        have hpl := p.2.toNat_lt
        refine LoadOb.mk [.slice (some ⟨gb, 0, none⟩) n cp] (blk_rd (cs := [.slice (some ⟨gb, 0, none⟩) n cp]) (k := 0) (n := 1) (T := 268) (.head _) (by simp)) ?_
        refine IdxOb.mk ⟨gb, 0, none⟩ (n - 1) rfl (by omega) (by omega) ?_
        refine ArrOb.mk 1 rfl (by decide) ?_
        refine LoadOb.mk [.int .u8 p.2.toNat] (blk_rd2 (b := gb) (cs := cur) (T := 270) (by simp [OS.blk]) hat) ?_
        refine ArithOb.mk (p.2.toNat : Int) (wrap_i64 ⟨by omega, by omega⟩) ?_
        refine ArithOb.mk ((p.2.toNat : Int) + 1) (wrap_i64 ⟨by omega, by omega⟩) ?_
        refine ArithOb.mk (x.toNat : Int) (wrap_i64 ⟨by omega, by omega⟩) ?_
        have hstep : runStep (rs0 ++ [p]) x = bif decide ((p.2.toNat : Int) + 1 = x.toNat) then rs0 ++ [(p.1, x)] else rs0 ++ [p] ++ [(x, x)] := by
          simp [runStep]
        refine CondOb.mk (fun h2 => ?_) (fun h2 => ?_)
        · rw [h2] at hstep
          refine LoadOb.mk [.slice (some ⟨gb, 0, none⟩) n cp] (blk_rd (cs := [.slice (some ⟨gb, 0, none⟩) n cp]) (k := 0) (n := 1) (T := 268) (.head _) (by simp)) ?_
          refine IdxOb.mk ⟨gb, 0, none⟩ (n - 1) rfl (by omega) (by omega) ?_
          refine ArrOb.mk 1 rfl (by decide) ?_
          rw [add2]
          refine StoreOb.add [⟨g, .cells #[.slice (some ⟨gb, 0, none⟩) n cp] 268 (0, 0)⟩] [] cur.toArray _ rfl ?_ rfl ?_
          · simp only [List.size_toArray]
            show 0 + ((n - 1) * 2 + 1) + 1 ≤ _
            omega
          · refine ⟨_, _, .refl, hI', ⟨some gb, n, cp, splice cur (0 + ((n - 1) * 2 + 1 * 1)) [.int .u8 x.toNat]⟩, ?_, rfl⟩
            have hsp : splice cur (0 + ((n - 1) * 2 + 1 * 1)) [.int .u8 x.toNat] = pairV rs0 ++ ([.int .u8 p.1.toNat, .int .u8 x.toNat] ++ rest) := by
              rw [hcur]
              exact splice_at _ _ _ _ _ _ (by omega)
            rw [hstep, hsp]
            have hpx : pairV (rs0 ++ [(p.1, x)]) = pairV rs0 ++ [.int .u8 p.1.toNat, .int .u8 x.toNat] := by simp [pairV, pairC]
            refine ⟨?_, (fun h => by cases h), fun g3 hg3 => ⟨?_, hnc, hcm, ?_⟩⟩
            · simp only [cond_true]
              rw [hpx, List.length_append, hp0]
              simp
              omega
            · simp only
              rw [← hcl, hcur]
              simp
            · simp only [cond_true]
              rw [hpx, ← List.append_assoc]
              refine List.take_left' ?_
              rw [List.length_append, hp0]
              simp
              omega
        · rw [h2] at hstep
          simp only [cond_false] at hstep
          refine LoadOb.mk [.slice (some ⟨gb, 0, none⟩) n cp] (blk_rd (cs := [.slice (some ⟨gb, 0, none⟩) n cp]) (k := 0) (n := 1) (T := 268) (.head _) (by simp)) ?_
          refine AllocOb.mk fun g2 hg2 hgM2 => ?_
          refine OtherOb.append TryzEOK rfl (by simp) (e := 270) rfl rfl rfl (⟨some gb, n, cp, cur⟩ : OS) hos rfl (m := 1) rfl (news := pairC (x, x)) (by decide) (blk_rd (cs := pairC (x, x)) (k := 0) (n := 2) (T := 270) (.head _) (by simp [pairC])) rfl (Mr := [⟨g2, .cells (pairC (x, x)).toArray 270 (0, 0)⟩, ⟨g, .cells #[.slice (some ⟨gb, 0, none⟩) n cp] 268 (0, 0)⟩]) (List.perm_append_comm (l₁ := [_, _])) (by simp only [maxLen]; omega) (by show (_ + 1) * 2 ≤ _; simp only; omega) ?_
          intro g' c' cur' q1 q2 q3 q4
          refine StoreOb.mk [⟨g', .cells cur'.toArray 270 (0, 0)⟩, ⟨g2, .cells (pairC (x, x)).toArray 270 (0, 0)⟩] [] _ _ rfl rfl (Nat.le_of_ble_eq_true rfl) rfl ?_
          refine ⟨_, _, .perm (M1 := [⟨g2, .cells (pairC (x, x)).toArray 270 (0, 0)⟩] ++ (⟨g, .cells #[OS.val ⟨some g', (⟨some gb, n, cp, cur⟩ : OS).n + 1, c', cur'⟩] 268 (0, 0)⟩ :: OS.blk ⟨some g', (⟨some gb, n, cp, cur⟩ : OS).n + 1, c', cur'⟩ 270)) (List.perm_append_comm (l₁ := [_]) (l₂ := [_, _])) (.sub (List.sublist_append_right _ _) .refl), hI', ⟨some g', (⟨some gb, n, cp, cur⟩ : OS).n + 1, c', cur'⟩, ?_, rfl⟩
          rw [hstep]
          exact app_ok hos q1 q2 q3 q4
      · have hn0 : n = 0 := by simp at h1; omega
        have hr0 : rs = [] := List.eq_nil_of_length_eq_zero (by omega)
        have hstep : runStep rs x = rs ++ [(x, x)] := by rw [hr0]; rfl
        refine LoadOb.mk [.slice (some ⟨gb, 0, none⟩) n cp] (blk_rd (cs := [.slice (some ⟨gb, 0, none⟩) n cp]) (k := 0) (n := 1) (T := 268) (.head _) (by simp)) ?_
        refine AllocOb.mk fun g2 hg2 hgM2 => ?_
        refine OtherOb.append TryzEOK rfl (by simp) (e := 270) rfl rfl rfl (⟨some gb, n, cp, cur⟩ : OS) hos rfl (m := 1) rfl (news := pairC (x, x)) (by decide) (blk_rd (cs := pairC (x, x)) (k := 0) (n := 2) (T := 270) (.head _) (by simp [pairC])) rfl (Mr := [⟨g2, .cells (pairC (x, x)).toArray 270 (0, 0)⟩, ⟨g, .cells #[.slice (some ⟨gb, 0, none⟩) n cp] 268 (0, 0)⟩]) (List.perm_append_comm (l₁ := [_, _])) (by simp only [maxLen]; omega) (by show (_ + 1) * 2 ≤ _; simp only; omega) ?_
        intro g' c' cur' q1 q2 q3 q4
        refine StoreOb.mk [⟨g', .cells cur'.toArray 270 (0, 0)⟩, ⟨g2, .cells (pairC (x, x)).toArray 270 (0, 0)⟩] [] _ _ rfl rfl (Nat.le_of_ble_eq_true rfl) rfl ?_
        refine ⟨_, _, .perm (M1 := [⟨g2, .cells (pairC (x, x)).toArray 270 (0, 0)⟩] ++ (⟨g, .cells #[OS.val ⟨some g', (⟨some gb, n, cp, cur⟩ : OS).n + 1, c', cur'⟩] 268 (0, 0)⟩ :: OS.blk ⟨some g', (⟨some gb, n, cp, cur⟩ : OS).n + 1, c', cur'⟩ 270)) (List.perm_append_comm (l₁ := [_]) (l₂ := [_, _])) (.sub (List.sublist_append_right _ _) .refl), hI', ⟨some g', (⟨some gb, n, cp, cur⟩ : OS).n + 1, c', cur'⟩, ?_, rfl⟩
        rw [hstep]
        exact app_ok hos q1 q2 q3 q4
  · rintro I' M' - ⟨hI', os, hos, rfl⟩
    refine LoadOb.mk [os.val] (blk_rd (cs := [os.val]) (k := 0) (n := 1) (T := 268) (.head _) (by simp)) ?_
    refine ⟨_, _, .sub (List.sublist_cons_self _ _) .refl, fun b o h => hI' _ _ (hI1 _ _ h), os, rfl, ?_, rfl⟩
    have : (eachFrom deb 0 [a, b, c, d]).take (u8s (eachFrom deb 0 [a, b, c, d])).length = eachFrom deb 0 [a, b, c, d] := List.take_of_length_le (by simp [u8s])
    rw [this] at hos
    exact hos
end Go.V

/-
  Walks: quote.Literal, quote.Class.
-/
set_option linter.unusedVariables false
set_option linter.unusedSimpArgs false
namespace Go.V
open Go Go.Proofs

theorem OS.ok.row {I : GH} {M : List Blk} {os : OS} {α : Type} {f : α → List Value} {size : Nat} (hf : ∀ x, (f x).length = size) (h0 : 0 < size) {l : List α} (h : os.ok size (l.flatMap f)) {e : Nat} (hM : ∀ x ∈ os.blk e, x ∈ M) {j : Nat} (hj : j < l.length) :
    ∃ ad, os.a.map (fun g => (⟨g, 0, none⟩ : Addr)) = some ad ∧ Rd I M (ad.add (j * size)) size (f l[j]) := by
  have hn : l.length = os.n := by
    have h1 := h.len
    rw [flat_len f size hf] at h1
    exact Nat.eq_of_mul_eq_mul_right h0 h1
  cases ha : os.a with
  | none => have := (h.nil ha).1; omega
  | some g =>
    obtain ⟨h1, h2, h3, h4⟩ := h.cap g ha
    refine ⟨⟨g, 0, none⟩, rfl, ?_⟩
    have hle : j * size + size ≤ os.n * size := by
      have := Nat.mul_le_mul_right size (show j + 1 ≤ os.n by omega)
      rw [Nat.add_mul, Nat.one_mul] at this
      exact this
    have hcl : os.n * size ≤ os.cur.length := by rw [h1]; exact Nat.mul_le_mul_right _ h2
    have := blk_rd (I := I) (M := M) (b := g) (T := e) (cs := os.cur) (hM _ (by simp [OS.blk, ha])) (k := j * size) (n := size) (by omega)
    have e1 : (os.cur.drop (j * size)).take size = f l[j] := by
      rw [← flat_at f size hf l j hj, ← h4, List.drop_take, List.take_take]
      congr 1
      omega
    rw [e1] at this
    exact this

def quoL : ByteArray := ⟨#[34]⟩
def clsL : ByteArray := ⟨#[93, 45, 94]⟩
def litB (s : ByteArray) : List UInt8 := [34] ++ s.data.toList.flatMap (putB · quoL) ++ [34]
def strOf (l : List UInt8) : ByteArray := ⟨l.toArray⟩
theorem flat_le {α β : Type} (f : α → List β) (m : Nat) (hf : ∀ x, (f x).length ≤ m) : ∀ l : List α, (l.flatMap f).length ≤ m * l.length
  | [] => by simp
  | x :: l => by
    have h1 := flat_le f m hf l
    have h2 := hf x
    simp only [List.flatMap_cons, List.length_append, List.length_cons, Nat.mul_add]
    omega

theorem Literal_spec {I : GH} (s : ByteArray) (hs : s.size ≤ 1099511627776) : Spec Tryz.prog 228 [.string s] I [] fun r I' M' => r = .string (strOf (litB s)) ∧ I' = I ∧ M' = [] := by
  refine spec_of_V [3] TryzEOK Tryz.func228 rfl rfl rfl ?_
  intro B h0
  refine AllocOb.mk fun b hb hbM => ?_
  refine CallOb.mk (Bd.new.M b) [] _ (.refl _) (WriteByte_spec b Bd.new_ok 34 (by decide)) ?_
  rintro v I' M' - ⟨rfl, rfl, x0, hx0, hb0, rfl⟩
  refine LoopOb.inv (ι := Nat × Bd) (fun p => { fl := [(0, .val (.string s)), (3, .val (ptr b)), (4, .val (.int .i64 p.1))], gi := I', mi := p.2.M b })
    (fun p => p.1 ≤ s.size ∧ p.2.ok ∧ p.2.bs = [34] ++ (s.data.toList.take p.1).flatMap (putB · quoL)) (fun p => s.size - p.1) ?_ ?_
  · exact ⟨(0, x0), ⟨by simp, hx0, by simp [hb0, Bd.new]⟩, .perm (by simp) .refl, .cons .refl (.cons .refl (.cons .refl .nil)), .nil⟩
  · rintro ⟨i, x⟩ ⟨hi, hx, hxb⟩
    simp only at hi hx hxb
    have hlen : x.bs.length ≤ 1 + 4 * i := by
      rw [hxb]
      have := flat_le (putB · quoL) 4 (fun c => putB_len c quoL) (s.data.toList.take i)
      have h2 := List.length_take_le i s.data.toList
      simp only [List.length_append, List.length_cons, List.length_nil]
      omega
    refine CondOb.mk (fun h => ?_) (fun h => ?_)
    · have hlt : i < s.size := by simpa using h
      have hlt' : i < s.data.toList.length := hlt
      refine StrOb.mk i rfl hlt ?_
      refine CallOb.mk (x.M b) [] _ (by simp) (put_spec b hx s[i] quoL (by omega)) ?_
      rintro v I' M' - ⟨rfl, y, hy, hyb, rfl⟩
      have hwr : IntKind.i64.wrap ((i : Int) + 1) = ((i + 1 : Nat) : Int) := by
        rw [wrap_i64 ⟨by omega, by omega⟩]
        omega
      refine ArithOb.mk _ hwr ?_
      refine ⟨(i + 1, y), ⟨⟨by simp only; omega, hy, ?_⟩, by simp only; omega⟩, .perm (by simp) .refl, .cons .refl (.cons .refl (.cons .refl .nil)), .nil⟩
      simp only
      rw [hyb, hxb, List.take_succ_eq_append_getElem hlt', List.flatMap_append, List.append_assoc]
      congr 1
      simp
      rfl
    · have hge : s.size ≤ i := by simpa using h
      have hall : s.data.toList.take i = s.data.toList := List.take_of_length_le hge
      refine CallOb.mk (x.M b) [] _ (by simp) (WriteByte_spec b hx 34 (by omega)) ?_
      rintro v I' M' - ⟨rfl, rfl, y, hy, hyb, rfl⟩
      refine CallOb.mk (y.M b) [] _ (by simp) (BString_spec b hy (by rw [hyb]; simp; omega)) ?_
      rintro v I' M' - ⟨rfl, rfl, rfl⟩
      refine ⟨_, _, .refl, ?_, rfl, by simp⟩
      rw [hyb, hxb, hall]
      rfl

def runB (p : UInt8 × UInt8) : List UInt8 :=
  putB p.1 clsL ++ ((bif decide (1 < IntKind.u8.wrap ((p.2.toNat : Int) - p.1.toNat)) then [45] else []) ++ (bif !decide ((p.2.toNat : Int) = p.1.toNat) then putB p.2 clsL else []))
def classB (deb : List Int) (a b c d : Int) : List UInt8 :=
  bif (a == notV 0 && (b == notV 0 && (c == notV 0 && d == notV 0))) then [46] else [91] ++ (runsOf (eachFrom deb 0 [a, b, c, d])).flatMap runB ++ [93]
theorem runB_len (p : UInt8 × UInt8) : (runB p).length ≤ 9 := by
  have h1 := putB_len p.1 clsL
  have h2 := putB_len p.2 clsL
  unfold runB
  cases decide (1 < IntKind.u8.wrap ((p.2.toNat : Int) - p.1.toNat)) <;> cases decide ((p.2.toNat : Int) = p.1.toNat) <;> simp <;> omega
theorem runs_le (deb : List Int) (a b c d : Int) : (runsOf (eachFrom deb 0 [a, b, c, d])).length ≤ 256 := by
  have h1 := eachFrom_len deb [a, b, c, d] 0
  have h2 := runsOf_len (eachFrom deb 0 [a, b, c, d])
  simp only [List.length_cons, List.length_nil] at h1
  omega
theorem classB_len (deb : List Int) (a b c d : Int) : (classB deb a b c d).length ≤ 2306 := by
  have h1 := runs_le deb a b c d
  have h2 := flat_le runB 9 runB_len (runsOf (eachFrom deb 0 [a, b, c, d]))
  unfold classB
  cases (a == notV 0 && (b == notV 0 && (c == notV 0 && d == notV 0)))
  · simp only [cond_false, List.length_append, List.length_cons, List.length_nil]
    omega
  · simp

set_option maxHeartbeats 1000000 in
theorem Class_spec {I : GH} {deb : List Int} (hdeb : HasDeb I deb) {a b c d : Int} (hws : ∀ x ∈ [a, b, c, d], u64ok x) : Spec Tryz.prog 229 [.agg #[.int .u64 a, .int .u64 b, .int .u64 c, .int .u64 d]] I []
    fun r I' M' => r = .string (strOf (classB deb a b c d)) ∧ (∀ b o, I b = some o → I' b = some o) ∧ M' = [] := by
  refine spec_of_V [3] TryzEOK Tryz.func229 rfl rfl rfl ?_
  intro B h0
  refine CodeOb.draw TryzEOK rfl rfl rfl ?_
  refine PCallOb.mk _ All_spec ?_
  rintro v I' M' - ⟨rfl, rfl, rfl⟩
  refine BinOb.eq4 TryzEOK (e := 63) rfl rfl rfl rfl (by kernel_rfl) ?_
  refine CondOb.mk (fun h => ?_) (fun h => ?_)
  · refine ⟨_, _, .refl, ?_, fun _ _ h => h, rfl⟩
    simp only [classB, h]
    rfl
  · refine AllocOb.mk fun g hg hgM => ?_
    refine CallOb.mk (Bd.new.M g) [] _ (.refl _) (WriteByte_spec g Bd.new_ok 91 (by decide)) ?_
    rintro v I' M' - ⟨rfl, rfl, x0, hx0, hb0, rfl⟩
    refine CallOb.mk [] (x0.M g) _ (by simp) (Runs_spec hdeb hws) ?_
    rintro v I1 M1 - ⟨hI1, os, rfl, hos, rfl⟩
    have hrl := runs_le deb a b c d
    have hcl : classB deb a b c d = [91] ++ (runsOf (eachFrom deb 0 [a, b, c, d])).flatMap runB ++ [93] := by
      simp only [classB, h]
      rfl
    generalize hrs : runsOf (eachFrom deb 0 [a, b, c, d]) = rs at *
    have hn : rs.length = os.n := by
      have := hos.len
      rw [pairV_len] at this
      omega
    refine LoopOb.inv (ι := Nat × Bd) (fun p => { fl := [(3, .val (ptr g)), (11, .val os.val), (12, .val (.int .i64 os.n)), (13, .val (.int .i64 p.1))], gi := I1, mi := p.2.M g ++ os.blk 270 })
      (fun p => p.1 ≤ os.n ∧ p.2.ok ∧ p.2.bs = [91] ++ (rs.take p.1).flatMap runB) (fun p => os.n - p.1) ?_ ?_
    · exact ⟨(0, x0), ⟨by simp, hx0, by simp [hb0, Bd.new]⟩, .perm (by simpa using List.perm_append_comm) .refl, .cons .refl (.cons .refl (.cons .refl (.cons .refl .nil))), .nil⟩
    · rintro ⟨i, x⟩ ⟨hi, hx, hxb⟩
      simp only at hi hx hxb
      have hlen : x.bs.length ≤ 1 + 9 * i := by
        rw [hxb]
        have := flat_le runB 9 runB_len (rs.take i)
        have h2 := List.length_take_le i rs
        simp only [List.length_append, List.length_cons, List.length_nil]
        omega
      refine CondOb.mk (fun h => ?_) (fun h => ?_)
      · have hlt : i < os.n := by simpa using h
        have hlt' : i < rs.length := by omega
        obtain ⟨ad, had, hrd⟩ := OS.ok.row (I := I1) (M := x.M g ++ os.blk 270) (f := pairC) (fun _ => rfl) (by decide) hos (e := 270) (fun y hy => by simp [hy]) hlt'
        refine IdxOb.mk ad i had rfl hlt ?_
        refine LoadOb.mk _ hrd ?_
        generalize hp : rs[i] = p
        refine ArrOb.mk 0 rfl (by decide) ?_
        refine CallOb.mk (x.M g) (os.blk 270) _ (.refl _) (put_spec g hx p.1 clsL (by omega)) ?_
        rintro v I' M' - ⟨rfl, y, hy, hyb, rfl⟩
        have hyl : y.bs.length ≤ 5 + 9 * i := by
          rw [hyb, List.length_append]
          have := putB_len p.1 clsL
          omega
        refine ArrOb.mk 1 rfl (by decide) ?_
        refine ArrOb.mk 0 rfl (by decide) ?_
        refine ArithOb.mk _ rfl ?_
        refine CondOb.mk (fun k1 => ?_) (fun k1 => ?_)
        · refine CallOb.mk (y.M g) (os.blk 270) _ (by simp) (WriteByte_spec g hy 45 (by omega)) ?_
          rintro v I' M' - ⟨rfl, rfl, u, hu, hub, rfl⟩
          have hul : u.bs.length ≤ 6 + 9 * i := by rw [hub]; simp; omega
          refine ArrOb.mk 1 rfl (by decide) ?_
          refine ArrOb.mk 0 rfl (by decide) ?_
          refine CondOb.mk (fun k2 => ?_) (fun k2 => ?_)
          · refine ArrOb.mk 1 rfl (by decide) ?_
            refine CallOb.mk (u.M g) (os.blk 270) _ (by simp) (put_spec g hu p.2 clsL (by omega)) ?_
            rintro v I' M' - ⟨rfl, z, hz, hzb, rfl⟩
            have hwr : IntKind.i64.wrap ((i : Int) + 1) = ((i + 1 : Nat) : Int) := by
              rw [wrap_i64 ⟨by omega, by omega⟩]
              omega
            refine ArithOb.mk _ hwr ?_
            refine ⟨(i + 1, z), ⟨⟨by simp only; omega, hz, ?_⟩, by simp only; omega⟩, .perm (by simp) .refl, .cons .refl (.cons .refl (.cons .refl (.cons .refl .nil))), .nil⟩
            simp only
            rw [hzb, hub, hyb, hxb, List.take_succ_eq_append_getElem hlt', List.flatMap_append, hp]
            simp [runB, k1, k2]
          · have hwr : IntKind.i64.wrap ((i : Int) + 1) = ((i + 1 : Nat) : Int) := by
              rw [wrap_i64 ⟨by omega, by omega⟩]
              omega
            refine ArithOb.mk _ hwr ?_
            refine ⟨(i + 1, u), ⟨⟨by simp only; omega, hu, ?_⟩, by simp only; omega⟩, .perm (by simp) .refl, .cons .refl (.cons .refl (.cons .refl (.cons .refl .nil))), .nil⟩
            simp only
            rw [hub, hyb, hxb, List.take_succ_eq_append_getElem hlt', List.flatMap_append, hp]
            simp [runB, k1, k2]
        · refine ArrOb.mk 1 rfl (by decide) ?_
          refine ArrOb.mk 0 rfl (by decide) ?_
          refine CondOb.mk (fun k2 => ?_) (fun k2 => ?_)
          · refine ArrOb.mk 1 rfl (by decide) ?_
            refine CallOb.mk (y.M g) (os.blk 270) _ (by simp) (put_spec g hy p.2 clsL (by omega)) ?_
            rintro v I' M' - ⟨rfl, z, hz, hzb, rfl⟩
            have hwr : IntKind.i64.wrap ((i : Int) + 1) = ((i + 1 : Nat) : Int) := by
              rw [wrap_i64 ⟨by omega, by omega⟩]
              omega
            refine ArithOb.mk _ hwr ?_
            refine ⟨(i + 1, z), ⟨⟨by simp only; omega, hz, ?_⟩, by simp only; omega⟩, .perm (by simp) .refl, .cons .refl (.cons .refl (.cons .refl (.cons .refl .nil))), .nil⟩
            simp only
            rw [hzb, hyb, hxb, List.take_succ_eq_append_getElem hlt', List.flatMap_append, hp]
            simp [runB, k1, k2]
          · have hwr : IntKind.i64.wrap ((i : Int) + 1) = ((i + 1 : Nat) : Int) := by
              rw [wrap_i64 ⟨by omega, by omega⟩]
              omega
            refine ArithOb.mk _ hwr ?_
            refine ⟨(i + 1, y), ⟨⟨by simp only; omega, hy, ?_⟩, by simp only; omega⟩, .perm (by simp) .refl, .cons .refl (.cons .refl (.cons .refl (.cons .refl .nil))), .nil⟩
            simp only
            rw [hyb, hxb, List.take_succ_eq_append_getElem hlt', List.flatMap_append, hp]
            simp [runB, k1, k2]
      · have hge : os.n ≤ i := by simpa using h
        have hall : rs.take i = rs := List.take_of_length_le (by omega)
        refine CallOb.mk (x.M g) (os.blk 270) _ (.refl _) (WriteByte_spec g hx 93 (by omega)) ?_
        rintro v I' M' - ⟨rfl, rfl, y, hy, hyb, rfl⟩
        refine CallOb.mk (y.M g) (os.blk 270) _ (.refl _) (BString_spec g hy (by rw [hyb]; simp; omega)) ?_
        rintro v I' M' - ⟨rfl, rfl, rfl⟩
        refine ⟨_, _, .sub (List.nil_sublist _) .refl, ?_, hI1, rfl⟩
        rw [hyb, hxb, hall, hcl]
        rfl
end Go.V

/-
  Walks: print.Count, print.ahead, print.behind.
-/
set_option linter.unusedVariables false
set_option linter.unusedSimpArgs false
namespace Go.V
open Go Go.Proofs

structure FitsSays (d : Nd) : Prop where
  k : d.k < 10
  t : d.t.size ≤ 255
  rep : d.k = 6 → 0 ≤ d.lo ∧ d.lo ≤ 99 ∧ (d.hi = -1 ∨ (d.lo ≤ d.hi ∧ d.hi ≤ 99))
theorem fits_says {d : Nd} {n : Int} (h : fits d n = true) : FitsSays d := by
  unfold fits at h
  cases h1 : decide (10 ≤ d.k) with
  | true => rw [h1] at h; cases h
  | false =>
    rw [h1] at h
    simp only [cond_false] at h
    have hk : d.k < 10 := by simpa using h1
    cases h2 : (decide (n < cntLo d.k.toNat) || (decide (0 ≤ cntHi d.k.toNat) && decide (cntHi d.k.toNat < n))) with
    | true => rw [h2] at h; cases h
    | false =>
      rw [h2] at h
      simp only [cond_false] at h
      have e0 : d.t = ⟨#[]⟩ → d.t.size ≤ 255 := fun e => by rw [e]; decide
      cases h3 : decide (d.k = 1) with
      | true =>
        rw [h3] at h
        simp only [cond_true, Bool.and_eq_true, decide_eq_true_eq] at h
        exact ⟨hk, e0 h.1, fun e => by simp at h3; omega⟩
      | false =>
        rw [h3] at h
        simp only [cond_false] at h
        cases h4 : decide (d.k = 2) with
        | true =>
          rw [h4] at h
          simp only [cond_true, Bool.and_eq_true, Bool.not_eq_true', Bool.or_eq_false_iff, decide_eq_false_iff_not] at h
          exact ⟨hk, by omega, fun e => by simp at h4; omega⟩
        | false =>
          rw [h4] at h
          simp only [cond_false] at h
          cases h5 : (decide (d.k = 3) || decide (d.k = 9)) with
          | true =>
            rw [h5] at h
            simp only [cond_true, Bool.and_eq_true] at h
            refine ⟨hk, ?_, fun e => by simp at h5; omega⟩
            have := h.1
            unfold mayName at this
            simp only [Bool.and_eq_true, decide_eq_true_eq] at this
            omega
          | false =>
            rw [h5] at h
            simp only [cond_false] at h
            cases h6 : decide (d.k = 6) with
            | true =>
              rw [h6] at h
              simp only [cond_true, Bool.and_eq_true, decide_eq_true_eq, Bool.not_eq_true', Bool.or_eq_false_iff, decide_eq_false_iff_not, Bool.and_eq_false_iff] at h
              refine ⟨hk, e0 h.2.2, fun _ => ?_⟩
              obtain ⟨⟨g1, g2, g3⟩, _⟩ := h
              refine ⟨by omega, by omega, ?_⟩
              rcases g3 with g3 | g3
              · left
                simpa using g3
              · right
                omega
            | false =>
              rw [h6] at h
              simp only [cond_false, Bool.and_eq_true, decide_eq_true_eq] at h
              exact ⟨hk, e0 h.2.1, fun e => by simp at h6; omega⟩

/-! ### Count -/
def pcountsV : List Value := [.int .i64 0, .int .i64 1, .string ⟨#[63]⟩, .int .i64 0, .int .i64 (-1), .string ⟨#[42]⟩, .int .i64 1, .int .i64 (-1), .string ⟨#[43]⟩]
def HasPCounts (I : GH) : Prop := ∃ T fr, I 2 = some (.cells pcountsV.toArray T fr)
def repB (lo : Nat) (hi : Int) : List UInt8 :=
  bif decide (hi = lo) then [123] ++ dig lo ++ [125] else
  bif decide (hi = -1) then [123] ++ dig lo ++ [44, 125] else [123] ++ dig lo ++ [44] ++ dig hi.toNat ++ [125]
def countB (lo : Nat) (hi : Int) : List UInt8 :=
  bif decide ((0 : Int) = lo) && decide (1 = hi) then [63] else
  bif decide ((0 : Int) = lo) && decide (-1 = hi) then [42] else
  bif decide ((1 : Int) = lo) && decide (-1 = hi) then [43] else repB lo hi
theorem repB_len (lo : Nat) (hi : Int) : (repB lo hi).length ≤ 7 := by
  have h1 := dig_len lo
  have h2 := dig_len hi.toNat
  unfold repB
  cases decide (hi = lo) <;> cases decide (hi = -1) <;> simp <;> omega
theorem countB_len (lo : Nat) (hi : Int) : (countB lo hi).length ≤ 7 := by
  have h1 := repB_len lo hi
  unfold countB
  cases (decide ((0 : Int) = lo) && decide (1 = hi)) <;> cases (decide ((0 : Int) = lo) && decide (-1 = hi)) <;> cases (decide ((1 : Int) = lo) && decide (-1 = hi)) <;> simp <;> omega
theorem digS_size (n : Nat) : (digS n).size ≤ 2 := dig_len n
def repNd (lo hi : Int) : Nd := ⟨6, 0, 0, 0, 0, ⟨#[]⟩, lo, hi, none, 0, 0, []⟩
theorem fits_rep {lo : Nat} {hi : Int} (hlo : lo ≤ 99) (hhi : hi = -1 ∨ ((lo : Int) ≤ hi ∧ hi ≤ 99)) : fits (repNd lo hi) 1 = true := by
  have e1 : cntLo 6 = 1 := by decide
  have e2 : cntHi 6 = 1 := by decide
  rcases hhi with rfl | ⟨h1, h2⟩
  · simp [fits, repNd, e1, e2, Nd.setZ]
    exact ⟨decide_eq_false (by omega), decide_eq_false (by omega)⟩
  · simp [fits, repNd, e1, e2, Nd.setZ]
    exact ⟨decide_eq_false (by omega), decide_eq_false (by omega), .inr ⟨decide_eq_false (by omega), decide_eq_false (by omega)⟩⟩

theorem strOf_app (a b : List UInt8) : strOf a ++ strOf b = strOf (a ++ b) := by
  apply bytes_eq
  simp [strOf]
theorem BinOb.concatL {P : Program} {t : Nat} {x y : Operand} {a b : List UInt8} (hs : a.length + b.length ≤ 9223372036854775807) {V : Value → Prop} {other : Prop} (h : V (.string (strOf (a ++ b)))) : BinOb P .add t x y (.val (.string (strOf a))) (.val (.string (strOf b))) V other :=
  BinOb.concat (a := strOf a) (b := strOf b) hs (by rw [strOf_app]; exact h)

theorem Count_spec {I : GH} (hc : HasCounts I) (hp : HasPCounts I) (lo : Nat) (hi : Int) (hlo : lo ≤ 99) (hhi : hi = -1 ∨ ((lo : Int) ≤ hi ∧ hi ≤ 99)) : Spec Tryz.prog 230 [.int .i64 lo, .int .i64 hi] I []
    fun r I' M' => r = .string (strOf (countB lo hi)) ∧ I' = I ∧ M' = [] := by
  refine spec_of_V [] TryzEOK Tryz.func230 rfl rfl rfl ?_
  intro B h0
  have hok : (repNd lo hi).ok I := ⟨by simp [repNd], by simp [repNd, u64ok], by simp [repNd, u64ok], by simp [repNd, u64ok], by simp [repNd, u64ok], by show (0 : Nat) ≤ _; omega, ⟨by simp only [repNd]; omega, by simp only [repNd]; omega⟩, ⟨by simp only [repNd]; omega, by simp only [repNd]; omega⟩, ⟨rfl, ⟨Nat.le_refl _, by simp [repNd]⟩, .inl rfl⟩, by simp [repNd]⟩
  refine CallOb.mk [] [] _ (.refl _) (Fits_spec hc hok 1) ?_
  rintro v I' M' - ⟨rfl, rfl, rfl⟩
  rw [fits_rep hlo hhi]
  refine CondOb.mk (fun h => by cases h) (fun _ => ?_)
  have hrd : Rd I' ([] ++ []) ⟨2, 0, none⟩ 9 pcountsV := by
    obtain ⟨T, fr, hp⟩ := hp
    exact ⟨rfl, _, T, fr, .inl hp, rfl, rfl⟩
  refine LoadOb.mk _ hrd ?_
  refine LoopOb.inv (ι := Nat) (fun i => { fl := [(0, .val (.int .i64 lo)), (1, .val (.int .i64 hi)), (12, .val (.agg pcountsV.toArray)), (13, .val (.int .i64 i))], gi := I' })
    (fun i => i ≤ 3 ∧ (1 ≤ i → (decide ((0 : Int) = lo) && decide (1 = hi)) = false) ∧ (2 ≤ i → (decide ((0 : Int) = lo) && decide (-1 = hi)) = false) ∧ (3 ≤ i → (decide ((1 : Int) = lo) && decide (-1 = hi)) = false)) (fun i => 3 - i) ?_ ?_
  · exact ⟨0, ⟨by simp, by simp, by simp, by simp⟩, .refl, .cons .refl (.cons .refl (.cons .refl (.cons .refl .nil))), .nil⟩
  · rintro i ⟨hi3, m1, m2, m3⟩
    match i, hi3 with
    | 0, _ =>
      refine CondOb.mk (fun _ => ?_) (fun h => by simp at h)
      refine ArrOb.mk 0 rfl (by decide) ?_
      have next : (decide ((0 : Int) = lo) && decide (1 = hi)) = false → (((0 + 1 : Nat) ≤ 3 ∧ (1 ≤ (0 + 1 : Nat) → (decide ((0 : Int) = lo) && decide (1 = hi)) = false) ∧ (2 ≤ (0 + 1 : Nat) → (decide ((0 : Int) = lo) && decide (-1 = hi)) = false) ∧ (3 ≤ (0 + 1 : Nat) → (decide ((1 : Int) = lo) && decide (-1 = hi)) = false)) ∧ 3 - (0 + 1) < 3 - 0) := fun h => by
        refine ⟨⟨by simp, fun _ => ?_, fun hh => ?_, fun hh => ?_⟩, by simp⟩
        · exact h
        · simp at hh
        · simp at hh
      refine GuardOb.mk (fun g1 => ?_) (fun g1 => ?_)
      · refine CondOb.mk (fun g2 => ?_) (fun g2 => ?_)
        · refine ⟨_, _, .refl, ?_, rfl, rfl⟩
          have : countB lo hi = [63] := by
            unfold countB
            rw [g1, g2]
            rfl
          rw [this]
          rfl
        · refine ArithOb.mk 1 (by decide) ?_
          exact ⟨1, next (by rw [g1, g2]; rfl), .refl, .cons .refl (.cons .refl (.cons .refl (.cons .refl .nil))), .nil⟩
      · refine ArithOb.mk 1 (by decide) ?_
        exact ⟨1, next (by rw [g1]; rfl), .refl, .cons .refl (.cons .refl (.cons .refl (.cons .refl .nil))), .nil⟩
    | 1, _ =>
      refine CondOb.mk (fun _ => ?_) (fun h => by simp at h)
      refine ArrOb.mk 1 rfl (by decide) ?_
      have next : (decide ((0 : Int) = lo) && decide (-1 = hi)) = false → (((1 + 1 : Nat) ≤ 3 ∧ (1 ≤ (1 + 1 : Nat) → (decide ((0 : Int) = lo) && decide (1 = hi)) = false) ∧ (2 ≤ (1 + 1 : Nat) → (decide ((0 : Int) = lo) && decide (-1 = hi)) = false) ∧ (3 ≤ (1 + 1 : Nat) → (decide ((1 : Int) = lo) && decide (-1 = hi)) = false)) ∧ 3 - (1 + 1) < 3 - 1) := fun h => by
        refine ⟨⟨by simp, fun _ => ?_, fun hh => ?_, fun hh => ?_⟩, by simp⟩
        · exact m1 (by decide)
        · exact h
        · simp at hh
      refine GuardOb.mk (fun g1 => ?_) (fun g1 => ?_)
      · refine CondOb.mk (fun g2 => ?_) (fun g2 => ?_)
        · refine ⟨_, _, .refl, ?_, rfl, rfl⟩
          have : countB lo hi = [42] := by
            unfold countB
            rw [m1 (by decide), g1, g2]
            rfl
          rw [this]
          rfl
        · refine ArithOb.mk 2 (by decide) ?_
          exact ⟨2, next (by rw [g1, g2]; rfl), .refl, .cons .refl (.cons .refl (.cons .refl (.cons .refl .nil))), .nil⟩
      · refine ArithOb.mk 2 (by decide) ?_
        exact ⟨2, next (by rw [g1]; rfl), .refl, .cons .refl (.cons .refl (.cons .refl (.cons .refl .nil))), .nil⟩
    | 2, _ =>
      refine CondOb.mk (fun _ => ?_) (fun h => by simp at h)
      refine ArrOb.mk 2 rfl (by decide) ?_
      have next : (decide ((1 : Int) = lo) && decide (-1 = hi)) = false → (((2 + 1 : Nat) ≤ 3 ∧ (1 ≤ (2 + 1 : Nat) → (decide ((0 : Int) = lo) && decide (1 = hi)) = false) ∧ (2 ≤ (2 + 1 : Nat) → (decide ((0 : Int) = lo) && decide (-1 = hi)) = false) ∧ (3 ≤ (2 + 1 : Nat) → (decide ((1 : Int) = lo) && decide (-1 = hi)) = false)) ∧ 3 - (2 + 1) < 3 - 2) := fun h => by
        refine ⟨⟨by simp, fun _ => ?_, fun hh => ?_, fun hh => ?_⟩, by simp⟩
        · exact m1 (by decide)
        · exact m2 (by decide)
        · exact h
      refine GuardOb.mk (fun g1 => ?_) (fun g1 => ?_)
      · refine CondOb.mk (fun g2 => ?_) (fun g2 => ?_)
        · refine ⟨_, _, .refl, ?_, rfl, rfl⟩
          have : countB lo hi = [43] := by
            unfold countB
            rw [m1 (by decide), m2 (by decide), g1, g2]
            rfl
          rw [this]
          rfl
        · refine ArithOb.mk 3 (by decide) ?_
          exact ⟨3, next (by rw [g1, g2]; rfl), .refl, .cons .refl (.cons .refl (.cons .refl (.cons .refl .nil))), .nil⟩
      · refine ArithOb.mk 3 (by decide) ?_
        exact ⟨3, next (by rw [g1]; rfl), .refl, .cons .refl (.cons .refl (.cons .refl (.cons .refl .nil))), .nil⟩
    | 3, _ =>
      refine CondOb.mk (fun h => by simp at h) (fun _ => ?_)
      have e1 := m1 (by decide)
      have e2 := m2 (by decide)
      have e3 := m3 (by decide)
      have hcb : countB lo hi = repB lo hi := by
        unfold countB
        rw [e1, e2, e3]
        rfl
      rw [hcb]
      have hl2 := digS_size lo
      have hh2 := digS_size hi.toNat
      have hl2 := dig_len lo
      refine CondOb.mk (fun h => ?_) (fun h => ?_)
      · refine CallOb.mk [] [] _ (.refl _) (Show_spec lo (by omega)) ?_
        rintro v I' M' - ⟨rfl, rfl, rfl⟩
        refine BinOb.concatL (a := [123]) (b := dig lo) (by simp; omega) ?_
        refine BinOb.concatL (a := [123] ++ dig lo) (b := [125]) (by simp; omega) ?_
        refine ⟨_, _, .refl, ?_, rfl, rfl⟩
        rw [repB, h]
        rfl
      · refine CondOb.mk (fun k => ?_) (fun k => ?_)
        · refine CallOb.mk [] [] _ (.refl _) (Show_spec lo (by omega)) ?_
          rintro v I' M' - ⟨rfl, rfl, rfl⟩
          refine BinOb.concatL (a := [123]) (b := dig lo) (by simp; omega) ?_
          refine BinOb.concatL (a := [123] ++ dig lo) (b := [44, 125]) (by simp; omega) ?_
          refine ⟨_, _, .refl, ?_, rfl, rfl⟩
          rw [repB, h, k]
          rfl
        · refine CallOb.mk [] [] _ (.refl _) (Show_spec lo (by omega)) ?_
          rintro v I' M' - ⟨rfl, rfl, rfl⟩
          have hk : hi ≠ -1 := by simpa using k
          obtain ⟨hn, rfl⟩ := Int.eq_ofNat_of_zero_le (show 0 ≤ hi by omega)
          have hh2 := dig_len hn
          refine BinOb.concatL (a := [123]) (b := dig lo) (by simp; omega) ?_
          refine BinOb.concatL (a := [123] ++ dig lo) (b := [44]) (by simp; omega) ?_
          refine CallOb.mk [] [] _ (.refl _) (Show_spec hn (by omega)) ?_
          rintro v I' M' - ⟨rfl, rfl, rfl⟩
          refine BinOb.concatL (a := [123] ++ dig lo ++ [44]) (b := dig hn) (by simp; omega) ?_
          refine BinOb.concatL (a := [123] ++ dig lo ++ [44] ++ dig hn) (b := [125]) (by simp; omega) ?_
          refine ⟨_, _, .refl, ?_, rfl, rfl⟩
          rw [repB, h, k]
          rfl

/-! ### Signs -/
def signsL : List (List UInt8) := [[], [], [], [], [], [], [], [], [], [], [], [], [], [32], [], [], [32, 47, 32], [], [], [], [], [38], [], [], [33], [], [], [60], [], [62]]
def sgn (j : Nat) : List UInt8 := signsL.getD j []
def HasSigns (I : GH) : Prop := ∃ T fr, I 1 = some (.cells (signsL.map fun l => Value.string (strOf l)).toArray T fr)
theorem HasSigns.rd {I : GH} (h : HasSigns I) (M : List Blk) {i j : Nat} (hj : i + j < 30) : Rd I M ((Addr.add ⟨1, 0, none⟩ i).add j) 1 [.string (strOf (sgn (i + j)))] := by
  obtain ⟨T, fr, h⟩ := h
  rw [add2, addr_add _ rfl]
  refine ⟨rfl, _, T, fr, .inl h, ?_, rfl⟩
  have h1 : i + j < (signsL.map fun l => Value.string (strOf l)).length := by simp [signsL]; omega
  have h2 : i + j < signsL.length := by simp [signsL]; omega
  simp only [Nat.zero_add]
  rw [List.drop_eq_getElem_cons h1, List.take_succ_cons, List.take_zero]
  simp [sgn, List.getD_eq_getElem?_getD, h2]
theorem sgn_len (j : Nat) : (sgn j).length ≤ 3 := by
  by_cases h : j < 30
  · have : ∀ j : Fin 30, (sgn j.val).length ≤ 3 := by decide
    exact this ⟨j, h⟩
  · have : signsL.length ≤ j := by simp [signsL]; omega
    simp [sgn, List.getD_eq_getElem?_getD, this]

def aheadB (deb : List Int) (d : Nd) : List UInt8 :=
  bif decide (d.k = 0) || decide (d.k = 2) then litB d.t else
  bif decide (d.k = 1) then classB deb d.s0 d.s1 d.s2 d.s3 else
  bif decide (d.k = 3) then d.t.data.toList else
  bif decide (d.k = 9) then sgn 27 ++ d.t.data.toList ++ [58, 32] else sgn (d.k.toNat * 3)
def behindB (d : Nd) : List UInt8 := bif decide (d.k = 6) then countB d.lo.toNat d.hi else sgn (d.k.toNat * 3 + 2)
theorem strOf_self (s : ByteArray) : strOf s.data.toList = s := bytes_eq (by simp [strOf])

theorem behind_spec {I : GH} (hc : HasCounts I) (hp : HasPCounts I) (hsg : HasSigns I) {d : Nd} (hd : d.ok I) (hf : FitsSays d) : Spec Tryz.prog 215 [d.val] I [] fun r I' M' => r = .string (strOf (behindB d)) ∧ I' = I ∧ M' = [] := by
  refine spec_of_V [] TryzEOK Tryz.func215 rfl rfl rfl ?_
  intro B h0
  refine CondOb.mk (fun h => ?_) (fun h => ?_)
  · obtain ⟨g1, g2, g3⟩ := hf.rep (by simpa using h)
    have e1 : d.lo = ((d.lo.toNat : Nat) : Int) := by omega
    have hcs := Count_spec hc hp d.lo.toNat d.hi (by omega) (by omega)
    rw [← e1] at hcs
    refine CallOb.mk [] [] _ (.refl _) hcs ?_
    rintro v I' M' - ⟨rfl, rfl, rfl⟩
    refine ⟨_, _, .refl, ?_, rfl, rfl⟩
    simp only [behindB, h]
    rfl
  · have hk := hd.k
    have hk1 := hf.k
    refine ArrOb.mk d.k.toNat (by omega) (by omega) ?_
    refine LoadOb.mk _ (hsg.rd _ (by show d.k.toNat * 3 + 2 < 30; omega)) ?_
    refine ⟨_, _, .refl, ?_, rfl, rfl⟩
    simp only [behindB, h]
    rfl

theorem ahead_spec {I : GH} {deb : List Int} (hdeb : HasDeb I deb) (hsg : HasSigns I) {d : Nd} (hd : d.ok I) (hf : FitsSays d) : Spec Tryz.prog 213 [d.val] I []
    fun r I' M' => r = .string (strOf (aheadB deb d)) ∧ (∀ b o, I b = some o → I' b = some o) ∧ M' = [] := by
  refine spec_of_V [] TryzEOK Tryz.func213 rfl rfl rfl ?_
  intro B h0
  have hk := hd.k
  have hk1 := hf.k
  have ht := hf.t
  have lit : (decide (d.k = 0) || decide (d.k = 2)) = true → aheadB deb d = litB d.t := fun h => by
    simp only [aheadB, h]
    rfl
  refine CondOb.mk (fun h1 => ?_) (fun h1 => ?_)
  · refine CondOb.mk (fun _ => ?_) (fun h => by rw [h1] at h; cases h)
    refine CallOb.mk [] [] _ (.refl _) (Literal_spec d.t (by omega)) ?_
    rintro v I' M' - ⟨rfl, rfl, rfl⟩
    refine ⟨_, _, .refl, ?_, fun _ _ h => h, rfl⟩
    rw [lit (by rw [h1]; rfl)]
  · refine CondOb.mk (fun h2 => ?_) (fun h2 => ?_)
    · refine CallOb.mk [] [] _ (.refl _) (Literal_spec d.t (by omega)) ?_
      rintro v I' M' - ⟨rfl, rfl, rfl⟩
      refine ⟨_, _, .refl, ?_, fun _ _ h => h, rfl⟩
      rw [lit (by rw [h2]; simp)]
    · refine CondOb.mk (fun h3 => ?_) (fun h3 => ?_)
      · refine CallOb.mk [] [] _ (.refl _) (Class_spec hdeb (a := d.s0) (b := d.s1) (c := d.s2) (d := d.s3) (fun x hx => by
          simp only [List.mem_cons, List.not_mem_nil, or_false] at hx
          rcases hx with rfl | rfl | rfl | rfl
          · exact hd.s0
          · exact hd.s1
          · exact hd.s2
          · exact hd.s3)) ?_
        rintro v I' M' - ⟨rfl, hI, rfl⟩
        refine ⟨_, _, .refl, ?_, hI, rfl⟩
        simp only [aheadB, h1, h2, h3]
        rfl
      · refine CondOb.mk (fun h4 => ?_) (fun h4 => ?_)
        · refine ⟨_, _, .refl, ?_, fun _ _ h => h, rfl⟩
          simp only [aheadB, h1, h2, h3, h4]
          rw [← strOf_self d.t]
          rfl
        · refine CondOb.mk (fun h5 => ?_) (fun h5 => ?_)
          · have hk9 : d.k = 9 := by simpa using h5
            refine CodeOb.draw TryzEOK rfl rfl rfl ?_
            refine ArrOb.mk 9 hk9 (by decide) ?_
            refine LoadOb.mk _ (hsg.rd _ (by decide)) ?_
            have hs1 : (strOf (sgn 27)).size = 1 := by decide
            refine BinOb.concat (a := strOf (sgn 27)) (b := d.t) (by omega) ?_
            refine BinOb.concat (a := strOf (sgn 27) ++ d.t) (b := strOf [58, 32]) (by rw [ByteArray.size_append]; show _ + 2 ≤ _; omega) ?_
            refine ⟨_, _, .refl, ?_, fun _ _ h => h, rfl⟩
            simp only [aheadB, h1, h2, h3, h4, h5]
            refine congrArg Value.string (bytes_eq ?_)
            simp [strOf]
          · refine ArrOb.mk d.k.toNat (by omega) (by omega) ?_
            refine LoadOb.mk _ (hsg.rd _ (by show d.k.toNat * 3 + 0 < 30; omega)) ?_
            refine ⟨_, _, .refl, ?_, fun _ _ h => h, rfl⟩
            simp only [aheadB, h1, h2, h3, h4, h5]
            rfl
end Go.V

/-
  Plain: the text of a tree, its length, how much is still to be written. No program in sight.
-/
set_option linter.unusedVariables false
set_option linter.unusedSimpArgs false
namespace Go.V
open Go

def kindAt (ns : List Nd) (k : Int) : Int := (ns.map (·.k)).getD k.toNat 0
def paren (w : Bool) (s : List UInt8) : List UInt8 := (bif w then [40] else []) ++ (s ++ (bif w then [41] else []))
/-- The children's texts, what stands between two of them ahead of each, but for the first one. -/
def kidsT (sep : List UInt8) (f : Int → List UInt8) : Bool → List Int → List UInt8
  | _, [] => []
  | b, k :: ks => (bif b then sep else []) ++ (f k ++ kidsT sep f true ks)
def sepOf (d : Nd) : List UInt8 := sgn (d.k.toNat * 3 + 1)
def nodeT (deb : List Int) (ns : List Nd) (d : Nd) (g : Int → List UInt8) : List UInt8 :=
  aheadB deb d ++ (kidsT (sepOf d) (fun k => paren (wrapsV d.k (kindAt ns k)) (g k)) false d.kids ++ behindB d)
def textOf (deb : List Int) (ns : List Nd) : Int → List UInt8 := tabOf [] (nodeT deb ns) ns
def treeB (deb : List Int) (t : Tr) : List UInt8 := bif right t then textOf deb t.ns t.root else []

theorem kidsT_congr {sep : List UInt8} {f g : Int → List UInt8} : ∀ {ks : List Int} {b : Bool}, (∀ k ∈ ks, f k = g k) → kidsT sep f b ks = kidsT sep g b ks
  | [], b, _ => rfl
  | k :: ks, b, h => by
    unfold kidsT
    rw [h k (by simp), kidsT_congr fun x hx => h x (by simp [hx])]
theorem textOf_eq {deb : List Int} {t : Tr} (hr : right t = true) {j : Nat} (hj : j < t.ns.length) : textOf deb t.ns j = nodeT deb t.ns t.ns[j] (textOf deb t.ns) := by
  refine tabOf_eq (fun d g g' h => ?_) hr hj
  unfold nodeT
  rw [kidsT_congr fun k hk => by rw [h k hk]]

/-! ### Lengths -/
theorem paren_len (w : Bool) (s : List UInt8) : (paren w s).length ≤ s.length + 2 := by
  cases w <;> simp [paren]
theorem kidsT_len {sep : List UInt8} {f : Int → List UInt8} (hs : sep.length ≤ 3) {g : Int → Nat} (hf : ∀ k, (f k).length + 3 ≤ g k) : ∀ {ks : List Int} {b : Bool}, (kidsT sep f b ks).length ≤ sumOf g ks
  | [], b => by simp [kidsT, sumOf]
  | k :: ks, b => by
    have h1 := kidsT_len hs hf (ks := ks) (b := true)
    have h2 := hf k
    unfold kidsT
    simp only [List.length_append, sumOf, List.map_cons, List.sum_cons] at h1 ⊢
    cases b <;> simp <;> omega
theorem aheadB_len (deb : List Int) {d : Nd} (hf : FitsSays d) : (aheadB deb d).length ≤ 2400 := by
  have h1 : (litB d.t).length ≤ 2 + 4 * d.t.size := by
    have := flat_le (putB · quoL) 4 (fun c => putB_len c quoL) d.t.data.toList
    have h2 : d.t.data.toList.length = d.t.size := rfl
    simp only [litB, List.length_append, List.length_cons, List.length_nil]
    omega
  have h2 := classB_len deb d.s0 d.s1 d.s2 d.s3
  have h3 := hf.t
  have h4 := sgn_len 27
  have h5 := sgn_len (d.k.toNat * 3)
  have h6 : d.t.data.toList.length = d.t.size := rfl
  unfold aheadB
  cases (decide (d.k = 0) || decide (d.k = 2)) <;> cases decide (d.k = 1) <;> cases decide (d.k = 3) <;> cases decide (d.k = 9) <;> simp only [cond_true, cond_false, List.length_append, List.length_cons, List.length_nil] <;> omega
theorem behindB_len (d : Nd) : (behindB d).length ≤ 7 := by
  have h1 := countB_len d.lo.toNat d.hi
  have h2 := sgn_len (d.k.toNat * 3 + 2)
  unfold behindB
  cases decide (d.k = 6) <;> simp only [cond_true, cond_false] <;> omega
theorem sum_const {α : Type} (c : Nat) : ∀ l : List α, (l.map fun _ => c).sum = c * l.length
  | [] => by simp
  | x :: l => by
    rw [List.map_cons, List.sum_cons, sum_const c l, List.length_cons, Nat.mul_add]
    omega
theorem text_len {deb : List Int} {t : Tr} (hr : right t = true) : (textOf deb t.ns t.root).length + 5 ≤ 2412 * t.ns.length := by
  have h := right_sum hr (g := fun k => (textOf deb t.ns k).length + 5) (c := fun _ => 2412) fun j hj => by
    rw [textOf_eq hr hj]
    have h1 := aheadB_len deb (fits_says (right_fits hr hj))
    have h2 := behindB_len t.ns[j]
    have h3 := kidsT_len (sep := sepOf t.ns[j]) (sgn_len _) (f := fun k => paren (wrapsV t.ns[j].k (kindAt t.ns k)) (textOf deb t.ns k)) (g := fun k => (textOf deb t.ns k).length + 5)
      (fun k => by have := paren_len (wrapsV t.ns[j].k (kindAt t.ns k)) (textOf deb t.ns k); omega) (ks := t.ns[j].kids) (b := false)
    unfold nodeT
    simp only [List.length_append]
    omega
  rw [sum_const] at h
  exact h
theorem treeB_len (deb : List Int) (t : Tr) : (treeB deb t).length ≤ 2412 * t.ns.length := by
  unfold treeB
  cases hr : right t with
  | false => simp
  | true =>
    have := text_len (deb := deb) hr
    simp only [cond_true]
    omega

/-! ### What is open -/
abbrev Open := Nat × Nat × Bool
def openC (e : Open) : List Value := [.int .i64 e.1, .int .i64 e.2.1, .bool e.2.2]
def nodeAt (ns : List Nd) (j : Nat) : Nd := ns.getD j ⟨0, 0, 0, 0, 0, .empty, 0, 0, none, 0, 0, []⟩
def kidF (deb : List Int) (ns : List Nd) (d : Nd) (k : Int) : List UInt8 := paren (wrapsV d.k (kindAt ns k)) (textOf deb ns k)
def headE (deb : List Int) (ns : List Nd) (e : Open) : List UInt8 := bif decide ((e.2.1 : Int) = 0) then (bif e.2.2 then [40] else []) ++ aheadB deb (nodeAt ns e.1) else []
def restE (deb : List Int) (ns : List Nd) (e : Open) : List UInt8 :=
  headE deb ns e ++ (kidsT (sepOf (nodeAt ns e.1)) (kidF deb ns (nodeAt ns e.1)) (decide (0 < (e.2.1 : Int))) ((nodeAt ns e.1).kids.drop e.2.1) ++ (behindB (nodeAt ns e.1) ++ (bif e.2.2 then [41] else [])))
def wtOf (ns : List Nd) : Int → Nat := tabOf 0 (fun d g => 2 + sumOf g d.kids) ns
def muE (ns : List Nd) (e : Open) : Nat := 1 + sumOf (wtOf ns) ((nodeAt ns e.1).kids.drop e.2.1)
def muAll (ns : List Nd) (st : List Open) : Nat := (st.map (muE ns)).sum
def restAll (deb : List Int) (ns : List Nd) (st : List Open) : List UInt8 := st.reverse.flatMap (restE deb ns)
theorem restAll_snoc (deb : List Int) (ns : List Nd) (st : List Open) (e : Open) : restAll deb ns (st ++ [e]) = restE deb ns e ++ restAll deb ns st := by
  simp [restAll]
theorem muAll_snoc (ns : List Nd) (st : List Open) (e : Open) : muAll ns (st ++ [e]) = muAll ns st + muE ns e := by
  simp [muAll]
theorem muAll_len (ns : List Nd) : ∀ st : List Open, st.length ≤ muAll ns st
  | [] => by simp
  | e :: st => by
    have := muAll_len ns st
    simp only [muAll, List.map_cons, List.sum_cons, List.length_cons, muE] at this ⊢
    omega
theorem nodeAt_eq {ns : List Nd} {j : Nat} (h : j < ns.length) : nodeAt ns j = ns[j] := by
  simp [nodeAt, List.getD_eq_getElem?_getD, h]
theorem sumOf_congr {g g' : Int → Nat} {ks : List Int} (h : ∀ k ∈ ks, g k = g' k) : sumOf g ks = sumOf g' ks := by
  unfold sumOf
  rw [List.map_congr_left h]
theorem wtOf_eq {t : Tr} (hr : right t = true) {j : Nat} (hj : j < t.ns.length) : wtOf t.ns j = 2 + sumOf (wtOf t.ns) t.ns[j].kids :=
  tabOf_eq (fun d g g' h => by rw [sumOf_congr h]) hr hj
theorem wt_root {t : Tr} (hr : right t = true) : wtOf t.ns t.root ≤ 2 * t.ns.length := by
  have := right_sum hr (g := wtOf t.ns) (c := fun _ => 2) fun j hj => by rw [wtOf_eq hr hj]; exact Nat.le_refl _
  rwa [sum_const] at this
/-- A node that is begun. -/
theorem restE_new {deb : List Int} {t : Tr} (hr : right t = true) {j : Nat} (hj : j < t.ns.length) (w : Bool) : restE deb t.ns (j, 0, w) = paren w (textOf deb t.ns j) := by
  rw [textOf_eq hr hj]
  simp only [restE, headE, nodeAt_eq hj]
  cases w <;> simp [paren, nodeT, kidF] <;> rfl
theorem muE_new {t : Tr} (hr : right t = true) {j : Nat} (hj : j < t.ns.length) (w : Bool) : muE t.ns (j, 0, w) + 1 = wtOf t.ns j := by
  rw [wtOf_eq hr hj]
  simp [muE, nodeAt_eq hj]
  omega
/-- A step: the next child. -/
theorem restE_kid {deb : List Int} {t : Tr} (hr : right t = true) {j i : Nat} (hj : j < t.ns.length) {w : Bool} (hi : i < t.ns[j].kids.length) :
    restE deb t.ns (j, i, w) = headE deb t.ns (j, i, w) ++ ((bif decide (0 < (i : Int)) then sepOf t.ns[j] else []) ++ (restE deb t.ns (t.ns[j].kids[i].toNat, 0, wrapsV t.ns[j].k (kindAt t.ns t.ns[j].kids[i])) ++ restE deb t.ns (j, i + 1, w))) := by
  have hk := right_kids hr j hj _ (List.getElem_mem hi)
  rw [restE_new hr (by omega)]
  have e1 : (((t.ns[j].kids[i].toNat : Nat) : Int)) = t.ns[j].kids[i] := Int.toNat_of_nonneg hk.1
  rw [e1]
  have hd := List.drop_eq_getElem_cons hi
  simp only [restE, nodeAt_eq hj]
  rw [hd]
  have e2 : headE deb t.ns (j, i + 1, w) = [] := by
    have : decide (((i + 1 : Nat) : Int) = 0) = false := decide_eq_false (by omega)
    simp only [headE, this, cond_false]
  have e3 : decide (0 < ((i + 1 : Nat) : Int)) = true := decide_eq_true (by omega)
  rw [e2, e3]
  simp only [kidsT, kidF, List.append_assoc, List.nil_append]
theorem muE_kid {t : Tr} (hr : right t = true) {j i : Nat} (hj : j < t.ns.length) {w w' : Bool} (hi : i < t.ns[j].kids.length) : muE t.ns (j, i + 1, w) + muE t.ns (t.ns[j].kids[i].toNat, 0, w') + 1 = muE t.ns (j, i, w) := by
  have hk := right_kids hr j hj _ (List.getElem_mem hi)
  have h1 := muE_new hr (j := t.ns[j].kids[i].toNat) (by omega) w'
  have e1 : (((t.ns[j].kids[i].toNat : Nat) : Int)) = t.ns[j].kids[i] := Int.toNat_of_nonneg hk.1
  rw [e1] at h1
  have hd := List.drop_eq_getElem_cons hi
  have e3 : muE t.ns (j, i, w) = 1 + sumOf (wtOf t.ns) (t.ns[j].kids.drop i) := by simp [muE, nodeAt_eq hj]
  have e4 : muE t.ns (j, i + 1, w) = 1 + sumOf (wtOf t.ns) (t.ns[j].kids.drop (i + 1)) := by simp [muE, nodeAt_eq hj]
  rw [e3, e4, hd]
  simp only [sumOf, List.map_cons, List.sum_cons]
  omega
theorem restE_end {deb : List Int} {t : Tr} {j i : Nat} (hj : j < t.ns.length) {w : Bool} (hi : t.ns[j].kids.length ≤ i) : restE deb t.ns (j, i, w) = headE deb t.ns (j, i, w) ++ (behindB t.ns[j] ++ (bif w then [41] else [])) := by
  simp only [restE, nodeAt_eq hj, List.drop_eq_nil_of_le hi]
  rfl
end Go.V

/-
  Walks: print.Tree.
-/
set_option linter.unusedVariables false
set_option linter.unusedSimpArgs false
namespace Go.V
open Go Go.Proofs

theorem upd_self {F : Fr} {d : Nat} {x : SV} (h : F d = x) : upd F d x = F := by
  funext t
  unfold upd
  cases e : Nat.beq t d with
  | false => rfl
  | true =>
    have := Nat.eq_of_beq_eq_true e
    subst this
    exact h.symm
theorem updB_self {C : Bx} {d : Nat} {x : Option (List Value)} (h : C d = x) : updB C d x = C := by
  funext t
  unfold updB
  cases e : Nat.beq t d with
  | false => rfl
  | true =>
    have := Nat.eq_of_beq_eq_true e
    subst this
    exact h.symm
/-- The body of the first scope in a code. -/
def scopeIn : Code → Code
  | .scope c => c
  | .seq a b => match scopeIn a with
    | .skip => scopeIn b
    | c => c
  | _ => .skip
def labelIn (c : Code) (l : Nat) : Code := (findLabel c l).getD .skip

theorem StoreOb.add2 {M : List Blk} {b i j : Nat} {vs : List Value} {K : List Blk → Prop} (pre post : List Blk) (cs : Array Value) (T : Nat) (hM : M = pre ++ ⟨b, .cells cs T (0, 0)⟩ :: post) (hb : i + j + vs.length ≤ cs.size) (h1 : allOne vs = true)
    (h : K (pre ++ ⟨b, .cells (splice cs.toList (i + j) vs).toArray T (0, 0)⟩ :: post)) : StoreOb M (((⟨b, 0, none⟩ : Addr).add i).add j) vs K := by
  rw [Go.V.add2]
  refine StoreOb.add pre post cs T hM (by omega) h1 ?_
  rw [Nat.zero_add]
  exact h

/-- The tables that the printer reads. -/
structure Tabs (I : GH) (deb : List Int) : Prop where
  c : HasCounts I
  p : HasPCounts I
  s : HasSigns I
  d : HasDeb I deb
theorem perm1 {α : Type} (a b c : α) (L : List α) : (a :: b :: (L ++ [c])).Perm ([b, c] ++ (a :: L)) :=
  (List.Perm.swap b a _).trans (((((List.perm_append_singleton c L).cons a)).trans (List.Perm.swap c a L)).cons b)
theorem perm2 {α : Type} (a b c : α) (L : List α) : (a :: b :: c :: L).Perm ([b, c] ++ (L ++ [a])) :=
  (List.perm_append_singleton a (b :: c :: L)).symm
theorem splice_mid (pre : List Value) (a b c z : Value) (rest : List Value) : splice (pre ++ ([a, b, c] ++ rest)) (pre.length + 1) [z] = pre ++ ([a, z, c] ++ rest) := by
  have := splice_at pre a b z (c :: rest) _ rfl
  exact this
theorem Tabs.mono {I I' : GH} {deb : List Int} (h : Tabs I deb) (hI : ∀ b o, I b = some o → I' b = some o) : Tabs I' deb := by
  obtain ⟨⟨T1, f1, h1⟩, ⟨T2, f2, h2⟩, ⟨T3, f3, h3⟩, ⟨h4, h5, T4, f4, h6⟩⟩ := h
  exact ⟨⟨T1, f1, hI _ _ h1⟩, ⟨T2, f2, hI _ _ h2⟩, ⟨T3, f3, hI _ _ h3⟩, ⟨h4, h5, T4, f4, hI _ _ h6⟩⟩

def stackV (st : List Open) : List Value := st.flatMap openC
theorem stackV_len (st : List Open) : (stackV st).length = st.length * 3 := flat_len openC 3 (fun _ => rfl) st
theorem stackV_snoc (st : List Open) (e : Open) : stackV (st ++ [e]) = stackV st ++ [.int .i64 e.1, .int .i64 e.2.1, .bool e.2.2] := by
  simp [stackV, openC]

abbrev TreeI := Bd × OS × List Open × GH
def treeLP (t : Tr) (g : Nat) (x : TreeI) : LP := { fl := [(1, .ref 1 0), (3, .val (ptr g)), (4, .val x.2.1.val)], cl := [(1, t.cells)], gi := x.2.2.2, mi := x.2.1.blk 257 ++ x.1.M g }
structure TreeInv (I0 : GH) (deb : List Int) (t : Tr) (x : TreeI) : Prop where
  le : ∀ b o, I0 b = some o → x.2.2.2 b = some o
  ok : x.1.ok
  os : x.2.1.ok 3 (stackV x.2.2.1)
  ne : x.2.2.1 ≠ []
  inn : ∀ e ∈ x.2.2.1, e.1 < t.ns.length
  txt : x.1.bs ++ restAll deb t.ns x.2.2.1 = textOf deb t.ns t.root
  mu : muAll t.ns x.2.2.1 ≤ 2 * t.ns.length

set_option maxHeartbeats 8000000 in
set_option maxRecDepth 4000 in
theorem Tree_pass {I0 : GH} {deb : List Int} (hT : Tabs I0 deb) {t : Tr} (ht : t.ok I0) (hr : right t = true) (hn : t.n ≤ 1024) {g : Nat} {p : Nat → Nat × TreeI → Prop} (x : TreeI) (hx : TreeInv I0 deb t x)
    (hp : ∀ y, TreeInv I0 deb t y → muAll t.ns y.2.2.1 < muAll t.ns x.2.2.1 → p 0 (g, y)) (B : Nat) (h0 : World) (G : Fr) (GC : Bx) :
    V ⟨Tryz.prog, TryzE, [3], Tryz.f202.ntmps, B, h0, I0, [], none⟩ (labelIn (scopeIn (Tryz.f202.body.getD .skip)) 0)
      (upd (upd (upd G 4 (.val x.2.1.val)) 3 (.val (ptr g))) 1 (.ref 1 0)) (updB GC 1 (some t.cells)) x.2.2.2 (x.2.1.blk 257 ++ x.1.M g)
      (scK (fun l => InvAt [] (fun y => treeLP t y.1 y.2) (p l)) (retK ⟨Tryz.prog, TryzE, [3], Tryz.f202.ntmps, B, h0, I0, [], none⟩ Tryz.f202.results.toList
        (fun r I' M' => r = .string (strOf (textOf deb t.ns t.root)) ∧ (∀ b o, I0 b = some o → I' b = some o) ∧ M' = []))) := by
  obtain ⟨x, ⟨oa, n, cp, cur⟩, st, I1⟩ := x
  obtain ⟨hle, hxok, hos, hne, hin, htxt, hmu⟩ := hx
  simp only at hle hxok hos hne hin htxt hmu hp ⊢
  have hT1 := hT.mono hle
  have ht1 := ht.mono hle
  have hnl := ht.n
  obtain ⟨st0, ⟨j, i, w⟩, rfl⟩ : ∃ st0 e, st = st0 ++ [e] := by
    rcases List.eq_nil_or_concat st with h | ⟨r, e, h⟩
    · exact (hne h).elim
    · exact ⟨r, e, by simpa using h⟩
  have hsl : st0.length + 1 = n := by
    have h1 := hos.len
    rw [stackV_len] at h1
    simp at h1
    omega
  have hj : j < t.ns.length := hin (j, i, w) (by simp)
  have hj' : j < t.n := by omega
  cases oa with
  | none => have := (hos.nil rfl).1; simp only at this; omega
  | some gb =>
  obtain ⟨hcl, hnc, hcm, hct⟩ := hos.cap gb rfl
  simp only at hcl hnc hcm hct
  have hp0 : (stackV st0).length = (n - 1) * 3 := by rw [stackV_len]; omega
  obtain ⟨rest, hcur⟩ : ∃ rest, cur = stackV st0 ++ ([.int .i64 j, .int .i64 i, .bool w] ++ rest) := by
    refine ⟨cur.drop (n * 3), ?_⟩
    have h2 := List.take_append_drop (n * 3) cur
    rw [hct, stackV_snoc, List.append_assoc] at h2
    exact h2.symm
  have at0 : cur[(n - 1) * 3 + 0]? = some (.int .i64 j) := by
    rw [hcur, ← hp0, List.getElem?_append_right (by omega)]
    simp
  have at1 : cur[(n - 1) * 3 + 1]? = some (.int .i64 i) := by
    rw [hcur, ← hp0, List.getElem?_append_right (by omega)]
    simp
  have at2 : cur[(n - 1) * 3 + 2]? = some (.bool w) := by
    rw [hcur, ← hp0, List.getElem?_append_right (by omega)]
    simp
  have htl := text_len (deb := deb) hr
  have hxl : x.bs.length ≤ 2412 * t.ns.length := by
    have := congrArg List.length htxt
    rw [List.length_append] at this
    omega
  have hstl := muAll_len t.ns (st0 ++ [(j, i, w)])
  simp only [List.length_append, List.length_cons, List.length_nil] at hstl
  have hdk := ht1.ns t.ns[j] (List.getElem_mem hj)
  have hkn := hdk.kn
  have hfs := fits_says (right_fits hr hj)
  obtain ⟨ad, had, hrd⟩ := ht1.rs.row Nd.cells_len hj' hj
  rw [restAll_snoc] at htxt
  rw [muAll_snoc] at hmu hp hstl
  have hn1 : IntKind.i64.wrap ((n : Int) - 1) = ((n - 1 : Nat) : Int) := by
    rw [wrap_i64 ⟨by omega, by omega⟩]
    omega
  refine ArithOb.mk (((n - 1 : Nat)) : Int) hn1 ?_
  refine IdxOb.mk ⟨gb, 0, none⟩ (n - 1) rfl rfl (by show n - 1 < n; omega) ?_
  refine CodeOb.draw TryzEOK rfl rfl rfl ?_
  refine LoadOb.mk [.int .i64 j] (blk_rd2 (b := gb) (cs := cur) (T := 257) (by simp [OS.blk]) at0) ?_
  refine IdxOb.mk ad j had rfl hj' ?_
  refine LoadOb.mk _ (hrd _) ?_
  refine AllocOb.mk fun b6 hb6 hbM6 => ?_
  refine StoreOb.mk [] (⟨gb, .cells cur.toArray 257 (0, 0)⟩ :: x.M g) _ _ rfl rfl (Nat.le_of_ble_eq_true rfl) rfl ?_
  refine LoadOb.mk [.int .i64 i] (blk_rd2 (b := gb) (cs := cur) (T := 257) (by simp [OS.blk]) at1) ?_
  refine CondOb.mk (fun h1 => ?_) (fun h1 => ?_)
  · refine LoadOb.mk [.bool w] (blk_rd2 (b := gb) (cs := cur) (T := 257) (by simp [OS.blk]) at2) ?_
    refine CondOb.mk (fun h2 => ?_) (fun h2 => ?_)
    · refine CallOb.mk (x.M g) [⟨b6, .cells t.ns[j].cells.toArray 82 (0, 0)⟩, ⟨gb, .cells cur.toArray 257 (0, 0)⟩] _ (List.perm_append_comm (l₁ := [_, _])) (WriteByte_spec g hxok 40 (by omega)) ?_
      rintro v I2 M2 - ⟨rfl, rfl, y, hy, hyb, rfl⟩
      have hyl : y.bs.length ≤ 2412 * t.ns.length + 1 := by rw [hyb]; simp; omega
      refine LoadOb.mk _ (blk_rd (T := 82) (b := b6) (cs := t.ns[j].cells) (k := 0) (n := 9) (by simp) (Nat.le_of_ble_eq_true rfl)) ?_
      refine CallOb.mk [] (y.M g ++ [⟨b6, .cells t.ns[j].cells.toArray 82 (0, 0)⟩, ⟨gb, .cells cur.toArray 257 (0, 0)⟩]) _ (by simp) (ahead_spec hT1.d hT1.s hdk hfs) ?_
      rintro v I2 M2 - ⟨rfl, hI2, rfl⟩
      have hI3 : ∀ b o, I0 b = some o → I2 b = some o := fun b o h => hI2 _ _ (hle _ _ h)
      have hal := aheadB_len deb hfs
      refine CallOb.mk (y.M g) [⟨b6, .cells t.ns[j].cells.toArray 82 (0, 0)⟩, ⟨gb, .cells cur.toArray 257 (0, 0)⟩] _ (by simp) (WriteString_spec g hy _ (by show _ + (aheadB deb t.ns[j]).length ≤ _; omega)) ?_
      rintro v I3 M3 - ⟨rfl, rfl, u, hu, hub, rfl⟩
      have huh : u.bs = x.bs ++ headE deb t.ns (j, i, w) := by
        rw [hub, hyb]
        simp only [headE, h1, h2, nodeAt_eq hj, cond_true, cond_false]
        simp [strOf]
      have hul : u.bs.length ≤ 2412 * t.ns.length + 2401 := by
        rw [huh, List.length_append]
        simp only [headE, h1, h2, nodeAt_eq hj, cond_true, cond_false, List.length_append, List.length_cons, List.length_nil]
        omega
      have hT2 := hT.mono hI3
      have ht2 := ht.mono hI3
      have hdk2 := ht2.ns t.ns[j] (List.getElem_mem hj)
      have hrd6 : ∀ {k m : Nat}, k + m ≤ 9 → Rd I3 (u.M g ++ [⟨b6, .cells t.ns[j].cells.toArray 82 (0, 0)⟩, ⟨gb, .cells cur.toArray 257 (0, 0)⟩]) ((⟨b6, 0, none⟩ : Addr).add k) m ((t.ns[j].cells.drop k).take m) := fun h => blk_rd (T := 82) (by simp) h
      refine CodeOb.draw TryzEOK rfl rfl rfl ?_
      refine LoadOb.mk [.int .i64 i] (blk_rd2 (b := gb) (cs := cur) (T := 257) (by simp [OS.blk]) at1) ?_
      refine LoadOb.mk _ (hrd6 (by decide)) ?_
      refine CondOb.mk (fun hk => ?_) (fun hk => ?_)
      · have hil : i < t.ns[j].kn := by simpa using hk
        have hil' : i < t.ns[j].kids.length := by omega
        obtain ⟨ak, hak, hrk⟩ := hdk2.rs.one hil hil'
        have hkk := right_kids hr j hj _ (List.getElem_mem hil')
        obtain ⟨q, hq0⟩ := Int.eq_ofNat_of_zero_le hkk.1
        have hql : q < t.ns.length := by omega
        have hql' : q < t.n := by omega
        obtain ⟨aq, haq, hrq0⟩ := ht2.rs.row Nd.cells_len hql' hql
        have hrq : ∀ M, Rd I3 M ((aq.add (q * 9)).add 0) 1 [.int .u8 t.ns[q].k] := fun M => (hrq0 M).part (k := 0) (m := 1) (by decide)
        have hkat : kindAt t.ns ((q : Nat) : Int) = t.ns[q].k := by simp [kindAt, List.getD_eq_getElem?_getD, hql]
        have hre := restE_kid (deb := deb) hr hj (w := w) hil'
        have hme := muE_kid hr hj (w := w) (w' := wrapsV t.ns[j].k t.ns[q].k) hil'
        rw [hq0] at hre hme
        simp only [Int.ofNat_eq_natCast, Int.toNat_natCast] at hre hme
        rw [hkat] at hre
        have hwr : IntKind.i64.wrap ((i : Int) + 1) = ((i + 1 : Nat) : Int) := by
          have := hdk2.rs.cap
          rw [wrap_i64 ⟨by omega, by omega⟩]
          omega
        have hsp : splice cur ((n - 1) * 3 + 1) [.int .i64 ((i + 1 : Nat) : Int)] = stackV st0 ++ ([.int .i64 j, .int .i64 ((i + 1 : Nat) : Int), .bool w] ++ rest) := by
          rw [hcur, ← hp0]
          exact splice_mid _ _ _ _ _ _
        have hos' : OS.ok ⟨some gb, n, cp, splice cur ((n - 1) * 3 + 1) [.int .i64 ((i + 1 : Nat) : Int)]⟩ 3 (stackV (st0 ++ [(j, i + 1, w)])) := by
          rw [hsp, stackV_snoc]
          refine ⟨by simp only [List.length_append, List.length_cons, List.length_nil]; omega, (fun h => by cases h), fun g3 _ => ⟨?_, hnc, hcm, ?_⟩⟩
          · simp only
            rw [← hcl, hcur]
            simp
          · simp only
            rw [← List.append_assoc]
            refine List.take_left' ?_
            simp only [List.length_append, List.length_cons, List.length_nil]
            omega
        refine LoadOb.mk [.int .i64 i] (blk_rd2 (b := gb) (cs := cur) (T := 257) (by simp [OS.blk]) at1) ?_
        refine CondOb.mk (fun hz => by simp at h1 hz; omega) (fun hz => ?_)
        refine CodeOb.draw TryzEOK rfl rfl rfl ?_
        refine LoadOb.mk _ (blk_rd (T := 82) (b := b6) (cs := t.ns[j].cells) (k := 8) (n := 1) (by simp) (Nat.le_of_ble_eq_true rfl)) ?_
        refine LoadOb.mk [.int .i64 i] (blk_rd2 (b := gb) (cs := cur) (T := 257) (by simp [OS.blk]) at1) ?_
        refine IdxOb.mk ak i hak rfl hil ?_
        refine LoadOb.mk [.int .i64 (q : Nat)] (by have h9 := hrk; rw [hq0] at h9; exact h9 _) ?_
        refine LoadOb.mk [.int .i64 i] (blk_rd2 (b := gb) (cs := cur) (T := 257) (by simp [OS.blk]) at1) ?_
        refine ArithOb.mk ((i + 1 : Nat) : Int) hwr ?_
        refine StoreOb.add2 (u.M g ++ [⟨b6, .cells t.ns[j].cells.toArray 82 (0, 0)⟩]) [] cur.toArray 257 (by simp [OS.blk]) ?_ rfl ?_
        · simp only [List.size_toArray]
          show (n - 1) * 3 + 1 + 1 ≤ _
          omega
        refine CodeOb.draw TryzEOK rfl rfl rfl ?_
        refine LoadOb.mk [.int .u8 t.ns[j].k] (blk_rd (T := 82) (b := b6) (cs := t.ns[j].cells) (k := 0) (n := 1) (by simp) (Nat.le_of_ble_eq_true rfl)) ?_
        refine IdxOb.mk aq q haq rfl hql' ?_
        refine LoadOb.mk [.int .u8 t.ns[q].k] (hrq _) ?_
        refine PCallOb.mk _ (wraps_spec t.ns[j].k t.ns[q].k) ?_
        rintro v I5 M5 - ⟨rfl, rfl, rfl⟩
        refine AllocOb.mk fun b9 hb9 hbM9 => ?_
        refine OtherOb.append TryzEOK rfl (by simp) (e := 257) rfl rfl rfl ⟨some gb, n, cp, splice cur ((n - 1) * 3 + 1) [.int .i64 ((i + 1 : Nat) : Int)]⟩ (xs := stackV (st0 ++ [(j, i + 1, w)])) hos' rfl (m := 1) rfl (news := openC (q, 0, wrapsV t.ns[j].k t.ns[q].k)) (by decide) (blk_rd (b := b9) (cs := openC (q, 0, wrapsV t.ns[j].k t.ns[q].k)) (k := 0) (n := 3) (T := 257) (.head _) (Nat.le_of_ble_eq_true rfl)) rfl (Mr := ⟨b9, .cells (openC (q, 0, wrapsV t.ns[j].k t.ns[q].k)).toArray 257 (0, 0)⟩ :: (u.M g ++ [⟨b6, .cells t.ns[j].cells.toArray 82 (0, 0)⟩])) (by exact List.perm_append_comm (l₁ := (⟨b9, .cells (openC (q, 0, wrapsV t.ns[j].k t.ns[q].k)).toArray 257 (0, 0)⟩ : Blk) :: (u.M g ++ [⟨b6, .cells t.ns[j].cells.toArray 82 (0, 0)⟩])) (l₂ := [⟨gb, .cells (splice cur ((n - 1) * 3 + 1) [.int .i64 ((i + 1 : Nat) : Int)]).toArray 257 (0, 0)⟩])) (by show n + 1 ≤ _; simp only [maxLen]; omega) (by show (n + 1) * 24 ≤ _; omega) ?_
        intro g' c' cur' q1 q2 q3 q4
        refine ⟨(g, u, ⟨some g', n + 1, c', cur'⟩, st0 ++ [(j, i + 1, w)] ++ [(q, 0, wrapsV t.ns[j].k t.ns[q].k)], _), hp _ ⟨hI3, hu, ⟨?_, (fun h => by cases h), fun g3 _ => ⟨q1, q2, q3, ?_⟩⟩, by simp, ?_, ?_, ?_⟩ ?_, .perm (M1 := [⟨b9, .cells (openC (q, 0, wrapsV t.ns[j].k t.ns[q].k)).toArray 257 (0, 0)⟩, ⟨b6, .cells t.ns[j].cells.toArray 82 (0, 0)⟩] ++ (⟨g', .cells cur'.toArray 257 (0, 0)⟩ :: u.M g)) (perm1 _ _ _ _) (.sub (List.sublist_append_right _ _) .refl), .cons .refl (.cons .refl (.cons .refl .nil)), .cons rfl .nil⟩
        · show _ = (n + 1) * 3
          rw [stackV_len]
          simp
          omega
        · show cur'.take ((n + 1) * 3) = _
          rw [stackV_snoc (st0 ++ [(j, i + 1, w)])]
          exact q4
        · intro e he
          simp only [List.mem_append, List.mem_singleton] at he
          rcases he with (he | rfl) | rfl
          · exact hin e (by simp [he])
          · exact hj
          · exact hql
        · simp only
          rw [restAll_snoc, restAll_snoc, huh, ← htxt, hre]
          rw [show decide (0 < (i : Int)) = false from hz]
          simp
        · simp only
          rw [muAll_snoc, muAll_snoc]
          omega
        · simp only
          rw [muAll_snoc, muAll_snoc]
          omega
      · have hil : t.ns[j].kids.length ≤ i := by simp at hk; omega
        have hre := restE_end (deb := deb) hj (w := w) hil
        have hbl := behindB_len t.ns[j]
        refine LoadOb.mk _ (blk_rd (T := 82) (b := b6) (cs := t.ns[j].cells) (k := 0) (n := 9) (by simp) (Nat.le_of_ble_eq_true rfl)) ?_
        refine CallOb.mk [] (u.M g ++ [⟨b6, .cells t.ns[j].cells.toArray 82 (0, 0)⟩, ⟨gb, .cells cur.toArray 257 (0, 0)⟩]) _ (.refl _) (behind_spec hT2.c hT2.p hT2.s hdk2 hfs) ?_
        rintro v I5 M5 - ⟨rfl, rfl, rfl⟩
        refine CallOb.mk (u.M g) [⟨b6, .cells t.ns[j].cells.toArray 82 (0, 0)⟩, ⟨gb, .cells cur.toArray 257 (0, 0)⟩] _ (by simp) (WriteString_spec g hu _ (by show _ + (behindB t.ns[j]).length ≤ _; omega)) ?_
        rintro v I6 M6 - ⟨rfl, rfl, a, ha, hab, rfl⟩
        have hal2 : a.bs.length ≤ 2412 * t.ns.length + 2410 := by
          rw [hab, List.length_append]
          show _ + (behindB t.ns[j]).length ≤ _
          omega
        refine LoadOb.mk [.bool w] (blk_rd2 (b := gb) (cs := cur) (T := 257) (by simp [OS.blk]) at2) ?_
        refine CondOb.mk (fun hw => ?_) (fun hw => ?_)
        · subst hw
          refine CallOb.mk (a.M g) [⟨b6, .cells t.ns[j].cells.toArray 82 (0, 0)⟩, ⟨gb, .cells cur.toArray 257 (0, 0)⟩] _ (by simp) (WriteByte_spec g ha 41 (by omega)) ?_
          rintro v I8 M8 - ⟨rfl, rfl, c, hc, hcb, rfl⟩
          refine ArithOb.mk (((n - 1 : Nat)) : Int) hn1 ?_
          refine SliceOb.mk 0 (n - 1) rfl rfl (Nat.zero_le _) (by show n - 1 ≤ cp; omega) ?_
          refine CondOb.mk (fun hz => ?_) (fun hz => ?_)
          · have hz' : 0 < n - 1 := by simp at hz; omega
            refine ⟨(g, c, ⟨some gb, n - 1, cp, cur⟩, st0, _), hp _ ⟨hI3, hc, ⟨?_, (fun h => by cases h), fun g3 _ => ⟨hcl, by show n - 1 ≤ cp; omega, hcm, ?_⟩⟩, ?_, fun e he => hin e (by simp [he]), ?_, ?_⟩ ?_, .perm (M1 := [⟨b6, .cells t.ns[j].cells.toArray 82 (0, 0)⟩] ++ (⟨gb, .cells cur.toArray 257 (0, 0)⟩ :: c.M g)) (List.perm_append_comm (l₂ := [_, _])) (.sub (List.sublist_append_right _ _) .refl), .cons .refl (.cons .refl (.cons .refl .nil)), .cons rfl .nil⟩
            · exact hp0
            · show cur.take ((n - 1) * 3) = _
              rw [hcur, ← hp0]
              exact List.take_left' rfl
            · intro h
              simp only at h
              rw [h] at hsl
              simp at hsl
              omega
            · simp only
              rw [hcb, hab, huh, ← htxt, hre]
              simp [strOf]
            · simp only
              omega
            · simp only [muE]
              omega
          · have hz' : n - 1 = 0 := by simp at hz; omega
            have hst0 : st0 = [] := List.eq_nil_of_length_eq_zero (by omega)
            have hfin : c.bs = textOf deb t.ns t.root := by
              rw [hcb, hab, huh, ← htxt, hre, hst0]
              simp [restAll, strOf]
            refine CallOb.mk (c.M g) [⟨b6, .cells t.ns[j].cells.toArray 82 (0, 0)⟩, ⟨gb, .cells cur.toArray 257 (0, 0)⟩] _ (by simp) (BString_spec g hc (by rw [hfin]; omega)) ?_
            rintro v I7 M7 - ⟨rfl, rfl, rfl⟩
            refine ⟨_, _, .sub (List.nil_sublist _) .refl, ?_, hI3, rfl⟩
            rw [hfin]
            rfl
        · subst hw
          refine ArithOb.mk (((n - 1 : Nat)) : Int) hn1 ?_
          refine SliceOb.mk 0 (n - 1) rfl rfl (Nat.zero_le _) (by show n - 1 ≤ cp; omega) ?_
          refine CondOb.mk (fun hz => ?_) (fun hz => ?_)
          · have hz' : 0 < n - 1 := by simp at hz; omega
            refine ⟨(g, a, ⟨some gb, n - 1, cp, cur⟩, st0, _), hp _ ⟨hI3, ha, ⟨?_, (fun h => by cases h), fun g3 _ => ⟨hcl, by show n - 1 ≤ cp; omega, hcm, ?_⟩⟩, ?_, fun e he => hin e (by simp [he]), ?_, ?_⟩ ?_, .perm (M1 := [⟨b6, .cells t.ns[j].cells.toArray 82 (0, 0)⟩] ++ (⟨gb, .cells cur.toArray 257 (0, 0)⟩ :: a.M g)) (List.perm_append_comm (l₂ := [_, _])) (.sub (List.sublist_append_right _ _) .refl), .cons .refl (.cons .refl (.cons .refl .nil)), .cons rfl .nil⟩
            · exact hp0
            · show cur.take ((n - 1) * 3) = _
              rw [hcur, ← hp0]
              exact List.take_left' rfl
            · intro h
              simp only at h
              rw [h] at hsl
              simp at hsl
              omega
            · simp only
              rw [hab, huh, ← htxt, hre]
              simp [strOf]
            · simp only
              omega
            · simp only [muE]
              omega
          · have hz' : n - 1 = 0 := by simp at hz; omega
            have hst0 : st0 = [] := List.eq_nil_of_length_eq_zero (by omega)
            have hfin : a.bs = textOf deb t.ns t.root := by
              rw [hab, huh, ← htxt, hre, hst0]
              simp [restAll, strOf]
            refine CallOb.mk (a.M g) [⟨b6, .cells t.ns[j].cells.toArray 82 (0, 0)⟩, ⟨gb, .cells cur.toArray 257 (0, 0)⟩] _ (by simp) (BString_spec g ha (by rw [hfin]; omega)) ?_
            rintro v I7 M7 - ⟨rfl, rfl, rfl⟩
            refine ⟨_, _, .sub (List.nil_sublist _) .refl, ?_, hI3, rfl⟩
            rw [hfin]
            rfl
    · refine LoadOb.mk _ (blk_rd (T := 82) (b := b6) (cs := t.ns[j].cells) (k := 0) (n := 9) (.head _) (Nat.le_of_ble_eq_true rfl)) ?_
      refine CallOb.mk [] (⟨b6, .cells t.ns[j].cells.toArray 82 (0, 0)⟩ :: ⟨gb, .cells cur.toArray 257 (0, 0)⟩ :: x.M g) _ (.refl _) (ahead_spec hT1.d hT1.s hdk hfs) ?_
      rintro v I2 M2 - ⟨rfl, hI2, rfl⟩
      have hI3 : ∀ b o, I0 b = some o → I2 b = some o := fun b o h => hI2 _ _ (hle _ _ h)
      have hal := aheadB_len deb hfs
      refine CallOb.mk (x.M g) [⟨b6, .cells t.ns[j].cells.toArray 82 (0, 0)⟩, ⟨gb, .cells cur.toArray 257 (0, 0)⟩] _ (List.perm_append_comm (l₁ := [_, _])) (WriteString_spec g hxok _ (by show _ + (aheadB deb t.ns[j]).length ≤ _; omega)) ?_
      rintro v I3 M3 - ⟨rfl, rfl, u, hu, hub, rfl⟩
      have huh : u.bs = x.bs ++ headE deb t.ns (j, i, w) := by
        rw [hub]
        simp only [headE, h1, h2, nodeAt_eq hj, cond_true, cond_false]
        simp [strOf]
      have hul : u.bs.length ≤ 2412 * t.ns.length + 2401 := by
        rw [huh, List.length_append]
        simp only [headE, h1, h2, nodeAt_eq hj, cond_true, cond_false, List.length_append, List.length_cons, List.length_nil]
        omega
      have hT2 := hT.mono hI3
      have ht2 := ht.mono hI3
      have hdk2 := ht2.ns t.ns[j] (List.getElem_mem hj)
      have hrd6 : ∀ {k m : Nat}, k + m ≤ 9 → Rd I3 (u.M g ++ [⟨b6, .cells t.ns[j].cells.toArray 82 (0, 0)⟩, ⟨gb, .cells cur.toArray 257 (0, 0)⟩]) ((⟨b6, 0, none⟩ : Addr).add k) m ((t.ns[j].cells.drop k).take m) := fun h => blk_rd (T := 82) (by simp) h
      refine CodeOb.draw TryzEOK rfl rfl rfl ?_
      refine LoadOb.mk [.int .i64 i] (blk_rd2 (b := gb) (cs := cur) (T := 257) (by simp [OS.blk]) at1) ?_
      refine LoadOb.mk _ (hrd6 (by decide)) ?_
      refine CondOb.mk (fun hk => ?_) (fun hk => ?_)
      · have hil : i < t.ns[j].kn := by simpa using hk
        have hil' : i < t.ns[j].kids.length := by omega
        obtain ⟨ak, hak, hrk⟩ := hdk2.rs.one hil hil'
        have hkk := right_kids hr j hj _ (List.getElem_mem hil')
        obtain ⟨q, hq0⟩ := Int.eq_ofNat_of_zero_le hkk.1
        have hql : q < t.ns.length := by omega
        have hql' : q < t.n := by omega
        obtain ⟨aq, haq, hrq0⟩ := ht2.rs.row Nd.cells_len hql' hql
        have hrq : ∀ M, Rd I3 M ((aq.add (q * 9)).add 0) 1 [.int .u8 t.ns[q].k] := fun M => (hrq0 M).part (k := 0) (m := 1) (by decide)
        have hkat : kindAt t.ns ((q : Nat) : Int) = t.ns[q].k := by simp [kindAt, List.getD_eq_getElem?_getD, hql]
        have hre := restE_kid (deb := deb) hr hj (w := w) hil'
        have hme := muE_kid hr hj (w := w) (w' := wrapsV t.ns[j].k t.ns[q].k) hil'
        rw [hq0] at hre hme
        simp only [Int.ofNat_eq_natCast, Int.toNat_natCast] at hre hme
        rw [hkat] at hre
        have hwr : IntKind.i64.wrap ((i : Int) + 1) = ((i + 1 : Nat) : Int) := by
          have := hdk2.rs.cap
          rw [wrap_i64 ⟨by omega, by omega⟩]
          omega
        have hsp : splice cur ((n - 1) * 3 + 1) [.int .i64 ((i + 1 : Nat) : Int)] = stackV st0 ++ ([.int .i64 j, .int .i64 ((i + 1 : Nat) : Int), .bool w] ++ rest) := by
          rw [hcur, ← hp0]
          exact splice_mid _ _ _ _ _ _
        have hos' : OS.ok ⟨some gb, n, cp, splice cur ((n - 1) * 3 + 1) [.int .i64 ((i + 1 : Nat) : Int)]⟩ 3 (stackV (st0 ++ [(j, i + 1, w)])) := by
          rw [hsp, stackV_snoc]
          refine ⟨by simp only [List.length_append, List.length_cons, List.length_nil]; omega, (fun h => by cases h), fun g3 _ => ⟨?_, hnc, hcm, ?_⟩⟩
          · simp only
            rw [← hcl, hcur]
            simp
          · simp only
            rw [← List.append_assoc]
            refine List.take_left' ?_
            simp only [List.length_append, List.length_cons, List.length_nil]
            omega
        refine LoadOb.mk [.int .i64 i] (blk_rd2 (b := gb) (cs := cur) (T := 257) (by simp [OS.blk]) at1) ?_
        refine CondOb.mk (fun hz => by simp at h1 hz; omega) (fun hz => ?_)
        refine CodeOb.draw TryzEOK rfl rfl rfl ?_
        refine LoadOb.mk _ (blk_rd (T := 82) (b := b6) (cs := t.ns[j].cells) (k := 8) (n := 1) (by simp) (Nat.le_of_ble_eq_true rfl)) ?_
        refine LoadOb.mk [.int .i64 i] (blk_rd2 (b := gb) (cs := cur) (T := 257) (by simp [OS.blk]) at1) ?_
        refine IdxOb.mk ak i hak rfl hil ?_
        refine LoadOb.mk [.int .i64 (q : Nat)] (by have h9 := hrk; rw [hq0] at h9; exact h9 _) ?_
        refine LoadOb.mk [.int .i64 i] (blk_rd2 (b := gb) (cs := cur) (T := 257) (by simp [OS.blk]) at1) ?_
        refine ArithOb.mk ((i + 1 : Nat) : Int) hwr ?_
        refine StoreOb.add2 (u.M g ++ [⟨b6, .cells t.ns[j].cells.toArray 82 (0, 0)⟩]) [] cur.toArray 257 (by simp [OS.blk]) ?_ rfl ?_
        · simp only [List.size_toArray]
          show (n - 1) * 3 + 1 + 1 ≤ _
          omega
        refine CodeOb.draw TryzEOK rfl rfl rfl ?_
        refine LoadOb.mk [.int .u8 t.ns[j].k] (blk_rd (T := 82) (b := b6) (cs := t.ns[j].cells) (k := 0) (n := 1) (by simp) (Nat.le_of_ble_eq_true rfl)) ?_
        refine IdxOb.mk aq q haq rfl hql' ?_
        refine LoadOb.mk [.int .u8 t.ns[q].k] (hrq _) ?_
        refine PCallOb.mk _ (wraps_spec t.ns[j].k t.ns[q].k) ?_
        rintro v I5 M5 - ⟨rfl, rfl, rfl⟩
        refine AllocOb.mk fun b9 hb9 hbM9 => ?_
        refine OtherOb.append TryzEOK rfl (by simp) (e := 257) rfl rfl rfl ⟨some gb, n, cp, splice cur ((n - 1) * 3 + 1) [.int .i64 ((i + 1 : Nat) : Int)]⟩ (xs := stackV (st0 ++ [(j, i + 1, w)])) hos' rfl (m := 1) rfl (news := openC (q, 0, wrapsV t.ns[j].k t.ns[q].k)) (by decide) (blk_rd (b := b9) (cs := openC (q, 0, wrapsV t.ns[j].k t.ns[q].k)) (k := 0) (n := 3) (T := 257) (.head _) (Nat.le_of_ble_eq_true rfl)) rfl (Mr := ⟨b9, .cells (openC (q, 0, wrapsV t.ns[j].k t.ns[q].k)).toArray 257 (0, 0)⟩ :: (u.M g ++ [⟨b6, .cells t.ns[j].cells.toArray 82 (0, 0)⟩])) (by exact List.perm_append_comm (l₁ := (⟨b9, .cells (openC (q, 0, wrapsV t.ns[j].k t.ns[q].k)).toArray 257 (0, 0)⟩ : Blk) :: (u.M g ++ [⟨b6, .cells t.ns[j].cells.toArray 82 (0, 0)⟩])) (l₂ := [⟨gb, .cells (splice cur ((n - 1) * 3 + 1) [.int .i64 ((i + 1 : Nat) : Int)]).toArray 257 (0, 0)⟩])) (by show n + 1 ≤ _; simp only [maxLen]; omega) (by show (n + 1) * 24 ≤ _; omega) ?_
        intro g' c' cur' q1 q2 q3 q4
        refine ⟨(g, u, ⟨some g', n + 1, c', cur'⟩, st0 ++ [(j, i + 1, w)] ++ [(q, 0, wrapsV t.ns[j].k t.ns[q].k)], _), hp _ ⟨hI3, hu, ⟨?_, (fun h => by cases h), fun g3 _ => ⟨q1, q2, q3, ?_⟩⟩, by simp, ?_, ?_, ?_⟩ ?_, .perm (M1 := [⟨b9, .cells (openC (q, 0, wrapsV t.ns[j].k t.ns[q].k)).toArray 257 (0, 0)⟩, ⟨b6, .cells t.ns[j].cells.toArray 82 (0, 0)⟩] ++ (⟨g', .cells cur'.toArray 257 (0, 0)⟩ :: u.M g)) (perm1 _ _ _ _) (.sub (List.sublist_append_right _ _) .refl), .cons .refl (.cons .refl (.cons .refl .nil)), .cons rfl .nil⟩
        · show _ = (n + 1) * 3
          rw [stackV_len]
          simp
          omega
        · show cur'.take ((n + 1) * 3) = _
          rw [stackV_snoc (st0 ++ [(j, i + 1, w)])]
          exact q4
        · intro e he
          simp only [List.mem_append, List.mem_singleton] at he
          rcases he with (he | rfl) | rfl
          · exact hin e (by simp [he])
          · exact hj
          · exact hql
        · simp only
          rw [restAll_snoc, restAll_snoc, huh, ← htxt, hre]
          rw [show decide (0 < (i : Int)) = false from hz]
          simp
        · simp only
          rw [muAll_snoc, muAll_snoc]
          omega
        · simp only
          rw [muAll_snoc, muAll_snoc]
          omega
      · have hil : t.ns[j].kids.length ≤ i := by simp at hk; omega
        have hre := restE_end (deb := deb) hj (w := w) hil
        have hbl := behindB_len t.ns[j]
        refine LoadOb.mk _ (blk_rd (T := 82) (b := b6) (cs := t.ns[j].cells) (k := 0) (n := 9) (by simp) (Nat.le_of_ble_eq_true rfl)) ?_
        refine CallOb.mk [] (u.M g ++ [⟨b6, .cells t.ns[j].cells.toArray 82 (0, 0)⟩, ⟨gb, .cells cur.toArray 257 (0, 0)⟩]) _ (.refl _) (behind_spec hT2.c hT2.p hT2.s hdk2 hfs) ?_
        rintro v I5 M5 - ⟨rfl, rfl, rfl⟩
        refine CallOb.mk (u.M g) [⟨b6, .cells t.ns[j].cells.toArray 82 (0, 0)⟩, ⟨gb, .cells cur.toArray 257 (0, 0)⟩] _ (by simp) (WriteString_spec g hu _ (by show _ + (behindB t.ns[j]).length ≤ _; omega)) ?_
        rintro v I6 M6 - ⟨rfl, rfl, a, ha, hab, rfl⟩
        have hal2 : a.bs.length ≤ 2412 * t.ns.length + 2410 := by
          rw [hab, List.length_append]
          show _ + (behindB t.ns[j]).length ≤ _
          omega
        refine LoadOb.mk [.bool w] (blk_rd2 (b := gb) (cs := cur) (T := 257) (by simp [OS.blk]) at2) ?_
        refine CondOb.mk (fun hw => ?_) (fun hw => ?_)
        · subst hw
          refine CallOb.mk (a.M g) [⟨b6, .cells t.ns[j].cells.toArray 82 (0, 0)⟩, ⟨gb, .cells cur.toArray 257 (0, 0)⟩] _ (by simp) (WriteByte_spec g ha 41 (by omega)) ?_
          rintro v I8 M8 - ⟨rfl, rfl, c, hc, hcb, rfl⟩
          refine ArithOb.mk (((n - 1 : Nat)) : Int) hn1 ?_
          refine SliceOb.mk 0 (n - 1) rfl rfl (Nat.zero_le _) (by show n - 1 ≤ cp; omega) ?_
          refine CondOb.mk (fun hz => ?_) (fun hz => ?_)
          · have hz' : 0 < n - 1 := by simp at hz; omega
            refine ⟨(g, c, ⟨some gb, n - 1, cp, cur⟩, st0, _), hp _ ⟨hI3, hc, ⟨?_, (fun h => by cases h), fun g3 _ => ⟨hcl, by show n - 1 ≤ cp; omega, hcm, ?_⟩⟩, ?_, fun e he => hin e (by simp [he]), ?_, ?_⟩ ?_, .perm (M1 := [⟨b6, .cells t.ns[j].cells.toArray 82 (0, 0)⟩] ++ (⟨gb, .cells cur.toArray 257 (0, 0)⟩ :: c.M g)) (List.perm_append_comm (l₂ := [_, _])) (.sub (List.sublist_append_right _ _) .refl), .cons .refl (.cons .refl (.cons .refl .nil)), .cons rfl .nil⟩
            · exact hp0
            · show cur.take ((n - 1) * 3) = _
              rw [hcur, ← hp0]
              exact List.take_left' rfl
            · intro h
              simp only at h
              rw [h] at hsl
              simp at hsl
              omega
            · simp only
              rw [hcb, hab, huh, ← htxt, hre]
              simp [strOf]
            · simp only
              omega
            · simp only [muE]
              omega
          · have hz' : n - 1 = 0 := by simp at hz; omega
            have hst0 : st0 = [] := List.eq_nil_of_length_eq_zero (by omega)
            have hfin : c.bs = textOf deb t.ns t.root := by
              rw [hcb, hab, huh, ← htxt, hre, hst0]
              simp [restAll, strOf]
            refine CallOb.mk (c.M g) [⟨b6, .cells t.ns[j].cells.toArray 82 (0, 0)⟩, ⟨gb, .cells cur.toArray 257 (0, 0)⟩] _ (by simp) (BString_spec g hc (by rw [hfin]; omega)) ?_
            rintro v I7 M7 - ⟨rfl, rfl, rfl⟩
            refine ⟨_, _, .sub (List.nil_sublist _) .refl, ?_, hI3, rfl⟩
            rw [hfin]
            rfl
        · subst hw
          refine ArithOb.mk (((n - 1 : Nat)) : Int) hn1 ?_
          refine SliceOb.mk 0 (n - 1) rfl rfl (Nat.zero_le _) (by show n - 1 ≤ cp; omega) ?_
          refine CondOb.mk (fun hz => ?_) (fun hz => ?_)
          · have hz' : 0 < n - 1 := by simp at hz; omega
            refine ⟨(g, a, ⟨some gb, n - 1, cp, cur⟩, st0, _), hp _ ⟨hI3, ha, ⟨?_, (fun h => by cases h), fun g3 _ => ⟨hcl, by show n - 1 ≤ cp; omega, hcm, ?_⟩⟩, ?_, fun e he => hin e (by simp [he]), ?_, ?_⟩ ?_, .perm (M1 := [⟨b6, .cells t.ns[j].cells.toArray 82 (0, 0)⟩] ++ (⟨gb, .cells cur.toArray 257 (0, 0)⟩ :: a.M g)) (List.perm_append_comm (l₂ := [_, _])) (.sub (List.sublist_append_right _ _) .refl), .cons .refl (.cons .refl (.cons .refl .nil)), .cons rfl .nil⟩
            · exact hp0
            · show cur.take ((n - 1) * 3) = _
              rw [hcur, ← hp0]
              exact List.take_left' rfl
            · intro h
              simp only at h
              rw [h] at hsl
              simp at hsl
              omega
            · simp only
              rw [hab, huh, ← htxt, hre]
              simp [strOf]
            · simp only
              omega
            · simp only [muE]
              omega
          · have hz' : n - 1 = 0 := by simp at hz; omega
            have hst0 : st0 = [] := List.eq_nil_of_length_eq_zero (by omega)
            have hfin : a.bs = textOf deb t.ns t.root := by
              rw [hab, huh, ← htxt, hre, hst0]
              simp [restAll, strOf]
            refine CallOb.mk (a.M g) [⟨b6, .cells t.ns[j].cells.toArray 82 (0, 0)⟩, ⟨gb, .cells cur.toArray 257 (0, 0)⟩] _ (by simp) (BString_spec g ha (by rw [hfin]; omega)) ?_
            rintro v I7 M7 - ⟨rfl, rfl, rfl⟩
            refine ⟨_, _, .sub (List.nil_sublist _) .refl, ?_, hI3, rfl⟩
            rw [hfin]
            rfl
  · have hxh : x.bs = x.bs ++ headE deb t.ns (j, i, w) := by
      simp only [headE, h1, cond_false, List.append_nil]
    have hT2 := hT.mono hle
    have ht2 := ht.mono hle
    have hdk2 := ht2.ns t.ns[j] (List.getElem_mem hj)
    have hrd6 : ∀ {k m : Nat}, k + m ≤ 9 → Rd I1 (⟨b6, .cells t.ns[j].cells.toArray 82 (0, 0)⟩ :: ⟨gb, .cells cur.toArray 257 (0, 0)⟩ :: x.M g) ((⟨b6, 0, none⟩ : Addr).add k) m ((t.ns[j].cells.drop k).take m) := fun h => blk_rd (T := 82) (by simp) h
    refine CodeOb.draw TryzEOK rfl rfl rfl ?_
    refine LoadOb.mk [.int .i64 i] (blk_rd2 (b := gb) (cs := cur) (T := 257) (by simp [OS.blk]) at1) ?_
    refine LoadOb.mk _ (hrd6 (by decide)) ?_
    refine CondOb.mk (fun hk => ?_) (fun hk => ?_)
    · have hil : i < t.ns[j].kn := by simpa using hk
      have hil' : i < t.ns[j].kids.length := by omega
      obtain ⟨ak, hak, hrk⟩ := hdk2.rs.one hil hil'
      have hkk := right_kids hr j hj _ (List.getElem_mem hil')
      obtain ⟨q, hq0⟩ := Int.eq_ofNat_of_zero_le hkk.1
      have hql : q < t.ns.length := by omega
      have hql' : q < t.n := by omega
      obtain ⟨aq, haq, hrq0⟩ := ht2.rs.row Nd.cells_len hql' hql
      have hrq : ∀ M, Rd I1 M ((aq.add (q * 9)).add 0) 1 [.int .u8 t.ns[q].k] := fun M => (hrq0 M).part (k := 0) (m := 1) (by decide)
      have hkat : kindAt t.ns ((q : Nat) : Int) = t.ns[q].k := by simp [kindAt, List.getD_eq_getElem?_getD, hql]
      have hre := restE_kid (deb := deb) hr hj (w := w) hil'
      have hme := muE_kid hr hj (w := w) (w' := wrapsV t.ns[j].k t.ns[q].k) hil'
      rw [hq0] at hre hme
      simp only [Int.ofNat_eq_natCast, Int.toNat_natCast] at hre hme
      rw [hkat] at hre
      have hwr : IntKind.i64.wrap ((i : Int) + 1) = ((i + 1 : Nat) : Int) := by
        have := hdk2.rs.cap
        rw [wrap_i64 ⟨by omega, by omega⟩]
        omega
      have hsp : splice cur ((n - 1) * 3 + 1) [.int .i64 ((i + 1 : Nat) : Int)] = stackV st0 ++ ([.int .i64 j, .int .i64 ((i + 1 : Nat) : Int), .bool w] ++ rest) := by
        rw [hcur, ← hp0]
        exact splice_mid _ _ _ _ _ _
      have hos' : OS.ok ⟨some gb, n, cp, splice cur ((n - 1) * 3 + 1) [.int .i64 ((i + 1 : Nat) : Int)]⟩ 3 (stackV (st0 ++ [(j, i + 1, w)])) := by
        rw [hsp, stackV_snoc]
        refine ⟨by simp only [List.length_append, List.length_cons, List.length_nil]; omega, (fun h => by cases h), fun g3 _ => ⟨?_, hnc, hcm, ?_⟩⟩
        · simp only
          rw [← hcl, hcur]
          simp
        · simp only
          rw [← List.append_assoc]
          refine List.take_left' ?_
          simp only [List.length_append, List.length_cons, List.length_nil]
          omega
      refine LoadOb.mk [.int .i64 i] (blk_rd2 (b := gb) (cs := cur) (T := 257) (by simp [OS.blk]) at1) ?_
      refine CondOb.mk (fun hz => ?_) (fun hz => by simp at h1 hz; omega)
      refine LoadOb.mk [.int .u8 t.ns[j].k] (blk_rd (T := 82) (b := b6) (cs := t.ns[j].cells) (k := 0) (n := 1) (.head _) (Nat.le_of_ble_eq_true rfl)) ?_
      refine ArrOb.mk t.ns[j].k.toNat (by have := hdk2.k; omega) (by have := hfs.k; have := hdk2.k; omega) ?_
      refine LoadOb.mk _ (hT2.s.rd _ (by have := hfs.k; have := hdk2.k; show t.ns[j].k.toNat * 3 + 1 < 30; omega)) ?_
      refine CallOb.mk (x.M g) [⟨b6, .cells t.ns[j].cells.toArray 82 (0, 0)⟩, ⟨gb, .cells cur.toArray 257 (0, 0)⟩] _ (List.perm_append_comm (l₁ := [_, _])) (WriteString_spec g hxok _ (by have := sgn_len (t.ns[j].k.toNat * 3 + 1); show _ + (sgn (t.ns[j].k.toNat * 3 + 1)).length ≤ _; omega)) ?_
      rintro v I4 M4 - ⟨rfl, rfl, z, hz1, hzb0, rfl⟩
      have hzb : z.bs = x.bs ++ sepOf t.ns[j] := hzb0
      refine CodeOb.draw TryzEOK rfl rfl rfl ?_
      refine LoadOb.mk _ (blk_rd (T := 82) (b := b6) (cs := t.ns[j].cells) (k := 8) (n := 1) (by simp) (Nat.le_of_ble_eq_true rfl)) ?_
      refine LoadOb.mk [.int .i64 i] (blk_rd2 (b := gb) (cs := cur) (T := 257) (by simp [OS.blk]) at1) ?_
      refine IdxOb.mk ak i hak rfl hil ?_
      refine LoadOb.mk [.int .i64 (q : Nat)] (by have h9 := hrk; rw [hq0] at h9; exact h9 _) ?_
      refine LoadOb.mk [.int .i64 i] (blk_rd2 (b := gb) (cs := cur) (T := 257) (by simp [OS.blk]) at1) ?_
      refine ArithOb.mk ((i + 1 : Nat) : Int) hwr ?_
      refine StoreOb.add2 (z.M g ++ [⟨b6, .cells t.ns[j].cells.toArray 82 (0, 0)⟩]) [] cur.toArray 257 (by simp [OS.blk]) ?_ rfl ?_
      · simp only [List.size_toArray]
        show (n - 1) * 3 + 1 + 1 ≤ _
        omega
      refine CodeOb.draw TryzEOK rfl rfl rfl ?_
      refine LoadOb.mk [.int .u8 t.ns[j].k] (blk_rd (T := 82) (b := b6) (cs := t.ns[j].cells) (k := 0) (n := 1) (by simp) (Nat.le_of_ble_eq_true rfl)) ?_
      refine IdxOb.mk aq q haq rfl hql' ?_
      refine LoadOb.mk [.int .u8 t.ns[q].k] (hrq _) ?_
      refine PCallOb.mk _ (wraps_spec t.ns[j].k t.ns[q].k) ?_
      rintro v I5 M5 - ⟨rfl, rfl, rfl⟩
      refine AllocOb.mk fun b9 hb9 hbM9 => ?_
      refine OtherOb.append TryzEOK rfl (by simp) (e := 257) rfl rfl rfl ⟨some gb, n, cp, splice cur ((n - 1) * 3 + 1) [.int .i64 ((i + 1 : Nat) : Int)]⟩ (xs := stackV (st0 ++ [(j, i + 1, w)])) hos' rfl (m := 1) rfl (news := openC (q, 0, wrapsV t.ns[j].k t.ns[q].k)) (by decide) (blk_rd (b := b9) (cs := openC (q, 0, wrapsV t.ns[j].k t.ns[q].k)) (k := 0) (n := 3) (T := 257) (.head _) (Nat.le_of_ble_eq_true rfl)) rfl (Mr := ⟨b9, .cells (openC (q, 0, wrapsV t.ns[j].k t.ns[q].k)).toArray 257 (0, 0)⟩ :: (z.M g ++ [⟨b6, .cells t.ns[j].cells.toArray 82 (0, 0)⟩])) (by exact List.perm_append_comm (l₁ := (⟨b9, .cells (openC (q, 0, wrapsV t.ns[j].k t.ns[q].k)).toArray 257 (0, 0)⟩ : Blk) :: (z.M g ++ [⟨b6, .cells t.ns[j].cells.toArray 82 (0, 0)⟩])) (l₂ := [⟨gb, .cells (splice cur ((n - 1) * 3 + 1) [.int .i64 ((i + 1 : Nat) : Int)]).toArray 257 (0, 0)⟩])) (by show n + 1 ≤ _; simp only [maxLen]; omega) (by show (n + 1) * 24 ≤ _; omega) ?_
      intro g' c' cur' q1 q2 q3 q4
      refine ⟨(g, z, ⟨some g', n + 1, c', cur'⟩, st0 ++ [(j, i + 1, w)] ++ [(q, 0, wrapsV t.ns[j].k t.ns[q].k)], _), hp _ ⟨hle, hz1, ⟨?_, (fun h => by cases h), fun g3 _ => ⟨q1, q2, q3, ?_⟩⟩, by simp, ?_, ?_, ?_⟩ ?_, .perm (M1 := [⟨b9, .cells (openC (q, 0, wrapsV t.ns[j].k t.ns[q].k)).toArray 257 (0, 0)⟩, ⟨b6, .cells t.ns[j].cells.toArray 82 (0, 0)⟩] ++ (⟨g', .cells cur'.toArray 257 (0, 0)⟩ :: z.M g)) (perm1 _ _ _ _) (.sub (List.sublist_append_right _ _) .refl), .cons .refl (.cons .refl (.cons .refl .nil)), .cons rfl .nil⟩
      · show _ = (n + 1) * 3
        rw [stackV_len]
        simp
        omega
      · show cur'.take ((n + 1) * 3) = _
        rw [stackV_snoc (st0 ++ [(j, i + 1, w)])]
        exact q4
      · intro e he
        simp only [List.mem_append, List.mem_singleton] at he
        rcases he with (he | rfl) | rfl
        · exact hin e (by simp [he])
        · exact hj
        · exact hql
      · simp only
        rw [restAll_snoc, restAll_snoc, hzb, ← htxt, hre]
        rw [show decide (0 < (i : Int)) = true from hz, show headE deb t.ns (j, i, w) = [] from by simp only [headE, h1, cond_false]]
        simp
      · simp only
        rw [muAll_snoc, muAll_snoc]
        omega
      · simp only
        rw [muAll_snoc, muAll_snoc]
        omega
    · have hil : t.ns[j].kids.length ≤ i := by simp at hk; omega
      have hre0 := restE_end (deb := deb) hj (w := w) hil
      have hre : restE deb t.ns (j, i, w) = behindB t.ns[j] ++ (bif w then [41] else []) := by rw [hre0]; simp only [headE, h1, cond_false, List.nil_append]
      have hbl := behindB_len t.ns[j]
      refine LoadOb.mk _ (blk_rd (T := 82) (b := b6) (cs := t.ns[j].cells) (k := 0) (n := 9) (.head _) (Nat.le_of_ble_eq_true rfl)) ?_
      refine CallOb.mk [] (⟨b6, .cells t.ns[j].cells.toArray 82 (0, 0)⟩ :: ⟨gb, .cells cur.toArray 257 (0, 0)⟩ :: x.M g) _ (.refl _) (behind_spec hT2.c hT2.p hT2.s hdk2 hfs) ?_
      rintro v I5 M5 - ⟨rfl, rfl, rfl⟩
      refine CallOb.mk (x.M g) [⟨b6, .cells t.ns[j].cells.toArray 82 (0, 0)⟩, ⟨gb, .cells cur.toArray 257 (0, 0)⟩] _ (List.perm_append_comm (l₁ := [_, _])) (WriteString_spec g hxok _ (by show _ + (behindB t.ns[j]).length ≤ _; omega)) ?_
      rintro v I6 M6 - ⟨rfl, rfl, a, ha, hab, rfl⟩
      have hal2 : a.bs.length ≤ 2412 * t.ns.length + 2410 := by
        rw [hab, List.length_append]
        show _ + (behindB t.ns[j]).length ≤ _
        omega
      refine LoadOb.mk [.bool w] (blk_rd2 (b := gb) (cs := cur) (T := 257) (by simp [OS.blk]) at2) ?_
      refine CondOb.mk (fun hw => ?_) (fun hw => ?_)
      · subst hw
        refine CallOb.mk (a.M g) [⟨b6, .cells t.ns[j].cells.toArray 82 (0, 0)⟩, ⟨gb, .cells cur.toArray 257 (0, 0)⟩] _ (by simp) (WriteByte_spec g ha 41 (by omega)) ?_
        rintro v I8 M8 - ⟨rfl, rfl, c, hc, hcb, rfl⟩
        refine ArithOb.mk (((n - 1 : Nat)) : Int) hn1 ?_
        refine SliceOb.mk 0 (n - 1) rfl rfl (Nat.zero_le _) (by show n - 1 ≤ cp; omega) ?_
        refine CondOb.mk (fun hz => ?_) (fun hz => ?_)
        · have hz' : 0 < n - 1 := by simp at hz; omega
          refine ⟨(g, c, ⟨some gb, n - 1, cp, cur⟩, st0, _), hp _ ⟨hle, hc, ⟨?_, (fun h => by cases h), fun g3 _ => ⟨hcl, by show n - 1 ≤ cp; omega, hcm, ?_⟩⟩, ?_, fun e he => hin e (by simp [he]), ?_, ?_⟩ ?_, .perm (M1 := [⟨b6, .cells t.ns[j].cells.toArray 82 (0, 0)⟩] ++ (⟨gb, .cells cur.toArray 257 (0, 0)⟩ :: c.M g)) (List.perm_append_comm (l₂ := [_, _])) (.sub (List.sublist_append_right _ _) .refl), .cons .refl (.cons .refl (.cons .refl .nil)), .cons rfl .nil⟩
          · exact hp0
          · show cur.take ((n - 1) * 3) = _
            rw [hcur, ← hp0]
            exact List.take_left' rfl
          · intro h
            simp only at h
            rw [h] at hsl
            simp at hsl
            omega
          · simp only
            rw [hcb, hab, ← htxt, hre]
            simp [strOf]
          · simp only
            omega
          · simp only [muE]
            omega
        · have hz' : n - 1 = 0 := by simp at hz; omega
          have hst0 : st0 = [] := List.eq_nil_of_length_eq_zero (by omega)
          have hfin : c.bs = textOf deb t.ns t.root := by
            rw [hcb, hab, ← htxt, hre, hst0]
            simp [restAll, strOf]
          refine CallOb.mk (c.M g) [⟨b6, .cells t.ns[j].cells.toArray 82 (0, 0)⟩, ⟨gb, .cells cur.toArray 257 (0, 0)⟩] _ (by simp) (BString_spec g hc (by rw [hfin]; omega)) ?_
          rintro v I7 M7 - ⟨rfl, rfl, rfl⟩
          refine ⟨_, _, .sub (List.nil_sublist _) .refl, ?_, hle, rfl⟩
          rw [hfin]
          rfl
      · subst hw
        refine ArithOb.mk (((n - 1 : Nat)) : Int) hn1 ?_
        refine SliceOb.mk 0 (n - 1) rfl rfl (Nat.zero_le _) (by show n - 1 ≤ cp; omega) ?_
        refine CondOb.mk (fun hz => ?_) (fun hz => ?_)
        · have hz' : 0 < n - 1 := by simp at hz; omega
          refine ⟨(g, a, ⟨some gb, n - 1, cp, cur⟩, st0, _), hp _ ⟨hle, ha, ⟨?_, (fun h => by cases h), fun g3 _ => ⟨hcl, by show n - 1 ≤ cp; omega, hcm, ?_⟩⟩, ?_, fun e he => hin e (by simp [he]), ?_, ?_⟩ ?_, .perm (M1 := [⟨b6, .cells t.ns[j].cells.toArray 82 (0, 0)⟩] ++ (⟨gb, .cells cur.toArray 257 (0, 0)⟩ :: a.M g)) (List.perm_append_comm (l₂ := [_, _])) (.sub (List.sublist_append_right _ _) .refl), .cons .refl (.cons .refl (.cons .refl .nil)), .cons rfl .nil⟩
          · exact hp0
          · show cur.take ((n - 1) * 3) = _
            rw [hcur, ← hp0]
            exact List.take_left' rfl
          · intro h
            simp only at h
            rw [h] at hsl
            simp at hsl
            omega
          · simp only
            rw [hab, ← htxt, hre]
            simp [strOf]
          · simp only
            omega
          · simp only [muE]
            omega
        · have hz' : n - 1 = 0 := by simp at hz; omega
          have hst0 : st0 = [] := List.eq_nil_of_length_eq_zero (by omega)
          have hfin : a.bs = textOf deb t.ns t.root := by
            rw [hab, ← htxt, hre, hst0]
            simp [restAll, strOf]
          refine CallOb.mk (a.M g) [⟨b6, .cells t.ns[j].cells.toArray 82 (0, 0)⟩, ⟨gb, .cells cur.toArray 257 (0, 0)⟩] _ (by simp) (BString_spec g ha (by rw [hfin]; omega)) ?_
          rintro v I7 M7 - ⟨rfl, rfl, rfl⟩
          refine ⟨_, _, .sub (List.nil_sublist _) .refl, ?_, hle, rfl⟩
          rw [hfin]
          rfl
end Go.V

/-
  Walks: print.Tree (whole), print.Def, print.Grammar, print.Size.
-/
set_option linter.unusedVariables false
set_option linter.unusedSimpArgs false
namespace Go.V
open Go Go.Proofs

theorem V_frame {X : Ctx} {c : Code} {F : Fr} {C : Bx} {I : GH} {M : List Blk} {K : KX} {t1 t2 t3 : Nat} {a b d : SV} {e : Option (List Value)} (h : ∀ G GC, V X c (upd (upd (upd G t3 d) t2 b) t1 a) (updB GC t1 e) I M K)
    (h1 : F t1 = a) (h2 : F t2 = b) (h3 : F t3 = d) (h4 : C t1 = e) : V X c F C I M K := by
  have := h F C
  rwa [upd_self h3, upd_self h2, upd_self h1, updB_self h4] at this

theorem Tree_spec {I : GH} {deb : List Int} (hT : Tabs I deb) {t : Tr} (ht : t.ok I) (hn : t.n ≤ 1024) : Spec Tryz.prog 202 [t.val] I [] fun r I' M' => r = .string (strOf (treeB deb t)) ∧ (∀ b o, I b = some o → I' b = some o) ∧ M' = [] := by
  refine spec_of_V [3] TryzEOK Tryz.func202 rfl rfl rfl ?_
  intro B h0
  have hnl := ht.n
  cases hr : right t with
  | true =>
    have htb : treeB deb t = textOf deb t.ns t.root := by simp [treeB, hr]
    rw [htb]
    have hroot := right_root hr
    obtain ⟨r, hr0⟩ := Int.eq_ofNat_of_zero_le hroot.1
    have hrl : r < t.ns.length := by omega
    obtain ⟨ns, ta, tn, tc, root⟩ := t
    simp only at hr0
    subst hr0
    have hr0 : (⟨ns, ta, tn, tc, Int.ofNat r⟩ : Tr).root = Int.ofNat r := rfl
    refine CodeOb.scope TryzEOK rfl (fun y : Nat × TreeI => treeLP ⟨ns, ta, tn, tc, Int.ofNat r⟩ y.1 y.2) (fun _ => 0) (fun y => TreeInv I deb ⟨ns, ta, tn, tc, Int.ofNat r⟩ y.2) (fun y => muAll ns y.2.2.2.1) (fun _ => labelIn (scopeIn (Tryz.f202.body.getD .skip)) 0) (fun _ _ => ⟨by kernel_rfl, by kernel_rfl⟩) ?_ ?_
    · refine CallOb.mk [] [] _ (.refl _) (Right_spec hT.c ht) ?_
      rintro v I' M' - ⟨rfl, rfl, rfl⟩
      rw [hr]
      refine CondOb.mk (fun h => by cases h) (fun _ => ?_)
      refine AllocOb.mk fun g hg hgM => ?_
      refine AllocOb.mk fun g4 hg4 hgM4 => ?_
      refine V_frame (t1 := 1) (t2 := 3) (t3 := 4) (fun G GC => Tree_pass hT ht hr hn (p := fun l y => TreeInv _ deb ⟨ns, ta, tn, tc, Int.ofNat r⟩ y.2 ∧ 0 = l) (g := g) (Bd.new, ⟨some g4, 1, 1, openC (r, 0, false)⟩, [(r, 0, false)], I') ?_ (fun y hy _ => ⟨hy, rfl⟩) B h0 G GC) rfl rfl rfl rfl
      refine ⟨fun _ _ h => h, Bd.new_ok, ⟨rfl, (fun h => by cases h), fun g3 _ => ⟨rfl, Nat.le_refl _, by simp only [maxLen]; omega, rfl⟩⟩, by simp, ?_, ?_, ?_⟩
      · intro e he
        simp only [List.mem_singleton] at he
        subst he
        exact hrl
      · simp only [restAll, List.reverse_singleton, List.flatMap_cons, List.flatMap_nil, List.append_nil]
        have h9 := restE_new (deb := deb) hr hrl false
        simp only at h9 ⊢
        rw [h9]
        simp [Bd.new, paren]
      · have h1 := muE_new hr hrl false
        have h2 := wt_root hr
        simp only [Int.ofNat_eq_natCast] at h1 h2
        simp only [muAll, List.map_cons, List.map_nil, List.sum_cons, List.sum_nil]
        omega
    · rintro ⟨g, x⟩ hx
      refine V_frame (t1 := 1) (t2 := 3) (t3 := 4) (fun G GC => Tree_pass hT ht hr hn (g := g) x hx (fun y hy hlt => ⟨⟨hy, rfl⟩, hlt⟩) B h0 G GC) rfl rfl rfl rfl
  | false =>
    have htb : treeB deb t = [] := by simp [treeB, hr]
    rw [htb]
    refine CodeOb.scope TryzEOK rfl (ι := Empty) (fun e => nomatch e) (fun e => nomatch e) (fun e => nomatch e) (fun e => nomatch e) (fun _ => .skip) (fun e => nomatch e) ?_ (fun e => nomatch e)
    refine CallOb.mk [] [] _ (.refl _) (Right_spec hT.c ht) ?_
    rintro v I' M' - ⟨rfl, rfl, rfl⟩
    rw [hr]
    refine CondOb.mk (fun _ => ?_) (fun h => by cases h)
    exact ⟨_, _, .refl, rfl, fun _ _ h => h, rfl⟩

def Df.val (d : Df) : Value := .agg #[.string d.name, .slice d.t.a d.t.n d.t.c, .int .i64 d.t.root]
def defB (deb : List Int) (d : Df) : List UInt8 :=
  bif decide (strOf (treeB deb d.t) = ⟨#[]⟩) || !mayName d.name then [] else d.name.data.toList ++ [32, 60, 45, 32] ++ treeB deb d.t ++ [10]
theorem mayName_len {s : ByteArray} (h : mayName s = true) : s.size ≤ 32 := by
  unfold mayName at h
  simp only [Bool.and_eq_true, decide_eq_true_eq] at h
  omega
theorem defB_len (deb : List Int) (d : Df) : (defB deb d).length ≤ 37 + 2412 * d.t.ns.length := by
  have h1 := treeB_len deb d.t
  unfold defB
  cases hc : (decide (strOf (treeB deb d.t) = ⟨#[]⟩) || !mayName d.name) with
  | true => simp
  | false =>
    simp only [Bool.or_eq_false_iff, Bool.not_eq_false'] at hc
    have h2 := mayName_len hc.2
    have h3 : d.name.data.toList.length = d.name.size := rfl
    simp only [cond_false, List.length_append, List.length_cons, List.length_nil]
    omega
theorem Def_spec {I : GH} {deb : List Int} (hT : Tabs I deb) {d : Df} (hd : d.ok I) (hn : d.t.n ≤ 1024) : Spec Tryz.prog 191 [d.val] I [] fun r I' M' => r = .string (strOf (defB deb d)) ∧ (∀ b o, I b = some o → I' b = some o) ∧ M' = [] := by
  refine spec_of_V [] TryzEOK Tryz.func191 rfl rfl rfl ?_
  intro B h0
  refine CallOb.mk [] [] _ (.refl _) (Tree_spec hT hd.t hn) ?_
  rintro v I1 M1 - ⟨rfl, hI1, rfl⟩
  refine GuardOb.mk (fun h1 => ?_) (fun h1 => ?_)
  · refine CallOb.mk [] [] _ (.refl _) (NMay_spec _ d.name) ?_
    rintro v I' M' - ⟨rfl, rfl, rfl⟩
    refine CondOb.mk (fun h2 => ?_) (fun h2 => ?_)
    · refine ⟨_, _, .refl, ?_, hI1, rfl⟩
      have : defB deb d = [] := by
        unfold defB
        rw [h1, h2]
        rfl
      rw [this]
      rfl
    · have hm : mayName d.name = true := by simpa using h2
      have h2 := mayName_len hm
      have h3 : d.name.data.toList.length = d.name.size := rfl
      have h4 := treeB_len deb d.t
      have h5 := hd.t.n
      refine BinOb.concat (a := d.name) (b := strOf [32, 60, 45, 32]) (by show _ + 4 ≤ _; omega) ?_
      refine BinOb.concat (a := d.name ++ strOf [32, 60, 45, 32]) (b := strOf (treeB deb d.t)) (by rw [ByteArray.size_append]; show _ + 4 + (treeB deb d.t).length ≤ _; omega) ?_
      refine BinOb.concat (a := d.name ++ strOf [32, 60, 45, 32] ++ strOf (treeB deb d.t)) (b := strOf [10]) (by rw [ByteArray.size_append, ByteArray.size_append]; show _ + 4 + (treeB deb d.t).length + 1 ≤ _; omega) ?_
      refine ⟨_, _, .refl, ?_, hI1, rfl⟩
      refine congrArg Value.string (bytes_eq ?_)
      rw [defB, h1, hm]
      simp [strOf]
  · refine ⟨_, _, .refl, ?_, hI1, rfl⟩
    have : defB deb d = [] := by
      unfold defB
      rw [h1]
      rfl
    rw [this]
    rfl

def gramB (deb : List Int) : List Df → List UInt8 → List UInt8
  | [], acc => acc
  | d :: ds, acc => bif decide (strOf (defB deb d) = ⟨#[]⟩) then [] else gramB deb ds (acc ++ defB deb d)
theorem gramB_len (deb : List Int) : ∀ (ds : List Df) (acc : List UInt8) (m : Nat), (∀ d ∈ ds, d.t.ns.length ≤ 1024) → acc.length ≤ m → (gramB deb ds acc).length ≤ m + 2500000 * ds.length
  | [], acc, m, _, h => by simpa [gramB] using h
  | d :: ds, acc, m, hd, h => by
    have h1 := defB_len deb d
    have h2 := hd d (by simp)
    have h3 := gramB_len deb ds (acc ++ defB deb d) (m + 2500000) (fun x hx => hd x (by simp [hx])) (by rw [List.length_append]; omega)
    unfold gramB
    cases decide (strOf (defB deb d) = ⟨#[]⟩)
    · simp only [cond_false, List.length_cons]
      omega
    · simp
theorem Grammar_spec {I : GH} {deb : List Int} (hT : Tabs I deb) {g : Gr} (hg : g.ok I) (hn : g.n ≤ 64) (ht : ∀ d ∈ g.ds, d.t.n ≤ 1024) : Spec Tryz.prog 152 [g.val] I [] fun r I' M' => r = .string (strOf (gramB deb g.ds [])) ∧ (∀ b o, I b = some o → I' b = some o) ∧ M' = [] := by
  refine spec_of_V [3] TryzEOK Tryz.func152 rfl rfl rfl ?_
  intro B h0
  have hgn := hg.n
  have htl : ∀ d ∈ g.ds, d.t.ns.length ≤ 1024 := fun d hd => by rw [(hg.ds d hd).t.n]; exact ht d hd
  refine AllocOb.mk fun b hb hbM => ?_
  refine LoopOb.inv (ι := Nat × Bd × GH) (fun p => { fl := [(3, .val (ptr b)), (8, .val (.slice g.a g.n g.c)), (9, .val (.int .i64 g.n)), (10, .val (.int .i64 p.1))], gi := p.2.2, mi := p.2.1.M b })
    (fun p => p.1 ≤ g.n ∧ p.2.1.ok ∧ (∀ b o, I b = some o → p.2.2 b = some o) ∧ p.2.1.bs.length ≤ 2500000 * p.1 ∧ gramB deb g.ds [] = gramB deb (g.ds.drop p.1) p.2.1.bs) (fun p => g.n - p.1) ?_ ?_
  · exact ⟨(0, Bd.new, I), ⟨by simp, Bd.new_ok, fun _ _ h => h, by simp [Bd.new], rfl⟩, .refl, .cons .refl (.cons .refl (.cons .refl (.cons .refl .nil))), .nil⟩
  · rintro ⟨i, x, I1⟩ ⟨hi, hx, hI1, hxl, hxb⟩
    simp only at hi hx hI1 hxl hxb
    refine CondOb.mk (fun h => ?_) (fun h => ?_)
    · have hlt : i < g.n := by simpa using h
      have hlt' : i < g.ds.length := by omega
      have hg1 := hg.mono hI1
      obtain ⟨ad, had, hrd⟩ := hg1.rs.row Df.cells_len hlt hlt'
      have hdm : g.ds[i] ∈ g.ds := List.getElem_mem hlt'
      have hdl := defB_len deb g.ds[i]
      have h9 := htl _ hdm
      have hdrop : g.ds.drop i = g.ds[i] :: g.ds.drop (i + 1) := List.drop_eq_getElem_cons hlt'
      refine IdxOb.mk ad i had rfl hlt ?_
      refine LoadOb.mk _ (hrd _) ?_
      refine CallOb.mk [] (x.M b) _ (.refl _) (Def_spec (hT.mono hI1) (hg1.ds _ hdm) (ht _ hdm)) ?_
      rintro v I2 M2 - ⟨rfl, hI2, rfl⟩
      refine CondOb.mk (fun h1 => ?_) (fun h1 => ?_)
      · refine ⟨_, _, .sub (List.nil_sublist _) .refl, ?_, fun b o h => hI2 _ _ (hI1 _ _ h), rfl⟩
        rw [hxb, hdrop, gramB, h1]
        rfl
      · refine CallOb.mk (x.M b) [] _ (by simp) (WriteString_spec b hx _ (by show _ + (defB deb g.ds[i]).length ≤ _; omega)) ?_
        rintro v I' M' - ⟨rfl, rfl, y, hy, hyb, rfl⟩
        have hyb' : y.bs = x.bs ++ defB deb g.ds[i] := hyb
        have hwr : IntKind.i64.wrap ((i : Int) + 1) = ((i + 1 : Nat) : Int) := by
          rw [wrap_i64 ⟨by omega, by omega⟩]
          omega
        refine ArithOb.mk _ hwr ?_
        refine ⟨(i + 1, y, _), ⟨⟨by simp only; omega, hy, fun b o h => hI2 _ _ (hI1 _ _ h), ?_, ?_⟩, by simp only; omega⟩, .perm (by simp) .refl, .cons .refl (.cons .refl (.cons .refl (.cons .refl .nil))), .nil⟩
        · simp only
          rw [hyb', List.length_append]
          omega
        · simp only
          rw [hxb, hdrop, gramB, h1, hyb']
          rfl
    · have hge : g.n ≤ i := by simpa using h
      have hdn : g.ds.drop i = [] := List.drop_eq_nil_of_le (by omega)
      refine CallOb.mk (x.M b) [] _ (by simp) (BString_spec b hx (by omega)) ?_
      rintro v I' M' - ⟨rfl, rfl, rfl⟩
      refine ⟨_, _, .refl, ?_, hI1, by simp⟩
      rw [hxb, hdn]
      rfl
theorem PSize_spec {I : GH} {deb : List Int} (hT : Tabs I deb) {g : Gr} (hg : g.ok I) (hn : g.n ≤ 64) (ht : ∀ d ∈ g.ds, d.t.n ≤ 1024) : Spec Tryz.prog 114 [g.val] I [] fun r I' M' => r = .int .i64 ((gramB deb g.ds []).length : Int) ∧ (∀ b o, I b = some o → I' b = some o) ∧ M' = [] := by
  refine spec_of_V [] TryzEOK Tryz.func114 rfl rfl rfl ?_
  intro B h0
  refine CallOb.mk [] [] _ (.refl _) (Grammar_spec hT hg hn ht) ?_
  rintro v I' M' - ⟨rfl, hI, rfl⟩
  exact ⟨_, _, .refl, rfl, hI, rfl⟩
end Go.V

/-
  Walks: expr.Normal, gram.Nodes, gram.large, gram.Find, gram.nodes, reach.named.
-/
set_option linter.unusedVariables false
set_option linter.unusedSimpArgs false
namespace Go.V
open Go Go.Proofs

def normKids (ns : List Nd) (kind : Int) : List Int → Bool
  | [] => true
  | k :: ks => bif decide (kindAt ns k = kind) || (decide (kindAt ns k = 0) && decide (kind = 4)) then false else normKids ns kind ks
def normNodes (ns : List Nd) : List Nd → Bool
  | [] => true
  | d :: ds => bif !decide (d.k = 4) && !decide (d.k = 5) then normNodes ns ds else bif normKids ns d.k d.kids then normNodes ns ds else false
def normal (t : Tr) : Bool := right t && normNodes t.ns t.ns

theorem next_wr {i : Nat} (h : i ≤ 140737488355328) : IntKind.i64.wrap ((i : Int) + 1) = ((i + 1 : Nat) : Int) := by
  rw [wrap_i64 ⟨by omega, by omega⟩]
  omega

set_option maxHeartbeats 1000000 in
theorem Normal_spec {I : GH} (hc : HasCounts I) {t : Tr} (ht : t.ok I) : Spec Tryz.prog 70 [t.val] I [] (fun v I' M' => v = .bool (normal t) ∧ I' = I ∧ M' = []) := by
  refine spec_of_V [] TryzEOK Tryz.func70 rfl rfl rfl ?_
  intro B h0
  have hn := ht.n
  have hcap := ht.rs.cap
  refine CallOb.mk [] [] _ (.refl _) (Right_spec hc ht) ?_
  rintro v I' M' - ⟨rfl, rfl, rfl⟩
  refine CondOb.mk (fun h => ?_) (fun h => ?_)
  · refine ⟨_, _, .refl, ?_, rfl, rfl⟩
    simp [normal, show right t = false by simpa using h]
  · have hr : right t = true := by simpa using h
    have hno : normal t = normNodes t.ns t.ns := by simp [normal, hr]
    rw [hno]
    refine LoopOb.inv (ι := Nat) (fun i => { fl := [(1, .ref 1 0), (12, .val (.slice t.a t.n t.c)), (13, .val (.int .i64 t.n)), (14, .val (.int .i64 i))], cl := [(1, t.cells)], gi := I' })
      (fun i => i ≤ t.n ∧ normNodes t.ns t.ns = normNodes t.ns (t.ns.drop i)) (fun i => t.n - i) ?_ ?_
    · exact ⟨0, ⟨by simp, rfl⟩, .refl, .cons .refl (.cons .refl (.cons .refl (.cons .refl .nil))), .cons rfl .nil⟩
    · rintro i ⟨hi, hin⟩
      refine CondOb.mk (fun h => ?_) (fun h => ?_)
      · have hlt : i < t.n := by simpa using h
        have hlt' : i < t.ns.length := by omega
        obtain ⟨ad, had, hrd⟩ := ht.rs.row Nd.cells_len hlt hlt'
        have hdk := ht.ns t.ns[i] (List.getElem_mem hlt')
        have hkn := hdk.kn
        have hdrop : t.ns.drop i = t.ns[i] :: t.ns.drop (i + 1) := List.drop_eq_getElem_cons hlt'
        refine IdxOb.mk ad i had rfl hlt ?_
        refine LoadOb.mk _ (hrd _) ?_
        refine GuardOb.mk (fun k1 => ?_) (fun k1 => ?_)
        · refine CondOb.mk (fun k2 => ?_) (fun k2 => ?_)
          · refine ArithOb.mk _ (next_wr (i := i) (by omega)) ?_
            refine ⟨i + 1, ⟨⟨by omega, ?_⟩, by omega⟩, .refl, .cons .refl (.cons .refl (.cons .refl (.cons .refl .nil))), .cons rfl .nil⟩
            rw [hin, hdrop, normNodes, k1, k2]
            rfl
          · have hstep : normNodes t.ns t.ns = bif normKids t.ns t.ns[i].k t.ns[i].kids then normNodes t.ns (t.ns.drop (i + 1)) else false := by
              rw [hin, hdrop, normNodes, k1, k2]
              rfl
            refine LoopOb.inv (ι := Nat)
              (fun j => { fl := [(1, .ref 1 0), (4, .ref 4 0), (12, .val (.slice t.a t.n t.c)), (13, .val (.int .i64 t.n)), (14, .val (.int .i64 i)), (27, .val (.slice t.ns[i].ka t.ns[i].kn t.ns[i].kc)), (28, .val (.int .i64 t.ns[i].kn)), (29, .val (.int .i64 j))], cl := [(1, t.cells), (4, t.ns[i].cells)], gi := I' })
              (fun j => j ≤ t.ns[i].kn ∧ normKids t.ns t.ns[i].k t.ns[i].kids = normKids t.ns t.ns[i].k (t.ns[i].kids.drop j)) (fun j => t.ns[i].kn - j) ?_ ?_
            · exact ⟨0, ⟨by simp, rfl⟩, .refl, .cons .refl (.cons .refl (.cons .refl (.cons .refl (.cons .refl (.cons .refl (.cons .refl (.cons .refl .nil))))))), .cons rfl (.cons rfl .nil)⟩
            · rintro j ⟨hj, hjn⟩
              refine CondOb.mk (fun h => ?_) (fun h => ?_)
              · have hjl : j < t.ns[i].kn := by simpa using h
                have hjl' : j < t.ns[i].kids.length := by omega
                obtain ⟨ak, hak, hrk⟩ := hdk.rs.one hjl hjl'
                have hkd : t.ns[i].kids.drop j = t.ns[i].kids[j] :: t.ns[i].kids.drop (j + 1) := List.drop_eq_getElem_cons hjl'
                have hkk := right_kids hr i hlt' _ (List.getElem_mem hjl')
                generalize hkv : t.ns[i].kids[j] = kv at *
                obtain ⟨q, rfl⟩ := Int.eq_ofNat_of_zero_le hkk.1
                have hql : q < t.ns.length := by omega
                have hql' : q < t.n := by omega
                obtain ⟨aq, haq, hrq0⟩ := ht.rs.row Nd.cells_len hql' hql
                have hrq : ∀ M, Rd I' M ((aq.add (q * 9)).add 0) 1 [.int .u8 t.ns[q].k] := fun M => (hrq0 M).part (k := 0) (m := 1) (by decide)
                have hkat : kindAt t.ns ((q : Nat) : Int) = t.ns[q].k := by simp [kindAt, List.getD_eq_getElem?_getD, hql]
                have bad : (decide (t.ns[q].k = t.ns[i].k) || (decide (t.ns[q].k = 0) && decide (t.ns[i].k = 4))) = true → normNodes t.ns t.ns = false := fun hb => by
                  rw [hstep, hjn, hkd, normKids, hkat, hb]
                  rfl
                have good : (decide (t.ns[q].k = t.ns[i].k) || (decide (t.ns[q].k = 0) && decide (t.ns[i].k = 4))) = false → normKids t.ns t.ns[i].k t.ns[i].kids = normKids t.ns t.ns[i].k (t.ns[i].kids.drop (j + 1)) := fun hb => by
                  rw [hjn, hkd, normKids, hkat, hb]
                  rfl
                have hwr := next_wr (i := j) (by have := hdk.rs.cap; omega)
                refine IdxOb.mk ak j hak rfl hjl ?_
                refine LoadOb.mk _ (hrk _) ?_
                refine IdxOb.mk aq q haq rfl hql' ?_
                refine LoadOb.mk _ (hrq _) ?_
                refine GuardOb.mk (fun c1 => ?_) (fun c1 => ?_)
                · refine GuardOb.mk (fun c2 => ?_) (fun c2 => ?_)
                  · refine CondOb.mk (fun c3 => ?_) (fun c3 => ?_)
                    · refine ⟨_, _, .refl, ?_, rfl, rfl⟩
                      rw [bad (by rw [c1, c2, c3]; rfl)]
                    · refine ArithOb.mk _ hwr ?_
                      exact ⟨j + 1, ⟨⟨by omega, good (by rw [c1, c2, c3]; rfl)⟩, by omega⟩, .refl, .cons .refl (.cons .refl (.cons .refl (.cons .refl (.cons .refl (.cons .refl (.cons .refl (.cons .refl .nil))))))), .cons rfl (.cons rfl .nil)⟩
                  · refine ArithOb.mk _ hwr ?_
                    exact ⟨j + 1, ⟨⟨by omega, good (by rw [c1, c2]; rfl)⟩, by omega⟩, .refl, .cons .refl (.cons .refl (.cons .refl (.cons .refl (.cons .refl (.cons .refl (.cons .refl (.cons .refl .nil))))))), .cons rfl (.cons rfl .nil)⟩
                · refine ⟨_, _, .refl, ?_, rfl, rfl⟩
                  rw [bad (by rw [c1]; rfl)]
              · have hje : t.ns[i].kids.drop j = [] := List.drop_eq_nil_of_le (by simp at h; omega)
                refine ArithOb.mk _ (next_wr (i := i) (by omega)) ?_
                refine ⟨i + 1, ⟨⟨by omega, ?_⟩, by omega⟩, .refl, .cons .refl (.cons .refl (.cons .refl (.cons .refl .nil))), .cons rfl .nil⟩
                rw [hstep, hjn, hje]
                rfl
        · have hstep : normNodes t.ns t.ns = bif normKids t.ns t.ns[i].k t.ns[i].kids then normNodes t.ns (t.ns.drop (i + 1)) else false := by
            rw [hin, hdrop, normNodes, k1]
            rfl
          refine LoopOb.inv (ι := Nat)
            (fun j => { fl := [(1, .ref 1 0), (4, .ref 4 0), (12, .val (.slice t.a t.n t.c)), (13, .val (.int .i64 t.n)), (14, .val (.int .i64 i)), (27, .val (.slice t.ns[i].ka t.ns[i].kn t.ns[i].kc)), (28, .val (.int .i64 t.ns[i].kn)), (29, .val (.int .i64 j))], cl := [(1, t.cells), (4, t.ns[i].cells)], gi := I' })
            (fun j => j ≤ t.ns[i].kn ∧ normKids t.ns t.ns[i].k t.ns[i].kids = normKids t.ns t.ns[i].k (t.ns[i].kids.drop j)) (fun j => t.ns[i].kn - j) ?_ ?_
          · exact ⟨0, ⟨by simp, rfl⟩, .refl, .cons .refl (.cons .refl (.cons .refl (.cons .refl (.cons .refl (.cons .refl (.cons .refl (.cons .refl .nil))))))), .cons rfl (.cons rfl .nil)⟩
          · rintro j ⟨hj, hjn⟩
            refine CondOb.mk (fun h => ?_) (fun h => ?_)
            · have hjl : j < t.ns[i].kn := by simpa using h
              have hjl' : j < t.ns[i].kids.length := by omega
              obtain ⟨ak, hak, hrk⟩ := hdk.rs.one hjl hjl'
              have hkd : t.ns[i].kids.drop j = t.ns[i].kids[j] :: t.ns[i].kids.drop (j + 1) := List.drop_eq_getElem_cons hjl'
              have hkk := right_kids hr i hlt' _ (List.getElem_mem hjl')
              generalize hkv : t.ns[i].kids[j] = kv at *
              obtain ⟨q, rfl⟩ := Int.eq_ofNat_of_zero_le hkk.1
              have hql : q < t.ns.length := by omega
              have hql' : q < t.n := by omega
              obtain ⟨aq, haq, hrq0⟩ := ht.rs.row Nd.cells_len hql' hql
              have hrq : ∀ M, Rd I' M ((aq.add (q * 9)).add 0) 1 [.int .u8 t.ns[q].k] := fun M => (hrq0 M).part (k := 0) (m := 1) (by decide)
              have hkat : kindAt t.ns ((q : Nat) : Int) = t.ns[q].k := by simp [kindAt, List.getD_eq_getElem?_getD, hql]
              have bad : (decide (t.ns[q].k = t.ns[i].k) || (decide (t.ns[q].k = 0) && decide (t.ns[i].k = 4))) = true → normNodes t.ns t.ns = false := fun hb => by
                rw [hstep, hjn, hkd, normKids, hkat, hb]
                rfl
              have good : (decide (t.ns[q].k = t.ns[i].k) || (decide (t.ns[q].k = 0) && decide (t.ns[i].k = 4))) = false → normKids t.ns t.ns[i].k t.ns[i].kids = normKids t.ns t.ns[i].k (t.ns[i].kids.drop (j + 1)) := fun hb => by
                rw [hjn, hkd, normKids, hkat, hb]
                rfl
              have hwr := next_wr (i := j) (by have := hdk.rs.cap; omega)
              refine IdxOb.mk ak j hak rfl hjl ?_
              refine LoadOb.mk _ (hrk _) ?_
              refine IdxOb.mk aq q haq rfl hql' ?_
              refine LoadOb.mk _ (hrq _) ?_
              refine GuardOb.mk (fun c1 => ?_) (fun c1 => ?_)
              · refine GuardOb.mk (fun c2 => ?_) (fun c2 => ?_)
                · refine CondOb.mk (fun c3 => ?_) (fun c3 => ?_)
                  · refine ⟨_, _, .refl, ?_, rfl, rfl⟩
                    rw [bad (by rw [c1, c2, c3]; rfl)]
                  · refine ArithOb.mk _ hwr ?_
                    exact ⟨j + 1, ⟨⟨by omega, good (by rw [c1, c2, c3]; rfl)⟩, by omega⟩, .refl, .cons .refl (.cons .refl (.cons .refl (.cons .refl (.cons .refl (.cons .refl (.cons .refl (.cons .refl .nil))))))), .cons rfl (.cons rfl .nil)⟩
                · refine ArithOb.mk _ hwr ?_
                  exact ⟨j + 1, ⟨⟨by omega, good (by rw [c1, c2]; rfl)⟩, by omega⟩, .refl, .cons .refl (.cons .refl (.cons .refl (.cons .refl (.cons .refl (.cons .refl (.cons .refl (.cons .refl .nil))))))), .cons rfl (.cons rfl .nil)⟩
              · refine ⟨_, _, .refl, ?_, rfl, rfl⟩
                rw [bad (by rw [c1]; rfl)]
            · have hje : t.ns[i].kids.drop j = [] := List.drop_eq_nil_of_le (by simp at h; omega)
              refine ArithOb.mk _ (next_wr (i := i) (by omega)) ?_
              refine ⟨i + 1, ⟨⟨by omega, ?_⟩, by omega⟩, .refl, .cons .refl (.cons .refl (.cons .refl (.cons .refl .nil))), .cons rfl .nil⟩
              rw [hstep, hjn, hje]
              rfl
      · have hge : t.n ≤ i := by simpa using h
        have hdn : t.ns.drop i = [] := List.drop_eq_nil_of_le (by omega)
        refine ⟨_, _, .refl, ?_, rfl, rfl⟩
        rw [hin, hdn]
        rfl

/-! ### gram.Nodes, large -/
def sizeT (t : Tr) : Nat := bif right t then t.n else 0
def nodesG (g : Gr) : Nat := (g.ds.map fun d => sizeT d.t).sum
theorem sum_take_le {α : Type} (f : α → Nat) (m : Nat) : ∀ (l : List α), (∀ x ∈ l, f x ≤ m) → (l.map f).sum ≤ m * l.length
  | [], _ => by simp
  | x :: l, h => by
    have h1 := h x (by simp)
    have h2 := sum_take_le f m l fun y hy => h y (by simp [hy])
    simp only [List.map_cons, List.sum_cons, List.length_cons, Nat.mul_add]
    omega
theorem GNodes_spec {I : GH} (hc : HasCounts I) {g : Gr} (hg : g.ok I) (hn : g.n ≤ 64) (ht : ∀ d ∈ g.ds, d.t.n ≤ 1024) : Spec Tryz.prog 113 [g.val] I [] (fun v I' M' => v = .int .i64 (nodesG g : Nat) ∧ I' = I ∧ M' = []) := by
  refine spec_of_V [] TryzEOK Tryz.func113 rfl rfl rfl ?_
  intro B h0
  have hgn := hg.n
  refine LoopOb.inv (ι := Nat) (fun i => { fl := [(3, .val (.int .i64 (((g.ds.take i).map fun d => sizeT d.t).sum : Nat))), (7, .val (.slice g.a g.n g.c)), (8, .val (.int .i64 g.n)), (9, .val (.int .i64 i))], gi := I })
    (fun i => i ≤ g.n) (fun i => g.n - i) ?_ ?_
  · exact ⟨0, by simp, .refl, .cons .refl (.cons .refl (.cons .refl (.cons .refl .nil))), .nil⟩
  · intro i hi
    refine CondOb.mk (fun h => ?_) (fun h => ?_)
    · have hlt : i < g.n := by simpa using h
      have hlt' : i < g.ds.length := by omega
      obtain ⟨ad, had, hrd⟩ := hg.rs.row Df.cells_len hlt hlt'
      have hdm : g.ds[i] ∈ g.ds := List.getElem_mem hlt'
      have hs : ((g.ds.take i).map fun d => sizeT d.t).sum ≤ 1024 * (g.ds.take i).length := sum_take_le _ 1024 _ fun d hd => by
        have := ht d (List.mem_of_mem_take hd)
        unfold sizeT
        cases right d.t <;> simp
        omega
      have hl := List.length_take_le i g.ds
      have hs1 : sizeT g.ds[i].t ≤ 1024 := by
        have := ht _ hdm
        unfold sizeT
        cases right g.ds[i].t <;> simp
        omega
      refine IdxOb.mk ad i had rfl hlt ?_
      refine LoadOb.mk _ (hrd _) ?_
      refine CallOb.mk [] [] _ (.refl _) (Size_spec hc (hg.ds _ hdm).t) ?_
      rintro v I' M' - ⟨rfl, rfl, rfl⟩
      have e1 : (bif right g.ds[i].t then (g.ds[i].t.n : Int) else 0) = (sizeT g.ds[i].t : Nat) := by
        unfold sizeT
        cases right g.ds[i].t <;> rfl
      rw [e1]
      refine ArithOb.mk ((((g.ds.take (i + 1)).map fun d => sizeT d.t).sum : Nat) : Int) ?_ ?_
      · rw [wrap_i64 ⟨by omega, by omega⟩, List.take_succ_eq_append_getElem hlt', List.map_append, List.sum_append]
        simp
      refine ArithOb.mk _ (next_wr (i := i) (by omega)) ?_
      exact ⟨i + 1, ⟨by omega, by omega⟩, .refl, .cons .refl (.cons .refl (.cons .refl (.cons .refl .nil))), .nil⟩
    · have hge : g.n ≤ i := by simpa using h
      refine ⟨_, _, .refl, ?_, rfl, rfl⟩
      rw [List.take_of_length_le (by omega)]
      rfl

def largeG (deb : List Int) (g : Gr) : Bool :=
  decide (64 < g.n) || ((!g.ds.all fun d => mayTree d.t) || (decide (1024 < nodesG g) || decide (8192 < (gramB deb g.ds []).length)))
theorem large_spec {I : GH} {deb : List Int} (hT : Tabs I deb) {g : Gr} (hg : g.ok I) : Spec Tryz.prog 71 [g.val] I [] (fun v I' M' => v = .bool (largeG deb g) ∧ (∀ b o, I b = some o → I' b = some o) ∧ M' = []) := by
  refine spec_of_V [] TryzEOK Tryz.func71 rfl rfl rfl ?_
  intro B h0
  have hgn := hg.n
  refine CondOb.mk (fun h1 => ?_) (fun h1 => ?_)
  · refine ⟨_, _, .refl, ?_, fun _ _ h => h, rfl⟩
    have : 64 < g.n := by simp at h1; omega
    simp [largeG, this]
  · have hn : g.n ≤ 64 := by simp at h1; omega
    have e0 : largeG deb g = ((!g.ds.all fun d => mayTree d.t) || (decide (1024 < nodesG g) || decide (8192 < (gramB deb g.ds []).length))) := by
      have : ¬ 64 < g.n := by omega
      simp [largeG, this]
    rw [e0]
    refine LoopOb.inv (ι := Nat) (fun i => { fl := [(1, .ref 1 0), (10, .val (.slice g.a g.n g.c)), (11, .val (.int .i64 g.n)), (12, .val (.int .i64 i))], cl := [(1, [.slice g.a g.n g.c])], gi := I })
      (fun i => i ≤ g.n ∧ (g.ds.take i).all (fun d => mayTree d.t) = true) (fun i => g.n - i) ?_ ?_
    · exact ⟨0, ⟨by simp, rfl⟩, .refl, .cons .refl (.cons .refl (.cons .refl (.cons .refl .nil))), .cons rfl .nil⟩
    · rintro i ⟨hi, hall⟩
      refine CondOb.mk (fun h => ?_) (fun h => ?_)
      · have hlt : i < g.n := by simpa using h
        have hlt' : i < g.ds.length := by omega
        obtain ⟨ad, had, hrd⟩ := hg.rs.row Df.cells_len hlt hlt'
        have hdm : g.ds[i] ∈ g.ds := List.getElem_mem hlt'
        refine IdxOb.mk ad i had rfl hlt ?_
        refine LoadOb.mk _ (hrd _) ?_
        refine CallOb.mk [] [] _ (.refl _) (TMay_spec hT.c (hg.ds _ hdm).t) ?_
        rintro v I' M' - ⟨rfl, rfl, rfl⟩
        refine CondOb.mk (fun h2 => ?_) (fun h2 => ?_)
        · refine ⟨_, _, .refl, ?_, fun _ _ h => h, rfl⟩
          have hf : mayTree g.ds[i].t = false := by simpa using h2
          have : (g.ds.all fun d => mayTree d.t) = false := by
            rw [List.all_eq_false]
            exact ⟨_, hdm, by simp [hf]⟩
          rw [this]
          rfl
        · have hf : mayTree g.ds[i].t = true := by simpa using h2
          refine ArithOb.mk _ (next_wr (i := i) (by omega)) ?_
          refine ⟨i + 1, ⟨⟨by omega, ?_⟩, by omega⟩, .refl, .cons .refl (.cons .refl (.cons .refl (.cons .refl .nil))), .cons rfl .nil⟩
          rw [List.take_succ_eq_append_getElem hlt', List.all_append, hall]
          simp [hf]
      · have hge : g.n ≤ i := by simpa using h
        rw [List.take_of_length_le (by omega)] at hall
        rw [hall]
        have hnt : ∀ d ∈ g.ds, d.t.n ≤ 1024 := fun d hd => by
          have := List.all_eq_true.1 hall d hd
          unfold mayTree at this
          simp only [Bool.and_eq_true, decide_eq_true_eq] at this
          exact this.1
        refine CallOb.mk [] [] _ (.refl _) (GNodes_spec hT.c hg hn hnt) ?_
        rintro v I' M' - ⟨rfl, rfl, rfl⟩
        refine GuardOb.mk (fun h2 => ?_) (fun h2 => ?_)
        · refine CallOb.mk [] [] _ (.refl _) (PSize_spec hT hg hn hnt) ?_
          rintro v I2 M' - ⟨rfl, hI2, rfl⟩
          refine ⟨_, _, .refl, ?_, hI2, rfl⟩
          have h2' : ¬ 1024 < nodesG g := by simp at h2; omega
          simp [h2']
          omega
        · refine ⟨_, _, .refl, ?_, fun _ _ h => h, rfl⟩
          have h2' : 1024 < nodesG g := by simp at h2; omega
          simp [h2']

/-! ### Find -/
def findAt (name : ByteArray) : List Df → Nat → Int
  | [], _ => -1
  | d :: ds, i => bif decide (d.name = name) then (i : Int) else findAt name ds (i + 1)
theorem Find_spec {I : GH} {g : Gr} (hg : g.ok I) (name : ByteArray) : Spec Tryz.prog 48 [g.val, .string name] I [] (fun v I' M' => v = .int .i64 (findAt name g.ds 0) ∧ I' = I ∧ M' = []) := by
  refine spec_of_V [] TryzEOK Tryz.func48 rfl rfl rfl ?_
  intro B h0
  have hgn := hg.n
  have hcap := hg.rs.cap
  refine LoopOb.inv (ι := Nat) (fun i => { fl := [(1, .val (.string name)), (8, .val (.slice g.a g.n g.c)), (9, .val (.int .i64 g.n)), (10, .val (.int .i64 i))], gi := I })
    (fun i => i ≤ g.n ∧ findAt name g.ds 0 = findAt name (g.ds.drop i) i) (fun i => g.n - i) ?_ ?_
  · exact ⟨0, ⟨by simp, rfl⟩, .refl, .cons .refl (.cons .refl (.cons .refl (.cons .refl .nil))), .nil⟩
  · rintro i ⟨hi, hf⟩
    refine CondOb.mk (fun h => ?_) (fun h => ?_)
    · have hlt : i < g.n := by simpa using h
      have hlt' : i < g.ds.length := by omega
      obtain ⟨ad, had, hrd⟩ := hg.rs.row Df.cells_len hlt hlt'
      have hdrop : g.ds.drop i = g.ds[i] :: g.ds.drop (i + 1) := List.drop_eq_getElem_cons hlt'
      refine IdxOb.mk ad i had rfl hlt ?_
      refine LoadOb.mk _ (hrd _) ?_
      refine CondOb.mk (fun h2 => ?_) (fun h2 => ?_)
      · refine ⟨_, _, .refl, ?_, rfl, rfl⟩
        rw [hf, hdrop, findAt, h2]
        rfl
      · refine ArithOb.mk _ (next_wr (i := i) (by omega)) ?_
        refine ⟨i + 1, ⟨⟨by omega, ?_⟩, by omega⟩, .refl, .cons .refl (.cons .refl (.cons .refl (.cons .refl .nil))), .nil⟩
        rw [hf, hdrop, findAt, h2]
        rfl
    · have hge : g.n ≤ i := by simpa using h
      refine ⟨_, _, .refl, ?_, rfl, rfl⟩
      rw [hf, List.drop_eq_nil_of_le (by omega)]
      rfl
end Go.V
