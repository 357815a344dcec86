/-
  For every input bonsai/bonsailaw11.FirstFlows returns true, and each argument reads behind the call as it read before: the given card, from the walk's contract. Conditions: those of the row itself.
-/
import Derived.Test.YtmijfbjkkllhlaaGreatDoorK5
import Derived.Test.YtmijfbjkkllhlaaGreatDoorK8
import Derived.Test.YtmijfbjkkllhlaaGreatDoorK9
import Derived.Test.YtmijfbjkkllhlaaGreatDoorK10
import Derived.Carry

/-
  More arguments, opened: a tree.
-/
set_option linter.unusedVariables false
set_option linter.unusedSimpArgs false
namespace Go.V
open Go Go.Proofs

section
variable {H : Type} {enc : TypeId × Value → H}
set_option maxRecDepth 100000 in
/-- A tree among the arguments. -/
theorem arg_tree1 {W : World} {base : Nat} {v : Value} {d : DataW H} {p : List MemPlace} (h : DataW.Trod enc Tryz.prog W 0 (fun _ => true) true 43 v d p) (hv : Value.okWide Tryz.prog W .any base 43 v) : ∃ t : Tr, v = t.val ∧ TrW (ghost W) t := by
  obtain ⟨fs, ht, -⟩ := struct_fields (P := Tryz.prog) (t := 43) (l := [(41, 0), (3, 1)]) (by kernel_rfl)
  obtain ⟨cs, rfl⟩ := agg_of ht hv
  obtain ⟨fuel, hf⟩ := h
  obtain ⟨g, e, hg⟩ := open_tree hf
  refine ⟨g, ?_, hg⟩
  have e' : cs.toList = g.cells := e
  cases cs
  simp only at e'
  subst e'
  rfl
end
end Go.V

/-
  Walks: set.Of; the first of a node, out of its kids'.
-/
set_option linter.unusedVariables false
set_option linter.unusedSimpArgs false
namespace Go.V
open Go Go.Proofs

theorem shl_bit {k : Nat} (hk : k < 64) : IntKind.u64.wrap (1 * 2 ^ (min k IntKind.u64.bits)) = ((1#64 <<< k).toNat : Int) := by
  have h1 : (1#64 <<< k).toNat = 2 ^ k := by
    rw [BitVec.toNat_shiftLeft, Nat.shiftLeft_eq]
    have : 2 ^ k < 2 ^ 64 := Nat.pow_lt_pow_right (by decide) hk
    simp only [BitVec.toNat_ofNat]
    rw [Nat.mod_eq_of_lt (by decide : 1 < 2 ^ 64), Nat.one_mul]
    exact Nat.mod_eq_of_lt this
  have h2 : min k IntKind.u64.bits = k := by simp only [IntKind.bits]; omega
  have h3 : 2 ^ k < 2 ^ 64 := Nat.pow_lt_pow_right (by decide) hk
  rw [h1, h2, Int.one_mul]
  have e : ((2 : Int) ^ k) = ((2 ^ k : Nat) : Int) := by simp
  rw [e]
  generalize 2 ^ k = q at h3
  unfold IntKind.wrap
  simp only [IntKind.bits, IntKind.signed]
  simp
  omega
theorem ofW_snoc (l : List UInt8) (b : UInt8) : ofW (l ++ [b]) = (ofW l).or (byteW b) := by simp [ofW]
theorem u8wrap (n : Nat) (h : n < 256) : IntKind.u8.wrap (n : Int) = (n : Int) := by
  unfold IntKind.wrap
  simp only [IntKind.bits, IntKind.signed]
  simp
  omega
set_option maxHeartbeats 1000000 in
theorem Of_spec {I : GH} {M : List Blk} (s : ByteArray) (hs : s.size ≤ 140737488355328) : Spec Tryz.prog 87 [.string s] I M fun r I' M' => r = (ofW s.data.toList).val ∧ I' = I ∧ M' = M := by
  refine spec_of_V [] TryzEOK Tryz.func87 rfl rfl rfl ?_
  intro B h0
  have hsz : s.data.toList.length = s.size := Array.length_toList
  refine LoopOb.inv (ι := Nat) (fun i => { fl := [(0, .val (.string s)), (2, .ref 2 0), (3, .ref 3 0), (4, .val (.int .i64 i))], cl := [(2, Ws.zero.cells), (3, (ofW (s.data.toList.take i)).cells)], gi := I, mi := M }) (fun i => i ≤ s.size) (fun i => s.size - i) ?_ ?_
  · exact ⟨0, Nat.zero_le _, .refl, .cons .refl (.cons .refl (.cons .refl (.cons .refl (.nil)))), .cons rfl (.cons rfl (.nil))⟩
  intro i hi
  refine CondOb.mk (fun h => ?_) (fun h => ?_)
  rotate_left
  · have hge : s.size ≤ i := by have : ¬ (i : Int) < (s.size : Int) := of_decide_eq_false h; omega
    have hw : s.data.toList.take i = s.data.toList := List.take_of_length_le (by omega)
    refine ⟨_, _, .refl, ?_, rfl, rfl⟩
    show (ofW (s.data.toList.take i)).val = _
    rw [hw]
  have hlt : i < s.size := by have : (i : Int) < (s.size : Int) := of_decide_eq_true h; omega
  have hget : s.data.toList[i]'(by omega) = s[i] := by rw [Array.getElem_toList]; rfl
  have hnext : ofW (s.data.toList.take (i + 1)) = (ofW (s.data.toList.take i)).or (byteW s[i]) := by
    rw [List.take_succ_eq_append_getElem (by omega), ofW_snoc, hget]
  generalize ofW (s.data.toList.take i) = w at hnext
  have hb := s[i].toNat_lt
  have em : ((s[i].toNat : Int)).tmod 64 = ((s[i].toNat % 64 : Nat) : Int) := rfl
  have ed : ((s[i].toNat : Int)).tdiv 64 = ((s[i].toNat / 64 : Nat) : Int) := rfl
  refine CodeOb.draw TryzEOK rfl rfl rfl ?_
  refine StrOb.mk i rfl hlt ?_
  refine DivOb.mk (by decide) ?_
  rcases (by omega : s[i].toNat / 64 = 0 ∨ s[i].toNat / 64 = 1 ∨ s[i].toNat / 64 = 2 ∨ s[i].toNat / 64 = 3) with hj | hj | hj | hj
  · refine ArithOb.mk 0 (by rw [ed, hj]; decide) ?_
    refine ArrOb.mk 0 rfl (by decide) ?_
    refine StrOb.mk i rfl hlt ?_
    refine DivOb.mk (by decide) ?_
    refine ShOb.mk (s[i].toNat % 64) em ?_
    refine ArithOb.mk _ (shl_bit (by omega)) ?_
    refine ArrOb.mk 0 rfl (by decide) ?_
    refine ArithOb.mk _ (next_wr (i := i) (by omega)) ?_
    refine ⟨i + 1, ⟨hlt, by omega⟩, .refl, .cons .refl (.cons .refl (.cons .refl (.cons .refl (.nil)))), .cons rfl (.cons ?_ .nil)⟩
    rw [hnext, show byteW s[i] = Ws.one 0 (1#64 <<< (s[i].toNat % 64)) by rw [byteW, hj]]
    refine congrArg some ?_
    show ([.int .u64 (worV w.a.toNat (1#64 <<< (s[i].toNat % 64)).toNat), .int .u64 w.b.toNat, .int .u64 w.c.toNat, .int .u64 w.d.toNat] : List Value) = _
    rw [worV_bv]
    simp [Ws.cells, Ws.or, Ws.one]
  · refine ArithOb.mk 1 (by rw [ed, hj]; decide) ?_
    refine ArrOb.mk 1 rfl (by decide) ?_
    refine StrOb.mk i rfl hlt ?_
    refine DivOb.mk (by decide) ?_
    refine ShOb.mk (s[i].toNat % 64) em ?_
    refine ArithOb.mk _ (shl_bit (by omega)) ?_
    refine ArrOb.mk 1 rfl (by decide) ?_
    refine ArithOb.mk _ (next_wr (i := i) (by omega)) ?_
    refine ⟨i + 1, ⟨hlt, by omega⟩, .refl, .cons .refl (.cons .refl (.cons .refl (.cons .refl (.nil)))), .cons rfl (.cons ?_ .nil)⟩
    rw [hnext, show byteW s[i] = Ws.one 1 (1#64 <<< (s[i].toNat % 64)) by rw [byteW, hj]]
    refine congrArg some ?_
    show ([.int .u64 w.a.toNat, .int .u64 (worV w.b.toNat (1#64 <<< (s[i].toNat % 64)).toNat), .int .u64 w.c.toNat, .int .u64 w.d.toNat] : List Value) = _
    rw [worV_bv]
    simp [Ws.cells, Ws.or, Ws.one]
  · refine ArithOb.mk 2 (by rw [ed, hj]; decide) ?_
    refine ArrOb.mk 2 rfl (by decide) ?_
    refine StrOb.mk i rfl hlt ?_
    refine DivOb.mk (by decide) ?_
    refine ShOb.mk (s[i].toNat % 64) em ?_
    refine ArithOb.mk _ (shl_bit (by omega)) ?_
    refine ArrOb.mk 2 rfl (by decide) ?_
    refine ArithOb.mk _ (next_wr (i := i) (by omega)) ?_
    refine ⟨i + 1, ⟨hlt, by omega⟩, .refl, .cons .refl (.cons .refl (.cons .refl (.cons .refl (.nil)))), .cons rfl (.cons ?_ .nil)⟩
    rw [hnext, show byteW s[i] = Ws.one 2 (1#64 <<< (s[i].toNat % 64)) by rw [byteW, hj]]
    refine congrArg some ?_
    show ([.int .u64 w.a.toNat, .int .u64 w.b.toNat, .int .u64 (worV w.c.toNat (1#64 <<< (s[i].toNat % 64)).toNat), .int .u64 w.d.toNat] : List Value) = _
    rw [worV_bv]
    simp [Ws.cells, Ws.or, Ws.one]
  · refine ArithOb.mk 3 (by rw [ed, hj]; decide) ?_
    refine ArrOb.mk 3 rfl (by decide) ?_
    refine StrOb.mk i rfl hlt ?_
    refine DivOb.mk (by decide) ?_
    refine ShOb.mk (s[i].toNat % 64) em ?_
    refine ArithOb.mk _ (shl_bit (by omega)) ?_
    refine ArrOb.mk 3 rfl (by decide) ?_
    refine ArithOb.mk _ (next_wr (i := i) (by omega)) ?_
    refine ⟨i + 1, ⟨hlt, by omega⟩, .refl, .cons .refl (.cons .refl (.cons .refl (.cons .refl (.nil)))), .cons rfl (.cons ?_ .nil)⟩
    rw [hnext, show byteW s[i] = Ws.one 3 (1#64 <<< (s[i].toNat % 64)) by rw [byteW, hj]]
    refine congrArg some ?_
    show ([.int .u64 w.a.toNat, .int .u64 w.b.toNat, .int .u64 w.c.toNat, .int .u64 (worV w.d.toNat (1#64 <<< (s[i].toNat % 64)).toNat)] : List Value) = _
    rw [worV_bv]
    simp [Ws.cells, Ws.or, Ws.one]

section
variable {I : GH} {M : List Blk} {d : Nd} {x : Fl} {a : Option Addr} {n c : Nat} {ks : List Fi}
theorem IsAt.head (hk : IsAt I M a n ks) (h0 : 0 < n) : ∃ ad, a = some ad ∧ Rd I M (ad.add (0 * 5)) 5 (ks.headD fi0).cells := by
  have h1 : 0 < ks.length := by rw [hk.n]; exact h0
  obtain ⟨ad, h2, h3⟩ := hk.rd 0 h1
  refine ⟨ad, h2, ?_⟩
  cases ks with
  | nil => simp at h1
  | cons k ks => exact h3
theorem iFlows_spec : Spec Tryz.prog 156 [d.val, x.val, .slice a n c] I M fun v I' M' => v = Fi.val ⟨.zero, x.suc⟩ ∧ I' = I ∧ M' = M := by
  refine spec_of_V [] TryzEOK Tryz.func156 rfl rfl rfl ?_
  intro B h0
  refine CallOb.mk M [] _ perm_nil (Suc_spec x) ?_
  rintro v I' M' - ⟨rfl, rfl, rfl⟩
  rw [List.append_nil]
  exact ⟨_, _, .refl, rfl, rfl, rfl⟩
theorem bv_int {z : Int} (h : u64ok z) : ((BitVec.ofInt 64 z).toNat : Int) = z := by
  obtain ⟨w, rfl⟩ := bv_of h
  rw [bv_ofInt]
theorem iBytes_spec (hd : u64ok d.s0 ∧ u64ok d.s1 ∧ u64ok d.s2 ∧ u64ok d.s3) : Spec Tryz.prog 157 [d.val, x.val, .slice a n c] I M fun v I' M' => v = Fi.val ⟨d.ws, false⟩ ∧ I' = I ∧ M' = M := by
  refine spec_of_V [] TryzEOK Tryz.func157 rfl rfl rfl ?_
  intro B h0
  refine ⟨_, _, .refl, ?_, rfl, rfl⟩
  obtain ⟨h0, h1, h2, h3⟩ := hd
  simp only [Fi.val, Nd.ws, bv_int h0, bv_int h1, bv_int h2, bv_int h3]
  rfl
theorem iText_spec (h1 : 1 ≤ d.t.size) : Spec Tryz.prog 158 [d.val, x.val, .slice a n c] I M fun v I' M' => v = (textFi d.t).val ∧ I' = I ∧ M' = M := by
  refine spec_of_V [] TryzEOK Tryz.func158 rfl rfl rfl ?_
  intro B h0
  refine SliceOb.mk 0 1 rfl rfl (by decide) h1 ?_
  have hl : (d.t.extract 0 1).data.toList = d.t.data.toList.take 1 := by simp
  refine CallOb.mk M [] _ perm_nil (Of_spec (d.t.extract 0 1) (by simp; omega)) ?_
  rintro v I' M' - ⟨rfl, rfl, rfl⟩
  rw [List.append_nil]
  refine ⟨_, _, .refl, ?_, rfl, rfl⟩
  rw [hl]
  rfl
theorem iItself_spec (hk : IsAt I M a n ks) (h0 : 0 < n) : Spec Tryz.prog 159 [d.val, x.val, .slice a n c] I M fun v I' M' => v = (ks.headD fi0).val ∧ I' = I ∧ M' = M := by
  refine spec_of_V [] TryzEOK Tryz.func159 rfl rfl rfl ?_
  intro B h0'
  obtain ⟨ad, had, hrd⟩ := hk.head h0
  refine IdxOb.mk ad 0 had rfl h0 ?_
  refine LoadOb.mk _ hrd ?_
  exact ⟨_, _, .refl, rfl, rfl, rfl⟩
theorem iRep_spec (hk : IsAt I M a n ks) (h0 : 0 < n) : Spec Tryz.prog 162 [d.val, x.val, .slice a n c] I M fun v I' M' => v = (repFi d (ks.headD fi0)).val ∧ I' = I ∧ M' = M := by
  refine spec_of_V [] TryzEOK Tryz.func162 rfl rfl rfl ?_
  intro B h0'
  obtain ⟨ad, had, hrd⟩ := hk.head h0
  generalize ks.headD fi0 = k at hrd
  obtain ⟨⟨k0, k1, k2, k3⟩, kf⟩ := k
  refine CondOb.mk (fun h => ?_) (fun h => ?_)
  · refine ⟨_, _, .refl, ?_, rfl, rfl⟩
    simp [repFi, h]
    rfl
  refine CodeOb.draw TryzEOK rfl rfl rfl ?_
  refine IdxOb.mk ad 0 had rfl h0 ?_
  refine LoadOb.mk _ (hrd.part (k := 0) (m := 4) (by decide)) ?_
  refine IdxOb.mk ad 0 had rfl h0 ?_
  refine LoadOb.mk _ (hrd.part (k := 4) (m := 1) (by decide)) ?_
  refine GuardOb.mk (fun h2 => ?_) (fun h2 => ?_)
  all_goals
    have hf : kf = _ := h2
    subst hf
    refine ⟨_, _, .refl, ?_, rfl, rfl⟩
    simp [repFi, h]
    rfl
theorem iChoice_spec (hk : IsAt I M a n ks) (hn : n ≤ 140737488355328) : Spec Tryz.prog 161 [d.val, x.val, .slice a n c] I M fun v I' M' => v = (chFi ks).val ∧ I' = I ∧ M' = M := by
  refine spec_of_V [] TryzEOK Tryz.func161 rfl rfl rfl ?_
  intro B h0'
  have hkn := hk.n
  refine LoopOb.inv (ι := Nat × Fi) (fun s => { fl := [(6, .ref 6 0), (7, .ref 7 0), (10, .val (.slice a n c)), (11, .val (.int .i64 n)), (12, .val (.int .i64 s.1))], cl := [(6, fi0.cells), (7, s.2.cells)], gi := I, mi := M })
    (fun s => s.1 ≤ n ∧ s.2 = chFi (ks.take s.1)) (fun s => n - s.1) ?_ ?_
  · exact ⟨(0, fi0), ⟨Nat.zero_le _, rfl⟩, .refl, .cons .refl (.cons .refl (.cons .refl (.cons .refl (.cons .refl (.nil))))), .cons rfl (.cons rfl (.nil))⟩
  rintro ⟨i, f⟩ ⟨hi, hf⟩
  simp only at hi hf
  refine CondOb.mk (fun h => ?_) (fun h => ?_)
  rotate_left
  · have hge : n ≤ i := by have := of_decide_eq_false h; omega
    refine ⟨_, _, .refl, ?_, rfl, rfl⟩
    rw [List.take_of_length_le (by omega)] at hf
    rw [← hf]
    rfl
  have hlt : i < n := by have := of_decide_eq_true h; omega
  obtain ⟨ad, had, hrd⟩ := hk.rd i (by omega)
  have hst : f.choice (ks[i]'(by omega)) = chFi (ks.take (i + 1)) := by
    rw [List.take_succ_eq_append_getElem (by omega), chFi, List.foldl_append, hf]
    rfl
  generalize ks[i]'(by omega) = k at hrd hst
  refine IdxOb.mk ad i had rfl hlt ?_
  refine LoadOb.mk _ hrd ?_
  refine CallOb.mk M [] _ perm_nil (IChoice_spec f k) ?_
  rintro v I' M' - ⟨rfl, rfl, rfl⟩
  rw [List.append_nil]
  refine ArithOb.mk _ (next_wr (i := i) (by omega)) ?_
  exact ⟨(i + 1, f.choice k), ⟨⟨by simp only; omega, hst⟩, by simp only; omega⟩, .refl, .cons .refl (.cons .refl (.cons .refl (.cons .refl (.cons .refl (.nil))))), .cons rfl (.cons rfl (.nil))⟩
theorem iSeq_spec (hk : IsAt I M a n ks) (hn : n ≤ 140737488355328) : Spec Tryz.prog 160 [d.val, x.val, .slice a n c] I M fun v I' M' => v = (seqFi ks).val ∧ I' = I ∧ M' = M := by
  refine spec_of_V [] TryzEOK Tryz.func160 rfl rfl rfl ?_
  intro B h0'
  have hkn := hk.n
  refine LoopOb.inv (ι := Nat × Fi) (fun s => { fl := [(6, .ref 6 0), (7, .ref 7 0), (11, .val (.slice a n c)), (12, .val (.int .i64 n)), (13, .val (.int .i64 s.1))], cl := [(6, fi0.cells), (7, s.2.cells)], gi := I, mi := M })
    (fun s => s.1 ≤ n ∧ s.2 = seqFi (ks.take s.1)) (fun s => n - s.1) ?_ ?_
  · exact ⟨(0, fiT), ⟨Nat.zero_le _, rfl⟩, .refl, .cons .refl (.cons .refl (.cons .refl (.cons .refl (.cons .refl (.nil))))), .cons rfl (.cons rfl (.nil))⟩
  rintro ⟨i, f⟩ ⟨hi, hf⟩
  simp only at hi hf
  refine CondOb.mk (fun h => ?_) (fun h => ?_)
  rotate_left
  · have hge : n ≤ i := by have := of_decide_eq_false h; omega
    refine ⟨_, _, .refl, ?_, rfl, rfl⟩
    rw [List.take_of_length_le (by omega)] at hf
    rw [← hf]
    rfl
  have hlt : i < n := by have := of_decide_eq_true h; omega
  obtain ⟨ad, had, hrd⟩ := hk.rd i (by omega)
  have hst : f.seq (ks[i]'(by omega)) = seqFi (ks.take (i + 1)) := by
    rw [List.take_succ_eq_append_getElem (by omega), seqFi, List.foldl_append, hf]
    rfl
  generalize ks[i]'(by omega) = k at hrd hst
  refine IdxOb.mk ad i had rfl hlt ?_
  refine LoadOb.mk _ hrd ?_
  refine CallOb.mk M [] _ perm_nil (ISeq_spec f k) ?_
  rintro v I' M' - ⟨rfl, rfl, rfl⟩
  rw [List.append_nil]
  refine ArithOb.mk _ (next_wr (i := i) (by omega)) ?_
  exact ⟨(i + 1, f.seq k), ⟨⟨by simp only; omega, hst⟩, by simp only; omega⟩, .refl, .cons .refl (.cons .refl (.cons .refl (.cons .refl (.cons .refl (.nil))))), .cons rfl (.cons rfl (.nil))⟩
end

def comeIs : List Nat := [156, 157, 158, 159, 160, 161, 162, 156, 156, 159]
def comeIv : List Value := [.func (.func 156) #[] #[], .func (.func 157) #[] #[], .func (.func 158) #[] #[], .func (.func 159) #[] #[], .func (.func 160) #[] #[], .func (.func 161) #[] #[], .func (.func 162) #[] #[], .func (.func 156) #[] #[], .func (.func 156) #[] #[], .func (.func 159) #[] #[]]
theorem icomes_spec {I : GH} : Spec Tryz.prog 120 [] I [] fun v I' M' => v = .agg comeIv.toArray ∧ I' = I ∧ M' = [] := by
  refine spec_of_V [] TryzEOK Tryz.func120 rfl rfl rfl ?_
  intro B h0
  exact ⟨_, _, .refl, rfl, rfl, rfl⟩
theorem icome_at {I : GH} {M : List Blk} {d : Nd} {x : Fl} {a : Option Addr} {n c : Nat} {ks : List Fi} (hu : u64ok d.s0 ∧ u64ok d.s1 ∧ u64ok d.s2 ∧ u64ok d.s3) (hk : IsAt I M a n ks) (hn : n ≤ 140737488355328) (j : Nat) (hj : j < 10) (hd : d.k = j) (h0 : (j = 3 ∨ j = 6 ∨ j = 9) → 0 < n) (ht : j = 2 → 1 ≤ d.t.size) :
    Spec Tryz.prog (comeIs.getD j 0) [d.val, x.val, .slice a n c] I M fun v I' M' => v = (comeFi d x ks).val ∧ I' = I ∧ M' = M := by
  match j, hj, hd, h0, ht with
  | 0, _, hd, _, _ => rw [show comeFi d x ks = ⟨.zero, x.suc⟩ by simp [comeFi, hd]]; exact iFlows_spec (d := d) (x := x) (a := a) (n := n) (c := c)
  | 1, _, hd, _, _ => rw [show comeFi d x ks = ⟨d.ws, false⟩ by simp [comeFi, hd]]; exact iBytes_spec (d := d) (x := x) (a := a) (n := n) (c := c) hu
  | 2, _, hd, _, ht => rw [show comeFi d x ks = textFi d.t by simp [comeFi, hd]]; exact iText_spec (d := d) (x := x) (a := a) (n := n) (c := c) (ht rfl)
  | 3, _, hd, h0, _ => rw [show comeFi d x ks = ks.headD fi0 by simp [comeFi, hd]]; exact iItself_spec (d := d) (x := x) (c := c) hk (h0 (by omega))
  | 4, _, hd, _, _ => rw [show comeFi d x ks = seqFi ks by simp [comeFi, hd]]; exact iSeq_spec (d := d) (x := x) (c := c) hk hn
  | 5, _, hd, _, _ => rw [show comeFi d x ks = chFi ks by simp [comeFi, hd]]; exact iChoice_spec (d := d) (x := x) (c := c) hk hn
  | 6, _, hd, h0, _ => rw [show comeFi d x ks = repFi d (ks.headD fi0) by simp [comeFi, hd]]; exact iRep_spec (d := d) (x := x) (c := c) hk (h0 (by omega))
  | 7, _, hd, _, _ => rw [show comeFi d x ks = ⟨.zero, x.suc⟩ by simp [comeFi, hd]]; exact iFlows_spec (d := d) (x := x) (a := a) (n := n) (c := c)
  | 8, _, hd, _, _ => rw [show comeFi d x ks = ⟨.zero, x.suc⟩ by simp [comeFi, hd]]; exact iFlows_spec (d := d) (x := x) (a := a) (n := n) (c := c)
  | 9, _, hd, h0, _ => rw [show comeFi d x ks = ks.headD fi0 by simp [comeFi, hd]]; exact iItself_spec (d := d) (x := x) (c := c) hk (h0 (by omega))
end Go.V

/-
  Walks: first.nodes.
-/
set_option linter.unusedVariables false
set_option linter.unusedSimpArgs false
namespace Go.V
open Go Go.Proofs

/-! ### Rows of firsts -/
def fiRow (b : Nat) (l : List Fi) : Blk := ⟨b, .cells (l.flatMap Fi.cells).toArray 67 (0, 0)⟩
theorem fi_len (l : List Fi) : (l.flatMap Fi.cells).length = l.length * 5 := flat_len _ 5 Fi.cells_len l
theorem fiRow_rd {I : GH} {M : List Blk} {b : Nat} {l : List Fi} (hM : fiRow b l ∈ M) {j : Nat} (hj : j < l.length) : Rd I M ((⟨b, 0, none⟩ : Addr).add (j * 5)) 5 l[j].cells := by
  have h := blk_rd (I := I) (cs := l.flatMap Fi.cells) (k := j * 5) (n := 5) hM (by rw [fi_len]; omega)
  rwa [flat_at Fi.cells 5 Fi.cells_len l j hj] at h
theorem fiRow_at {I : GH} {M : List Blk} {b : Nat} {l : List Fi} (hM : fiRow b l ∈ M) : IsAt I M (some ⟨b, 0, none⟩) l.length l :=
  ⟨rfl, fun j hj => ⟨_, rfl, fiRow_rd hM hj⟩⟩
theorem fiRow_set (l : List Fi) (j : Nat) (hj : j < l.length) (x : Fi) : splice (l.flatMap Fi.cells) (j * 5) x.cells = (l.set j x).flatMap Fi.cells := by
  have e : l.flatMap Fi.cells = (l.take j).flatMap Fi.cells ++ (l[j].cells ++ (l.drop (j + 1)).flatMap Fi.cells) := by
    have h1 : l = l.take j ++ (l[j] :: l.drop (j + 1)) := by rw [← List.drop_eq_getElem_cons hj, List.take_append_drop]
    have h2 := congrArg (fun q : List Fi => q.flatMap Fi.cells) h1
    simp only [List.flatMap_append, List.flatMap_cons] at h2
    exact h2
  have hl : ((l.take j).flatMap Fi.cells).length = j * 5 := by rw [fi_len, List.length_take]; congr 1; omega
  unfold splice
  rw [List.set_eq_take_append_cons_drop, if_pos hj, List.flatMap_append, List.flatMap_cons, e, List.append_assoc]
  congr 1
  · rw [← hl, List.take_left]
  · congr 1
    rw [Fi.cells_len, ← hl, ← List.append_assoc, List.drop_left' (by rw [List.length_append, Fi.cells_len])]
theorem flatI_snoc (l : List Fi) (x : Fi) : (l ++ [x]).flatMap Fi.cells = l.flatMap Fi.cells ++ x.cells := by simp
theorem IsAt.mono {I I' : GH} {M : List Blk} {a : Option Addr} {n : Nat} {ks : List Fi} (h : IsAt I M a n ks) (hI : ∀ b o, I b = some o → I' b = some o) : IsAt I' M a n ks :=
  ⟨h.n, fun j hj => by
    obtain ⟨ad, h1, h2⟩ := h.rd j hj
    exact ⟨ad, h1, h2.mono hI⟩⟩
theorem IsAt.sub {I : GH} {M M' : List Blk} {a : Option Addr} {n : Nat} {ks : List Fi} (h : IsAt I M a n ks) (hM : ∀ x ∈ M, x ∈ M') : IsAt I M' a n ks :=
  ⟨h.n, fun j hj => by
    obtain ⟨ad, h1, h2⟩ := h.rd j hj
    exact ⟨ad, h1, h2.sub hM⟩⟩
/-- A slice of the function's own, read. -/
theorem OS.isAt {I : GH} {M : List Blk} {os : OS} {l : List Fi} {e : Nat} (h : os.ok 5 (l.flatMap Fi.cells)) (hM : ∀ x ∈ os.blk e, x ∈ M) : IsAt I M (os.a.map fun g => ⟨g, 0, none⟩) os.n l := by
  have hl := h.len
  rw [fi_len] at hl
  refine ⟨by omega, fun j hj => ?_⟩
  obtain ⟨a, n, c, cur⟩ := os
  simp only at hl
  cases a with
  | none => have := (h.nil rfl).1; simp only at this; omega
  | some g =>
    obtain ⟨h1, h2, h3, h4⟩ := h.cap g rfl
    simp only at h1 h2 h4
    refine ⟨⟨g, 0, none⟩, rfl, ?_⟩
    have hm : (⟨g, .cells cur.toArray e (0, 0)⟩ : Blk) ∈ M := hM _ (by simp [OS.blk])
    have hr := blk_rd (I := I) (cs := cur) (k := j * 5) (n := 5) hm (by omega)
    have e1 : (cur.drop (j * 5)).take 5 = ((cur.take (n * 5)).drop (j * 5)).take 5 := by
      rw [List.drop_take, List.take_take]
      congr 1
      omega
    rw [e1, h4, flat_at Fi.cells 5 Fi.cells_len l j hj] at hr
    exact hr
theorem repI_at (acc : List Fi) (n i : Nat) (hl : acc.length = i) (hi : i < n) (x : Fi) : (acc ++ List.replicate (n - i) fi0).set i x = (acc ++ [x]) ++ List.replicate (n - (i + 1)) fi0 := by
  subst hl
  rw [List.set_append_right _ _ (Nat.le_refl _), Nat.sub_self, show n - acc.length = (n - (acc.length + 1)) + 1 by omega, List.replicate_succ, List.set_cons_zero]
  simp
theorem rowOf_flat {α : Type} (f : α → List Value) (z : α) (size : Nat) (hz : (f z).length = size) (h0 : 0 < size) : ∀ n : Nat, rowOf (f z) (n * size) = (List.replicate n z).flatMap f := fun n => by
  have hlen : ((List.replicate n z).flatMap f).length = n * size := by
    induction n with
    | zero => simp
    | succ n ih => rw [List.replicate_succ, List.flatMap_cons, List.length_append, ih, hz, Nat.add_mul]; omega
  apply List.ext_getElem
  · rw [hlen]
    simp [rowOf_eq, madeCells]
  intro i h1 h2
  have h3 : i < n * size := by rw [hlen] at h2; exact h2
  have key : ∀ (n i : Nat) (h : i < ((List.replicate n z).flatMap f).length), ((List.replicate n z).flatMap f)[i] = (f z)[i % size]! := by
    intro n
    induction n with
    | zero => intro i h; simp at h
    | succ n ih =>
      intro i h
      by_cases hi : i < size
      · have e : ((List.replicate (n + 1) z).flatMap f) = f z ++ (List.replicate n z).flatMap f := by rw [List.replicate_succ, List.flatMap_cons]
        simp only [e]
        rw [List.getElem_append_left (by omega), Nat.mod_eq_of_lt hi]
        rw [getElem!_pos (f z) i (by omega)]
      · have e : ((List.replicate (n + 1) z).flatMap f) = f z ++ (List.replicate n z).flatMap f := by rw [List.replicate_succ, List.flatMap_cons]
        simp only [e] at h ⊢
        rw [List.getElem_append_right (by omega)]
        have := ih (i - (f z).length) (by rw [List.length_append] at h; omega)
        rw [this, hz, Nat.mod_eq_sub_mod (a := i) (by omega)]
  rw [key n i h2]
  simp only [rowOf, List.getElem_map, List.getElem_range, hz]
theorem rowOf_fi (n : Nat) : rowOf fi0.cells (n * 5) = (List.replicate n fi0).flatMap Fi.cells := rowOf_flat Fi.cells fi0 5 rfl (by decide) n
theorem ble_fi {acc : List Fi} {n i : Nat} (hacc : acc.length = i) (hlt : i < n) (x : Fi) : Nat.ble (0 + i * 5 + x.cells.length) ((acc ++ List.replicate (n - i) fi0).flatMap Fi.cells).length = true := by
  rw [Nat.ble_eq, fi_len, Fi.cells_len, List.length_append, List.length_replicate]
  omega
theorem firstAt_findI (nm : ByteArray) : ∀ (ds : List Df) (i : Nat), firstAt nm ds i = bif decide (findAt nm ds i < 0) then none else some (findAt nm ds i)
  | [], i => rfl
  | d :: ds, i => by
    unfold firstAt findAt
    rw [show decide (nm = d.name) = decide (d.name = nm) by rw [Bool.eq_iff_iff]; simp [eq_comm]]
    cases decide (d.name = nm) with
    | true =>
      rw [cond_true, cond_true, decide_eq_false (by omega)]
      rfl
    | false =>
      rw [cond_false, cond_false]
      exact firstAt_findI nm ds (i + 1)
theorem find_of_look {nm : ByteArray} {ds : List Df} {q : Int} (h : lookM nm (placesL ds) = some q) : findAt nm ds 0 = q := by
  rw [places_first, firstAt_findI] at h
  cases hd : decide (findAt nm ds 0 < 0) with
  | true => rw [hd] at h; cases h
  | false => rw [hd] at h; simpa using h
theorem fits_text {d : Nd} {n : Int} (h : fits d n = true) (hk : d.k = 2) : 1 ≤ d.t.size := by
  apply Nat.pos_of_ne_zero
  intro e
  have he : d.t = ⟨#[]⟩ := ByteArray.ext (Array.eq_empty_of_size_eq_zero e)
  simp [fits, hk, he] at h

/-- A tree's nodes have no more kids than go into a row of firsts. -/
def KB (t : Tr) : Prop := ∀ n ∈ t.ns, n.kn ≤ 3000000000000
set_option maxRecDepth 100000 in
set_option maxHeartbeats 16000000 in
theorem inodes_spec {I : GH} {M0 : List Blk} {g : Gr} (hg : g.ok I) {t : Tr} (ht : t.ok I) (hkb : KB t) (hr : right t = true) {la : Option Addr} {ln lc : Nat} {fl : List Fi} (hfl : IsAt I M0 la ln fl) (hc : Called (placesL g.ds) ln t.ns) {xa : Option Addr} {xc : Nat} {xs : List Fl} (hxs : FsAt I M0 xa t.n xs) :
    Spec Tryz.prog 78 [g.val, .slice la ln lc, t.val, .slice xa t.n xc] I M0 fun v I' M' => I' = I ∧ ∃ b, v = .slice (some ⟨b, 0, none⟩) t.n t.n ∧ M' = fiRow b (nodesI (placesL g.ds) fl xs t.ns []) :: M0 := by
  refine spec_of_V [] TryzEOK Tryz.func78 rfl rfl rfl ?_
  intro B h0
  have htn := ht.n
  have hgn := hg.n
  have hcap := ht.rs.cap
  have hxn := hxs.n
  refine CallOb.mk [] M0 _ (.refl _) icomes_spec ?_
  rintro v I1 M1 - ⟨rfl, rfl, rfl⟩
  refine MakeOb.mk t.n t.n rfl rfl (Nat.le_refl _) (by show 40 * t.n ≤ _; omega) (by omega) ?_
  refine AllocOb.mk fun b8 hb8 hbM8 => ?_
  refine LoopOb.inv (ι := Nat × List Fi × OS) (fun x => { fl := [(1, .val (.slice la ln lc)), (3, .val (.slice xa t.n xc)), (4, .ref 4 0), (9, .ref 9 0), (10, .val (.slice (some ⟨b8, 0, none⟩) t.n t.n)), (11, .val x.2.2.val), (22, .val (.slice t.a t.n t.c)), (23, .val (.int .i64 t.n)), (24, .val (.int .i64 x.1))], cl := [(4, [.slice g.a g.n g.c]), (9, comeIv)], gi := I1, mi := fiRow b8 (x.2.1 ++ List.replicate (t.n - x.1) fi0) :: (x.2.2.blk 67 ++ M0) })
    (fun x => x.1 ≤ t.n ∧ x.2.1.length = x.1 ∧ nodesI (placesL g.ds) fl xs t.ns [] = nodesI (placesL g.ds) fl xs (t.ns.drop x.1) x.2.1 ∧ ∃ ks, x.2.2.ok 5 ks) (fun x => t.n - x.1) ?_ ?_
  · refine ⟨(0, [], OS0), ⟨Nat.zero_le _, rfl, rfl, [], OS0_ok 5⟩, ?_, .cons .refl (.cons .refl (.cons .refl (.cons .refl (.cons .refl (.cons .refl (.cons .refl (.cons .refl (.cons .refl (.nil))))))))), .cons rfl (.cons rfl (.nil))⟩
    have e : rowOf fi0.cells (t.n * 5) = (List.replicate t.n fi0).flatMap Fi.cells := rowOf_fi t.n
    simp only [fiRow, List.nil_append, Nat.sub_zero]
    rw [← e]
    exact .refl
  rintro ⟨i, acc, ko⟩ ⟨hi, hacc, hnf, kx, hko⟩
  simp only at hi hacc hnf hko
  refine CondOb.mk (fun h => ?_) (fun h => ?_)
  rotate_left
  · have hge : i = t.n := by have : ¬ (i : Int) < (t.n : Int) := of_decide_eq_false h; omega
    subst hge
    rw [List.drop_eq_nil_of_le (by omega), nodesI] at hnf
    refine ⟨I1, fiRow b8 (acc ++ List.replicate (t.n - t.n) fi0) :: M0, .sub (.cons_cons _ (List.sublist_append_right _ _)) .refl, rfl, b8, rfl, ?_⟩
    rw [hnf, Nat.sub_self, List.replicate_zero, List.append_nil]
  have hlt : i < t.n := by have : (i : Int) < (t.n : Int) := of_decide_eq_true h; omega
  have hlt' : i < t.ns.length := by omega
  obtain ⟨ad, had, hrd⟩ := ht.rs.row Nd.cells_len hlt hlt'
  have hdm := List.getElem_mem hlt'
  have hd := ht.ns _ hdm
  have hkn := hd.kn
  have hkc := hd.rs.cap
  have hkk3 := hkb _ hdm
  have hkv := right_kids hr i hlt'
  have hft := right_fits hr hlt'
  have hcd := hc _ hdm
  obtain ⟨ax, hax, hrx⟩ := hxs.rd i (by omega)
  have hxg : xs.getD i fl0 = xs[i]'(by omega) := by simp [List.getD_eq_getElem?_getD, show i < xs.length by omega]
  have hnf' : nodesI (placesL g.ds) fl xs t.ns [] = nodesI (placesL g.ds) fl xs (t.ns.drop (i + 1)) (acc ++ [comeFi t.ns[i] (xs[i]'(by omega)) (kidsI (placesL g.ds) fl acc t.ns[i])]) := by
    rw [hnf, List.drop_eq_getElem_cons hlt', nodesI, hacc, hxg]
  generalize xs[i]'(by omega) = x at hrx hnf'
  generalize t.ns[i] = d at hrd hd hkn hkc hkk3 hkv hft hcd hnf'
  have hk0 := hd.k.1
  have hk10 := fits_k hft
  have hu : u64ok d.s0 ∧ u64ok d.s1 ∧ u64ok d.s2 ∧ u64ok d.s3 := ⟨hd.s0, hd.s1, hd.s2, hd.s3⟩
  have htx : d.k = 2 → 1 ≤ d.t.size := fits_text hft
  have hrow : ∀ {M : List Blk} {q : Int}, fiRow b8 (acc ++ List.replicate (t.n - i) fi0) ∈ M → q ∈ d.kids → Rd I1 M ((⟨b8, 0, none⟩ : Addr).add (q.toNat * 5)) 5 (acc.getD q.toNat fi0).cells := fun {M q} hM hq => by
    have hq' := hkv q hq
    have hql : q.toNat < acc.length := by omega
    have := fiRow_rd (I := I1) hM (j := q.toNat) (by rw [List.length_append]; omega)
    rw [List.getElem_append_left hql] at this
    simpa [List.getD_eq_getElem?_getD, hql] using this
  refine IdxOb.mk ad i had rfl hlt ?_
  refine LoadOb.mk _ (hrd _) ?_
  refine SliceOb.mk 0 0 rfl rfl (Nat.le_refl _) (Nat.zero_le _) ?_
  refine LoopOb.inv (ι := Nat × OS × List Fi) (fun s => { fl := [(1, .val (.slice la ln lc)), (3, .val (.slice xa t.n xc)), (4, .ref 4 0), (9, .ref 9 0), (10, .val (.slice (some ⟨b8, 0, none⟩) t.n t.n)), (11, .val s.2.1.val), (12, .val (.int .i64 i)), (13, .ref 13 0), (22, .val (.slice t.a t.n t.c)), (23, .val (.int .i64 t.n)), (24, .val (.int .i64 i)), (32, .val (.slice d.ka d.kn d.kc)), (33, .val (.int .i64 d.kn)), (34, .val (.int .i64 s.1))], cl := [(4, [.slice g.a g.n g.c]), (9, comeIv), (13, d.cells)], gi := I1, mi := fiRow b8 (acc ++ List.replicate (t.n - i) fi0) :: (s.2.1.blk 67 ++ M0) })
    (fun s => s.1 ≤ d.kn ∧ s.2.1.ok 5 (s.2.2.flatMap Fi.cells) ∧ s.2.2 = (d.kids.take s.1).map fun k => acc.getD k.toNat fi0) (fun s => d.kn - s.1) ?_ ?_
  · exact ⟨(0, ⟨ko.a, 0, ko.c, ko.cur⟩, []), ⟨Nat.zero_le _, OS.zero hko, rfl⟩, .refl, .cons .refl (.cons .refl (.cons .refl (.cons .refl (.cons .refl (.cons .refl (.cons .refl (.cons .refl (.cons .refl (.cons .refl (.cons .refl (.cons .refl (.cons .refl (.cons .refl (.nil)))))))))))))), .cons rfl (.cons rfl (.cons rfl (.nil)))⟩
  rintro ⟨k, k2, kl⟩ ⟨hk, hk2, hkl⟩
  simp only at hk hk2 hkl
  have hk2n : k2.n = kl.length := by have := hk2.len; rw [fi_len] at this; omega
  have hkll : kl.length ≤ k := by rw [hkl, List.length_map]; exact List.length_take_le _ _
  refine CondOb.mk (fun h => ?_) (fun h => ?_)
  · have hkk : k < d.kn := by have : (k : Int) < (d.kn : Int) := of_decide_eq_true h; omega
    have hkk' : k < d.kids.length := by omega
    obtain ⟨ak, hak, hrk⟩ := hd.rs.one hkk hkk'
    have hq := hkv _ (List.getElem_mem hkk')
    refine IdxOb.mk ak k hak rfl hkk ?_
    refine LoadOb.mk _ (hrk _) ?_
    refine IdxOb.mk ⟨b8, 0, none⟩ d.kids[k].toNat rfl (by omega) (by omega) ?_
    refine LoadOb.mk _ (hrow (.head _) (List.getElem_mem hkk')) ?_
    refine AllocOb.mk fun b9 hb9 hbM9 => ?_
    refine OtherOb.app1 TryzEOK rfl (by simp) (e := 67) rfl rfl rfl k2 hk2 rfl (b9 := b9) (cs := (acc.getD d.kids[k].toNat fi0).cells) rfl rfl rfl [fiRow b8 (acc ++ List.replicate (t.n - i) fi0)] M0 rfl (by omega) (by show (k2.n + 1) * 40 ≤ _; omega) ?_
    intro k3 e1 e2 e3
    refine ArithOb.mk _ (next_wr (i := k) (by omega)) ?_
    refine ⟨(k + 1, k3, kl ++ [acc.getD d.kids[k].toNat fi0]), ⟨⟨by simp only; omega, ?_, ?_⟩, by simp only; omega⟩, .refl, .cons .refl (.cons .refl (.cons .refl (.cons .refl (.cons .refl (.cons .refl (.cons .refl (.cons .refl (.cons .refl (.cons .refl (.cons .refl (.cons .refl (.cons .refl (.cons .refl (.nil)))))))))))))), .cons rfl (.cons rfl (.cons rfl (.nil)))⟩
    · simp only
      rw [flatI_snoc]
      exact e3
    · simp only
      rw [List.take_succ_eq_append_getElem hkk', List.map_append, ← hkl]
      rfl
  have hge : d.kn ≤ k := by have : ¬ (k : Int) < (d.kn : Int) := of_decide_eq_false h; omega
  rw [List.take_of_length_le (by omega)] at hkl
  have hkln : kl.length = d.kids.length := by rw [hkl, List.length_map]
  have hb2 : k2.n + 1 ≤ 140737488355328 := by omega
  clear h hk hkll
  have hset : ∀ y : Fi, splice ((acc ++ List.replicate (t.n - i) fi0).flatMap Fi.cells) (0 + i * 5) y.cells = ((acc ++ [y]) ++ List.replicate (t.n - (i + 1)) fi0).flatMap Fi.cells := fun y => by
    rw [Nat.zero_add, fiRow_set _ _ (by simp; omega), repI_at acc t.n i hacc hlt]
  have hinv : ∀ (ko2 : OS) (ks2 : List Value), ko2.ok 5 ks2 → ((i + 1 ≤ t.n ∧ (acc ++ [comeFi d x (kidsI (placesL g.ds) fl acc d)]).length = i + 1 ∧ nodesI (placesL g.ds) fl xs t.ns [] = nodesI (placesL g.ds) fl xs (t.ns.drop (i + 1)) (acc ++ [comeFi d x (kidsI (placesL g.ds) fl acc d)]) ∧ ∃ ks, ko2.ok 5 ks) ∧ t.n - (i + 1) < t.n - i) := fun ko2 ks2 h2 =>
    ⟨⟨hlt, by simp [hacc], hnf', ks2, h2⟩, by omega⟩
  by_cases h3 : d.k = 3
  · refine CondOb.mk (fun _ => ?_) (fun h => absurd h (by simp [h3]))
    obtain ⟨q, hq1, hq2⟩ := hcd h3
    have hkf : kidsI (placesL g.ds) fl acc d = kl ++ [fl.getD q fi0] := by
      rw [kidsI, ← hkl, hq1, h3]
      rfl
    have hql : q < fl.length := by rw [hfl.n]; exact hq2
    obtain ⟨al, hal, hrl⟩ := hfl.rd q hql
    have hgq : fl.getD q fi0 = fl[q] := by simp [List.getD_eq_getElem?_getD, hql]
    have hfind := find_of_look hq1
    refine CallOb.mk [] _ _ (.refl _) (Find_spec hg d.t) ?_
    rintro v I2 M2 - ⟨rfl, rfl, rfl⟩
    refine IdxOb.mk al q hal hfind hq2 ?_
    refine LoadOb.mk _ (hrl.sub fun x hx => by simp [hx]) ?_
    refine AllocOb.mk fun b9 hb9 hbM9 => ?_
    refine OtherOb.app1 TryzEOK rfl (by simp) (e := 67) rfl rfl rfl k2 hk2 rfl (b9 := b9) (cs := fl[q].cells) rfl rfl rfl [fiRow b8 (acc ++ List.replicate (t.n - i) fi0)] M0 rfl (by omega) (by show (k2.n + 1) * 40 ≤ _; omega) ?_
    intro k3 e1 e2 e3
    rw [← flatI_snoc, ← hgq, ← hkf] at e3
    have hks := OS.isAt (I := I2) (M := fiRow b8 (acc ++ List.replicate (t.n - i) fi0) :: (k3.blk 67 ++ M0)) (e := 67) e3 (fun x hx => by simp [hx])
    obtain ⟨dk, s0, s1, s2, s3, dt, lo, hi', dka, dkn, dkc, dkids⟩ := d
    simp only at h3
    subst h3
    refine CodeOb.draw TryzEOK rfl rfl rfl ?_
    refine ArrOb.mk 3 rfl (by decide) ?_
    refine IdxOb.mk ax i hax rfl hlt ?_
    refine LoadOb.mk _ (hrx.sub fun x hx => by simp [hx]) ?_
    refine PCallOb.whole _ (icome_at (d := ⟨3, s0, s1, s2, s3, dt, lo, hi', dka, dkn, dkc, dkids⟩) (x := x) hu hks (by omega) 3 (by decide) rfl (fun _ => by rw [e1]; exact Nat.succ_pos _) (fun h => absurd h (by decide))) (fun v I' M' h x hx => by rw [h.2.2]; exact hx) ?_
    rintro v I3 M3 - ⟨rfl, rfl, rfl⟩
    refine IdxOb.mk ⟨b8, 0, none⟩ i rfl rfl hlt ?_
    refine StoreOb.addTo [] (k3.blk 67 ++ M0) ((acc ++ List.replicate (t.n - i) fi0).flatMap Fi.cells) _ rfl (ble_fi hacc hlt _) rfl _ (hset _) ?_
    refine ArithOb.mk _ (next_wr (i := i) (by omega)) ?_
    exact ⟨(i + 1, _, k3), hinv _ _ e3, .refl, .cons .refl (.cons .refl (.cons .refl (.cons .refl (.cons .refl (.cons .refl (.cons .refl (.cons .refl (.cons .refl (.nil))))))))), .cons rfl (.cons rfl (.nil))⟩
  refine CondOb.mk (fun h => absurd (of_decide_eq_true h) h3) (fun _ => ?_)
  have hkf : kidsI (placesL g.ds) fl acc d = kl := by
    rw [kidsI, ← hkl, decide_eq_false h3]
    simp
  rw [hkf] at hinv
  have hks := OS.isAt (I := I1) (M := fiRow b8 (acc ++ List.replicate (t.n - i) fi0) :: (k2.blk 67 ++ M0)) (e := 67) hk2 (fun x hx => by simp [hx])
  have hpos : 6 ≤ d.k → 0 < k2.n := fun h6 => by
    have := fits_kid hk0 hft h6
    omega
  have hcases : d.k = 0 ∨ d.k = 1 ∨ d.k = 2 ∨ d.k = 4 ∨ d.k = 5 ∨ d.k = 6 ∨ d.k = 7 ∨ d.k = 8 ∨ d.k = 9 := by omega
  obtain ⟨dk, s0, s1, s2, s3, dt, lo, hi', dka, dkn, dkc, dkids⟩ := d
  simp only at hcases hpos h3 htx
  refine CodeOb.draw TryzEOK rfl rfl rfl ?_
  rcases hcases with rfl | rfl | rfl | rfl | rfl | rfl | rfl | rfl | rfl
  · refine ArrOb.mk 0 rfl (by decide) ?_
    refine IdxOb.mk ax i hax rfl hlt ?_
    refine LoadOb.mk _ (hrx.sub fun x hx => by simp [hx]) ?_
    refine PCallOb.whole _ (icome_at (d := ⟨0, s0, s1, s2, s3, dt, lo, hi', dka, dkn, dkc, dkids⟩) (x := x) hu hks (Nat.le_of_succ_le hb2) 0 (by decide) rfl (fun h => by omega) (fun h => absurd h (by decide))) (fun v I' M' h x hx => by rw [h.2.2]; exact hx) ?_
    rintro v I2 M2 - ⟨rfl, rfl, rfl⟩
    refine IdxOb.mk ⟨b8, 0, none⟩ i rfl rfl hlt ?_
    refine StoreOb.addTo [] (k2.blk 67 ++ M0) ((acc ++ List.replicate (t.n - i) fi0).flatMap Fi.cells) _ rfl (ble_fi hacc hlt _) rfl _ (hset _) ?_
    refine ArithOb.mk _ (next_wr (i := i) (by omega)) ?_
    exact ⟨(i + 1, _, k2), hinv _ _ hk2, .refl, .cons .refl (.cons .refl (.cons .refl (.cons .refl (.cons .refl (.cons .refl (.cons .refl (.cons .refl (.cons .refl (.nil))))))))), .cons rfl (.cons rfl (.nil))⟩
  · refine ArrOb.mk 1 rfl (by decide) ?_
    refine IdxOb.mk ax i hax rfl hlt ?_
    refine LoadOb.mk _ (hrx.sub fun x hx => by simp [hx]) ?_
    refine PCallOb.whole _ (icome_at (d := ⟨1, s0, s1, s2, s3, dt, lo, hi', dka, dkn, dkc, dkids⟩) (x := x) hu hks (Nat.le_of_succ_le hb2) 1 (by decide) rfl (fun h => by omega) (fun h => absurd h (by decide))) (fun v I' M' h x hx => by rw [h.2.2]; exact hx) ?_
    rintro v I2 M2 - ⟨rfl, rfl, rfl⟩
    refine IdxOb.mk ⟨b8, 0, none⟩ i rfl rfl hlt ?_
    refine StoreOb.addTo [] (k2.blk 67 ++ M0) ((acc ++ List.replicate (t.n - i) fi0).flatMap Fi.cells) _ rfl (ble_fi hacc hlt _) rfl _ (hset _) ?_
    refine ArithOb.mk _ (next_wr (i := i) (by omega)) ?_
    exact ⟨(i + 1, _, k2), hinv _ _ hk2, .refl, .cons .refl (.cons .refl (.cons .refl (.cons .refl (.cons .refl (.cons .refl (.cons .refl (.cons .refl (.cons .refl (.nil))))))))), .cons rfl (.cons rfl (.nil))⟩
  · refine ArrOb.mk 2 rfl (by decide) ?_
    refine IdxOb.mk ax i hax rfl hlt ?_
    refine LoadOb.mk _ (hrx.sub fun x hx => by simp [hx]) ?_
    refine PCallOb.whole _ (icome_at (d := ⟨2, s0, s1, s2, s3, dt, lo, hi', dka, dkn, dkc, dkids⟩) (x := x) hu hks (Nat.le_of_succ_le hb2) 2 (by decide) rfl (fun h => by omega) (fun _ => htx rfl)) (fun v I' M' h x hx => by rw [h.2.2]; exact hx) ?_
    rintro v I2 M2 - ⟨rfl, rfl, rfl⟩
    refine IdxOb.mk ⟨b8, 0, none⟩ i rfl rfl hlt ?_
    refine StoreOb.addTo [] (k2.blk 67 ++ M0) ((acc ++ List.replicate (t.n - i) fi0).flatMap Fi.cells) _ rfl (ble_fi hacc hlt _) rfl _ (hset _) ?_
    refine ArithOb.mk _ (next_wr (i := i) (by omega)) ?_
    exact ⟨(i + 1, _, k2), hinv _ _ hk2, .refl, .cons .refl (.cons .refl (.cons .refl (.cons .refl (.cons .refl (.cons .refl (.cons .refl (.cons .refl (.cons .refl (.nil))))))))), .cons rfl (.cons rfl (.nil))⟩
  · refine ArrOb.mk 4 rfl (by decide) ?_
    refine IdxOb.mk ax i hax rfl hlt ?_
    refine LoadOb.mk _ (hrx.sub fun x hx => by simp [hx]) ?_
    refine PCallOb.whole _ (icome_at (d := ⟨4, s0, s1, s2, s3, dt, lo, hi', dka, dkn, dkc, dkids⟩) (x := x) hu hks (Nat.le_of_succ_le hb2) 4 (by decide) rfl (fun h => by omega) (fun h => absurd h (by decide))) (fun v I' M' h x hx => by rw [h.2.2]; exact hx) ?_
    rintro v I2 M2 - ⟨rfl, rfl, rfl⟩
    refine IdxOb.mk ⟨b8, 0, none⟩ i rfl rfl hlt ?_
    refine StoreOb.addTo [] (k2.blk 67 ++ M0) ((acc ++ List.replicate (t.n - i) fi0).flatMap Fi.cells) _ rfl (ble_fi hacc hlt _) rfl _ (hset _) ?_
    refine ArithOb.mk _ (next_wr (i := i) (by omega)) ?_
    exact ⟨(i + 1, _, k2), hinv _ _ hk2, .refl, .cons .refl (.cons .refl (.cons .refl (.cons .refl (.cons .refl (.cons .refl (.cons .refl (.cons .refl (.cons .refl (.nil))))))))), .cons rfl (.cons rfl (.nil))⟩
  · refine ArrOb.mk 5 rfl (by decide) ?_
    refine IdxOb.mk ax i hax rfl hlt ?_
    refine LoadOb.mk _ (hrx.sub fun x hx => by simp [hx]) ?_
    refine PCallOb.whole _ (icome_at (d := ⟨5, s0, s1, s2, s3, dt, lo, hi', dka, dkn, dkc, dkids⟩) (x := x) hu hks (Nat.le_of_succ_le hb2) 5 (by decide) rfl (fun h => by omega) (fun h => absurd h (by decide))) (fun v I' M' h x hx => by rw [h.2.2]; exact hx) ?_
    rintro v I2 M2 - ⟨rfl, rfl, rfl⟩
    refine IdxOb.mk ⟨b8, 0, none⟩ i rfl rfl hlt ?_
    refine StoreOb.addTo [] (k2.blk 67 ++ M0) ((acc ++ List.replicate (t.n - i) fi0).flatMap Fi.cells) _ rfl (ble_fi hacc hlt _) rfl _ (hset _) ?_
    refine ArithOb.mk _ (next_wr (i := i) (by omega)) ?_
    exact ⟨(i + 1, _, k2), hinv _ _ hk2, .refl, .cons .refl (.cons .refl (.cons .refl (.cons .refl (.cons .refl (.cons .refl (.cons .refl (.cons .refl (.cons .refl (.nil))))))))), .cons rfl (.cons rfl (.nil))⟩
  · refine ArrOb.mk 6 rfl (by decide) ?_
    refine IdxOb.mk ax i hax rfl hlt ?_
    refine LoadOb.mk _ (hrx.sub fun x hx => by simp [hx]) ?_
    refine PCallOb.whole _ (icome_at (d := ⟨6, s0, s1, s2, s3, dt, lo, hi', dka, dkn, dkc, dkids⟩) (x := x) hu hks (Nat.le_of_succ_le hb2) 6 (by decide) rfl (fun _ => hpos (by decide)) (fun h => absurd h (by decide))) (fun v I' M' h x hx => by rw [h.2.2]; exact hx) ?_
    rintro v I2 M2 - ⟨rfl, rfl, rfl⟩
    refine IdxOb.mk ⟨b8, 0, none⟩ i rfl rfl hlt ?_
    refine StoreOb.addTo [] (k2.blk 67 ++ M0) ((acc ++ List.replicate (t.n - i) fi0).flatMap Fi.cells) _ rfl (ble_fi hacc hlt _) rfl _ (hset _) ?_
    refine ArithOb.mk _ (next_wr (i := i) (by omega)) ?_
    exact ⟨(i + 1, _, k2), hinv _ _ hk2, .refl, .cons .refl (.cons .refl (.cons .refl (.cons .refl (.cons .refl (.cons .refl (.cons .refl (.cons .refl (.cons .refl (.nil))))))))), .cons rfl (.cons rfl (.nil))⟩
  · refine ArrOb.mk 7 rfl (by decide) ?_
    refine IdxOb.mk ax i hax rfl hlt ?_
    refine LoadOb.mk _ (hrx.sub fun x hx => by simp [hx]) ?_
    refine PCallOb.whole _ (icome_at (d := ⟨7, s0, s1, s2, s3, dt, lo, hi', dka, dkn, dkc, dkids⟩) (x := x) hu hks (Nat.le_of_succ_le hb2) 7 (by decide) rfl (fun h => by omega) (fun h => absurd h (by decide))) (fun v I' M' h x hx => by rw [h.2.2]; exact hx) ?_
    rintro v I2 M2 - ⟨rfl, rfl, rfl⟩
    refine IdxOb.mk ⟨b8, 0, none⟩ i rfl rfl hlt ?_
    refine StoreOb.addTo [] (k2.blk 67 ++ M0) ((acc ++ List.replicate (t.n - i) fi0).flatMap Fi.cells) _ rfl (ble_fi hacc hlt _) rfl _ (hset _) ?_
    refine ArithOb.mk _ (next_wr (i := i) (by omega)) ?_
    exact ⟨(i + 1, _, k2), hinv _ _ hk2, .refl, .cons .refl (.cons .refl (.cons .refl (.cons .refl (.cons .refl (.cons .refl (.cons .refl (.cons .refl (.cons .refl (.nil))))))))), .cons rfl (.cons rfl (.nil))⟩
  · refine ArrOb.mk 8 rfl (by decide) ?_
    refine IdxOb.mk ax i hax rfl hlt ?_
    refine LoadOb.mk _ (hrx.sub fun x hx => by simp [hx]) ?_
    refine PCallOb.whole _ (icome_at (d := ⟨8, s0, s1, s2, s3, dt, lo, hi', dka, dkn, dkc, dkids⟩) (x := x) hu hks (Nat.le_of_succ_le hb2) 8 (by decide) rfl (fun h => by omega) (fun h => absurd h (by decide))) (fun v I' M' h x hx => by rw [h.2.2]; exact hx) ?_
    rintro v I2 M2 - ⟨rfl, rfl, rfl⟩
    refine IdxOb.mk ⟨b8, 0, none⟩ i rfl rfl hlt ?_
    refine StoreOb.addTo [] (k2.blk 67 ++ M0) ((acc ++ List.replicate (t.n - i) fi0).flatMap Fi.cells) _ rfl (ble_fi hacc hlt _) rfl _ (hset _) ?_
    refine ArithOb.mk _ (next_wr (i := i) (by omega)) ?_
    exact ⟨(i + 1, _, k2), hinv _ _ hk2, .refl, .cons .refl (.cons .refl (.cons .refl (.cons .refl (.cons .refl (.cons .refl (.cons .refl (.cons .refl (.cons .refl (.nil))))))))), .cons rfl (.cons rfl (.nil))⟩
  · refine ArrOb.mk 9 rfl (by decide) ?_
    refine IdxOb.mk ax i hax rfl hlt ?_
    refine LoadOb.mk _ (hrx.sub fun x hx => by simp [hx]) ?_
    refine PCallOb.whole _ (icome_at (d := ⟨9, s0, s1, s2, s3, dt, lo, hi', dka, dkn, dkc, dkids⟩) (x := x) hu hks (Nat.le_of_succ_le hb2) 9 (by decide) rfl (fun _ => hpos (by decide)) (fun h => absurd h (by decide))) (fun v I' M' h x hx => by rw [h.2.2]; exact hx) ?_
    rintro v I2 M2 - ⟨rfl, rfl, rfl⟩
    refine IdxOb.mk ⟨b8, 0, none⟩ i rfl rfl hlt ?_
    refine StoreOb.addTo [] (k2.blk 67 ++ M0) ((acc ++ List.replicate (t.n - i) fi0).flatMap Fi.cells) _ rfl (ble_fi hacc hlt _) rfl _ (hset _) ?_
    refine ArithOb.mk _ (next_wr (i := i) (by omega)) ?_
    exact ⟨(i + 1, _, k2), hinv _ _ hk2, .refl, .cons .refl (.cons .refl (.cons .refl (.cons .refl (.cons .refl (.cons .refl (.cons .refl (.cons .refl (.cons .refl (.nil))))))))), .cons rfl (.cons rfl (.nil))⟩
end Go.V

/-
  Walks: first.Of, Nodes, Tree.
-/
set_option linter.unusedVariables false
set_option linter.unusedSimpArgs false
namespace Go.V
open Go Go.Proofs

/-- The rows of flows of the rules' bodies, known. -/
def rowV (b : Nat) (n : Nat) : Value := .slice (some ⟨b, 0, none⟩) n n
structure RowsF (I : GH) (pl : List (ByteArray × Int)) (F : List Fl) (ds : List Df) (k : Nat) (rows : List Value) : Prop where
  len : rows.length = ds.length
  row : ∀ i (h : i < ds.length), i < k → ∃ b, rows[i]? = some (rowV b ds[i].t.n) ∧ I b = some (flRow b (nodesF pl F ds[i].t.ns [])).obj
theorem RowsF.mono {I I' : GH} {pl : List (ByteArray × Int)} {F : List Fl} {ds : List Df} {k : Nat} {rows : List Value} (h : RowsF I pl F ds k rows) (hI : ∀ b o, I b = some o → I' b = some o) : RowsF I' pl F ds k rows :=
  ⟨h.len, fun i hi hk => by
    obtain ⟨b, h1, h2⟩ := h.row i hi hk
    exact ⟨b, h1, hI _ _ h2⟩⟩
theorem flRow_kn {I : GH} {M : List Blk} {b : Nat} {l : List Fl} (h : I b = some (flRow b l).obj) : FsAt I M (some ⟨b, 0, none⟩) l.length l :=
  ⟨rfl, fun j hj => ⟨_, rfl, by
    have h1 := flRow_rd (I := I) (M := [flRow b l]) (.head _) hj
    obtain ⟨q1, cs, T, f, q2, q3, q4⟩ := h1
    rw [addr_add _ rfl] at q2 ⊢
    refine ⟨rfl, (l.flatMap Fl.cells).toArray, _, _, .inl h, ?_, q4⟩
    rcases q2 with q2 | ⟨x, hx, e1, e2⟩
    · rw [addr_add _ rfl] at q3
      have : some (Obj.cells cs T f) = some (flRow b l).obj := q2.symm.trans h
      simp only [flRow, Option.some.injEq, Obj.cells.injEq] at this
      rw [← this.1]
      exact q3
    · simp only [List.mem_singleton] at hx
      subst hx
      rw [addr_add _ rfl] at q3
      simp only [flRow, Obj.cells.injEq] at e2
      rw [e2.1]
      exact q3⟩⟩
def iM (b6 bl b7 bF b1 : Nat) (g : Gr) (l : List Fi) (rows : List Value) : List Blk := [⟨b6, .cells #[.slice (some ⟨bl, 0, none⟩) g.n g.n] 49 (0, 0)⟩, ⟨b7, .cells #[.slice (some ⟨bF, 0, none⟩) g.n g.n] 134 (0, 0)⟩, fiRow bl l, ⟨bF, .cells rows.toArray 74 (0, 0)⟩, ⟨b1, .cells #[.slice g.a g.n g.c] 24 (0, 0)⟩]
theorem blkI_rd0 {I : GH} {M : List Blk} {b : Nat} {f : Fi} (hM : (⟨b, .cells f.cells.toArray 67 (0, 0)⟩ : Blk) ∈ M) : Rd I M (⟨b, 0, none⟩ : Addr) 5 f.cells := ⟨rfl, _, _, _, .inr ⟨_, hM, rfl, rfl⟩, rfl, rfl⟩
theorem ble_rowI {l : List Fi} {i : Nat} (hi : i < l.length) {x : Fi} : Nat.ble (0 + i * 5 + x.cells.length) (l.flatMap Fi.cells).length = true := by
  rw [Nat.ble_eq, fi_len, Fi.cells_len]
  omega
theorem splice_oneI (l : List Value) (k : Nat) (v : Value) (h : k < l.length) : splice l k [v] = l.set k v := by
  rw [splice, List.set_eq_take_append_cons_drop, if_pos h]
  simp
theorem roundR_step {α : Type} (body : List α → Nat → α) {i n : Nat} (h : i < n) (l : List α) : roundR body i (n - i) l = roundR body (i + 1) (n - (i + 1)) (l.set i (body l i)) := by
  rw [show n - i = (n - (i + 1)) + 1 by omega, roundR]
theorem bodyI_mono' {pl : List (ByteArray × Int)} {F : List Fl} {ds : List Df} {n : Nat} : ∀ {l m : List Fi}, LeR OI l m → ∀ i, i < n → OI.le (bodyI pl F ds l i) (bodyI pl F ds m i) := fun h i _ => bodyI_mono h i

set_option maxRecDepth 100000 in
set_option maxHeartbeats 8000000 in
theorem IOf1_spec {I : GH} {g : Gr} (hg : g.ok I) (hkb : ∀ d ∈ g.ds, KB d.t) (hm : MayF g) {F : List Fl} {rows : List Value} (hrows : RowsF I (placesL g.ds) F g.ds g.ds.length rows) {b6 bl b7 bF b1 : Nat} {l0 : List Fi} (hl0 : PreI g.ds F l0) :
    Spec Tryz.prog 77 [ptr b1, ptr b6, ptr b7] I (iM b6 bl b7 bF b1 g l0 rows) fun v I' M' => v = .bool (decide (roundR (bodyI (placesL g.ds) F g.ds) 0 g.n l0 ≠ l0)) ∧ I' = I ∧ M' = iM b6 bl b7 bF b1 g (roundR (bodyI (placesL g.ds) F g.ds) 0 g.n l0) rows := by
  refine spec_of_V [] TryzEOK Tryz.func77 rfl rfl rfl ?_
  intro B h0
  have hgn := hg.n
  have hcap := hg.rs.cap
  have rd1 : ∀ {M : List Blk}, (⟨b1, .cells #[.slice g.a g.n g.c] 24 (0, 0)⟩ : Blk) ∈ M → Rd I M ((⟨b1, 0, none⟩ : Addr).add 0) 1 [.slice g.a g.n g.c] := fun hM => blk_rd (cs := [.slice g.a g.n g.c]) (k := 0) (n := 1) hM (by simp)
  have rd1' : ∀ {M : List Blk}, (⟨b1, .cells #[.slice g.a g.n g.c] 24 (0, 0)⟩ : Blk) ∈ M → Rd I M (⟨b1, 0, none⟩ : Addr) 1 [.slice g.a g.n g.c] := fun hM => ⟨rfl, _, _, _, .inr ⟨_, hM, rfl, rfl⟩, rfl, rfl⟩
  have rd6 : ∀ {M : List Blk}, (⟨b6, .cells #[.slice (some ⟨bl, 0, none⟩) g.n g.n] 49 (0, 0)⟩ : Blk) ∈ M → Rd I M (⟨b6, 0, none⟩ : Addr) 1 [.slice (some ⟨bl, 0, none⟩) g.n g.n] := fun hM => ⟨rfl, _, _, _, .inr ⟨_, hM, rfl, rfl⟩, rfl, rfl⟩
  have rd7 : ∀ {M : List Blk}, (⟨b7, .cells #[.slice (some ⟨bF, 0, none⟩) g.n g.n] 134 (0, 0)⟩ : Blk) ∈ M → Rd I M (⟨b7, 0, none⟩ : Addr) 1 [.slice (some ⟨bF, 0, none⟩) g.n g.n] := fun hM => ⟨rfl, _, _, _, .inr ⟨_, hM, rfl, rfl⟩, rfl, rfl⟩
  refine LoadOb.mk _ (rd1 (by simp [iM])) ?_
  refine LoopOb.inv (ι := Nat × List Fi) (fun x => { fl := [(0, .val (ptr b1)), (1, .val (ptr b6)), (2, .val (ptr b7)), (4, .val (.bool (decide (x.2 ≠ l0)))), (9, .val (.slice g.a g.n g.c)), (10, .val (.int .i64 g.n)), (11, .val (.int .i64 x.1))], gi := I, mi := iM b6 bl b7 bF b1 g x.2 rows })
    (fun x => x.1 ≤ g.n ∧ PreI g.ds F x.2 ∧ LeR OI l0 x.2 ∧ roundR (bodyI (placesL g.ds) F g.ds) 0 g.n l0 = roundR (bodyI (placesL g.ds) F g.ds) x.1 (g.n - x.1) x.2) (fun x => g.n - x.1) ?_ ?_
  · refine ⟨(0, l0), ⟨Nat.zero_le _, hl0, LeR.refl _, rfl⟩, .refl, .cons .refl (.cons .refl (.cons .refl (.cons ?_ (.cons .refl (.cons .refl (.cons .refl .nil)))))), .nil⟩
    exact sv_lit (by simp)
  rintro ⟨i, l⟩ ⟨hi, hP, hle, hgo⟩
  simp only at hi hP hle hgo
  have hll := hP.len
  refine CondOb.mk (fun h => ?_) (fun h => ?_)
  rotate_left
  · have hge : i = g.n := by have : ¬ (i : Int) < (g.n : Int) := of_decide_eq_false h; omega
    rw [hge, Nat.sub_self, roundR] at hgo
    exact ⟨_, _, .refl, by rw [hgo], rfl, by rw [hgo]⟩
  have hlt : i < g.n := by have : (i : Int) < (g.n : Int) := of_decide_eq_true h; omega
  have hlt' : i < g.ds.length := by omega
  have hil : i < l.length := by omega
  obtain ⟨ad, had, hrd⟩ := hg.rs.row Df.cells_len hlt hlt'
  have hdm := List.getElem_mem hlt'
  have hd := hg.ds _ hdm
  have hr := hm.right _ hdm
  have hkbd := hkb _ hdm
  have hca := called_of (hm.named _ hdm)
  rw [show g.ds.length = l.length from hll.symm] at hca
  obtain ⟨hP', hle'⟩ := PreR.step bodyI_mono' hP hlt'
  have hgo' : roundR (bodyI (placesL g.ds) F g.ds) 0 g.n l0 = roundR (bodyI (placesL g.ds) F g.ds) (i + 1) (g.n - (i + 1)) (l.set i (bodyI (placesL g.ds) F g.ds l i)) := by
    rw [hgo, roundR_step _ hlt]
  obtain ⟨bk, hbk1, hbk2⟩ := hrows.row i hlt' hlt'
  have hrl2 : i < rows.length := by rw [hrows.len]; exact hlt'
  have hbody : bodyI (placesL g.ds) F g.ds l i = (nodesI (placesL g.ds) l (nodesF (placesL g.ds) F g.ds[i].t.ns []) g.ds[i].t.ns []).getD g.ds[i].t.root.toNat fi0 := by
    unfold bodyI
    rw [List.getElem?_eq_getElem hlt']
  generalize bodyI (placesL g.ds) F g.ds l i = f at hP' hle' hgo' hbody
  generalize g.ds[i] = d at hrd hd hr hkbd hca hbody hbk1 hbk2
  have hroot := right_root hr
  have htn := hd.t.n
  have hxl := nodesF_len (placesL g.ds) F d.t.ns []
  simp only [List.length_nil, Nat.zero_add] at hxl
  have hnl := nodesI_len (placesL g.ds) l (nodesF (placesL g.ds) F d.t.ns []) d.t.ns []
  simp only [List.length_nil, Nat.zero_add] at hnl
  have hrl : d.t.root.toNat < (nodesI (placesL g.ds) l (nodesF (placesL g.ds) F d.t.ns []) d.t.ns []).length := by omega
  have hfe : (nodesI (placesL g.ds) l (nodesF (placesL g.ds) F d.t.ns []) d.t.ns [])[d.t.root.toNat] = f := by
    rw [hbody]
    simp [List.getD_eq_getElem?_getD, hrl]
  have hxs : ∀ M, FsAt I M (some ⟨bk, 0, none⟩) d.t.n (nodesF (placesL g.ds) F d.t.ns []) := fun M => by
    have := flRow_kn (I := I) (M := M) hbk2
    rwa [hxl, htn] at this
  have hspec : ∀ {M : List Blk}, fiRow bl l ∈ M → Spec Tryz.prog 78 [g.val, .slice (some ⟨bl, 0, none⟩) g.n g.n, d.t.val, .slice (some ⟨bk, 0, none⟩) d.t.n d.t.n] I M fun v I' M' => I' = I ∧ ∃ b, v = .slice (some ⟨b, 0, none⟩) d.t.n d.t.n ∧ M' = fiRow b (nodesI (placesL g.ds) l (nodesF (placesL g.ds) F d.t.ns []) d.t.ns []) :: M := fun {M} hM => by
    have hat := fiRow_at (I := I) hM
    have := inodes_spec (M0 := M) (lc := g.n) (xc := d.t.n) hg hd.t hkbd hr hat hca (hxs M)
    rwa [show l.length = g.n by omega] at this
  refine IdxOb.mk ad i had rfl hlt ?_
  refine LoadOb.mk _ (hrd _) ?_
  have hlf : l.getD i fi0 = l[i] := by simp [List.getD_eq_getElem?_getD, hil]
  have more : (!decide (f = l[i])) = true → decide (l.set i f ≠ l0) = true := fun h => by
    have hne : f ≠ l[i] := by simpa using h
    rw [decide_eq_true_eq]
    intro e
    have e2 : l.set i f = l := by
      refine LeR.anti (O := OI) ?_ hle'
      rw [e]
      exact hle
    have h3 := set_getR l fi0 i i f hil
    rw [e2, if_pos rfl, hlf] at h3
    exact hne h3.symm
  have same : (!decide (f = l[i])) = false → l.set i f = l := fun h => by
    have he : f = l[i] := by simpa using h
    rw [he]
    exact List.set_getElem_self hil
  have rdF : ∀ {M : List Blk}, (⟨bF, .cells rows.toArray 74 (0, 0)⟩ : Blk) ∈ M → Rd I M ((⟨bF, 0, none⟩ : Addr).add (i * 1)) 1 [rowV bk d.t.n] := fun hM => by
    have h := blk_rd (I := I) (cs := rows) (k := i) (n := 1) hM (by omega)
    have hri : rows[i] = rowV bk d.t.n := by
      have := hbk1
      rw [List.getElem?_eq_getElem hrl2] at this
      exact Option.some.inj this
    rw [List.drop_eq_getElem_cons hrl2, List.take_succ_cons, List.take_zero, hri] at h
    rw [Nat.mul_one]
    exact h
  refine CodeOb.drawC TryzEOK rfl rfl rfl (ι := Nat) (fun s => { fl := [(0, .val (ptr b1)), (1, .val (ptr b6)), (2, .val (ptr b7)), (4, .val (.bool (decide (l ≠ l0)))), (5, .val (.int .i64 i)), (7, .val (ptr s)), (9, .val (.slice g.a g.n g.c)), (10, .val (.int .i64 g.n)), (11, .val (.int .i64 i))], gi := I, mi := ⟨s, .cells f.cells.toArray 67 (0, 0)⟩ :: iM b6 bl b7 bF b1 g l rows }) (fun _ => True) ?_ ?_
  · refine LoadOb.mk _ (rd1' (by simp [iM])) ?_
    refine LoadOb.mk _ (rd6 (by simp [iM])) ?_
    refine LoadOb.mk _ (rd7 (by simp [iM])) ?_
    refine IdxOb.mk ⟨bF, 0, none⟩ i rfl rfl hlt ?_
    refine LoadOb.mk _ (rdF (by simp [iM])) ?_
    refine ⟨?_, ?_⟩
    · refine PCallOb.whole _ (hspec (by simp [iM])) (fun v I' M' h x hx => by obtain ⟨-, b, -, rfl⟩ := h; exact .tail _ hx) ?_
      rintro v I2 M2 - ⟨rfl, b, rfl, rfl⟩
      refine IdxOb.mk ⟨b, 0, none⟩ d.t.root.toNat rfl (by omega) (by omega) ?_
      refine LoadOb.mk _ (fiRow_rd (.head _) hrl) ?_
      rw [hfe]
      refine AllocOb.mk fun s hs hsM => ?_
      refine StoreOb.to [] _ _ _ rfl rfl rfl rfl f.cells rfl ?_
      exact ⟨s, trivial, .sub (.cons_cons _ (.cons _ (.refl _))) .refl, .cons .refl (.cons .refl (.cons .refl (.cons .refl (.cons .refl (.cons .refl (.cons .refl (.cons .refl (.cons .refl (.nil))))))))), .nil⟩
    · refine AllocOb.mk fun s hs hsM => ?_
      refine PCallOb.whole _ (hspec (by simp [iM])) (fun v I' M' h x hx => by obtain ⟨-, b, -, rfl⟩ := h; exact .tail _ hx) ?_
      rintro v I2 M2 - ⟨rfl, b, rfl, rfl⟩
      refine IdxOb.mk ⟨b, 0, none⟩ d.t.root.toNat rfl (by omega) (by omega) ?_
      refine LoadOb.mk _ (fiRow_rd (.head _) hrl) ?_
      rw [hfe]
      refine StoreOb.to [_] _ _ _ rfl rfl rfl rfl f.cells rfl ?_
      exact ⟨s, trivial, .sub (.cons _ (.refl _)) .refl, .cons .refl (.cons .refl (.cons .refl (.cons .refl (.cons .refl (.cons .refl (.cons .refl (.cons .refl (.cons .refl (.nil))))))))), .nil⟩
  rintro s -
  refine CodeOb.draw TryzEOK rfl rfl rfl ?_
  refine LoadOb.mk f.cells (blkI_rd0 (by simp)) ?_
  refine LoadOb.mk _ (rd6 (by simp [iM])) ?_
  refine IdxOb.mk ⟨bl, 0, none⟩ i rfl rfl hlt ?_
  refine LoadOb.mk _ (fiRow_rd (by simp [iM]) hil) ?_
  refine BinOb.neI (p := f) (q := l[i]) ?_
  refine CondOb.mk (fun h => ?_) (fun h => ?_)
  · refine LoadOb.mk _ (rd6 (by simp [iM])) ?_
    refine LoadOb.mk f.cells (blkI_rd0 (by simp)) ?_
    refine IdxOb.mk ⟨bl, 0, none⟩ i rfl rfl hlt ?_
    refine StoreOb.addTo [⟨s, .cells f.cells.toArray 67 (0, 0)⟩, ⟨b6, .cells #[.slice (some ⟨bl, 0, none⟩) g.n g.n] 49 (0, 0)⟩, ⟨b7, .cells #[.slice (some ⟨bF, 0, none⟩) g.n g.n] 134 (0, 0)⟩] [⟨bF, .cells rows.toArray 74 (0, 0)⟩, ⟨b1, .cells #[.slice g.a g.n g.c] 24 (0, 0)⟩] (l.flatMap Fi.cells) _ rfl (ble_rowI hil) rfl ((l.set i f).flatMap Fi.cells) (by rw [Nat.zero_add]; exact fiRow_set l i hil f) ?_
    refine ArithOb.mk _ (next_wr (i := i) (by omega)) ?_
    exact ⟨(i + 1, l.set i f), ⟨⟨by simp only; omega, hP', hle.trans hle', hgo'⟩, by simp only; omega⟩, .sub (M1 := iM b6 bl b7 bF b1 g (l.set i f) rows) (by exact .cons _ (.refl _)) .refl, .cons .refl (.cons .refl (.cons .refl (.cons (sv_lit (more h).symm) (.cons .refl (.cons .refl (.cons .refl .nil)))))), .nil⟩
  · have he : l.set i f = l := same h
    rw [he] at hgo'
    refine ArithOb.mk _ (next_wr (i := i) (by omega)) ?_
    exact ⟨(i + 1, l), ⟨⟨by simp only; omega, hP, hle, hgo'⟩, by simp only; omega⟩, .sub (M1 := iM b6 bl b7 bF b1 g l rows) (by exact .cons _ (.refl _)) .refl, .cons .refl (.cons .refl (.cons .refl (.cons .refl (.cons .refl (.cons .refl (.cons .refl .nil)))))), .nil⟩
end Go.V

/-
  Walks: first.Of, Nodes, Tree, from their inner parts.
-/
set_option linter.unusedVariables false
set_option linter.unusedSimpArgs false
namespace Go.V
open Go Go.Proofs

theorem permI5 {α : Type} (a b c d e : α) : [a, b, c, d, e].Perm [c, a, d, b, e] := (List.perm_middle (l₁ := [a, b]) (l₂ := [d, e])).trans (.cons _ (.cons _ (.swap _ _ _)))
def nilV : Value := .slice none 0 0
theorem rowOf_nil (n : Nat) : rowOf [nilV] (n * 1) = List.replicate n nilV := by
  have key : ∀ n : Nat, (List.replicate n nilV).flatMap (fun v : Value => [v]) = List.replicate n nilV := by
    intro n
    induction n with
    | zero => rfl
    | succ n ih => rw [List.replicate_succ, List.flatMap_cons, ih]; rfl
  exact (rowOf_flat (fun v : Value => [v]) nilV 1 rfl (by decide) n).trans (key n)
set_option maxRecDepth 100000 in
set_option maxHeartbeats 8000000 in
theorem IOf_spec {I : GH} {deb : List Int} (hT : Tabs I deb) {g : Gr} (hg : g.ok I) (hkb : ∀ d ∈ g.ds, KB d.t) : Spec Tryz.prog 36 [g.val] I [] fun v I' M' => (∀ b o, I b = some o → I' b = some o) ∧
    ((mayG deb g ≠ 0 ∧ v = .tuple #[.slice none 0 0, .int .i64 (mayG deb g)] ∧ M' = []) ∨ (mayG deb g = 0 ∧ ∃ F b l, IsFlow g.ds F ∧ IsFirst g.ds F l ∧ v = .tuple #[.slice (some ⟨b, 0, none⟩) g.n g.n, .int .i64 0] ∧ M' = [fiRow b l])) := by
  refine spec_of_V [1, 6, 7] TryzEOK Tryz.func36 rfl rfl rfl ?_
  intro B h0
  have hgn := hg.n
  have hcap := hg.rs.cap
  refine AllocOb.mk fun b1 hb1 hbM1 => ?_
  refine LoadOb.mk [.slice g.a g.n g.c] ⟨rfl, _, _, _, .inr ⟨_, .head _, rfl, rfl⟩, rfl, rfl⟩ ?_
  refine CallOb.mk [] [⟨b1, .cells #[.slice g.a g.n g.c] 24 (0, 0)⟩] _ (.refl _) (FOf_spec hT hg) ?_
  rintro v I1 M1 - ⟨hI1, ⟨hm, rfl, rfl⟩ | ⟨hm, bf, F, rfl, rfl, hF⟩⟩
  · refine CondOb.mk (fun h => ?_) (fun h => ?_)
    · exact ⟨_, _, .sub (List.nil_sublist _) .refl, hI1, .inl ⟨hm, rfl, rfl⟩⟩
    · exact absurd h (by simp [hm])
  refine CondOb.mk (fun h => absurd h (by simp)) (fun _ => ?_)
  have hM := mayF_of hgn hm
  have hg1 := hg.mono hI1
  have hFn := hF.len
  refine LoadOb.mk _ (blk_rd (b := b1) (cs := [.slice g.a g.n g.c]) (k := 0) (n := 1) (T := 24) (.tail _ (.head _)) (by simp)) ?_
  refine MakeOb.mk g.n g.n rfl rfl (Nat.le_refl _) (by show 40 * g.n ≤ _; omega) (by omega) ?_
  refine AllocOb.mk fun bl hbl hbMl => ?_
  refine AllocOb.mk fun b6 hb6 hbM6 => ?_
  refine StoreOb.to [] _ _ _ rfl rfl rfl rfl [.slice (some ⟨bl, 0, none⟩) g.n g.n] rfl ?_
  refine LoadOb.mk _ (blk_rd (b := b1) (cs := [.slice g.a g.n g.c]) (k := 0) (n := 1) (T := 24) (by simp) (by simp)) ?_
  refine MakeOb.mk g.n g.n rfl rfl (Nat.le_refl _) (by show 24 * g.n ≤ _; omega) (by omega) ?_
  refine AllocOb.mk fun bF hbF hbMF => ?_
  refine AllocOb.mk fun b7 hb7 hbM7 => ?_
  refine StoreOb.to [] _ _ _ rfl rfl rfl rfl [.slice (some ⟨bF, 0, none⟩) g.n g.n] rfl ?_
  refine LoadOb.mk _ (blk_rd (b := b1) (cs := [.slice g.a g.n g.c]) (k := 0) (n := 1) (T := 24) (by simp) (by simp)) ?_
  have e : rowOf fi0.cells (g.n * 5) = (List.replicate g.ds.length fi0).flatMap Fi.cells := by rw [hgn]; exact rowOf_fi g.n
  have e2 : rowOf [nilV] (g.n * 1) = List.replicate g.n nilV := rowOf_nil g.n
  refine LoopOb.invF (ι := Nat × GH × List Value) (fun x => { fl := [(1, .val (ptr b1)), (4, .val (.slice (some ⟨bf, 0, none⟩) g.n g.n)), (6, .val (ptr b6)), (7, .val (ptr b7)), (28, .val (.slice g.a g.n g.c)), (29, .val (.int .i64 g.n)), (30, .val (.int .i64 x.1))], gi := x.2.1, mi := [⟨b7, .cells #[.slice (some ⟨bF, 0, none⟩) g.n g.n] 134 (0, 0)⟩, ⟨bF, .cells x.2.2.toArray 74 (0, 0)⟩, ⟨b6, .cells #[.slice (some ⟨bl, 0, none⟩) g.n g.n] 49 (0, 0)⟩, fiRow bl (List.replicate g.ds.length fi0), flRow bf F, ⟨b1, .cells #[.slice g.a g.n g.c] 24 (0, 0)⟩] })
    (fun x => x.1 ≤ g.n ∧ (∀ b o, I1 b = some o → x.2.1 b = some o) ∧ RowsF x.2.1 (placesL g.ds) F g.ds x.1 x.2.2) (fun x => g.n - x.1) (fun _ => ?_) ?_
  · refine ⟨(0, I1, List.replicate g.n nilV), ⟨Nat.zero_le _, fun _ _ h => h, ⟨by simp [hgn], fun i _ h => by simp at h⟩⟩, ?_, .cons .refl (.cons .refl (.cons .refl (.cons .refl (.cons .refl (.cons .refl (.cons .refl (.nil))))))), .nil⟩
    simp only [fiRow]
    rw [← e, ← e2]
    exact .refl
  rintro ⟨i, J, rows⟩ ⟨hi, hJ, hR⟩
  simp only at hi hJ hR
  have hgJ := hg1.mono hJ
  refine CondOb.mk (fun h => ?_) (fun h => ?_)
  · have hlt : i < g.n := by have : (i : Int) < (g.n : Int) := of_decide_eq_true h; omega
    have hlt' : i < g.ds.length := by omega
    obtain ⟨ad, had, hrd⟩ := hgJ.rs.row Df.cells_len hlt hlt'
    have hdm := List.getElem_mem hlt'
    have hd := hgJ.ds _ hdm
    have hr := hM.right _ hdm
    have hno := hM.named _ hdm
    have hRl := hR.len
    refine IdxOb.mk ad i had rfl hlt ?_
    refine LoadOb.mk _ (hrd _) ?_
    have hTJ := (hT.mono hI1).mono hJ
    have hnp : nodesP g F g.ds[i].t = some (nodesF (placesL g.ds) F g.ds[i].t.ns []) := by
      rw [nodesP, show decide (F.length = g.n) = true by rw [hFn]; simp [hgn], hr, hno]
      rfl
    have hstep : ∀ (J2 : GH) (b : Nat), (∀ b o, J b = some o → J2 b = some o) → J2 b = none → RowsF (ins J2 b (flRow b (nodesF (placesL g.ds) F g.ds[i].t.ns [])).obj) (placesL g.ds) F g.ds (i + 1) (rows.set i (rowV b g.ds[i].t.n)) := fun J2 b hJ2 hb => by
      refine ⟨by simpa using hRl, fun j hj hji => ?_⟩
      by_cases ej : j = i
      · subst ej
        exact ⟨b, by simp [hRl, hj], ins_self ..⟩
      · obtain ⟨bk, q1, q2⟩ := hR.row j hj (by omega)
        exact ⟨bk, by rw [List.getElem?_set_ne (by omega)]; exact q1, ins_le hb _ _ (hJ2 _ _ q2)⟩
    generalize g.ds[i] = d at hrd hd hr hno hnp hstep
    refine CodeOb.draw TryzEOK rfl rfl rfl ?_
    refine LoadOb.mk [.slice (some ⟨bF, 0, none⟩) g.n g.n] ⟨rfl, _, _, _, .inr ⟨_, .head _, rfl, rfl⟩, rfl, rfl⟩ ?_
    refine LoadOb.mk [.slice g.a g.n g.c] ⟨rfl, _, _, _, .inr ⟨⟨b1, .cells #[.slice g.a g.n g.c] 24 (0, 0)⟩, by simp, rfl, rfl⟩, rfl, rfl⟩ ?_
    have hat : FsAt J [⟨b7, .cells #[.slice (some ⟨bF, 0, none⟩) g.n g.n] 134 (0, 0)⟩, ⟨bF, .cells rows.toArray 74 (0, 0)⟩, ⟨b6, .cells #[.slice (some ⟨bl, 0, none⟩) g.n g.n] 49 (0, 0)⟩, fiRow bl (List.replicate g.ds.length fi0), flRow bf F, ⟨b1, .cells #[.slice g.a g.n g.c] 24 (0, 0)⟩] (some ⟨bf, 0, none⟩) g.n F := by
      have := flRow_at (I := J) (M := [⟨b7, .cells #[.slice (some ⟨bF, 0, none⟩) g.n g.n] 134 (0, 0)⟩, ⟨bF, .cells rows.toArray 74 (0, 0)⟩, ⟨b6, .cells #[.slice (some ⟨bl, 0, none⟩) g.n g.n] 49 (0, 0)⟩, fiRow bl (List.replicate g.ds.length fi0), flRow bf F, ⟨b1, .cells #[.slice g.a g.n g.c] 24 (0, 0)⟩]) (b := bf) (l := F) (by simp)
      rwa [show F.length = g.n by omega] at this
    refine PCallOb.whole _ (FNodes_spec (lc := g.n) hTJ hgJ hd.t hat) (fun v I' M' h x hx => by
      rcases h.2 with ⟨-, -, rfl⟩ | ⟨r, b, -, -, rfl⟩
      · exact hx
      · exact .tail _ hx) ?_
    rintro v J2 M2 - ⟨hJ2, ⟨hn, -, -⟩ | ⟨r, b, hn, rfl, rfl⟩⟩
    · rw [hnp] at hn; cases hn
    rw [hnp] at hn
    obtain rfl := Option.some.inj hn
    refine IdxOb.mk ⟨bF, 0, none⟩ i rfl rfl hlt ?_
    refine StoreOb.addTo [_, _] _ rows _ rfl (by rw [Nat.ble_eq]; show 0 + i * 1 + 1 ≤ rows.length; omega) rfl (rows.set i (rowV b d.t.n)) ?_ ?_
    · show splice rows (0 + i * 1) [rowV b d.t.n] = _
      rw [Nat.zero_add, Nat.mul_one, splice_oneI _ _ _ (by omega)]
    refine ArithOb.mk _ (next_wr (i := i) (by omega)) ?_
    intro hfa
    have hb := hfa.d (flRow b (nodesF (placesL g.ds) F d.t.ns [])) (.head _)
    exact ⟨(i + 1, ins J2 b (flRow b (nodesF (placesL g.ds) F d.t.ns [])).obj, rows.set i (rowV b d.t.n)), ⟨⟨hlt, fun b o h => ins_le hb _ _ (hJ2 _ _ (hJ _ _ h)), hstep J2 b hJ2 hb⟩, by simp only; omega⟩, .prom rfl (by simp) .refl, .cons .refl (.cons .refl (.cons .refl (.cons .refl (.cons .refl (.cons .refl (.cons .refl (.nil))))))), .nil⟩
  have hge : i = g.n := by have : ¬ (i : Int) < (g.n : Int) := of_decide_eq_false h; omega
  subst hge
  have hR' : RowsF J (placesL g.ds) F g.ds g.ds.length rows := by rw [hgn]; exact hR
  refine LoopOb.inv (ι := List Fi) (fun l => { fl := [(6, .val (ptr b6)), (10, .val (.func (.func 77) #[] #[ptr b1, ptr b6, ptr b7]))], gi := J, mi := iM b6 bl b7 bF b1 g l rows }) (PreI g.ds F) offsI ?_ ?_
  · refine ⟨List.replicate g.ds.length fi0, PreR.start (O := OI) _ _, .sub (.cons_cons _ (.cons_cons _ (.cons_cons _ (.cons_cons _ (.cons _ (.refl _)))))) (.perm (permI5 ..) .refl), .cons .refl (.cons .refl (.nil)), .nil⟩
  intro l hl
  refine CallOb.whole _ (IOf1_spec hgJ hkb hM hR' hl) ?_
  rintro v J3 M3 - ⟨rfl, rfl, rfl⟩
  have hgl : g.ds.length = g.n := hgn
  obtain ⟨r1, r2, -⟩ := roundR_pre bodyI_mono' g.ds.length 0 (Nat.zero_add _) hl
  rw [hgl] at r1 r2
  refine CondOb.mk (fun h => ?_) (fun h => ?_)
  · exact ⟨_, ⟨by unfold PreI; rw [hgl]; exact r1, offsI_lt r2 (of_decide_eq_true h)⟩, .refl, .cons .refl (.cons .refl (.nil)), .nil⟩
  · have hf : roundR (bodyI (placesL g.ds) F g.ds) 0 g.n l = l := by
      have := of_decide_eq_false h
      exact Classical.not_not.1 this
    rw [hf]
    refine LoadOb.mk [.slice (some ⟨bl, 0, none⟩) g.n g.n] ⟨rfl, _, _, _, .inr ⟨_, .head _, rfl, rfl⟩, rfl, rfl⟩ ?_
    refine ⟨J3, [fiRow bl l], .sub (.cons _ (.cons _ (.cons_cons _ (List.nil_sublist _)))) .refl, fun b o h => hJ _ _ (hI1 _ _ h), .inr ⟨hm, F, bl, l, hF, ?_, rfl, rfl⟩⟩
    exact PreR.done bodyI_mono' hl (by rw [hgl]; exact hf)

/-- May firsts be asked for of a tree? -/
def okI (deb : List Int) (g : Gr) (l : List Fi) (t : Tr) : Bool := decide (l.length = g.n) && (decide (mayG deb g = 0) && (right t && namedOk (placesL g.ds) t.ns))
set_option maxHeartbeats 4000000 in
theorem INodes_spec {I : GH} {M0 : List Blk} {deb : List Int} (hT : Tabs I deb) {g : Gr} (hg : g.ok I) {t : Tr} (ht : t.ok I) (hkb : KB t) {la : Option Addr} {ln lc : Nat} {l : List Fi} (hl : IsAt I M0 la ln l) :
    Spec Tryz.prog 39 [g.val, .slice la ln lc, t.val] I M0 fun v I' M' => (∀ b o, I b = some o → I' b = some o) ∧
      ((okI deb g l t = false ∧ v = .tuple #[.slice none 0 0, .bool false] ∧ M' = M0) ∨ (okI deb g l t = true ∧ ∃ F b, IsFlow g.ds F ∧ v = .tuple #[.slice (some ⟨b, 0, none⟩) t.n t.n, .bool true] ∧ M' = fiRow b (nodesI (placesL g.ds) l (nodesF (placesL g.ds) F t.ns []) t.ns []) :: M0)) := by
  refine spec_of_V [] TryzEOK Tryz.func39 rfl rfl rfl ?_
  intro B h0
  have hgn := hg.n
  have htn := ht.n
  have hln := hl.n
  refine CondOb.mk (fun h => ?_) (fun h => ?_)
  · have hne : ¬ (ln : Int) = (g.n : Int) := by simpa using h
    have hd : decide (l.length = g.n) = false := decide_eq_false (by omega)
    exact ⟨_, _, .refl, fun _ _ h => h, .inl ⟨by simp [okI, hd], rfl, rfl⟩⟩
  have hln' : ln = g.n := by
    have : (ln : Int) = (g.n : Int) := by simpa using h
    omega
  have hd1 : decide (l.length = g.n) = true := decide_eq_true (by omega)
  refine CallOb.mk [] M0 _ (.refl _) (FOf_spec hT hg) ?_
  rintro v I1 M1 - ⟨hI1, ⟨hm, rfl, rfl⟩ | ⟨hm, bf, F, rfl, rfl, hF⟩⟩
  · refine CondOb.mk (fun _ => ?_) (fun h => absurd h (by simp [hm]))
    exact ⟨_, _, .refl, hI1, .inl ⟨by simp [okI, hm], rfl, rfl⟩⟩
  refine CondOb.mk (fun h => absurd h (by simp)) (fun _ => ?_)
  have hFn := hF.len
  have hg1 := hg.mono hI1
  have ht1 := ht.mono hI1
  have hat : FsAt I1 (flRow bf F :: M0) (some ⟨bf, 0, none⟩) g.n F := by
    have := flRow_at (I := I1) (M := flRow bf F :: M0) (b := bf) (l := F) (.head _)
    rwa [show F.length = g.n by omega] at this
  refine CallOb.whole _ (FNodes_spec (lc := g.n) (hT.mono hI1) hg1 ht1 hat) ?_
  have hdF : decide (F.length = g.n) = true := decide_eq_true (by omega)
  rintro v I2 M2 - ⟨hI2, ⟨hn, rfl, rfl⟩ | ⟨r, b, hn, rfl, rfl⟩⟩
  · refine CondOb.mk (fun _ => ?_) (fun h => absurd h (by simp))
    refine ⟨_, _, .sub (.cons _ (.refl _)) .refl, fun b o h => hI2 _ _ (hI1 _ _ h), .inl ⟨?_, rfl, rfl⟩⟩
    cases hb : (right t && namedOk (placesL g.ds) t.ns) with
    | false => simp [okI, hb]
    | true => rw [nodesP, hdF, hb] at hn; cases hn
  refine CondOb.mk (fun h => absurd h (by simp)) (fun _ => ?_)
  have hb : (right t && namedOk (placesL g.ds) t.ns) = true := by
    cases hb : (right t && namedOk (placesL g.ds) t.ns) with
    | false => rw [nodesP, hdF, hb] at hn; cases hn
    | true => rfl
  have hr : r = nodesF (placesL g.ds) F t.ns [] := by
    rw [nodesP, hdF, hb] at hn
    exact (Option.some.inj hn).symm
  subst hr
  have hb' := hb
  rw [Bool.and_eq_true] at hb'
  have hca := called_of hb'.2
  rw [hgn, ← hln'] at hca
  have hxl := nodesF_len (placesL g.ds) F t.ns []
  simp only [List.length_nil, Nat.zero_add] at hxl
  have hxs : FsAt I2 (flRow b (nodesF (placesL g.ds) F t.ns []) :: flRow bf F :: M0) (some ⟨b, 0, none⟩) t.n (nodesF (placesL g.ds) F t.ns []) := by
    have := flRow_at (I := I2) (M := flRow b (nodesF (placesL g.ds) F t.ns []) :: flRow bf F :: M0) (b := b) (l := nodesF (placesL g.ds) F t.ns []) (.head _)
    rwa [hxl, htn] at this
  have hl2 : IsAt I2 (flRow b (nodesF (placesL g.ds) F t.ns []) :: flRow bf F :: M0) la ln l := ((hl.mono hI1).mono hI2).sub fun x hx => .tail _ (.tail _ hx)
  refine CallOb.whole _ (inodes_spec (lc := lc) (xc := t.n) (hg1.mono hI2) (ht1.mono hI2) hkb hb'.1 hl2 hca hxs) ?_
  rintro v I3 M3 - ⟨rfl, b3, rfl, rfl⟩
  exact ⟨I3, fiRow b3 (nodesI (placesL g.ds) l (nodesF (placesL g.ds) F t.ns []) t.ns []) :: M0, .sub (.cons_cons _ (.cons _ (.cons _ (.refl _)))) .refl, fun b o h => hI2 _ _ (hI1 _ _ h), .inr ⟨by rw [okI, hd1, hm, hb]; rfl, F, b3, hF, rfl, rfl⟩⟩

theorem ITree_spec {I : GH} {M0 : List Blk} {deb : List Int} (hT : Tabs I deb) {g : Gr} (hg : g.ok I) {t : Tr} (ht : t.ok I) (hkb : KB t) {la : Option Addr} {ln lc : Nat} {l : List Fi} (hl : IsAt I M0 la ln l) :
    Spec Tryz.prog 41 [g.val, .slice la ln lc, t.val] I M0 fun v I' M' => (∀ b o, I b = some o → I' b = some o) ∧ M' = M0 ∧
      ((okI deb g l t = false ∧ v = .tuple #[fi0.val, .bool false]) ∨ (okI deb g l t = true ∧ ∃ F, IsFlow g.ds F ∧ v = .tuple #[((nodesI (placesL g.ds) l (nodesF (placesL g.ds) F t.ns []) t.ns []).getD t.root.toNat fi0).val, .bool true])) := by
  refine spec_of_V [] TryzEOK Tryz.func41 rfl rfl rfl ?_
  intro B h0
  have htn := ht.n
  refine CallOb.whole _ (INodes_spec (lc := lc) hT hg ht hkb hl) ?_
  rintro v I1 M1 - ⟨hI1, ⟨hn, rfl, rfl⟩ | ⟨hn, F, b, hF, rfl, rfl⟩⟩
  · refine CondOb.mk (fun _ => ?_) (fun h => by simp at h)
    exact ⟨_, _, .refl, hI1, rfl, .inl ⟨hn, rfl⟩⟩
  have hr : right t = true := by
    simp only [okI, Bool.and_eq_true] at hn
    exact hn.2.2.1
  have hroot := right_root hr
  have hnl := nodesI_len (placesL g.ds) l (nodesF (placesL g.ds) F t.ns []) t.ns []
  simp only [List.length_nil, Nat.zero_add] at hnl
  refine CondOb.mk (fun h => by simp at h) (fun _ => ?_)
  have hrl' : t.root.toNat < (nodesI (placesL g.ds) l (nodesF (placesL g.ds) F t.ns []) t.ns []).length := by omega
  refine IdxOb.mk ⟨b, 0, none⟩ t.root.toNat rfl (by omega) (by omega) ?_
  refine LoadOb.mk _ (fiRow_rd (.head _) hrl') ?_
  refine ⟨_, M0, .sub (.cons _ (.refl _)) .refl, hI1, rfl, .inr ⟨hn, F, hF, ?_⟩⟩
  simp only [List.getD_eq_getElem?_getD, List.getElem?_eq_getElem hrl', Option.getD_some]
  rfl
end Go.V

/-
  Plain: bytes of a set. No program in sight.
-/
set_option linter.unusedVariables false
set_option linter.unusedSimpArgs false
namespace Go.V
open Go

def Ws.has (w : Ws) (n : Nat) : Bool := (w.at (n / 64)).getLsbD (n % 64)
theorem Ws.at0 (w : Ws) : w.at 0 = w.a := rfl
theorem Ws.at1 (w : Ws) : w.at 1 = w.b := rfl
theorem Ws.at2 (w : Ws) : w.at 2 = w.c := rfl
theorem Ws.at3 (w : Ws) : w.at 3 = w.d := rfl
theorem Ws.ext_has {x y : Ws} (h : ∀ n, n < 256 → x.has n = y.has n) : x = y := by
  have key : ∀ j, j < 4 → x.at j = y.at j := fun j hj => by
    apply BitVec.eq_of_getLsbD_eq
    intro i hi
    have := h (j * 64 + i) (by omega)
    unfold Ws.has at this
    rwa [show (j * 64 + i) / 64 = j by omega, show (j * 64 + i) % 64 = i by omega] at this
  exact Ws.ext' (key 0 (by decide)) (key 1 (by decide)) (key 2 (by decide)) (key 3 (by decide))
theorem Ws.at_or (x y : Ws) (j : Nat) : (x.or y).at j = x.at j ||| y.at j := by
  unfold Ws.at
  cases decide (j = 0) <;> cases decide (j = 1) <;> cases decide (j = 2) <;> rfl
theorem Ws.has_or (x y : Ws) (n : Nat) : (x.or y).has n = (x.has n || y.has n) := by
  unfold Ws.has
  rw [Ws.at_or, BitVec.getLsbD_or]
theorem Ws.has_zero (n : Nat) : Ws.zero.has n = false := by
  unfold Ws.has Ws.at Ws.zero
  cases decide (n / 64 = 0) <;> cases decide (n / 64 = 1) <;> cases decide (n / 64 = 2) <;> simp
theorem Ws.at_one {i : Nat} (x : BitVec 64) {j : Nat} (hj : j < 4) : (Ws.one i x).at j = if j = i then x else 0 := by
  unfold Ws.at Ws.one
  rcases (by omega : j = 0 ∨ j = 1 ∨ j = 2 ∨ j = 3) with rfl | rfl | rfl | rfl
  · by_cases h : i = 0 <;> simp [h]; omega
  · by_cases h : i = 1 <;> simp [h]; omega
  · by_cases h : i = 2 <;> simp [h]; omega
  · by_cases h : i = 3 <;> simp [h]; omega
theorem one_shl (k i : Nat) (hk : k < 64) (hi : i < 64) : (1#64 <<< k).getLsbD i = decide (i = k) := by
  rw [BitVec.getLsbD_shiftLeft, Bool.eq_iff_iff]
  simp only [hi, decide_true, Bool.true_and, Bool.and_eq_true, Bool.not_eq_true', decide_eq_false_iff_not, decide_eq_true_eq, BitVec.getLsbD_one]
  omega
theorem has_byte (b : UInt8) {n : Nat} (h : n < 256) : (byteW b).has n = decide (n = b.toNat) := by
  have hb := b.toNat_lt
  unfold Ws.has byteW
  rw [Ws.at_one _ (by omega)]
  by_cases e : n / 64 = b.toNat / 64
  · rw [if_pos e, one_shl _ _ (by omega) (by omega), Bool.eq_iff_iff, decide_eq_true_eq, decide_eq_true_eq]
    omega
  · rw [if_neg e]
    have : ¬ n = b.toNat := fun h => e (by rw [h])
    simp [this]
end Go.V

/-
  Plain: what is Zero is Free; what is Some has a byte. No program in sight.
-/
set_option linter.unusedVariables false
set_option linter.unusedSimpArgs false
namespace Go.V
open Go

/-- A flow beside a first. -/
structure FR2 (x : Fl) (k : Fi) : Prop where
  z : x.z = true → k.f = true
  s : x.s = true → k.w ≠ .zero
theorem FR2.none (k : Fi) : FR2 fl0 k := ⟨fun h => (by cases h), fun h => (by cases h)⟩
theorem FR2.suc {x : Fl} {k : Fi} (h : FR2 x k) (hs : x.suc = true) : k.f = true ∨ k.w ≠ .zero := by
  simp only [Fl.suc, Bool.or_eq_true] at hs
  exact hs.imp h.z h.s
inductive FR2s : List Fl → List Fi → Prop
  | nil : FR2s [] []
  | cons {x k l m} (h : FR2 x k) (t : FR2s l m) : FR2s (x :: l) (k :: m)
theorem FR2s.snoc : ∀ {l : List Fl} {m : List Fi} {x : Fl} {k : Fi}, FR2s l m → FR2 x k → FR2s (l ++ [x]) (m ++ [k])
  | _, _, _, _, .nil, h => .cons h .nil
  | _, _, _, _, .cons h t, h' => .cons h (t.snoc h')
theorem FR2s.getD : ∀ {l : List Fl} {m : List Fi}, FR2s l m → ∀ i, FR2 (l.getD i fl0) (m.getD i fi0)
  | _, _, .nil, i => by simpa using FR2.none fi0
  | _, _, .cons h t, 0 => h
  | _, _, .cons h t, i + 1 => by simpa using t.getD i
theorem FR2s.len : ∀ {l : List Fl} {m : List Fi}, FR2s l m → l.length = m.length
  | _, _, .nil => rfl
  | _, _, .cons h t => by simp [t.len]
theorem FR2s.of : ∀ {l : List Fl} {m : List Fi}, l.length = m.length → (∀ i, i < l.length → FR2 (l.getD i fl0) (m.getD i fi0)) → FR2s l m
  | [], [], _, _ => .nil
  | x :: l, k :: m, hl, h => .cons (by simpa using h 0 (by simp)) (FR2s.of (by simpa using hl) fun i hi => by simpa using h (i + 1) (by simpa using hi))
theorem FR2s.head {l : List Fl} {m : List Fi} (h : FR2s l m) : FR2 (l.headD fl0) (m.headD fi0) := by
  cases h with
  | nil => exact FR2.none _
  | cons h t => exact h
theorem FR2s.map {α : Type} {f : α → Fl} {g : α → Fi} : ∀ {l : List α}, (∀ x ∈ l, FR2 (f x) (g x)) → FR2s (l.map f) (l.map g)
  | [], _ => .nil
  | x :: l, h => .cons (h x (.head _)) (FR2s.map fun y hy => h y (.tail _ hy))
theorem FR2s.append : ∀ {a : List Fl} {b : List Fi} {c : List Fl} {d : List Fi}, FR2s a b → FR2s c d → FR2s (a ++ c) (b ++ d)
  | _, _, _, _, .nil, h => h
  | _, _, _, _, .cons h t, h' => .cons h (t.append h')
theorem or_ne {x y : Ws} (h : x ≠ .zero ∨ y ≠ .zero) : x.or y ≠ .zero := by
  intro e
  have hx : x = .zero := Ws.sub_antisymm (by rw [← e]; exact Ws.sub_or x y) (Ws.zero_sub _)
  have hy : y = .zero := Ws.sub_antisymm (by rw [← e, Ws.or_comm]; exact Ws.sub_or y x) (Ws.zero_sub _)
  rcases h with h | h
  · exact h hx
  · exact h hy

/-! ### Seq: the sum so far -/
/-- What is known of a sum of flows and one of firsts: all Zero so far gives Free; if all may succeed, and one is Some, there is a byte. -/
structure SqR (p : Fl × Bool) (k : Fi) : Prop where
  z : p.1.z = true → k.f = true
  s : p.1.s = true → p.2 = true → k.w ≠ .zero
  c : p.2 = true → k.f = true ∨ k.w ≠ .zero
theorem SqR.step {p : Fl × Bool} {k : Fi} {x : Fl} {y : Fi} (h : SqR p k) (hx : FR2 x y) : SqR (seqStep p x) (k.seq y) := by
  obtain ⟨⟨pz, ps, pf⟩, pc⟩ := p
  obtain ⟨h1, h2, h3⟩ := h
  obtain ⟨xz, xs, xf⟩ := x
  have hs := hx.suc
  obtain ⟨g1, g2⟩ := hx
  obtain ⟨kw, kf⟩ := k
  obtain ⟨yw, yf⟩ := y
  simp only [seqStep, Fl.suc] at *
  cases kf with
  | false =>
    simp only [Fi.seq, cond_false]
    refine ⟨?_, ?_, ?_⟩
    · intro h
      simp only [Bool.and_eq_true] at h
      exact h1 h.1
    · intro _ h
      simp only [Bool.and_eq_true] at h
      exact (h3 h.1).resolve_left (by simp)
    · intro h
      simp only [Bool.and_eq_true] at h
      exact .inr ((h3 h.1).resolve_left (by simp))
  | true =>
    simp only [Fi.seq, cond_true]
    refine ⟨?_, ?_, ?_⟩
    · intro h
      simp only [Bool.and_eq_true] at h
      exact g1 h.2
    · intro h h'
      simp only [Bool.or_eq_true, Bool.and_eq_true] at h h'
      rcases h with h | h
      · exact or_ne (.inl (h2 h h'.1))
      · exact or_ne (.inr (g2 h))
    · intro h
      simp only [Bool.and_eq_true] at h
      rcases hs h.2 with e | e
      · exact .inl e
      · exact .inr (or_ne (.inr e))
theorem SqR.fold : ∀ {l : List Fl} {m : List Fi} {p : Fl × Bool} {k : Fi}, FR2s l m → SqR p k → SqR (l.foldl seqStep p) (m.foldl Fi.seq k)
  | _, _, _, _, .nil, h => h
  | _, _, _, _, .cons h t, h' => by
    have := SqR.fold t (h'.step h)
    exact this
theorem seq_FR2 {l : List Fl} {m : List Fi} (h : FR2s l m) : FR2 (seqFl l) (seqFi m) := by
  have := SqR.fold h (p := (⟨true, false, false⟩, true)) (k := fiT) ⟨fun _ => rfl, (fun h => by cases h), fun _ => .inl rfl⟩
  refine ⟨this.z, fun hs => ?_⟩
  simp only [seqFl, Bool.and_eq_true] at hs
  exact this.s hs.1 hs.2
theorem ch_step {p x : Fl} {k y : Fi} (h' : FR2 p k) (h : FR2 x y) : FR2 (chStep p x) (k.choice y) := by
  refine ⟨fun g => ?_, fun g => ?_⟩
  · simp only [chStep, Bool.or_eq_true, Bool.and_eq_true] at g
    simp only [Fi.choice, Bool.or_eq_true]
    exact g.imp h'.z fun g => h.z g.2
  · simp only [chStep, Bool.or_eq_true, Bool.and_eq_true] at g
    exact or_ne (g.imp h'.s fun g => h.s g.2)
theorem ch_FR2 : ∀ {l : List Fl} {m : List Fi} {p : Fl} {k : Fi}, FR2s l m → FR2 p k → FR2 (l.foldl chStep p) (m.foldl Fi.choice k)
  | _, _, _, _, .nil, h => h
  | _, _, _, _, .cons h t, h' => by
    have := ch_FR2 t (ch_step h' h)
    exact this

/-! ### Nodes -/
/-- What is asked of a node. -/
structure NdR (d : Nd) : Prop where
  k : d.k < 10
  u : u64ok d.s0 ∧ u64ok d.s1 ∧ u64ok d.s2 ∧ u64ok d.s3
  t : d.k = 2 → 1 ≤ d.t.size
theorem bv0 {z : Int} (h : u64ok z) (e : BitVec.ofInt 64 z = 0) : z = 0 := by
  obtain ⟨w, rfl⟩ := bv_of h
  rw [bv_ofInt] at e
  rw [e]
  rfl
theorem ws_ne {d : Nd} (hu : u64ok d.s0 ∧ u64ok d.s1 ∧ u64ok d.s2 ∧ u64ok d.s3) (h : d.setZ = false) : d.ws ≠ .zero := by
  intro e
  simp only [Nd.ws, Ws.zero, Ws.mk.injEq] at e
  have h0 := bv0 hu.1 e.1
  have h1 := bv0 hu.2.1 e.2.1
  have h2 := bv0 hu.2.2.1 e.2.2.1
  have h3 := bv0 hu.2.2.2 e.2.2.2
  simp [Nd.setZ, h0, h1, h2, h3] at h
theorem text_ne {t : ByteArray} (h : 1 ≤ t.size) : (textFi t).w ≠ .zero := by
  unfold textFi
  have hl : t.data.toList.length = t.size := Array.length_toList
  cases hd : t.data.toList with
  | nil => rw [hd] at hl; simp at hl; omega
  | cons b l =>
    simp only [List.take_succ_cons, List.take_zero, ofW, List.foldl_cons, List.foldl_nil]
    intro e
    have := has_byte b b.toNat_lt
    have h2 := congrArg (fun w : Ws => w.has b.toNat) e
    simp only [Ws.has_or, Ws.has_zero, Bool.false_or] at h2
    rw [this] at h2
    simp at h2
theorem come_FR2 {d : Nd} (hd : NdR d) {lm lF : List Fl} {m : List Fi} (hle : LeL lm lF) (h : FR2s lm m) : FR2 (comeFl d lm) (comeFi d (comeFl d lF) m) := by
  have hh := h.head
  have hhF := hle.head
  unfold comeFl comeFi
  cases h0 : decide (d.k = 0) with
  | true => exact ⟨fun _ => rfl, fun h => by cases h⟩
  | false =>
  cases h1 : decide (d.k = 1) with
  | true =>
    refine ⟨(fun h => by cases h), fun hs => ws_ne hd.u ?_⟩
    simpa using hs
  | false =>
  cases h2 : decide (d.k = 2) with
  | true => exact ⟨(fun h => by cases h), fun _ => text_ne (hd.t (of_decide_eq_true h2))⟩
  | false =>
  cases h3 : decide (d.k = 3) with
  | true => exact hh
  | false =>
  cases h4 : decide (d.k = 4) with
  | true => exact seq_FR2 h
  | false =>
  cases h5 : decide (d.k = 5) with
  | true => exact ch_FR2 h ⟨(fun h => by cases h), fun h => by cases h⟩
  | false =>
  cases h6 : decide (d.k = 6) with
  | true =>
    simp only [cond_true, cond_false, repFl, repFi]
    cases decide (d.hi = 0) with
    | true => exact ⟨fun _ => rfl, fun h => by cases h⟩
    | false =>
      refine ⟨?_, hh.s⟩
      simp only [cond_false, Bool.or_eq_true, Bool.and_eq_true]
      exact fun g => g.imp hh.z fun g => g.1
  | false =>
  cases h7 : decide (d.k = 7) with
  | true =>
    refine ⟨fun hs => ?_, fun h => by cases h⟩
    have := Fl.suc_mono hhF hs
    simp only [cond_true, cond_false, Fl.suc, Bool.or_eq_true] at this ⊢
    exact .inl this
  | false =>
  cases h8 : decide (d.k = 8) with
  | true =>
    refine ⟨fun hs => ?_, fun h => by cases h⟩
    have := hhF.f hs
    simp only [cond_true, cond_false, Fl.suc, Bool.or_eq_true]
    exact .inl this
  | false => exact hh
theorem nodesF_pre (pl : List (ByteArray × Int)) (fl : List Fl) : ∀ (ds : List Nd) (acc : List Fl), ∃ r, nodesF pl fl ds acc = acc ++ r
  | [], acc => ⟨[], by simp [nodesF]⟩
  | d :: ds, acc => by
    obtain ⟨r, h⟩ := nodesF_pre pl fl ds (acc ++ [comeFl d (kidsF pl fl acc d)])
    exact ⟨_, by rw [nodesF, h, List.append_assoc]⟩
theorem nodesF_at (pl : List (ByteArray × Int)) (fl : List Fl) (d : Nd) (ds : List Nd) (acc : List Fl) : (nodesF pl fl (d :: ds) acc).getD acc.length fl0 = comeFl d (kidsF pl fl acc d) := by
  obtain ⟨r, h⟩ := nodesF_pre pl fl ds (acc ++ [comeFl d (kidsF pl fl acc d)])
  rw [nodesF, h]
  simp [List.getD_eq_getElem?_getD]
theorem kids_FR2 {pl : List (ByteArray × Int)} {m accm : List Fl} {l acck : List Fi} (h : FR2s m l) (ha : FR2s accm acck) (d : Nd) : FR2s (kidsF pl m accm d) (kidsI pl l acck d) := by
  unfold kidsF kidsI
  refine (FR2s.map fun k _ => ha.getD _).append ?_
  cases decide (d.k = 3) with
  | true => exact .cons (h.getD _) .nil
  | false => exact .nil
theorem nodes_FR2 {pl : List (ByteArray × Int)} {m F : List Fl} {l : List Fi} (hle : LeL m F) (h : FR2s m l) (xs : List Fl) : ∀ (ds : List Nd) {accm accF : List Fl} {acck : List Fi}, (∀ d ∈ ds, NdR d) → LeL accm accF → FR2s accm acck → nodesF pl F ds accF = xs →
    FR2s (nodesF pl m ds accm) (nodesI pl l xs ds acck)
  | [], _, _, _, _, _, ha, _ => ha
  | d :: ds, accm, accF, acck, hd, hl, ha, hx => by
    have hlen : acck.length = accF.length := by rw [← ha.len, hl.len]
    have hat : xs.getD acck.length fl0 = comeFl d (kidsF pl F accF d) := by rw [hlen, ← hx, nodesF_at]
    rw [nodesF, nodesI, hat]
    refine nodes_FR2 hle h xs ds (fun d hd' => hd d (.tail _ hd')) ?_ (ha.snoc (come_FR2 (hd d (.head _)) (kids_mono hle hl d) (kids_FR2 h ha d))) hx
    exact hl.append (.cons (come_mono d (kids_mono hle hl d)) .nil)
/-- **What is Zero is Free; what is Some has a byte**: of a grammar's rules. -/
theorem rules_FR2 {ds : List Df} {F : List Fl} {l : List Fi} (hF : IsFlow ds F) (hl : IsFirst ds F l) (hd : ∀ d ∈ ds, ∀ n ∈ d.t.ns, NdR n) : FR2s F l := by
  have hln := hl.len
  have hFn := hF.len
  let m : List Fl := (List.range ds.length).map fun i => ⟨(F.getD i fl0).z && (l.getD i fi0).f, (F.getD i fl0).s && !decide ((l.getD i fi0).w = .zero), (F.getD i fl0).f⟩
  have hmn : m.length = ds.length := by simp [m]
  have hmi : ∀ i, i < ds.length → m.getD i fl0 = ⟨(F.getD i fl0).z && (l.getD i fi0).f, (F.getD i fl0).s && !decide ((l.getD i fi0).w = .zero), (F.getD i fl0).f⟩ := fun i hi => by
    simp [m, List.getD_eq_getElem?_getD, hi]
  have hmF : LeL m F := LeL.of (by rw [hmn, hFn]) fun i hi => by
    rw [hmi i (by rw [← hmn]; exact hi)]
    exact ⟨fun h => by simp only [Bool.and_eq_true] at h; exact h.1, fun h => by simp only [Bool.and_eq_true] at h; exact h.1, id⟩
  have hml : FR2s m l := FR2s.of (by rw [hmn, hln]) fun i hi => by
    rw [hmi i (by rw [← hmn]; exact hi)]
    exact ⟨fun h => by simp only [Bool.and_eq_true] at h; exact h.2, fun h => by simp only [Bool.and_eq_true, Bool.not_eq_true', decide_eq_false_iff_not] at h; exact h.2⟩
  have key : LeL F m := hF.least m hmn fun i hi => by
    have h1 := body_mono hmF ds[i] (pl := placesL ds)
    rw [← hF.fix i hi] at h1
    have h2 : FR2 (bodyF (placesL ds) m ds[i]) (l.getD i fi0) := by
      have hfix : l.getD i fi0 = _ := hl.fix i hi
      rw [hfix]
      unfold bodyI bodyF
      rw [List.getElem?_eq_getElem hi]
      exact (nodes_FR2 hmF hml _ ds[i].t.ns (hd _ (List.getElem_mem hi)) .nil .nil rfl).getD _
    rw [hmi i hi]
    refine ⟨fun h => ?_, fun h => ?_, h1.f⟩
    · simp only [Bool.and_eq_true]
      exact ⟨h1.z h, h2.z h⟩
    · simp only [Bool.and_eq_true, Bool.not_eq_true', decide_eq_false_iff_not]
      exact ⟨h1.s h, h2.s h⟩
  have : F = m := key.antisymm hmF
  rw [this]
  exact hml
theorem nodes_FR2' {ds : List Df} {F : List Fl} {l : List Fi} (hF : IsFlow ds F) (hl : IsFirst ds F l) (hd : ∀ d ∈ ds, ∀ n ∈ d.t.ns, NdR n) {ns : List Nd} (hn : ∀ n ∈ ns, NdR n) :
    FR2s (nodesF (placesL ds) F ns []) (nodesI (placesL ds) l (nodesF (placesL ds) F ns []) ns []) :=
  nodes_FR2 (LeL.refl F) (rules_FR2 hF hl hd) _ ns hn .nil .nil rfl
end Go.V

/-
  Plain: what is told of trees and grammars hangs on what they hold, not on where it lies. No program in sight.
-/
set_option linter.unusedVariables false
set_option linter.unusedSimpArgs false
namespace Go.V
open Go

def Tr.ct (t : Tr) : Tr := ⟨t.ns.map Nd.ct, none, t.n, 0, t.root⟩
def Df.ct (d : Df) : Df := ⟨d.name, d.t.ct⟩
def Gr.ct (g : Gr) : Gr := ⟨g.ds.map Df.ct, none, g.n, 0⟩

theorem nodesOk_ct : ∀ (ds : List Nd) (i : Nat) (s : List Bool), nodesOk i (ds.map Nd.ct) s = nodesOk i ds s
  | [], i, s => rfl
  | d :: ds, i, s => by
    have h : ∀ s', nodesOk (i + 1) (ds.map Nd.ct) s' = nodesOk (i + 1) ds s' := fun s' => nodesOk_ct ds (i + 1) s'
    rw [List.map_cons, nodesOk, nodesOk]
    simp only [h]
    rfl
theorem right_ct (t : Tr) : right t.ct = right t := by
  unfold right Tr.ct
  simp only [nodesOk_ct, List.length_map]
theorem kindAt_ct (ns : List Nd) (k : Int) : kindAt (ns.map Nd.ct) k = kindAt ns k := by
  unfold kindAt
  rw [List.map_map]
  rfl
theorem normKids_ct (ns : List Nd) (kind : Int) : ∀ ks, normKids (ns.map Nd.ct) kind ks = normKids ns kind ks
  | [] => rfl
  | k :: ks => by rw [normKids, normKids, kindAt_ct, normKids_ct ns kind ks]
theorem normNodes_ct (ns : List Nd) : ∀ ds : List Nd, normNodes (ns.map Nd.ct) (ds.map Nd.ct) = normNodes ns ds
  | [] => rfl
  | d :: ds => by
    have h := normKids_ct ns d.k d.kids
    rw [List.map_cons, normNodes, normNodes, normNodes_ct ns ds]
    show (bif !decide (d.k = 4) && !decide (d.k = 5) then normNodes ns ds else bif normKids (ns.map Nd.ct) d.k d.kids then normNodes ns ds else false) = _
    rw [h]
theorem normal_ct (t : Tr) : normal t.ct = normal t := by
  unfold normal
  rw [right_ct]
  congr 1
  exact normNodes_ct t.ns t.ns
theorem depthsFrom_ct : ∀ (ds : List Nd) (i : Nat) (dp : List Int), depthsFrom i (ds.map Nd.ct) dp = depthsFrom i ds dp
  | [], i, dp => rfl
  | d :: ds, i, dp => by
    rw [List.map_cons, depthsFrom, depthsFrom, depthsFrom_ct ds]
    rfl
theorem depth_ct (t : Tr) : depth t.ct = depth t := by
  unfold depth
  rw [right_ct]
  simp only [Tr.ct, depthsFrom_ct, List.length_map]
theorem mayTree_ct (t : Tr) : mayTree t.ct = mayTree t := by
  unfold mayTree
  rw [right_ct, depth_ct]
  rfl
theorem tab_ct {α : Type} {z : α} {f g : Nd → (Int → α) → α} (h : ∀ d q, f d.ct q = g d q) : ∀ (ds : List Nd) (acc : List α), tab z f (ds.map Nd.ct) acc = tab z g ds acc
  | [], acc => rfl
  | d :: ds, acc => by rw [List.map_cons, tab, tab, h, tab_ct h ds]
theorem textOf_ct (deb : List Int) (ns : List Nd) (k : Int) : textOf deb (ns.map Nd.ct) k = textOf deb ns k := by
  unfold textOf tabOf
  rw [tab_ct (g := nodeT deb ns) (fun d q => ?_)]
  show aheadB deb d ++ (kidsT (sepOf d) (fun k => paren (wrapsV d.k (kindAt (ns.map Nd.ct) k)) (q k)) false d.kids ++ behindB d) = _
  simp only [kindAt_ct]
  rfl
theorem treeB_ct (deb : List Int) (t : Tr) : treeB deb t.ct = treeB deb t := by
  unfold treeB
  rw [right_ct]
  have : textOf deb t.ct.ns t.ct.root = textOf deb t.ns t.root := textOf_ct deb t.ns t.root
  rw [this]
theorem defB_ct (deb : List Int) (d : Df) : defB deb d.ct = defB deb d := by
  unfold defB
  have : treeB deb d.ct.t = treeB deb d.t := treeB_ct deb d.t
  rw [this]
  rfl
theorem gramB_ct (deb : List Int) : ∀ (ds : List Df) (acc : List UInt8), gramB deb (ds.map Df.ct) acc = gramB deb ds acc
  | [], acc => rfl
  | d :: ds, acc => by rw [List.map_cons, gramB, gramB, defB_ct, gramB_ct deb ds]
theorem nodesG_ct (g : Gr) : nodesG g.ct = nodesG g := by
  unfold nodesG Gr.ct
  rw [List.map_map]
  congr 1
  refine List.map_congr_left fun d _ => ?_
  show sizeT d.t.ct = sizeT d.t
  unfold sizeT
  rw [right_ct]
  rfl
theorem all_ct {q : Df → Bool} (h : ∀ d, q d.ct = q d) (ds : List Df) : (ds.map Df.ct).all q = ds.all q := by
  rw [List.all_map]
  congr 1
  funext d
  exact h d
theorem largeG_ct (deb : List Int) (g : Gr) : largeG deb g.ct = largeG deb g := by
  unfold largeG
  rw [nodesG_ct]
  have h1 : (g.ct.ds.all fun d => mayTree d.t) = g.ds.all fun d => mayTree d.t := all_ct (fun d => mayTree_ct d.t) g.ds
  have h2 : gramB deb g.ct.ds [] = gramB deb g.ds [] := gramB_ct deb g.ds []
  rw [h1, h2]
  rfl
theorem okDefs_ct (ds : List Df) : okDefs (ds.map Df.ct) = okDefs ds := all_ct (q := fun d => mayName d.name && normal d.t) (fun d => by
  show (mayName d.name && normal d.t.ct) = _
  rw [normal_ct]) ds
theorem dups_ct : ∀ (ds : List Df) (acc : List (ByteArray × Int)) (i : Nat), dups acc i (ds.map Df.ct) = dups acc i ds
  | [], acc, i => rfl
  | d :: ds, acc, i => by
    rw [List.map_cons, dups, dups]
    show (bif (lookM d.name acc).isSome then none else dups (acc ++ [(d.name, (i : Int))]) (i + 1) (ds.map Df.ct)) = _
    rw [dups_ct ds]
theorem pairs_ct : ∀ (ds : List Df) (i : Nat), nodePairs i (ds.map Df.ct) = (nodePairs i ds).map fun p => (p.1, p.2.ct)
  | [], i => rfl
  | d :: ds, i => by
    rw [List.map_cons, nodePairs, nodePairs, pairs_ct ds, List.map_append, List.map_map]
    show (d.t.ns.map Nd.ct).map (fun n => (i, n)) ++ _ = _
    rw [List.map_map]
    rfl
theorem allNamed_ct (acc : List (ByteArray × Int)) (ds : List Df) : allNamed acc (ds.map Df.ct) = allNamed acc ds := by
  unfold allNamed
  rw [pairs_ct, List.all_map]
  rfl
theorem mayG_ct (deb : List Int) (g : Gr) : mayG deb g.ct = mayG deb g := by
  unfold mayG
  rw [largeG_ct]
  have h1 : okDefs g.ct.ds = okDefs g.ds := okDefs_ct g.ds
  have h2 : dups [] 0 g.ct.ds = dups [] 0 g.ds := dups_ct g.ds [] 0
  have h3 : ∀ acc, allNamed acc g.ct.ds = allNamed acc g.ds := fun acc => allNamed_ct acc g.ds
  rw [h1, h2]
  simp only [h3]
  rfl

/-! ### Subtrees -/
theorem nodeAt_ct (ns : List Nd) (j : Nat) : (nodeAt (ns.map Nd.ct) j).ct = (nodeAt ns j).ct := by
  unfold nodeAt
  simp only [List.getD_eq_getElem?_getD, List.getElem?_map]
  cases ns[j]? <;> rfl
theorem kids_ct (ns : List Nd) (j : Nat) : (nodeAt (ns.map Nd.ct) j).kids = (nodeAt ns j).kids := by
  have h := congrArg Nd.kids (nodeAt_ct ns j)
  exact h
theorem backGo_ct (ns : List Nd) : ∀ (f : Nat) (todo b : List Int), backGo (ns.map Nd.ct) f todo b = backGo ns f todo b
  | 0, todo, b => rfl
  | f + 1, todo, b => by
    unfold backGo
    cases todo.getLast? with
    | none => rfl
    | some n =>
      simp only
      rw [kids_ct, backGo_ct ns f]
theorem withKids_ct (d : Nd) (l : List Int) : d.ct.withKids l = d.withKids l := rfl
theorem subStep_ct (ns : List Nd) : subStep (ns.map Nd.ct) = subStep ns := by
  funext st b
  unfold subStep
  rw [kids_ct, ← withKids_ct (nodeAt (ns.map Nd.ct) b.toNat), nodeAt_ct, withKids_ct]
theorem subC_ct (ns : List Nd) (node : Int) : subC (ns.map Nd.ct) node = subC ns node := by
  unfold subC backOf
  rw [subStep_ct, backGo_ct, List.length_map]

/-! ### Flows -/
theorem nodesF_ct (pl : List (ByteArray × Int)) (fl : List Fl) : ∀ (ds : List Nd) (acc : List Fl), nodesF pl fl (ds.map Nd.ct) acc = nodesF pl fl ds acc
  | [], acc => rfl
  | d :: ds, acc => by
    rw [List.map_cons, nodesF, nodesF, nodesF_ct pl fl ds]
    rfl
theorem namedOk_ct (pl : List (ByteArray × Int)) (ns : List Nd) : namedOk pl (ns.map Nd.ct) = namedOk pl ns := by
  unfold namedOk
  rw [List.all_map]
  rfl
theorem placesGo_ct : ∀ (ds : List Df) (acc : List (ByteArray × Int)) (i : Nat), placesGo acc i (ds.map Df.ct) = placesGo acc i ds
  | [], acc, i => rfl
  | d :: ds, acc, i => by
    rw [List.map_cons, placesGo, placesGo, placesGo_ct ds]
    rfl
theorem placesL_ct (ds : List Df) : placesL (ds.map Df.ct) = placesL ds := placesGo_ct ds [] 0
theorem bodyF_ct (pl : List (ByteArray × Int)) (fl : List Fl) (d : Df) : bodyF pl fl d.ct = bodyF pl fl d := by
  unfold bodyF
  have : nodesF pl fl d.ct.t.ns [] = nodesF pl fl d.t.ns [] := nodesF_ct pl fl d.t.ns []
  rw [this]
  rfl
theorem isFlow_ct {ds : List Df} {l : List Fl} (h : IsFlow ds l) : IsFlow (ds.map Df.ct) l := by
  refine ⟨by rw [h.len, List.length_map], fun i hi => ?_, fun m hm hc => ?_⟩
  · have hi' : i < ds.length := by simpa using hi
    rw [placesL_ct, List.getElem_map, bodyF_ct]
    exact h.fix i hi'
  · refine h.least m (by rw [hm, List.length_map]) fun i hi => ?_
    have := hc i (by simpa using hi)
    rwa [placesL_ct, List.getElem_map, bodyF_ct] at this
theorem nodesP_ct (g : Gr) (fl : List Fl) (t : Tr) : nodesP g.ct fl t.ct = nodesP g fl t := by
  unfold nodesP
  rw [right_ct]
  have h1 : placesL g.ct.ds = placesL g.ds := placesL_ct g.ds
  have h2 : ∀ pl, namedOk pl t.ct.ns = namedOk pl t.ns := fun pl => namedOk_ct pl t.ns
  have h3 : ∀ pl, nodesF pl fl t.ct.ns [] = nodesF pl fl t.ns [] := fun pl => nodesF_ct pl fl t.ns []
  rw [h1, h2, h3]
  rfl
theorem treeP_ct (g : Gr) (fl : List Fl) (t : Tr) : treeP g.ct fl t.ct = treeP g fl t := by
  unfold treeP
  rw [nodesP_ct]
  rfl

/-! ### A tree, by what it holds -/
def trOf (l : List Nd) : Tr := ⟨l, none, l.length, 0, (l.length : Int) - 1⟩
/-- A tree in memory that holds these nodes. -/
structure TC (I : GH) (t : Tr) (l : List Nd) : Prop where
  ok : t.ok I
  ct : t.ns.map Nd.ct = l
  root : t.root = (l.length : Int) - 1
theorem TC.mono {I I' : GH} {t : Tr} {l : List Nd} (h : TC I t l) (hI : ∀ b o, I b = some o → I' b = some o) : TC I' t l := ⟨h.ok.mono hI, h.ct, h.root⟩
theorem TC.len {I : GH} {t : Tr} {l : List Nd} (h : TC I t l) : t.n = l.length := by
  rw [← h.ok.n, ← h.ct, List.length_map]
theorem TC.tr {I : GH} {t : Tr} {l : List Nd} (h : TC I t l) : t.ct = trOf l := by
  unfold Tr.ct trOf
  rw [h.ct, h.root, h.len]
theorem TC.right {I : GH} {t : Tr} {l : List Nd} (h : TC I t l) : right t = right (trOf l) := by rw [← h.tr, right_ct]
theorem TC.leaf {I : GH} {t : Tr} {d : Nd} (ht : t.ok I) (h1 : t.ns = [d]) (h2 : t.root = 0) (hd : d.ct = d) : TC I t [d] := ⟨ht, by rw [h1]; simp [hd], by rw [h2]; rfl⟩
def cleanL (l : List Nd) : List Nd := subC l ((l.length : Int) - 1)
theorem TC.clean {I : GH} {t : Tr} {l : List Nd} (h : TC I t l) : cleanC t = cleanL l := by
  unfold cleanC cleanL
  rw [← subC_ct, h.ct, h.root]
def kidsB (l : List Nd) (m : Nat) : Bool := decide (l.length ≤ m) && l.all fun d => decide (d.kids.length ≤ m)
theorem TC.fit {I : GH} {t : Tr} {l : List Nd} (h : TC I t l) (hk : kidsB l 1000 = true) : Fit t 1000 := by
  simp only [kidsB, Bool.and_eq_true, decide_eq_true_eq, List.all_eq_true] at hk
  have hl := h.len
  refine ⟨fun d hd => ?_, by rw [hl]; omega, by omega⟩
  have hdn := (h.ok.ns d hd).kn
  have : d.ct ∈ l := by rw [← h.ct]; exact List.mem_map.2 ⟨d, hd, rfl⟩
  have := hk.2 _ this
  show d.kn ≤ 1000
  rw [← hdn]
  exact this
end Go.V

/-
  Walks: tree.Set; bonsailaw10.of, grammar, leaf.
-/
set_option linter.unusedVariables false
set_option linter.unusedSimpArgs false
namespace Go.V
open Go Go.Proofs

def cB (c : UInt8) : ByteArray := ⟨#[c]⟩
def nB : ByteArray := ⟨#[]⟩
def setNd (a b c d : Int) : Nd := ⟨1, a, b, c, d, ⟨#[]⟩, 0, 0, none, 0, 0, []⟩
def opNd (k : Int) (s : ByteArray) (lo hi : Int) : Nd := ⟨k, 0, 0, 0, 0, s, lo, hi, none, 0, 0, []⟩
theorem opNd_ok {I : GH} {k : Int} {s : ByteArray} {lo hi : Int} (hk : 0 ≤ k ∧ k < 256) (hs : s.size ≤ 140737488355328) (h1 : i64ok lo) (h2 : i64ok hi) : (opNd k s lo hi).ok I :=
  ⟨hk, u0, u0, u0, u0, by show s.size ≤ _; omega, h1, h2, ⟨rfl, ⟨Nat.le_refl _, by show 0 * 8 ≤ _; omega⟩, .inl rfl⟩, fun x hx => by cases hx⟩
/-! ### Kids' rows -/
def kidsBlk (b : Nat) (ts : List Tr) : Blk := ⟨b, .cells (ts.flatMap Tr.cells).toArray 43 (0, 0)⟩
theorem kidsBlk_rd {I : GH} {M : List Blk} {b : Nat} {ts : List Tr} (hM : kidsBlk b ts ∈ M) : ∀ j (h : j < ts.length), ∃ ad, some (⟨b, 0, none⟩ : Addr) = some ad ∧ Rd I M (ad.add (j * 2)) 2 ts[j].cells := fun j hj => by
  refine ⟨_, rfl, ?_⟩
  have hl := flat_len Tr.cells 2 (fun _ => rfl) ts
  have h := blk_rd (I := I) (cs := ts.flatMap Tr.cells) (k := j * 2) (n := 2) hM (by rw [hl]; omega)
  rwa [flat_at Tr.cells 2 (fun _ => rfl) ts j hj] at h
def ofB (d : Nd) (ls : List (List Nd)) : Bool := fits d ls.length && (decide (ls.length ≤ 1000) && ls.all fun l => right (trOf l) && kidsB l 1000)
def ofL (d : Nd) (ls : List (List Nd)) : List Nd := ofNds d (ls.map cleanL)
/-- A rule's row, of the function's own. -/
def defsBlk (b : Nat) (ds : List Df) : Blk := ⟨b, .cells (ds.flatMap Df.cells).toArray 46 (0, 0)⟩
theorem defsBlk_gr {I : GH} {b n : Nat} {ds : List Df} (hn : ds.length = n) (hb : n ≤ 1000) (hI : I b = none) (h : ∀ d ∈ ds, d.ok I) : Gr.ok (ins I b (defsBlk b ds).obj) ⟨ds, some ⟨b, 0, none⟩, n, n⟩ := by
  subst hn
  refine ⟨⟨flat_len _ 3 Df.cells_len ds, ⟨Nat.le_refl _, by simp only; omega⟩, .inr ⟨_, rfl, rfl, _, _, _, ins_self .., ?_⟩⟩, fun d hd => (h d hd).mono (ins_le hI)⟩
  simp only [List.drop_zero]
  exact List.take_of_length_le (by rw [flat_len _ 3 Df.cells_len ds]; exact Nat.le_refl _)

/-- What comes of an expression, in a grammar of one rule that has no flow. -/
def xPl : List (ByteArray × Int) := [(cB 120, 0)]
def leafV (l : List Nd) : Fl := bif right (trOf l) && namedOk xPl l then (nodesF xPl [fl0] l []).getD ((l.length : Int) - 1).toNat fl0 else fl0
theorem leafV_eq {I : GH} {t : Tr} {l : List Nd} (h : TC I t l) (g : Gr) (hn : g.n = 1) (hp : placesL g.ds = xPl) : (treeP g [fl0] t).getD fl0 = leafV l := by
  unfold treeP nodesP leafV
  rw [hn, hp, h.right, ← h.ct, namedOk_ct]
  simp only [List.length_cons, List.length_nil, decide_true, Bool.true_and]
  rw [h.ct]
  cases hb : right (trOf l) && namedOk xPl t.ns with
  | false => rfl
  | true =>
    simp only [cond_true, Option.map_some, Option.getD_some]
    rw [← h.root, ← nodesF_ct xPl [fl0] t.ns, h.ct]

end Go.V

/-
  Walks: bonsailaw10.long.
-/
set_option linter.unusedVariables false
set_option linter.unusedSimpArgs false
namespace Go.V
open Go Go.Proofs

theorem OS.rowAt {α : Type} (f : α → List Value) (k : Nat) (hf : ∀ x, (f x).length = k) {I : GH} {M : List Blk} {os : OS} {l : List α} {e : Nat} (h : os.ok k (l.flatMap f)) (hk : 0 < k) (hM : ∀ x ∈ os.blk e, x ∈ M) :
    l.length = os.n ∧ ∀ j (hj : j < l.length), ∃ ad, (os.a.map fun g => (⟨g, 0, none⟩ : Addr)) = some ad ∧ Rd I M (ad.add (j * k)) k (f l[j]) := by
  have hl := h.len
  rw [flat_len f k hf] at hl
  have hl' := Nat.eq_of_mul_eq_mul_right hk hl
  refine ⟨hl', fun j hj => ?_⟩
  obtain ⟨a, n, c, cur⟩ := os
  simp only at hl hl'
  subst hl'
  cases a with
  | none => have := (h.nil rfl).1; simp only at this; omega
  | some g =>
    obtain ⟨h1, h2, h3, h4⟩ := h.cap g rfl
    simp only at h1 h2 h4
    refine ⟨⟨g, 0, none⟩, rfl, ?_⟩
    have hm : (⟨g, .cells cur.toArray e (0, 0)⟩ : Blk) ∈ M := hM _ (by simp [OS.blk])
    have hjk : j * k + k ≤ l.length * k := by
      have : (j + 1) * k ≤ l.length * k := Nat.mul_le_mul_right _ hj
      rwa [Nat.add_mul, Nat.one_mul] at this
    have hck : l.length * k ≤ c * k := Nat.mul_le_mul_right _ h2
    have hr := blk_rd (I := I) (cs := cur) (k := j * k) (n := k) hm (by omega)
    have e1 : (cur.drop (j * k)).take k = ((cur.take (l.length * k)).drop (j * k)).take k := by
      rw [List.drop_take, List.take_take]
      congr 1
      omega
    rw [e1, h4, flat_at f k hf l j hj] at hr
    exact hr

structure TrSmall (t : Tr) : Prop where
  n : t.n < 2500
  ns : ∀ nd ∈ t.ns, NdSmall nd
theorem TrW.ok {I : GH} {t : Tr} (h : TrW I t) (hs : TrSmall t) : t.ok I :=
  ⟨h.rs.big (by have := hs.n; omega), fun nd hnd => (h.ns nd hnd).ok (hs.ns nd hnd), h.root⟩
theorem TrW.mono {I I' : GH} {t : Tr} (h : TrW I t) (hI : ∀ b o, I b = some o → I' b = some o) : TrW I' t := ⟨h.rs.mono hI, fun nd hnd => (h.ns nd hnd).mono hI, h.root⟩

def bodies (g : Gr) (L0 : List Tr) (i : Nat) : List Tr := L0 ++ (g.ds.take i).map Df.t
theorem bodies_len {g : Gr} {L0 : List Tr} {i : Nat} (hi : i ≤ g.ds.length) : (bodies g L0 i).length = L0.length + i := by
  simp [bodies]
  omega
structure L1 (g : Gr) (L0 : List Tr) (x : Nat × Nat × OS) : Prop where
  i : x.2.1 ≤ g.n
  n : x.1 ≤ 6000
  five : 5 * x.2.1 ≤ x.1
  os : x.2.2.ok 2 ((bodies g L0 x.2.1).flatMap Tr.cells)
  small : x.1 < 2500 → ∀ j (h : j < g.ds.length), j < x.2.1 → g.ds[j].name.size < 2500
structure L2 (L : List Tr) (n0 : Nat) (x : Nat × Nat) : Prop where
  i : x.2 ≤ L.length
  n : x.1 ≤ 6000
  ge : n0 ≤ x.1
  small : x.1 < 2500 → x.2 ≤ x.1 ∧ ∀ j (h : j < L.length), j < x.2 → TrSmall L[j]
structure L3 (L : List Tr) (t : Tr) (n0 i : Nat) (x : Nat × Nat) : Prop where
  k : x.2 ≤ t.n
  n : x.1 ≤ 6000
  ge : n0 ≤ x.1
  small : x.1 < 2500 → i + 1 ≤ x.1 ∧ x.2 ≤ x.1 ∧ (∀ j (h : j < L.length), j < i → TrSmall L[j]) ∧ ∀ j (h : j < t.ns.length), j < x.2 → NdSmall t.ns[j]

end Go.V

/-
  Walks: bonsailaw11.large.
-/
set_option linter.unusedVariables false
set_option linter.unusedSimpArgs false
namespace Go.V
open Go Go.Proofs

structure Ns11 (d : Nd) : Prop where
  kn : d.kn < 400
  t : d.t.size < 8020
structure Ts11 (t : Tr) : Prop where
  n : t.n < 400
  ns : ∀ nd ∈ t.ns, Ns11 nd
structure Ds11 (d : Df) : Prop where
  name : d.name.size < 8020
  t : Ts11 d.t
structure Gs11 (g : Gr) : Prop where
  n : g.n < 400
  ds : ∀ d ∈ g.ds, Ds11 d
theorem NdW.ok11 {I : GH} {d : Nd} (h : NdW I d) (hs : Ns11 d) : d.ok I :=
  ⟨h.k, h.s0, h.s1, h.s2, h.s3, h.ts, h.lo, h.hi, h.rs.big (by have := hs.kn; omega), h.kids⟩
theorem TrW.ok11 {I : GH} {t : Tr} (h : TrW I t) (hs : Ts11 t) : t.ok I :=
  ⟨h.rs.big (by have := hs.n; omega), fun nd hnd => (h.ns nd hnd).ok11 (hs.ns nd hnd), h.root⟩
theorem GrW.ok11 {I : GH} {g : Gr} (h : GrW I g) (hs : Gs11 g) : g.ok I :=
  ⟨h.rs.big (by have := hs.n; omega), fun d hd => ⟨by have := (hs.ds d hd).name; omega, (h.ds d hd).t.ok11 (hs.ds d hd).t⟩⟩
theorem sv_int {a b : Int} (h : a = b) : SvLe (.val (.int .i64 a)) (.val (.int .i64 b)) := by
  subst h
  exact .refl
structure N1 (t : Tr) (x : Nat × Nat) : Prop where
  j : x.2 ≤ t.n
  n : x.1 ≤ 2000
  len : x.1 < 400 → t.n < 400
  small : x.1 < 400 → ∀ i (h : i < t.ns.length), i < x.2 → Ns11 t.ns[i]
structure N2 (g : Gr) (x : Nat × Nat) : Prop where
  k : x.2 ≤ g.n
  n : x.1 ≤ 2000
  small : x.1 < 400 → x.2 ≤ x.1 ∧ ∀ i (h : i < g.ds.length), i < x.2 → Ds11 g.ds[i]
structure N3 (g : Gr) (t : Tr) (k : Nat) (x : Nat × Nat) : Prop where
  j : x.2 ≤ t.n
  n : x.1 ≤ 2000
  small : x.1 < 400 → t.n < 400 ∧ k + 1 ≤ x.1 ∧ (∀ i (h : i < g.ds.length), i < k → Ds11 g.ds[i]) ∧ (∀ h : k < g.ds.length, g.ds[k].name.size < 8020) ∧ ∀ i (h : i < t.ns.length), i < x.2 → Ns11 t.ns[i]

set_option maxRecDepth 100000 in
set_option maxHeartbeats 4000000 in
theorem large11_spec {I : GH} {g : Gr} (hg : GrW I g) {t : Tr} (ht : TrW I t) :
    Spec Tryz.prog 33 [g.val, t.val] I [] fun v I' M' => (∃ r, v = .bool r ∧ (r = false → Gs11 g ∧ Ts11 t)) ∧ I' = I ∧ M' = [] := by
  refine spec_of_V [] TryzEOK Tryz.func33 rfl rfl rfl ?_
  intro B h0
  have hgn := hg.n
  have htn := ht.n
  have htc := ht.rs.len
  refine LoopOb.inv (ι := Nat × Nat) (fun x => { fl := [(2, .ref 2 0), (3, .ref 3 0), (5, .val (.int .i64 x.1)), (6, .val (.int .i64 x.2))], cl := [(2, [.slice g.a g.n g.c]), (3, t.cells)], gi := I }) (N1 t) (fun x => t.n - x.2) ?_ ?_
  · refine ⟨(min 400 t.n, 0), ⟨Nat.zero_le _, by simp only; omega, fun h => by simp only at h; omega, fun _ i _ h => by simp at h⟩, .refl, .cons .refl (.cons .refl (.cons ?_ (.cons .refl .nil))), .cons rfl (.cons rfl (.nil))⟩
    refine sv_int ?_
    omega
  rintro ⟨n, j⟩ ⟨hj, hn, hl, hsm⟩
  simp only at hj hn hl hsm
  refine GuardOb.mk (fun h => CondOb.mk (fun h2 => ?body) (fun h2 => ?e1)) (fun h => ?e2)
  case body =>
    have hlt : j < t.n := by simpa using h
    have hn2 : n < 400 := by have := of_decide_eq_true h2; omega
    have hlt' : j < t.ns.length := by omega
    obtain ⟨bd, hbd, hrb⟩ := ht.rs.row Nd.cells_len hlt hlt'
    have hnd := ht.ns _ (List.getElem_mem hlt')
    have hts := hnd.ts
    have r3 : ∀ M, Rd I M ((bd.add (j * 9)).add 8) 1 [.slice t.ns[j].ka t.ns[j].kn t.ns[j].kc] := fun M => (hrb M).part (k := 8) (m := 1) (by decide)
    have r4 : ∀ M, Rd I M ((bd.add (j * 9)).add 5) 1 [.string t.ns[j].t] := fun M => (hrb M).part (k := 5) (m := 1) (by decide)
    generalize hxx : t.ns[j] = nd at hnd hts r3 r4
    refine CodeOb.draw TryzEOK rfl rfl rfl ?_
    refine IdxOb.mk bd j hbd rfl hlt ?_
    refine LoadOb.mk _ (r3 _) ?_
    refine ArithOb.mk ((n + min 400 nd.kn : Nat) : Int) (wr_eq (by omega) (by omega)) ?_
    refine IdxOb.mk bd j hbd rfl hlt ?_
    refine LoadOb.mk _ (r4 _) ?_
    refine DivOb.mk (by decide) ?_
    refine ArithOb.mk ((nd.t.size / 20 : Nat) : Int) (wr_eq (by rw [Int.tdiv_eq_ediv_of_nonneg (by omega)]; omega) (by omega)) ?_
    refine ArithOb.mk ((n + min 400 nd.kn + min 400 (nd.t.size / 20) : Nat) : Int) (wr_eq (by omega) (by omega)) ?_
    refine ArithOb.mk _ (next_wr (i := j) (by omega)) ?_
    refine ⟨(_, j + 1), ⟨⟨by simp only; omega, by simp only; omega, fun h7 => by simp only at h7; exact hl (by omega), fun h7 i hi hi2 => ?_⟩, by simp only; omega⟩, .refl, .cons .refl (.cons .refl (.cons .refl (.cons .refl (.nil)))), .cons rfl (.cons rfl (.nil))⟩
    simp only at h7 hi2
    by_cases e : i = j
    · subst e
      rw [hxx]
      exact ⟨by omega, by omega⟩
    · exact hsm (by omega) i hi (by omega)
  case' e1 => have hx : n < 400 → j = t.n := fun hh => by have := of_decide_eq_false h2; omega
  case' e2 => have hx : n < 400 → j = t.n := fun hh => by have : ¬ (j : Int) < (t.n : Int) := of_decide_eq_false h; omega
  all_goals
    clear h
    have hT : n < 400 → Ts11 t := fun hh => ⟨hl hh, fun nd hnd => by
      obtain ⟨y, hy, rfl⟩ := List.getElem_of_mem hnd
      exact hsm hh y hy (by have := hx hh; omega)⟩
    refine LoopOb.inv (ι := Nat × Nat) (fun x => { fl := [(2, .ref 2 0), (5, .val (.int .i64 x.1)), (7, .val (.int .i64 x.2))], cl := [(2, [.slice g.a g.n g.c])], gi := I }) (fun x => N2 g x ∧ n ≤ x.1) (fun x => g.n - x.2) ?_ ?_
    · exact ⟨(n, 0), ⟨⟨Nat.zero_le _, hn, fun _ => ⟨Nat.zero_le _, fun i _ h => by simp at h⟩⟩, Nat.le_refl _⟩, .refl, .cons .refl (.cons .refl (.cons .refl (.nil))), .cons rfl (.nil)⟩
    rintro ⟨m, k⟩ ⟨⟨hk, hm, hsm2⟩, hge⟩
    simp only at hk hm hsm2 hge
    have fin : (m < 400 → k = g.n) → ∀ c, c = decide ((400 : Int) ≤ (m : Int)) → (c = false → Gs11 g ∧ Ts11 t) := fun h1 c hc hcf => by
      rw [hc] at hcf
      have hm4 : m < 400 := by have := of_decide_eq_false hcf; omega
      obtain ⟨s1, s2⟩ := hsm2 hm4
      have h3 := h1 hm4
      refine ⟨⟨by omega, fun d hd => ?_⟩, hT (by omega)⟩
      obtain ⟨y, hy, rfl⟩ := List.getElem_of_mem hd
      exact s2 y hy (by omega)
    refine GuardOb.mk (fun h3 => CondOb.mk (fun h4 => ?_) (fun h4 => ?_)) (fun h3 => ?_)
    · have hkl : k < g.n := by simpa using h3
      have hm2 : m < 400 := by have := of_decide_eq_true h4; omega
      obtain ⟨s1, s2⟩ := hsm2 hm2
      have hkl' : k < g.ds.length := by omega
      obtain ⟨ad, had, hrd⟩ := hg.rs.row Df.cells_len hkl hkl'
      have hd := hg.ds _ (List.getElem_mem hkl')
      have hnm := hd.name
      have hW := hd.t
      have hWn := hW.n
      have r1 : ∀ M, Rd I M ((ad.add (k * 3)).add 0) 1 [.string g.ds[k].name] := fun M => (hrd M).part (k := 0) (m := 1) (by decide)
      have r2 : ∀ M, Rd I M ((ad.add (k * 3)).add 1) 2 g.ds[k].t.cells := fun M => (hrd M).part (k := 1) (m := 2) (by decide)
      have hname : ∀ (q : Nat), q < 8020 → g.ds[k].name.size = q → ∀ h : k < g.ds.length, g.ds[k].name.size < 8020 := fun q hq e h => by rw [e]; exact hq
      generalize hdn : g.ds[k].name = nm at hnm r1 hname
      generalize htt : g.ds[k].t = u at hW hWn r2
      refine IdxOb.mk ad k had rfl hkl ?_
      refine LoadOb.mk _ (r2 _) ?_
      refine CodeOb.draw TryzEOK rfl rfl rfl ?_
      refine ArithOb.mk ((m + 1 : Nat) : Int) (wr_eq (by omega) (by omega)) ?_
      refine ArithOb.mk ((m + 1 + min 400 u.n : Nat) : Int) (wr_eq (by omega) (by omega)) ?_
      refine IdxOb.mk ad k had rfl hkl ?_
      refine LoadOb.mk _ (r1 _) ?_
      refine DivOb.mk (by decide) ?_
      refine ArithOb.mk ((nm.size / 20 : Nat) : Int) (wr_eq (by rw [Int.tdiv_eq_ediv_of_nonneg (by omega)]; omega) (by omega)) ?_
      refine ArithOb.mk ((m + 1 + min 400 u.n + min 400 (nm.size / 20) : Nat) : Int) (wr_eq (by omega) (by omega)) ?_
      refine LoopOb.inv (ι := Nat × Nat) (fun x => { fl := [(2, .ref 2 0), (5, .val (.int .i64 x.1)), (7, .val (.int .i64 k)), (8, .ref 8 0), (9, .val (.int .i64 x.2))], cl := [(2, [.slice g.a g.n g.c]), (8, u.cells)], gi := I }) (fun x => N3 g u k x ∧ n ≤ x.1) (fun x => u.n - x.2) ?_ ?_
      · exact ⟨(_, 0), ⟨⟨Nat.zero_le _, by simp only; omega, fun h => by simp only at h; exact ⟨by omega, by simp only; omega, s2, fun h => hname nm.size (by omega) rfl h, fun i _ h => by simp at h⟩⟩, by simp only; omega⟩, .refl, .cons .refl (.cons .refl (.cons .refl (.cons .refl (.cons .refl (.nil))))), .cons rfl (.cons rfl (.nil))⟩
      rintro ⟨p, q⟩ ⟨⟨hq, hp, hsm3⟩, hpe⟩
      simp only at hq hp hpe hsm3
      have out : (p < 400 → q = u.n) → N2 g (p, k + 1) := fun h1 => by
        refine ⟨by simp only; omega, hp, fun h2 => ?_⟩
        simp only at h2
        obtain ⟨u1, u2, u3, u4, u5⟩ := hsm3 h2
        have u6 := h1 h2
        refine ⟨u2, fun i hi hi2 => ?_⟩
        by_cases e : i = k
        · subst e
          refine ⟨u4 hi, ?_⟩
          rw [htt]
          exact ⟨u1, fun nd hnd => by
            obtain ⟨y, hy, rfl⟩ := List.getElem_of_mem hnd
            exact u5 y hy (by omega)⟩
        · exact u3 i hi (by simp only at hi2; omega)
      refine GuardOb.mk (fun h5 => CondOb.mk (fun h6 => ?_) (fun h6 => ?_)) (fun h5 => ?_)
      · have hql : q < u.n := by simpa using h5
        have hp2 : p < 400 := by have := of_decide_eq_true h6; omega
        obtain ⟨u1, u2, u3, u4, u5⟩ := hsm3 hp2
        have hql' : q < u.ns.length := by omega
        obtain ⟨bd, hbd, hrb⟩ := hW.rs.row Nd.cells_len hql hql'
        have hnd := hW.ns _ (List.getElem_mem hql')
        have hts := hnd.ts
        have r3 : ∀ M, Rd I M ((bd.add (q * 9)).add 8) 1 [.slice u.ns[q].ka u.ns[q].kn u.ns[q].kc] := fun M => (hrb M).part (k := 8) (m := 1) (by decide)
        have r4 : ∀ M, Rd I M ((bd.add (q * 9)).add 5) 1 [.string u.ns[q].t] := fun M => (hrb M).part (k := 5) (m := 1) (by decide)
        generalize hxx : u.ns[q] = nd at hnd hts r3 r4
        refine CodeOb.draw TryzEOK rfl rfl rfl ?_
        refine IdxOb.mk bd q hbd rfl hql ?_
        refine LoadOb.mk _ (r3 _) ?_
        refine ArithOb.mk ((p + min 400 nd.kn : Nat) : Int) (wr_eq (by omega) (by omega)) ?_
        refine IdxOb.mk bd q hbd rfl hql ?_
        refine LoadOb.mk _ (r4 _) ?_
        refine DivOb.mk (by decide) ?_
        refine ArithOb.mk ((nd.t.size / 20 : Nat) : Int) (wr_eq (by rw [Int.tdiv_eq_ediv_of_nonneg (by omega)]; omega) (by omega)) ?_
        refine ArithOb.mk ((p + min 400 nd.kn + min 400 (nd.t.size / 20) : Nat) : Int) (wr_eq (by omega) (by omega)) ?_
        refine ArithOb.mk _ (next_wr (i := q) (by omega)) ?_
        refine ⟨(_, q + 1), ⟨⟨⟨by simp only; omega, by simp only; omega, fun h7 => ?_⟩, by simp only; omega⟩, by simp only; omega⟩, .refl, .cons .refl (.cons .refl (.cons .refl (.cons .refl (.cons .refl (.nil))))), .cons rfl (.cons rfl (.nil))⟩
        simp only at h7 ⊢
        refine ⟨u1, by omega, u3, u4, fun i hi hi2 => ?_⟩
        by_cases e : i = q
        · subst e
          rw [hxx]
          exact ⟨by omega, by omega⟩
        · exact u5 i hi (by omega)
      · have hp2 : 400 ≤ p := by have := of_decide_eq_false h6; omega
        refine ArithOb.mk _ (next_wr (i := k) (by omega)) ?_
        exact ⟨(p, k + 1), ⟨⟨out fun h => by omega, hpe⟩, by simp only; omega⟩, .refl, .cons .refl (.cons .refl (.cons .refl (.nil))), .cons rfl (.nil)⟩
      · have hql : u.n ≤ q := by simpa using h5
        refine ArithOb.mk _ (next_wr (i := k) (by omega)) ?_
        exact ⟨(p, k + 1), ⟨⟨out fun h => by omega, hpe⟩, by simp only; omega⟩, .refl, .cons .refl (.cons .refl (.cons .refl (.nil))), .cons rfl (.nil)⟩
    · have hm2 : 400 ≤ m := by have := of_decide_eq_false h4; omega
      exact ⟨_, _, .refl, ⟨_, rfl, fin (fun h => by omega) _ rfl⟩, rfl, rfl⟩
    · have hge2 : g.n ≤ k := by simpa using h3
      exact ⟨_, _, .refl, ⟨_, rfl, fin (fun h => by omega) _ rfl⟩, rfl, rfl⟩
end Go.V

/-
  The law of flows and firsts.
-/
set_option linter.unusedVariables false
set_option linter.unusedSimpArgs false
namespace Go.V
open Go Go.Proofs

theorem GuardOb.y' {b : Bool} {Y N : Prop} (h : Y) : GuardOb b b Y N := ⟨fun _ => h, fun e => by cases b <;> cases e⟩
theorem GuardOb.n' {b : Bool} {Y N : Prop} (h : N) : GuardOb (!b) b Y N := ⟨fun e => (by cases b <;> cases e), fun _ => h⟩
theorem BinOb.eqWL {x y : Operand} {p q : Ws} {r : Bool} (e : decide (p = q) = r) {V : Value → Prop} {other : Prop} (h : V (.bool r)) :
    BinOb Tryz.prog .eql 65 x y (.val (.agg #[.int .u64 p.a.toNat, .int .u64 p.b.toNat, .int .u64 p.c.toNat, .int .u64 p.d.toNat])) (.val (.agg #[.int .u64 q.a.toNat, .int .u64 q.b.toNat, .int .u64 q.c.toNat, .int .u64 q.d.toNat])) V other := by
  refine BinOb.eqW ?_
  rw [e]
  exact h
theorem ndR_of {I : GH} {t : Tr} (ht : t.ok I) (hr : right t = true) : ∀ n ∈ t.ns, NdR n := fun n hn => by
  obtain ⟨i, hi, rfl⟩ := List.getElem_of_mem hn
  have hf := right_fits hr hi
  have hd := ht.ns _ (List.getElem_mem hi)
  exact ⟨fits_k hf, ⟨hd.s0, hd.s1, hd.s2, hd.s3⟩, fits_text hf⟩
theorem isAt_nil {I : GH} {M : List Blk} : IsAt I M none 0 [] := ⟨rfl, fun j h => by simp at h⟩
theorem fsAt_nil {I : GH} {M : List Blk} : FsAt I M none 0 [] := ⟨rfl, fun j h => by simp at h⟩

set_option maxRecDepth 20000 in
set_option maxHeartbeats 16000000 in
theorem firstFlows_V {I : GH} (hT : Tabs I debL) {g : Gr} (hgw : GrW I g) {t : Tr} (htw : TrW I t) : SpecE Tryz.prog 7 [g.val, t.val] I [] fun v I' M' => v = .bool true := by
  refine specE_of_V [] TryzEOK Tryz.func7 rfl rfl rfl ?_
  intro B h0
  refine CallOb.mk [] [] _ (.refl _) (large11_spec hgw htw) ?_
  rintro v J N - ⟨⟨r, rfl, hr⟩, rfl, rfl⟩
  cases r with
  | true =>
    refine GuardOb.mk (fun h => absurd h (by simp)) (fun _ => ?_)
    refine CallOb.mk [] [] _ (.refl _) (awake11_spec hT) ?_
    rintro v J1 N - ⟨rfl, hJ1, rfl⟩
    exact ⟨_, _, .refl, rfl⟩
  | false =>
  refine GuardOb.y' ?_
  refine CallOb.mk [] [] _ (.refl _) (awake11_spec hT) ?_
  rintro v J1 N - ⟨rfl, hJ1, rfl⟩
  refine CondOb.mk (fun h => by cases h) (fun _ => ?_)
  obtain ⟨hgs, hts⟩ := hr rfl
  have hT := hT.mono hJ1
  have hg := (hgw.mono hJ1).ok11 hgs
  have ht := (htw.mono hJ1).ok11 hts
  have hgn := hg.n
  have htn := ht.n
  clear hgw htw
  have hkg : ∀ d ∈ g.ds, KB d.t := fun d hd n hn => by have := ((hgs.ds d hd).t.ns n hn).kn; omega
  have hkt : KB t := fun n hn => by have := (hts.ns n hn).kn; omega
  refine CallOb.mk [] [] _ (.refl _) (IOf_spec hT hg hkg) ?_
  rintro v J2 N - ⟨hJ2, ⟨hm, rfl, rfl⟩ | ⟨hm, F, b, l, hF, hl, rfl, rfl⟩⟩
  · -- a grammar that may not be
    have hT := hT.mono hJ2
    have hg := hg.mono hJ2
    have ht := ht.mono hJ2
    refine CallOb.mk [] [] _ (.refl _) (FOf_spec hT hg) ?_
    rintro v J3 N - ⟨hJ3, ⟨-, rfl, rfl⟩ | ⟨hm', -⟩⟩
    rotate_left
    · exact (hm hm').elim
    have hT := hT.mono hJ3
    have hg := hg.mono hJ3
    have ht := ht.mono hJ3
    refine CallOb.mk [] [] _ (.refl _) (INodes_spec (la := none) (ln := 0) (lc := 0) (l := []) hT hg ht hkt isAt_nil) ?_
    rintro v J4 N - ⟨hJ4, ⟨-, rfl, rfl⟩ | ⟨hok, -⟩⟩
    rotate_left
    · simp [okI, hm] at hok
    have hT := hT.mono hJ4
    have hg := hg.mono hJ4
    have ht := ht.mono hJ4
    refine CallOb.mk [] [] _ (.refl _) (FNodes_spec (la := none) (ln := 0) (lc := 0) (fl := []) hT hg ht fsAt_nil) ?_
    rintro v J5 N - ⟨hJ5, ⟨-, rfl, rfl⟩ | ⟨r, b, -, rfl, rfl⟩⟩
    · refine GuardOb.mk (fun _ => ?_) (fun h => absurd h (by simp))
      refine GuardOb.mk (fun h => absurd h (by simp)) (fun _ => ?_)
      refine GuardOb.mk (fun h => absurd h (by simp)) (fun _ => ?_)
      refine LoopOb.inv (ι := Nat) (fun _ => { fl := [(9, .val (.slice none 0 0)), (13, .val (.int .i64 0))], gi := J5, mi := [] }) (fun _ => True) (fun _ => 0) ⟨0, trivial, .sub (List.nil_sublist _) .refl, .cons .refl (.cons .refl (.nil)), .nil⟩ ?_
      intro _ _
      refine CondOb.mk (fun h => absurd h (by simp)) (fun _ => ?_)
      exact ⟨_, _, .refl, rfl⟩
    · refine GuardOb.mk (fun _ => ?_) (fun h => absurd h (by simp))
      refine GuardOb.mk (fun _ => ?_) (fun h => absurd h (by simp))
      refine GuardOb.mk (fun _ => ?_) (fun h => absurd h (by simp [hm]))
      refine GuardOb.mk (fun _ => ?_) (fun _ => ?_)
      · refine CondOb.mk (fun h => absurd h (by simp [hm])) (fun _ => ?_)
        refine LoopOb.inv (ι := Nat) (fun _ => { fl := [(9, .val (.slice none 0 0)), (13, .val (.int .i64 0))], gi := J5, mi := [] }) (fun _ => True) (fun _ => 0) ⟨0, trivial, .sub (List.nil_sublist _) .refl, .cons .refl (.cons .refl (.nil)), .nil⟩ ?_
        intro _ _
        refine CondOb.mk (fun h => absurd h (by simp)) (fun _ => ?_)
        exact ⟨_, _, .refl, rfl⟩
      · refine LoopOb.inv (ι := Nat) (fun _ => { fl := [(9, .val (.slice none 0 0)), (13, .val (.int .i64 0))], gi := J5, mi := [] }) (fun _ => True) (fun _ => 0) ⟨0, trivial, .sub (List.nil_sublist _) .refl, .cons .refl (.cons .refl (.nil)), .nil⟩ ?_
        intro _ _
        refine CondOb.mk (fun h => absurd h (by simp)) (fun _ => ?_)
        exact ⟨_, _, .refl, rfl⟩
  -- one that may be
  have hlen := hl.len
  have hT := hT.mono hJ2
  have hg := hg.mono hJ2
  have ht := ht.mono hJ2
  refine CallOb.mk [] [fiRow b l] _ (.refl _) (FOf_spec hT hg) ?_
  rintro v J3 N - ⟨hJ3, ⟨hm', -⟩ | ⟨-, bf, F', rfl, rfl, hF'⟩⟩
  · exact (hm' hm).elim
  obtain rfl := hF.unique hF'
  have hT := hT.mono hJ3
  have hg := hg.mono hJ3
  have ht := ht.mono hJ3
  have hFl := hF.len
  have hatl : IsAt J3 [flRow bf F, fiRow b l] (some ⟨b, 0, none⟩) g.n l := by
    have := fiRow_at (I := J3) (M := [flRow bf F, fiRow b l]) (b := b) (l := l) (by simp)
    rwa [show l.length = g.n by omega] at this
  refine CallOb.whole _ (INodes_spec (lc := g.n) hT hg ht hkt hatl) ?_
  rintro v J4 N - ⟨hJ4, hx⟩
  have hT := hT.mono hJ4
  have hg := hg.mono hJ4
  have ht := ht.mono hJ4
  have hdl : decide (l.length = g.n) = true := decide_eq_true (by omega)
  have hdF : decide (F.length = g.n) = true := decide_eq_true (by omega)
  rcases hx with ⟨hok, rfl, rfl⟩ | ⟨hok, F2, b2, hF2, rfl, rfl⟩
  · have hnp : nodesP g F t = none := by
      rw [okI, hdl, hm] at hok
      rw [nodesP, hdF]
      have : (right t && namedOk (placesL g.ds) t.ns) = false := by simpa using hok
      rw [this]
      rfl
    have hatF : FsAt J4 [flRow bf F, fiRow b l] (some ⟨bf, 0, none⟩) g.n F := by
      have := flRow_at (I := J4) (M := [flRow bf F, fiRow b l]) (b := bf) (l := F) (by simp)
      rwa [show F.length = g.n by omega] at this
    refine CallOb.whole _ (FNodes_spec (lc := g.n) hT hg ht hatF) ?_
    rintro v J5 N - ⟨hJ5, ⟨-, rfl, rfl⟩ | ⟨r, b3, hr3, -, -⟩⟩
    rotate_left
    · rw [hnp] at hr3; cases hr3
    refine GuardOb.mk (fun _ => ?_) (fun h => absurd h (by simp))
    refine GuardOb.mk (fun h => absurd h (by simp)) (fun _ => ?_)
    refine GuardOb.mk (fun h => absurd h (by simp)) (fun _ => ?_)
    refine LoopOb.inv (ι := Nat) (fun _ => { fl := [(9, .val (.slice none 0 0)), (13, .val (.int .i64 0))], gi := J5, mi := [] }) (fun _ => True) (fun _ => 0) ⟨0, trivial, .sub (List.nil_sublist _) .refl, .cons .refl (.cons .refl (.nil)), .nil⟩ ?_
    intro _ _
    refine CondOb.mk (fun h => absurd h (by simp)) (fun _ => ?_)
    exact ⟨_, _, .refl, rfl⟩
  obtain rfl := hF.unique hF2
  have hrn : (right t && namedOk (placesL g.ds) t.ns) = true := by
    rw [okI, hdl, hm] at hok
    simpa using hok
  have hnp : nodesP g F t = some (nodesF (placesL g.ds) F t.ns []) := by
    rw [nodesP, hdF, hrn]
    rfl
  rw [Bool.and_eq_true] at hrn
  have hMay := mayF_of hgn hm
  have hrel := nodes_FR2' hF hl (fun d hd => ndR_of (hg.ds d hd).t (hMay.right d hd)) (ndR_of ht hrn.1)
  have hxl := nodesF_len (placesL g.ds) F t.ns []
  have hkl := nodesI_len (placesL g.ds) l (nodesF (placesL g.ds) F t.ns []) t.ns []
  simp only [List.length_nil, Nat.zero_add] at hxl hkl
  generalize nodesI (placesL g.ds) l (nodesF (placesL g.ds) F t.ns []) t.ns [] = ks at hrel hkl
  generalize nodesF (placesL g.ds) F t.ns [] = xs at hrel hxl hnp
  have hatF : FsAt J4 [fiRow b2 ks, flRow bf F, fiRow b l] (some ⟨bf, 0, none⟩) g.n F := by
    have := flRow_at (I := J4) (M := [fiRow b2 ks, flRow bf F, fiRow b l]) (b := bf) (l := F) (by simp)
    rwa [show F.length = g.n by omega] at this
  refine CallOb.whole _ (FNodes_spec (lc := g.n) hT hg ht hatF) ?_
  rintro v J5 N - ⟨hJ5, ⟨hr3, -, -⟩ | ⟨r, b3, hr3, rfl, rfl⟩⟩
  · rw [hnp] at hr3; cases hr3
  rw [hnp] at hr3
  obtain rfl := Option.some.inj hr3
  refine GuardOb.mk (fun _ => ?_) (fun h => absurd h (by simp))
  refine GuardOb.mk (fun h => absurd h (by simp)) (fun _ => ?_)
  refine GuardOb.mk (fun h => absurd h (by simp)) (fun _ => ?_)
  refine LoopOb.inv (ι := Nat) (fun i => { fl := [(9, .val (.slice (some ⟨b2, 0, none⟩) t.n t.n)), (11, .val (.slice (some ⟨b3, 0, none⟩) t.n t.n)), (13, .val (.int .i64 i))], gi := J5, mi := [flRow b3 xs, fiRow b2 ks, flRow bf F, fiRow b l] }) (fun i => i ≤ t.n) (fun i => t.n - i) ?_ ?_
  · exact ⟨0, Nat.zero_le _, .refl, .cons .refl (.cons .refl (.cons .refl (.nil))), .nil⟩
  intro i hi
  refine CondOb.mk (fun h => ?_) (fun h => ?_)
  rotate_left
  · exact ⟨_, _, .sub (List.nil_sublist _) .refl, rfl⟩
  have hlt : i < t.n := by have : (i : Int) < (t.n : Int) := of_decide_eq_true h; omega
  have hcap := ht.rs.cap
  have hr := hrel.getD i
  have hx0 := flRow_rd (I := J5) (M := [flRow b3 xs, fiRow b2 ks, flRow bf F, fiRow b l]) (b := b3) (l := xs) (by simp) (j := i) (by omega)
  have hk0 := fiRow_rd (I := J5) (M := [flRow b3 xs, fiRow b2 ks, flRow bf F, fiRow b l]) (b := b2) (l := ks) (by simp) (j := i) (by omega)
  rw [show xs.getD i fl0 = xs[i]'(by omega) by simp [List.getD_eq_getElem?_getD, show i < xs.length by omega], show ks.getD i fi0 = ks[i]'(by omega) by simp [List.getD_eq_getElem?_getD, show i < ks.length by omega]] at hr
  generalize xs[i]'(by omega) = x at hr hx0
  generalize ks[i]'(by omega) = k at hr hk0
  have hnx := next_wr (i := i) (by omega)
  obtain ⟨z, sm, f⟩ := x
  obtain ⟨w, kf⟩ := k
  obtain ⟨hz, hs⟩ := hr
  simp only at hz hs
  by_cases hw : w = .zero
  · cases z <;> cases sm <;> cases kf
    · refine IdxOb.mk ⟨b3, 0, none⟩ i rfl rfl hlt ?_
      refine LoadOb.mk _ (hx0.part (k := 0) (m := 1) (by decide)) ?_
      refine GuardOb.mk (fun h => absurd h (by simp)) (fun _ => ?_)
      refine IdxOb.mk ⟨b3, 0, none⟩ i rfl rfl hlt ?_
      refine LoadOb.mk _ (hx0.part (k := 1) (m := 1) (by decide)) ?_
      refine GuardOb.mk (fun h => absurd h (by simp)) (fun _ => ?_)
      refine IdxOb.mk ⟨b2, 0, none⟩ i rfl rfl hlt ?_
      refine LoadOb.mk _ (hk0.part (k := 4) (m := 1) (by decide)) ?_
      refine GuardOb.mk (fun _ => ?_) (fun h => absurd h (by simp))
      refine IdxOb.mk ⟨b2, 0, none⟩ i rfl rfl hlt ?_
      refine LoadOb.mk _ (hk0.part (k := 0) (m := 4) (by decide)) ?_
      refine BinOb.eqWL (p := w) (q := .zero) (decide_eq_true hw) ?_
      refine GuardOb.mk (fun _ => ?_) (fun h => absurd h (by simp))
      refine IdxOb.mk ⟨b3, 0, none⟩ i rfl rfl hlt ?_
      refine LoadOb.mk _ hx0 ?_
      refine CallOb.whole _ (Suc_spec ⟨false, false, f⟩) ?_
      rintro v J6 N - ⟨rfl, rfl, rfl⟩
      refine CondOb.mk (fun h => absurd h (by simp [Fl.suc])) (fun _ => ?_)
      refine ArithOb.mk _ hnx ?_
      exact ⟨i + 1, ⟨hlt, by omega⟩, .refl, .cons .refl (.cons .refl (.cons .refl (.nil))), .nil⟩
    · refine IdxOb.mk ⟨b3, 0, none⟩ i rfl rfl hlt ?_
      refine LoadOb.mk _ (hx0.part (k := 0) (m := 1) (by decide)) ?_
      refine GuardOb.mk (fun h => absurd h (by simp)) (fun _ => ?_)
      refine IdxOb.mk ⟨b3, 0, none⟩ i rfl rfl hlt ?_
      refine LoadOb.mk _ (hx0.part (k := 1) (m := 1) (by decide)) ?_
      refine GuardOb.mk (fun h => absurd h (by simp)) (fun _ => ?_)
      refine IdxOb.mk ⟨b2, 0, none⟩ i rfl rfl hlt ?_
      refine LoadOb.mk _ (hk0.part (k := 4) (m := 1) (by decide)) ?_
      refine GuardOb.mk (fun h => absurd h (by simp)) (fun _ => ?_)
      refine ArithOb.mk _ hnx ?_
      exact ⟨i + 1, ⟨hlt, by omega⟩, .refl, .cons .refl (.cons .refl (.cons .refl (.nil))), .nil⟩
    · exact absurd hw (hs rfl)
    · exact absurd hw (hs rfl)
    · exact absurd (hz rfl) (by decide)
    · refine IdxOb.mk ⟨b3, 0, none⟩ i rfl rfl hlt ?_
      refine LoadOb.mk _ (hx0.part (k := 0) (m := 1) (by decide)) ?_
      refine GuardOb.mk (fun _ => ?_) (fun h => absurd h (by simp))
      refine IdxOb.mk ⟨b2, 0, none⟩ i rfl rfl hlt ?_
      refine LoadOb.mk _ (hk0.part (k := 4) (m := 1) (by decide)) ?_
      refine GuardOb.mk (fun _ => ?_) (fun h => absurd h (by simp))
      refine IdxOb.mk ⟨b3, 0, none⟩ i rfl rfl hlt ?_
      refine LoadOb.mk _ (hx0.part (k := 1) (m := 1) (by decide)) ?_
      refine GuardOb.mk (fun h => absurd h (by simp)) (fun _ => ?_)
      refine IdxOb.mk ⟨b2, 0, none⟩ i rfl rfl hlt ?_
      refine LoadOb.mk _ (hk0.part (k := 4) (m := 1) (by decide)) ?_
      refine GuardOb.mk (fun h => absurd h (by simp)) (fun _ => ?_)
      refine ArithOb.mk _ hnx ?_
      exact ⟨i + 1, ⟨hlt, by omega⟩, .refl, .cons .refl (.cons .refl (.cons .refl (.nil))), .nil⟩
    · exact absurd (hz rfl) (by decide)
    · exact absurd hw (hs rfl)
  · cases z <;> cases sm <;> cases kf
    · refine IdxOb.mk ⟨b3, 0, none⟩ i rfl rfl hlt ?_
      refine LoadOb.mk _ (hx0.part (k := 0) (m := 1) (by decide)) ?_
      refine GuardOb.mk (fun h => absurd h (by simp)) (fun _ => ?_)
      refine IdxOb.mk ⟨b3, 0, none⟩ i rfl rfl hlt ?_
      refine LoadOb.mk _ (hx0.part (k := 1) (m := 1) (by decide)) ?_
      refine GuardOb.mk (fun h => absurd h (by simp)) (fun _ => ?_)
      refine IdxOb.mk ⟨b2, 0, none⟩ i rfl rfl hlt ?_
      refine LoadOb.mk _ (hk0.part (k := 4) (m := 1) (by decide)) ?_
      refine GuardOb.mk (fun _ => ?_) (fun h => absurd h (by simp))
      refine IdxOb.mk ⟨b2, 0, none⟩ i rfl rfl hlt ?_
      refine LoadOb.mk _ (hk0.part (k := 0) (m := 4) (by decide)) ?_
      refine BinOb.eqWL (p := w) (q := .zero) (decide_eq_false hw) ?_
      refine GuardOb.mk (fun h => absurd h (by simp)) (fun _ => ?_)
      refine ArithOb.mk _ hnx ?_
      exact ⟨i + 1, ⟨hlt, by omega⟩, .refl, .cons .refl (.cons .refl (.cons .refl (.nil))), .nil⟩
    · refine IdxOb.mk ⟨b3, 0, none⟩ i rfl rfl hlt ?_
      refine LoadOb.mk _ (hx0.part (k := 0) (m := 1) (by decide)) ?_
      refine GuardOb.mk (fun h => absurd h (by simp)) (fun _ => ?_)
      refine IdxOb.mk ⟨b3, 0, none⟩ i rfl rfl hlt ?_
      refine LoadOb.mk _ (hx0.part (k := 1) (m := 1) (by decide)) ?_
      refine GuardOb.mk (fun h => absurd h (by simp)) (fun _ => ?_)
      refine IdxOb.mk ⟨b2, 0, none⟩ i rfl rfl hlt ?_
      refine LoadOb.mk _ (hk0.part (k := 4) (m := 1) (by decide)) ?_
      refine GuardOb.mk (fun h => absurd h (by simp)) (fun _ => ?_)
      refine ArithOb.mk _ hnx ?_
      exact ⟨i + 1, ⟨hlt, by omega⟩, .refl, .cons .refl (.cons .refl (.cons .refl (.nil))), .nil⟩
    · refine IdxOb.mk ⟨b3, 0, none⟩ i rfl rfl hlt ?_
      refine LoadOb.mk _ (hx0.part (k := 0) (m := 1) (by decide)) ?_
      refine GuardOb.mk (fun h => absurd h (by simp)) (fun _ => ?_)
      refine IdxOb.mk ⟨b3, 0, none⟩ i rfl rfl hlt ?_
      refine LoadOb.mk _ (hx0.part (k := 1) (m := 1) (by decide)) ?_
      refine GuardOb.mk (fun _ => ?_) (fun h => absurd h (by simp))
      refine IdxOb.mk ⟨b2, 0, none⟩ i rfl rfl hlt ?_
      refine LoadOb.mk _ (hk0.part (k := 0) (m := 4) (by decide)) ?_
      refine BinOb.eqWL (p := w) (q := .zero) (decide_eq_false hw) ?_
      refine GuardOb.mk (fun _ => ?_) (fun h => absurd h (by simp))
      refine IdxOb.mk ⟨b2, 0, none⟩ i rfl rfl hlt ?_
      refine LoadOb.mk _ (hk0.part (k := 4) (m := 1) (by decide)) ?_
      refine GuardOb.mk (fun _ => ?_) (fun h => absurd h (by simp))
      refine IdxOb.mk ⟨b2, 0, none⟩ i rfl rfl hlt ?_
      refine LoadOb.mk _ (hk0.part (k := 0) (m := 4) (by decide)) ?_
      refine BinOb.eqWL (p := w) (q := .zero) (decide_eq_false hw) ?_
      refine GuardOb.mk (fun h => absurd h (by simp)) (fun _ => ?_)
      refine ArithOb.mk _ hnx ?_
      exact ⟨i + 1, ⟨hlt, by omega⟩, .refl, .cons .refl (.cons .refl (.cons .refl (.nil))), .nil⟩
    · refine IdxOb.mk ⟨b3, 0, none⟩ i rfl rfl hlt ?_
      refine LoadOb.mk _ (hx0.part (k := 0) (m := 1) (by decide)) ?_
      refine GuardOb.mk (fun h => absurd h (by simp)) (fun _ => ?_)
      refine IdxOb.mk ⟨b3, 0, none⟩ i rfl rfl hlt ?_
      refine LoadOb.mk _ (hx0.part (k := 1) (m := 1) (by decide)) ?_
      refine GuardOb.mk (fun _ => ?_) (fun h => absurd h (by simp))
      refine IdxOb.mk ⟨b2, 0, none⟩ i rfl rfl hlt ?_
      refine LoadOb.mk _ (hk0.part (k := 0) (m := 4) (by decide)) ?_
      refine BinOb.eqWL (p := w) (q := .zero) (decide_eq_false hw) ?_
      refine GuardOb.mk (fun _ => ?_) (fun h => absurd h (by simp))
      refine IdxOb.mk ⟨b2, 0, none⟩ i rfl rfl hlt ?_
      refine LoadOb.mk _ (hk0.part (k := 4) (m := 1) (by decide)) ?_
      refine GuardOb.mk (fun h => absurd h (by simp)) (fun _ => ?_)
      refine ArithOb.mk _ hnx ?_
      exact ⟨i + 1, ⟨hlt, by omega⟩, .refl, .cons .refl (.cons .refl (.cons .refl (.nil))), .nil⟩
    · exact absurd (hz rfl) (by decide)
    · refine IdxOb.mk ⟨b3, 0, none⟩ i rfl rfl hlt ?_
      refine LoadOb.mk _ (hx0.part (k := 0) (m := 1) (by decide)) ?_
      refine GuardOb.mk (fun _ => ?_) (fun h => absurd h (by simp))
      refine IdxOb.mk ⟨b2, 0, none⟩ i rfl rfl hlt ?_
      refine LoadOb.mk _ (hk0.part (k := 4) (m := 1) (by decide)) ?_
      refine GuardOb.mk (fun _ => ?_) (fun h => absurd h (by simp))
      refine IdxOb.mk ⟨b3, 0, none⟩ i rfl rfl hlt ?_
      refine LoadOb.mk _ (hx0.part (k := 1) (m := 1) (by decide)) ?_
      refine GuardOb.mk (fun h => absurd h (by simp)) (fun _ => ?_)
      refine IdxOb.mk ⟨b2, 0, none⟩ i rfl rfl hlt ?_
      refine LoadOb.mk _ (hk0.part (k := 4) (m := 1) (by decide)) ?_
      refine GuardOb.mk (fun h => absurd h (by simp)) (fun _ => ?_)
      refine ArithOb.mk _ hnx ?_
      exact ⟨i + 1, ⟨hlt, by omega⟩, .refl, .cons .refl (.cons .refl (.cons .refl (.nil))), .nil⟩
    · exact absurd (hz rfl) (by decide)
    · refine IdxOb.mk ⟨b3, 0, none⟩ i rfl rfl hlt ?_
      refine LoadOb.mk _ (hx0.part (k := 0) (m := 1) (by decide)) ?_
      refine GuardOb.mk (fun _ => ?_) (fun h => absurd h (by simp))
      refine IdxOb.mk ⟨b2, 0, none⟩ i rfl rfl hlt ?_
      refine LoadOb.mk _ (hk0.part (k := 4) (m := 1) (by decide)) ?_
      refine GuardOb.mk (fun _ => ?_) (fun h => absurd h (by simp))
      refine IdxOb.mk ⟨b3, 0, none⟩ i rfl rfl hlt ?_
      refine LoadOb.mk _ (hx0.part (k := 1) (m := 1) (by decide)) ?_
      refine GuardOb.mk (fun _ => ?_) (fun h => absurd h (by simp))
      refine IdxOb.mk ⟨b2, 0, none⟩ i rfl rfl hlt ?_
      refine LoadOb.mk _ (hk0.part (k := 0) (m := 4) (by decide)) ?_
      refine BinOb.eqWL (p := w) (q := .zero) (decide_eq_false hw) ?_
      refine GuardOb.mk (fun _ => ?_) (fun h => absurd h (by simp))
      refine IdxOb.mk ⟨b2, 0, none⟩ i rfl rfl hlt ?_
      refine LoadOb.mk _ (hk0.part (k := 4) (m := 1) (by decide)) ?_
      refine GuardOb.mk (fun h => absurd h (by simp)) (fun _ => ?_)
      refine ArithOb.mk _ hnx ?_
      exact ⟨i + 1, ⟨hlt, by omega⟩, .refl, .cons .refl (.cons .refl (.cons .refl (.nil))), .nil⟩
end Go.V

/-
  For every input bonsai/bonsailaw11.FirstFlows returns true, and each argument reads behind the call as it read before: the given card, from the walk's contract. Conditions: those of the row itself.
-/
set_option linter.unusedVariables false
set_option linter.unusedSimpArgs false
namespace Go.Proofs.YtmijfbjkkllhlaaGreatDoor
open Go Go.V Go.ChangeShapes Go.WideShapes Go.ChangeAt Go.RowKit

theorem firstFlows_laid (os : Os) : laidMet Tryz.prog Rows.firstFlowsRow.laid ((laidWorld os).forCall (fun _ _ => 0) ⟨#[], #[.agg #[.slice none 0 0], .agg #[.slice none 0 0, .int .i64 0]], []⟩).memory :=
  laidMet_of_run' 8 (by kernel_rfl) (by kernel_rfl)
theorem firstFlows_reads (os : Os) {H : Type} (enc : TypeId × Value → H) : ∃ places, DataW.whole enc Tryz.prog ((laidWorld os).forCall (fun _ _ => 0) ⟨#[], #[.agg #[.slice none 0 0], .agg #[.slice none 0 0, .int .i64 0]], []⟩).memory Tryz.f7.params.toList Rows.firstFlowsSpec.vars false (#[.agg #[.slice none 0 0], .agg #[.slice none 0 0, .int .i64 0]] : Array Value).toList 8 = some ([.agg [.nil], .agg [.nil, .lit (.int .i64 0)]], [], places) :=
  ⟨[], by kernel_rfl⟩
theorem firstFlows_params : (Tryz.f7.params.toList.all fun t => Tryz.prog.readableRec t && decide (t < Tryz.prog.types.size) && !Tryz.prog.wantsStandIn t) = true := by kernel_rfl

set_option maxRecDepth 100000 in
theorem firstFlows_contract (H : Type) (enc : TypeId × Value → H) (W : World) (base : Nat) (args : Array Value) (ds gs : List (DataW H)) (before : List MemPlace)
    (hval : ∀ (j : Nat) t v, Tryz.f7.params[j]? = some t → args[j]? = some v → Value.okWide Tryz.prog W .any base t v)
    (hW : DataW.Whole enc Tryz.prog Tryz.f7.params.toList Rows.firstFlowsSpec.vars false W args.toList ds gs before) (hL : laidMetH Tryz.prog Rows.firstFlowsRow.laid W) :
    Calls Tryz.prog 7 args W fun e W' => ∃ v, e = .returned v ∧ Rows.firstFlowsSpec.post enc Tryz.prog Tryz.f7 false true false false W args v W' := by
  have hW' := hW
  obtain ⟨p, q, hA0, hV, rfl, hfz, hnd⟩ := hW
  have hA : DataW.TrodAll enc Tryz.prog W 0 (fun _ => true) true Tryz.f7.params.toList args.toList ds p := hA0
  have hAk := hA
  rw [Tryz.params7] at hA
  obtain ⟨rfl, rfl⟩ := trodVars_none hV
  have hlt : ∀ x ∈ p, x.block < W.heap.size := fun x hx => hW'.lt x (by simp [hx])
  have hT : Tabs (ghost W) debL := tabs_ghost hL rfl
  obtain ⟨v1, v2, d1, d2, p1, p2, rfl, rfl, rfl, h1, h2⟩ := trodAll_two hA
  obtain ⟨g1, rfl, hg1⟩ := arg_grammar h1 (hval 0 24 _ (by kernel_rfl) rfl)
  obtain ⟨g2, rfl, hg2⟩ := arg_tree1 h2 (hval 1 43 _ (by kernel_rfl) rfl)
  refine (calls_of_specE (firstFlows_V hT hg1 hg2)).mono ?_
  rintro e W' ⟨v, rfl, ⟨I', M', rfl⟩, hK⟩
  refine ⟨_, rfl, post_of_old (pa := _) (pv := []) hW' (fun _ _ _ => ?_) (fun sp hs => trodAll_stays laidOut hK (fun t ht => ?_) hAk hlt sp (fun p hp => hs p (List.mem_append_left _ hp))) (fun _ _ => rfl) rfl hK (ok_one (by kernel_rfl) rfl (okWide_bool_mk Tryz.underlying4 _))⟩
  · exact trodAll_cons_mk (shut_bool Tryz.underlying4 _) trodAll_mk0
  · have := all_mem firstFlows_params ht
    simp only [Bool.and_eq_true, decide_eq_true_eq] at this
    exact this.1

set_option maxRecDepth 100000 in
theorem firstFlows_lifted (os : Os) (started : os.Started) (H : Type) (enc : TypeId × Value → H) (F : Stop.Interp) :
    ReturnsInHanded {} Tryz.checked os 7 .any ((OpenSpec.ofChange Rows.firstFlowsSpec).preRow enc Tryz.prog Tryz.f7 Rows.firstFlowsRow.domain false Rows.firstFlowsRow.laid) (((OpenSpec.ofChange Rows.firstFlowsSpec).at F).post enc Tryz.prog Tryz.f7 false true false false) := by
  obtain ⟨places, hx⟩ := firstFlows_reads os enc
  refine returnsInHanded_of_row (C := Tryz.checked) (s := OpenSpec.ofChange Rows.firstFlowsSpec) own started (by kernel_rfl) Tryz.func7
    (witness_row_at (enc := enc) (C := Tryz.checked) false (laidWorld os) #[.agg #[.slice none 0 0], .agg #[.slice none 0 0, .int .i64 0]] rfl (by kernel_rfl) (by kernel_rfl) (by kernel_rfl)
      (OpenSpec.preRow_of_cond 8 hx (by kernel_rfl) (fun k hk => by cases hk) (by kernel_rfl) (firstFlows_laid os))) ?_
  intro W base args ds gs before hval hW _ _ _ hL _ _
  exact firstFlows_contract H enc W base args ds gs before hval hW hL

theorem firstFlows_k10 : (Rows.firstFlowsRow.inPlace == Tryz.prog.inPlace 7) = true := by kernel_rfl
theorem firstFlows_k11 : (Rows.firstFlowsRow.unfollowed == Tryz.prog.unfollowed 7) = true := by kernel_rfl
theorem firstFlows_k12 : (Rows.firstFlowsRow.recurses == Tryz.prog.recurses 7) = true := by kernel_rfl
theorem firstFlows_k13 : (Rows.firstFlowsRow.named == Tryz.prog.varsNamed 7) = true := by kernel_rfl
theorem firstFlows_k14 : (Rows.firstFlowsRow.lifted == Tryz.prog.liftsFinal) = true := by kernel_rfl
theorem firstFlows_facts : joinedFacts Tryz.prog 7 Tryz.f7 (OpenSpec.ofChange Rows.firstFlowsSpec).bare Rows.firstFlowsRow = true := by
  unfold joinedFacts
  rw [laidOut, mapsRowed_ok, stopsHeard_ok, mayEnter_ok, firstFlows_k10, firstFlows_k11, firstFlows_k12, firstFlows_k13, firstFlows_k14]
  kernel_rfl
theorem firstFlows_said : Rows.FirstFlowsSaid :=
  OpenClaim.holds_of_cond 7 Tryz.f7 rfl rfl rfl rfl rfl rfl rfl ⟨rfl, rfl, rfl, rfl, rfl⟩ rfl rfl rfl rfl rfl (by kernel_rfl) Tryz.func7 firstFlows_facts
    (of_decide_eq_true (by kernel_rfl)) (by unfold Func.isWrapper; first | (rw [if_pos (by decide +kernel)]; kernel_rfl) | (rw [if_neg (by decide +kernel)]; exact ⟨rfl, rfl⟩))
    (fun os started H enc _ F => by rw [OpenClaim.pre_eq_preRow]; exact firstFlows_lifted os started H enc F)

theorem firstFlows_plain (f : FuncId) (fn : Func) (hf : Tryz.pinned.checked.prog.funcNamed "bonsai/bonsailaw11.FirstFlows" = some f) (hfn : Tryz.pinned.checked.prog.funcs[f]? = some fn) :
    false = Tryz.pinned.checked.prog.looks [] ∧ ∀ (j : Nat) t, fn.params[j]? = some t → Tryz.pinned.checked.prog.wantsStandIn t = false := by
  obtain rfl : f = 7 := Option.some.inj ((show Tryz.prog.funcNamed "bonsai/bonsailaw11.FirstFlows" = some 7 by kernel_rfl).symm.trans hf) |>.symm
  obtain rfl : fn = Tryz.f7 := (Option.some.inj (Tryz.func7.symm.trans hfn)).symm
  refine ⟨by kernel_rfl, fun j t ht => ?_⟩
  have := all_mem firstFlows_params (x := t) (by simpa using Array.mem_of_getElem? ht)
  simp only [Bool.and_eq_true, Bool.not_eq_true', decide_eq_true_eq] at this
  exact this.2

/-- The card. -/
theorem firstFlows_card : Rows.FirstFlowsCardSaid :=
  Claim7.holds_tied_plain_at .later [] _ _ _ _ firstFlows_said (fun _ h => by cases h) (by kernel_rfl) (fun _ h => by cases h) firstFlows_row_tie rfl ⟨rfl, rfl⟩ (by kernel_rfl) rfl firstFlows_plain (by kernel_rfl)
end Go.Proofs.YtmijfbjkkllhlaaGreatDoor
