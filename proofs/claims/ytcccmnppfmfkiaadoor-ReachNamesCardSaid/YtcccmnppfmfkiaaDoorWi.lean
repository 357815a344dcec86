/-
  Walks: reach.from.
-/
import Derived.Test.YtcccmnppfmfkiaaDoorWh
import Derived.Test.YtcccmnppfmfkiaaDoorP3
set_option linter.unusedVariables false
set_option linter.unusedSimpArgs false
namespace Go.V
open Go Go.Proofs

/-! ### from -/
theorem V_frameN {X : Ctx} {c : Code} {F : Fr} {C : Bx} {I : GH} {M : List Blk} {K : KX} {t1 t2 t3 : Nat} {a b d : SV} (h : ∀ G GC, V X c (upd (upd (upd G t3 d) t2 b) t1 a) GC I M K)
    (h1 : F t1 = a) (h2 : F t2 = b) (h3 : F t3 = d) : V X c F C I M K := by
  have := h F C
  rwa [upd_self h3, upd_self h2, upd_self h1] at this

abbrev FromI := Nat × List Bool × OS × List Int × Nat
def fromLP (I : GH) (x : Ls) (y : FromI) : LP := { fl := [(0, .val x.val), (5, .val (.slice (some ⟨y.1, 0, none⟩) x.n x.n)), (6, .val y.2.2.1.val)], gi := I, mi := y.2.2.1.blk 3 ++ [boolRow y.1 y.2.1] }
structure FromLInv (I : GH) (L : List (List Int)) (i : Nat) (y : FromI) : Prop where
  blk : I y.1 = none
  os : y.2.2.1.ok 1 (y.2.2.2.1.map (.int .i64 ·))
  inv : FromInv L i y.2.1 y.2.2.2.1
  ne : y.2.2.2.1 ≠ []
  mu : 2 * openN y.2.1 + y.2.2.2.1.length ≤ y.2.2.2.2
  top : y.2.2.2.2 ≤ 2 * L.length + 2
  eq : fromL L i = fromGo L y.2.2.2.2 y.2.1 y.2.2.2.1

theorem fromGo_succ (L : List (List Int)) (f : Nat) (m : List Bool) (o : List Int) (w : Int) : fromGo L (f + 1) m (o ++ [w]) =
    bif decide (0 < (visitL m o (L.getD w.toNat [])).2.length) then fromGo L f (visitL m o (L.getD w.toNat [])).1 (visitL m o (L.getD w.toNat [])).2 else (visitL m o (L.getD w.toNat [])).1 := by
  rw [fromGo]
  simp only [List.getLast?_concat, List.dropLast_concat]

set_option maxHeartbeats 4000000 in
theorem from_pass {I : GH} {x : Ls} (hx : x.ok I) (hn : x.n ≤ 1099511627776) (hL : ∀ l ∈ x.ll, valid x.ll.length l) {i : Nat} (y : FromI) (hy : FromLInv I x.ll i y) {p : Nat → FromI → Prop}
    (hp : ∀ z, FromLInv I x.ll i z → z.2.2.2.2 < y.2.2.2.2 → p 0 z) (B : Nat) (h0 : World) (G : Fr) (GC : Bx) :
    V ⟨Tryd.prog, TrydE, [], Tryd.f41.ntmps, B, h0, I, [], none⟩ (labelIn (scopeIn (Tryd.f41.body.getD .skip)) 0)
      (upd (upd (upd G 6 (.val y.2.2.1.val)) 5 (.val (.slice (some ⟨y.1, 0, none⟩) x.n x.n))) 0 (.val x.val)) GC I (y.2.2.1.blk 3 ++ [boolRow y.1 y.2.1])
      (scK (fun l => InvAt [] (fromLP I x) (p l)) (retK ⟨Tryd.prog, TrydE, [], Tryd.f41.ntmps, B, h0, I, [], none⟩ Tryd.f41.results.toList
        (fun v I' M' => (∀ b o, I b = some o → I' b = some o) ∧ ∃ r : Rb, v = r.val ∧ r.ok I' ∧ r.l = fromL x.ll i ∧ M' = []))) := by
  obtain ⟨b, m, ⟨oa, n, cp, cur⟩, o, f⟩ := y
  obtain ⟨hb, hos, hinv, hne, hmu, htop, heq⟩ := hy
  simp only at hb hos hinv hne hmu htop heq hp ⊢
  have hxn := hx.n
  have hll : x.ll.length = x.n := by simp [Ls.ll, hxn]
  have hml : m.length = x.n := hinv.len.trans hll
  obtain ⟨o', w, rfl⟩ : ∃ o' w, o = o' ++ [w] := by
    rcases List.eq_nil_or_concat o with h1 | ⟨r, p, h1⟩
    · exact (hne h1).elim
    · exact ⟨r, p, by simpa using h1⟩
  have hol : n = o'.length + 1 := by
    have := hos.len1
    simpa using this
  cases oa with
  | none => have := (hos.nil rfl).1; simp only at this; omega
  | some gb =>
  obtain ⟨hcl, hnc, hcm, hct⟩ := hos.cap gb rfl
  simp only at hcl hnc hcm hct
  have hw := hinv.val w (by simp)
  have hwl : w.toNat < x.ll.length := by omega
  have hwr : w.toNat < x.rows.length := by omega
  have hwn : w.toNat < x.n := by omega
  obtain ⟨hst, hlt⟩ := hinv.step hL
  have hLw : x.ll.getD w.toNat [] = x.rows[w.toNat].l := by simp [Ls.ll, List.getD_eq_getElem?_getD, hwr]
  rw [hLw] at hst hlt
  obtain ⟨f, rfl⟩ : ∃ f', f = f' + 1 := ⟨f - 1, by simp at hmu; omega⟩
  have hgo : fromL x.ll i = bif decide (0 < (visitL m o' x.rows[w.toNat].l).2.length) then fromGo x.ll f (visitL m o' x.rows[w.toNat].l).1 (visitL m o' x.rows[w.toNat].l).2 else (visitL m o' x.rows[w.toNat].l).1 := by
    rw [heq, fromGo_succ, hLw]
  have hval : valid x.ll.length x.rows[w.toNat].l := hL _ (by simp only [Ls.ll]; exact List.mem_map.2 ⟨_, List.getElem_mem hwr, rfl⟩)
  have hrow := hx.rows _ (List.getElem_mem hwr)
  have hrn := hrow.n
  have hrc := hrow.rs.cap
  obtain ⟨ar, har, hrr⟩ := hx.rs.one hwn hwr
  have hn1 : IntKind.i64.wrap ((n : Int) - 1) = ((n - 1 : Nat) : Int) := by
    simp only [List.length_append, List.length_cons, List.length_nil] at hmu
    rw [wrap_i64 ⟨by omega, by omega⟩]
    omega
  obtain ⟨rest, hcur⟩ : ∃ rest, cur = o'.map (Value.int .i64) ++ (.int .i64 w :: rest) := by
    refine ⟨cur.drop n, ?_⟩
    have h2 := List.take_append_drop (n * 1) cur
    rw [hct, Nat.mul_one] at h2
    rw [List.map_append, List.append_assoc] at h2
    exact h2.symm
  have hcw : cur.drop (n - 1) = .int .i64 w :: rest := by
    rw [hcur]
    exact List.drop_left' (by simp; omega)
  refine ArithOb.mk _ hn1 ?_
  refine IdxOb.mk ⟨gb, 0, none⟩ (n - 1) rfl rfl (by show n - 1 < n; omega) ?_
  refine LoadOb.mk [.int .i64 w] ?_ ?_
  · have := blk_rd (I := I) (M := [⟨gb, .cells cur.toArray 3 (0, 0)⟩] ++ [boolRow b m]) (b := gb) (cs := cur) (T := 3) (.head _) (k := (n - 1) * 1) (n := 1) (by omega)
    rw [Nat.mul_one, hcw] at this
    rw [Nat.mul_one]
    exact this
  refine ArithOb.mk _ hn1 ?_
  refine SliceOb.mk 0 (n - 1) rfl rfl (Nat.zero_le _) (by show n - 1 ≤ cp; omega) ?_
  refine IdxOb.mk ar w.toNat har (by omega) hwn ?_
  refine LoadOb.mk _ (hrr _) ?_
  generalize hks : x.rows[w.toNat] = row at *
  have hos0 : OS.ok ⟨some gb, n - 1, cp, cur⟩ 1 (o'.map (.int .i64 ·)) := by
    refine ⟨by simp; omega, (fun h => by cases h), fun g3 h3 => ⟨hcl, by show n - 1 ≤ cp; omega, hcm, ?_⟩⟩
    show cur.take ((n - 1) * 1) = _
    have h2 := List.take_append_drop (n * 1) cur
    rw [hct, Nat.mul_one] at h2
    rw [← h2, List.map_append, List.append_assoc, Nat.mul_one]
    exact List.take_left' (by simp; omega)
  simp only [List.length_append, List.length_cons, List.length_nil] at hlt hmu
  refine LoopOb.inv (ι := Nat × List Bool × OS × List Int) (fun z => { fl := [(0, .val x.val), (5, .val (.slice (some ⟨b, 0, none⟩) x.n x.n)), (6, .val z.2.2.1.val), (32, .val row.val), (33, .val (.int .i64 row.n)), (34, .val (.int .i64 z.1))], gi := I, mi := z.2.2.1.blk 3 ++ [boolRow b z.2.1] })
    (fun z => z.1 ≤ row.n ∧ z.2.1.length = x.n ∧ z.2.2.1.ok 1 (z.2.2.2.map (.int .i64 ·)) ∧ 2 * openN z.2.1 + z.2.2.2.length ≤ 2 * x.n + 2 ∧ visitL m o' row.l = visitL z.2.1 z.2.2.2 (row.l.drop z.1)) (fun z => row.n - z.1) ?_ ?_
  · exact ⟨(0, m, ⟨some gb, n - 1, cp, cur⟩, o'), ⟨by simp, hml, hos0, by simp only; omega, rfl⟩, .refl, .cons .refl (.cons .refl (.cons .refl (.cons .refl (.cons .refl (.cons .refl .nil))))), .nil⟩
  · rintro ⟨j, s, os, q⟩ ⟨hj, hsl, hoq, hmq, hvq⟩
    simp only at hj hsl hoq hmq hvq
    refine CondOb.mk (fun h => ?_) (fun h => ?_)
    · have hjl : j < row.n := by simpa using h
      have hjl' : j < row.l.length := by omega
      obtain ⟨ak, hak, hrk⟩ := hrow.rs.one hjl hjl'
      have hkd : row.l.drop j = row.l[j] :: row.l.drop (j + 1) := List.drop_eq_getElem_cons hjl'
      have hkv := hval _ (List.getElem_mem hjl')
      generalize hk : row.l[j] = k at *
      have hkl : k.toNat < s.length := by omega
      have hoql := hoq.len1
      refine IdxOb.mk ak j hak rfl hjl ?_
      refine LoadOb.mk _ (hrk _) ?_
      refine IdxOb.mk ⟨b, 0, none⟩ k.toNat rfl (by omega) (by omega) ?_
      refine LoadOb.mk _ (boolRow_rd (by simp) hkl) ?_
      have hgd : s.getD k.toNat false = s[k.toNat] := by simp [List.getD_eq_getElem?_getD, hkl]
      refine CondOb.mk (fun h2 => ?_) (fun h2 => ?_)
      · have hf : s.getD k.toNat false = false := by rw [hgd]; simpa using h2
        have hop := openN_set s k.toNat hkl hf
        refine IdxOb.mk ⟨b, 0, none⟩ k.toNat rfl (by omega) (by omega) ?_
        refine StoreOb.add (os.blk 3) [] _ _ rfl ?_ rfl ?_
        · simp only [List.size_toArray, List.length_map]
          show 0 + k.toNat * 1 + 1 ≤ _
          omega
        have e := boolRow_set s k.toNat hkl true
        refine AllocOb.mk fun b9 hb9 hbM9 => ?_
        refine OtherOb.append TrydEOK rfl (by simp) (e := 3) rfl rfl rfl os hoq rfl (m := 1) rfl (news := [.int .i64 k]) (by decide) (blk_rd (b := b9) (cs := [.int .i64 k]) (k := 0) (n := 1) (T := 3) (.head _) (by simp)) rfl (Mr := [⟨b, .cells (splice (s.map Value.bool) (0 + k.toNat * 1) [.bool true]).toArray 4 (0, 0)⟩, ⟨b9, .cells #[.int .i64 k] 3 (0, 0)⟩]) (perm4 _ _ _) (by simp only [maxLen]; omega) (by show (os.n + 1) * 8 ≤ _; omega) ?_
        intro g' c' cur' q1 q2 q3 q4
        refine ArithOb.mk _ (next_wr (i := j) (by omega)) ?_
        refine ⟨(j + 1, s.set k.toNat true, ⟨some g', os.n + 1, c', cur'⟩, q ++ [k]), ⟨⟨by simp only; omega, by simpa using hsl, ?_, ?_, ?_⟩, by simp only; omega⟩, ?_, .cons .refl (.cons .refl (.cons .refl (.cons .refl (.cons .refl (.cons .refl .nil))))), .nil⟩
        · simp only
          rw [List.map_append]
          exact app1_ok hoq q1 q2 q3 q4
        · simp only [List.length_append, List.length_cons, List.length_nil]
          omega
        · simp only
          rw [hvq, hkd, visitL, hf]
          rfl
        · simp only [boolRow]
          rw [← e]
          simp only [Nat.zero_add, Nat.mul_one]
          exact .sub (.cons_cons _ (.cons_cons _ (List.nil_sublist _))) .refl
      · have hf : s.getD k.toNat false = true := by rw [hgd]; simpa using h2
        refine ArithOb.mk _ (next_wr (i := j) (by omega)) ?_
        refine ⟨(j + 1, s, os, q), ⟨⟨by simp only; omega, hsl, hoq, hmq, ?_⟩, by simp only; omega⟩, .refl, .cons .refl (.cons .refl (.cons .refl (.cons .refl (.cons .refl (.cons .refl .nil))))), .nil⟩
        simp only
        rw [hvq, hkd, visitL, hf]
        rfl
    · have hge : row.n ≤ j := by simpa using h
      have hv : visitL m o' row.l = (s, q) := by
        rw [hvq, List.drop_eq_nil_of_le (by omega)]
        rfl
      rw [hv] at hgo hst hlt
      simp only at hgo hst hlt
      have hoql := hoq.len1
      refine CondOb.mk (fun h2 => ?_) (fun h2 => ?_)
      · have hql : 0 < q.length := by simp at h2; omega
        refine ⟨(b, s, os, q, f), hp _ ⟨hb, hoq, hst, fun e => by simp only at e; rw [e] at hql; simp at hql, by simp only; omega, by simp only; omega, ?_⟩ (by simp only; omega), .refl, .cons .refl (.cons .refl (.cons .refl .nil)), .nil⟩
        simp only
        rw [hgo, show decide (0 < q.length) = true from decide_eq_true hql]
        rfl
      · have hql : ¬ 0 < q.length := by simp at h2; omega
        have hfl : fromL x.ll i = s := by
          rw [hgo, show decide (0 < q.length) = false from decide_eq_false hql]
          rfl
        refine ⟨_, _, .sub (List.sublist_append_right _ _) (.prom rfl (by simp) .refl), ins_le hb, ⟨some ⟨b, 0, none⟩, x.n, x.n, s⟩, rfl, ⟨⟨by simp [hsl], ⟨Nat.le_refl _, by simp only; omega⟩, .inr ⟨_, rfl, rfl, _, _, _, ins_self .., ?_⟩⟩⟩, hfl.symm, rfl⟩
        simp [hsl]
        exact List.take_of_length_le (by simp [hsl])

theorem from_spec {I : GH} {x : Ls} (hx : x.ok I) (hn : x.n ≤ 1099511627776) (hL : ∀ l ∈ x.ll, valid x.ll.length l) {i : Nat} (hi : i < x.n) : Spec Tryd.prog 41 [x.val, .int .i64 i] I [] fun v I' M' => (∀ b o, I b = some o → I' b = some o) ∧ ∃ r : Rb, v = r.val ∧ r.ok I' ∧ r.l = fromL x.ll i ∧ M' = [] := by
  refine spec_of_V [] TrydEOK Tryd.func41 rfl rfl rfl ?_
  intro B h0
  have hxn := hx.n
  have hll : x.ll.length = x.n := by simp [Ls.ll, hxn]
  refine CodeOb.scope TrydEOK rfl (fromLP I x) (fun _ => 0) (FromLInv I x.ll i) (fun y => y.2.2.2.2) (fun _ => labelIn (scopeIn (Tryd.f41.body.getD .skip)) 0) (fun _ _ => ⟨by kernel_rfl, by kernel_rfl⟩) ?_ ?_
  · refine MakeOb.mk x.n x.n rfl rfl (Nat.le_refl _) (by show 1 * x.n ≤ _; omega) (by omega) ?_
    refine AllocOb.mk fun b hb hbM => ?_
    refine IdxOb.mk ⟨b, 0, none⟩ i rfl rfl hi ?_
    have hr : rowOf [.bool false] (x.n * 1) = (List.replicate x.n false).map Value.bool := by
      rw [rowOf_one, Nat.mul_one, List.map_replicate]
    refine StoreOb.add [] [] (((List.replicate x.n false).map Value.bool).toArray) 4 (by rw [← hr]; rfl) ?_ rfl ?_
    · simp only [List.size_toArray, List.length_map, List.length_replicate]
      show 0 + i * 1 + 1 ≤ _
      omega
    refine AllocOb.mk fun b6 hb6 hbM6 => ?_
    have e := boolRow_set (List.replicate x.n false) i (by simpa using hi) true
    have hst := FromInv.start (L := x.ll) (i := i) (by omega)
    rw [hll] at hst
    have key := fun G GC => from_pass hx hn hL (i := i) (b, (List.replicate x.n false).set i true, ⟨some b6, 1, 1, [.int .i64 i]⟩, [(i : Int)], 2 * x.n + 2) ⟨hb, ⟨rfl, (fun h => by cases h), fun g3 _ => ⟨rfl, Nat.le_refl _, by simp only [maxLen]; omega, rfl⟩⟩, hst, by simp, ?_, by simp only; omega, by simp only [fromL]; rw [hll]⟩ (p := fun l y => FromLInv I x.ll i y ∧ 0 = l) (fun z hz _ => ⟨hz, rfl⟩) B h0 G GC
    · refine V_frameN (t1 := 0) (t2 := 5) (t3 := 6) (fun G GC => ?_) rfl rfl rfl
      have k2 := key G GC
      simp only [boolRow] at k2
      rw [← e] at k2
      simp only [Nat.zero_add, Nat.mul_one]
      exact k2
    · simp only
      have := openN_le ((List.replicate x.n false).set i true)
      simp only [List.length_set, List.length_replicate, List.length_cons, List.length_nil] at this ⊢
      omega
  · intro y hy
    exact V_frameN (t1 := 0) (t2 := 5) (t3 := 6) (fun G GC => from_pass hx hn hL y hy (fun z hz hlt => ⟨⟨hz, rfl⟩, hlt⟩) B h0 G GC) rfl rfl rfl
end Go.V
