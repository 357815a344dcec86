/-
  Part 7 of what the proofs of this seat share: the executor, data in memory, walks.
-/
import Derived.Test.YtcccmnppfmfkiaaDoorK6
import Derived.Test.YtcccmnppfmfkiaaDoorK4
import Derived.Test.YtcccmnppfmfkiaaDoorK5

/-
  Walks: flow.comes, nodes.
-/
set_option linter.unusedVariables false
set_option linter.unusedSimpArgs false
namespace Go.V
open Go Go.Proofs

def comeFs : List Nat := [73, 74, 75, 76, 77, 78, 79, 80, 81, 76]
def comeVs : List Value := [.func (.func 73) #[] #[], .func (.func 74) #[] #[], .func (.func 75) #[] #[], .func (.func 76) #[] #[], .func (.func 77) #[] #[], .func (.func 78) #[] #[], .func (.func 79) #[] #[], .func (.func 80) #[] #[], .func (.func 81) #[] #[], .func (.func 76) #[] #[]]
theorem comes_spec {I : GH} : Spec Tryd.prog 63 [] I [] fun v I' M' => v = .agg comeVs.toArray ∧ I' = I ∧ M' = [] := by
  refine spec_of_V [] TrydEOK Tryd.func63 rfl rfl rfl ?_
  intro B h0
  exact ⟨_, _, .refl, rfl, rfl, rfl⟩
theorem come_at {I : GH} {M : List Blk} {d : Nd} {a : Option Addr} {n c : Nat} {ks : List Fl} (hk : FsAt I M a n ks) (hn : n ≤ 140737488355328) (j : Nat) (hj : j < 10) (hd : d.k = j) (h0 : (j = 3 ∨ 6 ≤ j) → 0 < n) :
    Spec Tryd.prog (comeFs.getD j 0) [d.val, .slice a n c] I M fun v I' M' => v = (comeFl d ks).val ∧ I' = I ∧ M' = M := by
  match j, hj, hd, h0 with
  | 0, _, hd, _ => rw [show comeFl d ks = ⟨true, false, false⟩ by simp [comeFl, hd]]; exact fEmpty_spec (I := I) (M := M) (d := d) (a := a) (n := n) (c := c)
  | 1, _, hd, _ => rw [show comeFl d ks = ⟨false, !d.setZ, true⟩ by simp [comeFl, hd]]; exact fSet_spec (I := I) (M := M) (d := d) (a := a) (n := n) (c := c)
  | 2, _, hd, _ => rw [show comeFl d ks = ⟨false, true, true⟩ by simp [comeFl, hd]]; exact fText_spec (I := I) (M := M) (d := d) (a := a) (n := n) (c := c)
  | 3, _, hd, h0 => rw [show comeFl d ks = ks.headD fl0 by simp [comeFl, hd]]; exact fItself_spec (d := d) (c := c) hk (h0 (by omega))
  | 4, _, hd, _ => rw [show comeFl d ks = seqFl ks by simp [comeFl, hd]]; exact fSeq_spec (d := d) (c := c) hk hn
  | 5, _, hd, _ => rw [show comeFl d ks = chFl ks by simp [comeFl, hd]]; exact fChoice_spec (d := d) (c := c) hk hn
  | 6, _, hd, h0 => rw [show comeFl d ks = repFl d (ks.headD fl0) by simp [comeFl, hd]]; exact fRep_spec (d := d) (c := c) hk (h0 (by omega))
  | 7, _, hd, h0 => rw [show comeFl d ks = ⟨(ks.headD fl0).suc, false, (ks.headD fl0).f⟩ by simp [comeFl, hd]]; exact fAnd_spec (d := d) (c := c) hk (h0 (by omega))
  | 8, _, hd, h0 => rw [show comeFl d ks = ⟨(ks.headD fl0).f, false, (ks.headD fl0).suc⟩ by simp [comeFl, hd]]; exact fNot_spec (d := d) (c := c) hk (h0 (by omega))
  | 9, _, hd, h0 => rw [show comeFl d ks = ks.headD fl0 by simp [comeFl, hd]]; exact fItself_spec (d := d) (c := c) hk (h0 (by omega))

/-! ### Rows of flows -/
def flRow (b : Nat) (l : List Fl) : Blk := ⟨b, .cells (l.flatMap Fl.cells).toArray 55 (0, 0)⟩
theorem fl_len (l : List Fl) : (l.flatMap Fl.cells).length = l.length * 3 := flat_len _ 3 Fl.cells_len l
theorem flRow_rd {I : GH} {M : List Blk} {b : Nat} {l : List Fl} (hM : flRow b l ∈ M) {j : Nat} (hj : j < l.length) : Rd I M ((⟨b, 0, none⟩ : Addr).add (j * 3)) 3 l[j].cells := by
  have h := blk_rd (I := I) (cs := l.flatMap Fl.cells) (k := j * 3) (n := 3) hM (by rw [fl_len]; omega)
  rwa [flat_at Fl.cells 3 Fl.cells_len l j hj] at h
theorem flRow_set (l : List Fl) (j : Nat) (hj : j < l.length) (x : Fl) : splice (l.flatMap Fl.cells) (j * 3) x.cells = (l.set j x).flatMap Fl.cells := by
  have e : l.flatMap Fl.cells = (l.take j).flatMap Fl.cells ++ (l[j].cells ++ (l.drop (j + 1)).flatMap Fl.cells) := by
    have h1 : l = l.take j ++ (l[j] :: l.drop (j + 1)) := by rw [← List.drop_eq_getElem_cons hj, List.take_append_drop]
    have h2 := congrArg (fun q : List Fl => q.flatMap Fl.cells) h1
    simp only [List.flatMap_append, List.flatMap_cons] at h2
    exact h2
  have hl : ((l.take j).flatMap Fl.cells).length = j * 3 := by rw [fl_len, List.length_take]; congr 1; omega
  unfold splice
  rw [List.set_eq_take_append_cons_drop, if_pos hj, List.flatMap_append, List.flatMap_cons, e, List.append_assoc]
  congr 1
  · rw [← hl, List.take_left]
  · congr 1
    rw [Fl.cells_len, ← hl, ← List.append_assoc, List.drop_left' (by rw [List.length_append, Fl.cells_len])]
theorem flat_snoc (l : List Fl) (x : Fl) : (l ++ [x]).flatMap Fl.cells = l.flatMap Fl.cells ++ x.cells := by simp
theorem OS.zero {os : OS} {size : Nat} {xs : List Value} (h : os.ok size xs) : OS.ok ⟨os.a, 0, os.c, os.cur⟩ size [] := by
  refine ⟨by simp, fun ha => ⟨rfl, (h.nil ha).2⟩, fun g hg => ?_⟩
  obtain ⟨h1, h2, h3, h4⟩ := h.cap g hg
  exact ⟨h1, Nat.zero_le _, h3, by simp⟩
/-- A slice of the function's own, read. -/
theorem OS.fsAt {I : GH} {M : List Blk} {os : OS} {l : List Fl} {e : Nat} (h : os.ok 3 (l.flatMap Fl.cells)) (hM : ∀ x ∈ os.blk e, x ∈ M) : FsAt I M (os.a.map fun g => ⟨g, 0, none⟩) os.n l := by
  have hl := h.len
  rw [fl_len] at hl
  refine ⟨by omega, fun j hj => ?_⟩
  obtain ⟨a, n, c, cur⟩ := os
  simp only at hl
  cases a with
  | none => have := (h.nil rfl).1; simp only at this; omega
  | some g =>
    obtain ⟨h1, h2, h3, h4⟩ := h.cap g rfl
    simp only at h1 h2 h4
    refine ⟨⟨g, 0, none⟩, rfl, ?_⟩
    have hm : (⟨g, .cells cur.toArray e (0, 0)⟩ : Blk) ∈ M := hM _ (by simp [OS.blk])
    have hr := blk_rd (I := I) (cs := cur) (k := j * 3) (n := 3) hm (by omega)
    have e1 : (cur.drop (j * 3)).take 3 = ((cur.take (n * 3)).drop (j * 3)).take 3 := by
      rw [List.drop_take, List.take_take]
      congr 1
      omega
    rw [e1, h4, flat_at Fl.cells 3 Fl.cells_len l j hj] at hr
    exact hr

/-! ### nodes -/
def kidsF (pl : List (ByteArray × Int)) (fl acc : List Fl) (d : Nd) : List Fl :=
  d.kids.map (fun k => acc.getD k.toNat fl0) ++ bif decide (d.k = 3) then [fl.getD ((lookM d.t pl).getD 0).toNat fl0] else []
def nodesF (pl : List (ByteArray × Int)) (fl : List Fl) : List Nd → List Fl → List Fl
  | [], acc => acc
  | d :: ds, acc => nodesF pl fl ds (acc ++ [comeFl d (kidsF pl fl acc d)])
theorem nodesF_len (pl : List (ByteArray × Int)) (fl : List Fl) : ∀ (ds : List Nd) (acc : List Fl), (nodesF pl fl ds acc).length = acc.length + ds.length
  | [], acc => rfl
  | d :: ds, acc => by
    rw [nodesF, nodesF_len]
    simp
    omega
/-- Each rule that is called has a flow. -/
def Called (pl : List (ByteArray × Int)) (n : Nat) (ns : List Nd) : Prop := ∀ d ∈ ns, d.k = 3 → ∃ i : Nat, lookM d.t pl = some (i : Int) ∧ i < n
theorem fits_k {d : Nd} {n : Int} (h : fits d n = true) : d.k < 10 := by
  apply Int.lt_of_not_ge
  intro hge
  have : (10 : Int) ≤ d.k := hge
  simp [fits, this] at h
theorem fits_kid {d : Nd} {n : Int} (h0 : 0 ≤ d.k) (h : fits d n = true) (hk : 6 ≤ d.k) : 0 < n := by
  have h10 := fits_k h
  have hcases : d.k = 6 ∨ d.k = 7 ∨ d.k = 8 ∨ d.k = 9 := by omega
  rcases hcases with e | e | e | e <;> (simp [fits, e, cntLo, cntHi, countsL] at h; omega)

theorem rep_at (acc : List Fl) (n i : Nat) (hl : acc.length = i) (hi : i < n) (x : Fl) : (acc ++ List.replicate (n - i) fl0).set i x = (acc ++ [x]) ++ List.replicate (n - (i + 1)) fl0 := by
  subst hl
  rw [List.set_append_right _ _ (Nat.le_refl _), Nat.sub_self, show n - acc.length = (n - (acc.length + 1)) + 1 by omega, List.replicate_succ, List.set_cons_zero]
  simp

theorem rowOf_fl : ∀ n : Nat, rowOf fl0.cells (n * 3) = (List.replicate n fl0).flatMap Fl.cells := fun n => by
  apply List.ext_getElem
  · rw [fl_len, List.length_replicate]
    simp [rowOf_eq, madeCells]
  intro i h1 h2
  have h3 : ∀ x ∈ (List.replicate n fl0).flatMap Fl.cells, x = Value.bool false := fun x hx => by
    obtain ⟨y, hy, hx⟩ := List.mem_flatMap.1 hx
    have := List.eq_of_mem_replicate hy
    subst this
    simpa [Fl.cells, fl0] using hx
  rw [h3 _ (List.getElem_mem h2)]
  have hz : ∀ j, j < 3 → fl0.cells[j]! = Value.bool false := fun j hj => by
    match j, hj with
    | 0, _ => rfl
    | 1, _ => rfl
    | 2, _ => rfl
  simp only [rowOf, List.getElem_map, List.getElem_range]
  exact hz _ (Nat.mod_lt _ (by decide))
theorem ble_fl {acc : List Fl} {n i : Nat} (hacc : acc.length = i) (hlt : i < n) (x : Fl) : Nat.ble (0 + i * 3 + x.cells.length) ((acc ++ List.replicate (n - i) fl0).flatMap Fl.cells).length = true := by
  rw [Nat.ble_eq, fl_len, Fl.cells_len, List.length_append, List.length_replicate]
  omega
set_option maxRecDepth 100000 in
set_option maxHeartbeats 16000000 in
theorem fnodes_spec {I : GH} {M0 : List Blk} {t : Tr} (ht : t.ok I) (hr : right t = true) {gm : Nat} {pl : List (ByteArray × Int)} (hm : I gm = some (mapO pl)) {la : Option Addr} {ln lc : Nat} {fl : List Fl} (hfl : FsAt I M0 la ln fl) (hc : Called pl ln t.ns) :
    Spec Tryd.prog 49 [.map (some gm), .slice la ln lc, t.val] I M0 fun v I' M' => I' = I ∧ ∃ b, v = .slice (some ⟨b, 0, none⟩) t.n t.n ∧ M' = flRow b (nodesF pl fl t.ns []) :: M0 := by
  refine spec_of_V [] TrydEOK Tryd.func49 rfl rfl rfl ?_
  intro B h0
  have htn := ht.n
  have hcap := ht.rs.cap
  refine CallOb.mk [] M0 _ (.refl _) comes_spec ?_
  rintro v I1 M1 - ⟨rfl, rfl, rfl⟩
  refine MakeOb.mk t.n t.n rfl rfl (Nat.le_refl _) (by show 3 * t.n ≤ _; omega) (by omega) ?_
  refine AllocOb.mk fun b8 hb8 hbM8 => ?_
  refine LoopOb.inv (ι := Nat × List Fl × OS) (fun x => { fl := [(0, .val (.map (some gm))), (1, .val (.slice la ln lc)), (5, .ref 5 0), (7, .ref 7 0), (8, .val (.slice (some ⟨b8, 0, none⟩) t.n t.n)), (9, .val x.2.2.val), (20, .val (.slice t.a t.n t.c)), (21, .val (.int .i64 t.n)), (22, .val (.int .i64 x.1))], cl := [(5, t.cells), (7, comeVs)], gi := I1, mi := flRow b8 (x.2.1 ++ List.replicate (t.n - x.1) fl0) :: (x.2.2.blk 55 ++ M0) })
    (fun x => x.1 ≤ t.n ∧ x.2.1.length = x.1 ∧ nodesF pl fl t.ns [] = nodesF pl fl (t.ns.drop x.1) x.2.1 ∧ ∃ ks, x.2.2.ok 3 ks) (fun x => t.n - x.1) ?_ ?_
  · refine ⟨(0, [], OS0), ⟨Nat.zero_le _, rfl, rfl, [], OS0_ok 3⟩, ?_, .cons .refl (.cons .refl (.cons .refl (.cons .refl (.cons .refl (.cons .refl (.cons .refl (.cons .refl (.cons .refl .nil)))))))), .cons rfl (.cons rfl .nil)⟩
    have e : rowOf fl0.cells (t.n * 3) = (List.replicate t.n fl0).flatMap Fl.cells := rowOf_fl t.n
    simp only [flRow, List.nil_append, Nat.sub_zero]
    rw [← e]
    exact .refl
  rintro ⟨i, acc, ko⟩ ⟨hi, hacc, hnf, kx, hko⟩
  simp only at hi hacc hnf hko
  refine CondOb.mk (fun h => ?_) (fun h => ?_)
  rotate_left
  · have hge : i = t.n := by have : ¬ (i : Int) < (t.n : Int) := of_decide_eq_false h; omega
    subst hge
    rw [List.drop_eq_nil_of_le (by omega), nodesF] at hnf
    refine ⟨I1, flRow b8 (acc ++ List.replicate (t.n - t.n) fl0) :: M0, .sub (.cons_cons _ (List.sublist_append_right _ _)) .refl, rfl, b8, rfl, ?_⟩
    rw [hnf, Nat.sub_self, List.replicate_zero, List.append_nil]
  have hlt : i < t.n := by have : (i : Int) < (t.n : Int) := of_decide_eq_true h; omega
  have hlt' : i < t.ns.length := by omega
  obtain ⟨ad, had, hrd⟩ := ht.rs.row Nd.cells_len hlt hlt'
  have hdm := List.getElem_mem hlt'
  have hd := ht.ns _ hdm
  have hkn := hd.kn
  have hkc := hd.rs.cap
  have hkv := right_kids hr i hlt'
  have hft := right_fits hr hlt'
  have hcd := hc _ hdm
  have hnf' : nodesF pl fl t.ns [] = nodesF pl fl (t.ns.drop (i + 1)) (acc ++ [comeFl t.ns[i] (kidsF pl fl acc t.ns[i])]) := by
    rw [hnf, List.drop_eq_getElem_cons hlt', nodesF]
  generalize t.ns[i] = d at hrd hd hkn hkc hkv hft hcd hnf'
  have hk0 := hd.k.1
  have hk10 := fits_k hft
  have hrow : ∀ {M : List Blk} {q : Int}, flRow b8 (acc ++ List.replicate (t.n - i) fl0) ∈ M → q ∈ d.kids → Rd I1 M ((⟨b8, 0, none⟩ : Addr).add (q.toNat * 3)) 3 (acc.getD q.toNat fl0).cells := fun {M q} hM hq => by
    have hq' := hkv q hq
    have hql : q.toNat < acc.length := by omega
    have := flRow_rd (I := I1) hM (j := q.toNat) (by rw [List.length_append]; omega)
    rw [List.getElem_append_left hql] at this
    simpa [List.getD_eq_getElem?_getD, hql] using this
  refine IdxOb.mk ad i had rfl hlt ?_
  refine LoadOb.mk _ (hrd _) ?_
  refine SliceOb.mk 0 0 rfl rfl (Nat.le_refl _) (Nat.zero_le _) ?_
  refine LoopOb.inv (ι := Nat × OS × List Fl) (fun x => { fl := [(0, .val (.map (some gm))), (1, .val (.slice la ln lc)), (5, .ref 5 0), (7, .ref 7 0), (8, .val (.slice (some ⟨b8, 0, none⟩) t.n t.n)), (9, .val x.2.1.val), (10, .val (.int .i64 i)), (11, .ref 11 0), (20, .val (.slice t.a t.n t.c)), (21, .val (.int .i64 t.n)), (22, .val (.int .i64 i)), (30, .val (.slice d.ka d.kn d.kc)), (31, .val (.int .i64 d.kn)), (32, .val (.int .i64 x.1))], cl := [(5, t.cells), (7, comeVs), (11, d.cells)], gi := I1, mi := flRow b8 (acc ++ List.replicate (t.n - i) fl0) :: (x.2.1.blk 55 ++ M0) })
    (fun x => x.1 ≤ d.kn ∧ x.2.1.ok 3 (x.2.2.flatMap Fl.cells) ∧ x.2.2 = (d.kids.take x.1).map fun k => acc.getD k.toNat fl0) (fun x => d.kn - x.1) ?_ ?_
  · exact ⟨(0, ⟨ko.a, 0, ko.c, ko.cur⟩, []), ⟨Nat.zero_le _, OS.zero hko, rfl⟩, .refl, .cons .refl (.cons .refl (.cons .refl (.cons .refl (.cons .refl (.cons .refl (.cons .refl (.cons .refl (.cons .refl (.cons .refl (.cons .refl (.cons .refl (.cons .refl (.cons .refl .nil))))))))))))), .cons rfl (.cons rfl (.cons rfl .nil))⟩
  rintro ⟨k, k2, kl⟩ ⟨hk, hk2, hkl⟩
  simp only at hk hk2 hkl
  have hk2n : k2.n = kl.length := by have := hk2.len; rw [fl_len] at this; omega
  have hkll : kl.length ≤ k := by rw [hkl, List.length_map]; exact List.length_take_le _ _
  refine CondOb.mk (fun h => ?_) (fun h => ?_)
  · have hkk : k < d.kn := by have : (k : Int) < (d.kn : Int) := of_decide_eq_true h; omega
    have hkk' : k < d.kids.length := by omega
    obtain ⟨ak, hak, hrk⟩ := hd.rs.one hkk hkk'
    have hq := hkv _ (List.getElem_mem hkk')
    refine IdxOb.mk ak k hak rfl hkk ?_
    refine LoadOb.mk _ (hrk _) ?_
    refine IdxOb.mk ⟨b8, 0, none⟩ d.kids[k].toNat rfl (by omega) (by omega) ?_
    refine LoadOb.mk _ (hrow (.head _) (List.getElem_mem hkk')) ?_
    refine AllocOb.mk fun b9 hb9 hbM9 => ?_
    refine OtherOb.append TrydEOK rfl (by simp) (e := 55) rfl rfl rfl k2 hk2 rfl (m := 1) rfl (news := (acc.getD d.kids[k].toNat fl0).cells) (by decide) (blk_rd (b := b9) (cs := (acc.getD d.kids[k].toNat fl0).cells) (k := 0) (n := 3) (T := 55) (.head _) (Nat.le_of_ble_eq_true rfl)) rfl (Mr := ⟨b9, .cells (acc.getD d.kids[k].toNat fl0).cells.toArray 55 (0, 0)⟩ :: flRow b8 (acc ++ List.replicate (t.n - i) fl0) :: M0) (by
      have := List.perm_append_comm_assoc [(⟨b9, .cells (acc.getD d.kids[k].toNat fl0).cells.toArray 55 (0, 0)⟩ : Blk), flRow b8 (acc ++ List.replicate (t.n - i) fl0)] (k2.blk 55) M0
      exact this) (by simp only [maxLen]; omega) (by show (k2.n + 1) * 3 ≤ _; omega) ?_
    intro g2 c2 cur2 r1 r2 r3 r4
    refine ArithOb.mk _ (next_wr (i := k) (by omega)) ?_
    refine ⟨(k + 1, ⟨some g2, k2.n + 1, c2, cur2⟩, kl ++ [acc.getD d.kids[k].toNat fl0]), ⟨⟨by simp only; omega, ?_, ?_⟩, by simp only; omega⟩, .sub (M1 := [(⟨g2, .cells cur2.toArray 55 (0, 0)⟩ : Blk), flRow b8 (acc ++ List.replicate (t.n - i) fl0)] ++ M0) (.cons_cons _ (.cons _ (.refl _))) (.perm (List.Perm.swap _ _ _) .refl), .cons .refl (.cons .refl (.cons .refl (.cons .refl (.cons .refl (.cons .refl (.cons .refl (.cons .refl (.cons .refl (.cons .refl (.cons .refl (.cons .refl (.cons .refl (.cons .refl .nil))))))))))))), .cons rfl (.cons rfl (.cons rfl .nil))⟩
    · simp only
      rw [flat_snoc]
      exact appk_ok hk2 (Fl.cells_len _) r1 r2 r3 r4
    · simp only
      rw [List.take_succ_eq_append_getElem hkk', List.map_append, ← hkl]
      rfl
  have hge : d.kn ≤ k := by have : ¬ (k : Int) < (d.kn : Int) := of_decide_eq_false h; omega
  rw [List.take_of_length_le (by omega)] at hkl
  have hkln : kl.length = d.kids.length := by rw [hkl, List.length_map]
  have hb2 : k2.n + 1 ≤ 140737488355328 := by omega
  clear h hk hkll
  -- what each kind comes to
  have hset : ∀ x : Fl, splice ((acc ++ List.replicate (t.n - i) fl0).flatMap Fl.cells) (0 + i * 3) x.cells = ((acc ++ [x]) ++ List.replicate (t.n - (i + 1)) fl0).flatMap Fl.cells := fun x => by
    rw [Nat.zero_add, flRow_set _ _ (by simp; omega), rep_at acc t.n i hacc hlt]
  have hinv : ∀ (ko2 : OS) (ks2 : List Value), ko2.ok 3 ks2 → ((i + 1 ≤ t.n ∧ (acc ++ [comeFl d (kidsF pl fl acc d)]).length = i + 1 ∧ nodesF pl fl t.ns [] = nodesF pl fl (t.ns.drop (i + 1)) (acc ++ [comeFl d (kidsF pl fl acc d)]) ∧ ∃ ks, ko2.ok 3 ks) ∧ t.n - (i + 1) < t.n - i) := fun ko2 ks2 h2 =>
    ⟨⟨hlt, by simp [hacc], hnf', ks2, h2⟩, by omega⟩
  by_cases h3 : d.k = 3
  · refine CondOb.mk (fun _ => ?_) (fun h => absurd h (by simp [h3]))
    obtain ⟨q, hq1, hq2⟩ := hcd h3
    have hkf : kidsF pl fl acc d = kl ++ [fl.getD q fl0] := by
      rw [kidsF, ← hkl, hq1, h3]
      rfl
    have hql : q < fl.length := by rw [hfl.n]; exact hq2
    obtain ⟨al, hal, hrl⟩ := hfl.rd q hql
    have hgq : fl.getD q fl0 = fl[q] := by simp [List.getD_eq_getElem?_getD, hql]
    refine OtherOb.lookupF TrydEOK rfl (by simp) rfl rfl rfl rfl (fun w => zero_int w) (l := pl) (g := gm) rfl rfl (.inl hm) ?_
    rw [hq1]
    refine IdxOb.mk al q hal rfl hq2 ?_
    refine LoadOb.mk _ (hrl.sub fun x hx => by simp [hx]) ?_
    refine AllocOb.mk fun b9 hb9 hbM9 => ?_
    refine OtherOb.append TrydEOK rfl (by simp) (e := 55) rfl rfl rfl k2 hk2 rfl (m := 1) rfl (news := fl[q].cells) (by decide) (blk_rd (b := b9) (cs := fl[q].cells) (k := 0) (n := 3) (T := 55) (.head _) (Nat.le_of_ble_eq_true rfl)) rfl (Mr := ⟨b9, .cells fl[q].cells.toArray 55 (0, 0)⟩ :: flRow b8 (acc ++ List.replicate (t.n - i) fl0) :: M0) (by
      have := List.perm_append_comm_assoc [(⟨b9, .cells fl[q].cells.toArray 55 (0, 0)⟩ : Blk), flRow b8 (acc ++ List.replicate (t.n - i) fl0)] (k2.blk 55) M0
      exact this) (by simp only [maxLen]; omega) (by show (k2.n + 1) * 3 ≤ _; omega) ?_
    intro g2 c2 cur2 r1 r2 r3 r4
    have hok2 := appk_ok (g := g2) hk2 (Fl.cells_len fl[q]) r1 r2 r3 r4
    rw [← flat_snoc, ← hgq, ← hkf] at hok2
    have hks := OS.fsAt (I := I1) (M := ⟨g2, .cells cur2.toArray 55 (0, 0)⟩ :: ⟨b9, .cells fl[q].cells.toArray 55 (0, 0)⟩ :: flRow b8 (acc ++ List.replicate (t.n - i) fl0) :: M0) (e := 55) hok2 (fun x hx => by
      simp only [OS.blk, List.mem_singleton] at hx
      subst hx
      exact .head _)
    refine CodeOb.draw TrydEOK rfl rfl rfl ?_
    obtain ⟨dk, s0, s1, s2, s3, dt, lo, hi', dka, dkn, dkc, dkids⟩ := d
    simp only at h3
    subst h3
    refine ArrOb.mk 3 rfl (by decide) ?_
    refine PCallOb.mkR _ [] _ perm_nil (come_at (d := ⟨3, s0, s1, s2, s3, dt, lo, hi', dka, dkn, dkc, dkids⟩) hks hb2 3 (by decide) rfl (fun _ => Nat.succ_pos _)) (fun v I' M' h x hx => by rw [h.2.2]; exact hx) ?_
    rintro v I2 M2 - ⟨rfl, rfl, rfl⟩
    rw [List.append_nil]
    refine IdxOb.mk ⟨b8, 0, none⟩ i rfl rfl hlt ?_
    refine StoreOb.addTo [(⟨g2, .cells cur2.toArray 55 (0, 0)⟩ : Blk), ⟨b9, .cells fl[q].cells.toArray 55 (0, 0)⟩] M0 ((acc ++ List.replicate (t.n - i) fl0).flatMap Fl.cells) _ rfl (ble_fl hacc hlt _) rfl _ (hset _) ?_
    refine ArithOb.mk _ (next_wr (i := i) (by omega)) ?_
    exact ⟨(i + 1, _, ⟨some g2, k2.n + 1, c2, cur2⟩), hinv _ _ hok2, .sub (M1 := [(⟨g2, .cells cur2.toArray 55 (0, 0)⟩ : Blk), flRow b8 _] ++ M0) (.cons_cons _ (.cons _ (.refl _))) (.perm (List.Perm.swap _ _ _) .refl), .cons .refl (.cons .refl (.cons .refl (.cons .refl (.cons .refl (.cons .refl (.cons .refl (.cons .refl (.cons .refl .nil)))))))), .cons rfl (.cons rfl .nil)⟩
  refine CondOb.mk (fun h => absurd (of_decide_eq_true h) h3) (fun _ => ?_)
  have hkf : kidsF pl fl acc d = kl := by
    rw [kidsF, ← hkl, decide_eq_false h3]
    simp
  rw [hkf] at hinv
  have hks := OS.fsAt (I := I1) (M := flRow b8 (acc ++ List.replicate (t.n - i) fl0) :: (k2.blk 55 ++ M0)) (e := 55) hk2 (fun x hx => by simp [hx])
  have hpos : 6 ≤ d.k → 0 < k2.n := fun h6 => by
    have := fits_kid hk0 hft h6
    omega
  have hcases : d.k = 0 ∨ d.k = 1 ∨ d.k = 2 ∨ d.k = 4 ∨ d.k = 5 ∨ d.k = 6 ∨ d.k = 7 ∨ d.k = 8 ∨ d.k = 9 := by omega
  obtain ⟨dk, s0, s1, s2, s3, dt, lo, hi', dka, dkn, dkc, dkids⟩ := d
  simp only at hcases hpos h3
  refine CodeOb.draw TrydEOK rfl rfl rfl ?_
  rcases hcases with rfl | rfl | rfl | rfl | rfl | rfl | rfl | rfl | rfl
  · refine ArrOb.mk 0 rfl (by decide) ?_
    refine PCallOb.mkR _ [] _ perm_nil (come_at (d := ⟨0, s0, s1, s2, s3, dt, lo, hi', dka, dkn, dkc, dkids⟩) hks (Nat.le_of_succ_le hb2) 0 (by decide) rfl (fun h => by omega)) (fun v I' M' h x hx => by rw [h.2.2]; exact hx) ?_
    rintro v I2 M2 - ⟨rfl, rfl, rfl⟩
    rw [List.append_nil]
    refine IdxOb.mk ⟨b8, 0, none⟩ i rfl rfl hlt ?_
    refine StoreOb.addTo [] (k2.blk 55 ++ M0) ((acc ++ List.replicate (t.n - i) fl0).flatMap Fl.cells) _ rfl (ble_fl hacc hlt _) rfl _ (hset _) ?_
    refine ArithOb.mk _ (next_wr (i := i) (by omega)) ?_
    exact ⟨(i + 1, _, k2), hinv _ _ hk2, .refl, .cons .refl (.cons .refl (.cons .refl (.cons .refl (.cons .refl (.cons .refl (.cons .refl (.cons .refl (.cons .refl .nil)))))))), .cons rfl (.cons rfl .nil)⟩
  · refine ArrOb.mk 1 rfl (by decide) ?_
    refine PCallOb.mkR _ [] _ perm_nil (come_at (d := ⟨1, s0, s1, s2, s3, dt, lo, hi', dka, dkn, dkc, dkids⟩) hks (Nat.le_of_succ_le hb2) 1 (by decide) rfl (fun h => by omega)) (fun v I' M' h x hx => by rw [h.2.2]; exact hx) ?_
    rintro v I2 M2 - ⟨rfl, rfl, rfl⟩
    rw [List.append_nil]
    refine IdxOb.mk ⟨b8, 0, none⟩ i rfl rfl hlt ?_
    refine StoreOb.addTo [] (k2.blk 55 ++ M0) ((acc ++ List.replicate (t.n - i) fl0).flatMap Fl.cells) _ rfl (ble_fl hacc hlt _) rfl _ (hset _) ?_
    refine ArithOb.mk _ (next_wr (i := i) (by omega)) ?_
    exact ⟨(i + 1, _, k2), hinv _ _ hk2, .refl, .cons .refl (.cons .refl (.cons .refl (.cons .refl (.cons .refl (.cons .refl (.cons .refl (.cons .refl (.cons .refl .nil)))))))), .cons rfl (.cons rfl .nil)⟩
  · refine ArrOb.mk 2 rfl (by decide) ?_
    refine PCallOb.mkR _ [] _ perm_nil (come_at (d := ⟨2, s0, s1, s2, s3, dt, lo, hi', dka, dkn, dkc, dkids⟩) hks (Nat.le_of_succ_le hb2) 2 (by decide) rfl (fun h => by omega)) (fun v I' M' h x hx => by rw [h.2.2]; exact hx) ?_
    rintro v I2 M2 - ⟨rfl, rfl, rfl⟩
    rw [List.append_nil]
    refine IdxOb.mk ⟨b8, 0, none⟩ i rfl rfl hlt ?_
    refine StoreOb.addTo [] (k2.blk 55 ++ M0) ((acc ++ List.replicate (t.n - i) fl0).flatMap Fl.cells) _ rfl (ble_fl hacc hlt _) rfl _ (hset _) ?_
    refine ArithOb.mk _ (next_wr (i := i) (by omega)) ?_
    exact ⟨(i + 1, _, k2), hinv _ _ hk2, .refl, .cons .refl (.cons .refl (.cons .refl (.cons .refl (.cons .refl (.cons .refl (.cons .refl (.cons .refl (.cons .refl .nil)))))))), .cons rfl (.cons rfl .nil)⟩
  · refine ArrOb.mk 4 rfl (by decide) ?_
    refine PCallOb.mkR _ [] _ perm_nil (come_at (d := ⟨4, s0, s1, s2, s3, dt, lo, hi', dka, dkn, dkc, dkids⟩) hks (Nat.le_of_succ_le hb2) 4 (by decide) rfl (fun h => by omega)) (fun v I' M' h x hx => by rw [h.2.2]; exact hx) ?_
    rintro v I2 M2 - ⟨rfl, rfl, rfl⟩
    rw [List.append_nil]
    refine IdxOb.mk ⟨b8, 0, none⟩ i rfl rfl hlt ?_
    refine StoreOb.addTo [] (k2.blk 55 ++ M0) ((acc ++ List.replicate (t.n - i) fl0).flatMap Fl.cells) _ rfl (ble_fl hacc hlt _) rfl _ (hset _) ?_
    refine ArithOb.mk _ (next_wr (i := i) (by omega)) ?_
    exact ⟨(i + 1, _, k2), hinv _ _ hk2, .refl, .cons .refl (.cons .refl (.cons .refl (.cons .refl (.cons .refl (.cons .refl (.cons .refl (.cons .refl (.cons .refl .nil)))))))), .cons rfl (.cons rfl .nil)⟩
  · refine ArrOb.mk 5 rfl (by decide) ?_
    refine PCallOb.mkR _ [] _ perm_nil (come_at (d := ⟨5, s0, s1, s2, s3, dt, lo, hi', dka, dkn, dkc, dkids⟩) hks (Nat.le_of_succ_le hb2) 5 (by decide) rfl (fun h => by omega)) (fun v I' M' h x hx => by rw [h.2.2]; exact hx) ?_
    rintro v I2 M2 - ⟨rfl, rfl, rfl⟩
    rw [List.append_nil]
    refine IdxOb.mk ⟨b8, 0, none⟩ i rfl rfl hlt ?_
    refine StoreOb.addTo [] (k2.blk 55 ++ M0) ((acc ++ List.replicate (t.n - i) fl0).flatMap Fl.cells) _ rfl (ble_fl hacc hlt _) rfl _ (hset _) ?_
    refine ArithOb.mk _ (next_wr (i := i) (by omega)) ?_
    exact ⟨(i + 1, _, k2), hinv _ _ hk2, .refl, .cons .refl (.cons .refl (.cons .refl (.cons .refl (.cons .refl (.cons .refl (.cons .refl (.cons .refl (.cons .refl .nil)))))))), .cons rfl (.cons rfl .nil)⟩
  · refine ArrOb.mk 6 rfl (by decide) ?_
    refine PCallOb.mkR _ [] _ perm_nil (come_at (d := ⟨6, s0, s1, s2, s3, dt, lo, hi', dka, dkn, dkc, dkids⟩) hks (Nat.le_of_succ_le hb2) 6 (by decide) rfl (fun _ => hpos (by decide))) (fun v I' M' h x hx => by rw [h.2.2]; exact hx) ?_
    rintro v I2 M2 - ⟨rfl, rfl, rfl⟩
    rw [List.append_nil]
    refine IdxOb.mk ⟨b8, 0, none⟩ i rfl rfl hlt ?_
    refine StoreOb.addTo [] (k2.blk 55 ++ M0) ((acc ++ List.replicate (t.n - i) fl0).flatMap Fl.cells) _ rfl (ble_fl hacc hlt _) rfl _ (hset _) ?_
    refine ArithOb.mk _ (next_wr (i := i) (by omega)) ?_
    exact ⟨(i + 1, _, k2), hinv _ _ hk2, .refl, .cons .refl (.cons .refl (.cons .refl (.cons .refl (.cons .refl (.cons .refl (.cons .refl (.cons .refl (.cons .refl .nil)))))))), .cons rfl (.cons rfl .nil)⟩
  · refine ArrOb.mk 7 rfl (by decide) ?_
    refine PCallOb.mkR _ [] _ perm_nil (come_at (d := ⟨7, s0, s1, s2, s3, dt, lo, hi', dka, dkn, dkc, dkids⟩) hks (Nat.le_of_succ_le hb2) 7 (by decide) rfl (fun _ => hpos (by decide))) (fun v I' M' h x hx => by rw [h.2.2]; exact hx) ?_
    rintro v I2 M2 - ⟨rfl, rfl, rfl⟩
    rw [List.append_nil]
    refine IdxOb.mk ⟨b8, 0, none⟩ i rfl rfl hlt ?_
    refine StoreOb.addTo [] (k2.blk 55 ++ M0) ((acc ++ List.replicate (t.n - i) fl0).flatMap Fl.cells) _ rfl (ble_fl hacc hlt _) rfl _ (hset _) ?_
    refine ArithOb.mk _ (next_wr (i := i) (by omega)) ?_
    exact ⟨(i + 1, _, k2), hinv _ _ hk2, .refl, .cons .refl (.cons .refl (.cons .refl (.cons .refl (.cons .refl (.cons .refl (.cons .refl (.cons .refl (.cons .refl .nil)))))))), .cons rfl (.cons rfl .nil)⟩
  · refine ArrOb.mk 8 rfl (by decide) ?_
    refine PCallOb.mkR _ [] _ perm_nil (come_at (d := ⟨8, s0, s1, s2, s3, dt, lo, hi', dka, dkn, dkc, dkids⟩) hks (Nat.le_of_succ_le hb2) 8 (by decide) rfl (fun _ => hpos (by decide))) (fun v I' M' h x hx => by rw [h.2.2]; exact hx) ?_
    rintro v I2 M2 - ⟨rfl, rfl, rfl⟩
    rw [List.append_nil]
    refine IdxOb.mk ⟨b8, 0, none⟩ i rfl rfl hlt ?_
    refine StoreOb.addTo [] (k2.blk 55 ++ M0) ((acc ++ List.replicate (t.n - i) fl0).flatMap Fl.cells) _ rfl (ble_fl hacc hlt _) rfl _ (hset _) ?_
    refine ArithOb.mk _ (next_wr (i := i) (by omega)) ?_
    exact ⟨(i + 1, _, k2), hinv _ _ hk2, .refl, .cons .refl (.cons .refl (.cons .refl (.cons .refl (.cons .refl (.cons .refl (.cons .refl (.cons .refl (.cons .refl .nil)))))))), .cons rfl (.cons rfl .nil)⟩
  · refine ArrOb.mk 9 rfl (by decide) ?_
    refine PCallOb.mkR _ [] _ perm_nil (come_at (d := ⟨9, s0, s1, s2, s3, dt, lo, hi', dka, dkn, dkc, dkids⟩) hks (Nat.le_of_succ_le hb2) 9 (by decide) rfl (fun _ => hpos (by decide))) (fun v I' M' h x hx => by rw [h.2.2]; exact hx) ?_
    rintro v I2 M2 - ⟨rfl, rfl, rfl⟩
    rw [List.append_nil]
    refine IdxOb.mk ⟨b8, 0, none⟩ i rfl rfl hlt ?_
    refine StoreOb.addTo [] (k2.blk 55 ++ M0) ((acc ++ List.replicate (t.n - i) fl0).flatMap Fl.cells) _ rfl (ble_fl hacc hlt _) rfl _ (hset _) ?_
    refine ArithOb.mk _ (next_wr (i := i) (by omega)) ?_
    exact ⟨(i + 1, _, k2), hinv _ _ hk2, .refl, .cons .refl (.cons .refl (.cons .refl (.cons .refl (.cons .refl (.cons .refl (.cons .refl (.cons .refl (.cons .refl .nil)))))))), .cons rfl (.cons rfl .nil)⟩
end Go.V

/-
  Plain: flows: who is greater; the least ones that are closed. No program in sight.
-/
set_option linter.unusedVariables false
set_option linter.unusedSimpArgs false
namespace Go.V
open Go

/-! ### The order -/
structure Fl.le (a b : Fl) : Prop where
  z : a.z = true → b.z = true
  s : a.s = true → b.s = true
  f : a.f = true → b.f = true
theorem Fl.le_refl (a : Fl) : a.le a := ⟨id, id, id⟩
theorem Fl.le.trans {a b c : Fl} (h : a.le b) (h' : b.le c) : a.le c := ⟨fun x => h'.z (h.z x), fun x => h'.s (h.s x), fun x => h'.f (h.f x)⟩
theorem Fl.le.antisymm {a b : Fl} (h : a.le b) (h' : b.le a) : a = b := by
  obtain ⟨a1, a2, a3⟩ := a
  obtain ⟨b1, b2, b3⟩ := b
  have e : ∀ {x y : Bool}, (x = true → y = true) → (y = true → x = true) → x = y := fun {x y} h h' => by cases x <;> cases y <;> simp_all
  have e1 : a1 = b1 := e h.z h'.z
  have e2 : a2 = b2 := e h.s h'.s
  have e3 : a3 = b3 := e h.f h'.f
  subst e1 e2 e3
  rfl
theorem Fl.bot (a : Fl) : fl0.le a := ⟨(fun h => by cases h), (fun h => by cases h), (fun h => by cases h)⟩
def within (a b : Fl) : Bool := (!a.z || b.z) && ((!a.s || b.s) && (!a.f || b.f))
theorem within_iff {a b : Fl} : within a b = true ↔ a.le b := by
  obtain ⟨a1, a2, a3⟩ := a
  obtain ⟨b1, b2, b3⟩ := b
  constructor
  · intro h
    exact ⟨by cases a1 <;> cases b1 <;> simp_all [within], by cases a2 <;> cases b2 <;> simp_all [within], by cases a3 <;> cases b3 <;> simp_all [within]⟩
  · rintro ⟨h1, h2, h3⟩
    cases a1 <;> cases b1 <;> cases a2 <;> cases b2 <;> cases a3 <;> cases b3 <;> simp_all [within]
theorem Fl.suc_mono {a b : Fl} (h : a.le b) : a.suc = true → b.suc = true := by
  intro hs
  simp only [Fl.suc, Bool.or_eq_true] at hs ⊢
  exact hs.imp h.z h.s

/-- Rows, one by one. -/
inductive LeL : List Fl → List Fl → Prop
  | nil : LeL [] []
  | cons {a b l m} (h : Fl.le a b) (t : LeL l m) : LeL (a :: l) (b :: m)
theorem LeL.refl : ∀ l, LeL l l
  | [] => .nil
  | a :: l => .cons a.le_refl (LeL.refl l)
theorem LeL.trans : ∀ {a b c}, LeL a b → LeL b c → LeL a c
  | _, _, _, .nil, .nil => .nil
  | _, _, _, .cons h t, .cons h' t' => .cons (h.trans h') (t.trans t')
theorem LeL.antisymm : ∀ {a b}, LeL a b → LeL b a → a = b
  | _, _, .nil, _ => rfl
  | _, _, .cons h t, .cons h' t' => by rw [h.antisymm h', t.antisymm t']
theorem LeL.len : ∀ {a b}, LeL a b → a.length = b.length
  | _, _, .nil => rfl
  | _, _, .cons h t => by simp [t.len]
theorem LeL.append : ∀ {a b c d}, LeL a b → LeL c d → LeL (a ++ c) (b ++ d)
  | _, _, _, _, .nil, h => h
  | _, _, _, _, .cons h t, h' => .cons h (t.append h')
theorem LeL.getD : ∀ {a b}, LeL a b → ∀ i, (a.getD i fl0).le (b.getD i fl0)
  | _, _, .nil, i => by simp; exact Fl.le_refl _
  | _, _, .cons h t, 0 => h
  | _, _, .cons h t, i + 1 => by simpa using t.getD i
theorem LeL.of : ∀ {a b : List Fl}, a.length = b.length → (∀ i, i < a.length → (a.getD i fl0).le (b.getD i fl0)) → LeL a b
  | [], [], _, _ => .nil
  | x :: a, y :: b, hl, h => .cons (by simpa using h 0 (by simp)) (LeL.of (by simpa using hl) fun i hi => by simpa using h (i + 1) (by simpa using hi))
theorem LeL.map {α : Type} {f g : α → Fl} : ∀ {l : List α}, (∀ x ∈ l, (f x).le (g x)) → LeL (l.map f) (l.map g)
  | [], _ => .nil
  | x :: l, h => .cons (h x (.head _)) (LeL.map fun y hy => h y (.tail _ hy))
theorem LeL.head {a b : List Fl} (h : LeL a b) : (a.headD fl0).le (b.headD fl0) := by
  cases h with
  | nil => exact Fl.le_refl _
  | cons h _ => exact h
theorem LeL.bot : ∀ l : List Fl, LeL (List.replicate l.length fl0) l
  | [] => .nil
  | a :: l => .cons a.bot (LeL.bot l)

/-! ### The table is rising -/
theorem seq_mono : ∀ {a b : List Fl}, LeL a b → ∀ {x y : Fl × Bool}, x.1.le y.1 → (x.2 = true → y.2 = true) → (a.foldl seqStep x).1.le (b.foldl seqStep y).1 ∧ ((a.foldl seqStep x).2 = true → (b.foldl seqStep y).2 = true)
  | _, _, .nil, _, _, h1, h2 => ⟨h1, h2⟩
  | _, _, .cons h t, x, y, h1, h2 => by
    refine seq_mono t ⟨?_, ?_, ?_⟩ ?_
    · simp only [seqStep, Bool.and_eq_true]
      exact fun g => ⟨h1.z g.1, h.z g.2⟩
    · simp only [seqStep, Bool.or_eq_true]
      exact fun g => g.imp h1.s h.s
    · simp only [seqStep, Bool.or_eq_true, Bool.and_eq_true]
      exact fun g => g.imp h1.f fun g => ⟨h2 g.1, h.f g.2⟩
    · simp only [seqStep, Bool.and_eq_true]
      exact fun g => ⟨h2 g.1, Fl.suc_mono h g.2⟩
theorem ch_mono : ∀ {a b : List Fl}, LeL a b → ∀ {x y : Fl}, x.le y → (a.foldl chStep x).le (b.foldl chStep y)
  | _, _, .nil, _, _, h1 => h1
  | _, _, .cons h t, x, y, h1 => by
    refine ch_mono t ⟨?_, ?_, ?_⟩
    · simp only [chStep, Bool.or_eq_true, Bool.and_eq_true]
      exact fun g => g.imp h1.z fun g => ⟨h1.f g.1, h.z g.2⟩
    · simp only [chStep, Bool.or_eq_true, Bool.and_eq_true]
      exact fun g => g.imp h1.s fun g => ⟨h1.f g.1, h.s g.2⟩
    · simp only [chStep, Bool.and_eq_true]
      exact fun g => ⟨h1.f g.1, h.f g.2⟩
theorem rep_mono (d : Nd) {a b : Fl} (h : a.le b) : (repFl d a).le (repFl d b) := by
  unfold repFl
  cases decide (d.hi = 0) with
  | true => exact Fl.le_refl _
  | false =>
    refine ⟨?_, h.s, ?_⟩
    · simp only [cond_false, Bool.or_eq_true, Bool.and_eq_true]
      exact fun g => g.imp h.z fun g => ⟨g.1, h.f g.2⟩
    · simp only [cond_false, Bool.and_eq_true]
      exact fun g => ⟨g.1, h.f g.2⟩
theorem come_mono (d : Nd) {a b : List Fl} (h : LeL a b) : (comeFl d a).le (comeFl d b) := by
  have hh := h.head
  unfold comeFl
  cases decide (d.k = 0) with
  | true => exact Fl.le_refl _
  | false =>
  cases decide (d.k = 1) with
  | true => exact Fl.le_refl _
  | false =>
  cases decide (d.k = 2) with
  | true => exact Fl.le_refl _
  | false =>
  cases decide (d.k = 3) with
  | true => exact hh
  | false =>
  cases decide (d.k = 4) with
  | true =>
    have hs := seq_mono h (x := (⟨true, false, false⟩, true)) (y := (⟨true, false, false⟩, true)) (Fl.le_refl _) id
    refine ⟨hs.1.z, ?_, hs.1.f⟩
    simp only [cond_true, cond_false, seqFl, seqGo, Bool.and_eq_true]
    exact fun g => ⟨hs.1.s g.1, hs.2 g.2⟩
  | false =>
  cases decide (d.k = 5) with
  | true => exact ch_mono h (Fl.le_refl _)
  | false =>
  cases decide (d.k = 6) with
  | true => exact rep_mono d hh
  | false =>
  cases decide (d.k = 7) with
  | true => exact ⟨Fl.suc_mono hh, id, hh.f⟩
  | false =>
  cases decide (d.k = 8) with
  | true => exact ⟨hh.f, id, Fl.suc_mono hh⟩
  | false => exact hh
theorem kids_mono {pl : List (ByteArray × Int)} {fl fl' acc acc' : List Fl} (h : LeL fl fl') (ha : LeL acc acc') (d : Nd) : LeL (kidsF pl fl acc d) (kidsF pl fl' acc' d) := by
  unfold kidsF
  refine (LeL.map fun k _ => ha.getD _).append ?_
  cases decide (d.k = 3) with
  | true => exact .cons (h.getD _) .nil
  | false => exact .nil
theorem nodes_mono {pl : List (ByteArray × Int)} {fl fl' : List Fl} (h : LeL fl fl') : ∀ (ds : List Nd) {acc acc' : List Fl}, LeL acc acc' → LeL (nodesF pl fl ds acc) (nodesF pl fl' ds acc')
  | [], _, _, ha => ha
  | d :: ds, _, _, ha => nodes_mono h ds (ha.append (.cons (come_mono d (kids_mono h ha d)) .nil))

/-! ### A grammar's flows -/
/-- The flow of a rule's body, by flows of rules. -/
def bodyF (pl : List (ByteArray × Int)) (fl : List Fl) (d : Df) : Fl := (nodesF pl fl d.t.ns []).getD d.t.root.toNat fl0
theorem body_mono {pl : List (ByteArray × Int)} {fl fl' : List Fl} (h : LeL fl fl') (d : Df) : (bodyF pl fl d).le (bodyF pl fl' d) := (nodes_mono h d.t.ns .nil).getD _
def roundGo (pl : List (ByteArray × Int)) : Nat → List Df → List Fl → List Fl
  | _, [], l => l
  | i, d :: ds, l => roundGo pl (i + 1) ds (l.set i (bodyF pl l d))
/-- Flows on the way to the least ones. -/
structure PreF (ds : List Df) (l : List Fl) : Prop where
  len : l.length = ds.length
  up : ∀ i (h : i < ds.length), (l.getD i fl0).le (bodyF (placesL ds) l ds[i])
  least : ∀ m : List Fl, m.length = ds.length → (∀ i (h : i < ds.length), (bodyF (placesL ds) m ds[i]).le (m.getD i fl0)) → LeL l m
theorem set_getD (l : List Fl) (i j : Nat) (x : Fl) (hi : i < l.length) : (l.set i x).getD j fl0 = if i = j then x else l.getD j fl0 := by
  simp only [List.getD_eq_getElem?_getD, List.getElem?_set]
  by_cases e : i = j
  · subst e
    simp [hi]
  · rw [if_neg e, if_neg e]
theorem PreF.start (ds : List Df) : PreF ds (List.replicate ds.length fl0) := by
  refine ⟨by simp, fun i h => ?_, fun m hm _ => by rw [← hm]; exact LeL.bot m⟩
  have : (List.replicate ds.length fl0).getD i fl0 = fl0 := by simp [List.getD_eq_getElem?_getD, h]
  rw [this]
  exact Fl.bot _
theorem PreF.step {ds : List Df} {l : List Fl} (h : PreF ds l) {i : Nat} (hi : i < ds.length) : PreF ds (l.set i (bodyF (placesL ds) l ds[i])) ∧ LeL l (l.set i (bodyF (placesL ds) l ds[i])) := by
  have hil : i < l.length := by rw [h.len]; exact hi
  have hle : LeL l (l.set i (bodyF (placesL ds) l ds[i])) := LeL.of (by simp) fun j hj => by
    rw [set_getD _ _ _ _ hil]
    by_cases e : i = j
    · subst e
      rw [if_pos rfl]
      exact h.up i hi
    · rw [if_neg e]
      exact Fl.le_refl _
  refine ⟨⟨by simpa using h.len, fun j hj => ?_, fun m hm hc => ?_⟩, hle⟩
  · rw [set_getD _ _ _ _ hil]
    by_cases e : i = j
    · subst e
      rw [if_pos rfl]
      exact body_mono hle _
    · rw [if_neg e]
      exact (h.up j hj).trans (body_mono hle _)
  · have hlm := h.least m hm hc
    refine LeL.of (by simp [h.len, hm]) fun j hj => ?_
    rw [set_getD _ _ _ _ hil]
    by_cases e : i = j
    · subst e
      rw [if_pos rfl]
      exact (body_mono hlm _).trans (hc i hi)
    · rw [if_neg e]
      exact hlm.getD j
theorem roundGo_pre {ds : List Df} : ∀ (rest pre : List Df) {l : List Fl}, ds = pre ++ rest → PreF ds l → PreF ds (roundGo (placesL ds) pre.length rest l) ∧ LeL l (roundGo (placesL ds) pre.length rest l) ∧
    (roundGo (placesL ds) pre.length rest l = l → ∀ i (h : i < ds.length), pre.length ≤ i → l.getD i fl0 = bodyF (placesL ds) l ds[i])
  | [], pre, l, hds, h => ⟨h, LeL.refl l, fun _ i hi hge => by
    rw [hds, List.append_nil] at hi
    omega⟩
  | d :: rest, pre, l, hds, h => by
    have hi : pre.length < ds.length := by rw [hds]; simp
    have hd : ds[pre.length] = d := by simp [hds]
    have hil : pre.length < l.length := by rw [h.len]; exact hi
    obtain ⟨s1, s2⟩ := h.step hi
    rw [hd] at s1 s2
    obtain ⟨r1, r2, r3⟩ := roundGo_pre rest (pre ++ [d]) (by rw [hds]; simp) s1
    rw [List.length_append, List.length_cons, List.length_nil, Nat.zero_add] at r1 r2 r3
    refine ⟨r1, s2.trans r2, fun e i hi2 hge => ?_⟩
    have e1 : l.set pre.length (bodyF (placesL ds) l d) = l := by
      refine LeL.antisymm ?_ s2
      have : roundGo (placesL ds) pre.length (d :: rest) l = roundGo (placesL ds) (pre.length + 1) rest (l.set pre.length (bodyF (placesL ds) l d)) := rfl
      rw [this] at e
      rw [e] at r2
      exact r2
    have e2 : roundGo (placesL ds) (pre.length + 1) rest l = l := by
      have : roundGo (placesL ds) pre.length (d :: rest) l = roundGo (placesL ds) (pre.length + 1) rest (l.set pre.length (bodyF (placesL ds) l d)) := rfl
      rw [this, e1] at e
      exact e
    rw [e1] at r3
    by_cases hp : i = pre.length
    · subst hp
      have h4 := set_getD l pre.length pre.length (bodyF (placesL ds) l d) hil
      rw [e1, if_pos rfl] at h4
      rw [h4, hd]
    · exact r3 e2 i hi2 (by omega)

/-- The least flows that are closed. -/
structure IsFlow (ds : List Df) (l : List Fl) : Prop where
  len : l.length = ds.length
  fix : ∀ i (h : i < ds.length), l.getD i fl0 = bodyF (placesL ds) l ds[i]
  least : ∀ m : List Fl, m.length = ds.length → (∀ i (h : i < ds.length), (bodyF (placesL ds) m ds[i]).le (m.getD i fl0)) → LeL l m
theorem PreF.done {ds : List Df} {l : List Fl} (h : PreF ds l) (hf : roundGo (placesL ds) 0 ds l = l) : IsFlow ds l :=
  ⟨h.len, fun i hi => (roundGo_pre ds [] rfl h).2.2 hf i hi (Nat.zero_le _), h.least⟩
theorem IsFlow.unique {ds : List Df} {l l' : List Fl} (h : IsFlow ds l) (h' : IsFlow ds l') : l = l' :=
  LeL.antisymm (h.least l' h'.len fun i hi => by rw [← h'.fix i hi]; exact Fl.le_refl _) (h'.least l h.len fun i hi => by rw [← h.fix i hi]; exact Fl.le_refl _)
def iterF (ds : List Df) : Nat → List Fl
  | 0 => List.replicate ds.length fl0
  | n + 1 => roundGo (placesL ds) 0 ds (iterF ds n)
theorem iterF_pre (ds : List Df) : ∀ n, PreF ds (iterF ds n)
  | 0 => .start ds
  | n + 1 => (roundGo_pre ds [] rfl (iterF_pre ds n)).1
theorem isFlow_of {ds : List Df} {l : List Fl} (n : Nat) (h : iterF ds n = l) (h' : roundGo (placesL ds) 0 ds l = l) : IsFlow ds l := by
  subst h
  exact (iterF_pre ds n).done h'

/-- How many flags are down. -/
def offF (x : Fl) : Nat := (bif x.z then 0 else 1) + ((bif x.s then 0 else 1) + (bif x.f then 0 else 1))
def offs (l : List Fl) : Nat := (l.map offF).sum
theorem offF_le {a b : Fl} (h : a.le b) : offF b ≤ offF a ∧ (offF a ≤ offF b → a = b) := by
  obtain ⟨a1, a2, a3⟩ := a
  obtain ⟨b1, b2, b3⟩ := b
  obtain ⟨h1, h2, h3⟩ := h
  cases a1 <;> cases b1 <;> cases a2 <;> cases b2 <;> cases a3 <;> cases b3 <;> simp_all [offF]
theorem offs_le : ∀ {l m : List Fl}, LeL l m → offs m ≤ offs l ∧ (offs l ≤ offs m → l = m)
  | _, _, .nil => ⟨Nat.le_refl _, fun _ => rfl⟩
  | _, _, .cons h t => by
    obtain ⟨h1, h2⟩ := offF_le h
    obtain ⟨t1, t2⟩ := offs_le t
    simp only [offs, List.map_cons, List.sum_cons] at t1 t2 ⊢
    refine ⟨by omega, fun h => ?_⟩
    rw [h2 (by omega), t2 (by omega)]
theorem offs_lt {l m : List Fl} (h : LeL l m) (hne : m ≠ l) : offs m < offs l := by
  obtain ⟨h1, h2⟩ := offs_le h
  apply Nat.lt_of_le_of_ne h1
  intro e
  exact hne (h2 (by omega)).symm

/-! ### Names and places -/
def firstAt (nm : ByteArray) : List Df → Nat → Option Int
  | [], _ => none
  | d :: ds, i => bif decide (nm = d.name) then some (i : Int) else firstAt nm ds (i + 1)
theorem lookM_snoc (s n : ByteArray) (v : Int) : ∀ l : List (ByteArray × Int), lookM s (l ++ [(n, v)]) = match lookM s l with
    | some x => some x
    | none => bif decide (s = n) then some v else none
  | [] => rfl
  | p :: l => by
    have ih := lookM_snoc s n v l
    simp only [List.cons_append, lookM]
    cases decide (s = p.1) with
    | true => rfl
    | false => simpa using ih
theorem places_look : ∀ (ds : List Df) (acc : List (ByteArray × Int)) (i : Nat) (nm : ByteArray), lookM nm (placesGo acc i ds) = match lookM nm acc with
    | some x => some x
    | none => firstAt nm ds i
  | [], acc, i, nm => by
    rw [placesGo, firstAt]
    cases lookM nm acc <;> rfl
  | d :: ds, acc, i, nm => by
    rw [placesGo, places_look ds, firstAt]
    cases hd : (lookM d.name acc).isSome with
    | true =>
      simp only [cond_true]
      cases hl : lookM nm acc with
      | some x => rfl
      | none =>
        have : decide (nm = d.name) = false := by
          rw [decide_eq_false_iff_not]
          intro e
          rw [← e, hl] at hd
          cases hd
        rw [this]
        rfl
    | false =>
      simp only [cond_false, lookM_snoc]
      cases hl : lookM nm acc with
      | some x => rfl
      | none => cases decide (nm = d.name) <;> rfl
theorem places_first (ds : List Df) (nm : ByteArray) : lookM nm (placesL ds) = firstAt nm ds 0 := places_look ds [] 0 nm
theorem firstAt_lt : ∀ {ds : List Df} {i : Nat} {nm : ByteArray} {v : Int}, firstAt nm ds i = some v → ∃ j : Nat, v = ((i + j : Nat) : Int) ∧ j < ds.length
  | d :: ds, i, nm, v, h => by
    unfold firstAt at h
    cases hd : decide (nm = d.name) with
    | true =>
      rw [hd] at h
      simp only [cond_true, Option.some.injEq] at h
      exact ⟨0, by rw [← h]; rfl, by simp⟩
    | false =>
      rw [hd] at h
      obtain ⟨j, h1, h2⟩ := firstAt_lt h
      exact ⟨j + 1, by rw [h1]; congr 1; omega, by simpa using h2⟩
/-- Are the rules that are called there? -/
def namedOk (pl : List (ByteArray × Int)) (ns : List Nd) : Bool := ns.all fun d => !decide (d.k = 3) || (lookM d.t pl).isSome
theorem called_of {ds : List Df} {ns : List Nd} (h : namedOk (placesL ds) ns = true) : Called (placesL ds) ds.length ns := by
  intro d hd hk
  have := List.all_eq_true.1 h d hd
  simp only [hk, decide_true, Bool.not_true, Bool.false_or] at this
  obtain ⟨v, hv⟩ := Option.isSome_iff_exists.1 this
  have hv' := hv
  rw [places_first] at hv'
  obtain ⟨j, h1, h2⟩ := firstAt_lt hv'
  rw [Nat.zero_add] at h1
  exact ⟨j, by rw [hv, h1], h2⟩
theorem dups_places : ∀ (ds : List Df) {acc r : List (ByteArray × Int)} {i : Nat}, dups acc i ds = some r → placesGo acc i ds = r
  | [], acc, r, i, h => by
    simp only [dups, Option.some.injEq] at h
    exact h
  | d :: ds, acc, r, i, h => by
    unfold dups at h
    cases hd : (lookM d.name acc).isSome with
    | true => rw [hd] at h; cases h
    | false =>
      rw [hd] at h
      rw [placesGo, hd]
      exact dups_places ds h
theorem pairs_mem {d : Df} {nd : Nd} (hn : nd ∈ d.t.ns) : ∀ (ds : List Df) (i : Nat), d ∈ ds → ∃ j, (j, nd) ∈ nodePairs i ds := by
  intro ds
  induction ds with
  | nil => intro i hd; cases hd
  | cons x ds ih =>
    intro i hd
    rcases List.mem_cons.1 hd with e | hd
    · subst e
      exact ⟨i, List.mem_append.2 (.inl (List.mem_map.2 ⟨nd, hn, rfl⟩))⟩
    · obtain ⟨j, hj⟩ := ih (i + 1) hd
      exact ⟨j, List.mem_append.2 (.inr hj)⟩
theorem may_named {deb : List Int} {g : Gr} (h : mayG deb g = 0) : ∀ d ∈ g.ds, namedOk (placesL g.ds) d.t.ns = true := by
  unfold mayG at h
  cases h1 : decide ((g.n : Int) = 0) with
  | true => rw [h1] at h; cases h
  | false =>
  cases h2 : okDefs g.ds with
  | false => rw [h1, h2] at h; cases h
  | true =>
  cases h3 : largeG deb g with
  | true => rw [h1, h2, h3] at h; cases h
  | false =>
  rw [h1, h2, h3] at h
  simp only [cond_false, Bool.not_true] at h
  split at h
  · cases h
  · rename_i acc hacc
    have hp : placesL g.ds = acc := dups_places g.ds hacc
    cases h4 : allNamed acc g.ds with
    | false => rw [h4] at h; cases h
    | true =>
      intro d hd
      rw [hp, namedOk, List.all_eq_true]
      intro nd hnd
      obtain ⟨j, hj⟩ := pairs_mem hnd g.ds 0 hd
      exact List.all_eq_true.1 h4 _ hj
theorem may_ok {deb : List Int} {g : Gr} (h : mayG deb g = 0) : okDefs g.ds = true := by
  unfold mayG at h
  cases h1 : decide ((g.n : Int) = 0) with
  | true => rw [h1] at h; cases h
  | false =>
  cases h2 : okDefs g.ds with
  | false => rw [h1, h2] at h; cases h
  | true => rfl
end Go.V

/-
  Walks: flow.Within, Nodes, Tree, Of.
-/
set_option linter.unusedVariables false
set_option linter.unusedSimpArgs false
namespace Go.V
open Go Go.Proofs

theorem FsAt.mono {I I' : GH} {M : List Blk} {a : Option Addr} {n : Nat} {ks : List Fl} (h : FsAt I M a n ks) (hI : ∀ b o, I b = some o → I' b = some o) : FsAt I' M a n ks :=
  ⟨h.n, fun j hj => by
    obtain ⟨ad, h1, h2⟩ := h.rd j hj
    exact ⟨ad, h1, h2.mono hI⟩⟩
theorem FsAt.sub {I : GH} {M M' : List Blk} {a : Option Addr} {n : Nat} {ks : List Fl} (h : FsAt I M a n ks) (hM : ∀ x ∈ M, x ∈ M') : FsAt I M' a n ks :=
  ⟨h.n, fun j hj => by
    obtain ⟨ad, h1, h2⟩ := h.rd j hj
    exact ⟨ad, h1, h2.sub hM⟩⟩
theorem flRow_at {I : GH} {M : List Blk} {b : Nat} {l : List Fl} (hM : flRow b l ∈ M) : FsAt I M (some ⟨b, 0, none⟩) l.length l :=
  ⟨rfl, fun j hj => ⟨_, rfl, flRow_rd hM hj⟩⟩

theorem Within_spec {I : GH} {M : List Blk} (x y : Fl) : Spec Tryd.prog 33 [x.val, y.val] I M fun v I' M' => v = .bool (within x y) ∧ I' = I ∧ M' = M := by
  obtain ⟨a1, a2, a3⟩ := x
  obtain ⟨b1, b2, b3⟩ := y
  refine spec_of_V [] TrydEOK Tryd.func33 rfl rfl rfl ?_
  intro B h0
  repeat' refine GuardOb.mk (fun h => ?_) (fun h => ?_)
  all_goals refine ⟨_, _, .refl, ?_, rfl, rfl⟩
  all_goals first
    | (refine congrArg Value.bool ?_; simp_all [within]; done)
    | (simp_all [within]; done)

def nodesP (g : Gr) (fl : List Fl) (t : Tr) : Option (List Fl) := bif decide (fl.length = g.n) && (right t && namedOk (placesL g.ds) t.ns) then some (nodesF (placesL g.ds) fl t.ns []) else none

set_option maxHeartbeats 4000000 in
theorem FNodes_spec {I : GH} {M0 : List Blk} {deb : List Int} (hT : Tabs I deb) {g : Gr} (hg : g.ok I) {t : Tr} (ht : t.ok I) {la : Option Addr} {ln lc : Nat} {fl : List Fl} (hfl : FsAt I M0 la ln fl) :
    Spec Tryd.prog 31 [g.val, .slice la ln lc, t.val] I M0 fun v I' M' => (∀ b o, I b = some o → I' b = some o) ∧
      ((nodesP g fl t = none ∧ v = .tuple #[.slice none 0 0, .bool false] ∧ M' = M0) ∨ ∃ r b, nodesP g fl t = some r ∧ v = .tuple #[.slice (some ⟨b, 0, none⟩) t.n t.n, .bool true] ∧ M' = flRow b r :: M0) := by
  refine spec_of_V [] TrydEOK Tryd.func31 rfl rfl rfl ?_
  intro B h0
  have hgn := hg.n
  have htn := ht.n
  have hcap := ht.rs.cap
  have hfn := hfl.n
  refine GuardOb.mk (fun h => ?_) (fun h => ?_)
  rotate_left
  · refine ⟨_, _, .refl, fun _ _ h => h, .inl ⟨?_, rfl, rfl⟩⟩
    have hne : ¬ (ln : Int) = (g.n : Int) := by simpa using h
    have : decide (fl.length = g.n) = false := decide_eq_false (by omega)
    simp [nodesP, this]
  have hln : ln = g.n := by
    have : (ln : Int) = (g.n : Int) := by simpa using h
    omega
  have hd1 : decide (fl.length = g.n) = true := decide_eq_true (by omega)
  refine CallOb.mk [] M0 _ (.refl _) (Right_spec hT.c ht) ?_
  rintro v I1 M1 - ⟨rfl, rfl, rfl⟩
  refine CondOb.mk (fun h => ?_) (fun h => ?_)
  · refine ⟨_, _, .refl, fun _ _ h => h, .inl ⟨?_, rfl, rfl⟩⟩
    have : right t = false := by simpa using h
    simp [nodesP, this]
  have hr : right t = true := by simpa using h
  refine CallOb.mk [] M0 _ (.refl _) (places_spec hg) ?_
  rintro v I2 M2 - ⟨hI2, rfl, gm, rfl, hgm⟩
  have ht2 := ht.mono hI2
  refine LoopOb.inv (ι := Nat) (fun x => { fl := [(1, .val (.slice la ln lc)), (3, .ref 3 0), (5, .ref 5 0), (8, .val (.map (some gm))), (27, .val (.slice t.a t.n t.c)), (28, .val (.int .i64 t.n)), (29, .val (.int .i64 x))], cl := [(3, [.slice g.a g.n g.c]), (5, t.cells)], gi := I2, mi := M0 })
    (fun x => x ≤ t.n ∧ ∀ d ∈ t.ns.take x, (!decide (d.k = 3) || (lookM d.t (placesL g.ds)).isSome) = true) (fun x => t.n - x) ?_ ?_
  · exact ⟨0, ⟨Nat.zero_le _, fun d hd => by simp at hd⟩, .refl, .cons .refl (.cons .refl (.cons .refl (.cons .refl (.cons .refl (.cons .refl (.cons .refl .nil)))))), .cons rfl (.cons rfl .nil)⟩
  rintro i ⟨hi, hnm⟩
  refine CondOb.mk (fun h => ?_) (fun h => ?_)
  · have hlt : i < t.n := by have : (i : Int) < (t.n : Int) := of_decide_eq_true h; omega
    have hlt' : i < t.ns.length := by omega
    obtain ⟨ad, had, hrd⟩ := ht2.rs.row Nd.cells_len hlt hlt'
    have htk : t.ns.take (i + 1) = t.ns.take i ++ [t.ns[i]] := List.take_succ_eq_append_getElem hlt'
    have hmem := List.getElem_mem hlt'
    have next : (!decide (t.ns[i].k = 3) || (lookM t.ns[i].t (placesL g.ds)).isSome) = true → ∀ d ∈ t.ns.take (i + 1), (!decide (d.k = 3) || (lookM d.t (placesL g.ds)).isSome) = true := fun h d hd => by
      rw [htk] at hd
      rcases List.mem_append.1 hd with hd | hd
      · exact hnm d hd
      · simp only [List.mem_singleton] at hd
        rw [hd]
        exact h
    refine IdxOb.mk ad i had rfl hlt ?_
    refine LoadOb.mk _ (hrd _) ?_
    refine CondOb.mk (fun h3 => ?_) (fun h3 => ?_)
    · refine ArithOb.mk _ (next_wr (i := i) (by omega)) ?_
      refine ⟨i + 1, ⟨⟨by omega, next ?_⟩, by omega⟩, .refl, .cons .refl (.cons .refl (.cons .refl (.cons .refl (.cons .refl (.cons .refl (.cons .refl .nil)))))), .cons rfl (.cons rfl .nil)⟩
      rw [show (!decide (t.ns[i].k = 3)) = true from h3]
      rfl
    · refine OtherOb.lookupT TrydEOK rfl (by simp) rfl rfl rfl rfl (fun w => zero_int w) (l := placesL g.ds) (g := gm) rfl rfl (.inl hgm) ?_
      refine CondOb.mk (fun h4 => ?_) (fun h4 => ?_)
      · refine ⟨_, _, .refl, hI2, .inl ⟨?_, rfl, rfl⟩⟩
        have h5 : namedOk (placesL g.ds) t.ns = false := by
          rw [namedOk, List.all_eq_false]
          refine ⟨_, hmem, ?_⟩
          have h6 : (lookM t.ns[i].t (placesL g.ds)).isSome = false := by simpa using h4
          rw [h6, show (!decide (t.ns[i].k = 3)) = false from h3]
          simp
        simp [nodesP, h5]
      · refine ArithOb.mk _ (next_wr (i := i) (by omega)) ?_
        refine ⟨i + 1, ⟨⟨by omega, next ?_⟩, by omega⟩, .refl, .cons .refl (.cons .refl (.cons .refl (.cons .refl (.cons .refl (.cons .refl (.cons .refl .nil)))))), .cons rfl (.cons rfl .nil)⟩
        have h6 : (lookM t.ns[i].t (placesL g.ds)).isSome = true := by simpa using h4
        rw [h6]
        simp
  have hge : i = t.n := by have : ¬ (i : Int) < (t.n : Int) := of_decide_eq_false h; omega
  rw [List.take_of_length_le (by omega)] at hnm
  have hno : namedOk (placesL g.ds) t.ns = true := List.all_eq_true.2 hnm
  have hca := called_of hno
  rw [hgn, ← hln] at hca
  refine CallOb.mk M0 [] _ perm_nil (fnodes_spec ht2 hr hgm (hfl.mono hI2) hca) ?_
  rintro v I3 M3 - ⟨rfl, b, rfl, rfl⟩
  rw [List.append_nil]
  exact ⟨_, _, .refl, hI2, .inr ⟨_, b, by rw [nodesP, hd1, hr, hno]; rfl, rfl, rfl⟩⟩

def treeP (g : Gr) (fl : List Fl) (t : Tr) : Option Fl := (nodesP g fl t).map fun r => r.getD t.root.toNat fl0
theorem nodesP_len {g : Gr} {fl : List Fl} {t : Tr} {r : List Fl} (h : nodesP g fl t = some r) : right t = true ∧ r.length = t.ns.length := by
  unfold nodesP at h
  cases hb : decide (fl.length = g.n) && (right t && namedOk (placesL g.ds) t.ns) with
  | false => rw [hb] at h; cases h
  | true =>
    rw [hb] at h
    simp only [cond_true, Option.some.injEq] at h
    simp only [Bool.and_eq_true] at hb
    refine ⟨hb.2.1, ?_⟩
    rw [← h, nodesF_len]
    simp

theorem FTree_spec {I : GH} {M0 : List Blk} {deb : List Int} (hT : Tabs I deb) {g : Gr} (hg : g.ok I) {t : Tr} (ht : t.ok I) {la : Option Addr} {ln lc : Nat} {fl : List Fl} (hfl : FsAt I M0 la ln fl) :
    Spec Tryd.prog 30 [g.val, .slice la ln lc, t.val] I M0 fun v I' M' => (∀ b o, I b = some o → I' b = some o) ∧ M' = M0 ∧
      v = .tuple #[((treeP g fl t).getD fl0).val, .bool (treeP g fl t).isSome] := by
  refine spec_of_V [] TrydEOK Tryd.func30 rfl rfl rfl ?_
  intro B h0
  have htn := ht.n
  refine CallOb.mk M0 [] _ perm_nil (FNodes_spec hT hg ht hfl) ?_
  rintro v I1 M1 - ⟨hI1, ⟨hn, rfl, rfl⟩ | ⟨r, b, hn, rfl, rfl⟩⟩
  · rw [List.append_nil]
    refine CondOb.mk (fun _ => ?_) (fun h => by simp at h)
    exact ⟨_, _, .refl, hI1, rfl, by rw [treeP, hn]; rfl⟩
  · obtain ⟨hr, hrl⟩ := nodesP_len hn
    have hroot := right_root hr
    rw [List.append_nil]
    refine CondOb.mk (fun h => by simp at h) (fun _ => ?_)
    have hrl' : t.root.toNat < r.length := by omega
    refine IdxOb.mk ⟨b, 0, none⟩ t.root.toNat rfl (by omega) (by omega) ?_
    refine LoadOb.mk _ (flRow_rd (.head _) hrl') ?_
    refine ⟨_, M0, .sub (.cons _ (.refl _)) .refl, hI1, rfl, ?_⟩
    rw [treeP, hn]
    simp only [Option.map_some, Option.getD_some, Option.isSome_some, List.getD_eq_getElem?_getD, List.getElem?_eq_getElem hrl']
    rfl

/-! ### Of -/
/-- What is known of a grammar that may be. -/
structure MayF (g : Gr) : Prop where
  n : g.ds.length = g.n
  right : ∀ d ∈ g.ds, right d.t = true
  named : ∀ d ∈ g.ds, namedOk (placesL g.ds) d.t.ns = true
theorem mayF_of {deb : List Int} {g : Gr} (hn : g.ds.length = g.n) (h : mayG deb g = 0) : MayF g := by
  refine ⟨hn, fun d hd => ?_, may_named h⟩
  have := List.all_eq_true.1 (may_ok h) d hd
  simp only [normal, Bool.and_eq_true] at this
  exact this.2.1
def ofM (b6 gm b5 bl b1 : Nat) (g : Gr) (l : List Fl) : List Blk := [⟨b6, .cells #[.map (some gm)] 83 (0, 0)⟩, ⟨b5, .cells #[.slice (some ⟨bl, 0, none⟩) g.n g.n] 56 (0, 0)⟩, flRow bl l, ⟨b1, .cells #[.slice g.a g.n g.c] 38 (0, 0)⟩]

theorem perm_at2 {α : Type} (a b c d : α) : [a, b, c, d].Perm ([c] ++ [a, b, d]) := List.perm_middle (l₁ := [a, b]) (l₂ := [d])
theorem perm_at3 {α : Type} (x a b c d : α) : [x, a, b, c, d].Perm ([c] ++ [x, a, b, d]) := List.perm_middle (l₁ := [x, a, b]) (l₂ := [d])
theorem blk_rd0 {I : GH} {M : List Blk} {b : Nat} {f : Fl} (hM : (⟨b, .cells f.cells.toArray 55 (0, 0)⟩ : Blk) ∈ M) : Rd I M (⟨b, 0, none⟩ : Addr) 3 f.cells := ⟨rfl, _, _, _, .inr ⟨_, hM, rfl, rfl⟩, rfl, rfl⟩
theorem ble_row {l : List Fl} {i : Nat} (hi : i < l.length) {x : Fl} : Nat.ble (0 + i * 3 + x.cells.length) (l.flatMap Fl.cells).length = true := by
  rw [Nat.ble_eq, fl_len, Fl.cells_len]
  omega
theorem StoreOb.to {M : List Blk} {a : Addr} {vs : List Value} {K : List Blk → Prop} (pre post : List Blk) (cs : Array Value) (T : Nat) (hM : M = pre ++ ⟨a.block, .cells cs T (0, 0)⟩ :: post) (hs : a.spot = none) (hb : Nat.ble (a.off + vs.length) cs.size = true) (h1 : allOne vs = true)
    (cs' : List Value) (he : splice cs.toList a.off vs = cs') (k : K (pre ++ ⟨a.block, .cells cs'.toArray T (0, 0)⟩ :: post)) : StoreOb M a vs K :=
  ⟨pre, post, cs, T, hM, hs, Nat.le_of_ble_eq_true hb, h1, by rw [he]; exact k⟩
set_option maxRecDepth 100000 in
set_option maxHeartbeats 8000000 in
theorem Of1_spec {I : GH} {g : Gr} (hg : g.ok I) (hm : MayF g) {b6 gm b5 bl b1 : Nat} (hgm : I gm = some (mapO (placesL g.ds))) {l0 : List Fl} (hl0 : PreF g.ds l0) :
    Spec Tryd.prog 50 [ptr b1, ptr b6, ptr b5] I (ofM b6 gm b5 bl b1 g l0) fun v I' M' => v = .bool (decide (roundGo (placesL g.ds) 0 g.ds l0 ≠ l0)) ∧ I' = I ∧ M' = ofM b6 gm b5 bl b1 g (roundGo (placesL g.ds) 0 g.ds l0) := by
  refine spec_of_V [] TrydEOK Tryd.func50 rfl rfl rfl ?_
  intro B h0
  have hgn := hg.n
  have hcap := hg.rs.cap
  have rd1 : ∀ {M : List Blk}, (⟨b1, .cells #[.slice g.a g.n g.c] 38 (0, 0)⟩ : Blk) ∈ M → Rd I M ((⟨b1, 0, none⟩ : Addr).add 0) 1 [.slice g.a g.n g.c] := fun hM => blk_rd (cs := [.slice g.a g.n g.c]) (k := 0) (n := 1) hM (by simp)
  have rd6 : ∀ {M : List Blk}, (⟨b6, .cells #[.map (some gm)] 83 (0, 0)⟩ : Blk) ∈ M → Rd I M (⟨b6, 0, none⟩ : Addr) 1 [.map (some gm)] := fun hM => ⟨rfl, _, _, _, .inr ⟨_, hM, rfl, rfl⟩, rfl, rfl⟩
  have rd5 : ∀ {M : List Blk}, (⟨b5, .cells #[.slice (some ⟨bl, 0, none⟩) g.n g.n] 56 (0, 0)⟩ : Blk) ∈ M → Rd I M (⟨b5, 0, none⟩ : Addr) 1 [.slice (some ⟨bl, 0, none⟩) g.n g.n] := fun hM => ⟨rfl, _, _, _, .inr ⟨_, hM, rfl, rfl⟩, rfl, rfl⟩
  refine LoadOb.mk _ (rd1 (by simp [ofM])) ?_
  refine LoopOb.inv (ι := Nat × List Fl) (fun x => { fl := [(0, .val (ptr b1)), (1, .val (ptr b6)), (2, .val (ptr b5)), (4, .val (.bool (decide (x.2 ≠ l0)))), (9, .val (.slice g.a g.n g.c)), (10, .val (.int .i64 g.n)), (11, .val (.int .i64 x.1))], gi := I, mi := ofM b6 gm b5 bl b1 g x.2 })
    (fun x => x.1 ≤ g.n ∧ PreF g.ds x.2 ∧ LeL l0 x.2 ∧ roundGo (placesL g.ds) 0 g.ds l0 = roundGo (placesL g.ds) x.1 (g.ds.drop x.1) x.2) (fun x => g.n - x.1) ?_ ?_
  · refine ⟨(0, l0), ⟨Nat.zero_le _, hl0, LeL.refl _, rfl⟩, .refl, .cons .refl (.cons .refl (.cons .refl (.cons ?_ (.cons .refl (.cons .refl (.cons .refl .nil)))))), .nil⟩
    exact sv_lit (by simp)
  rintro ⟨i, l⟩ ⟨hi, hP, hle, hgo⟩
  simp only at hi hP hle hgo
  have hll := hP.len
  refine CondOb.mk (fun h => ?_) (fun h => ?_)
  rotate_left
  · have hge : i = g.n := by have : ¬ (i : Int) < (g.n : Int) := of_decide_eq_false h; omega
    rw [List.drop_eq_nil_of_le (by omega), roundGo] at hgo
    exact ⟨_, _, .refl, by rw [hgo], rfl, by rw [hgo]⟩
  have hlt : i < g.n := by have : (i : Int) < (g.n : Int) := of_decide_eq_true h; omega
  have hlt' : i < g.ds.length := by omega
  have hil : i < l.length := by omega
  obtain ⟨ad, had, hrd⟩ := hg.rs.row Df.cells_len hlt hlt'
  have hdm := List.getElem_mem hlt'
  have hd := hg.ds _ hdm
  have hr := hm.right _ hdm
  have hca := called_of (hm.named _ hdm)
  rw [show g.ds.length = l.length from hll.symm] at hca
  obtain ⟨hP', hle'⟩ := hP.step hlt'
  have hgo' : roundGo (placesL g.ds) 0 g.ds l0 = roundGo (placesL g.ds) (i + 1) (g.ds.drop (i + 1)) (l.set i (bodyF (placesL g.ds) l g.ds[i])) := by
    rw [hgo, List.drop_eq_getElem_cons hlt', roundGo]
  have hbody : bodyF (placesL g.ds) l g.ds[i] = (nodesF (placesL g.ds) l g.ds[i].t.ns []).getD g.ds[i].t.root.toNat fl0 := rfl
  generalize bodyF (placesL g.ds) l g.ds[i] = f at hP' hle' hgo' hbody
  generalize g.ds[i] = d at hrd hd hr hca hbody
  have hroot := right_root hr
  have htn := hd.t.n
  have hnl := nodesF_len (placesL g.ds) l d.t.ns []
  simp only [List.length_nil, Nat.zero_add] at hnl
  have hrl : d.t.root.toNat < (nodesF (placesL g.ds) l d.t.ns []).length := by omega
  have hfe : (nodesF (placesL g.ds) l d.t.ns [])[d.t.root.toNat] = f := by
    rw [hbody]
    simp [List.getD_eq_getElem?_getD, hrl]
  have hspec := fnodes_spec (M0 := [flRow bl l]) (ln := l.length) (lc := g.n) hd.t hr hgm (flRow_at (I := I) (List.mem_singleton.2 rfl)) hca
  rw [show l.length = g.n by omega] at hspec
  refine IdxOb.mk ad i had rfl hlt ?_
  refine LoadOb.mk _ (hrd _) ?_
  have hlf : l.getD i fl0 = l[i] := by simp [List.getD_eq_getElem?_getD, hil]
  have more : (!decide (f = l[i])) = true → decide (l.set i f ≠ l0) = true := fun h => by
    have hne : f ≠ l[i] := by simpa using h
    rw [decide_eq_true_eq]
    intro e
    have e2 : l.set i f = l := by
      refine LeL.antisymm ?_ hle'
      rw [e]
      exact hle
    have h3 := set_getD l i i f hil
    rw [e2, if_pos rfl, hlf] at h3
    exact hne h3.symm
  have same : (!decide (f = l[i])) = false → l.set i f = l := fun h => by
    have he : f = l[i] := by simpa using h
    rw [he]
    exact List.set_getElem_self hil
  refine CodeOb.draw TrydEOK rfl rfl rfl ?_
  refine LoadOb.mk _ (rd6 (by simp [ofM])) ?_
  refine LoadOb.mk _ (rd5 (by simp [ofM])) ?_
  refine ⟨?_, ?_⟩
  · refine PCallOb.mkR [flRow bl l] [⟨b6, .cells #[.map (some gm)] 83 (0, 0)⟩, ⟨b5, .cells #[.slice (some ⟨bl, 0, none⟩) g.n g.n] 56 (0, 0)⟩, ⟨b1, .cells #[.slice g.a g.n g.c] 38 (0, 0)⟩] _ (perm_at2 ..) hspec (fun v I' M' h x hx => by obtain ⟨-, b, -, rfl⟩ := h; exact .tail _ hx) ?_
    rintro v I2 M2 - ⟨rfl, b, rfl, rfl⟩
    refine IdxOb.mk ⟨b, 0, none⟩ d.t.root.toNat rfl (by omega) (by omega) ?_
    refine LoadOb.mk _ (flRow_rd (.head _) hrl) ?_
    rw [hfe]
    refine AllocOb.mk fun b7 hb7 hbM7 => ?_
    refine StoreOb.to [] [flRow b (nodesF (placesL g.ds) l d.t.ns []), flRow bl l, ⟨b6, .cells #[.map (some gm)] 83 (0, 0)⟩, ⟨b5, .cells #[.slice (some ⟨bl, 0, none⟩) g.n g.n] 56 (0, 0)⟩, ⟨b1, .cells #[.slice g.a g.n g.c] 38 (0, 0)⟩] _ _ rfl rfl rfl rfl f.cells rfl ?_
    refine CodeOb.draw TrydEOK rfl rfl rfl ?_
    refine LoadOb.mk f.cells (blk_rd0 (by simp)) ?_
    refine LoadOb.mk _ (rd5 (by simp)) ?_
    refine IdxOb.mk ⟨bl, 0, none⟩ i rfl rfl hlt ?_
    refine LoadOb.mk _ (flRow_rd (by simp) hil) ?_
    refine BinOb.neF (p := f) (q := l[i]) ?_
    refine CondOb.mk (fun h => ?_) (fun h => ?_)
    · refine LoadOb.mk _ (rd5 (by simp)) ?_
      refine LoadOb.mk f.cells (blk_rd0 (by simp)) ?_
      refine IdxOb.mk ⟨bl, 0, none⟩ i rfl rfl hlt ?_
      refine StoreOb.addTo [(⟨b7, .cells f.cells.toArray 55 (0, 0)⟩ : Blk), flRow b (nodesF (placesL g.ds) l d.t.ns [])] [⟨b6, .cells #[.map (some gm)] 83 (0, 0)⟩, ⟨b5, .cells #[.slice (some ⟨bl, 0, none⟩) g.n g.n] 56 (0, 0)⟩, ⟨b1, .cells #[.slice g.a g.n g.c] 38 (0, 0)⟩] (l.flatMap Fl.cells) _ rfl (ble_row hil) rfl ((l.set i f).flatMap Fl.cells) (by rw [Nat.zero_add]; exact flRow_set l i hil f) ?_
      refine ArithOb.mk _ (next_wr (i := i) (by omega)) ?_
      refine ⟨(i + 1, l.set i f), ⟨⟨by simp only; omega, hP', hle.trans hle', hgo'⟩, by simp only; omega⟩, .sub (M1 := [flRow bl (l.set i f), ⟨b6, .cells #[.map (some gm)] 83 (0, 0)⟩, ⟨b5, .cells #[.slice (some ⟨bl, 0, none⟩) g.n g.n] 56 (0, 0)⟩, ⟨b1, .cells #[.slice g.a g.n g.c] 38 (0, 0)⟩]) (by exact .cons _ (.cons _ (.refl _))) (.perm (perm_at2 ..).symm .refl), .cons .refl (.cons .refl (.cons .refl (.cons (sv_lit (more h).symm) (.cons .refl (.cons .refl (.cons .refl .nil)))))), .nil⟩
    · have he : l.set i f = l := same h
      rw [he] at hgo'
      refine ArithOb.mk _ (next_wr (i := i) (by omega)) ?_
      exact ⟨(i + 1, l), ⟨⟨by simp only; omega, hP, hle, hgo'⟩, by simp only; omega⟩, .sub (M1 := [flRow bl l, ⟨b6, .cells #[.map (some gm)] 83 (0, 0)⟩, ⟨b5, .cells #[.slice (some ⟨bl, 0, none⟩) g.n g.n] 56 (0, 0)⟩, ⟨b1, .cells #[.slice g.a g.n g.c] 38 (0, 0)⟩]) (by exact .cons _ (.cons _ (.refl _))) (.perm (perm_at2 ..).symm .refl), .cons .refl (.cons .refl (.cons .refl (.cons .refl (.cons .refl (.cons .refl (.cons .refl .nil)))))), .nil⟩
  · refine AllocOb.mk fun b7 hb7 hbM7 => ?_
    refine PCallOb.mkR [flRow bl l] [(⟨b7, .cells fl0.cells.toArray 55 (0, 0)⟩ : Blk), ⟨b6, .cells #[.map (some gm)] 83 (0, 0)⟩, ⟨b5, .cells #[.slice (some ⟨bl, 0, none⟩) g.n g.n] 56 (0, 0)⟩, ⟨b1, .cells #[.slice g.a g.n g.c] 38 (0, 0)⟩] _ (perm_at3 ..) hspec (fun v I' M' h x hx => by obtain ⟨-, b, -, rfl⟩ := h; exact .tail _ hx) ?_
    rintro v I2 M2 - ⟨rfl, b, rfl, rfl⟩
    refine IdxOb.mk ⟨b, 0, none⟩ d.t.root.toNat rfl (by omega) (by omega) ?_
    refine LoadOb.mk _ (flRow_rd (.head _) hrl) ?_
    rw [hfe]
    refine StoreOb.to [flRow b (nodesF (placesL g.ds) l d.t.ns []), flRow bl l] [⟨b6, .cells #[.map (some gm)] 83 (0, 0)⟩, ⟨b5, .cells #[.slice (some ⟨bl, 0, none⟩) g.n g.n] 56 (0, 0)⟩, ⟨b1, .cells #[.slice g.a g.n g.c] 38 (0, 0)⟩] _ _ rfl rfl rfl rfl f.cells rfl ?_
    refine CodeOb.draw TrydEOK rfl rfl rfl ?_
    refine LoadOb.mk f.cells (blk_rd0 (by simp)) ?_
    refine LoadOb.mk _ (rd5 (by simp)) ?_
    refine IdxOb.mk ⟨bl, 0, none⟩ i rfl rfl hlt ?_
    refine LoadOb.mk _ (flRow_rd (by simp) hil) ?_
    refine BinOb.neF (p := f) (q := l[i]) ?_
    refine CondOb.mk (fun h => ?_) (fun h => ?_)
    · refine LoadOb.mk _ (rd5 (by simp)) ?_
      refine LoadOb.mk f.cells (blk_rd0 (by simp)) ?_
      refine IdxOb.mk ⟨bl, 0, none⟩ i rfl rfl hlt ?_
      refine StoreOb.addTo [flRow b (nodesF (placesL g.ds) l d.t.ns [])] [(⟨b7, .cells f.cells.toArray 55 (0, 0)⟩ : Blk), ⟨b6, .cells #[.map (some gm)] 83 (0, 0)⟩, ⟨b5, .cells #[.slice (some ⟨bl, 0, none⟩) g.n g.n] 56 (0, 0)⟩, ⟨b1, .cells #[.slice g.a g.n g.c] 38 (0, 0)⟩] (l.flatMap Fl.cells) _ rfl (ble_row hil) rfl ((l.set i f).flatMap Fl.cells) (by rw [Nat.zero_add]; exact flRow_set l i hil f) ?_
      refine ArithOb.mk _ (next_wr (i := i) (by omega)) ?_
      refine ⟨(i + 1, l.set i f), ⟨⟨by simp only; omega, hP', hle.trans hle', hgo'⟩, by simp only; omega⟩, .sub (M1 := [flRow bl (l.set i f), ⟨b6, .cells #[.map (some gm)] 83 (0, 0)⟩, ⟨b5, .cells #[.slice (some ⟨bl, 0, none⟩) g.n g.n] 56 (0, 0)⟩, ⟨b1, .cells #[.slice g.a g.n g.c] 38 (0, 0)⟩]) (by exact .cons _ (.cons_cons _ (.cons _ (.refl _)))) (.perm (perm_at2 ..).symm .refl), .cons .refl (.cons .refl (.cons .refl (.cons (sv_lit (more h).symm) (.cons .refl (.cons .refl (.cons .refl .nil)))))), .nil⟩
    · have he : l.set i f = l := same h
      rw [he] at hgo'
      refine ArithOb.mk _ (next_wr (i := i) (by omega)) ?_
      exact ⟨(i + 1, l), ⟨⟨by simp only; omega, hP, hle, hgo'⟩, by simp only; omega⟩, .sub (M1 := [flRow bl l, ⟨b6, .cells #[.map (some gm)] 83 (0, 0)⟩, ⟨b5, .cells #[.slice (some ⟨bl, 0, none⟩) g.n g.n] 56 (0, 0)⟩, ⟨b1, .cells #[.slice g.a g.n g.c] 38 (0, 0)⟩]) (by exact .cons _ (.cons_cons _ (.cons _ (.refl _)))) (.perm (perm_at2 ..).symm .refl), .cons .refl (.cons .refl (.cons .refl (.cons .refl (.cons .refl (.cons .refl (.cons .refl .nil)))))), .nil⟩

set_option maxHeartbeats 4000000 in
theorem FOf_spec {I : GH} {deb : List Int} (hT : Tabs I deb) {g : Gr} (hg : g.ok I) : Spec Tryd.prog 32 [g.val] I [] fun v I' M' => (∀ b o, I b = some o → I' b = some o) ∧
    ((mayG deb g ≠ 0 ∧ v = .tuple #[.slice none 0 0, .int .i64 (mayG deb g)] ∧ M' = []) ∨ (mayG deb g = 0 ∧ ∃ b l, v = .tuple #[.slice (some ⟨b, 0, none⟩) g.n g.n, .int .i64 0] ∧ M' = [flRow b l] ∧ IsFlow g.ds l)) := by
  refine spec_of_V [1, 5, 6] TrydEOK Tryd.func32 rfl rfl rfl ?_
  intro B h0
  have hgn := hg.n
  have hcap := hg.rs.cap
  refine AllocOb.mk fun b1 hb1 hbM1 => ?_
  refine LoadOb.mk [.slice g.a g.n g.c] ⟨rfl, _, _, _, .inr ⟨_, .head _, rfl, rfl⟩, rfl, rfl⟩ ?_
  refine CallOb.mk [] [⟨b1, .cells #[.slice g.a g.n g.c] 38 (0, 0)⟩] _ (.refl _) (May_spec hT hg) ?_
  rintro v I1 M1 - ⟨rfl, hI1, rfl⟩
  refine CondOb.mk (fun h => ?_) (fun h => ?_)
  · have hm : mayG deb g ≠ 0 := by simpa using h
    exact ⟨_, _, .sub (List.nil_sublist _) .refl, hI1, .inl ⟨hm, rfl, rfl⟩⟩
  have hm : mayG deb g = 0 := by simpa using h
  have hM := mayF_of hgn hm
  refine LoadOb.mk _ (blk_rd (b := b1) (cs := [.slice g.a g.n g.c]) (k := 0) (n := 1) (T := 38) (.head _) (by simp)) ?_
  refine MakeOb.mk g.n g.n rfl rfl (Nat.le_refl _) (by show 3 * g.n ≤ _; omega) (by omega) ?_
  refine AllocOb.mk fun bl hbl hbMl => ?_
  have e : rowOf fl0.cells (g.n * 3) = (List.replicate g.ds.length fl0).flatMap Fl.cells := by rw [hgn]; exact rowOf_fl g.n
  refine AllocOb.mk fun b5 hb5 hbM5 => ?_
  refine StoreOb.to [] _ _ _ rfl rfl rfl rfl [.slice (some ⟨bl, 0, none⟩) g.n g.n] rfl ?_
  refine LoadOb.mk [.slice g.a g.n g.c] ⟨rfl, _, _, _, .inr ⟨_, .tail _ (.tail _ (.head _)), rfl, rfl⟩, rfl, rfl⟩ ?_
  refine CallOb.mk [] _ _ (.refl _) (places_spec (hg.mono hI1)) ?_
  rintro v I2 M2 - ⟨hI2, rfl, gm, rfl, hgm⟩
  refine AllocOb.mk fun b6 hb6 hbM6 => ?_
  refine StoreOb.to [] _ _ _ rfl rfl rfl rfl [.map (some gm)] rfl ?_
  refine LoopOb.inv (ι := List Fl) (fun l => { fl := [(5, .val (ptr b5)), (7, .val (.func (.func 50) #[] #[ptr b1, ptr b6, ptr b5]))], gi := I2, mi := ofM b6 gm b5 bl b1 g l }) (PreF g.ds) offs ?_ ?_
  · refine ⟨List.replicate g.ds.length fl0, .start g.ds, ?_, .cons .refl (.cons .refl .nil), .nil⟩
    simp only [ofM, flRow]
    rw [← e]
    exact .refl
  intro l hl
  refine CallOb.mk (ofM b6 gm b5 bl b1 g l) [] _ (.refl _) (Of1_spec ((hg.mono hI1).mono hI2) hM hgm hl) ?_
  rintro v I3 M3 - ⟨rfl, rfl, rfl⟩
  obtain ⟨r1, r2, -⟩ := roundGo_pre g.ds [] rfl hl
  refine CondOb.mk (fun h => ?_) (fun h => ?_)
  · exact ⟨_, ⟨r1, offs_lt r2 (of_decide_eq_true h)⟩, .refl, .cons .refl (.cons .refl .nil), .nil⟩
  · have hf : roundGo (placesL g.ds) 0 g.ds l = l := by
      have := of_decide_eq_false h
      exact Classical.not_not.1 this
    rw [hf]
    refine LoadOb.mk [.slice (some ⟨bl, 0, none⟩) g.n g.n] ⟨rfl, _, _, _, .inr ⟨_, .tail _ (.head _), rfl, rfl⟩, rfl, rfl⟩ ?_
    refine ⟨I3, [flRow bl l], .sub (.cons _ (.cons _ (.cons_cons _ (List.nil_sublist _)))) .refl, fun b o h => hI2 _ _ (hI1 _ _ h), .inr ⟨hm, bl, l, rfl, rfl, hl.done hf⟩⟩
end Go.V

/-
  Plain: what is told of trees and grammars hangs on what they hold, not on where it lies. No program in sight.
-/
set_option linter.unusedVariables false
set_option linter.unusedSimpArgs false
namespace Go.V
open Go

def Tr.ct (t : Tr) : Tr := ⟨t.ns.map Nd.ct, none, t.n, 0, t.root⟩
def Df.ct (d : Df) : Df := ⟨d.name, d.t.ct⟩
def Gr.ct (g : Gr) : Gr := ⟨g.ds.map Df.ct, none, g.n, 0⟩

theorem nodesOk_ct : ∀ (ds : List Nd) (i : Nat) (s : List Bool), nodesOk i (ds.map Nd.ct) s = nodesOk i ds s
  | [], i, s => rfl
  | d :: ds, i, s => by
    have h : ∀ s', nodesOk (i + 1) (ds.map Nd.ct) s' = nodesOk (i + 1) ds s' := fun s' => nodesOk_ct ds (i + 1) s'
    rw [List.map_cons, nodesOk, nodesOk]
    simp only [h]
    rfl
theorem right_ct (t : Tr) : right t.ct = right t := by
  unfold right Tr.ct
  simp only [nodesOk_ct, List.length_map]
theorem kindAt_ct (ns : List Nd) (k : Int) : kindAt (ns.map Nd.ct) k = kindAt ns k := by
  unfold kindAt
  rw [List.map_map]
  rfl
theorem normKids_ct (ns : List Nd) (kind : Int) : ∀ ks, normKids (ns.map Nd.ct) kind ks = normKids ns kind ks
  | [] => rfl
  | k :: ks => by rw [normKids, normKids, kindAt_ct, normKids_ct ns kind ks]
theorem normNodes_ct (ns : List Nd) : ∀ ds : List Nd, normNodes (ns.map Nd.ct) (ds.map Nd.ct) = normNodes ns ds
  | [] => rfl
  | d :: ds => by
    have h := normKids_ct ns d.k d.kids
    rw [List.map_cons, normNodes, normNodes, normNodes_ct ns ds]
    show (bif !decide (d.k = 4) && !decide (d.k = 5) then normNodes ns ds else bif normKids (ns.map Nd.ct) d.k d.kids then normNodes ns ds else false) = _
    rw [h]
theorem normal_ct (t : Tr) : normal t.ct = normal t := by
  unfold normal
  rw [right_ct]
  congr 1
  exact normNodes_ct t.ns t.ns
theorem depthsFrom_ct : ∀ (ds : List Nd) (i : Nat) (dp : List Int), depthsFrom i (ds.map Nd.ct) dp = depthsFrom i ds dp
  | [], i, dp => rfl
  | d :: ds, i, dp => by
    rw [List.map_cons, depthsFrom, depthsFrom, depthsFrom_ct ds]
    rfl
theorem depth_ct (t : Tr) : depth t.ct = depth t := by
  unfold depth
  rw [right_ct]
  simp only [Tr.ct, depthsFrom_ct, List.length_map]
theorem mayTree_ct (t : Tr) : mayTree t.ct = mayTree t := by
  unfold mayTree
  rw [right_ct, depth_ct]
  rfl
theorem tab_ct {α : Type} {z : α} {f g : Nd → (Int → α) → α} (h : ∀ d q, f d.ct q = g d q) : ∀ (ds : List Nd) (acc : List α), tab z f (ds.map Nd.ct) acc = tab z g ds acc
  | [], acc => rfl
  | d :: ds, acc => by rw [List.map_cons, tab, tab, h, tab_ct h ds]
theorem textOf_ct (deb : List Int) (ns : List Nd) (k : Int) : textOf deb (ns.map Nd.ct) k = textOf deb ns k := by
  unfold textOf tabOf
  rw [tab_ct (g := nodeT deb ns) (fun d q => ?_)]
  show aheadB deb d ++ (kidsT (sepOf d) (fun k => paren (wrapsV d.k (kindAt (ns.map Nd.ct) k)) (q k)) false d.kids ++ behindB d) = _
  simp only [kindAt_ct]
  rfl
theorem treeB_ct (deb : List Int) (t : Tr) : treeB deb t.ct = treeB deb t := by
  unfold treeB
  rw [right_ct]
  have : textOf deb t.ct.ns t.ct.root = textOf deb t.ns t.root := textOf_ct deb t.ns t.root
  rw [this]
theorem defB_ct (deb : List Int) (d : Df) : defB deb d.ct = defB deb d := by
  unfold defB
  have : treeB deb d.ct.t = treeB deb d.t := treeB_ct deb d.t
  rw [this]
  rfl
theorem gramB_ct (deb : List Int) : ∀ (ds : List Df) (acc : List UInt8), gramB deb (ds.map Df.ct) acc = gramB deb ds acc
  | [], acc => rfl
  | d :: ds, acc => by rw [List.map_cons, gramB, gramB, defB_ct, gramB_ct deb ds]
theorem nodesG_ct (g : Gr) : nodesG g.ct = nodesG g := by
  unfold nodesG Gr.ct
  rw [List.map_map]
  congr 1
  refine List.map_congr_left fun d _ => ?_
  show sizeT d.t.ct = sizeT d.t
  unfold sizeT
  rw [right_ct]
  rfl
theorem all_ct {q : Df → Bool} (h : ∀ d, q d.ct = q d) (ds : List Df) : (ds.map Df.ct).all q = ds.all q := by
  rw [List.all_map]
  congr 1
  funext d
  exact h d
theorem largeG_ct (deb : List Int) (g : Gr) : largeG deb g.ct = largeG deb g := by
  unfold largeG
  rw [nodesG_ct]
  have h1 : (g.ct.ds.all fun d => mayTree d.t) = g.ds.all fun d => mayTree d.t := all_ct (fun d => mayTree_ct d.t) g.ds
  have h2 : gramB deb g.ct.ds [] = gramB deb g.ds [] := gramB_ct deb g.ds []
  rw [h1, h2]
  rfl
theorem okDefs_ct (ds : List Df) : okDefs (ds.map Df.ct) = okDefs ds := all_ct (q := fun d => mayName d.name && normal d.t) (fun d => by
  show (mayName d.name && normal d.t.ct) = _
  rw [normal_ct]) ds
theorem dups_ct : ∀ (ds : List Df) (acc : List (ByteArray × Int)) (i : Nat), dups acc i (ds.map Df.ct) = dups acc i ds
  | [], acc, i => rfl
  | d :: ds, acc, i => by
    rw [List.map_cons, dups, dups]
    show (bif (lookM d.name acc).isSome then none else dups (acc ++ [(d.name, (i : Int))]) (i + 1) (ds.map Df.ct)) = _
    rw [dups_ct ds]
theorem pairs_ct : ∀ (ds : List Df) (i : Nat), nodePairs i (ds.map Df.ct) = (nodePairs i ds).map fun p => (p.1, p.2.ct)
  | [], i => rfl
  | d :: ds, i => by
    rw [List.map_cons, nodePairs, nodePairs, pairs_ct ds, List.map_append, List.map_map]
    show (d.t.ns.map Nd.ct).map (fun n => (i, n)) ++ _ = _
    rw [List.map_map]
    rfl
theorem allNamed_ct (acc : List (ByteArray × Int)) (ds : List Df) : allNamed acc (ds.map Df.ct) = allNamed acc ds := by
  unfold allNamed
  rw [pairs_ct, List.all_map]
  rfl
theorem mayG_ct (deb : List Int) (g : Gr) : mayG deb g.ct = mayG deb g := by
  unfold mayG
  rw [largeG_ct]
  have h1 : okDefs g.ct.ds = okDefs g.ds := okDefs_ct g.ds
  have h2 : dups [] 0 g.ct.ds = dups [] 0 g.ds := dups_ct g.ds [] 0
  have h3 : ∀ acc, allNamed acc g.ct.ds = allNamed acc g.ds := fun acc => allNamed_ct acc g.ds
  rw [h1, h2]
  simp only [h3]
  rfl

/-! ### Subtrees -/
theorem nodeAt_ct (ns : List Nd) (j : Nat) : (nodeAt (ns.map Nd.ct) j).ct = (nodeAt ns j).ct := by
  unfold nodeAt
  simp only [List.getD_eq_getElem?_getD, List.getElem?_map]
  cases ns[j]? <;> rfl
theorem kids_ct (ns : List Nd) (j : Nat) : (nodeAt (ns.map Nd.ct) j).kids = (nodeAt ns j).kids := by
  have h := congrArg Nd.kids (nodeAt_ct ns j)
  exact h
theorem backGo_ct (ns : List Nd) : ∀ (f : Nat) (todo b : List Int), backGo (ns.map Nd.ct) f todo b = backGo ns f todo b
  | 0, todo, b => rfl
  | f + 1, todo, b => by
    unfold backGo
    cases todo.getLast? with
    | none => rfl
    | some n =>
      simp only
      rw [kids_ct, backGo_ct ns f]
theorem withKids_ct (d : Nd) (l : List Int) : d.ct.withKids l = d.withKids l := rfl
theorem subStep_ct (ns : List Nd) : subStep (ns.map Nd.ct) = subStep ns := by
  funext st b
  unfold subStep
  rw [kids_ct, ← withKids_ct (nodeAt (ns.map Nd.ct) b.toNat), nodeAt_ct, withKids_ct]
theorem subC_ct (ns : List Nd) (node : Int) : subC (ns.map Nd.ct) node = subC ns node := by
  unfold subC backOf
  rw [subStep_ct, backGo_ct, List.length_map]

/-! ### Flows -/
theorem nodesF_ct (pl : List (ByteArray × Int)) (fl : List Fl) : ∀ (ds : List Nd) (acc : List Fl), nodesF pl fl (ds.map Nd.ct) acc = nodesF pl fl ds acc
  | [], acc => rfl
  | d :: ds, acc => by
    rw [List.map_cons, nodesF, nodesF, nodesF_ct pl fl ds]
    rfl
theorem namedOk_ct (pl : List (ByteArray × Int)) (ns : List Nd) : namedOk pl (ns.map Nd.ct) = namedOk pl ns := by
  unfold namedOk
  rw [List.all_map]
  rfl
theorem placesGo_ct : ∀ (ds : List Df) (acc : List (ByteArray × Int)) (i : Nat), placesGo acc i (ds.map Df.ct) = placesGo acc i ds
  | [], acc, i => rfl
  | d :: ds, acc, i => by
    rw [List.map_cons, placesGo, placesGo, placesGo_ct ds]
    rfl
theorem placesL_ct (ds : List Df) : placesL (ds.map Df.ct) = placesL ds := placesGo_ct ds [] 0
theorem bodyF_ct (pl : List (ByteArray × Int)) (fl : List Fl) (d : Df) : bodyF pl fl d.ct = bodyF pl fl d := by
  unfold bodyF
  have : nodesF pl fl d.ct.t.ns [] = nodesF pl fl d.t.ns [] := nodesF_ct pl fl d.t.ns []
  rw [this]
  rfl
theorem isFlow_ct {ds : List Df} {l : List Fl} (h : IsFlow ds l) : IsFlow (ds.map Df.ct) l := by
  refine ⟨by rw [h.len, List.length_map], fun i hi => ?_, fun m hm hc => ?_⟩
  · have hi' : i < ds.length := by simpa using hi
    rw [placesL_ct, List.getElem_map, bodyF_ct]
    exact h.fix i hi'
  · refine h.least m (by rw [hm, List.length_map]) fun i hi => ?_
    have := hc i (by simpa using hi)
    rwa [placesL_ct, List.getElem_map, bodyF_ct] at this
theorem nodesP_ct (g : Gr) (fl : List Fl) (t : Tr) : nodesP g.ct fl t.ct = nodesP g fl t := by
  unfold nodesP
  rw [right_ct]
  have h1 : placesL g.ct.ds = placesL g.ds := placesL_ct g.ds
  have h2 : ∀ pl, namedOk pl t.ct.ns = namedOk pl t.ns := fun pl => namedOk_ct pl t.ns
  have h3 : ∀ pl, nodesF pl fl t.ct.ns [] = nodesF pl fl t.ns [] := fun pl => nodesF_ct pl fl t.ns []
  rw [h1, h2, h3]
  rfl
theorem treeP_ct (g : Gr) (fl : List Fl) (t : Tr) : treeP g.ct fl t.ct = treeP g fl t := by
  unfold treeP
  rw [nodesP_ct]
  rfl

/-! ### A tree, by what it holds -/
def trOf (l : List Nd) : Tr := ⟨l, none, l.length, 0, (l.length : Int) - 1⟩
/-- A tree in memory that holds these nodes. -/
structure TC (I : GH) (t : Tr) (l : List Nd) : Prop where
  ok : t.ok I
  ct : t.ns.map Nd.ct = l
  root : t.root = (l.length : Int) - 1
theorem TC.mono {I I' : GH} {t : Tr} {l : List Nd} (h : TC I t l) (hI : ∀ b o, I b = some o → I' b = some o) : TC I' t l := ⟨h.ok.mono hI, h.ct, h.root⟩
theorem TC.len {I : GH} {t : Tr} {l : List Nd} (h : TC I t l) : t.n = l.length := by
  rw [← h.ok.n, ← h.ct, List.length_map]
theorem TC.tr {I : GH} {t : Tr} {l : List Nd} (h : TC I t l) : t.ct = trOf l := by
  unfold Tr.ct trOf
  rw [h.ct, h.root, h.len]
theorem TC.right {I : GH} {t : Tr} {l : List Nd} (h : TC I t l) : right t = right (trOf l) := by rw [← h.tr, right_ct]
theorem TC.leaf {I : GH} {t : Tr} {d : Nd} (ht : t.ok I) (h1 : t.ns = [d]) (h2 : t.root = 0) (hd : d.ct = d) : TC I t [d] := ⟨ht, by rw [h1]; simp [hd], by rw [h2]; rfl⟩
def cleanL (l : List Nd) : List Nd := subC l ((l.length : Int) - 1)
theorem TC.clean {I : GH} {t : Tr} {l : List Nd} (h : TC I t l) : cleanC t = cleanL l := by
  unfold cleanC cleanL
  rw [← subC_ct, h.ct, h.root]
def kidsB (l : List Nd) (m : Nat) : Bool := decide (l.length ≤ m) && l.all fun d => decide (d.kids.length ≤ m)
theorem TC.fit {I : GH} {t : Tr} {l : List Nd} (h : TC I t l) (hk : kidsB l 1000 = true) : Fit t 1000 := by
  simp only [kidsB, Bool.and_eq_true, decide_eq_true_eq, List.all_eq_true] at hk
  have hl := h.len
  refine ⟨fun d hd => ?_, by rw [hl]; omega, by omega⟩
  have hdn := (h.ok.ns d hd).kn
  have : d.ct ∈ l := by rw [← h.ct]; exact List.mem_map.2 ⟨d, hd, rfl⟩
  have := hk.2 _ this
  show d.kn ≤ 1000
  rw [← hdn]
  exact this
end Go.V

/-
  Walks: tree.Set; bonsailaw10.of, grammar, leaf.
-/
set_option linter.unusedVariables false
set_option linter.unusedSimpArgs false
namespace Go.V
open Go Go.Proofs

def cB (c : UInt8) : ByteArray := ⟨#[c]⟩
def nB : ByteArray := ⟨#[]⟩
def setNd (a b c d : Int) : Nd := ⟨1, a, b, c, d, ⟨#[]⟩, 0, 0, none, 0, 0, []⟩
def opNd (k : Int) (s : ByteArray) (lo hi : Int) : Nd := ⟨k, 0, 0, 0, 0, s, lo, hi, none, 0, 0, []⟩
theorem opNd_ok {I : GH} {k : Int} {s : ByteArray} {lo hi : Int} (hk : 0 ≤ k ∧ k < 256) (hs : s.size ≤ 140737488355328) (h1 : i64ok lo) (h2 : i64ok hi) : (opNd k s lo hi).ok I :=
  ⟨hk, u0, u0, u0, u0, by show s.size ≤ _; omega, h1, h2, ⟨rfl, ⟨Nat.le_refl _, by show 0 * 8 ≤ _; omega⟩, .inl rfl⟩, fun x hx => by cases hx⟩
set_option maxRecDepth 20000 in
theorem TSet_spec {I : GH} {a b c d : Int} (ha : u64ok a) (hb : u64ok b) (hc : u64ok c) (hd : u64ok d) : Spec Tryd.prog 25 [.agg #[.int .u64 a, .int .u64 b, .int .u64 c, .int .u64 d]] I [] fun v I' M' => (∀ b o, I b = some o → I' b = some o) ∧ ∃ t : Tr, v = t.val ∧ t.ok I' ∧ t.ns = [setNd a b c d] ∧ t.root = 0 ∧ M' = [] := by
  refine spec_of_V [] TrydEOK Tryd.func25 rfl rfl rfl ?_
  intro B h0
  have hok : (setNd a b c d).ok I := ⟨⟨by show (0 : Int) ≤ 1; decide, by show (1 : Int) < 256; decide⟩, ha, hb, hc, hd, by show (0 : Nat) ≤ _; decide, i0, i0, ⟨rfl, ⟨Nat.le_refl _, by show 0 * 8 ≤ _; omega⟩, .inl rfl⟩, fun x hx => by cases hx⟩
  have hl := leaf_spec (I := I) hok
  have hv : (setNd a b c d).val = .agg #[.int .u8 1, .int .u64 a, .int .u64 b, .int .u64 c, .int .u64 d, .string ⟨#[]⟩, .int .i64 0, .int .i64 0, .slice none 0 0] := rfl
  rw [hv] at hl
  refine CallOb.mk [] [] _ (.refl _) hl ?_
  rintro v I' M' - ⟨hI, t, rfl, ht, h1, h2, rfl⟩
  exact ⟨_, _, .refl, hI, t, rfl, ht, h1, h2, rfl⟩

/-! ### Kids' rows -/
def kidsBlk (b : Nat) (ts : List Tr) : Blk := ⟨b, .cells (ts.flatMap Tr.cells).toArray 25 (0, 0)⟩
theorem kidsBlk_rd {I : GH} {M : List Blk} {b : Nat} {ts : List Tr} (hM : kidsBlk b ts ∈ M) : ∀ j (h : j < ts.length), ∃ ad, some (⟨b, 0, none⟩ : Addr) = some ad ∧ Rd I M (ad.add (j * 2)) 2 ts[j].cells := fun j hj => by
  refine ⟨_, rfl, ?_⟩
  have hl := flat_len Tr.cells 2 (fun _ => rfl) ts
  have h := blk_rd (I := I) (cs := ts.flatMap Tr.cells) (k := j * 2) (n := 2) hM (by rw [hl]; omega)
  rwa [flat_at Tr.cells 2 (fun _ => rfl) ts j hj] at h
def ofB (d : Nd) (ls : List (List Nd)) : Bool := fits d ls.length && (decide (ls.length ≤ 1000) && ls.all fun l => right (trOf l) && kidsB l 1000)
def ofL (d : Nd) (ls : List (List Nd)) : List Nd := ofNds d (ls.map cleanL)
theorem of10_spec {I : GH} {M0 : List Blk} {d : Nd} (hd : d.ok I) {ts : List Tr} {ls : List (List Nd)} (hL : ∀ j (h : j < ts.length) (h' : j < ls.length), TC I ts[j] ls[j]) (hlen : ts.length = ls.length) {ka : Option Addr} {cc : Nat}
    (hrd : ∀ j (h : j < ts.length), ∃ ad, ka = some ad ∧ Rd I M0 (ad.add (j * 2)) 2 ts[j].cells) (hchk : ofB d ls = true) :
    Spec Tryd.prog 26 [d.val, .slice ka ts.length cc] I M0 fun v I' M' => (∀ b o, I b = some o → I' b = some o) ∧ M' = M0 ∧ ∃ t' : Tr, v = t'.val ∧ TC I' t' (ofL d ls) := by
  simp only [ofB, Bool.and_eq_true, decide_eq_true_eq, List.all_eq_true] at hchk
  obtain ⟨hf, hl, hr⟩ := hchk
  have each : ∀ t ∈ ts, ∃ l ∈ ls, TC I t l := fun t ht => by
    obtain ⟨j, hj, rfl⟩ := List.getElem_of_mem ht
    exact ⟨ls[j]'(by omega), List.getElem_mem _, hL j hj (by omega)⟩
  have hcl : ts.map cleanC = ls.map cleanL := by
    apply List.ext_getElem (by simp [hlen])
    intro j h1 h2
    simp only [List.getElem_map]
    exact (hL j (by simpa using h1) (by simpa using h2)).clean
  have hspec := ROf_gen (W := 1000) hd (L := ts) (ka := ka) (cc := cc) hrd (fun t ht => by
    obtain ⟨l, hl1, hl2⟩ := each t ht
    exact ⟨hl2.ok, by rw [hl2.right]; exact (hr l hl1).1⟩) (fun t ht => by
    obtain ⟨l, hl1, hl2⟩ := each t ht
    exact hl2.fit (hr l hl1).2) (by
    have h1 := sum_take_le (fun t : Tr => t.n) 1000 ts (fun t ht => by
      obtain ⟨l, hl1, hl2⟩ := each t ht
      have h2 := (hr l hl1).2
      simp only [kidsB, Bool.and_eq_true, decide_eq_true_eq] at h2
      rw [hl2.len]
      exact h2.1)
    have : (1000 : Nat) * ts.length ≤ 1000 * 1000 := Nat.mul_le_mul_left _ (by omega)
    omega) (by omega) (by rw [hlen]; exact hf)
  refine spec_of_V [] TrydEOK Tryd.func26 rfl rfl rfl ?_
  intro B h0
  refine CallOb.mk M0 [] _ perm_nil hspec ?_
  rintro v I' M' - ⟨hI, rfl, t', rfl, h1, h2, h3⟩
  rw [List.append_nil]
  refine ⟨_, _, .refl, hI, rfl, t', rfl, h1, ?_, ?_⟩
  · rw [h3, hcl]
    rfl
  · rw [h2]
    unfold ofL
    rw [← hcl, ← h3, List.length_map]
theorem grammar10_spec {I : GH} {M : List Blk} {a : Option Addr} {n c : Nat} : Spec Tryd.prog 29 [.slice a n c] I M fun v I' M' => v = .agg #[.slice a n c] ∧ I' = I ∧ M' = M := by
  refine spec_of_V [] TrydEOK Tryd.func29 rfl rfl rfl ?_
  intro B h0
  exact ⟨_, _, .refl, rfl, rfl, rfl⟩

/-- A rule's row, of the function's own. -/
def defsBlk (b : Nat) (ds : List Df) : Blk := ⟨b, .cells (ds.flatMap Df.cells).toArray 35 (0, 0)⟩
theorem defsBlk_gr {I : GH} {b n : Nat} {ds : List Df} (hn : ds.length = n) (hb : n ≤ 1000) (hI : I b = none) (h : ∀ d ∈ ds, d.ok I) : Gr.ok (ins I b (defsBlk b ds).obj) ⟨ds, some ⟨b, 0, none⟩, n, n⟩ := by
  subst hn
  refine ⟨⟨flat_len _ 3 Df.cells_len ds, ⟨Nat.le_refl _, by simp only; omega⟩, .inr ⟨_, rfl, rfl, _, _, _, ins_self .., ?_⟩⟩, fun d hd => (h d hd).mono (ins_le hI)⟩
  simp only [List.drop_zero]
  exact List.take_of_length_le (by rw [flat_len _ 3 Df.cells_len ds]; exact Nat.le_refl _)

/-- What comes of an expression, in a grammar of one rule that has no flow. -/
def xPl : List (ByteArray × Int) := [(cB 120, 0)]
def leafV (l : List Nd) : Fl := bif right (trOf l) && namedOk xPl l then (nodesF xPl [fl0] l []).getD ((l.length : Int) - 1).toNat fl0 else fl0
theorem leafV_eq {I : GH} {t : Tr} {l : List Nd} (h : TC I t l) (g : Gr) (hn : g.n = 1) (hp : placesL g.ds = xPl) : (treeP g [fl0] t).getD fl0 = leafV l := by
  unfold treeP nodesP leafV
  rw [hn, hp, h.right, ← h.ct, namedOk_ct]
  simp only [List.length_cons, List.length_nil, decide_true, Bool.true_and]
  rw [h.ct]
  cases hb : right (trOf l) && namedOk xPl t.ns with
  | false => rfl
  | true =>
    simp only [cond_true, Option.map_some, Option.getD_some]
    rw [← h.root, ← nodesF_ct xPl [fl0] t.ns, h.ct]

set_option maxRecDepth 100000 in
set_option maxHeartbeats 8000000 in
theorem leaf10_spec {I : GH} (hT : Tabs I debL) {t : Tr} {l : List Nd} (ht : TC I t l) : Spec Tryd.prog 27 [t.val] I [] fun v I' M' => (∀ b o, I b = some o → I' b = some o) ∧ M' = [] ∧ v = (leafV l).val := by
  refine spec_of_V [] TrydEOK Tryd.func27 rfl rfl rfl ?_
  intro B h0
  refine CodeOb.drawC TrydEOK rfl rfl rfl (ι := Nat × GH) (fun x => { fl := [(2, .ref 2 0), (3, .val (ptr x.1))], cl := [(2, fl0.cells)], gi := x.2, mi := [⟨x.1, .cells (leafV l).cells.toArray 55 (0, 0)⟩] }) (fun x => ∀ b o, I b = some o → x.2 b = some o) ?_ ?_
  rotate_left
  · rintro ⟨b3, J⟩ hJ
    refine LoadOb.mk (leafV l).cells (blk_rd0 (.head _)) ?_
    exact ⟨_, _, .sub (List.nil_sublist _) .refl, hJ, rfl, rfl⟩
  refine ⟨?_, ?_, ?_⟩
  · refine PCallOb.mk _ (Rule_spec (s := cB 120) (by decide)) ?_
    rintro v I1 M1 hI1 ⟨-, tx, rfl, htx, nx, rx, rfl⟩
    refine ⟨?_, ?_, ?_⟩
    · refine AllocOb.mk fun b2 hb2 hbM2 => ?_
      refine ⟨?_, ?_, ?_⟩
      · refine PCallOb.mk _ (grammar10_spec (M := [])) ?_
        rintro v I2 M2 - ⟨rfl, rfl, rfl⟩
        refine ⟨?_, ?_⟩
        · refine MakeOb.mk 1 1 rfl rfl (Nat.le_refl _) (by decide) (by decide) ?_
          refine AllocOb.mk fun b4 hb4 hbM4 => ?_
          refine ⟨?_, ?_⟩
          · refine CallOb.fa fun hfa => ?_
            have hb2 := hfa.d (defsBlk b2 [⟨cB 120, tx⟩]) (show _ ∈ ([flRow b4 [fl0], defsBlk b2 [⟨cB 120, tx⟩]] : List Blk) by simp)
            have hins := ins_le (o := (defsBlk b2 [⟨cB 120, tx⟩]).obj) hb2
            have hg : Gr.ok _ ⟨[⟨cB 120, tx⟩], some ⟨b2, 0, none⟩, 1, 1⟩ := defsBlk_gr rfl (by decide) hb2 (fun d hd => by simp only [List.mem_singleton] at hd; subst hd; exact ⟨(by decide : (cB 120).size ≤ 140737488355328), htx⟩)
            have hsp := FTree_spec (M0 := [flRow b4 [fl0]]) (lc := 1) ((hT.mono hI1).mono hins) hg ((ht.mono hI1).mono hins).ok (flRow_at (l := [fl0]) (List.mem_singleton.2 rfl))
            rw [leafV_eq ((ht.mono hI1).mono hins) ⟨[⟨cB 120, tx⟩], some ⟨b2, 0, none⟩, 1, 1⟩ rfl rfl] at hsp
            refine CallOb.mkW _ [flRow b4 [fl0]] [] _ (.perm (M1 := defsBlk b2 [⟨cB 120, tx⟩] :: ([flRow b4 [fl0]] ++ [])) (by first | exact .refl _ | exact .swap _ _ _ | exact (.cons _ (.swap _ _ _)) | exact (.trans (.swap _ _ _) (.cons _ (.swap _ _ _))) | exact (.trans (.cons _ (.swap _ _ _)) (.swap _ _ _)) | exact .trans (.swap _ _ _) (.trans (.cons _ (.swap _ _ _)) (.swap _ _ _))) (.prom rfl (by simp) .refl)) hsp ?_
            rintro v I3 M3 hI3 - ⟨-, rfl, rfl⟩
            refine AllocOb.mk fun b3 hb3 hbM3 => ?_
            refine StoreOb.to [] _ _ _ rfl rfl rfl rfl (leafV l).cells rfl ?_
            exact ⟨(b3, _), fun b o h => hI3 _ _ (hins _ _ (hI1 _ _ (h))), .sub (.cons_cons _ (List.nil_sublist _)) .refl, .cons .refl (.cons .refl .nil), .cons rfl .nil⟩
          · refine AllocOb.mk fun b3 hb3 hbM3 => ?_
            refine PCallOb.fa fun hfa => ?_
            have hb2 := hfa.d (defsBlk b2 [⟨cB 120, tx⟩]) (show _ ∈ ([(⟨b3, .cells fl0.cells.toArray 55 (0, 0)⟩ : Blk), flRow b4 [fl0], defsBlk b2 [⟨cB 120, tx⟩]] : List Blk) by simp)
            have hins := ins_le (o := (defsBlk b2 [⟨cB 120, tx⟩]).obj) hb2
            have hg : Gr.ok _ ⟨[⟨cB 120, tx⟩], some ⟨b2, 0, none⟩, 1, 1⟩ := defsBlk_gr rfl (by decide) hb2 (fun d hd => by simp only [List.mem_singleton] at hd; subst hd; exact ⟨(by decide : (cB 120).size ≤ 140737488355328), htx⟩)
            have hsp := FTree_spec (M0 := [flRow b4 [fl0]]) (lc := 1) ((hT.mono hI1).mono hins) hg ((ht.mono hI1).mono hins).ok (flRow_at (l := [fl0]) (List.mem_singleton.2 rfl))
            rw [leafV_eq ((ht.mono hI1).mono hins) ⟨[⟨cB 120, tx⟩], some ⟨b2, 0, none⟩, 1, 1⟩ rfl rfl] at hsp
            refine PCallOb.mkP b2 (defsBlk b2 [⟨cB 120, tx⟩]).obj [flRow b4 [fl0]] [(⟨b3, .cells fl0.cells.toArray 55 (0, 0)⟩ : Blk)] _ (by first | exact .refl _ | exact .swap _ _ _ | exact (.cons _ (.swap _ _ _)) | exact (.trans (.swap _ _ _) (.cons _ (.swap _ _ _))) | exact (.trans (.cons _ (.swap _ _ _)) (.swap _ _ _)) | exact .trans (.swap _ _ _) (.trans (.cons _ (.swap _ _ _)) (.swap _ _ _))) (by simp) hsp (fun v I' M' h x hx => by rw [h.2.1]; exact hx) ?_
            rintro v I3 M3 hI3 - ⟨-, rfl, rfl⟩
            refine StoreOb.to [flRow b4 [fl0]] _ _ _ rfl rfl rfl rfl (leafV l).cells rfl ?_
            exact ⟨(b3, _), fun b o h => hI3 _ _ (hins _ _ (hI1 _ _ (h))), .sub (.cons _ (.cons_cons _ (List.nil_sublist _))) .refl, .cons .refl (.cons .refl .nil), .cons rfl .nil⟩
        · refine AllocOb.mk fun b3 hb3 hbM3 => ?_
          refine MakeOb.mk 1 1 rfl rfl (Nat.le_refl _) (by decide) (by decide) ?_
          refine AllocOb.mk fun b4 hb4 hbM4 => ?_
          refine PCallOb.fa fun hfa => ?_
          have hb2 := hfa.d (defsBlk b2 [⟨cB 120, tx⟩]) (show _ ∈ ([flRow b4 [fl0], (⟨b3, .cells fl0.cells.toArray 55 (0, 0)⟩ : Blk), defsBlk b2 [⟨cB 120, tx⟩]] : List Blk) by simp)
          have hins := ins_le (o := (defsBlk b2 [⟨cB 120, tx⟩]).obj) hb2
          have hg : Gr.ok _ ⟨[⟨cB 120, tx⟩], some ⟨b2, 0, none⟩, 1, 1⟩ := defsBlk_gr rfl (by decide) hb2 (fun d hd => by simp only [List.mem_singleton] at hd; subst hd; exact ⟨(by decide : (cB 120).size ≤ 140737488355328), htx⟩)
          have hsp := FTree_spec (M0 := [flRow b4 [fl0]]) (lc := 1) ((hT.mono hI1).mono hins) hg ((ht.mono hI1).mono hins).ok (flRow_at (l := [fl0]) (List.mem_singleton.2 rfl))
          rw [leafV_eq ((ht.mono hI1).mono hins) ⟨[⟨cB 120, tx⟩], some ⟨b2, 0, none⟩, 1, 1⟩ rfl rfl] at hsp
          refine PCallOb.mkP b2 (defsBlk b2 [⟨cB 120, tx⟩]).obj [flRow b4 [fl0]] [(⟨b3, .cells fl0.cells.toArray 55 (0, 0)⟩ : Blk)] _ (by first | exact .refl _ | exact .swap _ _ _ | exact (.cons _ (.swap _ _ _)) | exact (.trans (.swap _ _ _) (.cons _ (.swap _ _ _))) | exact (.trans (.cons _ (.swap _ _ _)) (.swap _ _ _)) | exact .trans (.swap _ _ _) (.trans (.cons _ (.swap _ _ _)) (.swap _ _ _))) (by simp) hsp (fun v I' M' h x hx => by rw [h.2.1]; exact hx) ?_
          rintro v I3 M3 hI3 - ⟨-, rfl, rfl⟩
          refine StoreOb.to [flRow b4 [fl0]] _ _ _ rfl rfl rfl rfl (leafV l).cells rfl ?_
          exact ⟨(b3, _), fun b o h => hI3 _ _ (hins _ _ (hI1 _ _ (h))), .sub (.cons _ (.cons_cons _ (List.nil_sublist _))) .refl, .cons .refl (.cons .refl .nil), .cons rfl .nil⟩
      · refine MakeOb.mk 1 1 rfl rfl (Nat.le_refl _) (by decide) (by decide) ?_
        refine AllocOb.mk fun b4 hb4 hbM4 => ?_
        refine ⟨?_, ?_⟩
        · refine PCallOb.mk _ (grammar10_spec (M := [])) ?_
          rintro v I2 M2 - ⟨rfl, rfl, rfl⟩
          refine ⟨?_, ?_⟩
          · refine CallOb.fa fun hfa => ?_
            have hb2 := hfa.d (defsBlk b2 [⟨cB 120, tx⟩]) (show _ ∈ ([flRow b4 [fl0], defsBlk b2 [⟨cB 120, tx⟩]] : List Blk) by simp)
            have hins := ins_le (o := (defsBlk b2 [⟨cB 120, tx⟩]).obj) hb2
            have hg : Gr.ok _ ⟨[⟨cB 120, tx⟩], some ⟨b2, 0, none⟩, 1, 1⟩ := defsBlk_gr rfl (by decide) hb2 (fun d hd => by simp only [List.mem_singleton] at hd; subst hd; exact ⟨(by decide : (cB 120).size ≤ 140737488355328), htx⟩)
            have hsp := FTree_spec (M0 := [flRow b4 [fl0]]) (lc := 1) ((hT.mono hI1).mono hins) hg ((ht.mono hI1).mono hins).ok (flRow_at (l := [fl0]) (List.mem_singleton.2 rfl))
            rw [leafV_eq ((ht.mono hI1).mono hins) ⟨[⟨cB 120, tx⟩], some ⟨b2, 0, none⟩, 1, 1⟩ rfl rfl] at hsp
            refine CallOb.mkW _ [flRow b4 [fl0]] [] _ (.perm (M1 := defsBlk b2 [⟨cB 120, tx⟩] :: ([flRow b4 [fl0]] ++ [])) (by first | exact .refl _ | exact .swap _ _ _ | exact (.cons _ (.swap _ _ _)) | exact (.trans (.swap _ _ _) (.cons _ (.swap _ _ _))) | exact (.trans (.cons _ (.swap _ _ _)) (.swap _ _ _)) | exact .trans (.swap _ _ _) (.trans (.cons _ (.swap _ _ _)) (.swap _ _ _))) (.prom rfl (by simp) .refl)) hsp ?_
            rintro v I3 M3 hI3 - ⟨-, rfl, rfl⟩
            refine AllocOb.mk fun b3 hb3 hbM3 => ?_
            refine StoreOb.to [] _ _ _ rfl rfl rfl rfl (leafV l).cells rfl ?_
            exact ⟨(b3, _), fun b o h => hI3 _ _ (hins _ _ (hI1 _ _ (h))), .sub (.cons_cons _ (List.nil_sublist _)) .refl, .cons .refl (.cons .refl .nil), .cons rfl .nil⟩
          · refine AllocOb.mk fun b3 hb3 hbM3 => ?_
            refine PCallOb.fa fun hfa => ?_
            have hb2 := hfa.d (defsBlk b2 [⟨cB 120, tx⟩]) (show _ ∈ ([(⟨b3, .cells fl0.cells.toArray 55 (0, 0)⟩ : Blk), flRow b4 [fl0], defsBlk b2 [⟨cB 120, tx⟩]] : List Blk) by simp)
            have hins := ins_le (o := (defsBlk b2 [⟨cB 120, tx⟩]).obj) hb2
            have hg : Gr.ok _ ⟨[⟨cB 120, tx⟩], some ⟨b2, 0, none⟩, 1, 1⟩ := defsBlk_gr rfl (by decide) hb2 (fun d hd => by simp only [List.mem_singleton] at hd; subst hd; exact ⟨(by decide : (cB 120).size ≤ 140737488355328), htx⟩)
            have hsp := FTree_spec (M0 := [flRow b4 [fl0]]) (lc := 1) ((hT.mono hI1).mono hins) hg ((ht.mono hI1).mono hins).ok (flRow_at (l := [fl0]) (List.mem_singleton.2 rfl))
            rw [leafV_eq ((ht.mono hI1).mono hins) ⟨[⟨cB 120, tx⟩], some ⟨b2, 0, none⟩, 1, 1⟩ rfl rfl] at hsp
            refine PCallOb.mkP b2 (defsBlk b2 [⟨cB 120, tx⟩]).obj [flRow b4 [fl0]] [(⟨b3, .cells fl0.cells.toArray 55 (0, 0)⟩ : Blk)] _ (by first | exact .refl _ | exact .swap _ _ _ | exact (.cons _ (.swap _ _ _)) | exact (.trans (.swap _ _ _) (.cons _ (.swap _ _ _))) | exact (.trans (.cons _ (.swap _ _ _)) (.swap _ _ _)) | exact .trans (.swap _ _ _) (.trans (.cons _ (.swap _ _ _)) (.swap _ _ _))) (by simp) hsp (fun v I' M' h x hx => by rw [h.2.1]; exact hx) ?_
            rintro v I3 M3 hI3 - ⟨-, rfl, rfl⟩
            refine StoreOb.to [flRow b4 [fl0]] _ _ _ rfl rfl rfl rfl (leafV l).cells rfl ?_
            exact ⟨(b3, _), fun b o h => hI3 _ _ (hins _ _ (hI1 _ _ (h))), .sub (.cons _ (.cons_cons _ (List.nil_sublist _))) .refl, .cons .refl (.cons .refl .nil), .cons rfl .nil⟩
        · refine AllocOb.mk fun b3 hb3 hbM3 => ?_
          refine PCallOb.mk _ (grammar10_spec (M := [])) ?_
          rintro v I2 M2 - ⟨rfl, rfl, rfl⟩
          refine PCallOb.fa fun hfa => ?_
          have hb2 := hfa.d (defsBlk b2 [⟨cB 120, tx⟩]) (show _ ∈ ([(⟨b3, .cells fl0.cells.toArray 55 (0, 0)⟩ : Blk), flRow b4 [fl0], defsBlk b2 [⟨cB 120, tx⟩]] : List Blk) by simp)
          have hins := ins_le (o := (defsBlk b2 [⟨cB 120, tx⟩]).obj) hb2
          have hg : Gr.ok _ ⟨[⟨cB 120, tx⟩], some ⟨b2, 0, none⟩, 1, 1⟩ := defsBlk_gr rfl (by decide) hb2 (fun d hd => by simp only [List.mem_singleton] at hd; subst hd; exact ⟨(by decide : (cB 120).size ≤ 140737488355328), htx⟩)
          have hsp := FTree_spec (M0 := [flRow b4 [fl0]]) (lc := 1) ((hT.mono hI1).mono hins) hg ((ht.mono hI1).mono hins).ok (flRow_at (l := [fl0]) (List.mem_singleton.2 rfl))
          rw [leafV_eq ((ht.mono hI1).mono hins) ⟨[⟨cB 120, tx⟩], some ⟨b2, 0, none⟩, 1, 1⟩ rfl rfl] at hsp
          refine PCallOb.mkP b2 (defsBlk b2 [⟨cB 120, tx⟩]).obj [flRow b4 [fl0]] [(⟨b3, .cells fl0.cells.toArray 55 (0, 0)⟩ : Blk)] _ (by first | exact .refl _ | exact .swap _ _ _ | exact (.cons _ (.swap _ _ _)) | exact (.trans (.swap _ _ _) (.cons _ (.swap _ _ _))) | exact (.trans (.cons _ (.swap _ _ _)) (.swap _ _ _)) | exact .trans (.swap _ _ _) (.trans (.cons _ (.swap _ _ _)) (.swap _ _ _))) (by simp) hsp (fun v I' M' h x hx => by rw [h.2.1]; exact hx) ?_
          rintro v I3 M3 hI3 - ⟨-, rfl, rfl⟩
          refine StoreOb.to [flRow b4 [fl0]] _ _ _ rfl rfl rfl rfl (leafV l).cells rfl ?_
          exact ⟨(b3, _), fun b o h => hI3 _ _ (hins _ _ (hI1 _ _ (h))), .sub (.cons _ (.cons_cons _ (List.nil_sublist _))) .refl, .cons .refl (.cons .refl .nil), .cons rfl .nil⟩
      · refine AllocOb.mk fun b3 hb3 hbM3 => ?_
        refine ⟨?_, ?_⟩
        · refine PCallOb.mk _ (grammar10_spec (M := [])) ?_
          rintro v I2 M2 - ⟨rfl, rfl, rfl⟩
          refine MakeOb.mk 1 1 rfl rfl (Nat.le_refl _) (by decide) (by decide) ?_
          refine AllocOb.mk fun b4 hb4 hbM4 => ?_
          refine PCallOb.fa fun hfa => ?_
          have hb2 := hfa.d (defsBlk b2 [⟨cB 120, tx⟩]) (show _ ∈ ([flRow b4 [fl0], (⟨b3, .cells fl0.cells.toArray 55 (0, 0)⟩ : Blk), defsBlk b2 [⟨cB 120, tx⟩]] : List Blk) by simp)
          have hins := ins_le (o := (defsBlk b2 [⟨cB 120, tx⟩]).obj) hb2
          have hg : Gr.ok _ ⟨[⟨cB 120, tx⟩], some ⟨b2, 0, none⟩, 1, 1⟩ := defsBlk_gr rfl (by decide) hb2 (fun d hd => by simp only [List.mem_singleton] at hd; subst hd; exact ⟨(by decide : (cB 120).size ≤ 140737488355328), htx⟩)
          have hsp := FTree_spec (M0 := [flRow b4 [fl0]]) (lc := 1) ((hT.mono hI1).mono hins) hg ((ht.mono hI1).mono hins).ok (flRow_at (l := [fl0]) (List.mem_singleton.2 rfl))
          rw [leafV_eq ((ht.mono hI1).mono hins) ⟨[⟨cB 120, tx⟩], some ⟨b2, 0, none⟩, 1, 1⟩ rfl rfl] at hsp
          refine PCallOb.mkP b2 (defsBlk b2 [⟨cB 120, tx⟩]).obj [flRow b4 [fl0]] [(⟨b3, .cells fl0.cells.toArray 55 (0, 0)⟩ : Blk)] _ (by first | exact .refl _ | exact .swap _ _ _ | exact (.cons _ (.swap _ _ _)) | exact (.trans (.swap _ _ _) (.cons _ (.swap _ _ _))) | exact (.trans (.cons _ (.swap _ _ _)) (.swap _ _ _)) | exact .trans (.swap _ _ _) (.trans (.cons _ (.swap _ _ _)) (.swap _ _ _))) (by simp) hsp (fun v I' M' h x hx => by rw [h.2.1]; exact hx) ?_
          rintro v I3 M3 hI3 - ⟨-, rfl, rfl⟩
          refine StoreOb.to [flRow b4 [fl0]] _ _ _ rfl rfl rfl rfl (leafV l).cells rfl ?_
          exact ⟨(b3, _), fun b o h => hI3 _ _ (hins _ _ (hI1 _ _ (h))), .sub (.cons _ (.cons_cons _ (List.nil_sublist _))) .refl, .cons .refl (.cons .refl .nil), .cons rfl .nil⟩
        · refine MakeOb.mk 1 1 rfl rfl (Nat.le_refl _) (by decide) (by decide) ?_
          refine AllocOb.mk fun b4 hb4 hbM4 => ?_
          refine PCallOb.mk _ (grammar10_spec (M := [])) ?_
          rintro v I2 M2 - ⟨rfl, rfl, rfl⟩
          refine PCallOb.fa fun hfa => ?_
          have hb2 := hfa.d (defsBlk b2 [⟨cB 120, tx⟩]) (show _ ∈ ([flRow b4 [fl0], (⟨b3, .cells fl0.cells.toArray 55 (0, 0)⟩ : Blk), defsBlk b2 [⟨cB 120, tx⟩]] : List Blk) by simp)
          have hins := ins_le (o := (defsBlk b2 [⟨cB 120, tx⟩]).obj) hb2
          have hg : Gr.ok _ ⟨[⟨cB 120, tx⟩], some ⟨b2, 0, none⟩, 1, 1⟩ := defsBlk_gr rfl (by decide) hb2 (fun d hd => by simp only [List.mem_singleton] at hd; subst hd; exact ⟨(by decide : (cB 120).size ≤ 140737488355328), htx⟩)
          have hsp := FTree_spec (M0 := [flRow b4 [fl0]]) (lc := 1) ((hT.mono hI1).mono hins) hg ((ht.mono hI1).mono hins).ok (flRow_at (l := [fl0]) (List.mem_singleton.2 rfl))
          rw [leafV_eq ((ht.mono hI1).mono hins) ⟨[⟨cB 120, tx⟩], some ⟨b2, 0, none⟩, 1, 1⟩ rfl rfl] at hsp
          refine PCallOb.mkP b2 (defsBlk b2 [⟨cB 120, tx⟩]).obj [flRow b4 [fl0]] [(⟨b3, .cells fl0.cells.toArray 55 (0, 0)⟩ : Blk)] _ (by first | exact .refl _ | exact .swap _ _ _ | exact (.cons _ (.swap _ _ _)) | exact (.trans (.swap _ _ _) (.cons _ (.swap _ _ _))) | exact (.trans (.cons _ (.swap _ _ _)) (.swap _ _ _)) | exact .trans (.swap _ _ _) (.trans (.cons _ (.swap _ _ _)) (.swap _ _ _))) (by simp) hsp (fun v I' M' h x hx => by rw [h.2.1]; exact hx) ?_
          rintro v I3 M3 hI3 - ⟨-, rfl, rfl⟩
          refine StoreOb.to [flRow b4 [fl0]] _ _ _ rfl rfl rfl rfl (leafV l).cells rfl ?_
          exact ⟨(b3, _), fun b o h => hI3 _ _ (hins _ _ (hI1 _ _ (h))), .sub (.cons _ (.cons_cons _ (List.nil_sublist _))) .refl, .cons .refl (.cons .refl .nil), .cons rfl .nil⟩
    · refine MakeOb.mk 1 1 rfl rfl (Nat.le_refl _) (by decide) (by decide) ?_
      refine AllocOb.mk fun b4 hb4 hbM4 => ?_
      refine ⟨?_, ?_⟩
      · refine AllocOb.mk fun b2 hb2 hbM2 => ?_
        refine ⟨?_, ?_⟩
        · refine PCallOb.mk _ (grammar10_spec (M := [])) ?_
          rintro v I2 M2 - ⟨rfl, rfl, rfl⟩
          refine ⟨?_, ?_⟩
          · refine CallOb.fa fun hfa => ?_
            have hb2 := hfa.d (defsBlk b2 [⟨cB 120, tx⟩]) (show _ ∈ ([defsBlk b2 [⟨cB 120, tx⟩], flRow b4 [fl0]] : List Blk) by simp)
            have hins := ins_le (o := (defsBlk b2 [⟨cB 120, tx⟩]).obj) hb2
            have hg : Gr.ok _ ⟨[⟨cB 120, tx⟩], some ⟨b2, 0, none⟩, 1, 1⟩ := defsBlk_gr rfl (by decide) hb2 (fun d hd => by simp only [List.mem_singleton] at hd; subst hd; exact ⟨(by decide : (cB 120).size ≤ 140737488355328), htx⟩)
            have hsp := FTree_spec (M0 := [flRow b4 [fl0]]) (lc := 1) ((hT.mono hI1).mono hins) hg ((ht.mono hI1).mono hins).ok (flRow_at (l := [fl0]) (List.mem_singleton.2 rfl))
            rw [leafV_eq ((ht.mono hI1).mono hins) ⟨[⟨cB 120, tx⟩], some ⟨b2, 0, none⟩, 1, 1⟩ rfl rfl] at hsp
            refine CallOb.mkW _ [flRow b4 [fl0]] [] _ (.perm (M1 := defsBlk b2 [⟨cB 120, tx⟩] :: ([flRow b4 [fl0]] ++ [])) (by first | exact .refl _ | exact .swap _ _ _ | exact (.cons _ (.swap _ _ _)) | exact (.trans (.swap _ _ _) (.cons _ (.swap _ _ _))) | exact (.trans (.cons _ (.swap _ _ _)) (.swap _ _ _)) | exact .trans (.swap _ _ _) (.trans (.cons _ (.swap _ _ _)) (.swap _ _ _))) (.prom rfl (by simp) .refl)) hsp ?_
            rintro v I3 M3 hI3 - ⟨-, rfl, rfl⟩
            refine AllocOb.mk fun b3 hb3 hbM3 => ?_
            refine StoreOb.to [] _ _ _ rfl rfl rfl rfl (leafV l).cells rfl ?_
            exact ⟨(b3, _), fun b o h => hI3 _ _ (hins _ _ (hI1 _ _ (h))), .sub (.cons_cons _ (List.nil_sublist _)) .refl, .cons .refl (.cons .refl .nil), .cons rfl .nil⟩
          · refine AllocOb.mk fun b3 hb3 hbM3 => ?_
            refine PCallOb.fa fun hfa => ?_
            have hb2 := hfa.d (defsBlk b2 [⟨cB 120, tx⟩]) (show _ ∈ ([(⟨b3, .cells fl0.cells.toArray 55 (0, 0)⟩ : Blk), defsBlk b2 [⟨cB 120, tx⟩], flRow b4 [fl0]] : List Blk) by simp)
            have hins := ins_le (o := (defsBlk b2 [⟨cB 120, tx⟩]).obj) hb2
            have hg : Gr.ok _ ⟨[⟨cB 120, tx⟩], some ⟨b2, 0, none⟩, 1, 1⟩ := defsBlk_gr rfl (by decide) hb2 (fun d hd => by simp only [List.mem_singleton] at hd; subst hd; exact ⟨(by decide : (cB 120).size ≤ 140737488355328), htx⟩)
            have hsp := FTree_spec (M0 := [flRow b4 [fl0]]) (lc := 1) ((hT.mono hI1).mono hins) hg ((ht.mono hI1).mono hins).ok (flRow_at (l := [fl0]) (List.mem_singleton.2 rfl))
            rw [leafV_eq ((ht.mono hI1).mono hins) ⟨[⟨cB 120, tx⟩], some ⟨b2, 0, none⟩, 1, 1⟩ rfl rfl] at hsp
            refine PCallOb.mkP b2 (defsBlk b2 [⟨cB 120, tx⟩]).obj [flRow b4 [fl0]] [(⟨b3, .cells fl0.cells.toArray 55 (0, 0)⟩ : Blk)] _ (by first | exact .refl _ | exact .swap _ _ _ | exact (.cons _ (.swap _ _ _)) | exact (.trans (.swap _ _ _) (.cons _ (.swap _ _ _))) | exact (.trans (.cons _ (.swap _ _ _)) (.swap _ _ _)) | exact .trans (.swap _ _ _) (.trans (.cons _ (.swap _ _ _)) (.swap _ _ _))) (by simp) hsp (fun v I' M' h x hx => by rw [h.2.1]; exact hx) ?_
            rintro v I3 M3 hI3 - ⟨-, rfl, rfl⟩
            refine StoreOb.to [flRow b4 [fl0]] _ _ _ rfl rfl rfl rfl (leafV l).cells rfl ?_
            exact ⟨(b3, _), fun b o h => hI3 _ _ (hins _ _ (hI1 _ _ (h))), .sub (.cons _ (.cons_cons _ (List.nil_sublist _))) .refl, .cons .refl (.cons .refl .nil), .cons rfl .nil⟩
        · refine AllocOb.mk fun b3 hb3 hbM3 => ?_
          refine PCallOb.mk _ (grammar10_spec (M := [])) ?_
          rintro v I2 M2 - ⟨rfl, rfl, rfl⟩
          refine PCallOb.fa fun hfa => ?_
          have hb2 := hfa.d (defsBlk b2 [⟨cB 120, tx⟩]) (show _ ∈ ([(⟨b3, .cells fl0.cells.toArray 55 (0, 0)⟩ : Blk), defsBlk b2 [⟨cB 120, tx⟩], flRow b4 [fl0]] : List Blk) by simp)
          have hins := ins_le (o := (defsBlk b2 [⟨cB 120, tx⟩]).obj) hb2
          have hg : Gr.ok _ ⟨[⟨cB 120, tx⟩], some ⟨b2, 0, none⟩, 1, 1⟩ := defsBlk_gr rfl (by decide) hb2 (fun d hd => by simp only [List.mem_singleton] at hd; subst hd; exact ⟨(by decide : (cB 120).size ≤ 140737488355328), htx⟩)
          have hsp := FTree_spec (M0 := [flRow b4 [fl0]]) (lc := 1) ((hT.mono hI1).mono hins) hg ((ht.mono hI1).mono hins).ok (flRow_at (l := [fl0]) (List.mem_singleton.2 rfl))
          rw [leafV_eq ((ht.mono hI1).mono hins) ⟨[⟨cB 120, tx⟩], some ⟨b2, 0, none⟩, 1, 1⟩ rfl rfl] at hsp
          refine PCallOb.mkP b2 (defsBlk b2 [⟨cB 120, tx⟩]).obj [flRow b4 [fl0]] [(⟨b3, .cells fl0.cells.toArray 55 (0, 0)⟩ : Blk)] _ (by first | exact .refl _ | exact .swap _ _ _ | exact (.cons _ (.swap _ _ _)) | exact (.trans (.swap _ _ _) (.cons _ (.swap _ _ _))) | exact (.trans (.cons _ (.swap _ _ _)) (.swap _ _ _)) | exact .trans (.swap _ _ _) (.trans (.cons _ (.swap _ _ _)) (.swap _ _ _))) (by simp) hsp (fun v I' M' h x hx => by rw [h.2.1]; exact hx) ?_
          rintro v I3 M3 hI3 - ⟨-, rfl, rfl⟩
          refine StoreOb.to [flRow b4 [fl0]] _ _ _ rfl rfl rfl rfl (leafV l).cells rfl ?_
          exact ⟨(b3, _), fun b o h => hI3 _ _ (hins _ _ (hI1 _ _ (h))), .sub (.cons _ (.cons_cons _ (List.nil_sublist _))) .refl, .cons .refl (.cons .refl .nil), .cons rfl .nil⟩
      · refine AllocOb.mk fun b3 hb3 hbM3 => ?_
        refine AllocOb.mk fun b2 hb2 hbM2 => ?_
        refine PCallOb.mk _ (grammar10_spec (M := [])) ?_
        rintro v I2 M2 - ⟨rfl, rfl, rfl⟩
        refine PCallOb.fa fun hfa => ?_
        have hb2 := hfa.d (defsBlk b2 [⟨cB 120, tx⟩]) (show _ ∈ ([defsBlk b2 [⟨cB 120, tx⟩], (⟨b3, .cells fl0.cells.toArray 55 (0, 0)⟩ : Blk), flRow b4 [fl0]] : List Blk) by simp)
        have hins := ins_le (o := (defsBlk b2 [⟨cB 120, tx⟩]).obj) hb2
        have hg : Gr.ok _ ⟨[⟨cB 120, tx⟩], some ⟨b2, 0, none⟩, 1, 1⟩ := defsBlk_gr rfl (by decide) hb2 (fun d hd => by simp only [List.mem_singleton] at hd; subst hd; exact ⟨(by decide : (cB 120).size ≤ 140737488355328), htx⟩)
        have hsp := FTree_spec (M0 := [flRow b4 [fl0]]) (lc := 1) ((hT.mono hI1).mono hins) hg ((ht.mono hI1).mono hins).ok (flRow_at (l := [fl0]) (List.mem_singleton.2 rfl))
        rw [leafV_eq ((ht.mono hI1).mono hins) ⟨[⟨cB 120, tx⟩], some ⟨b2, 0, none⟩, 1, 1⟩ rfl rfl] at hsp
        refine PCallOb.mkP b2 (defsBlk b2 [⟨cB 120, tx⟩]).obj [flRow b4 [fl0]] [(⟨b3, .cells fl0.cells.toArray 55 (0, 0)⟩ : Blk)] _ (by first | exact .refl _ | exact .swap _ _ _ | exact (.cons _ (.swap _ _ _)) | exact (.trans (.swap _ _ _) (.cons _ (.swap _ _ _))) | exact (.trans (.cons _ (.swap _ _ _)) (.swap _ _ _)) | exact .trans (.swap _ _ _) (.trans (.cons _ (.swap _ _ _)) (.swap _ _ _))) (by simp) hsp (fun v I' M' h x hx => by rw [h.2.1]; exact hx) ?_
        rintro v I3 M3 hI3 - ⟨-, rfl, rfl⟩
        refine StoreOb.to [flRow b4 [fl0]] _ _ _ rfl rfl rfl rfl (leafV l).cells rfl ?_
        exact ⟨(b3, _), fun b o h => hI3 _ _ (hins _ _ (hI1 _ _ (h))), .sub (.cons _ (.cons_cons _ (List.nil_sublist _))) .refl, .cons .refl (.cons .refl .nil), .cons rfl .nil⟩
    · refine AllocOb.mk fun b3 hb3 hbM3 => ?_
      refine ⟨?_, ?_⟩
      · refine AllocOb.mk fun b2 hb2 hbM2 => ?_
        refine ⟨?_, ?_⟩
        · refine PCallOb.mk _ (grammar10_spec (M := [])) ?_
          rintro v I2 M2 - ⟨rfl, rfl, rfl⟩
          refine MakeOb.mk 1 1 rfl rfl (Nat.le_refl _) (by decide) (by decide) ?_
          refine AllocOb.mk fun b4 hb4 hbM4 => ?_
          refine PCallOb.fa fun hfa => ?_
          have hb2 := hfa.d (defsBlk b2 [⟨cB 120, tx⟩]) (show _ ∈ ([flRow b4 [fl0], defsBlk b2 [⟨cB 120, tx⟩], (⟨b3, .cells fl0.cells.toArray 55 (0, 0)⟩ : Blk)] : List Blk) by simp)
          have hins := ins_le (o := (defsBlk b2 [⟨cB 120, tx⟩]).obj) hb2
          have hg : Gr.ok _ ⟨[⟨cB 120, tx⟩], some ⟨b2, 0, none⟩, 1, 1⟩ := defsBlk_gr rfl (by decide) hb2 (fun d hd => by simp only [List.mem_singleton] at hd; subst hd; exact ⟨(by decide : (cB 120).size ≤ 140737488355328), htx⟩)
          have hsp := FTree_spec (M0 := [flRow b4 [fl0]]) (lc := 1) ((hT.mono hI1).mono hins) hg ((ht.mono hI1).mono hins).ok (flRow_at (l := [fl0]) (List.mem_singleton.2 rfl))
          rw [leafV_eq ((ht.mono hI1).mono hins) ⟨[⟨cB 120, tx⟩], some ⟨b2, 0, none⟩, 1, 1⟩ rfl rfl] at hsp
          refine PCallOb.mkP b2 (defsBlk b2 [⟨cB 120, tx⟩]).obj [flRow b4 [fl0]] [(⟨b3, .cells fl0.cells.toArray 55 (0, 0)⟩ : Blk)] _ (by first | exact .refl _ | exact .swap _ _ _ | exact (.cons _ (.swap _ _ _)) | exact (.trans (.swap _ _ _) (.cons _ (.swap _ _ _))) | exact (.trans (.cons _ (.swap _ _ _)) (.swap _ _ _)) | exact .trans (.swap _ _ _) (.trans (.cons _ (.swap _ _ _)) (.swap _ _ _))) (by simp) hsp (fun v I' M' h x hx => by rw [h.2.1]; exact hx) ?_
          rintro v I3 M3 hI3 - ⟨-, rfl, rfl⟩
          refine StoreOb.to [flRow b4 [fl0]] _ _ _ rfl rfl rfl rfl (leafV l).cells rfl ?_
          exact ⟨(b3, _), fun b o h => hI3 _ _ (hins _ _ (hI1 _ _ (h))), .sub (.cons _ (.cons_cons _ (List.nil_sublist _))) .refl, .cons .refl (.cons .refl .nil), .cons rfl .nil⟩
        · refine MakeOb.mk 1 1 rfl rfl (Nat.le_refl _) (by decide) (by decide) ?_
          refine AllocOb.mk fun b4 hb4 hbM4 => ?_
          refine PCallOb.mk _ (grammar10_spec (M := [])) ?_
          rintro v I2 M2 - ⟨rfl, rfl, rfl⟩
          refine PCallOb.fa fun hfa => ?_
          have hb2 := hfa.d (defsBlk b2 [⟨cB 120, tx⟩]) (show _ ∈ ([flRow b4 [fl0], defsBlk b2 [⟨cB 120, tx⟩], (⟨b3, .cells fl0.cells.toArray 55 (0, 0)⟩ : Blk)] : List Blk) by simp)
          have hins := ins_le (o := (defsBlk b2 [⟨cB 120, tx⟩]).obj) hb2
          have hg : Gr.ok _ ⟨[⟨cB 120, tx⟩], some ⟨b2, 0, none⟩, 1, 1⟩ := defsBlk_gr rfl (by decide) hb2 (fun d hd => by simp only [List.mem_singleton] at hd; subst hd; exact ⟨(by decide : (cB 120).size ≤ 140737488355328), htx⟩)
          have hsp := FTree_spec (M0 := [flRow b4 [fl0]]) (lc := 1) ((hT.mono hI1).mono hins) hg ((ht.mono hI1).mono hins).ok (flRow_at (l := [fl0]) (List.mem_singleton.2 rfl))
          rw [leafV_eq ((ht.mono hI1).mono hins) ⟨[⟨cB 120, tx⟩], some ⟨b2, 0, none⟩, 1, 1⟩ rfl rfl] at hsp
          refine PCallOb.mkP b2 (defsBlk b2 [⟨cB 120, tx⟩]).obj [flRow b4 [fl0]] [(⟨b3, .cells fl0.cells.toArray 55 (0, 0)⟩ : Blk)] _ (by first | exact .refl _ | exact .swap _ _ _ | exact (.cons _ (.swap _ _ _)) | exact (.trans (.swap _ _ _) (.cons _ (.swap _ _ _))) | exact (.trans (.cons _ (.swap _ _ _)) (.swap _ _ _)) | exact .trans (.swap _ _ _) (.trans (.cons _ (.swap _ _ _)) (.swap _ _ _))) (by simp) hsp (fun v I' M' h x hx => by rw [h.2.1]; exact hx) ?_
          rintro v I3 M3 hI3 - ⟨-, rfl, rfl⟩
          refine StoreOb.to [flRow b4 [fl0]] _ _ _ rfl rfl rfl rfl (leafV l).cells rfl ?_
          exact ⟨(b3, _), fun b o h => hI3 _ _ (hins _ _ (hI1 _ _ (h))), .sub (.cons _ (.cons_cons _ (List.nil_sublist _))) .refl, .cons .refl (.cons .refl .nil), .cons rfl .nil⟩
      · refine MakeOb.mk 1 1 rfl rfl (Nat.le_refl _) (by decide) (by decide) ?_
        refine AllocOb.mk fun b4 hb4 hbM4 => ?_
        refine AllocOb.mk fun b2 hb2 hbM2 => ?_
        refine PCallOb.mk _ (grammar10_spec (M := [])) ?_
        rintro v I2 M2 - ⟨rfl, rfl, rfl⟩
        refine PCallOb.fa fun hfa => ?_
        have hb2 := hfa.d (defsBlk b2 [⟨cB 120, tx⟩]) (show _ ∈ ([defsBlk b2 [⟨cB 120, tx⟩], flRow b4 [fl0], (⟨b3, .cells fl0.cells.toArray 55 (0, 0)⟩ : Blk)] : List Blk) by simp)
        have hins := ins_le (o := (defsBlk b2 [⟨cB 120, tx⟩]).obj) hb2
        have hg : Gr.ok _ ⟨[⟨cB 120, tx⟩], some ⟨b2, 0, none⟩, 1, 1⟩ := defsBlk_gr rfl (by decide) hb2 (fun d hd => by simp only [List.mem_singleton] at hd; subst hd; exact ⟨(by decide : (cB 120).size ≤ 140737488355328), htx⟩)
        have hsp := FTree_spec (M0 := [flRow b4 [fl0]]) (lc := 1) ((hT.mono hI1).mono hins) hg ((ht.mono hI1).mono hins).ok (flRow_at (l := [fl0]) (List.mem_singleton.2 rfl))
        rw [leafV_eq ((ht.mono hI1).mono hins) ⟨[⟨cB 120, tx⟩], some ⟨b2, 0, none⟩, 1, 1⟩ rfl rfl] at hsp
        refine PCallOb.mkP b2 (defsBlk b2 [⟨cB 120, tx⟩]).obj [flRow b4 [fl0]] [(⟨b3, .cells fl0.cells.toArray 55 (0, 0)⟩ : Blk)] _ (by first | exact .refl _ | exact .swap _ _ _ | exact (.cons _ (.swap _ _ _)) | exact (.trans (.swap _ _ _) (.cons _ (.swap _ _ _))) | exact (.trans (.cons _ (.swap _ _ _)) (.swap _ _ _)) | exact .trans (.swap _ _ _) (.trans (.cons _ (.swap _ _ _)) (.swap _ _ _))) (by simp) hsp (fun v I' M' h x hx => by rw [h.2.1]; exact hx) ?_
        rintro v I3 M3 hI3 - ⟨-, rfl, rfl⟩
        refine StoreOb.to [flRow b4 [fl0]] _ _ _ rfl rfl rfl rfl (leafV l).cells rfl ?_
        exact ⟨(b3, _), fun b o h => hI3 _ _ (hins _ _ (hI1 _ _ (h))), .sub (.cons _ (.cons_cons _ (List.nil_sublist _))) .refl, .cons .refl (.cons .refl .nil), .cons rfl .nil⟩
  · refine MakeOb.mk 1 1 rfl rfl (Nat.le_refl _) (by decide) (by decide) ?_
    refine AllocOb.mk fun b4 hb4 hbM4 => ?_
    refine ⟨?_, ?_⟩
    · refine PCallOb.mk _ (Rule_spec (s := cB 120) (by decide)) ?_
      rintro v I1 M1 hI1 ⟨-, tx, rfl, htx, nx, rx, rfl⟩
      refine ⟨?_, ?_⟩
      · refine AllocOb.mk fun b2 hb2 hbM2 => ?_
        refine ⟨?_, ?_⟩
        · refine PCallOb.mk _ (grammar10_spec (M := [])) ?_
          rintro v I2 M2 - ⟨rfl, rfl, rfl⟩
          refine ⟨?_, ?_⟩
          · refine CallOb.fa fun hfa => ?_
            have hb2 := hfa.d (defsBlk b2 [⟨cB 120, tx⟩]) (show _ ∈ ([defsBlk b2 [⟨cB 120, tx⟩], flRow b4 [fl0]] : List Blk) by simp)
            have hins := ins_le (o := (defsBlk b2 [⟨cB 120, tx⟩]).obj) hb2
            have hg : Gr.ok _ ⟨[⟨cB 120, tx⟩], some ⟨b2, 0, none⟩, 1, 1⟩ := defsBlk_gr rfl (by decide) hb2 (fun d hd => by simp only [List.mem_singleton] at hd; subst hd; exact ⟨(by decide : (cB 120).size ≤ 140737488355328), htx⟩)
            have hsp := FTree_spec (M0 := [flRow b4 [fl0]]) (lc := 1) ((hT.mono hI1).mono hins) hg ((ht.mono hI1).mono hins).ok (flRow_at (l := [fl0]) (List.mem_singleton.2 rfl))
            rw [leafV_eq ((ht.mono hI1).mono hins) ⟨[⟨cB 120, tx⟩], some ⟨b2, 0, none⟩, 1, 1⟩ rfl rfl] at hsp
            refine CallOb.mkW _ [flRow b4 [fl0]] [] _ (.perm (M1 := defsBlk b2 [⟨cB 120, tx⟩] :: ([flRow b4 [fl0]] ++ [])) (by first | exact .refl _ | exact .swap _ _ _ | exact (.cons _ (.swap _ _ _)) | exact (.trans (.swap _ _ _) (.cons _ (.swap _ _ _))) | exact (.trans (.cons _ (.swap _ _ _)) (.swap _ _ _)) | exact .trans (.swap _ _ _) (.trans (.cons _ (.swap _ _ _)) (.swap _ _ _))) (.prom rfl (by simp) .refl)) hsp ?_
            rintro v I3 M3 hI3 - ⟨-, rfl, rfl⟩
            refine AllocOb.mk fun b3 hb3 hbM3 => ?_
            refine StoreOb.to [] _ _ _ rfl rfl rfl rfl (leafV l).cells rfl ?_
            exact ⟨(b3, _), fun b o h => hI3 _ _ (hins _ _ (hI1 _ _ (h))), .sub (.cons_cons _ (List.nil_sublist _)) .refl, .cons .refl (.cons .refl .nil), .cons rfl .nil⟩
          · refine AllocOb.mk fun b3 hb3 hbM3 => ?_
            refine PCallOb.fa fun hfa => ?_
            have hb2 := hfa.d (defsBlk b2 [⟨cB 120, tx⟩]) (show _ ∈ ([(⟨b3, .cells fl0.cells.toArray 55 (0, 0)⟩ : Blk), defsBlk b2 [⟨cB 120, tx⟩], flRow b4 [fl0]] : List Blk) by simp)
            have hins := ins_le (o := (defsBlk b2 [⟨cB 120, tx⟩]).obj) hb2
            have hg : Gr.ok _ ⟨[⟨cB 120, tx⟩], some ⟨b2, 0, none⟩, 1, 1⟩ := defsBlk_gr rfl (by decide) hb2 (fun d hd => by simp only [List.mem_singleton] at hd; subst hd; exact ⟨(by decide : (cB 120).size ≤ 140737488355328), htx⟩)
            have hsp := FTree_spec (M0 := [flRow b4 [fl0]]) (lc := 1) ((hT.mono hI1).mono hins) hg ((ht.mono hI1).mono hins).ok (flRow_at (l := [fl0]) (List.mem_singleton.2 rfl))
            rw [leafV_eq ((ht.mono hI1).mono hins) ⟨[⟨cB 120, tx⟩], some ⟨b2, 0, none⟩, 1, 1⟩ rfl rfl] at hsp
            refine PCallOb.mkP b2 (defsBlk b2 [⟨cB 120, tx⟩]).obj [flRow b4 [fl0]] [(⟨b3, .cells fl0.cells.toArray 55 (0, 0)⟩ : Blk)] _ (by first | exact .refl _ | exact .swap _ _ _ | exact (.cons _ (.swap _ _ _)) | exact (.trans (.swap _ _ _) (.cons _ (.swap _ _ _))) | exact (.trans (.cons _ (.swap _ _ _)) (.swap _ _ _)) | exact .trans (.swap _ _ _) (.trans (.cons _ (.swap _ _ _)) (.swap _ _ _))) (by simp) hsp (fun v I' M' h x hx => by rw [h.2.1]; exact hx) ?_
            rintro v I3 M3 hI3 - ⟨-, rfl, rfl⟩
            refine StoreOb.to [flRow b4 [fl0]] _ _ _ rfl rfl rfl rfl (leafV l).cells rfl ?_
            exact ⟨(b3, _), fun b o h => hI3 _ _ (hins _ _ (hI1 _ _ (h))), .sub (.cons _ (.cons_cons _ (List.nil_sublist _))) .refl, .cons .refl (.cons .refl .nil), .cons rfl .nil⟩
        · refine AllocOb.mk fun b3 hb3 hbM3 => ?_
          refine PCallOb.mk _ (grammar10_spec (M := [])) ?_
          rintro v I2 M2 - ⟨rfl, rfl, rfl⟩
          refine PCallOb.fa fun hfa => ?_
          have hb2 := hfa.d (defsBlk b2 [⟨cB 120, tx⟩]) (show _ ∈ ([(⟨b3, .cells fl0.cells.toArray 55 (0, 0)⟩ : Blk), defsBlk b2 [⟨cB 120, tx⟩], flRow b4 [fl0]] : List Blk) by simp)
          have hins := ins_le (o := (defsBlk b2 [⟨cB 120, tx⟩]).obj) hb2
          have hg : Gr.ok _ ⟨[⟨cB 120, tx⟩], some ⟨b2, 0, none⟩, 1, 1⟩ := defsBlk_gr rfl (by decide) hb2 (fun d hd => by simp only [List.mem_singleton] at hd; subst hd; exact ⟨(by decide : (cB 120).size ≤ 140737488355328), htx⟩)
          have hsp := FTree_spec (M0 := [flRow b4 [fl0]]) (lc := 1) ((hT.mono hI1).mono hins) hg ((ht.mono hI1).mono hins).ok (flRow_at (l := [fl0]) (List.mem_singleton.2 rfl))
          rw [leafV_eq ((ht.mono hI1).mono hins) ⟨[⟨cB 120, tx⟩], some ⟨b2, 0, none⟩, 1, 1⟩ rfl rfl] at hsp
          refine PCallOb.mkP b2 (defsBlk b2 [⟨cB 120, tx⟩]).obj [flRow b4 [fl0]] [(⟨b3, .cells fl0.cells.toArray 55 (0, 0)⟩ : Blk)] _ (by first | exact .refl _ | exact .swap _ _ _ | exact (.cons _ (.swap _ _ _)) | exact (.trans (.swap _ _ _) (.cons _ (.swap _ _ _))) | exact (.trans (.cons _ (.swap _ _ _)) (.swap _ _ _)) | exact .trans (.swap _ _ _) (.trans (.cons _ (.swap _ _ _)) (.swap _ _ _))) (by simp) hsp (fun v I' M' h x hx => by rw [h.2.1]; exact hx) ?_
          rintro v I3 M3 hI3 - ⟨-, rfl, rfl⟩
          refine StoreOb.to [flRow b4 [fl0]] _ _ _ rfl rfl rfl rfl (leafV l).cells rfl ?_
          exact ⟨(b3, _), fun b o h => hI3 _ _ (hins _ _ (hI1 _ _ (h))), .sub (.cons _ (.cons_cons _ (List.nil_sublist _))) .refl, .cons .refl (.cons .refl .nil), .cons rfl .nil⟩
      · refine AllocOb.mk fun b3 hb3 hbM3 => ?_
        refine AllocOb.mk fun b2 hb2 hbM2 => ?_
        refine PCallOb.mk _ (grammar10_spec (M := [])) ?_
        rintro v I2 M2 - ⟨rfl, rfl, rfl⟩
        refine PCallOb.fa fun hfa => ?_
        have hb2 := hfa.d (defsBlk b2 [⟨cB 120, tx⟩]) (show _ ∈ ([defsBlk b2 [⟨cB 120, tx⟩], (⟨b3, .cells fl0.cells.toArray 55 (0, 0)⟩ : Blk), flRow b4 [fl0]] : List Blk) by simp)
        have hins := ins_le (o := (defsBlk b2 [⟨cB 120, tx⟩]).obj) hb2
        have hg : Gr.ok _ ⟨[⟨cB 120, tx⟩], some ⟨b2, 0, none⟩, 1, 1⟩ := defsBlk_gr rfl (by decide) hb2 (fun d hd => by simp only [List.mem_singleton] at hd; subst hd; exact ⟨(by decide : (cB 120).size ≤ 140737488355328), htx⟩)
        have hsp := FTree_spec (M0 := [flRow b4 [fl0]]) (lc := 1) ((hT.mono hI1).mono hins) hg ((ht.mono hI1).mono hins).ok (flRow_at (l := [fl0]) (List.mem_singleton.2 rfl))
        rw [leafV_eq ((ht.mono hI1).mono hins) ⟨[⟨cB 120, tx⟩], some ⟨b2, 0, none⟩, 1, 1⟩ rfl rfl] at hsp
        refine PCallOb.mkP b2 (defsBlk b2 [⟨cB 120, tx⟩]).obj [flRow b4 [fl0]] [(⟨b3, .cells fl0.cells.toArray 55 (0, 0)⟩ : Blk)] _ (by first | exact .refl _ | exact .swap _ _ _ | exact (.cons _ (.swap _ _ _)) | exact (.trans (.swap _ _ _) (.cons _ (.swap _ _ _))) | exact (.trans (.cons _ (.swap _ _ _)) (.swap _ _ _)) | exact .trans (.swap _ _ _) (.trans (.cons _ (.swap _ _ _)) (.swap _ _ _))) (by simp) hsp (fun v I' M' h x hx => by rw [h.2.1]; exact hx) ?_
        rintro v I3 M3 hI3 - ⟨-, rfl, rfl⟩
        refine StoreOb.to [flRow b4 [fl0]] _ _ _ rfl rfl rfl rfl (leafV l).cells rfl ?_
        exact ⟨(b3, _), fun b o h => hI3 _ _ (hins _ _ (hI1 _ _ (h))), .sub (.cons _ (.cons_cons _ (List.nil_sublist _))) .refl, .cons .refl (.cons .refl .nil), .cons rfl .nil⟩
    · refine AllocOb.mk fun b3 hb3 hbM3 => ?_
      refine PCallOb.mk _ (Rule_spec (s := cB 120) (by decide)) ?_
      rintro v I1 M1 hI1 ⟨-, tx, rfl, htx, nx, rx, rfl⟩
      refine AllocOb.mk fun b2 hb2 hbM2 => ?_
      refine PCallOb.mk _ (grammar10_spec (M := [])) ?_
      rintro v I2 M2 - ⟨rfl, rfl, rfl⟩
      refine PCallOb.fa fun hfa => ?_
      have hb2 := hfa.d (defsBlk b2 [⟨cB 120, tx⟩]) (show _ ∈ ([defsBlk b2 [⟨cB 120, tx⟩], (⟨b3, .cells fl0.cells.toArray 55 (0, 0)⟩ : Blk), flRow b4 [fl0]] : List Blk) by simp)
      have hins := ins_le (o := (defsBlk b2 [⟨cB 120, tx⟩]).obj) hb2
      have hg : Gr.ok _ ⟨[⟨cB 120, tx⟩], some ⟨b2, 0, none⟩, 1, 1⟩ := defsBlk_gr rfl (by decide) hb2 (fun d hd => by simp only [List.mem_singleton] at hd; subst hd; exact ⟨(by decide : (cB 120).size ≤ 140737488355328), htx⟩)
      have hsp := FTree_spec (M0 := [flRow b4 [fl0]]) (lc := 1) ((hT.mono hI1).mono hins) hg ((ht.mono hI1).mono hins).ok (flRow_at (l := [fl0]) (List.mem_singleton.2 rfl))
      rw [leafV_eq ((ht.mono hI1).mono hins) ⟨[⟨cB 120, tx⟩], some ⟨b2, 0, none⟩, 1, 1⟩ rfl rfl] at hsp
      refine PCallOb.mkP b2 (defsBlk b2 [⟨cB 120, tx⟩]).obj [flRow b4 [fl0]] [(⟨b3, .cells fl0.cells.toArray 55 (0, 0)⟩ : Blk)] _ (by first | exact .refl _ | exact .swap _ _ _ | exact (.cons _ (.swap _ _ _)) | exact (.trans (.swap _ _ _) (.cons _ (.swap _ _ _))) | exact (.trans (.cons _ (.swap _ _ _)) (.swap _ _ _)) | exact .trans (.swap _ _ _) (.trans (.cons _ (.swap _ _ _)) (.swap _ _ _))) (by simp) hsp (fun v I' M' h x hx => by rw [h.2.1]; exact hx) ?_
      rintro v I3 M3 hI3 - ⟨-, rfl, rfl⟩
      refine StoreOb.to [flRow b4 [fl0]] _ _ _ rfl rfl rfl rfl (leafV l).cells rfl ?_
      exact ⟨(b3, _), fun b o h => hI3 _ _ (hins _ _ (hI1 _ _ (h))), .sub (.cons _ (.cons_cons _ (List.nil_sublist _))) .refl, .cons .refl (.cons .refl .nil), .cons rfl .nil⟩
  · refine AllocOb.mk fun b3 hb3 hbM3 => ?_
    refine ⟨?_, ?_⟩
    · refine PCallOb.mk _ (Rule_spec (s := cB 120) (by decide)) ?_
      rintro v I1 M1 hI1 ⟨-, tx, rfl, htx, nx, rx, rfl⟩
      refine ⟨?_, ?_⟩
      · refine AllocOb.mk fun b2 hb2 hbM2 => ?_
        refine ⟨?_, ?_⟩
        · refine PCallOb.mk _ (grammar10_spec (M := [])) ?_
          rintro v I2 M2 - ⟨rfl, rfl, rfl⟩
          refine MakeOb.mk 1 1 rfl rfl (Nat.le_refl _) (by decide) (by decide) ?_
          refine AllocOb.mk fun b4 hb4 hbM4 => ?_
          refine PCallOb.fa fun hfa => ?_
          have hb2 := hfa.d (defsBlk b2 [⟨cB 120, tx⟩]) (show _ ∈ ([flRow b4 [fl0], defsBlk b2 [⟨cB 120, tx⟩], (⟨b3, .cells fl0.cells.toArray 55 (0, 0)⟩ : Blk)] : List Blk) by simp)
          have hins := ins_le (o := (defsBlk b2 [⟨cB 120, tx⟩]).obj) hb2
          have hg : Gr.ok _ ⟨[⟨cB 120, tx⟩], some ⟨b2, 0, none⟩, 1, 1⟩ := defsBlk_gr rfl (by decide) hb2 (fun d hd => by simp only [List.mem_singleton] at hd; subst hd; exact ⟨(by decide : (cB 120).size ≤ 140737488355328), htx⟩)
          have hsp := FTree_spec (M0 := [flRow b4 [fl0]]) (lc := 1) ((hT.mono hI1).mono hins) hg ((ht.mono hI1).mono hins).ok (flRow_at (l := [fl0]) (List.mem_singleton.2 rfl))
          rw [leafV_eq ((ht.mono hI1).mono hins) ⟨[⟨cB 120, tx⟩], some ⟨b2, 0, none⟩, 1, 1⟩ rfl rfl] at hsp
          refine PCallOb.mkP b2 (defsBlk b2 [⟨cB 120, tx⟩]).obj [flRow b4 [fl0]] [(⟨b3, .cells fl0.cells.toArray 55 (0, 0)⟩ : Blk)] _ (by first | exact .refl _ | exact .swap _ _ _ | exact (.cons _ (.swap _ _ _)) | exact (.trans (.swap _ _ _) (.cons _ (.swap _ _ _))) | exact (.trans (.cons _ (.swap _ _ _)) (.swap _ _ _)) | exact .trans (.swap _ _ _) (.trans (.cons _ (.swap _ _ _)) (.swap _ _ _))) (by simp) hsp (fun v I' M' h x hx => by rw [h.2.1]; exact hx) ?_
          rintro v I3 M3 hI3 - ⟨-, rfl, rfl⟩
          refine StoreOb.to [flRow b4 [fl0]] _ _ _ rfl rfl rfl rfl (leafV l).cells rfl ?_
          exact ⟨(b3, _), fun b o h => hI3 _ _ (hins _ _ (hI1 _ _ (h))), .sub (.cons _ (.cons_cons _ (List.nil_sublist _))) .refl, .cons .refl (.cons .refl .nil), .cons rfl .nil⟩
        · refine MakeOb.mk 1 1 rfl rfl (Nat.le_refl _) (by decide) (by decide) ?_
          refine AllocOb.mk fun b4 hb4 hbM4 => ?_
          refine PCallOb.mk _ (grammar10_spec (M := [])) ?_
          rintro v I2 M2 - ⟨rfl, rfl, rfl⟩
          refine PCallOb.fa fun hfa => ?_
          have hb2 := hfa.d (defsBlk b2 [⟨cB 120, tx⟩]) (show _ ∈ ([flRow b4 [fl0], defsBlk b2 [⟨cB 120, tx⟩], (⟨b3, .cells fl0.cells.toArray 55 (0, 0)⟩ : Blk)] : List Blk) by simp)
          have hins := ins_le (o := (defsBlk b2 [⟨cB 120, tx⟩]).obj) hb2
          have hg : Gr.ok _ ⟨[⟨cB 120, tx⟩], some ⟨b2, 0, none⟩, 1, 1⟩ := defsBlk_gr rfl (by decide) hb2 (fun d hd => by simp only [List.mem_singleton] at hd; subst hd; exact ⟨(by decide : (cB 120).size ≤ 140737488355328), htx⟩)
          have hsp := FTree_spec (M0 := [flRow b4 [fl0]]) (lc := 1) ((hT.mono hI1).mono hins) hg ((ht.mono hI1).mono hins).ok (flRow_at (l := [fl0]) (List.mem_singleton.2 rfl))
          rw [leafV_eq ((ht.mono hI1).mono hins) ⟨[⟨cB 120, tx⟩], some ⟨b2, 0, none⟩, 1, 1⟩ rfl rfl] at hsp
          refine PCallOb.mkP b2 (defsBlk b2 [⟨cB 120, tx⟩]).obj [flRow b4 [fl0]] [(⟨b3, .cells fl0.cells.toArray 55 (0, 0)⟩ : Blk)] _ (by first | exact .refl _ | exact .swap _ _ _ | exact (.cons _ (.swap _ _ _)) | exact (.trans (.swap _ _ _) (.cons _ (.swap _ _ _))) | exact (.trans (.cons _ (.swap _ _ _)) (.swap _ _ _)) | exact .trans (.swap _ _ _) (.trans (.cons _ (.swap _ _ _)) (.swap _ _ _))) (by simp) hsp (fun v I' M' h x hx => by rw [h.2.1]; exact hx) ?_
          rintro v I3 M3 hI3 - ⟨-, rfl, rfl⟩
          refine StoreOb.to [flRow b4 [fl0]] _ _ _ rfl rfl rfl rfl (leafV l).cells rfl ?_
          exact ⟨(b3, _), fun b o h => hI3 _ _ (hins _ _ (hI1 _ _ (h))), .sub (.cons _ (.cons_cons _ (List.nil_sublist _))) .refl, .cons .refl (.cons .refl .nil), .cons rfl .nil⟩
      · refine MakeOb.mk 1 1 rfl rfl (Nat.le_refl _) (by decide) (by decide) ?_
        refine AllocOb.mk fun b4 hb4 hbM4 => ?_
        refine AllocOb.mk fun b2 hb2 hbM2 => ?_
        refine PCallOb.mk _ (grammar10_spec (M := [])) ?_
        rintro v I2 M2 - ⟨rfl, rfl, rfl⟩
        refine PCallOb.fa fun hfa => ?_
        have hb2 := hfa.d (defsBlk b2 [⟨cB 120, tx⟩]) (show _ ∈ ([defsBlk b2 [⟨cB 120, tx⟩], flRow b4 [fl0], (⟨b3, .cells fl0.cells.toArray 55 (0, 0)⟩ : Blk)] : List Blk) by simp)
        have hins := ins_le (o := (defsBlk b2 [⟨cB 120, tx⟩]).obj) hb2
        have hg : Gr.ok _ ⟨[⟨cB 120, tx⟩], some ⟨b2, 0, none⟩, 1, 1⟩ := defsBlk_gr rfl (by decide) hb2 (fun d hd => by simp only [List.mem_singleton] at hd; subst hd; exact ⟨(by decide : (cB 120).size ≤ 140737488355328), htx⟩)
        have hsp := FTree_spec (M0 := [flRow b4 [fl0]]) (lc := 1) ((hT.mono hI1).mono hins) hg ((ht.mono hI1).mono hins).ok (flRow_at (l := [fl0]) (List.mem_singleton.2 rfl))
        rw [leafV_eq ((ht.mono hI1).mono hins) ⟨[⟨cB 120, tx⟩], some ⟨b2, 0, none⟩, 1, 1⟩ rfl rfl] at hsp
        refine PCallOb.mkP b2 (defsBlk b2 [⟨cB 120, tx⟩]).obj [flRow b4 [fl0]] [(⟨b3, .cells fl0.cells.toArray 55 (0, 0)⟩ : Blk)] _ (by first | exact .refl _ | exact .swap _ _ _ | exact (.cons _ (.swap _ _ _)) | exact (.trans (.swap _ _ _) (.cons _ (.swap _ _ _))) | exact (.trans (.cons _ (.swap _ _ _)) (.swap _ _ _)) | exact .trans (.swap _ _ _) (.trans (.cons _ (.swap _ _ _)) (.swap _ _ _))) (by simp) hsp (fun v I' M' h x hx => by rw [h.2.1]; exact hx) ?_
        rintro v I3 M3 hI3 - ⟨-, rfl, rfl⟩
        refine StoreOb.to [flRow b4 [fl0]] _ _ _ rfl rfl rfl rfl (leafV l).cells rfl ?_
        exact ⟨(b3, _), fun b o h => hI3 _ _ (hins _ _ (hI1 _ _ (h))), .sub (.cons _ (.cons_cons _ (List.nil_sublist _))) .refl, .cons .refl (.cons .refl .nil), .cons rfl .nil⟩
    · refine MakeOb.mk 1 1 rfl rfl (Nat.le_refl _) (by decide) (by decide) ?_
      refine AllocOb.mk fun b4 hb4 hbM4 => ?_
      refine PCallOb.mk _ (Rule_spec (s := cB 120) (by decide)) ?_
      rintro v I1 M1 hI1 ⟨-, tx, rfl, htx, nx, rx, rfl⟩
      refine AllocOb.mk fun b2 hb2 hbM2 => ?_
      refine PCallOb.mk _ (grammar10_spec (M := [])) ?_
      rintro v I2 M2 - ⟨rfl, rfl, rfl⟩
      refine PCallOb.fa fun hfa => ?_
      have hb2 := hfa.d (defsBlk b2 [⟨cB 120, tx⟩]) (show _ ∈ ([defsBlk b2 [⟨cB 120, tx⟩], flRow b4 [fl0], (⟨b3, .cells fl0.cells.toArray 55 (0, 0)⟩ : Blk)] : List Blk) by simp)
      have hins := ins_le (o := (defsBlk b2 [⟨cB 120, tx⟩]).obj) hb2
      have hg : Gr.ok _ ⟨[⟨cB 120, tx⟩], some ⟨b2, 0, none⟩, 1, 1⟩ := defsBlk_gr rfl (by decide) hb2 (fun d hd => by simp only [List.mem_singleton] at hd; subst hd; exact ⟨(by decide : (cB 120).size ≤ 140737488355328), htx⟩)
      have hsp := FTree_spec (M0 := [flRow b4 [fl0]]) (lc := 1) ((hT.mono hI1).mono hins) hg ((ht.mono hI1).mono hins).ok (flRow_at (l := [fl0]) (List.mem_singleton.2 rfl))
      rw [leafV_eq ((ht.mono hI1).mono hins) ⟨[⟨cB 120, tx⟩], some ⟨b2, 0, none⟩, 1, 1⟩ rfl rfl] at hsp
      refine PCallOb.mkP b2 (defsBlk b2 [⟨cB 120, tx⟩]).obj [flRow b4 [fl0]] [(⟨b3, .cells fl0.cells.toArray 55 (0, 0)⟩ : Blk)] _ (by first | exact .refl _ | exact .swap _ _ _ | exact (.cons _ (.swap _ _ _)) | exact (.trans (.swap _ _ _) (.cons _ (.swap _ _ _))) | exact (.trans (.cons _ (.swap _ _ _)) (.swap _ _ _)) | exact .trans (.swap _ _ _) (.trans (.cons _ (.swap _ _ _)) (.swap _ _ _))) (by simp) hsp (fun v I' M' h x hx => by rw [h.2.1]; exact hx) ?_
      rintro v I3 M3 hI3 - ⟨-, rfl, rfl⟩
      refine StoreOb.to [flRow b4 [fl0]] _ _ _ rfl rfl rfl rfl (leafV l).cells rfl ?_
      exact ⟨(b3, _), fun b o h => hI3 _ _ (hins _ _ (hI1 _ _ (h))), .sub (.cons _ (.cons_cons _ (List.nil_sublist _))) .refl, .cons .refl (.cons .refl .nil), .cons rfl .nil⟩
end Go.V
