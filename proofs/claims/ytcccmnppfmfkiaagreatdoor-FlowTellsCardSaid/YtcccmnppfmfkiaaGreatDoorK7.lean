/-
  Part 7 of what the proofs of this seat share: the executor, data in memory, walks.
-/
import Derived.Test.YtcccmnppfmfkiaaGreatDoorK6
import Derived.Test.YtcccmnppfmfkiaaGreatDoorK4
import Derived.Test.YtcccmnppfmfkiaaGreatDoorK5

/-
  Walks: bonsairef04.Sub, of any right tree; Clean.
-/
set_option linter.unusedVariables false
set_option linter.unusedSimpArgs false
namespace Go.V
open Go Go.Proofs

/-! ### How many stand within a node -/
def szOf (ns : List Nd) : Int → Nat := tabOf 0 (fun d g => 1 + sumOf g d.kids) ns
theorem szOf_eq {t : Tr} (hr : right t = true) {j : Nat} (hj : j < t.ns.length) : szOf t.ns j = 1 + sumOf (szOf t.ns) t.ns[j].kids :=
  tabOf_eq (fun d g g' h => by rw [sumOf_congr h]) hr hj
theorem sz_root {t : Tr} (hr : right t = true) : szOf t.ns t.root ≤ t.ns.length := by
  have := right_sum hr (g := szOf t.ns) (c := fun _ => 1) fun j hj => by rw [szOf_eq hr hj]; exact Nat.le_refl _
  rwa [sum_const, Nat.one_mul] at this
theorem kidsOk_mark {i : Nat} : ∀ {ks : List Int} {s s' : List Bool}, kidsOk i ks s = some s' → ∀ j, s'.getD j false = true → s.getD j false = true ∨ ((j : Int) ∈ ks ∧ j < i)
  | [], s, s', h, j, hj => by
    simp only [kidsOk, Option.some.injEq] at h
    subst h
    exact .inl hj
  | k :: ks, s, s', h, j, hj => by
    unfold kidsOk at h
    cases hb : decide (k < 0) || (decide ((i : Int) ≤ k) || s.getD k.toNat false) with
    | true => rw [hb] at h; cases h
    | false =>
      rw [hb] at h
      simp only [cond_false] at h
      simp only [Bool.or_eq_false_iff, decide_eq_false_iff_not] at hb
      rcases kidsOk_mark h j hj with h1 | h1
      · by_cases e : k.toNat = j
        · right
          refine ⟨?_, by omega⟩
          have : (j : Int) = k := by omega
          rw [this]
          exact .head _
        · left
          simp only [List.getD_eq_getElem?_getD, List.getElem?_set] at h1 ⊢
          rwa [if_neg e] at h1
      · exact .inr ⟨.tail _ h1.1, h1.2⟩
theorem nodesOk_mark : ∀ {ds : List Nd} {i : Nat} {s s' : List Bool}, nodesOk i ds s = some s' → ∀ j, s'.getD j false = true → s.getD j false = true ∨ ∃ q, ∃ h : q < ds.length, (j : Int) ∈ ds[q].kids ∧ j < i + q
  | [], i, s, s', h, j, hj => by
    simp only [nodesOk, Option.some.injEq] at h
    subst h
    exact .inl hj
  | d :: ds, i, s, s', h, j, hj => by
    unfold nodesOk at h
    cases hf : fits d d.kids.length with
    | false => rw [hf] at h; cases h
    | true =>
      rw [hf] at h
      simp only [cond_true] at h
      split at h
      · rename_i s1 hs1
        rcases nodesOk_mark h j hj with h1 | ⟨q, hq, h1, h2⟩
        · rcases kidsOk_mark hs1 j h1 with h3 | ⟨h3, h4⟩
          · exact .inl h3
          · exact .inr ⟨0, by simp, h3, by omega⟩
        · exact .inr ⟨q + 1, by simpa using hq, by simpa using h1, by omega⟩
      · cases h
theorem right_parent {t : Tr} (hr : right t = true) {j : Nat} (hj : j < t.ns.length) (hne : (j : Int) ≠ t.root) : ∃ p, ∃ h : p < t.ns.length, (j : Int) ∈ t.ns[p].kids ∧ j < p := by
  unfold right at hr
  simp only [Bool.and_eq_true] at hr
  obtain ⟨_, _, hr⟩ := hr
  split at hr
  · rename_i s hs
    have hsl := (free_nodes (g := fun _ => 0) (c := fun _ => 0) hs (by simp) (fun j hj => by simp)).1
    have hm : s.getD j false = true := by
      cases hb : s.getD j false with
      | true => rfl
      | false =>
        have := rootOk_false (root := t.root) (s := s) (i := 0) (j := j) (by rw [hsl]; simpa using hj) (by rw [hb, Nat.zero_add]; simp [hne])
        rw [this] at hr
        cases hr
    rcases nodesOk_mark hs j hm with h1 | ⟨q, hq, h1, h2⟩
    · simp [List.getD_eq_getElem?_getD, hj] at h1
    · exact ⟨q, hq, h1, by omega⟩
  · cases hr
theorem sumOf_mem {g : Int → Nat} : ∀ {ks : List Int} {k : Int}, k ∈ ks → g k ≤ sumOf g ks
  | a :: ks, k, h => by
    simp only [sumOf, List.map_cons, List.sum_cons]
    rcases List.mem_cons.1 h with rfl | h
    · omega
    · have := sumOf_mem (g := g) h
      simp only [sumOf] at this
      omega
theorem sz_le {t : Tr} (hr : right t = true) : ∀ (m j : Nat), j < t.ns.length → t.ns.length - j ≤ m → szOf t.ns j ≤ t.ns.length
  | 0, j, hj, hm => by omega
  | m + 1, j, hj, hm => by
    by_cases e : (j : Int) = t.root
    · rw [e]
      exact sz_root hr
    · obtain ⟨p, hp, hk, hlt⟩ := right_parent hr hj e
      have h1 := sz_le hr m p hp (by omega)
      rw [szOf_eq hr hp] at h1
      have := sumOf_mem (g := szOf t.ns) hk
      omega
theorem sumOf_append (g : Int → Nat) (a b : List Int) : sumOf g (a ++ b) = sumOf g a + sumOf g b := by
  simp [sumOf]

theorem len_le_sum {t : Tr} (hr : right t = true) : ∀ {l : List Int}, valid t.ns.length l → l.length ≤ sumOf (szOf t.ns) l
  | [], _ => by simp
  | a :: l, hv => by
    have h1 := len_le_sum hr (l := l) fun k hk => hv k (.tail _ hk)
    have h2 := hv a (.head _)
    obtain ⟨a, rfl⟩ := Int.eq_ofNat_of_zero_le h2.1
    have h3 := szOf_eq hr (j := a) (by omega)
    simp only [sumOf, List.map_cons, List.sum_cons, List.length_cons] at h1 ⊢
    have h4 : szOf t.ns (Int.ofNat a) = szOf t.ns a := rfl
    omega
/-! ### Sub, plainly -/
def backGo (ns : List Nd) : Nat → List Int → List Int → List Int
  | 0, _, b => b
  | f + 1, todo, b => match todo.getLast? with
    | none => b
    | some n => backGo ns f (todo.dropLast ++ (nodeAt ns n.toNat).kids) (b ++ [n])
def backOf (ns : List Nd) (node : Int) : List Int := backGo ns (ns.length + 1) [node] []
theorem backGo_nil (ns : List Nd) (f : Nat) (b : List Int) : backGo ns f [] b = b := by cases f <;> rfl
theorem backGo_snoc (ns : List Nd) (f : Nat) (todo : List Int) (n : Int) (b : List Int) : backGo ns (f + 1) (todo ++ [n]) b = backGo ns f (todo ++ (nodeAt ns n.toNat).kids) (b ++ [n]) := by
  rw [backGo]
  simp only [List.getLast?_concat, List.dropLast_concat]
/-- A node, wherever its kids lie. -/
def Nd.ct (d : Nd) : Nd := ⟨d.k, d.s0, d.s1, d.s2, d.s3, d.t, d.lo, d.hi, none, 0, 0, d.kids⟩
def Nd.withKids (d : Nd) (l : List Int) : Nd := ⟨d.k, d.s0, d.s1, d.s2, d.s3, d.t, d.lo, d.hi, none, 0, 0, l⟩
def subStep (ns : List Nd) (st : List Int × List Nd) (b : Int) : List Int × List Nd :=
  (st.1.set b.toNat st.2.length, st.2 ++ [(nodeAt ns b.toNat).withKids ((nodeAt ns b.toNat).kids.map fun k => (st.1.set b.toNat st.2.length).getD k.toNat 0)])
def subC (ns : List Nd) (node : Int) : List Nd := ((backOf ns node).reverse.foldl (subStep ns) (List.replicate ns.length 0, [])).2

/-! ### Slices of the function's own -/
theorem OS.pop {os : OS} {xs : List Value} {x : Value} (h : os.ok 1 (xs ++ [x])) : OS.ok ⟨os.a, os.n - 1, os.c, os.cur⟩ 1 xs := by
  have hl := h.len
  simp only [List.length_append, List.length_cons, List.length_nil, Nat.mul_one] at hl
  refine ⟨by simp only; omega, fun ha => ?_, fun g hg => ?_⟩
  · have := h.nil ha
    simp only
    omega
  · obtain ⟨h1, h2, h3, h4⟩ := h.cap g hg
    refine ⟨h1, by simp only; omega, h3, ?_⟩
    simp only
    have e : os.n * 1 = xs.length + 1 := by omega
    rw [e] at h4
    have : os.cur.take xs.length = (os.cur.take (xs.length + 1)).take xs.length := by rw [List.take_take]; congr 1; omega
    rw [show (os.n - 1) * 1 = xs.length by omega, this, h4, List.take_left]
theorem appm_ok {os : OS} {xs ys : List Value} {size m : Nat} (hos : os.ok size xs) {g c : Nat} {cur : List Value} (hy : ys.length = m * size) (h1 : cur.length = c * size) (h2 : os.n + m ≤ c) (h3 : c ≤ maxLen) (h4 : cur.take ((os.n + m) * size) = xs ++ ys) :
    OS.ok ⟨some g, os.n + m, c, cur⟩ size (xs ++ ys) := by
  have hl := hos.len
  refine ⟨?_, (fun h => by cases h), fun g3 hg3 => ⟨h1, h2, h3, h4⟩⟩
  rw [List.length_append, hl, hy]
  simp only
  rw [Nat.add_mul]

theorem StoreOb.addTo {M : List Blk} {b o k : Nat} {vs : List Value} {K : List Blk → Prop} (pre post : List Blk) (cs : List Value) (T : Nat) (hM : M = pre ++ ⟨b, .cells cs.toArray T (0, 0)⟩ :: post) (hb : Nat.ble (o + k + vs.length) cs.length = true) (h1 : allOne vs = true)
    (cs' : List Value) (he : splice cs (o + k) vs = cs') (h : K (pre ++ ⟨b, .cells cs'.toArray T (0, 0)⟩ :: post)) : StoreOb M ((⟨b, o, none⟩ : Addr).add k) vs K :=
  StoreOb.add pre post _ _ hM (by simpa using Nat.le_of_ble_eq_true hb) h1 (by rw [← he] at h; exact h)
structure BackInv (t : Tr) (node : Int) (x : OS × List Int × OS × List Int × Nat) : Prop where
  todo : x.1.ok 1 (x.2.1.map (.int .i64 ·))
  back : x.2.2.1.ok 1 (x.2.2.2.1.map (.int .i64 ·))
  vt : valid t.ns.length x.2.1
  vb : valid t.ns.length x.2.2.2.1
  sum : sumOf (szOf t.ns) x.2.1 + x.2.2.2.1.length = szOf t.ns node
  fuel : sumOf (szOf t.ns) x.2.1 + 1 ≤ x.2.2.2.2
  eq : backOf t.ns node = backGo t.ns x.2.2.2.2 x.2.1 x.2.2.2.1

structure SubInv (I : GH) (t : Tr) (rb : List Int) (x : Nat × List Int × OS × List Nd × GH) : Prop where
  j : x.1 ≤ rb.length
  len : x.2.1.length = t.ns.length
  out : x.2.2.1.ok 9 (x.2.2.2.1.flatMap Nd.cells)
  on : x.2.2.2.1.length = x.1
  eq : (rb.take x.1).foldl (subStep t.ns) (List.replicate t.ns.length 0, []) = (x.2.1, x.2.2.2.1.map Nd.ct)
  ok : ∀ d ∈ x.2.2.2.1, d.ok x.2.2.2.2
  le : ∀ b o, I b = some o → x.2.2.2.2 b = some o
  bd : ∀ c ∈ x.2.1, 0 ≤ c ∧ c ≤ rb.length
  kb : ∀ d ∈ x.2.2.2.1, ∀ k ∈ d.kids, 0 ≤ k ∧ k ≤ rb.length

set_option maxRecDepth 100000 in
set_option maxHeartbeats 8000000 in
theorem RSub_gen {I : GH} {t : Tr} (ht : t.ok I) (hr : right t = true) (W : Nat) (hW : ∀ d ∈ t.ns, d.kn ≤ W) (hb : t.n * W ≤ 1152921504606846976) (hn : t.n ≤ 1099511627776) {node : Nat} (hnode : node < t.n) :
    Spec Tryz.prog 104 [t.val, .int .i64 node] I [] fun v I' M' => (∀ b o, I b = some o → I' b = some o) ∧ M' = [] ∧ ∃ t' : Tr, v = .tuple #[t'.val, .bool true] ∧ t'.ok I' ∧ t'.ns.map Nd.ct = subC t.ns node ∧ t'.root = (t'.ns.length : Int) - 1 ∧ t'.ns.length ≤ t.n ∧ ∀ d ∈ t'.ns, ∀ k ∈ d.kids, 0 ≤ k ∧ k ≤ t.n := by
  refine spec_of_VF [] TryzEOK Tryz.func104 rfl rfl rfl ?_
  intro B h0
  have htn := ht.n
  have hcap := ht.rs.cap
  have hszn : szOf t.ns node ≤ t.ns.length := sz_le hr t.ns.length node (by omega) (by omega)
  refine CallOb.mk [] [] _ (.refl _) (RRight_gen ht W hW hb) ?_
  rintro v I' M' - ⟨rfl, rfl, rfl⟩
  rw [hr]
  refine GuardOb.mk (fun _ => ?_) (fun h => by simp at h)
  refine GuardOb.mk (fun _ => ?_) (fun h => ?_)
  rotate_left
  · have : ((node : Nat) : Int) < 0 := of_decide_eq_true h
    omega
  refine CondOb.mk (fun h => ?_) (fun _ => ?_)
  · have : ((t.n : Nat) : Int) ≤ ((node : Nat) : Int) := of_decide_eq_true h
    omega
  refine AllocOb.mk fun b1 hb1 hbM1 => ?_
  -- the row turned about
  refine LoopOb.inv (ι := OS × List Int × OS × List Int × Nat) (fun x => { fl := [(2, .ref 2 0), (4, .ref 4 0), (6, .val x.2.2.1.val), (7, .val x.1.val)], cl := [(2, t.cells), (4, [.slice none 0 0, .int .i64 0])], gi := I', mi := x.2.2.1.blk 3 ++ x.1.blk 3 })
    (BackInv t node) (fun x => sumOf (szOf t.ns) x.2.1) ?_ ?_
  · refine ⟨(⟨some b1, 1, 1, [.int .i64 node]⟩, [(node : Int)], OS0, [], t.ns.length + 1), ⟨⟨rfl, (fun h => by cases h), fun g' hg' => ⟨rfl, Nat.le_refl _, by simp [maxLen], rfl⟩⟩, OS0_ok 1, fun k hk => ?_, (fun k hk => by cases hk), ?_, ?_, rfl⟩, .refl, .cons .refl (.cons .refl (.cons .refl (.cons .refl .nil))), .cons rfl (.cons rfl .nil)⟩
    · simp only [List.mem_singleton] at hk
      omega
    · simp [sumOf]
    · simp only [sumOf, List.map_cons, List.map_nil, List.sum_cons, List.sum_nil]
      omega
  rintro ⟨todo, tl, back, bl, f⟩ ⟨htodo, hback, hvt, hvb, hsum, hfuel, heq⟩
  simp only at htodo hback hvt hvb hsum hfuel heq
  have hbl := hback.len1
  have htl := htodo.len1
  refine CondOb.mk (fun h => ?_) (fun h => ?_)
  · have h0t : 0 < todo.n := by
      have : (0 : Int) < (todo.n : Int) := of_decide_eq_true h
      omega
    obtain ⟨tl', m, rfl⟩ : ∃ tl' m, tl = tl' ++ [m] := by
      rcases List.eq_nil_or_concat tl with h1 | ⟨r, p, h1⟩
      · subst h1
        simp at htl
        omega
      · exact ⟨r, p, by simpa using h1⟩
    have hm := hvt m (by simp)
    obtain ⟨m, rfl⟩ := Int.eq_ofNat_of_zero_le hm.1
    have hml : m < t.n := by omega
    have hml' : m < t.ns.length := by omega
    have htl' : todo.n = tl'.length + 1 := by simpa using htl
    have hszm := szOf_eq hr hml'
    rw [sumOf_append] at hsum hfuel
    have hs1 : sumOf (szOf t.ns) [(m : Int)] = szOf t.ns m := by simp [sumOf]
    rw [hs1, hszm] at hsum hfuel
    have htlen : tl'.length ≤ sumOf (szOf t.ns) tl' := len_le_sum hr fun k hk => hvt k (by simp [hk])
    have hklen : t.ns[m].kids.length ≤ sumOf (szOf t.ns) t.ns[m].kids := len_le_sum hr fun k hk => by
      have := right_kids hr m hml' k hk
      omega
    have htot : tl'.length + t.ns[m].kids.length ≤ t.ns.length := by omega
    obtain ⟨ad, had, hrd⟩ := OS.rdI (I := I') (e := 3) (M := back.blk 3 ++ todo.blk 3) htodo (fun x hx => by simp [hx]) (j := tl'.length) (by simp)
    rw [List.getElem_concat_length rfl] at hrd
    have hpop := htodo
    rw [List.map_append] at hpop
    have hpop := OS.pop hpop
    refine ArithOb.mk ((tl'.length : Nat) : Int) (wr_eq (by simp only [OS.val]; omega) (by omega)) ?_
    refine IdxOb.mk ad tl'.length had rfl (show tl'.length < todo.n by omega) ?_
    refine LoadOb.mk _ hrd ?_
    refine ArithOb.mk ((tl'.length : Nat) : Int) (wr_eq (by simp only [OS.val]; omega) (by omega)) ?_
    refine SliceOb.mk 0 tl'.length rfl rfl (Nat.zero_le _) ?_ ?_
    · have := htodo.cap
      obtain ⟨oa, on, oc, ocur⟩ := todo
      cases oa with
      | none => have := (htodo.nil rfl).1; simp only at this htl'; omega
      | some gg =>
        obtain ⟨-, h2, -, -⟩ := htodo.cap gg rfl
        simp only at h2 htl' ⊢
        omega
    refine AllocOb.mk fun b2 hb2 hbM2 => ?_
    refine OtherOb.append TryzEOK rfl (by simp) (e := 3) rfl rfl rfl back hback rfl (m := 1) rfl (news := [.int .i64 m]) (by decide) (blk_rd (b := b2) (cs := [.int .i64 m]) (k := 0) (n := 1) (T := 3) (.head _) (by simp)) rfl (Mr := ⟨b2, .cells #[.int .i64 m] 3 (0, 0)⟩ :: todo.blk 3) List.perm_middle.symm (by simp only [maxLen]; omega) (by show (back.n + 1) * 8 ≤ _; omega) ?_
    intro g1 c1 cur1 q1 q2 q3 q4
    have hback' : OS.ok ⟨some g1, back.n + 1, c1, cur1⟩ 1 ((bl ++ [(m : Int)]).map (.int .i64 ·)) := by
      rw [List.map_append]
      exact app1_ok hback q1 q2 q3 q4
    obtain ⟨an, han, hrn⟩ := ht.rs.row Nd.cells_len hml hml'
    have hd := ht.ns _ (List.getElem_mem hml')
    have hkn := hd.kn
    have hkc := hd.rs.cap
    have hkv := right_kids hr m hml'
    have hvt' : valid t.ns.length (tl' ++ t.ns[m].kids) := fun k hk => by
      rcases List.mem_append.1 hk with hk | hk
      · exact hvt k (by simp [hk])
      · have := hkv k hk
        omega
    have hvb' : valid t.ns.length (bl ++ [(m : Int)]) := fun k hk => by
      rcases List.mem_append.1 hk with hk | hk
      · exact hvb k hk
      · simp only [List.mem_singleton] at hk
        omega
    have heq' : ∀ f', f = f' + 1 → backOf t.ns node = backGo t.ns f' (tl' ++ t.ns[m].kids) (bl ++ [(m : Int)]) := fun f' hf' => by
      rw [heq, hf', backGo_snoc, Int.toNat_natCast, nodeAt_eq hml']
    have hinv : ∀ td : OS, td.ok 1 ((tl' ++ t.ns[m].kids).map (.int .i64 ·)) → BackInv t node (td, tl' ++ t.ns[m].kids, ⟨some g1, back.n + 1, c1, cur1⟩, bl ++ [(m : Int)], f - 1) := fun td htd => by
      refine ⟨htd, hback', hvt', hvb', ?_, ?_, heq' (f - 1) (by omega)⟩
      · simp only [sumOf_append, List.length_append, List.length_cons, List.length_nil]
        omega
      · simp only [sumOf_append]
        omega
    have hmu : sumOf (szOf t.ns) (tl' ++ t.ns[m].kids) < sumOf (szOf t.ns) (tl' ++ [(m : Int)]) := by
      rw [sumOf_append, sumOf_append, hs1, hszm]
      omega
    refine IdxOb.mk an m han rfl hml ?_
    refine LoadOb.mk _ ((hrn _).part (k := 8) (m := 1) (by decide)) ?_
    generalize hdd : t.ns[m] = d at hd hkn hkc hrn hinv hmu htot
    by_cases hk0 : d.kn = 0
    · have hnil : d.kids = [] := List.eq_nil_of_length_eq_zero (by omega)
      rw [hnil, List.append_nil] at hinv hmu
      refine OtherOb.append0 TryzEOK rfl (by simp) (e := 3) (sa := todo.a.map fun g => ⟨g, 0, none⟩) (n := tl'.length) (c := todo.c) rfl rfl rfl (by simp) rfl rfl ?_ rfl (.inl ⟨d.ka, d.kc, by rw [← hk0]; rfl⟩) ?_
      · obtain ⟨oa, on, oc, ocur⟩ := todo
        cases oa with
        | none => have := (htodo.nil rfl).1; simp only at this htl'; omega
        | some gg =>
          obtain ⟨-, h2, -, -⟩ := htodo.cap gg rfl
          simp only at h2 htl' ⊢
          omega
      have he : todo.n - 1 = tl'.length := by omega
      refine ⟨_, ⟨hinv _ hpop, hmu⟩, .sub (M1 := ⟨g1, .cells cur1.toArray 3 (0, 0)⟩ :: todo.blk 3) (.cons_cons _ (.cons _ (.refl _))) .refl, .cons .refl (.cons .refl (.cons .refl (.cons ?_ .nil))), .cons rfl (.cons rfl .nil)⟩
      simp only [OS.val, he]
      exact .refl
    · obtain ⟨ak, hak, hsp, cs, T, fr, hI, hv⟩ := hd.rs.rd.resolve_left hk0
      have hpop' : OS.ok ⟨todo.a, tl'.length, todo.c, todo.cur⟩ 1 (tl'.map (.int .i64 ·)) := by
        have he : todo.n - 1 = tl'.length := by omega
        rw [← he]
        exact hpop
      refine OtherOb.append TryzEOK rfl (by simp) (e := 3) rfl rfl rfl ⟨todo.a, tl'.length, todo.c, todo.cur⟩ hpop' rfl (ad := ak) (m := d.kn) (c' := d.kc) (by rw [← hak]; rfl) (news := d.kids.map (.int .i64 ·)) (by omega) ⟨hsp, cs, T, fr, .inl hI, hv, by simp [hkn]⟩ ?_ (Mr := [⟨g1, .cells cur1.toArray 3 (0, 0)⟩, ⟨b2, .cells #[.int .i64 m] 3 (0, 0)⟩]) (List.perm_append_comm (l₁ := [_, _])) (by simp only [maxLen]; omega) (by show (tl'.length + d.kn) * 8 ≤ _; omega) ?_
      · simp [allOne, Value.oneCell']
      intro g2 c2 cur2 r1 r2 r3 r4
      refine ⟨(⟨some g2, tl'.length + d.kn, c2, cur2⟩, _, _, _, _), ⟨hinv _ ?_, hmu⟩, .sub (M1 := [⟨g2, .cells cur2.toArray 3 (0, 0)⟩, ⟨g1, .cells cur1.toArray 3 (0, 0)⟩]) (.cons_cons _ (.cons_cons _ (List.nil_sublist _))) (.perm (List.Perm.swap _ _ _) .refl), .cons .refl (.cons .refl (.cons .refl (.cons .refl .nil))), .cons rfl (.cons rfl .nil)⟩
      rw [List.map_append]
      exact appm_ok hpop' (by simp [hkn]) r1 r2 r3 r4
  have htl0 : tl = [] := by
    have : ¬ (0 : Int) < (todo.n : Int) := of_decide_eq_false h
    exact List.eq_nil_of_length_eq_zero (by omega)
  subst htl0
  rw [backGo_nil] at heq
  simp only [sumOf, List.map_nil, List.sum_nil, Nat.zero_add] at hsum
  clear hfuel htodo hvt h
  refine MakeOb.mk t.n t.n rfl rfl (Nat.le_refl _) (by show 8 * t.n ≤ _; omega) (by omega) ?_
  refine AllocOb.mk fun b9 hb9 hbM9 => ?_
  refine ArithOb.mk ((bl.length : Int) - 1) (wr_eq (by simp only [OS.val]; omega) (by omega)) ?_
  refine LoopOb.invF (ι := Nat × List Int × OS × List Nd × GH) (fun x => { fl := [(2, .ref 2 0), (4, .ref 4 0), (6, .val back.val), (9, .val (.slice (some ⟨b9, 0, none⟩) t.n t.n)), (10, .val x.2.2.1.val), (11, .val (.int .i64 ((bl.length : Int) - 1 - x.1)))], cl := [(2, t.cells), (4, [.slice none 0 0, .int .i64 0])], gi := x.2.2.2.2, mi := intRow b9 x.2.1 :: (x.2.2.1.blk 67 ++ back.blk 3) })
    (SubInv I' t bl.reverse) (fun x => bl.length - x.1) ?_ ?_
  · intro _
    refine ⟨(0, List.replicate t.n 0, OS0, [], I'), ⟨Nat.zero_le _, by simp [htn], OS0_ok 9, rfl, (by rw [htn]; rfl), (fun d hd => by cases hd), fun _ _ h => h, (fun c hc => by have := List.eq_of_mem_replicate hc; omega), (fun d hd => by cases hd)⟩, ?_, .cons .refl (.cons .refl (.cons .refl (.cons .refl (.cons .refl (.cons ?_ .nil))))), .cons rfl (.cons rfl .nil)⟩
    · simp only [rowOf_one, intRow, List.map_replicate, Nat.mul_one]
      exact .sub (M1 := ⟨b9, .cells (List.replicate t.n (Value.int .i64 0)).toArray 3 (0, 0)⟩ :: (OS0.blk 67 ++ back.blk 3)) (.cons_cons _ (List.sublist_append_left _ _)) .refl
    · simp only [Int.ofNat_zero, Int.sub_zero]
      exact .refl
  rintro ⟨j, P, out, outN, J⟩ ⟨hj, hPl, hout, hon, hfold, hJok, hJ, hPb, hkb⟩
  simp only at hj hPl hout hon hfold hJok hJ hPb hkb
  rw [List.length_reverse] at hj hPb hkb
  have hol : out.n = j := by
    have := hout.len
    rw [flat_len _ 9 Nd.cells_len, hon] at this
    omega
  subst hol
  refine CondOb.mk (fun h => ?_) (fun h => ?_)
  · have hjl : out.n < bl.length := by
      have : (0 : Int) ≤ (bl.length : Int) - 1 - (out.n : Int) := of_decide_eq_true h
      omega
    have hjr : out.n < bl.reverse.length := by simpa using hjl
    -- the next one
    have hbi : bl.length - 1 - out.n < bl.length := by omega
    have hrev : bl.reverse[out.n] = bl[bl.length - 1 - out.n] := by rw [List.getElem_reverse]
    have hm := hvb _ (List.getElem_mem hbi)
    obtain ⟨m, hmm⟩ := Int.eq_ofNat_of_zero_le hm.1
    rw [hmm] at hm
    have hml : m < t.n := by omega
    have hml' : m < t.ns.length := by omega
    have hidx : ((bl.length : Int) - 1 - (out.n : Int)) = ((bl.length - 1 - out.n : Nat) : Int) := by omega
    have hbrd : ∀ {M : List Blk}, (∀ x ∈ back.blk 3, x ∈ M) → ∃ ad, (back.a.map fun g => (⟨g, 0, none⟩ : Addr)) = some ad ∧ Rd J M (ad.add ((bl.length - 1 - out.n) * 1)) 1 [.int .i64 m] := fun hM => by
      obtain ⟨ad, h1, h2⟩ := OS.rdI (I := J) (e := 3) hback hM hbi
      rw [hmm] at h2
      exact ⟨ad, h1, h2⟩
    obtain ⟨an, han, hrn⟩ := (ht.rs.mono hJ).row Nd.cells_len hml hml'
    have hd := (ht.ns _ (List.getElem_mem hml')).mono hJ
    have hkn := hd.kn
    have hkc := hd.rs.cap
    have hkv := right_kids hr m hml'
    have hna : nodeAt t.ns m = t.ns[m] := nodeAt_eq hml'
    generalize hdd : t.ns[m] = d at hd hkn hkc hkv hrn hna
    obtain ⟨ad, had, hrdb⟩ := hbrd (M := intRow b9 P :: (out.blk 67 ++ back.blk 3)) (fun x hx => by simp [hx])
    refine CodeOb.draw TryzEOK rfl rfl rfl ?_
    refine IdxOb.mk ad (bl.length - 1 - out.n) had hidx (show _ < back.n by omega) ?_
    refine LoadOb.mk _ hrdb ?_
    refine IdxOb.mk an m han rfl hml ?_
    refine LoadOb.mk _ (hrn _) ?_
    refine AllocOb.mk fun b12 hb12 hbM12 => ?_
    refine StoreOb.mk [] _ _ _ rfl rfl (Nat.le_of_ble_eq_true rfl) rfl ?_
    obtain ⟨ad2, had2, hrdb2⟩ := hbrd (M := ⟨b12, .cells d.cells.toArray 67 (0, 0)⟩ :: intRow b9 P :: (out.blk 67 ++ back.blk 3)) (fun x hx => by simp [hx])
    refine IdxOb.mk ad2 (bl.length - 1 - out.n) had2 hidx (show _ < back.n by omega) ?_
    refine LoadOb.mk _ hrdb2 ?_
    refine IdxOb.mk ⟨b9, 0, none⟩ m rfl rfl hml ?_
    refine StoreOb.add [⟨b12, .cells d.cells.toArray 67 (0, 0)⟩] (out.blk 67 ++ back.blk 3) _ _ rfl ?_ rfl ?_
    · simp only [List.size_toArray, List.length_map]
      show 0 + m * 1 + 1 ≤ _
      omega
    have hset := intRow_set P m (by omega) (out.n : Int)
    generalize hP' : P.set m (out.n : Int) = P' at hset
    have hPl' : P'.length = t.ns.length := by rw [← hP']; simpa using hPl
    have hPb' : ∀ c ∈ P', 0 ≤ c ∧ c ≤ bl.length := fun c hc => by
      rw [← hP'] at hc
      rcases List.mem_or_eq_of_mem_set hc with hc | rfl
      · exact hPb c hc
      · omega
    have b12rd : ∀ {M : List Blk} {cs : List Value} (k n : Nat), (⟨b12, .cells cs.toArray 67 (0, 0)⟩ : Blk) ∈ M → k + n ≤ cs.length → Rd J M ((⟨b12, 0, none⟩ : Addr).add k) n ((cs.drop k).take n) := fun k n hM hl => blk_rd hM hl
    refine LoopOb.inv (ι := Nat × OS × List Int) (fun y => { fl := [(2, .ref 2 0), (4, .ref 4 0), (6, .val back.val), (9, .val (.slice (some ⟨b9, 0, none⟩) t.n t.n)), (10, .val out.val), (11, .val (.int .i64 ((bl.length : Int) - 1 - out.n))), (12, .val (ptr b12)), (13, .val y.2.1.val), (14, .val (.int .i64 y.1))], cl := [(2, t.cells), (4, [.slice none 0 0, .int .i64 0])], gi := J, mi := y.2.1.blk 3 ++ (⟨b12, .cells d.cells.toArray 67 (0, 0)⟩ :: intRow b9 P' :: (out.blk 67 ++ back.blk 3)) })
      (fun y => y.1 ≤ d.kn ∧ y.2.1.ok 1 (y.2.2.map (.int .i64 ·)) ∧ y.2.2 = (d.kids.take y.1).map fun k => P'.getD k.toNat 0) (fun y => d.kn - y.1) ?_ ?_
    · refine ⟨(0, OS0, []), ⟨Nat.zero_le _, OS0_ok 1, by simp⟩, ?_, .cons .refl (.cons .refl (.cons .refl (.cons .refl (.cons .refl (.cons .refl (.cons .refl (.cons .refl (.cons .refl .nil)))))))), .cons rfl (.cons rfl .nil)⟩
      simp only [intRow]
      rw [← hset]
      simp only [Nat.zero_add, Nat.mul_one]
      exact .refl
    rintro ⟨k, ko, kl⟩ ⟨hk, hko, hkl⟩
    simp only at hk hko hkl
    have hkon := hko.len1
    have hmem : (⟨b12, .cells d.cells.toArray 67 (0, 0)⟩ : Blk) ∈ ko.blk 3 ++ (⟨b12, .cells d.cells.toArray 67 (0, 0)⟩ :: intRow b9 P' :: (out.blk 67 ++ back.blk 3)) := by simp
    have hmemP : intRow b9 P' ∈ ko.blk 3 ++ (⟨b12, .cells d.cells.toArray 67 (0, 0)⟩ :: intRow b9 P' :: (out.blk 67 ++ back.blk 3)) := by simp
    have hsl : kl.length ≤ d.kn := by
      rw [hkl, List.length_map]
      exact Nat.le_trans (List.length_take_le _ _) hk
    have hsk : kl.length ≤ k := by
      rw [hkl, List.length_map]
      exact List.length_take_le _ _
    refine LoadOb.mk [.slice d.ka d.kn d.kc] (b12rd 8 1 hmem (by rw [Nd.cells_len]; decide)) ?_
    refine CondOb.mk (fun h2 => ?_) (fun h2 => ?_)
    · have hkk : k < d.kn := by have : (k : Int) < (d.kn : Int) := of_decide_eq_true h2; omega
      have hkk' : k < d.kids.length := by omega
      obtain ⟨ak, hak, hrk⟩ := hd.rs.one hkk hkk'
      have hv := hkv _ (List.getElem_mem hkk')
      have hkP : d.kids[k].toNat < P'.length := by omega
      have hPg : P'.getD d.kids[k].toNat 0 = P'[d.kids[k].toNat] := by simp [List.getD_eq_getElem?_getD, hkP]
      refine LoadOb.mk [.slice d.ka d.kn d.kc] (b12rd 8 1 hmem (by rw [Nd.cells_len]; decide)) ?_
      refine IdxOb.mk ak k hak rfl hkk ?_
      refine LoadOb.mk _ (hrk _) ?_
      refine IdxOb.mk ⟨b9, 0, none⟩ d.kids[k].toNat rfl (by omega) (by omega) ?_
      refine LoadOb.mk _ (intRow_rd hmemP hkP) ?_
      refine AllocOb.mk fun b13 hb13 hbM13 => ?_
      refine OtherOb.append TryzEOK rfl (by simp) (e := 3) rfl rfl rfl ko hko rfl (m := 1) rfl (news := [.int .i64 P'[d.kids[k].toNat]]) (by decide) (blk_rd (b := b13) (cs := [.int .i64 P'[d.kids[k].toNat]]) (k := 0) (n := 1) (T := 3) (.head _) (by simp)) rfl (Mr := ⟨b13, .cells #[.int .i64 P'[d.kids[k].toNat]] 3 (0, 0)⟩ :: (⟨b12, .cells d.cells.toArray 67 (0, 0)⟩ :: intRow b9 P' :: (out.blk 67 ++ back.blk 3))) List.perm_middle.symm (by simp only [maxLen]; omega) (by show (ko.n + 1) * 8 ≤ _; omega) ?_
      intro g2 c2 cur2 r1 r2 r3 r4
      refine ArithOb.mk _ (next_wr (i := k) (by omega)) ?_
      refine ⟨(k + 1, ⟨some g2, ko.n + 1, c2, cur2⟩, kl ++ [P'[d.kids[k].toNat]]), ⟨⟨by simp only; omega, ?_, ?_⟩, by simp only; omega⟩, .sub (.cons_cons _ (.cons _ (.refl _))) .refl, .cons .refl (.cons .refl (.cons .refl (.cons .refl (.cons .refl (.cons .refl (.cons .refl (.cons .refl (.cons .refl .nil)))))))), .cons rfl (.cons rfl .nil)⟩
      · simp only
        rw [List.map_append]
        exact app1_ok hko r1 r2 r3 r4
      · simp only
        rw [List.take_succ_eq_append_getElem hkk', List.map_append, ← hkl, List.map_cons, List.map_nil, hPg]
    have hge : d.kn ≤ k := by have : ¬ (k : Int) < (d.kn : Int) := of_decide_eq_false h2; omega
    rw [List.take_of_length_le (by omega)] at hkl
    have hnd : ∃ nd : Nd, nd = ⟨d.k, d.s0, d.s1, d.s2, d.s3, d.t, d.lo, d.hi, ko.a.map fun g => ⟨g, 0, none⟩, ko.n, ko.c, kl⟩ := ⟨_, rfl⟩
    obtain ⟨nd, hnd⟩ := hnd
    have hndc : splice d.cells (0 + 8) [ko.val] = nd.cells := by rw [hnd]; rfl
    refine StoreOb.addTo (ko.blk 3) (intRow b9 P' :: (out.blk 67 ++ back.blk 3)) d.cells _ rfl rfl rfl nd.cells hndc ?_
    have hmem2 : (⟨b12, .cells nd.cells.toArray 67 (0, 0)⟩ : Blk) ∈ ko.blk 3 ++ (⟨b12, .cells nd.cells.toArray 67 (0, 0)⟩ :: intRow b9 P' :: (out.blk 67 ++ back.blk 3)) := by simp
    refine LoadOb.mk nd.cells (b12rd 0 9 hmem2 (by rw [Nd.cells_len]; decide)) ?_
    refine AllocOb.mk fun b15 hb15 hbM15 => ?_
    have hperm15 : (⟨b15, .cells nd.cells.toArray 67 (0, 0)⟩ :: (ko.blk 3 ++ (⟨b12, .cells nd.cells.toArray 67 (0, 0)⟩ :: intRow b9 P' :: (out.blk 67 ++ back.blk 3)))).Perm (out.blk 67 ++ (⟨b15, .cells nd.cells.toArray 67 (0, 0)⟩ :: (ko.blk 3 ++ (⟨b12, .cells nd.cells.toArray 67 (0, 0)⟩ :: intRow b9 P' :: back.blk 3)))) := by
      simpa using List.perm_append_comm_assoc (⟨b15, .cells nd.cells.toArray 67 (0, 0)⟩ :: (ko.blk 3 ++ [⟨b12, .cells nd.cells.toArray 67 (0, 0)⟩, intRow b9 P'])) (out.blk 67) (back.blk 3)
    refine OtherOb.append TryzEOK rfl (by simp) (e := 67) rfl rfl rfl out hout rfl (m := 1) rfl (news := nd.cells) (by decide) (blk_rd (b := b15) (cs := nd.cells) (k := 0) (n := 9) (T := 67) (.head _) (by rw [Nd.cells_len]; decide)) rfl
      (Mr := ⟨b15, .cells nd.cells.toArray 67 (0, 0)⟩ :: (ko.blk 3 ++ (⟨b12, .cells nd.cells.toArray 67 (0, 0)⟩ :: intRow b9 P' :: back.blk 3))) ?_ (by simp only [maxLen]; omega) (by show (out.n + 1) * 96 ≤ _; omega) ?_
    · exact hperm15
    intro g3 c3 cur3 u1 u2 u3 u4
    refine ArithOb.mk ((bl.length : Int) - 1 - (out.n + 1 : Nat)) (wr_eq (by omega) (by omega)) ?_
    have hklb : ∀ c ∈ kl, 0 ≤ c ∧ c ≤ bl.length := fun c hc => by
      rw [hkl] at hc
      obtain ⟨q, hq, rfl⟩ := List.mem_map.1 hc
      have hq' := hkv q hq
      have hqP : q.toNat < P'.length := by omega
      exact hPb' (P'.getD q.toNat 0) (by simp only [List.getD_eq_getElem?_getD, List.getElem?_eq_getElem hqP, Option.getD_some]; exact List.getElem_mem _)
    intro hfa
    obtain ⟨J', hw, hle, hrs⟩ := OS.give (I := J) (b := 8) (e := 3) hko (by omega) (fun g hg => hfa.d ⟨g, .cells ko.cur.toArray 3 (0, 0)⟩ (by simp [OS.blk, hg])) (intRow b9 P' :: ([⟨g3, .cells cur3.toArray 67 (0, 0)⟩] ++ back.blk 3))
    refine ⟨(out.n + 1, P', ⟨some g3, out.n + 1, c3, cur3⟩, outN ++ [nd], J'), ⟨⟨by simp only; omega, hPl', ?_, by simp [hon], ?_, ?_, fun b o h => hle _ _ (hJ _ _ h), ?_, ?_⟩, by simp only; omega⟩, ?_, .cons .refl (.cons .refl (.cons .refl (.cons .refl (.cons .refl (.cons .refl .nil))))), .cons rfl (.cons rfl .nil)⟩
    · simp only
      rw [List.flatMap_append]
      have : ([nd].flatMap Nd.cells) = nd.cells := by simp
      rw [this]
      exact appk_ok hout (Nd.cells_len _) u1 u2 u3 u4
    · simp only
      rw [List.take_succ_eq_append_getElem hjr, List.foldl_append, hfold, List.foldl_cons, List.foldl_nil, hrev, hmm]
      show (P.set m ((outN.map Nd.ct).length : Int), outN.map Nd.ct ++ [(nodeAt t.ns m).withKids ((nodeAt t.ns m).kids.map fun k => (P.set m ((outN.map Nd.ct).length : Int)).getD k.toNat 0)]) = _
      rw [List.length_map, hon, hP', hna, ← hkl, List.map_append, hnd]
      rfl
    · simp only
      intro x hx
      rcases List.mem_append.1 hx with hx | hx
      · exact (hJok x hx).mono hle
      · simp only [List.mem_singleton] at hx
        rw [hx, hnd]
        refine ⟨hd.k, hd.s0, hd.s1, hd.s2, hd.s3, hd.t, hd.lo, hd.hi, hrs, fun c hc => ?_⟩
        have := hklb c hc
        exact ⟨by omega, by omega⟩
    · simp only [List.length_reverse]
      exact hPb'
    · simp only [List.length_reverse]
      intro x hx
      rcases List.mem_append.1 hx with hx | hx
      · exact hkb x hx
      · simp only [List.mem_singleton] at hx
        rw [hx, hnd]
        exact hklb
    · simp only
      refine .sub (M1 := ⟨g3, .cells cur3.toArray 67 (0, 0)⟩ :: (ko.blk 3 ++ (intRow b9 P' :: back.blk 3))) (.cons_cons _ (.cons _ (List.Sublist.append (.refl _) (.cons _ (.refl _))))) ?_
      refine .perm (M1 := ko.blk 3 ++ (intRow b9 P' :: ([(⟨g3, .cells cur3.toArray 67 (0, 0)⟩ : Blk)] ++ back.blk 3))) ?_ hw
      exact List.perm_middle.symm.trans (List.Perm.append_left _ (List.Perm.swap _ _ _))
  have hge : out.n = bl.length := by
    have : ¬ (0 : Int) ≤ (bl.length : Int) - 1 - (out.n : Int) := of_decide_eq_false h
    omega
  refine ArithOb.mk ((outN.length : Int) - 1) (wr_eq (by simp only [OS.val]; omega) (by omega)) ?_
  intro hfa
  obtain ⟨J', hw, hle, hrs⟩ := OS.give (I := J) (b := 96) (e := 67) hout (by omega) (fun g hg => hfa.d ⟨g, .cells out.cur.toArray 67 (0, 0)⟩ (by simp [OS.blk, hg])) []
  refine ⟨J', [], .sub (M1 := out.blk 67 ++ []) (by rw [List.append_nil]; exact .cons _ (List.sublist_append_left _ _)) hw, fun b o h => hle _ _ (hJ _ _ h), rfl, ⟨outN, out.a.map fun g => ⟨g, 0, none⟩, out.n, out.c, (outN.length : Int) - 1⟩, rfl, ⟨hrs, fun d hd => (hJok d hd).mono hle, ⟨by simp only; omega, by simp only; omega⟩⟩, ?_, rfl, by simp only; omega, fun d hd k hk => by have := hkb d hd k hk; omega⟩
  rw [List.take_of_length_le (by rw [List.length_reverse]; omega)] at hfold
  rw [subC, heq, hfold]
end Go.V

/-
  Walks: bonsairef04.Clean, of any right tree; Of, of any right kids.
-/
set_option linter.unusedVariables false
set_option linter.unusedSimpArgs false
namespace Go.V
open Go Go.Proofs

def cleanC (t : Tr) : List Nd := subC t.ns t.root
/-- How large trees may be, for the walks. -/
structure Fit (t : Tr) (W : Nat) : Prop where
  w : ∀ d ∈ t.ns, d.kn ≤ W
  b : t.n * W ≤ 1152921504606846976
  n : t.n ≤ 1099511627776

theorem RClean_gen {I : GH} {t : Tr} (ht : t.ok I) (hr : right t = true) {W : Nat} (hf : Fit t W) :
    Spec Tryz.prog 84 [t.val] I [] fun v I' M' => (∀ b o, I b = some o → I' b = some o) ∧ M' = [] ∧ ∃ t' : Tr, v = t'.val ∧ t'.ok I' ∧ t'.ns.map Nd.ct = cleanC t ∧ t'.root = (t'.ns.length : Int) - 1 ∧ t'.ns.length ≤ t.n ∧ ∀ d ∈ t'.ns, ∀ k ∈ d.kids, 0 ≤ k ∧ k ≤ t.n := by
  have hroot := right_root hr
  have htn := ht.n
  obtain ⟨r, hr'⟩ := Int.eq_ofNat_of_zero_le hroot.1
  have hspec := RSub_gen ht hr W hf.w hf.b hf.n (node := r) (by omega)
  rw [show ((r : Nat) : Int) = t.root from hr'.symm] at hspec
  refine spec_of_V [] TryzEOK Tryz.func84 rfl rfl rfl ?_
  intro B h0
  refine CallOb.mk [] [] _ (.refl _) hspec ?_
  rintro v I' M' - ⟨hI, rfl, t', rfl, h1, h2, h3, h4, h5⟩
  exact ⟨_, _, .refl, hI, rfl, t', rfl, h1, h2, h3, h4, h5⟩

theorem Rd.mono {I I' : GH} {M : List Blk} {a : Addr} {n : Nat} {vs : List Value} (h : Rd I M a n vs) (hI : ∀ b o, I b = some o → I' b = some o) : Rd I' M a n vs := by
  obtain ⟨h1, cs, T, fr, h2, h3⟩ := h
  exact ⟨h1, cs, T, fr, h2.imp (hI _ _) id, h3⟩
theorem Rd.sub {I : GH} {M M' : List Blk} {a : Addr} {n : Nat} {vs : List Value} (h : Rd I M a n vs) (hM : ∀ x ∈ M, x ∈ M') : Rd I M' a n vs := by
  obtain ⟨h1, cs, T, fr, h2, h3⟩ := h
  refine ⟨h1, cs, T, fr, h2.imp id ?_, h3⟩
  rintro ⟨x, hx, e1, e2⟩
  exact ⟨x, hM x hx, e1, e2⟩
theorem nd_ne {M A C : List Blk} (h : (M.map (·.num)).Nodup) (hM : M.Perm (A ++ C)) {x y : Blk} (hx : x ∈ A) (hy : y ∈ C) : x.num ≠ y.num := by
  have h2 := ((hM.map (·.num)).nodup_iff).1 h
  rw [List.map_append, List.nodup_append] at h2
  exact h2.2.2 _ (List.mem_map.2 ⟨x, hx, rfl⟩) _ (List.mem_map.2 ⟨y, hy, rfl⟩)

def ofStep (st : List Nd × List Int) (l : List Nd) : List Nd × List Int :=
  (st.1 ++ l.map (fun x => x.withKids (x.kids.map fun k => (st.1.length : Int) + k)), st.2 ++ [((st.1.length + l.length : Nat) : Int) - 1])
def ofNds (d : Nd) (ls : List (List Nd)) : List Nd := (ls.foldl ofStep ([], [])).1 ++ [d.withKids (ls.foldl ofStep ([], [])).2]

structure OfInv (I : GH) (L : List Tr) (x : Nat × OS × List Nd × OS × List Int × GH) : Prop where
  i : x.1 ≤ L.length
  out : x.2.1.ok 9 (x.2.2.1.flatMap Nd.cells)
  kd : x.2.2.2.1.ok 1 (x.2.2.2.2.1.map (.int .i64 ·))
  kl : x.2.2.2.2.1.length = x.1
  eq : ((L.take x.1).map cleanC).foldl ofStep ([], []) = (x.2.2.1.map Nd.ct, x.2.2.2.2.1)
  ok : ∀ d ∈ x.2.2.1, d.ok x.2.2.2.2.2
  le : ∀ b o, I b = some o → x.2.2.2.2.2 b = some o
  n : x.2.2.1.length ≤ ((L.take x.1).map (·.n)).sum
  kb : ∀ k ∈ x.2.2.2.2.1, -1 ≤ k ∧ k ≤ ((L.take x.1).map (·.n)).sum

theorem take_sum_le (L : List Tr) (i : Nat) : ((L.take i).map (·.n)).sum ≤ (L.map (·.n)).sum := by
  have h := congrArg (fun l : List Tr => (l.map (·.n)).sum) (List.take_append_drop i L)
  simp only [List.map_append, List.sum_append] at h
  omega
theorem take_sum_succ (L : List Tr) (i : Nat) (hi : i < L.length) : ((L.take (i + 1)).map (·.n)).sum = ((L.take i).map (·.n)).sum + L[i].n := by
  rw [List.take_succ_eq_append_getElem hi, List.map_append, List.sum_append]
  simp

set_option maxRecDepth 100000 in
set_option maxHeartbeats 8000000 in
theorem ROf_gen {I : GH} {M0 : List Blk} {d : Nd} (hd : d.ok I) {L : List Tr} {ka : Option Addr} {cc : Nat} (hrd : ∀ j (h : j < L.length), ∃ ad, ka = some ad ∧ Rd I M0 (ad.add (j * 2)) 2 L[j].cells)
    (hL : ∀ t ∈ L, t.ok I ∧ right t = true) {W : Nat} (hW : ∀ t ∈ L, Fit t W) (hn : (L.map (·.n)).sum ≤ 1099511627776) (hl : L.length ≤ 1099511627776) (hf : fits d L.length = true) :
    Spec Tryz.prog 67 [d.val, .slice ka L.length cc] I M0 fun v I' M' => (∀ b o, I b = some o → I' b = some o) ∧ M' = M0 ∧
      ∃ t' : Tr, v = .tuple #[t'.val, .bool true] ∧ t'.ok I' ∧ t'.root = (t'.ns.length : Int) - 1 ∧ t'.ns.map Nd.ct = ofNds d (L.map cleanC) := by
  refine spec_of_VF [] TryzEOK Tryz.func67 rfl rfl rfl ?_
  intro B h0
  refine CallOb.mk [] M0 _ (.refl _) (RFits_gen hd.k L.length) ?_
  rintro v I' M' - ⟨rfl, rfl, rfl⟩
  refine CondOb.mk (fun h => ?_) (fun _ => ?_)
  · exfalso
    rw [hf] at h
    cases h
  have hd8 : ∀ s : Value, splice d.cells 8 [s] = d.cells.take 8 ++ [s] := fun s => rfl
  refine LoopOb.inv (ι := Nat × OS × List Nd × OS × List Int × GH) (fun x => { fl := [(1, .val (.slice ka L.length cc)), (2, .ref 2 0), (4, .ref 4 0), (6, .val x.2.1.val), (7, .val (.int .i64 x.1))], cl := [(2, d.cells.take 8 ++ [x.2.2.2.1.val]), (4, [.slice none 0 0, .int .i64 0])], gi := x.2.2.2.2.2, mi := x.2.1.blk 67 ++ (x.2.2.2.1.blk 3 ++ M0) })
    (OfInv I' L) (fun x => L.length - x.1) ?_ ?_
  · exact ⟨(0, OS0, [], OS0, [], I'), ⟨Nat.zero_le _, OS0_ok 9, OS0_ok 1, rfl, rfl, (fun d hd => by cases hd), fun _ _ h => h, Nat.zero_le _, (fun k hk => by cases hk)⟩, .refl, .cons .refl (.cons .refl (.cons .refl (.cons .refl (.cons .refl .nil)))), .cons rfl (.cons rfl .nil)⟩
  rintro ⟨i, out, outN, kd, kdL, J⟩ ⟨hi, hout, hkd, hkl, hfold, hok, hJ, hon, hkb⟩
  simp only at hi hout hkd hkl hfold hok hJ hon hkb
  have hts := take_sum_le L i
  have hol : out.n = outN.length := by
    have := hout.len
    rw [flat_len _ 9 Nd.cells_len] at this
    omega
  have hkdl := hkd.len1
  refine CondOb.mk (fun h => ?_) (fun h => ?_)
  · have hlt : i < L.length := by have : (i : Int) < (L.length : Int) := of_decide_eq_true h; omega
    obtain ⟨ad, had, hrdi⟩ := hrd i hlt
    have hrdi : Rd J (out.blk 67 ++ (kd.blk 3 ++ M0)) (ad.add (i * 2)) 2 L[i].cells := (hrdi.mono hJ).sub fun x hx => by simp [hx]
    obtain ⟨htI, hrt⟩ := hL _ (List.getElem_mem hlt)
    have hfit := hW _ (List.getElem_mem hlt)
    have htJ := htI.mono hJ
    have hts2 := take_sum_le L (i + 1)
    rw [take_sum_succ L i hlt] at hts2
    have hTi : (L.take (i + 1)).map cleanC = (L.take i).map cleanC ++ [cleanC L[i]] := by
      rw [List.take_succ_eq_append_getElem hlt, List.map_append]
      rfl
    have hsucc := take_sum_succ L i hlt
    generalize hti : L[i] = t at htI hrt hfit htJ hrdi hts2 hTi hsucc
    refine IdxOb.mk ad i had rfl hlt ?_
    refine LoadOb.mk _ hrdi ?_
    refine CallOb.mk [] _ _ (.refl _) (RRight_gen htJ W hfit.w hfit.b) ?_
    rintro v I3 M3 - ⟨rfl, rfl, rfl⟩
    rw [hrt]
    refine CondOb.mk (fun h => by simp at h) (fun _ => ?_)
    refine IdxOb.mk ad i had rfl hlt ?_
    refine LoadOb.mk _ hrdi ?_
    refine CallOb.mk [] _ _ (.refl _) (RClean_gen htJ hrt hfit) ?_
    rintro v J1 M4 - ⟨hJ1, rfl, t', rfl, htok, htct, htroot, htlen, htkb⟩
    have htn := htok.n
    refine LoopOb.invF (ι := Nat × OS × List Nd × GH) (fun x => { fl := [(1, .val (.slice ka L.length cc)), (2, .ref 2 0), (4, .ref 4 0), (6, .val x.2.1.val), (7, .val (.int .i64 i)), (8, .ref 8 0), (9, .val (.int .i64 (outN.length : Nat))), (10, .val (.int .i64 x.1))], cl := [(2, d.cells.take 8 ++ [kd.val]), (4, [.slice none 0 0, .int .i64 0]), (8, t'.cells)], gi := x.2.2.2, mi := x.2.1.blk 67 ++ (kd.blk 3 ++ M0) })
      (fun x => x.1 ≤ t'.n ∧ x.2.1.ok 9 ((outN ++ x.2.2.1).flatMap Nd.cells) ∧ x.2.2.1.map Nd.ct = (t'.ns.take x.1).map (fun y => y.withKids (y.kids.map fun k => (outN.length : Int) + k)) ∧ (∀ y ∈ x.2.2.1, y.ok x.2.2.2) ∧ ∀ b o, J1 b = some o → x.2.2.2 b = some o) (fun x => t'.n - x.1) ?_ ?_
    · intro _
      refine ⟨(0, out, [], J1), ⟨Nat.zero_le _, by rw [List.append_nil]; exact hout, rfl, (fun y hy => by cases hy), fun _ _ h => h⟩, .refl, .cons .refl (.cons .refl (.cons .refl (.cons .refl (.cons .refl (.cons .refl (.cons ?_ (.cons .refl .nil))))))), .cons rfl (.cons rfl (.cons rfl .nil))⟩
      simp only [← hol]
      exact .refl
    rintro ⟨k, ou, nw, J2⟩ ⟨hk, hou, hnw, hnok, hJ2⟩
    simp only at hk hou hnw hnok hJ2
    have hnl : nw.length = k := by
      have := congrArg List.length hnw
      simpa [htn, Nat.min_eq_left hk] using this
    have houl : ou.n = outN.length + k := by
      have := hou.len
      rw [flat_len _ 9 Nd.cells_len, List.length_append, hnl] at this
      omega
    refine CondOb.mk (fun h2 => ?_) (fun h2 => ?_)
    · have hkt : k < t'.n := by have : (k : Int) < (t'.n : Int) := of_decide_eq_true h2; omega
      have hkt' : k < t'.ns.length := by omega
      obtain ⟨an, han, hrn⟩ := (htok.mono hJ2).rs.row Nd.cells_len hkt hkt'
      have hx := (htok.ns _ (List.getElem_mem hkt')).mono hJ2
      have hxkb := htkb _ (List.getElem_mem hkt')
      have hxn := hx.kn
      have hxc := hx.rs.cap
      have htk : (t'.ns.take (k + 1)) = t'.ns.take k ++ [t'.ns[k]] := List.take_succ_eq_append_getElem hkt'
      generalize hxx : t'.ns[k] = x at hrn hx hxkb hxn hxc htk
      refine IdxOb.mk an k han rfl hkt ?_
      refine LoadOb.mk _ (hrn _) ?_
      refine LoopOb.inv (ι := Nat × OS × List Int) (fun y => { fl := [(1, .val (.slice ka L.length cc)), (2, .ref 2 0), (4, .ref 4 0), (6, .val ou.val), (7, .val (.int .i64 i)), (8, .ref 8 0), (9, .val (.int .i64 (outN.length : Nat))), (10, .val (.int .i64 k)), (11, .ref 11 0), (12, .val y.2.1.val), (13, .val (.int .i64 y.1))], cl := [(2, d.cells.take 8 ++ [kd.val]), (4, [.slice none 0 0, .int .i64 0]), (8, t'.cells), (11, x.cells)], gi := J2, mi := y.2.1.blk 3 ++ (ou.blk 67 ++ (kd.blk 3 ++ M0)) })
        (fun y => y.1 ≤ x.kn ∧ y.2.1.ok 1 (y.2.2.map (.int .i64 ·)) ∧ y.2.2 = (x.kids.take y.1).map fun k => (outN.length : Int) + k) (fun y => x.kn - y.1) ?_ ?_
      · exact ⟨(0, OS0, []), ⟨Nat.zero_le _, OS0_ok 1, rfl⟩, .refl, .cons .refl (.cons .refl (.cons .refl (.cons .refl (.cons .refl (.cons .refl (.cons .refl (.cons .refl (.cons .refl (.cons .refl (.cons .refl .nil)))))))))), .cons rfl (.cons rfl (.cons rfl (.cons rfl .nil)))⟩
      rintro ⟨j, ow, ol⟩ ⟨hj, how, hol2⟩
      simp only at hj how hol2
      have howl := how.len1
      have hjl : ol.length ≤ j := by
        rw [hol2, List.length_map]
        exact List.length_take_le _ _
      refine CondOb.mk (fun h3 => ?_) (fun h3 => ?_)
      · have hjx : j < x.kn := by have : (j : Int) < (x.kn : Int) := of_decide_eq_true h3; omega
        have hjx' : j < x.kids.length := by omega
        obtain ⟨ak, hak, hrk⟩ := hx.rs.one hjx hjx'
        have hkv := hxkb _ (List.getElem_mem hjx')
        refine IdxOb.mk ak j hak rfl hjx ?_
        refine LoadOb.mk _ (hrk _) ?_
        refine ArithOb.mk ((outN.length : Int) + x.kids[j]) (wr_eq rfl (by have := hfit.n; omega)) ?_
        refine AllocOb.mk fun b13 hb13 hbM13 => ?_
        refine OtherOb.append TryzEOK rfl (by simp) (e := 3) rfl rfl rfl ow how rfl (m := 1) rfl (news := [.int .i64 ((outN.length : Int) + x.kids[j])]) (by decide) (blk_rd (b := b13) (cs := [.int .i64 ((outN.length : Int) + x.kids[j])]) (k := 0) (n := 1) (T := 3) (.head _) (by simp)) rfl (Mr := ⟨b13, .cells #[.int .i64 ((outN.length : Int) + x.kids[j])] 3 (0, 0)⟩ :: (ou.blk 67 ++ (kd.blk 3 ++ M0))) List.perm_middle.symm (by simp only [maxLen]; omega) (by show (ow.n + 1) * 8 ≤ _; omega) ?_
        intro g2 c2 cur2 r1 r2 r3 r4
        refine ArithOb.mk _ (next_wr (i := j) (by omega)) ?_
        refine ⟨(j + 1, ⟨some g2, ow.n + 1, c2, cur2⟩, ol ++ [(outN.length : Int) + x.kids[j]]), ⟨⟨by simp only; omega, ?_, ?_⟩, by simp only; omega⟩, .sub (.cons_cons _ (.cons _ (.refl _))) .refl, .cons .refl (.cons .refl (.cons .refl (.cons .refl (.cons .refl (.cons .refl (.cons .refl (.cons .refl (.cons .refl (.cons .refl (.cons .refl .nil)))))))))), .cons rfl (.cons rfl (.cons rfl (.cons rfl .nil)))⟩
        · simp only
          rw [List.map_append]
          exact app1_ok how r1 r2 r3 r4
        · simp only
          rw [List.take_succ_eq_append_getElem hjx', List.map_append, ← hol2]
          rfl
      have hge : x.kn ≤ j := by have : ¬ (j : Int) < (x.kn : Int) := of_decide_eq_false h3; omega
      rw [List.take_of_length_le (by omega)] at hol2
      obtain ⟨nd, hnd⟩ : ∃ nd : Nd, nd = ⟨x.k, x.s0, x.s1, x.s2, x.s3, x.t, x.lo, x.hi, ow.a.map fun g => ⟨g, 0, none⟩, ow.n, ow.c, ol⟩ := ⟨_, rfl⟩
      have hndc : nd.cells = [.int .u8 x.k, .int .u64 x.s0, .int .u64 x.s1, .int .u64 x.s2, .int .u64 x.s3, .string x.t, .int .i64 x.lo, .int .i64 x.hi, ow.val] := by rw [hnd]; rfl
      refine AllocOb.mk fun b20 hb20 hbM20 => ?_
      refine OtherOb.append TryzEOK rfl (by simp) (e := 67) rfl rfl rfl ou hou rfl (m := 1) rfl (news := nd.cells) (by decide) (by rw [hndc]; exact blk_rd (b := b20) (cs := [.int .u8 x.k, .int .u64 x.s0, .int .u64 x.s1, .int .u64 x.s2, .int .u64 x.s3, .string x.t, .int .i64 x.lo, .int .i64 x.hi, ow.val]) (k := 0) (n := 9) (T := 67) (.head _) (Nat.le_of_ble_eq_true rfl)) (by rw [hndc]; rfl)
        (Mr := ⟨b20, .cells [.int .u8 x.k, .int .u64 x.s0, .int .u64 x.s1, .int .u64 x.s2, .int .u64 x.s3, .string x.t, .int .i64 x.lo, .int .i64 x.hi, ow.val].toArray 67 (0, 0)⟩ :: (ow.blk 3 ++ (kd.blk 3 ++ M0))) ?_ (by simp only [maxLen]; omega) (by show (ou.n + 1) * 96 ≤ _; omega) ?_
      · have := List.perm_append_comm_assoc ((⟨b20, .cells [.int .u8 x.k, .int .u64 x.s0, .int .u64 x.s1, .int .u64 x.s2, .int .u64 x.s3, .string x.t, .int .i64 x.lo, .int .i64 x.hi, ow.val].toArray 67 (0, 0)⟩ : Blk) :: ow.blk 3) (ou.blk 67) (kd.blk 3 ++ M0)
        exact this
      intro g3 c3 cur3 u1 u2 u3 u4
      refine ArithOb.mk _ (next_wr (i := k) (by omega)) ?_
      intro hfa
      have hM : ∀ g, ow.a = some g → (⟨g, .cells ow.cur.toArray 3 (0, 0)⟩ : Blk) ∈ ow.blk 3 := fun g hg => by simp [OS.blk, hg]
      obtain ⟨J3, hw, hle, hrs, -⟩ := OS.giveF (I := J2) (foot := M0.map (·.num)) (b := 8) (e := 3) how (by omega) (fun g hg => ⟨hfa.d ⟨g, .cells ow.cur.toArray 3 (0, 0)⟩ (by simp [hM g hg]), fun hm => by
        obtain ⟨y, hy, e⟩ := List.mem_map.1 hm
        refine nd_ne hfa.nd (A := ⟨g3, .cells cur3.toArray 67 (0, 0)⟩ :: ⟨b20, .cells [.int .u8 x.k, .int .u64 x.s0, .int .u64 x.s1, .int .u64 x.s2, .int .u64 x.s3, .string x.t, .int .i64 x.lo, .int .i64 x.hi, ow.val].toArray 67 (0, 0)⟩ :: (ow.blk 3 ++ kd.blk 3)) (C := M0) (by simp) (x := ⟨g, .cells ow.cur.toArray 3 (0, 0)⟩) (by simp [hM g hg]) hy e.symm⟩) ([(⟨g3, .cells cur3.toArray 67 (0, 0)⟩ : Blk)] ++ (kd.blk 3 ++ M0))
      refine ⟨(k + 1, ⟨some g3, ou.n + 1, c3, cur3⟩, nw ++ [nd], J3), ⟨⟨by simp only; omega, ?_, ?_, ?_, fun b o h => hle _ _ (hJ2 _ _ h)⟩, by simp only; omega⟩, ?_, .cons .refl (.cons .refl (.cons .refl (.cons .refl (.cons .refl (.cons .refl (.cons .refl (.cons .refl .nil))))))), .cons rfl (.cons rfl (.cons rfl .nil))⟩
      · simp only
        rw [← List.append_assoc, List.flatMap_append]
        have : ([nd].flatMap Nd.cells) = nd.cells := by simp
        rw [this]
        exact appk_ok hou (Nd.cells_len _) u1 u2 u3 u4
      · simp only
        rw [htk, List.map_append, List.map_append, ← hnw, List.map_cons, List.map_nil, hnd, hol2]
        rfl
      · simp only
        intro y hy
        rcases List.mem_append.1 hy with hy | hy
        · exact (hnok y hy).mono hle
        · simp only [List.mem_singleton] at hy
          rw [hy, hnd]
          refine ⟨hx.k, hx.s0, hx.s1, hx.s2, hx.s3, hx.t, hx.lo, hx.hi, hrs, fun c hc => ?_⟩
          simp only at hc
          rw [hol2] at hc
          obtain ⟨q, hq, rfl⟩ := List.mem_map.1 hc
          have := hxkb q hq
          have := hfit.n
          exact ⟨by omega, by omega⟩
      · simp only
        refine .sub (M1 := (⟨g3, .cells cur3.toArray 67 (0, 0)⟩ : Blk) :: (ow.blk 3 ++ (kd.blk 3 ++ M0))) (.cons_cons _ (.cons _ (.refl _))) ?_
        exact .perm (M1 := ow.blk 3 ++ ([(⟨g3, .cells cur3.toArray 67 (0, 0)⟩ : Blk)] ++ (kd.blk 3 ++ M0))) List.perm_middle.symm (hw _ _ .refl)
    have hge : k = t'.n := by have : ¬ (k : Int) < (t'.n : Int) := of_decide_eq_false h2; omega
    rw [List.take_of_length_le (by omega)] at hnw
    subst hge
    refine ArithOb.mk ((outN.length + t'.n : Nat) - 1 : Int) (wr_eq (by simp only [OS.val]; omega) (by omega)) ?_
    refine AllocOb.mk fun b21 hb21 hbM21 => ?_
    refine OtherOb.append TryzEOK rfl (by simp) (e := 3) rfl rfl rfl kd hkd rfl (m := 1) rfl (news := [.int .i64 ((outN.length + t'.n : Nat) - 1 : Int)]) (by decide) (blk_rd (b := b21) (cs := [.int .i64 ((outN.length + t'.n : Nat) - 1 : Int)]) (k := 0) (n := 1) (T := 3) (.head _) (by simp)) rfl (Mr := ⟨b21, .cells #[.int .i64 ((outN.length + t'.n : Nat) - 1 : Int)] 3 (0, 0)⟩ :: (ou.blk 67 ++ M0)) ?_ (by simp only [maxLen]; omega) (by show (kd.n + 1) * 8 ≤ _; omega) ?_
    · have := List.perm_append_comm_assoc ((⟨b21, .cells #[.int .i64 ((outN.length + t'.n : Nat) - 1 : Int)] 3 (0, 0)⟩ : Blk) :: ou.blk 67) (kd.blk 3) M0
      exact this
    intro g2 c2 cur2 r1 r2 r3 r4
    refine ArithOb.mk _ (next_wr (i := i) (by omega)) ?_
    refine ⟨(i + 1, ou, outN ++ nw, ⟨some g2, kd.n + 1, c2, cur2⟩, kdL ++ [((outN.length + t'.n : Nat) - 1 : Int)], J2), ⟨⟨by simp only; omega, hou, ?_, by simp [hkl], ?_, ?_, fun b o h => hJ2 _ _ (hJ1 _ _ (hJ _ _ h)), ?_, ?_⟩, by simp only; omega⟩, ?_, .cons .refl (.cons .refl (.cons .refl (.cons .refl (.cons .refl .nil)))), .cons rfl (.cons rfl .nil)⟩
    · simp only
      rw [List.map_append]
      exact app1_ok hkd r1 r2 r3 r4
    · simp only
      rw [hTi, List.foldl_append, hfold, List.foldl_cons, List.foldl_nil, ofStep, ← htct, List.map_append, hnw]
      simp only [List.length_map, List.map_map, htn]
      rfl
    · simp only
      intro y hy
      rcases List.mem_append.1 hy with hy | hy
      · exact (hok y hy).mono fun b o h => hJ2 _ _ (hJ1 _ _ h)
      · exact hnok y hy
    · simp only [List.length_append]
      omega
    · simp only
      intro q hq
      rcases List.mem_append.1 hq with hq | hq
      · have := hkb q hq
        omega
      · simp only [List.mem_singleton] at hq
        omega
    · simp only
      refine .sub (M1 := (⟨g2, .cells cur2.toArray 3 (0, 0)⟩ : Blk) :: (ou.blk 67 ++ M0)) (.cons_cons _ (.cons _ (.refl _))) ?_
      exact .perm (M1 := ou.blk 67 ++ ([(⟨g2, .cells cur2.toArray 3 (0, 0)⟩ : Blk)] ++ M0)) List.perm_middle.symm .refl
  have hge : i = L.length := by have : ¬ (i : Int) < (L.length : Int) := of_decide_eq_false h; omega
  rw [List.take_of_length_le (by omega)] at hfold hon hkb hts
  obtain ⟨nd, hnd⟩ : ∃ nd : Nd, nd = ⟨d.k, d.s0, d.s1, d.s2, d.s3, d.t, d.lo, d.hi, kd.a.map fun g => ⟨g, 0, none⟩, kd.n, kd.c, kdL⟩ := ⟨_, rfl⟩
  have hndc : nd.cells = [.int .u8 d.k, .int .u64 d.s0, .int .u64 d.s1, .int .u64 d.s2, .int .u64 d.s3, .string d.t, .int .i64 d.lo, .int .i64 d.hi, kd.val] := by rw [hnd]; rfl
  refine AllocOb.mk fun b20 hb20 hbM20 => ?_
  refine OtherOb.append TryzEOK rfl (by simp) (e := 67) rfl rfl rfl out hout rfl (m := 1) rfl (news := nd.cells) (by decide) (by rw [hndc]; exact blk_rd (b := b20) (cs := [.int .u8 d.k, .int .u64 d.s0, .int .u64 d.s1, .int .u64 d.s2, .int .u64 d.s3, .string d.t, .int .i64 d.lo, .int .i64 d.hi, kd.val]) (k := 0) (n := 9) (T := 67) (.head _) (Nat.le_of_ble_eq_true rfl)) (by rw [hndc]; rfl)
    (Mr := ⟨b20, .cells [.int .u8 d.k, .int .u64 d.s0, .int .u64 d.s1, .int .u64 d.s2, .int .u64 d.s3, .string d.t, .int .i64 d.lo, .int .i64 d.hi, kd.val].toArray 67 (0, 0)⟩ :: (kd.blk 3 ++ M0)) List.perm_middle.symm (by simp only [maxLen]; omega) (by show (out.n + 1) * 96 ≤ _; omega) ?_
  intro g3 c3 cur3 u1 u2 u3 u4
  have hok1 := appk_ok (g := g3) hout (Nd.cells_len nd) u1 u2 u3 u4
  refine ArithOb.mk ((outN.length : Nat) : Int) (wr_eq (by omega) (by omega)) ?_
  intro hfa
  have hM : ∀ g, kd.a = some g → (⟨g, .cells kd.cur.toArray 3 (0, 0)⟩ : Blk) ∈ kd.blk 3 := fun g hg => by simp [OS.blk, hg]
  have hg3 : ∀ g, kd.a = some g → g ≠ g3 := fun g hg e =>
    nd_ne hfa.nd (A := [⟨g3, .cells cur3.toArray 67 (0, 0)⟩]) (C := ⟨b20, .cells [.int .u8 d.k, .int .u64 d.s0, .int .u64 d.s1, .int .u64 d.s2, .int .u64 d.s3, .string d.t, .int .i64 d.lo, .int .i64 d.hi, kd.val].toArray 67 (0, 0)⟩ :: (kd.blk 3 ++ M0)) (.refl _) (x := ⟨g3, .cells cur3.toArray 67 (0, 0)⟩) (by simp) (y := ⟨g, .cells kd.cur.toArray 3 (0, 0)⟩) (by simp [hM g hg]) e.symm
  obtain ⟨J5, w1, w2, w3, w4⟩ := OS.giveF (I := J) (foot := M0.map (·.num)) (b := 8) (e := 3) hkd (by omega) (fun g hg => ⟨hfa.d ⟨g, .cells kd.cur.toArray 3 (0, 0)⟩ (by simp [hM g hg]), fun hm => by
    obtain ⟨y, hy, e⟩ := List.mem_map.1 hm
    refine nd_ne hfa.nd (A := ⟨g3, .cells cur3.toArray 67 (0, 0)⟩ :: ⟨b20, .cells [.int .u8 d.k, .int .u64 d.s0, .int .u64 d.s1, .int .u64 d.s2, .int .u64 d.s3, .string d.t, .int .i64 d.lo, .int .i64 d.hi, kd.val].toArray 67 (0, 0)⟩ :: kd.blk 3) (C := M0) (.refl _) (x := ⟨g, .cells kd.cur.toArray 3 (0, 0)⟩) (by simp [hM g hg]) hy e.symm⟩) ([(⟨g3, .cells cur3.toArray 67 (0, 0)⟩ : Blk)] ++ M0)
  have hg3I : J5 g3 = none := by
    rw [w4 g3 (fun hg => hg3 g3 hg rfl)]
    exact hfa.d ⟨g3, .cells cur3.toArray 67 (0, 0)⟩ (.head _)
  obtain ⟨J6, x1, x2, x3, x4⟩ := OS.giveF (I := J5) (foot := M0.map (·.num)) (b := 96) (e := 67) hok1 (by show (out.n + 1) * 96 ≤ _; omega) (fun g hg => by
    cases hg
    refine ⟨hg3I, fun hm => ?_⟩
    obtain ⟨y, hy, e⟩ := List.mem_map.1 hm
    exact nd_ne hfa.nd (A := [⟨g3, .cells cur3.toArray 67 (0, 0)⟩]) (C := ⟨b20, .cells [.int .u8 d.k, .int .u64 d.s0, .int .u64 d.s1, .int .u64 d.s2, .int .u64 d.s3, .string d.t, .int .i64 d.lo, .int .i64 d.hi, kd.val].toArray 67 (0, 0)⟩ :: (kd.blk 3 ++ M0)) (.refl _) (x := ⟨g3, .cells cur3.toArray 67 (0, 0)⟩) (by simp) (by simp [hy]) e.symm) M0
  refine ⟨J6, M0, .sub (M1 := (⟨g3, .cells cur3.toArray 67 (0, 0)⟩ : Blk) :: (kd.blk 3 ++ M0)) (.cons_cons _ (.cons _ (.refl _))) (.perm (M1 := kd.blk 3 ++ ([(⟨g3, .cells cur3.toArray 67 (0, 0)⟩ : Blk)] ++ M0)) List.perm_middle.symm (w1 _ _ (x1 _ _ .refl))),
    fun b o h => x2 _ _ (w2 _ _ (hJ _ _ h)), rfl, ⟨outN ++ [nd], some ⟨g3, 0, none⟩, out.n + 1, c3, (outN.length : Nat)⟩, rfl, ⟨?_, fun y hy => ?_, ⟨by simp only; omega, by simp only; omega⟩⟩, by simp, ?_⟩
  · have : ((outN ++ [nd]).flatMap Nd.cells) = outN.flatMap Nd.cells ++ nd.cells := by simp
    rw [this]
    exact x3
  · rcases List.mem_append.1 hy with hy | hy
    · exact (hok y hy).mono fun b o h => x2 _ _ (w2 _ _ h)
    · simp only [List.mem_singleton] at hy
      rw [hy, hnd]
      refine ⟨hd.k, hd.s0, hd.s1, hd.s2, hd.s3, hd.t, hd.lo, hd.hi, w3.mono x2, fun c hc => ?_⟩
      have := hkb c hc
      exact ⟨by omega, by omega⟩
  · simp only
    rw [ofNds, hfold, List.map_append, hnd]
    rfl
end Go.V

/-
  Walks: bonsairef04.Size, Depth, May; bonsairef05.Normal.
-/
set_option linter.unusedVariables false
set_option linter.unusedSimpArgs false
namespace Go.V
open Go Go.Proofs

theorem RSize_spec {I : GH} {t : Tr} (ht : t.ok I) {W : Nat} (hf : Fit t W) : Spec Tryz.prog 95 [t.val] I [] (fun v I' M' => v = .int .i64 (sizeT t : Nat) ∧ I' = I ∧ M' = []) := by
  refine spec_of_V [] TryzEOK Tryz.func95 rfl rfl rfl ?_
  intro B h0
  refine CallOb.mk [] [] _ (.refl _) (RRight_gen ht W hf.w hf.b) ?_
  rintro v J N - ⟨rfl, hJ, rfl⟩
  subst J
  refine CondOb.mk (fun h => ?_) (fun h => ?_)
  · refine ⟨_, _, .refl, ?_, rfl, rfl⟩
    simp [sizeT, show right t = false by simpa using h]
  · refine ⟨_, _, .refl, ?_, rfl, rfl⟩
    simp [sizeT, show right t = true by simpa using h]

set_option maxHeartbeats 1000000 in
theorem RDepth_spec {I : GH} {t : Tr} (ht : t.ok I) {W : Nat} (hf : Fit t W) : Spec Tryz.prog 96 [t.val] I [] (fun v I' M' => v = .int .i64 (depth t) ∧ I' = I ∧ M' = []) := by
  refine spec_of_V [] TryzEOK Tryz.func96 rfl rfl rfl ?_
  intro B h0
  have hn := ht.n
  have hcap := ht.rs.cap
  refine CallOb.mk [] [] _ (.refl _) (RRight_gen ht W hf.w hf.b) ?_
  rintro v J N - ⟨rfl, hJ, rfl⟩
  subst J
  refine CondOb.mk (fun h => ?_) (fun h => ?_)
  · refine ⟨_, _, .refl, ?_, rfl, rfl⟩
    simp [depth, show right t = false by simpa using h]
  · have hr : right t = true := by simpa using h
    have hkids := right_kids hr
    obtain ⟨g1, g2⟩ := right_root hr
    refine MakeOb.mk t.n t.n rfl rfl (Nat.le_refl _) (by show 8 * t.n ≤ _; omega) (by omega) ?_
    refine AllocOb.mk fun b hb hbM => ?_
    refine LoopOb.inv (ι := Nat × List Int)
      (fun x => { fl := [(1, .ref 1 0), (3, .val (.slice (some ⟨b, 0, none⟩) t.n t.n)), (4, .val (.int .i64 x.1))], cl := [(1, t.cells)], gi := I, mi := [intRow b x.2] })
      (fun x => x.1 ≤ t.n ∧ x.2.length = t.n ∧ (∀ j, 0 ≤ x.2.getD j 0 ∧ x.2.getD j 0 ≤ x.1) ∧ (∀ j, x.1 ≤ j → x.2.getD j 0 = 0) ∧ depthsFrom 0 t.ns (List.replicate t.ns.length 0) = depthsFrom x.1 (t.ns.drop x.1) x.2) (fun x => t.n - x.1) ?_ ?_
    · have z : ∀ j, (List.replicate t.n (0 : Int)).getD j 0 = 0 := fun j => by
        by_cases hj : j < t.n <;> simp [List.getD_eq_getElem?_getD, hj]
      refine ⟨(0, List.replicate t.n 0), ⟨by omega, by simp, fun j => by rw [z]; simp, fun j _ => z j, by simp [hn]⟩, ?_, .cons .refl (.cons .refl (.cons .refl .nil)), .cons rfl .nil⟩
      show Wk _ _ [⟨b, .cells (rowOf [Value.int .i64 0] (t.n * 1)).toArray 3 (0, 0)⟩] _ [intRow b (List.replicate t.n 0)]
      rw [rowOf_one, Nat.mul_one]
      simp only [intRow, List.map_replicate]
      exact .refl
    · rintro ⟨i, dp⟩ ⟨hi1, hi2, hi3, hi4, hi5⟩
      simp only at hi1 hi2 hi3 hi4 hi5
      refine CondOb.mk (fun h => ?_) (fun h => ?_)
      · have hlt : i < t.n := by simpa using h
        have hlt' : i < t.ns.length := by omega
        obtain ⟨ad, had, hrd⟩ := ht.rs.row Nd.cells_len hlt hlt'
        have hdk := ht.ns t.ns[i] (List.getElem_mem hlt')
        have hkn := hdk.kn
        have hdrop : t.ns.drop i = t.ns[i] :: t.ns.drop (i + 1) := List.drop_eq_getElem_cons hlt'
        have hrk8 : ∀ M, Rd I M ((ad.add (i * 9)).add 8) 1 [.slice t.ns[i].ka t.ns[i].kn t.ns[i].kc] := fun M => (hrd M).part (k := 8) (m := 1) (by decide)
        refine LoopOb.inv (ι := Nat × Int)
          (fun x => { fl := [(1, .ref 1 0), (3, .val (.slice (some ⟨b, 0, none⟩) t.n t.n)), (4, .val (.int .i64 i)), (5, .val (.int .i64 x.1))], cl := [(1, t.cells)], gi := I, mi := [intRow b (dp.set i x.2)] })
          (fun x => x.1 ≤ t.ns[i].kn ∧ 0 ≤ x.2 ∧ x.2 ≤ i ∧ kidMax dp t.ns[i].kids 0 = kidMax dp (t.ns[i].kids.drop x.1) x.2) (fun x => t.ns[i].kn - x.1) ?_ ?_
        · refine ⟨(0, 0), ⟨by omega, by omega, by simp, rfl⟩, ?_, .cons .refl (.cons .refl (.cons .refl (.cons .refl .nil))), .cons rfl .nil⟩
          have e : dp.set i 0 = dp := by
            have h1 := hi4 i (Nat.le_refl _)
            rw [List.getD_eq_getElem?_getD] at h1
            apply List.ext_getElem?
            intro j
            rw [List.getElem?_set]
            split
            · rename_i e
              subst e
              have : i < dp.length := by omega
              simp [this] at h1 ⊢
              exact h1.symm
            · rfl
          simp only
          rw [e]
          exact .refl
        · rintro ⟨j, m⟩ ⟨hj1, hj2, hj3, hj4⟩
          simp only at hj1 hj2 hj3 hj4
          refine IdxOb.mk ad i had rfl hlt ?_
          refine LoadOb.mk _ (hrk8 _) ?_
          refine CondOb.mk (fun h => ?_) (fun h => ?_)
          · have hjl : j < t.ns[i].kn := by simpa using h
            have hjl' : j < t.ns[i].kids.length := by omega
            obtain ⟨ak, hak, hrk⟩ := hdk.rs.one hjl hjl'
            have hkd : t.ns[i].kids.drop j = t.ns[i].kids[j] :: t.ns[i].kids.drop (j + 1) := List.drop_eq_getElem_cons hjl'
            have hk := hkids i hlt' t.ns[i].kids[j] (List.getElem_mem hjl')
            have hk0 : t.ns[i].kids[j] = ((t.ns[i].kids[j].toNat : Nat) : Int) := by omega
            have hkl : t.ns[i].kids[j].toNat < t.n := by omega
            refine CodeOb.draw TryzEOK rfl rfl rfl ?_
            have hil : i < (dp.set i m).length := by simp; omega
            have hkl' : t.ns[i].kids[j].toNat < (dp.set i m).length := by simp; omega
            have hii : (dp.set i m)[i] = m := by simp
            have hkk : (dp.set i m)[t.ns[i].kids[j].toNat] = dp.getD t.ns[i].kids[j].toNat 0 := by
              have hne : i ≠ t.ns[i].kids[j].toNat := by omega
              have h9 : t.ns[i].kids[j].toNat < dp.length := by omega
              rw [List.getElem_set, if_neg hne]
              simp [List.getD_eq_getElem?_getD, h9]
            refine IdxOb.mk ⟨b, 0, none⟩ i rfl rfl hlt ?_
            refine LoadOb.mk [.int .i64 m] (intRow_rd' hil hii (by simp)) ?_
            refine IdxOb.mk ad i had rfl hlt ?_
            refine LoadOb.mk _ (hrk8 _) ?_
            refine IdxOb.mk ak j hak rfl hjl ?_
            refine LoadOb.mk [.int .i64 t.ns[i].kids[j]] (hrk _) ?_
            refine IdxOb.mk ⟨b, 0, none⟩ t.ns[i].kids[j].toNat rfl hk0 hkl ?_
            refine LoadOb.mk [.int .i64 (dp.getD t.ns[i].kids[j].toNat 0)] (intRow_rd' hkl' hkk (by simp)) ?_
            refine IdxOb.mk ⟨b, 0, none⟩ i rfl rfl hlt ?_
            refine StoreOb.add [] [] _ 3 rfl ?_ rfl ?_
            · simp only [List.size_toArray, List.length_map]
              show 0 + i * 1 + 1 ≤ _
              simp
              omega
            have hwr : IntKind.i64.wrap ((j : Int) + 1) = ((j + 1 : Nat) : Int) := by
              rw [wrap_i64 ⟨by omega, by have := hdk.rs.cap; omega⟩]
              omega
            refine ArithOb.mk _ hwr ?_
            have h3k := hi3 t.ns[i].kids[j].toNat
            refine ⟨(j + 1, max m (dp.getD t.ns[i].kids[j].toNat 0)), ⟨⟨by omega, by simp only; omega, by simp only; omega, ?_⟩, by show _ < _; simp only; omega⟩, ?_, .cons .refl (.cons .refl (.cons .refl (.cons .refl .nil))), .cons rfl .nil⟩
            · simp only
              rw [hj4, hkd]
              rfl
            · have e := intRow_set (dp.set i m) i hil (max m (dp.getD t.ns[i].kids[j].toNat 0))
              simp only [intRow]
              rw [List.set_set] at e
              rw [← e]
              simp only [Nat.zero_add, Nat.mul_one]
              exact .refl
          · have hjl : ¬ j < t.ns[i].kn := by simpa using h
            have hje : t.ns[i].kids.drop j = [] := List.drop_eq_nil_of_le (by omega)
            have hm : kidMax dp t.ns[i].kids 0 = m := by rw [hj4, hje]; rfl
            have hil : i < (dp.set i m).length := by simp; omega
            have hii : (dp.set i m)[i] = m := by simp
            have hwm : IntKind.i64.wrap (m + 1) = m + 1 := wrap_i64 ⟨by omega, by omega⟩
            have hwr : IntKind.i64.wrap ((i : Int) + 1) = ((i + 1 : Nat) : Int) := by
              rw [wrap_i64 ⟨by omega, by omega⟩]
              omega
            refine IdxOb.mk ⟨b, 0, none⟩ i rfl rfl hlt ?_
            refine LoadOb.mk [.int .i64 m] (intRow_rd' hil hii (by simp)) ?_
            refine ArithOb.mk _ hwm ?_
            refine IdxOb.mk ⟨b, 0, none⟩ i rfl rfl hlt ?_
            refine StoreOb.add [] [] _ 3 rfl ?_ rfl ?_
            · simp only [List.size_toArray, List.length_map]
              show 0 + i * 1 + 1 ≤ _
              omega
            refine ArithOb.mk _ hwr ?_
            refine ⟨(i + 1, dp.set i (m + 1)), ⟨⟨by omega, by simp [hi2], ?_, ?_, ?_⟩, by show _ < _; simp only; omega⟩, ?_, .cons .refl (.cons .refl (.cons .refl .nil)), .cons rfl .nil⟩
            · intro q
              have h3q := hi3 q
              simp only [List.getD_eq_getElem?_getD, List.getElem?_set] at h3q ⊢
              split
              · rename_i e
                subst e
                have : i < dp.length := by omega
                simp [this]
                omega
              · omega
            · intro q hq
              have h4q := hi4 q (by omega)
              simp only at hq
              simp only [List.getD_eq_getElem?_getD, List.getElem?_set] at h4q ⊢
              rw [if_neg (by omega)]
              exact h4q
            · simp only
              rw [hi5, hdrop]
              simp only [depthsFrom, hm]
            · have e := intRow_set (dp.set i m) i hil (m + 1)
              simp only [intRow]
              rw [List.set_set] at e
              rw [← e]
              simp only [Nat.zero_add, Nat.mul_one]
              exact .refl
      · have hge : ¬ i < t.n := by simpa using h
        have hdn : t.ns.drop i = [] := List.drop_eq_nil_of_le (by omega)
        have hall : depthsFrom 0 t.ns (List.replicate t.ns.length 0) = dp := by rw [hi5, hdn]; rfl
        have hr0 : t.root = ((t.root.toNat : Nat) : Int) := by omega
        have hrl : t.root.toNat < dp.length := by omega
        refine IdxOb.mk ⟨b, 0, none⟩ t.root.toNat rfl hr0 (by omega) ?_
        refine LoadOb.mk [.int .i64 dp[t.root.toNat]] (intRow_rd' hrl rfl (by simp)) ?_
        refine ⟨_, _, .sub (List.nil_sublist _) .refl, ?_, rfl, rfl⟩
        have : depth t = dp[t.root.toNat] := by
          unfold depth
          rw [hr, hall]
          simp [List.getD_eq_getElem?_getD, hrl]
        rw [this]
        rfl


theorem RTMay_spec {I : GH} {t : Tr} (ht : t.ok I) {W : Nat} (hf : Fit t W) : Spec Tryz.prog 72 [t.val] I [] (fun v I' M' => v = .bool (mayTree t) ∧ I' = I ∧ M' = []) := by
  refine spec_of_V [] TryzEOK Tryz.func72 rfl rfl rfl ?_
  intro B h0
  refine CallOb.mk [] [] _ (.refl _) (RRight_gen ht W hf.w hf.b) ?_
  rintro v J N - ⟨rfl, hJ, rfl⟩
  subst J
  refine GuardOb.mk (fun h1 => ?_) (fun h1 => ?_)
  · refine GuardOb.mk (fun h2 => ?_) (fun h2 => ?_)
    · refine CallOb.mk [] [] _ (.refl _) (RDepth_spec ht hf) ?_
      rintro v J N - ⟨rfl, hJ, rfl⟩
      subst J
      refine ⟨_, _, .refl, ?_, rfl, rfl⟩
      have h2' : t.n ≤ 1024 := by simp at h2; omega
      simp [mayTree, h1, h2']
    · refine ⟨_, _, .refl, ?_, rfl, rfl⟩
      have h2' : ¬ t.n ≤ 1024 := by simp at h2; omega
      simp [mayTree, h2']
  · refine ⟨_, _, .refl, ?_, rfl, rfl⟩
    have h1' : right t = false := h1
    simp [mayTree, h1']

/-! ### Normal -/
def badKid (kd kk : Int) : Bool := (decide (kd = 4) && (decide (kk = 4) || decide (kk = 0))) || (decide (kd = 5) && decide (kk = 5))
def normAll (ns : List Nd) : List Nd → Bool
  | [] => true
  | d :: ds => (d.kids.all fun k => !badKid d.k (kindAt ns k)) && normAll ns ds
theorem normKids_eq (ns : List Nd) (kd : Int) (h : kd = 4 ∨ kd = 5) : ∀ ks, normKids ns kd ks = ks.all fun k => !badKid kd (kindAt ns k)
  | [] => rfl
  | k :: ks => by
    rw [normKids, List.all_cons, normKids_eq ns kd h ks]
    have e : (decide (kindAt ns k = kd) || (decide (kindAt ns k = 0) && decide (kd = 4))) = badKid kd (kindAt ns k) := by
      unfold badKid
      rcases h with rfl | rfl
      · simp
      · simp
    rw [e]
    cases badKid kd (kindAt ns k) <;> rfl
theorem normAll_eq (ns : List Nd) : ∀ ds, normNodes ns ds = normAll ns ds
  | [] => rfl
  | d :: ds => by
    rw [normNodes, normAll, normAll_eq ns ds]
    by_cases h4 : d.k = 4
    · rw [normKids_eq ns d.k (.inl h4)]
      simp only [h4, decide_true, Bool.not_true, Bool.false_and, cond_false]
      cases (d.kids.all fun k => !badKid 4 (kindAt ns k)) <;> rfl
    · by_cases h5 : d.k = 5
      · rw [normKids_eq ns d.k (.inr h5)]
        simp only [h5, decide_true, Bool.not_true, Bool.and_false, cond_false]
        cases (d.kids.all fun k => !badKid 5 (kindAt ns k)) <;> rfl
      · have e : (d.kids.all fun k => !badKid d.k (kindAt ns k)) = true := by
          rw [List.all_eq_true]
          intro k _
          simp [badKid, h4, h5]
        rw [e]
        simp [h4, h5]
end Go.V

/-
  Walk: bonsairef05.Normal.
-/
set_option linter.unusedVariables false
set_option linter.unusedSimpArgs false
namespace Go.V
open Go Go.Proofs

set_option maxHeartbeats 1000000 in
theorem RNormal_spec {I : GH} {t : Tr} (ht : t.ok I) {W : Nat} (hf : Fit t W) : Spec Tryz.prog 70 [t.val] I [] (fun v I' M' => v = .bool (normal t) ∧ I' = I ∧ M' = []) := by
  refine spec_of_V [] TryzEOK Tryz.func70 rfl rfl rfl ?_
  intro B h0
  have hn := ht.n
  have hcap := ht.rs.cap
  refine CallOb.mk [] [] _ (.refl _) (RRight_gen ht W hf.w hf.b) ?_
  rintro v J N - ⟨rfl, hJ, rfl⟩
  subst J
  refine CondOb.mk (fun h => ?_) (fun h => ?_)
  · refine ⟨_, _, .refl, ?_, rfl, rfl⟩
    simp [normal, show right t = false by simpa using h]
  have hr : right t = true := by simpa using h
  have hno : normal t = normAll t.ns t.ns := by simp [normal, hr, normAll_eq]
  refine LoopOb.inv (ι := Nat) (fun i => { fl := [(1, .ref 1 0), (3, .val (.int .i64 i))], cl := [(1, t.cells)], gi := I }) (fun i => i ≤ t.n ∧ normAll t.ns t.ns = normAll t.ns (t.ns.drop i)) (fun i => t.n - i) ?_ ?_
  · exact ⟨0, ⟨by simp, rfl⟩, .refl, .cons .refl (.cons .refl .nil), .cons rfl .nil⟩
  rintro i ⟨hi, hin⟩
  refine CondOb.mk (fun h => ?_) (fun h => ?_)
  · have hlt : i < t.n := by simpa using h
    have hlt' : i < t.ns.length := by omega
    obtain ⟨ad, had, hrd⟩ := ht.rs.row Nd.cells_len hlt hlt'
    have hdk := ht.ns t.ns[i] (List.getElem_mem hlt')
    have hkn := hdk.kn
    have hdrop : t.ns.drop i = t.ns[i] :: t.ns.drop (i + 1) := List.drop_eq_getElem_cons hlt'
    have hkids := right_kids hr i hlt'
    generalize hd : t.ns[i] = d at hrd hdk hkn hdrop hkids
    rw [hdrop, normAll] at hin
    refine IdxOb.mk ad i had rfl hlt ?_
    refine LoadOb.mk _ (hrd _) ?_
    refine LoopOb.inv (ι := Nat) (fun j => { fl := [(1, .ref 1 0), (3, .val (.int .i64 i)), (4, .ref 4 0), (5, .val (.int .i64 j))], cl := [(1, t.cells), (4, d.cells)], gi := I })
      (fun j => j ≤ d.kn ∧ (d.kids.all fun k => !badKid d.k (kindAt t.ns k)) = ((d.kids.drop j).all fun k => !badKid d.k (kindAt t.ns k))) (fun j => d.kn - j) ?_ ?_
    · exact ⟨0, ⟨by simp, rfl⟩, .refl, .cons .refl (.cons .refl (.cons .refl (.cons .refl .nil))), .cons rfl (.cons rfl .nil)⟩
    rintro j ⟨hj, hjn⟩
    refine CondOb.mk (fun h => ?_) (fun h => ?_)
    · have hjl : j < d.kn := by simpa using h
      have hjl' : j < d.kids.length := by omega
      obtain ⟨ak, hak, hrk⟩ := hdk.rs.one hjl hjl'
      have hkd : d.kids.drop j = d.kids[j] :: d.kids.drop (j + 1) := List.drop_eq_getElem_cons hjl'
      have hkk := hkids _ (List.getElem_mem hjl')
      generalize hkv : d.kids[j] = kv at hrk hkd hkk
      obtain ⟨q, rfl⟩ := Int.eq_ofNat_of_zero_le hkk.1
      have hql : q < t.ns.length := by omega
      have hql' : q < t.n := by omega
      obtain ⟨aq, haq, hrq0⟩ := ht.rs.row Nd.cells_len hql' hql
      have hrq : ∀ M, Rd I M ((aq.add (q * 9)).add 0) 1 [.int .u8 t.ns[q].k] := fun M => (hrq0 M).part (k := 0) (m := 1) (by decide)
      have hkat : kindAt t.ns ((q : Nat) : Int) = t.ns[q].k := by simp [kindAt, List.getD_eq_getElem?_getD, hql]
      rw [hkd, List.all_cons, hkat] at hjn
      have bad : badKid d.k t.ns[q].k = true → normal t = false := fun hb => by
        rw [hno, hin, hjn, hb]
        rfl
      have good : badKid d.k t.ns[q].k = false → (d.kids.all fun k => !badKid d.k (kindAt t.ns k)) = ((d.kids.drop (j + 1)).all fun k => !badKid d.k (kindAt t.ns k)) := fun hb => by
        rw [hjn, hb]
        rfl
      have hwr := next_wr (i := j) (by have := hdk.rs.cap; omega)
      refine CodeOb.draw TryzEOK rfl rfl rfl ?_
      refine IdxOb.mk ak j hak rfl hjl ?_
      refine LoadOb.mk _ (hrk _) ?_
      refine IdxOb.mk aq q haq rfl hql' ?_
      refine LoadOb.mk _ (hrq _) ?_
      refine GuardOb.mk (fun c1 => ?_) (fun c1 => ?_)
      · have d4 : d.k = 4 := by simpa using c1
        refine GuardOb.mk (fun c2 => ?_) (fun c2 => ?_)
        · refine GuardOb.mk (fun c3 => ?_) (fun c3 => ?_)
          · refine GuardOb.mk (fun c4 => ?_) (fun _ => ?_)
            · exfalso
              simp at c4
              omega
            refine ArithOb.mk _ hwr ?_
            exact ⟨j + 1, ⟨⟨by omega, good (by simp at c2 c3; simp [badKid, d4, c2, c3])⟩, by omega⟩, .refl, .cons .refl (.cons .refl (.cons .refl (.cons .refl .nil))), .cons rfl (.cons rfl .nil)⟩
          · exact ⟨_, _, .refl, congrArg Value.bool (bad (by simp at c3; simp [badKid, d4, c3])).symm, rfl, rfl⟩
        · exact ⟨_, _, .refl, congrArg Value.bool (bad (by simp at c2; simp [badKid, d4, c2])).symm, rfl, rfl⟩
      · have d4 : d.k ≠ 4 := by simpa using c1
        refine GuardOb.mk (fun c4 => ?_) (fun c4 => ?_)
        · have d5 : d.k = 5 := by simpa using c4
          refine CondOb.mk (fun c5 => ?_) (fun c5 => ?_)
          · exact ⟨_, _, .refl, congrArg Value.bool (bad (by simp at c5; simp [badKid, d5, c5])).symm, rfl, rfl⟩
          · refine ArithOb.mk _ hwr ?_
            exact ⟨j + 1, ⟨⟨by omega, good (by simp at c5; simp [badKid, d5, c5])⟩, by omega⟩, .refl, .cons .refl (.cons .refl (.cons .refl (.cons .refl .nil))), .cons rfl (.cons rfl .nil)⟩
        · have d5 : d.k ≠ 5 := by simpa using c4
          refine ArithOb.mk _ hwr ?_
          exact ⟨j + 1, ⟨⟨by omega, good (by simp [badKid, d4, d5])⟩, by omega⟩, .refl, .cons .refl (.cons .refl (.cons .refl (.cons .refl .nil))), .cons rfl (.cons rfl .nil)⟩
    · have hje : d.kids.drop j = [] := List.drop_eq_nil_of_le (by simp at h; omega)
      refine ArithOb.mk _ (next_wr (i := i) (by omega)) ?_
      refine ⟨i + 1, ⟨⟨by omega, ?_⟩, by omega⟩, .refl, .cons .refl (.cons .refl .nil), .cons rfl .nil⟩
      rw [hin, hjn, hje]
      rfl
  · have hge : t.n ≤ i := by simpa using h
    have hdn : t.ns.drop i = [] := List.drop_eq_nil_of_le (by omega)
    refine ⟨_, _, .refl, ?_, rfl, rfl⟩
    rw [hno, hin, hdn]
    rfl
end Go.V

/-
  Walks: bonsairef08.wraps, Count.
-/
set_option linter.unusedVariables false
set_option linter.unusedSimpArgs false
namespace Go.V
open Go Go.Proofs

theorem Rwraps_spec {I : GH} (a b : Int) : Spec Tryz.prog 115 [.int .u8 a, .int .u8 b] I [] fun r I' M' => r = .bool (wrapsV a b) ∧ I' = I ∧ M' = [] := by
  refine spec_of_V [] TryzEOK Tryz.func115 rfl rfl rfl ?_
  intro B h0
  repeat' first
    | refine CondOb.mk (fun h => ?_) (fun h => ?_)
    | refine GuardOb.mk (fun h => ?_) (fun h => ?_)
  all_goals (first | (exfalso; simp at *; omega; done) | refine ⟨_, _, .refl, ?_, rfl, rfl⟩)
  all_goals (simp only [decide_eq_true_eq, decide_eq_false_iff_not, Bool.not_true, Bool.not_false] at *; simp_all [wrapsV])

theorem digS_strOf (n : Nat) : digS n = strOf (dig n) := rfl
set_option maxHeartbeats 1000000 in
theorem RCount_spec {I : GH} (lo : Nat) (hi : Int) (hlo : lo ≤ 99) (hhi : hi = -1 ∨ ((lo : Int) ≤ hi ∧ hi ≤ 99)) : Spec Tryz.prog 118 [.int .i64 lo, .int .i64 hi] I [] fun r I' M' => r = .string (strOf (countB lo hi)) ∧ I' = I ∧ M' = [] := by
  have hd := dig_len lo
  have hd2 := dig_len hi.toNat
  refine spec_of_V [] TryzEOK Tryz.func118 rfl rfl rfl ?_
  intro B h0
  have hA : 2 ≤ lo → countB lo (-1) = [123] ++ dig lo ++ [44, 125] := fun h => by
    have e1 : decide ((0 : Int) = lo) = false := decide_eq_false (by omega)
    have e2 : decide ((1 : Int) = lo) = false := decide_eq_false (by omega)
    have e3 : decide ((-1 : Int) = lo) = false := decide_eq_false (by omega)
    simp [countB, repB, e1, e2, e3]
  have hB : countB lo lo = [123] ++ dig lo ++ [125] := by
    have e1 : (decide ((0 : Int) = lo) && decide ((1 : Int) = lo)) = false := by
      rw [Bool.and_eq_false_iff]
      by_cases h : (0 : Int) = lo
      · exact .inr (decide_eq_false (by omega))
      · exact .inl (decide_eq_false h)
    have e3 : decide ((-1 : Int) = lo) = false := decide_eq_false (by omega)
    unfold countB repB
    rw [e1, e3]
    simp
  have hC : ∀ h : Nat, lo < h → ¬ (lo = 0 ∧ h = 1) → countB lo (h : Int) = [123] ++ dig lo ++ [44] ++ dig h ++ [125] := fun h h1 h2 => by
    have e1 : (decide ((0 : Int) = lo) && decide ((1 : Int) = h)) = false := by
      rw [Bool.and_eq_false_iff]
      by_cases h : (0 : Int) = lo
      · exact .inr (decide_eq_false (by omega))
      · exact .inl (decide_eq_false h)
    have e3 : decide ((-1 : Int) = h) = false := decide_eq_false (by omega)
    have e4 : decide ((h : Int) = lo) = false := decide_eq_false (by omega)
    have e5 : decide ((h : Int) = -1) = false := decide_eq_false (by omega)
    unfold countB repB
    rw [e1, e3, e4, e5]
    simp
  rcases hhi with rfl | ⟨h1, h2⟩
  · rcases (by omega : lo = 0 ∨ lo = 1 ∨ 2 ≤ lo) with rfl | rfl | hlo2
    · repeat' first
        | refine CondOb.mk (fun h => ?_) (fun h => ?_)
        | refine GuardOb.mk (fun h => ?_) (fun h => ?_)
      all_goals (try (exfalso; simp at *; done))
      all_goals exact ⟨_, _, .refl, rfl, rfl, rfl⟩
    · repeat' first
        | refine CondOb.mk (fun h => ?_) (fun h => ?_)
        | refine GuardOb.mk (fun h => ?_) (fun h => ?_)
      all_goals (try (exfalso; simp at *; done))
      all_goals exact ⟨_, _, .refl, rfl, rfl, rfl⟩
    · have e := hA hlo2
      clear hA hB hC
      repeat' first
        | refine CondOb.mk (fun h => ?_) (fun h => ?_)
        | refine GuardOb.mk (fun h => ?_) (fun h => ?_)
      all_goals (try (exfalso; simp at *; done))
      all_goals (try (exfalso; simp at *; omega; done))
      refine CallOb.mk [] [] _ (.refl _) (RShow_spec lo (by omega)) ?_
      rintro v J N - ⟨rfl, rfl, rfl⟩
      refine BinOb.concatL (a := [123]) (b := dig lo) (by simp; omega) ?_
      refine BinOb.concatL (b := [44, 125]) (by simp; omega) ?_
      exact ⟨_, _, .refl, by rw [e], rfl, rfl⟩
  · obtain ⟨w, rfl⟩ := Int.eq_ofNat_of_zero_le (show 0 ≤ hi by omega)
    rcases (by omega : (lo = 0 ∧ w = 1) ∨ lo = w ∨ (lo < w ∧ ¬ (lo = 0 ∧ w = 1))) with ⟨rfl, rfl⟩ | rfl | ⟨k1, k2⟩
    · clear hA hB hC
      repeat' first
        | refine CondOb.mk (fun h => ?_) (fun h => ?_)
        | refine GuardOb.mk (fun h => ?_) (fun h => ?_)
      all_goals (try (exfalso; simp at *; done))
      all_goals exact ⟨_, _, .refl, rfl, rfl, rfl⟩
    · clear hA hC
      repeat' first
        | refine CondOb.mk (fun h => ?_) (fun h => ?_)
        | refine GuardOb.mk (fun h => ?_) (fun h => ?_)
      all_goals (try (exfalso; simp at *; done))
      all_goals (try (exfalso; simp at *; omega; done))
      all_goals
        refine CallOb.mk [] [] _ (.refl _) (RShow_spec lo (by omega)) ?_
        rintro v J N - ⟨rfl, rfl, rfl⟩
        refine BinOb.concatL (a := [123]) (b := dig lo) (by simp; omega) ?_
        refine BinOb.concatL (b := [125]) (by simp; omega) ?_
        exact ⟨_, _, .refl, by rw [hB], rfl, rfl⟩
    · have e := hC w k1 k2
      clear hA hB hC
      repeat' first
        | refine CondOb.mk (fun h => ?_) (fun h => ?_)
        | refine GuardOb.mk (fun h => ?_) (fun h => ?_)
      all_goals (try (exfalso; simp at *; done))
      all_goals (try (exfalso; simp at *; omega; done))
      all_goals
        have hd3 : (dig w).length ≤ 2 := dig_len w
        refine CallOb.mk [] [] _ (.refl _) (RShow_spec lo (by omega)) ?_
        rintro v J N - ⟨rfl, rfl, rfl⟩
        refine BinOb.concatL (a := [123]) (b := dig lo) (by simp; omega) ?_
        refine BinOb.concatL (b := [44]) (by simp; omega) ?_
        refine CallOb.mk [] [] _ (.refl _) (RShow_spec w (by omega)) ?_
        rintro v J N - ⟨rfl, rfl, rfl⟩
        refine BinOb.concatL (b := dig w) (by simp; omega) ?_
        refine BinOb.concatL (b := [125]) (by simp; omega) ?_
        exact ⟨_, _, .refl, by rw [e], rfl, rfl⟩
end Go.V

/-
  Plain: the text of a node, kind by kind.
-/
set_option linter.unusedVariables false
set_option linter.unusedSimpArgs false
namespace Go.V
open Go Go.Proofs

structure FitsMore (d : Nd) (n : Int) : Prop where
  z : d.k = 0 → d.t = ⟨#[]⟩
  leaf : d.k ≤ 3 → n = 0
  one : 6 ≤ d.k → n = 1
  two : d.k = 4 ∨ d.k = 5 → 2 ≤ n
set_option maxHeartbeats 1000000 in
theorem fits_more {d : Nd} {n : Int} (h0 : 0 ≤ d.k) (h : fits d n = true) : FitsMore d n := by
  have hs := (fits_says h).k
  have hk : d.k = 0 ∨ d.k = 1 ∨ d.k = 2 ∨ d.k = 3 ∨ d.k = 4 ∨ d.k = 5 ∨ d.k = 6 ∨ d.k = 7 ∨ d.k = 8 ∨ d.k = 9 := by omega
  have hcl : ∀ j : Fin 10, cntLo j.val = countsL.getD (j.val * 2) 0 ∧ cntHi j.val = countsL.getD (j.val * 2 + 1) 0 := by decide
  unfold fits at h
  rcases hk with e | e | e | e | e | e | e | e | e | e <;> rw [e] at h <;> simp [cntLo, cntHi, countsL] at h <;>
    refine ⟨fun q => ?_, fun q => ?_, fun q => ?_, fun q => ?_⟩ <;> first | (omega; done) | (exact h.2.2.1; done) | (exact h.2.1; done) | (simp_all; done)

theorem len1_nil {ks : List Int} (h : (ks.length : Int) = 0) : ks = [] := List.eq_nil_of_length_eq_zero (by omega)
theorem len1_one {ks : List Int} (h : (ks.length : Int) = 1) : ∃ k, ks = [k] := by
  match ks, h with
  | [k], _ => exact ⟨k, rfl⟩
  | [], h => simp at h
  | _ :: _ :: _, h => simp at h; omega

def catL (sep : List UInt8) : List (List UInt8) → List UInt8
  | [] => []
  | x :: xs => x ++ xs.flatMap fun y => sep ++ y
theorem kidsT_true (sep : List UInt8) (f : Int → List UInt8) : ∀ ks, kidsT sep f true ks = (ks.map f).flatMap fun y => sep ++ y
  | [] => rfl
  | k :: ks => by
    rw [kidsT, kidsT_true sep f ks]
    simp
theorem kidsT_cat (sep : List UInt8) (f : Int → List UInt8) (ks : List Int) : kidsT sep f false ks = catL sep (ks.map f) := by
  cases ks with
  | nil => rfl
  | cons k ks =>
    rw [kidsT, kidsT_true]
    simp [catL]
theorem catL_snoc (sep : List UInt8) (L : List (List UInt8)) (h : L ≠ []) (y : List UInt8) : catL sep (L ++ [y]) = catL sep L ++ sep ++ y := by
  cases L with
  | nil => exact absurd rfl h
  | cons x xs => simp [catL]
/-- What comes of a node's text, by its kids' texts. -/
def nodeR (deb : List Int) (d : Nd) (L : List (List UInt8)) : List UInt8 :=
  bif decide (d.k = 0) then [34, 34] else
  bif decide (d.k = 1) then classB deb d.s0 d.s1 d.s2 d.s3 else
  bif decide (d.k = 2) then litB d.t else
  bif decide (d.k = 3) then d.t.data.toList else
  bif decide (d.k = 7) then [38] ++ L.headD [] else
  bif decide (d.k = 8) then [33] ++ L.headD [] else
  bif decide (d.k = 6) then L.headD [] ++ countB d.lo.toNat d.hi else
  bif decide (d.k = 9) then [60] ++ d.t.data.toList ++ [58, 32] ++ L.headD [] ++ [62] else
  catL (bif decide (d.k = 5) then [32, 47, 32] else [32]) L
set_option maxHeartbeats 1000000 in
theorem nodeT_eq (deb : List Int) (ns : List Nd) {d : Nd} (h0 : 0 ≤ d.k) (h : fits d d.kids.length = true) (g : Int → List UInt8) : nodeT deb ns d g = nodeR deb d (d.kids.map fun k => paren (wrapsV d.k (kindAt ns k)) (g k)) := by
  have hs := (fits_says h).k
  have hm := fits_more h0 h
  have hk : d.k = 0 ∨ d.k = 1 ∨ d.k = 2 ∨ d.k = 3 ∨ d.k = 4 ∨ d.k = 5 ∨ d.k = 6 ∨ d.k = 7 ∨ d.k = 8 ∨ d.k = 9 := by omega
  unfold nodeT nodeR
  rw [kidsT_cat]
  generalize hL : (d.kids.map fun k => paren (wrapsV d.k (kindAt ns k)) (g k)) = L
  have hll : L.length = d.kids.length := by rw [← hL]; simp
  have s0 : sgn 2 = [] ∧ sgn 3 = [] ∧ sgn 5 = [] ∧ sgn 8 = [] ∧ sgn 11 = [] ∧ sgn 12 = [] ∧ sgn 13 = [32] ∧ sgn 14 = [] ∧ sgn 15 = [] ∧ sgn 16 = [32, 47, 32] ∧ sgn 17 = [] ∧ sgn 18 = [] ∧ sgn 21 = [38] ∧ sgn 23 = [] ∧ sgn 24 = [33] ∧ sgn 26 = [] ∧ sgn 27 = [60] ∧ sgn 29 = [62] := by decide
  obtain ⟨z2, z3, z5, z8, z11, z12, z13, z14, z15, z16, z17, z18, z21, z23, z24, z26, z27, z29⟩ := s0
  have nil : d.k ≤ 3 → L = [] := fun q => List.eq_nil_of_length_eq_zero (by have := hm.leaf q; omega)
  have one : 6 ≤ d.k → ∃ x, L = [x] := fun q => by
    have := hm.one q
    match L, hll with
    | [x], _ => exact ⟨x, rfl⟩
    | [], hll => simp at hll; omega
    | _ :: _ :: _, hll => simp at hll; omega
  rcases hk with e | e | e | e | e | e | e | e | e | e
  · rw [nil (by omega)]
    simp [aheadB, behindB, sepOf, catL, e, z2, hm.z e, litB]
  · rw [nil (by omega)]
    simp [aheadB, behindB, sepOf, catL, e, z5]
  · rw [nil (by omega)]
    simp [aheadB, behindB, sepOf, catL, e, z8]
  · rw [nil (by omega)]
    simp [aheadB, behindB, sepOf, catL, e, z11]
  · simp [aheadB, behindB, sepOf, e, z12, z13, z14]
  · simp [aheadB, behindB, sepOf, e, z15, z16, z17]
  · obtain ⟨x, rfl⟩ := one (by omega)
    simp [aheadB, behindB, sepOf, catL, e, z18]
  · obtain ⟨x, rfl⟩ := one (by omega)
    simp [aheadB, behindB, sepOf, catL, e, z21, z23]
  · obtain ⟨x, rfl⟩ := one (by omega)
    simp [aheadB, behindB, sepOf, catL, e, z24, z26]
  · obtain ⟨x, rfl⟩ := one (by omega)
    simp [aheadB, behindB, sepOf, catL, e, z27, z29]
end Go.V

/-
  Walk: bonsairef08.text.
-/
set_option linter.unusedVariables false
set_option linter.unusedSimpArgs false
namespace Go.V
open Go Go.Proofs

def ClsOk (deb : List Int) : Prop := ∀ a b c d : Int, (∀ x ∈ [a, b, c, d], u64ok x) → classR (runsR (hasR [a, b, c, d]) 256) = classB deb a b c d
def strC (l : List UInt8) : List Value := [.string (strOf l)]
def strV (L : List (List UInt8)) : List Value := L.flatMap strC
theorem strV_snoc (L : List (List UInt8)) (x : List UInt8) : strV (L ++ [x]) = strV L ++ [.string (strOf x)] := by simp [strV, strC]
theorem strV_len (L : List (List UInt8)) : (strV L).length = L.length := by
  have := flat_len strC 1 (fun _ => rfl) L
  simpa [strV] using this
theorem BinOb.concatR {P : Program} {t : Nat} {x y : Operand} {a : List UInt8} {b : ByteArray} (hs : a.length + b.size ≤ 9223372036854775807) {V : Value → Prop} {other : Prop} (h : V (.string (strOf (a ++ b.data.toList)))) : BinOb P .add t x y (.val (.string (strOf a))) (.val (.string b)) V other :=
  BinOb.concat (a := strOf a) (b := b) hs (by rw [← strOf_app, strOf_self] at h; exact h)
theorem kidsT_mem {sep : List UInt8} {f : Int → List UInt8} : ∀ {ks : List Int} {b : Bool} {k : Int}, k ∈ ks → (f k).length ≤ (kidsT sep f b ks).length
  | k0 :: ks, b, k, h => by
    unfold kidsT
    simp only [List.length_append]
    rcases List.mem_cons.1 h with rfl | h
    · omega
    · have := kidsT_mem (sep := sep) (f := f) (b := true) h
      omega
theorem catL_take (sep : List UInt8) (L : List (List UInt8)) (i : Nat) : (catL sep (L.take i)).length ≤ (catL sep L).length := by
  cases L with
  | nil => simp
  | cons x xs =>
    cases i with
    | zero => simp [catL]
    | succ i =>
      rw [List.take_succ_cons, catL, catL, List.length_append, List.length_append]
      have : ((xs.take i).flatMap fun y => sep ++ y).length ≤ (xs.flatMap fun y => sep ++ y).length := by
        conv => rhs; rw [← List.take_append_drop i xs, List.flatMap_append, List.length_append]
        omega
      omega
theorem head_mem {L : List (List UInt8)} (h : 0 < L.length) : L.headD [] = L[0] := by
  cases L with
  | nil => simp at h
  | cons x xs => rfl

set_option maxRecDepth 100000 in
set_option maxHeartbeats 8000000 in
theorem Rtext_spec {I : GH} {deb : List Int} (hcl : ClsOk deb) {t : Tr} (ht : t.ok I) (hr : right t = true) (hk : ∀ d ∈ t.ns, d.kn ≤ 1099511627776) : ∀ (m j : Nat), j < m → ∀ (hj : j < t.ns.length), (textOf deb t.ns j).length ≤ 1152921504606846976 →
    Spec Tryz.prog 112 [t.val, .int .i64 j] I [] fun r I' M' => r = .string (strOf (textOf deb t.ns j)) ∧ I' = I ∧ M' = []
  | 0, j, h, _, _ => absurd h (Nat.not_lt_zero _)
  | m + 1, j, hjm, hj, hlen => by
    have ih := Rtext_spec (I := I) hcl ht hr hk m
    have htn := ht.n
    have hdm : t.ns[j] ∈ t.ns := List.getElem_mem hj
    have hdk := ht.ns t.ns[j] hdm
    have hkn := hdk.kn
    have hkW := hk _ hdm
    have hkids := right_kids hr j hj
    have hfit := right_fits hr hj
    have hfs := fits_says hfit
    have hfm := fits_more hdk.k.1 hfit
    have hj' : j < t.n := by omega
    obtain ⟨ad, had, hrd⟩ := ht.rs.row Nd.cells_len hj' hj
    have htx : textOf deb t.ns j = nodeR deb t.ns[j] (t.ns[j].kids.map fun k => paren (wrapsV t.ns[j].k (kindAt t.ns k)) (textOf deb t.ns k)) := by
      rw [textOf_eq hr hj, nodeT_eq deb t.ns hdk.k.1 hfit]
    have hkl : ∀ k ∈ t.ns[j].kids, (paren (wrapsV t.ns[j].k (kindAt t.ns k)) (textOf deb t.ns k)).length ≤ 1152921504606846976 := fun k hkm => by
      refine Nat.le_trans ?_ hlen
      rw [textOf_eq hr hj, nodeT]
      have := kidsT_mem (sep := sepOf t.ns[j]) (f := fun k => paren (wrapsV t.ns[j].k (kindAt t.ns k)) (textOf deb t.ns k)) (b := false) hkm
      simp only [List.length_append] at this ⊢
      omega
    generalize hd : t.ns[j] = d at *
    generalize hF : (fun k : Int => paren (wrapsV d.k (kindAt t.ns k)) (textOf deb t.ns k)) = F at *
    have hFk : ∀ k, F k = paren (wrapsV d.k (kindAt t.ns k)) (textOf deb t.ns k) := fun k => by rw [← hF]
    refine spec_of_V [] TryzEOK Tryz.func112 rfl rfl rfl ?_
    intro B h0
    refine IdxOb.mk ad j had rfl hj' ?_
    refine LoadOb.mk _ (hrd _) ?_
    refine LoopOb.inv (ι := Nat × OS) (fun x => { fl := [(2, .ref 2 0), (5, .ref 5 0), (6, .val x.2.val), (7, .val (.int .i64 x.1))], cl := [(2, t.cells), (5, d.cells)], gi := I, mi := x.2.blk 9 })
      (fun x => x.1 ≤ d.kn ∧ x.2.ok 1 (strV ((d.kids.take x.1).map F))) (fun x => d.kn - x.1) ?_ ?_
    · exact ⟨(0, OS0), ⟨Nat.zero_le _, OS0_ok 1⟩, .refl, .cons .refl (.cons .refl (.cons .refl (.cons .refl .nil))), .cons rfl (.cons rfl .nil)⟩
    rintro ⟨i, os⟩ ⟨hi, hos⟩
    simp only at hi hos
    have hon : os.n = i := by
      have := hos.len
      rw [strV_len, List.length_map, List.length_take_of_le (by omega)] at this
      omega
    refine CondOb.mk (fun h => ?_) (fun h => ?_)
    · have hlt : i < d.kn := by simpa using h
      have hil : i < d.kids.length := by omega
      obtain ⟨ak, hak, hrk⟩ := hdk.rs.one hlt hil
      have hkm : d.kids[i] ∈ d.kids := List.getElem_mem hil
      have hkk := hkids _ hkm
      have hkb := hkl _ hkm
      have etk : (d.kids.take (i + 1)).map F = (d.kids.take i).map F ++ [F d.kids[i]] := by
        rw [List.take_succ_eq_append_getElem hil, List.map_append]
        rfl
      generalize hkv : d.kids[i] = kv at *
      obtain ⟨q, rfl⟩ := Int.eq_ofNat_of_zero_le hkk.1
      have hql : q < t.ns.length := by omega
      have hql' : q < t.n := by omega
      obtain ⟨aq, haq, hrq0⟩ := ht.rs.row Nd.cells_len hql' hql
      have hrq : ∀ M, Rd I M ((aq.add (q * 9)).add 0) 1 [.int .u8 t.ns[q].k] := fun M => (hrq0 M).part (k := 0) (m := 1) (by decide)
      have hkat : kindAt t.ns ((q : Nat) : Int) = t.ns[q].k := by simp [kindAt, List.getD_eq_getElem?_getD, hql]
      have hpl : (textOf deb t.ns q).length ≤ 1152921504606846976 := by
        rw [paren] at hkb
        simp only [List.length_append] at hkb
        omega
      refine CodeOb.draw TryzEOK rfl rfl rfl ?_
      refine IdxOb.mk ak i hak rfl hlt ?_
      refine LoadOb.mk _ (hrk _) ?_
      refine CallOb.mk [] (os.blk 9) _ (.refl _) (ih q (by omega) hql hpl) ?_
      rintro v J N - ⟨rfl, hJ, rfl⟩
      subst J
      refine CodeOb.draw TryzEOK rfl rfl rfl ?_
      refine IdxOb.mk ak i hak rfl hlt ?_
      refine LoadOb.mk _ (hrk _) ?_
      refine IdxOb.mk aq q haq rfl hql' ?_
      refine LoadOb.mk _ (hrq _) ?_
      refine CallOb.mk [] (os.blk 9) _ (.refl _) (Rwraps_spec d.k t.ns[q].k) ?_
      rintro v J N - ⟨rfl, hJ, rfl⟩
      subst J
      have hFq := hFk q
      rw [hkat] at hFq
      refine CondOb.mk (fun h2 => ?_) (fun h2 => ?_)
      · have hFe : F q = [40] ++ textOf deb t.ns q ++ [41] := by rw [hFq, h2]; rfl
        refine BinOb.concatL (a := [40]) (by simp only [List.length_cons, List.length_nil]; omega) ?_
        refine BinOb.concatL (b := [41]) (by simp only [List.length_append, List.length_cons, List.length_nil]; omega) ?_
        refine AllocOb.mk fun b9 hb9 hbM9 => ?_
        refine OtherOb.appendN TryzEOK rfl (by simp) (e := 9) rfl rfl rfl os hos rfl (m := 1) rfl (news := [.string (strOf ([40] ++ textOf deb t.ns q ++ [41]))]) (by decide) (blk_rd (b := b9) (cs := [.string (strOf ([40] ++ textOf deb t.ns q ++ [41]))]) (k := 0) (n := 1) (T := 9) (.head _) (by simp)) rfl (Mr := [⟨b9, .cells #[.string (strOf ([40] ++ textOf deb t.ns q ++ [41]))] 9 (0, 0)⟩]) (List.perm_append_comm (l₁ := [_])) (by simp only [maxLen]; omega) (by show (os.n + 1) * 16 ≤ _; omega) ?_
        intro g' c' cur' q0 q1 q2 q3 q4
        refine ArithOb.mk _ (next_wr (i := i) (by omega)) ?_
        refine ⟨(i + 1, ⟨some g', os.n + 1, c', cur'⟩), ⟨⟨by simp only; omega, ?_⟩, by simp only; omega⟩, .sub (List.Sublist.cons_cons _ (List.nil_sublist _)) .refl, .cons .refl (.cons .refl (.cons .refl (.cons .refl .nil))), .cons rfl (.cons rfl .nil)⟩
        simp only
        rw [etk, hFe, strV_snoc]
        exact app1_ok hos q1 q2 q3 q4
      · have hFe : F q = textOf deb t.ns q := by rw [hFq, h2]; simp [paren]
        refine AllocOb.mk fun b9 hb9 hbM9 => ?_
        refine OtherOb.appendN TryzEOK rfl (by simp) (e := 9) rfl rfl rfl os hos rfl (m := 1) rfl (news := [.string (strOf (textOf deb t.ns q))]) (by decide) (blk_rd (b := b9) (cs := [.string (strOf (textOf deb t.ns q))]) (k := 0) (n := 1) (T := 9) (.head _) (by simp)) rfl (Mr := [⟨b9, .cells #[.string (strOf (textOf deb t.ns q))] 9 (0, 0)⟩]) (List.perm_append_comm (l₁ := [_])) (by simp only [maxLen]; omega) (by show (os.n + 1) * 16 ≤ _; omega) ?_
        intro g' c' cur' q0 q1 q2 q3 q4
        refine ArithOb.mk _ (next_wr (i := i) (by omega)) ?_
        refine ⟨(i + 1, ⟨some g', os.n + 1, c', cur'⟩), ⟨⟨by simp only; omega, ?_⟩, by simp only; omega⟩, .sub (List.Sublist.cons_cons _ (List.nil_sublist _)) .refl, .cons .refl (.cons .refl (.cons .refl (.cons .refl .nil))), .cons rfl (.cons rfl .nil)⟩
        simp only
        rw [etk, hFe, strV_snoc]
        exact app1_ok hos q1 q2 q3 q4
    · have hie : i = d.kn := by simp at h; omega
      have etk : (d.kids.take i).map F = d.kids.map F := by rw [List.take_of_length_le (by omega)]
      rw [etk] at hos
      generalize hL : d.kids.map F = L at *
      have hLl : L.length = d.kn := by rw [← hL]; simp; omega
      have row : ∀ {i : Nat} (hi : i < L.length), ∃ ad, (os.a.map fun g => (⟨g, 0, none⟩ : Addr)) = some ad ∧ Rd I (os.blk 9) (ad.add (i * 1)) 1 (strC L[i]) := fun {i} hi => OS.ok.row (I := I) (M := os.blk 9) (f := strC) (fun _ => rfl) (by decide) hos (e := 9) (fun y hy => hy) hi
      have hLk : ∀ x ∈ L, x.length ≤ 1152921504606846976 := fun x hx => by
        rw [← hL] at hx
        obtain ⟨k, hkm, rfl⟩ := List.mem_map.1 hx
        rw [hFk]
        exact hkl k hkm
      have hone : 6 ≤ d.k → 0 < L.length ∧ L.headD [] = L.headD [] := fun h6 => ⟨by have := hfm.one h6; omega, rfl⟩
      refine CondOb.mk (fun c0 => ?_) (fun c0 => ?_)
      · exact ⟨_, _, .sub (List.nil_sublist _) .refl, by rw [htx, nodeR, c0]; rfl, rfl, rfl⟩
      refine CondOb.mk (fun c1 => ?_) (fun c1 => ?_)
      · have hws : ∀ x ∈ [d.s0, d.s1, d.s2, d.s3], u64ok x := by
          intro x hx
          simp only [List.mem_cons, List.not_mem_nil, or_false] at hx
          rcases hx with rfl | rfl | rfl | rfl
          · exact hdk.s0
          · exact hdk.s1
          · exact hdk.s2
          · exact hdk.s3
        have hsp := RClass_spec (I := I) hws
        rw [hcl _ _ _ _ hws] at hsp
        refine CallOb.mk [] (os.blk 9) _ (.refl _) hsp ?_
        rintro v J N - ⟨rfl, hJ, rfl⟩
        subst J
        exact ⟨_, _, .sub (List.nil_sublist _) .refl, by rw [htx, nodeR, c0, c1]; rfl, rfl, rfl⟩
      refine CondOb.mk (fun c2 => ?_) (fun c2 => ?_)
      · refine CallOb.mk [] (os.blk 9) _ (.refl _) (RLiteral_spec d.t (by have := hfs.t; omega)) ?_
        rintro v J N - ⟨rfl, hJ, rfl⟩
        subst J
        exact ⟨_, _, .sub (List.nil_sublist _) .refl, by rw [htx, nodeR, c0, c1, c2]; rfl, rfl, rfl⟩
      refine CondOb.mk (fun c3 => ?_) (fun c3 => ?_)
      · exact ⟨_, _, .sub (List.nil_sublist _) .refl, by rw [htx, nodeR, c0, c1, c2, c3]; exact congrArg Value.string (strOf_self d.t).symm, rfl, rfl⟩
      refine CondOb.mk (fun c7 => ?_) (fun c7 => ?_)
      · have hL0 : 0 < L.length := (hone (by simp at c7; omega)).1
        have hb0 := hLk _ (List.getElem_mem hL0)
        obtain ⟨a0, ha0, hr0⟩ := row (i := 0) hL0
        refine IdxOb.mk a0 0 ha0 rfl (show 0 < os.n by omega) ?_
        refine LoadOb.mk _ (hr0.sub fun y hy => hy) ?_
        refine BinOb.concatL (a := [38]) (by simp only [List.length_cons, List.length_nil]; omega) ?_
        exact ⟨_, _, .sub (List.nil_sublist _) .refl, by rw [htx, nodeR, c0, c1, c2, c3, c7, head_mem hL0]; rfl, rfl, rfl⟩
      refine CondOb.mk (fun c8 => ?_) (fun c8 => ?_)
      · have hL0 : 0 < L.length := (hone (by simp at c8; omega)).1
        have hb0 := hLk _ (List.getElem_mem hL0)
        obtain ⟨a0, ha0, hr0⟩ := row (i := 0) hL0
        refine IdxOb.mk a0 0 ha0 rfl (show 0 < os.n by omega) ?_
        refine LoadOb.mk _ (hr0.sub fun y hy => hy) ?_
        refine BinOb.concatL (a := [33]) (by simp only [List.length_cons, List.length_nil]; omega) ?_
        exact ⟨_, _, .sub (List.nil_sublist _) .refl, by rw [htx, nodeR, c0, c1, c2, c3, c7, c8, head_mem hL0]; rfl, rfl, rfl⟩
      refine CondOb.mk (fun c6 => ?_) (fun c6 => ?_)
      · have k6 : d.k = 6 := by simpa using c6
        have hL0 : 0 < L.length := (hone (by omega)).1
        have hb0 := hLk _ (List.getElem_mem hL0)
        have hrep := hfs.rep k6
        have hlo : ((d.lo.toNat : Nat) : Int) = d.lo := by omega
        have hsp := RCount_spec (I := I) d.lo.toNat d.hi (by omega) (by omega)
        rw [hlo] at hsp
        have hcb := countB_len d.lo.toNat d.hi
        refine CodeOb.draw TryzEOK rfl rfl rfl ?_
        obtain ⟨a0, ha0, hr0⟩ := row (i := 0) hL0
        refine IdxOb.mk a0 0 ha0 rfl (show 0 < os.n by omega) ?_
        refine LoadOb.mk _ (hr0.sub fun y hy => hy) ?_
        refine PCallOb.mk _ hsp ?_
        rintro v J N - ⟨rfl, hJ, rfl⟩
        subst J
        refine BinOb.concatL (a := L[0]) (by omega) ?_
        exact ⟨_, _, .sub (List.nil_sublist _) .refl, by rw [htx, nodeR, c0, c1, c2, c3, c7, c8, c6, head_mem hL0]; rfl, rfl, rfl⟩
      refine CondOb.mk (fun c9 => ?_) (fun c9 => ?_)
      · have k9 : d.k = 9 := by simpa using c9
        have hL0 : 0 < L.length := (hone (by omega)).1
        have hb0 := hLk _ (List.getElem_mem hL0)
        have hts := hfs.t
        have htl : d.t.data.toList.length = d.t.size := rfl
        refine CodeOb.draw TryzEOK rfl rfl rfl ?_
        refine BinOb.concatR (a := [60]) (by simp only [List.length_cons, List.length_nil]; omega) ?_
        refine BinOb.concatL (b := [58, 32]) (by simp only [List.length_append, List.length_cons, List.length_nil]; omega) ?_
        obtain ⟨a0, ha0, hr0⟩ := row (i := 0) hL0
        refine IdxOb.mk a0 0 ha0 rfl (show 0 < os.n by omega) ?_
        refine LoadOb.mk _ (hr0.sub fun y hy => hy) ?_
        refine BinOb.concatL (b := L[0]) (by simp only [List.length_append, List.length_cons, List.length_nil]; omega) ?_
        refine BinOb.concatL (b := [62]) (by simp only [List.length_append, List.length_cons, List.length_nil]; omega) ?_
        exact ⟨_, _, .sub (List.nil_sublist _) .refl, by rw [htx, nodeR, c0, c1, c2, c3, c7, c8, c6, c9, head_mem hL0]; rfl, rfl, rfl⟩
      have hL0 : 0 < L.length := by
        have : d.k = 4 ∨ d.k = 5 := by
          have h1 := hfs.k
          have h2 := hdk.k.1
          simp at c0 c1 c2 c3 c7 c8 c6 c9
          omega
        have := hfm.two this
        omega
      have hcat : ∀ sep, (bif decide (d.k = 5) then [32, 47, 32] else [32]) = sep → textOf deb t.ns j = catL sep L := fun sep hsep => by
        rw [htx, nodeR, c0, c1, c2, c3, c7, c8, c6, c9, hsep]
        rfl
      refine CondOb.mk (fun c5 => ?_) (fun c5 => ?_)
      · have htL := hcat [32, 47, 32] (by rw [c5]; rfl)
        obtain ⟨a0, ha0, hr0⟩ := row (i := 0) hL0
        refine IdxOb.mk a0 0 ha0 rfl (show 0 < os.n by omega) ?_
        refine LoadOb.mk _ (hr0.sub fun y hy => hy) ?_
        refine LoopOb.inv (ι := Nat × List UInt8) (fun x => { fl := [(6, .val os.val), (9, .val (.string (strOf [32, 47, 32]))), (10, .val (.string (strOf x.2))), (11, .val (.int .i64 x.1))], gi := I, mi := os.blk 9 }) (fun x => 1 ≤ x.1 ∧ x.1 ≤ os.n ∧ x.2 = catL [32, 47, 32] (L.take x.1)) (fun x => os.n - x.1) ?_ ?_
        · refine ⟨(1, L[0]), ⟨Nat.le_refl _, by simp only; omega, ?_⟩, .refl, .cons .refl (.cons .refl (.cons .refl (.cons .refl .nil))), .nil⟩
          simp only
          rw [List.take_succ_eq_append_getElem hL0]
          simp [catL]
        rintro ⟨i, w⟩ ⟨hi1, hi2, hw⟩
        simp only at hi1 hi2 hw
        have hwl := catL_take [32, 47, 32] L i
        have hcl := hlen
        rw [htL] at hcl
        rw [← hw] at hwl
        refine CondOb.mk (fun h => ?_) (fun h => ?_)
        · have hlt : i < os.n := by simpa using h
          have hil : i < L.length := by omega
          have hb := hLk _ (List.getElem_mem hil)
          obtain ⟨ai, hai, hri⟩ := row hil
          have hne : L.take i ≠ [] := by
            intro h
            have := congrArg List.length h
            rw [List.length_take_of_le (by omega)] at this
            simp at this
            omega
          have hst := catL_snoc [32, 47, 32] (L.take i) hne L[i]
          rw [← List.take_succ_eq_append_getElem hil, ← hw] at hst
          refine BinOb.concatL (a := w) (by simp only [List.length_cons, List.length_nil]; omega) ?_
          refine IdxOb.mk ai i hai rfl hlt ?_
          refine LoadOb.mk _ (hri.sub fun y hy => hy) ?_
          refine BinOb.concatL (b := L[i]) (by simp only [List.length_append, List.length_cons, List.length_nil]; omega) ?_
          refine ArithOb.mk _ (next_wr (i := i) (by omega)) ?_
          refine ⟨(i + 1, _), ⟨⟨by simp only; omega, hlt, ?_⟩, by simp only; omega⟩, .refl, .cons .refl (.cons .refl (.cons .refl (.cons .refl .nil))), .nil⟩
          exact hst.symm
        · have hie2 : i = L.length := by simp at h; omega
          rw [List.take_of_length_le (by omega)] at hw
          exact ⟨_, _, .sub (List.nil_sublist _) .refl, by rw [htL, hw], rfl, rfl⟩
      · have htL := hcat [32] (by rw [c5]; rfl)
        obtain ⟨a0, ha0, hr0⟩ := row (i := 0) hL0
        refine IdxOb.mk a0 0 ha0 rfl (show 0 < os.n by omega) ?_
        refine LoadOb.mk _ (hr0.sub fun y hy => hy) ?_
        refine LoopOb.inv (ι := Nat × List UInt8) (fun x => { fl := [(6, .val os.val), (9, .val (.string (strOf [32]))), (10, .val (.string (strOf x.2))), (11, .val (.int .i64 x.1))], gi := I, mi := os.blk 9 }) (fun x => 1 ≤ x.1 ∧ x.1 ≤ os.n ∧ x.2 = catL [32] (L.take x.1)) (fun x => os.n - x.1) ?_ ?_
        · refine ⟨(1, L[0]), ⟨Nat.le_refl _, by simp only; omega, ?_⟩, .refl, .cons .refl (.cons .refl (.cons .refl (.cons .refl .nil))), .nil⟩
          simp only
          rw [List.take_succ_eq_append_getElem hL0]
          simp [catL]
        rintro ⟨i, w⟩ ⟨hi1, hi2, hw⟩
        simp only at hi1 hi2 hw
        have hwl := catL_take [32] L i
        have hcl := hlen
        rw [htL] at hcl
        rw [← hw] at hwl
        refine CondOb.mk (fun h => ?_) (fun h => ?_)
        · have hlt : i < os.n := by simpa using h
          have hil : i < L.length := by omega
          have hb := hLk _ (List.getElem_mem hil)
          obtain ⟨ai, hai, hri⟩ := row hil
          have hne : L.take i ≠ [] := by
            intro h
            have := congrArg List.length h
            rw [List.length_take_of_le (by omega)] at this
            simp at this
            omega
          have hst := catL_snoc [32] (L.take i) hne L[i]
          rw [← List.take_succ_eq_append_getElem hil, ← hw] at hst
          refine BinOb.concatL (a := w) (by simp only [List.length_cons, List.length_nil]; omega) ?_
          refine IdxOb.mk ai i hai rfl hlt ?_
          refine LoadOb.mk _ (hri.sub fun y hy => hy) ?_
          refine BinOb.concatL (b := L[i]) (by simp only [List.length_append, List.length_cons, List.length_nil]; omega) ?_
          refine ArithOb.mk _ (next_wr (i := i) (by omega)) ?_
          refine ⟨(i + 1, _), ⟨⟨by simp only; omega, hlt, ?_⟩, by simp only; omega⟩, .refl, .cons .refl (.cons .refl (.cons .refl (.cons .refl .nil))), .nil⟩
          exact hst.symm
        · have hie2 : i = L.length := by simp at h; omega
          rw [List.take_of_length_le (by omega)] at hw
          exact ⟨_, _, .sub (List.nil_sublist _) .refl, by rw [htL, hw], rfl, rfl⟩
end Go.V

/-
  Walks: bonsairef08.Tree, Def, Grammar.
-/
set_option linter.unusedVariables false
set_option linter.unusedSimpArgs false
namespace Go.V
open Go Go.Proofs

/-! ### A right tree's text is not empty -/
theorem countB_ne (lo : Nat) (hi : Int) : countB lo hi ≠ [] := by
  unfold countB repB
  cases (decide ((0 : Int) = lo) && decide (1 = hi)) <;> cases (decide ((0 : Int) = lo) && decide (-1 = hi)) <;> cases (decide ((1 : Int) = lo) && decide (-1 = hi)) <;> cases decide (hi = lo) <;> cases decide (hi = -1) <;> simp
theorem classB_ne (deb : List Int) (a b c d : Int) : classB deb a b c d ≠ [] := by
  unfold classB
  cases (a == notV 0 && (b == notV 0 && (c == notV 0 && d == notV 0))) <;> simp
theorem fits_named {d : Nd} {n : Int} (h : fits d n = true) (h3 : d.k = 3) : d.t ≠ ⟨#[]⟩ := by
  unfold fits at h
  rw [h3] at h
  simp [cntLo, cntHi, countsL, mayName] at h
  intro e
  simp [e] at h
theorem nodeR_ne (deb : List Int) {d : Nd} (h0 : 0 ≤ d.k) (h : fits d d.kids.length = true) {L : List (List UInt8)} (hL : L.length = d.kids.length) : nodeR deb d L ≠ [] := by
  have hs := (fits_says h).k
  have hm := fits_more h0 h
  have hk : d.k = 0 ∨ d.k = 1 ∨ d.k = 2 ∨ d.k = 3 ∨ d.k = 4 ∨ d.k = 5 ∨ d.k = 6 ∨ d.k = 7 ∨ d.k = 8 ∨ d.k = 9 := by omega
  have two : d.k = 4 ∨ d.k = 5 → ∃ x y zs, L = x :: y :: zs := fun q => by
    have := hm.two q
    match L, hL with
    | x :: y :: zs, _ => exact ⟨x, y, zs, rfl⟩
    | [], hL => simp at hL; omega
    | [_], hL => simp at hL; omega
  unfold nodeR
  rcases hk with e | e | e | e | e | e | e | e | e | e
  · simp [e]
  · simp only [e, decide_true, cond_true]
    exact classB_ne deb d.s0 d.s1 d.s2 d.s3
  · simp [e, litB]
  · have := fits_named h e
    simp [e]
    intro q
    exact this (ByteArray.ext (by simpa using q))
  · obtain ⟨x, y, zs, rfl⟩ := two (.inl e)
    simp [e, catL]
  · obtain ⟨x, y, zs, rfl⟩ := two (.inr e)
    simp [e, catL]
  · have := countB_ne d.lo.toNat d.hi
    simp [e, this]
  · simp [e]
  · simp [e]
  · simp [e]
theorem treeB_ne (deb : List Int) {I : GH} {t : Tr} (ht : t.ok I) (hr : right t = true) : treeB deb t ≠ [] := by
  obtain ⟨g1, g2⟩ := right_root hr
  obtain ⟨r, hr'⟩ := Int.eq_ofNat_of_zero_le g1
  have hrl : r < t.ns.length := by omega
  have hfit := right_fits hr hrl
  have h0 := (ht.ns _ (List.getElem_mem hrl)).k.1
  rw [treeB, hr, cond_true, hr', textOf_eq hr hrl, nodeT_eq deb t.ns h0 hfit]
  exact nodeR_ne deb h0 hfit (by simp)

theorem RTree_spec {I : GH} {deb : List Int} (hcl : ClsOk deb) {t : Tr} (ht : t.ok I) {W : Nat} (hf : Fit t W) (hW : W ≤ 1099511627776) : Spec Tryz.prog 107 [t.val] I [] fun r I' M' => r = .string (strOf (treeB deb t)) ∧ I' = I ∧ M' = [] := by
  refine spec_of_V [] TryzEOK Tryz.func107 rfl rfl rfl ?_
  intro B h0
  refine CallOb.mk [] [] _ (.refl _) (RRight_gen ht W hf.w hf.b) ?_
  rintro v J N - ⟨rfl, hJ, rfl⟩
  subst J
  refine CondOb.mk (fun h => ?_) (fun h => ?_)
  · have hr : right t = false := by simpa using h
    exact ⟨_, _, .refl, by rw [treeB, hr]; rfl, rfl, rfl⟩
  · have hr : right t = true := by simpa using h
    obtain ⟨g1, g2⟩ := right_root hr
    obtain ⟨r, hr'⟩ := Int.eq_ofNat_of_zero_le g1
    have hn := hf.n
    have htn := ht.n
    have hlen := treeB_len deb t
    have hsp := Rtext_spec hcl ht hr (fun d hd => by have := hf.w d hd; omega) (r + 1) r (by omega) (by omega) (by rw [treeB, hr, cond_true, hr'] at hlen; omega)
    rw [← hr'] at hsp
    refine CallOb.mk [] [] _ (.refl _) hsp ?_
    rintro v J N - ⟨rfl, hJ, rfl⟩
    subst J
    exact ⟨_, _, .refl, by rw [treeB, hr]; rfl, rfl, rfl⟩

theorem strOf_nil_iff (l : List UInt8) : decide (strOf l = ⟨#[]⟩) = decide (l = []) := by
  congr 1
  rw [eq_iff_iff]
  constructor
  · intro h
    have := congrArg (fun b : ByteArray => b.data.toList) h
    simpa [strOf] using this
  · rintro rfl
    rfl
theorem RDef_spec {I : GH} {deb : List Int} (hcl : ClsOk deb) {d : Df} (hd : d.ok I) {W : Nat} (hf : Fit d.t W) (hW : W ≤ 1099511627776) : Spec Tryz.prog 97 [d.val] I [] fun r I' M' => r = .string (strOf (defB deb d)) ∧ I' = I ∧ M' = [] := by
  refine spec_of_V [] TryzEOK Tryz.func97 rfl rfl rfl ?_
  intro B h0
  refine CallOb.mk [] [] _ (.refl _) (RMay_spec I d.name) ?_
  rintro v J N - ⟨rfl, hJ, rfl⟩
  subst J
  refine GuardOb.mk (fun h1 => ?_) (fun h1 => ?_)
  · have hm : mayName d.name = true := by simpa using h1
    refine CallOb.mk [] [] _ (.refl _) (RRight_gen hd.t W hf.w hf.b) ?_
    rintro v J N - ⟨rfl, hJ, rfl⟩
    subst J
    refine CondOb.mk (fun h2 => ?_) (fun h2 => ?_)
    · have hr : right d.t = false := by simpa using h2
      exact ⟨_, _, .refl, by rw [defB, treeB, hr]; rfl, rfl, rfl⟩
    · have hr : right d.t = true := by simpa using h2
      have hne := treeB_ne deb hd.t hr
      have hl := treeB_len deb d.t
      have hn := hf.n
      have htn := hd.t.n
      have hml := mayName_len hm
      have hnl : d.name.data.toList.length = d.name.size := rfl
      refine CodeOb.draw TryzEOK rfl rfl rfl ?_
      refine BinOb.concat (a := d.name) (b := strOf [32, 60, 45, 32]) (by show _ + 4 ≤ _; omega) ?_
      refine PCallOb.mk _ (RTree_spec hcl hd.t hf hW) ?_
      rintro v J N - ⟨rfl, hJ, rfl⟩
      subst J
      refine BinOb.concat (a := d.name ++ strOf [32, 60, 45, 32]) (b := strOf (treeB deb d.t)) (by rw [ByteArray.size_append]; show _ + 4 + (treeB deb d.t).length ≤ _; omega) ?_
      refine BinOb.concat (a := d.name ++ strOf [32, 60, 45, 32] ++ strOf (treeB deb d.t)) (b := strOf [10]) (by rw [ByteArray.size_append, ByteArray.size_append]; show _ + 4 + (treeB deb d.t).length + 1 ≤ _; omega) ?_
      refine ⟨_, _, .refl, congrArg Value.string (bytes_eq ?_), rfl, rfl⟩
      rw [defB, strOf_nil_iff, decide_eq_false hne, hm]
      simp [strOf]
  · have hm : mayName d.name = false := by simpa using h1
    exact ⟨_, _, .refl, by rw [defB, hm, Bool.not_false, Bool.or_true]; rfl, rfl, rfl⟩

theorem RGrammar_spec {I : GH} {deb : List Int} (hcl : ClsOk deb) {g : Gr} (hg : g.ok I) (hn : g.n ≤ 64) {W : Nat} (hf : ∀ d ∈ g.ds, Fit d.t W ∧ d.t.n ≤ 1024) (hW : W ≤ 1099511627776) : Spec Tryz.prog 73 [g.val] I [] fun r I' M' => r = .string (strOf (gramB deb g.ds [])) ∧ I' = I ∧ M' = [] := by
  refine spec_of_V [] TryzEOK Tryz.func73 rfl rfl rfl ?_
  intro B h0
  have hgn := hg.n
  have htl : ∀ d ∈ g.ds, d.t.ns.length ≤ 1024 := fun d hd => by rw [(hg.ds d hd).t.n]; exact (hf d hd).2
  refine LoopOb.inv (ι := Nat × List UInt8) (fun p => { fl := [(1, .ref 1 0), (3, .val (.string (strOf p.2))), (4, .val (.int .i64 p.1))], cl := [(1, [.slice g.a g.n g.c])], gi := I })
    (fun p => p.1 ≤ g.n ∧ p.2.length ≤ 2500000 * p.1 ∧ gramB deb g.ds [] = gramB deb (g.ds.drop p.1) p.2) (fun p => g.n - p.1) ?_ ?_
  · exact ⟨(0, []), ⟨by simp, by simp, rfl⟩, .refl, .cons .refl (.cons .refl (.cons .refl .nil)), .cons rfl .nil⟩
  rintro ⟨i, w⟩ ⟨hi, hwl, hw⟩
  simp only at hi hwl hw
  refine CondOb.mk (fun h => ?_) (fun h => ?_)
  · have hlt : i < g.n := by simpa using h
    have hlt' : i < g.ds.length := by omega
    obtain ⟨ad, had, hrd⟩ := hg.rs.row Df.cells_len hlt hlt'
    have hdm : g.ds[i] ∈ g.ds := List.getElem_mem hlt'
    have hdl := defB_len deb g.ds[i]
    have h9 := htl _ hdm
    have hdrop : g.ds.drop i = g.ds[i] :: g.ds.drop (i + 1) := List.drop_eq_getElem_cons hlt'
    refine IdxOb.mk ad i had rfl hlt ?_
    refine LoadOb.mk _ (hrd _) ?_
    refine CallOb.mk [] [] _ (.refl _) (RDef_spec hcl (hg.ds _ hdm) (hf _ hdm).1 hW) ?_
    rintro v J N - ⟨rfl, hJ, rfl⟩
    subst J
    refine CondOb.mk (fun h1 => ?_) (fun h1 => ?_)
    · exact ⟨_, _, .refl, by rw [hw, hdrop, gramB, h1]; rfl, rfl, rfl⟩
    · refine BinOb.concatL (a := w) (by omega) ?_
      refine ArithOb.mk _ (next_wr (i := i) (by omega)) ?_
      refine ⟨(i + 1, _), ⟨⟨by simp only; omega, ?_, ?_⟩, by simp only; omega⟩, .refl, .cons .refl (.cons .refl (.cons .refl .nil)), .cons rfl .nil⟩
      · simp only [List.length_append]
        omega
      · simp only
        rw [hw, hdrop, gramB, h1]
        rfl
  · have hge : g.n ≤ i := by simpa using h
    have hdn : g.ds.drop i = [] := List.drop_eq_nil_of_le (by omega)
    exact ⟨_, _, .refl, by rw [hw, hdn]; rfl, rfl, rfl⟩
end Go.V

/-
  Plain: gram.May by looking names up from the start.
-/
set_option linter.unusedVariables false
set_option linter.unusedSimpArgs false
namespace Go.V
open Go Go.Proofs

theorem findAt_shift (nm : ByteArray) : ∀ (ds : List Df) (i : Nat), findAt nm ds i = bif decide (findAt nm ds 0 < 0) then -1 else findAt nm ds 0 + i
  | [], i => rfl
  | d :: ds, i => by
    unfold findAt
    cases h : decide (d.name = nm) with
    | true =>
      have : decide ((((0 : Nat) : Int)) < 0) = false := by decide
      simp [this]
    | false =>
      rw [cond_false, cond_false, findAt_shift nm ds (i + 1), findAt_shift nm ds (0 + 1)]
      have hr : findAt nm ds 0 < 0 ∨ 0 ≤ findAt nm ds 0 := by omega
      rcases hr with hr | hr
      · rw [decide_eq_true hr]
        rfl
      · have e : decide (findAt nm ds 0 < 0) = false := decide_eq_false (by omega)
        rw [e, cond_false, cond_false]
        have e2 : decide (findAt nm ds 0 + ((0 + 1 : Nat) : Int) < 0) = false := decide_eq_false (by omega)
        rw [e2, cond_false]
        omega
/-- A name found ahead of a place, or from there on. -/
theorem findAt_split (nm : ByteArray) (hs bs : List Df) : findAt nm (hs ++ bs) 0 = bif decide (findAt nm hs 0 < 0) then findAt nm bs hs.length else findAt nm hs 0 := by
  have key : ∀ (hs : List Df) (i : Nat), findAt nm (hs ++ bs) i = bif decide (findAt nm hs i < 0) then findAt nm bs (i + hs.length) else findAt nm hs i := by
    intro hs
    induction hs with
    | nil => intro i; simp [findAt]
    | cons d hs ih =>
      intro i
      rw [List.cons_append, findAt, findAt]
      cases decide (d.name = nm) with
      | true =>
        have : decide ((i : Int) < 0) = false := decide_eq_false (by omega)
        rw [cond_true, cond_true, this, cond_false]
      | false =>
        rw [cond_false, cond_false, ih (i + 1), List.length_cons]
        rw [show i + 1 + hs.length = i + (hs.length + 1) from by omega]
  have := key hs 0
  rwa [Nat.zero_add] at this
/-- The list of the names seen, and looking up from the start. -/
structure SeenAs (hs : List Df) (acc : List (ByteArray × Int)) : Prop where
  look : ∀ nm, (lookM nm acc).isSome = decide (0 ≤ findAt nm hs 0)
theorem lookM_app (nm : ByteArray) (p : ByteArray × Int) : ∀ acc : List (ByteArray × Int), (lookM nm (acc ++ [p])).isSome = ((lookM nm acc).isSome || decide (nm = p.1))
  | [] => by
    show (bif decide (nm = p.1) then some p.2 else none : Option Int).isSome = _
    cases decide (nm = p.1) <;> rfl
  | q :: acc => by
    rw [List.cons_append, lookM, lookM]
    cases decide (nm = q.1) with
    | true => rfl
    | false => rw [cond_false, cond_false, lookM_app nm p acc]
theorem SeenAs.snoc {hs : List Df} {acc : List (ByteArray × Int)} (h : SeenAs hs acc) (d : Df) (v : Int) : SeenAs (hs ++ [d]) (acc ++ [(d.name, v)]) := by
  refine ⟨fun nm => ?_⟩
  rw [lookM_app, h.look, findAt_split]
  by_cases hr : findAt nm hs 0 < 0
  · rw [decide_eq_true hr, cond_true, decide_eq_false (by omega : ¬ 0 ≤ findAt nm hs 0), Bool.false_or]
    unfold findAt
    have : decide (d.name = nm) = decide (nm = d.name) := decide_eq_decide.2 ⟨Eq.symm, Eq.symm⟩
    rw [this]
    cases decide (nm = d.name) with
    | true => simp
    | false =>
      rw [cond_false]
      rfl
  · rw [decide_eq_false hr, cond_false, decide_eq_true (by omega : 0 ≤ findAt nm hs 0), Bool.true_or]
/-- No name twice: each rule is the first one of its name. -/
def firstOf (ds : List Df) (i : Nat) : Bool := match ds[i]? with
  | some d => decide (findAt d.name ds 0 = i)
  | none => true
theorem findAt_self (d : Df) (bs : List Df) (i : Nat) : findAt d.name (d :: bs) i = i := by
  rw [findAt, decide_eq_true rfl]
  rfl
theorem dups_spec (bs : List Df) : ∀ (hs : List Df) (acc : List (ByteArray × Int)), SeenAs hs acc → (∀ i, i < hs.length → firstOf (hs ++ bs) i = true) →
    match dups acc hs.length bs with
    | none => ∃ i, i < (hs ++ bs).length ∧ firstOf (hs ++ bs) i = false ∧ ∀ k, k < i → firstOf (hs ++ bs) k = true
    | some r => SeenAs (hs ++ bs) r ∧ ∀ i, i < (hs ++ bs).length → firstOf (hs ++ bs) i = true := by
  induction bs with
  | nil =>
    intro hs acc h hf
    rw [List.append_nil] at *
    exact ⟨h, hf⟩
  | cons d bs ih =>
    intro hs acc h hf
    have hat : (hs ++ d :: bs)[hs.length]? = some d := by simp
    have hfi : firstOf (hs ++ d :: bs) hs.length = !(lookM d.name acc).isSome := by
      unfold firstOf
      rw [hat, h.look]
      simp only
      rw [findAt_split]
      by_cases hr : findAt d.name hs 0 < 0
      · rw [decide_eq_true hr, cond_true, findAt_self]
        simp; omega
      · rw [decide_eq_false hr, cond_false]
        have hlt : findAt d.name hs 0 < hs.length := by
          have : ∀ (hs : List Df) (i : Nat), 0 ≤ findAt d.name hs i → findAt d.name hs i < i + hs.length := by
            intro hs
            induction hs with
            | nil => intro i h; simp [findAt] at h
            | cons e hs ih2 =>
              intro i h
              unfold findAt at h ⊢
              cases hc : decide (e.name = d.name) with
              | true => simp; omega
              | false =>
                rw [hc, cond_false] at h
                rw [cond_false]
                have := ih2 (i + 1) h
                simp
                omega
          have := this hs 0 (by omega)
          omega
        have e1 : decide (findAt d.name hs 0 = (hs.length : Int)) = false := decide_eq_false (by omega)
        have e2 : decide (0 ≤ findAt d.name hs 0) = true := decide_eq_true (by omega)
        rw [e1, e2]
        rfl
    rw [dups]
    cases hl : (lookM d.name acc).isSome with
    | true =>
      rw [hl] at hfi
      exact ⟨hs.length, by simp, hfi, hf⟩
    | false =>
      rw [hl] at hfi
      have := ih (hs ++ [d]) (acc ++ [(d.name, (hs.length : Int))]) (h.snoc d _) (fun i hi => by
        rw [List.append_assoc]
        simp at hi
        rcases Nat.lt_or_eq_of_le (Nat.lt_succ_iff.1 (by omega : i < hs.length + 1)) with h1 | h1
        · exact hf i h1
        · rw [h1]; exact hfi)
      rw [List.length_append, List.append_assoc] at this
      exact this
theorem seen0 : SeenAs [] [] := ⟨fun nm => by simp [lookM, findAt]⟩

/-- A called rule's name stands. -/
def nodeOk2 (ds : List Df) (n : Nd) : Bool := !decide (n.k = 3) || decide (0 ≤ findAt n.t ds 0)
theorem nodePairs_all (p : Nd → Bool) : ∀ (ds : List Df) (i : Nat), ((nodePairs i ds).all fun x => p x.2) = ds.all fun d => d.t.ns.all p
  | [], i => rfl
  | d :: ds, i => by
    rw [nodePairs, List.all_append, List.all_cons, nodePairs_all p ds (i + 1), List.all_map]
    rfl
/-- What gram.May says, by looking up. -/
def mayR (deb : List Int) (g : Gr) : Int :=
  bif decide ((g.n : Int) = 0) then 4 else bif !okDefs g.ds then 4 else bif largeG deb g then 40 else
  bif !(List.range g.ds.length).all (firstOf g.ds) then 6 else bif g.ds.all fun d => d.t.ns.all (nodeOk2 g.ds) then 0 else 41
theorem mayR_eq (deb : List Int) (g : Gr) : mayR deb g = mayG deb g := by
  unfold mayR mayG
  have h := dups_spec g.ds [] [] seen0 (fun i hi => by simp at hi)
  simp only [List.length_nil, List.nil_append] at h
  cases hd : dups [] 0 g.ds with
  | none =>
    rw [hd] at h
    obtain ⟨i, h1, h2, _⟩ := h
    have : (List.range g.ds.length).all (firstOf g.ds) = false := by
      rw [Bool.eq_false_iff]
      intro hall
      rw [List.all_eq_true] at hall
      have := hall i (List.mem_range.2 h1)
      rw [h2] at this
      cases this
    rw [this]
    rfl
  | some acc =>
    rw [hd] at h
    obtain ⟨h1, h2⟩ := h
    have h3 : (List.range g.ds.length).all (firstOf g.ds) = true := by
      rw [List.all_eq_true]
      intro i hi
      exact h2 i (List.mem_range.1 hi)
    rw [h3]
    have h4 : (g.ds.all fun d => d.t.ns.all (nodeOk2 g.ds)) = allNamed acc g.ds := by
      unfold allNamed
      rw [nodePairs_all]
      congr 1
      funext d
      congr 1
      funext n
      unfold nodeOk nodeOk2
      rw [h1.look]
    rw [h4]
    rfl
end Go.V

/-
  Walks: bonsairef09.Find, Nodes, May.
-/
set_option linter.unusedVariables false
set_option linter.unusedSimpArgs false
namespace Go.V
open Go Go.Proofs

theorem RFind_spec {I : GH} {g : Gr} (hg : g.ok I) (name : ByteArray) : Spec Tryz.prog 56 [g.val, .string name] I [] (fun v I' M' => v = .int .i64 (findAt name g.ds 0) ∧ I' = I ∧ M' = []) := by
  refine spec_of_V [] TryzEOK Tryz.func56 rfl rfl rfl ?_
  intro B h0
  have hgn := hg.n
  have hcap := hg.rs.cap
  refine LoopOb.inv (ι := Nat) (fun i => { fl := [(1, .val (.string name)), (2, .ref 2 0), (5, .val (.int .i64 i))], cl := [(2, [.slice g.a g.n g.c])], gi := I })
    (fun i => i ≤ g.n ∧ findAt name g.ds 0 = findAt name (g.ds.drop i) i) (fun i => g.n - i) ?_ ?_
  · exact ⟨0, ⟨by simp, rfl⟩, .refl, .cons .refl (.cons .refl (.cons .refl .nil)), .cons rfl .nil⟩
  rintro i ⟨hi, hf⟩
  refine CondOb.mk (fun h => ?_) (fun h => ?_)
  · have hlt : i < g.n := by simpa using h
    have hlt' : i < g.ds.length := by omega
    obtain ⟨ad, had, hrd⟩ := hg.rs.row Df.cells_len hlt hlt'
    have hdrop : g.ds.drop i = g.ds[i] :: g.ds.drop (i + 1) := List.drop_eq_getElem_cons hlt'
    refine IdxOb.mk ad i had rfl hlt ?_
    refine LoadOb.mk _ (Rd.part (k := 0) (m := 1) (hrd _) (by decide)) ?_
    refine CondOb.mk (fun h2 => ?_) (fun h2 => ?_)
    · exact ⟨_, _, .refl, by rw [hf, hdrop, findAt, h2]; rfl, rfl, rfl⟩
    · refine ArithOb.mk _ (next_wr (i := i) (by omega)) ?_
      refine ⟨i + 1, ⟨⟨by omega, ?_⟩, by omega⟩, .refl, .cons .refl (.cons .refl (.cons .refl .nil)), .cons rfl .nil⟩
      rw [hf, hdrop, findAt, h2]
      rfl
  · have hge : g.n ≤ i := by simpa using h
    have hdn : g.ds.drop i = [] := List.drop_eq_nil_of_le (by omega)
    exact ⟨_, _, .refl, by rw [hf, hdn]; rfl, rfl, rfl⟩

theorem sizeT_le {t : Tr} : sizeT t ≤ t.n := by
  unfold sizeT
  cases right t <;> simp
theorem RNodes_spec {I : GH} {g : Gr} (hg : g.ok I) {W : Nat} (hf : ∀ d ∈ g.ds, Fit d.t W) (hn : g.n ≤ 1000000) : Spec Tryz.prog 71 [g.val] I [] (fun v I' M' => v = .int .i64 (nodesG g : Nat) ∧ I' = I ∧ M' = []) := by
  refine spec_of_V [] TryzEOK Tryz.func71 rfl rfl rfl ?_
  intro B h0
  have hgn := hg.n
  refine LoopOb.inv (ι := Nat × Nat) (fun x => { fl := [(1, .ref 1 0), (3, .val (.int .i64 x.2)), (4, .val (.int .i64 x.1))], cl := [(1, [.slice g.a g.n g.c])], gi := I })
    (fun x => x.1 ≤ g.n ∧ x.2 = ((g.ds.take x.1).map fun d => sizeT d.t).sum ∧ x.2 ≤ 1099511627776 * x.1) (fun x => g.n - x.1) ?_ ?_
  · exact ⟨(0, 0), ⟨by simp, by simp, by simp⟩, .refl, .cons .refl (.cons .refl (.cons .refl .nil)), .cons rfl .nil⟩
  rintro ⟨i, s⟩ ⟨hi, hs, hb⟩
  simp only at hi hs hb
  refine CondOb.mk (fun h => ?_) (fun h => ?_)
  · have hlt : i < g.n := by simpa using h
    have hlt' : i < g.ds.length := by omega
    obtain ⟨ad, had, hrd⟩ := hg.rs.row Df.cells_len hlt hlt'
    have hdm : g.ds[i] ∈ g.ds := List.getElem_mem hlt'
    have hfi := hf _ hdm
    have hsz := sizeT_le (t := g.ds[i].t)
    have hfn := hfi.n
    refine IdxOb.mk ad i had rfl hlt ?_
    refine LoadOb.mk _ (Rd.part (k := 1) (m := 2) (hrd _) (by decide)) ?_
    refine CallOb.mk [] [] _ (.refl _) (RSize_spec (hg.ds _ hdm).t hfi) ?_
    rintro v J N - ⟨rfl, hJ, rfl⟩
    subst J
    refine ArithOb.mk ((s + sizeT g.ds[i].t : Nat) : Int) (wrap_i64 (x := ((s + sizeT g.ds[i].t : Nat) : Int)) ⟨by omega, by omega⟩) ?_
    refine ArithOb.mk _ (next_wr (i := i) (by omega)) ?_
    refine ⟨(i + 1, s + sizeT g.ds[i].t), ⟨⟨by simp only; omega, ?_, by simp only; omega⟩, by simp only; omega⟩, .refl, .cons .refl (.cons .refl (.cons .refl .nil)), .cons rfl .nil⟩
    simp only
    rw [hs, List.take_succ_eq_append_getElem hlt', List.map_append, List.sum_append]
    simp
  · have hge : g.n ≤ i := by simpa using h
    rw [List.take_of_length_le (by omega)] at hs
    exact ⟨_, _, .refl, by rw [hs]; rfl, rfl, rfl⟩
end Go.V
