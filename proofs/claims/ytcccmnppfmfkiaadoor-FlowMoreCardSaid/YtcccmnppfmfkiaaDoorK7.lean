/-
  Part 7 of what the proofs of this seat share: the executor, data in memory, walks.
-/
import Derived.Test.YtcccmnppfmfkiaaDoorK6
import Derived.Test.YtcccmnppfmfkiaaDoorK5
import Derived.Test.YtcccmnppfmfkiaaDoorK4

/-
  Walks: bonsairef04.Clean, of any right tree; Of, of any right kids.
-/
set_option linter.unusedVariables false
set_option linter.unusedSimpArgs false
namespace Go.V
open Go Go.Proofs

def cleanC (t : Tr) : List Nd := subC t.ns t.root
/-- How large trees may be, for the walks. -/
structure Fit (t : Tr) (W : Nat) : Prop where
  w : ∀ d ∈ t.ns, d.kn ≤ W
  b : t.n * W ≤ 1152921504606846976
  n : t.n ≤ 1099511627776

theorem RClean_gen {I : GH} {t : Tr} (ht : t.ok I) (hr : right t = true) {W : Nat} (hf : Fit t W) :
    Spec Tryd.prog 53 [t.val] I [] fun v I' M' => (∀ b o, I b = some o → I' b = some o) ∧ M' = [] ∧ ∃ t' : Tr, v = t'.val ∧ t'.ok I' ∧ t'.ns.map Nd.ct = cleanC t ∧ t'.root = (t'.ns.length : Int) - 1 ∧ t'.ns.length ≤ t.n ∧ ∀ d ∈ t'.ns, ∀ k ∈ d.kids, 0 ≤ k ∧ k ≤ t.n := by
  have hroot := right_root hr
  have htn := ht.n
  obtain ⟨r, hr'⟩ := Int.eq_ofNat_of_zero_le hroot.1
  have hspec := RSub_gen ht hr W hf.w hf.b hf.n (node := r) (by omega)
  rw [show ((r : Nat) : Int) = t.root from hr'.symm] at hspec
  refine spec_of_V [] TrydEOK Tryd.func53 rfl rfl rfl ?_
  intro B h0
  refine CallOb.mk [] [] _ (.refl _) hspec ?_
  rintro v I' M' - ⟨hI, rfl, t', rfl, h1, h2, h3, h4, h5⟩
  exact ⟨_, _, .refl, hI, rfl, t', rfl, h1, h2, h3, h4, h5⟩

theorem Rd.mono {I I' : GH} {M : List Blk} {a : Addr} {n : Nat} {vs : List Value} (h : Rd I M a n vs) (hI : ∀ b o, I b = some o → I' b = some o) : Rd I' M a n vs := by
  obtain ⟨h1, cs, T, fr, h2, h3⟩ := h
  exact ⟨h1, cs, T, fr, h2.imp (hI _ _) id, h3⟩
theorem Rd.sub {I : GH} {M M' : List Blk} {a : Addr} {n : Nat} {vs : List Value} (h : Rd I M a n vs) (hM : ∀ x ∈ M, x ∈ M') : Rd I M' a n vs := by
  obtain ⟨h1, cs, T, fr, h2, h3⟩ := h
  refine ⟨h1, cs, T, fr, h2.imp id ?_, h3⟩
  rintro ⟨x, hx, e1, e2⟩
  exact ⟨x, hM x hx, e1, e2⟩
theorem nd_ne {M A C : List Blk} (h : (M.map (·.num)).Nodup) (hM : M.Perm (A ++ C)) {x y : Blk} (hx : x ∈ A) (hy : y ∈ C) : x.num ≠ y.num := by
  have h2 := ((hM.map (·.num)).nodup_iff).1 h
  rw [List.map_append, List.nodup_append] at h2
  exact h2.2.2 _ (List.mem_map.2 ⟨x, hx, rfl⟩) _ (List.mem_map.2 ⟨y, hy, rfl⟩)

def ofStep (st : List Nd × List Int) (l : List Nd) : List Nd × List Int :=
  (st.1 ++ l.map (fun x => x.withKids (x.kids.map fun k => (st.1.length : Int) + k)), st.2 ++ [((st.1.length + l.length : Nat) : Int) - 1])
def ofNds (d : Nd) (ls : List (List Nd)) : List Nd := (ls.foldl ofStep ([], [])).1 ++ [d.withKids (ls.foldl ofStep ([], [])).2]

structure OfInv (I : GH) (L : List Tr) (x : Nat × OS × List Nd × OS × List Int × GH) : Prop where
  i : x.1 ≤ L.length
  out : x.2.1.ok 9 (x.2.2.1.flatMap Nd.cells)
  kd : x.2.2.2.1.ok 1 (x.2.2.2.2.1.map (.int .i64 ·))
  kl : x.2.2.2.2.1.length = x.1
  eq : ((L.take x.1).map cleanC).foldl ofStep ([], []) = (x.2.2.1.map Nd.ct, x.2.2.2.2.1)
  ok : ∀ d ∈ x.2.2.1, d.ok x.2.2.2.2.2
  le : ∀ b o, I b = some o → x.2.2.2.2.2 b = some o
  n : x.2.2.1.length ≤ ((L.take x.1).map (·.n)).sum
  kb : ∀ k ∈ x.2.2.2.2.1, -1 ≤ k ∧ k ≤ ((L.take x.1).map (·.n)).sum

theorem take_sum_le (L : List Tr) (i : Nat) : ((L.take i).map (·.n)).sum ≤ (L.map (·.n)).sum := by
  have h := congrArg (fun l : List Tr => (l.map (·.n)).sum) (List.take_append_drop i L)
  simp only [List.map_append, List.sum_append] at h
  omega
theorem take_sum_succ (L : List Tr) (i : Nat) (hi : i < L.length) : ((L.take (i + 1)).map (·.n)).sum = ((L.take i).map (·.n)).sum + L[i].n := by
  rw [List.take_succ_eq_append_getElem hi, List.map_append, List.sum_append]
  simp

set_option maxRecDepth 100000 in
set_option maxHeartbeats 8000000 in
theorem ROf_gen {I : GH} {M0 : List Blk} {d : Nd} (hd : d.ok I) {L : List Tr} {ka : Option Addr} {cc : Nat} (hrd : ∀ j (h : j < L.length), ∃ ad, ka = some ad ∧ Rd I M0 (ad.add (j * 2)) 2 L[j].cells)
    (hL : ∀ t ∈ L, t.ok I ∧ right t = true) {W : Nat} (hW : ∀ t ∈ L, Fit t W) (hn : (L.map (·.n)).sum ≤ 1099511627776) (hl : L.length ≤ 1099511627776) (hf : fits d L.length = true) :
    Spec Tryd.prog 35 [d.val, .slice ka L.length cc] I M0 fun v I' M' => (∀ b o, I b = some o → I' b = some o) ∧ M' = M0 ∧
      ∃ t' : Tr, v = .tuple #[t'.val, .bool true] ∧ t'.ok I' ∧ t'.root = (t'.ns.length : Int) - 1 ∧ t'.ns.map Nd.ct = ofNds d (L.map cleanC) := by
  refine spec_of_VF [] TrydEOK Tryd.func35 rfl rfl rfl ?_
  intro B h0
  refine CallOb.mk [] M0 _ (.refl _) (RFits_gen hd.k L.length) ?_
  rintro v I' M' - ⟨rfl, rfl, rfl⟩
  refine CondOb.mk (fun h => ?_) (fun _ => ?_)
  · exfalso
    rw [hf] at h
    cases h
  have hd8 : ∀ s : Value, splice d.cells 8 [s] = d.cells.take 8 ++ [s] := fun s => rfl
  refine LoopOb.inv (ι := Nat × OS × List Nd × OS × List Int × GH) (fun x => { fl := [(1, .val (.slice ka L.length cc)), (2, .ref 2 0), (4, .ref 4 0), (6, .val x.2.1.val), (7, .val (.int .i64 x.1))], cl := [(2, d.cells.take 8 ++ [x.2.2.2.1.val]), (4, [.slice none 0 0, .int .i64 0])], gi := x.2.2.2.2.2, mi := x.2.1.blk 32 ++ (x.2.2.2.1.blk 3 ++ M0) })
    (OfInv I' L) (fun x => L.length - x.1) ?_ ?_
  · exact ⟨(0, OS0, [], OS0, [], I'), ⟨Nat.zero_le _, OS0_ok 9, OS0_ok 1, rfl, rfl, (fun d hd => by cases hd), fun _ _ h => h, Nat.zero_le _, (fun k hk => by cases hk)⟩, .refl, .cons .refl (.cons .refl (.cons .refl (.cons .refl (.cons .refl .nil)))), .cons rfl (.cons rfl .nil)⟩
  rintro ⟨i, out, outN, kd, kdL, J⟩ ⟨hi, hout, hkd, hkl, hfold, hok, hJ, hon, hkb⟩
  simp only at hi hout hkd hkl hfold hok hJ hon hkb
  have hts := take_sum_le L i
  have hol : out.n = outN.length := by
    have := hout.len
    rw [flat_len _ 9 Nd.cells_len] at this
    omega
  have hkdl := hkd.len1
  refine CondOb.mk (fun h => ?_) (fun h => ?_)
  · have hlt : i < L.length := by have : (i : Int) < (L.length : Int) := of_decide_eq_true h; omega
    obtain ⟨ad, had, hrdi⟩ := hrd i hlt
    have hrdi : Rd J (out.blk 32 ++ (kd.blk 3 ++ M0)) (ad.add (i * 2)) 2 L[i].cells := (hrdi.mono hJ).sub fun x hx => by simp [hx]
    obtain ⟨htI, hrt⟩ := hL _ (List.getElem_mem hlt)
    have hfit := hW _ (List.getElem_mem hlt)
    have htJ := htI.mono hJ
    have hts2 := take_sum_le L (i + 1)
    rw [take_sum_succ L i hlt] at hts2
    have hTi : (L.take (i + 1)).map cleanC = (L.take i).map cleanC ++ [cleanC L[i]] := by
      rw [List.take_succ_eq_append_getElem hlt, List.map_append]
      rfl
    have hsucc := take_sum_succ L i hlt
    generalize hti : L[i] = t at htI hrt hfit htJ hrdi hts2 hTi hsucc
    refine IdxOb.mk ad i had rfl hlt ?_
    refine LoadOb.mk _ hrdi ?_
    refine CallOb.mk [] _ _ (.refl _) (RRight_gen htJ W hfit.w hfit.b) ?_
    rintro v I3 M3 - ⟨rfl, rfl, rfl⟩
    rw [hrt]
    refine CondOb.mk (fun h => by simp at h) (fun _ => ?_)
    refine IdxOb.mk ad i had rfl hlt ?_
    refine LoadOb.mk _ hrdi ?_
    refine CallOb.mk [] _ _ (.refl _) (RClean_gen htJ hrt hfit) ?_
    rintro v J1 M4 - ⟨hJ1, rfl, t', rfl, htok, htct, htroot, htlen, htkb⟩
    have htn := htok.n
    refine LoopOb.invF (ι := Nat × OS × List Nd × GH) (fun x => { fl := [(1, .val (.slice ka L.length cc)), (2, .ref 2 0), (4, .ref 4 0), (6, .val x.2.1.val), (7, .val (.int .i64 i)), (8, .ref 8 0), (9, .val (.int .i64 (outN.length : Nat))), (10, .val (.int .i64 x.1))], cl := [(2, d.cells.take 8 ++ [kd.val]), (4, [.slice none 0 0, .int .i64 0]), (8, t'.cells)], gi := x.2.2.2, mi := x.2.1.blk 32 ++ (kd.blk 3 ++ M0) })
      (fun x => x.1 ≤ t'.n ∧ x.2.1.ok 9 ((outN ++ x.2.2.1).flatMap Nd.cells) ∧ x.2.2.1.map Nd.ct = (t'.ns.take x.1).map (fun y => y.withKids (y.kids.map fun k => (outN.length : Int) + k)) ∧ (∀ y ∈ x.2.2.1, y.ok x.2.2.2) ∧ ∀ b o, J1 b = some o → x.2.2.2 b = some o) (fun x => t'.n - x.1) ?_ ?_
    · intro _
      refine ⟨(0, out, [], J1), ⟨Nat.zero_le _, by rw [List.append_nil]; exact hout, rfl, (fun y hy => by cases hy), fun _ _ h => h⟩, .refl, .cons .refl (.cons .refl (.cons .refl (.cons .refl (.cons .refl (.cons .refl (.cons ?_ (.cons .refl .nil))))))), .cons rfl (.cons rfl (.cons rfl .nil))⟩
      simp only [← hol]
      exact .refl
    rintro ⟨k, ou, nw, J2⟩ ⟨hk, hou, hnw, hnok, hJ2⟩
    simp only at hk hou hnw hnok hJ2
    have hnl : nw.length = k := by
      have := congrArg List.length hnw
      simpa [htn, Nat.min_eq_left hk] using this
    have houl : ou.n = outN.length + k := by
      have := hou.len
      rw [flat_len _ 9 Nd.cells_len, List.length_append, hnl] at this
      omega
    refine CondOb.mk (fun h2 => ?_) (fun h2 => ?_)
    · have hkt : k < t'.n := by have : (k : Int) < (t'.n : Int) := of_decide_eq_true h2; omega
      have hkt' : k < t'.ns.length := by omega
      obtain ⟨an, han, hrn⟩ := (htok.mono hJ2).rs.row Nd.cells_len hkt hkt'
      have hx := (htok.ns _ (List.getElem_mem hkt')).mono hJ2
      have hxkb := htkb _ (List.getElem_mem hkt')
      have hxn := hx.kn
      have hxc := hx.rs.cap
      have htk : (t'.ns.take (k + 1)) = t'.ns.take k ++ [t'.ns[k]] := List.take_succ_eq_append_getElem hkt'
      generalize hxx : t'.ns[k] = x at hrn hx hxkb hxn hxc htk
      refine IdxOb.mk an k han rfl hkt ?_
      refine LoadOb.mk _ (hrn _) ?_
      refine LoopOb.inv (ι := Nat × OS × List Int) (fun y => { fl := [(1, .val (.slice ka L.length cc)), (2, .ref 2 0), (4, .ref 4 0), (6, .val ou.val), (7, .val (.int .i64 i)), (8, .ref 8 0), (9, .val (.int .i64 (outN.length : Nat))), (10, .val (.int .i64 k)), (11, .ref 11 0), (12, .val y.2.1.val), (13, .val (.int .i64 y.1))], cl := [(2, d.cells.take 8 ++ [kd.val]), (4, [.slice none 0 0, .int .i64 0]), (8, t'.cells), (11, x.cells)], gi := J2, mi := y.2.1.blk 3 ++ (ou.blk 32 ++ (kd.blk 3 ++ M0)) })
        (fun y => y.1 ≤ x.kn ∧ y.2.1.ok 1 (y.2.2.map (.int .i64 ·)) ∧ y.2.2 = (x.kids.take y.1).map fun k => (outN.length : Int) + k) (fun y => x.kn - y.1) ?_ ?_
      · exact ⟨(0, OS0, []), ⟨Nat.zero_le _, OS0_ok 1, rfl⟩, .refl, .cons .refl (.cons .refl (.cons .refl (.cons .refl (.cons .refl (.cons .refl (.cons .refl (.cons .refl (.cons .refl (.cons .refl (.cons .refl .nil)))))))))), .cons rfl (.cons rfl (.cons rfl (.cons rfl .nil)))⟩
      rintro ⟨j, ow, ol⟩ ⟨hj, how, hol2⟩
      simp only at hj how hol2
      have howl := how.len1
      have hjl : ol.length ≤ j := by
        rw [hol2, List.length_map]
        exact List.length_take_le _ _
      refine CondOb.mk (fun h3 => ?_) (fun h3 => ?_)
      · have hjx : j < x.kn := by have : (j : Int) < (x.kn : Int) := of_decide_eq_true h3; omega
        have hjx' : j < x.kids.length := by omega
        obtain ⟨ak, hak, hrk⟩ := hx.rs.one hjx hjx'
        have hkv := hxkb _ (List.getElem_mem hjx')
        refine IdxOb.mk ak j hak rfl hjx ?_
        refine LoadOb.mk _ (hrk _) ?_
        refine ArithOb.mk ((outN.length : Int) + x.kids[j]) (wr_eq rfl (by have := hfit.n; omega)) ?_
        refine AllocOb.mk fun b13 hb13 hbM13 => ?_
        refine OtherOb.append TrydEOK rfl (by simp) (e := 3) rfl rfl rfl ow how rfl (m := 1) rfl (news := [.int .i64 ((outN.length : Int) + x.kids[j])]) (by decide) (blk_rd (b := b13) (cs := [.int .i64 ((outN.length : Int) + x.kids[j])]) (k := 0) (n := 1) (T := 3) (.head _) (by simp)) rfl (Mr := ⟨b13, .cells #[.int .i64 ((outN.length : Int) + x.kids[j])] 3 (0, 0)⟩ :: (ou.blk 32 ++ (kd.blk 3 ++ M0))) List.perm_middle.symm (by simp only [maxLen]; omega) (by show (ow.n + 1) * 8 ≤ _; omega) ?_
        intro g2 c2 cur2 r1 r2 r3 r4
        refine ArithOb.mk _ (next_wr (i := j) (by omega)) ?_
        refine ⟨(j + 1, ⟨some g2, ow.n + 1, c2, cur2⟩, ol ++ [(outN.length : Int) + x.kids[j]]), ⟨⟨by simp only; omega, ?_, ?_⟩, by simp only; omega⟩, .sub (.cons_cons _ (.cons _ (.refl _))) .refl, .cons .refl (.cons .refl (.cons .refl (.cons .refl (.cons .refl (.cons .refl (.cons .refl (.cons .refl (.cons .refl (.cons .refl (.cons .refl .nil)))))))))), .cons rfl (.cons rfl (.cons rfl (.cons rfl .nil)))⟩
        · simp only
          rw [List.map_append]
          exact app1_ok how r1 r2 r3 r4
        · simp only
          rw [List.take_succ_eq_append_getElem hjx', List.map_append, ← hol2]
          rfl
      have hge : x.kn ≤ j := by have : ¬ (j : Int) < (x.kn : Int) := of_decide_eq_false h3; omega
      rw [List.take_of_length_le (by omega)] at hol2
      obtain ⟨nd, hnd⟩ : ∃ nd : Nd, nd = ⟨x.k, x.s0, x.s1, x.s2, x.s3, x.t, x.lo, x.hi, ow.a.map fun g => ⟨g, 0, none⟩, ow.n, ow.c, ol⟩ := ⟨_, rfl⟩
      have hndc : nd.cells = [.int .u8 x.k, .int .u64 x.s0, .int .u64 x.s1, .int .u64 x.s2, .int .u64 x.s3, .string x.t, .int .i64 x.lo, .int .i64 x.hi, ow.val] := by rw [hnd]; rfl
      refine AllocOb.mk fun b20 hb20 hbM20 => ?_
      refine OtherOb.append TrydEOK rfl (by simp) (e := 32) rfl rfl rfl ou hou rfl (m := 1) rfl (news := nd.cells) (by decide) (by rw [hndc]; exact blk_rd (b := b20) (cs := [.int .u8 x.k, .int .u64 x.s0, .int .u64 x.s1, .int .u64 x.s2, .int .u64 x.s3, .string x.t, .int .i64 x.lo, .int .i64 x.hi, ow.val]) (k := 0) (n := 9) (T := 32) (.head _) (Nat.le_of_ble_eq_true rfl)) (by rw [hndc]; rfl)
        (Mr := ⟨b20, .cells [.int .u8 x.k, .int .u64 x.s0, .int .u64 x.s1, .int .u64 x.s2, .int .u64 x.s3, .string x.t, .int .i64 x.lo, .int .i64 x.hi, ow.val].toArray 32 (0, 0)⟩ :: (ow.blk 3 ++ (kd.blk 3 ++ M0))) ?_ (by simp only [maxLen]; omega) (by show (ou.n + 1) * 96 ≤ _; omega) ?_
      · have := List.perm_append_comm_assoc ((⟨b20, .cells [.int .u8 x.k, .int .u64 x.s0, .int .u64 x.s1, .int .u64 x.s2, .int .u64 x.s3, .string x.t, .int .i64 x.lo, .int .i64 x.hi, ow.val].toArray 32 (0, 0)⟩ : Blk) :: ow.blk 3) (ou.blk 32) (kd.blk 3 ++ M0)
        exact this
      intro g3 c3 cur3 u1 u2 u3 u4
      refine ArithOb.mk _ (next_wr (i := k) (by omega)) ?_
      intro hfa
      have hM : ∀ g, ow.a = some g → (⟨g, .cells ow.cur.toArray 3 (0, 0)⟩ : Blk) ∈ ow.blk 3 := fun g hg => by simp [OS.blk, hg]
      obtain ⟨J3, hw, hle, hrs, -⟩ := OS.giveF (I := J2) (foot := M0.map (·.num)) (b := 8) (e := 3) how (by omega) (fun g hg => ⟨hfa.d ⟨g, .cells ow.cur.toArray 3 (0, 0)⟩ (by simp [hM g hg]), fun hm => by
        obtain ⟨y, hy, e⟩ := List.mem_map.1 hm
        refine nd_ne hfa.nd (A := ⟨g3, .cells cur3.toArray 32 (0, 0)⟩ :: ⟨b20, .cells [.int .u8 x.k, .int .u64 x.s0, .int .u64 x.s1, .int .u64 x.s2, .int .u64 x.s3, .string x.t, .int .i64 x.lo, .int .i64 x.hi, ow.val].toArray 32 (0, 0)⟩ :: (ow.blk 3 ++ kd.blk 3)) (C := M0) (by simp) (x := ⟨g, .cells ow.cur.toArray 3 (0, 0)⟩) (by simp [hM g hg]) hy e.symm⟩) ([(⟨g3, .cells cur3.toArray 32 (0, 0)⟩ : Blk)] ++ (kd.blk 3 ++ M0))
      refine ⟨(k + 1, ⟨some g3, ou.n + 1, c3, cur3⟩, nw ++ [nd], J3), ⟨⟨by simp only; omega, ?_, ?_, ?_, fun b o h => hle _ _ (hJ2 _ _ h)⟩, by simp only; omega⟩, ?_, .cons .refl (.cons .refl (.cons .refl (.cons .refl (.cons .refl (.cons .refl (.cons .refl (.cons .refl .nil))))))), .cons rfl (.cons rfl (.cons rfl .nil))⟩
      · simp only
        rw [← List.append_assoc, List.flatMap_append]
        have : ([nd].flatMap Nd.cells) = nd.cells := by simp
        rw [this]
        exact appk_ok hou (Nd.cells_len _) u1 u2 u3 u4
      · simp only
        rw [htk, List.map_append, List.map_append, ← hnw, List.map_cons, List.map_nil, hnd, hol2]
        rfl
      · simp only
        intro y hy
        rcases List.mem_append.1 hy with hy | hy
        · exact (hnok y hy).mono hle
        · simp only [List.mem_singleton] at hy
          rw [hy, hnd]
          refine ⟨hx.k, hx.s0, hx.s1, hx.s2, hx.s3, hx.t, hx.lo, hx.hi, hrs, fun c hc => ?_⟩
          simp only at hc
          rw [hol2] at hc
          obtain ⟨q, hq, rfl⟩ := List.mem_map.1 hc
          have := hxkb q hq
          have := hfit.n
          exact ⟨by omega, by omega⟩
      · simp only
        refine .sub (M1 := (⟨g3, .cells cur3.toArray 32 (0, 0)⟩ : Blk) :: (ow.blk 3 ++ (kd.blk 3 ++ M0))) (.cons_cons _ (.cons _ (.refl _))) ?_
        exact .perm (M1 := ow.blk 3 ++ ([(⟨g3, .cells cur3.toArray 32 (0, 0)⟩ : Blk)] ++ (kd.blk 3 ++ M0))) List.perm_middle.symm (hw _ _ .refl)
    have hge : k = t'.n := by have : ¬ (k : Int) < (t'.n : Int) := of_decide_eq_false h2; omega
    rw [List.take_of_length_le (by omega)] at hnw
    subst hge
    refine ArithOb.mk ((outN.length + t'.n : Nat) - 1 : Int) (wr_eq (by simp only [OS.val]; omega) (by omega)) ?_
    refine AllocOb.mk fun b21 hb21 hbM21 => ?_
    refine OtherOb.append TrydEOK rfl (by simp) (e := 3) rfl rfl rfl kd hkd rfl (m := 1) rfl (news := [.int .i64 ((outN.length + t'.n : Nat) - 1 : Int)]) (by decide) (blk_rd (b := b21) (cs := [.int .i64 ((outN.length + t'.n : Nat) - 1 : Int)]) (k := 0) (n := 1) (T := 3) (.head _) (by simp)) rfl (Mr := ⟨b21, .cells #[.int .i64 ((outN.length + t'.n : Nat) - 1 : Int)] 3 (0, 0)⟩ :: (ou.blk 32 ++ M0)) ?_ (by simp only [maxLen]; omega) (by show (kd.n + 1) * 8 ≤ _; omega) ?_
    · have := List.perm_append_comm_assoc ((⟨b21, .cells #[.int .i64 ((outN.length + t'.n : Nat) - 1 : Int)] 3 (0, 0)⟩ : Blk) :: ou.blk 32) (kd.blk 3) M0
      exact this
    intro g2 c2 cur2 r1 r2 r3 r4
    refine ArithOb.mk _ (next_wr (i := i) (by omega)) ?_
    refine ⟨(i + 1, ou, outN ++ nw, ⟨some g2, kd.n + 1, c2, cur2⟩, kdL ++ [((outN.length + t'.n : Nat) - 1 : Int)], J2), ⟨⟨by simp only; omega, hou, ?_, by simp [hkl], ?_, ?_, fun b o h => hJ2 _ _ (hJ1 _ _ (hJ _ _ h)), ?_, ?_⟩, by simp only; omega⟩, ?_, .cons .refl (.cons .refl (.cons .refl (.cons .refl (.cons .refl .nil)))), .cons rfl (.cons rfl .nil)⟩
    · simp only
      rw [List.map_append]
      exact app1_ok hkd r1 r2 r3 r4
    · simp only
      rw [hTi, List.foldl_append, hfold, List.foldl_cons, List.foldl_nil, ofStep, ← htct, List.map_append, hnw]
      simp only [List.length_map, List.map_map, htn]
      rfl
    · simp only
      intro y hy
      rcases List.mem_append.1 hy with hy | hy
      · exact (hok y hy).mono fun b o h => hJ2 _ _ (hJ1 _ _ h)
      · exact hnok y hy
    · simp only [List.length_append]
      omega
    · simp only
      intro q hq
      rcases List.mem_append.1 hq with hq | hq
      · have := hkb q hq
        omega
      · simp only [List.mem_singleton] at hq
        omega
    · simp only
      refine .sub (M1 := (⟨g2, .cells cur2.toArray 3 (0, 0)⟩ : Blk) :: (ou.blk 32 ++ M0)) (.cons_cons _ (.cons _ (.refl _))) ?_
      exact .perm (M1 := ou.blk 32 ++ ([(⟨g2, .cells cur2.toArray 3 (0, 0)⟩ : Blk)] ++ M0)) List.perm_middle.symm .refl
  have hge : i = L.length := by have : ¬ (i : Int) < (L.length : Int) := of_decide_eq_false h; omega
  rw [List.take_of_length_le (by omega)] at hfold hon hkb hts
  obtain ⟨nd, hnd⟩ : ∃ nd : Nd, nd = ⟨d.k, d.s0, d.s1, d.s2, d.s3, d.t, d.lo, d.hi, kd.a.map fun g => ⟨g, 0, none⟩, kd.n, kd.c, kdL⟩ := ⟨_, rfl⟩
  have hndc : nd.cells = [.int .u8 d.k, .int .u64 d.s0, .int .u64 d.s1, .int .u64 d.s2, .int .u64 d.s3, .string d.t, .int .i64 d.lo, .int .i64 d.hi, kd.val] := by rw [hnd]; rfl
  refine AllocOb.mk fun b20 hb20 hbM20 => ?_
  refine OtherOb.append TrydEOK rfl (by simp) (e := 32) rfl rfl rfl out hout rfl (m := 1) rfl (news := nd.cells) (by decide) (by rw [hndc]; exact blk_rd (b := b20) (cs := [.int .u8 d.k, .int .u64 d.s0, .int .u64 d.s1, .int .u64 d.s2, .int .u64 d.s3, .string d.t, .int .i64 d.lo, .int .i64 d.hi, kd.val]) (k := 0) (n := 9) (T := 32) (.head _) (Nat.le_of_ble_eq_true rfl)) (by rw [hndc]; rfl)
    (Mr := ⟨b20, .cells [.int .u8 d.k, .int .u64 d.s0, .int .u64 d.s1, .int .u64 d.s2, .int .u64 d.s3, .string d.t, .int .i64 d.lo, .int .i64 d.hi, kd.val].toArray 32 (0, 0)⟩ :: (kd.blk 3 ++ M0)) List.perm_middle.symm (by simp only [maxLen]; omega) (by show (out.n + 1) * 96 ≤ _; omega) ?_
  intro g3 c3 cur3 u1 u2 u3 u4
  have hok1 := appk_ok (g := g3) hout (Nd.cells_len nd) u1 u2 u3 u4
  refine ArithOb.mk ((outN.length : Nat) : Int) (wr_eq (by omega) (by omega)) ?_
  intro hfa
  have hM : ∀ g, kd.a = some g → (⟨g, .cells kd.cur.toArray 3 (0, 0)⟩ : Blk) ∈ kd.blk 3 := fun g hg => by simp [OS.blk, hg]
  have hg3 : ∀ g, kd.a = some g → g ≠ g3 := fun g hg e =>
    nd_ne hfa.nd (A := [⟨g3, .cells cur3.toArray 32 (0, 0)⟩]) (C := ⟨b20, .cells [.int .u8 d.k, .int .u64 d.s0, .int .u64 d.s1, .int .u64 d.s2, .int .u64 d.s3, .string d.t, .int .i64 d.lo, .int .i64 d.hi, kd.val].toArray 32 (0, 0)⟩ :: (kd.blk 3 ++ M0)) (.refl _) (x := ⟨g3, .cells cur3.toArray 32 (0, 0)⟩) (by simp) (y := ⟨g, .cells kd.cur.toArray 3 (0, 0)⟩) (by simp [hM g hg]) e.symm
  obtain ⟨J5, w1, w2, w3, w4⟩ := OS.giveF (I := J) (foot := M0.map (·.num)) (b := 8) (e := 3) hkd (by omega) (fun g hg => ⟨hfa.d ⟨g, .cells kd.cur.toArray 3 (0, 0)⟩ (by simp [hM g hg]), fun hm => by
    obtain ⟨y, hy, e⟩ := List.mem_map.1 hm
    refine nd_ne hfa.nd (A := ⟨g3, .cells cur3.toArray 32 (0, 0)⟩ :: ⟨b20, .cells [.int .u8 d.k, .int .u64 d.s0, .int .u64 d.s1, .int .u64 d.s2, .int .u64 d.s3, .string d.t, .int .i64 d.lo, .int .i64 d.hi, kd.val].toArray 32 (0, 0)⟩ :: kd.blk 3) (C := M0) (.refl _) (x := ⟨g, .cells kd.cur.toArray 3 (0, 0)⟩) (by simp [hM g hg]) hy e.symm⟩) ([(⟨g3, .cells cur3.toArray 32 (0, 0)⟩ : Blk)] ++ M0)
  have hg3I : J5 g3 = none := by
    rw [w4 g3 (fun hg => hg3 g3 hg rfl)]
    exact hfa.d ⟨g3, .cells cur3.toArray 32 (0, 0)⟩ (.head _)
  obtain ⟨J6, x1, x2, x3, x4⟩ := OS.giveF (I := J5) (foot := M0.map (·.num)) (b := 96) (e := 32) hok1 (by show (out.n + 1) * 96 ≤ _; omega) (fun g hg => by
    cases hg
    refine ⟨hg3I, fun hm => ?_⟩
    obtain ⟨y, hy, e⟩ := List.mem_map.1 hm
    exact nd_ne hfa.nd (A := [⟨g3, .cells cur3.toArray 32 (0, 0)⟩]) (C := ⟨b20, .cells [.int .u8 d.k, .int .u64 d.s0, .int .u64 d.s1, .int .u64 d.s2, .int .u64 d.s3, .string d.t, .int .i64 d.lo, .int .i64 d.hi, kd.val].toArray 32 (0, 0)⟩ :: (kd.blk 3 ++ M0)) (.refl _) (x := ⟨g3, .cells cur3.toArray 32 (0, 0)⟩) (by simp) (by simp [hy]) e.symm) M0
  refine ⟨J6, M0, .sub (M1 := (⟨g3, .cells cur3.toArray 32 (0, 0)⟩ : Blk) :: (kd.blk 3 ++ M0)) (.cons_cons _ (.cons _ (.refl _))) (.perm (M1 := kd.blk 3 ++ ([(⟨g3, .cells cur3.toArray 32 (0, 0)⟩ : Blk)] ++ M0)) List.perm_middle.symm (w1 _ _ (x1 _ _ .refl))),
    fun b o h => x2 _ _ (w2 _ _ (hJ _ _ h)), rfl, ⟨outN ++ [nd], some ⟨g3, 0, none⟩, out.n + 1, c3, (outN.length : Nat)⟩, rfl, ⟨?_, fun y hy => ?_, ⟨by simp only; omega, by simp only; omega⟩⟩, by simp, ?_⟩
  · have : ((outN ++ [nd]).flatMap Nd.cells) = outN.flatMap Nd.cells ++ nd.cells := by simp
    rw [this]
    exact x3
  · rcases List.mem_append.1 hy with hy | hy
    · exact (hok y hy).mono fun b o h => x2 _ _ (w2 _ _ h)
    · simp only [List.mem_singleton] at hy
      rw [hy, hnd]
      refine ⟨hd.k, hd.s0, hd.s1, hd.s2, hd.s3, hd.t, hd.lo, hd.hi, w3.mono x2, fun c hc => ?_⟩
      have := hkb c hc
      exact ⟨by omega, by omega⟩
  · simp only
    rw [ofNds, hfold, List.map_append, hnd]
    rfl
end Go.V

/-
  Walks: the flows of a node, out of its kids'.
-/
set_option linter.unusedVariables false
set_option linter.unusedSimpArgs false
namespace Go.V
open Go Go.Proofs

structure Fl where
  z : Bool
  s : Bool
  f : Bool
  deriving DecidableEq
def Fl.cells (x : Fl) : List Value := [.bool x.z, .bool x.s, .bool x.f]
def Fl.val (x : Fl) : Value := .agg #[.bool x.z, .bool x.s, .bool x.f]
theorem Fl.cells_len (x : Fl) : x.cells.length = 3 := rfl
def Fl.suc (x : Fl) : Bool := x.z || x.s
def Fl.eqb (x y : Fl) : Bool := x.z == y.z && (x.s == y.s && x.f == y.f)
theorem Fl.eqb_iff (x y : Fl) : x.eqb y = decide (x = y) := by
  obtain ⟨a, b, c⟩ := x
  obtain ⟨d, e, f⟩ := y
  cases a <;> cases b <;> cases c <;> cases d <;> cases e <;> cases f <;> decide

theorem eqB3_run (x y : Fl) (p q : Operand) (w : World) : (do eqGuard .eql 55 p q x.val y.val; binOp .eql 55 x.val y.val : Sem Value).run Tryd.prog w = .ok (.bool (decide (x = y))) w := by
  obtain ⟨a, b, c⟩ := x
  obtain ⟨d, e, f⟩ := y
  cases a <;> cases b <;> cases c <;> cases d <;> cases e <;> cases f <;> kernel_rfl
theorem neB3_run (x y : Fl) (p q : Operand) (w : World) : (do eqGuard .neq 55 p q x.val y.val; binOp .neq 55 x.val y.val : Sem Value).run Tryd.prog w = .ok (.bool (!decide (x = y))) w := by
  obtain ⟨a, b, c⟩ := x
  obtain ⟨d, e, f⟩ := y
  cases a <;> cases b <;> cases c <;> cases d <;> cases e <;> cases f <;> kernel_rfl
theorem BinOb.eqF {x y : Operand} {p q : Fl} {V : Value → Prop} {other : Prop} (h : V (.bool (decide (p = q)))) : BinOb Tryd.prog .eql 55 x y (.val (.agg #[.bool p.z, .bool p.s, .bool p.f])) (.val (.agg #[.bool q.z, .bool q.s, .bool q.f])) V other :=
  .mk _ _ _ rfl rfl (fun w => eqB3_run p q x y w) h
theorem BinOb.neF {x y : Operand} {p q : Fl} {V : Value → Prop} {other : Prop} (h : V (.bool (!decide (p = q)))) : BinOb Tryd.prog .neq 55 x y (.val (.agg #[.bool p.z, .bool p.s, .bool p.f])) (.val (.agg #[.bool q.z, .bool q.s, .bool q.f])) V other :=
  .mk _ _ _ rfl rfl (fun w => neB3_run p q x y w) h

theorem fl_eq {z s f : Bool} {x : Fl} (h1 : z = x.z) (h2 : s = x.s) (h3 : f = x.f) : Value.agg #[.bool z, .bool s, .bool f] = x.val := by
  subst h1 h2 h3
  rfl
theorem fl_cells {z s f : Bool} {x : Fl} (h1 : z = x.z) (h2 : s = x.s) (h3 : f = x.f) : [Value.bool z, Value.bool s, Value.bool f] = x.cells := by
  subst h1 h2 h3
  rfl
theorem sv_bool {a b : Bool} (h : a = b) : SvLe (.val (.bool a)) (.val (.bool b)) := by
  subst h
  exact .refl
theorem sv_lit {a b : Bool} (h : a = b) : SvLe (.lit a) (.val (.bool b)) := by
  subst h
  exact .lit
theorem perm_nil {M : List Blk} : M.Perm (M ++ []) := by simp
theorem BinOb.ne4 {P : Program} {E : Env} (hE : EOK P E) {t e : Nat} {ti ei : TI} {x y : Operand} (ht : E t = some ti) (hts : ti.sh = .array 4 e) (he : E e = some ei) {k : IntKind} (hes : ei.sh = .int k)
    (hg : P.eqGuardType P.depth t = false) {a0 a1 a2 a3 b0 b1 b2 b3 : Int} {V : Value → Prop} {other : Prop}
    (h : V (.bool (!(a0 == b0 && (a1 == b1 && (a2 == b2 && a3 == b3)))))) : BinOb P .neq t x y (.val (.agg #[.int k a0, .int k a1, .int k a2, .int k a3])) (.val (.agg #[.int k b0, .int k b1, .int k b2, .int k b3])) V other := by
  obtain ⟨d, hud, hdd⟩ := (hE _ _ ht).und
  obtain ⟨de, hue, hde⟩ := (hE _ _ he).und
  obtain ⟨inf, z, hi, hi1, _⟩ := (hE _ _ he).inf
  have h1 : d = .array 4 e := by rw [hts] at hdd; cases d <;> simp_all [shOf]
  have h2 : de = .int k := by rw [hes] at hde; cases de <;> simp_all [shOf]
  subst h1
  subst h2
  have hs1 : inf.size = 1 := by rw [hi1]; exact (hE _ _ he).sz1 (by rw [hes]; rfl)
  refine .mk _ _ _ rfl rfl (fun w => ?_) h
  simp only [Sem.run_bind, run_eqGuard_agg (hm := hg), Result.andThen_ok, binOp, eq4_run hud hue hi hs1, Sem.run_pure]
theorem Suc_spec {I : GH} {M : List Blk} (x : Fl) : Spec Tryd.prog 28 [x.val] I M fun v I' M' => v = .bool x.suc ∧ I' = I ∧ M' = M := by
  obtain ⟨a, b, c⟩ := x
  refine spec_of_V [] TrydEOK Tryd.func28 rfl rfl rfl ?_
  intro B h0
  refine GuardOb.mk (fun h => ?_) (fun h => ?_)
  · exact ⟨_, _, .refl, by rw [show a = false from h]; rfl, rfl, rfl⟩
  · exact ⟨_, _, .refl, by rw [show a = true from h]; rfl, rfl, rfl⟩

/-- Flows that lie from an address on. -/
structure FsAt (I : GH) (M : List Blk) (a : Option Addr) (n : Nat) (ks : List Fl) : Prop where
  n : ks.length = n
  rd : ∀ j (h : j < ks.length), ∃ ad, a = some ad ∧ Rd I M (ad.add (j * 3)) 3 ks[j].cells

def seqStep (st : Fl × Bool) (k : Fl) : Fl × Bool := (⟨st.1.z && k.z, st.1.s || k.s, st.1.f || (st.2 && k.f)⟩, st.2 && k.suc)
def seqGo (ks : List Fl) : Fl × Bool := ks.foldl seqStep (⟨true, false, false⟩, true)
def seqFl (ks : List Fl) : Fl := ⟨(seqGo ks).1.z, (seqGo ks).1.s && (seqGo ks).2, (seqGo ks).1.f⟩
def chStep (f k : Fl) : Fl := ⟨f.z || (f.f && k.z), f.s || (f.f && k.s), f.f && k.f⟩
def chFl (ks : List Fl) : Fl := ks.foldl chStep ⟨false, false, true⟩
def fl0 : Fl := ⟨false, false, false⟩
def repFl (d : Nd) (k : Fl) : Fl := bif decide (d.hi = 0) then ⟨true, false, false⟩ else ⟨k.z || (decide (d.lo = 0) && k.f), k.s, decide (0 < d.lo) && k.f⟩
/-- What a node's kids come to (of a Rule its only kid is the rule's). -/
def comeFl (d : Nd) (ks : List Fl) : Fl :=
  bif decide (d.k = 0) then ⟨true, false, false⟩ else
  bif decide (d.k = 1) then ⟨false, !d.setZ, true⟩ else
  bif decide (d.k = 2) then ⟨false, true, true⟩ else
  bif decide (d.k = 3) then ks.headD fl0 else
  bif decide (d.k = 4) then seqFl ks else
  bif decide (d.k = 5) then chFl ks else
  bif decide (d.k = 6) then repFl d (ks.headD fl0) else
  bif decide (d.k = 7) then ⟨(ks.headD fl0).suc, false, (ks.headD fl0).f⟩ else
  bif decide (d.k = 8) then ⟨(ks.headD fl0).f, false, (ks.headD fl0).suc⟩ else ks.headD fl0

section
variable {I : GH} {M : List Blk} {d : Nd} {a : Option Addr} {n c : Nat} {ks : List Fl}
theorem FsAt.head (hk : FsAt I M a n ks) (h0 : 0 < n) : ∃ ad, a = some ad ∧ Rd I M (ad.add (0 * 3)) 3 (ks.headD fl0).cells := by
  have h1 : 0 < ks.length := by rw [hk.n]; exact h0
  obtain ⟨ad, h2, h3⟩ := hk.rd 0 h1
  refine ⟨ad, h2, ?_⟩
  cases ks with
  | nil => simp at h1
  | cons k ks => exact h3
theorem fEmpty_spec : Spec Tryd.prog 73 [d.val, .slice a n c] I M fun v I' M' => v = Fl.val ⟨true, false, false⟩ ∧ I' = I ∧ M' = M := by
  refine spec_of_V [] TrydEOK Tryd.func73 rfl rfl rfl ?_
  intro B h0
  exact ⟨_, _, .refl, rfl, rfl, rfl⟩
theorem fText_spec : Spec Tryd.prog 75 [d.val, .slice a n c] I M fun v I' M' => v = Fl.val ⟨false, true, true⟩ ∧ I' = I ∧ M' = M := by
  refine spec_of_V [] TrydEOK Tryd.func75 rfl rfl rfl ?_
  intro B h0
  exact ⟨_, _, .refl, rfl, rfl, rfl⟩
theorem fItself_spec (hk : FsAt I M a n ks) (h0 : 0 < n) : Spec Tryd.prog 76 [d.val, .slice a n c] I M fun v I' M' => v = (ks.headD fl0).val ∧ I' = I ∧ M' = M := by
  refine spec_of_V [] TrydEOK Tryd.func76 rfl rfl rfl ?_
  intro B h0'
  obtain ⟨ad, had, hrd⟩ := hk.head h0
  refine IdxOb.mk ad 0 had rfl h0 ?_
  refine LoadOb.mk _ hrd ?_
  exact ⟨_, _, .refl, rfl, rfl, rfl⟩
theorem fAnd_spec (hk : FsAt I M a n ks) (h0 : 0 < n) : Spec Tryd.prog 80 [d.val, .slice a n c] I M fun v I' M' => v = Fl.val ⟨(ks.headD fl0).suc, false, (ks.headD fl0).f⟩ ∧ I' = I ∧ M' = M := by
  refine spec_of_V [] TrydEOK Tryd.func80 rfl rfl rfl ?_
  intro B h0'
  obtain ⟨ad, had, hrd⟩ := hk.head h0
  refine CodeOb.draw TrydEOK rfl rfl rfl ?_
  refine IdxOb.mk ad 0 had rfl h0 ?_
  refine LoadOb.mk _ hrd ?_
  refine IdxOb.mk ad 0 had rfl h0 ?_
  refine LoadOb.mk _ (hrd.part (k := 2) (m := 1) (by decide)) ?_
  refine PCallOb.mkR M [] _ perm_nil (Suc_spec (ks.headD fl0)) (fun v I' M' h x hx => by rw [h.2.2]; exact hx) ?_
  rintro v I' M' - ⟨rfl, rfl, rfl⟩
  rw [List.append_nil]
  exact ⟨_, _, .refl, rfl, rfl, rfl⟩
theorem fNot_spec (hk : FsAt I M a n ks) (h0 : 0 < n) : Spec Tryd.prog 81 [d.val, .slice a n c] I M fun v I' M' => v = Fl.val ⟨(ks.headD fl0).f, false, (ks.headD fl0).suc⟩ ∧ I' = I ∧ M' = M := by
  refine spec_of_V [] TrydEOK Tryd.func81 rfl rfl rfl ?_
  intro B h0'
  obtain ⟨ad, had, hrd⟩ := hk.head h0
  refine CodeOb.draw TrydEOK rfl rfl rfl ?_
  refine IdxOb.mk ad 0 had rfl h0 ?_
  refine LoadOb.mk _ (hrd.part (k := 2) (m := 1) (by decide)) ?_
  refine IdxOb.mk ad 0 had rfl h0 ?_
  refine LoadOb.mk _ hrd ?_
  refine PCallOb.mkR M [] _ perm_nil (Suc_spec (ks.headD fl0)) (fun v I' M' h x hx => by rw [h.2.2]; exact hx) ?_
  rintro v I' M' - ⟨rfl, rfl, rfl⟩
  rw [List.append_nil]
  exact ⟨_, _, .refl, rfl, rfl, rfl⟩
theorem fSet_spec : Spec Tryd.prog 74 [d.val, .slice a n c] I M fun v I' M' => v = Fl.val ⟨false, !d.setZ, true⟩ ∧ I' = I ∧ M' = M := by
  refine spec_of_V [] TrydEOK Tryd.func74 rfl rfl rfl ?_
  intro B h0
  refine BinOb.ne4 TrydEOK (e := 27) rfl rfl rfl rfl (by kernel_rfl) ?_
  exact ⟨_, _, .refl, rfl, rfl, rfl⟩
theorem fRep_spec (hk : FsAt I M a n ks) (h0 : 0 < n) : Spec Tryd.prog 79 [d.val, .slice a n c] I M fun v I' M' => v = (repFl d (ks.headD fl0)).val ∧ I' = I ∧ M' = M := by
  refine spec_of_V [] TrydEOK Tryd.func79 rfl rfl rfl ?_
  intro B h0'
  obtain ⟨ad, had, hrd⟩ := hk.head h0
  generalize ks.headD fl0 = k at hrd
  obtain ⟨kz, kss, kf⟩ := k
  refine CondOb.mk (fun h => ?_) (fun h => ?_)
  · refine ⟨_, _, .refl, fl_eq ?_ ?_ ?_, rfl, rfl⟩ <;> simp [repFl, h]
  refine IdxOb.mk ad 0 had rfl h0 ?_
  refine LoadOb.mk _ hrd ?_
  repeat' refine GuardOb.mk (fun h => ?_) (fun h => ?_)
  all_goals refine ⟨_, _, .refl, fl_eq ?_ ?_ ?_, rfl, rfl⟩
  all_goals first | (simp_all [repFl]; done) | (simp_all [repFl]; intros; omega)
theorem fChoice_spec (hk : FsAt I M a n ks) (hn : n ≤ 140737488355328) : Spec Tryd.prog 78 [d.val, .slice a n c] I M fun v I' M' => v = (chFl ks).val ∧ I' = I ∧ M' = M := by
  refine spec_of_V [] TrydEOK Tryd.func78 rfl rfl rfl ?_
  intro B h0'
  have hkn := hk.n
  refine LoopOb.inv (ι := Nat × Fl) (fun x => { fl := [(4, .ref 4 0), (5, .ref 5 0), (9, .val (.slice a n c)), (10, .val (.int .i64 n)), (11, .val (.int .i64 x.1))], cl := [(4, fl0.cells), (5, x.2.cells)], gi := I, mi := M })
    (fun x => x.1 ≤ n ∧ x.2 = (ks.take x.1).foldl chStep ⟨false, false, true⟩) (fun x => n - x.1) ?_ ?_
  · exact ⟨(0, ⟨false, false, true⟩), ⟨Nat.zero_le _, rfl⟩, .refl, .cons .refl (.cons .refl (.cons .refl (.cons .refl (.cons .refl .nil)))), .cons rfl (.cons rfl .nil)⟩
  rintro ⟨i, f⟩ ⟨hi, hf⟩
  simp only at hi hf
  refine CondOb.mk (fun h => ?_) (fun h => ?_)
  rotate_left
  · have hge : n ≤ i := by have := of_decide_eq_false h; omega
    refine ⟨_, _, .refl, ?_, rfl, rfl⟩
    rw [List.take_of_length_le (by omega)] at hf
    rw [chFl, ← hf]
    rfl
  have hlt : i < n := by have := of_decide_eq_true h; omega
  obtain ⟨ad, had, hrd⟩ := hk.rd i (by omega)
  have hst : ∀ g : Fl, g = chStep f (ks[i]'(by omega)) → g = (ks.take (i + 1)).foldl chStep ⟨false, false, true⟩ := fun g hg => by
    rw [List.take_succ_eq_append_getElem (by omega), List.foldl_append, ← hf, hg]
    rfl
  generalize ks[i]'(by omega) = k at hrd hst
  obtain ⟨kz, kss, kf⟩ := k
  obtain ⟨z, s, ff⟩ := f
  refine IdxOb.mk ad i had rfl hlt ?_
  refine LoadOb.mk _ hrd ?_
  repeat' refine GuardOb.mk (fun h => ?_) (fun h => ?_)
  all_goals refine ArithOb.mk _ (next_wr (i := i) (by omega)) ?_
  all_goals refine ⟨(i + 1, _), ⟨⟨by simp only; omega, hst _ rfl⟩, by simp only; omega⟩, .refl, .cons .refl (.cons .refl (.cons .refl (.cons .refl (.cons .refl .nil)))), .cons rfl (.cons ?_ .nil)⟩
  all_goals clear hst hf hrd
  all_goals (refine congrArg some (fl_cells ?_ ?_ ?_) <;> simp_all [chStep])
theorem seqGo_snoc (l : List Fl) (k : Fl) : seqGo (l ++ [k]) = seqStep (seqGo l) k := by simp [seqGo]
set_option maxHeartbeats 4000000 in
theorem fSeq_spec (hk : FsAt I M a n ks) (hn : n ≤ 140737488355328) : Spec Tryd.prog 77 [d.val, .slice a n c] I M fun v I' M' => v = (seqFl ks).val ∧ I' = I ∧ M' = M := by
  refine spec_of_V [] TrydEOK Tryd.func77 rfl rfl rfl ?_
  intro B h0'
  have hkn := hk.n
  refine LoopOb.inv (ι := Nat × Fl × Bool) (fun x => { fl := [(4, .ref 4 0), (5, .ref 5 0), (6, .val (.bool x.2.2)), (10, .val (.slice a n c)), (11, .val (.int .i64 n)), (12, .val (.int .i64 x.1))], cl := [(4, fl0.cells), (5, x.2.1.cells)], gi := I, mi := M })
    (fun x => x.1 ≤ n ∧ x.2 = seqGo (ks.take x.1)) (fun x => n - x.1) ?_ ?_
  · exact ⟨(0, ⟨true, false, false⟩, true), ⟨Nat.zero_le _, rfl⟩, .refl, .cons .refl (.cons .refl (.cons .lit (.cons .refl (.cons .refl (.cons .refl .nil))))), .cons rfl (.cons rfl .nil)⟩
  rintro ⟨i, f, sc⟩ ⟨hi, hf⟩
  simp only at hi hf
  refine CondOb.mk (fun h => ?_) (fun h => ?_)
  rotate_left
  · have hge : n ≤ i := by have := of_decide_eq_false h; omega
    rw [List.take_of_length_le (by omega)] at hf
    obtain ⟨z, s, ff⟩ := f
    have e1 : (seqGo ks).1 = ⟨z, s, ff⟩ := by rw [← hf]
    have e2 : (seqGo ks).2 = sc := by rw [← hf]
    refine GuardOb.mk (fun h2 => ?_) (fun h2 => ?_)
    all_goals refine ⟨_, _, .refl, fl_eq ?_ ?_ ?_, rfl, rfl⟩
    all_goals simp_all [seqFl]
  have hlt : i < n := by have := of_decide_eq_true h; omega
  obtain ⟨ad, had, hrd⟩ := hk.rd i (by omega)
  have hst : ∀ g : Fl × Bool, g = seqStep (f, sc) (ks[i]'(by omega)) → g = seqGo (ks.take (i + 1)) := fun g hg => by
    rw [List.take_succ_eq_append_getElem (by omega), seqGo_snoc, ← hf, hg]
  generalize ks[i]'(by omega) = k at hrd hst
  obtain ⟨kz, kss, kf⟩ := k
  obtain ⟨z, s, ff⟩ := f
  refine IdxOb.mk ad i had rfl hlt ?_
  refine LoadOb.mk _ hrd ?_
  repeat' first
    | refine GuardOb.mk (fun h => ?_) (fun h => ?_)
    | (refine CallOb.mk M [] _ perm_nil (Suc_spec ⟨kz, kss, kf⟩) ?_; rintro v I' M' - ⟨rfl, rfl, rfl⟩; rw [List.append_nil])
  all_goals refine ArithOb.mk _ (next_wr (i := i) (by omega)) ?_
  all_goals refine ⟨(i + 1, _), ⟨⟨by simp only; omega, hst _ rfl⟩, by simp only; omega⟩, .refl, .cons .refl (.cons .refl (.cons ?_ (.cons .refl (.cons .refl (.cons .refl .nil))))), .cons rfl (.cons ?_ .nil)⟩
  all_goals clear hst hf hrd
  all_goals first
    | (refine congrArg some (fl_cells ?_ ?_ ?_) <;> simp_all [seqStep])
    | (refine sv_bool ?_; simp_all [seqStep])
    | (refine sv_lit ?_; simp_all [seqStep])
end
end Go.V

/-
  Maps that are read alone; flow.places.
-/
set_option linter.unusedVariables false
set_option linter.unusedSimpArgs false
namespace Go.V
open Go Go.Proofs

section
variable {X : Ctx} {β : Nat → Nat} {a : Act} {w : World} {F : Fr} {C : Bx} {I : GH} {M : List Blk} {o : Oper} {Q : Exit → Act → World → Prop} {K : KS}
theorem lookup_runs (hE : EOK X.P X.E) {t : Nat} {ti tk : TI} {k e : Nat} (ht : X.E t = some ti) (hts : ti.sh = .map k e) (hk : X.E k = some tk) (hks : tk.sh = .string)
    (hz : ∀ w, (zeroValue e).run X.P w = .ok (.int .i64 0) w) {g : Nat} {l : List (ByteArray × Int)} {s : ByteArray} (hg : w.heap[g]? = some (mapO l)) (ok : Bool) :
    (Instr.lookup t (.map (some g)) (.string s) ok).run X.P w = .ok (bif ok then .tuple #[.int .i64 ((lookM s l).getD 0), .bool (lookM s l).isSome] else .int .i64 ((lookM s l).getD 0)) w := by
  obtain ⟨d, hud, hdd⟩ := (hE _ _ ht).und
  have h1 : d = .map k e := by rw [hts] at hdd; cases d <;> simp_all [shOf]
  subst h1
  obtain ⟨dk, huk, hdk⟩ := (hE _ _ hk).und
  have h2 : dk = .string := by rw [hks] at hdk; cases dk <;> simp_all [shOf]
  subst h2
  have hg : w.heap[g]? = some (.map (ents l 0).toArray l.length) := hg
  obtain ⟨r, hf1, hf2⟩ := findNow_ents s l 0 0
  have hc : (Instr.checkKey (ents l 0).toArray.isEmpty 10000 k (.string s)).run X.P w = .ok () w := MapKept.run_checkKey (k := .string s) huk (by simp [MapKept.IsKey]) _ 9999
  have hfk : (Instr.findKey k (.string s) (ents l 0)).run X.P w = .ok r w := MapKept.run_findKey huk hf1
  unfold Instr.lookup
  simp only [Sem.run_bind, run_underlying hud, Result.andThen_ok, MapKept.run_getObj_map hg, Sem.run_pure, hc, hfk]
  cases r with
  | none =>
    cases hl : lookM s l with
    | none => cases ok <;> simp [hz]
    | some v => rw [hl] at hf2; simp at hf2
  | some p =>
    cases hl : lookM s l with
    | none => rw [hl] at hf2; simp at hf2
    | some v =>
      rw [hl] at hf2
      simp only [Option.map_some, Option.some.injEq] at hf2
      cases ok <;> simp [hf2]
theorem OtherOb.lookupT (hE : EOK X.P X.E) {t : Nat} {x y : Operand} (ho : o.op = .lookup t x y true) (hd : ∀ d, o.dst = some d → d < X.n) {ti tk : TI} {k e : Nat} (ht : X.E t = some ti) (hts : ti.sh = .map k e) (hk : X.E k = some tk) (hks : tk.sh = .string)
    (hz : ∀ w, (zeroValue e).run X.P w = .ok (.int .i64 0) w) {g : Nat} {l : List (ByteArray × Int)} {s : ByteArray} (hx : ev F x = .val (.map (some g))) (hy : ev F y = .val (.string s)) (hM : Kn I M g (mapO l))
    (h : K (put o.dst (.val (.tuple #[.int .i64 ((lookM s l).getD 0), .bool (lookM s l).isSome])) F) C I M) : OtherOb X o F C I M K := by
  refine ⟨fun a w Q ⟨β, hR⟩ => ?_⟩
  have hrun := lookup_runs hE ht hts hk hks hz (hM.heap hR.holds) (s := s) true
  have ex := eval_of_ev hR.fr hx
  have ey := eval_of_ev hR.fr hy
  refine done_vv hR hd (by rw [ho]; simp) ?_ h
  unfold execOp
  simp only [ho, ex, ey, Sem.run_bind, hrun, Result.andThen_ok, Sem.run_pure, cond_true]
theorem OtherOb.lookupF (hE : EOK X.P X.E) {t : Nat} {x y : Operand} (ho : o.op = .lookup t x y false) (hd : ∀ d, o.dst = some d → d < X.n) {ti tk : TI} {k e : Nat} (ht : X.E t = some ti) (hts : ti.sh = .map k e) (hk : X.E k = some tk) (hks : tk.sh = .string)
    (hz : ∀ w, (zeroValue e).run X.P w = .ok (.int .i64 0) w) {g : Nat} {l : List (ByteArray × Int)} {s : ByteArray} (hx : ev F x = .val (.map (some g))) (hy : ev F y = .val (.string s)) (hM : Kn I M g (mapO l))
    (h : K (put o.dst (.val (.int .i64 ((lookM s l).getD 0))) F) C I M) : OtherOb X o F C I M K := by
  refine ⟨fun a w Q ⟨β, hR⟩ => ?_⟩
  have hrun := lookup_runs hE ht hts hk hks hz (hM.heap hR.holds) (s := s) false
  have ex := eval_of_ev hR.fr hx
  have ey := eval_of_ev hR.fr hy
  refine done_vv hR hd (by rw [ho]; simp) ?_ h
  unfold execOp
  simp only [ho, ex, ey, Sem.run_bind, hrun, Result.andThen_ok, Sem.run_pure, cond_false]
end

/-- The place of the first rule of each name. -/
def placesGo : List (ByteArray × Int) → Nat → List Df → List (ByteArray × Int)
  | acc, _, [] => acc
  | acc, i, d :: ds => placesGo (bif (lookM d.name acc).isSome then acc else acc ++ [(d.name, (i : Int))]) (i + 1) ds
def placesL (ds : List Df) : List (ByteArray × Int) := placesGo [] 0 ds

set_option maxHeartbeats 1000000 in
theorem places_spec {I : GH} {g : Gr} (hg : g.ok I) : Spec Tryd.prog 48 [g.val] I [] fun v I' M' => (∀ b o, I b = some o → I' b = some o) ∧ M' = [] ∧ ∃ gm, v = .map (some gm) ∧ I' gm = some (mapO (placesL g.ds)) := by
  refine spec_of_VF [] TrydEOK Tryd.func48 rfl rfl rfl ?_
  intro B h0
  have hgn := hg.n
  have hcap := hg.rs.cap
  refine OtherOb.makeMap TrydEOK rfl (by simp) rfl rfl rfl fun bm => ?_
  refine LoopOb.inv (ι := Nat × List (ByteArray × Int)) (fun x => { fl := [(1, .ref 1 0), (3, .val (.map (some bm))), (13, .val (.slice g.a g.n g.c)), (14, .val (.int .i64 g.n)), (15, .val (.int .i64 x.1))], cl := [(1, [.slice g.a g.n g.c])], gi := I, mi := [⟨bm, mapO x.2⟩] })
    (fun x => x.1 ≤ g.n ∧ placesL g.ds = placesGo x.2 x.1 (g.ds.drop x.1)) (fun x => g.n - x.1) ?_ ?_
  · exact ⟨(0, []), ⟨Nat.zero_le _, rfl⟩, .refl, .cons .refl (.cons .refl (.cons .refl (.cons .refl (.cons .refl .nil)))), .cons rfl .nil⟩
  rintro ⟨i, acc⟩ ⟨hi, hp⟩
  simp only at hi hp
  refine CondOb.mk (fun h => ?_) (fun h => ?_)
  · have hlt : i < g.n := by have : (i : Int) < (g.n : Int) := of_decide_eq_true h; omega
    have hlt' : i < g.ds.length := by omega
    obtain ⟨ad, had, hrd⟩ := hg.rs.row Df.cells_len hlt hlt'
    rw [List.drop_eq_getElem_cons hlt', placesGo] at hp
    refine IdxOb.mk ad i had rfl hlt ?_
    refine LoadOb.mk _ (hrd _) ?_
    refine OtherOb.lookupT TrydEOK rfl (by simp) rfl rfl rfl rfl (fun w => zero_int w) (l := acc) (g := bm) rfl rfl (.inr ⟨_, .head _, rfl, rfl⟩) ?_
    refine CondOb.mk (fun h3 => ?_) (fun h3 => ?_)
    · have hn : (lookM g.ds[i].name acc).isSome = false := by simpa using h3
      have hl : lookM g.ds[i].name acc = none := by simpa using hn
      rw [hn, cond_false] at hp
      refine OtherOb.mapNew TrydEOK rfl rfl rfl rfl rfl rfl rfl rfl rfl hl (Mr := []) (.refl _) ?_
      refine ArithOb.mk _ (next_wr (i := i) (by omega)) ?_
      exact ⟨(i + 1, _), ⟨⟨by simp only; omega, hp⟩, by simp only; omega⟩, .refl, .cons .refl (.cons .refl (.cons .refl (.cons .refl (.cons .refl .nil)))), .cons rfl .nil⟩
    · have hn : (lookM g.ds[i].name acc).isSome = true := by simpa using h3
      rw [hn, cond_true] at hp
      refine ArithOb.mk _ (next_wr (i := i) (by omega)) ?_
      exact ⟨(i + 1, _), ⟨⟨by simp only; omega, hp⟩, by simp only; omega⟩, .refl, .cons .refl (.cons .refl (.cons .refl (.cons .refl (.cons .refl .nil)))), .cons rfl .nil⟩
  have hge : g.n ≤ i := by have : ¬ (i : Int) < (g.n : Int) := of_decide_eq_false h; omega
  rw [List.drop_eq_nil_of_le (by omega), placesGo] at hp
  intro hfa
  have hb := hfa.d ⟨bm, mapO acc⟩ (.head _)
  exact ⟨_, _, .prom rfl (by simp) .refl, ins_le hb, rfl, bm, rfl, by rw [hp]; exact ins_self ..⟩
end Go.V

/-
  Walks: flow.comes, nodes.
-/
set_option linter.unusedVariables false
set_option linter.unusedSimpArgs false
namespace Go.V
open Go Go.Proofs

def comeFs : List Nat := [73, 74, 75, 76, 77, 78, 79, 80, 81, 76]
def comeVs : List Value := [.func (.func 73) #[] #[], .func (.func 74) #[] #[], .func (.func 75) #[] #[], .func (.func 76) #[] #[], .func (.func 77) #[] #[], .func (.func 78) #[] #[], .func (.func 79) #[] #[], .func (.func 80) #[] #[], .func (.func 81) #[] #[], .func (.func 76) #[] #[]]
theorem comes_spec {I : GH} : Spec Tryd.prog 63 [] I [] fun v I' M' => v = .agg comeVs.toArray ∧ I' = I ∧ M' = [] := by
  refine spec_of_V [] TrydEOK Tryd.func63 rfl rfl rfl ?_
  intro B h0
  exact ⟨_, _, .refl, rfl, rfl, rfl⟩
theorem come_at {I : GH} {M : List Blk} {d : Nd} {a : Option Addr} {n c : Nat} {ks : List Fl} (hk : FsAt I M a n ks) (hn : n ≤ 140737488355328) (j : Nat) (hj : j < 10) (hd : d.k = j) (h0 : (j = 3 ∨ 6 ≤ j) → 0 < n) :
    Spec Tryd.prog (comeFs.getD j 0) [d.val, .slice a n c] I M fun v I' M' => v = (comeFl d ks).val ∧ I' = I ∧ M' = M := by
  match j, hj, hd, h0 with
  | 0, _, hd, _ => rw [show comeFl d ks = ⟨true, false, false⟩ by simp [comeFl, hd]]; exact fEmpty_spec (I := I) (M := M) (d := d) (a := a) (n := n) (c := c)
  | 1, _, hd, _ => rw [show comeFl d ks = ⟨false, !d.setZ, true⟩ by simp [comeFl, hd]]; exact fSet_spec (I := I) (M := M) (d := d) (a := a) (n := n) (c := c)
  | 2, _, hd, _ => rw [show comeFl d ks = ⟨false, true, true⟩ by simp [comeFl, hd]]; exact fText_spec (I := I) (M := M) (d := d) (a := a) (n := n) (c := c)
  | 3, _, hd, h0 => rw [show comeFl d ks = ks.headD fl0 by simp [comeFl, hd]]; exact fItself_spec (d := d) (c := c) hk (h0 (by omega))
  | 4, _, hd, _ => rw [show comeFl d ks = seqFl ks by simp [comeFl, hd]]; exact fSeq_spec (d := d) (c := c) hk hn
  | 5, _, hd, _ => rw [show comeFl d ks = chFl ks by simp [comeFl, hd]]; exact fChoice_spec (d := d) (c := c) hk hn
  | 6, _, hd, h0 => rw [show comeFl d ks = repFl d (ks.headD fl0) by simp [comeFl, hd]]; exact fRep_spec (d := d) (c := c) hk (h0 (by omega))
  | 7, _, hd, h0 => rw [show comeFl d ks = ⟨(ks.headD fl0).suc, false, (ks.headD fl0).f⟩ by simp [comeFl, hd]]; exact fAnd_spec (d := d) (c := c) hk (h0 (by omega))
  | 8, _, hd, h0 => rw [show comeFl d ks = ⟨(ks.headD fl0).f, false, (ks.headD fl0).suc⟩ by simp [comeFl, hd]]; exact fNot_spec (d := d) (c := c) hk (h0 (by omega))
  | 9, _, hd, h0 => rw [show comeFl d ks = ks.headD fl0 by simp [comeFl, hd]]; exact fItself_spec (d := d) (c := c) hk (h0 (by omega))

/-! ### Rows of flows -/
def flRow (b : Nat) (l : List Fl) : Blk := ⟨b, .cells (l.flatMap Fl.cells).toArray 55 (0, 0)⟩
theorem fl_len (l : List Fl) : (l.flatMap Fl.cells).length = l.length * 3 := flat_len _ 3 Fl.cells_len l
theorem flRow_rd {I : GH} {M : List Blk} {b : Nat} {l : List Fl} (hM : flRow b l ∈ M) {j : Nat} (hj : j < l.length) : Rd I M ((⟨b, 0, none⟩ : Addr).add (j * 3)) 3 l[j].cells := by
  have h := blk_rd (I := I) (cs := l.flatMap Fl.cells) (k := j * 3) (n := 3) hM (by rw [fl_len]; omega)
  rwa [flat_at Fl.cells 3 Fl.cells_len l j hj] at h
theorem flRow_set (l : List Fl) (j : Nat) (hj : j < l.length) (x : Fl) : splice (l.flatMap Fl.cells) (j * 3) x.cells = (l.set j x).flatMap Fl.cells := by
  have e : l.flatMap Fl.cells = (l.take j).flatMap Fl.cells ++ (l[j].cells ++ (l.drop (j + 1)).flatMap Fl.cells) := by
    have h1 : l = l.take j ++ (l[j] :: l.drop (j + 1)) := by rw [← List.drop_eq_getElem_cons hj, List.take_append_drop]
    have h2 := congrArg (fun q : List Fl => q.flatMap Fl.cells) h1
    simp only [List.flatMap_append, List.flatMap_cons] at h2
    exact h2
  have hl : ((l.take j).flatMap Fl.cells).length = j * 3 := by rw [fl_len, List.length_take]; congr 1; omega
  unfold splice
  rw [List.set_eq_take_append_cons_drop, if_pos hj, List.flatMap_append, List.flatMap_cons, e, List.append_assoc]
  congr 1
  · rw [← hl, List.take_left]
  · congr 1
    rw [Fl.cells_len, ← hl, ← List.append_assoc, List.drop_left' (by rw [List.length_append, Fl.cells_len])]
theorem flat_snoc (l : List Fl) (x : Fl) : (l ++ [x]).flatMap Fl.cells = l.flatMap Fl.cells ++ x.cells := by simp
theorem OS.zero {os : OS} {size : Nat} {xs : List Value} (h : os.ok size xs) : OS.ok ⟨os.a, 0, os.c, os.cur⟩ size [] := by
  refine ⟨by simp, fun ha => ⟨rfl, (h.nil ha).2⟩, fun g hg => ?_⟩
  obtain ⟨h1, h2, h3, h4⟩ := h.cap g hg
  exact ⟨h1, Nat.zero_le _, h3, by simp⟩
/-- A slice of the function's own, read. -/
theorem OS.fsAt {I : GH} {M : List Blk} {os : OS} {l : List Fl} {e : Nat} (h : os.ok 3 (l.flatMap Fl.cells)) (hM : ∀ x ∈ os.blk e, x ∈ M) : FsAt I M (os.a.map fun g => ⟨g, 0, none⟩) os.n l := by
  have hl := h.len
  rw [fl_len] at hl
  refine ⟨by omega, fun j hj => ?_⟩
  obtain ⟨a, n, c, cur⟩ := os
  simp only at hl
  cases a with
  | none => have := (h.nil rfl).1; simp only at this; omega
  | some g =>
    obtain ⟨h1, h2, h3, h4⟩ := h.cap g rfl
    simp only at h1 h2 h4
    refine ⟨⟨g, 0, none⟩, rfl, ?_⟩
    have hm : (⟨g, .cells cur.toArray e (0, 0)⟩ : Blk) ∈ M := hM _ (by simp [OS.blk])
    have hr := blk_rd (I := I) (cs := cur) (k := j * 3) (n := 3) hm (by omega)
    have e1 : (cur.drop (j * 3)).take 3 = ((cur.take (n * 3)).drop (j * 3)).take 3 := by
      rw [List.drop_take, List.take_take]
      congr 1
      omega
    rw [e1, h4, flat_at Fl.cells 3 Fl.cells_len l j hj] at hr
    exact hr

/-! ### nodes -/
def kidsF (pl : List (ByteArray × Int)) (fl acc : List Fl) (d : Nd) : List Fl :=
  d.kids.map (fun k => acc.getD k.toNat fl0) ++ bif decide (d.k = 3) then [fl.getD ((lookM d.t pl).getD 0).toNat fl0] else []
def nodesF (pl : List (ByteArray × Int)) (fl : List Fl) : List Nd → List Fl → List Fl
  | [], acc => acc
  | d :: ds, acc => nodesF pl fl ds (acc ++ [comeFl d (kidsF pl fl acc d)])
theorem nodesF_len (pl : List (ByteArray × Int)) (fl : List Fl) : ∀ (ds : List Nd) (acc : List Fl), (nodesF pl fl ds acc).length = acc.length + ds.length
  | [], acc => rfl
  | d :: ds, acc => by
    rw [nodesF, nodesF_len]
    simp
    omega
/-- Each rule that is called has a flow. -/
def Called (pl : List (ByteArray × Int)) (n : Nat) (ns : List Nd) : Prop := ∀ d ∈ ns, d.k = 3 → ∃ i : Nat, lookM d.t pl = some (i : Int) ∧ i < n
theorem fits_k {d : Nd} {n : Int} (h : fits d n = true) : d.k < 10 := by
  apply Int.lt_of_not_ge
  intro hge
  have : (10 : Int) ≤ d.k := hge
  simp [fits, this] at h
theorem fits_kid {d : Nd} {n : Int} (h0 : 0 ≤ d.k) (h : fits d n = true) (hk : 6 ≤ d.k) : 0 < n := by
  have h10 := fits_k h
  have hcases : d.k = 6 ∨ d.k = 7 ∨ d.k = 8 ∨ d.k = 9 := by omega
  rcases hcases with e | e | e | e <;> (simp [fits, e, cntLo, cntHi, countsL] at h; omega)

theorem rep_at (acc : List Fl) (n i : Nat) (hl : acc.length = i) (hi : i < n) (x : Fl) : (acc ++ List.replicate (n - i) fl0).set i x = (acc ++ [x]) ++ List.replicate (n - (i + 1)) fl0 := by
  subst hl
  rw [List.set_append_right _ _ (Nat.le_refl _), Nat.sub_self, show n - acc.length = (n - (acc.length + 1)) + 1 by omega, List.replicate_succ, List.set_cons_zero]
  simp

theorem rowOf_fl : ∀ n : Nat, rowOf fl0.cells (n * 3) = (List.replicate n fl0).flatMap Fl.cells := fun n => by
  apply List.ext_getElem
  · rw [fl_len, List.length_replicate]
    simp [rowOf_eq, madeCells]
  intro i h1 h2
  have h3 : ∀ x ∈ (List.replicate n fl0).flatMap Fl.cells, x = Value.bool false := fun x hx => by
    obtain ⟨y, hy, hx⟩ := List.mem_flatMap.1 hx
    have := List.eq_of_mem_replicate hy
    subst this
    simpa [Fl.cells, fl0] using hx
  rw [h3 _ (List.getElem_mem h2)]
  have hz : ∀ j, j < 3 → fl0.cells[j]! = Value.bool false := fun j hj => by
    match j, hj with
    | 0, _ => rfl
    | 1, _ => rfl
    | 2, _ => rfl
  simp only [rowOf, List.getElem_map, List.getElem_range]
  exact hz _ (Nat.mod_lt _ (by decide))
theorem ble_fl {acc : List Fl} {n i : Nat} (hacc : acc.length = i) (hlt : i < n) (x : Fl) : Nat.ble (0 + i * 3 + x.cells.length) ((acc ++ List.replicate (n - i) fl0).flatMap Fl.cells).length = true := by
  rw [Nat.ble_eq, fl_len, Fl.cells_len, List.length_append, List.length_replicate]
  omega
set_option maxRecDepth 100000 in
set_option maxHeartbeats 16000000 in
theorem fnodes_spec {I : GH} {M0 : List Blk} {t : Tr} (ht : t.ok I) (hr : right t = true) {gm : Nat} {pl : List (ByteArray × Int)} (hm : I gm = some (mapO pl)) {la : Option Addr} {ln lc : Nat} {fl : List Fl} (hfl : FsAt I M0 la ln fl) (hc : Called pl ln t.ns) :
    Spec Tryd.prog 49 [.map (some gm), .slice la ln lc, t.val] I M0 fun v I' M' => I' = I ∧ ∃ b, v = .slice (some ⟨b, 0, none⟩) t.n t.n ∧ M' = flRow b (nodesF pl fl t.ns []) :: M0 := by
  refine spec_of_V [] TrydEOK Tryd.func49 rfl rfl rfl ?_
  intro B h0
  have htn := ht.n
  have hcap := ht.rs.cap
  refine CallOb.mk [] M0 _ (.refl _) comes_spec ?_
  rintro v I1 M1 - ⟨rfl, rfl, rfl⟩
  refine MakeOb.mk t.n t.n rfl rfl (Nat.le_refl _) (by show 3 * t.n ≤ _; omega) (by omega) ?_
  refine AllocOb.mk fun b8 hb8 hbM8 => ?_
  refine LoopOb.inv (ι := Nat × List Fl × OS) (fun x => { fl := [(0, .val (.map (some gm))), (1, .val (.slice la ln lc)), (5, .ref 5 0), (7, .ref 7 0), (8, .val (.slice (some ⟨b8, 0, none⟩) t.n t.n)), (9, .val x.2.2.val), (20, .val (.slice t.a t.n t.c)), (21, .val (.int .i64 t.n)), (22, .val (.int .i64 x.1))], cl := [(5, t.cells), (7, comeVs)], gi := I1, mi := flRow b8 (x.2.1 ++ List.replicate (t.n - x.1) fl0) :: (x.2.2.blk 55 ++ M0) })
    (fun x => x.1 ≤ t.n ∧ x.2.1.length = x.1 ∧ nodesF pl fl t.ns [] = nodesF pl fl (t.ns.drop x.1) x.2.1 ∧ ∃ ks, x.2.2.ok 3 ks) (fun x => t.n - x.1) ?_ ?_
  · refine ⟨(0, [], OS0), ⟨Nat.zero_le _, rfl, rfl, [], OS0_ok 3⟩, ?_, .cons .refl (.cons .refl (.cons .refl (.cons .refl (.cons .refl (.cons .refl (.cons .refl (.cons .refl (.cons .refl .nil)))))))), .cons rfl (.cons rfl .nil)⟩
    have e : rowOf fl0.cells (t.n * 3) = (List.replicate t.n fl0).flatMap Fl.cells := rowOf_fl t.n
    simp only [flRow, List.nil_append, Nat.sub_zero]
    rw [← e]
    exact .refl
  rintro ⟨i, acc, ko⟩ ⟨hi, hacc, hnf, kx, hko⟩
  simp only at hi hacc hnf hko
  refine CondOb.mk (fun h => ?_) (fun h => ?_)
  rotate_left
  · have hge : i = t.n := by have : ¬ (i : Int) < (t.n : Int) := of_decide_eq_false h; omega
    subst hge
    rw [List.drop_eq_nil_of_le (by omega), nodesF] at hnf
    refine ⟨I1, flRow b8 (acc ++ List.replicate (t.n - t.n) fl0) :: M0, .sub (.cons_cons _ (List.sublist_append_right _ _)) .refl, rfl, b8, rfl, ?_⟩
    rw [hnf, Nat.sub_self, List.replicate_zero, List.append_nil]
  have hlt : i < t.n := by have : (i : Int) < (t.n : Int) := of_decide_eq_true h; omega
  have hlt' : i < t.ns.length := by omega
  obtain ⟨ad, had, hrd⟩ := ht.rs.row Nd.cells_len hlt hlt'
  have hdm := List.getElem_mem hlt'
  have hd := ht.ns _ hdm
  have hkn := hd.kn
  have hkc := hd.rs.cap
  have hkv := right_kids hr i hlt'
  have hft := right_fits hr hlt'
  have hcd := hc _ hdm
  have hnf' : nodesF pl fl t.ns [] = nodesF pl fl (t.ns.drop (i + 1)) (acc ++ [comeFl t.ns[i] (kidsF pl fl acc t.ns[i])]) := by
    rw [hnf, List.drop_eq_getElem_cons hlt', nodesF]
  generalize t.ns[i] = d at hrd hd hkn hkc hkv hft hcd hnf'
  have hk0 := hd.k.1
  have hk10 := fits_k hft
  have hrow : ∀ {M : List Blk} {q : Int}, flRow b8 (acc ++ List.replicate (t.n - i) fl0) ∈ M → q ∈ d.kids → Rd I1 M ((⟨b8, 0, none⟩ : Addr).add (q.toNat * 3)) 3 (acc.getD q.toNat fl0).cells := fun {M q} hM hq => by
    have hq' := hkv q hq
    have hql : q.toNat < acc.length := by omega
    have := flRow_rd (I := I1) hM (j := q.toNat) (by rw [List.length_append]; omega)
    rw [List.getElem_append_left hql] at this
    simpa [List.getD_eq_getElem?_getD, hql] using this
  refine IdxOb.mk ad i had rfl hlt ?_
  refine LoadOb.mk _ (hrd _) ?_
  refine SliceOb.mk 0 0 rfl rfl (Nat.le_refl _) (Nat.zero_le _) ?_
  refine LoopOb.inv (ι := Nat × OS × List Fl) (fun x => { fl := [(0, .val (.map (some gm))), (1, .val (.slice la ln lc)), (5, .ref 5 0), (7, .ref 7 0), (8, .val (.slice (some ⟨b8, 0, none⟩) t.n t.n)), (9, .val x.2.1.val), (10, .val (.int .i64 i)), (11, .ref 11 0), (20, .val (.slice t.a t.n t.c)), (21, .val (.int .i64 t.n)), (22, .val (.int .i64 i)), (30, .val (.slice d.ka d.kn d.kc)), (31, .val (.int .i64 d.kn)), (32, .val (.int .i64 x.1))], cl := [(5, t.cells), (7, comeVs), (11, d.cells)], gi := I1, mi := flRow b8 (acc ++ List.replicate (t.n - i) fl0) :: (x.2.1.blk 55 ++ M0) })
    (fun x => x.1 ≤ d.kn ∧ x.2.1.ok 3 (x.2.2.flatMap Fl.cells) ∧ x.2.2 = (d.kids.take x.1).map fun k => acc.getD k.toNat fl0) (fun x => d.kn - x.1) ?_ ?_
  · exact ⟨(0, ⟨ko.a, 0, ko.c, ko.cur⟩, []), ⟨Nat.zero_le _, OS.zero hko, rfl⟩, .refl, .cons .refl (.cons .refl (.cons .refl (.cons .refl (.cons .refl (.cons .refl (.cons .refl (.cons .refl (.cons .refl (.cons .refl (.cons .refl (.cons .refl (.cons .refl (.cons .refl .nil))))))))))))), .cons rfl (.cons rfl (.cons rfl .nil))⟩
  rintro ⟨k, k2, kl⟩ ⟨hk, hk2, hkl⟩
  simp only at hk hk2 hkl
  have hk2n : k2.n = kl.length := by have := hk2.len; rw [fl_len] at this; omega
  have hkll : kl.length ≤ k := by rw [hkl, List.length_map]; exact List.length_take_le _ _
  refine CondOb.mk (fun h => ?_) (fun h => ?_)
  · have hkk : k < d.kn := by have : (k : Int) < (d.kn : Int) := of_decide_eq_true h; omega
    have hkk' : k < d.kids.length := by omega
    obtain ⟨ak, hak, hrk⟩ := hd.rs.one hkk hkk'
    have hq := hkv _ (List.getElem_mem hkk')
    refine IdxOb.mk ak k hak rfl hkk ?_
    refine LoadOb.mk _ (hrk _) ?_
    refine IdxOb.mk ⟨b8, 0, none⟩ d.kids[k].toNat rfl (by omega) (by omega) ?_
    refine LoadOb.mk _ (hrow (.head _) (List.getElem_mem hkk')) ?_
    refine AllocOb.mk fun b9 hb9 hbM9 => ?_
    refine OtherOb.append TrydEOK rfl (by simp) (e := 55) rfl rfl rfl k2 hk2 rfl (m := 1) rfl (news := (acc.getD d.kids[k].toNat fl0).cells) (by decide) (blk_rd (b := b9) (cs := (acc.getD d.kids[k].toNat fl0).cells) (k := 0) (n := 3) (T := 55) (.head _) (Nat.le_of_ble_eq_true rfl)) rfl (Mr := ⟨b9, .cells (acc.getD d.kids[k].toNat fl0).cells.toArray 55 (0, 0)⟩ :: flRow b8 (acc ++ List.replicate (t.n - i) fl0) :: M0) (by
      have := List.perm_append_comm_assoc [(⟨b9, .cells (acc.getD d.kids[k].toNat fl0).cells.toArray 55 (0, 0)⟩ : Blk), flRow b8 (acc ++ List.replicate (t.n - i) fl0)] (k2.blk 55) M0
      exact this) (by simp only [maxLen]; omega) (by show (k2.n + 1) * 3 ≤ _; omega) ?_
    intro g2 c2 cur2 r1 r2 r3 r4
    refine ArithOb.mk _ (next_wr (i := k) (by omega)) ?_
    refine ⟨(k + 1, ⟨some g2, k2.n + 1, c2, cur2⟩, kl ++ [acc.getD d.kids[k].toNat fl0]), ⟨⟨by simp only; omega, ?_, ?_⟩, by simp only; omega⟩, .sub (M1 := [(⟨g2, .cells cur2.toArray 55 (0, 0)⟩ : Blk), flRow b8 (acc ++ List.replicate (t.n - i) fl0)] ++ M0) (.cons_cons _ (.cons _ (.refl _))) (.perm (List.Perm.swap _ _ _) .refl), .cons .refl (.cons .refl (.cons .refl (.cons .refl (.cons .refl (.cons .refl (.cons .refl (.cons .refl (.cons .refl (.cons .refl (.cons .refl (.cons .refl (.cons .refl (.cons .refl .nil))))))))))))), .cons rfl (.cons rfl (.cons rfl .nil))⟩
    · simp only
      rw [flat_snoc]
      exact appk_ok hk2 (Fl.cells_len _) r1 r2 r3 r4
    · simp only
      rw [List.take_succ_eq_append_getElem hkk', List.map_append, ← hkl]
      rfl
  have hge : d.kn ≤ k := by have : ¬ (k : Int) < (d.kn : Int) := of_decide_eq_false h; omega
  rw [List.take_of_length_le (by omega)] at hkl
  have hkln : kl.length = d.kids.length := by rw [hkl, List.length_map]
  have hb2 : k2.n + 1 ≤ 140737488355328 := by omega
  clear h hk hkll
  -- what each kind comes to
  have hset : ∀ x : Fl, splice ((acc ++ List.replicate (t.n - i) fl0).flatMap Fl.cells) (0 + i * 3) x.cells = ((acc ++ [x]) ++ List.replicate (t.n - (i + 1)) fl0).flatMap Fl.cells := fun x => by
    rw [Nat.zero_add, flRow_set _ _ (by simp; omega), rep_at acc t.n i hacc hlt]
  have hinv : ∀ (ko2 : OS) (ks2 : List Value), ko2.ok 3 ks2 → ((i + 1 ≤ t.n ∧ (acc ++ [comeFl d (kidsF pl fl acc d)]).length = i + 1 ∧ nodesF pl fl t.ns [] = nodesF pl fl (t.ns.drop (i + 1)) (acc ++ [comeFl d (kidsF pl fl acc d)]) ∧ ∃ ks, ko2.ok 3 ks) ∧ t.n - (i + 1) < t.n - i) := fun ko2 ks2 h2 =>
    ⟨⟨hlt, by simp [hacc], hnf', ks2, h2⟩, by omega⟩
  by_cases h3 : d.k = 3
  · refine CondOb.mk (fun _ => ?_) (fun h => absurd h (by simp [h3]))
    obtain ⟨q, hq1, hq2⟩ := hcd h3
    have hkf : kidsF pl fl acc d = kl ++ [fl.getD q fl0] := by
      rw [kidsF, ← hkl, hq1, h3]
      rfl
    have hql : q < fl.length := by rw [hfl.n]; exact hq2
    obtain ⟨al, hal, hrl⟩ := hfl.rd q hql
    have hgq : fl.getD q fl0 = fl[q] := by simp [List.getD_eq_getElem?_getD, hql]
    refine OtherOb.lookupF TrydEOK rfl (by simp) rfl rfl rfl rfl (fun w => zero_int w) (l := pl) (g := gm) rfl rfl (.inl hm) ?_
    rw [hq1]
    refine IdxOb.mk al q hal rfl hq2 ?_
    refine LoadOb.mk _ (hrl.sub fun x hx => by simp [hx]) ?_
    refine AllocOb.mk fun b9 hb9 hbM9 => ?_
    refine OtherOb.append TrydEOK rfl (by simp) (e := 55) rfl rfl rfl k2 hk2 rfl (m := 1) rfl (news := fl[q].cells) (by decide) (blk_rd (b := b9) (cs := fl[q].cells) (k := 0) (n := 3) (T := 55) (.head _) (Nat.le_of_ble_eq_true rfl)) rfl (Mr := ⟨b9, .cells fl[q].cells.toArray 55 (0, 0)⟩ :: flRow b8 (acc ++ List.replicate (t.n - i) fl0) :: M0) (by
      have := List.perm_append_comm_assoc [(⟨b9, .cells fl[q].cells.toArray 55 (0, 0)⟩ : Blk), flRow b8 (acc ++ List.replicate (t.n - i) fl0)] (k2.blk 55) M0
      exact this) (by simp only [maxLen]; omega) (by show (k2.n + 1) * 3 ≤ _; omega) ?_
    intro g2 c2 cur2 r1 r2 r3 r4
    have hok2 := appk_ok (g := g2) hk2 (Fl.cells_len fl[q]) r1 r2 r3 r4
    rw [← flat_snoc, ← hgq, ← hkf] at hok2
    have hks := OS.fsAt (I := I1) (M := ⟨g2, .cells cur2.toArray 55 (0, 0)⟩ :: ⟨b9, .cells fl[q].cells.toArray 55 (0, 0)⟩ :: flRow b8 (acc ++ List.replicate (t.n - i) fl0) :: M0) (e := 55) hok2 (fun x hx => by
      simp only [OS.blk, List.mem_singleton] at hx
      subst hx
      exact .head _)
    refine CodeOb.draw TrydEOK rfl rfl rfl ?_
    obtain ⟨dk, s0, s1, s2, s3, dt, lo, hi', dka, dkn, dkc, dkids⟩ := d
    simp only at h3
    subst h3
    refine ArrOb.mk 3 rfl (by decide) ?_
    refine PCallOb.mkR _ [] _ perm_nil (come_at (d := ⟨3, s0, s1, s2, s3, dt, lo, hi', dka, dkn, dkc, dkids⟩) hks hb2 3 (by decide) rfl (fun _ => Nat.succ_pos _)) (fun v I' M' h x hx => by rw [h.2.2]; exact hx) ?_
    rintro v I2 M2 - ⟨rfl, rfl, rfl⟩
    rw [List.append_nil]
    refine IdxOb.mk ⟨b8, 0, none⟩ i rfl rfl hlt ?_
    refine StoreOb.addTo [(⟨g2, .cells cur2.toArray 55 (0, 0)⟩ : Blk), ⟨b9, .cells fl[q].cells.toArray 55 (0, 0)⟩] M0 ((acc ++ List.replicate (t.n - i) fl0).flatMap Fl.cells) _ rfl (ble_fl hacc hlt _) rfl _ (hset _) ?_
    refine ArithOb.mk _ (next_wr (i := i) (by omega)) ?_
    exact ⟨(i + 1, _, ⟨some g2, k2.n + 1, c2, cur2⟩), hinv _ _ hok2, .sub (M1 := [(⟨g2, .cells cur2.toArray 55 (0, 0)⟩ : Blk), flRow b8 _] ++ M0) (.cons_cons _ (.cons _ (.refl _))) (.perm (List.Perm.swap _ _ _) .refl), .cons .refl (.cons .refl (.cons .refl (.cons .refl (.cons .refl (.cons .refl (.cons .refl (.cons .refl (.cons .refl .nil)))))))), .cons rfl (.cons rfl .nil)⟩
  refine CondOb.mk (fun h => absurd (of_decide_eq_true h) h3) (fun _ => ?_)
  have hkf : kidsF pl fl acc d = kl := by
    rw [kidsF, ← hkl, decide_eq_false h3]
    simp
  rw [hkf] at hinv
  have hks := OS.fsAt (I := I1) (M := flRow b8 (acc ++ List.replicate (t.n - i) fl0) :: (k2.blk 55 ++ M0)) (e := 55) hk2 (fun x hx => by simp [hx])
  have hpos : 6 ≤ d.k → 0 < k2.n := fun h6 => by
    have := fits_kid hk0 hft h6
    omega
  have hcases : d.k = 0 ∨ d.k = 1 ∨ d.k = 2 ∨ d.k = 4 ∨ d.k = 5 ∨ d.k = 6 ∨ d.k = 7 ∨ d.k = 8 ∨ d.k = 9 := by omega
  obtain ⟨dk, s0, s1, s2, s3, dt, lo, hi', dka, dkn, dkc, dkids⟩ := d
  simp only at hcases hpos h3
  refine CodeOb.draw TrydEOK rfl rfl rfl ?_
  rcases hcases with rfl | rfl | rfl | rfl | rfl | rfl | rfl | rfl | rfl
  · refine ArrOb.mk 0 rfl (by decide) ?_
    refine PCallOb.mkR _ [] _ perm_nil (come_at (d := ⟨0, s0, s1, s2, s3, dt, lo, hi', dka, dkn, dkc, dkids⟩) hks (Nat.le_of_succ_le hb2) 0 (by decide) rfl (fun h => by omega)) (fun v I' M' h x hx => by rw [h.2.2]; exact hx) ?_
    rintro v I2 M2 - ⟨rfl, rfl, rfl⟩
    rw [List.append_nil]
    refine IdxOb.mk ⟨b8, 0, none⟩ i rfl rfl hlt ?_
    refine StoreOb.addTo [] (k2.blk 55 ++ M0) ((acc ++ List.replicate (t.n - i) fl0).flatMap Fl.cells) _ rfl (ble_fl hacc hlt _) rfl _ (hset _) ?_
    refine ArithOb.mk _ (next_wr (i := i) (by omega)) ?_
    exact ⟨(i + 1, _, k2), hinv _ _ hk2, .refl, .cons .refl (.cons .refl (.cons .refl (.cons .refl (.cons .refl (.cons .refl (.cons .refl (.cons .refl (.cons .refl .nil)))))))), .cons rfl (.cons rfl .nil)⟩
  · refine ArrOb.mk 1 rfl (by decide) ?_
    refine PCallOb.mkR _ [] _ perm_nil (come_at (d := ⟨1, s0, s1, s2, s3, dt, lo, hi', dka, dkn, dkc, dkids⟩) hks (Nat.le_of_succ_le hb2) 1 (by decide) rfl (fun h => by omega)) (fun v I' M' h x hx => by rw [h.2.2]; exact hx) ?_
    rintro v I2 M2 - ⟨rfl, rfl, rfl⟩
    rw [List.append_nil]
    refine IdxOb.mk ⟨b8, 0, none⟩ i rfl rfl hlt ?_
    refine StoreOb.addTo [] (k2.blk 55 ++ M0) ((acc ++ List.replicate (t.n - i) fl0).flatMap Fl.cells) _ rfl (ble_fl hacc hlt _) rfl _ (hset _) ?_
    refine ArithOb.mk _ (next_wr (i := i) (by omega)) ?_
    exact ⟨(i + 1, _, k2), hinv _ _ hk2, .refl, .cons .refl (.cons .refl (.cons .refl (.cons .refl (.cons .refl (.cons .refl (.cons .refl (.cons .refl (.cons .refl .nil)))))))), .cons rfl (.cons rfl .nil)⟩
  · refine ArrOb.mk 2 rfl (by decide) ?_
    refine PCallOb.mkR _ [] _ perm_nil (come_at (d := ⟨2, s0, s1, s2, s3, dt, lo, hi', dka, dkn, dkc, dkids⟩) hks (Nat.le_of_succ_le hb2) 2 (by decide) rfl (fun h => by omega)) (fun v I' M' h x hx => by rw [h.2.2]; exact hx) ?_
    rintro v I2 M2 - ⟨rfl, rfl, rfl⟩
    rw [List.append_nil]
    refine IdxOb.mk ⟨b8, 0, none⟩ i rfl rfl hlt ?_
    refine StoreOb.addTo [] (k2.blk 55 ++ M0) ((acc ++ List.replicate (t.n - i) fl0).flatMap Fl.cells) _ rfl (ble_fl hacc hlt _) rfl _ (hset _) ?_
    refine ArithOb.mk _ (next_wr (i := i) (by omega)) ?_
    exact ⟨(i + 1, _, k2), hinv _ _ hk2, .refl, .cons .refl (.cons .refl (.cons .refl (.cons .refl (.cons .refl (.cons .refl (.cons .refl (.cons .refl (.cons .refl .nil)))))))), .cons rfl (.cons rfl .nil)⟩
  · refine ArrOb.mk 4 rfl (by decide) ?_
    refine PCallOb.mkR _ [] _ perm_nil (come_at (d := ⟨4, s0, s1, s2, s3, dt, lo, hi', dka, dkn, dkc, dkids⟩) hks (Nat.le_of_succ_le hb2) 4 (by decide) rfl (fun h => by omega)) (fun v I' M' h x hx => by rw [h.2.2]; exact hx) ?_
    rintro v I2 M2 - ⟨rfl, rfl, rfl⟩
    rw [List.append_nil]
    refine IdxOb.mk ⟨b8, 0, none⟩ i rfl rfl hlt ?_
    refine StoreOb.addTo [] (k2.blk 55 ++ M0) ((acc ++ List.replicate (t.n - i) fl0).flatMap Fl.cells) _ rfl (ble_fl hacc hlt _) rfl _ (hset _) ?_
    refine ArithOb.mk _ (next_wr (i := i) (by omega)) ?_
    exact ⟨(i + 1, _, k2), hinv _ _ hk2, .refl, .cons .refl (.cons .refl (.cons .refl (.cons .refl (.cons .refl (.cons .refl (.cons .refl (.cons .refl (.cons .refl .nil)))))))), .cons rfl (.cons rfl .nil)⟩
  · refine ArrOb.mk 5 rfl (by decide) ?_
    refine PCallOb.mkR _ [] _ perm_nil (come_at (d := ⟨5, s0, s1, s2, s3, dt, lo, hi', dka, dkn, dkc, dkids⟩) hks (Nat.le_of_succ_le hb2) 5 (by decide) rfl (fun h => by omega)) (fun v I' M' h x hx => by rw [h.2.2]; exact hx) ?_
    rintro v I2 M2 - ⟨rfl, rfl, rfl⟩
    rw [List.append_nil]
    refine IdxOb.mk ⟨b8, 0, none⟩ i rfl rfl hlt ?_
    refine StoreOb.addTo [] (k2.blk 55 ++ M0) ((acc ++ List.replicate (t.n - i) fl0).flatMap Fl.cells) _ rfl (ble_fl hacc hlt _) rfl _ (hset _) ?_
    refine ArithOb.mk _ (next_wr (i := i) (by omega)) ?_
    exact ⟨(i + 1, _, k2), hinv _ _ hk2, .refl, .cons .refl (.cons .refl (.cons .refl (.cons .refl (.cons .refl (.cons .refl (.cons .refl (.cons .refl (.cons .refl .nil)))))))), .cons rfl (.cons rfl .nil)⟩
  · refine ArrOb.mk 6 rfl (by decide) ?_
    refine PCallOb.mkR _ [] _ perm_nil (come_at (d := ⟨6, s0, s1, s2, s3, dt, lo, hi', dka, dkn, dkc, dkids⟩) hks (Nat.le_of_succ_le hb2) 6 (by decide) rfl (fun _ => hpos (by decide))) (fun v I' M' h x hx => by rw [h.2.2]; exact hx) ?_
    rintro v I2 M2 - ⟨rfl, rfl, rfl⟩
    rw [List.append_nil]
    refine IdxOb.mk ⟨b8, 0, none⟩ i rfl rfl hlt ?_
    refine StoreOb.addTo [] (k2.blk 55 ++ M0) ((acc ++ List.replicate (t.n - i) fl0).flatMap Fl.cells) _ rfl (ble_fl hacc hlt _) rfl _ (hset _) ?_
    refine ArithOb.mk _ (next_wr (i := i) (by omega)) ?_
    exact ⟨(i + 1, _, k2), hinv _ _ hk2, .refl, .cons .refl (.cons .refl (.cons .refl (.cons .refl (.cons .refl (.cons .refl (.cons .refl (.cons .refl (.cons .refl .nil)))))))), .cons rfl (.cons rfl .nil)⟩
  · refine ArrOb.mk 7 rfl (by decide) ?_
    refine PCallOb.mkR _ [] _ perm_nil (come_at (d := ⟨7, s0, s1, s2, s3, dt, lo, hi', dka, dkn, dkc, dkids⟩) hks (Nat.le_of_succ_le hb2) 7 (by decide) rfl (fun _ => hpos (by decide))) (fun v I' M' h x hx => by rw [h.2.2]; exact hx) ?_
    rintro v I2 M2 - ⟨rfl, rfl, rfl⟩
    rw [List.append_nil]
    refine IdxOb.mk ⟨b8, 0, none⟩ i rfl rfl hlt ?_
    refine StoreOb.addTo [] (k2.blk 55 ++ M0) ((acc ++ List.replicate (t.n - i) fl0).flatMap Fl.cells) _ rfl (ble_fl hacc hlt _) rfl _ (hset _) ?_
    refine ArithOb.mk _ (next_wr (i := i) (by omega)) ?_
    exact ⟨(i + 1, _, k2), hinv _ _ hk2, .refl, .cons .refl (.cons .refl (.cons .refl (.cons .refl (.cons .refl (.cons .refl (.cons .refl (.cons .refl (.cons .refl .nil)))))))), .cons rfl (.cons rfl .nil)⟩
  · refine ArrOb.mk 8 rfl (by decide) ?_
    refine PCallOb.mkR _ [] _ perm_nil (come_at (d := ⟨8, s0, s1, s2, s3, dt, lo, hi', dka, dkn, dkc, dkids⟩) hks (Nat.le_of_succ_le hb2) 8 (by decide) rfl (fun _ => hpos (by decide))) (fun v I' M' h x hx => by rw [h.2.2]; exact hx) ?_
    rintro v I2 M2 - ⟨rfl, rfl, rfl⟩
    rw [List.append_nil]
    refine IdxOb.mk ⟨b8, 0, none⟩ i rfl rfl hlt ?_
    refine StoreOb.addTo [] (k2.blk 55 ++ M0) ((acc ++ List.replicate (t.n - i) fl0).flatMap Fl.cells) _ rfl (ble_fl hacc hlt _) rfl _ (hset _) ?_
    refine ArithOb.mk _ (next_wr (i := i) (by omega)) ?_
    exact ⟨(i + 1, _, k2), hinv _ _ hk2, .refl, .cons .refl (.cons .refl (.cons .refl (.cons .refl (.cons .refl (.cons .refl (.cons .refl (.cons .refl (.cons .refl .nil)))))))), .cons rfl (.cons rfl .nil)⟩
  · refine ArrOb.mk 9 rfl (by decide) ?_
    refine PCallOb.mkR _ [] _ perm_nil (come_at (d := ⟨9, s0, s1, s2, s3, dt, lo, hi', dka, dkn, dkc, dkids⟩) hks (Nat.le_of_succ_le hb2) 9 (by decide) rfl (fun _ => hpos (by decide))) (fun v I' M' h x hx => by rw [h.2.2]; exact hx) ?_
    rintro v I2 M2 - ⟨rfl, rfl, rfl⟩
    rw [List.append_nil]
    refine IdxOb.mk ⟨b8, 0, none⟩ i rfl rfl hlt ?_
    refine StoreOb.addTo [] (k2.blk 55 ++ M0) ((acc ++ List.replicate (t.n - i) fl0).flatMap Fl.cells) _ rfl (ble_fl hacc hlt _) rfl _ (hset _) ?_
    refine ArithOb.mk _ (next_wr (i := i) (by omega)) ?_
    exact ⟨(i + 1, _, k2), hinv _ _ hk2, .refl, .cons .refl (.cons .refl (.cons .refl (.cons .refl (.cons .refl (.cons .refl (.cons .refl (.cons .refl (.cons .refl .nil)))))))), .cons rfl (.cons rfl .nil)⟩
end Go.V

/-
  Plain: flows: who is greater; the least ones that are closed. No program in sight.
-/
set_option linter.unusedVariables false
set_option linter.unusedSimpArgs false
namespace Go.V
open Go

/-! ### The order -/
structure Fl.le (a b : Fl) : Prop where
  z : a.z = true → b.z = true
  s : a.s = true → b.s = true
  f : a.f = true → b.f = true
theorem Fl.le_refl (a : Fl) : a.le a := ⟨id, id, id⟩
theorem Fl.le.trans {a b c : Fl} (h : a.le b) (h' : b.le c) : a.le c := ⟨fun x => h'.z (h.z x), fun x => h'.s (h.s x), fun x => h'.f (h.f x)⟩
theorem Fl.le.antisymm {a b : Fl} (h : a.le b) (h' : b.le a) : a = b := by
  obtain ⟨a1, a2, a3⟩ := a
  obtain ⟨b1, b2, b3⟩ := b
  have e : ∀ {x y : Bool}, (x = true → y = true) → (y = true → x = true) → x = y := fun {x y} h h' => by cases x <;> cases y <;> simp_all
  have e1 : a1 = b1 := e h.z h'.z
  have e2 : a2 = b2 := e h.s h'.s
  have e3 : a3 = b3 := e h.f h'.f
  subst e1 e2 e3
  rfl
theorem Fl.bot (a : Fl) : fl0.le a := ⟨(fun h => by cases h), (fun h => by cases h), (fun h => by cases h)⟩
def within (a b : Fl) : Bool := (!a.z || b.z) && ((!a.s || b.s) && (!a.f || b.f))
theorem within_iff {a b : Fl} : within a b = true ↔ a.le b := by
  obtain ⟨a1, a2, a3⟩ := a
  obtain ⟨b1, b2, b3⟩ := b
  constructor
  · intro h
    exact ⟨by cases a1 <;> cases b1 <;> simp_all [within], by cases a2 <;> cases b2 <;> simp_all [within], by cases a3 <;> cases b3 <;> simp_all [within]⟩
  · rintro ⟨h1, h2, h3⟩
    cases a1 <;> cases b1 <;> cases a2 <;> cases b2 <;> cases a3 <;> cases b3 <;> simp_all [within]
theorem Fl.suc_mono {a b : Fl} (h : a.le b) : a.suc = true → b.suc = true := by
  intro hs
  simp only [Fl.suc, Bool.or_eq_true] at hs ⊢
  exact hs.imp h.z h.s

/-- Rows, one by one. -/
inductive LeL : List Fl → List Fl → Prop
  | nil : LeL [] []
  | cons {a b l m} (h : Fl.le a b) (t : LeL l m) : LeL (a :: l) (b :: m)
theorem LeL.refl : ∀ l, LeL l l
  | [] => .nil
  | a :: l => .cons a.le_refl (LeL.refl l)
theorem LeL.trans : ∀ {a b c}, LeL a b → LeL b c → LeL a c
  | _, _, _, .nil, .nil => .nil
  | _, _, _, .cons h t, .cons h' t' => .cons (h.trans h') (t.trans t')
theorem LeL.antisymm : ∀ {a b}, LeL a b → LeL b a → a = b
  | _, _, .nil, _ => rfl
  | _, _, .cons h t, .cons h' t' => by rw [h.antisymm h', t.antisymm t']
theorem LeL.len : ∀ {a b}, LeL a b → a.length = b.length
  | _, _, .nil => rfl
  | _, _, .cons h t => by simp [t.len]
theorem LeL.append : ∀ {a b c d}, LeL a b → LeL c d → LeL (a ++ c) (b ++ d)
  | _, _, _, _, .nil, h => h
  | _, _, _, _, .cons h t, h' => .cons h (t.append h')
theorem LeL.getD : ∀ {a b}, LeL a b → ∀ i, (a.getD i fl0).le (b.getD i fl0)
  | _, _, .nil, i => by simp; exact Fl.le_refl _
  | _, _, .cons h t, 0 => h
  | _, _, .cons h t, i + 1 => by simpa using t.getD i
theorem LeL.of : ∀ {a b : List Fl}, a.length = b.length → (∀ i, i < a.length → (a.getD i fl0).le (b.getD i fl0)) → LeL a b
  | [], [], _, _ => .nil
  | x :: a, y :: b, hl, h => .cons (by simpa using h 0 (by simp)) (LeL.of (by simpa using hl) fun i hi => by simpa using h (i + 1) (by simpa using hi))
theorem LeL.map {α : Type} {f g : α → Fl} : ∀ {l : List α}, (∀ x ∈ l, (f x).le (g x)) → LeL (l.map f) (l.map g)
  | [], _ => .nil
  | x :: l, h => .cons (h x (.head _)) (LeL.map fun y hy => h y (.tail _ hy))
theorem LeL.head {a b : List Fl} (h : LeL a b) : (a.headD fl0).le (b.headD fl0) := by
  cases h with
  | nil => exact Fl.le_refl _
  | cons h _ => exact h
theorem LeL.bot : ∀ l : List Fl, LeL (List.replicate l.length fl0) l
  | [] => .nil
  | a :: l => .cons a.bot (LeL.bot l)

/-! ### The table is rising -/
theorem seq_mono : ∀ {a b : List Fl}, LeL a b → ∀ {x y : Fl × Bool}, x.1.le y.1 → (x.2 = true → y.2 = true) → (a.foldl seqStep x).1.le (b.foldl seqStep y).1 ∧ ((a.foldl seqStep x).2 = true → (b.foldl seqStep y).2 = true)
  | _, _, .nil, _, _, h1, h2 => ⟨h1, h2⟩
  | _, _, .cons h t, x, y, h1, h2 => by
    refine seq_mono t ⟨?_, ?_, ?_⟩ ?_
    · simp only [seqStep, Bool.and_eq_true]
      exact fun g => ⟨h1.z g.1, h.z g.2⟩
    · simp only [seqStep, Bool.or_eq_true]
      exact fun g => g.imp h1.s h.s
    · simp only [seqStep, Bool.or_eq_true, Bool.and_eq_true]
      exact fun g => g.imp h1.f fun g => ⟨h2 g.1, h.f g.2⟩
    · simp only [seqStep, Bool.and_eq_true]
      exact fun g => ⟨h2 g.1, Fl.suc_mono h g.2⟩
theorem ch_mono : ∀ {a b : List Fl}, LeL a b → ∀ {x y : Fl}, x.le y → (a.foldl chStep x).le (b.foldl chStep y)
  | _, _, .nil, _, _, h1 => h1
  | _, _, .cons h t, x, y, h1 => by
    refine ch_mono t ⟨?_, ?_, ?_⟩
    · simp only [chStep, Bool.or_eq_true, Bool.and_eq_true]
      exact fun g => g.imp h1.z fun g => ⟨h1.f g.1, h.z g.2⟩
    · simp only [chStep, Bool.or_eq_true, Bool.and_eq_true]
      exact fun g => g.imp h1.s fun g => ⟨h1.f g.1, h.s g.2⟩
    · simp only [chStep, Bool.and_eq_true]
      exact fun g => ⟨h1.f g.1, h.f g.2⟩
theorem rep_mono (d : Nd) {a b : Fl} (h : a.le b) : (repFl d a).le (repFl d b) := by
  unfold repFl
  cases decide (d.hi = 0) with
  | true => exact Fl.le_refl _
  | false =>
    refine ⟨?_, h.s, ?_⟩
    · simp only [cond_false, Bool.or_eq_true, Bool.and_eq_true]
      exact fun g => g.imp h.z fun g => ⟨g.1, h.f g.2⟩
    · simp only [cond_false, Bool.and_eq_true]
      exact fun g => ⟨g.1, h.f g.2⟩
theorem come_mono (d : Nd) {a b : List Fl} (h : LeL a b) : (comeFl d a).le (comeFl d b) := by
  have hh := h.head
  unfold comeFl
  cases decide (d.k = 0) with
  | true => exact Fl.le_refl _
  | false =>
  cases decide (d.k = 1) with
  | true => exact Fl.le_refl _
  | false =>
  cases decide (d.k = 2) with
  | true => exact Fl.le_refl _
  | false =>
  cases decide (d.k = 3) with
  | true => exact hh
  | false =>
  cases decide (d.k = 4) with
  | true =>
    have hs := seq_mono h (x := (⟨true, false, false⟩, true)) (y := (⟨true, false, false⟩, true)) (Fl.le_refl _) id
    refine ⟨hs.1.z, ?_, hs.1.f⟩
    simp only [cond_true, cond_false, seqFl, seqGo, Bool.and_eq_true]
    exact fun g => ⟨hs.1.s g.1, hs.2 g.2⟩
  | false =>
  cases decide (d.k = 5) with
  | true => exact ch_mono h (Fl.le_refl _)
  | false =>
  cases decide (d.k = 6) with
  | true => exact rep_mono d hh
  | false =>
  cases decide (d.k = 7) with
  | true => exact ⟨Fl.suc_mono hh, id, hh.f⟩
  | false =>
  cases decide (d.k = 8) with
  | true => exact ⟨hh.f, id, Fl.suc_mono hh⟩
  | false => exact hh
theorem kids_mono {pl : List (ByteArray × Int)} {fl fl' acc acc' : List Fl} (h : LeL fl fl') (ha : LeL acc acc') (d : Nd) : LeL (kidsF pl fl acc d) (kidsF pl fl' acc' d) := by
  unfold kidsF
  refine (LeL.map fun k _ => ha.getD _).append ?_
  cases decide (d.k = 3) with
  | true => exact .cons (h.getD _) .nil
  | false => exact .nil
theorem nodes_mono {pl : List (ByteArray × Int)} {fl fl' : List Fl} (h : LeL fl fl') : ∀ (ds : List Nd) {acc acc' : List Fl}, LeL acc acc' → LeL (nodesF pl fl ds acc) (nodesF pl fl' ds acc')
  | [], _, _, ha => ha
  | d :: ds, _, _, ha => nodes_mono h ds (ha.append (.cons (come_mono d (kids_mono h ha d)) .nil))

/-! ### A grammar's flows -/
/-- The flow of a rule's body, by flows of rules. -/
def bodyF (pl : List (ByteArray × Int)) (fl : List Fl) (d : Df) : Fl := (nodesF pl fl d.t.ns []).getD d.t.root.toNat fl0
theorem body_mono {pl : List (ByteArray × Int)} {fl fl' : List Fl} (h : LeL fl fl') (d : Df) : (bodyF pl fl d).le (bodyF pl fl' d) := (nodes_mono h d.t.ns .nil).getD _
def roundGo (pl : List (ByteArray × Int)) : Nat → List Df → List Fl → List Fl
  | _, [], l => l
  | i, d :: ds, l => roundGo pl (i + 1) ds (l.set i (bodyF pl l d))
/-- Flows on the way to the least ones. -/
structure PreF (ds : List Df) (l : List Fl) : Prop where
  len : l.length = ds.length
  up : ∀ i (h : i < ds.length), (l.getD i fl0).le (bodyF (placesL ds) l ds[i])
  least : ∀ m : List Fl, m.length = ds.length → (∀ i (h : i < ds.length), (bodyF (placesL ds) m ds[i]).le (m.getD i fl0)) → LeL l m
theorem set_getD (l : List Fl) (i j : Nat) (x : Fl) (hi : i < l.length) : (l.set i x).getD j fl0 = if i = j then x else l.getD j fl0 := by
  simp only [List.getD_eq_getElem?_getD, List.getElem?_set]
  by_cases e : i = j
  · subst e
    simp [hi]
  · rw [if_neg e, if_neg e]
theorem PreF.start (ds : List Df) : PreF ds (List.replicate ds.length fl0) := by
  refine ⟨by simp, fun i h => ?_, fun m hm _ => by rw [← hm]; exact LeL.bot m⟩
  have : (List.replicate ds.length fl0).getD i fl0 = fl0 := by simp [List.getD_eq_getElem?_getD, h]
  rw [this]
  exact Fl.bot _
theorem PreF.step {ds : List Df} {l : List Fl} (h : PreF ds l) {i : Nat} (hi : i < ds.length) : PreF ds (l.set i (bodyF (placesL ds) l ds[i])) ∧ LeL l (l.set i (bodyF (placesL ds) l ds[i])) := by
  have hil : i < l.length := by rw [h.len]; exact hi
  have hle : LeL l (l.set i (bodyF (placesL ds) l ds[i])) := LeL.of (by simp) fun j hj => by
    rw [set_getD _ _ _ _ hil]
    by_cases e : i = j
    · subst e
      rw [if_pos rfl]
      exact h.up i hi
    · rw [if_neg e]
      exact Fl.le_refl _
  refine ⟨⟨by simpa using h.len, fun j hj => ?_, fun m hm hc => ?_⟩, hle⟩
  · rw [set_getD _ _ _ _ hil]
    by_cases e : i = j
    · subst e
      rw [if_pos rfl]
      exact body_mono hle _
    · rw [if_neg e]
      exact (h.up j hj).trans (body_mono hle _)
  · have hlm := h.least m hm hc
    refine LeL.of (by simp [h.len, hm]) fun j hj => ?_
    rw [set_getD _ _ _ _ hil]
    by_cases e : i = j
    · subst e
      rw [if_pos rfl]
      exact (body_mono hlm _).trans (hc i hi)
    · rw [if_neg e]
      exact hlm.getD j
theorem roundGo_pre {ds : List Df} : ∀ (rest pre : List Df) {l : List Fl}, ds = pre ++ rest → PreF ds l → PreF ds (roundGo (placesL ds) pre.length rest l) ∧ LeL l (roundGo (placesL ds) pre.length rest l) ∧
    (roundGo (placesL ds) pre.length rest l = l → ∀ i (h : i < ds.length), pre.length ≤ i → l.getD i fl0 = bodyF (placesL ds) l ds[i])
  | [], pre, l, hds, h => ⟨h, LeL.refl l, fun _ i hi hge => by
    rw [hds, List.append_nil] at hi
    omega⟩
  | d :: rest, pre, l, hds, h => by
    have hi : pre.length < ds.length := by rw [hds]; simp
    have hd : ds[pre.length] = d := by simp [hds]
    have hil : pre.length < l.length := by rw [h.len]; exact hi
    obtain ⟨s1, s2⟩ := h.step hi
    rw [hd] at s1 s2
    obtain ⟨r1, r2, r3⟩ := roundGo_pre rest (pre ++ [d]) (by rw [hds]; simp) s1
    rw [List.length_append, List.length_cons, List.length_nil, Nat.zero_add] at r1 r2 r3
    refine ⟨r1, s2.trans r2, fun e i hi2 hge => ?_⟩
    have e1 : l.set pre.length (bodyF (placesL ds) l d) = l := by
      refine LeL.antisymm ?_ s2
      have : roundGo (placesL ds) pre.length (d :: rest) l = roundGo (placesL ds) (pre.length + 1) rest (l.set pre.length (bodyF (placesL ds) l d)) := rfl
      rw [this] at e
      rw [e] at r2
      exact r2
    have e2 : roundGo (placesL ds) (pre.length + 1) rest l = l := by
      have : roundGo (placesL ds) pre.length (d :: rest) l = roundGo (placesL ds) (pre.length + 1) rest (l.set pre.length (bodyF (placesL ds) l d)) := rfl
      rw [this, e1] at e
      exact e
    rw [e1] at r3
    by_cases hp : i = pre.length
    · subst hp
      have h4 := set_getD l pre.length pre.length (bodyF (placesL ds) l d) hil
      rw [e1, if_pos rfl] at h4
      rw [h4, hd]
    · exact r3 e2 i hi2 (by omega)

/-- The least flows that are closed. -/
structure IsFlow (ds : List Df) (l : List Fl) : Prop where
  len : l.length = ds.length
  fix : ∀ i (h : i < ds.length), l.getD i fl0 = bodyF (placesL ds) l ds[i]
  least : ∀ m : List Fl, m.length = ds.length → (∀ i (h : i < ds.length), (bodyF (placesL ds) m ds[i]).le (m.getD i fl0)) → LeL l m
theorem PreF.done {ds : List Df} {l : List Fl} (h : PreF ds l) (hf : roundGo (placesL ds) 0 ds l = l) : IsFlow ds l :=
  ⟨h.len, fun i hi => (roundGo_pre ds [] rfl h).2.2 hf i hi (Nat.zero_le _), h.least⟩
theorem IsFlow.unique {ds : List Df} {l l' : List Fl} (h : IsFlow ds l) (h' : IsFlow ds l') : l = l' :=
  LeL.antisymm (h.least l' h'.len fun i hi => by rw [← h'.fix i hi]; exact Fl.le_refl _) (h'.least l h.len fun i hi => by rw [← h.fix i hi]; exact Fl.le_refl _)
def iterF (ds : List Df) : Nat → List Fl
  | 0 => List.replicate ds.length fl0
  | n + 1 => roundGo (placesL ds) 0 ds (iterF ds n)
theorem iterF_pre (ds : List Df) : ∀ n, PreF ds (iterF ds n)
  | 0 => .start ds
  | n + 1 => (roundGo_pre ds [] rfl (iterF_pre ds n)).1
theorem isFlow_of {ds : List Df} {l : List Fl} (n : Nat) (h : iterF ds n = l) (h' : roundGo (placesL ds) 0 ds l = l) : IsFlow ds l := by
  subst h
  exact (iterF_pre ds n).done h'

/-- How many flags are down. -/
def offF (x : Fl) : Nat := (bif x.z then 0 else 1) + ((bif x.s then 0 else 1) + (bif x.f then 0 else 1))
def offs (l : List Fl) : Nat := (l.map offF).sum
theorem offF_le {a b : Fl} (h : a.le b) : offF b ≤ offF a ∧ (offF a ≤ offF b → a = b) := by
  obtain ⟨a1, a2, a3⟩ := a
  obtain ⟨b1, b2, b3⟩ := b
  obtain ⟨h1, h2, h3⟩ := h
  cases a1 <;> cases b1 <;> cases a2 <;> cases b2 <;> cases a3 <;> cases b3 <;> simp_all [offF]
theorem offs_le : ∀ {l m : List Fl}, LeL l m → offs m ≤ offs l ∧ (offs l ≤ offs m → l = m)
  | _, _, .nil => ⟨Nat.le_refl _, fun _ => rfl⟩
  | _, _, .cons h t => by
    obtain ⟨h1, h2⟩ := offF_le h
    obtain ⟨t1, t2⟩ := offs_le t
    simp only [offs, List.map_cons, List.sum_cons] at t1 t2 ⊢
    refine ⟨by omega, fun h => ?_⟩
    rw [h2 (by omega), t2 (by omega)]
theorem offs_lt {l m : List Fl} (h : LeL l m) (hne : m ≠ l) : offs m < offs l := by
  obtain ⟨h1, h2⟩ := offs_le h
  apply Nat.lt_of_le_of_ne h1
  intro e
  exact hne (h2 (by omega)).symm

/-! ### Names and places -/
def firstAt (nm : ByteArray) : List Df → Nat → Option Int
  | [], _ => none
  | d :: ds, i => bif decide (nm = d.name) then some (i : Int) else firstAt nm ds (i + 1)
theorem lookM_snoc (s n : ByteArray) (v : Int) : ∀ l : List (ByteArray × Int), lookM s (l ++ [(n, v)]) = match lookM s l with
    | some x => some x
    | none => bif decide (s = n) then some v else none
  | [] => rfl
  | p :: l => by
    have ih := lookM_snoc s n v l
    simp only [List.cons_append, lookM]
    cases decide (s = p.1) with
    | true => rfl
    | false => simpa using ih
theorem places_look : ∀ (ds : List Df) (acc : List (ByteArray × Int)) (i : Nat) (nm : ByteArray), lookM nm (placesGo acc i ds) = match lookM nm acc with
    | some x => some x
    | none => firstAt nm ds i
  | [], acc, i, nm => by
    rw [placesGo, firstAt]
    cases lookM nm acc <;> rfl
  | d :: ds, acc, i, nm => by
    rw [placesGo, places_look ds, firstAt]
    cases hd : (lookM d.name acc).isSome with
    | true =>
      simp only [cond_true]
      cases hl : lookM nm acc with
      | some x => rfl
      | none =>
        have : decide (nm = d.name) = false := by
          rw [decide_eq_false_iff_not]
          intro e
          rw [← e, hl] at hd
          cases hd
        rw [this]
        rfl
    | false =>
      simp only [cond_false, lookM_snoc]
      cases hl : lookM nm acc with
      | some x => rfl
      | none => cases decide (nm = d.name) <;> rfl
theorem places_first (ds : List Df) (nm : ByteArray) : lookM nm (placesL ds) = firstAt nm ds 0 := places_look ds [] 0 nm
theorem firstAt_lt : ∀ {ds : List Df} {i : Nat} {nm : ByteArray} {v : Int}, firstAt nm ds i = some v → ∃ j : Nat, v = ((i + j : Nat) : Int) ∧ j < ds.length
  | d :: ds, i, nm, v, h => by
    unfold firstAt at h
    cases hd : decide (nm = d.name) with
    | true =>
      rw [hd] at h
      simp only [cond_true, Option.some.injEq] at h
      exact ⟨0, by rw [← h]; rfl, by simp⟩
    | false =>
      rw [hd] at h
      obtain ⟨j, h1, h2⟩ := firstAt_lt h
      exact ⟨j + 1, by rw [h1]; congr 1; omega, by simpa using h2⟩
/-- Are the rules that are called there? -/
def namedOk (pl : List (ByteArray × Int)) (ns : List Nd) : Bool := ns.all fun d => !decide (d.k = 3) || (lookM d.t pl).isSome
theorem called_of {ds : List Df} {ns : List Nd} (h : namedOk (placesL ds) ns = true) : Called (placesL ds) ds.length ns := by
  intro d hd hk
  have := List.all_eq_true.1 h d hd
  simp only [hk, decide_true, Bool.not_true, Bool.false_or] at this
  obtain ⟨v, hv⟩ := Option.isSome_iff_exists.1 this
  have hv' := hv
  rw [places_first] at hv'
  obtain ⟨j, h1, h2⟩ := firstAt_lt hv'
  rw [Nat.zero_add] at h1
  exact ⟨j, by rw [hv, h1], h2⟩
theorem dups_places : ∀ (ds : List Df) {acc r : List (ByteArray × Int)} {i : Nat}, dups acc i ds = some r → placesGo acc i ds = r
  | [], acc, r, i, h => by
    simp only [dups, Option.some.injEq] at h
    exact h
  | d :: ds, acc, r, i, h => by
    unfold dups at h
    cases hd : (lookM d.name acc).isSome with
    | true => rw [hd] at h; cases h
    | false =>
      rw [hd] at h
      rw [placesGo, hd]
      exact dups_places ds h
theorem pairs_mem {d : Df} {nd : Nd} (hn : nd ∈ d.t.ns) : ∀ (ds : List Df) (i : Nat), d ∈ ds → ∃ j, (j, nd) ∈ nodePairs i ds := by
  intro ds
  induction ds with
  | nil => intro i hd; cases hd
  | cons x ds ih =>
    intro i hd
    rcases List.mem_cons.1 hd with e | hd
    · subst e
      exact ⟨i, List.mem_append.2 (.inl (List.mem_map.2 ⟨nd, hn, rfl⟩))⟩
    · obtain ⟨j, hj⟩ := ih (i + 1) hd
      exact ⟨j, List.mem_append.2 (.inr hj)⟩
theorem may_named {deb : List Int} {g : Gr} (h : mayG deb g = 0) : ∀ d ∈ g.ds, namedOk (placesL g.ds) d.t.ns = true := by
  unfold mayG at h
  cases h1 : decide ((g.n : Int) = 0) with
  | true => rw [h1] at h; cases h
  | false =>
  cases h2 : okDefs g.ds with
  | false => rw [h1, h2] at h; cases h
  | true =>
  cases h3 : largeG deb g with
  | true => rw [h1, h2, h3] at h; cases h
  | false =>
  rw [h1, h2, h3] at h
  simp only [cond_false, Bool.not_true] at h
  split at h
  · cases h
  · rename_i acc hacc
    have hp : placesL g.ds = acc := dups_places g.ds hacc
    cases h4 : allNamed acc g.ds with
    | false => rw [h4] at h; cases h
    | true =>
      intro d hd
      rw [hp, namedOk, List.all_eq_true]
      intro nd hnd
      obtain ⟨j, hj⟩ := pairs_mem hnd g.ds 0 hd
      exact List.all_eq_true.1 h4 _ hj
theorem may_ok {deb : List Int} {g : Gr} (h : mayG deb g = 0) : okDefs g.ds = true := by
  unfold mayG at h
  cases h1 : decide ((g.n : Int) = 0) with
  | true => rw [h1] at h; cases h
  | false =>
  cases h2 : okDefs g.ds with
  | false => rw [h1, h2] at h; cases h
  | true => rfl
end Go.V

/-
  Walks: flow.Within, Nodes, Tree, Of.
-/
set_option linter.unusedVariables false
set_option linter.unusedSimpArgs false
namespace Go.V
open Go Go.Proofs

theorem FsAt.mono {I I' : GH} {M : List Blk} {a : Option Addr} {n : Nat} {ks : List Fl} (h : FsAt I M a n ks) (hI : ∀ b o, I b = some o → I' b = some o) : FsAt I' M a n ks :=
  ⟨h.n, fun j hj => by
    obtain ⟨ad, h1, h2⟩ := h.rd j hj
    exact ⟨ad, h1, h2.mono hI⟩⟩
theorem FsAt.sub {I : GH} {M M' : List Blk} {a : Option Addr} {n : Nat} {ks : List Fl} (h : FsAt I M a n ks) (hM : ∀ x ∈ M, x ∈ M') : FsAt I M' a n ks :=
  ⟨h.n, fun j hj => by
    obtain ⟨ad, h1, h2⟩ := h.rd j hj
    exact ⟨ad, h1, h2.sub hM⟩⟩
theorem flRow_at {I : GH} {M : List Blk} {b : Nat} {l : List Fl} (hM : flRow b l ∈ M) : FsAt I M (some ⟨b, 0, none⟩) l.length l :=
  ⟨rfl, fun j hj => ⟨_, rfl, flRow_rd hM hj⟩⟩

theorem Within_spec {I : GH} {M : List Blk} (x y : Fl) : Spec Tryd.prog 33 [x.val, y.val] I M fun v I' M' => v = .bool (within x y) ∧ I' = I ∧ M' = M := by
  obtain ⟨a1, a2, a3⟩ := x
  obtain ⟨b1, b2, b3⟩ := y
  refine spec_of_V [] TrydEOK Tryd.func33 rfl rfl rfl ?_
  intro B h0
  repeat' refine GuardOb.mk (fun h => ?_) (fun h => ?_)
  all_goals refine ⟨_, _, .refl, ?_, rfl, rfl⟩
  all_goals first
    | (refine congrArg Value.bool ?_; simp_all [within]; done)
    | (simp_all [within]; done)

def nodesP (g : Gr) (fl : List Fl) (t : Tr) : Option (List Fl) := bif decide (fl.length = g.n) && (right t && namedOk (placesL g.ds) t.ns) then some (nodesF (placesL g.ds) fl t.ns []) else none

set_option maxHeartbeats 4000000 in
theorem FNodes_spec {I : GH} {M0 : List Blk} {deb : List Int} (hT : Tabs I deb) {g : Gr} (hg : g.ok I) {t : Tr} (ht : t.ok I) {la : Option Addr} {ln lc : Nat} {fl : List Fl} (hfl : FsAt I M0 la ln fl) :
    Spec Tryd.prog 31 [g.val, .slice la ln lc, t.val] I M0 fun v I' M' => (∀ b o, I b = some o → I' b = some o) ∧
      ((nodesP g fl t = none ∧ v = .tuple #[.slice none 0 0, .bool false] ∧ M' = M0) ∨ ∃ r b, nodesP g fl t = some r ∧ v = .tuple #[.slice (some ⟨b, 0, none⟩) t.n t.n, .bool true] ∧ M' = flRow b r :: M0) := by
  refine spec_of_V [] TrydEOK Tryd.func31 rfl rfl rfl ?_
  intro B h0
  have hgn := hg.n
  have htn := ht.n
  have hcap := ht.rs.cap
  have hfn := hfl.n
  refine GuardOb.mk (fun h => ?_) (fun h => ?_)
  rotate_left
  · refine ⟨_, _, .refl, fun _ _ h => h, .inl ⟨?_, rfl, rfl⟩⟩
    have hne : ¬ (ln : Int) = (g.n : Int) := by simpa using h
    have : decide (fl.length = g.n) = false := decide_eq_false (by omega)
    simp [nodesP, this]
  have hln : ln = g.n := by
    have : (ln : Int) = (g.n : Int) := by simpa using h
    omega
  have hd1 : decide (fl.length = g.n) = true := decide_eq_true (by omega)
  refine CallOb.mk [] M0 _ (.refl _) (Right_spec hT.c ht) ?_
  rintro v I1 M1 - ⟨rfl, rfl, rfl⟩
  refine CondOb.mk (fun h => ?_) (fun h => ?_)
  · refine ⟨_, _, .refl, fun _ _ h => h, .inl ⟨?_, rfl, rfl⟩⟩
    have : right t = false := by simpa using h
    simp [nodesP, this]
  have hr : right t = true := by simpa using h
  refine CallOb.mk [] M0 _ (.refl _) (places_spec hg) ?_
  rintro v I2 M2 - ⟨hI2, rfl, gm, rfl, hgm⟩
  have ht2 := ht.mono hI2
  refine LoopOb.inv (ι := Nat) (fun x => { fl := [(1, .val (.slice la ln lc)), (3, .ref 3 0), (5, .ref 5 0), (8, .val (.map (some gm))), (27, .val (.slice t.a t.n t.c)), (28, .val (.int .i64 t.n)), (29, .val (.int .i64 x))], cl := [(3, [.slice g.a g.n g.c]), (5, t.cells)], gi := I2, mi := M0 })
    (fun x => x ≤ t.n ∧ ∀ d ∈ t.ns.take x, (!decide (d.k = 3) || (lookM d.t (placesL g.ds)).isSome) = true) (fun x => t.n - x) ?_ ?_
  · exact ⟨0, ⟨Nat.zero_le _, fun d hd => by simp at hd⟩, .refl, .cons .refl (.cons .refl (.cons .refl (.cons .refl (.cons .refl (.cons .refl (.cons .refl .nil)))))), .cons rfl (.cons rfl .nil)⟩
  rintro i ⟨hi, hnm⟩
  refine CondOb.mk (fun h => ?_) (fun h => ?_)
  · have hlt : i < t.n := by have : (i : Int) < (t.n : Int) := of_decide_eq_true h; omega
    have hlt' : i < t.ns.length := by omega
    obtain ⟨ad, had, hrd⟩ := ht2.rs.row Nd.cells_len hlt hlt'
    have htk : t.ns.take (i + 1) = t.ns.take i ++ [t.ns[i]] := List.take_succ_eq_append_getElem hlt'
    have hmem := List.getElem_mem hlt'
    have next : (!decide (t.ns[i].k = 3) || (lookM t.ns[i].t (placesL g.ds)).isSome) = true → ∀ d ∈ t.ns.take (i + 1), (!decide (d.k = 3) || (lookM d.t (placesL g.ds)).isSome) = true := fun h d hd => by
      rw [htk] at hd
      rcases List.mem_append.1 hd with hd | hd
      · exact hnm d hd
      · simp only [List.mem_singleton] at hd
        rw [hd]
        exact h
    refine IdxOb.mk ad i had rfl hlt ?_
    refine LoadOb.mk _ (hrd _) ?_
    refine CondOb.mk (fun h3 => ?_) (fun h3 => ?_)
    · refine ArithOb.mk _ (next_wr (i := i) (by omega)) ?_
      refine ⟨i + 1, ⟨⟨by omega, next ?_⟩, by omega⟩, .refl, .cons .refl (.cons .refl (.cons .refl (.cons .refl (.cons .refl (.cons .refl (.cons .refl .nil)))))), .cons rfl (.cons rfl .nil)⟩
      rw [show (!decide (t.ns[i].k = 3)) = true from h3]
      rfl
    · refine OtherOb.lookupT TrydEOK rfl (by simp) rfl rfl rfl rfl (fun w => zero_int w) (l := placesL g.ds) (g := gm) rfl rfl (.inl hgm) ?_
      refine CondOb.mk (fun h4 => ?_) (fun h4 => ?_)
      · refine ⟨_, _, .refl, hI2, .inl ⟨?_, rfl, rfl⟩⟩
        have h5 : namedOk (placesL g.ds) t.ns = false := by
          rw [namedOk, List.all_eq_false]
          refine ⟨_, hmem, ?_⟩
          have h6 : (lookM t.ns[i].t (placesL g.ds)).isSome = false := by simpa using h4
          rw [h6, show (!decide (t.ns[i].k = 3)) = false from h3]
          simp
        simp [nodesP, h5]
      · refine ArithOb.mk _ (next_wr (i := i) (by omega)) ?_
        refine ⟨i + 1, ⟨⟨by omega, next ?_⟩, by omega⟩, .refl, .cons .refl (.cons .refl (.cons .refl (.cons .refl (.cons .refl (.cons .refl (.cons .refl .nil)))))), .cons rfl (.cons rfl .nil)⟩
        have h6 : (lookM t.ns[i].t (placesL g.ds)).isSome = true := by simpa using h4
        rw [h6]
        simp
  have hge : i = t.n := by have : ¬ (i : Int) < (t.n : Int) := of_decide_eq_false h; omega
  rw [List.take_of_length_le (by omega)] at hnm
  have hno : namedOk (placesL g.ds) t.ns = true := List.all_eq_true.2 hnm
  have hca := called_of hno
  rw [hgn, ← hln] at hca
  refine CallOb.mk M0 [] _ perm_nil (fnodes_spec ht2 hr hgm (hfl.mono hI2) hca) ?_
  rintro v I3 M3 - ⟨rfl, b, rfl, rfl⟩
  rw [List.append_nil]
  exact ⟨_, _, .refl, hI2, .inr ⟨_, b, by rw [nodesP, hd1, hr, hno]; rfl, rfl, rfl⟩⟩

def treeP (g : Gr) (fl : List Fl) (t : Tr) : Option Fl := (nodesP g fl t).map fun r => r.getD t.root.toNat fl0
theorem nodesP_len {g : Gr} {fl : List Fl} {t : Tr} {r : List Fl} (h : nodesP g fl t = some r) : right t = true ∧ r.length = t.ns.length := by
  unfold nodesP at h
  cases hb : decide (fl.length = g.n) && (right t && namedOk (placesL g.ds) t.ns) with
  | false => rw [hb] at h; cases h
  | true =>
    rw [hb] at h
    simp only [cond_true, Option.some.injEq] at h
    simp only [Bool.and_eq_true] at hb
    refine ⟨hb.2.1, ?_⟩
    rw [← h, nodesF_len]
    simp

theorem FTree_spec {I : GH} {M0 : List Blk} {deb : List Int} (hT : Tabs I deb) {g : Gr} (hg : g.ok I) {t : Tr} (ht : t.ok I) {la : Option Addr} {ln lc : Nat} {fl : List Fl} (hfl : FsAt I M0 la ln fl) :
    Spec Tryd.prog 30 [g.val, .slice la ln lc, t.val] I M0 fun v I' M' => (∀ b o, I b = some o → I' b = some o) ∧ M' = M0 ∧
      v = .tuple #[((treeP g fl t).getD fl0).val, .bool (treeP g fl t).isSome] := by
  refine spec_of_V [] TrydEOK Tryd.func30 rfl rfl rfl ?_
  intro B h0
  have htn := ht.n
  refine CallOb.mk M0 [] _ perm_nil (FNodes_spec hT hg ht hfl) ?_
  rintro v I1 M1 - ⟨hI1, ⟨hn, rfl, rfl⟩ | ⟨r, b, hn, rfl, rfl⟩⟩
  · rw [List.append_nil]
    refine CondOb.mk (fun _ => ?_) (fun h => by simp at h)
    exact ⟨_, _, .refl, hI1, rfl, by rw [treeP, hn]; rfl⟩
  · obtain ⟨hr, hrl⟩ := nodesP_len hn
    have hroot := right_root hr
    rw [List.append_nil]
    refine CondOb.mk (fun h => by simp at h) (fun _ => ?_)
    have hrl' : t.root.toNat < r.length := by omega
    refine IdxOb.mk ⟨b, 0, none⟩ t.root.toNat rfl (by omega) (by omega) ?_
    refine LoadOb.mk _ (flRow_rd (.head _) hrl') ?_
    refine ⟨_, M0, .sub (.cons _ (.refl _)) .refl, hI1, rfl, ?_⟩
    rw [treeP, hn]
    simp only [Option.map_some, Option.getD_some, Option.isSome_some, List.getD_eq_getElem?_getD, List.getElem?_eq_getElem hrl']
    rfl

/-! ### Of -/
/-- What is known of a grammar that may be. -/
structure MayF (g : Gr) : Prop where
  n : g.ds.length = g.n
  right : ∀ d ∈ g.ds, right d.t = true
  named : ∀ d ∈ g.ds, namedOk (placesL g.ds) d.t.ns = true
theorem mayF_of {deb : List Int} {g : Gr} (hn : g.ds.length = g.n) (h : mayG deb g = 0) : MayF g := by
  refine ⟨hn, fun d hd => ?_, may_named h⟩
  have := List.all_eq_true.1 (may_ok h) d hd
  simp only [normal, Bool.and_eq_true] at this
  exact this.2.1
def ofM (b6 gm b5 bl b1 : Nat) (g : Gr) (l : List Fl) : List Blk := [⟨b6, .cells #[.map (some gm)] 83 (0, 0)⟩, ⟨b5, .cells #[.slice (some ⟨bl, 0, none⟩) g.n g.n] 56 (0, 0)⟩, flRow bl l, ⟨b1, .cells #[.slice g.a g.n g.c] 38 (0, 0)⟩]

theorem perm_at2 {α : Type} (a b c d : α) : [a, b, c, d].Perm ([c] ++ [a, b, d]) := List.perm_middle (l₁ := [a, b]) (l₂ := [d])
theorem perm_at3 {α : Type} (x a b c d : α) : [x, a, b, c, d].Perm ([c] ++ [x, a, b, d]) := List.perm_middle (l₁ := [x, a, b]) (l₂ := [d])
theorem blk_rd0 {I : GH} {M : List Blk} {b : Nat} {f : Fl} (hM : (⟨b, .cells f.cells.toArray 55 (0, 0)⟩ : Blk) ∈ M) : Rd I M (⟨b, 0, none⟩ : Addr) 3 f.cells := ⟨rfl, _, _, _, .inr ⟨_, hM, rfl, rfl⟩, rfl, rfl⟩
theorem ble_row {l : List Fl} {i : Nat} (hi : i < l.length) {x : Fl} : Nat.ble (0 + i * 3 + x.cells.length) (l.flatMap Fl.cells).length = true := by
  rw [Nat.ble_eq, fl_len, Fl.cells_len]
  omega
theorem StoreOb.to {M : List Blk} {a : Addr} {vs : List Value} {K : List Blk → Prop} (pre post : List Blk) (cs : Array Value) (T : Nat) (hM : M = pre ++ ⟨a.block, .cells cs T (0, 0)⟩ :: post) (hs : a.spot = none) (hb : Nat.ble (a.off + vs.length) cs.size = true) (h1 : allOne vs = true)
    (cs' : List Value) (he : splice cs.toList a.off vs = cs') (k : K (pre ++ ⟨a.block, .cells cs'.toArray T (0, 0)⟩ :: post)) : StoreOb M a vs K :=
  ⟨pre, post, cs, T, hM, hs, Nat.le_of_ble_eq_true hb, h1, by rw [he]; exact k⟩
set_option maxRecDepth 100000 in
set_option maxHeartbeats 8000000 in
theorem Of1_spec {I : GH} {g : Gr} (hg : g.ok I) (hm : MayF g) {b6 gm b5 bl b1 : Nat} (hgm : I gm = some (mapO (placesL g.ds))) {l0 : List Fl} (hl0 : PreF g.ds l0) :
    Spec Tryd.prog 50 [ptr b1, ptr b6, ptr b5] I (ofM b6 gm b5 bl b1 g l0) fun v I' M' => v = .bool (decide (roundGo (placesL g.ds) 0 g.ds l0 ≠ l0)) ∧ I' = I ∧ M' = ofM b6 gm b5 bl b1 g (roundGo (placesL g.ds) 0 g.ds l0) := by
  refine spec_of_V [] TrydEOK Tryd.func50 rfl rfl rfl ?_
  intro B h0
  have hgn := hg.n
  have hcap := hg.rs.cap
  have rd1 : ∀ {M : List Blk}, (⟨b1, .cells #[.slice g.a g.n g.c] 38 (0, 0)⟩ : Blk) ∈ M → Rd I M ((⟨b1, 0, none⟩ : Addr).add 0) 1 [.slice g.a g.n g.c] := fun hM => blk_rd (cs := [.slice g.a g.n g.c]) (k := 0) (n := 1) hM (by simp)
  have rd6 : ∀ {M : List Blk}, (⟨b6, .cells #[.map (some gm)] 83 (0, 0)⟩ : Blk) ∈ M → Rd I M (⟨b6, 0, none⟩ : Addr) 1 [.map (some gm)] := fun hM => ⟨rfl, _, _, _, .inr ⟨_, hM, rfl, rfl⟩, rfl, rfl⟩
  have rd5 : ∀ {M : List Blk}, (⟨b5, .cells #[.slice (some ⟨bl, 0, none⟩) g.n g.n] 56 (0, 0)⟩ : Blk) ∈ M → Rd I M (⟨b5, 0, none⟩ : Addr) 1 [.slice (some ⟨bl, 0, none⟩) g.n g.n] := fun hM => ⟨rfl, _, _, _, .inr ⟨_, hM, rfl, rfl⟩, rfl, rfl⟩
  refine LoadOb.mk _ (rd1 (by simp [ofM])) ?_
  refine LoopOb.inv (ι := Nat × List Fl) (fun x => { fl := [(0, .val (ptr b1)), (1, .val (ptr b6)), (2, .val (ptr b5)), (4, .val (.bool (decide (x.2 ≠ l0)))), (9, .val (.slice g.a g.n g.c)), (10, .val (.int .i64 g.n)), (11, .val (.int .i64 x.1))], gi := I, mi := ofM b6 gm b5 bl b1 g x.2 })
    (fun x => x.1 ≤ g.n ∧ PreF g.ds x.2 ∧ LeL l0 x.2 ∧ roundGo (placesL g.ds) 0 g.ds l0 = roundGo (placesL g.ds) x.1 (g.ds.drop x.1) x.2) (fun x => g.n - x.1) ?_ ?_
  · refine ⟨(0, l0), ⟨Nat.zero_le _, hl0, LeL.refl _, rfl⟩, .refl, .cons .refl (.cons .refl (.cons .refl (.cons ?_ (.cons .refl (.cons .refl (.cons .refl .nil)))))), .nil⟩
    exact sv_lit (by simp)
  rintro ⟨i, l⟩ ⟨hi, hP, hle, hgo⟩
  simp only at hi hP hle hgo
  have hll := hP.len
  refine CondOb.mk (fun h => ?_) (fun h => ?_)
  rotate_left
  · have hge : i = g.n := by have : ¬ (i : Int) < (g.n : Int) := of_decide_eq_false h; omega
    rw [List.drop_eq_nil_of_le (by omega), roundGo] at hgo
    exact ⟨_, _, .refl, by rw [hgo], rfl, by rw [hgo]⟩
  have hlt : i < g.n := by have : (i : Int) < (g.n : Int) := of_decide_eq_true h; omega
  have hlt' : i < g.ds.length := by omega
  have hil : i < l.length := by omega
  obtain ⟨ad, had, hrd⟩ := hg.rs.row Df.cells_len hlt hlt'
  have hdm := List.getElem_mem hlt'
  have hd := hg.ds _ hdm
  have hr := hm.right _ hdm
  have hca := called_of (hm.named _ hdm)
  rw [show g.ds.length = l.length from hll.symm] at hca
  obtain ⟨hP', hle'⟩ := hP.step hlt'
  have hgo' : roundGo (placesL g.ds) 0 g.ds l0 = roundGo (placesL g.ds) (i + 1) (g.ds.drop (i + 1)) (l.set i (bodyF (placesL g.ds) l g.ds[i])) := by
    rw [hgo, List.drop_eq_getElem_cons hlt', roundGo]
  have hbody : bodyF (placesL g.ds) l g.ds[i] = (nodesF (placesL g.ds) l g.ds[i].t.ns []).getD g.ds[i].t.root.toNat fl0 := rfl
  generalize bodyF (placesL g.ds) l g.ds[i] = f at hP' hle' hgo' hbody
  generalize g.ds[i] = d at hrd hd hr hca hbody
  have hroot := right_root hr
  have htn := hd.t.n
  have hnl := nodesF_len (placesL g.ds) l d.t.ns []
  simp only [List.length_nil, Nat.zero_add] at hnl
  have hrl : d.t.root.toNat < (nodesF (placesL g.ds) l d.t.ns []).length := by omega
  have hfe : (nodesF (placesL g.ds) l d.t.ns [])[d.t.root.toNat] = f := by
    rw [hbody]
    simp [List.getD_eq_getElem?_getD, hrl]
  have hspec := fnodes_spec (M0 := [flRow bl l]) (ln := l.length) (lc := g.n) hd.t hr hgm (flRow_at (I := I) (List.mem_singleton.2 rfl)) hca
  rw [show l.length = g.n by omega] at hspec
  refine IdxOb.mk ad i had rfl hlt ?_
  refine LoadOb.mk _ (hrd _) ?_
  have hlf : l.getD i fl0 = l[i] := by simp [List.getD_eq_getElem?_getD, hil]
  have more : (!decide (f = l[i])) = true → decide (l.set i f ≠ l0) = true := fun h => by
    have hne : f ≠ l[i] := by simpa using h
    rw [decide_eq_true_eq]
    intro e
    have e2 : l.set i f = l := by
      refine LeL.antisymm ?_ hle'
      rw [e]
      exact hle
    have h3 := set_getD l i i f hil
    rw [e2, if_pos rfl, hlf] at h3
    exact hne h3.symm
  have same : (!decide (f = l[i])) = false → l.set i f = l := fun h => by
    have he : f = l[i] := by simpa using h
    rw [he]
    exact List.set_getElem_self hil
  refine CodeOb.draw TrydEOK rfl rfl rfl ?_
  refine LoadOb.mk _ (rd6 (by simp [ofM])) ?_
  refine LoadOb.mk _ (rd5 (by simp [ofM])) ?_
  refine ⟨?_, ?_⟩
  · refine PCallOb.mkR [flRow bl l] [⟨b6, .cells #[.map (some gm)] 83 (0, 0)⟩, ⟨b5, .cells #[.slice (some ⟨bl, 0, none⟩) g.n g.n] 56 (0, 0)⟩, ⟨b1, .cells #[.slice g.a g.n g.c] 38 (0, 0)⟩] _ (perm_at2 ..) hspec (fun v I' M' h x hx => by obtain ⟨-, b, -, rfl⟩ := h; exact .tail _ hx) ?_
    rintro v I2 M2 - ⟨rfl, b, rfl, rfl⟩
    refine IdxOb.mk ⟨b, 0, none⟩ d.t.root.toNat rfl (by omega) (by omega) ?_
    refine LoadOb.mk _ (flRow_rd (.head _) hrl) ?_
    rw [hfe]
    refine AllocOb.mk fun b7 hb7 hbM7 => ?_
    refine StoreOb.to [] [flRow b (nodesF (placesL g.ds) l d.t.ns []), flRow bl l, ⟨b6, .cells #[.map (some gm)] 83 (0, 0)⟩, ⟨b5, .cells #[.slice (some ⟨bl, 0, none⟩) g.n g.n] 56 (0, 0)⟩, ⟨b1, .cells #[.slice g.a g.n g.c] 38 (0, 0)⟩] _ _ rfl rfl rfl rfl f.cells rfl ?_
    refine CodeOb.draw TrydEOK rfl rfl rfl ?_
    refine LoadOb.mk f.cells (blk_rd0 (by simp)) ?_
    refine LoadOb.mk _ (rd5 (by simp)) ?_
    refine IdxOb.mk ⟨bl, 0, none⟩ i rfl rfl hlt ?_
    refine LoadOb.mk _ (flRow_rd (by simp) hil) ?_
    refine BinOb.neF (p := f) (q := l[i]) ?_
    refine CondOb.mk (fun h => ?_) (fun h => ?_)
    · refine LoadOb.mk _ (rd5 (by simp)) ?_
      refine LoadOb.mk f.cells (blk_rd0 (by simp)) ?_
      refine IdxOb.mk ⟨bl, 0, none⟩ i rfl rfl hlt ?_
      refine StoreOb.addTo [(⟨b7, .cells f.cells.toArray 55 (0, 0)⟩ : Blk), flRow b (nodesF (placesL g.ds) l d.t.ns [])] [⟨b6, .cells #[.map (some gm)] 83 (0, 0)⟩, ⟨b5, .cells #[.slice (some ⟨bl, 0, none⟩) g.n g.n] 56 (0, 0)⟩, ⟨b1, .cells #[.slice g.a g.n g.c] 38 (0, 0)⟩] (l.flatMap Fl.cells) _ rfl (ble_row hil) rfl ((l.set i f).flatMap Fl.cells) (by rw [Nat.zero_add]; exact flRow_set l i hil f) ?_
      refine ArithOb.mk _ (next_wr (i := i) (by omega)) ?_
      refine ⟨(i + 1, l.set i f), ⟨⟨by simp only; omega, hP', hle.trans hle', hgo'⟩, by simp only; omega⟩, .sub (M1 := [flRow bl (l.set i f), ⟨b6, .cells #[.map (some gm)] 83 (0, 0)⟩, ⟨b5, .cells #[.slice (some ⟨bl, 0, none⟩) g.n g.n] 56 (0, 0)⟩, ⟨b1, .cells #[.slice g.a g.n g.c] 38 (0, 0)⟩]) (by exact .cons _ (.cons _ (.refl _))) (.perm (perm_at2 ..).symm .refl), .cons .refl (.cons .refl (.cons .refl (.cons (sv_lit (more h).symm) (.cons .refl (.cons .refl (.cons .refl .nil)))))), .nil⟩
    · have he : l.set i f = l := same h
      rw [he] at hgo'
      refine ArithOb.mk _ (next_wr (i := i) (by omega)) ?_
      exact ⟨(i + 1, l), ⟨⟨by simp only; omega, hP, hle, hgo'⟩, by simp only; omega⟩, .sub (M1 := [flRow bl l, ⟨b6, .cells #[.map (some gm)] 83 (0, 0)⟩, ⟨b5, .cells #[.slice (some ⟨bl, 0, none⟩) g.n g.n] 56 (0, 0)⟩, ⟨b1, .cells #[.slice g.a g.n g.c] 38 (0, 0)⟩]) (by exact .cons _ (.cons _ (.refl _))) (.perm (perm_at2 ..).symm .refl), .cons .refl (.cons .refl (.cons .refl (.cons .refl (.cons .refl (.cons .refl (.cons .refl .nil)))))), .nil⟩
  · refine AllocOb.mk fun b7 hb7 hbM7 => ?_
    refine PCallOb.mkR [flRow bl l] [(⟨b7, .cells fl0.cells.toArray 55 (0, 0)⟩ : Blk), ⟨b6, .cells #[.map (some gm)] 83 (0, 0)⟩, ⟨b5, .cells #[.slice (some ⟨bl, 0, none⟩) g.n g.n] 56 (0, 0)⟩, ⟨b1, .cells #[.slice g.a g.n g.c] 38 (0, 0)⟩] _ (perm_at3 ..) hspec (fun v I' M' h x hx => by obtain ⟨-, b, -, rfl⟩ := h; exact .tail _ hx) ?_
    rintro v I2 M2 - ⟨rfl, b, rfl, rfl⟩
    refine IdxOb.mk ⟨b, 0, none⟩ d.t.root.toNat rfl (by omega) (by omega) ?_
    refine LoadOb.mk _ (flRow_rd (.head _) hrl) ?_
    rw [hfe]
    refine StoreOb.to [flRow b (nodesF (placesL g.ds) l d.t.ns []), flRow bl l] [⟨b6, .cells #[.map (some gm)] 83 (0, 0)⟩, ⟨b5, .cells #[.slice (some ⟨bl, 0, none⟩) g.n g.n] 56 (0, 0)⟩, ⟨b1, .cells #[.slice g.a g.n g.c] 38 (0, 0)⟩] _ _ rfl rfl rfl rfl f.cells rfl ?_
    refine CodeOb.draw TrydEOK rfl rfl rfl ?_
    refine LoadOb.mk f.cells (blk_rd0 (by simp)) ?_
    refine LoadOb.mk _ (rd5 (by simp)) ?_
    refine IdxOb.mk ⟨bl, 0, none⟩ i rfl rfl hlt ?_
    refine LoadOb.mk _ (flRow_rd (by simp) hil) ?_
    refine BinOb.neF (p := f) (q := l[i]) ?_
    refine CondOb.mk (fun h => ?_) (fun h => ?_)
    · refine LoadOb.mk _ (rd5 (by simp)) ?_
      refine LoadOb.mk f.cells (blk_rd0 (by simp)) ?_
      refine IdxOb.mk ⟨bl, 0, none⟩ i rfl rfl hlt ?_
      refine StoreOb.addTo [flRow b (nodesF (placesL g.ds) l d.t.ns [])] [(⟨b7, .cells f.cells.toArray 55 (0, 0)⟩ : Blk), ⟨b6, .cells #[.map (some gm)] 83 (0, 0)⟩, ⟨b5, .cells #[.slice (some ⟨bl, 0, none⟩) g.n g.n] 56 (0, 0)⟩, ⟨b1, .cells #[.slice g.a g.n g.c] 38 (0, 0)⟩] (l.flatMap Fl.cells) _ rfl (ble_row hil) rfl ((l.set i f).flatMap Fl.cells) (by rw [Nat.zero_add]; exact flRow_set l i hil f) ?_
      refine ArithOb.mk _ (next_wr (i := i) (by omega)) ?_
      refine ⟨(i + 1, l.set i f), ⟨⟨by simp only; omega, hP', hle.trans hle', hgo'⟩, by simp only; omega⟩, .sub (M1 := [flRow bl (l.set i f), ⟨b6, .cells #[.map (some gm)] 83 (0, 0)⟩, ⟨b5, .cells #[.slice (some ⟨bl, 0, none⟩) g.n g.n] 56 (0, 0)⟩, ⟨b1, .cells #[.slice g.a g.n g.c] 38 (0, 0)⟩]) (by exact .cons _ (.cons_cons _ (.cons _ (.refl _)))) (.perm (perm_at2 ..).symm .refl), .cons .refl (.cons .refl (.cons .refl (.cons (sv_lit (more h).symm) (.cons .refl (.cons .refl (.cons .refl .nil)))))), .nil⟩
    · have he : l.set i f = l := same h
      rw [he] at hgo'
      refine ArithOb.mk _ (next_wr (i := i) (by omega)) ?_
      exact ⟨(i + 1, l), ⟨⟨by simp only; omega, hP, hle, hgo'⟩, by simp only; omega⟩, .sub (M1 := [flRow bl l, ⟨b6, .cells #[.map (some gm)] 83 (0, 0)⟩, ⟨b5, .cells #[.slice (some ⟨bl, 0, none⟩) g.n g.n] 56 (0, 0)⟩, ⟨b1, .cells #[.slice g.a g.n g.c] 38 (0, 0)⟩]) (by exact .cons _ (.cons_cons _ (.cons _ (.refl _)))) (.perm (perm_at2 ..).symm .refl), .cons .refl (.cons .refl (.cons .refl (.cons .refl (.cons .refl (.cons .refl (.cons .refl .nil)))))), .nil⟩

set_option maxHeartbeats 4000000 in
theorem FOf_spec {I : GH} {deb : List Int} (hT : Tabs I deb) {g : Gr} (hg : g.ok I) : Spec Tryd.prog 32 [g.val] I [] fun v I' M' => (∀ b o, I b = some o → I' b = some o) ∧
    ((mayG deb g ≠ 0 ∧ v = .tuple #[.slice none 0 0, .int .i64 (mayG deb g)] ∧ M' = []) ∨ (mayG deb g = 0 ∧ ∃ b l, v = .tuple #[.slice (some ⟨b, 0, none⟩) g.n g.n, .int .i64 0] ∧ M' = [flRow b l] ∧ IsFlow g.ds l)) := by
  refine spec_of_V [1, 5, 6] TrydEOK Tryd.func32 rfl rfl rfl ?_
  intro B h0
  have hgn := hg.n
  have hcap := hg.rs.cap
  refine AllocOb.mk fun b1 hb1 hbM1 => ?_
  refine LoadOb.mk [.slice g.a g.n g.c] ⟨rfl, _, _, _, .inr ⟨_, .head _, rfl, rfl⟩, rfl, rfl⟩ ?_
  refine CallOb.mk [] [⟨b1, .cells #[.slice g.a g.n g.c] 38 (0, 0)⟩] _ (.refl _) (May_spec hT hg) ?_
  rintro v I1 M1 - ⟨rfl, hI1, rfl⟩
  refine CondOb.mk (fun h => ?_) (fun h => ?_)
  · have hm : mayG deb g ≠ 0 := by simpa using h
    exact ⟨_, _, .sub (List.nil_sublist _) .refl, hI1, .inl ⟨hm, rfl, rfl⟩⟩
  have hm : mayG deb g = 0 := by simpa using h
  have hM := mayF_of hgn hm
  refine LoadOb.mk _ (blk_rd (b := b1) (cs := [.slice g.a g.n g.c]) (k := 0) (n := 1) (T := 38) (.head _) (by simp)) ?_
  refine MakeOb.mk g.n g.n rfl rfl (Nat.le_refl _) (by show 3 * g.n ≤ _; omega) (by omega) ?_
  refine AllocOb.mk fun bl hbl hbMl => ?_
  have e : rowOf fl0.cells (g.n * 3) = (List.replicate g.ds.length fl0).flatMap Fl.cells := by rw [hgn]; exact rowOf_fl g.n
  refine AllocOb.mk fun b5 hb5 hbM5 => ?_
  refine StoreOb.to [] _ _ _ rfl rfl rfl rfl [.slice (some ⟨bl, 0, none⟩) g.n g.n] rfl ?_
  refine LoadOb.mk [.slice g.a g.n g.c] ⟨rfl, _, _, _, .inr ⟨_, .tail _ (.tail _ (.head _)), rfl, rfl⟩, rfl, rfl⟩ ?_
  refine CallOb.mk [] _ _ (.refl _) (places_spec (hg.mono hI1)) ?_
  rintro v I2 M2 - ⟨hI2, rfl, gm, rfl, hgm⟩
  refine AllocOb.mk fun b6 hb6 hbM6 => ?_
  refine StoreOb.to [] _ _ _ rfl rfl rfl rfl [.map (some gm)] rfl ?_
  refine LoopOb.inv (ι := List Fl) (fun l => { fl := [(5, .val (ptr b5)), (7, .val (.func (.func 50) #[] #[ptr b1, ptr b6, ptr b5]))], gi := I2, mi := ofM b6 gm b5 bl b1 g l }) (PreF g.ds) offs ?_ ?_
  · refine ⟨List.replicate g.ds.length fl0, .start g.ds, ?_, .cons .refl (.cons .refl .nil), .nil⟩
    simp only [ofM, flRow]
    rw [← e]
    exact .refl
  intro l hl
  refine CallOb.mk (ofM b6 gm b5 bl b1 g l) [] _ (.refl _) (Of1_spec ((hg.mono hI1).mono hI2) hM hgm hl) ?_
  rintro v I3 M3 - ⟨rfl, rfl, rfl⟩
  obtain ⟨r1, r2, -⟩ := roundGo_pre g.ds [] rfl hl
  refine CondOb.mk (fun h => ?_) (fun h => ?_)
  · exact ⟨_, ⟨r1, offs_lt r2 (of_decide_eq_true h)⟩, .refl, .cons .refl (.cons .refl .nil), .nil⟩
  · have hf : roundGo (placesL g.ds) 0 g.ds l = l := by
      have := of_decide_eq_false h
      exact Classical.not_not.1 this
    rw [hf]
    refine LoadOb.mk [.slice (some ⟨bl, 0, none⟩) g.n g.n] ⟨rfl, _, _, _, .inr ⟨_, .tail _ (.head _), rfl, rfl⟩, rfl, rfl⟩ ?_
    refine ⟨I3, [flRow bl l], .sub (.cons _ (.cons _ (.cons_cons _ (List.nil_sublist _)))) .refl, fun b o h => hI2 _ _ (hI1 _ _ h), .inr ⟨hm, bl, l, rfl, rfl, hl.done hf⟩⟩
end Go.V

/-
  Plain: what is told of trees and grammars hangs on what they hold, not on where it lies. No program in sight.
-/
set_option linter.unusedVariables false
set_option linter.unusedSimpArgs false
namespace Go.V
open Go

def Tr.ct (t : Tr) : Tr := ⟨t.ns.map Nd.ct, none, t.n, 0, t.root⟩
def Df.ct (d : Df) : Df := ⟨d.name, d.t.ct⟩
def Gr.ct (g : Gr) : Gr := ⟨g.ds.map Df.ct, none, g.n, 0⟩

theorem nodesOk_ct : ∀ (ds : List Nd) (i : Nat) (s : List Bool), nodesOk i (ds.map Nd.ct) s = nodesOk i ds s
  | [], i, s => rfl
  | d :: ds, i, s => by
    have h : ∀ s', nodesOk (i + 1) (ds.map Nd.ct) s' = nodesOk (i + 1) ds s' := fun s' => nodesOk_ct ds (i + 1) s'
    rw [List.map_cons, nodesOk, nodesOk]
    simp only [h]
    rfl
theorem right_ct (t : Tr) : right t.ct = right t := by
  unfold right Tr.ct
  simp only [nodesOk_ct, List.length_map]
theorem kindAt_ct (ns : List Nd) (k : Int) : kindAt (ns.map Nd.ct) k = kindAt ns k := by
  unfold kindAt
  rw [List.map_map]
  rfl
theorem normKids_ct (ns : List Nd) (kind : Int) : ∀ ks, normKids (ns.map Nd.ct) kind ks = normKids ns kind ks
  | [] => rfl
  | k :: ks => by rw [normKids, normKids, kindAt_ct, normKids_ct ns kind ks]
theorem normNodes_ct (ns : List Nd) : ∀ ds : List Nd, normNodes (ns.map Nd.ct) (ds.map Nd.ct) = normNodes ns ds
  | [] => rfl
  | d :: ds => by
    have h := normKids_ct ns d.k d.kids
    rw [List.map_cons, normNodes, normNodes, normNodes_ct ns ds]
    show (bif !decide (d.k = 4) && !decide (d.k = 5) then normNodes ns ds else bif normKids (ns.map Nd.ct) d.k d.kids then normNodes ns ds else false) = _
    rw [h]
theorem normal_ct (t : Tr) : normal t.ct = normal t := by
  unfold normal
  rw [right_ct]
  congr 1
  exact normNodes_ct t.ns t.ns
theorem depthsFrom_ct : ∀ (ds : List Nd) (i : Nat) (dp : List Int), depthsFrom i (ds.map Nd.ct) dp = depthsFrom i ds dp
  | [], i, dp => rfl
  | d :: ds, i, dp => by
    rw [List.map_cons, depthsFrom, depthsFrom, depthsFrom_ct ds]
    rfl
theorem depth_ct (t : Tr) : depth t.ct = depth t := by
  unfold depth
  rw [right_ct]
  simp only [Tr.ct, depthsFrom_ct, List.length_map]
theorem mayTree_ct (t : Tr) : mayTree t.ct = mayTree t := by
  unfold mayTree
  rw [right_ct, depth_ct]
  rfl
theorem tab_ct {α : Type} {z : α} {f g : Nd → (Int → α) → α} (h : ∀ d q, f d.ct q = g d q) : ∀ (ds : List Nd) (acc : List α), tab z f (ds.map Nd.ct) acc = tab z g ds acc
  | [], acc => rfl
  | d :: ds, acc => by rw [List.map_cons, tab, tab, h, tab_ct h ds]
theorem textOf_ct (deb : List Int) (ns : List Nd) (k : Int) : textOf deb (ns.map Nd.ct) k = textOf deb ns k := by
  unfold textOf tabOf
  rw [tab_ct (g := nodeT deb ns) (fun d q => ?_)]
  show aheadB deb d ++ (kidsT (sepOf d) (fun k => paren (wrapsV d.k (kindAt (ns.map Nd.ct) k)) (q k)) false d.kids ++ behindB d) = _
  simp only [kindAt_ct]
  rfl
theorem treeB_ct (deb : List Int) (t : Tr) : treeB deb t.ct = treeB deb t := by
  unfold treeB
  rw [right_ct]
  have : textOf deb t.ct.ns t.ct.root = textOf deb t.ns t.root := textOf_ct deb t.ns t.root
  rw [this]
theorem defB_ct (deb : List Int) (d : Df) : defB deb d.ct = defB deb d := by
  unfold defB
  have : treeB deb d.ct.t = treeB deb d.t := treeB_ct deb d.t
  rw [this]
  rfl
theorem gramB_ct (deb : List Int) : ∀ (ds : List Df) (acc : List UInt8), gramB deb (ds.map Df.ct) acc = gramB deb ds acc
  | [], acc => rfl
  | d :: ds, acc => by rw [List.map_cons, gramB, gramB, defB_ct, gramB_ct deb ds]
theorem nodesG_ct (g : Gr) : nodesG g.ct = nodesG g := by
  unfold nodesG Gr.ct
  rw [List.map_map]
  congr 1
  refine List.map_congr_left fun d _ => ?_
  show sizeT d.t.ct = sizeT d.t
  unfold sizeT
  rw [right_ct]
  rfl
theorem all_ct {q : Df → Bool} (h : ∀ d, q d.ct = q d) (ds : List Df) : (ds.map Df.ct).all q = ds.all q := by
  rw [List.all_map]
  congr 1
  funext d
  exact h d
theorem largeG_ct (deb : List Int) (g : Gr) : largeG deb g.ct = largeG deb g := by
  unfold largeG
  rw [nodesG_ct]
  have h1 : (g.ct.ds.all fun d => mayTree d.t) = g.ds.all fun d => mayTree d.t := all_ct (fun d => mayTree_ct d.t) g.ds
  have h2 : gramB deb g.ct.ds [] = gramB deb g.ds [] := gramB_ct deb g.ds []
  rw [h1, h2]
  rfl
theorem okDefs_ct (ds : List Df) : okDefs (ds.map Df.ct) = okDefs ds := all_ct (q := fun d => mayName d.name && normal d.t) (fun d => by
  show (mayName d.name && normal d.t.ct) = _
  rw [normal_ct]) ds
theorem dups_ct : ∀ (ds : List Df) (acc : List (ByteArray × Int)) (i : Nat), dups acc i (ds.map Df.ct) = dups acc i ds
  | [], acc, i => rfl
  | d :: ds, acc, i => by
    rw [List.map_cons, dups, dups]
    show (bif (lookM d.name acc).isSome then none else dups (acc ++ [(d.name, (i : Int))]) (i + 1) (ds.map Df.ct)) = _
    rw [dups_ct ds]
theorem pairs_ct : ∀ (ds : List Df) (i : Nat), nodePairs i (ds.map Df.ct) = (nodePairs i ds).map fun p => (p.1, p.2.ct)
  | [], i => rfl
  | d :: ds, i => by
    rw [List.map_cons, nodePairs, nodePairs, pairs_ct ds, List.map_append, List.map_map]
    show (d.t.ns.map Nd.ct).map (fun n => (i, n)) ++ _ = _
    rw [List.map_map]
    rfl
theorem allNamed_ct (acc : List (ByteArray × Int)) (ds : List Df) : allNamed acc (ds.map Df.ct) = allNamed acc ds := by
  unfold allNamed
  rw [pairs_ct, List.all_map]
  rfl
theorem mayG_ct (deb : List Int) (g : Gr) : mayG deb g.ct = mayG deb g := by
  unfold mayG
  rw [largeG_ct]
  have h1 : okDefs g.ct.ds = okDefs g.ds := okDefs_ct g.ds
  have h2 : dups [] 0 g.ct.ds = dups [] 0 g.ds := dups_ct g.ds [] 0
  have h3 : ∀ acc, allNamed acc g.ct.ds = allNamed acc g.ds := fun acc => allNamed_ct acc g.ds
  rw [h1, h2]
  simp only [h3]
  rfl

/-! ### Subtrees -/
theorem nodeAt_ct (ns : List Nd) (j : Nat) : (nodeAt (ns.map Nd.ct) j).ct = (nodeAt ns j).ct := by
  unfold nodeAt
  simp only [List.getD_eq_getElem?_getD, List.getElem?_map]
  cases ns[j]? <;> rfl
theorem kids_ct (ns : List Nd) (j : Nat) : (nodeAt (ns.map Nd.ct) j).kids = (nodeAt ns j).kids := by
  have h := congrArg Nd.kids (nodeAt_ct ns j)
  exact h
theorem backGo_ct (ns : List Nd) : ∀ (f : Nat) (todo b : List Int), backGo (ns.map Nd.ct) f todo b = backGo ns f todo b
  | 0, todo, b => rfl
  | f + 1, todo, b => by
    unfold backGo
    cases todo.getLast? with
    | none => rfl
    | some n =>
      simp only
      rw [kids_ct, backGo_ct ns f]
theorem withKids_ct (d : Nd) (l : List Int) : d.ct.withKids l = d.withKids l := rfl
theorem subStep_ct (ns : List Nd) : subStep (ns.map Nd.ct) = subStep ns := by
  funext st b
  unfold subStep
  rw [kids_ct, ← withKids_ct (nodeAt (ns.map Nd.ct) b.toNat), nodeAt_ct, withKids_ct]
theorem subC_ct (ns : List Nd) (node : Int) : subC (ns.map Nd.ct) node = subC ns node := by
  unfold subC backOf
  rw [subStep_ct, backGo_ct, List.length_map]

/-! ### Flows -/
theorem nodesF_ct (pl : List (ByteArray × Int)) (fl : List Fl) : ∀ (ds : List Nd) (acc : List Fl), nodesF pl fl (ds.map Nd.ct) acc = nodesF pl fl ds acc
  | [], acc => rfl
  | d :: ds, acc => by
    rw [List.map_cons, nodesF, nodesF, nodesF_ct pl fl ds]
    rfl
theorem namedOk_ct (pl : List (ByteArray × Int)) (ns : List Nd) : namedOk pl (ns.map Nd.ct) = namedOk pl ns := by
  unfold namedOk
  rw [List.all_map]
  rfl
theorem placesGo_ct : ∀ (ds : List Df) (acc : List (ByteArray × Int)) (i : Nat), placesGo acc i (ds.map Df.ct) = placesGo acc i ds
  | [], acc, i => rfl
  | d :: ds, acc, i => by
    rw [List.map_cons, placesGo, placesGo, placesGo_ct ds]
    rfl
theorem placesL_ct (ds : List Df) : placesL (ds.map Df.ct) = placesL ds := placesGo_ct ds [] 0
theorem bodyF_ct (pl : List (ByteArray × Int)) (fl : List Fl) (d : Df) : bodyF pl fl d.ct = bodyF pl fl d := by
  unfold bodyF
  have : nodesF pl fl d.ct.t.ns [] = nodesF pl fl d.t.ns [] := nodesF_ct pl fl d.t.ns []
  rw [this]
  rfl
theorem isFlow_ct {ds : List Df} {l : List Fl} (h : IsFlow ds l) : IsFlow (ds.map Df.ct) l := by
  refine ⟨by rw [h.len, List.length_map], fun i hi => ?_, fun m hm hc => ?_⟩
  · have hi' : i < ds.length := by simpa using hi
    rw [placesL_ct, List.getElem_map, bodyF_ct]
    exact h.fix i hi'
  · refine h.least m (by rw [hm, List.length_map]) fun i hi => ?_
    have := hc i (by simpa using hi)
    rwa [placesL_ct, List.getElem_map, bodyF_ct] at this
theorem nodesP_ct (g : Gr) (fl : List Fl) (t : Tr) : nodesP g.ct fl t.ct = nodesP g fl t := by
  unfold nodesP
  rw [right_ct]
  have h1 : placesL g.ct.ds = placesL g.ds := placesL_ct g.ds
  have h2 : ∀ pl, namedOk pl t.ct.ns = namedOk pl t.ns := fun pl => namedOk_ct pl t.ns
  have h3 : ∀ pl, nodesF pl fl t.ct.ns [] = nodesF pl fl t.ns [] := fun pl => nodesF_ct pl fl t.ns []
  rw [h1, h2, h3]
  rfl
theorem treeP_ct (g : Gr) (fl : List Fl) (t : Tr) : treeP g.ct fl t.ct = treeP g fl t := by
  unfold treeP
  rw [nodesP_ct]
  rfl

/-! ### A tree, by what it holds -/
def trOf (l : List Nd) : Tr := ⟨l, none, l.length, 0, (l.length : Int) - 1⟩
/-- A tree in memory that holds these nodes. -/
structure TC (I : GH) (t : Tr) (l : List Nd) : Prop where
  ok : t.ok I
  ct : t.ns.map Nd.ct = l
  root : t.root = (l.length : Int) - 1
theorem TC.mono {I I' : GH} {t : Tr} {l : List Nd} (h : TC I t l) (hI : ∀ b o, I b = some o → I' b = some o) : TC I' t l := ⟨h.ok.mono hI, h.ct, h.root⟩
theorem TC.len {I : GH} {t : Tr} {l : List Nd} (h : TC I t l) : t.n = l.length := by
  rw [← h.ok.n, ← h.ct, List.length_map]
theorem TC.tr {I : GH} {t : Tr} {l : List Nd} (h : TC I t l) : t.ct = trOf l := by
  unfold Tr.ct trOf
  rw [h.ct, h.root, h.len]
theorem TC.right {I : GH} {t : Tr} {l : List Nd} (h : TC I t l) : right t = right (trOf l) := by rw [← h.tr, right_ct]
theorem TC.leaf {I : GH} {t : Tr} {d : Nd} (ht : t.ok I) (h1 : t.ns = [d]) (h2 : t.root = 0) (hd : d.ct = d) : TC I t [d] := ⟨ht, by rw [h1]; simp [hd], by rw [h2]; rfl⟩
def cleanL (l : List Nd) : List Nd := subC l ((l.length : Int) - 1)
theorem TC.clean {I : GH} {t : Tr} {l : List Nd} (h : TC I t l) : cleanC t = cleanL l := by
  unfold cleanC cleanL
  rw [← subC_ct, h.ct, h.root]
def kidsB (l : List Nd) (m : Nat) : Bool := decide (l.length ≤ m) && l.all fun d => decide (d.kids.length ≤ m)
theorem TC.fit {I : GH} {t : Tr} {l : List Nd} (h : TC I t l) (hk : kidsB l 1000 = true) : Fit t 1000 := by
  simp only [kidsB, Bool.and_eq_true, decide_eq_true_eq, List.all_eq_true] at hk
  have hl := h.len
  refine ⟨fun d hd => ?_, by rw [hl]; omega, by omega⟩
  have hdn := (h.ok.ns d hd).kn
  have : d.ct ∈ l := by rw [← h.ct]; exact List.mem_map.2 ⟨d, hd, rfl⟩
  have := hk.2 _ this
  show d.kn ≤ 1000
  rw [← hdn]
  exact this
end Go.V
