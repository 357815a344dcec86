/-
  Walks: print.Tree.
-/
import Derived.Test.YtcccmnppfmfkiaaDoorP2
set_option linter.unusedVariables false
set_option linter.unusedSimpArgs false
namespace Go.V
open Go Go.Proofs

theorem upd_self {F : Fr} {d : Nat} {x : SV} (h : F d = x) : upd F d x = F := by
  funext t
  unfold upd
  cases e : Nat.beq t d with
  | false => rfl
  | true =>
    have := Nat.eq_of_beq_eq_true e
    subst this
    exact h.symm
theorem updB_self {C : Bx} {d : Nat} {x : Option (List Value)} (h : C d = x) : updB C d x = C := by
  funext t
  unfold updB
  cases e : Nat.beq t d with
  | false => rfl
  | true =>
    have := Nat.eq_of_beq_eq_true e
    subst this
    exact h.symm
/-- The body of the first scope in a code. -/
def scopeIn : Code → Code
  | .scope c => c
  | .seq a b => match scopeIn a with
    | .skip => scopeIn b
    | c => c
  | _ => .skip
def labelIn (c : Code) (l : Nat) : Code := (findLabel c l).getD .skip

theorem StoreOb.add2 {M : List Blk} {b i j : Nat} {vs : List Value} {K : List Blk → Prop} (pre post : List Blk) (cs : Array Value) (T : Nat) (hM : M = pre ++ ⟨b, .cells cs T (0, 0)⟩ :: post) (hb : i + j + vs.length ≤ cs.size) (h1 : allOne vs = true)
    (h : K (pre ++ ⟨b, .cells (splice cs.toList (i + j) vs).toArray T (0, 0)⟩ :: post)) : StoreOb M (((⟨b, 0, none⟩ : Addr).add i).add j) vs K := by
  rw [Go.V.add2]
  refine StoreOb.add pre post cs T hM (by omega) h1 ?_
  rw [Nat.zero_add]
  exact h

/-- The tables that the printer reads. -/
structure Tabs (I : GH) (deb : List Int) : Prop where
  c : HasCounts I
  p : HasPCounts I
  s : HasSigns I
  d : HasDeb I deb
theorem perm1 {α : Type} (a b c : α) (L : List α) : (a :: b :: (L ++ [c])).Perm ([b, c] ++ (a :: L)) :=
  (List.Perm.swap b a _).trans (((((List.perm_append_singleton c L).cons a)).trans (List.Perm.swap c a L)).cons b)
theorem perm2 {α : Type} (a b c : α) (L : List α) : (a :: b :: c :: L).Perm ([b, c] ++ (L ++ [a])) :=
  (List.perm_append_singleton a (b :: c :: L)).symm
theorem splice_mid (pre : List Value) (a b c z : Value) (rest : List Value) : splice (pre ++ ([a, b, c] ++ rest)) (pre.length + 1) [z] = pre ++ ([a, z, c] ++ rest) := by
  have := splice_at pre a b z (c :: rest) _ rfl
  exact this
theorem Tabs.mono {I I' : GH} {deb : List Int} (h : Tabs I deb) (hI : ∀ b o, I b = some o → I' b = some o) : Tabs I' deb := by
  obtain ⟨⟨T1, f1, h1⟩, ⟨T2, f2, h2⟩, ⟨T3, f3, h3⟩, ⟨h4, h5, T4, f4, h6⟩⟩ := h
  exact ⟨⟨T1, f1, hI _ _ h1⟩, ⟨T2, f2, hI _ _ h2⟩, ⟨T3, f3, hI _ _ h3⟩, ⟨h4, h5, T4, f4, hI _ _ h6⟩⟩

def stackV (st : List Open) : List Value := st.flatMap openC
theorem stackV_len (st : List Open) : (stackV st).length = st.length * 3 := flat_len openC 3 (fun _ => rfl) st
theorem stackV_snoc (st : List Open) (e : Open) : stackV (st ++ [e]) = stackV st ++ [.int .i64 e.1, .int .i64 e.2.1, .bool e.2.2] := by
  simp [stackV, openC]

abbrev TreeI := Bd × OS × List Open × GH
def treeLP (t : Tr) (g : Nat) (x : TreeI) : LP := { fl := [(1, .ref 1 0), (3, .val (ptr g)), (4, .val x.2.1.val)], cl := [(1, t.cells)], gi := x.2.2.2, mi := x.2.1.blk 122 ++ x.1.M g }
structure TreeInv (I0 : GH) (deb : List Int) (t : Tr) (x : TreeI) : Prop where
  le : ∀ b o, I0 b = some o → x.2.2.2 b = some o
  ok : x.1.ok
  os : x.2.1.ok 3 (stackV x.2.2.1)
  ne : x.2.2.1 ≠ []
  inn : ∀ e ∈ x.2.2.1, e.1 < t.ns.length
  txt : x.1.bs ++ restAll deb t.ns x.2.2.1 = textOf deb t.ns t.root
  mu : muAll t.ns x.2.2.1 ≤ 2 * t.ns.length

set_option maxHeartbeats 8000000 in
set_option maxRecDepth 4000 in
theorem Tree_pass {I0 : GH} {deb : List Int} (hT : Tabs I0 deb) {t : Tr} (ht : t.ok I0) (hr : right t = true) (hn : t.n ≤ 1024) {g : Nat} {p : Nat → Nat × TreeI → Prop} (x : TreeI) (hx : TreeInv I0 deb t x)
    (hp : ∀ y, TreeInv I0 deb t y → muAll t.ns y.2.2.1 < muAll t.ns x.2.2.1 → p 0 (g, y)) (B : Nat) (h0 : World) (G : Fr) (GC : Bx) :
    V ⟨Tryd.prog, TrydE, [3], Tryd.f89.ntmps, B, h0, I0, [], none⟩ (labelIn (scopeIn (Tryd.f89.body.getD .skip)) 0)
      (upd (upd (upd G 4 (.val x.2.1.val)) 3 (.val (ptr g))) 1 (.ref 1 0)) (updB GC 1 (some t.cells)) x.2.2.2 (x.2.1.blk 122 ++ x.1.M g)
      (scK (fun l => InvAt [] (fun y => treeLP t y.1 y.2) (p l)) (retK ⟨Tryd.prog, TrydE, [3], Tryd.f89.ntmps, B, h0, I0, [], none⟩ Tryd.f89.results.toList
        (fun r I' M' => r = .string (strOf (textOf deb t.ns t.root)) ∧ (∀ b o, I0 b = some o → I' b = some o) ∧ M' = []))) := by
  obtain ⟨x, ⟨oa, n, cp, cur⟩, st, I1⟩ := x
  obtain ⟨hle, hxok, hos, hne, hin, htxt, hmu⟩ := hx
  simp only at hle hxok hos hne hin htxt hmu hp ⊢
  have hT1 := hT.mono hle
  have ht1 := ht.mono hle
  have hnl := ht.n
  obtain ⟨st0, ⟨j, i, w⟩, rfl⟩ : ∃ st0 e, st = st0 ++ [e] := by
    rcases List.eq_nil_or_concat st with h | ⟨r, e, h⟩
    · exact (hne h).elim
    · exact ⟨r, e, by simpa using h⟩
  have hsl : st0.length + 1 = n := by
    have h1 := hos.len
    rw [stackV_len] at h1
    simp at h1
    omega
  have hj : j < t.ns.length := hin (j, i, w) (by simp)
  have hj' : j < t.n := by omega
  cases oa with
  | none => have := (hos.nil rfl).1; simp only at this; omega
  | some gb =>
  obtain ⟨hcl, hnc, hcm, hct⟩ := hos.cap gb rfl
  simp only at hcl hnc hcm hct
  have hp0 : (stackV st0).length = (n - 1) * 3 := by rw [stackV_len]; omega
  obtain ⟨rest, hcur⟩ : ∃ rest, cur = stackV st0 ++ ([.int .i64 j, .int .i64 i, .bool w] ++ rest) := by
    refine ⟨cur.drop (n * 3), ?_⟩
    have h2 := List.take_append_drop (n * 3) cur
    rw [hct, stackV_snoc, List.append_assoc] at h2
    exact h2.symm
  have at0 : cur[(n - 1) * 3 + 0]? = some (.int .i64 j) := by
    rw [hcur, ← hp0, List.getElem?_append_right (by omega)]
    simp
  have at1 : cur[(n - 1) * 3 + 1]? = some (.int .i64 i) := by
    rw [hcur, ← hp0, List.getElem?_append_right (by omega)]
    simp
  have at2 : cur[(n - 1) * 3 + 2]? = some (.bool w) := by
    rw [hcur, ← hp0, List.getElem?_append_right (by omega)]
    simp
  have htl := text_len (deb := deb) hr
  have hxl : x.bs.length ≤ 2412 * t.ns.length := by
    have := congrArg List.length htxt
    rw [List.length_append] at this
    omega
  have hstl := muAll_len t.ns (st0 ++ [(j, i, w)])
  simp only [List.length_append, List.length_cons, List.length_nil] at hstl
  have hdk := ht1.ns t.ns[j] (List.getElem_mem hj)
  have hkn := hdk.kn
  have hfs := fits_says (right_fits hr hj)
  obtain ⟨ad, had, hrd⟩ := ht1.rs.row Nd.cells_len hj' hj
  rw [restAll_snoc] at htxt
  rw [muAll_snoc] at hmu hp hstl
  have hn1 : IntKind.i64.wrap ((n : Int) - 1) = ((n - 1 : Nat) : Int) := by
    rw [wrap_i64 ⟨by omega, by omega⟩]
    omega
  refine ArithOb.mk (((n - 1 : Nat)) : Int) hn1 ?_
  refine IdxOb.mk ⟨gb, 0, none⟩ (n - 1) rfl rfl (by show n - 1 < n; omega) ?_
  refine CodeOb.draw TrydEOK rfl rfl rfl ?_
  refine LoadOb.mk [.int .i64 j] (blk_rd2 (b := gb) (cs := cur) (T := 122) (by simp [OS.blk]) at0) ?_
  refine IdxOb.mk ad j had rfl hj' ?_
  refine LoadOb.mk _ (hrd _) ?_
  refine AllocOb.mk fun b6 hb6 hbM6 => ?_
  refine StoreOb.mk [] (⟨gb, .cells cur.toArray 122 (0, 0)⟩ :: x.M g) _ _ rfl rfl (Nat.le_of_ble_eq_true rfl) rfl ?_
  refine LoadOb.mk [.int .i64 i] (blk_rd2 (b := gb) (cs := cur) (T := 122) (by simp [OS.blk]) at1) ?_
  refine CondOb.mk (fun h1 => ?_) (fun h1 => ?_)
  · refine LoadOb.mk [.bool w] (blk_rd2 (b := gb) (cs := cur) (T := 122) (by simp [OS.blk]) at2) ?_
    refine CondOb.mk (fun h2 => ?_) (fun h2 => ?_)
    · refine CallOb.mk (x.M g) [⟨b6, .cells t.ns[j].cells.toArray 32 (0, 0)⟩, ⟨gb, .cells cur.toArray 122 (0, 0)⟩] _ (List.perm_append_comm (l₁ := [_, _])) (WriteByte_spec g hxok 40 (by omega)) ?_
      rintro v I2 M2 - ⟨rfl, rfl, y, hy, hyb, rfl⟩
      have hyl : y.bs.length ≤ 2412 * t.ns.length + 1 := by rw [hyb]; simp; omega
      refine LoadOb.mk _ (blk_rd (T := 32) (b := b6) (cs := t.ns[j].cells) (k := 0) (n := 9) (by simp) (Nat.le_of_ble_eq_true rfl)) ?_
      refine CallOb.mk [] (y.M g ++ [⟨b6, .cells t.ns[j].cells.toArray 32 (0, 0)⟩, ⟨gb, .cells cur.toArray 122 (0, 0)⟩]) _ (by simp) (ahead_spec hT1.d hT1.s hdk hfs) ?_
      rintro v I2 M2 - ⟨rfl, hI2, rfl⟩
      have hI3 : ∀ b o, I0 b = some o → I2 b = some o := fun b o h => hI2 _ _ (hle _ _ h)
      have hal := aheadB_len deb hfs
      refine CallOb.mk (y.M g) [⟨b6, .cells t.ns[j].cells.toArray 32 (0, 0)⟩, ⟨gb, .cells cur.toArray 122 (0, 0)⟩] _ (by simp) (WriteString_spec g hy _ (by show _ + (aheadB deb t.ns[j]).length ≤ _; omega)) ?_
      rintro v I3 M3 - ⟨rfl, rfl, u, hu, hub, rfl⟩
      have huh : u.bs = x.bs ++ headE deb t.ns (j, i, w) := by
        rw [hub, hyb]
        simp only [headE, h1, h2, nodeAt_eq hj, cond_true, cond_false]
        simp [strOf]
      have hul : u.bs.length ≤ 2412 * t.ns.length + 2401 := by
        rw [huh, List.length_append]
        simp only [headE, h1, h2, nodeAt_eq hj, cond_true, cond_false, List.length_append, List.length_cons, List.length_nil]
        omega
      have hT2 := hT.mono hI3
      have ht2 := ht.mono hI3
      have hdk2 := ht2.ns t.ns[j] (List.getElem_mem hj)
      have hrd6 : ∀ {k m : Nat}, k + m ≤ 9 → Rd I3 (u.M g ++ [⟨b6, .cells t.ns[j].cells.toArray 32 (0, 0)⟩, ⟨gb, .cells cur.toArray 122 (0, 0)⟩]) ((⟨b6, 0, none⟩ : Addr).add k) m ((t.ns[j].cells.drop k).take m) := fun h => blk_rd (T := 32) (by simp) h
      refine CodeOb.draw TrydEOK rfl rfl rfl ?_
      refine LoadOb.mk [.int .i64 i] (blk_rd2 (b := gb) (cs := cur) (T := 122) (by simp [OS.blk]) at1) ?_
      refine LoadOb.mk _ (hrd6 (by decide)) ?_
      refine CondOb.mk (fun hk => ?_) (fun hk => ?_)
      · have hil : i < t.ns[j].kn := by simpa using hk
        have hil' : i < t.ns[j].kids.length := by omega
        obtain ⟨ak, hak, hrk⟩ := hdk2.rs.one hil hil'
        have hkk := right_kids hr j hj _ (List.getElem_mem hil')
        obtain ⟨q, hq0⟩ := Int.eq_ofNat_of_zero_le hkk.1
        have hql : q < t.ns.length := by omega
        have hql' : q < t.n := by omega
        obtain ⟨aq, haq, hrq0⟩ := ht2.rs.row Nd.cells_len hql' hql
        have hrq : ∀ M, Rd I3 M ((aq.add (q * 9)).add 0) 1 [.int .u8 t.ns[q].k] := fun M => (hrq0 M).part (k := 0) (m := 1) (by decide)
        have hkat : kindAt t.ns ((q : Nat) : Int) = t.ns[q].k := by simp [kindAt, List.getD_eq_getElem?_getD, hql]
        have hre := restE_kid (deb := deb) hr hj (w := w) hil'
        have hme := muE_kid hr hj (w := w) (w' := wrapsV t.ns[j].k t.ns[q].k) hil'
        rw [hq0] at hre hme
        simp only [Int.ofNat_eq_natCast, Int.toNat_natCast] at hre hme
        rw [hkat] at hre
        have hwr : IntKind.i64.wrap ((i : Int) + 1) = ((i + 1 : Nat) : Int) := by
          have := hdk2.rs.cap
          rw [wrap_i64 ⟨by omega, by omega⟩]
          omega
        have hsp : splice cur ((n - 1) * 3 + 1) [.int .i64 ((i + 1 : Nat) : Int)] = stackV st0 ++ ([.int .i64 j, .int .i64 ((i + 1 : Nat) : Int), .bool w] ++ rest) := by
          rw [hcur, ← hp0]
          exact splice_mid _ _ _ _ _ _
        have hos' : OS.ok ⟨some gb, n, cp, splice cur ((n - 1) * 3 + 1) [.int .i64 ((i + 1 : Nat) : Int)]⟩ 3 (stackV (st0 ++ [(j, i + 1, w)])) := by
          rw [hsp, stackV_snoc]
          refine ⟨by simp only [List.length_append, List.length_cons, List.length_nil]; omega, (fun h => by cases h), fun g3 _ => ⟨?_, hnc, hcm, ?_⟩⟩
          · simp only
            rw [← hcl, hcur]
            simp
          · simp only
            rw [← List.append_assoc]
            refine List.take_left' ?_
            simp only [List.length_append, List.length_cons, List.length_nil]
            omega
        refine LoadOb.mk [.int .i64 i] (blk_rd2 (b := gb) (cs := cur) (T := 122) (by simp [OS.blk]) at1) ?_
        refine CondOb.mk (fun hz => by simp at h1 hz; omega) (fun hz => ?_)
        refine CodeOb.draw TrydEOK rfl rfl rfl ?_
        refine LoadOb.mk _ (blk_rd (T := 32) (b := b6) (cs := t.ns[j].cells) (k := 8) (n := 1) (by simp) (Nat.le_of_ble_eq_true rfl)) ?_
        refine LoadOb.mk [.int .i64 i] (blk_rd2 (b := gb) (cs := cur) (T := 122) (by simp [OS.blk]) at1) ?_
        refine IdxOb.mk ak i hak rfl hil ?_
        refine LoadOb.mk [.int .i64 (q : Nat)] (by have h9 := hrk; rw [hq0] at h9; exact h9 _) ?_
        refine LoadOb.mk [.int .i64 i] (blk_rd2 (b := gb) (cs := cur) (T := 122) (by simp [OS.blk]) at1) ?_
        refine ArithOb.mk ((i + 1 : Nat) : Int) hwr ?_
        refine StoreOb.add2 (u.M g ++ [⟨b6, .cells t.ns[j].cells.toArray 32 (0, 0)⟩]) [] cur.toArray 122 (by simp [OS.blk]) ?_ rfl ?_
        · simp only [List.size_toArray]
          show (n - 1) * 3 + 1 + 1 ≤ _
          omega
        refine CodeOb.draw TrydEOK rfl rfl rfl ?_
        refine LoadOb.mk [.int .u8 t.ns[j].k] (blk_rd (T := 32) (b := b6) (cs := t.ns[j].cells) (k := 0) (n := 1) (by simp) (Nat.le_of_ble_eq_true rfl)) ?_
        refine IdxOb.mk aq q haq rfl hql' ?_
        refine LoadOb.mk [.int .u8 t.ns[q].k] (hrq _) ?_
        refine PCallOb.mk _ (wraps_spec t.ns[j].k t.ns[q].k) ?_
        rintro v I5 M5 - ⟨rfl, rfl, rfl⟩
        refine AllocOb.mk fun b9 hb9 hbM9 => ?_
        refine OtherOb.append TrydEOK rfl (by simp) (e := 122) rfl rfl rfl ⟨some gb, n, cp, splice cur ((n - 1) * 3 + 1) [.int .i64 ((i + 1 : Nat) : Int)]⟩ (xs := stackV (st0 ++ [(j, i + 1, w)])) hos' rfl (m := 1) rfl (news := openC (q, 0, wrapsV t.ns[j].k t.ns[q].k)) (by decide) (blk_rd (b := b9) (cs := openC (q, 0, wrapsV t.ns[j].k t.ns[q].k)) (k := 0) (n := 3) (T := 122) (.head _) (Nat.le_of_ble_eq_true rfl)) rfl (Mr := ⟨b9, .cells (openC (q, 0, wrapsV t.ns[j].k t.ns[q].k)).toArray 122 (0, 0)⟩ :: (u.M g ++ [⟨b6, .cells t.ns[j].cells.toArray 32 (0, 0)⟩])) (by exact List.perm_append_comm (l₁ := (⟨b9, .cells (openC (q, 0, wrapsV t.ns[j].k t.ns[q].k)).toArray 122 (0, 0)⟩ : Blk) :: (u.M g ++ [⟨b6, .cells t.ns[j].cells.toArray 32 (0, 0)⟩])) (l₂ := [⟨gb, .cells (splice cur ((n - 1) * 3 + 1) [.int .i64 ((i + 1 : Nat) : Int)]).toArray 122 (0, 0)⟩])) (by show n + 1 ≤ _; simp only [maxLen]; omega) (by show (n + 1) * 24 ≤ _; omega) ?_
        intro g' c' cur' q1 q2 q3 q4
        refine ⟨(g, u, ⟨some g', n + 1, c', cur'⟩, st0 ++ [(j, i + 1, w)] ++ [(q, 0, wrapsV t.ns[j].k t.ns[q].k)], _), hp _ ⟨hI3, hu, ⟨?_, (fun h => by cases h), fun g3 _ => ⟨q1, q2, q3, ?_⟩⟩, by simp, ?_, ?_, ?_⟩ ?_, .perm (M1 := [⟨b9, .cells (openC (q, 0, wrapsV t.ns[j].k t.ns[q].k)).toArray 122 (0, 0)⟩, ⟨b6, .cells t.ns[j].cells.toArray 32 (0, 0)⟩] ++ (⟨g', .cells cur'.toArray 122 (0, 0)⟩ :: u.M g)) (perm1 _ _ _ _) (.sub (List.sublist_append_right _ _) .refl), .cons .refl (.cons .refl (.cons .refl .nil)), .cons rfl .nil⟩
        · show _ = (n + 1) * 3
          rw [stackV_len]
          simp
          omega
        · show cur'.take ((n + 1) * 3) = _
          rw [stackV_snoc (st0 ++ [(j, i + 1, w)])]
          exact q4
        · intro e he
          simp only [List.mem_append, List.mem_singleton] at he
          rcases he with (he | rfl) | rfl
          · exact hin e (by simp [he])
          · exact hj
          · exact hql
        · simp only
          rw [restAll_snoc, restAll_snoc, huh, ← htxt, hre]
          rw [show decide (0 < (i : Int)) = false from hz]
          simp
        · simp only
          rw [muAll_snoc, muAll_snoc]
          omega
        · simp only
          rw [muAll_snoc, muAll_snoc]
          omega
      · have hil : t.ns[j].kids.length ≤ i := by simp at hk; omega
        have hre := restE_end (deb := deb) hj (w := w) hil
        have hbl := behindB_len t.ns[j]
        refine LoadOb.mk _ (blk_rd (T := 32) (b := b6) (cs := t.ns[j].cells) (k := 0) (n := 9) (by simp) (Nat.le_of_ble_eq_true rfl)) ?_
        refine CallOb.mk [] (u.M g ++ [⟨b6, .cells t.ns[j].cells.toArray 32 (0, 0)⟩, ⟨gb, .cells cur.toArray 122 (0, 0)⟩]) _ (.refl _) (behind_spec hT2.c hT2.p hT2.s hdk2 hfs) ?_
        rintro v I5 M5 - ⟨rfl, rfl, rfl⟩
        refine CallOb.mk (u.M g) [⟨b6, .cells t.ns[j].cells.toArray 32 (0, 0)⟩, ⟨gb, .cells cur.toArray 122 (0, 0)⟩] _ (by simp) (WriteString_spec g hu _ (by show _ + (behindB t.ns[j]).length ≤ _; omega)) ?_
        rintro v I6 M6 - ⟨rfl, rfl, a, ha, hab, rfl⟩
        have hal2 : a.bs.length ≤ 2412 * t.ns.length + 2410 := by
          rw [hab, List.length_append]
          show _ + (behindB t.ns[j]).length ≤ _
          omega
        refine LoadOb.mk [.bool w] (blk_rd2 (b := gb) (cs := cur) (T := 122) (by simp [OS.blk]) at2) ?_
        refine CondOb.mk (fun hw => ?_) (fun hw => ?_)
        · subst hw
          refine CallOb.mk (a.M g) [⟨b6, .cells t.ns[j].cells.toArray 32 (0, 0)⟩, ⟨gb, .cells cur.toArray 122 (0, 0)⟩] _ (by simp) (WriteByte_spec g ha 41 (by omega)) ?_
          rintro v I8 M8 - ⟨rfl, rfl, c, hc, hcb, rfl⟩
          refine ArithOb.mk (((n - 1 : Nat)) : Int) hn1 ?_
          refine SliceOb.mk 0 (n - 1) rfl rfl (Nat.zero_le _) (by show n - 1 ≤ cp; omega) ?_
          refine CondOb.mk (fun hz => ?_) (fun hz => ?_)
          · have hz' : 0 < n - 1 := by simp at hz; omega
            refine ⟨(g, c, ⟨some gb, n - 1, cp, cur⟩, st0, _), hp _ ⟨hI3, hc, ⟨?_, (fun h => by cases h), fun g3 _ => ⟨hcl, by show n - 1 ≤ cp; omega, hcm, ?_⟩⟩, ?_, fun e he => hin e (by simp [he]), ?_, ?_⟩ ?_, .perm (M1 := [⟨b6, .cells t.ns[j].cells.toArray 32 (0, 0)⟩] ++ (⟨gb, .cells cur.toArray 122 (0, 0)⟩ :: c.M g)) (List.perm_append_comm (l₂ := [_, _])) (.sub (List.sublist_append_right _ _) .refl), .cons .refl (.cons .refl (.cons .refl .nil)), .cons rfl .nil⟩
            · exact hp0
            · show cur.take ((n - 1) * 3) = _
              rw [hcur, ← hp0]
              exact List.take_left' rfl
            · intro h
              simp only at h
              rw [h] at hsl
              simp at hsl
              omega
            · simp only
              rw [hcb, hab, huh, ← htxt, hre]
              simp [strOf]
            · simp only
              omega
            · simp only [muE]
              omega
          · have hz' : n - 1 = 0 := by simp at hz; omega
            have hst0 : st0 = [] := List.eq_nil_of_length_eq_zero (by omega)
            have hfin : c.bs = textOf deb t.ns t.root := by
              rw [hcb, hab, huh, ← htxt, hre, hst0]
              simp [restAll, strOf]
            refine CallOb.mk (c.M g) [⟨b6, .cells t.ns[j].cells.toArray 32 (0, 0)⟩, ⟨gb, .cells cur.toArray 122 (0, 0)⟩] _ (by simp) (BString_spec g hc (by rw [hfin]; omega)) ?_
            rintro v I7 M7 - ⟨rfl, rfl, rfl⟩
            refine ⟨_, _, .sub (List.nil_sublist _) .refl, ?_, hI3, rfl⟩
            rw [hfin]
            rfl
        · subst hw
          refine ArithOb.mk (((n - 1 : Nat)) : Int) hn1 ?_
          refine SliceOb.mk 0 (n - 1) rfl rfl (Nat.zero_le _) (by show n - 1 ≤ cp; omega) ?_
          refine CondOb.mk (fun hz => ?_) (fun hz => ?_)
          · have hz' : 0 < n - 1 := by simp at hz; omega
            refine ⟨(g, a, ⟨some gb, n - 1, cp, cur⟩, st0, _), hp _ ⟨hI3, ha, ⟨?_, (fun h => by cases h), fun g3 _ => ⟨hcl, by show n - 1 ≤ cp; omega, hcm, ?_⟩⟩, ?_, fun e he => hin e (by simp [he]), ?_, ?_⟩ ?_, .perm (M1 := [⟨b6, .cells t.ns[j].cells.toArray 32 (0, 0)⟩] ++ (⟨gb, .cells cur.toArray 122 (0, 0)⟩ :: a.M g)) (List.perm_append_comm (l₂ := [_, _])) (.sub (List.sublist_append_right _ _) .refl), .cons .refl (.cons .refl (.cons .refl .nil)), .cons rfl .nil⟩
            · exact hp0
            · show cur.take ((n - 1) * 3) = _
              rw [hcur, ← hp0]
              exact List.take_left' rfl
            · intro h
              simp only at h
              rw [h] at hsl
              simp at hsl
              omega
            · simp only
              rw [hab, huh, ← htxt, hre]
              simp [strOf]
            · simp only
              omega
            · simp only [muE]
              omega
          · have hz' : n - 1 = 0 := by simp at hz; omega
            have hst0 : st0 = [] := List.eq_nil_of_length_eq_zero (by omega)
            have hfin : a.bs = textOf deb t.ns t.root := by
              rw [hab, huh, ← htxt, hre, hst0]
              simp [restAll, strOf]
            refine CallOb.mk (a.M g) [⟨b6, .cells t.ns[j].cells.toArray 32 (0, 0)⟩, ⟨gb, .cells cur.toArray 122 (0, 0)⟩] _ (by simp) (BString_spec g ha (by rw [hfin]; omega)) ?_
            rintro v I7 M7 - ⟨rfl, rfl, rfl⟩
            refine ⟨_, _, .sub (List.nil_sublist _) .refl, ?_, hI3, rfl⟩
            rw [hfin]
            rfl
    · refine LoadOb.mk _ (blk_rd (T := 32) (b := b6) (cs := t.ns[j].cells) (k := 0) (n := 9) (.head _) (Nat.le_of_ble_eq_true rfl)) ?_
      refine CallOb.mk [] (⟨b6, .cells t.ns[j].cells.toArray 32 (0, 0)⟩ :: ⟨gb, .cells cur.toArray 122 (0, 0)⟩ :: x.M g) _ (.refl _) (ahead_spec hT1.d hT1.s hdk hfs) ?_
      rintro v I2 M2 - ⟨rfl, hI2, rfl⟩
      have hI3 : ∀ b o, I0 b = some o → I2 b = some o := fun b o h => hI2 _ _ (hle _ _ h)
      have hal := aheadB_len deb hfs
      refine CallOb.mk (x.M g) [⟨b6, .cells t.ns[j].cells.toArray 32 (0, 0)⟩, ⟨gb, .cells cur.toArray 122 (0, 0)⟩] _ (List.perm_append_comm (l₁ := [_, _])) (WriteString_spec g hxok _ (by show _ + (aheadB deb t.ns[j]).length ≤ _; omega)) ?_
      rintro v I3 M3 - ⟨rfl, rfl, u, hu, hub, rfl⟩
      have huh : u.bs = x.bs ++ headE deb t.ns (j, i, w) := by
        rw [hub]
        simp only [headE, h1, h2, nodeAt_eq hj, cond_true, cond_false]
        simp [strOf]
      have hul : u.bs.length ≤ 2412 * t.ns.length + 2401 := by
        rw [huh, List.length_append]
        simp only [headE, h1, h2, nodeAt_eq hj, cond_true, cond_false, List.length_append, List.length_cons, List.length_nil]
        omega
      have hT2 := hT.mono hI3
      have ht2 := ht.mono hI3
      have hdk2 := ht2.ns t.ns[j] (List.getElem_mem hj)
      have hrd6 : ∀ {k m : Nat}, k + m ≤ 9 → Rd I3 (u.M g ++ [⟨b6, .cells t.ns[j].cells.toArray 32 (0, 0)⟩, ⟨gb, .cells cur.toArray 122 (0, 0)⟩]) ((⟨b6, 0, none⟩ : Addr).add k) m ((t.ns[j].cells.drop k).take m) := fun h => blk_rd (T := 32) (by simp) h
      refine CodeOb.draw TrydEOK rfl rfl rfl ?_
      refine LoadOb.mk [.int .i64 i] (blk_rd2 (b := gb) (cs := cur) (T := 122) (by simp [OS.blk]) at1) ?_
      refine LoadOb.mk _ (hrd6 (by decide)) ?_
      refine CondOb.mk (fun hk => ?_) (fun hk => ?_)
      · have hil : i < t.ns[j].kn := by simpa using hk
        have hil' : i < t.ns[j].kids.length := by omega
        obtain ⟨ak, hak, hrk⟩ := hdk2.rs.one hil hil'
        have hkk := right_kids hr j hj _ (List.getElem_mem hil')
        obtain ⟨q, hq0⟩ := Int.eq_ofNat_of_zero_le hkk.1
        have hql : q < t.ns.length := by omega
        have hql' : q < t.n := by omega
        obtain ⟨aq, haq, hrq0⟩ := ht2.rs.row Nd.cells_len hql' hql
        have hrq : ∀ M, Rd I3 M ((aq.add (q * 9)).add 0) 1 [.int .u8 t.ns[q].k] := fun M => (hrq0 M).part (k := 0) (m := 1) (by decide)
        have hkat : kindAt t.ns ((q : Nat) : Int) = t.ns[q].k := by simp [kindAt, List.getD_eq_getElem?_getD, hql]
        have hre := restE_kid (deb := deb) hr hj (w := w) hil'
        have hme := muE_kid hr hj (w := w) (w' := wrapsV t.ns[j].k t.ns[q].k) hil'
        rw [hq0] at hre hme
        simp only [Int.ofNat_eq_natCast, Int.toNat_natCast] at hre hme
        rw [hkat] at hre
        have hwr : IntKind.i64.wrap ((i : Int) + 1) = ((i + 1 : Nat) : Int) := by
          have := hdk2.rs.cap
          rw [wrap_i64 ⟨by omega, by omega⟩]
          omega
        have hsp : splice cur ((n - 1) * 3 + 1) [.int .i64 ((i + 1 : Nat) : Int)] = stackV st0 ++ ([.int .i64 j, .int .i64 ((i + 1 : Nat) : Int), .bool w] ++ rest) := by
          rw [hcur, ← hp0]
          exact splice_mid _ _ _ _ _ _
        have hos' : OS.ok ⟨some gb, n, cp, splice cur ((n - 1) * 3 + 1) [.int .i64 ((i + 1 : Nat) : Int)]⟩ 3 (stackV (st0 ++ [(j, i + 1, w)])) := by
          rw [hsp, stackV_snoc]
          refine ⟨by simp only [List.length_append, List.length_cons, List.length_nil]; omega, (fun h => by cases h), fun g3 _ => ⟨?_, hnc, hcm, ?_⟩⟩
          · simp only
            rw [← hcl, hcur]
            simp
          · simp only
            rw [← List.append_assoc]
            refine List.take_left' ?_
            simp only [List.length_append, List.length_cons, List.length_nil]
            omega
        refine LoadOb.mk [.int .i64 i] (blk_rd2 (b := gb) (cs := cur) (T := 122) (by simp [OS.blk]) at1) ?_
        refine CondOb.mk (fun hz => by simp at h1 hz; omega) (fun hz => ?_)
        refine CodeOb.draw TrydEOK rfl rfl rfl ?_
        refine LoadOb.mk _ (blk_rd (T := 32) (b := b6) (cs := t.ns[j].cells) (k := 8) (n := 1) (by simp) (Nat.le_of_ble_eq_true rfl)) ?_
        refine LoadOb.mk [.int .i64 i] (blk_rd2 (b := gb) (cs := cur) (T := 122) (by simp [OS.blk]) at1) ?_
        refine IdxOb.mk ak i hak rfl hil ?_
        refine LoadOb.mk [.int .i64 (q : Nat)] (by have h9 := hrk; rw [hq0] at h9; exact h9 _) ?_
        refine LoadOb.mk [.int .i64 i] (blk_rd2 (b := gb) (cs := cur) (T := 122) (by simp [OS.blk]) at1) ?_
        refine ArithOb.mk ((i + 1 : Nat) : Int) hwr ?_
        refine StoreOb.add2 (u.M g ++ [⟨b6, .cells t.ns[j].cells.toArray 32 (0, 0)⟩]) [] cur.toArray 122 (by simp [OS.blk]) ?_ rfl ?_
        · simp only [List.size_toArray]
          show (n - 1) * 3 + 1 + 1 ≤ _
          omega
        refine CodeOb.draw TrydEOK rfl rfl rfl ?_
        refine LoadOb.mk [.int .u8 t.ns[j].k] (blk_rd (T := 32) (b := b6) (cs := t.ns[j].cells) (k := 0) (n := 1) (by simp) (Nat.le_of_ble_eq_true rfl)) ?_
        refine IdxOb.mk aq q haq rfl hql' ?_
        refine LoadOb.mk [.int .u8 t.ns[q].k] (hrq _) ?_
        refine PCallOb.mk _ (wraps_spec t.ns[j].k t.ns[q].k) ?_
        rintro v I5 M5 - ⟨rfl, rfl, rfl⟩
        refine AllocOb.mk fun b9 hb9 hbM9 => ?_
        refine OtherOb.append TrydEOK rfl (by simp) (e := 122) rfl rfl rfl ⟨some gb, n, cp, splice cur ((n - 1) * 3 + 1) [.int .i64 ((i + 1 : Nat) : Int)]⟩ (xs := stackV (st0 ++ [(j, i + 1, w)])) hos' rfl (m := 1) rfl (news := openC (q, 0, wrapsV t.ns[j].k t.ns[q].k)) (by decide) (blk_rd (b := b9) (cs := openC (q, 0, wrapsV t.ns[j].k t.ns[q].k)) (k := 0) (n := 3) (T := 122) (.head _) (Nat.le_of_ble_eq_true rfl)) rfl (Mr := ⟨b9, .cells (openC (q, 0, wrapsV t.ns[j].k t.ns[q].k)).toArray 122 (0, 0)⟩ :: (u.M g ++ [⟨b6, .cells t.ns[j].cells.toArray 32 (0, 0)⟩])) (by exact List.perm_append_comm (l₁ := (⟨b9, .cells (openC (q, 0, wrapsV t.ns[j].k t.ns[q].k)).toArray 122 (0, 0)⟩ : Blk) :: (u.M g ++ [⟨b6, .cells t.ns[j].cells.toArray 32 (0, 0)⟩])) (l₂ := [⟨gb, .cells (splice cur ((n - 1) * 3 + 1) [.int .i64 ((i + 1 : Nat) : Int)]).toArray 122 (0, 0)⟩])) (by show n + 1 ≤ _; simp only [maxLen]; omega) (by show (n + 1) * 24 ≤ _; omega) ?_
        intro g' c' cur' q1 q2 q3 q4
        refine ⟨(g, u, ⟨some g', n + 1, c', cur'⟩, st0 ++ [(j, i + 1, w)] ++ [(q, 0, wrapsV t.ns[j].k t.ns[q].k)], _), hp _ ⟨hI3, hu, ⟨?_, (fun h => by cases h), fun g3 _ => ⟨q1, q2, q3, ?_⟩⟩, by simp, ?_, ?_, ?_⟩ ?_, .perm (M1 := [⟨b9, .cells (openC (q, 0, wrapsV t.ns[j].k t.ns[q].k)).toArray 122 (0, 0)⟩, ⟨b6, .cells t.ns[j].cells.toArray 32 (0, 0)⟩] ++ (⟨g', .cells cur'.toArray 122 (0, 0)⟩ :: u.M g)) (perm1 _ _ _ _) (.sub (List.sublist_append_right _ _) .refl), .cons .refl (.cons .refl (.cons .refl .nil)), .cons rfl .nil⟩
        · show _ = (n + 1) * 3
          rw [stackV_len]
          simp
          omega
        · show cur'.take ((n + 1) * 3) = _
          rw [stackV_snoc (st0 ++ [(j, i + 1, w)])]
          exact q4
        · intro e he
          simp only [List.mem_append, List.mem_singleton] at he
          rcases he with (he | rfl) | rfl
          · exact hin e (by simp [he])
          · exact hj
          · exact hql
        · simp only
          rw [restAll_snoc, restAll_snoc, huh, ← htxt, hre]
          rw [show decide (0 < (i : Int)) = false from hz]
          simp
        · simp only
          rw [muAll_snoc, muAll_snoc]
          omega
        · simp only
          rw [muAll_snoc, muAll_snoc]
          omega
      · have hil : t.ns[j].kids.length ≤ i := by simp at hk; omega
        have hre := restE_end (deb := deb) hj (w := w) hil
        have hbl := behindB_len t.ns[j]
        refine LoadOb.mk _ (blk_rd (T := 32) (b := b6) (cs := t.ns[j].cells) (k := 0) (n := 9) (by simp) (Nat.le_of_ble_eq_true rfl)) ?_
        refine CallOb.mk [] (u.M g ++ [⟨b6, .cells t.ns[j].cells.toArray 32 (0, 0)⟩, ⟨gb, .cells cur.toArray 122 (0, 0)⟩]) _ (.refl _) (behind_spec hT2.c hT2.p hT2.s hdk2 hfs) ?_
        rintro v I5 M5 - ⟨rfl, rfl, rfl⟩
        refine CallOb.mk (u.M g) [⟨b6, .cells t.ns[j].cells.toArray 32 (0, 0)⟩, ⟨gb, .cells cur.toArray 122 (0, 0)⟩] _ (by simp) (WriteString_spec g hu _ (by show _ + (behindB t.ns[j]).length ≤ _; omega)) ?_
        rintro v I6 M6 - ⟨rfl, rfl, a, ha, hab, rfl⟩
        have hal2 : a.bs.length ≤ 2412 * t.ns.length + 2410 := by
          rw [hab, List.length_append]
          show _ + (behindB t.ns[j]).length ≤ _
          omega
        refine LoadOb.mk [.bool w] (blk_rd2 (b := gb) (cs := cur) (T := 122) (by simp [OS.blk]) at2) ?_
        refine CondOb.mk (fun hw => ?_) (fun hw => ?_)
        · subst hw
          refine CallOb.mk (a.M g) [⟨b6, .cells t.ns[j].cells.toArray 32 (0, 0)⟩, ⟨gb, .cells cur.toArray 122 (0, 0)⟩] _ (by simp) (WriteByte_spec g ha 41 (by omega)) ?_
          rintro v I8 M8 - ⟨rfl, rfl, c, hc, hcb, rfl⟩
          refine ArithOb.mk (((n - 1 : Nat)) : Int) hn1 ?_
          refine SliceOb.mk 0 (n - 1) rfl rfl (Nat.zero_le _) (by show n - 1 ≤ cp; omega) ?_
          refine CondOb.mk (fun hz => ?_) (fun hz => ?_)
          · have hz' : 0 < n - 1 := by simp at hz; omega
            refine ⟨(g, c, ⟨some gb, n - 1, cp, cur⟩, st0, _), hp _ ⟨hI3, hc, ⟨?_, (fun h => by cases h), fun g3 _ => ⟨hcl, by show n - 1 ≤ cp; omega, hcm, ?_⟩⟩, ?_, fun e he => hin e (by simp [he]), ?_, ?_⟩ ?_, .perm (M1 := [⟨b6, .cells t.ns[j].cells.toArray 32 (0, 0)⟩] ++ (⟨gb, .cells cur.toArray 122 (0, 0)⟩ :: c.M g)) (List.perm_append_comm (l₂ := [_, _])) (.sub (List.sublist_append_right _ _) .refl), .cons .refl (.cons .refl (.cons .refl .nil)), .cons rfl .nil⟩
            · exact hp0
            · show cur.take ((n - 1) * 3) = _
              rw [hcur, ← hp0]
              exact List.take_left' rfl
            · intro h
              simp only at h
              rw [h] at hsl
              simp at hsl
              omega
            · simp only
              rw [hcb, hab, huh, ← htxt, hre]
              simp [strOf]
            · simp only
              omega
            · simp only [muE]
              omega
          · have hz' : n - 1 = 0 := by simp at hz; omega
            have hst0 : st0 = [] := List.eq_nil_of_length_eq_zero (by omega)
            have hfin : c.bs = textOf deb t.ns t.root := by
              rw [hcb, hab, huh, ← htxt, hre, hst0]
              simp [restAll, strOf]
            refine CallOb.mk (c.M g) [⟨b6, .cells t.ns[j].cells.toArray 32 (0, 0)⟩, ⟨gb, .cells cur.toArray 122 (0, 0)⟩] _ (by simp) (BString_spec g hc (by rw [hfin]; omega)) ?_
            rintro v I7 M7 - ⟨rfl, rfl, rfl⟩
            refine ⟨_, _, .sub (List.nil_sublist _) .refl, ?_, hI3, rfl⟩
            rw [hfin]
            rfl
        · subst hw
          refine ArithOb.mk (((n - 1 : Nat)) : Int) hn1 ?_
          refine SliceOb.mk 0 (n - 1) rfl rfl (Nat.zero_le _) (by show n - 1 ≤ cp; omega) ?_
          refine CondOb.mk (fun hz => ?_) (fun hz => ?_)
          · have hz' : 0 < n - 1 := by simp at hz; omega
            refine ⟨(g, a, ⟨some gb, n - 1, cp, cur⟩, st0, _), hp _ ⟨hI3, ha, ⟨?_, (fun h => by cases h), fun g3 _ => ⟨hcl, by show n - 1 ≤ cp; omega, hcm, ?_⟩⟩, ?_, fun e he => hin e (by simp [he]), ?_, ?_⟩ ?_, .perm (M1 := [⟨b6, .cells t.ns[j].cells.toArray 32 (0, 0)⟩] ++ (⟨gb, .cells cur.toArray 122 (0, 0)⟩ :: a.M g)) (List.perm_append_comm (l₂ := [_, _])) (.sub (List.sublist_append_right _ _) .refl), .cons .refl (.cons .refl (.cons .refl .nil)), .cons rfl .nil⟩
            · exact hp0
            · show cur.take ((n - 1) * 3) = _
              rw [hcur, ← hp0]
              exact List.take_left' rfl
            · intro h
              simp only at h
              rw [h] at hsl
              simp at hsl
              omega
            · simp only
              rw [hab, huh, ← htxt, hre]
              simp [strOf]
            · simp only
              omega
            · simp only [muE]
              omega
          · have hz' : n - 1 = 0 := by simp at hz; omega
            have hst0 : st0 = [] := List.eq_nil_of_length_eq_zero (by omega)
            have hfin : a.bs = textOf deb t.ns t.root := by
              rw [hab, huh, ← htxt, hre, hst0]
              simp [restAll, strOf]
            refine CallOb.mk (a.M g) [⟨b6, .cells t.ns[j].cells.toArray 32 (0, 0)⟩, ⟨gb, .cells cur.toArray 122 (0, 0)⟩] _ (by simp) (BString_spec g ha (by rw [hfin]; omega)) ?_
            rintro v I7 M7 - ⟨rfl, rfl, rfl⟩
            refine ⟨_, _, .sub (List.nil_sublist _) .refl, ?_, hI3, rfl⟩
            rw [hfin]
            rfl
  · have hxh : x.bs = x.bs ++ headE deb t.ns (j, i, w) := by
      simp only [headE, h1, cond_false, List.append_nil]
    have hT2 := hT.mono hle
    have ht2 := ht.mono hle
    have hdk2 := ht2.ns t.ns[j] (List.getElem_mem hj)
    have hrd6 : ∀ {k m : Nat}, k + m ≤ 9 → Rd I1 (⟨b6, .cells t.ns[j].cells.toArray 32 (0, 0)⟩ :: ⟨gb, .cells cur.toArray 122 (0, 0)⟩ :: x.M g) ((⟨b6, 0, none⟩ : Addr).add k) m ((t.ns[j].cells.drop k).take m) := fun h => blk_rd (T := 32) (by simp) h
    refine CodeOb.draw TrydEOK rfl rfl rfl ?_
    refine LoadOb.mk [.int .i64 i] (blk_rd2 (b := gb) (cs := cur) (T := 122) (by simp [OS.blk]) at1) ?_
    refine LoadOb.mk _ (hrd6 (by decide)) ?_
    refine CondOb.mk (fun hk => ?_) (fun hk => ?_)
    · have hil : i < t.ns[j].kn := by simpa using hk
      have hil' : i < t.ns[j].kids.length := by omega
      obtain ⟨ak, hak, hrk⟩ := hdk2.rs.one hil hil'
      have hkk := right_kids hr j hj _ (List.getElem_mem hil')
      obtain ⟨q, hq0⟩ := Int.eq_ofNat_of_zero_le hkk.1
      have hql : q < t.ns.length := by omega
      have hql' : q < t.n := by omega
      obtain ⟨aq, haq, hrq0⟩ := ht2.rs.row Nd.cells_len hql' hql
      have hrq : ∀ M, Rd I1 M ((aq.add (q * 9)).add 0) 1 [.int .u8 t.ns[q].k] := fun M => (hrq0 M).part (k := 0) (m := 1) (by decide)
      have hkat : kindAt t.ns ((q : Nat) : Int) = t.ns[q].k := by simp [kindAt, List.getD_eq_getElem?_getD, hql]
      have hre := restE_kid (deb := deb) hr hj (w := w) hil'
      have hme := muE_kid hr hj (w := w) (w' := wrapsV t.ns[j].k t.ns[q].k) hil'
      rw [hq0] at hre hme
      simp only [Int.ofNat_eq_natCast, Int.toNat_natCast] at hre hme
      rw [hkat] at hre
      have hwr : IntKind.i64.wrap ((i : Int) + 1) = ((i + 1 : Nat) : Int) := by
        have := hdk2.rs.cap
        rw [wrap_i64 ⟨by omega, by omega⟩]
        omega
      have hsp : splice cur ((n - 1) * 3 + 1) [.int .i64 ((i + 1 : Nat) : Int)] = stackV st0 ++ ([.int .i64 j, .int .i64 ((i + 1 : Nat) : Int), .bool w] ++ rest) := by
        rw [hcur, ← hp0]
        exact splice_mid _ _ _ _ _ _
      have hos' : OS.ok ⟨some gb, n, cp, splice cur ((n - 1) * 3 + 1) [.int .i64 ((i + 1 : Nat) : Int)]⟩ 3 (stackV (st0 ++ [(j, i + 1, w)])) := by
        rw [hsp, stackV_snoc]
        refine ⟨by simp only [List.length_append, List.length_cons, List.length_nil]; omega, (fun h => by cases h), fun g3 _ => ⟨?_, hnc, hcm, ?_⟩⟩
        · simp only
          rw [← hcl, hcur]
          simp
        · simp only
          rw [← List.append_assoc]
          refine List.take_left' ?_
          simp only [List.length_append, List.length_cons, List.length_nil]
          omega
      refine LoadOb.mk [.int .i64 i] (blk_rd2 (b := gb) (cs := cur) (T := 122) (by simp [OS.blk]) at1) ?_
      refine CondOb.mk (fun hz => ?_) (fun hz => by simp at h1 hz; omega)
      refine LoadOb.mk [.int .u8 t.ns[j].k] (blk_rd (T := 32) (b := b6) (cs := t.ns[j].cells) (k := 0) (n := 1) (.head _) (Nat.le_of_ble_eq_true rfl)) ?_
      refine ArrOb.mk t.ns[j].k.toNat (by have := hdk2.k; omega) (by have := hfs.k; have := hdk2.k; omega) ?_
      refine LoadOb.mk _ (hT2.s.rd _ (by have := hfs.k; have := hdk2.k; show t.ns[j].k.toNat * 3 + 1 < 30; omega)) ?_
      refine CallOb.mk (x.M g) [⟨b6, .cells t.ns[j].cells.toArray 32 (0, 0)⟩, ⟨gb, .cells cur.toArray 122 (0, 0)⟩] _ (List.perm_append_comm (l₁ := [_, _])) (WriteString_spec g hxok _ (by have := sgn_len (t.ns[j].k.toNat * 3 + 1); show _ + (sgn (t.ns[j].k.toNat * 3 + 1)).length ≤ _; omega)) ?_
      rintro v I4 M4 - ⟨rfl, rfl, z, hz1, hzb0, rfl⟩
      have hzb : z.bs = x.bs ++ sepOf t.ns[j] := hzb0
      refine CodeOb.draw TrydEOK rfl rfl rfl ?_
      refine LoadOb.mk _ (blk_rd (T := 32) (b := b6) (cs := t.ns[j].cells) (k := 8) (n := 1) (by simp) (Nat.le_of_ble_eq_true rfl)) ?_
      refine LoadOb.mk [.int .i64 i] (blk_rd2 (b := gb) (cs := cur) (T := 122) (by simp [OS.blk]) at1) ?_
      refine IdxOb.mk ak i hak rfl hil ?_
      refine LoadOb.mk [.int .i64 (q : Nat)] (by have h9 := hrk; rw [hq0] at h9; exact h9 _) ?_
      refine LoadOb.mk [.int .i64 i] (blk_rd2 (b := gb) (cs := cur) (T := 122) (by simp [OS.blk]) at1) ?_
      refine ArithOb.mk ((i + 1 : Nat) : Int) hwr ?_
      refine StoreOb.add2 (z.M g ++ [⟨b6, .cells t.ns[j].cells.toArray 32 (0, 0)⟩]) [] cur.toArray 122 (by simp [OS.blk]) ?_ rfl ?_
      · simp only [List.size_toArray]
        show (n - 1) * 3 + 1 + 1 ≤ _
        omega
      refine CodeOb.draw TrydEOK rfl rfl rfl ?_
      refine LoadOb.mk [.int .u8 t.ns[j].k] (blk_rd (T := 32) (b := b6) (cs := t.ns[j].cells) (k := 0) (n := 1) (by simp) (Nat.le_of_ble_eq_true rfl)) ?_
      refine IdxOb.mk aq q haq rfl hql' ?_
      refine LoadOb.mk [.int .u8 t.ns[q].k] (hrq _) ?_
      refine PCallOb.mk _ (wraps_spec t.ns[j].k t.ns[q].k) ?_
      rintro v I5 M5 - ⟨rfl, rfl, rfl⟩
      refine AllocOb.mk fun b9 hb9 hbM9 => ?_
      refine OtherOb.append TrydEOK rfl (by simp) (e := 122) rfl rfl rfl ⟨some gb, n, cp, splice cur ((n - 1) * 3 + 1) [.int .i64 ((i + 1 : Nat) : Int)]⟩ (xs := stackV (st0 ++ [(j, i + 1, w)])) hos' rfl (m := 1) rfl (news := openC (q, 0, wrapsV t.ns[j].k t.ns[q].k)) (by decide) (blk_rd (b := b9) (cs := openC (q, 0, wrapsV t.ns[j].k t.ns[q].k)) (k := 0) (n := 3) (T := 122) (.head _) (Nat.le_of_ble_eq_true rfl)) rfl (Mr := ⟨b9, .cells (openC (q, 0, wrapsV t.ns[j].k t.ns[q].k)).toArray 122 (0, 0)⟩ :: (z.M g ++ [⟨b6, .cells t.ns[j].cells.toArray 32 (0, 0)⟩])) (by exact List.perm_append_comm (l₁ := (⟨b9, .cells (openC (q, 0, wrapsV t.ns[j].k t.ns[q].k)).toArray 122 (0, 0)⟩ : Blk) :: (z.M g ++ [⟨b6, .cells t.ns[j].cells.toArray 32 (0, 0)⟩])) (l₂ := [⟨gb, .cells (splice cur ((n - 1) * 3 + 1) [.int .i64 ((i + 1 : Nat) : Int)]).toArray 122 (0, 0)⟩])) (by show n + 1 ≤ _; simp only [maxLen]; omega) (by show (n + 1) * 24 ≤ _; omega) ?_
      intro g' c' cur' q1 q2 q3 q4
      refine ⟨(g, z, ⟨some g', n + 1, c', cur'⟩, st0 ++ [(j, i + 1, w)] ++ [(q, 0, wrapsV t.ns[j].k t.ns[q].k)], _), hp _ ⟨hle, hz1, ⟨?_, (fun h => by cases h), fun g3 _ => ⟨q1, q2, q3, ?_⟩⟩, by simp, ?_, ?_, ?_⟩ ?_, .perm (M1 := [⟨b9, .cells (openC (q, 0, wrapsV t.ns[j].k t.ns[q].k)).toArray 122 (0, 0)⟩, ⟨b6, .cells t.ns[j].cells.toArray 32 (0, 0)⟩] ++ (⟨g', .cells cur'.toArray 122 (0, 0)⟩ :: z.M g)) (perm1 _ _ _ _) (.sub (List.sublist_append_right _ _) .refl), .cons .refl (.cons .refl (.cons .refl .nil)), .cons rfl .nil⟩
      · show _ = (n + 1) * 3
        rw [stackV_len]
        simp
        omega
      · show cur'.take ((n + 1) * 3) = _
        rw [stackV_snoc (st0 ++ [(j, i + 1, w)])]
        exact q4
      · intro e he
        simp only [List.mem_append, List.mem_singleton] at he
        rcases he with (he | rfl) | rfl
        · exact hin e (by simp [he])
        · exact hj
        · exact hql
      · simp only
        rw [restAll_snoc, restAll_snoc, hzb, ← htxt, hre]
        rw [show decide (0 < (i : Int)) = true from hz, show headE deb t.ns (j, i, w) = [] from by simp only [headE, h1, cond_false]]
        simp
      · simp only
        rw [muAll_snoc, muAll_snoc]
        omega
      · simp only
        rw [muAll_snoc, muAll_snoc]
        omega
    · have hil : t.ns[j].kids.length ≤ i := by simp at hk; omega
      have hre0 := restE_end (deb := deb) hj (w := w) hil
      have hre : restE deb t.ns (j, i, w) = behindB t.ns[j] ++ (bif w then [41] else []) := by rw [hre0]; simp only [headE, h1, cond_false, List.nil_append]
      have hbl := behindB_len t.ns[j]
      refine LoadOb.mk _ (blk_rd (T := 32) (b := b6) (cs := t.ns[j].cells) (k := 0) (n := 9) (.head _) (Nat.le_of_ble_eq_true rfl)) ?_
      refine CallOb.mk [] (⟨b6, .cells t.ns[j].cells.toArray 32 (0, 0)⟩ :: ⟨gb, .cells cur.toArray 122 (0, 0)⟩ :: x.M g) _ (.refl _) (behind_spec hT2.c hT2.p hT2.s hdk2 hfs) ?_
      rintro v I5 M5 - ⟨rfl, rfl, rfl⟩
      refine CallOb.mk (x.M g) [⟨b6, .cells t.ns[j].cells.toArray 32 (0, 0)⟩, ⟨gb, .cells cur.toArray 122 (0, 0)⟩] _ (List.perm_append_comm (l₁ := [_, _])) (WriteString_spec g hxok _ (by show _ + (behindB t.ns[j]).length ≤ _; omega)) ?_
      rintro v I6 M6 - ⟨rfl, rfl, a, ha, hab, rfl⟩
      have hal2 : a.bs.length ≤ 2412 * t.ns.length + 2410 := by
        rw [hab, List.length_append]
        show _ + (behindB t.ns[j]).length ≤ _
        omega
      refine LoadOb.mk [.bool w] (blk_rd2 (b := gb) (cs := cur) (T := 122) (by simp [OS.blk]) at2) ?_
      refine CondOb.mk (fun hw => ?_) (fun hw => ?_)
      · subst hw
        refine CallOb.mk (a.M g) [⟨b6, .cells t.ns[j].cells.toArray 32 (0, 0)⟩, ⟨gb, .cells cur.toArray 122 (0, 0)⟩] _ (by simp) (WriteByte_spec g ha 41 (by omega)) ?_
        rintro v I8 M8 - ⟨rfl, rfl, c, hc, hcb, rfl⟩
        refine ArithOb.mk (((n - 1 : Nat)) : Int) hn1 ?_
        refine SliceOb.mk 0 (n - 1) rfl rfl (Nat.zero_le _) (by show n - 1 ≤ cp; omega) ?_
        refine CondOb.mk (fun hz => ?_) (fun hz => ?_)
        · have hz' : 0 < n - 1 := by simp at hz; omega
          refine ⟨(g, c, ⟨some gb, n - 1, cp, cur⟩, st0, _), hp _ ⟨hle, hc, ⟨?_, (fun h => by cases h), fun g3 _ => ⟨hcl, by show n - 1 ≤ cp; omega, hcm, ?_⟩⟩, ?_, fun e he => hin e (by simp [he]), ?_, ?_⟩ ?_, .perm (M1 := [⟨b6, .cells t.ns[j].cells.toArray 32 (0, 0)⟩] ++ (⟨gb, .cells cur.toArray 122 (0, 0)⟩ :: c.M g)) (List.perm_append_comm (l₂ := [_, _])) (.sub (List.sublist_append_right _ _) .refl), .cons .refl (.cons .refl (.cons .refl .nil)), .cons rfl .nil⟩
          · exact hp0
          · show cur.take ((n - 1) * 3) = _
            rw [hcur, ← hp0]
            exact List.take_left' rfl
          · intro h
            simp only at h
            rw [h] at hsl
            simp at hsl
            omega
          · simp only
            rw [hcb, hab, ← htxt, hre]
            simp [strOf]
          · simp only
            omega
          · simp only [muE]
            omega
        · have hz' : n - 1 = 0 := by simp at hz; omega
          have hst0 : st0 = [] := List.eq_nil_of_length_eq_zero (by omega)
          have hfin : c.bs = textOf deb t.ns t.root := by
            rw [hcb, hab, ← htxt, hre, hst0]
            simp [restAll, strOf]
          refine CallOb.mk (c.M g) [⟨b6, .cells t.ns[j].cells.toArray 32 (0, 0)⟩, ⟨gb, .cells cur.toArray 122 (0, 0)⟩] _ (by simp) (BString_spec g hc (by rw [hfin]; omega)) ?_
          rintro v I7 M7 - ⟨rfl, rfl, rfl⟩
          refine ⟨_, _, .sub (List.nil_sublist _) .refl, ?_, hle, rfl⟩
          rw [hfin]
          rfl
      · subst hw
        refine ArithOb.mk (((n - 1 : Nat)) : Int) hn1 ?_
        refine SliceOb.mk 0 (n - 1) rfl rfl (Nat.zero_le _) (by show n - 1 ≤ cp; omega) ?_
        refine CondOb.mk (fun hz => ?_) (fun hz => ?_)
        · have hz' : 0 < n - 1 := by simp at hz; omega
          refine ⟨(g, a, ⟨some gb, n - 1, cp, cur⟩, st0, _), hp _ ⟨hle, ha, ⟨?_, (fun h => by cases h), fun g3 _ => ⟨hcl, by show n - 1 ≤ cp; omega, hcm, ?_⟩⟩, ?_, fun e he => hin e (by simp [he]), ?_, ?_⟩ ?_, .perm (M1 := [⟨b6, .cells t.ns[j].cells.toArray 32 (0, 0)⟩] ++ (⟨gb, .cells cur.toArray 122 (0, 0)⟩ :: a.M g)) (List.perm_append_comm (l₂ := [_, _])) (.sub (List.sublist_append_right _ _) .refl), .cons .refl (.cons .refl (.cons .refl .nil)), .cons rfl .nil⟩
          · exact hp0
          · show cur.take ((n - 1) * 3) = _
            rw [hcur, ← hp0]
            exact List.take_left' rfl
          · intro h
            simp only at h
            rw [h] at hsl
            simp at hsl
            omega
          · simp only
            rw [hab, ← htxt, hre]
            simp [strOf]
          · simp only
            omega
          · simp only [muE]
            omega
        · have hz' : n - 1 = 0 := by simp at hz; omega
          have hst0 : st0 = [] := List.eq_nil_of_length_eq_zero (by omega)
          have hfin : a.bs = textOf deb t.ns t.root := by
            rw [hab, ← htxt, hre, hst0]
            simp [restAll, strOf]
          refine CallOb.mk (a.M g) [⟨b6, .cells t.ns[j].cells.toArray 32 (0, 0)⟩, ⟨gb, .cells cur.toArray 122 (0, 0)⟩] _ (by simp) (BString_spec g ha (by rw [hfin]; omega)) ?_
          rintro v I7 M7 - ⟨rfl, rfl, rfl⟩
          refine ⟨_, _, .sub (List.nil_sublist _) .refl, ?_, hle, rfl⟩
          rw [hfin]
          rfl
end Go.V
