/-
  Appending to a slice of the function's own: in place, or in a new block.
-/
import Derived.Test.YtcccmnppfmfkiaaDoorVr
set_option linter.unusedVariables false
set_option linter.unusedSimpArgs false
namespace Go.V
open Go

/-- A slice of the function's own: its block (none as yet: nil), its length, its capacity, its block's cells. -/
structure OS where
  a : Option Nat
  n : Nat
  c : Nat
  cur : List Value
def OS.val (o : OS) : Value := .slice (o.a.map fun g => ⟨g, 0, none⟩) o.n o.c
def OS.blk (o : OS) (e : Nat) : List Blk := match o.a with
  | some g => [⟨g, .cells o.cur.toArray e (0, 0)⟩]
  | none => []
structure OS.ok (o : OS) (size : Nat) (xs : List Value) : Prop where
  len : xs.length = o.n * size
  nil : o.a = none → o.n = 0 ∧ o.c = 0
  cap : ∀ g, o.a = some g → o.cur.length = o.c * size ∧ o.n ≤ o.c ∧ o.c ≤ maxLen ∧ o.cur.take (o.n * size) = xs

section
variable {P : Program} {w : World}

theorem run_app (t u ty e : Nat) (i : TypeInfo) (z : Value) (ht : P.underlying t = some (.slice e)) {du : TypeDesc} (hu : P.underlying u = some du) (hdu : ∀ k, du ≠ .int k) (hi : P.info? e = some i) (hz : i.zero = some z) (hzs : z.cells.size = i.size)
    {os : OS} {xs : List Value} (hok : os.ok i.size xs) (hg : ∀ g, os.a = some g → w.heap[g]? = some (.cells os.cur.toArray e (0, 0)))
    {x : Value} {m : Nat} {news : List Value} (hm : 0 < m) (hl : news.length = m * i.size) (h1 : ∀ v ∈ news, v.oneCell' = true)
    (hlen : ∀ w', (Builtin.lenOf x).run P w' = .ok m w') (hnew : ∀ w' : World, w'.heap = w.heap → (Builtin.firstCells i.size m x).run P w' = .ok news.toArray w')
    (b1 : os.n + m ≤ maxLen) (b2 : (os.n + m) * i.bytes ≤ 140737488355328) :
    ∃ (g c : Nat) (cur : List Value) (w' : World), (Builtin.append_ #[t, u] ty #[os.val, x]).run P w = .ok (.slice (some ⟨g, 0, none⟩) (os.n + m) c) w' ∧ cur.length = c * i.size ∧ os.n + m ≤ c ∧ c ≤ maxLen ∧ cur.take ((os.n + m) * i.size) = xs ++ news ∧
      ((os.a = some g ∧ w' = w.setRow g cur.toArray) ∨ (g = w.heap.size ∧ w' = w.drew.alloc (.cells cur.toArray e (0, 0)))) := by
  obtain ⟨a, n, c, cur⟩ := os
  have hlx : (xs ++ news).length = (n + m) * i.size := by rw [List.length_append, hok.len, hl, Nat.add_mul]
  have grownOk : ∀ old, (xs ++ news ++ (Builtin.zeroCells z.cells (grownCap w (n + m) old e - (n + m))).toList).length = grownCap w (n + m) old e * i.size ∧ n + m ≤ grownCap w (n + m) old e ∧ grownCap w (n + m) old e ≤ maxLen ∧
      (xs ++ news ++ (Builtin.zeroCells z.cells (grownCap w (n + m) old e - (n + m))).toList).take ((n + m) * i.size) = xs ++ news := by
    intro old
    have hge := grownCap_ge w (n + m) old e
    have hcm : grownCap w (n + m) old e ≤ maxLen := grownCap_le_maxLen w (n + m) old e b1
    refine ⟨?_, hge, hcm, ?_⟩
    · rw [List.length_append, hlx, Array.length_toList, size_zeroCells, hzs, ← Nat.add_mul]
      congr 1
      omega
    · rw [← hlx]
      exact List.take_left
  have hdu' : (match du with | .int _ => true | _ => false) = false := by cases du <;> first | rfl | exact (hdu _ rfl).elim
  have hb1 : n + m ≤ 9223372036854775807 := by simp only [maxLen] at b1; exact b1
  cases a with
  | none =>
    obtain ⟨hn0, hc0⟩ := hok.nil rfl
    simp only at hn0 hc0
    subst hn0
    subst hc0
    have hx : xs = [] := List.eq_nil_of_length_eq_zero (by simpa using hok.len)
    subst hx
    simp only [Nat.zero_add, List.nil_append] at *
    have h0 : 0 < m := hm
    have hn : m ≠ 0 := by omega
    have h63' : ¬ (9223372036854775807 < (m : Int)) := by omega
    have h48' : ¬ (281474976710656 < Builtin.nextslicecap m 0 * i.bytes) := by rw [nextslicecap_zero h0]; omega
    have hf := hnew w.drew rfl
    obtain ⟨g1, g2, g3, g4⟩ := grownOk 0
    refine ⟨w.heap.size, grownCap w m 0 e, _, w.drew.alloc (.cells (news ++ (Builtin.zeroCells z.cells (grownCap w m 0 e - m)).toList).toArray e), ?_, g1, g2, g3, g4, .inr ⟨rfl, rfl⟩⟩
    simp [OS.val, Builtin.append_, run_underlying ht, run_underlying hu, sizeOf, typeInfo, zeroValue, hi, hz, hlen, hn, h63', h48', Question.forced, run_firstCells_none, hf, newRow, grownCap]
    congr 2
    apply Array.ext'
    simp
  | some g =>
    obtain ⟨hcl, hnc, hcm, htk⟩ := hok.cap g rfl
    have hgg := hg g rfl
    simp only at hcl hnc hcm htk hgg
    by_cases hroom : n + m ≤ c
    · have hfit : n * i.size + news.length ≤ cur.length := by rw [hl, hcl, ← Nat.add_mul]; exact Nat.mul_le_mul_right _ hroom
      have hst := run_storeCells_at P g (n * i.size) e news 0 cur.toArray w hgg (by simpa using hfit) h1
      simp only [Nat.add_zero] at hst
      refine ⟨g, c, cur.take (n * i.size) ++ news ++ cur.drop (n * i.size + news.length), _, ?_, ?_, hroom, hcm, ?_, .inl ⟨rfl, rfl⟩⟩
      · have hf := hnew w rfl
        simp [OS.val, Builtin.append_, run_underlying ht, run_underlying hu, sizeOf, typeInfo, hi, hlen, hroom, hf, Addr.add_lit, hst]

      · simp only [List.length_append, List.length_take, List.length_drop]
        omega
      · rw [htk, ← hlx]
        exact List.take_left
    · have hn : ¬ (n + m ≤ c) := by omega
      have h63' : ¬ (9223372036854775807 < ((n : Int) + (m : Int))) := by omega
      have h48' : ¬ (281474976710656 < Builtin.nextslicecap (n + m) c * i.bytes) := by have := growslice_fits (by omega : c < n + m) b2; omega
      have hf := hnew w.drew rfl
      have hcells : ∀ j v, xs[j]? = some v → w.drew.cell? ((⟨g, 0, none⟩ : Addr).add j) = some v := by
        intro j v hj
        have hgd : w.drew.heap[g]? = some (.cells cur.toArray e (0, 0)) := hgg
        rw [addr_add _ rfl, cell_of_block hgd]
        rw [← htk, List.getElem?_take] at hj
        split at hj
        · simpa using hj
        · cases hj
      have hfo := run_firstCells_some (P := P) w.drew i.size n ⟨g, 0, none⟩ n c xs hok.len hcells
      obtain ⟨g1, g2, g3, g4⟩ := grownOk c
      refine ⟨w.heap.size, grownCap w (n + m) c e, _, w.drew.alloc (.cells (xs ++ news ++ (Builtin.zeroCells z.cells (grownCap w (n + m) c e - (n + m))).toList).toArray e), ?_, g1, g2, g3, g4, .inr ⟨rfl, rfl⟩⟩
      simp [OS.val, Builtin.append_, run_underlying ht, run_underlying hu, sizeOf, typeInfo, zeroValue, hi, hz, hlen, hn, h63', h48', Question.forced, hf, hfo, newRow, grownCap]
      congr 2
      apply Array.ext'
      simp
end

section
variable {X : Ctx} {β : Nat → Nat} {a : Act} {w : World} {F : Fr} {C : Bx} {I : GH} {M : List Blk} {o : Oper} {K : KS}

theorem app_core (hE : EOK X.P X.E) {s x : Operand} {t u : Nat} (ho : o.op = .call { callee := .builtin .append, args := #[s, x], argTypes := #[t, u] }) (hd : ∀ d, o.dst = some d → d < X.n)
    {e : Nat} {ti tu ei : TI} (ht : X.E t = some ti) (hts : ti.sh = .slice e) (hu : X.E u = some tu) (hus : ∀ k, tu.sh ≠ .int k) (he : X.E e = some ei)
    (os : OS) {xs : List Value} (hok : os.ok ei.size xs) (hs : ev F s = .val os.val)
    {xv : Value} (hx : ev F x = .val xv) {m : Nat} {news : List Value} (hm : 0 < m) (hl : news.length = m * ei.size) (h1 : allOne news = true)
    (hlen : ∀ w', (Builtin.lenOf xv).run X.P w' = .ok m w') (hnew : ∀ w, Holds I M w → (Builtin.firstCells ei.size m xv).run X.P w = .ok news.toArray w)
    {Mr : List Blk} (hM : M.Perm (os.blk e ++ Mr)) (b1 : os.n + m ≤ maxLen) (b2 : (os.n + m) * ei.bytes ≤ 140737488355328)
    (k : ∀ (g c : Nat) (cur : List Value), I g = none → cur.length = c * ei.size → os.n + m ≤ c → c ≤ maxLen → cur.take ((os.n + m) * ei.size) = xs ++ news →
      K (put o.dst (.val (.slice (some ⟨g, 0, none⟩) (os.n + m) c)) F) C I (⟨g, .cells cur.toArray e (0, 0)⟩ :: Mr)) : OtherOb X o F C I M K := by
  refine ⟨fun a w Q ⟨β, hR0⟩ => ?_⟩
  have hR : RelB X β a w F C I (os.blk e ++ Mr) := hR0.wk (.perm hM .refl)
  obtain ⟨inf, z, hi, hi1, hi2, hi3, hi4⟩ := (hE _ _ he).inf
  obtain ⟨d, hud, hdd⟩ := (hE _ _ hu).und
  obtain ⟨dt, htd, hdt⟩ := (hE _ _ ht).und
  have hdt' : dt = .slice e := by
    rw [hts] at hdt
    cases dt <;> simp_all [shOf]
  subst hdt'
  have hzs : z.cells.size = inf.size := by
    rw [hi1, ← (hE _ _ he).len, ← hi4]
    simp
  rw [← hi1] at hok hl hnew
  obtain ⟨g, c, cur, w', hrun, g1, g2, g3, g4, g5⟩ := run_app (P := X.P) (w := w) t u o.type e inf z htd hud (fun k e' => hus k (by rw [← hdd, e']; rfl)) hi hi3 hzs hok
    (fun g hg => hR.holds.m ⟨g, .cells os.cur.toArray e (0, 0)⟩ (by simp [OS.blk, hg])) (x := xv) hm hl (allOne_spec h1) hlen
    (fun w' hw' => hnew w' (hR0.holds.heap hw')) b1 (by rw [hi2]; exact b2)
  rw [hi1] at g1 g4
  have hgI : I g = none := by
    rcases g5 with ⟨hg, _⟩ | ⟨rfl, _⟩
    · exact hR.holds.d ⟨g, .cells os.cur.toArray e (0, 0)⟩ (by simp [OS.blk, hg])
    · cases hI : I w.heap.size with
      | none => rfl
      | some ob =>
        have := hR.holds.i _ _ hI
        simp at this
  have es := eval_of_ev hR.fr hs
  have ex := eval_of_ev hR.fr hx
  refine wpIn_val (by rw [ho]; simp) (v := .slice (some ⟨g, 0, none⟩) (os.n + m) c) (w' := w') ?_ ⟨_, _, _, _, ⟨β, RelB.put (x := .val (.slice (some ⟨g, 0, none⟩) (os.n + m) c)) ?_ hd rfl⟩, k g c cur hgI g1 g2 g3 g4⟩
  · unfold execOp
    simp only [ho, resolve, invoke, builtin, Sem.run_bind, Sem.run_pure, Result.andThen_ok, List.map_toArray, List.map_cons, List.map_nil, es, ex, hrun]
  · rcases g5 with ⟨hg, rfl⟩ | ⟨rfl, rfl⟩
    · have hb : os.blk e = [⟨g, .cells os.cur.toArray e (0, 0)⟩] := by simp [OS.blk, hg]
      rw [hb] at hR
      exact hR.store_blk (pre := []) (post := Mr) rfl
    · have h2 : RelB X β a w.drew F C I (os.blk e ++ Mr) := hR.world rfl
      have h3 := h2.alloc_blk (.cells cur.toArray e (0, 0))
      refine h3.wk (.sub ?_ .refl)
      exact List.Sublist.cons_cons _ (List.sublist_append_right _ _)

/-- 'append(s, x...)', s being the function's own, x's cells read. -/
theorem OtherOb.append (hE : EOK X.P X.E) {s x : Operand} {t : Nat} (ho : o.op = .call { callee := .builtin .append, args := #[s, x], argTypes := #[t, t] }) (hd : ∀ d, o.dst = some d → d < X.n)
    {e : Nat} {ti ei : TI} (ht : X.E t = some ti) (hts : ti.sh = .slice e) (he : X.E e = some ei)
    (os : OS) {xs : List Value} (hok : os.ok ei.size xs) (hs : ev F s = .val os.val)
    {ad : Addr} {m c' : Nat} (hx : ev F x = .val (.slice (some ad) m c')) {news : List Value} (hm : 0 < m) (hn : Rd I M ad (m * ei.size) news) (h1 : allOne news = true)
    {Mr : List Blk} (hM : M.Perm (os.blk e ++ Mr)) (b1 : os.n + m ≤ maxLen) (b2 : (os.n + m) * ei.bytes ≤ 140737488355328)
    (k : ∀ (g c : Nat) (cur : List Value), cur.length = c * ei.size → os.n + m ≤ c → c ≤ maxLen → cur.take ((os.n + m) * ei.size) = xs ++ news →
      K (put o.dst (.val (.slice (some ⟨g, 0, none⟩) (os.n + m) c)) F) C I (⟨g, .cells cur.toArray e (0, 0)⟩ :: Mr)) : OtherOb X o F C I M K := by
  refine app_core hE ho hd ht hts ht (fun k => by rw [hts]; simp) he os hok hs hx hm ?_ h1 (fun _ => rfl) (fun w hw => ?_) hM b1 b2 (fun g c cur _ => k g c cur)
  · obtain ⟨_, _, _, _, _, _, h⟩ := hn
    exact h
  · obtain ⟨hsp, cs, T, fr, hkn, hv, hl⟩ := hn
    refine run_firstCells_some (P := X.P) w ei.size m ad m c' news hl fun j v hj => ?_
    rw [addr_add _ hsp, cell_of_block (hkn.heap hw)]
    rw [← hv, List.getElem?_take] at hj
    split at hj
    · rw [List.getElem?_drop] at hj
      simpa using hj
    · cases hj

/-- The same; and the row is none of the memory that stands. -/
theorem OtherOb.appendN (hE : EOK X.P X.E) {s x : Operand} {t : Nat} (ho : o.op = .call { callee := .builtin .append, args := #[s, x], argTypes := #[t, t] }) (hd : ∀ d, o.dst = some d → d < X.n)
    {e : Nat} {ti ei : TI} (ht : X.E t = some ti) (hts : ti.sh = .slice e) (he : X.E e = some ei)
    (os : OS) {xs : List Value} (hok : os.ok ei.size xs) (hs : ev F s = .val os.val)
    {ad : Addr} {m c' : Nat} (hx : ev F x = .val (.slice (some ad) m c')) {news : List Value} (hm : 0 < m) (hn : Rd I M ad (m * ei.size) news) (h1 : allOne news = true)
    {Mr : List Blk} (hM : M.Perm (os.blk e ++ Mr)) (b1 : os.n + m ≤ maxLen) (b2 : (os.n + m) * ei.bytes ≤ 140737488355328)
    (k : ∀ (g c : Nat) (cur : List Value), I g = none → cur.length = c * ei.size → os.n + m ≤ c → c ≤ maxLen → cur.take ((os.n + m) * ei.size) = xs ++ news →
      K (put o.dst (.val (.slice (some ⟨g, 0, none⟩) (os.n + m) c)) F) C I (⟨g, .cells cur.toArray e (0, 0)⟩ :: Mr)) : OtherOb X o F C I M K := by
  refine app_core hE ho hd ht hts ht (fun k => by rw [hts]; simp) he os hok hs hx hm ?_ h1 (fun _ => rfl) (fun w hw => ?_) hM b1 b2 k
  · obtain ⟨_, _, _, _, _, _, h⟩ := hn
    exact h
  · obtain ⟨hsp, cs, T, fr, hkn, hv, hl⟩ := hn
    refine run_firstCells_some (P := X.P) w ei.size m ad m c' news hl fun j v hj => ?_
    rw [addr_add _ hsp, cell_of_block (hkn.heap hw)]
    rw [← hv, List.getElem?_take] at hj
    split at hj
    · rw [List.getElem?_drop] at hj
      simpa using hj
    · cases hj

def byteVals (s : ByteArray) : List Value := s.data.toList.map fun b => .int .u8 b.toNat

/-- 'append(s, "text"...)'. -/
theorem OtherOb.appendS (hE : EOK X.P X.E) {s x : Operand} {t u : Nat} (ho : o.op = .call { callee := .builtin .append, args := #[s, x], argTypes := #[t, u] }) (hd : ∀ d, o.dst = some d → d < X.n)
    {e : Nat} {ti tu ei : TI} (ht : X.E t = some ti) (hts : ti.sh = .slice e) (hu : X.E u = some tu) (hus : tu.sh = .string) (he : X.E e = some ei) (hsz : ei.size = 1)
    (os : OS) {xs : List Value} (hok : os.ok ei.size xs) (hs : ev F s = .val os.val)
    {str : ByteArray} (hx : ev F x = .val (.string str)) (hm : 0 < str.size)
    {Mr : List Blk} (hM : M.Perm (os.blk e ++ Mr)) (b1 : os.n + str.size ≤ maxLen) (b2 : (os.n + str.size) * ei.bytes ≤ 140737488355328)
    (k : ∀ (g c : Nat) (cur : List Value), cur.length = c * ei.size → os.n + str.size ≤ c → c ≤ maxLen → cur.take ((os.n + str.size) * ei.size) = xs ++ byteVals str →
      K (put o.dst (.val (.slice (some ⟨g, 0, none⟩) (os.n + str.size) c)) F) C I (⟨g, .cells cur.toArray e (0, 0)⟩ :: Mr)) : OtherOb X o F C I M K := by
  refine app_core hE ho hd ht hts hu (fun k => by rw [hus]; simp) he os hok hs hx hm ?_ ?_ (fun _ => rfl) (fun w hw => ?_) hM b1 b2 (fun g c cur _ => k g c cur)
  · simp [byteVals, hsz]
  · refine List.all_eq_true.2 fun v hv => ?_
    obtain ⟨b, _, rfl⟩ := List.mem_map.1 hv
    rfl
  · simp only [Builtin.firstCells, Sem.run_pure]
    congr 1
    apply Array.ext'
    have e1 : str.extract 0 str.size = str := by
      apply ByteArray.ext
      simp [ByteArray.data_extract]
    simp [byteVals, e1]
end
end Go.V
