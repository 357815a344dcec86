/-
  Walks: bonsailaw12.has, long; grammars whose sizes may be great.
-/
import Derived.Test.YtcccmnppfmfkiaaDoorWl
set_option linter.unusedVariables false
set_option linter.unusedSimpArgs false
namespace Go.V
open Go Go.Proofs

/-! ### Weak: sizes may be great -/
structure NdW (I : GH) (d : Nd) : Prop where
  k : 0 ≤ d.k ∧ d.k < 256
  s0 : u64ok d.s0
  s1 : u64ok d.s1
  s2 : u64ok d.s2
  s3 : u64ok d.s3
  lo : i64ok d.lo
  hi : i64ok d.hi
  rs : RS I d.ka d.kn d.kc 1 0 (d.kids.map (.int .i64 ·))
  kids : ∀ x ∈ d.kids, i64ok x
  ts : d.t.size ≤ 9223372036854775807
structure TrW (I : GH) (t : Tr) : Prop where
  rs : RS I t.a t.n t.c 9 0 (t.ns.flatMap Nd.cells)
  ns : ∀ d ∈ t.ns, NdW I d
  root : i64ok t.root
structure DfW (I : GH) (d : Df) : Prop where
  name : d.name.size ≤ 9223372036854775807
  t : TrW I d.t
structure GrW (I : GH) (g : Gr) : Prop where
  rs : RS I g.a g.n g.c 3 0 (g.ds.flatMap Df.cells)
  ds : ∀ d ∈ g.ds, DfW I d
theorem RS.big {I : GH} {a : Option Addr} {n c size b b' : Nat} {vs : List Value} (h : RS I a n c size b vs) (hb : n * b' ≤ 140737488355328) : RS I a n c size b' vs := ⟨h.len, ⟨h.cap.1, hb⟩, h.rd⟩


/-! ### What a statement goes over -/
structure NdSmall (d : Nd) : Prop where
  kn : d.kn < 2500
structure DfSmall (d : Df) : Prop where
  name : d.name.size < 2500
  n : d.t.n < 2500
  ns : ∀ nd ∈ d.t.ns, NdSmall nd
structure GrSmall (g : Gr) : Prop where
  n : g.n < 2500
  ds : ∀ d ∈ g.ds, DfSmall d
theorem NdW.ok {I : GH} {d : Nd} (h : NdW I d) (hs : NdSmall d) : d.ok I :=
  ⟨h.k, h.s0, h.s1, h.s2, h.s3, h.ts, h.lo, h.hi, h.rs.big (by have := hs.kn; omega), h.kids⟩
theorem DfW.ok {I : GH} {d : Df} (h : DfW I d) (hs : DfSmall d) : d.ok I :=
  ⟨by have := hs.name; omega, ⟨h.t.rs.big (by have := hs.n; omega), fun nd hnd => (h.t.ns nd hnd).ok (hs.ns nd hnd), h.t.root⟩⟩
theorem GrW.ok {I : GH} {g : Gr} (h : GrW I g) (hs : GrSmall g) : g.ok I :=
  ⟨h.rs.big (by have := hs.n; omega), fun d hd => (h.ds d hd).ok (hs.ds d hd)⟩
theorem NdW.mono {I I' : GH} {d : Nd} (h : NdW I d) (hI : ∀ b o, I b = some o → I' b = some o) : NdW I' d := { h with rs := h.rs.mono hI }
theorem DfW.mono {I I' : GH} {d : Df} (h : DfW I d) (hI : ∀ b o, I b = some o → I' b = some o) : DfW I' d := ⟨h.name, h.t.rs.mono hI, fun nd hnd => (h.t.ns nd hnd).mono hI, h.t.root⟩
theorem GrW.mono {I I' : GH} {g : Gr} (h : GrW I g) (hI : ∀ b o, I b = some o → I' b = some o) : GrW I' g := ⟨h.rs.mono hI, fun d hd => (h.ds d hd).mono hI⟩
theorem GrW.n {I : GH} {g : Gr} (h : GrW I g) : g.ds.length = g.n := by
  have := h.rs.len
  rw [flat_len _ 3 Df.cells_len] at this
  omega
theorem TrW.n {I : GH} {t : Tr} (h : TrW I t) : t.ns.length = t.n := by
  have := h.rs.len
  rw [flat_len _ 9 Nd.cells_len] at this
  omega

/-- A sum that does not wrap. -/
theorem wr_eq {x r : Int} (h : x = r) (hr : -9223372036854775808 ≤ r ∧ r ≤ 9223372036854775807) : IntKind.i64.wrap x = r := by
  rw [h]
  exact wrap_i64 hr

/-! ### has -/
theorem has_gen {I : GH} {M : List Blk} {a : Option Addr} {n c : Nat} {l : List Int} (hn : l.length = n) (hb : n ≤ 140737488355328) (rd : ∀ j (h : j < l.length), ∃ ad, a = some ad ∧ Rd I M (ad.add (j * 1)) 1 [.int .i64 l[j]]) (k : Int) :
    Spec Tryd.prog 22 [.slice a n c, .int .i64 k] I M fun v I' M' => v = .bool (decide (k ∈ l)) ∧ I' = I ∧ M' = M := by
  refine spec_of_V [] TrydEOK Tryd.func22 rfl rfl rfl ?_
  intro B h0
  refine LoopOb.inv (ι := Nat) (fun i => { fl := [(0, .val (.slice a n c)), (1, .val (.int .i64 k)), (5, .val (.int .i64 i))], gi := I, mi := M }) (fun i => i ≤ n ∧ k ∉ l.take i) (fun i => n - i) ?_ ?_
  · exact ⟨0, ⟨Nat.zero_le _, by simp⟩, .refl, .cons .refl (.cons .refl (.cons .refl .nil)), .nil⟩
  · rintro i ⟨hi, htk⟩
    refine CondOb.mk (fun h => ?_) (fun h => ?_)
    · have hlt : i < n := by simpa using h
      obtain ⟨ad, had, hr⟩ := rd i (by omega)
      refine IdxOb.mk ad i had rfl hlt ?_
      refine LoadOb.mk _ hr ?_
      refine CondOb.mk (fun h2 => ?_) (fun h2 => ?_)
      · refine ⟨_, _, .refl, ?_, rfl, rfl⟩
        have h3 : l[i]'(by omega) = k := by simpa using h2
        have : k ∈ l := by
          rw [← h3]
          exact List.getElem_mem _
        simp [this]
      · have h3 : ¬ l[i]'(by omega) = k := by simpa using h2
        refine ArithOb.mk _ (next_wr (i := i) (by omega)) ?_
        refine ⟨i + 1, ⟨⟨by omega, ?_⟩, by omega⟩, .refl, .cons .refl (.cons .refl (.cons .refl .nil)), .nil⟩
        rw [List.take_succ_eq_append_getElem (by omega), List.mem_append, List.mem_singleton]
        rintro (h4 | h4)
        · exact htk h4
        · exact h3 h4.symm
    · have hge : n ≤ i := by simpa using h
      refine ⟨_, _, .refl, ?_, rfl, rfl⟩
      have : k ∉ l := by
        rw [List.take_of_length_le (by omega)] at htk
        exact htk
      simp [this]
theorem has_rw {I : GH} {M : List Blk} {x : Rw} (hx : x.ok I) (hb : x.n ≤ 140737488355328) (k : Int) :
    Spec Tryd.prog 22 [x.val, .int .i64 k] I M fun v I' M' => v = .bool (decide (k ∈ x.l)) ∧ I' = I ∧ M' = M :=
  has_gen hx.n hb (fun j hj => by
    obtain ⟨ad, h1, h2⟩ := hx.rs.one (j := j) (by have := hx.n; omega) hj
    exact ⟨ad, h1, h2 M⟩) k
theorem OS.rdI {I : GH} {M : List Blk} {os : OS} {l : List Int} {e : Nat} (h : os.ok 1 (l.map (.int .i64 ·))) (hM : ∀ x ∈ os.blk e, x ∈ M) {j : Nat} (hj : j < l.length) :
    ∃ ad, (os.a.map fun g => (⟨g, 0, none⟩ : Addr)) = some ad ∧ Rd I M (ad.add (j * 1)) 1 [.int .i64 l[j]] := by
  obtain ⟨a, n, c, cur⟩ := os
  have hl := h.len1
  simp only at hl
  cases a with
  | none => have := (h.nil rfl).1; simp only at this; omega
  | some g =>
    obtain ⟨h1, h2, h3, h4⟩ := h.cap g rfl
    simp only at h1 h2 h4
    refine ⟨⟨g, 0, none⟩, rfl, ?_⟩
    rw [addr_add _ rfl]
    refine ⟨rfl, _, _, _, .inr ⟨⟨g, .cells cur.toArray e (0, 0)⟩, hM _ (by simp [OS.blk]), rfl, rfl⟩, ?_, rfl⟩
    simp only [Nat.zero_add, Nat.mul_one]
    have hj' : j < (l.map (Value.int .i64)).length := by simpa using hj
    have e1 : (cur.take (n * 1))[j]? = some (.int .i64 l[j]) := by
      rw [h4]
      simp [hj]
    rw [List.getElem?_take] at e1
    have hjn : j < n * 1 := by omega
    rw [if_pos hjn] at e1
    have hjc : j < cur.length := (List.getElem?_eq_some_iff.1 e1).1
    rw [List.drop_eq_getElem_cons hjc, List.take_succ_cons, List.take_zero]
    rw [List.getElem?_eq_getElem hjc] at e1
    rw [Option.some.inj e1]
theorem has_os {I : GH} {os : OS} {l : List Int} {e : Nat} (h : os.ok 1 (l.map (.int .i64 ·))) (hb : os.n ≤ 140737488355328) (k : Int) :
    Spec Tryd.prog 22 [os.val, .int .i64 k] I (os.blk e) fun v I' M' => v = .bool (decide (k ∈ l)) ∧ I' = I ∧ M' = os.blk e :=
  has_gen h.len1.symm hb (fun j hj => OS.rdI h (fun x hx => hx) hj) k

/-! ### long -/
structure LongIn (g : Gr) (x : Nat × Nat) : Prop where
  i : x.2 ≤ g.n
  n : x.1 ≤ 6000
  small : x.1 < 2500 → x.2 ≤ x.1 ∧ ∀ j (h : j < g.ds.length), j < x.2 → DfSmall g.ds[j]
structure LongIn2 (g : Gr) (d : Df) (i : Nat) (x : Nat × Nat) : Prop where
  k : x.2 ≤ d.t.n
  n : x.1 ≤ 6000
  small : x.1 < 2500 → i + 1 ≤ x.1 ∧ x.2 ≤ x.1 ∧ d.name.size < 2500 ∧ (∀ j (h : j < g.ds.length), j < i → DfSmall g.ds[j]) ∧ ∀ j (h : j < d.t.ns.length), j < x.2 → NdSmall d.t.ns[j]

set_option maxRecDepth 100000 in
set_option maxHeartbeats 2000000 in
theorem long_spec {I : GH} {g : Gr} (hg : GrW I g) : Spec Tryd.prog 20 [g.val] I [] fun v I' M' => (∃ r, v = .bool r ∧ (r = false → GrSmall g)) ∧ I' = I ∧ M' = [] := by
  refine spec_of_V [] TrydEOK Tryd.func20 rfl rfl rfl ?_
  intro B h0
  have hgn := hg.n
  refine LoopOb.inv (ι := Nat × Nat) (fun x => { fl := [(1, .ref 1 0), (3, .val (.int .i64 x.1)), (4, .val (.int .i64 x.2))], cl := [(1, [.slice g.a g.n g.c])], gi := I }) (LongIn g) (fun x => g.n - x.2) ?_ ?_
  · exact ⟨(0, 0), ⟨Nat.zero_le _, Nat.zero_le _, fun _ => ⟨Nat.le_refl _, fun j _ h => by simp at h⟩⟩, .refl, .cons .refl (.cons .refl (.cons .refl .nil)), .cons rfl .nil⟩
  · rintro ⟨n, i⟩ ⟨hi, hn, hsm⟩
    simp only at hi hn hsm
    have done : ∀ {c : Bool}, (n < 2500 → i = g.n) → c = decide ((2500 : Int) ≤ n) → (c = false → GrSmall g) := by
      intro c h1 h2 h3
      have hlt : n < 2500 := by
        rw [h2] at h3
        have := of_decide_eq_false h3
        omega
      obtain ⟨h4, h5⟩ := hsm hlt
      have := h1 hlt
      refine ⟨by omega, fun d hd => ?_⟩
      obtain ⟨j, hj, rfl⟩ := List.getElem_of_mem hd
      exact h5 j hj (by omega)
    refine GuardOb.mk (fun h => ?_) (fun h => ?_)
    · have hlt : i < g.n := by simpa using h
      refine CondOb.mk (fun h2 => ?_) (fun h2 => ?_)
      · have hn2 : n < 2500 := by have := of_decide_eq_true h2; omega
        obtain ⟨hin, hds⟩ := hsm hn2
        have hlt' : i < g.ds.length := by omega
        obtain ⟨ad, had, hrd⟩ := hg.rs.row Df.cells_len hlt hlt'
        have hd := hg.ds _ (List.getElem_mem hlt')
        have hdn := hd.t.n
        have hnm := hd.name
        have r1 : ∀ M, Rd I M ((ad.add (i * 3)).add 0) 1 [.string g.ds[i].name] := fun M => (hrd M).part (k := 0) (m := 1) (by decide)
        have r2 : ∀ M, Rd I M (((ad.add (i * 3)).add 1).add 0) 1 [.slice g.ds[i].t.a g.ds[i].t.n g.ds[i].t.c] := fun M => ((hrd M).part (k := 1) (m := 2) (by decide)).part (k := 0) (m := 1) (by decide)
        generalize hdd : g.ds[i] = d at hd hdn r1 r2 hnm
        refine ArithOb.mk ((n + 5 : Nat) : Int) (wr_eq (by omega) (by omega)) ?_
        refine IdxOb.mk ad i had rfl hlt ?_
        refine LoadOb.mk _ (r1 _) ?_
        refine ArithOb.mk ((n + 5 + min 2500 d.name.size : Nat) : Int) (wr_eq (by omega) (by omega)) ?_
        refine LoopOb.inv (ι := Nat × Nat) (fun x => { fl := [(1, .ref 1 0), (3, .val (.int .i64 x.1)), (4, .val (.int .i64 i)), (5, .val (.int .i64 x.2))], cl := [(1, [.slice g.a g.n g.c])], gi := I }) (LongIn2 g d i) (fun x => d.t.n - x.2) ?_ ?_
        · exact ⟨(n + 5 + min 2500 d.name.size, 0), ⟨Nat.zero_le _, by simp only; omega, fun h => ⟨by simp only at h ⊢; omega, Nat.zero_le _, by simp only at h; omega, hds, fun j _ h => by simp at h⟩⟩, .refl, .cons .refl (.cons .refl (.cons .refl (.cons .refl .nil))), .cons rfl .nil⟩
        · rintro ⟨m, k⟩ ⟨hk, hm, hsm2⟩
          simp only at hk hm hsm2
          have out : (m < 2500 → k = d.t.n) → LongIn g (m, i + 1) := fun h1 => by
            refine ⟨by simp only; omega, hm, fun h2 => ?_⟩
            obtain ⟨g1, g2, g3, g4, g5⟩ := hsm2 h2
            have g6 := h1 h2
            refine ⟨g1, fun j hj hj2 => ?_⟩
            by_cases e : j = i
            · subst e
              rw [hdd]
              refine ⟨g3, by simp only at h2; omega, fun nd hnd => ?_⟩
              obtain ⟨q, hq, rfl⟩ := List.getElem_of_mem hnd
              exact g5 q hq (by omega)
            · exact g4 j hj (by simp only at hj2; omega)
          refine IdxOb.mk ad i had rfl hlt ?_
          refine LoadOb.mk _ (r2 _) ?_
          refine GuardOb.mk (fun h3 => ?_) (fun h3 => ?_)
          · have hkl : k < d.t.n := by simpa using h3
            refine CondOb.mk (fun h4 => ?_) (fun h4 => ?_)
            · have hm2 : m < 2500 := by have := of_decide_eq_true h4; omega
              obtain ⟨g1, g2, g3, g4, g5⟩ := hsm2 hm2
              have hkl' : k < d.t.ns.length := by omega
              obtain ⟨bd, hbd, hrb⟩ := hd.t.rs.row Nd.cells_len hkl hkl'
              have hnd := hd.t.ns _ (List.getElem_mem hkl')
              have hts := hnd.ts
              have r3 : ∀ M, Rd I M ((bd.add (k * 9)).add 8) 1 [.slice d.t.ns[k].ka d.t.ns[k].kn d.t.ns[k].kc] := fun M => (hrb M).part (k := 8) (m := 1) (by decide)
              have r4 : ∀ M, Rd I M ((bd.add (k * 9)).add 5) 1 [.string d.t.ns[k].t] := fun M => (hrb M).part (k := 5) (m := 1) (by decide)
              generalize hxx : d.t.ns[k] = nd at hnd hts r3 r4
              refine CodeOb.draw TrydEOK rfl rfl rfl ?_
              refine ArithOb.mk ((m + 1 : Nat) : Int) (wr_eq (by omega) (by omega)) ?_
              refine IdxOb.mk ad i had rfl hlt ?_
              refine LoadOb.mk _ (r2 _) ?_
              refine IdxOb.mk bd k hbd rfl hkl ?_
              refine LoadOb.mk _ (r3 _) ?_
              refine ArithOb.mk ((m + 1 + min 2500 nd.kn : Nat) : Int) (wr_eq (by omega) (by omega)) ?_
              refine IdxOb.mk ad i had rfl hlt ?_
              refine LoadOb.mk _ (r2 _) ?_
              refine IdxOb.mk bd k hbd rfl hkl ?_
              refine LoadOb.mk _ (r4 _) ?_
              refine DivOb.mk (by decide) ?_
              refine ArithOb.mk ((min 2500 nd.t.size / 20 : Nat) : Int) (wr_eq (by rw [Int.tdiv_eq_ediv_of_nonneg (by omega)]; omega) (by omega)) ?_
              refine ArithOb.mk ((m + 1 + min 2500 nd.kn + min 2500 nd.t.size / 20 : Nat) : Int) (wr_eq (by omega) (by omega)) ?_
              refine ArithOb.mk _ (next_wr (i := k) (by omega)) ?_
              refine ⟨(_, k + 1), ⟨⟨by simp only; omega, by simp only; omega, fun h5 => ?_⟩, by simp only; omega⟩, .refl, .cons .refl (.cons .refl (.cons .refl (.cons .refl .nil))), .cons rfl .nil⟩
              simp only at h5 ⊢
              refine ⟨by omega, by omega, g3, g4, fun j hj hj2 => ?_⟩
              by_cases e : j = k
              · subst e
                rw [hxx]
                exact ⟨by omega⟩
              · exact g5 j hj (by omega)
            · have hm2 : 2500 ≤ m := by have := of_decide_eq_false h4; omega
              refine ArithOb.mk _ (next_wr (i := i) (by omega)) ?_
              exact ⟨(m, i + 1), ⟨out fun h => by omega, by simp only; omega⟩, .refl, .cons .refl (.cons .refl (.cons .refl .nil)), .cons rfl .nil⟩
          · have hkl : d.t.n ≤ k := by simpa using h3
            refine ArithOb.mk _ (next_wr (i := i) (by omega)) ?_
            exact ⟨(m, i + 1), ⟨out fun h => by omega, by simp only; omega⟩, .refl, .cons .refl (.cons .refl (.cons .refl .nil)), .cons rfl .nil⟩
      · have hn2 : 2500 ≤ n := by have := of_decide_eq_false h2; omega
        exact ⟨_, _, .refl, ⟨_, rfl, done (fun h => by omega) rfl⟩, rfl, rfl⟩
    · have hge : g.n ≤ i := by simpa using h
      exact ⟨_, _, .refl, ⟨_, rfl, done (fun h => by omega) rfl⟩, rfl, rfl⟩
end Go.V
