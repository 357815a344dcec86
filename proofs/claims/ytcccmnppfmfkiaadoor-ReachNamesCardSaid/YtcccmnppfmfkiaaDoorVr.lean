/-
  A range over a function: the iterator's contract, the rounds, the statement.
-/
import Derived.Test.YtcccmnppfmfkiaaDoorVe
set_option linter.unusedVariables false
set_option linter.unusedSimpArgs false
namespace Go.V
open Go

/-- What a call of yield does: a round. -/
def SpecY (P : Program) (l : Nat) (args : List Value) (I : GH) (M : List Blk) (post : Value → GH → List Blk → Prop) : Prop :=
  ∀ w, Holds I M w → ∃ f tmps assign body, (Instr.yield l args.toArray).run P w = .ok (.round l f tmps assign body) w ∧
    RoundIn Fence.wide 0 P l f tmps assign body w fun e w' => ∃ v I' M', e = .returned v ∧ post v I' M' ∧ Holds I' M' w' ∧ Kept I M w I' M' w'

inductive CallObY (P : Program) (l : Nat) (args : List Value) (I : GH) (M : List Blk) (K : Value → GH → List Blk → Prop) : Prop
  | mk (Mc Mr : List Blk) (post : Value → GH → List Blk → Prop) (hM : M.Perm (Mc ++ Mr)) (hs : SpecY P l args I Mc post)
    (k : ∀ v I' M', (∀ b o, I b = some o → I' b = some o) → post v I' M' → K v I' (M' ++ Mr))

theorem OtherOb.yield {X : Ctx} {o : Oper} {F : Fr} {C : Bx} {I : GH} {M : List Blk} {K : KS} {f : Operand} {args : Array Operand} {ts : Array TypeId} {l : Nat} {vs : List Value} (ho : o.op = .call { callee := .value f, args, argTypes := ts })
    (hd : ∀ d, o.dst = some d → d < X.n) (hf : ev F f = .val (.func (.yield l) #[] #[])) (hvs : evs F args.toList = some vs)
    (h : CallObY X.P l vs I M fun v I' M' => K (put o.dst (.val v) F) C I' M') : OtherOb X o F C I M K := by
  refine ⟨fun a w Q ⟨β, hR⟩ => ?_⟩
  obtain ⟨Mc, Mr, post, hM, hs, hk⟩ := h
  obtain ⟨fn, tmps, assign, body, hy, hr⟩ := hs w (hR.holds.part hM)
  have e1 := evs_ok hR.fr hvs
  have e1' : args.map a.eval = vs.toArray := by apply Array.ext'; simpa using e1
  have e2 := eval_of_ev hR.fr hf
  obtain ⟨dst, op, ty, pos, after, guard⟩ := o
  simp only at ho
  subst ho
  refine ⟨fun _ _ => trivial, ?_⟩
  rw [Oper.semAt_eq _ _ _ (by simp)]
  have hrun : (execOp a.eval ⟨dst, .call { callee := .value f, args, argTypes := ts }, ty, pos, after, guard⟩).run X.P w = .ok (.round l fn tmps assign body) w := by
    simp only [execOp, resolve, e2, Deferred.ofValue, Sem.run_bind, Sem.run_pure, Result.andThen_ok, e1', invoke]
    simpa using hy
  rw [hrun, Oper.uponIn_round]
  refine ⟨(fun h => by cases h), ?_⟩
  have hr' : RoundIn (fen X) (0 - 1) X.P l fn tmps assign body w _ := hr
  refine hr'.mono ?_
  rintro e w' ⟨v, I', M', rfl, hp, hH', hK⟩
  exact ⟨_, _, _, _, ⟨β, (hR.after hM hH' hK).put (x := .val v) hd rfl⟩, hk v I' M' hK.le hp⟩

/-- **An iterator's contract**: it hands over these values, one after the other, and reads no more than what it is told of. -/
def Iter (P : Program) (g : Nat) (cap : List Value) (I : GH) (vals : List (List Value)) : Prop :=
  ∀ (l : Nat) (R : Nat → GH → List Blk → Prop) (Rx : GH → List Blk → Prop),
    (∀ k (hk : k < vals.length) I' M', (∀ b o, I b = some o → I' b = some o) → R k I' M' → SpecY P l vals[k] I' M' fun v I'' M'' => (v = .bool true ∧ R (k + 1) I'' M'') ∨ (v = .bool false ∧ Rx I'' M'')) →
    ∀ I0 M0, (∀ b o, I b = some o → I0 b = some o) → R 0 I0 M0 → SpecE P g (.func (.yield l) #[] #[] :: cap) I0 M0 fun _ I' M' => R vals.length I' M' ∨ Rx I' M'

def putAll : List Nat → List Value → Fr → Fr
  | t :: ps, v :: vs, F => putAll ps vs (upd F t (.val v))
  | _, _, F => F

def rK (foot : List Nat) (N : GH → List Blk → Prop) (Rx : Ex → GH → List Blk → Prop) : KX := fun ex F C I M => match ex with
  | .normal => RetOb foot I M N
  | ex => RetOb foot I M (Rx ex)

def codeOf : Ex → Option Code
  | .normal => none
  | .exit id => some (.exit id)
  | .goto l => some (.goto l)
  | .ret => some .ret

section
variable {X : Ctx} {β : Nat → Nat} {a : Act} {w : World} {F : Fr} {C : Bx} {I : GH} {M : List Blk}

theorem putAll_ok : ∀ (ps : List Nat) (vs : List Value) (F : Fr) (tmps : Array Value), (∀ t ∈ ps, t < tmps.size) → (∀ t, SVok β (F t) (tmps.getD t undef)) →
    let r := (ps.zip vs).foldl (fun (tmps : Array Value) (p : Nat × Value) => tmps.setIfInBounds p.1 p.2) tmps
    r.size = tmps.size ∧ ∀ t, SVok β (putAll ps vs F t) (r.getD t undef)
  | [], vs, F, tmps, _, h => ⟨rfl, h⟩
  | t :: ps, [], F, tmps, _, h => ⟨rfl, h⟩
  | t :: ps, v :: vs, F, tmps, hp, h => by
    have h1 : ∀ s, SVok β (upd F t (.val v) s) ((tmps.setIfInBounds t v).getD s undef) := fun s => by
      have := SVok_upd (β := β) (F := F) (a := ⟨tmps, []⟩) h (d := t) (x := .val v) (v := v) (hp t (by simp)) rfl s
      exact this
    have ih := putAll_ok ps vs (upd F t (.val v)) (tmps.setIfInBounds t v) (fun s hs => by simpa using hp s (by simp [hs])) h1
    simp only [List.zip_cons_cons, List.foldl_cons, putAll]
    exact ⟨by simpa using ih.1, ih.2⟩

theorem RelB.alloc_mark (h : RelB X β a w F C I M) : RelB X β { a with defers := markOf w.heap.size :: a.defers } (w.alloc (.deferred (some []))) F C I M where
  size := h.size
  defers := by
    obtain ⟨rs, h1, h2, h3⟩ := h.defers
    refine ⟨w.heap.size :: rs, by simp [h1], ?_, ?_⟩
    · rw [List.nodup_cons]
      refine ⟨fun hm => ?_, h2⟩
      have := (Array.getElem?_eq_some_iff.1 (h3 _ hm).at_).1
      omega
    · intro r hr
      rcases List.mem_cons.1 hr with rfl | hr
      · exact ⟨heapNew w _, h.sz, h.holds.freshI, h.holds.freshM⟩
      · exact (h3 r hr).alloc _
  holds := h.holds.alloc _
  fr := h.fr
  bx s cs hs := (h.bx s cs hs).alloc _
  inj := h.inj
  le0 := h.le0
  new0 := h.new0
  own := h.own
  old := old_alloc h.old h.sz _
  out := h.out
  sz := by have := h.sz; simp; omega

theorem RelB.dropM {n : Nat} {o o' : Obj} (h : RelB X β a w F C I (⟨n, o⟩ :: M)) : RelB X β a (w.putObj n o') F C I M := by
  have hx0 : (⟨n, o⟩ : Blk) ∈ (⟨n, o⟩ : Blk) :: M := by simp
  have hnd := h.holds.nd
  simp only [List.map_cons, List.nodup_cons] at hnd
  exact {
    size := h.size
    defers := h.defers.mono fun r hr => by
      have hne : n ≠ r := hr.noM _ hx0
      refine { hr with at_ := ?_, noM := fun x hx => hr.noM x (by simp [hx]) }
      rw [World.putObj_heap_other (Ne.symm hne)]
      exact hr.at_
    holds := {
      i := fun b o hbo => by
        rw [World.putObj_heap_other (fun e => by have := h.holds.d _ hx0; simp only at this; rw [e, this] at hbo; cases hbo)]
        exact h.holds.i b o hbo
      m := fun x hx => by
        rw [World.putObj_heap_other (fun e => hnd.1 (List.mem_map.2 ⟨x, hx, e⟩))]
        exact h.holds.m x (by simp [hx])
      d := fun x hx => h.holds.d x (by simp [hx])
      nd := hnd.2 }
    fr := h.fr
    bx := fun s cs hs => by
      have hb := h.bx s cs hs
      have hne : n ≠ β s := hb.noM _ hx0
      obtain ⟨T, hT⟩ := hb.at_
      refine { hb with at_ := ⟨T, ?_⟩, noM := fun x hx => hb.noM x (by simp [hx]) }
      rw [World.putObj_heap_other (Ne.symm hne)]
      exact hT
    inj := h.inj
    le0 := h.le0
    new0 := h.new0
    own := fun x hx => h.own x (by simp [hx])
    old := fun b hb hf => by
      rw [World.putObj_heap_other (fun e => by
        rcases h.own _ hx0 with h1 | h1
        · simp only at h1; exact hf (e ▸ h1)
        · simp only at h1; omega)]
      exact h.old b hb hf
    out := h.out.trans (putObj_same _ _ _)
    sz := by have := h.sz; simpa using this }

theorem CodeOb.range {K : KX} {f : Operand} {ps : Array Nat} {asg body : Code} {g : Nat} {cap : Array Value} {vals : List (List Value)} (hE : EOK X.P X.E) (hro : X.ro = none)
    (hok : (codeOk X.n asg && (codeOk X.n body && ps.toList.all (fun t => Nat.blt t X.n))) = true) (hev : ev F f = .val (.func (.func g) #[] cap)) {I1 : GH} {M1 : List Blk} (hwk : Wk X.foot I M I1 M1)
    (hit : Iter X.P g cap.toList I1 vals) (hlen : ∀ vs ∈ vals, vs.length = ps.size)
    (R : Nat → GH → List Blk → Prop) (Rx : Ex → GH → List Blk → Prop) (start : R 0 I1 M1)
    (round : ∀ k (hk : k < vals.length) I' M', (∀ b o, I1 b = some o → I' b = some o) → R k I' M' → ∀ l B h0 h0',
      V ⟨X.P, X.E, X.esc, X.n, B, h0, I', M'.map (·.num), some l⟩ asg (putAll ps.toList vals[k] F) (fun _ => none) I' M'
        (exK (fun F C I M => V ⟨X.P, X.E, X.esc, X.n, B, h0', I', M'.map (·.num), some l⟩ body F C I M (rK (M'.map (·.num)) (R (k + 1)) Rx)) (fun _ _ _ _ _ => False)))
    (done : ∀ I' M', (∀ b o, I1 b = some o → I' b = some o) → R vals.length I' M' → K .normal F C I' M')
    (stop : ∀ ex I' M', (∀ b o, I1 b = some o → I' b = some o) → Rx ex I' M' → ex ≠ .normal ∧ K ex F C I' M') :
    CodeOb X (.rangeFunc f ps asg body) F C I M K := by
  refine ⟨fun a w ⟨β, hR0⟩ => ?_⟩
  have hR := hR0.wk hwk
  simp only [Bool.and_eq_true] at hok
  obtain ⟨hok1, hok2, hok3⟩ := hok
  refine wpIn_rangeFunc fun fn _ => ?_
  let rc (s : LoopState) (pd : Option Code) : Loop := { state := s, pending := pd, fn := fn, tmps := a.tmps, params := ps, assign := asg, body := body, defers := w.heap.size }
  let l := w.heap.size + 1
  let w2 : World := (w.alloc (.deferred (some []))).alloc (.loop (rc .ready none))
  have hRm := hR.alloc_mark.alloc_blk (.loop (rc .ready none))
  have hl : (w.alloc (.deferred (some []))).heap.size = l := by simp [l]
  rw [hl] at hRm
  -- the protocol, with the record
  let R' (k : Nat) (I' : GH) (M' : List Blk) : Prop := ∃ M2, M' = ⟨l, .loop (rc .ready none)⟩ :: M2 ∧ R k I' M2
  let Rx' (I' : GH) (M' : List Blk) : Prop := ∃ ex c M2, codeOf ex = some c ∧ M' = ⟨l, .loop (rc .done (some c))⟩ :: M2 ∧ Rx ex I' M2
  have hy : ∀ k (hk : k < vals.length) I' M', (∀ b o, I1 b = some o → I' b = some o) → R' k I' M' → SpecY X.P l vals[k] I' M' fun v I'' M'' => (v = .bool true ∧ R' (k + 1) I'' M'') ∨ (v = .bool false ∧ Rx' I'' M'') := by
    rintro k hk I' _ hle ⟨M2, rfl, hRk⟩ W hW
    have hrec : W.heap[l]? = some (.loop (rc .ready none)) := hW.m ⟨l, .loop (rc .ready none)⟩ (by simp)
    have hlt : l < W.heap.size := (Array.getElem?_eq_some_iff.1 hrec).1
    have hnd := hW.nd
    simp only [List.map_cons, List.nodup_cons] at hnd
    have hIl : I' l = none := hW.d ⟨l, .loop (rc .ready none)⟩ (by simp)
    refine ⟨_, _, _, _, run_yield hrec (by simpa using hlen _ (List.getElem_mem hk)), ?_⟩
    have htm : ((rc LoopState.ready none).params.zip vals[k].toArray).foldl (fun tmps (x : Nat × Value) => match x with | (t, a) => tmps.setIfInBounds t a) (rc LoopState.ready none).tmps = (ps.toList.zip vals[k]).foldl (fun (tmps : Array Value) (p : Nat × Value) => tmps.setIfInBounds p.1 p.2) a.tmps := by
      rw [← Array.foldl_toList]
      simp [rc]
    have hpa := putAll_ok (β := β) ps.toList vals[k] F a.tmps (fun t ht => by
      have := List.all_eq_true.1 hok3 t ht
      rw [hR.size]
      exact Nat.le_of_ble_eq_true this) hR.fr
    rw [← htm] at hpa
    refine roundIn_of_wpIn (F := Fence.wide) (n := 0) trivial ?_
    let X1 : Ctx := ⟨X.P, X.E, X.esc, X.n, W.heap.size, W, I', M2.map (·.num), some l⟩
    let h0' := W.putObj l (.loop (rc .busy none))
    let X2 : Ctx := ⟨X.P, X.E, X.esc, X.n, W.heap.size, h0', I', M2.map (·.num), some l⟩
    have hv := round k hk I' M2 hle hRk l W.heap.size W h0'
    have hrel : RelB X1 β { tmps := ((rc LoopState.ready none).params.zip vals[k].toArray).foldl (fun tmps (x : Nat × Value) => match x with | (t, a) => tmps.setIfInBounds t a) (rc LoopState.ready none).tmps, defers := [] } W (putAll ps.toList vals[k] F) (fun _ => none) I' M2 := {
      size := hpa.1.trans hR.size
      defers := ⟨[], rfl, List.nodup_nil, fun r hr => by cases hr⟩
      holds := ⟨hW.i, fun x hx => hW.m x (by simp [hx]), fun x hx => hW.d x (by simp [hx]), hnd.2⟩
      fr := hpa.2
      bx := fun s cs hs => by cases hs
      inj := fun s s' h1 => by simp at h1
      le0 := fun b o hb => hb
      new0 := fun b o hb => .inl hb
      own := fun x hx => .inl (List.mem_map.2 ⟨x, hx, rfl⟩)
      old := fun b hb hf => rfl
      out := .refl _
      sz := Nat.le_refl _ }
    have hwp := V_sound (X := X1) hE asg hok1 ⟨β, hrel⟩ hv
    refine wpIn_mono (Q := SatX X1 _) hwp ?_
    intro e a1 w1 hs
    cases e with
    | exit id => obtain ⟨_, _, _, _, _, hk⟩ := hs; exact hk.elim
    | goto id => obtain ⟨_, _, _, _, _, hk⟩ := hs; exact hk.elim
    | ret => obtain ⟨_, _, _, _, _, hk⟩ := hs; exact hk.elim
    | panic ch => exact hs.elim
    | outgrown => exact hs.elim
    | normal =>
      obtain ⟨F1, C1, I2, M3, ⟨β1, hr1⟩, hv1⟩ := hs
      have hl1 : w1.heap[l]? = some (.loop (rc .ready none)) := by
        rw [hr1.old l hlt hnd.1]
        exact hrec
      refine ⟨_, run_beginRound hl1 rfl, ?_⟩
      have hIl2 : I2 l = none := by
        cases hI : I2 l with
        | none => rfl
        | some o =>
          rcases hr1.new0 _ _ hI with h1 | h1
          · rw [show X1.I0 = I' from rfl, hIl] at h1; cases h1
          · exact absurd h1 (Nat.not_le.2 hlt)
      have hMl2 : ∀ x ∈ M3, x.num ≠ l := fun x hx e => by
        rcases hr1.own x hx with h1 | h1
        · rw [e] at h1; exact hnd.1 h1
        · rw [e] at h1; exact absurd h1 (Nat.not_le.2 hlt)
      have hr2 : RelB X2 β1 a1 (w1.putObj l (.loop (rc .busy none))) F1 C1 I2 M3 := {
        size := hr1.size
        defers := by
          obtain ⟨rs, g1, g2, g3⟩ := hr1.defers
          refine ⟨rs, g1, g2, fun r hrr => ?_⟩
          have hr := g3 r hrr
          refine { at_ := ?_, base := hr.base, noI := hr.noI, noM := hr.noM }
          rw [World.putObj_heap_other (fun e => by have h1 := hr.at_; rw [e, hl1] at h1; cases h1)]
          exact hr.at_
        holds := {
          i := fun b o hbo => by
            rw [World.putObj_heap_other (fun e => by rw [e, hIl2] at hbo; cases hbo)]
            exact hr1.holds.i b o hbo
          m := fun x hx => by
            rw [World.putObj_heap_other (hMl2 x hx)]
            exact hr1.holds.m x hx
          d := hr1.holds.d
          nd := hr1.holds.nd }
        fr := hr1.fr
        bx := fun s cs hs => by
          have hb := hr1.bx s cs hs
          obtain ⟨T, hT⟩ := hb.at_
          refine { at_ := ⟨T, ?_⟩, base := hb.base, noI := hb.noI, noM := hb.noM }
          rw [World.putObj_heap_other (fun e => by rw [e, hl1] at hT; cases hT)]
          exact hT
        inj := hr1.inj
        le0 := hr1.le0
        new0 := hr1.new0
        own := hr1.own
        old := fun b hb hf => by
          by_cases e : b = l
          · subst e
            rw [World.putObj_heap_same (Array.getElem?_eq_some_iff.1 hl1).1]
            exact (World.putObj_heap_same hlt).symm
          · rw [World.putObj_heap_other e]
            show _ = (W.putObj l (.loop (rc .busy none))).heap[b]?
            rw [World.putObj_heap_other e]
            exact hr1.old b hb hf
        out := ⟨hr1.out.1, hr1.out.2⟩
        sz := by have := hr1.sz; simpa using this }
      have hwp2 := V_sound (X := X2) hE body hok2 ⟨β1, hr2⟩ hv1
      refine wpIn_mono (Q := SatX X2 _) hwp2 ?_
      -- how a round ends
      have fin : ∀ (a3 : Act) (w3 : World) (F3 : Fr) (C3 : Bx) (I3 : GH) (M4 : List Blk) (jump : Option Code), Rel X2 a3 w3 F3 C3 I3 M4 → ∃ w4, (Instr.endRound l jump).run X.P w3 = .ok (.bool jump.isNone) w4 ∧
          Holds I3 (⟨l, .loop (rc (if jump.isNone then .ready else .done) jump)⟩ :: M4) w4 ∧ Kept I' (⟨l, .loop (rc .ready none)⟩ :: M2) W I3 (⟨l, .loop (rc (if jump.isNone then .ready else .done) jump)⟩ :: M4) w4 := by
        rintro a3 w3 F3 C3 I3 M4 jump ⟨β3, h3⟩
        have hl3 : w3.heap[l]? = some (.loop (rc .busy none)) := by
          rw [h3.old l hlt hnd.1]
          exact World.putObj_heap_same hlt
        have hIl3 : I3 l = none := by
          cases hI : I3 l with
          | none => rfl
          | some o =>
            rcases h3.new0 _ _ hI with h1 | h1
            · rw [show X2.I0 = I' from rfl, hIl] at h1; cases h1
            · exact absurd h1 (Nat.not_le.2 hlt)
        have hMl3 : ∀ x ∈ M4, x.num ≠ l := fun x hx e => by
          rcases h3.own x hx with h1 | h1
          · rw [e] at h1; exact hnd.1 h1
          · rw [e] at h1; exact absurd h1 (Nat.not_le.2 hlt)
        refine ⟨_, run_endRound jump hl3, ?_, ?_⟩
        · exact {
            i := fun b o hbo => by
              rw [World.putObj_heap_other (fun e => by rw [e, hIl3] at hbo; cases hbo)]
              exact h3.holds.i b o hbo
            m := fun x hx => by
              rcases List.mem_cons.1 hx with rfl | hx
              · exact World.putObj_heap_same (Array.getElem?_eq_some_iff.1 hl3).1
              · rw [World.putObj_heap_other (hMl3 x hx)]
                exact h3.holds.m x hx
            d := fun x hx => by
              rcases List.mem_cons.1 hx with rfl | hx
              · exact hIl3
              · exact h3.holds.d x hx
            nd := by
              simp only [List.map_cons, List.nodup_cons]
              refine ⟨fun hm => ?_, h3.holds.nd⟩
              obtain ⟨x, hx, e⟩ := List.mem_map.1 hm
              exact hMl3 x hx e }
        · exact {
            le := h3.le0
            newI := h3.new0
            newM := fun x hx => by
              rcases List.mem_cons.1 hx with rfl | hx
              · exact .inl ⟨⟨l, .loop (rc .ready none)⟩, by simp, rfl⟩
              · rcases h3.own x hx with h1 | h1
                · obtain ⟨y, hy, e⟩ := List.mem_map.1 h1
                  exact .inl ⟨y, by simp [hy], e⟩
                · exact .inr h1
            old := fun b hb hne => by
              have hbl : b ≠ l := fun e => hne ⟨l, .loop (rc .ready none)⟩ (by simp) e.symm
              rw [World.putObj_heap_other hbl, h3.old b hb (fun hm => by
                obtain ⟨y, hy, e⟩ := List.mem_map.1 hm
                exact hne y (by simp [hy]) e)]
              exact World.putObj_heap_other hbl
            out := ⟨h3.out.1, h3.out.2⟩
            sz := by have := h3.sz; simpa using this }
      intro e a3 w3 hs3
      cases e with
      | normal =>
        obtain ⟨F3, C3, I3, M4, ⟨β3, h3⟩, ⟨I4, M5, hw5, hp⟩⟩ := hs3
        obtain ⟨w4, h4, h5, h6⟩ := fin a3 w3 F3 C3 I4 M5 none ⟨β3, h3.wk hw5⟩
        exact ⟨_, w4, h4, _, _, _, rfl, .inl ⟨rfl, _, rfl, hp⟩, h5, h6⟩
      | exit id =>
        obtain ⟨F3, C3, I3, M4, ⟨β3, h3⟩, ⟨I4, M5, hw5, hp⟩⟩ := hs3
        obtain ⟨w4, h4, h5, h6⟩ := fin a3 w3 F3 C3 I4 M5 (some (.exit id)) ⟨β3, h3.wk hw5⟩
        exact ⟨_, w4, h4, _, _, _, rfl, .inr ⟨rfl, .exit id, _, _, rfl, rfl, hp⟩, h5, h6⟩
      | goto id =>
        obtain ⟨F3, C3, I3, M4, ⟨β3, h3⟩, ⟨I4, M5, hw5, hp⟩⟩ := hs3
        obtain ⟨w4, h4, h5, h6⟩ := fin a3 w3 F3 C3 I4 M5 (some (.goto id)) ⟨β3, h3.wk hw5⟩
        exact ⟨_, w4, h4, _, _, _, rfl, .inr ⟨rfl, .goto id, _, _, rfl, rfl, hp⟩, h5, h6⟩
      | ret =>
        obtain ⟨F3, C3, I3, M4, ⟨β3, h3⟩, ⟨I4, M5, hw5, hp⟩⟩ := hs3
        obtain ⟨w4, h4, h5, h6⟩ := fin a3 w3 F3 C3 I4 M5 (some .ret) ⟨β3, h3.wk hw5⟩
        exact ⟨_, w4, h4, _, _, _, rfl, .inr ⟨rfl, .ret, _, _, rfl, rfl, hp⟩, h5, h6⟩
      | panic ch => exact hs3.elim
      | outgrown => exact hs3.elim
  obtain ⟨hent, hcalls⟩ := hit l R' Rx' hy I1 (⟨l, .loop (rc .ready none)⟩ :: M1) (fun _ _ h => h) ⟨M1, rfl, start⟩
  have hcall := hcalls w2 hRm.holds
  have e2 := eval_of_ev hR.fr hev
  refine ⟨l, [markOf w.heap.size], w2, { target := .fn (.func g) cap, args := #[.func (.yield l) #[] #[]] }, w2, g, (.func (.yield l) #[] #[] :: cap.toList).toArray, w2, ?_, ?_, fun _ _ => trivial, ?_, (fun h => by cases h), ?_⟩
  · have hro' : (fen X).round = none := hro
    rw [hro']
    exact run_enterLoop_outer fn a.tmps ps asg body
  · show (Deferred.ofValue (a.eval f) (#[Operand.const (.func (.yield l) #[] #[])].map a.eval)).run X.P w2 = _
    rw [e2]
    simp [Deferred.ofValue, Act.eval]
  · simp only [invoke]
    rw [show #[Value.func (.yield l) #[] #[]] ++ cap = (.func (.yield l) #[] #[] :: cap.toList).toArray from by apply Array.ext'; simp]
    exact hent _ _
  · refine (calls_fen (X := X) hcall _).mono ?_
    rintro e w3 ⟨v, I', M', rfl, hp, hH', hK⟩
    have hr3 := hRm.after (Mr := []) (by simp) hH' hK
    rw [List.append_nil] at hr3
    have hle := hK.le
    rcases hp with ⟨M2, rfl, hRn⟩ | ⟨ex, c, M2, hc, rfl, hRe⟩
    · refine ⟨none, _, run_endLoop (hH'.m ⟨l, .loop (rc .ready none)⟩ (by simp)) (by simp [rc]), ?_⟩
      exact ⟨F, C, I', M2, ⟨β, hr3.dropM⟩, done I' M2 hle hRn⟩
    · refine ⟨some c, _, run_endLoop (hH'.m ⟨l, .loop (rc .done (some c))⟩ (by simp)) (by simp [rc]), ?_⟩
      obtain ⟨hne, hk⟩ := stop ex I' M2 hle hRe
      cases ex with
      | normal => exact (hne rfl).elim
      | exit id => cases hc; exact wpIn_exit ⟨F, C, I', M2, ⟨β, hr3.dropM⟩, hk⟩
      | goto id => cases hc; exact wpIn_goto ⟨F, C, I', M2, ⟨β, hr3.dropM⟩, hk⟩
      | ret => cases hc; exact wpIn_ret ⟨F, C, I', M2, ⟨β, hr3.dropM⟩, hk⟩
end
end Go.V
