/-
  Part 8 of what the proofs of this seat share: the executor, data in memory, walks.
-/
import Derived.Test.YtmijfbjkkllhlaaGreatDoorK7
import Derived.Test.YtmijfbjkkllhlaaGreatDoorK3
import Derived.Test.YtmijfbjkkllhlaaGreatDoorK5
import Derived.Test.YtmijfbjkkllhlaaGreatDoorK6

/-
  Code, calls, loops over functions: as told.
-/
set_option linter.unusedVariables false
set_option linter.unusedSimpArgs false
namespace Go.V
open Go

theorem Spec.weakK {P : Program} {f : Nat} {args : List Value} {I : GH} {M : List Blk} {p q : Value → GH → List Blk → Prop} (h : Spec P f args I M p) (hk : ∀ v I' M', p v I' M' → q v I' M') : Spec P f args I M q := by
  rcases h with ⟨h1, h2⟩ | h
  · refine .inl ⟨h1, fun w hw => ?_⟩
    refine (h2 w hw).mono ?_
    rintro e w' ⟨v, I', M', e1, e2, e3, e4⟩
    exact ⟨v, I', M', e1, hk _ _ _ e2, e3, e4⟩
  · refine .inr fun w hw => ?_
    obtain ⟨v, w', I', M', e1, e2, e3, e4⟩ := h w hw
    exact ⟨v, w', I', M', e1, hk _ _ _ e2, e3, e4⟩

section
variable {Y : RK} {D : Nm} {m m' : Me} {I : GH} {M : List Blk}

theorem callB_ok (hE : EOK Y.P Y.E) (hF : FunsOK Y.P) (hpr : PrimOK Y) {f : Nat} (hc : CodeOK Y f) {g : Nat} {args : List EV} {v : EV} {us : List Value} (h : callB Y (E_code Y f) g args m = some (v, m')) (hu : VRs D args us) (hm : MS Y D m I M) :
    SpecE Y.P g us I M fun r I' M' => ∃ D', D.ext D' m.n ∧ VR D' v r ∧ MS Y D' m' I' M' := by
  unfold callB at h
  obtain ⟨fn, hf, h1⟩ := opn_eq h
  obtain ⟨c, hb, h2⟩ := opn_eq h1
  obtain ⟨hle, h3⟩ := cnd_some h2
  obtain ⟨fr, g1, g2⟩ := Tri.puts_ok args (Tri.bare 12) 0
  rw [g1] at h3
  have hfr : ∀ t w, fr.get t = some w → args[t]? = some w := fun t w hw => by
    rcases g2 t w hw with ⟨_, h⟩ | ⟨_, h⟩
    · simpa using h
    · rw [bare_get] at h; cases h
  unfold callRk at h3
  split at h3
  · rename_i fr' m1 hx
    unfold retE at h3
    obtain ⟨vs, hr, h4⟩ := opn_eq h3
    cases h4
    exact call_fn hE hF hpr hc hf hb (Nat.le_of_ble_eq_true hle) hfr (.inl rfl) hx hr rfl hu hm
  · rename_i fr' m1 hx
    unfold retE at h3
    obtain ⟨vs, hr, h4⟩ := opn_eq h3
    cases h4
    exact call_fn hE hF hpr hc hf hb (Nat.le_of_ble_eq_true hle) hfr (.inr rfl) hx hr rfl hu hm
  · cases h3

theorem callF_ok (hE : EOK Y.P Y.E) (hF : FunsOK Y.P) (hpr : PrimOK Y) {f : Nat} (hc : CodeOK Y f) {g : Nat} {args : List EV} {v : EV} {us : List Value} (h : callF Y (E_code Y f) g args m = some (v, m')) (hu : VRs D args us) (hm : MS Y D m I M) :
    Spec Y.P g us I M fun r I' M' => ∃ D', D.ext D' m.n ∧ VR D' v r ∧ MS Y D' m' I' M' := by
  unfold callF at h
  cases hp : Y.pr g args m with
  | none => rw [hp] at h; exact .inl (callB_ok hE hF hpr hc h hu hm)
  | some p =>
    rw [hp] at h
    have h' : some p = some (v, m') := h
    cases h'
    exact hpr g args m v m' hp D I M us hu hm

/-! ### Rounds -/
theorem RelB.kept {X : Ctx} {β : Nat → Nat} {a : Act} {w W : World} {F : Fr} {C : Bx} {I0 I' : GH} {M0 M' : List Blk} (h : RelB X β a w F C I' M') (h1 : X.h0 = W) (h2 : X.B = W.heap.size) (h3 : X.I0 = I0) (h4 : X.foot = M0.map (·.num)) : Kept I0 M0 W I' M' w where
  le := by rw [← h3]; exact h.le0
  newI b o hb := by
    rcases h.new0 b o hb with h5 | h5
    · exact .inl (by rw [← h3]; exact h5)
    · exact .inr (by rw [← h2]; exact h5)
  newM x hx := by
    rcases h.own x hx with h5 | h5
    · rw [h4] at h5
      obtain ⟨y, hy, e⟩ := List.mem_map.1 h5
      exact .inl ⟨y, hy, e⟩
    · exact .inr (by rw [← h2]; exact h5)
  old b hb hn := by
    rw [← h1]
    refine h.old b (by rw [h2]; exact hb) fun hm => ?_
    rw [h4] at hm
    obtain ⟨y, hy, e⟩ := List.mem_map.1 hm
    exact hn y hy e
  out := by rw [← h1]; exact h.out
  sz := by rw [← h2]; exact h.sz

theorem putAllE_ok {R : Type} : ∀ {ps : List Nat} {args : List EV} {fr0 : Tri EV} {K : Tri EV → Option R} {r : R} {us : List Value} {tmps : Array Value}, putAllE ps args fr0 K = some r → VRs D args us → (∀ t ∈ ps, t < tmps.size) → (∀ t v, fr0.get t = some v → VR D v (tmps.getD t undef)) →
    ∃ fr1, K fr1 = some r ∧ us.length = ps.length ∧ ((ps.zip us).foldl (fun (tmps : Array Value) (p : Nat × Value) => tmps.setIfInBounds p.1 p.2) tmps).size = tmps.size ∧
      ∀ t v, fr1.get t = some v → VR D v (((ps.zip us).foldl (fun (tmps : Array Value) (p : Nat × Value) => tmps.setIfInBounds p.1 p.2) tmps).getD t undef)
  | [], [], fr0, K, r, us, tmps, h, hu, hp, h0 => by
    have := hu.unnil
    subst this
    exact ⟨fr0, h, rfl, rfl, h0⟩
  | [], _ :: _, fr0, K, r, us, tmps, h, hu, hp, h0 => by simp [putAllE] at h
  | _ :: _, [], fr0, K, r, us, tmps, h, hu, hp, h0 => by simp [putAllE] at h
  | t0 :: ps, v0 :: args, fr0, K, r, us, tmps, h, hu, hp, h0 => by
    obtain ⟨x, xs, g1, g2, rfl⟩ := hu.uncons
    simp only [putAllE] at h
    obtain ⟨fr1, h1, h2⟩ := Tri.set_ok (some v0) fr0 t0
    rw [h1] at h
    have hlt := hp t0 (by simp)
    obtain ⟨fr2, h3, h4, h5, h6⟩ := putAllE_ok (tmps := tmps.setIfInBounds t0 x) h g2 (fun t ht => by simpa using hp t (by simp [ht])) fun t v ht => by
      rw [Array.getD_eq_getD_getElem?, Array.getElem?_setIfInBounds]
      rcases h2 t v ht with ⟨rfl, e⟩ | ⟨hne, hg⟩
      · have := (some_inj' e)
        subst this
        simp only [if_true, hlt]
        exact g1
      · rw [if_neg (Ne.symm hne), ← Array.getD_eq_getD_getElem?]
        exact h0 t v hg
    exact ⟨fr2, h3, by simp [h4], by simpa using h5, h6⟩

theorem EntR.loopE {E : Env} {a : Loc} {b : Bool} {n : Nat} {fr : Tri EV} {ps : List Nat} {asg body : Code} (h : EntR D E M a (.loop b n fr ps asg body)) : ∃ L, (⟨a.b, .loop L⟩ : Blk) ∈ M ∧ LpR D b n fr ps asg body L := by
  cases h with
  | loop L h1 h2 => exact ⟨L, h1, h2⟩
theorem EntR.doneE {E : Env} {a : Loc} {c : Code} {n : Nat} {fr : Tri EV} {ps : List Nat} {asg body : Code} (h : EntR D E M a (.done c n fr ps asg body)) : ∃ L, (⟨a.b, .loop L⟩ : Blk) ∈ M ∧ L.state = .done ∧ L.pending = some c := by
  cases h with
  | done L h1 h2 h3 => exact ⟨L, h1, h2, h3⟩
theorem LpR.mono {D' : Nm} (hD : D.le D') {b : Bool} {n : Nat} {fr : Tri EV} {ps : List Nat} {asg body : Code} {L : Loop} (h : LpR D b n fr ps asg body L) : LpR D' b n fr ps asg body L := { h with fr := fun t v ht => (h.fr t v ht).mono hD }

/-- A block of another kind, written anew. -/
theorem MS.swap (h : MS Y D m I M) {t' : Tri Ent} {l : Nat} {e0 e1 : Ent} {al : Loc} {o o' : Obj} {Mr : List Blk} (hg : m.t.get l = some e0) (ha : D l = some al) (hM : M.Perm (⟨al.b, o⟩ :: Mr)) (ht : ∀ id e, t'.get id = some e → (id = l ∧ some e1 = some e) ∨ (id ≠ l ∧ m.t.get id = some e))
    (he : EntR D Y.E (⟨al.b, o'⟩ :: Mr) al e1) : MS Y D ⟨t', m.n⟩ I (⟨al.b, o'⟩ :: Mr) := by
  refine h.step (fun id e hi => (ht id e hi).imp (fun q => ⟨q.1, some_inj' q.2⟩) fun q => q) ha (Nm.le_refl D) (fun _ _ => rfl) h.dom (fun _ _ h => h) (fun id e a' hne hi hai x hx hn => ?_) he fun id e a' hne hi hai hb => hne (h.inj _ _ _ _ _ _ hi hg hai ha hb)
  rcases List.mem_cons.1 (hM.mem_iff.1 hx) with rfl | hx
  · exact (hne (h.inj _ _ _ _ _ _ hi hg hai ha hn.symm)).elim
  · exact List.mem_cons_of_mem _ hx
end
end Go.V

/-
  A round of a loop over a function, as told.
-/
set_option linter.unusedVariables false
set_option linter.unusedSimpArgs false
namespace Go.V
open Go

section
variable {Y : RK} {D : Nm} {m m' : Me} {I : GH} {M : List Blk}

theorem callY_ok {f : Nat} (hc : CodeOK Y f) {l : Nat} {args : List EV} {v : EV} {us : List Value} {al : Loc} (h : callY (E_code Y f) l args m = some (v, m')) (hl : D l = some al) (hu : VRs D args us) (hm : MS Y D m I M) :
    SpecY Y.P al.b us I M fun r I' M' => ∃ D', D.ext D' m.n ∧ VR D' v r ∧ MS Y D' m' I' M' := by
  unfold callY at h
  split at h
  · rename_i n fr0 ps asg body hg
    obtain ⟨L, hM, hL⟩ := (hm.ent _ _ _ hg hl).loopE
    intro W hW
    have hrec : W.heap[al.b]? = some (.loop L) := hW.m _ hM
    have hst : L.state = .ready := hL.st
    have hops : ∀ t ∈ ps, t < L.tmps.size := fun t ht => by rw [hL.sz]; exact hL.op t (by rw [hL.ps]; exact ht)
    obtain ⟨fr1, h1, hlen, hsz, hfr1⟩ := putAllE_ok (tmps := L.tmps) h hu hops hL.fr
    have hps : L.params.size = ps.length := by rw [← hL.ps]; simp
    refine ⟨_, _, _, _, run_yield hrec (by rw [hps]; simpa using hlen), ?_⟩
    have htm : (L.params.zip us.toArray).foldl (fun tmps (x : Nat × Value) => match x with | (t, a) => tmps.setIfInBounds t a) L.tmps = (ps.zip us).foldl (fun (tmps : Array Value) (p : Nat × Value) => tmps.setIfInBounds p.1 p.2) L.tmps := by
      rw [← Array.foldl_toList, ← hL.ps]
      simp
    rw [htm]
    generalize hT : (ps.zip us).foldl (fun (tmps : Array Value) (p : Nat × Value) => tmps.setIfInBounds p.1 p.2) L.tmps = T at hfr1 hsz
    rw [hL.asg, hL.body]
    have hoa : okC n asg = true := by rw [← hL.asg]; exact hL.oa
    have hob : okC n body = true := by rw [← hL.body]; exact hL.ob
    refine roundIn_of_wpIn (F := Fence.wide) (n := 0) trivial ?_
    let X1 : Ctx := RkX Y n W.heap.size W I (M.map (·.num)) (some al.b)
    have hrel : RelB X1 (fun _ => 0) { tmps := T, defers := [] } W (fun t => .val (T.getD t undef)) (fun _ => none) I M := {
      size := hsz.trans hL.sz
      defers := ⟨[], rfl, List.nodup_nil, fun r hr => by cases hr⟩
      holds := hW
      fr := fun t => rfl
      bx := fun s cs hs => by cases hs
      inj := fun s s' h1 => by simp at h1
      le0 := fun b o hb => hb
      new0 := fun b o hb => .inl hb
      own := fun x hx => .inl (List.mem_map.2 ⟨x, hx, rfl⟩)
      old := fun b hb hf => rfl
      out := .refl _
      sz := Nat.le_refl _ }
    unfold begR at h1
    split at h1
    · rename_i fr2 m2 hasg
      have hs1 : St X1 Y.G Y.pr D m.n fr1 m { tmps := T, defers := [] } W := ⟨D, _, _, I, M, ⟨_, hrel⟩, fun t v hv => .val (hfr1 t v hv), hm, Nm.ext_refl, Nat.le_refl _⟩
      refine wpIn_mono (hc _ _ _ _ _ _ _ _ hasg hoa _ _ _ _ _ D m.n _ _ (fun e => by cases e) hs1) ?_
      rintro e a1 w1 ⟨rfl, D2, F2, C2, I2, M2, ⟨β2, hR2⟩, hF2, hm2, hx2, hn2⟩
      have hl2 : D2 l = some al := by rw [hx2 l (hm.dom _ _ hl)]; exact hl
      have h2 : begQ (E_code Y f) l n body (m2.t.get l) fr2 m2 = some (v, m') := h1
      unfold begQ at h2
      split at h2
      · rename_i n' fr0' ps' asg' body' hg2
        obtain ⟨L2, hM2, hL2⟩ := (hm2.ent _ _ _ hg2 hl2).loopE
        obtain ⟨pre, post, hsp⟩ := List.append_of_mem hM2
        have hperm : M2.Perm (⟨al.b, .loop L2⟩ :: (pre ++ post)) := by rw [hsp]; exact List.perm_middle
        have hh1 : w1.heap[al.b]? = some (.loop L2) := hR2.holds.m _ hM2
        have hlt1 := (Array.getElem?_eq_some_iff.1 hh1).1
        refine ⟨_, run_beginRound hh1 hL2.st, ?_⟩
        obtain ⟨t3, h3, h4⟩ := Tri.set_ok (some (Ent.loop true n' fr0' ps' asg' body')) m2.t l
        rw [h3] at h2
        have hR3 : RelB X1 β2 a1 (w1.putObj al.b (.loop { L2 with state := .busy })) F2 C2 I2 (⟨al.b, .loop { L2 with state := .busy }⟩ :: (pre ++ post)) :=
          (hR2.wk (.perm hperm .refl)).swap (by simp) (World.putObj_heap_same hlt1) (fun b hb => World.putObj_heap_other hb) (putObj_same _ _ _)
        have hm3 : MS Y D2 ⟨t3, m2.n⟩ I2 (⟨al.b, .loop { L2 with state := .busy }⟩ :: (pre ++ post)) := hm2.swap hg2 hl2 hperm h4 (.loop { L2 with state := .busy } (by simp) ⟨rfl, hL2.pd, hL2.sz, hL2.fr, hL2.ps, hL2.asg, hL2.body, hL2.oa, hL2.ob, hL2.op⟩)
        unfold endRk at h2
        obtain ⟨⟨ex, fr4, m4⟩, hbody, h5⟩ := opn_eq h2
        have hs3 : St X1 Y.G Y.pr D m.n fr2 ⟨t3, m2.n⟩ a1 (w1.putObj al.b (.loop { L2 with state := .busy })) := ⟨D2, F2, C2, I2, _, ⟨β2, hR3⟩, hF2, hm3, hx2, hn2⟩
        refine wpIn_mono (hc _ _ _ _ _ _ _ _ hbody hob _ _ _ _ _ D m.n _ _ (fun e => by cases e) hs3) ?_
        rintro e a4 w4 ⟨rfl, D4, F4, C4, I4, M4, ⟨β4, hR4⟩, hF4, hm4, hx4, hn4⟩
        have hl4 : D4 l = some al := by rw [hx4 l (hm.dom _ _ hl)]; exact hl
        have h6 : endQ l (m4.t.get l) (codeOf ex) m4 = some (v, m') := h5
        unfold endQ at h6
        split at h6
        · rename_i n4 fr04 ps4 asg4 body4 hg4
          obtain ⟨L4, hM4, hL4⟩ := (hm4.ent _ _ _ hg4 hl4).loopE
          obtain ⟨pre4, post4, hsp4⟩ := List.append_of_mem hM4
          have hperm4 : M4.Perm (⟨al.b, .loop L4⟩ :: (pre4 ++ post4)) := by rw [hsp4]; exact List.perm_middle
          have hh4 : w4.heap[al.b]? = some (.loop L4) := hR4.holds.m _ hM4
          have hlt4 := (Array.getElem?_eq_some_iff.1 hh4).1
          obtain ⟨t5, h7, h8⟩ := Tri.set_ok (some (opn (codeOf ex) (Ent.loop false n4 fr04 ps4 asg4 body4) fun c => Ent.done c n4 fr04 ps4 asg4 body4)) m4.t l
          rw [h7] at h6
          cases h6
          have fin : ∀ jump, codeOf ex = jump → ∃ v' w', (Instr.endRound al.b jump).run Y.P w4 = .ok v' w' ∧ ∃ r I' M', Ending.returned v' = .returned r ∧ (∃ D', D.ext D' m.n ∧ VR D' (.b (codeOf ex).isNone) r ∧ MS Y D' ⟨t5, m4.n⟩ I' M') ∧ Holds I' M' w' ∧ Kept I M W I' M' w' := by
            rintro jump hj
            let L5 : Loop := { L4 with state := if jump.isNone then .ready else .done, pending := jump }
            have hR5 : RelB X1 β4 a4 (w4.putObj al.b (.loop L5)) F4 C4 I4 (⟨al.b, .loop L5⟩ :: (pre4 ++ post4)) :=
              (hR4.wk (.perm hperm4 .refl)).swap (by simp) (World.putObj_heap_same hlt4) (fun b hb => World.putObj_heap_other hb) (putObj_same _ _ _)
            refine ⟨_, _, run_endRound jump hh4, _, I4, _, rfl, ⟨D4, hx4, ?_, hm4.swap hg4 hl4 hperm4 h8 ?_⟩, hR5.holds, hR5.kept rfl rfl rfl rfl⟩
            · rw [hj]
              simp [VR]
            · rw [hj]
              cases jump with
              | none => exact .loop L5 (by simp) ⟨rfl, rfl, hL4.sz, hL4.fr, hL4.ps, hL4.asg, hL4.body, hL4.oa, hL4.ob, hL4.op⟩
              | some c => exact .done L5 (by simp) rfl rfl
          cases ex with
          | normal => exact fin none rfl
          | exit id => exact fin _ rfl
          | goto t => exact fin _ rfl
          | ret => exact fin _ rfl
        · cases h6
      · cases h2
    · cases h1
  · cases h
end
end Go.V

/-
  The reckoner is right: code, calls.
-/
set_option linter.unusedVariables false
set_option linter.unusedSimpArgs false
namespace Go.V
open Go

section
variable {Y : RK}

theorem call_ok (hE : EOK Y.P Y.E) (hF : FunsOK Y.P) (hpr : PrimOK Y) {f : Nat} (hc : CodeOK Y f) : CallOK Y (E_call Y (E_code Y f)) := fun fv l m v m' h D I M u us hfv hus hm => by
  unfold E_call at h
  split at h
  · rename_i g fs cs
    simp only [VR] at hfv
    obtain ⟨vs, ws, h1, h2, rfl⟩ := hfv
    refine .inl ⟨g, _, _, rfl, ?_⟩
    have := callF_ok hE hF hpr hc h (h1.append (hus.append h2)) hm
    simpa using this
  · rename_i q
    simp only [VR] at hfv
    obtain ⟨al, h1, rfl⟩ := hfv
    exact .inr ⟨al.b, rfl, callY_ok hc h h1 hus hm⟩
  · cases h

theorem St.world {X : Ctx} {G : GT} {pr : PR} {D0 : Nm} {n0 : Nat} {fr : Tri EV} {m : Me} {a : Act} {w : World} (h : St X G pr D0 n0 fr m a w) : ∃ D F β, (∀ t, SVok β (F t) (a.tmps.getD t undef)) ∧ FR D F fr := by
  obtain ⟨D, F, C, I, M, ⟨β, hR⟩, hF, _⟩ := h
  exact ⟨D, F, β, hR.fr, hF⟩
theorem St.eval {X : Ctx} {G : GT} {pr : PR} {D0 : Nm} {n0 : Nat} {fr : Tri EV} {m : Me} {a : Act} {w : World} (h : St X G pr D0 n0 fr m a w) {x : Operand} {b : Bool} (hx : rdO fr x = some (.b b)) : a.eval x = .bool b := by
  obtain ⟨D, F, β, h1, h2⟩ := h.world
  obtain ⟨u, e1, g1⟩ := (h2.op [x]).ev (x := x) (by simp) hx
  rw [eval_of_ev h1 e1, g1.bool]
theorem SvE.ok {D : Nm} {β : Nat → Nat} {x : SV} {v : EV} {u : Value} (h : SvE D x v) (hx : SVok β x u) : VR D v u := by
  rcases h with ⟨y, rfl, h⟩ | ⟨q, rfl, rfl⟩
  · have : u = y := hx
    subst this
    exact h
  · have : u = .bool q := hx
    subst this
    simp [VR]

theorem range_ok (hE : EOK Y.P Y.E) (hF : FunsOK Y.P) (hpr : PrimOK Y) {f : Nat} (hc : CodeOK Y f) {top : Bool} {n : Nat} {x : Operand} {ps : Array Tmp} {asg body : Code} {fr fr' : Tri EV} {m m' : Me} {ex : Ex} (h : c_range Y (E_code Y f) top n (rdO fr x) ps.toList asg body fr m = some (ex, fr', m'))
    (hok : okC n (.rangeFunc x ps asg body) = true) {B : Nat} {h0 : World} {I0 : GH} {foot : List Nat} {ro : Option Nat} {D0 : Nm} {n0 : Nat} {a : Act} {w : World} (hro : top = true → ro = none) (hs : St (RkX Y n B h0 I0 foot ro) Y.G Y.pr D0 n0 fr m a w) :
    (Code.rangeFunc x ps asg body).wpIn (fen (RkX Y n B h0 I0 foot ro)) 0 Y.P (fun e a w => e = toExit ex ∧ St (RkX Y n B h0 I0 foot ro) Y.G Y.pr D0 n0 fr' m' a w) a w := by
  unfold c_range at h
  split at h
  · rename_i g cap hx
    have hro' := hro rfl
    subst hro'
    obtain ⟨D, F, C, I, M, ⟨β, hR⟩, hFR, hm, hx0, hn0⟩ := hs
    obtain ⟨u, e1, g1⟩ := (hFR.op [x]).ev (x := x) (by simp) hx
    simp only [VR] at g1
    obtain ⟨vs, ws, h1, h2, rfl⟩ := g1
    have hvs := h1.unnil
    subst hvs
    simp only [okC, Bool.and_eq_true] at hok
    obtain ⟨t1, h3, h4⟩ := newE_ok h
    refine wpIn_rangeFunc fun fn _ => ?_
    let rc : Loop := { state := .ready, pending := none, fn := fn, tmps := a.tmps, params := ps, assign := asg, body := body, defers := w.heap.size }
    let l := w.heap.size + 1
    let w2 : World := (w.alloc (.deferred (some []))).alloc (.loop rc)
    have hRm := hR.alloc_mark.alloc_blk (.loop rc)
    have hl : (w.alloc (.deferred (some []))).heap.size = l := by simp [l]
    rw [hl] at hRm
    have hfrl : ∀ q ∈ M, q.num ≠ l := fun q hq e => by
      have := hR.holds.lt hq
      omega
    have hms1 : MS Y (D.set m.n ⟨l, 0, 0⟩) ⟨t1, m.n + 1⟩ I (⟨l, .loop rc⟩ :: M) := hm.new (a := ⟨l, 0, 0⟩) h3 hfrl (.loop rc (by simp) ⟨rfl, rfl, hR.size, fun t v ht => ((hFR t v ht).ok (hR.fr t)).mono (Nm.le_set _ hm.fresh), rfl, rfl, rfl, hok.1, hok.2.1,
      fun t ht => Nat.le_of_ble_eq_true (List.all_eq_true.1 hok.2.2 t ht)⟩)
    unfold c_left at h4
    obtain ⟨⟨v, m2⟩, hcall, h5⟩ := opn_eq h4
    have hle1 := Nm.le_set (D := D) ⟨l, 0, 0⟩ hm.fresh
    have hargs : VRs (D.set m.n ⟨l, 0, 0⟩) (.y m.n :: cap) (.func (.yield l) #[] #[] :: ws) := .cons (by simp only [VR]; exact ⟨_, Nm.set_self _ _ _, rfl⟩) (h2.mono hle1)
    obtain ⟨hent, hcalls⟩ := callB_ok hE hF hpr hc hcall hargs hms1
    have hcw := hcalls w2 hRm.holds
    have e2 := eval_of_ev hR.fr e1
    refine ⟨l, [markOf w.heap.size], w2, { target := .fn (.func g) ws.toArray, args := #[.func (.yield l) #[] #[]] }, w2, g, (.func (.yield l) #[] #[] :: ws).toArray, w2, ?_, ?_, fun _ _ => trivial, ?_, (fun h => by cases h), ?_⟩
    · show (Instr.enterLoop fn a.tmps ps asg body none).run Y.P w = _
      exact run_enterLoop_outer fn a.tmps ps asg body
    · show (Deferred.ofValue (a.eval x) (#[Operand.const (.func (.yield l) #[] #[])].map a.eval)).run Y.P w2 = _
      rw [e2]
      simp [Deferred.ofValue, Act.eval]
    · simp only [invoke]
      rw [show #[Value.func (.yield l) #[] #[]] ++ ws.toArray = (.func (.yield l) #[] #[] :: ws).toArray from by apply Array.ext'; simp]
      exact hent _ _
    · refine (calls_fen (X := RkX Y n B h0 I0 foot none) hcw _).mono ?_
      rintro e w3 ⟨r, I3, M3, rfl, ⟨D3, hx3, hv3, hm3⟩, hH3, hK3⟩
      have hr3 := hRm.after (Mr := []) (by simp) hH3 hK3
      rw [List.append_nil] at hr3
      have hl3 : D3 m.n = some ⟨l, 0, 0⟩ := by rw [hx3 m.n (Nat.lt_succ_self _)]; exact Nm.set_self _ _ _
      have hle3 := hms1.le hx3
      have hFR3 : FR D3 F fr := fun t v ht => (hFR t v ht).mono (Nm.le_trans hle1 hle3)
      have hext : D0.ext D3 n0 := fun i hi => by
        rw [hx3 i (by have : i < m.n := by omega
                      show i < m.n + 1
                      omega)]
        show (if i = m.n then _ else D i) = D0 i
        rw [if_neg (by omega)]
        exact hx0 i hi
      have fin : ∀ (L : Loop) (t4 : Tri Ent) (j : Option Code), (⟨l, .loop L⟩ : Blk) ∈ M3 → L.state ≠ .busy → L.pending = j → (∃ e0, m2.t.get m.n = some e0) → (∀ id e, t4.get id = some e → (id = m.n ∧ (none : Option Ent) = some e) ∨ (id ≠ m.n ∧ m2.t.get id = some e)) → n0 ≤ m2.n →
          ∃ w4, (Instr.endLoop l).run Y.P w3 = .ok j w4 ∧ St (RkX Y n B h0 I0 foot none) Y.G Y.pr D0 n0 fr ⟨t4, m2.n⟩ { a with defers := [markOf w.heap.size] ++ a.defers } w4 := by
        rintro L t4 j hL hb hp ⟨e0, he0⟩ ht4 hn4
        have hh3 : w3.heap[l]? = some (.loop L) := hH3.m _ hL
        obtain ⟨pre, post, hsp⟩ := List.append_of_mem hL
        have hperm : M3.Perm (⟨l, .loop L⟩ :: (pre ++ post)) := by rw [hsp]; exact List.perm_middle
        have hsub : ∀ i en, t4.get i = some en → i ≠ m.n ∧ m2.t.get i = some en := fun i en hi => by
          rcases ht4 i en hi with ⟨_, h8⟩ | h8
          · cases h8
          · exact h8
        have hR4 := (hr3.wk (.perm hperm .refl)).dropM (o' := .loop { L with state := .exhausted })
        refine ⟨_, (by rw [← hp]; exact run_endLoop hh3 hb), D3, F, C, I3, pre ++ post, ⟨β, hR4⟩, hFR3, ⟨fun i en b hi hb' => ?_, fun i i' en en' b b' hi hi' => hm3.inj i i' en en' b b' (hsub i en hi).2 (hsub i' en' hi').2, hm3.dom, hm3.glo⟩, hext, hn4⟩
        refine (hm3.ent i en b (hsub i en hi).2 hb').mono (Nm.le_refl D3) fun q hq hn => ?_
        rcases List.mem_cons.1 (hperm.mem_iff.1 hq) with rfl | hq
        · exact ((hsub i en hi).1 (hm3.inj _ _ _ _ _ _ (hsub i en hi).2 he0 hb' hl3 hn.symm)).elim
        · exact hq
      have hn2 : ∀ {e0 : Ent}, m2.t.get m.n = some e0 → n0 ≤ m2.n := fun _ => by
        have := hm3.dom _ _ hl3
        omega
      have h6 : (match m2.t.get m.n with
        | some (.loop false ..) => m2.t.setK none m.n fun t => some (Ex.normal, fr, (⟨t, m2.n⟩ : Me))
        | some (.done c ..) => opn (exOf c) none fun ex => m2.t.setK none m.n fun t => some (ex, fr, ⟨t, m2.n⟩)
        | _ => none) = some (ex, fr', m') := h5
      split at h6
      · rename_i n3 fr3 ps3 asg3 body3 hg3
        obtain ⟨L, hL, hLp⟩ := (hm3.ent _ _ _ hg3 hl3).loopE
        obtain ⟨t4, h7, h8⟩ := Tri.set_ok (none : Option Ent) m2.t m.n
        rw [h7] at h6
        cases h6
        obtain ⟨w4, h9, h10⟩ := fin L t4 none hL (by rw [hLp.st]; simp) hLp.pd ⟨_, hg3⟩ h8 (hn2 hg3)
        exact ⟨none, w4, h9, rfl, h10⟩
      · rename_i c n3 fr3 ps3 asg3 body3 hg3
        obtain ⟨L, hL, hst, hpd⟩ := (hm3.ent _ _ _ hg3 hl3).doneE
        obtain ⟨ex', hex, h6⟩ := opn_eq h6
        obtain ⟨t4, h7, h8⟩ := Tri.set_ok (none : Option Ent) m2.t m.n
        rw [h7] at h6
        cases h6
        obtain ⟨w4, h9, h10⟩ := fin L t4 (some c) hL (by rw [hst]; simp) hpd ⟨_, hg3⟩ h8 (hn2 hg3)
        refine ⟨some c, w4, h9, ?_⟩
        unfold exOf at hex
        split at hex
        · cases hex; exact wpIn_exit ⟨rfl, h10⟩
        · cases hex; exact wpIn_goto ⟨rfl, h10⟩
        · cases hex; exact wpIn_ret ⟨rfl, h10⟩
        · cases hex
      · cases h6
  · cases h
end
end Go.V

/-
  The reckoner is right: the whole of it.
-/
set_option linter.unusedVariables false
set_option linter.unusedSimpArgs false
namespace Go.V
open Go

section
variable {Y : RK}

theorem toExit_then {next : Act → World → Prop} {Q : Exit → Act → World → Prop} {ex : Ex} {a : Act} {w : World} (h : Q (toExit ex) a w) (hne : ex ≠ .normal) : Exit.then next Q (toExit ex) a w := by
  cases ex <;> first | exact (hne rfl).elim | exact h

theorem code_ok (hE : EOK Y.P Y.E) (hF : FunsOK Y.P) (hpr : PrimOK Y) (hmx : Y.P.follows .mixedOrders = true) : ∀ f k, k ≤ f → CodeOK Y k := by
  intro f
  induction f with
  | zero =>
    intro k hk top n c fr m ex fr' m' h
    have : k = 0 := by omega
    subst this
    cases h
  | succ f ih =>
    intro k hk
    by_cases hkf : k ≤ f
    · exact ih k hkf
    have hk1 : k = f + 1 := by omega
    subst hk1
    have hc := ih f (Nat.le_refl _)
    have hcall := call_ok hE hF hpr hc
    intro top n c fr m ex fr' m' h hok B h0 I0 foot ro D0 n0 a w hro hs
    have h1 : E_codeF Y f (E_code Y f) top n c fr m = some (ex, fr', m') := h
    have hesc := @RkX.esc Y n B h0 I0 foot ro
    unfold E_codeF at h1
    cases c with
    | skip => cases h1; exact wpIn_skip ⟨rfl, hs⟩
    | label l => cases h1; exact wpIn_label ⟨rfl, hs⟩
    | ret => cases h1; exact wpIn_ret ⟨rfl, hs⟩
    | exit id => cases h1; exact wpIn_exit ⟨rfl, hs⟩
    | goto l => cases h1; exact wpIn_goto ⟨rfl, hs⟩
    | refuse s => cases h1
    | seq x y =>
      simp only [okC, Bool.and_eq_true] at hok
      simp only [c_then] at h1
      split at h1
      · rename_i fr1 m1 hx
        refine wpIn_seq (wpIn_mono (hc _ _ _ _ _ _ _ _ hx hok.1 B h0 I0 foot ro D0 n0 a w hro hs) ?_)
        rintro e a1 w1 ⟨rfl, hs1⟩
        exact hc _ _ _ _ _ _ _ _ h1 hok.2 B h0 I0 foot ro D0 n0 a1 w1 hro hs1
      · rename_i hno
        refine wpIn_seq (wpIn_mono (hc _ _ _ _ _ _ _ _ h1 hok.1 B h0 I0 foot ro D0 n0 a w hro hs) ?_)
        rintro e a1 w1 ⟨rfl, hs1⟩
        exact toExit_then ⟨rfl, hs1⟩ fun e => hno fr' m' (by rw [h1, e])
    | block id c =>
      simp only [okC] at hok
      simp only [c_block] at h1
      split at h1
      · rename_i j fr1 m1 hx
        refine wpIn_block (wpIn_mono (hc _ _ _ _ _ _ _ _ hx hok B h0 I0 foot ro D0 n0 a w hro hs) ?_)
        rintro e a1 w1 ⟨rfl, hs1⟩
        simp only [toExit, Exit.inBlock]
        by_cases hj : j = id
        · subst hj
          rw [beq_self'] at h1
          have h2 : some (Ex.normal, fr1, m1) = some (ex, fr', m') := h1
          cases h2
          rw [if_pos rfl]
          exact ⟨rfl, hs1⟩
        · rw [beq_ne hj] at h1
          have h2 : some (Ex.exit j, fr1, m1) = some (ex, fr', m') := h1
          cases h2
          rw [if_neg hj]
          exact ⟨rfl, hs1⟩
      · rename_i hno
        refine wpIn_block (wpIn_mono (hc _ _ _ _ _ _ _ _ h1 hok B h0 I0 foot ro D0 n0 a w hro hs) ?_)
        rintro e a1 w1 ⟨rfl, hs1⟩
        cases ex with
        | exit j => exact (hno j fr' m' h1).elim
        | normal => exact ⟨rfl, hs1⟩
        | goto l => exact ⟨rfl, hs1⟩
        | ret => exact ⟨rfl, hs1⟩
    | cond x c1 c2 =>
      simp only [okC, Bool.and_eq_true] at hok
      simp only [c_cond] at h1
      split at h1
      · rename_i b hx
        refine wpIn_cond (hs.eval hx) ?_
        cases b with
        | true => exact hc _ _ _ _ _ _ _ _ h1 hok.1 B h0 I0 foot ro D0 n0 a w hro hs
        | false => exact hc _ _ _ _ _ _ _ _ h1 hok.2 B h0 I0 foot ro D0 n0 a w hro hs
      · cases h1
    | loop c =>
      simp only [okC] at hok
      let J (k : Nat) (a : Act) (w : World) : Prop := k ≤ f + 1 ∧ ∃ fr1 m1, E_code Y k top n (.loop c) fr1 m1 = some (ex, fr', m') ∧ St (RkX Y n B h0 I0 foot ro) Y.G Y.pr D0 n0 fr1 m1 a w
      refine wpIn_loop_rel J (m := f + 1) ⟨Nat.le_refl _, fr, m, h, hs⟩ ?_
      rintro k a1 w1 ⟨hk, fr1, m1, h2, hs1⟩
      cases k with
      | zero => cases h2
      | succ k =>
        have hck := ih k (by omega)
        have h3 : c_then (E_code Y k top n c fr1 m1) (E_code Y k top n (.loop c)) = some (ex, fr', m') := h2
        simp only [c_then] at h3
        split at h3
        · rename_i fr2 m2 hx
          refine wpIn_mono (hck _ _ _ _ _ _ _ _ hx hok B h0 I0 foot ro D0 n0 a1 w1 hro hs1) ?_
          rintro e a2 w2 ⟨rfl, hs2⟩
          exact ⟨k, Nat.lt_succ_self k, by omega, fr2, m2, h3, hs2⟩
        · rename_i hno
          refine wpIn_mono (hck _ _ _ _ _ _ _ _ h3 hok B h0 I0 foot ro D0 n0 a1 w1 hro hs1) ?_
          rintro e a2 w2 ⟨rfl, hs2⟩
          exact toExit_then ⟨rfl, hs2⟩ fun e => hno fr' m' (by rw [h3, e])
    | region id ops dr =>
      cases dr with
      | false =>
        simp only [c_ops] at h1
        obtain ⟨⟨fr1, m1⟩, hx, h2⟩ := opn_eq h1
        cases h2
        refine wpIn_region ?_
        have := E_ops_ok (X := RkX Y n B h0 I0 foot ro) (G := Y.G) (pr := Y.pr) (D0 := D0) (n0 := n0) hE hesc hcall ops (fun e a w => e = toExit .normal ∧ St (RkX Y n B h0 I0 foot ro) Y.G Y.pr D0 n0 fr1 m1 a w) (fun a w h => ⟨rfl, h⟩) ops.toList 0 (by simp) (opsOk_spec hok) hx hs
        have h9 : wpOpsIn (fen (RkX Y n B h0 I0 foot ro)) 0 Y.P ops (fun e a w => e = toExit .normal ∧ St (RkX Y n B h0 I0 foot ro) Y.G Y.pr D0 n0 fr1 m1 a w) (List.range' 0 ops.toList.length) a w := this
        rw [List.range_eq_range']
        simpa using h9
      | true =>
        simp only [c_ops] at h1
        obtain ⟨⟨fr1, m1⟩, hx, h2⟩ := opn_eq h1
        cases h2
        exact E_drawn_ok (X := RkX Y n B h0 I0 foot ro) (G := Y.G) (pr := Y.pr) (D0 := D0) (n0 := n0) hE hesc hcall hmx hok hx (fun a w h => ⟨rfl, h⟩) hs
    | scope c =>
      simp only [okC] at hok
      have step : ∀ (k : Nat) (x : Code) (fr1 : Tri EV) (m1 : Me) (a1 : Act) (w1 : World), okC n x = true → E_scope (E_code Y f) top n c (k + 1) x fr1 m1 = some (ex, fr', m') → St (RkX Y n B h0 I0 foot ro) Y.G Y.pr D0 n0 fr1 m1 a1 w1 →
          x.wpIn (fen (RkX Y n B h0 I0 foot ro)) 0 Y.P (fun e a' w' => match e with
            | .goto l => ∃ rest fr2 m2, findLabel c l = some rest ∧ E_scope (E_code Y f) top n c k rest fr2 m2 = some (ex, fr', m') ∧ St (RkX Y n B h0 I0 foot ro) Y.G Y.pr D0 n0 fr2 m2 a' w'
            | e => e = toExit ex ∧ St (RkX Y n B h0 I0 foot ro) Y.G Y.pr D0 n0 fr' m' a' w') a1 w1 := fun k x fr1 m1 a1 w1 hx h2 hs1 => by
        have h3 : (match E_code Y f top n x fr1 m1 with
          | some (.goto l, fr, m) => opn (findLabel c l) none fun rest => E_scope (E_code Y f) top n c k rest fr m
          | r => r) = some (ex, fr', m') := h2
        split at h3
        · rename_i l fr2 m2 he
          obtain ⟨rest, hrest, h4⟩ := opn_eq h3
          refine wpIn_mono (hc _ _ _ _ _ _ _ _ he hx B h0 I0 foot ro D0 n0 a1 w1 hro hs1) ?_
          rintro e a2 w2 ⟨rfl, hs2⟩
          exact ⟨rest, fr2, m2, hrest, h4, hs2⟩
        · rename_i hno
          refine wpIn_mono (hc _ _ _ _ _ _ _ _ h3 hx B h0 I0 foot ro D0 n0 a1 w1 hro hs1) ?_
          rintro e a2 w2 ⟨rfl, hs2⟩
          cases ex with
          | goto l => exact (hno l fr' m' h3).elim
          | exit j => exact ⟨rfl, hs2⟩
          | normal => exact ⟨rfl, hs2⟩
          | ret => exact ⟨rfl, hs2⟩
      let J (l k : Nat) (a : Act) (w : World) : Prop := ∃ rest fr1 m1, findLabel c l = some rest ∧ E_scope (E_code Y f) top n c k rest fr1 m1 = some (ex, fr', m') ∧ St (RkX Y n B h0 I0 foot ro) Y.G Y.pr D0 n0 fr1 m1 a w
      cases f with
      | zero => cases h1
      | succ f' =>
        refine wpIn_scope_rel J (wpIn_mono (step f' c fr m a w hok h1 hs) ?_) ?_
        · intro e a1 w1 he
          cases e with
          | goto l => exact ⟨f', he⟩
          | _ => exact he
        · rintro l k a1 w1 ⟨rest, fr1, m1, hrest, h2, hs1⟩
          cases k with
          | zero => cases h2
          | succ k =>
            refine ⟨rest, hrest, wpIn_mono (step k rest fr1 m1 a1 w1 (okC_label hok hrest) h2 hs1) ?_⟩
            intro e a2 w2 he
            cases e with
            | goto l' => exact ⟨k, Nat.lt_succ_self k, he⟩
            | _ => exact he
    | rangeFunc x ps asg body => exact range_ok hE hF hpr hc h1 hok hro hs

/-- **A call, out of a reckoning.** -/
theorem reckon (hE : EOK Y.P Y.E) (hF : FunsOK Y.P) (hpr : PrimOK Y) (hmx : Y.P.follows .mixedOrders = true) {f g : Nat} {args : List EV} {m m' : Me} {v : EV} (h : callF Y (E_code Y f) g args m = some (v, m')) {D : Nm} {I : GH} {M : List Blk} {us : List Value} (hu : VRs D args us) (hm : MS Y D m I M) :
    Spec Y.P g us I M fun r I' M' => ∃ D', D.ext D' m.n ∧ VR D' v r ∧ MS Y D' m' I' M' :=
  callF_ok hE hF hpr (code_ok hE hF hpr hmx f f (Nat.le_refl _)) h hu hm
end
end Go.V

/-
  What a call did from nothing it does beside any memory.
-/
set_option linter.unusedVariables false
set_option linter.unusedSimpArgs false
namespace Go.V
open Go

theorem frame_end {I I' : GH} {M M' : List Blk} {w w' : World} (h : Holds I M w) (h1 : Holds I' M' w') (h2 : Kept I [] w I' M' w') :
    Holds I' (M' ++ M) w' ∧ Kept I M w I' (M' ++ M) w' ∧ ∀ x ∈ M', ∀ y ∈ M, x.num ≠ y.num := by
  have hlt : ∀ x ∈ M, x.num < w.heap.size := fun x hx => (Array.getElem?_eq_some_iff.1 (h.m x hx)).1
  have hge : ∀ x ∈ M', w.heap.size ≤ x.num := fun x hx => by
    rcases h2.newM x hx with ⟨y, hy, _⟩ | h
    · cases hy
    · exact h
  have hne : ∀ x ∈ M', ∀ y ∈ M, x.num ≠ y.num := fun x hx y hy e => by
    have := hlt y hy
    have := hge x hx
    omega
  refine ⟨⟨h1.i, fun x hx => ?_, fun x hx => ?_, ?_⟩, ⟨h2.le, h2.newI, fun x hx => ?_, fun b hb _ => h2.old b hb (by simp), h2.out, h2.sz⟩, hne⟩
  · rcases List.mem_append.1 hx with hx | hx
    · exact h1.m x hx
    · rw [h2.old x.num (hlt x hx) (by simp)]
      exact h.m x hx
  · rcases List.mem_append.1 hx with hx | hx
    · exact h1.d x hx
    · cases he : I' x.num with
      | none => rfl
      | some o =>
        rcases h2.newI _ _ he with h3 | h3
        · rw [h.d x hx] at h3
          cases h3
        · have := hlt x hx
          omega
  · rw [List.map_append, List.nodup_append]
    refine ⟨h1.nd, h.nd, fun a ha b hb e => ?_⟩
    obtain ⟨x, hx, rfl⟩ := List.mem_map.1 ha
    obtain ⟨y, hy, rfl⟩ := List.mem_map.1 hb
    exact hne x hx y hy e
  · rcases List.mem_append.1 hx with hx | hx
    · exact .inr (hge x hx)
    · exact .inl ⟨x, hx, rfl⟩
theorem Spec.frame {P : Program} {f : Nat} {args : List Value} {I : GH} {M : List Blk} {Q : Value → GH → List Blk → Prop} (h : Spec P f args I [] Q) : Spec P f args I M fun r I' M'' => ∃ M', M'' = M' ++ M ∧ (∀ x ∈ M', ∀ y ∈ M, x.num ≠ y.num) ∧ (∀ b o, I b = some o → I' b = some o) ∧ Q r I' M' := by
  have h0 : ∀ {w : World}, Holds I M w → Holds I [] w := fun hw => ⟨hw.i, by simp, by simp, by simp⟩
  rcases h with ⟨h1, h2⟩ | h
  · refine .inl ⟨h1, fun w hw => ?_⟩
    refine (h2 w (h0 hw)).mono ?_
    rintro e w' ⟨v, I', M', e1, e2, e3, e4⟩
    obtain ⟨g1, g2, g3⟩ := frame_end hw e3 e4
    exact ⟨v, I', M' ++ M, e1, ⟨M', rfl, g3, e4.le, e2⟩, g1, g2⟩
  · refine .inr fun w hw => ?_
    obtain ⟨v, w', I', M', e1, e2, e3, e4⟩ := h w (h0 hw)
    obtain ⟨g1, g2, g3⟩ := frame_end hw e3 e4
    exact ⟨v, w', I', M' ++ M, e1, ⟨M', rfl, g3, e4.le, e2⟩, g1, g2⟩

/-! ### Names moved up -/
mutual
def shV (k : Nat) : EV → EV
  | .p id off => .p (Nat.add id k) off
  | .sl id off n c => .sl (Nat.add id k) off n c
  | .sx id off e n => .sx (Nat.add id k) off e n
  | .m id => .m (Nat.add id k)
  | .y id => .y (Nat.add id k)
  | .f g l r => .f g (shVs k l) (shVs k r)
  | .iv t v => .iv t (shV k v)
  | .t l => .t (shVs k l)
  | .a l => .a (shVs k l)
  | .b x => .b x
  | .i a n => .i a n
  | .s l => .s l
  | .pn => .pn
  | .g n off => .g n off
  | .sn => .sn
  | .gs n off a c => .gs n off a c
  | .so => .so
  | .mn => .mn
  | .fn => .fn
  | .ni => .ni
def shVs (k : Nat) : List EV → List EV
  | [] => []
  | v :: l => shV k v :: shVs k l
end
section
mutual
theorem shV_ok {D0 D : Nm} {k : Nat} (hD : ∀ id a, D0 id = some a → D (Nat.add id k) = some a) : ∀ (v : EV) {u : Value}, VR D0 v u → VR D (shV k v) u
  | .p id off, u, h => by
    simp only [VR, shV] at h ⊢
    obtain ⟨a, ha, h⟩ := h
    exact ⟨a, hD _ _ ha, h⟩
  | .sl id off n c, u, h => by
    simp only [VR, shV] at h ⊢
    obtain ⟨a, ha, h⟩ := h
    exact ⟨a, hD _ _ ha, h⟩
  | .sx id off e n, u, h => by
    simp only [VR, shV] at h ⊢
    obtain ⟨a, ha, h⟩ := h
    exact ⟨a, hD _ _ ha, h⟩
  | .m id, u, h => by
    simp only [VR, shV] at h ⊢
    obtain ⟨a, ha, h⟩ := h
    exact ⟨a, hD _ _ ha, h⟩
  | .y id, u, h => by
    simp only [VR, shV] at h ⊢
    obtain ⟨a, ha, h⟩ := h
    exact ⟨a, hD _ _ ha, h⟩
  | .f g l r, u, h => by
    simp only [VR, shV] at h ⊢
    obtain ⟨vs, ws, h1, h2, h⟩ := h
    exact ⟨vs, ws, shVs_ok hD l h1, shVs_ok hD r h2, h⟩
  | .iv t v, u, h => by
    simp only [VR, shV] at h ⊢
    obtain ⟨x, h1, h⟩ := h
    exact ⟨x, shV_ok hD v h1, h⟩
  | .t l, u, h => by
    simp only [VR, shV] at h ⊢
    obtain ⟨x, h1, h⟩ := h
    exact ⟨x, shVs_ok hD l h1, h⟩
  | .a l, u, h => by
    simp only [VR, shV] at h ⊢
    obtain ⟨x, h1, h⟩ := h
    exact ⟨x, shVs_ok hD l h1, h⟩
  | .b x, u, h => by simpa only [VR, shV] using h
  | .i a n, u, h => by simpa only [VR, shV] using h
  | .s l, u, h => by simpa only [VR, shV] using h
  | .pn, u, h => by simpa only [VR, shV] using h
  | .g n off, u, h => by simpa only [VR, shV] using h
  | .sn, u, h => by simpa only [VR, shV] using h
  | .gs n off a c, u, h => by simpa only [VR, shV] using h
  | .so, u, h => by simpa only [VR, shV] using h
  | .mn, u, h => by simpa only [VR, shV] using h
  | .fn, u, h => by simpa only [VR, shV] using h
  | .ni, u, h => by simpa only [VR, shV] using h
theorem shVs_ok {D0 D : Nm} {k : Nat} (hD : ∀ id a, D0 id = some a → D (Nat.add id k) = some a) : ∀ (l : List EV) {us : List Value}, VRs D0 l us → VRs D (shVs k l) us
  | [], us, h => by simpa only [VRs, shVs] using h
  | v :: l, us, h => by
    simp only [VRs, shVs] at h ⊢
    obtain ⟨x, xs, h1, h2, h⟩ := h
    exact ⟨x, xs, shV_ok hD v h1, shVs_ok hD l h2, h⟩
end
end
end Go.V

/-
  Calls that were reckoned once, and are remembered.
-/
set_option linter.unusedVariables false
set_option linter.unusedSimpArgs false
namespace Go.V
open Go

inductive SE where
  | cells (l : List EV) (T : Nat)
  | map (es : List (EV × EV))
noncomputable def readEnt : Ent → Option SE
  | .cells cs T lim => cs.manyK 0 lim fun l => some (.cells l T)
  | .map es => some (.map es)
  | _ => none
noncomputable def readAll (t : Tri Ent) : Nat → Nat → Option (List SE)
  | _, 0 => some []
  | id, n + 1 => opn (t.get id) none fun e => opn (readEnt e) none fun s => opn (readAll t (Nat.add id 1) n) none fun l => some (s :: l)
def shP (k : Nat) : List (EV × EV) → List (EV × EV)
  | [] => []
  | p :: l => (shV k p.1, shV k p.2) :: shP k l
noncomputable def SE.ent (k : Nat) : SE → Ent
  | .cells l T => Tri.putsK (shVs k l) .nil 0 fun cs => .cells cs T l.length
  | .map es => .map (shP k es)
noncomputable def putSs {R : Type} (k : Nat) : List SE → Nat → Tri Ent → (Tri Ent → R) → R
  | [], _, t, K => K t
  | s :: l, id, t, K => t.setK (some (s.ent k)) id fun t => putSs k l (Nat.add id 1) t K
noncomputable def memo (v : EV) (L : List SE) (m : Me) : Option (EV × Me) := forceN m.n fun n => forceN (Nat.add n L.length) fun n' => putSs n L n m.t fun t => some (shV n v, ⟨t, n'⟩)

theorem readAll_ok {t : Tri Ent} : ∀ {n id : Nat} {L : List SE}, readAll t id n = some L → L.length = n ∧ ∀ j s, L[j]? = some s → ∃ e, t.get (id + j) = some e ∧ readEnt e = some s
  | 0, id, L, h => by
    cases h
    exact ⟨rfl, by simp⟩
  | n + 1, id, L, h => by
    unfold readAll at h
    obtain ⟨e, h1, h⟩ := opn_eq h
    obtain ⟨s, h2, h⟩ := opn_eq h
    obtain ⟨l, h3, h⟩ := opn_eq h
    cases h
    obtain ⟨g1, g2⟩ := readAll_ok h3
    refine ⟨by simp [g1], fun j s' hj => ?_⟩
    cases j with
    | zero =>
      cases hj
      exact ⟨e, h1, h2⟩
    | succ j =>
      obtain ⟨e', k1, k2⟩ := g2 j s' (by simpa using hj)
      refine ⟨e', ?_, k2⟩
      rw [← k1]
      congr 1
      show id + (j + 1) = id + 1 + j
      omega
theorem putSs_ok (k : Nat) : ∀ (L : List SE) (id : Nat) (t : Tri Ent), ∃ t' : Tri Ent, (∀ {R : Type} (K : Tri Ent → R), putSs k L id t K = K t') ∧
    ∀ j e, t'.get j = some e → (id ≤ j ∧ ∃ s, L[j - id]? = some s ∧ e = s.ent k) ∨ ((j < id ∨ id + L.length ≤ j) ∧ t.get j = some e)
  | [], id, t => ⟨t, fun K => rfl, fun j e h => .inr ⟨by simp; omega, h⟩⟩
  | s :: L, id, t => by
    obtain ⟨t1, h1, h2⟩ := Tri.set_ok (some (s.ent k)) t id
    obtain ⟨t', h3, h4⟩ := putSs_ok k L (id + 1) t1
    refine ⟨t', fun K => ?_, fun j e h => ?_⟩
    · unfold putSs
      rw [h1]
      exact h3 K
    · rcases h4 j e h with ⟨g1, s', g2, g3⟩ | ⟨g1, g2⟩
      · refine .inl ⟨by omega, s', ?_, g3⟩
        rw [show j - id = (j - (id + 1)) + 1 by omega]
        simpa using g2
      · rcases h2 j e g2 with ⟨rfl, g3⟩ | ⟨g3, g4⟩
        · refine .inl ⟨Nat.le_refl _, s, by simp, ?_⟩
          cases g3
          rfl
        · refine .inr ⟨?_, g4⟩
          simp only [List.length_cons]
          omega
theorem shP_ok {D0 D : Nm} {k : Nat} (hD : ∀ id a, D0 id = some a → D (Nat.add id k) = some a) {es : List (EV × EV)} {l : List MapEntry} (h : MpR D0 es l) : MpR D (shP k es) l := by
  induction h with
  | nil => exact .nil
  | cons hk hv t ih => exact .cons (shV_ok hD _ hk) (shV_ok hD _ hv) ih
theorem shVs_get {k : Nat} : ∀ {l : List EV} {i : Nat} {v : EV}, (shVs k l)[i]? = some v → ∃ v0, l[i]? = some v0 ∧ v = shV k v0
  | [], i, v, h => by simp [shVs] at h
  | x :: l, 0, v, h => by
    simp only [shVs, List.getElem?_cons_zero, Option.some.injEq] at h
    exact ⟨x, rfl, h.symm⟩
  | x :: l, i + 1, v, h => by
    simp only [shVs, List.getElem?_cons_succ] at h
    simpa using shVs_get h
theorem ent_sh {D0 D : Nm} {k : Nat} (hD : ∀ id a, D0 id = some a → D (Nat.add id k) = some a) {E : Env} {M M' : List Blk} (hM : ∀ x ∈ M, x ∈ M') {a : Loc} {e : Ent} {s : SE} (h : EntR D0 E M a e) (hr : readEnt e = some s) : EntR D E M' a (s.ent k) := by
  cases h with
  | @cells cs T lim arr h0 h1 h2 h3 h4 h5 =>
    unfold readEnt at hr
    obtain ⟨l, g1, g2, g3⟩ := Tri.many_ok cs lim 0 _ _ hr
    cases g3
    obtain ⟨t', k1, k2⟩ := Tri.puts_ok (shVs k l) (.nil : Tri EV) 0
    show EntR D E M' a (Tri.putsK (shVs k l) .nil 0 fun cs => Ent.cells cs T l.length)
    rw [k1, g1]
    refine .cells arr h0 (hM _ h1) h2 (fun i v hi hg => ?_) h4 h5
    rcases k2 i v hg with ⟨_, h⟩ | ⟨_, h⟩
    · obtain ⟨v0, e1, rfl⟩ := shVs_get (by simpa using h)
      have := g2 i hi
      rw [Nat.zero_add, e1] at this
      obtain ⟨x, f1, f2⟩ := h3 i v0 hi this
      exact ⟨x, f1, shV_ok hD _ f2⟩
    · cases h
  | map l clock h1 h2 =>
    cases hr
    exact .map l clock (hM _ h1) (shP_ok hD h2)
  | loop L h1 h2 => cases hr
  | done L h1 h2 h3 => cases hr

/-- What was reckoned from nothing is remembered rightly. -/
theorem memo_ok {Y : RK} (hE : EOK Y.P Y.E) (hF : FunsOK Y.P) (hmx : Y.P.follows .mixedOrders = true) {f g : Nat} {args : List EV} {m0 : Me} {v0 : EV} {L : List SE}
    (h0 : callF ⟨Y.P, Y.E, fun _ => none, fun _ _ _ => none⟩ (E_code ⟨Y.P, Y.E, fun _ => none, fun _ _ _ => none⟩ f) g args ⟨.nil, 0⟩ = some (v0, m0)) (hL : readAll m0.t 0 m0.n = some L)
    (hcl : ∀ D us, VRs D args us → VRs (fun _ => none) args us) {m m' : Me} {v : EV} (h : memo v0 L m = some (v, m')) {D : Nm} {I : GH} {M : List Blk} {us : List Value} (hu : VRs D args us) (hm : MS Y D m I M) :
    Spec Y.P g us I M fun r I' M' => ∃ D', D.ext D' m.n ∧ VR D' v r ∧ MS Y D' m' I' M' := by
  have hpr : PrimOK ⟨Y.P, Y.E, fun _ => none, fun _ _ _ => none⟩ := fun g vs m v m' h => by cases h
  have hm0 : MS ⟨Y.P, Y.E, fun _ => none, fun _ _ _ => none⟩ (fun _ => none) ⟨.nil, 0⟩ I [] := ⟨fun id e a h h' => (by cases h'), fun id id' e e' a a' h h1 h' => (by cases h'), fun id a h => (by cases h), fun g cs h => (by cases h)⟩
  have hs := (reckon (Y := ⟨Y.P, Y.E, fun _ => none, fun _ _ _ => none⟩) hE hF hpr hmx h0 (hcl D us hu) hm0).frame (M := M)
  refine Spec.weakK hs ?_
  rintro r I' M'' ⟨M0, rfl, hne, hle, D0, -, hv, hs0⟩
  unfold memo at h
  rw [forceN_eq, forceN_eq] at h
  obtain ⟨t', h1, h2⟩ := putSs_ok m.n L m.n m.t
  rw [h1] at h
  cases h
  obtain ⟨g1, g2⟩ := readAll_ok hL
  let D' : Nm := fun id => if id < m.n then D id else D0 (id - m.n)
  have hD : ∀ id a, D0 id = some a → D' (Nat.add id m.n) = some a := fun id a ha => by
    show (if id + m.n < m.n then D (id + m.n) else D0 (id + m.n - m.n)) = some a
    rw [if_neg (by omega), Nat.add_sub_cancel, ha]
  have hle' : D.le D' := fun id a ha => by
    show (if id < m.n then D id else D0 (id - m.n)) = some a
    rw [if_pos (hm.dom _ _ ha), ha]
  have lo : ∀ id, id < m.n → D' id = D id := fun id hi => if_pos hi
  have hi' : ∀ id, m.n ≤ id → D' id = D0 (id - m.n) := fun id hi => if_neg (by omega)
  -- where an entry comes from
  have src : ∀ id e a, t'.get id = some e → D' id = some a → (m.n ≤ id ∧ ∃ s e0, e = s.ent m.n ∧ m0.t.get (id - m.n) = some e0 ∧ readEnt e0 = some s ∧ D0 (id - m.n) = some a) ∨ (id < m.n ∧ m.t.get id = some e ∧ D id = some a) := fun id e a he ha => by
    rcases h2 id e he with ⟨k1, s, k2, k3⟩ | ⟨k1, k2⟩
    · obtain ⟨e0, k4, k5⟩ := g2 _ _ k2
      rw [Nat.zero_add] at k4
      rw [hi' _ k1] at ha
      exact .inl ⟨k1, s, e0, k3, k4, k5, ha⟩
    · rcases Nat.lt_or_ge id m.n with hlt | hge
      · rw [lo _ hlt] at ha
        exact .inr ⟨hlt, k2, ha⟩
      · rw [hi' _ hge] at ha
        have := hs0.dom _ _ ha
        omega
  refine ⟨D', fun id hi => lo id hi, shV_ok hD _ hv, ⟨fun id e a he ha => ?_, fun id id' e e' a a' he he' ha ha' hb => ?_, fun id a ha => ?_, hm.glo.mono hle⟩⟩
  · rcases src id e a he ha with ⟨k1, s, e0, rfl, k2, k3, k4⟩ | ⟨k1, k2, k3⟩
    · exact ent_sh hD (fun x hx => List.mem_append_left _ hx) (hs0.ent _ _ _ k2 k4) k3
    · exact (hm.ent _ _ _ k2 k3).mono hle' fun x hx _ => List.mem_append_right _ hx
  · rcases src id e a he ha with ⟨k1, s, e0, rfl, k2, k3, k4⟩ | ⟨k1, k2, k3⟩
    · rcases src id' e' a' he' ha' with ⟨j1, s', e0', rfl, j2, j3, j4⟩ | ⟨j1, j2, j3⟩
      · have := hs0.inj _ _ _ _ _ _ k2 j2 k4 j4 hb
        omega
      · obtain ⟨x, hx, hxn⟩ := hs0.blk k2 k4
        obtain ⟨y, hy, hyn⟩ := hm.blk j2 j3
        exact (hne x hx y hy (hxn.trans (hb.trans hyn.symm))).elim
    · rcases src id' e' a' he' ha' with ⟨j1, s', e0', rfl, j2, j3, j4⟩ | ⟨j1, j2, j3⟩
      · obtain ⟨x, hx, hxn⟩ := hs0.blk j2 j4
        obtain ⟨y, hy, hyn⟩ := hm.blk k2 k3
        exact (hne x hx y hy (hxn.trans (hb.symm.trans hyn.symm))).elim
      · exact hm.inj _ _ _ _ _ _ k2 j2 k3 j3 hb
  · show id < m.n + L.length
    rcases Nat.lt_or_ge id m.n with hlt | hge
    · omega
    · rw [hi' _ hge] at ha
      have := hs0.dom _ _ ha
      omega
end Go.V

/-
  strings.Builder's check of its own address, among any blocks; what the reckoner makes of it.
-/
set_option linter.unusedVariables false
set_option linter.unusedSimpArgs false
namespace Go.V
open Go Go.Proofs

theorem lies_many (k : Nat) : liesAt Tryz.prog Tryz.prog.depth 229 ((k + 1) * 2 / Tryz.prog.cellsOf 229) 0 229 1 = true := by
  have h2 : Tryz.prog.cellsOf 229 = 2 := by kernel_rfl
  have hd : Tryz.prog.depth = (Tryz.prog.depth - 1) + 1 := by kernel_rfl
  have hsl : sameLayout Tryz.prog Tryz.prog.depth 229 229 = true := by kernel_rfl
  have hr : rowAt Tryz.prog (sameLayout Tryz.prog Tryz.prog.depth · 229) Tryz.prog.depth 229 (k + 1) 0 1 = true := by
    generalize hf : (sameLayout Tryz.prog Tryz.prog.depth · 229) = f
    have hf' : f 229 = true := by rw [← hf]; exact hsl
    rw [hd]
    unfold rowAt
    simp only [h2, hf']
    simp
  rw [h2, Nat.mul_div_cancel _ (by decide : 0 < 2)]
  rw [hd]
  unfold liesAt
  rw [hr]
  rfl

theorem copyCheckN {I : GH} (pre post : List Blk) (b : Nat) (v : Value) (k : Nat) (rest : List Value) (hr : rest.length = 2 * k) :
    Spec Tryz.prog 203 [ptr b] I (pre ++ ⟨b, .cells (.pointer none :: v :: rest).toArray 229 (0, 0)⟩ :: post) fun r I' M' => r = .tuple #[] ∧ I' = I ∧ M' = pre ++ ⟨b, .cells (splice (.pointer none :: v :: rest) 0 [ptr b]).toArray 229 (0, 0)⟩ :: post := by
  obtain ⟨inf, z, hi, hi1, _⟩ := (TryzEOK 229 _ rfl).inf
  refine spec_of_V [] TryzEOK Tryz.func203 rfl rfl rfl ?_
  intro B h0
  have hm : ∀ {o : Obj}, (⟨b, o⟩ : Blk) ∈ pre ++ ⟨b, o⟩ :: post := fun {o} => List.mem_append.2 (.inr (.head _))
  have hsz : (Value.pointer none :: v :: rest).toArray.size = (k + 1) * 2 := by
    simp [hr]
    omega
  have hl : liesAt Tryz.prog Tryz.prog.depth 229 ((Value.pointer none :: v :: rest).toArray.size / Tryz.prog.cellsOf 229) 0 229 1 = true := by
    rw [hsz]
    exact lies_many k
  refine LoadOb.mk [.pointer none] (blk_rd (cs := .pointer none :: v :: rest) (k := 0) (n := 1) (T := 229) hm (by simp)) ?_
  refine .other (OtherOb.eqNil TryzEOK rfl (by simp) rfl rfl rfl rfl ?_)
  refine CondOb.mk (fun _ => ?_) (fun h => by cases h)
  refine OtherOb.conv rfl (by simp) rfl (fun w hw => Lib.run_to_unsafe (t := 229) (e := 229) w ⟨b, 0, none⟩ (by kernel_rfl) (by kernel_rfl) (j := inf) (cells := (Value.pointer none :: v :: rest).toArray.size) hi (by rw [hi1]; decide) (shape_of hw hm) (by rw [hsz]; show 0 < _; omega)) ?_
  refine CallOb.mk (pre ++ ⟨b, .cells (.pointer none :: v :: rest).toArray 229 (0, 0)⟩ :: post) [] _ (by simp) (NoEscape_spec _) ?_
  rintro v I' M' - ⟨rfl, rfl, rfl⟩
  refine OtherOb.conv rfl (by simp) rfl (fun w hw => Lib.run_from_unsafe (u := 229) (e := 229) w ⟨b, 0, none⟩ (by kernel_rfl) (by kernel_rfl) (j := inf) (cells := (Value.pointer none :: v :: rest).toArray.size) hi (shape_of hw (List.mem_append.2 (.inl hm))) hl) ?_
  refine StoreOb.mk pre post _ _ (List.append_nil _) rfl (by rw [hsz]; show 0 + 0 + 1 ≤ (k + 1) * 2; omega) rfl ?_
  exact ⟨_, _, .refl, rfl, rfl, rfl⟩
theorem copyCheckU {I : GH} {M : List Blk} {b : Nat} {arr : Array Value} {T : Nat} (hM : (⟨b, .cells arr T (0, 0)⟩ : Blk) ∈ M) (h0 : arr[0]? = some (ptr b)) :
    Spec Tryz.prog 203 [ptr b] I M fun r I' M' => r = .tuple #[] ∧ I' = I ∧ M' = M := by
  refine spec_of_V [] TryzEOK Tryz.func203 rfl rfl rfl ?_
  intro B h0'
  have hr : Rd I M ((⟨b, 0, none⟩ : Addr).add 0) 1 [ptr b] := by
    obtain ⟨l⟩ := arr
    cases l with
    | nil => simp at h0
    | cons x l =>
      simp only [List.getElem?_toArray, List.getElem?_cons_zero, Option.some.injEq] at h0
      subst h0
      exact blk_rd (cs := ptr b :: l) (k := 0) (n := 1) hM (by simp)
  refine LoadOb.mk [ptr b] hr ?_
  refine .other (OtherOb.eqNil TryzEOK rfl (by simp) rfl rfl rfl rfl ?_)
  refine CondOb.mk (fun h => by cases h) (fun _ => ?_)
  refine LoadOb.mk [ptr b] hr ?_
  refine .other (OtherOb.neSame TryzEOK rfl (by simp) rfl rfl rfl rfl rfl ?_)
  refine CondOb.mk (fun h => by cases h) (fun _ => ?_)
  exact ⟨_, _, .refl, rfl, rfl, rfl⟩

/-- Cells written over, in a block that is at hand. -/
theorem store_at {Y : RK} {D : Nm} {m : Me} {I : GH} {M : List Blk} {R : Type} {id off : Nat} {cs : Tri EV} {T lim : Nat} {a : Loc} {arr : Array Value} {pre post : List Blk} (hm : MS Y D m I M) (hg : m.t.get id = some (.cells cs T lim)) (ha : D id = some a)
    (ho : a.o = 0) (hsp : M = pre ++ ⟨a.b, .cells arr T (0, 0)⟩ :: post) (hsz : a.o + lim ≤ arr.size) (hc : ∀ i v, i < lim → cs.get i = some v → ∃ x, arr[a.o + i]? = some x ∧ VR D v x) (hk : ∀ i, Y.E T = some i → arr.size = a.o + a.c * i.size) (hmx : a.c ≤ maxLen)
    {l : List EV} {vs : List Value} (hl : VRs D l vs) {K : Me → Option R} {r : R} (h : storeE m (.p id off) l K = some r) :
    ∃ m', K m' = some r ∧ m'.n = m.n ∧ off + vs.length ≤ arr.size ∧ MS Y D m' I (pre ++ ⟨a.b, .cells (splice arr.toList off vs).toArray T (0, 0)⟩ :: post) := by
  unfold storeE at h
  simp only [hg] at h
  cases hb : (Nat.ble (Nat.add off l.length) lim && l.all EV.one) with
  | false => rw [hb] at h; cases h
  | true =>
    rw [hb] at h
    simp only [cond_true] at h
    rw [Bool.and_eq_true] at hb
    have hlim : off + l.length ≤ lim := Nat.le_of_ble_eq_true hb.1
    obtain ⟨cs', h1, h2⟩ := Tri.puts_ok l cs off
    rw [h1] at h
    obtain ⟨t', h3, h4⟩ := Tri.set_ok (some (Ent.cells cs' T lim)) m.t id
    rw [h3] at h
    have hlen := hl.len
    have hfit : off + vs.length ≤ arr.size := by omega
    refine ⟨_, h, rfl, hfit, ?_⟩
    have hnew : ∀ x ∈ M, x.num ≠ a.b → x ∈ pre ++ ⟨a.b, .cells (splice arr.toList off vs).toArray T (0, 0)⟩ :: post := fun x hx hn => by
      rw [hsp] at hx
      rcases List.mem_append.1 hx with hx | hx
      · exact List.mem_append.2 (.inl hx)
      · rcases List.mem_cons.1 hx with rfl | hx
        · exact (hn rfl).elim
        · exact List.mem_append.2 (.inr (List.mem_cons_of_mem _ hx))
    refine hm.step (fun i e hi => (h4 i e hi).imp (fun q => ⟨q.1, some_inj' q.2⟩) fun q => q) ha (Nm.le_refl D) (fun _ _ => rfl) hm.dom (fun _ _ h => h) (fun i e a' hne hi hai x hx hn => hnew x hx ?_) ?_ ?_
    · rw [hn]
      exact fun hb => hne (hm.inj _ _ _ _ _ _ hi hg hai ha hb)
    · have hls : (splice arr.toList off vs).length = arr.size := by rw [splice_len (by simpa using hfit)]; simp
      refine .cells (splice arr.toList off vs).toArray ho (by simp) (by simp [hls]; exact hsz) (fun i v hi hgi => ?_) (fun i hi => by simp [hls]; exact hk i hi) hmx
      rw [ho, Nat.zero_add]
      simp only [List.getElem?_toArray]
      rw [splice_get (by simpa using hfit)]
      rcases h2 i v hgi with ⟨g1, g2⟩ | ⟨g1, g2⟩
      · have hlt := (List.getElem?_eq_some_iff.1 g2).1
        rw [if_pos ⟨g1, by omega⟩]
        exact hl.get g2
      · rw [if_neg (by omega)]
        have := hc i v hi g2
        rw [ho, Nat.zero_add] at this
        simpa using this
    · intro i e a' hne hi hai hb
      exact hne (hm.inj _ _ _ _ _ _ hi hg hai ha hb)

/-- What copyCheck comes to. -/
noncomputable def ccE (m : Me) (vs : List EV) : Option (EV × Me) := match vs with
  | [.p id 0] => (match m.t.get id with
    | some (.cells cs T lim) => cnd (Nat.beq T 229 && Nat.ble 2 lim) (match cs.get 0 with
      | some .pn => storeE m (.p id 0) [.p id 0] fun m => some (.t [], m)
      | some (.p id' 0) => cnd (Nat.beq id id') (some (.t [], m)) none
      | _ => none) none
    | _ => none)
  | _ => none
theorem cc_ok {Y : RK} (hY : Y.P = Tryz.prog) (hYE : Y.E = TryzE) {m m' : Me} {vs : List EV} {v : EV} (h : ccE m vs = some (v, m')) {D : Nm} {I : GH} {M : List Blk} {us : List Value} (hu : VRs D vs us) (hm : MS Y D m I M) :
    Spec Y.P 203 us I M fun r I' M' => ∃ D', D.ext D' m.n ∧ VR D' v r ∧ MS Y D' m' I' M' := by
  unfold ccE at h
  split at h
  · rename_i id
    obtain ⟨x, xs, hx, hn, rfl⟩ := hu.uncons
    obtain rfl := hn.unnil
    obtain ⟨a, ha, rfl⟩ := hx.ptr
    split at h
    · rename_i cs T lim hg
      obtain ⟨h1, hq⟩ := cnd_some h
      clear h
      rw [Bool.and_eq_true] at h1
      obtain ⟨hT, hlim⟩ := h1
      obtain rfl := Nat.eq_of_beq_eq_true hT
      have hlim := Nat.le_of_ble_eq_true hlim
      obtain ⟨arr, ho, hM, hl, hc, hk, hmx⟩ := hm.ent _ _ _ hg ha
      have hsz := hk _ (by rw [hYE]; rfl)
      have hsz : arr.size = a.c * 2 := by
        rw [hsz, ho, Nat.zero_add]
      have hp : Value.pointer (some ⟨a.b, a.o + 0, none⟩) = ptr a.b := by rw [ho]; rfl
      split at hq
      · rename_i hc0
        obtain ⟨x0, hx0, hv0⟩ := hc 0 _ (by omega) hc0
        obtain ⟨pre, post, hsp⟩ := List.append_of_mem hM
        obtain ⟨m1, h2, h3, h4, h5⟩ := store_at hm hg ha ho hsp hl hc hk hmx (l := [.p id 0]) (vs := [ptr a.b]) (by simp only [VRs, VR]; exact ⟨_, _, ⟨a, ha, hp.symm⟩, rfl, rfl⟩) hq
        cases h2
        rw [hp, hY, hsp]
        obtain ⟨l⟩ := arr
        have hx0' : x0 = .pointer none := by simpa only [VR] using hv0
        rw [ho] at hx0
        match l, hx0, hsz with
        | [], hx0, _ => simp at hx0
        | [_], _, hsz => simp at hsz; omega
        | y :: w :: rest, hx0, hsz =>
          have hy : y = .pointer none := by simpa [hx0'] using hx0
          subst hy
          have hrl : rest.length = 2 * (a.c - 1) := by simp at hsz; omega
          refine Spec.weakK (copyCheckN pre post a.b w (a.c - 1) rest hrl) ?_
          rintro r I' M' ⟨rfl, rfl, rfl⟩
          exact ⟨D, Nm.ext_refl, by simp only [VR, VRs]; exact ⟨[], rfl, rfl⟩, h5⟩
      · rename_i id' hc0
        obtain ⟨h2, hq2⟩ := cnd_some hq
        obtain rfl := Nat.eq_of_beq_eq_true h2
        cases hq2
        obtain ⟨x0, hx0, hv0⟩ := hc 0 _ (by omega) hc0
        obtain ⟨a', ha', rfl⟩ := hv0.ptr
        rw [ha] at ha'
        cases ha'
        rw [hp] at hx0 ⊢
        rw [hY]
        refine Spec.weakK (copyCheckU hM (by rw [← hx0, ho])) ?_
        rintro r I' M' ⟨rfl, rfl, rfl⟩
        exact ⟨D, Nm.ext_refl, by simp only [VR, VRs]; exact ⟨[], rfl, rfl⟩, hm⟩
      · cases hq
    · cases h
  · cases h
end Go.V

/-
  The reckoner, ready to use: the tables that lie in the memory that stands, the calls left to the library, and a call from an empty memory; what it left made known.
-/
set_option linter.unusedVariables false
set_option linter.unusedSimpArgs false
namespace Go.V
open Go Go.Proofs

/-! ### What was left, made known -/
/-- Own blocks made known. -/
def frz (I : GH) : List Blk → GH
  | [] => I
  | x :: l => ins (frz I l) x.num x.obj
theorem frz_inv {I : GH} : ∀ {M : List Blk} {b : Nat} {o : Obj}, frz I M b = some o → I b = some o ∨ ∃ x ∈ M, x.num = b ∧ x.obj = o
  | [], b, o, h => .inl h
  | x :: l, b, o, h => by
    unfold frz ins at h
    by_cases e : b = x.num
    · subst e
      simp only [beq_self', cond_true, Option.some.injEq] at h
      exact .inr ⟨x, by simp, rfl, h⟩
    · simp only [beq_ne e, cond_false] at h
      rcases frz_inv h with h | ⟨y, h1, h2, h3⟩
      · exact .inl h
      · exact .inr ⟨y, by simp [h1], h2, h3⟩
theorem frz_mem {I : GH} : ∀ {M : List Blk} (hn : (M.map (·.num)).Nodup) {x : Blk}, x ∈ M → frz I M x.num = some x.obj
  | y :: l, hn, x, h => by
    simp only [List.map_cons, List.nodup_cons] at hn
    rcases List.mem_cons.1 h with rfl | h
    · unfold frz ins
      simp only [beq_self', cond_true]
    · have e : x.num ≠ y.num := fun e => hn.1 (List.mem_map.2 ⟨x, h, e⟩)
      unfold frz ins
      simp only [beq_ne e, cond_false]
      exact frz_mem hn.2 h
theorem frz_le {I : GH} : ∀ {M : List Blk} (hd : ∀ x ∈ M, I x.num = none) {b : Nat} {o : Obj}, I b = some o → frz I M b = some o
  | [], hd, b, o, h => h
  | y :: l, hd, b, o, h => by
    have e : b ≠ y.num := fun e => by
      have := hd y (by simp)
      rw [← e, h] at this
      cases this
    unfold frz ins
    simp only [beq_ne e, cond_false]
    exact frz_le (fun x hx => hd x (by simp [hx])) h
theorem kn_frz {I : GH} {M : List Blk} (hn : (M.map (·.num)).Nodup) (hd : ∀ x ∈ M, I x.num = none) {b : Nat} {o : Obj} (h : Kn I M b o) : frz I M b = some o := by
  rcases h with h | ⟨x, h1, rfl, rfl⟩
  · exact frz_le hd h
  · exact frz_mem hn h1
/-- What is told of a state whose own blocks were made known. -/
structure Frz (I : GH) (M : List Blk) (J : GH) : Prop where
  kn : ∀ b o, Kn I M b o → J b = some o
  inv : ∀ b o, J b = some o → Kn I M b o
theorem Frz.rd {I J : GH} {M : List Blk} (h : Frz I M J) {a : Addr} {n : Nat} {vs : List Value} (hr : Rd I M a n vs) (M' : List Blk) : Rd J M' a n vs := by
  obtain ⟨h1, cs, T, f, h2, h3, h4⟩ := hr
  exact ⟨h1, cs, T, f, .inl (h.kn _ _ h2), h3, h4⟩
theorem Frz.le {I J : GH} {M : List Blk} (h : Frz I M J) : ∀ b o, I b = some o → J b = some o := fun b o hb => h.kn b o (.inl hb)

theorem frz_end {I I' : GH} {M' : List Blk} {w w' : World} (h1 : Holds I' M' w') (h2 : Kept I [] w I' M' w') : Frz I' M' (frz I' M') ∧ Holds (frz I' M') [] w' ∧ Kept I [] w (frz I' M') [] w' := by
  refine ⟨⟨fun b o h => kn_frz h1.nd h1.d h, fun b o h => ?_⟩, ⟨fun b o h => ?_, by simp, by simp, by simp⟩, ⟨fun b o h => frz_le h1.d (h2.le _ _ h), fun b o h => ?_, by simp, h2.old, h2.out, h2.sz⟩⟩
  · rcases frz_inv h with h | ⟨x, g1, g2, g3⟩
    · exact .inl h
    · exact .inr ⟨x, g1, g2, g3⟩
  · rcases frz_inv h with h | ⟨x, g1, rfl, rfl⟩
    · exact h1.i _ _ h
    · exact h1.m _ g1
  · rcases frz_inv h with h | ⟨x, g1, rfl, rfl⟩
    · exact h2.newI _ _ h
    · rcases h2.newM _ g1 with ⟨y, hy, _⟩ | h
      · cases hy
      · exact .inr h
/-- Whatever a call leaves as its own may be made known. -/
theorem Spec.frz {P : Program} {f : Nat} {args : List Value} {I : GH} {Q : Value → GH → List Blk → Prop} (h : Spec P f args I [] Q) : Spec P f args I [] fun r J M'' => M'' = [] ∧ (∀ b o, I b = some o → J b = some o) ∧ ∃ I' M', Q r I' M' ∧ Frz I' M' J := by
  rcases h with ⟨h1, h2⟩ | h
  · refine .inl ⟨h1, fun w hw => ?_⟩
    refine (h2 w hw).mono ?_
    rintro e w' ⟨v, I', M', e1, e2, e3, e4⟩
    obtain ⟨g1, g2, g3⟩ := frz_end e3 e4
    exact ⟨v, _, [], e1, ⟨rfl, g3.le, I', M', e2, g1⟩, g2, g3⟩
  · refine .inr fun w hw => ?_
    obtain ⟨v, w', I', M', e1, e2, e3, e4⟩ := h w hw
    obtain ⟨g1, g2, g3⟩ := frz_end e3 e4
    exact ⟨v, w', _, [], e1, ⟨rfl, g3.le, I', M', e2, g1⟩, g2, g3⟩

/-! ### The tables -/
noncomputable def triL {α : Type} (l : List α) : Tri α := Tri.putsK l .nil 0 id
theorem triL_get {α : Type} {l : List α} {i : Nat} {v : α} (h : (triL l).get i = some v) : l[i]? = some v := by
  obtain ⟨t, h1, h2⟩ := Tri.puts_ok l (.nil : Tri α) 0
  unfold triL at h
  rw [h1] at h
  rcases h2 _ _ h with ⟨_, h⟩ | ⟨_, h⟩
  · simpa using h
  · cases h
noncomputable def GTs : GT := fun g => cnd (Nat.beq g 0) (some (triL (countsL.map (EV.i .i64))))
  (cnd (Nat.beq g 1) (some (triL (signsL.map EV.s)))
  (cnd (Nat.beq g 2) (some (triL [.i .i64 0, .i .i64 1, .s [63], .i .i64 0, .i .i64 (-1), .s [42], .i .i64 1, .i .i64 (-1), .s [43]]))
  (cnd (Nat.beq g 4) (some (triL (debL.map (EV.i .u8)))) none)))
theorem gi_map {α : Type} {f : α → EV} {h : α → Value} (hf : ∀ x D, VR D (f x) (h x)) {l : List α} {i : Nat} {v : EV} (hv : (triL (l.map f)).get i = some v) : ∃ x, (l.map h).toArray[i]? = some x ∧ ∀ D, VR D v x := by
  have := triL_get hv
  rw [List.getElem?_map] at this
  cases hx : l[i]? with
  | none => rw [hx] at this; cases this
  | some x =>
    rw [hx] at this
    simp only [Option.map_some, Option.some.injEq] at this
    subst this
    exact ⟨h x, by simp [hx], hf x⟩
theorem gi_tabs {I : GH} (hT : Tabs I debL) : GI GTs I := by
  intro g cs h
  unfold GTs at h
  rw [cnd_eq, cnd_eq, cnd_eq, cnd_eq] at h
  cases h1 : Nat.beq g 0 with
  | true =>
    rw [h1, cond_true] at h
    obtain rfl := Nat.eq_of_beq_eq_true h1
    have h := Option.some.inj h
    subst h
    obtain ⟨T, f, h⟩ := hT.c
    exact ⟨_, T, f, h, fun i v hv => gi_map (f := EV.i .i64) (h := Value.int .i64) (fun x D => by simp only [VR]) hv⟩
  | false =>
  rw [h1, cond_false] at h
  cases h2 : Nat.beq g 1 with
  | true =>
    rw [h2, cond_true] at h
    obtain rfl := Nat.eq_of_beq_eq_true h2
    have h := Option.some.inj h
    subst h
    obtain ⟨T, f, h⟩ := hT.s
    exact ⟨_, T, f, h, fun i v hv => gi_map (f := EV.s) (h := fun l => Value.string (strOf l)) (fun x D => by simp only [VR, strOf]) hv⟩
  | false =>
  rw [h2, cond_false] at h
  cases h3 : Nat.beq g 2 with
  | true =>
    rw [h3, cond_true] at h
    obtain rfl := Nat.eq_of_beq_eq_true h3
    have h := Option.some.inj h
    subst h
    obtain ⟨T, f, h⟩ := hT.p
    refine ⟨_, T, f, h, fun i v hv => ?_⟩
    have hv := triL_get hv
    rcases i with _ | _ | _ | _ | _ | _ | _ | _ | _ | i
    all_goals first | (cases hv; exact ⟨_, rfl, fun D => by simp only [VR] <;> rfl⟩) | (simp at hv)
  | false =>
  rw [h3, cond_false] at h
  cases h4 : Nat.beq g 4 with
  | true =>
    rw [h4, cond_true] at h
    obtain rfl := Nat.eq_of_beq_eq_true h4
    have h := Option.some.inj h
    subst h
    obtain ⟨_, _, T, f, h⟩ := hT.d
    exact ⟨_, T, f, h, fun i v hv => gi_map (f := EV.i .u8) (h := Value.int .u8) (fun x D => by simp only [VR]) hv⟩
  | false =>
  rw [h4, cond_false] at h
  cases h

/-! ### The calls left to the library -/
noncomputable def idxN : List UInt8 → Nat → Nat → Int
  | [], _, _ => -1
  | b :: l, c, k => cnd (Nat.beq b.toNat c) (Int.ofNat k) (idxN l c (Nat.succ k))
theorem idxN_eq (c : UInt8) : ∀ (l : List UInt8) (k : Nat), idxN l c.toNat k = if Lib.indexByte l c = -1 then -1 else Lib.indexByte l c + k
  | [], k => rfl
  | b :: l, k => by
    have hge := Lib.indexByte_ge l c
    unfold idxN Lib.indexByte
    rw [cnd_eq]
    by_cases h : b = c
    · subst h
      simp
    · have h1 : Nat.beq b.toNat c.toNat = false := by
        cases hb : Nat.beq b.toNat c.toNat with
        | false => rfl
        | true => exact absurd (UInt8.toNat_inj.1 (Nat.eq_of_beq_eq_true hb)) h
      have h2 : (b == c) = false := by simpa using h
      rw [h1, cond_false, h2, idxN_eq c l]
      simp only [Bool.false_eq_true, if_false]
      by_cases h3 : Lib.indexByte l c = -1
      · simp [h3]
      · have h4 : (Lib.indexByte l c == -1) = false := by simpa using h3
        rw [h4, if_neg h3]
        simp only [Bool.false_eq_true, if_false]
        rw [if_neg (by omega)]
        omega
theorem yk_funs : FunsOK Tryz.prog := funsOK_of (by kernel_rfl)
theorem yk_orders : Tryz.prog.follows .mixedOrders = true := by kernel_rfl
/-- The reckoner without laws; what lex.readings comes to. -/
noncomputable def YZ : RK := ⟨Tryz.prog, TryzE, fun _ => none, fun _ _ _ => none⟩
noncomputable def rdM : List SE := [.map [(.i .u8 123, .f 217 [] []), (.i .u8 34, .f 218 [] []), (.i .u8 91, .f 219 [] []), (.i .u8 46, .f 220 [] []), (.i .u8 47, .f 236 [] [.p 1 0]), (.i .u8 38, .f 236 [] [.p 2 0]), (.i .u8 33, .f 236 [] [.p 3 0]), (.i .u8 63, .f 236 [] [.p 4 0]), (.i .u8 42, .f 236 [] [.p 5 0]), (.i .u8 43, .f 236 [] [.p 6 0]), (.i .u8 40, .f 236 [] [.p 7 0]), (.i .u8 41, .f 236 [] [.p 8 0]), (.i .u8 60, .f 222 [] []), (.i .u8 62, .f 236 [] [.p 10 0]), (.i .u8 58, .f 236 [] [.p 11 0]), (.i .u8 65, .f 223 [] []), (.i .u8 66, .f 223 [] []), (.i .u8 67, .f 223 [] []), (.i .u8 68, .f 223 [] []), (.i .u8 69, .f 223 [] []), (.i .u8 70, .f 223 [] []), (.i .u8 71, .f 223 [] []), (.i .u8 72, .f 223 [] []), (.i .u8 73, .f 223 [] []), (.i .u8 74, .f 223 [] []), (.i .u8 75, .f 223 [] []), (.i .u8 76, .f 223 [] []), (.i .u8 77, .f 223 [] []), (.i .u8 78, .f 223 [] []), (.i .u8 79, .f 223 [] []), (.i .u8 80, .f 223 [] []), (.i .u8 81, .f 223 [] []), (.i .u8 82, .f 223 [] []), (.i .u8 83, .f 223 [] []), (.i .u8 84, .f 223 [] []), (.i .u8 85, .f 223 [] []), (.i .u8 86, .f 223 [] []), (.i .u8 87, .f 223 [] []), (.i .u8 88, .f 223 [] []), (.i .u8 89, .f 223 [] []), (.i .u8 90, .f 223 [] []), (.i .u8 95, .f 223 [] []), (.i .u8 97, .f 223 [] []), (.i .u8 98, .f 223 [] []), (.i .u8 99, .f 223 [] []), (.i .u8 100, .f 223 [] []), (.i .u8 101, .f 223 [] []), (.i .u8 102, .f 223 [] []), (.i .u8 103, .f 223 [] []), (.i .u8 104, .f 223 [] []), (.i .u8 105, .f 223 [] []), (.i .u8 106, .f 223 [] []), (.i .u8 107, .f 223 [] []), (.i .u8 108, .f 223 [] []), (.i .u8 109, .f 223 [] []), (.i .u8 110, .f 223 [] []), (.i .u8 111, .f 223 [] []), (.i .u8 112, .f 223 [] []), (.i .u8 113, .f 223 [] []), (.i .u8 114, .f 223 [] []), (.i .u8 115, .f 223 [] []), (.i .u8 116, .f 223 [] []), (.i .u8 117, .f 223 [] []), (.i .u8 118, .f 223 [] []), (.i .u8 119, .f 223 [] []), (.i .u8 120, .f 223 [] []), (.i .u8 121, .f 223 [] []), (.i .u8 122, .f 223 [] [])],
  .cells [.i .u8 3] 5,
  .cells [.i .u8 4] 5,
  .cells [.i .u8 5] 5,
  .cells [.i .u8 6] 5,
  .cells [.i .u8 7] 5,
  .cells [.i .u8 8] 5,
  .cells [.i .u8 9] 5,
  .cells [.i .u8 10] 5,
  .cells [.i .u8 11] 5,
  .cells [.i .u8 12] 5,
  .cells [.i .u8 13] 5]
theorem rd_run : (opn (callF YZ (E_code YZ 100000) 205 [] ⟨.nil, 0⟩) none fun p => opn (readAll p.2.t 0 p.2.n) none fun L => some (p.1, L)) = some (EV.m 0, rdM) := by kernel_rfl
noncomputable def prL : PR := fun g vs m => cnd (Nat.beq g 253) (match vs with
  | [.s l, .i .u8 (.ofNat k)] => cnd (Nat.blt k 256) (some (.i .i64 (idxN l k 0), m)) none
  | _ => none) (cnd (Nat.beq g 216) (match vs with
  | [v] => some (v, m)
  | _ => none) (cnd (Nat.beq g 205) (match vs with
  | [] => memo (.m 0) rdM m
  | _ => none) (cnd (Nat.beq g 203) (ccE m vs) none)))
/-- The reckoner at this program. -/
noncomputable def YK : RK := ⟨Tryz.prog, TryzE, GTs, prL⟩
theorem prim_ok : PrimOK YK := by
  intro g vs m v m' h D I M us hu hm
  change prL g vs m = some (v, m') at h
  unfold prL at h
  rw [cnd_eq] at h
  cases h1 : Nat.beq g 253 with
  | true =>
    rw [h1, cond_true] at h
    obtain rfl := Nat.eq_of_beq_eq_true h1
    split at h
    · rename_i l k
      rw [cnd_eq] at h
      cases hk : Nat.blt k 256 with
      | false => rw [hk] at h; cases h
      | true =>
        rw [hk, cond_true] at h
        have hk' : k < 256 := Nat.blt_eq ▸ hk
        cases h
        simp only [VRs, VR] at hu
        obtain ⟨x, xs, rfl, ⟨y, ys, rfl, rfl, rfl⟩, rfl⟩ := hu
        have hkc : (UInt8.ofNat k).toNat = k := by simp; omega
        have := IndexByteString_spec (I := I) (M := M) ⟨l.toArray⟩ (UInt8.ofNat k)
        rw [hkc] at this
        refine Spec.weakK this ?_
        rintro r I' M' ⟨rfl, rfl, rfl⟩
        refine ⟨D, Nm.ext_refl, ?_, hm⟩
        simp only [VR]
        have := idxN_eq (UInt8.ofNat k) l 0
        rw [hkc] at this
        rw [this]
        split
        · rename_i e
          simp [e]
        · simp
    · cases h
  | false =>
  rw [h1, cond_false, cnd_eq] at h
  cases h2 : Nat.beq g 216 with
  | true =>
    rw [h2, cond_true] at h
    obtain rfl := Nat.eq_of_beq_eq_true h2
    split at h
    · cases h
      simp only [VRs] at hu
      obtain ⟨x, xs, hu, rfl, rfl⟩ := hu
      refine Spec.weakK (NoEscape_spec _) ?_
      rintro r I' M' ⟨rfl, rfl, rfl⟩
      exact ⟨D, Nm.ext_refl, hu, hm⟩
    · cases h
  | false =>
  rw [h2, cond_false, cnd_eq] at h
  cases h3 : Nat.beq g 205 with
  | true =>
    rw [h3, cond_true] at h
    obtain rfl := Nat.eq_of_beq_eq_true h3
    split at h
    · obtain ⟨⟨v0, m0⟩, h4, h5⟩ := opn_eq rd_run
      obtain ⟨L, h6, h7⟩ := opn_eq h5
      cases h7
      exact memo_ok (Y := YK) TryzEOK yk_funs yk_orders h4 h6 (fun D us h => by simpa only [VRs] using h) h hu hm
    · cases h
  | false =>
  rw [h3, cond_false, cnd_eq] at h
  cases h4 : Nat.beq g 203 with
  | true =>
    rw [h4, cond_true] at h
    obtain rfl := Nat.eq_of_beq_eq_true h4
    exact cc_ok rfl rfl h hu hm
  | false =>
  rw [h4, cond_false] at h
  cases h


/-- A call from an empty memory: what it leaves is known. -/
theorem reckonX {I : GH} (hT : Tabs I debL) {f g : Nat} {args : List EV} {m' : Me} {v : EV} (h : callF YK (E_code YK f) g args ⟨.nil, 0⟩ = some (v, m')) {us : List Value} (hu : VRs (fun _ => none) args us) :
    Spec Tryz.prog g us I [] fun r J M'' => M'' = [] ∧ (∀ b o, I b = some o → J b = some o) ∧ ∃ I' M' D', VR D' v r ∧ MS YK D' m' I' M' ∧ Frz I' M' J := by
  have hm : MS YK (fun _ => none) ⟨.nil, 0⟩ I [] := ⟨fun id e a h h' => (by cases h'), fun id id' e e' a a' h h1 h' => (by cases h'), fun id a h => (by cases h), gi_tabs hT⟩
  refine Spec.weakK (reckon (Y := YK) TryzEOK yk_funs prim_ok yk_orders h hu hm).frz ?_
  rintro r J M'' ⟨rfl, h1, I', M', ⟨D', -, h2, h3⟩, h4⟩
  exact ⟨rfl, h1, I', M', D', h2, h3, h4⟩
end Go.V

/-
  Closed calls that give a truth value: by the reckoner.
-/
set_option linter.unusedVariables false
set_option linter.unusedSimpArgs false
namespace Go.V
open Go Go.Proofs

/-- A call with arguments that are plain gives this. -/
noncomputable def gives (f g : Nat) (args : List EV) : Option EV := opn (callF YK (E_code YK f) g args ⟨.nil, 0⟩) none fun p => some p.1
theorem gives_spec {I : GH} (hT : Tabs I debL) {f g : Nat} {args : List EV} {b : Bool} (h : gives f g args = some (.b b)) {us : List Value} (hu : VRs (fun _ => none) args us) :
    Spec Tryz.prog g us I [] fun r J M'' => r = .bool b ∧ (∀ b o, I b = some o → J b = some o) ∧ M'' = [] := by
  unfold gives at h
  obtain ⟨⟨v, m'⟩, h1, h⟩ := opn_eq h
  cases h
  refine Spec.weakK (reckonX hT h1 hu) ?_
  rintro r J M'' ⟨rfl, hle, I', M', D', hv, hm, hJ⟩
  simp only [VR] at hv
  exact ⟨hv, hle, rfl⟩
end Go.V

/-
  Law 11's awake: its calls, by the reckoner (1 of 3).
-/
set_option linter.unusedVariables false
namespace Go.V
open Go Go.Proofs

theorem of11_0 : gives 100000 49 [.s [97, 32, 60, 45, 32, 34, 120, 34, 32, 47, 32, 97], .s [34, 97, 98, 34], .s [97], .b false] = some (.b true) := by kernel_rfl
theorem of11_1 : gives 100000 49 [.s [97, 32, 60, 45, 32, 34, 120, 34, 32, 47, 32, 97], .s [34, 97, 34, 63, 32, 34, 98, 34], .s [97, 98], .b false] = some (.b true) := by kernel_rfl
end Go.V

/-
  Law 11's awake: its calls, by the reckoner (2 of 3).
-/
set_option linter.unusedVariables false
namespace Go.V
open Go Go.Proofs

theorem of11_2 : gives 100000 49 [.s [97, 32, 60, 45, 32, 34, 120, 34, 32, 47, 32, 97], .s [34, 97, 34, 42], .s [97], .b true] = some (.b true) := by kernel_rfl
theorem of11_3 : gives 100000 49 [.s [97, 32, 60, 45, 32, 34, 120, 34, 32, 47, 32, 97], .s [33, 34, 97, 34, 32, 91, 97, 45, 99, 93], .s [97, 98, 99], .b false] = some (.b true) := by kernel_rfl
end Go.V

/-
  Law 11's awake: its calls, by the reckoner (3 of 3).
-/
set_option linter.unusedVariables false
namespace Go.V
open Go Go.Proofs

theorem of11_4 : gives 100000 49 [.s [97, 32, 60, 45, 32, 34, 120, 34, 32, 47, 32, 97], .s [97], .s [120], .b false] = some (.b true) := by kernel_rfl
theorem of11_5 : gives 100000 49 [.s [97, 32, 60, 45, 32, 34, 120, 34, 32, 47, 32, 97], .s [97, 63], .s [120], .b true] = some (.b true) := by kernel_rfl
theorem of11_6 : gives 100000 49 [.s [97, 32, 60, 45, 32, 34, 120, 34, 32, 47, 32, 97], .s [38, 91, 93], .s [], .b false] = some (.b true) := by kernel_rfl
end Go.V

/-
  Law 11's awake gives true; the laws of two and three firsts.
-/
set_option linter.unusedVariables false
set_option linter.unusedSimpArgs false
namespace Go.V
open Go Go.Proofs

theorem awake11_spec {I : GH} (hT : Tabs I debL) : Spec Tryz.prog 34 [] I [] fun v J M'' => v = .bool true ∧ (∀ b o, I b = some o → J b = some o) ∧ M'' = [] := by
  refine spec_of_V [] TryzEOK Tryz.func34 rfl rfl rfl ?_
  intro B h0
  refine CallOb.mk [] [] _ (.refl _) (gives_spec hT of11_0 (us := _) (by simp only [VRs, VR]; exact ⟨_, _, rfl, ⟨_, _, rfl, ⟨_, _, rfl, ⟨_, _, rfl, rfl, rfl⟩, rfl⟩, rfl⟩, rfl⟩)) ?_
  rintro v I1 M1 - ⟨rfl, hI1, rfl⟩
  have hT1 := hT.mono hI1
  refine GuardOb.mk (fun _ => ?_) (fun h => by cases h)
  refine CallOb.mk [] [] _ (.refl _) (gives_spec hT1 of11_1 (us := _) (by simp only [VRs, VR]; exact ⟨_, _, rfl, ⟨_, _, rfl, ⟨_, _, rfl, ⟨_, _, rfl, rfl, rfl⟩, rfl⟩, rfl⟩, rfl⟩)) ?_
  rintro v I2 M2 - ⟨rfl, hI2, rfl⟩
  have hT2 := hT1.mono hI2
  refine GuardOb.mk (fun _ => ?_) (fun h => by cases h)
  refine CallOb.mk [] [] _ (.refl _) (gives_spec hT2 of11_2 (us := _) (by simp only [VRs, VR]; exact ⟨_, _, rfl, ⟨_, _, rfl, ⟨_, _, rfl, ⟨_, _, rfl, rfl, rfl⟩, rfl⟩, rfl⟩, rfl⟩)) ?_
  rintro v I3 M3 - ⟨rfl, hI3, rfl⟩
  have hT3 := hT2.mono hI3
  refine GuardOb.mk (fun _ => ?_) (fun h => by cases h)
  refine CallOb.mk [] [] _ (.refl _) (gives_spec hT3 of11_3 (us := _) (by simp only [VRs, VR]; exact ⟨_, _, rfl, ⟨_, _, rfl, ⟨_, _, rfl, ⟨_, _, rfl, rfl, rfl⟩, rfl⟩, rfl⟩, rfl⟩)) ?_
  rintro v I4 M4 - ⟨rfl, hI4, rfl⟩
  have hT4 := hT3.mono hI4
  refine GuardOb.mk (fun _ => ?_) (fun h => by cases h)
  refine CallOb.mk [] [] _ (.refl _) (gives_spec hT4 of11_4 (us := _) (by simp only [VRs, VR]; exact ⟨_, _, rfl, ⟨_, _, rfl, ⟨_, _, rfl, ⟨_, _, rfl, rfl, rfl⟩, rfl⟩, rfl⟩, rfl⟩)) ?_
  rintro v I5 M5 - ⟨rfl, hI5, rfl⟩
  have hT5 := hT4.mono hI5
  refine GuardOb.mk (fun _ => ?_) (fun h => by cases h)
  refine CallOb.mk [] [] _ (.refl _) (gives_spec hT5 of11_5 (us := _) (by simp only [VRs, VR]; exact ⟨_, _, rfl, ⟨_, _, rfl, ⟨_, _, rfl, ⟨_, _, rfl, rfl, rfl⟩, rfl⟩, rfl⟩, rfl⟩)) ?_
  rintro v I6 M6 - ⟨rfl, hI6, rfl⟩
  have hT6 := hT5.mono hI6
  refine GuardOb.mk (fun _ => ?_) (fun h => by cases h)
  refine CallOb.mk [] [] _ (.refl _) (gives_spec hT6 of11_6 (us := _) (by simp only [VRs, VR]; exact ⟨_, _, rfl, ⟨_, _, rfl, ⟨_, _, rfl, ⟨_, _, rfl, rfl, rfl⟩, rfl⟩, rfl⟩, rfl⟩)) ?_
  rintro v I7 M7 - ⟨rfl, hI7, rfl⟩
  have hT7 := hT6.mono hI7
  exact ⟨_, _, .refl, rfl, fun b o h => hI7 _ _ (hI6 _ _ (hI5 _ _ (hI4 _ _ (hI3 _ _ (hI2 _ _ (hI1 _ _ h)))))), rfl⟩
end Go.V

/-
  Walks: the flows of a node, out of its kids'.
-/
set_option linter.unusedVariables false
set_option linter.unusedSimpArgs false
namespace Go.V
open Go Go.Proofs

structure Fl where
  z : Bool
  s : Bool
  f : Bool
  deriving DecidableEq
def Fl.cells (x : Fl) : List Value := [.bool x.z, .bool x.s, .bool x.f]
def Fl.val (x : Fl) : Value := .agg #[.bool x.z, .bool x.s, .bool x.f]
theorem Fl.cells_len (x : Fl) : x.cells.length = 3 := rfl
def Fl.suc (x : Fl) : Bool := x.z || x.s
def Fl.eqb (x y : Fl) : Bool := x.z == y.z && (x.s == y.s && x.f == y.f)
theorem Fl.eqb_iff (x y : Fl) : x.eqb y = decide (x = y) := by
  obtain ⟨a, b, c⟩ := x
  obtain ⟨d, e, f⟩ := y
  cases a <;> cases b <;> cases c <;> cases d <;> cases e <;> cases f <;> decide

theorem eqB3_run (x y : Fl) (p q : Operand) (w : World) : (do eqGuard .eql 80 p q x.val y.val; binOp .eql 80 x.val y.val : Sem Value).run Tryz.prog w = .ok (.bool (decide (x = y))) w := by
  obtain ⟨a, b, c⟩ := x
  obtain ⟨d, e, f⟩ := y
  cases a <;> cases b <;> cases c <;> cases d <;> cases e <;> cases f <;> kernel_rfl
theorem neB3_run (x y : Fl) (p q : Operand) (w : World) : (do eqGuard .neq 80 p q x.val y.val; binOp .neq 80 x.val y.val : Sem Value).run Tryz.prog w = .ok (.bool (!decide (x = y))) w := by
  obtain ⟨a, b, c⟩ := x
  obtain ⟨d, e, f⟩ := y
  cases a <;> cases b <;> cases c <;> cases d <;> cases e <;> cases f <;> kernel_rfl
theorem BinOb.eqF {x y : Operand} {p q : Fl} {V : Value → Prop} {other : Prop} (h : V (.bool (decide (p = q)))) : BinOb Tryz.prog .eql 80 x y (.val (.agg #[.bool p.z, .bool p.s, .bool p.f])) (.val (.agg #[.bool q.z, .bool q.s, .bool q.f])) V other :=
  .mk _ _ _ rfl rfl (fun w => eqB3_run p q x y w) h
theorem BinOb.neF {x y : Operand} {p q : Fl} {V : Value → Prop} {other : Prop} (h : V (.bool (!decide (p = q)))) : BinOb Tryz.prog .neq 80 x y (.val (.agg #[.bool p.z, .bool p.s, .bool p.f])) (.val (.agg #[.bool q.z, .bool q.s, .bool q.f])) V other :=
  .mk _ _ _ rfl rfl (fun w => neB3_run p q x y w) h

theorem fl_eq {z s f : Bool} {x : Fl} (h1 : z = x.z) (h2 : s = x.s) (h3 : f = x.f) : Value.agg #[.bool z, .bool s, .bool f] = x.val := by
  subst h1 h2 h3
  rfl
theorem fl_cells {z s f : Bool} {x : Fl} (h1 : z = x.z) (h2 : s = x.s) (h3 : f = x.f) : [Value.bool z, Value.bool s, Value.bool f] = x.cells := by
  subst h1 h2 h3
  rfl
theorem sv_bool {a b : Bool} (h : a = b) : SvLe (.val (.bool a)) (.val (.bool b)) := by
  subst h
  exact .refl
theorem sv_lit {a b : Bool} (h : a = b) : SvLe (.lit a) (.val (.bool b)) := by
  subst h
  exact .lit
theorem perm_nil {M : List Blk} : M.Perm (M ++ []) := by simp
theorem BinOb.ne4 {P : Program} {E : Env} (hE : EOK P E) {t e : Nat} {ti ei : TI} {x y : Operand} (ht : E t = some ti) (hts : ti.sh = .array 4 e) (he : E e = some ei) {k : IntKind} (hes : ei.sh = .int k)
    (hg : P.eqGuardType P.depth t = false) {a0 a1 a2 a3 b0 b1 b2 b3 : Int} {V : Value → Prop} {other : Prop}
    (h : V (.bool (!(a0 == b0 && (a1 == b1 && (a2 == b2 && a3 == b3)))))) : BinOb P .neq t x y (.val (.agg #[.int k a0, .int k a1, .int k a2, .int k a3])) (.val (.agg #[.int k b0, .int k b1, .int k b2, .int k b3])) V other := by
  obtain ⟨d, hud, hdd⟩ := (hE _ _ ht).und
  obtain ⟨de, hue, hde⟩ := (hE _ _ he).und
  obtain ⟨inf, z, hi, hi1, _⟩ := (hE _ _ he).inf
  have h1 : d = .array 4 e := by rw [hts] at hdd; cases d <;> simp_all [shOf]
  have h2 : de = .int k := by rw [hes] at hde; cases de <;> simp_all [shOf]
  subst h1
  subst h2
  have hs1 : inf.size = 1 := by rw [hi1]; exact (hE _ _ he).sz1 (by rw [hes]; rfl)
  refine .mk _ _ _ rfl rfl (fun w => ?_) h
  simp only [Sem.run_bind, run_eqGuard_agg (hm := hg), Result.andThen_ok, binOp, eq4_run hud hue hi hs1, Sem.run_pure]
theorem Suc_spec {I : GH} {M : List Blk} (x : Fl) : Spec Tryz.prog 45 [x.val] I M fun v I' M' => v = .bool x.suc ∧ I' = I ∧ M' = M := by
  obtain ⟨a, b, c⟩ := x
  refine spec_of_V [] TryzEOK Tryz.func45 rfl rfl rfl ?_
  intro B h0
  refine GuardOb.mk (fun h => ?_) (fun h => ?_)
  · exact ⟨_, _, .refl, by rw [show a = false from h]; rfl, rfl, rfl⟩
  · exact ⟨_, _, .refl, by rw [show a = true from h]; rfl, rfl, rfl⟩

/-- Flows that lie from an address on. -/
structure FsAt (I : GH) (M : List Blk) (a : Option Addr) (n : Nat) (ks : List Fl) : Prop where
  n : ks.length = n
  rd : ∀ j (h : j < ks.length), ∃ ad, a = some ad ∧ Rd I M (ad.add (j * 3)) 3 ks[j].cells

def seqStep (st : Fl × Bool) (k : Fl) : Fl × Bool := (⟨st.1.z && k.z, st.1.s || k.s, st.1.f || (st.2 && k.f)⟩, st.2 && k.suc)
def seqGo (ks : List Fl) : Fl × Bool := ks.foldl seqStep (⟨true, false, false⟩, true)
def seqFl (ks : List Fl) : Fl := ⟨(seqGo ks).1.z, (seqGo ks).1.s && (seqGo ks).2, (seqGo ks).1.f⟩
def chStep (f k : Fl) : Fl := ⟨f.z || (f.f && k.z), f.s || (f.f && k.s), f.f && k.f⟩
def chFl (ks : List Fl) : Fl := ks.foldl chStep ⟨false, false, true⟩
def fl0 : Fl := ⟨false, false, false⟩
def repFl (d : Nd) (k : Fl) : Fl := bif decide (d.hi = 0) then ⟨true, false, false⟩ else ⟨k.z || (decide (d.lo = 0) && k.f), k.s, decide (0 < d.lo) && k.f⟩
/-- What a node's kids come to (of a Rule its only kid is the rule's). -/
def comeFl (d : Nd) (ks : List Fl) : Fl :=
  bif decide (d.k = 0) then ⟨true, false, false⟩ else
  bif decide (d.k = 1) then ⟨false, !d.setZ, true⟩ else
  bif decide (d.k = 2) then ⟨false, true, true⟩ else
  bif decide (d.k = 3) then ks.headD fl0 else
  bif decide (d.k = 4) then seqFl ks else
  bif decide (d.k = 5) then chFl ks else
  bif decide (d.k = 6) then repFl d (ks.headD fl0) else
  bif decide (d.k = 7) then ⟨(ks.headD fl0).suc, false, (ks.headD fl0).f⟩ else
  bif decide (d.k = 8) then ⟨(ks.headD fl0).f, false, (ks.headD fl0).suc⟩ else ks.headD fl0

section
variable {I : GH} {M : List Blk} {d : Nd} {a : Option Addr} {n c : Nat} {ks : List Fl}
theorem FsAt.head (hk : FsAt I M a n ks) (h0 : 0 < n) : ∃ ad, a = some ad ∧ Rd I M (ad.add (0 * 3)) 3 (ks.headD fl0).cells := by
  have h1 : 0 < ks.length := by rw [hk.n]; exact h0
  obtain ⟨ad, h2, h3⟩ := hk.rd 0 h1
  refine ⟨ad, h2, ?_⟩
  cases ks with
  | nil => simp at h1
  | cons k ks => exact h3
theorem fEmpty_spec : Spec Tryz.prog 164 [d.val, .slice a n c] I M fun v I' M' => v = Fl.val ⟨true, false, false⟩ ∧ I' = I ∧ M' = M := by
  refine spec_of_V [] TryzEOK Tryz.func164 rfl rfl rfl ?_
  intro B h0
  exact ⟨_, _, .refl, rfl, rfl, rfl⟩
theorem fText_spec : Spec Tryz.prog 166 [d.val, .slice a n c] I M fun v I' M' => v = Fl.val ⟨false, true, true⟩ ∧ I' = I ∧ M' = M := by
  refine spec_of_V [] TryzEOK Tryz.func166 rfl rfl rfl ?_
  intro B h0
  exact ⟨_, _, .refl, rfl, rfl, rfl⟩
theorem fItself_spec (hk : FsAt I M a n ks) (h0 : 0 < n) : Spec Tryz.prog 167 [d.val, .slice a n c] I M fun v I' M' => v = (ks.headD fl0).val ∧ I' = I ∧ M' = M := by
  refine spec_of_V [] TryzEOK Tryz.func167 rfl rfl rfl ?_
  intro B h0'
  obtain ⟨ad, had, hrd⟩ := hk.head h0
  refine IdxOb.mk ad 0 had rfl h0 ?_
  refine LoadOb.mk _ hrd ?_
  exact ⟨_, _, .refl, rfl, rfl, rfl⟩
theorem fAnd_spec (hk : FsAt I M a n ks) (h0 : 0 < n) : Spec Tryz.prog 171 [d.val, .slice a n c] I M fun v I' M' => v = Fl.val ⟨(ks.headD fl0).suc, false, (ks.headD fl0).f⟩ ∧ I' = I ∧ M' = M := by
  refine spec_of_V [] TryzEOK Tryz.func171 rfl rfl rfl ?_
  intro B h0'
  obtain ⟨ad, had, hrd⟩ := hk.head h0
  refine CodeOb.draw TryzEOK rfl rfl rfl ?_
  refine IdxOb.mk ad 0 had rfl h0 ?_
  refine LoadOb.mk _ hrd ?_
  refine IdxOb.mk ad 0 had rfl h0 ?_
  refine LoadOb.mk _ (hrd.part (k := 2) (m := 1) (by decide)) ?_
  refine PCallOb.mkR M [] _ perm_nil (Suc_spec (ks.headD fl0)) (fun v I' M' h x hx => by rw [h.2.2]; exact hx) ?_
  rintro v I' M' - ⟨rfl, rfl, rfl⟩
  rw [List.append_nil]
  exact ⟨_, _, .refl, rfl, rfl, rfl⟩
theorem fNot_spec (hk : FsAt I M a n ks) (h0 : 0 < n) : Spec Tryz.prog 172 [d.val, .slice a n c] I M fun v I' M' => v = Fl.val ⟨(ks.headD fl0).f, false, (ks.headD fl0).suc⟩ ∧ I' = I ∧ M' = M := by
  refine spec_of_V [] TryzEOK Tryz.func172 rfl rfl rfl ?_
  intro B h0'
  obtain ⟨ad, had, hrd⟩ := hk.head h0
  refine CodeOb.draw TryzEOK rfl rfl rfl ?_
  refine IdxOb.mk ad 0 had rfl h0 ?_
  refine LoadOb.mk _ (hrd.part (k := 2) (m := 1) (by decide)) ?_
  refine IdxOb.mk ad 0 had rfl h0 ?_
  refine LoadOb.mk _ hrd ?_
  refine PCallOb.mkR M [] _ perm_nil (Suc_spec (ks.headD fl0)) (fun v I' M' h x hx => by rw [h.2.2]; exact hx) ?_
  rintro v I' M' - ⟨rfl, rfl, rfl⟩
  rw [List.append_nil]
  exact ⟨_, _, .refl, rfl, rfl, rfl⟩
theorem fSet_spec : Spec Tryz.prog 165 [d.val, .slice a n c] I M fun v I' M' => v = Fl.val ⟨false, !d.setZ, true⟩ ∧ I' = I ∧ M' = M := by
  refine spec_of_V [] TryzEOK Tryz.func165 rfl rfl rfl ?_
  intro B h0
  refine BinOb.ne4 TryzEOK (e := 63) rfl rfl rfl rfl (by kernel_rfl) ?_
  exact ⟨_, _, .refl, rfl, rfl, rfl⟩
theorem fRep_spec (hk : FsAt I M a n ks) (h0 : 0 < n) : Spec Tryz.prog 170 [d.val, .slice a n c] I M fun v I' M' => v = (repFl d (ks.headD fl0)).val ∧ I' = I ∧ M' = M := by
  refine spec_of_V [] TryzEOK Tryz.func170 rfl rfl rfl ?_
  intro B h0'
  obtain ⟨ad, had, hrd⟩ := hk.head h0
  generalize ks.headD fl0 = k at hrd
  obtain ⟨kz, kss, kf⟩ := k
  refine CondOb.mk (fun h => ?_) (fun h => ?_)
  · refine ⟨_, _, .refl, fl_eq ?_ ?_ ?_, rfl, rfl⟩ <;> simp [repFl, h]
  refine IdxOb.mk ad 0 had rfl h0 ?_
  refine LoadOb.mk _ hrd ?_
  repeat' refine GuardOb.mk (fun h => ?_) (fun h => ?_)
  all_goals refine ⟨_, _, .refl, fl_eq ?_ ?_ ?_, rfl, rfl⟩
  all_goals first | (simp_all [repFl]; done) | (simp_all [repFl]; intros; omega)
theorem fChoice_spec (hk : FsAt I M a n ks) (hn : n ≤ 140737488355328) : Spec Tryz.prog 169 [d.val, .slice a n c] I M fun v I' M' => v = (chFl ks).val ∧ I' = I ∧ M' = M := by
  refine spec_of_V [] TryzEOK Tryz.func169 rfl rfl rfl ?_
  intro B h0'
  have hkn := hk.n
  refine LoopOb.inv (ι := Nat × Fl) (fun x => { fl := [(4, .ref 4 0), (5, .ref 5 0), (9, .val (.slice a n c)), (10, .val (.int .i64 n)), (11, .val (.int .i64 x.1))], cl := [(4, fl0.cells), (5, x.2.cells)], gi := I, mi := M })
    (fun x => x.1 ≤ n ∧ x.2 = (ks.take x.1).foldl chStep ⟨false, false, true⟩) (fun x => n - x.1) ?_ ?_
  · exact ⟨(0, ⟨false, false, true⟩), ⟨Nat.zero_le _, rfl⟩, .refl, .cons .refl (.cons .refl (.cons .refl (.cons .refl (.cons .refl .nil)))), .cons rfl (.cons rfl .nil)⟩
  rintro ⟨i, f⟩ ⟨hi, hf⟩
  simp only at hi hf
  refine CondOb.mk (fun h => ?_) (fun h => ?_)
  rotate_left
  · have hge : n ≤ i := by have := of_decide_eq_false h; omega
    refine ⟨_, _, .refl, ?_, rfl, rfl⟩
    rw [List.take_of_length_le (by omega)] at hf
    rw [chFl, ← hf]
    rfl
  have hlt : i < n := by have := of_decide_eq_true h; omega
  obtain ⟨ad, had, hrd⟩ := hk.rd i (by omega)
  have hst : ∀ g : Fl, g = chStep f (ks[i]'(by omega)) → g = (ks.take (i + 1)).foldl chStep ⟨false, false, true⟩ := fun g hg => by
    rw [List.take_succ_eq_append_getElem (by omega), List.foldl_append, ← hf, hg]
    rfl
  generalize ks[i]'(by omega) = k at hrd hst
  obtain ⟨kz, kss, kf⟩ := k
  obtain ⟨z, s, ff⟩ := f
  refine IdxOb.mk ad i had rfl hlt ?_
  refine LoadOb.mk _ hrd ?_
  repeat' refine GuardOb.mk (fun h => ?_) (fun h => ?_)
  all_goals refine ArithOb.mk _ (next_wr (i := i) (by omega)) ?_
  all_goals refine ⟨(i + 1, _), ⟨⟨by simp only; omega, hst _ rfl⟩, by simp only; omega⟩, .refl, .cons .refl (.cons .refl (.cons .refl (.cons .refl (.cons .refl .nil)))), .cons rfl (.cons ?_ .nil)⟩
  all_goals clear hst hf hrd
  all_goals (refine congrArg some (fl_cells ?_ ?_ ?_) <;> simp_all [chStep])
theorem seqGo_snoc (l : List Fl) (k : Fl) : seqGo (l ++ [k]) = seqStep (seqGo l) k := by simp [seqGo]
set_option maxHeartbeats 4000000 in
theorem fSeq_spec (hk : FsAt I M a n ks) (hn : n ≤ 140737488355328) : Spec Tryz.prog 168 [d.val, .slice a n c] I M fun v I' M' => v = (seqFl ks).val ∧ I' = I ∧ M' = M := by
  refine spec_of_V [] TryzEOK Tryz.func168 rfl rfl rfl ?_
  intro B h0'
  have hkn := hk.n
  refine LoopOb.inv (ι := Nat × Fl × Bool) (fun x => { fl := [(4, .ref 4 0), (5, .ref 5 0), (6, .val (.bool x.2.2)), (10, .val (.slice a n c)), (11, .val (.int .i64 n)), (12, .val (.int .i64 x.1))], cl := [(4, fl0.cells), (5, x.2.1.cells)], gi := I, mi := M })
    (fun x => x.1 ≤ n ∧ x.2 = seqGo (ks.take x.1)) (fun x => n - x.1) ?_ ?_
  · exact ⟨(0, ⟨true, false, false⟩, true), ⟨Nat.zero_le _, rfl⟩, .refl, .cons .refl (.cons .refl (.cons .lit (.cons .refl (.cons .refl (.cons .refl .nil))))), .cons rfl (.cons rfl .nil)⟩
  rintro ⟨i, f, sc⟩ ⟨hi, hf⟩
  simp only at hi hf
  refine CondOb.mk (fun h => ?_) (fun h => ?_)
  rotate_left
  · have hge : n ≤ i := by have := of_decide_eq_false h; omega
    rw [List.take_of_length_le (by omega)] at hf
    obtain ⟨z, s, ff⟩ := f
    have e1 : (seqGo ks).1 = ⟨z, s, ff⟩ := by rw [← hf]
    have e2 : (seqGo ks).2 = sc := by rw [← hf]
    refine GuardOb.mk (fun h2 => ?_) (fun h2 => ?_)
    all_goals refine ⟨_, _, .refl, fl_eq ?_ ?_ ?_, rfl, rfl⟩
    all_goals simp_all [seqFl]
  have hlt : i < n := by have := of_decide_eq_true h; omega
  obtain ⟨ad, had, hrd⟩ := hk.rd i (by omega)
  have hst : ∀ g : Fl × Bool, g = seqStep (f, sc) (ks[i]'(by omega)) → g = seqGo (ks.take (i + 1)) := fun g hg => by
    rw [List.take_succ_eq_append_getElem (by omega), seqGo_snoc, ← hf, hg]
  generalize ks[i]'(by omega) = k at hrd hst
  obtain ⟨kz, kss, kf⟩ := k
  obtain ⟨z, s, ff⟩ := f
  refine IdxOb.mk ad i had rfl hlt ?_
  refine LoadOb.mk _ hrd ?_
  repeat' first
    | refine GuardOb.mk (fun h => ?_) (fun h => ?_)
    | (refine CallOb.mk M [] _ perm_nil (Suc_spec ⟨kz, kss, kf⟩) ?_; rintro v I' M' - ⟨rfl, rfl, rfl⟩; rw [List.append_nil])
  all_goals refine ArithOb.mk _ (next_wr (i := i) (by omega)) ?_
  all_goals refine ⟨(i + 1, _), ⟨⟨by simp only; omega, hst _ rfl⟩, by simp only; omega⟩, .refl, .cons .refl (.cons .refl (.cons ?_ (.cons .refl (.cons .refl (.cons .refl .nil))))), .cons rfl (.cons ?_ .nil)⟩
  all_goals clear hst hf hrd
  all_goals first
    | (refine congrArg some (fl_cells ?_ ?_ ?_) <;> simp_all [seqStep])
    | (refine sv_bool ?_; simp_all [seqStep])
    | (refine sv_lit ?_; simp_all [seqStep])
end
end Go.V

/-
  Walks: set.Or, And, Subset; first.Seq, Choice, Within; sets and firsts compared.
-/
set_option linter.unusedVariables false
set_option linter.unusedSimpArgs false
namespace Go.V
open Go Go.Proofs

def worV (x y : Int) : Int := IntKind.u64.wrap ((BitVec.ofInt 64 x ||| BitVec.ofInt 64 y).toNat : Int)
theorem worV_bv (x y : BitVec 64) : worV x.toNat y.toNat = ((x ||| y).toNat : Int) := by
  unfold worV
  rw [bv_ofInt, bv_ofInt, wrap_bv]
def worC (x y : Ws) : Nat → List Value
  | 0 => [.int .u64 x.a.toNat, .int .u64 x.b.toNat, .int .u64 x.c.toNat, .int .u64 x.d.toNat]
  | 1 => [.int .u64 (worV x.a.toNat y.a.toNat), .int .u64 x.b.toNat, .int .u64 x.c.toNat, .int .u64 x.d.toNat]
  | 2 => [.int .u64 (worV x.a.toNat y.a.toNat), .int .u64 (worV x.b.toNat y.b.toNat), .int .u64 x.c.toNat, .int .u64 x.d.toNat]
  | 3 => [.int .u64 (worV x.a.toNat y.a.toNat), .int .u64 (worV x.b.toNat y.b.toNat), .int .u64 (worV x.c.toNat y.c.toNat), .int .u64 x.d.toNat]
  | _ => [.int .u64 (worV x.a.toNat y.a.toNat), .int .u64 (worV x.b.toNat y.b.toNat), .int .u64 (worV x.c.toNat y.c.toNat), .int .u64 (worV x.d.toNat y.d.toNat)]
theorem Or_spec {I : GH} {M : List Blk} (x y : Ws) : Spec Tryz.prog 88 [x.val, y.val] I M fun r I' M' => r = (x.or y).val ∧ I' = I ∧ M' = M := by
  refine spec_of_V [] TryzEOK Tryz.func88 rfl rfl rfl ?_
  intro B h0
  refine LoopOb.inv (ι := Nat) (fun i => { fl := [(2, .ref 2 0), (4, .ref 4 0), (7, .val y.val), (8, .val (.int .i64 i))], cl := [(2, worC x y i), (4, Ws.zero.cells)], gi := I, mi := M }) (fun i => i ≤ 4) (fun i => 4 - i) ?_ ?_
  · exact ⟨0, by simp, .refl, .cons .refl (.cons .refl (.cons .refl (.cons .refl .nil))), .cons rfl (.cons rfl .nil)⟩
  · intro i hi
    match i, hi with
    | 0, _ =>
      refine CondOb.mk (fun _ => ?_) (fun h => by simp at h)
      refine ArrOb.mk 0 rfl (by decide) ?_
      refine ArrOb.mk 0 rfl (by decide) ?_
      refine ArrOb.mk 0 rfl (by decide) ?_
      refine ArithOb.mk 1 (by decide) ?_
      exact ⟨1, ⟨by simp, by simp⟩, .refl, .cons .refl (.cons .refl (.cons .refl (.cons .refl .nil))), .cons rfl (.cons rfl .nil)⟩
    | 1, _ =>
      refine CondOb.mk (fun _ => ?_) (fun h => by simp at h)
      refine ArrOb.mk 1 rfl (by decide) ?_
      refine ArrOb.mk 1 rfl (by decide) ?_
      refine ArrOb.mk 1 rfl (by decide) ?_
      refine ArithOb.mk 2 (by decide) ?_
      exact ⟨2, ⟨by simp, by simp⟩, .refl, .cons .refl (.cons .refl (.cons .refl (.cons .refl .nil))), .cons rfl (.cons rfl .nil)⟩
    | 2, _ =>
      refine CondOb.mk (fun _ => ?_) (fun h => by simp at h)
      refine ArrOb.mk 2 rfl (by decide) ?_
      refine ArrOb.mk 2 rfl (by decide) ?_
      refine ArrOb.mk 2 rfl (by decide) ?_
      refine ArithOb.mk 3 (by decide) ?_
      exact ⟨3, ⟨by simp, by simp⟩, .refl, .cons .refl (.cons .refl (.cons .refl (.cons .refl .nil))), .cons rfl (.cons rfl .nil)⟩
    | 3, _ =>
      refine CondOb.mk (fun _ => ?_) (fun h => by simp at h)
      refine ArrOb.mk 3 rfl (by decide) ?_
      refine ArrOb.mk 3 rfl (by decide) ?_
      refine ArrOb.mk 3 rfl (by decide) ?_
      refine ArithOb.mk 4 (by decide) ?_
      exact ⟨4, ⟨by simp, by simp⟩, .refl, .cons .refl (.cons .refl (.cons .refl (.cons .refl .nil))), .cons rfl (.cons rfl .nil)⟩
    | 4, _ =>
      refine CondOb.mk (fun h => by simp at h) (fun _ => ?_)
      refine ⟨_, _, .refl, ?_, rfl, rfl⟩
      show Value.agg #[.int .u64 (worV x.a.toNat y.a.toNat), .int .u64 (worV x.b.toNat y.b.toNat), .int .u64 (worV x.c.toNat y.c.toNat), .int .u64 (worV x.d.toNat y.d.toNat)] = _
      rw [worV_bv, worV_bv, worV_bv, worV_bv]
      rfl
def wandV (x y : Int) : Int := IntKind.u64.wrap ((BitVec.ofInt 64 x &&& BitVec.ofInt 64 y).toNat : Int)
theorem wandV_bv (x y : BitVec 64) : wandV x.toNat y.toNat = ((x &&& y).toNat : Int) := by
  unfold wandV
  rw [bv_ofInt, bv_ofInt, wrap_bv]
def wandC (x y : Ws) : Nat → List Value
  | 0 => [.int .u64 x.a.toNat, .int .u64 x.b.toNat, .int .u64 x.c.toNat, .int .u64 x.d.toNat]
  | 1 => [.int .u64 (wandV x.a.toNat y.a.toNat), .int .u64 x.b.toNat, .int .u64 x.c.toNat, .int .u64 x.d.toNat]
  | 2 => [.int .u64 (wandV x.a.toNat y.a.toNat), .int .u64 (wandV x.b.toNat y.b.toNat), .int .u64 x.c.toNat, .int .u64 x.d.toNat]
  | 3 => [.int .u64 (wandV x.a.toNat y.a.toNat), .int .u64 (wandV x.b.toNat y.b.toNat), .int .u64 (wandV x.c.toNat y.c.toNat), .int .u64 x.d.toNat]
  | _ => [.int .u64 (wandV x.a.toNat y.a.toNat), .int .u64 (wandV x.b.toNat y.b.toNat), .int .u64 (wandV x.c.toNat y.c.toNat), .int .u64 (wandV x.d.toNat y.d.toNat)]
theorem And_spec {I : GH} {M : List Blk} (x y : Ws) : Spec Tryz.prog 128 [x.val, y.val] I M fun r I' M' => r = (x.and y).val ∧ I' = I ∧ M' = M := by
  refine spec_of_V [] TryzEOK Tryz.func128 rfl rfl rfl ?_
  intro B h0
  refine LoopOb.inv (ι := Nat) (fun i => { fl := [(2, .ref 2 0), (4, .ref 4 0), (7, .val y.val), (8, .val (.int .i64 i))], cl := [(2, wandC x y i), (4, Ws.zero.cells)], gi := I, mi := M }) (fun i => i ≤ 4) (fun i => 4 - i) ?_ ?_
  · exact ⟨0, by simp, .refl, .cons .refl (.cons .refl (.cons .refl (.cons .refl .nil))), .cons rfl (.cons rfl .nil)⟩
  · intro i hi
    match i, hi with
    | 0, _ =>
      refine CondOb.mk (fun _ => ?_) (fun h => by simp at h)
      refine ArrOb.mk 0 rfl (by decide) ?_
      refine ArrOb.mk 0 rfl (by decide) ?_
      refine ArrOb.mk 0 rfl (by decide) ?_
      refine ArithOb.mk 1 (by decide) ?_
      exact ⟨1, ⟨by simp, by simp⟩, .refl, .cons .refl (.cons .refl (.cons .refl (.cons .refl .nil))), .cons rfl (.cons rfl .nil)⟩
    | 1, _ =>
      refine CondOb.mk (fun _ => ?_) (fun h => by simp at h)
      refine ArrOb.mk 1 rfl (by decide) ?_
      refine ArrOb.mk 1 rfl (by decide) ?_
      refine ArrOb.mk 1 rfl (by decide) ?_
      refine ArithOb.mk 2 (by decide) ?_
      exact ⟨2, ⟨by simp, by simp⟩, .refl, .cons .refl (.cons .refl (.cons .refl (.cons .refl .nil))), .cons rfl (.cons rfl .nil)⟩
    | 2, _ =>
      refine CondOb.mk (fun _ => ?_) (fun h => by simp at h)
      refine ArrOb.mk 2 rfl (by decide) ?_
      refine ArrOb.mk 2 rfl (by decide) ?_
      refine ArrOb.mk 2 rfl (by decide) ?_
      refine ArithOb.mk 3 (by decide) ?_
      exact ⟨3, ⟨by simp, by simp⟩, .refl, .cons .refl (.cons .refl (.cons .refl (.cons .refl .nil))), .cons rfl (.cons rfl .nil)⟩
    | 3, _ =>
      refine CondOb.mk (fun _ => ?_) (fun h => by simp at h)
      refine ArrOb.mk 3 rfl (by decide) ?_
      refine ArrOb.mk 3 rfl (by decide) ?_
      refine ArrOb.mk 3 rfl (by decide) ?_
      refine ArithOb.mk 4 (by decide) ?_
      exact ⟨4, ⟨by simp, by simp⟩, .refl, .cons .refl (.cons .refl (.cons .refl (.cons .refl .nil))), .cons rfl (.cons rfl .nil)⟩
    | 4, _ =>
      refine CondOb.mk (fun h => by simp at h) (fun _ => ?_)
      refine ⟨_, _, .refl, ?_, rfl, rfl⟩
      show Value.agg #[.int .u64 (wandV x.a.toNat y.a.toNat), .int .u64 (wandV x.b.toNat y.b.toNat), .int .u64 (wandV x.c.toNat y.c.toNat), .int .u64 (wandV x.d.toNat y.d.toNat)] = _
      rw [wandV_bv, wandV_bv, wandV_bv, wandV_bv]
      rfl

theorem BinOb.eqW {x y : Operand} {p q : Ws} {V : Value → Prop} {other : Prop} (h : V (.bool (decide (p = q)))) :
    BinOb Tryz.prog .eql 65 x y (.val (.agg #[.int .u64 p.a.toNat, .int .u64 p.b.toNat, .int .u64 p.c.toNat, .int .u64 p.d.toNat])) (.val (.agg #[.int .u64 q.a.toNat, .int .u64 q.b.toNat, .int .u64 q.c.toNat, .int .u64 q.d.toNat])) V other := by
  refine BinOb.eq4 TryzEOK (e := 63) rfl rfl rfl rfl (by kernel_rfl) ?_
  rw [Ws.eqb]
  exact h
theorem Subset_spec {I : GH} {M : List Blk} (x y : Ws) : Spec Tryz.prog 90 [x.val, y.val] I M fun r I' M' => r = .bool (x.sub y) ∧ I' = I ∧ M' = M := by
  refine spec_of_V [] TryzEOK Tryz.func90 rfl rfl rfl ?_
  intro B h0
  refine CodeOb.draw TryzEOK rfl rfl rfl ?_
  refine PCallOb.mkR M [] _ perm_nil (And_spec x y) (fun v I' M' h x hx => by rw [h.2.2]; exact hx) ?_
  rintro v I' M' - ⟨rfl, rfl, rfl⟩
  rw [List.append_nil]
  refine BinOb.eqW (p := x.and y) (q := x) ?_
  exact ⟨_, _, .refl, rfl, rfl, rfl⟩

/-! ### Firsts compared -/
theorem eqI_bv (x y : BitVec 64) : eqI (x.toNat : Int) (y.toNat : Int) = decide (x = y) := by
  rw [eqI_eq, ← bv_nat_inj, Bool.eq_iff_iff]
  simp
theorem opn_s {α R : Type} (v : α) (x : R) (f : α → R) : opn (some v) x f = f v := rfl
theorem eqE_first (a0 a1 a2 a3 b0 b1 b2 b3 : Int) (f g : Bool) : eqT Tryz.prog TryzE 8 67 (.a [.i .u64 a0, .i .u64 a1, .i .u64 a2, .i .u64 a3, .b f]) (.a [.i .u64 b0, .i .u64 b1, .i .u64 b2, .i .u64 b3, .b g]) = some (eqI a0 b0 && (eqI a1 b1 && (eqI a2 b2 && (eqI a3 b3 && (f == g))))) := by
  obtain ⟨i67, h67, hs67⟩ : ∃ i, TryzE 67 = some i ∧ i.sh = .struct [(65, 0), (4, 4)] := ⟨_, rfl, rfl⟩
  obtain ⟨i65, h65, hs65, hz65⟩ : ∃ i, TryzE 65 = some i ∧ i.sh = .array 4 63 ∧ i.size = 4 := ⟨_, rfl, rfl, rfl⟩
  obtain ⟨i63, h63, hs63, hz63⟩ : ∃ i, TryzE 63 = some i ∧ i.sh = .int .u64 ∧ i.size = 1 := ⟨_, rfl, rfl, rfl⟩
  obtain ⟨i4, h4, hs4, hz4⟩ : ∃ i, TryzE 4 = some i ∧ i.sh = .bool ∧ i.size = 1 := ⟨_, rfl, rfl, rfl⟩
  have hp : plainT Tryz.prog 67 = true := by kernel_rfl
  have hr : List.range 4 = [0, 1, 2, 3] := rfl
  have hq : ∀ k a b, eqT Tryz.prog TryzE (k + 1) 63 (.i .u64 a) (.i .u64 b) = some (eqI a b) := fun k a b => by
    simp only [eqT, h63, opn_s, hs63]
    rfl
  have hb : ∀ k a b, eqT Tryz.prog TryzE (k + 1) 4 (.b a) (.b b) = some (a == b) := fun k a b => by
    simp only [eqT, h4, opn_s, hs4]
  have hset : ∀ k, eqT Tryz.prog TryzE (k + 2) 65 (.a [.i .u64 a0, .i .u64 a1, .i .u64 a2, .i .u64 a3]) (.a [.i .u64 b0, .i .u64 b1, .i .u64 b2, .i .u64 b3]) = some (eqI a0 b0 && (eqI a1 b1 && (eqI a2 b2 && eqI a3 b3))) := fun k => by
    rw [eqT]
    simp only [h65, opn_s, hs65, h63, hz63, hr, List.map_cons, List.map_nil]
    have p0 : ∀ c0 c1 c2 c3, partE TryzE 63 (0 * 1) [.i .u64 c0, .i .u64 c1, .i .u64 c2, .i .u64 c3] = some (.i .u64 c0) := fun _ _ _ _ => rfl
    have p1 : ∀ c0 c1 c2 c3, partE TryzE 63 (1 * 1) [.i .u64 c0, .i .u64 c1, .i .u64 c2, .i .u64 c3] = some (.i .u64 c1) := fun _ _ _ _ => rfl
    have p2 : ∀ c0 c1 c2 c3, partE TryzE 63 (2 * 1) [.i .u64 c0, .i .u64 c1, .i .u64 c2, .i .u64 c3] = some (.i .u64 c2) := fun _ _ _ _ => rfl
    have p3 : ∀ c0 c1 c2 c3, partE TryzE 63 (3 * 1) [.i .u64 c0, .i .u64 c1, .i .u64 c2, .i .u64 c3] = some (.i .u64 c3) := fun _ _ _ _ => rfl
    simp only [eqPl, p0, p1, p2, p3, opn_s, hq, cnd_eq]
    cases eqI a0 b0 <;> cases eqI a1 b1 <;> cases eqI a2 b2 <;> cases eqI a3 b3 <;> rfl
  rw [eqT]
  simp only [h67, opn_s, hs67, hp]
  have p0 : ∀ c0 c1 c2 c3 c4, partE TryzE 65 0 [.i .u64 c0, .i .u64 c1, .i .u64 c2, .i .u64 c3, c4] = some (.a [.i .u64 c0, .i .u64 c1, .i .u64 c2, .i .u64 c3]) := fun _ _ _ _ _ => rfl
  have p1 : ∀ c0 c1 c2 c3 c4, partE TryzE 4 4 [.i .u64 c0, .i .u64 c1, .i .u64 c2, .i .u64 c3, c4] = some c4 := fun _ _ _ _ _ => rfl
  simp only [eqPl, p0, p1, opn_s, hset, hb, cnd_eq]
  cases eqI a0 b0 <;> cases eqI a1 b1 <;> cases eqI a2 b2 <;> cases eqI a3 b3 <;> cases f <;> cases g <;> rfl
theorem Fi.eqb (x y : Fi) : (eqI x.w.a.toNat y.w.a.toNat && (eqI x.w.b.toNat y.w.b.toNat && (eqI x.w.c.toNat y.w.c.toNat && (eqI x.w.d.toNat y.w.d.toNat && (x.f == y.f))))) = decide (x = y) := by
  obtain ⟨⟨a, b, c, d⟩, f⟩ := x
  obtain ⟨⟨a', b', c', d'⟩, f'⟩ := y
  simp only [eqI_bv]
  rw [Bool.eq_iff_iff]
  simp [and_assoc]
theorem Fi.vrs (D : Nm) (x : Fi) : VRs D [.i .u64 x.w.a.toNat, .i .u64 x.w.b.toNat, .i .u64 x.w.c.toNat, .i .u64 x.w.d.toNat, .b x.f] x.cells := by
  simp [VRs, VR, Fi.cells]
theorem BinOb.eqI {x y : Operand} {p q : Fi} {V : Value → Prop} {other : Prop} (h : V (.bool (decide (p = q)))) :
    BinOb Tryz.prog .eql 67 x y (.val (.agg #[.int .u64 p.w.a.toNat, .int .u64 p.w.b.toNat, .int .u64 p.w.c.toNat, .int .u64 p.w.d.toNat, .bool p.f])) (.val (.agg #[.int .u64 q.w.a.toNat, .int .u64 q.w.b.toNat, .int .u64 q.w.c.toNat, .int .u64 q.w.d.toNat, .bool q.f])) V other := by
  refine b_agg_ok (X := ⟨Tryz.prog, TryzE, [], 0, 0, default, fun _ => none, [], none⟩) (D := fun _ => none) (v := .b (decide (p = q))) TryzEOK ?_ (Fi.vrs _ p) (Fi.vrs _ q) (fun u hu => by simp only [VR] at hu; rw [hu]; exact h)
  show b_agg Tryz.prog TryzE .eql 67 _ _ = _
  unfold b_agg
  rw [eqE_first, Fi.eqb, show Tryz.prog.eqGuardType Tryz.prog.depth 67 = false by kernel_rfl]
  rfl
theorem BinOb.neI {x y : Operand} {p q : Fi} {V : Value → Prop} {other : Prop} (h : V (.bool (!decide (p = q)))) :
    BinOb Tryz.prog .neq 67 x y (.val (.agg #[.int .u64 p.w.a.toNat, .int .u64 p.w.b.toNat, .int .u64 p.w.c.toNat, .int .u64 p.w.d.toNat, .bool p.f])) (.val (.agg #[.int .u64 q.w.a.toNat, .int .u64 q.w.b.toNat, .int .u64 q.w.c.toNat, .int .u64 q.w.d.toNat, .bool q.f])) V other := by
  refine b_agg_ok (X := ⟨Tryz.prog, TryzE, [], 0, 0, default, fun _ => none, [], none⟩) (D := fun _ => none) (v := .b (!decide (p = q))) TryzEOK ?_ (Fi.vrs _ p) (Fi.vrs _ q) (fun u hu => by simp only [VR] at hu; rw [hu]; exact h)
  show b_agg Tryz.prog TryzE .neq 67 _ _ = _
  unfold b_agg
  rw [eqE_first, Fi.eqb, show Tryz.prog.eqGuardType Tryz.prog.depth 67 = false by kernel_rfl]
  rfl

/-! ### Seq, Choice, Within -/
theorem fi_eq {a b c d a' b' c' d' : BitVec 64} {f f' : Bool} (h1 : a = a') (h2 : b = b') (h3 : c = c') (h4 : d = d') (h5 : f = f') : Value.agg #[.int .u64 a.toNat, .int .u64 b.toNat, .int .u64 c.toNat, .int .u64 d.toNat, .bool f] = .agg #[.int .u64 a'.toNat, .int .u64 b'.toNat, .int .u64 c'.toNat, .int .u64 d'.toNat, .bool f'] := by
  subst h1 h2 h3 h4 h5
  rfl
theorem ISeq_spec {I : GH} {M : List Blk} (x y : Fi) : Spec Tryz.prog 51 [x.val, y.val] I M fun r I' M' => r = (x.seq y).val ∧ I' = I ∧ M' = M := by
  obtain ⟨xw, xf⟩ := x
  refine spec_of_V [] TryzEOK Tryz.func51 rfl rfl rfl ?_
  intro B h0
  refine CondOb.mk (fun h => ?_) (fun h => ?_)
  · have hf : xf = false := by simpa using h
    subst hf
    exact ⟨_, _, .refl, rfl, rfl, rfl⟩
  have hf : xf = true := by simpa using h
  subst hf
  refine CodeOb.draw TryzEOK rfl rfl rfl ?_
  refine PCallOb.mkR M [] _ perm_nil (Or_spec xw y.w) (fun v I' M' h x hx => by rw [h.2.2]; exact hx) ?_
  rintro v I' M' - ⟨rfl, rfl, rfl⟩
  rw [List.append_nil]
  exact ⟨_, _, .refl, rfl, rfl, rfl⟩
theorem IChoice_spec {I : GH} {M : List Blk} (x y : Fi) : Spec Tryz.prog 53 [x.val, y.val] I M fun r I' M' => r = (x.choice y).val ∧ I' = I ∧ M' = M := by
  obtain ⟨xw, xf⟩ := x
  refine spec_of_V [] TryzEOK Tryz.func53 rfl rfl rfl ?_
  intro B h0
  refine CodeOb.draw TryzEOK rfl rfl rfl ?_
  refine PCallOb.mkR M [] _ perm_nil (Or_spec xw y.w) (fun v I' M' h x hx => by rw [h.2.2]; exact hx) ?_
  rintro v I' M' - ⟨rfl, rfl, rfl⟩
  rw [List.append_nil]
  refine GuardOb.mk (fun h => ?_) (fun h => ?_)
  all_goals
    have hf : xf = _ := h
    subst hf
    exact ⟨_, _, .refl, rfl, rfl, rfl⟩
theorem IWithin_spec {I : GH} {M : List Blk} (x y : Fi) : Spec Tryz.prog 55 [x.val, y.val] I M fun r I' M' => r = .bool (x.within y) ∧ I' = I ∧ M' = M := by
  obtain ⟨xw, xf⟩ := x
  refine spec_of_V [] TryzEOK Tryz.func55 rfl rfl rfl ?_
  intro B h0
  refine CallOb.mk M [] _ perm_nil (Subset_spec xw y.w) ?_
  rintro v I' M' - ⟨rfl, rfl, rfl⟩
  rw [List.append_nil]
  repeat' refine GuardOb.mk (fun h => ?_) (fun h => ?_)
  all_goals
    refine ⟨_, _, .refl, ?_, rfl, rfl⟩
    refine congrArg Value.bool ?_
    simp_all [Fi.within]
end Go.V

/-
  Walks: bonsairef02 (Letter, digit, Take, May); tree.leaf, Rule, Text, Empty.
-/
set_option linter.unusedVariables false
set_option linter.unusedSimpArgs false
namespace Go.V
open Go Go.Proofs

theorem RLetter_spec (I : GH) (c : UInt8) : Spec Tryz.prog 186 [.int .u8 c.toNat] I [] (fun v I' M' => v = .bool (letter c) ∧ I' = I ∧ M' = []) := by
  refine spec_of_V [] TryzEOK Tryz.func186 rfl rfl rfl ?_
  intro B h0
  repeat' (refine GuardOb.mk (fun h => ?_) (fun h => ?_))
  all_goals
    refine ⟨_, _, .refl, ?_⟩
    refine ⟨?_, rfl, rfl⟩
    simp_all [letter]
    all_goals first
      | omega
      | (rw [Bool.eq_iff_iff]; simp; omega)

theorem Rdigit_spec (I : GH) (c : UInt8) : Spec Tryz.prog 187 [.int .u8 c.toNat] I [] (fun v I' M' => v = .bool (digit c) ∧ I' = I ∧ M' = []) := by
  refine spec_of_V [] TryzEOK Tryz.func187 rfl rfl rfl ?_
  intro B h0
  repeat' (refine GuardOb.mk (fun h => ?_) (fun h => ?_))
  all_goals
    refine ⟨_, _, .refl, ?_⟩
    refine ⟨?_, rfl, rfl⟩
    simp_all [digit]
    all_goals first
      | omega
      | (rw [Bool.eq_iff_iff]; simp; omega)

theorem RTake_spec (I : GH) (s : ByteArray) (hs : s.size ≤ 140737488355328) : Spec Tryz.prog 142 [.string s] I [] (fun v I' M' => v = .string (s.extract 0 (nameLen s)) ∧ I' = I ∧ M' = []) := by
  refine spec_of_V [] TryzEOK Tryz.func142 rfl rfl rfl ?_
  intro B h0
  have e0 : ∀ {s : ByteArray}, nameLen s = 0 → s.extract 0 (nameLen s) = ⟨#[]⟩ := fun h => by rw [h]; apply ByteArray.ext; simp [ByteArray.data_extract]
  refine GuardOb.mk (fun h => ?_) (fun h => ?_)
  · have h1 : s ≠ ⟨#[]⟩ := by simpa using h
    have hpos : 0 < s.size := by
      refine Nat.pos_of_ne_zero fun e => h1 ?_
      apply ByteArray.ext
      exact Array.eq_empty_of_size_eq_zero e
    refine StrOb.mk 0 rfl hpos ?_
    refine CallOb.mk [] [] _ (.refl _) (RLetter_spec I s[0]) ?_
    rintro v I' M' - ⟨rfl, rfl, rfl⟩
    refine CondOb.mk (fun h => ?_) (fun h => ?_)
    · have hl : letter s[0] = false := by simpa using h
      refine ⟨_, _, .refl, ?_, rfl, rfl⟩
      rw [e0]
      · unfold nameLen
        cases hd : s.data.toList with
        | nil => rfl
        | cons c r =>
          have : s[0] = c := by
            show s.data.toList[0] = c
            simp only [hd]
            rfl
          rw [this] at hl
          simp [hl]
    · have hl : letter s[0] = true := by simpa using h
      refine LoopOb.inv (ι := Nat) (fun i => { fl := [(0, .val (.string s)), (3, .val (.int .i64 i))], gi := I' }) (fun i => i ≤ s.size ∧ ∀ j (h : j < s.size), 1 ≤ j → j < i → nameCh s[j] = true) (fun i => s.size - i) ?_ ?_
      · exact ⟨0, ⟨by omega, fun j _ h1 h2 => by omega⟩, .refl, .cons .refl (.cons .refl .nil), .nil⟩
      · rintro i ⟨hi2, hi3⟩
        have hch0 : nameCh s[0] = true := by simp [nameCh, hl]
        have next : ∀ (hlt : i < s.size), nameCh s[i] = true → (i + 1 ≤ s.size ∧ ∀ k (h : k < s.size), 1 ≤ k → k < i + 1 → nameCh s[k] = true) ∧ s.size - (i + 1) < s.size - i := fun hlt hc =>
          ⟨⟨by omega, fun j hj h1 h2 => by
            by_cases e : j = i
            · subst e; exact hc
            · exact hi3 j hj h1 (by omega)⟩, by omega⟩
        have out : (∀ (h : i < s.size), nameCh s[i] = false) → s.extract 0 i = s.extract 0 (nameLen s) := fun hn => by
          have hi1 : 1 ≤ i := by
            apply Nat.one_le_iff_ne_zero.2
            intro e
            subst e
            rw [hn hpos] at hch0
            cases hch0
          rw [nameLen_of hpos hl hi1 hi2 hi3 hn]
        have hsz : (s.extract 0 i).size ≤ 140737488355328 := by
          rw [ByteArray.size_extract]
          omega
        have hwr : IntKind.i64.wrap ((i : Int) + 1) = ((i + 1 : Nat) : Int) := by
          rw [wrap_i64 ⟨by omega, by omega⟩]
          omega
        refine GuardOb.mk (fun h => ?_) (fun h => ?_)
        · have hlt : i < s.size := by simpa using h
          refine StrOb.mk i rfl hlt ?_
          refine CallOb.mk [] [] _ (.refl _) (RLetter_spec I' s[i]) ?_
          rintro v I' M' - ⟨rfl, rfl, rfl⟩
          refine GuardOb.mk (fun h => ?_) (fun h => ?_)
          · refine StrOb.mk i rfl hlt ?_
            refine CallOb.mk [] [] _ (.refl _) (Rdigit_spec _ s[i]) ?_
            rintro v I' M' - ⟨rfl, rfl, rfl⟩
            refine CondOb.mk (fun h2 => ?_) (fun h2 => ?_)
            · refine ArithOb.mk _ hwr ?_
              exact ⟨i + 1, next hlt (by simp only [nameCh]; rw [show digit s[i] = true from h2]; simp), .refl, .cons .refl (.cons .refl .nil), .nil⟩
            · refine SliceOb.mk 0 i rfl rfl (by omega) (by omega) ?_
              refine ⟨_, _, .refl, ?_, rfl, rfl⟩
              rw [← out fun _ => by simp only [nameCh]; rw [show letter s[i] = false from h, show digit s[i] = false from h2]; rfl]
          · refine ArithOb.mk _ hwr ?_
            exact ⟨i + 1, next hlt (by simp only [nameCh]; rw [show letter s[i] = true from h]; simp), .refl, .cons .refl (.cons .refl .nil), .nil⟩
        · have hge : ¬ i < s.size := by simpa using h
          refine SliceOb.mk 0 i rfl rfl (by omega) (by omega) ?_
          refine ⟨_, _, .refl, ?_, rfl, rfl⟩
          rw [← out fun h => (hge h).elim]
  · have h1 : s = ⟨#[]⟩ := by simpa using h
    subst h1
    refine ⟨_, _, .refl, ?_, rfl, rfl⟩
    rw [e0]
    rfl

theorem RMay_spec (I : GH) (s : ByteArray) : Spec Tryz.prog 99 [.string s] I [] (fun v I' M' => v = .bool (mayName s) ∧ I' = I ∧ M' = []) := by
  refine spec_of_V [] TryzEOK Tryz.func99 rfl rfl rfl ?_
  intro B h0
  refine GuardOb.mk (fun h1 => ?_) (fun h1 => ?_)
  · refine GuardOb.mk (fun h2 => ?_) (fun h2 => ?_)
    · have h2' : s.size ≤ 32 := by simp at h2; omega
      refine CallOb.mk [] [] _ (.refl _) (RTake_spec I s (by omega)) ?_
      rintro v I' M' - ⟨rfl, rfl, rfl⟩
      refine ⟨_, _, .refl, ?_, rfl, rfl⟩
      have hle := nameLen_le s
      have e1 : (s.extract 0 (nameLen s)).size = nameLen s := by rw [ByteArray.size_extract]; omega
      have e2 : decide (s.extract 0 (nameLen s) = s) = decide (nameLen s = s.size) := by
        rw [decide_eq_decide]
        constructor
        · intro h
          rw [← e1, h]
        · intro h
          rw [h]
          apply ByteArray.ext
          simp [ByteArray.data_extract]
      have h1' : decide (s ≠ ⟨#[]⟩) = true := by simpa using h1
      simp only [mayName, h1', Bool.true_and, show decide (s.size ≤ 32) = true from decide_eq_true h2', ← e2]
    · refine ⟨_, _, .refl, ?_, rfl, rfl⟩
      have h1' : decide (s ≠ ⟨#[]⟩) = true := by simpa using h1
      have h2' : decide (s.size ≤ 32) = false := by simp at h2; simp; omega
      simp only [mayName, h1', h2', Bool.true_and, Bool.false_and]
  · refine ⟨_, _, .refl, ?_, rfl, rfl⟩
    have h1' : decide (s ≠ ⟨#[]⟩) = false := by simpa using h1
    simp only [mayName, h1', Bool.false_and]

/-! ### Leaves -/
theorem u0 : u64ok 0 := ⟨by decide, by decide⟩
theorem i0 : i64ok 0 := ⟨by decide, by decide⟩
theorem leaf_spec {I : GH} {d : Nd} (hd : d.ok I) : Spec Tryz.prog 73 [d.val] I [] fun v I' M' => (∀ b o, I b = some o → I' b = some o) ∧ ∃ t : Tr, v = t.val ∧ t.ok I' ∧ t.ns = [d] ∧ t.root = 0 ∧ M' = [] := by
  refine spec_of_V [] TryzEOK Tryz.func73 rfl rfl rfl ?_
  intro B h0
  refine AllocOb.mk fun b hb hbM => ?_
  refine ⟨_, _, .prom rfl (by simp) .refl, ins_le hb, ⟨[d], some ⟨b, 0, none⟩, 1, 1, 0⟩, rfl, ⟨⟨rfl, ⟨Nat.le_refl _, by show 1 * 96 ≤ _; omega⟩, .inr ⟨_, rfl, rfl, _, _, _, ins_self .., rfl⟩⟩, fun x hx => ?_, i0⟩, rfl, rfl, rfl⟩
  simp only [List.mem_singleton] at hx
  subst hx
  exact hd.mono (ins_le hb)
def leafNd (k : Int) (s : ByteArray) : Nd := ⟨k, 0, 0, 0, 0, s, 0, 0, none, 0, 0, []⟩
theorem leafNd_ok {I : GH} {k : Int} (hk : 0 ≤ k ∧ k < 256) {s : ByteArray} (hs : s.size ≤ 140737488355328) : (leafNd k s).ok I :=
  ⟨hk, u0, u0, u0, u0, by show s.size ≤ _; omega, i0, i0, ⟨rfl, ⟨Nat.le_refl _, by show 0 * 8 ≤ _; omega⟩, .inl rfl⟩, fun x hx => by cases hx⟩
set_option maxRecDepth 20000 in
theorem Rule_spec {I : GH} {s : ByteArray} (hs : s.size ≤ 140737488355328) : Spec Tryz.prog 31 [.string s] I [] fun v I' M' => (∀ b o, I b = some o → I' b = some o) ∧ ∃ t : Tr, v = t.val ∧ t.ok I' ∧ t.ns = [leafNd 3 s] ∧ t.root = 0 ∧ M' = [] := by
  refine spec_of_V [] TryzEOK Tryz.func31 rfl rfl rfl ?_
  intro B h0
  have hl := leaf_spec (I := I) (leafNd_ok (k := 3) (by decide) hs)
  have hv : (leafNd 3 s).val = .agg #[.int .u8 3, .int .u64 0, .int .u64 0, .int .u64 0, .int .u64 0, .string s, .int .i64 0, .int .i64 0, .slice none 0 0] := rfl
  rw [hv] at hl
  refine CallOb.mk [] [] _ (.refl _) hl ?_
  rintro v I' M' - ⟨hI, t, rfl, ht, h1, h2, rfl⟩
  exact ⟨_, _, .refl, hI, t, rfl, ht, h1, h2, rfl⟩
set_option maxRecDepth 20000 in
theorem Empty_spec {I : GH} : Spec Tryz.prog 50 [] I [] fun v I' M' => (∀ b o, I b = some o → I' b = some o) ∧ ∃ t : Tr, v = t.val ∧ t.ok I' ∧ t.ns = [leafNd 0 ⟨#[]⟩] ∧ t.root = 0 ∧ M' = [] := by
  refine spec_of_V [] TryzEOK Tryz.func50 rfl rfl rfl ?_
  intro B h0
  have hl := leaf_spec (I := I) (leafNd_ok (k := 0) (s := ⟨#[]⟩) (by decide) (by decide))
  have hv : (leafNd 0 ⟨#[]⟩).val = .agg #[.int .u8 0, .int .u64 0, .int .u64 0, .int .u64 0, .int .u64 0, .string ⟨#[]⟩, .int .i64 0, .int .i64 0, .slice none 0 0] := rfl
  rw [hv] at hl
  refine CallOb.mk [] [] _ (.refl _) hl ?_
  rintro v I' M' - ⟨hI, t, rfl, ht, h1, h2, rfl⟩
  exact ⟨_, _, .refl, hI, t, rfl, ht, h1, h2, rfl⟩
end Go.V

/-
  Walks: bonsairef04.Fits (of nodes whose set is empty).
-/
set_option linter.unusedVariables false
set_option linter.unusedSimpArgs false
namespace Go.V
open Go Go.Proofs

def plainR (d : Nd) : Bool := decide (d.t = ⟨#[]⟩) && (decide (d.lo = 0) && decide (d.hi = 0))
def fitsR (d : Nd) (n : Int) : Bool :=
  bif decide (d.k = 0) then plainR d && decide (n = 0) else
  bif decide (d.k = 1) then plainR d && decide (n = 0) else
  bif decide (d.k = 2) then decide (d.lo = 0) && (decide (d.hi = 0) && (decide (n = 0) && (decide ((1 : Int) ≤ d.t.size) && decide ((d.t.size : Int) ≤ 255)))) else
  bif decide (d.k = 3) then decide (d.lo = 0) && (decide (d.hi = 0) && (decide (n = 0) && mayName d.t)) else
  bif decide (d.k = 4) || decide (d.k = 5) then plainR d && decide (2 ≤ n) else
  bif decide (d.k = 6) then decide (d.t = ⟨#[]⟩) && (decide (n = 1) && (decide (0 ≤ d.lo) && (decide (d.lo ≤ 99) && (decide (d.hi = -1) || (decide (d.lo ≤ d.hi) && decide (d.hi ≤ 99)))))) else
  bif decide (d.k = 7) || decide (d.k = 8) then plainR d && decide (n = 1) else
  bif decide (d.k = 9) then decide (d.lo = 0) && (decide (d.hi = 0) && (decide (n = 1) && mayName d.t)) else false

set_option maxHeartbeats 40000000 in
set_option maxRecDepth 20000 in
theorem RFits_spec {I : GH} (k : Int) (s : ByteArray) (lo hi : Int) (ka : Option Addr) (kn kc : Nat) (kids : List Int) (n : Int) : Spec Tryz.prog 163 [.agg #[.int .u8 k, .int .u64 0, .int .u64 0, .int .u64 0, .int .u64 0, .string s, .int .i64 lo, .int .i64 hi, .slice ka kn kc], .int .i64 n] I []
    (fun v I' M' => v = .bool (fitsR ⟨k, 0, 0, 0, 0, s, lo, hi, ka, kn, kc, kids⟩ n) ∧ I' = I ∧ M' = []) := by
  refine spec_of_V [] TryzEOK Tryz.func163 rfl rfl rfl ?_
  intro B h0
  refine BinOb.eq4 TryzEOK (e := 63) rfl rfl rfl rfl (by kernel_rfl) ?_
  refine GuardOb.mk (fun _ => ?_) (fun h => by cases h)
  have e1 : ∀ {b : Bool}, b = true → (!b) = false := fun h => by rw [h]; rfl
  repeat' (first
    | refine GuardOb.mk (fun h => ?_) (fun h => ?_)
    | refine CondOb.mk (fun h => ?_) (fun h => ?_)
    | refine BinOb.eq4 TryzEOK (e := 63) rfl rfl rfl rfl (by kernel_rfl) ?_
    | (refine CallOb.mk [] [] _ (.refl _) (RMay_spec _ s) ?_; rintro v I' M' - ⟨rfl, rfl, rfl⟩))
  all_goals first
    | (refine ⟨_, _, .refl, ?_, rfl, rfl⟩; simp_all [fitsR, plainR]; done)
    | (refine ⟨_, _, .refl, ?_, rfl, rfl⟩; simp_all [fitsR, plainR]; omega)
    | (exfalso; simp_all; done)
    | (exfalso; simp_all; omega)
    | skip
end Go.V

/-
  Walks: bonsairef04.Fits, of any node.
-/
set_option linter.unusedVariables false
set_option linter.unusedSimpArgs false
namespace Go.V
open Go Go.Proofs

/-- Each kind's own words. -/
def fitsK (z : Bool) (d : Nd) (n : Int) : Bool :=
  bif decide (d.k = 0) then z && (plainR d && decide (n = 0)) else
  bif decide (d.k = 1) then plainR d && decide (n = 0) else
  bif decide (d.k = 2) then z && (decide (d.lo = 0) && (decide (d.hi = 0) && (decide (n = 0) && (decide ((1 : Int) ≤ d.t.size) && decide ((d.t.size : Int) ≤ 255))))) else
  bif decide (d.k = 3) then z && (decide (d.lo = 0) && (decide (d.hi = 0) && (decide (n = 0) && mayName d.t))) else
  bif decide (d.k = 4) || decide (d.k = 5) then z && (plainR d && decide (2 ≤ n)) else
  bif decide (d.k = 6) then z && (decide (d.t = ⟨#[]⟩) && (decide (n = 1) && (decide (0 ≤ d.lo) && (decide (d.lo ≤ 99) && (decide (d.hi = -1) || (decide (d.lo ≤ d.hi) && decide (d.hi ≤ 99))))))) else
  bif decide (d.k = 7) || decide (d.k = 8) then z && (plainR d && decide (n = 1)) else
  bif decide (d.k = 9) then z && (decide (d.lo = 0) && (decide (d.hi = 0) && (decide (n = 1) && mayName d.t))) else false

theorem empty_size (s : ByteArray) : decide (s = ⟨#[]⟩) = decide (s.size = 0) := by
  rw [Bool.eq_iff_iff]
  simp only [decide_eq_true_eq]
  constructor
  · rintro rfl
    rfl
  · intro h
    cases s with
    | mk d =>
      have : d.size = 0 := h
      simp [Array.eq_empty_of_size_eq_zero this]
theorem fitsK_eq {d : Nd} (hk : 0 ≤ d.k ∧ d.k < 256) (n : Int) : fitsK d.setZ d n = fits d n := by
  by_cases h10 : 10 ≤ d.k
  · have e : fits d n = false := by simp [fits, h10]
    rw [e]
    unfold fitsK
    have h : ∀ j : Int, j < 10 → decide (d.k = j) = false := fun j hj => by simp; omega
    rw [h 0, h 1, h 2, h 3, h 4, h 5, h 6, h 7, h 8, h 9] <;> first | rfl | omega
  have hcases : d.k = 0 ∨ d.k = 1 ∨ d.k = 2 ∨ d.k = 3 ∨ d.k = 4 ∨ d.k = 5 ∨ d.k = 6 ∨ d.k = 7 ∨ d.k = 8 ∨ d.k = 9 := by omega
  generalize hz : d.setZ = z
  have hsz := empty_size d.t
  have hemp : (d.t = ByteArray.empty) ↔ d.t.size = 0 := by
    rw [← decide_eq_decide]
    exact hsz
  rcases hcases with h | h | h | h | h | h | h | h | h | h <;> rw [Bool.eq_iff_iff] <;> simp [fitsK, fits, h, hz, plainR, cntLo, cntHi, countsL, hemp] <;> cases z <;> first | (simp; done) | grind

theorem BinOb.eq4z {P : Program} {E : Env} (hE : EOK P E) {t e : Nat} {ti ei : TI} {x y : Operand} (ht : E t = some ti) (hts : ti.sh = .array 4 e) (he : E e = some ei) {k : IntKind} (hes : ei.sh = .int k)
    (hg : P.eqGuardType P.depth t = false) {a0 a1 a2 a3 b0 b1 b2 b3 : Int} {V : Value → Prop} {other : Prop} (z : Bool) (hz : (a0 == b0 && (a1 == b1 && (a2 == b2 && a3 == b3))) = z)
    (h : V (.bool z)) : BinOb P .eql t x y (.val (.agg #[.int k a0, .int k a1, .int k a2, .int k a3])) (.val (.agg #[.int k b0, .int k b1, .int k b2, .int k b3])) V other :=
  .eq4 hE ht hts he hes hg (by rw [hz]; exact h)

set_option maxHeartbeats 40000000 in
set_option maxRecDepth 20000 in
theorem RFits_gen {I : GH} {d : Nd} (hk : 0 ≤ d.k ∧ d.k < 256) (n : Int) : Spec Tryz.prog 163 [d.val, .int .i64 n] I []
    (fun v I' M' => v = .bool (fits d n) ∧ I' = I ∧ M' = []) := by
  rw [← fitsK_eq hk]
  obtain ⟨k, s0, s1, s2, s3, s, lo, hi, ka, kn, kc, kids⟩ := d
  clear hk
  refine spec_of_V [] TryzEOK Tryz.func163 rfl rfl rfl ?_
  intro B h0
  obtain ⟨z, hz⟩ : ∃ z, Nd.setZ ⟨k, s0, s1, s2, s3, s, lo, hi, ka, kn, kc, kids⟩ = z := ⟨_, rfl⟩
  rw [hz]
  refine BinOb.eq4z TryzEOK (e := 63) rfl rfl rfl rfl (by kernel_rfl) z hz ?_
  repeat' (first
    | refine GuardOb.mk (fun h => ?_) (fun h => ?_)
    | refine CondOb.mk (fun h => ?_) (fun h => ?_)
    | refine BinOb.eq4z TryzEOK (e := 63) rfl rfl rfl rfl (by kernel_rfl) z hz ?_
    | (refine CallOb.mk [] [] _ (.refl _) (RMay_spec _ s) ?_; rintro v I' M' - ⟨rfl, rfl, rfl⟩))
  all_goals clear hz
  all_goals first
    | (refine ⟨_, _, .refl, ?_, rfl, rfl⟩; simp_all [fitsK, plainR]; done)
    | (refine ⟨_, _, .refl, ?_, rfl, rfl⟩; simp_all [fitsK, plainR]; omega)
    | (exfalso; simp_all; done)
    | (exfalso; simp_all; omega)
    | skip
end Go.V

/-
  Walks: bonsairef04.Right, of any tree.
-/
set_option linter.unusedVariables false
set_option linter.unusedSimpArgs false
namespace Go.V
open Go Go.Proofs

def b2i (b : Bool) : Int := bif b then 1 else 0
theorem kidsOk_none_of {i : Nat} : ∀ {ks : List Int} {s : List Bool} {k : Int}, k ∈ ks → (k < 0 ∨ (i : Int) ≤ k) → kidsOk i ks s = none
  | a :: ks, s, k, hk, h => by
    unfold kidsOk
    cases hb : decide (a < 0) || (decide ((i : Int) ≤ a) || s.getD a.toNat false) with
    | true => rfl
    | false =>
      simp only [cond_false]
      simp only [Bool.or_eq_false_iff, decide_eq_false_iff_not] at hb
      rcases List.mem_cons.1 hk with rfl | hk
      · rcases h with h | h
        · exact (hb.1 h).elim
        · exact (hb.2.1 h).elim
      · exact kidsOk_none_of hk h
theorem rootOk_false {root : Int} : ∀ {s : List Bool} {i j : Nat}, j < s.length → (s.getD j false == decide (((i + j : Nat) : Int) = root)) = true → rootOk root i s = false
  | b :: s, i, 0, _, h => by
    unfold rootOk
    rw [show (b == decide ((i : Int) = root)) = true by simpa using h]
    rfl
  | b :: s, i, j + 1, hj, h => by
    unfold rootOk
    cases b == decide ((i : Int) = root) with
    | true => rfl
    | false =>
      simp only [cond_false]
      refine rootOk_false (j := j) (by simpa using hj) ?_
      rw [show i + 1 + j = i + (j + 1) by omega]
      simpa using h
theorem rootOk_true {root : Int} : ∀ {s : List Bool} {i : Nat}, (∀ j, j < s.length → (s.getD j false == decide (((i + j : Nat) : Int) = root)) = false) → rootOk root i s = true
  | [], i, h => rfl
  | b :: s, i, h => by
    unfold rootOk
    have h0 := h 0 (by simp)
    rw [show (b == decide ((i : Int) = root)) = false by simpa using h0]
    simp only [cond_false]
    refine rootOk_true fun j hj => ?_
    have := h (j + 1) (by simpa using hj)
    rw [show i + 1 + j = i + (j + 1) by omega]
    simpa using this

/-- How far a tree's nodes have been gone over: the counts of parents. -/
structure ParInv (t : Tr) (P : List Int) (W : Int) : Prop where
  len : P.length = t.ns.length
  bd : ∀ c ∈ P, 0 ≤ c ∧ c ≤ W
/-- Either all was well so far (and the marks are the counts), or it is known that it was not. -/
def ParAt (t : Tr) (P : List Int) (rest : List Bool → Option (List Bool)) : Prop :=
  (∃ s : List Bool, s.length = t.ns.length ∧ P = s.map b2i ∧ nodesOk 0 t.ns (List.replicate t.ns.length false) = rest s) ∨
  (nodesOk 0 t.ns (List.replicate t.ns.length false) = none ∧ ∃ k, k < t.ns.length ∧ 2 ≤ P.getD k 0)
def restN (t : Tr) (i : Nat) (s : List Bool) : Option (List Bool) := nodesOk i (t.ns.drop i) s
def restK (t : Tr) (i : Nat) (d : Nd) (k : Nat) (s : List Bool) : Option (List Bool) := match kidsOk i (d.kids.drop k) s with
  | some s' => nodesOk (i + 1) (t.ns.drop (i + 1)) s'
  | none => none
theorem right_none {t : Tr} (h : nodesOk 0 t.ns (List.replicate t.ns.length false) = none) : right t = false := by
  simp [right, h]
theorem ParAt.start (t : Tr) : ParAt t (List.replicate t.ns.length 0) (restN t 0) :=
  .inl ⟨List.replicate t.ns.length false, by simp, by simp [b2i], rfl⟩
theorem ParAt.enter {t : Tr} {P : List Int} {i : Nat} (h : ParAt t P (restN t i)) (hi : i < t.ns.length) (hf : fits t.ns[i] t.ns[i].kids.length = true) : ParAt t P (restK t i t.ns[i] 0) := by
  rcases h with ⟨s, h1, h2, h3⟩ | h
  · refine .inl ⟨s, h1, h2, ?_⟩
    rw [h3, restN, List.drop_eq_getElem_cons hi, nodesOk, hf]
    rfl
  · exact .inr h
theorem ParAt.unfit {t : Tr} {P : List Int} {i : Nat} (h : ParAt t P (restN t i)) (hi : i < t.ns.length) (hf : fits t.ns[i] t.ns[i].kids.length = false) : right t = false := by
  refine right_none ?_
  rcases h with ⟨s, h1, h2, h3⟩ | h
  · rw [h3, restN, List.drop_eq_getElem_cons hi, nodesOk, hf]
    rfl
  · exact h.1
theorem ParAt.out {t : Tr} {P : List Int} {i k : Nat} {d : Nd} (h : ParAt t P (restK t i d k)) (hk : k < d.kids.length) (hf : d.kids[k] < 0 ∨ (i : Int) ≤ d.kids[k]) : right t = false := by
  refine right_none ?_
  rcases h with ⟨s, h1, h2, h3⟩ | h
  · rw [h3, restK, kidsOk_none_of (k := d.kids[k]) (by rw [List.drop_eq_getElem_cons hk]; exact .head _) hf]
  · exact h.1
theorem ParAt.kid {t : Tr} {P : List Int} {i k : Nat} {d : Nd} (hl : P.length = t.ns.length) (hi : i ≤ t.ns.length) (h : ParAt t P (restK t i d k)) (hk : k < d.kids.length) (h0 : 0 ≤ d.kids[k]) (h1 : d.kids[k] < i) :
    ParAt t (P.set d.kids[k].toNat (P.getD d.kids[k].toNat 0 + 1)) (restK t i d (k + 1)) := by
  have hkl : d.kids[k].toNat < P.length := by omega
  rcases h with ⟨s, g1, g2, g3⟩ | ⟨g1, j, g2, g3⟩
  · have hsl : d.kids[k].toNat < s.length := by omega
    have hg : P.getD d.kids[k].toNat 0 = b2i (s.getD d.kids[k].toNat false) := by
      rw [g2]
      simp [List.getD_eq_getElem?_getD, hsl]
    cases hb : s.getD d.kids[k].toNat false with
    | false =>
      refine .inl ⟨s.set d.kids[k].toNat true, by simpa using g1, ?_, ?_⟩
      · rw [hg, hb, g2, List.map_set]
        rfl
      · rw [g3, restK, List.drop_eq_getElem_cons hk, kidsOk, hb]
        simp only [Bool.or_false]
        rw [decide_eq_false (by omega), decide_eq_false (by omega)]
        rfl
    | true =>
      refine .inr ⟨?_, d.kids[k].toNat, by omega, ?_⟩
      · rw [g3, restK, List.drop_eq_getElem_cons hk, kidsOk, hb]
        simp
      · rw [hg, hb]
        simp [List.getD_eq_getElem?_getD, List.getElem?_set, hkl, b2i]
  · refine .inr ⟨g1, j, g2, ?_⟩
    simp only [List.getD_eq_getElem?_getD, List.getElem?_set] at g3 ⊢
    by_cases e : d.kids[k].toNat = j
    · subst e
      simp [hkl] at g3 ⊢
      omega
    · rw [if_neg e]
      exact g3
theorem ParAt.leave {t : Tr} {P : List Int} {i k : Nat} {d : Nd} (h : ParAt t P (restK t i d k)) (hk : d.kids.length ≤ k) : ParAt t P (restN t (i + 1)) := by
  rcases h with ⟨s, h1, h2, h3⟩ | h
  · refine .inl ⟨s, h1, h2, ?_⟩
    rw [h3, restK, List.drop_eq_nil_of_le hk]
    rfl
  · exact .inr h
theorem ParInv.kid {t : Tr} {P : List Int} {W : Int} (h : ParInv t P W) {k : Nat} (hk : k < P.length) : ParInv t (P.set k (P.getD k 0 + 1)) (W + 1) := by
  refine ⟨by simpa using h.len, fun c hc => ?_⟩
  have hg : P.getD k 0 ∈ P := by
    simp only [List.getD_eq_getElem?_getD, List.getElem?_eq_getElem hk, Option.getD_some]
    exact List.getElem_mem hk
  have := h.bd _ hg
  rcases List.mem_or_eq_of_mem_set hc with hc | rfl
  · have := h.bd c hc
    omega
  · omega
/-- What is asked of each count at the end. -/
def parBad (t : Tr) (P : List Int) (i : Nat) : Bool := (decide ((i : Int) = t.root) && !decide (P.getD i 0 = 0)) || (!decide ((i : Int) = t.root) && !decide (P.getD i 0 = 1))
theorem ParAt.bad {t : Tr} {P : List Int} (h : ParAt t P (restN t t.ns.length)) {i : Nat} (hi : i < t.ns.length) (hq : parBad t P i = true) : right t = false := by
  rcases h with ⟨s, h1, h2, h3⟩ | h
  · rw [restN, List.drop_length, nodesOk] at h3
    have : rootOk t.root 0 s = false := by
      refine rootOk_false (j := i) (by omega) ?_
      have hg : P.getD i 0 = b2i (s.getD i false) := by
        rw [h2]
        simp [List.getD_eq_getElem?_getD, h1, hi]
      rw [parBad, hg] at hq
      rw [Nat.zero_add]
      generalize s.getD i false = x at hq ⊢
      cases x <;> cases hd : decide ((i : Int) = t.root) <;> simp_all [b2i]
    simp [right, h3, this]
  · exact right_none h.1
theorem ParAt.good {t : Tr} {P : List Int} (h : ParAt t P (restN t t.ns.length)) (h0 : 0 ≤ t.root ∧ t.root < t.ns.length) (hq : ∀ i, i < t.ns.length → parBad t P i = false) : right t = true := by
  rcases h with ⟨s, h1, h2, h3⟩ | ⟨h1, k, h2, h3⟩
  · rw [restN, List.drop_length, nodesOk] at h3
    have : rootOk t.root 0 s = true := by
      refine rootOk_true fun i hi => ?_
      have hg : P.getD i 0 = b2i (s.getD i false) := by
        rw [h2]
        simp [List.getD_eq_getElem?_getD, hi]
      have hq' := hq i (by omega)
      rw [parBad, hg] at hq'
      rw [Nat.zero_add]
      generalize s.getD i false = x at hq' ⊢
      cases x <;> cases hd : decide ((i : Int) = t.root) <;> simp_all [b2i]
    simp [right, h3, this, h0.1, h0.2]
  · have := hq k h2
    simp only [parBad, Bool.or_eq_false_iff, Bool.and_eq_false_iff, decide_eq_false_iff_not, Bool.not_eq_false', decide_eq_true_eq] at this
    omega

set_option maxHeartbeats 4000000 in
theorem RRight_gen {I : GH} {t : Tr} (ht : t.ok I) (W : Nat) (hW : ∀ d ∈ t.ns, d.kn ≤ W) (hb : t.n * W ≤ 1152921504606846976) : Spec Tryz.prog 121 [t.val] I [] fun v I' M' => v = .bool (right t) ∧ I' = I ∧ M' = [] := by
  refine spec_of_V [] TryzEOK Tryz.func121 rfl rfl rfl ?_
  intro B h0
  have htn := ht.n
  have hcap := ht.rs.cap
  refine GuardOb.mk (fun h => ?_) (fun h => ?_)
  rotate_left
  · refine ⟨_, _, .refl, ?_, rfl, rfl⟩
    have : t.root < 0 := by simpa using h
    rw [show right t = false by simp [right]; omega]
  have hr0 : 0 ≤ t.root := by have := of_decide_eq_false h; omega
  refine CondOb.mk (fun h2 => ?_) (fun h2 => ?_)
  · refine ⟨_, _, .refl, ?_, rfl, rfl⟩
    have := of_decide_eq_true h2
    rw [show right t = false by simp [right]; omega]
  have hr1 : t.root < t.n := by have := of_decide_eq_false h2; omega
  refine MakeOb.mk t.n t.n rfl rfl (Nat.le_refl _) (by show 8 * t.n ≤ _; omega) (by omega) ?_
  refine AllocOb.mk fun b1 hb1 hbM1 => ?_
  refine LoopOb.inv (ι := Nat × List Int) (fun x => { fl := [(1, .ref 1 0), (3, .val (.slice (some ⟨b1, 0, none⟩) t.n t.n)), (4, .val (.int .i64 x.1))], cl := [(1, t.cells)], gi := I, mi := [intRow b1 x.2] })
    (fun x => x.1 ≤ t.n ∧ ParInv t x.2 (x.1 * W : Nat) ∧ ParAt t x.2 (restN t x.1)) (fun x => t.n - x.1) ?_ ?_
  · refine ⟨(0, List.replicate t.n 0), ⟨Nat.zero_le _, ⟨by simp [htn], fun c hc => by have := List.eq_of_mem_replicate hc; simp only; omega⟩, by rw [← htn]; exact ParAt.start t⟩, ?_, .cons .refl (.cons .refl (.cons .refl .nil)), .cons rfl .nil⟩
    simp only [rowOf_one, intRow, List.map_replicate, Nat.mul_one]
    exact .refl
  rintro ⟨i, P⟩ ⟨hi, hP, hA⟩
  simp only at hi hP hA
  have hPl := hP.len
  refine CondOb.mk (fun h => ?_) (fun h => ?_)
  · have hlt : i < t.n := by have := of_decide_eq_true h; omega
    have hlt' : i < t.ns.length := by omega
    obtain ⟨ad, had, hrd⟩ := ht.rs.row Nd.cells_len hlt hlt'
    have hdm : t.ns[i] ∈ t.ns := List.getElem_mem hlt'
    have hd := ht.ns _ hdm
    have hkn := hd.kn
    have hkW := hW _ hdm
    have hcap2 := hd.rs.cap
    have hiW : (i + 1) * W ≤ 1152921504606846976 := Nat.le_trans (Nat.mul_le_mul_right W hlt) hb
    rw [Nat.add_mul, Nat.one_mul] at hiW
    refine IdxOb.mk ad i had rfl hlt ?_
    refine LoadOb.mk _ (hrd _) ?_
    refine CallOb.mk [] _ _ (.refl _) (RFits_gen hd.k t.ns[i].kn) ?_
    rintro v I2 M2 - ⟨rfl, rfl, rfl⟩
    rw [← hkn]
    refine CondOb.mk (fun h3 => ?_) (fun h3 => ?_)
    · refine ⟨_, _, .sub (List.nil_sublist _) .refl, ?_, rfl, rfl⟩
      rw [hA.unfit hlt' (by simpa using h3)]
    have hA := hA.enter hlt' (by simpa using h3)
    generalize hdd : t.ns[i] = d at hd hkn hkW hcap2 hrd hA
    refine LoopOb.inv (ι := Nat × List Int) (fun x => { fl := [(1, .ref 1 0), (3, .val (.slice (some ⟨b1, 0, none⟩) t.n t.n)), (4, .val (.int .i64 i)), (5, .ref 5 0), (6, .val (.int .i64 x.1))], cl := [(1, t.cells), (5, d.cells)], gi := I2, mi := [intRow b1 x.2] })
      (fun x => x.1 ≤ d.kn ∧ ParInv t x.2 (i * W + x.1 : Nat) ∧ ParAt t x.2 (restK t i d x.1)) (fun x => d.kn - x.1) ?_ ?_
    · exact ⟨(0, P), ⟨Nat.zero_le _, hP, hA⟩, .refl, .cons .refl (.cons .refl (.cons .refl (.cons .refl (.cons .refl .nil)))), .cons rfl (.cons rfl .nil)⟩
    rintro ⟨k, Q⟩ ⟨hk, hQ, hB⟩
    simp only at hk hQ hB
    have hQl := hQ.len
    refine CondOb.mk (fun h4 => ?_) (fun h4 => ?_)
    · have hkl : k < d.kn := by have := of_decide_eq_true h4; omega
      have hkl' : k < d.kids.length := by omega
      obtain ⟨ak, hak, hrk⟩ := hd.rs.one hkl hkl'
      refine IdxOb.mk ak k hak rfl hkl ?_
      refine LoadOb.mk _ (hrk _) ?_
      refine GuardOb.mk (fun h5 => ?_) (fun h5 => ?_)
      rotate_left
      · refine ⟨_, _, .sub (List.nil_sublist _) .refl, ?_, rfl, rfl⟩
        rw [hB.out hkl' (.inl (by simpa using h5))]
      have hk0 : 0 ≤ d.kids[k] := by have := of_decide_eq_false h5; omega
      refine IdxOb.mk ak k hak rfl hkl ?_
      refine LoadOb.mk _ (hrk _) ?_
      refine CondOb.mk (fun h6 => ?_) (fun h6 => ?_)
      · refine ⟨_, _, .sub (List.nil_sublist _) .refl, ?_, rfl, rfl⟩
        rw [hB.out hkl' (.inr (of_decide_eq_true h6))]
      have hk1 : d.kids[k] < i := by have := of_decide_eq_false h6; omega
      have hkQ : d.kids[k].toNat < Q.length := by omega
      have hQb : 0 ≤ Q[d.kids[k].toNat] ∧ Q[d.kids[k].toNat] ≤ (i * W + k : Nat) := hQ.bd _ (List.getElem_mem hkQ)
      have hQg : Q.getD d.kids[k].toNat 0 = Q[d.kids[k].toNat] := by simp [List.getD_eq_getElem?_getD, hkQ]
      have hB' := hB.kid hQl (by omega) hkl' hk0 hk1
      have hQ' := hQ.kid hkQ
      rw [hQg] at hB' hQ'
      refine IdxOb.mk ak k hak rfl hkl ?_
      refine LoadOb.mk _ (hrk _) ?_
      refine IdxOb.mk ⟨b1, 0, none⟩ d.kids[k].toNat rfl (by omega) (by omega) ?_
      refine LoadOb.mk _ (intRow_rd (s := Q) (.head _) hkQ) ?_
      refine ArithOb.mk (Q[d.kids[k].toNat] + 1) (wr_eq rfl (by omega)) ?_
      refine IdxOb.mk ⟨b1, 0, none⟩ d.kids[k].toNat rfl (by omega) (by omega) ?_
      refine StoreOb.add [] [] _ _ rfl ?_ rfl ?_
      · simp only [List.size_toArray, List.length_map]
        show 0 + d.kids[k].toNat * 1 + 1 ≤ _
        omega
      have e := intRow_set Q d.kids[k].toNat hkQ (Q[d.kids[k].toNat] + 1)
      refine ArithOb.mk _ (next_wr (i := k) (by omega)) ?_
      refine ⟨(k + 1, Q.set d.kids[k].toNat (Q[d.kids[k].toNat] + 1)), ⟨⟨by simp only; omega, ?_, hB'⟩, by simp only; omega⟩, ?_, .cons .refl (.cons .refl (.cons .refl (.cons .refl (.cons .refl .nil)))), .cons rfl (.cons rfl .nil)⟩
      · simp only
        rw [show ((i * W + (k + 1) : Nat) : Int) = ((i * W + k : Nat) : Int) + 1 by omega]
        exact hQ'
      · simp only [intRow]
        rw [← e]
        simp only [Nat.zero_add, Nat.mul_one]
        exact .refl
    · have hge : d.kn ≤ k := by have := of_decide_eq_false h4; omega
      refine ArithOb.mk _ (next_wr (i := i) (by omega)) ?_
      refine ⟨(i + 1, Q), ⟨⟨by simp only; omega, ⟨hQl, fun c hc => ?_⟩, hB.leave (by omega)⟩, by simp only; omega⟩, .refl, .cons .refl (.cons .refl (.cons .refl .nil)), .cons rfl .nil⟩
      have := hQ.bd c hc
      simp only [Nat.add_mul, Nat.one_mul]
      omega
  have hge : i = t.n := by have := of_decide_eq_false h; omega
  have hA2 : ParAt t P (restN t t.ns.length) := by rw [htn, ← hge]; exact hA
  clear hP h hi hA
  subst hge
  refine LoopOb.inv (ι := Nat) (fun x => { fl := [(1, .ref 1 0), (3, .val (.slice (some ⟨b1, 0, none⟩) t.n t.n)), (7, .val (.int .i64 x))], cl := [(1, t.cells)], gi := I, mi := [intRow b1 P] })
    (fun x => x ≤ t.n ∧ ∀ j, j < x → parBad t P j = false) (fun x => t.n - x) ?_ ?_
  · exact ⟨0, ⟨Nat.zero_le _, fun j hj => by omega⟩, .refl, .cons .refl (.cons .refl (.cons .refl .nil)), .cons rfl .nil⟩
  rintro i ⟨hi, hq⟩
  refine CondOb.mk (fun h => ?_) (fun h => ?_)
  rotate_left
  · have hge : i = t.n := by have := of_decide_eq_false h; omega
    refine ⟨_, _, .sub (List.nil_sublist _) .refl, ?_, rfl, rfl⟩
    rw [hA2.good ⟨hr0, by omega⟩ fun j hj => hq j (by omega)]
  have hlt : i < t.n := by have := of_decide_eq_true h; omega
  have hiP : i < P.length := by omega
  have hrd : Rd I [intRow b1 P] ((⟨b1, 0, none⟩ : Addr).add (i * 1)) 1 [.int .i64 P[i]] := intRow_rd (.head _) hiP
  have hg : P.getD i 0 = P[i] := by simp [List.getD_eq_getElem?_getD, hiP]
  have hbad : parBad t P i = true → right t = false := hA2.bad (by omega)
  have hgo : parBad t P i = false → ∀ j, j < i + 1 → parBad t P j = false := fun h j hj => by
    by_cases e : j = i
    · rw [e]; exact h
    · exact hq j (by omega)
  rw [parBad, hg] at hbad hgo
  clear h hq hA2
  generalize P[i] = c at hbad hgo hrd
  refine GuardOb.mk (fun h => ?_) (fun h => ?_)
  · rw [h] at hbad hgo
    refine IdxOb.mk ⟨b1, 0, none⟩ i rfl rfl hlt ?_
    refine LoadOb.mk _ hrd ?_
    refine GuardOb.mk (fun h2 => ?_) (fun h2 => ?_)
    · refine GuardOb.mk (fun h3 => ?_) (fun _ => ?_)
      · exfalso
        rw [h] at h3
        cases h3
      · refine ArithOb.mk _ (next_wr (i := i) (by omega)) ?_
        exact ⟨i + 1, ⟨⟨by omega, hgo (by simp [h2])⟩, by omega⟩, .refl, .cons .refl (.cons .refl (.cons .refl .nil)), .cons rfl .nil⟩
    · refine ⟨_, _, .sub (List.nil_sublist _) .refl, ?_, rfl, rfl⟩
      rw [hbad (by simp [h2])]
  · rw [show decide ((i : Int) = t.root) = false from h] at hbad hgo
    refine GuardOb.mk (fun h3 => ?_) (fun h3 => ?_)
    · refine IdxOb.mk ⟨b1, 0, none⟩ i rfl rfl hlt ?_
      refine LoadOb.mk _ hrd ?_
      refine CondOb.mk (fun h2 => ?_) (fun h2 => ?_)
      · refine ⟨_, _, .sub (List.nil_sublist _) .refl, ?_, rfl, rfl⟩
        rw [hbad (by simp [h2])]
      · refine ArithOb.mk _ (next_wr (i := i) (by omega)) ?_
        exact ⟨i + 1, ⟨⟨by omega, hgo (by simp [h2])⟩, by omega⟩, .refl, .cons .refl (.cons .refl (.cons .refl .nil)), .cons rfl .nil⟩
    · exfalso
      rw [show decide ((i : Int) = t.root) = false from h] at h3
      cases h3
end Go.V
