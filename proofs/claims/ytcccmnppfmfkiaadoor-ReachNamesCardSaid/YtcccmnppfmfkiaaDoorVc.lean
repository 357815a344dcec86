/-
  The executor over whole code: lists of operations with guards, branches, blocks, loops; a function's contract out of its code's demand.
-/
import Derived.Test.YtcccmnppfmfkiaaDoorVt
set_option linter.unusedVariables false
set_option linter.unusedSimpArgs false
namespace Go.V
open Go

/-! ### Lists of operations -/
section
variable {X : Ctx} {β : Nat → Nat} {a : Act} {w : World} {F : Fr} {C : Bx} {I : GH} {M : List Blk} {o : Oper} {Q : Exit → Act → World → Prop} {K : KS}

theorem getD_bool {a : Act} {d : Nat} {c : Bool} (h : a.tmps.getD d undef = .bool c) : a.tmps[d]? = some (.bool c) := by
  rw [Array.getD_eq_getD_getElem?] at h
  cases hd : a.tmps[d]? with
  | none => rw [hd] at h; cases h
  | some v => rw [hd] at h; simp at h; rw [h]

theorem yielded_of {ops : Array Oper} {j d : Nat} (hd : (ops[j]?).bind (·.dst) = some d) (tmps : Array Value) : yielded ops tmps j = match tmps[d]? with
    | some (.bool b) => some b
    | _ => none := by
  unfold yielded
  rw [hd]
  rfl

theorem RelB.refine (h : RelB X β a w F C I M) {F' : Fr} (hF : ∀ t, SVok β (F' t) (a.tmps.getD t undef)) : RelB X β a w F' C I M := { h with fr := hF }

theorem V_ops_sound (hE : EOK X.P X.E) (ops : Array Oper) (hQ : ∀ a w, Sat X K a w → Q .normal a w) : ∀ (l : List Oper) (k : Nat), (∀ j, l[j]? = ops[k + j]?) → (∀ o ∈ l, ∀ d, o.dst = some d → d < X.n) →
    ∀ {F C I M a w}, Rel X a w F C I M → V_ops X ops.toList l F C I M K → wpOpsIn (fen X) 0 X.P ops Q (List.range' k l.length) a w
  | [], k, _, _, F, C, I, M, a, w, hR, hv => hQ _ _ ⟨F, C, I, M, hR, hv⟩
  | o :: rest, k, hl, hd, F, C, I, M, a, w, hR, hv => by
    have h0 : ops[k]? = some o := by simpa using (hl 0).symm
    have hl' : ∀ j, rest[j]? = ops[k + 1 + j]? := fun j => by have := hl (j + 1); simpa [Nat.add_assoc, Nat.add_comm 1 j] using this
    have hd' : ∀ o ∈ rest, ∀ d, o.dst = some d → d < X.n := fun o ho => hd o (by simp [ho])
    have hd0 := hd o (by simp)
    have ih := @V_ops_sound hE ops hQ rest (k + 1) hl' hd'
    simp only [List.length_cons, List.range'_succ, wpOpsIn, h0]
    have run : ∀ {F C I M}, Rel X a w F C I M → V_op X o F C I M (fun F C I M => V_ops X ops.toList rest F C I M K) → o.wpIn (fen X) 0 X.P a w (wpOpsIn (fen X) 0 X.P ops Q (List.range' (k + 1) rest.length)) Q := fun hR hv =>
      Oper.wpIn_mono (fun a' w' ⟨F', C', I', M', hr, hk⟩ => ih hr hk) (V_op_sound hE hd0 hR hv)
    have skip : ∀ {F C I M}, Rel X a w F C I M → V_ops X ops.toList rest (put o.dst (.val undef) F) C I M K → (∀ f, o.about X.P w a.eval = some f → (fen X).fn f) ∧ wpOpsIn (fen X) 0 X.P ops Q (List.range' (k + 1) rest.length) (a.put o.dst undef) w := fun ⟨β, hr⟩ hv =>
      ⟨fun _ _ => trivial, ih ⟨β, hr.put (x := .val undef) hd0 rfl⟩ hv⟩
    unfold V_ops at hv
    cases hg : o.guard with
    | none =>
      rw [hg] at hv
      have hw : Region.wanted o (yielded ops a.tmps) = true := by simp [Region.wanted, hg]
      rw [if_pos hw]
      exact run hR hv
    | some jb =>
      obtain ⟨j, b⟩ := jb
      rw [hg] at hv
      simp only at hv
      cases hj : (ops.toList[j]?).bind (·.dst) with
      | none => rw [hj] at hv; exact hv.elim
      | some d =>
        rw [hj] at hv
        simp only at hv
        have hj' : (ops[j]?).bind (·.dst) = some d := by simpa using hj
        have hy := yielded_of hj' a.tmps
        obtain ⟨β, hr⟩ := hR
        have hF := hr.fr d
        split at hv
        · rename_i c hc
          rw [hc] at hF
          have hget := getD_bool hF
          have hwant : Region.wanted o (yielded ops a.tmps) = (c == b) := by simp [Region.wanted, hg, hy, hget]
          rw [hwant]
          cases hcb : (c == b) with
          | true =>
            rw [hcb] at hv
            simp only [if_true]
            exact run ⟨β, hr⟩ hv
          | false =>
            rw [hcb] at hv
            simp only [Bool.false_eq_true, if_false]
            exact skip ⟨β, hr⟩ hv
        · rename_i c hc
          rw [hc] at hF
          have hget := getD_bool hF
          have hwant : Region.wanted o (yielded ops a.tmps) = (c == b) := by simp [Region.wanted, hg, hy, hget]
          rw [hwant]
          obtain ⟨hv1, hv2⟩ := hv
          have set : ∀ x : Bool, c = x → Rel X a w (upd F d (.lit x)) C I M := fun x hx => ⟨β, hr.refine fun t => by
            unfold upd
            by_cases e : t = d
            · subst e; simp only [beq_self', cond_true]; rw [← hx]; exact hF
            · simp only [beq_ne e, cond_false]; exact hr.fr t⟩
          by_cases hcb : c = b
          · have : (c == b) = true := by simp [hcb]
            rw [this]
            simp only [if_true]
            exact run (set b hcb) (hv1 hcb)
          · have h2 : c = !b := by cases c <;> cases b <;> simp_all
            have : (c == b) = false := by simp [hcb]
            rw [this]
            simp only [Bool.false_eq_true, if_false]
            exact skip (set _ h2) (hv2 h2)
        · rename_i vs hc
          rw [hc] at hF
          have hnone : yielded ops a.tmps j = none := by
            rw [hy]
            cases hg' : a.tmps[d]? with
            | none => rfl
            | some v =>
              simp only [SVok, Array.getD_eq_getD_getElem?, hg', Option.getD_some] at hF
              subst hF
              rfl
          have hwant : Region.wanted o (yielded ops a.tmps) = false := by simp [Region.wanted, hg, hnone]
          rw [hwant]
          simp only [Bool.false_eq_true, if_false]
          exact skip ⟨β, hr⟩ hv
        · exact hv.elim
end

inductive SvLe : SV → SV → Prop
  | refl {x} : SvLe x x
  | lit {b} : SvLe (.lit b) (.val (.bool b))
  | junk {x} : SvLe x .junk

def ofF : List (Nat × SV) → Fr
  | [], _ => .junk
  | (t, x) :: l, s => bif Nat.beq s t then x else ofF l s
def ofC : List (Nat × List Value) → Bx
  | [], _ => none
  | (t, x) :: l, s => bif Nat.beq s t then some x else ofC l s

inductive AtF (F : Fr) : List (Nat × SV) → Prop
  | nil : AtF F []
  | cons {t x l} (h : SvLe (F t) x) (k : AtF F l) : AtF F ((t, x) :: l)
inductive AtC (C : Bx) : List (Nat × List Value) → Prop
  | nil : AtC C []
  | cons {t x l} (h : C t = some x) (k : AtC C l) : AtC C ((t, x) :: l)

theorem SVok_le {β : Nat → Nat} {x y : SV} {v : Value} (h : SvLe x y) (hx : SVok β x v) : SVok β y v := by
  cases h with
  | refl => exact hx
  | lit => exact hx
  | junk => trivial

theorem AtF.ok {β : Nat → Nat} {F : Fr} {a : Act} (h : ∀ t, SVok β (F t) (a.tmps.getD t undef)) {l : List (Nat × SV)} (hl : AtF F l) (t : Nat) : SVok β (ofF l t) (a.tmps.getD t undef) := by
  induction hl with
  | nil => trivial
  | @cons t' x l hx k ih =>
    unfold ofF
    by_cases e : t = t'
    · subst e; simp only [beq_self', cond_true]; exact SVok_le hx (h t)
    · simp only [beq_ne e, cond_false]; exact ih

theorem AtC.ok {C : Bx} {l : List (Nat × List Value)} (hl : AtC C l) {s : Nat} {cs : List Value} (h : ofC l s = some cs) : C s = some cs := by
  induction hl with
  | nil => cases h
  | @cons t' x l hx k ih =>
    unfold ofC at h
    by_cases e : s = t'
    · subst e; simp only [beq_self', cond_true] at h; rw [hx, h]
    · simp only [beq_ne e, cond_false] at h; exact ih h

theorem RelB.base {X : Ctx} {β : Nat → Nat} {a : Act} {w : World} {F : Fr} {C : Bx} {I : GH} {M : List Blk} (h : RelB X β a w F C I M) {fl : List (Nat × SV)} {cl : List (Nat × List Value)} (hF : AtF F fl) (hC : AtC C cl) : RelB X β a w (ofF fl) (ofC cl) I M :=
  { h with
    fr := hF.ok h.fr
    bx := fun s cs hs => h.bx s cs (hC.ok hs)
    inj := fun s s' h1 h2 => by
      obtain ⟨c1, e1⟩ := Option.ne_none_iff_exists'.1 h1
      obtain ⟨c2, e2⟩ := Option.ne_none_iff_exists'.1 h2
      exact h.inj s s' (by rw [hC.ok e1]; simp) (by rw [hC.ok e2]; simp) }

/-! ### Code -/
inductive Ex where
  | normal
  | exit (id : Nat)
  | goto (l : Nat)
  | ret

abbrev KX := Ex → KS

def exK (N : KS) (K : KX) : KX
  | .normal => N
  | .exit id => K (.exit id)
  | .goto l => K (.goto l)
  | .ret => K .ret
def blkK (id : Nat) (K : KX) : KX
  | .normal => K .normal
  | .exit j => bif Nat.beq j id then K .normal else K (.exit j)
  | .goto l => K (.goto l)
  | .ret => K .ret

def SatX (X : Ctx) (K : KX) : Exit → Act → World → Prop
  | .normal, a, w => Sat X (K .normal) a w
  | .exit id, a, w => Sat X (K (.exit id)) a w
  | .goto l, a, w => Sat X (K (.goto l)) a w
  | .ret, a, w => Sat X (K .ret) a w
  | .panic _, _, _ => False
  | .outgrown, _, _ => False

abbrev Body := Fr → Bx → GH → List Blk → KX → Prop

structure LP where
  fl : List (Nat × SV)
  cl : List (Nat × List Value) := []
  gi : GH
  mi : List Blk := []
inductive InvAt {ι : Type} (foot : List Nat) (st : ι → LP) (p : ι → Prop) (F : Fr) (C : Bx) (I : GH) (M : List Blk) : Prop
  | mk (j : ι) (hp : p j) (hw : Wk foot I M (st j).gi (st j).mi) (hF : AtF F (st j).fl) (hC : AtC C (st j).cl)

def LoopN (body : Body) (K : KX) : Nat → KS
  | 0 => fun _ _ _ _ => False
  | n + 1 => fun F C I M => body F C I M (exK (LoopN body K n) K)

inductive LoopOb (foot : List Nat) (body : Body) (F : Fr) (C : Bx) (I : GH) (M : List Blk) (K : KX) : Prop
  | inv {ι : Type} (st : ι → LP) (inv : ι → Prop) (μ : ι → Nat) (start : InvAt foot st inv F C I M)
      (round : ∀ i, inv i → body (ofF (st i).fl) (ofC (st i).cl) (st i).gi (st i).mi (exK (InvAt foot st fun j => inv j ∧ μ j < μ i) K))
  | unroll (n : Nat) (h : LoopN body K n F C I M)
  | invD {ι : Type} (st : ι → LP) (inv : ι → Prop) (μ : ι → Nat) (start : (∀ x ∈ M, I x.num = none) → (M.map (·.num)).Nodup → InvAt foot st inv F C I M)
      (round : ∀ i, inv i → body (ofF (st i).fl) (ofC (st i).cl) (st i).gi (st i).mi (exK (InvAt foot st fun j => inv j ∧ μ j < μ i) K))

inductive CodeOb (X : Ctx) (c : Code) (F : Fr) (C : Bx) (I : GH) (M : List Blk) (K : KX) : Prop
  | mk (h : ∀ a w, Rel X a w F C I M → c.wpIn (fen X) 0 X.P (SatX X K) a w)

def V (X : Ctx) : Code → Fr → Bx → GH → List Blk → KX → Prop
  | .skip, F, C, I, M, K => K .normal F C I M
  | .label _, F, C, I, M, K => K .normal F C I M
  | .ret, F, C, I, M, K => K .ret F C I M
  | .exit id, F, C, I, M, K => K (.exit id) F C I M
  | .goto l, F, C, I, M, K => K (.goto l) F C I M
  | .seq x y, F, C, I, M, K => V X x F C I M (exK (fun F C I M => V X y F C I M K) K)
  | .block id c, F, C, I, M, K => V X c F C I M (blkK id K)
  | .cond c x y, F, C, I, M, K =>
    match evr F c with
    | .lit b => bif b then V X x F C I M K else V X y F C I M K
    | .val (.bool b) => CondOb b (V X x F C I M K) (V X y F C I M K)
    | _ => False
  | .loop c, F, C, I, M, K => LoopOb X.foot (V X c) F C I M K
  | .region _ ops false, F, C, I, M, K => V_ops X ops.toList ops.toList F C I M (K .normal)
  | .region id ops true, F, C, I, M, K => CodeOb X (.region id ops true) F C I M K
  | .rangeFunc f ps asg body, F, C, I, M, K => CodeOb X (.rangeFunc f ps asg body) F C I M K
  | .scope c, F, C, I, M, K => CodeOb X (.scope c) F C I M K
  | .refuse _, _, _, _, _, _ => False

def opsOk (n : Nat) (ops : Array Oper) : Bool := ops.toList.all fun o => match o.dst with
  | some d => Nat.blt d n
  | none => true
def codeOk (n : Nat) : Code → Bool
  | .seq x y => codeOk n x && codeOk n y
  | .block _ c => codeOk n c
  | .cond _ x y => codeOk n x && codeOk n y
  | .loop c => codeOk n c
  | .region _ ops _ => opsOk n ops
  | _ => true

theorem opsOk_spec {n : Nat} {ops : Array Oper} (h : opsOk n ops = true) : ∀ o ∈ ops.toList, ∀ d, o.dst = some d → d < n := by
  intro o ho d hd
  have := List.all_eq_true.1 h o ho
  rw [hd] at this
  simpa using this

theorem SatX.then {X : Ctx} {N : KS} {K : KX} {next : Act → World → Prop} (hn : ∀ a w, Sat X N a w → next a w) : ∀ e a w, SatX X (exK N K) e a w → Exit.then next (SatX X K) e a w := by
  intro e a w h
  cases e <;> first | exact hn _ _ h | exact h

theorem wpIn_loop_rel {Fe : Fence} {n : Nat} {P : Program} {Q : Exit → Act → World → Prop} {a : Act} {w : World} {c : Code} (J : Nat → Act → World → Prop) {m : Nat} (h₀ : J m a w)
    (round : ∀ m a w, J m a w → c.wpIn Fe n P (Exit.then (fun a' w' => ∃ m', m' < m ∧ J m' a' w') Q) a w) : (Code.loop c).wpIn Fe n P Q a w := by
  intro b k cs hro hb hr
  have key : ∀ j a w, J j a w → ∃ e a' w', Q e a' w' ∧ ArrivesIn (Machine.fenced P Fe) P (lone (b.atR a (.code c :: .inLoop c :: k)) cs w) b k cs e a' w' := by
    intro j
    induction j using Nat.strongRecOn with
    | _ j ih =>
      intro a w hI
      obtain ⟨e, a₁, w₁, hq, harr⟩ := round j a w hI b (.inLoop c :: k) cs hro hb hr
      cases e with
      | normal =>
        obtain ⟨m', hlt, hI₁⟩ := hq
        obtain ⟨e₂, a₂, w₂, hq₂, harr₂⟩ := ih m' hlt a₁ w₁ hI₁
        exact ⟨e₂, a₂, w₂, hq₂, .of_steps (StepsIn.trans harr (.one (fenced_calm hb hr rfl) stepR_inLoop)) harr₂⟩
      | exit id => exact ⟨_, a₁, w₁, hq, .pass (x := .inLoop c) rfl (fun _ _ => .inl (by simp)) harr⟩
      | goto l => exact ⟨_, a₁, w₁, hq, .pass (x := .inLoop c) rfl (fun _ _ => .inl (by simp)) harr⟩
      | ret => exact ⟨_, a₁, w₁, hq, .pass (x := .inLoop c) rfl (fun _ _ => .inl (by simp)) harr⟩
      | panic ch => exact ⟨_, a₁, w₁, hq, .pass (x := .inLoop c) rfl (fun _ _ => .inl (by simp)) harr⟩
      | outgrown => exact ⟨_, a₁, w₁, hq, .pass (x := .inLoop c) rfl (fun _ _ => .inl (by simp)) harr⟩
  obtain ⟨e, a', w', hq, harr⟩ := key _ a w h₀
  exact ⟨e, a', w', hq, .of_steps (.one (fenced_calm hb hr rfl) stepR_loop) harr⟩

theorem V_sound {X : Ctx} (hE : EOK X.P X.E) : ∀ (c : Code) {F C I M K a w}, codeOk X.n c = true → Rel X a w F C I M → V X c F C I M K → c.wpIn (fen X) 0 X.P (SatX X K) a w
  | .skip, F, C, I, M, K, a, w, _, hR, hv => wpIn_skip ⟨F, C, I, M, hR, hv⟩
  | .label _, F, C, I, M, K, a, w, _, hR, hv => wpIn_label ⟨F, C, I, M, hR, hv⟩
  | .ret, F, C, I, M, K, a, w, _, hR, hv => wpIn_ret ⟨F, C, I, M, hR, hv⟩
  | .exit id, F, C, I, M, K, a, w, _, hR, hv => wpIn_exit ⟨F, C, I, M, hR, hv⟩
  | .goto l, F, C, I, M, K, a, w, _, hR, hv => wpIn_goto ⟨F, C, I, M, hR, hv⟩
  | .seq x y, F, C, I, M, K, a, w, hok, hR, hv => by
    simp only [codeOk, Bool.and_eq_true] at hok
    refine wpIn_seq (wpIn_mono (V_sound hE x hok.1 hR hv) (SatX.then ?_))
    rintro a w ⟨F', C', I', M', hr, hk⟩
    exact V_sound hE y hok.2 hr hk
  | .block id c, F, C, I, M, K, a, w, hok, hR, hv => by
    refine wpIn_block (wpIn_mono (V_sound hE c hok hR hv) ?_)
    intro e a w h
    cases e with
    | exit j =>
      simp only [SatX, blkK] at h
      simp only [Exit.inBlock]
      by_cases e : j = id
      · subst e; simp only [beq_self', cond_true] at h; rw [if_pos rfl]; exact h
      · simp only [beq_ne e, cond_false] at h; rw [if_neg e]; exact h
    | _ => exact h
  | .cond c x y, F, C, I, M, K, a, w, hok, hR, hv => by
    simp only [codeOk, Bool.and_eq_true] at hok
    obtain ⟨β, hr⟩ := hR
    simp only [V] at hv
    split at hv
    · rename_i b hb
      have hc := eval_of_lit hr.fr hb
      refine wpIn_cond hc ?_
      cases b
      · exact V_sound hE y hok.2 ⟨β, hr⟩ hv
      · exact V_sound hE x hok.1 ⟨β, hr⟩ hv
    · rename_i b hb
      have hc := eval_of_evr hr.fr hb
      refine wpIn_cond hc ?_
      obtain ⟨h1, h2⟩ := hv
      cases b
      · exact V_sound hE y hok.2 ⟨β, hr⟩ (h2 rfl)
      · exact V_sound hE x hok.1 ⟨β, hr⟩ (h1 rfl)
    · exact hv.elim
  | .loop c, F, C, I, M, K, a, w, hok, hR, hv => by
    have ih := @V_sound X hE c
    simp only [V] at hv
    have hinv : ∀ {ι : Type} (st : ι → LP) (inv : ι → Prop) (μ : ι → Nat) (start : InvAt X.foot st inv F C I M)
        (round : ∀ i, inv i → V X c (ofF (st i).fl) (ofC (st i).cl) (st i).gi (st i).mi (exK (InvAt X.foot st fun j => inv j ∧ μ j < μ i) K)), (Code.loop c).wpIn (fen X) 0 X.P (SatX X K) a w := by
      intro ι st inv μ start round
      let J (m : Nat) (a : Act) (w : World) : Prop := ∃ i, inv i ∧ μ i = m ∧ Rel X a w (ofF (st i).fl) (ofC (st i).cl) (st i).gi (st i).mi
      have toJ : ∀ {p : ι → Prop} {a w}, (∀ i, p i → inv i) → Sat X (InvAt X.foot st p) a w → ∃ i, p i ∧ J (μ i) a w := by
        rintro p a w hp ⟨F, C, I, M, ⟨β, hr⟩, ⟨j, hpj, hw, hF, hC⟩⟩
        exact ⟨j, hpj, j, hp j hpj, rfl, β, (hr.base hF hC).wk hw⟩
      obtain ⟨i0, _, hJ0⟩ := toJ (fun _ h => h) ⟨F, C, I, M, hR, start⟩
      refine wpIn_loop_rel J hJ0 ?_
      rintro m a w ⟨i, hi, rfl, hr⟩
      refine wpIn_mono (ih hok hr (round i hi)) ?_
      intro e a w h
      cases e with
      | normal =>
        obtain ⟨j, ⟨hj, hlt⟩, hJ⟩ := toJ (fun _ h => h.1) h
        exact ⟨_, hlt, hJ⟩
      | _ => exact h
    cases hv with
    | inv st inv μ start round => exact hinv st inv μ start round
    | invD st inv μ start round =>
      obtain ⟨β, hr⟩ := hR
      exact hinv st inv μ (start hr.holds.d hr.holds.nd) round
    | unroll n h =>
      refine wpIn_loop_rel (fun m a w => Sat X (LoopN (V X c) K m) a w) ⟨F, C, I, M, hR, h⟩ ?_
      rintro m a w ⟨F, C, I, M, hr, hk⟩
      cases m with
      | zero => exact hk.elim
      | succ m =>
        refine wpIn_mono (ih hok hr hk) ?_
        intro e a w h
        cases e with
        | normal => exact ⟨m, Nat.lt_succ_self m, h⟩
        | _ => exact h
  | .region id ops false, F, C, I, M, K, a, w, hok, hR, hv => by
    refine wpIn_region ?_
    have := V_ops_sound (K := K .normal) (Q := SatX X K) hE ops (fun _ _ h => h) ops.toList 0 (by simp) (opsOk_spec hok) hR hv
    simpa [List.range_eq_range'] using this
  | .region id ops true, F, C, I, M, K, a, w, hok, hR, ⟨hv⟩ => hv a w hR
  | .rangeFunc f ps asg body, F, C, I, M, K, a, w, hok, hR, ⟨hv⟩ => hv a w hR
  | .scope c, F, C, I, M, K, a, w, hok, hR, ⟨hv⟩ => hv a w hR
  | .refuse _, F, C, I, M, K, a, w, hok, hR, hv => hv.elim
/-! ### A function's contract -/
def frOf (args : List Value) : Fr := fun t => match args[t]? with
  | some v => .val v
  | none => .junk
def resV (X : Ctx) (F : Fr) (C : Bx) (I : GH) (M : List Blk) : List ResultVar → (List Value → Prop) → Prop
  | [], K => K []
  | .tmp t :: l, K => match ev F (.tmp t) with
    | .val v => resV X F C I M l fun vs => K (v :: vs)
    | _ => False
  | .cell t ty :: l, K => match evr F (.tmp t), X.E ty with
    | .ref s off, some i => (match C s with
      | some cs => bif Nat.ble (off + i.size) cs.length then resV X F C I M l fun vs => K (pack i.sh.agg ((cs.drop off).take i.size) :: vs) else False
      | none => False)
    | .val (.pointer (some a)), some i => LoadOb I M a i.size fun ws => resV X F C I M l fun vs => K (pack i.sh.agg ws :: vs)
    | _, _ => False
/-- What is asked where a function returns: the state made weaker, then its promise. -/
inductive RetOb (foot : List Nat) (I : GH) (M : List Blk) (post : GH → List Blk → Prop) : Prop
  | mk (I' : GH) (M' : List Blk) (hw : Wk foot I M I' M') (h : post I' M')
def retK (X : Ctx) (rs : List ResultVar) (post : Value → GH → List Blk → Prop) : KX := fun ex F C I M =>
  let done : Prop := resV X F C I M rs fun vs => match vs with
    | [v] => RetOb X.foot I M (post v)
    | vs => RetOb X.foot I M (post (.tuple vs.toArray))
  match ex with
  | .normal => done
  | .ret => done
  | _ => False

def resOne (tmps : Array Value) : ResultVar → Sem Value
  | .tmp t => pure (tmps.getD t undef)
  | .cell a t => do loadVar t (← asAddr (tmps.getD a undef))
theorem results_one (fn : Func) (tmps : Array Value) : results fn tmps = (do let vs ← fn.results.mapM (resOne tmps); pure (if h : vs.size = 1 then vs[0] else .tuple vs)) := by
  unfold results
  congr 1

theorem resV_ok {X : Ctx} (hE : EOK X.P X.E) {β : Nat → Nat} {a : Act} {w : World} {F : Fr} {C : Bx} {I : GH} {M : List Blk} (h : RelB X β a w F C I M) : ∀ {rs : List ResultVar} {K : List Value → Prop}, resV X F C I M rs K →
    ∃ vs, K vs ∧ (rs.mapM (resOne a.tmps)).run X.P w = .ok vs w
  | [], K, hv => ⟨[], hv, rfl⟩
  | .tmp t :: l, K, hv => by
    unfold resV at hv
    split at hv
    · rename_i v h1
      have e1 : a.tmps.getD t undef = v := eval_of_ev h.fr h1
      obtain ⟨vs, hk, e2⟩ := resV_ok hE h hv
      refine ⟨_, hk, ?_⟩
      simp only [List.mapM_cons, resOne, Sem.run_bind, Sem.run_pure, Result.andThen_ok, e2, e1]
    · exact hv.elim
  | .cell t ty :: l, K, hv => by
    unfold resV at hv
    split at hv
    · rename_i s off i h1 hi
      have e1 : a.tmps.getD t undef = .pointer (some ⟨β s, off, none⟩) := eval_of_ref h.fr h1
      split at hv
      · rename_i cs hs
        cases hle : Nat.ble (off + i.size) cs.length with
        | false => rw [hle] at hv; exact hv.elim
        | true =>
          rw [hle] at hv
          obtain ⟨vs, hk, e2⟩ := resV_ok hE h hv
          have hle' := Nat.le_of_ble_eq_true hle
          obtain ⟨T, hT⟩ := (h.bx s cs hs).at_
          have e3 := loadVar_run (hE _ _ hi) (a := ⟨β s, off, none⟩) rfl hT (vs := (cs.drop off).take i.size) (by simp) (by simp; omega)
          refine ⟨_, hk, ?_⟩
          simp only [List.mapM_cons, resOne, Sem.run_bind, Sem.run_pure, Result.andThen_ok, e2, e1, asAddr, e3]
      · exact hv.elim
    · rename_i ad i h1 hi
      have e1 : a.tmps.getD t undef = .pointer (some ad) := eval_of_evr h.fr h1
      obtain ⟨ws, ⟨hsp, cs, T, fr, hkn, hvs, hl⟩, hv⟩ := hv
      obtain ⟨vs, hk, e2⟩ := resV_ok hE h hv
      have e3 := loadVar_run (hE _ _ hi) hsp (hkn.heap h.holds) hvs hl
      refine ⟨_, hk, ?_⟩
      simp only [List.mapM_cons, resOne, Sem.run_bind, Sem.run_pure, Result.andThen_ok, e2, e1, asAddr, e3]
    · exact hv.elim

theorem results_run {X : Ctx} (hE : EOK X.P X.E) {β : Nat → Nat} {a : Act} {w : World} {F : Fr} {C : Bx} {I : GH} {M : List Blk} (h : RelB X β a w F C I M) {fn : Func} {K : List Value → Prop} (hv : resV X F C I M fn.results.toList K) :
    ∃ vs, K vs ∧ (results fn a.tmps).run X.P w = .ok (match vs with | [v] => v | vs => .tuple vs.toArray) w := by
  obtain ⟨vs, hk, e⟩ := resV_ok hE h hv
  refine ⟨vs, hk, ?_⟩
  rw [results_one]
  have e1 : (fn.results.mapM (resOne a.tmps)).run X.P w = .ok vs.toArray w := by
    rw [Array.mapM_eq_mapM_toList, Sem.run_map, e]
    rfl
  simp only [Sem.run_bind, e1, Result.andThen_ok, Sem.run_pure]
  match vs with
  | [] => rfl
  | [v] => rfl
  | u :: v :: l => simp

/-- The marks taken. -/
theorem leaves_marks {Fe : Fence} {n : Nat} {P : Program} {fn : Func} {tmps : Array Value} {R : Ending → World → Prop} : ∀ (rs : List Nat) (w : World), rs.Nodup → (∀ r ∈ rs, w.heap[r]? = some (.deferred (some []))) →
    (∀ w' : World, w'.heap.size = w.heap.size → (∀ b, b ∉ rs → w'.heap[b]? = w.heap[b]?) → Same w w' → ∃ v, (results fn tmps).run P w' = .ok v w' ∧ R (.returned v) w') → LeavesInM Fe n P fn tmps R (rs.map markOf) .returning w
  | [], w, _, _, h => h w rfl (fun _ _ => rfl) (.refl _)
  | r :: rs, w, hnd, hr, h => by
    rw [List.nodup_cons] at hnd
    refine ⟨by simp, .inl ⟨r, _, rfl, run_takeDeferred (hr r (by simp)), ?_⟩⟩
    refine leaves_marks rs _ hnd.2 (fun r' hr' => ?_) fun w' hs hb ho => h w' (by rw [hs]; simp) (fun b hbn => ?_) ((putObj_same _ _ _).trans ho)
    · have hne : r' ≠ r := fun e => hnd.1 (e ▸ hr')
      rw [World.putObj_heap_other hne]
      exact hr r' (by simp [hr'])
    · simp only [List.mem_cons, not_or] at hbn
      rw [hb b hbn.2, World.putObj_heap_other hbn.1]

theorem RelB.take {X : Ctx} {β : Nat → Nat} {a : Act} {w w' : World} {F : Fr} {C : Bx} {I : GH} {M : List Blk} (h : RelB X β a w F C I M) {rs : List Nat} (hrs : ∀ r ∈ rs, MarkAt X w I M r) (hs : w'.heap.size = w.heap.size) (hb : ∀ b, b ∉ rs → w'.heap[b]? = w.heap[b]?) (ho : Same w w') :
    RelB X β { a with defers := [] } w' F C I M := by
  exact {
    size := h.size
    defers := ⟨[], rfl, List.nodup_nil, fun r hr => by cases hr⟩
    holds := {
      i := fun b o hbo => by
        rw [hb b (fun hr => by have := (hrs b hr).noI; rw [hbo] at this; cases this)]
        exact h.holds.i b o hbo
      m := fun x hx => by
        rw [hb _ (fun hr => (hrs _ hr).noM x hx rfl)]
        exact h.holds.m x hx
      d := h.holds.d
      nd := h.holds.nd }
    fr := h.fr
    bx := fun s cs hcs => by
      have hbx := h.bx s cs hcs
      obtain ⟨T, hT⟩ := hbx.at_
      refine { hbx with at_ := ⟨T, ?_⟩ }
      rw [hb _ (fun hr => by have := (hrs _ hr).at_; rw [hT] at this; cases this)]
      exact hT
    inj := h.inj
    le0 := h.le0
    new0 := h.new0
    own := h.own
    old := fun b hlt hf => by
      rw [hb _ (fun hr => by have := (hrs _ hr).base; omega)]
      exact h.old b hlt hf
    out := h.out.trans ho
    sz := by rw [hs]; exact h.sz }

theorem SatX.ret {X : Ctx} (hE : EOK X.P X.E) {fn : Func} {post : Value → GH → List Blk → Prop} {R : Ending → World → Prop}
    (hR : ∀ v I M (w : World) (a : Act) (F : Fr) (C : Bx), Rel X a w F C I M → post v I M → R (.returned v) w) : ∀ e a w, SatX X (retK X fn.results.toList post) e a w → bodyPostM (fen X) 0 X.P fn R e a w := by
  have main : ∀ a w, Sat X (retK X fn.results.toList post .ret) a w → LeavesInM (fen X) 0 X.P fn a.tmps R a.defers .returning w := by
    rintro a w ⟨F, C, I, M, ⟨β, hr⟩, hk⟩
    simp only [retK] at hk
    obtain ⟨rs, hd, hnd, hm⟩ := hr.defers
    rw [hd]
    refine leaves_marks rs w hnd (fun r hrr => (hm r hrr).at_) fun w' hs hb ho => ?_
    have hr' := hr.take hm hs hb ho
    obtain ⟨vs, hp, hrun⟩ := results_run hE hr' hk
    refine ⟨_, hrun, ?_⟩
    match vs, hp with
    | [], ⟨I', M', hw, hp⟩ => exact hR _ I' M' w' _ F C ⟨β, hr'.wk hw⟩ hp
    | [v], ⟨I', M', hw, hp⟩ => exact hR _ I' M' w' _ F C ⟨β, hr'.wk hw⟩ hp
    | u :: v :: l, ⟨I', M', hw, hp⟩ => exact hR _ I' M' w' _ F C ⟨β, hr'.wk hw⟩ hp
  intro e a w h
  cases e with
  | normal => exact main a w h
  | ret => exact main a w h
  | exit id => obtain ⟨F, C, I, M, _, hk⟩ := h; exact hk.elim
  | goto l => obtain ⟨F, C, I, M, _, hk⟩ := h; exact hk.elim
  | panic _ => exact h.elim
  | outgrown => exact h.elim

theorem enters_of' {P : Program} {f : Nat} {fn : Func} (hf : P.funcs[f]? = some fn) (hb : fn.body.isSome = true) (hn : (fn.name == "runtime.NumGoroutine") = false) : Enters P f := by
  intro args w
  have hb' : fn.body.isNone = false := by cases h : fn.body <;> simp_all
  simp only [callFunc, Sem.run_bind, run_program, Result.andThen_ok, hf, hn, Bool.false_eq_true, if_false, hb']
  rfl

/-- **A function's contract, out of its code's demand.** -/
theorem specE_of_V {P : Program} {E : Env} {f : Nat} {fn : Func} {c : Code} (esc : List Nat) (hE : EOK P E) (hf : P.funcs[f]? = some fn) (hb : fn.body = some c) (hn : (fn.name == "runtime.NumGoroutine") = false)
    {args : List Value} (hok : (codeOk fn.ntmps c && Nat.ble args.length fn.ntmps) = true) {I : GH} {M : List Blk} {post : Value → GH → List Blk → Prop}
    (h : ∀ B h0, V ⟨P, E, esc, fn.ntmps, B, h0, I, M.map (·.num), none⟩ c (frOf args) (fun _ => none) I M (retK ⟨P, E, esc, fn.ntmps, B, h0, I, M.map (·.num), none⟩ fn.results.toList post)) :
    SpecE P f args I M post := by
  rw [Bool.and_eq_true] at hok
  have hlen := Nat.le_of_ble_eq_true hok.2
  refine ⟨enters_of' hf (by rw [hb]; rfl) hn, fun w hH => ?_⟩
  let X : Ctx := ⟨P, E, esc, fn.ntmps, w.heap.size, w, I, M.map (·.num), none⟩
  have hv := h w.heap.size w
  have hrel : Rel X { tmps := args.toArray ++ Array.replicate (fn.ntmps - args.toArray.size) undef, defers := [] } w (frOf args) (fun _ => none) I M := ⟨fun _ => 0, {
    size := by simp [X]; omega
    defers := ⟨[], rfl, List.nodup_nil, fun r hr => by cases hr⟩
    holds := hH
    fr := fun t => by
      unfold frOf
      cases ht : args[t]? with
      | none => trivial
      | some v =>
        have hlt : t < args.length := (List.getElem?_eq_some_iff.1 ht).1
        simp only [SVok, Array.getD_eq_getD_getElem?]
        rw [Array.getElem?_append_left (by simpa using hlt)]
        simp [ht]
    bx := fun s cs hs => by cases hs
    inj := fun s s' h1 => by simp at h1
    le0 := fun b o hb => hb
    new0 := fun b o hb => .inl hb
    own := fun x hx => .inl (List.mem_map.2 ⟨x, hx, rfl⟩)
    old := fun b hb hf => rfl
    out := .refl _
    sz := Nat.le_refl _ }⟩
  have hwp := V_sound (X := X) hE c hok.1 hrel hv
  refine (callsIn_wide (n := 0)).1 ?_
  have hfen : fen X = Fence.wide := rfl
  rw [hfen] at hwp
  refine callsIn_of_wp_marks hf hb trivial (wpIn_mono hwp (SatX.ret (X := X) hE ?_))
  rintro v I' M' w' a' F' C' ⟨β, hr⟩ hp
  refine ⟨v, I', M', rfl, hp, hr.holds, ?_⟩
  exact {
    le := hr.le0
    newI := hr.new0
    newM := fun x hx => by
      rcases hr.own x hx with h1 | h1
      · obtain ⟨y, hy, e⟩ := List.mem_map.1 h1
        exact .inl ⟨y, hy, e⟩
      · exact .inr h1
    old := fun b hb hne => hr.old b hb (fun hm => by
      obtain ⟨y, hy, e⟩ := List.mem_map.1 hm
      exact hne y hy e)
    out := hr.out
    sz := hr.sz }

theorem spec_of_V {P : Program} {E : Env} {f : Nat} {fn : Func} {c : Code} (esc : List Nat) (hE : EOK P E) (hf : P.funcs[f]? = some fn) (hb : fn.body = some c) (hn : (fn.name == "runtime.NumGoroutine") = false)
    {args : List Value} (hok : (codeOk fn.ntmps c && Nat.ble args.length fn.ntmps) = true) {I : GH} {M : List Blk} {post : Value → GH → List Blk → Prop}
    (h : ∀ B h0, V ⟨P, E, esc, fn.ntmps, B, h0, I, M.map (·.num), none⟩ c (frOf args) (fun _ => none) I M (retK ⟨P, E, esc, fn.ntmps, B, h0, I, M.map (·.num), none⟩ fn.results.toList post)) :
    Spec P f args I M post := .inl (specE_of_V esc hE hf hb hn hok h)

/-! ### The table of types, checked -/
def vbeq : Value → Value → Bool
  | .bool a, .bool b => a == b
  | .int k n, .int k' m => IntKind.eqb k k' && decide (n = m)
  | .string s, .string t => decide (s.data.toList = t.data.toList)
  | .pointer none, .pointer none => true
  | .slice none 0 0, .slice none 0 0 => true
  | .map none, .map none => true
  | .nilFunc, .nilFunc => true
  | .nilIface, .nilIface => true
  | _, _ => false
theorem vbeq_eq : ∀ {a b : Value}, vbeq a b = true → a = b := by
  intro a b h
  unfold vbeq at h
  split at h
  · simp at h; rw [h]
  · simp only [Bool.and_eq_true, decide_eq_true_eq] at h; rw [IntKind.eqb_eq h.1, h.2]
  · rename_i s t
    simp only [decide_eq_true_eq] at h
    have : s = t := by cases s; cases t; simp only [ByteArray.mk.injEq]; exact Array.ext' h
    rw [this]
  all_goals first | rfl | cases h
def vbeqL : List Value → List Value → Bool
  | [], [] => true
  | a :: as, b :: bs => vbeq a b && vbeqL as bs
  | _, _ => false
theorem vbeqL_eq : ∀ {a b : List Value}, vbeqL a b = true → a = b
  | [], [], _ => rfl
  | a :: as, b :: bs, h => by
    simp only [vbeqL, Bool.and_eq_true] at h
    rw [vbeq_eq h.1, vbeqL_eq h.2]
  | [], _ :: _, h => by cases h
  | _ :: _, [], h => by cases h
def tiChk (P : Program) (t : Nat) (i : TI) : Bool :=
  (match P.info? t with
  | some inf => decide (inf.size = i.size) && decide (inf.bytes = i.bytes) && (match inf.zero with
    | some z => vbeqL z.cells.toList i.zero
    | none => false)
  | none => false) &&
  (match P.underlying t with
  | some d => decide (shOf d = i.sh)
  | none => false) && allOne i.zero && decide (i.zero.length = i.size) && (i.sh.agg || decide (i.size = 1))
theorem tiChk_ok {P : Program} {t : Nat} {i : TI} (h : tiChk P t i = true) : TIok P t i := by
  simp only [tiChk, Bool.and_eq_true] at h
  obtain ⟨⟨⟨⟨h1, h2⟩, h3⟩, h4⟩, h5⟩ := h
  refine ⟨?_, ?_, allOne_spec h3, of_decide_eq_true h4, fun ha => ?_⟩
  · split at h1
    · rename_i inf hi
      simp only [Bool.and_eq_true, decide_eq_true_eq] at h1
      obtain ⟨⟨e1, e2⟩, e3⟩ := h1
      split at e3
      · rename_i z hz
        exact ⟨inf, z, hi, e1, e2, hz, vbeqL_eq e3⟩
      · cases e3
    · cases h1
  · split at h2
    · rename_i d hd
      exact ⟨d, hd, of_decide_eq_true h2⟩
    · cases h2
  · rw [ha] at h5
    simpa using h5
theorem eok_of_chk {P : Program} {E : Env} (n : Nat) (hn : ∀ t, n ≤ t → E t = none) (h : ((List.range n).all fun t => match E t with
    | some i => tiChk P t i
    | none => true) = true) : EOK P E := by
  intro t i hi
  by_cases ht : t < n
  · have := List.all_eq_true.1 h t (List.mem_range.2 ht)
    rw [hi] at this
    exact tiChk_ok this
  · rw [hn t (by omega)] at hi
    cases hi
end Go.V
