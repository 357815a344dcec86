/-
  Scopes with labels: a demand for the jumps back.
-/
import Derived.Test.YtcccmnppfmfkiaaDoorVd
set_option linter.unusedVariables false
set_option linter.unusedSimpArgs false
namespace Go.V
open Go

theorem wpIn_scope_rel {Fe : Fence} {n : Nat} {P : Program} {Q : Exit → Act → World → Prop} {a : Act} {w : World} {c : Code} (J : Nat → Nat → Act → World → Prop)
    (first : c.wpIn Fe n P (fun e a' w' => match e with
      | .goto l => ∃ m, J l m a' w'
      | e => Q e a' w') a w)
    (pass : ∀ l m a w, J l m a w → ∃ rest, findLabel c l = some rest ∧ rest.wpIn Fe n P (fun e a' w' => match e with
      | .goto l' => ∃ m', m' < m ∧ J l' m' a' w'
      | e => Q e a' w') a w) : (Code.scope c).wpIn Fe n P Q a w := by
  intro b k cs hro hb hr
  have s0 : step P (lone (b.atR a (.code (.scope c) :: k)) cs w) = .next (lone (b.atR a (.code c :: .inScope c :: k)) cs w) :=
    step_lone_go (by simp [stepG, stepG.exec, Frame.atR])
  have s1 : ∀ a w, step P (lone (b.atR a (.inScope c :: k)) cs w) = .next (lone (b.atR a k) cs w) := fun a w =>
    step_lone_go (by simp [stepG, stepG.exec, Frame.atR])
  have hx : ∀ id, exitTo id (.inScope c :: k) = exitTo id k := fun id => by simp [exitTo]
  have fin : ∀ {m : Machine} {e : Exit} {a₁ : Act} {w₁ : World}, (∀ l, e ≠ .goto l) → ArrivesIn (Machine.fenced P Fe) P m b (.inScope c :: k) cs e a₁ w₁ → ArrivesIn (Machine.fenced P Fe) P m b k cs e a₁ w₁ := by
    intro m e a₁ w₁ hne harr
    cases e with
    | normal => exact StepsIn.trans harr (.one (fenced_calm hb hr rfl) (s1 _ _))
    | exit id => exact ⟨fun k' hk => harr.1 k' (by rw [hx]; exact hk), fun hr' hk => harr.2 hr' (by rw [hx]; exact hk)⟩
    | goto l => exact (hne l rfl).elim
    | ret => exact harr
    | panic ch => exact harr
    | outgrown => exact harr
  have key : ∀ m l a w, J l m a w → ∀ rest, findLabel c l = some rest → ∃ e a' w', Q e a' w' ∧ ArrivesIn (Machine.fenced P Fe) P (lone (b.atR a (.code rest :: .inScope c :: k)) cs w) b k cs e a' w' := by
    intro m
    induction m using Nat.strongRecOn with
    | _ m ih =>
      intro l a w hJ rest hrest
      obtain ⟨rest', hf, hw⟩ := pass l m a w hJ
      rw [hrest] at hf
      cases hf
      obtain ⟨e, a₁, w₁, hq, harr⟩ := hw b (.inScope c :: k) cs hro hb hr
      cases e with
      | goto l' =>
        obtain ⟨m', hlt, hJ'⟩ := hq
        obtain ⟨rest', hf', _⟩ := pass l' m' a₁ w₁ hJ'
        have hg : gotoIn l' (.inScope c :: k) = some (.code rest' :: .inScope c :: k) := by simp [gotoIn, hf']
        obtain ⟨e₂, a₂, w₂, hq₂, harr₂⟩ := ih m' hlt l' a₁ w₁ hJ' rest' hf'
        exact ⟨e₂, a₂, w₂, hq₂, .of_steps (harr.1 _ hg) harr₂⟩
      | normal => exact ⟨_, a₁, w₁, hq, fin (by simp) harr⟩
      | exit id => exact ⟨_, a₁, w₁, hq, fin (by simp) harr⟩
      | ret => exact ⟨_, a₁, w₁, hq, fin (by simp) harr⟩
      | panic ch => exact ⟨_, a₁, w₁, hq, fin (by simp) harr⟩
      | outgrown => exact ⟨_, a₁, w₁, hq, fin (by simp) harr⟩
  have h0 : (lone (b.atR a (.code (.scope c) :: k)) cs w).fenced P Fe := fenced_calm hb hr rfl
  obtain ⟨e, a₁, w₁, hq, harr⟩ := first b (.inScope c :: k) cs hro hb hr
  cases e with
  | goto l' =>
    obtain ⟨m', hJ'⟩ := hq
    obtain ⟨rest', hf', _⟩ := pass l' m' a₁ w₁ hJ'
    have hg : gotoIn l' (.inScope c :: k) = some (.code rest' :: .inScope c :: k) := by simp [gotoIn, hf']
    obtain ⟨e₂, a₂, w₂, hq₂, harr₂⟩ := key m' l' a₁ w₁ hJ' rest' hf'
    exact ⟨e₂, a₂, w₂, hq₂, .of_steps (.head h0 s0 (harr.1 _ hg)) harr₂⟩
  | normal => exact ⟨_, a₁, w₁, hq, .of_steps (.one h0 s0) (fin (by simp) harr)⟩
  | exit id => exact ⟨_, a₁, w₁, hq, .of_steps (.one h0 s0) (fin (by simp) harr)⟩
  | ret => exact ⟨_, a₁, w₁, hq, .of_steps (.one h0 s0) (fin (by simp) harr)⟩
  | panic ch => exact ⟨_, a₁, w₁, hq, .of_steps (.one h0 s0) (fin (by simp) harr)⟩
  | outgrown => exact ⟨_, a₁, w₁, hq, .of_steps (.one h0 s0) (fin (by simp) harr)⟩

/-- As K; by a jump: as N says. -/
def scK (N : Nat → KS) (K : KX) : KX
  | .goto l => N l
  | e => K e

theorem CodeOb.scope {X : Ctx} {c : Code} {F : Fr} {C : Bx} {I : GH} {M : List Blk} {K : KX} (hE : EOK X.P X.E) (hok : codeOk X.n c = true) {ι : Type} (st : ι → LP) (lab : ι → Nat) (inv : ι → Prop) (μ : ι → Nat) (rest : Nat → Code)
    (hrest : ∀ i, inv i → findLabel c (lab i) = some (rest (lab i)) ∧ codeOk X.n (rest (lab i)) = true)
    (first : V X c F C I M (scK (fun l => InvAt X.foot st fun j => inv j ∧ lab j = l) K))
    (pass : ∀ i, inv i → V X (rest (lab i)) (ofF (st i).fl) (ofC (st i).cl) (st i).gi (st i).mi (scK (fun l => InvAt X.foot st fun j => (inv j ∧ lab j = l) ∧ μ j < μ i) K)) :
    CodeOb X (.scope c) F C I M K := by
  refine ⟨fun a w hR => ?_⟩
  let J (l m : Nat) (a : Act) (w : World) : Prop := ∃ i, inv i ∧ lab i = l ∧ μ i = m ∧ Rel X a w (ofF (st i).fl) (ofC (st i).cl) (st i).gi (st i).mi
  have toJ : ∀ {p : ι → Prop} {l : Nat} {a w}, (∀ i, p i → inv i ∧ lab i = l) → Sat X (InvAt X.foot st p) a w → ∃ i, p i ∧ J l (μ i) a w := by
    rintro p l a w hp ⟨F, C, I, M, ⟨β, hr⟩, ⟨j, hpj, hw, hF, hC⟩⟩
    exact ⟨j, hpj, j, (hp j hpj).1, (hp j hpj).2, rfl, β, (hr.base hF hC).wk hw⟩
  refine wpIn_scope_rel J (wpIn_mono (V_sound hE c hok hR first) ?_) ?_
  · intro e a w h
    cases e with
    | goto l =>
      obtain ⟨j, hj, hJ⟩ := toJ (p := fun j => inv j ∧ lab j = l) (l := l) (fun _ h => h) h
      exact ⟨_, hJ⟩
    | _ => exact h
  · rintro l m a w ⟨i, hi, rfl, rfl, hr⟩
    obtain ⟨h1, h2⟩ := hrest i hi
    refine ⟨_, h1, wpIn_mono (V_sound hE _ h2 hr (pass i hi)) ?_⟩
    intro e a w h
    cases e with
    | goto l' =>
      obtain ⟨j, hj, hJ⟩ := toJ (p := fun j => (inv j ∧ lab j = l') ∧ μ j < μ i) (l := l') (fun _ h => h.1) h
      exact ⟨_, hj.2, hJ⟩
    | _ => exact h
end Go.V
