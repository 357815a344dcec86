/-
  Part 2 of what the proofs of this seat share: the executor, data in memory, walks.
-/
import Derived.Test.YtmijfbjkkllhlaaGreatDoorK1
import Derived.Lib.UnsafeStr
import Derived.Test.YtmijfbjkkllhlaaGreatDoorProg
import Derived.KernelRfl

/-
  Statements whose order of operations Go leaves open: one demand, in which what only reads is taken as soon as it may be, calls and the making of memory in whatever order the edges leave them, serves every order.
-/
set_option linter.unusedVariables false
set_option linter.unusedSimpArgs false
namespace Go.V
open Go

def isQuiet : Op → Bool
  | .move _ | .assign _ | .pick .. | .unOp .. | .binOp .. | .load .. | .nilCheck _ | .fieldAddr .. | .field .. | .indexAddr .. | .index .. | .build .. | .makeFunc .. | .slice .. | .extract .. | .convert .. => true
  | .call { callee := .builtin .len, .. } => true
  | .call { callee := .builtin .cap, .. } => true
  | .call { callee := .builtin .max, .. } => true
  | .call { callee := .builtin .min, .. } => true
  | .call { callee := .builtin .unsafeSliceData, .. } => true
  | _ => false
def isLoad : Op → Bool
  | .load .. => true
  | _ => false
def dOk (o : Oper) (p : Nat) : Bool := o.after.toList.all fun e => !Region.binds .any e || p.testBit e.on
/-- What may be next: of what only reads ('true'), or of the rest. -/
def readyK (ops : List Oper) (p : Nat) (k : Bool) : List Nat := (List.range ops.length).filter fun i => match ops[i]? with
  | some o => !p.testBit i && ((isQuiet o.op == k) && dOk o p)
  | none => false

def befStep (acc : List Nat) (o : Oper) : Nat := o.after.toList.foldl (fun s e => bif Region.binds .any e then s ||| 2 ^ e.on ||| acc.getD e.on 0 else s) 0
def befL (ops : List Oper) : List Nat := ops.foldl (fun acc o => acc ++ [befStep acc o]) []

def AllL (P : Nat → Prop) : List Nat → Prop
  | [] => True
  | [i] => P i
  | i :: l => P i ∧ AllL P l

inductive PCallOb (foot : List Nat) (P : Program) (f : Nat) (args : List Value) (I : GH) (M : List Blk) (K : Value → GH → List Blk → Prop) : Prop
  | mk (post : Value → GH → List Blk → Prop) (hs : Spec P f args I [] post)
    (k : ∀ v I' M', (∀ b o, I b = some o → I' b = some o) → post v I' M' → K v I' (M' ++ M))
  | mkR (Mc Mr : List Blk) (post : Value → GH → List Blk → Prop) (hM : M.Perm (Mc ++ Mr)) (hs : Spec P f args I Mc post) (keep : ∀ v I' M', post v I' M' → ∀ x ∈ Mc, x ∈ M')
    (k : ∀ v I' M', (∀ b o, I b = some o → I' b = some o) → post v I' M' → K v I' (M' ++ Mr))
  | mkD (post : Value → GH → List Blk → Prop) (hs : Spec P f args I [] post)
    (k : ∀ v I' M', (∀ b o, I b = some o → I' b = some o) → (∀ x ∈ M' ++ M, I' x.num = none) → post v I' M' → K v I' (M' ++ M))
  | mkRD (Mc Mr : List Blk) (post : Value → GH → List Blk → Prop) (hM : M.Perm (Mc ++ Mr)) (hs : Spec P f args I Mc post) (keep : ∀ v I' M', post v I' M' → ∀ x ∈ Mc, x ∈ M')
    (k : ∀ v I' M', (∀ b o, I b = some o → I' b = some o) → (∀ x ∈ M' ++ Mr, I' x.num = none) → post v I' M' → K v I' (M' ++ Mr))
  | mkP (b : Nat) (o : Obj) (Mc Mr : List Blk) (post : Value → GH → List Blk → Prop) (hM : M.Perm (⟨b, o⟩ :: (Mc ++ Mr))) (hf : b ∉ foot) (hs : Spec P f args (ins I b o) Mc post) (keep : ∀ v I' M', post v I' M' → ∀ x ∈ Mc, x ∈ M')
    (k : ∀ v I' M', (∀ c p, ins I b o c = some p → I' c = some p) → (∀ x ∈ M' ++ Mr, I' x.num = none) → post v I' M' → K v I' (M' ++ Mr))
  | fa (h : Fa I M → PCallOb foot P f args I M K)
theorem PCallOb.elim {foot : List Nat} {P : Program} {f : Nat} {args : List Value} {I : GH} {M : List Blk} {K : Value → GH → List Blk → Prop} (hfa : Fa I M) (h : PCallOb foot P f args I M K) :
    ∃ (I1 : GH) (Mc Mr : List Blk) (post : Value → GH → List Blk → Prop), Wk foot I M I1 (Mc ++ Mr) ∧ (∀ b o, I b = some o → I1 b = some o) ∧ Spec P f args I1 Mc post ∧
      ∀ v I' M', (∀ b o, I1 b = some o → I' b = some o) → (∀ x ∈ M' ++ Mr, I' x.num = none) → post v I' M' → (∀ x ∈ M, I' x.num = some x.obj ∨ x ∈ M' ++ Mr) ∧ K v I' (M' ++ Mr) := by
  have keepR : ∀ {Mc Mr : List Blk} {post : Value → GH → List Blk → Prop} {I' : GH}, M.Perm (Mc ++ Mr) → (∀ v I' M', post v I' M' → ∀ x ∈ Mc, x ∈ M') → ∀ v M', post v I' M' → ∀ x ∈ M, I' x.num = some x.obj ∨ x ∈ M' ++ Mr := fun hM keep v M' h2 x hx => by
    right
    rcases List.mem_append.1 (hM.mem_iff.1 hx) with hx | hx
    · exact List.mem_append.2 (.inl (keep v _ M' h2 x hx))
    · exact List.mem_append.2 (.inr hx)
  induction h with
  | mk post hs k => exact ⟨I, [], M, post, .refl, fun _ _ h => h, hs, fun v I' M' h1 _ h2 => ⟨fun x hx => .inr (by simp [hx]), k v I' M' h1 h2⟩⟩
  | mkR Mc Mr post hM hs keep k => exact ⟨I, Mc, Mr, post, .perm hM .refl, fun _ _ h => h, hs, fun v I' M' h1 _ h2 => ⟨keepR hM keep v M' h2, k v I' M' h1 h2⟩⟩
  | mkD post hs k => exact ⟨I, [], M, post, .refl, fun _ _ h => h, hs, fun v I' M' h1 h3 h2 => ⟨fun x hx => .inr (by simp [hx]), k v I' M' h1 h3 h2⟩⟩
  | mkRD Mc Mr post hM hs keep k => exact ⟨I, Mc, Mr, post, .perm hM .refl, fun _ _ h => h, hs, fun v I' M' h1 h3 h2 => ⟨keepR hM keep v M' h2, k v I' M' h1 h3 h2⟩⟩
  | mkP b o Mc Mr post hM hf hs keep k =>
    have hb : I b = none := hfa.d ⟨b, o⟩ (hM.mem_iff.2 (.head _))
    have hself : ins I b o b = some o := by unfold ins; rw [beq_self']; rfl
    refine ⟨ins I b o, Mc, Mr, post, .perm hM (.prom rfl hf .refl), fun c p hc => ?_, hs, fun v I' M' h1 h3 h2 => ⟨fun x hx => ?_, k v I' M' h1 h3 h2⟩⟩
    · unfold ins
      by_cases e : c = b
      · subst e; rw [hb] at hc; cases hc
      · rw [beq_ne e]; exact hc
    · rcases List.mem_cons.1 (hM.mem_iff.1 hx) with rfl | hx
      · exact .inl (h1 _ _ hself)
      · right
        rcases List.mem_append.1 hx with hx | hx
        · exact List.mem_append.2 (.inl (keep v I' M' h2 x hx))
        · exact List.mem_append.2 (.inr hx)
  | fa h ih => exact ih hfa

def Vg (ops : List Oper) (o : Oper) (F : Fr) (run skip : Fr → Prop) : Prop :=
  match o.guard with
  | none => run F
  | some (j, b) =>
    match (ops[j]?).bind (·.dst) with
    | none => False
    | some d =>
      match F d with
      | .lit c => bif c == b then run F else skip F
      | .val (.bool c) => GuardOb c b (run (upd F d (.lit b))) (skip (upd F d (.lit !b)))
      | .val (.tuple _) => skip F
      | _ => False

/-- All that has been taken comes ahead of what may be next. -/
def soloB (bef p : Nat) : Bool := Nat.beq (p &&& bef) p
/-- What has been taken, and need not come ahead, reads no memory. -/
def softB (ops : List Oper) (bef p : Nat) : Bool := (List.range ops.length).all fun q => !p.testBit q || (bef.testBit q || match ops[q]? with
  | some o => !isLoad o.op
  | none => true)

def V_de (X : Ctx) (solo soft : Bool) (o : Oper) (F : Fr) (C : Bx) (I : GH) (M : List Blk) (K : KS) : Prop :=
  bif solo then V_op X o F C I M K else
  match o.op with
  | .call { callee := .value f, args, .. } =>
    match ev F f, evs F args.toList with
    | .val (.func (.func g) first cap), some vs => PCallOb X.foot X.P g (first.toList ++ vs ++ cap.toList) I M fun v I' M' => K (put o.dst (.val v) F) C I' M'
    | _, _ => False
  | .alloc t =>
    match o.dst, X.E t with
    | some d, some i => AllocOb I M fun b => K (upd F d (.val (.pointer (some ⟨b, 0, none⟩)))) C I (⟨b, .cells i.zero.toArray t (0, 0)⟩ :: M)
    | _, _ => False
  | .buildSlice _ _ _ => V_op X o F C I M K
  | .makeSlice _ _ _ => V_op X o F C I M K
  | .store _ _ _ => bif soft then V_op X o F C I M K else False
  | _ => False

/-- What is read: a box, or all else. -/
def farS : Nat := 1000000007
def spotS : SV → Nat
  | .ref s _ => s
  | _ => farS
/-- The boxes that were read. -/
def bxAdd (op : Op) (ρ : Operand → SV) (bx : List Nat) : List Nat := match op with
  | .load _ x => spotS (ρ x) :: bx
  | _ => bx
/-- What is written is no box, and boxes alone were read. -/
def farB (op : Op) (ρ : Operand → SV) (bx : List Nat) : Bool := match op with
  | .store _ x _ => (match ρ x with
    | .val (.pointer (some _)) => !bx.contains farS
    | _ => false)
  | _ => false
/-- What is written is a box that was not read. -/
def boxB (op : Op) (ρ : Operand → SV) (bx : List Nat) : Bool := match op with
  | .store _ x _ => (match ρ x with
    | .ref s _ => !bx.contains s
    | _ => false)
  | _ => false

def Vd (X : Ctx) (ops : List Oper) : Nat → Nat → List Nat → Fr → Bx → GH → List Blk → KS → Prop
  | 0, _, _, _, _, _, _, _ => False
  | n + 1, p, bx, F, C, I, M, K =>
    match readyK ops p true with
    | i :: _ =>
      (match ops[i]? with
      | some o => Vg ops o F
          (fun F => V_q X o.op (evr F) C I M (fun x => Vd X ops n (p ||| 2 ^ i) (bxAdd o.op (evr F) bx) (put o.dst x F) C I M K) False)
          (fun F => Vd X ops n (p ||| 2 ^ i) bx (put o.dst (.val undef) F) C I M K)
      | none => False)
    | [] =>
      match readyK ops p false with
      | [] => K F C I M
      | i0 :: l0 => AllL (fun i => match ops[i]? with
          | some o => Vg ops o F
            (fun F => V_de X (soloB ((befL ops).getD i 0) p) (softB ops ((befL ops).getD i 0) p || (boxB o.op (evr F) bx || farB o.op (evr F) bx)) o F C I M fun F C I M => Vd X ops n (p ||| 2 ^ i) bx F C I M K)
            (fun F => Vd X ops n (p ||| 2 ^ i) bx (put o.dst (.val undef) F) C I M K)
          | none => False) (i0 :: l0)

def looks (ops : List Oper) (o : Oper) : List Nat := o.looksAt ops.toArray

/-- What is checked of a region by its text alone. -/
def drawChk (ops : List Oper) : Bool :=
  let b := befL ops
  (List.range ops.length).all fun j => match ops[j]? with
    | none => true
    | some oj =>
      (oj.after.toList.all fun e => !Region.binds .any e || Nat.blt e.on j) &&
      ((match oj.dst with
        | some d => !(looks ops oj).contains d
        | none => true) &&
      ((List.range ops.length).all (fun i => Nat.beq i j || match ops[i]? with
        | none => true
        | some oi => match oi.dst with
          | none => true
          | some d => !(oj.dst == some d) && (!(looks ops oj).contains d || ((b.getD j 0).testBit i || (b.getD i 0).testBit j)))))

/-! ### What comes ahead of what -/
def Dep (ops : List Oper) (j e : Nat) : Prop := ∃ o ed, ops[j]? = some o ∧ ed ∈ o.after ∧ Region.binds .any ed = true ∧ ed.on = e
inductive Bef (ops : List Oper) : Nat → Nat → Prop
  | one {i j} (h : Dep ops j i) : Bef ops i j
  | trans {i j k} (h : Dep ops j k) (h' : Bef ops i k) : Bef ops i j
def Closed (ops : List Oper) (S : Nat → Prop) : Prop := ∀ j e, S j → Dep ops j e → S e

theorem Bef.mem {ops : List Oper} {S : Nat → Prop} (hS : Closed ops S) {i j : Nat} (h : Bef ops i j) (hj : ∀ e, Dep ops j e → S e) : S i := by
  induction h with
  | one h => exact hj _ h
  | trans h _ ih => exact ih fun e he => hS _ e (hj _ h) he

theorem befStep_mem {acc : List Nat} {o : Oper} {i : Nat} (h : (befStep acc o).testBit i = true) : ∃ e ∈ o.after, Region.binds .any e = true ∧ (e.on = i ∨ (acc.getD e.on 0).testBit i = true) := by
  have key : ∀ (l : List Edge) (s : Nat), (l.foldl (fun s e => bif Region.binds .any e then s ||| 2 ^ e.on ||| acc.getD e.on 0 else s) s).testBit i = true → s.testBit i = true ∨ ∃ e ∈ l, Region.binds .any e = true ∧ (e.on = i ∨ (acc.getD e.on 0).testBit i = true) := by
    intro l
    induction l with
    | nil => intro s h; exact .inl h
    | cons e l ih =>
      intro s h
      simp only [List.foldl_cons] at h
      rcases ih _ h with h1 | ⟨e', he', h2⟩
      · cases hb : Region.binds .any e with
        | false => rw [hb] at h1; exact .inl h1
        | true =>
          rw [hb] at h1
          simp only [cond_true, Nat.testBit_or, Bool.or_eq_true, Nat.testBit_two_pow, decide_eq_true_eq] at h1
          rcases h1 with (h1 | h1) | h1
          · exact .inl h1
          · exact .inr ⟨e, by simp, hb, .inl h1⟩
          · exact .inr ⟨e, by simp, hb, .inr h1⟩
      · exact .inr ⟨e', by simp [he'], h2⟩
  rcases key _ 0 h with h1 | ⟨e, he, h2⟩
  · simp at h1
  · exact ⟨e, by simpa using he, h2⟩

theorem befL_ok (ops : List Oper) : ∀ (l : List Oper) (pre : List Oper) (acc : List Nat), ops = pre ++ l → acc.length = pre.length → (∀ j i, (acc.getD j 0).testBit i = true → Bef ops i j) →
    ∀ j i, ((l.foldl (fun acc o => acc ++ [befStep acc o]) acc).getD j 0).testBit i = true → Bef ops i j
  | [], pre, acc, _, _, hacc => hacc
  | o :: l, pre, acc, hops, hlen, hacc => by
    simp only [List.foldl_cons]
    refine befL_ok ops l (pre ++ [o]) _ (by simp [hops]) (by simp [hlen]) ?_
    intro j i h
    by_cases hj : j < acc.length
    · exact hacc j i (by simpa [List.getD_eq_getElem?_getD, List.getElem?_append_left hj] using h)
    · by_cases hj' : j = acc.length
      · subst hj'
        have h' : (befStep acc o).testBit i = true := by simpa [List.getD_eq_getElem?_getD] using h
        obtain ⟨e, he, hb, h2⟩ := befStep_mem h'
        have ho : ops[acc.length]? = some o := by rw [hops, hlen]; simp
        have hdep : Dep ops acc.length e.on := ⟨o, e, ho, he, hb, rfl⟩
        rcases h2 with rfl | h2
        · exact .one hdep
        · exact .trans hdep (hacc _ _ h2)
      · have : (acc ++ [befStep acc o]).getD j 0 = 0 := by
          rw [List.getD_eq_getElem?_getD, List.getElem?_eq_none (by simp; omega)]
          rfl
        rw [this] at h
        simp at h

theorem bef_of_bit {ops : List Oper} {j i : Nat} (h : ((befL ops).getD j 0).testBit i = true) : Bef ops i j :=
  befL_ok ops ops [] [] rfl rfl (fun j i h => by simp at h) j i h

/-! ### What only reads: what it comes to is settled when it is asked -/
section
variable {X : Ctx} {C C' : Bx} {I I' : GH} {M M' : List Blk}

theorem evqs_congr {ρ ρ' : Operand → SV} : ∀ {xs : List Operand}, (∀ y ∈ xs, ρ' y = ρ y) → evqs ρ' xs = evqs ρ xs
  | [], _ => rfl
  | x :: xs, h => by
    have h1 := h x (by simp)
    have h2 := evqs_congr (xs := xs) fun y hy => h y (by simp [hy])
    simp only [evqs, evq, h1, h2]
theorem evqParts_congr {ρ ρ' : Operand → SV} : ∀ {xs : List (Nat × Operand)}, (∀ y ∈ xs.map (·.2), ρ' y = ρ y) → evqParts ρ' xs = evqParts ρ xs
  | [], _ => rfl
  | (i, x) :: xs, h => by
    have h1 := h x (by simp)
    have h2 := evqParts_congr (xs := xs) fun y hy => h y (by simp only [List.map_cons, List.mem_cons]; exact .inr hy)
    simp only [evqParts, evq, h1, h2]

theorem V_q_mono {op : Op} {ρ ρ' : Operand → SV} {V : SV → Prop} (h : V_q X op ρ C I M V False) (hρ : ∀ y ∈ op.operands, ρ' y = ρ y)
    (hl : ∀ t x, op = .load t x → (∀ s off, ρ x = .ref s off → C' s = C s) ∧ ((∀ s off, ρ x ≠ .ref s off) → ∀ b o, Kn I M b o → Kn I' M' b o)) : V_q X op ρ' C' I' M' V False := by
  cases op
  case load t x =>
    obtain ⟨hc, hk⟩ := hl t x rfl
    have h1 := hρ x (by simp [Op.operands])
    simp only [V_q, h1] at h ⊢
    cases hE : X.E t with
    | none => rw [hE] at h; exact h.elim
    | some i =>
      rw [hE] at h
      try simp only at h ⊢
      cases hx : ρ x with
      | ref s off =>
        rw [hx] at h
        try simp only at h ⊢
        rw [hc s off hx]
        exact h
      | val v =>
        rw [hx] at h
        try simp only at h ⊢
        split at h
        · rename_i e
          cases e
        · rename_i a e
          cases e
          obtain ⟨vs, ⟨h2, cs, T, fr, h3, h4⟩, h5⟩ := h
          exact ⟨vs, ⟨h2, cs, T, fr, hk (fun s off e => by rw [hx] at e; cases e) _ _ h3, h4⟩, h5⟩
        · exact h.elim
      | lit b => rw [hx] at h; exact h.elim
      | junk => rw [hx] at h; exact h.elim
  case build t ps =>
    have h1 := evqParts_congr (ρ := ρ) (ρ' := ρ') (xs := ps.toList) fun y hy => hρ y (by simpa [Op.operands] using hy)
    simp only [V_q, h1] at h ⊢
    exact h
  case makeFunc fn first captured =>
    have h1 := evqs_congr (ρ := ρ) (ρ' := ρ') (xs := first.toList) fun y hy => hρ y (by simp only [Op.operands, Array.mem_append]; exact .inl (by simpa using hy))
    have h2 := evqs_congr (ρ := ρ) (ρ' := ρ') (xs := captured.toList) fun y hy => hρ y (by simp only [Op.operands, Array.mem_append]; exact .inr (by simpa using hy))
    simp only [V_q, h1, h2] at h ⊢
    exact h
  case slice t x lo hi mx =>
    have h1 := hρ x (by simp [Op.operands])
    have h2 : lo.map (evq ρ') = lo.map (evq ρ) := by
      cases lo with
      | none => rfl
      | some y => have := hρ y (by simp [Op.operands]); simp [evq, this]
    have h3 : hi.map (evq ρ') = hi.map (evq ρ) := by
      cases hi with
      | none => rfl
      | some y => have := hρ y (by simp [Op.operands]); simp [evq, this]
    simp only [V_q, h2, h3, evq, h1] at h ⊢
    exact h
  case call c =>
    obtain ⟨callee, args, argTypes⟩ := c
    cases callee with
    | value f => exact h
    | invoke r m => exact h
    | builtin b =>
      cases b
      case len =>
        have h1 := evqs_congr (ρ := ρ) (ρ' := ρ') (xs := args.toList) fun y hy => hρ y (by simp [Op.operands, Call.operands]; simpa using hy)
        simp only [V_q, h1] at h ⊢
        exact h
      case cap =>
        have h1 := evqs_congr (ρ := ρ) (ρ' := ρ') (xs := args.toList) fun y hy => hρ y (by simp [Op.operands, Call.operands]; simpa using hy)
        simp only [V_q, h1] at h ⊢
        exact h
      case max =>
        have h1 := evqs_congr (ρ := ρ) (ρ' := ρ') (xs := args.toList) fun y hy => hρ y (by simp [Op.operands, Call.operands]; simpa using hy)
        simp only [V_q, h1] at h ⊢
        exact h
      case min =>
        have h1 := evqs_congr (ρ := ρ) (ρ' := ρ') (xs := args.toList) fun y hy => hρ y (by simp [Op.operands, Call.operands]; simpa using hy)
        simp only [V_q, h1] at h ⊢
        exact h
      case unsafeSliceData =>
        have h1 := evqs_congr (ρ := ρ) (ρ' := ρ') (xs := args.toList) fun y hy => hρ y (by simp [Op.operands, Call.operands]; simpa using hy)
        simp only [V_q, h1] at h ⊢
        exact h
      all_goals exact h
  all_goals first
    | exact h
    | (rename_i x; have h1 := hρ x (by simp [Op.operands]); simp only [V_q, evq, h1] at h ⊢; exact h)
    | (rename_i x y; have h1 := hρ x (by simp [Op.operands]); have h2 := hρ y (by simp [Op.operands]); simp only [V_q, evq, h1, h2] at h ⊢; exact h)
    | (rename_i x y z; have h1 := hρ x (by simp [Op.operands]); have h2 := hρ y (by simp [Op.operands]); have h3 := hρ z (by simp [Op.operands]); simp only [V_q, evq, h1, h2, h3] at h ⊢; exact h)
    | (rename_i x y; have h1 := hρ x (by simp [Op.operands]); simp only [V_q, evq, h1] at h ⊢; exact h)
    | (rename_i x y; have h1 := hρ y (by simp [Op.operands]); simp only [V_q, evq, h1] at h ⊢; exact h)
    | (rename_i x y z; have h1 := hρ x (by simp [Op.operands]); have h2 := hρ y (by simp [Op.operands]); simp only [V_q, evq, h1, h2] at h ⊢; exact h)
    | (rename_i x y z; have h1 := hρ y (by simp [Op.operands]); have h2 := hρ z (by simp [Op.operands]); simp only [V_q, evq, h1, h2] at h ⊢; exact h)
    | (rename_i o x y z u; have h1 := hρ y (by simp [Op.operands]); have h2 := hρ z (by simp [Op.operands]); simp only [V_q, evq, h1, h2] at h ⊢; exact h)
    | (rename_i x y z u; have h1 := hρ z (by simp [Op.operands]); have h2 := hρ y (by simp [Op.operands]); simp only [V_q, evq, h1, h2] at h ⊢; exact h)

end
section
variable {X : Ctx} {C : Bx} {I : GH} {M : List Blk}

theorem V_bin_pull {op : BinOp} {ti : Option TI} {x y : SV} {V : Value → Prop} {O : Prop} (h : V_bin op ti x y V O) :
    (∃ r, V r ∧ ∀ O', V_bin op ti x y (fun z => z = r) O') ∨ (O ∧ ∀ (V' : Value → Prop) (O' : Prop), O' → V_bin op ti x y V' O') := by
  unfold V_bin at h
  split at h
  · left
    split at h
    · obtain ⟨j, hj, ⟨r, hr, hk⟩⟩ := h
      exact ⟨_, hk, fun O' => by unfold V_bin; exact ⟨j, hj, ⟨r, hr, rfl⟩⟩⟩
    · obtain ⟨j, hj, hk⟩ := h
      exact ⟨_, hk, fun O' => by unfold V_bin; exact ⟨j, hj, rfl⟩⟩
    · rename_i _ _ k a k' b _ hs1 hs2
      cases hkk : IntKind.eqb k k' with
      | false => rw [hkk] at h; exact h.elim
      | true =>
        rw [hkk] at h
        simp only [cond_true] at h
        cases op <;> simp only at h
        case add => obtain ⟨r, hr, hk⟩ := h; exact ⟨_, hk, fun O' => by simp only [V_bin, hkk, cond_true]; exact ⟨r, hr, rfl⟩⟩
        case sub => obtain ⟨r, hr, hk⟩ := h; exact ⟨_, hk, fun O' => by simp only [V_bin, hkk, cond_true]; exact ⟨r, hr, rfl⟩⟩
        case mul => obtain ⟨r, hr, hk⟩ := h; exact ⟨_, hk, fun O' => by simp only [V_bin, hkk, cond_true]; exact ⟨r, hr, rfl⟩⟩
        case quo => obtain ⟨h0, ⟨r, hr, hk⟩⟩ := h; exact ⟨_, hk, fun O' => by simp only [V_bin, hkk, cond_true]; exact ⟨h0, ⟨r, hr, rfl⟩⟩⟩
        case rem => obtain ⟨h0, hk⟩ := h; exact ⟨_, hk, fun O' => by simp only [V_bin, hkk, cond_true]; first | exact ⟨h0, rfl⟩ | exact ⟨h0, trivial⟩⟩
        case shl => exact (hs1 rfl).elim
        case shr => exact (hs2 rfl).elim
        all_goals exact ⟨_, h, fun O' => by simp only [V_bin, hkk, cond_true]; rfl⟩
  · cases op <;> first
    | exact .inl ⟨_, h, fun _ => rfl⟩
    | exact .inr ⟨h, fun _ _ ho => ho⟩
  · split at h
    · cases op <;> first
      | exact .inl ⟨_, h, fun _ => rfl⟩
      | exact .inr ⟨h, fun _ _ ho => ho⟩
    · rename_i hn
      refine .inr ⟨h, fun V' O' ho => ?_⟩
      cases ti with
      | none => exact ho
      | some i =>
        obtain ⟨s, b, z, sh⟩ := i
        cases sh <;> first
          | exact ho
          | exact (hn _ _ _ rfl).elim
  · rename_i h1 h2 h3
    refine .inr ⟨h, fun V' O' ho => ?_⟩
    unfold V_bin
    split <;> first
      | exact ho
      | exact (h1 _ _ _ _ rfl rfl).elim
      | exact (h2 _ _ rfl rfl).elim
      | exact (h3 _ _ rfl rfl).elim

theorem V_q_pull {op : Op} {ρ : Operand → SV} {V : SV → Prop} (h : V_q X op ρ C I M V False) : ∃ x, V x ∧ V_q X op ρ C I M (fun y => y = x) False := by
  cases op
  case move x => exact ⟨_, h, rfl⟩
  case assign x => exact ⟨_, h, rfl⟩
  case pick c p q =>
    simp only [V_q] at h ⊢
    split at h
    · exact ⟨_, h, rfl⟩
    · exact ⟨_, h, rfl⟩
    · exact h.elim
  case unOp op t x =>
    simp only [V_q] at h ⊢
    split at h
    · exact ⟨_, h, rfl⟩
    · exact ⟨_, h, rfl⟩
    · obtain ⟨r, hr, hk⟩ := h; exact ⟨_, hk, ⟨r, hr, rfl⟩⟩
    · exact h.elim
  case binOp op t x y ty =>
    simp only [V_q] at h ⊢
    rcases V_bin_pull h with ⟨r, h1, h2⟩ | ⟨⟨p', q', r, hp, hq, hr, hk⟩ | h1, h2⟩
    · refine ⟨_, h1, ?_⟩
      have : (fun v => SV.val v = SV.val r) = (fun z => z = r) := by funext v; simp
      rw [this]
      exact h2 _
    · exact ⟨_, hk, h2 _ _ (.mk p' q' r hp hq hr rfl)⟩
    · exact h1.elim
  case load t x =>
    simp only [V_q] at h ⊢
    split at h
    · split at h
      · split at h
        · rename_i i hi _ s off hs _ cs hc
          cases hle : Nat.ble (off + i.size) cs.length with
          | false => rw [hle] at h; exact h.elim
          | true => rw [hle] at h; exact ⟨_, h, rfl⟩
        · exact h.elim
      · obtain ⟨vs, hr, hk⟩ := h; exact ⟨_, hk, ⟨vs, hr, rfl⟩⟩
      · exact h.elim
    · exact h.elim
  case nilCheck x =>
    simp only [V_q] at h ⊢
    split at h
    · exact ⟨_, h, rfl⟩
    · exact ⟨_, h, rfl⟩
    · exact h.elim
  case fieldAddr t x i =>
    simp only [V_q] at h ⊢
    split at h
    · split at h
      · split at h
        · rename_i fi s o' hfi hx
          cases hz : Nat.beq fi.size 0 with
          | true => rw [hz] at h; exact h.elim
          | false => rw [hz] at h; exact ⟨_, h, rfl⟩
        · rename_i fi s hfi hx
          cases hz : Nat.beq fi.size 0 with
          | true => rw [hz] at h; exact h.elim
          | false => rw [hz] at h; exact ⟨_, h, rfl⟩
        · exact h.elim
      · exact h.elim
    · exact h.elim
  case field t x i =>
    simp only [V_q] at h ⊢
    split at h
    · split at h
      · split at h
        · rename_i sz by' z fs cs ht hx _ ft off hfs _ fi hfi
          cases hle : Nat.ble (off + fi.size) cs.size with
          | false => rw [hle] at h; exact h.elim
          | true => rw [hle] at h; exact ⟨_, h, rfl⟩
        · exact h.elim
      · exact h.elim
    · exact h.elim
  case indexAddr t x i =>
    simp only [V_q] at h ⊢
    split at h
    · split at h
      · obtain ⟨ad, j, h1, h2, h3, hk⟩ := h; exact ⟨_, hk, ⟨ad, j, h1, h2, h3, rfl⟩⟩
      · exact h.elim
    · split at h
      · obtain ⟨j, h2, h3, hk⟩ := h; exact ⟨_, hk, ⟨j, h2, h3, rfl⟩⟩
      · obtain ⟨j, h2, h3, hk⟩ := h; exact ⟨_, hk, ⟨j, h2, h3, rfl⟩⟩
      · exact h.elim
    · exact h.elim
  case index t x i =>
    simp only [V_q] at h ⊢
    split at h
    · obtain ⟨j, h2, h3, hk⟩ := h; exact ⟨_, hk, ⟨j, h2, h3, rfl⟩⟩
    · split at h
      · rename_i n e cs kk k ht hx hi _ ei hei
        cases hz : Nat.beq (n * ei.size) cs.size with
        | false => rw [hz] at h; exact h.elim
        | true => rw [hz] at h; obtain ⟨j, h2, h3, hk⟩ := h; exact ⟨_, hk, ⟨j, h2, h3, rfl⟩⟩
      · exact h.elim
    · exact h.elim
  case build t ps =>
    simp only [V_q] at h ⊢
    split at h
    · split at h
      · rename_i i vs ht hvs _ fs hsh
        cases hp : placesOk X.E fs with
        | false => rw [hp] at h; exact h.elim
        | true =>
          rw [hp] at h
          simp only [cond_true] at h ⊢
          split at h
          · exact ⟨_, h, rfl⟩
          · exact h.elim
      · split at h
        · split at h
          · exact ⟨_, h, rfl⟩
          · exact h.elim
        · exact h.elim
      · exact h.elim
    · exact h.elim
  case makeFunc fn first captured =>
    simp only [V_q] at h ⊢
    split at h
    · exact ⟨_, h, rfl⟩
    · exact h.elim
  case slice t x lo hi mx =>
    simp only [V_q] at h ⊢
    split at h
    · split at h
      · exact ⟨_, h, rfl⟩
      · obtain ⟨l, m, h1, h2, h3, h4, hk⟩ := h; exact ⟨_, hk, ⟨l, m, h1, h2, h3, h4, rfl⟩⟩
      · obtain ⟨l, m, h1, h2, h3, h4, hk⟩ := h; exact ⟨_, hk, ⟨l, m, h1, h2, h3, h4, rfl⟩⟩
      · obtain ⟨l, m, h1, h2, h3, h4, hk⟩ := h; exact ⟨_, hk, ⟨l, m, h1, h2, h3, h4, rfl⟩⟩
      · exact h.elim
    · split at h
      · exact ⟨_, h, rfl⟩
      · obtain ⟨l, m, h1, h2, h3, h4, hk⟩ := h; exact ⟨_, hk, ⟨l, m, h1, h2, h3, h4, rfl⟩⟩
      · obtain ⟨l, m, h1, h2, h3, h4, hk⟩ := h; exact ⟨_, hk, ⟨l, m, h1, h2, h3, h4, rfl⟩⟩
      · obtain ⟨l, m, h1, h2, h3, h4, hk⟩ := h; exact ⟨_, hk, ⟨l, m, h1, h2, h3, h4, rfl⟩⟩
      · exact h.elim
    · exact h.elim
  case extract x i =>
    simp only [V_q] at h ⊢
    split at h
    · split at h
      · exact ⟨_, h, rfl⟩
      · exact h.elim
    · exact h.elim
  case convert s d x =>
    simp only [V_q] at h ⊢
    split at h
    · obtain ⟨r, hr, hk⟩ := h; exact ⟨_, hk, ⟨r, hr, rfl⟩⟩
    · exact h.elim
  case call c =>
    obtain ⟨callee, args, argTypes⟩ := c
    cases callee with
    | value f => exact h.elim
    | invoke r m => exact h.elim
    | builtin b =>
      cases b
      case len =>
        simp only [V_q] at h ⊢
        split at h
        · split at h
          · exact ⟨_, h, rfl⟩
          · exact ⟨_, h, rfl⟩
          · exact ⟨_, h, rfl⟩
          · exact h.elim
        · exact h.elim
      case cap =>
        simp only [V_q] at h ⊢
        split at h
        · split at h
          · exact ⟨_, h, rfl⟩
          · exact h.elim
        · exact h.elim
      case max =>
        simp only [V_q] at h ⊢
        split at h
        · exact ⟨_, h, rfl⟩
        · exact h.elim
      case min =>
        simp only [V_q] at h ⊢
        split at h
        · exact ⟨_, h, rfl⟩
        · exact h.elim
      case unsafeSliceData =>
        simp only [V_q] at h ⊢
        split at h
        · exact ⟨_, h, rfl⟩
        · obtain ⟨h1, h2⟩ := h
          exact ⟨_, h2, ⟨h1, rfl⟩⟩
        · exact h.elim
      all_goals exact h.elim
  all_goals exact h.elim
end
/-! ### Calls, and what makes or writes memory, while something that only reads is still due -/
theorem Kn.mono {I I' : GH} {M M' : List Blk} {b : Nat} {o : Obj} (h : Kn I M b o) (hI : ∀ b o, I b = some o → I' b = some o) (hM : ∀ x ∈ M, x ∈ M') : Kn I' M' b o := by
  rcases h with h | ⟨x, hx, h1, h2⟩
  · exact .inl (hI _ _ h)
  · exact .inr ⟨x, hM x hx, h1, h2⟩

theorem Kn.move {I I' : GH} {M M' : List Blk} {b : Nat} {o : Obj} (h : Kn I M b o) (hI : ∀ b o, I b = some o → I' b = some o) (hM : ∀ x ∈ M, I' x.num = some x.obj ∨ x ∈ M') : Kn I' M' b o := by
  rcases h with h | ⟨x, hx, rfl, rfl⟩
  · exact .inl (hI _ _ h)
  · rcases hM x hx with h | h
    · exact .inl h
    · exact .inr ⟨x, h, rfl, rfl⟩
/-- A store into a box leaves the others, and all else. -/
def StKeep (F : Fr) (op : Op) (C C' : Bx) (I I' : GH) (M M' : List Blk) : Prop := (∀ t x y s off, op = .store t x y → evr F x = .ref s off → (∀ s', s' ≠ s → C' s' = C s') ∧ ∀ b o, Kn I M b o → Kn I' M' b o) ∧ ∀ t x y ad, op = .store t x y → evr F x = .val (.pointer (some ad)) → C' = C
def AfterE (X : Ctx) (β : Nat → Nat) (G F : Fr) (C : Bx) (I : GH) (M : List Blk) (isStore : Bool) (op : Op) (dst : Option Nat) (a : Act) (K : KS) (a' : Act) (w' : World) : Prop :=
  ∃ v x C' I' M', a' = a.put dst v ∧ SVok β x v ∧ RelB X β a w' G C' I' M' ∧ K (put dst x F) C' I' M' ∧ ((isStore = true ∧ StKeep F op C C' I I' M M') ∨ (C' = C ∧ ∀ b o, Kn I M b o → Kn I' M' b o))

theorem eff_sound {X : Ctx} {β : Nat → Nat} {a : Act} {w : World} {F G : Fr} {C : Bx} {I : GH} {M : List Blk} {o : Oper} {Q : Exit → Act → World → Prop} {K : KS} {soft : Bool} (hE : EOK X.P X.E)
    (h : RelB X β a w G C I M) (hG : ∀ y ∈ o.op.operands, evr G y = evr F y) (hv : V_de X false soft o F C I M K) : o.wpIn (fen X) 0 X.P a w (AfterE X β G F C I M soft o.op o.dst a K) Q := by
  obtain ⟨dst, op, ty, pos, after, guard⟩ := o
  have hf := h.fr
  have hE1 : ∀ {y : Operand} {v : Value}, y ∈ op.operands → ev F y = .val v → a.eval y = v := fun {y v} hy he => eval_of_ev hf (by simp only [ev, evq, hG y hy]; exact he)
  cases op
  case alloc t =>
    simp only [V_de, cond_false] at hv
    split at hv
    · rename_i d i hi
      obtain ⟨z, hz, hzc⟩ := (hE _ _ hi).run_zero w
      have hzz : z.cells = i.zero.toArray := by rw [← hzc]
      obtain ⟨hv⟩ := hv
      have hk := hv w.heap.size h.holds.freshI h.holds.freshM
      refine wpIn_val (by simp) (v := .pointer (some ⟨w.heap.size, 0, none⟩)) (w' := w.alloc (.cells i.zero.toArray t (0, 0))) ?_ ⟨_, .val _, _, _, _, rfl, rfl, h.alloc_blk _, hk, .inr ⟨rfl, fun b o hb => hb.mono (fun _ _ h => h) (fun x hx => by simp [hx])⟩⟩
      simp [execOp, Instr.alloc, newVar, newRow, hz, hzz, World.alloc_eq]
    · exact hv.elim
  case store t x y =>
    simp only [V_de, cond_false] at hv
    cases soft with
    | false => exact hv.elim
    | true =>
      simp only [cond_true, V_op] at hv
      split at hv
      · rename_i i v hi hy
        have hy' := hE1 (by simp [Op.operands]) hy
        split at hv
        · rename_i s off hx
          have hx' := eval_of_ref hf ((hG x (by simp [Op.operands])).trans hx)
          split at hv
          · rename_i cs hs
            cases hle : (Nat.ble (off + i.size) cs.length && (Nat.beq v.cells.size i.size && allOne v.cells.toList)) with
            | false => rw [hle] at hv; exact hv.elim
            | true =>
              rw [hle] at hv
              simp only [Bool.and_eq_true] at hle
              obtain ⟨hle, hsz, hone⟩ := hle
              have hle' := Nat.le_of_ble_eq_true hle
              have hsz' := Nat.eq_of_beq_eq_true hsz
              obtain ⟨T, hT⟩ := (h.bx s cs hs).at_
              have := storeVar_run (hE _ _ hi) (a := ⟨β s, off, none⟩) (v := v) rfl hT hsz' (by simp; omega) hone
              refine wpIn_skip' (by simp) (w' := w.setRow (β s) (splice cs off v.cells.toList).toArray) ?_ ⟨undef, .junk, _, _, _, rfl, trivial, h.store_box hs (splice cs off v.cells.toList), hv, .inl ⟨rfl, fun t' x' y' s' off' e1 e2 => (by
                cases e1
                rw [hx] at e2
                cases e2
                refine ⟨fun s2 hne => ?_, fun _ _ h => h⟩
                unfold updB
                rw [beq_ne hne]
                rfl), fun t' x' y' ad' e1 e2 => by
                cases e1
                rw [hx] at e2
                cases e2⟩⟩
              simp only [execOp, Instr.storeAt, hx', hy', Instr.sureAddr, Sem.run_bind, Sem.run_pure, Result.andThen_ok]
              simp only [List.toList_toArray] at this
              rw [this]
              rfl
          · exact hv.elim
        · rename_i ad hx
          have hx' := eval_of_evr hf ((hG x (by simp [Op.operands])).trans hx)
          cases hsz : Nat.beq v.cells.size i.size with
          | false => rw [hsz] at hv; exact hv.elim
          | true =>
            rw [hsz] at hv
            obtain ⟨pre, post, cs, T, hM, hsp, hb, hone, hk⟩ := hv
            have hsz' := Nat.eq_of_beq_eq_true hsz
            have hg : w.heap[ad.block]? = some (.cells cs T (0, 0)) := h.holds.m ⟨ad.block, .cells cs T (0, 0)⟩ (by rw [hM]; simp)
            have := storeVar_run (hE _ _ hi) (v := v) hsp hg hsz' hb hone
            refine wpIn_skip' (by simp) (w' := w.setRow ad.block (splice cs.toList ad.off v.cells.toList).toArray) ?_ ⟨undef, .junk, _, _, _, rfl, trivial, h.store_blk hM, hk, .inl ⟨rfl, fun t' x' y' s' off' e1 e2 => (by
              cases e1
              rw [hx] at e2
              cases e2), fun _ _ _ _ _ _ => rfl⟩⟩
            simp only [execOp, Instr.storeAt, hx', hy', Instr.sureAddr, Sem.run_bind, Sem.run_pure, Result.andThen_ok]
            rw [this]
            rfl
        · exact hv.elim
      · exact hv.elim
  case buildSlice t len parts =>
    simp only [V_de, cond_false, V_op] at hv
    have hvp : evParts G parts.toList = evParts F parts.toList := evqParts_congr fun y hy => hG y (by simpa [Op.operands] using hy)
    rw [← hvp] at hv
    split at hv
    · rename_i sz by' z e vs ht hvs
      have hu := (hE _ _ ht).slice
      have hp := evParts_ok hf hvs
      have hpp : (parts.map fun (i, x) => (i, a.eval x)).toList = vs := by simpa using hp
      split at hv
      · rename_i ei hei
        cases hz : (Nat.ble (len * ei.size) 16777216 && Nat.blt 0 (len * ei.size)) with
        | false =>
          rw [hz] at hv
          simp only [cond_false] at hv
          split at hv
          · rename_i hvs0
            obtain ⟨hv⟩ := hv
            have hk := hv w.heap.size h.holds.freshI h.holds.freshM
            refine wpIn_val (by simp) (v := .slice (some ⟨w.heap.size, 0, none⟩) 0 0) (w' := w.alloc (.cells #[] e (0, 0))) ?_ ⟨_, .val _, _, _, _, rfl, rfl, h.alloc_blk _, hk, .inr ⟨rfl, fun b o hb => hb.mono (fun _ _ h => h) (fun x hx => by simp [hx])⟩⟩
            simp only [execOp, Instr.buildSlice, Sem.run_bind, Result.andThen_ok, run_underlying hu, (hE _ _ hei).run_sizeOf, hpp]
            have e0 : ∀ f : Nat → Value, Array.map f (Array.range 0) = #[] := fun f => by apply Array.ext <;> simp
            simp [newRow, World.alloc_eq, Instr.fill, e0]
          · exact hv.elim
        | true =>
          rw [hz] at hv
          simp only [cond_true] at hv
          rw [Bool.and_eq_true] at hz
          have hle := Nat.le_of_ble_eq_true hz.1
          have hpos : 0 < len * ei.size := by simpa using hz.2
          split at hv
          · rename_i cells hfill
            obtain ⟨zv, hzv, hzc⟩ := (hE _ _ hei).run_zero w
            obtain ⟨hv⟩ := hv
            have hk := hv w.heap.size h.holds.freshI h.holds.freshM
            refine wpIn_val (by simp) (v := .slice (some ⟨w.heap.size, 0, none⟩) len len) (w' := w.alloc (.cells cells.toArray e (0, 0))) ?_ ⟨_, .val _, _, _, _, rfl, rfl, h.alloc_blk _, hk, .inr ⟨rfl, fun b o hb => hb.mono (fun _ _ h => h) (fun x hx => by simp [hx])⟩⟩
            have hfe := fill_eq _ _ _ _ hfill
            simp only [execOp, Instr.buildSlice, Sem.run_bind, Result.andThen_ok, run_underlying hu, (hE _ _ hei).run_sizeOf]
            rw [if_neg (by omega)]
            simp only [if_neg (show ¬ len * ei.size = 0 by omega), Sem.run_bind, hzv, Result.andThen_ok, Sem.run_pure, hpp, madeCells_eq zv ei.zero hzc, hfe]
            simp [newRow, World.alloc_eq]
          · exact hv.elim
      · exact hv.elim
    · exact hv.elim
  case makeSlice t l c =>
    simp only [V_de, cond_false, V_op] at hv
    split at hv
    · rename_i sz by' z e kl l' kc c' ht hl hc
      have hu := (hE _ _ ht).slice
      have hl' := hE1 (by simp [Op.operands]) hl
      have hc' := hE1 (by simp [Op.operands]) hc
      split at hv
      · rename_i ei hei
        obtain ⟨n, m, rfl, rfl, hnm, hb, hm, ⟨hv⟩⟩ := hv
        have hk := hv w.heap.size h.holds.freshI h.holds.freshM
        obtain ⟨inf, zv, hi1, hi2, hi3, hi4, hi5⟩ := (hE _ _ hei).inf
        refine wpIn_val (by simp) (v := .slice (some ⟨w.heap.size, 0, none⟩) n m) (w' := w.alloc (.cells (rowOf ei.zero (m * ei.size)).toArray e (0, 0))) ?_ ⟨_, .val _, _, _, _, rfl, rfl, h.alloc_blk _, hk, .inr ⟨rfl, fun b o hb => hb.mono (fun _ _ h => h) (fun x hx => by simp [hx])⟩⟩
        have hb2 : ((ei.bytes : Nat) : Int) * (m : Int) ≤ 281474976710656 := by
          have h2 : ((ei.bytes * m : Nat) : Int) ≤ 281474976710656 := by omega
          simpa using h2
        have := run_make (P := X.P) w t e inf zv hu hi1 hi4 kl kc (n : Int) (m : Int) (by omega) (by omega) (by rw [hi3]; exact hb2) (by omega)
        simp only [execOp, hl', hc', Sem.run_bind, this, Result.andThen_ok, Sem.run_pure, Int.toNat_natCast]
        have e1 : madeCells zv.cells (m * inf.size) = (rowOf ei.zero (m * ei.size)).toArray := by
          rw [hi2, ← hi5]
          simp [rowOf_eq]
        rw [e1]
      · exact hv.elim
    · exact hv.elim
  case call c =>
    obtain ⟨callee, args, argTypes⟩ := c
    cases callee with
    | value f =>
      simp only [V_de, cond_false] at hv
      split at hv
      · rename_i g first cap vs hfv hvs
        have hvs' : evs G args.toList = some vs := by
          rw [← hvs]
          exact evqs_congr fun y hy => hG y (by simp only [Op.operands, Call.operands]; simp; right; simpa using hy)
        have hfv' := hE1 (by simp [Op.operands, Call.operands]) hfv
        obtain ⟨I1, Mc, Mr, post, hWp, hI1, hs, hk⟩ := hv.elim ⟨h.holds.d, h.holds.nd⟩
        have e1 := evs_ok hf hvs'
        have e1' : args.map a.eval = vs.toArray := by apply Array.ext'; simpa using e1
        have hrun : ∀ {n : Next} {w' : World}, (callFunc g (first.toList ++ vs ++ cap.toList).toArray).run X.P w = .ok n w' → (execOp a.eval ⟨dst, .call { callee := .value f, args, argTypes }, ty, pos, after, guard⟩).run X.P w = .ok n w' := fun hr => by
          simp only [execOp, resolve, hfv', Deferred.ofValue, Sem.run_bind, Sem.run_pure, Result.andThen_ok, e1', invoke]
          rw [show first ++ vs.toArray ++ cap = (first.toList ++ vs ++ cap.toList).toArray from by apply Array.ext'; simp]
          exact hr
        rcases h.call (KC := fun v I' M' => (∀ b o, I b = some o → I' b = some o) ∧ (∀ x ∈ M, I' x.num = some x.obj ∨ x ∈ M') ∧ K (Go.V.put dst (.val v) F) C I' M') (.mkW I1 Mc Mr post hWp hs fun v I' M' hle hd hp => ⟨fun b o hb => hle _ _ (hI1 _ _ hb), (hk v I' M' hle hd hp).1, (hk v I' M' hle hd hp).2⟩) with ⟨hent, hcalls⟩ | ⟨v, w', I', M', hr, ⟨h1, h2, hk⟩, hr'⟩
        · refine wpIn_enter (by simp) (f := g) (args := (first.toList ++ vs ++ cap.toList).toArray) (hrun (hent _ _)) ?_
          refine hcalls.mono ?_
          rintro e w' ⟨v, I', M', rfl, ⟨h1, h2, hk⟩, hr⟩
          exact ⟨v, rfl, v, .val v, C, I', M', rfl, rfl, hr, hk, .inr ⟨rfl, fun b o hb => hb.move h1 h2⟩⟩
        · exact wpIn_val (by simp) (hrun hr) ⟨v, .val v, C, I', M', rfl, rfl, hr', hk, .inr ⟨rfl, fun b o hb => hb.move h1 h2⟩⟩
      · exact hv.elim
    | invoke r m => exact hv.elim
    | builtin b => exact hv.elim
  all_goals exact hv.elim
/-! ### The machine lags behind: what has been asked and what has been done -/
def SvIm (x y : SV) : Prop := ∀ β u, SVok β x u → SVok β y u
theorem SvIm.refl (x : SV) : SvIm x x := fun _ _ h => h
theorem SvIm.trans {x y z : SV} (h : SvIm x y) (h' : SvIm y z) : SvIm x z := fun β u hu => h' β u (h β u hu)

structure DC (ops : List Oper) : Prop where
  lt : ∀ j e, Dep ops j e → e < j
  own : ∀ (j : Nat) (o : Oper) (d : Nat), ops[j]? = some o → o.dst = some d → d ∉ looks ops o
  dd : ∀ (i j : Nat) (oi oj : Oper) (d : Nat), i ≠ j → ops[i]? = some oi → ops[j]? = some oj → oi.dst = some d → oj.dst ≠ some d
  ord : ∀ (i j : Nat) (oi oj : Oper) (d : Nat), i ≠ j → ops[i]? = some oi → ops[j]? = some oj → oi.dst = some d → d ∈ looks ops oj → Bef ops i j ∨ Bef ops j i

theorem dc_of_chk {ops : List Oper} (h : drawChk ops = true) : DC ops := by
  have key : ∀ (j : Nat) (oj : Oper), ops[j]? = some oj → _ := fun j oj hj => by
    have hlt : j < ops.length := (List.getElem?_eq_some_iff.1 hj).1
    have h1 := List.all_eq_true.1 h j (List.mem_range.2 hlt)
    simp only [hj, Bool.and_eq_true] at h1
    exact h1
  refine ⟨?_, ?_, ?_, ?_⟩
  · rintro j e ⟨o, ed, ho, hed, hb, rfl⟩
    have h1 := List.all_eq_true.1 (key j o ho).1 ed (by simpa using hed)
    rw [hb] at h1
    simpa using h1
  · intro j o d ho hd
    have h1 := (key j o ho).2.1
    rw [hd] at h1
    simpa using h1
  · intro i j oi oj d hne hi hj hd hd'
    have hlt : i < ops.length := (List.getElem?_eq_some_iff.1 hi).1
    have h1 := List.all_eq_true.1 (key j oj hj).2.2 i (List.mem_range.2 hlt)
    rw [beq_ne hne] at h1
    simp only [hi, hd, Bool.false_or, Bool.and_eq_true] at h1
    rw [hd'] at h1
    simp at h1
  · intro i j oi oj d hne hi hj hd hl
    have hlt : i < ops.length := (List.getElem?_eq_some_iff.1 hi).1
    have h1 := List.all_eq_true.1 (key j oj hj).2.2 i (List.mem_range.2 hlt)
    rw [beq_ne hne] at h1
    simp only [hi, hd, Bool.false_or, Bool.and_eq_true, Bool.or_eq_true] at h1
    rcases h1.2 with h2 | h2 | h2
    · have : (looks ops oj).contains d = true := by simpa using hl
      rw [this] at h2
      cases h2
    · exact .inl (bef_of_bit h2)
    · exact .inr (bef_of_bit h2)

def dstAt (ops : List Oper) (i : Nat) : Option Nat := (ops[i]?).bind (·.dst)
def Pd (L : Nat → Prop) (p i : Nat) : Prop := p.testBit i = true ∧ ¬ L i
def Runs (ops : List Oper) (o : Oper) (F : Fr) : Prop := match o.guard with
  | none => True
  | some (j, b) => ∃ d, dstAt ops j = some d ∧ F d = .lit b
def Skips (ops : List Oper) (o : Oper) (F : Fr) : Prop := ∃ j b d, o.guard = some (j, b) ∧ dstAt ops j = some d ∧ (F d = .lit (!b) ∨ ∃ vs, F d = .val (.tuple vs))

theorem guard_looks {ops : List Oper} {o : Oper} {j d : Nat} {b : Bool} (hg : o.guard = some (j, b)) (hd : dstAt ops j = some d) : d ∈ looks ops o := by
  unfold looks Oper.looksAt
  refine List.mem_append_right _ ?_
  rw [hg]
  simp only [Option.mem_toList]
  simpa [dstAt] using hd
theorem operand_looks {ops : List Oper} {o : Oper} {t : Nat} (h : Operand.tmp t ∈ o.op.operands) : t ∈ looks ops o :=
  List.mem_append_left _ (List.mem_filterMap.2 ⟨.tmp t, by simpa using h, rfl⟩)

theorem wanted_runs {ops : List Oper} {o : Oper} {F : Fr} {β : Nat → Nat} {a : Act} (h : Runs ops o F) (hF : ∀ t ∈ looks ops o, SVok β (F t) (a.tmps.getD t undef)) : Region.wanted o (yielded ops.toArray a.tmps) = true := by
  unfold Runs at h
  unfold Region.wanted
  cases hg : o.guard with
  | none => rfl
  | some jb =>
    obtain ⟨j, b⟩ := jb
    rw [hg] at h
    obtain ⟨d, hd, hl⟩ := h
    have h1 := hF d (guard_looks hg hd)
    rw [hl] at h1
    have hy := yielded_of (ops := ops.toArray) (j := j) (d := d) (by simpa [dstAt] using hd) a.tmps
    simp [hy, getD_bool h1]
theorem wanted_skips {ops : List Oper} {o : Oper} {F : Fr} {β : Nat → Nat} {a : Act} (h : Skips ops o F) (hF : ∀ t ∈ looks ops o, SVok β (F t) (a.tmps.getD t undef)) : Region.wanted o (yielded ops.toArray a.tmps) = false := by
  obtain ⟨j, b, d, hg, hd, hl⟩ := h
  unfold Region.wanted
  have h1 := hF d (guard_looks hg hd)
  have hy := yielded_of (ops := ops.toArray) (j := j) (d := d) (by simpa [dstAt] using hd) a.tmps
  rw [hg]
  rcases hl with hl | ⟨vs, hl⟩
  · rw [hl] at h1
    simp [hy, getD_bool h1]
  · rw [hl] at h1
    have hnone : yielded ops.toArray a.tmps j = none := by
      rw [hy]
      cases hg' : a.tmps[d]? with
      | none => rfl
      | some v =>
        simp only [SVok, Array.getD_eq_getD_getElem?, hg', Option.getD_some] at h1
        subst h1
        rfl
    simp [hnone]

theorem Vg_pull {ops : List Oper} {o : Oper} {F : Fr} {run skip : Fr → Prop} (h : Vg ops o F run skip) : ∃ F1, (∀ t, SvIm (F t) (F1 t)) ∧ ((Runs ops o F1 ∧ run F1) ∨ (Skips ops o F1 ∧ skip F1)) := by
  unfold Vg at h
  cases hg : o.guard with
  | none => rw [hg] at h; exact ⟨F, fun t => .refl _, .inl ⟨by simp [Runs, hg], h⟩⟩
  | some jb =>
    obtain ⟨j, b⟩ := jb
    rw [hg] at h
    simp only at h
    split at h
    · exact h.elim
    · rename_i d hd
      have hd' : dstAt ops j = some d := hd
      split at h
      · rename_i c hc
        refine ⟨F, fun t => .refl _, ?_⟩
        cases hcb : (c == b) with
        | true =>
          rw [hcb] at h
          have hcb : c = b := by simpa using hcb
          subst hcb
          exact .inl ⟨by simp only [Runs, hg]; exact ⟨d, hd', hc⟩, h⟩
        | false =>
          rw [hcb] at h
          have hcb' : c = !b := by cases c <;> cases b <;> simp_all
          subst hcb'
          exact .inr ⟨⟨j, b, d, hg, hd', .inl hc⟩, h⟩
      · rename_i c hc
        obtain ⟨h1, h2⟩ := h
        have im : ∀ x, c = x → ∀ t, SvIm (F t) (upd F d (.lit x) t) := fun x hx t => by
          unfold upd
          by_cases e : t = d
          · subst e; subst hx; simp only [beq_self', cond_true, hc]; exact fun _ _ h => h
          · simp only [beq_ne e, cond_false]; exact .refl _
        have self : ∀ x, upd F d (.lit x) d = .lit x := fun x => by simp [upd]
        by_cases hcb : c = b
        · exact ⟨_, im b hcb, .inl ⟨by simp only [Runs, hg]; exact ⟨d, hd', self b⟩, h1 hcb⟩⟩
        · have hcb' : c = !b := by cases c <;> cases b <;> simp_all
          exact ⟨_, im _ hcb', .inr ⟨⟨j, b, d, hg, hd', .inl (self _)⟩, h2 hcb'⟩⟩
      · rename_i vs hc
        exact ⟨F, fun t => .refl _, .inr ⟨⟨j, b, d, hg, hd', .inr ⟨vs, hc⟩⟩, h⟩⟩
      · exact h.elim

structure PQ (X : Ctx) (ops : List Oper) (L : Nat → Prop) (p : Nat) (bx : List Nat) (β : Nat → Nat) (a : Act) (F : Fr) (C : Bx) (I : GH) (M : List Blk) (XV : Nat → SV) (F0 : Nat → Fr) (q : Nat) (o : Oper) : Prop where
  quiet : isQuiet o.op = true
  im : ∀ d, o.dst = some d → SvIm (XV q) (F d)
  b : ∀ t ∈ looks ops o, ∀ i, Pd L p i → Bef ops i q → dstAt ops i = some t → SvIm (XV i) (F0 q t)
  a : ∀ t ∈ looks ops o, (∀ i, Pd L p i → Bef ops i q → dstAt ops i ≠ some t) → SVok β (F0 q t) (a.tmps.getD t undef)
  r : (Runs ops o (F0 q) ∧ V_q X o.op (evr (F0 q)) C I M (fun x => x = XV q) False ∧ ∀ t x, o.op = .load t x → spotS (evr (F0 q) x) ∈ bx) ∨ (Skips ops o (F0 q) ∧ XV q = .val undef)

structure Inv (X : Ctx) (ops : List Oper) (L : Nat → Prop) (β : Nat → Nat) (a : Act) (w : World) (F : Fr) (C : Bx) (I : GH) (M : List Blk) (p : Nat) (bx : List Nat) (XV : Nat → SV) (F0 : Nat → Fr) : Prop where
  rel : RelB X β a w (fun _ => .junk) C I M
  sub : ∀ i, L i → p.testBit i = true
  cL : Closed ops L
  cP : Closed ops (fun i => p.testBit i = true)
  T : ∀ t, (∀ i, Pd L p i → dstAt ops i ≠ some t) → SVok β (F t) (a.tmps.getD t undef)
  pq : ∀ q, Pd L p q → ∃ o, ops[q]? = some o ∧ PQ X ops L p bx β a F C I M XV F0 q o

theorem bit_or {p q i : Nat} : (p ||| 2 ^ q).testBit i = true ↔ p.testBit i = true ∨ i = q := by
  simp only [Nat.testBit_or, Bool.or_eq_true, Nat.testBit_two_pow, decide_eq_true_eq]
  exact ⟨fun h => h.imp id Eq.symm, fun h => h.imp id Eq.symm⟩

section
variable {X : Ctx} {ops : List Oper} {L : Nat → Prop} {β : Nat → Nat} {a : Act} {w : World} {F : Fr} {C : Bx} {I : GH} {M : List Blk} {p : Nat} {bx : List Nat} {XV : Nat → SV} {F0 : Nat → Fr} {q : Nat} {o : Oper}

theorem dstAt_of (h : ops[q]? = some o) : dstAt ops q = o.dst := by simp [dstAt, h]
theorem dstAt_some {i d : Nat} (h : dstAt ops i = some d) : ∃ oi, ops[i]? = some oi ∧ oi.dst = some d := by
  unfold dstAt at h
  exact Option.bind_eq_some_iff.1 h

/-- Where a new operation looks, what is due comes ahead of it. -/
theorem Inv.ahead (hD : DC ops) (hcP : Closed ops (fun i => p.testBit i = true)) (hq : ops[q]? = some o) (hqp : p.testBit q = false) {i t : Nat} (hi : p.testBit i = true) (ht : t ∈ looks ops o) (hd : dstAt ops i = some t) : Bef ops i q := by
  obtain ⟨oi, hoi, hdi⟩ := dstAt_some hd
  have hne : i ≠ q := fun e => by rw [e, hqp] at hi; cases hi
  rcases hD.ord i q oi o t hne hoi hq hdi ht with h | h
  · exact h
  · have := h.mem hcP (fun e he => hcP i e hi he)
    rw [hqp] at this
    cases this

theorem Inv.looksOk (hD : DC ops) (h : Inv X ops L β a w F C I M p bx XV F0) (hq : ops[q]? = some o) (hqp : p.testBit q = false) (hrd : ∀ e, Dep ops q e → L e) : ∀ t ∈ looks ops o, SVok β (F t) (a.tmps.getD t undef) := fun t ht => h.T t fun i hi hd =>
  hi.2 ((Inv.ahead hD h.cP hq hqp hi.1 ht hd).mem h.cL hrd)

theorem put_ne {x : SV} {dst : Option Nat} {t : Nat} (h : dst ≠ some t) : put dst x F t = F t := by
  cases dst with
  | none => rfl
  | some d =>
    have : t ≠ d := fun e => h (by rw [e])
    simp only [put, upd, beq_ne this, cond_false]
theorem put_eq {x : SV} {t : Nat} : put (some t) x F t = x := by simp [put, upd]
theorem aput_ne {v : Value} {dst : Option Nat} {t : Nat} (h : dst ≠ some t) : (a.put dst v).tmps.getD t undef = a.tmps.getD t undef := by
  cases dst with
  | none => rfl
  | some d =>
    have : d ≠ t := fun e => h (by rw [e])
    simp only [Act.put, Array.getD_eq_getD_getElem?, Array.getElem?_setIfInBounds, if_neg this]
theorem aput_eq {v : Value} {t : Nat} (h : t < a.tmps.size) : (a.put (some t) v).tmps.getD t undef = v := by
  rw [getD_put a t t v h, if_pos rfl]

theorem Inv.record (hD : DC ops) (h : Inv X ops L β a w F C I M p bx XV F0) (hq : ops[q]? = some o) (hqp : p.testBit q = false) (hdep : ∀ e, Dep ops q e → p.testBit e = true) (hqu : isQuiet o.op = true)
    {F1 : Fr} (him : ∀ t, SvIm (F t) (F1 t)) {x : SV} {bx' : List Nat} (hbx : ∀ s ∈ bx, s ∈ bx') (hr : (Runs ops o F1 ∧ V_q X o.op (evr F1) C I M (fun y => y = x) False ∧ ∀ t y, o.op = .load t y → spotS (evr F1 y) ∈ bx') ∨ (Skips ops o F1 ∧ x = .val undef)) :
    Inv X ops L β a w (put o.dst x F1) C I M (p ||| 2 ^ q) bx' (fun i => if i = q then x else XV i) (fun i => if i = q then F1 else F0 i) := by
  have hqL : ¬ L q := fun e => by have := h.sub q e; rw [hqp] at this; cases this
  have pd : ∀ {i}, Pd L (p ||| 2 ^ q) i → i ≠ q → Pd L p i := fun hi hne => ⟨(bit_or.1 hi.1).resolve_right hne, hi.2⟩
  have pd' : ∀ {i}, Pd L p i → Pd L (p ||| 2 ^ q) i := fun hi => ⟨bit_or.2 (.inl hi.1), hi.2⟩
  have pdq : Pd L (p ||| 2 ^ q) q := ⟨bit_or.2 (.inr rfl), hqL⟩
  have noself : ∀ {i}, Pd L p i → ¬ Bef ops q i := fun {i} hi hb => by
    have := hb.mem h.cP (fun e he => h.cP i e hi.1 he)
    rw [hqp] at this
    cases this
  refine ⟨h.rel, fun i hi => bit_or.2 (.inl (h.sub i hi)), h.cL, ?_, ?_, ?_⟩
  · intro j e hj he
    rcases bit_or.1 hj with hj | rfl
    · exact bit_or.2 (.inl (h.cP j e hj he))
    · exact bit_or.2 (.inl (hdep e he))
  · intro t ht
    have h1 : o.dst ≠ some t := fun e => ht q pdq (by rw [dstAt_of hq, e])
    rw [put_ne h1]
    exact him t _ _ (h.T t fun i hi => ht i (pd' hi))
  · intro i hi
    by_cases hiq : i = q
    · subst hiq
      refine ⟨o, hq, ⟨hqu, ?_, ?_, ?_, ?_⟩⟩
      · intro d hd
        rw [hd, put_eq]
        simp only [if_pos]
        exact .refl _
      · intro t ht j hj hb hdj
        have hji : j ≠ i := fun e => by
          subst e
          have := hb.mem h.cP hdep
          rw [hqp] at this
          cases this
        simp only [if_neg hji, if_pos]
        obtain ⟨oj, hoj, hpq⟩ := h.pq j (pd hj hji)
        exact (hpq.im t (by rw [← dstAt_of hoj]; exact hdj)).trans (him t)
      · intro t ht hno
        simp only [if_pos]
        refine him t _ _ (h.T t fun j hj hdj => hno j (pd' hj) (Inv.ahead hD h.cP hq hqp hj.1 ht hdj) hdj)
      · simpa using hr
    · obtain ⟨oi, hoi, hpq⟩ := h.pq i (pd hi hiq)
      refine ⟨oi, hoi, ⟨hpq.quiet, ?_, ?_, ?_, ?_⟩⟩
      · intro d hd
        simp only [if_neg hiq]
        rw [put_ne (hD.dd i q oi o d hiq hoi hq hd)]
        exact (hpq.im d hd).trans (him d)
      · intro t ht j hj hb hdj
        have hjq : j ≠ q := fun e => by subst e; exact noself (pd hi hiq) hb
        simp only [if_neg hiq, if_neg hjq]
        exact hpq.b t ht j (pd hj hjq) hb hdj
      · intro t ht hno
        simp only [if_neg hiq]
        exact hpq.a t ht fun j hj => hno j (pd' hj)
      · simp only [if_neg hiq]
        exact hpq.r.imp (fun ⟨h1, h2, h3⟩ => ⟨h1, h2, fun t x e1 => hbx _ (h3 t x e1)⟩) id

theorem Inv.exec {K' : Act → World → Prop} {Q : Exit → Act → World → Prop} (hE : EOK X.P X.E) (hD : DC ops) (hdn : ∀ d, o.dst = some d → d < X.n) (h : Inv X ops L β a w F C I M p bx XV F0) (hq : ops[q]? = some o) (hp : Pd L p q) (hrd : ∀ e, Dep ops q e → L e)
    (hK : ∀ a', Inv X ops (fun i => L i ∨ i = q) β a' w F C I M p bx XV F0 → K' a' w) : wpOpIn (fen X) 0 X.P ops.toArray Q q K' a w := by
  obtain ⟨o', ho', hpq⟩ := h.pq q hp
  rw [hq] at ho'
  cases ho'
  have nobef : ∀ {i}, Bef ops i q → ¬ Pd L p i := fun hb hi => hi.2 (hb.mem h.cL hrd)
  have hA : ∀ t ∈ looks ops o, SVok β (F0 q t) (a.tmps.getD t undef) := fun t ht => hpq.a t ht fun i hi hb => (nobef hb hi).elim
  have after : ∀ v, SVok β (XV q) v → Inv X ops (fun i => L i ∨ i = q) β (a.put o.dst v) w F C I M p bx XV F0 := fun v hv => by
    have pd : ∀ {i}, Pd (fun i => L i ∨ i = q) p i → Pd L p i ∧ i ≠ q := fun hi => ⟨⟨hi.1, fun e => hi.2 (.inl e)⟩, fun e => hi.2 (.inr e)⟩
    have pd' : ∀ {i}, Pd L p i → i ≠ q → Pd (fun i => L i ∨ i = q) p i := fun hi hne => ⟨hi.1, fun e => e.elim hi.2 hne⟩
    refine ⟨h.rel.put hdn (x := .junk) trivial |> fun h => h.refine fun _ => trivial, ?_, ?_, h.cP, ?_, ?_⟩
    · rintro i (hi | rfl)
      · exact h.sub i hi
      · exact hp.1
    · rintro j e (hj | rfl) he
      · exact .inl (h.cL j e hj he)
      · exact .inl (hrd e he)
    · intro t ht
      by_cases hd : o.dst = some t
      · have hlt : t < a.tmps.size := by rw [h.rel.size]; exact hdn t hd
        rw [hd, aput_eq hlt]
        exact hpq.im t hd _ _ hv
      · rw [aput_ne hd]
        refine h.T t fun i hi hdi => ?_
        by_cases hiq : i = q
        · subst hiq; rw [dstAt_of hq] at hdi; exact hd hdi
        · exact ht i (pd' hi hiq) hdi
    · intro i hi
      obtain ⟨hi', hiq⟩ := pd hi
      obtain ⟨oi, hoi, hpi⟩ := h.pq i hi'
      refine ⟨oi, hoi, ⟨hpi.quiet, hpi.im, fun t ht j hj => hpi.b t ht j (pd hj).1, ?_, hpi.r⟩⟩
      intro t ht hno
      by_cases hd : o.dst = some t
      · have hlt : t < a.tmps.size := by rw [h.rel.size]; exact hdn t hd
        rw [hd, aput_eq hlt]
        have hb : Bef ops q i := by
          rcases hD.ord q i o oi t (Ne.symm hiq) hq hoi hd ht with hb | hb
          · exact hb
          · exact (nobef hb hi').elim
        exact hpi.b t ht q hp hb (by rw [dstAt_of hq, hd]) _ _ hv
      · rw [aput_ne hd]
        refine hpi.a t ht fun j hj hb hdj => ?_
        by_cases hjq : j = q
        · subst hjq; rw [dstAt_of hq] at hdj; exact hd hdj
        · exact hno j (pd' hj hjq) hb hdj
  have hidx : ops.toArray[q]? = some o := by simpa using hq
  unfold wpOpIn
  simp only [hidx]
  rcases hpq.r with ⟨hrun, hvq, -⟩ | ⟨hskip, hx⟩
  · rw [wanted_runs hrun hA, if_pos rfl]
    let G : Fr := fun t => if t ∈ looks ops o then F0 q t else .junk
    have hG : ∀ t, SVok β (G t) (a.tmps.getD t undef) := fun t => by
      by_cases ht : t ∈ looks ops o
      · simp only [G, if_pos ht]; exact hA t ht
      · simp only [G, if_neg ht]; trivial
    have hGe : ∀ y ∈ o.op.operands, evr G y = evr (F0 q) y := fun y hy => by
      cases y with
      | tmp t => simp only [evr, G, if_pos (operand_looks hy)]
      | const v => cases v <;> rfl
      | global g => rfl
      | func f => rfl
    have hvq' := V_q_mono hvq hGe (C' := C) (I' := I) (M' := M) fun _ _ _ => ⟨fun _ _ _ => rfl, fun _ _ _ h => h⟩
    obtain ⟨dst, op, ty, pos, aft, guard⟩ := o
    have hnd : ∀ c, op ≠ .defer c := fun c e => by
      have := hpq.quiet
      rw [e] at this
      cases this
    rcases V_q_run hE (h.rel.refine hG) op ty dst pos aft guard hvq' with h1 | ⟨v, x, hrn, hx, rfl⟩
    · exact h1.elim
    · exact wpIn_val hnd hrn (hK _ (after v hx))
  · rw [wanted_skips hskip hA]
    simp only [Bool.false_eq_true, if_false]
    exact ⟨fun _ _ => trivial, hK _ (after undef (by rw [hx]; rfl))⟩
end
section
variable {X : Ctx} {ops : List Oper} {L : Nat → Prop} {β : Nat → Nat} {a : Act} {w : World} {F : Fr} {C : Bx} {I : GH} {M : List Blk} {p : Nat} {bx : List Nat} {XV : Nat → SV} {F0 : Nat → Fr} {q : Nat} {o : Oper}

theorem Inv.refine (h : Inv X ops L β a w F C I M p bx XV F0) {F1 : Fr} (him : ∀ t, SvIm (F t) (F1 t)) : Inv X ops L β a w F1 C I M p bx XV F0 :=
  ⟨h.rel, h.sub, h.cL, h.cP, fun t ht => him t _ _ (h.T t ht), fun i hi => by
    obtain ⟨oi, hoi, hp⟩ := h.pq i hi
    exact ⟨oi, hoi, ⟨hp.quiet, fun d hd => (hp.im d hd).trans (him d), hp.b, hp.a, hp.r⟩⟩⟩

theorem Inv.step (hD : DC ops) (hdn : ∀ d, o.dst = some d → d < X.n) (h : Inv X ops L β a w F C I M p bx XV F0) (hq : ops[q]? = some o) (hqp : p.testBit q = false) (hrd : ∀ e, Dep ops q e → L e)
    {v : Value} {x : SV} {C' : Bx} {I' : GH} {M' : List Blk} {w' : World} (hx : SVok β x v) (hr : RelB X β a w' (fun _ => .junk) C' I' M')
    (hm : ((∀ i oi, Pd L p i → ops[i]? = some oi → isLoad oi.op = false) ∨ (C' = C ∧ farS ∉ bx)) ∨ ((∀ s ∈ bx, C' s = C s) ∧ ∀ b o, Kn I M b o → Kn I' M' b o)) :
    Inv X ops (fun i => L i ∨ i = q) β (a.put o.dst v) w' (put o.dst x F) C' I' M' (p ||| 2 ^ q) bx XV F0 := by
  have pd : ∀ {i}, Pd (fun i => L i ∨ i = q) (p ||| 2 ^ q) i → Pd L p i := fun hi => ⟨(bit_or.1 hi.1).resolve_right (fun e => hi.2 (.inr e)), fun e => hi.2 (.inl e)⟩
  have pd' : ∀ {i}, Pd L p i → Pd (fun i => L i ∨ i = q) (p ||| 2 ^ q) i := fun {i} hi => ⟨bit_or.2 (.inl hi.1), fun e => e.elim hi.2 (fun e => by
    subst e
    have := hi.1
    rw [hqp] at this
    cases this)⟩
  refine ⟨hr.put hdn (x := .junk) trivial |> fun h => h.refine fun _ => trivial, ?_, ?_, ?_, ?_, ?_⟩
  · rintro i (hi | rfl)
    · exact bit_or.2 (.inl (h.sub i hi))
    · exact bit_or.2 (.inr rfl)
  · rintro j e (hj | rfl) he
    · exact .inl (h.cL j e hj he)
    · exact .inl (hrd e he)
  · intro j e hj he
    rcases bit_or.1 hj with hj | rfl
    · exact bit_or.2 (.inl (h.cP j e hj he))
    · exact bit_or.2 (.inl (h.sub e (hrd e he)))
  · intro t ht
    by_cases hd : o.dst = some t
    · have hlt : t < a.tmps.size := by rw [h.rel.size]; exact hdn t hd
      rw [hd, aput_eq hlt, put_eq]
      exact hx
    · rw [aput_ne hd, put_ne hd]
      exact h.T t fun i hi => ht i (pd' hi)
  · intro i hi
    have hi' := pd hi
    obtain ⟨oi, hoi, hpi⟩ := h.pq i hi'
    have hiq : i ≠ q := fun e => by
      subst e
      have := hi'.1
      rw [hqp] at this
      cases this
    refine ⟨oi, hoi, ⟨hpi.quiet, ?_, fun t ht j hj => hpi.b t ht j (pd hj), ?_, ?_⟩⟩
    · intro d hd
      rw [put_ne (hD.dd i q oi o d hiq hoi hq hd)]
      exact hpi.im d hd
    · intro t ht hno
      have hd : o.dst ≠ some t := fun hd => by
        rcases hD.ord q i o oi t (Ne.symm hiq) hq hoi hd ht with hb | hb
        · have := hb.mem h.cP (fun e he => h.cP i e hi'.1 he)
          rw [hqp] at this
          cases this
        · exact hi'.2 (hb.mem h.cL hrd)
      rw [aput_ne hd]
      exact hpi.a t ht fun j hj => hno j (pd' hj)
    · refine hpi.r.imp (fun ⟨h1, h2, h3⟩ => ⟨h1, V_q_mono h2 (fun _ _ => rfl) fun t x hl => ?_, h3⟩) id
      rcases hm with (hm | ⟨rfl, hm⟩) | hm
      · have := hm i oi hi' hoi
        rw [hl] at this
        cases this
      · refine ⟨fun _ _ _ => rfl, fun hne => (hm ?_).elim⟩
        have h4 := h3 t x hl
        generalize evr (F0 i) x = sv at h4 hne
        cases sv with
        | ref s off => exact (hne s off rfl).elim
        | _ => exact h4
      · refine ⟨fun s off e => hm.1 s ?_, fun _ => hm.2⟩
        have h4 := h3 t x hl
        rw [e] at h4
        exact h4

/-- The machine and the demand, in step but for what only reads. -/
def SimAt (X : Ctx) (ops : List Oper) (K : KS) (L : Nat → Prop) (a : Act) (w : World) : Prop :=
  ∃ β F C I M p bx XV F0 n, Inv X ops L β a w F C I M p bx XV F0 ∧ Vd X ops n p bx F C I M K

theorem mem_readyK {k : Bool} {i : Nat} : i ∈ readyK ops p k ↔ ∃ o, ops[i]? = some o ∧ p.testBit i = false ∧ isQuiet o.op = k ∧ (∀ e, Dep ops i e → p.testBit e = true) := by
  unfold readyK
  rw [List.mem_filter, List.mem_range]
  have dep : ∀ {o}, ops[i]? = some o → (dOk o p = true ↔ ∀ e, Dep ops i e → p.testBit e = true) := fun {o} ho => by
    unfold dOk
    rw [List.all_eq_true]
    constructor
    · rintro h e ⟨o', ed, ho', hed, hb, rfl⟩
      rw [ho] at ho'
      cases ho'
      have := h ed (by simpa using hed)
      rw [hb] at this
      simpa using this
    · intro h ed hed
      cases hb : Region.binds .any ed with
      | false => simp
      | true => simp [h ed.on ⟨o, ed, ho, by simpa using hed, hb, rfl⟩]
  constructor
  · rintro ⟨hlt, h⟩
    cases ho : ops[i]? with
    | none => rw [ho] at h; cases h
    | some o =>
      rw [ho] at h
      simp only [Bool.and_eq_true, Bool.not_eq_true', beq_iff_eq] at h
      exact ⟨o, rfl, h.1, h.2.1, (dep ho).1 h.2.2⟩
  · rintro ⟨o, ho, h1, h2, h3⟩
    refine ⟨(List.getElem?_eq_some_iff.1 ho).1, ?_⟩
    rw [ho]
    simp only [h1, h2, (dep ho).2 h3, Bool.not_false, beq_self_eq_true, Bool.and_self]

theorem AllL_mem {P : Nat → Prop} : ∀ {l : List Nat}, AllL P l → ∀ i ∈ l, P i
  | [], _, i, hi => by cases hi
  | [j], h, i, hi => by rw [List.mem_singleton] at hi; subst hi; exact h
  | j :: k :: l, h, i, hi => by
    rcases List.mem_cons.1 hi with rfl | hi
    · exact h.1
    · exact AllL_mem (l := k :: l) h.2 i hi

/-- What only reads is asked for at once. -/
theorem bxAdd_le (op : Op) (ρ : Operand → SV) (bx : List Nat) : ∀ s ∈ bx, s ∈ bxAdd op ρ bx := fun s hs => by
  unfold bxAdd
  split
  · exact .tail _ hs
  · exact hs
theorem bxAdd_mem {op : Op} {ρ : Operand → SV} {bx : List Nat} : ∀ t x, op = .load t x → spotS (ρ x) ∈ bxAdd op ρ bx := fun t x e1 => by
  subst e1
  unfold bxAdd
  exact .head _
theorem SimAt.advance (hD : DC ops) {K : KS} : ∀ (n : Nat) {p bx F XV F0}, Inv X ops L β a w F C I M p bx XV F0 → Vd X ops n p bx F C I M K →
    ∃ p bx F XV F0 n, Inv X ops L β a w F C I M p bx XV F0 ∧ readyK ops p true = [] ∧ Vd X ops (n + 1) p bx F C I M K
  | 0, _, _, _, _, _, _, hv => hv.elim
  | n + 1, p, bx, F, XV, F0, hI, hv => by
    cases hr : readyK ops p true with
    | nil => exact ⟨p, bx, F, XV, F0, n, hI, hr, hv⟩
    | cons q l =>
      have hmem : q ∈ readyK ops p true := by rw [hr]; simp
      obtain ⟨o, hq, hqp, hqu, hdep⟩ := mem_readyK.1 hmem
      have hv' := hv
      unfold Vd at hv'
      rw [hr] at hv'
      simp only [hq] at hv'
      obtain ⟨F1, him, ⟨hrun, h1⟩ | ⟨hskip, h1⟩⟩ := Vg_pull hv'
      · obtain ⟨x, h2, h3⟩ := V_q_pull h1
        exact SimAt.advance hD n (hI.record hD hq hqp hdep hqu him (bxAdd_le _ _ _) (.inl ⟨hrun, h3, bxAdd_mem⟩)) h2
      · exact SimAt.advance hD n (hI.record hD hq hqp hdep hqu him (fun _ h => h) (.inr ⟨hskip, rfl⟩)) h1

theorem mem_ready {listed : Array Bool} {i : Nat} (hsz : listed.size = ops.length) : i ∈ Region.ready .any ops.toArray listed ↔ ∃ o, ops[i]? = some o ∧ ¬ listed.getD i false = true ∧ ∀ e, Dep ops i e → listed.getD e false = true := by
  unfold Region.ready
  rw [List.mem_filter, List.mem_range]
  simp only [List.size_toArray, List.getElem?_toArray, Bool.and_eq_true, Bool.not_eq_true']
  have dep : ∀ {o}, ops[i]? = some o → ((o.after.all fun e => !Region.binds .any e || listed.getD e.on false) = true ↔ ∀ e, Dep ops i e → listed.getD e false = true) := fun {o} ho => by
    rw [Array.all_eq_true_iff_forall_mem]
    constructor
    · rintro h e ⟨o', ed, ho', hed, hb, rfl⟩
      rw [ho] at ho'
      cases ho'
      have := h ed hed
      rw [hb] at this
      simpa using this
    · intro h ed hed
      cases hb : Region.binds .any ed with
      | false => simp
      | true => simp [h ed.on ⟨o, ed, ho, hed, hb, rfl⟩]
  have gd : i < ops.length → (listed.getD i true = false ↔ ¬ listed.getD i false = true) := fun hi => by
    have : i < listed.size := by omega
    simp [Array.getD, this]
  constructor
  · rintro ⟨hlt, h1, h2⟩
    cases ho : ops[i]? with
    | none => rw [ho] at h2; cases h2
    | some o =>
      rw [ho] at h2
      exact ⟨o, rfl, (gd hlt).1 h1, (dep ho).1 h2⟩
  · rintro ⟨o, ho, h1, h2⟩
    have hlt := (List.getElem?_eq_some_iff.1 ho).1
    refine ⟨hlt, (gd hlt).2 h1, ?_⟩
    rw [ho]
    exact (dep ho).2 h2

theorem listed_set {listed : Array Bool} {i : Nat} (hi : i < listed.size) : (fun j => (listed.setIfInBounds i true).getD j false = true) = fun j => listed.getD j false = true ∨ j = i := by
  funext j
  simp only [Array.getD_eq_getD_getElem?, Array.getElem?_setIfInBounds, eq_iff_iff]
  by_cases e : i = j
  · subst e; simp [hi]
  · simp only [if_neg e]
    constructor
    · exact .inl
    · rintro (h | h)
      · exact h
      · exact (e h.symm).elim

def todo (ops : List Oper) (listed : Array Bool) : Nat := ((List.range ops.length).filter fun i => !listed.getD i false).length

theorem todo_set {listed : Array Bool} {i : Nat} (hi : i < ops.length) (hsz : listed.size = ops.length) (hn : ¬ listed.getD i false = true) : todo ops (listed.setIfInBounds i true) < todo ops listed := by
  unfold todo
  have key : ∀ l : List Nat, l.Nodup → i ∈ l → ((l.filter fun j => !(listed.setIfInBounds i true).getD j false).length < (l.filter fun j => !listed.getD j false).length) := by
    have same : ∀ j, j ≠ i → (listed.setIfInBounds i true).getD j false = listed.getD j false := fun j hj => by
      simp only [Array.getD_eq_getD_getElem?, Array.getElem?_setIfInBounds, if_neg (Ne.symm hj)]
    have self : (listed.setIfInBounds i true).getD i false = true := by
      have : i < listed.size := by omega
      simp [Array.getD_eq_getD_getElem?, Array.getElem?_setIfInBounds, this]
    have hn' : listed.getD i false = false := by simpa using hn
    intro l
    induction l with
    | nil => intro _ h; cases h
    | cons j l ih =>
      intro hnd hm
      rw [List.nodup_cons] at hnd
      by_cases e : j = i
      · subst e
        have : l.filter (fun k => !(listed.setIfInBounds j true).getD k false) = l.filter (fun k => !listed.getD k false) :=
          List.filter_congr fun k hk => by rw [same k (fun e => hnd.1 (e ▸ hk))]
        simp only [List.filter_cons, self, hn', this]
        simp
      · have hm' : i ∈ l := by
          rcases List.mem_cons.1 hm with h | h
          · exact (e h.symm).elim
          · exact h
        have := ih hnd.2 hm'
        simp only [List.filter_cons, same j e]
        split
        · simp only [List.length_cons]; omega
        · exact this
  exact key _ List.nodup_range (List.mem_range.2 hi)

theorem sim (hE : EOK X.P X.E) (hD : DC ops) (hdn : ∀ o ∈ ops, ∀ d, o.dst = some d → d < X.n) {K : KS} {Q : Exit → Act → World → Prop} (hQ : ∀ a w, Sat X K a w → Q .normal a w) : ∀ (fuel : Nat) (listed : Array Bool) (a : Act) (w : World),
    listed.size = ops.length → todo ops listed ≤ fuel → SimAt X ops K (fun i => listed.getD i false = true) a w → wpAnyIn (fen X) 0 X.P .any ops.toArray Q fuel listed a w := by
  intro fuel
  induction fuel with
  | zero =>
    rintro listed a w hsz hf ⟨β, F, C, I, M, p, bx, XV, F0, n, hI, hv⟩
    have hnil : Region.ready .any ops.toArray listed = [] := by
      cases hr : Region.ready .any ops.toArray listed with
      | nil => rfl
      | cons i l =>
        obtain ⟨o, ho, hn, _⟩ := (mem_ready hsz).1 (by rw [hr]; simp : i ∈ Region.ready .any ops.toArray listed)
        have := todo_set (List.getElem?_eq_some_iff.1 ho).1 hsz hn
        omega
    refine ⟨hnil, ?_⟩
    obtain ⟨p, bx, F, XV, F0, n, hI, hr1, hv⟩ := SimAt.advance hD n hI hv
    have nop : ∀ i, p.testBit i = true → listed.getD i false = true := fun i => by
      induction i using Nat.strongRecOn with
      | ind i ih =>
        intro hp
        refine Classical.byContradiction fun hn => ?_
        obtain ⟨o, ho, _⟩ := hI.pq i ⟨hp, hn⟩
        have : i ∈ Region.ready .any ops.toArray listed := (mem_ready hsz).2 ⟨o, ho, hn, fun e he => ih e (hD.lt i e he) (hI.cP i e hp he)⟩
        rw [hnil] at this
        cases this
    have hr2 : readyK ops p false = [] := by
      cases hr : readyK ops p false with
      | nil => rfl
      | cons i l =>
        obtain ⟨o, ho, hp, _, hd⟩ := mem_readyK.1 (by rw [hr]; simp : i ∈ readyK ops p false)
        have : i ∈ Region.ready .any ops.toArray listed := (mem_ready hsz).2 ⟨o, ho, fun hh => (by have h7 := hI.sub i hh; rw [hp] at h7; exact Bool.noConfusion h7), fun e he => nop e (hd e he)⟩
        rw [hnil] at this
        cases this
    unfold Vd at hv
    rw [hr1, hr2] at hv
    exact hQ _ _ ⟨F, C, I, M, ⟨β, hI.rel.refine fun t => hI.T t fun i hi => (hi.2 (nop i hi.1)).elim⟩, hv⟩
  | succ fuel ih =>
    rintro listed a w hsz hf ⟨β, F, C, I, M, p, bx, XV, F0, n, hI, hv⟩
    obtain ⟨p, bx, F, XV, F0, n, hI, hr1, hv⟩ := SimAt.advance hD n hI hv
    refine ⟨fun hnil => ?_, fun q hq => ?_⟩
    · have nop : ∀ i, p.testBit i = true → listed.getD i false = true := fun i => by
        induction i using Nat.strongRecOn with
        | ind i ih =>
          intro hp
          refine Classical.byContradiction fun hn => ?_
          obtain ⟨o, ho, _⟩ := hI.pq i ⟨hp, hn⟩
          have : i ∈ Region.ready .any ops.toArray listed := (mem_ready hsz).2 ⟨o, ho, hn, fun e he => ih e (hD.lt i e he) (hI.cP i e hp he)⟩
          rw [hnil] at this
          cases this
      have hr2 : readyK ops p false = [] := by
        cases hr : readyK ops p false with
        | nil => rfl
        | cons i l =>
          obtain ⟨o, ho, hp, _, hd⟩ := mem_readyK.1 (by rw [hr]; simp : i ∈ readyK ops p false)
          have : i ∈ Region.ready .any ops.toArray listed := (mem_ready hsz).2 ⟨o, ho, fun hh => (by have h7 := hI.sub i hh; rw [hp] at h7; exact Bool.noConfusion h7), fun e he => nop e (hd e he)⟩
          rw [hnil] at this
          cases this
      unfold Vd at hv
      rw [hr1, hr2] at hv
      exact hQ _ _ ⟨F, C, I, M, ⟨β, hI.rel.refine fun t => hI.T t fun i hi => (hi.2 (nop i hi.1)).elim⟩, hv⟩
    · obtain ⟨o, ho, hn, hd⟩ := (mem_ready hsz).1 hq
      have hlt := (List.getElem?_eq_some_iff.1 ho).1
      have hdo := hdn o (List.mem_of_getElem? ho)
      have hset := listed_set (listed := listed) (i := q) (by omega)
      have next : ∀ a' w', SimAt X ops K (fun i => listed.getD i false = true ∨ i = q) a' w' → wpAnyIn (fen X) 0 X.P .any ops.toArray Q fuel (listed.setIfInBounds q true) a' w' := fun a' w' h => by
        refine ih _ a' w' (by simpa using hsz) ?_ (by rw [hset]; exact h)
        have := todo_set hlt hsz hn
        omega
      cases hqp : p.testBit q with
      | true =>
        exact hI.exec hE hD hdo ho ⟨hqp, hn⟩ hd fun a' h => next a' w ⟨β, F, C, I, M, p, bx, XV, F0, n + 1, h, hv⟩
      | false =>
        have hdp : ∀ e, Dep ops q e → p.testBit e = true := fun e he => hI.sub e (hd e he)
        have hnq : isQuiet o.op = false := by
          cases hqq : isQuiet o.op with
          | false => rfl
          | true =>
            have : q ∈ readyK ops p true := mem_readyK.2 ⟨o, ho, hqp, hqq, hdp⟩
            rw [hr1] at this
            cases this
        have hmem : q ∈ readyK ops p false := mem_readyK.2 ⟨o, ho, hqp, hnq, hdp⟩
        unfold Vd at hv
        rw [hr1] at hv
        simp only at hv
        split at hv
        · rename_i hr2
          rw [hr2] at hmem
          cases hmem
        · rename_i i0 l0 hr2
          rw [hr2] at hmem
          have hb := AllL_mem hv q hmem
          simp only [ho] at hb
          obtain ⟨F1, him, hb⟩ := Vg_pull hb
          have hI1 := hI.refine him
          have hlk := hI1.looksOk hD ho hqp hd
          have hidx : ops.toArray[q]? = some o := by simpa using ho
          unfold wpOpIn
          simp only [hidx]
          rcases hb with ⟨hrun, hb⟩ | ⟨hskip, hb⟩
          · rw [wanted_runs hrun hlk, if_pos rfl]
            cases hsolo : soloB ((befL ops).getD q 0) p with
            | true =>
              rw [hsolo] at hb
              simp only [V_de, cond_true] at hb
              have hall : ∀ i, p.testBit i = true → listed.getD i false = true := fun i hi => by
                have h1 := Nat.eq_of_beq_eq_true hsolo
                have h2 : (p &&& (befL ops).getD q 0).testBit i = true := by rw [h1]; exact hi
                rw [Nat.testBit_and, Bool.and_eq_true] at h2
                exact (bef_of_bit h2.2).mem hI.cL hd
              have hR : Rel X a w F1 C I M := ⟨β, hI1.rel.refine fun t => hI1.T t fun i hi => (hi.2 (hall i hi.1)).elim⟩
              refine Oper.wpIn_mono (fun a' w' => ?_) (V_op_sound hE hdo hR hb)
              rintro ⟨F', C', I', M', ⟨β', hr'⟩, hk⟩
              have nopd : ∀ i, ¬ Pd (fun i => listed.getD i false = true ∨ i = q) (p ||| 2 ^ q) i := fun i hi => by
                rcases bit_or.1 hi.1 with h1 | h1
                · exact hi.2 (.inl (hall i h1))
                · exact hi.2 (.inr h1)
              refine next a' w' ⟨β', F', C', I', M', p ||| 2 ^ q, bx, XV, F0, n, ⟨hr'.refine fun _ => trivial, ?_, ?_, ?_, fun t _ => hr'.fr t, fun i hi => (nopd i hi).elim⟩, hk⟩
              · rintro i (hi | rfl)
                · exact bit_or.2 (.inl (hI.sub i hi))
                · exact bit_or.2 (.inr rfl)
              · rintro j e (hj | rfl) he
                · exact .inl (hI.cL j e hj he)
                · exact .inl (hd e he)
              · intro j e hj he
                rcases bit_or.1 hj with hj | rfl
                · exact bit_or.2 (.inl (hI.cP j e hj he))
                · exact bit_or.2 (.inl (hdp e he))
            | false =>
              rw [hsolo] at hb
              let G : Fr := fun t => if t ∈ looks ops o then F1 t else .junk
              have hG : ∀ t, SVok β (G t) (a.tmps.getD t undef) := fun t => by
                by_cases ht : t ∈ looks ops o
                · simp only [G, if_pos ht]; exact hlk t ht
                · simp only [G, if_neg ht]; trivial
              have hGe : ∀ y ∈ o.op.operands, evr G y = evr F1 y := fun y hy => by
                cases y with
                | tmp t => simp only [evr, G, if_pos (operand_looks hy)]
                | const v => cases v <;> rfl
                | global g => rfl
                | func f => rfl
              refine Oper.wpIn_mono (fun a' w' => ?_) (eff_sound hE (hI1.rel.refine hG) hGe hb)
              rintro ⟨v, x, C', I', M', rfl, hx, hr', hk, hm⟩
              refine next _ _ ⟨β, _, C', I', M', p ||| 2 ^ q, bx, XV, F0, n, hI1.step hD hdo ho hqp hd hx (hr'.refine fun _ => trivial) ?_, hk⟩
              rcases hm with ⟨hso, hkeep⟩ | ⟨rfl, hkn⟩
              rotate_left
              · exact .inr ⟨fun _ _ => rfl, hkn⟩
              rcases (Bool.or_eq_true _ _).mp hso with hsoft | hbox'
              rotate_left
              · rcases (Bool.or_eq_true _ _).mp hbox' with hbox | hfar
                rotate_left
                · refine .inl (.inr ?_)
                  unfold farB at hfar
                  split at hfar
                  · rename_i t0 x0 y0 e0
                    split at hfar
                    · rename_i ad0 e1
                      exact ⟨hkeep.2 _ _ _ _ e0 e1, by simpa using hfar⟩
                    · cases hfar
                  · cases hfar
                right
                unfold boxB at hbox
                split at hbox
                · rename_i t0 x0 y0 e0
                  split at hbox
                  · rename_i s0 off0 e1
                    obtain ⟨k1, k2⟩ := hkeep.1 _ _ _ _ _ e0 e1
                    refine ⟨fun s' hs' => k1 s' fun e => ?_, k2⟩
                    rw [e] at hs'
                    simp [hs'] at hbox
                  · cases hbox
                · cases hbox
              refine .inl (.inl fun i oi hi hoi => ?_)
              have h1 := List.all_eq_true.1 hsoft i (List.mem_range.2 (List.getElem?_eq_some_iff.1 hoi).1)
              rw [hi.1, hoi] at h1
              simp only [Bool.not_true, Bool.false_or, Bool.or_eq_true, Bool.not_eq_true'] at h1
              rcases h1 with h1 | h1
              · exact (hi.2 ((bef_of_bit h1).mem hI.cL hd)).elim
              · exact h1
          · rw [wanted_skips hskip hlk]
            simp only [Bool.false_eq_true, if_false]
            refine ⟨fun _ _ => trivial, next _ _ ⟨β, _, C, I, M, p ||| 2 ^ q, bx, XV, F0, n, hI1.step hD hdo ho hqp hd (x := .val undef) rfl hI1.rel (.inr ⟨fun _ _ => rfl, fun _ _ h => h⟩), hb⟩⟩
end

/-- **A statement whose order Go leaves open.** -/
theorem CodeOb.draw {X : Ctx} {id : Nat} {A : Array Oper} {F : Fr} {C : Bx} {I : GH} {M : List Blk} {K : KX} (hE : EOK X.P X.E) (hm : X.P.follows .mixedOrders = true) (hc : drawChk A.toList = true) (hn : opsOk X.n A = true)
    (h : Vd X A.toList (A.size + 1) 0 [] F C I M (K .normal)) : CodeOb X (.region id A true) F C I M K := by
  refine ⟨fun a w ⟨β, hR⟩ => wpIn_region_any hm ?_⟩
  have hR' : RelB X β a { w with drawn := w.drawn + 1 } F C I M := hR.world rfl
  have hL : ∀ i, (Array.replicate A.size false).getD i false = false := fun i => by
    by_cases hi : i < A.size <;> simp [Array.getD_eq_getD_getElem?, hi]
  have hnl : ∀ {i}, ¬ (Array.replicate A.size false).getD i false = true := fun {i} => by rw [hL]; simp
  have key := sim (K := K .normal) (Q := SatX X K) hE (dc_of_chk hc) (opsOk_spec hn) (fun _ _ h => h) A.size (Array.replicate A.size false) a { w with drawn := w.drawn + 1 } (by simp) ?_
    ⟨β, F, C, I, M, 0, [], fun _ => .junk, fun _ _ => .junk, A.size + 1, ⟨hR'.refine fun _ => trivial, fun i hi => (hnl hi).elim, fun j e hj => (hnl hj).elim, fun j e hj => by simp at hj, fun t _ => hR'.fr t, fun i hi => by simp [Pd] at hi⟩, h⟩
  · simpa using key
  · unfold todo
    refine Nat.le_trans (List.length_filter_le _ _) (by simp)
/-- The same; the ways meet behind the region. -/
theorem CodeOb.drawC {X : Ctx} {id : Nat} {A : Array Oper} {F : Fr} {C : Bx} {I : GH} {M : List Blk} {K : KX} (hE : EOK X.P X.E) (hm : X.P.follows .mixedOrders = true) (hc : drawChk A.toList = true) (hn : opsOk X.n A = true)
    {ι : Type} (st : ι → LP) (inv : ι → Prop) (hv : Vd X A.toList (A.toList.length + 1) 0 [] F C I M (InvAt X.foot st inv)) (rest : ∀ i, inv i → K .normal (ofF (st i).fl) (ofC (st i).cl) (st i).gi (st i).mi) : CodeOb X (.region id A true) F C I M K := by
  obtain ⟨h⟩ := CodeOb.draw (K := fun e => match e with
    | .normal => InvAt X.foot st inv
    | e => K e) hE hm hc hn hv
  refine ⟨fun a w hR => wpIn_mono (h a w hR) ?_⟩
  intro e a w hs
  cases e with
  | normal =>
    obtain ⟨F', C', I', M', ⟨β, hr⟩, ⟨j, hpj, hw, hF, hC⟩⟩ := hs
    exact ⟨_, _, _, _, ⟨β, (hr.base hF hC).wk hw⟩, rest j hpj⟩
  | _ => exact hs
end Go.V

/-
  Scopes with labels: a demand for the jumps back.
-/
set_option linter.unusedVariables false
set_option linter.unusedSimpArgs false
namespace Go.V
open Go

theorem wpIn_scope_rel {Fe : Fence} {n : Nat} {P : Program} {Q : Exit → Act → World → Prop} {a : Act} {w : World} {c : Code} (J : Nat → Nat → Act → World → Prop)
    (first : c.wpIn Fe n P (fun e a' w' => match e with
      | .goto l => ∃ m, J l m a' w'
      | e => Q e a' w') a w)
    (pass : ∀ l m a w, J l m a w → ∃ rest, findLabel c l = some rest ∧ rest.wpIn Fe n P (fun e a' w' => match e with
      | .goto l' => ∃ m', m' < m ∧ J l' m' a' w'
      | e => Q e a' w') a w) : (Code.scope c).wpIn Fe n P Q a w := by
  intro b k cs hro hb hr
  have s0 : step P (lone (b.atR a (.code (.scope c) :: k)) cs w) = .next (lone (b.atR a (.code c :: .inScope c :: k)) cs w) :=
    step_lone_go (by simp [stepG, stepG.exec, Frame.atR])
  have s1 : ∀ a w, step P (lone (b.atR a (.inScope c :: k)) cs w) = .next (lone (b.atR a k) cs w) := fun a w =>
    step_lone_go (by simp [stepG, stepG.exec, Frame.atR])
  have hx : ∀ id, exitTo id (.inScope c :: k) = exitTo id k := fun id => by simp [exitTo]
  have fin : ∀ {m : Machine} {e : Exit} {a₁ : Act} {w₁ : World}, (∀ l, e ≠ .goto l) → ArrivesIn (Machine.fenced P Fe) P m b (.inScope c :: k) cs e a₁ w₁ → ArrivesIn (Machine.fenced P Fe) P m b k cs e a₁ w₁ := by
    intro m e a₁ w₁ hne harr
    cases e with
    | normal => exact StepsIn.trans harr (.one (fenced_calm hb hr rfl) (s1 _ _))
    | exit id => exact ⟨fun k' hk => harr.1 k' (by rw [hx]; exact hk), fun hr' hk => harr.2 hr' (by rw [hx]; exact hk)⟩
    | goto l => exact (hne l rfl).elim
    | ret => exact harr
    | panic ch => exact harr
    | outgrown => exact harr
  have key : ∀ m l a w, J l m a w → ∀ rest, findLabel c l = some rest → ∃ e a' w', Q e a' w' ∧ ArrivesIn (Machine.fenced P Fe) P (lone (b.atR a (.code rest :: .inScope c :: k)) cs w) b k cs e a' w' := by
    intro m
    induction m using Nat.strongRecOn with
    | _ m ih =>
      intro l a w hJ rest hrest
      obtain ⟨rest', hf, hw⟩ := pass l m a w hJ
      rw [hrest] at hf
      cases hf
      obtain ⟨e, a₁, w₁, hq, harr⟩ := hw b (.inScope c :: k) cs hro hb hr
      cases e with
      | goto l' =>
        obtain ⟨m', hlt, hJ'⟩ := hq
        obtain ⟨rest', hf', _⟩ := pass l' m' a₁ w₁ hJ'
        have hg : gotoIn l' (.inScope c :: k) = some (.code rest' :: .inScope c :: k) := by simp [gotoIn, hf']
        obtain ⟨e₂, a₂, w₂, hq₂, harr₂⟩ := ih m' hlt l' a₁ w₁ hJ' rest' hf'
        exact ⟨e₂, a₂, w₂, hq₂, .of_steps (harr.1 _ hg) harr₂⟩
      | normal => exact ⟨_, a₁, w₁, hq, fin (by simp) harr⟩
      | exit id => exact ⟨_, a₁, w₁, hq, fin (by simp) harr⟩
      | ret => exact ⟨_, a₁, w₁, hq, fin (by simp) harr⟩
      | panic ch => exact ⟨_, a₁, w₁, hq, fin (by simp) harr⟩
      | outgrown => exact ⟨_, a₁, w₁, hq, fin (by simp) harr⟩
  have h0 : (lone (b.atR a (.code (.scope c) :: k)) cs w).fenced P Fe := fenced_calm hb hr rfl
  obtain ⟨e, a₁, w₁, hq, harr⟩ := first b (.inScope c :: k) cs hro hb hr
  cases e with
  | goto l' =>
    obtain ⟨m', hJ'⟩ := hq
    obtain ⟨rest', hf', _⟩ := pass l' m' a₁ w₁ hJ'
    have hg : gotoIn l' (.inScope c :: k) = some (.code rest' :: .inScope c :: k) := by simp [gotoIn, hf']
    obtain ⟨e₂, a₂, w₂, hq₂, harr₂⟩ := key m' l' a₁ w₁ hJ' rest' hf'
    exact ⟨e₂, a₂, w₂, hq₂, .of_steps (.head h0 s0 (harr.1 _ hg)) harr₂⟩
  | normal => exact ⟨_, a₁, w₁, hq, .of_steps (.one h0 s0) (fin (by simp) harr)⟩
  | exit id => exact ⟨_, a₁, w₁, hq, .of_steps (.one h0 s0) (fin (by simp) harr)⟩
  | ret => exact ⟨_, a₁, w₁, hq, .of_steps (.one h0 s0) (fin (by simp) harr)⟩
  | panic ch => exact ⟨_, a₁, w₁, hq, .of_steps (.one h0 s0) (fin (by simp) harr)⟩
  | outgrown => exact ⟨_, a₁, w₁, hq, .of_steps (.one h0 s0) (fin (by simp) harr)⟩

/-- As K; by a jump: as N says. -/
def scK (N : Nat → KS) (K : KX) : KX
  | .goto l => N l
  | e => K e

theorem CodeOb.scope {X : Ctx} {c : Code} {F : Fr} {C : Bx} {I : GH} {M : List Blk} {K : KX} (hE : EOK X.P X.E) (hok : codeOk X.n c = true) {ι : Type} (st : ι → LP) (lab : ι → Nat) (inv : ι → Prop) (μ : ι → Nat) (rest : Nat → Code)
    (hrest : ∀ i, inv i → findLabel c (lab i) = some (rest (lab i)) ∧ codeOk X.n (rest (lab i)) = true)
    (first : V X c F C I M (scK (fun l => InvAt X.foot st fun j => inv j ∧ lab j = l) K))
    (pass : ∀ i, inv i → V X (rest (lab i)) (ofF (st i).fl) (ofC (st i).cl) (st i).gi (st i).mi (scK (fun l => InvAt X.foot st fun j => (inv j ∧ lab j = l) ∧ μ j < μ i) K)) :
    CodeOb X (.scope c) F C I M K := by
  refine ⟨fun a w hR => ?_⟩
  let J (l m : Nat) (a : Act) (w : World) : Prop := ∃ i, inv i ∧ lab i = l ∧ μ i = m ∧ Rel X a w (ofF (st i).fl) (ofC (st i).cl) (st i).gi (st i).mi
  have toJ : ∀ {p : ι → Prop} {l : Nat} {a w}, (∀ i, p i → inv i ∧ lab i = l) → Sat X (InvAt X.foot st p) a w → ∃ i, p i ∧ J l (μ i) a w := by
    rintro p l a w hp ⟨F, C, I, M, ⟨β, hr⟩, ⟨j, hpj, hw, hF, hC⟩⟩
    exact ⟨j, hpj, j, (hp j hpj).1, (hp j hpj).2, rfl, β, (hr.base hF hC).wk hw⟩
  refine wpIn_scope_rel J (wpIn_mono (V_sound hE c hok hR first) ?_) ?_
  · intro e a w h
    cases e with
    | goto l =>
      obtain ⟨j, hj, hJ⟩ := toJ (p := fun j => inv j ∧ lab j = l) (l := l) (fun _ h => h) h
      exact ⟨_, hJ⟩
    | _ => exact h
  · rintro l m a w ⟨i, hi, rfl, rfl, hr⟩
    obtain ⟨h1, h2⟩ := hrest i hi
    refine ⟨_, h1, wpIn_mono (V_sound hE _ h2 hr (pass i hi)) ?_⟩
    intro e a w h
    cases e with
    | goto l' =>
      obtain ⟨j, hj, hJ⟩ := toJ (p := fun j => (inv j ∧ lab j = l') ∧ μ j < μ i) (l := l') (fun _ h => h.1) h
      exact ⟨_, hj.2, hJ⟩
    | _ => exact h
end Go.V

/-
  A range over a function: the iterator's contract, the rounds, the statement.
-/
set_option linter.unusedVariables false
set_option linter.unusedSimpArgs false
namespace Go.V
open Go

/-- What a call of yield does: a round. -/
def SpecY (P : Program) (l : Nat) (args : List Value) (I : GH) (M : List Blk) (post : Value → GH → List Blk → Prop) : Prop :=
  ∀ w, Holds I M w → ∃ f tmps assign body, (Instr.yield l args.toArray).run P w = .ok (.round l f tmps assign body) w ∧
    RoundIn Fence.wide 0 P l f tmps assign body w fun e w' => ∃ v I' M', e = .returned v ∧ post v I' M' ∧ Holds I' M' w' ∧ Kept I M w I' M' w'

inductive CallObY (P : Program) (l : Nat) (args : List Value) (I : GH) (M : List Blk) (K : Value → GH → List Blk → Prop) : Prop
  | mk (Mc Mr : List Blk) (post : Value → GH → List Blk → Prop) (hM : M.Perm (Mc ++ Mr)) (hs : SpecY P l args I Mc post)
    (k : ∀ v I' M', (∀ b o, I b = some o → I' b = some o) → post v I' M' → K v I' (M' ++ Mr))

theorem OtherOb.yield {X : Ctx} {o : Oper} {F : Fr} {C : Bx} {I : GH} {M : List Blk} {K : KS} {f : Operand} {args : Array Operand} {ts : Array TypeId} {l : Nat} {vs : List Value} (ho : o.op = .call { callee := .value f, args, argTypes := ts })
    (hd : ∀ d, o.dst = some d → d < X.n) (hf : ev F f = .val (.func (.yield l) #[] #[])) (hvs : evs F args.toList = some vs)
    (h : CallObY X.P l vs I M fun v I' M' => K (put o.dst (.val v) F) C I' M') : OtherOb X o F C I M K := by
  refine ⟨fun a w Q ⟨β, hR⟩ => ?_⟩
  obtain ⟨Mc, Mr, post, hM, hs, hk⟩ := h
  obtain ⟨fn, tmps, assign, body, hy, hr⟩ := hs w (hR.holds.part hM)
  have e1 := evs_ok hR.fr hvs
  have e1' : args.map a.eval = vs.toArray := by apply Array.ext'; simpa using e1
  have e2 := eval_of_ev hR.fr hf
  obtain ⟨dst, op, ty, pos, after, guard⟩ := o
  simp only at ho
  subst ho
  refine ⟨fun _ _ => trivial, ?_⟩
  rw [Oper.semAt_eq _ _ _ (by simp)]
  have hrun : (execOp a.eval ⟨dst, .call { callee := .value f, args, argTypes := ts }, ty, pos, after, guard⟩).run X.P w = .ok (.round l fn tmps assign body) w := by
    simp only [execOp, resolve, e2, Deferred.ofValue, Sem.run_bind, Sem.run_pure, Result.andThen_ok, e1', invoke]
    simpa using hy
  rw [hrun, Oper.uponIn_round]
  refine ⟨(fun h => by cases h), ?_⟩
  have hr' : RoundIn (fen X) (0 - 1) X.P l fn tmps assign body w _ := hr
  refine hr'.mono ?_
  rintro e w' ⟨v, I', M', rfl, hp, hH', hK⟩
  exact ⟨_, _, _, _, ⟨β, (hR.after hM hH' hK).put (x := .val v) hd rfl⟩, hk v I' M' hK.le hp⟩

/-- **An iterator's contract**: it hands over these values, one after the other, and reads no more than what it is told of. -/
def Iter (P : Program) (g : Nat) (cap : List Value) (I : GH) (vals : List (List Value)) : Prop :=
  ∀ (l : Nat) (R : Nat → GH → List Blk → Prop) (Rx : GH → List Blk → Prop),
    (∀ k (hk : k < vals.length) I' M', (∀ b o, I b = some o → I' b = some o) → R k I' M' → SpecY P l vals[k] I' M' fun v I'' M'' => (v = .bool true ∧ R (k + 1) I'' M'') ∨ (v = .bool false ∧ Rx I'' M'')) →
    ∀ I0 M0, (∀ b o, I b = some o → I0 b = some o) → R 0 I0 M0 → SpecE P g (.func (.yield l) #[] #[] :: cap) I0 M0 fun _ I' M' => R vals.length I' M' ∨ Rx I' M'

def putAll : List Nat → List Value → Fr → Fr
  | t :: ps, v :: vs, F => putAll ps vs (upd F t (.val v))
  | _, _, F => F

def rK (foot : List Nat) (N : GH → List Blk → Prop) (Rx : Ex → GH → List Blk → Prop) : KX := fun ex F C I M => match ex with
  | .normal => RetOb foot I M N
  | ex => RetOb foot I M (Rx ex)

def codeOf : Ex → Option Code
  | .normal => none
  | .exit id => some (.exit id)
  | .goto l => some (.goto l)
  | .ret => some .ret

section
variable {X : Ctx} {β : Nat → Nat} {a : Act} {w : World} {F : Fr} {C : Bx} {I : GH} {M : List Blk}

theorem putAll_ok : ∀ (ps : List Nat) (vs : List Value) (F : Fr) (tmps : Array Value), (∀ t ∈ ps, t < tmps.size) → (∀ t, SVok β (F t) (tmps.getD t undef)) →
    let r := (ps.zip vs).foldl (fun (tmps : Array Value) (p : Nat × Value) => tmps.setIfInBounds p.1 p.2) tmps
    r.size = tmps.size ∧ ∀ t, SVok β (putAll ps vs F t) (r.getD t undef)
  | [], vs, F, tmps, _, h => ⟨rfl, h⟩
  | t :: ps, [], F, tmps, _, h => ⟨rfl, h⟩
  | t :: ps, v :: vs, F, tmps, hp, h => by
    have h1 : ∀ s, SVok β (upd F t (.val v) s) ((tmps.setIfInBounds t v).getD s undef) := fun s => by
      have := SVok_upd (β := β) (F := F) (a := ⟨tmps, []⟩) h (d := t) (x := .val v) (v := v) (hp t (by simp)) rfl s
      exact this
    have ih := putAll_ok ps vs (upd F t (.val v)) (tmps.setIfInBounds t v) (fun s hs => by simpa using hp s (by simp [hs])) h1
    simp only [List.zip_cons_cons, List.foldl_cons, putAll]
    exact ⟨by simpa using ih.1, ih.2⟩

theorem RelB.alloc_mark (h : RelB X β a w F C I M) : RelB X β { a with defers := markOf w.heap.size :: a.defers } (w.alloc (.deferred (some []))) F C I M where
  size := h.size
  defers := by
    obtain ⟨rs, h1, h2, h3⟩ := h.defers
    refine ⟨w.heap.size :: rs, by simp [h1], ?_, ?_⟩
    · rw [List.nodup_cons]
      refine ⟨fun hm => ?_, h2⟩
      have := (Array.getElem?_eq_some_iff.1 (h3 _ hm).at_).1
      omega
    · intro r hr
      rcases List.mem_cons.1 hr with rfl | hr
      · exact ⟨heapNew w _, h.sz, h.holds.freshI, h.holds.freshM⟩
      · exact (h3 r hr).alloc _
  holds := h.holds.alloc _
  fr := h.fr
  bx s cs hs := (h.bx s cs hs).alloc _
  inj := h.inj
  le0 := h.le0
  new0 := h.new0
  own := h.own
  old := old_alloc h.old h.sz _
  out := h.out
  sz := by have := h.sz; simp; omega

theorem RelB.dropM {n : Nat} {o o' : Obj} (h : RelB X β a w F C I (⟨n, o⟩ :: M)) : RelB X β a (w.putObj n o') F C I M := by
  have hx0 : (⟨n, o⟩ : Blk) ∈ (⟨n, o⟩ : Blk) :: M := by simp
  have hnd := h.holds.nd
  simp only [List.map_cons, List.nodup_cons] at hnd
  exact {
    size := h.size
    defers := h.defers.mono fun r hr => by
      have hne : n ≠ r := hr.noM _ hx0
      refine { hr with at_ := ?_, noM := fun x hx => hr.noM x (by simp [hx]) }
      rw [World.putObj_heap_other (Ne.symm hne)]
      exact hr.at_
    holds := {
      i := fun b o hbo => by
        rw [World.putObj_heap_other (fun e => by have := h.holds.d _ hx0; simp only at this; rw [e, this] at hbo; cases hbo)]
        exact h.holds.i b o hbo
      m := fun x hx => by
        rw [World.putObj_heap_other (fun e => hnd.1 (List.mem_map.2 ⟨x, hx, e⟩))]
        exact h.holds.m x (by simp [hx])
      d := fun x hx => h.holds.d x (by simp [hx])
      nd := hnd.2 }
    fr := h.fr
    bx := fun s cs hs => by
      have hb := h.bx s cs hs
      have hne : n ≠ β s := hb.noM _ hx0
      obtain ⟨T, hT⟩ := hb.at_
      refine { hb with at_ := ⟨T, ?_⟩, noM := fun x hx => hb.noM x (by simp [hx]) }
      rw [World.putObj_heap_other (Ne.symm hne)]
      exact hT
    inj := h.inj
    le0 := h.le0
    new0 := h.new0
    own := fun x hx => h.own x (by simp [hx])
    old := fun b hb hf => by
      rw [World.putObj_heap_other (fun e => by
        rcases h.own _ hx0 with h1 | h1
        · simp only at h1; exact hf (e ▸ h1)
        · simp only at h1; omega)]
      exact h.old b hb hf
    out := h.out.trans (putObj_same _ _ _)
    sz := by have := h.sz; simpa using this }

theorem CodeOb.range {K : KX} {f : Operand} {ps : Array Nat} {asg body : Code} {g : Nat} {cap : Array Value} {vals : List (List Value)} (hE : EOK X.P X.E) (hro : X.ro = none)
    (hok : (codeOk X.n asg && (codeOk X.n body && ps.toList.all (fun t => Nat.blt t X.n))) = true) (hev : ev F f = .val (.func (.func g) #[] cap)) {I1 : GH} {M1 : List Blk} (hwk : Wk X.foot I M I1 M1)
    (hit : Iter X.P g cap.toList I1 vals) (hlen : ∀ vs ∈ vals, vs.length = ps.size)
    (R : Nat → GH → List Blk → Prop) (Rx : Ex → GH → List Blk → Prop) (start : R 0 I1 M1)
    (round : ∀ k (hk : k < vals.length) I' M', (∀ b o, I1 b = some o → I' b = some o) → R k I' M' → ∀ l B h0 h0',
      V ⟨X.P, X.E, X.esc, X.n, B, h0, I', M'.map (·.num), some l⟩ asg (putAll ps.toList vals[k] F) (fun _ => none) I' M'
        (exK (fun F C I M => V ⟨X.P, X.E, X.esc, X.n, B, h0', I', M'.map (·.num), some l⟩ body F C I M (rK (M'.map (·.num)) (R (k + 1)) Rx)) (fun _ _ _ _ _ => False)))
    (done : ∀ I' M', (∀ b o, I1 b = some o → I' b = some o) → R vals.length I' M' → K .normal F C I' M')
    (stop : ∀ ex I' M', (∀ b o, I1 b = some o → I' b = some o) → Rx ex I' M' → ex ≠ .normal ∧ K ex F C I' M') :
    CodeOb X (.rangeFunc f ps asg body) F C I M K := by
  refine ⟨fun a w ⟨β, hR0⟩ => ?_⟩
  have hR := hR0.wk hwk
  simp only [Bool.and_eq_true] at hok
  obtain ⟨hok1, hok2, hok3⟩ := hok
  refine wpIn_rangeFunc fun fn _ => ?_
  let rc (s : LoopState) (pd : Option Code) : Loop := { state := s, pending := pd, fn := fn, tmps := a.tmps, params := ps, assign := asg, body := body, defers := w.heap.size }
  let l := w.heap.size + 1
  let w2 : World := (w.alloc (.deferred (some []))).alloc (.loop (rc .ready none))
  have hRm := hR.alloc_mark.alloc_blk (.loop (rc .ready none))
  have hl : (w.alloc (.deferred (some []))).heap.size = l := by simp [l]
  rw [hl] at hRm
  -- the protocol, with the record
  let R' (k : Nat) (I' : GH) (M' : List Blk) : Prop := ∃ M2, M' = ⟨l, .loop (rc .ready none)⟩ :: M2 ∧ R k I' M2
  let Rx' (I' : GH) (M' : List Blk) : Prop := ∃ ex c M2, codeOf ex = some c ∧ M' = ⟨l, .loop (rc .done (some c))⟩ :: M2 ∧ Rx ex I' M2
  have hy : ∀ k (hk : k < vals.length) I' M', (∀ b o, I1 b = some o → I' b = some o) → R' k I' M' → SpecY X.P l vals[k] I' M' fun v I'' M'' => (v = .bool true ∧ R' (k + 1) I'' M'') ∨ (v = .bool false ∧ Rx' I'' M'') := by
    rintro k hk I' _ hle ⟨M2, rfl, hRk⟩ W hW
    have hrec : W.heap[l]? = some (.loop (rc .ready none)) := hW.m ⟨l, .loop (rc .ready none)⟩ (by simp)
    have hlt : l < W.heap.size := (Array.getElem?_eq_some_iff.1 hrec).1
    have hnd := hW.nd
    simp only [List.map_cons, List.nodup_cons] at hnd
    have hIl : I' l = none := hW.d ⟨l, .loop (rc .ready none)⟩ (by simp)
    refine ⟨_, _, _, _, run_yield hrec (by simpa using hlen _ (List.getElem_mem hk)), ?_⟩
    have htm : ((rc LoopState.ready none).params.zip vals[k].toArray).foldl (fun tmps (x : Nat × Value) => match x with | (t, a) => tmps.setIfInBounds t a) (rc LoopState.ready none).tmps = (ps.toList.zip vals[k]).foldl (fun (tmps : Array Value) (p : Nat × Value) => tmps.setIfInBounds p.1 p.2) a.tmps := by
      rw [← Array.foldl_toList]
      simp [rc]
    have hpa := putAll_ok (β := β) ps.toList vals[k] F a.tmps (fun t ht => by
      have := List.all_eq_true.1 hok3 t ht
      rw [hR.size]
      exact Nat.le_of_ble_eq_true this) hR.fr
    rw [← htm] at hpa
    refine roundIn_of_wpIn (F := Fence.wide) (n := 0) trivial ?_
    let X1 : Ctx := ⟨X.P, X.E, X.esc, X.n, W.heap.size, W, I', M2.map (·.num), some l⟩
    let h0' := W.putObj l (.loop (rc .busy none))
    let X2 : Ctx := ⟨X.P, X.E, X.esc, X.n, W.heap.size, h0', I', M2.map (·.num), some l⟩
    have hv := round k hk I' M2 hle hRk l W.heap.size W h0'
    have hrel : RelB X1 β { tmps := ((rc LoopState.ready none).params.zip vals[k].toArray).foldl (fun tmps (x : Nat × Value) => match x with | (t, a) => tmps.setIfInBounds t a) (rc LoopState.ready none).tmps, defers := [] } W (putAll ps.toList vals[k] F) (fun _ => none) I' M2 := {
      size := hpa.1.trans hR.size
      defers := ⟨[], rfl, List.nodup_nil, fun r hr => by cases hr⟩
      holds := ⟨hW.i, fun x hx => hW.m x (by simp [hx]), fun x hx => hW.d x (by simp [hx]), hnd.2⟩
      fr := hpa.2
      bx := fun s cs hs => by cases hs
      inj := fun s s' h1 => by simp at h1
      le0 := fun b o hb => hb
      new0 := fun b o hb => .inl hb
      own := fun x hx => .inl (List.mem_map.2 ⟨x, hx, rfl⟩)
      old := fun b hb hf => rfl
      out := .refl _
      sz := Nat.le_refl _ }
    have hwp := V_sound (X := X1) hE asg hok1 ⟨β, hrel⟩ hv
    refine wpIn_mono (Q := SatX X1 _) hwp ?_
    intro e a1 w1 hs
    cases e with
    | exit id => obtain ⟨_, _, _, _, _, hk⟩ := hs; exact hk.elim
    | goto id => obtain ⟨_, _, _, _, _, hk⟩ := hs; exact hk.elim
    | ret => obtain ⟨_, _, _, _, _, hk⟩ := hs; exact hk.elim
    | panic ch => exact hs.elim
    | outgrown => exact hs.elim
    | normal =>
      obtain ⟨F1, C1, I2, M3, ⟨β1, hr1⟩, hv1⟩ := hs
      have hl1 : w1.heap[l]? = some (.loop (rc .ready none)) := by
        rw [hr1.old l hlt hnd.1]
        exact hrec
      refine ⟨_, run_beginRound hl1 rfl, ?_⟩
      have hIl2 : I2 l = none := by
        cases hI : I2 l with
        | none => rfl
        | some o =>
          rcases hr1.new0 _ _ hI with h1 | h1
          · rw [show X1.I0 = I' from rfl, hIl] at h1; cases h1
          · exact absurd h1 (Nat.not_le.2 hlt)
      have hMl2 : ∀ x ∈ M3, x.num ≠ l := fun x hx e => by
        rcases hr1.own x hx with h1 | h1
        · rw [e] at h1; exact hnd.1 h1
        · rw [e] at h1; exact absurd h1 (Nat.not_le.2 hlt)
      have hr2 : RelB X2 β1 a1 (w1.putObj l (.loop (rc .busy none))) F1 C1 I2 M3 := {
        size := hr1.size
        defers := by
          obtain ⟨rs, g1, g2, g3⟩ := hr1.defers
          refine ⟨rs, g1, g2, fun r hrr => ?_⟩
          have hr := g3 r hrr
          refine { at_ := ?_, base := hr.base, noI := hr.noI, noM := hr.noM }
          rw [World.putObj_heap_other (fun e => by have h1 := hr.at_; rw [e, hl1] at h1; cases h1)]
          exact hr.at_
        holds := {
          i := fun b o hbo => by
            rw [World.putObj_heap_other (fun e => by rw [e, hIl2] at hbo; cases hbo)]
            exact hr1.holds.i b o hbo
          m := fun x hx => by
            rw [World.putObj_heap_other (hMl2 x hx)]
            exact hr1.holds.m x hx
          d := hr1.holds.d
          nd := hr1.holds.nd }
        fr := hr1.fr
        bx := fun s cs hs => by
          have hb := hr1.bx s cs hs
          obtain ⟨T, hT⟩ := hb.at_
          refine { at_ := ⟨T, ?_⟩, base := hb.base, noI := hb.noI, noM := hb.noM }
          rw [World.putObj_heap_other (fun e => by rw [e, hl1] at hT; cases hT)]
          exact hT
        inj := hr1.inj
        le0 := hr1.le0
        new0 := hr1.new0
        own := hr1.own
        old := fun b hb hf => by
          by_cases e : b = l
          · subst e
            rw [World.putObj_heap_same (Array.getElem?_eq_some_iff.1 hl1).1]
            exact (World.putObj_heap_same hlt).symm
          · rw [World.putObj_heap_other e]
            show _ = (W.putObj l (.loop (rc .busy none))).heap[b]?
            rw [World.putObj_heap_other e]
            exact hr1.old b hb hf
        out := ⟨hr1.out.1, hr1.out.2⟩
        sz := by have := hr1.sz; simpa using this }
      have hwp2 := V_sound (X := X2) hE body hok2 ⟨β1, hr2⟩ hv1
      refine wpIn_mono (Q := SatX X2 _) hwp2 ?_
      -- how a round ends
      have fin : ∀ (a3 : Act) (w3 : World) (F3 : Fr) (C3 : Bx) (I3 : GH) (M4 : List Blk) (jump : Option Code), Rel X2 a3 w3 F3 C3 I3 M4 → ∃ w4, (Instr.endRound l jump).run X.P w3 = .ok (.bool jump.isNone) w4 ∧
          Holds I3 (⟨l, .loop (rc (if jump.isNone then .ready else .done) jump)⟩ :: M4) w4 ∧ Kept I' (⟨l, .loop (rc .ready none)⟩ :: M2) W I3 (⟨l, .loop (rc (if jump.isNone then .ready else .done) jump)⟩ :: M4) w4 := by
        rintro a3 w3 F3 C3 I3 M4 jump ⟨β3, h3⟩
        have hl3 : w3.heap[l]? = some (.loop (rc .busy none)) := by
          rw [h3.old l hlt hnd.1]
          exact World.putObj_heap_same hlt
        have hIl3 : I3 l = none := by
          cases hI : I3 l with
          | none => rfl
          | some o =>
            rcases h3.new0 _ _ hI with h1 | h1
            · rw [show X2.I0 = I' from rfl, hIl] at h1; cases h1
            · exact absurd h1 (Nat.not_le.2 hlt)
        have hMl3 : ∀ x ∈ M4, x.num ≠ l := fun x hx e => by
          rcases h3.own x hx with h1 | h1
          · rw [e] at h1; exact hnd.1 h1
          · rw [e] at h1; exact absurd h1 (Nat.not_le.2 hlt)
        refine ⟨_, run_endRound jump hl3, ?_, ?_⟩
        · exact {
            i := fun b o hbo => by
              rw [World.putObj_heap_other (fun e => by rw [e, hIl3] at hbo; cases hbo)]
              exact h3.holds.i b o hbo
            m := fun x hx => by
              rcases List.mem_cons.1 hx with rfl | hx
              · exact World.putObj_heap_same (Array.getElem?_eq_some_iff.1 hl3).1
              · rw [World.putObj_heap_other (hMl3 x hx)]
                exact h3.holds.m x hx
            d := fun x hx => by
              rcases List.mem_cons.1 hx with rfl | hx
              · exact hIl3
              · exact h3.holds.d x hx
            nd := by
              simp only [List.map_cons, List.nodup_cons]
              refine ⟨fun hm => ?_, h3.holds.nd⟩
              obtain ⟨x, hx, e⟩ := List.mem_map.1 hm
              exact hMl3 x hx e }
        · exact {
            le := h3.le0
            newI := h3.new0
            newM := fun x hx => by
              rcases List.mem_cons.1 hx with rfl | hx
              · exact .inl ⟨⟨l, .loop (rc .ready none)⟩, by simp, rfl⟩
              · rcases h3.own x hx with h1 | h1
                · obtain ⟨y, hy, e⟩ := List.mem_map.1 h1
                  exact .inl ⟨y, by simp [hy], e⟩
                · exact .inr h1
            old := fun b hb hne => by
              have hbl : b ≠ l := fun e => hne ⟨l, .loop (rc .ready none)⟩ (by simp) e.symm
              rw [World.putObj_heap_other hbl, h3.old b hb (fun hm => by
                obtain ⟨y, hy, e⟩ := List.mem_map.1 hm
                exact hne y (by simp [hy]) e)]
              exact World.putObj_heap_other hbl
            out := ⟨h3.out.1, h3.out.2⟩
            sz := by have := h3.sz; simpa using this }
      intro e a3 w3 hs3
      cases e with
      | normal =>
        obtain ⟨F3, C3, I3, M4, ⟨β3, h3⟩, ⟨I4, M5, hw5, hp⟩⟩ := hs3
        obtain ⟨w4, h4, h5, h6⟩ := fin a3 w3 F3 C3 I4 M5 none ⟨β3, h3.wk hw5⟩
        exact ⟨_, w4, h4, _, _, _, rfl, .inl ⟨rfl, _, rfl, hp⟩, h5, h6⟩
      | exit id =>
        obtain ⟨F3, C3, I3, M4, ⟨β3, h3⟩, ⟨I4, M5, hw5, hp⟩⟩ := hs3
        obtain ⟨w4, h4, h5, h6⟩ := fin a3 w3 F3 C3 I4 M5 (some (.exit id)) ⟨β3, h3.wk hw5⟩
        exact ⟨_, w4, h4, _, _, _, rfl, .inr ⟨rfl, .exit id, _, _, rfl, rfl, hp⟩, h5, h6⟩
      | goto id =>
        obtain ⟨F3, C3, I3, M4, ⟨β3, h3⟩, ⟨I4, M5, hw5, hp⟩⟩ := hs3
        obtain ⟨w4, h4, h5, h6⟩ := fin a3 w3 F3 C3 I4 M5 (some (.goto id)) ⟨β3, h3.wk hw5⟩
        exact ⟨_, w4, h4, _, _, _, rfl, .inr ⟨rfl, .goto id, _, _, rfl, rfl, hp⟩, h5, h6⟩
      | ret =>
        obtain ⟨F3, C3, I3, M4, ⟨β3, h3⟩, ⟨I4, M5, hw5, hp⟩⟩ := hs3
        obtain ⟨w4, h4, h5, h6⟩ := fin a3 w3 F3 C3 I4 M5 (some .ret) ⟨β3, h3.wk hw5⟩
        exact ⟨_, w4, h4, _, _, _, rfl, .inr ⟨rfl, .ret, _, _, rfl, rfl, hp⟩, h5, h6⟩
      | panic ch => exact hs3.elim
      | outgrown => exact hs3.elim
  obtain ⟨hent, hcalls⟩ := hit l R' Rx' hy I1 (⟨l, .loop (rc .ready none)⟩ :: M1) (fun _ _ h => h) ⟨M1, rfl, start⟩
  have hcall := hcalls w2 hRm.holds
  have e2 := eval_of_ev hR.fr hev
  refine ⟨l, [markOf w.heap.size], w2, { target := .fn (.func g) cap, args := #[.func (.yield l) #[] #[]] }, w2, g, (.func (.yield l) #[] #[] :: cap.toList).toArray, w2, ?_, ?_, fun _ _ => trivial, ?_, (fun h => by cases h), ?_⟩
  · have hro' : (fen X).round = none := hro
    rw [hro']
    exact run_enterLoop_outer fn a.tmps ps asg body
  · show (Deferred.ofValue (a.eval f) (#[Operand.const (.func (.yield l) #[] #[])].map a.eval)).run X.P w2 = _
    rw [e2]
    simp [Deferred.ofValue, Act.eval]
  · simp only [invoke]
    rw [show #[Value.func (.yield l) #[] #[]] ++ cap = (.func (.yield l) #[] #[] :: cap.toList).toArray from by apply Array.ext'; simp]
    exact hent _ _
  · refine (calls_fen (X := X) hcall _).mono ?_
    rintro e w3 ⟨v, I', M', rfl, hp, hH', hK⟩
    have hr3 := hRm.after (Mr := []) (by simp) hH' hK
    rw [List.append_nil] at hr3
    have hle := hK.le
    rcases hp with ⟨M2, rfl, hRn⟩ | ⟨ex, c, M2, hc, rfl, hRe⟩
    · refine ⟨none, _, run_endLoop (hH'.m ⟨l, .loop (rc .ready none)⟩ (by simp)) (by simp [rc]), ?_⟩
      exact ⟨F, C, I', M2, ⟨β, hr3.dropM⟩, done I' M2 hle hRn⟩
    · refine ⟨some c, _, run_endLoop (hH'.m ⟨l, .loop (rc .done (some c))⟩ (by simp)) (by simp [rc]), ?_⟩
      obtain ⟨hne, hk⟩ := stop ex I' M2 hle hRe
      cases ex with
      | normal => exact (hne rfl).elim
      | exit id => cases hc; exact wpIn_exit ⟨F, C, I', M2, ⟨β, hr3.dropM⟩, hk⟩
      | goto id => cases hc; exact wpIn_goto ⟨F, C, I', M2, ⟨β, hr3.dropM⟩, hk⟩
      | ret => cases hc; exact wpIn_ret ⟨F, C, I', M2, ⟨β, hr3.dropM⟩, hk⟩
end
end Go.V

/-
  Appending to a slice of the function's own: in place, or in a new block.
-/
set_option linter.unusedVariables false
set_option linter.unusedSimpArgs false
namespace Go.V
open Go

/-- A slice of the function's own: its block (none as yet: nil), its length, its capacity, its block's cells. -/
structure OS where
  a : Option Nat
  n : Nat
  c : Nat
  cur : List Value
def OS.val (o : OS) : Value := .slice (o.a.map fun g => ⟨g, 0, none⟩) o.n o.c
def OS.blk (o : OS) (e : Nat) : List Blk := match o.a with
  | some g => [⟨g, .cells o.cur.toArray e (0, 0)⟩]
  | none => []
structure OS.ok (o : OS) (size : Nat) (xs : List Value) : Prop where
  len : xs.length = o.n * size
  nil : o.a = none → o.n = 0 ∧ o.c = 0
  cap : ∀ g, o.a = some g → o.cur.length = o.c * size ∧ o.n ≤ o.c ∧ o.c ≤ maxLen ∧ o.cur.take (o.n * size) = xs

section
variable {P : Program} {w : World}

theorem run_app (t u ty e : Nat) (i : TypeInfo) (z : Value) (ht : P.underlying t = some (.slice e)) {du : TypeDesc} (hu : P.underlying u = some du) (hdu : ∀ k, du ≠ .int k) (hi : P.info? e = some i) (hz : i.zero = some z) (hzs : z.cells.size = i.size)
    {os : OS} {xs : List Value} (hok : os.ok i.size xs) (hg : ∀ g, os.a = some g → w.heap[g]? = some (.cells os.cur.toArray e (0, 0)))
    {x : Value} {m : Nat} {news : List Value} (hm : 0 < m) (hl : news.length = m * i.size) (h1 : ∀ v ∈ news, v.oneCell' = true)
    (hlen : ∀ w', (Builtin.lenOf x).run P w' = .ok m w') (hnew : ∀ w' : World, w'.heap = w.heap → (Builtin.firstCells i.size m x).run P w' = .ok news.toArray w')
    (b1 : os.n + m ≤ maxLen) (b2 : (os.n + m) * i.bytes ≤ 140737488355328) :
    ∃ (g c : Nat) (cur : List Value) (w' : World), (Builtin.append_ #[t, u] ty #[os.val, x]).run P w = .ok (.slice (some ⟨g, 0, none⟩) (os.n + m) c) w' ∧ cur.length = c * i.size ∧ os.n + m ≤ c ∧ c ≤ maxLen ∧ cur.take ((os.n + m) * i.size) = xs ++ news ∧
      ((os.a = some g ∧ w' = w.setRow g cur.toArray) ∨ (g = w.heap.size ∧ w' = w.drew.alloc (.cells cur.toArray e (0, 0)))) := by
  obtain ⟨a, n, c, cur⟩ := os
  have hlx : (xs ++ news).length = (n + m) * i.size := by rw [List.length_append, hok.len, hl, Nat.add_mul]
  have grownOk : ∀ old, (xs ++ news ++ (Builtin.zeroCells z.cells (grownCap w (n + m) old e - (n + m))).toList).length = grownCap w (n + m) old e * i.size ∧ n + m ≤ grownCap w (n + m) old e ∧ grownCap w (n + m) old e ≤ maxLen ∧
      (xs ++ news ++ (Builtin.zeroCells z.cells (grownCap w (n + m) old e - (n + m))).toList).take ((n + m) * i.size) = xs ++ news := by
    intro old
    have hge := grownCap_ge w (n + m) old e
    have hcm : grownCap w (n + m) old e ≤ maxLen := grownCap_le_maxLen w (n + m) old e b1
    refine ⟨?_, hge, hcm, ?_⟩
    · rw [List.length_append, hlx, Array.length_toList, size_zeroCells, hzs, ← Nat.add_mul]
      congr 1
      omega
    · rw [← hlx]
      exact List.take_left
  have hdu' : (match du with | .int _ => true | _ => false) = false := by cases du <;> first | rfl | exact (hdu _ rfl).elim
  have hb1 : n + m ≤ 9223372036854775807 := by simp only [maxLen] at b1; exact b1
  cases a with
  | none =>
    obtain ⟨hn0, hc0⟩ := hok.nil rfl
    simp only at hn0 hc0
    subst hn0
    subst hc0
    have hx : xs = [] := List.eq_nil_of_length_eq_zero (by simpa using hok.len)
    subst hx
    simp only [Nat.zero_add, List.nil_append] at *
    have h0 : 0 < m := hm
    have hn : m ≠ 0 := by omega
    have h63' : ¬ (9223372036854775807 < (m : Int)) := by omega
    have h48' : ¬ (281474976710656 < Builtin.nextslicecap m 0 * i.bytes) := by rw [nextslicecap_zero h0]; omega
    have hf := hnew w.drew rfl
    obtain ⟨g1, g2, g3, g4⟩ := grownOk 0
    refine ⟨w.heap.size, grownCap w m 0 e, _, w.drew.alloc (.cells (news ++ (Builtin.zeroCells z.cells (grownCap w m 0 e - m)).toList).toArray e), ?_, g1, g2, g3, g4, .inr ⟨rfl, rfl⟩⟩
    simp [OS.val, Builtin.append_, run_underlying ht, run_underlying hu, sizeOf, typeInfo, zeroValue, hi, hz, hlen, hn, h63', h48', Question.forced, run_firstCells_none, hf, newRow, grownCap]
    congr 2
    apply Array.ext'
    simp
  | some g =>
    obtain ⟨hcl, hnc, hcm, htk⟩ := hok.cap g rfl
    have hgg := hg g rfl
    simp only at hcl hnc hcm htk hgg
    by_cases hroom : n + m ≤ c
    · have hfit : n * i.size + news.length ≤ cur.length := by rw [hl, hcl, ← Nat.add_mul]; exact Nat.mul_le_mul_right _ hroom
      have hst := run_storeCells_at P g (n * i.size) e news 0 cur.toArray w hgg (by simpa using hfit) h1
      simp only [Nat.add_zero] at hst
      refine ⟨g, c, cur.take (n * i.size) ++ news ++ cur.drop (n * i.size + news.length), _, ?_, ?_, hroom, hcm, ?_, .inl ⟨rfl, rfl⟩⟩
      · have hf := hnew w rfl
        simp [OS.val, Builtin.append_, run_underlying ht, run_underlying hu, sizeOf, typeInfo, hi, hlen, hroom, hf, Addr.add_lit, hst]

      · simp only [List.length_append, List.length_take, List.length_drop]
        omega
      · rw [htk, ← hlx]
        exact List.take_left
    · have hn : ¬ (n + m ≤ c) := by omega
      have h63' : ¬ (9223372036854775807 < ((n : Int) + (m : Int))) := by omega
      have h48' : ¬ (281474976710656 < Builtin.nextslicecap (n + m) c * i.bytes) := by have := growslice_fits (by omega : c < n + m) b2; omega
      have hf := hnew w.drew rfl
      have hcells : ∀ j v, xs[j]? = some v → w.drew.cell? ((⟨g, 0, none⟩ : Addr).add j) = some v := by
        intro j v hj
        have hgd : w.drew.heap[g]? = some (.cells cur.toArray e (0, 0)) := hgg
        rw [addr_add _ rfl, cell_of_block hgd]
        rw [← htk, List.getElem?_take] at hj
        split at hj
        · simpa using hj
        · cases hj
      have hfo := run_firstCells_some (P := P) w.drew i.size n ⟨g, 0, none⟩ n c xs hok.len hcells
      obtain ⟨g1, g2, g3, g4⟩ := grownOk c
      refine ⟨w.heap.size, grownCap w (n + m) c e, _, w.drew.alloc (.cells (xs ++ news ++ (Builtin.zeroCells z.cells (grownCap w (n + m) c e - (n + m))).toList).toArray e), ?_, g1, g2, g3, g4, .inr ⟨rfl, rfl⟩⟩
      simp [OS.val, Builtin.append_, run_underlying ht, run_underlying hu, sizeOf, typeInfo, zeroValue, hi, hz, hlen, hn, h63', h48', Question.forced, hf, hfo, newRow, grownCap]
      congr 2
      apply Array.ext'
      simp
end

section
variable {X : Ctx} {β : Nat → Nat} {a : Act} {w : World} {F : Fr} {C : Bx} {I : GH} {M : List Blk} {o : Oper} {K : KS}

theorem app_core (hE : EOK X.P X.E) {s x : Operand} {t u : Nat} (ho : o.op = .call { callee := .builtin .append, args := #[s, x], argTypes := #[t, u] }) (hd : ∀ d, o.dst = some d → d < X.n)
    {e : Nat} {ti tu ei : TI} (ht : X.E t = some ti) (hts : ti.sh = .slice e) (hu : X.E u = some tu) (hus : ∀ k, tu.sh ≠ .int k) (he : X.E e = some ei)
    (os : OS) {xs : List Value} (hok : os.ok ei.size xs) (hs : ev F s = .val os.val)
    {xv : Value} (hx : ev F x = .val xv) {m : Nat} {news : List Value} (hm : 0 < m) (hl : news.length = m * ei.size) (h1 : allOne news = true)
    (hlen : ∀ w', (Builtin.lenOf xv).run X.P w' = .ok m w') (hnew : ∀ w, Holds I M w → (Builtin.firstCells ei.size m xv).run X.P w = .ok news.toArray w)
    {Mr : List Blk} (hM : M.Perm (os.blk e ++ Mr)) (b1 : os.n + m ≤ maxLen) (b2 : (os.n + m) * ei.bytes ≤ 140737488355328)
    (k : ∀ (g c : Nat) (cur : List Value), I g = none → cur.length = c * ei.size → os.n + m ≤ c → c ≤ maxLen → cur.take ((os.n + m) * ei.size) = xs ++ news →
      K (put o.dst (.val (.slice (some ⟨g, 0, none⟩) (os.n + m) c)) F) C I (⟨g, .cells cur.toArray e (0, 0)⟩ :: Mr)) : OtherOb X o F C I M K := by
  refine ⟨fun a w Q ⟨β, hR0⟩ => ?_⟩
  have hR : RelB X β a w F C I (os.blk e ++ Mr) := hR0.wk (.perm hM .refl)
  obtain ⟨inf, z, hi, hi1, hi2, hi3, hi4⟩ := (hE _ _ he).inf
  obtain ⟨d, hud, hdd⟩ := (hE _ _ hu).und
  obtain ⟨dt, htd, hdt⟩ := (hE _ _ ht).und
  have hdt' : dt = .slice e := by
    rw [hts] at hdt
    cases dt <;> simp_all [shOf]
  subst hdt'
  have hzs : z.cells.size = inf.size := by
    rw [hi1, ← (hE _ _ he).len, ← hi4]
    simp
  rw [← hi1] at hok hl hnew
  obtain ⟨g, c, cur, w', hrun, g1, g2, g3, g4, g5⟩ := run_app (P := X.P) (w := w) t u o.type e inf z htd hud (fun k e' => hus k (by rw [← hdd, e']; rfl)) hi hi3 hzs hok
    (fun g hg => hR.holds.m ⟨g, .cells os.cur.toArray e (0, 0)⟩ (by simp [OS.blk, hg])) (x := xv) hm hl (allOne_spec h1) hlen
    (fun w' hw' => hnew w' (hR0.holds.heap hw')) b1 (by rw [hi2]; exact b2)
  rw [hi1] at g1 g4
  have hgI : I g = none := by
    rcases g5 with ⟨hg, _⟩ | ⟨rfl, _⟩
    · exact hR.holds.d ⟨g, .cells os.cur.toArray e (0, 0)⟩ (by simp [OS.blk, hg])
    · cases hI : I w.heap.size with
      | none => rfl
      | some ob =>
        have := hR.holds.i _ _ hI
        simp at this
  have es := eval_of_ev hR.fr hs
  have ex := eval_of_ev hR.fr hx
  refine wpIn_val (by rw [ho]; simp) (v := .slice (some ⟨g, 0, none⟩) (os.n + m) c) (w' := w') ?_ ⟨_, _, _, _, ⟨β, RelB.put (x := .val (.slice (some ⟨g, 0, none⟩) (os.n + m) c)) ?_ hd rfl⟩, k g c cur hgI g1 g2 g3 g4⟩
  · unfold execOp
    simp only [ho, resolve, invoke, builtin, Sem.run_bind, Sem.run_pure, Result.andThen_ok, List.map_toArray, List.map_cons, List.map_nil, es, ex, hrun]
  · rcases g5 with ⟨hg, rfl⟩ | ⟨rfl, rfl⟩
    · have hb : os.blk e = [⟨g, .cells os.cur.toArray e (0, 0)⟩] := by simp [OS.blk, hg]
      rw [hb] at hR
      exact hR.store_blk (pre := []) (post := Mr) rfl
    · have h2 : RelB X β a w.drew F C I (os.blk e ++ Mr) := hR.world rfl
      have h3 := h2.alloc_blk (.cells cur.toArray e (0, 0))
      refine h3.wk (.sub ?_ .refl)
      exact List.Sublist.cons_cons _ (List.sublist_append_right _ _)

/-- 'append(s, x...)', s being the function's own, x's cells read. -/
theorem OtherOb.append (hE : EOK X.P X.E) {s x : Operand} {t : Nat} (ho : o.op = .call { callee := .builtin .append, args := #[s, x], argTypes := #[t, t] }) (hd : ∀ d, o.dst = some d → d < X.n)
    {e : Nat} {ti ei : TI} (ht : X.E t = some ti) (hts : ti.sh = .slice e) (he : X.E e = some ei)
    (os : OS) {xs : List Value} (hok : os.ok ei.size xs) (hs : ev F s = .val os.val)
    {ad : Addr} {m c' : Nat} (hx : ev F x = .val (.slice (some ad) m c')) {news : List Value} (hm : 0 < m) (hn : Rd I M ad (m * ei.size) news) (h1 : allOne news = true)
    {Mr : List Blk} (hM : M.Perm (os.blk e ++ Mr)) (b1 : os.n + m ≤ maxLen) (b2 : (os.n + m) * ei.bytes ≤ 140737488355328)
    (k : ∀ (g c : Nat) (cur : List Value), cur.length = c * ei.size → os.n + m ≤ c → c ≤ maxLen → cur.take ((os.n + m) * ei.size) = xs ++ news →
      K (put o.dst (.val (.slice (some ⟨g, 0, none⟩) (os.n + m) c)) F) C I (⟨g, .cells cur.toArray e (0, 0)⟩ :: Mr)) : OtherOb X o F C I M K := by
  refine app_core hE ho hd ht hts ht (fun k => by rw [hts]; simp) he os hok hs hx hm ?_ h1 (fun _ => rfl) (fun w hw => ?_) hM b1 b2 (fun g c cur _ => k g c cur)
  · obtain ⟨_, _, _, _, _, _, h⟩ := hn
    exact h
  · obtain ⟨hsp, cs, T, fr, hkn, hv, hl⟩ := hn
    refine run_firstCells_some (P := X.P) w ei.size m ad m c' news hl fun j v hj => ?_
    rw [addr_add _ hsp, cell_of_block (hkn.heap hw)]
    rw [← hv, List.getElem?_take] at hj
    split at hj
    · rw [List.getElem?_drop] at hj
      simpa using hj
    · cases hj

/-- The same; and the row is none of the memory that stands. -/
theorem OtherOb.appendN (hE : EOK X.P X.E) {s x : Operand} {t : Nat} (ho : o.op = .call { callee := .builtin .append, args := #[s, x], argTypes := #[t, t] }) (hd : ∀ d, o.dst = some d → d < X.n)
    {e : Nat} {ti ei : TI} (ht : X.E t = some ti) (hts : ti.sh = .slice e) (he : X.E e = some ei)
    (os : OS) {xs : List Value} (hok : os.ok ei.size xs) (hs : ev F s = .val os.val)
    {ad : Addr} {m c' : Nat} (hx : ev F x = .val (.slice (some ad) m c')) {news : List Value} (hm : 0 < m) (hn : Rd I M ad (m * ei.size) news) (h1 : allOne news = true)
    {Mr : List Blk} (hM : M.Perm (os.blk e ++ Mr)) (b1 : os.n + m ≤ maxLen) (b2 : (os.n + m) * ei.bytes ≤ 140737488355328)
    (k : ∀ (g c : Nat) (cur : List Value), I g = none → cur.length = c * ei.size → os.n + m ≤ c → c ≤ maxLen → cur.take ((os.n + m) * ei.size) = xs ++ news →
      K (put o.dst (.val (.slice (some ⟨g, 0, none⟩) (os.n + m) c)) F) C I (⟨g, .cells cur.toArray e (0, 0)⟩ :: Mr)) : OtherOb X o F C I M K := by
  refine app_core hE ho hd ht hts ht (fun k => by rw [hts]; simp) he os hok hs hx hm ?_ h1 (fun _ => rfl) (fun w hw => ?_) hM b1 b2 k
  · obtain ⟨_, _, _, _, _, _, h⟩ := hn
    exact h
  · obtain ⟨hsp, cs, T, fr, hkn, hv, hl⟩ := hn
    refine run_firstCells_some (P := X.P) w ei.size m ad m c' news hl fun j v hj => ?_
    rw [addr_add _ hsp, cell_of_block (hkn.heap hw)]
    rw [← hv, List.getElem?_take] at hj
    split at hj
    · rw [List.getElem?_drop] at hj
      simpa using hj
    · cases hj

def byteVals (s : ByteArray) : List Value := s.data.toList.map fun b => .int .u8 b.toNat

/-- 'append(s, "text"...)'. -/
theorem OtherOb.appendS (hE : EOK X.P X.E) {s x : Operand} {t u : Nat} (ho : o.op = .call { callee := .builtin .append, args := #[s, x], argTypes := #[t, u] }) (hd : ∀ d, o.dst = some d → d < X.n)
    {e : Nat} {ti tu ei : TI} (ht : X.E t = some ti) (hts : ti.sh = .slice e) (hu : X.E u = some tu) (hus : tu.sh = .string) (he : X.E e = some ei) (hsz : ei.size = 1)
    (os : OS) {xs : List Value} (hok : os.ok ei.size xs) (hs : ev F s = .val os.val)
    {str : ByteArray} (hx : ev F x = .val (.string str)) (hm : 0 < str.size)
    {Mr : List Blk} (hM : M.Perm (os.blk e ++ Mr)) (b1 : os.n + str.size ≤ maxLen) (b2 : (os.n + str.size) * ei.bytes ≤ 140737488355328)
    (k : ∀ (g c : Nat) (cur : List Value), cur.length = c * ei.size → os.n + str.size ≤ c → c ≤ maxLen → cur.take ((os.n + str.size) * ei.size) = xs ++ byteVals str →
      K (put o.dst (.val (.slice (some ⟨g, 0, none⟩) (os.n + str.size) c)) F) C I (⟨g, .cells cur.toArray e (0, 0)⟩ :: Mr)) : OtherOb X o F C I M K := by
  refine app_core hE ho hd ht hts hu (fun k => by rw [hus]; simp) he os hok hs hx hm ?_ ?_ (fun _ => rfl) (fun w hw => ?_) hM b1 b2 (fun g c cur _ => k g c cur)
  · simp [byteVals, hsz]
  · refine List.all_eq_true.2 fun v hv => ?_
    obtain ⟨b, _, rfl⟩ := List.mem_map.1 hv
    rfl
  · simp only [Builtin.firstCells, Sem.run_pure]
    congr 1
    apply Array.ext'
    have e1 : str.extract 0 str.size = str := by
      apply ByteArray.ext
      simp [ByteArray.data_extract]
    simp [byteVals, e1]
end
end Go.V

/-
  More operations: arrays of four numbers compared; min, max; an empty text appended.
-/
set_option linter.unusedVariables false
set_option linter.unusedSimpArgs false
namespace Go.V
open Go

section
variable {X : Ctx} {F : Fr} {C : Bx} {I : GH} {M : List Blk} {o : Oper} {K : KS}

theorem eq4_run {P : Program} {t e : Nat} (ht : P.underlying t = some (.array 4 e)) {k : IntKind} (he : P.underlying e = some (.int k)) {inf : TypeInfo} (hi : P.info? e = some inf) (hs : inf.size = 1) (a0 a1 a2 a3 b0 b1 b2 b3 : Int) (w : World) :
    (Op.equal t (.agg #[.int k a0, .int k a1, .int k a2, .int k a3]) (.agg #[.int k b0, .int k b1, .int k b2, .int k b3])).run P w = .ok (a0 == b0 && (a1 == b1 && (a2 == b2 && a3 == b3))) w := by
  have hpart : ∀ (xs : Array Value) (i : Nat) (v : Value) (w : World), xs[i]? = some v → (part e xs i).run P w = .ok v w := fun xs i v w h => by
    have hagg : (isAgg e).run P w = .ok false w := by
      unfold isAgg
      simp [run_underlying he]
    unfold part
    simp [hagg, sizeOf, typeInfo, hi, hs, h]
  have hint : ∀ (d : Nat) (x y : Int) (w : World), (Op.equalIn (d + 1) e (.int k x) (.int k y)).run P w = .ok (x == y) w := fun d x y w => by
    simp [Op.equalIn, run_underlying he]
  have key : ∀ m, (∀ (x y : Int) (w : World), (Op.equalIn m e (.int k x) (.int k y)).run P w = .ok (x == y) w) → (Op.equalIn (m + 1) t (.agg #[.int k a0, .int k a1, .int k a2, .int k a3]) (.agg #[.int k b0, .int k b1, .int k b2, .int k b3])).run P w = .ok (a0 == b0 && (a1 == b1 && (a2 == b2 && a3 == b3))) w := fun m hint => by
    rw [Op.equalIn]
    simp only [Sem.run_bind, run_underlying ht, Result.andThen_ok, sizeOf, typeInfo, hi, run_program, Sem.run_pure, hs]
    simp only [Std.Legacy.Range.forIn_eq_forIn_range']
    have hr : List.range' 0 ([:4] : Std.Legacy.Range).size = [0, 1, 2, 3] := by decide
    rw [hr]
    have pa := fun (i : Nat) (v : Value) (w : World) => hpart #[.int k a0, .int k a1, .int k a2, .int k a3] i v w
    have pb := fun (i : Nat) (v : Value) (w : World) => hpart #[.int k b0, .int k b1, .int k b2, .int k b3] i v w
    simp only [List.forIn_cons, List.forIn_nil, Sem.run_bind]
    rw [pa (0 * 1) (.int k a0) w rfl]
    simp only [Result.andThen_ok, Sem.run_bind]
    rw [pb (0 * 1) (.int k b0) w rfl]
    simp only [Result.andThen_ok, Sem.run_bind]
    rw [hint]
    simp only [Result.andThen_ok]
    cases (a0 == b0)
    · simp
    simp only [Bool.not_true, Bool.false_eq_true, if_false, Sem.run_pure, Result.andThen_ok, Sem.run_bind]
    rw [pa (1 * 1) (.int k a1) w rfl]
    simp only [Result.andThen_ok, Sem.run_bind]
    rw [pb (1 * 1) (.int k b1) w rfl]
    simp only [Result.andThen_ok, Sem.run_bind]
    rw [hint]
    simp only [Result.andThen_ok]
    cases (a1 == b1)
    · simp
    simp only [Bool.not_true, Bool.false_eq_true, if_false, Sem.run_pure, Result.andThen_ok, Sem.run_bind]
    rw [pa (2 * 1) (.int k a2) w rfl]
    simp only [Result.andThen_ok, Sem.run_bind]
    rw [pb (2 * 1) (.int k b2) w rfl]
    simp only [Result.andThen_ok, Sem.run_bind]
    rw [hint]
    simp only [Result.andThen_ok]
    cases (a2 == b2)
    · simp
    simp only [Bool.not_true, Bool.false_eq_true, if_false, Sem.run_pure, Result.andThen_ok, Sem.run_bind]
    rw [pa (3 * 1) (.int k a3) w rfl]
    simp only [Result.andThen_ok, Sem.run_bind]
    rw [pb (3 * 1) (.int k b3) w rfl]
    simp only [Result.andThen_ok, Sem.run_bind]
    rw [hint]
    simp only [Result.andThen_ok]
    cases (a3 == b3)
    · simp
    simp
  exact key 9999 (hint 9998)

/-- '==' of two arrays of four numbers. -/
theorem BinOb.eq4 {P : Program} {E : Env} (hE : EOK P E) {t e : Nat} {ti ei : TI} {x y : Operand} (ht : E t = some ti) (hts : ti.sh = .array 4 e) (he : E e = some ei) {k : IntKind} (hes : ei.sh = .int k)
    (hg : P.eqGuardType P.depth t = false) {a0 a1 a2 a3 b0 b1 b2 b3 : Int} {V : Value → Prop} {other : Prop}
    (h : V (.bool (a0 == b0 && (a1 == b1 && (a2 == b2 && a3 == b3))))) : BinOb P .eql t x y (.val (.agg #[.int k a0, .int k a1, .int k a2, .int k a3])) (.val (.agg #[.int k b0, .int k b1, .int k b2, .int k b3])) V other := by
  obtain ⟨d, hud, hdd⟩ := (hE _ _ ht).und
  obtain ⟨de, hue, hde⟩ := (hE _ _ he).und
  obtain ⟨inf, z, hi, hi1, _⟩ := (hE _ _ he).inf
  have h1 : d = .array 4 e := by rw [hts] at hdd; cases d <;> simp_all [shOf]
  have h2 : de = .int k := by rw [hes] at hde; cases de <;> simp_all [shOf]
  subst h1
  subst h2
  have hs1 : inf.size = 1 := by rw [hi1]; exact (hE _ _ he).sz1 (by rw [hes]; rfl)
  refine .mk _ _ _ rfl rfl (fun w => ?_) h
  simp only [Sem.run_bind, run_eqGuard_agg (hm := hg), Result.andThen_ok, binOp, eq4_run hud hue hi hs1, Sem.run_pure]

/-- Texts put together. -/
theorem BinOb.concat {P : Program} {t : Nat} {x y : Operand} {a b : ByteArray} (hs : a.size + b.size ≤ 9223372036854775807) {V : Value → Prop} {other : Prop} (h : V (.string (a ++ b))) : BinOb P .add t x y (.val (.string a)) (.val (.string b)) V other := by
  refine .mk _ _ _ rfl rfl (fun w => ?_) h
  simp only [Sem.run_bind, run_eqGuard_string, Result.andThen_ok, binOp, run_string_add_sum _ _ _ hs, Sem.run_pure]
end
end Go.V

/-
  Texts out of bytes: copy of a text into a row of the function's own, unsafe.String over such a row, texts put together.
-/
set_option linter.unusedVariables false
set_option linter.unusedSimpArgs false
namespace Go.V
open Go

section
variable {X : Ctx} {β : Nat → Nat} {a : Act} {w : World} {F : Fr} {C : Bx} {I : GH} {M : List Blk} {o : Oper} {K : KS}

/-- Whatever becomes of a block that is named no more. -/
theorem RelB.lose {n : Nat} {ob : Obj} {w' : World} (h : RelB X β a w F C I (⟨n, ob⟩ :: M)) (hs : w'.heap.size = w.heap.size) (hb : ∀ b, b ≠ n → w'.heap[b]? = w.heap[b]?) (ho : Same w w') : RelB X β a w' F C I M := by
  have hx0 : (⟨n, ob⟩ : Blk) ∈ (⟨n, ob⟩ : Blk) :: M := by simp
  have hnd := h.holds.nd
  simp only [List.map_cons, List.nodup_cons] at hnd
  exact {
    size := h.size
    defers := h.defers.mono fun r hr => by
      have hne : n ≠ r := hr.noM _ hx0
      refine { hr with at_ := ?_, noM := fun x hx => hr.noM x (by simp [hx]) }
      rw [hb r (Ne.symm hne)]
      exact hr.at_
    holds := {
      i := fun b o hbo => by
        rw [hb b (fun e => by have := h.holds.d _ hx0; simp only at this; rw [e, this] at hbo; cases hbo)]
        exact h.holds.i b o hbo
      m := fun x hx => by
        rw [hb _ (fun e => hnd.1 (List.mem_map.2 ⟨x, hx, e⟩))]
        exact h.holds.m x (by simp [hx])
      d := fun x hx => h.holds.d x (by simp [hx])
      nd := hnd.2 }
    fr := h.fr
    bx := fun s cs hcs => by
      have hbx := h.bx s cs hcs
      have hne : n ≠ β s := hbx.noM _ hx0
      obtain ⟨T, hT⟩ := hbx.at_
      refine { hbx with at_ := ⟨T, ?_⟩, noM := fun x hx => hbx.noM x (by simp [hx]) }
      rw [hb _ (Ne.symm hne)]
      exact hT
    inj := h.inj
    le0 := h.le0
    new0 := h.new0
    own := fun x hx => h.own x (by simp [hx])
    old := fun b hlt hf => by
      rw [hb b (fun e => by
        rcases h.own _ hx0 with h1 | h1
        · simp only at h1; exact hf (e ▸ h1)
        · simp only at h1; omega)]
      exact h.old b hlt hf
    out := h.out.trans ho
    sz := by rw [hs]; exact h.sz }

theorem freeze_size (w : World) (p : Addr) (n : Nat) : (w.freeze p n).heap.size = w.heap.size := by
  unfold World.freeze
  split <;> simp
theorem freeze_same (w : World) (p : Addr) (n : Nat) : Same w (w.freeze p n) := by
  unfold World.freeze
  split <;> exact ⟨rfl, rfl⟩
theorem freeze_other (w : World) (p : Addr) (n b : Nat) (h : b ≠ p.block) : (w.freeze p n).heap[b]? = w.heap[b]? := by
  unfold World.freeze
  split
  · rfl
  · simp only [Array.getElem?_modify]
    rw [if_neg (Ne.symm h)]

/-- unsafe.String over the head of a row of the function's own: the row is named no more. -/
theorem OtherOb.ustring (hE : EOK X.P X.E) {p n : Operand} {pt it e : Nat} (ho : o.op = .call { callee := .builtin .unsafeString, args := #[p, n], argTypes := #[pt, it] }) (hd : ∀ d, o.dst = some d → d < X.n)
    {ti ei : TI} (ht : X.E pt = some ti) (hts : ti.sh = .pointer e) (he : X.E e = some ei) (hes : ei.size = 1)
    {g : Nat} {cs : Array Value} {l : List UInt8} (hp : ev F p = .val (.pointer (some ⟨g, 0, none⟩))) (hn : ev F n = .val (.int .i64 l.length)) (h0 : l ≠ []) (h63 : l.length ≤ 9223372036854775807)
    {Mr : List Blk} (hM : M.Perm (⟨g, .cells cs e (0, 0)⟩ :: Mr)) (hcs : cs.toList.take l.length = l.map fun b => .int .u8 b.toNat)
    (h : K (put o.dst (.val (.string ⟨l.toArray⟩)) F) C I Mr) : OtherOb X o F C I M K := by
  refine ⟨fun a w Q ⟨β, hR0⟩ => ?_⟩
  have hR : RelB X β a w F C I (⟨g, .cells cs e (0, 0)⟩ :: Mr) := hR0.wk (.perm hM .refl)
  have hg : w.heap[g]? = some (.cells cs e (0, 0)) := hR.holds.m ⟨g, .cells cs e (0, 0)⟩ (by simp)
  obtain ⟨d, hud, hdd⟩ := (hE _ _ ht).und
  have h1 : d = .pointer e := by rw [hts] at hdd; cases d <;> simp_all [shOf]
  subst h1
  obtain ⟨inf, z, hi, hi1, _⟩ := (hE _ _ he).inf
  have hc : X.P.cellsOf e = 1 := by simp [Program.cellsOf, hi, hi1, hes]
  have hlen : l.length ≤ cs.size := by
    have := congrArg List.length hcs
    simp only [List.length_take, List.length_map, Array.length_toList] at this
    omega
  have hrun := Lib.run_unsafeString_row (P := X.P) w pt it o.type e hud hc g cs.size (by simp [World.shape?, hg]) l h0 hlen h63 (fun j x hj => by
    rw [addr_add _ rfl, cell_of_block hg]
    have h2 : (cs.toList.take l.length)[j]? = some (.int .u8 x.toNat) := by rw [hcs]; simp [hj]
    rw [List.getElem?_take] at h2
    split at h2
    · simpa using h2
    · cases h2)
  have ep := eval_of_ev hR.fr hp
  have en := eval_of_ev hR.fr hn
  refine wpIn_val (by rw [ho]; simp) (v := .string ⟨l.toArray⟩) (w' := w.freeze ⟨g, 0, none⟩ l.length) ?_ ⟨_, _, _, _, ⟨β, RelB.put (x := .val (.string ⟨l.toArray⟩)) (hR.lose (freeze_size _ _ _) (fun b hb => freeze_other _ _ _ _ hb) (freeze_same _ _ _)) hd rfl⟩, h⟩
  unfold execOp
  simp only [ho, resolve, invoke, builtin, Sem.run_bind, Sem.run_pure, Result.andThen_ok, List.map_toArray, List.map_cons, List.map_nil, ep, en, hrun]

/-- unsafe.String of no byte. -/
theorem OtherOb.ustring0 {p n : Operand} {pt it : Nat} (ho : o.op = .call { callee := .builtin .unsafeString, args := #[p, n], argTypes := #[pt, it] }) (hd : ∀ d, o.dst = some d → d < X.n)
    {q : Option Addr} (hp : ev F p = .val (.pointer q)) (hn : ev F n = .val (.int .i64 0)) (h : K (put o.dst (.val (.string .empty)) F) C I M) : OtherOb X o F C I M K := by
  refine ⟨fun a w Q ⟨β, hR⟩ => ?_⟩
  have ep := eval_of_ev hR.fr hp
  have en := eval_of_ev hR.fr hn
  refine done_vv hR hd (by rw [ho]; simp) ?_ h
  unfold execOp
  simp only [ho, resolve, invoke, builtin, Sem.run_bind, Sem.run_pure, Result.andThen_ok, List.map_toArray, List.map_cons, List.map_nil, ep, en, Lib.run_unsafeString_none]

/-- 'copy(row, "text")', the text no longer than the row. -/
theorem OtherOb.copyS (hE : EOK X.P X.E) {x y : Operand} {t u e : Nat} (ho : o.op = .call { callee := .builtin .copy, args := #[x, y], argTypes := #[t, u] }) (hd : ∀ d, o.dst = some d → d < X.n)
    {ti ei : TI} (ht : X.E t = some ti) (hts : ti.sh = .slice e) (he : X.E e = some ei) (hes : ei.size = 1)
    {g off dl dc : Nat} {s : ByteArray} {cs : Array Value} {T : Nat} (hx : ev F x = .val (.slice (some ⟨g, off, none⟩) dl dc)) (hy : ev F y = .val (.string s)) (hle : s.size ≤ dl) (hfit : off + s.size ≤ cs.size)
    {Mr : List Blk} (hM : M.Perm (⟨g, .cells cs T (0, 0)⟩ :: Mr))
    (h : K (put o.dst (.val (.int .i64 s.size)) F) C I (⟨g, .cells (splice cs.toList off (byteVals s)).toArray T (0, 0)⟩ :: Mr)) : OtherOb X o F C I M K := by
  refine ⟨fun a w Q ⟨β, hR0⟩ => ?_⟩
  have hR : RelB X β a w F C I (⟨g, .cells cs T (0, 0)⟩ :: Mr) := hR0.wk (.perm hM .refl)
  have hg : w.heap[g]? = some (.cells cs T (0, 0)) := hR.holds.m ⟨g, .cells cs T (0, 0)⟩ (by simp)
  obtain ⟨d, hud, hdd⟩ := (hE _ _ ht).und
  have h1 : d = .slice e := by rw [hts] at hdd; cases d <;> simp_all [shOf]
  subst h1
  obtain ⟨inf, z, hi, hi1, _⟩ := (hE _ _ he).inf
  have hl : (byteVals s).length = s.size := by simp [byteVals]
  have h1 : ∀ v ∈ byteVals s, v.oneCell' = true := fun v hv => by
    obtain ⟨b, _, rfl⟩ := List.mem_map.1 hv
    rfl
  have hst := run_storeCells_at X.P g off T (byteVals s) 0 cs w hg (by rw [hl]; simpa using hfit) h1
  simp only [Nat.add_zero] at hst
  have hmin : Nat.min s.size dl = s.size := Nat.min_eq_left hle
  have hf : (Builtin.firstCells inf.size s.size (.string s)).run X.P w = .ok (byteVals s).toArray w := Lib.run_firstCells_string w inf.size s
  have ex := eval_of_ev hR.fr hx
  have ey := eval_of_ev hR.fr hy
  have hR2 := hR.store_blk (pre := []) (post := Mr) (cs' := (splice cs.toList off (byteVals s)).toArray) rfl
  refine wpIn_val (by rw [ho]; simp) (v := .int .i64 s.size) (w' := w.setRow g (splice cs.toList off (byteVals s)).toArray) ?_ ⟨_, _, _, _, ⟨β, RelB.put (x := .val (.int .i64 s.size)) hR2 hd rfl⟩, h⟩
  have hrun : (Builtin.copy_ #[t, u] o.type #[.slice (some ⟨g, off, none⟩) dl dc, .string s]).run X.P w = .ok (.int .i64 s.size) (w.setRow g (splice cs.toList off (byteVals s)).toArray) := by
    simp [Builtin.copy_, run_underlying hud, Builtin.lenOf, hmin, sizeOf, typeInfo, hi, hf, hst, splice, goInt]
  unfold execOp
  simp only [ho, resolve, invoke, builtin, Sem.run_bind, Sem.run_pure, Result.andThen_ok, List.map_toArray, List.map_cons, List.map_nil, ex, ey, hrun]
end
end Go.V

/-
  Data in memory, as the walks of this seat read them: slices of numbers, nodes, trees, rules, grammars, in blocks that nothing changes.
-/
set_option linter.unusedVariables false
set_option linter.unusedSimpArgs false
namespace Go.V
open Go

/-- A slice in memory that nothing changes: its cells. -/
structure RS (I : GH) (a : Option Addr) (n c size b : Nat) (vs : List Value) : Prop where
  len : vs.length = n * size
  cap : n ≤ c ∧ n * b ≤ 140737488355328
  rd : n = 0 ∨ ∃ ad, a = some ad ∧ ad.spot = none ∧ ∃ cs T fr, I ad.block = some (.cells cs T fr) ∧ (cs.toList.drop ad.off).take (n * size) = vs

theorem RS.mono {I I' : GH} {a : Option Addr} {n c size b : Nat} {vs : List Value} (h : RS I a n c size b vs) (hI : ∀ b o, I b = some o → I' b = some o) : RS I' a n c size b vs :=
  ⟨h.len, h.cap, h.rd.imp id fun ⟨ad, h1, h2, cs, T, fr, h3, h4⟩ => ⟨ad, h1, h2, cs, T, fr, hI _ _ h3, h4⟩⟩

theorem RS.idx {I : GH} {a : Option Addr} {n c size b : Nat} {vs : List Value} (h : RS I a n c size b vs) {j : Nat} (hj : j < n) :
    ∃ ad, a = some ad ∧ ∀ M, Rd I M (ad.add (j * size)) size ((vs.drop (j * size)).take size) := by
  obtain ⟨hl, _, h0 | ⟨ad, ha, hs, cs, T, fr, hI, hv⟩⟩ := h
  · omega
  · refine ⟨ad, ha, fun M => ?_⟩
    have hle : j * size + size ≤ n * size := by
      have := Nat.mul_le_mul_right size (show j + 1 ≤ n from hj)
      rw [Nat.add_mul, Nat.one_mul] at this
      exact this
    refine ⟨by rw [addr_add _ hs], cs, T, fr, .inl (by rw [addr_add _ hs]; exact hI), ?_, ?_⟩
    · rw [addr_add _ hs, ← hv, List.drop_take, List.drop_drop, List.take_take]
      congr 1
      omega
    · rw [List.length_take, List.length_drop, hl]
      omega

theorem RS.one {I : GH} {a : Option Addr} {n c b : Nat} {α : Type} {f : α → Value} {l : List α} (h : RS I a n c 1 b (l.map f)) {j : Nat} (hj : j < n) (hj' : j < l.length) :
    ∃ ad, a = some ad ∧ ∀ M, Rd I M (ad.add (j * 1)) 1 [f l[j]] := by
  obtain ⟨ad, h1, h2⟩ := h.idx hj
  refine ⟨ad, h1, fun M => ?_⟩
  have := h2 M
  rw [Nat.mul_one, ← List.map_drop, ← List.map_take, List.drop_eq_getElem_cons hj', List.take_succ_cons, List.take_zero] at this
  rw [Nat.mul_one]
  exact this

/-- Rows of several cells each. -/
theorem flat_at {α : Type} (f : α → List Value) (size : Nat) (hf : ∀ x, (f x).length = size) : ∀ (l : List α) (j : Nat) (hj : j < l.length), ((l.flatMap f).drop (j * size)).take size = f l[j]
  | x :: l, 0, _ => by
    simp only [List.flatMap_cons, Nat.zero_mul, List.drop_zero, List.getElem_cons_zero]
    rw [← hf x]
    exact List.take_left
  | x :: l, j + 1, hj => by
    have ih := flat_at f size hf l j (by simpa using hj)
    simp only [List.flatMap_cons, List.getElem_cons_succ]
    rw [← ih, show (j + 1) * size = (f x).length + j * size from by rw [hf, Nat.add_mul]; omega, List.drop_length_add_append]
theorem flat_len {α : Type} (f : α → List Value) (size : Nat) (hf : ∀ x, (f x).length = size) : ∀ (l : List α), (l.flatMap f).length = l.length * size
  | [] => by simp
  | x :: l => by simp [flat_len f size hf l, hf x, Nat.add_mul]; omega

theorem RS.row {I : GH} {a : Option Addr} {n c size b : Nat} {α : Type} {f : α → List Value} (hf : ∀ x, (f x).length = size) {l : List α} (h : RS I a n c size b (l.flatMap f)) {j : Nat} (hj : j < n) (hj' : j < l.length) :
    ∃ ad, a = some ad ∧ ∀ M, Rd I M (ad.add (j * size)) size (f l[j]) := by
  obtain ⟨ad, h1, h2⟩ := h.idx hj
  refine ⟨ad, h1, fun M => ?_⟩
  have := h2 M
  rwa [flat_at f size hf l j hj'] at this

/-- A part of a row. -/
theorem Rd.part {I : GH} {M : List Blk} {a : Addr} {n k m : Nat} {vs : List Value} (h : Rd I M a n vs) (hk : k + m ≤ n) : Rd I M (a.add k) m ((vs.drop k).take m) := by
  obtain ⟨hs, cs, T, fr, h1, h2, h3⟩ := h
  refine ⟨by rw [addr_add _ hs], cs, T, fr, by rw [addr_add _ hs]; exact h1, ?_, ?_⟩
  · rw [addr_add _ hs, ← h2, List.drop_take, List.drop_drop, List.take_take]
    congr 1
    omega
  · rw [List.length_take, List.length_drop, h3]
    omega

/-! ### Nodes, trees, rules, grammars -/
/-- A node: what it says, and where its children's slice lies. -/
structure Nd where
  k : Int
  s0 : Int
  s1 : Int
  s2 : Int
  s3 : Int
  t : ByteArray
  lo : Int
  hi : Int
  ka : Option Addr
  kn : Nat
  kc : Nat
  kids : List Int
def Nd.cells (d : Nd) : List Value := [.int .u8 d.k, .int .u64 d.s0, .int .u64 d.s1, .int .u64 d.s2, .int .u64 d.s3, .string d.t, .int .i64 d.lo, .int .i64 d.hi, .slice d.ka d.kn d.kc]
def Nd.val (d : Nd) : Value := .agg #[.int .u8 d.k, .int .u64 d.s0, .int .u64 d.s1, .int .u64 d.s2, .int .u64 d.s3, .string d.t, .int .i64 d.lo, .int .i64 d.hi, .slice d.ka d.kn d.kc]
def i64ok (x : Int) : Prop := -9223372036854775808 ≤ x ∧ x ≤ 9223372036854775807
def u64ok (x : Int) : Prop := 0 ≤ x ∧ x < 18446744073709551616
structure Nd.ok (I : GH) (d : Nd) : Prop where
  k : 0 ≤ d.k ∧ d.k < 256
  s0 : u64ok d.s0
  s1 : u64ok d.s1
  s2 : u64ok d.s2
  s3 : u64ok d.s3
  t : d.t.size ≤ 9223372036854775807
  lo : i64ok d.lo
  hi : i64ok d.hi
  rs : RS I d.ka d.kn d.kc 1 8 (d.kids.map (.int .i64 ·))
  kids : ∀ x ∈ d.kids, i64ok x
theorem Nd.cells_len (d : Nd) : d.cells.length = 9 := rfl
theorem Nd.ok.kn {I : GH} {d : Nd} (h : d.ok I) : d.kids.length = d.kn := by
  have := h.rs.len
  simpa using this

structure Tr where
  ns : List Nd
  a : Option Addr
  n : Nat
  c : Nat
  root : Int
def Tr.cells (t : Tr) : List Value := [.slice t.a t.n t.c, .int .i64 t.root]
def Tr.val (t : Tr) : Value := .agg #[.slice t.a t.n t.c, .int .i64 t.root]
structure Tr.ok (I : GH) (t : Tr) : Prop where
  rs : RS I t.a t.n t.c 9 96 (t.ns.flatMap Nd.cells)
  ns : ∀ d ∈ t.ns, d.ok I
  root : i64ok t.root
theorem Tr.ok.n {I : GH} {t : Tr} (h : t.ok I) : t.ns.length = t.n := by
  have := h.rs.len
  rw [flat_len _ 9 Nd.cells_len] at this
  omega

structure Df where
  name : ByteArray
  t : Tr
def Df.cells (d : Df) : List Value := [.string d.name, .slice d.t.a d.t.n d.t.c, .int .i64 d.t.root]
structure Df.ok (I : GH) (d : Df) : Prop where
  name : d.name.size ≤ 140737488355328
  t : d.t.ok I
theorem Df.cells_len (d : Df) : d.cells.length = 3 := rfl

structure Gr where
  ds : List Df
  a : Option Addr
  n : Nat
  c : Nat
def Gr.val (g : Gr) : Value := .agg #[.slice g.a g.n g.c]
structure Gr.ok (I : GH) (g : Gr) : Prop where
  rs : RS I g.a g.n g.c 3 48 (g.ds.flatMap Df.cells)
  ds : ∀ d ∈ g.ds, d.ok I
theorem Gr.ok.n {I : GH} {g : Gr} (h : g.ok I) : g.ds.length = g.n := by
  have := h.rs.len
  rw [flat_len _ 3 Df.cells_len] at this
  omega

theorem Nd.ok.mono {I I' : GH} {d : Nd} (h : d.ok I) (hI : ∀ b o, I b = some o → I' b = some o) : d.ok I' := { h with rs := h.rs.mono hI }
theorem Tr.ok.mono {I I' : GH} {t : Tr} (h : t.ok I) (hI : ∀ b o, I b = some o → I' b = some o) : t.ok I' := ⟨h.rs.mono hI, fun d hd => (h.ns d hd).mono hI, h.root⟩
theorem Df.ok.mono {I I' : GH} {d : Df} (h : d.ok I) (hI : ∀ b o, I b = some o → I' b = some o) : d.ok I' := ⟨h.name, h.t.mono hI⟩
theorem Gr.ok.mono {I I' : GH} {g : Gr} (h : g.ok I) (hI : ∀ b o, I b = some o → I' b = some o) : g.ok I' := ⟨h.rs.mono hI, fun d hd => (h.ds d hd).mono hI⟩

/-! ### Whole numbers of 64 bits that do not wrap -/
theorem wrap_i64 {x : Int} (h : i64ok x) : IntKind.i64.wrap x = x := by
  obtain ⟨h1, h2⟩ := h
  unfold IntKind.wrap
  simp only [IntKind.bits, IntKind.signed]
  simp
  omega
end Go.V

/-
  The table of this seat's types for the executor (sizes, zero cells, fields' places), checked by the kernel against the program's own tables. Written by a program of ours.
-/
namespace Go.V
open Go Go.Proofs
def TryzE : Env := fun t => bif Nat.blt t 331 then (bif Nat.blt t 165 then (bif Nat.blt t 82 then (bif Nat.blt t 41 then (bif Nat.blt t 20 then (bif Nat.blt t 10 then (bif Nat.blt t 5 then (bif Nat.blt t 2 then (bif Nat.blt t 1 then none else some ⟨1, 8, [.nilFunc], .other⟩) else (bif Nat.blt t 3 then some ⟨1, 8, [.int .i64 0], .int .i64⟩ else (bif Nat.blt t 4 then some ⟨1, 8, [.int .i64 0], .int .i64⟩ else some ⟨1, 1, [.bool false], .bool⟩))) else (bif Nat.blt t 7 then (bif Nat.blt t 6 then some ⟨1, 1, [.int .u8 0], .int .u8⟩ else some ⟨1, 1, [.int .u8 0], .int .u8⟩) else (bif Nat.blt t 8 then some ⟨4, 24, [.int .i64 0, .int .i64 0, .bool false, .int .u8 0], .struct [(2, 0), (3, 1), (4, 2), (6, 3)]⟩ else (bif Nat.blt t 9 then some ⟨4, 24, [.int .i64 0, .int .i64 0, .bool false, .int .u8 0], .struct [(2, 0), (3, 1), (4, 2), (6, 3)]⟩ else some ⟨1, 16, [.string ⟨#[]⟩], .string⟩)))) else (bif Nat.blt t 15 then (bif Nat.blt t 12 then (bif Nat.blt t 11 then some ⟨1, 16, [.string ⟨#[]⟩], .string⟩ else some ⟨1, 16, [.string ⟨#[]⟩], .string⟩) else (bif Nat.blt t 13 then some ⟨1, 8, [.int .u64 0], .int .u64⟩ else (bif Nat.blt t 14 then some ⟨2, 24, [.string ⟨#[]⟩, .int .u64 0], .struct [(9, 0), (12, 1)]⟩ else some ⟨2, 24, [.string ⟨#[]⟩, .int .u64 0], .struct [(9, 0), (12, 1)]⟩))) else (bif Nat.blt t 17 then (bif Nat.blt t 16 then some ⟨1, 8, [.pointer none], .pointer 320⟩ else some ⟨1, 8, [.pointer none], .pointer 323⟩) else (bif Nat.blt t 18 then some ⟨1, 8, [.pointer none], .pointer 330⟩ else (bif Nat.blt t 19 then some ⟨1, 8, [.pointer none], .struct [(17, 0)]⟩ else some ⟨1, 8, [.pointer none], .struct [(17, 0)]⟩))))) else (bif Nat.blt t 30 then (bif Nat.blt t 25 then (bif Nat.blt t 22 then (bif Nat.blt t 21 then some ⟨1, 16, [.nilIface], .other⟩ else some ⟨1, 4, [.int .i32 0], .int .i32⟩) else (bif Nat.blt t 23 then some ⟨1, 24, [.slice none 0 0], .slice 46⟩ else (bif Nat.blt t 24 then some ⟨1, 24, [.slice none 0 0], .struct [(22, 0)]⟩ else some ⟨1, 24, [.slice none 0 0], .struct [(22, 0)]⟩))) else (bif Nat.blt t 27 then (bif Nat.blt t 26 then some ⟨1, 8, [.nilFunc], .other⟩ else some ⟨1, 8, [.nilFunc], .other⟩) else (bif Nat.blt t 28 then some ⟨1, 8, [.int .i64 0], .int .i64⟩ else (bif Nat.blt t 29 then none else some ⟨1, 8, [.nilFunc], .other⟩)))) else (bif Nat.blt t 35 then (bif Nat.blt t 32 then (bif Nat.blt t 31 then some ⟨1, 24, [.slice none 0 0], .slice 3⟩ else some ⟨1, 8, [.nilFunc], .other⟩) else (bif Nat.blt t 33 then some ⟨1, 8, [.nilFunc], .other⟩ else (bif Nat.blt t 34 then some ⟨1, 8, [.nilFunc], .other⟩ else some ⟨1, 8, [.nilFunc], .other⟩))) else (bif Nat.blt t 38 then (bif Nat.blt t 36 then some ⟨1, 8, [.nilFunc], .other⟩ else (bif Nat.blt t 37 then some ⟨1, 24, [.slice none 0 0], .slice 4⟩ else some ⟨2, 40, [.string ⟨#[]⟩, .slice none 0 0], .struct [(9, 0), (30, 1)]⟩)) else (bif Nat.blt t 39 then some ⟨1, 24, [.slice none 0 0], .slice 37⟩ else (bif Nat.blt t 40 then some ⟨1, 8, [.nilFunc], .other⟩ else some ⟨1, 8, [.nilFunc], .other⟩)))))) else (bif Nat.blt t 61 then (bif Nat.blt t 51 then (bif Nat.blt t 46 then (bif Nat.blt t 43 then (bif Nat.blt t 42 then some ⟨1, 24, [.slice none 0 0], .slice 82⟩ else some ⟨2, 32, [.slice none 0 0, .int .i64 0], .struct [(41, 0), (3, 1)]⟩) else (bif Nat.blt t 44 then some ⟨2, 32, [.slice none 0 0, .int .i64 0], .struct [(41, 0), (3, 1)]⟩ else (bif Nat.blt t 45 then some ⟨1, 8, [.nilFunc], .other⟩ else some ⟨3, 48, [.string ⟨#[]⟩, .slice none 0 0, .int .i64 0], .struct [(9, 0), (43, 1)]⟩))) else (bif Nat.blt t 48 then (bif Nat.blt t 47 then some ⟨3, 48, [.string ⟨#[]⟩, .slice none 0 0, .int .i64 0], .struct [(9, 0), (43, 1)]⟩ else none) else (bif Nat.blt t 49 then some ⟨1, 8, [.nilFunc], .other⟩ else (bif Nat.blt t 50 then some ⟨1, 24, [.slice none 0 0], .slice 67⟩ else some ⟨1, 8, [.nilFunc], .other⟩)))) else (bif Nat.blt t 56 then (bif Nat.blt t 53 then (bif Nat.blt t 52 then some ⟨1, 24, [.slice none 0 0], .slice 70⟩ else none) else (bif Nat.blt t 54 then some ⟨1, 8, [.nilFunc], .other⟩ else (bif Nat.blt t 55 then none else some ⟨1, 8, [.nilFunc], .other⟩))) else (bif Nat.blt t 58 then (bif Nat.blt t 57 then some ⟨1, 8, [.nilFunc], .other⟩ else some ⟨1, 8, [.nilFunc], .other⟩) else (bif Nat.blt t 59 then some ⟨1, 24, [.slice none 0 0], .slice 49⟩ else (bif Nat.blt t 60 then none else some ⟨1, 8, [.nilFunc], .other⟩))))) else (bif Nat.blt t 71 then (bif Nat.blt t 66 then (bif Nat.blt t 63 then (bif Nat.blt t 62 then none else some ⟨1, 8, [.nilFunc], .other⟩) else (bif Nat.blt t 64 then some ⟨1, 8, [.int .u64 0], .int .u64⟩ else (bif Nat.blt t 65 then some ⟨4, 32, [.int .u64 0, .int .u64 0, .int .u64 0, .int .u64 0], .array 4 63⟩ else some ⟨4, 32, [.int .u64 0, .int .u64 0, .int .u64 0, .int .u64 0], .array 4 63⟩))) else (bif Nat.blt t 68 then (bif Nat.blt t 67 then some ⟨5, 40, [.int .u64 0, .int .u64 0, .int .u64 0, .int .u64 0, .bool false], .struct [(65, 0), (4, 4)]⟩ else some ⟨5, 40, [.int .u64 0, .int .u64 0, .int .u64 0, .int .u64 0, .bool false], .struct [(65, 0), (4, 4)]⟩) else (bif Nat.blt t 69 then none else (bif Nat.blt t 70 then some ⟨1, 8, [.nilFunc], .other⟩ else some ⟨5, 40, [.int .u64 0, .int .u64 0, .int .u64 0, .int .u64 0, .bool false], .struct [(65, 0), (4, 4)]⟩)))) else (bif Nat.blt t 76 then (bif Nat.blt t 73 then (bif Nat.blt t 72 then none else some ⟨1, 8, [.nilFunc], .other⟩) else (bif Nat.blt t 74 then some ⟨1, 8, [.nilFunc], .other⟩ else (bif Nat.blt t 75 then some ⟨1, 24, [.slice none 0 0], .slice 80⟩ else none))) else (bif Nat.blt t 79 then (bif Nat.blt t 77 then some ⟨1, 8, [.nilFunc], .other⟩ else (bif Nat.blt t 78 then none else some ⟨1, 8, [.nilFunc], .other⟩)) else (bif Nat.blt t 80 then some ⟨3, 3, [.bool false, .bool false, .bool false], .struct [(4, 0), (4, 1), (4, 2)]⟩ else (bif Nat.blt t 81 then some ⟨3, 3, [.bool false, .bool false, .bool false], .struct [(4, 0), (4, 1), (4, 2)]⟩ else some ⟨9, 96, [.int .u8 0, .int .u64 0, .int .u64 0, .int .u64 0, .int .u64 0, .string ⟨#[]⟩, .int .i64 0, .int .i64 0, .slice none 0 0], .struct [(5, 0), (65, 1), (9, 5), (3, 6), (3, 7), (30, 8)]⟩))))))) else (bif Nat.blt t 123 then (bif Nat.blt t 102 then (bif Nat.blt t 92 then (bif Nat.blt t 87 then (bif Nat.blt t 84 then (bif Nat.blt t 83 then some ⟨9, 96, [.int .u8 0, .int .u64 0, .int .u64 0, .int .u64 0, .int .u64 0, .string ⟨#[]⟩, .int .i64 0, .int .i64 0, .slice none 0 0], .struct [(5, 0), (65, 1), (9, 5), (3, 6), (3, 7), (30, 8)]⟩ else some ⟨1, 8, [.nilFunc], .other⟩) else (bif Nat.blt t 85 then some ⟨1, 8, [.nilFunc], .other⟩ else (bif Nat.blt t 86 then some ⟨3, 40, [.string ⟨#[]⟩, .string ⟨#[]⟩, .bool false], .struct [(9, 0), (9, 1), (4, 2)]⟩ else some ⟨1, 24, [.slice none 0 0], .slice 85⟩))) else (bif Nat.blt t 89 then (bif Nat.blt t 88 then some ⟨1, 8, [.nilFunc], .other⟩ else some ⟨1, 8, [.nilFunc], .other⟩) else (bif Nat.blt t 90 then some ⟨1, 8, [.nilFunc], .other⟩ else (bif Nat.blt t 91 then some ⟨1, 8, [.nilFunc], .other⟩ else some ⟨1, 8, [.nilFunc], .other⟩)))) else (bif Nat.blt t 97 then (bif Nat.blt t 94 then (bif Nat.blt t 93 then some ⟨1, 8, [.nilFunc], .other⟩ else some ⟨1, 8, [.nilFunc], .other⟩) else (bif Nat.blt t 95 then some ⟨1, 8, [.nilFunc], .other⟩ else (bif Nat.blt t 96 then none else some ⟨1, 8, [.nilFunc], .other⟩))) else (bif Nat.blt t 99 then (bif Nat.blt t 98 then none else some ⟨1, 8, [.nilFunc], .other⟩) else (bif Nat.blt t 100 then some ⟨1, 8, [.nilFunc], .other⟩ else (bif Nat.blt t 101 then some ⟨1, 8, [.nilFunc], .other⟩ else some ⟨1, 8, [.nilFunc], .other⟩))))) else (bif Nat.blt t 112 then (bif Nat.blt t 107 then (bif Nat.blt t 104 then (bif Nat.blt t 103 then some ⟨1, 24, [.slice none 0 0], .slice 30⟩ else some ⟨1, 8, [.nilFunc], .other⟩) else (bif Nat.blt t 105 then some ⟨1, 24, [.slice none 0 0], .slice 161⟩ else (bif Nat.blt t 106 then none else some ⟨1, 8, [.nilFunc], .other⟩))) else (bif Nat.blt t 109 then (bif Nat.blt t 108 then some ⟨1, 8, [.nilFunc], .other⟩ else some ⟨64, 512, List.replicate 64 (.int .u64 0), .array 64 63⟩) else (bif Nat.blt t 110 then some ⟨64, 512, List.replicate 64 (.int .u64 0), .array 64 63⟩ else (bif Nat.blt t 111 then some ⟨66, 528, [.int .i64 0, .int .u64 0, .int .u64 0, .int .u64 0, .int .u64 0, .int .u64 0, .int .u64 0, .int .u64 0, .int .u64 0, .int .u64 0, .int .u64 0, .int .u64 0, .int .u64 0, .int .u64 0, .int .u64 0, .int .u64 0, .int .u64 0, .int .u64 0, .int .u64 0, .int .u64 0, .int .u64 0, .int .u64 0, .int .u64 0, .int .u64 0, .int .u64 0, .int .u64 0, .int .u64 0, .int .u64 0, .int .u64 0, .int .u64 0, .int .u64 0, .int .u64 0, .int .u64 0, .int .u64 0, .int .u64 0, .int .u64 0, .int .u64 0, .int .u64 0, .int .u64 0, .int .u64 0, .int .u64 0, .int .u64 0, .int .u64 0, .int .u64 0, .int .u64 0, .int .u64 0, .int .u64 0, .int .u64 0, .int .u64 0, .int .u64 0, .int .u64 0, .int .u64 0, .int .u64 0, .int .u64 0, .int .u64 0, .int .u64 0, .int .u64 0, .int .u64 0, .int .u64 0, .int .u64 0, .int .u64 0, .int .u64 0, .int .u64 0, .int .u64 0, .int .u64 0, .int .u64 0], .struct [(3, 0), (109, 1), (63, 65)]⟩ else some ⟨66, 528, [.int .i64 0, .int .u64 0, .int .u64 0, .int .u64 0, .int .u64 0, .int .u64 0, .int .u64 0, .int .u64 0, .int .u64 0, .int .u64 0, .int .u64 0, .int .u64 0, .int .u64 0, .int .u64 0, .int .u64 0, .int .u64 0, .int .u64 0, .int .u64 0, .int .u64 0, .int .u64 0, .int .u64 0, .int .u64 0, .int .u64 0, .int .u64 0, .int .u64 0, .int .u64 0, .int .u64 0, .int .u64 0, .int .u64 0, .int .u64 0, .int .u64 0, .int .u64 0, .int .u64 0, .int .u64 0, .int .u64 0, .int .u64 0, .int .u64 0, .int .u64 0, .int .u64 0, .int .u64 0, .int .u64 0, .int .u64 0, .int .u64 0, .int .u64 0, .int .u64 0, .int .u64 0, .int .u64 0, .int .u64 0, .int .u64 0, .int .u64 0, .int .u64 0, .int .u64 0, .int .u64 0, .int .u64 0, .int .u64 0, .int .u64 0, .int .u64 0, .int .u64 0, .int .u64 0, .int .u64 0, .int .u64 0, .int .u64 0, .int .u64 0, .int .u64 0, .int .u64 0, .int .u64 0], .struct [(3, 0), (109, 1), (63, 65)]⟩)))) else (bif Nat.blt t 117 then (bif Nat.blt t 114 then (bif Nat.blt t 113 then none else some ⟨1, 8, [.nilFunc], .other⟩) else (bif Nat.blt t 115 then some ⟨1, 8, [.nilFunc], .other⟩ else (bif Nat.blt t 116 then some ⟨1, 8, [.nilFunc], .other⟩ else some ⟨1, 8, [.nilFunc], .other⟩))) else (bif Nat.blt t 120 then (bif Nat.blt t 118 then some ⟨1, 8, [.nilFunc], .other⟩ else (bif Nat.blt t 119 then some ⟨1, 8, [.nilFunc], .other⟩ else some ⟨1, 8, [.map none], .map 9 3⟩)) else (bif Nat.blt t 121 then none else (bif Nat.blt t 122 then some ⟨1, 8, [.nilFunc], .other⟩ else some ⟨1, 8, [.nilFunc], .other⟩)))))) else (bif Nat.blt t 144 then (bif Nat.blt t 133 then (bif Nat.blt t 128 then (bif Nat.blt t 125 then (bif Nat.blt t 124 then some ⟨1, 8, [.nilFunc], .other⟩ else some ⟨1, 8, [.nilFunc], .other⟩) else (bif Nat.blt t 126 then some ⟨1, 8, [.pointer none], .pointer 132⟩ else (bif Nat.blt t 127 then none else some ⟨1, 8, [.nilFunc], .other⟩))) else (bif Nat.blt t 130 then (bif Nat.blt t 129 then some ⟨1, 8, [.nilFunc], .other⟩ else some ⟨1, 24, [.slice none 0 0], .slice 173⟩) else (bif Nat.blt t 131 then some ⟨1, 24, [.slice none 0 0], .slice 209⟩ else (bif Nat.blt t 132 then some ⟨8, 160, [.slice none 0 0, .int .i64 0, .int .i64 0, .slice none 0 0, .slice none 0 0, .slice none 0 0, .slice none 0 0, .slice none 0 0], .struct [(129, 0), (3, 1), (3, 2), (41, 3), (130, 4), (22, 5), (129, 6), (129, 7)]⟩ else some ⟨8, 160, [.slice none 0 0, .int .i64 0, .int .i64 0, .slice none 0 0, .slice none 0 0, .slice none 0 0, .slice none 0 0, .slice none 0 0], .struct [(129, 0), (3, 1), (3, 2), (41, 3), (130, 4), (22, 5), (129, 6), (129, 7)]⟩)))) else (bif Nat.blt t 138 then (bif Nat.blt t 135 then (bif Nat.blt t 134 then some ⟨1, 8, [.nilFunc], .other⟩ else some ⟨1, 24, [.slice none 0 0], .slice 74⟩) else (bif Nat.blt t 136 then some ⟨1, 8, [.nilFunc], .other⟩ else (bif Nat.blt t 137 then some ⟨1, 8, [.nilFunc], .other⟩ else some ⟨1, 8, [.nilFunc], .other⟩))) else (bif Nat.blt t 141 then (bif Nat.blt t 139 then some ⟨1, 8, [.nilFunc], .other⟩ else (bif Nat.blt t 140 then some ⟨1, 8, [.nilFunc], .other⟩ else some ⟨1, 8, [.nilFunc], .other⟩)) else (bif Nat.blt t 142 then none else (bif Nat.blt t 143 then some ⟨1, 8, [.nilFunc], .other⟩ else some ⟨1, 8, [.nilFunc], .other⟩))))) else (bif Nat.blt t 154 then (bif Nat.blt t 149 then (bif Nat.blt t 146 then (bif Nat.blt t 145 then some ⟨1, 8, [.nilFunc], .other⟩ else some ⟨1, 8, [.nilFunc], .other⟩) else (bif Nat.blt t 147 then some ⟨1, 8, [.nilFunc], .other⟩ else (bif Nat.blt t 148 then some ⟨1, 8, [.nilFunc], .other⟩ else some ⟨1, 24, [.slice none 0 0], .slice 43⟩))) else (bif Nat.blt t 151 then (bif Nat.blt t 150 then some ⟨1, 8, [.nilFunc], .other⟩ else some ⟨1, 8, [.nilFunc], .other⟩) else (bif Nat.blt t 152 then some ⟨1, 24, [.slice none 0 0], .struct [(41, 0)]⟩ else (bif Nat.blt t 153 then some ⟨1, 24, [.slice none 0 0], .struct [(41, 0)]⟩ else some ⟨1, 8, [.nilFunc], .other⟩)))) else (bif Nat.blt t 159 then (bif Nat.blt t 156 then (bif Nat.blt t 155 then some ⟨10, 80, [.nilFunc, .nilFunc, .nilFunc, .nilFunc, .nilFunc, .nilFunc, .nilFunc, .nilFunc, .nilFunc, .nilFunc], .array 10 153⟩ else some ⟨1, 8, [.nilFunc], .other⟩) else (bif Nat.blt t 157 then some ⟨1, 8, [.pointer none], .pointer 152⟩ else (bif Nat.blt t 158 then some ⟨1, 8, [.nilFunc], .other⟩ else some ⟨1, 8, [.nilFunc], .other⟩))) else (bif Nat.blt t 162 then (bif Nat.blt t 160 then some ⟨1, 8, [.nilFunc], .other⟩ else (bif Nat.blt t 161 then some ⟨1, 8, [.nilFunc], .other⟩ else some ⟨3, 3, [.bool false, .bool false, .bool false], .struct [(4, 0), (4, 1), (4, 2)]⟩)) else (bif Nat.blt t 163 then none else (bif Nat.blt t 164 then some ⟨1, 8, [.nilFunc], .other⟩ else some ⟨1, 8, [.nilFunc], .other⟩)))))))) else (bif Nat.blt t 248 then (bif Nat.blt t 206 then (bif Nat.blt t 185 then (bif Nat.blt t 175 then (bif Nat.blt t 170 then (bif Nat.blt t 167 then (bif Nat.blt t 166 then some ⟨1, 8, [.nilFunc], .other⟩ else some ⟨1, 8, [.nilFunc], .other⟩) else (bif Nat.blt t 168 then some ⟨1, 8, [.nilFunc], .other⟩ else (bif Nat.blt t 169 then some ⟨1, 8, [.nilFunc], .other⟩ else none))) else (bif Nat.blt t 172 then (bif Nat.blt t 171 then some ⟨1, 8, [.nilFunc], .other⟩ else some ⟨1, 8, [.nilFunc], .other⟩) else (bif Nat.blt t 173 then some ⟨10, 88, [.int .u8 0, .int .i64 0, .int .i64 0, .string ⟨#[]⟩, .int .u64 0, .int .u64 0, .int .u64 0, .int .u64 0, .int .i64 0, .int .i64 0], .struct [(5, 0), (3, 1), (3, 2), (9, 3), (65, 4), (3, 8), (3, 9)]⟩ else (bif Nat.blt t 174 then some ⟨10, 88, [.int .u8 0, .int .i64 0, .int .i64 0, .string ⟨#[]⟩, .int .u64 0, .int .u64 0, .int .u64 0, .int .u64 0, .int .i64 0, .int .i64 0], .struct [(5, 0), (3, 1), (3, 2), (9, 3), (65, 4), (3, 8), (3, 9)]⟩ else some ⟨1, 8, [.nilFunc], .other⟩)))) else (bif Nat.blt t 180 then (bif Nat.blt t 177 then (bif Nat.blt t 176 then some ⟨1, 8, [.nilFunc], .other⟩ else some ⟨10, 80, [.nilFunc, .nilFunc, .nilFunc, .nilFunc, .nilFunc, .nilFunc, .nilFunc, .nilFunc, .nilFunc, .nilFunc], .array 10 175⟩) else (bif Nat.blt t 178 then some ⟨1, 8, [.nilFunc], .other⟩ else (bif Nat.blt t 179 then some ⟨1, 8, [.nilFunc], .other⟩ else some ⟨10, 80, [.nilFunc, .nilFunc, .nilFunc, .nilFunc, .nilFunc, .nilFunc, .nilFunc, .nilFunc, .nilFunc, .nilFunc], .array 10 178⟩))) else (bif Nat.blt t 182 then (bif Nat.blt t 181 then some ⟨1, 8, [.nilFunc], .other⟩ else some ⟨1, 8, [.nilFunc], .other⟩) else (bif Nat.blt t 183 then some ⟨1, 8, [.nilFunc], .other⟩ else (bif Nat.blt t 184 then some ⟨1, 8, [.nilFunc], .other⟩ else some ⟨1, 8, [.nilFunc], .other⟩))))) else (bif Nat.blt t 195 then (bif Nat.blt t 190 then (bif Nat.blt t 187 then (bif Nat.blt t 186 then some ⟨1, 8, [.nilFunc], .other⟩ else some ⟨1, 8, [.nilFunc], .other⟩) else (bif Nat.blt t 188 then some ⟨1, 8, [.nilFunc], .other⟩ else (bif Nat.blt t 189 then some ⟨1, 8, [.nilFunc], .other⟩ else some ⟨1, 8, [.nilFunc], .other⟩))) else (bif Nat.blt t 192 then (bif Nat.blt t 191 then some ⟨1, 8, [.nilFunc], .other⟩ else some ⟨1, 8, [.nilFunc], .other⟩) else (bif Nat.blt t 193 then some ⟨1, 8, [.nilFunc], .other⟩ else (bif Nat.blt t 194 then some ⟨1, 8, [.nilFunc], .other⟩ else some ⟨1, 8, [.nilFunc], .other⟩)))) else (bif Nat.blt t 200 then (bif Nat.blt t 197 then (bif Nat.blt t 196 then some ⟨1, 8, [.nilFunc], .other⟩ else some ⟨1, 8, [.nilFunc], .other⟩) else (bif Nat.blt t 198 then some ⟨1, 8, [.nilFunc], .other⟩ else (bif Nat.blt t 199 then some ⟨1, 8, [.nilFunc], .other⟩ else none))) else (bif Nat.blt t 203 then (bif Nat.blt t 201 then some ⟨1, 8, [.nilFunc], .other⟩ else (bif Nat.blt t 202 then some ⟨1, 8, [.nilFunc], .other⟩ else none)) else (bif Nat.blt t 204 then some ⟨1, 8, [.nilFunc], .other⟩ else (bif Nat.blt t 205 then some ⟨1, 8, [.nilFunc], .other⟩ else some ⟨2, 16, [.int .i64 0, .int .i64 0], .array 2 3⟩)))))) else (bif Nat.blt t 227 then (bif Nat.blt t 216 then (bif Nat.blt t 211 then (bif Nat.blt t 208 then (bif Nat.blt t 207 then some ⟨20, 160, List.replicate 20 (.int .i64 0), .array 10 205⟩ else some ⟨1, 24, [.slice none 0 0], .slice 5⟩) else (bif Nat.blt t 209 then some ⟨5, 96, [.int .u8 0, .string ⟨#[]⟩, .slice none 0 0, .slice none 0 0, .slice none 0 0], .struct [(5, 0), (9, 1), (30, 2), (30, 3), (207, 4)]⟩ else (bif Nat.blt t 210 then some ⟨5, 96, [.int .u8 0, .string ⟨#[]⟩, .slice none 0 0, .slice none 0 0, .slice none 0 0], .struct [(5, 0), (9, 1), (30, 2), (30, 3), (207, 4)]⟩ else none))) else (bif Nat.blt t 213 then (bif Nat.blt t 212 then some ⟨1, 8, [.nilFunc], .other⟩ else some ⟨1, 8, [.nilFunc], .other⟩) else (bif Nat.blt t 214 then some ⟨1, 8, [.nilFunc], .other⟩ else (bif Nat.blt t 215 then some ⟨1, 8, [.pointer none], .pointer 209⟩ else some ⟨1, 8, [.nilFunc], .other⟩)))) else (bif Nat.blt t 221 then (bif Nat.blt t 218 then (bif Nat.blt t 217 then some ⟨1, 8, [.nilFunc], .other⟩ else some ⟨1, 8, [.nilFunc], .other⟩) else (bif Nat.blt t 219 then some ⟨1, 8, [.nilFunc], .other⟩ else (bif Nat.blt t 220 then some ⟨1, 8, [.nilFunc], .other⟩ else some ⟨1, 8, [.nilFunc], .other⟩))) else (bif Nat.blt t 224 then (bif Nat.blt t 222 then some ⟨1, 8, [.nilFunc], .other⟩ else (bif Nat.blt t 223 then some ⟨1, 8, [.nilFunc], .other⟩ else some ⟨1, 8, [.nilFunc], .other⟩)) else (bif Nat.blt t 225 then some ⟨1, 8, [.nilFunc], .other⟩ else (bif Nat.blt t 226 then some ⟨1, 8, [.nilFunc], .other⟩ else some ⟨1, 8, [.nilFunc], .other⟩))))) else (bif Nat.blt t 237 then (bif Nat.blt t 232 then (bif Nat.blt t 229 then (bif Nat.blt t 228 then some ⟨1, 8, [.pointer none], .pointer 229⟩ else some ⟨2, 32, [.pointer none, .slice none 0 0], .struct [(227, 0), (207, 1)]⟩) else (bif Nat.blt t 230 then some ⟨2, 32, [.pointer none, .slice none 0 0], .struct [(227, 0), (207, 1)]⟩ else (bif Nat.blt t 231 then some ⟨1, 16, [.nilIface], .other⟩ else some ⟨1, 16, [.nilIface], .other⟩))) else (bif Nat.blt t 234 then (bif Nat.blt t 233 then none else some ⟨1, 8, [.nilFunc], .other⟩) else (bif Nat.blt t 235 then some ⟨1, 8, [.nilFunc], .other⟩ else (bif Nat.blt t 236 then some ⟨1, 8, [.nilFunc], .other⟩ else some ⟨1, 8, [.nilFunc], .other⟩)))) else (bif Nat.blt t 242 then (bif Nat.blt t 239 then (bif Nat.blt t 238 then some ⟨1, 8, [.nilFunc], .other⟩ else some ⟨1, 8, [.nilFunc], .other⟩) else (bif Nat.blt t 240 then none else (bif Nat.blt t 241 then some ⟨1, 8, [.nilFunc], .other⟩ else some ⟨1, 8, [.nilFunc], .other⟩))) else (bif Nat.blt t 245 then (bif Nat.blt t 243 then some ⟨1, 8, [.nilFunc], .other⟩ else (bif Nat.blt t 244 then some ⟨1, 8, [.nilFunc], .other⟩ else some ⟨1, 8, [.pointer none], .pointer 5⟩)) else (bif Nat.blt t 246 then some ⟨1, 8, [.nilFunc], .other⟩ else (bif Nat.blt t 247 then some ⟨1, 8, [.map none], .map 5 250⟩ else some ⟨1, 8, [.nilFunc], .other⟩))))))) else (bif Nat.blt t 289 then (bif Nat.blt t 268 then (bif Nat.blt t 258 then (bif Nat.blt t 253 then (bif Nat.blt t 250 then (bif Nat.blt t 249 then some ⟨1, 8, [.nilFunc], .other⟩ else some ⟨1, 8, [.nilFunc], .other⟩) else (bif Nat.blt t 251 then some ⟨1, 8, [.nilFunc], .other⟩ else none)) else (bif Nat.blt t 255 then (bif Nat.blt t 254 then some ⟨1, 24, [.slice none 0 0], .slice 9⟩ else some ⟨1, 8, [.nilFunc], .other⟩) else (bif Nat.blt t 256 then some ⟨1, 8, [.nilFunc], .other⟩ else (bif Nat.blt t 257 then some ⟨3, 24, [.int .i64 0, .int .i64 0, .bool false], .struct [(3, 0), (3, 1), (4, 2)]⟩ else some ⟨3, 24, [.int .i64 0, .int .i64 0, .bool false], .struct [(3, 0), (3, 1), (4, 2)]⟩)))) else (bif Nat.blt t 263 then (bif Nat.blt t 260 then (bif Nat.blt t 259 then some ⟨1, 24, [.slice none 0 0], .slice 257⟩ else some ⟨1, 8, [.pointer none], .pointer 257⟩) else (bif Nat.blt t 261 then some ⟨1, 8, [.nilFunc], .other⟩ else (bif Nat.blt t 262 then some ⟨1, 8, [.nilFunc], .other⟩ else some ⟨3, 48, [.string ⟨#[]⟩, .string ⟨#[]⟩, .string ⟨#[]⟩], .struct [(9, 0), (9, 1), (9, 2)]⟩))) else (bif Nat.blt t 265 then (bif Nat.blt t 264 then some ⟨30, 480, List.replicate 30 (.string ⟨#[]⟩), .array 10 262⟩ else some ⟨1, 8, [.pointer none], .other⟩) else (bif Nat.blt t 266 then some ⟨1, 8, [.nilFunc], .other⟩ else (bif Nat.blt t 267 then some ⟨1, 8, [.nilFunc], .other⟩ else some ⟨1, 8, [.nilFunc], .other⟩))))) else (bif Nat.blt t 278 then (bif Nat.blt t 273 then (bif Nat.blt t 270 then (bif Nat.blt t 269 then some ⟨1, 24, [.slice none 0 0], .slice 270⟩ else some ⟨1, 8, [.nilFunc], .other⟩) else (bif Nat.blt t 271 then some ⟨2, 2, [.int .u8 0, .int .u8 0], .array 2 5⟩ else (bif Nat.blt t 272 then some ⟨1, 8, [.nilFunc], .other⟩ else some ⟨1, 8, [.nilFunc], .other⟩))) else (bif Nat.blt t 275 then (bif Nat.blt t 274 then none else some ⟨1, 8, [.nilFunc], .other⟩) else (bif Nat.blt t 276 then some ⟨1, 8, [.nilFunc], .other⟩ else (bif Nat.blt t 277 then none else some ⟨1, 8, [.nilFunc], .other⟩)))) else (bif Nat.blt t 283 then (bif Nat.blt t 280 then (bif Nat.blt t 279 then none else some ⟨1, 8, [.nilFunc], .other⟩) else (bif Nat.blt t 281 then some ⟨1, 8, [.nilFunc], .other⟩ else (bif Nat.blt t 282 then some ⟨1, 8, [.nilFunc], .other⟩ else some ⟨1, 8, [.nilFunc], .other⟩))) else (bif Nat.blt t 286 then (bif Nat.blt t 284 then some ⟨1, 8, [.nilFunc], .other⟩ else (bif Nat.blt t 285 then some ⟨3, 32, [.int .i64 0, .int .i64 0, .string ⟨#[]⟩], .struct [(3, 0), (3, 1), (9, 2)]⟩ else some ⟨9, 96, [.int .i64 0, .int .i64 0, .string ⟨#[]⟩, .int .i64 0, .int .i64 0, .string ⟨#[]⟩, .int .i64 0, .int .i64 0, .string ⟨#[]⟩], .array 3 284⟩)) else (bif Nat.blt t 287 then some ⟨1, 8, [.pointer none], .pointer 293⟩ else (bif Nat.blt t 288 then some ⟨1, 8, [.nilFunc], .other⟩ else some ⟨1, 8, [.nilFunc], .other⟩)))))) else (bif Nat.blt t 310 then (bif Nat.blt t 299 then (bif Nat.blt t 294 then (bif Nat.blt t 291 then (bif Nat.blt t 290 then some ⟨1, 8, [.nilFunc], .other⟩ else some ⟨1, 8, [.nilFunc], .other⟩) else (bif Nat.blt t 292 then some ⟨1, 8, [.map none], .map 5 5⟩ else (bif Nat.blt t 293 then some ⟨6, 64, [.string ⟨#[]⟩, .string ⟨#[]⟩, .int .u8 0, .map none, .int .i64 0, .int .i64 0], .struct [(9, 0), (9, 1), (5, 2), (291, 3), (3, 4), (27, 5)]⟩ else some ⟨6, 64, [.string ⟨#[]⟩, .string ⟨#[]⟩, .int .u8 0, .map none, .int .i64 0, .int .i64 0], .struct [(9, 0), (9, 1), (5, 2), (291, 3), (3, 4), (27, 5)]⟩))) else (bif Nat.blt t 296 then (bif Nat.blt t 295 then none else some ⟨1, 8, [.nilFunc], .other⟩) else (bif Nat.blt t 297 then some ⟨1, 8, [.nilFunc], .other⟩ else (bif Nat.blt t 298 then some ⟨1, 8, [.int .u64 0], .int .u64⟩ else some ⟨1, 8, [.nilFunc], .other⟩)))) else (bif Nat.blt t 304 then (bif Nat.blt t 301 then (bif Nat.blt t 300 then some ⟨1, 8, [.nilFunc], .other⟩ else some ⟨1, 8, [.nilFunc], .other⟩) else (bif Nat.blt t 302 then some ⟨1, 8, [.nilFunc], .other⟩ else (bif Nat.blt t 303 then some ⟨1, 8, [.nilFunc], .other⟩ else some ⟨64, 64, List.replicate 64 (.int .u8 0), .array 64 5⟩))) else (bif Nat.blt t 307 then (bif Nat.blt t 305 then some ⟨1, 8, [.nilFunc], .other⟩ else (bif Nat.blt t 306 then some ⟨1, 4, [.int .u32 0], .int .u32⟩ else none)) else (bif Nat.blt t 308 then some ⟨1, 8, [.nilFunc], .other⟩ else (bif Nat.blt t 309 then some ⟨24, 24, List.replicate 24 (.int .u8 0), .array 24 5⟩ else some ⟨1, 8, [.nilFunc], .other⟩))))) else (bif Nat.blt t 320 then (bif Nat.blt t 315 then (bif Nat.blt t 312 then (bif Nat.blt t 311 then none else some ⟨1, 8, [.nilFunc], .other⟩) else (bif Nat.blt t 313 then some ⟨1, 8, [.nilFunc], .other⟩ else (bif Nat.blt t 314 then some ⟨20, 160, List.replicate 20 (.int .u64 0), .array 20 63⟩ else some ⟨65, 65, List.replicate 65 (.int .u8 0), .array 65 5⟩))) else (bif Nat.blt t 317 then (bif Nat.blt t 316 then some ⟨1, 8, [.nilFunc], .other⟩ else some ⟨1, 8, [.nilFunc], .other⟩) else (bif Nat.blt t 318 then some ⟨1, 8, [.nilFunc], .other⟩ else (bif Nat.blt t 319 then some ⟨32, 32, List.replicate 32 (.int .u8 0), .array 32 5⟩ else some ⟨4, 40, [.pointer none, .pointer none, .pointer none, .string ⟨#[]⟩], .struct [(17, 0), (17, 1), (17, 2), (9, 3)]⟩)))) else (bif Nat.blt t 325 then (bif Nat.blt t 322 then (bif Nat.blt t 321 then some ⟨4, 40, [.pointer none, .pointer none, .pointer none, .string ⟨#[]⟩], .struct [(17, 0), (17, 1), (17, 2), (9, 3)]⟩ else some ⟨0, 0, [], .array 0 16⟩) else (bif Nat.blt t 323 then some ⟨0, 0, [], .struct [(321, 0)]⟩ else (bif Nat.blt t 324 then some ⟨0, 0, [], .struct [(321, 0)]⟩ else some ⟨1, 1, [.int .u8 0], .int .u8⟩))) else (bif Nat.blt t 328 then (bif Nat.blt t 326 then some ⟨1, 1, [.int .u8 0], .int .u8⟩ else (bif Nat.blt t 327 then some ⟨1, 8, [.nilFunc], .other⟩ else some ⟨1, 4, [.int .i32 0], .int .i32⟩)) else (bif Nat.blt t 329 then some ⟨1, 4, [.int .i32 0], .int .i32⟩ else (bif Nat.blt t 330 then some ⟨11, 48, [.int .u64 0, .int .u64 0, .int .u32 0, .int .u8 0, .int .u8 0, .int .u8 0, .int .u8 0, .nilFunc, .pointer none, .int .i32 0, .int .i32 0], .struct [(12, 0), (12, 1), (305, 2), (324, 3), (5, 4), (5, 5), (325, 6), (326, 7), (244, 8), (327, 9), (328, 10)]⟩ else some ⟨11, 48, [.int .u64 0, .int .u64 0, .int .u32 0, .int .u8 0, .int .u8 0, .int .u8 0, .int .u8 0, .nilFunc, .pointer none, .int .i32 0, .int .i32 0], .struct [(12, 0), (12, 1), (305, 2), (324, 3), (5, 4), (5, 5), (325, 6), (326, 7), (244, 8), (327, 9), (328, 10)]⟩))))))))) else none
theorem TryzEOK : EOK Tryz.prog TryzE := eok_of_chk 331 (fun t h => by
  have h' : Nat.blt t 331 = false := by
    cases hb : Nat.blt t 331 with
    | false => rfl
    | true => exact absurd (Nat.le_of_ble_eq_true hb) (by omega)
  simp only [TryzE, h', cond_false]) (by kernel_rfl)
end Go.V

/-
  Walks: names (name.Letter, name.digit, name.Take, name.May), strings.Clone.
-/
set_option linter.unusedVariables false
set_option linter.unusedSimpArgs false
namespace Go.V
open Go Go.Proofs

def letter (c : UInt8) : Bool := decide (97 ≤ c.toNat ∧ c.toNat ≤ 122) || (decide (65 ≤ c.toNat ∧ c.toNat ≤ 90) || decide (c.toNat = 95))
def digit (c : UInt8) : Bool := decide (48 ≤ c.toNat ∧ c.toNat ≤ 57)

theorem Letter_spec (I : GH) (c : UInt8) : Spec Tryz.prog 147 [.int .u8 c.toNat] I [] (fun v I' M' => v = .bool (letter c) ∧ I' = I ∧ M' = []) := by
  refine spec_of_V [] TryzEOK Tryz.func147 rfl rfl rfl ?_
  intro B h0
  repeat' (refine GuardOb.mk (fun h => ?_) (fun h => ?_))
  all_goals
    refine ⟨_, _, .refl, ?_⟩
    refine ⟨?_, rfl, rfl⟩
    simp_all [letter]
    all_goals first
      | omega
      | (rw [Bool.eq_iff_iff]; simp; omega)
theorem digit_spec (I : GH) (c : UInt8) : Spec Tryz.prog 148 [.int .u8 c.toNat] I [] (fun v I' M' => v = .bool (digit c) ∧ I' = I ∧ M' = []) := by
  refine spec_of_V [] TryzEOK Tryz.func148 rfl rfl rfl ?_
  intro B h0
  repeat' (refine GuardOb.mk (fun h => ?_) (fun h => ?_))
  all_goals
    refine ⟨_, _, .refl, ?_⟩
    refine ⟨?_, rfl, rfl⟩
    simp_all [digit]
    all_goals first
      | omega
      | (rw [Bool.eq_iff_iff]; simp; omega)

theorem bytes_len (s : ByteArray) : s.data.toList.length = s.size := Array.length_toList

theorem SClone_spec (I : GH) (s : ByteArray) (hs : s.size ≤ 140737488355328) : Spec Tryz.prog 190 [.string s] I [] (fun v I' M' => v = .string s ∧ I' = I ∧ M' = []) := by
  refine spec_of_V [] TryzEOK Tryz.func190 rfl rfl rfl ?_
  intro B h0
  refine CondOb.mk (fun h => ?_) (fun h => ?_)
  · refine ⟨_, _, .refl, ?_, rfl, rfl⟩
    have h1 : s.size = 0 := by simpa using h
    have : s = .empty := by
      apply ByteArray.ext
      exact Array.eq_empty_of_size_eq_zero h1
    rw [this]
    rfl
  · have h1 : s.size ≠ 0 := by simpa using h
    refine MakeOb.mk s.size s.size rfl rfl (Nat.le_refl _) (by show 1 * s.size ≤ _; omega) (by omega) ?_
    refine AllocOb.mk fun b hb hbM => ?_
    refine OtherOb.copyS TryzEOK rfl (by simp) (e := 5) rfl rfl rfl rfl rfl rfl (Nat.le_refl _) ?_ (.refl _) ?_
    · simp [rowOf_eq, madeCells]
    refine IdxOb.mk ⟨b, 0, none⟩ 0 rfl rfl (by omega) ?_
    refine OtherOb.ustring TryzEOK rfl (by simp) (e := 5) rfl rfl rfl rfl (g := b) (l := s.data.toList) rfl ?_ ?_ ?_ (.refl _) ?_ ?_
    · show SV.val (.int .i64 (s.size : Int)) = SV.val (.int .i64 (s.data.toList.length : Int))
      rw [bytes_len]
    · intro e
      have := congrArg List.length e
      rw [bytes_len] at this
      exact h1 this
    · rw [bytes_len]; omega
    · rw [bytes_len]
      have hl : (byteVals s).length = s.size := by simp [byteVals]
      simp only [splice]
      rw [List.take_zero, List.nil_append, List.take_append_of_le_length (by rw [hl]; exact Nat.le_refl _), ← hl, List.take_length]
      rfl
    · exact ⟨_, _, .refl, rfl, rfl, rfl⟩

theorem Clone_spec (I : GH) (s : ByteArray) (hs : s.size ≤ 140737488355328) : Spec Tryz.prog 149 [.string s] I [] (fun v I' M' => v = .string s ∧ I' = I ∧ M' = []) := by
  refine spec_of_V [] TryzEOK Tryz.func149 rfl rfl rfl ?_
  intro B h0
  refine CallOb.mk [] [] _ (.refl _) (SClone_spec I s hs) ?_
  rintro v I' M' - ⟨rfl, rfl, rfl⟩
  exact ⟨_, _, .refl, rfl, rfl, rfl⟩

def nameCh (c : UInt8) : Bool := letter c || digit c
def nameLen (s : ByteArray) : Nat := match s.data.toList with
  | [] => 0
  | c :: r => bif letter c then 1 + (r.takeWhile nameCh).length else 0

theorem takeWhile_len {α : Type} (p : α → Bool) : ∀ (l : List α) (i : Nat), i ≤ l.length → (∀ j (h : j < l.length), j < i → p l[j] = true) → (∀ (h : i < l.length), p l[i] = false) → (l.takeWhile p).length = i
  | [], i, h, _, _ => by simp at h; simp [h]
  | x :: l, 0, _, _, h => by
    have := h (by simp)
    simp only [List.getElem_cons_zero] at this
    simp [this]
  | x :: l, i + 1, hi, h1, h2 => by
    have hx := h1 0 (by simp) (by omega)
    simp only [List.getElem_cons_zero] at hx
    have ih := takeWhile_len p l i (by simpa using hi) (fun j hj hji => by have := h1 (j + 1) (by simpa using hj) (by omega); simpa using this) (fun h => by have := h2 (by simpa using h); simpa using this)
    simp [hx, ih]

theorem nameLen_of {s : ByteArray} (h0 : 0 < s.size) (hl : letter s[0] = true) {i : Nat} (h1 : 1 ≤ i) (hi : i ≤ s.size) (ha : ∀ j (h : j < s.size), 1 ≤ j → j < i → nameCh s[j] = true) (hb : ∀ (h : i < s.size), nameCh s[i] = false) : nameLen s = i := by
  have get : ∀ j (h : j < s.size), s[j] = s.data.toList[j]'(by rw [bytes_len]; exact h) := fun j h => rfl
  unfold nameLen
  have hlen := bytes_len s
  cases hd : s.data.toList with
  | nil => rw [hd] at hlen; simp at hlen; omega
  | cons c r =>
    have g : ∀ j (h : j < s.size), s[j] = (c :: r)[j]'(by rw [← hd, hlen]; exact h) := fun j h => by rw [get j h]; simp only [hd]
    rw [hd] at hlen
    have hc : letter c = true := by rw [g 0 h0] at hl; simpa using hl
    simp only [hc, cond_true]
    simp only [List.length_cons] at hlen
    rw [takeWhile_len nameCh r (i - 1) (by omega) (fun j hj hji => by
      have h3 : j + 1 < s.size := by omega
      have := ha (j + 1) h3 (by omega) (by omega)
      rw [g (j + 1) h3] at this
      simpa using this) (fun h => by
      have h3 : i < s.size := by omega
      have := hb h3
      rw [g i h3] at this
      have e : i = (i - 1) + 1 := by omega
      rw [List.getElem_cons] at this
      rw [dif_neg (by omega)] at this
      exact this)]
    omega

theorem Take_spec (I : GH) (s : ByteArray) (hs : s.size ≤ 140737488355328) : Spec Tryz.prog 111 [.string s] I [] (fun v I' M' => v = .string (s.extract 0 (nameLen s)) ∧ I' = I ∧ M' = []) := by
  refine spec_of_V [] TryzEOK Tryz.func111 rfl rfl rfl ?_
  intro B h0
  have e0 : ∀ {s : ByteArray}, nameLen s = 0 → s.extract 0 (nameLen s) = ⟨#[]⟩ := fun h => by rw [h]; apply ByteArray.ext; simp [ByteArray.data_extract]
  refine GuardOb.mk (fun h => ?_) (fun h => ?_)
  · have h1 : s ≠ ⟨#[]⟩ := by simpa using h
    have hpos : 0 < s.size := by
      refine Nat.pos_of_ne_zero fun e => h1 ?_
      apply ByteArray.ext
      exact Array.eq_empty_of_size_eq_zero e
    refine StrOb.mk 0 rfl hpos ?_
    refine CallOb.mk [] [] _ (.refl _) (Letter_spec I s[0]) ?_
    rintro v I' M' - ⟨rfl, rfl, rfl⟩
    refine CondOb.mk (fun h => ?_) (fun h => ?_)
    · have hl : letter s[0] = false := by simpa using h
      refine ⟨_, _, .refl, ?_, rfl, rfl⟩
      rw [e0]
      · unfold nameLen
        cases hd : s.data.toList with
        | nil => rfl
        | cons c r =>
          have : s[0] = c := by
            show s.data.toList[0] = c
            simp only [hd]
            rfl
          rw [this] at hl
          simp [hl]
    · have hl : letter s[0] = true := by simpa using h
      refine LoopOb.inv (ι := Nat) (fun i => { fl := [(0, .val (.string s)), (3, .val (.int .i64 i))], gi := I' }) (fun i => 1 ≤ i ∧ i ≤ s.size ∧ ∀ j (h : j < s.size), 1 ≤ j → j < i → nameCh s[j] = true) (fun i => s.size - i) ?_ ?_
      · exact ⟨1, ⟨by omega, by omega, fun j _ h1 h2 => by omega⟩, .refl, .cons .refl (.cons .refl .nil), .nil⟩
      · rintro i ⟨hi1, hi2, hi3⟩
        have next : ∀ (hlt : i < s.size), nameCh s[i] = true → (1 ≤ i + 1 ∧ i + 1 ≤ s.size ∧ ∀ k (h : k < s.size), 1 ≤ k → k < i + 1 → nameCh s[k] = true) ∧ s.size - (i + 1) < s.size - i := fun hlt hc =>
          ⟨⟨by omega, by omega, fun j hj h1 h2 => by
            by_cases e : j = i
            · subst e; exact hc
            · exact hi3 j hj h1 (by omega)⟩, by omega⟩
        have out : (∀ (h : i < s.size), nameCh s[i] = false) → s.extract 0 i = s.extract 0 (nameLen s) := fun hn => by
          rw [nameLen_of hpos hl hi1 hi2 hi3 hn]
        have hsz : (s.extract 0 i).size ≤ 140737488355328 := by
          rw [ByteArray.size_extract]
          omega
        have hwr : IntKind.i64.wrap ((i : Int) + 1) = ((i + 1 : Nat) : Int) := by
          rw [wrap_i64 ⟨by omega, by omega⟩]
          omega
        refine GuardOb.mk (fun h => ?_) (fun h => ?_)
        · have hlt : i < s.size := by simpa using h
          refine StrOb.mk i rfl hlt ?_
          refine CallOb.mk [] [] _ (.refl _) (Letter_spec I' s[i]) ?_
          rintro v I' M' - ⟨rfl, rfl, rfl⟩
          refine GuardOb.mk (fun h => ?_) (fun h => ?_)
          · refine StrOb.mk i rfl hlt ?_
            refine CallOb.mk [] [] _ (.refl _) (digit_spec _ s[i]) ?_
            rintro v I' M' - ⟨rfl, rfl, rfl⟩
            refine CondOb.mk (fun h2 => ?_) (fun h2 => ?_)
            · refine ArithOb.mk _ hwr ?_
              exact ⟨i + 1, next hlt (by simp only [nameCh]; rw [show digit s[i] = true from h2]; simp), .refl, .cons .refl (.cons .refl .nil), .nil⟩
            · refine SliceOb.mk 0 i rfl rfl (by omega) (by omega) ?_
              refine CallOb.mk [] [] _ (.refl _) (Clone_spec _ _ hsz) ?_
              rintro v I' M' - ⟨rfl, rfl, rfl⟩
              refine ⟨_, _, .refl, ?_, rfl, rfl⟩
              rw [← out fun _ => by simp only [nameCh]; rw [show letter s[i] = false from h, show digit s[i] = false from h2]; rfl]
          · refine ArithOb.mk _ hwr ?_
            exact ⟨i + 1, next hlt (by simp only [nameCh]; rw [show letter s[i] = true from h]; simp), .refl, .cons .refl (.cons .refl .nil), .nil⟩
        · have hge : ¬ i < s.size := by simpa using h
          refine SliceOb.mk 0 i rfl rfl (by omega) (by omega) ?_
          refine CallOb.mk [] [] _ (.refl _) (Clone_spec _ _ hsz) ?_
          rintro v I' M' - ⟨rfl, rfl, rfl⟩
          refine ⟨_, _, .refl, ?_, rfl, rfl⟩
          rw [← out fun h => (hge h).elim]
  · have h1 : s = ⟨#[]⟩ := by simpa using h
    subst h1
    refine ⟨_, _, .refl, ?_, rfl, rfl⟩
    rw [e0]
    rfl

def mayName (s : ByteArray) : Bool := decide (s ≠ ⟨#[]⟩) && (decide (s.size ≤ 32) && decide (nameLen s = s.size))

theorem nameLen_le (s : ByteArray) : nameLen s ≤ s.size := by
  unfold nameLen
  have hl := bytes_len s
  cases hd : s.data.toList with
  | nil => simp
  | cons c r =>
    rw [hd] at hl
    simp only [List.length_cons] at hl
    simp only
    cases letter c
    · simp
    · simp only [cond_true]
      have := (List.takeWhile_sublist (p := nameCh) (l := r)).length_le
      omega

theorem NMay_spec (I : GH) (s : ByteArray) : Spec Tryz.prog 69 [.string s] I [] (fun v I' M' => v = .bool (mayName s) ∧ I' = I ∧ M' = []) := by
  refine spec_of_V [] TryzEOK Tryz.func69 rfl rfl rfl ?_
  intro B h0
  refine GuardOb.mk (fun h1 => ?_) (fun h1 => ?_)
  · refine GuardOb.mk (fun h2 => ?_) (fun h2 => ?_)
    · have h2' : s.size ≤ 32 := by simp at h2; omega
      refine CallOb.mk [] [] _ (.refl _) (Take_spec I s (by omega)) ?_
      rintro v I' M' - ⟨rfl, rfl, rfl⟩
      refine ⟨_, _, .refl, ?_, rfl, rfl⟩
      have hle := nameLen_le s
      have e1 : (s.extract 0 (nameLen s)).size = nameLen s := by rw [ByteArray.size_extract]; omega
      simp_all [mayName]
      all_goals omega
    · refine ⟨_, _, .refl, ?_, rfl, rfl⟩
      simp_all [mayName]
      all_goals omega
  · refine ⟨_, _, .refl, ?_, rfl, rfl⟩
    simp_all [mayName]
end Go.V

/-
  Walks: tree.Fits, tree.Right.
-/
set_option linter.unusedVariables false
set_option linter.unusedSimpArgs false
namespace Go.V
open Go Go.Proofs

def countsL : List Int := [0, 0, 0, 0, 0, 0, 0, 0, 2, -1, 2, -1, 1, 1, 1, 1, 1, 1, 1, 1]
def cntLo (k : Nat) : Int := countsL.getD (k * 2) 0
def cntHi (k : Nat) : Int := countsL.getD (k * 2 + 1) 0
/-- The table that tree.Fits reads. -/
def HasCounts (I : GH) : Prop := ∃ T fr, I 0 = some (.cells (countsL.map (Value.int .i64)).toArray T fr)

theorem HasCounts.rd {I : GH} (h : HasCounts I) (M : List Blk) {j : Nat} (hj : j < 20) : Rd I M (Addr.add ⟨0, 0, none⟩ j) 1 [.int .i64 (countsL.getD j 0)] := by
  obtain ⟨T, fr, h⟩ := h
  rw [addr_add _ rfl]
  refine ⟨rfl, _, T, fr, .inl h, ?_, rfl⟩
  simp only [Nat.zero_add]
  have : ∀ j : Fin 20, (((countsL.map (Value.int .i64)).toArray.toList.drop j.val).take 1) = [Value.int .i64 (countsL.getD j.val 0)] := by
    intro j
    have h1 : j.val < (countsL.map (Value.int .i64)).length := by simp [countsL]
    rw [List.toList_toArray, List.drop_eq_getElem_cons h1, List.take_succ_cons, List.take_zero]
    have h2 : j.val < countsL.length := by simp [countsL]
    simp [List.getD_eq_getElem?_getD, h2]
  exact this ⟨j, hj⟩

theorem HasCounts.rd2 {I : GH} (h : HasCounts I) (M : List Blk) {i j : Nat} (hj : i + j < 20) : Rd I M ((Addr.add ⟨0, 0, none⟩ i).add j) 1 [.int .i64 (countsL.getD (i + j) 0)] := by
  have e : (Addr.add ⟨0, 0, none⟩ i).add j = Addr.add ⟨0, 0, none⟩ (i + j) := by
    rw [addr_add ⟨_, 0, none⟩ rfl i, addr_add _ rfl j, addr_add _ rfl (i + j)]
    simp
  rw [e]
  exact h.rd M hj

def Nd.setZ (d : Nd) : Bool := d.s0 == 0 && (d.s1 == 0 && (d.s2 == 0 && d.s3 == 0))
def fits (d : Nd) (n : Int) : Bool :=
  bif decide (10 ≤ d.k) then false else
  bif decide (n < cntLo d.k.toNat) || (decide (0 ≤ cntHi d.k.toNat) && decide (cntHi d.k.toNat < n)) then false else
  bif decide (d.k = 1) then decide (d.t = ⟨#[]⟩) && (decide (d.lo = 0) && decide (d.hi = 0)) else
  bif decide (d.k = 2) then (!(decide (d.t = ⟨#[]⟩) || decide (255 < d.t.size))) && (d.setZ && (decide (d.lo = 0) && decide (d.hi = 0))) else
  bif decide (d.k = 3) || decide (d.k = 9) then mayName d.t && (d.setZ && (decide (d.lo = 0) && decide (d.hi = 0))) else
  bif decide (d.k = 6) then (!(decide (d.lo < 0) || (decide (99 < d.lo) || (decide (d.hi ≠ -1) && (decide (d.hi < d.lo) || decide (99 < d.hi)))))) && (d.setZ && decide (d.t = ⟨#[]⟩)) else
  d.setZ && (decide (d.t = ⟨#[]⟩) && (decide (d.lo = 0) && decide (d.hi = 0)))

set_option maxHeartbeats 4000000 in
set_option maxRecDepth 20000 in
theorem Fits_spec {I : GH} (hc : HasCounts I) {d : Nd} (hd : d.ok I) (n : Int) : Spec Tryz.prog 123 [d.val, .int .i64 n] I [] (fun v I' M' => v = .bool (fits d n) ∧ I' = I ∧ M' = []) := by
  refine spec_of_V [] TryzEOK Tryz.func123 rfl rfl rfl ?_
  intro B h0
  have hk := hd.k
  refine ArithOb.mk d.k (by unfold IntKind.wrap; simp [IntKind.bits, IntKind.signed]; omega) ?_
  refine CondOb.mk (fun h => ?_) (fun h => ?_)
  · refine ⟨_, _, .refl, ?_, rfl, rfl⟩
    simp at h
    simp [fits, h]
  · have h10 : d.k < 10 := by simpa using h
    have hj : d.k = ((d.k.toNat : Nat) : Int) := by omega
    have hj10 : d.k.toNat < 10 := by omega
    refine CodeOb.draw TryzEOK rfl rfl rfl ?_
    refine ArrOb.mk d.k.toNat hj hj10 ?_
    refine ArrOb.mk 0 rfl (by omega) ?_
    refine LoadOb.mk [.int .i64 (cntLo d.k.toNat)] (hc.rd _ (j := d.k.toNat * 2) (by omega)) ?_
    refine ArrOb.mk d.k.toNat hj hj10 ?_
    refine ArrOb.mk 1 rfl (by omega) ?_
    refine LoadOb.mk [.int .i64 (cntHi d.k.toNat)] (hc.rd2 _ (i := d.k.toNat * 2) (j := 1) (by omega)) ?_
    repeat' first
      | refine GuardOb.mk (fun h => ?_) (fun h => ?_)
      | refine CondOb.mk (fun h => ?_) (fun h => ?_)
      | refine BinOb.eq4 TryzEOK (e := 63) rfl rfl rfl rfl (by kernel_rfl) ?_
      | (refine CallOb.mk [] [] _ (.refl _) (NMay_spec _ _) ?_; rintro v I' M' - ⟨rfl, rfl, rfl⟩)
    all_goals refine ⟨_, _, .refl, ?_⟩
    all_goals refine ⟨?_, rfl, rfl⟩
    all_goals clear hc hd hj
    all_goals (first | (simp_all [fits, Nd.setZ]; done) | (simp_all [fits, Nd.setZ]; omega) | (simp_all [fits, Nd.setZ]; rw [Bool.eq_iff_iff]; simp; omega))
end Go.V
