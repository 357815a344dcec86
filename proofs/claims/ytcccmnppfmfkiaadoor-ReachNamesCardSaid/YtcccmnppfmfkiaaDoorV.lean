/-
  A symbolic executor for the walks of this seat: what a function's code asks, as a Prop that reduces by computation; proved sound once against the machine's own rules (wpIn). No program in sight.
-/
import Derived.WalkKit
import Derived.RangeFuncRecord
import Derived.OrdersIn
set_option linter.unusedVariables false
namespace Go.V
open Go

/-! ## What is looked up of types -/
inductive Sh where
  | other | int (k : IntKind) | bool | string | slice (e : Nat) | array (n e : Nat) | struct (fs : List (Nat × Nat)) | map (k e : Nat) | pointer (e : Nat)
  deriving DecidableEq

def shOf : TypeDesc → Sh
  | .int k => .int k
  | .bool => .bool
  | .string => .string
  | .slice e => .slice e
  | .array n e => .array n e
  | .struct fs => .struct (fs.toList.map fun f => (f.type, f.offset))
  | .map k e => .map k e
  | .pointer e => .pointer e
  | _ => .other

def Sh.agg : Sh → Bool
  | .struct _ | .array .. => true
  | _ => false

structure TI where
  size : Nat
  bytes : Nat
  zero : List Value
  sh : Sh

structure TIok (P : Program) (t : Nat) (i : TI) : Prop where
  inf : ∃ inf z, P.info? t = some inf ∧ inf.size = i.size ∧ inf.bytes = i.bytes ∧ inf.zero = some z ∧ z.cells.toList = i.zero
  und : ∃ d, P.underlying t = some d ∧ shOf d = i.sh
  one : ∀ v ∈ i.zero, v.oneCell' = true
  len : i.zero.length = i.size
  sz1 : i.sh.agg = false → i.size = 1

abbrev Env := Nat → Option TI
def EOK (P : Program) (E : Env) : Prop := ∀ t i, E t = some i → TIok P t i

/-! ## The state -/
inductive SV where
  | val (v : Value)
  | lit (b : Bool)
  | ref (s off : Nat)
  | junk

abbrev Fr := Nat → SV
abbrev Bx := Nat → Option (List Value)
abbrev GH := Nat → Option Obj
structure Blk where
  num : Nat
  obj : Obj
abbrev KS := Fr → Bx → GH → List Blk → Prop

def upd (F : Fr) (d : Nat) (x : SV) : Fr := fun t => bif Nat.beq t d then x else F t
def updB (C : Bx) (d : Nat) (x : Option (List Value)) : Bx := fun t => bif Nat.beq t d then x else C t
def clr (F : Fr) (d : Nat) : Fr := fun t => match F t with
  | .ref s o => bif Nat.beq s d then .junk else .ref s o
  | x => x
def put (o : Option Nat) (x : SV) (F : Fr) : Fr := match o with
  | some d => upd F d x
  | none => F
/-- An operand, raw. -/
def evr (F : Fr) : Operand → SV
  | .tmp t => F t
  | .const (.bool b) => .lit b
  | .const v => .val v
  | .global g => .val (.pointer (some ⟨g, 0, none⟩))
  | .func f => .val (.func (.func f) #[] #[])
/-- An operand as a value, out of raw ones. -/
def evq (ρ : Operand → SV) (x : Operand) : SV := match ρ x with
  | .lit b => .val (.bool b)
  | y => y
/-- An operand as a value. -/
abbrev ev (F : Fr) : Operand → SV := evq (evr F)

def pack (agg : Bool) (vs : List Value) : Value := bif agg then .agg vs.toArray else vs.headD undef
def splice (cs : List Value) (off : Nat) (vs : List Value) : List Value := cs.take off ++ vs ++ cs.drop (off + vs.length)
def allOne (vs : List Value) : Bool := vs.all (·.oneCell')

def pickV (c : Bool) : SV → SV → SV
  | .val (.bool x), .val (.bool y) => .val (.bool (bif c then x else y))
  | .val x, .val y => .val (bif c then x else y)
  | _, _ => .junk

def cmpv (op : BinOp) (x y : Int) : Option Bool := match op with
  | .eql => some (decide (x = y))
  | .neq => some (!decide (x = y))
  | .lss => some (decide (x < y))
  | .leq => some (decide (x ≤ y))
  | .gtr => some (decide (y < x))
  | .geq => some (decide (y ≤ x))
  | _ => none

def bitsv (op : BinOp) (k : IntKind) (x y : Int) : Option Int :=
  let a := BitVec.ofInt k.bits x
  let b := BitVec.ofInt k.bits y
  match op with
  | .and => some (k.wrap (a &&& b).toNat)
  | .or => some (k.wrap (a ||| b).toNat)
  | .xor => some (k.wrap (a ^^^ b).toNat)
  | .andNot => some (k.wrap (a &&& ~~~b).toNat)
  | _ => none

/-! ## Obligations -/
/-- What is known to lie at a block. -/
def Kn (I : GH) (M : List Blk) (b : Nat) (o : Obj) : Prop := I b = some o ∨ ∃ x ∈ M, x.num = b ∧ x.obj = o
/-- The cells that lie from an address on. -/
def Rd (I : GH) (M : List Blk) (a : Addr) (n : Nat) (vs : List Value) : Prop :=
  a.spot = none ∧ ∃ cs T fr, Kn I M a.block (.cells cs T fr) ∧ (cs.toList.drop a.off).take n = vs ∧ vs.length = n

inductive LoadOb (I : GH) (M : List Blk) (a : Addr) (n : Nat) (K : List Value → Prop) : Prop
  | mk (vs : List Value) (h : Rd I M a n vs) (k : K vs)
inductive StoreOb (M : List Blk) (a : Addr) (vs : List Value) (K : List Blk → Prop) : Prop
  | mk (pre post : List Blk) (cs : Array Value) (T : Nat) (hM : M = pre ++ ⟨a.block, .cells cs T (0, 0)⟩ :: post) (hs : a.spot = none) (hb : a.off + vs.length ≤ cs.size) (h1 : allOne vs = true)
    (k : K (pre ++ ⟨a.block, .cells (splice cs.toList a.off vs).toArray T (0, 0)⟩ :: post))
inductive AllocOb (I : GH) (M : List Blk) (K : Nat → Prop) : Prop
  | mk (k : ∀ b, I b = none → (∀ x ∈ M, x.num ≠ b) → K b)
inductive IdxOb (a : Option Addr) (n sz : Nat) (k : Int) (K : Addr → Prop) : Prop
  | mk (ad : Addr) (j : Nat) (ha : a = some ad) (hk : k = (j : Int)) (hj : j < n) (h : K (ad.add (j * sz)))
inductive ArrOb (n : Nat) (k : Int) (K : Nat → Prop) : Prop
  | mk (j : Nat) (hk : k = (j : Int)) (hj : j < n) (h : K j)
inductive StrOb (s : ByteArray) (k : Int) (K : UInt8 → Prop) : Prop
  | mk (j : Nat) (hk : k = (j : Int)) (hj : j < s.size) (h : K s[j])
/-- What an int comes to, that might wrap. -/
inductive ArithOb (k : IntKind) (n : Int) (K : Int → Prop) : Prop
  | mk (r : Int) (h : k.wrap n = r) (h' : K r)
inductive DivOb (y : Int) (K : Prop) : Prop
  | mk (h : y ≠ 0) (h' : K)
inductive ShOb (y : Int) (K : Nat → Prop) : Prop
  | mk (j : Nat) (h : y = (j : Int)) (h' : K j)
inductive CondOb (c : Bool) (X Y : Prop) : Prop
  | mk (h : c = true → X) (h' : c = false → Y)
inductive MakeOb (l c : Int) (bytes : Nat) (K : Nat → Nat → Prop) : Prop
  | mk (n m : Nat) (hl : l = (n : Int)) (hc : c = (m : Int)) (h : n ≤ m) (hb : bytes * m ≤ 140737488355328) (hm : m ≤ 9223372036854775807) (k : K n m)
inductive SliceOb (n c : Nat) (lo hi : Option Int) (K : Nat → Nat → Prop) : Prop
  | mk (l h : Nat) (hlo : lo.getD 0 = (l : Int)) (hhi : hi.getD n = (h : Int)) (h1 : l ≤ h) (h2 : h ≤ c) (k : K l h)

/-! ## The program's side: what a call of a function does -/
structure Holds (I : GH) (M : List Blk) (w : World) : Prop where
  i : ∀ b o, I b = some o → w.heap[b]? = some o
  m : ∀ x ∈ M, w.heap[x.num]? = some x.obj
  d : ∀ x ∈ M, I x.num = none
  nd : (M.map (·.num)).Nodup

/-- What the world outside sees. -/
def Same (w w' : World) : Prop := w'.os = w.os ∧ w'.output = w.output
theorem Same.refl (w : World) : Same w w := ⟨rfl, rfl⟩
theorem Same.trans {a b c : World} (h : Same a b) (h' : Same b c) : Same a c := ⟨h'.1.trans h.1, h'.2.trans h.2⟩
/-- What a call does not touch; and where its new blocks lie. -/
structure Kept (I : GH) (M : List Blk) (w : World) (I' : GH) (M' : List Blk) (w' : World) : Prop where
  le : ∀ b o, I b = some o → I' b = some o
  newI : ∀ b o, I' b = some o → I b = some o ∨ w.heap.size ≤ b
  newM : ∀ x ∈ M', (∃ y ∈ M, y.num = x.num) ∨ w.heap.size ≤ x.num
  old : ∀ b, b < w.heap.size → (∀ y ∈ M, y.num ≠ b) → w'.heap[b]? = w.heap[b]?
  out : Same w w'
  sz : w.heap.size ≤ w'.heap.size

def Enters (P : Program) (f : Nat) : Prop := ∀ (args : Array Value) (w : World), (callFunc f args).run P w = .ok (.enter f args) w

/-- What a call of a function with a body does, in whatever world in which this holds. -/
def SpecE (P : Program) (f : Nat) (args : List Value) (I : GH) (M : List Blk) (post : Value → GH → List Blk → Prop) : Prop :=
  Enters P f ∧ ∀ w, Holds I M w → Calls P f args.toArray w fun e w' => ∃ v I' M', e = .returned v ∧ post v I' M' ∧ Holds I' M' w' ∧ Kept I M w I' M' w'
/-- The same, of a function without one. -/
def SpecX (P : Program) (f : Nat) (args : List Value) (I : GH) (M : List Blk) (post : Value → GH → List Blk → Prop) : Prop :=
  ∀ w, Holds I M w → ∃ v w' I' M', (callFunc f args.toArray).run P w = .ok (.value v) w' ∧ post v I' M' ∧ Holds I' M' w' ∧ Kept I M w I' M' w'
/-- What a call of a function with these arguments does. -/
def Spec (P : Program) (f : Nat) (args : List Value) (I : GH) (M : List Blk) (post : Value → GH → List Blk → Prop) : Prop := SpecE P f args I M post ∨ SpecX P f args I M post

/-! ### States made weaker -/
def ins (I : GH) (b : Nat) (o : Obj) : GH := fun x => bif Nat.beq x b then some o else I x

inductive Wk (foot : List Nat) : GH → List Blk → GH → List Blk → Prop
  | refl {I M} : Wk foot I M I M
  | sub {I M M1 I' M'} (h : List.Sublist M1 M) (k : Wk foot I M1 I' M') : Wk foot I M I' M'
  | perm {I M M1 I' M'} (h : M.Perm M1) (k : Wk foot I M1 I' M') : Wk foot I M I' M'
  | prom {I M I' M' b o post} (h : M = ⟨b, o⟩ :: post) (hf : b ∉ foot) (k : Wk foot (ins I b o) post I' M') : Wk foot I M I' M'

inductive CallOb (foot : List Nat) (P : Program) (f : Nat) (args : List Value) (I : GH) (M : List Blk) (K : Value → GH → List Blk → Prop) : Prop
  | mk (Mc Mr : List Blk) (post : Value → GH → List Blk → Prop) (hM : M.Perm (Mc ++ Mr)) (hs : Spec P f args I Mc post)
    (k : ∀ v I' M', (∀ b o, I b = some o → I' b = some o) → post v I' M' → K v I' (M' ++ Mr))
  | mkD (Mc Mr : List Blk) (post : Value → GH → List Blk → Prop) (hM : M.Perm (Mc ++ Mr)) (hs : Spec P f args I Mc post)
    (k : ∀ v I' M', (∀ b o, I b = some o → I' b = some o) → (∀ x ∈ M' ++ Mr, I' x.num = none) → post v I' M' → K v I' (M' ++ Mr))
  | mkW (I1 : GH) (Mc Mr : List Blk) (post : Value → GH → List Blk → Prop) (hw : Wk foot I M I1 (Mc ++ Mr)) (hs : Spec P f args I1 Mc post)
    (k : ∀ v I' M', (∀ b o, I1 b = some o → I' b = some o) → (∀ x ∈ M' ++ Mr, I' x.num = none) → post v I' M' → K v I' (M' ++ Mr))
theorem CallOb.elim {foot : List Nat} {P : Program} {f : Nat} {args : List Value} {I : GH} {M : List Blk} {K : Value → GH → List Blk → Prop} (h : CallOb foot P f args I M K) :
    ∃ (I1 : GH) (Mc Mr : List Blk) (post : Value → GH → List Blk → Prop), Wk foot I M I1 (Mc ++ Mr) ∧ Spec P f args I1 Mc post ∧ ∀ v I' M', (∀ b o, I1 b = some o → I' b = some o) → (∀ x ∈ M' ++ Mr, I' x.num = none) → post v I' M' → K v I' (M' ++ Mr) := by
  rcases h with ⟨Mc, Mr, post, hM, hs, k⟩ | ⟨Mc, Mr, post, hM, hs, k⟩ | ⟨I1, Mc, Mr, post, hw, hs, k⟩
  · exact ⟨I, Mc, Mr, post, .perm hM .refl, hs, fun v I' M' h1 _ h2 => k v I' M' h1 h2⟩
  · exact ⟨I, Mc, Mr, post, .perm hM .refl, hs, k⟩
  · exact ⟨I1, Mc, Mr, post, hw, hs, k⟩


/-! ## What ties a state to the machine -/
structure Ctx where
  P : Program
  E : Env
  esc : List Nat
  n : Nat
  B : Nat
  h0 : World
  I0 : GH
  foot : List Nat
  ro : Option Nat

def fen (X : Ctx) : Fence := { Fence.wide with round := X.ro }

def SVok (β : Nat → Nat) : SV → Value → Prop
  | .val v, u => u = v
  | .lit b, u => u = .bool b
  | .ref s off, u => u = .pointer (some ⟨β s, off, none⟩)
  | .junk, _ => True

structure BoxAt (X : Ctx) (w : World) (I : GH) (M : List Blk) (b : Nat) (cs : List Value) : Prop where
  at_ : ∃ T, w.heap[b]? = some (.cells cs.toArray T (0, 0))
  base : X.B ≤ b
  noI : I b = none
  noM : ∀ x ∈ M, x.num ≠ b

/-- A block for the deferred calls of a range over a function: no call lies there. -/
structure MarkAt (X : Ctx) (w : World) (I : GH) (M : List Blk) (r : Nat) : Prop where
  at_ : w.heap[r]? = some (.deferred (some []))
  base : X.B ≤ r
  noI : I r = none
  noM : ∀ x ∈ M, x.num ≠ r
def markOf (r : Nat) : Deferred := { target := .collected r, args := #[] }
/-- What is deferred: marks alone. -/
def Marks (X : Ctx) (a : Act) (w : World) (I : GH) (M : List Blk) : Prop := ∃ rs : List Nat, a.defers = rs.map markOf ∧ rs.Nodup ∧ ∀ r ∈ rs, MarkAt X w I M r

structure RelB (X : Ctx) (β : Nat → Nat) (a : Act) (w : World) (F : Fr) (C : Bx) (I : GH) (M : List Blk) : Prop where
  size : a.tmps.size = X.n
  defers : Marks X a w I M
  holds : Holds I M w
  fr : ∀ t, SVok β (F t) (a.tmps.getD t undef)
  bx : ∀ s cs, C s = some cs → BoxAt X w I M (β s) cs
  inj : ∀ s s', C s ≠ none → C s' ≠ none → β s = β s' → s = s'
  le0 : ∀ b o, X.I0 b = some o → I b = some o
  new0 : ∀ b o, I b = some o → X.I0 b = some o ∨ X.B ≤ b
  own : ∀ x ∈ M, x.num ∈ X.foot ∨ X.B ≤ x.num
  old : ∀ b, b < X.B → b ∉ X.foot → w.heap[b]? = X.h0.heap[b]?
  out : Same X.h0 w
  sz : X.B ≤ w.heap.size

def Rel (X : Ctx) (a : Act) (w : World) (F : Fr) (C : Bx) (I : GH) (M : List Blk) : Prop := ∃ β, RelB X β a w F C I M

def Sat (X : Ctx) (K : KS) (a : Act) (w : World) : Prop := ∃ F C I M, Rel X a w F C I M ∧ K F C I M

inductive OtherOb (X : Ctx) (o : Oper) (F : Fr) (C : Bx) (I : GH) (M : List Blk) (K : KS) : Prop
  | mk (h : ∀ a w Q, Rel X a w F C I M → o.wpIn (fen X) 0 X.P a w (Sat X K) Q)

/-! ## The executor -/
def evqs (ρ : Operand → SV) : List Operand → Option (List Value)
  | [] => some []
  | x :: xs => match evq ρ x, evqs ρ xs with
    | .val v, some vs => some (v :: vs)
    | _, _ => none
abbrev evs (F : Fr) : List Operand → Option (List Value) := evqs (evr F)

def fillL (place : Nat → Option (Nat × Nat)) (cells : List Value) : List (Nat × Value) → Option (List Value)
  | [] => some cells
  | (i, v) :: rest => match place i with
    | none => none
    | some (off, size) => bif Nat.beq v.cells.size size && Nat.ble (off + size) cells.length then fillL place (splice cells off v.cells.toList) rest else none

def evqParts (ρ : Operand → SV) : List (Nat × Operand) → Option (List (Nat × Value))
  | [] => some []
  | (i, x) :: xs => match evq ρ x, evqParts ρ xs with
    | .val v, some vs => some ((i, v) :: vs)
    | _, _ => none
abbrev evParts (F : Fr) : List (Nat × Operand) → Option (List (Nat × Value)) := evqParts (evr F)

def places (E : Env) (fs : List (Nat × Nat)) (i : Nat) : Option (Nat × Nat) := match fs[i]? with
  | some (ft, off) => match E ft with
    | some fi => some (off, fi.size)
    | none => none
  | none => none

def placesOk (E : Env) (fs : List (Nat × Nat)) : Bool := fs.all fun f => (E f.1).isSome

def rowOf (zero : List Value) (n : Nat) : List Value := (List.range n).map fun i => zero[i % zero.length]!
theorem rowOf_eq (zero : List Value) (n : Nat) : rowOf zero n = (madeCells zero.toArray n).toList := by
  simp [rowOf, madeCells]

def IntKind.eqb : IntKind → IntKind → Bool
  | .i8, .i8 | .i16, .i16 | .i32, .i32 | .i64, .i64 | .u8, .u8 | .u16, .u16 | .u32, .u32 | .u64, .u64 => true
  | _, _ => false

def V_bin (op : BinOp) (ti : Option TI) (x y : SV) (K : Value → Prop) (other : Prop) : Prop :=
  match x, y with
  | .val (.int k a), .val (.int k' b) =>
    match op with
    | .shl => ShOb b fun j => ArithOb k (a * 2 ^ (min j k.bits)) fun r => K (.int k r)
    | .shr => ShOb b fun j => K (.int k (a.fdiv (2 ^ (min j k.bits))))
    | op => bif IntKind.eqb k k' then
        (match op with
        | .add => ArithOb k (a + b) fun r => K (.int k r)
        | .sub => ArithOb k (a - b) fun r => K (.int k r)
        | .mul => ArithOb k (a * b) fun r => K (.int k r)
        | .quo => DivOb b (ArithOb k (a.tdiv b) fun r => K (.int k r))
        | .rem => DivOb b (K (.int k (a.tmod b)))
        | .and | .or | .xor | .andNot => (match bitsv op k a b with
          | some r => K (.int k r)
          | none => False)
        | op => (match cmpv op a b with
          | some r => K (.bool r)
          | none => False))
      else False
  | .val (.string a), .val (.string b) =>
    match op with
    | .eql => K (.bool (decide (a = b)))
    | .neq => K (.bool (!decide (a = b)))
    | _ => other
  | .val (.bool a), .val (.bool b) =>
    match ti with
    | some { sh := .bool, .. } =>
      (match op with
      | .eql => K (.bool (a == b))
      | .neq => K (.bool (!(a == b)))
      | _ => other)
    | _ => other
  | _, _ => other

/-- An operation on two values, by its own law (in whatever world); or else. -/
inductive BinOb (P : Program) (op : BinOp) (t : Nat) (x y : Operand) (p q : SV) (K : Value → Prop) (other : Prop) : Prop
  | mk (p' q' v : Value) (hp : p = .val p') (hq : q = .val q') (h : ∀ w, (do eqGuard op t x y p' q'; binOp op t p' q' : Sem Value).run P w = .ok v w) (k : K v)
  | other (h : other)

/-- The operations that leave the heap alone: what they come to (V), or else (other). -/
def V_q (X : Ctx) (op : Op) (ρ : Operand → SV) (C : Bx) (I : GH) (M : List Blk) (V : SV → Prop) (other : Prop) : Prop :=
  match op with
  | .move x | .assign x => V (ρ x)
  | .pick c a b =>
    match ρ c with
    | .lit c => V (bif c then ρ a else ρ b)
    | .val (.bool c) => V (pickV c (evq ρ a) (evq ρ b))
    | _ => False
  | .unOp op _ x =>
    match op, ρ x with
    | .not, .lit b => V (.lit (!b))
    | .not, .val (.bool b) => V (.val (.bool (!b)))
    | .neg, .val (.int k n) => ArithOb k (0 - n) fun r => V (.val (.int k r))
    | _, _ => other
  | .binOp op t x y _ => V_bin op (X.E t) (evq ρ x) (evq ρ y) (fun v => V (.val v)) (BinOb X.P op t x y (evq ρ x) (evq ρ y) (fun v => V (.val v)) other)
  | .load t x =>
    match X.E t with
    | some i =>
      (match ρ x with
      | .ref s off =>
        (match C s with
        | some cs => bif Nat.ble (off + i.size) cs.length then V (.val (pack i.sh.agg ((cs.drop off).take i.size))) else False
        | none => False)
      | .val (.pointer (some a)) => LoadOb I M a i.size fun vs => V (.val (pack i.sh.agg vs))
      | _ => False)
    | none => False
  | .nilCheck x =>
    match ρ x with
    | .ref s off => V (.ref s off)
    | .val (.pointer (some a)) => V (.val (.pointer (some a)))
    | _ => other
  | .fieldAddr t x i =>
    match X.E t with
    | some { sh := .struct fs, .. } =>
      (match fs[i]? with
      | some (ft, off) =>
        (match X.E ft, ρ x with
        | some fi, .ref s o' => bif Nat.beq fi.size 0 then False else V (.ref s (o' + off))
        | some fi, .val (.pointer (some a)) => bif Nat.beq fi.size 0 then False else V (.val (.pointer (some (a.add off))))
        | _, _ => False)
      | none => False)
    | _ => False
  | .field t x i =>
    match X.E t, evq ρ x with
    | some { sh := .struct fs, .. }, .val (.agg cs) =>
      (match fs[i]? with
      | some (ft, off) =>
        (match X.E ft with
        | some fi => bif Nat.ble (off + fi.size) cs.size then V (.val (pack fi.sh.agg ((cs.toList.drop off).take fi.size))) else False
        | none => False)
      | none => False)
    | _, _ => False
  | .indexAddr t x i =>
    match X.E t, evq ρ i with
    | some { sh := .slice e, .. }, .val (.int _ k) =>
      (match X.E e, evq ρ x with
      | some ei, .val (.slice a n _) => IdxOb a n ei.size k fun ad => V (.val (.pointer (some ad)))
      | _, _ => False)
    | some { sh := .array n e, .. }, .val (.int _ k) =>
      (match X.E e, ρ x with
      | some ei, .ref s o' => ArrOb n k fun j => V (.ref s (o' + j * ei.size))
      | some ei, .val (.pointer (some a)) => ArrOb n k fun j => V (.val (.pointer (some (a.add (j * ei.size)))))
      | _, _ => False)
    | _, _ => False
  | .index t x i =>
    match X.E t, evq ρ x, evq ρ i with
    | some { sh := .string, .. }, .val (.string s), .val (.int _ k) => StrOb s k fun b => V (.val (.int .u8 b.toNat))
    | some { sh := .array n e, .. }, .val (.agg cs), .val (.int _ k) =>
      (match X.E e with
      | some ei => bif Nat.beq (n * ei.size) cs.size then ArrOb n k fun j => V (.val (pack ei.sh.agg ((cs.toList.drop (j * ei.size)).take ei.size))) else False
      | none => False)
    | _, _, _ => False
  | .build t parts =>
    match X.E t, evqParts ρ parts.toList with
    | some i, some vs =>
      (match i.sh with
      | .struct fs => bif placesOk X.E fs then (match fillL (places X.E fs) i.zero vs with
        | some cells => V (.val (.agg cells.toArray))
        | none => False) else False
      | .array _ e => (match X.E e with
        | some ei => (match fillL (fun j => some (j * ei.size, ei.size)) i.zero vs with
          | some cells => V (.val (.agg cells.toArray))
          | none => False)
        | none => False)
      | _ => False)
    | _, _ => False
  | .makeFunc fn first captured =>
    match evqs ρ first.toList, evqs ρ captured.toList with
    | some fs, some cs => V (.val (.func fn fs.toArray cs.toArray))
    | _, _ => False
  | .slice t x lo hi mx =>
    match X.E t, evq ρ x, mx with
    | some { sh := .slice e, .. }, .val (.slice a n c), none =>
      (match X.E e, lo.map (evq ρ), hi.map (evq ρ) with
      | some ei, none, none => V (.val (.slice a n c))
      | some ei, none, some (.val (.int _ h)) => SliceOb n c none (some h) fun _ h => V (.val (.slice a h c))
      | some ei, some (.val (.int _ l)), none => SliceOb n n (some l) none fun l _ => V (.val (.slice (if c = l then a else a.map (·.add (l * ei.size))) (n - l) (c - l)))
      | some ei, some (.val (.int _ l)), some (.val (.int _ h)) => SliceOb n c (some l) (some h) fun l h => V (.val (.slice (if c = l then a else a.map (·.add (l * ei.size))) (h - l) (c - l)))
      | _, _, _ => False)
    | some { sh := .string, .. }, .val (.string s), none =>
      (match lo.map (evq ρ), hi.map (evq ρ) with
      | none, none => V (.val (.string s))
      | none, some (.val (.int _ h)) => SliceOb s.size s.size none (some h) fun _ h => V (.val (.string (s.extract 0 h)))
      | some (.val (.int _ l)), none => SliceOb s.size s.size (some l) none fun l _ => V (.val (.string (s.extract l s.size)))
      | some (.val (.int _ l)), some (.val (.int _ h)) => SliceOb s.size s.size (some l) (some h) fun l h => V (.val (.string (s.extract l h)))
      | _, _ => False)
    | _, _, _ => other
  | .extract x i =>
    match evq ρ x with
    | .val (.tuple vs) => (match vs.toList[i]? with
      | some v => V (.val v)
      | none => False)
    | _ => False
  | .convert s d x =>
    match X.E s, X.E d, evq ρ x with
    | some _, some { sh := .int k, .. }, .val (.int _ n) => ArithOb k n fun r => V (.val (.int k r))
    | _, _, _ => other
  | .call { callee := .builtin .len, args, argTypes } =>
    match argTypes.toList, evqs ρ args.toList with
    | [t], some [v] =>
      (match X.E t, v with
      | some { sh := .slice _, .. }, .slice _ n _ => V (.val (.int .i64 n))
      | some { sh := .string, .. }, .string s => V (.val (.int .i64 s.size))
      | some { sh := .array n _, .. }, _ => V (.val (.int .i64 n))
      | _, _ => other)
    | _, _ => other
  | .call { callee := .builtin .cap, args, argTypes } =>
    match argTypes.toList, evqs ρ args.toList with
    | [t], some [v] =>
      (match X.E t, v with
      | some { sh := .slice _, .. }, .slice _ _ c => V (.val (.int .i64 c))
      | _, _ => other)
    | _, _ => other
  | .call { callee := .builtin .max, args, .. } =>
    match evqs ρ args.toList with
    | some [.int k a, .int _ b] => V (.val (.int k (max a b)))
    | _ => other
  | .call { callee := .builtin .min, args, .. } =>
    match evqs ρ args.toList with
    | some [.int k a, .int _ b] => V (.val (.int k (min a b)))
    | _ => other
  | .call { callee := .builtin .unsafeSliceData, args, .. } =>
    match evqs ρ args.toList with
    | some [.slice none _ _] => V (.val (.pointer none))
    | some [.slice (some a) _ c] => DivOb c (V (.val (.pointer (some a))))
    | _ => other
  | _ => other

def V_op (X : Ctx) (o : Oper) (F : Fr) (C : Bx) (I : GH) (M : List Blk) (K : KS) : Prop :=
  match o.op with
  | .box t x =>
    match o.dst, ev F x with
    | some d, .val v =>
      bif X.esc.contains d then AllocOb I M fun b => K (upd (clr F d) d (.val (.pointer (some ⟨b, 0, none⟩)))) (updB C d none) I (⟨b, .cells v.cells t (0, 0)⟩ :: M)
      else K (upd (clr F d) d (.ref d 0)) (updB C d (some v.cells.toList)) I M
    | _, _ => False
  | .alloc t =>
    match o.dst, X.E t with
    | some d, some i =>
      bif X.esc.contains d then AllocOb I M fun b => K (upd (clr F d) d (.val (.pointer (some ⟨b, 0, none⟩)))) (updB C d none) I (⟨b, .cells i.zero.toArray t (0, 0)⟩ :: M)
      else K (upd (clr F d) d (.ref d 0)) (updB C d (some i.zero)) I M
    | _, _ => False
  | .store t x y =>
    match o.dst, X.E t, ev F y with
    | none, some i, .val v =>
      (match evr F x with
      | .ref s off =>
        (match C s with
        | some cs => bif Nat.ble (off + i.size) cs.length && (Nat.beq v.cells.size i.size && allOne v.cells.toList) then K F (updB C s (some (splice cs off v.cells.toList))) I M else False
        | none => False)
      | .val (.pointer (some a)) => bif Nat.beq v.cells.size i.size then StoreOb M a v.cells.toList fun M' => K F C I M' else False
      | _ => False)
    | _, _, _ => False
  | .buildSlice t len parts =>
    match X.E t, evParts F parts.toList with
    | some { sh := .slice e, .. }, some vs =>
      (match X.E e with
      | some ei =>
        bif Nat.ble (len * ei.size) 16777216 && Nat.blt 0 (len * ei.size) then
          (match fillL (fun j => some (j * ei.size, ei.size)) (rowOf ei.zero (len * ei.size)) vs with
          | some cells => AllocOb I M fun b => K (put o.dst (.val (.slice (some ⟨b, 0, none⟩) len len)) F) C I (⟨b, .cells cells.toArray e (0, 0)⟩ :: M)
          | none => False)
        else False
      | none => False)
    | _, _ => False
  | .makeSlice t l c =>
    match X.E t, ev F l, ev F c with
    | some { sh := .slice e, .. }, .val (.int _ l), .val (.int _ c) =>
      (match X.E e with
      | some ei => MakeOb l c ei.bytes fun n m => AllocOb I M fun b => K (put o.dst (.val (.slice (some ⟨b, 0, none⟩) n m)) F) C I (⟨b, .cells (rowOf ei.zero (m * ei.size)).toArray e (0, 0)⟩ :: M)
      | none => False)
    | _, _, _ => False
  | .call { callee := .value f, args, .. } =>
    match ev F f, evs F args.toList with
    | .val (.func (.func g) first cap), some vs => CallOb X.foot X.P g (first.toList ++ vs ++ cap.toList) I M fun v I' M' => K (put o.dst (.val v) F) C I' M'
    | _, _ => OtherOb X o F C I M K
  | op => V_q X op (evr F) C I M (fun x => K (put o.dst x F) C I M) (OtherOb X o F C I M K)

inductive GuardOb (c b : Bool) (Y N : Prop) : Prop
  | mk (h : c = b → Y) (h' : c = !b → N)

/-- A list of operations, one behind the other ('ops': the whole region, for the guards). -/
def V_ops (X : Ctx) (ops : List Oper) : List Oper → Fr → Bx → GH → List Blk → KS → Prop
  | [], F, C, I, M, K => K F C I M
  | o :: rest, F, C, I, M, K =>
    match o.guard with
    | none => V_op X o F C I M fun F C I M => V_ops X ops rest F C I M K
    | some (j, b) =>
      match (ops[j]?).bind (·.dst) with
      | none => False
      | some d =>
        match F d with
        | .lit c => bif c == b then V_op X o F C I M fun F C I M => V_ops X ops rest F C I M K else V_ops X ops rest (put o.dst (.val undef) F) C I M K
        | .val (.bool c) => GuardOb c b (V_op X o (upd F d (.lit b)) C I M fun F C I M => V_ops X ops rest F C I M K) (V_ops X ops rest (put o.dst (.val undef) (upd F d (.lit !b))) C I M K)
        | .val (.tuple _) => V_ops X ops rest (put o.dst (.val undef) F) C I M K
        | _ => False

end Go.V
