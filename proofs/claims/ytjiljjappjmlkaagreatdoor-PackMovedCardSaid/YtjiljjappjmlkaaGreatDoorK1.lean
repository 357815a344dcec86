/-
  Part 1 of what the proofs of this seat share: the executor, data in memory, walks.
-/
import Derived.WalkKit
import Derived.RangeFuncRecord
import Derived.OrdersIn
import Derived.Lib.UnsafeStr
set_option linter.all false
namespace Go.V
open Go
inductive Sh where
 | other | int (k:IntKind) | bool | string | slice (e:Nat) | array (n e:Nat) | struct (fs:List (Nat×Nat)) | map (k e:Nat) | pointer (e:Nat)
 deriving DecidableEq
def shOf:TypeDesc→Sh
 | .int k=>.int k
 | .bool=>.bool
 | .string=>.string
 | .slice e=>.slice e
 | .array n e=>.array n e
 | .struct fs=>.struct (fs.toList.map fun f=>(f.type,f.offset))
 | .map k e=>.map k e
 | .pointer e=>.pointer e
 | _=>.other
def Sh.agg:Sh→Bool
 | .struct _ | .array ..=>true
 | _=>false
structure TI where
 size:Nat
 bytes:Nat
 zero:List Value
 sh:Sh
structure TIok (P:Program) (t:Nat) (i:TI):Prop where
 inf:∃ inf z,P.info? t=some inf∧inf.size=i.size∧inf.bytes=i.bytes∧inf.zero=some z∧z.cells.toList=i.zero
 und:∃ d,P.underlying t=some d∧shOf d=i.sh
 one:∀ v∈i.zero,v.oneCell'=true
 len:i.zero.length=i.size
 sz1:i.sh.agg=false→i.size=1
abbrev Env:=Nat→Option TI
def EOK (P:Program) (E:Env):Prop:=∀ t i,E t=some i→TIok P t i
inductive SV where
 | val (v:Value)
 | lit (b:Bool)
 | ref (s off:Nat)
 | junk
abbrev Fr:=Nat→SV
abbrev Bx:=Nat→Option (List Value)
abbrev GH:=Nat→Option Obj
structure Blk where
 num:Nat
 obj:Obj
abbrev KS:=Fr→Bx→GH→List Blk→Prop
def upd (F:Fr) (d:Nat) (x:SV):Fr:=fun t=>bif Nat.beq t d then x else F t
def updB (C:Bx) (d:Nat) (x:Option (List Value)):Bx:=fun t=>bif Nat.beq t d then x else C t
def clr (F:Fr) (d:Nat):Fr:=fun t=>match F t with
 | .ref s o=>bif Nat.beq s d then .junk else .ref s o
 | x=>x
def put (o:Option Nat) (x:SV) (F:Fr):Fr:=match o with
 | some d=>upd F d x
 | none=>F
def evr (F:Fr):Operand→SV
 | .tmp t=>F t
 | .const (.bool b)=>.lit b
 | .const v=>.val v
 | .global g=>.val (.pointer (some ⟨g,0,none⟩))
 | .func f=>.val (.func (.func f) #[] #[])
def evq (ρ:Operand→SV) (x:Operand):SV:=match ρ x with
 | .lit b=>.val (.bool b)
 | y=>y
abbrev ev (F:Fr):Operand→SV:=evq (evr F)
def pack (agg:Bool) (vs:List Value):Value:=bif agg then .agg vs.toArray else vs.headD undef
def splice (cs:List Value) (off:Nat) (vs:List Value):List Value:=cs.take off++vs++cs.drop (off+vs.length)
def allOne (vs:List Value):Bool:=vs.all (·.oneCell')
def pickV (c:Bool):SV→SV→SV
 | .val (.bool x),.val (.bool y)=>.val (.bool (bif c then x else y))
 | .val x,.val y=>.val (bif c then x else y)
 | _,_=>.junk
def cmpv (op:BinOp) (x y:Int):Option Bool:=match op with
 | .eql=>some (decide (x=y))
 | .neq=>some (!decide (x=y))
 | .lss=>some (decide (x < y))
 | .leq=>some (decide (x≤y))
 | .gtr=>some (decide (y < x))
 | .geq=>some (decide (y≤x))
 | _=>none
def bitsv (op:BinOp) (k:IntKind) (x y:Int):Option Int:=
 let a:=BitVec.ofInt k.bits x
 let b:=BitVec.ofInt k.bits y
 match op with
 | .and=>some (k.wrap (a &&& b).toNat)
 | .or=>some (k.wrap (a ||| b).toNat)
 | .xor=>some (k.wrap (a ^^^ b).toNat)
 | .andNot=>some (k.wrap (a &&& ~~~b).toNat)
 | _=>none
def Kn (I:GH) (M:List Blk) (b:Nat) (o:Obj):Prop:=I b=some o∨∃ x∈M,x.num=b∧x.obj=o
def Rd (I:GH) (M:List Blk) (a:Addr) (n:Nat) (vs:List Value):Prop:=
 a.spot=none∧∃ cs T fr,Kn I M a.block (.cells cs T fr)∧(cs.toList.drop a.off).take n=vs∧vs.length=n
inductive LoadOb (I:GH) (M:List Blk) (a:Addr) (n:Nat) (K:List Value→Prop):Prop
 | mk (vs:List Value) (h:Rd I M a n vs) (k:K vs)
inductive StoreOb (M:List Blk) (a:Addr) (vs:List Value) (K:List Blk→Prop):Prop
 | mk (pre post:List Blk) (cs:Array Value) (T:Nat) (hM:M=pre++⟨a.block,.cells cs T (0,0)⟩::post) (hs:a.spot=none) (hb:a.off+vs.length≤cs.size) (h1:allOne vs=true)
  (k:K (pre++⟨a.block,.cells (splice cs.toList a.off vs).toArray T (0,0)⟩::post))
inductive AllocOb (I:GH) (M:List Blk) (K:Nat→Prop):Prop
 | mk (k:∀ b,I b=none→(∀ x∈M,x.num≠b)→K b)
inductive IdxOb (a:Option Addr) (n sz:Nat) (k:Int) (K:Addr→Prop):Prop
 | mk (ad:Addr) (j:Nat) (ha:a=some ad) (hk:k=(j:Int)) (hj:j < n) (h:K (ad.add (j * sz)))
inductive ArrOb (n:Nat) (k:Int) (K:Nat→Prop):Prop
 | mk (j:Nat) (hk:k=(j:Int)) (hj:j < n) (h:K j)
inductive StrOb (s:ByteArray) (k:Int) (K:UInt8→Prop):Prop
 | mk (j:Nat) (hk:k=(j:Int)) (hj:j < s.size) (h:K s[j])
inductive ArithOb (k:IntKind) (n:Int) (K:Int→Prop):Prop
 | mk (r:Int) (h:k.wrap n=r) (h':K r)
inductive DivOb (y:Int) (K:Prop):Prop
 | mk (h:y≠0) (h':K)
inductive ShOb (y:Int) (K:Nat→Prop):Prop
 | mk (j:Nat) (h:y=(j:Int)) (h':K j)
inductive CondOb (c:Bool) (X Y:Prop):Prop
 | mk (h:c=true→X) (h':c=false→Y)
inductive MakeOb (l c:Int) (bytes:Nat) (K:Nat→Nat→Prop):Prop
 | mk (n m:Nat) (hl:l=(n:Int)) (hc:c=(m:Int)) (h:n≤m) (hb:bytes * m≤140737488355328) (hm:m≤9223372036854775807) (k:K n m)
inductive SliceOb (n c:Nat) (lo hi:Option Int) (K:Nat→Nat→Prop):Prop
 | mk (l h:Nat) (hlo:lo.getD 0=(l:Int)) (hhi:hi.getD n=(h:Int)) (h1:l≤h) (h2:h≤c) (k:K l h)
structure Holds (I:GH) (M:List Blk) (w:World):Prop where
 i:∀ b o,I b=some o→w.heap[b]?=some o
 m:∀ x∈M,w.heap[x.num]?=some x.obj
 d:∀ x∈M,I x.num=none
 nd:(M.map (·.num)).Nodup
def Same (w w':World):Prop:=w'.os=w.os∧w'.output=w.output
theorem Same.refl (w:World):Same w w:=⟨rfl,rfl⟩
theorem Same.trans {a b c:World} (h:Same a b) (h':Same b c):Same a c:=⟨h'.1.trans h.1,h'.2.trans h.2⟩
structure Kept (I:GH) (M:List Blk) (w:World) (I':GH) (M':List Blk) (w':World):Prop where
 le:∀ b o,I b=some o→I' b=some o
 newI:∀ b o,I' b=some o→I b=some o∨w.heap.size≤b
 newM:∀ x∈M',(∃ y∈M,y.num=x.num)∨w.heap.size≤x.num
 old:∀ b,b < w.heap.size→(∀ y∈M,y.num≠b)→w'.heap[b]?=w.heap[b]?
 out:Same w w'
 sz:w.heap.size≤w'.heap.size
def Enters (P:Program) (f:Nat):Prop:=∀ (args:Array Value) (w:World),(callFunc f args).run P w=.ok (.enter f args) w
def SpecE (P:Program) (f:Nat) (args:List Value) (I:GH) (M:List Blk) (post:Value→GH→List Blk→Prop):Prop:=
 Enters P f∧∀ w,Holds I M w→Calls P f args.toArray w fun e w'=>∃ v I' M',e=.returned v∧post v I' M'∧Holds I' M' w'∧Kept I M w I' M' w'
def SpecX (P:Program) (f:Nat) (args:List Value) (I:GH) (M:List Blk) (post:Value→GH→List Blk→Prop):Prop:=
 ∀ w,Holds I M w→∃ v w' I' M',(callFunc f args.toArray).run P w=.ok (.value v) w'∧post v I' M'∧Holds I' M' w'∧Kept I M w I' M' w'
def Spec (P:Program) (f:Nat) (args:List Value) (I:GH) (M:List Blk) (post:Value→GH→List Blk→Prop):Prop:=SpecE P f args I M post∨SpecX P f args I M post
def ins (I:GH) (b:Nat) (o:Obj):GH:=fun x=>bif Nat.beq x b then some o else I x
inductive Wk (foot:List Nat):GH→List Blk→GH→List Blk→Prop
 | refl {I M}:Wk foot I M I M
 | sub {I M M1 I' M'} (h:List.Sublist M1 M) (k:Wk foot I M1 I' M'):Wk foot I M I' M'
 | perm {I M M1 I' M'} (h:M.Perm M1) (k:Wk foot I M1 I' M'):Wk foot I M I' M'
 | prom {I M I' M' b o post} (h:M=⟨b,o⟩::post) (hf:b ∉ foot) (k:Wk foot (ins I b o) post I' M'):Wk foot I M I' M'
structure Fa (I:GH) (M:List Blk):Prop where
 d:∀ x∈M,I x.num=none
 nd:(M.map (·.num)).Nodup
inductive CallOb (foot:List Nat) (P:Program) (f:Nat) (args:List Value) (I:GH) (M:List Blk) (K:Value→GH→List Blk→Prop):Prop
 | mk (Mc Mr:List Blk) (post:Value→GH→List Blk→Prop) (hM:M.Perm (Mc++Mr)) (hs:Spec P f args I Mc post)
  (k:∀ v I' M',(∀ b o,I b=some o→I' b=some o)→post v I' M'→K v I' (M'++Mr))
 | mkD (Mc Mr:List Blk) (post:Value→GH→List Blk→Prop) (hM:M.Perm (Mc++Mr)) (hs:Spec P f args I Mc post)
  (k:∀ v I' M',(∀ b o,I b=some o→I' b=some o)→(∀ x∈M'++Mr,I' x.num=none)→post v I' M'→K v I' (M'++Mr))
 | mkW (I1:GH) (Mc Mr:List Blk) (post:Value→GH→List Blk→Prop) (hw:Wk foot I M I1 (Mc++Mr)) (hs:Spec P f args I1 Mc post)
  (k:∀ v I' M',(∀ b o,I1 b=some o→I' b=some o)→(∀ x∈M'++Mr,I' x.num=none)→post v I' M'→K v I' (M'++Mr))
 | fa (h:Fa I M→CallOb foot P f args I M K)
theorem CallOb.elim {foot:List Nat} {P:Program} {f:Nat} {args:List Value} {I:GH} {M:List Blk} {K:Value→GH→List Blk→Prop} (hfa:Fa I M) (h:CallOb foot P f args I M K) :
  ∃ (I1:GH) (Mc Mr:List Blk) (post:Value→GH→List Blk→Prop),Wk foot I M I1 (Mc++Mr)∧Spec P f args I1 Mc post∧∀ v I' M',(∀ b o,I1 b=some o→I' b=some o)→(∀ x∈M'++Mr,I' x.num=none)→post v I' M'→K v I' (M'++Mr):=by
 induction h with
 | mk Mc Mr post hM hs k=>exact⟨I,Mc,Mr,post,.perm hM .refl,hs,fun v I' M' h1 _ h2=>k v I' M' h1 h2⟩
 | mkD Mc Mr post hM hs k=>exact⟨I,Mc,Mr,post,.perm hM .refl,hs,k⟩
 | mkW I1 Mc Mr post hw hs k=>exact⟨I1,Mc,Mr,post,hw,hs,k⟩
 | fa h ih=>exact ih hfa
structure Ctx where
 P:Program
 E:Env
 esc:List Nat
 n:Nat
 B:Nat
 h0:World
 I0:GH
 foot:List Nat
 ro:Option Nat
def fen (X:Ctx):Fence:={ Fence.wide with round:=X.ro }
def SVok (β:Nat→Nat):SV→Value→Prop
 | .val v,u=>u=v
 | .lit b,u=>u=.bool b
 | .ref s off,u=>u=.pointer (some ⟨β s,off,none⟩)
 | .junk,_=>True
structure BoxAt (X:Ctx) (w:World) (I:GH) (M:List Blk) (b:Nat) (cs:List Value):Prop where
 at_:∃ T,w.heap[b]?=some (.cells cs.toArray T (0,0))
 base:X.B≤b
 noI:I b=none
 noM:∀ x∈M,x.num≠b
structure MarkAt (X:Ctx) (w:World) (I:GH) (M:List Blk) (r:Nat):Prop where
 at_:w.heap[r]?=some (.deferred (some []))
 base:X.B≤r
 noI:I r=none
 noM:∀ x∈M,x.num≠r
def markOf (r:Nat):Deferred:={ target:=.collected r,args:=#[] }
def Marks (X:Ctx) (a:Act) (w:World) (I:GH) (M:List Blk):Prop:=∃ rs:List Nat,a.defers=rs.map markOf∧rs.Nodup∧∀ r∈rs,MarkAt X w I M r
structure RelB (X:Ctx) (β:Nat→Nat) (a:Act) (w:World) (F:Fr) (C:Bx) (I:GH) (M:List Blk):Prop where
 size:a.tmps.size=X.n
 defers:Marks X a w I M
 holds:Holds I M w
 fr:∀ t,SVok β (F t) (a.tmps.getD t undef)
 bx:∀ s cs,C s=some cs→BoxAt X w I M (β s) cs
 inj:∀ s s',C s≠none→C s'≠none→β s=β s'→s=s'
 le0:∀ b o,X.I0 b=some o→I b=some o
 new0:∀ b o,I b=some o→X.I0 b=some o∨X.B≤b
 own:∀ x∈M,x.num∈X.foot∨X.B≤x.num
 old:∀ b,b < X.B→b ∉ X.foot→w.heap[b]?=X.h0.heap[b]?
 out:Same X.h0 w
 sz:X.B≤w.heap.size
def Rel (X:Ctx) (a:Act) (w:World) (F:Fr) (C:Bx) (I:GH) (M:List Blk):Prop:=∃ β,RelB X β a w F C I M
def Sat (X:Ctx) (K:KS) (a:Act) (w:World):Prop:=∃ F C I M,Rel X a w F C I M∧K F C I M
inductive OtherOb (X:Ctx) (o:Oper) (F:Fr) (C:Bx) (I:GH) (M:List Blk) (K:KS):Prop
 | mk (h:∀ a w Q,Rel X a w F C I M→o.wpIn (fen X) 0 X.P a w (Sat X K) Q)
def evqs (ρ:Operand→SV):List Operand→Option (List Value)
 | []=>some []
 | x::xs=>match evq ρ x,evqs ρ xs with
  | .val v,some vs=>some (v::vs)
  | _,_=>none
abbrev evs (F:Fr):List Operand→Option (List Value):=evqs (evr F)
def fillL (place:Nat→Option (Nat×Nat)) (cells:List Value):List (Nat×Value)→Option (List Value)
 | []=>some cells
 |(i,v)::rest=>match place i with
  | none=>none
  | some (off,size)=>bif Nat.beq v.cells.size size && Nat.ble (off+size) cells.length then fillL place (splice cells off v.cells.toList) rest else none
def evqParts (ρ:Operand→SV):List (Nat×Operand)→Option (List (Nat×Value))
 | []=>some []
 |(i,x)::xs=>match evq ρ x,evqParts ρ xs with
  | .val v,some vs=>some ((i,v)::vs)
  | _,_=>none
abbrev evParts (F:Fr):List (Nat×Operand)→Option (List (Nat×Value)):=evqParts (evr F)
def places (E:Env) (fs:List (Nat×Nat)) (i:Nat):Option (Nat×Nat):=match fs[i]? with
 | some (ft,off)=>match E ft with
  | some fi=>some (off,fi.size)
  | none=>none
 | none=>none
def placesOk (E:Env) (fs:List (Nat×Nat)):Bool:=fs.all fun f=>(E f.1).isSome
def rowOf (zero:List Value) (n:Nat):List Value:=(List.range n).map fun i=>zero[i % zero.length]!
theorem rowOf_eq (zero:List Value) (n:Nat):rowOf zero n=(madeCells zero.toArray n).toList:=by
 simp[rowOf,madeCells]
def IntKind.eqb:IntKind→IntKind→Bool
 | .i8,.i8 | .i16,.i16 | .i32,.i32 | .i64,.i64 | .u8,.u8 | .u16,.u16 | .u32,.u32 | .u64,.u64=>true
 | _,_=>false
def V_bin (op:BinOp) (ti:Option TI) (x y:SV) (K:Value→Prop) (other:Prop):Prop:=
 match x,y with
 | .val (.int k a),.val (.int k' b)=>
  match op with
  | .shl=>ShOb b fun j=>ArithOb k (a * 2 ^ (min j k.bits)) fun r=>K (.int k r)
  | .shr=>ShOb b fun j=>K (.int k (a.fdiv (2 ^ (min j k.bits))))
  | op=>bif IntKind.eqb k k' then
    (match op with
    | .add=>ArithOb k (a+b) fun r=>K (.int k r)
    | .sub=>ArithOb k (a - b) fun r=>K (.int k r)
    | .mul=>ArithOb k (a * b) fun r=>K (.int k r)
    | .quo=>DivOb b (ArithOb k (a.tdiv b) fun r=>K (.int k r))
    | .rem=>DivOb b (K (.int k (a.tmod b)))
    | .and | .or | .xor | .andNot=>(match bitsv op k a b with
     | some r=>K (.int k r)
     | none=>False)
    | op=>(match cmpv op a b with
     | some r=>K (.bool r)
     | none=>False))
   else False
 | .val (.string a),.val (.string b)=>
  match op with
  | .eql=>K (.bool (decide (a=b)))
  | .neq=>K (.bool (!decide (a=b)))
  | _=>other
 | .val (.bool a),.val (.bool b)=>
  match ti with
  | some { sh:=.bool,.. }=>
   (match op with
   | .eql=>K (.bool (a == b))
   | .neq=>K (.bool (!(a == b)))
   | _=>other)
  | _=>other
 | _,_=>other
inductive BinOb (P:Program) (op:BinOp) (t:Nat) (x y:Operand) (p q:SV) (K:Value→Prop) (other:Prop):Prop
 | mk (p' q' v:Value) (hp:p=.val p') (hq:q=.val q') (h:∀ w,(do eqGuard op t x y p' q';binOp op t p' q':Sem Value).run P w=.ok v w) (k:K v)
 | other (h:other)
def V_q (X:Ctx) (op:Op) (ρ:Operand→SV) (C:Bx) (I:GH) (M:List Blk) (V:SV→Prop) (other:Prop):Prop:=
 match op with
 | .move x | .assign x=>V (ρ x)
 | .pick c a b=>
  match ρ c with
  | .lit c=>V (bif c then ρ a else ρ b)
  | .val (.bool c)=>V (pickV c (evq ρ a) (evq ρ b))
  | _=>False
 | .unOp op _ x=>
  match op,ρ x with
  | .not,.lit b=>V (.lit (!b))
  | .not,.val (.bool b)=>V (.val (.bool (!b)))
  | .neg,.val (.int k n)=>ArithOb k (0 - n) fun r=>V (.val (.int k r))
  | _,_=>other
 | .binOp op t x y _=>V_bin op (X.E t) (evq ρ x) (evq ρ y) (fun v=>V (.val v)) (BinOb X.P op t x y (evq ρ x) (evq ρ y) (fun v=>V (.val v)) other)
 | .load t x=>
  match X.E t with
  | some i=>
   (match ρ x with
   | .ref s off=>
    (match C s with
    | some cs=>bif Nat.ble (off+i.size) cs.length then V (.val (pack i.sh.agg ((cs.drop off).take i.size))) else False
    | none=>False)
   | .val (.pointer (some a))=>LoadOb I M a i.size fun vs=>V (.val (pack i.sh.agg vs))
   | _=>False)
  | none=>False
 | .nilCheck x=>
  match ρ x with
  | .ref s off=>V (.ref s off)
  | .val (.pointer (some a))=>V (.val (.pointer (some a)))
  | _=>other
 | .fieldAddr t x i=>
  match X.E t with
  | some { sh:=.struct fs,.. }=>
   (match fs[i]? with
   | some (ft,off)=>
    (match X.E ft,ρ x with
    | some fi,.ref s o'=>bif Nat.beq fi.size 0 then False else V (.ref s (o'+off))
    | some fi,.val (.pointer (some a))=>bif Nat.beq fi.size 0 then False else V (.val (.pointer (some (a.add off))))
    | _,_=>False)
   | none=>False)
  | _=>False
 | .field t x i=>
  match X.E t,evq ρ x with
  | some { sh:=.struct fs,.. },.val (.agg cs)=>
   (match fs[i]? with
   | some (ft,off)=>
    (match X.E ft with
    | some fi=>bif Nat.ble (off+fi.size) cs.size then V (.val (pack fi.sh.agg ((cs.toList.drop off).take fi.size))) else False
    | none=>False)
   | none=>False)
  | _,_=>False
 | .indexAddr t x i=>
  match X.E t,evq ρ i with
  | some { sh:=.slice e,.. },.val (.int _ k)=>
   (match X.E e,evq ρ x with
   | some ei,.val (.slice a n _)=>IdxOb a n ei.size k fun ad=>V (.val (.pointer (some ad)))
   | _,_=>False)
  | some { sh:=.array n e,.. },.val (.int _ k)=>
   (match X.E e,ρ x with
   | some ei,.ref s o'=>ArrOb n k fun j=>V (.ref s (o'+j * ei.size))
   | some ei,.val (.pointer (some a))=>ArrOb n k fun j=>V (.val (.pointer (some (a.add (j * ei.size)))))
   | _,_=>False)
  | _,_=>False
 | .index t x i=>
  match X.E t,evq ρ x,evq ρ i with
  | some { sh:=.string,.. },.val (.string s),.val (.int _ k)=>StrOb s k fun b=>V (.val (.int .u8 b.toNat))
  | some { sh:=.array n e,.. },.val (.agg cs),.val (.int _ k)=>
   (match X.E e with
   | some ei=>bif Nat.beq (n * ei.size) cs.size then ArrOb n k fun j=>V (.val (pack ei.sh.agg ((cs.toList.drop (j * ei.size)).take ei.size))) else False
   | none=>False)
  | _,_,_=>False
 | .build t parts=>
  match X.E t,evqParts ρ parts.toList with
  | some i,some vs=>
   (match i.sh with
   | .struct fs=>bif placesOk X.E fs then (match fillL (places X.E fs) i.zero vs with
    | some cells=>V (.val (.agg cells.toArray))
    | none=>False) else False
   | .array _ e=>(match X.E e with
    | some ei=>(match fillL (fun j=>some (j * ei.size,ei.size)) i.zero vs with
     | some cells=>V (.val (.agg cells.toArray))
     | none=>False)
    | none=>False)
   | _=>False)
  | _,_=>False
 | .makeFunc fn first captured=>
  match evqs ρ first.toList,evqs ρ captured.toList with
  | some fs,some cs=>V (.val (.func fn fs.toArray cs.toArray))
  | _,_=>False
 | .slice t x lo hi mx=>
  match X.E t,evq ρ x,mx with
  | some { sh:=.slice e,.. },.val (.slice a n c),none=>
   (match X.E e,lo.map (evq ρ),hi.map (evq ρ) with
   | some ei,none,none=>V (.val (.slice a n c))
   | some ei,none,some (.val (.int _ h))=>SliceOb n c none (some h) fun _ h=>V (.val (.slice a h c))
   | some ei,some (.val (.int _ l)),none=>SliceOb n n (some l) none fun l _=>V (.val (.slice (if c=l then a else a.map (·.add (l * ei.size))) (n - l) (c - l)))
   | some ei,some (.val (.int _ l)),some (.val (.int _ h))=>SliceOb n c (some l) (some h) fun l h=>V (.val (.slice (if c=l then a else a.map (·.add (l * ei.size))) (h - l) (c - l)))
   | _,_,_=>False)
  | some { sh:=.string,.. },.val (.string s),none=>
   (match lo.map (evq ρ),hi.map (evq ρ) with
   | none,none=>V (.val (.string s))
   | none,some (.val (.int _ h))=>SliceOb s.size s.size none (some h) fun _ h=>V (.val (.string (s.extract 0 h)))
   | some (.val (.int _ l)),none=>SliceOb s.size s.size (some l) none fun l _=>V (.val (.string (s.extract l s.size)))
   | some (.val (.int _ l)),some (.val (.int _ h))=>SliceOb s.size s.size (some l) (some h) fun l h=>V (.val (.string (s.extract l h)))
   | _,_=>False)
  | _,_,_=>other
 | .extract x i=>
  match evq ρ x with
  | .val (.tuple vs)=>(match vs.toList[i]? with
   | some v=>V (.val v)
   | none=>False)
  | _=>False
 | .convert s d x=>
  match X.E s,X.E d,evq ρ x with
  | some _,some { sh:=.int k,.. },.val (.int _ n)=>ArithOb k n fun r=>V (.val (.int k r))
  | _,_,_=>other
 | .call { callee:=.builtin .len,args,argTypes }=>
  match argTypes.toList,evqs ρ args.toList with
  | [t],some [v]=>
   (match X.E t,v with
   | some { sh:=.slice _,.. },.slice _ n _=>V (.val (.int .i64 n))
   | some { sh:=.string,.. },.string s=>V (.val (.int .i64 s.size))
   | some { sh:=.array n _,.. },_=>V (.val (.int .i64 n))
   | _,_=>other)
  | _,_=>other
 | .call { callee:=.builtin .cap,args,argTypes }=>
  match argTypes.toList,evqs ρ args.toList with
  | [t],some [v]=>
   (match X.E t,v with
   | some { sh:=.slice _,.. },.slice _ _ c=>V (.val (.int .i64 c))
   | _,_=>other)
  | _,_=>other
 | .call { callee:=.builtin .max,args,.. }=>
  match evqs ρ args.toList with
  | some [.int k a,.int _ b]=>V (.val (.int k (max a b)))
  | _=>other
 | .call { callee:=.builtin .min,args,.. }=>
  match evqs ρ args.toList with
  | some [.int k a,.int _ b]=>V (.val (.int k (min a b)))
  | _=>other
 | .call { callee:=.builtin .unsafeSliceData,args,.. }=>
  match evqs ρ args.toList with
  | some [.slice none _ _]=>V (.val (.pointer none))
  | some [.slice (some a) _ c]=>DivOb c (V (.val (.pointer (some a))))
  | _=>other
 | _=>other
def V_op (X:Ctx) (o:Oper) (F:Fr) (C:Bx) (I:GH) (M:List Blk) (K:KS):Prop:=
 match o.op with
 | .box t x=>
  match o.dst,ev F x with
  | some d,.val v=>
   bif X.esc.contains d then AllocOb I M fun b=>K (upd (clr F d) d (.val (.pointer (some ⟨b,0,none⟩)))) (updB C d none) I (⟨b,.cells v.cells t (0,0)⟩::M)
   else K (upd (clr F d) d (.ref d 0)) (updB C d (some v.cells.toList)) I M
  | _,_=>False
 | .alloc t=>
  match o.dst,X.E t with
  | some d,some i=>
   bif X.esc.contains d then AllocOb I M fun b=>K (upd (clr F d) d (.val (.pointer (some ⟨b,0,none⟩)))) (updB C d none) I (⟨b,.cells i.zero.toArray t (0,0)⟩::M)
   else K (upd (clr F d) d (.ref d 0)) (updB C d (some i.zero)) I M
  | _,_=>False
 | .store t x y=>
  match o.dst,X.E t,ev F y with
  | none,some i,.val v=>
   (match evr F x with
   | .ref s off=>
    (match C s with
    | some cs=>bif Nat.ble (off+i.size) cs.length && (Nat.beq v.cells.size i.size && allOne v.cells.toList) then K F (updB C s (some (splice cs off v.cells.toList))) I M else False
    | none=>False)
   | .val (.pointer (some a))=>bif Nat.beq v.cells.size i.size then StoreOb M a v.cells.toList fun M'=>K F C I M' else False
   | _=>False)
  | _,_,_=>False
 | .buildSlice t len parts=>
  match X.E t,evParts F parts.toList with
  | some { sh:=.slice e,.. },some vs=>
   (match X.E e with
   | some ei=>
    bif Nat.ble (len * ei.size) 16777216 && Nat.blt 0 (len * ei.size) then
     (match fillL (fun j=>some (j * ei.size,ei.size)) (rowOf ei.zero (len * ei.size)) vs with
     | some cells=>AllocOb I M fun b=>K (put o.dst (.val (.slice (some ⟨b,0,none⟩) len len)) F) C I (⟨b,.cells cells.toArray e (0,0)⟩::M)
     | none=>False)
    else (match len,vs with
     | 0,[]=>AllocOb I M fun b=>K (put o.dst (.val (.slice (some ⟨b,0,none⟩) 0 0)) F) C I (⟨b,.cells #[] e (0,0)⟩::M)
     | _,_=>False)
   | none=>False)
  | _,_=>False
 | .makeSlice t l c=>
  match X.E t,ev F l,ev F c with
  | some { sh:=.slice e,.. },.val (.int _ l),.val (.int _ c)=>
   (match X.E e with
   | some ei=>MakeOb l c ei.bytes fun n m=>AllocOb I M fun b=>K (put o.dst (.val (.slice (some ⟨b,0,none⟩) n m)) F) C I (⟨b,.cells (rowOf ei.zero (m * ei.size)).toArray e (0,0)⟩::M)
   | none=>False)
  | _,_,_=>False
 | .call { callee:=.value f,args,.. }=>
  match ev F f,evs F args.toList with
  | .val (.func (.func g) first cap),some vs=>CallOb X.foot X.P g (first.toList++vs++cap.toList) I M fun v I' M'=>K (put o.dst (.val v) F) C I' M'
  | _,_=>OtherOb X o F C I M K
 | op=>V_q X op (evr F) C I M (fun x=>K (put o.dst x F) C I M) (OtherOb X o F C I M K)
inductive GuardOb (c b:Bool) (Y N:Prop):Prop
 | mk (h:c=b→Y) (h':c=!b→N)
def V_ops (X:Ctx) (ops:List Oper):List Oper→Fr→Bx→GH→List Blk→KS→Prop
 | [],F,C,I,M,K=>K F C I M
 | o::rest,F,C,I,M,K=>
  match o.guard with
  | none=>V_op X o F C I M fun F C I M=>V_ops X ops rest F C I M K
  | some (j,b)=>
   match (ops[j]?).bind (·.dst) with
   | none=>False
   | some d=>
    match F d with
    | .lit c=>bif c == b then V_op X o F C I M fun F C I M=>V_ops X ops rest F C I M K else V_ops X ops rest (put o.dst (.val undef) F) C I M K
    | .val (.bool c)=>GuardOb c b (V_op X o (upd F d (.lit b)) C I M fun F C I M=>V_ops X ops rest F C I M K) (V_ops X ops rest (put o.dst (.val undef) (upd F d (.lit !b))) C I M K)
    | .val (.tuple _)=>V_ops X ops rest (put o.dst (.val undef) F) C I M K
    | _=>False
theorem beq_ne {a b:Nat} (h:¬ a=b):Nat.beq a b=false:=by
 cases hb:Nat.beq a b with
 | false=>rfl
 | true=>exact absurd (Nat.eq_of_beq_eq_true hb) h
theorem beq_self' (a:Nat):Nat.beq a a=true:=Nat.beq_refl a
theorem heapOld (w:World) (o:Obj) {i:Nat} (h:i < w.heap.size):(w.alloc o).heap[i]?=w.heap[i]?:=by
 show (w.heap.push o)[i]?=_
 simp[Array.getElem?_push,Nat.ne_of_lt h]
theorem heapNew (w:World) (o:Obj):(w.alloc o).heap[w.heap.size]?=some o:=by
 show (w.heap.push o)[w.heap.size]?=_
 simp
section
variable {X:Ctx} {β:Nat→Nat} {a:Act} {w:World} {F:Fr} {C:Bx} {I:GH} {M:List Blk} {o:Oper} {Q:Exit→Act→World→Prop} {next:Act→World→Prop} {K:KS}
theorem SVok_evr (h:∀ t,SVok β (F t) (a.tmps.getD t undef)) (x:Operand):SVok β (evr F x) (a.eval x):=by
 cases x with
 | tmp t=>exact h t
 | const v=>cases v<;>exact rfl
 | global g=>exact rfl
 | func f=>exact rfl
theorem eval_of_ev (h:∀ t,SVok β (F t) (a.tmps.getD t undef)) {x:Operand} {v:Value} (hx:ev F x=.val v):a.eval x=v:=by
 have h1:=SVok_evr h x
 unfold ev evq at hx
 split at hx
 ·rename_i b hb
  rw[hb] at h1
  cases hx
  exact h1
 ·rw[hx] at h1
  exact h1
theorem eval_of_evr (h:∀ t,SVok β (F t) (a.tmps.getD t undef)) {x:Operand} {v:Value} (hx:evr F x=.val v):a.eval x=v:=by
 have h1:=SVok_evr h x
 rw[hx] at h1
 exact h1
theorem eval_of_lit (h:∀ t,SVok β (F t) (a.tmps.getD t undef)) {x:Operand} {b:Bool} (hx:evr F x=.lit b):a.eval x=.bool b:=by
 have h1:=SVok_evr h x
 rw[hx] at h1
 exact h1
theorem eval_of_ref (h:∀ t,SVok β (F t) (a.tmps.getD t undef)) {x:Operand} {s off:Nat} (hx:evr F x=.ref s off):a.eval x=.pointer (some ⟨β s,off,none⟩):=by
 have h1:=SVok_evr h x
 rw[hx] at h1
 exact h1
theorem SVok_ev (h:∀ t,SVok β (F t) (a.tmps.getD t undef)) (x:Operand):SVok β (ev F x) (a.eval x):=by
 have h1:=SVok_evr h x
 unfold ev evq
 split
 ·rename_i b hb
  rw[hb] at h1
  exact h1
 ·exact h1
theorem evs_ok (h:∀ t,SVok β (F t) (a.tmps.getD t undef)):∀ {xs:List Operand} {vs:List Value},evs F xs=some vs→xs.map a.eval=vs
 | [],vs,hx=>by simp[evs,evqs] at hx;simp[hx]
 | x::xs,vs,hx=>by
  unfold evs evqs at hx
  split at hx
  ·rename_i v vs' h1 h2
   cases hx
   simp[eval_of_ev h h1,evs_ok h h2]
  ·cases hx
theorem evParts_ok (h:∀ t,SVok β (F t) (a.tmps.getD t undef)):∀ {xs:List (Nat×Operand)} {vs:List (Nat×Value)},evParts F xs=some vs→(xs.map fun (i,x)=>(i,a.eval x))=vs
 | [],vs,hx=>by simp[evParts,evqParts] at hx;simp[hx]
 |(i,x)::xs,vs,hx=>by
  unfold evParts evqParts at hx
  split at hx
  ·rename_i v vs' h1 h2
   cases hx
   simp[eval_of_ev h h1,evParts_ok h h2]
  ·cases hx
theorem wpIn_val {v:Value} {w':World} (hnd:∀ c,o.op≠.defer c) (h:(execOp a.eval o).run X.P w=.ok (.value v) w') (hk:next (a.put o.dst v) w'):o.wpIn (fen X) 0 X.P a w next Q:=
 ⟨fun _ _=>trivial,by rw[Oper.semAt_eq _ _ _ hnd,h];exact hk⟩
theorem wpIn_skip' {w':World} (hnd:∀ c,o.op≠.defer c) (h:(execOp a.eval o).run X.P w=.ok .skip w') (hk:next (a.put o.dst undef) w'):o.wpIn (fen X) 0 X.P a w next Q:=
 ⟨fun _ _=>trivial,by rw[Oper.semAt_eq _ _ _ hnd,h];exact hk⟩
theorem getD_put (a:Act) (d t:Nat) (v:Value) (hd:d < a.tmps.size):(a.put (some d) v).tmps.getD t undef=if t=d then v else a.tmps.getD t undef:=by
 simp only[Act.put,Array.getD_eq_getD_getElem?,Array.getElem?_setIfInBounds]
 by_cases h:t=d
 ·subst h;simp[hd]
 ·simp[h,Ne.symm h]
theorem SVok_upd (h:∀ t,SVok β (F t) (a.tmps.getD t undef)) {d:Nat} {x:SV} {v:Value} (hd:d < a.tmps.size) (hx:SVok β x v) (t:Nat):SVok β (upd F d x t) ((a.put (some d) v).tmps.getD t undef):=by
 rw[getD_put a d t v hd]
 unfold upd
 by_cases h1:t=d
 ·subst h1;simp only[beq_self',cond_true,if_true];exact hx
 ·have:Nat.beq t d=false:=beq_ne h1
  simp only[this,cond_false,if_neg h1];exact h t
theorem setRow_same (w:World) (g:Nat) (cs:Array Value):Same w (w.setRow g cs):=by
 unfold World.setRow
 first | exact⟨rfl,rfl⟩ | (split<;>exact⟨rfl,rfl⟩)
theorem putObj_same (w:World) (g:Nat) (o:Obj):Same w (w.putObj g o):=by
 unfold World.putObj
 exact⟨rfl,rfl⟩
theorem Marks.mono (h:Marks X a w I M) {w':World} {I':GH} {M':List Blk} (hm:∀ r,MarkAt X w I M r→MarkAt X w' I' M' r):Marks X a w' I' M':=by
 obtain⟨rs,h1,h2,h3⟩:=h
 exact⟨rs,h1,h2,fun r hr=>hm r (h3 r hr)⟩
theorem RelB.put (h:RelB X β a w F C I M) {dst:Option Nat} (hd:∀ d,dst=some d→d < X.n) {x:SV} {v:Value} (hx:SVok β x v):RelB X β (a.put dst v) w (put dst x F) C I M:=by
 cases dst with
 | none=>exact h
 | some d=>
  refine { h with size:=?_,defers:=h.defers,fr:=?_ }
  ·simp[Act.put,h.size]
  ·exact SVok_upd h.fr (by rw[h.size];exact hd d rfl) hx
theorem Holds.heap {w':World} (h:Holds I M w) (hh:w'.heap=w.heap):Holds I M w':=
 { i:=by rw[hh];exact h.i,m:=by rw[hh];exact h.m,d:=h.d,nd:=h.nd }
theorem RelB.world {w':World} (h:RelB X β a w F C I M) (hh:w'.heap=w.heap) (ho:Same w w':=by exact⟨rfl,rfl⟩):RelB X β a w' F C I M:=
 { h with
  holds:={ i:=by rw[hh];exact h.holds.i,m:=by rw[hh];exact h.holds.m,d:=h.holds.d,nd:=h.holds.nd }
  defers:=h.defers.mono fun r hr=>{ hr with at_:=by rw[hh];exact hr.at_ }
  bx:=fun s cs hs=>{ h.bx s cs hs with at_:=by rw[hh];exact(h.bx s cs hs).at_ }
  old:=by rw[hh];exact h.old
  out:=h.out.trans ho
  sz:=by rw[hh];exact h.sz }
theorem Holds.alloc (h:Holds I M w) (o:Obj):Holds I M (w.alloc o) where
 i b x hb:=by
  have h1:=h.i b x hb
  rw[heapOld w o (Array.getElem?_eq_some_iff.1 h1).1]
  exact h1
 m x hx:=by
  have h1:=h.m x hx
  rw[heapOld w o (Array.getElem?_eq_some_iff.1 h1).1]
  exact h1
 d:=h.d
 nd:=h.nd
theorem Holds.lt (h:Holds I M w) {x:Blk} (hx:x∈M):x.num < w.heap.size:=(Array.getElem?_eq_some_iff.1 (h.m x hx)).1
theorem Holds.ltI (h:Holds I M w) {b:Nat} {o:Obj} (hb:I b=some o):b < w.heap.size:=(Array.getElem?_eq_some_iff.1 (h.i b o hb)).1
theorem Holds.freshI (h:Holds I M w):I w.heap.size=none:=by
 cases hb:I w.heap.size with
 | none=>rfl
 | some o=>exact absurd (h.ltI hb) (Nat.lt_irrefl _)
theorem Holds.freshM (h:Holds I M w):∀ x∈M,x.num≠w.heap.size:=fun x hx e=>by have:=h.lt hx;omega
theorem Holds.cons (h:Holds I M w) (o:Obj):Holds I (⟨w.heap.size,o⟩::M) (w.alloc o) where
 i:=(h.alloc o).i
 m x hx:=by
  rcases List.mem_cons.1 hx with rfl | hx
  ·exact heapNew w o
  ·exact(h.alloc o).m x hx
 d x hx:=by
  rcases List.mem_cons.1 hx with rfl | hx
  ·exact h.freshI
  ·exact h.d x hx
 nd:=by
  simp only[List.map_cons,List.nodup_cons]
  refine⟨fun hm=>?_,h.nd⟩
  obtain⟨x,hx,e⟩:=List.mem_map.1 hm
  exact h.freshM x hx e
theorem BoxAt.alloc {b:Nat} {cs:List Value} (h:BoxAt X w I M b cs) (o:Obj):BoxAt X (w.alloc o) I M b cs where
 at_:=by
  obtain⟨T,hT⟩:=h.at_
  exact⟨T,by rw[heapOld w o (Array.getElem?_eq_some_iff.1 hT).1];exact hT⟩
 base:=h.base
 noI:=h.noI
 noM:=h.noM
theorem BoxAt.lt {b:Nat} {cs:List Value} (h:BoxAt X w I M b cs):b < w.heap.size:=by
 obtain⟨T,hT⟩:=h.at_
 exact(Array.getElem?_eq_some_iff.1 hT).1
theorem BoxAt.consM {b:Nat} {cs:List Value} (h:BoxAt X w I M b cs) (o:Obj):BoxAt X (w.alloc o) I (⟨w.heap.size,o⟩::M) b cs where
 at_:=(h.alloc o).at_
 base:=h.base
 noI:=h.noI
 noM x hx:=by
  rcases List.mem_cons.1 hx with rfl | hx
  ·exact fun e=>by have:=h.lt;simp only at e;omega
  ·exact h.noM x hx
theorem MarkAt.alloc {r:Nat} (h:MarkAt X w I M r) (o:Obj):MarkAt X (w.alloc o) I M r:=
 { h with at_:=by rw[heapOld w o (Array.getElem?_eq_some_iff.1 h.at_).1];exact h.at_ }
theorem MarkAt.consM {r:Nat} (h:MarkAt X w I M r) (o:Obj):MarkAt X (w.alloc o) I (⟨w.heap.size,o⟩::M) r:=by
 refine { h.alloc o with noM:=fun x hx=>?_ }
 rcases List.mem_cons.1 hx with rfl | hx
 ·have h1:=(Array.getElem?_eq_some_iff.1 h.at_).1
  simp only
  omega
 ·exact h.noM x hx
theorem old_alloc (h:∀ b,b < X.B→b ∉ X.foot→w.heap[b]?=X.h0.heap[b]?) (hsz:X.B≤w.heap.size) (o:Obj):∀ b,b < X.B→b ∉ X.foot→(w.alloc o).heap[b]?=X.h0.heap[b]?:=fun b hb hf=>by
 rw[heapOld w o (by omega)];exact h b hb hf
theorem RelB.alloc_blk (h:RelB X β a w F C I M) (o:Obj):RelB X β a (w.alloc o) F C I (⟨w.heap.size,o⟩::M) where
 size:=h.size
 defers:=h.defers.mono fun r hr=>hr.consM o
 holds:=h.holds.cons o
 fr:=h.fr
 bx s cs hs:=(h.bx s cs hs).consM o
 inj:=h.inj
 le0:=h.le0
 new0:=h.new0
 own x hx:=by
  rcases List.mem_cons.1 hx with rfl | hx
  ·exact .inr h.sz
  ·exact h.own x hx
 old:=old_alloc h.old h.sz o
 out:=h.out
 sz:=by have:=h.sz;simp;omega
theorem RelB.dropBox (h:RelB X β a w F C I M) (d:Nat):RelB X β a w (clr F d) (updB C d none) I M where
 size:=h.size
 defers:=h.defers
 holds:=h.holds
 fr t:=by
  have h1:=h.fr t
  unfold clr
  cases hF:F t with
  | ref s off=>
   rw[hF] at h1
   simp only
   cases Nat.beq s d
   ·exact h1
   ·trivial
  | _=>rw[hF] at h1;exact h1
 bx s cs hs:=by
  unfold updB at hs
  cases hb:Nat.beq s d with
  | true=>simp[hb] at hs
  | false=>simp[hb] at hs;exact h.bx s cs hs
 inj s s' h1 h2:=h.inj s s' (fun e=>h1 (by simp[updB,e])) (fun e=>h2 (by simp[updB,e]))
 le0:=h.le0
 new0:=h.new0
 own:=h.own
 old:=h.old
 out:=h.out
 sz:=h.sz
theorem RelB.alloc_box (h:RelB X β a w F C I M) (d:Nat) (hd:d < X.n) (cs:List Value) (T:Nat) :
  ∃ β',RelB X β' (a.put (some d) (.pointer (some ⟨w.heap.size,0,none⟩))) (w.alloc (.cells cs.toArray T (0,0))) (upd (clr F d) d (.ref d 0)) (updB C d (some cs)) I M:=by
 have h0:=h.dropBox d
 let β':Nat→Nat:=fun s=>if s=d then w.heap.size else β s
 refine⟨β',?_⟩
 have hfr:∀ t,SVok β' (clr F d t) (a.tmps.getD t undef):=fun t=>by
  have h1:=h0.fr t
  cases hF:clr F d t with
  | ref s off=>
   rw[hF] at h1
   have hs:s≠d:=by
    intro e
    subst e
    unfold clr at hF
    split at hF
    ·rename_i s' off' hF'
     cases hb:Nat.beq s' s with
     | true=>simp[hb] at hF
     | false=>
      simp[hb] at hF
      obtain⟨rfl,_⟩:=hF
      simp at hb
    ·rename_i hne
     exact hne _ _ hF
   simp only[SVok,β',if_neg hs]
   exact h1
  | _=>rw[hF] at h1;exact h1
 exact {
  size:=by simp[Act.put,h.size]
  defers:=h.defers.mono fun r hr=>hr.alloc _
  holds:=h.holds.alloc _
  fr:=SVok_upd hfr (by rw[h.size];exact hd) (by simp[SVok,β'])
  bx:=fun s cs' hs=>by
   by_cases e:s=d
   ·subst e
    simp[updB] at hs
    subst hs
    simp only[β',if_pos rfl]
    exact { at_:=⟨T,heapNew w _⟩,base:=h.sz,noI:=h.holds.freshI,noM:=h.holds.freshM }
   ·have hb:Nat.beq s d=false:=beq_ne e
    simp[updB,hb] at hs
    simp only[β',if_neg e]
    exact(h.bx s cs' hs).alloc _
  inj:=fun s s' h1 h2 he=>by
   by_cases e:s=d<;>by_cases e':s'=d
   ·rw[e,e']
   ·exfalso
    have hb:Nat.beq s' d=false:=beq_ne e'
    simp[updB,hb] at h2
    obtain⟨c,hc⟩:=Option.ne_none_iff_exists'.1 h2
    have:=(h.bx s' c hc).lt
    simp only[β',if_pos e,if_neg e'] at he
    omega
   ·exfalso
    have hb:Nat.beq s d=false:=beq_ne e
    simp[updB,hb] at h1
    obtain⟨c,hc⟩:=Option.ne_none_iff_exists'.1 h1
    have:=(h.bx s c hc).lt
    simp only[β',if_neg e,if_pos e'] at he
    omega
   ·have hb:Nat.beq s d=false:=beq_ne e
    have hb':Nat.beq s' d=false:=beq_ne e'
    simp[updB,hb] at h1
    simp[updB,hb'] at h2
    simp only[β',if_neg e,if_neg e'] at he
    exact h.inj s s' h1 h2 he
  le0:=h.le0
  new0:=h.new0
  own:=h.own
  old:=old_alloc h.old h.sz _
  out:=h.out
  sz:=by have:=h.sz;simp;omega }
theorem addr_add (a:Addr) (h:a.spot=none) (j:Nat):a.add j=⟨a.block,a.off+j,none⟩:=by
 obtain⟨b,o,s⟩:=a
 simp only at h
 subst h
 unfold Addr.add
 split<;>simp_all
theorem cell_of_block {cs:Array Value} {T:Nat} {fr:Nat×Nat} {b:Nat} (hg:w.heap[b]?=some (.cells cs T fr)) (j:Nat):w.cell? ⟨b,j,none⟩=cs[j]?:=by
 simp[World.cell?,hg]
variable {P:Program} {t:Nat} {i:TI}
theorem TIok.run_sizeOf (h:TIok P t i) (w:World):(sizeOf t).run P w=.ok i.size w:=by
 obtain⟨inf,z,h1,h2,_⟩:=h.inf
 simp[sizeOf,typeInfo,h1,h2]
theorem TIok.run_zero (h:TIok P t i) (w:World):∃ z,(zeroValue t).run P w=.ok z w∧z.cells.toList=i.zero:=by
 obtain⟨inf,z,h1,h2,h3,h4,h5⟩:=h.inf
 exact⟨z,by simp[zeroValue,typeInfo,h1,h4],h5⟩
theorem TIok.run_und (h:TIok P t i) (w:World):∃ d,(underlying t).run P w=.ok d w∧shOf d=i.sh:=by
 obtain⟨d,h1,h2⟩:=h.und
 exact⟨d,run_underlying h1 w,h2⟩
theorem TIok.run_isAgg (h:TIok P t i) (w:World):(isAgg t).run P w=.ok i.sh.agg w:=by
 obtain⟨d,h1,h2⟩:=h.run_und w
 rw[←h2]
 unfold isAgg
 simp only[Sem.run_bind,h1,Result.andThen_ok]
 cases d<;>rfl
theorem headD_one {vs:List Value} (hl:vs.length=1):vs=[vs.headD undef]:=by
 match vs,hl with
 | [v],_=>rfl
theorem loadVar_run (h:TIok P t i) {a:Addr} {cs:Array Value} {T:Nat} {fr:Nat×Nat} {vs:List Value} (hs:a.spot=none) (hg:w.heap[a.block]?=some (.cells cs T fr))
  (hv:(cs.toList.drop a.off).take i.size=vs) (hl:vs.length=i.size):(loadVar t a).run P w=.ok (pack i.sh.agg vs) w:=by
 have hc:∀ j v,vs[j]?=some v→w.cell? (a.add j)=some v:=by
  intro j v hj
  rw[addr_add a hs,cell_of_block hg]
  rw[←hv,List.getElem?_take] at hj
  split at hj
  ·rw[List.getElem?_drop] at hj
   simpa using hj
  ·cases hj
 unfold loadVar
 simp only[Sem.run_bind,h.run_isAgg,Result.andThen_ok]
 cases hagg:i.sh.agg with
 | true=>
  simp only[if_true,Sem.run_bind,h.run_sizeOf,Result.andThen_ok,←hl]
  rw[run_loadCells_list w a vs hc]
  simp[pack]
 | false=>
  have h1:=h.sz1 hagg
  rw[h1] at hl
  have hvs:=headD_one hl
  have:=hc 0 (vs.headD undef) (by rw[hvs];simp)
  have ha:a.add 0=a:=rfl
  rw[ha] at this
  simp[this,pack]
theorem allOne_spec {vs:List Value} (h:allOne vs=true):∀ v∈vs,v.oneCell'=true:=by
 simpa[allOne] using h
theorem storeVar_run (h:TIok P t i) {a:Addr} {cs:Array Value} {T:Nat} {v:Value} (hs:a.spot=none) (hg:w.heap[a.block]?=some (.cells cs T (0,0)))
  (hsz:v.cells.size=i.size) (hb:a.off+v.cells.toList.length≤cs.size) (h1:allOne v.cells.toList=true) :
  (storeVar t a v).run P w=.ok () (w.setRow a.block (splice cs.toList a.off v.cells.toList).toArray):=by
 obtain⟨b,o,s⟩:=a
 simp only at hs hg hb
 subst hs
 unfold storeVar
 simp only[Sem.run_bind,h.run_sizeOf,Result.andThen_ok,hsz,ne_eq,not_true,if_false,Sem.run_ite]
 have:=run_storeCells_at (P:=P) b o T v.cells.toList 0 cs w hg (by simpa using hb) (allOne_spec h1)
 simp only[Nat.add_zero] at this
 simp only[splice]
 simpa using this
theorem RelB.store_box (h:RelB X β a w F C I M) {s:Nat} {cs:List Value} (hs:C s=some cs) (cs':List Value):RelB X β a (w.setRow (β s) cs'.toArray) F (updB C s (some cs')) I M:=by
 have hb:=h.bx s cs hs
 obtain⟨T,hT⟩:=hb.at_
 exact {
  size:=h.size
  defers:=h.defers.mono fun r hr=>by
   refine { hr with at_:=?_ }
   rw[setRow_other _ _ _ _ (fun e=>by have h1:=hr.at_;rw[e,hT] at h1;cases h1)]
   exact hr.at_
  holds:={
   i:=fun b o hbo=>by
    rw[setRow_other _ _ _ _ (fun e=>by rw[e,hb.noI] at hbo;cases hbo)]
    exact h.holds.i b o hbo
   m:=fun x hx=>by
    rw[setRow_other _ _ _ _ (hb.noM x hx)]
    exact h.holds.m x hx
   d:=h.holds.d
   nd:=h.holds.nd }
  fr:=h.fr
  bx:=fun s' c' hs'=>by
   by_cases e:s'=s
   ·subst e
    simp[updB,beq_self'] at hs'
    subst hs'
    exact { at_:=⟨T,setRow_heap _ _ _ _ _ _ hT⟩,base:=hb.base,noI:=hb.noI,noM:=hb.noM }
   ·simp[updB,beq_ne e] at hs'
    have hb':=h.bx s' c' hs'
    obtain⟨T',hT'⟩:=hb'.at_
    refine { at_:=⟨T',?_⟩,base:=hb'.base,noI:=hb'.noI,noM:=hb'.noM }
    rw[setRow_other _ _ _ _ (fun e'=>e (h.inj s' s (by simp[hs']) (by simp[hs]) e'))]
    exact hT'
  inj:=fun s1 s2 h1 h2=>h.inj s1 s2 (fun e=>by
    unfold updB at h1
    cases hq:Nat.beq s1 s with
    | true=>have:=Nat.eq_of_beq_eq_true hq;subst this;rw[hs] at e;cases e
    | false=>rw[hq] at h1;exact h1 e) (fun e=>by
    unfold updB at h2
    cases hq:Nat.beq s2 s with
    | true=>have:=Nat.eq_of_beq_eq_true hq;subst this;rw[hs] at e;cases e
    | false=>rw[hq] at h2;exact h2 e)
  le0:=h.le0
  new0:=h.new0
  own:=h.own
  old:=fun b hb' hf=>by
   rw[setRow_other _ _ _ _ (fun e=>by have:=hb.base;omega)]
   exact h.old b hb' hf
  out:=h.out.trans (setRow_same _ _ _)
  sz:=by have:=h.sz;simpa using this }
theorem RelB.store_blk (h:RelB X β a w F C I M) {pre post:List Blk} {g:Nat} {cs cs':Array Value} {T:Nat} (hM:M=pre++⟨g,.cells cs T (0,0)⟩::post) :
  RelB X β a (w.setRow g cs') F C I (pre++⟨g,.cells cs' T (0,0)⟩::post):=by
 subst hM
 have hx0:(⟨g,.cells cs T (0,0)⟩:Blk)∈pre++⟨g,.cells cs T (0,0)⟩::post:=by simp
 have hg:w.heap[g]?=some (.cells cs T (0,0)):=h.holds.m _ hx0
 have hnd:=h.holds.nd
 simp only[List.map_append,List.map_cons] at hnd
 have hne:∀ x,x∈pre∨x∈post→x.num≠g:=by
  intro x hx e
  rw[List.nodup_append] at hnd
  obtain⟨_,h2,h3⟩:=hnd
  rcases hx with hx | hx
  ·exact h3 x.num (List.mem_map.2 ⟨x,hx,rfl⟩) g (by simp) e
  ·rw[List.nodup_cons] at h2
   exact h2.1 (List.mem_map.2 ⟨x,hx,e⟩)
 have mem:∀ x,x∈pre++(⟨g,.cells cs' T (0,0)⟩:Blk)::post→x=⟨g,.cells cs' T (0,0)⟩∨(x∈pre∨x∈post):=by
  intro x hx
  simp only[List.mem_append,List.mem_cons] at hx
  rcases hx with hx | hx | hx
  ·exact .inr (.inl hx)
  ·exact .inl hx
  ·exact .inr (.inr hx)
 have back:∀ x,x∈pre∨x∈post→x∈pre++(⟨g,.cells cs T (0,0)⟩:Blk)::post:=by
  intro x hx
  simp only[List.mem_append,List.mem_cons]
  rcases hx with hx | hx
  ·exact .inl hx
  ·exact .inr (.inr hx)
 exact {
  size:=h.size
  defers:=h.defers.mono fun r hr=>by
   have hne':g≠r:=hr.noM _ hx0
   refine { hr with at_:=?_,noM:=fun x hx=>?_ }
   ·rw[setRow_other _ _ _ _ (Ne.symm hne')]
    exact hr.at_
   ·rcases mem x hx with rfl | hx
    ·exact hne'
    ·exact hr.noM x (back x hx)
  holds:={
   i:=fun b o hbo=>by
    rw[setRow_other _ _ _ _ (fun e=>by have:=h.holds.d _ hx0;simp only at this;rw[e,this] at hbo;cases hbo)]
    exact h.holds.i b o hbo
   m:=fun x hx=>by
    rcases mem x hx with rfl | hx
    ·exact setRow_heap _ _ _ _ _ _ hg
    ·rw[setRow_other _ _ _ _ (hne x hx)]
     exact h.holds.m x (back x hx)
   d:=fun x hx=>by
    rcases mem x hx with rfl | hx
    ·exact h.holds.d ⟨g,.cells cs T (0,0)⟩ hx0
    ·exact h.holds.d x (back x hx)
   nd:=by simpa[List.map_append] using hnd }
  fr:=h.fr
  bx:=fun s c hs=>by
   have hb:=h.bx s c hs
   obtain⟨T',hT'⟩:=hb.at_
   have hgs:g≠β s:=hb.noM _ hx0
   refine { at_:=⟨T',?_⟩,base:=hb.base,noI:=hb.noI,noM:=fun x hx=>?_ }
   ·rw[setRow_other _ _ _ _ (Ne.symm hgs)]
    exact hT'
   ·rcases mem x hx with rfl | hx
    ·exact hgs
    ·exact hb.noM x (back x hx)
  inj:=h.inj
  le0:=h.le0
  new0:=h.new0
  own:=fun x hx=>by
   rcases mem x hx with rfl | hx
   ·exact h.own ⟨g,.cells cs T (0,0)⟩ hx0
   ·exact h.own x (back x hx)
  old:=fun b hb hf=>by
   rw[setRow_other _ _ _ _ (fun e=>by
    rcases h.own _ hx0 with h1 | h1
    ·simp only at h1;exact hf (e ▸ h1)
    ·simp only at h1;omega)]
   exact h.old b hb hf
  out:=h.out.trans (setRow_same _ _ _)
  sz:=by have:=h.sz;simpa using this }
theorem Kn.heap (h:Holds I M w) {b:Nat} {o:Obj} (hk:Kn I M b o):w.heap[b]?=some o:=by
 rcases hk with hk | ⟨x,hx,rfl,rfl⟩
 ·exact h.i b o hk
 ·exact h.m x hx
theorem splice_cons {cur:List Value} {off:Nat} {x:Value} {xs:List Value} (h:off+1+xs.length≤cur.length):splice (cur.set off x) (off+1) xs=splice cur off (x::xs):=by
 unfold splice
 rw[List.take_set,List.drop_set,if_pos (by omega),List.take_succ_eq_append_getElem (by omega:off < cur.length)]
 have e:(List.take off cur++[cur[off]'(by omega)]).set off x=List.take off cur++[x]:=by
  rw[List.set_append,if_neg (by simp;omega)]
  simp[Nat.min_eq_left (by omega:off≤cur.length)]
 rw[e]
 simp[Nat.add_assoc,Nat.add_comm 1]
theorem foldl_splice (off:Nat):∀ (xs:List Value) (k:Nat) (cur:List Value),off+k+xs.length≤cur.length →
  (xs.zipIdx k).foldl (fun (cs:Array Value) (p:Value×Nat)=>cs.setIfInBounds (off+p.2) p.1) cur.toArray=(splice cur (off+k) xs).toArray
 | [],k,cur,_=>by simp[splice]
 | x::xs,k,cur,hl=>by
  simp only[List.length_cons] at hl
  simp only[List.zipIdx_cons,List.foldl_cons]
  rw[List.setIfInBounds_toArray,foldl_splice off xs (k+1) _ (by simp;omega)]
  rw[show off+(k+1)=off+k+1 from by omega,splice_cons (by omega)]
theorem fill_eq (place:Nat→Option (Nat×Nat)):∀ (vs:List (Nat×Value)) (cells r:List Value),fillL place cells vs=some r→Instr.fill place cells.toArray vs=some r.toArray
 | [],cells,r,h=>by simp[fillL] at h;simp[Instr.fill,h]
 |(i,v)::rest,cells,r,h=>by
  unfold fillL at h
  unfold Instr.fill
  split at h
  ·cases h
  ·rename_i off size hp
   simp only[hp]
   cases hc:(Nat.beq v.cells.size size && Nat.ble (off+size) cells.length) with
   | false=>rw[hc] at h;cases h
   | true=>
    rw[hc] at h
    simp only[cond_true] at h
    rw[Bool.and_eq_true] at hc
    have h1:=Nat.eq_of_beq_eq_true hc.1
    have h2:=Nat.le_of_ble_eq_true hc.2
    have e1:decide (v.cells.size≠size)=false:=by simp[h1]
    have e2:decide (off+v.cells.size > cells.toArray.size)=false:=by simp;omega
    rw[e1,e2]
    simp only[Bool.or_false,Bool.false_eq_true,if_false]
    have ih:=fill_eq place rest _ r h
    rw[←ih]
    congr 1
    have:=foldl_splice off v.cells.toList 0 cells (by simp;omega)
    simp only[Nat.add_zero] at this
    rw[←this,←Array.foldl_toList]
    simp
end
theorem Wk.le {foot:List Nat} {I I':GH} {M M':List Blk} (h:Wk foot I M I' M') {w:World} (hH:Holds I M w):(∀ b o,I b=some o→I' b=some o)∧Holds I' M' w ∧
  (∀ b o,I' b=some o→I b=some o∨∃ x∈M,x.num=b∧x.obj=o∧b ∉ foot)∧(∀ x∈M',x∈M):=by
 induction h with
 | refl=>exact⟨fun _ _ h=>h,hH,fun _ _ h=>.inl h,fun _ h=>h⟩
 | @sub I M M1 I' M' hs k ih=>
  have h1:Holds I M1 w:=⟨hH.i,fun x hx=>hH.m x (hs.subset hx),fun x hx=>hH.d x (hs.subset hx),(hs.map _).nodup hH.nd⟩
  obtain⟨a1,a2,a3,a4⟩:=ih h1
  refine⟨a1,a2,fun b o hb=>?_,fun x hx=>hs.subset (a4 x hx)⟩
  rcases a3 b o hb with h | ⟨x,hx,h⟩
  ·exact .inl h
  ·exact .inr ⟨x,hs.subset hx,h⟩
 | @perm I M M1 I' M' hp k ih=>
  have h1:Holds I M1 w:=⟨hH.i,fun x hx=>hH.m x (hp.mem_iff.2 hx),fun x hx=>hH.d x (hp.mem_iff.2 hx),(hp.map _).nodup_iff.1 hH.nd⟩
  obtain⟨a1,a2,a3,a4⟩:=ih h1
  refine⟨a1,a2,fun b o hb=>?_,fun x hx=>hp.mem_iff.2 (a4 x hx)⟩
  rcases a3 b o hb with h | ⟨x,hx,h⟩
  ·exact .inl h
  ·exact .inr ⟨x,hp.mem_iff.2 hx,h⟩
 | @prom I M I' M' b o post hM hf k ih=>
  subst hM
  have hnd:=hH.nd
  simp only[List.map_cons,List.nodup_cons] at hnd
  have hb:=hH.d ⟨b,o⟩ (by simp)
  simp only at hb
  have h1:Holds (ins I b o) post w:={
   i:=fun b' o' h=>by
    unfold ins at h
    by_cases e:b'=b
    ·subst e
     simp only[beq_self',cond_true,Option.some.injEq] at h
     subst h
     exact hH.m ⟨b',o⟩ (by simp)
    ·simp only[beq_ne e,cond_false] at h
     exact hH.i _ _ h
   m:=fun x hx=>hH.m x (by simp[hx])
   d:=fun x hx=>by
    unfold ins
    have e:x.num≠b:=fun e=>hnd.1 (List.mem_map.2 ⟨x,hx,e⟩)
    simp only[beq_ne e,cond_false]
    exact hH.d x (by simp[hx])
   nd:=hnd.2 }
  obtain⟨a1,a2,a3,a4⟩:=ih h1
  refine⟨fun b' o' h=>a1 b' o' ?_,a2,fun b' o' h=>?_,fun x hx=>by simp[a4 x hx]⟩
  ·unfold ins
   by_cases e:b'=b
   ·subst e;rw[hb] at h;cases h
   ·simp only[beq_ne e,cond_false];exact h
  ·rcases a3 b' o' h with h | ⟨x,hx,h⟩
   ·unfold ins at h
    by_cases e:b'=b
    ·subst e
     simp only[beq_self',cond_true,Option.some.injEq] at h
     exact .inr ⟨⟨b',o⟩,by simp,rfl,h,hf⟩
    ·simp only[beq_ne e,cond_false] at h
     exact .inl h
   ·exact .inr ⟨x,by simp[hx],h⟩
theorem RelB.wk {X:Ctx} {β:Nat→Nat} {a:Act} {w:World} {F:Fr} {C:Bx} {I I':GH} {M M':List Blk} (h:RelB X β a w F C I M) (hw:Wk X.foot I M I' M'):RelB X β a w F C I' M':=by
 obtain⟨a1,a2,a3,a4⟩:=hw.le h.holds
 exact { h with
  holds:=a2
  defers:=h.defers.mono fun r hr=>by
   refine { hr with noI:=?_,noM:=fun x hx=>hr.noM x (a4 x hx) }
   cases hI:I' r with
   | none=>rfl
   | some o=>
    exfalso
    rcases a3 _ _ hI with h1 | ⟨x,hx,h1,_⟩
    ·rw[hr.noI] at h1;cases h1
    ·exact hr.noM x hx h1
  bx:=fun s cs hs=>{ h.bx s cs hs with
   noI:=by
    cases hI:I' (β s) with
    | none=>rfl
    | some o=>
     exfalso
     rcases a3 _ _ hI with h1 | ⟨x,hx,h1,_⟩
     ·rw[(h.bx s cs hs).noI] at h1;cases h1
     ·exact(h.bx s cs hs).noM x hx h1
   noM:=fun x hx=>(h.bx s cs hs).noM x (a4 x hx) }
  le0:=fun b o hb=>a1 b o (h.le0 b o hb)
  new0:=fun b o hb=>by
   rcases a3 b o hb with h1 | ⟨x,hx,rfl,_,hf⟩
   ·exact h.new0 b o h1
   ·exact .inr ((h.own x hx).resolve_left hf)
  own:=fun x hx=>h.own x (a4 x hx) }
section
variable {X:Ctx} {β:Nat→Nat} {a:Act} {w:World} {F:Fr} {C:Bx} {I:GH} {M:List Blk} {o:Oper} {Q:Exit→Act→World→Prop} {K:KS}
theorem done_val (h:RelB X β a w F C I M) (hd:∀ d,o.dst=some d→d < X.n) (hnd:∀ c,o.op≠.defer c) {v:Value} {x:SV} (hr:(execOp a.eval o).run X.P w=.ok (.value v) w) (hx:SVok β x v)
  (hk:K (put o.dst x F) C I M):o.wpIn (fen X) 0 X.P a w (Sat X K) Q:=
 wpIn_val hnd hr ⟨_,_,_,_,⟨β,h.put hd hx⟩,hk⟩
theorem done_vv (h:RelB X β a w F C I M) (hd:∀ d,o.dst=some d→d < X.n) (hnd:∀ c,o.op≠.defer c) {v:Value} (hr:(execOp a.eval o).run X.P w=.ok (.value v) w)
  (hk:K (put o.dst (.val v) F) C I M):o.wpIn (fen X) 0 X.P a w (Sat X K) Q:=
 done_val (x:=.val v) h hd hnd hr rfl hk
theorem asIntOf_int (k:IntKind) (n:Int) (w:World) (P:Program):(asIntOf (.int k n)).run P w=.ok (k,n) w:=rfl
theorem IntKind.eqb_eq {k k':IntKind} (h:IntKind.eqb k k'=true):k=k':=by
 cases k<;>cases k'<;>first | rfl | cases h
theorem run_eqGuard_int (op:BinOp) (t:Nat) (x y:Operand) (k k':IntKind) (n m:Int) (P:Program) (w:World):(eqGuard op t x y (.int k n) (.int k' m)).run P w=.ok () w:=by
 unfold eqGuard
 cases op<;>rfl
theorem run_eqGuard_string (op:BinOp) (t:Nat) (x y:Operand) (n m:ByteArray) (P:Program) (w:World):(eqGuard op t x y (.string n) (.string m)).run P w=.ok () w:=by
 unfold eqGuard
 cases op<;>rfl
theorem run_eqGuard_bool (op:BinOp) (t:Nat) (x y:Operand) (n m:Bool) (P:Program) (w:World):(eqGuard op t x y (.bool n) (.bool m)).run P w=.ok () w:=by
 unfold eqGuard
 cases op<;>rfl
theorem toList_beq (a b:ByteArray):(a.toList == b.toList)=decide (a=b):=by
 rw[Bool.eq_iff_iff]
 simp only[beq_iff_eq,decide_eq_true_eq]
 constructor
 ·intro h
  have h1:a.data.toList=b.data.toList:=by rw[ByteArray.toList_eq,ByteArray.toList_eq] at h;exact h
  cases a;cases b
  simp only[ByteArray.mk.injEq]
  exact Array.ext' h1
 ·intro h;rw[h]
theorem run_equal_bool {P:Program} {t:Nat} (hu:P.underlying t=some .bool) (a b:Bool) (w:World):(Op.equal t (.bool a) (.bool b)).run P w=.ok (a == b) w:=by
 have key:∀ d,(Op.equalIn (d+1) t (.bool a) (.bool b)).run P w=.ok (a == b) w:=fun d=>by
  simp only[Op.equalIn,Sem.run_bind,run_underlying hu,Result.andThen_ok,Sem.run_pure]
 exact key 9999
theorem V_bin_run (hE:EOK X.P X.E) (op:BinOp) (t:Nat) (x y:Operand) (u v:SV) (ux vy:Value) (hx:u=.val ux) (hy:v=.val vy) (KV:Value→Prop) (other:Prop)
  (h:V_bin op (X.E t) u v KV other):other∨∃ r,(∀ w,(do eqGuard op t x y ux vy;binOp op t ux vy:Sem Value).run X.P w=.ok r w)∧KV r:=by
 subst hx
 subst hy
 unfold V_bin at h
 split at h
 ·rename_i k a k' b e1 e2
  cases e1
  cases e2
  right
  split at h
  ·obtain⟨j,rfl,⟨r,hr,hk⟩⟩:=h
   refine⟨_,fun w=>?_,hk⟩
   simp only[Sem.run_bind,run_eqGuard_int,Result.andThen_ok,binOp,Op.shift]
   rw[if_neg (by omega)]
   simp[hr]
  ·obtain⟨j,rfl,hk⟩:=h
   refine⟨_,fun w=>?_,hk⟩
   simp only[Sem.run_bind,run_eqGuard_int,Result.andThen_ok,binOp,Op.shift]
   rw[if_neg (by omega)]
   simp
  ·rename_i hs1 hs2
   cases hkk:IntKind.eqb k k' with
   | false=>rw[hkk] at h;exact h.elim
   | true=>
    rw[hkk] at h
    have hkk':=IntKind.eqb_eq hkk
    subst hkk'
    simp only[cond_true] at h
    cases op<;>simp only at h
    case add=>obtain⟨r,hr,hk⟩:=h;exact⟨_,fun w=>by simp[run_eqGuard_int,binOp,Op.intArith,hr],hk⟩
    case sub=>obtain⟨r,hr,hk⟩:=h;exact⟨_,fun w=>by simp[run_eqGuard_int,binOp,Op.intArith,hr],hk⟩
    case mul=>obtain⟨r,hr,hk⟩:=h;exact⟨_,fun w=>by simp[run_eqGuard_int,binOp,Op.intArith,hr],hk⟩
    case quo=>obtain⟨h0,r,hr,hk⟩:=h;exact⟨_,fun w=>by simp[run_eqGuard_int,binOp,Op.intDiv,h0,hr],hk⟩
    case rem=>obtain⟨h0,hk⟩:=h;exact⟨_,fun w=>by simp[run_eqGuard_int,binOp,Op.intDiv,h0],hk⟩
    case and=>exact⟨_,fun w=>by simp[run_eqGuard_int,binOp,Op.intBits,bitsv],h⟩
    case or=>exact⟨_,fun w=>by simp[run_eqGuard_int,binOp,Op.intBits,bitsv],h⟩
    case xor=>exact⟨_,fun w=>by simp[run_eqGuard_int,binOp,Op.intBits,bitsv],h⟩
    case andNot=>exact⟨_,fun w=>by simp[run_eqGuard_int,binOp,Op.intBits,bitsv],h⟩
    case shl=>exact(hs1 rfl).elim
    case shr=>exact(hs2 rfl).elim
    case eql=>exact⟨_,fun w=>by simp only[Sem.run_bind,run_eqGuard_int,Result.andThen_ok,binOp,Op.intCmp,cmpv];simp;rfl,h⟩
    case neq=>exact⟨_,fun w=>by simp only[Sem.run_bind,run_eqGuard_int,Result.andThen_ok,binOp,Op.intCmp,cmpv];simp;rfl,h⟩
    case lss=>exact⟨_,fun w=>by simp[run_eqGuard_int,binOp,Op.intCmp,cmpv],h⟩
    case leq=>exact⟨_,fun w=>by simp[run_eqGuard_int,binOp,Op.intCmp,cmpv],h⟩
    case gtr=>exact⟨_,fun w=>by simp[run_eqGuard_int,binOp,Op.intCmp,cmpv],h⟩
    case geq=>exact⟨_,fun w=>by simp[run_eqGuard_int,binOp,Op.intCmp,cmpv],h⟩
 ·rename_i a b e1 e2
  cases e1
  cases e2
  split at h
  ·exact .inr ⟨_,fun w=>by simp only[Sem.run_bind,run_eqGuard_string,Result.andThen_ok,binOp,Op.stringOp,Sem.run_pure,toList_beq],h⟩
  ·exact .inr ⟨_,fun w=>by simp only[Sem.run_bind,run_eqGuard_string,Result.andThen_ok,binOp,Op.stringOp,Sem.run_pure,toList_beq],h⟩
  ·exact .inl h
 ·rename_i a b e1 e2
  cases e1
  cases e2
  split at h
  ·rename_i ti sz by' z ht
   obtain⟨d,hu,hd⟩:=(hE _ _ ht).und
   have hd':d=.bool:=by cases d<;>simp_all[shOf]
   subst hd'
   split at h
   ·exact .inr ⟨_,fun w=>by simp only[Sem.run_bind,run_eqGuard_bool,Result.andThen_ok,binOp,run_equal_bool hu,Sem.run_pure],h⟩
   ·exact .inr ⟨_,fun w=>by simp only[Sem.run_bind,run_eqGuard_bool,Result.andThen_ok,binOp,run_equal_bool hu,Sem.run_pure],h⟩
   ·exact .inl h
  ·exact .inl h
 ·exact .inl h
theorem calls_fen {P:Program} {f:Nat} {args:Array Value} {R:Ending→World→Prop} (h:Calls P f args w R) (n:Nat):CallsIn (fen X) n P f args w R:=by
 have h1:=(callsIn_wide (n:=n)).2 h
 exact⟨trivial,fun cs hr=>h1.2 cs (room_wide _)⟩
theorem Holds.part (h:Holds I M w) {Mc Mr:List Blk} (hM:M.Perm (Mc++Mr)):Holds I Mc w:=by
 have hmem:∀ x,x∈M ↔ x∈Mc∨x∈Mr:=fun x=>by rw[hM.mem_iff,List.mem_append]
 have hnd:((Mc++Mr).map (·.num)).Nodup:=(hM.map (·.num)).nodup_iff.1 h.nd
 rw[List.map_append,List.nodup_append] at hnd
 exact⟨h.i,fun x hx=>h.m x ((hmem x).2 (.inl hx)),fun x hx=>h.d x ((hmem x).2 (.inl hx)),hnd.1⟩
theorem RelB.after (h:RelB X β a w F C I M) {Mc Mr M':List Blk} {I':GH} {w':World} (hM:M.Perm (Mc++Mr)) (hH':Holds I' M' w') (hK:Kept I Mc w I' M' w'):RelB X β a w' F C I' (M'++Mr):=by
 have hmem:∀ x,x∈M ↔ x∈Mc∨x∈Mr:=fun x=>by rw[hM.mem_iff,List.mem_append]
 have hnd:((Mc++Mr).map (·.num)).Nodup:=(hM.map (·.num)).nodup_iff.1 h.holds.nd
 rw[List.map_append,List.nodup_append] at hnd
 have hrne:∀ x∈Mr,∀ y∈Mc,y.num≠x.num:=fun x hx y hy=>hnd.2.2 y.num (List.mem_map.2 ⟨y,hy,rfl⟩) x.num (List.mem_map.2 ⟨x,hx,rfl⟩)
 have hrsame:∀ x∈Mr,w'.heap[x.num]?=w.heap[x.num]?:=fun x hx=>
  hK.old x.num (h.holds.lt ((hmem x).2 (.inr hx))) (hrne x hx)
 exact {
  size:=h.size
  defers:=h.defers.mono fun r hr=>by
   have hlt:=(Array.getElem?_eq_some_iff.1 hr.at_).1
   refine { at_:=?_,base:=hr.base,noI:=?_,noM:=fun x hx=>?_ }
   ·rw[hK.old _ hlt (fun y hy=>hr.noM y ((hmem y).2 (.inl hy)))]
    exact hr.at_
   ·cases hI:I' r with
    | none=>rfl
    | some o=>
     exfalso
     rcases hK.newI _ _ hI with h1 | h1
     ·rw[hr.noI] at h1;cases h1
     ·omega
   ·rcases List.mem_append.1 hx with hx | hx
    ·rcases hK.newM x hx with ⟨z,hz,hzn⟩ | h1
     ·rw[←hzn];exact hr.noM z ((hmem z).2 (.inl hz))
     ·omega
    ·exact hr.noM x ((hmem x).2 (.inr hx))
  holds:={
   i:=hH'.i
   m:=fun x hx=>by
    rcases List.mem_append.1 hx with hx | hx
    ·exact hH'.m x hx
    ·rw[hrsame x hx];exact h.holds.m x ((hmem x).2 (.inr hx))
   d:=fun x hx=>by
    rcases List.mem_append.1 hx with hx | hx
    ·exact hH'.d x hx
    ·cases hI:I' x.num with
     | none=>rfl
     | some o=>
      exfalso
      rcases hK.newI _ _ hI with h1 | h1
      ·have:=h.holds.d x ((hmem x).2 (.inr hx));rw[this] at h1;cases h1
      ·have:=h.holds.lt ((hmem x).2 (.inr hx));omega
   nd:=by
    rw[List.map_append,List.nodup_append]
    refine⟨hH'.nd,hnd.2.1,fun p hp q hq e=>?_⟩
    obtain⟨x,hx,rfl⟩:=List.mem_map.1 hp
    obtain⟨y,hy,rfl⟩:=List.mem_map.1 hq
    rcases hK.newM x hx with ⟨z,hz,hzn⟩ | h1
    ·exact hrne y hy z hz (hzn.trans e)
    ·have:=h.holds.lt ((hmem y).2 (.inr hy));omega }
  fr:=h.fr
  bx:=fun s cs hs=>by
   have hb:=h.bx s cs hs
   obtain⟨T,hT⟩:=hb.at_
   refine { at_:=⟨T,?_⟩,base:=hb.base,noI:=?_,noM:=fun x hx=>?_ }
   ·rw[hK.old _ hb.lt (fun y hy=>hb.noM y ((hmem y).2 (.inl hy)))]
    exact hT
   ·cases hI:I' (β s) with
    | none=>rfl
    | some o=>
     exfalso
     rcases hK.newI _ _ hI with h1 | h1
     ·rw[hb.noI] at h1;cases h1
     ·have:=hb.lt;omega
   ·rcases List.mem_append.1 hx with hx | hx
    ·rcases hK.newM x hx with ⟨z,hz,hzn⟩ | h1
     ·rw[←hzn];exact hb.noM z ((hmem z).2 (.inl hz))
     ·have:=hb.lt;omega
    ·exact hb.noM x ((hmem x).2 (.inr hx))
  inj:=h.inj
  le0:=fun b o hb=>hK.le b o (h.le0 b o hb)
  new0:=fun b o hb=>by
   rcases hK.newI b o hb with h1 | h1
   ·exact h.new0 b o h1
   ·exact .inr (Nat.le_trans h.sz h1)
  own:=fun x hx=>by
   rcases List.mem_append.1 hx with hx | hx
   ·rcases hK.newM x hx with ⟨z,hz,hzn⟩ | h1
    ·rw[←hzn];exact h.own z ((hmem z).2 (.inl hz))
    ·exact .inr (Nat.le_trans h.sz h1)
   ·exact h.own x ((hmem x).2 (.inr hx))
  old:=fun b hb hf=>by
   rw[hK.old b (Nat.lt_of_lt_of_le hb h.sz) (fun y hy e=>by
    rcases h.own y ((hmem y).2 (.inl hy)) with h1 | h1
    ·exact hf (e ▸ h1)
    ·omega)]
   exact h.old b hb hf
  out:=h.out.trans hK.out
  sz:=Nat.le_trans h.sz hK.sz }
theorem RelB.call {P:Program} {f:Nat} {args:List Value} (h:RelB X β a w F C I M) {KC:Value→GH→List Blk→Prop} (hc:CallOb X.foot P f args I M KC) :
  (Enters P f∧Calls P f args.toArray w fun e w'=>∃ v I' M',e=.returned v∧KC v I' M'∧RelB X β a w' F C I' M')∨(∃ v w' I' M',(callFunc f args.toArray).run P w=.ok (.value v) w'∧KC v I' M'∧RelB X β a w' F C I' M'):=by
 obtain⟨I1,Mc,Mr,post,hW,⟨hent,hs⟩ | hs,hk⟩:=hc.elim ⟨h.holds.d,h.holds.nd⟩<;>have h:=h.wk hW<;>have hM:=List.Perm.refl (Mc++Mr)
 ·refine .inl ⟨hent,?_⟩
  refine(hs w (h.holds.part hM)).mono ?_
  rintro e w' ⟨v,I',M',rfl,hp,hH',hK⟩
  have ha:=h.after hM hH' hK
  exact⟨v,I',M'++Mr,rfl,hk v I' M' hK.le ha.holds.d hp,ha⟩
 ·obtain⟨v,w',I',M',hr,hp,hH',hK⟩:=hs w (h.holds.part hM)
  have ha:=h.after hM hH' hK
  exact .inr ⟨v,w',I',M'++Mr,hr,hk v I' M' hK.le ha.holds.d hp,ha⟩
theorem wpIn_enter {f:Nat} {args:Array Value} {next:Act→World→Prop} (hnd:∀ c,o.op≠.defer c) (hr:(execOp a.eval o).run X.P w=.ok (.enter f args) w)
  (hc:Calls X.P f args w fun e w'=>∃ v,e=.returned v∧next (a.put o.dst v) w'):o.wpIn (fen X) 0 X.P a w next Q:=by
 refine⟨fun _ _=>trivial,?_⟩
 rw[Oper.semAt_eq _ _ _ hnd,hr]
 refine⟨(fun h=>by cases h),?_⟩
 refine(calls_fen hc _).mono ?_
 rintro e w' ⟨v,rfl,h⟩
 exact h
theorem madeCells_eq (z:Value) (zs:List Value) (h:z.cells.toList=zs) (n:Nat):(Array.range n).map (z.cells[· % z.cells.size]!)=(rowOf zs n).toArray:=by
 subst h
 apply Array.ext'
 simp[rowOf_eq,madeCells]
theorem TIok.struct {P:Program} {t sz by':Nat} {z:List Value} {fs:List (Nat×Nat)} (h:TIok P t ⟨sz,by',z,.struct fs⟩):∃ fields,P.underlying t=some (.struct fields)∧fs=fields.toList.map fun f=>(f.type,f.offset):=by
 obtain⟨d,h1,h2⟩:=h.und
 cases d<;>simp[shOf] at h2
 exact⟨_,h1,h2.symm⟩
theorem TIok.slice {P:Program} {t sz by':Nat} {z:List Value} {e:Nat} (h:TIok P t ⟨sz,by',z,.slice e⟩):P.underlying t=some (.slice e):=by
 obtain⟨d,h1,h2⟩:=h.und
 cases d<;>simp[shOf] at h2
 rw[h1,h2]
theorem TIok.array {P:Program} {t sz by':Nat} {z:List Value} {n e:Nat} (h:TIok P t ⟨sz,by',z,.array n e⟩):P.underlying t=some (.array n e):=by
 obtain⟨d,h1,h2⟩:=h.und
 cases d<;>simp[shOf] at h2
 rw[h1,h2.1,h2.2]
theorem TIok.string {P:Program} {t sz by':Nat} {z:List Value} (h:TIok P t ⟨sz,by',z,.string⟩):P.underlying t=some .string:=by
 obtain⟨d,h1,h2⟩:=h.und
 cases d<;>simp[shOf] at h2
 exact h1
theorem TIok.int {P:Program} {t sz by':Nat} {z:List Value} {k:IntKind} (h:TIok P t ⟨sz,by',z,.int k⟩):P.underlying t=some (.int k):=by
 obtain⟨d,h1,h2⟩:=h.und
 cases d<;>simp[shOf] at h2
 rw[h1,h2]
theorem field_of {fields:Array Field} {i ft off:Nat} (h:(fields.toList.map fun f=>(f.type,f.offset))[i]?=some (ft,off)):∃ f,fields[i]?=some f∧f.type=ft∧f.offset=off:=by
 simp only[List.getElem?_map,Array.getElem?_toList] at h
 cases hf:fields[i]? with
 | none=>simp[hf] at h
 | some f=>simp[hf] at h;exact⟨f,rfl,h.1,h.2⟩
theorem part_run {P:Program} {t:Nat} {i:TI} (h:TIok P t i) {cs:Array Value} {off:Nat} (hle:off+i.size≤cs.size) (w:World):(part t cs off).run P w=.ok (pack i.sh.agg ((cs.toList.drop off).take i.size)) w:=by
 unfold part
 simp only[Sem.run_bind,h.run_isAgg,Result.andThen_ok]
 cases hagg:i.sh.agg with
 | true=>
  simp only[if_true,Sem.run_bind,h.run_sizeOf,Result.andThen_ok,Sem.run_pure,pack,cond_true]
  congr 2
  apply Array.ext'
  simp[List.take_drop]
 | false=>
  have h1:=h.sz1 hagg
  rw[h1] at hle ⊢
  have hlt:off < cs.size:=by omega
  simp only[Bool.false_eq_true,if_false,Array.getElem?_eq_getElem hlt,Sem.run_pure,pack,cond_false]
  congr 1
  rw[List.drop_eq_getElem_cons (by simpa using hlt)]
  simp
theorem indexAt_slice {P:Program} {t e:Nat} {ei:TI} (ht:P.underlying t=some (.slice e)) (he:TIok P e ei) {ad:Addr} {n c:Nat} {kk:IntKind} {j:Nat} (hj:j < n) (w:World) :
  (Instr.indexAt t (.slice (some ad) n c) (.int kk j)).run P w=.ok (.pointer (some (ad.add (j * ei.size)))) w:=by
 unfold Instr.indexAt
 simp only[Sem.run_bind,asIntOf_int,Result.andThen_ok,run_underlying ht,Sem.run_pure]
 rw[if_pos ⟨by omega,by omega⟩]
 simp[he.run_sizeOf]
theorem indexAt_array {P:Program} {t e m:Nat} {ei:TI} (ht:P.underlying t=some (.array m e)) (he:TIok P e ei) {ad:Addr} {kk:IntKind} {j:Nat} (hj:j < m) (w:World) :
  (Instr.indexAt t (.pointer (some ad)) (.int kk j)).run P w=.ok (.pointer (some (ad.add (j * ei.size)))) w:=by
 unfold Instr.indexAt
 simp only[Sem.run_bind,asIntOf_int,Result.andThen_ok,run_underlying ht,Sem.run_pure,Instr.sureAddr]
 rw[if_pos ⟨by omega,by omega⟩]
 simp[he.run_sizeOf]
theorem placesOk_run {P:Program} {E:Env} (hE:EOK P E) (w:World):∀ (fields:List Field),placesOk E (fields.map fun f=>(f.type,f.offset))=true →
  ∃ l:List (Nat×Nat),(fields.mapM fun f=>(do pure (f.offset,←sizeOf f.type):Sem (Nat×Nat))).run P w=.ok l w∧∀ i,l[i]?=places E (fields.map fun f=>(f.type,f.offset)) i
 | [],_=>⟨[],rfl,fun i=>by simp[places]⟩
 | f::fs,h=>by
  simp only[placesOk,List.map_cons,List.all_cons,Bool.and_eq_true] at h
  obtain⟨fi,hfi⟩:=Option.isSome_iff_exists.1 h.1
  obtain⟨l,h1,h2⟩:=placesOk_run hE w fs h.2
  refine⟨(f.offset,fi.size)::l,?_,fun i=>?_⟩
  ·simp only[List.mapM_cons,Sem.run_bind,(hE _ _ hfi).run_sizeOf,Result.andThen_ok,Sem.run_pure]
   rw[h1]
   rfl
  ·cases i with
   | zero=>simp[places,hfi]
   | succ i=>
    simp only[List.getElem?_cons_succ,h2]
    simp[places]
theorem V_q_run (hE:EOK X.P X.E) (h:RelB X β a w F C I M) {VV:SV→Prop} {other:Prop} (op:Op) (ty:TypeId) (dst:Option Tmp) (pos:String) (after:Array Edge) (guard:Option (Nat×Bool)) (hv:V_q X op (evr F) C I M VV other) :
  other∨∃ v x,(execOp a.eval ⟨dst,op,ty,pos,after,guard⟩).run X.P w=.ok (.value v) w∧SVok β x v∧VV x:=by
 have done:∀ {v x},(execOp a.eval ⟨dst,op,ty,pos,after,guard⟩).run X.P w=.ok (.value v) w→SVok β x v→VV x→other∨∃ v x,(execOp a.eval ⟨dst,op,ty,pos,after,guard⟩).run X.P w=.ok (.value v) w∧SVok β x v∧VV x:=
  fun h1 h2 h3=>.inr ⟨_,_,h1,h2,h3⟩
 have donev:∀ {v},(execOp a.eval ⟨dst,op,ty,pos,after,guard⟩).run X.P w=.ok (.value v) w→VV (.val v)→other∨∃ v x,(execOp a.eval ⟨dst,op,ty,pos,after,guard⟩).run X.P w=.ok (.value v) w∧SVok β x v∧VV x:=
  fun {v} h1 h3=>.inr ⟨v,.val v,h1,rfl,h3⟩
 have hf:=h.fr
 cases op
 case move x=>exact done (by simp[execOp]) (SVok_evr hf x) hv
 case assign x=>exact done (by simp[execOp]) (SVok_evr hf x) hv
 case pick c p q=>
  simp only[V_q] at hv
  split at hv
  ·rename_i b hb
   have hc:=eval_of_lit hf hb
   cases b
   ·exact done (by simp[execOp,hc,asBool]) (SVok_evr hf q) hv
   ·exact done (by simp[execOp,hc,asBool]) (SVok_evr hf p) hv
  ·rename_i b hb
   have hc:=eval_of_evr hf hb
   refine done (v:=if b then a.eval p else a.eval q) (x:=pickV b (ev F p) (ev F q)) (by simp[execOp,hc,asBool]) ?_ hv
   have h1:=SVok_ev hf p
   have h2:=SVok_ev hf q
   unfold pickV
   split
   ·rename_i x y e1 e2
    rw[e1] at h1
    rw[e2] at h2
    simp only[SVok] at h1 h2 ⊢
    cases b<;>simp[h1,h2]
   ·rename_i x y _ e1 e2
    rw[e1] at h1
    rw[e2] at h2
    simp only[SVok] at h1 h2 ⊢
    cases b<;>simp[h1,h2]
   ·trivial
  ·exact hv.elim
 case unOp op t x=>
  simp only[V_q] at hv
  split at hv
  ·rename_i b hb
   exact done (v:=.bool (!b)) (x:=.lit (!b)) (by simp[execOp,eval_of_lit hf hb,Op.unary]) rfl hv
  ·rename_i b hb
   exact donev (v:=.bool (!b)) (by simp[execOp,eval_of_evr hf hb,Op.unary]) hv
  ·rename_i k n hb
   obtain⟨r,hr,hk⟩:=hv
   exact donev (v:=.int k r) (by simp only[execOp,eval_of_evr hf hb,Op.unary,Op.intArith,hr];simp) hk
  ·exact Or.inl hv
 case binOp op t x y ty'=>
  simp only[V_q] at hv
  by_cases hx:∃ ux vy,ev F x=.val ux∧ev F y=.val vy
  ·obtain⟨ux,vy,hx,hy⟩:=hx
   have fin:∀ r,(∀ w,(do eqGuard op t x y ux vy;binOp op t ux vy:Sem Value).run X.P w=.ok r w)→VV (.val r)→(other∨∃ v x',(execOp a.eval ⟨dst,.binOp op t x y ty',ty,pos,after,guard⟩).run X.P w=.ok (.value v) w∧SVok β x' v∧VV x'):=fun r hr hk=>by
    refine donev (v:=r) ?_ hk
    have:=hr w
    rw[←eval_of_ev hf hx,←eval_of_ev hf hy] at this
    simp only[execOp]
    simp only[Sem.run_bind] at this ⊢
    rw[this]
    rfl
   rcases V_bin_run hE op t x y _ _ ux vy hx hy _ _ hv with (⟨p',q',r,hp,hq,hr,hk⟩ | h1) | ⟨r,hr,hk⟩
   ·rw[show evq (evr F) x=ev F x from rfl,hx] at hp
    rw[show evq (evr F) y=ev F y from rfl,hy] at hq
    cases hp
    cases hq
    exact fin r hr hk
   ·exact Or.inl h1
   ·exact fin r hr hk
  ·unfold V_bin at hv
   split at hv
   ·rename_i e1 e2;exact(hx ⟨_,_,e1,e2⟩).elim
   ·rename_i e1 e2;exact(hx ⟨_,_,e1,e2⟩).elim
   ·rename_i e1 e2;exact(hx ⟨_,_,e1,e2⟩).elim
   ·rcases hv with ⟨p',q',r,hp,hq,hr,hk⟩ | h1
    ·exact(hx ⟨_,_,hp,hq⟩).elim
    ·exact Or.inl h1
 case load t x=>
  simp only[V_q] at hv
  split at hv
  ·rename_i i hi
   split at hv
   ·rename_i s off hx
    have hx':=eval_of_ref hf hx
    split at hv
    ·rename_i cs hs
     cases hle:Nat.ble (off+i.size) cs.length with
     | false=>rw[hle] at hv;exact hv.elim
     | true=>
      rw[hle] at hv
      have hle':=Nat.le_of_ble_eq_true hle
      obtain⟨T,hT⟩:=(h.bx s cs hs).at_
      refine donev (v:=pack i.sh.agg ((cs.drop off).take i.size)) ?_ hv
      have:=loadVar_run (hE _ _ hi) (a:=⟨β s,off,none⟩) rfl hT (vs:=(cs.drop off).take i.size) (by simp) (by simp;omega)
      simp[execOp,Instr.loadAt,Instr.sureAddr,hx',this]
    ·exact hv.elim
   ·rename_i ad hx
    have hx':=eval_of_evr hf hx
    obtain⟨vs,⟨hsp,cs,T,fr,hkn,hvs,hl⟩,hk⟩:=hv
    refine donev (v:=pack i.sh.agg vs) ?_ hk
    have:=loadVar_run (hE _ _ hi) hsp (hkn.heap h.holds) hvs hl
    simp[execOp,Instr.loadAt,Instr.sureAddr,hx',this]
   ·exact hv.elim
  ·exact hv.elim
 case nilCheck x=>
  simp only[V_q] at hv
  split at hv
  ·rename_i s off hx
   exact done (v:=.pointer (some ⟨β s,off,none⟩)) (x:=.ref s off) (by simp[execOp,eval_of_ref hf hx]) rfl hv
  ·rename_i ad hx
   exact donev (v:=.pointer (some ad)) (by simp[execOp,eval_of_evr hf hx]) hv
  ·exact Or.inl hv
 case fieldAddr t x i=>
  simp only[V_q] at hv
  split at hv
  ·rename_i sz by' z fs ht
   obtain⟨fields,hu,rfl⟩:=(hE _ _ ht).struct
   split at hv
   ·rename_i ft off hfs
    obtain⟨f,hf1,rfl,rfl⟩:=field_of hfs
    split at hv
    ·rename_i fi s o' hfi hx
     cases hz:Nat.beq fi.size 0 with
     | true=>rw[hz] at hv;exact hv.elim
     | false=>
      rw[hz] at hv
      have hz':fi.size≠0:=fun e=>by rw[e] at hz;cases hz
      refine done (v:=.pointer (some ⟨β s,o'+f.offset,none⟩)) (x:=.ref s (o'+f.offset)) ?_ rfl hv
      simp[execOp,Instr.fieldAt,run_underlying hu,hf1,eval_of_ref hf hx,Instr.sureAddr,fieldPlace,(hE _ _ hfi).run_sizeOf,hz',addr_add]
    ·rename_i fi ad hfi hx
     cases hz:Nat.beq fi.size 0 with
     | true=>rw[hz] at hv;exact hv.elim
     | false=>
      rw[hz] at hv
      have hz':fi.size≠0:=fun e=>by rw[e] at hz;cases hz
      refine donev (v:=.pointer (some (ad.add f.offset))) ?_ hv
      simp[execOp,Instr.fieldAt,run_underlying hu,hf1,eval_of_evr hf hx,Instr.sureAddr,fieldPlace,(hE _ _ hfi).run_sizeOf,hz']
    ·exact hv.elim
   ·exact hv.elim
  ·exact hv.elim
 case field t x i=>
  simp only[V_q] at hv
  split at hv
  ·rename_i sz by' z fs cs ht hx
   obtain⟨fields,hu,rfl⟩:=(hE _ _ ht).struct
   split at hv
   ·rename_i ft off hfs
    obtain⟨f,hf1,rfl,rfl⟩:=field_of hfs
    split at hv
    ·rename_i fi hfi
     cases hz:Nat.ble (f.offset+fi.size) cs.size with
     | false=>rw[hz] at hv;exact hv.elim
     | true=>
      rw[hz] at hv
      refine donev ?_ hv
      simp[execOp,Instr.field,run_underlying hu,hf1,eval_of_ev hf hx,asAgg,part_run (hE _ _ hfi) (Nat.le_of_ble_eq_true hz)]
    ·exact hv.elim
   ·exact hv.elim
  ·exact hv.elim
 case indexAddr t x i=>
  simp only[V_q] at hv
  split at hv
  ·rename_i sz by' z e kk k ht hi
   have hu:=(hE _ _ ht).slice
   split at hv
   ·rename_i ei a' n c hei hx
    obtain⟨ad,j,rfl,rfl,hj,hk⟩:=hv
    refine donev ?_ hk
    simp[execOp,eval_of_ev hf hx,eval_of_ev hf hi,indexAt_slice hu (hE _ _ hei) hj]
   ·exact hv.elim
  ·rename_i sz by' z n e kk k ht hi
   have hu:=(hE _ _ ht).array
   split at hv
   ·rename_i ei s o' hei hx
    obtain⟨j,rfl,hj,hk⟩:=hv
    refine done (v:=.pointer (some ⟨β s,o'+j * ei.size,none⟩)) (x:=.ref s (o'+j * ei.size)) ?_ rfl hk
    simp[execOp,eval_of_ref hf hx,eval_of_ev hf hi,indexAt_array hu (hE _ _ hei) hj,addr_add]
   ·rename_i ei ad hei hx
    obtain⟨j,rfl,hj,hk⟩:=hv
    refine donev ?_ hk
    simp[execOp,eval_of_evr hf hx,eval_of_ev hf hi,indexAt_array hu (hE _ _ hei) hj]
   ·exact hv.elim
  ·exact hv.elim
 case index t x i=>
  simp only[V_q] at hv
  split at hv
  ·rename_i sz by' z s kk k ht hx hi
   have hu:=(hE _ _ ht).string
   obtain⟨j,rfl,hj,hk⟩:=hv
   refine donev ?_ hk
   simp only[execOp,eval_of_ev hf hx,eval_of_ev hf hi,Instr.index,Sem.run_bind,asIntOf_int,Result.andThen_ok,run_underlying hu]
   rw[if_pos (by omega:(0:Int)≤j)]
   simp[hj]
  ·rename_i sz by' z n e cs kk k ht hx hi
   have hu:=(hE _ _ ht).array
   split at hv
   ·rename_i ei hei
    cases hz:Nat.beq (n * ei.size) cs.size with
    | false=>rw[hz] at hv;exact hv.elim
    | true=>
     rw[hz] at hv
     obtain⟨j,rfl,hj,hk⟩:=hv
     have hz':=Nat.eq_of_beq_eq_true hz
     refine donev ?_ hk
     have hle:j * ei.size+ei.size≤cs.size:=by
      rw[←hz',←Nat.succ_mul]
      exact Nat.mul_le_mul_right _ hj
     simp only[execOp,eval_of_ev hf hx,eval_of_ev hf hi,Instr.index,Sem.run_bind,asIntOf_int,Result.andThen_ok,run_underlying hu]
     rw[if_pos ⟨by omega,by omega⟩]
     simp[(hE _ _ hei).run_sizeOf,part_run (hE _ _ hei) hle]
   ·exact hv.elim
  ·exact hv.elim
 case build t parts=>
  simp only[V_q] at hv
  split at hv
  ·rename_i i vs hi hvs
   have hp:=evParts_ok hf hvs
   have hpp:(parts.map fun (i,x)=>(i,a.eval x)).toList=vs:=by simpa using hp
   obtain⟨z,hz,hzc⟩:=(hE _ _ hi).run_zero w
   have hzz:z.cells=i.zero.toArray:=by rw[←hzc]
   split at hv
   ·rename_i fs hsh
    cases hok:placesOk X.E fs with
    | false=>rw[hok] at hv;exact hv.elim
    | true=>
     rw[hok] at hv
     simp only[cond_true] at hv
     split at hv
     ·rename_i cells hfill
      obtain⟨sz,by',zz,sh⟩:=i
      simp only at hsh
      subst hsh
      obtain⟨fields,hu,rfl⟩:=(hE _ _ hi).struct
      obtain⟨l,hl,hll⟩:=placesOk_run hE w fields.toList hok
      refine donev ?_ hv
      have hm:(fields.mapM fun f=>(do pure (f.offset,←sizeOf f.type):Sem (Nat×Nat))).run X.P w=.ok l.toArray w:=by
       rw[Array.mapM_eq_mapM_toList,Sem.run_map,hl]
       rfl
      have hfe:=fill_eq _ _ _ _ hfill
      have hfun:(fun j=>l.toArray[j]?)=places X.E (fields.toList.map fun f=>(f.type,f.offset)):=by
       funext j
       rw[←hll j]
       simp
      simp only[execOp,Instr.build,Sem.run_bind,hz,Result.andThen_ok,run_underlying hu,hzz,hpp]
      rw[hm]
      simp only[Result.andThen_ok,hfun,hfe,Sem.run_pure]
     ·exact hv.elim
   ·rename_i n e hsh
    split at hv
    ·rename_i ei hei
     split at hv
     ·rename_i cells hfill
      obtain⟨sz,by',zz,sh⟩:=i
      simp only at hsh
      subst hsh
      have hu:=(hE _ _ hi).array
      refine donev ?_ hv
      have hfe:=fill_eq _ _ _ _ hfill
      simp only[execOp,Instr.build,Sem.run_bind,hz,Result.andThen_ok,run_underlying hu,hzz,hpp,(hE _ _ hei).run_sizeOf,hfe,Sem.run_pure]
     ·exact hv.elim
    ·exact hv.elim
   ·exact hv.elim
  ·exact hv.elim
 case makeFunc fn first captured=>
  simp only[V_q] at hv
  split at hv
  ·rename_i fs cs h1 h2
   have e1:=evs_ok hf h1
   have e2:=evs_ok hf h2
   refine donev ?_ hv
   have e1':first.map a.eval=fs.toArray:=by apply Array.ext';simpa using e1
   have e2':captured.map a.eval=cs.toArray:=by apply Array.ext';simpa using e2
   simp[execOp,Instr.makeFunc,e1',e2']
  ·exact hv.elim
 case slice t x lo hi mx=>
  simp only[V_q] at hv
  split at hv
  ·rename_i sz by' z e a' n c ht hx
   have hu:=(hE _ _ ht).slice
   have hx':=eval_of_ev hf hx
   split at hv
   ·rename_i ei hei hlo hhi
    have hlo':lo=none:=by simpa using hlo
    have hhi':hi=none:=by simpa using hhi
    subst hlo'
    subst hhi'
    refine donev ?_ hv
    have e1:(if c=0 then a' else a'.map (·.add (0 * ei.size)))=a':=by split<;>cases a'<;>simp[Addr.add]
    simp[execOp,Instr.sliceAt,Instr.slice,Instr.sliceBounds,hx',run_underlying hu,(hE _ _ hei).run_sizeOf,Addr.add]
   ·rename_i ei kk hv' hei hlo hhi
    have hlo':lo=none:=by simpa using hlo
    subst hlo'
    obtain⟨hop,rfl,hh⟩:=Option.map_eq_some_iff.1 hhi
    obtain⟨l,h2,hl0,rfl,hle,hle2,hk⟩:=hv
    refine donev ?_ hk
    simp only[execOp,Instr.sliceAt,Instr.slice,Instr.sliceBounds,Instr.sliceBound,hx',Sem.run_bind,run_underlying hu,Result.andThen_ok,(hE _ _ hei).run_sizeOf,Sem.run_pure,Option.map_some,Option.map_none,eval_of_ev hf hh,asIntOf_int]
    rw[if_pos ⟨by omega,by omega⟩]
    simp[Addr.add]
   ·rename_i ei kk lv hei hlo hhi
    have hhi':hi=none:=by simpa using hhi
    subst hhi'
    obtain⟨lop,rfl,hh⟩:=Option.map_eq_some_iff.1 hlo
    obtain⟨l,h2,rfl,hh2,hle,hle2,hk⟩:=hv
    simp only[Option.getD_none,Option.getD_some] at *
    refine donev ?_ hk
    simp only[execOp,Instr.sliceAt,Instr.slice,Instr.sliceBounds,Instr.sliceBound,hx',Sem.run_bind,run_underlying hu,Result.andThen_ok,(hE _ _ hei).run_sizeOf,Sem.run_pure,Option.map_some,Option.map_none,eval_of_ev hf hh,asIntOf_int]
    rw[if_pos ⟨by omega,by omega⟩]
    simp
   ·rename_i ei kk lv kk' hv' hei hlo hhi
    obtain⟨lop,rfl,hh⟩:=Option.map_eq_some_iff.1 hlo
    obtain⟨hop,rfl,hh'⟩:=Option.map_eq_some_iff.1 hhi
    obtain⟨l,h2,rfl,rfl,hle,hle2,hk⟩:=hv
    refine donev ?_ hk
    simp only[execOp,Instr.sliceAt,Instr.slice,Instr.sliceBounds,Instr.sliceBound,hx',Sem.run_bind,run_underlying hu,Result.andThen_ok,(hE _ _ hei).run_sizeOf,Sem.run_pure,Option.map_some,Option.map_none,eval_of_ev hf hh,eval_of_ev hf hh',asIntOf_int]
    rw[if_pos ⟨by omega,by omega⟩]
    simp only[Sem.run_pure,Result.andThen_ok,Int.toNat_natCast]
    rw[if_pos ⟨by omega,by omega⟩]
    simp
   ·exact hv.elim
  ·rename_i sz by' z s ht hx
   have hu:=(hE _ _ ht).string
   have hx':=eval_of_ev hf hx
   split at hv
   ·rename_i hlo hhi
    have hlo':lo=none:=by simpa using hlo
    have hhi':hi=none:=by simpa using hhi
    subst hlo'
    subst hhi'
    refine donev ?_ hv
    have e1:s.extract 0 s.size=s:=by
     apply ByteArray.ext
     simp[ByteArray.data_extract]
    simp[execOp,Instr.sliceAt,Instr.slice,Instr.sliceBounds,hx',run_underlying hu,e1]
   ·rename_i kk hv' hlo hhi
    have hlo':lo=none:=by simpa using hlo
    subst hlo'
    obtain⟨hop,rfl,hh⟩:=Option.map_eq_some_iff.1 hhi
    obtain⟨l,h2,hl0,rfl,hle,hle2,hk⟩:=hv
    refine donev ?_ hk
    simp only[execOp,Instr.sliceAt,Instr.slice,Instr.sliceBounds,Instr.sliceBound,hx',Sem.run_bind,run_underlying hu,Result.andThen_ok,Sem.run_pure,Option.map_some,Option.map_none,eval_of_ev hf hh,asIntOf_int]
    simp only[Option.isSome_none,Bool.false_eq_true,if_false,Sem.run_bind,Sem.run_pure,Result.andThen_ok,asIntOf_int]
    rw[if_pos ⟨by omega,by omega⟩]
    simp
   ·rename_i kk lv hlo hhi
    have hhi':hi=none:=by simpa using hhi
    subst hhi'
    obtain⟨lop,rfl,hh⟩:=Option.map_eq_some_iff.1 hlo
    obtain⟨l,h2,rfl,hh2,hle,hle2,hk⟩:=hv
    simp only[Option.getD_none,Option.getD_some] at *
    refine donev ?_ hk
    simp only[execOp,Instr.sliceAt,Instr.slice,Instr.sliceBounds,Instr.sliceBound,hx',Sem.run_bind,run_underlying hu,Result.andThen_ok,Sem.run_pure,Option.map_some,Option.map_none,eval_of_ev hf hh,asIntOf_int]
    simp only[Option.isSome_none,Bool.false_eq_true,if_false,Sem.run_bind,Sem.run_pure,Result.andThen_ok,asIntOf_int]
    rw[if_pos ⟨by omega,by omega⟩]
    simp
   ·rename_i kk lv kk' hv' hlo hhi
    obtain⟨lop,rfl,hh⟩:=Option.map_eq_some_iff.1 hlo
    obtain⟨hop,rfl,hh'⟩:=Option.map_eq_some_iff.1 hhi
    obtain⟨l,h2,rfl,rfl,hle,hle2,hk⟩:=hv
    refine donev ?_ hk
    simp only[execOp,Instr.sliceAt,Instr.slice,Instr.sliceBounds,Instr.sliceBound,hx',Sem.run_bind,run_underlying hu,Result.andThen_ok,Sem.run_pure,Option.map_some,Option.map_none,eval_of_ev hf hh,eval_of_ev hf hh',asIntOf_int]
    simp only[Option.isSome_none,Bool.false_eq_true,if_false,Sem.run_bind,Sem.run_pure,Result.andThen_ok,asIntOf_int]
    rw[if_pos ⟨by omega,by omega⟩]
    simp only[Sem.run_pure,Result.andThen_ok,Int.toNat_natCast]
    rw[if_pos ⟨by omega,by omega⟩]
    simp
   ·exact hv.elim
  ·exact Or.inl hv
 case extract x i=>
  simp only[V_q] at hv
  split at hv
  ·rename_i vs hx
   split at hv
   ·rename_i v hi
    refine donev ?_ hv
    have hi':vs[i]?=some v:=by simpa using hi
    simp[execOp,Instr.extract,eval_of_ev hf hx,hi']
   ·exact hv.elim
  ·exact hv.elim
 case convert s d x=>
  simp only[V_q] at hv
  split at hv
  ·rename_i si sz by' z k k' n hs ht hx
   have hu:=(hE _ _ ht).int
   obtain⟨ds,hus,_⟩:=(hE _ _ hs).und
   obtain⟨r,hr,hk⟩:=hv
   refine donev ?_ hk
   simp only[execOp,convert,eval_of_ev hf hx,Sem.run_bind,run_underlying hus,run_underlying hu,Result.andThen_ok]
   simp only[Conv.intToInt,hr,Sem.run_pure,Result.andThen_ok]
  ·exact Or.inl hv
 case call c=>
  obtain⟨callee,args,argTypes⟩:=c
  cases callee with
  | value f=>exact .inl hv
  | invoke r m=>exact .inl hv
  | builtin b=>
   cases b
   case len=>
    simp only[V_q] at hv
    split at hv
    ·rename_i t v h1 h2
     have e1:=evs_ok hf h2
     have e1':args.map a.eval=#[v]:=by apply Array.ext';simpa using e1
     have ht:argTypes=#[t]:=by apply Array.ext';simpa using h1
     subst ht
     split at hv
     ·rename_i sz by' z e ad n c hT
      have hu:=(hE _ _ hT).slice
      refine donev ?_ hv
      simp[execOp,resolve,invoke,builtin,Builtin.len_,e1',run_underlying hu,goInt]
     ·rename_i sz by' z s hT
      have hu:=(hE _ _ hT).string
      refine donev ?_ hv
      simp[execOp,resolve,invoke,builtin,Builtin.len_,e1',run_underlying hu,goInt]
     ·rename_i sz by' z n e hT
      have hu:=(hE _ _ hT).array
      refine donev ?_ hv
      simp[execOp,resolve,invoke,builtin,Builtin.len_,e1',run_underlying hu,goInt]
     ·exact Or.inl hv
    ·exact Or.inl hv
   case cap=>
    simp only[V_q] at hv
    split at hv
    ·rename_i t v h1 h2
     have e1:=evs_ok hf h2
     have e1':args.map a.eval=#[v]:=by apply Array.ext';simpa using e1
     have ht:argTypes=#[t]:=by apply Array.ext';simpa using h1
     subst ht
     split at hv
     ·rename_i sz by' z e ad n c hT
      have hu:=(hE _ _ hT).slice
      refine donev ?_ hv
      simp[execOp,resolve,invoke,builtin,Builtin.cap_,e1',run_underlying hu,goInt]
     ·exact Or.inl hv
    ·exact Or.inl hv
   case max=>
    simp only[V_q] at hv
    split at hv
    ·rename_i k p k' q h2
     have e1:=evs_ok hf h2
     have e1':args.map a.eval=#[.int k p,.int k' q]:=by apply Array.ext';simpa using e1
     refine donev ?_ hv
     have hm:(if q > p then q else p)=max p q:=by split<;>omega
     simp only[execOp,resolve,invoke,builtin,Builtin.max_,Builtin.max2,e1',Sem.run_bind,Sem.run_pure,Result.andThen_ok,List.foldlM_cons,List.foldlM_nil,hm]
    ·exact Or.inl hv
   case min=>
    simp only[V_q] at hv
    split at hv
    ·rename_i k p k' q h2
     have e1:=evs_ok hf h2
     have e1':args.map a.eval=#[.int k p,.int k' q]:=by apply Array.ext';simpa using e1
     refine donev ?_ hv
     have hm:(if q < p then q else p)=min p q:=by split<;>omega
     simp only[execOp,resolve,invoke,builtin,Builtin.min_,Builtin.min2,e1',Sem.run_bind,Sem.run_pure,Result.andThen_ok,List.foldlM_cons,List.foldlM_nil,hm]
    ·exact Or.inl hv
   case unsafeSliceData=>
    simp only[V_q] at hv
    split at hv
    ·rename_i n c h2
     have e1:=evs_ok hf h2
     have e1':args.map a.eval=#[.slice none n c]:=by apply Array.ext';simpa using e1
     refine donev ?_ hv
     simp only[execOp,resolve,invoke,builtin,e1',Sem.run_bind,Sem.run_pure,Result.andThen_ok,Lib.run_unsafeSliceData_nil]
    ·rename_i ad n c h2
     obtain⟨h3,hv⟩:=hv
     have e1:=evs_ok hf h2
     have e1':args.map a.eval=#[.slice (some ad) n c]:=by apply Array.ext';simpa using e1
     refine donev ?_ hv
     simp only[execOp,resolve,invoke,builtin,e1',Sem.run_bind,Sem.run_pure,Result.andThen_ok,Lib.run_unsafeSliceData_row _ _ _ _ _ _ (show c≠0 by omega)]
    ·exact Or.inl hv
   all_goals exact .inl hv
 all_goals exact .inl hv
theorem V_op_sound (hE:EOK X.P X.E) (hd:∀ d,o.dst=some d→d < X.n) (h:Rel X a w F C I M) (hv:V_op X o F C I M K):o.wpIn (fen X) 0 X.P a w (Sat X K) Q:=by
 have hR:=h
 obtain⟨β,h⟩:=h
 obtain⟨dst,op,ty,pos,after,guard⟩:=o
 have other:OtherOb X ⟨dst,op,ty,pos,after,guard⟩ F C I M K→(⟨dst,op,ty,pos,after,guard⟩:Oper).wpIn (fen X) 0 X.P a w (Sat X K) Q:=fun ⟨h⟩=>h a w Q hR
 have hf:=h.fr
 have quiet:V_q X op (evr F) C I M (fun x=>K (Go.V.put dst x F) C I M) (OtherOb X ⟨dst,op,ty,pos,after,guard⟩ F C I M K)→(∀ c,op≠.defer c)→(⟨dst,op,ty,pos,after,guard⟩:Oper).wpIn (fen X) 0 X.P a w (Sat X K) Q:=fun hq hnd=>by
  rcases V_q_run hE h op ty dst pos after guard hq with h1 | ⟨v,x,hr,hx,hk⟩
  ·exact other h1
  ·exact done_val (o:=⟨dst,op,ty,pos,after,guard⟩) h hd hnd hr hx hk
 cases op
 case box t x=>
  simp only[V_op] at hv
  split at hv
  ·rename_i d v hx
   have hx':=eval_of_ev hf hx
   have hr:(execOp a.eval ⟨some d,.box t x,ty,pos,after,guard⟩).run X.P w=.ok (.value (.pointer (some ⟨w.heap.size,0,none⟩))) (w.alloc (.cells v.cells t (0,0))):=by
    simp[execOp,Instr.box,newVar,newRow,hx',World.alloc_eq]
   have hdn:d < X.n:=hd d rfl
   cases hesc:X.esc.contains d with
   | true=>
    rw[hesc] at hv
    obtain⟨hv⟩:=hv
    have hk:=hv w.heap.size h.holds.freshI h.holds.freshM
    have h1:=(h.alloc_blk (.cells v.cells t (0,0))).dropBox d
    exact wpIn_val (by simp) hr ⟨_,_,_,_,⟨β,RelB.put h1 (dst:=some d) (x:=.val (.pointer (some ⟨w.heap.size,0,none⟩))) (by simpa using hdn) rfl⟩,hk⟩
   | false=>
    rw[hesc] at hv
    obtain⟨β',h1⟩:=h.alloc_box d hdn v.cells.toList t
    exact wpIn_val (by simp) hr ⟨_,_,_,_,⟨β',by simpa using h1⟩,hv⟩
  ·exact hv.elim
 case alloc t=>
  simp only[V_op] at hv
  split at hv
  ·rename_i d i hi
   obtain⟨z,hz,hzc⟩:=(hE _ _ hi).run_zero w
   have hzz:z.cells=i.zero.toArray:=by rw[←hzc]
   have hr:(execOp a.eval ⟨some d,.alloc t,ty,pos,after,guard⟩).run X.P w=.ok (.value (.pointer (some ⟨w.heap.size,0,none⟩))) (w.alloc (.cells i.zero.toArray t (0,0))):=by
    simp[execOp,Instr.alloc,newVar,newRow,hz,hzz,World.alloc_eq]
   have hdn:d < X.n:=hd d rfl
   cases hesc:X.esc.contains d with
   | true=>
    rw[hesc] at hv
    obtain⟨hv⟩:=hv
    have hk:=hv w.heap.size h.holds.freshI h.holds.freshM
    have h1:=(h.alloc_blk (.cells i.zero.toArray t (0,0))).dropBox d
    exact wpIn_val (by simp) hr ⟨_,_,_,_,⟨β,RelB.put h1 (dst:=some d) (x:=.val (.pointer (some ⟨w.heap.size,0,none⟩))) (by simpa using hdn) rfl⟩,hk⟩
   | false=>
    rw[hesc] at hv
    obtain⟨β',h1⟩:=h.alloc_box d hdn i.zero t
    exact wpIn_val (by simp) hr ⟨_,_,_,_,⟨β',h1⟩,hv⟩
  ·exact hv.elim
 case store t x y=>
  simp only[V_op] at hv
  split at hv
  ·rename_i i v hi hy
   have hy':=eval_of_ev hf hy
   split at hv
   ·rename_i s off hx
    have hx':=eval_of_ref hf hx
    split at hv
    ·rename_i cs hs
     cases hle:(Nat.ble (off+i.size) cs.length && (Nat.beq v.cells.size i.size && allOne v.cells.toList)) with
     | false=>rw[hle] at hv;exact hv.elim
     | true=>
      rw[hle] at hv
      simp only[Bool.and_eq_true] at hle
      obtain⟨hle,hsz,hone⟩:=hle
      have hle':=Nat.le_of_ble_eq_true hle
      have hsz':=Nat.eq_of_beq_eq_true hsz
      obtain⟨T,hT⟩:=(h.bx s cs hs).at_
      have:=storeVar_run (hE _ _ hi) (a:=⟨β s,off,none⟩) (v:=v) rfl hT hsz' (by simp;omega) hone
      refine wpIn_skip' (by simp) (w':=w.setRow (β s) (splice cs off v.cells.toList).toArray) ?_ ⟨_,_,_,_,⟨β,h.store_box hs (splice cs off v.cells.toList)⟩,hv⟩
      simp only[execOp,Instr.storeAt,hx',hy',Instr.sureAddr,Sem.run_bind,Sem.run_pure,Result.andThen_ok]
      simp only[List.toList_toArray] at this
      rw[this]
      rfl
    ·exact hv.elim
   ·rename_i ad hx
    have hx':=eval_of_evr hf hx
    cases hsz:Nat.beq v.cells.size i.size with
    | false=>rw[hsz] at hv;exact hv.elim
    | true=>
     rw[hsz] at hv
     obtain⟨pre,post,cs,T,hM,hsp,hb,hone,hk⟩:=hv
     have hsz':=Nat.eq_of_beq_eq_true hsz
     have hg:w.heap[ad.block]?=some (.cells cs T (0,0)):=h.holds.m ⟨ad.block,.cells cs T (0,0)⟩ (by rw[hM];simp)
     have:=storeVar_run (hE _ _ hi) (v:=v) hsp hg hsz' hb hone
     refine wpIn_skip' (by simp) (w':=w.setRow ad.block (splice cs.toList ad.off v.cells.toList).toArray) ?_ ⟨_,_,_,_,⟨β,h.store_blk hM⟩,hk⟩
     simp only[execOp,Instr.storeAt,hx',hy',Instr.sureAddr,Sem.run_bind,Sem.run_pure,Result.andThen_ok]
     rw[this]
     rfl
   ·exact hv.elim
  ·exact hv.elim
 case buildSlice t len parts=>
  simp only[V_op] at hv
  split at hv
  ·rename_i sz by' z e vs ht hvs
   have hu:=(hE _ _ ht).slice
   have hp:=evParts_ok hf hvs
   have hpp:(parts.map fun (i,x)=>(i,a.eval x)).toList=vs:=by simpa using hp
   split at hv
   ·rename_i ei hei
    cases hz:(Nat.ble (len * ei.size) 16777216 && Nat.blt 0 (len * ei.size)) with
    | false=>
     rw[hz] at hv
     simp only[cond_false] at hv
     split at hv
     ·rename_i hvs0
      obtain⟨hv⟩:=hv
      have hk:=hv w.heap.size h.holds.freshI h.holds.freshM
      refine wpIn_val (by simp) (v:=.slice (some ⟨w.heap.size,0,none⟩) 0 0) (w':=w.alloc (.cells #[] e (0,0))) ?_ ⟨_,_,_,_,⟨β,(h.alloc_blk _).put (x:=.val (.slice (some ⟨w.heap.size,0,none⟩) 0 0)) hd rfl⟩,hk⟩
      simp only[execOp,Instr.buildSlice,Sem.run_bind,Result.andThen_ok,run_underlying hu,(hE _ _ hei).run_sizeOf,hpp]
      have e0:∀ f:Nat→Value,Array.map f (Array.range 0)=#[]:=fun f=>by apply Array.ext<;>simp
      simp[newRow,World.alloc_eq,Instr.fill,e0]
     ·exact hv.elim
    | true=>
     rw[hz] at hv
     simp only[cond_true] at hv
     rw[Bool.and_eq_true] at hz
     have hle:=Nat.le_of_ble_eq_true hz.1
     have hpos:0 < len * ei.size:=by simpa using hz.2
     split at hv
     ·rename_i cells hfill
      obtain⟨zv,hzv,hzc⟩:=(hE _ _ hei).run_zero w
      obtain⟨hv⟩:=hv
      have hk:=hv w.heap.size h.holds.freshI h.holds.freshM
      refine wpIn_val (by simp) (v:=.slice (some ⟨w.heap.size,0,none⟩) len len) (w':=w.alloc (.cells cells.toArray e (0,0))) ?_ ⟨_,_,_,_,⟨β,(h.alloc_blk _).put (x:=.val (.slice (some ⟨w.heap.size,0,none⟩) len len)) hd rfl⟩,hk⟩
      have hfe:=fill_eq _ _ _ _ hfill
      simp only[execOp,Instr.buildSlice,Sem.run_bind,Result.andThen_ok,run_underlying hu,(hE _ _ hei).run_sizeOf]
      rw[if_neg (by omega)]
      simp only[if_neg (show ¬ len * ei.size=0 by omega),Sem.run_bind,hzv,Result.andThen_ok,Sem.run_pure,hpp,madeCells_eq zv ei.zero hzc,hfe]
      simp[newRow,World.alloc_eq]
     ·exact hv.elim
   ·exact hv.elim
  ·exact hv.elim
 case makeSlice t l c=>
  simp only[V_op] at hv
  split at hv
  ·rename_i sz by' z e kl l' kc c' ht hl hc
   have hu:=(hE _ _ ht).slice
   split at hv
   ·rename_i ei hei
    obtain⟨n,m,rfl,rfl,hnm,hb,hm,⟨hv⟩⟩:=hv
    have hk:=hv w.heap.size h.holds.freshI h.holds.freshM
    obtain⟨inf,zv,hi1,hi2,hi3,hi4,hi5⟩:=(hE _ _ hei).inf
    refine wpIn_val (by simp) (v:=.slice (some ⟨w.heap.size,0,none⟩) n m) (w':=w.alloc (.cells (rowOf ei.zero (m * ei.size)).toArray e (0,0))) ?_ ⟨_,_,_,_,⟨β,(h.alloc_blk _).put (x:=.val (.slice (some ⟨w.heap.size,0,none⟩) n m)) hd rfl⟩,hk⟩
    have hb2:((ei.bytes:Nat):Int) * (m:Int)≤281474976710656:=by
     have h2:((ei.bytes * m:Nat):Int)≤281474976710656:=by omega
     simpa using h2
    have:=run_make (P:=X.P) w t e inf zv hu hi1 hi4 kl kc (n:Int) (m:Int) (by omega) (by omega) (by rw[hi3];exact hb2) (by omega)
    simp only[execOp,eval_of_ev hf hl,eval_of_ev hf hc,Sem.run_bind,this,Result.andThen_ok,Sem.run_pure,Int.toNat_natCast]
    have e1:madeCells zv.cells (m * inf.size)=(rowOf ei.zero (m * ei.size)).toArray:=by
     rw[hi2,←hi5]
     simp[rowOf_eq]
    rw[e1]
   ·exact hv.elim
  ·exact hv.elim
 case call c=>
  obtain⟨callee,args,argTypes⟩:=c
  cases callee with
  | value f=>
   simp only[V_op] at hv
   split at hv
   ·rename_i g first cap vs hfv hvs
    have e1:=evs_ok hf hvs
    have e1':args.map a.eval=vs.toArray:=by apply Array.ext';simpa using e1
    have hrun:∀ {n:Next} {w':World},(callFunc g (first.toList++vs++cap.toList).toArray).run X.P w=.ok n w'→(execOp a.eval ⟨dst,.call { callee:=.value f,args,argTypes },ty,pos,after,guard⟩).run X.P w=.ok n w':=fun hr=>by
     simp only[execOp,resolve,eval_of_ev hf hfv,Deferred.ofValue,Sem.run_bind,Sem.run_pure,Result.andThen_ok,e1',invoke]
     rw[show first++vs.toArray++cap=(first.toList++vs++cap.toList).toArray from by apply Array.ext';simp]
     exact hr
    rcases h.call hv with ⟨hent,hcalls⟩ | ⟨v,w',I',M',hr,hk,hr'⟩
    ·refine wpIn_enter (by simp) (f:=g) (args:=(first.toList++vs++cap.toList).toArray) (hrun (hent _ _)) ?_
     refine hcalls.mono ?_
     rintro e w' ⟨v,I',M',rfl,hk,hr⟩
     exact⟨v,rfl,_,_,_,_,⟨β,hr.put (x:=.val v) hd rfl⟩,hk⟩
    ·exact wpIn_val (by simp) (hrun hr) ⟨_,_,_,_,⟨β,hr'.put (x:=.val v) hd rfl⟩,hk⟩
   ·exact other hv
  | invoke r m=>exact quiet hv (by simp)
  | builtin b=>
   cases b
   all_goals exact quiet hv (by simp)
 case defer c=>exact other hv
 all_goals exact quiet hv (by simp)
end
section
variable {X:Ctx} {β:Nat→Nat} {a:Act} {w:World} {F:Fr} {C:Bx} {I:GH} {M:List Blk} {o:Oper} {Q:Exit→Act→World→Prop} {K:KS}
theorem getD_bool {a:Act} {d:Nat} {c:Bool} (h:a.tmps.getD d undef=.bool c):a.tmps[d]?=some (.bool c):=by
 rw[Array.getD_eq_getD_getElem?] at h
 cases hd:a.tmps[d]? with
 | none=>rw[hd] at h;cases h
 | some v=>rw[hd] at h;simp at h;rw[h]
theorem yielded_of {ops:Array Oper} {j d:Nat} (hd:(ops[j]?).bind (·.dst)=some d) (tmps:Array Value):yielded ops tmps j=match tmps[d]? with
  | some (.bool b)=>some b
  | _=>none:=by
 unfold yielded
 rw[hd]
 rfl
theorem RelB.refine(h:RelB X β a w F C I M) {F':Fr} (hF:∀ t,SVok β (F' t) (a.tmps.getD t undef)):RelB X β a w F' C I M:={ h with fr:=hF }
theorem V_ops_sound (hE:EOK X.P X.E) (ops:Array Oper) (hQ:∀ a w,Sat X K a w→Q .normal a w):∀ (l:List Oper) (k:Nat),(∀ j,l[j]?=ops[k+j]?)→(∀ o∈l,∀ d,o.dst=some d→d < X.n) →
  ∀ {F C I M a w},Rel X a w F C I M→V_ops X ops.toList l F C I M K→wpOpsIn (fen X) 0 X.P ops Q (List.range' k l.length) a w
 | [],k,_,_,F,C,I,M,a,w,hR,hv=>hQ _ _ ⟨F,C,I,M,hR,hv⟩
 | o::rest,k,hl,hd,F,C,I,M,a,w,hR,hv=>by
  have h0:ops[k]?=some o:=by simpa using (hl 0).symm
  have hl':∀ j,rest[j]?=ops[k+1+j]?:=fun j=>by have:=hl (j+1);simpa[Nat.add_assoc,Nat.add_comm 1 j] using this
  have hd':∀ o∈rest,∀ d,o.dst=some d→d < X.n:=fun o ho=>hd o (by simp[ho])
  have hd0:=hd o (by simp)
  have ih:=@V_ops_sound hE ops hQ rest (k+1) hl' hd'
  simp only[List.length_cons,List.range'_succ,wpOpsIn,h0]
  have run:∀ {F C I M},Rel X a w F C I M→V_op X o F C I M (fun F C I M=>V_ops X ops.toList rest F C I M K)→o.wpIn (fen X) 0 X.P a w (wpOpsIn (fen X) 0 X.P ops Q (List.range' (k+1) rest.length)) Q:=fun hR hv=>
   Oper.wpIn_mono (fun a' w' ⟨F',C',I',M',hr,hk⟩=>ih hr hk) (V_op_sound hE hd0 hR hv)
  have skip:∀ {F C I M},Rel X a w F C I M→V_ops X ops.toList rest (put o.dst (.val undef) F) C I M K→(∀ f,o.about X.P w a.eval=some f→(fen X).fn f)∧wpOpsIn (fen X) 0 X.P ops Q (List.range' (k+1) rest.length) (a.put o.dst undef) w:=fun ⟨β,hr⟩ hv=>
   ⟨fun _ _=>trivial,ih ⟨β,hr.put (x:=.val undef) hd0 rfl⟩ hv⟩
  unfold V_ops at hv
  cases hg:o.guard with
  | none=>
   rw[hg] at hv
   have hw:Region.wanted o (yielded ops a.tmps)=true:=by simp[Region.wanted,hg]
   rw[if_pos hw]
   exact run hR hv
  | some jb=>
   obtain⟨j,b⟩:=jb
   rw[hg] at hv
   simp only at hv
   cases hj:(ops.toList[j]?).bind (·.dst) with
   | none=>rw[hj] at hv;exact hv.elim
   | some d=>
    rw[hj] at hv
    simp only at hv
    have hj':(ops[j]?).bind (·.dst)=some d:=by simpa using hj
    have hy:=yielded_of hj' a.tmps
    obtain⟨β,hr⟩:=hR
    have hF:=hr.fr d
    split at hv
    ·rename_i c hc
     rw[hc] at hF
     have hget:=getD_bool hF
     have hwant:Region.wanted o (yielded ops a.tmps)=(c == b):=by simp[Region.wanted,hg,hy,hget]
     rw[hwant]
     cases hcb:(c == b) with
     | true=>
      rw[hcb] at hv
      simp only[if_true]
      exact run ⟨β,hr⟩ hv
     | false=>
      rw[hcb] at hv
      simp only[Bool.false_eq_true,if_false]
      exact skip ⟨β,hr⟩ hv
    ·rename_i c hc
     rw[hc] at hF
     have hget:=getD_bool hF
     have hwant:Region.wanted o (yielded ops a.tmps)=(c == b):=by simp[Region.wanted,hg,hy,hget]
     rw[hwant]
     obtain⟨hv1,hv2⟩:=hv
     have set:∀ x:Bool,c=x→Rel X a w (upd F d (.lit x)) C I M:=fun x hx=>⟨β,hr.refine fun t=>by
      unfold upd
      by_cases e:t=d
      ·subst e;simp only[beq_self',cond_true];rw[←hx];exact hF
      ·simp only[beq_ne e,cond_false];exact hr.fr t⟩
     by_cases hcb:c=b
     ·have:(c == b)=true:=by simp[hcb]
      rw[this]
      simp only[if_true]
      exact run (set b hcb) (hv1 hcb)
     ·have h2:c=!b:=by cases c<;>cases b<;>simp_all
      have:(c == b)=false:=by simp[hcb]
      rw[this]
      simp only[Bool.false_eq_true,if_false]
      exact skip (set _ h2) (hv2 h2)
    ·rename_i vs hc
     rw[hc] at hF
     have hnone:yielded ops a.tmps j=none:=by
      rw[hy]
      cases hg':a.tmps[d]? with
      | none=>rfl
      | some v=>
       simp only[SVok,Array.getD_eq_getD_getElem?,hg',Option.getD_some] at hF
       subst hF
       rfl
     have hwant:Region.wanted o (yielded ops a.tmps)=false:=by simp[Region.wanted,hg,hnone]
     rw[hwant]
     simp only[Bool.false_eq_true,if_false]
     exact skip ⟨β,hr⟩ hv
    ·exact hv.elim
end
inductive SvLe:SV→SV→Prop
 | refl {x}:SvLe x x
 | lit {b}:SvLe (.lit b) (.val (.bool b))
 | junk {x}:SvLe x .junk
def ofF:List (Nat×SV)→Fr
 | [],_=>.junk
 |(t,x)::l,s=>bif Nat.beq s t then x else ofF l s
def ofC:List (Nat×List Value)→Bx
 | [],_=>none
 |(t,x)::l,s=>bif Nat.beq s t then some x else ofC l s
inductive AtF (F:Fr):List (Nat×SV)→Prop
 | nil:AtF F []
 | cons {t x l} (h:SvLe (F t) x) (k:AtF F l):AtF F ((t,x)::l)
inductive AtC (C:Bx):List (Nat×List Value)→Prop
 | nil:AtC C []
 | cons {t x l} (h:C t=some x) (k:AtC C l):AtC C ((t,x)::l)
theorem SVok_le {β:Nat→Nat} {x y:SV} {v:Value} (h:SvLe x y) (hx:SVok β x v):SVok β y v:=by
 cases h with
 | refl=>exact hx
 | lit=>exact hx
 | junk=>trivial
theorem AtF.ok {β:Nat→Nat} {F:Fr} {a:Act} (h:∀ t,SVok β (F t) (a.tmps.getD t undef)) {l:List (Nat×SV)} (hl:AtF F l) (t:Nat):SVok β (ofF l t) (a.tmps.getD t undef):=by
 induction hl with
 | nil=>trivial
 | @cons t' x l hx k ih=>
  unfold ofF
  by_cases e:t=t'
  ·subst e;simp only[beq_self',cond_true];exact SVok_le hx (h t)
  ·simp only[beq_ne e,cond_false];exact ih
theorem AtC.ok {C:Bx} {l:List (Nat×List Value)} (hl:AtC C l) {s:Nat} {cs:List Value} (h:ofC l s=some cs):C s=some cs:=by
 induction hl with
 | nil=>cases h
 | @cons t' x l hx k ih=>
  unfold ofC at h
  by_cases e:s=t'
  ·subst e;simp only[beq_self',cond_true] at h;rw[hx,h]
  ·simp only[beq_ne e,cond_false] at h;exact ih h
theorem RelB.base {X:Ctx} {β:Nat→Nat} {a:Act} {w:World} {F:Fr} {C:Bx} {I:GH} {M:List Blk} (h:RelB X β a w F C I M) {fl:List (Nat×SV)} {cl:List (Nat×List Value)} (hF:AtF F fl) (hC:AtC C cl):RelB X β a w (ofF fl) (ofC cl) I M:=
 { h with
  fr:=hF.ok h.fr
  bx:=fun s cs hs=>h.bx s cs (hC.ok hs)
  inj:=fun s s' h1 h2=>by
   obtain⟨c1,e1⟩:=Option.ne_none_iff_exists'.1 h1
   obtain⟨c2,e2⟩:=Option.ne_none_iff_exists'.1 h2
   exact h.inj s s' (by rw[hC.ok e1];simp) (by rw[hC.ok e2];simp) }
inductive Ex where
 | normal
 | exit (id:Nat)
 | goto (l:Nat)
 | ret
abbrev KX:=Ex→KS
def exK (N:KS) (K:KX):KX
 | .normal=>N
 | .exit id=>K (.exit id)
 | .goto l=>K (.goto l)
 | .ret=>K .ret
def blkK (id:Nat) (K:KX):KX
 | .normal=>K .normal
 | .exit j=>bif Nat.beq j id then K .normal else K (.exit j)
 | .goto l=>K (.goto l)
 | .ret=>K .ret
def SatX (X:Ctx) (K:KX):Exit→Act→World→Prop
 | .normal,a,w=>Sat X (K .normal) a w
 | .exit id,a,w=>Sat X (K (.exit id)) a w
 | .goto l,a,w=>Sat X (K (.goto l)) a w
 | .ret,a,w=>Sat X (K .ret) a w
 | .panic _,_,_=>False
 | .outgrown,_,_=>False
abbrev Body:=Fr→Bx→GH→List Blk→KX→Prop
structure LP where
 fl:List (Nat×SV)
 cl:List (Nat×List Value):=[]
 gi:GH
 mi:List Blk:=[]
inductive InvAt {ι:Type} (foot:List Nat) (st:ι→LP) (p:ι→Prop) (F:Fr) (C:Bx) (I:GH) (M:List Blk):Prop
 | mk (j:ι) (hp:p j) (hw:Wk foot I M (st j).gi (st j).mi) (hF:AtF F (st j).fl) (hC:AtC C (st j).cl)
def LoopN (body:Body) (K:KX):Nat→KS
 | 0=>fun _ _ _ _=>False
 | n+1=>fun F C I M=>body F C I M (exK (LoopN body K n) K)
inductive LoopOb (foot:List Nat) (body:Body) (F:Fr) (C:Bx) (I:GH) (M:List Blk) (K:KX):Prop
 | inv {ι:Type} (st:ι→LP) (inv:ι→Prop) (μ:ι→Nat) (start:InvAt foot st inv F C I M)
   (round:∀ i,inv i→body (ofF (st i).fl) (ofC (st i).cl) (st i).gi (st i).mi (exK (InvAt foot st fun j=>inv j∧μ j < μ i) K))
 | unroll (n:Nat) (h:LoopN body K n F C I M)
 | invF {ι:Type} (st:ι→LP) (inv:ι→Prop) (μ:ι→Nat) (start:Fa I M→InvAt foot st inv F C I M)
   (round:∀ i,inv i→body (ofF (st i).fl) (ofC (st i).cl) (st i).gi (st i).mi (exK (fun F C I M=>Fa I M→InvAt foot st (fun j=>inv j∧μ j < μ i) F C I M) K))
inductive CodeOb (X:Ctx) (c:Code) (F:Fr) (C:Bx) (I:GH) (M:List Blk) (K:KX):Prop
 | mk (h:∀ a w,Rel X a w F C I M→c.wpIn (fen X) 0 X.P (SatX X K) a w)
inductive LabOb (foot:List Nat) (F:Fr) (C:Bx) (I:GH) (M:List Blk) (K:KS):Prop
 | go (h:K F C I M)
 | weak (l:LP) (hw:Wk foot I M l.gi l.mi) (hF:AtF F l.fl) (hC:AtC C l.cl) (h:K (ofF l.fl) (ofC l.cl) l.gi l.mi)
def V (X:Ctx):Code→Fr→Bx→GH→List Blk→KX→Prop
 | .skip,F,C,I,M,K=>K .normal F C I M
 | .label l,F,C,I,M,K=>bif Nat.ble 2 l then LabOb X.foot F C I M (K .normal) else K .normal F C I M
 | .ret,F,C,I,M,K=>K .ret F C I M
 | .exit id,F,C,I,M,K=>K (.exit id) F C I M
 | .goto l,F,C,I,M,K=>K (.goto l) F C I M
 | .seq x y,F,C,I,M,K=>V X x F C I M (exK (fun F C I M=>V X y F C I M K) K)
 | .block id c,F,C,I,M,K=>V X c F C I M (blkK id K)
 | .cond c x y,F,C,I,M,K=>
  match evr F c with
  | .lit b=>bif b then V X x F C I M K else V X y F C I M K
  | .val (.bool b)=>CondOb b (V X x F C I M K) (V X y F C I M K)
  | _=>False
 | .loop c,F,C,I,M,K=>LoopOb X.foot (V X c) F C I M K
 | .region _ ops false,F,C,I,M,K=>V_ops X ops.toList ops.toList F C I M (K .normal)
 | .region id ops true,F,C,I,M,K=>CodeOb X (.region id ops true) F C I M K
 | .rangeFunc f ps asg body,F,C,I,M,K=>CodeOb X (.rangeFunc f ps asg body) F C I M K
 | .scope c,F,C,I,M,K=>CodeOb X (.scope c) F C I M K
 | .refuse _,_,_,_,_,_=>False
def opsOk (n:Nat) (ops:Array Oper):Bool:=ops.toList.all fun o=>match o.dst with
 | some d=>Nat.blt d n
 | none=>true
def codeOk (n:Nat):Code→Bool
 | .seq x y=>codeOk n x && codeOk n y
 | .block _ c=>codeOk n c
 | .cond _ x y=>codeOk n x && codeOk n y
 | .loop c=>codeOk n c
 | .region _ ops _=>opsOk n ops
 | _=>true
theorem opsOk_spec {n:Nat} {ops:Array Oper} (h:opsOk n ops=true):∀ o∈ops.toList,∀ d,o.dst=some d→d < n:=by
 intro o ho d hd
 have:=List.all_eq_true.1 h o ho
 rw[hd] at this
 simpa using this
theorem SatX.then {X:Ctx} {N:KS} {K:KX} {next:Act→World→Prop} (hn:∀ a w,Sat X N a w→next a w):∀ e a w,SatX X (exK N K) e a w→Exit.then next (SatX X K) e a w:=by
 intro e a w h
 cases e<;>first | exact hn _ _ h | exact h
theorem wpIn_loop_rel {Fe:Fence} {n:Nat} {P:Program} {Q:Exit→Act→World→Prop} {a:Act} {w:World} {c:Code} (J:Nat→Act→World→Prop) {m:Nat} (h₀:J m a w)
  (round:∀ m a w,J m a w→c.wpIn Fe n P (Exit.then (fun a' w'=>∃ m',m' < m∧J m' a' w') Q) a w):(Code.loop c).wpIn Fe n P Q a w:=by
 intro b k cs hro hb hr
 have key:∀ j a w,J j a w→∃ e a' w',Q e a' w'∧ArrivesIn (Machine.fenced P Fe) P (lone (b.atR a (.code c::.inLoop c::k)) cs w) b k cs e a' w':=by
  intro j
  induction j using Nat.strongRecOn with
  | _ j ih=>
   intro a w hI
   obtain⟨e,a₁,w₁,hq,harr⟩:=round j a w hI b (.inLoop c::k) cs hro hb hr
   cases e with
   | normal=>
    obtain⟨m',hlt,hI₁⟩:=hq
    obtain⟨e₂,a₂,w₂,hq₂,harr₂⟩:=ih m' hlt a₁ w₁ hI₁
    exact⟨e₂,a₂,w₂,hq₂,.of_steps (StepsIn.trans harr (.one (fenced_calm hb hr rfl) stepR_inLoop)) harr₂⟩
   | exit id=>exact⟨_,a₁,w₁,hq,.pass (x:=.inLoop c) rfl (fun _ _=>.inl (by simp)) harr⟩
   | goto l=>exact⟨_,a₁,w₁,hq,.pass (x:=.inLoop c) rfl (fun _ _=>.inl (by simp)) harr⟩
   | ret=>exact⟨_,a₁,w₁,hq,.pass (x:=.inLoop c) rfl (fun _ _=>.inl (by simp)) harr⟩
   | panic ch=>exact⟨_,a₁,w₁,hq,.pass (x:=.inLoop c) rfl (fun _ _=>.inl (by simp)) harr⟩
   | outgrown=>exact⟨_,a₁,w₁,hq,.pass (x:=.inLoop c) rfl (fun _ _=>.inl (by simp)) harr⟩
 obtain⟨e,a',w',hq,harr⟩:=key _ a w h₀
 exact⟨e,a',w',hq,.of_steps (.one (fenced_calm hb hr rfl) stepR_loop) harr⟩
theorem V_sound {X:Ctx} (hE:EOK X.P X.E):∀ (c:Code) {F C I M K a w},codeOk X.n c=true→Rel X a w F C I M→V X c F C I M K→c.wpIn (fen X) 0 X.P (SatX X K) a w
 | .skip,F,C,I,M,K,a,w,_,hR,hv=>wpIn_skip ⟨F,C,I,M,hR,hv⟩
 | .label l,F,C,I,M,K,a,w,_,hR,hv=>by
  refine wpIn_label ?_
  simp only[V] at hv
  cases hl:Nat.ble 2 l with
  | false=>rw[hl] at hv;exact⟨F,C,I,M,hR,hv⟩
  | true=>
   rw[hl] at hv
   simp only[cond_true] at hv
   cases hv with
   | go h=>exact⟨F,C,I,M,hR,h⟩
   | weak l hw hF hC h=>
    obtain⟨β,hr⟩:=hR
    exact⟨_,_,_,_,⟨β,(hr.base hF hC).wk hw⟩,h⟩
 | .ret,F,C,I,M,K,a,w,_,hR,hv=>wpIn_ret ⟨F,C,I,M,hR,hv⟩
 | .exit id,F,C,I,M,K,a,w,_,hR,hv=>wpIn_exit ⟨F,C,I,M,hR,hv⟩
 | .goto l,F,C,I,M,K,a,w,_,hR,hv=>wpIn_goto ⟨F,C,I,M,hR,hv⟩
 | .seq x y,F,C,I,M,K,a,w,hok,hR,hv=>by
  simp only[codeOk,Bool.and_eq_true] at hok
  refine wpIn_seq (wpIn_mono (V_sound hE x hok.1 hR hv) (SatX.then ?_))
  rintro a w ⟨F',C',I',M',hr,hk⟩
  exact V_sound hE y hok.2 hr hk
 | .block id c,F,C,I,M,K,a,w,hok,hR,hv=>by
  refine wpIn_block (wpIn_mono (V_sound hE c hok hR hv) ?_)
  intro e a w h
  cases e with
  | exit j=>
   simp only[SatX,blkK] at h
   simp only[Exit.inBlock]
   by_cases e:j=id
   ·subst e;simp only[beq_self',cond_true] at h;rw[if_pos rfl];exact h
   ·simp only[beq_ne e,cond_false] at h;rw[if_neg e];exact h
  | _=>exact h
 | .cond c x y,F,C,I,M,K,a,w,hok,hR,hv=>by
  simp only[codeOk,Bool.and_eq_true] at hok
  obtain⟨β,hr⟩:=hR
  simp only[V] at hv
  split at hv
  ·rename_i b hb
   have hc:=eval_of_lit hr.fr hb
   refine wpIn_cond hc ?_
   cases b
   ·exact V_sound hE y hok.2 ⟨β,hr⟩ hv
   ·exact V_sound hE x hok.1 ⟨β,hr⟩ hv
  ·rename_i b hb
   have hc:=eval_of_evr hr.fr hb
   refine wpIn_cond hc ?_
   obtain⟨h1,h2⟩:=hv
   cases b
   ·exact V_sound hE y hok.2 ⟨β,hr⟩ (h2 rfl)
   ·exact V_sound hE x hok.1 ⟨β,hr⟩ (h1 rfl)
  ·exact hv.elim
 | .loop c,F,C,I,M,K,a,w,hok,hR,hv=>by
  have ih:=@V_sound X hE c
  simp only[V] at hv
  have hinv:∀ {ι:Type} (st:ι→LP) (inv:ι→Prop) (μ:ι→Nat) (start:Fa I M→InvAt X.foot st inv F C I M)
    (round:∀ i,inv i→V X c (ofF (st i).fl) (ofC (st i).cl) (st i).gi (st i).mi (exK (fun F C I M=>Fa I M→InvAt X.foot st (fun j=>inv j∧μ j < μ i) F C I M) K)),(Code.loop c).wpIn (fen X) 0 X.P (SatX X K) a w:=by
   intro ι st inv μ start round
   let J (m:Nat) (a:Act) (w:World):Prop:=∃ i,inv i∧μ i=m∧Rel X a w (ofF (st i).fl) (ofC (st i).cl) (st i).gi (st i).mi
   have toJ:∀ {p:ι→Prop} {a w},(∀ i,p i→inv i)→Sat X (fun F C I M=>Fa I M→InvAt X.foot st p F C I M) a w→∃ i,p i∧J (μ i) a w:=by
    rintro p a w hp ⟨F,C,I,M,⟨β,hr⟩,hfa⟩
    obtain⟨j,hpj,hw,hF,hC⟩:=hfa ⟨hr.holds.d,hr.holds.nd⟩
    exact⟨j,hpj,j,hp j hpj,rfl,β,(hr.base hF hC).wk hw⟩
   obtain⟨i0,_,hJ0⟩:=toJ (fun _ h=>h) ⟨F,C,I,M,hR,start⟩
   refine wpIn_loop_rel J hJ0 ?_
   rintro m a w ⟨i,hi,rfl,hr⟩
   refine wpIn_mono (ih hok hr (round i hi)) ?_
   intro e a w h
   cases e with
   | normal=>
    obtain⟨j,⟨hj,hlt⟩,hJ⟩:=toJ (fun _ h=>h.1) h
    exact⟨_,hlt,hJ⟩
   | _=>exact h
  cases hv with
  | @inv ι st inv μ start round=>
   let J (m:Nat) (a:Act) (w:World):Prop:=∃ i,inv i∧μ i=m∧Rel X a w (ofF (st i).fl) (ofC (st i).cl) (st i).gi (st i).mi
   have toJ:∀ {p:ι→Prop} {a w},(∀ i,p i→inv i)→Sat X (InvAt X.foot st p) a w→∃ i,p i∧J (μ i) a w:=by
    rintro p a w hp ⟨F,C,I,M,⟨β,hr⟩,⟨j,hpj,hw,hF,hC⟩⟩
    exact⟨j,hpj,j,hp j hpj,rfl,β,(hr.base hF hC).wk hw⟩
   obtain⟨i0,_,hJ0⟩:=toJ (fun _ h=>h) ⟨F,C,I,M,hR,start⟩
   refine wpIn_loop_rel J hJ0 ?_
   rintro m a w ⟨i,hi,rfl,hr⟩
   refine wpIn_mono (ih hok hr (round i hi)) ?_
   intro e a w h
   cases e with
   | normal=>
    obtain⟨j,⟨hj,hlt⟩,hJ⟩:=toJ (fun _ h=>h.1) h
    exact⟨_,hlt,hJ⟩
   | _=>exact h
  | invF st inv μ start round=>exact hinv st inv μ start round
  | unroll n h=>
   refine wpIn_loop_rel (fun m a w=>Sat X (LoopN (V X c) K m) a w) ⟨F,C,I,M,hR,h⟩ ?_
   rintro m a w ⟨F,C,I,M,hr,hk⟩
   cases m with
   | zero=>exact hk.elim
   | succ m=>
    refine wpIn_mono (ih hok hr hk) ?_
    intro e a w h
    cases e with
    | normal=>exact⟨m,Nat.lt_succ_self m,h⟩
    | _=>exact h
 | .region id ops false,F,C,I,M,K,a,w,hok,hR,hv=>by
  refine wpIn_region ?_
  have:=V_ops_sound (K:=K .normal) (Q:=SatX X K) hE ops (fun _ _ h=>h) ops.toList 0 (by simp) (opsOk_spec hok) hR hv
  simpa[List.range_eq_range'] using this
 | .region id ops true,F,C,I,M,K,a,w,hok,hR,⟨hv⟩=>hv a w hR
 | .rangeFunc f ps asg body,F,C,I,M,K,a,w,hok,hR,⟨hv⟩=>hv a w hR
 | .scope c,F,C,I,M,K,a,w,hok,hR,⟨hv⟩=>hv a w hR
 | .refuse _,F,C,I,M,K,a,w,hok,hR,hv=>hv.elim
def frOf (args:List Value):Fr:=fun t=>match args[t]? with
 | some v=>.val v
 | none=>.junk
def resV (X:Ctx) (F:Fr) (C:Bx) (I:GH) (M:List Blk):List ResultVar→(List Value→Prop)→Prop
 | [],K=>K []
 | .tmp t::l,K=>match ev F (.tmp t) with
  | .val v=>resV X F C I M l fun vs=>K (v::vs)
  | _=>False
 | .cell t ty::l,K=>match evr F (.tmp t),X.E ty with
  | .ref s off,some i=>(match C s with
   | some cs=>bif Nat.ble (off+i.size) cs.length then resV X F C I M l fun vs=>K (pack i.sh.agg ((cs.drop off).take i.size)::vs) else False
   | none=>False)
  | .val (.pointer (some a)),some i=>LoadOb I M a i.size fun ws=>resV X F C I M l fun vs=>K (pack i.sh.agg ws::vs)
  | _,_=>False
inductive RetOb (foot:List Nat) (I:GH) (M:List Blk) (post:GH→List Blk→Prop):Prop
 | mk (I':GH) (M':List Blk) (hw:Wk foot I M I' M') (h:post I' M')
def retK (X:Ctx) (rs:List ResultVar) (post:Value→GH→List Blk→Prop):KX:=fun ex F C I M=>
 let done:Prop:=resV X F C I M rs fun vs=>match vs with
  | [v]=>RetOb X.foot I M (post v)
  | vs=>RetOb X.foot I M (post (.tuple vs.toArray))
 match ex with
 | .normal=>done
 | .ret=>done
 | _=>False
def resOne (tmps:Array Value):ResultVar→Sem Value
 | .tmp t=>pure (tmps.getD t undef)
 | .cell a t=>do loadVar t (←asAddr (tmps.getD a undef))
theorem results_one (fn:Func) (tmps:Array Value):results fn tmps=(do let vs ←fn.results.mapM (resOne tmps);pure (if h:vs.size=1 then vs[0] else .tuple vs)):=by
 unfold results
 congr 1
theorem resV_ok {X:Ctx} (hE:EOK X.P X.E) {β:Nat→Nat} {a:Act} {w:World} {F:Fr} {C:Bx} {I:GH} {M:List Blk} (h:RelB X β a w F C I M):∀ {rs:List ResultVar} {K:List Value→Prop},resV X F C I M rs K →
  ∃ vs,K vs∧(rs.mapM (resOne a.tmps)).run X.P w=.ok vs w
 | [],K,hv=>⟨[],hv,rfl⟩
 | .tmp t::l,K,hv=>by
  unfold resV at hv
  split at hv
  ·rename_i v h1
   have e1:a.tmps.getD t undef=v:=eval_of_ev h.fr h1
   obtain⟨vs,hk,e2⟩:=resV_ok hE h hv
   refine⟨_,hk,?_⟩
   simp only[List.mapM_cons,resOne,Sem.run_bind,Sem.run_pure,Result.andThen_ok,e2,e1]
  ·exact hv.elim
 | .cell t ty::l,K,hv=>by
  unfold resV at hv
  split at hv
  ·rename_i s off i h1 hi
   have e1:a.tmps.getD t undef=.pointer (some ⟨β s,off,none⟩):=eval_of_ref h.fr h1
   split at hv
   ·rename_i cs hs
    cases hle:Nat.ble (off+i.size) cs.length with
    | false=>rw[hle] at hv;exact hv.elim
    | true=>
     rw[hle] at hv
     obtain⟨vs,hk,e2⟩:=resV_ok hE h hv
     have hle':=Nat.le_of_ble_eq_true hle
     obtain⟨T,hT⟩:=(h.bx s cs hs).at_
     have e3:=loadVar_run (hE _ _ hi) (a:=⟨β s,off,none⟩) rfl hT (vs:=(cs.drop off).take i.size) (by simp) (by simp;omega)
     refine⟨_,hk,?_⟩
     simp only[List.mapM_cons,resOne,Sem.run_bind,Sem.run_pure,Result.andThen_ok,e2,e1,asAddr,e3]
   ·exact hv.elim
  ·rename_i ad i h1 hi
   have e1:a.tmps.getD t undef=.pointer (some ad):=eval_of_evr h.fr h1
   obtain⟨ws,⟨hsp,cs,T,fr,hkn,hvs,hl⟩,hv⟩:=hv
   obtain⟨vs,hk,e2⟩:=resV_ok hE h hv
   have e3:=loadVar_run (hE _ _ hi) hsp (hkn.heap h.holds) hvs hl
   refine⟨_,hk,?_⟩
   simp only[List.mapM_cons,resOne,Sem.run_bind,Sem.run_pure,Result.andThen_ok,e2,e1,asAddr,e3]
  ·exact hv.elim
theorem results_run {X:Ctx} (hE:EOK X.P X.E) {β:Nat→Nat} {a:Act} {w:World} {F:Fr} {C:Bx} {I:GH} {M:List Blk} (h:RelB X β a w F C I M) {fn:Func} {K:List Value→Prop} (hv:resV X F C I M fn.results.toList K) :
  ∃ vs,K vs∧(results fn a.tmps).run X.P w=.ok (match vs with | [v]=>v | vs=>.tuple vs.toArray) w:=by
 obtain⟨vs,hk,e⟩:=resV_ok hE h hv
 refine⟨vs,hk,?_⟩
 rw[results_one]
 have e1:(fn.results.mapM (resOne a.tmps)).run X.P w=.ok vs.toArray w:=by
  rw[Array.mapM_eq_mapM_toList,Sem.run_map,e]
  rfl
 simp only[Sem.run_bind,e1,Result.andThen_ok,Sem.run_pure]
 match vs with
 | []=>rfl
 | [v]=>rfl
 | u::v::l=>simp
theorem leaves_marks {Fe:Fence} {n:Nat} {P:Program} {fn:Func} {tmps:Array Value} {R:Ending→World→Prop}:∀ (rs:List Nat) (w:World),rs.Nodup→(∀ r∈rs,w.heap[r]?=some (.deferred (some []))) →
  (∀ w':World,w'.heap.size=w.heap.size→(∀ b,b ∉ rs→w'.heap[b]?=w.heap[b]?)→Same w w'→∃ v,(results fn tmps).run P w'=.ok v w'∧R (.returned v) w')→LeavesInM Fe n P fn tmps R (rs.map markOf) .returning w
 | [],w,_,_,h=>h w rfl (fun _ _=>rfl) (.refl _)
 | r::rs,w,hnd,hr,h=>by
  rw[List.nodup_cons] at hnd
  refine⟨by simp,.inl ⟨r,_,rfl,run_takeDeferred (hr r (by simp)),?_⟩⟩
  refine leaves_marks rs _ hnd.2 (fun r' hr'=>?_) fun w' hs hb ho=>h w' (by rw[hs];simp) (fun b hbn=>?_) ((putObj_same _ _ _).trans ho)
  ·have hne:r'≠r:=fun e=>hnd.1 (e ▸ hr')
   rw[World.putObj_heap_other hne]
   exact hr r' (by simp[hr'])
  ·simp only[List.mem_cons,not_or] at hbn
   rw[hb b hbn.2,World.putObj_heap_other hbn.1]
theorem RelB.take {X:Ctx} {β:Nat→Nat} {a:Act} {w w':World} {F:Fr} {C:Bx} {I:GH} {M:List Blk} (h:RelB X β a w F C I M) {rs:List Nat} (hrs:∀ r∈rs,MarkAt X w I M r) (hs:w'.heap.size=w.heap.size) (hb:∀ b,b ∉ rs→w'.heap[b]?=w.heap[b]?) (ho:Same w w') :
  RelB X β { a with defers:=[] } w' F C I M:=by
 exact {
  size:=h.size
  defers:=⟨[],rfl,List.nodup_nil,fun r hr=>by cases hr⟩
  holds:={
   i:=fun b o hbo=>by
    rw[hb b (fun hr=>by have:=(hrs b hr).noI;rw[hbo] at this;cases this)]
    exact h.holds.i b o hbo
   m:=fun x hx=>by
    rw[hb _ (fun hr=>(hrs _ hr).noM x hx rfl)]
    exact h.holds.m x hx
   d:=h.holds.d
   nd:=h.holds.nd }
  fr:=h.fr
  bx:=fun s cs hcs=>by
   have hbx:=h.bx s cs hcs
   obtain⟨T,hT⟩:=hbx.at_
   refine { hbx with at_:=⟨T,?_⟩ }
   rw[hb _ (fun hr=>by have:=(hrs _ hr).at_;rw[hT] at this;cases this)]
   exact hT
  inj:=h.inj
  le0:=h.le0
  new0:=h.new0
  own:=h.own
  old:=fun b hlt hf=>by
   rw[hb _ (fun hr=>by have:=(hrs _ hr).base;omega)]
   exact h.old b hlt hf
  out:=h.out.trans ho
  sz:=by rw[hs];exact h.sz }
theorem SatX.ret {X:Ctx} (hE:EOK X.P X.E) {fn:Func} {post:Value→GH→List Blk→Prop} {R:Ending→World→Prop}
  (hR:∀ v I M (w:World) (a:Act) (F:Fr) (C:Bx),Rel X a w F C I M→post v I M→R (.returned v) w):∀ e a w,SatX X (retK X fn.results.toList post) e a w→bodyPostM (fen X) 0 X.P fn R e a w:=by
 have main:∀ a w,Sat X (retK X fn.results.toList post .ret) a w→LeavesInM (fen X) 0 X.P fn a.tmps R a.defers .returning w:=by
  rintro a w ⟨F,C,I,M,⟨β,hr⟩,hk⟩
  simp only[retK] at hk
  obtain⟨rs,hd,hnd,hm⟩:=hr.defers
  rw[hd]
  refine leaves_marks rs w hnd (fun r hrr=>(hm r hrr).at_) fun w' hs hb ho=>?_
  have hr':=hr.take hm hs hb ho
  obtain⟨vs,hp,hrun⟩:=results_run hE hr' hk
  refine⟨_,hrun,?_⟩
  match vs,hp with
  | [],⟨I',M',hw,hp⟩=>exact hR _ I' M' w' _ F C ⟨β,hr'.wk hw⟩ hp
  | [v],⟨I',M',hw,hp⟩=>exact hR _ I' M' w' _ F C ⟨β,hr'.wk hw⟩ hp
  | u::v::l,⟨I',M',hw,hp⟩=>exact hR _ I' M' w' _ F C ⟨β,hr'.wk hw⟩ hp
 intro e a w h
 cases e with
 | normal=>exact main a w h
 | ret=>exact main a w h
 | exit id=>obtain⟨F,C,I,M,_,hk⟩:=h;exact hk.elim
 | goto l=>obtain⟨F,C,I,M,_,hk⟩:=h;exact hk.elim
 | panic _=>exact h.elim
 | outgrown=>exact h.elim
theorem enters_of' {P:Program} {f:Nat} {fn:Func} (hf:P.funcs[f]?=some fn) (hb:fn.body.isSome=true) (hn:(fn.name == "runtime.NumGoroutine")=false):Enters P f:=by
 intro args w
 have hb':fn.body.isNone=false:=by cases h:fn.body<;>simp_all
 simp only[callFunc,Sem.run_bind,run_program,Result.andThen_ok,hf,hn,Bool.false_eq_true,if_false,hb']
 rfl
theorem specE_of_W {P:Program} {E:Env} {f:Nat} {fn:Func} {c:Code} (esc:List Nat) (hE:EOK P E) (hf:P.funcs[f]?=some fn) (hb:fn.body=some c) (hn:(fn.name == "runtime.NumGoroutine")=false)
  {args:List Value} (hok:(codeOk fn.ntmps c && Nat.ble args.length fn.ntmps)=true) {I:GH} {M:List Blk} {post:Value→GH→List Blk→Prop}
  (h:∀ B h0 a w,Rel ⟨P,E,esc,fn.ntmps,B,h0,I,M.map (·.num),none⟩ a w (frOf args) (fun _=>none) I M→c.wpIn (fen ⟨P,E,esc,fn.ntmps,B,h0,I,M.map (·.num),none⟩) 0 P (SatX ⟨P,E,esc,fn.ntmps,B,h0,I,M.map (·.num),none⟩ (retK ⟨P,E,esc,fn.ntmps,B,h0,I,M.map (·.num),none⟩ fn.results.toList post)) a w) :
  SpecE P f args I M post:=by
 rw[Bool.and_eq_true] at hok
 have hlen:=Nat.le_of_ble_eq_true hok.2
 refine⟨enters_of' hf (by rw[hb];rfl) hn,fun w hH=>?_⟩
 let X:Ctx:=⟨P,E,esc,fn.ntmps,w.heap.size,w,I,M.map (·.num),none⟩
 have hrel:Rel X { tmps:=args.toArray++Array.replicate (fn.ntmps - args.toArray.size) undef,defers:=[] } w (frOf args) (fun _=>none) I M:=⟨fun _=>0,{
  size:=by simp[X];omega
  defers:=⟨[],rfl,List.nodup_nil,fun r hr=>by cases hr⟩
  holds:=hH
  fr:=fun t=>by
   unfold frOf
   cases ht:args[t]? with
   | none=>trivial
   | some v=>
    have hlt:t < args.length:=(List.getElem?_eq_some_iff.1 ht).1
    simp only[SVok,Array.getD_eq_getD_getElem?]
    rw[Array.getElem?_append_left (by simpa using hlt)]
    simp[ht]
  bx:=fun s cs hs=>by cases hs
  inj:=fun s s' h1=>by simp at h1
  le0:=fun b o hb=>hb
  new0:=fun b o hb=>.inl hb
  own:=fun x hx=>.inl (List.mem_map.2 ⟨x,hx,rfl⟩)
  old:=fun b hb hf=>rfl
  out:=.refl _
  sz:=Nat.le_refl _ }⟩
 have hwp:=h w.heap.size w _ _ hrel
 refine(callsIn_wide (n:=0)).1 ?_
 have hfen:fen X=Fence.wide:=rfl
 rw[hfen] at hwp
 refine callsIn_of_wp_marks hf hb trivial (wpIn_mono hwp (SatX.ret (X:=X) hE ?_))
 rintro v I' M' w' a' F' C' ⟨β,hr⟩ hp
 refine⟨v,I',M',rfl,hp,hr.holds,?_⟩
 exact {
  le:=hr.le0
  newI:=hr.new0
  newM:=fun x hx=>by
   rcases hr.own x hx with h1 | h1
   ·obtain⟨y,hy,e⟩:=List.mem_map.1 h1
    exact .inl ⟨y,hy,e⟩
   ·exact .inr h1
  old:=fun b hb hne=>hr.old b hb (fun hm=>by
   obtain⟨y,hy,e⟩:=List.mem_map.1 hm
   exact hne y hy e)
  out:=hr.out
  sz:=hr.sz }
theorem specE_of_V {P:Program} {E:Env} {f:Nat} {fn:Func} {c:Code} (esc:List Nat) (hE:EOK P E) (hf:P.funcs[f]?=some fn) (hb:fn.body=some c) (hn:(fn.name == "runtime.NumGoroutine")=false)
  {args:List Value} (hok:(codeOk fn.ntmps c && Nat.ble args.length fn.ntmps)=true) {I:GH} {M:List Blk} {post:Value→GH→List Blk→Prop}
  (h:∀ B h0,V ⟨P,E,esc,fn.ntmps,B,h0,I,M.map (·.num),none⟩ c (frOf args) (fun _=>none) I M (retK ⟨P,E,esc,fn.ntmps,B,h0,I,M.map (·.num),none⟩ fn.results.toList post)) :
  SpecE P f args I M post:=
 specE_of_W esc hE hf hb hn hok fun B h0 a w hr=>by
  rw[Bool.and_eq_true] at hok
  exact V_sound hE c hok.1 hr (h B h0)
theorem spec_of_V {P:Program} {E:Env} {f:Nat} {fn:Func} {c:Code} (esc:List Nat) (hE:EOK P E) (hf:P.funcs[f]?=some fn) (hb:fn.body=some c) (hn:(fn.name == "runtime.NumGoroutine")=false)
  {args:List Value} (hok:(codeOk fn.ntmps c && Nat.ble args.length fn.ntmps)=true) {I:GH} {M:List Blk} {post:Value→GH→List Blk→Prop}
  (h:∀ B h0,V ⟨P,E,esc,fn.ntmps,B,h0,I,M.map (·.num),none⟩ c (frOf args) (fun _=>none) I M (retK ⟨P,E,esc,fn.ntmps,B,h0,I,M.map (·.num),none⟩ fn.results.toList post)) :
  Spec P f args I M post:=.inl (specE_of_V esc hE hf hb hn hok h)
def retKF (X:Ctx) (rs:List ResultVar) (post:Value→GH→List Blk→Prop):KX:=fun ex F C I M=>
 let done:Prop:=resV X F C I M rs fun vs=>match vs with
  | [v]=>Fa I M→RetOb X.foot I M (post v)
  | vs=>Fa I M→RetOb X.foot I M (post (.tuple vs.toArray))
 match ex with
 | .normal=>done
 | .ret=>done
 | _=>False
theorem resV_mono {X:Ctx} {F:Fr} {C:Bx} {I:GH} {M:List Blk}:∀ {rs:List ResultVar} {K K':List Value→Prop},(∀ vs,K vs→K' vs)→resV X F C I M rs K→resV X F C I M rs K'
 | [],K,K',h,hv=>h _ hv
 | .tmp t::l,K,K',h,hv=>by
  unfold resV at hv ⊢
  split at hv
  ·exact resV_mono (fun vs=>h _) hv
  ·exact hv.elim
 | .cell t ty::l,K,K',h,hv=>by
  unfold resV at hv ⊢
  split at hv
  ·rename_i s off i h1 hi
   split at hv
   ·rename_i cs hs
    cases hle:Nat.ble (off+i.size) cs.length with
    | false=>rw[hle] at hv;exact hv.elim
    | true=>
     rw[hle] at hv
     exact resV_mono (fun vs=>h _) hv
   ·exact hv.elim
  ·obtain⟨ws,g1,hv⟩:=hv
   exact⟨ws,g1,resV_mono (fun vs=>h _) hv⟩
  ·exact hv.elim
theorem SatX.retF {X:Ctx} {rs:List ResultVar} {post:Value→GH→List Blk→Prop}:∀ e a w,SatX X (retKF X rs post) e a w→SatX X (retK X rs post) e a w:=by
 have one:∀ a w,Sat X (retKF X rs post .ret) a w→Sat X (retK X rs post .ret) a w:=by
  rintro a w ⟨F,C,I,M,⟨β,hr⟩,h⟩
  refine⟨F,C,I,M,⟨β,hr⟩,resV_mono (fun vs hv=>?_) h⟩
  have hfa:Fa I M:=⟨hr.holds.d,hr.holds.nd⟩
  match vs,hv with
  | [v],hv=>exact hv hfa
  | [],hv=>exact hv hfa
  | _::_::_,hv=>exact hv hfa
 intro e a w h
 cases e with
 | normal=>exact one a w h
 | ret=>exact one a w h
 | exit id=>obtain⟨F,C,I,M,hr,hk⟩:=h;exact hk.elim
 | goto l=>obtain⟨F,C,I,M,hr,hk⟩:=h;exact hk.elim
 | panic _=>exact h
 | outgrown=>exact h
theorem specE_of_VF {P:Program} {E:Env} {f:Nat} {fn:Func} {c:Code} (esc:List Nat) (hE:EOK P E) (hf:P.funcs[f]?=some fn) (hb:fn.body=some c) (hn:(fn.name == "runtime.NumGoroutine")=false)
  {args:List Value} (hok:(codeOk fn.ntmps c && Nat.ble args.length fn.ntmps)=true) {I:GH} {M:List Blk} {post:Value→GH→List Blk→Prop}
  (h:∀ B h0,V ⟨P,E,esc,fn.ntmps,B,h0,I,M.map (·.num),none⟩ c (frOf args) (fun _=>none) I M (retKF ⟨P,E,esc,fn.ntmps,B,h0,I,M.map (·.num),none⟩ fn.results.toList post)) :
  SpecE P f args I M post:=
 specE_of_W esc hE hf hb hn hok fun B h0 a w hr=>by
  rw[Bool.and_eq_true] at hok
  exact wpIn_mono (V_sound hE c hok.1 hr (h B h0)) SatX.retF
theorem spec_of_VF {P:Program} {E:Env} {f:Nat} {fn:Func} {c:Code} (esc:List Nat) (hE:EOK P E) (hf:P.funcs[f]?=some fn) (hb:fn.body=some c) (hn:(fn.name == "runtime.NumGoroutine")=false)
  {args:List Value} (hok:(codeOk fn.ntmps c && Nat.ble args.length fn.ntmps)=true) {I:GH} {M:List Blk} {post:Value→GH→List Blk→Prop}
  (h:∀ B h0,V ⟨P,E,esc,fn.ntmps,B,h0,I,M.map (·.num),none⟩ c (frOf args) (fun _=>none) I M (retKF ⟨P,E,esc,fn.ntmps,B,h0,I,M.map (·.num),none⟩ fn.results.toList post)) :
  Spec P f args I M post:=.inl (specE_of_VF esc hE hf hb hn hok h)
def vbeq:Value→Value→Bool
 | .bool a,.bool b=>a == b
 | .int k n,.int k' m=>IntKind.eqb k k' && decide (n=m)
 | .string s,.string t=>decide (s.data.toList=t.data.toList)
 | .pointer none,.pointer none=>true
 | .slice none 0 0,.slice none 0 0=>true
 | .map none,.map none=>true
 | .nilFunc,.nilFunc=>true
 | .nilIface,.nilIface=>true
 | _,_=>false
theorem vbeq_eq:∀ {a b:Value},vbeq a b=true→a=b:=by
 intro a b h
 unfold vbeq at h
 split at h
 ·simp at h;rw[h]
 ·simp only[Bool.and_eq_true,decide_eq_true_eq] at h;rw[IntKind.eqb_eq h.1,h.2]
 ·rename_i s t
  simp only[decide_eq_true_eq] at h
  have:s=t:=by cases s;cases t;simp only[ByteArray.mk.injEq];exact Array.ext' h
  rw[this]
 all_goals first | rfl | cases h
def vbeqL:List Value→List Value→Bool
 | [],[]=>true
 | a::as,b::bs=>vbeq a b && vbeqL as bs
 | _,_=>false
theorem vbeqL_eq:∀ {a b:List Value},vbeqL a b=true→a=b
 | [],[],_=>rfl
 | a::as,b::bs,h=>by
  simp only[vbeqL,Bool.and_eq_true] at h
  rw[vbeq_eq h.1,vbeqL_eq h.2]
 | [],_::_,h=>by cases h
 | _::_,[],h=>by cases h
def tiChk (P:Program) (t:Nat) (i:TI):Bool:=
 (match P.info? t with
 | some inf=>decide (inf.size=i.size) && decide (inf.bytes=i.bytes) && (match inf.zero with
  | some z=>vbeqL z.cells.toList i.zero
  | none=>false)
 | none=>false) &&
 (match P.underlying t with
 | some d=>decide (shOf d=i.sh)
 | none=>false) && allOne i.zero && decide (i.zero.length=i.size) && (i.sh.agg || decide (i.size=1))
theorem tiChk_ok {P:Program} {t:Nat} {i:TI} (h:tiChk P t i=true):TIok P t i:=by
 simp only[tiChk,Bool.and_eq_true] at h
 obtain⟨⟨⟨⟨h1,h2⟩,h3⟩,h4⟩,h5⟩:=h
 refine⟨?_,?_,allOne_spec h3,of_decide_eq_true h4,fun ha=>?_⟩
 ·split at h1
  ·rename_i inf hi
   simp only[Bool.and_eq_true,decide_eq_true_eq] at h1
   obtain⟨⟨e1,e2⟩,e3⟩:=h1
   split at e3
   ·rename_i z hz
    exact⟨inf,z,hi,e1,e2,hz,vbeqL_eq e3⟩
   ·cases e3
  ·cases h1
 ·split at h2
  ·rename_i d hd
   exact⟨d,hd,of_decide_eq_true h2⟩
  ·cases h2
 ·rw[ha] at h5
  simpa using h5
theorem eok_of_chk {P:Program} {E:Env} (n:Nat) (hn:∀ t,n≤t→E t=none) (h:((List.range n).all fun t=>match E t with
  | some i=>tiChk P t i
  | none=>true)=true):EOK P E:=by
 intro t i hi
 by_cases ht:t < n
 ·have:=List.all_eq_true.1 h t (List.mem_range.2 ht)
  rw[hi] at this
  exact tiChk_ok this
 ·rw[hn t (by omega)] at hi
  cases hi
end Go.V
namespace Go.V
theorem aF2 {F:Fr} {a0 a1:Nat}:AtF F [(a0,F a0),(a1,F a1)]:=.cons .refl (.cons .refl (.nil))
theorem aF3 {F:Fr} {a0 a1 a2:Nat}:AtF F [(a0,F a0),(a1,F a1),(a2,F a2)]:=.cons .refl (.cons .refl (.cons .refl (.nil)))
theorem aF4 {F:Fr} {a0 a1 a2 a3:Nat}:AtF F [(a0,F a0),(a1,F a1),(a2,F a2),(a3,F a3)]:=.cons .refl (.cons .refl (.cons .refl (.cons .refl (.nil))))
theorem aF5 {F:Fr} {a0 a1 a2 a3 a4:Nat}:AtF F [(a0,F a0),(a1,F a1),(a2,F a2),(a3,F a3),(a4,F a4)]:=.cons .refl (.cons .refl (.cons .refl (.cons .refl (.cons .refl (.nil)))))
theorem aF6 {F:Fr} {a0 a1 a2 a3 a4 a5:Nat}:AtF F [(a0,F a0),(a1,F a1),(a2,F a2),(a3,F a3),(a4,F a4),(a5,F a5)]:=.cons .refl (.cons .refl (.cons .refl (.cons .refl (.cons .refl (.cons .refl (.nil))))))
theorem aF7 {F:Fr} {a0 a1 a2 a3 a4 a5 a6:Nat}:AtF F [(a0,F a0),(a1,F a1),(a2,F a2),(a3,F a3),(a4,F a4),(a5,F a5),(a6,F a6)]:=.cons .refl (.cons .refl (.cons .refl (.cons .refl (.cons .refl (.cons .refl (.cons .refl (.nil)))))))
theorem aF8 {F:Fr} {a0 a1 a2 a3 a4 a5 a6 a7:Nat}:AtF F [(a0,F a0),(a1,F a1),(a2,F a2),(a3,F a3),(a4,F a4),(a5,F a5),(a6,F a6),(a7,F a7)]:=.cons .refl (.cons .refl (.cons .refl (.cons .refl (.cons .refl (.cons .refl (.cons .refl (.cons .refl (.nil))))))))
theorem aF9 {F:Fr} {a0 a1 a2 a3 a4 a5 a6 a7 a8:Nat}:AtF F [(a0,F a0),(a1,F a1),(a2,F a2),(a3,F a3),(a4,F a4),(a5,F a5),(a6,F a6),(a7,F a7),(a8,F a8)]:=.cons .refl (.cons .refl (.cons .refl (.cons .refl (.cons .refl (.cons .refl (.cons .refl (.cons .refl (.cons .refl (.nil)))))))))
theorem aF10 {F:Fr} {a0 a1 a2 a3 a4 a5 a6 a7 a8 a9:Nat}:AtF F [(a0,F a0),(a1,F a1),(a2,F a2),(a3,F a3),(a4,F a4),(a5,F a5),(a6,F a6),(a7,F a7),(a8,F a8),(a9,F a9)]:=.cons .refl (.cons .refl (.cons .refl (.cons .refl (.cons .refl (.cons .refl (.cons .refl (.cons .refl (.cons .refl (.cons .refl (.nil))))))))))
theorem aF11 {F:Fr} {a0 a1 a2 a3 a4 a5 a6 a7 a8 a9 a10:Nat}:AtF F [(a0,F a0),(a1,F a1),(a2,F a2),(a3,F a3),(a4,F a4),(a5,F a5),(a6,F a6),(a7,F a7),(a8,F a8),(a9,F a9),(a10,F a10)]:=.cons .refl (.cons .refl (.cons .refl (.cons .refl (.cons .refl (.cons .refl (.cons .refl (.cons .refl (.cons .refl (.cons .refl (.cons .refl (.nil)))))))))))
theorem aF12 {F:Fr} {a0 a1 a2 a3 a4 a5 a6 a7 a8 a9 a10 a11:Nat}:AtF F [(a0,F a0),(a1,F a1),(a2,F a2),(a3,F a3),(a4,F a4),(a5,F a5),(a6,F a6),(a7,F a7),(a8,F a8),(a9,F a9),(a10,F a10),(a11,F a11)]:=.cons .refl (.cons .refl (.cons .refl (.cons .refl (.cons .refl (.cons .refl (.cons .refl (.cons .refl (.cons .refl (.cons .refl (.cons .refl (.cons .refl (.nil))))))))))))
theorem aF13 {F:Fr} {a0 a1 a2 a3 a4 a5 a6 a7 a8 a9 a10 a11 a12:Nat}:AtF F [(a0,F a0),(a1,F a1),(a2,F a2),(a3,F a3),(a4,F a4),(a5,F a5),(a6,F a6),(a7,F a7),(a8,F a8),(a9,F a9),(a10,F a10),(a11,F a11),(a12,F a12)]:=.cons .refl (.cons .refl (.cons .refl (.cons .refl (.cons .refl (.cons .refl (.cons .refl (.cons .refl (.cons .refl (.cons .refl (.cons .refl (.cons .refl (.cons .refl (.nil)))))))))))))
theorem aF14 {F:Fr} {a0 a1 a2 a3 a4 a5 a6 a7 a8 a9 a10 a11 a12 a13:Nat}:AtF F [(a0,F a0),(a1,F a1),(a2,F a2),(a3,F a3),(a4,F a4),(a5,F a5),(a6,F a6),(a7,F a7),(a8,F a8),(a9,F a9),(a10,F a10),(a11,F a11),(a12,F a12),(a13,F a13)]:=.cons .refl (.cons .refl (.cons .refl (.cons .refl (.cons .refl (.cons .refl (.cons .refl (.cons .refl (.cons .refl (.cons .refl (.cons .refl (.cons .refl (.cons .refl (.cons .refl (.nil))))))))))))))
theorem aF15 {F:Fr} {a0 a1 a2 a3 a4 a5 a6 a7 a8 a9 a10 a11 a12 a13 a14:Nat}:AtF F [(a0,F a0),(a1,F a1),(a2,F a2),(a3,F a3),(a4,F a4),(a5,F a5),(a6,F a6),(a7,F a7),(a8,F a8),(a9,F a9),(a10,F a10),(a11,F a11),(a12,F a12),(a13,F a13),(a14,F a14)]:=.cons .refl (.cons .refl (.cons .refl (.cons .refl (.cons .refl (.cons .refl (.cons .refl (.cons .refl (.cons .refl (.cons .refl (.cons .refl (.cons .refl (.cons .refl (.cons .refl (.cons .refl (.nil)))))))))))))))
theorem aF16 {F:Fr} {a0 a1 a2 a3 a4 a5 a6 a7 a8 a9 a10 a11 a12 a13 a14 a15:Nat}:AtF F [(a0,F a0),(a1,F a1),(a2,F a2),(a3,F a3),(a4,F a4),(a5,F a5),(a6,F a6),(a7,F a7),(a8,F a8),(a9,F a9),(a10,F a10),(a11,F a11),(a12,F a12),(a13,F a13),(a14,F a14),(a15,F a15)]:=.cons .refl (.cons .refl (.cons .refl (.cons .refl (.cons .refl (.cons .refl (.cons .refl (.cons .refl (.cons .refl (.cons .refl (.cons .refl (.cons .refl (.cons .refl (.cons .refl (.cons .refl (.cons .refl (.nil))))))))))))))))
def isQuiet:Op→Bool
 | .move _ | .assign _ | .pick .. | .unOp .. | .binOp .. | .load .. | .nilCheck _ | .fieldAddr .. | .field .. | .indexAddr .. | .index .. | .build .. | .makeFunc .. | .slice .. | .extract .. | .convert ..=>true
 | .call { callee:=.builtin .len,.. }=>true
 | .call { callee:=.builtin .cap,.. }=>true
 | .call { callee:=.builtin .max,.. }=>true
 | .call { callee:=.builtin .min,.. }=>true
 | .call { callee:=.builtin .unsafeSliceData,.. }=>true
 | _=>false
def isLoad:Op→Bool
 | .load ..=>true
 | _=>false
def dOk (o:Oper) (p:Nat):Bool:=o.after.toList.all fun e=>!Region.binds .any e || p.testBit e.on
def readyK (ops:List Oper) (p:Nat) (k:Bool):List Nat:=(List.range ops.length).filter fun i=>match ops[i]? with
 | some o=>!p.testBit i && ((isQuiet o.op == k) && dOk o p)
 | none=>false
def befStep (acc:List Nat) (o:Oper):Nat:=o.after.toList.foldl (fun s e=>bif Region.binds .any e then s ||| 2 ^ e.on ||| acc.getD e.on 0 else s) 0
def befL (ops:List Oper):List Nat:=ops.foldl (fun acc o=>acc++[befStep acc o]) []
def AllL (P:Nat→Prop):List Nat→Prop
 | []=>True
 | [i]=>P i
 | i::l=>P i∧AllL P l
inductive PCallOb (foot:List Nat) (P:Program) (f:Nat) (args:List Value) (I:GH) (M:List Blk) (K:Value→GH→List Blk→Prop):Prop
 | mk (post:Value→GH→List Blk→Prop) (hs:Spec P f args I [] post)
  (k:∀ v I' M',(∀ b o,I b=some o→I' b=some o)→post v I' M'→K v I' (M'++M))
 | mkR (Mc Mr:List Blk) (post:Value→GH→List Blk→Prop) (hM:M.Perm (Mc++Mr)) (hs:Spec P f args I Mc post) (keep:∀ v I' M',post v I' M'→∀ x∈Mc,x∈M')
  (k:∀ v I' M',(∀ b o,I b=some o→I' b=some o)→post v I' M'→K v I' (M'++Mr))
 | mkD (post:Value→GH→List Blk→Prop) (hs:Spec P f args I [] post)
  (k:∀ v I' M',(∀ b o,I b=some o→I' b=some o)→(∀ x∈M'++M,I' x.num=none)→post v I' M'→K v I' (M'++M))
 | mkRD (Mc Mr:List Blk) (post:Value→GH→List Blk→Prop) (hM:M.Perm (Mc++Mr)) (hs:Spec P f args I Mc post) (keep:∀ v I' M',post v I' M'→∀ x∈Mc,x∈M')
  (k:∀ v I' M',(∀ b o,I b=some o→I' b=some o)→(∀ x∈M'++Mr,I' x.num=none)→post v I' M'→K v I' (M'++Mr))
 | mkP (b:Nat) (o:Obj) (Mc Mr:List Blk) (post:Value→GH→List Blk→Prop) (hM:M.Perm (⟨b,o⟩::(Mc++Mr))) (hf:b ∉ foot) (hs:Spec P f args (ins I b o) Mc post) (keep:∀ v I' M',post v I' M'→∀ x∈Mc,x∈M')
  (k:∀ v I' M',(∀ c p,ins I b o c=some p→I' c=some p)→(∀ x∈M'++Mr,I' x.num=none)→post v I' M'→K v I' (M'++Mr))
 | fa (h:Fa I M→PCallOb foot P f args I M K)
theorem PCallOb.elim {foot:List Nat} {P:Program} {f:Nat} {args:List Value} {I:GH} {M:List Blk} {K:Value→GH→List Blk→Prop} (hfa:Fa I M) (h:PCallOb foot P f args I M K) :
  ∃ (I1:GH) (Mc Mr:List Blk) (post:Value→GH→List Blk→Prop),Wk foot I M I1 (Mc++Mr)∧(∀ b o,I b=some o→I1 b=some o)∧Spec P f args I1 Mc post ∧
   ∀ v I' M',(∀ b o,I1 b=some o→I' b=some o)→(∀ x∈M'++Mr,I' x.num=none)→post v I' M'→(∀ x∈M,I' x.num=some x.obj∨x∈M'++Mr)∧K v I' (M'++Mr):=by
 have keepR:∀ {Mc Mr:List Blk} {post:Value→GH→List Blk→Prop} {I':GH},M.Perm (Mc++Mr)→(∀ v I' M',post v I' M'→∀ x∈Mc,x∈M')→∀ v M',post v I' M'→∀ x∈M,I' x.num=some x.obj∨x∈M'++Mr:=fun hM keep v M' h2 x hx=>by
  right
  rcases List.mem_append.1 (hM.mem_iff.1 hx) with hx | hx
  ·exact List.mem_append.2 (.inl (keep v _ M' h2 x hx))
  ·exact List.mem_append.2 (.inr hx)
 induction h with
 | mk post hs k=>exact⟨I,[],M,post,.refl,fun _ _ h=>h,hs,fun v I' M' h1 _ h2=>⟨fun x hx=>.inr (by simp[hx]),k v I' M' h1 h2⟩⟩
 | mkR Mc Mr post hM hs keep k=>exact⟨I,Mc,Mr,post,.perm hM .refl,fun _ _ h=>h,hs,fun v I' M' h1 _ h2=>⟨keepR hM keep v M' h2,k v I' M' h1 h2⟩⟩
 | mkD post hs k=>exact⟨I,[],M,post,.refl,fun _ _ h=>h,hs,fun v I' M' h1 h3 h2=>⟨fun x hx=>.inr (by simp[hx]),k v I' M' h1 h3 h2⟩⟩
 | mkRD Mc Mr post hM hs keep k=>exact⟨I,Mc,Mr,post,.perm hM .refl,fun _ _ h=>h,hs,fun v I' M' h1 h3 h2=>⟨keepR hM keep v M' h2,k v I' M' h1 h3 h2⟩⟩
 | mkP b o Mc Mr post hM hf hs keep k=>
  have hb:I b=none:=hfa.d ⟨b,o⟩ (hM.mem_iff.2 (.head _))
  have hself:ins I b o b=some o:=by unfold ins;rw[beq_self'];rfl
  refine⟨ins I b o,Mc,Mr,post,.perm hM (.prom rfl hf .refl),fun c p hc=>?_,hs,fun v I' M' h1 h3 h2=>⟨fun x hx=>?_,k v I' M' h1 h3 h2⟩⟩
  ·unfold ins
   by_cases e:c=b
   ·subst e;rw[hb] at hc;cases hc
   ·rw[beq_ne e];exact hc
  ·rcases List.mem_cons.1 (hM.mem_iff.1 hx) with rfl | hx
   ·exact .inl (h1 _ _ hself)
   ·right
    rcases List.mem_append.1 hx with hx | hx
    ·exact List.mem_append.2 (.inl (keep v I' M' h2 x hx))
    ·exact List.mem_append.2 (.inr hx)
 | fa h ih=>exact ih hfa
def Vg (ops:List Oper) (o:Oper) (F:Fr) (run skip:Fr→Prop):Prop:=
 match o.guard with
 | none=>run F
 | some (j,b)=>
  match (ops[j]?).bind (·.dst) with
  | none=>False
  | some d=>
   match F d with
   | .lit c=>bif c == b then run F else skip F
   | .val (.bool c)=>GuardOb c b (run (upd F d (.lit b))) (skip (upd F d (.lit !b)))
   | .val (.tuple _)=>skip F
   | _=>False
def soloB (bef p:Nat):Bool:=Nat.beq (p &&& bef) p
def softB (ops:List Oper) (bef p:Nat):Bool:=(List.range ops.length).all fun q=>!p.testBit q || (bef.testBit q || match ops[q]? with
 | some o=>!isLoad o.op
 | none=>true)
inductive DrawOb (X:Ctx) (o:Oper) (F:Fr) (C:Bx) (I:GH) (M:List Blk) (K:SV→GH→List Blk→Prop):Prop
 | mk (h:∀ β a w Q,RelB X β a w F C I M→o.wpIn (fen X) 0 X.P a w (fun a' w'=>∃ v x I' M',a'=a.put o.dst v∧SVok β x v∧RelB X β a w' F C I' M'∧K x I' M'∧I'=I) Q)
def V_de (X:Ctx) (solo soft:Bool) (o:Oper) (F:Fr) (C:Bx) (I:GH) (M:List Blk) (K:KS):Prop:=
 bif solo then V_op X o F C I M K else
 match o.op with
 | .call { callee:=.value f,args,.. }=>
  match ev F f,evs F args.toList with
  | .val (.func (.func g) first cap),some vs=>PCallOb X.foot X.P g (first.toList++vs++cap.toList) I M fun v I' M'=>K (put o.dst (.val v) F) C I' M'
  | _,_=>False
 | .alloc t=>
  match o.dst,X.E t with
  | some d,some i=>AllocOb I M fun b=>K (upd F d (.val (.pointer (some ⟨b,0,none⟩)))) C I (⟨b,.cells i.zero.toArray t (0,0)⟩::M)
  | _,_=>False
 | .buildSlice _ _ _=>V_op X o F C I M K
 | .makeSlice _ _ _=>V_op X o F C I M K
 | .store _ _ _=>bif soft then V_op X o F C I M K else False
 | .call { callee:=.builtin .append,.. }=>bif soft then ∀ G:Fr,(∀ y∈o.op.operands,evr G y=evr F y)→DrawOb X o G C I M fun x I' M'=>K (put o.dst x F) C I' M' else False
 | .call { callee:=.builtin .copy,.. }=>bif soft then ∀ G:Fr,(∀ y∈o.op.operands,evr G y=evr F y)→DrawOb X o G C I M fun x I' M'=>K (put o.dst x F) C I' M' else False
 | _=>False
def spotS:SV→Nat
 | .ref s _=>s+1
 | _=>0
def bxAdd (i:Nat) (op:Op) (ρ:Operand→SV) (bx:List (Nat×Nat)):List (Nat×Nat):=match op with
 | .load _ x=>(i,spotS (ρ x))::bx
 | _=>bx
def bxNo (bef s:Nat):List (Nat×Nat)→Bool
 | []=>true
 |(i,t)::bx=>(bef.testBit i || !Nat.beq s t) && bxNo bef s bx
theorem bxNo_mem {bef s i t:Nat}:∀ {bx:List (Nat×Nat)},bxNo bef s bx=true→(i,t)∈bx→bef.testBit i=true∨t≠s
 |(j,u)::bx,h,hm=>by
  unfold bxNo at h
  rw[Bool.and_eq_true,Bool.or_eq_true] at h
  rcases List.mem_cons.1 hm with e | hm
  ·cases e
   rcases h.1 with h1 | h1
   ·exact .inl h1
   ·right
    rintro rfl
    simp at h1
  ·exact bxNo_mem h.2 hm
def farB (bef:Nat) (op:Op) (ρ:Operand→SV) (bx:List (Nat×Nat)):Bool:=match op with
 | .store _ x _=>(match ρ x with
  | .val (.pointer (some _))=>bxNo bef 0 bx
  | _=>false)
 | _=>false
def boxB (bef:Nat) (op:Op) (ρ:Operand→SV) (bx:List (Nat×Nat)):Bool:=match op with
 | .store _ x _=>(match ρ x with
  | .ref s _=>bxNo bef (s+1) bx
  | _=>false)
 | _=>false
def mm (im:Bool) (M:List Blk):List Blk:=bif im then [] else M
theorem mm_kn {im:Bool} {I:GH} {M:List Blk} {b:Nat} {o:Obj} (h:Kn I (mm im M) b o):Kn I M b o:=by
 cases im with
 | false=>exact h
 | true=>
  rcases h with h | ⟨x,hx,_⟩
  ·exact .inl h
  ·cases hx
theorem mm_le {im:Bool} {I I':GH} {M M':List Blk} (h:∀ b o,Kn I M b o→Kn I' M' b o) (h':∀ b o,I b=some o→I' b=some o):∀ b o,Kn I (mm im M) b o→Kn I' (mm im M') b o:=fun b o hb=>by
 cases im with
 | false=>exact h b o hb
 | true=>
  rcases hb with hb | ⟨x,hx,_⟩
  ·exact .inl (h' _ _ hb)
  ·cases hx
theorem mm_le' {I I':GH} {M M':List Blk} (h':∀ b o,I b=some o→I' b=some o):∀ b o,Kn I (mm true M) b o→Kn I' (mm true M') b o:=fun b o hb=>by
 rcases hb with hb | ⟨x,hx,_⟩
 ·exact .inl (h' _ _ hb)
 ·cases hx
def V_qi (X:Ctx) (im:Bool) (op:Op) (ρ:Operand→SV) (C:Bx) (I:GH) (M:List Blk) (V:SV→Prop) (other:Prop):Prop:=match im with
 | false=>V_q X op ρ C I M V other
 | true=>V_q X op ρ C I [] V other
theorem V_qi_eq {X:Ctx} {im:Bool} {op:Op} {ρ:Operand→SV} {C:Bx} {I:GH} {M:List Blk} {V:SV→Prop} {other:Prop} (h:V_qi X im op ρ C I M V other):V_q X op ρ C I (mm im M) V other:=by
 cases im with
 | false=>exact h
 | true=>exact h
def imB (ops:List Oper) (im:Nat→Bool) (bef p:Nat):Bool:=(List.range ops.length).all fun q=>!p.testBit q || (bef.testBit q || (im q || match ops[q]? with
 | some o=>!isLoad o.op
 | none=>true))
def ptrO (op:Op) (ρ:Operand→SV):Bool:=match op with
 | .store _ x _=>(match ρ x with
  | .val (.pointer (some _))=>true
  | _=>false)
 | .call { callee:=.builtin .append,.. }=>true
 | .call { callee:=.builtin .copy,.. }=>true
 | _=>false
def ptrB (ops:List Oper) (im:Nat→Bool) (bef p:Nat) (op:Op) (ρ:Operand→SV):Bool:=imB ops im bef p && ptrO op ρ
def Vd (X:Ctx) (ops:List Oper) (im:Nat→Bool):Nat→Nat→List (Nat×Nat)→Fr→Bx→GH→List Blk→KS→Prop
 | 0,_,_,_,_,_,_,_=>False
 | n+1,p,bx,F,C,I,M,K=>
  match readyK ops p true with
  | i::_=>
   (match ops[i]? with
   | some o=>Vg ops o F
     (fun F=>V_qi X (im i) o.op (evr F) C I M (fun x=>Vd X ops im n (p ||| 2 ^ i) (bxAdd i o.op (evr F) bx) (put o.dst x F) C I M K) False)
     (fun F=>Vd X ops im n (p ||| 2 ^ i) bx (put o.dst (.val undef) F) C I M K)
   | none=>False)
  | []=>
   match readyK ops p false with
   | []=>K F C I M
   | i0::l0=>AllL (fun i=>match ops[i]? with
     | some o=>Vg ops o F
      (fun F=>V_de X (soloB ((befL ops).getD i 0) p) (softB ops ((befL ops).getD i 0) p || (boxB ((befL ops).getD i 0) o.op (evr F) bx || (farB ((befL ops).getD i 0) o.op (evr F) bx || ptrB ops im ((befL ops).getD i 0) p o.op (evr F)))) o F C I M fun F C I M=>Vd X ops im n (p ||| 2 ^ i) bx F C I M K)
      (fun F=>Vd X ops im n (p ||| 2 ^ i) bx (put o.dst (.val undef) F) C I M K)
     | none=>False) (i0::l0)
def looks (ops:List Oper) (o:Oper):List Nat:=o.looksAt ops.toArray
def drawChk (ops:List Oper):Bool:=
 let b:=befL ops
 (List.range ops.length).all fun j=>match ops[j]? with
  | none=>true
  | some oj=>
   (oj.after.toList.all fun e=>!Region.binds .any e || Nat.blt e.on j) &&
   ((match oj.dst with
    | some d=>!(looks ops oj).contains d
    | none=>true) &&
   ((List.range ops.length).all (fun i=>Nat.beq i j || match ops[i]? with
    | none=>true
    | some oi=>match oi.dst with
     | none=>true
     | some d=>!(oj.dst == some d) && (!(looks ops oj).contains d || ((b.getD j 0).testBit i || (b.getD i 0).testBit j)))))
def Dep (ops:List Oper) (j e:Nat):Prop:=∃ o ed,ops[j]?=some o∧ed∈o.after∧Region.binds .any ed=true∧ed.on=e
inductive Bef (ops:List Oper):Nat→Nat→Prop
 | one {i j} (h:Dep ops j i):Bef ops i j
 | trans {i j k} (h:Dep ops j k) (h':Bef ops i k):Bef ops i j
def Closed (ops:List Oper) (S:Nat→Prop):Prop:=∀ j e,S j→Dep ops j e→S e
theorem Bef.mem {ops:List Oper} {S:Nat→Prop} (hS:Closed ops S) {i j:Nat} (h:Bef ops i j) (hj:∀ e,Dep ops j e→S e):S i:=by
 induction h with
 | one h=>exact hj _ h
 | trans h _ ih=>exact ih fun e he=>hS _ e (hj _ h) he
theorem befStep_mem {acc:List Nat} {o:Oper} {i:Nat} (h:(befStep acc o).testBit i=true):∃ e∈o.after,Region.binds .any e=true∧(e.on=i∨(acc.getD e.on 0).testBit i=true):=by
 have key:∀ (l:List Edge) (s:Nat),(l.foldl (fun s e=>bif Region.binds .any e then s ||| 2 ^ e.on ||| acc.getD e.on 0 else s) s).testBit i=true→s.testBit i=true∨∃ e∈l,Region.binds .any e=true∧(e.on=i∨(acc.getD e.on 0).testBit i=true):=by
  intro l
  induction l with
  | nil=>intro s h;exact .inl h
  | cons e l ih=>
   intro s h
   simp only[List.foldl_cons] at h
   rcases ih _ h with h1 | ⟨e',he',h2⟩
   ·cases hb:Region.binds .any e with
    | false=>rw[hb] at h1;exact .inl h1
    | true=>
     rw[hb] at h1
     simp only[cond_true,Nat.testBit_or,Bool.or_eq_true,Nat.testBit_two_pow,decide_eq_true_eq] at h1
     rcases h1 with (h1 | h1) | h1
     ·exact .inl h1
     ·exact .inr ⟨e,by simp,hb,.inl h1⟩
     ·exact .inr ⟨e,by simp,hb,.inr h1⟩
   ·exact .inr ⟨e',by simp[he'],h2⟩
 rcases key _ 0 h with h1 | ⟨e,he,h2⟩
 ·simp at h1
 ·exact⟨e,by simpa using he,h2⟩
theorem befL_ok (ops:List Oper):∀ (l:List Oper) (pre:List Oper) (acc:List Nat),ops=pre++l→acc.length=pre.length→(∀ j i,(acc.getD j 0).testBit i=true→Bef ops i j) →
  ∀ j i,((l.foldl (fun acc o=>acc++[befStep acc o]) acc).getD j 0).testBit i=true→Bef ops i j
 | [],pre,acc,_,_,hacc=>hacc
 | o::l,pre,acc,hops,hlen,hacc=>by
  simp only[List.foldl_cons]
  refine befL_ok ops l (pre++[o]) _ (by simp[hops]) (by simp[hlen]) ?_
  intro j i h
  by_cases hj:j < acc.length
  ·exact hacc j i (by simpa[List.getD_eq_getElem?_getD,List.getElem?_append_left hj] using h)
  ·by_cases hj':j=acc.length
   ·subst hj'
    have h':(befStep acc o).testBit i=true:=by simpa[List.getD_eq_getElem?_getD] using h
    obtain⟨e,he,hb,h2⟩:=befStep_mem h'
    have ho:ops[acc.length]?=some o:=by rw[hops,hlen];simp
    have hdep:Dep ops acc.length e.on:=⟨o,e,ho,he,hb,rfl⟩
    rcases h2 with rfl | h2
    ·exact .one hdep
    ·exact .trans hdep (hacc _ _ h2)
   ·have:(acc++[befStep acc o]).getD j 0=0:=by
     rw[List.getD_eq_getElem?_getD,List.getElem?_eq_none (by simp;omega)]
     rfl
    rw[this] at h
    simp at h
theorem bef_of_bit {ops:List Oper} {j i:Nat} (h:((befL ops).getD j 0).testBit i=true):Bef ops i j:=
 befL_ok ops ops [] [] rfl rfl (fun j i h=>by simp at h) j i h
section
variable {X:Ctx} {C C':Bx} {I I':GH} {M M':List Blk}
theorem evqs_congr {ρ ρ':Operand→SV}:∀ {xs:List Operand},(∀ y∈xs,ρ' y=ρ y)→evqs ρ' xs=evqs ρ xs
 | [],_=>rfl
 | x::xs,h=>by
  have h1:=h x (by simp)
  have h2:=evqs_congr (xs:=xs) fun y hy=>h y (by simp[hy])
  simp only[evqs,evq,h1,h2]
theorem evqParts_congr {ρ ρ':Operand→SV}:∀ {xs:List (Nat×Operand)},(∀ y∈xs.map (·.2),ρ' y=ρ y)→evqParts ρ' xs=evqParts ρ xs
 | [],_=>rfl
 |(i,x)::xs,h=>by
  have h1:=h x (by simp)
  have h2:=evqParts_congr (xs:=xs) fun y hy=>h y (by simp only[List.map_cons,List.mem_cons];exact .inr hy)
  simp only[evqParts,evq,h1,h2]
theorem V_q_mono {op:Op} {ρ ρ':Operand→SV} {V:SV→Prop} (h:V_q X op ρ C I M V False) (hρ:∀ y∈op.operands,ρ' y=ρ y)
  (hl:∀ t x,op=.load t x→(∀ s off,ρ x=.ref s off→C' s=C s)∧((∀ s off,ρ x≠.ref s off)→∀ b o,Kn I M b o→Kn I' M' b o)):V_q X op ρ' C' I' M' V False:=by
 cases op
 case load t x=>
  obtain⟨hc,hk⟩:=hl t x rfl
  have h1:=hρ x (by simp[Op.operands])
  simp only[V_q,h1] at h ⊢
  cases hE:X.E t with
  | none=>rw[hE] at h;exact h.elim
  | some i=>
   rw[hE] at h
   try simp only at h ⊢
   cases hx:ρ x with
   | ref s off=>
    rw[hx] at h
    try simp only at h ⊢
    rw[hc s off hx]
    exact h
   | val v=>
    rw[hx] at h
    try simp only at h ⊢
    split at h
    ·rename_i e
     cases e
    ·rename_i a e
     cases e
     obtain⟨vs,⟨h2,cs,T,fr,h3,h4⟩,h5⟩:=h
     exact⟨vs,⟨h2,cs,T,fr,hk (fun s off e=>by rw[hx] at e;cases e) _ _ h3,h4⟩,h5⟩
    ·exact h.elim
   | lit b=>rw[hx] at h;exact h.elim
   | junk=>rw[hx] at h;exact h.elim
 case build t ps=>
  have h1:=evqParts_congr (ρ:=ρ) (ρ':=ρ') (xs:=ps.toList) fun y hy=>hρ y (by simpa[Op.operands] using hy)
  simp only[V_q,h1] at h ⊢
  exact h
 case makeFunc fn first captured=>
  have h1:=evqs_congr (ρ:=ρ) (ρ':=ρ') (xs:=first.toList) fun y hy=>hρ y (by simp only[Op.operands,Array.mem_append];exact .inl (by simpa using hy))
  have h2:=evqs_congr (ρ:=ρ) (ρ':=ρ') (xs:=captured.toList) fun y hy=>hρ y (by simp only[Op.operands,Array.mem_append];exact .inr (by simpa using hy))
  simp only[V_q,h1,h2] at h ⊢
  exact h
 case slice t x lo hi mx=>
  have h1:=hρ x (by simp[Op.operands])
  have h2:lo.map (evq ρ')=lo.map (evq ρ):=by
   cases lo with
   | none=>rfl
   | some y=>have:=hρ y (by simp[Op.operands]);simp[evq,this]
  have h3:hi.map (evq ρ')=hi.map (evq ρ):=by
   cases hi with
   | none=>rfl
   | some y=>have:=hρ y (by simp[Op.operands]);simp[evq,this]
  simp only[V_q,h2,h3,evq,h1] at h ⊢
  exact h
 case call c=>
  obtain⟨callee,args,argTypes⟩:=c
  cases callee with
  | value f=>exact h
  | invoke r m=>exact h
  | builtin b=>
   cases b
   case len=>
    have h1:=evqs_congr (ρ:=ρ) (ρ':=ρ') (xs:=args.toList) fun y hy=>hρ y (by simp[Op.operands,Call.operands];simpa using hy)
    simp only[V_q,h1] at h ⊢
    exact h
   case cap=>
    have h1:=evqs_congr (ρ:=ρ) (ρ':=ρ') (xs:=args.toList) fun y hy=>hρ y (by simp[Op.operands,Call.operands];simpa using hy)
    simp only[V_q,h1] at h ⊢
    exact h
   case max=>
    have h1:=evqs_congr (ρ:=ρ) (ρ':=ρ') (xs:=args.toList) fun y hy=>hρ y (by simp[Op.operands,Call.operands];simpa using hy)
    simp only[V_q,h1] at h ⊢
    exact h
   case min=>
    have h1:=evqs_congr (ρ:=ρ) (ρ':=ρ') (xs:=args.toList) fun y hy=>hρ y (by simp[Op.operands,Call.operands];simpa using hy)
    simp only[V_q,h1] at h ⊢
    exact h
   case unsafeSliceData=>
    have h1:=evqs_congr (ρ:=ρ) (ρ':=ρ') (xs:=args.toList) fun y hy=>hρ y (by simp[Op.operands,Call.operands];simpa using hy)
    simp only[V_q,h1] at h ⊢
    exact h
   all_goals exact h
 all_goals first
  | exact h
  |(rename_i x;have h1:=hρ x (by simp[Op.operands]);simp only[V_q,evq,h1] at h ⊢;exact h)
  |(rename_i x y;have h1:=hρ x (by simp[Op.operands]);have h2:=hρ y (by simp[Op.operands]);simp only[V_q,evq,h1,h2] at h ⊢;exact h)
  |(rename_i x y z;have h1:=hρ x (by simp[Op.operands]);have h2:=hρ y (by simp[Op.operands]);have h3:=hρ z (by simp[Op.operands]);simp only[V_q,evq,h1,h2,h3] at h ⊢;exact h)
  |(rename_i x y;have h1:=hρ x (by simp[Op.operands]);simp only[V_q,evq,h1] at h ⊢;exact h)
  |(rename_i x y;have h1:=hρ y (by simp[Op.operands]);simp only[V_q,evq,h1] at h ⊢;exact h)
  |(rename_i x y z;have h1:=hρ x (by simp[Op.operands]);have h2:=hρ y (by simp[Op.operands]);simp only[V_q,evq,h1,h2] at h ⊢;exact h)
  |(rename_i x y z;have h1:=hρ y (by simp[Op.operands]);have h2:=hρ z (by simp[Op.operands]);simp only[V_q,evq,h1,h2] at h ⊢;exact h)
  |(rename_i o x y z u;have h1:=hρ y (by simp[Op.operands]);have h2:=hρ z (by simp[Op.operands]);simp only[V_q,evq,h1,h2] at h ⊢;exact h)
  |(rename_i x y z u;have h1:=hρ z (by simp[Op.operands]);have h2:=hρ y (by simp[Op.operands]);simp only[V_q,evq,h1,h2] at h ⊢;exact h)
end
section
variable {X:Ctx} {C:Bx} {I:GH} {M:List Blk}
theorem V_bin_pull {op:BinOp} {ti:Option TI} {x y:SV} {V:Value→Prop} {O:Prop} (h:V_bin op ti x y V O) :
  (∃ r,V r∧∀ O',V_bin op ti x y (fun z=>z=r) O')∨(O∧∀ (V':Value→Prop) (O':Prop),O'→V_bin op ti x y V' O'):=by
 unfold V_bin at h
 split at h
 ·left
  split at h
  ·obtain⟨j,hj,⟨r,hr,hk⟩⟩:=h
   exact⟨_,hk,fun O'=>by unfold V_bin;exact⟨j,hj,⟨r,hr,rfl⟩⟩⟩
  ·obtain⟨j,hj,hk⟩:=h
   exact⟨_,hk,fun O'=>by unfold V_bin;exact⟨j,hj,rfl⟩⟩
  ·rename_i _ _ k a k' b _ hs1 hs2
   cases hkk:IntKind.eqb k k' with
   | false=>rw[hkk] at h;exact h.elim
   | true=>
    rw[hkk] at h
    simp only[cond_true] at h
    cases op<;>simp only at h
    case add=>obtain⟨r,hr,hk⟩:=h;exact⟨_,hk,fun O'=>by simp only[V_bin,hkk,cond_true];exact⟨r,hr,rfl⟩⟩
    case sub=>obtain⟨r,hr,hk⟩:=h;exact⟨_,hk,fun O'=>by simp only[V_bin,hkk,cond_true];exact⟨r,hr,rfl⟩⟩
    case mul=>obtain⟨r,hr,hk⟩:=h;exact⟨_,hk,fun O'=>by simp only[V_bin,hkk,cond_true];exact⟨r,hr,rfl⟩⟩
    case quo=>obtain⟨h0,⟨r,hr,hk⟩⟩:=h;exact⟨_,hk,fun O'=>by simp only[V_bin,hkk,cond_true];exact⟨h0,⟨r,hr,rfl⟩⟩⟩
    case rem=>obtain⟨h0,hk⟩:=h;exact⟨_,hk,fun O'=>by simp only[V_bin,hkk,cond_true];first | exact⟨h0,rfl⟩ | exact⟨h0,trivial⟩⟩
    case shl=>exact(hs1 rfl).elim
    case shr=>exact(hs2 rfl).elim
    all_goals exact⟨_,h,fun O'=>by simp only[V_bin,hkk,cond_true];rfl⟩
 ·cases op<;>first
  | exact .inl ⟨_,h,fun _=>rfl⟩
  | exact .inr ⟨h,fun _ _ ho=>ho⟩
 ·split at h
  ·cases op<;>first
   | exact .inl ⟨_,h,fun _=>rfl⟩
   | exact .inr ⟨h,fun _ _ ho=>ho⟩
  ·rename_i hn
   refine .inr ⟨h,fun V' O' ho=>?_⟩
   cases ti with
   | none=>exact ho
   | some i=>
    obtain⟨s,b,z,sh⟩:=i
    cases sh<;>first
     | exact ho
     | exact(hn _ _ _ rfl).elim
 ·rename_i h1 h2 h3
  refine .inr ⟨h,fun V' O' ho=>?_⟩
  unfold V_bin
  split<;>first
   | exact ho
   | exact(h1 _ _ _ _ rfl rfl).elim
   | exact(h2 _ _ rfl rfl).elim
   | exact(h3 _ _ rfl rfl).elim
theorem V_q_pull {op:Op} {ρ:Operand→SV} {V:SV→Prop} (h:V_q X op ρ C I M V False):∃ x,V x∧V_q X op ρ C I M (fun y=>y=x) False:=by
 cases op
 case move x=>exact⟨_,h,rfl⟩
 case assign x=>exact⟨_,h,rfl⟩
 case pick c p q=>
  simp only[V_q] at h ⊢
  split at h
  ·exact⟨_,h,rfl⟩
  ·exact⟨_,h,rfl⟩
  ·exact h.elim
 case unOp op t x=>
  simp only[V_q] at h ⊢
  split at h
  ·exact⟨_,h,rfl⟩
  ·exact⟨_,h,rfl⟩
  ·obtain⟨r,hr,hk⟩:=h;exact⟨_,hk,⟨r,hr,rfl⟩⟩
  ·exact h.elim
 case binOp op t x y ty=>
  simp only[V_q] at h ⊢
  rcases V_bin_pull h with ⟨r,h1,h2⟩ | ⟨⟨p',q',r,hp,hq,hr,hk⟩ | h1,h2⟩
  ·refine⟨_,h1,?_⟩
   have:(fun v=>SV.val v=SV.val r)=(fun z=>z=r):=by funext v;simp
   rw[this]
   exact h2 _
  ·exact⟨_,hk,h2 _ _ (.mk p' q' r hp hq hr rfl)⟩
  ·exact h1.elim
 case load t x=>
  simp only[V_q] at h ⊢
  split at h
  ·split at h
   ·split at h
    ·rename_i i hi _ s off hs _ cs hc
     cases hle:Nat.ble (off+i.size) cs.length with
     | false=>rw[hle] at h;exact h.elim
     | true=>rw[hle] at h;exact⟨_,h,rfl⟩
    ·exact h.elim
   ·obtain⟨vs,hr,hk⟩:=h;exact⟨_,hk,⟨vs,hr,rfl⟩⟩
   ·exact h.elim
  ·exact h.elim
 case nilCheck x=>
  simp only[V_q] at h ⊢
  split at h
  ·exact⟨_,h,rfl⟩
  ·exact⟨_,h,rfl⟩
  ·exact h.elim
 case fieldAddr t x i=>
  simp only[V_q] at h ⊢
  split at h
  ·split at h
   ·split at h
    ·rename_i fi s o' hfi hx
     cases hz:Nat.beq fi.size 0 with
     | true=>rw[hz] at h;exact h.elim
     | false=>rw[hz] at h;exact⟨_,h,rfl⟩
    ·rename_i fi s hfi hx
     cases hz:Nat.beq fi.size 0 with
     | true=>rw[hz] at h;exact h.elim
     | false=>rw[hz] at h;exact⟨_,h,rfl⟩
    ·exact h.elim
   ·exact h.elim
  ·exact h.elim
 case field t x i=>
  simp only[V_q] at h ⊢
  split at h
  ·split at h
   ·split at h
    ·rename_i sz by' z fs cs ht hx _ ft off hfs _ fi hfi
     cases hle:Nat.ble (off+fi.size) cs.size with
     | false=>rw[hle] at h;exact h.elim
     | true=>rw[hle] at h;exact⟨_,h,rfl⟩
    ·exact h.elim
   ·exact h.elim
  ·exact h.elim
 case indexAddr t x i=>
  simp only[V_q] at h ⊢
  split at h
  ·split at h
   ·obtain⟨ad,j,h1,h2,h3,hk⟩:=h;exact⟨_,hk,⟨ad,j,h1,h2,h3,rfl⟩⟩
   ·exact h.elim
  ·split at h
   ·obtain⟨j,h2,h3,hk⟩:=h;exact⟨_,hk,⟨j,h2,h3,rfl⟩⟩
   ·obtain⟨j,h2,h3,hk⟩:=h;exact⟨_,hk,⟨j,h2,h3,rfl⟩⟩
   ·exact h.elim
  ·exact h.elim
 case index t x i=>
  simp only[V_q] at h ⊢
  split at h
  ·obtain⟨j,h2,h3,hk⟩:=h;exact⟨_,hk,⟨j,h2,h3,rfl⟩⟩
  ·split at h
   ·rename_i n e cs kk k ht hx hi _ ei hei
    cases hz:Nat.beq (n * ei.size) cs.size with
    | false=>rw[hz] at h;exact h.elim
    | true=>rw[hz] at h;obtain⟨j,h2,h3,hk⟩:=h;exact⟨_,hk,⟨j,h2,h3,rfl⟩⟩
   ·exact h.elim
  ·exact h.elim
 case build t ps=>
  simp only[V_q] at h ⊢
  split at h
  ·split at h
   ·rename_i i vs ht hvs _ fs hsh
    cases hp:placesOk X.E fs with
    | false=>rw[hp] at h;exact h.elim
    | true=>
     rw[hp] at h
     simp only[cond_true] at h ⊢
     split at h
     ·exact⟨_,h,rfl⟩
     ·exact h.elim
   ·split at h
    ·split at h
     ·exact⟨_,h,rfl⟩
     ·exact h.elim
    ·exact h.elim
   ·exact h.elim
  ·exact h.elim
 case makeFunc fn first captured=>
  simp only[V_q] at h ⊢
  split at h
  ·exact⟨_,h,rfl⟩
  ·exact h.elim
 case slice t x lo hi mx=>
  simp only[V_q] at h ⊢
  split at h
  ·split at h
   ·exact⟨_,h,rfl⟩
   ·obtain⟨l,m,h1,h2,h3,h4,hk⟩:=h;exact⟨_,hk,⟨l,m,h1,h2,h3,h4,rfl⟩⟩
   ·obtain⟨l,m,h1,h2,h3,h4,hk⟩:=h;exact⟨_,hk,⟨l,m,h1,h2,h3,h4,rfl⟩⟩
   ·obtain⟨l,m,h1,h2,h3,h4,hk⟩:=h;exact⟨_,hk,⟨l,m,h1,h2,h3,h4,rfl⟩⟩
   ·exact h.elim
  ·split at h
   ·exact⟨_,h,rfl⟩
   ·obtain⟨l,m,h1,h2,h3,h4,hk⟩:=h;exact⟨_,hk,⟨l,m,h1,h2,h3,h4,rfl⟩⟩
   ·obtain⟨l,m,h1,h2,h3,h4,hk⟩:=h;exact⟨_,hk,⟨l,m,h1,h2,h3,h4,rfl⟩⟩
   ·obtain⟨l,m,h1,h2,h3,h4,hk⟩:=h;exact⟨_,hk,⟨l,m,h1,h2,h3,h4,rfl⟩⟩
   ·exact h.elim
  ·exact h.elim
 case extract x i=>
  simp only[V_q] at h ⊢
  split at h
  ·split at h
   ·exact⟨_,h,rfl⟩
   ·exact h.elim
  ·exact h.elim
 case convert s d x=>
  simp only[V_q] at h ⊢
  split at h
  ·obtain⟨r,hr,hk⟩:=h;exact⟨_,hk,⟨r,hr,rfl⟩⟩
  ·exact h.elim
 case call c=>
  obtain⟨callee,args,argTypes⟩:=c
  cases callee with
  | value f=>exact h.elim
  | invoke r m=>exact h.elim
  | builtin b=>
   cases b
   case len=>
    simp only[V_q] at h ⊢
    split at h
    ·split at h
     ·exact⟨_,h,rfl⟩
     ·exact⟨_,h,rfl⟩
     ·exact⟨_,h,rfl⟩
     ·exact h.elim
    ·exact h.elim
   case cap=>
    simp only[V_q] at h ⊢
    split at h
    ·split at h
     ·exact⟨_,h,rfl⟩
     ·exact h.elim
    ·exact h.elim
   case max=>
    simp only[V_q] at h ⊢
    split at h
    ·exact⟨_,h,rfl⟩
    ·exact h.elim
   case min=>
    simp only[V_q] at h ⊢
    split at h
    ·exact⟨_,h,rfl⟩
    ·exact h.elim
   case unsafeSliceData=>
    simp only[V_q] at h ⊢
    split at h
    ·exact⟨_,h,rfl⟩
    ·obtain⟨h1,h2⟩:=h
     exact⟨_,h2,⟨h1,rfl⟩⟩
    ·exact h.elim
   all_goals exact h.elim
 all_goals exact h.elim
end
theorem Kn.mono {I I':GH} {M M':List Blk} {b:Nat} {o:Obj} (h:Kn I M b o) (hI:∀ b o,I b=some o→I' b=some o) (hM:∀ x∈M,x∈M'):Kn I' M' b o:=by
 rcases h with h | ⟨x,hx,h1,h2⟩
 ·exact .inl (hI _ _ h)
 ·exact .inr ⟨x,hM x hx,h1,h2⟩
theorem Kn.move {I I':GH} {M M':List Blk} {b:Nat} {o:Obj} (h:Kn I M b o) (hI:∀ b o,I b=some o→I' b=some o) (hM:∀ x∈M,I' x.num=some x.obj∨x∈M'):Kn I' M' b o:=by
 rcases h with h | ⟨x,hx,rfl,rfl⟩
 ·exact .inl (hI _ _ h)
 ·rcases hM x hx with h | h
  ·exact .inl h
  ·exact .inr ⟨x,h,rfl,rfl⟩
def StKeep (F:Fr) (op:Op) (C C':Bx) (I I':GH) (M M':List Blk):Prop:=(∀ t x y s off,op=.store t x y→evr F x=.ref s off→((∀ s',s'≠s→C' s'=C s')∧∀ b o,I b=some o→I' b=some o)∧∀ b o,Kn I M b o→Kn I' M' b o)∧(∀ t x y ad,op=.store t x y→evr F x=.val (.pointer (some ad))→C'=C∧∀ b o,I b=some o→I' b=some o)∧((∀ t x y,op≠.store t x y)→C'=C∧∀ b o,I b=some o→I' b=some o)
def AfterE (X:Ctx) (β:Nat→Nat) (G F:Fr) (C:Bx) (I:GH) (M:List Blk) (isStore:Bool) (op:Op) (dst:Option Nat) (a:Act) (K:KS) (a':Act) (w':World):Prop:=
 ∃ v x C' I' M',a'=a.put dst v∧SVok β x v∧RelB X β a w' G C' I' M'∧K (put dst x F) C' I' M'∧((isStore=true∧StKeep F op C C' I I' M M')∨(C'=C∧(∀ b o,I b=some o→I' b=some o)∧∀ b o,Kn I M b o→Kn I' M' b o))
theorem eff_sound {X:Ctx} {β:Nat→Nat} {a:Act} {w:World} {F G:Fr} {C:Bx} {I:GH} {M:List Blk} {o:Oper} {Q:Exit→Act→World→Prop} {K:KS} {soft:Bool} (hE:EOK X.P X.E)
  (h:RelB X β a w G C I M) (hG:∀ y∈o.op.operands,evr G y=evr F y) (hv:V_de X false soft o F C I M K):o.wpIn (fen X) 0 X.P a w (AfterE X β G F C I M soft o.op o.dst a K) Q:=by
 obtain⟨dst,op,ty,pos,after,guard⟩:=o
 have hf:=h.fr
 have hE1:∀ {y:Operand} {v:Value},y∈op.operands→ev F y=.val v→a.eval y=v:=fun {y v} hy he=>eval_of_ev hf (by simp only[ev,evq,hG y hy];exact he)
 cases op
 case alloc t=>
  simp only[V_de,cond_false] at hv
  split at hv
  ·rename_i d i hi
   obtain⟨z,hz,hzc⟩:=(hE _ _ hi).run_zero w
   have hzz:z.cells=i.zero.toArray:=by rw[←hzc]
   obtain⟨hv⟩:=hv
   have hk:=hv w.heap.size h.holds.freshI h.holds.freshM
   refine wpIn_val (by simp) (v:=.pointer (some ⟨w.heap.size,0,none⟩)) (w':=w.alloc (.cells i.zero.toArray t (0,0))) ?_ ⟨_,.val _,_,_,_,rfl,rfl,h.alloc_blk _,hk,.inr ⟨rfl,fun _ _ h=>h,fun b o hb=>hb.mono (fun _ _ h=>h) (fun x hx=>by simp[hx])⟩⟩
   simp[execOp,Instr.alloc,newVar,newRow,hz,hzz,World.alloc_eq]
  ·exact hv.elim
 case store t x y=>
  simp only[V_de,cond_false] at hv
  cases soft with
  | false=>exact hv.elim
  | true=>
   simp only[cond_true,V_op] at hv
   split at hv
   ·rename_i i v hi hy
    have hy':=hE1 (by simp[Op.operands]) hy
    split at hv
    ·rename_i s off hx
     have hx':=eval_of_ref hf ((hG x (by simp[Op.operands])).trans hx)
     split at hv
     ·rename_i cs hs
      cases hle:(Nat.ble (off+i.size) cs.length && (Nat.beq v.cells.size i.size && allOne v.cells.toList)) with
      | false=>rw[hle] at hv;exact hv.elim
      | true=>
       rw[hle] at hv
       simp only[Bool.and_eq_true] at hle
       obtain⟨hle,hsz,hone⟩:=hle
       have hle':=Nat.le_of_ble_eq_true hle
       have hsz':=Nat.eq_of_beq_eq_true hsz
       obtain⟨T,hT⟩:=(h.bx s cs hs).at_
       have:=storeVar_run (hE _ _ hi) (a:=⟨β s,off,none⟩) (v:=v) rfl hT hsz' (by simp;omega) hone
       refine wpIn_skip' (by simp) (w':=w.setRow (β s) (splice cs off v.cells.toList).toArray) ?_ ⟨undef,.junk,_,_,_,rfl,trivial,h.store_box hs (splice cs off v.cells.toList),hv,.inl ⟨rfl,fun t' x' y' s' off' e1 e2=>(by
        cases e1
        rw[hx] at e2
        cases e2
        refine⟨⟨fun s2 hne=>?_,fun _ _ h=>h⟩,fun _ _ h=>h⟩
        unfold updB
        rw[beq_ne hne]
        rfl),fun t' x' y' ad' e1 e2=>(by
        cases e1
        rw[hx] at e2
        cases e2),fun hns=>absurd rfl (hns _ _ _)⟩⟩
       simp only[execOp,Instr.storeAt,hx',hy',Instr.sureAddr,Sem.run_bind,Sem.run_pure,Result.andThen_ok]
       simp only[List.toList_toArray] at this
       rw[this]
       rfl
     ·exact hv.elim
    ·rename_i ad hx
     have hx':=eval_of_evr hf ((hG x (by simp[Op.operands])).trans hx)
     cases hsz:Nat.beq v.cells.size i.size with
     | false=>rw[hsz] at hv;exact hv.elim
     | true=>
      rw[hsz] at hv
      obtain⟨pre,post,cs,T,hM,hsp,hb,hone,hk⟩:=hv
      have hsz':=Nat.eq_of_beq_eq_true hsz
      have hg:w.heap[ad.block]?=some (.cells cs T (0,0)):=h.holds.m ⟨ad.block,.cells cs T (0,0)⟩ (by rw[hM];simp)
      have:=storeVar_run (hE _ _ hi) (v:=v) hsp hg hsz' hb hone
      refine wpIn_skip' (by simp) (w':=w.setRow ad.block (splice cs.toList ad.off v.cells.toList).toArray) ?_ ⟨undef,.junk,_,_,_,rfl,trivial,h.store_blk hM,hk,.inl ⟨rfl,fun t' x' y' s' off' e1 e2=>(by
       cases e1
       rw[hx] at e2
       cases e2),fun _ _ _ _ _ _=>⟨rfl,fun _ _ h=>h⟩,fun hns=>absurd rfl (hns _ _ _)⟩⟩
      simp only[execOp,Instr.storeAt,hx',hy',Instr.sureAddr,Sem.run_bind,Sem.run_pure,Result.andThen_ok]
      rw[this]
      rfl
    ·exact hv.elim
   ·exact hv.elim
 case buildSlice t len parts=>
  simp only[V_de,cond_false,V_op] at hv
  have hvp:evParts G parts.toList=evParts F parts.toList:=evqParts_congr fun y hy=>hG y (by simpa[Op.operands] using hy)
  rw[←hvp] at hv
  split at hv
  ·rename_i sz by' z e vs ht hvs
   have hu:=(hE _ _ ht).slice
   have hp:=evParts_ok hf hvs
   have hpp:(parts.map fun (i,x)=>(i,a.eval x)).toList=vs:=by simpa using hp
   split at hv
   ·rename_i ei hei
    cases hz:(Nat.ble (len * ei.size) 16777216 && Nat.blt 0 (len * ei.size)) with
    | false=>
     rw[hz] at hv
     simp only[cond_false] at hv
     split at hv
     ·rename_i hvs0
      obtain⟨hv⟩:=hv
      have hk:=hv w.heap.size h.holds.freshI h.holds.freshM
      refine wpIn_val (by simp) (v:=.slice (some ⟨w.heap.size,0,none⟩) 0 0) (w':=w.alloc (.cells #[] e (0,0))) ?_ ⟨_,.val _,_,_,_,rfl,rfl,h.alloc_blk _,hk,.inr ⟨rfl,fun _ _ h=>h,fun b o hb=>hb.mono (fun _ _ h=>h) (fun x hx=>by simp[hx])⟩⟩
      simp only[execOp,Instr.buildSlice,Sem.run_bind,Result.andThen_ok,run_underlying hu,(hE _ _ hei).run_sizeOf,hpp]
      have e0:∀ f:Nat→Value,Array.map f (Array.range 0)=#[]:=fun f=>by apply Array.ext<;>simp
      simp[newRow,World.alloc_eq,Instr.fill,e0]
     ·exact hv.elim
    | true=>
     rw[hz] at hv
     simp only[cond_true] at hv
     rw[Bool.and_eq_true] at hz
     have hle:=Nat.le_of_ble_eq_true hz.1
     have hpos:0 < len * ei.size:=by simpa using hz.2
     split at hv
     ·rename_i cells hfill
      obtain⟨zv,hzv,hzc⟩:=(hE _ _ hei).run_zero w
      obtain⟨hv⟩:=hv
      have hk:=hv w.heap.size h.holds.freshI h.holds.freshM
      refine wpIn_val (by simp) (v:=.slice (some ⟨w.heap.size,0,none⟩) len len) (w':=w.alloc (.cells cells.toArray e (0,0))) ?_ ⟨_,.val _,_,_,_,rfl,rfl,h.alloc_blk _,hk,.inr ⟨rfl,fun _ _ h=>h,fun b o hb=>hb.mono (fun _ _ h=>h) (fun x hx=>by simp[hx])⟩⟩
      have hfe:=fill_eq _ _ _ _ hfill
      simp only[execOp,Instr.buildSlice,Sem.run_bind,Result.andThen_ok,run_underlying hu,(hE _ _ hei).run_sizeOf]
      rw[if_neg (by omega)]
      simp only[if_neg (show ¬ len * ei.size=0 by omega),Sem.run_bind,hzv,Result.andThen_ok,Sem.run_pure,hpp,madeCells_eq zv ei.zero hzc,hfe]
      simp[newRow,World.alloc_eq]
     ·exact hv.elim
   ·exact hv.elim
  ·exact hv.elim
 case makeSlice t l c=>
  simp only[V_de,cond_false,V_op] at hv
  split at hv
  ·rename_i sz by' z e kl l' kc c' ht hl hc
   have hu:=(hE _ _ ht).slice
   have hl':=hE1 (by simp[Op.operands]) hl
   have hc':=hE1 (by simp[Op.operands]) hc
   split at hv
   ·rename_i ei hei
    obtain⟨n,m,rfl,rfl,hnm,hb,hm,⟨hv⟩⟩:=hv
    have hk:=hv w.heap.size h.holds.freshI h.holds.freshM
    obtain⟨inf,zv,hi1,hi2,hi3,hi4,hi5⟩:=(hE _ _ hei).inf
    refine wpIn_val (by simp) (v:=.slice (some ⟨w.heap.size,0,none⟩) n m) (w':=w.alloc (.cells (rowOf ei.zero (m * ei.size)).toArray e (0,0))) ?_ ⟨_,.val _,_,_,_,rfl,rfl,h.alloc_blk _,hk,.inr ⟨rfl,fun _ _ h=>h,fun b o hb=>hb.mono (fun _ _ h=>h) (fun x hx=>by simp[hx])⟩⟩
    have hb2:((ei.bytes:Nat):Int) * (m:Int)≤281474976710656:=by
     have h2:((ei.bytes * m:Nat):Int)≤281474976710656:=by omega
     simpa using h2
    have:=run_make (P:=X.P) w t e inf zv hu hi1 hi4 kl kc (n:Int) (m:Int) (by omega) (by omega) (by rw[hi3];exact hb2) (by omega)
    simp only[execOp,hl',hc',Sem.run_bind,this,Result.andThen_ok,Sem.run_pure,Int.toNat_natCast]
    have e1:madeCells zv.cells (m * inf.size)=(rowOf ei.zero (m * ei.size)).toArray:=by
     rw[hi2,←hi5]
     simp[rowOf_eq]
    rw[e1]
   ·exact hv.elim
  ·exact hv.elim
 case call c=>
  obtain⟨callee,args,argTypes⟩:=c
  cases callee with
  | value f=>
   simp only[V_de,cond_false] at hv
   split at hv
   ·rename_i g first cap vs hfv hvs
    have hvs':evs G args.toList=some vs:=by
     rw[←hvs]
     exact evqs_congr fun y hy=>hG y (by simp only[Op.operands,Call.operands];simp;right;simpa using hy)
    have hfv':=hE1 (by simp[Op.operands,Call.operands]) hfv
    obtain⟨I1,Mc,Mr,post,hWp,hI1,hs,hk⟩:=hv.elim ⟨h.holds.d,h.holds.nd⟩
    have e1:=evs_ok hf hvs'
    have e1':args.map a.eval=vs.toArray:=by apply Array.ext';simpa using e1
    have hrun:∀ {n:Next} {w':World},(callFunc g (first.toList++vs++cap.toList).toArray).run X.P w=.ok n w'→(execOp a.eval ⟨dst,.call { callee:=.value f,args,argTypes },ty,pos,after,guard⟩).run X.P w=.ok n w':=fun hr=>by
     simp only[execOp,resolve,hfv',Deferred.ofValue,Sem.run_bind,Sem.run_pure,Result.andThen_ok,e1',invoke]
     rw[show first++vs.toArray++cap=(first.toList++vs++cap.toList).toArray from by apply Array.ext';simp]
     exact hr
    rcases h.call (KC:=fun v I' M'=>(∀ b o,I b=some o→I' b=some o)∧(∀ x∈M,I' x.num=some x.obj∨x∈M')∧K (Go.V.put dst (.val v) F) C I' M') (.mkW I1 Mc Mr post hWp hs fun v I' M' hle hd hp=>⟨fun b o hb=>hle _ _ (hI1 _ _ hb),(hk v I' M' hle hd hp).1,(hk v I' M' hle hd hp).2⟩) with ⟨hent,hcalls⟩ | ⟨v,w',I',M',hr,⟨h1,h2,hk⟩,hr'⟩
    ·refine wpIn_enter (by simp) (f:=g) (args:=(first.toList++vs++cap.toList).toArray) (hrun (hent _ _)) ?_
     refine hcalls.mono ?_
     rintro e w' ⟨v,I',M',rfl,⟨h1,h2,hk⟩,hr⟩
     exact⟨v,rfl,v,.val v,C,I',M',rfl,rfl,hr,hk,.inr ⟨rfl,h1,fun b o hb=>hb.move h1 h2⟩⟩
    ·exact wpIn_val (by simp) (hrun hr) ⟨v,.val v,C,I',M',rfl,rfl,hr',hk,.inr ⟨rfl,h1,fun b o hb=>hb.move h1 h2⟩⟩
   ·exact hv.elim
  | invoke r m=>exact hv.elim
  | builtin b=>
   cases b
   case append=>
    simp only[V_de,cond_false] at hv
    cases soft with
    | false=>exact hv.elim
    | true=>
     simp only[cond_true] at hv
     obtain⟨hv⟩:=hv G hG
     refine Oper.wpIn_mono (fun a' w'=>?_) (hv β a w Q h)
     rintro⟨v,x,I',M',h1,h2,h3,h4,hII⟩
     exact⟨v,x,C,I',M',h1,h2,h3,h4,.inl ⟨rfl,⟨fun t x y s off e _=>(by cases e),fun t x y ad e _=>(by cases e),fun _=>⟨rfl,fun b o h=>by rw[hII];exact h⟩⟩⟩⟩
   case copy=>
    simp only[V_de,cond_false] at hv
    cases soft with
    | false=>exact hv.elim
    | true=>
     simp only[cond_true] at hv
     obtain⟨hv⟩:=hv G hG
     refine Oper.wpIn_mono (fun a' w'=>?_) (hv β a w Q h)
     rintro⟨v,x,I',M',h1,h2,h3,h4,hII⟩
     exact⟨v,x,C,I',M',h1,h2,h3,h4,.inl ⟨rfl,⟨fun t x y s off e _=>(by cases e),fun t x y ad e _=>(by cases e),fun _=>⟨rfl,fun b o h=>by rw[hII];exact h⟩⟩⟩⟩
   all_goals exact hv.elim
 all_goals exact hv.elim
def SvIm (x y:SV):Prop:=∀ β u,SVok β x u→SVok β y u
theorem SvIm.refl (x:SV):SvIm x x:=fun _ _ h=>h
theorem SvIm.trans {x y z:SV} (h:SvIm x y) (h':SvIm y z):SvIm x z:=fun β u hu=>h' β u (h β u hu)
structure DC (ops:List Oper):Prop where
 lt:∀ j e,Dep ops j e→e < j
 own:∀ (j:Nat) (o:Oper) (d:Nat),ops[j]?=some o→o.dst=some d→d ∉ looks ops o
 dd:∀ (i j:Nat) (oi oj:Oper) (d:Nat),i≠j→ops[i]?=some oi→ops[j]?=some oj→oi.dst=some d→oj.dst≠some d
 ord:∀ (i j:Nat) (oi oj:Oper) (d:Nat),i≠j→ops[i]?=some oi→ops[j]?=some oj→oi.dst=some d→d∈looks ops oj→Bef ops i j∨Bef ops j i
theorem dc_of_chk {ops:List Oper} (h:drawChk ops=true):DC ops:=by
 have key:∀ (j:Nat) (oj:Oper),ops[j]?=some oj→_:=fun j oj hj=>by
  have hlt:j < ops.length:=(List.getElem?_eq_some_iff.1 hj).1
  have h1:=List.all_eq_true.1 h j (List.mem_range.2 hlt)
  simp only[hj,Bool.and_eq_true] at h1
  exact h1
 refine⟨?_,?_,?_,?_⟩
 ·rintro j e ⟨o,ed,ho,hed,hb,rfl⟩
  have h1:=List.all_eq_true.1 (key j o ho).1 ed (by simpa using hed)
  rw[hb] at h1
  simpa using h1
 ·intro j o d ho hd
  have h1:=(key j o ho).2.1
  rw[hd] at h1
  simpa using h1
 ·intro i j oi oj d hne hi hj hd hd'
  have hlt:i < ops.length:=(List.getElem?_eq_some_iff.1 hi).1
  have h1:=List.all_eq_true.1 (key j oj hj).2.2 i (List.mem_range.2 hlt)
  rw[beq_ne hne] at h1
  simp only[hi,hd,Bool.false_or,Bool.and_eq_true] at h1
  rw[hd'] at h1
  simp at h1
 ·intro i j oi oj d hne hi hj hd hl
  have hlt:i < ops.length:=(List.getElem?_eq_some_iff.1 hi).1
  have h1:=List.all_eq_true.1 (key j oj hj).2.2 i (List.mem_range.2 hlt)
  rw[beq_ne hne] at h1
  simp only[hi,hd,Bool.false_or,Bool.and_eq_true,Bool.or_eq_true] at h1
  rcases h1.2 with h2 | h2 | h2
  ·have:(looks ops oj).contains d=true:=by simpa using hl
   rw[this] at h2
   cases h2
  ·exact .inl (bef_of_bit h2)
  ·exact .inr (bef_of_bit h2)
def dstAt (ops:List Oper) (i:Nat):Option Nat:=(ops[i]?).bind (·.dst)
def Pd (L:Nat→Prop) (p i:Nat):Prop:=p.testBit i=true∧¬ L i
def Runs (ops:List Oper) (o:Oper) (F:Fr):Prop:=match o.guard with
 | none=>True
 | some (j,b)=>∃ d,dstAt ops j=some d∧F d=.lit b
def Skips (ops:List Oper) (o:Oper) (F:Fr):Prop:=∃ j b d,o.guard=some (j,b)∧dstAt ops j=some d∧(F d=.lit (!b)∨∃ vs,F d=.val (.tuple vs))
theorem guard_looks {ops:List Oper} {o:Oper} {j d:Nat} {b:Bool} (hg:o.guard=some (j,b)) (hd:dstAt ops j=some d):d∈looks ops o:=by
 unfold looks Oper.looksAt
 refine List.mem_append_right _ ?_
 rw[hg]
 simp only[Option.mem_toList]
 simpa[dstAt] using hd
theorem operand_looks {ops:List Oper} {o:Oper} {t:Nat} (h:Operand.tmp t∈o.op.operands):t∈looks ops o:=
 List.mem_append_left _ (List.mem_filterMap.2 ⟨.tmp t,by simpa using h,rfl⟩)
theorem wanted_runs {ops:List Oper} {o:Oper} {F:Fr} {β:Nat→Nat} {a:Act} (h:Runs ops o F) (hF:∀ t∈looks ops o,SVok β (F t) (a.tmps.getD t undef)):Region.wanted o (yielded ops.toArray a.tmps)=true:=by
 unfold Runs at h
 unfold Region.wanted
 cases hg:o.guard with
 | none=>rfl
 | some jb=>
  obtain⟨j,b⟩:=jb
  rw[hg] at h
  obtain⟨d,hd,hl⟩:=h
  have h1:=hF d (guard_looks hg hd)
  rw[hl] at h1
  have hy:=yielded_of (ops:=ops.toArray) (j:=j) (d:=d) (by simpa[dstAt] using hd) a.tmps
  simp[hy,getD_bool h1]
theorem wanted_skips {ops:List Oper} {o:Oper} {F:Fr} {β:Nat→Nat} {a:Act} (h:Skips ops o F) (hF:∀ t∈looks ops o,SVok β (F t) (a.tmps.getD t undef)):Region.wanted o (yielded ops.toArray a.tmps)=false:=by
 obtain⟨j,b,d,hg,hd,hl⟩:=h
 unfold Region.wanted
 have h1:=hF d (guard_looks hg hd)
 have hy:=yielded_of (ops:=ops.toArray) (j:=j) (d:=d) (by simpa[dstAt] using hd) a.tmps
 rw[hg]
 rcases hl with hl | ⟨vs,hl⟩
 ·rw[hl] at h1
  simp[hy,getD_bool h1]
 ·rw[hl] at h1
  have hnone:yielded ops.toArray a.tmps j=none:=by
   rw[hy]
   cases hg':a.tmps[d]? with
   | none=>rfl
   | some v=>
    simp only[SVok,Array.getD_eq_getD_getElem?,hg',Option.getD_some] at h1
    subst h1
    rfl
  simp[hnone]
theorem Vg_pull {ops:List Oper} {o:Oper} {F:Fr} {run skip:Fr→Prop} (h:Vg ops o F run skip):∃ F1,(∀ t,SvIm (F t) (F1 t))∧((Runs ops o F1∧run F1)∨(Skips ops o F1∧skip F1)):=by
 unfold Vg at h
 cases hg:o.guard with
 | none=>rw[hg] at h;exact⟨F,fun t=>.refl _,.inl ⟨by simp[Runs,hg],h⟩⟩
 | some jb=>
  obtain⟨j,b⟩:=jb
  rw[hg] at h
  simp only at h
  split at h
  ·exact h.elim
  ·rename_i d hd
   have hd':dstAt ops j=some d:=hd
   split at h
   ·rename_i c hc
    refine⟨F,fun t=>.refl _,?_⟩
    cases hcb:(c == b) with
    | true=>
     rw[hcb] at h
     have hcb:c=b:=by simpa using hcb
     subst hcb
     exact .inl ⟨by simp only[Runs,hg];exact⟨d,hd',hc⟩,h⟩
    | false=>
     rw[hcb] at h
     have hcb':c=!b:=by cases c<;>cases b<;>simp_all
     subst hcb'
     exact .inr ⟨⟨j,b,d,hg,hd',.inl hc⟩,h⟩
   ·rename_i c hc
    obtain⟨h1,h2⟩:=h
    have im:∀ x,c=x→∀ t,SvIm (F t) (upd F d (.lit x) t):=fun x hx t=>by
     unfold upd
     by_cases e:t=d
     ·subst e;subst hx;simp only[beq_self',cond_true,hc];exact fun _ _ h=>h
     ·simp only[beq_ne e,cond_false];exact .refl _
    have self:∀ x,upd F d (.lit x) d=.lit x:=fun x=>by simp[upd]
    by_cases hcb:c=b
    ·exact⟨_,im b hcb,.inl ⟨by simp only[Runs,hg];exact⟨d,hd',self b⟩,h1 hcb⟩⟩
    ·have hcb':c=!b:=by cases c<;>cases b<;>simp_all
     exact⟨_,im _ hcb',.inr ⟨⟨j,b,d,hg,hd',.inl (self _)⟩,h2 hcb'⟩⟩
   ·rename_i vs hc
    exact⟨F,fun t=>.refl _,.inr ⟨⟨j,b,d,hg,hd',.inr ⟨vs,hc⟩⟩,h⟩⟩
   ·exact h.elim
structure PQ (X:Ctx) (ops:List Oper) (im':Nat→Bool) (L:Nat→Prop) (p:Nat) (bx:List (Nat×Nat)) (β:Nat→Nat) (a:Act) (F:Fr) (C:Bx) (I:GH) (M:List Blk) (XV:Nat→SV) (F0:Nat→Fr) (q:Nat) (o:Oper):Prop where
 quiet:isQuiet o.op=true
 im:∀ d,o.dst=some d→SvIm (XV q) (F d)
 b:∀ t∈looks ops o,∀ i,Pd L p i→Bef ops i q→dstAt ops i=some t→SvIm (XV i) (F0 q t)
 a:∀ t∈looks ops o,(∀ i,Pd L p i→Bef ops i q→dstAt ops i≠some t)→SVok β (F0 q t) (a.tmps.getD t undef)
 r:(Runs ops o (F0 q)∧V_q X o.op (evr (F0 q)) C I (mm (im' q) M) (fun x=>x=XV q) False∧∀ t x,o.op=.load t x→(q,spotS (evr (F0 q) x))∈bx)∨(Skips ops o (F0 q)∧XV q=.val undef)
structure Inv (X:Ctx) (ops:List Oper) (im':Nat→Bool) (L:Nat→Prop) (β:Nat→Nat) (a:Act) (w:World) (F:Fr) (C:Bx) (I:GH) (M:List Blk) (p:Nat) (bx:List (Nat×Nat)) (XV:Nat→SV) (F0:Nat→Fr):Prop where
 rel:RelB X β a w (fun _=>.junk) C I M
 sub:∀ i,L i→p.testBit i=true
 cL:Closed ops L
 cP:Closed ops (fun i=>p.testBit i=true)
 T:∀ t,(∀ i,Pd L p i→dstAt ops i≠some t)→SVok β (F t) (a.tmps.getD t undef)
 pq:∀ q,Pd L p q→∃ o,ops[q]?=some o∧PQ X ops im' L p bx β a F C I M XV F0 q o
theorem bit_or {p q i:Nat}:(p ||| 2 ^ q).testBit i=true ↔ p.testBit i=true∨i=q:=by
 simp only[Nat.testBit_or,Bool.or_eq_true,Nat.testBit_two_pow,decide_eq_true_eq]
 exact⟨fun h=>h.imp id Eq.symm,fun h=>h.imp id Eq.symm⟩
section
variable {X:Ctx} {ops:List Oper} {im':Nat→Bool} {L:Nat→Prop} {β:Nat→Nat} {a:Act} {w:World} {F:Fr} {C:Bx} {I:GH} {M:List Blk} {p:Nat} {bx:List (Nat×Nat)} {XV:Nat→SV} {F0:Nat→Fr} {q:Nat} {o:Oper}
theorem dstAt_of (h:ops[q]?=some o):dstAt ops q=o.dst:=by simp[dstAt,h]
theorem dstAt_some {i d:Nat} (h:dstAt ops i=some d):∃ oi,ops[i]?=some oi∧oi.dst=some d:=by
 unfold dstAt at h
 exact Option.bind_eq_some_iff.1 h
theorem Inv.ahead (hD:DC ops) (hcP:Closed ops (fun i=>p.testBit i=true)) (hq:ops[q]?=some o) (hqp:p.testBit q=false) {i t:Nat} (hi:p.testBit i=true) (ht:t∈looks ops o) (hd:dstAt ops i=some t):Bef ops i q:=by
 obtain⟨oi,hoi,hdi⟩:=dstAt_some hd
 have hne:i≠q:=fun e=>by rw[e,hqp] at hi;cases hi
 rcases hD.ord i q oi o t hne hoi hq hdi ht with h | h
 ·exact h
 ·have:=h.mem hcP (fun e he=>hcP i e hi he)
  rw[hqp] at this
  cases this
theorem Inv.looksOk (hD:DC ops) (h:Inv X ops im' L β a w F C I M p bx XV F0) (hq:ops[q]?=some o) (hqp:p.testBit q=false) (hrd:∀ e,Dep ops q e→L e):∀ t∈looks ops o,SVok β (F t) (a.tmps.getD t undef):=fun t ht=>h.T t fun i hi hd=>
 hi.2 ((Inv.ahead hD h.cP hq hqp hi.1 ht hd).mem h.cL hrd)
theorem put_ne {x:SV} {dst:Option Nat} {t:Nat} (h:dst≠some t):put dst x F t=F t:=by
 cases dst with
 | none=>rfl
 | some d=>
  have:t≠d:=fun e=>h (by rw[e])
  simp only[put,upd,beq_ne this,cond_false]
theorem put_eq {x:SV} {t:Nat}:put (some t) x F t=x:=by simp[put,upd]
theorem aput_ne {v:Value} {dst:Option Nat} {t:Nat} (h:dst≠some t):(a.put dst v).tmps.getD t undef=a.tmps.getD t undef:=by
 cases dst with
 | none=>rfl
 | some d=>
  have:d≠t:=fun e=>h (by rw[e])
  simp only[Act.put,Array.getD_eq_getD_getElem?,Array.getElem?_setIfInBounds,if_neg this]
theorem aput_eq {v:Value} {t:Nat} (h:t < a.tmps.size):(a.put (some t) v).tmps.getD t undef=v:=by
 rw[getD_put a t t v h,if_pos rfl]
theorem Inv.record (hD:DC ops) (h:Inv X ops im' L β a w F C I M p bx XV F0) (hq:ops[q]?=some o) (hqp:p.testBit q=false) (hdep:∀ e,Dep ops q e→p.testBit e=true) (hqu:isQuiet o.op=true)
  {F1:Fr} (him:∀ t,SvIm (F t) (F1 t)) {x:SV} {bx':List (Nat×Nat)} (hbx:∀ s∈bx,s∈bx') (hr:(Runs ops o F1∧V_q X o.op (evr F1) C I (mm (im' q) M) (fun y=>y=x) False∧∀ t y,o.op=.load t y→(q,spotS (evr F1 y))∈bx')∨(Skips ops o F1∧x=.val undef)) :
  Inv X ops im' L β a w (put o.dst x F1) C I M (p ||| 2 ^ q) bx' (fun i=>if i=q then x else XV i) (fun i=>if i=q then F1 else F0 i):=by
 have hqL:¬ L q:=fun e=>by have:=h.sub q e;rw[hqp] at this;cases this
 have pd:∀ {i},Pd L (p ||| 2 ^ q) i→i≠q→Pd L p i:=fun hi hne=>⟨(bit_or.1 hi.1).resolve_right hne,hi.2⟩
 have pd':∀ {i},Pd L p i→Pd L (p ||| 2 ^ q) i:=fun hi=>⟨bit_or.2 (.inl hi.1),hi.2⟩
 have pdq:Pd L (p ||| 2 ^ q) q:=⟨bit_or.2 (.inr rfl),hqL⟩
 have noself:∀ {i},Pd L p i→¬ Bef ops q i:=fun {i} hi hb=>by
  have:=hb.mem h.cP (fun e he=>h.cP i e hi.1 he)
  rw[hqp] at this
  cases this
 refine⟨h.rel,fun i hi=>bit_or.2 (.inl (h.sub i hi)),h.cL,?_,?_,?_⟩
 ·intro j e hj he
  rcases bit_or.1 hj with hj | rfl
  ·exact bit_or.2 (.inl (h.cP j e hj he))
  ·exact bit_or.2 (.inl (hdep e he))
 ·intro t ht
  have h1:o.dst≠some t:=fun e=>ht q pdq (by rw[dstAt_of hq,e])
  rw[put_ne h1]
  exact him t _ _ (h.T t fun i hi=>ht i (pd' hi))
 ·intro i hi
  by_cases hiq:i=q
  ·subst hiq
   refine⟨o,hq,⟨hqu,?_,?_,?_,?_⟩⟩
   ·intro d hd
    rw[hd,put_eq]
    simp only[if_pos]
    exact .refl _
   ·intro t ht j hj hb hdj
    have hji:j≠i:=fun e=>by
     subst e
     have:=hb.mem h.cP hdep
     rw[hqp] at this
     cases this
    simp only[if_neg hji,if_pos]
    obtain⟨oj,hoj,hpq⟩:=h.pq j (pd hj hji)
    exact(hpq.im t (by rw[←dstAt_of hoj];exact hdj)).trans (him t)
   ·intro t ht hno
    simp only[if_pos]
    refine him t _ _ (h.T t fun j hj hdj=>hno j (pd' hj) (Inv.ahead hD h.cP hq hqp hj.1 ht hdj) hdj)
   ·simpa using hr
  ·obtain⟨oi,hoi,hpq⟩:=h.pq i (pd hi hiq)
   refine⟨oi,hoi,⟨hpq.quiet,?_,?_,?_,?_⟩⟩
   ·intro d hd
    simp only[if_neg hiq]
    rw[put_ne (hD.dd i q oi o d hiq hoi hq hd)]
    exact(hpq.im d hd).trans (him d)
   ·intro t ht j hj hb hdj
    have hjq:j≠q:=fun e=>by subst e;exact noself (pd hi hiq) hb
    simp only[if_neg hiq,if_neg hjq]
    exact hpq.b t ht j (pd hj hjq) hb hdj
   ·intro t ht hno
    simp only[if_neg hiq]
    exact hpq.a t ht fun j hj=>hno j (pd' hj)
   ·simp only[if_neg hiq]
    exact hpq.r.imp (fun ⟨h1,h2,h3⟩=>⟨h1,h2,fun t x e1=>hbx _ (h3 t x e1)⟩) id
theorem Inv.exec {K':Act→World→Prop} {Q:Exit→Act→World→Prop} (hE:EOK X.P X.E) (hD:DC ops) (hdn:∀ d,o.dst=some d→d < X.n) (h:Inv X ops im' L β a w F C I M p bx XV F0) (hq:ops[q]?=some o) (hp:Pd L p q) (hrd:∀ e,Dep ops q e→L e)
  (hK:∀ a',Inv X ops im' (fun i=>L i∨i=q) β a' w F C I M p bx XV F0→K' a' w):wpOpIn (fen X) 0 X.P ops.toArray Q q K' a w:=by
 obtain⟨o',ho',hpq⟩:=h.pq q hp
 rw[hq] at ho'
 cases ho'
 have nobef:∀ {i},Bef ops i q→¬ Pd L p i:=fun hb hi=>hi.2 (hb.mem h.cL hrd)
 have hA:∀ t∈looks ops o,SVok β (F0 q t) (a.tmps.getD t undef):=fun t ht=>hpq.a t ht fun i hi hb=>(nobef hb hi).elim
 have after:∀ v,SVok β (XV q) v→Inv X ops im' (fun i=>L i∨i=q) β (a.put o.dst v) w F C I M p bx XV F0:=fun v hv=>by
  have pd:∀ {i},Pd (fun i=>L i∨i=q) p i→Pd L p i∧i≠q:=fun hi=>⟨⟨hi.1,fun e=>hi.2 (.inl e)⟩,fun e=>hi.2 (.inr e)⟩
  have pd':∀ {i},Pd L p i→i≠q→Pd (fun i=>L i∨i=q) p i:=fun hi hne=>⟨hi.1,fun e=>e.elim hi.2 hne⟩
  refine⟨h.rel.put hdn (x:=.junk) trivial |> fun h=>h.refine fun _=>trivial,?_,?_,h.cP,?_,?_⟩
  ·rintro i (hi | rfl)
   ·exact h.sub i hi
   ·exact hp.1
  ·rintro j e (hj | rfl) he
   ·exact .inl (h.cL j e hj he)
   ·exact .inl (hrd e he)
  ·intro t ht
   by_cases hd:o.dst=some t
   ·have hlt:t < a.tmps.size:=by rw[h.rel.size];exact hdn t hd
    rw[hd,aput_eq hlt]
    exact hpq.im t hd _ _ hv
   ·rw[aput_ne hd]
    refine h.T t fun i hi hdi=>?_
    by_cases hiq:i=q
    ·subst hiq;rw[dstAt_of hq] at hdi;exact hd hdi
    ·exact ht i (pd' hi hiq) hdi
  ·intro i hi
   obtain⟨hi',hiq⟩:=pd hi
   obtain⟨oi,hoi,hpi⟩:=h.pq i hi'
   refine⟨oi,hoi,⟨hpi.quiet,hpi.im,fun t ht j hj=>hpi.b t ht j (pd hj).1,?_,hpi.r⟩⟩
   intro t ht hno
   by_cases hd:o.dst=some t
   ·have hlt:t < a.tmps.size:=by rw[h.rel.size];exact hdn t hd
    rw[hd,aput_eq hlt]
    have hb:Bef ops q i:=by
     rcases hD.ord q i o oi t (Ne.symm hiq) hq hoi hd ht with hb | hb
     ·exact hb
     ·exact(nobef hb hi').elim
    exact hpi.b t ht q hp hb (by rw[dstAt_of hq,hd]) _ _ hv
   ·rw[aput_ne hd]
    refine hpi.a t ht fun j hj hb hdj=>?_
    by_cases hjq:j=q
    ·subst hjq;rw[dstAt_of hq] at hdj;exact hd hdj
    ·exact hno j (pd' hj hjq) hb hdj
 have hidx:ops.toArray[q]?=some o:=by simpa using hq
 unfold wpOpIn
 simp only[hidx]
 rcases hpq.r with ⟨hrun,hvq,-⟩ | ⟨hskip,hx⟩
 ·rw[wanted_runs hrun hA,if_pos rfl]
  let G:Fr:=fun t=>if t∈looks ops o then F0 q t else .junk
  have hG:∀ t,SVok β (G t) (a.tmps.getD t undef):=fun t=>by
   by_cases ht:t∈looks ops o
   ·simp only[G,if_pos ht];exact hA t ht
   ·simp only[G,if_neg ht];trivial
  have hGe:∀ y∈o.op.operands,evr G y=evr (F0 q) y:=fun y hy=>by
   cases y with
   | tmp t=>simp only[evr,G,if_pos (operand_looks hy)]
   | const v=>cases v<;>rfl
   | global g=>rfl
   | func f=>rfl
  have hvq':=V_q_mono hvq hGe (C':=C) (I':=I) (M':=M) fun _ _ _=>⟨fun _ _ _=>rfl,fun _ _ _ h=>mm_kn h⟩
  obtain⟨dst,op,ty,pos,aft,guard⟩:=o
  have hnd:∀ c,op≠.defer c:=fun c e=>by
   have:=hpq.quiet
   rw[e] at this
   cases this
  rcases V_q_run hE (h.rel.refine hG) op ty dst pos aft guard hvq' with h1 | ⟨v,x,hrn,hx,rfl⟩
  ·exact h1.elim
  ·exact wpIn_val hnd hrn (hK _ (after v hx))
 ·rw[wanted_skips hskip hA]
  simp only[Bool.false_eq_true,if_false]
  exact⟨fun _ _=>trivial,hK _ (after undef (by rw[hx];rfl))⟩
end
section
variable {X:Ctx} {ops:List Oper} {im':Nat→Bool} {L:Nat→Prop} {β:Nat→Nat} {a:Act} {w:World} {F:Fr} {C:Bx} {I:GH} {M:List Blk} {p:Nat} {bx:List (Nat×Nat)} {XV:Nat→SV} {F0:Nat→Fr} {q:Nat} {o:Oper}
theorem Inv.refine(h:Inv X ops im' L β a w F C I M p bx XV F0) {F1:Fr} (him:∀ t,SvIm (F t) (F1 t)):Inv X ops im' L β a w F1 C I M p bx XV F0:=
 ⟨h.rel,h.sub,h.cL,h.cP,fun t ht=>him t _ _ (h.T t ht),fun i hi=>by
  obtain⟨oi,hoi,hp⟩:=h.pq i hi
  exact⟨oi,hoi,⟨hp.quiet,fun d hd=>(hp.im d hd).trans (him d),hp.b,hp.a,hp.r⟩⟩⟩
theorem Inv.step (hD:DC ops) (hdn:∀ d,o.dst=some d→d < X.n) (h:Inv X ops im' L β a w F C I M p bx XV F0) (hq:ops[q]?=some o) (hqp:p.testBit q=false) (hrd:∀ e,Dep ops q e→L e)
  {v:Value} {x:SV} {C':Bx} {I':GH} {M':List Blk} {w':World} (hx:SVok β x v) (hr:RelB X β a w' (fun _=>.junk) C' I' M')
  (hm:∀ i oi sp,Pd L p i→ops[i]?=some oi→isLoad oi.op=true→(i,sp)∈bx→(∀ s,sp=s+1→C' s=C s)∧(sp=0→∀ b o,Kn I (mm (im' i) M) b o→Kn I' (mm (im' i) M') b o)) :
  Inv X ops im' (fun i=>L i∨i=q) β (a.put o.dst v) w' (put o.dst x F) C' I' M' (p ||| 2 ^ q) bx XV F0:=by
 have pd:∀ {i},Pd (fun i=>L i∨i=q) (p ||| 2 ^ q) i→Pd L p i:=fun hi=>⟨(bit_or.1 hi.1).resolve_right (fun e=>hi.2 (.inr e)),fun e=>hi.2 (.inl e)⟩
 have pd':∀ {i},Pd L p i→Pd (fun i=>L i∨i=q) (p ||| 2 ^ q) i:=fun {i} hi=>⟨bit_or.2 (.inl hi.1),fun e=>e.elim hi.2 (fun e=>by
  subst e
  have:=hi.1
  rw[hqp] at this
  cases this)⟩
 refine⟨hr.put hdn (x:=.junk) trivial |> fun h=>h.refine fun _=>trivial,?_,?_,?_,?_,?_⟩
 ·rintro i (hi | rfl)
  ·exact bit_or.2 (.inl (h.sub i hi))
  ·exact bit_or.2 (.inr rfl)
 ·rintro j e (hj | rfl) he
  ·exact .inl (h.cL j e hj he)
  ·exact .inl (hrd e he)
 ·intro j e hj he
  rcases bit_or.1 hj with hj | rfl
  ·exact bit_or.2 (.inl (h.cP j e hj he))
  ·exact bit_or.2 (.inl (h.sub e (hrd e he)))
 ·intro t ht
  by_cases hd:o.dst=some t
  ·have hlt:t < a.tmps.size:=by rw[h.rel.size];exact hdn t hd
   rw[hd,aput_eq hlt,put_eq]
   exact hx
  ·rw[aput_ne hd,put_ne hd]
   exact h.T t fun i hi=>ht i (pd' hi)
 ·intro i hi
  have hi':=pd hi
  obtain⟨oi,hoi,hpi⟩:=h.pq i hi'
  have hiq:i≠q:=fun e=>by
   subst e
   have:=hi'.1
   rw[hqp] at this
   cases this
  refine⟨oi,hoi,⟨hpi.quiet,?_,fun t ht j hj=>hpi.b t ht j (pd hj),?_,?_⟩⟩
  ·intro d hd
   rw[put_ne (hD.dd i q oi o d hiq hoi hq hd)]
   exact hpi.im d hd
  ·intro t ht hno
   have hd:o.dst≠some t:=fun hd=>by
    rcases hD.ord q i o oi t (Ne.symm hiq) hq hoi hd ht with hb | hb
    ·have:=hb.mem h.cP (fun e he=>h.cP i e hi'.1 he)
     rw[hqp] at this
     cases this
    ·exact hi'.2 (hb.mem h.cL hrd)
   rw[aput_ne hd]
   exact hpi.a t ht fun j hj=>hno j (pd' hj)
  ·refine hpi.r.imp (fun ⟨h1,h2,h3⟩=>⟨h1,V_q_mono h2 (fun _ _=>rfl) fun t x hl=>?_,h3⟩) id
   have h4:=h3 t x hl
   have h5:=hm i oi _ hi' hoi (by rw[hl];rfl) h4
   refine⟨fun s off e=>?_,fun hne=>h5.2 ?_⟩
   ·exact h5.1 s (by rw[e];rfl)
   ·generalize evr (F0 i) x=sv at hne
    cases sv with
    | ref s off=>exact(hne s off rfl).elim
    | _=>rfl
def SimAt (X:Ctx) (ops:List Oper) (im':Nat→Bool) (K:KS) (L:Nat→Prop) (a:Act) (w:World):Prop:=
 ∃ β F C I M p bx XV F0 n,Inv X ops im' L β a w F C I M p bx XV F0∧Vd X ops im' n p bx F C I M K
theorem mem_readyK {k:Bool} {i:Nat}:i∈readyK ops p k ↔ ∃ o,ops[i]?=some o∧p.testBit i=false∧isQuiet o.op=k∧(∀ e,Dep ops i e→p.testBit e=true):=by
 unfold readyK
 rw[List.mem_filter,List.mem_range]
 have dep:∀ {o},ops[i]?=some o→(dOk o p=true ↔ ∀ e,Dep ops i e→p.testBit e=true):=fun {o} ho=>by
  unfold dOk
  rw[List.all_eq_true]
  constructor
  ·rintro h e ⟨o',ed,ho',hed,hb,rfl⟩
   rw[ho] at ho'
   cases ho'
   have:=h ed (by simpa using hed)
   rw[hb] at this
   simpa using this
  ·intro h ed hed
   cases hb:Region.binds .any ed with
   | false=>simp
   | true=>simp[h ed.on ⟨o,ed,ho,by simpa using hed,hb,rfl⟩]
 constructor
 ·rintro⟨hlt,h⟩
  cases ho:ops[i]? with
  | none=>rw[ho] at h;cases h
  | some o=>
   rw[ho] at h
   simp only[Bool.and_eq_true,Bool.not_eq_true',beq_iff_eq] at h
   exact⟨o,rfl,h.1,h.2.1,(dep ho).1 h.2.2⟩
 ·rintro⟨o,ho,h1,h2,h3⟩
  refine⟨(List.getElem?_eq_some_iff.1 ho).1,?_⟩
  rw[ho]
  simp only[h1,h2,(dep ho).2 h3,Bool.not_false,beq_self_eq_true,Bool.and_self]
theorem AllL_mem {P:Nat→Prop}:∀ {l:List Nat},AllL P l→∀ i∈l,P i
 | [],_,i,hi=>by cases hi
 | [j],h,i,hi=>by rw[List.mem_singleton] at hi;subst hi;exact h
 | j::k::l,h,i,hi=>by
  rcases List.mem_cons.1 hi with rfl | hi
  ·exact h.1
  ·exact AllL_mem (l:=k::l) h.2 i hi
theorem bxAdd_le (i:Nat) (op:Op) (ρ:Operand→SV) (bx:List (Nat×Nat)):∀ s∈bx,s∈bxAdd i op ρ bx:=fun s hs=>by
 unfold bxAdd
 split
 ·exact .tail _ hs
 ·exact hs
theorem bxAdd_mem {i:Nat} {op:Op} {ρ:Operand→SV} {bx:List (Nat×Nat)}:∀ t x,op=.load t x→(i,spotS (ρ x))∈bxAdd i op ρ bx:=fun t x e1=>by
 subst e1
 unfold bxAdd
 exact .head _
theorem SimAt.advance (hD:DC ops) {K:KS}:∀ (n:Nat) {p bx F XV F0},Inv X ops im' L β a w F C I M p bx XV F0→Vd X ops im' n p bx F C I M K →
  ∃ p bx F XV F0 n,Inv X ops im' L β a w F C I M p bx XV F0∧readyK ops p true=[]∧Vd X ops im' (n+1) p bx F C I M K
 | 0,_,_,_,_,_,_,hv=>hv.elim
 | n+1,p,bx,F,XV,F0,hI,hv=>by
  cases hr:readyK ops p true with
  | nil=>exact⟨p,bx,F,XV,F0,n,hI,hr,hv⟩
  | cons q l=>
   have hmem:q∈readyK ops p true:=by rw[hr];simp
   obtain⟨o,hq,hqp,hqu,hdep⟩:=mem_readyK.1 hmem
   have hv':=hv
   unfold Vd at hv'
   rw[hr] at hv'
   simp only[hq] at hv'
   obtain⟨F1,him,⟨hrun,h1⟩ | ⟨hskip,h1⟩⟩:=Vg_pull hv'
   ·obtain⟨x,h2,h3⟩:=V_q_pull (V_qi_eq h1)
    exact SimAt.advance hD n (hI.record hD hq hqp hdep hqu him (bxAdd_le _ _ _ _) (.inl ⟨hrun,h3,bxAdd_mem⟩)) h2
   ·exact SimAt.advance hD n (hI.record hD hq hqp hdep hqu him (fun _ h=>h) (.inr ⟨hskip,rfl⟩)) h1
theorem mem_ready {listed:Array Bool} {i:Nat} (hsz:listed.size=ops.length):i∈Region.ready .any ops.toArray listed ↔ ∃ o,ops[i]?=some o∧¬ listed.getD i false=true∧∀ e,Dep ops i e→listed.getD e false=true:=by
 unfold Region.ready
 rw[List.mem_filter,List.mem_range]
 simp only[List.size_toArray,List.getElem?_toArray,Bool.and_eq_true,Bool.not_eq_true']
 have dep:∀ {o},ops[i]?=some o→((o.after.all fun e=>!Region.binds .any e || listed.getD e.on false)=true ↔ ∀ e,Dep ops i e→listed.getD e false=true):=fun {o} ho=>by
  rw[Array.all_eq_true_iff_forall_mem]
  constructor
  ·rintro h e ⟨o',ed,ho',hed,hb,rfl⟩
   rw[ho] at ho'
   cases ho'
   have:=h ed hed
   rw[hb] at this
   simpa using this
  ·intro h ed hed
   cases hb:Region.binds .any ed with
   | false=>simp
   | true=>simp[h ed.on ⟨o,ed,ho,hed,hb,rfl⟩]
 have gd:i < ops.length→(listed.getD i true=false ↔ ¬ listed.getD i false=true):=fun hi=>by
  have:i < listed.size:=by omega
  simp[Array.getD,this]
 constructor
 ·rintro⟨hlt,h1,h2⟩
  cases ho:ops[i]? with
  | none=>rw[ho] at h2;cases h2
  | some o=>
   rw[ho] at h2
   exact⟨o,rfl,(gd hlt).1 h1,(dep ho).1 h2⟩
 ·rintro⟨o,ho,h1,h2⟩
  have hlt:=(List.getElem?_eq_some_iff.1 ho).1
  refine⟨hlt,(gd hlt).2 h1,?_⟩
  rw[ho]
  exact(dep ho).2 h2
theorem listed_set {listed:Array Bool} {i:Nat} (hi:i < listed.size):(fun j=>(listed.setIfInBounds i true).getD j false=true)=fun j=>listed.getD j false=true∨j=i:=by
 funext j
 simp only[Array.getD_eq_getD_getElem?,Array.getElem?_setIfInBounds,eq_iff_iff]
 by_cases e:i=j
 ·subst e;simp[hi]
 ·simp only[if_neg e]
  constructor
  ·exact .inl
  ·rintro(h | h)
   ·exact h
   ·exact(e h.symm).elim
def todo (ops:List Oper) (listed:Array Bool):Nat:=((List.range ops.length).filter fun i=>!listed.getD i false).length
theorem todo_set {listed:Array Bool} {i:Nat} (hi:i < ops.length) (hsz:listed.size=ops.length) (hn:¬ listed.getD i false=true):todo ops (listed.setIfInBounds i true) < todo ops listed:=by
 unfold todo
 have key:∀ l:List Nat,l.Nodup→i∈l→((l.filter fun j=>!(listed.setIfInBounds i true).getD j false).length < (l.filter fun j=>!listed.getD j false).length):=by
  have same:∀ j,j≠i→(listed.setIfInBounds i true).getD j false=listed.getD j false:=fun j hj=>by
   simp only[Array.getD_eq_getD_getElem?,Array.getElem?_setIfInBounds,if_neg (Ne.symm hj)]
  have self:(listed.setIfInBounds i true).getD i false=true:=by
   have:i < listed.size:=by omega
   simp[Array.getD_eq_getD_getElem?,Array.getElem?_setIfInBounds,this]
  have hn':listed.getD i false=false:=by simpa using hn
  intro l
  induction l with
  | nil=>intro _ h;cases h
  | cons j l ih=>
   intro hnd hm
   rw[List.nodup_cons] at hnd
   by_cases e:j=i
   ·subst e
    have:l.filter (fun k=>!(listed.setIfInBounds j true).getD k false)=l.filter (fun k=>!listed.getD k false):=
     List.filter_congr fun k hk=>by rw[same k (fun e=>hnd.1 (e ▸ hk))]
    simp only[List.filter_cons,self,hn',this]
    simp
   ·have hm':i∈l:=by
     rcases List.mem_cons.1 hm with h | h
     ·exact(e h.symm).elim
     ·exact h
    have:=ih hnd.2 hm'
    simp only[List.filter_cons,same j e]
    split
    ·simp only[List.length_cons];omega
    ·exact this
 exact key _ List.nodup_range (List.mem_range.2 hi)
theorem sim (hE:EOK X.P X.E) (hD:DC ops) (hdn:∀ o∈ops,∀ d,o.dst=some d→d < X.n) {K:KS} {Q:Exit→Act→World→Prop} (hQ:∀ a w,Sat X K a w→Q .normal a w):∀ (fuel:Nat) (listed:Array Bool) (a:Act) (w:World),
  listed.size=ops.length→todo ops listed≤fuel→SimAt X ops im' K (fun i=>listed.getD i false=true) a w→wpAnyIn (fen X) 0 X.P .any ops.toArray Q fuel listed a w:=by
 intro fuel
 induction fuel with
 | zero=>
  rintro listed a w hsz hf ⟨β,F,C,I,M,p,bx,XV,F0,n,hI,hv⟩
  have hnil:Region.ready .any ops.toArray listed=[]:=by
   cases hr:Region.ready .any ops.toArray listed with
   | nil=>rfl
   | cons i l=>
    obtain⟨o,ho,hn,_⟩:=(mem_ready hsz).1 (by rw[hr];simp:i∈Region.ready .any ops.toArray listed)
    have:=todo_set (List.getElem?_eq_some_iff.1 ho).1 hsz hn
    omega
  refine⟨hnil,?_⟩
  obtain⟨p,bx,F,XV,F0,n,hI,hr1,hv⟩:=SimAt.advance hD n hI hv
  have nop:∀ i,p.testBit i=true→listed.getD i false=true:=fun i=>by
   induction i using Nat.strongRecOn with
   | ind i ih=>
    intro hp
    refine Classical.byContradiction fun hn=>?_
    obtain⟨o,ho,_⟩:=hI.pq i ⟨hp,hn⟩
    have:i∈Region.ready .any ops.toArray listed:=(mem_ready hsz).2 ⟨o,ho,hn,fun e he=>ih e (hD.lt i e he) (hI.cP i e hp he)⟩
    rw[hnil] at this
    cases this
  have hr2:readyK ops p false=[]:=by
   cases hr:readyK ops p false with
   | nil=>rfl
   | cons i l=>
    obtain⟨o,ho,hp,_,hd⟩:=mem_readyK.1 (by rw[hr];simp:i∈readyK ops p false)
    have:i∈Region.ready .any ops.toArray listed:=(mem_ready hsz).2 ⟨o,ho,fun hh=>(by have h7:=hI.sub i hh;rw[hp] at h7;exact Bool.noConfusion h7),fun e he=>nop e (hd e he)⟩
    rw[hnil] at this
    cases this
  unfold Vd at hv
  rw[hr1,hr2] at hv
  exact hQ _ _ ⟨F,C,I,M,⟨β,hI.rel.refine fun t=>hI.T t fun i hi=>(hi.2 (nop i hi.1)).elim⟩,hv⟩
 | succ fuel ih=>
  rintro listed a w hsz hf ⟨β,F,C,I,M,p,bx,XV,F0,n,hI,hv⟩
  obtain⟨p,bx,F,XV,F0,n,hI,hr1,hv⟩:=SimAt.advance hD n hI hv
  refine⟨fun hnil=>?_,fun q hq=>?_⟩
  ·have nop:∀ i,p.testBit i=true→listed.getD i false=true:=fun i=>by
    induction i using Nat.strongRecOn with
    | ind i ih=>
     intro hp
     refine Classical.byContradiction fun hn=>?_
     obtain⟨o,ho,_⟩:=hI.pq i ⟨hp,hn⟩
     have:i∈Region.ready .any ops.toArray listed:=(mem_ready hsz).2 ⟨o,ho,hn,fun e he=>ih e (hD.lt i e he) (hI.cP i e hp he)⟩
     rw[hnil] at this
     cases this
   have hr2:readyK ops p false=[]:=by
    cases hr:readyK ops p false with
    | nil=>rfl
    | cons i l=>
     obtain⟨o,ho,hp,_,hd⟩:=mem_readyK.1 (by rw[hr];simp:i∈readyK ops p false)
     have:i∈Region.ready .any ops.toArray listed:=(mem_ready hsz).2 ⟨o,ho,fun hh=>(by have h7:=hI.sub i hh;rw[hp] at h7;exact Bool.noConfusion h7),fun e he=>nop e (hd e he)⟩
     rw[hnil] at this
     cases this
   unfold Vd at hv
   rw[hr1,hr2] at hv
   exact hQ _ _ ⟨F,C,I,M,⟨β,hI.rel.refine fun t=>hI.T t fun i hi=>(hi.2 (nop i hi.1)).elim⟩,hv⟩
  ·obtain⟨o,ho,hn,hd⟩:=(mem_ready hsz).1 hq
   have hlt:=(List.getElem?_eq_some_iff.1 ho).1
   have hdo:=hdn o (List.mem_of_getElem? ho)
   have hset:=listed_set (listed:=listed) (i:=q) (by omega)
   have next:∀ a' w',SimAt X ops im' K (fun i=>listed.getD i false=true∨i=q) a' w'→wpAnyIn (fen X) 0 X.P .any ops.toArray Q fuel (listed.setIfInBounds q true) a' w':=fun a' w' h=>by
    refine ih _ a' w' (by simpa using hsz) ?_ (by rw[hset];exact h)
    have:=todo_set hlt hsz hn
    omega
   cases hqp:p.testBit q with
   | true=>
    exact hI.exec hE hD hdo ho ⟨hqp,hn⟩ hd fun a' h=>next a' w ⟨β,F,C,I,M,p,bx,XV,F0,n+1,h,hv⟩
   | false=>
    have hdp:∀ e,Dep ops q e→p.testBit e=true:=fun e he=>hI.sub e (hd e he)
    have hnq:isQuiet o.op=false:=by
     cases hqq:isQuiet o.op with
     | false=>rfl
     | true=>
      have:q∈readyK ops p true:=mem_readyK.2 ⟨o,ho,hqp,hqq,hdp⟩
      rw[hr1] at this
      cases this
    have hmem:q∈readyK ops p false:=mem_readyK.2 ⟨o,ho,hqp,hnq,hdp⟩
    unfold Vd at hv
    rw[hr1] at hv
    simp only at hv
    split at hv
    ·rename_i hr2
     rw[hr2] at hmem
     cases hmem
    ·rename_i i0 l0 hr2
     rw[hr2] at hmem
     have hb:=AllL_mem hv q hmem
     simp only[ho] at hb
     obtain⟨F1,him,hb⟩:=Vg_pull hb
     have hI1:=hI.refine him
     have hlk:=hI1.looksOk hD ho hqp hd
     have hidx:ops.toArray[q]?=some o:=by simpa using ho
     unfold wpOpIn
     simp only[hidx]
     rcases hb with ⟨hrun,hb⟩ | ⟨hskip,hb⟩
     ·rw[wanted_runs hrun hlk,if_pos rfl]
      cases hsolo:soloB ((befL ops).getD q 0) p with
      | true=>
       rw[hsolo] at hb
       simp only[V_de,cond_true] at hb
       have hall:∀ i,p.testBit i=true→listed.getD i false=true:=fun i hi=>by
        have h1:=Nat.eq_of_beq_eq_true hsolo
        have h2:(p &&& (befL ops).getD q 0).testBit i=true:=by rw[h1];exact hi
        rw[Nat.testBit_and,Bool.and_eq_true] at h2
        exact(bef_of_bit h2.2).mem hI.cL hd
       have hR:Rel X a w F1 C I M:=⟨β,hI1.rel.refine fun t=>hI1.T t fun i hi=>(hi.2 (hall i hi.1)).elim⟩
       refine Oper.wpIn_mono (fun a' w'=>?_) (V_op_sound hE hdo hR hb)
       rintro⟨F',C',I',M',⟨β',hr'⟩,hk⟩
       have nopd:∀ i,¬ Pd (fun i=>listed.getD i false=true∨i=q) (p ||| 2 ^ q) i:=fun i hi=>by
        rcases bit_or.1 hi.1 with h1 | h1
        ·exact hi.2 (.inl (hall i h1))
        ·exact hi.2 (.inr h1)
       refine next a' w' ⟨β',F',C',I',M',p ||| 2 ^ q,bx,XV,F0,n,⟨hr'.refine fun _=>trivial,?_,?_,?_,fun t _=>hr'.fr t,fun i hi=>(nopd i hi).elim⟩,hk⟩
       ·rintro i (hi | rfl)
        ·exact bit_or.2 (.inl (hI.sub i hi))
        ·exact bit_or.2 (.inr rfl)
       ·rintro j e (hj | rfl) he
        ·exact .inl (hI.cL j e hj he)
        ·exact .inl (hd e he)
       ·intro j e hj he
        rcases bit_or.1 hj with hj | rfl
        ·exact bit_or.2 (.inl (hI.cP j e hj he))
        ·exact bit_or.2 (.inl (hdp e he))
      | false=>
       rw[hsolo] at hb
       let G:Fr:=fun t=>if t∈looks ops o then F1 t else .junk
       have hG:∀ t,SVok β (G t) (a.tmps.getD t undef):=fun t=>by
        by_cases ht:t∈looks ops o
        ·simp only[G,if_pos ht];exact hlk t ht
        ·simp only[G,if_neg ht];trivial
       have hGe:∀ y∈o.op.operands,evr G y=evr F1 y:=fun y hy=>by
        cases y with
        | tmp t=>simp only[evr,G,if_pos (operand_looks hy)]
        | const v=>cases v<;>rfl
        | global g=>rfl
        | func f=>rfl
       refine Oper.wpIn_mono (fun a' w'=>?_) (eff_sound hE (hI1.rel.refine hG) hGe hb)
       rintro⟨v,x,C',I',M',rfl,hx,hr',hk,hm⟩
       refine next _ _ ⟨β,_,C',I',M',p ||| 2 ^ q,bx,XV,F0,n,hI1.step hD hdo ho hqp hd hx (hr'.refine fun _=>trivial) ?_,hk⟩
       rcases hm with ⟨hso,hkeep⟩ | ⟨rfl,hle,hkn⟩
       rotate_left
       ·exact fun _ _ _ _ _ _ _=>⟨fun _ _=>rfl,fun _=>mm_le hkn hle⟩
       have nobef:∀ {i},Pd (fun i=>listed.getD i false=true) p i→((befL ops).getD q 0).testBit i=true→False:=fun hi hb=>hi.2 ((bef_of_bit hb).mem hI.cL hd)
       intro i oi sp hi hoi hlo hmem
       have hno:∀ {s:Nat},bxNo ((befL ops).getD q 0) s bx=true→sp≠s:=fun {s} h e=>by
        rcases bxNo_mem h hmem with h1 | h1
        ·exact nobef hi h1
        ·exact h1 e
       rcases(Bool.or_eq_true _ _).mp hso with hsoft | hbox'
       ·have h1:=List.all_eq_true.1 hsoft i (List.mem_range.2 (List.getElem?_eq_some_iff.1 hoi).1)
        rw[hi.1,hoi] at h1
        simp only[Bool.not_true,Bool.false_or,Bool.or_eq_true,Bool.not_eq_true'] at h1
        rcases h1 with h1 | h1
        ·exact(nobef hi h1).elim
        ·rw[h1] at hlo;cases hlo
       rcases(Bool.or_eq_true _ _).mp hbox' with hbox | hfar
       ·unfold boxB at hbox
        split at hbox
        ·rename_i t0 x0 y0 e0
         split at hbox
         ·rename_i s0 off0 e1
          obtain⟨⟨k1,k3⟩,k2⟩:=hkeep.1 _ _ _ _ _ e0 e1
          exact⟨fun s' e=>k1 s' (fun e2=>hno hbox (by rw[e,e2])),fun _=>mm_le k2 k3⟩
         ·cases hbox
        ·cases hbox
       rcases(Bool.or_eq_true _ _).mp hfar with hfar | hptr
       ·unfold farB at hfar
        split at hfar
        ·rename_i t0 x0 y0 e0
         split at hfar
         ·rename_i ad0 e1
          exact⟨fun _ _=>by rw[(hkeep.2.1 _ _ _ _ e0 e1).1],fun e=>(hno hfar e).elim⟩
         ·cases hfar
        ·cases hfar
       unfold ptrB at hptr
       rw[Bool.and_eq_true] at hptr
       obtain⟨himt,hptr⟩:=hptr
       have him1:im' i=true:=by
        have h1:=List.all_eq_true.1 himt i (List.mem_range.2 (List.getElem?_eq_some_iff.1 hoi).1)
        rw[hi.1,hoi] at h1
        simp only[Bool.not_true,Bool.false_or,Bool.or_eq_true,Bool.not_eq_true'] at h1
        rcases h1 with h1 | h1 | h1
        ·exact(nobef hi h1).elim
        ·exact h1
        ·rw[h1] at hlo;cases hlo
       have hle:C'=C∧∀ b o,I b=some o→I' b=some o:=by
        unfold ptrO at hptr
        split at hptr
        ·rename_i t0 x0 y0 e0
         split at hptr
         ·rename_i ad0 e1
          exact hkeep.2.1 _ _ _ _ e0 e1
         ·cases hptr
        ·rename_i e0
         exact hkeep.2.2 (fun t x y e=>by rw[e0] at e;cases e)
        ·rename_i e0
         exact hkeep.2.2 (fun t x y e=>by rw[e0] at e;cases e)
        ·cases hptr
       exact⟨fun _ _=>by rw[hle.1],fun _=>by rw[him1];exact mm_le' hle.2⟩
     ·rw[wanted_skips hskip hlk]
      simp only[Bool.false_eq_true,if_false]
      refine⟨fun _ _=>trivial,next _ _ ⟨β,_,C,I,M,p ||| 2 ^ q,bx,XV,F0,n,hI1.step hD hdo ho hqp hd (x:=.val undef) rfl hI1.rel (fun _ _ _ _ _ _ _=>⟨fun _ _=>rfl,fun _ _ _ h=>h⟩),hb⟩⟩
end
theorem CodeOb.draw0 {X:Ctx} {id:Nat} {A:Array Oper} {F:Fr} {C:Bx} {I:GH} {M:List Blk} {K:KX} (hE:EOK X.P X.E) (hm:X.P.follows .mixedOrders=true) (hc:drawChk A.toList=true) (hn:opsOk X.n A=true)
  {im':Nat→Bool} (h:Vd X A.toList im' (A.size+1) 0 [] F C I M (K .normal)):CodeOb X (.region id A true) F C I M K:=by
 refine⟨fun a w ⟨β,hR⟩=>wpIn_region_any hm ?_⟩
 have hR':RelB X β a { w with drawn:=w.drawn+1 } F C I M:=hR.world rfl
 have hL:∀ i,(Array.replicate A.size false).getD i false=false:=fun i=>by
  by_cases hi:i < A.size<;>simp[Array.getD_eq_getD_getElem?,hi]
 have hnl:∀ {i},¬ (Array.replicate A.size false).getD i false=true:=fun {i}=>by rw[hL];simp
 have key:=sim (K:=K .normal) (Q:=SatX X K) hE (dc_of_chk hc) (opsOk_spec hn) (fun _ _ h=>h) A.size (Array.replicate A.size false) a { w with drawn:=w.drawn+1 } (by simp) ?_
  ⟨β,F,C,I,M,0,[],fun _=>.junk,fun _ _=>.junk,A.size+1,⟨hR'.refine fun _=>trivial,fun i hi=>(hnl hi).elim,fun j e hj=>(hnl hj).elim,fun j e hj=>by simp at hj,fun t _=>hR'.fr t,fun i hi=>by simp[Pd] at hi⟩,h⟩
 ·simpa using key
 ·unfold todo
  refine Nat.le_trans (List.length_filter_le _ _) (by simp)
theorem CodeOb.draw {X:Ctx} {id:Nat} {A:Array Oper} {F:Fr} {C:Bx} {I:GH} {M:List Blk} {K:KX} (hE:EOK X.P X.E) (hm:X.P.follows .mixedOrders=true) (hc:drawChk A.toList=true) (hn:opsOk X.n A=true)
  (h:Vd X A.toList (fun _=>false) (A.size+1) 0 [] F C I M (K .normal)):CodeOb X (.region id A true) F C I M K:=.draw0 hE hm hc hn h
theorem CodeOb.drawF {X:Ctx} {id:Nat} {A:Array Oper} {F:Fr} {C:Bx} {I:GH} {M:List Blk} {K:KX} (im:Nat→Bool) (hE:EOK X.P X.E) (hm:X.P.follows .mixedOrders=true) (hc:drawChk A.toList=true) (hn:opsOk X.n A=true)
  (h:Vd X A.toList im (A.size+1) 0 [] F C I M (K .normal)):CodeOb X (.region id A true) F C I M K:=.draw0 hE hm hc hn h
end Go.V
