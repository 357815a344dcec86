/-
  Part 5 of what the proofs of this seat share: the executor, data in memory, walks.
-/
import Derived.Test.YtellgkgedepkjaaGreatDoorK4
import Derived.Test.YtellgkgedepkjaaGreatDoorK2
import Derived.Test.YtellgkgedepkjaaGreatDoorK3
set_option linter.all false
namespace Go.V
open Go
noncomputable section
inductive Tri (α:Type) where
 | nil
 | node (x:Option α) (l r:Tri α)
def cnd {α:Type} (b:Bool) (x y:α):α:=@Bool.rec (fun _=>α) y x b
def opn {α R:Type} (o:Option α) (x:R) (f:α->R):R:=@Option.rec α (fun _=>R) x f o
section
variable {α R:Type}
def Tri.get (t:Tri α):Nat->Option α:=@Tri.rec α (fun _=>Nat->Option α) (fun _=>none)
 (fun x _ _ gl gr k=>cnd (Nat.beq k 0) x (cnd (Nat.beq (Nat.mod k 2) 1) (gl (Nat.div k 2)) (gr (Nat.sub (Nat.div k 2) 1)))) t
def Tri.setK (v:Option α) (t:Tri α):Nat->(Tri α->R)->R:=@Tri.rec α (fun _=>Nat->(Tri α->R)->R) (fun k K=>cnd (Nat.beq k 0) (K (.node v .nil .nil)) (K .nil))
 (fun x l r sl sr k K=>cnd (Nat.beq k 0) (K (.node v l r)) (cnd (Nat.beq (Nat.mod k 2) 1) (sl (Nat.div k 2) fun l=>K (.node x l r)) (sr (Nat.sub (Nat.div k 2) 1) fun r=>K (.node x l r)))) t
def Tri.manyK (t:Tri α) (off n:Nat):(List α->Option R)->Option R:=@Nat.rec (fun _=>Nat->(List α->Option R)->Option R) (fun _ K=>K [])
 (fun _ ih off K=>opn (t.get off) none fun v=>ih (Nat.add off 1) fun l=>K (v::l)) n off
def Tri.putsK (l:List α) (t:Tri α) (off:Nat) (K:Tri α->R):R:=@List.rec α (fun _=>Tri α->Nat->R) (fun t _=>K t)
 (fun v _ ih t off=>t.setK (some v) off fun t=>ih t (Nat.add off 1)) l t off
def Tri.bare:Nat->Tri α
 | 0=>.nil
 | n+1=>.node none (Tri.bare n) (Tri.bare n)
end
inductive EV where
 | b (x:Bool) | i (k:IntKind) (n:Int) | s (l:List UInt8)
 | pn | p (id off:Nat) | g (n off:Nat)
 | sn | sl (id off n c:Nat) | sx (id off e n:Nat) | gs (g off n c:Nat) | so
 | mn | m (id:Nat)
 | f (g:Nat) (l r:List EV) | y (id:Nat) | fn
 | ni | iv (t:Nat) (v:EV)
 | t (l:List EV) | a (l:List EV)
def EV.cells:EV->List EV
 | .a l=>l
 | v=>[v]
def EV.one:EV->Bool
 | .a _ | .t _=>false
 | _=>true
def ZgD:Value->Option EV
 | .bool x=>some (.b x)
 | .int k n=>some (.i k n)
 | .string q=>some (.s q.data.toList)
 | .pointer none=>some .pn
 | .slice none 0 0=>some .sn
 | .map none=>some .mn
 | .nilFunc=>some .fn
 | .nilIface=>some .ni
 | _=>none
def Z9w:List Value->Option (List EV)
 | []=>some []
 | v::vs=>match ZgD v,Z9w vs with
  | some x,some l=>some (x::l)
  | _,_=>none
def Zmo:Value->Option EV
 | .agg cs=>match Z9w cs.toList with
  | some l=>some (.a l)
  | none=>none
 | v=>ZgD v
def EV.nat:EV->Option Nat
 | .i _ (.ofNat n)=>some n
 | _=>none
inductive Ent where
 | cells (cs:Tri EV) (T lim:Nat)
 | map (es:List (EV×EV))
 | loop (busy:Bool) (n:Nat) (fr:Tri EV) (ps:List Nat) (asg body:Code)
 | done (c:Code) (n:Nat) (fr:Tri EV) (ps:List Nat) (asg body:Code)
structure Me where
 t:Tri Ent
 n:Nat
def eqI:Int->Int->Bool
 | .ofNat a,.ofNat b=>Nat.beq a b
 | .negSucc a,.negSucc b=>Nat.beq a b
 | _,_=>false
def leI:Int->Int->Bool
 | .ofNat a,.ofNat b=>Nat.ble a b
 | .negSucc a,.negSucc b=>Nat.ble b a
 | .negSucc _,.ofNat _=>true
 | .ofNat _,.negSucc _=>false
def ltI (a b:Int):Bool:=!leI b a
def Zof (op:BinOp) (x y:Int):Option Bool:=match op with
 | .eql=>some (eqI x y)
 | .neq=>some (!eqI x y)
 | .lss=>some (ltI x y)
 | .leq=>some (leI x y)
 | .gtr=>some (ltI y x)
 | .geq=>some (leI y x)
 | _=>none
def ZnN:IntKind->Nat
 | .i8=>127 | .i16=>32767 | .i32=>2147483647 | .i64=>9223372036854775807
 | .u8=>255 | .u16=>65535 | .u32=>4294967295 | .u64=>18446744073709551615
def Z8e (k:IntKind):Int->Int
 | .ofNat n=>bif Nat.ble n (ZnN k) then .ofNat n else k.wrap (.ofNat n)
 | n=>k.wrap n
def ZoF:Int->Int->Int
 | .ofNat a,.ofNat b=>.ofNat (Nat.add a b)
 | a,b=>a+b
def Zog:Int->Int->Int
 | .ofNat a,.ofNat b=>bif Nat.ble b a then .ofNat (Nat.sub a b) else (.ofNat a:Int) - .ofNat b
 | a,b=>a - b
def ZoG:Int->Int->Int
 | .ofNat a,.ofNat b=>.ofNat (Nat.mul a b)
 | a,b=>a * b
def ZoH:Int->Int->Int
 | .ofNat a,.ofNat b=>.ofNat (Nat.div a b)
 | a,b=>a.tdiv b
def ZoI:Int->Int->Int
 | .ofNat a,.ofNat b=>.ofNat (Nat.mod a b)
 | a,b=>a.tmod b
def ZoJ:Int->Nat->Int
 | .ofNat a,j=>.ofNat (Nat.mul a (Nat.pow 2 j))
 | a,j=>a * 2 ^ j
def ZoK:Int->Nat->Int
 | .ofNat a,j=>.ofNat (Nat.div a (Nat.pow 2 j))
 | a,j=>a.fdiv (2 ^ j)
def ZeL (op:BinOp) (k:IntKind) (x y:Int):Option Int:=
 match k,x,y with
 | .u64,.ofNat a,.ofNat b=>
  bif Nat.ble a 18446744073709551615 && Nat.ble b 18446744073709551615 then
   (match op with
   | .and=>some (.ofNat (Nat.land a b))
   | .or=>some (.ofNat (Nat.lor a b))
   | .xor=>some (.ofNat (Nat.xor a b))
   | .andNot=>some (.ofNat (Nat.land a (Nat.sub 18446744073709551615 b)))
   | _=>none)
  else none
 | _,_,_=>Z6C op k x y
def eqU (a b:UInt8):Bool:=Nat.beq a.toNat b.toNat
def eqS:List UInt8->List UInt8->Bool
 | [],[]=>true
 | a::l,b::m=>bif eqU a b then eqS l m else false
 | _,_=>false
def Zmp:EV->EV->Option Bool
 | .b x,.b w=>some (x == w)
 | .i k x,.i l w=>cnd (IntKind.eqb k l) (some (eqI x w)) none
 | .s x,.s w=>some (eqS x w)
 | _,_=>none
def ZoL:List EV->List EV->Option Bool
 | [],[]=>some true
 | x::l,w::m=>match Zmp x w with
  | some true=>ZoL l m
  | some false=>(match ZoL l m with
   | some _=>some false
   | none=>none)
  | none=>none
 | _,_=>none
def Zp4:EV->EV->Option Bool
 | .pn,.pn=>some true
 | .pn,.p _ _=>some false
 | .p _ _,.pn=>some false
 | .pn,.g _ _=>some false
 | .g _ _,.pn=>some false
 | _,_=>none
def Zld (op:BinOp) (k k':IntKind) (a b:Int):Option EV:=match op with
 | .shl=>(match b with
  | .ofNat j=>some (.i k (Z8e k (ZoJ a (cnd (Nat.ble j k.bits) j k.bits))))
  | _=>none)
 | .shr=>(match b with
  | .ofNat j=>some (.i k (ZoK a (cnd (Nat.ble j k.bits) j k.bits)))
  | _=>none)
 | .add=>cnd (IntKind.eqb k k') (some (.i k (Z8e k (ZoF a b)))) none
 | .sub=>cnd (IntKind.eqb k k') (some (.i k (Z8e k (Zog a b)))) none
 | .mul=>cnd (IntKind.eqb k k') (some (.i k (Z8e k (ZoG a b)))) none
 | .quo=>cnd (IntKind.eqb k k') (cnd (eqI b 0) none (some (.i k (Z8e k (ZoH a b))))) none
 | .rem=>cnd (IntKind.eqb k k') (cnd (eqI b 0) none (some (.i k (ZoI a b)))) none
 | .and=>cnd (IntKind.eqb k k') (opn (ZeL .and k a b) none fun r=>some (.i k r)) none
 | .or=>cnd (IntKind.eqb k k') (opn (ZeL .or k a b) none fun r=>some (.i k r)) none
 | .xor=>cnd (IntKind.eqb k k') (opn (ZeL .xor k a b) none fun r=>some (.i k r)) none
 | .andNot=>cnd (IntKind.eqb k k') (opn (ZeL .andNot k a b) none fun r=>some (.i k r)) none
 | op=>cnd (IntKind.eqb k k') (opn (Zof op a b) none fun r=>some (.b r)) none
def Zle (op:BinOp) (a b:List UInt8):Option EV:=match op with
 | .eql=>some (.b (eqS a b))
 | .neq=>some (.b (cnd (eqS a b) false true))
 | .add=>cnd (Nat.ble (Nat.add a.length b.length) 9223372036854775807) (some (.s (a++b))) none
 | _=>none
def ZgE (op:BinOp) (ti:Option TI) (a b:Bool):Option EV:=match ti with
 | some { sh:=.bool,.. }=>
  (match op with
  | .eql=>some (.b (a == b))
  | .neq=>some (.b (!(a == b)))
  | _=>none)
 | _=>none
def ZeM (agg:Bool) (l:List EV):Option EV:=bif agg then some (.a l) else match l with
 | [v]=>some v
 | _=>none
def Zcd:Nat->List EV->Option (List EV)
 | 0,_=>some []
 | _+1,[]=>none
 | n+1,v::l=>match Zcd n l with
  | some r=>some (v::r)
  | none=>none
def Zce {α:Type}:List α->Nat->List α
 | [],_=>[]
 | v::l,n=>bif Nat.beq n 0 then v::l else Zce l (Nat.sub n 1)
def ZaO (E:Env) (t o:Nat) (l:List EV):Option EV:=opn (E t) none fun i=>cnd (Nat.beq i.size 0) none <| opn (Zcd i.size (Zce l o)) none fun r=>ZeM i.sh.agg r
def Zj2 (F:Nat->EV->EV->Option Bool) (E:Env) (l m:List EV):List (Nat×Nat)->Option Bool
 | []=>some true
 |(t,o)::r=>opn (ZaO E t o l) none fun x=>opn (ZaO E t o m) none fun y=>opn (F t x y) none fun b=>cnd b (Zj2 F E l m r) (some false)
def Zk9 (P:Program) (t:Nat):Bool:=match P.underlying t with
 | some (.struct fs)=>!P.stoodInHeld t && fs.toList.all fun f=>decide (f.name ≠ "_")
 | _=>false
def eqT (P:Program) (E:Env):Nat->Nat->EV->EV->Option Bool
 | 0,_,_,_=>none
 | d+1,t,x,y=>opn (E t) none fun i=>match i.sh,x,y with
  | .bool,.b a,.b b=>some (a == b)
  | .int _,.i k a,.i k' b=>cnd (IntKind.eqb k k') (some (eqI a b)) none
  | .string,.s a,.s b=>some (eqS a b)
  | .struct fs,.a l,.a m=>cnd (Zk9 P t) (Zj2 (eqT P E d) E l m fs) none
  | .array n e,.a l,.a m=>opn (E e) none fun ei=>Zj2 (eqT P E d) E l m ((List.range n).map fun i=>(e,i * ei.size))
  | _,_,_=>none
def Zcf (P:Program) (E:Env) (op:BinOp) (t:Nat) (l m:List EV):Option EV:=cnd (P.eqGuardType P.depth t) none (opn (eqT P E 8 t (.a l) (.a m)) none fun b=>match op with
 | .eql=>some (.b b)
 | .neq=>some (.b (!b))
 | _=>none)
def Zlf (P:Program) (E:Env) (op:BinOp) (t:Nat) (x y:EV):Option EV:=
 match x,y with
 | .i k a,.i k' b=>Zld op k k' a b
 | .s a,.s b=>Zle op a b
 | .b a,.b b=>ZgE op (E t) a b
 | .a l,.a m=>Zcf P E op t l m
 | _,_=>none
def Zit {α:Type}:List α->Nat->Option α
 | [],_=>none
 | v::l,n=>bif Nat.beq n 0 then some v else Zit l (Nat.sub n 1)
def Z3a:List EV->Nat->List EV->Option (List EV)
 | cs,0,[]=>some cs
 | _::cs,0,v::vs=>match Z3a cs 0 vs with
  | some r=>some (v::r)
  | none=>none
 | c::cs,n+1,vs=>match Z3a cs n vs with
  | some r=>some (c::r)
  | none=>none
 | [],_,_=>none
def ZaP (place:Nat->Option (Nat×Nat)):List EV->List (Nat×EV)->Option (List EV)
 | cells,[]=>some cells
 | cells,(i,v)::rest=>match place i with
  | none=>none
  | some (off,size)=>bif Nat.beq v.cells.length size then (match Z3a cells off v.cells with
   | some cs=>ZaP place cs rest
   | none=>none) else none
def rdO (fr:Tri EV):Operand->Option EV
 | .tmp t=>fr.get t
 | .const v=>Zmo v
 | .global g=>some (.g g 0)
 | .func f=>some (.f f [] [])
def rdL (fr:Tri EV):List Operand->Option (List EV)
 | []=>some []
 | x::xs=>match rdO fr x,rdL fr xs with
  | some v,some l=>some (v::l)
  | _,_=>none
def rdP (fr:Tri EV):List (Nat×Operand)->Option (List (Nat×EV))
 | []=>some []
 |(i,x)::xs=>match rdO fr x,rdP fr xs with
  | some v,some l=>some ((i,v)::l)
  | _,_=>none
abbrev GT:=Nat->Option (Tri EV)
def Z6c {R:Type} (G:GT) (m:Tri Ent) (x:EV) (n:Nat) (K:List EV->Option R):Option R:=match x with
 | .p id off=>(match m.get id with
  | some (.cells cs _ lim)=>bif Nat.ble (Nat.add off n) lim then cs.manyK off n K else none
  | _=>none)
 | .g g off=>(match G g with
  | some cs=>cs.manyK off n K
  | none=>none)
 | _=>none
def ZmN (x:EV) (n:Nat):Option EV:=match x with
 | .p id off=>some (.p id (Nat.add off n))
 | .g g off=>some (.g g (Nat.add off n))
 | _=>none
def Zj3 (x:EV) (j sz:Nat):Option EV:=match x with
 | .sl id off n _=>bif Nat.blt j n then some (.p id (Nat.add off (Nat.mul j sz))) else none
 | .sx id off _ n=>bif Nat.blt j n then some (.p id (Nat.add off (Nat.mul j sz))) else none
 | .gs g off n _=>bif Nat.blt j n then some (.g g (Nat.add off (Nat.mul j sz))) else none
 | _=>none
def Ziu:EV->Option Nat
 | .sn | .so=>some 0
 | .sl _ _ n _ | .sx _ _ _ n | .gs _ _ n _=>some n
 | _=>none
def ZeN (v:EV):Option Nat:=match v with
 | .s l=>some l.length
 | v=>Ziu v
def Zoh (x:EV) (sz l:Nat) (h:Option Nat):Option EV:=match x with
 | .sn=>bif Nat.beq l 0 && Nat.beq (h.getD 0) 0 then some .sn else none
 | .sl id off n c=>let h:=h.getD n
  bif Nat.ble l h && Nat.ble h c then bif Nat.beq c l then some (.sl id off (Nat.sub h l) 0) else some (.sl id (Nat.add off (Nat.mul l sz)) (Nat.sub h l) (Nat.sub c l)) else none
 | .sx id off e n=>let h:=h.getD n
  bif Nat.ble l h && Nat.ble h n then (bif Nat.beq l 0 || Nat.blt l n then some (.sx id (Nat.add off (Nat.mul l sz)) (Nat.add e l) (Nat.sub h l)) else some .so) else none
 | _=>none
def Zlg (o:Option (Option EV)):Option (Option Nat):=match o with
 | none=>some none
 | some (some v)=>(match v.nat with
  | some n=>some (some n)
  | none=>none)
 | some none=>none
def Zlh (l:List UInt8) (lo hi:Nat):List UInt8:=(Zce l lo).take (Nat.sub hi lo)
def Zka (c a b:Option EV):Option EV:=match c,a,b with
 | some (.b c),some u,some v=>some (cnd c u v)
 | _,_,_=>none
def ZoM (op:UnOp) (x:Option EV):Option EV:=match op,x with
 | .not,some (.b b)=>some (.b (cnd b false true))
 | .neg,some (.i k n)=>some (.i k (Z8e k (0 - n)))
 | _,_=>none
def ZmO (P:Program) (E:Env) (op:BinOp) (t:Nat) (x y:Option EV):Option EV:=opn x none fun x=>opn y none fun y=>Zlf P E op t x y
def Zkb (G:GT) (m:Tri Ent) (i:Option TI) (x:Option EV):Option EV:=opn i none fun i=>opn x none fun x=>Z6c G m x i.size fun l=>ZeM i.sh.agg l
def ZmP (x:Option EV):Option EV:=match x with
 | some (.p id off)=>some (.p id off)
 | some (.g g off)=>some (.g g off)
 | _=>none
def Zj4 (E:Env) (t i:Nat):Option (Nat×TI):=match E t with
 | some { sh:=.struct fs,.. }=>(match Zit fs i with
  | some (ft,off)=>(match E ft with
   | some fi=>some (off,fi)
   | none=>none)
  | none=>none)
 | _=>none
def ZgF (r:Option (Nat×TI)) (x:Option EV):Option EV:=opn r none fun r=>opn x none fun x=>cnd (Nat.beq r.2.size 0) none (ZmN x r.1)
def ZdA (ei:TI) (cs:List EV) (off:Nat):Option EV:=cnd (Nat.beq ei.size 0) none <| opn (Zcd ei.size (Zce cs off)) none fun l=>ZeM ei.sh.agg l
def ZgG (r:Option (Nat×TI)) (x:Option EV):Option EV:=match r,x with
 | some (off,fi),some (.a cs)=>ZdA fi cs off
 | _,_=>none
def Zoi (E:Env) (t:Nat):Option (Option Nat×TI):=match E t with
 | some { sh:=.slice e,.. }=>(match E e with
  | some ei=>some (none,ei)
  | none=>none)
 | some { sh:=.array n e,.. }=>(match E e with
  | some ei=>some (some n,ei)
  | none=>none)
 | _=>none
def ZgH (r:Option (Option Nat×TI)) (x i:Option EV):Option EV:=opn r none fun r=>opn x none fun x=>opn i none fun i=>opn i.nat none fun j=>
 opn r.1 (Zj3 x j r.2.size) fun n=>cnd (Nat.blt j n) (ZmN x (Nat.mul j r.2.size)) none
def ZgI (l:List UInt8) (j:Nat):Option EV:=opn (Zit l j) none fun b=>some (.i .u8 (.ofNat b.toNat))
def Zkc (cs:List EV) (j n:Nat) (ei:TI):Option EV:=cnd (Nat.beq (Nat.mul n ei.size) cs.length && Nat.blt j n) (ZdA ei cs (Nat.mul j ei.size)) none
def Z7r (E:Env) (t:Nat) (x i:Option EV):Option EV:=match E t,x,i with
 | some { sh:=.string,.. },some (.s l),some i=>opn i.nat none fun j=>ZgI l j
 | some { sh:=.array n e,.. },some (.a cs),some i=>opn (E e) none fun ei=>opn i.nat none fun j=>Zkc cs j n ei
 | _,_,_=>none
def aO (o:Option (List EV)):Option EV:=opn o none fun l=>some (.a l)
def ZgJ (E:Env) (t:Nat) (ps:Option (List (Nat×EV))):Option EV:=match E t,ps with
 | some i,some vs=>opn (Z9w i.zero) none fun z=>(match i.sh with
  | .struct fs=>cnd (Z3J E fs) (aO (ZaP (Z3Z E fs) z vs)) none
  | .array _ e=>opn (E e) none fun ei=>aO (ZaP (fun j=>some (j * ei.size,ei.size)) z vs)
  | _=>none)
 | _,_=>none
def ZmQ (f:Fn) (fs cs:Option (List EV)):Option EV:=match f,fs,cs with
 | .func g,some fs,some cs=>some (.f g fs cs)
 | _,_,_=>none
def Zli (ei:TI) (x:EV) (lo hi:Option Nat):Option EV:=match lo,hi with
 | none,none=>(match x with
  | .sn | .sl .. | .sx .. | .so=>some x
  | _=>none)
 | lo,hi=>Zoh x ei.size (lo.getD 0) hi
def ZgK (l:List UInt8) (lo hi:Option Nat):Option EV:=match lo,hi with
 | none,none=>some (.s l)
 | lo,hi=>cnd (Nat.ble (lo.getD 0) (hi.getD l.length) && Nat.ble (hi.getD l.length) l.length) (some (.s (Zlh l (lo.getD 0) (hi.getD l.length)))) none
def Z7s (E:Env) (t:Nat) (x:Option EV) (lo hi:Option (Option Nat)):Option EV:=match E t,x,lo,hi with
 | some { sh:=.slice e,.. },some x,some lo,some hi=>opn (E e) none fun ei=>Zli ei x lo hi
 | some { sh:=.string,.. },some (.s l),some lo,some hi=>ZgK l lo hi
 | _,_,_,_=>none
def ZmR (x:Option EV) (i:Nat):Option EV:=match x with
 | some (.t vs)=>Zit vs i
 | _=>none
def Zkd (E:Env) (s d:Nat) (x:Option EV):Option EV:=match E s,E d,x with
 | some _,some { sh:=.int k,.. },some (.i _ n)=>some (.i k (Z8e k n))
 | _,_,_=>none
def nO (o:Option Nat):Option EV:=opn o none fun n=>some (.i .i64 (.ofNat n))
def ZmS (E:Env) (ts:List Nat) (l:Option (List EV)):Option EV:=match ts,l with
 | [t],some [v]=>(match E t,v with
  | some { sh:=.slice _,.. },v=>nO (Ziu v)
  | some { sh:=.string,.. },.s l=>nO (some l.length)
  | some { sh:=.array n _,.. },_=>nO (some n)
  | _,_=>none)
 | _,_=>none
def ZmT (l:Option (List EV)):Option EV:=match l with
 | some [.i k a,.i _ b]=>some (.i k (cnd (leI a b) b a))
 | _=>none
def ZmU (l:Option (List EV)):Option EV:=match l with
 | some [.i k a,.i _ b]=>some (.i k (cnd (leI a b) a b))
 | _=>none
def ZmV (E:Env) (ts:List Nat) (l:Option (List EV)):Option EV:=match ts,l with
 | [t],some [.sl _ _ _ c]=>(match E t with
  | some { sh:=.slice _,.. }=>some (.i .i64 (.ofNat c))
  | _=>none)
 | _,_=>none
def Zke (l:Option (List EV)):Option EV:=match l with
 | some [.sn]=>some .pn
 | some [.sl id off n c]=>cnd (Nat.beq c 0) none (some (.p id off))
 | some [.sx id off e n]=>cnd (Nat.beq n 0) none (some (.p id off))
 | _=>none
def ZgL (E:Env) (b:Builtin) (ts:List Nat) (l:Option (List EV)):Option EV:=match b with
 | .len=>ZmS E ts l
 | .max=>ZmT l
 | .min=>ZmU l
 | .cap=>ZmV E ts l
 | .unsafeSliceData=>Zke l
 | _=>none
def E_q (P:Program) (E:Env) (G:GT) (m:Tri Ent) (op:Op) (fr:Tri EV):Option EV:=
 match op with
 | .move x=>rdO fr x
 | .assign x=>rdO fr x
 | .pick c a b=>Zka (rdO fr c) (rdO fr a) (rdO fr b)
 | .unOp op _ x=>ZoM op (rdO fr x)
 | .binOp op t x y _=>ZmO P E op t (rdO fr x) (rdO fr y)
 | .load t x=>Zkb G m (E t) (rdO fr x)
 | .nilCheck x=>ZmP (rdO fr x)
 | .fieldAddr t x i=>ZgF (Zj4 E t i) (rdO fr x)
 | .field t x i=>ZgG (Zj4 E t i) (rdO fr x)
 | .indexAddr t x i=>ZgH (Zoi E t) (rdO fr x) (rdO fr i)
 | .index t x i=>Z7r E t (rdO fr x) (rdO fr i)
 | .build t parts=>ZgJ E t (rdP fr parts.toList)
 | .makeFunc f first captured=>ZmQ f (rdL fr first.toList) (rdL fr captured.toList)
 | .slice t x lo hi none=>Z7s E t (rdO fr x) (Zlg (lo.map (rdO fr))) (Zlg (hi.map (rdO fr)))
 | .extract x i=>ZmR (rdO fr x) i
 | .convert s d x=>Zkd E s d (rdO fr x)
 | .call { callee:=.builtin b,args,argTypes }=>ZgL E b argTypes.toList (rdL fr args.toList)
 | _=>none
def Z2D {R:Type} (n:Nat) (K:Nat->R):R:=Nat.casesOn (Nat.add n 1) (K 0) K
def Zkf {R:Type} (n:Int) (K:Int->R):R:=match n with
 | .ofNat n=>Z2D n fun n=>K (.ofNat n)
 | .negSucc n=>Z2D n fun n=>K (.negSucc n)
def Zkg {R:Type} (b:Bool) (K:Bool->R):R:=cnd b (K true) (K false)
def ZgM {R:Type} (v:EV) (K:EV->R):R:=match v with
 | .b x=>Zkg x fun x=>K (.b x)
 | .i k n=>Zkf n fun n=>K (.i k n)
 | .p id off=>Z2D off fun off=>K (.p id off)
 | .g id off=>Z2D off fun off=>K (.g id off)
 | .sl id off n c=>Z2D off fun off=>Z2D n fun n=>Z2D c fun c=>K (.sl id off n c)
 | .sx id off e n=>Z2D off fun off=>Z2D e fun e=>Z2D n fun n=>K (.sx id off e n)
 | v=>K v
def Zlj {R:Type} (m:Me) (e:Ent) (K:Nat->Me->R):R:=Z2D m.n fun n=>m.t.setK (some e) n fun t=>K n ⟨t,Nat.add n 1⟩
def ZgN {R:Type} (m:Me) (l:List EV) (T:Nat) (K:Nat->Me->R):R:=Tri.putsK l .nil 0 fun cs=>Zlj m (.cells cs T l.length) K
def Z4R {R:Type} (m:Me) (x:EV) (l:List EV) (K:Me->Option R):Option R:=match x with
 | .p id off=>(match m.t.get id with
  | some (.cells cs T lim)=>bif Nat.ble (Nat.add off l.length) lim && l.all EV.one then Tri.putsK l cs off fun cs=>m.t.setK (some (.cells cs T lim)) id fun t=>K ⟨t,m.n⟩ else none
  | _=>none)
 | _=>none
def Zlk:Nat->List EV->List EV
 | 0,_=>[]
 | n+1,z=>z++Zlk n z
def ZeO (i:Option TI):Bool:=match i with
 | some { sh:=.int .u8,.. }=>true
 | _=>false
def Ziv (u:Option TI) (ei:TI) (x:EV):Bool:=match u,x with
 | some { sh:=.slice _,.. },.sn=>true
 | some { sh:=.slice _,.. },.so=>true
 | some { sh:=.slice _,.. },.sl ..=>true
 | some { sh:=.slice _,.. },.sx ..=>true
 | some { sh:=.string,.. },.s _=>Nat.beq ei.size 1
 | _,_=>false
def ZeP (G:GT) (m:Tri Ent) (x:EV) (sz:Nat) {R:Type} (K:List EV->Option R):Option R:=match x with
 | .sn | .so=>K []
 | .sl id off n _ | .sx id off _ n=>Z6c G m (.p id off) (Nat.mul n sz) K
 | .s l=>K (l.map fun b=>.i .u8 (.ofNat b.toNat))
 | _=>none
def Zll (G:GT) (m:Me) (id off n c:Nat) (l:List EV) (k sz T:Nat):Option (EV×Me):=
 cnd (Nat.ble (Nat.add n k) c) (Z4R m (.p id (Nat.add off (Nat.mul n sz))) l fun m=>some (.sl id off (Nat.add n k) c,m))
  (Z6c G m.t (.p id off) (Nat.mul n sz) fun old=>ZgN m (old++l) T fun id m=>some (.sx id 0 0 (Nat.add n k),m))
def Zlm (m:Me) (id:Nat) (n:Nat) (cs:Tri EV) (lim:Nat) (l:List EV) (k sz T:Nat):Option (EV×Me):=
 cnd (Nat.ble (Nat.mul n sz) lim) (m.t.setK none id fun t=>Tri.putsK l cs (Nat.mul n sz) fun cs=>Zlj ⟨t,m.n⟩ (.cells cs T (Nat.mul (Nat.add n k) sz)) fun id m=>some (.sx id 0 0 (Nat.add n k),m)) none
def ZmW (G:GT) (m:Me) (s:EV) (l:List EV) (k sz bytes T:Nat):Option (EV×Me):=match s with
 | .sn=>cnd (Nat.ble (Nat.mul k bytes) 140737488355328 && Nat.ble k 9223372036854775807) (ZgN m l T fun id m=>some (.sx id 0 0 k,m)) none
 | .sl id off n c=>cnd (Nat.ble (Nat.mul (Nat.add n k) bytes) 140737488355328 && Nat.ble (Nat.add n k) 9223372036854775807) (Zll G m id off n c l k sz T) none
 | .sx id off e n=>(match m.t.get id with
  | some (.cells cs T' lim)=>cnd ((Nat.beq off 0 && Nat.beq e 0) && (Nat.beq T' T && (Nat.ble (Nat.mul (Nat.add n k) bytes) 140737488355328 && Nat.ble (Nat.add n k) 9223372036854775807))) (Zlm m id n cs lim l k sz T) none
  | _=>none)
 | _=>none
def Z8H:List EV->Option (List UInt8)
 | []=>some []
 | .i .u8 (.ofNat n)::l=>bif Nat.ble n 255 then (match Z8H l with
  | some r=>some (UInt8.ofNat n::r)
  | none=>none) else none
 | _=>none
def ZgO:EV->List (EV×EV)->Option (Option EV)
 | _,[]=>some none
 | k,(x,v)::l=>match Zmp k x with
  | some true=>some (some v)
  | some false=>ZgO k l
  | none=>none
def ZmX (k v:EV):List (EV×EV)->Option (List (EV×EV))
 | []=>some [(k,v)]
 |(x,u)::l=>match Zmp k x with
  | some true=>some ((k,v)::l)
  | some false=>(match ZmX k v l with
   | some r=>some ((x,u)::r)
   | none=>none)
  | none=>none
abbrev PR:=Nat->List EV->Me->Option (EV×Me)
structure RK where
 P:Program
 E:Env
 G:GT
 pr:PR
def ZmY (i:Option TI) (t:Nat) (x:Option EV):Option (List EV×Nat×Nat×(Nat->EV)):=opn i none fun i=>opn x none fun v=>cnd (Nat.beq v.cells.length i.size) (some (v.cells,t,1,fun id=>.p id 0)) none
def ZgP (i:Option TI) (t:Nat):Option (List EV×Nat×Nat×(Nat->EV)):=opn i none fun i=>opn (Z9w i.zero) none fun z=>some (z,t,1,fun id=>.p id 0)
def ZmZ (E:Env) (t len:Nat) (ps:Option (List (Nat×EV))):Option (List EV×Nat×Nat×(Nat->EV)):=match E t,ps with
 | some { sh:=.slice e,.. },some vs=>opn (E e) none fun ei=>opn (Z9w ei.zero) none fun z=>
  cnd (Nat.ble (Nat.mul len ei.size) 16777216 && Nat.blt 0 (Nat.mul len ei.size)) (opn (ZaP (fun j=>some (j * ei.size,ei.size)) (Zlk len z) vs) none fun cs=>some (cs,e,len,fun id=>.sl id 0 len len))
   (cnd (Nat.beq len 0 && vs.isEmpty) (some ([],e,0,fun id=>.sl id 0 0 0)) none)
 | _,_=>none
def Zkh (E:Env) (t:Nat) (l c:Option EV):Option (List EV×Nat×Nat×(Nat->EV)):=match E t,l,c with
 | some { sh:=.slice e,.. },some l,some c=>opn (E e) none fun ei=>opn l.nat none fun n=>opn c.nat none fun k=>opn (Z9w ei.zero) none fun z=>
  cnd (Nat.ble n k && (Nat.ble (Nat.mul ei.bytes k) 140737488355328 && Nat.ble k 9223372036854775807)) (some (Zlk k z,e,k,fun id=>.sl id 0 n k)) none
 | _,_,_=>none
def E_a (E:Env) (o:Oper) (fr:Tri EV):Option (List EV×Nat×Nat×(Nat->EV)):=
 match o.op with
 | .box t x=>ZmY (E t) t (rdO fr x)
 | .alloc t=>ZgP (E t) t
 | .buildSlice t len parts=>ZmZ E t len (rdP fr parts.toList)
 | .makeSlice t l c=>Zkh E t (rdO fr l) (rdO fr c)
 | _=>none
def Z9x (i:Option TI) (m:Me) (x y:Option EV):Option (EV×Me):=opn i none fun i=>opn x none fun x=>opn y none fun v=>cnd (Nat.beq v.cells.length i.size) (Z4R m x v.cells fun m=>some (.t [],m)) none
def Zj5 (i:Option TI) (m:Me):Option (EV×Me):=match i with
 | some { sh:=.map k e,.. }=>Zlj m (.map []) fun id m=>some (.m id,m)
 | _=>none
def ZnO (i:Option TI) (v:EV):Bool:=match i,v with
 | some { sh:=.int k,.. },.i k' _=>IntKind.eqb k k'
 | some { sh:=.string,.. },.s _=>true
 | _,_=>false
def Zn0 (ok:Bool) (z:EV) (r:Option EV):EV:=cnd ok (opn r (.t [z,.b false]) fun v=>.t [v,.b true]) (opn r z fun v=>v)
def ZgQ (P:Program) (E:Env) (t:Nat) (m:Me) (x y:Option EV) (ok:Bool):Option (EV×Me):=match E t,x,y with
 | some { sh:=.map k e,.. },some (.m id),some y=>cnd (ZnO (E k) y) (match m.t.get id with
  | some (.map es)=>opn (ZgO y es) none fun r=>opn (P.info? e) none fun inf=>opn inf.zero none fun z=>opn (Zmo z) none fun z=>some (Zn0 ok z r,m)
  | _=>none) none
 | _,_,_=>none
def ZgR (E:Env) (t:Nat) (m:Me) (x y z:Option EV):Option (EV×Me):=match E t,x,y,z with
 | some { sh:=.map k e,.. },some (.m id),some y,some v=>cnd (ZnO (E k) y) (match m.t.get id with
  | some (.map es)=>opn (ZmX y v es) none fun es=>m.t.setK (some (.map es)) id fun t=>some (.t [],⟨t,m.n⟩)
  | _=>none) none
 | _,_,_,_=>none
def Zj6 (G:GT) (m:Me) (id off n:Nat):Option (EV×Me):=Z6c G m.t (.p id off) n fun l=>opn (Z8H l) none fun l=>some (.s l,m)
def ZdB (Y:RK) (m:Me) (s d:Nat) (x:Option EV):Option (EV×Me):=match Y.E s,Y.E d,x with
 | some { sh:=.slice e,.. },some { sh:=.string,.. },some (.sl id off n _)=>cnd (ZeO (Y.E e)) (Zj6 Y.G m id off n) none
 | some { sh:=.slice e,.. },some { sh:=.string,.. },some (.sx id off _ n)=>cnd (ZeO (Y.E e)) (Zj6 Y.G m id off n) none
 | some { sh:=.slice e,.. },some { sh:=.string,.. },some .sn=>cnd (ZeO (Y.E e)) (some (.s [],m)) none
 | _,_,_=>none
def Zmq:EV->Bool
 | .sn | .so | .sx ..=>true
 | .sl _ _ n c=>Nat.ble n c
 | _=>false
def Zln (Y:RK) (m:Me) (ts:List Nat) (l:Option (List EV)):Option (EV×Me):=match ts,l with
 | [t,u],some [s,x]=>(match Y.E t with
  | some { sh:=.slice e,.. }=>opn (Y.E e) none fun ei=>cnd (Ziv (Y.E u) ei x) (ZeP Y.G m.t x ei.size fun l=>opn (ZeN x) none fun k=>
    cnd (Nat.beq k 0) (cnd (Zmq s) (some (s,m)) none) (cnd (l.all EV.one) (ZmW Y.G m s l k ei.size ei.bytes e) none)) none
  | _=>none)
 | _,_=>none
def ZgS (Y:RK) (m:Me) (ts:List Nat) (l:Option (List EV)):Option (EV×Me):=match ts,l with
 | [t,u],some [.sl id off n c,.s q]=>(match Y.E t with
  | some { sh:=.slice e,.. }=>opn (Y.E e) none fun ei=>cnd (Nat.beq ei.size 1 && Nat.ble q.length n) (Z4R m (.p id off) (q.map fun b=>.i .u8 (.ofNat b.toNat)) fun m=>some (.i .i64 (.ofNat q.length),m)) none
  | _=>none)
 | _,_=>none
def ZgT (Y:RK) (m:Me) (ts:List Nat) (l:Option (List EV)):Option (EV×Me):=match ts,l with
 | [pt,it],some [.pn,.i .i64 (.ofNat 0)]=>some (.s [],m)
 | [pt,it],some [.p id 0,.i .i64 (.ofNat n)]=>(match Y.E pt,m.t.get id with
  | some { sh:=.pointer e,.. },some (.cells cs T lim)=>opn (Y.E e) none fun ei=>
   cnd (Nat.beq ei.size 1 && (Nat.beq T e && Nat.blt 0 n)) (Z6c Y.G m.t (.p id 0) n fun l=>opn (Z8H l) none fun l=>cnd (Nat.ble n 9223372036854775807) (m.t.setK none id fun t=>some (.s l,⟨t,m.n⟩)) none) none
  | _,_=>none)
 | _,_=>none
def ZoN (Y:RK) (m:Me) (b:Builtin) (ts:List Nat) (l:Option (List EV)):Option (EV×Me):=match b with
 | .append=>Zln Y m ts l
 | .copy=>ZgS Y m ts l
 | .unsafeString=>ZgT Y m ts l
 | _=>none
def E_x (Y:RK) (m:Me) (o:Oper) (fr:Tri EV):Option (EV×Me):=
 match o.op with
 | .store t x y=>opn o.dst (Z9x (Y.E t) m (rdO fr x) (rdO fr y)) fun _=>none
 | .makeMap t none=>Zj5 (Y.E t) m
 | .makeMap t (some x)=>(match rdO fr x with
  | some (.i _ _)=>Zj5 (Y.E t) m
  | _=>none)
 | .lookup t x y ok=>ZgQ Y.P Y.E t m (rdO fr x) (rdO fr y) ok
 | .mapUpdate t x y z=>opn o.dst (ZgR Y.E t m (rdO fr x) (rdO fr y) (rdO fr z)) fun _=>none
 | .insert t x y z=>opn o.dst (ZgR Y.E t m (rdO fr x) (rdO fr y) (rdO fr z)) fun _=>none
 | .convert s d x=>ZdB Y m s d (rdO fr x)
 | .call { callee:=.builtin b,args,argTypes }=>ZoN Y m b argTypes.toList (rdL fr args.toList)
 | _=>none
def Z2x (E:Env) (op:Op):Nat:=match op with
 | .move _ | .assign _ | .pick .. | .binOp .. | .load .. | .nilCheck _ | .fieldAddr .. | .field .. | .indexAddr .. | .index .. | .build .. | .makeFunc .. | .extract .. | .unOp .. | .slice ..=>0
 | .alloc _ | .box .. | .buildSlice .. | .makeSlice ..=>1
 | .convert s d _=>(match E d with
  | some { sh:=.int _,.. }=>0
  | _=>2)
 | .call { callee:=.builtin .len,argTypes,.. }=>(match argTypes.toList with
  | [t]=>(match E t with
   | some { sh:=.map ..,.. }=>2
   | _=>0)
  | _=>2)
 | .call { callee:=.builtin .cap,.. }=>0
 | .call { callee:=.builtin .max,.. }=>0
 | .call { callee:=.builtin .min,.. }=>0
 | .call { callee:=.builtin .unsafeSliceData,.. }=>0
 | _=>2
def ZbI {R:Type} (dst:Option Nat) (fr:Tri EV) (v:EV) (K:Tri EV->Option R):Option R:=opn dst (K fr) fun d=>ZgM v fun v=>fr.setK (some v) d K
def ZgU {R:Type} (call:EV->List EV->Me->Option (EV×Me)) (dst:Option Nat) (f:Option EV) (l:Option (List EV)) (fr:Tri EV) (m:Me) (K:Tri EV->Me->Option R):Option R:=
 opn f none fun f=>opn l none fun l=>opn (call f l m) none fun r=>cnd (Nat.ble m.n r.2.n) (ZbI dst fr r.1 fun fr=>K fr r.2) none
def ZoO {R:Type} (dst:Option Nat) (r:Option (List EV×Nat×Nat×(Nat->EV))) (fr:Tri EV) (m:Me) (K:Tri EV->Me->Option R):Option R:=
 opn dst none fun d=>opn r none fun r=>ZgN m r.1 r.2.1 fun id m=>ZbI (some d) fr (r.2.2.2 id) fun fr=>K fr m
def ZoP {R:Type} (dst:Option Nat) (v:Option EV) (fr:Tri EV) (m:Me) (K:Tri EV->Me->Option R):Option R:=
 opn v none fun v=>ZbI dst fr v fun fr=>K fr m
def ZoQ {R:Type} (dst:Option Nat) (n:Nat) (r:Option (EV×Me)) (fr:Tri EV) (K:Tri EV->Me->Option R):Option R:=
 opn r none fun r=>cnd (Nat.ble n r.2.n) (ZbI dst fr r.1 fun fr=>K fr r.2) none
def ZoR {R:Type} (Y:RK) (k:Nat) (o:Oper) (fr:Tri EV) (m:Me) (K:Tri EV->Me->Option R):Option R:=match k with
 | 0=>ZoP o.dst (E_q Y.P Y.E Y.G m.t o.op fr) fr m K
 | 1=>ZoO o.dst (E_a Y.E o fr) fr m K
 | _=>ZoQ o.dst m.n (E_x Y m o fr) fr K
def Zki {R:Type} (Y:RK) (call:EV->List EV->Me->Option (EV×Me)) (o:Oper) (fr:Tri EV) (m:Me) (K:Tri EV->Me->Option R):Option R:=
 match o.op with
 | .call { callee:=.value f,args,.. }=>ZgU call o.dst (rdO fr f) (rdL fr args.toList) fr m K
 | op=>ZoR Y (Z2x Y.E op) o fr m K
def Z7t {R:Type} (o:Oper) (fr:Tri EV) (K:Tri EV->Option R):Option R:=match o.dst with
 | none=>K fr
 | some d=>fr.setK (some (.t [])) d K
def Z7u (ops:List Oper) (o:Oper) (fr:Tri EV):Option Bool:=match o.guard with
 | none=>some true
 | some (j,b)=>match (Zit ops j).bind (·.dst) with
  | none=>none
  | some d=>match fr.get d with
   | some (.b c)=>some (c == b)
   | some (.t _)=>some false
   | _=>none
def ZeQ (Y:RK) (call:EV->List EV->Me->Option (EV×Me)) (ops:List Oper) (l:List Oper):Tri EV->Me->Option (Tri EV×Me):=
 @List.rec Oper (fun _=>Tri EV->Me->Option (Tri EV×Me)) (fun fr m=>some (fr,m))
  (fun o _ ih fr m=>opn (Z7u ops o fr) none fun w=>cnd w (Zki Y call o fr m ih) (Z7t o fr fun fr=>ih fr m)) l
def Z4q (E:Env) (ops:List Oper) (i:Nat):Nat:=opn (Zit ops i) 2 fun o=>Z2x E o.op
def Z9y (E:Env) (ops:List Oper):List Nat:=(List.range ops.length).filter fun i=>Nat.beq (Z4q E ops i) 2
def loL (es bef:List Nat) (i:Nat):Nat:=(es.filter fun e=>(bef.getD i 0).testBit e).length
def hiL (es bef:List Nat) (i:Nat):Nat:=(es.filter fun e=>!(bef.getD e 0).testBit i).length
def Zkj (E:Env) (ops:List Oper) (es bef:List Nat) (j:Nat):List (Nat×Nat):=((List.range ops.length).filter fun i=>!Nat.beq (Z4q E ops i) 2 && Nat.beq (loL es bef i) j).map fun i=>(i,Z4q E ops i)
def Zn1 (E:Env) (ops:List Oper) (es bef:List Nat):List Nat->Nat->List (Nat×Nat)
 | [],j=>Zkj E ops es bef j
 | e::l,j=>Zkj E ops es bef j++(e,2)::Zn1 E ops es bef l (j+1)
def Zn2 (E:Env) (ops:List Oper):List (Nat×Nat):=Zn1 E ops (Z9y E ops) (Z9W ops) (Z9y E ops) 0
def Z4a (ops:List Oper):List (Nat×Nat)->Nat->Bool
 | [],k=>Nat.beq k (2 ^ ops.length - 1)
 |(i,_)::l,k=>!k.testBit i && (match ops[i]? with
  | some o=>dOk o k && Z4a ops l (k ||| 2 ^ i)
  | none=>false)
def Z9z (bef:List Nat):List Nat->Bool
 | []=>true
 | x::l=>l.all (fun y=>(bef.getD y 0).testBit x) && Z9z bef l
def Zkk (E:Env) (ops:List Oper):Bool:=Z5b ops && (Z4a ops (Zn2 E ops) 0 && (Z9z (Z9W ops) (Z9y E ops) && (((Zn2 E ops).filter fun r=>Nat.beq r.2 2).map (·.1) == Z9y E ops)))
mutual
def ZeR:EV->EV->Bool
 | .b x,.b w=>x == w
 | .i k x,.i l w=>IntKind.eqb k l && eqI x w
 | .s x,.s w=>eqS x w
 | .pn,.pn=>true
 | .p i x,.p j w=>Nat.beq i j && Nat.beq x w
 | .g i x,.g j w=>Nat.beq i j && Nat.beq x w
 | .sn,.sn=>true
 | .sl i x n c,.sl j w m d=>Nat.beq i j && (Nat.beq x w && (Nat.beq n m && Nat.beq c d))
 | .sx i x n c,.sx j w m d=>Nat.beq i j && (Nat.beq x w && (Nat.beq n m && Nat.beq c d))
 | .gs i x n c,.gs j w m d=>Nat.beq i j && (Nat.beq x w && (Nat.beq n m && Nat.beq c d))
 | .mn,.mn=>true
 | .m i,.m j=>Nat.beq i j
 | .f g l r,.f h m s=>Nat.beq g h && (Z4b l m && Z4b r s)
 | .y i,.y j=>Nat.beq i j
 | .fn,.fn=>true
 | .ni,.ni=>true
 | .t l,.t m=>Z4b l m
 | .a l,.a m=>Z4b l m
 | _,_=>false
def Z4b:List EV->List EV->Bool
 | [],[]=>true
 | x::l,w::m=>ZeR x w && Z4b l m
 | _,_=>false
end
inductive Hold where
 | made (i id:Nat) (l:List EV) (T:Nat)
 | load (i:Nat) (o:Oper) (fr:Tri EV) (v:EV)
def Z20 (Y:RK) (call:EV->List EV->Me->Option (EV×Me)) (ops:List Oper):List (Nat×Nat)->Tri EV->Me->List Me->List Hold->Option (Tri EV×Me×List Me×List Hold)
 | [],fr,m,S,A=>some (fr,m,m::S,A)
 |(i,k)::rest,fr,m,S,A=>opn (Zit ops i) none fun o=>opn (Z7u ops o fr) none fun w=>cnd (Nat.beq (Z2x Y.E o.op) k) (cnd w
  (cnd (Nat.beq k 0) (opn (E_q Y.P Y.E Y.G m.t o.op fr) none fun v=>ZbI o.dst fr v fun fr'=>Z20 Y call ops rest fr' m S (cnd (Z2A o.op) (.load i o fr v::A) A))
  (cnd (Nat.beq k 1) (opn o.dst none fun d=>opn (E_a Y.E o fr) none fun r=>ZgN m r.1 r.2.1 fun id m=>ZbI (some d) fr (r.2.2.2 id) fun fr=>Z20 Y call ops rest fr m S (.made i id r.1 r.2.1::A))
  (Zki Y call o fr m fun fr m'=>Z20 Y call ops rest fr m' (m::S) A)))
  (Z7t o fr fun fr=>Z20 Y call ops rest fr m (cnd (Nat.beq k 2) (m::S) S) A)) none
def ZeS (S:List Me) (lo hi:Nat) (p:Me->Bool):Bool:=((S.drop lo).take (hi+1 - lo)).all p
def ZgV (Y:RK) (o:Oper) (fr:Tri EV) (v:EV) (m:Me):Bool:=match E_q Y.P Y.E Y.G m.t o.op fr with
 | some u=>ZeR u v
 | none=>false
def Zlo (id:Nat) (l:List EV) (T:Nat) (m:Me):Bool:=Nat.blt id m.n && (match m.t.get id with
 | some (.cells cs T' lim)=>Nat.beq T' T && (Nat.beq lim l.length && (match cs.manyK 0 l.length (fun l'=>some l') with
  | some l'=>Z4b l l'
  | none=>false))
 | _=>false)
def Zlp (Y:RK) (es bef:List Nat) (S:List Me):Hold->Bool
 | .made i id l T=>ZeS S (loL es bef i) (hiL es bef i) (Zlo id l T)
 | .load i o fr v=>ZeS S (loL es bef i) (hiL es bef i) (ZgV Y o fr v)
def Zcg (Y:RK) (call:EV->List EV->Me->Option (EV×Me)) (ops:List Oper) (fr:Tri EV) (m:Me):Option (Tri EV×Me):=
 cnd (Zkk Y.E ops) (match Z20 Y call ops (Zn2 Y.E ops) fr m [] [] with
  | none=>none
  | some (fr,m,S,A)=>cnd (A.all (Zlp Y (Z9y Y.E ops) (Z9W ops) S.reverse)) (some (fr,m)) none) none
def Z5q {R:Type}:List Nat->List EV->Tri EV->(Tri EV->Option R)->Option R
 | [],[],fr,K=>K fr
 | t::ps,v::vs,fr,K=>fr.setK (some v) t fun fr=>Z5q ps vs fr K
 | _,_,_,_=>none
def Zkl (Y:RK) (fr:Tri EV) (m:Tri Ent):List ResultVar->Option (List EV)
 | []=>some []
 | .tmp t::l=>(match fr.get t,Zkl Y fr m l with
  | some v,some vs=>some (v::vs)
  | _,_=>none)
 | .cell t ty::l=>(match fr.get t,Y.E ty,Zkl Y fr m l with
  | some x,some i,some vs=>(match Z6c Y.G m x i.size fun l=>ZeM i.sh.agg l with
   | some v=>some (v::vs)
   | none=>none)
  | _,_,_=>none)
abbrev Res:=Ex×Tri EV×Me
abbrev RC:=Bool->Nat->Code->Tri EV->Me->Option Res
def Zn3:List EV->EV
 | [v]=>v
 | vs=>.t vs
def ZnP (Y:RK) (fr:Tri EV) (m:Me) (rs:List ResultVar):Option (EV×Me):=opn (Zkl Y fr m.t rs) none fun vs=>some (Zn3 vs,m)
def Zkm (Y:RK) (r:Option Res) (rs:List ResultVar):Option (EV×Me):=match r with
 | some (.normal,fr,m)=>ZnP Y fr m rs
 | some (.ret,fr,m)=>ZnP Y fr m rs
 | _=>none
def Zj7 (Y:RK) (rec:RC) (g:Nat) (args:List EV) (m:Me):Option (EV×Me):=
 opn (Y.P.funcs[g]?) none fun fn=>opn fn.body none fun c=>cnd (Nat.ble args.length fn.ntmps) (Tri.putsK args (Tri.bare 12) 0 fun fr=>Zkm Y (rec true fn.ntmps c fr m) fn.results.toList) none
def Z9A (Y:RK) (rec:RC) (g:Nat) (args:List EV) (m:Me):Option (EV×Me):=opn (Y.pr g args m) (Zj7 Y rec g args m) some
def Zoj (l:Nat) (e:Option Ent) (jump:Option Code) (m:Me):Option (EV×Me):=match e with
 | some (.loop true n fr0 ps asg body)=>m.t.setK (some (opn jump (.loop false n fr0 ps asg body) fun c=>.done c n fr0 ps asg body)) l fun t=>some (.b jump.isNone,⟨t,m.n⟩)
 | _=>none
def Zn4 (l:Nat) (r:Option Res):Option (EV×Me):=opn r none fun r=>Zoj l (r.2.2.t.get l) (Z8r r.1) r.2.2
def Zok (rec:RC) (l n:Nat) (body:Code) (e:Option Ent) (fr:Tri EV) (m:Me):Option (EV×Me):=match e with
 | some (.loop false n' fr0 ps asg body')=>m.t.setK (some (.loop true n' fr0 ps asg body')) l fun t=>Zn4 l (rec false n body fr ⟨t,m.n⟩)
 | _=>none
def ZoS (rec:RC) (l n:Nat) (body:Code) (r:Option Res):Option (EV×Me):=match r with
 | some (.normal,fr,m)=>Zok rec l n body (m.t.get l) fr m
 | _=>none
def Zlq (rec:RC) (l:Nat) (args:List EV) (m:Me):Option (EV×Me):=match m.t.get l with
 | some (.loop false n fr0 ps asg body)=>Z5q ps args fr0 fun fr=>ZoS rec l n body (rec false n asg fr m)
 | _=>none
def ZdC (Y:RK) (rec:RC) (f:EV) (args:List EV) (m:Me):Option (EV×Me):=match f with
 | .f g l r=>Z9A Y rec g (l++(args++r)) m
 | .y l=>Zlq rec l args m
 | _=>none
def Zol:Code->Option Ex
 | .exit id=>some (.exit id)
 | .goto l=>some (.goto l)
 | .ret=>some .ret
 | _=>none
def ZaQ (r:Option Res) (k:Tri EV->Me->Option Res):Option Res:=match r with
 | some (.normal,fr,m)=>k fr m
 | r=>r
def ZgW (id:Nat) (r:Option Res):Option Res:=match r with
 | some (.exit j,fr,m)=>cnd (Nat.beq j id) (some (.normal,fr,m)) (some (.exit j,fr,m))
 | r=>r
def Zj8 (r:Option (Tri EV×Me)):Option Res:=opn r none fun r=>some (.normal,r.1,r.2)
def Zkn (v:Option EV) (x y:Option Res):Option Res:=match v with
 | some (.b b)=>cnd b x y
 | _=>none
def Z7v (rec:RC) (top:Bool) (n:Nat) (c:Code) (k:Nat):Code->Tri EV->Me->Option Res:=@Nat.rec (fun _=>Code->Tri EV->Me->Option Res) (fun _ _ _=>none)
 (fun _ ih x fr m=>match rec top n x fr m with
  | some (.goto l,fr,m)=>opn (findLabel c l) none fun rest=>ih rest fr m
  | r=>r) k
def Zko (l:Nat) (fr:Tri EV) (r:Option (EV×Me)):Option Res:=opn r none fun r=>match r.2.t.get l with
 | some (.loop false ..)=>r.2.t.setK none l fun t=>some (.normal,fr,⟨t,r.2.n⟩)
 | some (.done c ..)=>opn (Zol c) none fun ex=>r.2.t.setK none l fun t=>some (ex,fr,⟨t,r.2.n⟩)
 | _=>none
def Zch (Y:RK) (rec:RC) (top:Bool) (n:Nat) (v:Option EV) (ps:List Nat) (asg body:Code) (fr:Tri EV) (m:Me):Option Res:=match top,v with
 | true,some (.f g [] r)=>Zlj m (.loop false n fr ps asg body) fun l m=>Zko l fr (Zj7 Y rec g (.y l::r) m)
 | _,_=>none
def Zci (Y:RK) (f:Nat) (rec:RC):RC:=fun top n c fr m=>match c with
 | .skip=>some (.normal,fr,m)
 | .label _=>some (.normal,fr,m)
 | .ret=>some (.ret,fr,m)
 | .exit id=>some (.exit id,fr,m)
 | .goto l=>some (.goto l,fr,m)
 | .seq x y=>ZaQ (rec top n x fr m) (rec top n y)
 | .block id c=>ZgW id (rec top n c fr m)
 | .cond c x y=>Zkn (rdO fr c) (rec top n x fr m) (rec top n y fr m)
 | .loop c=>ZaQ (rec top n c fr m) (rec top n (.loop c))
 | .region _ ops false=>Zj8 (ZeQ Y (ZdC Y rec) ops.toList ops.toList fr m)
 | .region _ ops true=>Zj8 (Zcg Y (ZdC Y rec) ops.toList fr m)
 | .scope c=>Z7v rec top n c f c fr m
 | .rangeFunc x ps asg body=>Zch Y rec top n (rdO fr x) ps.toList asg body fr m
 | .refuse _=>none
def Z1j (Y:RK) (f:Nat):RC:=@Nat.rec (fun _=>RC) (fun _ _ _ _ _=>none) (fun f ih=>Zci Y f ih) f
end
section
variable {α R:Type}
theorem Z11 {α:Type} (b:Bool) (x y:α):cnd b x y=bif b then x else y:=by cases b<;>rfl
theorem Z07 {α R:Type} {o:Option α} {f:α->Option R} {r:R} (h:opn o none f=some r):∃ v,o=some v∧f v=some r:=by
 cases o with
 | none=>cases h
 | some v=>exact⟨v,rfl,h⟩
theorem Z0b {α:Type} {b:Bool} {x:Option α} {r:α} (h:cnd b x none=some r):b=true∧x=some r:=by
 cases b with
 | true=>exact⟨rfl,h⟩
 | false=>cases h
theorem Z2E {α:Type} {b:Bool} {x:Option α} {r:α} (h:cnd b none x=some r):b=false∧x=some r:=by
 cases b with
 | false=>exact⟨rfl,h⟩
 | true=>cases h
theorem Tri.get_node (x:Option α) (l r:Tri α) (k:Nat):(Tri.node x l r).get k=bif Nat.beq k 0 then x else bif Nat.beq (k % 2) 1 then l.get (k / 2) else r.get (k / 2 - 1):=by
 show cnd _ _ (cnd _ _ _)=_
 rw[Z11,Z11];rfl
theorem Tri.set_ok (v:Option α):∀ (t:Tri α) (k:Nat),∃ t':Tri α,(∀ {R:Type} (K:Tri α->R),t.setK v k K=K t')∧∀ j x,t'.get j=some x->(j=k∧v=some x)∨(j≠k∧t.get j=some x)
 | .nil,k=>by
  cases hk:Nat.beq k 0 with
  | true=>
   have:=Nat.eq_of_beq_eq_true hk;subst this;refine⟨.node v .nil .nil,fun K=>rfl,fun j x h=>?_⟩;rw[Tri.get_node] at h
   cases hj:Nat.beq j 0 with
   | true=>rw[hj] at h;exact .inl ⟨Nat.eq_of_beq_eq_true hj,h⟩
   | false=>
    rw[hj] at h
    cases hm:Nat.beq (j % 2) 1<;>(rw[hm] at h;cases h)
  | false=>
   refine⟨.nil,fun K=>?_,fun j x h=>by cases h⟩
   show cnd _ _ _=_
   rw[Z11,hk];rfl
 | .node x l r,k=>by
  cases hk:Nat.beq k 0 with
  | true=>
   have:=Nat.eq_of_beq_eq_true hk;subst this;refine⟨.node v l r,fun K=>rfl,fun j y h=>?_⟩;rw[Tri.get_node] at h ⊢
   cases hj:Nat.beq j 0 with
   | true=>rw[hj] at h;exact .inl ⟨Nat.eq_of_beq_eq_true hj,h⟩
   | false=>
    rw[hj] at h;exact .inr ⟨(fun e=>by subst e;cases hj),h⟩
  | false=>
   have hk0:k≠0:=fun e=>by subst e;cases hk
   cases hm:Nat.beq (k % 2) 1 with
   | true=>
    have hm':=Nat.eq_of_beq_eq_true hm;obtain⟨l',h1,h2⟩:=Tri.set_ok v l (k / 2);refine⟨.node x l' r,fun K=>?_,fun j y h=>?_⟩
    ·show cnd _ _ (cnd _ _ _)=_
     rw[Z11,Z11,hk]
     show (bif Nat.beq (k % 2) 1 then _ else _)=_
     rw[hm];exact h1 _
    ·rw[Tri.get_node] at h ⊢
     cases hj:Nat.beq j 0 with
     | true=>rw[hj] at h;exact .inr ⟨fun e=>by have:=Nat.eq_of_beq_eq_true hj;omega,h⟩
     | false=>
      rw[hj] at h
      have hj0:j≠0:=fun e=>by subst e;cases hj
      cases hmj:Nat.beq (j % 2) 1 with
      | true=>
       have hmj':=Nat.eq_of_beq_eq_true hmj;rw[hmj] at h
       rcases h2 _ _ h with ⟨e,hv⟩ | ⟨e,hv⟩
       ·exact .inl ⟨by omega,hv⟩
       ·exact .inr ⟨fun e'=>e (by rw[e']),hv⟩
      | false=>
       rw[hmj] at h;exact .inr ⟨(fun e=>by subst e;rw[hm] at hmj;cases hmj),h⟩
   | false=>
    have hm':k % 2≠1:=fun e=>by rw[e] at hm;cases hm
    obtain⟨r',h1,h2⟩:=Tri.set_ok v r (k / 2 - 1);refine⟨.node x l r',fun K=>?_,fun j y h=>?_⟩
    ·show cnd _ _ (cnd _ _ _)=_
     rw[Z11,Z11,hk]
     show (bif Nat.beq (k % 2) 1 then _ else _)=_
     rw[hm];exact h1 _
    ·rw[Tri.get_node] at h ⊢
     cases hj:Nat.beq j 0 with
     | true=>rw[hj] at h;exact .inr ⟨fun e=>by have:=Nat.eq_of_beq_eq_true hj;omega,h⟩
     | false=>
      rw[hj] at h
      have hj0:j≠0:=fun e=>by subst e;cases hj
      cases hmj:Nat.beq (j % 2) 1 with
      | true=>
       rw[hmj] at h;exact .inr ⟨(fun e=>by subst e;rw[hm] at hmj;cases hmj),h⟩
      | false=>
       have hmj':j % 2≠1:=fun e=>by rw[e] at hmj;cases hmj
       rw[hmj] at h
       rcases h2 _ _ h with ⟨e,hv⟩ | ⟨e,hv⟩
       ·exact .inl ⟨by omega,hv⟩
       ·exact .inr ⟨fun e'=>e (by rw[e']),hv⟩
theorem Tri.many_ok (t:Tri α):∀ (n off:Nat) (K:List α->Option R) (r:R),t.manyK off n K=some r->∃ l,l.length=n∧(∀ i,i < n->t.get (off+i)=l[i]?)∧K l=some r
 | 0,off,K,r,h=>⟨[],rfl,fun i hi=>by omega,h⟩
 | n+1,off,K,r,h=>by
  have h':opn (t.get off) none (fun v=>t.manyK (off+1) n fun l=>K (v::l))=some r:=h;obtain⟨v,hv,h'⟩:=Z07 h';obtain⟨l,h1,h2,h3⟩:=Tri.many_ok t n (off+1) _ r h';refine⟨v::l,by simp[h1],fun i hi=>?_,h3⟩
  cases i with
  | zero=>simpa using hv
  | succ i=>
   have:=h2 i (by omega);rw[show off+(i+1)=off+1+i by omega,this]
   simp
theorem Tri.puts_ok:∀ (l:List α) (t:Tri α) (off:Nat),∃ t':Tri α,(∀ {R:Type} (K:Tri α->R),Tri.putsK l t off K=K t') ∧
  ∀ j x,t'.get j=some x->(off≤j∧l[j - off]?=some x)∨((j < off∨off+l.length≤j)∧t.get j=some x)
 | [],t,off=>⟨t,fun K=>rfl,fun j x h=>.inr ⟨by simp;omega,h⟩⟩
 | v::l,t,off=>by
  obtain⟨t1,h1,h2⟩:=Tri.set_ok (some v) t off;obtain⟨t2,h3,h4⟩:=Tri.puts_ok l t1 (off+1);refine⟨t2,fun K=>(h1 _).trans (h3 K),fun j x h=>?_⟩
  rcases h4 j x h with ⟨g1,g2⟩ | ⟨g1,g2⟩
  ·exact .inl ⟨by omega,by rw[show j - off=(j - (off+1))+1 by omega];simpa using g2⟩
  ·rcases h2 j x g2 with ⟨rfl,e⟩ | ⟨e,g3⟩
   ·exact .inl ⟨Nat.le_refl _,by simp at e;simp[e]⟩
   ·exact .inr ⟨by simp only[List.length_cons];omega,g3⟩
end
theorem Z7w {R:Type} (n:Nat) (K:Nat->R):Z2D n K=K n:=rfl
theorem ZgX {R:Type} (n:Int) (K:Int->R):Zkf n K=K n:=by cases n<;>rfl
theorem ZgY {R:Type} (b:Bool) (K:Bool->R):Zkg b K=K b:=by cases b<;>rfl
theorem ZgZ {R:Type} (v:EV) (K:EV->R):ZgM v K=K v:=by
 cases v with
 | b x=>exact ZgY x fun x=>K (.b x)
 | i k n=>exact ZgX n fun n=>K (.i k n)
 | _=>rfl
theorem Zcj (a b:Nat):Nat.beq a b=decide (a=b):=by
 by_cases h:a=b
 ·subst h;simp
 ·rw[Z0I h];simp[h]
theorem Z9B (a b:Nat):Nat.ble a b=decide (a≤b):=by
 by_cases h:a≤b
 ·rw[Nat.ble_eq_true_of_le h];simp[h]
 ·cases hb:Nat.ble a b with
  | false=>simp[h]
  | true=>exact absurd (Nat.le_of_ble_eq_true hb) h
theorem Z7x (a b:Int):eqI a b=decide (a=b):=by
 cases a<;>cases b<;>simp only[eqI,Zcj]<;>simp
 omega
theorem ZdD (a b:Int):leI a b=decide (a≤b):=by
 cases a<;>cases b<;>simp only[leI]
 ·rw[Z9B];simp only[decide_eq_decide];exact Int.ofNat_le.symm
 ·symm;simp only[decide_eq_false_iff_not];rename_i a b;have:=Int.negSucc_lt_zero b;have:(0:Int)≤Int.ofNat a:=Int.natCast_nonneg a;omega
 ·symm;simp only[decide_eq_true_eq];rename_i a b;have:=Int.negSucc_lt_zero a;have:(0:Int)≤Int.ofNat b:=Int.natCast_nonneg b;omega
 ·rw[Z9B];simp only[decide_eq_decide,Int.negSucc_eq];omega
theorem Zn5 (a b:Int):ltI a b=decide (a < b):=by
 unfold ltI;rw[ZdD]
 by_cases h:a < b
 ·simp[h]
 ·simp[h];omega
theorem Zlr (op:BinOp) (x y:Int):Zof op x y=Ziy op x y:=by
 cases op<;>simp only[Zof,Ziy,Z7x,Zn5,ZdD]
theorem Z2F (k:IntKind) (n:Int):Z8e k n=k.wrap n:=by
 cases n with
 | negSucc n=>rfl
 | ofNat n=>
  simp only[Z8e]
  cases h:Nat.ble n (ZnN k) with
  | false=>rfl
  | true=>
   have h':=Nat.le_of_ble_eq_true h;simp only[cond_true]
   cases k<;>simp only[ZnN] at h'<;>simp only[IntKind.wrap,IntKind.signed,IntKind.bits]<;>simp<;>omega
theorem Zls (a b:Int):ZoF a b=a+b:=by cases a<;>cases b<;>rfl
theorem Zlt (a b:Int):Zog a b=a - b:=by
 cases a<;>cases b<;>try rfl
 rename_i a b
 simp only[Zog]
 cases h:Nat.ble b a with
 | false=>rfl
 | true=>
  have:=Nat.le_of_ble_eq_true h
  show ((a - b:Nat):Int)=(a:Int) - b
  omega
theorem Zlu (a b:Int):ZoG a b=a * b:=by cases a<;>cases b<;>rfl
theorem Zlv (a b:Int):ZoH a b=a.tdiv b:=by cases a<;>cases b<;>rfl
theorem Zlw (a b:Int):ZoI a b=a.tmod b:=by cases a<;>cases b<;>rfl
theorem Zlx (a:Int) (j:Nat):ZoJ a j=a * 2 ^ j:=by
 cases a with
 | negSucc a=>rfl
 | ofNat a=>
  show ((a * 2 ^ j:Nat):Int)=(a:Int) * 2 ^ j
  simp
theorem Zly (a:Int) (j:Nat):ZoK a j=a.fdiv (2 ^ j):=by
 cases a with
 | negSucc a=>rfl
 | ofNat a=>
  show ((a / 2 ^ j:Nat):Int)=(a:Int).fdiv (2 ^ j)
  rw[show (2:Int) ^ j=((2 ^ j:Nat):Int) by simp];rw[Int.fdiv_eq_ediv_of_nonneg _ (Int.natCast_nonneg _)]
  simp
theorem Zh0 (j b:Nat):(bif Nat.ble j b then j else b)=min j b:=by
 rw[Z9B]
 by_cases h:j≤b
 ·simp[h,Nat.min_eq_left h]
 ·simp[h];omega
theorem Zkp {a:Nat} (h:a≤18446744073709551615):(BitVec.ofInt IntKind.u64.bits (Int.ofNat a)).toNat=a:=by
 show (BitVec.ofInt 64 (a:Int)).toNat=a
 rw[BitVec.ofInt_natCast,BitVec.toNat_ofNat];omega
theorem ZdE {a:Nat} (h:a≤18446744073709551615):IntKind.u64.wrap (a:Int)=Int.ofNat a:=by
 show IntKind.u64.wrap (.ofNat a)=_
 rw[←Z2F];simp only[Z8e,ZnN,Nat.ble_eq_true_of_le h,cond_true]
theorem Z6p {op:BinOp} {k:IntKind} {x y r:Int} (h:ZeL op k x y=some r):Z6C op k x y=some r:=by
 unfold ZeL at h
 split at h
 ·rename_i a b
  cases hc:(Nat.ble a 18446744073709551615 && Nat.ble b 18446744073709551615) with
  | false=>rw[hc] at h;cases h
  | true=>
   rw[hc] at h;rw[Bool.and_eq_true] at hc;have ha:=Nat.le_of_ble_eq_true hc.1;have hb:=Nat.le_of_ble_eq_true hc.2
   have hla:a < 2 ^ 64:=by omega
   have hlb:b < 2 ^ 64:=by omega
   simp only[cond_true] at h
   split at h
   ·rw[←h]
    simp only[Z6C,BitVec.toNat_and,Zkp ha,Zkp hb];rw[ZdE (by have:=Nat.and_lt_two_pow a hlb;omega)]
    rfl
   ·rw[←h]
    simp only[Z6C,BitVec.toNat_or,Zkp ha,Zkp hb];rw[ZdE (by have:=Nat.or_lt_two_pow hla hlb;omega)]
    rfl
   ·rw[←h]
    simp only[Z6C,BitVec.toNat_xor,Zkp ha,Zkp hb];rw[ZdE (by have:=Nat.xor_lt_two_pow hla hlb;omega)]
    rfl
   ·rw[←h]
    have hn:(~~~(BitVec.ofInt IntKind.u64.bits (Int.ofNat b))).toNat=18446744073709551615 - b:=by
     rw[BitVec.toNat_not,Zkp hb];rfl
    simp only[Z6C,BitVec.toNat_and,Zkp ha,hn];rw[ZdE (by have:=Nat.and_lt_two_pow a (show 18446744073709551615 - b < 2 ^ 64 by omega);omega)]
    rfl
   ·cases h
 ·exact h
theorem Zn6 (a b:UInt8):eqU a b=decide (a=b):=by
 unfold eqU;rw[Zcj];simp only[decide_eq_decide]
 exact UInt8.toNat_inj
theorem Z8I:∀ (l m:List UInt8),eqS l m=decide (l=m)
 | [],[]=>by simp[eqS]
 | [],_::_=>by simp[eqS]
 | _::_,[]=>by simp[eqS]
 | a::l,b::m=>by
  simp only[eqS,Zn6,Z8I l m]
  by_cases h:a=b
  ·subst h;simp
  ·simp[h]
theorem Z3z {α:Type}:∀ (l:List α) (n:Nat),Zit l n=l[n]?
 | [],n=>by simp[Zit]
 | v::l,n=>by
  unfold Zit
  cases n with
  | zero=>rfl
  | succ n=>exact(Z3z l n).trans (by simp)
theorem Z4S {α:Type}:∀ (l:List α) (n:Nat),Zce l n=l.drop n
 | [],n=>by simp[Zce]
 | v::l,n=>by
  unfold Zce
  cases n with
  | zero=>rfl
  | succ n=>exact(Z4S l n).trans (by simp)
theorem ZdF {n:Nat} {l r:List EV} (h:Zcd n l=some r):r=l.take n∧r.length=n:=by
 induction n generalizing l r with
 | zero=>simp[Zcd] at h;subst h;simp
 | succ n ih=>
  cases l with
  | nil=>simp[Zcd] at h
  | cons v l=>
   simp only[Zcd] at h
   split at h
   ·rename_i q hq
    obtain⟨rfl,h2⟩:=ih hq;cases h;simp at h2 ⊢;omega
   ·cases h
structure Loc where
 b:Nat
 o:Nat
 c:Nat
abbrev Nm:=Nat->Option Loc
def Nm.le (D D':Nm):Prop:=∀ i a,D i=some a->D' i=some a
mutual
def VR (D:Nm):EV->Value->Prop
 | .b x,u=>u=.bool x
 | .i k n,u=>u=.int k n
 | .s l,u=>u=.string ⟨l.toArray⟩
 | .pn,u=>u=.pointer none
 | .p id off,u=>∃ a,D id=some a∧u=.pointer (some ⟨a.b,a.o+off,none⟩)
 | .g n off,u=>u=.pointer (some ⟨n,off,none⟩)
 | .sn,u=>u=.slice none 0 0
 | .sl id off n c,u=>∃ a,D id=some a∧u=.slice (some ⟨a.b,a.o+off,none⟩) n c
 | .sx id off e n,u=>∃ a,D id=some a∧e+n≤a.c∧u=.slice (some ⟨a.b,a.o+off,none⟩) n (a.c - e)
 | .gs n off k c,u=>u=.slice (some ⟨n,off,none⟩) k c
 | .so,u=>∃ a c,u=.slice (some a) 0 c
 | .mn,u=>u=.map none
 | .m id,u=>∃ a,D id=some a∧u=.map (some a.b)
 | .f g l r,u=>∃ vs ws,VRs D l vs∧VRs D r ws∧u=.func (.func g) vs.toArray ws.toArray
 | .y id,u=>∃ a,D id=some a∧u=.func (.yield a.b) #[] #[]
 | .fn,u=>u=.nilFunc
 | .ni,u=>u=.nilIface
 | .iv t v,u=>∃ x,VR D v x∧u=.iface t x
 | .t l,u=>∃ vs,VRs D l vs∧u=.tuple vs.toArray
 | .a l,u=>∃ vs,VRs D l vs∧u=.agg vs.toArray
def VRs (D:Nm):List EV->List Value->Prop
 | [],us=>us=[]
 | v::l,us=>∃ x xs,VR D v x∧VRs D l xs∧us=x::xs
end
section
variable {D D':Nm}
mutual
theorem VR.mono (h:D.le D'):∀ {v:EV} {u:Value},VR D v u->VR D' v u
 | .b _,_,hv | .i _ _,_,hv | .s _,_,hv | .pn,_,hv | .g _ _,_,hv | .sn,_,hv | .gs ..,_,hv | .so,_,hv | .mn,_,hv | .fn,_,hv | .ni,_,hv=>by simpa only[VR] using hv
 | .p ..,_,hv | .sl ..,_,hv | .m _,_,hv | .y _,_,hv=>by
  simp only[VR] at hv ⊢;obtain⟨a,h1,h2⟩:=hv
  exact⟨a,h _ _ h1,h2⟩
 | .sx ..,_,hv=>by
  simp only[VR] at hv ⊢;obtain⟨a,h1,h2⟩:=hv
  exact⟨a,h _ _ h1,h2⟩
 | .f _ l r,_,hv=>by
  simp only[VR] at hv ⊢;obtain⟨vs,ws,h1,h2,h3⟩:=hv
  exact⟨vs,ws,VRs.mono h h1,VRs.mono h h2,h3⟩
 | .iv _ v,_,hv=>by
  simp only[VR] at hv ⊢;obtain⟨x,h1,h2⟩:=hv
  exact⟨x,VR.mono h h1,h2⟩
 | .t l,_,hv=>by
  simp only[VR] at hv ⊢;obtain⟨x,h1,h2⟩:=hv
  exact⟨x,VRs.mono h h1,h2⟩
 | .a l,_,hv=>by
  simp only[VR] at hv ⊢;obtain⟨x,h1,h2⟩:=hv
  exact⟨x,VRs.mono h h1,h2⟩
theorem VRs.mono (h:D.le D'):∀ {l:List EV} {us:List Value},VRs D l us->VRs D' l us
 | [],_,hv=>by simpa only[VRs] using hv
 | v::l,_,hv=>by
  simp only[VRs] at hv ⊢;obtain⟨x,xs,h1,h2,h3⟩:=hv
  exact⟨x,xs,VR.mono h h1,VRs.mono h h2,h3⟩
end
theorem VRs.nil:VRs D [] []:=by simp[VRs]
theorem VRs.cons {v:EV} {l:List EV} {x:Value} {xs:List Value} (h:VR D v x) (k:VRs D l xs):VRs D (v::l) (x::xs):=by
 simp only[VRs];exact⟨x,xs,h,k,rfl⟩
theorem VRs.uncons {v:EV} {l:List EV} {us:List Value} (h:VRs D (v::l) us):∃ x xs,VR D v x∧VRs D l xs∧us=x::xs:=by
 simpa only[VRs] using h
theorem VRs.unnil {us:List Value} (h:VRs D [] us):us=[]:=by simpa only[VRs] using h
theorem VRs.len:∀ {l:List EV} {us:List Value},VRs D l us->us.length=l.length
 | [],_,h=>by rw[h.unnil];rfl
 | v::l,_,h=>by
  obtain⟨x,xs,h1,h2,rfl⟩:=h.uncons;simp[VRs.len h2]
theorem VRs.get:∀ {l:List EV} {us:List Value} {i:Nat} {v:EV},VRs D l us->l[i]?=some v->∃ x,us[i]?=some x∧VR D v x
 | [],_,i,v,h,hi=>by simp at hi
 | w::l,_,i,v,h,hi=>by
  obtain⟨x,xs,h1,h2,rfl⟩:=h.uncons
  cases i with
  | zero=>simp at hi;subst hi;exact⟨x,rfl,h1⟩
  | succ i=>simpa using VRs.get h2 (by simpa using hi)
theorem VRs.of_get:∀ {l:List EV} {us:List Value},us.length=l.length->(∀ (i:Nat) (v:EV),l[i]?=some v->∃ x,us[i]?=some x∧VR D v x)->VRs D l us
 | [],us,hl,h=>by
  have:us=[]:=List.eq_nil_of_length_eq_zero (by simpa using hl);subst this
  exact .nil
 | w::l,us,hl,h=>by
  cases us with
  | nil=>simp at hl
  | cons x xs=>
   obtain⟨y,hy,h1⟩:=h 0 w rfl;simp at hy;subst hy;exact .cons h1 (VRs.of_get (by simpa using hl) fun i v hi=>by simpa using h (i+1) v (by simpa using hi))
theorem VRs.append:∀ {l:List EV} {us:List Value} {m:List EV} {ws:List Value},VRs D l us->VRs D m ws->VRs D (l++m) (us++ws)
 | [],_,m,ws,h,k=>by rw[h.unnil];exact k
 | w::l,_,m,ws,h,k=>by
  obtain⟨x,xs,h1,h2,rfl⟩:=h.uncons;exact .cons h1 (VRs.append h2 k)
theorem VRs.take:∀ {l:List EV} {us:List Value} (n:Nat),VRs D l us->VRs D (l.take n) (us.take n)
 | [],_,n,h=>by rw[h.unnil];simpa using VRs.nil
 | w::l,_,n,h=>by
  obtain⟨x,xs,h1,h2,rfl⟩:=h.uncons
  cases n with
  | zero=>simpa using VRs.nil
  | succ n=>simpa using VRs.cons h1 (VRs.take n h2)
theorem VRs.drop:∀ {l:List EV} {us:List Value} (n:Nat),VRs D l us->VRs D (l.drop n) (us.drop n)
 | [],_,n,h=>by rw[h.unnil];simpa using VRs.nil
 | w::l,us,n,h=>by
  cases n with
  | zero=>simpa using h
  | succ n=>
   obtain⟨x,xs,h1,h2,rfl⟩:=h.uncons
   simpa using VRs.drop n h2
theorem VRs.rep {l:List EV} {us:List Value} (h:VRs D l us):∀ n,VRs D (Zlk n l) ((List.replicate n us).flatten)
 | 0=>by simpa[Zlk] using VRs.nil
 | n+1=>by
  rw[List.replicate_succ,List.flatten_cons];exact h.append (VRs.rep h n)
theorem VR.bool {x:Bool} {u:Value} (h:VR D (.b x) u):u=.bool x:=by simpa only[VR] using h
theorem VR.int {k:IntKind} {n:Int} {u:Value} (h:VR D (.i k n) u):u=.int k n:=by simpa only[VR] using h
theorem VR.str {l:List UInt8} {u:Value} (h:VR D (.s l) u):u=.string ⟨l.toArray⟩:=by simpa only[VR] using h
theorem VR.ptr {id off:Nat} {u:Value} (h:VR D (.p id off) u):∃ a,D id=some a∧u=.pointer (some ⟨a.b,a.o+off,none⟩):=by simpa only[VR] using h
theorem VR.glo {id off:Nat} {u:Value} (h:VR D (.g id off) u):u=.pointer (some ⟨id,off,none⟩):=by simpa only[VR] using h
theorem VR.sli {id off n c:Nat} {u:Value} (h:VR D (.sl id off n c) u):∃ a,D id=some a∧u=.slice (some ⟨a.b,a.o+off,none⟩) n c:=by simpa only[VR] using h
theorem VR.slx {id off e n:Nat} {u:Value} (h:VR D (.sx id off e n) u):∃ a,D id=some a∧e+n≤a.c∧u=.slice (some ⟨a.b,a.o+off,none⟩) n (a.c - e):=by simpa only[VR] using h
theorem VR.sgl {id off n c:Nat} {u:Value} (h:VR D (.gs id off n c) u):u=.slice (some ⟨id,off,none⟩) n c:=by simpa only[VR] using h
theorem VR.slo {u:Value} (h:VR D .so u):∃ a c,u=.slice (some a) 0 c:=by simpa only[VR] using h
theorem VR.sln {u:Value} (h:VR D .sn u):u=.slice none 0 0:=by simpa only[VR] using h
theorem VR.agg {l:List EV} {u:Value} (h:VR D (.a l) u):∃ vs,VRs D l vs∧u=.agg vs.toArray:=by simpa only[VR] using h
theorem VR.tup {l:List EV} {u:Value} (h:VR D (.t l) u):∃ vs,VRs D l vs∧u=.tuple vs.toArray:=by simpa only[VR] using h
theorem VR.mkAgg {l:List EV} {vs:List Value} (h:VRs D l vs):VR D (.a l) (.agg vs.toArray):=by simp only[VR];exact⟨vs,h,rfl⟩
theorem VR.mkTup {l:List EV} {vs:List Value} (h:VRs D l vs):VR D (.t l) (.tuple vs.toArray):=by simp only[VR];exact⟨vs,h,rfl⟩
theorem VR.undef:VR D (.t []) undef:=by simp only[VR];exact⟨[],.nil,rfl⟩
theorem VR.cells {v:EV} {u:Value} (h:VR D v u):VRs D v.cells u.cells.toList:=by
 cases v<;>simp only[EV.cells]
 case a l=>obtain⟨vs,h1,rfl⟩:=h.agg;simpa[Value.cells] using h1
 all_goals
  have key:∀ w:Value,(∀ cs,w≠.agg cs)->w.cells.toList=[w]:=fun w hw=>by cases w<;>first | rfl | exact(hw _ rfl).elim
  rw[key u ?_]
  ·exact .cons h .nil
  ·rintro cs rfl
   simp[VR] at h
theorem VR.one {v:EV} {u:Value} (h:VR D v u) (ho:v.one=true):u.oneCell'=true:=by
 cases v<;>simp only[EV.one,Bool.false_eq_true] at ho<;>simp only[VR] at h
 all_goals first
  |(subst h;rfl)
  |(obtain⟨_,_,rfl⟩:=h;rfl)
  |(obtain⟨_,_,_,rfl⟩:=h;rfl)
  |(obtain⟨_,_,_,_,rfl⟩:=h;rfl)
theorem VRs.one {l:List EV} {us:List Value} (h:VRs D l us) (ho:l.all EV.one=true):Z0z us=true:=by
 refine List.all_eq_true.2 fun x hx=>?_
 obtain⟨i,hi⟩:=List.getElem?_of_mem hx;have hlt:=(List.getElem?_eq_some_iff.1 hi).1;rw[h.len] at hlt;obtain⟨y,hy,hv⟩:=h.get (List.getElem?_eq_getElem hlt);rw[hi] at hy
 cases hy;exact hv.one (List.all_eq_true.1 ho _ (List.getElem_mem hlt))
theorem VR.of1 {u:Value} {v:EV} (h:ZgD u=some v):VR D v u:=by
 unfold ZgD at h
 split at h<;>cases h<;>simp[VR]
theorem VRs.ofL:∀ {us:List Value} {l:List EV},Z9w us=some l->VRs D l us
 | [],l,h=>by simp only[Z9w] at h;cases h;exact .nil
 | u::us,l,h=>by
  simp only[Z9w] at h
  split at h
  ·rename_i x m h1 h2
   cases h;exact .cons (.of1 h1) (VRs.ofL h2)
  ·cases h
theorem VR.of {u:Value} {v:EV} (h:Zmo u=some v):VR D v u:=by
 unfold Zmo at h
 split at h
 ·split at h
  ·rename_i l hl
   cases h;have:=VRs.ofL (D:=D) hl
   simpa using VR.mkAgg this
  ·cases h
 ·exact .of1 h
theorem Z6q {agg:Bool} {l:List EV} {v:EV} {vs:List Value} (h:ZeM agg l=some v) (hl:VRs D l vs):VR D v (Z9Z agg vs):=by
 unfold ZeM at h
 cases agg with
 | true=>simp only[cond_true] at h;cases h;exact .mkAgg hl
 | false=>
  simp only[cond_false] at h
  split at h
  ·cases h
   obtain⟨x,xs,h1,h2,rfl⟩:=hl.uncons;rw[h2.unnil];exact h1
  ·cases h
theorem Z5r:∀ {cs:List EV} {off:Nat} {vs r:List EV} {us xs:List Value},Z3a cs off vs=some r->VRs D cs us->VRs D vs xs->VRs D r (Z05 us off xs)∧off+xs.length≤us.length
 | cs,0,[],r,us,xs,h,hc,hv=>by
  simp[Z3a] at h;subst h;rw[hv.unnil];exact⟨by simpa[Z05] using hc,by simp⟩
 | [],0,_::_,r,us,xs,h,hc,hv=>by simp[Z3a] at h
 | [],_+1,_,r,us,xs,h,hc,hv=>by simp[Z3a] at h
 | c::cs,0,v::vs,r,us,xs,h,hc,hv=>by
  simp only[Z3a] at h
  split at h
  ·rename_i q hq
   cases h;obtain⟨x,us,h1,h2,rfl⟩:=hc.uncons;obtain⟨y,xs,h3,h4,rfl⟩:=hv.uncons;obtain⟨h5,h6⟩:=Z5r hq h2 h4;refine⟨?_,by simp at h6 ⊢;omega⟩
   have e:Z05 (x::us) 0 (y::xs)=y::Z05 us 0 xs:=by simp[Z05]
   rw[e];exact .cons h3 h5
  ·cases h
 | c::cs,n+1,vs,r,us,xs,h,hc,hv=>by
  simp only[Z3a] at h
  split at h
  ·rename_i q hq
   cases h;obtain⟨x,us,h1,h2,rfl⟩:=hc.uncons;obtain⟨h5,h6⟩:=Z5r hq h2 hv;refine⟨?_,by simp;omega⟩
   have e:Z05 (x::us) (n+1) xs=x::Z05 us n xs:=by
    simp only[Z05,List.take_succ_cons,List.cons_append,List.cons.injEq,true_and];rw[show n+1+xs.length=(n+xs.length)+1 by omega,List.drop_succ_cons]
   rw[e];exact .cons h1 h5
  ·cases h
inductive VRp (D:Nm):List (Nat×EV)->List (Nat×Value)->Prop
 | nil:VRp D [] []
 | cons {i v u l us} (h:VR D v u) (k:VRp D l us):VRp D ((i,v)::l) ((i,u)::us)
theorem Z6r {place:Nat->Option (Nat×Nat)}:∀ {vs:List (Nat×EV)} {cells r:List EV} {us:List Value} {xs:List (Nat×Value)},ZaP place cells vs=some r->VRs D cells us->VRp D vs xs ->
  ∃ rs,Z68 place us xs=some rs∧VRs D r rs
 | [],cells,r,us,_,h,hc,.nil=>by
  simp only[ZaP] at h;cases h;exact⟨us,rfl,hc⟩
 |(i,v)::vs,cells,r,us,_,h,hc,.cons (u:=u) (us:=xs) hv hvs=>by
  simp only[ZaP] at h
  split at h
  ·cases h
  ·rename_i off size hp
   cases hb:Nat.beq v.cells.length size with
   | false=>rw[hb] at h;cases h
   | true=>
    rw[hb] at h;simp only[cond_true] at h
    split at h
    ·rename_i cs hcs
     obtain⟨h1,h2⟩:=Z5r hcs hc hv.cells;obtain⟨rs,h3,h4⟩:=Z6r h h1 hvs;refine⟨rs,?_,h4⟩
     have hl:u.cells.size=v.cells.length:=by simpa using hv.cells.len
     simp only[Z68,hp,hl,hb]
     rw[show Nat.ble (off+size) us.length=true by
      rw[Z9B,decide_eq_true_eq];have:=Nat.eq_of_beq_eq_true hb
      simp at h2
      omega]
     exact h3
    ·cases h
end
def SvE (D:Nm) (x:SV) (v:EV):Prop:=(∃ u,x=.val u∧VR D v u)∨∃ q,v=.b q∧x=.lit q
theorem SvE.val {D:Nm} {u:Value} {v:EV} (h:VR D v u):SvE D (.val u) v:=.inl ⟨u,rfl,h⟩
theorem SvE.mono {D D':Nm} (hD:D.le D') {x:SV} {v:EV} (h:SvE D x v):SvE D' x v:=by
 rcases h with ⟨u,rfl,h⟩ | ⟨q,rfl,rfl⟩
 ·exact .val (h.mono hD)
 ·exact .inr ⟨q,rfl,rfl⟩
def FR (D:Nm) (F:Fr) (fr:Tri EV):Prop:=∀ t v,fr.get t=some v->SvE D (F t) v
def OR (D:Nm) (F:Fr) (fr:Tri EV) (xs:List Operand):Prop:=∀ x∈xs,∀ v,rdO fr x=some v->SvE D (evr F x) v
theorem FR.op {D:Nm} {F:Fr} {fr:Tri EV} (h:FR D F fr) (xs:List Operand):OR D F fr xs:=fun x _ v hv=>by
 cases x with
 | tmp t=>exact h t v hv
 | const c=>
  have hv':Zmo c=some v:=hv
  cases c with
  | bool q=>
   have:v=.b q:=by simp[Zmo,ZgD] at hv';exact hv'.symm
   exact .inr ⟨q,this,rfl⟩
  | _=>exact .val (.of hv')
 | global g=>
  have:v=.g g 0:=by simpa[rdO] using hv.symm
  subst this;exact .val (by simp[VR])
 | func f=>
  have:v=.f f [] []:=by simpa[rdO] using hv.symm
  subst this;exact .val (by simp only[VR];exact⟨[],[],.nil,.nil,rfl⟩)
section
variable {D:Nm} {F:Fr} {fr:Tri EV} {xs:List Operand}
theorem SvE.evq {x:Operand} {v:EV} (h:SvE D (evr F x) v):∃ u,ev F x=.val u∧VR D v u:=by
 unfold ev Go.V.evq
 rcases h with ⟨u,h,hv⟩ | ⟨q,rfl,h⟩
 ·rw[h];exact⟨u,rfl,hv⟩
 ·rw[h];exact⟨.bool q,rfl,by simp[VR]⟩
theorem SvE.nb {x:SV} {v:EV} (h:SvE D x v) (hv:∀ q,v≠.b q):∃ u,x=.val u∧VR D v u:=by
 rcases h with h | ⟨q,h,_⟩
 ·exact h
 ·exact(hv q h).elim
theorem OR.ev (h:OR D F fr xs) {x:Operand} (hx:x∈xs) {v:EV} (hv:rdO fr x=some v):∃ u,ev F x=.val u∧VR D v u:=(h x hx v hv).evq
theorem OR.evs (h:OR D F fr xs):∀ {l:List Operand} {vs:List EV},(∀ x∈l,x∈xs)->rdL fr l=some vs->∃ us,evs F l=some us∧VRs D vs us
 | [],vs,_,hv=>by simp only[rdL] at hv;cases hv;exact⟨[],rfl,.nil⟩
 | x::l,vs,hl,hv=>by
  simp only[rdL] at hv
  split at hv
  ·rename_i v vs h1 h2
   cases hv;obtain⟨u,e1,g1⟩:=h.ev (hl x (by simp)) h1;obtain⟨us,e2,g2⟩:=OR.evs h (fun y hy=>hl y (by simp[hy])) h2;refine⟨u::us,?_,.cons g1 g2⟩
   show Z5B (evr F) (x::l)=_
   rw[Z5B];have e1':evq (evr F) x=.val u:=e1
   have e2':Z5B (evr F) l=some us:=e2;rw[e1',e2']
  ·cases hv
theorem OR.parts (h:OR D F fr xs):∀ {l:List (Nat×Operand)} {vs:List (Nat×EV)},(∀ x∈l.map (·.2),x∈xs)->rdP fr l=some vs->∃ us,Z4d F l=some us∧VRp D vs us
 | [],vs,_,hv=>by simp only[rdP] at hv;cases hv;exact⟨[],rfl,.nil⟩
 |(i,x)::l,vs,hl,hv=>by
  simp only[rdP] at hv
  split at hv
  ·rename_i v vs h1 h2
   cases hv;obtain⟨u,e1,g1⟩:=h.ev (hl x (by simp)) h1;obtain⟨us,e2,g2⟩:=OR.parts h (fun y hy=>hl y (by simp only[List.map_cons,List.mem_cons];exact .inr hy)) h2;refine⟨(i,u)::us,?_,.cons g1 g2⟩
   show Z1s (evr F) ((i,x)::l)=_
   rw[Z1s];have e1':evq (evr F) x=.val u:=e1
   have e2':Z1s (evr F) l=some us:=e2;rw[e1',e2']
  ·cases hv
end
inductive MpR (D:Nm):List (EV×EV)->List MapEntry->Prop
 | nil:MpR D [] []
 | cons {k v es e l} (hk:VR D k e.key) (hv:VR D v e.val) (t:MpR D es l):MpR D ((k,v)::es) (e::l)
def okC (n:Nat):Code->Bool
 | .seq x y=>okC n x && okC n y
 | .block _ c=>okC n c
 | .cond _ x y=>okC n x && okC n y
 | .loop c=>okC n c
 | .scope c=>okC n c
 | .region _ ops _=>Za0 n ops
 | .rangeFunc _ ps asg body=>okC n asg && (okC n body && ps.toList.all fun t=>Nat.blt t n)
 | _=>true
structure LpR (D:Nm) (busy:Bool) (n:Nat) (fr:Tri EV) (ps:List Nat) (asg body:Code) (L:Loop):Prop where
 st:L.state=bif busy then .busy else .ready
 pd:L.pending=none
 sz:L.tmps.size=n
 fr:∀ t v,fr.get t=some v->VR D v (L.tmps.getD t undef)
 ps:L.params.toList=ps
 asg:L.assign=asg
 body:L.body=body
 oa:okC n L.assign=true
 ob:okC n L.body=true
 op:∀ t∈L.params.toList,t < n
inductive EntR (D:Nm) (E:Env) (M:List Blk) (a:Loc):Ent->Prop
 | cells {cs:Tri EV} {T lim:Nat} (arr:Array Value) (ho:a.o=0) (hM:(⟨a.b,.cells arr T (0,0)⟩:Blk)∈M) (hl:a.o+lim≤arr.size)
   (hc:∀ i v,i < lim->cs.get i=some v->∃ x,arr[a.o+i]?=some x∧VR D v x) (hk:∀ i,E T=some i->arr.size=a.o+a.c * i.size) (hm:a.c≤maxLen):EntR D E M a (.cells cs T lim)
 | map {es:List (EV×EV)} (l:List MapEntry) (clock:Nat) (hM:(⟨a.b,.map l.toArray clock⟩:Blk)∈M) (he:MpR D es l):EntR D E M a (.map es)
 | loop {busy n fr ps asg body} (L:Loop) (hM:(⟨a.b,.loop L⟩:Blk)∈M) (hL:LpR D busy n fr ps asg body L):EntR D E M a (.loop busy n fr ps asg body)
 | done {c n fr ps asg body} (L:Loop) (hM:(⟨a.b,.loop L⟩:Blk)∈M) (hs:L.state=.done) (hp:L.pending=some c):EntR D E M a (.done c n fr ps asg body)
theorem MpR.mono {D D':Nm} (hD:D.le D') {es:List (EV×EV)} {l:List MapEntry} (h:MpR D es l):MpR D' es l:=by
 induction h with
 | nil=>exact .nil
 | cons hk hv t ih=>exact .cons (hk.mono hD) (hv.mono hD) ih
theorem EntR.mono {D D':Nm} {E:Env} {M M':List Blk} {a:Loc} (hD:D.le D') (hM:∀ x∈M,x.num=a.b->x∈M') {e:Ent} (h:EntR D E M a e):EntR D' E M' a e:=by
 cases h with
 | cells arr h0 h1 h2 h3 h4 h5=>exact .cells arr h0 (hM _ h1 rfl) h2 (fun i v hi hg=>by obtain⟨x,g1,g2⟩:=h3 i v hi hg;exact⟨x,g1,g2.mono hD⟩) h4 h5
 | map l clock h1 h2=>exact .map l clock (hM _ h1 rfl) (h2.mono hD)
 | loop L h1 h2=>exact .loop L (hM _ h1 rfl) { h2 with fr:=fun t v ht=>(h2.fr t v ht).mono hD }
 | done L h1 h2 h3=>exact .done L (hM _ h1 rfl) h2 h3
def GI (G:GT) (I:GH):Prop:=∀ g cs,G g=some cs->∃ (arr:Array Value) (T:Nat) (f:Nat×Nat),I g=some (.cells arr T f)∧∀ i v,cs.get i=some v->∃ x,arr[i]?=some x∧∀ D,VR D v x
structure MS (Y:RK) (D:Nm) (m:Me) (I:GH) (M:List Blk):Prop where
 ent:∀ id e a,m.t.get id=some e->D id=some a->EntR D Y.E M a e
 inj:∀ id id' e e' a a',m.t.get id=some e->m.t.get id'=some e'->D id=some a->D id'=some a'->a.b=a'.b->id=id'
 dom:∀ id a,D id=some a->id < m.n
 glo:GI Y.G I
section
variable {Y:RK} {D:Nm} {m:Me} {I:GH} {M:List Blk} {R:Type}
theorem Z1U (h:MS Y D m I M) {x:EV} {u:Value} (hx:VR D x u) {n:Nat} {K:List EV->Option R} {r:R} (hr:Z6c Y.G m.t x n K=some r) :
  ∃ ad l vs,u=.pointer (some ad)∧Rd I M ad n vs∧VRs D l vs∧K l=some r:=by
 have key:∀ (arr:Array Value) (base off:Nat) (l:List EV),l.length=n->base+off+n≤arr.size->(∀ i,i < n->∀ v,l[i]?=some v->∃ x,arr[base+off+i]?=some x∧VR D v x) ->
   ((arr.toList.drop (base+off)).take n).length=n∧VRs D l ((arr.toList.drop (base+off)).take n):=by
  intro arr base off l hl hsz hg
  have hlen:((arr.toList.drop (base+off)).take n).length=n:=by simp;omega
  refine⟨hlen,VRs.of_get (by rw[hlen,hl]) fun i v hi=>?_⟩
  have hin:i < n:=by rw[←hl];exact(List.getElem?_eq_some_iff.1 hi).1
  obtain⟨x,h1,h2⟩:=hg i hin v hi;refine⟨x,?_,h2⟩;rw[List.getElem?_take,if_pos hin,List.getElem?_drop]
  simpa using h1
 unfold Z6c at hr
 split at hr
 ·rename_i id off
  split at hr
  ·rename_i cs T lim hg
   cases hb:Nat.ble (Nat.add off n) lim with
   | false=>rw[hb] at hr;cases hr
   | true=>
    rw[hb] at hr;have hb':off+n≤lim:=Nat.le_of_ble_eq_true hb;simp only[cond_true] at hr;obtain⟨l,h1,h2,h3⟩:=Tri.many_ok cs n off K r hr;obtain⟨a,ha,hu⟩:=hx.ptr;have he:=h.ent _ _ _ hg ha;obtain⟨arr,-,hM,hl,hc,-,-⟩:=he
    obtain⟨k1,k2⟩:=key arr a.o off l h1 (by omega) fun i hi v hv=>by
     have:=hc (off+i) v (by omega) (by rw[h2 i hi,hv]);rw[←Nat.add_assoc] at this
     exact this
    exact⟨_,l,_,hu,⟨rfl,arr,T,(0,0),.inr ⟨_,hM,rfl,rfl⟩,rfl,k1⟩,k2,h3⟩
  ·cases hr
 ·rename_i g off
  split at hr
  ·rename_i cs hg
   obtain⟨l,h1,h2,h3⟩:=Tri.many_ok cs n off K r hr;obtain⟨arr,T,f,hI,hc⟩:=h.glo _ _ hg;have hu:=hx.glo
   have hall:∀ i,i < n->∀ v,l[i]?=some v->∃ x,arr[0+off+i]?=some x∧VR D v x:=fun i hi v hv=>by
    obtain⟨x,g1,g2⟩:=hc (off+i) v (by rw[h2 i hi,hv]);exact⟨x,by simpa using g1,g2 D⟩
   by_cases hn:n=0
   ·subst hn
    have:l=[]:=List.eq_nil_of_length_eq_zero h1;subst this;exact⟨_,[],[],hu,⟨rfl,arr,T,f,.inl hI,by simp,rfl⟩,.nil,h3⟩
   ·have hsz:0+off+n≤arr.size:=by
     have hlt:n - 1 < l.length:=by omega
     obtain⟨x,g1,_⟩:=hall (n - 1) (by omega) l[n - 1] (List.getElem?_eq_getElem hlt);have:=(Array.getElem?_eq_some_iff.1 g1).1
     omega
    obtain⟨k1,k2⟩:=key arr 0 off l h1 hsz hall;simp only[Nat.zero_add] at k1 k2;exact⟨_,l,_,hu,⟨rfl,arr,T,f,.inl hI,rfl,k1⟩,k2,h3⟩
  ·cases hr
 ·cases hr
end
theorem Zlz {k k':IntKind} (h:IntKind.eqb k k'=true):k=k':=IntKind.eqb_eq h
theorem ZdG (l m:List UInt8):decide ((⟨l.toArray⟩:ByteArray)=⟨m.toArray⟩)=decide (l=m):=by
 simp only[decide_eq_decide]
 constructor
 ·intro h;simpa using h
 ·rintro rfl;rfl
theorem ZeT (a b:ByteArray):(a == b)=decide (a=b):=by
 rw[Bool.eq_iff_iff];simp only[decide_eq_true_eq]
 constructor
 ·intro h
  first | exact eq_of_beq h | exact ByteArray.ext (eq_of_beq (a:=a.data) (b:=b.data) h)
 ·rintro rfl
  first | exact beq_self_eq_true _ | exact beq_self_eq_true a.data
section
variable {P:Program} {E:Env} {D:Nm}
theorem Z6s (hE:EOK P E) {t o:Nat} {l:List EV} {x:EV} (h:ZaO E t o l=some x) {us:List Value} (hl:VRs D l us):∃ u,VR D x u∧∀ w,(part t us.toArray o).run P w=.ok u w:=by
 unfold ZaO at h;obtain⟨i,h1,h⟩:=Z07 h;obtain⟨h0,h⟩:=Z2E h
 have h0':i.size≠0:=fun e=>by rw[e] at h0;cases h0
 obtain⟨r,h2,h⟩:=Z07 h;obtain⟨e1,e2⟩:=ZdF h2;rw[Z4S] at e1;have hlen:=hl.len;subst e1;refine⟨_,Z6q h ((hl.drop o).take _),fun w=>?_⟩
 have:=Z9a (hE _ _ h1) (cs:=us.toArray) (off:=o) (by
  rw[List.length_take,List.length_drop] at e2;simp
  omega) w
 simpa using this
theorem Z7y {F:Nat->EV->EV->Option Bool} {l m:List EV} {α β:Type} {pl:α->Nat×Nat} {g:α->β->Sem (ForInStep β)} {s0 s1:β} {w:World}:∀ (L:List α) {b:Bool},Zj2 F E l m (L.map pl)=some b ->
  (∀ a∈L,∀ x y c,ZaO E (pl a).1 (pl a).2 l=some x->ZaO E (pl a).1 (pl a).2 m=some y->F (pl a).1 x y=some c->(g a s0).run P w=.ok (if c then .yield s0 else .done s1) w) ->
  (forIn L s0 g).run P w=.ok (if b then s0 else s1) w
 | [],b,h,_=>by
  cases h;simp[Sem.run_pure]
 | a::L,b,h,hg=>by
  simp only[List.map_cons] at h;unfold Zj2 at h;obtain⟨x,h1,h⟩:=Z07 h;obtain⟨y,h2,h⟩:=Z07 h;obtain⟨c,h3,h⟩:=Z07 h;simp only[List.forIn_cons,Sem.run_bind];rw[hg a (by simp) x y c h1 h2 h3]
  rw[Z11] at h
  cases c with
  | true=>
   simp only[if_true,Result.andThen_ok]
   exact Z7y L h fun a' ha=>hg a' (by simp[ha])
  | false=>
   cases h;simp[Result.andThen_ok,Sem.run_pure]
theorem Zh1 (hE:EOK P E):∀ (d:Nat) {t:Nat} {x y:EV} {b:Bool} {u v:Value},eqT P E d t x y=some b->VR D x u->VR D y v->∀ n,d≤n->∀ w,(Op.equalIn n t u v).run P w=.ok b w
 | 0,t,x,y,b,u,v,h,hx,hy,n,hn,w=>by cases h
 | d+1,t,x,y,b,u,v,h,hx,hy,0,hn,w=>by omega
 | d+1,t,x,y,b,u,v,h,hx,hy,n+1,hn,w=>by
  unfold eqT at h;obtain⟨i,hi,h⟩:=Z07 h;obtain⟨de,hud,hsh⟩:=(hE _ _ hi).und;rw[Op.equalIn];simp only[Sem.run_bind,run_underlying hud,Result.andThen_ok]
  split at h
  ·rename_i a a' hs _
   cases h
   have g1:de=.bool:=by cases de<;>simp_all[Z2k]
   subst g1;rw[hx.bool,hy.bool];rfl
  ·rename_i k' k a k2 a' hs _
   obtain⟨e1,h⟩:=Z0b h;cases h
   have g1:de=.int k':=by cases de<;>simp_all[Z2k]
   subst g1;rw[hx.int,hy.int];rw[Zlz e1]
   have hb:(a == a')=eqI a a':=by
    rw[Z7x]
    by_cases e:a=a'
    ·subst e;simp
    ·simp[e]
   simp[hb]
  ·rename_i a a' hs _
   cases h
   have g1:de=.string:=by cases de<;>simp_all[Z2k]
   subst g1;rw[hx.str,hy.str]
   show Result.ok _ _=_
   rw[Z8I,←ZdG]
   congr 1
   exact ZeT _ _
  ·rename_i fs l m hs _
   obtain⟨e1,h⟩:=Z0b h;unfold Zk9 at e1;rw[hud] at e1
   cases de with
   | struct fields=>
    simp only[Bool.and_eq_true,Bool.not_eq_true',List.all_eq_true,decide_eq_true_eq] at e1;obtain⟨e1,e2⟩:=e1;rw[hs] at hsh;simp only[Z2k,Sh.struct.injEq] at hsh;subst hsh;obtain⟨us,h1,rfl⟩:=hx.agg;obtain⟨ws,h2,rfl⟩:=hy.agg;simp only[Sem.run_bind,run_program,Result.andThen_ok,e1,Bool.false_eq_true,if_false];rw[←Array.forIn_toList]
    rw[Z7y (P:=P) (s1:=⟨some false,⟨⟩⟩) fields.toList h (fun f hf x y c hp1 hp2 hc=>by
     obtain⟨p,k1,k2⟩:=Z6s hE hp1 h1;obtain⟨q,k3,k4⟩:=Z6s hE hp2 h2;have hq:=Zh1 hE d hc k1 k3 n (by omega) w;simp only[e2 f hf,if_true,ne_eq,not_false_eq_true,Sem.run_bind,k2,k4,Result.andThen_ok,hq]
     cases c<;>simp[Sem.run_pure])]
    cases b<;>simp[Result.andThen_ok,Sem.run_pure]
   | _=>cases e1
  ·rename_i len e l m hs _
   obtain⟨ei,hei,h⟩:=Z07 h
   have g1:de=.array len e:=by cases de<;>simp_all[Z2k]
   subst g1;obtain⟨us,h1,rfl⟩:=hx.agg;obtain⟨ws,h2,rfl⟩:=hy.agg;simp only[Sem.run_bind,(hE _ _ hei).run_sizeOf,Result.andThen_ok,Std.Legacy.Range.forIn_eq_forIn_range']
   have hr:List.range' 0 ([:len]:Std.Legacy.Range).size=List.range len:=by simp[Std.Legacy.Range.size,List.range_eq_range']
   rw[hr]
   rw[Z7y (P:=P) (s1:=⟨some false,⟨⟩⟩) (List.range len) h (fun f hf x y c hp1 hp2 hc=>by
    obtain⟨p,k1,k2⟩:=Z6s hE hp1 h1;obtain⟨q,k3,k4⟩:=Z6s hE hp2 h2;have hq:=Zh1 hE d hc k1 k3 n (by omega) w;simp only[Sem.run_bind,k2,k4,Result.andThen_ok,hq]
    cases c<;>simp[Sem.run_pure])]
   cases b<;>simp[Result.andThen_ok,Sem.run_pure]
  ·cases h
end
section
variable {X:Ctx} {D:Nm}
theorem Z9C (hE:EOK X.P X.E) {op:BinOp} {t:Nat} {l m:List EV} {v:EV} {x y:Operand} {us ws:List Value} {K:Value->Prop} {O:Prop} (h:Zcf X.P X.E op t l m=some v) (hl:VRs D l us) (hm:VRs D m ws) (hk:∀ u,VR D v u->K u) :
  BinOb X.P op t x y (.val (.agg us.toArray)) (.val (.agg ws.toArray)) K O:=by
 unfold Zcf at h;obtain⟨hg,h⟩:=Z2E h;obtain⟨b,h1,h⟩:=Z07 h;have hq:=Zh1 (D:=D) hE 8 h1 (u:=.agg us.toArray) (v:=.agg ws.toArray) (by simp only[VR];exact⟨us,hl,rfl⟩) (by simp only[VR];exact⟨ws,hm,rfl⟩) Op.maxDepth (by decide)
 split at h
 ·cases h
  refine .mk _ _ _ rfl rfl (fun w=>?_) (hk _ (by simp only[VR];rfl));simp only[Sem.run_bind,run_eqGuard_agg (hm:=hg),Result.andThen_ok,binOp,Op.equal,hq,Sem.run_pure]
 ·cases h
  refine .mk _ _ _ rfl rfl (fun w=>?_) (hk _ (by simp only[VR];rfl));simp only[Sem.run_bind,run_eqGuard_agg (hm:=hg),Result.andThen_ok,binOp,Op.equal,hq,Sem.run_pure]
 ·cases h
end
open Go Go.Proofs
def Zmr (x y:Int):Int:=IntKind.u64.wrap ((BitVec.ofInt 64 x ||| BitVec.ofInt 64 y).toNat:Int)
theorem Z9D (x y:BitVec 64):Zmr x.toNat y.toNat=((x ||| y).toNat:Int):=by
 unfold Zmr;rw[Z6n,Z6n,Zgz]
def ZlA (x y:Int):Int:=IntKind.u64.wrap ((BitVec.ofInt 64 x &&& BitVec.ofInt 64 y).toNat:Int)
theorem Zj9 (x y:BitVec 64):ZlA x.toNat y.toNat=((x &&& y).toNat:Int):=by
 unfold ZlA;rw[Z6n,Z6n,Zgz]
theorem Zn7 (x y:BitVec 64):eqI (x.toNat:Int) (y.toNat:Int)=decide (x=y):=by
 rw[Z7x,←ZeI,Bool.eq_iff_iff];simp
theorem Z7z {α R:Type} (v:α) (x:R) (f:α->R):opn (some v) x f=f v:=rfl
theorem Z7A (pre mid post:List Value) (k:Nat) (vs:List Value) (h:k+vs.length≤mid.length):Z05 (pre++(mid++post)) (pre.length+k) vs=pre++(Z05 mid k vs++post):=by
 unfold Z05
 have h1:(pre++(mid++post)).take (pre.length+k)=pre++mid.take k:=by
  rw[List.take_append,Nat.add_sub_cancel_left,List.take_of_length_le (by omega),List.take_append_of_le_length (by omega)]
 have h2:(pre++(mid++post)).drop (pre.length+k+vs.length)=mid.drop (k+vs.length)++post:=by
  rw[Nat.add_assoc,List.drop_length_add_append,List.drop_append_of_le_length h]
 rw[h1,h2];simp
theorem Zja {α:Type} (f:α->List Value) (size:Nat) (hf:∀ x,(f x).length=size) (l:List α) (i:Nat) (hi:i < l.length) (k:Nat) (vs:List Value) (hk:k+vs.length≤size) (x':α) (hx:Z05 (f l[i]) k vs=f x') :
  Z05 (l.flatMap f) (i * size+k) vs=(l.set i x').flatMap f:=by
 have e:l=l.take i++l[i]::l.drop (i+1):=by rw[←List.drop_eq_getElem_cons hi,List.take_append_drop]
 have e1:l.flatMap f=(l.take i).flatMap f++(f l[i]++(l.drop (i+1)).flatMap f):=by
  calc l.flatMap f=(l.take i++l[i]::l.drop (i+1)).flatMap f:=congrArg _ e
   _=_:=by rw[List.flatMap_append,List.flatMap_cons]
 have e2:((l.take i).flatMap f).length=i * size:=by rw[Z0i f size hf,List.length_take_of_le (by omega)]
 rw[e1,←e2,Z7A _ _ _ _ _ (by rw[hf];exact hk),List.set_eq_take_append_cons_drop,if_pos hi,List.flatMap_append,List.flatMap_cons,hx]
theorem ZaR {cur:List Value} {j m:Nat} {vs:List Value} (h:j+vs.length≤m) (hm:m≤cur.length):(Z05 cur j vs).take m=Z05 (cur.take m) j vs:=by
 unfold Z05
 have h1:(cur.take m).take j=cur.take j:=by rw[List.take_take,Nat.min_eq_left (by omega)]
 have h2:(cur.take m).drop (j+vs.length)=(cur.drop (j+vs.length)).take (m - (j+vs.length)):=by rw[List.drop_take]
 have h3:(cur.take j).length=j:=by rw[List.length_take];omega
 rw[h1,h2,List.append_assoc,List.append_assoc,List.take_append,h3,List.take_of_length_le (by omega),List.take_append,List.take_of_length_le (by omega:vs.length≤m - j)]
 congr 3
 omega
theorem OS.put {α:Type} (f:α->List Value) (size:Nat) (hf:∀ x,(f x).length=size) {M:List Blk} {os:OS} {l:List α} {e:Nat} (h:os.ok size (l.flatMap f)) {i:Nat} (hi:i < l.length) (k:Nat) {vs:List Value} (hk:k+vs.length≤size) (h1:Z0z vs=true) (x':α) (hx:Z05 (f l[i]) k vs=f x')
  (pre post:List Blk) (hM:M=pre++(os.blk e++post)) {g off:Nat} (hg:os.a=some g) (hoff:off=i * size+k) {K:List Blk->Prop}
  (kk:∀ (os':OS),os'.val=os.val->os'.a=os.a->os'.n=os.n->os'.ok size ((l.set i x').flatMap f)->K (pre++(os'.blk e++post))):StoreOb M ⟨g,off,none⟩ vs K:=by
 have hl0:=h.len;rw[Z0i f size hf] at hl0;obtain⟨a,n,c,cur⟩:=os;have hl:l.length * size=n * size:=hl0;simp only at hg;subst hg;obtain⟨q1,q2,q3,q4⟩:=h.cap g rfl;simp only at q1 q2 q3 q4;have hb:n * size≤c * size:=Nat.mul_le_mul_right _ q2
 have hi2:i * size+size≤l.length * size:=by
  have:=Nat.mul_le_mul_right size (show i+1≤l.length from hi)
  rwa [Nat.add_mul,Nat.one_mul] at this
 subst hM;subst hoff;refine StoreOb.mk pre post cur.toArray e rfl rfl ?_ h1 ?_
 ·simp only[List.size_toArray]
  omega
 ·have:=kk ⟨some g,n,c,Z05 cur (i * size+k) vs⟩ rfl rfl rfl ⟨?_,(fun h=>by cases h),fun g' hg=>?_⟩
  ·simpa[OS.blk] using this
  ·rw[Z0i f size hf,List.length_set]
   exact hl
  ·cases hg
   refine⟨?_,q2,q3,?_⟩
   ·simp only[Z05,List.length_append,List.length_take,List.length_drop]
    omega
   ·simp only
    rw[ZaR (by omega) (by omega),q4,Zja f size hf l i hi k vs hk x' hx]
theorem ZeU (l:List Value) (k:Nat) (v:Value) (h:k < l.length):Z05 l k [v]=l.set k v:=by
 rw[List.set_eq_take_append_cons_drop,if_pos h];simp[Z05]
theorem OS.putI {α:Type} (f:α->List Value) (size:Nat) (hf:∀ x,(f x).length=size) {M:List Blk} {os:OS} {l:List α} {e:Nat} (h:os.ok size (l.flatMap f)) {i:Nat} (hi:i < l.length) (x':α) (h1:Z0z (f x')=true)
  (pre post:List Blk) (hM:M=pre++(os.blk e++post)) {ad:Addr} (had:(os.a.map fun g=>(⟨g,0,none⟩:Addr))=some ad) {K:List Blk->Prop}
  (kk:∀ (os':OS),os'.val=os.val->os'.a=os.a->os'.n=os.n->os'.ok size ((l.set i x').flatMap f)->K (pre++(os'.blk e++post))):StoreOb M (ad.add (i * size)) (f x') K:=by
 obtain⟨g,hg,rfl⟩:∃ g,os.a=some g∧ad=⟨g,0,none⟩:=by
  cases ha:os.a with
  | none=>rw[ha] at had;cases had
  | some g=>rw[ha] at had;cases had;exact⟨g,rfl,rfl⟩
 rw[Z06 (⟨g,0,none⟩:Addr) rfl];refine OS.put f size hf h hi 0 (vs:=f x') (by rw[hf];omega) h1 x' ?_ pre post hM hg (by simp) kk
 unfold Z05;simp[hf]
theorem OS.putP {α:Type} (f:α->List Value) (size:Nat) (hf:∀ x,(f x).length=size) {M:List Blk} {os:OS} {l:List α} {e:Nat} (h:os.ok size (l.flatMap f)) {i:Nat} (hi:i < l.length) (k:Nat) {vs:List Value} (hk:k+vs.length≤size) (h1:Z0z vs=true) (x':α) (hx:Z05 (f l[i]) k vs=f x')
  (pre post:List Blk) (hM:M=pre++(os.blk e++post)) {ad:Addr} (had:(os.a.map fun g=>(⟨g,0,none⟩:Addr))=some ad) {K:List Blk->Prop}
  (kk:∀ (os':OS),os'.val=os.val->os'.a=os.a->os'.n=os.n->os'.ok size ((l.set i x').flatMap f)->K (pre++(os'.blk e++post))):StoreOb M ((ad.add (i * size)).add k) vs K:=by
 obtain⟨g,hg,rfl⟩:∃ g,os.a=some g∧ad=⟨g,0,none⟩:=by
  cases ha:os.a with
  | none=>rw[ha] at had;cases had
  | some g=>rw[ha] at had;cases had;exact⟨g,rfl,rfl⟩
 rw[Z06 (⟨g,0,none⟩:Addr) rfl,Z06 _ rfl];exact OS.put f size hf h hi k hk h1 x' hx pre post hM hg (by simp) kk
theorem Zck {I:GH} (n:Nat) (hn:n < 64):Spec Tryz.prog 287 [.int .i64 n] I [] fun v I' M'=>v=.int .u64 ((2 ^ n:Nat):Int)∧I'=I∧M'=[]:=by
 refine Z01 [] Z00 Tryz.func287 rfl rfl rfl ?_;intro B h0;refine LoopOb.inv (ι:=Nat) (fun i=>{ fl:=[(0,.val (.int .i64 n)),(3,.val (.int .u64 ((2 ^ i:Nat):Int))),(4,.val (.int .i64 i))],gi:=I }) (fun i=>i≤n) (fun i=>n - i) ?_ ?_
 ·exact⟨0,Nat.zero_le _,.refl,aF3,.nil⟩
 intro i hi;refine CondOb.mk (fun h=>?_) (fun h=>?_)
 ·have hlt:i < n:=by simpa using h
  have hp:2 ^ (i+1)≤2 ^ 63:=Nat.pow_le_pow_right (by omega) (by omega)
  have e:((2 ^ i:Nat):Int) * 2=((2 ^ (i+1):Nat):Int):=by rw[Nat.pow_succ];simp
  refine ArithOb.mk ((2 ^ (i+1):Nat):Int) (by rw[e];exact Z0W ⟨Int.natCast_nonneg _,by omega⟩) ?_;refine ArithOb.mk _ (Z03 (i:=i) (by omega)) ?_;exact⟨i+1,⟨hlt,by omega⟩,.refl,aF3,.nil⟩
 ·have:i=n:=by simp at h;omega
  subst this;exact⟨_,_,.refl,rfl,rfl,rfl⟩
def Z8f (ws:List Int) (n:Nat):Bool:=(ws.getD (n / 64) 0).toNat.testBit (n % 64)
theorem ZlB {w:Int} (hw:Z0G w) (k:Nat):decide ((w.tdiv ((2 ^ k:Nat):Int)).tmod 2=1)=w.toNat.testBit k:=by
 obtain⟨n,rfl⟩:=Int.eq_ofNat_of_zero_le hw.1;rw[Nat.testBit_eq_decide_div_mod_eq];have e:((n:Int).tdiv ((2 ^ k:Nat):Int)).tmod 2=((n / 2 ^ k % 2:Nat):Int):=rfl
 rw[e,Int.toNat_natCast]
 congr 1
 simp only[eq_iff_iff];omega
set_option maxHeartbeats 1000000 in
theorem Zh2 {I:GH} {a b c d:Int} (hws:∀ x∈[a,b,c,d],Z0G x) (x:UInt8):Spec Tryz.prog 271 [.agg #[.int .u64 a,.int .u64 b,.int .u64 c,.int .u64 d],.int .u8 x.toNat] I [] fun v I' M'=>v=.bool (Z8f [a,b,c,d] x.toNat)∧I'=I∧M'=[]:=by
 have hx:=x.toNat_lt
 have key:∀ (w:Int) (j:Nat),x.toNat / 64=j->[a,b,c,d].getD j 0=w->Z0G w->decide ((w.tdiv ((2 ^ (x.toNat % 64):Nat):Int)).tmod 2=1)=Z8f [a,b,c,d] x.toNat:=fun w j hj hw hu=>by
  rw[ZlB hu,Z8f,hj,hw]
 have hpw:=Zck (I:=I) (x.toNat % 64) (by omega)
 have hp0:(0:Int) < ((2 ^ (x.toNat % 64):Nat):Int):=by have:=Nat.two_pow_pos (x.toNat % 64);omega
 have em:((x.toNat:Int)).tmod 64=((x.toNat % 64:Nat):Int):=rfl;have ed:((x.toNat:Int)).tdiv 64=((x.toNat / 64:Nat):Int):=rfl
 have hdiv:∀ w:Int,Z0G w->IntKind.u64.wrap (w.tdiv ((2 ^ (x.toNat % 64):Nat):Int))=w.tdiv ((2 ^ (x.toNat % 64):Nat):Int):=fun w hw=>by
  obtain⟨n,rfl⟩:=Int.eq_ofNat_of_zero_le hw.1;have e:(n:Int).tdiv ((2 ^ (x.toNat % 64):Nat):Int)=((n / 2 ^ (x.toNat % 64):Nat):Int):=rfl;rw[e];have h1:=Nat.div_le_self n (2 ^ (x.toNat % 64))
  have h2:=hw.2;generalize n / 2 ^ (x.toNat % 64)=q at *;exact Z0W ⟨by omega,by omega⟩
 refine Z01 [] Z00 Tryz.func271 rfl rfl rfl ?_;intro B h0;refine CodeOb.draw Z00 rfl rfl rfl ?_;refine ArithOb.mk (x.toNat:Int) (Z08 ⟨by omega,by omega⟩) ?_;refine DivOb.mk (by decide) ?_
 rcases(by omega:x.toNat / 64=0∨x.toNat / 64=1∨x.toNat / 64=2∨x.toNat / 64=3) with hj | hj | hj | hj
 ·refine ArithOb.mk 0 (by rw[ed,hj];decide) ?_
  refine ArrOb.mk 0 rfl (by decide) ?_;refine ArithOb.mk (x.toNat:Int) (Z08 ⟨by omega,by omega⟩) ?_;refine DivOb.mk (by decide) ?_;refine PCallOb.mk _ hpw ?_;rintro v J N - ⟨rfl,rfl,rfl⟩;refine DivOb.mk (by omega) ?_
  refine ArithOb.mk _ (hdiv a (hws a (by simp))) ?_;refine DivOb.mk (by decide) ?_;exact⟨_,_,.refl,congrArg Value.bool (key a 0 hj rfl (hws a (by simp))),rfl,rfl⟩
 ·refine ArithOb.mk 1 (by rw[ed,hj];decide) ?_
  refine ArrOb.mk 1 rfl (by decide) ?_;refine ArithOb.mk (x.toNat:Int) (Z08 ⟨by omega,by omega⟩) ?_;refine DivOb.mk (by decide) ?_;refine PCallOb.mk _ hpw ?_;rintro v J N - ⟨rfl,rfl,rfl⟩;refine DivOb.mk (by omega) ?_
  refine ArithOb.mk _ (hdiv b (hws b (by simp))) ?_;refine DivOb.mk (by decide) ?_;exact⟨_,_,.refl,congrArg Value.bool (key b 1 hj rfl (hws b (by simp))),rfl,rfl⟩
 ·refine ArithOb.mk 2 (by rw[ed,hj];decide) ?_
  refine ArrOb.mk 2 rfl (by decide) ?_;refine ArithOb.mk (x.toNat:Int) (Z08 ⟨by omega,by omega⟩) ?_;refine DivOb.mk (by decide) ?_;refine PCallOb.mk _ hpw ?_;rintro v J N - ⟨rfl,rfl,rfl⟩;refine DivOb.mk (by omega) ?_
  refine ArithOb.mk _ (hdiv c (hws c (by simp))) ?_;refine DivOb.mk (by decide) ?_;exact⟨_,_,.refl,congrArg Value.bool (key c 2 hj rfl (hws c (by simp))),rfl,rfl⟩
 ·refine ArithOb.mk 3 (by rw[ed,hj];decide) ?_
  refine ArrOb.mk 3 rfl (by decide) ?_;refine ArithOb.mk (x.toNat:Int) (Z08 ⟨by omega,by omega⟩) ?_;refine DivOb.mk (by decide) ?_;refine PCallOb.mk _ hpw ?_;rintro v J N - ⟨rfl,rfl,rfl⟩;refine DivOb.mk (by omega) ?_
  refine ArithOb.mk _ (hdiv d (hws d (by simp))) ?_;refine DivOb.mk (by decide) ?_;exact⟨_,_,.refl,congrArg Value.bool (key d 3 hj rfl (hws d (by simp))),rfl,rfl⟩
def Z3U (p:Nat->Bool):Nat->Nat->Nat
 | 0,t=>t
 | f+1,t=>bif p (t+1) then Z3U p f (t+1) else t
def Z1S (p:Nat->Bool) (i:Nat):Bool:=p i && (decide (i=0) || !p (i - 1))
def Z3A (p:Nat->Bool) (n:Nat):List (UInt8×UInt8):=((List.range n).filter (Z1S p)).map fun i=>(UInt8.ofNat i,UInt8.ofNat (Z3U p (255 - i) i))
theorem Z8J (p:Nat->Bool) (n:Nat):Z3A p (n+1)=Z3A p n++(bif Z1S p n then [(UInt8.ofNat n,UInt8.ofNat (Z3U p (255 - n) n))] else []):=by
 unfold Z3A;rw[List.range_succ,List.filter_append,List.map_append]
 cases h:Z1S p n<;>simp[h]
theorem ZaS (p:Nat->Bool) (n:Nat):(Z3A p n).length≤n:=by
 have:=List.length_filter_le (Z1S p) (List.range n)
 simpa[Z3A] using this
theorem Z9E {os:OS} {rs:List (UInt8×UInt8)} {x:UInt8×UInt8} (hos:os.ok 2 (Z2c rs)) {g c:Nat} {cur:List Value} (h1:cur.length=c * 2) (h2:os.n+1≤c) (h3:c≤maxLen) (h4:cur.take ((os.n+1) * 2)=Z2c rs++Z0X x) :
  OS.ok ⟨some g,os.n+1,c,cur⟩ 2 (Z2c (rs++[x])):=by
 have hpx:Z2c (rs++[x])=Z2c rs++Z0X x:=by simp[Z2c]
 have hl:=hos.len;refine⟨?_,(fun h=>by cases h),fun g3 hg3=>⟨h1,h2,h3,by rw[hpx];exact h4⟩⟩;rw[hpx,List.length_append,hl]
 simp[Z0X];omega
theorem Z8g {n:Nat} (h:n < 256):(UInt8.ofNat n).toNat=n:=by
 rw[UInt8.toNat_ofNat'];omega
theorem Zcl {n:Nat} (h:n < 256):IntKind.u8.wrap (n:Int)=((UInt8.ofNat n).toNat:Int):=by
 rw[Z8g h];simp[IntKind.wrap,IntKind.signed,IntKind.bits]
 omega
theorem Zn8 {I:GH} {a b c d:Int} (hws:∀ x∈[a,b,c,d],Z0G x) {n:Nat} (hn:n < 256):Spec Tryz.prog 271 [.agg #[.int .u64 a,.int .u64 b,.int .u64 c,.int .u64 d],.int .u8 (UInt8.ofNat n).toNat] I [] fun v I' M'=>v=.bool (Z8f [a,b,c,d] n)∧I'=I∧M'=[]:=by
 have h:=Zh2 (I:=I) hws (UInt8.ofNat n)
 rwa [show Z8f [a,b,c,d] (UInt8.ofNat n).toNat=Z8f [a,b,c,d] n from by rw[Z8g hn]] at h
set_option maxHeartbeats 4000000 in
theorem ZeV {I:GH} {a b c d:Int} (hws:∀ x∈[a,b,c,d],Z0G x):Spec Tryz.prog 255 [.agg #[.int .u64 a,.int .u64 b,.int .u64 c,.int .u64 d]] I [] fun v I' M'=>I'=I∧∃ os:OS,v=os.val∧os.ok 2 (Z2c (Z3A (Z8f [a,b,c,d]) 256))∧M'=os.blk 293:=by
 refine Z01 [] Z00 Tryz.func255 rfl rfl rfl ?_;intro B h0;generalize hp:Z8f [a,b,c,d]=p
 have hH:∀ {n:Nat},n < 256->Spec Tryz.prog 271 [.agg #[.int .u64 a,.int .u64 b,.int .u64 c,.int .u64 d],.int .u8 (UInt8.ofNat n).toNat] I [] fun v I' M'=>v=.bool (p n)∧I'=I∧M'=[]:=fun hn=>by
  rw[←hp];exact Zn8 hws hn
 refine LoopOb.inv (ι:=Nat×OS) (fun x=>{ fl:=[(1,.ref 1 0),(3,.val x.2.val),(4,.val (.int .i64 x.1))],cl:=[(1,ZiM a b c d)],gi:=I,mi:=x.2.blk 293 }) (fun x=>x.1≤256∧x.2.ok 2 (Z2c (Z3A p x.1))) (fun x=>256 - x.1) ?_ ?_
 ·exact⟨(0,OS0),⟨by simp,Z1C 2⟩,.refl,aF3,.cons rfl .nil⟩
 rintro⟨n,os⟩ ⟨hn,hos⟩;simp only at hn hos
 have hol:os.n≤256:=by
  have h1:=hos.len;have h2:=ZaS p n;rw[Z2S] at h1;omega
 have hsu:=Z8J p n;refine CondOb.mk (fun h=>?_) (fun h=>?_)
 ·have hlt:n < 256:=by simp at h;omega
  refine ArithOb.mk _ (Zcl hlt) ?_;refine CallOb.mk [] (os.blk 293) _ (.refl _) (hH hlt) ?_;rintro v J N - ⟨rfl,hJ,rfl⟩;subst J
  refine GuardOb.mk (fun h1=>?_) (fun h1=>?_)
  ·have hpn:p n=true:=by simpa using h1
   refine GuardOb.mk (fun h2=>?_) (fun h2=>?_)
   ·have hpos:0 < n:=by simpa using h2
    refine ArithOb.mk ((n - 1:Nat):Int) (by rw[Z08 ⟨by omega,by omega⟩];omega) ?_;refine ArithOb.mk _ (Zcl (n:=n - 1) (by omega)) ?_;refine CallOb.mk [] (os.blk 293) _ (.refl _) (hH (n:=n - 1) (by omega)) ?_;rintro v J N - ⟨rfl,hJ,rfl⟩;subst J
    refine CondOb.mk (fun h3=>?_) (fun h3=>?_)
    ·refine ArithOb.mk _ (Z03 (i:=n) (by omega)) ?_
     refine⟨(n+1,os),⟨⟨by simp only;omega,?_⟩,by simp only;omega⟩,.refl,aF3,.cons rfl .nil⟩;simp only
     have hst:Z1S p n=false:=by
      have e:decide (n=0)=false:=by simp;omega
      rw[Z1S,hpn,h3,e];rfl
     rw[hsu,hst,cond_false,List.append_nil];exact hos
    have hst:Z1S p n=true:=by rw[Z1S,hpn,h3];simp
    refine LoopOb.inv (ι:=Nat) (fun t=>{ fl:=[(1,.ref 1 0),(3,.val os.val),(4,.val (.int .i64 n)),(5,.val (.int .i64 t))],cl:=[(1,ZiM a b c d)],gi:=I,mi:=os.blk 293 }) (fun t=>n≤t∧t≤255∧Z3U p (255 - n) n=Z3U p (255 - t) t) (fun t=>255 - t) ?_ ?_
    ·exact⟨n,⟨Nat.le_refl _,by omega,rfl⟩,.refl,aF4,.cons rfl .nil⟩
    intro t ⟨ht1,ht2,ht3⟩;refine GuardOb.mk (fun h4=>?_) (fun h4=>?_)
    ·have hlt4:t < 255:=by simp at h4;omega
     have hstep:Z3U p (255 - t) t=bif p (t+1) then Z3U p (255 - (t+1)) (t+1) else t:=by
      rw[show 255 - t=(255 - (t+1))+1 from by omega,Z3U]
     refine ArithOb.mk _ (Z03 (i:=t) (by omega)) ?_;refine ArithOb.mk _ (Zcl (n:=t+1) (by omega)) ?_;refine CallOb.mk [] (os.blk 293) _ (.refl _) (hH (n:=t+1) (by omega)) ?_;rintro v J N - ⟨rfl,hJ,rfl⟩;subst J
     refine CondOb.mk (fun h5=>?_) (fun h5=>?_)
     ·refine ArithOb.mk _ (Z03 (i:=t) (by omega)) ?_
      exact⟨t+1,⟨⟨by omega,by omega,by rw[ht3,hstep,h5,cond_true]⟩,by omega⟩,.refl,aF4,.cons rfl .nil⟩
     ·have hend:Z3U p (255 - n) n=t:=by rw[ht3,hstep,h5,cond_false]
      refine ArithOb.mk _ (Zcl (n:=n) (by omega)) ?_;refine ArithOb.mk _ (Zcl (n:=t) (by omega)) ?_
      refine AllocOb.mk fun b9 hb9 hbM9=>?_
      refine OtherOb.appendN Z00 rfl (by simp) (e:=293) rfl rfl rfl os hos rfl (m:=1) rfl (news:=Z0X (UInt8.ofNat n,UInt8.ofNat t)) (by decide) (Z0d (b:=b9) (cs:=Z0X (UInt8.ofNat n,UInt8.ofNat t)) (k:=0) (n:=2) (T:=293) (.head _) (Nat.le_refl 2)) rfl (Mr:=[⟨b9,.cells (Z0X (UInt8.ofNat n,UInt8.ofNat t)).toArray 293 (0,0)⟩]) (List.perm_append_comm (l₁:=[_])) (by simp only[maxLen];omega) (by show (os.n+1) * 2≤_;omega) ?_;intro g' c' cur' q0 q1 q2 q3 q4;refine ArithOb.mk _ (Z03 (i:=n) (by omega)) ?_;refine⟨(n+1,⟨some g',os.n+1,c',cur'⟩),⟨⟨by simp only;omega,?_⟩,by simp only;omega⟩,.sub (List.Sublist.cons_cons _ (List.nil_sublist _)) .refl,aF3,.cons rfl .nil⟩;simp only
      rw[hsu,hst,cond_true,hend];exact Z9E hos q1 q2 q3 q4
    ·have ht5:t=255:=by simp at h4;omega
     have hend:Z3U p (255 - n) n=t:=by
      rw[ht3,ht5];rfl
     refine ArithOb.mk _ (Zcl (n:=n) (by omega)) ?_;refine ArithOb.mk _ (Zcl (n:=t) (by omega)) ?_
     refine AllocOb.mk fun b9 hb9 hbM9=>?_
     refine OtherOb.appendN Z00 rfl (by simp) (e:=293) rfl rfl rfl os hos rfl (m:=1) rfl (news:=Z0X (UInt8.ofNat n,UInt8.ofNat t)) (by decide) (Z0d (b:=b9) (cs:=Z0X (UInt8.ofNat n,UInt8.ofNat t)) (k:=0) (n:=2) (T:=293) (.head _) (Nat.le_refl 2)) rfl (Mr:=[⟨b9,.cells (Z0X (UInt8.ofNat n,UInt8.ofNat t)).toArray 293 (0,0)⟩]) (List.perm_append_comm (l₁:=[_])) (by simp only[maxLen];omega) (by show (os.n+1) * 2≤_;omega) ?_;intro g' c' cur' q0 q1 q2 q3 q4;refine ArithOb.mk _ (Z03 (i:=n) (by omega)) ?_;refine⟨(n+1,⟨some g',os.n+1,c',cur'⟩),⟨⟨by simp only;omega,?_⟩,by simp only;omega⟩,.sub (List.Sublist.cons_cons _ (List.nil_sublist _)) .refl,aF3,.cons rfl .nil⟩;simp only
     rw[hsu,hst,cond_true,hend];exact Z9E hos q1 q2 q3 q4
   ·have hst:Z1S p n=true:=by
     have e:n=0:=by simp at h2;omega
     rw[Z1S,hpn,e];rfl
    refine LoopOb.inv (ι:=Nat) (fun t=>{ fl:=[(1,.ref 1 0),(3,.val os.val),(4,.val (.int .i64 n)),(5,.val (.int .i64 t))],cl:=[(1,ZiM a b c d)],gi:=I,mi:=os.blk 293 }) (fun t=>n≤t∧t≤255∧Z3U p (255 - n) n=Z3U p (255 - t) t) (fun t=>255 - t) ?_ ?_
    ·exact⟨n,⟨Nat.le_refl _,by omega,rfl⟩,.refl,aF4,.cons rfl .nil⟩
    intro t ⟨ht1,ht2,ht3⟩;refine GuardOb.mk (fun h4=>?_) (fun h4=>?_)
    ·have hlt4:t < 255:=by simp at h4;omega
     have hstep:Z3U p (255 - t) t=bif p (t+1) then Z3U p (255 - (t+1)) (t+1) else t:=by
      rw[show 255 - t=(255 - (t+1))+1 from by omega,Z3U]
     refine ArithOb.mk _ (Z03 (i:=t) (by omega)) ?_;refine ArithOb.mk _ (Zcl (n:=t+1) (by omega)) ?_;refine CallOb.mk [] (os.blk 293) _ (.refl _) (hH (n:=t+1) (by omega)) ?_;rintro v J N - ⟨rfl,hJ,rfl⟩;subst J
     refine CondOb.mk (fun h5=>?_) (fun h5=>?_)
     ·refine ArithOb.mk _ (Z03 (i:=t) (by omega)) ?_
      exact⟨t+1,⟨⟨by omega,by omega,by rw[ht3,hstep,h5,cond_true]⟩,by omega⟩,.refl,aF4,.cons rfl .nil⟩
     ·have hend:Z3U p (255 - n) n=t:=by rw[ht3,hstep,h5,cond_false]
      refine ArithOb.mk _ (Zcl (n:=n) (by omega)) ?_;refine ArithOb.mk _ (Zcl (n:=t) (by omega)) ?_
      refine AllocOb.mk fun b9 hb9 hbM9=>?_
      refine OtherOb.appendN Z00 rfl (by simp) (e:=293) rfl rfl rfl os hos rfl (m:=1) rfl (news:=Z0X (UInt8.ofNat n,UInt8.ofNat t)) (by decide) (Z0d (b:=b9) (cs:=Z0X (UInt8.ofNat n,UInt8.ofNat t)) (k:=0) (n:=2) (T:=293) (.head _) (Nat.le_refl 2)) rfl (Mr:=[⟨b9,.cells (Z0X (UInt8.ofNat n,UInt8.ofNat t)).toArray 293 (0,0)⟩]) (List.perm_append_comm (l₁:=[_])) (by simp only[maxLen];omega) (by show (os.n+1) * 2≤_;omega) ?_;intro g' c' cur' q0 q1 q2 q3 q4;refine ArithOb.mk _ (Z03 (i:=n) (by omega)) ?_;refine⟨(n+1,⟨some g',os.n+1,c',cur'⟩),⟨⟨by simp only;omega,?_⟩,by simp only;omega⟩,.sub (List.Sublist.cons_cons _ (List.nil_sublist _)) .refl,aF3,.cons rfl .nil⟩;simp only
      rw[hsu,hst,cond_true,hend];exact Z9E hos q1 q2 q3 q4
    ·have ht5:t=255:=by simp at h4;omega
     have hend:Z3U p (255 - n) n=t:=by
      rw[ht3,ht5];rfl
     refine ArithOb.mk _ (Zcl (n:=n) (by omega)) ?_;refine ArithOb.mk _ (Zcl (n:=t) (by omega)) ?_
     refine AllocOb.mk fun b9 hb9 hbM9=>?_
     refine OtherOb.appendN Z00 rfl (by simp) (e:=293) rfl rfl rfl os hos rfl (m:=1) rfl (news:=Z0X (UInt8.ofNat n,UInt8.ofNat t)) (by decide) (Z0d (b:=b9) (cs:=Z0X (UInt8.ofNat n,UInt8.ofNat t)) (k:=0) (n:=2) (T:=293) (.head _) (Nat.le_refl 2)) rfl (Mr:=[⟨b9,.cells (Z0X (UInt8.ofNat n,UInt8.ofNat t)).toArray 293 (0,0)⟩]) (List.perm_append_comm (l₁:=[_])) (by simp only[maxLen];omega) (by show (os.n+1) * 2≤_;omega) ?_;intro g' c' cur' q0 q1 q2 q3 q4;refine ArithOb.mk _ (Z03 (i:=n) (by omega)) ?_;refine⟨(n+1,⟨some g',os.n+1,c',cur'⟩),⟨⟨by simp only;omega,?_⟩,by simp only;omega⟩,.sub (List.Sublist.cons_cons _ (List.nil_sublist _)) .refl,aF3,.cons rfl .nil⟩;simp only
     rw[hsu,hst,cond_true,hend];exact Z9E hos q1 q2 q3 q4
  ·have hpn:p n=false:=by simpa using h1
   refine ArithOb.mk _ (Z03 (i:=n) (by omega)) ?_;refine⟨(n+1,os),⟨⟨by simp only;omega,?_⟩,by simp only;omega⟩,.refl,aF3,.cons rfl .nil⟩;simp only
   rw[hsu,Z1S,hpn,Bool.false_and,cond_false,List.append_nil];exact hos
 ·have:n=256:=by simp at h;omega
  subst this;exact⟨_,_,.refl,rfl,os,rfl,hos,rfl⟩
theorem Zh3 (w:W64) {k:Nat} (hk:k < 64):IntKind.u64.wrap ((BitVec.ofInt 64 ((w.toNat:Int).fdiv (2 ^ (min k 64))) &&& BitVec.ofInt 64 1).toNat:Int)=bif w.getLsbD k then 1 else 0:=by
 have hn:w.toNat < 18446744073709551616:=w.isLt
 have e0:min k 64=k:=by omega
 have e1:(w.toNat:Int).fdiv (2 ^ k)=((w.toNat / 2 ^ k:Nat):Int):=by
  rw[Int.fdiv_eq_ediv_of_nonneg _ (by exact Int.le_of_lt (Int.pow_pos (by decide)))];simp
 rw[e0,e1]
 have e2:(BitVec.ofInt 64 ((w.toNat / 2 ^ k:Nat):Int) &&& BitVec.ofInt 64 1).toNat=w.toNat / 2 ^ k % 2:=by
  have h1:BitVec.ofInt 64 ((w.toNat / 2 ^ k:Nat):Int)=BitVec.ofNat 64 (w.toNat / 2 ^ k):=(show ∀ m:Nat,BitVec.ofInt 64 (m:Int)=BitVec.ofNat 64 m from fun m=>by simp) _
  have h2:BitVec.ofInt 64 1=BitVec.ofNat 64 1:=by decide
  rw[h1,h2,BitVec.toNat_and,BitVec.toNat_ofNat,BitVec.toNat_ofNat];have h3:w.toNat / 2 ^ k % 2 ^ 64=w.toNat / 2 ^ k:=Nat.mod_eq_of_lt (Nat.lt_of_le_of_lt (Nat.div_le_self _ _) hn)
  rw[h3,show 1 % 2 ^ 64=1 by decide,Nat.and_one_is_mod]
 rw[e2]
 have e3:IntKind.u64.wrap ((w.toNat / 2 ^ k % 2:Nat):Int)=((w.toNat / 2 ^ k % 2:Nat):Int):=by
  have:w.toNat / 2 ^ k % 2 < 2:=Nat.mod_lt _ (by decide);unfold IntKind.wrap
  simp only[IntKind.bits,IntKind.signed];simp
  omega
 rw[e3];have e4:w.getLsbD k=w.toNat.testBit k:=rfl
 rw[e4,Nat.testBit_eq_decide_div_mod_eq];have:w.toNat / 2 ^ k % 2 < 2:=Nat.mod_lt _ (by decide)
 by_cases h:w.toNat / 2 ^ k % 2=1
 ·rw[h]
  rfl
 ·have h0:w.toNat / 2 ^ k % 2=0:=by omega
  rw[h0];rfl
theorem Zh4 {k:Nat} (hk:k < 64):IntKind.u64.wrap (1 * 2 ^ (min k 64))=((Z7p k).toNat:Int):=by
 have e0:min k 64=k:=by omega
 have h1:(2:Nat) ^ k < 2 ^ 64:=Nat.pow_lt_pow_right (by decide) hk
 have e:(Z7p k).toNat=2 ^ k:=by
  unfold Z7p;rw[BitVec.toNat_shiftLeft];simp only[BitVec.toNat_ofNat]
  rw[Nat.shiftLeft_eq,show 1 % 2 ^ 64=1 by decide,Nat.one_mul,Nat.mod_eq_of_lt h1]
 rw[e0,e,Int.one_mul]
 have e2:((2:Int) ^ k)=((2 ^ k:Nat):Int):=by simp
 rw[e2];unfold IntKind.wrap
 simp only[IntKind.bits,IntKind.signed];simp
 omega
def Z3B (w:W64):Value:=.int .u64 w.toNat
theorem Zkq {w:W64} {i:Nat} (hlt:i < 64) (h2:¬ IntKind.u64.wrap ((BitVec.ofInt 64 ((w.toNat:Int).fdiv (2 ^ (min i 64))) &&& BitVec.ofInt 64 1).toNat:Int)=0):w.getLsbD i=true:=by
 have hb:=Zh3 w hlt
 cases hg:w.getLsbD i with
 | true=>rfl
 | false=>
  rw[hg] at hb;exact absurd hb h2
theorem Zh5 {w:W64} {i:Nat} (hlt:i < 64) (h2:IntKind.u64.wrap ((BitVec.ofInt 64 ((w.toNat:Int).fdiv (2 ^ (min i 64))) &&& BitVec.ofInt 64 1).toNat:Int)=0):w.getLsbD i=false:=by
 have hb:=Zh3 w hlt
 cases hg:w.getLsbD i with
 | false=>rfl
 | true=>
  rw[hg,h2] at hb;cases hb
theorem Zn9 {a b:Int} (h:(!decide (a=b))=true):¬ a=b:=by simpa using h
theorem Zkr {a b:Int} (h:(!decide (a=b))=false):a=b:=by simpa using h
theorem Z8K {I:GH} {M0:List Blk} (w:W64):Spec Tryz.prog 100 [.int .u64 w.toNat] I M0 fun v I' M'=>I'=I∧∃ os:OS,os.ok 1 ((Z3y w 64).map fun n:Nat=>Value.int .i64 n)∧v=os.val∧M'=os.blk 3++M0:=by
 refine Z01 [] Z00 Tryz.func100 rfl rfl rfl ?_;intro B h0;refine LoopOb.inv (ι:=Nat×OS) (fun x=>{ fl:=[(0,.val (.int .u64 w.toNat)),(3,.val x.2.val),(5,.val (.int .i64 x.1))],gi:=I,mi:=x.2.blk 3++M0 }) (fun x=>x.1≤64∧x.2.ok 1 ((Z3y w x.1).map fun n:Nat=>Value.int .i64 n)) (fun x=>64 - x.1) ?_ ?_
 ·exact⟨(0,OS0),⟨by simp,Z1C 1⟩,.refl,aF3,.nil⟩
 rintro⟨i,os⟩ ⟨hi,hos⟩;simp only at hi hos
 have hon:os.n≤64:=by
  have h1:=hos.len;rw[List.length_map] at h1;have:=ZeK w i;omega
 refine CondOb.mk (fun h=>?_) (fun h=>?_)
 rotate_left
 ·have hge:i=64:=by have:¬ (i:Int) < 64:=of_decide_eq_false h;omega
  rw[hge] at hos;exact⟨_,_,.refl,rfl,os,hos,rfl,rfl⟩
 have hlt:i < 64:=by have:(i:Int) < 64:=of_decide_eq_true h;omega
 refine ShOb.mk i rfl ?_;refine CondOb.mk (fun h2=>?_) (fun h2=>?_)
 ·have hw:=Zkq (w:=w) hlt (Zn9 h2)
  refine AllocOb.mk fun b9 hb9 hbM9=>?_
  refine OtherOb.app1 Z00 rfl (by simp) (e:=3) rfl rfl rfl os hos rfl (cs:=[.int .i64 i]) rfl rfl rfl [] M0 rfl (by omega) (by show (os.n+1) * 8≤_;omega) ?_;intro os2 hn2 hI2 hok2;refine ArithOb.mk _ (Z03 (i:=i) (by omega)) ?_;refine⟨(i+1,os2),⟨⟨hlt,?_⟩,by simp only;omega⟩,.refl,aF3,.nil⟩;simp only
  rw[Z7q,hw,List.map_append];exact hok2
 ·have hw:=Zh5 (w:=w) hlt (Zkr h2)
  refine ArithOb.mk _ (Z03 (i:=i) (by omega)) ?_;refine⟨(i+1,os),⟨⟨hlt,?_⟩,by simp only;omega⟩,.refl,aF3,.nil⟩;simp only
  rw[Z7q,hw,cond_false,List.append_nil];exact hos
def ewW (w:W64):EV:=.i .u64 w.toNat
theorem Z6t {E:Env} {e:Nat} {ei:TI} (he:E e=some ei) (hs:ei.size=1) (ha:ei.sh.agg=false) (P:List EV) (x:EV) (r:List EV):ZaO E e (P.length * ei.size) (P++x::r)=some x:=by
 unfold ZaO;rw[he,Z7z,hs,Nat.mul_one,Z4S,List.drop_left,ha];rfl
theorem Z8L {F:Nat->EV->EV->Option Bool} {E:Env} {e:Nat} {ei:TI} (he:E e=some ei) (hs:ei.size=1) (ha:ei.sh.agg=false) (hF:∀ a b,F e (.i .u64 a) (.i .u64 b)=some (eqI a b)):∀ (l m:List W64) (P1 P2:List EV),l.length=m.length->P1.length=P2.length ->
  Zj2 F E (P1++l.map ewW) (P2++m.map ewW) ((List.range' P1.length l.length).map fun i=>(e,i * ei.size))=some (decide (l=m))
 | [],[],P1,P2,_,_=>rfl
 | [],_::_,_,_,h,_=>by simp at h
 | _::_,[],_,_,h,_=>by simp at h
 | a::l,b::m,P1,P2,h,hp=>by
  have ih:=Z8L he hs ha hF l m (P1++[ewW a]) (P2++[ewW b]) (by simpa using h) (by simpa using hp);rw[List.length_append,List.length_singleton,List.append_assoc,List.append_assoc,List.singleton_append,List.singleton_append] at ih
  rw[List.length_cons,List.range'_succ,List.map_cons,List.map_cons,List.map_cons,Zj2,Z6t he hs ha,Z7z,hp,Z6t he hs ha,Z7z,←hp];rw[show F e (ewW a) (ewW b)=some (decide (a=b)) by rw[←Zn7];exact hF _ _,Z7z,Z11]
  by_cases e1:a=b
  ·subst e1
   simp only[decide_true,if_true];rw[ih]
   simp
  ·simp[e1]
def Z6u (m:List W64):List Value:=(List.range 64).map fun i=>Z3B (m.getD i 0)
theorem Z9F {m:List W64} (h:m.length=64):Z6u m=m.map Z3B:=by
 unfold Z6u
 apply List.ext_getElem
 ·simp[h]
 ·intro i h1 h2
  have:i < m.length:=by simpa using h2
  simp[List.getD_eq_getElem?_getD,this]
theorem Z1u (m:List W64):(Z6u m).length=64:=by simp[Z6u]
theorem Zh6 {x y:Operand} {p q:List W64} (hp:p.length=64) (hq:q.length=64) {V:Value->Prop} {other:Prop} (h:V (.bool (decide (p=q)))) :
  BinOb Tryz.prog .eql 152 x y (.val (.agg (Z6u p).toArray)) (.val (.agg (Z6u q).toArray)) V other:=by
 rw[Z9F hp,Z9F hq]
 have hv:∀ l:List W64,VRs (fun _=>none) (l.map ewW) (l.map Z3B):=fun l=>by
  induction l with
  | nil=>exact .nil
  | cons a l ih=>exact .cons (by simp only[ewW,Z3B,VR]) ih
 refine Z9C (X:=⟨Tryz.prog,Z2L,[],0,0,default,fun _=>none,[],none⟩) (D:=fun _=>none) (v:=.b (decide (p=q))) Z00 ?_ (hv p) (hv q) (fun u hu=>by simp only[VR] at hu;rw[hu];exact h)
 show Zcf Tryz.prog Z2L .eql 152 _ _=_
 obtain⟨i1,h1,hs1⟩:∃ i,Z2L 152=some i∧i.sh=.array 64 87:=⟨_,rfl,rfl⟩;obtain⟨i2,h2,hs2,hz2⟩:∃ i,Z2L 87=some i∧i.sh=.int .u64∧i.size=1:=⟨_,rfl,rfl,rfl⟩
 have hF:∀ a b,eqT Tryz.prog Z2L 7 87 (.i .u64 a) (.i .u64 b)=some (eqI a b):=fun a b=>by
  simp only[eqT,h2,Z7z,hs2];rfl
 have hk:=Z8L (F:=eqT Tryz.prog Z2L 7) h2 hz2 (by rw[hs2];rfl) hF p q [] [] (by omega) rfl;unfold Zcf;rw[eqT];simp only[h1,Z7z,hs1,h2]
 rw[List.nil_append,List.nil_append,List.length_nil,hp] at hk;rw[List.range_eq_range',hk,show Tryz.prog.eqGuardType Tryz.prog.depth 152=false by kernel_rfl];rfl
structure Sy where
 n:Nat
 m:List W64
 w:W64
def Sy.cells (s:Sy):List Value:=.int .i64 s.n::(Z6u s.m++[Z3B s.w])
def Sy.val (s:Sy):Value:=.agg s.cells.toArray
def Sy.okS (s:Sy):Prop:=s.m.length=64∧s.n≤64
def Ziw (b:Nat) (m:List W64):Blk:=⟨b,.cells (Z6u m).toArray 152 (0,0)⟩
theorem Z4T {I:GH} {M:List Blk} {b:Nat} {m:List W64} (hM:Ziw b m∈M):Rd I M (⟨b,0,none⟩:Addr) 64 (Z6u m):=
 ⟨rfl,_,_,_,.inr ⟨_,hM,rfl,rfl⟩,by simp only[List.drop_zero];exact List.take_of_length_le (by simp[Z1u]),Z1u m⟩
theorem Zh7 {I:GH} {M:List Blk} {b:Nat} {m:List W64} (hM:Ziw b m∈M) {j:Nat} (hj:j < 64):Rd I M ((⟨b,0,none⟩:Addr).add (j * 1)) 1 [Z3B (m.getD j 0)]:=by
 rw[Z06 _ rfl];refine⟨rfl,_,_,_,.inr ⟨_,hM,rfl,rfl⟩,?_,rfl⟩
 simp only[Nat.zero_add,Nat.mul_one];rw[List.drop_eq_getElem_cons (by simpa[Z6u] using hj),List.take_succ_cons,List.take_zero]
 simp[Z6u]
theorem ZdH (m:List W64) (hm:m.length=64) (j:Nat) (hj:j < 64) (w:W64):Z05 (Z6u m) (0+j * 1) [Z3B w]=Z6u (m.set j w):=by
 rw[Z9F hm,Z9F (by simpa using hm),Nat.zero_add,Nat.mul_one,ZeU _ _ _ (by simp[hm];exact hj),List.map_set]
def nxM (m:List W64) (i:Nat):List W64:=(List.range i).map (fun q=>Z1D m 0 64 (m.getD q 0))++m.drop i
theorem Zh8 {m:List W64} (hm:m.length=64) {i:Nat} (hi:i≤64):(nxM m i).length=64:=by simp[nxM,hm];omega
theorem Zna {m:List W64} (hm:m.length=64) {i:Nat} (hi:i < 64):(nxM m i).set i (m.getD i 0)=nxM m i:=by
 unfold nxM
 have h:i < m.length:=by omega
 rw[List.set_append_right _ _ (by simp)];simp only[List.length_map,List.length_range,Nat.sub_self]
 rw[List.drop_eq_getElem_cons h,List.set_cons_zero];simp[List.getD_eq_getElem?_getD,h]
theorem Zjb {m:List W64} (hm:m.length=64) {i:Nat} (hi:i < 64):(nxM m i).set i (Z1D m 0 64 (m.getD i 0))=nxM m (i+1):=by
 unfold nxM
 have h:i < m.length:=by omega
 rw[List.set_append_right _ _ (by simp)];simp only[List.length_map,List.length_range,Nat.sub_self]
 rw[List.drop_eq_getElem_cons h,List.set_cons_zero,List.range_succ,List.map_append,List.append_assoc];rfl
theorem Zh9 {m:List W64} (hm:m.length=64):nxM m 64=Z4P m:=by
 unfold nxM Z4P;rw[List.drop_of_length_le (by omega),List.append_nil]
def ZaT (m:List W64) (k:Nat):W64:=(List.range k).foldl (fun w i=>w ||| ((m.getD i 0) &&& Z7p i)) 0
theorem ZeW (m:List W64) (k:Nat):ZaT m (k+1)=ZaT m k ||| (m.getD k 0 &&& Z7p k):=by
 unfold ZaT;rw[List.range_succ,List.foldl_append];rfl
theorem Znb {a b:Int} (h:a=b):SvLe (.val (.int .u64 a)) (.val (.int .u64 b)):=by
 subst h;exact .refl
theorem Zjc (m:List W64) (k:Nat):Zmr (ZaT m k).toNat (ZlA (m.getD k 0).toNat (Z7p k).toNat)=((ZaT m (k+1)).toNat:Int):=by
 rw[Zj9,Z9D,ZeW]
theorem Zha {m:List W64} {k:Nat} {w:W64} (hk:k < 64) (h:w.getLsbD k=true):Z1D m k (64 - k) w=Z1D m (k+1) (64 - (k+1)) (w ||| m.getD k 0):=by
 rw[show 64 - k=(64 - (k+1))+1 by omega,Z1D,h];rfl
theorem ZeX {m:List W64} {k:Nat} {w:W64} (hk:k < 64) (h:w.getLsbD k=false):Z1D m k (64 - k) w=Z1D m (k+1) (64 - (k+1)) w:=by
 rw[show 64 - k=(64 - (k+1))+1 by omega,Z1D,h];rfl
theorem Zcm {m:List W64} {i:Nat} (hi:i < m.length) (w:W64):(m.set i w).getD i 0=w:=by simp[List.getD_eq_getElem?_getD,hi]
set_option maxRecDepth 100000 in
set_option maxHeartbeats 8000000 in
theorem Zhb {I:GH} {M0:List Blk} (s:Sy) (hs:s.okS):Spec Tryz.prog 101 [s.val] I M0 fun v I' M'=>I'=I∧M'=M0∧∃ b:W64,v=.int .u64 b.toNat∧∀ i,i < 64->(b.getLsbD i=true ↔ ComesM s.m i i):=by
 refine Z01 [1,3,4] Z00 Tryz.func101 rfl rfl rfl ?_;intro B h0;obtain⟨hs1,hs2⟩:=hs
 refine AllocOb.mk fun b1 hb1 hbM1=>?_
 refine LoadOb.mk (Z6u s.m) ?_ ?_
 ·refine⟨rfl,_,_,_,.inr ⟨_,.head _,rfl,rfl⟩,?_,Z1u _⟩
  show ((s.cells).drop 1).take 64=_
  rw[Sy.cells,List.drop_succ_cons,List.drop_zero];exact List.take_left' (Z1u _)
 refine AllocOb.mk fun b3 hb3 hbM3=>?_
 refine StoreOb.to [] _ _ _ rfl rfl rfl rfl (Z6u s.m) rfl ?_;refine LoopOb.inv (ι:=List W64) (fun m=>{ fl:=[(3,.val (ptr b3))],gi:=I,mi:=Ziw b3 m::M0 }) (OnM s.m) Zk8 ?_ ?_
 ·exact⟨s.m,.start hs1,.sub (.cons_cons _ (.cons _ (.refl _))) .refl,.cons .refl (.nil),.nil⟩
 intro m hm;have hml:=hm.len;refine LoadOb.mk _ (Z4T (.head _)) ?_
 refine AllocOb.mk fun b4 hb4 hbM4=>?_
 refine StoreOb.to [] _ _ _ rfl rfl rfl rfl (Z6u m) rfl ?_;refine LoopOb.inv (ι:=Nat) (fun i=>{ fl:=[(3,.val (ptr b3)),(4,.val (ptr b4)),(13,.val (.int .i64 i))],gi:=I,mi:=Ziw b4 (nxM m i)::(Ziw b3 m::M0) }) (fun i=>i≤64) (fun i=>64 - i) ?_ ?_
 ·refine⟨0,Nat.zero_le _,.refl,aF3,.nil⟩
 intro i hi;refine CondOb.mk (fun h=>?_) (fun h=>?_)
 rotate_left
 ·have hge:i=64:=by have:¬ (i:Int) < 64:=of_decide_eq_false h;omega
  subst hge;refine LoadOb.mk _ (Z4T (.head _)) ?_;refine LoadOb.mk _ (Z4T (.tail _ (.head _))) ?_;refine Zh6 (Zh8 hml (Nat.le_refl _)) hml ?_;rw[Zh9 hml];refine CondOb.mk (fun he=>?_) (fun he=>?_)
  ·have he':Z4P m=m:=of_decide_eq_true he
   refine LoadOb.mk _ (Z4T (.tail _ (.head _))) ?_;refine LoopOb.inv (ι:=Nat) (fun k=>{ fl:=[(7,.val (.int .u64 (ZaT m k).toNat)),(40,.val (.agg (Z6u m).toArray)),(41,.val (.int .i64 k))],gi:=I,mi:=M0 }) (fun k=>k≤64) (fun k=>64 - k) ?_ ?_
   ·exact⟨0,Nat.zero_le _,.sub (.cons _ (.cons _ (.refl _))) .refl,aF3,.nil⟩
   intro k hk;refine CondOb.mk (fun h=>?_) (fun h=>?_)
   rotate_left
   ·have hge:k=64:=by have:¬ (k:Int) < 64:=of_decide_eq_false h;omega
    subst hge
    exact⟨_,_,.refl,rfl,rfl,ZaT m 64,rfl,fun i hi=>by
     rw[show ZaT m 64=Zlb m from rfl,ZgC m hi,hm.done he' hi hi]⟩
   have hk2:k < 64:=by have:(k:Int) < 64:=of_decide_eq_true h;omega
   clear h hk
   have hc:k=0∨k=1∨k=2∨k=3∨k=4∨k=5∨k=6∨k=7∨k=8∨k=9∨k=10∨k=11∨k=12∨k=13∨k=14∨k=15∨k=16∨k=17∨k=18∨k=19∨k=20∨k=21∨k=22∨k=23∨k=24∨k=25∨k=26∨k=27∨k=28∨k=29∨k=30∨k=31∨k=32∨k=33∨k=34∨k=35∨k=36∨k=37∨k=38∨k=39∨k=40∨k=41∨k=42∨k=43∨k=44∨k=45∨k=46∨k=47∨k=48∨k=49∨k=50∨k=51∨k=52∨k=53∨k=54∨k=55∨k=56∨k=57∨k=58∨k=59∨k=60∨k=61∨k=62∨k=63:=by omega
   rcases hc with rfl | rfl | rfl | rfl | rfl | rfl | rfl | rfl | rfl | rfl | rfl | rfl | rfl | rfl | rfl | rfl | rfl | rfl | rfl | rfl | rfl | rfl | rfl | rfl | rfl | rfl | rfl | rfl | rfl | rfl | rfl | rfl | rfl | rfl | rfl | rfl | rfl | rfl | rfl | rfl | rfl | rfl | rfl | rfl | rfl | rfl | rfl | rfl | rfl | rfl | rfl | rfl | rfl | rfl | rfl | rfl | rfl | rfl | rfl | rfl | rfl | rfl | rfl | rfl
   all_goals
    refine ArrOb.mk _ rfl hk2 ?_;refine ShOb.mk _ rfl ?_;refine ArithOb.mk _ (Zh4 hk2) ?_;refine ArithOb.mk _ (Z03 (by omega)) ?_;exact⟨_,⟨hk2,by omega⟩,.refl,.cons (Znb (Zjc m _)) (aF2),.nil⟩
  ·have he':Z4P m≠m:=of_decide_eq_false he
   refine LoadOb.mk _ (Z4T (.head _)) ?_;refine StoreOb.to [_] _ _ _ rfl rfl rfl rfl (Z6u (nxM m 64)) rfl ?_;refine⟨Z4P m,⟨hm.next,ZgB hml he'⟩,.sub (.cons _ (.refl _)) (.eqM ?_),.cons .refl (.nil),.nil⟩;rw[Zh9 hml]
   rfl
 have hlt:i < 64:=by have:(i:Int) < 64:=of_decide_eq_true h;omega
 have hnl:=Zh8 hml hi;refine LoopOb.inv (ι:=Nat×W64) (fun s=>{ fl:=[(3,.val (ptr b3)),(4,.val (ptr b4)),(5,.val (.int .i64 i)),(13,.val (.int .i64 i)),(16,.val (.int .i64 s.1))],gi:=I,mi:=Ziw b4 ((nxM m i).set i s.2)::(Ziw b3 m::M0) }) (fun s=>s.1≤64∧Z1D m 0 64 (m.getD i 0)=Z1D m s.1 (64 - s.1) s.2) (fun s=>64 - s.1) ?_ ?_
 ·refine⟨(0,m.getD i 0),⟨Nat.zero_le _,rfl⟩,.eqM ?_,aF5,.nil⟩
  simp only;rw[Zna hml hlt]
 rintro⟨k,w⟩ ⟨hk,hgo⟩;simp only at hk hgo
 refine CondOb.mk (fun h=>?_) (fun h=>?_)
 rotate_left
 ·have hge:k=64:=by have:¬ (k:Int) < 64:=of_decide_eq_false h;omega
  subst hge;have hgo':Z1D m 0 64 (m.getD i 0)=w:=hgo;refine ArithOb.mk _ (Z03 (i:=i) (by omega)) ?_;refine⟨i+1,⟨hlt,by omega⟩,.eqM ?_,aF3,.nil⟩;rw[←Zjb hml hlt,hgo']
 have hk2:k < 64:=by have:(k:Int) < 64:=of_decide_eq_true h;omega
 have hsl:((nxM m i).set i w).length=64:=by rw[List.length_set,hnl]
 have hr4:∀ {M:List Blk},Ziw b4 ((nxM m i).set i w)∈M->Rd I M ((⟨b4,0,none⟩:Addr).add (i * 1)) 1 [.int .u64 w.toNat]:=fun hM=>by
  have:=Zh7 (I:=I) hM hlt
  rwa [Zcm (by omega) w] at this
 have hr3:∀ {M:List Blk},Ziw b3 m∈M->Rd I M ((⟨b3,0,none⟩:Addr).add (k * 1)) 1 [.int .u64 (m.getD k 0).toNat]:=fun hM=>Zh7 (I:=I) hM hk2
 refine ArrOb.mk i rfl hlt ?_;refine LoadOb.mk _ (hr4 (.head _)) ?_;refine ShOb.mk k rfl ?_;refine CondOb.mk (fun h2=>?_) (fun h2=>?_)
 ·have hw:=Zkq (w:=w) hk2 (Zn9 h2)
  refine CodeOb.draw Z00 rfl rfl rfl ?_;refine ArrOb.mk i rfl hlt ?_;refine LoadOb.mk _ (hr4 (.head _)) ?_;refine ArrOb.mk k rfl hk2 ?_;refine LoadOb.mk _ (hr3 (.tail _ (.head _))) ?_;refine ArrOb.mk i rfl hlt ?_;refine StoreOb.addTo [] (Ziw b3 m::M0) (Z6u ((nxM m i).set i w)) _ rfl ?_ rfl (Z6u ((nxM m i).set i (w ||| m.getD k 0))) ?_ ?_
  ·rw[Nat.ble_eq,Z1u]
   show 0+i * 1+1≤64
   omega
  ·show Z05 _ _ [Value.int .u64 (Zmr w.toNat (m.getD k 0).toNat)]=_
   rw[Z9D];have:=ZdH ((nxM m i).set i w) hsl i hlt (w ||| m.getD k 0)
   rw[List.set_set] at this;exact this
  refine ArithOb.mk _ (Z03 (i:=k) (by omega)) ?_;exact⟨(k+1,w ||| m.getD k 0),⟨⟨hk2,by rw[hgo,Zha hk2 hw]⟩,by simp only;omega⟩,.refl,aF5,.nil⟩
 ·have hw:=Zh5 (w:=w) hk2 (Zkr h2)
  refine ArithOb.mk _ (Z03 (i:=k) (by omega)) ?_;exact⟨(k+1,w),⟨⟨hk2,by rw[hgo,ZeX hk2 hw]⟩,by simp only;omega⟩,.refl,aF5,.nil⟩
section
variable {I:GH} {M:List Blk} {d:Nd} {x:Fl} {a:Option Addr} {n c:Nat} {ks:List Fi}
theorem IsAt.head (hk:IsAt I M a n ks) (h0:0 < n):∃ ad,a=some ad∧Rd I M (ad.add (0 * 5)) 5 (ks.headD fi0).cells:=by
 have h1:0 < ks.length:=by rw[hk.n];exact h0
 obtain⟨ad,h2,h3⟩:=hk.rd 0 h1;refine⟨ad,h2,?_⟩
 cases ks with
 | nil=>simp at h1
 | cons k ks=>exact h3
end
theorem IsAt.sub {I:GH} {M M':List Blk} {a:Option Addr} {n:Nat} {ks:List Fi} (h:IsAt I M a n ks) (hM:∀ x∈M,x∈M'):IsAt I M' a n ks:=
 ⟨h.n,fun j hj=>by
  obtain⟨ad,h1,h2⟩:=h.rd j hj
  exact⟨ad,h1,h2.sub hM⟩⟩
def KB (t:Tr):Prop:=∀ n∈t.ns,n.kn≤3000000000000
abbrev RX (X:Ctx) (G:GT) (pr:PR):RK:=⟨X.P,X.E,G,pr⟩
section
variable {X:Ctx} {G:GT} {pr:PR} {D:Nm} {m:Me} {F:Fr} {fr:Tri EV} {C:Bx} {I:GH} {M:List Blk} {V:SV->Prop} {O:Prop}
theorem Z0F {α:Type} {a b:α} (h:some a=some b):a=b:=by cases h;rfl
theorem Zjd {op:BinOp} {k k':IntKind} {a b:Int} {v:EV} {ti:Option TI} {K:Value->Prop} {O:Prop} (h:Zld op k k' a b=some v) (hk:∀ u,VR D v u->K u):Z2w op ti (.val (.int k a)) (.val (.int k' b)) K O:=by
 have mk:∀ {q:EV} {u:Value},some q=some v->VR D q u->K u:=fun e hu=>hk _ (Z0F e ▸ hu)
 unfold Zld at h
 split at h
 ·split at h
  ·rename_i j
   refine⟨j,rfl,⟨_,rfl,mk h ?_⟩⟩;simp only[VR]
   rw[Z2F,Zlx,Z11,Zh0]
  ·cases h
 ·split at h
  ·rename_i j
   refine⟨j,rfl,mk h ?_⟩;simp only[VR]
   rw[Zly,Z11,Zh0]
  ·cases h
 all_goals obtain⟨hq,h⟩:=Z0b h
 all_goals simp only[Z2w,hq,cond_true]
 ·exact⟨_,rfl,mk h (by simp only[VR];rw[Z2F,Zls])⟩
 ·exact⟨_,rfl,mk h (by simp only[VR];rw[Z2F,Zlt])⟩
 ·exact⟨_,rfl,mk h (by simp only[VR];rw[Z2F,Zlu])⟩
 ·obtain⟨h0,h⟩:=Z2E h
  refine⟨fun e=>?_,_,rfl,mk h (by simp only[VR];rw[Z2F,Zlv])⟩;rw[Z7x,e] at h0;simp at h0
 ·obtain⟨h0,h⟩:=Z2E h
  refine⟨fun e=>?_,mk h (by simp only[VR];rw[Zlw])⟩;rw[Z7x,e] at h0;simp at h0
 ·obtain⟨r,hr,h⟩:=Z07 h;rw[Z6p hr];exact mk h (by simp only[VR])
 ·obtain⟨r,hr,h⟩:=Z07 h;rw[Z6p hr];exact mk h (by simp only[VR])
 ·obtain⟨r,hr,h⟩:=Z07 h;rw[Z6p hr];exact mk h (by simp only[VR])
 ·obtain⟨r,hr,h⟩:=Z07 h;rw[Z6p hr];exact mk h (by simp only[VR])
 ·obtain⟨r,hr,h⟩:=Z07 h
  rw[Zlr] at hr;have hv:v=.b r:=(Z0F h).symm;subst hv;have hk':K (.bool r):=hk _ (by simp only[VR])
  cases op<;>first
   | contradiction
   |(rw[hr];exact hk')
theorem Zcn (b:Bool):cnd b false true=!b:=by cases b<;>rfl
theorem Zje {op:BinOp} {a b:List UInt8} {v:EV} {ti:Option TI} {P:Program} {t:Nat} {x y:Operand} {K:Value->Prop} {O:Prop} (h:Zle op a b=some v) (hk:∀ u,VR D v u->K u) :
  Z2w op ti (.val (.string ⟨a.toArray⟩)) (.val (.string ⟨b.toArray⟩)) K (BinOb P op t x y (.val (.string ⟨a.toArray⟩)) (.val (.string ⟨b.toArray⟩)) K O):=by
 unfold Zle at h
 split at h
 ·cases h
  refine hk _ ?_;simp only[VR];rw[ZdG,Z8I]
 ·cases h
  refine hk _ ?_;simp only[VR];rw[ZdG,Z8I,Zcn]
 ·obtain⟨hl,h⟩:=Z0b h
  cases h;have hl':=Nat.le_of_ble_eq_true hl;refine BinOb.concat (by simpa[ByteArray.size] using hl') (hk _ ?_);simp only[VR]
  congr 1
 ·cases h
theorem Zhc {op:BinOp} {a b:Bool} {v:EV} {ti:Option TI} {K:Value->Prop} {O:Prop} (h:ZgE op ti a b=some v) (hk:∀ u,VR D v u->K u):Z2w op ti (.val (.bool a)) (.val (.bool b)) K O:=by
 unfold ZgE at h
 split at h
 ·split at h
  ·cases h;exact hk _ (by simp only[VR])
  ·cases h;exact hk _ (by simp only[VR])
  ·cases h
 ·cases h
theorem Zjf (hE:EOK X.P X.E) {op:BinOp} {t:Nat} {x y v:EV} {ox oy:Operand} {u w:Value} {K:Value->Prop} {O:Prop} (h:Zlf X.P X.E op t x y=some v) (hx:VR D x u) (hy:VR D y w) (hk:∀ u,VR D v u->K u) :
  Z2w op (X.E t) (.val u) (.val w) K (BinOb X.P op t ox oy (.val u) (.val w) K O):=by
 unfold Zlf at h
 split at h
 ·rw[hx.int,hy.int];exact Zjd h hk
 ·rw[hx.str,hy.str];exact Zje h hk
 ·rw[hx.bool,hy.bool];exact Zhc h hk
 ·obtain⟨us,h1,rfl⟩:=hx.agg
  obtain⟨ws,h2,rfl⟩:=hy.agg;exact Z9C hE h h1 h2 hk
 ·cases h
variable (hE:EOK X.P X.E) (hm:MS (RX X G pr) D m I M)
theorem Zms {v:EV} {n:Nat} (h:v.nat=some n):∃ k,v=.i k (.ofNat n):=by
 unfold EV.nat at h
 split at h
 ·cases h;exact⟨_,rfl⟩
 ·cases h
theorem Zhd {x v:EV} {n:Nat} {u:Value} (h:ZmN x n=some v) (hx:VR D x u):∃ a,u=.pointer (some a)∧a.spot=none∧VR D v (.pointer (some (a.add n))):=by
 unfold ZmN at h
 split at h
 ·cases h
  obtain⟨a,ha,rfl⟩:=hx.ptr;refine⟨_,rfl,rfl,?_⟩;rw[Z06 _ rfl]
  simp only[VR];exact⟨a,ha,by simp only[Nat.add_eq,Nat.add_assoc]⟩
 ·cases h
  refine⟨_,hx.glo,rfl,?_⟩;rw[Z06 _ rfl]
  simp only[VR];rfl
 ·cases h
theorem Zjg {x v:EV} {j sz:Nat} {u:Value} (h:Zj3 x j sz=some v) (hx:VR D x u):∃ a n c,u=.slice (some a) n c∧j < n∧VR D v (.pointer (some (a.add (j * sz)))):=by
 unfold Zj3 at h
 split at h
 ·cases hb:Nat.blt j _ with
  | false=>rw[hb] at h;cases h
  | true=>
   rw[hb] at h;cases h;obtain⟨a,ha,rfl⟩:=hx.sli;refine⟨_,_,_,rfl,Nat.le_of_ble_eq_true hb,?_⟩;rw[Z06 _ rfl]
   simp only[VR];exact⟨a,ha,by simp only[Nat.add_eq,Nat.mul_eq,Nat.add_assoc]⟩
 ·cases hb:Nat.blt j _ with
  | false=>rw[hb] at h;cases h
  | true=>
   rw[hb] at h;cases h;obtain⟨a,ha,_,rfl⟩:=hx.slx;refine⟨_,_,_,rfl,Nat.le_of_ble_eq_true hb,?_⟩;rw[Z06 _ rfl]
   simp only[VR];exact⟨a,ha,by simp only[Nat.add_eq,Nat.mul_eq,Nat.add_assoc]⟩
 ·cases hb:Nat.blt j _ with
  | false=>rw[hb] at h;cases h
  | true=>
   rw[hb] at h;cases h;refine⟨_,_,_,hx.sgl,Nat.le_of_ble_eq_true hb,?_⟩;rw[Z06 _ rfl]
   simp only[VR];rfl
 ·cases h
theorem ZaU {ei:TI} {cs:List EV} {off:Nat} {v:EV} {us:List Value} (h:ZdA ei cs off=some v) (hc:VRs D cs us) :
  off+ei.size≤us.length∧VR D v (Z9Z ei.sh.agg ((us.drop off).take ei.size)):=by
 unfold ZdA at h;obtain⟨h0,h⟩:=Z2E h;obtain⟨l,h1,h2⟩:=Z07 h
 have h0':ei.size≠0:=fun e=>by rw[e] at h0;cases h0
 obtain⟨rfl,hl⟩:=ZdF h1;rw[Z4S] at h2 hl;refine⟨?_,Z6q h2 ((hc.drop off).take _)⟩;have:=hc.len
 simp at hl;omega
theorem ZdI {E:Env} {t i off:Nat} {fi:TI} (h:Zj4 E t i=some (off,fi)):∃ a b z fs ft,E t=some ⟨a,b,z,.struct fs⟩∧fs[i]?=some (ft,off)∧E ft=some fi:=by
 unfold Zj4 at h
 split at h
 ·rename_i a b z fs ht
  split at h
  ·rename_i ft o hf
   rw[Z3z] at hf
   split at h
   ·rename_i f hft
    cases h;exact⟨_,_,_,_,ft,ht,hf,hft⟩
   ·cases h
  ·cases h
 ·cases h
theorem ZlC {E:Env} {t:Nat} {r:Option Nat} {ei:TI} (h:Zoi E t=some (r,ei)):(∃ a b z e,E t=some ⟨a,b,z,.slice e⟩∧E e=some ei∧r=none)∨∃ a b z n e,E t=some ⟨a,b,z,.array n e⟩∧E e=some ei∧r=some n:=by
 unfold Zoi at h
 split at h
 ·rename_i a b z e ht
  split at h
  ·cases h;exact .inl ⟨_,_,_,_,ht,by assumption,rfl⟩
  ·cases h
 ·rename_i a b z n e ht
  split at h
  ·cases h;exact .inr ⟨_,_,_,_,_,ht,by assumption,rfl⟩
  ·cases h
 ·cases h
theorem ZeY {t:Nat} {x i v:EV} {u w:Value} (h:Z7r X.E t (some x) (some i)=some v) (hx:VR D x u) (hi:VR D i w) {ρ:Operand->SV} {ox oi:Operand} (hox:evq ρ ox=.val u) (hoi:evq ρ oi=.val w)
  (k:∀ x,SvE D x v->V x):V_q X (.index t ox oi) ρ C I M V O:=by
 unfold Z7r at h
 split at h
 ·rename_i l i' ht h1 h2
  cases h1;cases h2;obtain⟨j,hj,h⟩:=Z07 h;obtain⟨kk,rfl⟩:=Zms hj;have h8:ZgI l j=some v:=h;unfold ZgI at h8;obtain⟨b,hb,h9⟩:=Z07 h8;cases h9;rw[Z3z] at hb;rw[hx.str] at hox;rw[hi.int] at hoi;have hlt:=(List.getElem?_eq_some_iff.1 hb).1;simp only[V_q,ht,hox,hoi];refine⟨j,rfl,by simpa[ByteArray.size] using hlt,k _ (.val ?_)⟩
  simp only[VR]
  have:(⟨l.toArray⟩:ByteArray)[j]'(by simpa[ByteArray.size] using hlt)=b:=by
   have:=(List.getElem?_eq_some_iff.1 hb).2
   show l.toArray[j]'_=b
   simpa using this
  rw[this];rfl
 ·rename_i n e cs i' ht h1 h2
  cases h1;cases h2;obtain⟨ei,he,h⟩:=Z07 h;obtain⟨j,hj,h⟩:=Z07 h;obtain⟨kk,rfl⟩:=Zms hj;obtain⟨us,hus,rfl⟩:=hx.agg;unfold Zkc at h;obtain⟨hb,h⟩:=Z0b h;rw[Bool.and_eq_true] at hb;obtain⟨h3,h4⟩:=ZaU h hus;rw[hi.int] at hoi;simp only[V_q,ht,hox,hoi,he]
  have hsz:Nat.beq (n * ei.size) us.toArray.size=true:=by
   have h5:=Nat.eq_of_beq_eq_true hb.1;rw[List.size_toArray,hus.len,←h5];exact Z0R _
  rw[hsz];simp only[cond_true]
  exact⟨j,rfl,Nat.le_of_ble_eq_true hb.2,k _ (.val h4)⟩
 ·cases h
theorem ZlD {x v:EV} {sz l:Nat} {h:Option Nat} {u:Value} (hs:Zoh x sz l h=some v) (hx:VR D x u):∃ a n c,u=.slice a n c∧l≤h.getD n∧h.getD n≤c∧(h=none->l≤n) ∧
  VR D v (.slice (if c=l then a else a.map (·.add (l * sz))) (h.getD n - l) (c - l)):=by
 unfold Zoh at hs
 split at hs
 ·cases hb:(Nat.beq l 0 && Nat.beq (h.getD 0) 0) with
  | false=>rw[hb] at hs;cases hs
  | true=>
   rw[hb] at hs;cases hs;rw[Bool.and_eq_true] at hb;have h1:=Nat.eq_of_beq_eq_true hb.1;have h2:=Nat.eq_of_beq_eq_true hb.2;subst h1;refine⟨none,0,0,hx.sln,by omega,by omega,fun _=>by omega,?_⟩;rw[h2]
   simp[VR]
 ·rename_i id off n c
  obtain⟨a,ha,rfl⟩:=hx.sli;simp only at hs
  cases hb:(Nat.ble l (h.getD n) && Nat.ble (h.getD n) c) with
  | false=>rw[hb] at hs;cases hs
  | true=>
   rw[hb] at hs;simp only[cond_true] at hs;rw[Bool.and_eq_true] at hb;have h1:=Nat.le_of_ble_eq_true hb.1;have h2:=Nat.le_of_ble_eq_true hb.2;refine⟨_,n,c,rfl,h1,h2,fun e=>by subst e;exact h1,?_⟩;rw[Zcj] at hs
   by_cases e:c=l
   ·subst e
    simp only[decide_true,cond_true] at hs;cases hs;simp only[if_true,VR];exact⟨a,ha,by simp only[Nat.sub_eq,Nat.sub_self]⟩
   ·simp only[e,decide_false,cond_false] at hs
    cases hs;simp only[e,if_false,VR,Option.map_some];refine⟨a,ha,?_⟩
    rw[Z06 _ rfl];simp only[Nat.add_eq,Nat.mul_eq,Nat.sub_eq,Nat.add_assoc]
 ·rename_i id off e n
  obtain⟨a,ha,hle,rfl⟩:=hx.slx;simp only at hs
  cases hb:(Nat.ble l (h.getD n) && Nat.ble (h.getD n) n) with
  | false=>rw[hb] at hs;cases hs
  | true=>
   rw[hb] at hs;simp only[cond_true] at hs;rw[Bool.and_eq_true] at hb;have h1:=Nat.le_of_ble_eq_true hb.1;have h2:=Nat.le_of_ble_eq_true hb.2;refine⟨_,n,a.c - e,rfl,h1,by omega,fun e=>by subst e;exact h1,?_⟩
   cases hc:(Nat.beq l 0 || Nat.blt l n) with
   | true=>
    rw[hc] at hs;simp only[cond_true] at hs;cases hs;rw[Bool.or_eq_true] at hc;simp only[VR];refine⟨a,ha,by simp only[Nat.add_eq,Nat.sub_eq];omega,?_⟩
    have h3:a.c - e - l=a.c - (e+l):=by omega
    by_cases h0:l=0
    ·subst h0
     simp only[Nat.zero_mul,Nat.sub_zero,Option.map_some,Nat.add_eq,Nat.mul_eq,Nat.sub_eq,Nat.add_zero]
     split
     ·rfl
     ·rw[Z06 _ rfl];simp
    ·have h4:l < n:=by
      rcases hc with hc | hc
      ·exact absurd (Nat.eq_of_beq_eq_true hc) h0
      ·exact Nat.le_of_ble_eq_true hc
     rw[if_neg (by omega)];simp only[Option.map_some]
     rw[Z06 _ rfl];simp only[Nat.add_eq,Nat.mul_eq,Nat.sub_eq,Nat.add_assoc,h3]
   | false=>
    rw[hc] at hs;simp only[cond_false] at hs;cases hs;rw[Bool.or_eq_false_iff] at hc
    have h4:¬ l < n:=fun hlt=>by have:=Nat.ble_eq_true_of_le (show l.succ≤n from hlt);rw[show Nat.blt l n=Nat.ble l.succ n from rfl,this] at hc;cases hc.2
    have h5:h.getD n - l=0:=by omega
    simp only[VR,h5]
    split
    ·exact⟨_,_,rfl⟩
    ·exact⟨_,_,rfl⟩
 ·cases hs
end
section
variable {X:Ctx} {G:GT} {pr:PR} {D:Nm} {m:Me} {F:Fr} {fr:Tri EV} {C:Bx} {I:GH} {M:List Blk} {V:SV->Prop} {O:Prop}
theorem Zhe (c:Bool) (a b:Value):Zix c (.val a) (.val b)=.val (bif c then a else b):=by
 cases a<;>cases b<;>cases c<;>rfl
theorem Zhf {o:Option Operand} {xs:List Operand} (H:OR D F fr xs) (hx:∀ y,o=some y->y∈xs) {r:Option Nat} (h:Zlg (o.map (rdO fr))=some r) :
  (o.map (evq (evr F))=none∧r=none)∨∃ k n,o.map (evq (evr F))=some (.val (.int k (Int.ofNat n)))∧r=some n:=by
 cases o with
 | none=>simp[Zlg] at h;exact .inl ⟨rfl,h.symm⟩
 | some y=>
  simp only[Option.map_some,Zlg] at h
  cases hv:rdO fr y with
  | none=>rw[hv] at h;cases h
  | some v=>
   rw[hv] at h;simp only at h
   split at h
   ·rename_i n hn
    cases h;obtain⟨k,rfl⟩:=Zms hn;obtain⟨u,hu,hr⟩:=H.ev (hx y rfl) hv;rw[hr.int] at hu;exact .inr ⟨k,n,by simp only[Option.map_some];exact congrArg some hu,rfl⟩
   ·cases h
theorem Z9G (l:List UInt8) (lo hi:Nat):(⟨(Zlh l lo hi).toArray⟩:ByteArray)=(⟨l.toArray⟩:ByteArray).extract lo hi:=by
 apply ByteArray.ext
 apply Array.ext'
 unfold Zlh;rw[Z4S];simp[ByteArray.data_extract,List.extract_eq_take_drop]
theorem ZlE {v:EV} {n:Nat} {u:Value} (h:Ziu v=some n) (hv:VR D v u):∃ a c,u=.slice a n c:=by
 unfold Ziu at h
 split at h
 ·cases h;exact⟨_,_,hv.sln⟩
 ·cases h;obtain⟨a,c,rfl⟩:=hv.slo;exact⟨_,_,rfl⟩
 ·cases h;obtain⟨a,_,rfl⟩:=hv.sli;exact⟨_,_,rfl⟩
 ·cases h;obtain⟨a,_,_,rfl⟩:=hv.slx;exact⟨_,_,rfl⟩
 ·cases h;exact⟨_,_,hv.sgl⟩
 ·cases h
theorem Zhg (hE:EOK X.P X.E) {b:Builtin} {args:Array Operand} {ts:Array TypeId} {v:EV} (h:ZgL X.E b ts.toList (rdL fr args.toList)=some v) (H:OR D F fr args.toList) (k:∀ x,SvE D x v->V x) :
  V_q X (.call { callee:=.builtin b,args:=args,argTypes:=ts }) (evr F) C I M V O:=by
 unfold ZgL at h
 split at h
 ·
  unfold ZmS at h
  split at h
  ·rename_i t w ht hl
   obtain⟨us,e1,g1⟩:=H.evs (fun _ h=>h) hl;obtain⟨u,xs,g2,g3,rfl⟩:=g1.uncons;have:=g3.unnil;subst this;have e1':Z5B (evr F) args.toList=some [u]:=e1;simp only[V_q,ht,e1']
   split at h
   ·rename_i a b z e v' hE1
    unfold nO at h;obtain⟨n,hn,h⟩:=Z07 h;have h9:some (EV.i .i64 (.ofNat n))=some v:=h;cases h9;obtain⟨a',c,rfl⟩:=ZlE hn g2;simp only[hE1];exact k _ (.val (by simp only[VR];rfl))
   ·rename_i a b z l hE1
    cases h;rw[g2.str];simp only[hE1]
    refine k _ (.val ?_);simp only[VR]
    simp[ByteArray.size]
   ·rename_i a b z n e v' hE1
    cases h
    cases u<;>(simp only[hE1];exact k _ (.val (by simp only[VR];rfl)))
   ·cases h
  ·cases h
 ·unfold ZmT at h
  split at h
  ·rename_i k1 a k2 b hl
   obtain⟨us,e1,g1⟩:=H.evs (fun _ h=>h) hl;obtain⟨u,xs,g2,g3,rfl⟩:=g1.uncons;obtain⟨w,ys,g4,g5,rfl⟩:=g3.uncons;have:=g5.unnil;subst this;have e1':Z5B (evr F) args.toList=some [u,w]:=e1;rw[g2.int,g4.int] at e1';simp only[V_q,e1'];cases h
   refine k _ (.val ?_);simp only[VR]
   rw[Z11,ZdD]
   by_cases hab:a≤b
   ·simp[hab];omega
   ·simp[hab];omega
  ·cases h
 ·unfold ZmU at h
  split at h
  ·rename_i k1 a k2 b hl
   obtain⟨us,e1,g1⟩:=H.evs (fun _ h=>h) hl;obtain⟨u,xs,g2,g3,rfl⟩:=g1.uncons;obtain⟨w,ys,g4,g5,rfl⟩:=g3.uncons;have:=g5.unnil;subst this;have e1':Z5B (evr F) args.toList=some [u,w]:=e1;rw[g2.int,g4.int] at e1';simp only[V_q,e1'];cases h
   refine k _ (.val ?_);simp only[VR]
   rw[Z11,ZdD]
   by_cases hab:a≤b
   ·simp[hab];omega
   ·simp[hab];omega
  ·cases h
 ·unfold ZmV at h
  split at h
  ·rename_i t id off n c ht hl
   split at h
   ·rename_i a b z e hE1
    cases h;obtain⟨us,e1,g1⟩:=H.evs (fun _ h=>h) hl;obtain⟨u,xs,g2,g3,rfl⟩:=g1.uncons;have:=g3.unnil;subst this;obtain⟨a',ha,rfl⟩:=g2.sli;have e1':Z5B (evr F) args.toList=some [_]:=e1;simp only[V_q,ht,e1',hE1];exact k _ (.val (by simp only[VR];rfl))
   ·cases h
  ·cases h
 ·unfold Zke at h
  split at h
  ·rename_i hl
   cases h;obtain⟨us,e1,g1⟩:=H.evs (fun _ h=>h) hl;obtain⟨u,xs,g2,g3,rfl⟩:=g1.uncons;have:=g3.unnil;subst this;rw[g2.sln] at e1;have e1':Z5B (evr F) args.toList=some [_]:=e1;simp only[V_q,e1'];exact k _ (.val (by simp only[VR]))
  ·rename_i id off n c hl
   obtain⟨h0,h⟩:=Z2E h;cases h;obtain⟨us,e1,g1⟩:=H.evs (fun _ h=>h) hl;obtain⟨u,xs,g2,g3,rfl⟩:=g1.uncons;have:=g3.unnil;subst this;obtain⟨a',ha,rfl⟩:=g2.sli;have e1':Z5B (evr F) args.toList=some [_]:=e1;simp only[V_q,e1'];refine⟨fun e=>?_,k _ (.val ?_)⟩
   ·have:c=0:=by omega
    subst this;cases h0
   ·simp only[VR]
    exact⟨a',ha,rfl⟩
  ·rename_i id off e n hl
   obtain⟨h0,h⟩:=Z2E h;cases h;obtain⟨us,e1,g1⟩:=H.evs (fun _ h=>h) hl;obtain⟨u,xs,g2,g3,rfl⟩:=g1.uncons;have:=g3.unnil;subst this;obtain⟨a',ha,hle,rfl⟩:=g2.slx;have e1':Z5B (evr F) args.toList=some [_]:=e1;simp only[V_q,e1'];refine⟨fun e'=>?_,k _ (.val ?_)⟩
   ·have:n=0:=by omega
    subst this;cases h0
   ·simp only[VR]
    exact⟨a',ha,rfl⟩
  ·cases h
 ·cases h
theorem Zks (hE:EOK X.P X.E) {op:Op} {v:EV} (h:E_q X.P X.E G m.t op fr=some v) (H:OR D F fr op.operands.toList) (hm:MS (RX X G pr) D m I M) (k:∀ x,SvE D x v->V x):V_q X op (evr F) C I M V O:=by
 unfold E_q at h
 split at h
 ·
  exact k _ (H _ (by simp[Op.operands]) _ h)
 ·exact k _ (H _ (by simp[Op.operands]) _ h)
 ·
  rename_i c a b
  unfold Zka at h
  split at h
  ·rename_i q u w h1 h2 h3
   cases h;have hc:=H c (by simp[Op.operands]) _ h1;have ha:=H a (by simp[Op.operands]) _ h2;have hb:=H b (by simp[Op.operands]) _ h3;simp only[V_q]
   rcases hc with ⟨uc,ec,hc⟩ | ⟨q',e',ec⟩
   ·rw[hc.bool] at ec
    simp only[ec];obtain⟨ua,ea,ga⟩:=ha.evq
    obtain⟨ub,eb,gb⟩:=hb.evq;have ea':evq (evr F) a=.val ua:=ea;have eb':evq (evr F) b=.val ub:=eb;rw[ea',eb'];refine k _ (.inl ⟨bif q then ua else ub,?_,?_⟩)
    ·exact Zhe q ua ub
    ·cases q
     ·exact gb
     ·exact ga
   ·cases e'
    simp only[ec];cases q
    ·exact k _ hb
    ·exact k _ ha
  ·cases h
 ·
  rename_i uop t x
  unfold ZoM at h
  split at h
  ·rename_i b h1
   cases h;have hx:=H x (by simp[Op.operands]) _ h1;simp only[V_q]
   rcases hx with ⟨u,e,hu⟩ | ⟨q,e1,e⟩
   ·rw[hu.bool] at e
    simp only[e];exact k _ (.val (by simp only[VR];rw[Zcn]))
   ·cases e1
    simp only[e];exact k _ (.inr ⟨!b,by rw[Zcn],rfl⟩)
  ·rename_i kk n h1
   cases h;have hx:=H x (by simp[Op.operands]) _ h1;obtain⟨u,e,hu⟩:=hx.nb (by simp);rw[hu.int] at e
   simp only[V_q,e];exact⟨_,rfl,k _ (.val (by simp only[VR];rw[Z2F]))⟩
  ·cases h
 ·
  rename_i bop t x y t'
  unfold ZmO at h;obtain⟨a,h1,h⟩:=Z07 h;obtain⟨b,h2,h⟩:=Z07 h;obtain⟨u,e1,g1⟩:=H.ev (x:=x) (by simp[Op.operands]) h1;obtain⟨w,e2,g2⟩:=H.ev (x:=y) (by simp[Op.operands]) h2;have e1':evq (evr F) x=.val u:=e1;have e2':evq (evr F) y=.val w:=e2;simp only[V_q,e1',e2']
  exact Zjf hE h g1 g2 fun r hr=>k _ (.val hr)
 ·
  rename_i t x
  unfold Zkb at h;obtain⟨i,hi,h⟩:=Z07 h;obtain⟨a,h1,h⟩:=Z07 h;have hx:=H x (by simp[Op.operands]) _ h1
  have hnb:∀ q,a≠.b q:=fun q e=>by subst e;cases h
  obtain⟨u,e1,g1⟩:=hx.nb hnb;obtain⟨ad,l,vs,rfl,hrd,hl,hp⟩:=Z1U hm g1 h;simp only[V_q,hi,e1];exact⟨vs,hrd,k _ (.val (Z6q hp hl))⟩
 ·
  rename_i x
  unfold ZmP at h
  split at h
  ·rename_i id off h1
   cases h;obtain⟨u,e1,g1⟩:=(H x (by simp[Op.operands]) _ h1).nb (by simp);obtain⟨a,ha,rfl⟩:=g1.ptr
   simp only[V_q,e1];exact k _ (.val g1)
  ·rename_i id off h1
   cases h;obtain⟨u,e1,g1⟩:=(H x (by simp[Op.operands]) _ h1).nb (by simp);have:=g1.glo
   subst this;simp only[V_q,e1];exact k _ (.val g1)
  ·cases h
 ·
  rename_i t x i
  unfold ZgF at h;obtain⟨r,hr,h⟩:=Z07 h;obtain⟨a,h1,h⟩:=Z07 h;obtain⟨off,fi⟩:=r;obtain⟨hz,h⟩:=Z2E h;obtain⟨sa,sb,sz,fs,ft,ht,hf,hft⟩:=ZdI hr;have hx:=H x (by simp[Op.operands]) _ h1
  have hnb:∀ q,a≠.b q:=fun q e=>by subst e;cases h
  obtain⟨u,e1,g1⟩:=hx.nb hnb;obtain⟨ad,rfl,hs,hv⟩:=Zhd h g1;have hz':Nat.beq fi.size 0=false:=hz;simp only[V_q,ht,hf,hft,e1,hz',cond_false];exact k _ (.val hv)
 ·
  rename_i t x i
  unfold ZgG at h
  split at h
  ·rename_i off fi cs h0 h1
   obtain⟨sa,sb,sz,fs,ft,ht,hf,hft⟩:=ZdI h0;obtain⟨u,e1,g1⟩:=H.ev (x:=x) (by simp[Op.operands]) h1;obtain⟨us,hus,rfl⟩:=g1.agg;obtain⟨h2,h3⟩:=ZaU h hus;have e1':evq (evr F) x=.val (.agg us.toArray):=e1;simp only[V_q,ht,e1',hf,hft];rw[show Nat.ble (off+fi.size) us.toArray.size=true from Nat.ble_eq_true_of_le (by simpa using h2)]
   exact k _ (.val h3)
  ·cases h
 ·
  rename_i t x i
  unfold ZgH at h;obtain⟨r,hr,h⟩:=Z07 h;obtain⟨a,h1,h⟩:=Z07 h;obtain⟨b,h2,h⟩:=Z07 h;obtain⟨j,hj,h⟩:=Z07 h;obtain⟨kk,rfl⟩:=Zms hj;obtain⟨u,e2,g2⟩:=H.ev (x:=i) (by simp[Op.operands]) h2;rw[g2.int] at e2;have e2':evq (evr F) i=.val (.int kk (.ofNat j)):=e2;obtain⟨rn,ei⟩:=r
  rcases ZlC hr with ⟨sa,sb,sz,e,ht,he,rfl⟩ | ⟨sa,sb,sz,n,e,ht,he,rfl⟩
  ·have h':Zj3 a j ei.size=some v:=h
   obtain⟨w,e1,g1⟩:=H.ev (x:=x) (by simp[Op.operands]) h1;obtain⟨ad,n,c,rfl,hlt,hv⟩:=Zjg h' g1;have e1':evq (evr F) x=.val (.slice (some ad) n c):=e1;simp only[V_q,ht,e2',he,e1'];exact⟨ad,j,rfl,rfl,hlt,k _ (.val hv)⟩
  ·have h':cnd (Nat.blt j n) (ZmN a (Nat.mul j ei.size)) none=some v:=h
   obtain⟨hb,h'⟩:=Z0b h';have hx:=H x (by simp[Op.operands]) _ h1
   have hnb:∀ q,a≠.b q:=fun q e=>by subst e;cases h'
   obtain⟨w,e1,g1⟩:=hx.nb hnb;obtain⟨ad,rfl,hs,hv⟩:=Zhd h' g1;simp only[V_q,ht,e2',he,e1];exact⟨j,rfl,Nat.le_of_ble_eq_true hb,k _ (.val hv)⟩
 ·
  rename_i t x i
  cases h1:rdO fr x with
  | none=>rw[h1] at h;unfold Z7r at h;split at h<;>first | cases h | (rename_i e _;cases e)
  | some a=>
   cases h2:rdO fr i with
   | none=>rw[h2] at h;unfold Z7r at h;split at h<;>first | cases h | (rename_i e;cases e)
   | some b=>
    rw[h1,h2] at h;obtain⟨u,e1,g1⟩:=H.ev (x:=x) (by simp[Op.operands]) h1;obtain⟨w,e2,g2⟩:=H.ev (x:=i) (by simp[Op.operands]) h2;exact ZeY h g1 g2 e1 e2 k
 ·
  rename_i t parts
  unfold ZgJ at h
  split at h
  ·rename_i i vs ht hp
   obtain⟨z,hz,h⟩:=Z07 h;have hz':=VRs.ofL (D:=D) hz;obtain⟨us,e1,g1⟩:=H.parts (l:=parts.toList) (by intro y hy;simpa[Op.operands] using hy) hp;have e1':Z1s (evr F) parts.toList=some us:=e1
   try simp only at h
   split at h
   ·rename_i fs hsh
    obtain⟨hpl,h⟩:=Z0b h;unfold aO at h;obtain⟨cs,h3,h4⟩:=Z07 h;have h9:some (EV.a cs)=some v:=h4;cases h9;obtain⟨rs,h5,h6⟩:=Z6r h3 hz' g1;simp only[V_q,ht,e1',hsh,hpl,cond_true,h5];exact k _ (.val (.mkAgg h6))
   ·rename_i n e hsh
    obtain⟨ei,he,h⟩:=Z07 h;have h':aO (ZaP (fun j=>some (j * ei.size,ei.size)) z vs)=some v:=h;unfold aO at h';obtain⟨cs,h3,h4⟩:=Z07 h';have h9:some (EV.a cs)=some v:=h4;cases h9;obtain⟨rs,h5,h6⟩:=Z6r h3 hz' g1;simp only[V_q,ht,e1',hsh,he,h5];exact k _ (.val (.mkAgg h6))
   ·cases h
  ·cases h
 ·
  rename_i f first captured
  unfold ZmQ at h
  split at h
  ·rename_i g fs cs h1 h2
   cases h;obtain⟨us,e1,g1⟩:=H.evs (l:=first.toList) (by intro y hy;simp[Op.operands];exact .inl (by simpa using hy)) h1;obtain⟨ws,e2,g2⟩:=H.evs (l:=captured.toList) (by intro y hy;simp[Op.operands];exact .inr (by simpa using hy)) h2;have e1':Z5B (evr F) first.toList=some us:=e1;have e2':Z5B (evr F) captured.toList=some ws:=e2;simp only[V_q,e1',e2'];exact k _ (.val (by simp only[VR];exact⟨us,ws,g1,g2,rfl⟩))
  ·cases h
 ·
  rename_i t x lo hi
  cases h1:rdO fr x with
  | none=>rw[h1] at h;unfold Z7s at h;split at h<;>first | cases h | (rename_i e _ _;cases e)
  | some a=>
   rw[h1] at h
   cases h2:Zlg (lo.map (rdO fr)) with
   | none=>rw[h2] at h;unfold Z7s at h;split at h<;>first | cases h | (rename_i e _;cases e)
   | some l=>
    rw[h2] at h
    cases h3:Zlg (hi.map (rdO fr)) with
    | none=>rw[h3] at h;unfold Z7s at h;split at h<;>first | cases h | (rename_i e;cases e)
    | some hh=>
     rw[h3] at h;obtain⟨u,e1,g1⟩:=H.ev (x:=x) (by simp[Op.operands]) h1;have e1':evq (evr F) x=.val u:=e1;have hlo:=Zhf H (fun y hy=>by subst hy;simp[Op.operands]) h2;have hhi:=Zhf H (fun y hy=>by subst hy;simp[Op.operands]) h3;unfold Z7s at h
     split at h
     ·rename_i sa sb sz e x' lo' hi' ht e3 e4 e5
      cases e3;cases e4;cases e5;obtain⟨ei,he,h⟩:=Z07 h;have h':Zli ei a l hh=some v:=h;unfold Zli at h'
      split at h'
      ·have el:lo.map (evq (evr F))=none:=by
        rcases hlo with ⟨el,_⟩ | ⟨_,_,_,el⟩
        ·exact el
        ·cases el
       have eh:hi.map (evq (evr F))=none:=by
        rcases hhi with ⟨eh,_⟩ | ⟨_,_,_,eh⟩
        ·exact eh
        ·cases eh
       have hsl:∃ q n c,u=.slice q n c∧VR D v u:=by
        split at h'
        ·cases h';exact⟨_,_,_,g1.sln,g1⟩
        ·cases h';obtain⟨q,_,rfl⟩:=g1.sli;exact⟨_,_,_,rfl,g1⟩
        ·cases h';obtain⟨q,_,_,rfl⟩:=g1.slx;exact⟨_,_,_,rfl,g1⟩
        ·cases h';obtain⟨q,c,rfl⟩:=g1.slo;exact⟨_,_,_,rfl,g1⟩
        ·cases h'
       obtain⟨q,n,c,rfl,hv⟩:=hsl;simp only[V_q,ht,e1',he,el,eh];exact k _ (.val hv)
      ·obtain⟨q,n,c,rfl,c1,c2,c3,hv⟩:=ZlD h' g1
       simp only[V_q,ht,e1',he]
       rcases hlo with ⟨el,rfl⟩ | ⟨kl,nl,el,rfl⟩<;>rcases hhi with ⟨eh,rfl⟩ | ⟨kh,nh,eh,rfl⟩<;>simp only[el,eh]
       ·rename_i hne
        exact(hne rfl rfl).elim
       ·simp only[Option.getD_none,Option.getD_some] at c1 c2 hv
        refine⟨0,nh,rfl,rfl,Nat.zero_le _,c2,k _ (.val ?_)⟩;simp only[Nat.zero_mul,Nat.sub_zero] at hv
        have e0:(if c=0 then q else q.map fun x=>x.add 0)=q:=by
         split
         ·rfl
         ·cases q with
          | none=>rfl
          | some q=>simp[Addr.add]
        rw[e0] at hv;exact hv
       ·simp only[Option.getD_none,Option.getD_some] at c1 c2 hv
        exact⟨nl,n,rfl,rfl,c1,Nat.le_refl _,k _ (.val hv)⟩
       ·simp only[Option.getD_none,Option.getD_some] at c1 c2 hv
        exact⟨nl,nh,rfl,rfl,c1,c2,k _ (.val hv)⟩
     ·rename_i sa sb sz str lo' hi' ht e3 e4 e5
      cases e3;cases e4;cases e5;rw[g1.str] at e1';have h':ZgK str l hh=some v:=h;unfold ZgK at h'
      split at h'
      ·have el:lo.map (evq (evr F))=none:=by
        rcases hlo with ⟨el,_⟩ | ⟨_,_,_,el⟩
        ·exact el
        ·cases el
       have eh:hi.map (evq (evr F))=none:=by
        rcases hhi with ⟨eh,_⟩ | ⟨_,_,_,eh⟩
        ·exact eh
        ·cases eh
       cases h';simp only[V_q,ht,e1',el,eh];exact k _ (.val (by simp only[VR]))
      ·obtain⟨hb,h'⟩:=Z0b h'
       cases h';rw[Bool.and_eq_true] at hb;have b1:=Nat.le_of_ble_eq_true hb.1;have b2:=Nat.le_of_ble_eq_true hb.2
       have hsz:(⟨str.toArray⟩:ByteArray).size=str.length:=by simp[ByteArray.size]
       simp only[V_q,ht,e1']
       rcases hlo with ⟨el,rfl⟩ | ⟨kl,nl,el,rfl⟩<;>rcases hhi with ⟨eh,rfl⟩ | ⟨kh,nh,eh,rfl⟩<;>simp only[el,eh]
       ·rename_i hne
        exact(hne rfl rfl).elim
       ·simp only[Option.getD_none,Option.getD_some] at b1 b2
        exact⟨0,nh,rfl,rfl,Nat.zero_le _,by rw[hsz];exact b2,k _ (.val (by simp only[VR,Option.getD_none,Option.getD_some,Z9G]))⟩
       ·simp only[Option.getD_none,Option.getD_some] at b1 b2
        exact⟨nl,str.length,rfl,by rw[hsz];rfl,b1,by rw[hsz];exact Nat.le_refl _,k _ (.val (by simp only[VR,Option.getD_none,Option.getD_some,Z9G,hsz]))⟩
       ·simp only[Option.getD_none,Option.getD_some] at b1 b2
        exact⟨nl,nh,rfl,rfl,b1,by rw[hsz];exact b2,k _ (.val (by simp only[VR,Option.getD_none,Option.getD_some,Z9G]))⟩
     ·cases h
 ·
  rename_i x i
  unfold ZmR at h
  split at h
  ·rename_i vs h1
   obtain⟨u,e1,g1⟩:=H.ev (x:=x) (by simp[Op.operands]) h1;obtain⟨us,hus,rfl⟩:=g1.tup;rw[Z3z] at h;obtain⟨w,hw,hv⟩:=hus.get h;have e1':evq (evr F) x=.val (.tuple us.toArray):=e1;simp only[V_q,e1',hw];exact k _ (.val hv)
  ·cases h
 ·
  rename_i s d x
  unfold Zkd at h
  split at h
  ·rename_i kk k1 n hs hd h1
   cases h;obtain⟨u,e1,g1⟩:=H.ev (x:=x) (by simp[Op.operands]) h1;rw[g1.int] at e1;have e1':evq (evr F) x=.val (.int k1 n):=e1;simp only[V_q,hs,hd,e1'];exact⟨_,rfl,k _ (.val (by simp only[VR];rw[Z2F]))⟩
  ·cases h
 ·
  rename_i b args ts
  exact Zhg hE h (by simpa[Op.operands,Call.operands] using H) k
 ·cases h
end
def Nm.set (D:Nm) (id:Nat) (a:Loc):Nm:=fun i=>if i=id then some a else D i
theorem Nm.set_self (D:Nm) (id:Nat) (a:Loc):(D.set id a) id=some a:=by simp[Nm.set]
theorem Nm.le_refl (D:Nm):D.le D:=fun _ _ h=>h
theorem Nm.le_trans {D D' D'':Nm} (h:D.le D') (k:D'.le D''):D.le D'':=fun i a e=>k _ _ (h _ _ e)
theorem Nm.le_set {D:Nm} {id:Nat} (a:Loc) (h:D id=none):D.le (D.set id a):=fun i b hb=>by
 unfold Nm.set
 split
 ·rename_i e;subst e;rw[h] at hb;cases hb
 ·exact hb
def Nm.ext (D D':Nm) (n:Nat):Prop:=∀ i,i < n->D' i=D i
theorem Nm.ext_refl {D:Nm} {n:Nat}:D.ext D n:=fun _ _=>rfl
theorem Nm.ext_set {D:Nm} {n:Nat} {a:Loc}:D.ext (D.set n a) n:=fun i hi=>by
 unfold Nm.set;rw[if_neg (by omega)]
section
variable {Y:RK} {D D':Nm} {m:Me} {I I':GH} {M M':List Blk} {R:Type}
theorem GI.mono {G:GT} (h:GI G I) (hI:∀ b o,I b=some o->I' b=some o):GI G I':=fun g cs hg=>by
 obtain⟨arr,T,f,h1,h2⟩:=h g cs hg;exact⟨arr,T,f,hI _ _ h1,h2⟩
theorem MS.le (h:MS Y D m I M) (hD:D.ext D' m.n):D.le D':=fun i a ha=>by rw[hD i (h.dom _ _ ha)];exact ha
theorem MS.step (h:MS Y D m I M) {t':Tri Ent} {n' j:Nat} {e0:Ent} {a:Loc} (ht:∀ id e,t'.get id=some e->(id=j∧e0=e)∨(id≠j∧m.t.get id=some e)) (hj:D' j=some a) (hle:D.le D') (hD:∀ i,i≠j->D' i=D i)
  (hdom:∀ id a,D' id=some a->id < n') (hI:∀ b o,I b=some o->I' b=some o) (keep:∀ id e a',id≠j->m.t.get id=some e->D id=some a'->∀ x∈M,x.num=a'.b->x∈M')
  (he:EntR D' Y.E M' a e0) (hinj:∀ id e a',id≠j->m.t.get id=some e->D id=some a'->a'.b≠a.b):MS Y D' ⟨t',n'⟩ I' M' where
 ent id e a1 hg h1:=by
  rcases ht id e hg with ⟨e1,e2⟩ | ⟨hne,hg⟩
  ·subst e1
   subst e2;rw[hj] at h1;cases h1;exact he
  ·rw[hD id hne] at h1
   exact(h.ent id e a1 hg h1).mono hle fun x hx hn=>keep id e a1 hne hg h1 x hx hn
 inj id id' e e' a1 a2 hg hg' h1 h2 hb:=by
  rcases ht id e hg with ⟨e1,e2⟩ | ⟨hne,hg⟩
  ·rcases ht id' e' hg' with ⟨e3,e4⟩ | ⟨hne',hg'⟩
   ·rw[e1,e3]
   ·rw[hD id' hne'] at h2
    subst e1;rw[hj] at h1;cases h1;exact(hinj id' e' a2 hne' hg' h2 hb.symm).elim
  ·rw[hD id hne] at h1
   rcases ht id' e' hg' with ⟨e3,e4⟩ | ⟨hne',hg'⟩
   ·subst e3
    rw[hj] at h2;cases h2;exact(hinj id e a1 hne hg h1 hb).elim
   ·rw[hD id' hne'] at h2
    exact h.inj id id' e e' a1 a2 hg hg' h1 h2 hb
 dom:=hdom
 glo:=h.glo.mono hI
theorem MS.fresh (h:MS Y D m I M):D m.n=none:=by
 cases hD:D m.n with
 | none=>rfl
 | some a=>exact absurd (h.dom _ _ hD) (Nat.lt_irrefl _)
theorem MS.blk (h:MS Y D m I M) {id:Nat} {e:Ent} {a:Loc} (hg:m.t.get id=some e) (ha:D id=some a):∃ x∈M,x.num=a.b:=by
 cases h.ent id e a hg ha with
 | cells arr h0 h1=>exact⟨_,h1,rfl⟩
 | map l c h1=>exact⟨_,h1,rfl⟩
 | loop L h1=>exact⟨_,h1,rfl⟩
 | done L h1=>exact⟨_,h1,rfl⟩
theorem MS.new (h:MS Y D m I M) {t':Tri Ent} {e0:Ent} {a:Loc} {o:Obj} (ht:∀ id e,t'.get id=some e->(id=m.n∧some e0=some e)∨(id≠m.n∧m.t.get id=some e)) (hf:∀ x∈M,x.num≠a.b)
  (he:EntR (D.set m.n a) Y.E (⟨a.b,o⟩::M) a e0):MS Y (D.set m.n a) ⟨t',m.n+1⟩ I (⟨a.b,o⟩::M):=
 h.step (fun id e hg=>(ht id e hg).imp (fun h=>⟨h.1,Z0F h.2⟩) fun h=>h) (D.set_self _ _) (Nm.le_set a h.fresh) (fun i hi=>by unfold Nm.set;rw[if_neg hi])
  (fun id b hb=>by
   unfold Nm.set at hb
   split at hb
   ·omega
   ·have:=h.dom _ _ hb;omega)
  (fun _ _ h=>h) (fun _ _ _ _ _ _ x hx _=>List.mem_cons_of_mem _ hx) he
  (fun id e a' _ hg ha' hb=>by
   obtain⟨x,hx,hn⟩:=h.blk hg ha'
   exact hf x hx (hn.trans hb))
theorem EntR.new {l:List EV} {vs cur:List Value} {T c:Nat} {b:Nat} {cs:Tri EV} (hcs:∀ j x,cs.get j=some x->(0≤j∧l[j - 0]?=some x)∨((j < 0∨0+l.length≤j)∧(Tri.nil:Tri EV).get j=some x)) (hl:VRs D l vs)
  (hk:∀ i,Y.E T=some i->(vs++cur).length=c * i.size) (hc:c≤maxLen):EntR D Y.E (⟨b,.cells (vs++cur).toArray T (0,0)⟩::M) ⟨b,0,c⟩ (.cells cs T l.length):=by
 refine .cells (vs++cur).toArray rfl (by simp) (by simp[hl.len]) (fun i v hi hg=>?_) (fun i hi=>by simpa using hk i hi) hc
 rcases hcs i v hg with ⟨_,h1⟩ | ⟨_,h1⟩
 ·obtain⟨x,h2,h3⟩:=hl.get (i:=i) (by simpa using h1)
  have hlt:=(List.getElem?_eq_some_iff.1 h2).1;exact⟨x,by simp only[Nat.zero_add,List.getElem?_toArray];rw[List.getElem?_append_left hlt];exact h2,h3⟩
 ·cases h1
theorem Z7B {e:Ent} {K:Nat->Me->Option R} {r:R} (h:Zlj m e K=some r):∃ t',(∀ id e',t'.get id=some e'->(id=m.n∧some e=some e')∨(id≠m.n∧m.t.get id=some e'))∧K m.n ⟨t',m.n+1⟩=some r:=by
 unfold Zlj at h;rw[Z7w] at h;obtain⟨t',h1,h2⟩:=Tri.set_ok (some e) m.t m.n;rw[h1] at h;exact⟨t',h2,h⟩
theorem Zco {l:List EV} {T:Nat} {K:Nat->Me->Option R} {r:R} (h:ZgN m l T K=some r):∃ m',K m.n m'=some r∧m'.n=m.n+1 ∧
  ∀ {D:Nm} {I:GH} {M:List Blk} {vs:List Value} (cur:List Value) {b c:Nat},MS Y D m I M->(∀ x∈M,x.num≠b)->VRs D l vs->(∀ i,Y.E T=some i->(vs++cur).length=c * i.size)->c≤maxLen ->
   MS Y (D.set m.n ⟨b,0,c⟩) m' I (⟨b,.cells (vs++cur).toArray T (0,0)⟩::M):=by
 unfold ZgN at h;obtain⟨cs,h1,h2⟩:=Tri.puts_ok l (.nil:Tri EV) 0;rw[h1] at h;obtain⟨t',h3,h4⟩:=Z7B h;refine⟨_,h4,rfl,fun {D I M vs} cur {b c} hm hf hl hk hc=>?_⟩;exact hm.new (a:=⟨b,0,c⟩) h3 hf (.new h2 (hl.mono (Nm.le_set _ hm.fresh)) hk hc)
end
theorem Zhh (z:List Value) (n:Nat):Z15 z (z.length+n)=Z15 z z.length++Z15 z n:=by
 unfold Z15;rw[List.range_add,List.map_append,List.map_map]
 congr 1
 apply List.map_congr_left
 intro i _;simp[Nat.add_mod_left]
theorem ZeZ (z:List Value):Z15 z z.length=z:=by
 unfold Z15
 apply List.ext_getElem
 ·simp
 ·intro i h1 h2
  simp only[List.getElem_map,List.getElem_range,Nat.mod_eq_of_lt h2];simp[h2]
theorem Z7C (z:List Value):∀ n,Z15 z (n * z.length)=(List.replicate n z).flatten
 | 0=>by simp[Z15]
 | n+1=>by
  rw[Nat.succ_mul,Nat.add_comm,Zhh,ZeZ,Z7C z n,List.replicate_succ,List.flatten_cons]
theorem ZaV (place:Nat->Option (Nat×Nat)):∀ (vs:List (Nat×Value)) (cs r:List Value),Z68 place cs vs=some r->r.length=cs.length
 | [],cs,r,h=>by simp only[Z68] at h;cases h;rfl
 |(i,v)::vs,cs,r,h=>by
  simp only[Z68] at h
  split at h
  ·cases h
  ·rename_i off size hp
   cases hb:(Nat.beq v.cells.size size && Nat.ble (off+size) cs.length) with
   | false=>rw[hb] at h;cases h
   | true=>
    rw[hb] at h;simp only[cond_true] at h;rw[ZaV place vs _ _ h];rw[Bool.and_eq_true] at hb
    have h1:=Nat.eq_of_beq_eq_true hb.1;have h2:=Nat.le_of_ble_eq_true hb.2;simp[Z05];omega
def PF (dst:Option Nat) (u:Value) (F F':Fr):Prop:=(∀ d,dst=some d->F' d=.val u)∧∀ (D:Nm) t v,dst≠some t->SvE D (F t) v->SvE D (F' t) v
theorem PF.put (dst:Option Nat) (u:Value) (F:Fr):PF dst u F (put dst (.val u) F):=by
 constructor
 ·rintro d rfl
  simp[Go.V.put,upd]
 ·intro D t v hne h
  cases dst with
  | none=>exact h
  | some d=>
   have:t≠d:=fun e=>hne (by rw[e])
   simp only[Go.V.put,upd,Z0I this,cond_false];exact h
theorem PF.clr (d:Nat) (u:Value) (F:Fr):PF (some d) u F (upd (clr F d) d (.val u)):=by
 constructor
 ·rintro _ ⟨⟩
  simp[upd]
 ·intro D t v hne h
  have:t≠d:=fun e=>hne (by rw[e])
  simp only[upd,Z0I this,cond_false];unfold Go.V.clr
  rcases h with ⟨u',e,h⟩ | ⟨q,e,h⟩
  ·rw[e];exact .inl ⟨u',rfl,h⟩
  ·rw[h];exact .inr ⟨q,e,rfl⟩
section
variable {X:Ctx} {G:GT} {pr:PR} {D:Nm} {m:Me} {F:Fr} {fr:Tri EV} {C:Bx} {I:GH} {M:List Blk} {K:KS} {o:Oper}
theorem Zkt (hE:EOK X.P X.E) (hesc:∀ d,d < X.n->X.esc.contains d=true) (hd:∀ d,o.dst=some d->d < X.n) {l:List EV} {T c:Nat} {mk:Nat->EV} (h:E_a X.E o fr=some (l,T,c,mk)) (hdst:o.dst.isSome=true) (H:OR D F fr o.op.operands.toList)
  (k:∀ b vs u F' C',I b=none->(∀ x∈M,x.num≠b)->VRs D l vs->(∀ i,X.E T=some i->vs.length=c * i.size)->c≤maxLen->(∀ (D':Nm) id,D' id=some ⟨b,0,c⟩->VR D' (mk id) u)->PF o.dst u F F' ->
   K F' C' I (⟨b,.cells vs.toArray T (0,0)⟩::M)):Z40 X o F C I M K:=by
 obtain⟨dst,op,ty,pos,after,guard⟩:=o
 cases dst with
 | none=>cases hdst
 | some d=>
  have hed:X.esc.contains d=true:=hesc d (hd d rfl)
  have ptr0:∀ (b c:Nat) (D':Nm) id,D' id=some ⟨b,0,c⟩->VR D' (.p id 0) (.pointer (some ⟨b,0,none⟩)):=fun b c D' id hid=>by
   simp only[VR];exact⟨_,hid,rfl⟩
  unfold E_a at h;simp only at h H
  split at h
  ·rename_i t x
   unfold ZmY at h;obtain⟨i,hi,h⟩:=Z07 h;obtain⟨v,hv,h⟩:=Z07 h;obtain⟨hb,h⟩:=Z0b h;cases h;obtain⟨u,e1,g1⟩:=H.ev (x:=x) (by simp[Op.operands]) hv;have hc:=g1.cells;simp only[Z40,e1,hed,cond_true];refine⟨fun b h1 h2=>?_⟩
   have:=k b u.cells.toList (.pointer (some ⟨b,0,none⟩)) _ (Z57 C d none) h1 h2 hc (fun i' hi'=>?_) (by decide) (ptr0 b 1) (.clr d _ F)
   ·simpa using this
   ·rw[hi] at hi'
    cases hi';rw[hc.len,Nat.one_mul];exact Nat.eq_of_beq_eq_true hb
  ·rename_i t
   unfold ZgP at h;obtain⟨i,hi,h⟩:=Z07 h;obtain⟨z,hz,h⟩:=Z07 h;cases h;simp only[Z40,hi,hed,cond_true];refine⟨fun b h1 h2=>?_⟩
   exact k b i.zero (.pointer (some ⟨b,0,none⟩)) _ (Z57 C d none) h1 h2 (.ofL hz) (fun i' hi'=>by
    rw[hi] at hi';cases hi'
    rw[(hE _ _ hi).len,Nat.one_mul]) (by decide) (ptr0 b 1) (.clr d _ F)
  ·rename_i t len parts
   unfold ZmZ at h
   split at h
   ·rename_i sa sb sz e vs ht hp
    obtain⟨ei,he,h⟩:=Z07 h;obtain⟨z,hz,h⟩:=Z07 h;obtain⟨us,e1,g1⟩:=H.parts (l:=parts.toList) (by intro y hy;simpa[Op.operands] using hy) hp;simp only[Z40,ht,e1,he];have hzl:=(hE _ _ he).len
    cases hb:(Nat.ble (len * ei.size) 16777216 && Nat.blt 0 (len * ei.size)) with
    | true=>
     have hb':(Nat.ble (Nat.mul len ei.size) 16777216 && Nat.blt 0 (Nat.mul len ei.size))=true:=hb;rw[Z11,hb'] at h;simp only[cond_true] at h ⊢;obtain⟨cs,h3,h4⟩:=Z07 h
     have h9:some (cs,e,len,fun id=>EV.sl id 0 len len)=some (l,T,c,mk):=h4;cases h9
     have hrep:VRs D (Zlk c z) (Z15 ei.zero (c * ei.size)):=by
      rw[←hzl,Z7C];exact(VRs.ofL hz).rep c
     obtain⟨rs,h5,h6⟩:=Z6r h3 hrep g1;rw[h5];refine⟨fun b h1 h2=>?_⟩
     have hlen:rs.length=c * ei.size:=by
      rw[ZaV _ _ _ _ h5];simp[Z15]
     rw[Bool.and_eq_true] at hb;have hb1:=Nat.le_of_ble_eq_true hb.1;have hb2:0 < c * ei.size:=Nat.le_of_ble_eq_true hb.2
     exact k b rs (.slice (some ⟨b,0,none⟩) c c) _ C h1 h2 h6 (fun i' hi'=>by rw[he] at hi';cases hi';exact hlen)
      (by
       have h7:0 < ei.size:=Nat.pos_of_mul_pos_left hb2;have:c≤c * ei.size:=Nat.le_mul_of_pos_right _ h7;simp only[maxLen]
       omega)
      (fun D' id hid=>by simp only[VR];exact⟨_,hid,rfl⟩) (.put _ _ F)
    | false=>
     have hb':(Nat.ble (Nat.mul len ei.size) 16777216 && Nat.blt 0 (Nat.mul len ei.size))=false:=hb;rw[Z11,hb'] at h;simp only[cond_false] at h ⊢;obtain⟨hc,h⟩:=Z0b h
     cases h;rw[Bool.and_eq_true] at hc;have h3:=Nat.eq_of_beq_eq_true hc.1;subst h3
     have h4:vs=[]:=by simpa using hc.2
     subst h4;cases g1;simp only;refine⟨fun b h1 h2=>?_⟩;exact k b [] (.slice (some ⟨b,0,none⟩) 0 0) _ C h1 h2 .nil (fun i' hi'=>by simp) (by decide) (fun D' id hid=>by simp only[VR];exact⟨_,hid,rfl⟩) (.put _ _ F)
   ·cases h
  ·rename_i t l' c'
   unfold Zkh at h
   split at h
   ·rename_i sa sb sz e lv cv ht h1 h2
    obtain⟨ei,he,h⟩:=Z07 h;obtain⟨n,hn,h⟩:=Z07 h;obtain⟨q,hq,h⟩:=Z07 h;obtain⟨z,hz,h⟩:=Z07 h;obtain⟨hb,h⟩:=Z0b h;cases h;obtain⟨k1,rfl⟩:=Zms hn;obtain⟨k2,rfl⟩:=Zms hq;obtain⟨u1,e1,g1⟩:=H.ev (x:=l') (by simp[Op.operands]) h1;obtain⟨u2,e2,g2⟩:=H.ev (x:=c') (by simp[Op.operands]) h2;rw[g1.int] at e1;rw[g2.int] at e2;simp only[Bool.and_eq_true] at hb;simp only[Z40,ht,e1,e2,he];refine⟨n,c,rfl,rfl,Nat.le_of_ble_eq_true hb.1,Nat.le_of_ble_eq_true hb.2.1,Nat.le_of_ble_eq_true hb.2.2,⟨fun b h3 h4=>?_⟩⟩
    have hzl:=(hE _ _ he).len
    have hrep:VRs D (Zlk c z) (Z15 ei.zero (c * ei.size)):=by
     rw[←hzl,Z7C];exact(VRs.ofL hz).rep c
    exact k b _ (.slice (some ⟨b,0,none⟩) n c) _ C h3 h4 hrep (fun i' hi'=>by rw[he] at hi';cases hi';simp[Z15]) (Nat.le_of_ble_eq_true hb.2.2) (fun D' id hid=>by simp only[VR];exact⟨_,hid,rfl⟩) (.put _ _ F)
   ·cases h
  ·cases h
end
theorem Z8M {cs vs:List Value} {off i:Nat} (h:off+vs.length≤cs.length):(Z05 cs off vs)[i]?=if off≤i∧i < off+vs.length then vs[i - off]? else cs[i]?:=by
 unfold Z05
 by_cases h1:i < off
 ·rw[if_neg (by omega),List.getElem?_append_left (by simp;omega),List.getElem?_append_left (by simp;omega),List.getElem?_take,if_pos h1]
 ·by_cases h2:i < off+vs.length
  ·rw[if_pos ⟨by omega,h2⟩,List.getElem?_append_left (by simp;omega),List.getElem?_append_right (by simp;omega)]
   simp
   congr 1
   omega
  ·rw[if_neg (by omega),List.getElem?_append_right (by simp;omega),List.getElem?_drop]
   congr 1
   simp;omega
theorem Z5s {cs vs:List Value} {off:Nat} (h:off+vs.length≤cs.length):(Z05 cs off vs).length=cs.length:=by
 simp[Z05];omega
section
variable {Y:RK} {D:Nm} {m:Me} {I:GH} {M:List Blk} {R:Type}
theorem Z7D {x:EV} {l:List EV} {K:Me->Option R} {r:R} (h:Z4R m x l K=some r):∃ m',K m'=some r∧m'.n=m.n∧(∀ id,m'.t.get id≠none->m.t.get id≠none∨True) ∧
  ∀ {D:Nm} {I:GH} {M:List Blk} {u:Value} {vs:List Value},MS Y D m I M->VR D x u->VRs D l vs ->
   ∃ (g off:Nat) (pre post:List Blk) (arr:Array Value) (T:Nat),u=.pointer (some ⟨g,off,none⟩)∧M=pre++⟨g,.cells arr T (0,0)⟩::post∧off+vs.length≤arr.size∧Z0z vs=true ∧
    (∃ id e a,m.t.get id=some e∧D id=some a∧a.b=g) ∧
    MS Y D m' I (pre++⟨g,.cells (Z05 arr.toList off vs).toArray T (0,0)⟩::post):=by
 unfold Z4R at h
 split at h
 ·rename_i id off
  split at h
  ·rename_i cs T lim hg
   cases hb:(Nat.ble (Nat.add off l.length) lim && l.all EV.one) with
   | false=>rw[hb] at h;cases h
   | true=>
    rw[hb] at h;simp only[cond_true] at h;rw[Bool.and_eq_true] at hb;have hlim:off+l.length≤lim:=Nat.le_of_ble_eq_true hb.1;obtain⟨cs',h1,h2⟩:=Tri.puts_ok l cs off;rw[h1] at h;obtain⟨t',h3,h4⟩:=Tri.set_ok (some (Ent.cells cs' T lim)) m.t id;rw[h3] at h;refine⟨_,h,rfl,fun _ _=>.inr trivial,fun {D I M u vs} hm hx hl=>?_⟩;obtain⟨a,ha,rfl⟩:=hx.ptr
    have he:=hm.ent _ _ _ hg ha;obtain⟨arr,ho,hM,hsz,hc,hk,hmx⟩:=he;have hlen:=hl.len;obtain⟨pre,post,hsp⟩:=List.append_of_mem hM
    have hfit:off+vs.length≤arr.size:=by omega
    refine⟨a.b,off,pre,post,arr,T,by rw[ho,Nat.zero_add],hsp,hfit,hl.one hb.2,⟨id,_,a,hg,ha,rfl⟩,?_⟩
    have hnew:∀ x∈M,x.num≠a.b->x∈pre++⟨a.b,.cells (Z05 arr.toList off vs).toArray T (0,0)⟩::post:=fun x hx hn=>by
     rw[hsp] at hx
     rcases List.mem_append.1 hx with hx | hx
     ·exact List.mem_append.2 (.inl hx)
     ·rcases List.mem_cons.1 hx with rfl | hx
      ·exact(hn rfl).elim
      ·exact List.mem_append.2 (.inr (List.mem_cons_of_mem _ hx))
    refine hm.step (fun i e hi=>(h4 i e hi).imp (fun q=>⟨q.1,Z0F q.2⟩) fun q=>q) ha (Nm.le_refl D) (fun _ _=>rfl) hm.dom (fun _ _ h=>h) (fun i e a' hne hi hai x hx hn=>hnew x hx ?_) ?_ ?_
    ·rw[hn]
     exact fun hb=>hne (hm.inj _ _ _ _ _ _ hi hg hai ha hb)
    ·have hls:(Z05 arr.toList off vs).length=arr.size:=by rw[Z5s (by simpa using hfit)];simp
     refine .cells (Z05 arr.toList off vs).toArray ho (by simp) (by simp[hls];exact hsz) (fun i v hi hgi=>?_) (fun i hi=>by simp[hls];exact hk i hi) hmx;rw[ho,Nat.zero_add];simp only[List.getElem?_toArray]
     rw[Z8M (by simpa using hfit)]
     rcases h2 i v hgi with ⟨g1,g2⟩ | ⟨g1,g2⟩
     ·have hlt:=(List.getElem?_eq_some_iff.1 g2).1
      rw[if_pos ⟨g1,by omega⟩];exact hl.get g2
     ·rw[if_neg (by omega)]
      have:=hc i v hi g2;rw[ho,Nat.zero_add] at this
      simpa using this
    ·intro i e a' hne hi hai hb
     exact hne (hm.inj _ _ _ _ _ _ hi hg hai ha hb)
  ·cases h
 ·cases h
theorem Z7E:∀ {l:List EV} {bs:List UInt8} {vs:List Value},Z8H l=some bs->VRs D l vs->vs=bs.map (fun b=>.int .u8 b.toNat)
 | [],bs,vs,h,hl=>by simp only[Z8H] at h;cases h;exact hl.unnil
 | v::l,bs,vs,h,hl=>by
  unfold Z8H at h
  split at h
  ·rename_i e;cases e
  ·rename_i n l' e
   cases e
   cases hb:Nat.ble n 255 with
   | false=>rw[hb] at h;cases h
   | true=>
    rw[hb] at h;simp only[cond_true] at h
    split at h
    ·rename_i r hr
     cases h;obtain⟨x,xs,h1,h2,rfl⟩:=hl.uncons;have hn:=Nat.le_of_ble_eq_true hb;rw[Z7E hr h2,h1.int];simp only[List.map_cons,List.cons.injEq,and_true,Value.int.injEq,true_and]
     rw[UInt8.toNat_ofNat_of_lt' (show n < 256 by omega)];rfl
    ·cases h
  ·cases h
inductive KeyT:TypeDesc->EV->Prop
 | int {k n}:KeyT (.int k) (.i k n)
 | str {l}:KeyT .string (.s l)
theorem Zhi {E:Env} {P:Program} (hE:EOK P E) {k:Nat} {y:EV} (h:ZnO (E k) y=true):∃ d,P.underlying k=some d∧KeyT d y:=by
 unfold ZnO at h
 split at h
 ·rename_i kk k' n hk
  have:=IntKind.eqb_eq h;subst this;obtain⟨d,hu,hd⟩:=(hE _ _ hk).und;refine⟨d,hu,?_⟩
  have:d=.int kk:=by cases d<;>simp_all[Z2k]
  subst this;exact .int
 ·rename_i l hk
  obtain⟨d,hu,hd⟩:=(hE _ _ hk).und;refine⟨d,hu,?_⟩
  have:d=.string:=by cases d<;>simp_all[Z2k]
  subst this;exact .str
 ·cases h
theorem KeyT.isKey {d:TypeDesc} {y:EV} {u:Value} (h:KeyT d y) (hy:VR D y u):MapKept.IsKey d u:=by
 cases h with
 | int=>rw[hy.int];rfl
 | str=>rw[hy.str];trivial
theorem ZoT (a b:ByteArray):(a == b)=decide (a=b):=by
 rw[Bool.eq_iff_iff,MapKept.bytes_beq];simp
theorem Z8N {d:TypeDesc} {y x:EV} {u w:Value} {r:Bool} (h:KeyT d y) (hy:VR D y u) (hx:VR D x w) (he:Zmp y x=some r):Instr.sameNow d u w=some r:=by
 cases h with
 | @int k n=>
  rw[hy.int];unfold Zmp at he
  split at he
  ·rename_i e;cases e
  ·rename_i k1 a k2 b e
   cases e;obtain⟨h1,h2⟩:=Z0b he;have:=IntKind.eqb_eq h1;subst this;cases h2;rw[hx.int];simp only[Instr.sameNow,if_true,Z7x]
   congr 1
  ·rename_i e;cases e
  ·cases he
 | @str l=>
  rw[hy.str];unfold Zmp at he
  split at he
  ·rename_i e;cases e
  ·rename_i e;cases e
  ·rename_i a b e
   cases e;cases he;rw[hx.str];simp only[Instr.sameNow]
   rw[ZoT,ZdG,Z8I]
  ·cases he
theorem ZdJ {d:TypeDesc} {y:EV} {u:Value} (h:KeyT d y) (hy:VR D y u):∀ {es:List (EV×EV)} {l:List MapEntry} {r:Option EV} (i:Nat),MpR D es l->ZgO y es=some r ->
  match r with
  | none=>Instr.findNow d u l i=some none
  | some v=>∃ j w,Instr.findNow d u l i=some (some (j,w))∧VR D v w
 | [],_,r,i,.nil,hl=>by simp only[ZgO] at hl;cases hl;rfl
 |(x,v)::es,_,r,i,.cons (e:=e) (l:=l) hk hv t,hl=>by
  simp only[ZgO] at hl
  split at hl
  ·rename_i he
   cases hl;refine⟨i,e.val,?_,hv⟩;simp only[Instr.findNow,Z8N h hy hk he]
  ·rename_i he
   have ih:=ZdJ h hy (i+1) t hl;simp only[Instr.findNow,Z8N h hy hk he];exact ih
  ·cases hl
theorem Zhj {d:TypeDesc} {y v:EV} {u w:Value} (h:KeyT d y) (hy:VR D y u) (hv:VR D v w):∀ {es es':List (EV×EV)} {l:List MapEntry} (i:Nat),MpR D es l->ZmX y v es=some es' ->
  (Instr.findNow d u l i=some none∧∀ b,MpR D es' (l++[{ key:=u,val:=w,born:=b }])) ∨
  ∃ j e,Instr.findNow d u l i=some (some (i+j,e.val))∧l[j]?=some e∧Instr.sameNow d u e.key=some true∧MpR D es' (l.modify j fun e=>{ e with key:=u,val:=w })
 | [],es',_,i,.nil,hl=>by
  simp only[ZmX] at hl;cases hl;exact .inl ⟨rfl,fun b=>.cons hy hv .nil⟩
 |(x,v')::es,es',_,i,.cons (e:=e) (l:=l) hk hv' t,hl=>by
  simp only[ZmX] at hl
  split at hl
  ·rename_i he
   cases hl;refine .inr ⟨0,e,?_,rfl,Z8N h hy hk he,?_⟩
   ·simp only[Instr.findNow,Z8N h hy hk he,Nat.add_zero]
   ·simp only[List.modify_zero_cons]
    exact .cons hy hv t
  ·rename_i he
   split at hl
   ·rename_i r hr
    cases hl
    rcases Zhj h hy hv (i+1) t hr with ⟨h1,h2⟩ | ⟨j,e',h1,h2,h3,h4⟩
    ·refine .inl ⟨?_,fun b=>.cons hk hv' (h2 b)⟩
     simp only[Instr.findNow,Z8N h hy hk he];exact h1
    ·refine .inr ⟨j+1,e',?_,by simpa using h2,h3,?_⟩
     ·simp only[Instr.findNow,Z8N h hy hk he]
      rw[h1]
      congr 3
      omega
     ·simp only[List.modify_succ_cons]
      exact .cons hk hv' h4
   ·cases hl
  ·cases hl
end
section
variable {P:Program} {w:World}
theorem Zf0 {t k e:Nat} (ht:P.underlying t=some (.map k e)) {d:TypeDesc} (hk:P.underlying k=some d) {u:Value} (hkey:MapKept.IsKey d u) {g:Nat} {l:List MapEntry} {clock:Nat} (hg:w.heap[g]?=some (.map l.toArray clock))
  {q:Option (Nat×Value)} (hf:Instr.findNow d u l 0=some q) {inf:TypeInfo} {z:Value} (hi:P.info? e=some inf) (hz:inf.zero=some z) (ok:Bool) :
  (Instr.lookup t (.map (some g)) u ok).run P w=.ok (bif ok then .tuple #[(q.map (·.2)).getD z,.bool q.isSome] else (q.map (·.2)).getD z) w:=by
 have hc:(Instr.checkKey l.toArray.isEmpty 10000 k u).run P w=.ok () w:=MapKept.run_checkKey hk hkey _ 9999;have hfk:(Instr.findKey k u l).run P w=.ok q w:=MapKept.run_findKey hk hf
 have hzr:(zeroValue e).run P w=.ok z w:=by simp[zeroValue,typeInfo,hi,hz]
 unfold Instr.lookup;simp only[Sem.run_bind,run_underlying ht,Result.andThen_ok,MapKept.run_getObj_map hg,Sem.run_pure,hc,hfk]
 cases q with
 | none=>cases ok<;>simp[hzr]
 | some p=>cases ok<;>simp
theorem ZlF {t k e:Nat} (ht:P.underlying t=some (.map k e)) {d:TypeDesc} (hk:P.underlying k=some d) {u v:Value} (hkey:MapKept.IsKey d u) {g:Nat} {l:List MapEntry} {clock:Nat} (hg:w.heap[g]?=some (.map l.toArray clock))
  (hf:Instr.findNow d u l 0=some none):(Instr.mapUpdate t (.map (some g)) u v).run P w=.ok () { w with heap:=w.heap.setIfInBounds g (.map (l++[({ key:=u,val:=v,born:=clock }:MapEntry)]).toArray (clock+1)) }:=by
 have hc:(Instr.checkKey false 10000 k u).run P w=.ok () w:=MapKept.run_checkKey hk hkey _ 9999;have hfk:(Instr.findKey k u l).run P w=.ok none w:=MapKept.run_findKey hk hf;unfold Instr.mapUpdate;simp only[Sem.run_bind,run_underlying ht,Result.andThen_ok,MapKept.run_getObj_map hg,hc,hfk,MapKept.run_setObj_map _ hg]
 congr 3
 simp
theorem ZlG {t k e:Nat} (ht:P.underlying t=some (.map k e)) {d:TypeDesc} (hk:P.underlying k=some d) {u v:Value} (hkey:MapKept.IsKey d u) {g:Nat} {l:List MapEntry} {clock:Nat} (hg:w.heap[g]?=some (.map l.toArray clock))
  {j:Nat} {e':MapEntry} (hf:Instr.findNow d u l 0=some (some (j,e'.val))) (hj:l[j]?=some e') (hs:e'.key=u) :
  (Instr.mapUpdate t (.map (some g)) u v).run P w=.ok () { w with heap:=w.heap.setIfInBounds g (.map (l.modify j fun e=>{ e with key:=u,val:=v }).toArray clock) }:=by
 have hc:(Instr.checkKey false 10000 k u).run P w=.ok () w:=MapKept.run_checkKey hk hkey _ 9999;have hfk:(Instr.findKey k u l).run P w=.ok (some (j,e'.val)) w:=MapKept.run_findKey hk hf;have hst:(Instr.keyThatStays u u).run P w=.ok u w:=MapKept.run_keyThatStays hkey;unfold Instr.mapUpdate;simp only[Sem.run_bind,run_underlying ht,Result.andThen_ok,MapKept.run_getObj_map hg,hc,hfk];simp only[List.getElem?_toArray,hj,Option.map_some,Option.getD_some,hs,hst,Result.andThen_ok,MapKept.run_setObj_map _ hg]
 congr 3
 show Obj.map _ _=Obj.map _ _
 congr 1
 apply Array.ext'
 simp
end
section
variable {X:Ctx} {G:GT} {pr:PR} {D:Nm} {m m':Me} {F:Fr} {fr:Tri EV} {C:Bx} {I:GH} {M:List Blk} {K:KS} {o:Oper} {v:EV}
def Z4U (X:Ctx) (G:GT) (pr:PR) (D:Nm) (m:Me) (I:GH) (M:List Blk) (v:EV) (m':Me) (dst:Option Nat) (F:Fr) (C:Bx) (K:KS):Prop:=
 ∀ D' u M',D.ext D' m.n->VR D' v u->MS (RX X G pr) D' m' I M'->K (put dst (.val u) F) C I M'
theorem Zf1 {t:Nat} {x y:Operand} (ho:o.op=.store t x y) (h:opn o.dst (Z9x (X.E t) m (rdO fr x) (rdO fr y)) (fun _=>none)=some (v,m')) (H:OR D F fr o.op.operands.toList) (hm:MS (RX X G pr) D m I M)
  (k:Z4U X G pr D m I M v m' o.dst F C K):Z40 X o F C I M K:=by
 obtain⟨dst,op,ty,pos,after,guard⟩:=o;simp only at ho;subst ho
 cases dst with
 | some d=>cases h
 | none=>
  have h1:Z9x (X.E t) m (rdO fr x) (rdO fr y)=some (v,m'):=h;unfold Z9x at h1;obtain⟨i,hi,h1⟩:=Z07 h1;obtain⟨a,hx,h1⟩:=Z07 h1;obtain⟨b,hy,h1⟩:=Z07 h1;obtain⟨hb,h1⟩:=Z0b h1;obtain⟨m2,h2,-,-,h3⟩:=Z7D (Y:=RX X G pr) h1;cases h2;simp only at H;have hxo:=H x (by simp[Op.operands]) _ hx
  have hnb:∀ q,a≠.b q:=fun q e=>by subst e;cases h1
  obtain⟨u,e1,g1⟩:=hxo.nb hnb;obtain⟨w,e2,g2⟩:=H.ev (x:=y) (by simp[Op.operands]) hy;obtain⟨g,off,pre,post,arr,T,rfl,hM,hfit,hone,⟨id,e,al,hid,hal,hg⟩,hms⟩:=h3 hm g1 g2.cells;simp only[Z40,hi,e2,e1]
  have hsz:Nat.beq w.cells.size i.size=true:=by
   have:=g2.cells.len;rw[Array.length_toList] at this;rw[this];exact hb
  rw[hsz];simp only[cond_true]
  refine⟨pre,post,arr,T,hM,rfl,hfit,hone,?_⟩;exact k D (.tuple #[]) _ Nm.ext_refl (by simp only[VR];exact⟨[],.nil,rfl⟩) hms
theorem ZaW (hd:∀ d,o.dst=some d->d < X.n) (hnd:∀ c,o.op≠.defer c)
  (h:∀ (β:Nat->Nat) (a:Act) (w:World),RelB X β a w F C I M->∃ u w' I' M',(execOp a.eval o).run X.P w=.ok (.value u) w'∧RelB X β a w' F C I' M'∧K (put o.dst (.val u) F) C I' M'):OtherOb X o F C I M K:=by
 refine⟨fun a w Q ⟨β,hR⟩=>?_⟩;obtain⟨u,w',I',M',h1,h2,h3⟩:=h β a w hR
 exact Z0r hnd h1 ⟨_,_,_,_,⟨β,h2.put (x:=.val u) hd rfl⟩,h3⟩
theorem Zf2 (hd:o.dst=none) (hnd:∀ c,o.op≠.defer c)
  (h:∀ (β:Nat->Nat) (a:Act) (w:World),RelB X β a w F C I M->∃ w' I' M',(execOp a.eval o).run X.P w=.ok .skip w'∧RelB X β a w' F C I' M'∧K F C I' M'):OtherOb X o F C I M K:=by
 refine⟨fun a w Q ⟨β,hR⟩=>?_⟩;obtain⟨w',I',M',h1,h2,h3⟩:=h β a w hR
 refine Z2f hnd h1 ⟨_,_,_,_,⟨β,?_⟩,h3⟩;rw[hd]
 exact h2
theorem ZdK (hE:EOK X.P X.E) (hd:∀ d,o.dst=some d->d < X.n) {t:Nat} {r:Option Operand} (ho:o.op=.makeMap t r) (h:Zj5 (X.E t) m=some (v,m')) (hr:∀ x,r=some x->∃ k n,ev F x=.val (.int k n)) (hm:MS (RX X G pr) D m I M)
  (k:Z4U X G pr D m I M v m' o.dst F C K):OtherOb X o F C I M K:=by
 unfold Zj5 at h
 split at h
 ·rename_i sa sb sz kk e ht
  obtain⟨d,hud,hdd⟩:=(hE _ _ ht).und
  have h1:d=.map kk e:=by cases d<;>simp_all[Z2k]
  subst h1;obtain⟨t',h2,h3⟩:=Z7B h;cases h3
  refine ZaW hd (by rw[ho];simp) fun β a w hR=>?_
  refine⟨.map (some w.heap.size),w.alloc (.map #[] 0),I,⟨w.heap.size,.map #[] 0⟩::M,?_,hR.alloc_blk _,?_⟩
  ·unfold execOp
   cases r with
   | none=>simp[ho,Instr.makeMap]
   | some x=>
    obtain⟨k1,n1,hx⟩:=hr x rfl;have er:=Z04 hR.fr hx;simp[ho,er,Instr.makeMap,run_underlying hud,asInt,Z0t]
  ·have hf:∀ x∈M,x.num≠w.heap.size:=hR.holds.freshM
   refine k _ _ _ Nm.ext_set (by simp only[VR];exact⟨_,Nm.set_self _ _ ⟨w.heap.size,0,0⟩,rfl⟩) (hm.new (a:=⟨w.heap.size,0,0⟩) h2 hf ?_);exact .map [] 0 (by simp) .nil
 ·cases h
theorem EntR.mapE {D:Nm} {E:Env} {M:List Blk} {a:Loc} {es:List (EV×EV)} (h:EntR D E M a (.map es)):∃ l clock,(⟨a.b,.map l.toArray clock⟩:Blk)∈M∧MpR D es l:=by
 cases h with
 | map l clock h1 h2=>exact⟨l,clock,h1,h2⟩
theorem VR.map' {id:Nat} {u:Value} (h:VR D (.m id) u):∃ a,D id=some a∧u=.map (some a.b):=by simpa only[VR] using h
theorem Zhk (hE:EOK X.P X.E) (hd:∀ d,o.dst=some d->d < X.n) {t:Nat} {x y:Operand} {ok:Bool} (ho:o.op=.lookup t x y ok) (h:ZgQ X.P X.E t m (rdO fr x) (rdO fr y) ok=some (v,m')) (H:OR D F fr o.op.operands.toList)
  (hm:MS (RX X G pr) D m I M) (k:Z4U X G pr D m I M v m' o.dst F C K):OtherOb X o F C I M K:=by
 unfold ZgQ at h
 split at h
 ·rename_i sa sb sz kk e id yv ht h1 h2
  obtain⟨hkey,h⟩:=Z0b h
  split at h
  ·rename_i es hg
   obtain⟨r,hr,h⟩:=Z07 h;obtain⟨inf,hi,h⟩:=Z07 h;obtain⟨z,hz,h⟩:=Z07 h;obtain⟨zv,hzv,h⟩:=Z07 h;cases h;obtain⟨d,hud,hdd⟩:=(hE _ _ ht).und
   have hd':d=.map kk e:=by cases d<;>simp_all[Z2k]
   subst hd';obtain⟨dk,huk,hkt⟩:=Zhi hE hkey;rw[ho] at H;obtain⟨u1,e1,g1⟩:=H.ev (x:=x) (by simp[Op.operands]) h1;obtain⟨u2,e2,g2⟩:=H.ev (x:=y) (by simp[Op.operands]) h2;obtain⟨a,ha,rfl⟩:=g1.map';have he:=hm.ent _ _ _ hg ha;obtain⟨l,clock,hM,hmp⟩:=he.mapE;have hlk:=ZdJ hkt g2 0 hmp hr;have hzr:VR D zv z:=.of hzv
   have fin:∀ {q:Option (Nat×Value)},Instr.findNow dk u2 l 0=some q->(r=none∧q=none∨∃ rv j w,r=some rv∧q=some (j,w)∧VR D rv w)->OtherOb X o F C I M K:=fun {q} hf hq=>by
    refine ZaW hd (by rw[ho];simp) fun β ac w hR=>?_
    have hrun:=Zf0 (P:=X.P) (w:=w) hud huk (hkt.isKey g2) (hR.holds.m _ hM) hf hi hz ok;have ex:=Z04 hR.fr e1;have ey:=Z04 hR.fr e2;refine⟨bif ok then .tuple #[(q.map (·.2)).getD z,.bool q.isSome] else (q.map (·.2)).getD z,w,I,M,?_,hR,k D _ M Nm.ext_refl ?_ hm⟩
    ·unfold execOp
     simp only[ho,ex,ey,Sem.run_bind,hrun,Result.andThen_ok,Sem.run_pure]
    ·unfold Zn0
     rcases hq with ⟨rfl,rfl⟩ | ⟨rv,j,w',rfl,rfl,hv⟩
     ·cases ok
      ·exact hzr
      ·exact .mkTup (.cons hzr (.cons (by simp only[VR];rfl) .nil))
     ·cases ok
      ·exact hv
      ·exact .mkTup (.cons hv (.cons (by simp only[VR];rfl) .nil))
   cases r with
   | none=>exact fin hlk (.inl ⟨rfl,rfl⟩)
   | some rv=>
    obtain⟨j,w,hf,hv⟩:=hlk;exact fin hf (.inr ⟨rv,j,w,rfl,rfl,hv⟩)
  ·cases h
 ·cases h
theorem ZdL (hE:EOK X.P X.E) {t:Nat} {x y z:Operand} (ho:o.op=.mapUpdate t x y z∨o.op=.insert t x y z) (h:opn o.dst (ZgR X.E t m (rdO fr x) (rdO fr y) (rdO fr z)) (fun _=>none)=some (v,m')) (H:OR D F fr o.op.operands.toList)
  (hm:MS (RX X G pr) D m I M) (k:Z4U X G pr D m I M v m' o.dst F C K):OtherOb X o F C I M K:=by
 cases hdst:o.dst with
 | some d=>rw[hdst] at h;cases h
 | none=>
  rw[hdst] at h k;have h0:ZgR X.E t m (rdO fr x) (rdO fr y) (rdO fr z)=some (v,m'):=h
  have hops:∀ q,q=x∨q=y∨q=z->q∈o.op.operands.toList:=fun q hq=>by
   rcases ho with ho | ho<;>rw[ho]<;>simp[Op.operands]<;>exact hq
  unfold ZgR at h0
  split at h0
  ·rename_i sa sb sz kk e id yv zv ht h1 h2 h3
   obtain⟨hkey,h0⟩:=Z0b h0
   split at h0
   ·rename_i es hg
    obtain⟨es',hes,h0⟩:=Z07 h0;obtain⟨t',h4,h5⟩:=Tri.set_ok (some (Ent.map es')) m.t id;have h0':(m.t.setK (some (Ent.map es')) id fun t=>some (EV.t [],(⟨t,m.n⟩:Me)))=some (v,m'):=h0;rw[h4] at h0';cases h0';obtain⟨d,hud,hdd⟩:=(hE _ _ ht).und
    have hd':d=.map kk e:=by cases d<;>simp_all[Z2k]
    subst hd';obtain⟨dk,huk,hkt⟩:=Zhi hE hkey;obtain⟨u1,e1,g1⟩:=H.ev (x:=x) (hops x (.inl rfl)) h1;obtain⟨u2,e2,g2⟩:=H.ev (x:=y) (hops y (.inr (.inl rfl))) h2;obtain⟨u3,e3,g3⟩:=H.ev (x:=z) (hops z (.inr (.inr rfl))) h3;obtain⟨a,ha,rfl⟩:=g1.map';have he:=hm.ent _ _ _ hg ha;obtain⟨l,clock,hM,hmp⟩:=he.mapE
    have fin:∀ (l':List MapEntry) (clock':Nat),MpR D es' l'->(∀ w:World,w.heap[a.b]?=some (.map l.toArray clock)->(Instr.mapUpdate t (.map (some a.b)) u2 u3).run X.P w=.ok () { w with heap:=w.heap.setIfInBounds a.b (.map l'.toArray clock') }) ->
      OtherOb X o F C I M K:=fun l' clock' hl' hrun=>by
     obtain⟨pre,post,hsp⟩:=List.append_of_mem hM
     have hperm:M.Perm (⟨a.b,.map l.toArray clock⟩::(pre++post)):=by rw[hsp];exact List.perm_middle
     refine Zf2 hdst (by rcases ho with ho | ho<;>rw[ho]<;>simp) fun β ac w hR0=>?_
     have hR:RelB X β ac w F C I (⟨a.b,.map l.toArray clock⟩::(pre++post)):=hR0.wk (.perm hperm .refl);have hgw:=hR0.holds.m _ hM
     have ex:=Z04 hR.fr e1;have ey:=Z04 hR.fr e2;have ez:=Z04 hR.fr e3;have hset:=MapKept.heap_set (o':=Obj.map l'.toArray clock') hgw;refine⟨_,I,⟨a.b,.map l'.toArray clock'⟩::(pre++post),?_,hR.swap (w':={ w with heap:=w.heap.setIfInBounds a.b (.map l'.toArray clock') }) (by simp) hset.1 hset.2 ⟨rfl,rfl⟩,?_⟩
     ·unfold execOp
      rcases ho with ho | ho<;>simp only[ho,ex,ey,ez,Sem.run_bind,hrun w hgw,Result.andThen_ok,Sem.run_pure]
     ·have hkeep:∀ q∈M,q.num≠a.b->q∈(⟨a.b,.map l'.toArray clock'⟩:Blk)::(pre++post):=fun q hq hn=>by
       rcases List.mem_cons.1 (hperm.mem_iff.1 hq) with rfl | hq
       ·exact(hn rfl).elim
       ·exact List.mem_cons_of_mem _ hq
      refine k D (.tuple #[]) _ Nm.ext_refl (by simp only[VR];exact⟨[],.nil,rfl⟩) ?_;refine hm.step (fun i e hi=>(h5 i e hi).imp (fun q=>⟨q.1,Z0F q.2⟩) fun q=>q) ha (Nm.le_refl D) (fun _ _=>rfl) hm.dom (fun _ _ h=>h) (fun i e a' hne hi hai q hq hn=>hkeep q hq ?_) (.map l' clock' (by simp) hl') ?_
      ·rw[hn]
       exact fun hb=>hne (hm.inj _ _ _ _ _ _ hi hg hai ha hb)
      ·exact fun i e a' hne hi hai hb=>hne (hm.inj _ _ _ _ _ _ hi hg hai ha hb)
    rcases Zhj hkt g2 g3 0 hmp hes with ⟨hf,hnew⟩ | ⟨j,e',hf,hj,hs,hmod⟩
    ·exact fin _ (clock+1) (hnew clock) fun w hgw=>ZlF hud huk (hkt.isKey g2) hgw hf
    ·rw[Nat.zero_add] at hf
     have hke:e'.key=u2:=by
      cases hkt with
      | int=>
       have:=g2.int;subst this
       cases hk:e'.key<;>rw[hk] at hs<;>simp[Instr.sameNow] at hs
       obtain⟨rfl,h⟩:=hs;rw[h]
      | str=>
       have:=g2.str;subst this
       cases hk:e'.key<;>rw[hk] at hs<;>simp[Instr.sameNow,ZoT] at hs
       rw[hs]
     exact fin _ clock hmod fun w hgw=>ZlG hud huk (hkt.isKey g2) hgw hf hj hke
   ·cases h0
  ·cases h0
end
section
variable {X:Ctx} {G:GT} {pr:PR} {D:Nm} {m m':Me} {F:Fr} {fr:Tri EV} {C:Bx} {I:GH} {M:List Blk} {K:KS} {o:Oper} {v:EV}
theorem ZdM (hE:EOK X.P X.E) (hd:∀ d,o.dst=some d->d < X.n) {s d e:Nat} {x:Operand} (ho:o.op=.convert s d x) {a1 b1 a2 b2:Nat} {z1 z2:List Value} (hs:X.E s=some ⟨a1,b1,z1,.slice e⟩) (hd':X.E d=some ⟨a2,b2,z2,.string⟩) (hb:ZeO (X.E e)=true)
  {id off n:Nat} (h:Zj6 G m id off n=some (v,m')) (hx:∃ a c,D id=some a∧ev F x=.val (.slice (some ⟨a.b,a.o+off,none⟩) n c)) (hm:MS (RX X G pr) D m I M)
  (k:Z4U X G pr D m I M v m' o.dst F C K):OtherOb X o F C I M K:=by
 unfold Zj6 at h;obtain⟨a,c,ha,ex⟩:=hx;obtain⟨ad,l,vs,e1,hrd,hl,h⟩:=Z1U (u:=.pointer (some ⟨a.b,a.o+off,none⟩)) hm (by simp only[VR];exact⟨a,ha,rfl⟩) h;cases e1;obtain⟨bs,hbs,h⟩:=Z07 h;cases h;have hvs:=Z7E hbs hl
 have hlen:bs.length=n:=by
  have:=hrd.2;obtain⟨_,_,_,_,_,h2⟩:=this;rw[←h2,hvs];simp
 subst hvs
 obtain⟨ei,he,hes⟩:∃ ei,X.E e=some ei∧ei.sh=.int .u8:=by
  unfold ZeO at hb
  split at hb
  ·rename_i h;exact⟨_,h,rfl⟩
  ·cases hb
 refine OtherOb.bytesS hE ho hd hs rfl he hes hd' rfl ex hlen hrd ?_;exact k D _ M Nm.ext_refl (by simp only[VR]) hm
theorem Zhl (hE:EOK X.P X.E) (hd:∀ d,o.dst=some d->d < X.n) {s d:Nat} {x:Operand} (ho:o.op=.convert s d x) (h:ZdB (RX X G pr) m s d (rdO fr x)=some (v,m')) (H:OR D F fr o.op.operands.toList) (hm:MS (RX X G pr) D m I M)
  (k:Z4U X G pr D m I M v m' o.dst F C K):OtherOb X o F C I M K:=by
 unfold ZdB at h;rw[ho] at H
 split at h
 ·rename_i h1 h2 h3
  obtain⟨hb,h⟩:=Z0b h;obtain⟨u,e1,g1⟩:=H.ev (x:=x) (by simp[Op.operands]) h3;obtain⟨a,ha,rfl⟩:=g1.sli;exact ZdM hE hd ho h1 h2 hb h ⟨a,_,ha,e1⟩ hm k
 ·rename_i h1 h2 h3
  obtain⟨hb,h⟩:=Z0b h;obtain⟨u,e1,g1⟩:=H.ev (x:=x) (by simp[Op.operands]) h3;obtain⟨a,ha,_,rfl⟩:=g1.slx;exact ZdM hE hd ho h1 h2 hb h ⟨a,_,ha,e1⟩ hm k
 ·rename_i h1 h2 h3
  obtain⟨hb,h⟩:=Z0b h;obtain⟨u,e1,g1⟩:=H.ev (x:=x) (by simp[Op.operands]) h3;cases h;simp only[VR] at g1;subst g1
  obtain⟨ei,he,hes⟩:∃ ei,X.E _=some ei∧ei.sh=.int .u8:=by
   unfold ZeO at hb
   split at hb
   ·rename_i h;exact⟨_,h,rfl⟩
   ·cases hb
  refine OtherOb.bytesN hE ho hd h1 rfl he hes h2 rfl e1 ?_;exact k D _ M Nm.ext_refl (by simp only[VR]) hm
 ·cases h
theorem Zhm (q:List UInt8):VRs D (q.map fun b=>EV.i .u8 (.ofNat b.toNat)) (Z0x ⟨q.toArray⟩):=by
 unfold Z0x;simp only
 induction q with
 | nil=>exact .nil
 | cons b q ih=>exact .cons (by simp only[VR];rfl) ih
theorem Z9H {l:List Operand} {a b:EV} (h:rdL fr l=some [a,b]):∃ x y,l=[x,y]∧rdO fr x=some a∧rdO fr y=some b:=by
 match l,h with
 | [],h=>simp[rdL] at h
 | [x],h=>
  simp only[rdL] at h
  split at h
  ·rename_i e1 e2;cases e2;cases h
  ·cases h
 | [x,y],h=>
  simp only[rdL] at h
  split at h
  ·rename_i e1 e2
   split at e2
   ·rename_i e3 e4;cases e4;cases e2;cases h;exact⟨x,y,rfl,e1,e3⟩
   ·cases e2
  ·cases h
 | x::y::z::l,h=>
  simp only[rdL] at h
  split at h
  ·rename_i e1 e2
   split at e2
   ·rename_i e3 e4
    split at e4
    ·cases e4;cases e2;cases h
    ·cases e4
   ·cases e2
  ·cases h
theorem MS.sub {M':List Blk} (h:MS (RX X G pr) D m I M) (hs:∀ x∈M,x∈M'):MS (RX X G pr) D m I M':=
 ⟨fun id e a hi ha=>(h.ent id e a hi ha).mono (Nm.le_refl D) (fun x hx _=>hs x hx),h.inj,h.dom,h.glo⟩
theorem Zhn (hE:EOK X.P X.E) (hd:∀ d,o.dst=some d->d < X.n) {args:Array Operand} {ts:Array Nat} (ho:o.op=.call { callee:=.builtin .copy,args:=args,argTypes:=ts }) (h:ZgS (RX X G pr) m ts.toList (rdL fr args.toList)=some (v,m'))
  (H:OR D F fr args.toList) (hm:MS (RX X G pr) D m I M) (k:Z4U X G pr D m I M v m' o.dst F C K):OtherOb X o F C I M K:=by
 unfold ZgS at h
 split at h
 ·rename_i t u id off n c q ht hl
  split at h
  ·rename_i sa sb sz e hE1
   obtain⟨ei,he,h⟩:=Z07 h;obtain⟨hb,h⟩:=Z0b h;rw[Bool.and_eq_true] at hb;obtain⟨m2,h2,-,-,h3⟩:=Z7D (Y:=RX X G pr) h;cases h2;obtain⟨x,y,hargs,hx1,hy1⟩:=Z9H hl;obtain⟨u1,hx,g2⟩:=H.ev (x:=x) (by rw[hargs];simp) hx1;obtain⟨u2,hy,g4⟩:=H.ev (x:=y) (by rw[hargs];simp) hy1;obtain⟨a,ha,rfl⟩:=g2.sli;have hstr:=g4.str;subst hstr;obtain⟨g,off',pre,post,arr,T,e3,hM,hfit,hone,⟨id',e',al,hid,hal,hg⟩,hms⟩:=h3 hm (u:=.pointer (some ⟨a.b,a.o+off,none⟩)) (by simp only[VR];exact⟨a,ha,rfl⟩) (Zhm q);cases e3
   have hperm:M.Perm (⟨a.b,.cells arr T (0,0)⟩::(pre++post)):=by rw[hM];exact List.perm_middle
   have hargs':args=#[x,y]:=by apply Array.ext';simpa using hargs
   have hts':ts=#[t,u]:=by apply Array.ext';simpa using ht
   have hsz:(⟨q.toArray⟩:ByteArray).size=q.length:=by simp[ByteArray.size]
   have hbl:(Z0x ⟨q.toArray⟩).length=q.length:=by simp[Z0x]
   refine OtherOb.copyS hE (by rw[ho,hargs',hts']) hd hE1 rfl he (Nat.eq_of_beq_eq_true hb.1) hx hy (by rw[hsz];exact Nat.le_of_ble_eq_true hb.2) (by rw[hsz,←hbl];exact hfit) hperm ?_;rw[hsz];have hpm2:(pre++(⟨a.b,.cells (Z05 arr.toList (a.o+off) (Z0x ⟨q.toArray⟩)).toArray T (0,0)⟩:Blk)::post).Perm (⟨a.b,.cells (Z05 arr.toList (a.o+off) (Z0x ⟨q.toArray⟩)).toArray T (0,0)⟩::(pre++post)):=List.perm_middle
   exact k D (.int .i64 q.length) _ Nm.ext_refl (by simp only[VR];rfl) (hms.sub fun x hx=>hpm2.mem_iff.1 hx)
  ·cases h
 ·cases h
end
end Go.V
