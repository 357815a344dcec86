/- Part 6 of what the proofs of this seat share: the executor, data in memory, walks.
-/
import Derived.Test.YtbcembbdimcdlaaGreatDoorK5
import Derived.Test.YtbcembbdimcdlaaGreatDoorK3
set_option linter.all false
set_option maxRecDepth 100000
namespace Go.V
open Go
def oU:=@List.mem_cons_of_mem
def v5:=@List.append_of_mem
def H4:=@List.drop_succ_cons
def LL:=@List.getElem?_of_mem
def Ay:=@Nat.add_eq
def LM:=@decide_eq_decide
def QC:=@Int.natCast_nonneg
def ER:=@Nat.mul_eq
def ES:=@Nat.sub_eq
def LN:=@decide_false
variable{α R:Type}{b:Bool}{x y q9 s os:Operand}{r:Option Nat}{vs xs cs nl bU:List Value}{F:Fr}{E:Env}{M:List aI}{ed:IntKind}{t j sz off T g clock bz b1 m c':Nat}{K:Value->Prop}{O:Prop}{dh ut:Option ec}{P:Program}{w mi:Value}{aG mq:ec}{args:Array Operand}{ts:Array Nat}{d m1:TypeDesc}{aW:Option Addr}{ad sa:Addr}{I:aR}{ds:List bI}
noncomputable section
inductive bi(α:Type) where
 |nil| node (x:Option α) (l r:bi α)
def cn{α:Type}(b:Bool)(x y:α):α:=@Bool.rec (λ_=>α) y x b
def ch{α R:Type}(o:Option α)(x:R)(f:α->R):R:=@Option.rec α (λ_=>R) x f o
section
variable{α R:Type}
def bi.get(t:bi α):Nat->Option α:=@bi.rec α (λ_=>Nat->Option α) (λ_=>none) (λx _ _ ajF ajG k=>cn (Nat.beq k 0) x (cn (Nat.beq (Nat.mod k 2) 1) (ajF (Nat.div k 2)) (ajG (Nat.sub (Nat.div k 2) 1)))) t
def bi.n'(v:Option α)(t:bi α):Nat->(bi α->R)->R:=@bi.rec α (λ_=>Nat->(bi α->R)->R) (λk K=>cn (Nat.beq k 0) (K (.node v .nil .nil)) (K .nil)) (λx l r sl ajH k K=>cn (Nat.beq k 0) (K (.node v l r)) (cn (Nat.beq (Nat.mod k 2) 1) (sl (Nat.div k 2) λl=>K (.node x l r)) (ajH (Nat.sub (Nat.div k 2) 1) λr=>K (.node x l r)))) t
def bi.ET(t:bi α)(off n:Nat):(List α->Option R)->Option R:=@Nat.rec (λ_=>Nat->(List α->Option R)->Option R) (λ_ K=>K []) (λ_ a7 off K=>ch (t.get off) none λv=>a7 (Nat.add off 1) λl=>K (v::l)) n off
def bi.y7(l:List α)(t:bi α)(off:Nat)(K:bi α->R):R:=@List.rec α (λ_=>bi α->Nat->R) (λt _=>K t) (λv _ a7 t off=>t.n' (some v) off λt=>a7 t (Nat.add off 1)) l t off
def bi.bare:Nat->bi α
 |0=>.nil| n+1=>.node none (bi.bare n) (bi.bare n)
end
inductive aq where
 |b(x:Bool) | i (k:IntKind) (n:Int) | s (l:List UInt8)| pn | p (id off:Nat) | g (n off:Nat)| sn | sl (id off n c:Nat) | sx (id off e n:Nat) | gs (g off n c:Nat) | so| mn | m (id:Nat)| f (g:Nat) (l r:List aq) | y (id:Nat) | fn| ni | H5 (t:Nat) (v:aq)| t (l:List aq) | a (l:List aq)
def aq.cells:aq->List aq
 | .a l=>l| v=>[v]
def aq.one:aq->Bool
 | .a _ | .t _=>false| _=>true
def H6:Value->Option aq
 | .bool x=>some (.b x)| .int k n=>some (.i k n)| .string q=>some (.s q.data.toList)| .pointer none=>some .pn| .slice none 0 0=>some .sn| .map none=>some .mn| .nilFunc=>some .fn| .nilIface=>some .ni| _=>none
def y8:List Value->Option (List aq)
 |[]=>some []
 |v::vs=>match H6 v,y8 vs with
  |some x,some l=>some (x::l)| _,_=>none
def EU:Value->Option aq
 | .agg cs=>match y8 cs.toList with
  |some l=>some (.a l)| none=>none
 |v=>H6 v
def aq.nat:aq->Option Nat
 | .i _ (.ofNat n)=>some n| _=>none
inductive fW where
 |cells(cs:bi aq)(T fh:Nat)| map (es:List (aq×aq))| loop (busy:Bool) (n:Nat) (al:bi aq) (ps:List Nat) (fD body:Code)| done (c:Code) (n:Nat) (al:bi aq) (ps:List Nat) (fD body:Code)
structure bp where
 t:bi fW
 n:Nat
def np:Int->Int->Bool
 | .ofNat a,.ofNat b=>Nat.beq a b| .negSucc a,.negSucc b=>Nat.beq a b| _,_=>false
def CK:Int->Int->Bool
 | .ofNat a,.ofNat b=>Nat.ble a b| .negSucc a,.negSucc b=>Nat.ble b a| .negSucc _,.ofNat _=>true| .ofNat _,.negSucc _=>false
def DK(a b:Int):Bool:=!CK b a
def QD(op:BinOp)(x y:Int):Option Bool:=match op with
 | .eql=>some (np x y)| .neq=>some (!np x y)| .lss=>some (DK x y)| .leq=>some (CK x y)| .gtr=>some (DK y x)| .geq=>some (CK y x)| _=>none
def LO:IntKind->Nat
 | .i8=>127 | .i16=>32767 | .i32=>2147483647 | .i64=>9223372036854775807| .u8=>255 | .u16=>65535 | .u32=>4294967295 | .u64=>18446744073709551615
def xr(k:IntKind):Int->Int
 | .ofNat n=>bif Nat.ble n (LO k)then .ofNat n else k.wrap (.ofNat n)| n=>k.wrap n
def YT:Int->Int->Int
 | .ofNat a,.ofNat b=>.ofNat (Nat.add a b)| a,b=>a+b
def QE:Int->Int->Int
 | .ofNat a,.ofNat b=>bif Nat.ble b a then .ofNat (Nat.sub a b)else(.ofNat a:Int) - .ofNat b| a,b=>a-b
def YU:Int->Int->Int
 | .ofNat a,.ofNat b=>.ofNat (Nat.mul a b)| a,b=>a*b
def YV:Int->Int->Int
 | .ofNat a,.ofNat b=>.ofNat (Nat.div a b)| a,b=>a.tdiv b
def YW:Int->Int->Int
 | .ofNat a,.ofNat b=>.ofNat (Nat.mod a b)| a,b=>a.tmod b
def YX:Int->Nat->Int
 | .ofNat a,j=>.ofNat (Nat.mul a (Nat.pow 2 j))| a,j=>a*2^j
def YY:Int->Nat->Int
 | .ofNat a,j=>.ofNat (Nat.div a (Nat.pow 2 j))| a,j=>a.fdiv (2^j)
def EV(op:BinOp)(k:IntKind)(x y:Int):Option Int:=
 match k,x,y with
 | .u64,.ofNat a,.ofNat b=>
  bif Nat.ble a 18446744073709551615&&Nat.ble b 18446744073709551615 then
   (match op with
   | .and=>some (.ofNat (Nat.land a b))| .or=>some (.ofNat (Nat.lor a b))| .xor=>some (.ofNat (Nat.xor a b))| .andNot=>some (.ofNat (Nat.land a (Nat.sub 18446744073709551615 b)))| _=>none)
  else none
 |_,_,_=>vj op k x y
def QF(a b:UInt8):Bool:=Nat.beq a.toNat b.toNat
def q':List UInt8->List UInt8->Bool
 |[],[]=>true| a::l,b::m=>bif QF a b then q' l m else false| _,_=>false
def EW:aq->aq->Option Bool
 | .b x,.b w=>some (x == w)| .i k x,.i l w=>cn (IntKind.mT k l) (some (np x w)) none| .s x,.s w=>some (q' x w)| _,_=>none
def YZ:List aq->List aq->Option Bool
 |[],[]=>some true
 |x::l,w::m=>match EW x w with
  |some true=>YZ l m
  |some false=>(match YZ l m with
   |some _=>some false| none=>none)
  |none=>none
 |_,_=>none
def asM:aq->aq->Option Bool
 | .pn,.pn=>some true| .pn,.p _ _=>some false| .p _ _,.pn=>some false| .pn,.g _ _=>some false| .g _ _,.pn=>some false| _,_=>none
def QG(op:BinOp)(k ed:IntKind)(a b:Int):Option aq:=match op with
 | .shl=>(match b with
  | .ofNat j=>some (.i k (xr k (YX a (cn (Nat.ble j k.bits) j k.bits))))| _=>none)
 | .shr=>(match b with
  | .ofNat j=>some (.i k (YY a (cn (Nat.ble j k.bits) j k.bits)))| _=>none)
 | .add=>cn (IntKind.mT k ed) (some (.i k (xr k (YT a b)))) none| .sub=>cn (IntKind.mT k ed) (some (.i k (xr k (QE a b)))) none| .mul=>cn (IntKind.mT k ed) (some (.i k (xr k (YU a b)))) none| .quo=>cn (IntKind.mT k ed) (cn (np b 0) none (some (.i k (xr k (YV a b))))) none| .rem=>cn (IntKind.mT k ed) (cn (np b 0) none (some (.i k (YW a b)))) none| .and=>cn (IntKind.mT k ed) (ch (EV .and k a b) none λr=>some (.i k r)) none| .or=>cn (IntKind.mT k ed) (ch (EV .or k a b) none λr=>some (.i k r)) none| .xor=>cn (IntKind.mT k ed) (ch (EV .xor k a b) none λr=>some (.i k r)) none| .andNot=>cn (IntKind.mT k ed) (ch (EV .andNot k a b) none λr=>some (.i k r)) none| op=>cn (IntKind.mT k ed) (ch (QD op a b) none λr=>some (.b r)) none
def QH(op:BinOp)(a b:List UInt8):Option aq:=match op with
 | .eql=>some (.b (q' a b))| .neq=>some (.b (cn (q' a b) false true))| .add=>cn (Nat.ble (Nat.add a.length b.length) 9223372036854775807) (some (.s (a++b))) none| _=>none
def QI(op:BinOp)(dh:Option ec)(a b:Bool):Option aq:=match dh with
 |some { bO:=.bool,.. }=>
  (match op with
  | .eql=>some (.b (a == b))| .neq=>some (.b (!(a == b)))| _=>none)
 |_=>none
def EX(agg:Bool)(l:List aq):Option aq:=bif agg then some (.a l)else match l with
 |[v]=>some v| _=>none
def CL:Nat->List aq->Option (List aq)
 |0,_=>some []| _+1,[]=>none
 |n+1,v::l=>match CL n l with
  |some r=>some (v::r)| none=>none
def CM{α:Type}:List α->Nat->List α
 |[],_=>[]| v::l,n=>bif Nat.beq n 0 then v::l else CM l (Nat.sub n 1)
def v7(E:Env)(t o:Nat)(l:List aq):Option aq:=ch (E t) none λi=>cn (Nat.beq i.size 0) none <| ch (CL i.size (CM l o)) none λr=>EX i.bO.agg r
def Az(F:Nat->aq->aq->Option Bool)(E:Env)(l m:List aq):List (Nat×Nat)->Option Bool
 |[]=>some true|(t,o)::r=>ch (v7 E t o l) none λx=>ch (v7 E t o m) none λy=>ch (F t x y) none λb=>cn b (Az F E l m r) (some false)
def QJ(P:Program)(t:Nat):Bool:=match P.underlying t with
 |some (.struct cE)=>!P.stoodInHeld t&&cE.toList.all λf=>decide (f.name ≠ "_")
 |_=>false
def ra(P:Program)(E:Env):Nat->Nat->aq->aq->Option Bool
 |0,_,_,_=>none
 |d+1,t,x,y=>ch (E t) none λi=>match i.bO,x,y with
  | .bool,.b a,.b b=>some (a == b)| .int _,.i k a,.i ed b=>cn (IntKind.mT k ed) (some (np a b)) none| .string,.s a,.s b=>some (q' a b)| .struct cE,.a l,.a m=>cn (QJ P t) (Az (ra P E d) E l m cE) none| .array n e,.a l,.a m=>ch (E e) none λaG=>Az (ra P E d) E l m ((List.range n).map λi=>(e,i*aG.size))
  |_,_,_=>none
def CN(P:Program)(E:Env)(op:BinOp)(t:Nat)(l m:List aq):Option aq:=cn (P.eqGuardType P.depth t) none (ch (ra P E 8 t (.a l) (.a m)) none λb=>match op with
 | .eql=>some (.b b)| .neq=>some (.b (!b))| _=>none)
def QK:aq->Option Bool
 | .sn=>some true| .sl .. | .sx .. | .gs .. | .so=>some false| _=>none
def QL:aq->Option Bool
 | .pn=>some true| .p .. | .g ..=>some false| _=>none
def LP(op:BinOp)(b:Bool):Option aq:=match op with
 | .eql=>some (.b b)| .neq=>some (.b (!b))| _=>none
def QM(P:Program)(E:Env)(op:BinOp)(t:Nat)(x y:aq):Option aq:=
 match x,y with
 | .i k a,.i ed b=>QG op k ed a b| .s a,.s b=>QH op a b| .b a,.b b=>QI op (E t) a b| .a l,.a m=>CN P E op t l m
 |x,.sn=>ch (E t) none λi=>(match i.bO with
  | .slice _=>ch (QK x) none λb=>LP op b
  |_=>none)
 |x,.pn=>ch (E t) none λi=>(match i.bO with
  | .pointer _=>ch (QL x) none λb=>LP op b
  |_=>none)
 |_,_=>none
def xt{α:Type}:List α->Nat->Option α
 |[],_=>none| v::l,n=>bif Nat.beq n 0 then some v else xt l (Nat.sub n 1)
def y9:List aq->Nat->List aq->Option (List aq)
 |cs,0,[]=>some cs
 |_::cs,0,v::vs=>match y9 cs 0 vs with
  |some r=>some (v::r)| none=>none
 |c::cs,n+1,vs=>match y9 cs n vs with
  |some r=>some (c::r)| none=>none
 |[],_,_=>none
def AA(place:Nat->Option (Nat×Nat)):List aq->List (Nat×aq)->Option (List aq)
 |cells,[]=>some cells
 |cells,(i,v)::bd=>match place i with
  |none=>none
  |some (off,size)=>bif Nat.beq v.cells.length size then(match y9 cells off v.cells with
   |some cs=>AA place cs bd| none=>none)else none
def dB(al:bi aq):Operand->Option aq
 | .tmp t=>al.get t| .const v=>EU v| .global g=>some (.g g 0)| .func f=>some (.f f [] [])
def oV(al:bi aq):List Operand->Option (List aq)
 |[]=>some []
 |x::xs=>match dB al x,oV al xs with
  |some v,some l=>some (v::l)| _,_=>none
def EY(al:bi aq):List (Nat×Operand)->Option (List (Nat×aq))
 |[]=>some []
 |(i,x)::xs=>match dB al x,EY al xs with
  |some v,some l=>some ((i,v)::l)| _,_=>none
abbrev GT:=Nat->Option (bi aq)
def xu{R:Type}(G:GT)(m:bi fW)(x:aq)(n:Nat)(K:List aq->Option R):Option R:=match x with
 | .p id off=>(match m.get id with
  |some (.cells cs _ fh)=>bif Nat.ble (Nat.add off n) fh then cs.ET off n K else none| _=>none)
 | .g g off=>(match G g with
  |some cs=>cs.ET off n K| none=>none)
 |_=>none
def H7(x:aq)(n:Nat):Option aq:=match x with
 | .p id off=>some (.p id (Nat.add off n))| .g g off=>some (.g g (Nat.add off n))| _=>none
def LQ(x:aq)(j sz:Nat):Option aq:=match x with
 | .sl id off n _=>bif Nat.blt j n then some (.p id (Nat.add off (Nat.mul j sz)))else none| .sx id off _ n=>bif Nat.blt j n then some (.p id (Nat.add off (Nat.mul j sz)))else none| .gs g off n _=>bif Nat.blt j n then some (.g g (Nat.add off (Nat.mul j sz)))else none| _=>none
def xv:aq->Option Nat
 | .sn | .so=>some 0| .sl _ _ n _ | .sx _ _ _ n | .gs _ _ n _=>some n| _=>none
def ti(v:aq):Option Nat:=match v with
 | .s l=>some l.length| v=>xv v
def QN(x:aq)(sz l:Nat)(h:Option Nat):Option aq:=match x with
 | .sn=>bif Nat.beq l 0&&Nat.beq (h.getD 0) 0 then some .sn else none
 | .sl id off n c=>let h:=h.getD n
  bif Nat.ble l h&&Nat.ble h c then bif Nat.beq c l then some (.sl id off (Nat.sub h l) 0)else some (.sl id (Nat.add off (Nat.mul l sz)) (Nat.sub h l) (Nat.sub c l))else none
 | .sx id off e n=>let h:=h.getD n
  bif Nat.ble l h&&Nat.ble h n then(bif Nat.beq l 0||Nat.blt l n then some (.sx id (Nat.add off (Nat.mul l sz)) (Nat.add e l) (Nat.sub h l))else some .so)else none
 |_=>none
def CO(o:Option (Option aq)):Option (Option Nat):=match o with
 |none=>some none
 |some (some v)=>(match v.nat with
  |some n=>some (some n)| none=>none)
 |some none=>none
def QO(l:List UInt8)(lo hi:Nat):List UInt8:=(CM l lo).take (Nat.sub hi lo)
def Y0(c a b:Option aq):Option aq:=match c,a,b with
 |some (.b c),some u,some v=>some (cn c u v)| _,_,_=>none
def Y1(op:UnOp)(x:Option aq):Option aq:=match op,x with
 | .not,some (.b b)=>some (.b (cn b false true))| .neg,some (.i k n)=>some (.i k (xr k (0-n)))| _,_=>none
def Y2(P:Program)(E:Env)(op:BinOp)(t:Nat)(x y:Option aq):Option aq:=ch x none λx=>ch y none λy=>QM P E op t x y
def Y3(G:GT)(m:bi fW)(i:Option ec)(x:Option aq):Option aq:=ch i none λi=>ch x none λx=>xu G m x i.size λl=>EX i.bO.agg l
def Y4(x:Option aq):Option aq:=match x with
 |some (.p id off)=>some (.p id off)| some (.g g off)=>some (.g g off)| _=>none
def LR(E:Env)(t i:Nat):Option (Nat×ec):=match E t with
 |some { bO:=.struct cE,.. }=>(match xt cE i with
  |some (mS,off)=>(match E mS with
   |some hI=>some (off,hI)| none=>none)
  |none=>none)
 |_=>none
def Y5(r:Option (Nat×ec))(x:Option aq):Option aq:=ch r none λr=>ch x none λx=>cn (Nat.beq r.2.size 0) none (H7 x r.1)
def LS(aG:ec)(cs:List aq)(off:Nat):Option aq:=cn (Nat.beq aG.size 0) none <| ch (CL aG.size (CM cs off)) none λl=>EX aG.bO.agg l
def Y6(r:Option (Nat×ec))(x:Option aq):Option aq:=match r,x with
 |some (off,hI),some (.a cs)=>LS hI cs off| _,_=>none
def QP(E:Env)(t:Nat):Option (Option Nat×ec):=match E t with
 |some { bO:=.slice e,.. }=>(match E e with
  |some aG=>some (none,aG)| none=>none)
 |some { bO:=.array n e,.. }=>(match E e with
  |some aG=>some (some n,aG)| none=>none)
 |_=>none
def Y7(r:Option (Option Nat×ec))(x i:Option aq):Option aq:=ch r none λr=>ch x none λx=>ch i none λi=>ch i.nat none λj=>
 ch r.1 (LQ x j r.2.size) λn=>cn (Nat.blt j n) (H7 x (Nat.mul j r.2.size)) none
def QQ(l:List UInt8)(j:Nat):Option aq:=ch (xt l j) none λb=>some (.i .u8 (.ofNat b.toNat))
def Y8(cs:List aq)(j n:Nat)(aG:ec):Option aq:=cn (Nat.beq (Nat.mul n aG.size) cs.length&&Nat.blt j n) (LS aG cs (Nat.mul j aG.size)) none
def H8(E:Env)(t:Nat)(x i:Option aq):Option aq:=match E t,x,i with
 |some { bO:=.string,.. },some (.s l),some i=>ch i.nat none λj=>QQ l j
 |some { bO:=.array n e,.. },some (.a cs),some i=>ch (E e) none λaG=>ch i.nat none λj=>Y8 cs j n aG
 |_,_,_=>none
def H9(o:Option (List aq)):Option aq:=ch o none λl=>some (.a l)
def Y9(E:Env)(t:Nat)(ps:Option (List (Nat×aq))):Option aq:=match E t,ps with
 |some i,some vs=>ch (y8 i.zero) none λz=>(match i.bO with
  | .struct cE=>cn (DI E cE) (H9 (AA (places E cE) z vs)) none| .array _ e=>ch (E e) none λaG=>H9 (AA (λj=>some (j*aG.size,aG.size)) z vs)
  |_=>none)
 |_,_=>none
def Y'(f:Fn)(cE cs:Option (List aq)):Option aq:=match f,cE,cs with
 | .func g,some cE,some cs=>some (.f g cE cs)| _,_,_=>none
def QR(aG:ec)(x:aq)(lo hi:Option Nat):Option aq:=match lo,hi with
 |none,none=>(match x with
  | .sn | .sl .. | .sx .. | .so=>some x| _=>none)
 |lo,hi=>QN x aG.size (lo.getD 0) hi
def QS(l:List UInt8)(lo hi:Option Nat):Option aq:=match lo,hi with
 |none,none=>some (.s l)| lo,hi=>cn (Nat.ble (lo.getD 0) (hi.getD l.length)&&Nat.ble (hi.getD l.length) l.length) (some (.s (QO l (lo.getD 0) (hi.getD l.length)))) none
def H'(E:Env)(t:Nat)(x:Option aq)(lo hi:Option (Option Nat)):Option aq:=match E t,x,lo,hi with
 |some { bO:=.slice e,.. },some x,some lo,some hi=>ch (E e) none λaG=>QR aG x lo hi
 |some { bO:=.string,.. },some (.s l),some lo,some hi=>QS l lo hi| _,_,_,_=>none
def Za(x:Option aq)(i:Nat):Option aq:=match x with
 |some (.t vs)=>xt vs i| _=>none
def Zb(E:Env)(s d:Nat)(x:Option aq):Option aq:=match E s,E d,x with
 |some _,some { bO:=.int k,.. },some (.i _ n)=>some (.i k (xr k n))| _,_,_=>none
def LU(o:Option Nat):Option aq:=ch o none λn=>some (.i .i64 (.ofNat n))
def Zc(E:Env)(ts:List Nat)(l:Option (List aq)):Option aq:=match ts,l with
 |[t],some [v]=>(match E t,v with
  |some { bO:=.slice _,.. },v=>LU (xv v)| some { bO:=.string,.. },.s l=>LU (some l.length)| some { bO:=.array n _,.. },_=>LU (some n)| _,_=>none)
 |_,_=>none
def Zd(l:Option (List aq)):Option aq:=match l with
 |some [.i k a,.i _ b]=>some (.i k (cn (CK a b) b a))| _=>none
def Ze(l:Option (List aq)):Option aq:=match l with
 |some [.i k a,.i _ b]=>some (.i k (cn (CK a b) a b))| _=>none
def Zf(E:Env)(ts:List Nat)(l:Option (List aq)):Option aq:=match ts,l with
 |[t],some [.sl _ _ _ c]=>(match E t with
  |some { bO:=.slice _,.. }=>some (.i .i64 (.ofNat c))| _=>none)
 |_,_=>none
def Zg(l:Option (List aq)):Option aq:=match l with
 |some [.sn]=>some .pn| some [.sl id off n c]=>cn (Nat.beq c 0) none (some (.p id off))| some [.sx id off e n]=>cn (Nat.beq n 0) none (some (.p id off))| _=>none
def QT(E:Env)(b:Builtin)(ts:List Nat)(l:Option (List aq)):Option aq:=match b with
 | .len=>Zc E ts l| .max=>Zd l| .min=>Ze l| .cap=>Zf E ts l| .unsafeSliceData=>Zg l| _=>none
def QU(P:Program)(E:Env)(G:GT)(m:bi fW)(op:Op)(al:bi aq):Option aq:=
 match op with
 | .move x=>dB al x| .assign x=>dB al x| .pick c a b=>Y0 (dB al c) (dB al a) (dB al b)| .unOp op _ x=>Y1 op (dB al x)| .binOp op t x y _=>Y2 P E op t (dB al x) (dB al y)| .load t x=>Y3 G m (E t) (dB al x)| .nilCheck x=>Y4 (dB al x)| .fieldAddr t x i=>Y5 (LR E t i) (dB al x)| .field t x i=>Y6 (LR E t i) (dB al x)| .indexAddr t x i=>Y7 (QP E t) (dB al x) (dB al i)| .index t x i=>H8 E t (dB al x) (dB al i)| .build t parts=>Y9 E t (EY al parts.toList)| .makeFunc f first captured=>Y' f (oV al first.toList) (oV al captured.toList)
 | .slice t x lo hi none=>H' E t (dB al x) (CO (lo.map (dB al))) (CO (hi.map (dB al)))| .extract x i=>Za (dB al x) i| .convert s d x=>Zb E s d (dB al x)| .call { callee:=.builtin b,args,argTypes }=>QT E b argTypes.toList (oV al args.toList)| _=>none
def QV(E:Env)(t:Nat)(x hi mx:Option aq):Option aq:=match E t,x,hi,mx with
 |some { bO:=.slice e,.. },some (.sl id off n c),some (.i _ (.ofNat h)),some (.i _ (.ofNat k))=>ch (E e) none λaG=>
  cn (Nat.ble h k&&(Nat.ble k c&&Nat.blt 0 k)) (some (.sl id off h k)) none
 |some { bO:=.slice e,.. },some (.sx id off aF n),some (.i _ (.ofNat h)),some (.i _ (.ofNat k))=>ch (E e) none λaG=>
  cn (Nat.ble h k&&(Nat.ble k n&&Nat.blt 0 k)) (some (.sl id off h k)) none
 |_,_,_,_=>none
def QW(E:Env)(t:Nat)(x lo hi mx:Option aq):Option aq:=match E t,x,lo,hi,mx with
 |some { bO:=.slice e,.. },some (.sl id off n c),some (.i _ (.ofNat l)),some (.i _ (.ofNat h)),some (.i _ (.ofNat k))=>ch (E e) none λaG=>
  cn (Nat.ble l h&&(Nat.ble h k&&(Nat.ble k c&&Nat.blt l k))) (some (.sl id (Nat.add off (Nat.mul l aG.size)) (Nat.sub h l) (Nat.sub k l))) none
 |_,_,_,_,_=>none
def QX(x:Option aq):Option aq:=match x with
 |some (.i .u64 n)=>some (.i .u64 (jC n))| _=>none
def v8(P:Program)(E:Env)(G:GT)(m:bi fW)(op:Op)(al:bi aq):Option aq:=
 match op with
 | .unOp .xor t x=>QX (dB al x)| .slice t x (some lo) (some hi) (some mx)=>QW E t (dB al x) (dB al lo) (dB al hi) (dB al mx)| .slice t x none (some hi) (some mx)=>QV E t (dB al x) (dB al hi) (dB al mx)| op=>QU P E G m op al
def si{R:Type}(n:Nat)(K:Nat->R):R:=Nat.casesOn (Nat.add n 1) (K 0) K
def Zh{R:Type}(n:Int)(K:Int->R):R:=match n with
 | .ofNat n=>si n λn=>K (.ofNat n)
 | .negSucc n=>si n λn=>K (.negSucc n)
def Zi{R:Type}(b:Bool)(K:Bool->R):R:=cn b (K true) (K false)
def QY{R:Type}(v:aq)(K:aq->R):R:=match v with
 | .b x=>Zi x λx=>K (.b x)
 | .i k n=>Zh n λn=>K (.i k n)
 | .p id off=>si off λoff=>K (.p id off)
 | .g id off=>si off λoff=>K (.g id off)
 | .sl id off n c=>si off λoff=>si n λn=>si c λc=>K (.sl id off n c)
 | .sx id off e n=>si off λoff=>si e λe=>si n λn=>K (.sx id off e n)
 |v=>K v
def CP{R:Type}(m:bp)(e:fW)(K:Nat->bp->R):R:=si m.n λn=>m.t.n' (some e) n λt=>K n ⟨t,Nat.add n 1⟩
def v9{R:Type}(m:bp)(l:List aq)(T:Nat)(K:Nat->bp->R):R:=bi.y7 l .nil 0 λcs=>CP m (.cells cs T l.length) K
def y'{R:Type}(m:bp)(x:aq)(l:List aq)(K:bp->Option R):Option R:=match x with
 | .p id off=>(match m.t.get id with
  |some (.cells cs T fh)=>bif Nat.ble (Nat.add off l.length) fh&&l.all aq.one then bi.y7 l cs off λcs=>m.t.n' (some (.cells cs T fh)) id λt=>K ⟨t,m.n⟩else none
  |_=>none)
 |_=>none
def CQ:Nat->List aq->List aq
 |0,_=>[]| n+1,z=>z++CQ n z
def EZ(i:Option ec):Bool:=match i with
 |some { bO:=.int .u8,.. }=>true| _=>false
def xw(u:Option ec)(aG:ec)(x:aq):Bool:=match u,x with
 |some { bO:=.slice _,.. },.sn=>true| some { bO:=.slice _,.. },.so=>true| some { bO:=.slice _,.. },.sl ..=>true| some { bO:=.slice _,.. },.sx ..=>true| some { bO:=.string,.. },.s _=>Nat.beq aG.size 1| _,_=>false
def E0(G:GT)(m:bi fW)(x:aq)(sz:Nat){R:Type}(K:List aq->Option R):Option R:=match x with
 | .sn | .so=>K []| .sl id off n _ | .sx id off _ n=>xu G m (.p id off) (Nat.mul n sz) K| .s l=>K (l.map λb=>.i .u8 (.ofNat b.toNat))| _=>none
def QZ(G:GT)(m:bp)(id off n c:Nat)(l:List aq)(k sz T:Nat):Option (aq×bp):=
 cn (Nat.ble (Nat.add n k) c) (y' m (.p id (Nat.add off (Nat.mul n sz))) l λm=>some (.sl id off (Nat.add n k) c,m)) (xu G m.t (.p id off) (Nat.mul n sz) λdg=>v9 m (dg++l) T λid m=>some (.sx id 0 0 (Nat.add n k),m))
def Q0(m:bp)(id:Nat)(n:Nat)(cs:bi aq)(fh:Nat)(l:List aq)(k sz T:Nat):Option (aq×bp):=
 cn (Nat.ble (Nat.mul n sz) fh) (m.t.n' none id λt=>bi.y7 l cs (Nat.mul n sz) λcs=>CP ⟨t,m.n⟩ (.cells cs T (Nat.mul (Nat.add n k) sz)) λid m=>some (.sx id 0 0 (Nat.add n k),m)) none
def AB(G:GT)(m:bp)(s:aq)(l:List aq)(k sz bytes T:Nat):Option (aq×bp):=match s with
 | .sn=>cn (Nat.ble (Nat.mul k bytes) 140737488355328&&Nat.ble k 9223372036854775807) (v9 m l T λid m=>some (.sx id 0 0 k,m)) none| .sl id off n c=>cn (Nat.ble (Nat.mul (Nat.add n k) bytes) 140737488355328&&Nat.ble (Nat.add n k) 9223372036854775807) (QZ G m id off n c l k sz T) none
 | .sx id off e n=>(match m.t.get id with
  |some (.cells cs jf fh)=>cn ((Nat.beq off 0&&Nat.beq e 0)&&(Nat.beq jf T&&(Nat.ble (Nat.mul (Nat.add n k) bytes) 140737488355328&&Nat.ble (Nat.add n k) 9223372036854775807))) (Q0 m id n cs fh l k sz T) none| _=>none)
 |_=>none
def E1:List aq->Option (List UInt8)
 |[]=>some []
 | .i .u8 (.ofNat n)::l=>bif Nat.ble n 255 then(match E1 l with
  |some r=>some (UInt8.ofNat n::r)| none=>none)else none
 |_=>none
def Ia:aq->List (aq×aq)->Option (Option aq)
 |_,[]=>some none
 |k,(x,v)::l=>match EW k x with
  |some true=>some (some v)| some false=>Ia k l| none=>none
def Ib(k v:aq):List (aq×aq)->Option (List (aq×aq))
 |[]=>some [(k,v)]
 |(x,u)::l=>match EW k x with
  |some true=>some ((k,v)::l)
  |some false=>(match Ib k v l with
   |some r=>some ((x,u)::r)| none=>none)
  |none=>none
abbrev mb:=Nat->List aq->bp->Option (aq×bp)
structure hh where
 P:Program
 E:Env
 G:GT
 pr:mb
def Zj(i:Option ec)(t:Nat)(x:Option aq):Option (List aq×Nat×Nat×(Nat->aq)):=ch i none λi=>ch x none λv=>cn (Nat.beq v.cells.length i.size) (some (v.cells,t,1,λid=>.p id 0)) none
def Zk(i:Option ec)(t:Nat):Option (List aq×Nat×Nat×(Nat->aq)):=ch i none λi=>ch (y8 i.zero) none λz=>some (z,t,1,λid=>.p id 0)
def Zl(E:Env)(t len:Nat)(ps:Option (List (Nat×aq))):Option (List aq×Nat×Nat×(Nat->aq)):=match E t,ps with
 |some { bO:=.slice e,.. },some vs=>ch (E e) none λaG=>ch (y8 aG.zero) none λz=>
  cn (Nat.ble (Nat.mul len aG.size) 16777216&&Nat.blt 0 (Nat.mul len aG.size)) (ch (AA (λj=>some (j*aG.size,aG.size)) (CQ len z) vs) none λcs=>some (cs,e,len,λid=>.sl id 0 len len)) (cn (Nat.beq len 0&&vs.isEmpty) (some ([],e,0,λid=>.sl id 0 0 0)) none)
 |_,_=>none
def Zm(E:Env)(t:Nat)(l c:Option aq):Option (List aq×Nat×Nat×(Nat->aq)):=match E t,l,c with
 |some { bO:=.slice e,.. },some l,some c=>ch (E e) none λaG=>ch l.nat none λn=>ch c.nat none λk=>ch (y8 aG.zero) none λz=>
  cn (Nat.ble n k&&(Nat.ble (Nat.mul aG.bytes k) 140737488355328&&Nat.ble k 9223372036854775807)) (some (CQ k z,e,k,λid=>.sl id 0 n k)) none
 |_,_,_=>none
def CR(E:Env)(o:Oper)(al:bi aq):Option (List aq×Nat×Nat×(Nat->aq)):=
 match o.op with
 | .box t x=>Zj (E t) t (dB al x)| .alloc t=>Zk (E t) t| .buildSlice t len parts=>Zl E t len (EY al parts.toList)| .makeSlice t l c=>Zm E t (dB al l) (dB al c)| _=>none
def LV(i:Option ec)(m:bp)(x y:Option aq):Option (aq×bp):=ch i none λi=>ch x none λx=>ch y none λv=>cn (Nat.beq v.cells.length i.size) (y' m x v.cells λm=>some (.t [],m)) none
def LW(i:Option ec)(m:bp):Option (aq×bp):=match i with
 |some { bO:=.map k e,.. }=>CP m (.map []) λid m=>some (.m id,m)
 |_=>none
def LX(i:Option ec)(v:aq):Bool:=match i,v with
 |some { bO:=.int k,.. },.i ed _=>IntKind.mT k ed| some { bO:=.string,.. },.s _=>true| _,_=>false
def Zn(ok:Bool)(z:aq)(r:Option aq):aq:=cn ok (ch r (.t [z,.b false]) λv=>.t [v,.b true]) (ch r z λv=>v)
def Q1(P:Program)(E:Env)(t:Nat)(m:bp)(x y:Option aq)(ok:Bool):Option (aq×bp):=match E t,x,y with
 |some { bO:=.map k e,.. },some (.m id),some y=>cn (LX (E k) y) (match m.t.get id with
  |some (.map es)=>ch (Ia y es) none λr=>ch (P.info? e) none λinf=>ch inf.zero none λz=>ch (EU z) none λz=>some (Zn ok z r,m)
  |_=>none) none
 |_,_,_=>none
def Ic(E:Env)(t:Nat)(m:bp)(x y z:Option aq):Option (aq×bp):=match E t,x,y,z with
 |some { bO:=.map k e,.. },some (.m id),some y,some v=>cn (LX (E k) y) (match m.t.get id with
  |some (.map es)=>ch (Ib y v es) none λes=>m.t.n' (some (.map es)) id λt=>some (.t [],⟨t,m.n⟩)
  |_=>none) none
 |_,_,_,_=>none
def LY(G:GT)(m:bp)(id off n:Nat):Option (aq×bp):=xu G m.t (.p id off) n λl=>ch (E1 l) none λl=>some (.s l,m)
def LZ(Y:hh)(m:bp)(s d:Nat)(x:Option aq):Option (aq×bp):=match Y.E s,Y.E d,x with
 |some { bO:=.slice e,.. },some { bO:=.string,.. },some (.sl id off n _)=>cn (EZ (Y.E e)) (LY Y.G m id off n) none| some { bO:=.slice e,.. },some { bO:=.string,.. },some (.sx id off _ n)=>cn (EZ (Y.E e)) (LY Y.G m id off n) none| some { bO:=.slice e,.. },some { bO:=.string,.. },some .sn=>cn (EZ (Y.E e)) (some (.s [],m)) none| _,_,_=>none
def E2:aq->Bool
 | .sn | .so | .sx ..=>true| .sl _ _ n c=>Nat.ble n c| _=>false
def Q2(Y:hh)(m:bp)(ts:List Nat)(l:Option (List aq)):Option (aq×bp):=match ts,l with
 |[t,u],some [s,x]=>(match Y.E t with
  |some { bO:=.slice e,.. }=>ch (Y.E e) none λaG=>cn (xw (Y.E u) aG x) (E0 Y.G m.t x aG.size λl=>ch (ti x) none λk=>
    cn (Nat.beq k 0) (cn (E2 s) (some (s,m)) none) (cn (l.all aq.one) (AB Y.G m s l k aG.size aG.bytes e) none)) none
  |_=>none)
 |_,_=>none
def Q3(Y:hh)(m:bp)(ts:List Nat)(l:Option (List aq)):Option (aq×bp):=match ts,l with
 |[t,u],some [.sl id off n c,.s q]=>(match Y.E t with
  |some { bO:=.slice e,.. }=>ch (Y.E e) none λaG=>cn (Nat.beq aG.size 1&&Nat.ble q.length n) (y' m (.p id off) (q.map λb=>.i .u8 (.ofNat b.toNat)) λm=>some (.i .i64 (.ofNat q.length),m)) none
  |_=>none)
 |_,_=>none
def Q4(Y:hh)(m:bp)(ts:List Nat)(l:Option (List aq)):Option (aq×bp):=match ts,l with
 |[vw,it],some [.pn,.i .i64 (.ofNat 0)]=>some (.s [],m)
 |[vw,it],some [.p id 0,.i .i64 (.ofNat n)]=>(match Y.E vw,m.t.get id with
  |some { bO:=.pointer e,.. },some (.cells cs T fh)=>ch (Y.E e) none λaG=>
   cn (Nat.beq aG.size 1&&(Nat.beq T e&&Nat.blt 0 n)) (xu Y.G m.t (.p id 0) n λl=>ch (E1 l) none λl=>cn (Nat.ble n 9223372036854775807) (m.t.n' none id λt=>some (.s l,⟨t,m.n⟩)) none) none
  |_,_=>none)
 |_,_=>none
def Zo(Y:hh)(m:bp)(b:Builtin)(ts:List Nat)(l:Option (List aq)):Option (aq×bp):=match b with
 | .append=>Q2 Y m ts l| .copy=>Q3 Y m ts l| .unsafeString=>Q4 Y m ts l| _=>none
def Q5(Y:hh)(m:bp)(o:Oper)(al:bi aq):Option (aq×bp):=
 match o.op with
 | .store t x y=>ch o.dst (LV (Y.E t) m (dB al x) (dB al y)) λ_=>none
 | .makeMap t none=>LW (Y.E t) m
 | .makeMap t (some x)=>(match dB al x with
  |some (.i _ _)=>LW (Y.E t) m| _=>none)
 | .lookup t x y ok=>Q1 Y.P Y.E t m (dB al x) (dB al y) ok| .mapUpdate t x y z=>ch o.dst (Ic Y.E t m (dB al x) (dB al y) (dB al z)) λ_=>none
 | .insert t x y z=>ch o.dst (Ic Y.E t m (dB al x) (dB al y) (dB al z)) λ_=>none
 | .convert s d x=>LZ Y m s d (dB al x)| .call { callee:=.builtin b,args,argTypes }=>Zo Y m b argTypes.toList (oV al args.toList)| _=>none
def lM(E:Env)(op:Op):Nat:=match op with
 | .move _ | .assign _ | .pick .. | .binOp .. | .load .. | .nilCheck _ | .fieldAddr .. | .field .. | .indexAddr .. | .index .. | .build .. | .makeFunc .. | .extract .. | .unOp .. | .slice ..=>0| .alloc _ | .box .. | .buildSlice .. | .makeSlice ..=>1
 | .convert s d _=>(match E d with
  |some { bO:=.int _,.. }=>0| _=>2)
 | .call { callee:=.builtin .len,argTypes,.. }=>(match argTypes.toList with
  |[t]=>(match E t with
   |some { bO:=.map ..,.. }=>2| _=>0)
  |_=>2)
 | .call { callee:=.builtin .cap,.. }=>0| .call { callee:=.builtin .max,.. }=>0| .call { callee:=.builtin .min,.. }=>0| .call { callee:=.builtin .unsafeSliceData,.. }=>0| _=>2
def qm{R:Type}(dst:Option Nat)(al:bi aq)(v:aq)(K:bi aq->Option R):Option R:=ch dst (K al) λd=>QY v λv=>al.n' (some v) d K
def Zp{R:Type}(call:aq->List aq->bp->Option (aq×bp))(dst:Option Nat)(f:Option aq)(l:Option (List aq))(al:bi aq)(m:bp)(K:bi aq->bp->Option R):Option R:=
 ch f none λf=>ch l none λl=>ch (call f l m) none λr=>cn (Nat.ble m.n r.2.n) (qm dst al r.1 λal=>K al r.2) none
def Zq{R:Type}(dst:Option Nat)(r:Option (List aq×Nat×Nat×(Nat->aq)))(al:bi aq)(m:bp)(K:bi aq->bp->Option R):Option R:=
 ch dst none λd=>ch r none λr=>v9 m r.1 r.2.1 λid m=>qm (some d) al (r.2.2.2 id) λal=>K al m
def Zr{R:Type}(dst:Option Nat)(v:Option aq)(al:bi aq)(m:bp)(K:bi aq->bp->Option R):Option R:=
 ch v none λv=>qm dst al v λal=>K al m
def Zs{R:Type}(dst:Option Nat)(n:Nat)(r:Option (aq×bp))(al:bi aq)(K:bi aq->bp->Option R):Option R:=
 ch r none λr=>cn (Nat.ble n r.2.n) (qm dst al r.1 λal=>K al r.2) none
def Zt{R:Type}(Y:hh)(k:Nat)(o:Oper)(al:bi aq)(m:bp)(K:bi aq->bp->Option R):Option R:=match k with
 |0=>Zr o.dst (v8 Y.P Y.E Y.G m.t o.op al) al m K| 1=>Zq o.dst (CR Y.E o al) al m K| _=>Zs o.dst m.n (Q5 Y m o al) al K
def AD{R:Type}(Y:hh)(call:aq->List aq->bp->Option (aq×bp))(o:Oper)(al:bi aq)(m:bp)(K:bi aq->bp->Option R):Option R:=
 match o.op with
 | .call { callee:=.value f,args,.. }=>Zp call o.dst (dB al f) (oV al args.toList) al m K| op=>Zt Y (lM Y.E op) o al m K
def CS{R:Type}(o:Oper)(al:bi aq)(K:bi aq->Option R):Option R:=match o.dst with
 |none=>K al| some d=>al.n' (some (.t [])) d K
def v'(ops:List Oper)(o:Oper)(al:bi aq):Option Bool:=match o.guard with
 |none=>some true
 |some (j,b)=>match(xt ops j).bind (·.dst)with
  |none=>none
  |some d=>match al.get d with
   |some (.b c)=>some (c == b)| some (.t _)=>some false| _=>none
def E3(Y:hh)(call:aq->List aq->bp->Option (aq×bp))(ops:List Oper)(l:List Oper):bi aq->bp->Option (bi aq×bp):=
 @List.rec Oper (λ_=>bi aq->bp->Option (bi aq×bp)) (λal m=>some (al,m)) (λo _ a7 al m=>ch (v' ops o al) none λw=>cn w (AD Y call o al m a7) (CS o al λal=>a7 al m)) l
def CT(E:Env)(ops:List Oper)(i:Nat):Nat:=ch (xt ops i) 2 λo=>lM E o.op
def za(E:Env)(ops:List Oper):List Nat:=(List.range ops.length).filter λi=>Nat.beq (CT E ops i) 2
def E4(es hr:List Nat)(i:Nat):Nat:=(es.filter λe=>(hr.getD i 0).testBit e).length
def mI(es hr:List Nat)(i:Nat):Nat:=(es.filter λe=>!(hr.getD e 0).testBit i).length
def Zu(E:Env)(ops:List Oper)(es hr:List Nat)(j:Nat):List (Nat×Nat):=((List.range ops.length).filter λi=>!Nat.beq (CT E ops i) 2&&Nat.beq (E4 es hr i) j).map λi=>(i,CT E ops i)
def Zv(E:Env)(ops:List Oper)(es hr:List Nat):List Nat->Nat->List (Nat×Nat)
 |[],j=>Zu E ops es hr j| e::l,j=>Zu E ops es hr j++(e,2)::Zv E ops es hr l (j+1)
def Ie(E:Env)(ops:List Oper):List (Nat×Nat):=Zv E ops (za E ops) (lx ops) (za E ops) 0
def xx(ops:List Oper):List (Nat×Nat)->Nat->Bool
 |[],k=>Nat.beq k (2^ops.length-1)
 |(i,_)::l,k=>!k.testBit i&&(match ops[i]? with
  |some o=>Gw o k&&xx ops l (k ||| 2^i)| none=>false)
def L0(hr:List Nat):List Nat->Bool
 |[]=>true| x::l=>l.all (λy=>(hr.getD y 0).testBit x)&&L0 hr l
def Zw(E:Env)(ops:List Oper):Bool:=D1 ops&&(xx ops (Ie E ops) 0&&(L0 (lx ops) (za E ops)&&(((Ie E ops).filter λr=>Nat.beq r.2 2).map (·.1) == za E ops)))
mutual
def E5:aq->aq->Bool
 | .b x,.b w=>x == w| .i k x,.i l w=>IntKind.mT k l&&np x w| .s x,.s w=>q' x w| .pn,.pn=>true| .p i x,.p j w=>Nat.beq i j&&Nat.beq x w| .g i x,.g j w=>Nat.beq i j&&Nat.beq x w| .sn,.sn=>true| .sl i x n c,.sl j w m d=>Nat.beq i j&&(Nat.beq x w&&(Nat.beq n m&&Nat.beq c d))| .sx i x n c,.sx j w m d=>Nat.beq i j&&(Nat.beq x w&&(Nat.beq n m&&Nat.beq c d))| .gs i x n c,.gs j w m d=>Nat.beq i j&&(Nat.beq x w&&(Nat.beq n m&&Nat.beq c d))| .mn,.mn=>true| .m i,.m j=>Nat.beq i j| .f g l r,.f h m s=>Nat.beq g h&&(xy l m&&xy r s)| .y i,.y j=>Nat.beq i j| .fn,.fn=>true| .ni,.ni=>true| .t l,.t m=>xy l m| .a l,.a m=>xy l m| _,_=>false
def xy:List aq->List aq->Bool
 |[],[]=>true| x::l,w::m=>E5 x w&&xy l m| _,_=>false
end
inductive rb where
 |made(i id:Nat)(l:List aq)(T:Nat)| load (i:Nat) (o:Oper) (al:bi aq) (v:aq)
def pA(Y:hh)(call:aq->List aq->bp->Option (aq×bp))(ops:List Oper):List (Nat×Nat)->bi aq->bp->List bp->List rb->Option (bi aq×bp×List bp×List rb)
 |[],al,m,S,A=>some (al,m,m::S,A)|(i,k)::bd,al,m,S,A=>ch (xt ops i) none λo=>ch (v' ops o al) none λw=>cn (Nat.beq (lM Y.E o.op) k) (cn w (cn (Nat.beq k 0) (ch (v8 Y.P Y.E Y.G m.t o.op al) none λv=>qm o.dst al v λdj=>pA Y call ops bd dj m S (cn (qB o.op) (.load i o al v::A) A)) (cn (Nat.beq k 1) (ch o.dst none λd=>ch (CR Y.E o al) none λr=>v9 m r.1 r.2.1 λid m=>qm (some d) al (r.2.2.2 id) λal=>pA Y call ops bd al m S (.made i id r.1 r.2.1::A)) (AD Y call o al m λal m'=>pA Y call ops bd al m' (m::S) A))) (CS o al λal=>pA Y call ops bd al m (cn (Nat.beq k 2) (m::S) S) A)) none
def E6(S:List bp)(lo hi:Nat)(p:bp->Bool):Bool:=((S.drop lo).take (hi+1-lo)).all p
def Q6(Y:hh)(o:Oper)(al:bi aq)(v:aq)(m:bp):Bool:=match v8 Y.P Y.E Y.G m.t o.op al with
 |some u=>E5 u v| none=>false
def Q7(id:Nat)(l:List aq)(T:Nat)(m:bp):Bool:=Nat.blt id m.n&&(match m.t.get id with
 |some (.cells cs jf fh)=>Nat.beq jf T&&(Nat.beq fh l.length&&(match cs.ET 0 l.length (λl'=>some l')with
  |some l'=>xy l l'| none=>false))
 |_=>false)
def Q8(Y:hh)(es hr:List Nat)(S:List bp):rb->Bool
 | .made i id l T=>E6 S (E4 es hr i) (mI es hr i) (Q7 id l T)| .load i o al v=>E6 S (E4 es hr i) (mI es hr i) (Q6 Y o al v)
def Q9(Y:hh)(call:aq->List aq->bp->Option (aq×bp))(ops:List Oper)(al:bi aq)(m:bp):Option (bi aq×bp):=
 cn (Zw Y.E ops) (match pA Y call ops (Ie Y.E ops) al m [] []with
  |none=>none| some (al,m,S,A)=>cn (A.all (Q8 Y (za Y.E ops) (lx ops) S.reverse)) (some (al,m)) none) none
def E7{R:Type}:List Nat->List aq->bi aq->(bi aq->Option R)->Option R
 |[],[],al,K=>K al| t::ps,v::vs,al,K=>al.n' (some v) t λal=>E7 ps vs al K
 |_,_,_,_=>none
def AE(Y:hh)(al:bi aq)(m:bi fW):List ResultVar->Option (List aq)
 |[]=>some []
 | .tmp t::l=>(match al.get t,AE Y al m l with
  |some v,some vs=>some (v::vs)| _,_=>none)
 | .cell t ty::l=>(match al.get t,Y.E ty,AE Y al m l with
  |some x,some i,some vs=>(match xu Y.G m x i.size λl=>EX i.bO.agg l with
   |some v=>some (v::vs)| none=>none)
  |_,_,_=>none)
abbrev qn:=vq×bi aq×bp
abbrev u0:=Bool->Nat->Code->bi aq->bp->Option qn
def Zx:List aq->aq
 |[v]=>v| vs=>.t vs
def L1(Y:hh)(al:bi aq)(m:bp)(bg:List ResultVar):Option (aq×bp):=ch (AE Y al m.t bg) none λvs=>some (Zx vs,m)
def Zy(Y:hh)(r:Option qn)(bg:List ResultVar):Option (aq×bp):=match r with
 |some (.normal,al,m)=>L1 Y al m bg| some (.ret,al,m)=>L1 Y al m bg| _=>none
def L2(Y:hh)(rec:u0)(g:Nat)(args:List aq)(m:bp):Option (aq×bp):=
 ch (Y.P.funcs[g]?) none λfn=>ch fn.body none λc=>cn (Nat.ble args.length fn.ntmps) (bi.y7 args (bi.bare 12) 0 λal=>Zy Y (rec true fn.ntmps c al m) fn.results.toList) none
def tj(Y:hh)(rec:u0)(g:Nat)(args:List aq)(m:bp):Option (aq×bp):=ch (Y.pr g args m) (L2 Y rec g args m) some
def Q'(l:Nat)(e:Option fW)(jump:Option Code)(m:bp):Option (aq×bp):=match e with
 |some (.loop true n nq ps fD body)=>m.t.n' (some (ch jump (.loop false n nq ps fD body) λc=>.done c n nq ps fD body)) l λt=>some (.b jump.isNone,⟨t,m.n⟩)
 |_=>none
def Zz(l:Nat)(r:Option qn):Option (aq×bp):=ch r none λr=>Q' l (r.2.2.t.get l) (D5 r.1) r.2.2
def Ra(rec:u0)(l n:Nat)(body:Code)(e:Option fW)(al:bi aq)(m:bp):Option (aq×bp):=match e with
 |some (.loop false et nq ps fD Rb)=>m.t.n' (some (.loop true et nq ps fD Rb)) l λt=>Zz l (rec false n body al ⟨t,m.n⟩)
 |_=>none
def ZA(rec:u0)(l n:Nat)(body:Code)(r:Option qn):Option (aq×bp):=match r with
 |some (.normal,al,m)=>Ra rec l n body (m.t.get l) al m| _=>none
def Rc(rec:u0)(l:Nat)(args:List aq)(m:bp):Option (aq×bp):=match m.t.get l with
 |some (.loop false n nq ps fD body)=>E7 ps args nq λal=>ZA rec l n body (rec false n fD al m)
 |_=>none
def L3(Y:hh)(rec:u0)(f:aq)(args:List aq)(m:bp):Option (aq×bp):=match f with
 | .f g l r=>tj Y rec g (l++(args++r)) m| .y l=>Rc rec l args m| _=>none
def Rd:Code->Option vq
 | .exit id=>some (.exit id)| .goto l=>some (.goto l)| .ret=>some .ret| _=>none
def If(r:Option qn)(k:bi aq->bp->Option qn):Option qn:=match r with
 |some (.normal,al,m)=>k al m| r=>r
def ZB(id:Nat)(r:Option qn):Option qn:=match r with
 |some (.exit j,al,m)=>cn (Nat.beq j id) (some (.normal,al,m)) (some (.exit j,al,m))| r=>r
def L4(r:Option (bi aq×bp)):Option qn:=ch r none λr=>some (.normal,r.1,r.2)
def ZC(v:Option aq)(x y:Option qn):Option qn:=match v with
 |some (.b b)=>cn b x y| _=>none
def Ig(rec:u0)(jb:Bool)(n:Nat)(c:Code)(k:Nat):Code->bi aq->bp->Option qn:=@Nat.rec (λ_=>Code->bi aq->bp->Option qn) (λ_ _ _=>none)
 (λ_ a7 x al m=>match rec jb n x al m with
  |some (.goto l,al,m)=>ch (findLabel c l) none λbd=>a7 bd al m
  |r=>r) k
def ZD(l:Nat)(al:bi aq)(r:Option (aq×bp)):Option qn:=ch r none λr=>match r.2.t.get l with
 |some (.loop false ..)=>r.2.t.n' none l λt=>some (.normal,al,⟨t,r.2.n⟩)
 |some (.done c ..)=>ch (Rd c) none λex=>r.2.t.n' none l λt=>some (ex,al,⟨t,r.2.n⟩)
 |_=>none
def Re(Y:hh)(rec:u0)(jb:Bool)(n:Nat)(v:Option aq)(ps:List Nat)(fD body:Code)(al:bi aq)(m:bp):Option qn:=match jb,v with
 |true,some (.f g [] r)=>CP m (.loop false n al ps fD body) λl m=>ZD l al (L2 Y rec g (.y l::r) m)
 |_,_=>none
def Rf(Y:hh)(f:Nat)(rec:u0):u0:=λjb n c al m=>match c with
 | .skip=>some (.normal,al,m)| .label _=>some (.normal,al,m)| .ret=>some (.ret,al,m)| .exit id=>some (.exit id,al,m)| .goto l=>some (.goto l,al,m)| .seq x y=>If (rec jb n x al m) (rec jb n y)| .block id c=>ZB id (rec jb n c al m)| .cond c x y=>ZC (dB al c) (rec jb n x al m) (rec jb n y al m)| .loop c=>If (rec jb n c al m) (rec jb n (.loop c))| .region _ ops false=>L4 (E3 Y (L3 Y rec) ops.toList ops.toList al m)| .region _ ops true=>L4 (Q9 Y (L3 Y rec) ops.toList al m)| .scope c=>Ig rec jb n c f c al m| .rangeFunc x ps fD body=>Re Y rec jb n (dB al x) ps.toList fD body al m| .refuse _=>none
def j4(Y:hh)(f:Nat):u0:=@Nat.rec (λ_=>u0) (λ_ _ _ _ _=>none) (λf a7=>Rf Y f a7) f
end
section
variable{α R:Type}
def kE(b:Bool)(x y:α):cn b x y=bif b then x else y:=by cases b<;>rfl
def c1{o:Option α}{f:α->Option R}{r:R}(h:ch o none f=some r):∃ v,o=some v/\f v=some r:=by
 cases o with
 |none=>cases h| some v=>exact⟨v,rfl,h⟩
def g1{x:Option α}{r:α}(h:cn b x none=some r):b=true/\x=some r:=by
 cases b with
 |true=>exact⟨rfl,h⟩| false=>cases h
def AF{x:Option α}{r:α}(h:cn b none x=some r):b=false/\x=some r:=by
 cases b with
 |false=>exact⟨rfl,h⟩| true=>cases h
def bi.Ih(x:Option α)(l r:bi α)(k:Nat):(bi.node x l r).get k=bif Nat.beq k 0 then x else bif Nat.beq (k%2) 1 then l.get (k/2)else r.get (k/2-1):=by show cn _ _ (cn _ _ _)=_;rw[kE,kE];rfl
def bi.pB(v:Option α):∀ (t:bi α) (k:Nat),∃ dt:bi α,(∀ {R:Type} (K:bi α->R),t.n' v k K=K dt)/\∀ j x,dt.get j=some x->(j=k/\v=some x)\/(j≠k/\t.get j=some x)
 | .nil,k=>by
  cases ae:Nat.beq k 0 with
  |true=>
   have:=cK ae;subst this;refine⟨.node v .nil .nil,λK=>rfl,λj x h=>?_⟩;rw[bi.Ih]at h;cases aj:Nat.beq j 0 with
   |true=>rw[aj]at h;exact .inl ⟨cK aj,h⟩
   |false=>
    rw[aj]at h;cases hm:Nat.beq (j%2) 1<;>(rw[hm]at h;cases h)
  |false=>refine⟨.nil,λK=>?_,λj x h=>by cases h⟩;show cn _ _ _=_;rw[kE,ae];rfl
 | .node x l r,k=>by
  cases ae:Nat.beq k 0 with
  |true=>
   have:=cK ae;subst this;refine⟨.node v l r,λK=>rfl,λj y h=>?_⟩;rw[bi.Ih]at h |-;cases aj:Nat.beq j 0 with
   |true=>rw[aj]at h;exact .inl ⟨cK aj,h⟩| false=>rw[aj]at h;exact .inr ⟨(λe=>by subst e;cases aj),h⟩
  |false=>
   have cZ:k≠0:=λe=>by subst e;cases ae
   cases hm:Nat.beq (k%2) 1 with
   |true=>
    have qH:=cK hm;obtain⟨l',U,aa⟩:=bi.pB v l (k/2);refine⟨.node x l' r,λK=>?_,λj y h=>?_⟩;·show cn _ _ (cn _ _ _)=_;rw[kE,kE,ae];show(bif Nat.beq (k%2) 1 then _ else _)=_;rw[hm];exact U _
    ·rw[bi.Ih]at h |-;cases aj:Nat.beq j 0 with
     |true=>rw[aj]at h;exact .inr ⟨λe=>by have:=cK aj;omega,h⟩
     |false=>
      rw[aj]at h;have ajI:j≠0:=λe=>by subst e;cases aj
      cases u1:Nat.beq (j%2) 1 with
      |true=>
       have ajJ:=cK u1;rw[u1]at h;rcases aa _ _ h with⟨e,ak⟩ | ⟨e,ak⟩;·exact .inl ⟨by omega,ak⟩
       ·exact .inr ⟨λbA=>e (by rw[bA]),ak⟩
      |false=>rw[u1]at h;exact .inr ⟨(λe=>by subst e;rw[hm]at u1;cases u1),h⟩
   |false=>
    have qH:k%2≠1:=λe=>by rw[e]at hm;cases hm
    obtain⟨vr,U,aa⟩:=bi.pB v r (k/2-1);refine⟨.node x l vr,λK=>?_,λj y h=>?_⟩;·show cn _ _ (cn _ _ _)=_;rw[kE,kE,ae];show(bif Nat.beq (k%2) 1 then _ else _)=_;rw[hm];exact U _
    ·rw[bi.Ih]at h |-;cases aj:Nat.beq j 0 with
     |true=>rw[aj]at h;exact .inr ⟨λe=>by have:=cK aj;omega,h⟩
     |false=>
      rw[aj]at h;have ajI:j≠0:=λe=>by subst e;cases aj
      cases u1:Nat.beq (j%2) 1 with
      |true=>rw[u1]at h;exact .inr ⟨(λe=>by subst e;rw[hm]at u1;cases u1),h⟩
      |false=>
       have ajJ:j%2≠1:=λe=>by rw[e]at u1;cases u1
       rw[u1]at h;rcases aa _ _ h with⟨e,ak⟩ | ⟨e,ak⟩;·exact .inl ⟨by omega,ak⟩
       ·exact .inr ⟨λbA=>e (by rw[bA]),ak⟩
def bi.E8(t:bi α):∀ (n off:Nat) (K:List α->Option R) (r:R),t.ET off n K=some r->∃ l,l.length=n/\(∀ i,i<n->t.get (off+i)=l[i]?)/\K l=some r
 |0,off,K,r,h=>⟨[],rfl,λi hi=>by omega,h⟩
 |n+1,off,K,r,h=>by
  have be:ch (t.get off) none (λv=>t.ET (off+1) n λl=>K (v::l))=some r:=h;obtain⟨v,ak,be⟩:=c1 be;obtain⟨l,U,aa,af⟩:=bi.E8 t n (off+1) _ r be;refine⟨v::l,by simp[U],λi hi=>?_,af⟩;cases i with
  |zero=>simpa using ak| succ i=>have:=aa i (by omega);rw[show off+(i+1)=off+1+i by omega,this];simp
def bi.zb:∀ (l:List α) (t:bi α) (off:Nat),∃ dt:bi α,(∀ {R:Type} (K:bi α->R),bi.y7 l t off K=K dt) /\ ∀ j x,dt.get j=some x->(off<=j/\l[j-off]?=some x)\/((j<off\/off+l.length<=j)/\t.get j=some x)
 |[],t,off=>⟨t,λK=>rfl,λj x h=>.inr ⟨by simp;omega,h⟩⟩
 |v::l,t,off=>by
  obtain⟨t1,U,aa⟩:=bi.pB (some v) t off;obtain⟨t2,af,aP⟩:=bi.zb l t1 (off+1);refine⟨t2,λK=>(U _).trans (af K),λj x h=>?_⟩;rcases aP j x h with⟨aV,a3⟩ | ⟨aV,a3⟩;·exact .inl ⟨by omega,by rw[show j-off=(j-(off+1))+1 by omega];simpa using a3⟩
  ·rcases aa j x a3 with⟨rfl,e⟩ | ⟨e,bW⟩
   ·exact .inl ⟨bY _,by simp at e;simp[e]⟩
   ·exact .inr ⟨by simp only[eQ];omega,bW⟩
end
def Rg(n:Nat)(K:Nat->R):si n K=K n:=rfl
def ajK(n:Int)(K:Int->R):Zh n K=K n:=by cases n<;>rfl
def ajL(b:Bool)(K:Bool->R):Zi b K=K b:=by cases b<;>rfl
def ajM(v:aq)(K:aq->R):QY v K=K v:=by
 cases v with
 |b x=>exact ajL x λx=>K (.b x)
 |i k n=>exact ajK n λn=>K (.i k n)
 |_=>rfl
def Rh(a b:Nat):Nat.beq a b=decide (a=b):=by
 by_cases h:a=b
 ·subst h;simp
 ·rw[hy h];simp[h]
def L5(a b:Nat):Nat.ble a b=decide (a<=b):=by
 by_cases h:a<=b
 ·rw[Cs h];simp[h]
 ·cases ah:Nat.ble a b with
  |false=>simp[h]| true=>exact absurd (b0 ah) h
def zc(a b:Int):np a b=decide (a=b):=by
 cases a<;>cases b<;>simp only[np,Rh]<;>simp
 omega
def L6(a b:Int):CK a b=decide (a<=b):=by
 cases a<;>cases b<;>simp only[CK]
 ·rw[L5];simp only[LM];exact Int.ofNat_le.symm
 ·symm;simp only[ow];rename_i a b;have:=Int.negSucc_lt_zero b;have:(0:Int)<=Int.ofNat a:=QC a;omega
 ·symm;simp only[e5];rename_i a b;have:=Int.negSucc_lt_zero a;have:(0:Int)<=Int.ofNat b:=QC b;omega
 ·rw[L5];simp only[LM,Int.negSucc_eq];omega
def ajN(a b:Int):DK a b=decide (a<b):=by
 unfold DK;rw[L6];by_cases h:a<b
 ·simp[h]
 ·simp[h];omega
def ajO(op:BinOp)(x y:Int):QD op x y=yd op x y:=by cases op<;>simp only[QD,yd,zc,ajN,L6]
def AG(k:IntKind)(n:Int):xr k n=k.wrap n:=by
 cases n with
 |negSucc n=>rfl
 |ofNat n=>
  simp only[xr];cases h:Nat.ble n (LO k)with
  |false=>rfl
  |true=>
   have be:=b0 h;simp only[bh];cases k<;>simp only[LO]at be<;>simp only[IntKind.wrap,IntKind.signed,IntKind.bits]<;>simp<;>omega
def ajP(a b:Int):YT a b=a+b:=by cases a<;>cases b<;>rfl
def ajQ(a b:Int):QE a b=a-b:=by
 cases a<;>cases b<;>try rfl
 rename_i a b;simp only[QE];cases h:Nat.ble b a with
 |false=>rfl| true=>have:=b0 h;show((a-b:Nat):Int)=(a:Int)-b;omega
def ajR(a b:Int):YU a b=a*b:=by cases a<;>cases b<;>rfl
def ajS(a b:Int):YV a b=a.tdiv b:=by cases a<;>cases b<;>rfl
def ajT(a b:Int):YW a b=a.tmod b:=by cases a<;>cases b<;>rfl
def ajU(a:Int)(j:Nat):YX a j=a*2^j:=by
 cases a with
 |negSucc a=>rfl| ofNat a=>show((a*2^j:Nat):Int)=(a:Int)*2^j;simp
def ajV(a:Int)(j:Nat):YY a j=a.fdiv (2^j):=by
 cases a with
 |negSucc a=>rfl| ofNat a=>show((a/2^j:Nat):Int)=(a:Int).fdiv (2^j);rw[show(2:Int)^j=((2^j:Nat):Int) by simp];rw[GQ _ (QC _)];simp
def ZE(j b:Nat):(bif Nat.ble j b then j else b)=min j b:=by
 rw[L5];by_cases h:j<=b
 ·simp[h,pO h]
 ·simp[h];omega
def AH{a:Nat}(h:a<=18446744073709551615):(BitVec.ofInt IntKind.u64.bits (Int.ofNat a)).toNat=a:=by show(BitVec.ofInt 64 (a:Int)).toNat=a;rw[BitVec.ofInt_natCast,Ct];omega
def wrap64{a:Nat}(h:a<=18446744073709551615):IntKind.u64.wrap (a:Int)=Int.ofNat a:=by show IntKind.u64.wrap (.ofNat a)=_;rw[<-AG];simp only[xr,LO,Cs h,bh]
def L7{op:BinOp}{k:IntKind}{x y r:Int}(h:EV op k x y=some r):vj op k x y=some r:=by
 unfold EV at h;split at h
 ·rename_i a b;cases aN:(Nat.ble a 18446744073709551615&&Nat.ble b 18446744073709551615)with
  |false=>rw[aN]at h;cases h
  |true=>
   rw[aN]at h;rw[cp]at aN;have aE:=b0 aN.1;have ah:=b0 aN.2;have n5:a<2^64:=by omega
   have L8:b<2^64:=by omega
   simp only[bh]at h;split at h;·rw[<-h];simp only[vj,GU,AH aE,AH ah];rw[wrap64 (by have:=Nat.and_lt_two_pow a L8;omega)];rfl
   ·rw[<-h];simp only[vj,BitVec.toNat_or,AH aE,AH ah];rw[wrap64 (by have:=Nat.or_lt_two_pow n5 L8;omega)];rfl
   ·rw[<-h];simp only[vj,BitVec.toNat_xor,AH aE,AH ah];rw[wrap64 (by have:=Nat.xor_lt_two_pow n5 L8;omega)];rfl
   ·rw[<-h];have aw:(~~~(BitVec.ofInt IntKind.u64.bits (Int.ofNat b))).toNat=18446744073709551615-b:=by rw[BitVec.toNat_not,AH ah];rfl
    simp only[vj,GU,AH aE,aw];rw[wrap64 (by have:=Nat.and_lt_two_pow a (show 18446744073709551615-b<2^64 by omega);omega)];rfl
   ·cases h
 ·exact h
def ajW(a b:UInt8):QF a b=decide (a=b):=by unfold QF;rw[Rh];simp only[LM];exact UInt8.toNat_inj
def CU:∀ (l m:List UInt8),q' l m=decide (l=m)
 |[],[]=>by simp[q']
 |[],_::_=>by simp[q']
 |_::_,[]=>by simp[q']
 |a::l,b::m=>by
  simp only[q',ajW,CU l m];by_cases h:a=b;·subst h;simp
  ·simp[h]
def AI{α:Type}:∀ (l:List α) (n:Nat),xt l n=l[n]?
 |[],n=>by simp[xt]
 |v::l,n=>by
  unfold xt;cases n with
  |zero=>rfl| succ n=>exact(AI l n).trans (by simp)
def Ii{α:Type}:∀ (l:List α) (n:Nat),CM l n=l.drop n
 |[],n=>by simp[CM]
 |v::l,n=>by
  unfold CM;cases n with
  |zero=>rfl| succ n=>exact(Ii l n).trans (by simp)
def ZF{n:Nat}{l r:List aq}(h:CL n l=some r):r=l.take n/\r.length=n:=by
 induction n generalizing l r with
 |zero=>simp[CL]at h;subst h;simp
 |succ n a7=>
  cases l with
  |nil=>simp[CL]at h
  |cons v l=>
   simp only[CL]at h;split at h;·rename_i q ay;obtain⟨rfl,aa⟩:=a7 ay;cases h;simp at aa |-;omega
   ·cases h
structure Loc where
 b:Nat
 o:Nat
 c:Nat
abbrev bR:=Nat->Option Loc
def bR.le(D bD:bR):Prop:=∀ i a,D i=some a->bD i=some a
mutual
def aT(D:bR):aq->Value->Prop
 | .b x,u=>u=.bool x| .i k n,u=>u=.int k n| .s l,u=>u=.string ⟨l.toArray⟩| .pn,u=>u=.pointer none| .p id off,u=>∃ a,D id=some a/\u=.pointer (some ⟨a.b,a.o+off,none⟩)| .g n off,u=>u=.pointer (some ⟨n,off,none⟩)| .sn,u=>u=.slice none 0 0| .sl id off n c,u=>∃ a,D id=some a/\u=.slice (some ⟨a.b,a.o+off,none⟩) n c| .sx id off e n,u=>∃ a,D id=some a/\e+n<=a.c/\u=.slice (some ⟨a.b,a.o+off,none⟩) n (a.c-e)| .gs n off k c,u=>u=.slice (some ⟨n,off,none⟩) k c| .so,u=>∃ a c,u=.slice (some a) 0 c| .mn,u=>u=.map none| .m id,u=>∃ a,D id=some a/\u=.map (some a.b)| .f g l r,u=>∃ vs ws,bT D l vs/\bT D r ws/\u=.func (.func g) vs.toArray ws.toArray| .y id,u=>∃ a,D id=some a/\u=.func (.yield a.b) #[] #[]| .fn,u=>u=.nilFunc| .ni,u=>u=.nilIface| .H5 t v,u=>∃ x,aT D v x/\u=.iface t x| .t l,u=>∃ vs,bT D l vs/\u=.tuple vs.toArray| .a l,u=>∃ vs,bT D l vs/\u=.agg vs.toArray
def bT(D:bR):List aq->List Value->Prop
 |[],us=>us=[]| v::l,us=>∃ x xs,aT D v x/\bT D l xs/\us=x::xs
end
section
variable{D bD:bR}
mutual
def aT.mono(h:D.le bD):∀ {v:aq} {u:Value},aT D v u->aT bD v u
 | .b _,_,ak | .i _ _,_,ak | .s _,_,ak | .pn,_,ak | .g _ _,_,ak | .sn,_,ak | .gs ..,_,ak | .so,_,ak | .mn,_,ak | .fn,_,ak | .ni,_,ak=>by simpa only[aT]using ak
 | .p ..,_,ak | .sl ..,_,ak | .m _,_,ak | .y _,_,ak=>by simp only[aT]at ak |-;obtain⟨a,U,aa⟩:=ak;exact⟨a,h _ _ U,aa⟩
 | .sx ..,_,ak=>by simp only[aT]at ak |-;obtain⟨a,U,aa⟩:=ak;exact⟨a,h _ _ U,aa⟩
 | .f _ l r,_,ak=>by simp only[aT]at ak |-;obtain⟨vs,ws,U,aa,af⟩:=ak;exact⟨vs,ws,bT.mono h U,bT.mono h aa,af⟩
 | .H5 _ v,_,ak=>by simp only[aT]at ak |-;obtain⟨x,U,aa⟩:=ak;exact⟨x,aT.mono h U,aa⟩
 | .t l,_,ak=>by simp only[aT]at ak |-;obtain⟨x,U,aa⟩:=ak;exact⟨x,bT.mono h U,aa⟩
 | .a l,_,ak=>by simp only[aT]at ak |-;obtain⟨x,U,aa⟩:=ak;exact⟨x,bT.mono h U,aa⟩
def bT.mono(h:D.le bD):∀ {l:List aq} {us:List Value},bT D l us->bT bD l us
 |[],_,ak=>by simpa only[bT]using ak
 |v::l,_,ak=>by simp only[bT]at ak |-;obtain⟨x,xs,U,aa,af⟩:=ak;exact⟨x,xs,aT.mono h U,bT.mono h aa,af⟩
end
def bT.nil:bT D [] []:=by simp[bT]
def bT.cons{v:aq}{l:List aq}{x:Value}{xs:List Value}(h:aT D v x)(k:bT D l xs):bT D (v::l) (x::xs):=by simp only[bT];exact⟨x,xs,h,k,rfl⟩
def bT.kV{v:aq}{l:List aq}{us:List Value}(h:bT D (v::l) us):∃ x xs,aT D v x/\bT D l xs/\us=x::xs:=by simpa only[bT]using h
def bT.oa{us:List Value}(h:bT D [] us):us=[]:=by simpa only[bT]using h
def bT.len:∀ {l:List aq} {us:List Value},bT D l us->us.length=l.length
 |[],_,h=>by rw[h.oa];rfl
 |v::l,_,h=>by obtain⟨x,xs,U,aa,rfl⟩:=h.kV;simp[bT.len aa]
def bT.get:∀ {l:List aq} {us:List Value} {i:Nat} {v:aq},bT D l us->l[i]?=some v->∃ x,us[i]?=some x/\aT D v x
 |[],_,i,v,h,hi=>by simp at hi
 |w::l,_,i,v,h,hi=>by
  obtain⟨x,xs,U,aa,rfl⟩:=h.kV;cases i with
  |zero=>simp at hi;subst hi;exact⟨x,rfl,U⟩| succ i=>simpa using bT.get aa (by simpa using hi)
def bT.Ri:∀ {l:List aq} {us:List Value},us.length=l.length->(∀ (i:Nat) (v:aq),l[i]?=some v->∃ x,us[i]?=some x/\aT D v x)->bT D l us
 |[],us,ap,h=>by have:us=[]:=iT (by simpa using ap);subst this;exact .nil
 |w::l,us,ap,h=>by
  cases us with
  |nil=>simp at ap| cons x xs=>obtain⟨y,aH,U⟩:=h 0 w rfl;simp at aH;subst aH;exact .cons U (bT.Ri (by simpa using ap) λi v hi=>by simpa using h (i+1) v (by simpa using hi))
def bT.append:∀ {l:List aq} {us:List Value} {m:List aq} {ws:List Value},bT D l us->bT D m ws->bT D (l++m) (us++ws)
 |[],_,m,ws,h,k=>by rw[h.oa];exact k
 |w::l,_,m,ws,h,k=>by obtain⟨x,xs,U,aa,rfl⟩:=h.kV;exact .cons U (bT.append aa k)
def bT.take:∀ {l:List aq} {us:List Value} (n:Nat),bT D l us->bT D (l.take n) (us.take n)
 |[],_,n,h=>by rw[h.oa];simpa using bT.nil
 |w::l,_,n,h=>by
  obtain⟨x,xs,U,aa,rfl⟩:=h.kV;cases n with
  |zero=>simpa using bT.nil| succ n=>simpa using bT.cons U (bT.take n aa)
def bT.drop:∀ {l:List aq} {us:List Value} (n:Nat),bT D l us->bT D (l.drop n) (us.drop n)
 |[],_,n,h=>by rw[h.oa];simpa using bT.nil
 |w::l,us,n,h=>by
  cases n with
  |zero=>simpa using h| succ n=>obtain⟨x,xs,U,aa,rfl⟩:=h.kV;simpa using bT.drop n aa
def bT.oG{l:List aq}{us:List Value}(h:bT D l us):∀ n,bT D (CQ n l) ((List.replicate n us).flatten)
 |0=>by simpa[CQ]using bT.nil
 |n+1=>by rw[vR,Pd];exact h.append (bT.oG h n)
def aT.bool{x:Bool}{u:Value}(h:aT D (.b x) u):u=.bool x:=by simpa only[aT]using h
def aT.int{k:IntKind}{n:Int}{u:Value}(h:aT D (.i k n) u):u=.int k n:=by simpa only[aT]using h
def aT.str{l:List UInt8}{u:Value}(h:aT D (.s l) u):u=.string ⟨l.toArray⟩:=by simpa only[aT]using h
def aT.ptr{id off:Nat}{u:Value}(h:aT D (.p id off) u):∃ a,D id=some a/\u=.pointer (some ⟨a.b,a.o+off,none⟩):=by simpa only[aT]using h
def aT.rc{id off:Nat}{u:Value}(h:aT D (.g id off) u):u=.pointer (some ⟨id,off,none⟩):=by simpa only[aT]using h
def aT.tk{id off n c:Nat}{u:Value}(h:aT D (.sl id off n c) u):∃ a,D id=some a/\u=.slice (some ⟨a.b,a.o+off,none⟩) n c:=by simpa only[aT]using h
def aT.wa{id off e n:Nat}{u:Value}(h:aT D (.sx id off e n) u):∃ a,D id=some a/\e+n<=a.c/\u=.slice (some ⟨a.b,a.o+off,none⟩) n (a.c-e):=by simpa only[aT]using h
def aT.Rj{id off n c:Nat}{u:Value}(h:aT D (.gs id off n c) u):u=.slice (some ⟨id,off,none⟩) n c:=by simpa only[aT]using h
def aT.L9{u:Value}(h:aT D .so u):∃ a c,u=.slice (some a) 0 c:=by simpa only[aT]using h
def aT.CV{u:Value}(h:aT D .sn u):u=.slice none 0 0:=by simpa only[aT]using h
def aT.agg{l:List aq}{u:Value}(h:aT D (.a l) u):∃ vs,bT D l vs/\u=.agg vs.toArray:=by simpa only[aT]using h
def aT.Rk{l:List aq}{u:Value}(h:aT D (.t l) u):∃ vs,bT D l vs/\u=.tuple vs.toArray:=by simpa only[aT]using h
def aT.L'{l:List aq}(h:bT D l vs):aT D (.a l) (.agg vs.toArray):=by simp only[aT];exact⟨vs,h,rfl⟩
def aT.Ma{l:List aq}(h:bT D l vs):aT D (.t l) (.tuple vs.toArray):=by simp only[aT];exact⟨vs,h,rfl⟩
def aT.undef:aT D (.t []) undef:=by simp only[aT];exact⟨[],.nil,rfl⟩
def aT.cells{v:aq}{u:Value}(h:aT D v u):bT D v.cells u.cells.toList:=by
 cases v<;>simp only[aq.cells]
 case a l=>obtain⟨vs,U,rfl⟩:=h.agg;simpa[Value.cells]using U
 all_goals
  have key:∀ w:Value,(∀ cs,w≠.agg cs)->w.cells.toList=[w]:=λw hw=>by cases w<;>first | rfl | exact(hw _ rfl).elim
  rw[key u ?_];·exact .cons h .nil
  ·rintro cs rfl;simp[aT]at h
def aT.one{v:aq}{u:Value}(h:aT D v u)(au:v.one=true):u.oneCell'=true:=by
 cases v<;>simp only[aq.one,lq]at au<;>simp only[aT]at h
 all_goals first
  |(subst h;rfl)|(obtain⟨_,_,rfl⟩:=h;rfl)|(obtain⟨_,_,_,rfl⟩:=h;rfl)|(obtain⟨_,_,_,_,rfl⟩:=h;rfl)
def bT.one{l:List aq}{us:List Value}(h:bT D l us)(au:l.all aq.one=true):gU us=true:=by refine gh.2 λx ab=>?_;obtain⟨i,hi⟩:=LL ab;have aS:=(kc.1 hi).1;rw[h.len]at aS;obtain⟨y,aH,ak⟩:=h.get (eR aS);rw[hi]at aH;cases aH;exact ak.one (gh.1 au _ (cC aS))
def aT.ZG{u:Value}{v:aq}(h:H6 u=some v):aT D v u:=by
 unfold H6 at h;split at h<;>cases h<;>simp[aT]
def bT.E9:∀ {us:List Value} {l:List aq},y8 us=some l->bT D l us
 |[],l,h=>by simp only[y8]at h;cases h;exact .nil
 |u::us,l,h=>by
  simp only[y8]at h;split at h;·rename_i x m U aa;cases h;exact .cons (.ZG U) (bT.E9 aa)
  ·cases h
def aT.of{u:Value}{v:aq}(h:EU u=some v):aT D v u:=by
 unfold EU at h;split at h
 ·split at h
  ·rename_i l ap;cases h;have:=bT.E9 (D:=D) ap;simpa using aT.L' this
  ·cases h
 ·exact .ZG h
def Mb{agg:Bool}{l:List aq}{v:aq}(h:EX agg l=some v)(ap:bT D l vs):aT D v (pack agg vs):=by
 unfold EX at h;cases agg with
 |true=>simp only[bh]at h;cases h;exact .L' ap
 |false=>
  simp only[bf]at h;split at h;·cases h;obtain⟨x,xs,U,aa,rfl⟩:=ap.kV;rw[aa.oa];exact U
  ·cases h
def Rl:∀ {cs:List aq} {off:Nat} {vs r:List aq} {us xs:List Value},y9 cs off vs=some r->bT D cs us->bT D vs xs->bT D r (bK us off xs)/\off+xs.length<=us.length
 |cs,0,[],r,us,xs,h,aN,ak=>by simp[y9]at h;subst h;rw[ak.oa];exact⟨by simpa[bK]using aN,by simp⟩
 |[],0,_::_,r,us,xs,h,aN,ak=>by simp[y9]at h
 |[],_+1,_,r,us,xs,h,aN,ak=>by simp[y9]at h
 |c::cs,0,v::vs,r,us,xs,h,aN,ak=>by
  simp only[y9]at h;split at h
  ·rename_i q ay;cases h;obtain⟨x,us,U,aa,rfl⟩:=aN.kV;obtain⟨y,xs,af,aP,rfl⟩:=ak.kV;obtain⟨bq,bj⟩:=Rl ay aa aP;refine⟨?_,by simp at bj |-;omega⟩;have e:bK (x::us) 0 (y::xs)=y::bK us 0 xs:=by simp[bK]
   rw[e];exact .cons af bq
  ·cases h
 |c::cs,n+1,vs,r,us,xs,h,aN,ak=>by
  simp only[y9]at h;split at h
  ·rename_i q ay;cases h;obtain⟨x,us,U,aa,rfl⟩:=aN.kV;obtain⟨bq,bj⟩:=Rl ay aa ak;refine⟨?_,by simp;omega⟩;have e:bK (x::us) (n+1) xs=x::bK us n xs:=by simp only[bK,pU,rU,w7,true_and];rw[show n+1+xs.length=(n+xs.length)+1 by omega,H4]
   rw[e];exact .cons U bq
  ·cases h
inductive Ij(D:bR):List (Nat×aq)->List (Nat×Value)->Prop
 |nil:Ij D [] []| cons {i v u l us} (h:aT D v u) (k:Ij D l us):Ij D ((i,v)::l) ((i,u)::us)
def Mc{place:Nat->Option (Nat×Nat)}:∀ {vs:List (Nat×aq)} {cells r:List aq} {us:List Value} {xs:List (Nat×Value)},AA place cells vs=some r->bT D cells us->Ij D vs xs -> ∃ bg,tM place us xs=some bg/\bT D r bg
 |[],cells,r,us,_,h,aN,.nil=>by simp only[AA]at h;cases h;exact⟨us,rfl,aN⟩
 |(i,v)::vs,cells,r,us,_,h,aN,.cons (u:=u) (us:=xs) ak iS=>by
  simp only[AA]at h;split at h;·cases h
  ·rename_i off size aD;cases ah:Nat.beq v.cells.length size with
   |false=>rw[ah]at h;cases h
   |true=>
    rw[ah]at h;simp only[bh]at h;split at h
    ·rename_i cs mo;obtain⟨U,aa⟩:=Rl mo aN ak.cells;obtain⟨bg,af,aP⟩:=Mc h U iS;refine⟨bg,?_,aP⟩;have ap:u.cells.size=v.cells.length:=by simpa using ak.cells.len
     simp only[tM,aD,ap,ah];rw[show Nat.ble (off+size) us.length=true by rw[L5,e5];have:=cK ah;simp at aa;omega];exact af
    ·cases h
end
def gx(D:bR)(x:dQ)(v:aq):Prop:=(∃ u,x=.val u/\aT D v u)\/∃ q,v=.b q/\x=.lit q
def gx.val{D:bR}{u:Value}{v:aq}(h:aT D v u):gx D (.val u) v:=.inl ⟨u,rfl,h⟩
def gx.mono{D bD:bR}(dE:D.le bD){x:dQ}{v:aq}(h:gx D x v):gx bD x v:=by
 rcases h with⟨u,rfl,h⟩ | ⟨q,rfl,rfl⟩
 ·exact .val (h.mono dE)
 ·exact .inr ⟨q,rfl,rfl⟩
def re(D:bR)(F:Fr)(al:bi aq):Prop:=∀ t v,al.get t=some v->gx D (F t) v
def jv(D:bR)(F:Fr)(al:bi aq)(xs:List Operand):Prop:=∀ x∈xs,∀ v,dB al x=some v->gx D (dD F x) v
def re.op{D:bR}{al:bi aq}(h:re D F al)(xs:List Operand):jv D F al xs:=λx _ v ak=>by
 cases x with
 |tmp t=>exact h t v ak
 |const c=>
  have ls:EU c=some v:=ak;cases c with
  |bool q=>
   have:v=.b q:=by simp[EU,H6]at ls;exact ls.symm
   exact .inr ⟨q,this,rfl⟩
  |_=>exact .val (.of ls)
 |global g=>
  have:v=.g g 0:=by simpa[dB]using ak.symm
  subst this;exact .val (by simp[aT])
 |func f=>
  have:v=.f f [] []:=by simpa[dB]using ak.symm
  subst this;exact .val (by simp only[aT];exact⟨[],[],.nil,.nil,rfl⟩)
section
variable{D:bR}{F:Fr}{al:bi aq}{xs:List Operand}
def gx.dR{v:aq}(h:gx D (dD F x) v):∃ u,bG F x=.val u/\aT D v u:=by
 unfold bG Go.V.dR;rcases h with⟨u,h,ak⟩ | ⟨q,rfl,h⟩
 ·rw[h];exact⟨u,rfl,ak⟩
 ·rw[h];exact⟨.bool q,rfl,by simp[aT]⟩
def gx.xz{x:dQ}{v:aq}(h:gx D x v)(ak:∀ q,v≠.b q):∃ u,x=.val u/\aT D v u:=by
 rcases h with h | ⟨q,h,_⟩
 ·exact h
 ·exact(ak q h).elim
def jv.bG(h:jv D F al xs)(ab:x∈xs){v:aq}(ak:dB al x=some v):∃ u,bG F x=.val u/\aT D v u:=(h x ab v ak).dR
def jv.mR(h:jv D F al xs):∀ {l:List Operand} {vs:List aq},(∀ x∈l,x∈xs)->oV al l=some vs->∃ us,mR F l=some us/\bT D vs us
 |[],vs,_,ak=>by simp only[oV]at ak;cases ak;exact⟨[],rfl,.nil⟩
 |x::l,vs,ap,ak=>by
  simp only[oV]at ak;split at ak;·rename_i v vs U aa;cases ak;obtain⟨u,az,aV⟩:=h.bG (ap x (by simp)) U;obtain⟨us,aF,a3⟩:=jv.mR h (λy aH=>ap y (by simp[aH])) aa;refine⟨u::us,?_,.cons aV a3⟩;show kg (dD F) (x::l)=_;rw[kg];have eA:dR (dD F) x=.val u:=az;have eX:kg (dD F) l=some us:=aF;rw[eA,eX]
  ·cases ak
def jv.parts(h:jv D F al xs):∀ {l:List (Nat×Operand)} {vs:List (Nat×aq)},(∀ x∈l.map (·.2),x∈xs)->EY al l=some vs->∃ us,Br F l=some us/\Ij D vs us
 |[],vs,_,ak=>by simp only[EY]at ak;cases ak;exact⟨[],rfl,.nil⟩
 |(i,x)::l,vs,ap,ak=>by
  simp only[EY]at ak;split at ak;·rename_i v vs U aa;cases ak;obtain⟨u,az,aV⟩:=h.bG (ap x (by simp)) U;obtain⟨us,aF,a3⟩:=jv.parts h (λy aH=>ap y (by simp only[dv,eL];exact .inr aH)) aa;refine⟨(i,u)::us,?_,.cons aV a3⟩;show tN (dD F) ((i,x)::l)=_;rw[tN];have eA:dR (dD F) x=.val u:=az;have eX:tN (dD F) l=some us:=aF;rw[eA,eX]
  ·cases ak
end
inductive rf(D:bR):List (aq×aq)->List MapEntry->Prop
 |nil:rf D [] []| cons {k v es e l} (ae:aT D k e.key) (ak:aT D v e.val) (t:rf D es l):rf D ((k,v)::es) (e::l)
def iu(n:Nat):Code->Bool
 | .seq x y=>iu n x&&iu n y| .block _ c=>iu n c| .cond _ x y=>iu n x&&iu n y| .loop c=>iu n c| .scope c=>iu n c| .region _ ops _=>zG n ops| .rangeFunc _ ps fD body=>iu n fD&&(iu n body&&ps.toList.all λt=>Nat.blt t n)| _=>true
structure ZH(D:bR)(busy:Bool)(n:Nat)(al:bi aq)(ps:List Nat)(fD body:Code)(L:Loop):Prop where
 aB:L.state=bif busy then .busy else .ready
 qG:L.pending=none
 sz:L.tmps.size=n
 al:∀ t v,al.get t=some v->aT D v (L.tmps.getD t undef)
 ps:L.params.toList=ps
 fD:L.assign=fD
 body:L.body=body
 B4:iu n L.assign=true
 nL:iu n L.body=true
 op:∀ t∈L.params.toList,t<n
inductive lN(D:bR)(E:Env)(M:List aI)(a:Loc):fW->Prop
 |cells{cs:bi aq}{T fh:Nat}(arr:Array Value)(au:a.o=0)(a2:(⟨a.b,.cells arr T (0,0)⟩:aI)∈M)(ap:a.o+fh<=arr.size)(aN:∀ i v,i<fh->cs.get i=some v->∃ x,arr[a.o+i]?=some x/\aT D v x)(ae:∀ i,E T=some i->arr.size=a.o+a.c*i.size)(hm:a.c<=maxLen):lN D E M a (.cells cs T fh)| map {es:List (aq×aq)} (l:List MapEntry) (clock:Nat) (a2:(⟨a.b,.map l.toArray clock⟩:aI)∈M) (he:rf D es l):lN D E M a (.map es)| loop {busy n al ps fD body} (L:Loop) (a2:(⟨a.b,.loop L⟩:aI)∈M) (cT:ZH D busy n al ps fD body L):lN D E M a (.loop busy n al ps fD body)| done {c n al ps fD body} (L:Loop) (a2:(⟨a.b,.loop L⟩:aI)∈M) (ar:L.state=.done) (aD:L.pending=some c):lN D E M a (.done c n al ps fD body)
def rf.mono{D bD:bR}(dE:D.le bD){es:List (aq×aq)}{l:List MapEntry}(h:rf D es l):rf bD es l:=by
 induction h with
 |nil=>exact .nil| cons ae ak t a7=>exact .cons (ae.mono dE) (ak.mono dE) a7
def lN.mono{D bD:bR}{M':List aI}{a:Loc}(dE:D.le bD)(a2:∀ x∈M,x.num=a.b->x∈M'){e:fW}(h:lN D E M a e):lN bD E M' a e:=by
 cases h with
 |cells arr ao U aa af aP bq=>exact .cells arr ao (a2 _ U rfl) aa (λi v hi aA=>by obtain⟨x,aV,a3⟩:=af i v hi aA;exact⟨x,aV,a3.mono dE⟩) aP bq| map l clock U aa=>exact .map l clock (a2 _ U rfl) (aa.mono dE)| loop L U aa=>exact .loop L (a2 _ U rfl) { aa with al:=λt v av=>(aa.al t v av).mono dE }| done L U aa af=>exact .done L (a2 _ U rfl) aa af
def Ik(G:GT)(I:aR):Prop:=∀ g cs,G g=some cs->∃ (arr:Array Value) (T:Nat) (f:Nat×Nat),I g=some (.cells arr T f)/\∀ i v,cs.get i=some v->∃ x,arr[i]?=some x/\∀ D,aT D v x
structure dx(Y:hh)(D:bR)(m:bp)(I:aR)(M:List aI):Prop where
 jc:∀ id e a,m.t.get id=some e->D id=some a->lN D Y.E M a e
 inj:∀ id iP e bA a a',m.t.get id=some e->m.t.get iP=some bA->D id=some a->D iP=some a'->a.b=a'.b->id=iP
 j5:∀ id a,D id=some a->id<m.n
 rc:Ik Y.G I
section
variable{Y:hh}{D:bR}{m:bp}{I:aR}{M:List aI}{R:Type}
def AJ(h:dx Y D m I M){x:aq}{u:Value}(ab:aT D x u){n:Nat}{K:List aq->Option R}{r:R}(ai:xu Y.G m.t x n K=some r) :
  ∃ ad l vs,u=.pointer (some ad)/\cq I M ad n vs/\bT D l vs/\K l=some r:=by
 have key:∀ (arr:Array Value) (aW off:Nat) (l:List aq),l.length=n->aW+off+n<=arr.size->(∀ i,i<n->∀ v,l[i]?=some v->∃ x,arr[aW+off+i]?=some x/\aT D v x) ->
   ((arr.toList.drop (aW+off)).take n).length=n/\bT D l ((arr.toList.drop (aW+off)).take n):=by
  intro arr aW off l ap c8 aA;have b3:((arr.toList.drop (aW+off)).take n).length=n:=by simp;omega
  refine⟨b3,bT.Ri (by rw[b3,ap]) λi v hi=>?_⟩;have hV:i<n:=by rw[<-ap];exact(kc.1 hi).1
  obtain⟨x,U,aa⟩:=aA i hV v hi;refine⟨x,?_,aa⟩;rw[lp,cG hV,om];simpa using U
 unfold xu at ai;split at ai
 ·rename_i id off;split at ai
  ·rename_i cs T fh aA;cases ah:Nat.ble (Nat.add off n) fh with
   |false=>rw[ah]at ai;cases ai
   |true=>
    rw[ah]at ai;have gV:off+n<=fh:=b0 ah;simp only[bh]at ai;obtain⟨l,U,aa,af⟩:=bi.E8 cs n off K r ai;obtain⟨a,aE,hu⟩:=ab.ptr;have he:=h.jc _ _ _ aA aE;obtain⟨arr,-,a2,ap,aN,-,-⟩:=he;obtain⟨eJ,cU⟩:=key arr a.o off l U (by omega) λi hi v ak=>by have:=aN (off+i) v (by omega) (by rw[aa i hi,ak]);rw[<-rz]at this;exact this
    exact⟨_,l,_,hu,⟨rfl,arr,T,(0,0),.inr ⟨_,a2,rfl,rfl⟩,rfl,eJ⟩,cU,af⟩
  ·cases ai
 ·rename_i g off;split at ai
  ·rename_i cs aA;obtain⟨l,U,aa,af⟩:=bi.E8 cs n off K r ai;obtain⟨arr,T,f,bL,aN⟩:=h.rc _ _ aA;have hu:=ab.rc;have ej:∀ i,i<n->∀ v,l[i]?=some v->∃ x,arr[0+off+i]?=some x/\aT D v x:=λi hi v ak=>by obtain⟨x,aV,a3⟩:=aN (off+i) v (by rw[aa i hi,ak]);exact⟨x,by simpa using aV,a3 D⟩
   by_cases aw:n=0;·subst aw;have:l=[]:=iT U;subst this;exact⟨_,[],[],hu,⟨rfl,arr,T,f,.inl bL,by simp,rfl⟩,.nil,af⟩
   ·have c8:0+off+n<=arr.size:=by
     have aS:n-1<l.length:=by omega
     obtain⟨x,aV,_⟩:=ej (n-1) (by omega) l[n-1] (eR aS);have:=(lS.1 aV).1;omega
    obtain⟨eJ,cU⟩:=key arr 0 off l U c8 ej;simp only[dz]at eJ cU;exact⟨_,l,_,hu,⟨rfl,arr,T,f,.inl bL,rfl,eJ⟩,cU,af⟩
  ·cases ai
 ·cases ai
end
def ajX{k:IntKind}(h:IntKind.mT k ed=true):k=ed:=IntKind.DL h
def Md(l m:List UInt8):decide ((⟨l.toArray⟩:ByteArray)=⟨m.toArray⟩)=decide (l=m):=by
 simp only[LM];constructor
 ·intro h;simpa using h
 ·rintro rfl;rfl
def ajY(a b:ByteArray):(a == b)=decide (a=b):=by
 rw[pQ];simp only[e5];constructor
 ·intro h
  first | exact eq_of_beq h | exact wG (eq_of_beq (a:=a.data) (b:=b.data) h)
 ·rintro rfl
  first | exact Gt _ | exact Gt a.data
section
variable{P:Program}{E:Env}{D:bR}
def Me(aO:c6 P E){o:Nat}{l:List aq}{x:aq}(h:v7 E t o l=some x){us:List Value}(ap:bT D l us):∃ u,aT D x u/\∀ w,(part t us.toArray o).run P w=.ok u w:=by
 unfold v7 at h;obtain⟨i,U,h⟩:=c1 h;obtain⟨ao,h⟩:=AF h;have jX:i.size≠0:=λe=>by rw[e]at ao;cases ao
 obtain⟨r,aa,h⟩:=c1 h;obtain⟨az,aF⟩:=ZF aa;rw[Ii]at az;have b3:=ap.len;subst az;refine⟨_,Mb h ((ap.drop o).take _),λw=>?_⟩;have:=NT (aO _ _ U) (cs:=us.toArray) (off:=o) (by rw[gr,sO]at aF;simp;omega) w;simpa using this
def Rm{F:Nat->aq->aq->Option Bool}{l m:List aq}{α β:Type}{pl:α->Nat×Nat}{g:α->β->Sem (ForInStep β)}{eO s1:β}{w:World}:∀ (L:List α) {b:Bool},Az F E l m (L.map pl)=some b -> (∀ a∈L,∀ x y c,v7 E (pl a).1 (pl a).2 l=some x->v7 E (pl a).1 (pl a).2 m=some y->F (pl a).1 x y=some c->(g a eO).run P w=.ok (if c then .yield eO else .done s1) w) -> (forIn L eO g).run P w=.ok (if b then eO else s1) w
 |[],b,h,_=>by cases h;simp[dc]
 |a::L,b,h,aA=>by
  simp only[dv]at h;unfold Az at h;obtain⟨x,U,h⟩:=c1 h;obtain⟨y,aa,h⟩:=c1 h;obtain⟨c,af,h⟩:=c1 h;simp only[List.forIn_cons,cy];rw[aA a (by simp) x y c U aa af];rw[kE]at h;cases c with
  |true=>simp only[sD,cc];exact Rm L h λa' aE=>aA a' (by simp[aE])
  |false=>cases h;simp[cc,dc]
def Rn(aO:c6 P E):∀ (d:Nat) {t:Nat} {x y:aq} {b:Bool} {u v:Value},ra P E d t x y=some b->aT D x u->aT D y v->∀ n,d<=n->∀ w,(Op.equalIn n t u v).run P w=.ok b w
 |0,t,x,y,b,u,v,h,ab,aH,n,aw,w=>by cases h
 |d+1,t,x,y,b,u,v,h,ab,aH,0,aw,w=>by omega
 |d+1,t,x,y,b,u,v,h,ab,aH,n+1,aw,w=>by
  unfold ra at h;obtain⟨i,hi,h⟩:=c1 h;obtain⟨qM,fy,ot⟩:=(aO _ _ hi).fp;rw[Op.equalIn];simp only[cy,run_underlying fy,cc];split at h
  ·rename_i a a' ar _;cases h;have aV:qM=.bool:=by cases qM<;>simp_all[fo]
   subst aV;rw[ab.bool,aH.bool];rfl
  ·rename_i ed k a cU a' ar _;obtain⟨az,h⟩:=g1 h;cases h;have aV:qM=.int ed:=by cases qM<;>simp_all[fo]
   subst aV;rw[ab.int,aH.int];rw[ajX az];have ah:(a == a')=np a a':=by
    rw[zc];by_cases e:a=a';·subst e;simp
    ·simp[e]
   simp[ah]
  ·rename_i a a' ar _;cases h;have aV:qM=.string:=by cases qM<;>simp_all[fo]
   subst aV;rw[ab.str,aH.str];show Result.ok _ _=_;rw[CU,<-Md];congr 1;exact ajY _ _
  ·rename_i cE l m ar _;obtain⟨az,h⟩:=g1 h;unfold QJ at az;rw[fy]at az;cases qM with
   |struct fields=>
    simp only[cp,o7,gh,e5]at az;obtain⟨az,aF⟩:=az;rw[ar]at ot;simp only[fo,F9.struct.injEq]at ot;subst ot;obtain⟨us,U,rfl⟩:=ab.agg;obtain⟨ws,aa,rfl⟩:=aH.agg;simp only[cy,run_program,cc,az,lq,mh];rw[<-Array.forIn_toList];rw[Rm (P:=P) (s1:=⟨some false,⟨⟩⟩) fields.toList h (λf aC x y c xo tf aN=>by
     obtain⟨p,eJ,cU⟩:=Me aO xo U;obtain⟨q,hs,l5⟩:=Me aO tf aa;have ay:=Rn aO d aN eJ hs n (by omega) w;simp only[aF f aC,sD,ne_eq,not_false_eq_true,cy,cU,l5,cc,ay];cases c<;>simp[dc])]
    cases b<;>simp[cc,dc]
   |_=>cases az
  ·rename_i len e l m ar _;obtain⟨aG,hQ,h⟩:=c1 h;have aV:qM=.array len e:=by cases qM<;>simp_all[fo]
   subst aV;obtain⟨us,U,rfl⟩:=ab.agg;obtain⟨ws,aa,rfl⟩:=aH.agg;simp only[cy,(aO _ _ hQ).run_sizeOf,cc,Ux];have ai:List.range' 0 ([:len]:Std.Legacy.Range).size=List.range len:=by simp[Std.Legacy.Range.size,DG]
   rw[ai];rw[Rm (P:=P) (s1:=⟨some false,⟨⟩⟩) (List.range len) h (λf aC x y c xo tf aN=>by
    obtain⟨p,eJ,cU⟩:=Me aO xo U;obtain⟨q,hs,l5⟩:=Me aO tf aa;have ay:=Rn aO d aN eJ hs n (by omega) w;simp only[cy,cU,l5,cc,ay];cases c<;>simp[dc])]
   cases b<;>simp[cc,dc]
  ·cases h
end
section
variable{X:c7}{D:bR}
def Ro(aO:c6 X.P X.E){op:BinOp}{l m:List aq}{v:aq}{us ws:List Value}(h:CN X.P X.E op t l m=some v)(ap:bT D l us)(hm:bT D m ws)(ae:∀ u,aT D v u->K u) :
  fM X.P op t x y (.val (.agg us.toArray)) (.val (.agg ws.toArray)) K O:=by
 unfold CN at h;obtain⟨aA,h⟩:=AF h;obtain⟨b,U,h⟩:=c1 h;have ay:=Rn (D:=D) aO 8 U (u:=.agg us.toArray) (v:=.agg ws.toArray) (by simp only[aT];exact⟨us,ap,rfl⟩) (by simp only[aT];exact⟨ws,hm,rfl⟩) Op.maxDepth (by decide);split at h
 ·cases h;refine .mk _ _ _ rfl rfl (λw=>?_) (ae _ (by simp only[aT];rfl));simp only[cy,run_eqGuard_agg (hm:=aA),cc,binOp,Op.equal,ay,dc]
 ·cases h;refine .mk _ _ _ rfl rfl (λw=>?_) (ae _ (by simp only[aT];rfl));simp only[cy,run_eqGuard_agg (hm:=aA),cc,binOp,Op.equal,ay,dc]
 ·cases h
end
abbrev ei(X:c7)(G:GT)(pr:mb):hh:=⟨X.P,X.E,G,pr⟩
section
variable{X:c7}{G:GT}{pr:mb}{D:bR}{m:bp}{F:Fr}{al:bi aq}{C:d'}{I:aR}{M:List aI}{V:dQ->Prop}{O:Prop}
def pC{a b:α}(h:some a=some b):a=b:=by cases h;rfl
def ajZ{op:BinOp}{k:IntKind}{a b:Int}{v:aq}(h:QG op k ed a b=some v)(ae:∀ u,aT D v u->K u):lT op dh (.val (.int k a)) (.val (.int ed b)) K O:=by
 have mk:∀ {q:aq} {u:Value},some q=some v->aT D q u->K u:=λe hu=>ae _ (pC e ▸ hu);unfold QG at h;split at h
 ·split at h
  ·rename_i j;refine⟨j,rfl,⟨_,rfl,mk h ?_⟩⟩;simp only[aT];rw[AG,ajU,kE,ZE]
  ·cases h
 ·split at h
  ·rename_i j;refine⟨j,rfl,mk h ?_⟩;simp only[aT];rw[ajV,kE,ZE]
  ·cases h
 all_goals obtain⟨ay,h⟩:=g1 h
 all_goals simp only[lT,ay,bh]
 ·exact⟨_,rfl,mk h (by simp only[aT];rw[AG,ajP])⟩
 ·exact⟨_,rfl,mk h (by simp only[aT];rw[AG,ajQ])⟩
 ·exact⟨_,rfl,mk h (by simp only[aT];rw[AG,ajR])⟩
 ·obtain⟨ao,h⟩:=AF h;refine⟨λe=>?_,_,rfl,mk h (by simp only[aT];rw[AG,ajS])⟩;rw[zc,e]at ao;simp at ao
 ·obtain⟨ao,h⟩:=AF h;refine⟨λe=>?_,mk h (by simp only[aT];rw[ajT])⟩;rw[zc,e]at ao;simp at ao
 ·obtain⟨r,ai,h⟩:=c1 h;rw[L7 ai];exact mk h (by simp only[aT])
 ·obtain⟨r,ai,h⟩:=c1 h;rw[L7 ai];exact mk h (by simp only[aT])
 ·obtain⟨r,ai,h⟩:=c1 h;rw[L7 ai];exact mk h (by simp only[aT])
 ·obtain⟨r,ai,h⟩:=c1 h;rw[L7 ai];exact mk h (by simp only[aT])
 ·obtain⟨r,ai,h⟩:=c1 h;rw[ajO]at ai;have ak:v=.b r:=(pC h).symm;subst ak;have jI:K (.bool r):=ae _ (by simp only[aT]);cases op<;>first
   |contradiction|(rw[ai];exact jI)
def Rp(b:Bool):cn b false true=!b:=by cases b<;>rfl
def aj0{op:BinOp}{a b:List UInt8}{v:aq}(h:QH op a b=some v)(ae:∀ u,aT D v u->K u) :
  lT op dh (.val (.string ⟨a.toArray⟩)) (.val (.string ⟨b.toArray⟩)) K (fM P op t x y (.val (.string ⟨a.toArray⟩)) (.val (.string ⟨b.toArray⟩)) K O):=by
 unfold QH at h;split at h
 ·cases h;refine ae _ ?_;simp only[aT];rw[Md,CU]
 ·cases h;refine ae _ ?_;simp only[aT];rw[Md,CU,Rp]
 ·obtain⟨ap,h⟩:=g1 h;cases h;have ou:=b0 ap;refine fM.concat (by simpa[ByteArray.size]using ou) (ae _ ?_);simp only[aT];congr 1
 ·cases h
def aj1{op:BinOp}{a:Bool}{v:aq}(h:QI op dh a b=some v)(ae:∀ u,aT D v u->K u):lT op dh (.val (.bool a)) (.val (.bool b)) K O:=by
 unfold QI at h;split at h
 ·split at h
  ·cases h;exact ae _ (by simp only[aT])
  ·cases h;exact ae _ (by simp only[aT])
  ·cases h
 ·cases h
def aj2{x:aq}(h:QK x=some b){u:Value}(hu:aT D x u):∃ a n c,u=.slice a n c/\b=a.isNone:=by
 cases x<;>simp only[QK,kd,reduceCtorEq]at h<;>subst h<;>simp only[aT]at hu
 ·exact⟨_,_,_,hu,rfl⟩
 ·obtain⟨a,-,hu⟩:=hu;exact⟨_,_,_,hu,rfl⟩
 ·obtain⟨a,-,-,hu⟩:=hu;exact⟨_,_,_,hu,rfl⟩
 ·exact⟨_,_,_,hu,rfl⟩
 ·obtain⟨a,c,hu⟩:=hu;exact⟨_,_,_,hu,rfl⟩
def aj3{x:aq}(h:QL x=some b){u:Value}(hu:aT D x u):∃ p,u=.pointer p/\b=p.isNone:=by
 cases x<;>simp only[QL,kd,reduceCtorEq]at h<;>subst h<;>simp only[aT]at hu
 ·exact⟨_,hu,rfl⟩
 ·obtain⟨a,-,hu⟩:=hu;exact⟨_,hu,rfl⟩
 ·exact⟨_,hu,rfl⟩
def aj4{e:Nat}(h:P.underlying t=some (.slice e))(a:Option Addr)(n c:Nat)(w:World):(Op.equal t (.slice a n c) (.slice none 0 0)).run P w=.ok a.isNone w:=by
 have key:∀ d,(Op.equalIn (d+1) t (.slice a n c) (.slice none 0 0)).run P w=.ok a.isNone w:=λd=>by cases a<;>simp[Op.equalIn,run_underlying h]
 exact key 9999
def aj5{e:Nat}(h:P.underlying t=some (.pointer e))(p:Option Addr)(w:World):(Op.equal t (.pointer p) (.pointer none)).run P w=.ok p.isNone w:=by
 have key:∀ d,(Op.equalIn (d+1) t (.pointer p) (.pointer none)).run P w=.ok p.isNone w:=λd=>by cases p<;>simp[Op.equalIn,run_underlying h]
 exact key 9999
def ZI{op:BinOp}{v:aq}{p q:Value}(aA:∀ w,op=.eql\/op=.neq->(eqGuard op t x y p q).run P w=.ok () w)(he:∀ w,(Op.equal t p q).run P w=.ok b w)(ah:∀ w,(binOp .eql t p q).run P w=.ok (.bool b) w)(aw:∀ w,(binOp .neq t p q).run P w=.ok (.bool (!b)) w)(h:LP op b=some v)(ae:∀ u,aT D v u->K u):fM P op t x y (.val p) (.val q) K O:=by
 unfold LP at h;split at h
 ·cases h;refine .mk p q (.bool b) rfl rfl (λw=>?_) (ae _ (by simp only[aT]));simp only[cy,aA w (.inl rfl),cc,ah w]
 ·cases h;refine .mk p q (.bool (!b)) rfl rfl (λw=>?_) (ae _ (by simp only[aT]));simp only[cy,aA w (.inr rfl),cc,aw w]
 ·cases h
def aj6(aO:c6 X.P X.E){op:BinOp}{x y v:aq}{aj7:Operand}{u:Value}(h:QM X.P X.E op t x y=some v)(ab:aT D x u)(aH:aT D y w)(ae:∀ u,aT D v u->K u) :
  lT op (X.E t) (.val u) (.val w) K (fM X.P op t q9 aj7 (.val u) (.val w) K O):=by
 unfold QM at h;split at h
 ·rw[ab.int,aH.int];exact ajZ h ae
 ·rw[ab.str,aH.str];exact aj0 h ae
 ·rw[ab.bool,aH.bool];exact aj1 h ae
 ·obtain⟨us,U,rfl⟩:=ab.agg;obtain⟨ws,aa,rfl⟩:=aH.agg;exact Ro aO h U aa ae
 ·obtain⟨i,hi,h⟩:=c1 h;split at h
  ·rename_i e ot;obtain⟨b,U,h⟩:=c1 h;obtain⟨a,n,c,rfl,rfl⟩:=aj2 U ab;simp only[aT]at aH;subst aH;obtain⟨d,fy,fz⟩:=(aO _ _ hi).fp;have aa:d=.slice e:=by rw[ot]at fz;cases d<;>simp_all[fo]
   subst aa;have he:=aj4 fy a n c;exact ZI (λw au=>by rcases au with rfl | rfl<;>(unfold eqGuard;rfl)) he (λw=>by simp only[binOp];simp[he w]) (λw=>by simp only[binOp];simp[he w]) h ae
  ·cases h
 ·obtain⟨i,hi,h⟩:=c1 h;split at h
  ·rename_i e ot;obtain⟨b,U,h⟩:=c1 h;obtain⟨p,rfl,rfl⟩:=aj3 U ab;simp only[aT]at aH;subst aH;obtain⟨d,fy,fz⟩:=(aO _ _ hi).fp;have aa:d=.pointer e:=by rw[ot]at fz;cases d<;>simp_all[fo]
   subst aa;have he:=aj5 fy p;exact ZI (λw au=>by rcases au with rfl | rfl<;>(unfold eqGuard;rfl)) he (λw=>by simp only[binOp];simp[he w]) (λw=>by simp only[binOp];simp[he w]) h ae
  ·cases h
 ·cases h
variable(aO:c6 X.P X.E)(hm:dx (ei X G pr) D m I M)
def E'{v:aq}{n:Nat}(h:v.nat=some n):∃ k,v=.i k (.ofNat n):=by
 unfold aq.nat at h;split at h
 ·cases h;exact⟨_,rfl⟩
 ·cases h
def ZJ{x v:aq}{n:Nat}{u:Value}(h:H7 x n=some v)(ab:aT D x u):∃ a,u=.pointer (some a)/\a.spot=none/\aT D v (.pointer (some (a.add n))):=by
 unfold H7 at h;split at h
 ·cases h;obtain⟨a,aE,rfl⟩:=ab.ptr;refine⟨_,rfl,rfl,?_⟩;rw[eo _ rfl];simp only[aT];exact⟨a,aE,by simp only[Ay,rz]⟩
 ·cases h;refine⟨_,ab.rc,rfl,?_⟩;rw[eo _ rfl];simp only[aT];rfl
 ·cases h
def aj8{x v:aq}{u:Value}(h:LQ x j sz=some v)(ab:aT D x u):∃ a n c,u=.slice (some a) n c/\j<n/\aT D v (.pointer (some (a.add (j*sz)))):=by
 unfold LQ at h;split at h
 ·cases ah:Nat.blt j _ with
  |false=>rw[ah]at h;cases h| true=>rw[ah]at h;cases h;obtain⟨a,aE,rfl⟩:=ab.tk;refine⟨_,_,_,rfl,b0 ah,?_⟩;rw[eo _ rfl];simp only[aT];exact⟨a,aE,by simp only[Ay,ER,rz]⟩
 ·cases ah:Nat.blt j _ with
  |false=>rw[ah]at h;cases h| true=>rw[ah]at h;cases h;obtain⟨a,aE,_,rfl⟩:=ab.wa;refine⟨_,_,_,rfl,b0 ah,?_⟩;rw[eo _ rfl];simp only[aT];exact⟨a,aE,by simp only[Ay,ER,rz]⟩
 ·cases ah:Nat.blt j _ with
  |false=>rw[ah]at h;cases h| true=>rw[ah]at h;cases h;refine⟨_,_,_,ab.Rj,b0 ah,?_⟩;rw[eo _ rfl];simp only[aT];rfl
 ·cases h
def ZK{cs:List aq}{v:aq}{us:List Value}(h:LS aG cs off=some v)(aN:bT D cs us) :
  off+aG.size<=us.length/\aT D v (pack aG.bO.agg ((us.drop off).take aG.size)):=by
 unfold LS at h;obtain⟨ao,h⟩:=AF h;obtain⟨l,U,aa⟩:=c1 h;have jX:aG.size≠0:=λe=>by rw[e]at ao;cases ao
 obtain⟨rfl,ap⟩:=ZF U;rw[Ii]at aa ap;refine⟨?_,Mb aa ((aN.drop off).take _)⟩;have:=aN.len;simp at ap;omega
def ZL{i:Nat}{hI:ec}(h:LR E t i=some (off,hI)):∃ a b z cE mS,E t=some ⟨a,b,z,.struct cE⟩/\cE[i]?=some (mS,off)/\E mS=some hI:=by
 unfold LR at h;split at h
 ·rename_i a b z cE av;split at h
  ·rename_i mS o aC;rw[AI]at aC;split at h
   ·rename_i f uy;cases h;exact⟨_,_,_,_,mS,av,aC,uy⟩
   ·cases h
  ·cases h
 ·cases h
def aj9(h:QP E t=some (r,aG)):(∃ a b z e,E t=some ⟨a,b,z,.slice e⟩/\E e=some aG/\r=none)\/∃ a b z n e,E t=some ⟨a,b,z,.array n e⟩/\E e=some aG/\r=some n:=by
 unfold QP at h;split at h
 ·rename_i a b z e av;split at h
  ·cases h;exact .inl ⟨_,_,_,_,av,by assumption,rfl⟩
  ·cases h
 ·rename_i a b z n e av;split at h
  ·cases h;exact .inr ⟨_,_,_,_,_,av,by assumption,rfl⟩
  ·cases h
 ·cases h
def aka{x i v:aq}{u:Value}(h:H8 X.E t (some x) (some i)=some v)(ab:aT D x u)(hi:aT D i w){ρ:Operand->dQ}{gJ:Operand}(Rq:dR ρ q9=.val u)(iB:dR ρ gJ=.val w)
  (k:∀ x,gx D x v->V x):cM X (.index t q9 gJ) ρ C I M V O:=by
 unfold H8 at h;split at h
 ·rename_i l hv av U aa;cases U;cases aa;obtain⟨j,aj,h⟩:=c1 h;obtain⟨fY,rfl⟩:=E' aj;have gF:QQ l j=some v:=h;unfold QQ at gF;obtain⟨b,ah,fI⟩:=c1 gF;cases fI;rw[AI]at ah;rw[ab.str]at Rq;rw[hi.int]at iB;have aS:=(kc.1 ah).1;simp only[cM,av,Rq,iB];refine⟨j,rfl,by simpa[ByteArray.size]using aS,k _ (.val ?_)⟩;simp only[aT];have:(⟨l.toArray⟩:ByteArray)[j]'(by simpa[ByteArray.size]using aS)=b:=by have:=(kc.1 ah).2;show l.toArray[j]'_=b;simpa using this
  rw[this];rfl
 ·rename_i n e cs hv av U aa;cases U;cases aa;obtain⟨aG,he,h⟩:=c1 h;obtain⟨j,aj,h⟩:=c1 h;obtain⟨fY,rfl⟩:=E' aj;obtain⟨us,fZ,rfl⟩:=ab.agg;unfold Y8 at h;obtain⟨ah,h⟩:=g1 h;rw[cp]at ah;obtain⟨af,aP⟩:=ZK h fZ;rw[hi.int]at iB;simp only[cM,av,Rq,iB,he];have c8:Nat.beq (n*aG.size) us.toArray.size=true:=by have bq:=cK ah.1;rw[vu,fZ.len,<-bq];exact rB _
  rw[c8];simp only[bh];exact⟨j,rfl,b0 ah.2,k _ (.val aP)⟩
 ·cases h
def akb{x v:aq}{l:Nat}{h:Option Nat}{u:Value}(ar:QN x sz l h=some v)(ab:aT D x u):∃ a n c,u=.slice a n c/\l<=h.getD n/\h.getD n<=c/\(h=none->l<=n) /\
  aT D v (.slice (if c=l then a else a.map (·.add (l*sz))) (h.getD n-l) (c-l)):=by
 unfold QN at ar;split at ar
 ·cases ah:(Nat.beq l 0&&Nat.beq (h.getD 0) 0)with
  |false=>rw[ah]at ar;cases ar| true=>rw[ah]at ar;cases ar;rw[cp]at ah;have U:=cK ah.1;have aa:=cK ah.2;subst U;refine⟨none,0,0,ab.CV,by omega,by omega,λ_=>by omega,?_⟩;rw[aa];simp[aT]
 ·rename_i id off n c;obtain⟨a,aE,rfl⟩:=ab.tk;simp only at ar;cases ah:(Nat.ble l (h.getD n)&&Nat.ble (h.getD n) c)with
  |false=>rw[ah]at ar;cases ar
  |true=>
   rw[ah]at ar;simp only[bh]at ar;rw[cp]at ah;have U:=b0 ah.1;have aa:=b0 ah.2;refine⟨_,n,c,rfl,U,aa,λe=>by subst e;exact U,?_⟩;rw[Rh]at ar;by_cases e:c=l;·subst e;simp only[Ep,bh]at ar;cases ar;simp only[sD,aT];exact⟨a,aE,by simp only[ES,lE]⟩
   ·simp only[e,LN,bf]at ar;cases ar;simp only[e,mh,aT,k3];refine⟨a,aE,?_⟩;rw[eo _ rfl];simp only[Ay,ER,ES,rz]
 ·rename_i id off e n;obtain⟨a,aE,bn,rfl⟩:=ab.wa;simp only at ar;cases ah:(Nat.ble l (h.getD n)&&Nat.ble (h.getD n) n)with
  |false=>rw[ah]at ar;cases ar
  |true=>
   rw[ah]at ar;simp only[bh]at ar;rw[cp]at ah;have U:=b0 ah.1;have aa:=b0 ah.2;refine⟨_,n,a.c-e,rfl,U,by omega,λe=>by subst e;exact U,?_⟩;cases aN:(Nat.beq l 0||Nat.blt l n)with
   |true=>
    rw[aN]at ar;simp only[bh]at ar;cases ar;rw[kM]at aN;simp only[aT];refine⟨a,aE,by simp only[Ay,ES];omega,?_⟩;have af:a.c-e-l=a.c-(e+l):=by omega
    by_cases ao:l=0
    ·subst ao;simp only[BI,xh,k3,Ay,ER,ES,oo];split
     ·rfl
     ·rw[eo _ rfl];simp
    ·have aP:l<n:=by
      rcases aN with aN | aN;·exact absurd (cK aN) ao
      ·exact b0 aN
     rw[ca (by omega)];simp only[k3];rw[eo _ rfl];simp only[Ay,ER,ES,rz,af]
   |false=>
    rw[aN]at ar;simp only[bf]at ar;cases ar;rw[o6]at aN;have aP:¬ l<n:=λaS=>by have:=Cs (show l.succ<=n from aS);rw[show Nat.blt l n=Nat.ble l.succ n from rfl,this]at aN;cases aN.2
    have bq:h.getD n-l=0:=by omega
    simp only[aT,bq];split;·exact⟨_,_,rfl⟩
    ·exact⟨_,_,rfl⟩
 ·cases ar
end
section
variable{X:c7}{G:GT}{pr:mb}{D:bR}{m:bp}{F:Fr}{al:bi aq}{C:d'}{I:aR}{M:List aI}{V:dQ->Prop}{O:Prop}
def akc(c:Bool)(a b:Value):JL c (.val a) (.val b)=.val (bif c then a else b):=by cases a<;>cases b<;>cases c<;>rfl
def ZM{o:Option Operand}{xs:List Operand}(H:jv D F al xs)(ab:∀ y,o=some y->y∈xs)(h:CO (o.map (dB al))=some r) :
  (o.map (dR (dD F))=none/\r=none)\/∃ k n,o.map (dR (dD F))=some (.val (.int k (Int.ofNat n)))/\r=some n:=by
 cases o with
 |none=>simp[CO]at h;exact .inl ⟨rfl,h.symm⟩
 |some y=>
  simp only[k3,CO]at h;cases ak:dB al y with
  |none=>rw[ak]at h;cases h
  |some v=>
   rw[ak]at h;simp only at h;split at h;·rename_i n aw;cases h;obtain⟨k,rfl⟩:=E' aw;obtain⟨u,hu,ai⟩:=H.bG (ab y rfl) ak;rw[ai.int]at hu;exact .inr ⟨k,n,by simp only[k3];exact congrArg some hu,rfl⟩
   ·cases h
def Rr(l:List UInt8)(lo hi:Nat):(⟨(QO l lo hi).toArray⟩:ByteArray)=(⟨l.toArray⟩:ByteArray).extract lo hi:=by apply wG;apply g2;unfold QO;rw[Ii];simp[JH,List.extract_eq_take_drop]
def akd{v:aq}{n:Nat}{u:Value}(h:xv v=some n)(ak:aT D v u):∃ a c,u=.slice a n c:=by
 unfold xv at h;split at h
 ·cases h;exact⟨_,_,ak.CV⟩
 ·cases h;obtain⟨a,c,rfl⟩:=ak.L9;exact⟨_,_,rfl⟩
 ·cases h;obtain⟨a,_,rfl⟩:=ak.tk;exact⟨_,_,rfl⟩
 ·cases h;obtain⟨a,_,_,rfl⟩:=ak.wa;exact⟨_,_,rfl⟩
 ·cases h;exact⟨_,_,ak.Rj⟩
 ·cases h
def ake(aO:c6 X.P X.E){b:Builtin}{ts:Array TypeId}{v:aq}(h:QT X.E b ts.toList (oV al args.toList)=some v)(H:jv D F al args.toList)(k:∀ x,gx D x v->V x) :
  cM X (.call { callee:=.builtin b,args:=args,argTypes:=ts }) (dD F) C I M V O:=by
 unfold QT at h;split at h
 ·
  unfold Zc at h;split at h
  ·rename_i t w av ap;obtain⟨us,az,aV⟩:=H.mR (λ_ h=>h) ap;obtain⟨u,xs,a3,bW,rfl⟩:=aV.kV;have:=bW.oa;subst this;have eA:kg (dD F) args.toList=some [u]:=az;simp only[cM,av,eA];split at h
   ·rename_i a b z e sj o9;unfold LU at h;obtain⟨n,aw,h⟩:=c1 h;have fI:some (aq.i .i64 (.ofNat n))=some v:=h;cases fI;obtain⟨a',c,rfl⟩:=akd aw a3;simp only[o9];exact k _ (.val (by simp only[aT];rfl))
   ·rename_i a b z l o9;cases h;rw[a3.str];simp only[o9];refine k _ (.val ?_);simp only[aT];simp[ByteArray.size]
   ·rename_i a b z n e sj o9;cases h;cases u<;>(simp only[o9];exact k _ (.val (by simp only[aT];rfl)))
   ·cases h
  ·cases h
 ·unfold Zd at h;split at h
  ·rename_i eJ a cU b ap;obtain⟨us,az,aV⟩:=H.mR (λ_ h=>h) ap;obtain⟨u,xs,a3,bW,rfl⟩:=aV.kV;obtain⟨w,il,fx,p2,rfl⟩:=bW.kV;have:=p2.oa;subst this;have eA:kg (dD F) args.toList=some [u,w]:=az;rw[a3.int,fx.int]at eA;simp only[cM,eA];cases h;refine k _ (.val ?_);simp only[aT];rw[kE,L6];by_cases iM:a<=b
   ·simp[iM];omega
   ·simp[iM];omega
  ·cases h
 ·unfold Ze at h;split at h
  ·rename_i eJ a cU b ap;obtain⟨us,az,aV⟩:=H.mR (λ_ h=>h) ap;obtain⟨u,xs,a3,bW,rfl⟩:=aV.kV;obtain⟨w,il,fx,p2,rfl⟩:=bW.kV;have:=p2.oa;subst this;have eA:kg (dD F) args.toList=some [u,w]:=az;rw[a3.int,fx.int]at eA;simp only[cM,eA];cases h;refine k _ (.val ?_);simp only[aT];rw[kE,L6];by_cases iM:a<=b
   ·simp[iM];omega
   ·simp[iM];omega
  ·cases h
 ·unfold Zf at h;split at h
  ·rename_i t id off n c av ap;split at h
   ·rename_i a b z e o9;cases h;obtain⟨us,az,aV⟩:=H.mR (λ_ h=>h) ap;obtain⟨u,xs,a3,bW,rfl⟩:=aV.kV;have:=bW.oa;subst this;obtain⟨a',aE,rfl⟩:=a3.tk;have eA:kg (dD F) args.toList=some [_]:=az;simp only[cM,av,eA,o9];exact k _ (.val (by simp only[aT];rfl))
   ·cases h
  ·cases h
 ·unfold Zg at h;split at h
  ·rename_i ap;cases h;obtain⟨us,az,aV⟩:=H.mR (λ_ h=>h) ap;obtain⟨u,xs,a3,bW,rfl⟩:=aV.kV;have:=bW.oa;subst this;rw[a3.CV]at az;have eA:kg (dD F) args.toList=some [_]:=az;simp only[cM,eA];exact k _ (.val (by simp only[aT]))
  ·rename_i id off n c ap;obtain⟨ao,h⟩:=AF h;cases h;obtain⟨us,az,aV⟩:=H.mR (λ_ h=>h) ap;obtain⟨u,xs,a3,bW,rfl⟩:=aV.kV;have:=bW.oa;subst this;obtain⟨a',aE,rfl⟩:=a3.tk;have eA:kg (dD F) args.toList=some [_]:=az;simp only[cM,eA];refine⟨λe=>?_,k _ (.val ?_)⟩
   ·have:c=0:=by omega
    subst this;cases ao
   ·simp only[aT];exact⟨a',aE,rfl⟩
  ·rename_i id off e n ap;obtain⟨ao,h⟩:=AF h;cases h;obtain⟨us,az,aV⟩:=H.mR (λ_ h=>h) ap;obtain⟨u,xs,a3,bW,rfl⟩:=aV.kV;have:=bW.oa;subst this;obtain⟨a',aE,bn,rfl⟩:=a3.wa;have eA:kg (dD F) args.toList=some [_]:=az;simp only[cM,eA];refine⟨λbA=>?_,k _ (.val ?_)⟩
   ·have:n=0:=by omega
    subst this;cases ao
   ·simp only[aT];exact⟨a',aE,rfl⟩
  ·cases h
 ·cases h
def akf(aO:c6 X.P X.E){op:Op}{v:aq}(h:QU X.P X.E G m.t op al=some v)(H:jv D F al op.operands.toList)(hm:dx (ei X G pr) D m I M)(k:∀ x,gx D x v->V x):cM X op (dD F) C I M V O:=by
 unfold QU at h;split at h
 ·
  exact k _ (H _ (by simp[Op.operands]) _ h)
 ·exact k _ (H _ (by simp[Op.operands]) _ h)
 ·
  rename_i c a b;unfold Y0 at h;split at h
  ·rename_i q u w U aa af;cases h;have aN:=H c (by simp[Op.operands]) _ U;have aE:=H a (by simp[Op.operands]) _ aa;have ah:=H b (by simp[Op.operands]) _ af;simp only[cM];rcases aN with⟨asN,Fa,aN⟩ | ⟨fN,bA,Fa⟩
   ·rw[aN.bool]at Fa;simp only[Fa];obtain⟨Rs,oN,akg⟩:=aE.dR;obtain⟨HX,Ao,c5⟩:=ah.dR;have akh:dR (dD F) a=.val Rs:=oN;have aki:dR (dD F) b=.val HX:=Ao;rw[akh,aki];refine k _ (.inl ⟨bif q then Rs else HX,?_,?_⟩)
    ·exact akc q Rs HX
    ·cases q
     ·exact c5
     ·exact akg
   ·cases bA;simp only[Fa];cases q
    ·exact k _ ah
    ·exact k _ aE
  ·cases h
 ·
  rename_i asO t x;unfold Y1 at h;split at h
  ·rename_i b U;cases h;have ab:=H x (by simp[Op.operands]) _ U;simp only[cM];rcases ab with⟨u,e,hu⟩ | ⟨q,az,e⟩
   ·rw[hu.bool]at e;simp only[e];exact k _ (.val (by simp only[aT];rw[Rp]))
   ·cases az;simp only[e];exact k _ (.inr ⟨!b,by rw[Rp],rfl⟩)
  ·rename_i fY n U;cases h;have ab:=H x (by simp[Op.operands]) _ U;obtain⟨u,e,hu⟩:=ab.xz (by simp);rw[hu.int]at e;simp only[cM,e];exact⟨_,rfl,k _ (.val (by simp only[aT];rw[AG]))⟩
  ·cases h
 ·
  rename_i asP t x y dt;unfold Y2 at h;obtain⟨a,U,h⟩:=c1 h;obtain⟨b,aa,h⟩:=c1 h;obtain⟨u,az,aV⟩:=H.bG (x:=x) (by simp[Op.operands]) U;obtain⟨w,aF,a3⟩:=H.bG (x:=y) (by simp[Op.operands]) aa;have eA:dR (dD F) x=.val u:=az;have eX:dR (dD F) y=.val w:=aF;simp only[cM,eA,eX];exact aj6 aO h aV a3 λr ai=>k _ (.val ai)
 ·
  rename_i t x;unfold Y3 at h;obtain⟨i,hi,h⟩:=c1 h;obtain⟨a,U,h⟩:=c1 h;have ab:=H x (by simp[Op.operands]) _ U;have zd:∀ q,a≠.b q:=λq e=>by subst e;cases h
  obtain⟨u,az,aV⟩:=ab.xz zd;obtain⟨ad,l,vs,rfl,bu,ap,aD⟩:=AJ hm aV h;simp only[cM,hi,az];exact⟨vs,bu,k _ (.val (Mb aD ap))⟩
 ·
  rename_i x;unfold Y4 at h;split at h;·rename_i id off U;cases h;obtain⟨u,az,aV⟩:=(H x (by simp[Op.operands]) _ U).xz (by simp);obtain⟨a,aE,rfl⟩:=aV.ptr;simp only[cM,az];exact k _ (.val aV)
  ·rename_i id off U;cases h;obtain⟨u,az,aV⟩:=(H x (by simp[Op.operands]) _ U).xz (by simp);have:=aV.rc;subst this;simp only[cM,az];exact k _ (.val aV)
  ·cases h
 ·
  rename_i t x i;unfold Y5 at h;obtain⟨r,ai,h⟩:=c1 h;obtain⟨a,U,h⟩:=c1 h;obtain⟨off,hI⟩:=r;obtain⟨a9,h⟩:=AF h;obtain⟨sa,tl,sz,cE,mS,av,aC,uy⟩:=ZL ai;have ab:=H x (by simp[Op.operands]) _ U;have zd:∀ q,a≠.b q:=λq e=>by subst e;cases h
  obtain⟨u,az,aV⟩:=ab.xz zd;obtain⟨ad,rfl,ar,ak⟩:=ZJ h aV;have h4:Nat.beq hI.size 0=false:=a9;simp only[cM,av,aC,uy,az,h4,bf];exact k _ (.val ak)
 ·
  rename_i t x i;unfold Y6 at h;split at h;·rename_i off hI cs ao U;obtain⟨sa,tl,sz,cE,mS,av,aC,uy⟩:=ZL ao;obtain⟨u,az,aV⟩:=H.bG (x:=x) (by simp[Op.operands]) U;obtain⟨us,fZ,rfl⟩:=aV.agg;obtain⟨aa,af⟩:=ZK h fZ;have eA:dR (dD F) x=.val (.agg us.toArray):=az;simp only[cM,av,eA,aC,uy];rw[show Nat.ble (off+hI.size) us.toArray.size=true from Cs (by simpa using aa)];exact k _ (.val af)
  ·cases h
 ·
  rename_i t x i;unfold Y7 at h;obtain⟨r,ai,h⟩:=c1 h;obtain⟨a,U,h⟩:=c1 h;obtain⟨b,aa,h⟩:=c1 h;obtain⟨j,aj,h⟩:=c1 h;obtain⟨fY,rfl⟩:=E' aj;obtain⟨u,aF,a3⟩:=H.bG (x:=i) (by simp[Op.operands]) aa;rw[a3.int]at aF;have eX:dR (dD F) i=.val (.int fY (.ofNat j)):=aF;obtain⟨LB,aG⟩:=r;rcases aj9 ai with⟨sa,tl,sz,e,av,he,rfl⟩ | ⟨sa,tl,sz,n,e,av,he,rfl⟩;·have be:LQ a j aG.size=some v:=h;obtain⟨w,az,aV⟩:=H.bG (x:=x) (by simp[Op.operands]) U;obtain⟨ad,n,c,rfl,aS,ak⟩:=aj8 be aV;have eA:dR (dD F) x=.val (.slice (some ad) n c):=az;simp only[cM,av,eX,he,eA];exact⟨ad,j,rfl,rfl,aS,k _ (.val ak)⟩
  ·have be:cn (Nat.blt j n) (H7 a (Nat.mul j aG.size)) none=some v:=h;obtain⟨ah,be⟩:=g1 be;have ab:=H x (by simp[Op.operands]) _ U;have zd:∀ q,a≠.b q:=λq e=>by subst e;cases be
   obtain⟨w,az,aV⟩:=ab.xz zd;obtain⟨ad,rfl,ar,ak⟩:=ZJ be aV;simp only[cM,av,eX,he,az];exact⟨j,rfl,b0 ah,k _ (.val ak)⟩
 ·
  rename_i t x i;cases U:dB al x with
  |none=>rw[U]at h;unfold H8 at h;split at h<;>first | cases h | (rename_i e _;cases e)
  |some a=>
   cases aa:dB al i with
   |none=>rw[aa]at h;unfold H8 at h;split at h<;>first | cases h | (rename_i e;cases e)
   |some b=>rw[U,aa]at h;obtain⟨u,az,aV⟩:=H.bG (x:=x) (by simp[Op.operands]) U;obtain⟨w,aF,a3⟩:=H.bG (x:=i) (by simp[Op.operands]) aa;exact aka h aV a3 az aF k
 ·
  rename_i t parts;unfold Y9 at h;split at h
  ·rename_i i vs av aD;obtain⟨z,a9,h⟩:=c1 h;have h4:=bT.E9 (D:=D) a9;obtain⟨us,az,aV⟩:=H.parts (l:=parts.toList) (by intro y aH;simpa[Op.operands]using aH) aD;have eA:tN (dD F) parts.toList=some us:=az
   try simp only at h
   split at h;·rename_i cE ot;obtain⟨m7,h⟩:=g1 h;unfold H9 at h;obtain⟨cs,af,aP⟩:=c1 h;have fI:some (aq.a cs)=some v:=aP;cases fI;obtain⟨bg,bq,bj⟩:=Mc af h4 aV;simp only[cM,av,eA,ot,m7,bh,bq];exact k _ (.val (.L' bj))
   ·rename_i n e ot;obtain⟨aG,he,h⟩:=c1 h;have be:H9 (AA (λj=>some (j*aG.size,aG.size)) z vs)=some v:=h;unfold H9 at be;obtain⟨cs,af,aP⟩:=c1 be;have fI:some (aq.a cs)=some v:=aP;cases fI;obtain⟨bg,bq,bj⟩:=Mc af h4 aV;simp only[cM,av,eA,ot,he,bq];exact k _ (.val (.L' bj))
   ·cases h
  ·cases h
 ·
  rename_i f first captured
  unfold Y' at h;split at h
  ·rename_i g cE cs U aa;cases h;obtain⟨us,az,aV⟩:=H.mR (l:=first.toList) (by intro y aH;simp[Op.operands];exact .inl (by simpa using aH)) U;obtain⟨ws,aF,a3⟩:=H.mR (l:=captured.toList) (by intro y aH;simp[Op.operands];exact .inr (by simpa using aH)) aa;have eA:kg (dD F) first.toList=some us:=az
   have eX:kg (dD F) captured.toList=some ws:=aF;simp only[cM,eA,eX];exact k _ (.val (by simp only[aT];exact⟨us,ws,aV,a3,rfl⟩))
  ·cases h
 ·
  rename_i t x lo hi;cases U:dB al x with
  |none=>rw[U]at h;unfold H' at h;split at h<;>first | cases h | (rename_i e _ _;cases e)
  |some a=>
   rw[U]at h;cases aa:CO (lo.map (dB al))with
   |none=>rw[aa]at h;unfold H' at h;split at h<;>first | cases h | (rename_i e _;cases e)
   |some l=>
    rw[aa]at h;cases af:CO (hi.map (dB al))with
    |none=>rw[af]at h;unfold H' at h;split at h<;>first | cases h | (rename_i e;cases e)
    |some bl=>
     rw[af]at h;obtain⟨u,az,aV⟩:=H.bG (x:=x) (by simp[Op.operands]) U;have eA:dR (dD F) x=.val u:=az;have eH:=ZM H (λy aH=>by subst aH;simp[Op.operands]) aa;have e1:=ZM H (λy aH=>by subst aH;simp[Op.operands]) af;unfold H' at h;split at h
     ·rename_i sa tl sz e lr akj di av bo dw gd;cases bo;cases dw;cases gd;obtain⟨aG,he,h⟩:=c1 h;have be:QR aG a l bl=some v:=h;unfold QR at be;split at be
      ·have el:lo.map (dR (dD F))=none:=by
        rcases eH with⟨el,_⟩ | ⟨_,_,_,el⟩;·exact el
        ·cases el
       have pD:hi.map (dR (dD F))=none:=by
        rcases e1 with⟨pD,_⟩ | ⟨_,_,_,pD⟩;·exact pD
        ·cases pD
       have jZ:∃ q n c,u=.slice q n c/\aT D v u:=by
        split at be;·cases be;exact⟨_,_,_,aV.CV,aV⟩
        ·cases be;obtain⟨q,_,rfl⟩:=aV.tk;exact⟨_,_,_,rfl,aV⟩
        ·cases be;obtain⟨q,_,_,rfl⟩:=aV.wa;exact⟨_,_,_,rfl,aV⟩
        ·cases be;obtain⟨q,c,rfl⟩:=aV.L9;exact⟨_,_,_,rfl,aV⟩
        ·cases be
       obtain⟨q,n,c,rfl,ak⟩:=jZ;simp only[cM,av,eA,he,el,pD,vh];exact k _ (.val ak)
      ·obtain⟨q,n,c,rfl,eY,dS,s6,ak⟩:=akb be aV;simp only[cM,av,eA,he,vh];rcases eH with⟨el,rfl⟩ | ⟨hK,Il,el,rfl⟩<;>rcases e1 with⟨pD,rfl⟩ | ⟨akk,Im,pD,rfl⟩<;>simp only[el,pD]
       ·rename_i bH;exact(bH rfl rfl).elim
       ·simp only[vg,ib]at eY dS ak;refine⟨0,Im,rfl,rfl,bw _,dS,k _ (.val ?_)⟩;simp only[BI,xh]at ak;have cJ:(if c=0 then q else q.map λx=>x.add 0)=q:=by
         split;·rfl
         ·cases q with
          |none=>rfl| some q=>simp[Addr.add]
        rw[cJ]at ak;exact ak
       ·simp only[vg,ib]at eY dS ak;exact⟨Il,n,rfl,rfl,eY,bY _,k _ (.val ak)⟩
       ·simp only[vg,ib]at eY dS ak;exact⟨Il,Im,rfl,rfl,eY,dS,k _ (.val ak)⟩
     ·rename_i sa tl sz str akj di av bo dw gd;cases bo;cases dw;cases gd;rw[aV.str]at eA;have be:QS str l bl=some v:=h;unfold QS at be;split at be
      ·have el:lo.map (dR (dD F))=none:=by
        rcases eH with⟨el,_⟩ | ⟨_,_,_,el⟩;·exact el
        ·cases el
       have pD:hi.map (dR (dD F))=none:=by
        rcases e1 with⟨pD,_⟩ | ⟨_,_,_,pD⟩;·exact pD
        ·cases pD
       cases be;simp only[cM,av,eA,el,pD];exact k _ (.val (by simp only[aT]))
      ·obtain⟨ah,be⟩:=g1 be;cases be;rw[cp]at ah;have b1:=b0 ah.1;have cb:=b0 ah.2;have c8:(⟨str.toArray⟩:ByteArray).size=str.length:=by simp[ByteArray.size]
       simp only[cM,av,eA];rcases eH with⟨el,rfl⟩ | ⟨hK,Il,el,rfl⟩<;>rcases e1 with⟨pD,rfl⟩ | ⟨akk,Im,pD,rfl⟩<;>simp only[el,pD]
       ·rename_i bH;exact(bH rfl rfl).elim
       ·simp only[vg,ib]at b1 cb;exact⟨0,Im,rfl,rfl,bw _,by rw[c8];exact cb,k _ (.val (by simp only[aT,vg,ib,Rr]))⟩
       ·simp only[vg,ib]at b1 cb;exact⟨Il,str.length,rfl,by rw[c8];rfl,b1,by rw[c8];exact bY _,k _ (.val (by simp only[aT,vg,ib,Rr,c8]))⟩
       ·simp only[vg,ib]at b1 cb;exact⟨Il,Im,rfl,rfl,b1,by rw[c8];exact cb,k _ (.val (by simp only[aT,vg,ib,Rr]))⟩
     ·cases h
 ·
  rename_i x i;unfold Za at h;split at h;·rename_i vs U;obtain⟨u,az,aV⟩:=H.bG (x:=x) (by simp[Op.operands]) U;obtain⟨us,fZ,rfl⟩:=aV.Rk;rw[AI]at h;obtain⟨w,hw,ak⟩:=fZ.get h;have eA:dR (dD F) x=.val (.tuple us.toArray):=az;simp only[cM,eA,hw];exact k _ (.val ak)
  ·cases h
 ·
  rename_i s d x;unfold Zb at h;split at h;·rename_i fY eJ n ar ag U;cases h;obtain⟨u,az,aV⟩:=H.bG (x:=x) (by simp[Op.operands]) U;rw[aV.int]at az;have eA:dR (dD F) x=.val (.int eJ n):=az;simp only[cM,ar,ag,eA];exact⟨_,rfl,k _ (.val (by simp only[aT];rw[AG]))⟩
  ·cases h
 ·
  rename_i b args ts;exact ake aO h (by simpa[Op.operands,Call.operands]using H) k
 ·cases h
end
def bR.set(D:bR)(id:Nat)(a:Loc):bR:=λi=>if i=id then some a else D i
def bR.qo(D:bR)(id:Nat)(a:Loc):(D.set id a) id=some a:=by simp[bR.set]
def bR.le_refl(D:bR):D.le D:=λ_ _ h=>h
def bR.le_trans{D bD Io:bR}(h:D.le bD)(k:bD.le Io):D.le Io:=λi a e=>k _ _ (h _ _ e)
def bR.AK{D:bR}{id:Nat}(a:Loc)(h:D id=none):D.le (D.set id a):=λi b ah=>by
 unfold bR.set;split
 ·rename_i e;subst e;rw[h]at ah;cases ah
 ·exact ah
def bR.ext(D bD:bR)(n:Nat):Prop:=∀ i,i<n->bD i=D i
def bR.pE{D:bR}{n:Nat}:D.ext D n:=λ_ _=>rfl
def bR.Fb{D:bR}{n:Nat}{a:Loc}:D.ext (D.set n a) n:=λi hi=>by unfold bR.set;rw[ca (by omega)]
section
variable{Y:hh}{D bD:bR}{m:bp}{I I':aR}{M M':List aI}{R:Type}
def Ik.mono{G:GT}(h:Ik G I)(bL:∀ b o,I b=some o->I' b=some o):Ik G I':=λg cs aA=>by obtain⟨arr,T,f,U,aa⟩:=h g cs aA;exact⟨arr,T,f,bL _ _ U,aa⟩
def dx.le(h:dx Y D m I M)(dE:D.ext bD m.n):D.le bD:=λi a aE=>by rw[dE i (h.j5 _ _ aE)];exact aE
def dx.step(h:dx Y D m I M){dt:bi fW}{et:Nat}{cJ:fW}{a:Loc}(av:∀ id e,dt.get id=some e->(id=j/\cJ=e)\/(id≠j/\m.t.get id=some e))(aj:bD j=some a)(bn:D.le bD)(dE:∀ i,i≠j->bD i=D i)(akl:∀ id a,bD id=some a->id<et)(bL:∀ b o,I b=some o->I' b=some o)(rJ:∀ id e a',id≠j->m.t.get id=some e->D id=some a'->∀ x∈M,x.num=a'.b->x∈M')
  (he:lN bD Y.E M' a cJ) (Ci:∀ id e a',id≠j->m.t.get id=some e->D id=some a'->a'.b≠a.b):dx Y bD ⟨dt,et⟩ I' M' where
 jc id e bz aA U:=by
  rcases av id e aA with⟨az,aF⟩ | ⟨bH,aA⟩;·subst az;subst aF;rw[aj]at U;cases U;exact he
  ·rw[dE id bH]at U;exact(h.jc id e bz aA U).mono bn λx ab aw=>rJ id e bz bH aA U x ab aw
 inj id iP e bA bz bJ aA ml U aa ah:=by
  rcases av id e aA with⟨az,aF⟩ | ⟨bH,aA⟩
  ·rcases av iP bA ml with⟨bo,dw⟩ | ⟨Bt,ml⟩
   ·rw[az,bo]
   ·rw[dE iP Bt]at aa;subst az;rw[aj]at U;cases U;exact(Ci iP bA bJ Bt ml aa ah.symm).elim
  ·rw[dE id bH]at U;rcases av iP bA ml with⟨bo,dw⟩ | ⟨Bt,ml⟩
   ·subst bo;rw[aj]at aa;cases aa;exact(Ci id e bz bH aA U ah).elim
   ·rw[dE iP Bt]at aa;exact h.inj id iP e bA bz bJ aA ml U aa ah
 j5:=akl
 rc:=h.rc.mono bL
def dx.fresh(h:dx Y D m I M):D m.n=none:=by
 cases dE:D m.n with
 |none=>rfl| some a=>exact absurd (h.j5 _ _ dE) (Nat.lt_irrefl _)
def dx.aL(h:dx Y D m I M){id:Nat}{e:fW}{a:Loc}(aA:m.t.get id=some e)(aE:D id=some a):∃ x∈M,x.num=a.b:=by
 cases h.jc id e a aA aE with
 |cells arr ao U=>exact⟨_,U,rfl⟩| map l c U=>exact⟨_,U,rfl⟩| loop L U=>exact⟨_,U,rfl⟩| done L U=>exact⟨_,U,rfl⟩
def dx.new(h:dx Y D m I M){dt:bi fW}{cJ:fW}{a:Loc}{o:Obj}(av:∀ id e,dt.get id=some e->(id=m.n/\some cJ=some e)\/(id≠m.n/\m.t.get id=some e))(aC:∀ x∈M,x.num≠a.b)
  (he:lN (D.set m.n a) Y.E (⟨a.b,o⟩::M) a cJ):dx Y (D.set m.n a) ⟨dt,m.n+1⟩ I (⟨a.b,o⟩::M):=
 h.step (λid e aA=>(av id e aA).imp (λh=>⟨h.1,pC h.2⟩) λh=>h) (D.qo _ _) (bR.AK a h.fresh) (λi hi=>by unfold bR.set;rw[ca hi])
  (λid b ah=>by
   unfold bR.set at ah;split at ah;·omega
   ·have:=h.j5 _ _ ah;omega)
  (λ_ _ h=>h) (λ_ _ _ _ _ _ x ab _=>oU _ ab) he
  (λid e a' _ aA Aq ah=>by
   obtain⟨x,ab,aw⟩:=h.aL aA Aq;exact aC x ab (aw.trans ah))
def lN.new{l:List aq}{aQ:List Value}{c:Nat}{b:Nat}{cs:bi aq}(mo:∀ j x,cs.get j=some x->(0<=j/\l[j-0]?=some x)\/((j<0\/0+l.length<=j)/\(bi.nil:bi aq).get j=some x))(ap:bT D l vs)
  (ae:∀ i,Y.E T=some i->(vs++aQ).length=c*i.size) (aN:c<=maxLen):lN D Y.E (⟨b,.cells (vs++aQ).toArray T (0,0)⟩::M) ⟨b,0,c⟩ (.cells cs T l.length):=by
 refine .cells (vs++aQ).toArray rfl (by simp) (by simp[ap.len]) (λi v hi aA=>?_) (λi hi=>by simpa using ae i hi) aN;rcases mo i v aA with⟨_,U⟩ | ⟨_,U⟩
 ·obtain⟨x,aa,af⟩:=ap.get (i:=i) (by simpa using U);have aS:=(kc.1 aa).1;exact⟨x,by simp only[dz,BG];rw[pT aS];exact aa,af⟩
 ·cases U
def Ip{e:fW}{K:Nat->bp->Option R}{r:R}(h:CP m e K=some r):∃ dt,(∀ id bA,dt.get id=some bA->(id=m.n/\some e=some bA)\/(id≠m.n/\m.t.get id=some bA))/\K m.n ⟨dt,m.n+1⟩=some r:=by unfold CP at h;rw[Rg]at h;obtain⟨dt,U,aa⟩:=bi.pB (some e) m.t m.n;rw[U]at h;exact⟨dt,aa,h⟩
def Rt{l:List aq}{K:Nat->bp->Option R}{r:R}(h:v9 m l T K=some r):∃ m',K m.n m'=some r/\m'.n=m.n+1 /\
  ∀ {D:bR} {I:aR} {M:List aI} {vs:List Value} (aQ:List Value) {b c:Nat},dx Y D m I M->(∀ x∈M,x.num≠b)->bT D l vs->(∀ i,Y.E T=some i->(vs++aQ).length=c*i.size)->c<=maxLen ->
   dx Y (D.set m.n ⟨b,0,c⟩) m' I (⟨b,.cells (vs++aQ).toArray T (0,0)⟩::M):=by
 unfold v9 at h;obtain⟨cs,U,aa⟩:=bi.zb l (.nil:bi aq) 0;rw[U]at h;obtain⟨dt,af,aP⟩:=Ip h;refine⟨_,aP,rfl,fun {D I M vs} aQ {b c} hm aC ap ae aN=>?_⟩;exact hm.new (a:=⟨b,0,c⟩) af aC (.new aa (ap.mono (bR.AK _ hm.fresh)) ae aN)
end
def akm(z:List Value)(n:Nat):rowOf z (z.length+n)=rowOf z z.length++rowOf z n:=by unfold rowOf;rw[List.range_add,fi,h7];congr 1;apply mA;intro i _;simp[Nat.add_mod_left]
def akn(z:List Value):rowOf z z.length=z:=by
 unfold rowOf;apply ys
 ·simp
 ·intro i U aa;simp only[lA,r2,HN aa];simp[aa]
def Ru(z:List Value):∀ n,rowOf z (n*z.length)=(List.replicate n z).flatten
 |0=>by simp[rowOf]
 |n+1=>by rw[Nat.succ_mul,F7,akm,akn,Ru z n,vR,Pd]
def ZN(place:Nat->Option (Nat×Nat)):∀ (vs:List (Nat×Value)) (cs r:List Value),tM place cs vs=some r->r.length=cs.length
 |[],cs,r,h=>by simp only[tM]at h;cases h;rfl
 |(i,v)::vs,cs,r,h=>by
  simp only[tM]at h;split at h;·cases h
  ·rename_i off size aD;cases ah:(Nat.beq v.cells.size size&&Nat.ble (off+size) cs.length)with
   |false=>rw[ah]at h;cases h| true=>rw[ah]at h;simp only[bh]at h;rw[ZN place vs _ _ h];rw[cp]at ah;have U:=cK ah.1;have aa:=b0 ah.2;simp[bK];omega
def AL(dst:Option Nat)(u:Value)(F eD:Fr):Prop:=(∀ d,dst=some d->eD d=.val u)/\∀ (D:bR) t v,dst≠some t->gx D (F t) v->gx D (eD t) v
def AL.put(dst:Option Nat)(u:Value)(F:Fr):AL dst u F (put dst (.val u) F):=by
 constructor
 ·rintro d rfl;simp[Go.V.put,g3]
 ·intro D t v bH h;cases dst with
  |none=>exact h| some d=>have:t≠d:=λe=>bH (by rw[e]);simp only[Go.V.put,g3,hy this,bf];exact h
def AL.qu(d:Nat)(u:Value)(F:Fr):AL (some d) u F (g3 (qu F d) d (.val u)):=by
 constructor
 ·rintro _⟨⟩;simp[g3]
 ·intro D t v bH h;have:t≠d:=λe=>bH (by rw[e]);simp only[g3,hy this,bf];unfold Go.V.qu;rcases h with⟨ako,e,h⟩ | ⟨q,e,h⟩
  ·rw[e];exact .inl ⟨ako,rfl,h⟩
  ·rw[h];exact .inr ⟨q,e,rfl⟩
section
variable{X:c7}{G:GT}{pr:mb}{D:bR}{m:bp}{F:Fr}{al:bi aq}{C:d'}{I:aR}{M:List aI}{K:gp}{o:Oper}
def ZO(aO:c6 X.P X.E)(kL:∀ d,d<X.n->X.g5.contains d=true)(ag:∀ d,o.dst=some d->d<X.n){l:List aq}{c:Nat}{mk:Nat->aq}(h:CR X.E o al=some (l,T,c,mk))(Iq:o.dst.isSome=true)(H:jv D F al o.op.operands.toList)
  (k:∀ b vs u eD C',I b=none->(∀ x∈M,x.num≠b)->bT D l vs->(∀ i,X.E T=some i->vs.length=c*i.size)->c<=maxLen->(∀ (bD:bR) id,bD id=some ⟨b,0,c⟩->aT bD (mk id) u)->AL o.dst u F eD ->
   K eD C' I (⟨b,.cells vs.toArray T (0,0)⟩::M)):g6 X o F C I M K:=by
 obtain⟨dst,op,ty,pos,after,guard⟩:=o;cases dst with
 |none=>cases Iq
 |some d=>
  have rL:X.g5.contains d=true:=kL d (ag d rfl);have ZP:∀ (b c:Nat) (bD:bR) id,bD id=some ⟨b,0,c⟩->aT bD (.p id 0) (.pointer (some ⟨b,0,none⟩)):=λb c bD id kF=>by simp only[aT];exact⟨_,kF,rfl⟩
  unfold CR at h;simp only at h H;split at h
  ·rename_i t x;unfold Zj at h;obtain⟨i,hi,h⟩:=c1 h;obtain⟨v,ak,h⟩:=c1 h;obtain⟨ah,h⟩:=g1 h;cases h;obtain⟨u,az,aV⟩:=H.bG (x:=x) (by simp[Op.operands]) ak;have aN:=aV.cells;simp only[g6,az,rL,bh];refine⟨λb U aa=>?_⟩;have:=k b u.cells.toList (.pointer (some ⟨b,0,none⟩)) _ (jy C d none) U aa aN (λhv di=>?_) (by decide) (ZP b 1) (.qu d _ F)
   ·simpa using this
   ·rw[hi]at di;cases di;rw[aN.len,oy];exact cK ah
  ·rename_i t;unfold Zk at h;obtain⟨i,hi,h⟩:=c1 h;obtain⟨z,a9,h⟩:=c1 h;cases h;simp only[g6,hi,rL,bh];refine⟨λb U aa=>?_⟩;exact k b i.zero (.pointer (some ⟨b,0,none⟩)) _ (jy C d none) U aa (.E9 a9) (λhv di=>by rw[hi]at di;cases di;rw[(aO _ _ hi).len,oy]) (by decide) (ZP b 1) (.qu d _ F)
  ·rename_i t len parts;unfold Zl at h;split at h
   ·rename_i sa tl sz e vs av aD;obtain⟨aG,he,h⟩:=c1 h;obtain⟨z,a9,h⟩:=c1 h;obtain⟨us,az,aV⟩:=H.parts (l:=parts.toList) (by intro y aH;simpa[Op.operands]using aH) aD;simp only[g6,av,az,he];have KA:=(aO _ _ he).len;cases ah:(Nat.ble (len*aG.size) 16777216&&Nat.blt 0 (len*aG.size))with
    |true=>
     have gV:(Nat.ble (Nat.mul len aG.size) 16777216&&Nat.blt 0 (Nat.mul len aG.size))=true:=ah;rw[kE,gV]at h;simp only[bh]at h |-;obtain⟨cs,af,aP⟩:=c1 h;have fI:some (cs,e,len,λid=>aq.sl id 0 len len)=some (l,T,c,mk):=aP;cases fI;have q4:bT D (CQ c z) (rowOf aG.zero (c*aG.size)):=by rw[<-KA,Ru];exact(bT.E9 a9).oG c
     obtain⟨bg,bq,bj⟩:=Mc af q4 aV;rw[bq];refine⟨λb U aa=>?_⟩;have b3:bg.length=c*aG.size:=by rw[ZN _ _ _ _ bq];simp[rowOf]
     rw[cp]at ah;have oA:=b0 ah.1;have hL:0<c*aG.size:=b0 ah.2;exact k b bg (.slice (some ⟨b,0,none⟩) c c) _ C U aa bj (λhv di=>by rw[he]at di;cases di;exact b3)
      (by
       have eh:0<aG.size:=Nat.pos_of_mul_pos_left hL;have:c<=c*aG.size:=Nat.le_mul_of_pos_right _ eh;simp only[maxLen];omega)
      (λbD id kF=>by simp only[aT];exact⟨_,kF,rfl⟩) (.put _ _ F)
    |false=>
     have gV:(Nat.ble (Nat.mul len aG.size) 16777216&&Nat.blt 0 (Nat.mul len aG.size))=false:=ah;rw[kE,gV]at h;simp only[bf]at h |-;obtain⟨aN,h⟩:=g1 h;cases h;rw[cp]at aN;have af:=cK aN.1;subst af;have aP:vs=[]:=by simpa using aN.2
     subst aP;cases aV;simp only;refine⟨λb U aa=>?_⟩;exact k b [] (.slice (some ⟨b,0,none⟩) 0 0) _ C U aa .nil (λhv di=>by simp) (by decide) (λbD id kF=>by simp only[aT];exact⟨_,kF,rfl⟩) (.put _ _ F)
   ·cases h
  ·rename_i t l' c';unfold Zm at h;split at h
   ·rename_i sa tl sz e JS asQ av U aa;obtain⟨aG,he,h⟩:=c1 h;obtain⟨n,aw,h⟩:=c1 h;obtain⟨q,ay,h⟩:=c1 h;obtain⟨z,a9,h⟩:=c1 h;obtain⟨ah,h⟩:=g1 h;cases h;obtain⟨eJ,rfl⟩:=E' aw;obtain⟨cU,rfl⟩:=E' ay;obtain⟨wb,az,aV⟩:=H.bG (x:=l') (by simp[Op.operands]) U;obtain⟨sk,aF,a3⟩:=H.bG (x:=c') (by simp[Op.operands]) aa;rw[aV.int]at az;rw[a3.int]at aF;simp only[cp]at ah;simp only[g6,av,az,aF,he];refine⟨n,c,rfl,rfl,b0 ah.1,b0 ah.2.1,b0 ah.2.2,⟨λb af aP=>?_⟩⟩;have KA:=(aO _ _ he).len;have q4:bT D (CQ c z) (rowOf aG.zero (c*aG.size)):=by rw[<-KA,Ru];exact(bT.E9 a9).oG c
    exact k b _ (.slice (some ⟨b,0,none⟩) n c) _ C af aP q4 (λhv di=>by rw[he]at di;cases di;simp[rowOf]) (b0 ah.2.2) (λbD id kF=>by simp only[aT];exact⟨_,kF,rfl⟩) (.put _ _ F)
   ·cases h
  ·cases h
end
def ZQ{i:Nat}(h:off+vs.length<=cs.length):(bK cs off vs)[i]?=if off<=i/\i<off+vs.length then vs[i-off]? else cs[i]?:=by
 unfold bK;by_cases U:i<off
 ·rw[ca (by omega),pT (by simp;omega),pT (by simp;omega),lp,cG U]
 ·by_cases aa:i<off+vs.length
  ·rw[cG ⟨by omega,aa⟩,pT (by simp;omega),l3 (by simp;omega)];simp;congr 1;omega
  ·rw[ca (by omega),l3 (by simp;omega),om];congr 1;simp;omega
def Rv(h:off+vs.length<=cs.length):(bK cs off vs).length=cs.length:=by simp[bK];omega
section
variable{Y:hh}{D:bR}{m:bp}{I:aR}{M:List aI}{R:Type}
def Rw{x:aq}{l:List aq}{K:bp->Option R}{r:R}(h:y' m x l K=some r):∃ m',K m'=some r/\m'.n=m.n/\(∀ id,m'.t.get id≠none->m.t.get id≠none\/True) /\
  ∀ {D:bR} {I:aR} {M:List aI} {u:Value} {vs:List Value},dx Y D m I M->aT D x u->bT D l vs ->
   ∃ (g off:Nat) (a8 post:List aI) (arr:Array Value) (T:Nat),u=.pointer (some ⟨g,off,none⟩)/\M=a8++⟨g,.cells arr T (0,0)⟩::post/\off+vs.length<=arr.size/\gU vs=true /\ (∃ id e a,m.t.get id=some e/\D id=some a/\a.b=g) /\
    dx Y D m' I (a8++⟨g,.cells (bK arr.toList off vs).toArray T (0,0)⟩::post):=by
 unfold y' at h;split at h
 ·rename_i id off;split at h
  ·rename_i cs T fh aA;cases ah:(Nat.ble (Nat.add off l.length) fh&&l.all aq.one)with
   |false=>rw[ah]at h;cases h
   |true=>
    rw[ah]at h;simp only[bh]at h;rw[cp]at ah;have wc:off+l.length<=fh:=b0 ah.1;obtain⟨cs',U,aa⟩:=bi.zb l cs off;rw[U]at h;obtain⟨dt,af,aP⟩:=bi.pB (some (fW.cells cs' T fh)) m.t id;rw[af]at h;refine⟨_,h,rfl,λ_ _=>.inr trivial,fun {D I M u vs} hm ab ap=>?_⟩;obtain⟨a,aE,rfl⟩:=ab.ptr;have he:=hm.jc _ _ _ aA aE;obtain⟨arr,au,a2,c8,aN,ae,g4⟩:=he;have b3:=ap.len;obtain⟨a8,post,cg⟩:=v5 a2;have g9:off+vs.length<=arr.size:=by omega
    refine⟨a.b,off,a8,post,arr,T,by rw[au,dz],cg,g9,ap.one ah.2,⟨id,_,a,aA,aE,rfl⟩,?_⟩;have gb:∀ x∈M,x.num≠a.b->x∈a8++⟨a.b,.cells (bK arr.toList off vs).toArray T (0,0)⟩::post:=λx ab aw=>by
     rw[cg]at ab;rcases dV.1 ab with ab | ab;·exact dV.2 (.inl ab)
     ·rcases eL.1 ab with rfl | ab
      ·exact(aw rfl).elim
      ·exact dV.2 (.inr (oU _ ab))
    refine hm.step (λi e hi=>(aP i e hi).imp (λq=>⟨q.1,pC q.2⟩) λq=>q) aE (bR.le_refl D) (λ_ _=>rfl) hm.j5 (λ_ _ h=>h) (λi e a' bH hi rh x ab aw=>gb x ab ?_) ?_ ?_;·rw[aw];exact λah=>bH (hm.inj _ _ _ _ _ _ hi aA rh aE ah)
    ·have AM:(bK arr.toList off vs).length=arr.size:=by rw[Rv (by simpa using g9)];simp
     refine .cells (bK arr.toList off vs).toArray au (by simp) (by simp[AM];exact c8) (λi v hi Ir=>?_) (λi hi=>by simp[AM];exact ae i hi) g4;rw[au,dz];simp only[BG];rw[ZQ (by simpa using g9)];rcases aa i v Ir with⟨aV,a3⟩ | ⟨aV,a3⟩;·have aS:=(kc.1 a3).1;rw[cG ⟨aV,by omega⟩];exact ap.get a3
     ·rw[ca (by omega)];have:=aN i v hi a3;rw[au,dz]at this;simpa using this
    ·intro i e a' bH hi rh ah;exact bH (hm.inj _ _ _ _ _ _ hi aA rh aE ah)
  ·cases h
 ·cases h
def Rx:∀ {l:List aq} {cO:List UInt8} {vs:List Value},E1 l=some cO->bT D l vs->vs=cO.map (λb=>.int .u8 b.toNat)
 |[],cO,vs,h,ap=>by simp only[E1]at h;cases h;exact ap.oa
 |v::l,cO,vs,h,ap=>by
  unfold E1 at h;split at h;·rename_i e;cases e
  ·rename_i n l' e;cases e;cases ah:Nat.ble n 255 with
   |false=>rw[ah]at h;cases h
   |true=>
    rw[ah]at h;simp only[bh]at h;split at h;·rename_i r ai;cases h;obtain⟨x,xs,U,aa,rfl⟩:=ap.kV;have aw:=b0 ah;rw[Rx ai aa,U.int];simp only[dv,w7,and_true,Value.int.injEq,true_and];rw[UInt8.toNat_ofNat_of_lt' (show n<256 by omega)];rfl
    ·cases h
  ·cases h
inductive AN:TypeDesc->aq->Prop
 |int{k n}:AN (.int k) (.i k n)| str {l}:AN .string (.s l)
def ZR(aO:c6 P E){k:Nat}{y:aq}(h:LX (E k) y=true):∃ d,P.underlying k=some d/\AN d y:=by
 unfold LX at h;split at h
 ·rename_i fY ed n ae;have:=IntKind.DL h;subst this;obtain⟨d,hu,ag⟩:=(aO _ _ ae).fp;refine⟨d,hu,?_⟩;have:d=.int fY:=by cases d<;>simp_all[fo]
  subst this;exact .int
 ·rename_i l ae;obtain⟨d,hu,ag⟩:=(aO _ _ ae).fp;refine⟨d,hu,?_⟩;have:d=.string:=by cases d<;>simp_all[fo]
  subst this;exact .str
 ·cases h
def AN.isKey{y:aq}{u:Value}(h:AN d y)(aH:aT D y u):MapKept.IsKey d u:=by
 cases h with
 |int=>rw[aH.int];rfl| str=>rw[aH.str];trivial
def ZS(a b:ByteArray):(a == b)=decide (a=b):=by rw[pQ,MapKept.bytes_beq];simp
def Fc{y x:aq}{u:Value}{r:Bool}(h:AN d y)(aH:aT D y u)(ab:aT D x w)(he:EW y x=some r):Instr.sameNow d u w=some r:=by
 cases h with
 | @int k n=>
  rw[aH.int];unfold EW at he;split at he;·rename_i e;cases e
  ·rename_i eJ a cU b e;cases e;obtain⟨U,aa⟩:=g1 he;have:=IntKind.DL U;subst this;cases aa;rw[ab.int];simp only[Instr.sameNow,sD,zc];congr 1
  ·rename_i e;cases e
  ·cases he
 | @str l=>
  rw[aH.str];unfold EW at he;split at he;·rename_i e;cases e
  ·rename_i e;cases e
  ·rename_i a b e;cases e;cases he;rw[ab.str];simp only[Instr.sameNow];rw[ZS,Md,CU]
  ·cases he
def ZT{d:TypeDesc}{y:aq}{u:Value}(h:AN d y)(aH:aT D y u):∀ {es:List (aq×aq)} {l:List MapEntry} {r:Option aq} (i:Nat),rf D es l->Ia y es=some r ->
  match r with
  |none=>Instr.findNow d u l i=some none| some v=>∃ j w,Instr.findNow d u l i=some (some (j,w))/\aT D v w
 |[],_,r,i,.nil,ap=>by simp only[Ia]at ap;cases ap;rfl
 |(x,v)::es,_,r,i,.cons (e:=e) (l:=l) ae ak t,ap=>by
  simp only[Ia]at ap;split at ap;·rename_i he;cases ap;refine⟨i,e.val,?_,ak⟩;simp only[Instr.findNow,Fc h aH ae he]
  ·rename_i he;have a7:=ZT h aH (i+1) t ap;simp only[Instr.findNow,Fc h aH ae he];exact a7
  ·cases ap
def ZU{d:TypeDesc}{y v:aq}{u w:Value}(h:AN d y)(aH:aT D y u)(ak:aT D v w):∀ {es we:List (aq×aq)} {l:List MapEntry} (i:Nat),rf D es l->Ib y v es=some we -> (Instr.findNow d u l i=some none/\∀ b,rf D we (l++[{ key:=u,val:=w,born:=b }])) \/ ∃ j e,Instr.findNow d u l i=some (some (i+j,e.val))/\l[j]?=some e/\Instr.sameNow d u e.key=some true/\rf D we (l.modify j λe=>{ e with key:=u,val:=w })
 |[],we,_,i,.nil,ap=>by simp only[Ib]at ap;cases ap;exact .inl ⟨rfl,λb=>.cons aH ak .nil⟩
 |(x,sj)::es,we,_,i,.cons (e:=e) (l:=l) ae ls t,ap=>by
  simp only[Ib]at ap;split at ap
  ·rename_i he;cases ap;refine .inr ⟨0,e,?_,rfl,Fc h aH ae he,?_⟩
   ·simp only[Instr.findNow,Fc h aH ae he,oo]
   ·simp only[List.modify_zero_cons];exact .cons aH ak t
  ·rename_i he;split at ap
   ·rename_i r ai;cases ap;rcases ZU h aH ak (i+1) t ai with⟨U,aa⟩ | ⟨j,bA,U,aa,af,aP⟩
    ·refine .inl ⟨?_,λb=>.cons ae ls (aa b)⟩;simp only[Instr.findNow,Fc h aH ae he];exact U
    ·refine .inr ⟨j+1,bA,?_,by simpa using aa,af,?_⟩
     ·simp only[Instr.findNow,Fc h aH ae he];rw[U];congr 3;omega
     ·simp only[List.modify_succ_cons];exact .cons ae ls aP
   ·cases ap
  ·cases ap
end
section
variable{P:Program}{w:World}
def akp{k e:Nat}(av:P.underlying t=some (.map k e))(ae:P.underlying k=some d){u:Value}(xA:MapKept.IsKey d u){l:List MapEntry}(aA:w.heap[g]?=some (.map l.toArray clock))
  {q:Option (Nat×Value)} (aC:Instr.findNow d u l 0=some q) {inf:TypeInfo} {z:Value} (hi:P.info? e=some inf) (a9:inf.zero=some z) (ok:Bool) :
  (Instr.lookup t (.map (some g)) u ok).run P w=.ok (bif ok then .tuple #[(q.map (·.2)).getD z,.bool q.isSome]else(q.map (·.2)).getD z) w:=by
 have aN:(Instr.checkKey l.toArray.isEmpty 10000 k u).run P w=.ok () w:=D' ae xA _ 9999;have vO:(Instr.findKey k u l).run P w=.ok q w:=Ea ae aC;have Mf:(zeroValue e).run P w=.ok z w:=by simp[zeroValue,typeInfo,hi,a9]
 unfold Instr.lookup;simp only[cy,run_underlying av,cc,D9 aA,dc,aN,vO];cases q with
 |none=>cases ok<;>simp[Mf]
 |some p=>cases ok<;>simp
def akq{k e:Nat}(av:P.underlying t=some (.map k e))(ae:P.underlying k=some d){u v:Value}(xA:MapKept.IsKey d u){l:List MapEntry}(aA:w.heap[g]?=some (.map l.toArray clock))
  (aC:Instr.findNow d u l 0=some none):(Instr.mapUpdate t (.map (some g)) u v).run P w=.ok () { w with heap:=w.heap.setIfInBounds g (.map (l++[({ key:=u,val:=v,born:=clock }:MapEntry)]).toArray (clock+1)) }:=by
 have aN:(Instr.checkKey false 10000 k u).run P w=.ok () w:=D' ae xA _ 9999;have vO:(Instr.findKey k u l).run P w=.ok none w:=Ea ae aC;unfold Instr.mapUpdate;simp only[cy,run_underlying av,cc,D9 aA,aN,vO,OG _ aA];congr 3;simp
def akr{k e:Nat}(av:P.underlying t=some (.map k e))(ae:P.underlying k=some d){u v:Value}(xA:MapKept.IsKey d u){l:List MapEntry}(aA:w.heap[g]?=some (.map l.toArray clock))
 {bA:MapEntry} (aC:Instr.findNow d u l 0=some (some (j,bA.val))) (aj:l[j]?=some bA) (ar:bA.key=u) :
  (Instr.mapUpdate t (.map (some g)) u v).run P w=.ok () { w with heap:=w.heap.setIfInBounds g (.map (l.modify j λe=>{ e with key:=u,val:=v }).toArray clock) }:=by
 have aN:(Instr.checkKey false 10000 k u).run P w=.ok () w:=D' ae xA _ 9999;have vO:(Instr.findKey k u l).run P w=.ok (some (j,bA.val)) w:=Ea ae aC;have dT:(Instr.keyThatStays u u).run P w=.ok u w:=MapKept.run_keyThatStays xA;unfold Instr.mapUpdate;simp only[cy,run_underlying av,cc,D9 aA,aN,vO];simp only[BG,aj,k3,ib,ar,dT,cc,OG _ aA];congr 3;show Obj.map _ _=Obj.map _ _;congr 1;apply g2;simp
end
section
variable{X:c7}{G:GT}{pr:mb}{D:bR}{m m':bp}{F:Fr}{al:bi aq}{C:d'}{I:aR}{M:List aI}{K:gp}{o:Oper}{v:aq}
def sm(X:c7)(G:GT)(pr:mb)(D:bR)(m:bp)(I:aR)(M:List aI)(v:aq)(m':bp)(dst:Option Nat)(F:Fr)(C:d')(K:gp):Prop:=
 ∀ bD u M',D.ext bD m.n->aT bD v u->dx (ei X G pr) bD m' I M'->K (put dst (.val u) F) C I M'
def aks(au:o.op=.store t x y)(h:ch o.dst (LV (X.E t) m (dB al x) (dB al y)) (λ_=>none)=some (v,m'))(H:jv D F al o.op.operands.toList)(hm:dx (ei X G pr) D m I M)
  (k:sm X G pr D m I M v m' o.dst F C K):g6 X o F C I M K:=by
 obtain⟨dst,op,ty,pos,after,guard⟩:=o;simp only at au;subst au;cases dst with
 |some d=>cases h
 |none=>
  have U:LV (X.E t) m (dB al x) (dB al y)=some (v,m'):=h;unfold LV at U;obtain⟨i,hi,U⟩:=c1 U;obtain⟨a,ab,U⟩:=c1 U;obtain⟨b,aH,U⟩:=c1 U;obtain⟨ah,U⟩:=g1 U;obtain⟨m2,aa,-,-,af⟩:=Rw (Y:=ei X G pr) U;cases aa;simp only at H;have xB:=H x (by simp[Op.operands]) _ ab;have zd:∀ q,a≠.b q:=λq e=>by subst e;cases U
  obtain⟨u,az,aV⟩:=xB.xz zd;obtain⟨w,aF,a3⟩:=H.bG (x:=y) (by simp[Op.operands]) aH;obtain⟨g,off,a8,post,arr,T,rfl,a2,g9,kh,⟨id,e,iq,kF,Ei,aA⟩,mJ⟩:=af hm aV a3.cells;simp only[g6,hi,aF,az];have c8:Nat.beq w.cells.size i.size=true:=by have:=a3.cells.len;rw[yr]at this;rw[this];exact ah
  rw[c8];simp only[bh];refine⟨a8,post,arr,T,a2,rfl,g9,kh,?_⟩;exact k D (.tuple #[]) _ bR.pE (by simp only[aT];exact⟨[],.nil,rfl⟩) mJ
def ZV(ag:∀ d,o.dst=some d->d<X.n)(cf:∀ c,o.op≠.defer c)
  (h:∀ (β:Nat->Nat) (a:Act) (w:World),cR X β a w F C I M->∃ u w' I' M',(execOp a.eval o).run X.P w=.ok (.value u) w'/\cR X β a w' F C I' M'/\K (put o.dst (.val u) F) C I' M'):bs X o F C I M K:=by
 refine⟨λa w Q ⟨β,a4⟩=>?_⟩;obtain⟨u,w',I',M',U,aa,af⟩:=h β a w a4;exact je cf U ⟨_,_,_,_,⟨β,aa.put (x:=.val u) ag rfl⟩,af⟩
def akt(ag:o.dst=none)(cf:∀ c,o.op≠.defer c)
  (h:∀ (β:Nat->Nat) (a:Act) (w:World),cR X β a w F C I M->∃ w' I' M',(execOp a.eval o).run X.P w=.ok .skip w'/\cR X β a w' F C I' M'/\K F C I' M'):bs X o F C I M K:=by
 refine⟨λa w Q ⟨β,a4⟩=>?_⟩;obtain⟨w',I',M',U,aa,af⟩:=h β a w a4;refine DJ cf U ⟨_,_,_,_,⟨β,?_⟩,af⟩;rw[ag];exact aa
def ZW(aO:c6 X.P X.E)(ag:∀ d,o.dst=some d->d<X.n){r:Option Operand}(au:o.op=.makeMap t r)(h:LW (X.E t) m=some (v,m'))(ai:∀ x,r=some x->∃ k n,bG F x=.val (.int k n))(hm:dx (ei X G pr) D m I M)
  (k:sm X G pr D m I M v m' o.dst F C K):bs X o F C I M K:=by
 unfold LW at h;split at h
 ·rename_i sa tl sz fY e av;obtain⟨d,fy,fz⟩:=(aO _ _ av).fp;have U:d=.map fY e:=by cases d<;>simp_all[fo]
  subst U;obtain⟨dt,aa,af⟩:=Ip h;cases af;refine ZV ag (by rw[au];simp) fun β a w a4=>?_;refine⟨.map (some w.heap.size),w.alloc (.map #[] 0),I,⟨w.heap.size,.map #[] 0⟩::M,?_,a4.oq _,?_⟩
  ·unfold execOp;cases r with
   |none=>simp[au,Instr.makeMap]| some x=>obtain⟨eJ,gf,ab⟩:=ai x rfl;have O8:=dk a4.al ab;simp[au,O8,Instr.makeMap,run_underlying fy,asInt,o3]
  ·have aC:∀ x∈M,x.num≠w.heap.size:=a4.holds.rC;refine k _ _ _ bR.Fb (by simp only[aT];exact⟨_,bR.qo _ _ ⟨w.heap.size,0,0⟩,rfl⟩) (hm.new (a:=⟨w.heap.size,0,0⟩) aa aC ?_);exact .map [] 0 (by simp) .nil
 ·cases h
def lN.ZX{D:bR}{a:Loc}{es:List (aq×aq)}(h:lN D E M a (.map es)):∃ l clock,(⟨a.b,.map l.toArray clock⟩:aI)∈M/\rf D es l:=by
 cases h with
 |map l clock U aa=>exact⟨l,clock,U,aa⟩
def aT.map'{id:Nat}{u:Value}(h:aT D (.m id) u):∃ a,D id=some a/\u=.map (some a.b):=by simpa only[aT]using h
def aku(aO:c6 X.P X.E)(ag:∀ d,o.dst=some d->d<X.n){ok:Bool}(au:o.op=.lookup t x y ok)(h:Q1 X.P X.E t m (dB al x) (dB al y) ok=some (v,m'))(H:jv D F al o.op.operands.toList)
  (hm:dx (ei X G pr) D m I M) (k:sm X G pr D m I M v m' o.dst F C K):bs X o F C I M K:=by
 unfold Q1 at h;split at h
 ·rename_i sa tl sz fY e id akv av U aa;obtain⟨xA,h⟩:=g1 h;split at h
  ·rename_i es aA;obtain⟨r,ai,h⟩:=c1 h;obtain⟨inf,hi,h⟩:=c1 h;obtain⟨z,a9,h⟩:=c1 h;obtain⟨tU,BA,h⟩:=c1 h;cases h;obtain⟨d,fy,fz⟩:=(aO _ _ av).fp;have iI:d=.map fY e:=by cases d<;>simp_all[fo]
   subst iI;obtain⟨la,s7,CW⟩:=ZR aO xA;rw[au]at H;obtain⟨wb,az,aV⟩:=H.bG (x:=x) (by simp[Op.operands]) U;obtain⟨sk,aF,a3⟩:=H.bG (x:=y) (by simp[Op.operands]) aa;obtain⟨a,aE,rfl⟩:=aV.map';have he:=hm.jc _ _ _ aA aE;obtain⟨l,clock,a2,Ry⟩:=he.ZX;have qI:=ZT CW a3 0 Ry ai;have Mf:aT D tU z:=.of BA;have fin:∀ {q:Option (Nat×Value)},Instr.findNow la sk l 0=some q->(r=none/\q=none\/∃ rv j w,r=some rv/\q=some (j,w)/\aT D rv w)->bs X o F C I M K:=fun {q} aC ay=>by
    refine ZV ag (by rw[au];simp) fun β ac w a4=>?_;have e':=akp (P:=X.P) (w:=w) fy s7 (CW.isKey a3) (a4.holds.m _ a2) aC hi a9 ok;have ex:=dk a4.al az;have pd:=dk a4.al aF;refine⟨bif ok then .tuple #[(q.map (·.2)).getD z,.bool q.isSome]else(q.map (·.2)).getD z,w,I,M,?_,a4,k D _ M bR.pE ?_ hm⟩;·unfold execOp;simp only[au,ex,pd,cy,e',cc,dc]
    ·unfold Zn;rcases ay with⟨rfl,rfl⟩ | ⟨rv,j,w',rfl,rfl,ak⟩
     ·cases ok
      ·exact Mf
      ·exact .Ma (.cons Mf (.cons (by simp only[aT];rfl) .nil))
     ·cases ok
      ·exact ak
      ·exact .Ma (.cons ak (.cons (by simp only[aT];rfl) .nil))
   cases r with
   |none=>exact fin qI (.inl ⟨rfl,rfl⟩)| some rv=>obtain⟨j,w,aC,ak⟩:=qI;exact fin aC (.inr ⟨rv,j,w,rfl,rfl,ak⟩)
  ·cases h
 ·cases h
def ZY(aO:c6 X.P X.E){z:Operand}(au:o.op=.mapUpdate t x y z\/o.op=.insert t x y z)(h:ch o.dst (Ic X.E t m (dB al x) (dB al y) (dB al z)) (λ_=>none)=some (v,m'))(H:jv D F al o.op.operands.toList)
  (hm:dx (ei X G pr) D m I M) (k:sm X G pr D m I M v m' o.dst F C K):bs X o F C I M K:=by
 cases Iq:o.dst with
 |some d=>rw[Iq]at h;cases h
 |none=>
  rw[Iq]at h k;have ao:Ic X.E t m (dB al x) (dB al y) (dB al z)=some (v,m'):=h;have wR:∀ q,q=x\/q=y\/q=z->q∈o.op.operands.toList:=λq ay=>by
   rcases au with au | au<;>rw[au]<;>simp[Op.operands]<;>exact ay
  unfold Ic at ao;split at ao
  ·rename_i sa tl sz fY e id akv tU av U aa af;obtain⟨xA,ao⟩:=g1 ao;split at ao
   ·rename_i es aA;obtain⟨we,mw,ao⟩:=c1 ao;obtain⟨dt,aP,bq⟩:=bi.pB (some (fW.map we)) m.t id;have jX:(m.t.n' (some (fW.map we)) id λt=>some (aq.t [],(⟨t,m.n⟩:bp)))=some (v,m'):=ao;rw[aP]at jX;cases jX;obtain⟨d,fy,fz⟩:=(aO _ _ av).fp;have iI:d=.map fY e:=by cases d<;>simp_all[fo]
    subst iI;obtain⟨la,s7,CW⟩:=ZR aO xA;obtain⟨wb,az,aV⟩:=H.bG (x:=x) (wR x (.inl rfl)) U;obtain⟨sk,aF,a3⟩:=H.bG (x:=y) (wR y (.inr (.inl rfl))) aa;obtain⟨AO,bo,bW⟩:=H.bG (x:=z) (wR z (.inr (.inr rfl))) af;obtain⟨a,aE,rfl⟩:=aV.map';have he:=hm.jc _ _ _ aA aE;obtain⟨l,clock,a2,Ry⟩:=he.ZX;have fin:∀ (l':List MapEntry) (CX:Nat),rf D we l'->(∀ w:World,w.heap[a.b]?=some (.map l.toArray clock)->(Instr.mapUpdate t (.map (some a.b)) sk AO).run X.P w=.ok () { w with heap:=w.heap.setIfInBounds a.b (.map l'.toArray CX) }) ->
      bs X o F C I M K:=λl' CX ou e'=>by
     obtain⟨a8,post,cg⟩:=v5 a2;have kT:M.Perm (⟨a.b,.map l.toArray clock⟩::(a8++post)):=by rw[cg];exact qd
     refine akt Iq (by rcases au with au | au<;>rw[au]<;>simp) fun β ac w lY=>?_;have a4:cR X β ac w F C I (⟨a.b,.map l.toArray clock⟩::(a8++post)):=lY.iH (.perm kT .refl);have ze:=lY.holds.m _ a2;have ex:=dk a4.al az;have pd:=dk a4.al aF;have qc:=dk a4.al bo;have iC:=MapKept.heap_set (o':=Obj.map l'.toArray CX) ze;refine⟨_,I,⟨a.b,.map l'.toArray CX⟩::(a8++post),?_,a4.swap (w':={ w with heap:=w.heap.setIfInBounds a.b (.map l'.toArray CX) }) (by simp) iC.1 iC.2 ⟨rfl,rfl⟩,?_⟩
     ·unfold execOp;rcases au with au | au<;>simp only[au,ex,pd,qc,cy,e' w ze,cc,dc]
     ·have yy:∀ q∈M,q.num≠a.b->q∈(⟨a.b,.map l'.toArray CX⟩:aI)::(a8++post):=λq ay aw=>by
       rcases eL.1 (kT.mem_iff.1 ay)with rfl | ay;·exact(aw rfl).elim
       ·exact oU _ ay
      refine k D (.tuple #[]) _ bR.pE (by simp only[aT];exact⟨[],.nil,rfl⟩) ?_;refine hm.step (λi e hi=>(bq i e hi).imp (λq=>⟨q.1,pC q.2⟩) λq=>q) aE (bR.le_refl D) (λ_ _=>rfl) hm.j5 (λ_ _ h=>h) (λi e a' bH hi rh q ay aw=>yy q ay ?_) (.map l' CX (by simp) ou) ?_;·rw[aw];exact λah=>bH (hm.inj _ _ _ _ _ _ hi aA rh aE ah)
      ·exact λi e a' bH hi rh ah=>bH (hm.inj _ _ _ _ _ _ hi aA rh aE ah)
    rcases ZU CW a3 bW 0 Ry mw with⟨aC,gb⟩ | ⟨j,bA,aC,aj,ar,yT⟩;·exact fin _ (clock+1) (gb clock) λw ze=>akq fy s7 (CW.isKey a3) ze aC
    ·rw[dz]at aC;have B3:bA.key=sk:=by
      cases CW with
      |int=>
       have:=a3.int;subst this;cases ae:bA.key<;>rw[ae]at ar<;>simp[Instr.sameNow]at ar
       obtain⟨rfl,h⟩:=ar;rw[h]
      |str=>
       have:=a3.str;subst this;cases ae:bA.key<;>rw[ae]at ar<;>simp[Instr.sameNow,ZS]at ar
       rw[ar]
     exact fin _ clock yT λw ze=>akr fy s7 (CW.isKey a3) ze aC aj B3
   ·cases ao
  ·cases ao
end
section
variable{X:c7}{G:GT}{pr:mb}{D:bR}{m m':bp}{F:Fr}{al:bi aq}{C:d'}{I:aR}{M:List aI}{K:gp}{o:Oper}{v:aq}
def ZZ(aO:c6 X.P X.E)(ag:∀ d,o.dst=some d->d<X.n){s d e:Nat}(au:o.op=.convert s d x){bJ cb:Nat}{sp:List Value}(ar:X.E s=some ⟨bz,b1,nl,.slice e⟩)(iI:X.E d=some ⟨bJ,cb,sp,.string⟩)(ah:EZ (X.E e)=true)
  {id off n:Nat} (h:LY G m id off n=some (v,m')) (ab:∃ a c,D id=some a/\bG F x=.val (.slice (some ⟨a.b,a.o+off,none⟩) n c)) (hm:dx (ei X G pr) D m I M)
  (k:sm X G pr D m I M v m' o.dst F C K):bs X o F C I M K:=by
 unfold LY at h;obtain⟨a,c,aE,ex⟩:=ab;obtain⟨ad,l,vs,az,bu,ap,h⟩:=AJ (u:=.pointer (some ⟨a.b,a.o+off,none⟩)) hm (by simp only[aT];exact⟨a,aE,rfl⟩) h;cases az;obtain⟨cO,GY,h⟩:=c1 h;cases h;have iS:=Rx GY ap;have b3:cO.length=n:=by have:=bu.2;obtain⟨_,_,_,_,_,aa⟩:=this;rw[<-aa,iS];simp
 subst iS;obtain⟨aG,he,mw⟩:∃ aG,X.E e=some aG/\aG.bO=.int .u8:=by
  unfold EZ at ah;split at ah;·rename_i h;exact⟨_,h,rfl⟩
  ·cases ah
 refine bs.aiz aO au ag ar rfl he mw iI rfl ex b3 bu ?_;exact k D _ M bR.pE (by simp only[aT]) hm
def akw(aO:c6 X.P X.E)(ag:∀ d,o.dst=some d->d<X.n){s d:Nat}(au:o.op=.convert s d x)(h:LZ (ei X G pr) m s d (dB al x)=some (v,m'))(H:jv D F al o.op.operands.toList)(hm:dx (ei X G pr) D m I M)
  (k:sm X G pr D m I M v m' o.dst F C K):bs X o F C I M K:=by
 unfold LZ at h;rw[au]at H;split at h
 ·rename_i U aa af;obtain⟨ah,h⟩:=g1 h;obtain⟨u,az,aV⟩:=H.bG (x:=x) (by simp[Op.operands]) af;obtain⟨a,aE,rfl⟩:=aV.tk;exact ZZ aO ag au U aa ah h ⟨a,_,aE,az⟩ hm k
 ·rename_i U aa af;obtain⟨ah,h⟩:=g1 h;obtain⟨u,az,aV⟩:=H.bG (x:=x) (by simp[Op.operands]) af;obtain⟨a,aE,_,rfl⟩:=aV.wa;exact ZZ aO ag au U aa ah h ⟨a,_,aE,az⟩ hm k
 ·rename_i U aa af;obtain⟨ah,h⟩:=g1 h;obtain⟨u,az,aV⟩:=H.bG (x:=x) (by simp[Op.operands]) af;cases h;simp only[aT]at aV;subst aV;obtain⟨aG,he,mw⟩:∃ aG,X.E _=some aG/\aG.bO=.int .u8:=by
   unfold EZ at ah;split at ah;·rename_i h;exact⟨_,h,rfl⟩
   ·cases ah
  refine bs.aiA aO au ag U rfl he mw aa rfl az ?_;exact k D _ M bR.pE (by simp only[aT]) hm
 ·cases h
def Z0(q:List UInt8):bT D (q.map λb=>aq.i .u8 (.ofNat b.toNat)) (lz ⟨q.toArray⟩):=by
 unfold lz;simp only
 induction q with
 |nil=>exact .nil| cons b q a7=>exact .cons (by simp only[aT];rfl) a7
def Mg{l:List Operand}{a b:aq}(h:oV al l=some [a,b]):∃ x y,l=[x,y]/\dB al x=some a/\dB al y=some b:=by
 match l,h with
 |[],h=>simp[oV]at h
 |[x],h=>
  simp only[oV]at h;split at h;·rename_i az aF;cases aF;cases h
  ·cases h
 |[x,y],h=>
  simp only[oV]at h;split at h
  ·rename_i az aF;split at aF
   ·rename_i bo dw;cases dw;cases aF;cases h;exact⟨x,y,rfl,az,bo⟩
   ·cases aF
  ·cases h
 |x::y::z::l,h=>
  simp only[oV]at h;split at h
  ·rename_i az aF;split at aF
   ·rename_i bo dw;split at dw
    ·cases dw;cases aF;cases h
    ·cases dw
   ·cases aF
  ·cases h
def dx.sub{M':List aI}(h:dx (ei X G pr) D m I M)(ar:∀ x∈M,x∈M'):dx (ei X G pr) D m I M':=
 ⟨λid e a hi aE=>(h.jc id e a hi aE).mono (bR.le_refl D) (λx ab _=>ar x ab),h.inj,h.j5,h.rc⟩
def akx(aO:c6 X.P X.E)(ag:∀ d,o.dst=some d->d<X.n)(au:o.op=.call { callee:=.builtin .copy,args:=args,argTypes:=ts })(h:Q3 (ei X G pr) m ts.toList (oV al args.toList)=some (v,m'))
  (H:jv D F al args.toList) (hm:dx (ei X G pr) D m I M) (k:sm X G pr D m I M v m' o.dst F C K):bs X o F C I M K:=by
 unfold Q3 at h;split at h
 ·rename_i t u id off n c q av ap;split at h
  ·rename_i sa tl sz e o9;obtain⟨aG,he,h⟩:=c1 h;obtain⟨ah,h⟩:=g1 h;rw[cp]at ah;obtain⟨m2,aa,-,-,af⟩:=Rw (Y:=ei X G pr) h;cases aa;obtain⟨x,y,nb,CY,aky⟩:=Mg ap;obtain⟨wb,ab,a3⟩:=H.bG (x:=x) (by rw[nb];simp) CY;obtain⟨sk,aH,fx⟩:=H.bG (x:=y) (by rw[nb];simp) aky;obtain⟨a,aE,rfl⟩:=a3.tk;have akz:=fx.str;subst akz;obtain⟨g,JO,a8,post,arr,T,bo,a2,g9,kh,⟨iP,bA,iq,kF,Ei,aA⟩,mJ⟩:=af hm (u:=.pointer (some ⟨a.b,a.o+off,none⟩)) (by simp only[aT];exact⟨a,aE,rfl⟩) (Z0 q);cases bo;have kT:M.Perm (⟨a.b,.cells arr T (0,0)⟩::(a8++post)):=by rw[a2];exact qd
   have CZ:args=#[x,y]:=by apply g2;simpa using nb
   have C0:ts=#[t,u]:=by apply g2;simpa using av
   have c8:(⟨q.toArray⟩:ByteArray).size=q.length:=by simp[ByteArray.size]
   have qJ:(lz ⟨q.toArray⟩).length=q.length:=by simp[lz]
   refine bs.Vf aO (by rw[au,CZ,C0]) ag o9 rfl he (cK ah.1) ab aH (by rw[c8];exact b0 ah.2) (by rw[c8,<-qJ];exact g9) kT ?_;rw[c8];have akA:(a8++(⟨a.b,.cells (bK arr.toList (a.o+off) (lz ⟨q.toArray⟩)).toArray T (0,0)⟩:aI)::post).Perm (⟨a.b,.cells (bK arr.toList (a.o+off) (lz ⟨q.toArray⟩)).toArray T (0,0)⟩::(a8++post)):=qd;exact k D (.int .i64 q.length) _ bR.pE (by simp only[aT];rfl) (mJ.sub λx ab=>akA.mem_iff.1 ab)
  ·cases h
 ·cases h
end
section
variable{P:Program}{w:World}
def Z1(t u ty e:Nat)(i:TypeInfo)(av:P.underlying t=some (.slice e))(hu:P.underlying u=some m1)(p0:∀ k,m1≠.int k)(hi:P.info? e=some i)
 {n c:Nat} {arr:Array Value} (aA:w.heap[g]?=some (.cells arr T (0,0))) {x:Value} (U:∀ v∈bU,v.oneCell'=true)
  (b3:∀ w',(Builtin.lenOf x).run P w'=.ok m w') (gb:(Builtin.firstCells i.size m x).run P w=.ok bU.toArray w) (rO:n+m<=c) (g9:off+n*i.size+bU.length<=arr.size) :
  (Builtin.append_ #[t,u] ty #[.slice (some ⟨g,off,none⟩) n c,x]).run P w=.ok (.slice (some ⟨g,off,none⟩) (n+m) c) (w.setRow g (bK arr.toList (off+n*i.size) bU).toArray):=by
 have GP:(match m1 with | .int _=>true | _=>false)=false:=by cases m1<;>first | rfl | exact(p0 _ rfl).elim
 have dT:=run_storeCells_at P g (off+n*i.size) T bU 0 arr w aA (by simpa using g9) U;simp only[oo]at dT;have Qx:(Addr.add ⟨g,off,none⟩ (n*i.size))=⟨g,off+n*i.size,none⟩:=eo _ rfl _;simp[Builtin.append_,run_underlying av,run_underlying hu,sizeOf,typeInfo,hi,b3,rO,gb,Qx,dT,bK]
def akB(t u ty e:Nat)(i:TypeInfo)(z:Value)(av:P.underlying t=some (.slice e))(hu:P.underlying u=some m1)(p0:∀ k,m1≠.int k)(hi:P.info? e=some i)(a9:i.zero=some z)(qK:z.cells.size=i.size)
 {n c:Nat} (hold:(Builtin.firstCells i.size n (.slice aW n c)).run P w.drew=.ok xs.toArray w.drew) (tm:xs.length=n*i.size) {x:Value} (ap:bU.length=m*i.size)
  (b3:∀ w',(Builtin.lenOf x).run P w'=.ok m w') (gb:(Builtin.firstCells i.size m x).run P w.drew=.ok bU.toArray w.drew) (rO:c<n+m) (b1:n+m<=maxLen) (cb:(n+m)*i.bytes<=140737488355328) :
  ∃ cap aQ,(Builtin.append_ #[t,u] ty #[.slice aW n c,x]).run P w=.ok (.slice (some ⟨w.heap.size,0,none⟩) (n+m) cap) (w.drew.alloc (.cells (xs++bU++aQ).toArray e (0,0)))/\n+m<=cap/\cap<=maxLen/\(xs++bU++aQ).length=cap*i.size:=by
 have GP:(match m1 with | .int _=>true | _=>false)=false:=by cases m1<;>first | rfl | exact(p0 _ rfl).elim
 have aw:¬ (n+m<=c):=by omega
 have oA:n+m<=9223372036854775807:=by simp only[maxLen]at b1;exact b1
 have BO:¬ (9223372036854775807<((n:Int)+(m:Int))):=by omega
 have BP:¬ (281474976710656<Builtin.nextslicecap (n+m) c*i.bytes):=by have:=growslice_fits (by omega:c<n+m) cb;omega
 have cm:=grownCap_ge w (n+m) c e;have l0:grownCap w (n+m) c e<=maxLen:=grownCap_le_maxLen w (n+m) c e b1;refine⟨grownCap w (n+m) c e,(Builtin.zeroCells z.cells (grownCap w (n+m) c e-(n+m))).toList,?_,cm,l0,?_⟩
 ·simp[Builtin.append_,run_underlying av,run_underlying hu,sizeOf,typeInfo,zeroValue,hi,a9,b3,aw,BO,BP,Question.forced,gb,hold,newRow,grownCap];congr 2;apply g2;simp
 ·rw[cP,cP,tm,ap,yr,size_zeroCells,qK,<-ji,<-ji];congr 1;omega
end
section
variable{X:c7}{G:GT}{pr:mb}{D:bR}{m m':bp}{F:Fr}{al:bi aq}{C:d'}{I:aR}{M:List aI}{K:gp}{o:Oper}{v:aq}
def cq.Is{n:Nat}(h:cq I M ad n vs){w:World}(lU:eI I M w)(j:Nat)(v:Value)(aj:vs[j]?=some v):w.cell? (ad.add j)=some v:=by
 obtain⟨cg,cs,T,al,cY,ak,ap⟩:=h;rw[eo _ cg,tQ (cY.heap lU)];rw[<-ak,lp]at aj;split at aj
 ·rw[om]at aj;simpa using aj
 ·cases aj
def akC{x:aq}{u:Value}{k:Nat}{K:List aq->Option R}{r:R}(h:E0 G m.t x aG.size K=some r)(ar:xw ut aG x=true)(ab:aT D x u)(hm:dx (ei X G pr) D m I M)(ae:ti x=some k)(ao:k≠0) :
  ∃ l vs,K l=some r/\bT D l vs/\(∀ w',(Builtin.lenOf u).run X.P w'=.ok k w')/\(∀ w,eI I M w->(Builtin.firstCells aG.size k u).run X.P w=.ok vs.toArray w)/\vs.length=k*aG.size /\
   ((∃ a b z e,ut=some ⟨a,b,z,.slice e⟩)\/∃ a b z,ut=some ⟨a,b,z,.string⟩):=by
 have Rz:(∃ a b z e,ut=some ⟨a,b,z,.slice e⟩)\/∃ a b z,ut=some ⟨a,b,z,.string⟩:=by
  unfold xw at ar;split at ar<;>first | exact .inl ⟨_,_,_,_,rfl⟩ | exact .inr ⟨_,_,_,rfl⟩ | cases ar
 cases x<;>simp only[E0]at h<;>first | cases h | skip
 case sn=>simp[ti,xv]at ae;exact(ao ae.symm).elim
 case so=>simp[ti,xv]at ae;exact(ao ae.symm).elim
 case sl id off n c=>
  simp only[ti,xv,kd]at ae;subst ae;obtain⟨a,aE,rfl⟩:=ab.tk;obtain⟨ad,l,vs,az,bu,ap,h⟩:=AJ (u:=.pointer (some ⟨a.b,a.o+off,none⟩)) hm (by simp only[aT];exact⟨a,aE,rfl⟩) h;cases az;have AP:=bu;obtain⟨_,_,_,_,_,_,b3⟩:=AP;exact⟨l,vs,h,ap,λ_=>rfl,λw hw=>run_firstCells_some (P:=X.P) w aG.size n _ n c vs b3 (λj v aj=>bu.Is hw j v aj),b3,Rz⟩
 case sx id off e n=>
  simp only[ti,xv,kd]at ae;subst ae;obtain⟨a,aE,_,rfl⟩:=ab.wa;obtain⟨ad,l,vs,az,bu,ap,h⟩:=AJ (u:=.pointer (some ⟨a.b,a.o+off,none⟩)) hm (by simp only[aT];exact⟨a,aE,rfl⟩) h;cases az;have AP:=bu;obtain⟨_,_,_,_,_,_,b3⟩:=AP;exact⟨l,vs,h,ap,λ_=>rfl,λw hw=>run_firstCells_some (P:=X.P) w aG.size n _ n _ vs b3 (λj v aj=>bu.Is hw j v aj),b3,Rz⟩
 case s q=>
  simp only[ti,kd]at ae;subst ae;have akD:aG.size=1:=by
   unfold xw at ar;split at ar<;>first | exact cK ar | (rename_i e;cases e) | cases ar
  have:=ab.str;subst this;have ay:(⟨q.toArray⟩:ByteArray).size=q.length:=by simp[ByteArray.size]
  refine⟨_,lz ⟨q.toArray⟩,h,Z0 q,λw=>?_,λw hw=>?_,by simp[lz,akD],Rz⟩;·show Result.ok _ _=_;rw[ay]
  ·have:=Uz w aG.size (P:=X.P) ⟨q.toArray⟩;rw[ay]at this;exact this
def RA(aO:c6 X.P X.E)(ag:∀ d,o.dst=some d->d<X.n){u:Nat}(au:o.op=.call { callee:=.builtin .append,args:=#[s,x],argTypes:=#[t,u] })
  {e:Nat} (av:X.E t=some ⟨bz,b1,nl,.slice e⟩) (hu:X.E u=some mq) (fZ:∀ k,mq.bO≠.int k) (he:X.E e=some aG)
 {n c k:Nat} {RB:Value} (ar:bG F s=.val (.slice aW n c)) (ab:bG F x=.val RB) (tm:xs.length=n*aG.size) (ua:bU.length=k*aG.size) (U:gU bU=true)
  (b3:∀ w',(Builtin.lenOf RB).run X.P w'=.ok k w') (gb:∀ w,eI I M w->(Builtin.firstCells aG.size k RB).run X.P w=.ok bU.toArray w)
  (hold:∀ w,eI I M w->(Builtin.firstCells aG.size n (.slice aW n c)).run X.P w=.ok xs.toArray w) (b1:n+k<=maxLen) (cb:(n+k)*aG.bytes<=140737488355328)
  (akE:n+k<=c->∃ g off T arr a8 post,aW=some ⟨g,off,none⟩/\M=a8++⟨g,.cells arr T (0,0)⟩::post/\off+n*aG.size+bU.length<=arr.size /\ K (put o.dst (.val (.slice aW (n+k) c)) F) C I (a8++⟨g,.cells (bK arr.toList (off+n*aG.size) bU).toArray T (0,0)⟩::post))
  (akF:c<n+k->∀ b cap aQ,I b=none->(∀ y∈M,y.num≠b)->n+k<=cap->cap<=maxLen->(xs++bU++aQ).length=cap*aG.size ->
   K (put o.dst (.val (.slice (some ⟨b,0,none⟩) (n+k) cap)) F) C I (⟨b,.cells (xs++bU++aQ).toArray e (0,0)⟩::M)):bs X o F C I M K:=by
 refine⟨λa w Q ⟨β,a4⟩=>?_⟩;obtain⟨inf,z,hi,e9,hz,iA,kj⟩:=(aO _ _ he).inf;obtain⟨d,fy,fz⟩:=(aO _ _ hu).fp;obtain⟨hM,mv,kO⟩:=(aO _ _ av).fp;have qL:hM=.slice e:=by cases hM<;>simp_all[fo]
 subst qL;have qK:z.cells.size=inf.size:=by rw[e9,<-(aO _ _ he).len,<-kj];simp
 have es:=dk a4.al ar;have ex:=dk a4.al ab;have p0:∀ k,d≠.int k:=λk bA=>fZ k (by rw[<-fz,bA];rfl);rw[<-e9]at tm ua hold gb;by_cases rO:n+k<=c
 ·obtain⟨g,off,T,arr,a8,post,rfl,a2,g9,ae⟩:=akE rO;rw[<-e9]at g9 ae;have aA:w.heap[g]?=some (.cells arr T (0,0)):=a4.holds.m ⟨g,.cells arr T (0,0)⟩ (by rw[a2];simp);have e':=Z1 (P:=X.P) (w:=w) t u o.type e inf mv fy p0 hi aA (zA U) b3 (gb w a4.holds) rO g9;refine je (by rw[au];simp) ?_ ⟨_,_,_,_,⟨β,cR.put (x:=.val (.slice (some ⟨g,off,none⟩) (n+k) c)) (a4.yj a2) ag rfl⟩,ae⟩;unfold execOp;simp only[au,resolve,invoke,builtin,cy,dc,cc,sP,dv,jh,es,ex,e']
 ·have lU:eI I M w.drew:=a4.holds.heap rfl;obtain⟨cap,aQ,e',aa,af,aP⟩:=akB (P:=X.P) (w:=w) t u o.type e inf z mv fy p0 hi iA qK (hold w.drew lU) tm ua b3 (gb w.drew lU) (by omega) b1 (by rw[hz];exact cb);have rP:cR X β a w.drew F C I M:=a4.world rfl;rw[e9]at aP;refine je (by rw[au];simp) ?_ ⟨_,_,_,_,⟨β,cR.put (x:=.val (.slice (some ⟨w.heap.size,0,none⟩) (n+k) cap)) (rP.oq (.cells (xs++bU++aQ).toArray e (0,0))) ag rfl⟩,akF (by omega) w.heap.size cap aQ a4.holds.sH a4.holds.rC aa af aP⟩;unfold execOp;simp only[au,resolve,invoke,builtin,cy,dc,cc,sP,dv,jh,es,ex,e']
def Z2{u:Nat}{x:aq}(h:xw (X.E u) aG x=true):∃ mq,X.E u=some mq/\∀ k,mq.bO≠.int k:=by
 unfold xw at h;split at h<;>first | (cases h;done) | (rename_i e;exact⟨_,e,by simp⟩) | (rename_i e _;exact⟨_,e,by simp⟩) | (rename_i e _ _;exact⟨_,e,by simp⟩)
def akG{s:aq}{u:Value}(h:E2 s=true)(ar:aT D s u):∃ a n c,u=.slice a n c/\n<=c:=by
 cases s<;>simp only[E2,lq]at h
 case sn=>exact⟨_,_,_,ar.CV,bY _⟩
 case so=>obtain⟨a,c,rfl⟩:=ar.L9;exact⟨_,_,_,rfl,bw _⟩
 case sl=>obtain⟨a,_,rfl⟩:=ar.tk;exact⟨_,_,_,rfl,b0 h⟩
 case sx=>obtain⟨a,_,bn,rfl⟩:=ar.wa;exact⟨_,_,_,rfl,by omega⟩
def akH{x:aq}{u:Value}(ar:xw ut aG x=true)(ab:aT D x u)(ae:ti x=some 0):(∃ b c,u=.slice b 0 c)\/u=.string .empty:=by
 cases x<;>simp[ti,xv]at ae
 case sn=>exact .inl ⟨_,_,ab.CV⟩
 case so=>obtain⟨a,c,rfl⟩:=ab.L9;exact .inl ⟨_,_,rfl⟩
 case sl=>subst ae;obtain⟨a,_,rfl⟩:=ab.tk;exact .inl ⟨_,_,rfl⟩
 case sx=>subst ae;obtain⟨a,_,_,rfl⟩:=ab.wa;exact .inl ⟨_,_,rfl⟩
 case gs=>subst ae;exact .inl ⟨_,_,ab.Rj⟩
 case s=>subst ae;exact .inr ab.str
noncomputable abbrev RC(X:c7)(G:GT)(m:bp)(s x:aq)(aG:ec)(kn e:Nat):List aq->Option (aq×bp):=λl=>ch (some kn) none λk=>cn (Nat.beq k 0) (cn (E2 s) (some (s,m)) none) (cn (l.all aq.one) (AB G m s l k aG.size aG.bytes e) none)
def akI(aO:c6 X.P X.E)(ag:∀ d,o.dst=some d->d<X.n){u:Nat}(au:o.op=.call { callee:=.builtin .append,args:=#[os,q9],argTypes:=#[t,u] })
 {e:Nat} (av:X.E t=some ⟨bz,b1,nl,.slice e⟩) {s x:aq} (sg:xw (X.E u) aG x=true) (he:X.E e=some aG) (ae:ti x=some 0) {us:Value}
  (es:bG F os=.val us) (gs:aT D s us) (ex:bG F q9=.val mi) (AQ:aT D x mi) (h:E0 G m.t x aG.size (RC X G m s x aG 0 e)=some (v,m'))
  (hm:dx (ei X G pr) D m I M) (k:sm X G pr D m I M v m' o.dst F C K):bs X o F C I M K:=by
 have aa:∃ l,RC X G m s x aG 0 e l=some (v,m'):=by
  cases x<;>simp only[E0]at h<;>first | cases h | exact⟨_,h⟩ | skip
  case sl=>obtain⟨a,aE,rfl⟩:=AQ.tk;obtain⟨_,l,_,_,_,_,h⟩:=AJ (u:=.pointer (some ⟨a.b,a.o+_,none⟩)) hm (by simp only[aT];exact⟨a,aE,rfl⟩) h;exact⟨l,h⟩
  case sx=>obtain⟨a,aE,_,rfl⟩:=AQ.wa;obtain⟨_,l,_,_,_,_,h⟩:=AJ (u:=.pointer (some ⟨a.b,a.o+_,none⟩)) hm (by simp only[aT];exact⟨a,aE,rfl⟩) h;exact⟨l,h⟩
 obtain⟨l,aa⟩:=aa;have af:cn (E2 s) (some (s,m)) none=some (v,m'):=aa;obtain⟨aN,af⟩:=g1 af;cases af;obtain⟨a,n,c,rfl,oB⟩:=akG aN gs;obtain⟨mq,hu,fZ⟩:=Z2 sg;exact bs.ON aO au ag av rfl hu fZ he es oB ex (akH sg AQ ae) (k D _ M bR.pE gs hm)
def akJ(aO:c6 X.P X.E)(ag:∀ d,o.dst=some d->d<X.n){u:Nat}(au:o.op=.call { callee:=.builtin .append,args:=#[os,q9],argTypes:=#[t,u] })
 {e:Nat} (av:X.E t=some ⟨bz,b1,nl,.slice e⟩) (hu:X.E u=some mq) (fZ:∀ k,mq.bO≠.int k) (he:X.E e=some aG) {us:Value} {id off n c kn:Nat}
  (es:bG F os=.val us) (gs:aT D (.sl id off n c) us) (ex:bG F q9=.val mi) {l:List aq} (h:QZ G m id off n c l kn aG.size e=some (v,m')) (oA:n+kn<=maxLen) (hL:(n+kn)*aG.bytes<=140737488355328)
  (ap:bT D l vs) (s9:vs.length=kn*aG.size) (U:gU vs=true) (b3:∀ w',(Builtin.lenOf mi).run X.P w'=.ok kn w') (gb:∀ w,eI I M w->(Builtin.firstCells aG.size kn mi).run X.P w=.ok vs.toArray w)
  (hm:dx (ei X G pr) D m I M) (k:sm X G pr D m I M v m' o.dst F C K):bs X o F C I M K:=by
 have It:∀ {q:List Value} {c:Nat},q.length=c*aG.size->∀ i,(ei X G pr).E e=some i->q.length=c*i.size:=λay i hi=>by have:X.E e=some i:=hi;rw[he]at this;cases this;exact ay
 obtain⟨a,aE,rfl⟩:=gs.tk;unfold QZ at h;by_cases ai:n+kn<=c
 ·have ah:Nat.ble (Nat.add n kn) c=true:=Cs ai;rw[ah]at h;have be:y' m (.p id (Nat.add off (Nat.mul n aG.size))) l (λm=>some (aq.sl id off (Nat.add n kn) c,m))=some (v,m'):=h;obtain⟨m2,aa,-,-,af⟩:=Rw (Y:=ei X G pr) be;cases aa;obtain⟨g,JO,a8,post,arr,T,az,a2,g9,kh,⟨iP,bA,iq,kF,Ei,aA⟩,mJ⟩:=af hm (u:=.pointer (some ⟨a.b,a.o+(off+n*aG.size),none⟩)) (by simp only[aT];exact⟨a,aE,rfl⟩) ap;cases az;refine⟨λac w Q ⟨β,a4⟩=>?_⟩;obtain⟨inf,z,hi,e9,hz,iA,kj⟩:=(aO _ _ he).inf;obtain⟨d,fy,fz⟩:=(aO _ _ hu).fp;obtain⟨hM,mv,kO⟩:=(aO _ _ av).fp;have qL:hM=.slice e:=by cases hM<;>simp_all[fo]
  subst qL;have aA:w.heap[a.b]?=some (.cells arr T (0,0)):=a4.holds.m ⟨a.b,.cells arr T (0,0)⟩ (by rw[a2];simp);have we:=dk a4.al es;have C1:=dk a4.al ex;rw[<-e9]at gb;have e':=Z1 (P:=X.P) (w:=w) t u o.type e inf mv fy (λk bA=>fZ k (by rw[<-fz,bA];rfl)) hi aA (zA U) b3 (gb w a4.holds) ai (off:=a.o+off) (by rw[e9];omega);rw[e9,rz]at e';have rP:=a4.yj (cs':=(bK arr.toList (a.o+(off+n*aG.size)) vs).toArray) a2;refine je (by rw[au];simp) ?_ ⟨_,_,_,_,⟨β,cR.put (x:=.val (.slice (some ⟨a.b,a.o+off,none⟩) (n+kn) c)) rP ag rfl⟩,?_⟩;·unfold execOp;simp only[au,resolve,invoke,builtin,cy,dc,cc,sP,dv,jh,we,C1,e']
  ·exact k D _ _ bR.pE (by simp only[aT];exact⟨a,aE,rfl⟩) mJ
 ·have ah:Nat.ble (Nat.add n kn) c=false:=by
   cases ah:Nat.ble (Nat.add n kn) c with
   |false=>rfl| true=>exact absurd (b0 ah) ai
  rw[ah]at h;have be:xu G m.t (.p id off) (Nat.mul n aG.size) (λdg=>v9 m (dg++l) e λid m=>some (aq.sx id 0 0 (Nat.add n kn),m))=some (v,m'):=h;obtain⟨ad,dg,xs,az,bu,eH,aa⟩:=AJ (u:=.pointer (some ⟨a.b,a.o+off,none⟩)) hm (by simp only[aT];exact⟨a,aE,rfl⟩) be;cases az;obtain⟨m2,bj,aw,eh⟩:=Rt (Y:=ei X G pr) aa;cases bj;have AP:=bu;obtain⟨_,_,_,_,_,_,hc⟩:=AP;refine RA aO ag au av hu fZ he es ex hc s9 U b3 gb (λw hw=>run_firstCells_some (P:=X.P) w aG.size n _ n c xs hc (λj v aj=>bu.Is hw j v aj)) oA hL (λhR=>(ai hR).elim) λ_ b cap aQ bL aC Iu Iv Iw=>?_;refine k _ _ _ bR.Fb ?_ (eh aQ hm aC (eH.append ap) (It Iw) Iv);simp only[aT];exact⟨_,bR.qo _ _ _,by simpa using Iu,by simp⟩
def akK(aO:c6 X.P X.E)(ag:∀ d,o.dst=some d->d<X.n){u:Nat}(au:o.op=.call { callee:=.builtin .append,args:=#[os,q9],argTypes:=#[t,u] })
 {e:Nat} (av:X.E t=some ⟨bz,b1,nl,.slice e⟩) (hu:X.E u=some mq) (fZ:∀ k,mq.bO≠.int k) (he:X.E e=some aG) {us:Value} {id n fh kn:Nat} {cs:bi aq}
  (es:bG F os=.val us) (gs:aT D (.sx id 0 0 n) us) (ex:bG F q9=.val mi) (aA:m.t.get id=some (.cells cs e fh)) {l:List aq} (h:Q0 m id n cs fh l kn aG.size e=some (v,m')) (oA:n+kn<=maxLen) (hL:(n+kn)*aG.bytes<=140737488355328)
  (ap:bT D l vs) (s9:vs.length=kn*aG.size) (U:gU vs=true) (b3:∀ w',(Builtin.lenOf mi).run X.P w'=.ok kn w') (gb:∀ w,eI I M w->(Builtin.firstCells aG.size kn mi).run X.P w=.ok vs.toArray w)
  (hm:dx (ei X G pr) D m I M) (k:sm X G pr D m I M v m' o.dst F C K):bs X o F C I M K:=by
 obtain⟨a,aE,bn,rfl⟩:=gs.wa;have qw:=hm.jc _ _ _ aA aE;obtain⟨arr,zf,a2,c8,aN,ae,g4⟩:=qw;unfold Q0 at h;obtain⟨wc,h⟩:=g1 h;have Z3:n*aG.size<=fh:=b0 wc;obtain⟨t1,aa,af⟩:=bi.pB (none:Option fW) m.t id;rw[aa]at h;obtain⟨cs',aP,bq⟩:=bi.zb l cs (Nat.mul n aG.size);have be:bi.y7 l cs (Nat.mul n aG.size) (λcs=>CP (⟨t1,m.n⟩:bp) (.cells cs e (Nat.mul (Nat.add n kn) aG.size)) λid m=>some (aq.sx id 0 0 (Nat.add n kn),m))=some (v,m'):=h;rw[aP]at be;obtain⟨t2,bj,eh⟩:=Ip be;cases eh;have hB:∀ i eT,t1.get i=some eT->i≠id/\m.t.get i=some eT:=λi eT hi=>by
  rcases af i eT hi with⟨_,gF⟩ | gF;·cases gF
  ·exact gF
 have Z4:dx (ei X G pr) D ⟨t1,m.n⟩ I M:=⟨λi eT b hi=>hm.jc i eT b (hB i eT hi).2,λi hv eT AR b hJ hi di=>hm.inj i hv eT AR b hJ (hB i eT hi).2 (hB hv AR di).2,hm.j5,hm.rc⟩;have Z5:arr.size=a.c*aG.size:=by have:=ae aG he;rw[zf,dz]at this;exact this
 have L8:=ap.len;have tm:((arr.toList.take (n*aG.size)).length=n*aG.size):=by rw[gr,yr];omega
 have yS:∀ j,j<n*aG.size->∀ v,cs.get j=some v->∃ x,(arr.toList.take (n*aG.size))[j]?=some x/\aT D v x:=λj aj v ak=>by obtain⟨x,aV,a3⟩:=aN j v (by omega) ak;rw[zf,dz]at aV;exact⟨x,by rw[lp,cG aj];simpa using aV,a3⟩
 have Z6:∀ (bD:bR) (M':List aI) (b fl:Nat) (bd:List Value),D.le bD->(⟨b,.cells (arr.toList.take (n*aG.size)++vs++bd).toArray e (0,0)⟩:aI)∈M'->(arr.toList.take (n*aG.size)++vs++bd).length=fl*aG.size->fl<=maxLen ->
   lN bD X.E M' ⟨b,0,fl⟩ (.cells cs' e (Nat.mul (Nat.add n kn) aG.size)):=by
  intro bD M' b fl bd dE CC YL akL;have hmul:(n+kn)*aG.size=n*aG.size+kn*aG.size:=ji _ _ _;refine .cells _ rfl CC ?_ (λi v hi Ir=>?_) (λi hi=>?_) akL;·show 0+(n+kn)*aG.size<=_;rw[vu,cP,cP,tm,s9];omega
  ·have di:i<n*aG.size+kn*aG.size:=by have:i<(n+kn)*aG.size:=hi;omega
   simp only[dz,BG];rcases bq i v Ir with⟨aV,a3⟩ | ⟨aV,a3⟩;·have Mh:n*aG.size<=i:=aV;obtain⟨x,bW,fx⟩:=ap.get (i:=i-n*aG.size) a3;refine⟨x,?_,fx.mono dE⟩;rw[fA,l3 (by omega),tm,pT (by omega)];exact bW
   ·have Mh:i<n*aG.size:=by
     rcases aV with aV | aV;·exact aV
     ·have:n*aG.size+l.length<=i:=aV;omega
    obtain⟨x,bW,fx⟩:=yS i Mh v a3;refine⟨x,?_,fx.mono dE⟩;rw[fA,pT (by omega)];exact bW
  ·rw[he]at hi;cases hi;simpa using YL
 refine RA aO ag au av hu fZ he es ex tm s9 U b3 gb (λw hw=>?_) oA hL (λai=>?_) λ_ b cap aQ bL aC Iu Iv Iw=>?_
 ·refine run_firstCells_some (P:=X.P) w aG.size n _ n _ _ tm λj v aj=>?_;rw[eo _ rfl,tQ (hw.m _ a2)];rw[lp]at aj;split at aj
  ·rw[zf];simpa using aj
  ·cases aj
 ·
  obtain⟨a8,post,cg⟩:=v5 a2;rw[xh]at ai;have g9:a.o+0+n*aG.size+vs.length<=arr.size:=by have fI:=qs aG.size ai;rw[ji]at fI;rw[zf,Z5,s9];omega
  refine⟨a.b,a.o+0,e,arr,a8,post,rfl,cg,g9,?_⟩;have Z7:bK arr.toList (a.o+0+n*aG.size) vs=arr.toList.take (n*aG.size)++vs++arr.toList.drop (n*aG.size+vs.length):=by rw[zf];simp only[bK,dz]
  rw[Z7];have yy:∀ q∈M,q.num≠a.b->q∈a8++(⟨a.b,.cells (arr.toList.take (n*aG.size)++vs++arr.toList.drop (n*aG.size+vs.length)).toArray e (0,0)⟩:aI)::post:=λq ay aw=>by
   rw[cg]at ay;rcases dV.1 ay with ay | ay;·exact dV.2 (.inl ay)
   ·rcases eL.1 ay with rfl | ay
    ·exact(aw rfl).elim
    ·exact dV.2 (.inr (oU _ ay))
  have Ix:∀ i eT b,t1.get i=some eT->D i=some b->b.b≠a.b:=λi eT b hi ah y3=>(hB i eT hi).1 (hm.inj _ _ _ _ _ _ (hB i eT hi).2 aA ah aE y3);refine k _ _ _ bR.Fb ?_ (Z4.step (m:=⟨t1,m.n⟩) (j:=m.n) (λi eT hi=>(bj i eT hi).imp (λq=>⟨q.1,pC q.2⟩) λq=>q) (D.qo _ ⟨a.b,0,a.c⟩) (bR.AK _ hm.fresh) (λi hi=>by unfold bR.set;rw[ca hi]) (λi b ah=>?_) (λ_ _ h=>h) (λi eT b bH hi ah q ay aw=>yy q ay (by rw[aw];exact Ix i eT b hi ah)) (Z6 _ _ _ _ (arr.toList.drop (n*aG.size+vs.length)) (bR.AK _ hm.fresh) (by simp) ?_ g4) λi eT b bH hi ah=>Ix i eT b hi ah);·simp only[aT];exact⟨_,bR.qo _ _ _,by simpa using ai,by rw[zf];rfl⟩
  ·unfold bR.set at ah;split at ah
   ·show i<m.n+1;omega
   ·have:=hm.j5 _ _ ah;show i<m.n+1;omega
  ·rw[<-Z7,Rv (by simpa using g9)];simpa using Z5
 ·
  refine k _ _ _ bR.Fb ?_ (Z4.new (m:=⟨t1,m.n⟩) (a:=⟨b,0,cap⟩) bj aC (Z6 _ _ _ _ _ (bR.AK _ hm.fresh) (by simp) Iw Iv));simp only[aT];exact⟨_,bR.qo _ _ _,by simpa using Iu,by simp⟩
def akM(aO:c6 X.P X.E)(ag:∀ d,o.dst=some d->d<X.n){u:Nat}(au:o.op=.call { callee:=.builtin .append,args:=#[os,q9],argTypes:=#[t,u] })
 {e:Nat} (av:X.E t=some ⟨bz,b1,nl,.slice e⟩) {s x:aq} (sg:xw (X.E u) aG x=true) (he:X.E e=some aG) {kn:Nat} (ae:ti x=some kn) (ao:kn≠0) {us:Value}
  (es:bG F os=.val us) (gs:aT D s us) (ex:bG F q9=.val mi) (AQ:aT D x mi) (h:E0 G m.t x aG.size (RC X G m s x aG kn e)=some (v,m'))
  (hm:dx (ei X G pr) D m I M) (k:sm X G pr D m I M v m' o.dst F C K):bs X o F C I M K:=by
 obtain⟨l,vs,aa,ap,b3,gb,s9,_⟩:=akC (ut:=X.E u) h sg AQ hm ae ao;have af:cn (Nat.beq kn 0) (cn (E2 s) (some (s,m)) none) (cn (l.all aq.one) (AB G m s l kn aG.size aG.bytes e) none)=some (v,m'):=aa;rw[hy ao]at af;have aP:cn (l.all aq.one) (AB G m s l kn aG.size aG.bytes e) none=some (v,m'):=af;obtain⟨kh,aP⟩:=g1 aP;have U:=ap.one kh;obtain⟨mq,hu,fZ⟩:=Z2 sg;have It:∀ {q:List Value} {c:Nat},q.length=c*aG.size->∀ i,(ei X G pr).E e=some i->q.length=c*i.size:=λay i hi=>by have:X.E e=some i:=hi;rw[he]at this;cases this;exact ay
 cases s<;>simp only[AB]at aP<;>first | cases aP | skip
 case sn=>
  obtain⟨ah,bq⟩:=g1 aP;rw[cp]at ah;obtain⟨m2,bj,aw,eh⟩:=Rt (Y:=ei X G pr) bq;cases bj;have mK:=gs.CV;subst mK;have oA:0+kn<=maxLen:=by rw[dz];exact b0 ah.2
  have hL:(0+kn)*aG.bytes<=140737488355328:=by rw[dz];exact b0 ah.1
  refine RA aO ag au av hu fZ he (n:=0) (c:=0) (xs:=[]) es ex (by simp) s9 U b3 gb (λw _=>by simp[run_firstCells_none]) oA hL (λai=>by omega) λ_ b cap aQ bL aC Iu Iv Iw=>?_;refine k _ _ _ bR.Fb ?_ (eh aQ hm aC ap (It Iw) Iv);simp only[aT];exact⟨_,bR.qo _ _ _,by simpa using Iu,by simp⟩
 case sl=>
  obtain⟨ah,bq⟩:=g1 aP;rw[cp]at ah;exact akJ aO ag au av hu fZ he es gs ex bq (b0 ah.2) (b0 ah.1) ap s9 U b3 gb hm k
 case sx=>
  split at aP;·rename_i aA;obtain⟨ah,bq⟩:=g1 aP;simp only[cp]at ah;obtain⟨⟨eY,dS⟩,s6,ux,K5⟩:=ah;have d1:=cK eY;have d2:=cK dS;have d3:=cK s6;subst d1;subst d2;subst d3;exact akK aO ag au av hu fZ he es gs ex aA bq (b0 K5) (b0 ux) ap s9 U b3 gb hm k
  ·cases aP
def akN(aO:c6 X.P X.E)(ag:∀ d,o.dst=some d->d<X.n)(au:o.op=.call { callee:=.builtin .append,args:=args,argTypes:=ts })(h:Q2 (ei X G pr) m ts.toList (oV al args.toList)=some (v,m'))
  (H:jv D F al args.toList) (hm:dx (ei X G pr) D m I M) (k:sm X G pr D m I M v m' o.dst F C K):bs X o F C I M K:=by
 unfold Q2 at h;split at h
 ·rename_i t u s x av ap;split at h
  ·rename_i sa tl sz e o9;obtain⟨aG,he,h⟩:=c1 h;obtain⟨sg,h⟩:=g1 h;obtain⟨os,q9,nb,gj,CY⟩:=Mg ap;obtain⟨us,es,gs⟩:=H.bG (x:=os) (by rw[nb];simp) gj;obtain⟨mi,ex,AQ⟩:=H.bG (x:=q9) (by rw[nb];simp) CY;have CZ:args=#[os,q9]:=by apply g2;simpa using nb
   have C0:ts=#[t,u]:=by apply g2;simpa using av
   have lX:o.op=.call { callee:=.builtin .append,args:=#[os,q9],argTypes:=#[t,u] }:=by rw[au,CZ,C0]
   cases ae:ti x with
   |none=>
    exfalso;unfold xw at sg;split at sg<;>first | (cases sg;done) | (simp[ti,xv]at ae;done)
   |some kn=>
    rw[ae]at h;by_cases ao:kn=0;·subst ao;exact akI aO ag lX o9 sg he ae es gs ex AQ h hm k
    ·exact akM aO ag lX o9 sg he ae ao es gs ex AQ h hm k
  ·cases h
 ·cases h
end
section
variable{P:Program}{w:World}
def Z8(t u ty e:Nat)(i:TypeInfo)(z:Value)(av:P.underlying t=some (.slice e))(hu:P.underlying u=some m1)(p0:∀ k,m1≠.int k)(hi:P.info? e=some i)(a9:i.zero=some z)(qK:z.cells.size=i.size)
 {n:Nat} (hc:xs.length=n*i.size) (yS:∀ w':World,w'.heap=w.heap->∀ j v,xs[j]?=some v->w'.cell? (ad.add j)=some v)
  {x:Value} (hm:0<m) (ap:bU.length=m*i.size)
  (b3:∀ w',(Builtin.lenOf x).run P w'=.ok m w') (gb:∀ w':World,w'.heap=w.heap->(Builtin.firstCells i.size m x).run P w'=.ok bU.toArray w')
  (b1:n+m<=maxLen) (cb:(n+m)*i.bytes<=140737488355328) :
  ∃ (c:Nat) (aQ:List Value),(Builtin.append_ #[t,u] ty #[.slice (some ad) n n,x]).run P w=.ok (.slice (some ⟨w.heap.size,0,none⟩) (n+m) c) (w.drew.alloc (.cells aQ.toArray e (0,0)))/\aQ.length=c*i.size/\n+m<=c/\c<=maxLen/\aQ.take ((n+m)*i.size)=xs++bU:=by
 have D6:(xs++bU).length=(n+m)*i.size:=by rw[cP,hc,ap,ji]
 have Kl:∀ dg,(xs++bU++(Builtin.zeroCells z.cells (grownCap w (n+m) dg e-(n+m))).toList).length=grownCap w (n+m) dg e*i.size/\n+m<=grownCap w (n+m) dg e/\grownCap w (n+m) dg e<=maxLen /\
   (xs++bU++(Builtin.zeroCells z.cells (grownCap w (n+m) dg e-(n+m))).toList).take ((n+m)*i.size)=xs++bU:=by
  intro dg;have cm:=grownCap_ge w (n+m) dg e;have l0:grownCap w (n+m) dg e<=maxLen:=grownCap_le_maxLen w (n+m) dg e b1;refine⟨?_,cm,l0,?_⟩;·rw[cP,D6,yr,size_zeroCells,qK,<-ji];congr 1;omega
  ·rw[<-D6];exact yu
 have oA:n+m<=9223372036854775807:=by simp only[maxLen]at b1;exact b1
 have aw:m≠0:=by omega
 have rO:¬ (n+m<=n):=by omega
 have BO:¬ (9223372036854775807<((n:Int)+(m:Int))):=by omega
 have BP:¬ (281474976710656<Builtin.nextslicecap (n+m) n*i.bytes):=by have:=growslice_fits (by omega:n<n+m) cb;omega
 have aC:=gb w.drew rfl;have Oq:=run_firstCells_some (P:=P) w.drew i.size n ad n n xs hc (yS w.drew rfl);obtain⟨aV,a3,bW,fx⟩:=Kl n;refine⟨grownCap w (n+m) n e,_,?_,aV,a3,bW,fx⟩;simp[Builtin.append_,run_underlying av,run_underlying hu,sizeOf,typeInfo,zeroValue,hi,a9,b3,aw,rO,BO,BP,Question.forced,aC,Oq,newRow,grownCap];congr 2;apply g2;simp
end
section
variable{X:c7}{β:Nat->Nat}{a:Act}{w:World}{F:Fr}{C:d'}{I:aR}{M:List aI}{o:Oper}{K:gp}
def akO(aO:c6 X.P X.E){u:Nat}(au:o.op=.call { callee:=.builtin .append,args:=#[s,x],argTypes:=#[t,u] })(ag:∀ d,o.dst=some d->d<X.n)
  {e:Nat} {dh:ec} (av:X.E t=some dh) (cL:dh.bO=.slice e) (hu:X.E u=some mq) (fZ:∀ k,mq.bO≠.int k) (he:X.E e=some aG)
 {n:Nat} (ar:bG F s=.val (.slice (some ad) n n)) (bu:cq I M ad (n*aG.size) xs)
  {p1:Value} (ab:bG F x=.val p1) (hm:0<m) (ap:bU.length=m*aG.size)
  (b3:∀ w',(Builtin.lenOf p1).run X.P w'=.ok m w') (gb:∀ w,eI I M w->(Builtin.firstCells aG.size m p1).run X.P w=.ok bU.toArray w)
  (b1:n+m<=maxLen) (cb:(n+m)*aG.bytes<=140737488355328)
  (k:∀ os:a5,os.n=n+m->(∀ g,os.a=some g->I g=none)->os.ok aG.size (xs++bU) ->
   K (put o.dst (.val os.val) F) C I (os.aL e++M)):bs X o F C I M K:=by
 refine⟨λa w Q ⟨β,a4⟩=>?_⟩;obtain⟨inf,z,hi,e9,hz,iA,kj⟩:=(aO _ _ he).inf;obtain⟨d,fy,fz⟩:=(aO _ _ hu).fp;obtain⟨hM,mv,kO⟩:=(aO _ _ av).fp;have qL:hM=.slice e:=by rw[cL]at kO;cases hM<;>simp_all[fo]
 subst qL;have qK:z.cells.size=inf.size:=by rw[e9,<-(aO _ _ he).len,<-kj];simp
 have hc:xs.length=n*aG.size:=by obtain⟨_,_,_,_,_,_,h⟩:=bu;exact h
 rw[<-e9]at hc ap gb;obtain⟨c,aQ,e',aV,a3,bW,fx⟩:=Z8 (P:=X.P) (w:=w) t u o.type e inf z mv fy (λk bA=>fZ k (by rw[<-fz,bA];rfl)) hi iA qK hc (λw' vz j v aj=>bu.Is (a4.holds.heap vz) j v aj) (x:=p1) hm ap b3 (λw' vz=>gb w' (a4.holds.heap vz)) b1 (by rw[hz];exact cb);rw[e9]at aV fx;have BR:I w.heap.size=none:=by
  cases bL:I w.heap.size with
  |none=>rfl| some nL=>have:=a4.holds.i _ _ bL;simp at this
 have es:=dk a4.al ar;have ex:=dk a4.al ab;have fY:=k ⟨some w.heap.size,n+m,c,aQ⟩ rfl (λg aA=>by cases aA;exact BR) ⟨by rw[cP];rw[e9]at hc ap;rw[hc,ap,<-ji],λh=>(by cases h),λg aA=>⟨aV,a3,bW,fx⟩⟩;refine je (by rw[au];simp) (v:=.slice (some ⟨w.heap.size,0,none⟩) (n+m) c) (w':=w.drew.alloc (.cells aQ.toArray e (0,0))) ?_ ⟨_,_,_,_,⟨β,cR.put (x:=.val (.slice (some ⟨w.heap.size,0,none⟩) (n+m) c)) ?_ ag rfl⟩,fY⟩
 ·unfold execOp;simp only[au,resolve,invoke,builtin,cy,dc,cc,sP,dv,jh,es,ex,e']
 ·have aa:cR X β a w.drew F C I M:=a4.world rfl;exact aa.oq (.cells aQ.toArray e (0,0))
def Z9{size:Nat}(aw:cq I M ad (m*size) bU){w:World}(hw:eI I M w):(Builtin.firstCells size m (.slice (some ad) m c')).run P w=.ok bU.toArray w:=by
 obtain⟨cg,cs,T,al,cY,ak,ap⟩:=aw;refine run_firstCells_some (P:=P) w size m ad m c' bU ap λj v aj=>?_;rw[eo _ cg,tQ (cY.heap hw)];rw[<-ak,lp]at aj;split at aj
 ·rw[om]at aj;simpa using aj
 ·cases aj
def RD{n:Nat}(h:cq I M ad n xs):xs.length=n:=by obtain⟨_,_,_,_,_,_,h⟩:=h;exact h
def bs.RE(aO:c6 X.P X.E)(au:o.op=.call { callee:=.builtin .append,args:=#[s,x],argTypes:=#[t,t] })(ag:∀ d,o.dst=some d->d<X.n)
  {e:Nat} {dh:ec} (av:X.E t=some dh) (cL:dh.bO=.slice e) (he:X.E e=some aG)
 {n:Nat} (ar:bG F s=.val (.slice (some sa) n n)) (bu:cq I M sa (n*aG.size) xs)
 (ab:bG F x=.val (.slice (some ad) m c')) (hm:0<m) (aw:cq I M ad (m*aG.size) bU) (b1:n+m<=maxLen) (cb:(n+m)*aG.bytes<=140737488355328)
  (k:∀ os:a5,os.n=n+m->(∀ g,os.a=some g->I g=none)->os.ok aG.size (xs++bU)->K (put o.dst (.val os.val) F) C I (os.aL e++M)):bs X o F C I M K:=
 akO aO au ag av cL av (λk=>by rw[cL];simp) he ar bu ab hm (RD aw) (λ_=>rfl) (λw hw=>Z9 aw hw) b1 cb k
def qD.RE{K:dQ->aR->List aI->Prop}(aO:c6 X.P X.E)(au:o.op=.call { callee:=.builtin .append,args:=#[s,x],argTypes:=#[t,t] })
  {e:Nat} {dh:ec} (av:X.E t=some dh) (cL:dh.bO=.slice e) (he:X.E e=some aG)
 {n:Nat} (ar:bG F s=.val (.slice (some sa) n n)) (bu:cq I M sa (n*aG.size) xs)
 (ab:bG F x=.val (.slice (some ad) m c')) (hm:0<m) (aw:cq I M ad (m*aG.size) bU) (b1:n+m<=maxLen) (cb:(n+m)*aG.bytes<=140737488355328)
  (M':a5->List aI) (CC:∀ bV:a5,(bV.aL e++M).Perm (M' bV))
  (k:∀ bV:a5,bV.n=n+m->(∀ g,bV.a=some g->I g=none)->bV.ok aG.size (xs++bU)->K (.val bV.val) I (M' bV)):qD X o F C I M K:=by
 refine⟨fun β a w Q a4=>?_⟩;have hc:=RD bu;have uW:=RD aw;have gb:∀ w,eI I M w->(Builtin.firstCells aG.size m (.slice (some ad) m c')).run X.P w=.ok bU.toArray w:=λw hw=>Z9 aw hw;obtain⟨inf,z,hi,e9,hz,iA,kj⟩:=(aO _ _ he).inf;obtain⟨hM,mv,kO⟩:=(aO _ _ av).fp;have qL:hM=.slice e:=by rw[cL]at kO;cases hM<;>simp_all[fo]
 subst qL;have qK:z.cells.size=inf.size:=by rw[e9,<-(aO _ _ he).len,<-kj];simp
 rw[<-e9]at hc uW gb;obtain⟨c,aQ,e',aV,a3,bW,fx⟩:=Z8 (P:=X.P) (w:=w) t t o.type e inf z mv mv (λk bA=>by cases bA) hi iA qK hc (λw' vz j v aj=>bu.Is (a4.holds.heap vz) j v aj) (x:=.slice (some ad) m c') hm uW (λ_=>rfl) (λw' vz=>gb w' (a4.holds.heap vz)) b1 (by rw[hz];exact cb);rw[e9]at aV fx hc uW;have BR:I w.heap.size=none:=by
  cases bL:I w.heap.size with
  |none=>rfl| some nL=>have:=a4.holds.i _ _ bL;simp at this
 have es:=dk a4.al ar;have ex:=dk a4.al ab;have Qt:(⟨some w.heap.size,n+m,c,aQ⟩:a5).ok aG.size (xs++bU):=by
  refine⟨?_,(λh=>by cases h),λdH aA=>?_⟩;·rw[cP,hc,uW,<-ji]
  ·cases aA;exact⟨aV,a3,bW,fx⟩
 refine je (by rw[au];simp) (v:=.slice (some ⟨w.heap.size,0,none⟩) (n+m) c) (w':=w.drew.alloc (.cells aQ.toArray e (0,0))) ?_ ⟨_,.val (.slice (some ⟨w.heap.size,0,none⟩) (n+m) c),I,M' ⟨some w.heap.size,n+m,c,aQ⟩,rfl,rfl,?_,k ⟨some w.heap.size,n+m,c,aQ⟩ rfl (λdH aA=>by cases aA;exact BR) Qt,rfl⟩
 ·unfold execOp;simp only[au,resolve,invoke,builtin,cy,dc,cc,sP,dv,jh,es,ex,e']
 ·refine cR.iH ?_ (.perm (CC _) .refl);have aa:cR X β a w.drew F C I M:=a4.world rfl;exact aa.oq (.cells aQ.toArray e (0,0))
end
open Go Go.Proofs
inductive oW
 |own(os:a5)| al (sa:Addr) (n:Nat)
def oW.a:oW->Option Addr
 | .own os=>os.a.map λg=>⟨g,0,none⟩
 | .al sa _=>some sa
def oW.n:oW->Nat
 | .own os=>os.n| .al _ n=>n
def oW.c:oW->Nat
 | .own os=>os.c| .al _ n=>n
def oW.val(x:oW):Value:=.slice x.a x.n x.c
def oW.aL(e:Nat):oW->List aI
 | .own os=>os.aL e| .al _ _=>[]
def oW.ok(I:aR)(size:Nat)(xs:List Value):oW->Prop
 | .own os=>os.ok size xs| .al sa n=>∀ M,cq I M sa (n*size) xs
def qD.AB{X:c7}{C:d'}{o:Oper}{K:dQ->aR->List aI->Prop}(aO:c6 X.P X.E)(au:o.op=.call { callee:=.builtin .append,args:=#[s,x],argTypes:=#[t,t] })
  {e:Nat} {dh:ec} (av:X.E t=some dh) (cL:dh.bO=.slice e) (he:X.E e=some aG)
  (os:oW) (bb:os.ok I aG.size xs) (ar:bG F s=.val os.val)
  {b9:Nat} (ab:bG F x=.val (.slice (some ⟨b9,0,none⟩) 1 c')) (ap:cs.length=aG.size) (U:gU cs=true)
  (a8 post:List aI) (a2:M=⟨b9,.cells cs.toArray e (0,0)⟩::(a8++(os.aL e++post))) (b1:os.n+1<=9223372036854775807) (cb:(os.n+1)*aG.bytes<=140737488355328)
  (k:∀ bV:a5,bV.n=os.n+1->(∀ g,bV.a=some g->I g=none)->bV.ok aG.size (xs++cs)->K (.val bV.val) I (⟨b9,.cells cs.toArray e (0,0)⟩::(a8++(bV.aL e++post)))):qD X o F C I M K:=by
 cases os with
 |own os=>exact .uS aO au av cL he os bb ar ab ap U a8 post a2 b1 cb k
 |al sa n=>
  have Iy:M=⟨b9,.cells cs.toArray e (0,0)⟩::(a8++post):=a2;refine .RE aO au av cL he ar (bb M) ab (m:=1) (bU:=cs) (by decide) ?_ (by unfold maxLen;exact b1) cb _ (λbV=>?_) k;·rw[oy];refine⟨rfl,_,_,_,.inr ⟨⟨b9,.cells cs.toArray e (0,0)⟩,by rw[Iy];exact .head _,rfl,rfl⟩,?_,ap⟩;simp only[sQ];exact fq (by omega)
  ·rw[Iy];exact qd.trans (.cons _ (Ab _ _ _))
structure Iz(I:aR)(ds:List bI)(xs:List aM)(t:bN)(i:Nat)(os:oW)(kb:List (Nat×List Nat)):Prop where
 ii:i<=t.n
 n:os.n=xs.length+i
 ok:os.ok I 9 ((xs++kU kb (t.ns.take i)).flatMap aM.cells)
 kb:kb.map (·.2)=(t.ns.take i).map (eN ds xs.length)
 find:∀ n∈t.ns.take i,n.k=3->0<=df n.t ds 0
 own:0<i->∃ o:a5,os=.own o
def Iz.len{xs:List aM}{t:bN}{i:Nat}{os:oW}{kb:List (Nat×List Nat)}(h:Iz I ds xs t i os kb)(aw:t.ns.length=t.n):kb.length=(t.ns.take i).length:=by have:=congrArg List.length h.kb;simpa using this
set_option maxHeartbeats 8000000 in
def akP{t:bN}(av:t.ok I){fU dU:Option Addr}{hY ft:Nat}{xs:List aM}(h:LJ I ds fU dU hY ft xs.length t){os0:oW}(uZ:os0.ok I 9 (xs.flatMap aM.cells))(Qy:os0.n=xs.length)(bt:Nat)(s:ByteArray)(rwv:Value) :
  Spec Tryz.prog 53 [ptr bt,t.val] I (jM bt s (.slice fU ds.length hY) (.slice dU ds.length ft) os0.val rwv::(os0.aL 59++[])) λv I' M'=>I'=I/\∃ (i:Nat) (os:oW) (kb:List (Nat×List Nat)),Iz I ds xs t i os kb /\
   M'=jM bt s (.slice fU ds.length hY) (.slice dU ds.length ft) os.val rwv::(os.aL 59++kb.map fB)/\((v=.bool true/\i=t.n)\/(v=.bool false/\∃ n∈t.ns,n.k=3/\df n.t ds 0<0)):=by
 refine b4 [] aU Tryz.func53 rfl rfl rfl ?_;intro B ao;have k':=av.n;have ajE:=h.many;refine aK.mk _ (uY (j:=3) (.head _) (by decide)) ?_;refine dG.inv (ι:=Nat×oW×List (Nat×List Nat)) (λx=>{ bx:=[(0,.val (ptr bt)),(4,.lit false),(5,.val (.int .i64 os0.n)),(18,.val (.slice t.a t.n t.c)),(19,.val (.int .i64 t.n)),(20,.val (.int .i64 x.1))],cl:=[],c2:=I,du:=jM bt s (.slice fU ds.length hY) (.slice dU ds.length ft) x.2.1.val rwv::(x.2.1.aL 59++x.2.2.map fB) }) (λx=>Iz I ds xs t x.1 x.2.1 x.2.2) (λx=>t.n-x.1) ?_ ?_
 ·exact⟨(0,os0,[]),⟨bw _,Qy,by simpa[kU]using uZ,rfl,λn aw=>(by cases aw),λh=>absurd h (Nat.lt_irrefl _)⟩,.refl,km,.nil⟩
 rintro⟨i,os,kb⟩ga;have hi:=ga.ii;have oT:=ga.n;have CF:=ga.ok;have CG:=ga.len k';simp only at hi oT CF CG;refine aJ.mk (λe=>?_) (λe=>?_)
 rotate_left
 ·have cm:t.n<=i:=by simpa using e
  obtain rfl:i=t.n:=by omega
  exact⟨_,_,.refl,rfl,t.n,os,kb,ga,rfl,.inl ⟨rfl,rfl⟩⟩
 have aS:i<t.n:=by simpa using e
 have b':i<t.ns.length:=by omega
 obtain⟨ad,bP,bu⟩:=av.bg.row aM.de aS b';obtain⟨d,ag⟩:∃ d,t.ns[i]=d:=⟨_,rfl⟩;have eE:d∈t.ns:=by rw[<-ag];exact cC b'
 have pb:=av.ns d eE;have cY:=pb.kn;obtain⟨cZ,ep,oR⟩:=h.ns d eE;rw[ag]at bu;have nK:t.ns.take (i+1)=t.ns.take i++[d]:=by rw[ho b',ag]
 have yS:∀ (b:Nat) (L:List Nat),((xs++kU kb (t.ns.take i)).flatMap aM.cells)++(q8 b L d).cells=(xs++kU (kb++[(b,L)]) (t.ns.take (i+1))).flatMap aM.cells:=λb L=>by rw[nK,YR CG,<-fA,ku];simp
 have next:∀ (b:Nat) (L:List Nat) (bV:a5),L=eN ds xs.length d->(d.k=3->0<=df d.t ds 0)->bV.n=os.n+1->bV.ok 9 ((xs++kU kb (t.ns.take i)).flatMap aM.cells++(q8 b L d).cells)->Iz I ds xs t (i+1) (.own bV) (kb++[(b,L)]):=λb L bV cT aC aw bb=>by
  refine⟨aS,(by show bV.n=_;omega),(by rw[<-yS];exact bb),?_,λn aw=>?_,λ_=>⟨bV,rfl⟩⟩;·rw[fi,ga.kb,nK,fi,cT];rfl
  ·rw[nK]at aw;rcases dV.1 aw with aw | aw
   ·exact ga.find n aw
   ·rw[gI.1 aw];exact aC
 refine bk.mk ad i bP rfl aS ?_;refine aK.mk _ (bu _) ?_;refine nE.mk d.kn d.kn rfl rfl (bY _) (by show 8*d.kn<=_;omega) (by omega) ?_;refine cv.mk λdm Lf YS=>?_;refine dG.inv (ι:=Nat) (λj=>{ bx:=[(0,.val (ptr bt)),(4,.lit false),(5,.val (.int .i64 os0.n)),(7,.ref 7 0),(8,.val (.slice (some ⟨dm,0,none⟩) d.kn d.kn)),(18,.val (.slice t.a t.n t.c)),(19,.val (.int .i64 t.n)),(20,.val (.int .i64 i)),(29,.val (.slice d.iW d.kn d.iz)),(30,.val (.int .i64 d.kn)),(31,.val (.int .i64 j))],cl:=[(7,d.cells)],c2:=I,du:=⟨dm,.cells ((d.ax.take j).map (λk=>bQ (xs.length+k.toNat))++List.replicate (d.kn-j) (bQ 0)).toArray 3 (0,0)⟩::jM bt s (.slice fU ds.length hY) (.slice dU ds.length ft) os.val rwv::(os.aL 59++kb.map fB) }) (λj=>j<=d.kn) (λj=>d.kn-j) ?_ ?_
 ·refine⟨0,bw _,.pz ?_,DS,.cons rfl (.nil)⟩;have e:rowOf [bQ 0] (d.kn*1)=List.replicate d.kn (bQ 0):=by rw[BU,iU]
  show(⟨dm,.cells (rowOf [bQ 0] (d.kn*1)).toArray 3 (0,0)⟩:aI)::_=_;rw[e];rfl
 intro j aj;refine aJ.mk (λaF=>?_) (λaF=>?_)
 ·have y6:j<d.kn:=by simpa using aF
  have CH:j<d.ax.length:=by omega
  obtain⟨eK,fG,e0⟩:=pb.bg.one (f:=λ(k:Int)=>Value.int .i64 k) y6 CH;have CI:=cZ _ (cC CH);refine bk.mk eK j fG rfl y6 ?_;refine aK.mk _ (e0 _) ?_;refine bc.mk ((xs.length+d.ax[j].toNat:Nat):Int) (fK (by omega) (by omega)) ?_;refine bk.mk ⟨dm,0,none⟩ j rfl rfl y6 ?_;refine cz.jl [] _ ((d.ax.take j).map (λk=>bQ (xs.length+k.toNat))++List.replicate (d.kn-j) (bQ 0)) _ rfl ?_ rfl ((d.ax.take (j+1)).map (λk=>bQ (xs.length+k.toNat))++List.replicate (d.kn-(j+1)) (bQ 0)) ?_ ?_;·rw[nW,cP,cD,gr,zU];show 0+j*1+1<=_;omega
  ·have q4:List.replicate (d.kn-j) (bQ 0)=bQ 0::List.replicate (d.kn-(j+1)) (bQ 0):=by rw[show d.kn-j=(d.kn-(j+1))+1 from by omega,vR]
   rw[q4,ho CH,fi,fA];exact KU (k:=0+j*1) (by rw[cD,gr];omega)
  refine bc.mk _ (cF (i:=j) (by omega)) ?_;exact⟨j+1,⟨by omega,by omega⟩,.refl,DS,.cons rfl (.nil)⟩
 have cm:d.kn<=j:=by simpa using aF
 obtain rfl:j=d.kn:=by omega
 have uz:(d.ax.take d.kn).map (λk=>bQ (xs.length+k.toNat))++List.replicate (d.kn-d.kn) (bQ 0)=(d.ax.map λk=>xs.length+k.toNat).map bQ:=by rw[fq (by omega),lE];simp[HM]
 rw[uz];refine aJ.mk (λaf=>?_) (λaf=>?_)
 ·have ql:d.k=3:=bS af;refine c4.draw aU rfl rfl rfl ?_;refine aK.mk _ (uY (j:=1) (.tail _ (.head _)) (by decide)) ?_;refine a0.whole _ (YQ h.nm d.t) ?_;rintro v I' M' -⟨rfl,rfl,rfl⟩;refine aJ.mk (λdw=>?_) (λdw=>?_)
  ·have H3:df d.t ds 0<0:=bS dw;exact⟨_,_,.sub (.cons _ (.refl _)) .refl,rfl,i,os,kb,ga,rfl,.inr ⟨rfl,d,eE,ql,H3⟩⟩
  have H3:¬ df d.t ds 0<0:=cx dw;have ld:=Ar ds 0 (by omega:0<=df d.t ds 0);obtain⟨q,ay⟩:∃ q:Nat,df d.t ds 0=(q:Int):=⟨(df d.t ds 0).toNat,by omega⟩;have eS:q<ds.length:=by omega
  have CJ:q<(gl 0 ds).length:=by rw[vX];exact eS
  obtain⟨ac,Ax,kD⟩:=h.rt.one (f:=bQ) eS CJ;have sh:[(gl 0 ds)[q]]=eN ds xs.length d:=by rw[eN,fr ql,bh,ay];simp[cS,CJ]
  refine aK.mk _ (uY (j:=2) (.tail _ (.head _)) (by decide)) ?_;refine bk.mk ac q Ax ay eS ?_;refine aK.mk _ (kD _) ?_;refine cv.mk λn9 Qz QA=>?_;refine c4.draw aU rfl rfl rfl ?_;refine aK.mk _ (uY (j:=3) (.tail _ (.tail _ (.head _))) (by decide)) ?_;refine cv.mk λb9 hD ju=>?_;intro G kp;refine qD.AB aU rfl (e:=59) rfl rfl rfl os CF (xp (kp _ (by simp[Op.operands,Call.operands])) rfl) (xp (kp _ (by simp[Op.operands,Call.operands])) rfl) (cs:=(q8 n9 [(gl 0 ds)[q]] d).cells) rfl rfl ([fB (n9,[(gl 0 ds)[q]]),⟨dm,.cells ((d.ax.map λk=>xs.length+k.toNat).map bQ).toArray 3 (0,0)⟩,jM bt s (.slice fU ds.length hY) (.slice dU ds.length ft) os.val rwv]) (kb.map fB) rfl (by omega) (by show(os.n+1)*96<=_;omega) ?_;intro bV U aa aP;refine cz.mk (⟨b9,_⟩::[fB (n9,[(gl 0 ds)[q]]),⟨dm,.cells ((d.ax.map λk=>xs.length+k.toNat).map bQ).toArray 3 (0,0)⟩]) (bV.aL 59++kb.map fB) _ _ rfl rfl (b0 rfl) rfl ?_;refine bc.mk _ (cF (i:=i) (by omega)) ?_;refine⟨(i+1,.own bV,kb++[(n9,[(gl 0 ds)[q]])]),⟨next _ _ _ sh (λ_=>by omega) U aP,by simp only;omega⟩,.sub (M1:=fB (n9,[(gl 0 ds)[q]])::jM bt s (.slice fU ds.length hY) (.slice dU ds.length ft) bV.val rwv::(bV.aL 59++kb.map fB)) (.cons _ (.cons_cons _ (.cons _ (.refl _)))) (.perm (LK _ _ _ _) .refl),km,.nil⟩
 ·have ql:¬ d.k=3:=cx af;have sh:(d.ax.map λk=>xs.length+k.toNat)=eN ds xs.length d:=by rw[eN,c0 ql,bf]
  have QB:(d.ax.map λk=>xs.length+k.toNat).length=d.kn:=by rw[cD,cY]
  rw[<-QB];refine c4.draw aU rfl rfl rfl ?_;refine aK.mk _ (uY (j:=3) (.tail _ (.head _)) (by decide)) ?_;refine cv.mk λb9 hD ju=>?_;intro G kp;refine qD.AB aU rfl (e:=59) rfl rfl rfl os CF (xp (kp _ (by simp[Op.operands,Call.operands])) rfl) (xp (kp _ (by simp[Op.operands,Call.operands])) rfl) (cs:=(q8 dm (d.ax.map λk=>xs.length+k.toNat) d).cells) rfl rfl ([fB (dm,d.ax.map λk=>xs.length+k.toNat),jM bt s (.slice fU ds.length hY) (.slice dU ds.length ft) os.val rwv]) (kb.map fB) rfl (by omega) (by show(os.n+1)*96<=_;omega) ?_;intro bV U aa aP;refine cz.mk (⟨b9,_⟩::[fB (dm,d.ax.map λk=>xs.length+k.toNat)]) (bV.aL 59++kb.map fB) _ _ rfl rfl (b0 rfl) rfl ?_;refine bc.mk _ (cF (i:=i) (by omega)) ?_;refine⟨(i+1,.own bV,kb++[(dm,d.ax.map λk=>xs.length+k.toNat)]),⟨next _ _ _ sh (λh=>absurd h ql) U aP,by simp only;omega⟩,.sub (M1:=fB (dm,d.ax.map λk=>xs.length+k.toNat)::jM bt s (.slice fU ds.length hY) (.slice dU ds.length ft) bV.val rwv::(bV.aL 59++kb.map fB)) (.cons _ (.refl _)) (.perm (LK _ _ _ _) .refl),km,.nil⟩
end Go.V
