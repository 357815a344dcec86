/- Part 6 of what the proofs of this seat share: the executor, data in memory, walks.
-/
import Derived.Test.YtjambecdkaahmaaGreatDoorK5
import Derived.Test.YtjambecdkaahmaaGreatDoorK4
import Derived.Test.YtjambecdkaahmaaGreatDoorK3
set_option linter.all false
namespace Go.V
open Go
def nQ:=@List.mem_cons_of_mem
def uH:=@List.append_of_mem
def zx:=@decide_eq_decide
def GW:=@List.drop_succ_cons
def Ky:=@List.getElem?_of_mem
def zy:=@Nat.add_eq
def Pv:=@Int.natCast_nonneg
def DL:=@Nat.mul_eq
def DM:=@Nat.sub_eq
variable{α R:Type}{b:Bool}{x y qw os lo hi mx:Operand}{r dst:Option Nat}{vs xs cs wb bV:List Value}{F:Fr}{E:Env}{M:List aB}{dJ:IntKind}{t j sz off T g clock cu b1 m:Nat}{K:Value->Prop}{O:Prop}{dk ut:Option dU}{P:Program}{w lH:Value}{aH nu:dU}{args:Array Operand}{ts:Array Nat}{d od:TypeDesc}{be:Option Addr}
noncomputable section
inductive bg(α:Type) where
 |nil| node (x:Option α) (l r:bg α)
def b5{α:Type}(b:Bool)(x y:α):α:=@Bool.rec (λ_=>α) y x b
def bX{α R:Type}(o:Option α)(x:R)(f:α->R):R:=@Option.rec α (λ_=>R) x f o
section
variable{α R:Type}
def bg.get(t:bg α):Nat->Option α:=@bg.rec α (λ_=>Nat->Option α) (λ_=>none) (λx _ _ ajI ajJ k=>b5 (Nat.beq k 0) x (b5 (Nat.beq (Nat.mod k 2) 1) (ajI (Nat.div k 2)) (ajJ (Nat.sub (Nat.div k 2) 1)))) t
def bg.m7(v:Option α)(t:bg α):Nat->(bg α->R)->R:=@bg.rec α (λ_=>Nat->(bg α->R)->R) (λk K=>b5 (Nat.beq k 0) (K (.node v .nil .nil)) (K .nil)) (λx l r sl Pw k K=>b5 (Nat.beq k 0) (K (.node v l r)) (b5 (Nat.beq (Nat.mod k 2) 1) (sl (Nat.div k 2) λl=>K (.node x l r)) (Pw (Nat.sub (Nat.div k 2) 1) λr=>K (.node x l r)))) t
def bg.DN(t:bg α)(off n:Nat):(List α->Option R)->Option R:=@Nat.rec (λ_=>Nat->(List α->Option R)->Option R) (λ_ K=>K []) (λ_ a7 off K=>bX (t.get off) none λv=>a7 (Nat.add off 1) λl=>K (v::l)) n off
def bg.x5(l:List α)(t:bg α)(off:Nat)(K:bg α->R):R:=@List.rec α (λ_=>bg α->Nat->R) (λt _=>K t) (λv _ a7 t off=>t.m7 (some v) off λt=>a7 t (Nat.add off 1)) l t off
def bg.bare:Nat->bg α
 |0=>.nil| n+1=>.node none (bg.bare n) (bg.bare n)
end
inductive ao where
 |b(x:Bool) | i (k:IntKind) (n:Int) | s (l:List UInt8)| pn | p (id off:Nat) | g (n off:Nat)| sn | sl (id off n c:Nat) | sx (id off e n:Nat) | gs (g off n c:Nat) | so| mn | m (id:Nat)| f (g:Nat) (l r:List ao) | y (id:Nat) | fn| ni | GX (t:Nat) (v:ao)| t (l:List ao) | a (l:List ao)
def ao.cells:ao->List ao
 | .a l=>l| v=>[v]
def ao.one:ao->Bool
 | .a _ | .t _=>false| _=>true
def GY:Value->Option ao
 | .bool x=>some (.b x)| .int k n=>some (.i k n)| .string q=>some (.s q.data.toList)| .pointer none=>some .pn| .slice none 0 0=>some .sn| .map none=>some .mn| .nilFunc=>some .fn| .nilIface=>some .ni| _=>none
def x6:List Value->Option (List ao)
 |[]=>some []
 |v::vs=>match GY v,x6 vs with
  |some x,some l=>some (x::l)| _,_=>none
def DO:Value->Option ao
 | .agg cs=>match x6 cs.toList with
  |some l=>some (.a l)| none=>none
 |v=>GY v
def ao.nat:ao->Option Nat
 | .i _ (.ofNat n)=>some n| _=>none
inductive e0 where
 |cells(cs:bg ao)(T e1:Nat)| map (es:List (ao×ao))| loop (busy:Bool) (n:Nat) (al:bg ao) (ps:List Nat) (fc body:Code)| done (c:Code) (n:Nat) (al:bg ao) (ps:List Nat) (fc body:Code)
structure bm where
 t:bg e0
 n:Nat
def my:Int->Int->Bool
 | .ofNat a,.ofNat b=>Nat.beq a b| .negSucc a,.negSucc b=>Nat.beq a b| _,_=>false
def Bp:Int->Int->Bool
 | .ofNat a,.ofNat b=>Nat.ble a b| .negSucc a,.negSucc b=>Nat.ble b a| .negSucc _,.ofNat _=>true| .ofNat _,.negSucc _=>false
def Ck(a b:Int):Bool:=!Bp b a
def Px(op:BinOp)(x y:Int):Option Bool:=match op with
 | .eql=>some (my x y)| .neq=>some (!my x y)| .lss=>some (Ck x y)| .leq=>some (Bp x y)| .gtr=>some (Ck y x)| .geq=>some (Bp y x)| _=>none
def Kz:IntKind->Nat
 | .i8=>127 | .i16=>32767 | .i32=>2147483647 | .i64=>9223372036854775807| .u8=>255 | .u16=>65535 | .u32=>4294967295 | .u64=>18446744073709551615
def wc(k:IntKind):Int->Int
 | .ofNat n=>bif Nat.ble n (Kz k)then .ofNat n else k.wrap (.ofNat n)| n=>k.wrap n
def X5:Int->Int->Int
 | .ofNat a,.ofNat b=>.ofNat (Nat.add a b)| a,b=>a+b
def Py:Int->Int->Int
 | .ofNat a,.ofNat b=>bif Nat.ble b a then .ofNat (Nat.sub a b)else(.ofNat a:Int) - .ofNat b| a,b=>a-b
def X6:Int->Int->Int
 | .ofNat a,.ofNat b=>.ofNat (Nat.mul a b)| a,b=>a*b
def X7:Int->Int->Int
 | .ofNat a,.ofNat b=>.ofNat (Nat.div a b)| a,b=>a.tdiv b
def X8:Int->Int->Int
 | .ofNat a,.ofNat b=>.ofNat (Nat.mod a b)| a,b=>a.tmod b
def X9:Int->Nat->Int
 | .ofNat a,j=>.ofNat (Nat.mul a (Nat.pow 2 j))| a,j=>a*2^j
def X':Int->Nat->Int
 | .ofNat a,j=>.ofNat (Nat.div a (Nat.pow 2 j))| a,j=>a.fdiv (2^j)
def DP(op:BinOp)(k:IntKind)(x y:Int):Option Int:=
 match k,x,y with
 | .u64,.ofNat a,.ofNat b=>
  bif Nat.ble a 18446744073709551615&&Nat.ble b 18446744073709551615 then
   (match op with
   | .and=>some (.ofNat (Nat.land a b))| .or=>some (.ofNat (Nat.lor a b))| .xor=>some (.ofNat (Nat.xor a b))| .andNot=>some (.ofNat (Nat.land a (Nat.sub 18446744073709551615 b)))| _=>none)
  else none
 |_,_,_=>tN op k x y
def Pz(a b:UInt8):Bool:=Nat.beq a.toNat b.toNat
def qx:List UInt8->List UInt8->Bool
 |[],[]=>true| a::l,b::m=>bif Pz a b then qx l m else false| _,_=>false
def DQ:ao->ao->Option Bool
 | .b x,.b w=>some (x == w)| .i k x,.i l w=>b5 (IntKind.l' k l) (some (my x w)) none| .s x,.s w=>some (qx x w)| _,_=>none
def Ya:List ao->List ao->Option Bool
 |[],[]=>some true
 |x::l,w::m=>match DQ x w with
  |some true=>Ya l m
  |some false=>(match Ya l m with
   |some _=>some false| none=>none)
  |none=>none
 |_,_=>none
def asW:ao->ao->Option Bool
 | .pn,.pn=>some true| .pn,.p _ _=>some false| .p _ _,.pn=>some false| .pn,.g _ _=>some false| .g _ _,.pn=>some false| _,_=>none
def PA(op:BinOp)(k dJ:IntKind)(a b:Int):Option ao:=match op with
 | .shl=>(match b with
  | .ofNat j=>some (.i k (wc k (X9 a (b5 (Nat.ble j k.bits) j k.bits))))| _=>none)
 | .shr=>(match b with
  | .ofNat j=>some (.i k (X' a (b5 (Nat.ble j k.bits) j k.bits)))| _=>none)
 | .add=>b5 (IntKind.l' k dJ) (some (.i k (wc k (X5 a b)))) none| .sub=>b5 (IntKind.l' k dJ) (some (.i k (wc k (Py a b)))) none| .mul=>b5 (IntKind.l' k dJ) (some (.i k (wc k (X6 a b)))) none| .quo=>b5 (IntKind.l' k dJ) (b5 (my b 0) none (some (.i k (wc k (X7 a b))))) none| .rem=>b5 (IntKind.l' k dJ) (b5 (my b 0) none (some (.i k (X8 a b)))) none| .and=>b5 (IntKind.l' k dJ) (bX (DP .and k a b) none λr=>some (.i k r)) none| .or=>b5 (IntKind.l' k dJ) (bX (DP .or k a b) none λr=>some (.i k r)) none| .xor=>b5 (IntKind.l' k dJ) (bX (DP .xor k a b) none λr=>some (.i k r)) none| .andNot=>b5 (IntKind.l' k dJ) (bX (DP .andNot k a b) none λr=>some (.i k r)) none| op=>b5 (IntKind.l' k dJ) (bX (Px op a b) none λr=>some (.b r)) none
def PB(op:BinOp)(a b:List UInt8):Option ao:=match op with
 | .eql=>some (.b (qx a b))| .neq=>some (.b (b5 (qx a b) false true))| .add=>b5 (Nat.ble (Nat.add a.length b.length) 9223372036854775807) (some (.s (a++b))) none| _=>none
def PC(op:BinOp)(dk:Option dU)(a b:Bool):Option ao:=match dk with
 |some { bE:=.bool,.. }=>
  (match op with
  | .eql=>some (.b (a == b))| .neq=>some (.b (!(a == b)))| _=>none)
 |_=>none
def DR(agg:Bool)(l:List ao):Option ao:=bif agg then some (.a l)else match l with
 |[v]=>some v| _=>none
def Bq:Nat->List ao->Option (List ao)
 |0,_=>some []| _+1,[]=>none
 |n+1,v::l=>match Bq n l with
  |some r=>some (v::r)| none=>none
def Br{α:Type}:List α->Nat->List α
 |[],_=>[]| v::l,n=>bif Nat.beq n 0 then v::l else Br l (Nat.sub n 1)
def uI(E:Env)(t o:Nat)(l:List ao):Option ao:=bX (E t) none λi=>b5 (Nat.beq i.size 0) none <| bX (Bq i.size (Br l o)) none λr=>DR i.bE.agg r
def we(F:Nat->ao->ao->Option Bool)(E:Env)(l m:List ao):List (Nat×Nat)->Option Bool
 |[]=>some true|(t,o)::r=>bX (uI E t o l) none λx=>bX (uI E t o m) none λy=>bX (F t x y) none λb=>b5 b (we F E l m r) (some false)
def PD(P:Program)(t:Nat):Bool:=match P.underlying t with
 |some (.struct cE)=>!P.stoodInHeld t&&cE.toList.all λf=>decide (f.name ≠ "_")
 |_=>false
def m8(P:Program)(E:Env):Nat->Nat->ao->ao->Option Bool
 |0,_,_,_=>none
 |d+1,t,x,y=>bX (E t) none λi=>match i.bE,x,y with
  | .bool,.b a,.b b=>some (a == b)| .int _,.i k a,.i dJ b=>b5 (IntKind.l' k dJ) (some (my a b)) none| .string,.s a,.s b=>some (qx a b)| .struct cE,.a l,.a m=>b5 (PD P t) (we (m8 P E d) E l m cE) none| .array n e,.a l,.a m=>bX (E e) none λaH=>we (m8 P E d) E l m ((List.range n).map λi=>(e,i*aH.size))
  |_,_,_=>none
def x7(P:Program)(E:Env)(op:BinOp)(t:Nat)(l m:List ao):Option ao:=b5 (P.eqGuardType P.depth t) none (bX (m8 P E 8 t (.a l) (.a m)) none λb=>match op with
 | .eql=>some (.b b)| .neq=>some (.b (!b))| _=>none)
def PE:ao->Option Bool
 | .sn=>some true| .sl .. | .sx .. | .gs .. | .so=>some false| _=>none
def PF:ao->Option Bool
 | .pn=>some true| .p .. | .g ..=>some false| _=>none
def KA(op:BinOp)(b:Bool):Option ao:=match op with
 | .eql=>some (.b b)| .neq=>some (.b (!b))| _=>none
def PG(P:Program)(E:Env)(op:BinOp)(t:Nat)(x y:ao):Option ao:=
 match x,y with
 | .i k a,.i dJ b=>PA op k dJ a b| .s a,.s b=>PB op a b| .b a,.b b=>PC op (E t) a b| .a l,.a m=>x7 P E op t l m
 |x,.sn=>bX (E t) none λi=>(match i.bE with
  | .slice _=>bX (PE x) none λb=>KA op b
  |_=>none)
 |x,.pn=>bX (E t) none λi=>(match i.bE with
  | .pointer _=>bX (PF x) none λb=>KA op b
  |_=>none)
 |_,_=>none
def wg{α:Type}:List α->Nat->Option α
 |[],_=>none| v::l,n=>bif Nat.beq n 0 then some v else wg l (Nat.sub n 1)
def x8:List ao->Nat->List ao->Option (List ao)
 |cs,0,[]=>some cs
 |_::cs,0,v::vs=>match x8 cs 0 vs with
  |some r=>some (v::r)| none=>none
 |c::cs,n+1,vs=>match x8 cs n vs with
  |some r=>some (c::r)| none=>none
 |[],_,_=>none
def zz(place:Nat->Option (Nat×Nat)):List ao->List (Nat×ao)->Option (List ao)
 |cells,[]=>some cells
 |cells,(i,v)::bb=>match place i with
  |none=>none
  |some (off,size)=>bif Nat.beq v.cells.length size then(match x8 cells off v.cells with
   |some cs=>zz place cs bb| none=>none)else none
def dm(al:bg ao):Operand->Option ao
 | .tmp t=>al.get t| .const v=>DO v| .global g=>some (.g g 0)| .func f=>some (.f f [] [])
def nR(al:bg ao):List Operand->Option (List ao)
 |[]=>some []
 |x::xs=>match dm al x,nR al xs with
  |some v,some l=>some (v::l)| _,_=>none
def DS(al:bg ao):List (Nat×Operand)->Option (List (Nat×ao))
 |[]=>some []
 |(i,x)::xs=>match dm al x,DS al xs with
  |some v,some l=>some ((i,v)::l)| _,_=>none
abbrev GT:=Nat->Option (bg ao)
def tv{R:Type}(G:GT)(m:bg e0)(x:ao)(n:Nat)(K:List ao->Option R):Option R:=match x with
 | .p id off=>(match m.get id with
  |some (.cells cs _ e1)=>bif Nat.ble (Nat.add off n) e1 then cs.DN off n K else none| _=>none)
 | .g g off=>(match G g with
  |some cs=>cs.DN off n K| none=>none)
 |_=>none
def GZ(x:ao)(n:Nat):Option ao:=match x with
 | .p id off=>some (.p id (Nat.add off n))| .g g off=>some (.g g (Nat.add off n))| _=>none
def KB(x:ao)(j sz:Nat):Option ao:=match x with
 | .sl id off n _=>bif Nat.blt j n then some (.p id (Nat.add off (Nat.mul j sz)))else none| .sx id off _ n=>bif Nat.blt j n then some (.p id (Nat.add off (Nat.mul j sz)))else none| .gs g off n _=>bif Nat.blt j n then some (.g g (Nat.add off (Nat.mul j sz)))else none| _=>none
def wi:ao->Option Nat
 | .sn | .so=>some 0| .sl _ _ n _ | .sx _ _ _ n | .gs _ _ n _=>some n| _=>none
def sj(v:ao):Option Nat:=match v with
 | .s l=>some l.length| v=>wi v
def PH(x:ao)(sz l:Nat)(h:Option Nat):Option ao:=match x with
 | .sn=>bif Nat.beq l 0&&Nat.beq (h.getD 0) 0 then some .sn else none
 | .sl id off n c=>let h:=h.getD n
  bif Nat.ble l h&&Nat.ble h c then bif Nat.beq c l then some (.sl id off (Nat.sub h l) 0)else some (.sl id (Nat.add off (Nat.mul l sz)) (Nat.sub h l) (Nat.sub c l))else none
 | .sx id off e n=>let h:=h.getD n
  bif Nat.ble l h&&Nat.ble h n then(bif Nat.beq l 0||Nat.blt l n then some (.sx id (Nat.add off (Nat.mul l sz)) (Nat.add e l) (Nat.sub h l))else some .so)else none
 |_=>none
def Bs(o:Option (Option ao)):Option (Option Nat):=match o with
 |none=>some none
 |some (some v)=>(match v.nat with
  |some n=>some (some n)| none=>none)
 |some none=>none
def PI(l:List UInt8)(lo hi:Nat):List UInt8:=(Br l lo).take (Nat.sub hi lo)
def Yb(c a b:Option ao):Option ao:=match c,a,b with
 |some (.b c),some u,some v=>some (b5 c u v)| _,_,_=>none
def Yc(op:UnOp)(x:Option ao):Option ao:=match op,x with
 | .not,some (.b b)=>some (.b (b5 b false true))| .neg,some (.i k n)=>some (.i k (wc k (0-n)))| _,_=>none
def Yd(P:Program)(E:Env)(op:BinOp)(t:Nat)(x y:Option ao):Option ao:=bX x none λx=>bX y none λy=>PG P E op t x y
def Ye(G:GT)(m:bg e0)(i:Option dU)(x:Option ao):Option ao:=bX i none λi=>bX x none λx=>tv G m x i.size λl=>DR i.bE.agg l
def Yf(x:Option ao):Option ao:=match x with
 |some (.p id off)=>some (.p id off)| some (.g g off)=>some (.g g off)| _=>none
def KD(E:Env)(t i:Nat):Option (Nat×dU):=match E t with
 |some { bE:=.struct cE,.. }=>(match wg cE i with
  |some (l9,off)=>(match E l9 with
   |some g2=>some (off,g2)| none=>none)
  |none=>none)
 |_=>none
def Yg(r:Option (Nat×dU))(x:Option ao):Option ao:=bX r none λr=>bX x none λx=>b5 (Nat.beq r.2.size 0) none (GZ x r.1)
def KE(aH:dU)(cs:List ao)(off:Nat):Option ao:=b5 (Nat.beq aH.size 0) none <| bX (Bq aH.size (Br cs off)) none λl=>DR aH.bE.agg l
def Yh(r:Option (Nat×dU))(x:Option ao):Option ao:=match r,x with
 |some (off,g2),some (.a cs)=>KE g2 cs off| _,_=>none
def PJ(E:Env)(t:Nat):Option (Option Nat×dU):=match E t with
 |some { bE:=.slice e,.. }=>(match E e with
  |some aH=>some (none,aH)| none=>none)
 |some { bE:=.array n e,.. }=>(match E e with
  |some aH=>some (some n,aH)| none=>none)
 |_=>none
def Yi(r:Option (Option Nat×dU))(x i:Option ao):Option ao:=bX r none λr=>bX x none λx=>bX i none λi=>bX i.nat none λj=>
 bX r.1 (KB x j r.2.size) λn=>b5 (Nat.blt j n) (GZ x (Nat.mul j r.2.size)) none
def PK(l:List UInt8)(j:Nat):Option ao:=bX (wg l j) none λb=>some (.i .u8 (.ofNat b.toNat))
def Yj(cs:List ao)(j n:Nat)(aH:dU):Option ao:=b5 (Nat.beq (Nat.mul n aH.size) cs.length&&Nat.blt j n) (KE aH cs (Nat.mul j aH.size)) none
def G0(E:Env)(t:Nat)(x i:Option ao):Option ao:=match E t,x,i with
 |some { bE:=.string,.. },some (.s l),some i=>bX i.nat none λj=>PK l j
 |some { bE:=.array n e,.. },some (.a cs),some i=>bX (E e) none λaH=>bX i.nat none λj=>Yj cs j n aH
 |_,_,_=>none
def G1(o:Option (List ao)):Option ao:=bX o none λl=>some (.a l)
def Yk(E:Env)(t:Nat)(ps:Option (List (Nat×ao))):Option ao:=match E t,ps with
 |some i,some vs=>bX (x6 i.zero) none λz=>(match i.bE with
  | .struct cE=>b5 (Ci E cE) (G1 (zz (places E cE) z vs)) none| .array _ e=>bX (E e) none λaH=>G1 (zz (λj=>some (j*aH.size,aH.size)) z vs)
  |_=>none)
 |_,_=>none
def Yl(f:Fn)(cE cs:Option (List ao)):Option ao:=match f,cE,cs with
 | .func g,some cE,some cs=>some (.f g cE cs)| _,_,_=>none
def PL(aH:dU)(x:ao)(lo hi:Option Nat):Option ao:=match lo,hi with
 |none,none=>(match x with
  | .sn | .sl .. | .sx .. | .so=>some x| _=>none)
 |lo,hi=>PH x aH.size (lo.getD 0) hi
def PM(l:List UInt8)(lo hi:Option Nat):Option ao:=match lo,hi with
 |none,none=>some (.s l)| lo,hi=>b5 (Nat.ble (lo.getD 0) (hi.getD l.length)&&Nat.ble (hi.getD l.length) l.length) (some (.s (PI l (lo.getD 0) (hi.getD l.length)))) none
def G2(E:Env)(t:Nat)(x:Option ao)(lo hi:Option (Option Nat)):Option ao:=match E t,x,lo,hi with
 |some { bE:=.slice e,.. },some x,some lo,some hi=>bX (E e) none λaH=>PL aH x lo hi
 |some { bE:=.string,.. },some (.s l),some lo,some hi=>PM l lo hi| _,_,_,_=>none
def Ym(x:Option ao)(i:Nat):Option ao:=match x with
 |some (.t vs)=>wg vs i| _=>none
def Yn(E:Env)(s d:Nat)(x:Option ao):Option ao:=match E s,E d,x with
 |some _,some { bE:=.int k,.. },some (.i _ n)=>some (.i k (wc k n))| _,_,_=>none
def KF(o:Option Nat):Option ao:=bX o none λn=>some (.i .i64 (.ofNat n))
def Yo(E:Env)(ts:List Nat)(l:Option (List ao)):Option ao:=match ts,l with
 |[t],some [v]=>(match E t,v with
  |some { bE:=.slice _,.. },v=>KF (wi v)| some { bE:=.string,.. },.s l=>KF (some l.length)| some { bE:=.array n _,.. },_=>KF (some n)| _,_=>none)
 |_,_=>none
def Yp(l:Option (List ao)):Option ao:=match l with
 |some [.i k a,.i _ b]=>some (.i k (b5 (Bp a b) b a))| _=>none
def Yq(l:Option (List ao)):Option ao:=match l with
 |some [.i k a,.i _ b]=>some (.i k (b5 (Bp a b) a b))| _=>none
def Yr(E:Env)(ts:List Nat)(l:Option (List ao)):Option ao:=match ts,l with
 |[t],some [.sl _ _ _ c]=>(match E t with
  |some { bE:=.slice _,.. }=>some (.i .i64 (.ofNat c))| _=>none)
 |_,_=>none
def Ys(l:Option (List ao)):Option ao:=match l with
 |some [.sn]=>some .pn| some [.sl id off n c]=>b5 (Nat.beq c 0) none (some (.p id off))| some [.sx id off e n]=>b5 (Nat.beq n 0) none (some (.p id off))| _=>none
def PN(E:Env)(b:Builtin)(ts:List Nat)(l:Option (List ao)):Option ao:=match b with
 | .len=>Yo E ts l| .max=>Yp l| .min=>Yq l| .cap=>Yr E ts l| .unsafeSliceData=>Ys l| _=>none
def PO(P:Program)(E:Env)(G:GT)(m:bg e0)(op:Op)(al:bg ao):Option ao:=
 match op with
 | .move x=>dm al x| .assign x=>dm al x| .pick c a b=>Yb (dm al c) (dm al a) (dm al b)| .unOp op _ x=>Yc op (dm al x)| .binOp op t x y _=>Yd P E op t (dm al x) (dm al y)| .load t x=>Ye G m (E t) (dm al x)| .nilCheck x=>Yf (dm al x)| .fieldAddr t x i=>Yg (KD E t i) (dm al x)| .field t x i=>Yh (KD E t i) (dm al x)| .indexAddr t x i=>Yi (PJ E t) (dm al x) (dm al i)| .index t x i=>G0 E t (dm al x) (dm al i)| .build t parts=>Yk E t (DS al parts.toList)| .makeFunc f first captured=>Yl f (nR al first.toList) (nR al captured.toList)
 | .slice t x lo hi none=>G2 E t (dm al x) (Bs (lo.map (dm al))) (Bs (hi.map (dm al)))| .extract x i=>Ym (dm al x) i| .convert s d x=>Yn E s d (dm al x)| .call { callee:=.builtin b,args,argTypes }=>PN E b argTypes.toList (nR al args.toList)| _=>none
def PP(E:Env)(t:Nat)(x hi mx:Option ao):Option ao:=match E t,x,hi,mx with
 |some { bE:=.slice e,.. },some (.sl id off n c),some (.i _ (.ofNat h)),some (.i _ (.ofNat k))=>bX (E e) none λaH=>
  b5 (Nat.ble h k&&(Nat.ble k c&&Nat.blt 0 k)) (some (.sl id off h k)) none
 |some { bE:=.slice e,.. },some (.sx id off aE n),some (.i _ (.ofNat h)),some (.i _ (.ofNat k))=>bX (E e) none λaH=>
  b5 (Nat.ble h k&&(Nat.ble k n&&Nat.blt 0 k)) (some (.sl id off h k)) none
 |_,_,_,_=>none
def PQ(E:Env)(t:Nat)(x lo hi mx:Option ao):Option ao:=match E t,x,lo,hi,mx with
 |some { bE:=.slice e,.. },some (.sl id off n c),some (.i _ (.ofNat l)),some (.i _ (.ofNat h)),some (.i _ (.ofNat k))=>bX (E e) none λaH=>
  b5 (Nat.ble l h&&(Nat.ble h k&&(Nat.ble k c&&Nat.blt l k))) (some (.sl id (Nat.add off (Nat.mul l aH.size)) (Nat.sub h l) (Nat.sub k l))) none
 |_,_,_,_,_=>none
def PR(x:Option ao):Option ao:=match x with
 |some (.i .u64 n)=>some (.i .u64 (hM n))| _=>none
def uJ(P:Program)(E:Env)(G:GT)(m:bg e0)(op:Op)(al:bg ao):Option ao:=
 match op with
 | .unOp .xor t x=>PR (dm al x)| .slice t x (some lo) (some hi) (some mx)=>PQ E t (dm al x) (dm al lo) (dm al hi) (dm al mx)| .slice t x none (some hi) (some mx)=>PP E t (dm al x) (dm al hi) (dm al mx)| op=>PO P E G m op al
def ry{R:Type}(n:Nat)(K:Nat->R):R:=Nat.casesOn (Nat.add n 1) (K 0) K
def Yt{R:Type}(n:Int)(K:Int->R):R:=match n with
 | .ofNat n=>ry n λn=>K (.ofNat n)
 | .negSucc n=>ry n λn=>K (.negSucc n)
def Yu{R:Type}(b:Bool)(K:Bool->R):R:=b5 b (K true) (K false)
def PS{R:Type}(v:ao)(K:ao->R):R:=match v with
 | .b x=>Yu x λx=>K (.b x)
 | .i k n=>Yt n λn=>K (.i k n)
 | .p id off=>ry off λoff=>K (.p id off)
 | .g id off=>ry off λoff=>K (.g id off)
 | .sl id off n c=>ry off λoff=>ry n λn=>ry c λc=>K (.sl id off n c)
 | .sx id off e n=>ry off λoff=>ry e λe=>ry n λn=>K (.sx id off e n)
 |v=>K v
def Bt{R:Type}(m:bm)(e:e0)(K:Nat->bm->R):R:=ry m.n λn=>m.t.m7 (some e) n λt=>K n ⟨t,Nat.add n 1⟩
def uK{R:Type}(m:bm)(l:List ao)(T:Nat)(K:Nat->bm->R):R:=bg.x5 l .nil 0 λcs=>Bt m (.cells cs T l.length) K
def x9{R:Type}(m:bm)(x:ao)(l:List ao)(K:bm->Option R):Option R:=match x with
 | .p id off=>(match m.t.get id with
  |some (.cells cs T e1)=>bif Nat.ble (Nat.add off l.length) e1&&l.all ao.one then bg.x5 l cs off λcs=>m.t.m7 (some (.cells cs T e1)) id λt=>K ⟨t,m.n⟩else none
  |_=>none)
 |_=>none
def Bu:Nat->List ao->List ao
 |0,_=>[]| n+1,z=>z++Bu n z
def DT(i:Option dU):Bool:=match i with
 |some { bE:=.int .u8,.. }=>true| _=>false
def wj(u:Option dU)(aH:dU)(x:ao):Bool:=match u,x with
 |some { bE:=.slice _,.. },.sn=>true| some { bE:=.slice _,.. },.so=>true| some { bE:=.slice _,.. },.sl ..=>true| some { bE:=.slice _,.. },.sx ..=>true| some { bE:=.string,.. },.s _=>Nat.beq aH.size 1| _,_=>false
def DU(G:GT)(m:bg e0)(x:ao)(sz:Nat){R:Type}(K:List ao->Option R):Option R:=match x with
 | .sn | .so=>K []| .sl id off n _ | .sx id off _ n=>tv G m (.p id off) (Nat.mul n sz) K| .s l=>K (l.map λb=>.i .u8 (.ofNat b.toNat))| _=>none
def PT(G:GT)(m:bm)(id off n c:Nat)(l:List ao)(k sz T:Nat):Option (ao×bm):=
 b5 (Nat.ble (Nat.add n k) c) (x9 m (.p id (Nat.add off (Nat.mul n sz))) l λm=>some (.sl id off (Nat.add n k) c,m)) (tv G m.t (.p id off) (Nat.mul n sz) λdu=>uK m (du++l) T λid m=>some (.sx id 0 0 (Nat.add n k),m))
def PU(m:bm)(id:Nat)(n:Nat)(cs:bg ao)(e1:Nat)(l:List ao)(k sz T:Nat):Option (ao×bm):=
 b5 (Nat.ble (Nat.mul n sz) e1) (m.t.m7 none id λt=>bg.x5 l cs (Nat.mul n sz) λcs=>Bt ⟨t,m.n⟩ (.cells cs T (Nat.mul (Nat.add n k) sz)) λid m=>some (.sx id 0 0 (Nat.add n k),m)) none
def G3(G:GT)(m:bm)(s:ao)(l:List ao)(k sz bytes T:Nat):Option (ao×bm):=match s with
 | .sn=>b5 (Nat.ble (Nat.mul k bytes) 140737488355328&&Nat.ble k 9223372036854775807) (uK m l T λid m=>some (.sx id 0 0 k,m)) none| .sl id off n c=>b5 (Nat.ble (Nat.mul (Nat.add n k) bytes) 140737488355328&&Nat.ble (Nat.add n k) 9223372036854775807) (PT G m id off n c l k sz T) none
 | .sx id off e n=>(match m.t.get id with
  |some (.cells cs mH e1)=>b5 ((Nat.beq off 0&&Nat.beq e 0)&&(Nat.beq mH T&&(Nat.ble (Nat.mul (Nat.add n k) bytes) 140737488355328&&Nat.ble (Nat.add n k) 9223372036854775807))) (PU m id n cs e1 l k sz T) none| _=>none)
 |_=>none
def DV:List ao->Option (List UInt8)
 |[]=>some []
 | .i .u8 (.ofNat n)::l=>bif Nat.ble n 255 then(match DV l with
  |some r=>some (UInt8.ofNat n::r)| none=>none)else none
 |_=>none
def G4:ao->List (ao×ao)->Option (Option ao)
 |_,[]=>some none
 |k,(x,v)::l=>match DQ k x with
  |some true=>some (some v)| some false=>G4 k l| none=>none
def G5(k v:ao):List (ao×ao)->Option (List (ao×ao))
 |[]=>some [(k,v)]
 |(x,u)::l=>match DQ k x with
  |some true=>some ((k,v)::l)
  |some false=>(match G5 k v l with
   |some r=>some ((x,u)::r)| none=>none)
  |none=>none
abbrev ly:=Nat->List ao->bm->Option (ao×bm)
structure gz where
 P:Program
 E:Env
 G:GT
 pr:ly
def Yv(i:Option dU)(t:Nat)(x:Option ao):Option (List ao×Nat×Nat×(Nat->ao)):=bX i none λi=>bX x none λv=>b5 (Nat.beq v.cells.length i.size) (some (v.cells,t,1,λid=>.p id 0)) none
def Yw(i:Option dU)(t:Nat):Option (List ao×Nat×Nat×(Nat->ao)):=bX i none λi=>bX (x6 i.zero) none λz=>some (z,t,1,λid=>.p id 0)
def Yx(E:Env)(t len:Nat)(ps:Option (List (Nat×ao))):Option (List ao×Nat×Nat×(Nat->ao)):=match E t,ps with
 |some { bE:=.slice e,.. },some vs=>bX (E e) none λaH=>bX (x6 aH.zero) none λz=>
  b5 (Nat.ble (Nat.mul len aH.size) 16777216&&Nat.blt 0 (Nat.mul len aH.size)) (bX (zz (λj=>some (j*aH.size,aH.size)) (Bu len z) vs) none λcs=>some (cs,e,len,λid=>.sl id 0 len len)) (b5 (Nat.beq len 0&&vs.isEmpty) (some ([],e,0,λid=>.sl id 0 0 0)) none)
 |_,_=>none
def Yy(E:Env)(t:Nat)(l c:Option ao):Option (List ao×Nat×Nat×(Nat->ao)):=match E t,l,c with
 |some { bE:=.slice e,.. },some l,some c=>bX (E e) none λaH=>bX l.nat none λn=>bX c.nat none λk=>bX (x6 aH.zero) none λz=>
  b5 (Nat.ble n k&&(Nat.ble (Nat.mul aH.bytes k) 140737488355328&&Nat.ble k 9223372036854775807)) (some (Bu k z,e,k,λid=>.sl id 0 n k)) none
 |_,_,_=>none
def Bv(E:Env)(o:Oper)(al:bg ao):Option (List ao×Nat×Nat×(Nat->ao)):=
 match o.op with
 | .box t x=>Yv (E t) t (dm al x)| .alloc t=>Yw (E t) t| .buildSlice t len parts=>Yx E t len (DS al parts.toList)| .makeSlice t l c=>Yy E t (dm al l) (dm al c)| _=>none
def KG(i:Option dU)(m:bm)(x y:Option ao):Option (ao×bm):=bX i none λi=>bX x none λx=>bX y none λv=>b5 (Nat.beq v.cells.length i.size) (x9 m x v.cells λm=>some (.t [],m)) none
def KH(i:Option dU)(m:bm):Option (ao×bm):=match i with
 |some { bE:=.map k e,.. }=>Bt m (.map []) λid m=>some (.m id,m)
 |_=>none
def KI(i:Option dU)(v:ao):Bool:=match i,v with
 |some { bE:=.int k,.. },.i dJ _=>IntKind.l' k dJ| some { bE:=.string,.. },.s _=>true| _,_=>false
def Yz(ok:Bool)(z:ao)(r:Option ao):ao:=b5 ok (bX r (.t [z,.b false]) λv=>.t [v,.b true]) (bX r z λv=>v)
def PV(P:Program)(E:Env)(t:Nat)(m:bm)(x y:Option ao)(ok:Bool):Option (ao×bm):=match E t,x,y with
 |some { bE:=.map k e,.. },some (.m id),some y=>b5 (KI (E k) y) (match m.t.get id with
  |some (.map es)=>bX (G4 y es) none λr=>bX (P.info? e) none λinf=>bX inf.zero none λz=>bX (DO z) none λz=>some (Yz ok z r,m)
  |_=>none) none
 |_,_,_=>none
def G6(E:Env)(t:Nat)(m:bm)(x y z:Option ao):Option (ao×bm):=match E t,x,y,z with
 |some { bE:=.map k e,.. },some (.m id),some y,some v=>b5 (KI (E k) y) (match m.t.get id with
  |some (.map es)=>bX (G5 y v es) none λes=>m.t.m7 (some (.map es)) id λt=>some (.t [],⟨t,m.n⟩)
  |_=>none) none
 |_,_,_,_=>none
def KJ(G:GT)(m:bm)(id off n:Nat):Option (ao×bm):=tv G m.t (.p id off) n λl=>bX (DV l) none λl=>some (.s l,m)
def KK(Y:gz)(m:bm)(s d:Nat)(x:Option ao):Option (ao×bm):=match Y.E s,Y.E d,x with
 |some { bE:=.slice e,.. },some { bE:=.string,.. },some (.sl id off n _)=>b5 (DT (Y.E e)) (KJ Y.G m id off n) none| some { bE:=.slice e,.. },some { bE:=.string,.. },some (.sx id off _ n)=>b5 (DT (Y.E e)) (KJ Y.G m id off n) none| some { bE:=.slice e,.. },some { bE:=.string,.. },some .sn=>b5 (DT (Y.E e)) (some (.s [],m)) none| _,_,_=>none
def DW:ao->Bool
 | .sn | .so | .sx ..=>true| .sl _ _ n c=>Nat.ble n c| _=>false
def PW(Y:gz)(m:bm)(ts:List Nat)(l:Option (List ao)):Option (ao×bm):=match ts,l with
 |[t,u],some [s,x]=>(match Y.E t with
  |some { bE:=.slice e,.. }=>bX (Y.E e) none λaH=>b5 (wj (Y.E u) aH x) (DU Y.G m.t x aH.size λl=>bX (sj x) none λk=>
    b5 (Nat.beq k 0) (b5 (DW s) (some (s,m)) none) (b5 (l.all ao.one) (G3 Y.G m s l k aH.size aH.bytes e) none)) none
  |_=>none)
 |_,_=>none
def PX(Y:gz)(m:bm)(ts:List Nat)(l:Option (List ao)):Option (ao×bm):=match ts,l with
 |[t,u],some [.sl id off n c,.s q]=>(match Y.E t with
  |some { bE:=.slice e,.. }=>bX (Y.E e) none λaH=>b5 (Nat.beq aH.size 1&&Nat.ble q.length n) (x9 m (.p id off) (q.map λb=>.i .u8 (.ofNat b.toNat)) λm=>some (.i .i64 (.ofNat q.length),m)) none
  |_=>none)
 |_,_=>none
def PY(Y:gz)(m:bm)(ts:List Nat)(l:Option (List ao)):Option (ao×bm):=match ts,l with
 |[tW,it],some [.pn,.i .i64 (.ofNat 0)]=>some (.s [],m)
 |[tW,it],some [.p id 0,.i .i64 (.ofNat n)]=>(match Y.E tW,m.t.get id with
  |some { bE:=.pointer e,.. },some (.cells cs T e1)=>bX (Y.E e) none λaH=>
   b5 (Nat.beq aH.size 1&&(Nat.beq T e&&Nat.blt 0 n)) (tv Y.G m.t (.p id 0) n λl=>bX (DV l) none λl=>b5 (Nat.ble n 9223372036854775807) (m.t.m7 none id λt=>some (.s l,⟨t,m.n⟩)) none) none
  |_,_=>none)
 |_,_=>none
def YA(Y:gz)(m:bm)(b:Builtin)(ts:List Nat)(l:Option (List ao)):Option (ao×bm):=match b with
 | .append=>PW Y m ts l| .copy=>PX Y m ts l| .unsafeString=>PY Y m ts l| _=>none
def PZ(Y:gz)(m:bm)(o:Oper)(al:bg ao):Option (ao×bm):=
 match o.op with
 | .store t x y=>bX o.dst (KG (Y.E t) m (dm al x) (dm al y)) λ_=>none
 | .makeMap t none=>KH (Y.E t) m
 | .makeMap t (some x)=>(match dm al x with
  |some (.i _ _)=>KH (Y.E t) m| _=>none)
 | .lookup t x y ok=>PV Y.P Y.E t m (dm al x) (dm al y) ok| .mapUpdate t x y z=>bX o.dst (G6 Y.E t m (dm al x) (dm al y) (dm al z)) λ_=>none
 | .insert t x y z=>bX o.dst (G6 Y.E t m (dm al x) (dm al y) (dm al z)) λ_=>none
 | .convert s d x=>KK Y m s d (dm al x)| .call { callee:=.builtin b,args,argTypes }=>YA Y m b argTypes.toList (nR al args.toList)| _=>none
def k8(E:Env)(op:Op):Nat:=match op with
 | .move _ | .assign _ | .pick .. | .binOp .. | .load .. | .nilCheck _ | .fieldAddr .. | .field .. | .indexAddr .. | .index .. | .build .. | .makeFunc .. | .extract .. | .unOp .. | .slice ..=>0| .alloc _ | .box .. | .buildSlice .. | .makeSlice ..=>1
 | .convert s d _=>(match E d with
  |some { bE:=.int _,.. }=>0| _=>2)
 | .call { callee:=.builtin .len,argTypes,.. }=>(match argTypes.toList with
  |[t]=>(match E t with
   |some { bE:=.map ..,.. }=>2| _=>0)
  |_=>2)
 | .call { callee:=.builtin .cap,.. }=>0| .call { callee:=.builtin .max,.. }=>0| .call { callee:=.builtin .min,.. }=>0| .call { callee:=.builtin .unsafeSliceData,.. }=>0| _=>2
def pL{R:Type}(dst:Option Nat)(al:bg ao)(v:ao)(K:bg ao->Option R):Option R:=bX dst (K al) λd=>PS v λv=>al.m7 (some v) d K
def YB{R:Type}(call:ao->List ao->bm->Option (ao×bm))(dst:Option Nat)(f:Option ao)(l:Option (List ao))(al:bg ao)(m:bm)(K:bg ao->bm->Option R):Option R:=
 bX f none λf=>bX l none λl=>bX (call f l m) none λr=>b5 (Nat.ble m.n r.2.n) (pL dst al r.1 λal=>K al r.2) none
def YC{R:Type}(dst:Option Nat)(r:Option (List ao×Nat×Nat×(Nat->ao)))(al:bg ao)(m:bm)(K:bg ao->bm->Option R):Option R:=
 bX dst none λd=>bX r none λr=>uK m r.1 r.2.1 λid m=>pL (some d) al (r.2.2.2 id) λal=>K al m
def YD{R:Type}(dst:Option Nat)(v:Option ao)(al:bg ao)(m:bm)(K:bg ao->bm->Option R):Option R:=
 bX v none λv=>pL dst al v λal=>K al m
def YE{R:Type}(dst:Option Nat)(n:Nat)(r:Option (ao×bm))(al:bg ao)(K:bg ao->bm->Option R):Option R:=
 bX r none λr=>b5 (Nat.ble n r.2.n) (pL dst al r.1 λal=>K al r.2) none
def YF{R:Type}(Y:gz)(k:Nat)(o:Oper)(al:bg ao)(m:bm)(K:bg ao->bm->Option R):Option R:=match k with
 |0=>YD o.dst (uJ Y.P Y.E Y.G m.t o.op al) al m K| 1=>YC o.dst (Bv Y.E o al) al m K| _=>YE o.dst m.n (PZ Y m o al) al K
def zA{R:Type}(Y:gz)(call:ao->List ao->bm->Option (ao×bm))(o:Oper)(al:bg ao)(m:bm)(K:bg ao->bm->Option R):Option R:=
 match o.op with
 | .call { callee:=.value f,args,.. }=>YB call o.dst (dm al f) (nR al args.toList) al m K| op=>YF Y (k8 Y.E op) o al m K
def Bw{R:Type}(o:Oper)(al:bg ao)(K:bg ao->Option R):Option R:=match o.dst with
 |none=>K al| some d=>al.m7 (some (.t [])) d K
def uL(ops:List Oper)(o:Oper)(al:bg ao):Option Bool:=match o.guard with
 |none=>some true
 |some (j,b)=>match(wg ops j).bind (·.dst)with
  |none=>none
  |some d=>match al.get d with
   |some (.b c)=>some (c == b)| some (.t _)=>some false| _=>none
def DX(Y:gz)(call:ao->List ao->bm->Option (ao×bm))(ops:List Oper)(l:List Oper):bg ao->bm->Option (bg ao×bm):=
 @List.rec Oper (λ_=>bg ao->bm->Option (bg ao×bm)) (λal m=>some (al,m)) (λo _ a7 al m=>bX (uL ops o al) none λw=>b5 w (zA Y call o al m a7) (Bw o al λal=>a7 al m)) l
def Bx(E:Env)(ops:List Oper)(i:Nat):Nat:=bX (wg ops i) 2 λo=>k8 E o.op
def x'(E:Env)(ops:List Oper):List Nat:=(List.range ops.length).filter λi=>Nat.beq (Bx E ops i) 2
def DY(es gT:List Nat)(i:Nat):Nat:=(es.filter λe=>(gT.getD i 0).testBit e).length
def oF(es gT:List Nat)(i:Nat):Nat:=(es.filter λe=>!(gT.getD e 0).testBit i).length
def YG(E:Env)(ops:List Oper)(es gT:List Nat)(j:Nat):List (Nat×Nat):=((List.range ops.length).filter λi=>!Nat.beq (Bx E ops i) 2&&Nat.beq (DY es gT i) j).map λi=>(i,Bx E ops i)
def YH(E:Env)(ops:List Oper)(es gT:List Nat):List Nat->Nat->List (Nat×Nat)
 |[],j=>YG E ops es gT j| e::l,j=>YG E ops es gT j++(e,2)::YH E ops es gT l (j+1)
def G7(E:Env)(ops:List Oper):List (Nat×Nat):=YH E ops (x' E ops) (kO ops) (x' E ops) 0
def wk(ops:List Oper):List (Nat×Nat)->Nat->Bool
 |[],k=>Nat.beq k (2^ops.length-1)
 |(i,_)::l,k=>!k.testBit i&&(match ops[i]? with
  |some o=>E' o k&&wk ops l (k ||| 2^i)| none=>false)
def KL(gT:List Nat):List Nat->Bool
 |[]=>true| x::l=>l.all (λy=>(gT.getD y 0).testBit x)&&KL gT l
def YI(E:Env)(ops:List Oper):Bool:=Cw ops&&(wk ops (G7 E ops) 0&&(KL (kO ops) (x' E ops)&&(((G7 E ops).filter λr=>Nat.beq r.2 2).map (·.1) == x' E ops)))
mutual
def DZ:ao->ao->Bool
 | .b x,.b w=>x == w| .i k x,.i l w=>IntKind.l' k l&&my x w| .s x,.s w=>qx x w| .pn,.pn=>true| .p i x,.p j w=>Nat.beq i j&&Nat.beq x w| .g i x,.g j w=>Nat.beq i j&&Nat.beq x w| .sn,.sn=>true| .sl i x n c,.sl j w m d=>Nat.beq i j&&(Nat.beq x w&&(Nat.beq n m&&Nat.beq c d))| .sx i x n c,.sx j w m d=>Nat.beq i j&&(Nat.beq x w&&(Nat.beq n m&&Nat.beq c d))| .gs i x n c,.gs j w m d=>Nat.beq i j&&(Nat.beq x w&&(Nat.beq n m&&Nat.beq c d))| .mn,.mn=>true| .m i,.m j=>Nat.beq i j| .f g l r,.f h m s=>Nat.beq g h&&(wm l m&&wm r s)| .y i,.y j=>Nat.beq i j| .fn,.fn=>true| .ni,.ni=>true| .t l,.t m=>wm l m| .a l,.a m=>wm l m| _,_=>false
def wm:List ao->List ao->Bool
 |[],[]=>true| x::l,w::m=>DZ x w&&wm l m| _,_=>false
end
inductive qy where
 |made(i id:Nat)(l:List ao)(T:Nat)| load (i:Nat) (o:Oper) (al:bg ao) (v:ao)
def oH(Y:gz)(call:ao->List ao->bm->Option (ao×bm))(ops:List Oper):List (Nat×Nat)->bg ao->bm->List bm->List qy->Option (bg ao×bm×List bm×List qy)
 |[],al,m,S,A=>some (al,m,m::S,A)|(i,k)::bb,al,m,S,A=>bX (wg ops i) none λo=>bX (uL ops o al) none λw=>b5 (Nat.beq (k8 Y.E o.op) k) (b5 w (b5 (Nat.beq k 0) (bX (uJ Y.P Y.E Y.G m.t o.op al) none λv=>pL o.dst al v λda=>oH Y call ops bb da m S (b5 (pZ o.op) (.load i o al v::A) A)) (b5 (Nat.beq k 1) (bX o.dst none λd=>bX (Bv Y.E o al) none λr=>uK m r.1 r.2.1 λid m=>pL (some d) al (r.2.2.2 id) λal=>oH Y call ops bb al m S (.made i id r.1 r.2.1::A)) (zA Y call o al m λal m'=>oH Y call ops bb al m' (m::S) A))) (Bw o al λal=>oH Y call ops bb al m (b5 (Nat.beq k 2) (m::S) S) A)) none
def D1(S:List bm)(lo hi:Nat)(p:bm->Bool):Bool:=((S.drop lo).take (hi+1-lo)).all p
def P0(Y:gz)(o:Oper)(al:bg ao)(v:ao)(m:bm):Bool:=match uJ Y.P Y.E Y.G m.t o.op al with
 |some u=>DZ u v| none=>false
def P1(id:Nat)(l:List ao)(T:Nat)(m:bm):Bool:=Nat.blt id m.n&&(match m.t.get id with
 |some (.cells cs mH e1)=>Nat.beq mH T&&(Nat.beq e1 l.length&&(match cs.DN 0 l.length (λcR=>some cR)with
  |some cR=>wm l cR| none=>false))
 |_=>false)
def P2(Y:gz)(es gT:List Nat)(S:List bm):qy->Bool
 | .made i id l T=>D1 S (DY es gT i) (oF es gT i) (P1 id l T)| .load i o al v=>D1 S (DY es gT i) (oF es gT i) (P0 Y o al v)
def P3(Y:gz)(call:ao->List ao->bm->Option (ao×bm))(ops:List Oper)(al:bg ao)(m:bm):Option (bg ao×bm):=
 b5 (YI Y.E ops) (match oH Y call ops (G7 Y.E ops) al m [] []with
  |none=>none| some (al,m,S,A)=>b5 (A.all (P2 Y (x' Y.E ops) (kO ops) S.reverse)) (some (al,m)) none) none
def D2{R:Type}:List Nat->List ao->bg ao->(bg ao->Option R)->Option R
 |[],[],al,K=>K al| t::ps,v::vs,al,K=>al.m7 (some v) t λal=>D2 ps vs al K
 |_,_,_,_=>none
def zB(Y:gz)(al:bg ao)(m:bg e0):List ResultVar->Option (List ao)
 |[]=>some []
 | .tmp t::l=>(match al.get t,zB Y al m l with
  |some v,some vs=>some (v::vs)| _,_=>none)
 | .cell t ty::l=>(match al.get t,Y.E ty,zB Y al m l with
  |some x,some i,some vs=>(match tv Y.G m x i.size λl=>DR i.bE.agg l with
   |some v=>some (v::vs)| none=>none)
  |_,_,_=>none)
abbrev pM:=tT×bg ao×bm
abbrev tw:=Bool->Nat->Code->bg ao->bm->Option pM
def YJ:List ao->ao
 |[v]=>v| vs=>.t vs
def KM(Y:gz)(al:bg ao)(m:bm)(a8:List ResultVar):Option (ao×bm):=bX (zB Y al m.t a8) none λvs=>some (YJ vs,m)
def YK(Y:gz)(r:Option pM)(a8:List ResultVar):Option (ao×bm):=match r with
 |some (.normal,al,m)=>KM Y al m a8| some (.ret,al,m)=>KM Y al m a8| _=>none
def KN(Y:gz)(rec:tw)(g:Nat)(args:List ao)(m:bm):Option (ao×bm):=
 bX (Y.P.funcs[g]?) none λfn=>bX fn.body none λc=>b5 (Nat.ble args.length fn.ntmps) (bg.x5 args (bg.bare 12) 0 λal=>YK Y (rec true fn.ntmps c al m) fn.results.toList) none
def zC(Y:gz)(rec:tw)(g:Nat)(args:List ao)(m:bm):Option (ao×bm):=bX (Y.pr g args m) (KN Y rec g args m) some
def P4(l:Nat)(e:Option e0)(jump:Option Code)(m:bm):Option (ao×bm):=match e with
 |some (.loop true n mz ps fc body)=>m.t.m7 (some (bX jump (.loop false n mz ps fc body) λc=>.done c n mz ps fc body)) l λt=>some (.b jump.isNone,⟨t,m.n⟩)
 |_=>none
def YL(l:Nat)(r:Option pM):Option (ao×bm):=bX r none λr=>P4 l (r.2.2.t.get l) (CG r.1) r.2.2
def P5(rec:tw)(l n:Nat)(body:Code)(e:Option e0)(al:bg ao)(m:bm):Option (ao×bm):=match e with
 |some (.loop false eO mz ps fc P6)=>m.t.m7 (some (.loop true eO mz ps fc P6)) l λt=>YL l (rec false n body al ⟨t,m.n⟩)
 |_=>none
def YM(rec:tw)(l n:Nat)(body:Code)(r:Option pM):Option (ao×bm):=match r with
 |some (.normal,al,m)=>P5 rec l n body (m.t.get l) al m| _=>none
def P7(rec:tw)(l:Nat)(args:List ao)(m:bm):Option (ao×bm):=match m.t.get l with
 |some (.loop false n mz ps fc body)=>D2 ps args mz λal=>YM rec l n body (rec false n fc al m)
 |_=>none
def KO(Y:gz)(rec:tw)(f:ao)(args:List ao)(m:bm):Option (ao×bm):=match f with
 | .f g l r=>zC Y rec g (l++(args++r)) m| .y l=>P7 rec l args m| _=>none
def P8:Code->Option tT
 | .exit id=>some (.exit id)| .goto l=>some (.goto l)| .ret=>some .ret| _=>none
def G8(r:Option pM)(k:bg ao->bm->Option pM):Option pM:=match r with
 |some (.normal,al,m)=>k al m| r=>r
def YN(id:Nat)(r:Option pM):Option pM:=match r with
 |some (.exit j,al,m)=>b5 (Nat.beq j id) (some (.normal,al,m)) (some (.exit j,al,m))| r=>r
def KP(r:Option (bg ao×bm)):Option pM:=bX r none λr=>some (.normal,r.1,r.2)
def YO(v:Option ao)(x y:Option pM):Option pM:=match v with
 |some (.b b)=>b5 b x y| _=>none
def G9(rec:tw)(h3:Bool)(n:Nat)(c:Code)(k:Nat):Code->bg ao->bm->Option pM:=@Nat.rec (λ_=>Code->bg ao->bm->Option pM) (λ_ _ _=>none)
 (λ_ a7 x al m=>match rec h3 n x al m with
  |some (.goto l,al,m)=>bX (findLabel c l) none λbb=>a7 bb al m
  |r=>r) k
def YP(l:Nat)(al:bg ao)(r:Option (ao×bm)):Option pM:=bX r none λr=>match r.2.t.get l with
 |some (.loop false ..)=>r.2.t.m7 none l λt=>some (.normal,al,⟨t,r.2.n⟩)
 |some (.done c ..)=>bX (P8 c) none λex=>r.2.t.m7 none l λt=>some (ex,al,⟨t,r.2.n⟩)
 |_=>none
def P9(Y:gz)(rec:tw)(h3:Bool)(n:Nat)(v:Option ao)(ps:List Nat)(fc body:Code)(al:bg ao)(m:bm):Option pM:=match h3,v with
 |true,some (.f g [] r)=>Bt m (.loop false n al ps fc body) λl m=>YP l al (KN Y rec g (.y l::r) m)
 |_,_=>none
def P'(Y:gz)(f:Nat)(rec:tw):tw:=λh3 n c al m=>match c with
 | .skip=>some (.normal,al,m)| .label _=>some (.normal,al,m)| .ret=>some (.ret,al,m)| .exit id=>some (.exit id,al,m)| .goto l=>some (.goto l,al,m)| .seq x y=>G8 (rec h3 n x al m) (rec h3 n y)| .block id c=>YN id (rec h3 n c al m)| .cond c x y=>YO (dm al c) (rec h3 n x al m) (rec h3 n y al m)| .loop c=>G8 (rec h3 n c al m) (rec h3 n (.loop c))| .region _ ops false=>KP (DX Y (KO Y rec) ops.toList ops.toList al m)| .region _ ops true=>KP (P3 Y (KO Y rec) ops.toList al m)| .scope c=>G9 rec h3 n c f c al m| .rangeFunc x ps fc body=>P9 Y rec h3 n (dm al x) ps.toList fc body al m| .refuse _=>none
def lz(Y:gz)(f:Nat):tw:=@Nat.rec (λ_=>tw) (λ_ _ _ _ _=>none) (λf a7=>P' Y f a7) f
end
section
variable{α R:Type}
def js(b:Bool)(x y:α):b5 b x y=bif b then x else y:=by cases b<;>rfl
def ct{o:Option α}{f:α->Option R}{r:R}(h:bX o none f=some r):∃ v,o=some v/\f v=some r:=by
 cases o with
 |none=>cases h| some v=>exact⟨v,rfl,h⟩
def fw{x:Option α}{r:α}(h:b5 b x none=some r):b=true/\x=some r:=by
 cases b with
 |true=>exact⟨rfl,h⟩| false=>cases h
def zD{x:Option α}{r:α}(h:b5 b none x=some r):b=false/\x=some r:=by
 cases b with
 |false=>exact⟨rfl,h⟩| true=>cases h
def bg.G'(x:Option α)(l r:bg α)(k:Nat):(bg.node x l r).get k=bif Nat.beq k 0 then x else bif Nat.beq (k%2) 1 then l.get (k/2)else r.get (k/2-1):=by show b5 _ _ (b5 _ _ _)=_;rw[js,js];rfl
def bg.oI(v:Option α):∀ (t:bg α) (k:Nat),∃ cZ:bg α,(∀ {R:Type} (K:bg α->R),t.m7 v k K=K cZ)/\∀ j x,cZ.get j=some x->(j=k/\v=some x)\/(j≠k/\t.get j=some x)
 | .nil,k=>by
  cases af:Nat.beq k 0 with
  |true=>
   have:=c6 af;subst this;refine⟨.node v .nil .nil,λK=>rfl,λj x h=>?_⟩;rw[bg.G']at h;cases an:Nat.beq j 0 with
   |true=>rw[an]at h;exact .inl ⟨c6 an,h⟩
   |false=>
    rw[an]at h;cases hm:Nat.beq (j%2) 1<;>(rw[hm]at h;cases h)
  |false=>refine⟨.nil,λK=>?_,λj x h=>by cases h⟩;show b5 _ _ _=_;rw[js,af];rfl
 | .node x l r,k=>by
  cases af:Nat.beq k 0 with
  |true=>
   have:=c6 af;subst this;refine⟨.node v l r,λK=>rfl,λj y h=>?_⟩;rw[bg.G']at h |-;cases an:Nat.beq j 0 with
   |true=>rw[an]at h;exact .inl ⟨c6 an,h⟩| false=>rw[an]at h;exact .inr ⟨(λe=>by subst e;cases an),h⟩
  |false=>
   have e3:k≠0:=λe=>by subst e;cases af
   cases hm:Nat.beq (k%2) 1 with
   |true=>
    have nq:=c6 hm;obtain⟨cR,aa,ab⟩:=bg.oI v l (k/2);refine⟨.node x cR r,λK=>?_,λj y h=>?_⟩;·show b5 _ _ (b5 _ _ _)=_;rw[js,js,af];show(bif Nat.beq (k%2) 1 then _ else _)=_;rw[hm];exact aa _
    ·rw[bg.G']at h |-;cases an:Nat.beq j 0 with
     |true=>rw[an]at h;exact .inr ⟨λe=>by have:=c6 an;omega,h⟩
     |false=>
      rw[an]at h;have ajK:j≠0:=λe=>by subst e;cases an
      cases tx:Nat.beq (j%2) 1 with
      |true=>
       have ajL:=c6 tx;rw[tx]at h;rcases ab _ _ h with⟨e,aj⟩ | ⟨e,aj⟩;·exact .inl ⟨by omega,aj⟩
       ·exact .inr ⟨λbq=>e (by rw[bq]),aj⟩
      |false=>rw[tx]at h;exact .inr ⟨(λe=>by subst e;rw[hm]at tx;cases tx),h⟩
   |false=>
    have nq:k%2≠1:=λe=>by rw[e]at hm;cases hm
    obtain⟨tV,aa,ab⟩:=bg.oI v r (k/2-1);refine⟨.node x l tV,λK=>?_,λj y h=>?_⟩;·show b5 _ _ (b5 _ _ _)=_;rw[js,js,af];show(bif Nat.beq (k%2) 1 then _ else _)=_;rw[hm];exact aa _
    ·rw[bg.G']at h |-;cases an:Nat.beq j 0 with
     |true=>rw[an]at h;exact .inr ⟨λe=>by have:=c6 an;omega,h⟩
     |false=>
      rw[an]at h;have ajK:j≠0:=λe=>by subst e;cases an
      cases tx:Nat.beq (j%2) 1 with
      |true=>rw[tx]at h;exact .inr ⟨(λe=>by subst e;rw[hm]at tx;cases tx),h⟩
      |false=>
       have ajL:j%2≠1:=λe=>by rw[e]at tx;cases tx
       rw[tx]at h;rcases ab _ _ h with⟨e,aj⟩ | ⟨e,aj⟩;·exact .inl ⟨by omega,aj⟩
       ·exact .inr ⟨λbq=>e (by rw[bq]),aj⟩
def bg.D3(t:bg α):∀ (n off:Nat) (K:List α->Option R) (r:R),t.DN off n K=some r->∃ l,l.length=n/\(∀ i,i<n->t.get (off+i)=l[i]?)/\K l=some r
 |0,off,K,r,h=>⟨[],rfl,λi hi=>by omega,h⟩
 |n+1,off,K,r,h=>by
  have aX:bX (t.get off) none (λv=>t.DN (off+1) n λl=>K (v::l))=some r:=h;obtain⟨v,aj,aX⟩:=ct aX;obtain⟨l,aa,ab,ag⟩:=bg.D3 t n (off+1) _ r aX;refine⟨v::l,by simp[aa],λi hi=>?_,ag⟩;cases i with
  |zero=>simpa using aj| succ i=>have:=ab i (by omega);rw[show off+(i+1)=off+1+i by omega,this];simp
def bg.ya:∀ (l:List α) (t:bg α) (off:Nat),∃ cZ:bg α,(∀ {R:Type} (K:bg α->R),bg.x5 l t off K=K cZ) /\ ∀ j x,cZ.get j=some x->(off<=j/\l[j-off]?=some x)\/((j<off\/off+l.length<=j)/\t.get j=some x)
 |[],t,off=>⟨t,λK=>rfl,λj x h=>.inr ⟨by simp;omega,h⟩⟩
 |v::l,t,off=>by
  obtain⟨t1,aa,ab⟩:=bg.oI (some v) t off;obtain⟨t2,ag,aW⟩:=bg.ya l t1 (off+1);refine⟨t2,λK=>(aa _).trans (ag K),λj x h=>?_⟩;rcases aW j x h with⟨a3,a6⟩ | ⟨a3,a6⟩;·exact .inl ⟨by omega,by rw[show j-off=(j-(off+1))+1 by omega];simpa using a6⟩
  ·rcases ab j x a6 with⟨rfl,e⟩ | ⟨e,bI⟩
   ·exact .inl ⟨cj _,by simp at e;simp[e]⟩
   ·exact .inr ⟨by simp only[ea];omega,bI⟩
end
def Qa(n:Nat)(K:Nat->R):ry n K=K n:=rfl
def ajM(n:Int)(K:Int->R):Yt n K=K n:=by cases n<;>rfl
def ajN(b:Bool)(K:Bool->R):Yu b K=K b:=by cases b<;>rfl
def ajO(v:ao)(K:ao->R):PS v K=K v:=by
 cases v with
 |b x=>exact ajN x λx=>K (.b x)
 |i k n=>exact ajM n λn=>K (.i k n)
 |_=>rfl
def Qb(a b:Nat):Nat.beq a b=decide (a=b):=by
 by_cases h:a=b
 ·subst h;simp
 ·rw[g3 h];simp[h]
def KQ(a b:Nat):Nat.ble a b=decide (a<=b):=by
 by_cases h:a<=b
 ·rw[Bg h];simp[h]
 ·cases ai:Nat.ble a b with
  |false=>simp[h]| true=>exact absurd (bS ai) h
def yb(a b:Int):my a b=decide (a=b):=by
 cases a<;>cases b<;>simp only[my,Qb]<;>simp
 omega
def KR(a b:Int):Bp a b=decide (a<=b):=by
 cases a<;>cases b<;>simp only[Bp]
 ·rw[KQ];simp only[zx];exact Int.ofNat_le.symm
 ·symm;simp only[nr];rename_i a b;have:=Int.negSucc_lt_zero b;have:(0:Int)<=Int.ofNat a:=Pv a;omega
 ·symm;simp only[eU];rename_i a b;have:=Int.negSucc_lt_zero a;have:(0:Int)<=Int.ofNat b:=Pv b;omega
 ·rw[KQ];simp only[zx,Int.negSucc_eq];omega
def ajP(a b:Int):Ck a b=decide (a<b):=by
 unfold Ck;rw[KR];by_cases h:a<b
 ·simp[h]
 ·simp[h];omega
def ajQ(op:BinOp)(x y:Int):Px op x y=wX op x y:=by cases op<;>simp only[Px,wX,yb,ajP,KR]
def zE(k:IntKind)(n:Int):wc k n=k.wrap n:=by
 cases n with
 |negSucc n=>rfl
 |ofNat n=>
  simp only[wc];cases h:Nat.ble n (Kz k)with
  |false=>rfl
  |true=>
   have aX:=bS h;simp only[bl];cases k<;>simp only[Kz]at aX<;>simp only[IntKind.wrap,IntKind.signed,IntKind.bits]<;>simp<;>omega
def ajR(a b:Int):X5 a b=a+b:=by cases a<;>cases b<;>rfl
def ajS(a b:Int):Py a b=a-b:=by
 cases a<;>cases b<;>try rfl
 rename_i a b;simp only[Py];cases h:Nat.ble b a with
 |false=>rfl| true=>have:=bS h;show((a-b:Nat):Int)=(a:Int)-b;omega
def ajT(a b:Int):X6 a b=a*b:=by cases a<;>cases b<;>rfl
def ajU(a b:Int):X7 a b=a.tdiv b:=by cases a<;>cases b<;>rfl
def ajV(a b:Int):X8 a b=a.tmod b:=by cases a<;>cases b<;>rfl
def ajW(a:Int)(j:Nat):X9 a j=a*2^j:=by
 cases a with
 |negSucc a=>rfl| ofNat a=>show((a*2^j:Nat):Int)=(a:Int)*2^j;simp
def ajX(a:Int)(j:Nat):X' a j=a.fdiv (2^j):=by
 cases a with
 |negSucc a=>rfl| ofNat a=>show((a/2^j:Nat):Int)=(a:Int).fdiv (2^j);rw[show(2:Int)^j=((2^j:Nat):Int) by simp];rw[Fm _ (Pv _)];simp
def YQ(j b:Nat):(bif Nat.ble j b then j else b)=min j b:=by
 rw[KQ];by_cases h:j<=b
 ·simp[h,rI h]
 ·simp[h];omega
def zF{a:Nat}(h:a<=18446744073709551615):(BitVec.ofInt IntKind.u64.bits (Int.ofNat a)).toNat=a:=by show(BitVec.ofInt 64 (a:Int)).toNat=a;rw[BitVec.ofInt_natCast,Du];omega
def wrap64{a:Nat}(h:a<=18446744073709551615):IntKind.u64.wrap (a:Int)=Int.ofNat a:=by show IntKind.u64.wrap (.ofNat a)=_;rw[<-zE];simp only[wc,Kz,Bg h,bl]
def KS{op:BinOp}{k:IntKind}{x y r:Int}(h:DP op k x y=some r):tN op k x y=some r:=by
 unfold DP at h;split at h
 ·rename_i a b;cases aA:(Nat.ble a 18446744073709551615&&Nat.ble b 18446744073709551615)with
  |false=>rw[aA]at h;cases h
  |true=>
   rw[aA]at h;rw[b']at aA;have aC:=bS aA.1;have ai:=bS aA.2;have YR:a<2^64:=by omega
   have KT:b<2^64:=by omega
   simp only[bl]at h;split at h;·rw[<-h];simp only[tN,Fp,zF aC,zF ai];rw[wrap64 (by have:=Nat.and_lt_two_pow a KT;omega)];rfl
   ·rw[<-h];simp only[tN,BitVec.toNat_or,zF aC,zF ai];rw[wrap64 (by have:=Nat.or_lt_two_pow YR KT;omega)];rfl
   ·rw[<-h];simp only[tN,BitVec.toNat_xor,zF aC,zF ai];rw[wrap64 (by have:=Nat.xor_lt_two_pow YR KT;omega)];rfl
   ·rw[<-h];have aq:(~~~(BitVec.ofInt IntKind.u64.bits (Int.ofNat b))).toNat=18446744073709551615-b:=by rw[BitVec.toNat_not,zF ai];rfl
    simp only[tN,Fp,zF aC,aq];rw[wrap64 (by have:=Nat.and_lt_two_pow a (show 18446744073709551615-b<2^64 by omega);omega)];rfl
   ·cases h
 ·exact h
def ajY(a b:UInt8):Pz a b=decide (a=b):=by unfold Pz;rw[Qb];simp only[zx];exact UInt8.toNat_inj
def By:∀ (l m:List UInt8),qx l m=decide (l=m)
 |[],[]=>by simp[qx]
 |[],_::_=>by simp[qx]
 |_::_,[]=>by simp[qx]
 |a::l,b::m=>by
  simp only[qx,ajY,By l m];by_cases h:a=b;·subst h;simp
  ·simp[h]
def zG{α:Type}:∀ (l:List α) (n:Nat),wg l n=l[n]?
 |[],n=>by simp[wg]
 |v::l,n=>by
  unfold wg;cases n with
  |zero=>rfl| succ n=>exact(zG l n).trans (by simp)
def Ha{α:Type}:∀ (l:List α) (n:Nat),Br l n=l.drop n
 |[],n=>by simp[Br]
 |v::l,n=>by
  unfold Br;cases n with
  |zero=>rfl| succ n=>exact(Ha l n).trans (by simp)
def YS{n:Nat}{l r:List ao}(h:Bq n l=some r):r=l.take n/\r.length=n:=by
 induction n generalizing l r with
 |zero=>simp[Bq]at h;subst h;simp
 |succ n a7=>
  cases l with
  |nil=>simp[Bq]at h
  |cons v l=>
   simp only[Bq]at h;split at h;·rename_i q aM;obtain⟨rfl,ab⟩:=a7 aM;cases h;simp at ab |-;omega
   ·cases h
structure Loc where
 b:Nat
 o:Nat
 c:Nat
abbrev bH:=Nat->Option Loc
def bH.le(D bx:bH):Prop:=∀ i a,D i=some a->bx i=some a
mutual
def aT(D:bH):ao->Value->Prop
 | .b x,u=>u=.bool x| .i k n,u=>u=.int k n| .s l,u=>u=.string ⟨l.toArray⟩| .pn,u=>u=.pointer none| .p id off,u=>∃ a,D id=some a/\u=.pointer (some ⟨a.b,a.o+off,none⟩)| .g n off,u=>u=.pointer (some ⟨n,off,none⟩)| .sn,u=>u=.slice none 0 0| .sl id off n c,u=>∃ a,D id=some a/\u=.slice (some ⟨a.b,a.o+off,none⟩) n c| .sx id off e n,u=>∃ a,D id=some a/\e+n<=a.c/\u=.slice (some ⟨a.b,a.o+off,none⟩) n (a.c-e)| .gs n off k c,u=>u=.slice (some ⟨n,off,none⟩) k c| .so,u=>∃ a c,u=.slice (some a) 0 c| .mn,u=>u=.map none| .m id,u=>∃ a,D id=some a/\u=.map (some a.b)| .f g l r,u=>∃ vs ws,bG D l vs/\bG D r ws/\u=.func (.func g) vs.toArray ws.toArray| .y id,u=>∃ a,D id=some a/\u=.func (.yield a.b) #[] #[]| .fn,u=>u=.nilFunc| .ni,u=>u=.nilIface| .GX t v,u=>∃ x,aT D v x/\u=.iface t x| .t l,u=>∃ vs,bG D l vs/\u=.tuple vs.toArray| .a l,u=>∃ vs,bG D l vs/\u=.agg vs.toArray
def bG(D:bH):List ao->List Value->Prop
 |[],us=>us=[]| v::l,us=>∃ x xs,aT D v x/\bG D l xs/\us=x::xs
end
section
variable{D bx:bH}
mutual
def aT.mono(h:D.le bx):∀ {v:ao} {u:Value},aT D v u->aT bx v u
 | .b _,_,aj | .i _ _,_,aj | .s _,_,aj | .pn,_,aj | .g _ _,_,aj | .sn,_,aj | .gs ..,_,aj | .so,_,aj | .mn,_,aj | .fn,_,aj | .ni,_,aj=>by simpa only[aT]using aj
 | .p ..,_,aj | .sl ..,_,aj | .m _,_,aj | .y _,_,aj=>by simp only[aT]at aj |-;obtain⟨a,aa,ab⟩:=aj;exact⟨a,h _ _ aa,ab⟩
 | .sx ..,_,aj=>by simp only[aT]at aj |-;obtain⟨a,aa,ab⟩:=aj;exact⟨a,h _ _ aa,ab⟩
 | .f _ l r,_,aj=>by simp only[aT]at aj |-;obtain⟨vs,ws,aa,ab,ag⟩:=aj;exact⟨vs,ws,bG.mono h aa,bG.mono h ab,ag⟩
 | .GX _ v,_,aj=>by simp only[aT]at aj |-;obtain⟨x,aa,ab⟩:=aj;exact⟨x,aT.mono h aa,ab⟩
 | .t l,_,aj=>by simp only[aT]at aj |-;obtain⟨x,aa,ab⟩:=aj;exact⟨x,bG.mono h aa,ab⟩
 | .a l,_,aj=>by simp only[aT]at aj |-;obtain⟨x,aa,ab⟩:=aj;exact⟨x,bG.mono h aa,ab⟩
def bG.mono(h:D.le bx):∀ {l:List ao} {us:List Value},bG D l us->bG bx l us
 |[],_,aj=>by simpa only[bG]using aj
 |v::l,_,aj=>by simp only[bG]at aj |-;obtain⟨x,xs,aa,ab,ag⟩:=aj;exact⟨x,xs,aT.mono h aa,bG.mono h ab,ag⟩
end
def bG.nil:bG D [] []:=by simp[bG]
def bG.cons{v:ao}{l:List ao}{x:Value}{xs:List Value}(h:aT D v x)(k:bG D l xs):bG D (v::l) (x::xs):=by simp only[bG];exact⟨x,xs,h,k,rfl⟩
def bG.j6{v:ao}{l:List ao}{us:List Value}(h:bG D (v::l) us):∃ x xs,aT D v x/\bG D l xs/\us=x::xs:=by simpa only[bG]using h
def bG.m9{us:List Value}(h:bG D [] us):us=[]:=by simpa only[bG]using h
def bG.len:∀ {l:List ao} {us:List Value},bG D l us->us.length=l.length
 |[],_,h=>by rw[h.m9];rfl
 |v::l,_,h=>by obtain⟨x,xs,aa,ab,rfl⟩:=h.j6;simp[bG.len ab]
def bG.get:∀ {l:List ao} {us:List Value} {i:Nat} {v:ao},bG D l us->l[i]?=some v->∃ x,us[i]?=some x/\aT D v x
 |[],_,i,v,h,hi=>by simp at hi
 |w::l,_,i,v,h,hi=>by
  obtain⟨x,xs,aa,ab,rfl⟩:=h.j6;cases i with
  |zero=>simp at hi;subst hi;exact⟨x,rfl,aa⟩| succ i=>simpa using bG.get ab (by simpa using hi)
def bG.Qc:∀ {l:List ao} {us:List Value},us.length=l.length->(∀ (i:Nat) (v:ao),l[i]?=some v->∃ x,us[i]?=some x/\aT D v x)->bG D l us
 |[],us,av,h=>by have:us=[]:=jh (by simpa using av);subst this;exact .nil
 |w::l,us,av,h=>by
  cases us with
  |nil=>simp at av| cons x xs=>obtain⟨y,aF,aa⟩:=h 0 w rfl;simp at aF;subst aF;exact .cons aa (bG.Qc (by simpa using av) λi v hi=>by simpa using h (i+1) v (by simpa using hi))
def bG.append:∀ {l:List ao} {us:List Value} {m:List ao} {ws:List Value},bG D l us->bG D m ws->bG D (l++m) (us++ws)
 |[],_,m,ws,h,k=>by rw[h.m9];exact k
 |w::l,_,m,ws,h,k=>by obtain⟨x,xs,aa,ab,rfl⟩:=h.j6;exact .cons aa (bG.append ab k)
def bG.take:∀ {l:List ao} {us:List Value} (n:Nat),bG D l us->bG D (l.take n) (us.take n)
 |[],_,n,h=>by rw[h.m9];simpa using bG.nil
 |w::l,_,n,h=>by
  obtain⟨x,xs,aa,ab,rfl⟩:=h.j6;cases n with
  |zero=>simpa using bG.nil| succ n=>simpa using bG.cons aa (bG.take n ab)
def bG.drop:∀ {l:List ao} {us:List Value} (n:Nat),bG D l us->bG D (l.drop n) (us.drop n)
 |[],_,n,h=>by rw[h.m9];simpa using bG.nil
 |w::l,us,n,h=>by
  cases n with
  |zero=>simpa using h| succ n=>obtain⟨x,xs,aa,ab,rfl⟩:=h.j6;simpa using bG.drop n ab
def bG.qd{l:List ao}{us:List Value}(h:bG D l us):∀ n,bG D (Bu n l) ((List.replicate n us).flatten)
 |0=>by simpa[Bu]using bG.nil
 |n+1=>by rw[y1,Nz];exact h.append (bG.qd h n)
def aT.bool{x:Bool}{u:Value}(h:aT D (.b x) u):u=.bool x:=by simpa only[aT]using h
def aT.int{k:IntKind}{n:Int}{u:Value}(h:aT D (.i k n) u):u=.int k n:=by simpa only[aT]using h
def aT.str{l:List UInt8}{u:Value}(h:aT D (.s l) u):u=.string ⟨l.toArray⟩:=by simpa only[aT]using h
def aT.ptr{id off:Nat}{u:Value}(h:aT D (.p id off) u):∃ a,D id=some a/\u=.pointer (some ⟨a.b,a.o+off,none⟩):=by simpa only[aT]using h
def aT.qz{id off:Nat}{u:Value}(h:aT D (.g id off) u):u=.pointer (some ⟨id,off,none⟩):=by simpa only[aT]using h
def aT.sk{id off n c:Nat}{u:Value}(h:aT D (.sl id off n c) u):∃ a,D id=some a/\u=.slice (some ⟨a.b,a.o+off,none⟩) n c:=by simpa only[aT]using h
def aT.uM{id off e n:Nat}{u:Value}(h:aT D (.sx id off e n) u):∃ a,D id=some a/\e+n<=a.c/\u=.slice (some ⟨a.b,a.o+off,none⟩) n (a.c-e):=by simpa only[aT]using h
def aT.Qd{id off n c:Nat}{u:Value}(h:aT D (.gs id off n c) u):u=.slice (some ⟨id,off,none⟩) n c:=by simpa only[aT]using h
def aT.KU{u:Value}(h:aT D .so u):∃ a c,u=.slice (some a) 0 c:=by simpa only[aT]using h
def aT.Bz{u:Value}(h:aT D .sn u):u=.slice none 0 0:=by simpa only[aT]using h
def aT.agg{l:List ao}{u:Value}(h:aT D (.a l) u):∃ vs,bG D l vs/\u=.agg vs.toArray:=by simpa only[aT]using h
def aT.Qe{l:List ao}{u:Value}(h:aT D (.t l) u):∃ vs,bG D l vs/\u=.tuple vs.toArray:=by simpa only[aT]using h
def aT.KV{l:List ao}(h:bG D l vs):aT D (.a l) (.agg vs.toArray):=by simp only[aT];exact⟨vs,h,rfl⟩
def aT.KW{l:List ao}(h:bG D l vs):aT D (.t l) (.tuple vs.toArray):=by simp only[aT];exact⟨vs,h,rfl⟩
def aT.undef:aT D (.t []) undef:=by simp only[aT];exact⟨[],.nil,rfl⟩
def aT.cells{v:ao}{u:Value}(h:aT D v u):bG D v.cells u.cells.toList:=by
 cases v<;>simp only[ao.cells]
 case a l=>obtain⟨vs,aa,rfl⟩:=h.agg;simpa[Value.cells]using aa
 all_goals
  have key:∀ w:Value,(∀ cs,w≠.agg cs)->w.cells.toList=[w]:=λw hw=>by cases w<;>first | rfl | exact(hw _ rfl).elim
  rw[key u ?_];·exact .cons h .nil
  ·rintro cs rfl;simp[aT]at h
def aT.one{v:ao}{u:Value}(h:aT D v u)(aw:v.one=true):u.oneCell'=true:=by
 cases v<;>simp only[ao.one,kG]at aw<;>simp only[aT]at h
 all_goals first
  |(subst h;rfl)|(obtain⟨_,_,rfl⟩:=h;rfl)|(obtain⟨_,_,_,rfl⟩:=h;rfl)|(obtain⟨_,_,_,_,rfl⟩:=h;rfl)
def bG.one{l:List ao}{us:List Value}(h:bG D l us)(aw:l.all ao.one=true):fO us=true:=by refine eP.2 λx ae=>?_;obtain⟨i,hi⟩:=Ky ae;have aR:=(hT.1 hi).1;rw[h.len]at aR;obtain⟨y,aF,aj⟩:=h.get (eb aR);rw[hi]at aF;cases aF;exact aj.one (eP.1 aw _ (cJ aR))
def aT.YT{u:Value}{v:ao}(h:GY u=some v):aT D v u:=by
 unfold GY at h;split at h<;>cases h<;>simp[aT]
def bG.D4:∀ {us:List Value} {l:List ao},x6 us=some l->bG D l us
 |[],l,h=>by simp only[x6]at h;cases h;exact .nil
 |u::us,l,h=>by
  simp only[x6]at h;split at h;·rename_i x m aa ab;cases h;exact .cons (.YT aa) (bG.D4 ab)
  ·cases h
def aT.of{u:Value}{v:ao}(h:DO u=some v):aT D v u:=by
 unfold DO at h;split at h
 ·split at h
  ·rename_i l av;cases h;have:=bG.D4 (D:=D) av;simpa using aT.KV this
  ·cases h
 ·exact .YT h
def KX{agg:Bool}{l:List ao}{v:ao}(h:DR agg l=some v)(av:bG D l vs):aT D v (pack agg vs):=by
 unfold DR at h;cases agg with
 |true=>simp only[bl]at h;cases h;exact .KV av
 |false=>
  simp only[bh]at h;split at h;·cases h;obtain⟨x,xs,aa,ab,rfl⟩:=av.j6;rw[ab.m9];exact aa
  ·cases h
def Qf:∀ {cs:List ao} {off:Nat} {vs r:List ao} {us xs:List Value},x8 cs off vs=some r->bG D cs us->bG D vs xs->bG D r (bo us off xs)/\off+xs.length<=us.length
 |cs,0,[],r,us,xs,h,aA,aj=>by simp[x8]at h;subst h;rw[aj.m9];exact⟨by simpa[bo]using aA,by simp⟩
 |[],0,_::_,r,us,xs,h,aA,aj=>by simp[x8]at h
 |[],_+1,_,r,us,xs,h,aA,aj=>by simp[x8]at h
 |c::cs,0,v::vs,r,us,xs,h,aA,aj=>by
  simp only[x8]at h;split at h
  ·rename_i q aM;cases h;obtain⟨x,us,aa,ab,rfl⟩:=aA.j6;obtain⟨y,xs,ag,aW,rfl⟩:=aj.j6;obtain⟨bC,bP⟩:=Qf aM ab aW;refine⟨?_,by simp at bP |-;omega⟩;have e:bo (x::us) 0 (y::xs)=y::bo us 0 xs:=by simp[bo]
   rw[e];exact .cons ag bC
  ·cases h
 |c::cs,n+1,vs,r,us,xs,h,aA,aj=>by
  simp only[x8]at h;split at h
  ·rename_i q aM;cases h;obtain⟨x,us,aa,ab,rfl⟩:=aA.j6;obtain⟨bC,bP⟩:=Qf aM ab aj;refine⟨?_,by simp;omega⟩;have e:bo (x::us) (n+1) xs=x::bo us n xs:=by simp only[bo,nt,qZ,y2,true_and];rw[show n+1+xs.length=(n+xs.length)+1 by omega,GW]
   rw[e];exact .cons aa bC
  ·cases h
inductive Hb(D:bH):List (Nat×ao)->List (Nat×Value)->Prop
 |nil:Hb D [] []| cons {i v u l us} (h:aT D v u) (k:Hb D l us):Hb D ((i,v)::l) ((i,u)::us)
def KY{place:Nat->Option (Nat×Nat)}:∀ {vs:List (Nat×ao)} {cells r:List ao} {us:List Value} {xs:List (Nat×Value)},zz place cells vs=some r->bG D cells us->Hb D vs xs -> ∃ a8,sH place us xs=some a8/\bG D r a8
 |[],cells,r,us,_,h,aA,.nil=>by simp only[zz]at h;cases h;exact⟨us,rfl,aA⟩
 |(i,v)::vs,cells,r,us,_,h,aA,.cons (u:=u) (us:=xs) aj h7=>by
  simp only[zz]at h;split at h;·cases h
  ·rename_i off size aD;cases ai:Nat.beq v.cells.length size with
   |false=>rw[ai]at h;cases h
   |true=>
    rw[ai]at h;simp only[bl]at h;split at h
    ·rename_i cs lJ;obtain⟨aa,ab⟩:=Qf lJ aA aj.cells;obtain⟨a8,ag,aW⟩:=KY h aa h7;refine⟨a8,?_,aW⟩;have av:u.cells.size=v.cells.length:=by simpa using aj.cells.len
     simp only[sH,aD,av,ai];rw[show Nat.ble (off+size) us.length=true by rw[KQ,eU];have:=c6 ai;simp at ab;omega];exact ag
    ·cases h
end
def fV(D:bH)(x:dn)(v:ao):Prop:=(∃ u,x=.val u/\aT D v u)\/∃ q,v=.b q/\x=.lit q
def fV.val{D:bH}{u:Value}{v:ao}(h:aT D v u):fV D (.val u) v:=.inl ⟨u,rfl,h⟩
def fV.mono{D bx:bH}(di:D.le bx){x:dn}{v:ao}(h:fV D x v):fV bx x v:=by
 rcases h with⟨u,rfl,h⟩ | ⟨q,rfl,rfl⟩
 ·exact .val (h.mono di)
 ·exact .inr ⟨q,rfl,rfl⟩
def qA(D:bH)(F:Fr)(al:bg ao):Prop:=∀ t v,al.get t=some v->fV D (F t) v
def iJ(D:bH)(F:Fr)(al:bg ao)(xs:List Operand):Prop:=∀ x∈xs,∀ v,dm al x=some v->fV D (dq F x) v
def qA.op{D:bH}{al:bg ao}(h:qA D F al)(xs:List Operand):iJ D F al xs:=λx _ v aj=>by
 cases x with
 |tmp t=>exact h t v aj
 |const c=>
  have kL:DO c=some v:=aj;cases c with
  |bool q=>
   have:v=.b q:=by simp[DO,GY]at kL;exact kL.symm
   exact .inr ⟨q,this,rfl⟩
  |_=>exact .val (.of kL)
 |global g=>
  have:v=.g g 0:=by simpa[dm]using aj.symm
  subst this;exact .val (by simp[aT])
 |func f=>
  have:v=.f f [] []:=by simpa[dm]using aj.symm
  subst this;exact .val (by simp only[aT];exact⟨[],[],.nil,.nil,rfl⟩)
section
variable{D:bH}{F:Fr}{al:bg ao}{xs:List Operand}
def fV.dR{v:ao}(h:fV D (dq F x) v):∃ u,bB F x=.val u/\aT D v u:=by
 unfold bB Go.V.dR;rcases h with⟨u,h,aj⟩ | ⟨q,rfl,h⟩
 ·rw[h];exact⟨u,rfl,aj⟩
 ·rw[h];exact⟨.bool q,rfl,by simp[aT]⟩
def fV.wo{x:dn}{v:ao}(h:fV D x v)(aj:∀ q,v≠.b q):∃ u,x=.val u/\aT D v u:=by
 rcases h with h | ⟨q,h,_⟩
 ·exact h
 ·exact(aj q h).elim
def iJ.bB(h:iJ D F al xs)(ae:x∈xs){v:ao}(aj:dm al x=some v):∃ u,bB F x=.val u/\aT D v u:=(h x ae v aj).dR
def iJ.l8(h:iJ D F al xs):∀ {l:List Operand} {vs:List ao},(∀ x∈l,x∈xs)->nR al l=some vs->∃ us,l8 F l=some us/\bG D vs us
 |[],vs,_,aj=>by simp only[nR]at aj;cases aj;exact⟨[],rfl,.nil⟩
 |x::l,vs,av,aj=>by
  simp only[nR]at aj;split at aj;·rename_i v vs aa ab;cases aj;obtain⟨u,az,a3⟩:=h.bB (av x (by simp)) aa;obtain⟨us,aE,a6⟩:=iJ.l8 h (λy aF=>av y (by simp[aF])) ab;refine⟨u::us,?_,.cons a3 a6⟩;show jA (dq F) (x::l)=_;rw[jA];have ei:dR (dq F) x=.val u:=az;have eC:jA (dq F) l=some us:=aE;rw[ei,eC]
  ·cases aj
def iJ.parts(h:iJ D F al xs):∀ {l:List (Nat×Operand)} {vs:List (Nat×ao)},(∀ x∈l.map (·.2),x∈xs)->DS al l=some vs->∃ us,Ag F l=some us/\Hb D vs us
 |[],vs,_,aj=>by simp only[DS]at aj;cases aj;exact⟨[],rfl,.nil⟩
 |(i,x)::l,vs,av,aj=>by
  simp only[DS]at aj;split at aj;·rename_i v vs aa ab;cases aj;obtain⟨u,az,a3⟩:=h.bB (av x (by simp)) aa;obtain⟨us,aE,a6⟩:=iJ.parts h (λy aF=>av y (by simp only[cY,ef];exact .inr aF)) ab;refine⟨(i,u)::us,?_,.cons a3 a6⟩;show sI (dq F) ((i,x)::l)=_;rw[sI];have ei:dR (dq F) x=.val u:=az;have eC:sI (dq F) l=some us:=aE;rw[ei,eC]
  ·cases aj
end
inductive qB(D:bH):List (ao×ao)->List MapEntry->Prop
 |nil:qB D [] []| cons {k v es e l} (af:aT D k e.key) (aj:aT D v e.val) (t:qB D es l):qB D ((k,v)::es) (e::l)
def hE(n:Nat):Code->Bool
 | .seq x y=>hE n x&&hE n y| .block _ c=>hE n c| .cond _ x y=>hE n x&&hE n y| .loop c=>hE n c| .scope c=>hE n c| .region _ ops _=>yE n ops| .rangeFunc _ ps fc body=>hE n fc&&(hE n body&&ps.toList.all λt=>Nat.blt t n)| _=>true
structure YU(D:bH)(busy:Bool)(n:Nat)(al:bg ao)(ps:List Nat)(fc body:Code)(L:Loop):Prop where
 aG:L.state=bif busy then .busy else .ready
 p3:L.pending=none
 sz:L.tmps.size=n
 al:∀ t v,al.get t=some v->aT D v (L.tmps.getD t undef)
 ps:L.params.toList=ps
 fc:L.assign=fc
 body:L.body=body
 xu:hE n L.assign=true
 og:hE n L.body=true
 op:∀ t∈L.params.toList,t<n
inductive k9(D:bH)(E:Env)(M:List aB)(a:Loc):e0->Prop
 |cells{cs:bg ao}{T e1:Nat}(arr:Array Value)(aw:a.o=0)(a1:(⟨a.b,.cells arr T (0,0)⟩:aB)∈M)(av:a.o+e1<=arr.size)(aA:∀ i v,i<e1->cs.get i=some v->∃ x,arr[a.o+i]?=some x/\aT D v x)(af:∀ i,E T=some i->arr.size=a.o+a.c*i.size)(hm:a.c<=maxLen):k9 D E M a (.cells cs T e1)| map {es:List (ao×ao)} (l:List MapEntry) (clock:Nat) (a1:(⟨a.b,.map l.toArray clock⟩:aB)∈M) (he:qB D es l):k9 D E M a (.map es)| loop {busy n al ps fc body} (L:Loop) (a1:(⟨a.b,.loop L⟩:aB)∈M) (b9:YU D busy n al ps fc body L):k9 D E M a (.loop busy n al ps fc body)| done {c n al ps fc body} (L:Loop) (a1:(⟨a.b,.loop L⟩:aB)∈M) (ap:L.state=.done) (aD:L.pending=some c):k9 D E M a (.done c n al ps fc body)
def qB.mono{D bx:bH}(di:D.le bx){es:List (ao×ao)}{l:List MapEntry}(h:qB D es l):qB bx es l:=by
 induction h with
 |nil=>exact .nil| cons af aj t a7=>exact .cons (af.mono di) (aj.mono di) a7
def k9.mono{D bx:bH}{M':List aB}{a:Loc}(di:D.le bx)(a1:∀ x∈M,x.num=a.b->x∈M'){e:e0}(h:k9 D E M a e):k9 bx E M' a e:=by
 cases h with
 |cells arr ar aa ab ag aW bC=>exact .cells arr ar (a1 _ aa rfl) ab (λi v hi au=>by obtain⟨x,a3,a6⟩:=ag i v hi au;exact⟨x,a3,a6.mono di⟩) aW bC| map l clock aa ab=>exact .map l clock (a1 _ aa rfl) (ab.mono di)| loop L aa ab=>exact .loop L (a1 _ aa rfl) { ab with al:=λt v ay=>(ab.al t v ay).mono di }| done L aa ab ag=>exact .done L (a1 _ aa rfl) ab ag
def Hc(G:GT)(I:aZ):Prop:=∀ g cs,G g=some cs->∃ (arr:Array Value) (T:Nat) (f:Nat×Nat),I g=some (.cells arr T f)/\∀ i v,cs.get i=some v->∃ x,arr[i]?=some x/\∀ D,aT D v x
structure dc(Y:gz)(D:bH)(m:bm)(I:aZ)(M:List aB):Prop where
 ih:∀ id e a,m.t.get id=some e->D id=some a->k9 D Y.E M a e
 inj:∀ id ij e bq a bY,m.t.get id=some e->m.t.get ij=some bq->D id=some a->D ij=some bY->a.b=bY.b->id=ij
 jt:∀ id a,D id=some a->id<m.n
 qz:Hc Y.G I
section
variable{Y:gz}{D:bH}{m:bm}{I:aZ}{M:List aB}{R:Type}
def wq(h:dc Y D m I M){x:ao}{u:Value}(ae:aT D x u){n:Nat}{K:List ao->Option R}{r:R}(ak:tv Y.G m.t x n K=some r) :
  ∃ ad l vs,u=.pointer (some ad)/\cr I M ad n vs/\bG D l vs/\K l=some r:=by
 have key:∀ (arr:Array Value) (be off:Nat) (l:List ao),l.length=n->be+off+n<=arr.size->(∀ i,i<n->∀ v,l[i]?=some v->∃ x,arr[be+off+i]?=some x/\aT D v x) ->
   ((arr.toList.drop (be+off)).take n).length=n/\bG D l ((arr.toList.drop (be+off)).take n):=by
  intro arr be off l av df au;have bQ:((arr.toList.drop (be+off)).take n).length=n:=by simp;omega
  refine⟨bQ,bG.Qc (by rw[bQ,av]) λi v hi=>?_⟩;have fK:i<n:=by rw[<-av];exact(hT.1 hi).1
  obtain⟨x,aa,ab⟩:=au i fK v hi;refine⟨x,?_,ab⟩;rw[j9,cn fK,nZ];simpa using aa
 unfold tv at ak;split at ak
 ·rename_i id off;split at ak
  ·rename_i cs T e1 au;cases ai:Nat.ble (Nat.add off n) e1 with
   |false=>rw[ai]at ak;cases ak
   |true=>
    rw[ai]at ak;have iQ:off+n<=e1:=bS ai;simp only[bl]at ak;obtain⟨l,aa,ab,ag⟩:=bg.D3 cs n off K r ak;obtain⟨a,aC,hu⟩:=ae.ptr;have he:=h.ih _ _ _ au aC;obtain⟨arr,-,a1,av,aA,-,-⟩:=he;obtain⟨eg,cA⟩:=key arr a.o off l aa (by omega) λi hi v aj=>by have:=aA (off+i) v (by omega) (by rw[ab i hi,aj]);rw[<-qL]at this;exact this
    exact⟨_,l,_,hu,⟨rfl,arr,T,(0,0),.inr ⟨_,a1,rfl,rfl⟩,rfl,eg⟩,cA,ag⟩
  ·cases ak
 ·rename_i g off;split at ak
  ·rename_i cs au;obtain⟨l,aa,ab,ag⟩:=bg.D3 cs n off K r ak;obtain⟨arr,T,f,bA,aA⟩:=h.qz _ _ au;have hu:=ae.qz;have hr:∀ i,i<n->∀ v,l[i]?=some v->∃ x,arr[0+off+i]?=some x/\aT D v x:=λi hi v aj=>by obtain⟨x,a3,a6⟩:=aA (off+i) v (by rw[ab i hi,aj]);exact⟨x,by simpa using a3,a6 D⟩
   by_cases aq:n=0;·subst aq;have:l=[]:=jh aa;subst this;exact⟨_,[],[],hu,⟨rfl,arr,T,f,.inl bA,by simp,rfl⟩,.nil,ag⟩
   ·have df:0+off+n<=arr.size:=by
     have aR:n-1<l.length:=by omega
     obtain⟨x,a3,_⟩:=hr (n-1) (by omega) l[n-1] (eb aR);have:=(lD.1 a3).1;omega
    obtain⟨eg,cA⟩:=key arr 0 off l aa df hr;simp only[c0]at eg cA;exact⟨_,l,_,hu,⟨rfl,arr,T,f,.inl bA,rfl,eg⟩,cA,ag⟩
  ·cases ak
 ·cases ak
end
def ajZ{k:IntKind}(h:IntKind.l' k dJ=true):k=dJ:=IntKind.Cm h
def KZ(l m:List UInt8):decide ((⟨l.toArray⟩:ByteArray)=⟨m.toArray⟩)=decide (l=m):=by
 simp only[zx];constructor
 ·intro h;simpa using h
 ·rintro rfl;rfl
def aj0(a b:ByteArray):(a == b)=decide (a=b):=by
 rw[oY];simp only[eU];constructor
 ·intro h
  first | exact eq_of_beq h | exact tM (eq_of_beq (a:=a.data) (b:=b.data) h)
 ·rintro rfl
  first | exact Ce _ | exact Ce a.data
section
variable{P:Program}{E:Env}{D:bH}
def K0(aN:c2 P E){o:Nat}{l:List ao}{x:ao}(h:uI E t o l=some x){us:List Value}(av:bG D l us):∃ u,aT D x u/\∀ w,(part t us.toArray o).run P w=.ok u w:=by
 unfold uI at h;obtain⟨i,aa,h⟩:=ct h;obtain⟨ar,h⟩:=zD h;have hY:i.size≠0:=λe=>by rw[e]at ar;cases ar
 obtain⟨r,ab,h⟩:=ct h;obtain⟨az,aE⟩:=YS ab;rw[Ha]at az;have bQ:=av.len;subst az;refine⟨_,KX h ((av.drop o).take _),λw=>?_⟩;have:=MA (aN _ _ aa) (cs:=us.toArray) (off:=o) (by rw[hh,pb]at aE;simp;omega) w;simpa using this
def Qg{F:Nat->ao->ao->Option Bool}{l m:List ao}{α β:Type}{pl:α->Nat×Nat}{g:α->β->Sem (ForInStep β)}{dT s1:β}{w:World}:∀ (L:List α) {b:Bool},we F E l m (L.map pl)=some b -> (∀ a∈L,∀ x y c,uI E (pl a).1 (pl a).2 l=some x->uI E (pl a).1 (pl a).2 m=some y->F (pl a).1 x y=some c->(g a dT).run P w=.ok (if c then .yield dT else .done s1) w) -> (forIn L dT g).run P w=.ok (if b then dT else s1) w
 |[],b,h,_=>by cases h;simp[c9]
 |a::L,b,h,au=>by
  simp only[cY]at h;unfold we at h;obtain⟨x,aa,h⟩:=ct h;obtain⟨y,ab,h⟩:=ct h;obtain⟨c,ag,h⟩:=ct h;simp only[List.forIn_cons,cm];rw[au a (by simp) x y c aa ab ag];rw[js]at h;cases c with
  |true=>simp only[pU,b3];exact Qg L h λbY aC=>au bY (by simp[aC])
  |false=>cases h;simp[b3,c9]
def Qh(aN:c2 P E):∀ (d:Nat) {t:Nat} {x y:ao} {b:Bool} {u v:Value},m8 P E d t x y=some b->aT D x u->aT D y v->∀ n,d<=n->∀ w,(Op.equalIn n t u v).run P w=.ok b w
 |0,t,x,y,b,u,v,h,ae,aF,n,aq,w=>by cases h
 |d+1,t,x,y,b,u,v,h,ae,aF,0,aq,w=>by omega
 |d+1,t,x,y,b,u,v,h,ae,aF,n+1,aq,w=>by
  unfold m8 at h;obtain⟨i,hi,h⟩:=ct h;obtain⟨p8,fk,np⟩:=(aN _ _ hi).fi;rw[Op.equalIn];simp only[cm,run_underlying fk,b3];split at h
  ·rename_i a bY ap _;cases h;have a3:p8=.bool:=by cases p8<;>simp_all[e8]
   subst a3;rw[ae.bool,aF.bool];rfl
  ·rename_i dJ k a cA bY ap _;obtain⟨az,h⟩:=fw h;cases h;have a3:p8=.int dJ:=by cases p8<;>simp_all[e8]
   subst a3;rw[ae.int,aF.int];rw[ajZ az];have ai:(a == bY)=my a bY:=by
    rw[yb];by_cases e:a=bY;·subst e;simp
    ·simp[e]
   simp[ai]
  ·rename_i a bY ap _;cases h;have a3:p8=.string:=by cases p8<;>simp_all[e8]
   subst a3;rw[ae.str,aF.str];show Result.ok _ _=_;rw[By,<-KZ];congr 1;exact aj0 _ _
  ·rename_i cE l m ap _;obtain⟨az,h⟩:=fw h;unfold PD at az;rw[fk]at az;cases p8 with
   |struct fields=>
    simp only[b',oX,eP,eU]at az;obtain⟨az,aE⟩:=az;rw[ap]at np;simp only[e8,EV.struct.injEq]at np;subst np;obtain⟨us,aa,rfl⟩:=ae.agg;obtain⟨ws,ab,rfl⟩:=aF.agg;simp only[cm,run_program,b3,az,kG,lG];rw[<-Array.forIn_toList];rw[Qg (P:=P) (s1:=⟨some false,⟨⟩⟩) fields.toList h (λf aJ x y c x1 m4 aA=>by
     obtain⟨p,eg,cA⟩:=K0 aN x1 aa;obtain⟨q,gu,jG⟩:=K0 aN m4 ab;have aM:=Qh aN d aA eg gu n (by omega) w;simp only[aE f aJ,pU,ne_eq,not_false_eq_true,cm,cA,jG,b3,aM];cases c<;>simp[c9])]
    cases b<;>simp[b3,c9]
   |_=>cases az
  ·rename_i len e l m ap _;obtain⟨aH,hy,h⟩:=ct h;have a3:p8=.array len e:=by cases p8<;>simp_all[e8]
   subst a3;obtain⟨us,aa,rfl⟩:=ae.agg;obtain⟨ws,ab,rfl⟩:=aF.agg;simp only[cm,(aN _ _ hy).run_sizeOf,b3,TK];have ak:List.range' 0 ([:len]:Std.Legacy.Range).size=List.range len:=by simp[Std.Legacy.Range.size,Ac]
   rw[ak];rw[Qg (P:=P) (s1:=⟨some false,⟨⟩⟩) (List.range len) h (λf aJ x y c x1 m4 aA=>by
    obtain⟨p,eg,cA⟩:=K0 aN x1 aa;obtain⟨q,gu,jG⟩:=K0 aN m4 ab;have aM:=Qh aN d aA eg gu n (by omega) w;simp only[cm,cA,jG,b3,aM];cases c<;>simp[c9])]
   cases b<;>simp[b3,c9]
  ·cases h
end
section
variable{X:c3}{D:bH}
def K1(aN:c2 X.P X.E){op:BinOp}{l m:List ao}{v:ao}{us ws:List Value}(h:x7 X.P X.E op t l m=some v)(av:bG D l us)(hm:bG D m ws)(af:∀ u,aT D v u->K u) :
  e' X.P op t x y (.val (.agg us.toArray)) (.val (.agg ws.toArray)) K O:=by
 unfold x7 at h;obtain⟨au,h⟩:=zD h;obtain⟨b,aa,h⟩:=ct h;have aM:=Qh (D:=D) aN 8 aa (u:=.agg us.toArray) (v:=.agg ws.toArray) (by simp only[aT];exact⟨us,av,rfl⟩) (by simp only[aT];exact⟨ws,hm,rfl⟩) Op.maxDepth (by decide);split at h
 ·cases h;refine .mk _ _ _ rfl rfl (λw=>?_) (af _ (by simp only[aT];rfl));simp only[cm,run_eqGuard_agg (hm:=au),b3,binOp,Op.equal,aM,c9]
 ·cases h;refine .mk _ _ _ rfl rfl (λw=>?_) (af _ (by simp only[aT];rfl));simp only[cm,run_eqGuard_agg (hm:=au),b3,binOp,Op.equal,aM,c9]
 ·cases h
end
open Go Go.Proofs
def D5(x y:Int):Int:=IntKind.u64.wrap ((BitVec.ofInt 64 x ||| BitVec.ofInt 64 y).toNat:Int)
def K2(x y:BitVec 64):D5 x.toNat y.toNat=((x ||| y).toNat:Int):=by unfold D5;rw[Kx,Kx,X2]
def Qi(x y:Int):Int:=IntKind.u64.wrap ((BitVec.ofInt 64 x &&& BitVec.ofInt 64 y).toNat:Int)
def aj1(x y:BitVec 64):Qi x.toNat y.toNat=((x &&& y).toNat:Int):=by unfold Qi;rw[Kx,Kx,X2]
def aj2(x y:BitVec 64):my (x.toNat:Int) (y.toNat:Int)=decide (x=y):=by rw[yb,<-ajG,oY];simp
def uN(v:α)(x:R)(f:α->R):bX (some v) x f=f v:=rfl
abbrev dP(X:c3)(G:GT)(pr:ly):gz:=⟨X.P,X.E,G,pr⟩
section
variable{X:c3}{G:GT}{pr:ly}{D:bH}{m:bm}{F:Fr}{al:bg ao}{C:dp}{I:aZ}{M:List aB}{V:dn->Prop}{O:Prop}
def oJ{a b:α}(h:some a=some b):a=b:=by cases h;rfl
def aj3{op:BinOp}{k:IntKind}{a b:Int}{v:ao}(h:PA op k dJ a b=some v)(af:∀ u,aT D v u->K u):lj op dk (.val (.int k a)) (.val (.int dJ b)) K O:=by
 have mk:∀ {q:ao} {u:Value},some q=some v->aT D q u->K u:=λe hu=>af _ (oJ e ▸ hu);unfold PA at h;split at h
 ·split at h
  ·rename_i j;refine⟨j,rfl,⟨_,rfl,mk h ?_⟩⟩;simp only[aT];rw[zE,ajW,js,YQ]
  ·cases h
 ·split at h
  ·rename_i j;refine⟨j,rfl,mk h ?_⟩;simp only[aT];rw[ajX,js,YQ]
  ·cases h
 all_goals obtain⟨aM,h⟩:=fw h
 all_goals simp only[lj,aM,bl]
 ·exact⟨_,rfl,mk h (by simp only[aT];rw[zE,ajR])⟩
 ·exact⟨_,rfl,mk h (by simp only[aT];rw[zE,ajS])⟩
 ·exact⟨_,rfl,mk h (by simp only[aT];rw[zE,ajT])⟩
 ·obtain⟨ar,h⟩:=zD h;refine⟨λe=>?_,_,rfl,mk h (by simp only[aT];rw[zE,ajU])⟩;rw[yb,e]at ar;simp at ar
 ·obtain⟨ar,h⟩:=zD h;refine⟨λe=>?_,mk h (by simp only[aT];rw[ajV])⟩;rw[yb,e]at ar;simp at ar
 ·obtain⟨r,ak,h⟩:=ct h;rw[KS ak];exact mk h (by simp only[aT])
 ·obtain⟨r,ak,h⟩:=ct h;rw[KS ak];exact mk h (by simp only[aT])
 ·obtain⟨r,ak,h⟩:=ct h;rw[KS ak];exact mk h (by simp only[aT])
 ·obtain⟨r,ak,h⟩:=ct h;rw[KS ak];exact mk h (by simp only[aT])
 ·obtain⟨r,ak,h⟩:=ct h;rw[ajQ]at ak;have aj:v=.b r:=(oJ h).symm;subst aj;have iI:K (.bool r):=af _ (by simp only[aT]);cases op<;>first
   |contradiction|(rw[ak];exact iI)
def Qj(b:Bool):b5 b false true=!b:=by cases b<;>rfl
def aj4{op:BinOp}{a b:List UInt8}{v:ao}(h:PB op a b=some v)(af:∀ u,aT D v u->K u) :
  lj op dk (.val (.string ⟨a.toArray⟩)) (.val (.string ⟨b.toArray⟩)) K (e' P op t x y (.val (.string ⟨a.toArray⟩)) (.val (.string ⟨b.toArray⟩)) K O):=by
 unfold PB at h;split at h
 ·cases h;refine af _ ?_;simp only[aT];rw[KZ,By]
 ·cases h;refine af _ ?_;simp only[aT];rw[KZ,By,Qj]
 ·obtain⟨av,h⟩:=fw h;cases h;have kd:=bS av;refine e'.concat (by simpa[ByteArray.size]using kd) (af _ ?_);simp only[aT];congr 1
 ·cases h
def aj5{op:BinOp}{a:Bool}{v:ao}(h:PC op dk a b=some v)(af:∀ u,aT D v u->K u):lj op dk (.val (.bool a)) (.val (.bool b)) K O:=by
 unfold PC at h;split at h
 ·split at h
  ·cases h;exact af _ (by simp only[aT])
  ·cases h;exact af _ (by simp only[aT])
  ·cases h
 ·cases h
def aj6{x:ao}(h:PE x=some b){u:Value}(hu:aT D x u):∃ a n c,u=.slice a n c/\b=a.isNone:=by
 cases x<;>simp only[PE,j',reduceCtorEq]at h<;>subst h<;>simp only[aT]at hu
 ·exact⟨_,_,_,hu,rfl⟩
 ·obtain⟨a,-,hu⟩:=hu;exact⟨_,_,_,hu,rfl⟩
 ·obtain⟨a,-,-,hu⟩:=hu;exact⟨_,_,_,hu,rfl⟩
 ·exact⟨_,_,_,hu,rfl⟩
 ·obtain⟨a,c,hu⟩:=hu;exact⟨_,_,_,hu,rfl⟩
def aj7{x:ao}(h:PF x=some b){u:Value}(hu:aT D x u):∃ p,u=.pointer p/\b=p.isNone:=by
 cases x<;>simp only[PF,j',reduceCtorEq]at h<;>subst h<;>simp only[aT]at hu
 ·exact⟨_,hu,rfl⟩
 ·obtain⟨a,-,hu⟩:=hu;exact⟨_,hu,rfl⟩
 ·exact⟨_,hu,rfl⟩
def aj8{e:Nat}(h:P.underlying t=some (.slice e))(a:Option Addr)(n c:Nat)(w:World):(Op.equal t (.slice a n c) (.slice none 0 0)).run P w=.ok a.isNone w:=by
 have key:∀ d,(Op.equalIn (d+1) t (.slice a n c) (.slice none 0 0)).run P w=.ok a.isNone w:=λd=>by cases a<;>simp[Op.equalIn,run_underlying h]
 exact key 9999
def aj9{e:Nat}(h:P.underlying t=some (.pointer e))(p:Option Addr)(w:World):(Op.equal t (.pointer p) (.pointer none)).run P w=.ok p.isNone w:=by
 have key:∀ d,(Op.equalIn (d+1) t (.pointer p) (.pointer none)).run P w=.ok p.isNone w:=λd=>by cases p<;>simp[Op.equalIn,run_underlying h]
 exact key 9999
def YV{op:BinOp}{v:ao}{p q:Value}(au:∀ w,op=.eql\/op=.neq->(eqGuard op t x y p q).run P w=.ok () w)(he:∀ w,(Op.equal t p q).run P w=.ok b w)(ai:∀ w,(binOp .eql t p q).run P w=.ok (.bool b) w)(aq:∀ w,(binOp .neq t p q).run P w=.ok (.bool (!b)) w)(h:KA op b=some v)(af:∀ u,aT D v u->K u):e' P op t x y (.val p) (.val q) K O:=by
 unfold KA at h;split at h
 ·cases h;refine .mk p q (.bool b) rfl rfl (λw=>?_) (af _ (by simp only[aT]));simp only[cm,au w (.inl rfl),b3,ai w]
 ·cases h;refine .mk p q (.bool (!b)) rfl rfl (λw=>?_) (af _ (by simp only[aT]));simp only[cm,au w (.inr rfl),b3,aq w]
 ·cases h
def aka(aN:c2 X.P X.E){op:BinOp}{x y v:ao}{akb:Operand}{u:Value}(h:PG X.P X.E op t x y=some v)(ae:aT D x u)(aF:aT D y w)(af:∀ u,aT D v u->K u) :
  lj op (X.E t) (.val u) (.val w) K (e' X.P op t qw akb (.val u) (.val w) K O):=by
 unfold PG at h;split at h
 ·rw[ae.int,aF.int];exact aj3 h af
 ·rw[ae.str,aF.str];exact aj4 h af
 ·rw[ae.bool,aF.bool];exact aj5 h af
 ·obtain⟨us,aa,rfl⟩:=ae.agg;obtain⟨ws,ab,rfl⟩:=aF.agg;exact K1 aN h aa ab af
 ·obtain⟨i,hi,h⟩:=ct h;split at h
  ·rename_i e np;obtain⟨b,aa,h⟩:=ct h;obtain⟨a,n,c,rfl,rfl⟩:=aj6 aa ae;simp only[aT]at aF;subst aF;obtain⟨d,fk,ft⟩:=(aN _ _ hi).fi;have ab:d=.slice e:=by rw[np]at ft;cases d<;>simp_all[e8]
   subst ab;have he:=aj8 fk a n c;exact YV (λw aw=>by rcases aw with rfl | rfl<;>(unfold eqGuard;rfl)) he (λw=>by simp only[binOp];simp[he w]) (λw=>by simp only[binOp];simp[he w]) h af
  ·cases h
 ·obtain⟨i,hi,h⟩:=ct h;split at h
  ·rename_i e np;obtain⟨b,aa,h⟩:=ct h;obtain⟨p,rfl,rfl⟩:=aj7 aa ae;simp only[aT]at aF;subst aF;obtain⟨d,fk,ft⟩:=(aN _ _ hi).fi;have ab:d=.pointer e:=by rw[np]at ft;cases d<;>simp_all[e8]
   subst ab;have he:=aj9 fk p;exact YV (λw aw=>by rcases aw with rfl | rfl<;>(unfold eqGuard;rfl)) he (λw=>by simp only[binOp];simp[he w]) (λw=>by simp only[binOp];simp[he w]) h af
  ·cases h
 ·cases h
variable(aN:c2 X.P X.E)(hm:dc (dP X G pr) D m I M)
def D6{v:ao}{n:Nat}(h:v.nat=some n):∃ k,v=.i k (.ofNat n):=by
 unfold ao.nat at h;split at h
 ·cases h;exact⟨_,rfl⟩
 ·cases h
def YW{x v:ao}{n:Nat}{u:Value}(h:GZ x n=some v)(ae:aT D x u):∃ a,u=.pointer (some a)/\a.spot=none/\aT D v (.pointer (some (a.add n))):=by
 unfold GZ at h;split at h
 ·cases h;obtain⟨a,aC,rfl⟩:=ae.ptr;refine⟨_,rfl,rfl,?_⟩;rw[dL _ rfl];simp only[aT];exact⟨a,aC,by simp only[zy,qL]⟩
 ·cases h;refine⟨_,ae.qz,rfl,?_⟩;rw[dL _ rfl];simp only[aT];rfl
 ·cases h
def akc{x v:ao}{u:Value}(h:KB x j sz=some v)(ae:aT D x u):∃ a n c,u=.slice (some a) n c/\j<n/\aT D v (.pointer (some (a.add (j*sz)))):=by
 unfold KB at h;split at h
 ·cases ai:Nat.blt j _ with
  |false=>rw[ai]at h;cases h| true=>rw[ai]at h;cases h;obtain⟨a,aC,rfl⟩:=ae.sk;refine⟨_,_,_,rfl,bS ai,?_⟩;rw[dL _ rfl];simp only[aT];exact⟨a,aC,by simp only[zy,DL,qL]⟩
 ·cases ai:Nat.blt j _ with
  |false=>rw[ai]at h;cases h| true=>rw[ai]at h;cases h;obtain⟨a,aC,_,rfl⟩:=ae.uM;refine⟨_,_,_,rfl,bS ai,?_⟩;rw[dL _ rfl];simp only[aT];exact⟨a,aC,by simp only[zy,DL,qL]⟩
 ·cases ai:Nat.blt j _ with
  |false=>rw[ai]at h;cases h| true=>rw[ai]at h;cases h;refine⟨_,_,_,ae.Qd,bS ai,?_⟩;rw[dL _ rfl];simp only[aT];rfl
 ·cases h
def YX{cs:List ao}{v:ao}{us:List Value}(h:KE aH cs off=some v)(aA:bG D cs us) :
  off+aH.size<=us.length/\aT D v (pack aH.bE.agg ((us.drop off).take aH.size)):=by
 unfold KE at h;obtain⟨ar,h⟩:=zD h;obtain⟨l,aa,ab⟩:=ct h;have hY:aH.size≠0:=λe=>by rw[e]at ar;cases ar
 obtain⟨rfl,av⟩:=YS aa;rw[Ha]at ab av;refine⟨?_,KX ab ((aA.drop off).take _)⟩;have:=aA.len;simp at av;omega
def YY{i:Nat}{g2:dU}(h:KD E t i=some (off,g2)):∃ a b z cE l9,E t=some ⟨a,b,z,.struct cE⟩/\cE[i]?=some (l9,off)/\E l9=some g2:=by
 unfold KD at h;split at h
 ·rename_i a b z cE ay;split at h
  ·rename_i l9 o aJ;rw[zG]at aJ;split at h
   ·rename_i f tj;cases h;exact⟨_,_,_,_,l9,ay,aJ,tj⟩
   ·cases h
  ·cases h
 ·cases h
def akd(h:PJ E t=some (r,aH)):(∃ a b z e,E t=some ⟨a,b,z,.slice e⟩/\E e=some aH/\r=none)\/∃ a b z n e,E t=some ⟨a,b,z,.array n e⟩/\E e=some aH/\r=some n:=by
 unfold PJ at h;split at h
 ·rename_i a b z e ay;split at h
  ·cases h;exact .inl ⟨_,_,_,_,ay,by assumption,rfl⟩
  ·cases h
 ·rename_i a b z n e ay;split at h
  ·cases h;exact .inr ⟨_,_,_,_,_,ay,by assumption,rfl⟩
  ·cases h
 ·cases h
def ake{x i v:ao}{u:Value}(h:G0 X.E t (some x) (some i)=some v)(ae:aT D x u)(hi:aT D i w){ρ:Operand->dn}{gg:Operand}(Qk:dR ρ qw=.val u)(hJ:dR ρ gg=.val w)
  (k:∀ x,fV D x v->V x):cF X (.index t qw gg) ρ C I M V O:=by
 unfold G0 at h;split at h
 ·rename_i l fx ay aa ab;cases aa;cases ab;obtain⟨j,an,h⟩:=ct h;obtain⟨fG,rfl⟩:=D6 an;have fo:PK l j=some v:=h;unfold PK at fo;obtain⟨b,ai,fe⟩:=ct fo;cases fe;rw[zG]at ai;rw[ae.str]at Qk;rw[hi.int]at hJ;have aR:=(hT.1 ai).1;simp only[cF,ay,Qk,hJ];refine⟨j,rfl,by simpa[ByteArray.size]using aR,k _ (.val ?_)⟩;simp only[aT];have:(⟨l.toArray⟩:ByteArray)[j]'(by simpa[ByteArray.size]using aR)=b:=by have:=(hT.1 ai).2;show l.toArray[j]'_=b;simpa using this
  rw[this];rfl
 ·rename_i n e cs fx ay aa ab;cases aa;cases ab;obtain⟨aH,he,h⟩:=ct h;obtain⟨j,an,h⟩:=ct h;obtain⟨fG,rfl⟩:=D6 an;obtain⟨us,fA,rfl⟩:=ae.agg;unfold Yj at h;obtain⟨ai,h⟩:=fw h;rw[b']at ai;obtain⟨ag,aW⟩:=YX h fA;rw[hi.int]at hJ;simp only[cF,ay,Qk,hJ,he];have df:Nat.beq (n*aH.size) us.toArray.size=true:=by have bC:=c6 ai.1;rw[mE,fA.len,<-bC];exact qN _
  rw[df];simp only[bl];exact⟨j,rfl,bS ai.2,k _ (.val aW)⟩
 ·cases h
def akf{x v:ao}{l:Nat}{h:Option Nat}{u:Value}(ap:PH x sz l h=some v)(ae:aT D x u):∃ a n c,u=.slice a n c/\l<=h.getD n/\h.getD n<=c/\(h=none->l<=n) /\
  aT D v (.slice (if c=l then a else a.map (·.add (l*sz))) (h.getD n-l) (c-l)):=by
 unfold PH at ap;split at ap
 ·cases ai:(Nat.beq l 0&&Nat.beq (h.getD 0) 0)with
  |false=>rw[ai]at ap;cases ap| true=>rw[ai]at ap;cases ap;rw[b']at ai;have aa:=c6 ai.1;have ab:=c6 ai.2;subst aa;refine⟨none,0,0,ae.Bz,by omega,by omega,λ_=>by omega,?_⟩;rw[ab];simp[aT]
 ·rename_i id off n c;obtain⟨a,aC,rfl⟩:=ae.sk;simp only at ap;cases ai:(Nat.ble l (h.getD n)&&Nat.ble (h.getD n) c)with
  |false=>rw[ai]at ap;cases ap
  |true=>
   rw[ai]at ap;simp only[bl]at ap;rw[b']at ai;have aa:=bS ai.1;have ab:=bS ai.2;refine⟨_,n,c,rfl,aa,ab,λe=>by subst e;exact aa,?_⟩;rw[Qb]at ap;by_cases e:c=l;·subst e;simp only[C8,bl]at ap;cases ap;simp only[pU,aT];exact⟨a,aC,by simp only[DM,pD]⟩
   ·simp only[e,decide_false,bh]at ap;cases ap;simp only[e,lG,aT,ka];refine⟨a,aC,?_⟩;rw[dL _ rfl];simp only[zy,DL,DM,qL]
 ·rename_i id off e n;obtain⟨a,aC,bs,rfl⟩:=ae.uM;simp only at ap;cases ai:(Nat.ble l (h.getD n)&&Nat.ble (h.getD n) n)with
  |false=>rw[ai]at ap;cases ap
  |true=>
   rw[ai]at ap;simp only[bl]at ap;rw[b']at ai;have aa:=bS ai.1;have ab:=bS ai.2;refine⟨_,n,a.c-e,rfl,aa,by omega,λe=>by subst e;exact aa,?_⟩;cases aA:(Nat.beq l 0||Nat.blt l n)with
   |true=>
    rw[aA]at ap;simp only[bl]at ap;cases ap;rw[kH]at aA;simp only[aT];refine⟨a,aC,by simp only[zy,DM];omega,?_⟩;have ag:a.c-e-l=a.c-(e+l):=by omega
    by_cases ar:l=0
    ·subst ar;simp only[vw,xG,ka,zy,DL,DM,nj];split
     ·rfl
     ·rw[dL _ rfl];simp
    ·have aW:l<n:=by
      rcases aA with aA | aA;·exact absurd (c6 aA) ar
      ·exact bS aA
     rw[cb (by omega)];simp only[ka];rw[dL _ rfl];simp only[zy,DL,DM,qL,ag]
   |false=>
    rw[aA]at ap;simp only[bh]at ap;cases ap;rw[oa]at aA;have aW:¬ l<n:=λaR=>by have:=Bg (show l.succ<=n from aR);rw[show Nat.blt l n=Nat.ble l.succ n from rfl,this]at aA;cases aA.2
    have bC:h.getD n-l=0:=by omega
    simp only[aT,bC];split;·exact⟨_,_,rfl⟩
    ·exact⟨_,_,rfl⟩
 ·cases ap
end
section
variable{X:c3}{G:GT}{pr:ly}{D:bH}{m:bm}{F:Fr}{al:bg ao}{C:dp}{I:aZ}{M:List aB}{V:dn->Prop}{O:Prop}
def akg(c:Bool)(a b:Value):Iu c (.val a) (.val b)=.val (bif c then a else b):=by cases a<;>cases b<;>cases c<;>rfl
def YZ{o:Option Operand}{xs:List Operand}(H:iJ D F al xs)(ae:∀ y,o=some y->y∈xs)(h:Bs (o.map (dm al))=some r) :
  (o.map (dR (dq F))=none/\r=none)\/∃ k n,o.map (dR (dq F))=some (.val (.int k (Int.ofNat n)))/\r=some n:=by
 cases o with
 |none=>simp[Bs]at h;exact .inl ⟨rfl,h.symm⟩
 |some y=>
  simp only[ka,Bs]at h;cases aj:dm al y with
  |none=>rw[aj]at h;cases h
  |some v=>
   rw[aj]at h;simp only at h;split at h;·rename_i n aq;cases h;obtain⟨k,rfl⟩:=D6 aq;obtain⟨u,hu,ak⟩:=H.bB (ae y rfl) aj;rw[ak.int]at hu;exact .inr ⟨k,n,by simp only[ka];exact congrArg some hu,rfl⟩
   ·cases h
def Ql(l:List UInt8)(lo hi:Nat):(⟨(PI l lo hi).toArray⟩:ByteArray)=(⟨l.toArray⟩:ByteArray).extract lo hi:=by apply tM;apply gO;unfold PI;rw[Ha];simp[Ik,List.extract_eq_take_drop]
def akh{v:ao}{n:Nat}{u:Value}(h:wi v=some n)(aj:aT D v u):∃ a c,u=.slice a n c:=by
 unfold wi at h;split at h
 ·cases h;exact⟨_,_,aj.Bz⟩
 ·cases h;obtain⟨a,c,rfl⟩:=aj.KU;exact⟨_,_,rfl⟩
 ·cases h;obtain⟨a,_,rfl⟩:=aj.sk;exact⟨_,_,rfl⟩
 ·cases h;obtain⟨a,_,_,rfl⟩:=aj.uM;exact⟨_,_,rfl⟩
 ·cases h;exact⟨_,_,aj.Qd⟩
 ·cases h
def aki(aN:c2 X.P X.E){b:Builtin}{ts:Array TypeId}{v:ao}(h:PN X.E b ts.toList (nR al args.toList)=some v)(H:iJ D F al args.toList)(k:∀ x,fV D x v->V x) :
  cF X (.call { callee:=.builtin b,args:=args,argTypes:=ts }) (dq F) C I M V O:=by
 unfold PN at h;split at h
 ·
  unfold Yo at h;split at h
  ·rename_i t w ay av;obtain⟨us,az,a3⟩:=H.l8 (λ_ h=>h) av;obtain⟨u,xs,a6,bI,rfl⟩:=a3.j6;have:=bI.m9;subst this;have ei:jA (dq F) args.toList=some [u]:=az;simp only[cF,ay,ei];split at h
   ·rename_i a b z e rz n8;unfold KF at h;obtain⟨n,aq,h⟩:=ct h;have fe:some (ao.i .i64 (.ofNat n))=some v:=h;cases fe;obtain⟨bY,c,rfl⟩:=akh aq a6;simp only[n8];exact k _ (.val (by simp only[aT];rfl))
   ·rename_i a b z l n8;cases h;rw[a6.str];simp only[n8];refine k _ (.val ?_);simp only[aT];simp[ByteArray.size]
   ·rename_i a b z n e rz n8;cases h;cases u<;>(simp only[n8];exact k _ (.val (by simp only[aT];rfl)))
   ·cases h
  ·cases h
 ·unfold Yp at h;split at h
  ·rename_i eg a cA b av;obtain⟨us,az,a3⟩:=H.l8 (λ_ h=>h) av;obtain⟨u,xs,a6,bI,rfl⟩:=a3.j6;obtain⟨w,kz,eQ,j0,rfl⟩:=bI.j6;have:=j0.m9;subst this;have ei:jA (dq F) args.toList=some [u,w]:=az;rw[a6.int,eQ.int]at ei;simp only[cF,ei];cases h;refine k _ (.val ?_);simp only[aT];rw[js,KR];by_cases jJ:a<=b
   ·simp[jJ];omega
   ·simp[jJ];omega
  ·cases h
 ·unfold Yq at h;split at h
  ·rename_i eg a cA b av;obtain⟨us,az,a3⟩:=H.l8 (λ_ h=>h) av;obtain⟨u,xs,a6,bI,rfl⟩:=a3.j6;obtain⟨w,kz,eQ,j0,rfl⟩:=bI.j6;have:=j0.m9;subst this;have ei:jA (dq F) args.toList=some [u,w]:=az;rw[a6.int,eQ.int]at ei;simp only[cF,ei];cases h;refine k _ (.val ?_);simp only[aT];rw[js,KR];by_cases jJ:a<=b
   ·simp[jJ];omega
   ·simp[jJ];omega
  ·cases h
 ·unfold Yr at h;split at h
  ·rename_i t id off n c ay av;split at h
   ·rename_i a b z e n8;cases h;obtain⟨us,az,a3⟩:=H.l8 (λ_ h=>h) av;obtain⟨u,xs,a6,bI,rfl⟩:=a3.j6;have:=bI.m9;subst this;obtain⟨bY,aC,rfl⟩:=a6.sk;have ei:jA (dq F) args.toList=some [_]:=az;simp only[cF,ay,ei,n8];exact k _ (.val (by simp only[aT];rfl))
   ·cases h
  ·cases h
 ·unfold Ys at h;split at h
  ·rename_i av;cases h;obtain⟨us,az,a3⟩:=H.l8 (λ_ h=>h) av;obtain⟨u,xs,a6,bI,rfl⟩:=a3.j6;have:=bI.m9;subst this;rw[a6.Bz]at az;have ei:jA (dq F) args.toList=some [_]:=az;simp only[cF,ei];exact k _ (.val (by simp only[aT]))
  ·rename_i id off n c av;obtain⟨ar,h⟩:=zD h;cases h;obtain⟨us,az,a3⟩:=H.l8 (λ_ h=>h) av;obtain⟨u,xs,a6,bI,rfl⟩:=a3.j6;have:=bI.m9;subst this;obtain⟨bY,aC,rfl⟩:=a6.sk;have ei:jA (dq F) args.toList=some [_]:=az;simp only[cF,ei];refine⟨λe=>?_,k _ (.val ?_)⟩
   ·have:c=0:=by omega
    subst this;cases ar
   ·simp only[aT];exact⟨bY,aC,rfl⟩
  ·rename_i id off e n av;obtain⟨ar,h⟩:=zD h;cases h;obtain⟨us,az,a3⟩:=H.l8 (λ_ h=>h) av;obtain⟨u,xs,a6,bI,rfl⟩:=a3.j6;have:=bI.m9;subst this;obtain⟨bY,aC,bs,rfl⟩:=a6.uM;have ei:jA (dq F) args.toList=some [_]:=az;simp only[cF,ei];refine⟨λbq=>?_,k _ (.val ?_)⟩
   ·have:n=0:=by omega
    subst this;cases ar
   ·simp only[aT];exact⟨bY,aC,rfl⟩
  ·cases h
 ·cases h
def akj(aN:c2 X.P X.E){op:Op}{v:ao}(h:PO X.P X.E G m.t op al=some v)(H:iJ D F al op.operands.toList)(hm:dc (dP X G pr) D m I M)(k:∀ x,fV D x v->V x):cF X op (dq F) C I M V O:=by
 unfold PO at h;split at h
 ·
  exact k _ (H _ (by simp[Op.operands]) _ h)
 ·exact k _ (H _ (by simp[Op.operands]) _ h)
 ·
  rename_i c a b;unfold Yb at h;split at h
  ·rename_i q u w aa ab ag;cases h;have aA:=H c (by simp[Op.operands]) _ aa;have aC:=H a (by simp[Op.operands]) _ ab;have ai:=H b (by simp[Op.operands]) _ ag;simp only[cF];rcases aA with⟨asX,D7,aA⟩ | ⟨fa,bq,D7⟩
   ·rw[aA.bool]at D7;simp only[D7];obtain⟨Qm,to,akk⟩:=aC.dR;obtain⟨GI,GK,cK⟩:=ai.dR;have akl:dR (dq F) a=.val Qm:=to;have akm:dR (dq F) b=.val GI:=GK;rw[akl,akm];refine k _ (.inl ⟨bif q then Qm else GI,?_,?_⟩)
    ·exact akg q Qm GI
    ·cases q
     ·exact cK
     ·exact akk
   ·cases bq;simp only[D7];cases q
    ·exact k _ ai
    ·exact k _ aC
  ·cases h
 ·
  rename_i asY t x;unfold Yc at h;split at h
  ·rename_i b aa;cases h;have ae:=H x (by simp[Op.operands]) _ aa;simp only[cF];rcases ae with⟨u,e,hu⟩ | ⟨q,az,e⟩
   ·rw[hu.bool]at e;simp only[e];exact k _ (.val (by simp only[aT];rw[Qj]))
   ·cases az;simp only[e];exact k _ (.inr ⟨!b,by rw[Qj],rfl⟩)
  ·rename_i fG n aa;cases h;have ae:=H x (by simp[Op.operands]) _ aa;obtain⟨u,e,hu⟩:=ae.wo (by simp);rw[hu.int]at e;simp only[cF,e];exact⟨_,rfl,k _ (.val (by simp only[aT];rw[zE]))⟩
  ·cases h
 ·
  rename_i asZ t x y cZ;unfold Yd at h;obtain⟨a,aa,h⟩:=ct h;obtain⟨b,ab,h⟩:=ct h;obtain⟨u,az,a3⟩:=H.bB (x:=x) (by simp[Op.operands]) aa;obtain⟨w,aE,a6⟩:=H.bB (x:=y) (by simp[Op.operands]) ab;have ei:dR (dq F) x=.val u:=az;have eC:dR (dq F) y=.val w:=aE;simp only[cF,ei,eC];exact aka aN h a3 a6 λr ak=>k _ (.val ak)
 ·
  rename_i t x;unfold Ye at h;obtain⟨i,hi,h⟩:=ct h;obtain⟨a,aa,h⟩:=ct h;have ae:=H x (by simp[Op.operands]) _ aa;have yc:∀ q,a≠.b q:=λq e=>by subst e;cases h
  obtain⟨u,az,a3⟩:=ae.wo yc;obtain⟨ad,l,vs,rfl,bk,av,aD⟩:=wq hm a3 h;simp only[cF,hi,az];exact⟨vs,bk,k _ (.val (KX aD av))⟩
 ·
  rename_i x;unfold Yf at h;split at h;·rename_i id off aa;cases h;obtain⟨u,az,a3⟩:=(H x (by simp[Op.operands]) _ aa).wo (by simp);obtain⟨a,aC,rfl⟩:=a3.ptr;simp only[cF,az];exact k _ (.val a3)
  ·rename_i id off aa;cases h;obtain⟨u,az,a3⟩:=(H x (by simp[Op.operands]) _ aa).wo (by simp);have:=a3.qz;subst this;simp only[cF,az];exact k _ (.val a3)
  ·cases h
 ·
  rename_i t x i;unfold Yg at h;obtain⟨r,ak,h⟩:=ct h;obtain⟨a,aa,h⟩:=ct h;obtain⟨off,g2⟩:=r;obtain⟨bf,h⟩:=zD h;obtain⟨sa,sm,sz,cE,l9,ay,aJ,tj⟩:=YY ak;have ae:=H x (by simp[Op.operands]) _ aa;have yc:∀ q,a≠.b q:=λq e=>by subst e;cases h
  obtain⟨u,az,a3⟩:=ae.wo yc;obtain⟨ad,rfl,ap,aj⟩:=YW h a3;have g5:Nat.beq g2.size 0=false:=bf;simp only[cF,ay,aJ,tj,az,g5,bh];exact k _ (.val aj)
 ·
  rename_i t x i;unfold Yh at h;split at h;·rename_i off g2 cs ar aa;obtain⟨sa,sm,sz,cE,l9,ay,aJ,tj⟩:=YY ar;obtain⟨u,az,a3⟩:=H.bB (x:=x) (by simp[Op.operands]) aa;obtain⟨us,fA,rfl⟩:=a3.agg;obtain⟨ab,ag⟩:=YX h fA;have ei:dR (dq F) x=.val (.agg us.toArray):=az;simp only[cF,ay,ei,aJ,tj];rw[show Nat.ble (off+g2.size) us.toArray.size=true from Bg (by simpa using ab)];exact k _ (.val ag)
  ·cases h
 ·
  rename_i t x i;unfold Yi at h;obtain⟨r,ak,h⟩:=ct h;obtain⟨a,aa,h⟩:=ct h;obtain⟨b,ab,h⟩:=ct h;obtain⟨j,an,h⟩:=ct h;obtain⟨fG,rfl⟩:=D6 an;obtain⟨u,aE,a6⟩:=H.bB (x:=i) (by simp[Op.operands]) ab;rw[a6.int]at aE;have eC:dR (dq F) i=.val (.int fG (.ofNat j)):=aE;obtain⟨O',aH⟩:=r;rcases akd ak with⟨sa,sm,sz,e,ay,he,rfl⟩ | ⟨sa,sm,sz,n,e,ay,he,rfl⟩;·have aX:KB a j aH.size=some v:=h;obtain⟨w,az,a3⟩:=H.bB (x:=x) (by simp[Op.operands]) aa;obtain⟨ad,n,c,rfl,aR,aj⟩:=akc aX a3;have ei:dR (dq F) x=.val (.slice (some ad) n c):=az;simp only[cF,ay,eC,he,ei];exact⟨ad,j,rfl,rfl,aR,k _ (.val aj)⟩
  ·have aX:b5 (Nat.blt j n) (GZ a (Nat.mul j aH.size)) none=some v:=h;obtain⟨ai,aX⟩:=fw aX;have ae:=H x (by simp[Op.operands]) _ aa;have yc:∀ q,a≠.b q:=λq e=>by subst e;cases aX
   obtain⟨w,az,a3⟩:=ae.wo yc;obtain⟨ad,rfl,ap,aj⟩:=YW aX a3;simp only[cF,ay,eC,he,az];exact⟨j,rfl,bS ai,k _ (.val aj)⟩
 ·
  rename_i t x i;cases aa:dm al x with
  |none=>rw[aa]at h;unfold G0 at h;split at h<;>first | cases h | (rename_i e _;cases e)
  |some a=>
   cases ab:dm al i with
   |none=>rw[ab]at h;unfold G0 at h;split at h<;>first | cases h | (rename_i e;cases e)
   |some b=>rw[aa,ab]at h;obtain⟨u,az,a3⟩:=H.bB (x:=x) (by simp[Op.operands]) aa;obtain⟨w,aE,a6⟩:=H.bB (x:=i) (by simp[Op.operands]) ab;exact ake h a3 a6 az aE k
 ·
  rename_i t parts;unfold Yk at h;split at h
  ·rename_i i vs ay aD;obtain⟨z,bf,h⟩:=ct h;have g5:=bG.D4 (D:=D) bf;obtain⟨us,az,a3⟩:=H.parts (l:=parts.toList) (by intro y aF;simpa[Op.operands]using aF) aD;have ei:sI (dq F) parts.toList=some us:=az
   try simp only at h
   split at h;·rename_i cE np;obtain⟨AL,h⟩:=fw h;unfold G1 at h;obtain⟨cs,ag,aW⟩:=ct h;have fe:some (ao.a cs)=some v:=aW;cases fe;obtain⟨a8,bC,bP⟩:=KY ag g5 a3;simp only[cF,ay,ei,np,AL,bl,bC];exact k _ (.val (.KV bP))
   ·rename_i n e np;obtain⟨aH,he,h⟩:=ct h;have aX:G1 (zz (λj=>some (j*aH.size,aH.size)) z vs)=some v:=h;unfold G1 at aX;obtain⟨cs,ag,aW⟩:=ct aX;have fe:some (ao.a cs)=some v:=aW;cases fe;obtain⟨a8,bC,bP⟩:=KY ag g5 a3;simp only[cF,ay,ei,np,he,bC];exact k _ (.val (.KV bP))
   ·cases h
  ·cases h
 ·
  rename_i f first captured
  unfold Yl at h;split at h
  ·rename_i g cE cs aa ab;cases h;obtain⟨us,az,a3⟩:=H.l8 (l:=first.toList) (by intro y aF;simp[Op.operands];exact .inl (by simpa using aF)) aa;obtain⟨ws,aE,a6⟩:=H.l8 (l:=captured.toList) (by intro y aF;simp[Op.operands];exact .inr (by simpa using aF)) ab;have ei:jA (dq F) first.toList=some us:=az
   have eC:jA (dq F) captured.toList=some ws:=aE;simp only[cF,ei,eC];exact k _ (.val (by simp only[aT];exact⟨us,ws,a3,a6,rfl⟩))
  ·cases h
 ·
  rename_i t x lo hi;cases aa:dm al x with
  |none=>rw[aa]at h;unfold G2 at h;split at h<;>first | cases h | (rename_i e _ _;cases e)
  |some a=>
   rw[aa]at h;cases ab:Bs (lo.map (dm al))with
   |none=>rw[ab]at h;unfold G2 at h;split at h<;>first | cases h | (rename_i e _;cases e)
   |some l=>
    rw[ab]at h;cases ag:Bs (hi.map (dm al))with
    |none=>rw[ag]at h;unfold G2 at h;split at h<;>first | cases h | (rename_i e;cases e)
    |some br=>
     rw[ag]at h;obtain⟨u,az,a3⟩:=H.bB (x:=x) (by simp[Op.operands]) aa;have ei:dR (dq F) x=.val u:=az;have e9:=YZ H (λy aF=>by subst aF;simp[Op.operands]) ab;have fY:=YZ H (λy aF=>by subst aF;simp[Op.operands]) ag;unfold G2 at h;split at h
     ·rename_i sa sm sz e kc D8 c7 ay bz cT fT;cases bz;cases cT;cases fT;obtain⟨aH,he,h⟩:=ct h;have aX:PL aH a l br=some v:=h;unfold PL at aX;split at aX
      ·have el:lo.map (dR (dq F))=none:=by
        rcases e9 with⟨el,_⟩ | ⟨_,_,_,el⟩;·exact el
        ·cases el
       have oK:hi.map (dR (dq F))=none:=by
        rcases fY with⟨oK,_⟩ | ⟨_,_,_,oK⟩;·exact oK
        ·cases oK
       have g6:∃ q n c,u=.slice q n c/\aT D v u:=by
        split at aX;·cases aX;exact⟨_,_,_,a3.Bz,a3⟩
        ·cases aX;obtain⟨q,_,rfl⟩:=a3.sk;exact⟨_,_,_,rfl,a3⟩
        ·cases aX;obtain⟨q,_,_,rfl⟩:=a3.uM;exact⟨_,_,_,rfl,a3⟩
        ·cases aX;obtain⟨q,c,rfl⟩:=a3.KU;exact⟨_,_,_,rfl,a3⟩
        ·cases aX
       obtain⟨q,n,c,rfl,aj⟩:=g6;simp only[cF,ay,ei,he,el,oK];exact k _ (.val aj)
      ·obtain⟨q,n,c,rfl,fB,fC,r6,aj⟩:=akf aX a3;simp only[cF,ay,ei,he];rcases e9 with⟨el,rfl⟩ | ⟨iR,Hd,el,rfl⟩<;>rcases fY with⟨oK,rfl⟩ | ⟨akn,He,oK,rfl⟩<;>simp only[el,oK]
       ·rename_i bK;exact(bK rfl rfl).elim
       ·simp only[tL,jS]at fB fC aj;refine⟨0,He,rfl,rfl,bw _,fC,k _ (.val ?_)⟩;simp only[vw,xG]at aj;have cG:(if c=0 then q else q.map λx=>x.add 0)=q:=by
         split;·rfl
         ·cases q with
          |none=>rfl| some q=>simp[Addr.add]
        rw[cG]at aj;exact aj
       ·simp only[tL,jS]at fB fC aj;exact⟨Hd,n,rfl,rfl,fB,cj _,k _ (.val aj)⟩
       ·simp only[tL,jS]at fB fC aj;exact⟨Hd,He,rfl,rfl,fB,fC,k _ (.val aj)⟩
     ·rename_i sa sm sz str D8 c7 ay bz cT fT;cases bz;cases cT;cases fT;rw[a3.str]at ei;have aX:PM str l br=some v:=h;unfold PM at aX;split at aX
      ·have el:lo.map (dR (dq F))=none:=by
        rcases e9 with⟨el,_⟩ | ⟨_,_,_,el⟩;·exact el
        ·cases el
       have oK:hi.map (dR (dq F))=none:=by
        rcases fY with⟨oK,_⟩ | ⟨_,_,_,oK⟩;·exact oK
        ·cases oK
       cases aX;simp only[cF,ay,ei,el,oK];exact k _ (.val (by simp only[aT]))
      ·obtain⟨ai,aX⟩:=fw aX;cases aX;rw[b']at ai;have b1:=bS ai.1;have cd:=bS ai.2;have df:(⟨str.toArray⟩:ByteArray).size=str.length:=by simp[ByteArray.size]
       simp only[cF,ay,ei];rcases e9 with⟨el,rfl⟩ | ⟨iR,Hd,el,rfl⟩<;>rcases fY with⟨oK,rfl⟩ | ⟨akn,He,oK,rfl⟩<;>simp only[el,oK]
       ·rename_i bK;exact(bK rfl rfl).elim
       ·simp only[tL,jS]at b1 cd;exact⟨0,He,rfl,rfl,bw _,by rw[df];exact cd,k _ (.val (by simp only[aT,tL,jS,Ql]))⟩
       ·simp only[tL,jS]at b1 cd;exact⟨Hd,str.length,rfl,by rw[df];rfl,b1,by rw[df];exact cj _,k _ (.val (by simp only[aT,tL,jS,Ql,df]))⟩
       ·simp only[tL,jS]at b1 cd;exact⟨Hd,He,rfl,rfl,b1,by rw[df];exact cd,k _ (.val (by simp only[aT,tL,jS,Ql]))⟩
     ·cases h
 ·
  rename_i x i;unfold Ym at h;split at h;·rename_i vs aa;obtain⟨u,az,a3⟩:=H.bB (x:=x) (by simp[Op.operands]) aa;obtain⟨us,fA,rfl⟩:=a3.Qe;rw[zG]at h;obtain⟨w,hw,aj⟩:=fA.get h;have ei:dR (dq F) x=.val (.tuple us.toArray):=az;simp only[cF,ei,hw];exact k _ (.val aj)
  ·cases h
 ·
  rename_i s d x;unfold Yn at h;split at h;·rename_i fG eg n ap ah aa;cases h;obtain⟨u,az,a3⟩:=H.bB (x:=x) (by simp[Op.operands]) aa;rw[a3.int]at az;have ei:dR (dq F) x=.val (.int eg n):=az;simp only[cF,ap,ah,ei];exact⟨_,rfl,k _ (.val (by simp only[aT];rw[zE]))⟩
  ·cases h
 ·
  rename_i b args ts;exact aki aN h (by simpa[Op.operands,Call.operands]using H) k
 ·cases h
end
def bH.set(D:bH)(id:Nat)(a:Loc):bH:=λi=>if i=id then some a else D i
def bH.pN(D:bH)(id:Nat)(a:Loc):(D.set id a) id=some a:=by simp[bH.set]
def bH.le_refl(D:bH):D.le D:=λ_ _ h=>h
def bH.le_trans{D bx Hf:bH}(h:D.le bx)(k:bx.le Hf):D.le Hf:=λi a e=>k _ _ (h _ _ e)
def bH.zH{D:bH}{id:Nat}(a:Loc)(h:D id=none):D.le (D.set id a):=λi b ai=>by
 unfold bH.set;split
 ·rename_i e;subst e;rw[h]at ai;cases ai
 ·exact ai
def bH.ext(D bx:bH)(n:Nat):Prop:=∀ i,i<n->bx i=D i
def bH.oL{D:bH}{n:Nat}:D.ext D n:=λ_ _=>rfl
def bH.D9{D:bH}{n:Nat}{a:Loc}:D.ext (D.set n a) n:=λi hi=>by unfold bH.set;rw[cb (by omega)]
section
variable{Y:gz}{D bx:bH}{m:bm}{I I':aZ}{M M':List aB}{R:Type}
def Hc.mono{G:GT}(h:Hc G I)(bA:∀ b o,I b=some o->I' b=some o):Hc G I':=λg cs au=>by obtain⟨arr,T,f,aa,ab⟩:=h g cs au;exact⟨arr,T,f,bA _ _ aa,ab⟩
def dc.le(h:dc Y D m I M)(di:D.ext bx m.n):D.le bx:=λi a aC=>by rw[di i (h.jt _ _ aC)];exact aC
def dc.step(h:dc Y D m I M){cZ:bg e0}{eO:Nat}{cG:e0}{a:Loc}(ay:∀ id e,cZ.get id=some e->(id=j/\cG=e)\/(id≠j/\m.t.get id=some e))(an:bx j=some a)(bs:D.le bx)(di:∀ i,i≠j->bx i=D i)(ako:∀ id a,bx id=some a->id<eO)(bA:∀ b o,I b=some o->I' b=some o)(mI:∀ id e bY,id≠j->m.t.get id=some e->D id=some bY->∀ x∈M,x.num=bY.b->x∈M')
  (he:k9 bx Y.E M' a cG) (Jx:∀ id e bY,id≠j->m.t.get id=some e->D id=some bY->bY.b≠a.b):dc Y bx ⟨cZ,eO⟩ I' M' where
 ih id e cu au aa:=by
  rcases ay id e au with⟨az,aE⟩ | ⟨bK,au⟩;·subst az;subst aE;rw[an]at aa;cases aa;exact he
  ·rw[di id bK]at aa;exact(h.ih id e cu au aa).mono bs λx ae aq=>mI id e cu bK au aa x ae aq
 inj id ij e bq cu dG au lI aa ab ai:=by
  rcases ay id e au with⟨az,aE⟩ | ⟨bK,au⟩
  ·rcases ay ij bq lI with⟨bz,cT⟩ | ⟨Ai,lI⟩
   ·rw[az,bz]
   ·rw[di ij Ai]at ab;subst az;rw[an]at aa;cases aa;exact(Jx ij bq dG Ai lI ab ai.symm).elim
  ·rw[di id bK]at aa;rcases ay ij bq lI with⟨bz,cT⟩ | ⟨Ai,lI⟩
   ·subst bz;rw[an]at ab;cases ab;exact(Jx id e cu bK au aa ai).elim
   ·rw[di ij Ai]at ab;exact h.inj id ij e bq cu dG au lI aa ab ai
 jt:=ako
 qz:=h.qz.mono bA
def dc.fresh(h:dc Y D m I M):D m.n=none:=by
 cases di:D m.n with
 |none=>rfl| some a=>exact absurd (h.jt _ _ di) (Nat.lt_irrefl _)
def dc.aP(h:dc Y D m I M){id:Nat}{e:e0}{a:Loc}(au:m.t.get id=some e)(aC:D id=some a):∃ x∈M,x.num=a.b:=by
 cases h.ih id e a au aC with
 |cells arr ar aa=>exact⟨_,aa,rfl⟩| map l c aa=>exact⟨_,aa,rfl⟩| loop L aa=>exact⟨_,aa,rfl⟩| done L aa=>exact⟨_,aa,rfl⟩
def dc.new(h:dc Y D m I M){cZ:bg e0}{cG:e0}{a:Loc}{o:Obj}(ay:∀ id e,cZ.get id=some e->(id=m.n/\some cG=some e)\/(id≠m.n/\m.t.get id=some e))(aJ:∀ x∈M,x.num≠a.b)
  (he:k9 (D.set m.n a) Y.E (⟨a.b,o⟩::M) a cG):dc Y (D.set m.n a) ⟨cZ,m.n+1⟩ I (⟨a.b,o⟩::M):=
 h.step (λid e au=>(ay id e au).imp (λh=>⟨h.1,oJ h.2⟩) λh=>h) (D.pN _ _) (bH.zH a h.fresh) (λi hi=>by unfold bH.set;rw[cb hi])
  (λid b ai=>by
   unfold bH.set at ai;split at ai;·omega
   ·have:=h.jt _ _ ai;omega)
  (λ_ _ h=>h) (λ_ _ _ _ _ _ x ae _=>nQ _ ae) he
  (λid e bY _ au wu ai=>by
   obtain⟨x,ae,aq⟩:=h.aP au wu;exact aJ x ae (aq.trans ai))
def k9.new{l:List ao}{aK:List Value}{c:Nat}{b:Nat}{cs:bg ao}(lJ:∀ j x,cs.get j=some x->(0<=j/\l[j-0]?=some x)\/((j<0\/0+l.length<=j)/\(bg.nil:bg ao).get j=some x))(av:bG D l vs)
  (af:∀ i,Y.E T=some i->(vs++aK).length=c*i.size) (aA:c<=maxLen):k9 D Y.E (⟨b,.cells (vs++aK).toArray T (0,0)⟩::M) ⟨b,0,c⟩ (.cells cs T l.length):=by
 refine .cells (vs++aK).toArray rfl (by simp) (by simp[av.len]) (λi v hi au=>?_) (λi hi=>by simpa using af i hi) aA;rcases lJ i v au with⟨_,aa⟩ | ⟨_,aa⟩
 ·obtain⟨x,ab,ag⟩:=av.get (i:=i) (by simpa using aa);have aR:=(hT.1 ab).1;exact⟨x,by simp only[c0,Ab];rw[tK aR];exact ab,ag⟩
 ·cases aa
def Hg{e:e0}{K:Nat->bm->Option R}{r:R}(h:Bt m e K=some r):∃ cZ,(∀ id bq,cZ.get id=some bq->(id=m.n/\some e=some bq)\/(id≠m.n/\m.t.get id=some bq))/\K m.n ⟨cZ,m.n+1⟩=some r:=by unfold Bt at h;rw[Qa]at h;obtain⟨cZ,aa,ab⟩:=bg.oI (some e) m.t m.n;rw[aa]at h;exact⟨cZ,ab,h⟩
def Qn{l:List ao}{K:Nat->bm->Option R}{r:R}(h:uK m l T K=some r):∃ m',K m.n m'=some r/\m'.n=m.n+1 /\
  ∀ {D:bH} {I:aZ} {M:List aB} {vs:List Value} (aK:List Value) {b c:Nat},dc Y D m I M->(∀ x∈M,x.num≠b)->bG D l vs->(∀ i,Y.E T=some i->(vs++aK).length=c*i.size)->c<=maxLen ->
   dc Y (D.set m.n ⟨b,0,c⟩) m' I (⟨b,.cells (vs++aK).toArray T (0,0)⟩::M):=by
 unfold uK at h;obtain⟨cs,aa,ab⟩:=bg.ya l (.nil:bg ao) 0;rw[aa]at h;obtain⟨cZ,ag,aW⟩:=Hg h;refine⟨_,aW,rfl,fun {D I M vs} aK {b c} hm aJ av af aA=>?_⟩;exact hm.new (a:=⟨b,0,c⟩) ag aJ (.new ab (av.mono (bH.zH _ hm.fresh)) af aA)
end
def akp(z:List Value)(n:Nat):rowOf z (z.length+n)=rowOf z z.length++rowOf z n:=by unfold rowOf;rw[List.range_add,e7,jl];congr 1;apply rT;intro i _;simp[Nat.add_mod_left]
def akq(z:List Value):rowOf z z.length=z:=by
 unfold rowOf;apply xi
 ·simp
 ·intro i aa ab;simp only[lq,r',Kf ab];simp[ab]
def Qo(z:List Value):∀ n,rowOf z (n*z.length)=(List.replicate n z).flatten
 |0=>by simp[rowOf]
 |n+1=>by rw[Nat.succ_mul,Cg,akp,akq,Qo z n,y1,Nz]
def Y0(place:Nat->Option (Nat×Nat)):∀ (vs:List (Nat×Value)) (cs r:List Value),sH place cs vs=some r->r.length=cs.length
 |[],cs,r,h=>by simp only[sH]at h;cases h;rfl
 |(i,v)::vs,cs,r,h=>by
  simp only[sH]at h;split at h;·cases h
  ·rename_i off size aD;cases ai:(Nat.beq v.cells.size size&&Nat.ble (off+size) cs.length)with
   |false=>rw[ai]at h;cases h| true=>rw[ai]at h;simp only[bl]at h;rw[Y0 place vs _ _ h];rw[b']at ai;have aa:=c6 ai.1;have ab:=bS ai.2;simp[bo];omega
def zI(dst:Option Nat)(u:Value)(F cH:Fr):Prop:=(∀ d,dst=some d->cH d=.val u)/\∀ (D:bH) t v,dst≠some t->fV D (F t) v->fV D (cH t) v
def zI.put(dst:Option Nat)(u:Value)(F:Fr):zI dst u F (put dst (.val u) F):=by
 constructor
 ·rintro d rfl;simp[Go.V.put,fz]
 ·intro D t v bK h;cases dst with
  |none=>exact h| some d=>have:t≠d:=λe=>bK (by rw[e]);simp only[Go.V.put,fz,g3 this,bh];exact h
def zI.pV(d:Nat)(u:Value)(F:Fr):zI (some d) u F (fz (pV F d) d (.val u)):=by
 constructor
 ·rintro _⟨⟩;simp[fz]
 ·intro D t v bK h;have:t≠d:=λe=>bK (by rw[e]);simp only[fz,g3 this,bh];unfold Go.V.pV;rcases h with⟨akr,e,h⟩ | ⟨q,e,h⟩
  ·rw[e];exact .inl ⟨akr,rfl,h⟩
  ·rw[h];exact .inr ⟨q,e,rfl⟩
section
variable{X:c3}{G:GT}{pr:ly}{D:bH}{m:bm}{F:Fr}{al:bg ao}{C:dp}{I:aZ}{M:List aB}{K:fX}{o:Oper}
def Y1(aN:c2 X.P X.E)(jU:∀ d,d<X.n->X.gC.contains d=true)(ah:∀ d,o.dst=some d->d<X.n){l:List ao}{c:Nat}{mk:Nat->ao}(h:Bv X.E o al=some (l,T,c,mk))(Hh:o.dst.isSome=true)(H:iJ D F al o.op.operands.toList)
  (k:∀ b vs u cH C',I b=none->(∀ x∈M,x.num≠b)->bG D l vs->(∀ i,X.E T=some i->vs.length=c*i.size)->c<=maxLen->(∀ (bx:bH) id,bx id=some ⟨b,0,c⟩->aT bx (mk id) u)->zI o.dst u F cH ->
   K cH C' I (⟨b,.cells vs.toArray T (0,0)⟩::M)):gQ X o F C I M K:=by
 obtain⟨dst,op,ty,pos,after,guard⟩:=o;cases dst with
 |none=>cases Hh
 |some d=>
  have qW:X.gC.contains d=true:=jU d (ah d rfl);have Y2:∀ (b c:Nat) (bx:bH) id,bx id=some ⟨b,0,c⟩->aT bx (.p id 0) (.pointer (some ⟨b,0,none⟩)):=λb c bx id lA=>by simp only[aT];exact⟨_,lA,rfl⟩
  unfold Bv at h;simp only at h H;split at h
  ·rename_i t x;unfold Yv at h;obtain⟨i,hi,h⟩:=ct h;obtain⟨v,aj,h⟩:=ct h;obtain⟨ai,h⟩:=fw h;cases h;obtain⟨u,az,a3⟩:=H.bB (x:=x) (by simp[Op.operands]) aj;have aA:=a3.cells;simp only[gQ,az,qW,bl];refine⟨λb aa ab=>?_⟩;have:=k b u.cells.toList (.pointer (some ⟨b,0,none⟩)) _ (iO C d none) aa ab aA (λfx c7=>?_) (by decide) (Y2 b 1) (.pV d _ F)
   ·simpa using this
   ·rw[hi]at c7;cases c7;rw[aA.len,p6];exact c6 ai
  ·rename_i t;unfold Yw at h;obtain⟨i,hi,h⟩:=ct h;obtain⟨z,bf,h⟩:=ct h;cases h;simp only[gQ,hi,qW,bl];refine⟨λb aa ab=>?_⟩;exact k b i.zero (.pointer (some ⟨b,0,none⟩)) _ (iO C d none) aa ab (.D4 bf) (λfx c7=>by rw[hi]at c7;cases c7;rw[(aN _ _ hi).len,p6]) (by decide) (Y2 b 1) (.pV d _ F)
  ·rename_i t len parts;unfold Yx at h;split at h
   ·rename_i sa sm sz e vs ay aD;obtain⟨aH,he,h⟩:=ct h;obtain⟨z,bf,h⟩:=ct h;obtain⟨us,az,a3⟩:=H.parts (l:=parts.toList) (by intro y aF;simpa[Op.operands]using aF) aD;simp only[gQ,ay,az,he];have Jf:=(aN _ _ he).len;cases ai:(Nat.ble (len*aH.size) 16777216&&Nat.blt 0 (len*aH.size))with
    |true=>
     have iQ:(Nat.ble (Nat.mul len aH.size) 16777216&&Nat.blt 0 (Nat.mul len aH.size))=true:=ai;rw[js,iQ]at h;simp only[bl]at h |-;obtain⟨cs,ag,aW⟩:=ct h;have fe:some (cs,e,len,λid=>ao.sl id 0 len len)=some (l,T,c,mk):=aW;cases fe;have r8:bG D (Bu c z) (rowOf aH.zero (c*aH.size)):=by rw[<-Jf,Qo];exact(bG.D4 bf).qd c
     obtain⟨a8,bC,bP⟩:=KY ag r8 a3;rw[bC];refine⟨λb aa ab=>?_⟩;have bQ:a8.length=c*aH.size:=by rw[Y0 _ _ _ _ bC];simp[rowOf]
     rw[b']at ai;have nx:=bS ai.1;have gq:0<c*aH.size:=bS ai.2;exact k b a8 (.slice (some ⟨b,0,none⟩) c c) _ C aa ab bP (λfx c7=>by rw[he]at c7;cases c7;exact bQ)
      (by
       have eo:0<aH.size:=Nat.pos_of_mul_pos_left gq;have:c<=c*aH.size:=Nat.le_mul_of_pos_right _ eo;simp only[maxLen];omega)
      (λbx id lA=>by simp only[aT];exact⟨_,lA,rfl⟩) (.put _ _ F)
    |false=>
     have iQ:(Nat.ble (Nat.mul len aH.size) 16777216&&Nat.blt 0 (Nat.mul len aH.size))=false:=ai;rw[js,iQ]at h;simp only[bh]at h |-;obtain⟨aA,h⟩:=fw h;cases h;rw[b']at aA;have ag:=c6 aA.1;subst ag;have aW:vs=[]:=by simpa using aA.2
     subst aW;cases a3;simp only;refine⟨λb aa ab=>?_⟩;exact k b [] (.slice (some ⟨b,0,none⟩) 0 0) _ C aa ab .nil (λfx c7=>by simp) (by decide) (λbx id lA=>by simp only[aT];exact⟨_,lA,rfl⟩) (.put _ _ F)
   ·cases h
  ·rename_i t cR c';unfold Yy at h;split at h
   ·rename_i sa sm sz e ID as0 ay aa ab;obtain⟨aH,he,h⟩:=ct h;obtain⟨n,aq,h⟩:=ct h;obtain⟨q,aM,h⟩:=ct h;obtain⟨z,bf,h⟩:=ct h;obtain⟨ai,h⟩:=fw h;cases h;obtain⟨eg,rfl⟩:=D6 aq;obtain⟨cA,rfl⟩:=D6 aM;obtain⟨tz,az,a3⟩:=H.bB (x:=cR) (by simp[Op.operands]) aa;obtain⟨oM,aE,a6⟩:=H.bB (x:=c') (by simp[Op.operands]) ab;rw[a3.int]at az;rw[a6.int]at aE;simp only[b']at ai;simp only[gQ,ay,az,aE,he];refine⟨n,c,rfl,rfl,bS ai.1,bS ai.2.1,bS ai.2.2,⟨λb ag aW=>?_⟩⟩;have Jf:=(aN _ _ he).len;have r8:bG D (Bu c z) (rowOf aH.zero (c*aH.size)):=by rw[<-Jf,Qo];exact(bG.D4 bf).qd c
    exact k b _ (.slice (some ⟨b,0,none⟩) n c) _ C ag aW r8 (λfx c7=>by rw[he]at c7;cases c7;simp[rowOf]) (bS ai.2.2) (λbx id lA=>by simp only[aT];exact⟨_,lA,rfl⟩) (.put _ _ F)
   ·cases h
  ·cases h
end
def Y3{i:Nat}(h:off+vs.length<=cs.length):(bo cs off vs)[i]?=if off<=i/\i<off+vs.length then vs[i-off]? else cs[i]?:=by
 unfold bo;by_cases aa:i<off
 ·rw[cb (by omega),tK (by simp;omega),tK (by simp;omega),j9,cn aa]
 ·by_cases ab:i<off+vs.length
  ·rw[cn ⟨by omega,ab⟩,tK (by simp;omega),o9 (by simp;omega)];simp;congr 1;omega
  ·rw[cb (by omega),o9 (by simp;omega),nZ];congr 1;simp;omega
def Qp(h:off+vs.length<=cs.length):(bo cs off vs).length=cs.length:=by simp[bo];omega
section
variable{Y:gz}{D:bH}{m:bm}{I:aZ}{M:List aB}{R:Type}
def Qq{x:ao}{l:List ao}{K:bm->Option R}{r:R}(h:x9 m x l K=some r):∃ m',K m'=some r/\m'.n=m.n/\(∀ id,m'.t.get id≠none->m.t.get id≠none\/True) /\
  ∀ {D:bH} {I:aZ} {M:List aB} {u:Value} {vs:List Value},dc Y D m I M->aT D x u->bG D l vs ->
   ∃ (g off:Nat) (bc post:List aB) (arr:Array Value) (T:Nat),u=.pointer (some ⟨g,off,none⟩)/\M=bc++⟨g,.cells arr T (0,0)⟩::post/\off+vs.length<=arr.size/\fO vs=true /\ (∃ id e a,m.t.get id=some e/\D id=some a/\a.b=g) /\
    dc Y D m' I (bc++⟨g,.cells (bo arr.toList off vs).toArray T (0,0)⟩::post):=by
 unfold x9 at h;split at h
 ·rename_i id off;split at h
  ·rename_i cs T e1 au;cases ai:(Nat.ble (Nat.add off l.length) e1&&l.all ao.one)with
   |false=>rw[ai]at h;cases h
   |true=>
    rw[ai]at h;simp only[bl]at h;rw[b']at ai;have zJ:off+l.length<=e1:=bS ai.1;obtain⟨cs',aa,ab⟩:=bg.ya l cs off;rw[aa]at h;obtain⟨cZ,ag,aW⟩:=bg.oI (some (e0.cells cs' T e1)) m.t id;rw[ag]at h;refine⟨_,h,rfl,λ_ _=>.inr trivial,fun {D I M u vs} hm ae av=>?_⟩;obtain⟨a,aC,rfl⟩:=ae.ptr;have he:=hm.ih _ _ _ au aC;obtain⟨arr,aw,a1,df,aA,af,jP⟩:=he;have bQ:=av.len;obtain⟨bc,post,ch⟩:=uH a1;have ga:off+vs.length<=arr.size:=by omega
    refine⟨a.b,off,bc,post,arr,T,by rw[aw,c0],ch,ga,av.one ai.2,⟨id,_,a,au,aC,rfl⟩,?_⟩;have gG:∀ x∈M,x.num≠a.b->x∈bc++⟨a.b,.cells (bo arr.toList off vs).toArray T (0,0)⟩::post:=λx ae aq=>by
     rw[ch]at ae;rcases dQ.1 ae with ae | ae;·exact dQ.2 (.inl ae)
     ·rcases ef.1 ae with rfl | ae
      ·exact(aq rfl).elim
      ·exact dQ.2 (.inr (nQ _ ae))
    refine hm.step (λi e hi=>(aW i e hi).imp (λq=>⟨q.1,oJ q.2⟩) λq=>q) aC (bH.le_refl D) (λ_ _=>rfl) hm.jt (λ_ _ h=>h) (λi e bY bK hi oN x ae aq=>gG x ae ?_) ?_ ?_;·rw[aq];exact λai=>bK (hm.inj _ _ _ _ _ _ hi au oN aC ai)
    ·have zK:(bo arr.toList off vs).length=arr.size:=by rw[Qp (by simpa using ga)];simp
     refine .cells (bo arr.toList off vs).toArray aw (by simp) (by simp[zK];exact df) (λi v hi Hi=>?_) (λi hi=>by simp[zK];exact af i hi) jP;rw[aw,c0];simp only[Ab];rw[Y3 (by simpa using ga)];rcases ab i v Hi with⟨a3,a6⟩ | ⟨a3,a6⟩;·have aR:=(hT.1 a6).1;rw[cn ⟨a3,by omega⟩];exact av.get a6
     ·rw[cb (by omega)];have:=aA i v hi a6;rw[aw,c0]at this;simpa using this
    ·intro i e bY bK hi oN ai;exact bK (hm.inj _ _ _ _ _ _ hi au oN aC ai)
  ·cases h
 ·cases h
def Qr:∀ {l:List ao} {cM:List UInt8} {vs:List Value},DV l=some cM->bG D l vs->vs=cM.map (λb=>.int .u8 b.toNat)
 |[],cM,vs,h,av=>by simp only[DV]at h;cases h;exact av.m9
 |v::l,cM,vs,h,av=>by
  unfold DV at h;split at h;·rename_i e;cases e
  ·rename_i n cR e;cases e;cases ai:Nat.ble n 255 with
   |false=>rw[ai]at h;cases h
   |true=>
    rw[ai]at h;simp only[bl]at h;split at h;·rename_i r ak;cases h;obtain⟨x,xs,aa,ab,rfl⟩:=av.j6;have aq:=bS ai;rw[Qr ak ab,aa.int];simp only[cY,y2,and_true,Value.int.injEq,true_and];rw[UInt8.toNat_ofNat_of_lt' (show n<256 by omega)];rfl
    ·cases h
  ·cases h
inductive zL:TypeDesc->ao->Prop
 |int{k n}:zL (.int k) (.i k n)| str {l}:zL .string (.s l)
def Y4(aN:c2 P E){k:Nat}{y:ao}(h:KI (E k) y=true):∃ d,P.underlying k=some d/\zL d y:=by
 unfold KI at h;split at h
 ·rename_i fG dJ n af;have:=IntKind.Cm h;subst this;obtain⟨d,hu,ah⟩:=(aN _ _ af).fi;refine⟨d,hu,?_⟩;have:d=.int fG:=by cases d<;>simp_all[e8]
  subst this;exact .int
 ·rename_i l af;obtain⟨d,hu,ah⟩:=(aN _ _ af).fi;refine⟨d,hu,?_⟩;have:d=.string:=by cases d<;>simp_all[e8]
  subst this;exact .str
 ·cases h
def zL.isKey{y:ao}{u:Value}(h:zL d y)(aF:aT D y u):MapKept.IsKey d u:=by
 cases h with
 |int=>rw[aF.int];rfl| str=>rw[aF.str];trivial
def Y5(a b:ByteArray):(a == b)=decide (a=b):=by rw[oY,MapKept.bytes_beq];simp
def D'{y x:ao}{u:Value}{r:Bool}(h:zL d y)(aF:aT D y u)(ae:aT D x w)(he:DQ y x=some r):Instr.sameNow d u w=some r:=by
 cases h with
 | @int k n=>
  rw[aF.int];unfold DQ at he;split at he;·rename_i e;cases e
  ·rename_i eg a cA b e;cases e;obtain⟨aa,ab⟩:=fw he;have:=IntKind.Cm aa;subst this;cases ab;rw[ae.int];simp only[Instr.sameNow,pU,yb];congr 1
  ·rename_i e;cases e
  ·cases he
 | @str l=>
  rw[aF.str];unfold DQ at he;split at he;·rename_i e;cases e
  ·rename_i e;cases e
  ·rename_i a b e;cases e;cases he;rw[ae.str];simp only[Instr.sameNow];rw[Y5,KZ,By]
  ·cases he
def Y6{d:TypeDesc}{y:ao}{u:Value}(h:zL d y)(aF:aT D y u):∀ {es:List (ao×ao)} {l:List MapEntry} {r:Option ao} (i:Nat),qB D es l->G4 y es=some r ->
  match r with
  |none=>Instr.findNow d u l i=some none| some v=>∃ j w,Instr.findNow d u l i=some (some (j,w))/\aT D v w
 |[],_,r,i,.nil,av=>by simp only[G4]at av;cases av;rfl
 |(x,v)::es,_,r,i,.cons (e:=e) (l:=l) af aj t,av=>by
  simp only[G4]at av;split at av;·rename_i he;cases av;refine⟨i,e.val,?_,aj⟩;simp only[Instr.findNow,D' h aF af he]
  ·rename_i he;have a7:=Y6 h aF (i+1) t av;simp only[Instr.findNow,D' h aF af he];exact a7
  ·cases av
def Y7{d:TypeDesc}{y v:ao}{u w:Value}(h:zL d y)(aF:aT D y u)(aj:aT D v w):∀ {es uO:List (ao×ao)} {l:List MapEntry} (i:Nat),qB D es l->G5 y v es=some uO -> (Instr.findNow d u l i=some none/\∀ b,qB D uO (l++[{ key:=u,val:=w,born:=b }])) \/ ∃ j e,Instr.findNow d u l i=some (some (i+j,e.val))/\l[j]?=some e/\Instr.sameNow d u e.key=some true/\qB D uO (l.modify j λe=>{ e with key:=u,val:=w })
 |[],uO,_,i,.nil,av=>by simp only[G5]at av;cases av;exact .inl ⟨rfl,λb=>.cons aF aj .nil⟩
 |(x,rz)::es,uO,_,i,.cons (e:=e) (l:=l) af kL t,av=>by
  simp only[G5]at av;split at av
  ·rename_i he;cases av;refine .inr ⟨0,e,?_,rfl,D' h aF af he,?_⟩
   ·simp only[Instr.findNow,D' h aF af he,nj]
   ·simp only[List.modify_zero_cons];exact .cons aF aj t
  ·rename_i he;split at av
   ·rename_i r ak;cases av;rcases Y7 h aF aj (i+1) t ak with⟨aa,ab⟩ | ⟨j,bq,aa,ab,ag,aW⟩
    ·refine .inl ⟨?_,λb=>.cons af kL (ab b)⟩;simp only[Instr.findNow,D' h aF af he];exact aa
    ·refine .inr ⟨j+1,bq,?_,by simpa using ab,ag,?_⟩
     ·simp only[Instr.findNow,D' h aF af he];rw[aa];congr 3;omega
     ·simp only[List.modify_succ_cons];exact .cons af kL aW
   ·cases av
  ·cases av
end
section
variable{P:Program}{w:World}
def aks{k e:Nat}(ay:P.underlying t=some (.map k e))(af:P.underlying k=some d){u:Value}(wv:MapKept.IsKey d u){l:List MapEntry}(au:w.heap[g]?=some (.map l.toArray clock))
  {q:Option (Nat×Value)} (aJ:Instr.findNow d u l 0=some q) {inf:TypeInfo} {z:Value} (hi:P.info? e=some inf) (bf:inf.zero=some z) (ok:Bool) :
  (Instr.lookup t (.map (some g)) u ok).run P w=.ok (bif ok then .tuple #[(q.map (·.2)).getD z,.bool q.isSome]else(q.map (·.2)).getD z) w:=by
 have aA:(Instr.checkKey l.toArray.isEmpty 10000 k u).run P w=.ok () w:=CS af wv _ 9999;have uo:(Instr.findKey k u l).run P w=.ok q w:=CT af aJ;have K3:(zeroValue e).run P w=.ok z w:=by simp[zeroValue,typeInfo,hi,bf]
 unfold Instr.lookup;simp only[cm,run_underlying ay,b3,CO au,c9,aA,uo];cases q with
 |none=>cases ok<;>simp[K3]
 |some p=>cases ok<;>simp
def akt{k e:Nat}(ay:P.underlying t=some (.map k e))(af:P.underlying k=some d){u v:Value}(wv:MapKept.IsKey d u){l:List MapEntry}(au:w.heap[g]?=some (.map l.toArray clock))
  (aJ:Instr.findNow d u l 0=some none):(Instr.mapUpdate t (.map (some g)) u v).run P w=.ok () { w with heap:=w.heap.setIfInBounds g (.map (l++[({ key:=u,val:=v,born:=clock }:MapEntry)]).toArray (clock+1)) }:=by
 have aA:(Instr.checkKey false 10000 k u).run P w=.ok () w:=CS af wv _ 9999;have uo:(Instr.findKey k u l).run P w=.ok none w:=CT af aJ;unfold Instr.mapUpdate;simp only[cm,run_underlying ay,b3,CO au,aA,uo,Nv _ au];congr 3;simp
def aku{k e:Nat}(ay:P.underlying t=some (.map k e))(af:P.underlying k=some d){u v:Value}(wv:MapKept.IsKey d u){l:List MapEntry}(au:w.heap[g]?=some (.map l.toArray clock))
 {bq:MapEntry} (aJ:Instr.findNow d u l 0=some (some (j,bq.val))) (an:l[j]?=some bq) (ap:bq.key=u) :
  (Instr.mapUpdate t (.map (some g)) u v).run P w=.ok () { w with heap:=w.heap.setIfInBounds g (.map (l.modify j λe=>{ e with key:=u,val:=v }).toArray clock) }:=by
 have aA:(Instr.checkKey false 10000 k u).run P w=.ok () w:=CS af wv _ 9999;have uo:(Instr.findKey k u l).run P w=.ok (some (j,bq.val)) w:=CT af aJ;have dE:(Instr.keyThatStays u u).run P w=.ok u w:=MapKept.run_keyThatStays wv;unfold Instr.mapUpdate;simp only[cm,run_underlying ay,b3,CO au,aA,uo];simp only[Ab,an,ka,jS,ap,dE,b3,Nv _ au];congr 3;show Obj.map _ _=Obj.map _ _;congr 1;apply gO;simp
end
section
variable{X:c3}{G:GT}{pr:ly}{D:bH}{m m':bm}{F:Fr}{al:bg ao}{C:dp}{I:aZ}{M:List aB}{K:fX}{o:Oper}{v:ao}
def rA(X:c3)(G:GT)(pr:ly)(D:bH)(m:bm)(I:aZ)(M:List aB)(v:ao)(m':bm)(dst:Option Nat)(F:Fr)(C:dp)(K:fX):Prop:=
 ∀ bx u M',D.ext bx m.n->aT bx v u->dc (dP X G pr) bx m' I M'->K (put dst (.val u) F) C I M'
def akv(aw:o.op=.store t x y)(h:bX o.dst (KG (X.E t) m (dm al x) (dm al y)) (λ_=>none)=some (v,m'))(H:iJ D F al o.op.operands.toList)(hm:dc (dP X G pr) D m I M)
  (k:rA X G pr D m I M v m' o.dst F C K):gQ X o F C I M K:=by
 obtain⟨dst,op,ty,pos,after,guard⟩:=o;simp only at aw;subst aw;cases dst with
 |some d=>cases h
 |none=>
  have aa:KG (X.E t) m (dm al x) (dm al y)=some (v,m'):=h;unfold KG at aa;obtain⟨i,hi,aa⟩:=ct aa;obtain⟨a,ae,aa⟩:=ct aa;obtain⟨b,aF,aa⟩:=ct aa;obtain⟨ai,aa⟩:=fw aa;obtain⟨m2,ab,-,-,ag⟩:=Qq (Y:=dP X G pr) aa;cases ab;simp only at H;have Y8:=H x (by simp[Op.operands]) _ ae;have yc:∀ q,a≠.b q:=λq e=>by subst e;cases aa
  obtain⟨u,az,a3⟩:=Y8.wo yc;obtain⟨w,aE,a6⟩:=H.bB (x:=y) (by simp[Op.operands]) aF;obtain⟨g,off,bc,post,arr,T,rfl,a1,ga,ll,⟨id,e,iG,lA,CZ,au⟩,l4⟩:=ag hm a3 a6.cells;simp only[gQ,hi,aE,az];have df:Nat.beq w.cells.size i.size=true:=by have:=a6.cells.len;rw[Av]at this;rw[this];exact ai
  rw[df];simp only[bl];refine⟨bc,post,arr,T,a1,rfl,ga,ll,?_⟩;exact k D (.tuple #[]) _ bH.oL (by simp only[aT];exact⟨[],.nil,rfl⟩) l4
def Y9(ah:∀ d,o.dst=some d->d<X.n)(cg:∀ c,o.op≠.defer c)
  (h:∀ (β:Nat->Nat) (a:Act) (w:World),cV X β a w F C I M->∃ u w' I' M',(execOp a.eval o).run X.P w=.ok (.value u) w'/\cV X β a w' F C I' M'/\K (put o.dst (.val u) F) C I' M'):bn X o F C I M K:=by
 refine⟨λa w Q ⟨β,a5⟩=>?_⟩;obtain⟨u,w',I',M',aa,ab,ag⟩:=h β a w a5;exact il cg aa ⟨_,_,_,_,⟨β,ab.put (x:=.val u) ah rfl⟩,ag⟩
def akw(ah:o.dst=none)(cg:∀ c,o.op≠.defer c)
  (h:∀ (β:Nat->Nat) (a:Act) (w:World),cV X β a w F C I M->∃ w' I' M',(execOp a.eval o).run X.P w=.ok .skip w'/\cV X β a w' F C I' M'/\K F C I' M'):bn X o F C I M K:=by
 refine⟨λa w Q ⟨β,a5⟩=>?_⟩;obtain⟨w',I',M',aa,ab,ag⟩:=h β a w a5;refine Cj cg aa ⟨_,_,_,_,⟨β,?_⟩,ag⟩;rw[ah];exact ab
def Y'(aN:c2 X.P X.E)(ah:∀ d,o.dst=some d->d<X.n){r:Option Operand}(aw:o.op=.makeMap t r)(h:KH (X.E t) m=some (v,m'))(ak:∀ x,r=some x->∃ k n,bB F x=.val (.int k n))(hm:dc (dP X G pr) D m I M)
  (k:rA X G pr D m I M v m' o.dst F C K):bn X o F C I M K:=by
 unfold KH at h;split at h
 ·rename_i sa sm sz fG e ay;obtain⟨d,fk,ft⟩:=(aN _ _ ay).fi;have aa:d=.map fG e:=by cases d<;>simp_all[e8]
  subst aa;obtain⟨cZ,ab,ag⟩:=Hg h;cases ag;refine Y9 ah (by rw[aw];simp) fun β a w a5=>?_;refine⟨.map (some w.heap.size),w.alloc (.map #[] 0),I,⟨w.heap.size,.map #[] 0⟩::M,?_,a5.o0 _,?_⟩
  ·unfold execOp;cases r with
   |none=>simp[aw,Instr.makeMap]| some x=>obtain⟨eg,h0,ae⟩:=ak x rfl;have NT:=dh a5.al ae;simp[aw,NT,Instr.makeMap,run_underlying fk,asInt,n4]
  ·have aJ:∀ x∈M,x.num≠w.heap.size:=a5.holds.qO;refine k _ _ _ bH.D9 (by simp only[aT];exact⟨_,bH.pN _ _ ⟨w.heap.size,0,0⟩,rfl⟩) (hm.new (a:=⟨w.heap.size,0,0⟩) ab aJ ?_);exact .map [] 0 (by simp) .nil
 ·cases h
def k9.Za{D:bH}{a:Loc}{es:List (ao×ao)}(h:k9 D E M a (.map es)):∃ l clock,(⟨a.b,.map l.toArray clock⟩:aB)∈M/\qB D es l:=by
 cases h with
 |map l clock aa ab=>exact⟨l,clock,aa,ab⟩
def aT.map'{id:Nat}{u:Value}(h:aT D (.m id) u):∃ a,D id=some a/\u=.map (some a.b):=by simpa only[aT]using h
def akx(aN:c2 X.P X.E)(ah:∀ d,o.dst=some d->d<X.n){ok:Bool}(aw:o.op=.lookup t x y ok)(h:PV X.P X.E t m (dm al x) (dm al y) ok=some (v,m'))(H:iJ D F al o.op.operands.toList)
  (hm:dc (dP X G pr) D m I M) (k:rA X G pr D m I M v m' o.dst F C K):bn X o F C I M K:=by
 unfold PV at h;split at h
 ·rename_i sa sm sz fG e id aky ay aa ab;obtain⟨wv,h⟩:=fw h;split at h
  ·rename_i es au;obtain⟨r,ak,h⟩:=ct h;obtain⟨inf,hi,h⟩:=ct h;obtain⟨z,bf,h⟩:=ct h;obtain⟨sO,An,h⟩:=ct h;cases h;obtain⟨d,fk,ft⟩:=(aN _ _ ay).fi;have hd:d=.map fG e:=by cases d<;>simp_all[e8]
   subst hd;obtain⟨kx,r7,BA⟩:=Y4 aN wv;rw[aw]at H;obtain⟨tz,az,a3⟩:=H.bB (x:=x) (by simp[Op.operands]) aa;obtain⟨oM,aE,a6⟩:=H.bB (x:=y) (by simp[Op.operands]) ab;obtain⟨a,aC,rfl⟩:=a3.map';have he:=hm.ih _ _ _ au aC;obtain⟨l,clock,a1,Qs⟩:=he.Za;have p4:=Y6 BA a6 0 Qs ak;have K3:aT D sO z:=.of An;have fin:∀ {q:Option (Nat×Value)},Instr.findNow kx oM l 0=some q->(r=none/\q=none\/∃ rv j w,r=some rv/\q=some (j,w)/\aT D rv w)->bn X o F C I M K:=fun {q} aJ aM=>by
    refine Y9 ah (by rw[aw];simp) fun β ac w a5=>?_;have eV:=aks (P:=X.P) (w:=w) fk r7 (BA.isKey a6) (a5.holds.m _ a1) aJ hi bf ok;have ex:=dh a5.al az;have mM:=dh a5.al aE;refine⟨bif ok then .tuple #[(q.map (·.2)).getD z,.bool q.isSome]else(q.map (·.2)).getD z,w,I,M,?_,a5,k D _ M bH.oL ?_ hm⟩;·unfold execOp;simp only[aw,ex,mM,cm,eV,b3,c9]
    ·unfold Yz;rcases aM with⟨rfl,rfl⟩ | ⟨rv,j,w',rfl,rfl,aj⟩
     ·cases ok
      ·exact K3
      ·exact .KW (.cons K3 (.cons (by simp only[aT];rfl) .nil))
     ·cases ok
      ·exact aj
      ·exact .KW (.cons aj (.cons (by simp only[aT];rfl) .nil))
   cases r with
   |none=>exact fin p4 (.inl ⟨rfl,rfl⟩)| some rv=>obtain⟨j,w,aJ,aj⟩:=p4;exact fin aJ (.inr ⟨rv,j,w,rfl,rfl,aj⟩)
  ·cases h
 ·cases h
def Zb(aN:c2 X.P X.E){z:Operand}(aw:o.op=.mapUpdate t x y z\/o.op=.insert t x y z)(h:bX o.dst (G6 X.E t m (dm al x) (dm al y) (dm al z)) (λ_=>none)=some (v,m'))(H:iJ D F al o.op.operands.toList)
  (hm:dc (dP X G pr) D m I M) (k:rA X G pr D m I M v m' o.dst F C K):bn X o F C I M K:=by
 cases Hh:o.dst with
 |some d=>rw[Hh]at h;cases h
 |none=>
  rw[Hh]at h k;have ar:G6 X.E t m (dm al x) (dm al y) (dm al z)=some (v,m'):=h;have vn:∀ q,q=x\/q=y\/q=z->q∈o.op.operands.toList:=λq aM=>by
   rcases aw with aw | aw<;>rw[aw]<;>simp[Op.operands]<;>exact aM
  unfold G6 at ar;split at ar
  ·rename_i sa sm sz fG e id aky sO ay aa ab ag;obtain⟨wv,ar⟩:=fw ar;split at ar
   ·rename_i es au;obtain⟨uO,lN,ar⟩:=ct ar;obtain⟨cZ,aW,bC⟩:=bg.oI (some (e0.map uO)) m.t id;have hY:(m.t.m7 (some (e0.map uO)) id λt=>some (ao.t [],(⟨t,m.n⟩:bm)))=some (v,m'):=ar;rw[aW]at hY;cases hY;obtain⟨d,fk,ft⟩:=(aN _ _ ay).fi;have hd:d=.map fG e:=by cases d<;>simp_all[e8]
    subst hd;obtain⟨kx,r7,BA⟩:=Y4 aN wv;obtain⟨tz,az,a3⟩:=H.bB (x:=x) (vn x (.inl rfl)) aa;obtain⟨oM,aE,a6⟩:=H.bB (x:=y) (vn y (.inr (.inl rfl))) ab;obtain⟨Ea,bz,bI⟩:=H.bB (x:=z) (vn z (.inr (.inr rfl))) ag;obtain⟨a,aC,rfl⟩:=a3.map';have he:=hm.ih _ _ _ au aC;obtain⟨l,clock,a1,Qs⟩:=he.Za;have fin:∀ (cR:List MapEntry) (BB:Nat),qB D uO cR->(∀ w:World,w.heap[a.b]?=some (.map l.toArray clock)->(Instr.mapUpdate t (.map (some a.b)) oM Ea).run X.P w=.ok () { w with heap:=w.heap.setIfInBounds a.b (.map cR.toArray BB) }) ->
      bn X o F C I M K:=λcR BB kd eV=>by
     obtain⟨bc,post,ch⟩:=uH a1;have j5:M.Perm (⟨a.b,.map l.toArray clock⟩::(bc++post)):=by rw[ch];exact qk
     refine akw Hh (by rcases aw with aw | aw<;>rw[aw]<;>simp) fun β ac w ki=>?_;have a5:cV X β ac w F C I (⟨a.b,.map l.toArray clock⟩::(bc++post)):=ki.h8 (.perm j5 .refl);have rB:=ki.holds.m _ a1;have ex:=dh a5.al az;have mM:=dh a5.al aE;have pz:=dh a5.al bz;have gU:=MapKept.heap_set (o':=Obj.map cR.toArray BB) rB;refine⟨_,I,⟨a.b,.map cR.toArray BB⟩::(bc++post),?_,a5.swap (w':={ w with heap:=w.heap.setIfInBounds a.b (.map cR.toArray BB) }) (by simp) gU.1 gU.2 ⟨rfl,rfl⟩,?_⟩
     ·unfold execOp;rcases aw with aw | aw<;>simp only[aw,ex,mM,pz,cm,eV w rB,b3,c9]
     ·have rS:∀ q∈M,q.num≠a.b->q∈(⟨a.b,.map cR.toArray BB⟩:aB)::(bc++post):=λq aM aq=>by
       rcases ef.1 (j5.mem_iff.1 aM)with rfl | aM;·exact(aq rfl).elim
       ·exact nQ _ aM
      refine k D (.tuple #[]) _ bH.oL (by simp only[aT];exact⟨[],.nil,rfl⟩) ?_;refine hm.step (λi e hi=>(bC i e hi).imp (λq=>⟨q.1,oJ q.2⟩) λq=>q) aC (bH.le_refl D) (λ_ _=>rfl) hm.jt (λ_ _ h=>h) (λi e bY bK hi oN q aM aq=>rS q aM ?_) (.map cR BB (by simp) kd) ?_;·rw[aq];exact λai=>bK (hm.inj _ _ _ _ _ _ hi au oN aC ai)
      ·exact λi e bY bK hi oN ai=>bK (hm.inj _ _ _ _ _ _ hi au oN aC ai)
    rcases Y7 BA a6 bI 0 Qs lN with⟨aJ,gG⟩ | ⟨j,bq,aJ,an,ap,xI⟩;·exact fin _ (clock+1) (gG clock) λw rB=>akt fk r7 (BA.isKey a6) rB aJ
    ·rw[c0]at aJ;have xt:bq.key=oM:=by
      cases BA with
      |int=>
       have:=a6.int;subst this;cases af:bq.key<;>rw[af]at ap<;>simp[Instr.sameNow]at ap
       obtain⟨rfl,h⟩:=ap;rw[h]
      |str=>
       have:=a6.str;subst this;cases af:bq.key<;>rw[af]at ap<;>simp[Instr.sameNow,Y5]at ap
       rw[ap]
     exact fin _ clock xI λw rB=>aku fk r7 (BA.isKey a6) rB aJ an xt
   ·cases ar
  ·cases ar
end
section
variable{X:c3}{G:GT}{pr:ly}{D:bH}{m m':bm}{F:Fr}{al:bg ao}{C:dp}{I:aZ}{M:List aB}{K:fX}{o:Oper}{v:ao}
def Zc(aN:c2 X.P X.E)(ah:∀ d,o.dst=some d->d<X.n){s d e:Nat}(aw:o.op=.convert s d x){dG cd:Nat}{Eb:List Value}(ap:X.E s=some ⟨cu,b1,wb,.slice e⟩)(hd:X.E d=some ⟨dG,cd,Eb,.string⟩)(ai:DT (X.E e)=true)
  {id off n:Nat} (h:KJ G m id off n=some (v,m')) (ae:∃ a c,D id=some a/\bB F x=.val (.slice (some ⟨a.b,a.o+off,none⟩) n c)) (hm:dc (dP X G pr) D m I M)
  (k:rA X G pr D m I M v m' o.dst F C K):bn X o F C I M K:=by
 unfold KJ at h;obtain⟨a,c,aC,ex⟩:=ae;obtain⟨ad,l,vs,az,bk,av,h⟩:=wq (u:=.pointer (some ⟨a.b,a.o+off,none⟩)) hm (by simp only[aT];exact⟨a,aC,rfl⟩) h;cases az;obtain⟨cM,t',h⟩:=ct h;cases h;have h7:=Qr t' av;have bQ:cM.length=n:=by have:=bk.2;obtain⟨_,_,_,_,_,ab⟩:=this;rw[<-ab,h7];simp
 subst h7;obtain⟨aH,he,lN⟩:∃ aH,X.E e=some aH/\aH.bE=.int .u8:=by
  unfold DT at ai;split at ai;·rename_i h;exact⟨_,h,rfl⟩
  ·cases ai
 refine bn.ah7 aN aw ah ap rfl he lN hd rfl ex bQ bk ?_;exact k D _ M bH.oL (by simp only[aT]) hm
def akz(aN:c2 X.P X.E)(ah:∀ d,o.dst=some d->d<X.n){s d:Nat}(aw:o.op=.convert s d x)(h:KK (dP X G pr) m s d (dm al x)=some (v,m'))(H:iJ D F al o.op.operands.toList)(hm:dc (dP X G pr) D m I M)
  (k:rA X G pr D m I M v m' o.dst F C K):bn X o F C I M K:=by
 unfold KK at h;rw[aw]at H;split at h
 ·rename_i aa ab ag;obtain⟨ai,h⟩:=fw h;obtain⟨u,az,a3⟩:=H.bB (x:=x) (by simp[Op.operands]) ag;obtain⟨a,aC,rfl⟩:=a3.sk;exact Zc aN ah aw aa ab ai h ⟨a,_,aC,az⟩ hm k
 ·rename_i aa ab ag;obtain⟨ai,h⟩:=fw h;obtain⟨u,az,a3⟩:=H.bB (x:=x) (by simp[Op.operands]) ag;obtain⟨a,aC,_,rfl⟩:=a3.uM;exact Zc aN ah aw aa ab ai h ⟨a,_,aC,az⟩ hm k
 ·rename_i aa ab ag;obtain⟨ai,h⟩:=fw h;obtain⟨u,az,a3⟩:=H.bB (x:=x) (by simp[Op.operands]) ag;cases h;simp only[aT]at a3;subst a3;obtain⟨aH,he,lN⟩:∃ aH,X.E _=some aH/\aH.bE=.int .u8:=by
   unfold DT at ai;split at ai;·rename_i h;exact⟨_,h,rfl⟩
   ·cases ai
  refine bn.ah8 aN aw ah aa rfl he lN ab rfl az ?_;exact k D _ M bH.oL (by simp only[aT]) hm
 ·cases h
def Zd(q:List UInt8):bG D (q.map λb=>ao.i .u8 (.ofNat b.toNat)) (kU ⟨q.toArray⟩):=by
 unfold kU;simp only
 induction q with
 |nil=>exact .nil| cons b q a7=>exact .cons (by simp only[aT];rfl) a7
def K4{l:List Operand}{a b:ao}(h:nR al l=some [a,b]):∃ x y,l=[x,y]/\dm al x=some a/\dm al y=some b:=by
 match l,h with
 |[],h=>simp[nR]at h
 |[x],h=>
  simp only[nR]at h;split at h;·rename_i az aE;cases aE;cases h
  ·cases h
 |[x,y],h=>
  simp only[nR]at h;split at h
  ·rename_i az aE;split at aE
   ·rename_i bz cT;cases cT;cases aE;cases h;exact⟨x,y,rfl,az,bz⟩
   ·cases aE
  ·cases h
 |x::y::z::l,h=>
  simp only[nR]at h;split at h
  ·rename_i az aE;split at aE
   ·rename_i bz cT;split at cT
    ·cases cT;cases aE;cases h
    ·cases cT
   ·cases aE
  ·cases h
def dc.sub{M':List aB}(h:dc (dP X G pr) D m I M)(ap:∀ x∈M,x∈M'):dc (dP X G pr) D m I M':=
 ⟨λid e a hi aC=>(h.ih id e a hi aC).mono (bH.le_refl D) (λx ae _=>ap x ae),h.inj,h.jt,h.qz⟩
def akA(aN:c2 X.P X.E)(ah:∀ d,o.dst=some d->d<X.n)(aw:o.op=.call { callee:=.builtin .copy,args:=args,argTypes:=ts })(h:PX (dP X G pr) m ts.toList (nR al args.toList)=some (v,m'))
  (H:iJ D F al args.toList) (hm:dc (dP X G pr) D m I M) (k:rA X G pr D m I M v m' o.dst F C K):bn X o F C I M K:=by
 unfold PX at h;split at h
 ·rename_i t u id off n c q ay av;split at h
  ·rename_i sa sm sz e n8;obtain⟨aH,he,h⟩:=ct h;obtain⟨ai,h⟩:=fw h;rw[b']at ai;obtain⟨m2,ab,-,-,ag⟩:=Qq (Y:=dP X G pr) h;cases ab;obtain⟨x,y,ms,wx,akB⟩:=K4 av;obtain⟨tz,ae,a6⟩:=H.bB (x:=x) (by rw[ms];simp) wx;obtain⟨oM,aF,eQ⟩:=H.bB (x:=y) (by rw[ms];simp) akB;obtain⟨a,aC,rfl⟩:=a6.sk;have akC:=eQ.str;subst akC;obtain⟨g,Iz,bc,post,arr,T,bz,a1,ga,ll,⟨ij,bq,iG,lA,CZ,au⟩,l4⟩:=ag hm (u:=.pointer (some ⟨a.b,a.o+off,none⟩)) (by simp only[aT];exact⟨a,aC,rfl⟩) (Zd q);cases bz;have j5:M.Perm (⟨a.b,.cells arr T (0,0)⟩::(bc++post)):=by rw[a1];exact qk
   have BC:args=#[x,y]:=by apply gO;simpa using ms
   have BD:ts=#[t,u]:=by apply gO;simpa using ay
   have df:(⟨q.toArray⟩:ByteArray).size=q.length:=by simp[ByteArray.size]
   have oe:(kU ⟨q.toArray⟩).length=q.length:=by simp[kU]
   refine bn.T1 aN (by rw[aw,BC,BD]) ah n8 rfl he (c6 ai.1) ae aF (by rw[df];exact bS ai.2) (by rw[df,<-oe];exact ga) j5 ?_;rw[df];have akD:(bc++(⟨a.b,.cells (bo arr.toList (a.o+off) (kU ⟨q.toArray⟩)).toArray T (0,0)⟩:aB)::post).Perm (⟨a.b,.cells (bo arr.toList (a.o+off) (kU ⟨q.toArray⟩)).toArray T (0,0)⟩::(bc++post)):=qk;exact k D (.int .i64 q.length) _ bH.oL (by simp only[aT];rfl) (l4.sub λx ae=>akD.mem_iff.1 ae)
  ·cases h
 ·cases h
end
section
variable{P:Program}{w:World}
def Ze(t u ty e:Nat)(i:TypeInfo)(ay:P.underlying t=some (.slice e))(hu:P.underlying u=some od)(p7:∀ k,od≠.int k)(hi:P.info? e=some i)
 {n c:Nat} {arr:Array Value} (au:w.heap[g]?=some (.cells arr T (0,0))) {x:Value} (aa:∀ v∈bV,v.oneCell'=true)
  (bQ:∀ w',(Builtin.lenOf x).run P w'=.ok m w') (gG:(Builtin.firstCells i.size m x).run P w=.ok bV.toArray w) (s0:n+m<=c) (ga:off+n*i.size+bV.length<=arr.size) :
  (Builtin.append_ #[t,u] ty #[.slice (some ⟨g,off,none⟩) n c,x]).run P w=.ok (.slice (some ⟨g,off,none⟩) (n+m) c) (w.setRow g (bo arr.toList (off+n*i.size) bV).toArray):=by
 have FA:(match od with | .int _=>true | _=>false)=false:=by cases od<;>first | rfl | exact(p7 _ rfl).elim
 have dE:=run_storeCells_at P g (off+n*i.size) T bV 0 arr w au (by simpa using ga) aa;simp only[nj]at dE;have Pk:(Addr.add ⟨g,off,none⟩ (n*i.size))=⟨g,off+n*i.size,none⟩:=dL _ rfl _;simp[Builtin.append_,run_underlying ay,run_underlying hu,sizeOf,typeInfo,hi,bQ,s0,gG,Pk,dE,bo]
def akE(t u ty e:Nat)(i:TypeInfo)(z:Value)(ay:P.underlying t=some (.slice e))(hu:P.underlying u=some od)(p7:∀ k,od≠.int k)(hi:P.info? e=some i)(bf:i.zero=some z)(vF:z.cells.size=i.size)
 {n c:Nat} (hold:(Builtin.firstCells i.size n (.slice be n c)).run P w.drew=.ok xs.toArray w.drew) (sp:xs.length=n*i.size) {x:Value} (av:bV.length=m*i.size)
  (bQ:∀ w',(Builtin.lenOf x).run P w'=.ok m w') (gG:(Builtin.firstCells i.size m x).run P w.drew=.ok bV.toArray w.drew) (s0:c<n+m) (b1:n+m<=maxLen) (cd:(n+m)*i.bytes<=140737488355328) :
  ∃ cap aK,(Builtin.append_ #[t,u] ty #[.slice be n c,x]).run P w=.ok (.slice (some ⟨w.heap.size,0,none⟩) (n+m) cap) (w.drew.alloc (.cells (xs++bV++aK).toArray e (0,0)))/\n+m<=cap/\cap<=maxLen/\(xs++bV++aK).length=cap*i.size:=by
 have FA:(match od with | .int _=>true | _=>false)=false:=by cases od<;>first | rfl | exact(p7 _ rfl).elim
 have aq:¬ (n+m<=c):=by omega
 have nx:n+m<=9223372036854775807:=by simp only[maxLen]at b1;exact b1
 have FB:¬ (9223372036854775807<((n:Int)+(m:Int))):=by omega
 have FC:¬ (281474976710656<Builtin.nextslicecap (n+m) c*i.bytes):=by have:=growslice_fits (by omega:c<n+m) cd;omega
 have cP:=grownCap_ge w (n+m) c e;have kT:grownCap w (n+m) c e<=maxLen:=grownCap_le_maxLen w (n+m) c e b1;refine⟨grownCap w (n+m) c e,(Builtin.zeroCells z.cells (grownCap w (n+m) c e-(n+m))).toList,?_,cP,kT,?_⟩
 ·simp[Builtin.append_,run_underlying ay,run_underlying hu,sizeOf,typeInfo,zeroValue,hi,bf,bQ,aq,FB,FC,Question.forced,gG,hold,newRow,grownCap];congr 2;apply gO;simp
 ·rw[cI,cI,sp,av,Av,size_zeroCells,vF,<-kS,<-kS];congr 1;omega
end
section
variable{X:c3}{G:GT}{pr:ly}{D:bH}{m m':bm}{F:Fr}{al:bg ao}{C:dp}{I:aZ}{M:List aB}{K:fX}{o:Oper}{v:ao}
def cr.Qt{ad:Addr}{n:Nat}(h:cr I M ad n vs){w:World}(lk:ew I M w)(j:Nat)(v:Value)(an:vs[j]?=some v):w.cell? (ad.add j)=some v:=by
 obtain⟨ch,cs,T,al,dS,aj,av⟩:=h;rw[dL _ ch,sL (dS.heap lk)];rw[<-aj,j9]at an;split at an
 ·rw[nZ]at an;simpa using an
 ·cases an
def akF{x:ao}{u:Value}{k:Nat}{K:List ao->Option R}{r:R}(h:DU G m.t x aH.size K=some r)(ap:wj ut aH x=true)(ae:aT D x u)(hm:dc (dP X G pr) D m I M)(af:sj x=some k)(ar:k≠0) :
  ∃ l vs,K l=some r/\bG D l vs/\(∀ w',(Builtin.lenOf u).run X.P w'=.ok k w')/\(∀ w,ew I M w->(Builtin.firstCells aH.size k u).run X.P w=.ok vs.toArray w)/\vs.length=k*aH.size /\
   ((∃ a b z e,ut=some ⟨a,b,z,.slice e⟩)\/∃ a b z,ut=some ⟨a,b,z,.string⟩):=by
 have Qu:(∃ a b z e,ut=some ⟨a,b,z,.slice e⟩)\/∃ a b z,ut=some ⟨a,b,z,.string⟩:=by
  unfold wj at ap;split at ap<;>first | exact .inl ⟨_,_,_,_,rfl⟩ | exact .inr ⟨_,_,_,rfl⟩ | cases ap
 cases x<;>simp only[DU]at h<;>first | cases h | skip
 case sn=>simp[sj,wi]at af;exact(ar af.symm).elim
 case so=>simp[sj,wi]at af;exact(ar af.symm).elim
 case sl id off n c=>
  simp only[sj,wi,j']at af;subst af;obtain⟨a,aC,rfl⟩:=ae.sk;obtain⟨ad,l,vs,az,bk,av,h⟩:=wq (u:=.pointer (some ⟨a.b,a.o+off,none⟩)) hm (by simp only[aT];exact⟨a,aC,rfl⟩) h;cases az;have oO:=bk;obtain⟨_,_,_,_,_,_,bQ⟩:=oO;exact⟨l,vs,h,av,λ_=>rfl,λw hw=>run_firstCells_some (P:=X.P) w aH.size n _ n c vs bQ (λj v an=>bk.Qt hw j v an),bQ,Qu⟩
 case sx id off e n=>
  simp only[sj,wi,j']at af;subst af;obtain⟨a,aC,_,rfl⟩:=ae.uM;obtain⟨ad,l,vs,az,bk,av,h⟩:=wq (u:=.pointer (some ⟨a.b,a.o+off,none⟩)) hm (by simp only[aT];exact⟨a,aC,rfl⟩) h;cases az;have oO:=bk;obtain⟨_,_,_,_,_,_,bQ⟩:=oO;exact⟨l,vs,h,av,λ_=>rfl,λw hw=>run_firstCells_some (P:=X.P) w aH.size n _ n _ vs bQ (λj v an=>bk.Qt hw j v an),bQ,Qu⟩
 case s q=>
  simp only[sj,j']at af;subst af;have akG:aH.size=1:=by
   unfold wj at ap;split at ap<;>first | exact c6 ap | (rename_i e;cases e) | cases ap
  have:=ae.str;subst this;have aM:(⟨q.toArray⟩:ByteArray).size=q.length:=by simp[ByteArray.size]
  refine⟨_,kU ⟨q.toArray⟩,h,Zd q,λw=>?_,λw hw=>?_,by simp[kU,akG],Qu⟩;·show Result.ok _ _=_;rw[aM]
  ·have:=TM w aH.size (P:=X.P) ⟨q.toArray⟩;rw[aM]at this;exact this
def Qv(aN:c2 X.P X.E)(ah:∀ d,o.dst=some d->d<X.n){s:Operand}{u:Nat}(aw:o.op=.call { callee:=.builtin .append,args:=#[s,x],argTypes:=#[t,u] })
  {e:Nat} (ay:X.E t=some ⟨cu,b1,wb,.slice e⟩) (hu:X.E u=some nu) (fA:∀ k,nu.bE≠.int k) (he:X.E e=some aH)
 {n c k:Nat} {Qw:Value} (ap:bB F s=.val (.slice be n c)) (ae:bB F x=.val Qw) (sp:xs.length=n*aH.size) (mg:bV.length=k*aH.size) (aa:fO bV=true)
  (bQ:∀ w',(Builtin.lenOf Qw).run X.P w'=.ok k w') (gG:∀ w,ew I M w->(Builtin.firstCells aH.size k Qw).run X.P w=.ok bV.toArray w)
  (hold:∀ w,ew I M w->(Builtin.firstCells aH.size n (.slice be n c)).run X.P w=.ok xs.toArray w) (b1:n+k<=maxLen) (cd:(n+k)*aH.bytes<=140737488355328)
  (akH:n+k<=c->∃ g off T arr bc post,be=some ⟨g,off,none⟩/\M=bc++⟨g,.cells arr T (0,0)⟩::post/\off+n*aH.size+bV.length<=arr.size /\ K (put o.dst (.val (.slice be (n+k) c)) F) C I (bc++⟨g,.cells (bo arr.toList (off+n*aH.size) bV).toArray T (0,0)⟩::post))
  (akI:c<n+k->∀ b cap aK,I b=none->(∀ y∈M,y.num≠b)->n+k<=cap->cap<=maxLen->(xs++bV++aK).length=cap*aH.size ->
   K (put o.dst (.val (.slice (some ⟨b,0,none⟩) (n+k) cap)) F) C I (⟨b,.cells (xs++bV++aK).toArray e (0,0)⟩::M)):bn X o F C I M K:=by
 refine⟨λa w Q ⟨β,a5⟩=>?_⟩;obtain⟨inf,z,hi,fb,hV,iq,kM⟩:=(aN _ _ he).inf;obtain⟨d,fk,ft⟩:=(aN _ _ hu).fi;obtain⟨ib,pf,lM⟩:=(aN _ _ ay).fi;have tX:ib=.slice e:=by cases ib<;>simp_all[e8]
 subst tX;have vF:z.cells.size=inf.size:=by rw[fb,<-(aN _ _ he).len,<-kM];simp
 have es:=dh a5.al ap;have ex:=dh a5.al ae;have p7:∀ k,d≠.int k:=λk bq=>fA k (by rw[<-ft,bq];rfl);rw[<-fb]at sp mg hold gG;by_cases s0:n+k<=c
 ·obtain⟨g,off,T,arr,bc,post,rfl,a1,ga,af⟩:=akH s0;rw[<-fb]at ga af;have au:w.heap[g]?=some (.cells arr T (0,0)):=a5.holds.m ⟨g,.cells arr T (0,0)⟩ (by rw[a1];simp);have eV:=Ze (P:=X.P) (w:=w) t u o.type e inf pf fk p7 hi au (w4 aa) bQ (gG w a5.holds) s0 ga;refine il (by rw[aw];simp) ?_ ⟨_,_,_,_,⟨β,cV.put (x:=.val (.slice (some ⟨g,off,none⟩) (n+k) c)) (a5.vb a1) ah rfl⟩,af⟩;unfold execOp;simp only[aw,resolve,invoke,builtin,cm,c9,b3,sW,cY,kR,es,ex,eV]
 ·have lk:ew I M w.drew:=a5.holds.heap rfl;obtain⟨cap,aK,eV,ab,ag,aW⟩:=akE (P:=X.P) (w:=w) t u o.type e inf z pf fk p7 hi iq vF (hold w.drew lk) sp mg bQ (gG w.drew lk) (by omega) b1 (by rw[hV];exact cd);have pg:cV X β a w.drew F C I M:=a5.world rfl;rw[fb]at aW;refine il (by rw[aw];simp) ?_ ⟨_,_,_,_,⟨β,cV.put (x:=.val (.slice (some ⟨w.heap.size,0,none⟩) (n+k) cap)) (pg.o0 (.cells (xs++bV++aK).toArray e (0,0))) ah rfl⟩,akI (by omega) w.heap.size cap aK a5.holds.rL a5.holds.qO ab ag aW⟩;unfold execOp;simp only[aw,resolve,invoke,builtin,cm,c9,b3,sW,cY,kR,es,ex,eV]
def Zf{u:Nat}{x:ao}(h:wj (X.E u) aH x=true):∃ nu,X.E u=some nu/\∀ k,nu.bE≠.int k:=by
 unfold wj at h;split at h<;>first | (cases h;done) | (rename_i e;exact⟨_,e,by simp⟩) | (rename_i e _;exact⟨_,e,by simp⟩) | (rename_i e _ _;exact⟨_,e,by simp⟩)
def akJ{s:ao}{u:Value}(h:DW s=true)(ap:aT D s u):∃ a n c,u=.slice a n c/\n<=c:=by
 cases s<;>simp only[DW,kG]at h
 case sn=>exact⟨_,_,_,ap.Bz,cj _⟩
 case so=>obtain⟨a,c,rfl⟩:=ap.KU;exact⟨_,_,_,rfl,bw _⟩
 case sl=>obtain⟨a,_,rfl⟩:=ap.sk;exact⟨_,_,_,rfl,bS h⟩
 case sx=>obtain⟨a,_,bs,rfl⟩:=ap.uM;exact⟨_,_,_,rfl,by omega⟩
def akK{x:ao}{u:Value}(ap:wj ut aH x=true)(ae:aT D x u)(af:sj x=some 0):(∃ b c,u=.slice b 0 c)\/u=.string .empty:=by
 cases x<;>simp[sj,wi]at af
 case sn=>exact .inl ⟨_,_,ae.Bz⟩
 case so=>obtain⟨a,c,rfl⟩:=ae.KU;exact .inl ⟨_,_,rfl⟩
 case sl=>subst af;obtain⟨a,_,rfl⟩:=ae.sk;exact .inl ⟨_,_,rfl⟩
 case sx=>subst af;obtain⟨a,_,_,rfl⟩:=ae.uM;exact .inl ⟨_,_,rfl⟩
 case gs=>subst af;exact .inl ⟨_,_,ae.Qd⟩
 case s=>subst af;exact .inr ae.str
noncomputable abbrev Qx(X:c3)(G:GT)(m:bm)(s x:ao)(aH:dU)(kn e:Nat):List ao->Option (ao×bm):=λl=>bX (some kn) none λk=>b5 (Nat.beq k 0) (b5 (DW s) (some (s,m)) none) (b5 (l.all ao.one) (G3 G m s l k aH.size aH.bytes e) none)
def akL(aN:c2 X.P X.E)(ah:∀ d,o.dst=some d->d<X.n){u:Nat}(aw:o.op=.call { callee:=.builtin .append,args:=#[os,qw],argTypes:=#[t,u] })
 {e:Nat} (ay:X.E t=some ⟨cu,b1,wb,.slice e⟩) {s x:ao} (rr:wj (X.E u) aH x=true) (he:X.E e=some aH) (af:sj x=some 0) {us:Value}
  (es:bB F os=.val us) (gs:aT D s us) (ex:bB F qw=.val lH) (zM:aT D x lH) (h:DU G m.t x aH.size (Qx X G m s x aH 0 e)=some (v,m'))
  (hm:dc (dP X G pr) D m I M) (k:rA X G pr D m I M v m' o.dst F C K):bn X o F C I M K:=by
 have ab:∃ l,Qx X G m s x aH 0 e l=some (v,m'):=by
  cases x<;>simp only[DU]at h<;>first | cases h | exact⟨_,h⟩ | skip
  case sl=>obtain⟨a,aC,rfl⟩:=zM.sk;obtain⟨_,l,_,_,_,_,h⟩:=wq (u:=.pointer (some ⟨a.b,a.o+_,none⟩)) hm (by simp only[aT];exact⟨a,aC,rfl⟩) h;exact⟨l,h⟩
  case sx=>obtain⟨a,aC,_,rfl⟩:=zM.uM;obtain⟨_,l,_,_,_,_,h⟩:=wq (u:=.pointer (some ⟨a.b,a.o+_,none⟩)) hm (by simp only[aT];exact⟨a,aC,rfl⟩) h;exact⟨l,h⟩
 obtain⟨l,ab⟩:=ab;have ag:b5 (DW s) (some (s,m)) none=some (v,m'):=ab;obtain⟨aA,ag⟩:=fw ag;cases ag;obtain⟨a,n,c,rfl,mj⟩:=akJ aA gs;obtain⟨nu,hu,fA⟩:=Zf rr;exact bn.Np aN aw ah ay rfl hu fA he es mj ex (akK rr zM af) (k D _ M bH.oL gs hm)
def akM(aN:c2 X.P X.E)(ah:∀ d,o.dst=some d->d<X.n){u:Nat}(aw:o.op=.call { callee:=.builtin .append,args:=#[os,qw],argTypes:=#[t,u] })
 {e:Nat} (ay:X.E t=some ⟨cu,b1,wb,.slice e⟩) (hu:X.E u=some nu) (fA:∀ k,nu.bE≠.int k) (he:X.E e=some aH) {us:Value} {id off n c kn:Nat}
  (es:bB F os=.val us) (gs:aT D (.sl id off n c) us) (ex:bB F qw=.val lH) {l:List ao} (h:PT G m id off n c l kn aH.size e=some (v,m')) (nx:n+kn<=maxLen) (gq:(n+kn)*aH.bytes<=140737488355328)
  (av:bG D l vs) (r9:vs.length=kn*aH.size) (aa:fO vs=true) (bQ:∀ w',(Builtin.lenOf lH).run X.P w'=.ok kn w') (gG:∀ w,ew I M w->(Builtin.firstCells aH.size kn lH).run X.P w=.ok vs.toArray w)
  (hm:dc (dP X G pr) D m I M) (k:rA X G pr D m I M v m' o.dst F C K):bn X o F C I M K:=by
 have Hj:∀ {q:List Value} {c:Nat},q.length=c*aH.size->∀ i,(dP X G pr).E e=some i->q.length=c*i.size:=λaM i hi=>by have:X.E e=some i:=hi;rw[he]at this;cases this;exact aM
 obtain⟨a,aC,rfl⟩:=gs.sk;unfold PT at h;by_cases ak:n+kn<=c
 ·have ai:Nat.ble (Nat.add n kn) c=true:=Bg ak;rw[ai]at h;have aX:x9 m (.p id (Nat.add off (Nat.mul n aH.size))) l (λm=>some (ao.sl id off (Nat.add n kn) c,m))=some (v,m'):=h;obtain⟨m2,ab,-,-,ag⟩:=Qq (Y:=dP X G pr) aX;cases ab;obtain⟨g,Iz,bc,post,arr,T,az,a1,ga,ll,⟨ij,bq,iG,lA,CZ,au⟩,l4⟩:=ag hm (u:=.pointer (some ⟨a.b,a.o+(off+n*aH.size),none⟩)) (by simp only[aT];exact⟨a,aC,rfl⟩) av;cases az;refine⟨λac w Q ⟨β,a5⟩=>?_⟩;obtain⟨inf,z,hi,fb,hV,iq,kM⟩:=(aN _ _ he).inf;obtain⟨d,fk,ft⟩:=(aN _ _ hu).fi;obtain⟨ib,pf,lM⟩:=(aN _ _ ay).fi;have tX:ib=.slice e:=by cases ib<;>simp_all[e8]
  subst tX;have au:w.heap[a.b]?=some (.cells arr T (0,0)):=a5.holds.m ⟨a.b,.cells arr T (0,0)⟩ (by rw[a1];simp);have uO:=dh a5.al es;have BE:=dh a5.al ex;rw[<-fb]at gG;have eV:=Ze (P:=X.P) (w:=w) t u o.type e inf pf fk (λk bq=>fA k (by rw[<-ft,bq];rfl)) hi au (w4 aa) bQ (gG w a5.holds) ak (off:=a.o+off) (by rw[fb];omega);rw[fb,qL]at eV;have pg:=a5.vb (cs':=(bo arr.toList (a.o+(off+n*aH.size)) vs).toArray) a1;refine il (by rw[aw];simp) ?_ ⟨_,_,_,_,⟨β,cV.put (x:=.val (.slice (some ⟨a.b,a.o+off,none⟩) (n+kn) c)) pg ah rfl⟩,?_⟩;·unfold execOp;simp only[aw,resolve,invoke,builtin,cm,c9,b3,sW,cY,kR,uO,BE,eV]
  ·exact k D _ _ bH.oL (by simp only[aT];exact⟨a,aC,rfl⟩) l4
 ·have ai:Nat.ble (Nat.add n kn) c=false:=by
   cases ai:Nat.ble (Nat.add n kn) c with
   |false=>rfl| true=>exact absurd (bS ai) ak
  rw[ai]at h;have aX:tv G m.t (.p id off) (Nat.mul n aH.size) (λdu=>uK m (du++l) e λid m=>some (ao.sx id 0 0 (Nat.add n kn),m))=some (v,m'):=h;obtain⟨ad,du,xs,az,bk,e9,ab⟩:=wq (u:=.pointer (some ⟨a.b,a.o+off,none⟩)) hm (by simp only[aT];exact⟨a,aC,rfl⟩) aX;cases az;obtain⟨m2,bP,aq,eo⟩:=Qn (Y:=dP X G pr) ab;cases bP;have oO:=bk;obtain⟨_,_,_,_,_,_,fD⟩:=oO;refine Qv aN ah aw ay hu fA he es ex fD r9 aa bQ gG (λw hw=>run_firstCells_some (P:=X.P) w aH.size n _ n c xs fD (λj v an=>bk.Qt hw j v an)) nx gq (λgZ=>(ak gZ).elim) λ_ b cap aK bA aJ Hk Hl Hm=>?_;refine k _ _ _ bH.D9 ?_ (eo aK hm aJ (e9.append av) (Hj Hm) Hl);simp only[aT];exact⟨_,bH.pN _ _ _,by simpa using Hk,by simp⟩
def akN(aN:c2 X.P X.E)(ah:∀ d,o.dst=some d->d<X.n){u:Nat}(aw:o.op=.call { callee:=.builtin .append,args:=#[os,qw],argTypes:=#[t,u] })
 {e:Nat} (ay:X.E t=some ⟨cu,b1,wb,.slice e⟩) (hu:X.E u=some nu) (fA:∀ k,nu.bE≠.int k) (he:X.E e=some aH) {us:Value} {id n e1 kn:Nat} {cs:bg ao}
  (es:bB F os=.val us) (gs:aT D (.sx id 0 0 n) us) (ex:bB F qw=.val lH) (au:m.t.get id=some (.cells cs e e1)) {l:List ao} (h:PU m id n cs e1 l kn aH.size e=some (v,m')) (nx:n+kn<=maxLen) (gq:(n+kn)*aH.bytes<=140737488355328)
  (av:bG D l vs) (r9:vs.length=kn*aH.size) (aa:fO vs=true) (bQ:∀ w',(Builtin.lenOf lH).run X.P w'=.ok kn w') (gG:∀ w,ew I M w->(Builtin.firstCells aH.size kn lH).run X.P w=.ok vs.toArray w)
  (hm:dc (dP X G pr) D m I M) (k:rA X G pr D m I M v m' o.dst F C K):bn X o F C I M K:=by
 obtain⟨a,aC,bs,rfl⟩:=gs.uM;have pX:=hm.ih _ _ _ au aC;obtain⟨arr,yd,a1,df,aA,af,jP⟩:=pX;unfold PU at h;obtain⟨zJ,h⟩:=fw h;have Zg:n*aH.size<=e1:=bS zJ;obtain⟨t1,ab,ag⟩:=bg.oI (none:Option e0) m.t id;rw[ab]at h;obtain⟨cs',aW,bC⟩:=bg.ya l cs (Nat.mul n aH.size);have aX:bg.x5 l cs (Nat.mul n aH.size) (λcs=>Bt (⟨t1,m.n⟩:bm) (.cells cs e (Nat.mul (Nat.add n kn) aH.size)) λid m=>some (ao.sx id 0 0 (Nat.add n kn),m))=some (v,m'):=h;rw[aW]at aX;obtain⟨t2,bP,eo⟩:=Hg aX;cases eo;have j3:∀ i eR,t1.get i=some eR->i≠id/\m.t.get i=some eR:=λi eR hi=>by
  rcases ag i eR hi with⟨_,fo⟩ | fo;·cases fo
  ·exact fo
 have Zh:dc (dP X G pr) D ⟨t1,m.n⟩ I M:=⟨λi eR b hi=>hm.ih i eR b (j3 i eR hi).2,λi fx eR zN b hb hi c7=>hm.inj i fx eR zN b hb (j3 i eR hi).2 (j3 fx zN c7).2,hm.jt,hm.qz⟩;have Zi:arr.size=a.c*aH.size:=by have:=af aH he;rw[yd,c0]at this;exact this
 have KT:=av.len;have sp:((arr.toList.take (n*aH.size)).length=n*aH.size):=by rw[hh,Av];omega
 have Gg:∀ j,j<n*aH.size->∀ v,cs.get j=some v->∃ x,(arr.toList.take (n*aH.size))[j]?=some x/\aT D v x:=λj an v aj=>by obtain⟨x,a3,a6⟩:=aA j v (by omega) aj;rw[yd,c0]at a3;exact⟨x,by rw[j9,cn an];simpa using a3,a6⟩
 have Zj:∀ (bx:bH) (M':List aB) (b eG:Nat) (bb:List Value),D.le bx->(⟨b,.cells (arr.toList.take (n*aH.size)++vs++bb).toArray e (0,0)⟩:aB)∈M'->(arr.toList.take (n*aH.size)++vs++bb).length=eG*aH.size->eG<=maxLen ->
   k9 bx X.E M' ⟨b,0,eG⟩ (.cells cs' e (Nat.mul (Nat.add n kn) aH.size)):=by
  intro bx M' b eG bb di GN XK akO;have hmul:(n+kn)*aH.size=n*aH.size+kn*aH.size:=kS _ _ _;refine .cells _ rfl GN ?_ (λi v hi Hi=>?_) (λi hi=>?_) akO;·show 0+(n+kn)*aH.size<=_;rw[mE,cI,cI,sp,r9];omega
  ·have c7:i<n*aH.size+kn*aH.size:=by have:i<(n+kn)*aH.size:=hi;omega
   simp only[c0,Ab];rcases bC i v Hi with⟨a3,a6⟩ | ⟨a3,a6⟩;·have K5:n*aH.size<=i:=a3;obtain⟨x,bI,eQ⟩:=av.get (i:=i-n*aH.size) a6;refine⟨x,?_,eQ.mono di⟩;rw[fq,o9 (by omega),sp,tK (by omega)];exact bI
   ·have K5:i<n*aH.size:=by
     rcases a3 with a3 | a3;·exact a3
     ·have:n*aH.size+l.length<=i:=a3;omega
    obtain⟨x,bI,eQ⟩:=Gg i K5 v a6;refine⟨x,?_,eQ.mono di⟩;rw[fq,tK (by omega)];exact bI
  ·rw[he]at hi;cases hi;simpa using XK
 refine Qv aN ah aw ay hu fA he es ex sp r9 aa bQ gG (λw hw=>?_) nx gq (λak=>?_) λ_ b cap aK bA aJ Hk Hl Hm=>?_
 ·refine run_firstCells_some (P:=X.P) w aH.size n _ n _ _ sp λj v an=>?_;rw[dL _ rfl,sL (hw.m _ a1)];rw[j9]at an;split at an
  ·rw[yd];simpa using an
  ·cases an
 ·
  obtain⟨bc,post,ch⟩:=uH a1;rw[xG]at ak;have ga:a.o+0+n*aH.size+vs.length<=arr.size:=by have fe:=rH aH.size ak;rw[kS]at fe;rw[yd,Zi,r9];omega
  refine⟨a.b,a.o+0,e,arr,bc,post,rfl,ch,ga,?_⟩;have Zk:bo arr.toList (a.o+0+n*aH.size) vs=arr.toList.take (n*aH.size)++vs++arr.toList.drop (n*aH.size+vs.length):=by rw[yd];simp only[bo,c0]
  rw[Zk];have rS:∀ q∈M,q.num≠a.b->q∈bc++(⟨a.b,.cells (arr.toList.take (n*aH.size)++vs++arr.toList.drop (n*aH.size+vs.length)).toArray e (0,0)⟩:aB)::post:=λq aM aq=>by
   rw[ch]at aM;rcases dQ.1 aM with aM | aM;·exact dQ.2 (.inl aM)
   ·rcases ef.1 aM with rfl | aM
    ·exact(aq rfl).elim
    ·exact dQ.2 (.inr (nQ _ aM))
  have Hn:∀ i eR b,t1.get i=some eR->D i=some b->b.b≠a.b:=λi eR b hi ai xZ=>(j3 i eR hi).1 (hm.inj _ _ _ _ _ _ (j3 i eR hi).2 au ai aC xZ);refine k _ _ _ bH.D9 ?_ (Zh.step (m:=⟨t1,m.n⟩) (j:=m.n) (λi eR hi=>(bP i eR hi).imp (λq=>⟨q.1,oJ q.2⟩) λq=>q) (D.pN _ ⟨a.b,0,a.c⟩) (bH.zH _ hm.fresh) (λi hi=>by unfold bH.set;rw[cb hi]) (λi b ai=>?_) (λ_ _ h=>h) (λi eR b bK hi ai q aM aq=>rS q aM (by rw[aq];exact Hn i eR b hi ai)) (Zj _ _ _ _ (arr.toList.drop (n*aH.size+vs.length)) (bH.zH _ hm.fresh) (by simp) ?_ jP) λi eR b bK hi ai=>Hn i eR b hi ai);·simp only[aT];exact⟨_,bH.pN _ _ _,by simpa using ak,by rw[yd];rfl⟩
  ·unfold bH.set at ai;split at ai
   ·show i<m.n+1;omega
   ·have:=hm.jt _ _ ai;show i<m.n+1;omega
  ·rw[<-Zk,Qp (by simpa using ga)];simpa using Zi
 ·
  refine k _ _ _ bH.D9 ?_ (Zh.new (m:=⟨t1,m.n⟩) (a:=⟨b,0,cap⟩) bP aJ (Zj _ _ _ _ _ (bH.zH _ hm.fresh) (by simp) Hm Hl));simp only[aT];exact⟨_,bH.pN _ _ _,by simpa using Hk,by simp⟩
def akP(aN:c2 X.P X.E)(ah:∀ d,o.dst=some d->d<X.n){u:Nat}(aw:o.op=.call { callee:=.builtin .append,args:=#[os,qw],argTypes:=#[t,u] })
 {e:Nat} (ay:X.E t=some ⟨cu,b1,wb,.slice e⟩) {s x:ao} (rr:wj (X.E u) aH x=true) (he:X.E e=some aH) {kn:Nat} (af:sj x=some kn) (ar:kn≠0) {us:Value}
  (es:bB F os=.val us) (gs:aT D s us) (ex:bB F qw=.val lH) (zM:aT D x lH) (h:DU G m.t x aH.size (Qx X G m s x aH kn e)=some (v,m'))
  (hm:dc (dP X G pr) D m I M) (k:rA X G pr D m I M v m' o.dst F C K):bn X o F C I M K:=by
 obtain⟨l,vs,ab,av,bQ,gG,r9,_⟩:=akF (ut:=X.E u) h rr zM hm af ar;have ag:b5 (Nat.beq kn 0) (b5 (DW s) (some (s,m)) none) (b5 (l.all ao.one) (G3 G m s l kn aH.size aH.bytes e) none)=some (v,m'):=ab;rw[g3 ar]at ag;have aW:b5 (l.all ao.one) (G3 G m s l kn aH.size aH.bytes e) none=some (v,m'):=ag;obtain⟨ll,aW⟩:=fw aW;have aa:=av.one ll;obtain⟨nu,hu,fA⟩:=Zf rr;have Hj:∀ {q:List Value} {c:Nat},q.length=c*aH.size->∀ i,(dP X G pr).E e=some i->q.length=c*i.size:=λaM i hi=>by have:X.E e=some i:=hi;rw[he]at this;cases this;exact aM
 cases s<;>simp only[G3]at aW<;>first | cases aW | skip
 case sn=>
  obtain⟨ai,bC⟩:=fw aW;rw[b']at ai;obtain⟨m2,bP,aq,eo⟩:=Qn (Y:=dP X G pr) bC;cases bP;have g8:=gs.Bz;subst g8;have nx:0+kn<=maxLen:=by rw[c0];exact bS ai.2
  have gq:(0+kn)*aH.bytes<=140737488355328:=by rw[c0];exact bS ai.1
  refine Qv aN ah aw ay hu fA he (n:=0) (c:=0) (xs:=[]) es ex (by simp) r9 aa bQ gG (λw _=>by simp[run_firstCells_none]) nx gq (λak=>by omega) λ_ b cap aK bA aJ Hk Hl Hm=>?_;refine k _ _ _ bH.D9 ?_ (eo aK hm aJ av (Hj Hm) Hl);simp only[aT];exact⟨_,bH.pN _ _ _,by simpa using Hk,by simp⟩
 case sl=>
  obtain⟨ai,bC⟩:=fw aW;rw[b']at ai;exact akM aN ah aw ay hu fA he es gs ex bC (bS ai.2) (bS ai.1) av r9 aa bQ gG hm k
 case sx=>
  split at aW;·rename_i au;obtain⟨ai,bC⟩:=fw aW;simp only[b']at ai;obtain⟨⟨fB,fC⟩,r6,JP,JQ⟩:=ai;have d1:=c6 fB;have d2:=c6 fC;have d3:=c6 r6;subst d1;subst d2;subst d3;exact akN aN ah aw ay hu fA he es gs ex au bC (bS JQ) (bS JP) av r9 aa bQ gG hm k
  ·cases aW
def akQ(aN:c2 X.P X.E)(ah:∀ d,o.dst=some d->d<X.n)(aw:o.op=.call { callee:=.builtin .append,args:=args,argTypes:=ts })(h:PW (dP X G pr) m ts.toList (nR al args.toList)=some (v,m'))
  (H:iJ D F al args.toList) (hm:dc (dP X G pr) D m I M) (k:rA X G pr D m I M v m' o.dst F C K):bn X o F C I M K:=by
 unfold PW at h;split at h
 ·rename_i t u s x ay av;split at h
  ·rename_i sa sm sz e n8;obtain⟨aH,he,h⟩:=ct h;obtain⟨rr,h⟩:=fw h;obtain⟨os,qw,ms,fs,wx⟩:=K4 av;obtain⟨us,es,gs⟩:=H.bB (x:=os) (by rw[ms];simp) fs;obtain⟨lH,ex,zM⟩:=H.bB (x:=qw) (by rw[ms];simp) wx;have BC:args=#[os,qw]:=by apply gO;simpa using ms
   have BD:ts=#[t,u]:=by apply gO;simpa using ay
   have o8:o.op=.call { callee:=.builtin .append,args:=#[os,qw],argTypes:=#[t,u] }:=by rw[aw,BC,BD]
   cases af:sj x with
   |none=>
    exfalso;unfold wj at rr;split at rr<;>first | (cases rr;done) | (simp[sj,wi]at af;done)
   |some kn=>
    rw[af]at h;by_cases ar:kn=0;·subst ar;exact akL aN ah o8 n8 rr he af es gs ex zM h hm k
    ·exact akP aN ah o8 n8 rr he af ar es gs ex zM h hm k
  ·cases h
 ·cases h
end
section
variable{X:c3}{G:GT}{pr:ly}{D:bH}{m m':bm}{F:Fr}{al:bg ao}{C:dp}{I:aZ}{M:List aB}{K:fX}{o:Oper}{v:ao}
def akR(aN:c2 X.P X.E)(ah:∀ d,o.dst=some d->d<X.n)(aw:o.op=.call { callee:=.builtin .unsafeString,args:=args,argTypes:=ts })(h:PY (dP X G pr) m ts.toList (nR al args.toList)=some (v,m'))
  (H:iJ D F al args.toList) (hm:dc (dP X G pr) D m I M) (k:rA X G pr D m I M v m' o.dst F C K):bn X o F C I M K:=by
 unfold PY at h;split at h
 ·rename_i tW it ay av;cases h;obtain⟨op,on,ms,aa,ab⟩:=K4 av;obtain⟨tz,az,a3⟩:=H.bB (x:=op) (by rw[ms];simp) aa;obtain⟨oM,aE,a6⟩:=H.bB (x:=on) (by rw[ms];simp) ab;have BC:args=#[op,on]:=by apply gO;simpa using ms
  have BD:ts=#[tW,it]:=by apply gO;simpa using ay
  have K5:tz=.pointer none:=by simpa only[aT]using a3
  subst K5;rw[a6.int]at aE;refine bn.T0 (by rw[aw,BC,BD]) ah az aE (k D _ M bH.oL ?_ hm);simp only[aT];rfl
 ·rename_i tW it id n ay av;split at h
  ·rename_i sa sm sz e cs T e1 akS au;obtain⟨aH,he,eo⟩:=ct h;obtain⟨ai,fo⟩:=fw eo;simp only[b']at ai;obtain⟨op,on,ms,aa,ab⟩:=K4 av;obtain⟨tz,az,a3⟩:=H.bB (x:=op) (by rw[ms];simp) aa;obtain⟨oM,aE,a6⟩:=H.bB (x:=on) (by rw[ms];simp) ab;have BC:args=#[op,on]:=by apply gO;simpa using ms
   have BD:ts=#[tW,it]:=by apply gO;simpa using ay
   rw[a6.int]at aE;obtain⟨a,aC,rfl⟩:=a3.ptr;have pX:=hm.ih _ _ _ au aC;obtain⟨arr,yd,a1,df,aA,af,jP⟩:=pX;have Hj:=c6 ai.2.1;subst Hj;unfold tv at fo;simp only[au]at fo;cases Qy:Nat.ble (Nat.add 0 n) e1 with
   |false=>rw[Qy]at fo;cases fo| true=>
   rw[Qy]at fo;simp only[bl]at fo;have mg:0+n<=e1:=bS Qy;obtain⟨l,fB,fC,fe⟩:=bg.D3 cs n 0 _ _ fo;obtain⟨cM,t',pi⟩:=ct fe;obtain⟨Na,Ho⟩:=fw pi;obtain⟨t1,aW,bC⟩:=bg.oI (none:Option e0) m.t id;rw[aW]at Ho;cases Ho;have r4:(arr.toList.take n).length=n:=by rw[hh,Av];omega
   have akT:bG D l (arr.toList.take n):=bG.Qc (by rw[r4,fB]) λi v hi=>by
    have fK:i<n:=by rw[<-fB];exact(hT.1 hi).1
    obtain⟨x,bI,eQ⟩:=aA i v (by omega) (by have:=fC i fK;rw[c0]at this;rw[this,hi]);rw[yd,c0]at bI;exact⟨x,by rw[j9,cn fK];simpa using bI,eQ⟩
   have h7:=Qr t' akT;have oe:cM.length=n:=by have:=congrArg List.length h7;rw[r4]at this;simpa using this.symm
   obtain⟨bc,post,ch⟩:=uH a1;have j5:M.Perm (⟨a.b,.cells arr T (0,0)⟩::(bc++post)):=by rw[ch];exact qk
   have lJ:arr.toList.take cM.length=cM.map λb=>Value.int .u8 b.toNat:=by rw[oe];exact h7
   have ar:cM≠[]:=λbq=>by subst bq;have:0<n:=bS ai.2.2;simp at oe;omega
   have ei:bB F op=.val (.pointer (some ⟨a.b,0,none⟩)):=by rw[az,yd]
   have eC:bB F on=.val (.int .i64 cM.length):=by rw[aE,oe];rfl
   refine bn.M9 aN (by rw[aw,BC,BD]) ah akS rfl he (c6 ai.1) ei eC ar (by rw[oe];exact bS Na) j5 lJ ?_;have j3:∀ i eR,t1.get i=some eR->i≠id/\m.t.get i=some eR:=λi eR hi=>by
    rcases bC i eR hi with⟨_,fo⟩ | fo;·cases fo
    ·exact fo
   refine k D _ _ bH.oL (by simp only[aT]) ⟨λi eR b hi nx=>?_,λi fx eR zN b hb hi c7=>hm.inj i fx eR zN b hb (j3 i eR hi).2 (j3 fx zN c7).2,hm.jt,hm.qz⟩;refine(hm.ih i eR b (j3 i eR hi).2 nx).mono (bH.le_refl D) λq aM aq=>?_;rcases ef.1 (j5.mem_iff.1 aM)with rfl | aM;·exact((j3 i eR hi).1 (hm.inj _ _ _ _ _ _ (j3 i eR hi).2 au nx aC aq.symm)).elim
   ·exact aM
  ·cases h
 ·cases h
def akU(aN:c2 X.P X.E)(ah:∀ d,o.dst=some d->d<X.n){v:ao}(aw:o.op=.slice t x (some lo) (some hi) (some mx))(h:PQ X.E t (dm al x) (dm al lo) (dm al hi) (dm al mx)=some v)
  (H:iJ D F al o.op.operands.toList) (hm:dc (dP X G pr) D m I M) (k:∀ x,fV D x v->K (put o.dst x F) C I M):bn X o F C I M K:=by
 unfold PQ at h;split at h
 ·rename_i sz hU z e id off n c eg l cA aX gu fG ay ae e9 fY jP;obtain⟨aH,he,eo⟩:=ct h;obtain⟨ai,fo⟩:=fw eo;simp only[b']at ai;obtain⟨b1,cd,dN,e6⟩:=ai;cases fo;have b1:=bS b1;have cd:=bS cd;have dN:=bS dN;have e6:l+1<=fG:=bS e6;obtain⟨Gi,cG,zO⟩:=H.bB (x:=x) (by rw[aw];simp[Op.operands]) ae;obtain⟨tz,az,a3⟩:=H.bB (x:=lo) (by rw[aw];simp[Op.operands]) e9;obtain⟨oM,aE,a6⟩:=H.bB (x:=hi) (by rw[aw];simp[Op.operands]) fY;obtain⟨Ea,bz,bI⟩:=H.bB (x:=mx) (by rw[aw];simp[Op.operands]) jP;rw[a3.int]at az;rw[a6.int]at aE;rw[bI.int]at bz;simp only[aT]at zO;obtain⟨a,aC,rfl⟩:=zO;refine bn.slice3 aN aw ah ay rfl he l aX fG cG az aE bz b1 cd dN (k _ (.val ?_));simp only[aT];refine⟨a,aC,?_⟩;rw[cb (by omega),ka,dL _ rfl];simp only[zy,DL,DM,qL]
 ·cases h
def akV(aN:c2 X.P X.E)(ah:∀ d,o.dst=some d->d<X.n){v:ao}(aw:o.op=.slice t x none (some hi) (some mx))(h:PP X.E t (dm al x) (dm al hi) (dm al mx)=some v)
  (H:iJ D F al o.op.operands.toList) (hm:dc (dP X G pr) D m I M) (k:∀ x,fV D x v->K (put o.dst x F) C I M):bn X o F C I M K:=by
 unfold PP at h;split at h
 ·rename_i sz hU z e id off n c cA aX gu fG ay ae fY jP;obtain⟨aH,he,eo⟩:=ct h;obtain⟨ai,fo⟩:=fw eo;simp only[b']at ai;obtain⟨cd,dN,e6⟩:=ai;cases fo;have cd:=bS cd;have dN:=bS dN;have e6:0+1<=fG:=bS e6;obtain⟨Gi,cG,zO⟩:=H.bB (x:=x) (by rw[aw];simp[Op.operands]) ae;obtain⟨oM,aE,a6⟩:=H.bB (x:=hi) (by rw[aw];simp[Op.operands]) fY;obtain⟨Ea,bz,bI⟩:=H.bB (x:=mx) (by rw[aw];simp[Op.operands]) jP;rw[a6.int]at aE;rw[bI.int]at bz;simp only[aT]at zO;obtain⟨a,aC,rfl⟩:=zO;refine bn.Xx aN aw ah ay rfl he aX fG cG aE bz cd dN (k _ (.val ?_));simp only[aT];refine⟨a,aC,?_⟩;rw[cb (by omega),ka,dL _ rfl];simp
 ·rename_i sz hU z e id off aE n cA aX gu fG ay ae fY jP;obtain⟨aH,he,eo⟩:=ct h;obtain⟨ai,fo⟩:=fw eo;simp only[b']at ai;obtain⟨cd,dN,e6⟩:=ai;cases fo;have cd:=bS cd;have dN:=bS dN;have e6:0+1<=fG:=bS e6;obtain⟨Gi,cG,zO⟩:=H.bB (x:=x) (by rw[aw];simp[Op.operands]) ae;obtain⟨oM,aE,a6⟩:=H.bB (x:=hi) (by rw[aw];simp[Op.operands]) fY;obtain⟨Ea,bz,bI⟩:=H.bB (x:=mx) (by rw[aw];simp[Op.operands]) jP;rw[a6.int]at aE;rw[bI.int]at bz;simp only[aT]at zO;obtain⟨a,aC,bs,rfl⟩:=zO;refine bn.Xx aN aw ah ay rfl he aX fG cG aE bz cd (by omega) (k _ (.val ?_));simp only[aT];refine⟨a,aC,?_⟩;rw[cb (by omega),ka,dL _ rfl];simp
 ·cases h
def akW(ah:∀ d,o.dst=some d->d<X.n){v:ao}(aw:o.op=.unOp .xor t x)(h:PR (dm al x)=some v)(H:iJ D F al o.op.operands.toList)(k:∀ x,fV D x v->K (put o.dst x F) C I M):gQ X o F C I M K:=by
 unfold PR at h;split at h
 ·rename_i n ae;cases h;obtain⟨u,e,hu⟩:=H.bB (x:=x) (by rw[aw];simp[Op.operands]) ae;rw[hu.int]at e;have q:bn X o F C I M K:=bn.FG aw ah e (k _ (.val (by simp only[aT])));obtain⟨dst,BF,ty,pos,after,guard⟩:=o;simp only at aw;subst aw;exact q
 ·cases h
def akX(aw:o.op=.slice t x none (some hi) (some mx))(k:bn X o F C I M K):gQ X o F C I M K:=by
 obtain⟨dst,BF,ty,pos,after,guard⟩:=o;simp only at aw;subst aw;simp only[gQ,cF];split<;>first | exact k | (rename_i e;cases e)
def akY(aw:o.op=.slice t x (some lo) (some hi) (some mx))(k:bn X o F C I M K):gQ X o F C I M K:=by
 obtain⟨dst,BF,ty,pos,after,guard⟩:=o;simp only at aw;subst aw;simp only[gQ,cF];split<;>first | exact k | (rename_i e;cases e)
def Zl:Op->Bool
 | .makeMap .. | .lookup .. | .mapUpdate .. | .insert ..=>true| .call { callee:=.builtin .append,.. }=>true| .call { callee:=.builtin .copy,.. }=>true| .call { callee:=.builtin .unsafeString,.. }=>true| _=>false
def zP{op:Op}(aw:o.op=op)(h:Zl op=true)(k:bn X o F C I M K):gQ X o F C I M K:=by
 obtain⟨dst,BF,ty,pos,after,guard⟩:=o;simp only at aw;subst aw;unfold Zl at h;split at h<;>first | exact k | cases h
def akZ(aN:c2 X.P X.E)(ah:∀ d,o.dst=some d->d<X.n)(h:PZ (dP X G pr) m o al=some (v,m'))(H:iJ D F al o.op.operands.toList)(hm:dc (dP X G pr) D m I M)(k:rA X G pr D m I M v m' o.dst F C K):gQ X o F C I M K:=by
 unfold PZ at h;split at h
 ·rename_i t x y aw;exact akv aw h H hm k
 ·rename_i t aw;exact zP aw rfl (Y' aN ah aw h (by simp) hm k)
 ·rename_i t x aw;split at h
  ·rename_i fG n ae;refine zP aw rfl (Y' aN ah aw h (λy aF=>?_) hm k);cases aF;obtain⟨u,az,a3⟩:=H.bB (x:=x) (by rw[aw];simp[Op.operands]) ae;rw[a3.int]at az;exact⟨_,_,az⟩
  ·cases h
 ·rename_i t x y ok aw;exact zP aw rfl (akx aN ah aw h H hm k)
 ·rename_i t x y z aw;exact zP aw rfl (Zb aN (.inl aw) h H hm k)
 ·rename_i t x y z aw;exact zP aw rfl (Zb aN (.inr aw) h H hm k)
 ·rename_i s d x aw;have Qz:=akz aN ah aw h H hm k;obtain⟨dst,BF,ty,pos,after,guard⟩:=o;simp only at aw;subst aw;have mq:∃ a b z,X.E d=some ⟨a,b,z,.string⟩:=by
   unfold KK at h;split at h;·exact⟨_,_,_,by assumption⟩
   ·exact⟨_,_,_,by assumption⟩
   ·exact⟨_,_,_,by assumption⟩
   ·cases h
  obtain⟨a,b,z,mq⟩:=mq;simp only[gQ,cF,mq];split;·rename_i e _;cases e
  ·exact Qz
 ·rename_i b args ts aw;have QA:iJ D F al args.toList:=by rw[aw]at H;simpa[Op.operands,Call.operands]using H
  unfold YA at h;split at h;·exact zP aw rfl (akQ aN ah aw h QA hm k)
  ·exact zP aw rfl (akA aN ah aw h QA hm k)
  ·exact zP aw rfl (akR aN ah aw h QA hm k)
  ·cases h
 ·cases h
end
def Hp(Y:gz)(call:ao->List ao->bm->Option (ao×bm)):Prop:=∀ f l m v m',call f l m=some (v,m')->∀ (D:bH) (I:aZ) (M:List aB) (u:Value) (us:List Value),aT D f u->bG D l us->dc Y D m I M -> (∃ g cE cs,u=.func (.func g) cE cs/\Spec Y.P g (cE.toList++us++cs.toList) I M λr I' M'=>∃ bx,D.ext bx m.n/\aT bx v r/\dc Y bx m' I' M') \/ ∃ q,u=.func (.yield q) #[] #[]/\Ft Y.P q us I M λr I' M'=>∃ bx,D.ext bx m.n/\aT bx v r/\dc Y bx m' I' M'
def uP(dst:Option Nat)(v:ao)(D:bH)(F cH:Fr):Prop:=(∀ d,dst=some d->fV D (cH d) v)/\∀ (D:bH) t rz,dst≠some t->fV D (F t) rz->fV D (cH t) rz
def uP.put{v:ao}{D:bH}{x:dn}(F:Fr)(h:fV D x v):uP dst v D F (put dst x F):=by
 constructor
 ·rintro d rfl;simpa[Go.V.put,fz]using h
 ·intro D t rz bK h;cases dst with
  |none=>exact h| some d=>have:t≠d:=λe=>bK (by rw[e]);simp only[Go.V.put,fz,g3 this,bh];exact h
def zI.v{u:Value}{cH:Fr}(h:zI dst u F cH){D:bH}{v:ao}(aj:aT D v u):uP dst v D F cH:=⟨λd ah=>by rw[h.1 d ah];exact .val aj,h.2⟩
section
variable{X:c3}{G:GT}{pr:ly}{D:bH}{m m':bm}{F:Fr}{al:bg ao}{C:dp}{I:aZ}{M:List aB}{K:fX}{o:Oper}{v:ao}
def K6(X:c3)(G:GT)(pr:ly)(o:Oper)(al:bg ao)(m:bm)(v:ao)(m':bm):Prop:=m.n<=m'.n/\∀ (D:bH) (F:Fr) (C:dp) (I:aZ) (M:List aB) (K:fX),iJ D F al o.op.operands.toList->dc (dP X G pr) D m I M -> (∀ bx cH C' I' M',D.ext bx m.n->uP o.dst v bx F cH->dc (dP X G pr) bx m' I' M'->K cH C' I' M')->gQ X o F C I M K
def ak0{op:Op}(aw:o.op=op)(af:k8 X.E op=0)(h:cF X op (dq F) C I M (λx=>K (put o.dst x F) C I M) (bn X o F C I M K)):gQ X o F C I M K:=by
 obtain⟨dst,BF,ty,pos,after,guard⟩:=o;simp only at aw;subst aw;cases BF with
 |call c=>
  obtain⟨callee,args,ts⟩:=c;cases callee with
  |value f=>simp[k8]at af| invoke r n=>exact h| builtin b=>exact h
 |alloc t=>simp[k8]at af| box t x=>simp[k8]at af| store t x y=>simp[k8]at af| buildSlice t l ps=>simp[k8]at af| makeSlice t l c=>simp[k8]at af| _=>exact h
def Zm(aN:c2 X.P X.E)(ah:∀ d,o.dst=some d->d<X.n){v:ao}(af:k8 X.E o.op=0)(h:uJ X.P X.E G m.t o.op al=some v)(H:iJ D F al o.op.operands.toList)(hm:dc (dP X G pr) D m I M)
  (k:∀ x,fV D x v->K (put o.dst x F) C I M):gQ X o F C I M K:=by
 unfold uJ at h;split at h
 ·rename_i t x aw;exact akW ah aw h H k
 ·rename_i t x lo hi mx aw;exact akY aw (akU aN ah aw h H hm k)
 ·rename_i t x hi mx aw;exact akX aw (akV aN ah aw h H hm k)
 ·exact ak0 rfl af (akj aN h H hm k)
def QB{K:bg ao->Option R}{r:R}(h:pL dst al v K=some r):∃ da,K da=some r/\(dst=none->da=al)/\∀ d,dst=some d->∀ t w,da.get t=some w->(t=d/\w=v)\/(t≠d/\al.get t=some w):=by
 unfold pL at h;cases dst with
 |none=>exact⟨al,h,λ_=>rfl,λd ah=>by cases ah⟩
 |some d=>
  have aX:(PS v λv=>al.m7 (some v) d K)=some r:=h;rw[ajO]at aX;obtain⟨da,aa,ab⟩:=bg.oI (some v) al d;rw[aa]at aX;refine⟨da,aX,(λe=>by cases e),λA9 ah t w hw=>?_⟩;cases ah;rcases ab t w hw with⟨az,aE⟩ | ⟨az,aE⟩;·exact .inl ⟨az,(oJ aE).symm⟩
  ·exact .inr ⟨az,aE⟩
def Zn(aN:c2 X.P X.E)(jU:∀ d,d<X.n->X.gC.contains d=true)(ah:∀ d,o.dst=some d->d<X.n){call:ao->List ao->bm->Option (ao×bm)}(mi:Hp (dP X G pr) call){K:bg ao->bm->Option R}{r:R}
  (h:zA (dP X G pr) call o al m K=some r):∃ v m' da,K6 X G pr o al m v m'/\(pL o.dst al v λal=>K al m')=some r/\K da m'=some r/\(o.dst=none->da=al)/\∀ d,o.dst=some d->∀ t w,da.get t=some w->(t=d/\w=v)\/(t≠d/\al.get t=some w):=by
 have fin:∀ {v:ao} {m':bm},K6 X G pr o al m v m'->(pL o.dst al v λal=>K al m')=some r->∃ v m' da,K6 X G pr o al m v m'/\(pL o.dst al v λal=>K al m')=some r/\K da m'=some r/\(o.dst=none->da=al)/\∀ d,o.dst=some d->∀ t w,da.get t=some w->(t=d/\w=v)\/(t≠d/\al.get t=some w):=fun {v m'} aA aD=>by obtain⟨da,aa,ab,ag⟩:=QB aD;exact⟨v,m',da,aA,aD,aa,ab,ag⟩
 unfold zA at h;split at h
 ·
  rename_i f args ts aw;unfold YB at h;obtain⟨ak1,aJ,h⟩:=ct h;obtain⟨l,av,h⟩:=ct h;obtain⟨⟨v,m'⟩,aA,h⟩:=ct h;obtain⟨aq,h⟩:=fw h;refine fin ⟨bS aq,λD F C I M K sq hm af=>?_⟩ h;rw[aw]at sq;obtain⟨u,az,a3⟩:=sq.bB (x:=f) (by simp[Op.operands,Call.operands]) aJ;obtain⟨us,aE,a6⟩:=sq.l8 (l:=args.toList) (by intro y aF;simp[Op.operands,Call.operands];exact .inr (by simpa using aF)) av;obtain⟨dst,BF,ty,pos,after,guard⟩:=o;simp only at aw;subst aw;rcases mi _ _ _ _ _ aA D I M u us a3 a6 hm with⟨g,cE,cs,rfl,ap⟩ | ⟨q,rfl,ap⟩
  ·simp only[gQ,az,aE];exact a9.whole _ ap λr I' M' bA ae=>by obtain⟨bx,aa,ab,ag⟩:=ae;exact af bx _ C I' M' aa (.put F (.val ab)) ag
  ·simp only[gQ,az,aE];refine bn.yield rfl ah az aE ⟨M,[],_,by simp,ap,λr I' M' bA ae=>?_⟩;obtain⟨bx,aa,ab,ag⟩:=ae;rw[eh];exact af bx _ C I' M' aa (.put F (.val ab)) ag
 ·rename_i op dB;unfold YF at h;split at h
  ·rename_i e3;unfold YD at h;obtain⟨v,aj,h⟩:=ct h;refine fin ⟨cj _,λD F C I M K sq hm af=>?_⟩ h;exact Zm aN ah e3 aj sq hm λx ae=>af D _ C I M bH.oL (.put F ae) hm
  ·unfold YC at h;obtain⟨d,ft,h⟩:=ct h;obtain⟨⟨l,T,c,mk⟩,aC,h⟩:=ct h;obtain⟨m2,ab,aq,ag⟩:=Qn (Y:=dP X G pr) h;refine fin (v:=mk m.n) (m':=m2) ⟨by omega,λD F C I M K sq hm af=>?_⟩ (by rw[ft];exact ab);refine Y1 aN jU ah aC (by rw[ft];rfl) sq λb vs u cH C' bA aJ h7 bQ aA hu QC=>?_;have aW:=ag (vs:=vs) [] (b:=b) (c:=c) hm aJ h7 (by simpa using bQ) aA;rw[eh]at aW;exact af _ cH C' I _ bH.D9 (QC.v (hu _ _ (bH.pN _ _ _))) aW
  ·unfold YE at h;obtain⟨⟨v,m'⟩,ae,h⟩:=ct h;obtain⟨aq,h⟩:=fw h;refine fin ⟨bS aq,λD F C I M K sq hm af=>?_⟩ h;exact akZ aN ah ae sq hm λbx u M' aa ab ag=>af bx _ C I M' aa (.put F (.val ab)) ag
end
end Go.V
