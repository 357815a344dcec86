/- Part 5 of what the proofs of this seat share: the executor, data in memory, walks.
-/
import Derived.Test.YtmncamccjfmbpaaGreatDoorK4
import Derived.Test.YtmncamccjfmbpaaGreatDoorK2
import Derived.Test.YtmncamccjfmbpaaGreatDoorK3
set_option linter.all false
set_option maxRecDepth 100000
namespace Go.V
open Go
def lO:=@List.mem_cons_of_mem
def qe:=@List.drop_of_length_le
def sc:=@List.append_of_mem
def wD:=@List.length_singleton
def Av:=@Nat.ble_eq_true_of_le
def Dc:=@List.drop_succ_cons
def Gx:=@List.length_take_of_le
def Gy:=@List.getElem?_of_mem
def Gz:=@Int.natCast_nonneg
def GA:=@BitVec.toNat_ofNat
def GB:=@List.length_range
def wE:=@Nat.add_eq
def GC:=@decide_eq_decide
def SC:=@List.drop_append_of_le_length
def Aw:=@Nat.mul_eq
def Ax:=@Nat.sub_eq
def K2:=@Nat.mod_eq_of_lt
def K3:=@List.drop_left
variable{b:Bool}{R α:Type}{a:Int}{x y nA:Operand}{r:Option Nat}{vs aS cs:List Value}{E:Env}{M M0:List aE}{eS:IntKind}{t j g off sz T clock:Nat}{K:Value->Prop}{m:List dm}{os:aU}{aV:Addr}{w:Value}{I:aM}{aB:dt}{c8:Option dt}{P:Program}{args:Array Operand}
noncomputable section
inductive a8(α:Type) where
 |nil| node (x:Option α) (l r:a8 α)
def bM{α:Type}(b:Bool)(x y:α):α:=@Bool.rec (λ_=>α) y x b
def bh{α R:Type}(o:Option α)(x:R)(f:α->R):R:=@Option.rec α (λ_=>R) x f o
section
variable{α R:Type}
def a8.get(t:a8 α):Nat->Option α:=@a8.rec α (λ_=>Nat->Option α) (λ_=>none) (λx _ _ acL acM k=>bM (Nat.beq k 0) x (bM (Nat.beq (Nat.mod k 2) 1) (acL (Nat.div k 2)) (acM (Nat.sub (Nat.div k 2) 1)))) t
def a8.lP(v:Option α)(t:a8 α):Nat->(a8 α->R)->R:=@a8.rec α (λ_=>Nat->(a8 α->R)->R) (λk K=>bM (Nat.beq k 0) (K (.node v .nil .nil)) (K .nil)) (λx l r sl acN k K=>bM (Nat.beq k 0) (K (.node v l r)) (bM (Nat.beq (Nat.mod k 2) 1) (sl (Nat.div k 2) λl=>K (.node x l r)) (acN (Nat.sub (Nat.div k 2) 1) λr=>K (.node x l r)))) t
def a8.Ay(t:a8 α)(off n:Nat):(List α->Option R)->Option R:=@Nat.rec (λ_=>Nat->(List α->Option R)->Option R) (λ_ K=>K []) (λ_ aR off K=>bh (t.get off) none λv=>aR (Nat.add off 1) λl=>K (v::l)) n off
def a8.uS(l:List α)(t:a8 α)(off:Nat)(K:a8 α->R):R:=@List.rec α (λ_=>a8 α->Nat->R) (λt _=>K t) (λv _ aR t off=>t.lP (some v) off λt=>aR t (Nat.add off 1)) l t off
def a8.bare:Nat->a8 α
 |0=>.nil| n+1=>.node none (a8.bare n) (a8.bare n)
end
inductive ao where
 |b(x:Bool) | i (k:IntKind) (n:Int) | s (l:List UInt8)| pn | p (id off:Nat) | g (n off:Nat)| sn | sl (id off n c:Nat) | sx (id off e n:Nat) | gs (g off n c:Nat) | so| mn | m (id:Nat)| f (g:Nat) (l r:List ao) | y (id:Nat) | fn| ni | Dd (t:Nat) (v:ao)| t (l:List ao) | a (l:List ao)
def ao.cells:ao->List ao
 | .a l=>l| v=>[v]
def ao.one:ao->Bool
 | .a _ | .t _=>false| _=>true
def De:Value->Option ao
 | .bool x=>some (.b x)| .int k n=>some (.i k n)| .string q=>some (.s q.data.toList)| .pointer none=>some .pn| .slice none 0 0=>some .sn| .map none=>some .mn| .nilFunc=>some .fn| .nilIface=>some .ni| _=>none
def uT:List Value->Option (List ao)
 |[]=>some []
 |v::vs=>match De v,uT vs with
  |some x,some l=>some (x::l)| _,_=>none
def Az:Value->Option ao
 | .agg cs=>match uT cs.toList with
  |some l=>some (.a l)| none=>none
 |v=>De v
def ao.nat:ao->Option Nat
 | .i _ (.ofNat n)=>some n| _=>none
inductive eA where
 |cells(cs:a8 ao)(T eV:Nat)| map (es:List (ao×ao))| loop (busy:Bool) (n:Nat) (ak:a8 ao) (ps:List Nat) (et body:Code)| done (c:Code) (n:Nat) (ak:a8 ao) (ps:List Nat) (et body:Code)
structure be where
 t:a8 eA
 n:Nat
def qf:Int->Int->Bool
 | .ofNat a,.ofNat b=>Nat.beq a b| .negSucc a,.negSucc b=>Nat.beq a b| _,_=>false
def yE:Int->Int->Bool
 | .ofNat a,.ofNat b=>Nat.ble a b| .negSucc a,.negSucc b=>Nat.ble b a| .negSucc _,.ofNat _=>true| .ofNat _,.negSucc _=>false
def zr(a b:Int):Bool:=!yE b a
def K4(op:BinOp)(x y:Int):Option Bool:=match op with
 | .eql=>some (qf x y)| .neq=>some (!qf x y)| .lss=>some (zr x y)| .leq=>some (yE x y)| .gtr=>some (zr y x)| .geq=>some (yE y x)| _=>none
def GD:IntKind->Nat
 | .i8=>127 | .i16=>32767 | .i32=>2147483647 | .i64=>9223372036854775807| .u8=>255 | .u16=>65535 | .u32=>4294967295 | .u64=>18446744073709551615
def to(k:IntKind):Int->Int
 | .ofNat n=>bif Nat.ble n (GD k)then .ofNat n else k.wrap (.ofNat n)| n=>k.wrap n
def SD:Int->Int->Int
 | .ofNat a,.ofNat b=>.ofNat (Nat.add a b)| a,b=>a+b
def K5:Int->Int->Int
 | .ofNat a,.ofNat b=>bif Nat.ble b a then .ofNat (Nat.sub a b)else(.ofNat a:Int) - .ofNat b| a,b=>a-b
def SE:Int->Int->Int
 | .ofNat a,.ofNat b=>.ofNat (Nat.mul a b)| a,b=>a*b
def SF:Int->Int->Int
 | .ofNat a,.ofNat b=>.ofNat (Nat.div a b)| a,b=>a.tdiv b
def SG:Int->Int->Int
 | .ofNat a,.ofNat b=>.ofNat (Nat.mod a b)| a,b=>a.tmod b
def SH:Int->Nat->Int
 | .ofNat a,j=>.ofNat (Nat.mul a (Nat.pow 2 j))| a,j=>a*2^j
def SI:Int->Nat->Int
 | .ofNat a,j=>.ofNat (Nat.div a (Nat.pow 2 j))| a,j=>a.fdiv (2^j)
def AA(op:BinOp)(k:IntKind)(x y:Int):Option Int:=
 match k,x,y with
 | .u64,.ofNat a,.ofNat b=>
  bif Nat.ble a 18446744073709551615&&Nat.ble b 18446744073709551615 then
   (match op with
   | .and=>some (.ofNat (Nat.land a b))| .or=>some (.ofNat (Nat.lor a b))| .xor=>some (.ofNat (Nat.xor a b))| .andNot=>some (.ofNat (Nat.land a (Nat.sub 18446744073709551615 b)))| _=>none)
  else none
 |_,_,_=>rv op k x y
def K6(a b:UInt8):Bool:=Nat.beq a.toNat b.toNat
def sd:List UInt8->List UInt8->Bool
 |[],[]=>true| a::l,b::m=>bif K6 a b then sd l m else false| _,_=>false
def AB:ao->ao->Option Bool
 | .b x,.b w=>some (x == w)| .i k x,.i l w=>bM (IntKind.kP k l) (some (qf x w)) none| .s x,.s w=>some (sd x w)| _,_=>none
def SJ:List ao->List ao->Option Bool
 |[],[]=>some true
 |x::l,w::m=>match AB x w with
  |some true=>SJ l m
  |some false=>(match SJ l m with
   |some _=>some false| none=>none)
  |none=>none
 |_,_=>none
def alM:ao->ao->Option Bool
 | .pn,.pn=>some true| .pn,.p _ _=>some false| .p _ _,.pn=>some false| .pn,.g _ _=>some false| .g _ _,.pn=>some false| _,_=>none
def K7(op:BinOp)(k eS:IntKind)(a b:Int):Option ao:=match op with
 | .shl=>(match b with
  | .ofNat j=>some (.i k (to k (SH a (bM (Nat.ble j k.bits) j k.bits))))| _=>none)
 | .shr=>(match b with
  | .ofNat j=>some (.i k (SI a (bM (Nat.ble j k.bits) j k.bits)))| _=>none)
 | .add=>bM (IntKind.kP k eS) (some (.i k (to k (SD a b)))) none| .sub=>bM (IntKind.kP k eS) (some (.i k (to k (K5 a b)))) none| .mul=>bM (IntKind.kP k eS) (some (.i k (to k (SE a b)))) none| .quo=>bM (IntKind.kP k eS) (bM (qf b 0) none (some (.i k (to k (SF a b))))) none| .rem=>bM (IntKind.kP k eS) (bM (qf b 0) none (some (.i k (SG a b)))) none| .and=>bM (IntKind.kP k eS) (bh (AA .and k a b) none λr=>some (.i k r)) none| .or=>bM (IntKind.kP k eS) (bh (AA .or k a b) none λr=>some (.i k r)) none| .xor=>bM (IntKind.kP k eS) (bh (AA .xor k a b) none λr=>some (.i k r)) none| .andNot=>bM (IntKind.kP k eS) (bh (AA .andNot k a b) none λr=>some (.i k r)) none| op=>bM (IntKind.kP k eS) (bh (K4 op a b) none λr=>some (.b r)) none
def K8(op:BinOp)(a b:List UInt8):Option ao:=match op with
 | .eql=>some (.b (sd a b))| .neq=>some (.b (bM (sd a b) false true))| .add=>bM (Nat.ble (Nat.add a.length b.length) 9223372036854775807) (some (.s (a++b))) none| _=>none
def K9(op:BinOp)(c8:Option dt)(a b:Bool):Option ao:=match c8 with
 |some { bE:=.bool,.. }=>
  (match op with
  | .eql=>some (.b (a == b))| .neq=>some (.b (!(a == b)))| _=>none)
 |_=>none
def AD(agg:Bool)(l:List ao):Option ao:=bif agg then some (.a l)else match l with
 |[v]=>some v| _=>none
def yF:Nat->List ao->Option (List ao)
 |0,_=>some []| _+1,[]=>none
 |n+1,v::l=>match yF n l with
  |some r=>some (v::r)| none=>none
def yG{α:Type}:List α->Nat->List α
 |[],_=>[]| v::l,n=>bif Nat.beq n 0 then v::l else yG l (Nat.sub n 1)
def wF(E:Env)(t o:Nat)(l:List ao):Option ao:=bh (E t) none λi=>bM (Nat.beq i.size 0) none <| bh (yF i.size (yG l o)) none λr=>AD i.bE.agg r
def yH(F:Nat->ao->ao->Option Bool)(E:Env)(l m:List ao):List (Nat×Nat)->Option Bool
 |[]=>some true|(t,o)::r=>bh (wF E t o l) none λx=>bh (wF E t o m) none λy=>bh (F t x y) none λb=>bM b (yH F E l m r) (some false)
def SK(P:Program)(t:Nat):Bool:=match P.underlying t with
 |some (.struct cb)=>!P.stoodInHeld t&&cb.toList.all λf=>decide (f.name ≠ "_")
 |_=>false
def uU(P:Program)(E:Env):Nat->Nat->ao->ao->Option Bool
 |0,_,_,_=>none
 |d+1,t,x,y=>bh (E t) none λi=>match i.bE,x,y with
  | .bool,.b a,.b b=>some (a == b)| .int _,.i k a,.i eS b=>bM (IntKind.kP k eS) (some (qf a b)) none| .string,.s a,.s b=>some (sd a b)| .struct cb,.a l,.a m=>bM (SK P t) (yH (uU P E d) E l m cb) none| .array n e,.a l,.a m=>bh (E e) none λaB=>yH (uU P E d) E l m ((List.range n).map λi=>(e,i*aB.size))
  |_,_,_=>none
def Df(P:Program)(E:Env)(op:BinOp)(t:Nat)(l m:List ao):Option ao:=bM (P.eqGuardType P.depth t) none (bh (uU P E 8 t (.a l) (.a m)) none λb=>match op with
 | .eql=>some (.b b)| .neq=>some (.b (!b))| _=>none)
def K':ao->Option Bool
 | .sn=>some true| .sl .. | .sx .. | .gs .. | .so=>some false| _=>none
def La:ao->Option Bool
 | .pn=>some true| .p .. | .g ..=>some false| _=>none
def GF(op:BinOp)(b:Bool):Option ao:=match op with
 | .eql=>some (.b b)| .neq=>some (.b (!b))| _=>none
def Lb(P:Program)(E:Env)(op:BinOp)(t:Nat)(x y:ao):Option ao:=
 match x,y with
 | .i k a,.i eS b=>K7 op k eS a b| .s a,.s b=>K8 op a b| .b a,.b b=>K9 op (E t) a b| .a l,.a m=>Df P E op t l m
 |x,.sn=>bh (E t) none λi=>(match i.bE with
  | .slice _=>bh (K' x) none λb=>GF op b
  |_=>none)
 |x,.pn=>bh (E t) none λi=>(match i.bE with
  | .pointer _=>bh (La x) none λb=>GF op b
  |_=>none)
 |_,_=>none
def tp{α:Type}:List α->Nat->Option α
 |[],_=>none| v::l,n=>bif Nat.beq n 0 then some v else tp l (Nat.sub n 1)
def uV:List ao->Nat->List ao->Option (List ao)
 |cs,0,[]=>some cs
 |_::cs,0,v::vs=>match uV cs 0 vs with
  |some r=>some (v::r)| none=>none
 |c::cs,n+1,vs=>match uV cs n vs with
  |some r=>some (c::r)| none=>none
 |[],_,_=>none
def wG(place:Nat->Option (Nat×Nat)):List ao->List (Nat×ao)->Option (List ao)
 |cells,[]=>some cells
 |cells,(i,v)::bc=>match place i with
  |none=>none
  |some (off,size)=>bif Nat.beq v.cells.length size then(match uV cells off v.cells with
   |some cs=>wG place cs bc| none=>none)else none
def cQ(ak:a8 ao):Operand->Option ao
 | .tmp t=>ak.get t| .const v=>Az v| .global g=>some (.g g 0)| .func f=>some (.f f [] [])
def mb(ak:a8 ao):List Operand->Option (List ao)
 |[]=>some []
 |x::xs=>match cQ ak x,mb ak xs with
  |some v,some l=>some (v::l)| _,_=>none
def AE(ak:a8 ao):List (Nat×Operand)->Option (List (Nat×ao))
 |[]=>some []
 |(i,x)::xs=>match cQ ak x,AE ak xs with
  |some v,some l=>some ((i,v)::l)| _,_=>none
abbrev GT:=Nat->Option (a8 ao)
def q'{R:Type}(G:GT)(m:a8 eA)(x:ao)(n:Nat)(K:List ao->Option R):Option R:=match x with
 | .p id off=>(match m.get id with
  |some (.cells cs _ eV)=>bif Nat.ble (Nat.add off n) eV then cs.Ay off n K else none| _=>none)
 | .g g off=>(match G g with
  |some cs=>cs.Ay off n K| none=>none)
 |_=>none
def Dg(x:ao)(n:Nat):Option ao:=match x with
 | .p id off=>some (.p id (Nat.add off n))| .g g off=>some (.g g (Nat.add off n))| _=>none
def GG(x:ao)(j sz:Nat):Option ao:=match x with
 | .sl id off n _=>bif Nat.blt j n then some (.p id (Nat.add off (Nat.mul j sz)))else none| .sx id off _ n=>bif Nat.blt j n then some (.p id (Nat.add off (Nat.mul j sz)))else none| .gs g off n _=>bif Nat.blt j n then some (.g g (Nat.add off (Nat.mul j sz)))else none| _=>none
def tq:ao->Option Nat
 | .sn | .so=>some 0| .sl _ _ n _ | .sx _ _ _ n | .gs _ _ n _=>some n| _=>none
def qg(v:ao):Option Nat:=match v with
 | .s l=>some l.length| v=>tq v
def Lc(x:ao)(sz l:Nat)(h:Option Nat):Option ao:=match x with
 | .sn=>bif Nat.beq l 0&&Nat.beq (h.getD 0) 0 then some .sn else none
 | .sl id off n c=>let h:=h.getD n
  bif Nat.ble l h&&Nat.ble h c then bif Nat.beq c l then some (.sl id off (Nat.sub h l) 0)else some (.sl id (Nat.add off (Nat.mul l sz)) (Nat.sub h l) (Nat.sub c l))else none
 | .sx id off e n=>let h:=h.getD n
  bif Nat.ble l h&&Nat.ble h n then(bif Nat.beq l 0||Nat.blt l n then some (.sx id (Nat.add off (Nat.mul l sz)) (Nat.add e l) (Nat.sub h l))else some .so)else none
 |_=>none
def yI(o:Option (Option ao)):Option (Option Nat):=match o with
 |none=>some none
 |some (some v)=>(match v.nat with
  |some n=>some (some n)| none=>none)
 |some none=>none
def Ld(l:List UInt8)(lo hi:Nat):List UInt8:=(yG l lo).take (Nat.sub hi lo)
def SL(c a b:Option ao):Option ao:=match c,a,b with
 |some (.b c),some u,some v=>some (bM c u v)| _,_,_=>none
def SM(op:UnOp)(x:Option ao):Option ao:=match op,x with
 | .not,some (.b b)=>some (.b (bM b false true))| .neg,some (.i k n)=>some (.i k (to k (0-n)))| _,_=>none
def SN(P:Program)(E:Env)(op:BinOp)(t:Nat)(x y:Option ao):Option ao:=bh x none λx=>bh y none λy=>Lb P E op t x y
def SO(G:GT)(m:a8 eA)(i:Option dt)(x:Option ao):Option ao:=bh i none λi=>bh x none λx=>q' G m x i.size λl=>AD i.bE.agg l
def SP(x:Option ao):Option ao:=match x with
 |some (.p id off)=>some (.p id off)| some (.g g off)=>some (.g g off)| _=>none
def GH(E:Env)(t i:Nat):Option (Nat×dt):=match E t with
 |some { bE:=.struct cb,.. }=>(match tp cb i with
  |some (eI,off)=>(match E eI with
   |some gu=>some (off,gu)| none=>none)
  |none=>none)
 |_=>none
def SQ(r:Option (Nat×dt))(x:Option ao):Option ao:=bh r none λr=>bh x none λx=>bM (Nat.beq r.2.size 0) none (Dg x r.1)
def GI(aB:dt)(cs:List ao)(off:Nat):Option ao:=bM (Nat.beq aB.size 0) none <| bh (yF aB.size (yG cs off)) none λl=>AD aB.bE.agg l
def SR(r:Option (Nat×dt))(x:Option ao):Option ao:=match r,x with
 |some (off,gu),some (.a cs)=>GI gu cs off| _,_=>none
def Le(E:Env)(t:Nat):Option (Option Nat×dt):=match E t with
 |some { bE:=.slice e,.. }=>(match E e with
  |some aB=>some (none,aB)| none=>none)
 |some { bE:=.array n e,.. }=>(match E e with
  |some aB=>some (some n,aB)| none=>none)
 |_=>none
def SS(r:Option (Option Nat×dt))(x i:Option ao):Option ao:=bh r none λr=>bh x none λx=>bh i none λi=>bh i.nat none λj=>
 bh r.1 (GG x j r.2.size) λn=>bM (Nat.blt j n) (Dg x (Nat.mul j r.2.size)) none
def Lf(l:List UInt8)(j:Nat):Option ao:=bh (tp l j) none λb=>some (.i .u8 (.ofNat b.toNat))
def SU(cs:List ao)(j n:Nat)(aB:dt):Option ao:=bM (Nat.beq (Nat.mul n aB.size) cs.length&&Nat.blt j n) (GI aB cs (Nat.mul j aB.size)) none
def Dh(E:Env)(t:Nat)(x i:Option ao):Option ao:=match E t,x,i with
 |some { bE:=.string,.. },some (.s l),some i=>bh i.nat none λj=>Lf l j
 |some { bE:=.array n e,.. },some (.a cs),some i=>bh (E e) none λaB=>bh i.nat none λj=>SU cs j n aB
 |_,_,_=>none
def Di(o:Option (List ao)):Option ao:=bh o none λl=>some (.a l)
def SV(E:Env)(t:Nat)(ps:Option (List (Nat×ao))):Option ao:=match E t,ps with
 |some i,some vs=>bh (uT i.zero) none λz=>(match i.bE with
  | .struct cb=>bM (zp E cb) (Di (wG (places E cb) z vs)) none| .array _ e=>bh (E e) none λaB=>Di (wG (λj=>some (j*aB.size,aB.size)) z vs)
  |_=>none)
 |_,_=>none
def SW(f:Fn)(cb cs:Option (List ao)):Option ao:=match f,cb,cs with
 | .func g,some cb,some cs=>some (.f g cb cs)| _,_,_=>none
def Lg(aB:dt)(x:ao)(lo hi:Option Nat):Option ao:=match lo,hi with
 |none,none=>(match x with
  | .sn | .sl .. | .sx .. | .so=>some x| _=>none)
 |lo,hi=>Lc x aB.size (lo.getD 0) hi
def Lh(l:List UInt8)(lo hi:Option Nat):Option ao:=match lo,hi with
 |none,none=>some (.s l)| lo,hi=>bM (Nat.ble (lo.getD 0) (hi.getD l.length)&&Nat.ble (hi.getD l.length) l.length) (some (.s (Ld l (lo.getD 0) (hi.getD l.length)))) none
def Dj(E:Env)(t:Nat)(x:Option ao)(lo hi:Option (Option Nat)):Option ao:=match E t,x,lo,hi with
 |some { bE:=.slice e,.. },some x,some lo,some hi=>bh (E e) none λaB=>Lg aB x lo hi
 |some { bE:=.string,.. },some (.s l),some lo,some hi=>Lh l lo hi| _,_,_,_=>none
def SX(x:Option ao)(i:Nat):Option ao:=match x with
 |some (.t vs)=>tp vs i| _=>none
def SY(E:Env)(s d:Nat)(x:Option ao):Option ao:=match E s,E d,x with
 |some _,some { bE:=.int k,.. },some (.i _ n)=>some (.i k (to k n))| _,_,_=>none
def GJ(o:Option Nat):Option ao:=bh o none λn=>some (.i .i64 (.ofNat n))
def SZ(E:Env)(eX:List Nat)(l:Option (List ao)):Option ao:=match eX,l with
 |[t],some [v]=>(match E t,v with
  |some { bE:=.slice _,.. },v=>GJ (tq v)| some { bE:=.string,.. },.s l=>GJ (some l.length)| some { bE:=.array n _,.. },_=>GJ (some n)| _,_=>none)
 |_,_=>none
def S0(l:Option (List ao)):Option ao:=match l with
 |some [.i k a,.i _ b]=>some (.i k (bM (yE a b) b a))| _=>none
def S1(l:Option (List ao)):Option ao:=match l with
 |some [.i k a,.i _ b]=>some (.i k (bM (yE a b) a b))| _=>none
def S2(E:Env)(eX:List Nat)(l:Option (List ao)):Option ao:=match eX,l with
 |[t],some [.sl _ _ _ c]=>(match E t with
  |some { bE:=.slice _,.. }=>some (.i .i64 (.ofNat c))| _=>none)
 |_,_=>none
def S3(l:Option (List ao)):Option ao:=match l with
 |some [.sn]=>some .pn| some [.sl id off n c]=>bM (Nat.beq c 0) none (some (.p id off))| some [.sx id off e n]=>bM (Nat.beq n 0) none (some (.p id off))| _=>none
def Li(E:Env)(b:Builtin)(eX:List Nat)(l:Option (List ao)):Option ao:=match b with
 | .len=>SZ E eX l| .max=>S0 l| .min=>S1 l| .cap=>S2 E eX l| .unsafeSliceData=>S3 l| _=>none
def Lj(P:Program)(E:Env)(G:GT)(m:a8 eA)(op:Op)(ak:a8 ao):Option ao:=
 match op with
 | .move x=>cQ ak x| .assign x=>cQ ak x| .pick c a b=>SL (cQ ak c) (cQ ak a) (cQ ak b)| .unOp op _ x=>SM op (cQ ak x)| .binOp op t x y _=>SN P E op t (cQ ak x) (cQ ak y)| .load t x=>SO G m (E t) (cQ ak x)| .nilCheck x=>SP (cQ ak x)| .fieldAddr t x i=>SQ (GH E t i) (cQ ak x)| .field t x i=>SR (GH E t i) (cQ ak x)| .indexAddr t x i=>SS (Le E t) (cQ ak x) (cQ ak i)| .index t x i=>Dh E t (cQ ak x) (cQ ak i)| .build t parts=>SV E t (AE ak parts.toList)| .makeFunc f first captured=>SW f (mb ak first.toList) (mb ak captured.toList)
 | .slice t x lo hi none=>Dj E t (cQ ak x) (yI (lo.map (cQ ak))) (yI (hi.map (cQ ak)))| .extract x i=>SX (cQ ak x) i| .convert s d x=>SY E s d (cQ ak x)| .call { callee:=.builtin b,args,argTypes }=>Li E b argTypes.toList (mb ak args.toList)| _=>none
def Lk(E:Env)(t:Nat)(x hi mx:Option ao):Option ao:=match E t,x,hi,mx with
 |some { bE:=.slice e,.. },some (.sl id off n c),some (.i _ (.ofNat h)),some (.i _ (.ofNat k))=>bh (E e) none λaB=>
  bM (Nat.ble h k&&(Nat.ble k c&&Nat.blt 0 k)) (some (.sl id off h k)) none
 |some { bE:=.slice e,.. },some (.sx id off a0 n),some (.i _ (.ofNat h)),some (.i _ (.ofNat k))=>bh (E e) none λaB=>
  bM (Nat.ble h k&&(Nat.ble k n&&Nat.blt 0 k)) (some (.sl id off h k)) none
 |_,_,_,_=>none
def Ll(E:Env)(t:Nat)(x lo hi mx:Option ao):Option ao:=match E t,x,lo,hi,mx with
 |some { bE:=.slice e,.. },some (.sl id off n c),some (.i _ (.ofNat l)),some (.i _ (.ofNat h)),some (.i _ (.ofNat k))=>bh (E e) none λaB=>
  bM (Nat.ble l h&&(Nat.ble h k&&(Nat.ble k c&&Nat.blt l k))) (some (.sl id (Nat.add off (Nat.mul l aB.size)) (Nat.sub h l) (Nat.sub k l))) none
 |_,_,_,_,_=>none
def Lm(x:Option ao):Option ao:=match x with
 |some (.i .u64 n)=>some (.i .u64 (h7 n))| _=>none
def se(P:Program)(E:Env)(G:GT)(m:a8 eA)(op:Op)(ak:a8 ao):Option ao:=
 match op with
 | .unOp .xor t x=>Lm (cQ ak x)| .slice t x (some lo) (some hi) (some mx)=>Ll E t (cQ ak x) (cQ ak lo) (cQ ak hi) (cQ ak mx)| .slice t x none (some hi) (some mx)=>Lk E t (cQ ak x) (cQ ak hi) (cQ ak mx)| op=>Lj P E G m op ak
def pi{R:Type}(n:Nat)(K:Nat->R):R:=Nat.casesOn (Nat.add n 1) (K 0) K
def S4{R:Type}(n:Int)(K:Int->R):R:=match n with
 | .ofNat n=>pi n λn=>K (.ofNat n)
 | .negSucc n=>pi n λn=>K (.negSucc n)
def S5{R:Type}(b:Bool)(K:Bool->R):R:=bM b (K true) (K false)
def Ln{R:Type}(v:ao)(K:ao->R):R:=match v with
 | .b x=>S5 x λx=>K (.b x)
 | .i k n=>S4 n λn=>K (.i k n)
 | .p id off=>pi off λoff=>K (.p id off)
 | .g id off=>pi off λoff=>K (.g id off)
 | .sl id off n c=>pi off λoff=>pi n λn=>pi c λc=>K (.sl id off n c)
 | .sx id off e n=>pi off λoff=>pi e λe=>pi n λn=>K (.sx id off e n)
 |v=>K v
def yJ{R:Type}(m:be)(e:eA)(K:Nat->be->R):R:=pi m.n λn=>m.t.lP (some e) n λt=>K n ⟨t,Nat.add n 1⟩
def sf{R:Type}(m:be)(l:List ao)(T:Nat)(K:Nat->be->R):R:=a8.uS l .nil 0 λcs=>yJ m (.cells cs T l.length) K
def uW{R:Type}(m:be)(x:ao)(l:List ao)(K:be->Option R):Option R:=match x with
 | .p id off=>(match m.t.get id with
  |some (.cells cs T eV)=>bif Nat.ble (Nat.add off l.length) eV&&l.all ao.one then a8.uS l cs off λcs=>m.t.lP (some (.cells cs T eV)) id λt=>K ⟨t,m.n⟩else none
  |_=>none)
 |_=>none
def yK:Nat->List ao->List ao
 |0,_=>[]| n+1,z=>z++yK n z
def AF(i:Option dt):Bool:=match i with
 |some { bE:=.int .u8,.. }=>true| _=>false
def tr(u:Option dt)(aB:dt)(x:ao):Bool:=match u,x with
 |some { bE:=.slice _,.. },.sn=>true| some { bE:=.slice _,.. },.so=>true| some { bE:=.slice _,.. },.sl ..=>true| some { bE:=.slice _,.. },.sx ..=>true| some { bE:=.string,.. },.s _=>Nat.beq aB.size 1| _,_=>false
def AG(G:GT)(m:a8 eA)(x:ao)(sz:Nat){R:Type}(K:List ao->Option R):Option R:=match x with
 | .sn | .so=>K []| .sl id off n _ | .sx id off _ n=>q' G m (.p id off) (Nat.mul n sz) K| .s l=>K (l.map λb=>.i .u8 (.ofNat b.toNat))| _=>none
def Lo(G:GT)(m:be)(id off n c:Nat)(l:List ao)(k sz T:Nat):Option (ao×be):=
 bM (Nat.ble (Nat.add n k) c) (uW m (.p id (Nat.add off (Nat.mul n sz))) l λm=>some (.sl id off (Nat.add n k) c,m)) (q' G m.t (.p id off) (Nat.mul n sz) λdA=>sf m (dA++l) T λid m=>some (.sx id 0 0 (Nat.add n k),m))
def Lp(m:be)(id:Nat)(n:Nat)(cs:a8 ao)(eV:Nat)(l:List ao)(k sz T:Nat):Option (ao×be):=
 bM (Nat.ble (Nat.mul n sz) eV) (m.t.lP none id λt=>a8.uS l cs (Nat.mul n sz) λcs=>yJ ⟨t,m.n⟩ (.cells cs T (Nat.mul (Nat.add n k) sz)) λid m=>some (.sx id 0 0 (Nat.add n k),m)) none
def Dk(G:GT)(m:be)(s:ao)(l:List ao)(k sz bytes T:Nat):Option (ao×be):=match s with
 | .sn=>bM (Nat.ble (Nat.mul k bytes) 140737488355328&&Nat.ble k 9223372036854775807) (sf m l T λid m=>some (.sx id 0 0 k,m)) none| .sl id off n c=>bM (Nat.ble (Nat.mul (Nat.add n k) bytes) 140737488355328&&Nat.ble (Nat.add n k) 9223372036854775807) (Lo G m id off n c l k sz T) none
 | .sx id off e n=>(match m.t.get id with
  |some (.cells cs rB eV)=>bM ((Nat.beq off 0&&Nat.beq e 0)&&(Nat.beq rB T&&(Nat.ble (Nat.mul (Nat.add n k) bytes) 140737488355328&&Nat.ble (Nat.add n k) 9223372036854775807))) (Lp m id n cs eV l k sz T) none| _=>none)
 |_=>none
def AH:List ao->Option (List UInt8)
 |[]=>some []
 | .i .u8 (.ofNat n)::l=>bif Nat.ble n 255 then(match AH l with
  |some r=>some (UInt8.ofNat n::r)| none=>none)else none
 |_=>none
def Dl:ao->List (ao×ao)->Option (Option ao)
 |_,[]=>some none
 |k,(x,v)::l=>match AB k x with
  |some true=>some (some v)| some false=>Dl k l| none=>none
def Dm(k v:ao):List (ao×ao)->Option (List (ao×ao))
 |[]=>some [(k,v)]
 |(x,u)::l=>match AB k x with
  |some true=>some ((k,v)::l)
  |some false=>(match Dm k v l with
   |some r=>some ((x,u)::r)| none=>none)
  |none=>none
abbrev kt:=Nat->List ao->be->Option (ao×be)
structure fJ where
 P:Program
 E:Env
 G:GT
 pr:kt
def S6(i:Option dt)(t:Nat)(x:Option ao):Option (List ao×Nat×Nat×(Nat->ao)):=bh i none λi=>bh x none λv=>bM (Nat.beq v.cells.length i.size) (some (v.cells,t,1,λid=>.p id 0)) none
def S7(i:Option dt)(t:Nat):Option (List ao×Nat×Nat×(Nat->ao)):=bh i none λi=>bh (uT i.zero) none λz=>some (z,t,1,λid=>.p id 0)
def S8(E:Env)(t len:Nat)(ps:Option (List (Nat×ao))):Option (List ao×Nat×Nat×(Nat->ao)):=match E t,ps with
 |some { bE:=.slice e,.. },some vs=>bh (E e) none λaB=>bh (uT aB.zero) none λz=>
  bM (Nat.ble (Nat.mul len aB.size) 16777216&&Nat.blt 0 (Nat.mul len aB.size)) (bh (wG (λj=>some (j*aB.size,aB.size)) (yK len z) vs) none λcs=>some (cs,e,len,λid=>.sl id 0 len len)) (bM (Nat.beq len 0&&vs.isEmpty) (some ([],e,0,λid=>.sl id 0 0 0)) none)
 |_,_=>none
def S9(E:Env)(t:Nat)(l c:Option ao):Option (List ao×Nat×Nat×(Nat->ao)):=match E t,l,c with
 |some { bE:=.slice e,.. },some l,some c=>bh (E e) none λaB=>bh l.nat none λn=>bh c.nat none λk=>bh (uT aB.zero) none λz=>
  bM (Nat.ble n k&&(Nat.ble (Nat.mul aB.bytes k) 140737488355328&&Nat.ble k 9223372036854775807)) (some (yK k z,e,k,λid=>.sl id 0 n k)) none
 |_,_,_=>none
def yL(E:Env)(o:Oper)(ak:a8 ao):Option (List ao×Nat×Nat×(Nat->ao)):=
 match o.op with
 | .box t x=>S6 (E t) t (cQ ak x)| .alloc t=>S7 (E t) t| .buildSlice t len parts=>S8 E t len (AE ak parts.toList)| .makeSlice t l c=>S9 E t (cQ ak l) (cQ ak c)| _=>none
def GK(i:Option dt)(m:be)(x y:Option ao):Option (ao×be):=bh i none λi=>bh x none λx=>bh y none λv=>bM (Nat.beq v.cells.length i.size) (uW m x v.cells λm=>some (.t [],m)) none
def GL(i:Option dt)(m:be):Option (ao×be):=match i with
 |some { bE:=.map k e,.. }=>yJ m (.map []) λid m=>some (.m id,m)
 |_=>none
def GM(i:Option dt)(v:ao):Bool:=match i,v with
 |some { bE:=.int k,.. },.i eS _=>IntKind.kP k eS| some { bE:=.string,.. },.s _=>true| _,_=>false
def S'(ok:Bool)(z:ao)(r:Option ao):ao:=bM ok (bh r (.t [z,.b false]) λv=>.t [v,.b true]) (bh r z λv=>v)
def Lq(P:Program)(E:Env)(t:Nat)(m:be)(x y:Option ao)(ok:Bool):Option (ao×be):=match E t,x,y with
 |some { bE:=.map k e,.. },some (.m id),some y=>bM (GM (E k) y) (match m.t.get id with
  |some (.map es)=>bh (Dl y es) none λr=>bh (P.info? e) none λinf=>bh inf.zero none λz=>bh (Az z) none λz=>some (S' ok z r,m)
  |_=>none) none
 |_,_,_=>none
def Dn(E:Env)(t:Nat)(m:be)(x y z:Option ao):Option (ao×be):=match E t,x,y,z with
 |some { bE:=.map k e,.. },some (.m id),some y,some v=>bM (GM (E k) y) (match m.t.get id with
  |some (.map es)=>bh (Dm y v es) none λes=>m.t.lP (some (.map es)) id λt=>some (.t [],⟨t,m.n⟩)
  |_=>none) none
 |_,_,_,_=>none
def GN(G:GT)(m:be)(id off n:Nat):Option (ao×be):=q' G m.t (.p id off) n λl=>bh (AH l) none λl=>some (.s l,m)
def GO(Y:fJ)(m:be)(s d:Nat)(x:Option ao):Option (ao×be):=match Y.E s,Y.E d,x with
 |some { bE:=.slice e,.. },some { bE:=.string,.. },some (.sl id off n _)=>bM (AF (Y.E e)) (GN Y.G m id off n) none| some { bE:=.slice e,.. },some { bE:=.string,.. },some (.sx id off _ n)=>bM (AF (Y.E e)) (GN Y.G m id off n) none| some { bE:=.slice e,.. },some { bE:=.string,.. },some .sn=>bM (AF (Y.E e)) (some (.s [],m)) none| _,_,_=>none
def AI:ao->Bool
 | .sn | .so | .sx ..=>true| .sl _ _ n c=>Nat.ble n c| _=>false
def Lr(Y:fJ)(m:be)(eX:List Nat)(l:Option (List ao)):Option (ao×be):=match eX,l with
 |[t,u],some [s,x]=>(match Y.E t with
  |some { bE:=.slice e,.. }=>bh (Y.E e) none λaB=>bM (tr (Y.E u) aB x) (AG Y.G m.t x aB.size λl=>bh (qg x) none λk=>
    bM (Nat.beq k 0) (bM (AI s) (some (s,m)) none) (bM (l.all ao.one) (Dk Y.G m s l k aB.size aB.bytes e) none)) none
  |_=>none)
 |_,_=>none
def Ls(Y:fJ)(m:be)(eX:List Nat)(l:Option (List ao)):Option (ao×be):=match eX,l with
 |[t,u],some [.sl id off n c,.s q]=>(match Y.E t with
  |some { bE:=.slice e,.. }=>bh (Y.E e) none λaB=>bM (Nat.beq aB.size 1&&Nat.ble q.length n) (uW m (.p id off) (q.map λb=>.i .u8 (.ofNat b.toNat)) λm=>some (.i .i64 (.ofNat q.length),m)) none
  |_=>none)
 |_,_=>none
def Lt(Y:fJ)(m:be)(eX:List Nat)(l:Option (List ao)):Option (ao×be):=match eX,l with
 |[rH,it],some [.pn,.i .i64 (.ofNat 0)]=>some (.s [],m)
 |[rH,it],some [.p id 0,.i .i64 (.ofNat n)]=>(match Y.E rH,m.t.get id with
  |some { bE:=.pointer e,.. },some (.cells cs T eV)=>bh (Y.E e) none λaB=>
   bM (Nat.beq aB.size 1&&(Nat.beq T e&&Nat.blt 0 n)) (q' Y.G m.t (.p id 0) n λl=>bh (AH l) none λl=>bM (Nat.ble n 9223372036854775807) (m.t.lP none id λt=>some (.s l,⟨t,m.n⟩)) none) none
  |_,_=>none)
 |_,_=>none
def Ta(Y:fJ)(m:be)(b:Builtin)(eX:List Nat)(l:Option (List ao)):Option (ao×be):=match b with
 | .append=>Lr Y m eX l| .copy=>Ls Y m eX l| .unsafeString=>Lt Y m eX l| _=>none
def Lu(Y:fJ)(m:be)(o:Oper)(ak:a8 ao):Option (ao×be):=
 match o.op with
 | .store t x y=>bh o.dst (GK (Y.E t) m (cQ ak x) (cQ ak y)) λ_=>none
 | .makeMap t none=>GL (Y.E t) m
 | .makeMap t (some x)=>(match cQ ak x with
  |some (.i _ _)=>GL (Y.E t) m| _=>none)
 | .lookup t x y ok=>Lq Y.P Y.E t m (cQ ak x) (cQ ak y) ok| .mapUpdate t x y z=>bh o.dst (Dn Y.E t m (cQ ak x) (cQ ak y) (cQ ak z)) λ_=>none
 | .insert t x y z=>bh o.dst (Dn Y.E t m (cQ ak x) (cQ ak y) (cQ ak z)) λ_=>none
 | .convert s d x=>GO Y m s d (cQ ak x)| .call { callee:=.builtin b,args,argTypes }=>Ta Y m b argTypes.toList (mb ak args.toList)| _=>none
def j3(E:Env)(op:Op):Nat:=match op with
 | .move _ | .assign _ | .pick .. | .binOp .. | .load .. | .nilCheck _ | .fieldAddr .. | .field .. | .indexAddr .. | .index .. | .build .. | .makeFunc .. | .extract .. | .unOp .. | .slice ..=>0| .alloc _ | .box .. | .buildSlice .. | .makeSlice ..=>1
 | .convert s d _=>(match E d with
  |some { bE:=.int _,.. }=>0| _=>2)
 | .call { callee:=.builtin .len,argTypes,.. }=>(match argTypes.toList with
  |[t]=>(match E t with
   |some { bE:=.map ..,.. }=>2| _=>0)
  |_=>2)
 | .call { callee:=.builtin .cap,.. }=>0| .call { callee:=.builtin .max,.. }=>0| .call { callee:=.builtin .min,.. }=>0| .call { callee:=.builtin .unsafeSliceData,.. }=>0| _=>2
def nB{R:Type}(dst:Option Nat)(ak:a8 ao)(v:ao)(K:a8 ao->Option R):Option R:=bh dst (K ak) λd=>Ln v λv=>ak.lP (some v) d K
def Tb{R:Type}(call:ao->List ao->be->Option (ao×be))(dst:Option Nat)(f:Option ao)(l:Option (List ao))(ak:a8 ao)(m:be)(K:a8 ao->be->Option R):Option R:=
 bh f none λf=>bh l none λl=>bh (call f l m) none λr=>bM (Nat.ble m.n r.2.n) (nB dst ak r.1 λak=>K ak r.2) none
def Tc{R:Type}(dst:Option Nat)(r:Option (List ao×Nat×Nat×(Nat->ao)))(ak:a8 ao)(m:be)(K:a8 ao->be->Option R):Option R:=
 bh dst none λd=>bh r none λr=>sf m r.1 r.2.1 λid m=>nB (some d) ak (r.2.2.2 id) λak=>K ak m
def Td{R:Type}(dst:Option Nat)(v:Option ao)(ak:a8 ao)(m:be)(K:a8 ao->be->Option R):Option R:=
 bh v none λv=>nB dst ak v λak=>K ak m
def Te{R:Type}(dst:Option Nat)(n:Nat)(r:Option (ao×be))(ak:a8 ao)(K:a8 ao->be->Option R):Option R:=
 bh r none λr=>bM (Nat.ble n r.2.n) (nB dst ak r.1 λak=>K ak r.2) none
def Tf{R:Type}(Y:fJ)(k:Nat)(o:Oper)(ak:a8 ao)(m:be)(K:a8 ao->be->Option R):Option R:=match k with
 |0=>Td o.dst (se Y.P Y.E Y.G m.t o.op ak) ak m K| 1=>Tc o.dst (yL Y.E o ak) ak m K| _=>Te o.dst m.n (Lu Y m o ak) ak K
def wH{R:Type}(Y:fJ)(call:ao->List ao->be->Option (ao×be))(o:Oper)(ak:a8 ao)(m:be)(K:a8 ao->be->Option R):Option R:=
 match o.op with
 | .call { callee:=.value f,args,.. }=>Tb call o.dst (cQ ak f) (mb ak args.toList) ak m K| op=>Tf Y (j3 Y.E op) o ak m K
def yM{R:Type}(o:Oper)(ak:a8 ao)(K:a8 ao->Option R):Option R:=match o.dst with
 |none=>K ak| some d=>ak.lP (some (.t [])) d K
def sg(ops:List Oper)(o:Oper)(ak:a8 ao):Option Bool:=match o.guard with
 |none=>some true
 |some (j,b)=>match(tp ops j).bind (·.dst)with
  |none=>none
  |some d=>match ak.get d with
   |some (.b c)=>some (c == b)| some (.t _)=>some false| _=>none
def AJ(Y:fJ)(call:ao->List ao->be->Option (ao×be))(ops:List Oper)(l:List Oper):a8 ao->be->Option (a8 ao×be):=
 @List.rec Oper (λ_=>a8 ao->be->Option (a8 ao×be)) (λak m=>some (ak,m)) (λo _ aR ak m=>bh (sg ops o ak) none λw=>bM w (wH Y call o ak m aR) (yM o ak λak=>aR ak m)) l
def yN(E:Env)(ops:List Oper)(i:Nat):Nat:=bh (tp ops i) 2 λo=>j3 E o.op
def uX(E:Env)(ops:List Oper):List Nat:=(List.range ops.length).filter λi=>Nat.beq (yN E ops i) 2
def AK(es fQ:List Nat)(i:Nat):Nat:=(es.filter λe=>(fQ.getD i 0).testBit e).length
def j4(es fQ:List Nat)(i:Nat):Nat:=(es.filter λe=>!(fQ.getD e 0).testBit i).length
def Tg(E:Env)(ops:List Oper)(es fQ:List Nat)(j:Nat):List (Nat×Nat):=((List.range ops.length).filter λi=>!Nat.beq (yN E ops i) 2&&Nat.beq (AK es fQ i) j).map λi=>(i,yN E ops i)
def Th(E:Env)(ops:List Oper)(es fQ:List Nat):List Nat->Nat->List (Nat×Nat)
 |[],j=>Tg E ops es fQ j| e::l,j=>Tg E ops es fQ j++(e,2)::Th E ops es fQ l (j+1)
def Dp(E:Env)(ops:List Oper):List (Nat×Nat):=Th E ops (uX E ops) (jQ ops) (uX E ops) 0
def ts(ops:List Oper):List (Nat×Nat)->Nat->Bool
 |[],k=>Nat.beq k (2^ops.length-1)
 |(i,_)::l,k=>!k.testBit i&&(match ops[i]? with
  |some o=>B1 o k&&ts ops l (k ||| 2^i)| none=>false)
def GP(fQ:List Nat):List Nat->Bool
 |[]=>true| x::l=>l.all (λy=>(fQ.getD y 0).testBit x)&&GP fQ l
def Ti(E:Env)(ops:List Oper):Bool:=zD ops&&(ts ops (Dp E ops) 0&&(GP (jQ ops) (uX E ops)&&(((Dp E ops).filter λr=>Nat.beq r.2 2).map (·.1) == uX E ops)))
mutual
def AL:ao->ao->Bool
 | .b x,.b w=>x == w| .i k x,.i l w=>IntKind.kP k l&&qf x w| .s x,.s w=>sd x w| .pn,.pn=>true| .p i x,.p j w=>Nat.beq i j&&Nat.beq x w| .g i x,.g j w=>Nat.beq i j&&Nat.beq x w| .sn,.sn=>true| .sl i x n c,.sl j w m d=>Nat.beq i j&&(Nat.beq x w&&(Nat.beq n m&&Nat.beq c d))| .sx i x n c,.sx j w m d=>Nat.beq i j&&(Nat.beq x w&&(Nat.beq n m&&Nat.beq c d))| .gs i x n c,.gs j w m d=>Nat.beq i j&&(Nat.beq x w&&(Nat.beq n m&&Nat.beq c d))| .mn,.mn=>true| .m i,.m j=>Nat.beq i j| .f g l r,.f h m s=>Nat.beq g h&&(tt l m&&tt r s)| .y i,.y j=>Nat.beq i j| .fn,.fn=>true| .ni,.ni=>true| .t l,.t m=>tt l m| .a l,.a m=>tt l m| _,_=>false
def tt:List ao->List ao->Bool
 |[],[]=>true| x::l,w::m=>AL x w&&tt l m| _,_=>false
end
inductive oi where
 |made(i id:Nat)(l:List ao)(T:Nat)| load (i:Nat) (o:Oper) (ak:a8 ao) (v:ao)
def mW(Y:fJ)(call:ao->List ao->be->Option (ao×be))(ops:List Oper):List (Nat×Nat)->a8 ao->be->List be->List oi->Option (a8 ao×be×List be×List oi)
 |[],ak,m,S,A=>some (ak,m,m::S,A)|(i,k)::bc,ak,m,S,A=>bh (tp ops i) none λo=>bh (sg ops o ak) none λw=>bM (Nat.beq (j3 Y.E o.op) k) (bM w (bM (Nat.beq k 0) (bh (se Y.P Y.E Y.G m.t o.op ak) none λv=>nB o.dst ak v λcD=>mW Y call ops bc cD m S (bM (nT o.op) (.load i o ak v::A) A)) (bM (Nat.beq k 1) (bh o.dst none λd=>bh (yL Y.E o ak) none λr=>sf m r.1 r.2.1 λid m=>nB (some d) ak (r.2.2.2 id) λak=>mW Y call ops bc ak m S (.made i id r.1 r.2.1::A)) (wH Y call o ak m λak m'=>mW Y call ops bc ak m' (m::S) A))) (yM o ak λak=>mW Y call ops bc ak m (bM (Nat.beq k 2) (m::S) S) A)) none
def AM(S:List be)(lo hi:Nat)(p:be->Bool):Bool:=((S.drop lo).take (hi+1-lo)).all p
def Lv(Y:fJ)(o:Oper)(ak:a8 ao)(v:ao)(m:be):Bool:=match se Y.P Y.E Y.G m.t o.op ak with
 |some u=>AL u v| none=>false
def Lw(id:Nat)(l:List ao)(T:Nat)(m:be):Bool:=Nat.blt id m.n&&(match m.t.get id with
 |some (.cells cs rB eV)=>Nat.beq rB T&&(Nat.beq eV l.length&&(match cs.Ay 0 l.length (λed=>some ed)with
  |some ed=>tt l ed| none=>false))
 |_=>false)
def Lx(Y:fJ)(es fQ:List Nat)(S:List be):oi->Bool
 | .made i id l T=>AM S (AK es fQ i) (j4 es fQ i) (Lw id l T)| .load i o ak v=>AM S (AK es fQ i) (j4 es fQ i) (Lv Y o ak v)
def Ly(Y:fJ)(call:ao->List ao->be->Option (ao×be))(ops:List Oper)(ak:a8 ao)(m:be):Option (a8 ao×be):=
 bM (Ti Y.E ops) (match mW Y call ops (Dp Y.E ops) ak m [] []with
  |none=>none| some (ak,m,S,A)=>bM (A.all (Lx Y (uX Y.E ops) (jQ ops) S.reverse)) (some (ak,m)) none) none
def AN{R:Type}:List Nat->List ao->a8 ao->(a8 ao->Option R)->Option R
 |[],[],ak,K=>K ak| t::ps,v::vs,ak,K=>ak.lP (some v) t λak=>AN ps vs ak K
 |_,_,_,_=>none
def wI(Y:fJ)(ak:a8 ao)(m:a8 eA):List ResultVar->Option (List ao)
 |[]=>some []
 | .tmp t::l=>(match ak.get t,wI Y ak m l with
  |some v,some vs=>some (v::vs)| _,_=>none)
 | .cell t ty::l=>(match ak.get t,Y.E ty,wI Y ak m l with
  |some x,some i,some vs=>(match q' Y.G m x i.size λl=>AD i.bE.agg l with
   |some v=>some (v::vs)| none=>none)
  |_,_,_=>none)
abbrev nC:=qA×a8 ao×be
abbrev ra:=Bool->Nat->Code->a8 ao->be->Option nC
def Tj:List ao->ao
 |[v]=>v| vs=>.t vs
def GQ(Y:fJ)(ak:a8 ao)(m:be)(bb:List ResultVar):Option (ao×be):=bh (wI Y ak m.t bb) none λvs=>some (Tj vs,m)
def Tk(Y:fJ)(r:Option nC)(bb:List ResultVar):Option (ao×be):=match r with
 |some (.normal,ak,m)=>GQ Y ak m bb| some (.ret,ak,m)=>GQ Y ak m bb| _=>none
def GR(Y:fJ)(rec:ra)(g:Nat)(args:List ao)(m:be):Option (ao×be):=
 bh (Y.P.funcs[g]?) none λfn=>bh fn.body none λc=>bM (Nat.ble args.length fn.ntmps) (a8.uS args (a8.bare 12) 0 λak=>Tk Y (rec true fn.ntmps c ak m) fn.results.toList) none
def wJ(Y:fJ)(rec:ra)(g:Nat)(args:List ao)(m:be):Option (ao×be):=bh (Y.pr g args m) (GR Y rec g args m) some
def Lz(l:Nat)(e:Option eA)(jump:Option Code)(m:be):Option (ao×be):=match e with
 |some (.loop true n k5 ps et body)=>m.t.lP (some (bh jump (.loop false n k5 ps et body) λc=>.done c n k5 ps et body)) l λt=>some (.b jump.isNone,⟨t,m.n⟩)
 |_=>none
def Tl(l:Nat)(r:Option nC):Option (ao×be):=bh r none λr=>Lz l (r.2.2.t.get l) (zL r.1) r.2.2
def LA(rec:ra)(l n:Nat)(body:Code)(e:Option eA)(ak:a8 ao)(m:be):Option (ao×be):=match e with
 |some (.loop false hB k5 ps et LB)=>m.t.lP (some (.loop true hB k5 ps et LB)) l λt=>Tl l (rec false n body ak ⟨t,m.n⟩)
 |_=>none
def Tm(rec:ra)(l n:Nat)(body:Code)(r:Option nC):Option (ao×be):=match r with
 |some (.normal,ak,m)=>LA rec l n body (m.t.get l) ak m| _=>none
def LC(rec:ra)(l:Nat)(args:List ao)(m:be):Option (ao×be):=match m.t.get l with
 |some (.loop false n k5 ps et body)=>AN ps args k5 λak=>Tm rec l n body (rec false n et ak m)
 |_=>none
def GS(Y:fJ)(rec:ra)(f:ao)(args:List ao)(m:be):Option (ao×be):=match f with
 | .f g l r=>wJ Y rec g (l++(args++r)) m| .y l=>LC rec l args m| _=>none
def LD:Code->Option qA
 | .exit id=>some (.exit id)| .goto l=>some (.goto l)| .ret=>some .ret| _=>none
def Dq(r:Option nC)(k:a8 ao->be->Option nC):Option nC:=match r with
 |some (.normal,ak,m)=>k ak m| r=>r
def Tn(id:Nat)(r:Option nC):Option nC:=match r with
 |some (.exit j,ak,m)=>bM (Nat.beq j id) (some (.normal,ak,m)) (some (.exit j,ak,m))| r=>r
def GU(r:Option (a8 ao×be)):Option nC:=bh r none λr=>some (.normal,r.1,r.2)
def To(v:Option ao)(x y:Option nC):Option nC:=match v with
 |some (.b b)=>bM b x y| _=>none
def Dr(rec:ra)(fW:Bool)(n:Nat)(c:Code)(k:Nat):Code->a8 ao->be->Option nC:=@Nat.rec (λ_=>Code->a8 ao->be->Option nC) (λ_ _ _=>none)
 (λ_ aR x ak m=>match rec fW n x ak m with
  |some (.goto l,ak,m)=>bh (findLabel c l) none λbc=>aR bc ak m
  |r=>r) k
def Tp(l:Nat)(ak:a8 ao)(r:Option (ao×be)):Option nC:=bh r none λr=>match r.2.t.get l with
 |some (.loop false ..)=>r.2.t.lP none l λt=>some (.normal,ak,⟨t,r.2.n⟩)
 |some (.done c ..)=>bh (LD c) none λex=>r.2.t.lP none l λt=>some (ex,ak,⟨t,r.2.n⟩)
 |_=>none
def LF(Y:fJ)(rec:ra)(fW:Bool)(n:Nat)(v:Option ao)(ps:List Nat)(et body:Code)(ak:a8 ao)(m:be):Option nC:=match fW,v with
 |true,some (.f g [] r)=>yJ m (.loop false n ak ps et body) λl m=>Tp l ak (GR Y rec g (.y l::r) m)
 |_,_=>none
def LG(Y:fJ)(f:Nat)(rec:ra):ra:=λfW n c ak m=>match c with
 | .skip=>some (.normal,ak,m)| .label _=>some (.normal,ak,m)| .ret=>some (.ret,ak,m)| .exit id=>some (.exit id,ak,m)| .goto l=>some (.goto l,ak,m)| .seq x y=>Dq (rec fW n x ak m) (rec fW n y)| .block id c=>Tn id (rec fW n c ak m)| .cond c x y=>To (cQ ak c) (rec fW n x ak m) (rec fW n y ak m)| .loop c=>Dq (rec fW n c ak m) (rec fW n (.loop c))| .region _ ops false=>GU (AJ Y (GS Y rec) ops.toList ops.toList ak m)| .region _ ops true=>GU (Ly Y (GS Y rec) ops.toList ak m)| .scope c=>Dr rec fW n c f c ak m| .rangeFunc x ps et body=>LF Y rec fW n (cQ ak x) ps.toList et body ak m| .refuse _=>none
def ku(Y:fJ)(f:Nat):ra:=@Nat.rec (λ_=>ra) (λ_ _ _ _ _=>none) (λf aR=>LG Y f aR) f
end
section
variable{α R:Type}
def jh{α:Type}(b:Bool)(x y:α):bM b x y=bif b then x else y:=by cases b<;>rfl
def bW{α R:Type}{o:Option α}{f:α->Option R}{r:R}(h:bh o none f=some r):∃ v,o=some v/\f v=some r:=by
 cases o with
 |none=>cases h| some v=>exact⟨v,rfl,h⟩
def e4{α:Type}{x:Option α}{r:α}(h:bM b x none=some r):b=true/\x=some r:=by
 cases b with
 |true=>exact⟨rfl,h⟩| false=>cases h
def wK{α:Type}{x:Option α}{r:α}(h:bM b none x=some r):b=false/\x=some r:=by
 cases b with
 |false=>exact⟨rfl,h⟩| true=>cases h
def a8.Ds(x:Option α)(l r:a8 α)(k:Nat):(a8.node x l r).get k=bif Nat.beq k 0 then x else bif Nat.beq (k%2) 1 then l.get (k/2)else r.get (k/2-1):=by show bM _ _ (bM _ _ _)=_;rw[jh,jh];rfl
def a8.mX(v:Option α):∀ (t:a8 α) (k:Nat),∃ bj:a8 α,(∀ {R:Type} (K:a8 α->R),t.lP v k K=K bj)/\∀ j x,bj.get j=some x->(j=k/\v=some x)\/(j≠k/\t.get j=some x)
 | .nil,k=>by
  cases ae:Nat.beq k 0 with
  |true=>
   have:=dr ae;subst this;refine⟨.node v .nil .nil,λK=>rfl,λj x h=>?_⟩;rw[a8.Ds]at h;cases ai:Nat.beq j 0 with
   |true=>rw[ai]at h;exact .inl ⟨dr ai,h⟩
   |false=>
    rw[ai]at h;cases hm:Nat.beq (j%2) 1<;>(rw[hm]at h;cases h)
  |false=>refine⟨.nil,λK=>?_,λj x h=>by cases h⟩;show bM _ _ _=_;rw[jh,ae];rfl
 | .node x l r,k=>by
  cases ae:Nat.beq k 0 with
  |true=>
   have:=dr ae;subst this;refine⟨.node v l r,λK=>rfl,λj y h=>?_⟩;rw[a8.Ds]at h |-;cases ai:Nat.beq j 0 with
   |true=>rw[ai]at h;exact .inl ⟨dr ai,h⟩| false=>rw[ai]at h;exact .inr ⟨(λe=>by subst e;cases ai),h⟩
  |false=>
   have jV:k≠0:=λe=>by subst e;cases ae
   cases hm:Nat.beq (k%2) 1 with
   |true=>
    have nY:=dr hm;obtain⟨ed,aa,ad⟩:=a8.mX v l (k/2);refine⟨.node x ed r,λK=>?_,λj y h=>?_⟩;·show bM _ _ (bM _ _ _)=_;rw[jh,jh,ae];show(bif Nat.beq (k%2) 1 then _ else _)=_;rw[hm];exact aa _
    ·rw[a8.Ds]at h |-;cases ai:Nat.beq j 0 with
     |true=>rw[ai]at h;exact .inr ⟨λe=>by have:=dr ai;omega,h⟩
     |false=>
      rw[ai]at h;have acO:j≠0:=λe=>by subst e;cases ai
      cases rc:Nat.beq (j%2) 1 with
      |true=>
       have acP:=dr rc;rw[rc]at h;rcases ad _ _ h with⟨e,ag⟩ | ⟨e,ag⟩;·exact .inl ⟨by omega,ag⟩
       ·exact .inr ⟨λcM=>e (by rw[cM]),ag⟩
      |false=>rw[rc]at h;exact .inr ⟨(λe=>by subst e;rw[hm]at rc;cases rc),h⟩
   |false=>
    have nY:k%2≠1:=λe=>by rw[e]at hm;cases hm
    obtain⟨xP,aa,ad⟩:=a8.mX v r (k/2-1);refine⟨.node x l xP,λK=>?_,λj y h=>?_⟩;·show bM _ _ (bM _ _ _)=_;rw[jh,jh,ae];show(bif Nat.beq (k%2) 1 then _ else _)=_;rw[hm];exact aa _
    ·rw[a8.Ds]at h |-;cases ai:Nat.beq j 0 with
     |true=>rw[ai]at h;exact .inr ⟨λe=>by have:=dr ai;omega,h⟩
     |false=>
      rw[ai]at h;have acO:j≠0:=λe=>by subst e;cases ai
      cases rc:Nat.beq (j%2) 1 with
      |true=>rw[rc]at h;exact .inr ⟨(λe=>by subst e;rw[hm]at rc;cases rc),h⟩
      |false=>
       have acP:j%2≠1:=λe=>by rw[e]at rc;cases rc
       rw[rc]at h;rcases ad _ _ h with⟨e,ag⟩ | ⟨e,ag⟩;·exact .inl ⟨by omega,ag⟩
       ·exact .inr ⟨λcM=>e (by rw[cM]),ag⟩
def a8.AO(t:a8 α):∀ (n off:Nat) (K:List α->Option R) (r:R),t.Ay off n K=some r->∃ l,l.length=n/\(∀ i,i<n->t.get (off+i)=l[i]?)/\K l=some r
 |0,off,K,r,h=>⟨[],rfl,λi hi=>by omega,h⟩
 |n+1,off,K,r,h=>by
  have bq:bh (t.get off) none (λv=>t.Ay (off+1) n λl=>K (v::l))=some r:=h;obtain⟨v,ag,bq⟩:=bW bq;obtain⟨l,aa,ad,al⟩:=a8.AO t n (off+1) _ r bq;refine⟨v::l,by simp[aa],λi hi=>?_,al⟩;cases i with
  |zero=>simpa using ag| succ i=>have:=ad i (by omega);rw[show off+(i+1)=off+1+i by omega,this];simp
def a8.uY:∀ (l:List α) (t:a8 α) (off:Nat),∃ bj:a8 α,(∀ {R:Type} (K:a8 α->R),a8.uS l t off K=K bj) /\ ∀ j x,bj.get j=some x->(off<=j/\l[j-off]?=some x)\/((j<off\/off+l.length<=j)/\t.get j=some x)
 |[],t,off=>⟨t,λK=>rfl,λj x h=>.inr ⟨by simp;omega,h⟩⟩
 |v::l,t,off=>by
  obtain⟨t1,aa,ad⟩:=a8.mX (some v) t off;obtain⟨t2,al,aL⟩:=a8.uY l t1 (off+1);refine⟨t2,λK=>(aa _).trans (al K),λj x h=>?_⟩;rcases aL j x h with⟨a1,ba⟩ | ⟨a1,ba⟩;·exact .inl ⟨by omega,by rw[show j-off=(j-(off+1))+1 by omega];simpa using ba⟩
  ·rcases ad j x ba with⟨rfl,e⟩ | ⟨e,b4⟩
   ·exact .inl ⟨cI _,by simp at e;simp[e]⟩
   ·exact .inr ⟨by simp only[ea];omega,b4⟩
end
def LH(n:Nat)(K:Nat->R):pi n K=K n:=rfl
def acQ(n:Int)(K:Int->R):S4 n K=K n:=by cases n<;>rfl
def acR(b:Bool)(K:Bool->R):S5 b K=K b:=by cases b<;>rfl
def acS(v:ao)(K:ao->R):Ln v K=K v:=by
 cases v with
 |b x=>exact acR x λx=>K (.b x)
 |i k n=>exact acQ n λn=>K (.i k n)
 |_=>rfl
def LI(a b:Nat):Nat.beq a b=decide (a=b):=by
 by_cases h:a=b
 ·subst h;simp
 ·rw[g0 h];simp[h]
def GV(a b:Nat):Nat.ble a b=decide (a<=b):=by
 by_cases h:a<=b
 ·rw[Av h];simp[h]
 ·cases ah:Nat.ble a b with
  |false=>simp[h]| true=>exact absurd (bH ah) h
def yO(a b:Int):qf a b=decide (a=b):=by
 cases a<;>cases b<;>simp only[qf,LI]<;>simp
 omega
def GW(a b:Int):yE a b=decide (a<=b):=by
 cases a<;>cases b<;>simp only[yE]
 ·rw[GV];simp only[GC];exact Int.ofNat_le.symm
 ·symm;simp only[pM];rename_i a b;have:=Int.negSucc_lt_zero b;have:(0:Int)<=Int.ofNat a:=Gz a;omega
 ·symm;simp only[hk];rename_i a b;have:=Int.negSucc_lt_zero a;have:(0:Int)<=Int.ofNat b:=Gz b;omega
 ·rw[GV];simp only[GC,Int.negSucc_eq];omega
def acT(a b:Int):zr a b=decide (a<b):=by
 unfold zr;rw[GW];by_cases h:a<b
 ·simp[h]
 ·simp[h];omega
def acU(op:BinOp)(x y:Int):K4 op x y=tV op x y:=by cases op<;>simp only[K4,tV,yO,acT,GW]
def wL(k:IntKind)(n:Int):to k n=k.wrap n:=by
 cases n with
 |negSucc n=>rfl
 |ofNat n=>
  simp only[to];cases h:Nat.ble n (GD k)with
  |false=>rfl
  |true=>
   have bq:=bH h;simp only[bZ];cases k<;>simp only[GD]at bq<;>simp only[IntKind.wrap,IntKind.signed,IntKind.bits]<;>simp<;>omega
def acV(a b:Int):SD a b=a+b:=by cases a<;>cases b<;>rfl
def acW(a b:Int):K5 a b=a-b:=by
 cases a<;>cases b<;>try rfl
 rename_i a b;simp only[K5];cases h:Nat.ble b a with
 |false=>rfl| true=>have:=bH h;show((a-b:Nat):Int)=(a:Int)-b;omega
def acX(a b:Int):SE a b=a*b:=by cases a<;>cases b<;>rfl
def acY(a b:Int):SF a b=a.tdiv b:=by cases a<;>cases b<;>rfl
def acZ(a b:Int):SG a b=a.tmod b:=by cases a<;>cases b<;>rfl
def ac0(a:Int)(j:Nat):SH a j=a*2^j:=by
 cases a with
 |negSucc a=>rfl| ofNat a=>show((a*2^j:Nat):Int)=(a:Int)*2^j;simp
def ac1(a:Int)(j:Nat):SI a j=a.fdiv (2^j):=by
 cases a with
 |negSucc a=>rfl| ofNat a=>show((a/2^j:Nat):Int)=(a:Int).fdiv (2^j);rw[show(2:Int)^j=((2^j:Nat):Int) by simp];rw[Fx _ (Gz _)];simp
def Tq(j b:Nat):(bif Nat.ble j b then j else b)=min j b:=by
 rw[GV];by_cases h:j<=b
 ·simp[h,oA h]
 ·simp[h];omega
def wM{a:Nat}(h:a<=18446744073709551615):(BitVec.ofInt IntKind.u64.bits (Int.ofNat a)).toNat=a:=by show(BitVec.ofInt 64 (a:Int)).toNat=a;rw[BitVec.ofInt_natCast,GA];omega
def wrap64{a:Nat}(h:a<=18446744073709551615):IntKind.u64.wrap (a:Int)=Int.ofNat a:=by show IntKind.u64.wrap (.ofNat a)=_;rw[<-wL];simp only[to,GD,Av h,bZ]
def GX{op:BinOp}{k:IntKind}{x y r:Int}(h:AA op k x y=some r):rv op k x y=some r:=by
 unfold AA at h;split at h
 ·rename_i a b;cases au:(Nat.ble a 18446744073709551615&&Nat.ble b 18446744073709551615)with
  |false=>rw[au]at h;cases h
  |true=>
   rw[au]at h;rw[b']at au;have aY:=bH au.1;have ah:=bH au.2;have nz:a<2^64:=by omega
   have GY:b<2^64:=by omega
   simp only[bZ]at h;split at h;·rw[<-h];simp only[rv,FA,wM aY,wM ah];rw[wrap64 (by have:=Nat.and_lt_two_pow a GY;omega)];rfl
   ·rw[<-h];simp only[rv,BitVec.toNat_or,wM aY,wM ah];rw[wrap64 (by have:=Nat.or_lt_two_pow nz GY;omega)];rfl
   ·rw[<-h];simp only[rv,BitVec.toNat_xor,wM aY,wM ah];rw[wrap64 (by have:=Nat.xor_lt_two_pow nz GY;omega)];rfl
   ·rw[<-h];have aJ:(~~~(BitVec.ofInt IntKind.u64.bits (Int.ofNat b))).toNat=18446744073709551615-b:=by rw[BitVec.toNat_not,wM ah];rfl
    simp only[rv,FA,wM aY,aJ];rw[wrap64 (by have:=Nat.and_lt_two_pow a (show 18446744073709551615-b<2^64 by omega);omega)];rfl
   ·cases h
 ·exact h
def ac2(a b:UInt8):K6 a b=decide (a=b):=by unfold K6;rw[LI];simp only[GC];exact UInt8.toNat_inj
def AP:∀ (l m:List UInt8),sd l m=decide (l=m)
 |[],[]=>by simp[sd]
 |[],_::_=>by simp[sd]
 |_::_,[]=>by simp[sd]
 |a::l,b::m=>by
  simp only[sd,ac2,AP l m];by_cases h:a=b;·subst h;simp
  ·simp[h]
def wN{α:Type}:∀ (l:List α) (n:Nat),tp l n=l[n]?
 |[],n=>by simp[tp]
 |v::l,n=>by
  unfold tp;cases n with
  |zero=>rfl| succ n=>exact(wN l n).trans (by simp)
def Dt{α:Type}:∀ (l:List α) (n:Nat),yG l n=l.drop n
 |[],n=>by simp[yG]
 |v::l,n=>by
  unfold yG;cases n with
  |zero=>rfl| succ n=>exact(Dt l n).trans (by simp)
def Tr{n:Nat}{l r:List ao}(h:yF n l=some r):r=l.take n/\r.length=n:=by
 induction n generalizing l r with
 |zero=>simp[yF]at h;subst h;simp
 |succ n aR=>
  cases l with
  |nil=>simp[yF]at h
  |cons v l=>
   simp only[yF]at h;split at h;·rename_i q aK;obtain⟨rfl,ad⟩:=aR aK;cases h;simp at ad |-;omega
   ·cases h
structure Loc where
 b:Nat
 o:Nat
 c:Nat
abbrev bz:=Nat->Option Loc
def bz.le(D bk:bz):Prop:=∀ i a,D i=some a->bk i=some a
mutual
def aH(D:bz):ao->Value->Prop
 | .b x,u=>u=.bool x| .i k n,u=>u=.int k n| .s l,u=>u=.string ⟨l.toArray⟩| .pn,u=>u=.pointer none| .p id off,u=>∃ a,D id=some a/\u=.pointer (some ⟨a.b,a.o+off,none⟩)| .g n off,u=>u=.pointer (some ⟨n,off,none⟩)| .sn,u=>u=.slice none 0 0| .sl id off n c,u=>∃ a,D id=some a/\u=.slice (some ⟨a.b,a.o+off,none⟩) n c| .sx id off e n,u=>∃ a,D id=some a/\e+n<=a.c/\u=.slice (some ⟨a.b,a.o+off,none⟩) n (a.c-e)| .gs n off k c,u=>u=.slice (some ⟨n,off,none⟩) k c| .so,u=>∃ a c,u=.slice (some a) 0 c| .mn,u=>u=.map none| .m id,u=>∃ a,D id=some a/\u=.map (some a.b)| .f g l r,u=>∃ vs ws,bx D l vs/\bx D r ws/\u=.func (.func g) vs.toArray ws.toArray| .y id,u=>∃ a,D id=some a/\u=.func (.yield a.b) #[] #[]| .fn,u=>u=.nilFunc| .ni,u=>u=.nilIface| .Dd t v,u=>∃ x,aH D v x/\u=.iface t x| .t l,u=>∃ vs,bx D l vs/\u=.tuple vs.toArray| .a l,u=>∃ vs,bx D l vs/\u=.agg vs.toArray
def bx(D:bz):List ao->List Value->Prop
 |[],us=>us=[]| v::l,us=>∃ x xs,aH D v x/\bx D l xs/\us=x::xs
end
section
variable{D bk:bz}
mutual
def aH.mono(h:D.le bk):∀ {v:ao} {u:Value},aH D v u->aH bk v u
 | .b _,_,ag | .i _ _,_,ag | .s _,_,ag | .pn,_,ag | .g _ _,_,ag | .sn,_,ag | .gs ..,_,ag | .so,_,ag | .mn,_,ag | .fn,_,ag | .ni,_,ag=>by simpa only[aH]using ag
 | .p ..,_,ag | .sl ..,_,ag | .m _,_,ag | .y _,_,ag=>by simp only[aH]at ag |-;obtain⟨a,aa,ad⟩:=ag;exact⟨a,h _ _ aa,ad⟩
 | .sx ..,_,ag=>by simp only[aH]at ag |-;obtain⟨a,aa,ad⟩:=ag;exact⟨a,h _ _ aa,ad⟩
 | .f _ l r,_,ag=>by simp only[aH]at ag |-;obtain⟨vs,ws,aa,ad,al⟩:=ag;exact⟨vs,ws,bx.mono h aa,bx.mono h ad,al⟩
 | .Dd _ v,_,ag=>by simp only[aH]at ag |-;obtain⟨x,aa,ad⟩:=ag;exact⟨x,aH.mono h aa,ad⟩
 | .t l,_,ag=>by simp only[aH]at ag |-;obtain⟨x,aa,ad⟩:=ag;exact⟨x,bx.mono h aa,ad⟩
 | .a l,_,ag=>by simp only[aH]at ag |-;obtain⟨x,aa,ad⟩:=ag;exact⟨x,bx.mono h aa,ad⟩
def bx.mono(h:D.le bk):∀ {l:List ao} {us:List Value},bx D l us->bx bk l us
 |[],_,ag=>by simpa only[bx]using ag
 |v::l,_,ag=>by simp only[bx]at ag |-;obtain⟨x,xs,aa,ad,al⟩:=ag;exact⟨x,xs,aH.mono h aa,bx.mono h ad,al⟩
end
def bx.nil:bx D [] []:=by simp[bx]
def bx.cons{v:ao}{l:List ao}{x:Value}{xs:List Value}(h:aH D v x)(k:bx D l xs):bx D (v::l) (x::xs):=by simp only[bx];exact⟨x,xs,h,k,rfl⟩
def bx.ji{v:ao}{l:List ao}{us:List Value}(h:bx D (v::l) us):∃ x xs,aH D v x/\bx D l xs/\us=x::xs:=by simpa only[bx]using h
def bx.lQ{us:List Value}(h:bx D [] us):us=[]:=by simpa only[bx]using h
def bx.len:∀ {l:List ao} {us:List Value},bx D l us->us.length=l.length
 |[],_,h=>by rw[h.lQ];rfl
 |v::l,_,h=>by obtain⟨x,xs,aa,ad,rfl⟩:=h.ji;simp[bx.len ad]
def bx.get:∀ {l:List ao} {us:List Value} {i:Nat} {v:ao},bx D l us->l[i]?=some v->∃ x,us[i]?=some x/\aH D v x
 |[],_,i,v,h,hi=>by simp at hi
 |w::l,_,i,v,h,hi=>by
  obtain⟨x,xs,aa,ad,rfl⟩:=h.ji;cases i with
  |zero=>simp at hi;subst hi;exact⟨x,rfl,aa⟩| succ i=>simpa using bx.get ad (by simpa using hi)
def bx.LJ:∀ {l:List ao} {us:List Value},us.length=l.length->(∀ (i:Nat) (v:ao),l[i]?=some v->∃ x,us[i]?=some x/\aH D v x)->bx D l us
 |[],us,av,h=>by have:us=[]:=im (by simpa using av);subst this;exact .nil
 |w::l,us,av,h=>by
  cases us with
  |nil=>simp at av| cons x xs=>obtain⟨y,aD,aa⟩:=h 0 w rfl;simp at aD;subst aD;exact .cons aa (bx.LJ (by simpa using av) λi v hi=>by simpa using h (i+1) v (by simpa using hi))
def bx.append:∀ {l:List ao} {us:List Value} {m:List ao} {ws:List Value},bx D l us->bx D m ws->bx D (l++m) (us++ws)
 |[],_,m,ws,h,k=>by rw[h.lQ];exact k
 |w::l,_,m,ws,h,k=>by obtain⟨x,xs,aa,ad,rfl⟩:=h.ji;exact .cons aa (bx.append ad k)
def bx.take:∀ {l:List ao} {us:List Value} (n:Nat),bx D l us->bx D (l.take n) (us.take n)
 |[],_,n,h=>by rw[h.lQ];simpa using bx.nil
 |w::l,_,n,h=>by
  obtain⟨x,xs,aa,ad,rfl⟩:=h.ji;cases n with
  |zero=>simpa using bx.nil| succ n=>simpa using bx.cons aa (bx.take n ad)
def bx.drop:∀ {l:List ao} {us:List Value} (n:Nat),bx D l us->bx D (l.drop n) (us.drop n)
 |[],_,n,h=>by rw[h.lQ];simpa using bx.nil
 |w::l,us,n,h=>by
  cases n with
  |zero=>simpa using h| succ n=>obtain⟨x,xs,aa,ad,rfl⟩:=h.ji;simpa using bx.drop n ad
def bx.CB{l:List ao}{us:List Value}(h:bx D l us):∀ n,bx D (yK n l) ((List.replicate n us).flatten)
 |0=>by simpa[yK]using bx.nil
 |n+1=>by rw[J8,Kb];exact h.append (bx.CB h n)
def aH.bool{x:Bool}{u:Value}(h:aH D (.b x) u):u=.bool x:=by simpa only[aH]using h
def aH.int{k:IntKind}{n:Int}{u:Value}(h:aH D (.i k n) u):u=.int k n:=by simpa only[aH]using h
def aH.str{l:List UInt8}{u:Value}(h:aH D (.s l) u):u=.string ⟨l.toArray⟩:=by simpa only[aH]using h
def aH.ptr{id off:Nat}{u:Value}(h:aH D (.p id off) u):∃ a,D id=some a/\u=.pointer (some ⟨a.b,a.o+off,none⟩):=by simpa only[aH]using h
def aH.oj{id off:Nat}{u:Value}(h:aH D (.g id off) u):u=.pointer (some ⟨id,off,none⟩):=by simpa only[aH]using h
def aH.qh{id off n c:Nat}{u:Value}(h:aH D (.sl id off n c) u):∃ a,D id=some a/\u=.slice (some ⟨a.b,a.o+off,none⟩) n c:=by simpa only[aH]using h
def aH.sh{id off e n:Nat}{u:Value}(h:aH D (.sx id off e n) u):∃ a,D id=some a/\e+n<=a.c/\u=.slice (some ⟨a.b,a.o+off,none⟩) n (a.c-e):=by simpa only[aH]using h
def aH.LK{id off n c:Nat}{u:Value}(h:aH D (.gs id off n c) u):u=.slice (some ⟨id,off,none⟩) n c:=by simpa only[aH]using h
def aH.GZ{u:Value}(h:aH D .so u):∃ a c,u=.slice (some a) 0 c:=by simpa only[aH]using h
def aH.yP{u:Value}(h:aH D .sn u):u=.slice none 0 0:=by simpa only[aH]using h
def aH.agg{l:List ao}{u:Value}(h:aH D (.a l) u):∃ vs,bx D l vs/\u=.agg vs.toArray:=by simpa only[aH]using h
def aH.LL{l:List ao}{u:Value}(h:aH D (.t l) u):∃ vs,bx D l vs/\u=.tuple vs.toArray:=by simpa only[aH]using h
def aH.G0{l:List ao}(h:bx D l vs):aH D (.a l) (.agg vs.toArray):=by simp only[aH];exact⟨vs,h,rfl⟩
def aH.G1{l:List ao}(h:bx D l vs):aH D (.t l) (.tuple vs.toArray):=by simp only[aH];exact⟨vs,h,rfl⟩
def aH.undef:aH D (.t []) undef:=by simp only[aH];exact⟨[],.nil,rfl⟩
def aH.cells{v:ao}{u:Value}(h:aH D v u):bx D v.cells u.cells.toList:=by
 cases v<;>simp only[ao.cells]
 case a l=>obtain⟨vs,aa,rfl⟩:=h.agg;simpa[Value.cells]using aa
 all_goals
  have key:∀ w:Value,(∀ cs,w≠.agg cs)->w.cells.toList=[w]:=λw hw=>by cases w<;>first | rfl | exact(hw _ rfl).elim
  rw[key u ?_];·exact .cons h .nil
  ·rintro cs rfl;simp[aH]at h
def aH.one{v:ao}{u:Value}(h:aH D v u)(aC:v.one=true):u.oneCell'=true:=by
 cases v<;>simp only[ao.one,jF]at aC<;>simp only[aH]at h
 all_goals first
  |(subst h;rfl)|(obtain⟨_,_,rfl⟩:=h;rfl)|(obtain⟨_,_,_,rfl⟩:=h;rfl)|(obtain⟨_,_,_,_,rfl⟩:=h;rfl)
def bx.one{l:List ao}{us:List Value}(h:bx D l us)(aC:l.all ao.one=true):fN us=true:=by refine fL.2 λx ab=>?_;obtain⟨i,hi⟩:=Gy ab;have aW:=(ih.1 hi).1;rw[h.len]at aW;obtain⟨y,aD,ag⟩:=h.get (dX aW);rw[hi]at aD;cases aD;exact ag.one (fL.1 aC _ (b9 aW))
def aH.Ts{u:Value}{v:ao}(h:De u=some v):aH D v u:=by
 unfold De at h;split at h<;>cases h<;>simp[aH]
def bx.AQ:∀ {us:List Value} {l:List ao},uT us=some l->bx D l us
 |[],l,h=>by simp only[uT]at h;cases h;exact .nil
 |u::us,l,h=>by
  simp only[uT]at h;split at h;·rename_i x m aa ad;cases h;exact .cons (.Ts aa) (bx.AQ ad)
  ·cases h
def aH.of{u:Value}{v:ao}(h:Az u=some v):aH D v u:=by
 unfold Az at h;split at h
 ·split at h
  ·rename_i l av;cases h;have:=bx.AQ (D:=D) av;simpa using aH.G0 this
  ·cases h
 ·exact .Ts h
def G2{agg:Bool}{l:List ao}{v:ao}(h:AD agg l=some v)(av:bx D l vs):aH D v (pack agg vs):=by
 unfold AD at h;cases agg with
 |true=>simp only[bZ]at h;cases h;exact .G0 av
 |false=>
  simp only[b0]at h;split at h;·cases h;obtain⟨x,xs,aa,ad,rfl⟩:=av.ji;rw[ad.lQ];exact aa
  ·cases h
def LM:∀ {cs:List ao} {off:Nat} {vs r:List ao} {us xs:List Value},uV cs off vs=some r->bx D cs us->bx D vs xs->bx D r (bQ us off xs)/\off+xs.length<=us.length
 |cs,0,[],r,us,xs,h,au,ag=>by simp[uV]at h;subst h;rw[ag.lQ];exact⟨by simpa[bQ]using au,by simp⟩
 |[],0,_::_,r,us,xs,h,au,ag=>by simp[uV]at h
 |[],_+1,_,r,us,xs,h,au,ag=>by simp[uV]at h
 |c::cs,0,v::vs,r,us,xs,h,au,ag=>by
  simp only[uV]at h;split at h
  ·rename_i q aK;cases h;obtain⟨x,us,aa,ad,rfl⟩:=au.ji;obtain⟨y,xs,al,aL,rfl⟩:=ag.ji;obtain⟨bG,cr⟩:=LM aK ad aL;refine⟨?_,by simp at cr |-;omega⟩;have e:bQ (x::us) 0 (y::xs)=y::bQ us 0 xs:=by simp[bQ]
   rw[e];exact .cons al bG
  ·cases h
 |c::cs,n+1,vs,r,us,xs,h,au,ag=>by
  simp only[uV]at h;split at h
  ·rename_i q aK;cases h;obtain⟨x,us,aa,ad,rfl⟩:=au.ji;obtain⟨bG,cr⟩:=LM aK ad ag;refine⟨?_,by simp;omega⟩;have e:bQ (x::us) (n+1) xs=x::bQ us n xs:=by simp only[bQ,oN,qO,vU,true_and];rw[show n+1+xs.length=(n+xs.length)+1 by omega,Dc]
   rw[e];exact .cons aa bG
  ·cases h
inductive Du(D:bz):List (Nat×ao)->List (Nat×Value)->Prop
 |nil:Du D [] []| cons {i v u l us} (h:aH D v u) (k:Du D l us):Du D ((i,v)::l) ((i,u)::us)
def G3{place:Nat->Option (Nat×Nat)}:∀ {vs:List (Nat×ao)} {cells r:List ao} {us:List Value} {xs:List (Nat×Value)},wG place cells vs=some r->bx D cells us->Du D vs xs -> ∃ bb,qt place us xs=some bb/\bx D r bb
 |[],cells,r,us,_,h,au,.nil=>by simp only[wG]at h;cases h;exact⟨us,rfl,au⟩
 |(i,v)::vs,cells,r,us,_,h,au,.cons (u:=u) (us:=xs) ag hr=>by
  simp only[wG]at h;split at h;·cases h
  ·rename_i off size aO;cases ah:Nat.beq v.cells.length size with
   |false=>rw[ah]at h;cases h
   |true=>
    rw[ah]at h;simp only[bZ]at h;split at h
    ·rename_i cs lq;obtain⟨aa,ad⟩:=LM lq au ag.cells;obtain⟨bb,al,aL⟩:=G3 h aa hr;refine⟨bb,?_,aL⟩;have av:u.cells.size=v.cells.length:=by simpa using ag.cells.len
     simp only[qt,aO,av,ah];rw[show Nat.ble (off+size) us.length=true by rw[GV,hk];have:=dr ah;simp at ad;omega];exact al
    ·cases h
end
def fm(D:bz)(x:dd)(v:ao):Prop:=(∃ u,x=.val u/\aH D v u)\/∃ q,v=.b q/\x=.lit q
def fm.val{D:bz}{u:Value}{v:ao}(h:aH D v u):fm D (.val u) v:=.inl ⟨u,rfl,h⟩
def fm.mono{D bk:bz}(c3:D.le bk){x:dd}{v:ao}(h:fm D x v):fm bk x v:=by
 rcases h with⟨u,rfl,h⟩ | ⟨q,rfl,rfl⟩
 ·exact .val (h.mono c3)
 ·exact .inr ⟨q,rfl,rfl⟩
def om(D:bz)(F:Fr)(ak:a8 ao):Prop:=∀ t v,ak.get t=some v->fm D (F t) v
def hT(D:bz)(F:Fr)(ak:a8 ao)(xs:List Operand):Prop:=∀ x∈xs,∀ v,cQ ak x=some v->fm D (cR F x) v
def om.op{D:bz}{F:Fr}{ak:a8 ao}(h:om D F ak)(xs:List Operand):hT D F ak xs:=λx _ v ag=>by
 cases x with
 |tmp t=>exact h t v ag
 |const c=>
  have jK:Az c=some v:=ag;cases c with
  |bool q=>
   have:v=.b q:=by simp[Az,De]at jK;exact jK.symm
   exact .inr ⟨q,this,rfl⟩
  |_=>exact .val (.of jK)
 |global g=>
  have:v=.g g 0:=by simpa[cQ]using ag.symm
  subst this;exact .val (by simp[aH])
 |func f=>
  have:v=.f f [] []:=by simpa[cQ]using ag.symm
  subst this;exact .val (by simp only[aH];exact⟨[],[],.nil,.nil,rfl⟩)
section
variable{D:bz}{F:Fr}{ak:a8 ao}{xs:List Operand}
def fm.cY{v:ao}(h:fm D (cR F x) v):∃ u,bt F x=.val u/\aH D v u:=by
 unfold bt Go.V.cY;rcases h with⟨u,h,ag⟩ | ⟨q,rfl,h⟩
 ·rw[h];exact⟨u,rfl,ag⟩
 ·rw[h];exact⟨.bool q,rfl,by simp[aH]⟩
def fm.tu{x:dd}{v:ao}(h:fm D x v)(ag:∀ q,v≠.b q):∃ u,x=.val u/\aH D v u:=by
 rcases h with h | ⟨q,h,_⟩
 ·exact h
 ·exact(ag q h).elim
def hT.bt(h:hT D F ak xs)(ab:x∈xs){v:ao}(ag:cQ ak x=some v):∃ u,bt F x=.val u/\aH D v u:=(h x ab v ag).cY
def hT.kO(h:hT D F ak xs):∀ {l:List Operand} {vs:List ao},(∀ x∈l,x∈xs)->mb ak l=some vs->∃ us,kO F l=some us/\bx D vs us
 |[],vs,_,ag=>by simp only[mb]at ag;cases ag;exact⟨[],rfl,.nil⟩
 |x::l,vs,av,ag=>by
  simp only[mb]at ag;split at ag;·rename_i v vs aa ad;cases ag;obtain⟨u,aA,a1⟩:=h.bt (av x (by simp)) aa;obtain⟨us,a0,ba⟩:=hT.kO h (λy aD=>av y (by simp[aD])) ad;refine⟨u::us,?_,.cons a1 ba⟩;show iD (cR F) (x::l)=_;rw[iD];have dD:cY (cR F) x=.val u:=aA;have oG:iD (cR F) l=some us:=a0;rw[dD,oG]
  ·cases ag
def hT.parts(h:hT D F ak xs):∀ {l:List (Nat×Operand)} {vs:List (Nat×ao)},(∀ x∈l.map (·.2),x∈xs)->AE ak l=some vs->∃ us,xx F l=some us/\Du D vs us
 |[],vs,_,ag=>by simp only[AE]at ag;cases ag;exact⟨[],rfl,.nil⟩
 |(i,x)::l,vs,av,ag=>by
  simp only[AE]at ag;split at ag;·rename_i v vs aa ad;cases ag;obtain⟨u,aA,a1⟩:=h.bt (av x (by simp)) aa;obtain⟨us,a0,ba⟩:=hT.parts h (λy aD=>av y (by simp only[cc,dW];exact .inr aD)) ad;refine⟨(i,u)::us,?_,.cons a1 ba⟩;show qu (cR F) ((i,x)::l)=_;rw[qu];have dD:cY (cR F) x=.val u:=aA;have oG:qu (cR F) l=some us:=a0;rw[dD,oG]
  ·cases ag
end
inductive oo(D:bz):List (ao×ao)->List MapEntry->Prop
 |nil:oo D [] []| cons {k v es e l} (ae:aH D k e.key) (ag:aH D v e.val) (t:oo D es l):oo D ((k,v)::es) (e::l)
def g6(n:Nat):Code->Bool
 | .seq x y=>g6 n x&&g6 n y| .block _ c=>g6 n c| .cond _ x y=>g6 n x&&g6 n y| .loop c=>g6 n c| .scope c=>g6 n c| .region _ ops _=>vC n ops| .rangeFunc _ ps et body=>g6 n et&&(g6 n body&&ps.toList.all λt=>Nat.blt t n)| _=>true
structure Tt(D:bz)(busy:Bool)(n:Nat)(ak:a8 ao)(ps:List Nat)(et body:Code)(L:Loop):Prop where
 aN:L.state=bif busy then .busy else .ready
 nX:L.pending=none
 sz:L.tmps.size=n
 ak:∀ t v,ak.get t=some v->aH D v (L.tmps.getD t undef)
 ps:L.params.toList=ps
 et:L.assign=et
 body:L.body=body
 yc:g6 n L.assign=true
 mI:g6 n L.body=true
 op:∀ t∈L.params.toList,t<n
inductive j5(D:bz)(E:Env)(M:List aE)(a:Loc):eA->Prop
 |cells{cs:a8 ao}{T eV:Nat}(arr:Array Value)(aC:a.o=0)(a3:(⟨a.b,.cells arr T (0,0)⟩:aE)∈M)(av:a.o+eV<=arr.size)(au:∀ i v,i<eV->cs.get i=some v->∃ x,arr[a.o+i]?=some x/\aH D v x)(ae:∀ i,E T=some i->arr.size=a.o+a.c*i.size)(hm:a.c<=maxLen):j5 D E M a (.cells cs T eV)| map {es:List (ao×ao)} (l:List MapEntry) (clock:Nat) (a3:(⟨a.b,.map l.toArray clock⟩:aE)∈M) (he:oo D es l):j5 D E M a (.map es)| loop {busy n ak ps et body} (L:Loop) (a3:(⟨a.b,.loop L⟩:aE)∈M) (ek:Tt D busy n ak ps et body L):j5 D E M a (.loop busy n ak ps et body)| done {c n ak ps et body} (L:Loop) (a3:(⟨a.b,.loop L⟩:aE)∈M) (ar:L.state=.done) (aO:L.pending=some c):j5 D E M a (.done c n ak ps et body)
def oo.mono{D bk:bz}(c3:D.le bk){es:List (ao×ao)}{l:List MapEntry}(h:oo D es l):oo bk es l:=by
 induction h with
 |nil=>exact .nil| cons ae ag t aR=>exact .cons (ae.mono c3) (ag.mono c3) aR
def j5.mono{D bk:bz}{M':List aE}{a:Loc}(c3:D.le bk)(a3:∀ x∈M,x.num=a.b->x∈M'){e:eA}(h:j5 D E M a e):j5 bk E M' a e:=by
 cases h with
 |cells arr ay aa ad al aL bG=>exact .cells arr ay (a3 _ aa rfl) ad (λi v hi ax=>by obtain⟨x,a1,ba⟩:=al i v hi ax;exact⟨x,a1,ba.mono c3⟩) aL bG| map l clock aa ad=>exact .map l clock (a3 _ aa rfl) (ad.mono c3)| loop L aa ad=>exact .loop L (a3 _ aa rfl) { ad with ak:=λt v aw=>(ad.ak t v aw).mono c3 }| done L aa ad al=>exact .done L (a3 _ aa rfl) ad al
def Dv(G:GT)(I:aM):Prop:=∀ g cs,G g=some cs->∃ (arr:Array Value) (T:Nat) (f:Nat×Nat),I g=some (.cells arr T f)/\∀ i v,cs.get i=some v->∃ x,arr[i]?=some x/\∀ D,aH D v x
structure cE(Y:fJ)(D:bz)(m:be)(I:aM)(M:List aE):Prop where
 hC:∀ id e a,m.t.get id=some e->D id=some a->j5 D Y.E M a e
 inj:∀ id hD e cM a bF,m.t.get id=some e->m.t.get hD=some cM->D id=some a->D hD=some bF->a.b=bF.b->id=hD
 iy:∀ id a,D id=some a->id<m.n
 oj:Dv Y.G I
section
variable{Y:fJ}{D:bz}{m:be}{I:aM}{M:List aE}{R:Type}
def tv(h:cE Y D m I M){x:ao}{u:Value}(ab:aH D x u){n:Nat}{K:List ao->Option R}{r:R}(af:q' Y.G m.t x n K=some r) :
  ∃ aV l vs,u=.pointer (some aV)/\c7 I M aV n vs/\bx D l vs/\K l=some r:=by
 have key:∀ (arr:Array Value) (c4 off:Nat) (l:List ao),l.length=n->c4+off+n<=arr.size->(∀ i,i<n->∀ v,l[i]?=some v->∃ x,arr[c4+off+i]?=some x/\aH D v x) ->
   ((arr.toList.drop (c4+off)).take n).length=n/\bx D l ((arr.toList.drop (c4+off)).take n):=by
  intro arr c4 off l av cx ax;have cu:((arr.toList.drop (c4+off)).take n).length=n:=by simp;omega
  refine⟨cu,bx.LJ (by rw[cu,av]) λi v hi=>?_⟩;have dy:i<n:=by rw[<-av];exact(ih.1 hi).1
  obtain⟨x,aa,ad⟩:=ax i dy v hi;refine⟨x,?_,ad⟩;rw[j',ck dy,na];simpa using aa
 unfold q' at af;split at af
 ·rename_i id off;split at af
  ·rename_i cs T eV ax;cases ah:Nat.ble (Nat.add off n) eV with
   |false=>rw[ah]at af;cases af
   |true=>
    rw[ah]at af;have hn:off+n<=eV:=bH ah;simp only[bZ]at af;obtain⟨l,aa,ad,al⟩:=a8.AO cs n off K r af;obtain⟨a,aY,hu⟩:=ab.ptr;have he:=h.hC _ _ _ ax aY;obtain⟨arr,-,a3,av,au,-,-⟩:=he;obtain⟨dS,ch⟩:=key arr a.o off l aa (by omega) λi hi v ag=>by have:=au (off+i) v (by omega) (by rw[ad i hi,ag]);rw[<-qs]at this;exact this
    exact⟨_,l,_,hu,⟨rfl,arr,T,(0,0),.inr ⟨_,a3,rfl,rfl⟩,rfl,dS⟩,ch,al⟩
  ·cases af
 ·rename_i g off;split at af
  ·rename_i cs ax;obtain⟨l,aa,ad,al⟩:=a8.AO cs n off K r af;obtain⟨arr,T,f,bC,au⟩:=h.oj _ _ ax;have hu:=ab.oj;have dN:∀ i,i<n->∀ v,l[i]?=some v->∃ x,arr[0+off+i]?=some x/\aH D v x:=λi hi v ag=>by obtain⟨x,a1,ba⟩:=au (off+i) v (by rw[ad i hi,ag]);exact⟨x,by simpa using a1,ba D⟩
   by_cases aJ:n=0;·subst aJ;have:l=[]:=im aa;subst this;exact⟨_,[],[],hu,⟨rfl,arr,T,f,.inl bC,by simp,rfl⟩,.nil,al⟩
   ·have cx:0+off+n<=arr.size:=by
     have aW:n-1<l.length:=by omega
     obtain⟨x,a1,_⟩:=dN (n-1) (by omega) l[n-1] (dX aW);have:=(j9.1 a1).1;omega
    obtain⟨dS,ch⟩:=key arr 0 off l aa cx dN;simp only[c9]at dS ch;exact⟨_,l,_,hu,⟨rfl,arr,T,f,.inl bC,rfl,dS⟩,ch,al⟩
  ·cases af
 ·cases af
end
def ac3{k:IntKind}(h:IntKind.kP k eS=true):k=eS:=IntKind.zs h
def G4(l m:List UInt8):decide ((⟨l.toArray⟩:ByteArray)=⟨m.toArray⟩)=decide (l=m):=by
 simp only[GC];constructor
 ·intro h;simpa using h
 ·rintro rfl;rfl
def ac4(a b:ByteArray):(a == b)=decide (a=b):=by
 rw[rq];simp only[hk];constructor
 ·intro h
  first | exact eq_of_beq h | exact sL (eq_of_beq (a:=a.data) (b:=b.data) h)
 ·rintro rfl
  first | exact BZ _ | exact BZ a.data
section
variable{P:Program}{E:Env}{D:bz}
def G5(aG:cw P E){o:Nat}{l:List ao}{x:ao}(h:wF E t o l=some x){us:List Value}(av:bx D l us):∃ u,aH D x u/\∀ w,(part t us.toArray o).run P w=.ok u w:=by
 unfold wF at h;obtain⟨i,aa,h⟩:=bW h;obtain⟨ay,h⟩:=wK h;have iK:i.size≠0:=λe=>by rw[e]at ay;cases ay
 obtain⟨r,ad,h⟩:=bW h;obtain⟨aA,a0⟩:=Tr ad;rw[Dt]at aA;have cu:=av.len;subst aA;refine⟨_,G2 h ((av.drop o).take _),λw=>?_⟩;have:=IJ (aG _ _ aa) (cs:=us.toArray) (off:=o) (by rw[fu,rF]at a0;simp;omega) w;simpa using this
def LN{F:Nat->ao->ao->Option Bool}{l m:List ao}{α β:Type}{pl:α->Nat×Nat}{g:α->β->Sem (ForInStep β)}{b3 s1:β}{w:World}:∀ (L:List α) {b:Bool},yH F E l m (L.map pl)=some b -> (∀ a∈L,∀ x y c,wF E (pl a).1 (pl a).2 l=some x->wF E (pl a).1 (pl a).2 m=some y->F (pl a).1 x y=some c->(g a b3).run P w=.ok (if c then .yield b3 else .done s1) w) -> (forIn L b3 g).run P w=.ok (if b then b3 else s1) w
 |[],b,h,_=>by cases h;simp[cH]
 |a::L,b,h,ax=>by
  simp only[cc]at h;unfold yH at h;obtain⟨x,aa,h⟩:=bW h;obtain⟨y,ad,h⟩:=bW h;obtain⟨c,al,h⟩:=bW h;simp only[List.forIn_cons,bV];rw[ax a (by simp) x y c aa ad al];rw[jh]at h;cases c with
  |true=>simp only[pF,bN];exact LN L h λbF aY=>ax bF (by simp[aY])
  |false=>cases h;simp[bN,cH]
def LO(aG:cw P E):∀ (d:Nat) {t:Nat} {x y:ao} {b:Bool} {u v:Value},uU P E d t x y=some b->aH D x u->aH D y v->∀ n,d<=n->∀ w,(Op.equalIn n t u v).run P w=.ok b w
 |0,t,x,y,b,u,v,h,ab,aD,n,aJ,w=>by cases h
 |d+1,t,x,y,b,u,v,h,ab,aD,0,aJ,w=>by omega
 |d+1,t,x,y,b,u,v,h,ab,aD,n+1,aJ,w=>by
  unfold uU at h;obtain⟨i,hi,h⟩:=bW h;obtain⟨n2,e0,lY⟩:=(aG _ _ hi).eW;rw[Op.equalIn];simp only[bV,run_underlying e0,bN];split at h
  ·rename_i a bF ar _;cases h;have a1:n2=.bool:=by cases n2<;>simp_all[eR]
   subst a1;rw[ab.bool,aD.bool];rfl
  ·rename_i eS k a ch bF ar _;obtain⟨aA,h⟩:=e4 h;cases h;have a1:n2=.int eS:=by cases n2<;>simp_all[eR]
   subst a1;rw[ab.int,aD.int];rw[ac3 aA];have ah:(a == bF)=qf a bF:=by
    rw[yO];by_cases e:a=bF;·subst e;simp
    ·simp[e]
   simp[ah]
  ·rename_i a bF ar _;cases h;have a1:n2=.string:=by cases n2<;>simp_all[eR]
   subst a1;rw[ab.str,aD.str];show Result.ok _ _=_;rw[AP,<-G4];congr 1;exact ac4 _ _
  ·rename_i cb l m ar _;obtain⟨aA,h⟩:=e4 h;unfold SK at aA;rw[e0]at aA;cases n2 with
   |struct fields=>
    simp only[b',qC,fL,hk]at aA;obtain⟨aA,a0⟩:=aA;rw[ar]at lY;simp only[eR,BA.struct.injEq]at lY;subst lY;obtain⟨us,aa,rfl⟩:=ab.agg;obtain⟨ws,ad,rfl⟩:=aD.agg;simp only[bV,run_program,bN,aA,jF,ky];rw[<-Array.forIn_toList];rw[LN (P:=P) (s1:=⟨some false,⟨⟩⟩) fields.toList h (λf az x y c Dw uZ au=>by
     obtain⟨p,dS,ch⟩:=G5 aG Dw aa;obtain⟨q,gI,lB⟩:=G5 aG uZ ad;have aK:=LO aG d au dS gI n (by omega) w;simp only[a0 f az,pF,ne_eq,not_false_eq_true,bV,ch,lB,bN,aK];cases c<;>simp[cH])]
    cases b<;>simp[bN,cH]
   |_=>cases aA
  ·rename_i len e l m ar _;obtain⟨aB,gF,h⟩:=bW h;have a1:n2=.array len e:=by cases n2<;>simp_all[eR]
   subst a1;obtain⟨us,aa,rfl⟩:=ab.agg;obtain⟨ws,ad,rfl⟩:=aD.agg;simp only[bV,(aG _ _ gF).run_sizeOf,bN,Ph];have af:List.range' 0 ([:len]:Std.Legacy.Range).size=List.range len:=by simp[Std.Legacy.Range.size,zl]
   rw[af];rw[LN (P:=P) (s1:=⟨some false,⟨⟩⟩) (List.range len) h (λf az x y c Dw uZ au=>by
    obtain⟨p,dS,ch⟩:=G5 aG Dw aa;obtain⟨q,gI,lB⟩:=G5 aG uZ ad;have aK:=LO aG d au dS gI n (by omega) w;simp only[bV,ch,lB,bN,aK];cases c<;>simp[cH])]
   cases b<;>simp[bN,cH]
  ·cases h
end
section
variable{X:cB}{D:bz}
def Tu(aG:cw X.P X.E){op:BinOp}{l m:List ao}{v:ao}{us ws:List Value}{O:Prop}(h:Df X.P X.E op t l m=some v)(av:bx D l us)(hm:bx D m ws)(ae:∀ u,aH D v u->K u) :
  ft X.P op t x y (.val (.agg us.toArray)) (.val (.agg ws.toArray)) K O:=by
 unfold Df at h;obtain⟨ax,h⟩:=wK h;obtain⟨b,aa,h⟩:=bW h;have aK:=LO (D:=D) aG 8 aa (u:=.agg us.toArray) (v:=.agg ws.toArray) (by simp only[aH];exact⟨us,av,rfl⟩) (by simp only[aH];exact⟨ws,hm,rfl⟩) Op.maxDepth (by decide);split at h
 ·cases h;refine .mk _ _ _ rfl rfl (λw=>?_) (ae _ (by simp only[aH];rfl));simp only[bV,run_eqGuard_agg (hm:=ax),bN,binOp,Op.equal,aK,cH]
 ·cases h;refine .mk _ _ _ rfl rfl (λw=>?_) (ae _ (by simp only[aH];rfl));simp only[bV,run_eqGuard_agg (hm:=ax),bN,binOp,Op.equal,aK,cH]
 ·cases h
end
open Go Go.Proofs
def AR(x y:Int):Int:=IntKind.u64.wrap ((BitVec.ofInt 64 x ||| BitVec.ofInt 64 y).toNat:Int)
def G6(x y:BitVec 64):AR x.toNat y.toNat=((x ||| y).toNat:Int):=by unfold AR;rw[Gu,Gu,Su]
def LP(x y:Int):Int:=IntKind.u64.wrap ((BitVec.ofInt 64 x &&& BitVec.ofInt 64 y).toNat:Int)
def ac5(x y:BitVec 64):LP x.toNat y.toNat=((x &&& y).toNat:Int):=by unfold LP;rw[Gu,Gu,Su]
def ac6(x y:BitVec 64):qf (x.toNat:Int) (y.toNat:Int)=decide (x=y):=by rw[yO,<-acB,rq];simp
def AS(v:α)(x:R)(f:α->R):bh (some v) x f=f v:=rfl
def Tv(a5 mid post:List Value)(k:Nat)(vs:List Value)(h:k+vs.length<=mid.length):bQ (a5++(mid++post)) (a5.length+k) vs=a5++(bQ mid k vs++post):=by
 unfold bQ;have aa:(a5++(mid++post)).take (a5.length+k)=a5++mid.take k:=by rw[CM,Nat.add_sub_cancel_left,fT (by omega),BU (by omega)]
 have ad:(a5++(mid++post)).drop (a5.length+k+vs.length)=mid.drop (k+vs.length)++post:=by rw[qs,Pj,SC h]
 rw[aa,ad];simp
def ac7(f:α->List Value)(size:Nat)(az:∀ x,(f x).length=size)(l:List α)(i:Nat)(hi:i<l.length)(k:Nat)(vs:List Value)(ae:k+vs.length<=size)(jJ:α)(ab:bQ (f l[i]) k vs=f jJ) :
  bQ (l.flatMap f) (i*size+k) vs=(l.set i jJ).flatMap f:=by
 have e:l=l.take i++l[i]::l.drop (i+1):=by rw[<-e6 hi,qM]
 have aA:l.flatMap f=(l.take i).flatMap f++(f l[i]++(l.drop (i+1)).flatMap f):=by
  calc l.flatMap f=(l.take i++l[i]::l.drop (i+1)).flatMap f:=congrArg _ e
   _=_:=by rw[gK,jO]
 have a0:((l.take i).flatMap f).length=i*size:=by rw[hM f size az,Gx (by omega)]
 rw[aA,<-a0,Tv _ _ _ _ _ (by rw[az];exact ae),BT,ck hi,gK,jO,ab]
def ac8{m:Nat}(h:j+vs.length<=m)(hm:m<=aS.length):(bQ aS j vs).take m=bQ (aS.take m) j vs:=by
 unfold bQ;have aa:(aS.take m).take j=aS.take j:=by rw[xU,oA (by omega)]
 have ad:(aS.take m).drop (j+vs.length)=(aS.drop (j+vs.length)).take (m-(j+vs.length)):=by rw[zB]
 have al:(aS.take j).length=j:=by rw[fu];omega
 rw[aa,ad,fi,fi,CM,al,fT (by omega),CM,fT (by omega:vs.length<=m-j)];congr 3;omega
def aU.put(f:α->List Value)(size:Nat)(az:∀ x,(f x).length=size){l:List α}{e:Nat}(h:os.ok size (l.flatMap f)){i:Nat}(hi:i<l.length)(k:Nat)(ae:k+vs.length<=size)(aa:fN vs=true)(jJ:α)(ab:bQ (f l[i]) k vs=f jJ)(a5 post:List aE)(a3:M=a5++(os.aq e++post))(ax:os.a=some g)(ac9:off=i*size+k){K:List aE->Prop}
  (fg:∀ (bD:aU),bD.val=os.val->bD.a=os.a->bD.n=os.n->bD.ok size ((l.set i jJ).flatMap f)->K (a5++(bD.aq e++post))):cn M ⟨g,off,none⟩ vs K:=by
 have xF:=h.len;rw[hM f size az]at xF;obtain⟨a,n,c,aS⟩:=os;have av:l.length*size=n*size:=xF;simp only at ax;subst ax;obtain⟨hf,g4,jY,lE⟩:=h.cap g rfl;simp only at hf g4 jY lE;have ah:n*size<=c*size:=mq _ g4;have h0:i*size+size<=l.length*size:=by have:=mq size (show i+1<=l.length from hi);rwa [ke,oO]at this
 subst a3;subst ac9;refine cn.mk a5 post aS.toArray e rfl rfl ?_ aa ?_
 ·simp only[rE];omega
 ·have:=fg ⟨some g,n,c,bQ aS (i*size+k) vs⟩ rfl rfl rfl ⟨?_,(λh=>by cases h),λcN ax=>?_⟩
  ·simpa[aU.aq]using this
  ·rw[hM f size az,uJ];exact av
  ·cases ax;refine⟨?_,g4,jY,?_⟩
   ·simp only[bQ,cL,fu,rF];omega
   ·simp only;rw[ac8 (by omega) (by omega),lE,ac7 f size az l i hi k vs ae jJ ab]
def ada(l:List Value)(k:Nat)(v:Value)(h:k<l.length):bQ l k [v]=l.set k v:=by rw[BT,ck h];simp[bQ]
def aU.Dx(f:α->List Value)(size:Nat)(az:∀ x,(f x).length=size){l:List α}{e:Nat}(h:os.ok size (l.flatMap f)){i:Nat}(hi:i<l.length)(jJ:α)(aa:fN (f jJ)=true)(a5 post:List aE)(a3:M=a5++(os.aq e++post))(bU:(os.a.map λg=>(⟨g,0,none⟩:Addr))=some aV){K:List aE->Prop}
  (fg:∀ (bD:aU),bD.val=os.val->bD.a=os.a->bD.n=os.n->bD.ok size ((l.set i jJ).flatMap f)->K (a5++(bD.aq e++post))):cn M (aV.add (i*size)) (f jJ) K:=by
 obtain⟨g,ax,rfl⟩:∃ g,os.a=some g/\aV=⟨g,0,none⟩:=by
  cases aY:os.a with
  |none=>rw[aY]at bU;cases bU| some g=>rw[aY]at bU;cases bU;exact⟨g,rfl,rfl⟩
 rw[dY (⟨g,0,none⟩:Addr) rfl];refine aU.put f size az h hi 0 (vs:=f jJ) (by rw[az];omega) aa jJ ?_ a5 post a3 ax (by simp) fg;unfold bQ;simp[az]
def aU.AT(f:α->List Value)(size:Nat)(az:∀ x,(f x).length=size){l:List α}{e:Nat}(h:os.ok size (l.flatMap f)){i:Nat}(hi:i<l.length)(k:Nat)(ae:k+vs.length<=size)(aa:fN vs=true)(jJ:α)(ab:bQ (f l[i]) k vs=f jJ)(a5 post:List aE)(a3:M=a5++(os.aq e++post))(bU:(os.a.map λg=>(⟨g,0,none⟩:Addr))=some aV){K:List aE->Prop}
  (fg:∀ (bD:aU),bD.val=os.val->bD.a=os.a->bD.n=os.n->bD.ok size ((l.set i jJ).flatMap f)->K (a5++(bD.aq e++post))):cn M ((aV.add (i*size)).add k) vs K:=by
 obtain⟨g,ax,rfl⟩:∃ g,os.a=some g/\aV=⟨g,0,none⟩:=by
  cases aY:os.a with
  |none=>rw[aY]at bU;cases bU| some g=>rw[aY]at bU;cases bU;exact⟨g,rfl,rfl⟩
 rw[dY (⟨g,0,none⟩:Addr) rfl,dY _ rfl];exact aU.put f size az h hi k ae aa jJ ab a5 post a3 ax (by simp) fg
def Tw(w:dm){k:Nat}(ae:k<64):IntKind.u64.wrap ((BitVec.ofInt 64 ((w.toNat:Int).fdiv (2^(min k 64))) &&& BitVec.ofInt 64 1).toNat:Int)=bif w.getLsbD k then 1 else 0:=by
 have aJ:w.toNat<18446744073709551616:=w.isLt;have c1:min k 64=k:=by omega
 have aA:(w.toNat:Int).fdiv (2^k)=((w.toNat/2^k:Nat):Int):=by rw[Fx _ (by exact Int.le_of_lt (Int.pow_pos (by decide)))];simp
 rw[c1,aA];have a0:(BitVec.ofInt 64 ((w.toNat/2^k:Nat):Int) &&& BitVec.ofInt 64 1).toNat=w.toNat/2^k%2:=by
  have aa:BitVec.ofInt 64 ((w.toNat/2^k:Nat):Int)=BitVec.ofNat 64 (w.toNat/2^k):=(show ∀ m:Nat,BitVec.ofInt 64 (m:Int)=BitVec.ofNat 64 m from λm=>by simp) _;have ad:BitVec.ofInt 64 1=BitVec.ofNat 64 1:=by decide
  rw[aa,ad,FA,GA,GA];have al:w.toNat/2^k%2^64=w.toNat/2^k:=K2 (Nat.lt_of_le_of_lt (Nat.div_le_self _ _) aJ);rw[al,show 1%2^64=1 by decide,Nat.and_one_is_mod]
 rw[a0];have bY:IntKind.u64.wrap ((w.toNat/2^k%2:Nat):Int)=((w.toNat/2^k%2:Nat):Int):=by have:w.toNat/2^k%2<2:=Nat.mod_lt _ (by decide);unfold IntKind.wrap;simp only[IntKind.bits,IntKind.signed];simp;omega
 rw[bY];have dE:w.getLsbD k=w.toNat.testBit k:=rfl;rw[dE,Nat.testBit_eq_decide_div_mod_eq];have:w.toNat/2^k%2<2:=Nat.mod_lt _ (by decide);by_cases h:w.toNat/2^k%2=1
 ·rw[h];rfl
 ·have ay:w.toNat/2^k%2=0:=by omega
  rw[ay];rfl
def LQ{k:Nat}(ae:k<64):IntKind.u64.wrap (1*2^(min k 64))=((j1 k).toNat:Int):=by
 have c1:min k 64=k:=by omega
 have aa:(2:Nat)^k<2^64:=Nat.pow_lt_pow_right (by decide) ae;have e:(j1 k).toNat=2^k:=by unfold j1;rw[BitVec.toNat_shiftLeft];simp only[GA];rw[Nat.shiftLeft_eq,show 1%2^64=1 by decide,oO,K2 aa]
 rw[c1,e,Int.one_mul];have a0:((2:Int)^k)=((2^k:Nat):Int):=by simp
 rw[a0];unfold IntKind.wrap;simp only[IntKind.bits,IntKind.signed];simp;omega
def mY(w:dm):Value:=.int .u64 w.toNat
def Tx{w:dm}{i:Nat}(aW:i<64)(ad:¬ IntKind.u64.wrap ((BitVec.ofInt 64 ((w.toNat:Int).fdiv (2^(min i 64))) &&& BitVec.ofInt 64 1).toNat:Int)=0):w.getLsbD i=true:=by
 have ah:=Tw w aW;cases ax:w.getLsbD i with
 |true=>rfl| false=>rw[ax]at ah;exact absurd ah ad
def Ty{w:dm}{i:Nat}(aW:i<64)(ad:IntKind.u64.wrap ((BitVec.ofInt 64 ((w.toNat:Int).fdiv (2^(min i 64))) &&& BitVec.ofInt 64 1).toNat:Int)=0):w.getLsbD i=false:=by
 have ah:=Tw w aW;cases ax:w.getLsbD i with
 |false=>rfl| true=>rw[ax,ad]at ah;cases ah
def Tz{b:Int}(h:(!decide (a=b))=true):¬ a=b:=by simpa using h
def TA{b:Int}(h:(!decide (a=b))=false):a=b:=by simpa using h
def TB(w:dm):Spec Tryz.prog 105 [.int .u64 w.toNat] I M0 λv I' M'=>I'=I/\∃ os:aU,os.ok 1 ((bitsOf w 64).map λn:Nat=>Value.int .i64 n)/\v=os.val/\M'=os.aq 3++M0:=by
 refine cp [] a4 Tryz.func105 rfl rfl rfl ?_;intro B ay;refine dI.inv (ι:=Nat×aU) (λx=>{ bn:=[(0,.val (.int .u64 w.toNat)),(3,.val x.2.val),(5,.val (.int .i64 x.1))],c2:=I,dx:=x.2.aq 3++M0 }) (λx=>x.1<=64/\x.2.ok 1 ((bitsOf w x.1).map λn:Nat=>Value.int .i64 n)) (λx=>64-x.1) ?_ ?_
 ·exact⟨(0,jz),⟨by simp,ob 1⟩,.refl,g1,.nil⟩
 rintro⟨i,os⟩⟨hi,cC⟩;simp only at hi cC;have h9:os.n<=64:=by have aa:=cC.len;rw[bO]at aa;have:=acI w i;omega
 refine a9.mk (λh=>?_) (λh=>?_)
 rotate_left
 ·have cV:i=64:=by have:¬ (i:Int)<64:=eO h;omega
  rw[cV]at cC;exact⟨_,_,.refl,rfl,os,cC,rfl,rfl⟩
 have aW:i<64:=by have:(i:Int)<64:=dV h;omega
 refine tW.mk i rfl ?_;refine a9.mk (λad=>?_) (λad=>?_)
 ·have hw:=Tx (w:=w) aW (Tz ad);refine cJ.mk λcz qW yl=>?_;refine br.lN a4 rfl (by simp) (e:=3) rfl rfl rfl os cC rfl (cs:=[.int .i64 i]) rfl rfl rfl [] M0 rfl (by omega) (by show(os.n+1)*8<=_;omega) ?_;intro hE lR gd hc;refine bi.mk _ (de (i:=i) (by omega)) ?_;refine⟨(i+1,hE),⟨⟨aW,?_⟩,by simp only;omega⟩,.refl,g1,.nil⟩;simp only;rw[SB,hw,dc];exact hc
 ·have hw:=Ty (w:=w) aW (TA ad);refine bi.mk _ (de (i:=i) (by omega)) ?_;refine⟨(i+1,os),⟨⟨aW,?_⟩,by simp only;omega⟩,.refl,g1,.nil⟩;simp only;rw[SB,hw,b0,ee];exact cC
def wO(w:dm):ao:=.i .u64 w.toNat
def TC{e:Nat}(he:E e=some aB)(ar:aB.size=1)(aY:aB.bE.agg=false)(P:List ao)(x:ao)(r:List ao):wF E e (P.length*aB.size) (P++x::r)=some x:=by unfold wF;rw[he,AS,ar,gV,Dt,K3,aY];rfl
def TD{F:Nat->ao->ao->Option Bool}{E:Env}{e:Nat}{aB:dt}(he:E e=some aB)(ar:aB.size=1)(aY:aB.bE.agg=false)(bf:∀ a b,F e (.i .u64 a) (.i .u64 b)=some (qf a b)):∀ (l m:List dm) (AU AV:List ao),l.length=m.length->AU.length=AV.length -> yH F E (AU++l.map wO) (AV++m.map wO) ((List.range' AU.length l.length).map λi=>(e,i*aB.size))=some (decide (l=m))
 |[],[],AU,AV,_,_=>rfl| [],_::_,_,_,h,_=>by simp at h
 |_::_,[],_,_,h,_=>by simp at h
 |a::l,b::m,AU,AV,h,aO=>by
  have aR:=TD he ar aY bf l m (AU++[wO a]) (AV++[wO b]) (by simpa using h) (by simpa using aO);rw[cL,wD,fi,fi,p7,p7]at aR;rw[ea,Iy,cc,cc,cc,yH,TC he ar aY,AS,aO,TC he ar aY,AS,<-aO];rw[show F e (wO a) (wO b)=some (decide (a=b)) by rw[<-ac6];exact bf _ _,AS,jh];by_cases aA:a=b;·subst aA;simp only[F4,pF];rw[aR];simp
  ·simp[aA]
def jB(m:List dm):List Value:=(List.range 64).map λi=>mY (m.getD i 0)
def G7(h:m.length=64):jB m=m.map mY:=by
 unfold jB;apply qD
 ·simp[h]
 ·intro i aa ad;have:i<m.length:=by simpa using ad
  simp[cv,this]
def re(m:List dm):(jB m).length=64:=by simp[jB]
def adb{p q:List dm}(aO:p.length=64)(aK:q.length=64){V:Value->Prop}{other:Prop}(h:V (.bool (decide (p=q)))) :
  ft Tryz.prog .eql 156 x y (.val (.agg (jB p).toArray)) (.val (.agg (jB q).toArray)) V other:=by
 rw[G7 aO,G7 aK];have ag:∀ l:List dm,bx (λ_=>none) (l.map wO) (l.map mY):=λl=>by
  induction l with
  |nil=>exact .nil| cons a l aR=>exact .cons (by simp only[wO,mY,aH]) aR
 refine Tu (X:=⟨Tryz.prog,pT,[],0,0,default,λ_=>none,[],none⟩) (D:=λ_=>none) (v:=.b (decide (p=q))) a4 ?_ (ag p) (ag q) (λu hu=>by simp only[aH]at hu;rw[hu];exact h);show Df Tryz.prog pT .eql 156 _ _=_;obtain⟨i1,aa,fc⟩:∃ i,pT 156=some i/\i.bE=.array 64 62:=⟨_,rfl,rfl⟩;obtain⟨i2,ad,mC,ade⟩:∃ i,pT 62=some i/\i.bE=.int .u64/\i.size=1:=⟨_,rfl,rfl,rfl⟩;have bf:∀ a b,uU Tryz.prog pT 7 62 (.i .u64 a) (.i .u64 b)=some (qf a b):=λa b=>by simp only[uU,ad,AS,mC];rfl
 have ae:=TD (F:=uU Tryz.prog pT 7) ad ade (by rw[mC];rfl) bf p q [] [] (by omega) rfl;unfold Df;rw[uU];simp only[aa,AS,fc,ad];rw[jq,jq,gL,aO]at ae;rw[zl,ae,show Tryz.prog.eqGuardType Tryz.prog.depth 156=false by kernel_rfl];rfl
structure df where
 n:Nat
 m:List dm
 w:dm
def df.cells(s:df):List Value:=.int .i64 s.n::(jB s.m++[mY s.w])
def df.val(s:df):Value:=.agg s.cells.toArray
def df.adf(s:df):Prop:=s.m.length=64/\s.n<=64
def tw(b:Nat)(m:List dm):aE:=⟨b,.cells (jB m).toArray 156 (0,0)⟩
def Dy{b:Nat}(a3:tw b m∈M):c7 I M (⟨b,0,none⟩:Addr) 64 (jB m):=
 ⟨rfl,_,_,_,.inr ⟨_,a3,rfl,rfl⟩,by simp only[xV];exact fT (by simp[re]),re m⟩
def TE{b:Nat}(a3:tw b m∈M)(ai:j<64):c7 I M ((⟨b,0,none⟩:Addr).add (j*1)) 1 [mY (m.getD j 0)]:=by rw[dY _ rfl];refine⟨rfl,_,_,_,.inr ⟨_,a3,rfl,rfl⟩,?_,rfl⟩;simp only[c9,gV];rw[e6 (by simpa[jB]using ai),oN,nS];simp[jB]
def TF(m:List dm)(hm:m.length=64)(j:Nat)(ai:j<64)(w:dm):bQ (jB m) (0+j*1) [mY w]=jB (m.set j w):=by rw[G7 hm,G7 (by simpa using hm),c9,gV,ada _ _ _ (by simp[hm];exact ai),ug]
def mc(m:List dm)(i:Nat):List dm:=(List.range i).map (λq=>k4 m 0 64 (m.getD q 0))++m.drop i
def TG(hm:m.length=64){i:Nat}(hi:i<=64):(mc m i).length=64:=by simp[mc,hm];omega
def adg(hm:m.length=64){i:Nat}(hi:i<64):(mc m i).set i (m.getD i 0)=mc m i:=by
 unfold mc;have h:i<m.length:=by omega
 rw[yn _ _ (by simp)];simp only[bO,GB,kn];rw[e6 h,yo];simp[cv,h]
def adh(hm:m.length=64){i:Nat}(hi:i<64):(mc m i).set i (k4 m 0 64 (m.getD i 0))=mc m (i+1):=by
 unfold mc;have h:i<m.length:=by omega
 rw[yn _ _ (by simp)];simp only[bO,GB,kn];rw[e6 h,yo,F1,dc,fi];rfl
def TH(hm:m.length=64):mc m 64=ph m:=by unfold mc ph;rw[qe (by omega),ee]
def wP(m:List dm)(k:Nat):dm:=(List.range k).foldl (λw i=>w ||| ((m.getD i 0) &&& j1 i)) 0
def adi(m:List dm)(k:Nat):wP m (k+1)=wP m k ||| (m.getD k 0 &&& j1 k):=by unfold wP;rw[F1,q0];rfl
def adj{b:Int}(h:a=b):vz (.val (.int .u64 a)) (.val (.int .u64 b)):=by subst h;exact .refl
def adk(m:List dm)(k:Nat):AR (wP m k).toNat (LP (m.getD k 0).toNat (j1 k).toNat)=((wP m (k+1)).toNat:Int):=by rw[ac5,G6,adi]
def adl{k:Nat}{w:dm}(ae:k<64)(h:w.getLsbD k=true):k4 m k (64-k) w=k4 m (k+1) (64-(k+1)) (w ||| m.getD k 0):=by rw[show 64-k=(64-(k+1))+1 by omega,k4,h];rfl
def adm{k:Nat}{w:dm}(ae:k<64)(h:w.getLsbD k=false):k4 m k (64-k) w=k4 m (k+1) (64-(k+1)) w:=by rw[show 64-k=(64-(k+1))+1 by omega,k4,h];rfl
def LR{i:Nat}(hi:i<m.length)(w:dm):(m.set i w).getD i 0=w:=by simp[cv,hi]
set_option maxHeartbeats 8000000 in
def adn(s:df)(ar:s.adf):Spec Tryz.prog 106 [s.val] I M0 λv I' M'=>I'=I/\M'=M0/\∃ b:dm,v=.int .u64 b.toNat/\∀ i,i<64->(b.getLsbD i=true ↔ oh s.m i i):=by
 refine cp [1,3,4] a4 Tryz.func106 rfl rfl rfl ?_;intro B ay;obtain⟨fc,mC⟩:=ar;refine cJ.mk λb1 mH KH=>?_;refine aZ.mk (jB s.m) ?_ ?_
 ·refine⟨rfl,_,_,_,.inr ⟨_,.head _,rfl,rfl⟩,?_,re _⟩;show((s.cells).drop 1).take 64=_;rw[df.cells,Dc,xV];exact pV (re _)
 refine cJ.mk λfF alN alO=>?_;refine cn.pg [] _ _ _ rfl rfl rfl rfl (jB s.m) rfl ?_;refine dI.inv (ι:=List dm) (λm=>{ bn:=[(3,.val (ptr fF))],c2:=I,dx:=tw fF m::M0 }) (wB s.m) wC ?_ ?_
 ·exact⟨s.m,.start fc,.sub (.cons_cons _ (.cons _ (.refl _))) .refl,.cons .refl (.nil),.nil⟩
 intro m hm;have kk:=hm.len;refine aZ.mk _ (Dy (.head _)) ?_;refine cJ.mk λl' TI ado=>?_;refine cn.pg [] _ _ _ rfl rfl rfl rfl (jB m) rfl ?_;refine dI.inv (ι:=Nat) (λi=>{ bn:=[(3,.val (ptr fF)),(4,.val (ptr l')),(13,.val (.int .i64 i))],c2:=I,dx:=tw l' (mc m i)::(tw fF m::M0) }) (λi=>i<=64) (λi=>64-i) ?_ ?_
 ·refine⟨0,dO _,.refl,g1,.nil⟩
 intro i hi;refine a9.mk (λh=>?_) (λh=>?_)
 rotate_left
 ·have cV:i=64:=by have:¬ (i:Int)<64:=eO h;omega
  subst cV;refine aZ.mk _ (Dy (.head _)) ?_;refine aZ.mk _ (Dy (.tail _ (.head _))) ?_;refine adb (TG kk (cI _)) kk ?_;rw[TH kk];refine a9.mk (λhe=>?_) (λhe=>?_)
  ·have qE:ph m=m:=dV he;refine aZ.mk _ (Dy (.tail _ (.head _))) ?_;refine dI.inv (ι:=Nat) (λk=>{ bn:=[(7,.val (.int .u64 (wP m k).toNat)),(40,.val (.agg (jB m).toArray)),(41,.val (.int .i64 k))],c2:=I,dx:=M0 }) (λk=>k<=64) (λk=>64-k) ?_ ?_
   ·exact⟨0,dO _,.sub (.cons _ (.cons _ (.refl _))) .refl,g1,.nil⟩
   intro k ae;refine a9.mk (λh=>?_) (λh=>?_)
   rotate_left
   ·have cV:k=64:=by have:¬ (k:Int)<64:=eO h;omega
    subst cV;exact⟨_,_,.refl,rfl,rfl,wP m 64,rfl,λi hi=>by rw[show wP m 64=KZ m from rfl,acH m hi,hm.done qE hi hi]⟩
   have eG:k<64:=by have:(k:Int)<64:=dV h;omega
   clear h ae;have au:k=0\/k=1\/k=2\/k=3\/k=4\/k=5\/k=6\/k=7\/k=8\/k=9\/k=10\/k=11\/k=12\/k=13\/k=14\/k=15\/k=16\/k=17\/k=18\/k=19\/k=20\/k=21\/k=22\/k=23\/k=24\/k=25\/k=26\/k=27\/k=28\/k=29\/k=30\/k=31\/k=32\/k=33\/k=34\/k=35\/k=36\/k=37\/k=38\/k=39\/k=40\/k=41\/k=42\/k=43\/k=44\/k=45\/k=46\/k=47\/k=48\/k=49\/k=50\/k=51\/k=52\/k=53\/k=54\/k=55\/k=56\/k=57\/k=58\/k=59\/k=60\/k=61\/k=62\/k=63:=by omega
   rcases au with rfl | rfl | rfl | rfl | rfl | rfl | rfl | rfl | rfl | rfl | rfl | rfl | rfl | rfl | rfl | rfl | rfl | rfl | rfl | rfl | rfl | rfl | rfl | rfl | rfl | rfl | rfl | rfl | rfl | rfl | rfl | rfl | rfl | rfl | rfl | rfl | rfl | rfl | rfl | rfl | rfl | rfl | rfl | rfl | rfl | rfl | rfl | rfl | rfl | rfl | rfl | rfl | rfl | rfl | rfl | rfl | rfl | rfl | rfl | rfl | rfl | rfl | rfl | rfl
   all_goals
    refine dP.mk _ rfl eG ?_;refine tW.mk _ rfl ?_;refine bi.mk _ (LQ eG) ?_;refine bi.mk _ (de (by omega)) ?_;exact⟨_,⟨eG,by omega⟩,.refl,.cons (adj (adk m _)) (uf),.nil⟩
  ·have qE:ph m≠m:=eO he;refine aZ.mk _ (Dy (.head _)) ?_;refine cn.pg [_] _ _ _ rfl rfl rfl rfl (jB (mc m 64)) rfl ?_;refine⟨ph m,⟨hm.next,acG kk qE⟩,.sub (.cons _ (.refl _)) (.tn ?_),.cons .refl (.nil),.nil⟩;rw[TH kk];rfl
 have aW:i<64:=by have:(i:Int)<64:=dV h;omega
 have oW:=TG kk hi;refine dI.inv (ι:=Nat×dm) (λs=>{ bn:=[(3,.val (ptr fF)),(4,.val (ptr l')),(5,.val (.int .i64 i)),(13,.val (.int .i64 i)),(16,.val (.int .i64 s.1))],c2:=I,dx:=tw l' ((mc m i).set i s.2)::(tw fF m::M0) }) (λs=>s.1<=64/\k4 m 0 64 (m.getD i 0)=k4 m s.1 (64-s.1) s.2) (λs=>64-s.1) ?_ ?_
 ·refine⟨(0,m.getD i 0),⟨dO _,rfl⟩,.tn ?_,iJ,.nil⟩;simp only;rw[adg kk aW]
 rintro⟨k,w⟩⟨ae,jg⟩;simp only at ae jg;refine a9.mk (λh=>?_) (λh=>?_)
 rotate_left
 ·have cV:k=64:=by have:¬ (k:Int)<64:=eO h;omega
  subst cV;have uQ:k4 m 0 64 (m.getD i 0)=w:=jg;refine bi.mk _ (de (i:=i) (by omega)) ?_;refine⟨i+1,⟨aW,by omega⟩,.tn ?_,g1,.nil⟩;rw[<-adh kk aW,uQ]
 have eG:k<64:=by have:(k:Int)<64:=dV h;omega
 have hp:((mc m i).set i w).length=64:=by rw[uJ,oW]
 have TJ:∀ {M:List aE},tw l' ((mc m i).set i w)∈M->c7 I M ((⟨l',0,none⟩:Addr).add (i*1)) 1 [.int .u64 w.toNat]:=λa3=>by have:=TE (I:=I) a3 aW;rwa [LR (by omega) w]at this
 have pQ:∀ {M:List aE},tw fF m∈M->c7 I M ((⟨fF,0,none⟩:Addr).add (k*1)) 1 [.int .u64 (m.getD k 0).toNat]:=λa3=>TE (I:=I) a3 eG;refine dP.mk i rfl aW ?_;refine aZ.mk _ (TJ (.head _)) ?_;refine tW.mk k rfl ?_;refine a9.mk (λad=>?_) (λad=>?_)
 ·have hw:=Tx (w:=w) eG (Tz ad);refine dh.draw a4 rfl rfl rfl ?_;refine dP.mk i rfl aW ?_;refine aZ.mk _ (TJ (.head _)) ?_;refine dP.mk k rfl eG ?_;refine aZ.mk _ (pQ (.tail _ (.head _))) ?_;refine dP.mk i rfl aW ?_;refine cn.iM [] (tw fF m::M0) (jB ((mc m i).set i w)) _ rfl ?_ rfl (jB ((mc m i).set i (w ||| m.getD k 0))) ?_ ?_
  ·rw[nv,re];show 0+i*1+1<=64;omega
  ·show bQ _ _ [Value.int .u64 (AR w.toNat (m.getD k 0).toNat)]=_;rw[G6];have:=TF ((mc m i).set i w) hp i aW (w ||| m.getD k 0);rw[Cm]at this;exact this
  refine bi.mk _ (de (i:=k) (by omega)) ?_;exact⟨(k+1,w ||| m.getD k 0),⟨⟨eG,by rw[jg,adl eG hw]⟩,by simp only;omega⟩,.refl,iJ,.nil⟩
 ·have hw:=Ty (w:=w) eG (TA ad);refine bi.mk _ (de (i:=k) (by omega)) ?_;exact⟨(k+1,w),⟨⟨eG,by rw[jg,adm eG hw]⟩,by simp only;omega⟩,.refl,iJ,.nil⟩
section
end
def rf(t:bw):Prop:=∀ n∈t.ns,n.aT<=3000000000000
abbrev dn(X:cB)(G:GT)(pr:kt):fJ:=⟨X.P,X.E,G,pr⟩
section
variable{X:cB}{G:GT}{pr:kt}{D:bz}{m:be}{F:Fr}{ak:a8 ao}{C:dp}{I:aM}{M:List aE}{V:dd->Prop}{O:Prop}
def mZ{a b:α}(h:some a=some b):a=b:=by cases h;rfl
def adp{op:BinOp}{k:IntKind}{b:Int}{v:ao}{O:Prop}(h:K7 op k eS a b=some v)(ae:∀ u,aH D v u->K u):kc op c8 (.val (.int k a)) (.val (.int eS b)) K O:=by
 have mk:∀ {q:ao} {u:Value},some q=some v->aH D q u->K u:=λe hu=>ae _ (mZ e ▸ hu);unfold K7 at h;split at h
 ·split at h
  ·rename_i j;refine⟨j,rfl,⟨_,rfl,mk h ?_⟩⟩;simp only[aH];rw[wL,ac0,jh,Tq]
  ·cases h
 ·split at h
  ·rename_i j;refine⟨j,rfl,mk h ?_⟩;simp only[aH];rw[ac1,jh,Tq]
  ·cases h
 all_goals obtain⟨aK,h⟩:=e4 h
 all_goals simp only[kc,aK,bZ]
 ·exact⟨_,rfl,mk h (by simp only[aH];rw[wL,acV])⟩
 ·exact⟨_,rfl,mk h (by simp only[aH];rw[wL,acW])⟩
 ·exact⟨_,rfl,mk h (by simp only[aH];rw[wL,acX])⟩
 ·obtain⟨ay,h⟩:=wK h;refine⟨λe=>?_,_,rfl,mk h (by simp only[aH];rw[wL,acY])⟩;rw[yO,e]at ay;simp at ay
 ·obtain⟨ay,h⟩:=wK h;refine⟨λe=>?_,mk h (by simp only[aH];rw[acZ])⟩;rw[yO,e]at ay;simp at ay
 ·obtain⟨r,af,h⟩:=bW h;rw[GX af];exact mk h (by simp only[aH])
 ·obtain⟨r,af,h⟩:=bW h;rw[GX af];exact mk h (by simp only[aH])
 ·obtain⟨r,af,h⟩:=bW h;rw[GX af];exact mk h (by simp only[aH])
 ·obtain⟨r,af,h⟩:=bW h;rw[GX af];exact mk h (by simp only[aH])
 ·obtain⟨r,af,h⟩:=bW h;rw[acU]at af;have ag:v=.b r:=(mZ h).symm;subst ag;have hA:K (.bool r):=ae _ (by simp only[aH]);cases op<;>first
   |contradiction|(rw[af];exact hA)
def LS(b:Bool):bM b false true=!b:=by cases b<;>rfl
def adq{op:BinOp}{a b:List UInt8}{v:ao}{O:Prop}(h:K8 op a b=some v)(ae:∀ u,aH D v u->K u) :
  kc op c8 (.val (.string ⟨a.toArray⟩)) (.val (.string ⟨b.toArray⟩)) K (ft P op t x y (.val (.string ⟨a.toArray⟩)) (.val (.string ⟨b.toArray⟩)) K O):=by
 unfold K8 at h;split at h
 ·cases h;refine ae _ ?_;simp only[aH];rw[G4,AP]
 ·cases h;refine ae _ ?_;simp only[aH];rw[G4,AP,LS]
 ·obtain⟨av,h⟩:=e4 h;cases h;have jm:=bH av;refine ft.concat (by simpa[ByteArray.size]using jm) (ae _ ?_);simp only[aH];congr 1
 ·cases h
def adr{op:BinOp}{a:Bool}{v:ao}{O:Prop}(h:K9 op c8 a b=some v)(ae:∀ u,aH D v u->K u):kc op c8 (.val (.bool a)) (.val (.bool b)) K O:=by
 unfold K9 at h;split at h
 ·split at h
  ·cases h;exact ae _ (by simp only[aH])
  ·cases h;exact ae _ (by simp only[aH])
  ·cases h
 ·cases h
def ads{x:ao}(h:K' x=some b){u:Value}(hu:aH D x u):∃ a n c,u=.slice a n c/\b=a.isNone:=by
 cases x<;>simp only[K',jl,reduceCtorEq]at h<;>subst h<;>simp only[aH]at hu
 ·exact⟨_,_,_,hu,rfl⟩
 ·obtain⟨a,-,hu⟩:=hu;exact⟨_,_,_,hu,rfl⟩
 ·obtain⟨a,-,-,hu⟩:=hu;exact⟨_,_,_,hu,rfl⟩
 ·exact⟨_,_,_,hu,rfl⟩
 ·obtain⟨a,c,hu⟩:=hu;exact⟨_,_,_,hu,rfl⟩
def adt{x:ao}(h:La x=some b){u:Value}(hu:aH D x u):∃ p,u=.pointer p/\b=p.isNone:=by
 cases x<;>simp only[La,jl,reduceCtorEq]at h<;>subst h<;>simp only[aH]at hu
 ·exact⟨_,hu,rfl⟩
 ·obtain⟨a,-,hu⟩:=hu;exact⟨_,hu,rfl⟩
 ·exact⟨_,hu,rfl⟩
def adu{e:Nat}(h:P.underlying t=some (.slice e))(a:Option Addr)(n c:Nat)(w:World):(Op.equal t (.slice a n c) (.slice none 0 0)).run P w=.ok a.isNone w:=by
 have key:∀ d,(Op.equalIn (d+1) t (.slice a n c) (.slice none 0 0)).run P w=.ok a.isNone w:=λd=>by cases a<;>simp[Op.equalIn,run_underlying h]
 exact key 9999
def adv{e:Nat}(h:P.underlying t=some (.pointer e))(p:Option Addr)(w:World):(Op.equal t (.pointer p) (.pointer none)).run P w=.ok p.isNone w:=by
 have key:∀ d,(Op.equalIn (d+1) t (.pointer p) (.pointer none)).run P w=.ok p.isNone w:=λd=>by cases p<;>simp[Op.equalIn,run_underlying h]
 exact key 9999
def TK{op:BinOp}{v:ao}{p q:Value}(ax:∀ w,op=.eql\/op=.neq->(eqGuard op t x y p q).run P w=.ok () w)(he:∀ w,(Op.equal t p q).run P w=.ok b w)(ah:∀ w,(binOp .eql t p q).run P w=.ok (.bool b) w)(aJ:∀ w,(binOp .neq t p q).run P w=.ok (.bool (!b)) w)(h:GF op b=some v){O:Prop}(ae:∀ u,aH D v u->K u):ft P op t x y (.val p) (.val q) K O:=by
 unfold GF at h;split at h
 ·cases h;refine .mk p q (.bool b) rfl rfl (λw=>?_) (ae _ (by simp only[aH]));simp only[bV,ax w (.inl rfl),bN,ah w]
 ·cases h;refine .mk p q (.bool (!b)) rfl rfl (λw=>?_) (ae _ (by simp only[aH]));simp only[bV,ax w (.inr rfl),bN,aJ w]
 ·cases h
def adw(aG:cw X.P X.E){op:BinOp}{x y v:ao}{adx:Operand}{u:Value}{O:Prop}(h:Lb X.P X.E op t x y=some v)(ab:aH D x u)(aD:aH D y w)(ae:∀ u,aH D v u->K u) :
  kc op (X.E t) (.val u) (.val w) K (ft X.P op t nA adx (.val u) (.val w) K O):=by
 unfold Lb at h;split at h
 ·rw[ab.int,aD.int];exact adp h ae
 ·rw[ab.str,aD.str];exact adq h ae
 ·rw[ab.bool,aD.bool];exact adr h ae
 ·obtain⟨us,aa,rfl⟩:=ab.agg;obtain⟨ws,ad,rfl⟩:=aD.agg;exact Tu aG h aa ad ae
 ·obtain⟨i,hi,h⟩:=bW h;split at h
  ·rename_i e lY;obtain⟨b,aa,h⟩:=bW h;obtain⟨a,n,c,rfl,rfl⟩:=ads aa ab;simp only[aH]at aD;subst aD;obtain⟨d,e0,eF⟩:=(aG _ _ hi).eW;have ad:d=.slice e:=by rw[lY]at eF;cases d<;>simp_all[eR]
   subst ad;have he:=adu e0 a n c;exact TK (λw aC=>by rcases aC with rfl | rfl<;>(unfold eqGuard;rfl)) he (λw=>by simp only[binOp];simp[he w]) (λw=>by simp only[binOp];simp[he w]) h ae
  ·cases h
 ·obtain⟨i,hi,h⟩:=bW h;split at h
  ·rename_i e lY;obtain⟨b,aa,h⟩:=bW h;obtain⟨p,rfl,rfl⟩:=adt aa ab;simp only[aH]at aD;subst aD;obtain⟨d,e0,eF⟩:=(aG _ _ hi).eW;have ad:d=.pointer e:=by rw[lY]at eF;cases d<;>simp_all[eR]
   subst ad;have he:=adv e0 p;exact TK (λw aC=>by rcases aC with rfl | rfl<;>(unfold eqGuard;rfl)) he (λw=>by simp only[binOp];simp[he w]) (λw=>by simp only[binOp];simp[he w]) h ae
  ·cases h
 ·cases h
variable(aG:cw X.P X.E)(hm:cE (dn X G pr) D m I M)
theorem AW{v:ao}{n:Nat}(h:v.nat=some n):∃ k,v=.i k (.ofNat n):=by
 unfold ao.nat at h;split at h
 ·cases h;exact⟨_,rfl⟩
 ·cases h
theorem TL{x v:ao}{n:Nat}{u:Value}(h:Dg x n=some v)(ab:aH D x u):∃ a,u=.pointer (some a)/\a.spot=none/\aH D v (.pointer (some (a.add n))):=by
 unfold Dg at h;split at h
 ·cases h;obtain⟨a,aY,rfl⟩:=ab.ptr;refine⟨_,rfl,rfl,?_⟩;rw[dY _ rfl];simp only[aH];exact⟨a,aY,by simp only[wE,qs]⟩
 ·cases h;refine⟨_,ab.oj,rfl,?_⟩;rw[dY _ rfl];simp only[aH];rfl
 ·cases h
theorem ady{x v:ao}{u:Value}(h:GG x j sz=some v)(ab:aH D x u):∃ a n c,u=.slice (some a) n c/\j<n/\aH D v (.pointer (some (a.add (j*sz)))):=by
 unfold GG at h;split at h
 ·cases ah:Nat.blt j _ with
  |false=>rw[ah]at h;cases h| true=>rw[ah]at h;cases h;obtain⟨a,aY,rfl⟩:=ab.qh;refine⟨_,_,_,rfl,bH ah,?_⟩;rw[dY _ rfl];simp only[aH];exact⟨a,aY,by simp only[wE,Aw,qs]⟩
 ·cases ah:Nat.blt j _ with
  |false=>rw[ah]at h;cases h| true=>rw[ah]at h;cases h;obtain⟨a,aY,_,rfl⟩:=ab.sh;refine⟨_,_,_,rfl,bH ah,?_⟩;rw[dY _ rfl];simp only[aH];exact⟨a,aY,by simp only[wE,Aw,qs]⟩
 ·cases ah:Nat.blt j _ with
  |false=>rw[ah]at h;cases h| true=>rw[ah]at h;cases h;refine⟨_,_,_,ab.LK,bH ah,?_⟩;rw[dY _ rfl];simp only[aH];rfl
 ·cases h
theorem TM{cs:List ao}{v:ao}{us:List Value}(h:GI aB cs off=some v)(au:bx D cs us) :
  off+aB.size<=us.length/\aH D v (pack aB.bE.agg ((us.drop off).take aB.size)):=by
 unfold GI at h;obtain⟨ay,h⟩:=wK h;obtain⟨l,aa,ad⟩:=bW h;have iK:aB.size≠0:=λe=>by rw[e]at ay;cases ay
 obtain⟨rfl,av⟩:=Tr aa;rw[Dt]at ad av;refine⟨?_,G2 ad ((au.drop off).take _)⟩;have:=au.len;simp at av;omega
theorem TN{i:Nat}{gu:dt}(h:GH E t i=some (off,gu)):∃ a b z cb eI,E t=some ⟨a,b,z,.struct cb⟩/\cb[i]?=some (eI,off)/\E eI=some gu:=by
 unfold GH at h;split at h
 ·rename_i a b z cb aw;split at h
  ·rename_i eI o az;rw[wN]at az;split at h
   ·rename_i f q2;cases h;exact⟨_,_,_,_,eI,aw,az,q2⟩
   ·cases h
  ·cases h
 ·cases h
theorem adz(h:Le E t=some (r,aB)):(∃ a b z e,E t=some ⟨a,b,z,.slice e⟩/\E e=some aB/\r=none)\/∃ a b z n e,E t=some ⟨a,b,z,.array n e⟩/\E e=some aB/\r=some n:=by
 unfold Le at h;split at h
 ·rename_i a b z e aw;split at h
  ·cases h;exact .inl ⟨_,_,_,_,aw,by assumption,rfl⟩
  ·cases h
 ·rename_i a b z n e aw;split at h
  ·cases h;exact .inr ⟨_,_,_,_,_,aw,by assumption,rfl⟩
  ·cases h
 ·cases h
theorem adA{x i v:ao}{u:Value}(h:Dh X.E t (some x) (some i)=some v)(ab:aH D x u)(hi:aH D i w){ρ:Operand->dd}{fw:Operand}(LU:cY ρ nA=.val u)(hb:cY ρ fw=.val w)
  (k:∀ x,fm D x v->V x):b5 X (.index t nA fw) ρ C I M V O:=by
 unfold Dh at h;split at h
 ·rename_i l fK aw aa ad;cases aa;cases ad;obtain⟨j,ai,h⟩:=bW h;obtain⟨fg,rfl⟩:=AW ai;have fo:Lf l j=some v:=h;unfold Lf at fo;obtain⟨b,ah,fj⟩:=bW fo;cases fj;rw[wN]at ah;rw[ab.str]at LU;rw[hi.int]at hb;have aW:=(ih.1 ah).1;simp only[b5,aw,LU,hb];refine⟨j,rfl,by simpa[ByteArray.size]using aW,k _ (.val ?_)⟩;simp only[aH];have:(⟨l.toArray⟩:ByteArray)[j]'(by simpa[ByteArray.size]using aW)=b:=by have:=(ih.1 ah).2;show l.toArray[j]'_=b;simpa using this
  rw[this];rfl
 ·rename_i n e cs fK aw aa ad;cases aa;cases ad;obtain⟨aB,he,h⟩:=bW h;obtain⟨j,ai,h⟩:=bW h;obtain⟨fg,rfl⟩:=AW ai;obtain⟨us,fh,rfl⟩:=ab.agg;unfold SU at h;obtain⟨ah,h⟩:=e4 h;rw[b']at ah;obtain⟨al,aL⟩:=TM h fh;rw[hi.int]at hb;simp only[b5,aw,LU,hb,he];have cx:Nat.beq (n*aB.size) us.toArray.size=true:=by have bG:=dr ah.1;rw[rE,fh.len,<-bG];exact oC _
  rw[cx];simp only[bZ];exact⟨j,rfl,bH ah.2,k _ (.val aL)⟩
 ·cases h
theorem adB{x v:ao}{l:Nat}{h:Option Nat}{u:Value}(ar:Lc x sz l h=some v)(ab:aH D x u):∃ a n c,u=.slice a n c/\l<=h.getD n/\h.getD n<=c/\(h=none->l<=n) /\
  aH D v (.slice (if c=l then a else a.map (·.add (l*sz))) (h.getD n-l) (c-l)):=by
 unfold Lc at ar;split at ar
 ·cases ah:(Nat.beq l 0&&Nat.beq (h.getD 0) 0)with
  |false=>rw[ah]at ar;cases ar| true=>rw[ah]at ar;cases ar;rw[b']at ah;have aa:=dr ah.1;have ad:=dr ah.2;subst aa;refine⟨none,0,0,ab.yP,by omega,by omega,λ_=>by omega,?_⟩;rw[ad];simp[aH]
 ·rename_i id off n c;obtain⟨a,aY,rfl⟩:=ab.qh;simp only at ar;cases ah:(Nat.ble l (h.getD n)&&Nat.ble (h.getD n) c)with
  |false=>rw[ah]at ar;cases ar
  |true=>
   rw[ah]at ar;simp only[bZ]at ar;rw[b']at ah;have aa:=bH ah.1;have ad:=bH ah.2;refine⟨_,n,c,rfl,aa,ad,λe=>by subst e;exact aa,?_⟩;rw[LI]at ar;by_cases e:c=l;·subst e;simp only[F4,bZ]at ar;cases ar;simp only[pF,aH];exact⟨a,aY,by simp only[Ax,kn]⟩
   ·simp only[e,decide_false,b0]at ar;cases ar;simp only[e,ky,aH,ka];refine⟨a,aY,?_⟩;rw[dY _ rfl];simp only[wE,Aw,Ax,qs]
 ·rename_i id off e n;obtain⟨a,aY,bg,rfl⟩:=ab.sh;simp only at ar;cases ah:(Nat.ble l (h.getD n)&&Nat.ble (h.getD n) n)with
  |false=>rw[ah]at ar;cases ar
  |true=>
   rw[ah]at ar;simp only[bZ]at ar;rw[b']at ah;have aa:=bH ah.1;have ad:=bH ah.2;refine⟨_,n,a.c-e,rfl,aa,by omega,λe=>by subst e;exact aa,?_⟩;cases au:(Nat.beq l 0||Nat.blt l n)with
   |true=>
    rw[au]at ar;simp only[bZ]at ar;cases ar;rw[jP]at au;simp only[aH];refine⟨a,aY,by simp only[wE,Ax];omega,?_⟩;have al:a.c-e-l=a.c-(e+l):=by omega
    by_cases ay:l=0
    ·subst ay;simp only[vH,F2,ka,wE,Aw,Ax,ms];split
     ·rfl
     ·rw[dY _ rfl];simp
    ·have aL:l<n:=by
      rcases au with au | au;·exact absurd (dr au) ay
      ·exact bH au
     rw[ca (by omega)];simp only[ka];rw[dY _ rfl];simp only[wE,Aw,Ax,qs,al]
   |false=>
    rw[au]at ar;simp only[b0]at ar;cases ar;rw[qN]at au;have aL:¬ l<n:=λaW=>by have:=Av (show l.succ<=n from aW);rw[show Nat.blt l n=Nat.ble l.succ n from rfl,this]at au;cases au.2
    have bG:h.getD n-l=0:=by omega
    simp only[aH,bG];split;·exact⟨_,_,rfl⟩
    ·exact⟨_,_,rfl⟩
 ·cases ar
end
section
variable{X:cB}{G:GT}{pr:kt}{D:bz}{m:be}{F:Fr}{ak:a8 ao}{C:dp}{I:aM}{M:List aE}{V:dd->Prop}{O:Prop}
def adC(c:Bool)(a b:Value):EV c (.val a) (.val b)=.val (bif c then a else b):=by cases a<;>cases b<;>cases c<;>rfl
def TO{o:Option Operand}{xs:List Operand}(H:hT D F ak xs)(ab:∀ y,o=some y->y∈xs)(h:yI (o.map (cQ ak))=some r) :
  (o.map (cY (cR F))=none/\r=none)\/∃ k n,o.map (cY (cR F))=some (.val (.int k (Int.ofNat n)))/\r=some n:=by
 cases o with
 |none=>simp[yI]at h;exact .inl ⟨rfl,h.symm⟩
 |some y=>
  simp only[ka,yI]at h;cases ag:cQ ak y with
  |none=>rw[ag]at h;cases h
  |some v=>
   rw[ag]at h;simp only at h;split at h;·rename_i n aJ;cases h;obtain⟨k,rfl⟩:=AW aJ;obtain⟨u,hu,af⟩:=H.bt (ab y rfl) ag;rw[af.int]at hu;exact .inr ⟨k,n,by simp only[ka];exact congrArg some hu,rfl⟩
   ·cases h
def LV(l:List UInt8)(lo hi:Nat):(⟨(Ld l lo hi).toArray⟩:ByteArray)=(⟨l.toArray⟩:ByteArray).extract lo hi:=by apply sL;apply fZ;unfold Ld;rw[Dt];simp[ER,List.extract_eq_take_drop]
def adD{v:ao}{n:Nat}{u:Value}(h:tq v=some n)(ag:aH D v u):∃ a c,u=.slice a n c:=by
 unfold tq at h;split at h
 ·cases h;exact⟨_,_,ag.yP⟩
 ·cases h;obtain⟨a,c,rfl⟩:=ag.GZ;exact⟨_,_,rfl⟩
 ·cases h;obtain⟨a,_,rfl⟩:=ag.qh;exact⟨_,_,rfl⟩
 ·cases h;obtain⟨a,_,_,rfl⟩:=ag.sh;exact⟨_,_,rfl⟩
 ·cases h;exact⟨_,_,ag.LK⟩
 ·cases h
def adE(aG:cw X.P X.E){b:Builtin}{eX:Array TypeId}{v:ao}(h:Li X.E b eX.toList (mb ak args.toList)=some v)(H:hT D F ak args.toList)(k:∀ x,fm D x v->V x) :
  b5 X (.call { callee:=.builtin b,args:=args,argTypes:=eX }) (cR F) C I M V O:=by
 unfold Li at h;split at h
 ·
  unfold SZ at h;split at h
  ·rename_i t w aw av;obtain⟨us,aA,a1⟩:=H.kO (λ_ h=>h) av;obtain⟨u,xs,ba,b4,rfl⟩:=a1.ji;have:=b4.lQ;subst this;have dD:iD (cR F) args.toList=some [u]:=aA;simp only[b5,aw,dD];split at h
   ·rename_i a b z e si mE;unfold GJ at h;obtain⟨n,aJ,h⟩:=bW h;have fj:some (ao.i .i64 (.ofNat n))=some v:=h;cases fj;obtain⟨bF,c,rfl⟩:=adD aJ ba;simp only[mE];exact k _ (.val (by simp only[aH];rfl))
   ·rename_i a b z l mE;cases h;rw[ba.str];simp only[mE];refine k _ (.val ?_);simp only[aH];simp[ByteArray.size]
   ·rename_i a b z n e si mE;cases h;cases u<;>(simp only[mE];exact k _ (.val (by simp only[aH];rfl)))
   ·cases h
  ·cases h
 ·unfold S0 at h;split at h
  ·rename_i dS a ch b av;obtain⟨us,aA,a1⟩:=H.kO (λ_ h=>h) av;obtain⟨u,xs,ba,b4,rfl⟩:=a1.ji;obtain⟨w,ys,gx,n1,rfl⟩:=b4.ji;have:=n1.lQ;subst this;have dD:iD (cR F) args.toList=some [u,w]:=aA;rw[ba.int,gx.int]at dD;simp only[b5,dD];cases h;refine k _ (.val ?_);simp only[aH];rw[jh,GW];by_cases j0:a<=b
   ·simp[j0];omega
   ·simp[j0];omega
  ·cases h
 ·unfold S1 at h;split at h
  ·rename_i dS a ch b av;obtain⟨us,aA,a1⟩:=H.kO (λ_ h=>h) av;obtain⟨u,xs,ba,b4,rfl⟩:=a1.ji;obtain⟨w,ys,gx,n1,rfl⟩:=b4.ji;have:=n1.lQ;subst this;have dD:iD (cR F) args.toList=some [u,w]:=aA;rw[ba.int,gx.int]at dD;simp only[b5,dD];cases h;refine k _ (.val ?_);simp only[aH];rw[jh,GW];by_cases j0:a<=b
   ·simp[j0];omega
   ·simp[j0];omega
  ·cases h
 ·unfold S2 at h;split at h
  ·rename_i t id off n c aw av;split at h
   ·rename_i a b z e mE;cases h;obtain⟨us,aA,a1⟩:=H.kO (λ_ h=>h) av;obtain⟨u,xs,ba,b4,rfl⟩:=a1.ji;have:=b4.lQ;subst this;obtain⟨bF,aY,rfl⟩:=ba.qh;have dD:iD (cR F) args.toList=some [_]:=aA;simp only[b5,aw,dD,mE];exact k _ (.val (by simp only[aH];rfl))
   ·cases h
  ·cases h
 ·unfold S3 at h;split at h
  ·rename_i av;cases h;obtain⟨us,aA,a1⟩:=H.kO (λ_ h=>h) av;obtain⟨u,xs,ba,b4,rfl⟩:=a1.ji;have:=b4.lQ;subst this;rw[ba.yP]at aA;have dD:iD (cR F) args.toList=some [_]:=aA;simp only[b5,dD];exact k _ (.val (by simp only[aH]))
  ·rename_i id off n c av;obtain⟨ay,h⟩:=wK h;cases h;obtain⟨us,aA,a1⟩:=H.kO (λ_ h=>h) av;obtain⟨u,xs,ba,b4,rfl⟩:=a1.ji;have:=b4.lQ;subst this;obtain⟨bF,aY,rfl⟩:=ba.qh;have dD:iD (cR F) args.toList=some [_]:=aA;simp only[b5,dD];refine⟨λe=>?_,k _ (.val ?_)⟩
   ·have:c=0:=by omega
    subst this;cases ay
   ·simp only[aH];exact⟨bF,aY,rfl⟩
  ·rename_i id off e n av;obtain⟨ay,h⟩:=wK h;cases h;obtain⟨us,aA,a1⟩:=H.kO (λ_ h=>h) av;obtain⟨u,xs,ba,b4,rfl⟩:=a1.ji;have:=b4.lQ;subst this;obtain⟨bF,aY,bg,rfl⟩:=ba.sh;have dD:iD (cR F) args.toList=some [_]:=aA;simp only[b5,dD];refine⟨λcM=>?_,k _ (.val ?_)⟩
   ·have:n=0:=by omega
    subst this;cases ay
   ·simp only[aH];exact⟨bF,aY,rfl⟩
  ·cases h
 ·cases h
def adF(aG:cw X.P X.E){op:Op}{v:ao}(h:Lj X.P X.E G m.t op ak=some v)(H:hT D F ak op.operands.toList)(hm:cE (dn X G pr) D m I M)(k:∀ x,fm D x v->V x):b5 X op (cR F) C I M V O:=by
 unfold Lj at h;split at h
 ·
  exact k _ (H _ (by simp[Op.operands]) _ h)
 ·exact k _ (H _ (by simp[Op.operands]) _ h)
 ·
  rename_i c a b;unfold SL at h;split at h
  ·rename_i q u w aa ad al;cases h;have au:=H c (by simp[Op.operands]) _ aa;have aY:=H a (by simp[Op.operands]) _ ad;have ah:=H b (by simp[Op.operands]) _ al;simp only[b5];rcases au with⟨alP,G8,au⟩ | ⟨e9,cM,G8⟩
   ·rw[au.bool]at G8;simp only[G8];obtain⟨LW,tm,adG⟩:=aY.cY;obtain⟨LX,Gr,cj⟩:=ah.cY;have adH:cY (cR F) a=.val LW:=tm;have adI:cY (cR F) b=.val LX:=Gr;rw[adH,adI];refine k _ (.inl ⟨bif q then LW else LX,?_,?_⟩)
    ·exact adC q LW LX
    ·cases q
     ·exact cj
     ·exact adG
   ·cases cM;simp only[G8];cases q
    ·exact k _ ah
    ·exact k _ aY
  ·cases h
 ·
  rename_i alQ t x;unfold SM at h;split at h
  ·rename_i b aa;cases h;have ab:=H x (by simp[Op.operands]) _ aa;simp only[b5];rcases ab with⟨u,e,hu⟩ | ⟨q,aA,e⟩
   ·rw[hu.bool]at e;simp only[e];exact k _ (.val (by simp only[aH];rw[LS]))
   ·cases aA;simp only[e];exact k _ (.inr ⟨!b,by rw[LS],rfl⟩)
  ·rename_i fg n aa;cases h;have ab:=H x (by simp[Op.operands]) _ aa;obtain⟨u,e,hu⟩:=ab.tu (by simp);rw[hu.int]at e;simp only[b5,e];exact⟨_,rfl,k _ (.val (by simp only[aH];rw[wL]))⟩
  ·cases h
 ·
  rename_i alR t x y bj;unfold SN at h;obtain⟨a,aa,h⟩:=bW h;obtain⟨b,ad,h⟩:=bW h;obtain⟨u,aA,a1⟩:=H.bt (x:=x) (by simp[Op.operands]) aa;obtain⟨w,a0,ba⟩:=H.bt (x:=y) (by simp[Op.operands]) ad;have dD:cY (cR F) x=.val u:=aA;have oG:cY (cR F) y=.val w:=a0;simp only[b5,dD,oG];exact adw aG h a1 ba λr af=>k _ (.val af)
 ·
  rename_i t x;unfold SO at h;obtain⟨i,hi,h⟩:=bW h;obtain⟨a,aa,h⟩:=bW h;have ab:=H x (by simp[Op.operands]) _ aa;have u0:∀ q,a≠.b q:=λq e=>by subst e;cases h
  obtain⟨u,aA,a1⟩:=ab.tu u0;obtain⟨aV,l,vs,rfl,bB,av,aO⟩:=tv hm a1 h;simp only[b5,hi,aA];exact⟨vs,bB,k _ (.val (G2 aO av))⟩
 ·
  rename_i x;unfold SP at h;split at h;·rename_i id off aa;cases h;obtain⟨u,aA,a1⟩:=(H x (by simp[Op.operands]) _ aa).tu (by simp);obtain⟨a,aY,rfl⟩:=a1.ptr;simp only[b5,aA];exact k _ (.val a1)
  ·rename_i id off aa;cases h;obtain⟨u,aA,a1⟩:=(H x (by simp[Op.operands]) _ aa).tu (by simp);have:=a1.oj;subst this;simp only[b5,aA];exact k _ (.val a1)
  ·cases h
 ·
  rename_i t x i;unfold SQ at h;obtain⟨r,af,h⟩:=bW h;obtain⟨a,aa,h⟩:=bW h;obtain⟨off,gu⟩:=r;obtain⟨a',h⟩:=wK h;obtain⟨sa,qi,sz,cb,eI,aw,az,q2⟩:=TN af;have ab:=H x (by simp[Op.operands]) _ aa;have u0:∀ q,a≠.b q:=λq e=>by subst e;cases h
  obtain⟨u,aA,a1⟩:=ab.tu u0;obtain⟨aV,rfl,ar,ag⟩:=TL h a1;have gv:Nat.beq gu.size 0=false:=a';simp only[b5,aw,az,q2,aA,gv,b0];exact k _ (.val ag)
 ·
  rename_i t x i;unfold SR at h;split at h;·rename_i off gu cs ay aa;obtain⟨sa,qi,sz,cb,eI,aw,az,q2⟩:=TN ay;obtain⟨u,aA,a1⟩:=H.bt (x:=x) (by simp[Op.operands]) aa;obtain⟨us,fh,rfl⟩:=a1.agg;obtain⟨ad,al⟩:=TM h fh;have dD:cY (cR F) x=.val (.agg us.toArray):=aA;simp only[b5,aw,dD,az,q2];rw[show Nat.ble (off+gu.size) us.toArray.size=true from Av (by simpa using ad)];exact k _ (.val al)
  ·cases h
 ·
  rename_i t x i;unfold SS at h;obtain⟨r,af,h⟩:=bW h;obtain⟨a,aa,h⟩:=bW h;obtain⟨b,ad,h⟩:=bW h;obtain⟨j,ai,h⟩:=bW h;obtain⟨fg,rfl⟩:=AW ai;obtain⟨u,a0,ba⟩:=H.bt (x:=i) (by simp[Op.operands]) ad;rw[ba.int]at a0;have oG:cY (cR F) i=.val (.int fg (.ofNat j)):=a0;obtain⟨alS,aB⟩:=r;rcases adz af with⟨sa,qi,sz,e,aw,he,rfl⟩ | ⟨sa,qi,sz,n,e,aw,he,rfl⟩;·have bq:GG a j aB.size=some v:=h;obtain⟨w,aA,a1⟩:=H.bt (x:=x) (by simp[Op.operands]) aa;obtain⟨aV,n,c,rfl,aW,ag⟩:=ady bq a1;have dD:cY (cR F) x=.val (.slice (some aV) n c):=aA;simp only[b5,aw,oG,he,dD];exact⟨aV,j,rfl,rfl,aW,k _ (.val ag)⟩
  ·have bq:bM (Nat.blt j n) (Dg a (Nat.mul j aB.size)) none=some v:=h;obtain⟨ah,bq⟩:=e4 bq;have ab:=H x (by simp[Op.operands]) _ aa;have u0:∀ q,a≠.b q:=λq e=>by subst e;cases bq
   obtain⟨w,aA,a1⟩:=ab.tu u0;obtain⟨aV,rfl,ar,ag⟩:=TL bq a1;simp only[b5,aw,oG,he,aA];exact⟨j,rfl,bH ah,k _ (.val ag)⟩
 ·
  rename_i t x i;cases aa:cQ ak x with
  |none=>rw[aa]at h;unfold Dh at h;split at h<;>first | cases h | (rename_i e _;cases e)
  |some a=>
   cases ad:cQ ak i with
   |none=>rw[ad]at h;unfold Dh at h;split at h<;>first | cases h | (rename_i e;cases e)
   |some b=>rw[aa,ad]at h;obtain⟨u,aA,a1⟩:=H.bt (x:=x) (by simp[Op.operands]) aa;obtain⟨w,a0,ba⟩:=H.bt (x:=i) (by simp[Op.operands]) ad;exact adA h a1 ba aA a0 k
 ·
  rename_i t parts;unfold SV at h;split at h
  ·rename_i i vs aw aO;obtain⟨z,a',h⟩:=bW h;have gv:=bx.AQ (D:=D) a';obtain⟨us,aA,a1⟩:=H.parts (l:=parts.toList) (by intro y aD;simpa[Op.operands]using aD) aO;have dD:qu (cR F) parts.toList=some us:=aA
   try simp only at h
   split at h;·rename_i cb lY;obtain⟨qU,h⟩:=e4 h;unfold Di at h;obtain⟨cs,al,aL⟩:=bW h;have fj:some (ao.a cs)=some v:=aL;cases fj;obtain⟨bb,bG,cr⟩:=G3 al gv a1;simp only[b5,aw,dD,lY,qU,bZ,bG];exact k _ (.val (.G0 cr))
   ·rename_i n e lY;obtain⟨aB,he,h⟩:=bW h;have bq:Di (wG (λj=>some (j*aB.size,aB.size)) z vs)=some v:=h;unfold Di at bq;obtain⟨cs,al,aL⟩:=bW bq;have fj:some (ao.a cs)=some v:=aL;cases fj;obtain⟨bb,bG,cr⟩:=G3 al gv a1;simp only[b5,aw,dD,lY,he,bG];exact k _ (.val (.G0 cr))
   ·cases h
  ·cases h
 ·
  rename_i f first captured
  unfold SW at h;split at h
  ·rename_i g cb cs aa ad;cases h;obtain⟨us,aA,a1⟩:=H.kO (l:=first.toList) (by intro y aD;simp[Op.operands];exact .inl (by simpa using aD)) aa;obtain⟨ws,a0,ba⟩:=H.kO (l:=captured.toList) (by intro y aD;simp[Op.operands];exact .inr (by simpa using aD)) ad;have dD:iD (cR F) first.toList=some us:=aA
   have oG:iD (cR F) captured.toList=some ws:=a0;simp only[b5,dD,oG];exact k _ (.val (by simp only[aH];exact⟨us,ws,a1,ba,rfl⟩))
  ·cases h
 ·
  rename_i t x lo hi;cases aa:cQ ak x with
  |none=>rw[aa]at h;unfold Dj at h;split at h<;>first | cases h | (rename_i e _ _;cases e)
  |some a=>
   rw[aa]at h;cases ad:yI (lo.map (cQ ak))with
   |none=>rw[ad]at h;unfold Dj at h;split at h<;>first | cases h | (rename_i e _;cases e)
   |some l=>
    rw[ad]at h;cases al:yI (hi.map (cQ ak))with
    |none=>rw[al]at h;unfold Dj at h;split at h<;>first | cases h | (rename_i e;cases e)
    |some cK=>
     rw[al]at h;obtain⟨u,aA,a1⟩:=H.bt (x:=x) (by simp[Op.operands]) aa;have dD:cY (cR F) x=.val u:=aA;have dG:=TO H (λy aD=>by subst aD;simp[Op.operands]) ad;have fO:=TO H (λy aD=>by subst aD;simp[Op.operands]) al;unfold Dj at h;split at h
     ·rename_i sa qi sz e jJ LY ct aw bY dE kY;cases bY;cases dE;cases kY;obtain⟨aB,he,h⟩:=bW h;have bq:Lg aB a l cK=some v:=h;unfold Lg at bq;split at bq
      ·have el:lo.map (cY (cR F))=none:=by
        rcases dG with⟨el,_⟩ | ⟨_,_,_,el⟩;·exact el
        ·cases el
       have m0:hi.map (cY (cR F))=none:=by
        rcases fO with⟨m0,_⟩ | ⟨_,_,_,m0⟩;·exact m0
        ·cases m0
       have hp:∃ q n c,u=.slice q n c/\aH D v u:=by
        split at bq;·cases bq;exact⟨_,_,_,a1.yP,a1⟩
        ·cases bq;obtain⟨q,_,rfl⟩:=a1.qh;exact⟨_,_,_,rfl,a1⟩
        ·cases bq;obtain⟨q,_,_,rfl⟩:=a1.sh;exact⟨_,_,_,rfl,a1⟩
        ·cases bq;obtain⟨q,c,rfl⟩:=a1.GZ;exact⟨_,_,_,rfl,a1⟩
        ·cases bq
       obtain⟨q,n,c,rfl,ag⟩:=hp;simp only[b5,aw,dD,he,el,m0,rr];exact k _ (.val ag)
      ·obtain⟨q,n,c,rfl,hH,ha,p1,ag⟩:=adB bq a1;simp only[b5,aw,dD,he,rr];rcases dG with⟨el,rfl⟩ | ⟨eC,Dz,el,rfl⟩<;>rcases fO with⟨m0,rfl⟩ | ⟨adJ,DA,m0,rfl⟩<;>simp only[el,m0]
       ·rename_i bs;exact(bs rfl rfl).elim
       ·simp only[rp,jG]at hH ha ag;refine⟨0,DA,rfl,rfl,dO _,ha,k _ (.val ?_)⟩;simp only[vH,F2]at ag;have c1:(if c=0 then q else q.map λx=>x.add 0)=q:=by
         split;·rfl
         ·cases q with
          |none=>rfl| some q=>simp[Addr.add]
        rw[c1]at ag;exact ag
       ·simp only[rp,jG]at hH ha ag;exact⟨Dz,n,rfl,rfl,hH,cI _,k _ (.val ag)⟩
       ·simp only[rp,jG]at hH ha ag;exact⟨Dz,DA,rfl,rfl,hH,ha,k _ (.val ag)⟩
     ·rename_i sa qi sz str LY ct aw bY dE kY;cases bY;cases dE;cases kY;rw[a1.str]at dD;have bq:Lh str l cK=some v:=h;unfold Lh at bq;split at bq
      ·have el:lo.map (cY (cR F))=none:=by
        rcases dG with⟨el,_⟩ | ⟨_,_,_,el⟩;·exact el
        ·cases el
       have m0:hi.map (cY (cR F))=none:=by
        rcases fO with⟨m0,_⟩ | ⟨_,_,_,m0⟩;·exact m0
        ·cases m0
       cases bq;simp only[b5,aw,dD,el,m0];exact k _ (.val (by simp only[aH]))
      ·obtain⟨ah,bq⟩:=e4 bq;cases bq;rw[b']at ah;have b1:=bH ah.1;have cd:=bH ah.2;have cx:(⟨str.toArray⟩:ByteArray).size=str.length:=by simp[ByteArray.size]
       simp only[b5,aw,dD];rcases dG with⟨el,rfl⟩ | ⟨eC,Dz,el,rfl⟩<;>rcases fO with⟨m0,rfl⟩ | ⟨adJ,DA,m0,rfl⟩<;>simp only[el,m0]
       ·rename_i bs;exact(bs rfl rfl).elim
       ·simp only[rp,jG]at b1 cd;exact⟨0,DA,rfl,rfl,dO _,by rw[cx];exact cd,k _ (.val (by simp only[aH,rp,jG,LV]))⟩
       ·simp only[rp,jG]at b1 cd;exact⟨Dz,str.length,rfl,by rw[cx];rfl,b1,by rw[cx];exact cI _,k _ (.val (by simp only[aH,rp,jG,LV,cx]))⟩
       ·simp only[rp,jG]at b1 cd;exact⟨Dz,DA,rfl,rfl,b1,by rw[cx];exact cd,k _ (.val (by simp only[aH,rp,jG,LV]))⟩
     ·cases h
 ·
  rename_i x i;unfold SX at h;split at h;·rename_i vs aa;obtain⟨u,aA,a1⟩:=H.bt (x:=x) (by simp[Op.operands]) aa;obtain⟨us,fh,rfl⟩:=a1.LL;rw[wN]at h;obtain⟨w,hw,ag⟩:=fh.get h;have dD:cY (cR F) x=.val (.tuple us.toArray):=aA;simp only[b5,dD,hw];exact k _ (.val ag)
  ·cases h
 ·
  rename_i s d x;unfold SY at h;split at h;·rename_i fg dS n ar aj aa;cases h;obtain⟨u,aA,a1⟩:=H.bt (x:=x) (by simp[Op.operands]) aa;rw[a1.int]at aA;have dD:cY (cR F) x=.val (.int dS n):=aA;simp only[b5,ar,aj,dD];exact⟨_,rfl,k _ (.val (by simp only[aH];rw[wL]))⟩
  ·cases h
 ·
  rename_i b args eX;exact adE aG h (by simpa[Op.operands,Call.operands]using H) k
 ·cases h
end
def bz.set(D:bz)(id:Nat)(a:Loc):bz:=λi=>if i=id then some a else D i
def bz.nD(D:bz)(id:Nat)(a:Loc):(D.set id a) id=some a:=by simp[bz.set]
def bz.le_refl(D:bz):D.le D:=λ_ _ h=>h
def bz.le_trans{D bk DB:bz}(h:D.le bk)(k:bk.le DB):D.le DB:=λi a e=>k _ _ (h _ _ e)
def bz.wQ{D:bz}{id:Nat}(a:Loc)(h:D id=none):D.le (D.set id a):=λi b ah=>by
 unfold bz.set;split
 ·rename_i e;subst e;rw[h]at ah;cases ah
 ·exact ah
def bz.ext(D bk:bz)(n:Nat):Prop:=∀ i,i<n->bk i=D i
def bz.m1{D:bz}{n:Nat}:D.ext D n:=λ_ _=>rfl
def bz.AX{D:bz}{n:Nat}{a:Loc}:D.ext (D.set n a) n:=λi hi=>by unfold bz.set;rw[ca (by omega)]
section
variable{Y:fJ}{D bk:bz}{m:be}{I I':aM}{M M':List aE}{R:Type}
def Dv.mono{G:GT}(h:Dv G I)(bC:∀ b o,I b=some o->I' b=some o):Dv G I':=λg cs ax=>by obtain⟨arr,T,f,aa,ad⟩:=h g cs ax;exact⟨arr,T,f,bC _ _ aa,ad⟩
def cE.le(h:cE Y D m I M)(c3:D.ext bk m.n):D.le bk:=λi a aY=>by rw[c3 i (h.iy _ _ aY)];exact aY
def cE.step(h:cE Y D m I M){bj:a8 eA}{hB:Nat}{c1:eA}{a:Loc}(aw:∀ id e,bj.get id=some e->(id=j/\c1=e)\/(id≠j/\m.t.get id=some e))(ai:bk j=some a)(bg:D.le bk)(c3:∀ i,i≠j->bk i=D i)(adK:∀ id a,bk id=some a->id<hB)(bC:∀ b o,I b=some o->I' b=some o)(oP:∀ id e bF,id≠j->m.t.get id=some e->D id=some bF->∀ x∈M,x.num=bF.b->x∈M')
  (he:j5 bk Y.E M' a c1) (ym:∀ id e bF,id≠j->m.t.get id=some e->D id=some bF->bF.b≠a.b):cE Y bk ⟨bj,hB⟩ I' M' where
 hC id e cf ax aa:=by
  rcases aw id e ax with⟨aA,a0⟩ | ⟨bs,ax⟩;·subst aA;subst a0;rw[ai]at aa;cases aa;exact he
  ·rw[c3 id bs]at aa;exact(h.hC id e cf ax aa).mono bg λx ab aJ=>oP id e cf bs ax aa x ab aJ
 inj id hD e cM cf dw ax jn aa ad ah:=by
  rcases aw id e ax with⟨aA,a0⟩ | ⟨bs,ax⟩
  ·rcases aw hD cM jn with⟨bY,dE⟩ | ⟨xB,jn⟩
   ·rw[aA,bY]
   ·rw[c3 hD xB]at ad;subst aA;rw[ai]at aa;cases aa;exact(ym hD cM dw xB jn ad ah.symm).elim
  ·rw[c3 id bs]at aa;rcases aw hD cM jn with⟨bY,dE⟩ | ⟨xB,jn⟩
   ·subst bY;rw[ai]at ad;cases ad;exact(ym id e cf bs ax aa ah).elim
   ·rw[c3 hD xB]at ad;exact h.inj id hD e cM cf dw ax jn aa ad ah
 iy:=adK
 oj:=h.oj.mono bC
def cE.fresh(h:cE Y D m I M):D m.n=none:=by
 cases c3:D m.n with
 |none=>rfl| some a=>exact absurd (h.iy _ _ c3) (Nat.lt_irrefl _)
def cE.aq(h:cE Y D m I M){id:Nat}{e:eA}{a:Loc}(ax:m.t.get id=some e)(aY:D id=some a):∃ x∈M,x.num=a.b:=by
 cases h.hC id e a ax aY with
 |cells arr ay aa=>exact⟨_,aa,rfl⟩| map l c aa=>exact⟨_,aa,rfl⟩| loop L aa=>exact⟨_,aa,rfl⟩| done L aa=>exact⟨_,aa,rfl⟩
def cE.new(h:cE Y D m I M){bj:a8 eA}{c1:eA}{a:Loc}{o:Obj}(aw:∀ id e,bj.get id=some e->(id=m.n/\some c1=some e)\/(id≠m.n/\m.t.get id=some e))(az:∀ x∈M,x.num≠a.b)
  (he:j5 (D.set m.n a) Y.E (⟨a.b,o⟩::M) a c1):cE Y (D.set m.n a) ⟨bj,m.n+1⟩ I (⟨a.b,o⟩::M):=
 h.step (λid e ax=>(aw id e ax).imp (λh=>⟨h.1,mZ h.2⟩) λh=>h) (D.nD _ _) (bz.wQ a h.fresh) (λi hi=>by unfold bz.set;rw[ca hi])
  (λid b ah=>by
   unfold bz.set at ah;split at ah;·omega
   ·have:=h.iy _ _ ah;omega)
  (λ_ _ h=>h) (λ_ _ _ _ _ _ x ab _=>lO _ ab) he
  (λid e bF _ ax wA ah=>by
   obtain⟨x,ab,aJ⟩:=h.aq ax wA;exact az x ab (aJ.trans ah))
def j5.new{l:List ao}{c:Nat}{b:Nat}{cs:a8 ao}(lq:∀ j x,cs.get j=some x->(0<=j/\l[j-0]?=some x)\/((j<0\/0+l.length<=j)/\(a8.nil:a8 ao).get j=some x))(av:bx D l vs)
  (ae:∀ i,Y.E T=some i->(vs++aS).length=c*i.size) (au:c<=maxLen):j5 D Y.E (⟨b,.cells (vs++aS).toArray T (0,0)⟩::M) ⟨b,0,c⟩ (.cells cs T l.length):=by
 refine .cells (vs++aS).toArray rfl (by simp) (by simp[av.len]) (λi v hi ax=>?_) (λi hi=>by simpa using ae i hi) au;rcases lq i v ax with⟨_,aa⟩ | ⟨_,aa⟩
 ·obtain⟨x,ad,al⟩:=av.get (i:=i) (by simpa using aa);have aW:=(ih.1 ad).1;exact⟨x,by simp only[c9,xR];rw[oL aW];exact ad,al⟩
 ·cases aa
def DC{e:eA}{K:Nat->be->Option R}{r:R}(h:yJ m e K=some r):∃ bj,(∀ id cM,bj.get id=some cM->(id=m.n/\some e=some cM)\/(id≠m.n/\m.t.get id=some cM))/\K m.n ⟨bj,m.n+1⟩=some r:=by unfold yJ at h;rw[LH]at h;obtain⟨bj,aa,ad⟩:=a8.mX (some e) m.t m.n;rw[aa]at h;exact⟨bj,ad,h⟩
def LZ{l:List ao}{K:Nat->be->Option R}{r:R}(h:sf m l T K=some r):∃ m',K m.n m'=some r/\m'.n=m.n+1 /\
  ∀ {D:bz} {I:aM} {M:List aE} {vs:List Value} (aS:List Value) {b c:Nat},cE Y D m I M->(∀ x∈M,x.num≠b)->bx D l vs->(∀ i,Y.E T=some i->(vs++aS).length=c*i.size)->c<=maxLen ->
   cE Y (D.set m.n ⟨b,0,c⟩) m' I (⟨b,.cells (vs++aS).toArray T (0,0)⟩::M):=by
 unfold sf at h;obtain⟨cs,aa,ad⟩:=a8.uY l (.nil:a8 ao) 0;rw[aa]at h;obtain⟨bj,al,aL⟩:=DC h;refine⟨_,aL,rfl,fun {D I M vs} aS {b c} hm az av ae au=>?_⟩;exact hm.new (a:=⟨b,0,c⟩) al az (.new ad (av.mono (bz.wQ _ hm.fresh)) ae au)
end
def adL(z:List Value)(n:Nat):rowOf z (z.length+n)=rowOf z z.length++rowOf z n:=by unfold rowOf;rw[List.range_add,dc,gz];congr 1;apply fy;intro i _;simp[Nat.add_mod_left]
def adM(z:List Value):rowOf z z.length=z:=by
 unfold rowOf;apply qD
 ·simp
 ·intro i aa ad;simp only[hN,J9,K2 ad];simp[ad]
def L0(z:List Value):∀ n,rowOf z (n*z.length)=(List.replicate n z).flatten
 |0=>by simp[rowOf]
 |n+1=>by rw[Nat.succ_mul,By,adL,adM,L0 z n,J8,Kb]
def TP(place:Nat->Option (Nat×Nat)):∀ (vs:List (Nat×Value)) (cs r:List Value),qt place cs vs=some r->r.length=cs.length
 |[],cs,r,h=>by simp only[qt]at h;cases h;rfl
 |(i,v)::vs,cs,r,h=>by
  simp only[qt]at h;split at h;·cases h
  ·rename_i off size aO;cases ah:(Nat.beq v.cells.size size&&Nat.ble (off+size) cs.length)with
   |false=>rw[ah]at h;cases h| true=>rw[ah]at h;simp only[bZ]at h;rw[TP place vs _ _ h];rw[b']at ah;have aa:=dr ah.1;have ad:=bH ah.2;simp[bQ];omega
def wR(dst:Option Nat)(u:Value)(F F':Fr):Prop:=(∀ d,dst=some d->F' d=.val u)/\∀ (D:bz) t v,dst≠some t->fm D (F t) v->fm D (F' t) v
def wR.put(dst:Option Nat)(u:Value)(F:Fr):wR dst u F (put dst (.val u) F):=by
 constructor
 ·rintro d rfl;simp[Go.V.put,fM]
 ·intro D t v bs h;cases dst with
  |none=>exact h| some d=>have:t≠d:=λe=>bs (by rw[e]);simp only[Go.V.put,fM,g0 this,b0];exact h
def wR.nL(d:Nat)(u:Value)(F:Fr):wR (some d) u F (fM (nL F d) d (.val u)):=by
 constructor
 ·rintro _⟨⟩;simp[fM]
 ·intro D t v bs h;have:t≠d:=λe=>bs (by rw[e]);simp only[fM,g0 this,b0];unfold Go.V.nL;rcases h with⟨adN,e,h⟩ | ⟨q,e,h⟩
  ·rw[e];exact .inl ⟨adN,rfl,h⟩
  ·rw[h];exact .inr ⟨q,e,rfl⟩
section
variable{X:cB}{G:GT}{pr:kt}{D:bz}{m:be}{F:Fr}{ak:a8 ao}{C:dp}{I:aM}{M:List aE}{K:fD}{o:Oper}
def TQ(aG:cw X.P X.E)(ja:∀ d,d<X.n->X.fs.contains d=true)(aj:∀ d,o.dst=some d->d<X.n){l:List ao}{c:Nat}{mk:Nat->ao}(h:yL X.E o ak=some (l,T,c,mk))(DD:o.dst.isSome=true)(H:hT D F ak o.op.operands.toList)
  (k:∀ b vs u F' C',I b=none->(∀ x∈M,x.num≠b)->bx D l vs->(∀ i,X.E T=some i->vs.length=c*i.size)->c<=maxLen->(∀ (bk:bz) id,bk id=some ⟨b,0,c⟩->aH bk (mk id) u)->wR o.dst u F F' ->
   K F' C' I (⟨b,.cells vs.toArray T (0,0)⟩::M)):fP X o F C I M K:=by
 obtain⟨dst,op,ty,pos,after,guard⟩:=o;cases dst with
 |none=>cases DD
 |some d=>
  have oS:X.fs.contains d=true:=ja d (aj d rfl);have TR:∀ (b c:Nat) (bk:bz) id,bk id=some ⟨b,0,c⟩->aH bk (.p id 0) (.pointer (some ⟨b,0,none⟩)):=λb c bk id iT=>by simp only[aH];exact⟨_,iT,rfl⟩
  unfold yL at h;simp only at h H;split at h
  ·rename_i t x;unfold S6 at h;obtain⟨i,hi,h⟩:=bW h;obtain⟨v,ag,h⟩:=bW h;obtain⟨ah,h⟩:=e4 h;cases h;obtain⟨u,aA,a1⟩:=H.bt (x:=x) (by simp[Op.operands]) ag;have au:=a1.cells;simp only[fP,aA,oS,bZ];refine⟨λb aa ad=>?_⟩;have:=k b u.cells.toList (.pointer (some ⟨b,0,none⟩)) _ (hX C d none) aa ad au (λfK ct=>?_) (by decide) (TR b 1) (.nL d _ F)
   ·simpa using this
   ·rw[hi]at ct;cases ct;rw[au.len,oO];exact dr ah
  ·rename_i t;unfold S7 at h;obtain⟨i,hi,h⟩:=bW h;obtain⟨z,a',h⟩:=bW h;cases h;simp only[fP,hi,oS,bZ];refine⟨λb aa ad=>?_⟩;exact k b i.zero (.pointer (some ⟨b,0,none⟩)) _ (hX C d none) aa ad (.AQ a') (λfK ct=>by rw[hi]at ct;cases ct;rw[(aG _ _ hi).len,oO]) (by decide) (TR b 1) (.nL d _ F)
  ·rename_i t len parts;unfold S8 at h;split at h
   ·rename_i sa qi sz e vs aw aO;obtain⟨aB,he,h⟩:=bW h;obtain⟨z,a',h⟩:=bW h;obtain⟨us,aA,a1⟩:=H.parts (l:=parts.toList) (by intro y aD;simpa[Op.operands]using aD) aO;simp only[fP,aw,aA,he];have FH:=(aG _ _ he).len;cases ah:(Nat.ble (len*aB.size) 16777216&&Nat.blt 0 (len*aB.size))with
    |true=>
     have hn:(Nat.ble (Nat.mul len aB.size) 16777216&&Nat.blt 0 (Nat.mul len aB.size))=true:=ah;rw[jh,hn]at h;simp only[bZ]at h |-;obtain⟨cs,al,aL⟩:=bW h;have fj:some (cs,e,len,λid=>ao.sl id 0 len len)=some (l,T,c,mk):=aL;cases fj;have L1:bx D (yK c z) (rowOf aB.zero (c*aB.size)):=by rw[<-FH,L0];exact(bx.AQ a').CB c
     obtain⟨bb,bG,cr⟩:=G3 al L1 a1;rw[bG];refine⟨λb aa ad=>?_⟩;have cu:bb.length=c*aB.size:=by rw[TP _ _ _ _ bG];simp[rowOf]
     rw[b']at ah;have mH:=bH ah.1;have iG:0<c*aB.size:=bH ah.2;exact k b bb (.slice (some ⟨b,0,none⟩) c c) _ C aa ad cr (λfK ct=>by rw[he]at ct;cases ct;exact cu)
      (by
       have eM:0<aB.size:=Nat.pos_of_mul_pos_left iG;have:c<=c*aB.size:=Nat.le_mul_of_pos_right _ eM;simp only[maxLen];omega)
      (λbk id iT=>by simp only[aH];exact⟨_,iT,rfl⟩) (.put _ _ F)
    |false=>
     have hn:(Nat.ble (Nat.mul len aB.size) 16777216&&Nat.blt 0 (Nat.mul len aB.size))=false:=ah;rw[jh,hn]at h;simp only[b0]at h |-;obtain⟨au,h⟩:=e4 h;cases h;rw[b']at au;have al:=dr au.1;subst al;have aL:vs=[]:=by simpa using au.2
     subst aL;cases a1;simp only;refine⟨λb aa ad=>?_⟩;exact k b [] (.slice (some ⟨b,0,none⟩) 0 0) _ C aa ad .nil (λfK ct=>by simp) (by decide) (λbk id iT=>by simp only[aH];exact⟨_,iT,rfl⟩) (.put _ _ F)
   ·cases h
  ·rename_i t ed c';unfold S9 at h;split at h
   ·rename_i sa qi sz e gm alT aw aa ad;obtain⟨aB,he,h⟩:=bW h;obtain⟨n,aJ,h⟩:=bW h;obtain⟨q,aK,h⟩:=bW h;obtain⟨z,a',h⟩:=bW h;obtain⟨ah,h⟩:=e4 h;cases h;obtain⟨dS,rfl⟩:=AW aJ;obtain⟨ch,rfl⟩:=AW aK;obtain⟨sj,aA,a1⟩:=H.bt (x:=ed) (by simp[Op.operands]) aa;obtain⟨pj,a0,ba⟩:=H.bt (x:=c') (by simp[Op.operands]) ad;rw[a1.int]at aA;rw[ba.int]at a0;simp only[b']at ah;simp only[fP,aw,aA,a0,he];refine⟨n,c,rfl,rfl,bH ah.1,bH ah.2.1,bH ah.2.2,⟨λb al aL=>?_⟩⟩;have FH:=(aG _ _ he).len;have L1:bx D (yK c z) (rowOf aB.zero (c*aB.size)):=by rw[<-FH,L0];exact(bx.AQ a').CB c
    exact k b _ (.slice (some ⟨b,0,none⟩) n c) _ C al aL L1 (λfK ct=>by rw[he]at ct;cases ct;simp[rowOf]) (bH ah.2.2) (λbk id iT=>by simp only[aH];exact⟨_,iT,rfl⟩) (.put _ _ F)
   ·cases h
  ·cases h
end
def TS{i:Nat}(h:off+vs.length<=cs.length):(bQ cs off vs)[i]?=if off<=i/\i<off+vs.length then vs[i-off]? else cs[i]?:=by
 unfold bQ;by_cases aa:i<off
 ·rw[ca (by omega),oL (by simp;omega),oL (by simp;omega),j',ck aa]
 ·by_cases ad:i<off+vs.length
  ·rw[ck ⟨by omega,ad⟩,oL (by simp;omega),jW (by simp;omega)];simp;congr 1;omega
  ·rw[ca (by omega),jW (by simp;omega),na];congr 1;simp;omega
def L2(h:off+vs.length<=cs.length):(bQ cs off vs).length=cs.length:=by simp[bQ];omega
section
variable{Y:fJ}{D:bz}{m:be}{I:aM}{M:List aE}{R:Type}
def L3{x:ao}{l:List ao}{K:be->Option R}{r:R}(h:uW m x l K=some r):∃ m',K m'=some r/\m'.n=m.n/\(∀ id,m'.t.get id≠none->m.t.get id≠none\/True) /\
  ∀ {D:bz} {I:aM} {M:List aE} {u:Value} {vs:List Value},cE Y D m I M->aH D x u->bx D l vs ->
   ∃ (g off:Nat) (a5 post:List aE) (arr:Array Value) (T:Nat),u=.pointer (some ⟨g,off,none⟩)/\M=a5++⟨g,.cells arr T (0,0)⟩::post/\off+vs.length<=arr.size/\fN vs=true /\ (∃ id e a,m.t.get id=some e/\D id=some a/\a.b=g) /\
    cE Y D m' I (a5++⟨g,.cells (bQ arr.toList off vs).toArray T (0,0)⟩::post):=by
 unfold uW at h;split at h
 ·rename_i id off;split at h
  ·rename_i cs T eV ax;cases ah:(Nat.ble (Nat.add off l.length) eV&&l.all ao.one)with
   |false=>rw[ah]at h;cases h
   |true=>
    rw[ah]at h;simp only[bZ]at h;rw[b']at ah;have wS:off+l.length<=eV:=bH ah.1;obtain⟨cs',aa,ad⟩:=a8.uY l cs off;rw[aa]at h;obtain⟨bj,al,aL⟩:=a8.mX (some (eA.cells cs' T eV)) m.t id;rw[al]at h;refine⟨_,h,rfl,λ_ _=>.inr trivial,fun {D I M u vs} hm ab av=>?_⟩;obtain⟨a,aY,rfl⟩:=ab.ptr;have he:=hm.hC _ _ _ ax aY;obtain⟨arr,aC,a3,cx,au,ae,hl⟩:=he;have cu:=av.len;obtain⟨a5,post,cZ⟩:=sc a3;have gJ:off+vs.length<=arr.size:=by omega
    refine⟨a.b,off,a5,post,arr,T,by rw[aC,c9],cZ,gJ,av.one ah.2,⟨id,_,a,ax,aY,rfl⟩,?_⟩;have eZ:∀ x∈M,x.num≠a.b->x∈a5++⟨a.b,.cells (bQ arr.toList off vs).toArray T (0,0)⟩::post:=λx ab aJ=>by
     rw[cZ]at ab;rcases cO.1 ab with ab | ab;·exact cO.2 (.inl ab)
     ·rcases dW.1 ab with rfl | ab
      ·exact(aJ rfl).elim
      ·exact cO.2 (.inr (lO _ ab))
    refine hm.step (λi e hi=>(aL i e hi).imp (λq=>⟨q.1,mZ q.2⟩) λq=>q) aY (bz.le_refl D) (λ_ _=>rfl) hm.iy (λ_ _ h=>h) (λi e bF bs hi oq x ab aJ=>eZ x ab ?_) ?_ ?_;·rw[aJ];exact λah=>bs (hm.inj _ _ _ _ _ _ hi ax oq aY ah)
    ·have wT:(bQ arr.toList off vs).length=arr.size:=by rw[L2 (by simpa using gJ)];simp
     refine .cells (bQ arr.toList off vs).toArray aC (by simp) (by simp[wT];exact cx) (λi v hi DE=>?_) (λi hi=>by simp[wT];exact ae i hi) hl;rw[aC,c9];simp only[xR];rw[TS (by simpa using gJ)];rcases ad i v DE with⟨a1,ba⟩ | ⟨a1,ba⟩;·have aW:=(ih.1 ba).1;rw[ck ⟨a1,by omega⟩];exact av.get ba
     ·rw[ca (by omega)];have:=au i v hi ba;rw[aC,c9]at this;simpa using this
    ·intro i e bF bs hi oq ah;exact bs (hm.inj _ _ _ _ _ _ hi ax oq aY ah)
  ·cases h
 ·cases h
def L4:∀ {l:List ao} {b8:List UInt8} {vs:List Value},AH l=some b8->bx D l vs->vs=b8.map (λb=>.int .u8 b.toNat)
 |[],b8,vs,h,av=>by simp only[AH]at h;cases h;exact av.lQ
 |v::l,b8,vs,h,av=>by
  unfold AH at h;split at h;·rename_i e;cases e
  ·rename_i n ed e;cases e;cases ah:Nat.ble n 255 with
   |false=>rw[ah]at h;cases h
   |true=>
    rw[ah]at h;simp only[bZ]at h;split at h;·rename_i r af;cases h;obtain⟨x,xs,aa,ad,rfl⟩:=av.ji;have aJ:=bH ah;rw[L4 af ad,aa.int];simp only[cc,vU,and_true,Value.int.injEq,true_and];rw[UInt8.toNat_ofNat_of_lt' (show n<256 by omega)];rfl
    ·cases h
  ·cases h
inductive wU:TypeDesc->ao->Prop
 |int{k n}:wU (.int k) (.i k n)| str {l}:wU .string (.s l)
def TT(aG:cw P E){k:Nat}{y:ao}(h:GM (E k) y=true):∃ d,P.underlying k=some d/\wU d y:=by
 unfold GM at h;split at h
 ·rename_i fg eS n ae;have:=IntKind.zs h;subst this;obtain⟨d,hu,aj⟩:=(aG _ _ ae).eW;refine⟨d,hu,?_⟩;have:d=.int fg:=by cases d<;>simp_all[eR]
  subst this;exact .int
 ·rename_i l ae;obtain⟨d,hu,aj⟩:=(aG _ _ ae).eW;refine⟨d,hu,?_⟩;have:d=.string:=by cases d<;>simp_all[eR]
  subst this;exact .str
 ·cases h
def wU.isKey{d:TypeDesc}{y:ao}{u:Value}(h:wU d y)(aD:aH D y u):MapKept.IsKey d u:=by
 cases h with
 |int=>rw[aD.int];rfl| str=>rw[aD.str];trivial
def TU(a b:ByteArray):(a == b)=decide (a=b):=by rw[rq,MapKept.bytes_beq];simp
def AY{d:TypeDesc}{y x:ao}{u:Value}{r:Bool}(h:wU d y)(aD:aH D y u)(ab:aH D x w)(he:AB y x=some r):Instr.sameNow d u w=some r:=by
 cases h with
 | @int k n=>
  rw[aD.int];unfold AB at he;split at he;·rename_i e;cases e
  ·rename_i dS a ch b e;cases e;obtain⟨aa,ad⟩:=e4 he;have:=IntKind.zs aa;subst this;cases ad;rw[ab.int];simp only[Instr.sameNow,pF,yO];congr 1
  ·rename_i e;cases e
  ·cases he
 | @str l=>
  rw[aD.str];unfold AB at he;split at he;·rename_i e;cases e
  ·rename_i e;cases e
  ·rename_i a b e;cases e;cases he;rw[ab.str];simp only[Instr.sameNow];rw[TU,G4,AP]
  ·cases he
def TV{d:TypeDesc}{y:ao}{u:Value}(h:wU d y)(aD:aH D y u):∀ {es:List (ao×ao)} {l:List MapEntry} {r:Option ao} (i:Nat),oo D es l->Dl y es=some r ->
  match r with
  |none=>Instr.findNow d u l i=some none| some v=>∃ j w,Instr.findNow d u l i=some (some (j,w))/\aH D v w
 |[],_,r,i,.nil,av=>by simp only[Dl]at av;cases av;rfl
 |(x,v)::es,_,r,i,.cons (e:=e) (l:=l) ae ag t,av=>by
  simp only[Dl]at av;split at av;·rename_i he;cases av;refine⟨i,e.val,?_,ag⟩;simp only[Instr.findNow,AY h aD ae he]
  ·rename_i he;have aR:=TV h aD (i+1) t av;simp only[Instr.findNow,AY h aD ae he];exact aR
  ·cases av
def TW{d:TypeDesc}{y v:ao}{u w:Value}(h:wU d y)(aD:aH D y u)(ag:aH D v w):∀ {es sk:List (ao×ao)} {l:List MapEntry} (i:Nat),oo D es l->Dm y v es=some sk -> (Instr.findNow d u l i=some none/\∀ b,oo D sk (l++[{ key:=u,val:=w,born:=b }])) \/ ∃ j e,Instr.findNow d u l i=some (some (i+j,e.val))/\l[j]?=some e/\Instr.sameNow d u e.key=some true/\oo D sk (l.modify j λe=>{ e with key:=u,val:=w })
 |[],sk,_,i,.nil,av=>by simp only[Dm]at av;cases av;exact .inl ⟨rfl,λb=>.cons aD ag .nil⟩
 |(x,si)::es,sk,_,i,.cons (e:=e) (l:=l) ae jK t,av=>by
  simp only[Dm]at av;split at av
  ·rename_i he;cases av;refine .inr ⟨0,e,?_,rfl,AY h aD ae he,?_⟩
   ·simp only[Instr.findNow,AY h aD ae he,ms]
   ·simp only[List.modify_zero_cons];exact .cons aD ag t
  ·rename_i he;split at av
   ·rename_i r af;cases av;rcases TW h aD ag (i+1) t af with⟨aa,ad⟩ | ⟨j,cM,aa,ad,al,aL⟩
    ·refine .inl ⟨?_,λb=>.cons ae jK (ad b)⟩;simp only[Instr.findNow,AY h aD ae he];exact aa
    ·refine .inr ⟨j+1,cM,?_,by simpa using ad,al,?_⟩
     ·simp only[Instr.findNow,AY h aD ae he];rw[aa];congr 3;omega
     ·simp only[List.modify_succ_cons];exact .cons ae jK aL
   ·cases av
  ·cases av
end
section
variable{P:Program}{w:World}
def adO{k e:Nat}(aw:P.underlying t=some (.map k e)){d:TypeDesc}(ae:P.underlying k=some d){u:Value}(tx:MapKept.IsKey d u){l:List MapEntry}(ax:w.heap[g]?=some (.map l.toArray clock))
  {q:Option (Nat×Value)} (az:Instr.findNow d u l 0=some q) {inf:TypeInfo} {z:Value} (hi:P.info? e=some inf) (a':inf.zero=some z) (ok:Bool) :
  (Instr.lookup t (.map (some g)) u ok).run P w=.ok (bif ok then .tuple #[(q.map (·.2)).getD z,.bool q.isSome]else(q.map (·.2)).getD z) w:=by
 have au:(Instr.checkKey l.toArray.isEmpty 10000 k u).run P w=.ok () w:=zS ae tx _ 9999;have r6:(Instr.findKey k u l).run P w=.ok q w:=zU ae az;have G9:(zeroValue e).run P w=.ok z w:=by simp[zeroValue,typeInfo,hi,a']
 unfold Instr.lookup;simp only[bV,run_underlying aw,bN,zP ax,cH,au,r6];cases q with
 |none=>cases ok<;>simp[G9]
 |some p=>cases ok<;>simp
def adP{k e:Nat}(aw:P.underlying t=some (.map k e)){d:TypeDesc}(ae:P.underlying k=some d){u v:Value}(tx:MapKept.IsKey d u){l:List MapEntry}(ax:w.heap[g]?=some (.map l.toArray clock))
  (az:Instr.findNow d u l 0=some none):(Instr.mapUpdate t (.map (some g)) u v).run P w=.ok () { w with heap:=w.heap.setIfInBounds g (.map (l++[({ key:=u,val:=v,born:=clock }:MapEntry)]).toArray (clock+1)) }:=by
 have au:(Instr.checkKey false 10000 k u).run P w=.ok () w:=zS ae tx _ 9999;have r6:(Instr.findKey k u l).run P w=.ok none w:=zU ae az;unfold Instr.mapUpdate;simp only[bV,run_underlying aw,bN,zP ax,au,r6,Jt _ ax];congr 3;simp
def adQ{k e:Nat}(aw:P.underlying t=some (.map k e)){d:TypeDesc}(ae:P.underlying k=some d){u v:Value}(tx:MapKept.IsKey d u){l:List MapEntry}(ax:w.heap[g]?=some (.map l.toArray clock))
 {cM:MapEntry} (az:Instr.findNow d u l 0=some (some (j,cM.val))) (ai:l[j]?=some cM) (ar:cM.key=u) :
  (Instr.mapUpdate t (.map (some g)) u v).run P w=.ok () { w with heap:=w.heap.setIfInBounds g (.map (l.modify j λe=>{ e with key:=u,val:=v }).toArray clock) }:=by
 have au:(Instr.checkKey false 10000 k u).run P w=.ok () w:=zS ae tx _ 9999;have r6:(Instr.findKey k u l).run P w=.ok (some (j,cM.val)) w:=zU ae az;have hL:(Instr.keyThatStays u u).run P w=.ok u w:=MapKept.run_keyThatStays tx;unfold Instr.mapUpdate;simp only[bV,run_underlying aw,bN,zP ax,au,r6];simp only[xR,ai,ka,jG,ar,hL,bN,Jt _ ax];congr 3;show Obj.map _ _=Obj.map _ _;congr 1;apply fZ;simp
end
section
variable{X:cB}{G:GT}{pr:kt}{D:bz}{m m':be}{F:Fr}{ak:a8 ao}{C:dp}{I:aM}{M:List aE}{K:fD}{o:Oper}{v:ao}
def pk(X:cB)(G:GT)(pr:kt)(D:bz)(m:be)(I:aM)(M:List aE)(v:ao)(m':be)(dst:Option Nat)(F:Fr)(C:dp)(K:fD):Prop:=
 ∀ bk u M',D.ext bk m.n->aH bk v u->cE (dn X G pr) bk m' I M'->K (put dst (.val u) F) C I M'
def adR(aC:o.op=.store t x y)(h:bh o.dst (GK (X.E t) m (cQ ak x) (cQ ak y)) (λ_=>none)=some (v,m'))(H:hT D F ak o.op.operands.toList)(hm:cE (dn X G pr) D m I M)
  (k:pk X G pr D m I M v m' o.dst F C K):fP X o F C I M K:=by
 obtain⟨dst,op,ty,pos,after,guard⟩:=o;simp only at aC;subst aC;cases dst with
 |some d=>cases h
 |none=>
  have aa:GK (X.E t) m (cQ ak x) (cQ ak y)=some (v,m'):=h;unfold GK at aa;obtain⟨i,hi,aa⟩:=bW aa;obtain⟨a,ab,aa⟩:=bW aa;obtain⟨b,aD,aa⟩:=bW aa;obtain⟨ah,aa⟩:=e4 aa;obtain⟨m2,ad,-,-,al⟩:=L3 (Y:=dn X G pr) aa;cases ad;simp only at H;have L5:=H x (by simp[Op.operands]) _ ab;have u0:∀ q,a≠.b q:=λq e=>by subst e;cases aa
  obtain⟨u,aA,a1⟩:=L5.tu u0;obtain⟨w,a0,ba⟩:=H.bt (x:=y) (by simp[Op.operands]) aD;obtain⟨g,off,a5,post,arr,T,rfl,a3,gJ,pJ,⟨id,e,gi,iT,z6,ax⟩,kI⟩:=al hm a1 ba.cells;simp only[fP,hi,a0,aA];have cx:Nat.beq w.cells.size i.size=true:=by have:=ba.cells.len;rw[xS]at this;rw[this];exact ah
  rw[cx];simp only[bZ];refine⟨a5,post,arr,T,a3,rfl,gJ,pJ,?_⟩;exact k D (.tuple #[]) _ bz.m1 (by simp only[aH];exact⟨[],.nil,rfl⟩) kI
def TX(aj:∀ d,o.dst=some d->d<X.n)(bJ:∀ c,o.op≠.defer c)
  (h:∀ (β:Nat->Nat) (a:Act) (w:World),cg X β a w F C I M->∃ u w' I' M',(execOp a.eval o).run X.P w=.ok (.value u) w'/\cg X β a w' F C I' M'/\K (put o.dst (.val u) F) C I' M'):br X o F C I M K:=by
 refine⟨λa w Q ⟨β,aX⟩=>?_⟩;obtain⟨u,w',I',M',aa,ad,al⟩:=h β a w aX;exact iE bJ aa ⟨_,_,_,_,⟨β,ad.put (x:=.val u) aj rfl⟩,al⟩
def adS(aj:o.dst=none)(bJ:∀ c,o.op≠.defer c)
  (h:∀ (β:Nat->Nat) (a:Act) (w:World),cg X β a w F C I M->∃ w' I' M',(execOp a.eval o).run X.P w=.ok .skip w'/\cg X β a w' F C I' M'/\K F C I' M'):br X o F C I M K:=by
 refine⟨λa w Q ⟨β,aX⟩=>?_⟩;obtain⟨w',I',M',aa,ad,al⟩:=h β a w aX;refine zq bJ aa ⟨_,_,_,_,⟨β,?_⟩,al⟩;rw[aj];exact ad
def TY(aG:cw X.P X.E)(aj:∀ d,o.dst=some d->d<X.n){r:Option Operand}(aC:o.op=.makeMap t r)(h:GL (X.E t) m=some (v,m'))(af:∀ x,r=some x->∃ k n,bt F x=.val (.int k n))(hm:cE (dn X G pr) D m I M)
  (k:pk X G pr D m I M v m' o.dst F C K):br X o F C I M K:=by
 unfold GL at h;split at h
 ·rename_i sa qi sz fg e aw;obtain⟨d,e0,eF⟩:=(aG _ _ aw).eW;have aa:d=.map fg e:=by cases d<;>simp_all[eR]
  subst aa;obtain⟨bj,ad,al⟩:=DC h;cases al;refine TX aj (by rw[aC];simp) fun β a w aX=>?_;refine⟨.map (some w.heap.size),w.alloc (.map #[] 0),I,⟨w.heap.size,.map #[] 0⟩::M,?_,aX.nb _,?_⟩
  ·unfold execOp;cases r with
   |none=>simp[aC,Instr.makeMap]| some x=>obtain⟨dS,JI,ab⟩:=af x rfl;have J2:=cS aX.ak ab;simp[aC,J2,Instr.makeMap,run_underlying e0,asInt,mA]
  ·have az:∀ x∈M,x.num≠w.heap.size:=aX.holds.oD;refine k _ _ _ bz.AX (by simp only[aH];exact⟨_,bz.nD _ _ ⟨w.heap.size,0,0⟩,rfl⟩) (hm.new (a:=⟨w.heap.size,0,0⟩) ad az ?_);exact .map [] 0 (by simp) .nil
 ·cases h
def j5.TZ{D:bz}{M:List aE}{a:Loc}{es:List (ao×ao)}(h:j5 D E M a (.map es)):∃ l clock,(⟨a.b,.map l.toArray clock⟩:aE)∈M/\oo D es l:=by
 cases h with
 |map l clock aa ad=>exact⟨l,clock,aa,ad⟩
def aH.map'{id:Nat}{u:Value}(h:aH D (.m id) u):∃ a,D id=some a/\u=.map (some a.b):=by simpa only[aH]using h
def adT(aG:cw X.P X.E)(aj:∀ d,o.dst=some d->d<X.n){ok:Bool}(aC:o.op=.lookup t x y ok)(h:Lq X.P X.E t m (cQ ak x) (cQ ak y) ok=some (v,m'))(H:hT D F ak o.op.operands.toList)
  (hm:cE (dn X G pr) D m I M) (k:pk X G pr D m I M v m' o.dst F C K):br X o F C I M K:=by
 unfold Lq at h;split at h
 ·rename_i sa qi sz fg e id adU aw aa ad;obtain⟨tx,h⟩:=e4 h;split at h
  ·rename_i es ax;obtain⟨r,af,h⟩:=bW h;obtain⟨inf,hi,h⟩:=bW h;obtain⟨z,a',h⟩:=bW h;obtain⟨qz,xK,h⟩:=bW h;cases h;obtain⟨d,e0,eF⟩:=(aG _ _ aw).eW;have eJ:d=.map fg e:=by cases d<;>simp_all[eR]
   subst eJ;obtain⟨c6,p6,yQ⟩:=TT aG tx;rw[aC]at H;obtain⟨sj,aA,a1⟩:=H.bt (x:=x) (by simp[Op.operands]) aa;obtain⟨pj,a0,ba⟩:=H.bt (x:=y) (by simp[Op.operands]) ad;obtain⟨a,aY,rfl⟩:=a1.map';have he:=hm.hC _ _ _ ax aY;obtain⟨l,clock,a3,L6⟩:=he.TZ;have kg:=TV yQ ba 0 L6 af;have G9:aH D qz z:=.of xK;have fin:∀ {q:Option (Nat×Value)},Instr.findNow c6 pj l 0=some q->(r=none/\q=none\/∃ DF j w,r=some DF/\q=some (j,w)/\aH D DF w)->br X o F C I M K:=fun {q} az aK=>by
    refine TX aj (by rw[aC];simp) fun β ac w aX=>?_;have eT:=adO (P:=X.P) (w:=w) e0 p6 (yQ.isKey ba) (aX.holds.m _ a3) az hi a' ok;have ex:=cS aX.ak aA;have mJ:=cS aX.ak a0;refine⟨bif ok then .tuple #[(q.map (·.2)).getD z,.bool q.isSome]else(q.map (·.2)).getD z,w,I,M,?_,aX,k D _ M bz.m1 ?_ hm⟩;·unfold execOp;simp only[aC,ex,mJ,bV,eT,bN,cH]
    ·unfold S';rcases aK with⟨rfl,rfl⟩ | ⟨DF,j,w',rfl,rfl,ag⟩
     ·cases ok
      ·exact G9
      ·exact .G1 (.cons G9 (.cons (by simp only[aH];rfl) .nil))
     ·cases ok
      ·exact ag
      ·exact .G1 (.cons ag (.cons (by simp only[aH];rfl) .nil))
   cases r with
   |none=>exact fin kg (.inl ⟨rfl,rfl⟩)| some DF=>obtain⟨j,w,az,ag⟩:=kg;exact fin az (.inr ⟨DF,j,w,rfl,rfl,ag⟩)
  ·cases h
 ·cases h
def T0(aG:cw X.P X.E){z:Operand}(aC:o.op=.mapUpdate t x y z\/o.op=.insert t x y z)(h:bh o.dst (Dn X.E t m (cQ ak x) (cQ ak y) (cQ ak z)) (λ_=>none)=some (v,m'))(H:hT D F ak o.op.operands.toList)
  (hm:cE (dn X G pr) D m I M) (k:pk X G pr D m I M v m' o.dst F C K):br X o F C I M K:=by
 cases DD:o.dst with
 |some d=>rw[DD]at h;cases h
 |none=>
  rw[DD]at h k;have ay:Dn X.E t m (cQ ak x) (cQ ak y) (cQ ak z)=some (v,m'):=h;have s0:∀ q,q=x\/q=y\/q=z->q∈o.op.operands.toList:=λq aK=>by
   rcases aC with aC | aC<;>rw[aC]<;>simp[Op.operands]<;>exact aK
  unfold Dn at ay;split at ay
  ·rename_i sa qi sz fg e id adU qz aw aa ad al;obtain⟨tx,ay⟩:=e4 ay;split at ay
   ·rename_i es ax;obtain⟨sk,kF,ay⟩:=bW ay;obtain⟨bj,aL,bG⟩:=a8.mX (some (eA.map sk)) m.t id;have iK:(m.t.lP (some (eA.map sk)) id λt=>some (ao.t [],(⟨t,m.n⟩:be)))=some (v,m'):=ay;rw[aL]at iK;cases iK;obtain⟨d,e0,eF⟩:=(aG _ _ aw).eW;have eJ:d=.map fg e:=by cases d<;>simp_all[eR]
    subst eJ;obtain⟨c6,p6,yQ⟩:=TT aG tx;obtain⟨sj,aA,a1⟩:=H.bt (x:=x) (s0 x (.inl rfl)) aa;obtain⟨pj,a0,ba⟩:=H.bt (x:=y) (s0 y (.inr (.inl rfl))) ad;obtain⟨wV,bY,b4⟩:=H.bt (x:=z) (s0 z (.inr (.inr rfl))) al;obtain⟨a,aY,rfl⟩:=a1.map';have he:=hm.hC _ _ _ ax aY;obtain⟨l,clock,a3,L6⟩:=he.TZ;have fin:∀ (ed:List MapEntry) (yR:Nat),oo D sk ed->(∀ w:World,w.heap[a.b]?=some (.map l.toArray clock)->(Instr.mapUpdate t (.map (some a.b)) pj wV).run X.P w=.ok () { w with heap:=w.heap.setIfInBounds a.b (.map ed.toArray yR) }) ->
      br X o F C I M K:=λed yR jm eT=>by
     obtain⟨a5,post,cZ⟩:=sc a3;have kJ:M.Perm (⟨a.b,.map l.toArray clock⟩::(a5++post)):=by rw[cZ];exact nu
     refine adS DD (by rcases aC with aC | aC<;>rw[aC]<;>simp) fun β ac w kh=>?_;have aX:cg X β ac w F C I (⟨a.b,.map l.toArray clock⟩::(a5++post)):=kh.hs (.perm kJ .refl);have tz:=kh.holds.m _ a3;have ex:=cS aX.ak aA;have mJ:=cS aX.ak a0;have J3:=cS aX.ak bY;have fR:=MapKept.heap_set (o':=Obj.map ed.toArray yR) tz;refine⟨_,I,⟨a.b,.map ed.toArray yR⟩::(a5++post),?_,aX.swap (w':={ w with heap:=w.heap.setIfInBounds a.b (.map ed.toArray yR) }) (by simp) fR.1 fR.2 ⟨rfl,rfl⟩,?_⟩
     ·unfold execOp;rcases aC with aC | aC<;>simp only[aC,ex,mJ,J3,bV,eT w tz,bN,cH]
     ·have ly:∀ q∈M,q.num≠a.b->q∈(⟨a.b,.map ed.toArray yR⟩:aE)::(a5++post):=λq aK aJ=>by
       rcases dW.1 (kJ.mem_iff.1 aK)with rfl | aK;·exact(aJ rfl).elim
       ·exact lO _ aK
      refine k D (.tuple #[]) _ bz.m1 (by simp only[aH];exact⟨[],.nil,rfl⟩) ?_;refine hm.step (λi e hi=>(bG i e hi).imp (λq=>⟨q.1,mZ q.2⟩) λq=>q) aY (bz.le_refl D) (λ_ _=>rfl) hm.iy (λ_ _ h=>h) (λi e bF bs hi oq q aK aJ=>ly q aK ?_) (.map ed yR (by simp) jm) ?_;·rw[aJ];exact λah=>bs (hm.inj _ _ _ _ _ _ hi ax oq aY ah)
      ·exact λi e bF bs hi oq ah=>bs (hm.inj _ _ _ _ _ _ hi ax oq aY ah)
    rcases TW yQ ba b4 0 L6 kF with⟨az,eZ⟩ | ⟨j,cM,az,ai,ar,Ge⟩;·exact fin _ (clock+1) (eZ clock) λw tz=>adP e0 p6 (yQ.isKey ba) tz az
    ·rw[c9]at az;have yb:cM.key=pj:=by
      cases yQ with
      |int=>
       have:=ba.int;subst this;cases ae:cM.key<;>rw[ae]at ar<;>simp[Instr.sameNow]at ar
       obtain⟨rfl,h⟩:=ar;rw[h]
      |str=>
       have:=ba.str;subst this;cases ae:cM.key<;>rw[ae]at ar<;>simp[Instr.sameNow,TU]at ar
       rw[ar]
     exact fin _ clock Ge λw tz=>adQ e0 p6 (yQ.isKey ba) tz az ai yb
   ·cases ay
  ·cases ay
end
section
variable{X:cB}{G:GT}{pr:kt}{D:bz}{m m':be}{F:Fr}{ak:a8 ao}{C:dp}{I:aM}{M:List aE}{K:fD}{o:Oper}{v:ao}
def T1(aG:cw X.P X.E)(aj:∀ d,o.dst=some d->d<X.n){s d e:Nat}(aC:o.op=.convert s d x){cf b1 dw cd:Nat}{u1 L7:List Value}(ar:X.E s=some ⟨cf,b1,u1,.slice e⟩)(eJ:X.E d=some ⟨dw,cd,L7,.string⟩)(ah:AF (X.E e)=true)
  {id off n:Nat} (h:GN G m id off n=some (v,m')) (ab:∃ a c,D id=some a/\bt F x=.val (.slice (some ⟨a.b,a.o+off,none⟩) n c)) (hm:cE (dn X G pr) D m I M)
  (k:pk X G pr D m I M v m' o.dst F C K):br X o F C I M K:=by
 unfold GN at h;obtain⟨a,c,aY,ex⟩:=ab;obtain⟨aV,l,vs,aA,bB,av,h⟩:=tv (u:=.pointer (some ⟨a.b,a.o+off,none⟩)) hm (by simp only[aH];exact⟨a,aY,rfl⟩) h;cases aA;obtain⟨b8,Cr,h⟩:=bW h;cases h;have hr:=L4 Cr av;have cu:b8.length=n:=by have:=bB.2;obtain⟨_,_,_,_,_,ad⟩:=this;rw[<-ad,hr];simp
 subst hr;obtain⟨aB,he,kF⟩:∃ aB,X.E e=some aB/\aB.bE=.int .u8:=by
  unfold AF at ah;split at ah;·rename_i h;exact⟨_,h,rfl⟩
  ·cases ah
 refine br.acJ aG aC aj ar rfl he kF eJ rfl ex cu bB ?_;exact k D _ M bz.m1 (by simp only[aH]) hm
def adV(aG:cw X.P X.E)(aj:∀ d,o.dst=some d->d<X.n){s d:Nat}(aC:o.op=.convert s d x)(h:GO (dn X G pr) m s d (cQ ak x)=some (v,m'))(H:hT D F ak o.op.operands.toList)(hm:cE (dn X G pr) D m I M)
  (k:pk X G pr D m I M v m' o.dst F C K):br X o F C I M K:=by
 unfold GO at h;rw[aC]at H;split at h
 ·rename_i aa ad al;obtain⟨ah,h⟩:=e4 h;obtain⟨u,aA,a1⟩:=H.bt (x:=x) (by simp[Op.operands]) al;obtain⟨a,aY,rfl⟩:=a1.qh;exact T1 aG aj aC aa ad ah h ⟨a,_,aY,aA⟩ hm k
 ·rename_i aa ad al;obtain⟨ah,h⟩:=e4 h;obtain⟨u,aA,a1⟩:=H.bt (x:=x) (by simp[Op.operands]) al;obtain⟨a,aY,_,rfl⟩:=a1.sh;exact T1 aG aj aC aa ad ah h ⟨a,_,aY,aA⟩ hm k
 ·rename_i aa ad al;obtain⟨ah,h⟩:=e4 h;obtain⟨u,aA,a1⟩:=H.bt (x:=x) (by simp[Op.operands]) al;cases h;simp only[aH]at a1;subst a1;obtain⟨aB,he,kF⟩:∃ aB,X.E _=some aB/\aB.bE=.int .u8:=by
   unfold AF at ah;split at ah;·rename_i h;exact⟨_,h,rfl⟩
   ·cases ah
  refine br.acK aG aC aj aa rfl he kF ad rfl aA ?_;exact k D _ M bz.m1 (by simp only[aH]) hm
 ·cases h
def T2(q:List UInt8):bx D (q.map λb=>ao.i .u8 (.ofNat b.toNat)) (jT ⟨q.toArray⟩):=by
 unfold jT;simp only
 induction q with
 |nil=>exact .nil| cons b q aR=>exact .cons (by simp only[aH];rfl) aR
def G'{l:List Operand}{a b:ao}(h:mb ak l=some [a,b]):∃ x y,l=[x,y]/\cQ ak x=some a/\cQ ak y=some b:=by
 match l,h with
 |[],h=>simp[mb]at h
 |[x],h=>
  simp only[mb]at h;split at h;·rename_i aA a0;cases a0;cases h
  ·cases h
 |[x,y],h=>
  simp only[mb]at h;split at h
  ·rename_i aA a0;split at a0
   ·rename_i bY dE;cases dE;cases a0;cases h;exact⟨x,y,rfl,aA,bY⟩
   ·cases a0
  ·cases h
 |x::y::z::l,h=>
  simp only[mb]at h;split at h
  ·rename_i aA a0;split at a0
   ·rename_i bY dE;split at dE
    ·cases dE;cases a0;cases h
    ·cases dE
   ·cases a0
  ·cases h
def cE.sub{M':List aE}(h:cE (dn X G pr) D m I M)(ar:∀ x∈M,x∈M'):cE (dn X G pr) D m I M':=
 ⟨λid e a hi aY=>(h.hC id e a hi aY).mono (bz.le_refl D) (λx ab _=>ar x ab),h.inj,h.iy,h.oj⟩
def adW(aG:cw X.P X.E)(aj:∀ d,o.dst=some d->d<X.n){eX:Array Nat}(aC:o.op=.call { callee:=.builtin .copy,args:=args,argTypes:=eX })(h:Ls (dn X G pr) m eX.toList (mb ak args.toList)=some (v,m'))
  (H:hT D F ak args.toList) (hm:cE (dn X G pr) D m I M) (k:pk X G pr D m I M v m' o.dst F C K):br X o F C I M K:=by
 unfold Ls at h;split at h
 ·rename_i t u id off n c q aw av;split at h
  ·rename_i sa qi sz e mE;obtain⟨aB,he,h⟩:=bW h;obtain⟨ah,h⟩:=e4 h;rw[b']at ah;obtain⟨m2,ad,-,-,al⟩:=L3 (Y:=dn X G pr) h;cases ad;obtain⟨x,y,k1,yS,adX⟩:=G' av;obtain⟨sj,ab,ba⟩:=H.bt (x:=x) (by rw[k1];simp) yS;obtain⟨pj,aD,gx⟩:=H.bt (x:=y) (by rw[k1];simp) adX;obtain⟨a,aY,rfl⟩:=ba.qh;have adY:=gx.str;subst adY;obtain⟨g,EY,a5,post,arr,T,bY,a3,gJ,pJ,⟨hD,cM,gi,iT,z6,ax⟩,kI⟩:=al hm (u:=.pointer (some ⟨a.b,a.o+off,none⟩)) (by simp only[aH];exact⟨a,aY,rfl⟩) (T2 q);cases bY;have kJ:M.Perm (⟨a.b,.cells arr T (0,0)⟩::(a5++post)):=by rw[a3];exact nu
   have yT:args=#[x,y]:=by apply fZ;simpa using k1
   have yU:eX=#[t,u]:=by apply fZ;simpa using aw
   have cx:(⟨q.toArray⟩:ByteArray).size=q.length:=by simp[ByteArray.size]
   have l2:(jT ⟨q.toArray⟩).length=q.length:=by simp[jT]
   refine br.P3 aG (by rw[aC,yT,yU]) aj mE rfl he (dr ah.1) ab aD (by rw[cx];exact bH ah.2) (by rw[cx,<-l2];exact gJ) kJ ?_;rw[cx];have L8:(a5++(⟨a.b,.cells (bQ arr.toList (a.o+off) (jT ⟨q.toArray⟩)).toArray T (0,0)⟩:aE)::post).Perm (⟨a.b,.cells (bQ arr.toList (a.o+off) (jT ⟨q.toArray⟩)).toArray T (0,0)⟩::(a5++post)):=nu;exact k D (.int .i64 q.length) _ bz.m1 (by simp only[aH];rfl) (kI.sub λx ab=>L8.mem_iff.1 ab)
  ·cases h
 ·cases h
end
end Go.V
