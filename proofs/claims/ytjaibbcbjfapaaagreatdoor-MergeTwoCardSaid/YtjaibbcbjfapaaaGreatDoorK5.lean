/- Part 5 of what the proofs of this seat share: the executor, data in memory, walks.
-/
import Derived.Test.YtjaibbcbjfapaaaGreatDoorK4
import Derived.Test.YtjaibbcbjfapaaaGreatDoorK2
import Derived.Test.YtjaibbcbjfapaaaGreatDoorK3
set_option linter.all false
set_option maxHeartbeats 8000000
set_option maxRecDepth 100000
namespace Go.V
open Go
def n2:=@List.mem_cons_of_mem
def pi:=@List.length_singleton
def sT:=@List.drop_of_length_le
def vj:=@List.append_of_mem
def w1:=@List.length_range
def EQ:=@Nat.ble_eq_true_of_le
def ER:=@Int.natCast_nonneg
def H0:=@List.drop_succ_cons
def Q0:=@List.drop_append_of_le_length
def Ly:=@List.length_take_of_le
def Lz:=@List.getElem?_of_mem
def LA:=@Nat.pow_lt_pow_right
def Zh:=@Nat.testBit_eq_decide_div_mod_eq
def Q1:=@BitVec.toNat_shiftLeft
def Am:=@Nat.add_eq
def ES:=@Nat.mul_eq
def ET:=@Nat.sub_eq
def Q2:=@Nat.shiftLeft_eq
def Q3:=@List.drop_left
variable{b:Bool}{R α:Type}{a:Int}{x y p3:Operand}{r:Option Nat}{vs aR cs:List Value}{E:Env}{M M0:List aD}{fI:IntKind}{t j g off sz T clock:Nat}{K:Value->Prop}{I:aI}{other:Prop}{m:List ef}{os:aO}{ad:Addr}{w:Value}{aH:dV}{dd:Option dV}{P:Program}{args:Array Operand}
noncomputable section
inductive bk(α:Type) where
 |nil| node (x:Option α) (l r:bk α)
def cc{α:Type}(b:Bool)(x y:α):α:=@Bool.rec (λ_=>α) y x b
def bw{α R:Type}(o:Option α)(x:R)(f:α->R):R:=@Option.rec α (λ_=>R) x f o
section
variable{α R:Type}
def bk.get(t:bk α):Nat->Option α:=@bk.rec α (λ_=>Nat->Option α) (λ_=>none) (λx _ _ alk EU k=>cc (Nat.beq k 0) x (cc (Nat.beq (Nat.mod k 2) 1) (alk (Nat.div k 2)) (EU (Nat.sub (Nat.div k 2) 1)))) t
def bk.n3(v:Option α)(t:bk α):Nat->(bk α->R)->R:=@bk.rec α (λ_=>Nat->(bk α->R)->R) (λk K=>cc (Nat.beq k 0) (K (.node v .nil .nil)) (K .nil)) (λx l r sl alm k K=>cc (Nat.beq k 0) (K (.node v l r)) (cc (Nat.beq (Nat.mod k 2) 1) (sl (Nat.div k 2) λl=>K (.node x l r)) (alm (Nat.sub (Nat.div k 2) 1) λr=>K (.node x l r)))) t
def bk.EV(t:bk α)(off n:Nat):(List α->Option R)->Option R:=@Nat.rec (λ_=>Nat->(List α->Option R)->Option R) (λ_ K=>K []) (λ_ aX off K=>bw (t.get off) none λv=>aX (Nat.add off 1) λl=>K (v::l)) n off
def bk.yt(l:List α)(t:bk α)(off:Nat)(K:bk α->R):R:=@List.rec α (λ_=>bk α->Nat->R) (λt _=>K t) (λv _ aX t off=>t.n3 (some v) off λt=>aX t (Nat.add off 1)) l t off
def bk.bare:Nat->bk α
 |0=>.nil| n+1=>.node none (bk.bare n) (bk.bare n)
end
inductive av where
 |b(x:Bool) | i (k:IntKind) (n:Int) | s (l:List UInt8)| pn | p (id off:Nat) | g (n off:Nat)| sn | sl (id off n c:Nat) | sx (id off e n:Nat) | gs (g off n c:Nat) | so| mn | m (id:Nat)| f (g:Nat) (l r:List av) | y (id:Nat) | fn| ni | H2 (t:Nat) (v:av)| t (l:List av) | a (l:List av)
def av.cells:av->List av
 | .a l=>l| v=>[v]
def av.one:av->Bool
 | .a _ | .t _=>false| _=>true
def H3:Value->Option av
 | .bool x=>some (.b x)| .int k n=>some (.i k n)| .string q=>some (.s q.data.toList)| .pointer none=>some .pn| .slice none 0 0=>some .sn| .map none=>some .mn| .nilFunc=>some .fn| .nilIface=>some .ni| _=>none
def yu:List Value->Option (List av)
 |[]=>some []
 |v::vs=>match H3 v,yu vs with
  |some x,some l=>some (x::l)| _,_=>none
def EW:Value->Option av
 | .agg cs=>match yu cs.toList with
  |some l=>some (.a l)| none=>none
 |v=>H3 v
def av.nat:av->Option Nat
 | .i _ (.ofNat n)=>some n| _=>none
inductive fD where
 |cells(cs:bk av)(T fR:Nat)| map (es:List (av×av))| loop (busy:Bool) (n:Nat) (ap:bk av) (ps:List Nat) (fu body:Code)| done (c:Code) (n:Nat) (ap:bk av) (ps:List Nat) (fu body:Code)
structure bx where
 t:bk fD
 n:Nat
def sU:Int->Int->Bool
 | .ofNat a,.ofNat b=>Nat.beq a b| .negSucc a,.negSucc b=>Nat.beq a b| _,_=>false
def CE:Int->Int->Bool
 | .ofNat a,.ofNat b=>Nat.ble a b| .negSucc a,.negSucc b=>Nat.ble b a| .negSucc _,.ofNat _=>true| .ofNat _,.negSucc _=>false
def DM(a b:Int):Bool:=!CE b a
def Q4(op:BinOp)(x y:Int):Option Bool:=match op with
 | .eql=>some (sU x y)| .neq=>some (!sU x y)| .lss=>some (DM x y)| .leq=>some (CE x y)| .gtr=>some (DM y x)| .geq=>some (CE y x)| _=>none
def LB:IntKind->Nat
 | .i8=>127 | .i16=>32767 | .i32=>2147483647 | .i64=>9223372036854775807| .u8=>255 | .u16=>65535 | .u32=>4294967295 | .u64=>18446744073709551615
def w2(k:IntKind):Int->Int
 | .ofNat n=>bif Nat.ble n (LB k)then .ofNat n else k.wrap (.ofNat n)| n=>k.wrap n
def Zi:Int->Int->Int
 | .ofNat a,.ofNat b=>.ofNat (Nat.add a b)| a,b=>a+b
def Q5:Int->Int->Int
 | .ofNat a,.ofNat b=>bif Nat.ble b a then .ofNat (Nat.sub a b)else(.ofNat a:Int) - .ofNat b| a,b=>a-b
def Zj:Int->Int->Int
 | .ofNat a,.ofNat b=>.ofNat (Nat.mul a b)| a,b=>a*b
def Zk:Int->Int->Int
 | .ofNat a,.ofNat b=>.ofNat (Nat.div a b)| a,b=>a.tdiv b
def Zl:Int->Int->Int
 | .ofNat a,.ofNat b=>.ofNat (Nat.mod a b)| a,b=>a.tmod b
def Zm:Int->Nat->Int
 | .ofNat a,j=>.ofNat (Nat.mul a (Nat.pow 2 j))| a,j=>a*2^j
def Zn:Int->Nat->Int
 | .ofNat a,j=>.ofNat (Nat.div a (Nat.pow 2 j))| a,j=>a.fdiv (2^j)
def EX(op:BinOp)(k:IntKind)(x y:Int):Option Int:=
 match k,x,y with
 | .u64,.ofNat a,.ofNat b=>
  bif Nat.ble a 18446744073709551615&&Nat.ble b 18446744073709551615 then
   (match op with
   | .and=>some (.ofNat (Nat.land a b))| .or=>some (.ofNat (Nat.lor a b))| .xor=>some (.ofNat (Nat.xor a b))| .andNot=>some (.ofNat (Nat.land a (Nat.sub 18446744073709551615 b)))| _=>none)
  else none
 |_,_,_=>Bl op k x y
def Q6(a b:UInt8):Bool:=Nat.beq a.toNat b.toNat
def vk:List UInt8->List UInt8->Bool
 |[],[]=>true| a::l,b::m=>bif Q6 a b then vk l m else false| _,_=>false
def EY:av->av->Option Bool
 | .b x,.b w=>some (x == w)| .i k x,.i l w=>cc (IntKind.lZ k l) (some (sU x w)) none| .s x,.s w=>some (vk x w)| _,_=>none
def Zo:List av->List av->Option Bool
 |[],[]=>some true
 |x::l,w::m=>match EY x w with
  |some true=>Zo l m
  |some false=>(match Zo l m with
   |some _=>some false| none=>none)
  |none=>none
 |_,_=>none
def awW:av->av->Option Bool
 | .pn,.pn=>some true| .pn,.p _ _=>some false| .p _ _,.pn=>some false| .pn,.g _ _=>some false| .g _ _,.pn=>some false| _,_=>none
def Q7(op:BinOp)(k fI:IntKind)(a b:Int):Option av:=match op with
 | .shl=>(match b with
  | .ofNat j=>some (.i k (w2 k (Zm a (cc (Nat.ble j k.bits) j k.bits))))| _=>none)
 | .shr=>(match b with
  | .ofNat j=>some (.i k (Zn a (cc (Nat.ble j k.bits) j k.bits)))| _=>none)
 | .add=>cc (IntKind.lZ k fI) (some (.i k (w2 k (Zi a b)))) none| .sub=>cc (IntKind.lZ k fI) (some (.i k (w2 k (Q5 a b)))) none| .mul=>cc (IntKind.lZ k fI) (some (.i k (w2 k (Zj a b)))) none| .quo=>cc (IntKind.lZ k fI) (cc (sU b 0) none (some (.i k (w2 k (Zk a b))))) none| .rem=>cc (IntKind.lZ k fI) (cc (sU b 0) none (some (.i k (Zl a b)))) none| .and=>cc (IntKind.lZ k fI) (bw (EX .and k a b) none λr=>some (.i k r)) none| .or=>cc (IntKind.lZ k fI) (bw (EX .or k a b) none λr=>some (.i k r)) none| .xor=>cc (IntKind.lZ k fI) (bw (EX .xor k a b) none λr=>some (.i k r)) none| .andNot=>cc (IntKind.lZ k fI) (bw (EX .andNot k a b) none λr=>some (.i k r)) none| op=>cc (IntKind.lZ k fI) (bw (Q4 op a b) none λr=>some (.b r)) none
def Q8(op:BinOp)(a b:List UInt8):Option av:=match op with
 | .eql=>some (.b (vk a b))| .neq=>some (.b (cc (vk a b) false true))| .add=>cc (Nat.ble (Nat.add a.length b.length) 9223372036854775807) (some (.s (a++b))) none| _=>none
def Q9(op:BinOp)(dd:Option dV)(a b:Bool):Option av:=match dd with
 |some { bM:=.bool,.. }=>
  (match op with
  | .eql=>some (.b (a == b))| .neq=>some (.b (!(a == b)))| _=>none)
 |_=>none
def EZ(agg:Bool)(l:List av):Option av:=bif agg then some (.a l)else match l with
 |[v]=>some v| _=>none
def CF:Nat->List av->Option (List av)
 |0,_=>some []| _+1,[]=>none
 |n+1,v::l=>match CF n l with
  |some r=>some (v::r)| none=>none
def CG{α:Type}:List α->Nat->List α
 |[],_=>[]| v::l,n=>bif Nat.beq n 0 then v::l else CG l (Nat.sub n 1)
def An(E:Env)(t o:Nat)(l:List av):Option av:=bw (E t) none λi=>cc (Nat.beq i.size 0) none <| bw (CF i.size (CG l o)) none λr=>EZ i.bM.agg r
def CH(F:Nat->av->av->Option Bool)(E:Env)(l m:List av):List (Nat×Nat)->Option Bool
 |[]=>some true|(t,o)::r=>bw (An E t o l) none λx=>bw (An E t o m) none λy=>bw (F t x y) none λb=>cc b (CH F E l m r) (some false)
def Zp(P:Program)(t:Nat):Bool:=match P.underlying t with
 |some (.struct dv)=>!P.stoodInHeld t&&dv.toList.all λf=>decide (f.name ≠ "_")
 |_=>false
def yv(P:Program)(E:Env):Nat->Nat->av->av->Option Bool
 |0,_,_,_=>none
 |d+1,t,x,y=>bw (E t) none λi=>match i.bM,x,y with
  | .bool,.b a,.b b=>some (a == b)| .int _,.i k a,.i fI b=>cc (IntKind.lZ k fI) (some (sU a b)) none| .string,.s a,.s b=>some (vk a b)| .struct dv,.a l,.a m=>cc (Zp P t) (CH (yv P E d) E l m dv) none| .array n e,.a l,.a m=>bw (E e) none λaH=>CH (yv P E d) E l m ((List.range n).map λi=>(e,i*aH.size))
  |_,_,_=>none
def H4(P:Program)(E:Env)(op:BinOp)(t:Nat)(l m:List av):Option av:=cc (P.eqGuardType P.depth t) none (bw (yv P E 8 t (.a l) (.a m)) none λb=>match op with
 | .eql=>some (.b b)| .neq=>some (.b (!b))| _=>none)
def Q':av->Option Bool
 | .sn=>some true| .sl .. | .sx .. | .gs .. | .so=>some false| _=>none
def Ra:av->Option Bool
 | .pn=>some true| .p .. | .g ..=>some false| _=>none
def LC(op:BinOp)(b:Bool):Option av:=match op with
 | .eql=>some (.b b)| .neq=>some (.b (!b))| _=>none
def Rb(P:Program)(E:Env)(op:BinOp)(t:Nat)(x y:av):Option av:=
 match x,y with
 | .i k a,.i fI b=>Q7 op k fI a b| .s a,.s b=>Q8 op a b| .b a,.b b=>Q9 op (E t) a b| .a l,.a m=>H4 P E op t l m
 |x,.sn=>bw (E t) none λi=>(match i.bM with
  | .slice _=>bw (Q' x) none λb=>LC op b
  |_=>none)
 |x,.pn=>bw (E t) none λi=>(match i.bM with
  | .pointer _=>bw (Ra x) none λb=>LC op b
  |_=>none)
 |_,_=>none
def w3{α:Type}:List α->Nat->Option α
 |[],_=>none| v::l,n=>bif Nat.beq n 0 then some v else w3 l (Nat.sub n 1)
def yw:List av->Nat->List av->Option (List av)
 |cs,0,[]=>some cs
 |_::cs,0,v::vs=>match yw cs 0 vs with
  |some r=>some (v::r)| none=>none
 |c::cs,n+1,vs=>match yw cs n vs with
  |some r=>some (c::r)| none=>none
 |[],_,_=>none
def Ao(place:Nat->Option (Nat×Nat)):List av->List (Nat×av)->Option (List av)
 |cells,[]=>some cells
 |cells,(i,v)::bq=>match place i with
  |none=>none
  |some (off,size)=>bif Nat.beq v.cells.length size then(match yw cells off v.cells with
   |some cs=>Ao place cs bq| none=>none)else none
def dF(ap:bk av):Operand->Option av
 | .tmp t=>ap.get t| .const v=>EW v| .global g=>some (.g g 0)| .func f=>some (.f f [] [])
def ou(ap:bk av):List Operand->Option (List av)
 |[]=>some []
 |x::xs=>match dF ap x,ou ap xs with
  |some v,some l=>some (v::l)| _,_=>none
def E0(ap:bk av):List (Nat×Operand)->Option (List (Nat×av))
 |[]=>some []
 |(i,x)::xs=>match dF ap x,E0 ap xs with
  |some v,some l=>some ((i,v)::l)| _,_=>none
abbrev GT:=Nat->Option (bk av)
def tX{R:Type}(G:GT)(m:bk fD)(x:av)(n:Nat)(K:List av->Option R):Option R:=match x with
 | .p id off=>(match m.get id with
  |some (.cells cs _ fR)=>bif Nat.ble (Nat.add off n) fR then cs.EV off n K else none| _=>none)
 | .g g off=>(match G g with
  |some cs=>cs.EV off n K| none=>none)
 |_=>none
def H5(x:av)(n:Nat):Option av:=match x with
 | .p id off=>some (.p id (Nat.add off n))| .g g off=>some (.g g (Nat.add off n))| _=>none
def LD(x:av)(j sz:Nat):Option av:=match x with
 | .sl id off n _=>bif Nat.blt j n then some (.p id (Nat.add off (Nat.mul j sz)))else none| .sx id off _ n=>bif Nat.blt j n then some (.p id (Nat.add off (Nat.mul j sz)))else none| .gs g off n _=>bif Nat.blt j n then some (.g g (Nat.add off (Nat.mul j sz)))else none| _=>none
def w4:av->Option Nat
 | .sn | .so=>some 0| .sl _ _ n _ | .sx _ _ _ n | .gs _ _ n _=>some n| _=>none
def sV(v:av):Option Nat:=match v with
 | .s l=>some l.length| v=>w4 v
def Rc(x:av)(sz l:Nat)(h:Option Nat):Option av:=match x with
 | .sn=>bif Nat.beq l 0&&Nat.beq (h.getD 0) 0 then some .sn else none
 | .sl id off n c=>let h:=h.getD n
  bif Nat.ble l h&&Nat.ble h c then bif Nat.beq c l then some (.sl id off (Nat.sub h l) 0)else some (.sl id (Nat.add off (Nat.mul l sz)) (Nat.sub h l) (Nat.sub c l))else none
 | .sx id off e n=>let h:=h.getD n
  bif Nat.ble l h&&Nat.ble h n then(bif Nat.beq l 0||Nat.blt l n then some (.sx id (Nat.add off (Nat.mul l sz)) (Nat.add e l) (Nat.sub h l))else some .so)else none
 |_=>none
def CI(o:Option (Option av)):Option (Option Nat):=match o with
 |none=>some none
 |some (some v)=>(match v.nat with
  |some n=>some (some n)| none=>none)
 |some none=>none
def Rd(l:List UInt8)(lo hi:Nat):List UInt8:=(CG l lo).take (Nat.sub hi lo)
def Zq(c a b:Option av):Option av:=match c,a,b with
 |some (.b c),some u,some v=>some (cc c u v)| _,_,_=>none
def Zr(op:UnOp)(x:Option av):Option av:=match op,x with
 | .not,some (.b b)=>some (.b (cc b false true))| .neg,some (.i k n)=>some (.i k (w2 k (0-n)))| _,_=>none
def Zs(P:Program)(E:Env)(op:BinOp)(t:Nat)(x y:Option av):Option av:=bw x none λx=>bw y none λy=>Rb P E op t x y
def Zt(G:GT)(m:bk fD)(i:Option dV)(x:Option av):Option av:=bw i none λi=>bw x none λx=>tX G m x i.size λl=>EZ i.bM.agg l
def Zu(x:Option av):Option av:=match x with
 |some (.p id off)=>some (.p id off)| some (.g g off)=>some (.g g off)| _=>none
def LF(E:Env)(t i:Nat):Option (Nat×dV):=match E t with
 |some { bM:=.struct dv,.. }=>(match w3 dv i with
  |some (fH,off)=>(match E fH with
   |some iP=>some (off,iP)| none=>none)
  |none=>none)
 |_=>none
def Zv(r:Option (Nat×dV))(x:Option av):Option av:=bw r none λr=>bw x none λx=>cc (Nat.beq r.2.size 0) none (H5 x r.1)
def LG(aH:dV)(cs:List av)(off:Nat):Option av:=cc (Nat.beq aH.size 0) none <| bw (CF aH.size (CG cs off)) none λl=>EZ aH.bM.agg l
def Zw(r:Option (Nat×dV))(x:Option av):Option av:=match r,x with
 |some (off,iP),some (.a cs)=>LG iP cs off| _,_=>none
def Re(E:Env)(t:Nat):Option (Option Nat×dV):=match E t with
 |some { bM:=.slice e,.. }=>(match E e with
  |some aH=>some (none,aH)| none=>none)
 |some { bM:=.array n e,.. }=>(match E e with
  |some aH=>some (some n,aH)| none=>none)
 |_=>none
def Zx(r:Option (Option Nat×dV))(x i:Option av):Option av:=bw r none λr=>bw x none λx=>bw i none λi=>bw i.nat none λj=>
 bw r.1 (LD x j r.2.size) λn=>cc (Nat.blt j n) (H5 x (Nat.mul j r.2.size)) none
def Rf(l:List UInt8)(j:Nat):Option av:=bw (w3 l j) none λb=>some (.i .u8 (.ofNat b.toNat))
def Zy(cs:List av)(j n:Nat)(aH:dV):Option av:=cc (Nat.beq (Nat.mul n aH.size) cs.length&&Nat.blt j n) (LG aH cs (Nat.mul j aH.size)) none
def H6(E:Env)(t:Nat)(x i:Option av):Option av:=match E t,x,i with
 |some { bM:=.string,.. },some (.s l),some i=>bw i.nat none λj=>Rf l j
 |some { bM:=.array n e,.. },some (.a cs),some i=>bw (E e) none λaH=>bw i.nat none λj=>Zy cs j n aH
 |_,_,_=>none
def H7(o:Option (List av)):Option av:=bw o none λl=>some (.a l)
def Zz(E:Env)(t:Nat)(ps:Option (List (Nat×av))):Option av:=match E t,ps with
 |some i,some vs=>bw (yu i.zero) none λz=>(match i.bM with
  | .struct dv=>cc (Gr E dv) (H7 (Ao (places E dv) z vs)) none| .array _ e=>bw (E e) none λaH=>H7 (Ao (λj=>some (j*aH.size,aH.size)) z vs)
  |_=>none)
 |_,_=>none
def ZA(f:Fn)(dv cs:Option (List av)):Option av:=match f,dv,cs with
 | .func g,some dv,some cs=>some (.f g dv cs)| _,_,_=>none
def Rg(aH:dV)(x:av)(lo hi:Option Nat):Option av:=match lo,hi with
 |none,none=>(match x with
  | .sn | .sl .. | .sx .. | .so=>some x| _=>none)
 |lo,hi=>Rc x aH.size (lo.getD 0) hi
def Rh(l:List UInt8)(lo hi:Option Nat):Option av:=match lo,hi with
 |none,none=>some (.s l)| lo,hi=>cc (Nat.ble (lo.getD 0) (hi.getD l.length)&&Nat.ble (hi.getD l.length) l.length) (some (.s (Rd l (lo.getD 0) (hi.getD l.length)))) none
def H8(E:Env)(t:Nat)(x:Option av)(lo hi:Option (Option Nat)):Option av:=match E t,x,lo,hi with
 |some { bM:=.slice e,.. },some x,some lo,some hi=>bw (E e) none λaH=>Rg aH x lo hi
 |some { bM:=.string,.. },some (.s l),some lo,some hi=>Rh l lo hi| _,_,_,_=>none
def ZB(x:Option av)(i:Nat):Option av:=match x with
 |some (.t vs)=>w3 vs i| _=>none
def ZC(E:Env)(s d:Nat)(x:Option av):Option av:=match E s,E d,x with
 |some _,some { bM:=.int k,.. },some (.i _ n)=>some (.i k (w2 k n))| _,_,_=>none
def LH(o:Option Nat):Option av:=bw o none λn=>some (.i .i64 (.ofNat n))
def ZD(E:Env)(ts:List Nat)(l:Option (List av)):Option av:=match ts,l with
 |[t],some [v]=>(match E t,v with
  |some { bM:=.slice _,.. },v=>LH (w4 v)| some { bM:=.string,.. },.s l=>LH (some l.length)| some { bM:=.array n _,.. },_=>LH (some n)| _,_=>none)
 |_,_=>none
def ZE(l:Option (List av)):Option av:=match l with
 |some [.i k a,.i _ b]=>some (.i k (cc (CE a b) b a))| _=>none
def ZF(l:Option (List av)):Option av:=match l with
 |some [.i k a,.i _ b]=>some (.i k (cc (CE a b) a b))| _=>none
def ZG(E:Env)(ts:List Nat)(l:Option (List av)):Option av:=match ts,l with
 |[t],some [.sl _ _ _ c]=>(match E t with
  |some { bM:=.slice _,.. }=>some (.i .i64 (.ofNat c))| _=>none)
 |_,_=>none
def ZH(l:Option (List av)):Option av:=match l with
 |some [.sn]=>some .pn| some [.sl id off n c]=>cc (Nat.beq c 0) none (some (.p id off))| some [.sx id off e n]=>cc (Nat.beq n 0) none (some (.p id off))| _=>none
def Ri(E:Env)(b:Builtin)(ts:List Nat)(l:Option (List av)):Option av:=match b with
 | .len=>ZD E ts l| .max=>ZE l| .min=>ZF l| .cap=>ZG E ts l| .unsafeSliceData=>ZH l| _=>none
def Rj(P:Program)(E:Env)(G:GT)(m:bk fD)(op:Op)(ap:bk av):Option av:=
 match op with
 | .move x=>dF ap x| .assign x=>dF ap x| .pick c a b=>Zq (dF ap c) (dF ap a) (dF ap b)| .unOp op _ x=>Zr op (dF ap x)| .binOp op t x y _=>Zs P E op t (dF ap x) (dF ap y)| .load t x=>Zt G m (E t) (dF ap x)| .nilCheck x=>Zu (dF ap x)| .fieldAddr t x i=>Zv (LF E t i) (dF ap x)| .field t x i=>Zw (LF E t i) (dF ap x)| .indexAddr t x i=>Zx (Re E t) (dF ap x) (dF ap i)| .index t x i=>H6 E t (dF ap x) (dF ap i)| .build t parts=>Zz E t (E0 ap parts.toList)| .makeFunc f first captured=>ZA f (ou ap first.toList) (ou ap captured.toList)
 | .slice t x lo hi none=>H8 E t (dF ap x) (CI (lo.map (dF ap))) (CI (hi.map (dF ap)))| .extract x i=>ZB (dF ap x) i| .convert s d x=>ZC E s d (dF ap x)| .call { callee:=.builtin b,args,argTypes }=>Ri E b argTypes.toList (ou ap args.toList)| _=>none
def Rk(E:Env)(t:Nat)(x hi mx:Option av):Option av:=match E t,x,hi,mx with
 |some { bM:=.slice e,.. },some (.sl id off n c),some (.i _ (.ofNat h)),some (.i _ (.ofNat k))=>bw (E e) none λaH=>
  cc (Nat.ble h k&&(Nat.ble k c&&Nat.blt 0 k)) (some (.sl id off h k)) none
 |some { bM:=.slice e,.. },some (.sx id off bc n),some (.i _ (.ofNat h)),some (.i _ (.ofNat k))=>bw (E e) none λaH=>
  cc (Nat.ble h k&&(Nat.ble k n&&Nat.blt 0 k)) (some (.sl id off h k)) none
 |_,_,_,_=>none
def Rl(E:Env)(t:Nat)(x lo hi mx:Option av):Option av:=match E t,x,lo,hi,mx with
 |some { bM:=.slice e,.. },some (.sl id off n c),some (.i _ (.ofNat l)),some (.i _ (.ofNat h)),some (.i _ (.ofNat k))=>bw (E e) none λaH=>
  cc (Nat.ble l h&&(Nat.ble h k&&(Nat.ble k c&&Nat.blt l k))) (some (.sl id (Nat.add off (Nat.mul l aH.size)) (Nat.sub h l) (Nat.sub k l))) none
 |_,_,_,_,_=>none
def Rm(x:Option av):Option av:=match x with
 |some (.i .u64 n)=>some (.i .u64 (jI n))| _=>none
def vl(P:Program)(E:Env)(G:GT)(m:bk fD)(op:Op)(ap:bk av):Option av:=
 match op with
 | .unOp .xor t x=>Rm (dF ap x)| .slice t x (some lo) (some hi) (some mx)=>Rl E t (dF ap x) (dF ap lo) (dF ap hi) (dF ap mx)| .slice t x none (some hi) (some mx)=>Rk E t (dF ap x) (dF ap hi) (dF ap mx)| op=>Rj P E G m op ap
def rR{R:Type}(n:Nat)(K:Nat->R):R:=Nat.casesOn (Nat.add n 1) (K 0) K
def ZI{R:Type}(n:Int)(K:Int->R):R:=match n with
 | .ofNat n=>rR n λn=>K (.ofNat n)
 | .negSucc n=>rR n λn=>K (.negSucc n)
def ZJ{R:Type}(b:Bool)(K:Bool->R):R:=cc b (K true) (K false)
def Rn{R:Type}(v:av)(K:av->R):R:=match v with
 | .b x=>ZJ x λx=>K (.b x)
 | .i k n=>ZI n λn=>K (.i k n)
 | .p id off=>rR off λoff=>K (.p id off)
 | .g id off=>rR off λoff=>K (.g id off)
 | .sl id off n c=>rR off λoff=>rR n λn=>rR c λc=>K (.sl id off n c)
 | .sx id off e n=>rR off λoff=>rR e λe=>rR n λn=>K (.sx id off e n)
 |v=>K v
def CJ{R:Type}(m:bx)(e:fD)(K:Nat->bx->R):R:=rR m.n λn=>m.t.n3 (some e) n λt=>K n ⟨t,Nat.add n 1⟩
def vm{R:Type}(m:bx)(l:List av)(T:Nat)(K:Nat->bx->R):R:=bk.yt l .nil 0 λcs=>CJ m (.cells cs T l.length) K
def yx{R:Type}(m:bx)(x:av)(l:List av)(K:bx->Option R):Option R:=match x with
 | .p id off=>(match m.t.get id with
  |some (.cells cs T fR)=>bif Nat.ble (Nat.add off l.length) fR&&l.all av.one then bk.yt l cs off λcs=>m.t.n3 (some (.cells cs T fR)) id λt=>K ⟨t,m.n⟩else none
  |_=>none)
 |_=>none
def CK:Nat->List av->List av
 |0,_=>[]| n+1,z=>z++CK n z
def E1(i:Option dV):Bool:=match i with
 |some { bM:=.int .u8,.. }=>true| _=>false
def w5(u:Option dV)(aH:dV)(x:av):Bool:=match u,x with
 |some { bM:=.slice _,.. },.sn=>true| some { bM:=.slice _,.. },.so=>true| some { bM:=.slice _,.. },.sl ..=>true| some { bM:=.slice _,.. },.sx ..=>true| some { bM:=.string,.. },.s _=>Nat.beq aH.size 1| _,_=>false
def E2(G:GT)(m:bk fD)(x:av)(sz:Nat){R:Type}(K:List av->Option R):Option R:=match x with
 | .sn | .so=>K []| .sl id off n _ | .sx id off _ n=>tX G m (.p id off) (Nat.mul n sz) K| .s l=>K (l.map λb=>.i .u8 (.ofNat b.toNat))| _=>none
def Ro(G:GT)(m:bx)(id off n c:Nat)(l:List av)(k sz T:Nat):Option (av×bx):=
 cc (Nat.ble (Nat.add n k) c) (yx m (.p id (Nat.add off (Nat.mul n sz))) l λm=>some (.sl id off (Nat.add n k) c,m)) (tX G m.t (.p id off) (Nat.mul n sz) λdR=>vm m (dR++l) T λid m=>some (.sx id 0 0 (Nat.add n k),m))
def Rp(m:bx)(id:Nat)(n:Nat)(cs:bk av)(fR:Nat)(l:List av)(k sz T:Nat):Option (av×bx):=
 cc (Nat.ble (Nat.mul n sz) fR) (m.t.n3 none id λt=>bk.yt l cs (Nat.mul n sz) λcs=>CJ ⟨t,m.n⟩ (.cells cs T (Nat.mul (Nat.add n k) sz)) λid m=>some (.sx id 0 0 (Nat.add n k),m)) none
def H9(G:GT)(m:bx)(s:av)(l:List av)(k sz bytes T:Nat):Option (av×bx):=match s with
 | .sn=>cc (Nat.ble (Nat.mul k bytes) 140737488355328&&Nat.ble k 9223372036854775807) (vm m l T λid m=>some (.sx id 0 0 k,m)) none| .sl id off n c=>cc (Nat.ble (Nat.mul (Nat.add n k) bytes) 140737488355328&&Nat.ble (Nat.add n k) 9223372036854775807) (Ro G m id off n c l k sz T) none
 | .sx id off e n=>(match m.t.get id with
  |some (.cells cs mB fR)=>cc ((Nat.beq off 0&&Nat.beq e 0)&&(Nat.beq mB T&&(Nat.ble (Nat.mul (Nat.add n k) bytes) 140737488355328&&Nat.ble (Nat.add n k) 9223372036854775807))) (Rp m id n cs fR l k sz T) none| _=>none)
 |_=>none
def H':List av->List UInt8->Option (List UInt8)
 |[],a7=>some a7.reverse| .i .u8 (.ofNat n)::l,a7=>bif Nat.ble n 255 then H' l (UInt8.ofNat n::a7)else none| _,_=>none
def Rq(l:List av):Option (List UInt8):=H' l []
def Ia:av->List (av×av)->Option (Option av)
 |_,[]=>some none
 |k,(x,v)::l=>match EY k x with
  |some true=>some (some v)| some false=>Ia k l| none=>none
def Ib(k v:av):List (av×av)->Option (List (av×av))
 |[]=>some [(k,v)]
 |(x,u)::l=>match EY k x with
  |some true=>some ((k,v)::l)
  |some false=>(match Ib k v l with
   |some r=>some ((x,u)::r)| none=>none)
  |none=>none
abbrev me:=Nat->List av->bx->Option (av×bx)
structure gX where
 P:Program
 E:Env
 G:GT
 pr:me
def ZK(i:Option dV)(t:Nat)(x:Option av):Option (List av×Nat×Nat×(Nat->av)):=bw i none λi=>bw x none λv=>cc (Nat.beq v.cells.length i.size) (some (v.cells,t,1,λid=>.p id 0)) none
def ZL(i:Option dV)(t:Nat):Option (List av×Nat×Nat×(Nat->av)):=bw i none λi=>bw (yu i.zero) none λz=>some (z,t,1,λid=>.p id 0)
def ZM(E:Env)(t len:Nat)(ps:Option (List (Nat×av))):Option (List av×Nat×Nat×(Nat->av)):=match E t,ps with
 |some { bM:=.slice e,.. },some vs=>bw (E e) none λaH=>bw (yu aH.zero) none λz=>
  cc (Nat.ble (Nat.mul len aH.size) 16777216&&Nat.blt 0 (Nat.mul len aH.size)) (bw (Ao (λj=>some (j*aH.size,aH.size)) (CK len z) vs) none λcs=>some (cs,e,len,λid=>.sl id 0 len len)) (cc (Nat.beq len 0&&vs.isEmpty) (some ([],e,0,λid=>.sl id 0 0 0)) none)
 |_,_=>none
def ZN(E:Env)(t:Nat)(l c:Option av):Option (List av×Nat×Nat×(Nat->av)):=match E t,l,c with
 |some { bM:=.slice e,.. },some l,some c=>bw (E e) none λaH=>bw l.nat none λn=>bw c.nat none λk=>bw (yu aH.zero) none λz=>
  cc (Nat.ble n k&&(Nat.ble (Nat.mul aH.bytes k) 140737488355328&&Nat.ble k 9223372036854775807)) (some (CK k z,e,k,λid=>.sl id 0 n k)) none
 |_,_,_=>none
def CL(E:Env)(o:Oper)(ap:bk av):Option (List av×Nat×Nat×(Nat->av)):=
 match o.op with
 | .box t x=>ZK (E t) t (dF ap x)| .alloc t=>ZL (E t) t| .buildSlice t len parts=>ZM E t len (E0 ap parts.toList)| .makeSlice t l c=>ZN E t (dF ap l) (dF ap c)| _=>none
def LI(i:Option dV)(m:bx)(x y:Option av):Option (av×bx):=bw i none λi=>bw x none λx=>bw y none λv=>cc (Nat.beq v.cells.length i.size) (yx m x v.cells λm=>some (.t [],m)) none
def LJ(i:Option dV)(m:bx):Option (av×bx):=match i with
 |some { bM:=.map k e,.. }=>CJ m (.map []) λid m=>some (.m id,m)
 |_=>none
def LK(i:Option dV)(v:av):Bool:=match i,v with
 |some { bM:=.int k,.. },.i fI _=>IntKind.lZ k fI| some { bM:=.string,.. },.s _=>true| _,_=>false
def ZO(ok:Bool)(z:av)(r:Option av):av:=cc ok (bw r (.t [z,.b false]) λv=>.t [v,.b true]) (bw r z λv=>v)
def Rr(P:Program)(E:Env)(t:Nat)(m:bx)(x y:Option av)(ok:Bool):Option (av×bx):=match E t,x,y with
 |some { bM:=.map k e,.. },some (.m id),some y=>cc (LK (E k) y) (match m.t.get id with
  |some (.map es)=>bw (Ia y es) none λr=>bw (P.info? e) none λinf=>bw inf.zero none λz=>bw (EW z) none λz=>some (ZO ok z r,m)
  |_=>none) none
 |_,_,_=>none
def Ic(E:Env)(t:Nat)(m:bx)(x y z:Option av):Option (av×bx):=match E t,x,y,z with
 |some { bM:=.map k e,.. },some (.m id),some y,some v=>cc (LK (E k) y) (match m.t.get id with
  |some (.map es)=>bw (Ib y v es) none λes=>m.t.n3 (some (.map es)) id λt=>some (.t [],⟨t,m.n⟩)
  |_=>none) none
 |_,_,_,_=>none
def LL(G:GT)(m:bx)(id off n:Nat):Option (av×bx):=tX G m.t (.p id off) n λl=>bw (Rq l) none λl=>some (.s l,m)
def LM(Y:gX)(m:bx)(s d:Nat)(x:Option av):Option (av×bx):=match Y.E s,Y.E d,x with
 |some { bM:=.slice e,.. },some { bM:=.string,.. },some (.sl id off n _)=>cc (E1 (Y.E e)) (LL Y.G m id off n) none| some { bM:=.slice e,.. },some { bM:=.string,.. },some (.sx id off _ n)=>cc (E1 (Y.E e)) (LL Y.G m id off n) none| some { bM:=.slice e,.. },some { bM:=.string,.. },some .sn=>cc (E1 (Y.E e)) (some (.s [],m)) none| _,_,_=>none
def E3:av->Bool
 | .sn | .so | .sx ..=>true| .sl _ _ n c=>Nat.ble n c| _=>false
def Rs(Y:gX)(m:bx)(ts:List Nat)(l:Option (List av)):Option (av×bx):=match ts,l with
 |[t,u],some [s,x]=>(match Y.E t with
  |some { bM:=.slice e,.. }=>bw (Y.E e) none λaH=>cc (w5 (Y.E u) aH x) (E2 Y.G m.t x aH.size λl=>bw (sV x) none λk=>
    cc (Nat.beq k 0) (cc (E3 s) (some (s,m)) none) (cc (l.all av.one) (H9 Y.G m s l k aH.size aH.bytes e) none)) none
  |_=>none)
 |_,_=>none
def Rt(Y:gX)(m:bx)(ts:List Nat)(l:Option (List av)):Option (av×bx):=match ts,l with
 |[t,u],some [.sl id off n c,.s q]=>(match Y.E t with
  |some { bM:=.slice e,.. }=>bw (Y.E e) none λaH=>cc (Nat.beq aH.size 1&&Nat.ble q.length n) (yx m (.p id off) (q.map λb=>.i .u8 (.ofNat b.toNat)) λm=>some (.i .i64 (.ofNat q.length),m)) none
  |_=>none)
 |_,_=>none
def Ru(Y:gX)(m:bx)(ts:List Nat)(l:Option (List av)):Option (av×bx):=match ts,l with
 |[uI,it],some [.pn,.i .i64 (.ofNat 0)]=>some (.s [],m)
 |[uI,it],some [.p id 0,.i .i64 (.ofNat n)]=>(match Y.E uI,m.t.get id with
  |some { bM:=.pointer e,.. },some (.cells cs T fR)=>bw (Y.E e) none λaH=>
   cc (Nat.beq aH.size 1&&(Nat.beq T e&&Nat.blt 0 n)) (tX Y.G m.t (.p id 0) n λl=>bw (Rq l) none λl=>cc (Nat.ble n 9223372036854775807) (m.t.n3 none id λt=>some (.s l,⟨t,m.n⟩)) none) none
  |_,_=>none)
 |_,_=>none
def ZP(Y:gX)(m:bx)(b:Builtin)(ts:List Nat)(l:Option (List av)):Option (av×bx):=match b with
 | .append=>Rs Y m ts l| .copy=>Rt Y m ts l| .unsafeString=>Ru Y m ts l| _=>none
def Rv(Y:gX)(m:bx)(o:Oper)(ap:bk av):Option (av×bx):=
 match o.op with
 | .store t x y=>bw o.dst (LI (Y.E t) m (dF ap x) (dF ap y)) λ_=>none
 | .makeMap t none=>LJ (Y.E t) m
 | .makeMap t (some x)=>(match dF ap x with
  |some (.i _ _)=>LJ (Y.E t) m| _=>none)
 | .lookup t x y ok=>Rr Y.P Y.E t m (dF ap x) (dF ap y) ok| .mapUpdate t x y z=>bw o.dst (Ic Y.E t m (dF ap x) (dF ap y) (dF ap z)) λ_=>none
 | .insert t x y z=>bw o.dst (Ic Y.E t m (dF ap x) (dF ap y) (dF ap z)) λ_=>none
 | .convert s d x=>LM Y m s d (dF ap x)| .call { callee:=.builtin b,args,argTypes }=>ZP Y m b argTypes.toList (ou ap args.toList)| _=>none
def lO(E:Env)(op:Op):Nat:=match op with
 | .move _ | .assign _ | .pick .. | .binOp .. | .load .. | .nilCheck _ | .fieldAddr .. | .field .. | .indexAddr .. | .index .. | .build .. | .makeFunc .. | .extract .. | .unOp .. | .slice ..=>0| .alloc _ | .box .. | .buildSlice .. | .makeSlice ..=>1
 | .convert s d _=>(match E d with
  |some { bM:=.int _,.. }=>0| _=>2)
 | .call { callee:=.builtin .len,argTypes,.. }=>(match argTypes.toList with
  |[t]=>(match E t with
   |some { bM:=.map ..,.. }=>2| _=>0)
  |_=>2)
 | .call { callee:=.builtin .cap,.. }=>0| .call { callee:=.builtin .max,.. }=>0| .call { callee:=.builtin .min,.. }=>0| .call { callee:=.builtin .unsafeSliceData,.. }=>0| _=>2
def p6{R:Type}(dst:Option Nat)(ap:bk av)(v:av)(K:bk av->Option R):Option R:=bw dst (K ap) λd=>Rn v λv=>ap.n3 (some v) d K
def ZQ{R:Type}(call:av->List av->bx->Option (av×bx))(dst:Option Nat)(f:Option av)(l:Option (List av))(ap:bk av)(m:bx)(K:bk av->bx->Option R):Option R:=
 bw f none λf=>bw l none λl=>bw (call f l m) none λr=>cc (Nat.ble m.n r.2.n) (p6 dst ap r.1 λap=>K ap r.2) none
def ZR{R:Type}(dst:Option Nat)(r:Option (List av×Nat×Nat×(Nat->av)))(ap:bk av)(m:bx)(K:bk av->bx->Option R):Option R:=
 bw dst none λd=>bw r none λr=>vm m r.1 r.2.1 λid m=>p6 (some d) ap (r.2.2.2 id) λap=>K ap m
def ZS{R:Type}(dst:Option Nat)(v:Option av)(ap:bk av)(m:bx)(K:bk av->bx->Option R):Option R:=
 bw v none λv=>p6 dst ap v λap=>K ap m
def ZT{R:Type}(dst:Option Nat)(n:Nat)(r:Option (av×bx))(ap:bk av)(K:bk av->bx->Option R):Option R:=
 bw r none λr=>cc (Nat.ble n r.2.n) (p6 dst ap r.1 λap=>K ap r.2) none
def ZU{R:Type}(Y:gX)(k:Nat)(o:Oper)(ap:bk av)(m:bx)(K:bk av->bx->Option R):Option R:=match k with
 |0=>ZS o.dst (vl Y.P Y.E Y.G m.t o.op ap) ap m K| 1=>ZR o.dst (CL Y.E o ap) ap m K| _=>ZT o.dst m.n (Rv Y m o ap) ap K
def Ap{R:Type}(Y:gX)(call:av->List av->bx->Option (av×bx))(o:Oper)(ap:bk av)(m:bx)(K:bk av->bx->Option R):Option R:=
 match o.op with
 | .call { callee:=.value f,args,.. }=>ZQ call o.dst (dF ap f) (ou ap args.toList) ap m K| op=>ZU Y (lO Y.E op) o ap m K
def CM{R:Type}(o:Oper)(ap:bk av)(K:bk av->Option R):Option R:=match o.dst with
 |none=>K ap| some d=>ap.n3 (some (.t [])) d K
def vn(ops:List Oper)(o:Oper)(ap:bk av):Option Bool:=match o.guard with
 |none=>some true
 |some (j,b)=>match(w3 ops j).bind (·.dst)with
  |none=>none
  |some d=>match ap.get d with
   |some (.b c)=>some (c == b)| some (.t _)=>some false| _=>none
def E4(Y:gX)(call:av->List av->bx->Option (av×bx))(ops:List Oper)(l:List Oper):bk av->bx->Option (bk av×bx):=
 @List.rec Oper (λ_=>bk av->bx->Option (bk av×bx)) (λap m=>some (ap,m)) (λo _ aX ap m=>bw (vn ops o ap) none λw=>cc w (Ap Y call o ap m aX) (CM o ap λap=>aX ap m)) l
def CN(E:Env)(ops:List Oper)(i:Nat):Nat:=bw (w3 ops i) 2 λo=>lO E o.op
def yy(E:Env)(ops:List Oper):List Nat:=(List.range ops.length).filter λi=>Nat.beq (CN E ops i) 2
def E5(es g5:List Nat)(i:Nat):Nat:=(es.filter λe=>(g5.getD i 0).testBit e).length
def lP(es g5:List Nat)(i:Nat):Nat:=(es.filter λe=>!(g5.getD e 0).testBit i).length
def ZV(E:Env)(ops:List Oper)(es g5:List Nat)(j:Nat):List (Nat×Nat):=((List.range ops.length).filter λi=>!Nat.beq (CN E ops i) 2&&Nat.beq (E5 es g5 i) j).map λi=>(i,CN E ops i)
def ZW(E:Env)(ops:List Oper)(es g5:List Nat):List Nat->Nat->List (Nat×Nat)
 |[],j=>ZV E ops es g5 j| e::l,j=>ZV E ops es g5 j++(e,2)::ZW E ops es g5 l (j+1)
def Ie(E:Env)(ops:List Oper):List (Nat×Nat):=ZW E ops (yy E ops) (lB ops) (yy E ops) 0
def w6(ops:List Oper):List (Nat×Nat)->Nat->Bool
 |[],k=>Nat.beq k (2^ops.length-1)
 |(i,_)::l,k=>!k.testBit i&&(match ops[i]? with
  |some o=>GK o k&&w6 ops l (k ||| 2^i)| none=>false)
def LN(g5:List Nat):List Nat->Bool
 |[]=>true| x::l=>l.all (λy=>(g5.getD y 0).testBit x)&&LN g5 l
def ZX(E:Env)(ops:List Oper):Bool:=zq ops&&(w6 ops (Ie E ops) 0&&(LN (lB ops) (yy E ops)&&(((Ie E ops).filter λr=>Nat.beq r.2 2).map (·.1) == yy E ops)))
mutual
def E6:av->av->Bool
 | .b x,.b w=>x == w| .i k x,.i l w=>IntKind.lZ k l&&sU x w| .s x,.s w=>vk x w| .pn,.pn=>true| .p i x,.p j w=>Nat.beq i j&&Nat.beq x w| .g i x,.g j w=>Nat.beq i j&&Nat.beq x w| .sn,.sn=>true| .sl i x n c,.sl j w m d=>Nat.beq i j&&(Nat.beq x w&&(Nat.beq n m&&Nat.beq c d))| .sx i x n c,.sx j w m d=>Nat.beq i j&&(Nat.beq x w&&(Nat.beq n m&&Nat.beq c d))| .gs i x n c,.gs j w m d=>Nat.beq i j&&(Nat.beq x w&&(Nat.beq n m&&Nat.beq c d))| .mn,.mn=>true| .m i,.m j=>Nat.beq i j| .f g l r,.f h m s=>Nat.beq g h&&(w7 l m&&w7 r s)| .y i,.y j=>Nat.beq i j| .fn,.fn=>true| .ni,.ni=>true| .t l,.t m=>w7 l m| .a l,.a m=>w7 l m| _,_=>false
def w7:List av->List av->Bool
 |[],[]=>true| x::l,w::m=>E6 x w&&w7 l m| _,_=>false
end
inductive qN where
 |made(i id:Nat)(l:List av)(T:Nat)| load (i:Nat) (o:Oper) (ap:bk av) (v:av)
def pj(Y:gX)(call:av->List av->bx->Option (av×bx))(ops:List Oper):List (Nat×Nat)->bk av->bx->List bx->List qN->Option (bk av×bx×List bx×List qN)
 |[],ap,m,S,A=>some (ap,m,m::S,A)|(i,k)::bq,ap,m,S,A=>bw (w3 ops i) none λo=>bw (vn ops o ap) none λw=>cc (Nat.beq (lO Y.E o.op) k) (cc w (cc (Nat.beq k 0) (bw (vl Y.P Y.E Y.G m.t o.op ap) none λv=>p6 o.dst ap v λdm=>pj Y call ops bq dm m S (cc (qt o.op) (.load i o ap v::A) A)) (cc (Nat.beq k 1) (bw o.dst none λd=>bw (CL Y.E o ap) none λr=>vm m r.1 r.2.1 λid m=>p6 (some d) ap (r.2.2.2 id) λap=>pj Y call ops bq ap m S (.made i id r.1 r.2.1::A)) (Ap Y call o ap m λap m'=>pj Y call ops bq ap m' (m::S) A))) (CM o ap λap=>pj Y call ops bq ap m (cc (Nat.beq k 2) (m::S) S) A)) none
def E7(S:List bx)(lo hi:Nat)(p:bx->Bool):Bool:=((S.drop lo).take (hi+1-lo)).all p
def Rw(Y:gX)(o:Oper)(ap:bk av)(v:av)(m:bx):Bool:=match vl Y.P Y.E Y.G m.t o.op ap with
 |some u=>E6 u v| none=>false
def Rx(id:Nat)(l:List av)(T:Nat)(m:bx):Bool:=Nat.blt id m.n&&(match m.t.get id with
 |some (.cells cs mB fR)=>Nat.beq mB T&&(Nat.beq fR l.length&&(match cs.EV 0 l.length (λe'=>some e')with
  |some e'=>w7 l e'| none=>false))
 |_=>false)
def Ry(Y:gX)(es g5:List Nat)(S:List bx):qN->Bool
 | .made i id l T=>E7 S (E5 es g5 i) (lP es g5 i) (Rx id l T)| .load i o ap v=>E7 S (E5 es g5 i) (lP es g5 i) (Rw Y o ap v)
def Rz(Y:gX)(call:av->List av->bx->Option (av×bx))(ops:List Oper)(ap:bk av)(m:bx):Option (bk av×bx):=
 cc (ZX Y.E ops) (match pj Y call ops (Ie Y.E ops) ap m [] []with
  |none=>none| some (ap,m,S,A)=>cc (A.all (Ry Y (yy Y.E ops) (lB ops) S.reverse)) (some (ap,m)) none) none
def E8{R:Type}:List Nat->List av->bk av->(bk av->Option R)->Option R
 |[],[],ap,K=>K ap| t::ps,v::vs,ap,K=>ap.n3 (some v) t λap=>E8 ps vs ap K
 |_,_,_,_=>none
def Aq(Y:gX)(ap:bk av)(m:bk fD):List ResultVar->Option (List av)
 |[]=>some []
 | .tmp t::l=>(match ap.get t,Aq Y ap m l with
  |some v,some vs=>some (v::vs)| _,_=>none)
 | .cell t ty::l=>(match ap.get t,Y.E ty,Aq Y ap m l with
  |some x,some i,some vs=>(match tX Y.G m x i.size λl=>EZ i.bM.agg l with
   |some v=>some (v::vs)| none=>none)
  |_,_,_=>none)
abbrev p7:=tk×bk av×bx
abbrev tY:=Bool->Nat->Code->bk av->bx->Option p7
def ZY:List av->av
 |[v]=>v| vs=>.t vs
def LO(Y:gX)(ap:bk av)(m:bx)(a':List ResultVar):Option (av×bx):=bw (Aq Y ap m.t a') none λvs=>some (ZY vs,m)
def ZZ(Y:gX)(r:Option p7)(a':List ResultVar):Option (av×bx):=match r with
 |some (.normal,ap,m)=>LO Y ap m a'| some (.ret,ap,m)=>LO Y ap m a'| _=>none
def LP(Y:gX)(rec:tY)(g:Nat)(args:List av)(m:bx):Option (av×bx):=
 bw (Y.P.funcs[g]?) none λfn=>bw fn.body none λc=>cc (Nat.ble args.length fn.ntmps) (bk.yt args (bk.bare 12) 0 λap=>ZZ Y (rec true fn.ntmps c ap m) fn.results.toList) none
def yz(Y:gX)(rec:tY)(g:Nat)(args:List av)(m:bx):Option (av×bx):=bw (Y.pr g args m) (LP Y rec g args m) some
def RA(l:Nat)(e:Option fD)(jump:Option Code)(m:bx):Option (av×bx):=match e with
 |some (.loop true n nq ps fu body)=>m.t.n3 (some (bw jump (.loop false n nq ps fu body) λc=>.done c n nq ps fu body)) l λt=>some (.b jump.isNone,⟨t,m.n⟩)
 |_=>none
def Z0(l:Nat)(r:Option p7):Option (av×bx):=bw r none λr=>RA l (r.2.2.t.get l) (D5 r.1) r.2.2
def RB(rec:tY)(l n:Nat)(body:Code)(e:Option fD)(ap:bk av)(m:bx):Option (av×bx):=match e with
 |some (.loop false i' nq ps fu RC)=>m.t.n3 (some (.loop true i' nq ps fu RC)) l λt=>Z0 l (rec false n body ap ⟨t,m.n⟩)
 |_=>none
def Z1(rec:tY)(l n:Nat)(body:Code)(r:Option p7):Option (av×bx):=match r with
 |some (.normal,ap,m)=>RB rec l n body (m.t.get l) ap m| _=>none
def RD(rec:tY)(l:Nat)(args:List av)(m:bx):Option (av×bx):=match m.t.get l with
 |some (.loop false n nq ps fu body)=>E8 ps args nq λap=>Z1 rec l n body (rec false n fu ap m)
 |_=>none
def LQ(Y:gX)(rec:tY)(f:av)(args:List av)(m:bx):Option (av×bx):=match f with
 | .f g l r=>yz Y rec g (l++(args++r)) m| .y l=>RD rec l args m| _=>none
def RE:Code->Option tk
 | .exit id=>some (.exit id)| .goto l=>some (.goto l)| .ret=>some .ret| _=>none
def If(r:Option p7)(k:bk av->bx->Option p7):Option p7:=match r with
 |some (.normal,ap,m)=>k ap m| r=>r
def Z2(id:Nat)(r:Option p7):Option p7:=match r with
 |some (.exit j,ap,m)=>cc (Nat.beq j id) (some (.normal,ap,m)) (some (.exit j,ap,m))| r=>r
def LR(r:Option (bk av×bx)):Option p7:=bw r none λr=>some (.normal,r.1,r.2)
def Z3(v:Option av)(x y:Option p7):Option p7:=match v with
 |some (.b b)=>cc b x y| _=>none
def Ig(rec:tY)(gY:Bool)(n:Nat)(c:Code)(k:Nat):Code->bk av->bx->Option p7:=@Nat.rec (λ_=>Code->bk av->bx->Option p7) (λ_ _ _=>none)
 (λ_ aX x ap m=>match rec gY n x ap m with
  |some (.goto l,ap,m)=>bw (findLabel c l) none λbq=>aX bq ap m
  |r=>r) k
def Z4(l:Nat)(ap:bk av)(r:Option (av×bx)):Option p7:=bw r none λr=>match r.2.t.get l with
 |some (.loop false ..)=>r.2.t.n3 none l λt=>some (.normal,ap,⟨t,r.2.n⟩)
 |some (.done c ..)=>bw (RE c) none λex=>r.2.t.n3 none l λt=>some (ex,ap,⟨t,r.2.n⟩)
 |_=>none
def RF(Y:gX)(rec:tY)(gY:Bool)(n:Nat)(v:Option av)(ps:List Nat)(fu body:Code)(ap:bk av)(m:bx):Option p7:=match gY,v with
 |true,some (.f g [] r)=>CJ m (.loop false n ap ps fu body) λl m=>Z4 l ap (LP Y rec g (.y l::r) m)
 |_,_=>none
def RG(Y:gX)(f:Nat)(rec:tY):tY:=λgY n c ap m=>match c with
 | .skip=>some (.normal,ap,m)| .label _=>some (.normal,ap,m)| .ret=>some (.ret,ap,m)| .exit id=>some (.exit id,ap,m)| .goto l=>some (.goto l,ap,m)| .seq x y=>If (rec gY n x ap m) (rec gY n y)| .block id c=>Z2 id (rec gY n c ap m)| .cond c x y=>Z3 (dF ap c) (rec gY n x ap m) (rec gY n y ap m)| .loop c=>If (rec gY n c ap m) (rec gY n (.loop c))| .region _ ops false=>LR (E4 Y (LQ Y rec) ops.toList ops.toList ap m)| .region _ ops true=>LR (Rz Y (LQ Y rec) ops.toList ap m)| .scope c=>Ig rec gY n c f c ap m| .rangeFunc x ps fu body=>RF Y rec gY n (dF ap x) ps.toList fu body ap m| .refuse _=>none
def lQ(Y:gX)(f:Nat):tY:=@Nat.rec (λ_=>tY) (λ_ _ _ _ _=>none) (λf aX=>RG Y f aX) f
end
section
variable{α R:Type}
def kO{α:Type}(b:Bool)(x y:α):cc b x y=bif b then x else y:=by cases b<;>rfl
def cB{α R:Type}{o:Option α}{f:α->Option R}{r:R}(h:bw o none f=some r):∃ v,o=some v/\f v=some r:=by
 cases o with
 |none=>cases h| some v=>exact⟨v,rfl,h⟩
def f'{α:Type}{x:Option α}{r:α}(h:cc b x none=some r):b=true/\x=some r:=by
 cases b with
 |true=>exact⟨rfl,h⟩| false=>cases h
def Ar{α:Type}{x:Option α}{r:α}(h:cc b none x=some r):b=false/\x=some r:=by
 cases b with
 |false=>exact⟨rfl,h⟩| true=>cases h
def bk.Ih(x:Option α)(l r:bk α)(k:Nat):(bk.node x l r).get k=bif Nat.beq k 0 then x else bif Nat.beq (k%2) 1 then l.get (k/2)else r.get (k/2-1):=by show cc _ _ (cc _ _ _)=_;rw[kO,kO];rfl
def bk.pk(v:Option α):∀ (t:bk α) (k:Nat),∃ be:bk α,(∀ {R:Type} (K:bk α->R),t.n3 v k K=K be)/\∀ j x,be.get j=some x->(j=k/\v=some x)\/(j≠k/\t.get j=some x)
 | .nil,k=>by
  cases af:Nat.beq k 0 with
  |true=>
   have:=ei af;subst this;refine⟨.node v .nil .nil,λK=>rfl,λj x h=>?_⟩;rw[bk.Ih]at h;cases ai:Nat.beq j 0 with
   |true=>rw[ai]at h;exact .inl ⟨ei ai,h⟩
   |false=>
    rw[ai]at h;cases hm:Nat.beq (j%2) 1<;>(rw[hm]at h;cases h)
  |false=>refine⟨.nil,λK=>?_,λj x h=>ci⟩;show cc _ _ _=_;rw[kO,af];rfl
 | .node x l r,k=>by
  cases af:Nat.beq k 0 with
  |true=>
   have:=ei af;subst this;refine⟨.node v l r,λK=>rfl,λj y h=>?_⟩;rw[bk.Ih]at h |-;cases ai:Nat.beq j 0 with
   |true=>rw[ai]at h;exact .inl ⟨ei ai,h⟩| false=>rw[ai]at h;exact .inr ⟨(λe=>by subst e;cases ai),h⟩
  |false=>
   have jH:k≠0:=λe=>by subst e;cases af
   cases hm:Nat.beq (k%2) 1 with
   |true=>
    have vi:=ei hm;obtain⟨e',aa,ab⟩:=bk.pk v l (k/2);refine⟨.node x e' r,λK=>?_,λj y h=>?_⟩;·show cc _ _ (cc _ _ _)=_;rw[kO,kO,af];show(bif Nat.beq (k%2) 1 then _ else _)=_;rw[hm];exact aa _
    ·rw[bk.Ih]at h |-;cases ai:Nat.beq j 0 with
     |true=>rw[ai]at h;exact .inr ⟨λe=>by have:=ei ai;omega,h⟩
     |false=>
      rw[ai]at h;have aln:j≠0:=λe=>by subst e;cases ai
      cases tZ:Nat.beq (j%2) 1 with
      |true=>
       have alo:=ei tZ;rw[tZ]at h;rcases ab _ _ h with⟨e,an⟩ | ⟨e,an⟩;·exact .inl ⟨Z,an⟩
       ·exact .inr ⟨λcY=>e (by rw[cY]),an⟩
      |false=>rw[tZ]at h;exact .inr ⟨(λe=>by subst e;rw[hm]at tZ;cases tZ),h⟩
   |false=>
    have vi:k%2≠1:=λe=>by rw[e]at hm;cases hm
    obtain⟨GG,aa,ab⟩:=bk.pk v r (k/2-1);refine⟨.node x l GG,λK=>?_,λj y h=>?_⟩;·show cc _ _ (cc _ _ _)=_;rw[kO,kO,af];show(bif Nat.beq (k%2) 1 then _ else _)=_;rw[hm];exact aa _
    ·rw[bk.Ih]at h |-;cases ai:Nat.beq j 0 with
     |true=>rw[ai]at h;exact .inr ⟨λe=>by have:=ei ai;omega,h⟩
     |false=>
      rw[ai]at h;have aln:j≠0:=λe=>by subst e;cases ai
      cases tZ:Nat.beq (j%2) 1 with
      |true=>rw[tZ]at h;exact .inr ⟨(λe=>by subst e;rw[hm]at tZ;cases tZ),h⟩
      |false=>
       have alo:j%2≠1:=λe=>by rw[e]at tZ;cases tZ
       rw[tZ]at h;rcases ab _ _ h with⟨e,an⟩ | ⟨e,an⟩;·exact .inl ⟨Z,an⟩
       ·exact .inr ⟨λcY=>e (by rw[cY]),an⟩
def bk.E9(t:bk α):∀ (n off:Nat) (K:List α->Option R) (r:R),t.EV off n K=some r->∃ l,l.length=n/\(∀ i,i<n->t.get (off+i)=l[i]?)/\K l=some r
 |0,off,K,r,h=>⟨[],rfl,λi hi=>Z,h⟩
 |n+1,off,K,r,h=>by
  have bu:bw (t.get off) none (λv=>t.EV (off+1) n λl=>K (v::l))=some r:=h;obtain⟨v,an,bu⟩:=cB bu;obtain⟨l,aa,ab,al⟩:=bk.E9 t n (off+1) _ r bu;refine⟨v::l,ayP,λi hi=>?_,al⟩;cases i with
  |zero=>simpa using an| succ i=>have:=ab i Z;rw[show off+(i+1)=off+1+i by omega,this];simp
def bk.yA:∀ (l:List α) (t:bk α) (off:Nat),∃ be:bk α,(∀ {R:Type} (K:bk α->R),bk.yt l t off K=K be) /\ ∀ j x,be.get j=some x->(off<=j/\l[j-off]?=some x)\/((j<off\/off+l.length<=j)/\t.get j=some x)
 |[],t,off=>⟨t,λK=>rfl,λj x h=>.inr ⟨d7,h⟩⟩
 |v::l,t,off=>by
  obtain⟨t1,aa,ab⟩:=bk.pk (some v) t off;obtain⟨t2,al,aL⟩:=bk.yA l t1 (off+1);refine⟨t2,λK=>(aa _).trans (al K),λj x h=>?_⟩;rcases aL j x h with⟨bb,bh⟩ | ⟨bb,bh⟩;·exact .inl ⟨Z,by rw[show j-off=(j-(off+1))+1 by omega];simpa using bh⟩
  ·rcases ab j x bh with⟨rfl,e⟩ | ⟨e,b2⟩
   ·exact .inl ⟨cf _,by simp at e;simp[e]⟩
   ·exact .inr ⟨by simp only[ey];omega,b2⟩
end
def RH(n:Nat)(K:Nat->R):rR n K=K n:=rfl
def alp(n:Int)(K:Int->R):ZI n K=K n:=by cases n<;>rfl
def alq(b:Bool)(K:Bool->R):ZJ b K=K b:=by cases b<;>rfl
def alr(v:av)(K:av->R):Rn v K=K v:=by
 cases v with
 |b x=>exact alq x λx=>K (.b x)
 |i k n=>exact alp n λn=>K (.i k n)
 |_=>rfl
def RI(a b:Nat):Nat.beq a b=decide (a=b):=by
 by_cases h:a=b
 ·subst h;simp
 ·rw[hT h];simp[h]
def LS(a b:Nat):Nat.ble a b=decide (a<=b):=by
 by_cases h:a<=b
 ·rw[EQ h];simp[h]
 ·cases ah:Nat.ble a b with
  |false=>simp[h]| true=>exact absurd (bJ ah) h
def CO(a b:Int):sU a b=decide (a=b):=by
 cases a<;>cases b<;>simp only[sU,RI]<;>simp
 omega
def LU(a b:Int):CE a b=decide (a<=b):=by
 cases a<;>cases b<;>simp only[CE]
 ·rw[LS];simp only[Ei];exact Int.ofNat_le.symm
 ·symm;simp only[pN];rename_i a b;have:=Int.negSucc_lt_zero b;have:(0:Int)<=Int.ofNat a:=ER a;omega
 ·symm;simp only[gN];rename_i a b;have:=Int.negSucc_lt_zero a;have:(0:Int)<=Int.ofNat b:=ER b;omega
 ·rw[LS];simp only[Ei,Int.negSucc_eq];omega
def als(a b:Int):DM a b=decide (a<b):=by
 unfold DM;rw[LU];by_cases h:a<b
 ·simp[h]
 ·simp[h];omega
def alt(op:BinOp)(x y:Int):Q4 op x y=Of op x y:=by cases op<;>simp only[Q4,Of,CO,als,LU]
def As(k:IntKind)(n:Int):w2 k n=k.wrap n:=by
 cases n with
 |negSucc n=>rfl
 |ofNat n=>
  simp only[w2];cases h:Nat.ble n (LB k)with
  |false=>rfl
  |true=>
   have bu:=bJ h;simp only[cD];cases k<;>simp only[LB]at bu<;>simp only[IntKind.wrap,IntKind.signed,IntKind.bits]<;>simp<;>omega
def alu(a b:Int):Zi a b=a+b:=by cases a<;>cases b<;>rfl
def alv(a b:Int):Q5 a b=a-b:=by
 cases a<;>cases b<;>try rfl
 rename_i a b;simp only[Q5];cases h:Nat.ble b a with
 |false=>rfl| true=>have:=bJ h;show((a-b:Nat):Int)=(a:Int)-b;omega
def alw(a b:Int):Zj a b=a*b:=by cases a<;>cases b<;>rfl
def alx(a b:Int):Zk a b=a.tdiv b:=by cases a<;>cases b<;>rfl
def aly(a b:Int):Zl a b=a.tmod b:=by cases a<;>cases b<;>rfl
def alz(a:Int)(j:Nat):Zm a j=a*2^j:=by
 cases a with
 |negSucc a=>rfl| ofNat a=>show((a*2^j:Nat):Int)=(a:Int)*2^j;simp
def alA(a:Int)(j:Nat):Zn a j=a.fdiv (2^j):=by
 cases a with
 |negSucc a=>rfl| ofNat a=>show((a/2^j:Nat):Int)=(a:Int).fdiv (2^j);rw[show(2:Int)^j=((2^j:Nat):Int) by simp];rw[Kv _ (ER _)];simp
def Z5(j b:Nat):(bif Nat.ble j b then j else b)=min j b:=by
 rw[LS];by_cases h:j<=b
 ·simp[h,pE h]
 ·simp[h];omega
def At{a:Nat}(h:a<=18446744073709551615):(BitVec.ofInt IntKind.u64.bits (Int.ofNat a)).toNat=a:=by show(BitVec.ofInt 64 (a:Int)).toNat=a;rw[BitVec.ofInt_natCast,Co];omega
def wrap64{a:Nat}(h:a<=18446744073709551615):IntKind.u64.wrap (a:Int)=Int.ofNat a:=by show IntKind.u64.wrap (.ofNat a)=_;rw[<-As];simp only[w2,LB,EQ h,cD]
def LV{op:BinOp}{k:IntKind}{x y r:Int}(h:EX op k x y=some r):Bl op k x y=some r:=by
 unfold EX at h;split at h
 ·rename_i a b;cases ar:(Nat.ble a 18446744073709551615&&Nat.ble b 18446744073709551615)with
  |false=>rw[ar]at h;cases h
  |true=>
   rw[ar]at h;rw[cH]at ar;have a8:=bJ ar.1;have ah:=bJ ar.2;have EM:a<2^64:=by omega
   have LW:b<2^64:=by omega
   simp only[cD]at h;split at h;·rw[<-h];simp only[Bl,Ky,At a8,At ah];rw[wrap64 (by have:=Nat.and_lt_two_pow a LW;omega)];rfl
   ·rw[<-h];simp only[Bl,BitVec.toNat_or,At a8,At ah];rw[wrap64 (by have:=Nat.or_lt_two_pow EM LW;omega)];rfl
   ·rw[<-h];simp only[Bl,BitVec.toNat_xor,At a8,At ah];rw[wrap64 (by have:=Nat.xor_lt_two_pow EM LW;omega)];rfl
   ·rw[<-h];have aE:(~~~(BitVec.ofInt IntKind.u64.bits (Int.ofNat b))).toNat=18446744073709551615-b:=by rw[BitVec.toNat_not,At ah];rfl
    simp only[Bl,Ky,At a8,aE];rw[wrap64 (by have:=Nat.and_lt_two_pow a (show 18446744073709551615-b<2^64 by omega);omega)];rfl
   ·cases h
 ·exact h
def alB(a b:UInt8):Q6 a b=decide (a=b):=by unfold Q6;rw[RI];simp only[Ei];exact UInt8.toNat_inj
def E':∀ (l m:List UInt8),vk l m=decide (l=m)
 |[],[]=>by simp[vk]
 |[],_::_=>by simp[vk]
 |_::_,[]=>by simp[vk]
 |a::l,b::m=>by
  simp only[vk,alB,E' l m];by_cases h:a=b;·subst h;simp
  ·simp[h]
def Au{α:Type}:∀ (l:List α) (n:Nat),w3 l n=l[n]?
 |[],n=>by simp[w3]
 |v::l,n=>by
  unfold w3;cases n with
  |zero=>rfl| succ n=>exact(Au l n).trans am
def Ii{α:Type}:∀ (l:List α) (n:Nat),CG l n=l.drop n
 |[],n=>by simp[CG]
 |v::l,n=>by
  unfold CG;cases n with
  |zero=>rfl| succ n=>exact(Ii l n).trans am
def Z6{n:Nat}{l r:List av}(h:CF n l=some r):r=l.take n/\r.length=n:=by
 induction n generalizing l r with
 |zero=>simp[CF]at h;subst h;simp
 |succ n aX=>
  cases l with
  |nil=>simp[CF]at h
  |cons v l=>
   simp only[CF]at h;split at h;·rename_i q aM;obtain⟨rfl,ab⟩:=aX aM;cases h;simp at ab |-;omega
   ·cases h
structure Loc where
 b:Nat
 o:Nat
 c:Nat
abbrev bU:=Nat->Option Loc
def bU.le(D bE:bU):Prop:=∀ i a,D i=some a->bE i=some a
mutual
def aY(D:bU):av->Value->Prop
 | .b x,u=>u=.bool x| .i k n,u=>u=.int k n| .s l,u=>u=.string ⟨l.toArray⟩| .pn,u=>u=.pointer none| .p id off,u=>∃ a,D id=some a/\u=.pointer (some ⟨a.b,a.o+off,none⟩)| .g n off,u=>u=.pointer (some ⟨n,off,none⟩)| .sn,u=>u=.slice none 0 0| .sl id off n c,u=>∃ a,D id=some a/\u=.slice (some ⟨a.b,a.o+off,none⟩) n c| .sx id off e n,u=>∃ a,D id=some a/\e+n<=a.c/\u=.slice (some ⟨a.b,a.o+off,none⟩) n (a.c-e)| .gs n off k c,u=>u=.slice (some ⟨n,off,none⟩) k c| .so,u=>∃ a c,u=.slice (some a) 0 c| .mn,u=>u=.map none| .m id,u=>∃ a,D id=some a/\u=.map (some a.b)| .f g l r,u=>∃ vs ws,bQ D l vs/\bQ D r ws/\u=.func (.func g) vs.toArray ws.toArray| .y id,u=>∃ a,D id=some a/\u=.func (.yield a.b) #[] #[]| .fn,u=>u=.nilFunc| .ni,u=>u=.nilIface| .H2 t v,u=>∃ x,aY D v x/\u=.iface t x| .t l,u=>∃ vs,bQ D l vs/\u=.tuple vs.toArray| .a l,u=>∃ vs,bQ D l vs/\u=.agg vs.toArray
def bQ(D:bU):List av->List Value->Prop
 |[],us=>us=[]| v::l,us=>∃ x xs,aY D v x/\bQ D l xs/\us=x::xs
end
section
variable{D bE:bU}
mutual
def aY.mono(h:D.le bE):∀ {v:av} {u:Value},aY D v u->aY bE v u
 | .b _,_,an | .i _ _,_,an | .s _,_,an | .pn,_,an | .g _ _,_,an | .sn,_,an | .gs ..,_,an | .so,_,an | .mn,_,an | .fn,_,an | .ni,_,an=>by simpa only[aY]using an
 | .p ..,_,an | .sl ..,_,an | .m _,_,an | .y _,_,an=>by simp only[aY]at an |-;obtain⟨a,aa,ab⟩:=an;exact⟨a,h _ _ aa,ab⟩
 | .sx ..,_,an=>by simp only[aY]at an |-;obtain⟨a,aa,ab⟩:=an;exact⟨a,h _ _ aa,ab⟩
 | .f _ l r,_,an=>by simp only[aY]at an |-;obtain⟨vs,ws,aa,ab,al⟩:=an;exact⟨vs,ws,bQ.mono h aa,bQ.mono h ab,al⟩
 | .H2 _ v,_,an=>by simp only[aY]at an |-;obtain⟨x,aa,ab⟩:=an;exact⟨x,aY.mono h aa,ab⟩
 | .t l,_,an=>by simp only[aY]at an |-;obtain⟨x,aa,ab⟩:=an;exact⟨x,bQ.mono h aa,ab⟩
 | .a l,_,an=>by simp only[aY]at an |-;obtain⟨x,aa,ab⟩:=an;exact⟨x,bQ.mono h aa,ab⟩
def bQ.mono(h:D.le bE):∀ {l:List av} {us:List Value},bQ D l us->bQ bE l us
 |[],_,an=>by simpa only[bQ]using an
 |v::l,_,an=>by simp only[bQ]at an |-;obtain⟨x,xs,aa,ab,al⟩:=an;exact⟨x,xs,aY.mono h aa,bQ.mono h ab,al⟩
end
def bQ.nil:bQ D [] []:=by simp[bQ]
def bQ.cons{v:av}{l:List av}{x:Value}{xs:List Value}(h:aY D v x)(k:bQ D l xs):bQ D (v::l) (x::xs):=by simp only[bQ];exact⟨x,xs,h,k,rfl⟩
def bQ.kP{v:av}{l:List av}{us:List Value}(h:bQ D (v::l) us):∃ x xs,aY D v x/\bQ D l xs/\us=x::xs:=by simpa only[bQ]using h
def bQ.n4{us:List Value}(h:bQ D [] us):us=[]:=by simpa only[bQ]using h
def bQ.len:∀ {l:List av} {us:List Value},bQ D l us->us.length=l.length
 |[],_,h=>by rw[h.n4];rfl
 |v::l,_,h=>by obtain⟨x,xs,aa,ab,rfl⟩:=h.kP;simp[bQ.len ab]
def bQ.get:∀ {l:List av} {us:List Value} {i:Nat} {v:av},bQ D l us->l[i]?=some v->∃ x,us[i]?=some x/\aY D v x
 |[],_,i,v,h,hi=>by simp at hi
 |w::l,_,i,v,h,hi=>by
  obtain⟨x,xs,aa,ab,rfl⟩:=h.kP;cases i with
  |zero=>simp at hi;subst hi;exact⟨x,rfl,aa⟩| succ i=>simpa using bQ.get ab i7
def bQ.Ij:∀ {l:List av} {us:List Value},us.length=l.length->(∀ (i:Nat) (v:av),l[i]?=some v->∃ x,us[i]?=some x/\aY D v x)->bQ D l us
 |[],us,ay,h=>by have:us=[]:=iB rt;subst this;exact .nil
 |w::l,us,ay,h=>by
  cases us with
  |nil=>simp at ay| cons x xs=>obtain⟨y,aF,aa⟩:=h 0 w rfl;simp at aF;subst aF;exact .cons aa (bQ.Ij rt λi v hi=>by simpa using h (i+1) v i7)
def bQ.append:∀ {l:List av} {us:List Value} {m:List av} {ws:List Value},bQ D l us->bQ D m ws->bQ D (l++m) (us++ws)
 |[],_,m,ws,h,k=>by rw[h.n4];exact k
 |w::l,_,m,ws,h,k=>by obtain⟨x,xs,aa,ab,rfl⟩:=h.kP;exact .cons aa (bQ.append ab k)
def bQ.take:∀ {l:List av} {us:List Value} (n:Nat),bQ D l us->bQ D (l.take n) (us.take n)
 |[],_,n,h=>by rw[h.n4];simpa using bQ.nil
 |w::l,_,n,h=>by
  obtain⟨x,xs,aa,ab,rfl⟩:=h.kP;cases n with
  |zero=>simpa using bQ.nil| succ n=>simpa using bQ.cons aa (bQ.take n ab)
def bQ.drop:∀ {l:List av} {us:List Value} (n:Nat),bQ D l us->bQ D (l.drop n) (us.drop n)
 |[],_,n,h=>by rw[h.n4];simpa using bQ.nil
 |w::l,us,n,h=>by
  cases n with
  |zero=>simpa using h| succ n=>obtain⟨x,xs,aa,ab,rfl⟩:=h.kP;simpa using bQ.drop n ab
def bQ.Hg{l:List av}{us:List Value}(h:bQ D l us):∀ n,bQ D (CK n l) ((List.replicate n us).flatten)
 |0=>by simpa[CK]using bQ.nil
 |n+1=>by rw[P',Px];exact h.append (bQ.Hg h n)
def aY.bool{x:Bool}{u:Value}(h:aY D (.b x) u):u=.bool x:=by simpa only[aY]using h
def aY.int{k:IntKind}{n:Int}{u:Value}(h:aY D (.i k n) u):u=.int k n:=by simpa only[aY]using h
def aY.str{l:List UInt8}{u:Value}(h:aY D (.s l) u):u=.string ⟨l.toArray⟩:=by simpa only[aY]using h
def aY.ptr{id off:Nat}{u:Value}(h:aY D (.p id off) u):∃ a,D id=some a/\u=.pointer (some ⟨a.b,a.o+off,none⟩):=by simpa only[aY]using h
def aY.qO{id off:Nat}{u:Value}(h:aY D (.g id off) u):u=.pointer (some ⟨id,off,none⟩):=by simpa only[aY]using h
def aY.sW{id off n c:Nat}{u:Value}(h:aY D (.sl id off n c) u):∃ a,D id=some a/\u=.slice (some ⟨a.b,a.o+off,none⟩) n c:=by simpa only[aY]using h
def aY.vo{id off e n:Nat}{u:Value}(h:aY D (.sx id off e n) u):∃ a,D id=some a/\e+n<=a.c/\u=.slice (some ⟨a.b,a.o+off,none⟩) n (a.c-e):=by simpa only[aY]using h
def aY.RJ{id off n c:Nat}{u:Value}(h:aY D (.gs id off n c) u):u=.slice (some ⟨id,off,none⟩) n c:=by simpa only[aY]using h
def aY.LX{u:Value}(h:aY D .so u):∃ a c,u=.slice (some a) 0 c:=by simpa only[aY]using h
def aY.CP{u:Value}(h:aY D .sn u):u=.slice none 0 0:=by simpa only[aY]using h
def aY.agg{l:List av}{u:Value}(h:aY D (.a l) u):∃ vs,bQ D l vs/\u=.agg vs.toArray:=by simpa only[aY]using h
def aY.RK{l:List av}{u:Value}(h:aY D (.t l) u):∃ vs,bQ D l vs/\u=.tuple vs.toArray:=by simpa only[aY]using h
def aY.LY{l:List av}(h:bQ D l vs):aY D (.a l) (.agg vs.toArray):=by simp only[aY];exact⟨vs,h,rfl⟩
def aY.LZ{l:List av}(h:bQ D l vs):aY D (.t l) (.tuple vs.toArray):=by simp only[aY];exact⟨vs,h,rfl⟩
def aY.undef:aY D (.t []) undef:=by simp only[aY];exact⟨[],.nil,rfl⟩
def aY.cells{v:av}{u:Value}(h:aY D v u):bQ D v.cells u.cells.toList:=by
 cases v<;>simp only[av.cells]
 case a l=>obtain⟨vs,aa,rfl⟩:=h.agg;simpa[Value.cells]using aa
 all_goals
  have key:∀ w:Value,(∀ cs,w≠.agg cs)->w.cells.toList=[w]:=λw hw=>by cases w<;>first | rfl | exact(hw _ rfl).elim
  rw[key u ?_];·exact .cons h .nil
  ·rintro cs rfl;simp[aY]at h
def aY.one{v:av}{u:Value}(h:aY D v u)(aG:v.one=true):u.oneCell'=true:=by
 cases v<;>simp only[av.one,lX]at aG<;>simp only[aY]at h
 all_goals first
  |(subst h;rfl)|(obtain⟨_,_,rfl⟩:=h;rfl)|(obtain⟨_,_,_,rfl⟩:=h;rfl)|(obtain⟨_,_,_,_,rfl⟩:=h;rfl)
def bQ.one{l:List av}{us:List Value}(h:bQ D l us)(aG:l.all av.one=true):fG us=true:=by refine fV.2 λx ae=>?_;obtain⟨i,hi⟩:=Lz ae;have aV:=(jd.1 hi).1;rw[h.len]at aV;obtain⟨y,aF,an⟩:=h.get (du aV);rw[hi]at aF;cases aF;exact an.one (fV.1 aG _ (bD aV))
def aY.Z7{u:Value}{v:av}(h:H3 u=some v):aY D v u:=by
 unfold H3 at h;split at h<;>cases h<;>simp[aY]
def bQ.Fa:∀ {us:List Value} {l:List av},yu us=some l->bQ D l us
 |[],l,h=>by simp only[yu]at h;cases h;exact .nil
 |u::us,l,h=>by
  simp only[yu]at h;split at h;·rename_i x m aa ab;cases h;exact .cons (.Z7 aa) (bQ.Fa ab)
  ·cases h
def aY.of{u:Value}{v:av}(h:EW u=some v):aY D v u:=by
 unfold EW at h;split at h
 ·split at h
  ·rename_i l ay;cases h;have:=bQ.Fa (D:=D) ay;simpa using aY.LY this
  ·cases h
 ·exact .Z7 h
def L0{agg:Bool}{l:List av}{v:av}(h:EZ agg l=some v)(ay:bQ D l vs):aY D v (pack agg vs):=by
 unfold EZ at h;cases agg with
 |true=>simp only[cD]at h;cases h;exact .LY ay
 |false=>
  simp only[cw]at h;split at h;·cases h;obtain⟨x,xs,aa,ab,rfl⟩:=ay.kP;rw[ab.n4];exact aa
  ·cases h
def RL:∀ {cs:List av} {off:Nat} {vs r:List av} {us xs:List Value},yw cs off vs=some r->bQ D cs us->bQ D vs xs->bQ D r (cp us off xs)/\off+xs.length<=us.length
 |cs,0,[],r,us,xs,h,ar,an=>by simp[yw]at h;subst h;rw[an.n4];exact⟨by simpa[cp]using ar,am⟩
 |[],0,_::_,r,us,xs,h,ar,an=>by simp[yw]at h
 |[],_+1,_,r,us,xs,h,ar,an=>by simp[yw]at h
 |c::cs,0,v::vs,r,us,xs,h,ar,an=>by
  simp only[yw]at h;split at h
  ·rename_i q aM;cases h;obtain⟨x,us,aa,ab,rfl⟩:=ar.kP;obtain⟨y,xs,al,aL,rfl⟩:=an.kP;obtain⟨bB,cA⟩:=RL aM ab aL;refine⟨?_,by simp at cA |-;omega⟩;have e:cp (x::us) 0 (y::xs)=y::cp us 0 xs:=by simp[cp]
   rw[e];exact .cons al bB
  ·cases h
 |c::cs,n+1,vs,r,us,xs,h,ar,an=>by
  simp only[yw]at h;split at h
  ·rename_i q aM;cases h;obtain⟨x,us,aa,ab,rfl⟩:=ar.kP;obtain⟨bB,cA⟩:=RL aM ab an;refine⟨?_,d7⟩;have e:cp (x::us) (n+1) xs=x::cp us n xs:=by simp only[cp,rr,pP,wF,true_and];rw[show n+1+xs.length=(n+xs.length)+1 by omega,H0]
   rw[e];exact .cons aa bB
  ·cases h
inductive Ik(D:bU):List (Nat×av)->List (Nat×Value)->Prop
 |nil:Ik D [] []| cons {i v u l us} (h:aY D v u) (k:Ik D l us):Ik D ((i,v)::l) ((i,u)::us)
def L1{place:Nat->Option (Nat×Nat)}:∀ {vs:List (Nat×av)} {cells r:List av} {us:List Value} {xs:List (Nat×Value)},Ao place cells vs=some r->bQ D cells us->Ik D vs xs -> ∃ a',tb place us xs=some a'/\bQ D r a'
 |[],cells,r,us,_,h,ar,.nil=>by simp only[Ao]at h;cases h;exact⟨us,rfl,ar⟩
 |(i,v)::vs,cells,r,us,_,h,ar,.cons (u:=u) (us:=xs) an je=>by
  simp only[Ao]at h;split at h;·cases h
  ·rename_i off size aK;cases ah:Nat.beq v.cells.length size with
   |false=>rw[ah]at h;cases h
   |true=>
    rw[ah]at h;simp only[cD]at h;split at h
    ·rename_i cs l2;obtain⟨aa,ab⟩:=RL l2 ar an.cells;obtain⟨a',al,aL⟩:=L1 h aa je;refine⟨a',?_,aL⟩;have ay:u.cells.size=v.cells.length:=by simpa using an.cells.len
     simp only[tb,aK,ay,ah];rw[show Nat.ble (off+size) us.length=true by rw[LS,gN];have:=ei ah;simp at ab;omega];exact al
    ·cases h
end
def gG(D:bU)(x:dK)(v:av):Prop:=(∃ u,x=.val u/\aY D v u)\/∃ q,v=.b q/\x=.lit q
def gG.val{D:bU}{u:Value}{v:av}(h:aY D v u):gG D (.val u) v:=.inl ⟨u,rfl,h⟩
def gG.mono{D bE:bU}(dH:D.le bE){x:dK}{v:av}(h:gG D x v):gG bE x v:=by
 rcases h with⟨u,rfl,h⟩ | ⟨q,rfl,rfl⟩
 ·exact .val (h.mono dH)
 ·exact .inr ⟨q,rfl,rfl⟩
def qP(D:bU)(F:Fr)(ap:bk av):Prop:=∀ t v,ap.get t=some v->gG D (F t) v
def jx(D:bU)(F:Fr)(ap:bk av)(xs:List Operand):Prop:=∀ x∈xs,∀ v,dF ap x=some v->gG D (dG F x) v
def qP.op{D:bU}{F:Fr}{ap:bk av}(h:qP D F ap)(xs:List Operand):jx D F ap xs:=λx _ v an=>by
 cases x with
 |tmp t=>exact h t v an
 |const c=>
  have jS:EW c=some v:=an;cases c with
  |bool q=>
   have:v=.b q:=by simp[EW,H3]at jS;exact jS.symm
   exact .inr ⟨q,this,rfl⟩
  |_=>exact .val (.of jS)
 |global g=>
  have:v=.g g 0:=by simpa[dF]using an.symm
  subst this;exact .val (by simp[aY])
 |func f=>
  have:v=.f f [] []:=by simpa[dF]using an.symm
  subst this;exact .val (by simp only[aY];exact⟨[],[],.nil,.nil,rfl⟩)
section
variable{D:bU}{F:Fr}{ap:bk av}{xs:List Operand}
def gG.dL{v:av}(h:gG D (dG F x) v):∃ u,bI F x=.val u/\aY D v u:=by
 unfold bI Go.V.dL;rcases h with⟨u,h,an⟩ | ⟨q,rfl,h⟩
 ·rw[h];exact⟨u,rfl,an⟩
 ·rw[h];exact⟨.bool q,rfl,by simp[aY]⟩
def gG.w8{x:dK}{v:av}(h:gG D x v)(an:∀ q,v≠.b q):∃ u,x=.val u/\aY D v u:=by
 rcases h with h | ⟨q,h,_⟩
 ·exact h
 ·exact(an q h).elim
def jx.bI(h:jx D F ap xs)(ae:x∈xs){v:av}(an:dF ap x=some v):∃ u,bI F x=.val u/\aY D v u:=(h x ae v an).dL
def jx.mW(h:jx D F ap xs):∀ {l:List Operand} {vs:List av},(∀ x∈l,x∈xs)->ou ap l=some vs->∃ us,mW F l=some us/\bQ D vs us
 |[],vs,_,an=>by simp only[ou]at an;cases an;exact⟨[],rfl,.nil⟩
 |x::l,vs,ay,an=>by
  simp only[ou]at an;split at an;·rename_i v vs aa ab;cases an;obtain⟨u,aN,bb⟩:=h.bI (ay x am) aa;obtain⟨us,bc,bh⟩:=jx.mW h (λy aF=>ay y ayO) ab;refine⟨u::us,?_,.cons bb bh⟩;show j9 (dG F) (x::l)=_;rw[j9];have eA:dL (dG F) x=.val u:=aN;have q':j9 (dG F) l=some us:=bc;rw[eA,q']
  ·cases an
def jx.parts(h:jx D F ap xs):∀ {l:List (Nat×Operand)} {vs:List (Nat×av)},(∀ x∈l.map (·.2),x∈xs)->E0 ap l=some vs->∃ us,Bm F l=some us/\Ik D vs us
 |[],vs,_,an=>by simp only[E0]at an;cases an;exact⟨[],rfl,.nil⟩
 |(i,x)::l,vs,ay,an=>by
  simp only[E0]at an;split at an;·rename_i v vs aa ab;cases an;obtain⟨u,aN,bb⟩:=h.bI (ay x am) aa;obtain⟨us,bc,bh⟩:=jx.parts h (λy aF=>ay y (by simp only[ch,ez];exact .inr aF)) ab;refine⟨(i,u)::us,?_,.cons bb bh⟩;show tc (dG F) ((i,x)::l)=_;rw[tc];have eA:dL (dG F) x=.val u:=aN;have q':tc (dG F) l=some us:=bc;rw[eA,q']
  ·cases an
end
inductive qQ(D:bU):List (av×av)->List MapEntry->Prop
 |nil:qQ D [] []| cons {k v es e l} (af:aY D k e.key) (an:aY D v e.val) (t:qQ D es l):qQ D ((k,v)::es) (e::l)
def ie(n:Nat):Code->Bool
 | .seq x y=>ie n x&&ie n y| .block _ c=>ie n c| .cond _ x y=>ie n x&&ie n y| .loop c=>ie n c| .scope c=>ie n c| .region _ ops _=>wa n ops| .rangeFunc _ ps fu body=>ie n fu&&(ie n body&&ps.toList.all λt=>Nat.blt t n)| _=>true
structure Z8(D:bU)(busy:Bool)(n:Nat)(ap:bk av)(ps:List Nat)(fu body:Code)(L:Loop):Prop where
 a2:L.state=bif busy then .busy else .ready
 rj:L.pending=none
 sz:L.tmps.size=n
 ap:∀ t v,ap.get t=some v->aY D v (L.tmps.getD t undef)
 ps:L.params.toList=ps
 fu:L.assign=fu
 body:L.body=body
 uT:ie n L.assign=true
 nM:ie n L.body=true
 op:∀ t∈L.params.toList,t<n
inductive lR(D:bU)(E:Env)(M:List aD)(a:Loc):fD->Prop
 |cells{cs:bk av}{T fR:Nat}(arr:Array Value)(aG:a.o=0)(bd:(⟨a.b,.cells arr T (0,0)⟩:aD)∈M)(ay:a.o+fR<=arr.size)(ar:∀ i v,i<fR->cs.get i=some v->∃ x,arr[a.o+i]?=some x/\aY D v x)(af:∀ i,E T=some i->arr.size=a.o+a.c*i.size)(hm:a.c<=maxLen):lR D E M a (.cells cs T fR)| map {es:List (av×av)} (l:List MapEntry) (clock:Nat) (bd:(⟨a.b,.map l.toArray clock⟩:aD)∈M) (he:qQ D es l):lR D E M a (.map es)| loop {busy n ap ps fu body} (L:Loop) (bd:(⟨a.b,.loop L⟩:aD)∈M) (ca:Z8 D busy n ap ps fu body L):lR D E M a (.loop busy n ap ps fu body)| done {c n ap ps fu body} (L:Loop) (bd:(⟨a.b,.loop L⟩:aD)∈M) (aw:L.state=.done) (aK:L.pending=some c):lR D E M a (.done c n ap ps fu body)
def qQ.mono{D bE:bU}(dH:D.le bE){es:List (av×av)}{l:List MapEntry}(h:qQ D es l):qQ bE es l:=by
 induction h with
 |nil=>exact .nil| cons af an t aX=>exact .cons (af.mono dH) (an.mono dH) aX
def lR.mono{D bE:bU}{M':List aD}{a:Loc}(dH:D.le bE)(bd:∀ x∈M,x.num=a.b->x∈M'){e:fD}(h:lR D E M a e):lR bE E M' a e:=by
 cases h with
 |cells arr ax aa ab al aL bB=>exact .cells arr ax (bd _ aa rfl) ab (λi v hi az=>by obtain⟨x,bb,bh⟩:=al i v hi az;exact⟨x,bb,bh.mono dH⟩) aL bB| map l clock aa ab=>exact .map l clock (bd _ aa rfl) (ab.mono dH)| loop L aa ab=>exact .loop L (bd _ aa rfl) { ab with ap:=λt v au=>(ab.ap t v au).mono dH }| done L aa ab al=>exact .done L (bd _ aa rfl) ab al
def Il(G:GT)(I:aI):Prop:=∀ g cs,G g=some cs->∃ (arr:Array Value) (T:Nat) (f:Nat×Nat),I g=some (.cells arr T f)/\∀ i v,cs.get i=some v->∃ x,arr[i]?=some x/\∀ D,aY D v x
structure dq(Y:gX)(D:bU)(m:bx)(I:aI)(M:List aD):Prop where
 ja:∀ id e a,m.t.get id=some e->D id=some a->lR D Y.E M a e
 inj:∀ id jb e cY a bT,m.t.get id=some e->m.t.get jb=some cY->D id=some a->D jb=some bT->a.b=bT.b->id=jb
 j2:∀ id a,D id=some a->id<m.n
 qO:Il Y.G I
section
variable{Y:gX}{D:bU}{m:bx}{I:aI}{M:List aD}{R:Type}
def w9(h:dq Y D m I M){x:av}{u:Value}(ae:aY D x u){n:Nat}{K:List av->Option R}{r:R}(ag:tX Y.G m.t x n K=some r) :
  ∃ ad l vs,u=.pointer (some ad)/\cG I M ad n vs/\bQ D l vs/\K l=some r:=by
 have key:∀ (arr:Array Value) (da off:Nat) (l:List av),l.length=n->da+off+n<=arr.size->(∀ i,i<n->∀ v,l[i]?=some v->∃ x,arr[da+off+i]?=some x/\aY D v x) ->
   ((arr.toList.drop (da+off)).take n).length=n/\bQ D l ((arr.toList.drop (da+off)).take n):=by
  intro arr da off l ay dy az;have c0:((arr.toList.drop (da+off)).take n).length=n:=by simp;omega
  refine⟨c0,bQ.Ij (by rw[c0,ay]) λi v hi=>?_⟩;have fx:i<n:=by rw[<-ay];exact(jd.1 hi).1
  obtain⟨x,aa,ab⟩:=az i fx v hi;refine⟨x,?_,ab⟩;rw[lv,bY fx,nC];simpa using aa
 unfold tX at ag;split at ag
 ·rename_i id off;split at ag
  ·rename_i cs T fR az;cases ah:Nat.ble (Nat.add off n) fR with
   |false=>rw[ah]at ag;cases ag
   |true=>
    rw[ah]at ag;have g2:off+n<=fR:=bJ ah;simp only[cD]at ag;obtain⟨l,aa,ab,al⟩:=bk.E9 cs n off K r ag;obtain⟨a,a8,hu⟩:=ae.ptr;have he:=h.ja _ _ _ az a8;obtain⟨arr,-,bd,ay,ar,-,-⟩:=he;obtain⟨eW,c8⟩:=key arr a.o off l aa Z λi hi v an=>by have:=ar (off+i) v Z (by rw[ab i hi,an]);rw[<-uz]at this;exact this
    exact⟨_,l,_,hu,⟨rfl,arr,T,(0,0),.inr ⟨_,bd,rfl,rfl⟩,rfl,eW⟩,c8,al⟩
  ·cases ag
 ·rename_i g off;split at ag
  ·rename_i cs az;obtain⟨l,aa,ab,al⟩:=bk.E9 cs n off K r ag;obtain⟨arr,T,f,bG,ar⟩:=h.qO _ _ az;have hu:=ae.qO;have eG:∀ i,i<n->∀ v,l[i]?=some v->∃ x,arr[0+off+i]?=some x/\aY D v x:=λi hi v an=>by obtain⟨x,bb,bh⟩:=ar (off+i) v (by rw[ab i hi,an]);exact⟨x,by simpa using bb,bh D⟩
   by_cases aE:n=0;·subst aE;have:l=[]:=iB aa;subst this;exact⟨_,[],[],hu,⟨rfl,arr,T,f,.inl bG,am,rfl⟩,.nil,al⟩
   ·have dy:0+off+n<=arr.size:=by
     have aV:n-1<l.length:=by omega
     obtain⟨x,bb,_⟩:=eG (n-1) Z l[n-1] (du aV);have:=(lW.1 bb).1;omega
    obtain⟨eW,c8⟩:=key arr 0 off l aa dy eG;simp only[dg]at eW c8;exact⟨_,l,_,hu,⟨rfl,arr,T,f,.inl bG,rfl,eW⟩,c8,al⟩
  ·cases ag
 ·cases ag
end
def alC{k:IntKind}(h:IntKind.lZ k fI=true):k=fI:=IntKind.DN h
def L2(l m:List UInt8):decide ((⟨l.toArray⟩:ByteArray)=⟨m.toArray⟩)=decide (l=m):=by
 simp only[Ei];constructor
 ·intro h;simpa using h
 ·rintro rfl;rfl
def alD(a b:ByteArray):(a == b)=decide (a=b):=by
 rw[my];simp only[gN];constructor
 ·intro h
  first | exact eq_of_beq h | exact tr (eq_of_beq (a:=a.data) (b:=b.data) h)
 ·rintro rfl
  first | exact KU _ | exact KU a.data
section
variable{P:Program}{E:Env}{D:bU}
def L3(aQ:cX P E){o:Nat}{l:List av}{x:av}(h:An E t o l=some x){us:List Value}(ay:bQ D l us):∃ u,aY D x u/\∀ w,(part t us.toArray o).run P w=.ok u w:=by
 unfold An at h;obtain⟨i,aa,h⟩:=cB h;obtain⟨ax,h⟩:=Ar h;have jk:i.size≠0:=λe=>by rw[e]at ax;cases ax
 obtain⟨r,ab,h⟩:=cB h;obtain⟨aN,bc⟩:=Z6 ab;rw[Ii]at aN;have c0:=ay.len;subst aN;refine⟨_,L0 h ((ay.drop o).take _),λw=>?_⟩;have:=Ou (aQ _ _ aa) (cs:=us.toArray) (off:=o) (by rw[fF,oU]at bc;simp;omega) w;simpa using this
def RM{F:Nat->av->av->Option Bool}{l m:List av}{α β:Type}{pl:α->Nat×Nat}{g:α->β->Sem (ForInStep β)}{b0 s1:β}{w:World}:∀ (L:List α) {b:Bool},CH F E l m (L.map pl)=some b -> (∀ a∈L,∀ x y c,An E (pl a).1 (pl a).2 l=some x->An E (pl a).1 (pl a).2 m=some y->F (pl a).1 x y=some c->(g a b0).run P w=.ok (if c then .yield b0 else .done s1) w) -> (forIn L b0 g).run P w=.ok (if b then b0 else s1) w
 |[],b,h,_=>by cases h;simp[dn]
 |a::L,b,h,az=>by
  simp only[ch]at h;unfold CH at h;obtain⟨x,aa,h⟩:=cB h;obtain⟨y,ab,h⟩:=cB h;obtain⟨c,al,h⟩:=cB h;simp only[List.forIn_cons,cz];rw[az a am x y c aa ab al];rw[kO]at h;cases c with
  |true=>simp only[ta,cd];exact RM L h λbT a8=>az bT (by simp[a8])
  |false=>cases h;simp[cd,dn]
theorem RN(aQ:cX P E):∀ (d:Nat) {t:Nat} {x y:av} {b:Bool} {u v:Value},yv P E d t x y=some b->aY D x u->aY D y v->∀ n,d<=n->∀ w,(Op.equalIn n t u v).run P w=.ok b w
 |0,t,x,y,b,u,v,h,ae,aF,n,aE,w=>by cases h
 |d+1,t,x,y,b,u,v,h,ae,aF,0,aE,w=>by omega
 |d+1,t,x,y,b,u,v,h,ae,aF,n+1,aE,w=>by
  unfold yv at h;obtain⟨i,hi,h⟩:=cB h;obtain⟨qC,fQ,oP⟩:=(aQ _ _ hi).fA;rw[Op.equalIn];simp only[cz,run_underlying fQ,cd];split at h
  ·rename_i a bT aw _;cases h;have bb:qC=.bool:=by cases qC<;>simp_all[fz]
   subst bb;rw[ae.bool,aF.bool];rfl
  ·rename_i fI k a c8 bT aw _;obtain⟨aN,h⟩:=f' h;cases h;have bb:qC=.int fI:=by cases qC<;>simp_all[fz]
   subst bb;rw[ae.int,aF.int];rw[alC aN];have ah:(a == bT)=sU a bT:=by
    rw[CO];by_cases e:a=bT;·subst e;simp
    ·simp[e]
   simp[ah]
  ·rename_i a bT aw _;cases h;have bb:qC=.string:=by cases qC<;>simp_all[fz]
   subst bb;rw[ae.str,aF.str];show Result.ok _ _=_;rw[E',<-L2];congr 1;exact alD _ _
  ·rename_i dv l m aw _;obtain⟨aN,h⟩:=f' h;unfold Zp at aN;rw[fQ]at aN;cases qC with
   |struct fields=>
    simp only[cH,vX,fV,gN]at aN;obtain⟨aN,bc⟩:=aN;rw[aw]at oP;simp only[fz,Gq.struct.injEq]at oP;subst oP;obtain⟨us,aa,rfl⟩:=ae.agg;obtain⟨ws,ab,rfl⟩:=aF.agg;simp only[cz,run_program,cd,aN,lX,mV];rw[<-Array.forIn_toList];rw[RM (P:=P) (s1:=⟨some false,⟨⟩⟩) fields.toList h (λf aC x y c CQ iH ar=>by
     obtain⟨p,eW,c8⟩:=L3 aQ CQ aa;obtain⟨q,hJ,nQ⟩:=L3 aQ iH ab;have aM:=RN aQ d ar eW hJ n Z w;simp only[bc f aC,ta,ne_eq,not_false_eq_true,cz,c8,nQ,cd,aM];cases c<;>simp[dn])]
    cases b<;>simp[cd,dn]
   |_=>cases aN
  ·rename_i len e l m aw _;obtain⟨aH,hH,h⟩:=cB h;have bb:qC=.array len e:=by cases qC<;>simp_all[fz]
   subst bb;obtain⟨us,aa,rfl⟩:=ae.agg;obtain⟨ws,ab,rfl⟩:=aF.agg;simp only[cz,(aQ _ _ hH).run_sizeOf,cd,V1];have ag:List.range' 0 ([:len]:Std.Legacy.Range).size=List.range len:=by simp[Std.Legacy.Range.size,DI]
   rw[ag];rw[RM (P:=P) (s1:=⟨some false,⟨⟩⟩) (List.range len) h (λf aC x y c CQ iH ar=>by
    obtain⟨p,eW,c8⟩:=L3 aQ CQ aa;obtain⟨q,hJ,nQ⟩:=L3 aQ iH ab;have aM:=RN aQ d ar eW hJ n Z w;simp only[cz,c8,nQ,cd,aM];cases c<;>simp[dn])]
   cases b<;>simp[cd,dn]
  ·cases h
end
section
variable{X:c3}{D:bU}
def Z9(aQ:cX X.P X.E){op:BinOp}{l m:List av}{v:av}{us ws:List Value}{O:Prop}(h:H4 X.P X.E op t l m=some v)(ay:bQ D l us)(hm:bQ D m ws)(af:∀ u,aY D v u->K u) :
  fm X.P op t x y (.val (.agg us.toArray)) (.val (.agg ws.toArray)) K O:=by
 unfold H4 at h;obtain⟨az,h⟩:=Ar h;obtain⟨b,aa,h⟩:=cB h;have aM:=RN (D:=D) aQ 8 aa (u:=.agg us.toArray) (v:=.agg ws.toArray) (by simp only[aY];exact⟨us,ay,rfl⟩) (by simp only[aY];exact⟨ws,hm,rfl⟩) Op.maxDepth bv;split at h
 ·cases h;refine .mk _ _ _ rfl rfl (λw=>?_) (af _ pp);simp only[cz,run_eqGuard_agg (hm:=az),cd,binOp,Op.equal,aM,dn]
 ·cases h;refine .mk _ _ _ rfl rfl (λw=>?_) (af _ pp);simp only[cz,run_eqGuard_agg (hm:=az),cd,binOp,Op.equal,aM,dn]
 ·cases h
end
open Go Go.Proofs
def lj(x y:Int):Int:=IntKind.u64.wrap ((BitVec.ofInt 64 x ||| BitVec.ofInt 64 y).toNat:Int)
def t'(x y:BitVec 64):lj x.toNat y.toNat=((x ||| y).toNat:Int):=by unfold lj;rw[CC,CC,QN]
def alE(x y:a5):Nat->List Value
 |0=>[.int .u64 x.a.toNat,.int .u64 x.b.toNat,.int .u64 x.c.toNat,.int .u64 x.d.toNat]| 1=>[.int .u64 (lj x.a.toNat y.a.toNat),.int .u64 x.b.toNat,.int .u64 x.c.toNat,.int .u64 x.d.toNat]| 2=>[.int .u64 (lj x.a.toNat y.a.toNat),.int .u64 (lj x.b.toNat y.b.toNat),.int .u64 x.c.toNat,.int .u64 x.d.toNat]| 3=>[.int .u64 (lj x.a.toNat y.a.toNat),.int .u64 (lj x.b.toNat y.b.toNat),.int .u64 (lj x.c.toNat y.c.toNat),.int .u64 x.d.toNat]| _=>[.int .u64 (lj x.a.toNat y.a.toNat),.int .u64 (lj x.b.toNat y.b.toNat),.int .u64 (lj x.c.toNat y.c.toNat),.int .u64 (lj x.d.toNat y.d.toNat)]
def alF(x y:a5):Spec Tryz.prog 162 [x.val,y.val] I M λr I' M'=>r=(x.or y).val/\I'=I/\M'=M:=by
 refine bR [] aT Tryz.func162 rfl rfl rfl ?_;intro B ax;refine c2.inv (ι:=Nat) (λi=>{ bn:=[(2,.ref 2 0),(4,.ref 4 0),(7,.val y.val),(8,.val (.int .i64 i))],cl:=[(2,alE x y i),(4,a5.zero.cells)],cm:=I,cK:=M }) (λi=>i<=4) (λi=>4-i) ?_ ?_
 ·exact⟨0,am,.refl,dS,.cons rfl (.cons rfl .nil)⟩
 ·intro i hi
  match i,hi with
  |0,_=>refine aS.mk (λ_=>?_) (λh=>d5);refine cj.mk 0 rfl bv ?_;refine cj.mk 0 rfl bv ?_;refine cj.mk 0 rfl bv ?_;refine a3.mk 1 bv ?_;exact⟨1,⟨am,am⟩,.refl,dS,.cons rfl (.cons rfl .nil)⟩| 1,_=>refine aS.mk (λ_=>?_) (λh=>d5);refine cj.mk 1 rfl bv ?_;refine cj.mk 1 rfl bv ?_;refine cj.mk 1 rfl bv ?_;refine a3.mk 2 bv ?_;exact⟨2,⟨am,am⟩,.refl,dS,.cons rfl (.cons rfl .nil)⟩| 2,_=>refine aS.mk (λ_=>?_) (λh=>d5);refine cj.mk 2 rfl bv ?_;refine cj.mk 2 rfl bv ?_;refine cj.mk 2 rfl bv ?_;refine a3.mk 3 bv ?_;exact⟨3,⟨am,am⟩,.refl,dS,.cons rfl (.cons rfl .nil)⟩| 3,_=>refine aS.mk (λ_=>?_) (λh=>d5);refine cj.mk 3 rfl bv ?_;refine cj.mk 3 rfl bv ?_;refine cj.mk 3 rfl bv ?_;refine a3.mk 4 bv ?_;exact⟨4,⟨am,am⟩,.refl,dS,.cons rfl (.cons rfl .nil)⟩| 4,_=>refine aS.mk (λh=>d5) (λ_=>?_);refine⟨_,_,.refl,?_,rfl,rfl⟩;show Value.agg #[.int .u64 (lj x.a.toNat y.a.toNat),.int .u64 (lj x.b.toNat y.b.toNat),.int .u64 (lj x.c.toNat y.c.toNat),.int .u64 (lj x.d.toNat y.d.toNat)]=_;rw[t',t',t',t'];rfl
def po(x y:Int):Int:=IntKind.u64.wrap ((BitVec.ofInt 64 x &&& BitVec.ofInt 64 y).toNat:Int)
def Im(x y:BitVec 64):po x.toNat y.toNat=((x &&& y).toNat:Int):=by unfold po;rw[CC,CC,QN]
def alG(x y:a5):Nat->List Value
 |0=>[.int .u64 x.a.toNat,.int .u64 x.b.toNat,.int .u64 x.c.toNat,.int .u64 x.d.toNat]| 1=>[.int .u64 (po x.a.toNat y.a.toNat),.int .u64 x.b.toNat,.int .u64 x.c.toNat,.int .u64 x.d.toNat]| 2=>[.int .u64 (po x.a.toNat y.a.toNat),.int .u64 (po x.b.toNat y.b.toNat),.int .u64 x.c.toNat,.int .u64 x.d.toNat]| 3=>[.int .u64 (po x.a.toNat y.a.toNat),.int .u64 (po x.b.toNat y.b.toNat),.int .u64 (po x.c.toNat y.c.toNat),.int .u64 x.d.toNat]| _=>[.int .u64 (po x.a.toNat y.a.toNat),.int .u64 (po x.b.toNat y.b.toNat),.int .u64 (po x.c.toNat y.c.toNat),.int .u64 (po x.d.toNat y.d.toNat)]
def alH(x y:a5):Spec Tryz.prog 168 [x.val,y.val] I M λr I' M'=>r=(x.and y).val/\I'=I/\M'=M:=by
 refine bR [] aT Tryz.func168 rfl rfl rfl ?_;intro B ax;refine c2.inv (ι:=Nat) (λi=>{ bn:=[(2,.ref 2 0),(4,.ref 4 0),(7,.val y.val),(8,.val (.int .i64 i))],cl:=[(2,alG x y i),(4,a5.zero.cells)],cm:=I,cK:=M }) (λi=>i<=4) (λi=>4-i) ?_ ?_
 ·exact⟨0,am,.refl,dS,.cons rfl (.cons rfl .nil)⟩
 ·intro i hi
  match i,hi with
  |0,_=>refine aS.mk (λ_=>?_) (λh=>d5);refine cj.mk 0 rfl bv ?_;refine cj.mk 0 rfl bv ?_;refine cj.mk 0 rfl bv ?_;refine a3.mk 1 bv ?_;exact⟨1,⟨am,am⟩,.refl,dS,.cons rfl (.cons rfl .nil)⟩| 1,_=>refine aS.mk (λ_=>?_) (λh=>d5);refine cj.mk 1 rfl bv ?_;refine cj.mk 1 rfl bv ?_;refine cj.mk 1 rfl bv ?_;refine a3.mk 2 bv ?_;exact⟨2,⟨am,am⟩,.refl,dS,.cons rfl (.cons rfl .nil)⟩| 2,_=>refine aS.mk (λ_=>?_) (λh=>d5);refine cj.mk 2 rfl bv ?_;refine cj.mk 2 rfl bv ?_;refine cj.mk 2 rfl bv ?_;refine a3.mk 3 bv ?_;exact⟨3,⟨am,am⟩,.refl,dS,.cons rfl (.cons rfl .nil)⟩| 3,_=>refine aS.mk (λ_=>?_) (λh=>d5);refine cj.mk 3 rfl bv ?_;refine cj.mk 3 rfl bv ?_;refine cj.mk 3 rfl bv ?_;refine a3.mk 4 bv ?_;exact⟨4,⟨am,am⟩,.refl,dS,.cons rfl (.cons rfl .nil)⟩| 4,_=>refine aS.mk (λh=>d5) (λ_=>?_);refine⟨_,_,.refl,?_,rfl,rfl⟩;show Value.agg #[.int .u64 (po x.a.toNat y.a.toNat),.int .u64 (po x.b.toNat y.b.toNat),.int .u64 (po x.c.toNat y.c.toNat),.int .u64 (po x.d.toNat y.d.toNat)]=_;rw[Im,Im,Im,Im];rfl
def fm.RO{p q:a5}{V:Value->Prop}(h:V (.bool (decide (p=q)))) :
  fm Tryz.prog .eql 36 x y (.val (.agg #[.int .u64 p.a.toNat,.int .u64 p.b.toNat,.int .u64 p.c.toNat,.int .u64 p.d.toNat])) (.val (.agg #[.int .u64 q.a.toNat,.int .u64 q.b.toNat,.int .u64 q.c.toNat,.int .u64 q.d.toNat])) V other:=by
 refine fm.KF aT (e:=34) rfl rfl rfl rfl d4 ?_;rw[a5.lZ];exact h
def alI(x y:BitVec 64):sU (x.toNat:Int) (y.toNat:Int)=decide (x=y):=by rw[CO,<-EO,my];simp
def Fb(v:α)(x:R)(f:α->R):bw (some v) x f=f v:=rfl
def Z'(ba mid post:List Value)(k:Nat)(vs:List Value)(h:k+vs.length<=mid.length):cp (ba++(mid++post)) (ba.length+k) vs=ba++(cp mid k vs++post):=by
 unfold cp;have aa:(ba++(mid++post)).take (ba.length+k)=ba++mid.take k:=by rw[HH,Nat.add_sub_cancel_left,fE Z,BJ Z]
 have ab:(ba++(mid++post)).drop (ba.length+k+vs.length)=mid.drop (k+vs.length)++post:=by rw[uz,V2,Q0 h]
 rw[aa,ab];simp
def alJ(f:α->List Value)(size:Nat)(aC:∀ x,(f x).length=size)(l:List α)(i:Nat)(hi:i<l.length)(k:Nat)(vs:List Value)(af:k+vs.length<=size)(mD:α)(ae:cp (f l[i]) k vs=f mD) :
  cp (l.flatMap f) (i*size+k) vs=(l.set i mD).flatMap f:=by
 have e:l=l.take i++l[i]::l.drop (i+1):=by rw[<-e9 hi,pO]
 have aN:l.flatMap f=(l.take i).flatMap f++(f l[i]++(l.drop (i+1)).flatMap f):=by
  calc l.flatMap f=(l.take i++l[i]::l.drop (i+1)).flatMap f:=congrArg _ e
   _=_:=by rw[fL,iS]
 have bc:((l.take i).flatMap f).length=i*size:=by rw[gz f size aC,Ly Z]
 rw[aN,<-bc,Z' _ _ _ _ _ (by rw[aC];exact af),GQ,bY hi,fL,iS,ae]
def alK{m:Nat}(h:j+vs.length<=m)(hm:m<=aR.length):(cp aR j vs).take m=cp (aR.take m) j vs:=by
 unfold cp;have aa:(aR.take m).take j=aR.take j:=by rw[zC,pE Z]
 have ab:(aR.take m).drop (j+vs.length)=(aR.drop (j+vs.length)).take (m-(j+vs.length)):=by rw[D1]
 have al:(aR.take j).length=j:=by rw[fF];omega
 rw[aa,ab,ej,ej,HH,al,fE Z,HH,fE (by omega:vs.length<=m-j)];congr 3;omega
def aO.put(f:α->List Value)(size:Nat)(aC:∀ x,(f x).length=size){l:List α}{e:Nat}(h:os.ok size (l.flatMap f)){i:Nat}(hi:i<l.length)(k:Nat)(af:k+vs.length<=size)(aa:fG vs=true)(mD:α)(ae:cp (f l[i]) k vs=f mD)(ba post:List aD)(bd:M=ba++(os.aq e++post))(az:os.a=some g)(alL:off=i*size+k){K:List aD->Prop}
  (gw:∀ (br:aO),br.val=os.val->br.a=os.a->br.n=os.n->br.ok size ((l.set i mD).flatMap f)->K (ba++(br.aq e++post))):b' M ⟨g,off,none⟩ vs K:=by
 have Br:=h.len;rw[gz f size aC]at Br;obtain⟨a,n,c,aR⟩:=os;have ay:l.length*size=n*size:=Br;simp only at az;subst az;obtain⟨ee,eO,eS,jq⟩:=h.cap g rfl;simp only at ee eO eS jq;have ah:n*size<=c*size:=oJ _ eO;have hs:i*size+size<=l.length*size:=by have:=oJ size (show i+1<=l.length from hi);rwa [kD,m6]at this
 subst bd;subst alL;refine b'.mk ba post aR.toArray e rfl rfl ?_ aa ?_
 ·simp only[q6];omega
 ·have:=gw ⟨some g,n,c,cp aR (i*size+k) vs⟩ rfl rfl rfl ⟨?_,(λh=>ci),λet az=>?_⟩
  ·simpa[aO.aq]using this
  ·rw[gz f size aC,rL];exact ay
  ·cases az;refine⟨?_,eO,eS,?_⟩
   ·simp only[cp,ct,fF,oU];omega
   ·simp only;rw[alK Z Z,jq,alJ f size aC l i hi k vs af mD ae]
def alM(l:List Value)(k:Nat)(v:Value)(h:k<l.length):cp l k [v]=l.set k v:=by rw[GQ,bY h];simp[cp]
def aO.Io(f:α->List Value)(size:Nat)(aC:∀ x,(f x).length=size){l:List α}{e:Nat}(h:os.ok size (l.flatMap f)){i:Nat}(hi:i<l.length)(mD:α)(aa:fG (f mD)=true)(ba post:List aD)(bd:M=ba++(os.aq e++post))(bt:(os.a.map λg=>(⟨g,0,none⟩:Addr))=some ad){K:List aD->Prop}
  (gw:∀ (br:aO),br.val=os.val->br.a=os.a->br.n=os.n->br.ok size ((l.set i mD).flatMap f)->K (ba++(br.aq e++post))):b' M (ad.add (i*size)) (f mD) K:=by
 obtain⟨g,az,rfl⟩:∃ g,os.a=some g/\ad=⟨g,0,none⟩:=by
  cases a8:os.a with
  |none=>rw[a8]at bt;cases bt| some g=>rw[a8]at bt;cases bt;exact⟨g,rfl,rfl⟩
 rw[eK (⟨g,0,none⟩:Addr) rfl];refine aO.put f size aC h hi 0 (vs:=f mD) (by rw[aC];omega) aa mD ?_ ba post bd az am gw;unfold cp;simp[aC]
def aO.CR(f:α->List Value)(size:Nat)(aC:∀ x,(f x).length=size){l:List α}{e:Nat}(h:os.ok size (l.flatMap f)){i:Nat}(hi:i<l.length)(k:Nat)(af:k+vs.length<=size)(aa:fG vs=true)(mD:α)(ae:cp (f l[i]) k vs=f mD)(ba post:List aD)(bd:M=ba++(os.aq e++post))(bt:(os.a.map λg=>(⟨g,0,none⟩:Addr))=some ad){K:List aD->Prop}
  (gw:∀ (br:aO),br.val=os.val->br.a=os.a->br.n=os.n->br.ok size ((l.set i mD).flatMap f)->K (ba++(br.aq e++post))):b' M ((ad.add (i*size)).add k) vs K:=by
 obtain⟨g,az,rfl⟩:∃ g,os.a=some g/\ad=⟨g,0,none⟩:=by
  cases a8:os.a with
  |none=>rw[a8]at bt;cases bt| some g=>rw[a8]at bt;cases bt;exact⟨g,rfl,rfl⟩
 rw[eK (⟨g,0,none⟩:Addr) rfl,eK _ rfl];exact aO.put f size aC h hi k af aa mD ae ba post bd az am gw
def aaa(n:Nat)(aE:n<64):Spec Tryz.prog 239 [.int .i64 n] I [] λv I' M'=>v=.int .u64 ((2^n:Nat):Int)/\I'=I/\M'=[]:=by
 refine bR [] aT Tryz.func239 rfl rfl rfl ?_;intro B ax;refine c2.inv (ι:=Nat) (λi=>{ bn:=[(0,.val (.int .i64 n)),(3,.val (.int .u64 ((2^i:Nat):Int))),(4,.val (.int .i64 i))],cm:=I }) (λi=>i<=n) (λi=>n-i) ?_ ?_
 ·exact⟨0,dh _,.refl,e2,.nil⟩
 intro i hi;refine aS.mk (λh=>?_) (λh=>?_)
 ·have aV:i<n:=by simpa using h
  have aK:2^(i+1)<=2^63:=Nat.pow_le_pow_right Z Z;have e:((2^i:Nat):Int)*2=((2^(i+1):Nat):Int):=by rw[Nat.pow_succ];simp
  refine a3.mk ((2^(i+1):Nat):Int) (by rw[e];exact KP ⟨ER _,Z⟩) ?_;refine a3.mk _ (cC (i:=i) Z) ?_;exact⟨i+1,⟨aV,Z⟩,.refl,e2,.nil⟩
 ·have:i=n:=by simp at h;omega
  subst this;exact⟨_,_,.refl,rfl,rfl,rfl⟩
def Ip(ws:List Int)(n:Nat):Bool:=(ws.getD (n/64) 0).toNat.testBit (n%64)
def alN{w:Int}(hw:eC w)(k:Nat):decide ((w.tdiv ((2^k:Nat):Int)).tmod 2=1)=w.toNat.testBit k:=by obtain⟨n,rfl⟩:=dZ hw.1;rw[Zh];have e:((n:Int).tdiv ((2^k:Nat):Int)).tmod 2=((n/2^k%2:Nat):Int):=rfl;rw[e,h2];congr 1;simp only[eq_iff_iff];omega
def alO{a b c d:Int}(jo:∀ x∈[a,b,c,d],eC x)(x:UInt8):Spec Tryz.prog 169 [.agg #[.int .u64 a,.int .u64 b,.int .u64 c,.int .u64 d],.int .u8 x.toNat] I [] λv I' M'=>v=.bool (Ip [a,b,c,d] x.toNat)/\I'=I/\M'=[]:=by
 have ae:=x.toNat_lt;have key:∀ (w:Int) (j:Nat),x.toNat/64=j->[a,b,c,d].getD j 0=w->eC w->decide ((w.tdiv ((2^(x.toNat%64):Nat):Int)).tmod 2=1)=Ip [a,b,c,d] x.toNat:=λw j ai hw hu=>by rw[alN hu,Ip,ai,hw]
 have yB:=aaa (I:=I) (x.toNat%64) Z;have gD:(0:Int)<((2^(x.toNat%64):Nat):Int):=by have:=Nat.two_pow_pos (x.toNat%64);omega
 have em:((x.toNat:Int)).tmod 64=((x.toNat%64:Nat):Int):=rfl;have ht:((x.toNat:Int)).tdiv 64=((x.toNat/64:Nat):Int):=rfl;have hdiv:∀ w:Int,eC w->IntKind.u64.wrap (w.tdiv ((2^(x.toNat%64):Nat):Int))=w.tdiv ((2^(x.toNat%64):Nat):Int):=λw hw=>by obtain⟨n,rfl⟩:=dZ hw.1;have e:(n:Int).tdiv ((2^(x.toNat%64):Nat):Int)=((n/2^(x.toNat%64):Nat):Int):=rfl;rw[e];have aa:=Nat.div_le_self n (2^(x.toNat%64));have ab:=hw.2;generalize n/2^(x.toNat%64)=q at *;exact KP ⟨Z,Z⟩
 refine bR [] aT Tryz.func169 rfl rfl rfl ?_;intro B ax;refine cN.draw aT rfl rfl rfl ?_;refine a3.mk (x.toNat:Int) (wrap_i64 ⟨Z,Z⟩) ?_;refine h4.mk bv ?_;rcases(by omega:x.toNat/64=0\/x.toNat/64=1\/x.toNat/64=2\/x.toNat/64=3)with ai | ai | ai | ai
 ·refine a3.mk 0 ip ?_;refine cj.mk 0 rfl bv ?_;refine a3.mk (x.toNat:Int) (wrap_i64 ⟨Z,Z⟩) ?_;refine h4.mk bv ?_;refine er.mk _ yB ?_;rintro v J N -⟨rfl,rfl,rfl⟩;refine h4.mk Z ?_;refine a3.mk _ (hdiv a (jo a am)) ?_;refine h4.mk bv ?_;exact⟨_,_,.refl,congrArg Value.bool (key a 0 ai rfl (jo a am)),rfl,rfl⟩
 ·refine a3.mk 1 ip ?_;refine cj.mk 1 rfl bv ?_;refine a3.mk (x.toNat:Int) (wrap_i64 ⟨Z,Z⟩) ?_;refine h4.mk bv ?_;refine er.mk _ yB ?_;rintro v J N -⟨rfl,rfl,rfl⟩;refine h4.mk Z ?_;refine a3.mk _ (hdiv b (jo b am)) ?_;refine h4.mk bv ?_;exact⟨_,_,.refl,congrArg Value.bool (key b 1 ai rfl (jo b am)),rfl,rfl⟩
 ·refine a3.mk 2 ip ?_;refine cj.mk 2 rfl bv ?_;refine a3.mk (x.toNat:Int) (wrap_i64 ⟨Z,Z⟩) ?_;refine h4.mk bv ?_;refine er.mk _ yB ?_;rintro v J N -⟨rfl,rfl,rfl⟩;refine h4.mk Z ?_;refine a3.mk _ (hdiv c (jo c am)) ?_;refine h4.mk bv ?_;exact⟨_,_,.refl,congrArg Value.bool (key c 2 ai rfl (jo c am)),rfl,rfl⟩
 ·refine a3.mk 3 ip ?_;refine cj.mk 3 rfl bv ?_;refine a3.mk (x.toNat:Int) (wrap_i64 ⟨Z,Z⟩) ?_;refine h4.mk bv ?_;refine er.mk _ yB ?_;rintro v J N -⟨rfl,rfl,rfl⟩;refine h4.mk Z ?_;refine a3.mk _ (hdiv d (jo d am)) ?_;refine h4.mk bv ?_;exact⟨_,_,.refl,congrArg Value.bool (key d 3 ai rfl (jo d am)),rfl,rfl⟩
def Fc{n:Nat}(h:n<256):(UInt8.ofNat n).toNat=n:=by rw[UInt8.toNat_ofNat'];omega
def L4{n:Nat}(h:n<256):IntKind.u8.wrap (n:Int)=((UInt8.ofNat n).toNat:Int):=by rw[Fc h];simp[IntKind.wrap,IntKind.signed,IntKind.bits];omega
def aab(w:ef){k:Nat}(af:k<64):IntKind.u64.wrap ((BitVec.ofInt 64 ((w.toNat:Int).fdiv (2^(min k 64))) &&& BitVec.ofInt 64 1).toNat:Int)=bif w.getLsbD k then 1 else 0:=by
 have aE:w.toNat<18446744073709551616:=w.isLt;have dC:min k 64=k:=by omega
 have aN:(w.toNat:Int).fdiv (2^k)=((w.toNat/2^k:Nat):Int):=by rw[Kv _ (by exact Int.le_of_lt (Int.pow_pos bv))];simp
 rw[dC,aN];have bc:(BitVec.ofInt 64 ((w.toNat/2^k:Nat):Int) &&& BitVec.ofInt 64 1).toNat=w.toNat/2^k%2:=by
  have aa:BitVec.ofInt 64 ((w.toNat/2^k:Nat):Int)=BitVec.ofNat 64 (w.toNat/2^k):=(show ∀ m:Nat,BitVec.ofInt 64 (m:Int)=BitVec.ofNat 64 m from λm=>am) _;have ab:BitVec.ofInt 64 1=BitVec.ofNat 64 1:=by decide
  rw[aa,ab,Ky,Co,Co];have al:w.toNat/2^k%2^64=w.toNat/2^k:=z9 (Nat.lt_of_le_of_lt (Nat.div_le_self _ _) aE);rw[al,show 1%2^64=1 by decide,Nat.and_one_is_mod]
 rw[bc];have cy:IntKind.u64.wrap ((w.toNat/2^k%2:Nat):Int)=((w.toNat/2^k%2:Nat):Int):=by have:w.toNat/2^k%2<2:=Hf _ bv;unfold IntKind.wrap;simp only[IntKind.bits,IntKind.signed];simp;omega
 rw[cy];have dX:w.getLsbD k=w.toNat.testBit k:=rfl;rw[dX,Zh];have:w.toNat/2^k%2<2:=Hf _ bv;by_cases h:w.toNat/2^k%2=1
 ·rw[h];rfl
 ·have ax:w.toNat/2^k%2=0:=by omega
  rw[ax];rfl
def RP{k:Nat}(af:k<64):IntKind.u64.wrap (1*2^(min k 64))=((lN k).toNat:Int):=by
 have dC:min k 64=k:=by omega
 have aa:(2:Nat)^k<2^64:=LA bv af;have e:(lN k).toNat=2^k:=by unfold lN;rw[Q1];simp only[Co];rw[Q2,show 1%2^64=1 by decide,m6,z9 aa]
 rw[dC,e,Int.one_mul];have bc:((2:Int)^k)=((2^k:Nat):Int):=by simp
 rw[bc];unfold IntKind.wrap;simp only[IntKind.bits,IntKind.signed];simp;omega
def pq(w:ef):Value:=.int .u64 w.toNat
def aac{w:ef}{i:Nat}(aV:i<64)(ab:¬ IntKind.u64.wrap ((BitVec.ofInt 64 ((w.toNat:Int).fdiv (2^(min i 64))) &&& BitVec.ofInt 64 1).toNat:Int)=0):w.getLsbD i=true:=by
 have ah:=aab w aV;cases az:w.getLsbD i with
 |true=>rfl| false=>rw[az]at ah;exact absurd ah ab
def aad{w:ef}{i:Nat}(aV:i<64)(ab:IntKind.u64.wrap ((BitVec.ofInt 64 ((w.toNat:Int).fdiv (2^(min i 64))) &&& BitVec.ofInt 64 1).toNat:Int)=0):w.getLsbD i=false:=by
 have ah:=aab w aV;cases az:w.getLsbD i with
 |false=>rfl| true=>rw[az,ab]at ah;cases ah
def aae{b:Int}(h:(!decide (a=b))=true):¬ a=b:=by simpa using h
def aaf{b:Int}(h:(!decide (a=b))=false):a=b:=by simpa using h
def aag(w:ef):Spec Tryz.prog 192 [.int .u64 w.toNat] I M0 λv I' M'=>I'=I/\∃ os:aO,os.ok 1 ((bitsOf w 64).map λn:Nat=>Value.int .i64 n)/\v=os.val/\M'=os.aq 3++M0:=by
 refine bR [] aT Tryz.func192 rfl rfl rfl ?_;intro B ax;refine c2.inv (ι:=Nat×aO) (λx=>{ bn:=[(0,.val (.int .u64 w.toNat)),(3,.val x.2.val),(5,.val (.int .i64 x.1))],cm:=I,cK:=x.2.aq 3++M0 }) (λx=>x.1<=64/\x.2.ok 1 ((bitsOf w x.1).map λn:Nat=>Value.int .i64 n)) (λx=>64-x.1) ?_ ?_
 ·exact⟨(0,gV),⟨am,jt 1⟩,.refl,e2,.nil⟩
 rintro⟨i,os⟩⟨hi,bV⟩;simp only at hi bV;have gK:os.n<=64:=by have aa:=bV.len;rw[bA]at aa;have:=alh w i;omega
 refine aS.mk (λh=>?_) (λh=>?_)
 rotate_left
 ·have cM:i=64:=by have:¬ (i:Int)<64:=db h;omega
  rw[cM]at bV;exact⟨_,_,.refl,rfl,os,bV,rfl,rfl⟩
 have aV:i<64:=by have:(i:Int)<64:=cv h;omega
 refine sk.mk i rfl ?_;refine aS.mk (λab=>?_) (λab=>?_)
 ·have hw:=aac (w:=w) aV (aae ab);refine bN.mk λb9 kI x'=>?_;refine bz.lh aT rfl am (e:=3) rfl rfl rfl os bV rfl (cs:=[.int .i64 i]) rfl rfl rfl [] M0 rfl Z ayM ?_;intro hD kQ gq h9;refine a3.mk _ (cC (i:=i) Z) ?_;refine⟨(i+1,hD),⟨⟨aV,?_⟩,ce⟩,.refl,e2,.nil⟩;simp only;rw[Zg,hw,cJ];exact h9
 ·have hw:=aad (w:=w) aV (aaf ab);refine a3.mk _ (cC (i:=i) Z) ?_;refine⟨(i+1,os),⟨⟨aV,?_⟩,ce⟩,.refl,e2,.nil⟩;simp only;rw[Zg,hw,cw,dE];exact bV
def Av(w:ef):av:=.i .u64 w.toNat
def aah{e:Nat}(he:E e=some aH)(aw:aH.size=1)(a8:aH.bM.agg=false)(P:List av)(x:av)(r:List av):An E e (P.length*aH.size) (P++x::r)=some x:=by unfold An;rw[he,Fb,aw,gm,Ii,Q3,a8];rfl
def aai{F:Nat->av->av->Option Bool}{E:Env}{e:Nat}{aH:dV}(he:E e=some aH)(aw:aH.size=1)(a8:aH.bM.agg=false)(bC:∀ a b,F e (.i .u64 a) (.i .u64 b)=some (sU a b)):∀ (l m:List ef) (Fe Ff:List av),l.length=m.length->Fe.length=Ff.length -> CH F E (Fe++l.map Av) (Ff++m.map Av) ((List.range' Fe.length l.length).map λi=>(e,i*aH.size))=some (decide (l=m))
 |[],[],Fe,Ff,_,_=>rfl| [],_::_,_,_,h,_=>by simp at h
 |_::_,[],_,_,h,_=>by simp at h
 |a::l,b::m,Fe,Ff,h,aK=>by
  have aX:=aai he aw a8 bC l m (Fe++[Av a]) (Ff++[Av b]) i9 (by simpa using aK);rw[ct,pi,ej,ej,qJ,qJ]at aX;rw[ey,Oe,ch,ch,ch,CH,aah he aw a8,Fb,aK,aah he aw a8,Fb,<-aK];rw[show F e (Av a) (Av b)=some (decide (a=b)) by rw[<-alI];exact bC _ _,Fb,kO];by_cases aN:a=b;·subst aN;simp only[HI,ta];rw[aX];simp
  ·simp[aN]
def lk(m:List ef):List Value:=(List.range 64).map λi=>pq (m.getD i 0)
def L5(h:m.length=64):lk m=m.map pq:=by
 unfold lk;apply oV
 ·simp[h]
 ·intro i aa ab;have:i<m.length:=by simpa using ab
  simp[bP,this]
def ua(m:List ef):(lk m).length=64:=by simp[lk]
def alP{p q:List ef}(aK:p.length=64)(aM:q.length=64){V:Value->Prop}(h:V (.bool (decide (p=q)))) :
  fm Tryz.prog .eql 213 x y (.val (.agg (lk p).toArray)) (.val (.agg (lk q).toArray)) V other:=by
 rw[L5 aK,L5 aM];have an:∀ l:List ef,bQ (λ_=>none) (l.map Av) (l.map pq):=λl=>by
  induction l with
  |nil=>exact .nil| cons a l aX=>exact .cons (by simp only[Av,pq,aY]) aX
 refine Z9 (X:=⟨Tryz.prog,sA,[],0,0,default,λ_=>none,[],none⟩) (D:=λ_=>none) (v:=.b (decide (p=q))) aT ?_ (an p) (an q) (λu hu=>by simp only[aY]at hu;rw[hu];exact h);show H4 Tryz.prog sA .eql 213 _ _=_;obtain⟨i1,aa,gf⟩:∃ i,sA 213=some i/\i.bM=.array 64 34:=⟨_,rfl,rfl⟩;obtain⟨i2,ab,qo,alQ⟩:∃ i,sA 34=some i/\i.bM=.int .u64/\i.size=1:=⟨_,rfl,rfl,rfl⟩;have bC:∀ a b,yv Tryz.prog sA 7 34 (.i .u64 a) (.i .u64 b)=some (sU a b):=λa b=>by simp only[yv,ab,Fb,qo];rfl
 have af:=aai (F:=yv Tryz.prog sA 7) ab alQ (by rw[qo];rfl) bC p q [] [] Z rfl;unfold H4;rw[yv];simp only[aa,Fb,gf,ab];rw[hW,hW,hl,aK]at af;rw[DI,af,show Tryz.prog.eqGuardType Tryz.prog.depth 213=false by kernel_rfl];rfl
structure ec where
 n:Nat
 m:List ef
 w:ef
def ec.cells(s:ec):List Value:=.int .i64 s.n::(lk s.m++[pq s.w])
def ec.val(s:ec):Value:=.agg s.cells.toArray
def ec.alR(s:ec):Prop:=s.m.length=64/\s.n<=64
def xb(b:Nat)(m:List ef):aD:=⟨b,.cells (lk m).toArray 213 (0,0)⟩
def Iq{b:Nat}(bd:xb b m∈M):cG I M (⟨b,0,none⟩:Addr) 64 (lk m):=
 ⟨rfl,_,_,_,.inr ⟨_,bd,rfl,rfl⟩,by simp only[tq];exact fE (by simp[ua]),ua m⟩
def aaj{b:Nat}(bd:xb b m∈M)(ai:j<64):cG I M ((⟨b,0,none⟩:Addr).add (j*1)) 1 [pq (m.getD j 0)]:=by rw[eK _ rfl];refine⟨rfl,_,_,_,.inr ⟨_,bd,rfl,rfl⟩,?_,rfl⟩;simp only[dg,gm];rw[e9 (by simpa[lk]using ai),rr,qw];simp[lk]
def aak(m:List ef)(hm:m.length=64)(j:Nat)(ai:j<64)(w:ef):cp (lk m) (0+j*1) [pq w]=lk (m.set j w):=by rw[L5 hm,L5 (by simpa using hm),dg,gm,alM _ _ _ (by simp[hm];exact ai),qx]
def ov(m:List ef)(i:Nat):List ef:=(List.range i).map (λq=>np m 0 64 (m.getD q 0))++m.drop i
def aal(hm:m.length=64){i:Nat}(hi:i<=64):(ov m i).length=64:=by simp[ov,hm];omega
def alS(hm:m.length=64){i:Nat}(hi:i<64):(ov m i).set i (m.getD i 0)=ov m i:=by
 unfold ov;have h:i<m.length:=by omega
 rw[Cm _ _ am];simp only[bA,w1,mK];rw[e9 h,Cn];simp[bP,h]
def alT(hm:m.length=64){i:Nat}(hi:i<64):(ov m i).set i (np m 0 64 (m.getD i 0))=ov m (i+1):=by
 unfold ov;have h:i<m.length:=by omega
 rw[Cm _ _ am];simp only[bA,w1,mK];rw[e9 h,Cn,Ey,cJ,ej];rfl
def aam(hm:m.length=64):ov m 64=rQ m:=by unfold ov rQ;rw[sT Z,dE]
def Aw(m:List ef)(k:Nat):ef:=(List.range k).foldl (λw i=>w ||| ((m.getD i 0) &&& lN i)) 0
def alU(m:List ef)(k:Nat):Aw m (k+1)=Aw m k ||| (m.getD k 0 &&& lN k):=by unfold Aw;rw[Ey,sL];rfl
def alV{b:Int}(h:a=b):zm (.val (.int .u64 a)) (.val (.int .u64 b)):=by subst h;exact .refl
def alW(m:List ef)(k:Nat):lj (Aw m k).toNat (po (m.getD k 0).toNat (lN k).toNat)=((Aw m (k+1)).toNat:Int):=by rw[Im,t',alU]
def alX{k:Nat}{w:ef}(af:k<64)(h:w.getLsbD k=true):np m k (64-k) w=np m (k+1) (64-(k+1)) (w ||| m.getD k 0):=by rw[show 64-k=(64-(k+1))+1 by omega,np,h];rfl
def alY{k:Nat}{w:ef}(af:k<64)(h:w.getLsbD k=false):np m k (64-k) w=np m (k+1) (64-(k+1)) w:=by rw[show 64-k=(64-(k+1))+1 by omega,np,h];rfl
def RQ{i:Nat}(hi:i<m.length)(w:ef):(m.set i w).getD i 0=w:=by simp[bP,hi]
def alZ(s:ec)(aw:s.alR):Spec Tryz.prog 193 [s.val] I M0 λv I' M'=>I'=I/\M'=M0/\∃ b:ef,v=.int .u64 b.toNat/\∀ i,i<64->(b.getLsbD i=true ↔ qM s.m i i):=by
 refine bR [1,3,4] aT Tryz.func193 rfl rfl rfl ?_;intro B ax;obtain⟨gf,qo⟩:=aw;refine bN.mk λb1 iU HD=>?_;refine aJ.mk (lk s.m) ?_ ?_
 ·refine⟨rfl,_,_,_,.inr ⟨_,.head _,rfl,rfl⟩,?_,ua _⟩;show((s.cells).drop 1).take 64=_;rw[ec.cells,H0,tq];exact sw (ua _)
 refine bN.mk λeo CS awX=>?_;refine b'.nk [] _ _ _ rfl rfl rfl rfl (lk s.m) rfl ?_;refine c2.inv (ι:=List ef) (λm=>{ bn:=[(3,.val (ptr eo))],cm:=I,cK:=xb eo m::M0 }) (Ak s.m) Al ?_ ?_
 ·exact⟨s.m,.start gf,.sub (.cons_cons _ (.cons _ (.refl _))) .refl,.cons .refl (.nil),.nil⟩
 intro m hm;have gn:=hm.len;refine aJ.mk _ (Iq (.head _)) ?_;refine bN.mk λgW Fg al0=>?_;refine b'.nk [] _ _ _ rfl rfl rfl rfl (lk m) rfl ?_;refine c2.inv (ι:=Nat) (λi=>{ bn:=[(3,.val (ptr eo)),(4,.val (ptr gW)),(13,.val (.int .i64 i))],cm:=I,cK:=xb gW (ov m i)::(xb eo m::M0) }) (λi=>i<=64) (λi=>64-i) ?_ ?_
 ·refine⟨0,dh _,.refl,e2,.nil⟩
 intro i hi;refine aS.mk (λh=>?_) (λh=>?_)
 rotate_left
 ·have cM:i=64:=by have:¬ (i:Int)<64:=db h;omega
  subst cM;refine aJ.mk _ (Iq (.head _)) ?_;refine aJ.mk _ (Iq (.tail _ (.head _))) ?_;refine alP (aal gn (cf _)) gn ?_;rw[aam gn];refine aS.mk (λhe=>?_) (λhe=>?_)
  ·have ub:rQ m=m:=cv he;refine aJ.mk _ (Iq (.tail _ (.head _))) ?_;refine c2.inv (ι:=Nat) (λk=>{ bn:=[(7,.val (.int .u64 (Aw m k).toNat)),(40,.val (.agg (lk m).toArray)),(41,.val (.int .i64 k))],cm:=I,cK:=M0 }) (λk=>k<=64) (λk=>64-k) ?_ ?_
   ·exact⟨0,dh _,.sub (.cons _ (.cons _ (.refl _))) .refl,e2,.nil⟩
   intro k af;refine aS.mk (λh=>?_) (λh=>?_)
   rotate_left
   ·have cM:k=64:=by have:¬ (k:Int)<64:=db h;omega
    subst cM;exact⟨_,_,.refl,rfl,rfl,Aw m 64,rfl,λi hi=>by rw[show Aw m 64=QX m from rfl,alg m hi,hm.done ub hi hi]⟩
   have e4:k<64:=by have:(k:Int)<64:=cv h;omega
   clear h af;have ar:k=0\/k=1\/k=2\/k=3\/k=4\/k=5\/k=6\/k=7\/k=8\/k=9\/k=10\/k=11\/k=12\/k=13\/k=14\/k=15\/k=16\/k=17\/k=18\/k=19\/k=20\/k=21\/k=22\/k=23\/k=24\/k=25\/k=26\/k=27\/k=28\/k=29\/k=30\/k=31\/k=32\/k=33\/k=34\/k=35\/k=36\/k=37\/k=38\/k=39\/k=40\/k=41\/k=42\/k=43\/k=44\/k=45\/k=46\/k=47\/k=48\/k=49\/k=50\/k=51\/k=52\/k=53\/k=54\/k=55\/k=56\/k=57\/k=58\/k=59\/k=60\/k=61\/k=62\/k=63:=by omega
   rcases ar with rfl | rfl | rfl | rfl | rfl | rfl | rfl | rfl | rfl | rfl | rfl | rfl | rfl | rfl | rfl | rfl | rfl | rfl | rfl | rfl | rfl | rfl | rfl | rfl | rfl | rfl | rfl | rfl | rfl | rfl | rfl | rfl | rfl | rfl | rfl | rfl | rfl | rfl | rfl | rfl | rfl | rfl | rfl | rfl | rfl | rfl | rfl | rfl | rfl | rfl | rfl | rfl | rfl | rfl | rfl | rfl | rfl | rfl | rfl | rfl | rfl | rfl | rfl | rfl
   all_goals
    refine cj.mk _ rfl e4 ?_;refine sk.mk _ rfl ?_;refine a3.mk _ (RP e4) ?_;refine a3.mk _ (cC Z) ?_;exact⟨_,⟨e4,Z⟩,.refl,.cons (alV (alW m _)) (tl),.nil⟩
  ·have ub:rQ m≠m:=db he;refine aJ.mk _ (Iq (.head _)) ?_;refine b'.nk [_] _ _ _ rfl rfl rfl rfl (lk (ov m 64)) rfl ?_;refine⟨rQ m,⟨hm.next,alf gn ub⟩,.sub (.cons _ (.refl _)) (.mc ?_),.cons .refl (.nil),.nil⟩;rw[aam gn];rfl
 have aV:i<64:=by have:(i:Int)<64:=cv h;omega
 have pM:=aal gn hi;refine c2.inv (ι:=Nat×ef) (λs=>{ bn:=[(3,.val (ptr eo)),(4,.val (ptr gW)),(5,.val (.int .i64 i)),(13,.val (.int .i64 i)),(16,.val (.int .i64 s.1))],cm:=I,cK:=xb gW ((ov m i).set i s.2)::(xb eo m::M0) }) (λs=>s.1<=64/\np m 0 64 (m.getD i 0)=np m s.1 (64-s.1) s.2) (λs=>64-s.1) ?_ ?_
 ·refine⟨(0,m.getD i 0),⟨dh _,rfl⟩,.mc ?_,fh,.nil⟩;simp only;rw[alS gn aV]
 rintro⟨k,w⟩⟨af,fy⟩;simp only at af fy;refine aS.mk (λh=>?_) (λh=>?_)
 rotate_left
 ·have cM:k=64:=by have:¬ (k:Int)<64:=db h;omega
  subst cM;have yq:np m 0 64 (m.getD i 0)=w:=fy;refine a3.mk _ (cC (i:=i) Z) ?_;refine⟨i+1,⟨aV,Z⟩,.mc ?_,e2,.nil⟩;rw[<-alT gn aV,yq]
 have e4:k<64:=by have:(k:Int)<64:=cv h;omega
 have gJ:((ov m i).set i w).length=64:=by rw[rL,pM]
 have aan:∀ {M:List aD},xb gW ((ov m i).set i w)∈M->cG I M ((⟨gW,0,none⟩:Addr).add (i*1)) 1 [.int .u64 w.toNat]:=λbd=>by have:=aaj (I:=I) bd aV;rwa [RQ Z w]at this
 have sy:∀ {M:List aD},xb eo m∈M->cG I M ((⟨eo,0,none⟩:Addr).add (k*1)) 1 [.int .u64 (m.getD k 0).toNat]:=λbd=>aaj (I:=I) bd e4;refine cj.mk i rfl aV ?_;refine aJ.mk _ (aan (.head _)) ?_;refine sk.mk k rfl ?_;refine aS.mk (λab=>?_) (λab=>?_)
 ·have hw:=aac (w:=w) e4 (aae ab);refine cN.draw aT rfl rfl rfl ?_;refine cj.mk i rfl aV ?_;refine aJ.mk _ (aan (.head _)) ?_;refine cj.mk k rfl e4 ?_;refine aJ.mk _ (sy (.tail _ (.head _))) ?_;refine cj.mk i rfl aV ?_;refine b'.iC [] (xb eo m::M0) (lk ((ov m i).set i w)) _ rfl ?_ rfl (lk ((ov m i).set i (w ||| m.getD k 0))) ?_ ?_
  ·rw[nY,ua];show 0+i*1+1<=64;omega
  ·show cp _ _ [Value.int .u64 (lj w.toNat (m.getD k 0).toNat)]=_;rw[t'];have:=aak ((ov m i).set i w) gJ i aV (w ||| m.getD k 0);rw[GY]at this;exact this
  refine a3.mk _ (cC (i:=k) Z) ?_;exact⟨(k+1,w ||| m.getD k 0),⟨⟨e4,by rw[fy,alX e4 hw]⟩,ce⟩,.refl,fh,.nil⟩
 ·have hw:=aad (w:=w) e4 (aaf ab);refine a3.mk _ (cC (i:=k) Z) ?_;exact⟨(k+1,w),⟨⟨e4,by rw[fy,alY e4 hw]⟩,ce⟩,.refl,fh,.nil⟩
def L6{k:Nat}(af:k<64):IntKind.u64.wrap (1*2^(min k IntKind.u64.bits))=((1#64 <<< k).toNat:Int):=by
 have aa:(1#64 <<< k).toNat=2^k:=by rw[Q1,Q2];have:2^k<2^64:=LA bv af;simp only[Co];rw[z9 (by decide:1<2^64),m6];exact z9 this
 have ab:min k IntKind.u64.bits=k:=by simp only[IntKind.bits];omega
 have al:2^k<2^64:=LA bv af;rw[aa,ab,Int.one_mul];have e:((2:Int)^k)=((2^k:Nat):Int):=by simp
 rw[e];generalize 2^k=q at al;unfold IntKind.wrap;simp only[IntKind.bits,IntKind.signed];simp;omega
def al1(l:List UInt8)(b:UInt8):nn (l++[b])=(nn l).or (j0 b):=by simp[nn]
def al2(n:Nat)(h:n<256):IntKind.u8.wrap (n:Int)=(n:Int):=by unfold IntKind.wrap;simp only[IntKind.bits,IntKind.signed];simp;omega
def aao(s:ByteArray)(aw:s.size<=140737488355328):Spec Tryz.prog 90 [.string s] I M λr I' M'=>r=(nn s.data.toList).val/\I'=I/\M'=M:=by
 refine bR [] aT Tryz.func90 rfl rfl rfl ?_;intro B ax;have dy:s.data.toList.length=s.size:=wx;refine c2.inv (ι:=Nat) (λi=>{ bn:=[(0,.val (.string s)),(2,.ref 2 0),(3,.ref 3 0),(4,.val (.int .i64 i))],cl:=[(2,a5.zero.cells),(3,(nn (s.data.toList.take i)).cells)],cm:=I,cK:=M }) (λi=>i<=s.size) (λi=>s.size-i) ?_ ?_
 ·exact⟨0,dh _,.refl,dS,.cons rfl (.cons rfl (.nil))⟩
 intro i hi;refine aS.mk (λh=>?_) (λh=>?_)
 rotate_left
 ·have cM:s.size<=i:=by have:¬ (i:Int)<(s.size:Int):=db h;omega
  have hw:s.data.toList.take i=s.data.toList:=fE Z;refine⟨_,_,.refl,?_,rfl,rfl⟩;show(nn (s.data.toList.take i)).val=_;rw[hw]
 have aV:i<s.size:=by have:(i:Int)<(s.size:Int):=cv h;omega
 have Bz:s.data.toList[i]' Z=s[i]:=by rw[Array.getElem_toList];rfl
 have Ir:nn (s.data.toList.take (i+1))=(nn (s.data.toList.take i)).or (j0 s[i]):=by rw[gi Z,al1,Bz]
 generalize nn (s.data.toList.take i)=w at Ir;have ah:=s[i].toNat_lt;have em:((s[i].toNat:Int)).tmod 64=((s[i].toNat%64:Nat):Int):=rfl;have ht:((s[i].toNat:Int)).tdiv 64=((s[i].toNat/64:Nat):Int):=rfl;refine cN.draw aT rfl rfl rfl ?_;refine oL.mk i rfl aV ?_;refine h4.mk bv ?_;rcases(by omega:s[i].toNat/64=0\/s[i].toNat/64=1\/s[i].toNat/64=2\/s[i].toNat/64=3)with ai | ai | ai | ai
 ·refine a3.mk 0 ip ?_;refine cj.mk 0 rfl bv ?_;refine oL.mk i rfl aV ?_;refine h4.mk bv ?_;refine sk.mk (s[i].toNat%64) em ?_;refine a3.mk _ (L6 Z) ?_;refine cj.mk 0 rfl bv ?_;refine a3.mk _ (cC (i:=i) Z) ?_;refine⟨i+1,⟨aV,Z⟩,.refl,dS,.cons rfl (.cons ?_ .nil)⟩;rw[Ir,show j0 s[i]=a5.one 0 (1#64 <<< (s[i].toNat%64)) by rw[j0,ai]];refine congrArg some ?_;show([.int .u64 (lj w.a.toNat (1#64 <<< (s[i].toNat%64)).toNat),.int .u64 w.b.toNat,.int .u64 w.c.toNat,.int .u64 w.d.toNat]:List Value)=_;rw[t'];simp[a5.cells,a5.or,a5.one]
 ·refine a3.mk 1 ip ?_;refine cj.mk 1 rfl bv ?_;refine oL.mk i rfl aV ?_;refine h4.mk bv ?_;refine sk.mk (s[i].toNat%64) em ?_;refine a3.mk _ (L6 Z) ?_;refine cj.mk 1 rfl bv ?_;refine a3.mk _ (cC (i:=i) Z) ?_;refine⟨i+1,⟨aV,Z⟩,.refl,dS,.cons rfl (.cons ?_ .nil)⟩;rw[Ir,show j0 s[i]=a5.one 1 (1#64 <<< (s[i].toNat%64)) by rw[j0,ai]];refine congrArg some ?_;show([.int .u64 w.a.toNat,.int .u64 (lj w.b.toNat (1#64 <<< (s[i].toNat%64)).toNat),.int .u64 w.c.toNat,.int .u64 w.d.toNat]:List Value)=_;rw[t'];simp[a5.cells,a5.or,a5.one]
 ·refine a3.mk 2 ip ?_;refine cj.mk 2 rfl bv ?_;refine oL.mk i rfl aV ?_;refine h4.mk bv ?_;refine sk.mk (s[i].toNat%64) em ?_;refine a3.mk _ (L6 Z) ?_;refine cj.mk 2 rfl bv ?_;refine a3.mk _ (cC (i:=i) Z) ?_;refine⟨i+1,⟨aV,Z⟩,.refl,dS,.cons rfl (.cons ?_ .nil)⟩;rw[Ir,show j0 s[i]=a5.one 2 (1#64 <<< (s[i].toNat%64)) by rw[j0,ai]];refine congrArg some ?_;show([.int .u64 w.a.toNat,.int .u64 w.b.toNat,.int .u64 (lj w.c.toNat (1#64 <<< (s[i].toNat%64)).toNat),.int .u64 w.d.toNat]:List Value)=_;rw[t'];simp[a5.cells,a5.or,a5.one]
 ·refine a3.mk 3 ip ?_;refine cj.mk 3 rfl bv ?_;refine oL.mk i rfl aV ?_;refine h4.mk bv ?_;refine sk.mk (s[i].toNat%64) em ?_;refine a3.mk _ (L6 Z) ?_;refine cj.mk 3 rfl bv ?_;refine a3.mk _ (cC (i:=i) Z) ?_;refine⟨i+1,⟨aV,Z⟩,.refl,dS,.cons rfl (.cons ?_ .nil)⟩;rw[Ir,show j0 s[i]=a5.one 3 (1#64 <<< (s[i].toNat%64)) by rw[j0,ai]];refine congrArg some ?_;show([.int .u64 w.a.toNat,.int .u64 w.b.toNat,.int .u64 w.c.toNat,.int .u64 (lj w.d.toNat (1#64 <<< (s[i].toNat%64)).toNat)]:List Value)=_;rw[t'];simp[a5.cells,a5.or,a5.one]
section
variable{I:aI}{M:List aD}{d:ak}{x:a0}{a:Option Addr}{n c:Nat}{ks:List lf}
def L7{z:Int}(h:eC z):((BitVec.ofInt 64 z).toNat:Int)=z:=by obtain⟨w,rfl⟩:=ak7 h;rw[CC]
end
def vp(t:bf):Prop:=∀ n∈t.ns,n.aA<=3000000000000
abbrev eg(X:c3)(G:GT)(pr:me):gX:=⟨X.P,X.E,G,pr⟩
section
variable{X:c3}{G:GT}{pr:me}{D:bU}{m:bx}{F:Fr}{ap:bk av}{C:dB}{I:aI}{M:List aD}{V:dK->Prop}{O:Prop}
def pt{a b:α}(h:some a=some b):a=b:=by cases h;rfl
def al3{op:BinOp}{k:IntKind}{b:Int}{v:av}{O:Prop}(h:Q7 op k fI a b=some v)(af:∀ u,aY D v u->K u):l0 op dd (.val (.int k a)) (.val (.int fI b)) K O:=by
 have mk:∀ {q:av} {u:Value},some q=some v->aY D q u->K u:=λe hu=>af _ (pt e ▸ hu);unfold Q7 at h;split at h
 ·split at h
  ·rename_i j;refine⟨j,rfl,⟨_,rfl,mk h ?_⟩⟩;simp only[aY];rw[As,alz,kO,Z5]
  ·cases h
 ·split at h
  ·rename_i j;refine⟨j,rfl,mk h ?_⟩;simp only[aY];rw[alA,kO,Z5]
  ·cases h
 all_goals obtain⟨aM,h⟩:=f' h
 all_goals simp only[l0,aM,cD]
 ·exact⟨_,rfl,mk h (by simp only[aY];rw[As,alu])⟩
 ·exact⟨_,rfl,mk h (by simp only[aY];rw[As,alv])⟩
 ·exact⟨_,rfl,mk h (by simp only[aY];rw[As,alw])⟩
 ·obtain⟨ax,h⟩:=Ar h;refine⟨λe=>?_,_,rfl,mk h (by simp only[aY];rw[As,alx])⟩;rw[CO,e]at ax;simp at ax
 ·obtain⟨ax,h⟩:=Ar h;refine⟨λe=>?_,mk h (by simp only[aY];rw[aly])⟩;rw[CO,e]at ax;simp at ax
 ·obtain⟨r,ag,h⟩:=cB h;rw[LV ag];exact mk h i4
 ·obtain⟨r,ag,h⟩:=cB h;rw[LV ag];exact mk h i4
 ·obtain⟨r,ag,h⟩:=cB h;rw[LV ag];exact mk h i4
 ·obtain⟨r,ag,h⟩:=cB h;rw[LV ag];exact mk h i4
 ·obtain⟨r,ag,h⟩:=cB h;rw[alt]at ag;have an:v=.b r:=(pt h).symm;subst an;have hQ:K (.bool r):=af _ i4;cases op<;>first
   |contradiction|(rw[ag];exact hQ)
def RR(b:Bool):cc b false true=!b:=by cases b<;>rfl
def al4{op:BinOp}{a b:List UInt8}{v:av}{O:Prop}(h:Q8 op a b=some v)(af:∀ u,aY D v u->K u) :
  l0 op dd (.val (.string ⟨a.toArray⟩)) (.val (.string ⟨b.toArray⟩)) K (fm P op t x y (.val (.string ⟨a.toArray⟩)) (.val (.string ⟨b.toArray⟩)) K O):=by
 unfold Q8 at h;split at h
 ·cases h;refine af _ ?_;simp only[aY];rw[L2,E']
 ·cases h;refine af _ ?_;simp only[aY];rw[L2,E',RR]
 ·obtain⟨ay,h⟩:=f' h;cases h;have ra:=bJ ay;refine fm.concat (by simpa[ByteArray.size]using ra) (af _ ?_);simp only[aY];congr 1
 ·cases h
def al5{op:BinOp}{a:Bool}{v:av}{O:Prop}(h:Q9 op dd a b=some v)(af:∀ u,aY D v u->K u):l0 op dd (.val (.bool a)) (.val (.bool b)) K O:=by
 unfold Q9 at h;split at h
 ·split at h
  ·cases h;exact af _ i4
  ·cases h;exact af _ i4
  ·cases h
 ·cases h
def al6{x:av}(h:Q' x=some b){u:Value}(hu:aY D x u):∃ a n c,u=.slice a n c/\b=a.isNone:=by
 cases x<;>simp only[Q',kW,reduceCtorEq]at h<;>subst h<;>simp only[aY]at hu
 ·exact⟨_,_,_,hu,rfl⟩
 ·obtain⟨a,-,hu⟩:=hu;exact⟨_,_,_,hu,rfl⟩
 ·obtain⟨a,-,-,hu⟩:=hu;exact⟨_,_,_,hu,rfl⟩
 ·exact⟨_,_,_,hu,rfl⟩
 ·obtain⟨a,c,hu⟩:=hu;exact⟨_,_,_,hu,rfl⟩
def al7{x:av}(h:Ra x=some b){u:Value}(hu:aY D x u):∃ p,u=.pointer p/\b=p.isNone:=by
 cases x<;>simp only[Ra,kW,reduceCtorEq]at h<;>subst h<;>simp only[aY]at hu
 ·exact⟨_,hu,rfl⟩
 ·obtain⟨a,-,hu⟩:=hu;exact⟨_,hu,rfl⟩
 ·exact⟨_,hu,rfl⟩
def al8{e:Nat}(h:P.underlying t=some (.slice e))(a:Option Addr)(n c:Nat)(w:World):(Op.equal t (.slice a n c) (.slice none 0 0)).run P w=.ok a.isNone w:=by
 have key:∀ d,(Op.equalIn (d+1) t (.slice a n c) (.slice none 0 0)).run P w=.ok a.isNone w:=λd=>by cases a<;>simp[Op.equalIn,run_underlying h]
 exact key 9999
def al9{e:Nat}(h:P.underlying t=some (.pointer e))(p:Option Addr)(w:World):(Op.equal t (.pointer p) (.pointer none)).run P w=.ok p.isNone w:=by
 have key:∀ d,(Op.equalIn (d+1) t (.pointer p) (.pointer none)).run P w=.ok p.isNone w:=λd=>by cases p<;>simp[Op.equalIn,run_underlying h]
 exact key 9999
def aap{op:BinOp}{v:av}{p q:Value}(az:∀ w,op=.eql\/op=.neq->(eqGuard op t x y p q).run P w=.ok () w)(he:∀ w,(Op.equal t p q).run P w=.ok b w)(ah:∀ w,(binOp .eql t p q).run P w=.ok (.bool b) w)(aE:∀ w,(binOp .neq t p q).run P w=.ok (.bool (!b)) w)(h:LC op b=some v){O:Prop}(af:∀ u,aY D v u->K u):fm P op t x y (.val p) (.val q) K O:=by
 unfold LC at h;split at h
 ·cases h;refine .mk p q (.bool b) rfl rfl (λw=>?_) (af _ i4);simp only[cz,az w (.inl rfl),cd,ah w]
 ·cases h;refine .mk p q (.bool (!b)) rfl rfl (λw=>?_) (af _ i4);simp only[cz,az w (.inr rfl),cd,aE w]
 ·cases h
theorem ama(aQ:cX X.P X.E){op:BinOp}{x y v:av}{amb:Operand}{u:Value}{O:Prop}(h:Rb X.P X.E op t x y=some v)(ae:aY D x u)(aF:aY D y w)(af:∀ u,aY D v u->K u) :
  l0 op (X.E t) (.val u) (.val w) K (fm X.P op t p3 amb (.val u) (.val w) K O):=by
 unfold Rb at h;split at h
 ·rw[ae.int,aF.int];exact al3 h af
 ·rw[ae.str,aF.str];exact al4 h af
 ·rw[ae.bool,aF.bool];exact al5 h af
 ·obtain⟨us,aa,rfl⟩:=ae.agg;obtain⟨ws,ab,rfl⟩:=aF.agg;exact Z9 aQ h aa ab af
 ·obtain⟨i,hi,h⟩:=cB h;split at h
  ·rename_i e oP;obtain⟨b,aa,h⟩:=cB h;obtain⟨a,n,c,rfl,rfl⟩:=al6 aa ae;simp only[aY]at aF;subst aF;obtain⟨d,fQ,eZ⟩:=(aQ _ _ hi).fA;have ab:d=.slice e:=by rw[oP]at eZ;cases d<;>simp_all[fz]
   subst ab;have he:=al8 fQ a n c;exact aap (λw aG=>ad') he (λw=>GE) (λw=>GE) h af
  ·cases h
 ·obtain⟨i,hi,h⟩:=cB h;split at h
  ·rename_i e oP;obtain⟨b,aa,h⟩:=cB h;obtain⟨p,rfl,rfl⟩:=al7 aa ae;simp only[aY]at aF;subst aF;obtain⟨d,fQ,eZ⟩:=(aQ _ _ hi).fA;have ab:d=.pointer e:=by rw[oP]at eZ;cases d<;>simp_all[fz]
   subst ab;have he:=al9 fQ p;exact aap (λw aG=>ad') he (λw=>GE) (λw=>GE) h af
  ·cases h
 ·cases h
variable(aQ:cX X.P X.E)(hm:dq (eg X G pr) D m I M)
theorem Fh{v:av}{n:Nat}(h:v.nat=some n):∃ k,v=.i k (.ofNat n):=by
 unfold av.nat at h;split at h
 ·cases h;exact⟨_,rfl⟩
 ·cases h
theorem aaq{x v:av}{n:Nat}{u:Value}(h:H5 x n=some v)(ae:aY D x u):∃ a,u=.pointer (some a)/\a.spot=none/\aY D v (.pointer (some (a.add n))):=by
 unfold H5 at h;split at h
 ·cases h;obtain⟨a,a8,rfl⟩:=ae.ptr;refine⟨_,rfl,rfl,?_⟩;rw[eK _ rfl];simp only[aY];exact⟨a,a8,by simp only[Am,uz]⟩
 ·cases h;refine⟨_,ae.qO,rfl,?_⟩;rw[eK _ rfl];simp only[aY];rfl
 ·cases h
theorem amc{x v:av}{u:Value}(h:LD x j sz=some v)(ae:aY D x u):∃ a n c,u=.slice (some a) n c/\j<n/\aY D v (.pointer (some (a.add (j*sz)))):=by
 unfold LD at h;split at h
 ·cases ah:Nat.blt j _ with
  |false=>rw[ah]at h;cases h| true=>rw[ah]at h;cases h;obtain⟨a,a8,rfl⟩:=ae.sW;refine⟨_,_,_,rfl,bJ ah,?_⟩;rw[eK _ rfl];simp only[aY];exact⟨a,a8,by simp only[Am,ES,uz]⟩
 ·cases ah:Nat.blt j _ with
  |false=>rw[ah]at h;cases h| true=>rw[ah]at h;cases h;obtain⟨a,a8,_,rfl⟩:=ae.vo;refine⟨_,_,_,rfl,bJ ah,?_⟩;rw[eK _ rfl];simp only[aY];exact⟨a,a8,by simp only[Am,ES,uz]⟩
 ·cases ah:Nat.blt j _ with
  |false=>rw[ah]at h;cases h| true=>rw[ah]at h;cases h;refine⟨_,_,_,ae.RJ,bJ ah,?_⟩;rw[eK _ rfl];simp only[aY];rfl
 ·cases h
theorem aar{cs:List av}{v:av}{us:List Value}(h:LG aH cs off=some v)(ar:bQ D cs us) :
  off+aH.size<=us.length/\aY D v (pack aH.bM.agg ((us.drop off).take aH.size)):=by
 unfold LG at h;obtain⟨ax,h⟩:=Ar h;obtain⟨l,aa,ab⟩:=cB h;have jk:aH.size≠0:=λe=>by rw[e]at ax;cases ax
 obtain⟨rfl,ay⟩:=Z6 aa;rw[Ii]at ab ay;refine⟨?_,L0 ab ((ar.drop off).take _)⟩;have:=ar.len;simp at ay;omega
theorem aas{i:Nat}{iP:dV}(h:LF E t i=some (off,iP)):∃ a b z dv fH,E t=some ⟨a,b,z,.struct dv⟩/\dv[i]?=some (fH,off)/\E fH=some iP:=by
 unfold LF at h;split at h
 ·rename_i a b z dv au;split at h
  ·rename_i fH o aC;rw[Au]at aC;split at h
   ·rename_i f rN;cases h;exact⟨_,_,_,_,fH,au,aC,rN⟩
   ·cases h
  ·cases h
 ·cases h
theorem amd(h:Re E t=some (r,aH)):(∃ a b z e,E t=some ⟨a,b,z,.slice e⟩/\E e=some aH/\r=none)\/∃ a b z n e,E t=some ⟨a,b,z,.array n e⟩/\E e=some aH/\r=some n:=by
 unfold Re at h;split at h
 ·rename_i a b z e au;split at h
  ·cases h;exact .inl ⟨_,_,_,_,au,ayN,rfl⟩
  ·cases h
 ·rename_i a b z n e au;split at h
  ·cases h;exact .inr ⟨_,_,_,_,_,au,ayN,rfl⟩
  ·cases h
 ·cases h
theorem ame{x i v:av}{u:Value}(h:H6 X.E t (some x) (some i)=some v)(ae:aY D x u)(hi:aY D i w){ρ:Operand->dK}{gQ:Operand}(RS:dL ρ p3=.val u)(im:dL ρ gQ=.val w)
  (k:∀ x,gG D x v->V x):cP X (.index t p3 gQ) ρ C I M V O:=by
 unfold H6 at h;split at h
 ·rename_i l gZ au aa ab;cases aa;cases ab;obtain⟨j,ai,h⟩:=cB h;obtain⟨gw,rfl⟩:=Fh ai;have e6:Rf l j=some v:=h;unfold Rf at e6;obtain⟨b,ah,dW⟩:=cB e6;cases dW;rw[Au]at ah;rw[ae.str]at RS;rw[hi.int]at im;have aV:=(jd.1 ah).1;simp only[cP,au,RS,im];refine⟨j,rfl,by simpa[ByteArray.size]using aV,k _ (.val ?_)⟩;simp only[aY];have:(⟨l.toArray⟩:ByteArray)[j]'(by simpa[ByteArray.size]using aV)=b:=by have:=(jd.1 ah).2;show l.toArray[j]'_=b;simpa using this
  rw[this];rfl
 ·rename_i n e cs gZ au aa ab;cases aa;cases ab;obtain⟨aH,he,h⟩:=cB h;obtain⟨j,ai,h⟩:=cB h;obtain⟨gw,rfl⟩:=Fh ai;obtain⟨us,fP,rfl⟩:=ae.agg;unfold Zy at h;obtain⟨ah,h⟩:=f' h;rw[cH]at ah;obtain⟨al,aL⟩:=aar h fP;rw[hi.int]at im;simp only[cP,au,RS,im,he];have dy:Nat.beq (n*aH.size) us.toArray.size=true:=by have bB:=ei ah.1;rw[q6,fP.len,<-bB];exact te _
  rw[dy];simp only[cD];exact⟨j,rfl,bJ ah.2,k _ (.val aL)⟩
 ·cases h
theorem amf{x v:av}{l:Nat}{h:Option Nat}{u:Value}(aw:Rc x sz l h=some v)(ae:aY D x u):∃ a n c,u=.slice a n c/\l<=h.getD n/\h.getD n<=c/\(h=none->l<=n) /\
  aY D v (.slice (if c=l then a else a.map (·.add (l*sz))) (h.getD n-l) (c-l)):=by
 unfold Rc at aw;split at aw
 ·cases ah:(Nat.beq l 0&&Nat.beq (h.getD 0) 0)with
  |false=>rw[ah]at aw;cases aw| true=>rw[ah]at aw;cases aw;rw[cH]at ah;have aa:=ei ah.1;have ab:=ei ah.2;subst aa;refine⟨none,0,0,ae.CP,Z,Z,λ_=>Z,?_⟩;rw[ab];simp[aY]
 ·rename_i id off n c;obtain⟨a,a8,rfl⟩:=ae.sW;simp only at aw;cases ah:(Nat.ble l (h.getD n)&&Nat.ble (h.getD n) c)with
  |false=>rw[ah]at aw;cases aw
  |true=>
   rw[ah]at aw;simp only[cD]at aw;rw[cH]at ah;have aa:=bJ ah.1;have ab:=bJ ah.2;refine⟨_,n,c,rfl,aa,ab,λe=>by subst e;exact aa,?_⟩;rw[RI]at aw;by_cases e:c=l;·subst e;simp only[HI,cD]at aw;cases aw;simp only[ta,aY];exact⟨a,a8,by simp only[ET,mK]⟩
   ·simp only[e,decide_false,cw]at aw;cases aw;simp only[e,mV,aY,lx];refine⟨a,a8,?_⟩;rw[eK _ rfl];simp only[Am,ES,ET,uz]
 ·rename_i id off e n;obtain⟨a,a8,bo,rfl⟩:=ae.vo;simp only at aw;cases ah:(Nat.ble l (h.getD n)&&Nat.ble (h.getD n) n)with
  |false=>rw[ah]at aw;cases aw
  |true=>
   rw[ah]at aw;simp only[cD]at aw;rw[cH]at ah;have aa:=bJ ah.1;have ab:=bJ ah.2;refine⟨_,n,a.c-e,rfl,aa,Z,λe=>by subst e;exact aa,?_⟩;cases ar:(Nat.beq l 0||Nat.blt l n)with
   |true=>
    rw[ar]at aw;simp only[cD]at aw;cases aw;rw[nD]at ar;simp only[aY];refine⟨a,a8,by simp only[Am,ET];omega,?_⟩;have al:a.c-e-l=a.c-(e+l):=by omega
    by_cases ax:l=0
    ·subst ax;simp only[zE,EA,lx,Am,ES,ET,pF];split
     ·rfl
     ·rw[eK _ rfl];simp
    ·have aL:l<n:=by
      rcases ar with ar | ar;·exact absurd (ei ar) ax
      ·exact bJ ar
     rw[bK Z];simp only[lx];rw[eK _ rfl];simp only[Am,ES,ET,uz,al]
   |false=>
    rw[ar]at aw;simp only[cw]at aw;cases aw;rw[rq]at ar;have aL:¬ l<n:=λaV=>by have:=EQ (show l.succ<=n from aV);rw[show Nat.blt l n=Nat.ble l.succ n from rfl,this]at ar;cases ar.2
    have bB:h.getD n-l=0:=by omega
    simp only[aY,bB];split;·exact⟨_,_,rfl⟩
    ·exact⟨_,_,rfl⟩
 ·cases aw
end
section
variable{X:c3}{G:GT}{pr:me}{D:bU}{m:bx}{F:Fr}{ap:bk av}{C:dB}{I:aI}{M:List aD}{V:dK->Prop}{O:Prop}
def amg(c:Bool)(a b:Value):J5 c (.val a) (.val b)=.val (bif c then a else b):=by cases a<;>cases b<;>cases c<;>rfl
def aat{o:Option Operand}{xs:List Operand}(H:jx D F ap xs)(ae:∀ y,o=some y->y∈xs)(h:CI (o.map (dF ap))=some r) :
  (o.map (dL (dG F))=none/\r=none)\/∃ k n,o.map (dL (dG F))=some (.val (.int k (Int.ofNat n)))/\r=some n:=by
 cases o with
 |none=>simp[CI]at h;exact .inl ⟨rfl,h.symm⟩
 |some y=>
  simp only[lx,CI]at h;cases an:dF ap y with
  |none=>rw[an]at h;cases h
  |some v=>
   rw[an]at h;simp only at h;split at h;·rename_i n aE;cases h;obtain⟨k,rfl⟩:=Fh aE;obtain⟨u,hu,ag⟩:=H.bI (ae y rfl) an;rw[ag.int]at hu;exact .inr ⟨k,n,by simp only[lx];exact congrArg some hu,rfl⟩
   ·cases h
def RT(l:List UInt8)(lo hi:Nat):(⟨(Rd l lo hi).toArray⟩:ByteArray)=(⟨l.toArray⟩:ByteArray).extract lo hi:=by apply tr;apply lY;unfold Rd;rw[Ii];simp[GS,List.extract_eq_take_drop]
def amh{v:av}{n:Nat}{u:Value}(h:w4 v=some n)(an:aY D v u):∃ a c,u=.slice a n c:=by
 unfold w4 at h;split at h
 ·cases h;exact⟨_,_,an.CP⟩
 ·cases h;obtain⟨a,c,rfl⟩:=an.LX;exact⟨_,_,rfl⟩
 ·cases h;obtain⟨a,_,rfl⟩:=an.sW;exact⟨_,_,rfl⟩
 ·cases h;obtain⟨a,_,_,rfl⟩:=an.vo;exact⟨_,_,rfl⟩
 ·cases h;exact⟨_,_,an.RJ⟩
 ·cases h
def ami(aQ:cX X.P X.E){b:Builtin}{ts:Array TypeId}{v:av}(h:Ri X.E b ts.toList (ou ap args.toList)=some v)(H:jx D F ap args.toList)(k:∀ x,gG D x v->V x) :
  cP X (.call { callee:=.builtin b,args:=args,argTypes:=ts }) (dG F) C I M V O:=by
 unfold Ri at h;split at h
 ·
  unfold ZD at h;split at h
  ·rename_i t w au ay;obtain⟨us,aN,bb⟩:=H.mW (λ_ h=>h) ay;obtain⟨u,xs,bh,b2,rfl⟩:=bb.kP;have:=b2.n4;subst this;have eA:j9 (dG F) args.toList=some [u]:=aN;simp only[cP,au,eA];split at h
   ·rename_i a b z e nr oT;unfold LH at h;obtain⟨n,aE,h⟩:=cB h;have dW:some (av.i .i64 (.ofNat n))=some v:=h;cases dW;obtain⟨bT,c,rfl⟩:=amh aE bh;simp only[oT];exact k _ (.val pp)
   ·rename_i a b z l oT;cases h;rw[bh.str];simp only[oT];refine k _ (.val ?_);simp only[aY];simp[ByteArray.size]
   ·rename_i a b z n e nr oT;cases h;cases u<;>(simp only[oT];exact k _ (.val pp))
   ·cases h
  ·cases h
 ·unfold ZE at h;split at h
  ·rename_i eW a c8 b ay;obtain⟨us,aN,bb⟩:=H.mW (λ_ h=>h) ay;obtain⟨u,xs,bh,b2,rfl⟩:=bb.kP;obtain⟨w,ys,gg,oc,rfl⟩:=b2.kP;have:=oc.n4;subst this;have eA:j9 (dG F) args.toList=some [u,w]:=aN;rw[bh.int,gg.int]at eA;simp only[cP,eA];cases h;refine k _ (.val ?_);simp only[aY];rw[kO,LU];by_cases lJ:a<=b
   ·simp[lJ];omega
   ·simp[lJ];omega
  ·cases h
 ·unfold ZF at h;split at h
  ·rename_i eW a c8 b ay;obtain⟨us,aN,bb⟩:=H.mW (λ_ h=>h) ay;obtain⟨u,xs,bh,b2,rfl⟩:=bb.kP;obtain⟨w,ys,gg,oc,rfl⟩:=b2.kP;have:=oc.n4;subst this;have eA:j9 (dG F) args.toList=some [u,w]:=aN;rw[bh.int,gg.int]at eA;simp only[cP,eA];cases h;refine k _ (.val ?_);simp only[aY];rw[kO,LU];by_cases lJ:a<=b
   ·simp[lJ];omega
   ·simp[lJ];omega
  ·cases h
 ·unfold ZG at h;split at h
  ·rename_i t id off n c au ay;split at h
   ·rename_i a b z e oT;cases h;obtain⟨us,aN,bb⟩:=H.mW (λ_ h=>h) ay;obtain⟨u,xs,bh,b2,rfl⟩:=bb.kP;have:=b2.n4;subst this;obtain⟨bT,a8,rfl⟩:=bh.sW;have eA:j9 (dG F) args.toList=some [_]:=aN;simp only[cP,au,eA,oT];exact k _ (.val pp)
   ·cases h
  ·cases h
 ·unfold ZH at h;split at h
  ·rename_i ay;cases h;obtain⟨us,aN,bb⟩:=H.mW (λ_ h=>h) ay;obtain⟨u,xs,bh,b2,rfl⟩:=bb.kP;have:=b2.n4;subst this;rw[bh.CP]at aN;have eA:j9 (dG F) args.toList=some [_]:=aN;simp only[cP,eA];exact k _ (.val i4)
  ·rename_i id off n c ay;obtain⟨ax,h⟩:=Ar h;cases h;obtain⟨us,aN,bb⟩:=H.mW (λ_ h=>h) ay;obtain⟨u,xs,bh,b2,rfl⟩:=bb.kP;have:=b2.n4;subst this;obtain⟨bT,a8,rfl⟩:=bh.sW;have eA:j9 (dG F) args.toList=some [_]:=aN;simp only[cP,eA];refine⟨λe=>?_,k _ (.val ?_)⟩
   ·have:c=0:=by omega
    subst this;cases ax
   ·simp only[aY];exact⟨bT,a8,rfl⟩
  ·rename_i id off e n ay;obtain⟨ax,h⟩:=Ar h;cases h;obtain⟨us,aN,bb⟩:=H.mW (λ_ h=>h) ay;obtain⟨u,xs,bh,b2,rfl⟩:=bb.kP;have:=b2.n4;subst this;obtain⟨bT,a8,bo,rfl⟩:=bh.vo;have eA:j9 (dG F) args.toList=some [_]:=aN;simp only[cP,eA];refine⟨λcY=>?_,k _ (.val ?_)⟩
   ·have:n=0:=by omega
    subst this;cases ax
   ·simp only[aY];exact⟨bT,a8,rfl⟩
  ·cases h
 ·cases h
def amj(aQ:cX X.P X.E){op:Op}{v:av}(h:Rj X.P X.E G m.t op ap=some v)(H:jx D F ap op.operands.toList)(hm:dq (eg X G pr) D m I M)(k:∀ x,gG D x v->V x):cP X op (dG F) C I M V O:=by
 unfold Rj at h;split at h
 ·
  exact k _ (H _ co _ h)
 ·exact k _ (H _ co _ h)
 ·
  rename_i c a b;unfold Zq at h;split at h
  ·rename_i q u w aa ab al;cases h;have ar:=H c co _ aa;have a8:=H a co _ ab;have ah:=H b co _ al;simp only[cP];rcases ar with⟨awY,L8,ar⟩ | ⟨gd,cY,L8⟩
   ·rw[ar.bool]at L8;simp only[L8];obtain⟨RU,QD,amk⟩:=a8.dL;obtain⟨RV,Lt,c9⟩:=ah.dL;have aml:dL (dG F) a=.val RU:=QD;have amm:dL (dG F) b=.val RV:=Lt;rw[aml,amm];refine k _ (.inl ⟨bif q then RU else RV,?_,?_⟩)
    ·exact amg q RU RV
    ·cases q
     ·exact c9
     ·exact amk
   ·cases cY;simp only[L8];cases q
    ·exact k _ ah
    ·exact k _ a8
  ·cases h
 ·
  rename_i awZ t x;unfold Zr at h;split at h
  ·rename_i b aa;cases h;have ae:=H x co _ aa;simp only[cP];rcases ae with⟨u,e,hu⟩ | ⟨q,aN,e⟩
   ·rw[hu.bool]at e;simp only[e];exact k _ (.val (by simp only[aY];rw[RR]))
   ·cases aN;simp only[e];exact k _ (.inr ⟨!b,by rw[RR],rfl⟩)
  ·rename_i gw n aa;cases h;have ae:=H x co _ aa;obtain⟨u,e,hu⟩:=ae.w8 am;rw[hu.int]at e;simp only[cP,e];exact⟨_,rfl,k _ (.val (by simp only[aY];rw[As]))⟩
  ·cases h
 ·
  rename_i aw0 t x y be;unfold Zs at h;obtain⟨a,aa,h⟩:=cB h;obtain⟨b,ab,h⟩:=cB h;obtain⟨u,aN,bb⟩:=H.bI (x:=x) co aa;obtain⟨w,bc,bh⟩:=H.bI (x:=y) co ab;have eA:dL (dG F) x=.val u:=aN;have q':dL (dG F) y=.val w:=bc;simp only[cP,eA,q'];exact ama aQ h bb bh λr ag=>k _ (.val ag)
 ·
  rename_i t x;unfold Zt at h;obtain⟨i,hi,h⟩:=cB h;obtain⟨a,aa,h⟩:=cB h;have ae:=H x co _ aa;have yC:∀ q,a≠.b q:=λq e=>by subst e;cases h
  obtain⟨u,aN,bb⟩:=ae.w8 yC;obtain⟨ad,l,vs,rfl,bj,ay,aK⟩:=w9 hm bb h;simp only[cP,hi,aN];exact⟨vs,bj,k _ (.val (L0 aK ay))⟩
 ·
  rename_i x;unfold Zu at h;split at h;·rename_i id off aa;cases h;obtain⟨u,aN,bb⟩:=(H x co _ aa).w8 am;obtain⟨a,a8,rfl⟩:=bb.ptr;simp only[cP,aN];exact k _ (.val bb)
  ·rename_i id off aa;cases h;obtain⟨u,aN,bb⟩:=(H x co _ aa).w8 am;have:=bb.qO;subst this;simp only[cP,aN];exact k _ (.val bb)
  ·cases h
 ·
  rename_i t x i;unfold Zv at h;obtain⟨r,ag,h⟩:=cB h;obtain⟨a,aa,h⟩:=cB h;obtain⟨off,iP⟩:=r;obtain⟨bg,h⟩:=Ar h;obtain⟨sa,sX,sz,dv,fH,au,aC,rN⟩:=aas ag;have ae:=H x co _ aa;have yC:∀ q,a≠.b q:=λq e=>by subst e;cases h
  obtain⟨u,aN,bb⟩:=ae.w8 yC;obtain⟨ad,rfl,aw,an⟩:=aaq h bb;have gU:Nat.beq iP.size 0=false:=bg;simp only[cP,au,aC,rN,aN,gU,cw];exact k _ (.val an)
 ·
  rename_i t x i;unfold Zw at h;split at h;·rename_i off iP cs ax aa;obtain⟨sa,sX,sz,dv,fH,au,aC,rN⟩:=aas ax;obtain⟨u,aN,bb⟩:=H.bI (x:=x) co aa;obtain⟨us,fP,rfl⟩:=bb.agg;obtain⟨ab,al⟩:=aar h fP;have eA:dL (dG F) x=.val (.agg us.toArray):=aN;simp only[cP,au,eA,aC,rN];rw[show Nat.ble (off+iP.size) us.toArray.size=true from EQ In];exact k _ (.val al)
  ·cases h
 ·
  rename_i t x i;unfold Zx at h;obtain⟨r,ag,h⟩:=cB h;obtain⟨a,aa,h⟩:=cB h;obtain⟨b,ab,h⟩:=cB h;obtain⟨j,ai,h⟩:=cB h;obtain⟨gw,rfl⟩:=Fh ai;obtain⟨u,bc,bh⟩:=H.bI (x:=i) co ab;rw[bh.int]at bc;have q':dL (dG F) i=.val (.int gw (.ofNat j)):=bc;obtain⟨Is,aH⟩:=r;rcases amd ag with⟨sa,sX,sz,e,au,he,rfl⟩ | ⟨sa,sX,sz,n,e,au,he,rfl⟩;·have bu:LD a j aH.size=some v:=h;obtain⟨w,aN,bb⟩:=H.bI (x:=x) co aa;obtain⟨ad,n,c,rfl,aV,an⟩:=amc bu bb;have eA:dL (dG F) x=.val (.slice (some ad) n c):=aN;simp only[cP,au,q',he,eA];exact⟨ad,j,rfl,rfl,aV,k _ (.val an)⟩
  ·have bu:cc (Nat.blt j n) (H5 a (Nat.mul j aH.size)) none=some v:=h;obtain⟨ah,bu⟩:=f' bu;have ae:=H x co _ aa;have yC:∀ q,a≠.b q:=λq e=>by subst e;cases bu
   obtain⟨w,aN,bb⟩:=ae.w8 yC;obtain⟨ad,rfl,aw,an⟩:=aaq bu bb;simp only[cP,au,q',he,aN];exact⟨j,rfl,bJ ah,k _ (.val an)⟩
 ·
  rename_i t x i;cases aa:dF ap x with
  |none=>rw[aa]at h;unfold H6 at h;split at h<;>first | cases h | (rename_i e _;cases e)
  |some a=>
   cases ab:dF ap i with
   |none=>rw[ab]at h;unfold H6 at h;split at h<;>first | cases h | (rename_i e;cases e)
   |some b=>rw[aa,ab]at h;obtain⟨u,aN,bb⟩:=H.bI (x:=x) co aa;obtain⟨w,bc,bh⟩:=H.bI (x:=i) co ab;exact ame h bb bh aN bc k
 ·
  rename_i t parts;unfold Zz at h;split at h
  ·rename_i i vs au aK;obtain⟨z,bg,h⟩:=cB h;have gU:=bQ.Fa (D:=D) bg;obtain⟨us,aN,bb⟩:=H.parts (l:=parts.toList) (by intro y aF;simpa[Op.operands]using aF) aK;have eA:tc (dG F) parts.toList=some us:=aN
   try simp only at h
   split at h;·rename_i dv oP;obtain⟨rD,h⟩:=f' h;unfold H7 at h;obtain⟨cs,al,aL⟩:=cB h;have dW:some (av.a cs)=some v:=aL;cases dW;obtain⟨a',bB,cA⟩:=L1 al gU bb;simp only[cP,au,eA,oP,rD,cD,bB];exact k _ (.val (.LY cA))
   ·rename_i n e oP;obtain⟨aH,he,h⟩:=cB h;have bu:H7 (Ao (λj=>some (j*aH.size,aH.size)) z vs)=some v:=h;unfold H7 at bu;obtain⟨cs,al,aL⟩:=cB bu;have dW:some (av.a cs)=some v:=aL;cases dW;obtain⟨a',bB,cA⟩:=L1 al gU bb;simp only[cP,au,eA,oP,he,bB];exact k _ (.val (.LY cA))
   ·cases h
  ·cases h
 ·
  rename_i f first captured
  unfold ZA at h;split at h
  ·rename_i g dv cs aa ab;cases h;obtain⟨us,aN,bb⟩:=H.mW (l:=first.toList) (by intro y aF;simp[Op.operands];exact .inl (by simpa using aF)) aa;obtain⟨ws,bc,bh⟩:=H.mW (l:=captured.toList) (by intro y aF;simp[Op.operands];exact .inr (by simpa using aF)) ab;have eA:j9 (dG F) first.toList=some us:=aN
   have q':j9 (dG F) captured.toList=some ws:=bc;simp only[cP,eA,q'];exact k _ (.val (by simp only[aY];exact⟨us,ws,bb,bh,rfl⟩))
  ·cases h
 ·
  rename_i t x lo hi;cases aa:dF ap x with
  |none=>rw[aa]at h;unfold H8 at h;split at h<;>first | cases h | (rename_i e _ _;cases e)
  |some a=>
   rw[aa]at h;cases ab:CI (lo.map (dF ap))with
   |none=>rw[ab]at h;unfold H8 at h;split at h<;>first | cases h | (rename_i e _;cases e)
   |some l=>
    rw[ab]at h;cases al:CI (hi.map (dF ap))with
    |none=>rw[al]at h;unfold H8 at h;split at h<;>first | cases h | (rename_i e;cases e)
    |some cU=>
     rw[al]at h;obtain⟨u,aN,bb⟩:=H.bI (x:=x) co aa;have eA:dL (dG F) x=.val u:=aN;have ft:=aat H (λy aF=>by subst aF;simp[Op.operands]) ab;have gO:=aat H (λy aF=>by subst aF;simp[Op.operands]) al;unfold H8 at h;split at h
     ·rename_i sa sX sz e mD L9 ck au cy dX k3;cases cy;cases dX;cases k3;obtain⟨aH,he,h⟩:=cB h;have bu:Rg aH a l cU=some v:=h;unfold Rg at bu;split at bu
      ·have el:lo.map (dL (dG F))=none:=by
        rcases ft with⟨el,_⟩ | ⟨_,_,_,el⟩;·exact el
        ·cases el
       have pu:hi.map (dL (dG F))=none:=by
        rcases gO with⟨pu,_⟩ | ⟨_,_,_,pu⟩;·exact pu
        ·cases pu
       have gJ:∃ q n c,u=.slice q n c/\aY D v u:=by
        split at bu;·cases bu;exact⟨_,_,_,bb.CP,bb⟩
        ·cases bu;obtain⟨q,_,rfl⟩:=bb.sW;exact⟨_,_,_,rfl,bb⟩
        ·cases bu;obtain⟨q,_,_,rfl⟩:=bb.vo;exact⟨_,_,_,rfl,bb⟩
        ·cases bu;obtain⟨q,c,rfl⟩:=bb.LX;exact⟨_,_,_,rfl,bb⟩
        ·cases bu
       obtain⟨q,n,c,rfl,an⟩:=gJ;simp only[cP,au,eA,he,el,pu,uy];exact k _ (.val an)
      ·obtain⟨q,n,c,rfl,fg,e1,js,an⟩:=amf bu bb;simp only[cP,au,eA,he,uy];rcases ft with⟨el,rfl⟩ | ⟨ff,It,el,rfl⟩<;>rcases gO with⟨pu,rfl⟩ | ⟨amn,Iu,pu,rfl⟩<;>simp only[el,pu]
       ·rename_i bH;exact(bH rfl rfl).elim
       ·simp only[ux,kX]at fg e1 an;refine⟨0,Iu,rfl,rfl,dh _,e1,k _ (.val ?_)⟩;simp only[zE,EA]at an;have dC:(if c=0 then q else q.map λx=>x.add 0)=q:=by
         split;·rfl
         ·cases q with
          |none=>rfl| some q=>simp[Addr.add]
        rw[dC]at an;exact an
       ·simp only[ux,kX]at fg e1 an;exact⟨It,n,rfl,rfl,fg,cf _,k _ (.val an)⟩
       ·simp only[ux,kX]at fg e1 an;exact⟨It,Iu,rfl,rfl,fg,e1,k _ (.val an)⟩
     ·rename_i sa sX sz str L9 ck au cy dX k3;cases cy;cases dX;cases k3;rw[bb.str]at eA;have bu:Rh str l cU=some v:=h;unfold Rh at bu;split at bu
      ·have el:lo.map (dL (dG F))=none:=by
        rcases ft with⟨el,_⟩ | ⟨_,_,_,el⟩;·exact el
        ·cases el
       have pu:hi.map (dL (dG F))=none:=by
        rcases gO with⟨pu,_⟩ | ⟨_,_,_,pu⟩;·exact pu
        ·cases pu
       cases bu;simp only[cP,au,eA,el,pu];exact k _ (.val i4)
      ·obtain⟨ah,bu⟩:=f' bu;cases bu;rw[cH]at ah;have b1:=bJ ah.1;have b8:=bJ ah.2;have dy:(⟨str.toArray⟩:ByteArray).size=str.length:=by simp[ByteArray.size]
       simp only[cP,au,eA];rcases ft with⟨el,rfl⟩ | ⟨ff,It,el,rfl⟩<;>rcases gO with⟨pu,rfl⟩ | ⟨amn,Iu,pu,rfl⟩<;>simp only[el,pu]
       ·rename_i bH;exact(bH rfl rfl).elim
       ·simp only[ux,kX]at b1 b8;exact⟨0,Iu,rfl,rfl,dh _,by rw[dy];exact b8,k _ (.val (by simp only[aY,ux,kX,RT]))⟩
       ·simp only[ux,kX]at b1 b8;exact⟨It,str.length,rfl,by rw[dy];rfl,b1,by rw[dy];exact cf _,k _ (.val (by simp only[aY,ux,kX,RT,dy]))⟩
       ·simp only[ux,kX]at b1 b8;exact⟨It,Iu,rfl,rfl,b1,by rw[dy];exact b8,k _ (.val (by simp only[aY,ux,kX,RT]))⟩
     ·cases h
 ·
  rename_i x i;unfold ZB at h;split at h;·rename_i vs aa;obtain⟨u,aN,bb⟩:=H.bI (x:=x) co aa;obtain⟨us,fP,rfl⟩:=bb.RK;rw[Au]at h;obtain⟨w,hw,an⟩:=fP.get h;have eA:dL (dG F) x=.val (.tuple us.toArray):=aN;simp only[cP,eA,hw];exact k _ (.val an)
  ·cases h
 ·
  rename_i s d x;unfold ZC at h;split at h;·rename_i gw eW n aw aj aa;cases h;obtain⟨u,aN,bb⟩:=H.bI (x:=x) co aa;rw[bb.int]at aN;have eA:dL (dG F) x=.val (.int eW n):=aN;simp only[cP,aw,aj,eA];exact⟨_,rfl,k _ (.val (by simp only[aY];rw[As]))⟩
  ·cases h
 ·
  rename_i b args ts;exact ami aQ h (by simpa[Op.operands,Call.operands]using H) k
 ·cases h
end
def bU.set(D:bU)(id:Nat)(a:Loc):bU:=λi=>if i=id then some a else D i
def bU.p8(D:bU)(id:Nat)(a:Loc):(D.set id a) id=some a:=by simp[bU.set]
def bU.le_refl(D:bU):D.le D:=λ_ _ h=>h
def bU.le_trans{D bE Iv:bU}(h:D.le bE)(k:bE.le Iv):D.le Iv:=λi a e=>k _ _ (h _ _ e)
def bU.Ax{D:bU}{id:Nat}(a:Loc)(h:D id=none):D.le (D.set id a):=λi b ah=>by
 unfold bU.set;split
 ·rename_i e;subst e;rw[h]at ah;cases ah
 ·exact ah
def bU.ext(D bE:bU)(n:Nat):Prop:=∀ i,i<n->bE i=D i
def bU.pw{D:bU}{n:Nat}:D.ext D n:=λ_ _=>rfl
def bU.Fi{D:bU}{n:Nat}{a:Loc}:D.ext (D.set n a) n:=λi hi=>by unfold bU.set;rw[bK Z]
section
variable{Y:gX}{D bE:bU}{m:bx}{I I':aI}{M M':List aD}{R:Type}
def Il.mono{G:GT}(h:Il G I)(bG:∀ b o,I b=some o->I' b=some o):Il G I':=λg cs az=>by obtain⟨arr,T,f,aa,ab⟩:=h g cs az;exact⟨arr,T,f,bG _ _ aa,ab⟩
def dq.le(h:dq Y D m I M)(dH:D.ext bE m.n):D.le bE:=λi a a8=>by rw[dH i (h.j2 _ _ a8)];exact a8
def dq.step(h:dq Y D m I M){be:bk fD}{i':Nat}{dC:fD}{a:Loc}(au:∀ id e,be.get id=some e->(id=j/\dC=e)\/(id≠j/\m.t.get id=some e))(ai:bE j=some a)(bo:D.le bE)(dH:∀ i,i≠j->bE i=D i)(amo:∀ id a,bE id=some a->id<i')(bG:∀ b o,I b=some o->I' b=some o)(wh:∀ id e bT,id≠j->m.t.get id=some e->D id=some bT->∀ x∈M,x.num=bT.b->x∈M')
  (he:lR bE Y.E M' a dC) (B':∀ id e bT,id≠j->m.t.get id=some e->D id=some bT->bT.b≠a.b):dq Y bE ⟨be,i'⟩ I' M' where
 ja id e cO az aa:=by
  rcases au id e az with⟨aN,bc⟩ | ⟨bH,az⟩;·subst aN;subst bc;rw[ai]at aa;cases aa;exact he
  ·rw[dH id bH]at aa;exact(h.ja id e cO az aa).mono bo λx ae aE=>wh id e cO bH az aa x ae aE
 inj id jb e cY cO en az jF aa ab ah:=by
  rcases au id e az with⟨aN,bc⟩ | ⟨bH,az⟩
  ·rcases au jb cY jF with⟨cy,dX⟩ | ⟨Bo,jF⟩
   ·rw[aN,cy]
   ·rw[dH jb Bo]at ab;subst aN;rw[ai]at aa;cases aa;exact(B' jb cY en Bo jF ab ah.symm).elim
  ·rw[dH id bH]at aa;rcases au jb cY jF with⟨cy,dX⟩ | ⟨Bo,jF⟩
   ·subst cy;rw[ai]at ab;cases ab;exact(B' id e cO bH az aa ah).elim
   ·rw[dH jb Bo]at ab;exact h.inj id jb e cY cO en az jF aa ab ah
 j2:=amo
 qO:=h.qO.mono bG
def dq.fresh(h:dq Y D m I M):D m.n=none:=by
 cases dH:D m.n with
 |none=>rfl| some a=>exact absurd (h.j2 _ _ dH) (Nat.lt_irrefl _)
def dq.aq(h:dq Y D m I M){id:Nat}{e:fD}{a:Loc}(az:m.t.get id=some e)(a8:D id=some a):∃ x∈M,x.num=a.b:=by
 cases h.ja id e a az a8 with
 |cells arr ax aa=>exact⟨_,aa,rfl⟩| map l c aa=>exact⟨_,aa,rfl⟩| loop L aa=>exact⟨_,aa,rfl⟩| done L aa=>exact⟨_,aa,rfl⟩
def dq.new(h:dq Y D m I M){be:bk fD}{dC:fD}{a:Loc}{o:Obj}(au:∀ id e,be.get id=some e->(id=m.n/\some dC=some e)\/(id≠m.n/\m.t.get id=some e))(aC:∀ x∈M,x.num≠a.b)
  (he:lR (D.set m.n a) Y.E (⟨a.b,o⟩::M) a dC):dq Y (D.set m.n a) ⟨be,m.n+1⟩ I (⟨a.b,o⟩::M):=
 h.step (λid e az=>(au id e az).imp (λh=>⟨h.1,pt h.2⟩) λh=>h) (D.p8 _ _) (bU.Ax a h.fresh) (λi hi=>by unfold bU.set;rw[bK hi])
  (λid b ah=>by
   unfold bU.set at ah;split at ah;·omega
   ·have:=h.j2 _ _ ah;omega)
  (λ_ _ h=>h) (λ_ _ _ _ _ _ x ae _=>n2 _ ae) he
  (λid e bT _ az sS ah=>by
   obtain⟨x,ae,aE⟩:=h.aq az sS;exact aC x ae (aE.trans ah))
def lR.new{l:List av}{c:Nat}{b:Nat}{cs:bk av}(l2:∀ j x,cs.get j=some x->(0<=j/\l[j-0]?=some x)\/((j<0\/0+l.length<=j)/\(bk.nil:bk av).get j=some x))(ay:bQ D l vs)
  (af:∀ i,Y.E T=some i->(vs++aR).length=c*i.size) (ar:c<=maxLen):lR D Y.E (⟨b,.cells (vs++aR).toArray T (0,0)⟩::M) ⟨b,0,c⟩ (.cells cs T l.length):=by
 refine .cells (vs++aR).toArray rfl am (by simp[ay.len]) (λi v hi az=>?_) (λi hi=>by simpa using af i hi) ar;rcases l2 i v az with⟨_,aa⟩ | ⟨_,aa⟩
 ·obtain⟨x,ab,al⟩:=ay.get (i:=i) ol;have aV:=(jd.1 ab).1;exact⟨x,by simp only[dg,Bi];rw[sv aV];exact ab,al⟩
 ·cases aa
def Iw{e:fD}{K:Nat->bx->Option R}{r:R}(h:CJ m e K=some r):∃ be,(∀ id cY,be.get id=some cY->(id=m.n/\some e=some cY)\/(id≠m.n/\m.t.get id=some cY))/\K m.n ⟨be,m.n+1⟩=some r:=by unfold CJ at h;rw[RH]at h;obtain⟨be,aa,ab⟩:=bk.pk (some e) m.t m.n;rw[aa]at h;exact⟨be,ab,h⟩
def RW{l:List av}{K:Nat->bx->Option R}{r:R}(h:vm m l T K=some r):∃ m',K m.n m'=some r/\m'.n=m.n+1 /\
  ∀ {D:bU} {I:aI} {M:List aD} {vs:List Value} (aR:List Value) {b c:Nat},dq Y D m I M->(∀ x∈M,x.num≠b)->bQ D l vs->(∀ i,Y.E T=some i->(vs++aR).length=c*i.size)->c<=maxLen ->
   dq Y (D.set m.n ⟨b,0,c⟩) m' I (⟨b,.cells (vs++aR).toArray T (0,0)⟩::M):=by
 unfold vm at h;obtain⟨cs,aa,ab⟩:=bk.yA l (.nil:bk av) 0;rw[aa]at h;obtain⟨be,al,aL⟩:=Iw h;refine⟨_,aL,rfl,fun {D I M vs} aR {b c} hm aC ay af ar=>?_⟩;exact hm.new (a:=⟨b,0,c⟩) al aC (.new ab (ay.mono (bU.Ax _ hm.fresh)) af ar)
end
def amp(z:List Value)(n:Nat):rowOf z (z.length+n)=rowOf z z.length++rowOf z n:=by unfold rowOf;rw[List.range_add,cJ,gE];congr 1;apply fX;intro i _;simp[Nat.add_mod_left]
def amq(z:List Value):rowOf z z.length=z:=by
 unfold rowOf;apply oV
 ·simp
 ·intro i aa ab;simp only[gl,wN,z9 ab];simp[ab]
def RX(z:List Value):∀ n,rowOf z (n*z.length)=(List.replicate n z).flatten
 |0=>by simp[rowOf]
 |n+1=>by rw[J3,J2,amp,amq,RX z n,P',Px]
def aau(place:Nat->Option (Nat×Nat)):∀ (vs:List (Nat×Value)) (cs r:List Value),tb place cs vs=some r->r.length=cs.length
 |[],cs,r,h=>by simp only[tb]at h;cases h;rfl
 |(i,v)::vs,cs,r,h=>by
  simp only[tb]at h;split at h;·cases h
  ·rename_i off size aK;cases ah:(Nat.beq v.cells.size size&&Nat.ble (off+size) cs.length)with
   |false=>rw[ah]at h;cases h| true=>rw[ah]at h;simp only[cD]at h;rw[aau place vs _ _ h];rw[cH]at ah;have aa:=ei ah.1;have ab:=bJ ah.2;simp[cp];omega
def Ay(dst:Option Nat)(u:Value)(F df:Fr):Prop:=(∀ d,dst=some d->df d=.val u)/\∀ (D:bU) t v,dst≠some t->gG D (F t) v->gG D (df t) v
def Ay.put(dst:Option Nat)(u:Value)(F:Fr):Ay dst u F (put dst (.val u) F):=by
 constructor
 ·rintro d rfl;simp[Go.V.put,g0]
 ·intro D t v bH h;cases dst with
  |none=>exact h| some d=>have:t≠d:=λe=>bH (by rw[e]);simp only[Go.V.put,g0,hT this,cw];exact h
def Ay.qn(d:Nat)(u:Value)(F:Fr):Ay (some d) u F (g0 (qn F d) d (.val u)):=by
 constructor
 ·rintro _⟨⟩;simp[g0]
 ·intro D t v bH h;have:t≠d:=λe=>bH (by rw[e]);simp only[g0,hT this,cw];unfold Go.V.qn;rcases h with⟨amr,e,h⟩ | ⟨q,e,h⟩
  ·rw[e];exact .inl ⟨amr,rfl,h⟩
  ·rw[h];exact .inr ⟨q,e,rfl⟩
section
variable{X:c3}{G:GT}{pr:me}{D:bU}{m:bx}{F:Fr}{ap:bk av}{C:dB}{I:aI}{M:List aD}{K:gx}{o:Oper}
def aav(aQ:cX X.P X.E)(kA:∀ d,d<X.n->X.gP.contains d=true)(aj:∀ d,o.dst=some d->d<X.n){l:List av}{c:Nat}{mk:Nat->av}(h:CL X.E o ap=some (l,T,c,mk))(Ix:o.dst.isSome=true)(H:jx D F ap o.op.operands.toList)
  (k:∀ b vs u df C',I b=none->(∀ x∈M,x.num≠b)->bQ D l vs->(∀ i,X.E T=some i->vs.length=c*i.size)->c<=maxLen->(∀ (bE:bU) id,bE id=some ⟨b,0,c⟩->aY bE (mk id) u)->Ay o.dst u F df ->
   K df C' I (⟨b,.cells vs.toArray T (0,0)⟩::M)):g1 X o F C I M K:=by
 obtain⟨dst,op,ty,pos,after,guard⟩:=o;cases dst with
 |none=>cases Ix
 |some d=>
  have wm:X.gP.contains d=true:=kA d (aj d rfl);have aaw:∀ (b c:Nat) (bE:bU) id,bE id=some ⟨b,0,c⟩->aY bE (.p id 0) (.pointer (some ⟨b,0,none⟩)):=λb c bE id kq=>by simp only[aY];exact⟨_,kq,rfl⟩
  unfold CL at h;simp only at h H;split at h
  ·rename_i t x;unfold ZK at h;obtain⟨i,hi,h⟩:=cB h;obtain⟨v,an,h⟩:=cB h;obtain⟨ah,h⟩:=f' h;cases h;obtain⟨u,aN,bb⟩:=H.bI (x:=x) co an;have ar:=bb.cells;simp only[g1,aN,wm,cD];refine⟨λb aa ab=>?_⟩;have:=k b u.cells.toList (.pointer (some ⟨b,0,none⟩)) _ (jC C d none) aa ab ar (λgZ ck=>?_) bv (aaw b 1) (.qn d _ F)
   ·simpa using this
   ·rw[hi]at ck;cases ck;rw[ar.len,m6];exact ei ah
  ·rename_i t;unfold ZL at h;obtain⟨i,hi,h⟩:=cB h;obtain⟨z,bg,h⟩:=cB h;cases h;simp only[g1,hi,wm,cD];refine⟨λb aa ab=>?_⟩;exact k b i.zero (.pointer (some ⟨b,0,none⟩)) _ (jC C d none) aa ab (.Fa bg) (λgZ ck=>by rw[hi]at ck;cases ck;rw[(aQ _ _ hi).len,m6]) bv (aaw b 1) (.qn d _ F)
  ·rename_i t len parts;unfold ZM at h;split at h
   ·rename_i sa sX sz e vs au aK;obtain⟨aH,he,h⟩:=cB h;obtain⟨z,bg,h⟩:=cB h;obtain⟨us,aN,bb⟩:=H.parts (l:=parts.toList) (by intro y aF;simpa[Op.operands]using aF) aK;simp only[g1,au,aN,he];have x0:=(aQ _ _ he).len;cases ah:(Nat.ble (len*aH.size) 16777216&&Nat.blt 0 (len*aH.size))with
    |true=>
     have g2:(Nat.ble (Nat.mul len aH.size) 16777216&&Nat.blt 0 (Nat.mul len aH.size))=true:=ah;rw[kO,g2]at h;simp only[cD]at h |-;obtain⟨cs,al,aL⟩:=cB h;have dW:some (cs,e,len,λid=>av.sl id 0 len len)=some (l,T,c,mk):=aL;cases dW;have RY:bQ D (CK c z) (rowOf aH.zero (c*aH.size)):=by rw[<-x0,RX];exact(bQ.Fa bg).Hg c
     obtain⟨a',bB,cA⟩:=L1 al RY bb;rw[bB];refine⟨λb aa ab=>?_⟩;have c0:a'.length=c*aH.size:=by rw[aau _ _ _ _ bB];simp[rowOf]
     rw[cH]at ah;have iU:=bJ ah.1;have iR:0<c*aH.size:=bJ ah.2;exact k b a' (.slice (some ⟨b,0,none⟩) c c) _ C aa ab cA (λgZ ck=>by rw[he]at ck;cases ck;exact c0)
      (by
       have eB:0<aH.size:=Nat.pos_of_mul_pos_left iR;have:c<=c*aH.size:=Nat.le_mul_of_pos_right _ eB;simp only[maxLen];omega)
      (λbE id kq=>act) (.put _ _ F)
    |false=>
     have g2:(Nat.ble (Nat.mul len aH.size) 16777216&&Nat.blt 0 (Nat.mul len aH.size))=false:=ah;rw[kO,g2]at h;simp only[cw]at h |-;obtain⟨ar,h⟩:=f' h;cases h;rw[cH]at ar;have al:=ei ar.1;subst al;have aL:vs=[]:=by simpa using ar.2
     subst aL;cases bb;simp only;refine⟨λb aa ab=>?_⟩;exact k b [] (.slice (some ⟨b,0,none⟩) 0 0) _ C aa ab .nil (λgZ ck=>am) bv (λbE id kq=>act) (.put _ _ F)
   ·cases h
  ·rename_i t e' c';unfold ZN at h;split at h
   ·rename_i sa sX sz e hk aw1 au aa ab;obtain⟨aH,he,h⟩:=cB h;obtain⟨n,aE,h⟩:=cB h;obtain⟨q,aM,h⟩:=cB h;obtain⟨z,bg,h⟩:=cB h;obtain⟨ah,h⟩:=f' h;cases h;obtain⟨eW,rfl⟩:=Fh aE;obtain⟨c8,rfl⟩:=Fh aM;obtain⟨ko,aN,bb⟩:=H.bI (x:=e') co aa;obtain⟨iG,bc,bh⟩:=H.bI (x:=c') co ab;rw[bb.int]at aN;rw[bh.int]at bc;simp only[cH]at ah;simp only[g1,au,aN,bc,he];refine⟨n,c,rfl,rfl,bJ ah.1,bJ ah.2.1,bJ ah.2.2,⟨λb al aL=>?_⟩⟩;have x0:=(aQ _ _ he).len;have RY:bQ D (CK c z) (rowOf aH.zero (c*aH.size)):=by rw[<-x0,RX];exact(bQ.Fa bg).Hg c
    exact k b _ (.slice (some ⟨b,0,none⟩) n c) _ C al aL RY (λgZ ck=>by rw[he]at ck;cases ck;simp[rowOf]) (bJ ah.2.2) (λbE id kq=>act) (.put _ _ F)
   ·cases h
  ·cases h
end
def aax{i:Nat}(h:off+vs.length<=cs.length):(cp cs off vs)[i]?=if off<=i/\i<off+vs.length then vs[i-off]? else cs[i]?:=by
 unfold cp;by_cases aa:i<off
 ·rw[bK Z,sv d7,sv d7,lv,bY aa]
 ·by_cases ab:i<off+vs.length
  ·rw[bY ⟨Z,ab⟩,sv d7,l4 d7];simp;congr 1;omega
  ·rw[bK Z,l4 d7,nC];congr 1;simp;omega
def RZ(h:off+vs.length<=cs.length):(cp cs off vs).length=cs.length:=by simp[cp];omega
section
variable{Y:gX}{D:bU}{m:bx}{I:aI}{M:List aD}{R:Type}
def R0{x:av}{l:List av}{K:bx->Option R}{r:R}(h:yx m x l K=some r):∃ m',K m'=some r/\m'.n=m.n/\(∀ id,m'.t.get id≠none->m.t.get id≠none\/True) /\
  ∀ {D:bU} {I:aI} {M:List aD} {u:Value} {vs:List Value},dq Y D m I M->aY D x u->bQ D l vs ->
   ∃ (g off:Nat) (ba post:List aD) (arr:Array Value) (T:Nat),u=.pointer (some ⟨g,off,none⟩)/\M=ba++⟨g,.cells arr T (0,0)⟩::post/\off+vs.length<=arr.size/\fG vs=true /\ (∃ id e a,m.t.get id=some e/\D id=some a/\a.b=g) /\
    dq Y D m' I (ba++⟨g,.cells (cp arr.toList off vs).toArray T (0,0)⟩::post):=by
 unfold yx at h;split at h
 ·rename_i id off;split at h
  ·rename_i cs T fR az;cases ah:(Nat.ble (Nat.add off l.length) fR&&l.all av.one)with
   |false=>rw[ah]at h;cases h
   |true=>
    rw[ah]at h;simp only[cD]at h;rw[cH]at ah;have Az:off+l.length<=fR:=bJ ah.1;obtain⟨cs',aa,ab⟩:=bk.yA l cs off;rw[aa]at h;obtain⟨be,al,aL⟩:=bk.pk (some (fD.cells cs' T fR)) m.t id;rw[al]at h;refine⟨_,h,rfl,λ_ _=>.inr trivial,fun {D I M u vs} hm ae ay=>?_⟩;obtain⟨a,a8,rfl⟩:=ae.ptr;have he:=hm.ja _ _ _ az a8;obtain⟨arr,aG,bd,dy,ar,af,iz⟩:=he;have c0:=ay.len;obtain⟨ba,post,de⟩:=vj bd;have ir:off+vs.length<=arr.size:=by omega
    refine⟨a.b,off,ba,post,arr,T,by rw[aG,dg],de,ir,ay.one ah.2,⟨id,_,a,az,a8,rfl⟩,?_⟩;have e3:∀ x∈M,x.num≠a.b->x∈ba++⟨a.b,.cells (cp arr.toList off vs).toArray T (0,0)⟩::post:=λx ae aE=>by
     rw[de]at ae;rcases cW.1 ae with ae | ae;·exact cW.2 (.inl ae)
     ·rcases ez.1 ae with rfl | ae
      ·exact(aE rfl).elim
      ·exact cW.2 (.inr (n2 _ ae))
    refine hm.step (λi e hi=>(aL i e hi).imp (λq=>⟨q.1,pt q.2⟩) λq=>q) a8 (bU.le_refl D) (λ_ _=>rfl) hm.j2 (λ_ _ h=>h) (λi e bT bH hi qR x ae aE=>e3 x ae ?_) ?_ ?_;·rw[aE];exact λah=>bH (hm.inj _ _ _ _ _ _ hi az qR a8 ah)
    ·have AA:(cp arr.toList off vs).length=arr.size:=by rw[RZ Id];simp
     refine .cells (cp arr.toList off vs).toArray aG am (by simp[AA];exact dy) (λi v hi Iy=>?_) (λi hi=>by simp[AA];exact af i hi) iz;rw[aG,dg];simp only[Bi];rw[aax Id];rcases ab i v Iy with⟨bb,bh⟩ | ⟨bb,bh⟩;·have aV:=(jd.1 bh).1;rw[bY ⟨bb,Z⟩];exact ay.get bh
     ·rw[bK Z];have:=ar i v hi bh;rw[aG,dg]at this;simpa using this
    ·intro i e bT bH hi qR ah;exact bH (hm.inj _ _ _ _ _ _ hi az qR a8 ah)
  ·cases h
 ·cases h
def aay:∀ {l:List av} {a7 cE:List UInt8} {vs:List Value},H' l a7=some cE->bQ D l vs->∃ cs,cE=a7.reverse++cs/\vs=cs.map (λb=>.int .u8 b.toNat)
 |[],a7,cE,vs,h,ay=>by simp only[H']at h;cases h;exact⟨[],(dE _).symm,ay.n4⟩
 |v::l,a7,cE,vs,h,ay=>by
  unfold H' at h;split at h;·rename_i e;cases e
  ·rename_i EF n e' e;cases e;cases ah:Nat.ble n 255 with
   |false=>rw[ah]at h;cases h| true=>rw[ah]at h;simp only[cD]at h;obtain⟨x,xs,aa,ab,rfl⟩:=ay.kP;have aE:=bJ ah;obtain⟨cs,rfl,rfl⟩:=aay h ab;refine⟨UInt8.ofNat n::cs,am,?_⟩;rw[aa.int];simp only[ch,wF,and_true,Value.int.injEq,true_and];rw[UInt8.toNat_ofNat_of_lt' (show n<256 by omega)];rfl
  ·cases h
def aaz{l:List av}{cE:List UInt8}(h:Rq l=some cE)(ay:bQ D l vs):vs=cE.map (λb=>.int .u8 b.toNat):=by obtain⟨cs,rfl,rfl⟩:=aay h ay;rfl
inductive AB:TypeDesc->av->Prop
 |int{k n}:AB (.int k) (.i k n)| str {l}:AB .string (.s l)
theorem aaA(aQ:cX P E){k:Nat}{y:av}(h:LK (E k) y=true):∃ d,P.underlying k=some d/\AB d y:=by
 unfold LK at h;split at h
 ·rename_i gw fI n af;have:=IntKind.DN h;subst this;obtain⟨d,hu,aj⟩:=(aQ _ _ af).fA;refine⟨d,hu,?_⟩;have:d=.int gw:=by cases d<;>simp_all[fz]
  subst this;exact .int
 ·rename_i l af;obtain⟨d,hu,aj⟩:=(aQ _ _ af).fA;refine⟨d,hu,?_⟩;have:d=.string:=by cases d<;>simp_all[fz]
  subst this;exact .str
 ·cases h
def AB.isKey{d:TypeDesc}{y:av}{u:Value}(h:AB d y)(aF:aY D y u):MapKept.IsKey d u:=by
 cases h with
 |int=>rw[aF.int];rfl| str=>rw[aF.str];trivial
def aaB(a b:ByteArray):(a == b)=decide (a=b):=by rw[my,MapKept.bytes_beq];simp
def Fj{d:TypeDesc}{y x:av}{u:Value}{r:Bool}(h:AB d y)(aF:aY D y u)(ae:aY D x w)(he:EY y x=some r):Instr.sameNow d u w=some r:=by
 cases h with
 | @int k n=>
  rw[aF.int];unfold EY at he;split at he;·rename_i e;cases e
  ·rename_i eW a c8 b e;cases e;obtain⟨aa,ab⟩:=f' he;have:=IntKind.DN aa;subst this;cases ab;rw[ae.int];simp only[Instr.sameNow,ta,CO];congr 1
  ·rename_i e;cases e
  ·cases he
 | @str l=>
  rw[aF.str];unfold EY at he;split at he;·rename_i e;cases e
  ·rename_i e;cases e
  ·rename_i a b e;cases e;cases he;rw[ae.str];simp only[Instr.sameNow];rw[aaB,L2,E']
  ·cases he
def aaC{d:TypeDesc}{y:av}{u:Value}(h:AB d y)(aF:aY D y u):∀ {es:List (av×av)} {l:List MapEntry} {r:Option av} (i:Nat),qQ D es l->Ia y es=some r ->
  match r with
  |none=>Instr.findNow d u l i=some none| some v=>∃ j w,Instr.findNow d u l i=some (some (j,w))/\aY D v w
 |[],_,r,i,.nil,ay=>by simp only[Ia]at ay;cases ay;rfl
 |(x,v)::es,_,r,i,.cons (e:=e) (l:=l) af an t,ay=>by
  simp only[Ia]at ay;split at ay;·rename_i he;cases ay;refine⟨i,e.val,?_,an⟩;simp only[Instr.findNow,Fj h aF af he]
  ·rename_i he;have aX:=aaC h aF (i+1) t ay;simp only[Instr.findNow,Fj h aF af he];exact aX
  ·cases ay
def aaD{d:TypeDesc}{y v:av}{u w:Value}(h:AB d y)(aF:aY D y u)(an:aY D v w):∀ {es vq:List (av×av)} {l:List MapEntry} (i:Nat),qQ D es l->Ib y v es=some vq -> (Instr.findNow d u l i=some none/\∀ b,qQ D vq (l++[{ key:=u,val:=w,born:=b }])) \/ ∃ j e,Instr.findNow d u l i=some (some (i+j,e.val))/\l[j]?=some e/\Instr.sameNow d u e.key=some true/\qQ D vq (l.modify j λe=>{ e with key:=u,val:=w })
 |[],vq,_,i,.nil,ay=>by simp only[Ib]at ay;cases ay;exact .inl ⟨rfl,λb=>.cons aF an .nil⟩
 |(x,nr)::es,vq,_,i,.cons (e:=e) (l:=l) af jS t,ay=>by
  simp only[Ib]at ay;split at ay
  ·rename_i he;cases ay;refine .inr ⟨0,e,?_,rfl,Fj h aF af he,?_⟩
   ·simp only[Instr.findNow,Fj h aF af he,pF]
   ·simp only[List.modify_zero_cons];exact .cons aF an t
  ·rename_i he;split at ay
   ·rename_i r ag;cases ay;rcases aaD h aF an (i+1) t ag with⟨aa,ab⟩ | ⟨j,cY,aa,ab,al,aL⟩
    ·refine .inl ⟨?_,λb=>.cons af jS (ab b)⟩;simp only[Instr.findNow,Fj h aF af he];exact aa
    ·refine .inr ⟨j+1,cY,?_,In,al,?_⟩
     ·simp only[Instr.findNow,Fj h aF af he];rw[aa];congr 3;omega
     ·simp only[List.modify_succ_cons];exact .cons af jS aL
   ·cases ay
  ·cases ay
end
section
variable{P:Program}{w:World}
def ams{k e:Nat}(au:P.underlying t=some (.map k e)){d:TypeDesc}(af:P.underlying k=some d){u:Value}(xd:MapKept.IsKey d u){l:List MapEntry}(az:w.heap[g]?=some (.map l.toArray clock))
  {q:Option (Nat×Value)} (aC:Instr.findNow d u l 0=some q) {inf:TypeInfo} {z:Value} (hi:P.info? e=some inf) (bg:inf.zero=some z) (ok:Bool) :
  (Instr.lookup t (.map (some g)) u ok).run P w=.ok (bif ok then .tuple #[(q.map (·.2)).getD z,.bool q.isSome]else(q.map (·.2)).getD z) w:=by
 have ar:(Instr.checkKey l.toArray.isEmpty 10000 k u).run P w=.ok () w:=Eg af xd _ 9999;have u6:(Instr.findKey k u l).run P w=.ok q w:=Eh af aC;have L':(zeroValue e).run P w=.ok z w:=by simp[zeroValue,typeInfo,hi,bg]
 unfold Instr.lookup;simp only[cz,run_underlying au,cd,Ef az,dn,ar,u6];cases q with
 |none=>cases ok<;>simp[L']
 |some p=>cases ok<;>simp
def amt{k e:Nat}(au:P.underlying t=some (.map k e)){d:TypeDesc}(af:P.underlying k=some d){u v:Value}(xd:MapKept.IsKey d u){l:List MapEntry}(az:w.heap[g]?=some (.map l.toArray clock))
  (aC:Instr.findNow d u l 0=some none):(Instr.mapUpdate t (.map (some g)) u v).run P w=.ok () { w with heap:=w.heap.setIfInBounds g (.map (l++[({ key:=u,val:=v,born:=clock }:MapEntry)]).toArray (clock+1)) }:=by
 have ar:(Instr.checkKey false 10000 k u).run P w=.ok () w:=Eg af xd _ 9999;have u6:(Instr.findKey k u l).run P w=.ok none w:=Eh af aC;unfold Instr.mapUpdate;simp only[cz,run_underlying au,cd,Ef az,ar,u6,Pv _ az];congr 3;simp
def amu{k e:Nat}(au:P.underlying t=some (.map k e)){d:TypeDesc}(af:P.underlying k=some d){u v:Value}(xd:MapKept.IsKey d u){l:List MapEntry}(az:w.heap[g]?=some (.map l.toArray clock))
 {cY:MapEntry} (aC:Instr.findNow d u l 0=some (some (j,cY.val))) (ai:l[j]?=some cY) (aw:cY.key=u) :
  (Instr.mapUpdate t (.map (some g)) u v).run P w=.ok () { w with heap:=w.heap.setIfInBounds g (.map (l.modify j λe=>{ e with key:=u,val:=v }).toArray clock) }:=by
 have ar:(Instr.checkKey false 10000 k u).run P w=.ok () w:=Eg af xd _ 9999;have u6:(Instr.findKey k u l).run P w=.ok (some (j,cY.val)) w:=Eh af aC;have fB:(Instr.keyThatStays u u).run P w=.ok u w:=MapKept.run_keyThatStays xd;unfold Instr.mapUpdate;simp only[cz,run_underlying au,cd,Ef az,ar,u6];simp only[Bi,ai,lx,kX,aw,fB,cd,Pv _ az];congr 3;show Obj.map _ _=Obj.map _ _;congr 1;apply lY;simp
end
section
variable{X:c3}{G:GT}{pr:me}{D:bU}{m m':bx}{F:Fr}{ap:bk av}{C:dB}{I:aI}{M:List aD}{K:gx}{o:Oper}{v:av}
def rS(X:c3)(G:GT)(pr:me)(D:bU)(m:bx)(I:aI)(M:List aD)(v:av)(m':bx)(dst:Option Nat)(F:Fr)(C:dB)(K:gx):Prop:=
 ∀ bE u M',D.ext bE m.n->aY bE v u->dq (eg X G pr) bE m' I M'->K (put dst (.val u) F) C I M'
def amv(aG:o.op=.store t x y)(h:bw o.dst (LI (X.E t) m (dF ap x) (dF ap y)) (λ_=>none)=some (v,m'))(H:jx D F ap o.op.operands.toList)(hm:dq (eg X G pr) D m I M)
  (k:rS X G pr D m I M v m' o.dst F C K):g1 X o F C I M K:=by
 obtain⟨dst,op,ty,pos,after,guard⟩:=o;simp only at aG;subst aG;cases dst with
 |some d=>cases h
 |none=>
  have aa:LI (X.E t) m (dF ap x) (dF ap y)=some (v,m'):=h;unfold LI at aa;obtain⟨i,hi,aa⟩:=cB aa;obtain⟨a,ae,aa⟩:=cB aa;obtain⟨b,aF,aa⟩:=cB aa;obtain⟨ah,aa⟩:=f' aa;obtain⟨m2,ab,-,-,al⟩:=R0 (Y:=eg X G pr) aa;cases ab;simp only at H;have qS:=H x co _ ae;have yC:∀ q,a≠.b q:=λq e=>by subst e;cases aa
  obtain⟨u,aN,bb⟩:=qS.w8 yC;obtain⟨w,bc,bh⟩:=H.bI (x:=y) co aF;obtain⟨g,off,ba,post,arr,T,rfl,bd,ir,oQ,⟨id,e,jv,kq,En,az⟩,mM⟩:=al hm bb bh.cells;simp only[g1,hi,bc,aN];have dy:Nat.beq w.cells.size i.size=true:=by have:=bh.cells.len;rw[wx]at this;rw[this];exact ah
  rw[dy];simp only[cD];refine⟨ba,post,arr,T,bd,rfl,ir,oQ,?_⟩;exact k D (.tuple #[]) _ bU.pw (by simp only[aY];exact⟨[],.nil,rfl⟩) mM
def aaE(aj:∀ d,o.dst=some d->d<X.n)(bW:∀ c,o.op≠.defer c)
  (h:∀ (β:Nat->Nat) (a:Act) (w:World),cT X β a w F C I M->∃ u w' I' M',(execOp a.eval o).run X.P w=.ok (.value u) w'/\cT X β a w' F C I' M'/\K (put o.dst (.val u) F) C I' M'):bz X o F C I M K:=by
 refine⟨λa w Q ⟨β,aZ⟩=>?_⟩;obtain⟨u,w',I',M',aa,ab,al⟩:=h β a w aZ;exact iQ bW aa ⟨_,_,_,_,⟨β,ab.put (x:=.val u) aj rfl⟩,al⟩
def amw(aj:o.dst=none)(bW:∀ c,o.op≠.defer c)
  (h:∀ (β:Nat->Nat) (a:Act) (w:World),cT X β a w F C I M->∃ w' I' M',(execOp a.eval o).run X.P w=.ok .skip w'/\cT X β a w' F C I' M'/\K F C I' M'):bz X o F C I M K:=by
 refine⟨λa w Q ⟨β,aZ⟩=>?_⟩;obtain⟨w',I',M',aa,ab,al⟩:=h β a w aZ;refine DL bW aa ⟨_,_,_,_,⟨β,?_⟩,al⟩;rw[aj];exact ab
theorem aaF(aQ:cX X.P X.E)(aj:∀ d,o.dst=some d->d<X.n){r:Option Operand}(aG:o.op=.makeMap t r)(h:LJ (X.E t) m=some (v,m'))(ag:∀ x,r=some x->∃ k n,bI F x=.val (.int k n))(hm:dq (eg X G pr) D m I M)
  (k:rS X G pr D m I M v m' o.dst F C K):bz X o F C I M K:=by
 unfold LJ at h;split at h
 ·rename_i sa sX sz gw e au;obtain⟨d,fQ,eZ⟩:=(aQ _ _ au).fA;have aa:d=.map gw e:=by cases d<;>simp_all[fz]
  subst aa;obtain⟨be,ab,al⟩:=Iw h;cases al;refine aaE aj f9 fun β a w aZ=>?_;refine⟨.map (some w.heap.size),w.alloc (.map #[] 0),I,⟨w.heap.size,.map #[] 0⟩::M,?_,aZ.n' _,?_⟩
  ·unfold execOp;cases r with
   |none=>simp[aG,Instr.makeMap]| some x=>obtain⟨eW,rB,ae⟩:=ag x rfl;have PO:=dt aZ.ap ae;simp[aG,PO,Instr.makeMap,run_underlying fQ,asInt,q8]
  ·have aC:∀ x∈M,x.num≠w.heap.size:=aZ.holds.q7;refine k _ _ _ bU.Fi (by simp only[aY];exact⟨_,bU.p8 _ _ ⟨w.heap.size,0,0⟩,rfl⟩) (hm.new (a:=⟨w.heap.size,0,0⟩) ab aC ?_);exact .map [] 0 am .nil
 ·cases h
def lR.aaG{D:bU}{M:List aD}{a:Loc}{es:List (av×av)}(h:lR D E M a (.map es)):∃ l clock,(⟨a.b,.map l.toArray clock⟩:aD)∈M/\qQ D es l:=by
 cases h with
 |map l clock aa ab=>exact⟨l,clock,aa,ab⟩
def aY.map'{id:Nat}{u:Value}(h:aY D (.m id) u):∃ a,D id=some a/\u=.map (some a.b):=by simpa only[aY]using h
theorem amx(aQ:cX X.P X.E)(aj:∀ d,o.dst=some d->d<X.n){ok:Bool}(aG:o.op=.lookup t x y ok)(h:Rr X.P X.E t m (dF ap x) (dF ap y) ok=some (v,m'))(H:jx D F ap o.op.operands.toList)
  (hm:dq (eg X G pr) D m I M) (k:rS X G pr D m I M v m' o.dst F C K):bz X o F C I M K:=by
 unfold Rr at h;split at h
 ·rename_i sa sX sz gw e id amy au aa ab;obtain⟨xd,h⟩:=f' h;split at h
  ·rename_i es az;obtain⟨r,ag,h⟩:=cB h;obtain⟨inf,hi,h⟩:=cB h;obtain⟨z,bg,h⟩:=cB h;obtain⟨tj,Bw,h⟩:=cB h;cases h;obtain⟨d,fQ,eZ⟩:=(aQ _ _ au).fA;have fW:d=.map gw e:=by cases d<;>simp_all[fz]
   subst fW;obtain⟨dQ,sJ,CT⟩:=aaA aQ xd;rw[aG]at H;obtain⟨ko,aN,bb⟩:=H.bI (x:=x) co aa;obtain⟨iG,bc,bh⟩:=H.bI (x:=y) co ab;obtain⟨a,a8,rfl⟩:=bb.map';have he:=hm.ja _ _ _ az a8;obtain⟨l,clock,bd,R1⟩:=he.aaG;have lD:=aaC CT bh 0 R1 ag;have L':aY D tj z:=.of Bw;have fin:∀ {q:Option (Nat×Value)},Instr.findNow dQ iG l 0=some q->(r=none/\q=none\/∃ Iz j w,r=some Iz/\q=some (j,w)/\aY D Iz w)->bz X o F C I M K:=fun {q} aC aM=>by
    refine aaE aj f9 fun β ac w aZ=>?_;have fk:=ams (P:=X.P) (w:=w) fQ sJ (CT.isKey bh) (aZ.holds.m _ bd) aC hi bg ok;have ex:=dt aZ.ap aN;have nN:=dt aZ.ap bc;refine⟨bif ok then .tuple #[(q.map (·.2)).getD z,.bool q.isSome]else(q.map (·.2)).getD z,w,I,M,?_,aZ,k D _ M bU.pw ?_ hm⟩;·unfold execOp;simp only[aG,ex,nN,cz,fk,cd,dn]
    ·unfold ZO;rcases aM with⟨rfl,rfl⟩ | ⟨Iz,j,w',rfl,rfl,an⟩
     ·cases ok
      ·exact L'
      ·exact .LZ (.cons L' (.cons pp .nil))
     ·cases ok
      ·exact an
      ·exact .LZ (.cons an (.cons pp .nil))
   cases r with
   |none=>exact fin lD (.inl ⟨rfl,rfl⟩)| some Iz=>obtain⟨j,w,aC,an⟩:=lD;exact fin aC (.inr ⟨Iz,j,w,rfl,rfl,an⟩)
  ·cases h
 ·cases h
theorem aaH(aQ:cX X.P X.E){z:Operand}(aG:o.op=.mapUpdate t x y z\/o.op=.insert t x y z)(h:bw o.dst (Ic X.E t m (dF ap x) (dF ap y) (dF ap z)) (λ_=>none)=some (v,m'))(H:jx D F ap o.op.operands.toList)
  (hm:dq (eg X G pr) D m I M) (k:rS X G pr D m I M v m' o.dst F C K):bz X o F C I M K:=by
 cases Ix:o.dst with
 |some d=>rw[Ix]at h;cases h
 |none=>
  rw[Ix]at h k;have ax:Ic X.E t m (dF ap x) (dF ap y) (dF ap z)=some (v,m'):=h;have xP:∀ q,q=x\/q=y\/q=z->q∈o.op.operands.toList:=λq aM=>by
   rcases aG with aG | aG<;>rw[aG]<;>simp[Op.operands]<;>exact aM
  unfold Ic at ax;split at ax
  ·rename_i sa sX sz gw e id amy tj au aa ab al;obtain⟨xd,ax⟩:=f' ax;split at ax
   ·rename_i es az;obtain⟨vq,jV,ax⟩:=cB ax;obtain⟨be,aL,bB⟩:=bk.pk (some (fD.map vq)) m.t id;have jk:(m.t.n3 (some (fD.map vq)) id λt=>some (av.t [],(⟨t,m.n⟩:bx)))=some (v,m'):=ax;rw[aL]at jk;cases jk;obtain⟨d,fQ,eZ⟩:=(aQ _ _ au).fA;have fW:d=.map gw e:=by cases d<;>simp_all[fz]
    subst fW;obtain⟨dQ,sJ,CT⟩:=aaA aQ xd;obtain⟨ko,aN,bb⟩:=H.bI (x:=x) (xP x (.inl rfl)) aa;obtain⟨iG,bc,bh⟩:=H.bI (x:=y) (xP y (.inr (.inl rfl))) ab;obtain⟨tO,cy,b2⟩:=H.bI (x:=z) (xP z (.inr (.inr rfl))) al;obtain⟨a,a8,rfl⟩:=bb.map';have he:=hm.ja _ _ _ az a8;obtain⟨l,clock,bd,R1⟩:=he.aaG;have fin:∀ (e':List MapEntry) (CU:Nat),qQ D vq e'->(∀ w:World,w.heap[a.b]?=some (.map l.toArray clock)->(Instr.mapUpdate t (.map (some a.b)) iG tO).run X.P w=.ok () { w with heap:=w.heap.setIfInBounds a.b (.map e'.toArray CU) }) ->
      bz X o F C I M K:=λe' CU ra fk=>by
     obtain⟨ba,post,de⟩:=vj bd;have mN:M.Perm (⟨a.b,.map l.toArray clock⟩::(ba++post)):=by rw[de];exact lL
     refine amw Ix (by rcases aG with aG | aG<;>rw[aG]<;>simp) fun β ac w iT=>?_;have aZ:cT X β ac w F C I (⟨a.b,.map l.toArray clock⟩::(ba++post)):=iT.h6 (.perm mN .refl);have Fk:=iT.holds.m _ bd;have ex:=dt aZ.ap aN;have nN:=dt aZ.ap bc;have PP:=dt aZ.ap cy;have gy:=MapKept.heap_set (o':=Obj.map e'.toArray CU) Fk;refine⟨_,I,⟨a.b,.map e'.toArray CU⟩::(ba++post),?_,aZ.swap (w':={ w with heap:=w.heap.setIfInBounds a.b (.map e'.toArray CU) }) am gy.1 gy.2 ⟨rfl,rfl⟩,?_⟩
     ·unfold execOp;rcases aG with aG | aG<;>simp only[aG,ex,nN,PP,cz,fk w Fk,cd,dn]
     ·have nK:∀ q∈M,q.num≠a.b->q∈(⟨a.b,.map e'.toArray CU⟩:aD)::(ba++post):=λq aM aE=>by
       rcases ez.1 (mN.mem_iff.1 aM)with rfl | aM;·exact(aE rfl).elim
       ·exact n2 _ aM
      refine k D (.tuple #[]) _ bU.pw (by simp only[aY];exact⟨[],.nil,rfl⟩) ?_;refine hm.step (λi e hi=>(bB i e hi).imp (λq=>⟨q.1,pt q.2⟩) λq=>q) a8 (bU.le_refl D) (λ_ _=>rfl) hm.j2 (λ_ _ h=>h) (λi e bT bH hi qR q aM aE=>nK q aM ?_) (.map e' CU am ra) ?_;·rw[aE];exact λah=>bH (hm.inj _ _ _ _ _ _ hi az qR a8 ah)
      ·exact λi e bT bH hi qR ah=>bH (hm.inj _ _ _ _ _ _ hi az qR a8 ah)
    rcases aaD CT bh b2 0 R1 jV with⟨aC,e3⟩ | ⟨j,cY,aC,ai,aw,La⟩;·exact fin _ (clock+1) (e3 clock) λw Fk=>amt fQ sJ (CT.isKey bh) Fk aC
    ·rw[dg]at aC;have x3:cY.key=iG:=by
      cases CT with
      |int=>
       have:=bh.int;subst this;cases af:cY.key<;>rw[af]at aw<;>simp[Instr.sameNow]at aw
       obtain⟨rfl,h⟩:=aw;rw[h]
      |str=>
       have:=bh.str;subst this;cases af:cY.key<;>rw[af]at aw<;>simp[Instr.sameNow,aaB]at aw
       rw[aw]
     exact fin _ clock La λw Fk=>amu fQ sJ (CT.isKey bh) Fk aC ai x3
   ·cases ax
  ·cases ax
end
section
variable{X:c3}{G:GT}{pr:me}{D:bU}{m m':bx}{F:Fr}{ap:bk av}{C:dB}{I:aI}{M:List aD}{K:gx}{o:Oper}{v:av}
def aaI(aQ:cX X.P X.E)(aj:∀ d,o.dst=some d->d<X.n){s d e:Nat}(aG:o.op=.convert s d x){cO b1 en b8:Nat}{yD R2:List Value}(aw:X.E s=some ⟨cO,b1,yD,.slice e⟩)(fW:X.E d=some ⟨en,b8,R2,.string⟩)(ah:E1 (X.E e)=true)
  {id off n:Nat} (h:LL G m id off n=some (v,m')) (ae:∃ a c,D id=some a/\bI F x=.val (.slice (some ⟨a.b,a.o+off,none⟩) n c)) (hm:dq (eg X G pr) D m I M)
  (k:rS X G pr D m I M v m' o.dst F C K):bz X o F C I M K:=by
 unfold LL at h;obtain⟨a,c,a8,ex⟩:=ae;obtain⟨ad,l,vs,aN,bj,ay,h⟩:=w9 (u:=.pointer (some ⟨a.b,a.o+off,none⟩)) hm f7 h;cases aN;obtain⟨cE,Eb,h⟩:=cB h;cases h;have je:=aaz Eb ay;have c0:cE.length=n:=by have:=bj.2;obtain⟨_,_,_,_,_,ab⟩:=this;rw[<-ab,je];simp
 subst je;obtain⟨aH,he,jV⟩:∃ aH,X.E e=some aH/\aH.bM=.int .u8:=by
  unfold E1 at ah;split at ah;·rename_i h;exact⟨_,h,rfl⟩
  ·cases ah
 refine bz.ali aQ aG aj aw rfl he jV fW rfl ex c0 bj ?_;exact k D _ M bU.pw i4 hm
def amz(aQ:cX X.P X.E)(aj:∀ d,o.dst=some d->d<X.n){s d:Nat}(aG:o.op=.convert s d x)(h:LM (eg X G pr) m s d (dF ap x)=some (v,m'))(H:jx D F ap o.op.operands.toList)(hm:dq (eg X G pr) D m I M)
  (k:rS X G pr D m I M v m' o.dst F C K):bz X o F C I M K:=by
 unfold LM at h;rw[aG]at H;split at h
 ·rename_i aa ab al;obtain⟨ah,h⟩:=f' h;obtain⟨u,aN,bb⟩:=H.bI (x:=x) co al;obtain⟨a,a8,rfl⟩:=bb.sW;exact aaI aQ aj aG aa ab ah h ⟨a,_,a8,aN⟩ hm k
 ·rename_i aa ab al;obtain⟨ah,h⟩:=f' h;obtain⟨u,aN,bb⟩:=H.bI (x:=x) co al;obtain⟨a,a8,_,rfl⟩:=bb.vo;exact aaI aQ aj aG aa ab ah h ⟨a,_,a8,aN⟩ hm k
 ·rename_i aa ab al;obtain⟨ah,h⟩:=f' h;obtain⟨u,aN,bb⟩:=H.bI (x:=x) co al;cases h;simp only[aY]at bb;subst bb;obtain⟨aH,he,jV⟩:∃ aH,X.E _=some aH/\aH.bM=.int .u8:=by
   unfold E1 at ah;split at ah;·rename_i h;exact⟨_,h,rfl⟩
   ·cases ah
  refine bz.alj aQ aG aj aa rfl he jV ab rfl aN ?_;exact k D _ M bU.pw i4 hm
 ·cases h
def aaJ(q:List UInt8):bQ D (q.map λb=>av.i .u8 (.ofNat b.toNat)) (lH ⟨q.toArray⟩):=by
 unfold lH;simp only
 induction q with
 |nil=>exact .nil| cons b q aX=>exact .cons pp aX
def Ma{l:List Operand}{a b:av}(h:ou ap l=some [a,b]):∃ x y,l=[x,y]/\dF ap x=some a/\dF ap y=some b:=by
 match l,h with
 |[],h=>simp[ou]at h
 |[x],h=>
  simp only[ou]at h;split at h;·rename_i aN bc;cases bc;cases h
  ·cases h
 |[x,y],h=>
  simp only[ou]at h;split at h
  ·rename_i aN bc;split at bc
   ·rename_i cy dX;cases dX;cases bc;cases h;exact⟨x,y,rfl,aN,cy⟩
   ·cases bc
  ·cases h
 |x::y::z::l,h=>
  simp only[ou]at h;split at h
  ·rename_i aN bc;split at bc
   ·rename_i cy dX;split at dX
    ·cases dX;cases bc;cases h
    ·cases dX
   ·cases bc
  ·cases h
def dq.sub{M':List aD}(h:dq (eg X G pr) D m I M)(aw:∀ x∈M,x∈M'):dq (eg X G pr) D m I M':=
 ⟨λid e a hi a8=>(h.ja id e a hi a8).mono (bU.le_refl D) (λx ae _=>aw x ae),h.inj,h.j2,h.qO⟩
def amA(aQ:cX X.P X.E)(aj:∀ d,o.dst=some d->d<X.n){ts:Array Nat}(aG:o.op=.call { callee:=.builtin .copy,args:=args,argTypes:=ts })(h:Rt (eg X G pr) m ts.toList (ou ap args.toList)=some (v,m'))
  (H:jx D F ap args.toList) (hm:dq (eg X G pr) D m I M) (k:rS X G pr D m I M v m' o.dst F C K):bz X o F C I M K:=by
 unfold Rt at h;split at h
 ·rename_i t u id off n c q au ay;split at h
  ·rename_i sa sX sz e oT;obtain⟨aH,he,h⟩:=cB h;obtain⟨ah,h⟩:=f' h;rw[cH]at ah;obtain⟨m2,ab,-,-,al⟩:=R0 (Y:=eg X G pr) h;cases ab;obtain⟨x,y,ng,CV,amB⟩:=Ma ay;obtain⟨ko,ae,bh⟩:=H.bI (x:=x) UV CV;obtain⟨iG,aF,gg⟩:=H.bI (x:=y) UV amB;obtain⟨a,a8,rfl⟩:=bh.sW;have amC:=gg.str;subst amC;obtain⟨g,Oo,ba,post,arr,T,cy,bd,ir,oQ,⟨jb,cY,jv,kq,En,az⟩,mM⟩:=al hm (u:=.pointer (some ⟨a.b,a.o+off,none⟩)) f7 (aaJ q);cases cy;have mN:M.Perm (⟨a.b,.cells arr T (0,0)⟩::(ba++post)):=by rw[bd];exact lL
   have CW:args=#[x,y]:=by apply lY;simpa using ng
   have CX:ts=#[t,u]:=by apply lY;simpa using au
   have dy:(⟨q.toArray⟩:ByteArray).size=q.length:=by simp[ByteArray.size]
   have kf:(lH ⟨q.toArray⟩).length=q.length:=by simp[lH]
   refine bz.Wi aQ (by rw[aG,CW,CX]) aj oT rfl he (ei ah.1) ae aF (by rw[dy];exact bJ ah.2) (by rw[dy,<-kf];exact ir) mN ?_;rw[dy];have R3:(ba++(⟨a.b,.cells (cp arr.toList (a.o+off) (lH ⟨q.toArray⟩)).toArray T (0,0)⟩:aD)::post).Perm (⟨a.b,.cells (cp arr.toList (a.o+off) (lH ⟨q.toArray⟩)).toArray T (0,0)⟩::(ba++post)):=lL;exact k D (.int .i64 q.length) _ bU.pw pp (mM.sub λx ae=>R3.mem_iff.1 ae)
  ·cases h
 ·cases h
end
end Go.V
