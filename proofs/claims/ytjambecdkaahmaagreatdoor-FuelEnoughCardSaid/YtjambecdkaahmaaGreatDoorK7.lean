/- Part 7 of what the proofs of this seat share: the executor, data in memory, walks.
-/
import Derived.Test.YtjambecdkaahmaaGreatDoorK5
import Derived.Test.YtjambecdkaahmaaGreatDoorK6
import Derived.Test.YtjambecdkaahmaaGreatDoorK4
import Derived.Test.YtjambecdkaahmaaGreatDoorK3
set_option linter.all false
namespace Go.V
open Go
def pc:=@List.mem_cons_of_mem
def wI:=@List.append_of_mem
def IL:=@List.drop_succ_cons
def Mx:=@List.getElem?_of_mem
def Be:=@Nat.add_eq
def My:=@decide_eq_decide
def R1:=@Int.natCast_nonneg
def Fu:=@Nat.mul_eq
def Fv:=@Nat.sub_eq
def Mz:=@decide_false
variable{α R:Type}{b:Bool}{x y rI os lo hi mx:Operand}{r dst:Option Nat}{vs xs cs oZ dd:List Value}{F:Fr}{E:Env}{M:List aF}{cO:IntKind}{t j sz off T g clock bW b1 m:Nat}{K:Value->Prop}{O:Prop}{dT ut:Option eE}{P:Program}{w mP:Value}{aP oO:eE}{args:Array Operand}{ts:Array Nat}{d pz:TypeDesc}{aq:Option Addr}
noncomputable section
inductive bn(α:Type) where
 |nil| node (x:Option α) (l r:bn α)
def cw{α:Type}(b:Bool)(x y:α):α:=@Bool.rec (λ_=>α) y x b
def cv{α R:Type}(o:Option α)(x:R)(f:α->R):R:=@Option.rec α (λ_=>R) x f o
section
variable{α R:Type}
def bn.get(t:bn α):Nat->Option α:=@bn.rec α (λ_=>Nat->Option α) (λ_=>none) (λx _ _ amv amw k=>cw (Nat.beq k 0) x (cw (Nat.beq (Nat.mod k 2) 1) (amv (Nat.div k 2)) (amw (Nat.sub (Nat.div k 2) 1)))) t
def bn.oC(v:Option α)(t:bn α):Nat->(bn α->R)->R:=@bn.rec α (λ_=>Nat->(bn α->R)->R) (λk K=>cw (Nat.beq k 0) (K (.node v .nil .nil)) (K .nil)) (λx l r sl amx k K=>cw (Nat.beq k 0) (K (.node v l r)) (cw (Nat.beq (Nat.mod k 2) 1) (sl (Nat.div k 2) λl=>K (.node x l r)) (amx (Nat.sub (Nat.div k 2) 1) λr=>K (.node x l r)))) t
def bn.Fw(t:bn α)(off n:Nat):(List α->Option R)->Option R:=@Nat.rec (λ_=>Nat->(List α->Option R)->Option R) (λ_ K=>K []) (λ_ be off K=>cv (t.get off) none λv=>be (Nat.add off 1) λl=>K (v::l)) n off
def bn.zS(l:List α)(t:bn α)(off:Nat)(K:bn α->R):R:=@List.rec α (λ_=>bn α->Nat->R) (λt _=>K t) (λv _ be t off=>t.oC (some v) off λt=>be t (Nat.add off 1)) l t off
def bn.bare:Nat->bn α
 |0=>.nil| n+1=>.node none (bn.bare n) (bn.bare n)
end
inductive ap where
 |b(x:Bool) | i (k:IntKind) (n:Int) | s (l:List UInt8)| pn | p (id off:Nat) | g (n off:Nat)| sn | sl (id off n c:Nat) | sx (id off e n:Nat) | gs (g off n c:Nat) | so| mn | m (id:Nat)| f (g:Nat) (l r:List ap) | y (id:Nat) | fn| ni | IM (t:Nat) (v:ap)| t (l:List ap) | a (l:List ap)
def ap.cells:ap->List ap
 | .a l=>l| v=>[v]
def ap.one:ap->Bool
 | .a _ | .t _=>false| _=>true
def IN:Value->Option ap
 | .bool x=>some (.b x)| .int k n=>some (.i k n)| .string q=>some (.s q.data.toList)| .pointer none=>some .pn| .slice none 0 0=>some .sn| .map none=>some .mn| .nilFunc=>some .fn| .nilIface=>some .ni| _=>none
def zT:List Value->Option (List ap)
 |[]=>some []
 |v::vs=>match IN v,zT vs with
  |some x,some l=>some (x::l)| _,_=>none
def Fx:Value->Option ap
 | .agg cs=>match zT cs.toList with
  |some l=>some (.a l)| none=>none
 |v=>IN v
def ap.nat:ap->Option Nat
 | .i _ (.ofNat n)=>some n| _=>none
inductive gn where
 |cells(cs:bn ap)(T ga:Nat)| map (es:List (ap×ap))| loop (busy:Bool) (n:Nat) (ak:bn ap) (ps:List Nat) (fO body:Code)| done (c:Code) (n:Nat) (ak:bn ap) (ps:List Nat) (fO body:Code)
structure bB where
 t:bn gn
 n:Nat
def nU:Int->Int->Bool
 | .ofNat a,.ofNat b=>Nat.beq a b| .negSucc a,.negSucc b=>Nat.beq a b| _,_=>false
def Dg:Int->Int->Bool
 | .ofNat a,.ofNat b=>Nat.ble a b| .negSucc a,.negSucc b=>Nat.ble b a| .negSucc _,.ofNat _=>true| .ofNat _,.negSucc _=>false
def D4(a b:Int):Bool:=!Dg b a
def R2(op:BinOp)(x y:Int):Option Bool:=match op with
 | .eql=>some (nU x y)| .neq=>some (!nU x y)| .lss=>some (D4 x y)| .leq=>some (Dg x y)| .gtr=>some (D4 y x)| .geq=>some (Dg y x)| _=>none
def MA:IntKind->Nat
 | .i8=>127 | .i16=>32767 | .i32=>2147483647 | .i64=>9223372036854775807| .u8=>255 | .u16=>65535 | .u32=>4294967295 | .u64=>18446744073709551615
def yd(k:IntKind):Int->Int
 | .ofNat n=>bif Nat.ble n (MA k)then .ofNat n else k.wrap (.ofNat n)| n=>k.wrap n
def aay:Int->Int->Int
 | .ofNat a,.ofNat b=>.ofNat (Nat.add a b)| a,b=>a+b
def R3:Int->Int->Int
 | .ofNat a,.ofNat b=>bif Nat.ble b a then .ofNat (Nat.sub a b)else(.ofNat a:Int) - .ofNat b| a,b=>a-b
def aaz:Int->Int->Int
 | .ofNat a,.ofNat b=>.ofNat (Nat.mul a b)| a,b=>a*b
def aaA:Int->Int->Int
 | .ofNat a,.ofNat b=>.ofNat (Nat.div a b)| a,b=>a.tdiv b
def aaB:Int->Int->Int
 | .ofNat a,.ofNat b=>.ofNat (Nat.mod a b)| a,b=>a.tmod b
def aaC:Int->Nat->Int
 | .ofNat a,j=>.ofNat (Nat.mul a (Nat.pow 2 j))| a,j=>a*2^j
def aaD:Int->Nat->Int
 | .ofNat a,j=>.ofNat (Nat.div a (Nat.pow 2 j))| a,j=>a.fdiv (2^j)
def Fy(op:BinOp)(k:IntKind)(x y:Int):Option Int:=
 match k,x,y with
 | .u64,.ofNat a,.ofNat b=>
  bif Nat.ble a 18446744073709551615&&Nat.ble b 18446744073709551615 then
   (match op with
   | .and=>some (.ofNat (Nat.land a b))| .or=>some (.ofNat (Nat.lor a b))| .xor=>some (.ofNat (Nat.xor a b))| .andNot=>some (.ofNat (Nat.land a (Nat.sub 18446744073709551615 b)))| _=>none)
  else none
 |_,_,_=>vu op k x y
def R4(a b:UInt8):Bool:=Nat.beq a.toNat b.toNat
def rJ:List UInt8->List UInt8->Bool
 |[],[]=>true| a::l,b::m=>bif R4 a b then rJ l m else false| _,_=>false
def Fz:ap->ap->Option Bool
 | .b x,.b w=>some (x == w)| .i k x,.i l w=>cw (IntKind.nk k l) (some (nU x w)) none| .s x,.s w=>some (rJ x w)| _,_=>none
def aaE:List ap->List ap->Option Bool
 |[],[]=>some true
 |x::l,w::m=>match Fz x w with
  |some true=>aaE l m
  |some false=>(match aaE l m with
   |some _=>some false| none=>none)
  |none=>none
 |_,_=>none
def auc:ap->ap->Option Bool
 | .pn,.pn=>some true| .pn,.p _ _=>some false| .p _ _,.pn=>some false| .pn,.g _ _=>some false| .g _ _,.pn=>some false| _,_=>none
def R5(op:BinOp)(k cO:IntKind)(a b:Int):Option ap:=match op with
 | .shl=>(match b with
  | .ofNat j=>some (.i k (yd k (aaC a (cw (Nat.ble j k.bits) j k.bits))))| _=>none)
 | .shr=>(match b with
  | .ofNat j=>some (.i k (aaD a (cw (Nat.ble j k.bits) j k.bits)))| _=>none)
 | .add=>cw (IntKind.nk k cO) (some (.i k (yd k (aay a b)))) none| .sub=>cw (IntKind.nk k cO) (some (.i k (yd k (R3 a b)))) none| .mul=>cw (IntKind.nk k cO) (some (.i k (yd k (aaz a b)))) none| .quo=>cw (IntKind.nk k cO) (cw (nU b 0) none (some (.i k (yd k (aaA a b))))) none| .rem=>cw (IntKind.nk k cO) (cw (nU b 0) none (some (.i k (aaB a b)))) none| .and=>cw (IntKind.nk k cO) (cv (Fy .and k a b) none λr=>some (.i k r)) none| .or=>cw (IntKind.nk k cO) (cv (Fy .or k a b) none λr=>some (.i k r)) none| .xor=>cw (IntKind.nk k cO) (cv (Fy .xor k a b) none λr=>some (.i k r)) none| .andNot=>cw (IntKind.nk k cO) (cv (Fy .andNot k a b) none λr=>some (.i k r)) none| op=>cw (IntKind.nk k cO) (cv (R2 op a b) none λr=>some (.b r)) none
def R6(op:BinOp)(a b:List UInt8):Option ap:=match op with
 | .eql=>some (.b (rJ a b))| .neq=>some (.b (cw (rJ a b) false true))| .add=>cw (Nat.ble (Nat.add a.length b.length) 9223372036854775807) (some (.s (a++b))) none| _=>none
def R7(op:BinOp)(dT:Option eE)(a b:Bool):Option ap:=match dT with
 |some { bT:=.bool,.. }=>
  (match op with
  | .eql=>some (.b (a == b))| .neq=>some (.b (!(a == b)))| _=>none)
 |_=>none
def FA(agg:Bool)(l:List ap):Option ap:=bif agg then some (.a l)else match l with
 |[v]=>some v| _=>none
def Dh:Nat->List ap->Option (List ap)
 |0,_=>some []| _+1,[]=>none
 |n+1,v::l=>match Dh n l with
  |some r=>some (v::r)| none=>none
def Di{α:Type}:List α->Nat->List α
 |[],_=>[]| v::l,n=>bif Nat.beq n 0 then v::l else Di l (Nat.sub n 1)
def wJ(E:Env)(t o:Nat)(l:List ap):Option ap:=cv (E t) none λi=>cw (Nat.beq i.size 0) none <| cv (Dh i.size (Di l o)) none λr=>FA i.bT.agg r
def Bf(F:Nat->ap->ap->Option Bool)(E:Env)(l m:List ap):List (Nat×Nat)->Option Bool
 |[]=>some true|(t,o)::r=>cv (wJ E t o l) none λx=>cv (wJ E t o m) none λy=>cv (F t x y) none λb=>cw b (Bf F E l m r) (some false)
def R8(P:Program)(t:Nat):Bool:=match P.underlying t with
 |some (.struct cT)=>!P.stoodInHeld t&&cT.toList.all λf=>decide (f.name ≠ "_")
 |_=>false
def rK(P:Program)(E:Env):Nat->Nat->ap->ap->Option Bool
 |0,_,_,_=>none
 |d+1,t,x,y=>cv (E t) none λi=>match i.bT,x,y with
  | .bool,.b a,.b b=>some (a == b)| .int _,.i k a,.i cO b=>cw (IntKind.nk k cO) (some (nU a b)) none| .string,.s a,.s b=>some (rJ a b)| .struct cT,.a l,.a m=>cw (R8 P t) (Bf (rK P E d) E l m cT) none| .array n e,.a l,.a m=>cv (E e) none λaP=>Bf (rK P E d) E l m ((List.range n).map λi=>(e,i*aP.size))
  |_,_,_=>none
def Dj(P:Program)(E:Env)(op:BinOp)(t:Nat)(l m:List ap):Option ap:=cw (P.eqGuardType P.depth t) none (cv (rK P E 8 t (.a l) (.a m)) none λb=>match op with
 | .eql=>some (.b b)| .neq=>some (.b (!b))| _=>none)
def R9:ap->Option Bool
 | .sn=>some true| .sl .. | .sx .. | .gs .. | .so=>some false| _=>none
def R':ap->Option Bool
 | .pn=>some true| .p .. | .g ..=>some false| _=>none
def MB(op:BinOp)(b:Bool):Option ap:=match op with
 | .eql=>some (.b b)| .neq=>some (.b (!b))| _=>none
def Sa(P:Program)(E:Env)(op:BinOp)(t:Nat)(x y:ap):Option ap:=
 match x,y with
 | .i k a,.i cO b=>R5 op k cO a b| .s a,.s b=>R6 op a b| .b a,.b b=>R7 op (E t) a b| .a l,.a m=>Dj P E op t l m
 |x,.sn=>cv (E t) none λi=>(match i.bT with
  | .slice _=>cv (R9 x) none λb=>MB op b
  |_=>none)
 |x,.pn=>cv (E t) none λi=>(match i.bT with
  | .pointer _=>cv (R' x) none λb=>MB op b
  |_=>none)
 |_,_=>none
def ye{α:Type}:List α->Nat->Option α
 |[],_=>none| v::l,n=>bif Nat.beq n 0 then some v else ye l (Nat.sub n 1)
def zU:List ap->Nat->List ap->Option (List ap)
 |cs,0,[]=>some cs
 |_::cs,0,v::vs=>match zU cs 0 vs with
  |some r=>some (v::r)| none=>none
 |c::cs,n+1,vs=>match zU cs n vs with
  |some r=>some (c::r)| none=>none
 |[],_,_=>none
def Bg(place:Nat->Option (Nat×Nat)):List ap->List (Nat×ap)->Option (List ap)
 |cells,[]=>some cells
 |cells,(i,v)::au=>match place i with
  |none=>none
  |some (off,size)=>bif Nat.beq v.cells.length size then(match zU cells off v.cells with
   |some cs=>Bg place cs au| none=>none)else none
def dG(ak:bn ap):Operand->Option ap
 | .tmp t=>ak.get t| .const v=>Fx v| .global g=>some (.g g 0)| .func f=>some (.f f [] [])
def pd(ak:bn ap):List Operand->Option (List ap)
 |[]=>some []
 |x::xs=>match dG ak x,pd ak xs with
  |some v,some l=>some (v::l)| _,_=>none
def FB(ak:bn ap):List (Nat×Operand)->Option (List (Nat×ap))
 |[]=>some []
 |(i,x)::xs=>match dG ak x,FB ak xs with
  |some v,some l=>some ((i,v)::l)| _,_=>none
abbrev GT:=Nat->Option (bn ap)
def yf{R:Type}(G:GT)(m:bn gn)(x:ap)(n:Nat)(K:List ap->Option R):Option R:=match x with
 | .p id off=>(match m.get id with
  |some (.cells cs _ ga)=>bif Nat.ble (Nat.add off n) ga then cs.Fw off n K else none| _=>none)
 | .g g off=>(match G g with
  |some cs=>cs.Fw off n K| none=>none)
 |_=>none
def IP(x:ap)(n:Nat):Option ap:=match x with
 | .p id off=>some (.p id (Nat.add off n))| .g g off=>some (.g g (Nat.add off n))| _=>none
def MC(x:ap)(j sz:Nat):Option ap:=match x with
 | .sl id off n _=>bif Nat.blt j n then some (.p id (Nat.add off (Nat.mul j sz)))else none| .sx id off _ n=>bif Nat.blt j n then some (.p id (Nat.add off (Nat.mul j sz)))else none| .gs g off n _=>bif Nat.blt j n then some (.g g (Nat.add off (Nat.mul j sz)))else none| _=>none
def yg:ap->Option Nat
 | .sn | .so=>some 0| .sl _ _ n _ | .sx _ _ _ n | .gs _ _ n _=>some n| _=>none
def tU(v:ap):Option Nat:=match v with
 | .s l=>some l.length| v=>yg v
def Sb(x:ap)(sz l:Nat)(h:Option Nat):Option ap:=match x with
 | .sn=>bif Nat.beq l 0&&Nat.beq (h.getD 0) 0 then some .sn else none
 | .sl id off n c=>let h:=h.getD n
  bif Nat.ble l h&&Nat.ble h c then bif Nat.beq c l then some (.sl id off (Nat.sub h l) 0)else some (.sl id (Nat.add off (Nat.mul l sz)) (Nat.sub h l) (Nat.sub c l))else none
 | .sx id off e n=>let h:=h.getD n
  bif Nat.ble l h&&Nat.ble h n then(bif Nat.beq l 0||Nat.blt l n then some (.sx id (Nat.add off (Nat.mul l sz)) (Nat.add e l) (Nat.sub h l))else some .so)else none
 |_=>none
def Dk(o:Option (Option ap)):Option (Option Nat):=match o with
 |none=>some none
 |some (some v)=>(match v.nat with
  |some n=>some (some n)| none=>none)
 |some none=>none
def Sc(l:List UInt8)(lo hi:Nat):List UInt8:=(Di l lo).take (Nat.sub hi lo)
def aaF(c a b:Option ap):Option ap:=match c,a,b with
 |some (.b c),some u,some v=>some (cw c u v)| _,_,_=>none
def aaG(op:UnOp)(x:Option ap):Option ap:=match op,x with
 | .not,some (.b b)=>some (.b (cw b false true))| .neg,some (.i k n)=>some (.i k (yd k (0-n)))| _,_=>none
def aaH(P:Program)(E:Env)(op:BinOp)(t:Nat)(x y:Option ap):Option ap:=cv x none λx=>cv y none λy=>Sa P E op t x y
def aaI(G:GT)(m:bn gn)(i:Option eE)(x:Option ap):Option ap:=cv i none λi=>cv x none λx=>yf G m x i.size λl=>FA i.bT.agg l
def aaJ(x:Option ap):Option ap:=match x with
 |some (.p id off)=>some (.p id off)| some (.g g off)=>some (.g g off)| _=>none
def MD(E:Env)(t i:Nat):Option (Nat×eE):=match E t with
 |some { bT:=.struct cT,.. }=>(match ye cT i with
  |some (nj,off)=>(match E nj with
   |some h1=>some (off,h1)| none=>none)
  |none=>none)
 |_=>none
def aaK(r:Option (Nat×eE))(x:Option ap):Option ap:=cv r none λr=>cv x none λx=>cw (Nat.beq r.2.size 0) none (IP x r.1)
def ME(aP:eE)(cs:List ap)(off:Nat):Option ap:=cw (Nat.beq aP.size 0) none <| cv (Dh aP.size (Di cs off)) none λl=>FA aP.bT.agg l
def aaL(r:Option (Nat×eE))(x:Option ap):Option ap:=match r,x with
 |some (off,h1),some (.a cs)=>ME h1 cs off| _,_=>none
def Sd(E:Env)(t:Nat):Option (Option Nat×eE):=match E t with
 |some { bT:=.slice e,.. }=>(match E e with
  |some aP=>some (none,aP)| none=>none)
 |some { bT:=.array n e,.. }=>(match E e with
  |some aP=>some (some n,aP)| none=>none)
 |_=>none
def aaM(r:Option (Option Nat×eE))(x i:Option ap):Option ap:=cv r none λr=>cv x none λx=>cv i none λi=>cv i.nat none λj=>
 cv r.1 (MC x j r.2.size) λn=>cw (Nat.blt j n) (IP x (Nat.mul j r.2.size)) none
def Se(l:List UInt8)(j:Nat):Option ap:=cv (ye l j) none λb=>some (.i .u8 (.ofNat b.toNat))
def aaN(cs:List ap)(j n:Nat)(aP:eE):Option ap:=cw (Nat.beq (Nat.mul n aP.size) cs.length&&Nat.blt j n) (ME aP cs (Nat.mul j aP.size)) none
def IQ(E:Env)(t:Nat)(x i:Option ap):Option ap:=match E t,x,i with
 |some { bT:=.string,.. },some (.s l),some i=>cv i.nat none λj=>Se l j
 |some { bT:=.array n e,.. },some (.a cs),some i=>cv (E e) none λaP=>cv i.nat none λj=>aaN cs j n aP
 |_,_,_=>none
def IR(o:Option (List ap)):Option ap:=cv o none λl=>some (.a l)
def aaO(E:Env)(t:Nat)(ps:Option (List (Nat×ap))):Option ap:=match E t,ps with
 |some i,some vs=>cv (zT i.zero) none λz=>(match i.bT with
  | .struct cT=>cw (D2 E cT) (IR (Bg (places E cT) z vs)) none| .array _ e=>cv (E e) none λaP=>IR (Bg (λj=>some (j*aP.size,aP.size)) z vs)
  |_=>none)
 |_,_=>none
def aaP(f:Fn)(cT cs:Option (List ap)):Option ap:=match f,cT,cs with
 | .func g,some cT,some cs=>some (.f g cT cs)| _,_,_=>none
def Sf(aP:eE)(x:ap)(lo hi:Option Nat):Option ap:=match lo,hi with
 |none,none=>(match x with
  | .sn | .sl .. | .sx .. | .so=>some x| _=>none)
 |lo,hi=>Sb x aP.size (lo.getD 0) hi
def Sg(l:List UInt8)(lo hi:Option Nat):Option ap:=match lo,hi with
 |none,none=>some (.s l)| lo,hi=>cw (Nat.ble (lo.getD 0) (hi.getD l.length)&&Nat.ble (hi.getD l.length) l.length) (some (.s (Sc l (lo.getD 0) (hi.getD l.length)))) none
def IS(E:Env)(t:Nat)(x:Option ap)(lo hi:Option (Option Nat)):Option ap:=match E t,x,lo,hi with
 |some { bT:=.slice e,.. },some x,some lo,some hi=>cv (E e) none λaP=>Sf aP x lo hi
 |some { bT:=.string,.. },some (.s l),some lo,some hi=>Sg l lo hi| _,_,_,_=>none
def aaQ(x:Option ap)(i:Nat):Option ap:=match x with
 |some (.t vs)=>ye vs i| _=>none
def aaR(E:Env)(s d:Nat)(x:Option ap):Option ap:=match E s,E d,x with
 |some _,some { bT:=.int k,.. },some (.i _ n)=>some (.i k (yd k n))| _,_,_=>none
def MF(o:Option Nat):Option ap:=cv o none λn=>some (.i .i64 (.ofNat n))
def aaS(E:Env)(ts:List Nat)(l:Option (List ap)):Option ap:=match ts,l with
 |[t],some [v]=>(match E t,v with
  |some { bT:=.slice _,.. },v=>MF (yg v)| some { bT:=.string,.. },.s l=>MF (some l.length)| some { bT:=.array n _,.. },_=>MF (some n)| _,_=>none)
 |_,_=>none
def aaT(l:Option (List ap)):Option ap:=match l with
 |some [.i k a,.i _ b]=>some (.i k (cw (Dg a b) b a))| _=>none
def aaU(l:Option (List ap)):Option ap:=match l with
 |some [.i k a,.i _ b]=>some (.i k (cw (Dg a b) a b))| _=>none
def aaV(E:Env)(ts:List Nat)(l:Option (List ap)):Option ap:=match ts,l with
 |[t],some [.sl _ _ _ c]=>(match E t with
  |some { bT:=.slice _,.. }=>some (.i .i64 (.ofNat c))| _=>none)
 |_,_=>none
def aaW(l:Option (List ap)):Option ap:=match l with
 |some [.sn]=>some .pn| some [.sl id off n c]=>cw (Nat.beq c 0) none (some (.p id off))| some [.sx id off e n]=>cw (Nat.beq n 0) none (some (.p id off))| _=>none
def Sh(E:Env)(b:Builtin)(ts:List Nat)(l:Option (List ap)):Option ap:=match b with
 | .len=>aaS E ts l| .max=>aaT l| .min=>aaU l| .cap=>aaV E ts l| .unsafeSliceData=>aaW l| _=>none
def Si(P:Program)(E:Env)(G:GT)(m:bn gn)(op:Op)(ak:bn ap):Option ap:=
 match op with
 | .move x=>dG ak x| .assign x=>dG ak x| .pick c a b=>aaF (dG ak c) (dG ak a) (dG ak b)| .unOp op _ x=>aaG op (dG ak x)| .binOp op t x y _=>aaH P E op t (dG ak x) (dG ak y)| .load t x=>aaI G m (E t) (dG ak x)| .nilCheck x=>aaJ (dG ak x)| .fieldAddr t x i=>aaK (MD E t i) (dG ak x)| .field t x i=>aaL (MD E t i) (dG ak x)| .indexAddr t x i=>aaM (Sd E t) (dG ak x) (dG ak i)| .index t x i=>IQ E t (dG ak x) (dG ak i)| .build t parts=>aaO E t (FB ak parts.toList)| .makeFunc f first captured=>aaP f (pd ak first.toList) (pd ak captured.toList)
 | .slice t x lo hi none=>IS E t (dG ak x) (Dk (lo.map (dG ak))) (Dk (hi.map (dG ak)))| .extract x i=>aaQ (dG ak x) i| .convert s d x=>aaR E s d (dG ak x)| .call { callee:=.builtin b,args,argTypes }=>Sh E b argTypes.toList (pd ak args.toList)| _=>none
def Sj(E:Env)(t:Nat)(x hi mx:Option ap):Option ap:=match E t,x,hi,mx with
 |some { bT:=.slice e,.. },some (.sl id off n c),some (.i _ (.ofNat h)),some (.i _ (.ofNat k))=>cv (E e) none λaP=>
  cw (Nat.ble h k&&(Nat.ble k c&&Nat.blt 0 k)) (some (.sl id off h k)) none
 |some { bT:=.slice e,.. },some (.sx id off aA n),some (.i _ (.ofNat h)),some (.i _ (.ofNat k))=>cv (E e) none λaP=>
  cw (Nat.ble h k&&(Nat.ble k n&&Nat.blt 0 k)) (some (.sl id off h k)) none
 |_,_,_,_=>none
def Sk(E:Env)(t:Nat)(x lo hi mx:Option ap):Option ap:=match E t,x,lo,hi,mx with
 |some { bT:=.slice e,.. },some (.sl id off n c),some (.i _ (.ofNat l)),some (.i _ (.ofNat h)),some (.i _ (.ofNat k))=>cv (E e) none λaP=>
  cw (Nat.ble l h&&(Nat.ble h k&&(Nat.ble k c&&Nat.blt l k))) (some (.sl id (Nat.add off (Nat.mul l aP.size)) (Nat.sub h l) (Nat.sub k l))) none
 |_,_,_,_,_=>none
def Sl(x:Option ap):Option ap:=match x with
 |some (.i .u64 n)=>some (.i .u64 (j8 n))| _=>none
def wK(P:Program)(E:Env)(G:GT)(m:bn gn)(op:Op)(ak:bn ap):Option ap:=
 match op with
 | .unOp .xor t x=>Sl (dG ak x)| .slice t x (some lo) (some hi) (some mx)=>Sk E t (dG ak x) (dG ak lo) (dG ak hi) (dG ak mx)| .slice t x none (some hi) (some mx)=>Sj E t (dG ak x) (dG ak hi) (dG ak mx)| op=>Si P E G m op ak
def sW{R:Type}(n:Nat)(K:Nat->R):R:=Nat.casesOn (Nat.add n 1) (K 0) K
def aaX{R:Type}(n:Int)(K:Int->R):R:=match n with
 | .ofNat n=>sW n λn=>K (.ofNat n)
 | .negSucc n=>sW n λn=>K (.negSucc n)
def aaY{R:Type}(b:Bool)(K:Bool->R):R:=cw b (K true) (K false)
def Sm{R:Type}(v:ap)(K:ap->R):R:=match v with
 | .b x=>aaY x λx=>K (.b x)
 | .i k n=>aaX n λn=>K (.i k n)
 | .p id off=>sW off λoff=>K (.p id off)
 | .g id off=>sW off λoff=>K (.g id off)
 | .sl id off n c=>sW off λoff=>sW n λn=>sW c λc=>K (.sl id off n c)
 | .sx id off e n=>sW off λoff=>sW e λe=>sW n λn=>K (.sx id off e n)
 |v=>K v
def Dl{R:Type}(m:bB)(e:gn)(K:Nat->bB->R):R:=sW m.n λn=>m.t.oC (some e) n λt=>K n ⟨t,Nat.add n 1⟩
def wL{R:Type}(m:bB)(l:List ap)(T:Nat)(K:Nat->bB->R):R:=bn.zS l .nil 0 λcs=>Dl m (.cells cs T l.length) K
def zV{R:Type}(m:bB)(x:ap)(l:List ap)(K:bB->Option R):Option R:=match x with
 | .p id off=>(match m.t.get id with
  |some (.cells cs T ga)=>bif Nat.ble (Nat.add off l.length) ga&&l.all ap.one then bn.zS l cs off λcs=>m.t.oC (some (.cells cs T ga)) id λt=>K ⟨t,m.n⟩else none
  |_=>none)
 |_=>none
def Dm:Nat->List ap->List ap
 |0,_=>[]| n+1,z=>z++Dm n z
def FC(i:Option eE):Bool:=match i with
 |some { bT:=.int .u8,.. }=>true| _=>false
def yh(u:Option eE)(aP:eE)(x:ap):Bool:=match u,x with
 |some { bT:=.slice _,.. },.sn=>true| some { bT:=.slice _,.. },.so=>true| some { bT:=.slice _,.. },.sl ..=>true| some { bT:=.slice _,.. },.sx ..=>true| some { bT:=.string,.. },.s _=>Nat.beq aP.size 1| _,_=>false
def FD(G:GT)(m:bn gn)(x:ap)(sz:Nat){R:Type}(K:List ap->Option R):Option R:=match x with
 | .sn | .so=>K []| .sl id off n _ | .sx id off _ n=>yf G m (.p id off) (Nat.mul n sz) K| .s l=>K (l.map λb=>.i .u8 (.ofNat b.toNat))| _=>none
def Sn(G:GT)(m:bB)(id off n c:Nat)(l:List ap)(k sz T:Nat):Option (ap×bB):=
 cw (Nat.ble (Nat.add n k) c) (zV m (.p id (Nat.add off (Nat.mul n sz))) l λm=>some (.sl id off (Nat.add n k) c,m)) (yf G m.t (.p id off) (Nat.mul n sz) λdS=>wL m (dS++l) T λid m=>some (.sx id 0 0 (Nat.add n k),m))
def So(m:bB)(id:Nat)(n:Nat)(cs:bn ap)(ga:Nat)(l:List ap)(k sz T:Nat):Option (ap×bB):=
 cw (Nat.ble (Nat.mul n sz) ga) (m.t.oC none id λt=>bn.zS l cs (Nat.mul n sz) λcs=>Dl ⟨t,m.n⟩ (.cells cs T (Nat.mul (Nat.add n k) sz)) λid m=>some (.sx id 0 0 (Nat.add n k),m)) none
def IT(G:GT)(m:bB)(s:ap)(l:List ap)(k sz bytes T:Nat):Option (ap×bB):=match s with
 | .sn=>cw (Nat.ble (Nat.mul k bytes) 140737488355328&&Nat.ble k 9223372036854775807) (wL m l T λid m=>some (.sx id 0 0 k,m)) none| .sl id off n c=>cw (Nat.ble (Nat.mul (Nat.add n k) bytes) 140737488355328&&Nat.ble (Nat.add n k) 9223372036854775807) (Sn G m id off n c l k sz T) none
 | .sx id off e n=>(match m.t.get id with
  |some (.cells cs n3 ga)=>cw ((Nat.beq off 0&&Nat.beq e 0)&&(Nat.beq n3 T&&(Nat.ble (Nat.mul (Nat.add n k) bytes) 140737488355328&&Nat.ble (Nat.add n k) 9223372036854775807))) (So m id n cs ga l k sz T) none| _=>none)
 |_=>none
def FE:List ap->Option (List UInt8)
 |[]=>some []
 | .i .u8 (.ofNat n)::l=>bif Nat.ble n 255 then(match FE l with
  |some r=>some (UInt8.ofNat n::r)| none=>none)else none
 |_=>none
def IU:ap->List (ap×ap)->Option (Option ap)
 |_,[]=>some none
 |k,(x,v)::l=>match Fz k x with
  |some true=>some (some v)| some false=>IU k l| none=>none
def IV(k v:ap):List (ap×ap)->Option (List (ap×ap))
 |[]=>some [(k,v)]
 |(x,u)::l=>match Fz k x with
  |some true=>some ((k,v)::l)
  |some false=>(match IV k v l with
   |some r=>some ((x,u)::r)| none=>none)
  |none=>none
abbrev mG:=Nat->List ap->bB->Option (ap×bB)
structure hF where
 P:Program
 E:Env
 G:GT
 pr:mG
def aaZ(i:Option eE)(t:Nat)(x:Option ap):Option (List ap×Nat×Nat×(Nat->ap)):=cv i none λi=>cv x none λv=>cw (Nat.beq v.cells.length i.size) (some (v.cells,t,1,λid=>.p id 0)) none
def aa0(i:Option eE)(t:Nat):Option (List ap×Nat×Nat×(Nat->ap)):=cv i none λi=>cv (zT i.zero) none λz=>some (z,t,1,λid=>.p id 0)
def aa1(E:Env)(t len:Nat)(ps:Option (List (Nat×ap))):Option (List ap×Nat×Nat×(Nat->ap)):=match E t,ps with
 |some { bT:=.slice e,.. },some vs=>cv (E e) none λaP=>cv (zT aP.zero) none λz=>
  cw (Nat.ble (Nat.mul len aP.size) 16777216&&Nat.blt 0 (Nat.mul len aP.size)) (cv (Bg (λj=>some (j*aP.size,aP.size)) (Dm len z) vs) none λcs=>some (cs,e,len,λid=>.sl id 0 len len)) (cw (Nat.beq len 0&&vs.isEmpty) (some ([],e,0,λid=>.sl id 0 0 0)) none)
 |_,_=>none
def aa2(E:Env)(t:Nat)(l c:Option ap):Option (List ap×Nat×Nat×(Nat->ap)):=match E t,l,c with
 |some { bT:=.slice e,.. },some l,some c=>cv (E e) none λaP=>cv l.nat none λn=>cv c.nat none λk=>cv (zT aP.zero) none λz=>
  cw (Nat.ble n k&&(Nat.ble (Nat.mul aP.bytes k) 140737488355328&&Nat.ble k 9223372036854775807)) (some (Dm k z,e,k,λid=>.sl id 0 n k)) none
 |_,_,_=>none
def Dn(E:Env)(o:Oper)(ak:bn ap):Option (List ap×Nat×Nat×(Nat->ap)):=
 match o.op with
 | .box t x=>aaZ (E t) t (dG ak x)| .alloc t=>aa0 (E t) t| .buildSlice t len parts=>aa1 E t len (FB ak parts.toList)| .makeSlice t l c=>aa2 E t (dG ak l) (dG ak c)| _=>none
def MG(i:Option eE)(m:bB)(x y:Option ap):Option (ap×bB):=cv i none λi=>cv x none λx=>cv y none λv=>cw (Nat.beq v.cells.length i.size) (zV m x v.cells λm=>some (.t [],m)) none
def MH(i:Option eE)(m:bB):Option (ap×bB):=match i with
 |some { bT:=.map k e,.. }=>Dl m (.map []) λid m=>some (.m id,m)
 |_=>none
def MI(i:Option eE)(v:ap):Bool:=match i,v with
 |some { bT:=.int k,.. },.i cO _=>IntKind.nk k cO| some { bT:=.string,.. },.s _=>true| _,_=>false
def aa3(ok:Bool)(z:ap)(r:Option ap):ap:=cw ok (cv r (.t [z,.b false]) λv=>.t [v,.b true]) (cv r z λv=>v)
def Sp(P:Program)(E:Env)(t:Nat)(m:bB)(x y:Option ap)(ok:Bool):Option (ap×bB):=match E t,x,y with
 |some { bT:=.map k e,.. },some (.m id),some y=>cw (MI (E k) y) (match m.t.get id with
  |some (.map es)=>cv (IU y es) none λr=>cv (P.info? e) none λinf=>cv inf.zero none λz=>cv (Fx z) none λz=>some (aa3 ok z r,m)
  |_=>none) none
 |_,_,_=>none
def IW(E:Env)(t:Nat)(m:bB)(x y z:Option ap):Option (ap×bB):=match E t,x,y,z with
 |some { bT:=.map k e,.. },some (.m id),some y,some v=>cw (MI (E k) y) (match m.t.get id with
  |some (.map es)=>cv (IV y v es) none λes=>m.t.oC (some (.map es)) id λt=>some (.t [],⟨t,m.n⟩)
  |_=>none) none
 |_,_,_,_=>none
def MJ(G:GT)(m:bB)(id off n:Nat):Option (ap×bB):=yf G m.t (.p id off) n λl=>cv (FE l) none λl=>some (.s l,m)
def MK(Y:hF)(m:bB)(s d:Nat)(x:Option ap):Option (ap×bB):=match Y.E s,Y.E d,x with
 |some { bT:=.slice e,.. },some { bT:=.string,.. },some (.sl id off n _)=>cw (FC (Y.E e)) (MJ Y.G m id off n) none| some { bT:=.slice e,.. },some { bT:=.string,.. },some (.sx id off _ n)=>cw (FC (Y.E e)) (MJ Y.G m id off n) none| some { bT:=.slice e,.. },some { bT:=.string,.. },some .sn=>cw (FC (Y.E e)) (some (.s [],m)) none| _,_,_=>none
def FF:ap->Bool
 | .sn | .so | .sx ..=>true| .sl _ _ n c=>Nat.ble n c| _=>false
def Sq(Y:hF)(m:bB)(ts:List Nat)(l:Option (List ap)):Option (ap×bB):=match ts,l with
 |[t,u],some [s,x]=>(match Y.E t with
  |some { bT:=.slice e,.. }=>cv (Y.E e) none λaP=>cw (yh (Y.E u) aP x) (FD Y.G m.t x aP.size λl=>cv (tU x) none λk=>
    cw (Nat.beq k 0) (cw (FF s) (some (s,m)) none) (cw (l.all ap.one) (IT Y.G m s l k aP.size aP.bytes e) none)) none
  |_=>none)
 |_,_=>none
def Sr(Y:hF)(m:bB)(ts:List Nat)(l:Option (List ap)):Option (ap×bB):=match ts,l with
 |[t,u],some [.sl id off n c,.s q]=>(match Y.E t with
  |some { bT:=.slice e,.. }=>cv (Y.E e) none λaP=>cw (Nat.beq aP.size 1&&Nat.ble q.length n) (zV m (.p id off) (q.map λb=>.i .u8 (.ofNat b.toNat)) λm=>some (.i .i64 (.ofNat q.length),m)) none
  |_=>none)
 |_,_=>none
def Ss(Y:hF)(m:bB)(ts:List Nat)(l:Option (List ap)):Option (ap×bB):=match ts,l with
 |[vH,it],some [.pn,.i .i64 (.ofNat 0)]=>some (.s [],m)
 |[vH,it],some [.p id 0,.i .i64 (.ofNat n)]=>(match Y.E vH,m.t.get id with
  |some { bT:=.pointer e,.. },some (.cells cs T ga)=>cv (Y.E e) none λaP=>
   cw (Nat.beq aP.size 1&&(Nat.beq T e&&Nat.blt 0 n)) (yf Y.G m.t (.p id 0) n λl=>cv (FE l) none λl=>cw (Nat.ble n 9223372036854775807) (m.t.oC none id λt=>some (.s l,⟨t,m.n⟩)) none) none
  |_,_=>none)
 |_,_=>none
def aa4(Y:hF)(m:bB)(b:Builtin)(ts:List Nat)(l:Option (List ap)):Option (ap×bB):=match b with
 | .append=>Sq Y m ts l| .copy=>Sr Y m ts l| .unsafeString=>Ss Y m ts l| _=>none
def St(Y:hF)(m:bB)(o:Oper)(ak:bn ap):Option (ap×bB):=
 match o.op with
 | .store t x y=>cv o.dst (MG (Y.E t) m (dG ak x) (dG ak y)) λ_=>none
 | .makeMap t none=>MH (Y.E t) m
 | .makeMap t (some x)=>(match dG ak x with
  |some (.i _ _)=>MH (Y.E t) m| _=>none)
 | .lookup t x y ok=>Sp Y.P Y.E t m (dG ak x) (dG ak y) ok| .mapUpdate t x y z=>cv o.dst (IW Y.E t m (dG ak x) (dG ak y) (dG ak z)) λ_=>none
 | .insert t x y z=>cv o.dst (IW Y.E t m (dG ak x) (dG ak y) (dG ak z)) λ_=>none
 | .convert s d x=>MK Y m s d (dG ak x)| .call { callee:=.builtin b,args,argTypes }=>aa4 Y m b argTypes.toList (pd ak args.toList)| _=>none
def l5(E:Env)(op:Op):Nat:=match op with
 | .move _ | .assign _ | .pick .. | .binOp .. | .load .. | .nilCheck _ | .fieldAddr .. | .field .. | .indexAddr .. | .index .. | .build .. | .makeFunc .. | .extract .. | .unOp .. | .slice ..=>0| .alloc _ | .box .. | .buildSlice .. | .makeSlice ..=>1
 | .convert s d _=>(match E d with
  |some { bT:=.int _,.. }=>0| _=>2)
 | .call { callee:=.builtin .len,argTypes,.. }=>(match argTypes.toList with
  |[t]=>(match E t with
   |some { bT:=.map ..,.. }=>2| _=>0)
  |_=>2)
 | .call { callee:=.builtin .cap,.. }=>0| .call { callee:=.builtin .max,.. }=>0| .call { callee:=.builtin .min,.. }=>0| .call { callee:=.builtin .unsafeSliceData,.. }=>0| _=>2
def qK{R:Type}(dst:Option Nat)(ak:bn ap)(v:ap)(K:bn ap->Option R):Option R:=cv dst (K ak) λd=>Sm v λv=>ak.oC (some v) d K
def aa5{R:Type}(call:ap->List ap->bB->Option (ap×bB))(dst:Option Nat)(f:Option ap)(l:Option (List ap))(ak:bn ap)(m:bB)(K:bn ap->bB->Option R):Option R:=
 cv f none λf=>cv l none λl=>cv (call f l m) none λr=>cw (Nat.ble m.n r.2.n) (qK dst ak r.1 λak=>K ak r.2) none
def aa6{R:Type}(dst:Option Nat)(r:Option (List ap×Nat×Nat×(Nat->ap)))(ak:bn ap)(m:bB)(K:bn ap->bB->Option R):Option R:=
 cv dst none λd=>cv r none λr=>wL m r.1 r.2.1 λid m=>qK (some d) ak (r.2.2.2 id) λak=>K ak m
def aa7{R:Type}(dst:Option Nat)(v:Option ap)(ak:bn ap)(m:bB)(K:bn ap->bB->Option R):Option R:=
 cv v none λv=>qK dst ak v λak=>K ak m
def aa8{R:Type}(dst:Option Nat)(n:Nat)(r:Option (ap×bB))(ak:bn ap)(K:bn ap->bB->Option R):Option R:=
 cv r none λr=>cw (Nat.ble n r.2.n) (qK dst ak r.1 λak=>K ak r.2) none
def aa9{R:Type}(Y:hF)(k:Nat)(o:Oper)(ak:bn ap)(m:bB)(K:bn ap->bB->Option R):Option R:=match k with
 |0=>aa7 o.dst (wK Y.P Y.E Y.G m.t o.op ak) ak m K| 1=>aa6 o.dst (Dn Y.E o ak) ak m K| _=>aa8 o.dst m.n (St Y m o ak) ak K
def Bh{R:Type}(Y:hF)(call:ap->List ap->bB->Option (ap×bB))(o:Oper)(ak:bn ap)(m:bB)(K:bn ap->bB->Option R):Option R:=
 match o.op with
 | .call { callee:=.value f,args,.. }=>aa5 call o.dst (dG ak f) (pd ak args.toList) ak m K| op=>aa9 Y (l5 Y.E op) o ak m K
def Dp{R:Type}(o:Oper)(ak:bn ap)(K:bn ap->Option R):Option R:=match o.dst with
 |none=>K ak| some d=>ak.oC (some (.t [])) d K
def wM(ops:List Oper)(o:Oper)(ak:bn ap):Option Bool:=match o.guard with
 |none=>some true
 |some (j,b)=>match(ye ops j).bind (·.dst)with
  |none=>none
  |some d=>match ak.get d with
   |some (.b c)=>some (c == b)| some (.t _)=>some false| _=>none
def FG(Y:hF)(call:ap->List ap->bB->Option (ap×bB))(ops:List Oper)(l:List Oper):bn ap->bB->Option (bn ap×bB):=
 @List.rec Oper (λ_=>bn ap->bB->Option (bn ap×bB)) (λak m=>some (ak,m)) (λo _ be ak m=>cv (wM ops o ak) none λw=>cw w (Bh Y call o ak m be) (Dp o ak λak=>be ak m)) l
def Dq(E:Env)(ops:List Oper)(i:Nat):Nat:=cv (ye ops i) 2 λo=>l5 E o.op
def zW(E:Env)(ops:List Oper):List Nat:=(List.range ops.length).filter λi=>Nat.beq (Dq E ops i) 2
def FH(es hO:List Nat)(i:Nat):Nat:=(es.filter λe=>(hO.getD i 0).testBit e).length
def C4(es hO:List Nat)(i:Nat):Nat:=(es.filter λe=>!(hO.getD e 0).testBit i).length
def aba(E:Env)(ops:List Oper)(es hO:List Nat)(j:Nat):List (Nat×Nat):=((List.range ops.length).filter λi=>!Nat.beq (Dq E ops i) 2&&Nat.beq (FH es hO i) j).map λi=>(i,Dq E ops i)
def abb(E:Env)(ops:List Oper)(es hO:List Nat):List Nat->Nat->List (Nat×Nat)
 |[],j=>aba E ops es hO j| e::l,j=>aba E ops es hO j++(e,2)::abb E ops es hO l (j+1)
def IX(E:Env)(ops:List Oper):List (Nat×Nat):=abb E ops (zW E ops) (lT ops) (zW E ops) 0
def yi(ops:List Oper):List (Nat×Nat)->Nat->Bool
 |[],k=>Nat.beq k (2^ops.length-1)
 |(i,_)::l,k=>!k.testBit i&&(match ops[i]? with
  |some o=>GI o k&&yi ops l (k ||| 2^i)| none=>false)
def ML(hO:List Nat):List Nat->Bool
 |[]=>true| x::l=>l.all (λy=>(hO.getD y 0).testBit x)&&ML hO l
def abc(E:Env)(ops:List Oper):Bool:=GL ops&&(yi ops (IX E ops) 0&&(ML (lT ops) (zW E ops)&&(((IX E ops).filter λr=>Nat.beq r.2 2).map (·.1) == zW E ops)))
mutual
def FI:ap->ap->Bool
 | .b x,.b w=>x == w| .i k x,.i l w=>IntKind.nk k l&&nU x w| .s x,.s w=>rJ x w| .pn,.pn=>true| .p i x,.p j w=>Nat.beq i j&&Nat.beq x w| .g i x,.g j w=>Nat.beq i j&&Nat.beq x w| .sn,.sn=>true| .sl i x n c,.sl j w m d=>Nat.beq i j&&(Nat.beq x w&&(Nat.beq n m&&Nat.beq c d))| .sx i x n c,.sx j w m d=>Nat.beq i j&&(Nat.beq x w&&(Nat.beq n m&&Nat.beq c d))| .gs i x n c,.gs j w m d=>Nat.beq i j&&(Nat.beq x w&&(Nat.beq n m&&Nat.beq c d))| .mn,.mn=>true| .m i,.m j=>Nat.beq i j| .f g l r,.f h m s=>Nat.beq g h&&(yj l m&&yj r s)| .y i,.y j=>Nat.beq i j| .fn,.fn=>true| .ni,.ni=>true| .t l,.t m=>yj l m| .a l,.a m=>yj l m| _,_=>false
def yj:List ap->List ap->Bool
 |[],[]=>true| x::l,w::m=>FI x w&&yj l m| _,_=>false
end
inductive rL where
 |made(i id:Nat)(l:List ap)(T:Nat)| load (i:Nat) (o:Oper) (ak:bn ap) (v:ap)
def pX(Y:hF)(call:ap->List ap->bB->Option (ap×bB))(ops:List Oper):List (Nat×Nat)->bn ap->bB->List bB->List rL->Option (bn ap×bB×List bB×List rL)
 |[],ak,m,S,A=>some (ak,m,m::S,A)|(i,k)::au,ak,m,S,A=>cv (ye ops i) none λo=>cv (wM ops o ak) none λw=>cw (Nat.beq (l5 Y.E o.op) k) (cw w (cw (Nat.beq k 0) (cv (wK Y.P Y.E Y.G m.t o.op ak) none λv=>qK o.dst ak v λdq=>pX Y call ops au dq m S (cw (qX o.op) (.load i o ak v::A) A)) (cw (Nat.beq k 1) (cv o.dst none λd=>cv (Dn Y.E o ak) none λr=>wL m r.1 r.2.1 λid m=>qK (some d) ak (r.2.2.2 id) λak=>pX Y call ops au ak m S (.made i id r.1 r.2.1::A)) (Bh Y call o ak m λak m'=>pX Y call ops au ak m' (m::S) A))) (Dp o ak λak=>pX Y call ops au ak m (cw (Nat.beq k 2) (m::S) S) A)) none
def FJ(S:List bB)(lo hi:Nat)(p:bB->Bool):Bool:=((S.drop lo).take (hi+1-lo)).all p
def Su(Y:hF)(o:Oper)(ak:bn ap)(v:ap)(m:bB):Bool:=match wK Y.P Y.E Y.G m.t o.op ak with
 |some u=>FI u v| none=>false
def Sv(id:Nat)(l:List ap)(T:Nat)(m:bB):Bool:=Nat.blt id m.n&&(match m.t.get id with
 |some (.cells cs n3 ga)=>Nat.beq n3 T&&(Nat.beq ga l.length&&(match cs.Fw 0 l.length (λc8=>some c8)with
  |some c8=>yj l c8| none=>false))
 |_=>false)
def Sw(Y:hF)(es hO:List Nat)(S:List bB):rL->Bool
 | .made i id l T=>FJ S (FH es hO i) (C4 es hO i) (Sv id l T)| .load i o ak v=>FJ S (FH es hO i) (C4 es hO i) (Su Y o ak v)
def Sx(Y:hF)(call:ap->List ap->bB->Option (ap×bB))(ops:List Oper)(ak:bn ap)(m:bB):Option (bn ap×bB):=
 cw (abc Y.E ops) (match pX Y call ops (IX Y.E ops) ak m [] []with
  |none=>none| some (ak,m,S,A)=>cw (A.all (Sw Y (zW Y.E ops) (lT ops) S.reverse)) (some (ak,m)) none) none
def FK{R:Type}:List Nat->List ap->bn ap->(bn ap->Option R)->Option R
 |[],[],ak,K=>K ak| t::ps,v::vs,ak,K=>ak.oC (some v) t λak=>FK ps vs ak K
 |_,_,_,_=>none
def Bi(Y:hF)(ak:bn ap)(m:bn gn):List ResultVar->Option (List ap)
 |[]=>some []
 | .tmp t::l=>(match ak.get t,Bi Y ak m l with
  |some v,some vs=>some (v::vs)| _,_=>none)
 | .cell t ty::l=>(match ak.get t,Y.E ty,Bi Y ak m l with
  |some x,some i,some vs=>(match yf Y.G m x i.size λl=>FA i.bT.agg l with
   |some v=>some (v::vs)| none=>none)
  |_,_,_=>none)
abbrev qL:=vA×bn ap×bB
abbrev vd:=Bool->Nat->Code->bn ap->bB->Option qL
def abd:List ap->ap
 |[v]=>v| vs=>.t vs
def MM(Y:hF)(ak:bn ap)(m:bB)(bj:List ResultVar):Option (ap×bB):=cv (Bi Y ak m.t bj) none λvs=>some (abd vs,m)
def abe(Y:hF)(r:Option qL)(bj:List ResultVar):Option (ap×bB):=match r with
 |some (.normal,ak,m)=>MM Y ak m bj| some (.ret,ak,m)=>MM Y ak m bj| _=>none
def MN(Y:hF)(rec:vd)(g:Nat)(args:List ap)(m:bB):Option (ap×bB):=
 cv (Y.P.funcs[g]?) none λfn=>cv fn.body none λc=>cw (Nat.ble args.length fn.ntmps) (bn.zS args (bn.bare 12) 0 λak=>abe Y (rec true fn.ntmps c ak m) fn.results.toList) none
def yk(Y:hF)(rec:vd)(g:Nat)(args:List ap)(m:bB):Option (ap×bB):=cv (Y.pr g args m) (MN Y rec g args m) some
def Sy(l:Nat)(e:Option gn)(jump:Option Code)(m:bB):Option (ap×bB):=match e with
 |some (.loop true n nV ps fO body)=>m.t.oC (some (cv jump (.loop false n nV ps fO body) λc=>.done c n nV ps fO body)) l λt=>some (.b jump.isNone,⟨t,m.n⟩)
 |_=>none
def abf(l:Nat)(r:Option qL):Option (ap×bB):=cv r none λr=>Sy l (r.2.2.t.get l) (Ek r.1) r.2.2
def Sz(rec:vd)(l n:Nat)(body:Code)(e:Option gn)(ak:bn ap)(m:bB):Option (ap×bB):=match e with
 |some (.loop false fK nV ps fO SA)=>m.t.oC (some (.loop true fK nV ps fO SA)) l λt=>abf l (rec false n body ak ⟨t,m.n⟩)
 |_=>none
def abg(rec:vd)(l n:Nat)(body:Code)(r:Option qL):Option (ap×bB):=match r with
 |some (.normal,ak,m)=>Sz rec l n body (m.t.get l) ak m| _=>none
def SB(rec:vd)(l:Nat)(args:List ap)(m:bB):Option (ap×bB):=match m.t.get l with
 |some (.loop false n nV ps fO body)=>FK ps args nV λak=>abg rec l n body (rec false n fO ak m)
 |_=>none
def MO(Y:hF)(rec:vd)(f:ap)(args:List ap)(m:bB):Option (ap×bB):=match f with
 | .f g l r=>yk Y rec g (l++(args++r)) m| .y l=>SB rec l args m| _=>none
def SC:Code->Option vA
 | .exit id=>some (.exit id)| .goto l=>some (.goto l)| .ret=>some .ret| _=>none
def IY(r:Option qL)(k:bn ap->bB->Option qL):Option qL:=match r with
 |some (.normal,ak,m)=>k ak m| r=>r
def abh(id:Nat)(r:Option qL):Option qL:=match r with
 |some (.exit j,ak,m)=>cw (Nat.beq j id) (some (.normal,ak,m)) (some (.exit j,ak,m))| r=>r
def MP(r:Option (bn ap×bB)):Option qL:=cv r none λr=>some (.normal,r.1,r.2)
def abi(v:Option ap)(x y:Option qL):Option qL:=match v with
 |some (.b b)=>cw b x y| _=>none
def IZ(rec:vd)(jG:Bool)(n:Nat)(c:Code)(k:Nat):Code->bn ap->bB->Option qL:=@Nat.rec (λ_=>Code->bn ap->bB->Option qL) (λ_ _ _=>none)
 (λ_ be x ak m=>match rec jG n x ak m with
  |some (.goto l,ak,m)=>cv (findLabel c l) none λau=>be au ak m
  |r=>r) k
def abj(l:Nat)(ak:bn ap)(r:Option (ap×bB)):Option qL:=cv r none λr=>match r.2.t.get l with
 |some (.loop false ..)=>r.2.t.oC none l λt=>some (.normal,ak,⟨t,r.2.n⟩)
 |some (.done c ..)=>cv (SC c) none λex=>r.2.t.oC none l λt=>some (ex,ak,⟨t,r.2.n⟩)
 |_=>none
def SD(Y:hF)(rec:vd)(jG:Bool)(n:Nat)(v:Option ap)(ps:List Nat)(fO body:Code)(ak:bn ap)(m:bB):Option qL:=match jG,v with
 |true,some (.f g [] r)=>Dl m (.loop false n ak ps fO body) λl m=>abj l ak (MN Y rec g (.y l::r) m)
 |_,_=>none
def SE(Y:hF)(f:Nat)(rec:vd):vd:=λjG n c ak m=>match c with
 | .skip=>some (.normal,ak,m)| .label _=>some (.normal,ak,m)| .ret=>some (.ret,ak,m)| .exit id=>some (.exit id,ak,m)| .goto l=>some (.goto l,ak,m)| .seq x y=>IY (rec jG n x ak m) (rec jG n y)| .block id c=>abh id (rec jG n c ak m)| .cond c x y=>abi (dG ak c) (rec jG n x ak m) (rec jG n y ak m)| .loop c=>IY (rec jG n c ak m) (rec jG n (.loop c))| .region _ ops false=>MP (FG Y (MO Y rec) ops.toList ops.toList ak m)| .region _ ops true=>MP (Sx Y (MO Y rec) ops.toList ak m)| .scope c=>IZ rec jG n c f c ak m| .rangeFunc x ps fO body=>SD Y rec jG n (dG ak x) ps.toList fO body ak m| .refuse _=>none
def lJ(Y:hF)(f:Nat):vd:=@Nat.rec (λ_=>vd) (λ_ _ _ _ _=>none) (λf be=>SE Y f be) f
end
section
variable{α R:Type}
def k4(b:Bool)(x y:α):cw b x y=bif b then x else y:=by cases b<;>rfl
def df{o:Option α}{f:α->Option R}{r:R}(h:cv o none f=some r):∃ v,o=some v/\f v=some r:=by
 cases o with
 |none=>cases h| some v=>exact⟨v,rfl,h⟩
def hG{x:Option α}{r:α}(h:cw b x none=some r):b=true/\x=some r:=by
 cases b with
 |true=>exact⟨rfl,h⟩| false=>cases h
def Bj{x:Option α}{r:α}(h:cw b none x=some r):b=false/\x=some r:=by
 cases b with
 |false=>exact⟨rfl,h⟩| true=>cases h
def bn.I0(x:Option α)(l r:bn α)(k:Nat):(bn.node x l r).get k=bif Nat.beq k 0 then x else bif Nat.beq (k%2) 1 then l.get (k/2)else r.get (k/2-1):=by show cw _ _ (cw _ _ _)=_;rw[k4,k4];rfl
def bn.pY(v:Option α):∀ (t:bn α) (k:Nat),∃ fw:bn α,(∀ {R:Type} (K:bn α->R),t.oC v k K=K fw)/\∀ j x,fw.get j=some x->(j=k/\v=some x)\/(j≠k/\t.get j=some x)
 | .nil,k=>by
  cases ae:Nat.beq k 0 with
  |true=>
   have:=cj ae;subst this;refine⟨.node v .nil .nil,λK=>rfl,λj x h=>?_⟩;rw[bn.I0]at h;cases an:Nat.beq j 0 with
   |true=>rw[an]at h;exact .inl ⟨cj an,h⟩
   |false=>
    rw[an]at h;cases hm:Nat.beq (j%2) 1<;>(rw[hm]at h;cases h)
  |false=>refine⟨.nil,λK=>?_,λj x h=>by cases h⟩;show cw _ _ _=_;rw[k4,ae];rfl
 | .node x l r,k=>by
  cases ae:Nat.beq k 0 with
  |true=>
   have:=cj ae;subst this;refine⟨.node v l r,λK=>rfl,λj y h=>?_⟩;rw[bn.I0]at h |-;cases an:Nat.beq j 0 with
   |true=>rw[an]at h;exact .inl ⟨cj an,h⟩| false=>rw[an]at h;exact .inr ⟨(λe=>by subst e;cases an),h⟩
  |false=>
   have e3:k≠0:=λe=>by subst e;cases ae
   cases hm:Nat.beq (k%2) 1 with
   |true=>
    have tk:=cj hm;obtain⟨c8,U,aa⟩:=bn.pY v l (k/2);refine⟨.node x c8 r,λK=>?_,λj y h=>?_⟩;·show cw _ _ (cw _ _ _)=_;rw[k4,k4,ae];show(bif Nat.beq (k%2) 1 then _ else _)=_;rw[hm];exact U _
    ·rw[bn.I0]at h |-;cases an:Nat.beq j 0 with
     |true=>rw[an]at h;exact .inr ⟨λe=>by have:=cj an;omega,h⟩
     |false=>
      rw[an]at h;have Q6:j≠0:=λe=>by subst e;cases an
      cases ve:Nat.beq (j%2) 1 with
      |true=>
       have amy:=cj ve;rw[ve]at h;rcases aa _ _ h with⟨e,aj⟩ | ⟨e,aj⟩;·exact .inl ⟨by omega,aj⟩
       ·exact .inr ⟨λa'=>e (by rw[a']),aj⟩
      |false=>rw[ve]at h;exact .inr ⟨(λe=>by subst e;rw[hm]at ve;cases ve),h⟩
   |false=>
    have tk:k%2≠1:=λe=>by rw[e]at hm;cases hm
    obtain⟨qW,U,aa⟩:=bn.pY v r (k/2-1);refine⟨.node x l qW,λK=>?_,λj y h=>?_⟩;·show cw _ _ (cw _ _ _)=_;rw[k4,k4,ae];show(bif Nat.beq (k%2) 1 then _ else _)=_;rw[hm];exact U _
    ·rw[bn.I0]at h |-;cases an:Nat.beq j 0 with
     |true=>rw[an]at h;exact .inr ⟨λe=>by have:=cj an;omega,h⟩
     |false=>
      rw[an]at h;have Q6:j≠0:=λe=>by subst e;cases an
      cases ve:Nat.beq (j%2) 1 with
      |true=>rw[ve]at h;exact .inr ⟨(λe=>by subst e;rw[hm]at ve;cases ve),h⟩
      |false=>
       have amy:j%2≠1:=λe=>by rw[e]at ve;cases ve
       rw[ve]at h;rcases aa _ _ h with⟨e,aj⟩ | ⟨e,aj⟩;·exact .inl ⟨by omega,aj⟩
       ·exact .inr ⟨λa'=>e (by rw[a']),aj⟩
def bn.FL(t:bn α):∀ (n off:Nat) (K:List α->Option R) (r:R),t.Fw off n K=some r->∃ l,l.length=n/\(∀ i,i<n->t.get (off+i)=l[i]?)/\K l=some r
 |0,off,K,r,h=>⟨[],rfl,λi hi=>by omega,h⟩
 |n+1,off,K,r,h=>by
  have bg:cv (t.get off) none (λv=>t.Fw (off+1) n λl=>K (v::l))=some r:=h;obtain⟨v,aj,bg⟩:=df bg;obtain⟨l,U,aa,af⟩:=bn.FL t n (off+1) _ r bg;refine⟨v::l,by simp[U],λi hi=>?_,af⟩;cases i with
  |zero=>simpa using aj| succ i=>have:=aa i (by omega);rw[show off+(i+1)=off+1+i by omega,this];simp
def bn.zX:∀ (l:List α) (t:bn α) (off:Nat),∃ fw:bn α,(∀ {R:Type} (K:bn α->R),bn.zS l t off K=K fw) /\ ∀ j x,fw.get j=some x->(off<=j/\l[j-off]?=some x)\/((j<off\/off+l.length<=j)/\t.get j=some x)
 |[],t,off=>⟨t,λK=>rfl,λj x h=>.inr ⟨by simp;omega,h⟩⟩
 |v::l,t,off=>by
  obtain⟨t1,U,aa⟩:=bn.pY (some v) t off;obtain⟨t2,af,aN⟩:=bn.zX l t1 (off+1);refine⟨t2,λK=>(U _).trans (af K),λj x h=>?_⟩;rcases aN j x h with⟨a3,a6⟩ | ⟨a3,a6⟩;·exact .inl ⟨by omega,by rw[show j-off=(j-(off+1))+1 by omega];simpa using a6⟩
  ·rcases aa j x a6 with⟨rfl,e⟩ | ⟨e,bN⟩
   ·exact .inl ⟨b2 _,by simp at e;simp[e]⟩
   ·exact .inr ⟨by simp only[eM];omega,bN⟩
end
def SF(n:Nat)(K:Nat->R):sW n K=K n:=rfl
def amz(n:Int)(K:Int->R):aaX n K=K n:=by cases n<;>rfl
def amA(b:Bool)(K:Bool->R):aaY b K=K b:=by cases b<;>rfl
def amB(v:ap)(K:ap->R):Sm v K=K v:=by
 cases v with
 |b x=>exact amA x λx=>K (.b x)
 |i k n=>exact amz n λn=>K (.i k n)
 |_=>rfl
def SG(a b:Nat):Nat.beq a b=decide (a=b):=by
 by_cases h:a=b
 ·subst h;simp
 ·rw[hW h];simp[h]
def MQ(a b:Nat):Nat.ble a b=decide (a<=b):=by
 by_cases h:a<=b
 ·rw[CW h];simp[h]
 ·cases ag:Nat.ble a b with
  |false=>simp[h]| true=>exact absurd (bP ag) h
def zY(a b:Int):nU a b=decide (a=b):=by
 cases a<;>cases b<;>simp only[nU,SG]<;>simp
 omega
def MR(a b:Int):Dg a b=decide (a<=b):=by
 cases a<;>cases b<;>simp only[Dg]
 ·rw[MQ];simp only[My];exact Int.ofNat_le.symm
 ·symm;simp only[ny];rename_i a b;have:=Int.negSucc_lt_zero b;have:(0:Int)<=Int.ofNat a:=R1 a;omega
 ·symm;simp only[eY];rename_i a b;have:=Int.negSucc_lt_zero a;have:(0:Int)<=Int.ofNat b:=R1 b;omega
 ·rw[MQ];simp only[My,Int.negSucc_eq];omega
def amC(a b:Int):D4 a b=decide (a<b):=by
 unfold D4;rw[MR];by_cases h:a<b
 ·simp[h]
 ·simp[h];omega
def amD(op:BinOp)(x y:Int):R2 op x y=yQ op x y:=by cases op<;>simp only[R2,yQ,zY,amC,MR]
def Bk(k:IntKind)(n:Int):yd k n=k.wrap n:=by
 cases n with
 |negSucc n=>rfl
 |ofNat n=>
  simp only[yd];cases h:Nat.ble n (MA k)with
  |false=>rfl
  |true=>
   have bg:=bP h;simp only[a4];cases k<;>simp only[MA]at bg<;>simp only[IntKind.wrap,IntKind.signed,IntKind.bits]<;>simp<;>omega
def amE(a b:Int):aay a b=a+b:=by cases a<;>cases b<;>rfl
def amF(a b:Int):R3 a b=a-b:=by
 cases a<;>cases b<;>try rfl
 rename_i a b;simp only[R3];cases h:Nat.ble b a with
 |false=>rfl| true=>have:=bP h;show((a-b:Nat):Int)=(a:Int)-b;omega
def amG(a b:Int):aaz a b=a*b:=by cases a<;>cases b<;>rfl
def amH(a b:Int):aaA a b=a.tdiv b:=by cases a<;>cases b<;>rfl
def amI(a b:Int):aaB a b=a.tmod b:=by cases a<;>cases b<;>rfl
def amJ(a:Int)(j:Nat):aaC a j=a*2^j:=by
 cases a with
 |negSucc a=>rfl| ofNat a=>show((a*2^j:Nat):Int)=(a:Int)*2^j;simp
def amK(a:Int)(j:Nat):aaD a j=a.fdiv (2^j):=by
 cases a with
 |negSucc a=>rfl| ofNat a=>show((a/2^j:Nat):Int)=(a:Int).fdiv (2^j);rw[show(2:Int)^j=((2^j:Nat):Int) by simp];rw[GV _ (R1 _)];simp
def abk(j b:Nat):(bif Nat.ble j b then j else b)=min j b:=by
 rw[MQ];by_cases h:j<=b
 ·simp[h,Gn h]
 ·simp[h];omega
def Bl{a:Nat}(h:a<=18446744073709551615):(BitVec.ofInt IntKind.u64.bits (Int.ofNat a)).toNat=a:=by show(BitVec.ofInt 64 (a:Int)).toNat=a;rw[BitVec.ofInt_natCast,CX];omega
def wrap64{a:Nat}(h:a<=18446744073709551615):IntKind.u64.wrap (a:Int)=Int.ofNat a:=by show IntKind.u64.wrap (.ofNat a)=_;rw[<-Bk];simp only[yd,MA,CW h,a4]
def MS{op:BinOp}{k:IntKind}{x y r:Int}(h:Fy op k x y=some r):vu op k x y=some r:=by
 unfold Fy at h;split at h
 ·rename_i a b;cases aJ:(Nat.ble a 18446744073709551615&&Nat.ble b 18446744073709551615)with
  |false=>rw[aJ]at h;cases h
  |true=>
   rw[aJ]at h;rw[ct]at aJ;have aH:=bP aJ.1;have ag:=bP aJ.2;have abl:a<2^64:=by omega
   have MT:b<2^64:=by omega
   simp only[a4]at h;split at h;·rw[<-h];simp only[vu,GY,Bl aH,Bl ag];rw[wrap64 (by have:=Nat.and_lt_two_pow a MT;omega)];rfl
   ·rw[<-h];simp only[vu,BitVec.toNat_or,Bl aH,Bl ag];rw[wrap64 (by have:=Nat.or_lt_two_pow abl MT;omega)];rfl
   ·rw[<-h];simp only[vu,BitVec.toNat_xor,Bl aH,Bl ag];rw[wrap64 (by have:=Nat.xor_lt_two_pow abl MT;omega)];rfl
   ·rw[<-h];have az:(~~~(BitVec.ofInt IntKind.u64.bits (Int.ofNat b))).toNat=18446744073709551615-b:=by rw[BitVec.toNat_not,Bl ag];rfl
    simp only[vu,GY,Bl aH,az];rw[wrap64 (by have:=Nat.and_lt_two_pow a (show 18446744073709551615-b<2^64 by omega);omega)];rfl
   ·cases h
 ·exact h
def amL(a b:UInt8):R4 a b=decide (a=b):=by unfold R4;rw[SG];simp only[My];exact UInt8.toNat_inj
def Dr:∀ (l m:List UInt8),rJ l m=decide (l=m)
 |[],[]=>by simp[rJ]
 |[],_::_=>by simp[rJ]
 |_::_,[]=>by simp[rJ]
 |a::l,b::m=>by
  simp only[rJ,amL,Dr l m];by_cases h:a=b;·subst h;simp
  ·simp[h]
def Bm{α:Type}:∀ (l:List α) (n:Nat),ye l n=l[n]?
 |[],n=>by simp[ye]
 |v::l,n=>by
  unfold ye;cases n with
  |zero=>rfl| succ n=>exact(Bm l n).trans (by simp)
def I1{α:Type}:∀ (l:List α) (n:Nat),Di l n=l.drop n
 |[],n=>by simp[Di]
 |v::l,n=>by
  unfold Di;cases n with
  |zero=>rfl| succ n=>exact(I1 l n).trans (by simp)
def abm{n:Nat}{l r:List ap}(h:Dh n l=some r):r=l.take n/\r.length=n:=by
 induction n generalizing l r with
 |zero=>simp[Dh]at h;subst h;simp
 |succ n be=>
  cases l with
  |nil=>simp[Dh]at h
  |cons v l=>
   simp only[Dh]at h;split at h;·rename_i q aL;obtain⟨rfl,aa⟩:=be aL;cases h;simp at aa |-;omega
   ·cases h
structure Loc where
 b:Nat
 o:Nat
 c:Nat
abbrev bS:=Nat->Option Loc
def bS.le(D bH:bS):Prop:=∀ i a,D i=some a->bH i=some a
mutual
def a1(D:bS):ap->Value->Prop
 | .b x,u=>u=.bool x| .i k n,u=>u=.int k n| .s l,u=>u=.string ⟨l.toArray⟩| .pn,u=>u=.pointer none| .p id off,u=>∃ a,D id=some a/\u=.pointer (some ⟨a.b,a.o+off,none⟩)| .g n off,u=>u=.pointer (some ⟨n,off,none⟩)| .sn,u=>u=.slice none 0 0| .sl id off n c,u=>∃ a,D id=some a/\u=.slice (some ⟨a.b,a.o+off,none⟩) n c| .sx id off e n,u=>∃ a,D id=some a/\e+n<=a.c/\u=.slice (some ⟨a.b,a.o+off,none⟩) n (a.c-e)| .gs n off k c,u=>u=.slice (some ⟨n,off,none⟩) k c| .so,u=>∃ a c,u=.slice (some a) 0 c| .mn,u=>u=.map none| .m id,u=>∃ a,D id=some a/\u=.map (some a.b)| .f g l r,u=>∃ vs ws,b0 D l vs/\b0 D r ws/\u=.func (.func g) vs.toArray ws.toArray| .y id,u=>∃ a,D id=some a/\u=.func (.yield a.b) #[] #[]| .fn,u=>u=.nilFunc| .ni,u=>u=.nilIface| .IM t v,u=>∃ x,a1 D v x/\u=.iface t x| .t l,u=>∃ vs,b0 D l vs/\u=.tuple vs.toArray| .a l,u=>∃ vs,b0 D l vs/\u=.agg vs.toArray
def b0(D:bS):List ap->List Value->Prop
 |[],us=>us=[]| v::l,us=>∃ x xs,a1 D v x/\b0 D l xs/\us=x::xs
end
section
variable{D bH:bS}
mutual
def a1.mono(h:D.le bH):∀ {v:ap} {u:Value},a1 D v u->a1 bH v u
 | .b _,_,aj | .i _ _,_,aj | .s _,_,aj | .pn,_,aj | .g _ _,_,aj | .sn,_,aj | .gs ..,_,aj | .so,_,aj | .mn,_,aj | .fn,_,aj | .ni,_,aj=>by simpa only[a1]using aj
 | .p ..,_,aj | .sl ..,_,aj | .m _,_,aj | .y _,_,aj=>by simp only[a1]at aj |-;obtain⟨a,U,aa⟩:=aj;exact⟨a,h _ _ U,aa⟩
 | .sx ..,_,aj=>by simp only[a1]at aj |-;obtain⟨a,U,aa⟩:=aj;exact⟨a,h _ _ U,aa⟩
 | .f _ l r,_,aj=>by simp only[a1]at aj |-;obtain⟨vs,ws,U,aa,af⟩:=aj;exact⟨vs,ws,b0.mono h U,b0.mono h aa,af⟩
 | .IM _ v,_,aj=>by simp only[a1]at aj |-;obtain⟨x,U,aa⟩:=aj;exact⟨x,a1.mono h U,aa⟩
 | .t l,_,aj=>by simp only[a1]at aj |-;obtain⟨x,U,aa⟩:=aj;exact⟨x,b0.mono h U,aa⟩
 | .a l,_,aj=>by simp only[a1]at aj |-;obtain⟨x,U,aa⟩:=aj;exact⟨x,b0.mono h U,aa⟩
def b0.mono(h:D.le bH):∀ {l:List ap} {us:List Value},b0 D l us->b0 bH l us
 |[],_,aj=>by simpa only[b0]using aj
 |v::l,_,aj=>by simp only[b0]at aj |-;obtain⟨x,xs,U,aa,af⟩:=aj;exact⟨x,xs,a1.mono h U,b0.mono h aa,af⟩
end
def b0.nil:b0 D [] []:=by simp[b0]
def b0.cons{v:ap}{l:List ap}{x:Value}{xs:List Value}(h:a1 D v x)(k:b0 D l xs):b0 D (v::l) (x::xs):=by simp only[b0];exact⟨x,xs,h,k,rfl⟩
def b0.lk{v:ap}{l:List ap}{us:List Value}(h:b0 D (v::l) us):∃ x xs,a1 D v x/\b0 D l xs/\us=x::xs:=by simpa only[b0]using h
def b0.oD{us:List Value}(h:b0 D [] us):us=[]:=by simpa only[b0]using h
def b0.len:∀ {l:List ap} {us:List Value},b0 D l us->us.length=l.length
 |[],_,h=>by rw[h.oD];rfl
 |v::l,_,h=>by obtain⟨x,xs,U,aa,rfl⟩:=h.lk;simp[b0.len aa]
def b0.get:∀ {l:List ap} {us:List Value} {i:Nat} {v:ap},b0 D l us->l[i]?=some v->∃ x,us[i]?=some x/\a1 D v x
 |[],_,i,v,h,hi=>by simp at hi
 |w::l,_,i,v,h,hi=>by
  obtain⟨x,xs,U,aa,rfl⟩:=h.lk;cases i with
  |zero=>simp at hi;subst hi;exact⟨x,rfl,U⟩| succ i=>simpa using b0.get aa (by simpa using hi)
def b0.SH:∀ {l:List ap} {us:List Value},us.length=l.length->(∀ (i:Nat) (v:ap),l[i]?=some v->∃ x,us[i]?=some x/\a1 D v x)->b0 D l us
 |[],us,aE,h=>by have:us=[]:=nx (by simpa using aE);subst this;exact .nil
 |w::l,us,aE,h=>by
  cases us with
  |nil=>simp at aE| cons x xs=>obtain⟨y,aT,U⟩:=h 0 w rfl;simp at aT;subst aT;exact .cons U (b0.SH (by simpa using aE) λi v hi=>by simpa using h (i+1) v (by simpa using hi))
def b0.append:∀ {l:List ap} {us:List Value} {m:List ap} {ws:List Value},b0 D l us->b0 D m ws->b0 D (l++m) (us++ws)
 |[],_,m,ws,h,k=>by rw[h.oD];exact k
 |w::l,_,m,ws,h,k=>by obtain⟨x,xs,U,aa,rfl⟩:=h.lk;exact .cons U (b0.append aa k)
def b0.take:∀ {l:List ap} {us:List Value} (n:Nat),b0 D l us->b0 D (l.take n) (us.take n)
 |[],_,n,h=>by rw[h.oD];simpa using b0.nil
 |w::l,_,n,h=>by
  obtain⟨x,xs,U,aa,rfl⟩:=h.lk;cases n with
  |zero=>simpa using b0.nil| succ n=>simpa using b0.cons U (b0.take n aa)
def b0.drop:∀ {l:List ap} {us:List Value} (n:Nat),b0 D l us->b0 D (l.drop n) (us.drop n)
 |[],_,n,h=>by rw[h.oD];simpa using b0.nil
 |w::l,us,n,h=>by
  cases n with
  |zero=>simpa using h| succ n=>obtain⟨x,xs,U,aa,rfl⟩:=h.lk;simpa using b0.drop n aa
def b0.kR{l:List ap}{us:List Value}(h:b0 D l us):∀ n,b0 D (Dm n l) ((List.replicate n us).flatten)
 |0=>by simpa[Dm]using b0.nil
 |n+1=>by rw[wc,PA];exact h.append (b0.kR h n)
def a1.bool{x:Bool}{u:Value}(h:a1 D (.b x) u):u=.bool x:=by simpa only[a1]using h
def a1.int{k:IntKind}{n:Int}{u:Value}(h:a1 D (.i k n) u):u=.int k n:=by simpa only[a1]using h
def a1.str{l:List UInt8}{u:Value}(h:a1 D (.s l) u):u=.string ⟨l.toArray⟩:=by simpa only[a1]using h
def a1.ptr{id off:Nat}{u:Value}(h:a1 D (.p id off) u):∃ a,D id=some a/\u=.pointer (some ⟨a.b,a.o+off,none⟩):=by simpa only[a1]using h
def a1.rM{id off:Nat}{u:Value}(h:a1 D (.g id off) u):u=.pointer (some ⟨id,off,none⟩):=by simpa only[a1]using h
def a1.tV{id off n c:Nat}{u:Value}(h:a1 D (.sl id off n c) u):∃ a,D id=some a/\u=.slice (some ⟨a.b,a.o+off,none⟩) n c:=by simpa only[a1]using h
def a1.wN{id off e n:Nat}{u:Value}(h:a1 D (.sx id off e n) u):∃ a,D id=some a/\e+n<=a.c/\u=.slice (some ⟨a.b,a.o+off,none⟩) n (a.c-e):=by simpa only[a1]using h
def a1.SI{id off n c:Nat}{u:Value}(h:a1 D (.gs id off n c) u):u=.slice (some ⟨id,off,none⟩) n c:=by simpa only[a1]using h
def a1.MU{u:Value}(h:a1 D .so u):∃ a c,u=.slice (some a) 0 c:=by simpa only[a1]using h
def a1.Ds{u:Value}(h:a1 D .sn u):u=.slice none 0 0:=by simpa only[a1]using h
def a1.agg{l:List ap}{u:Value}(h:a1 D (.a l) u):∃ vs,b0 D l vs/\u=.agg vs.toArray:=by simpa only[a1]using h
def a1.SJ{l:List ap}{u:Value}(h:a1 D (.t l) u):∃ vs,b0 D l vs/\u=.tuple vs.toArray:=by simpa only[a1]using h
def a1.MV{l:List ap}(h:b0 D l vs):a1 D (.a l) (.agg vs.toArray):=by simp only[a1];exact⟨vs,h,rfl⟩
def a1.MW{l:List ap}(h:b0 D l vs):a1 D (.t l) (.tuple vs.toArray):=by simp only[a1];exact⟨vs,h,rfl⟩
def a1.undef:a1 D (.t []) undef:=by simp only[a1];exact⟨[],.nil,rfl⟩
def a1.cells{v:ap}{u:Value}(h:a1 D v u):b0 D v.cells u.cells.toList:=by
 cases v<;>simp only[ap.cells]
 case a l=>obtain⟨vs,U,rfl⟩:=h.agg;simpa[Value.cells]using U
 all_goals
  have key:∀ w:Value,(∀ cs,w≠.agg cs)->w.cells.toList=[w]:=λw hw=>by cases w<;>first | rfl | exact(hw _ rfl).elim
  rw[key u ?_];·exact .cons h .nil
  ·rintro cs rfl;simp[a1]at h
def a1.one{v:ap}{u:Value}(h:a1 D v u)(aD:v.one=true):u.oneCell'=true:=by
 cases v<;>simp only[ap.one,lN]at aD<;>simp only[a1]at h
 all_goals first
  |(subst h;rfl)|(obtain⟨_,_,rfl⟩:=h;rfl)|(obtain⟨_,_,_,rfl⟩:=h;rfl)|(obtain⟨_,_,_,_,rfl⟩:=h;rfl)
def b0.one{l:List ap}{us:List Value}(h:b0 D l us)(aD:l.all ap.one=true):iW us=true:=by refine hI.2 λx ab=>?_;obtain⟨i,hi⟩:=Mx ab;have a0:=(kG.1 hi).1;rw[h.len]at a0;obtain⟨y,aT,aj⟩:=h.get (g5 a0);rw[hi]at aT;cases aT;exact aj.one (hI.1 aD _ (dr a0))
def a1.abn{u:Value}{v:ap}(h:IN u=some v):a1 D v u:=by
 unfold IN at h;split at h<;>cases h<;>simp[a1]
def b0.FM:∀ {us:List Value} {l:List ap},zT us=some l->b0 D l us
 |[],l,h=>by simp only[zT]at h;cases h;exact .nil
 |u::us,l,h=>by
  simp only[zT]at h;split at h;·rename_i x m U aa;cases h;exact .cons (.abn U) (b0.FM aa)
  ·cases h
def a1.of{u:Value}{v:ap}(h:Fx u=some v):a1 D v u:=by
 unfold Fx at h;split at h
 ·split at h
  ·rename_i l aE;cases h;have:=b0.FM (D:=D) aE;simpa using a1.MV this
  ·cases h
 ·exact .abn h
def MX{agg:Bool}{l:List ap}{v:ap}(h:FA agg l=some v)(aE:b0 D l vs):a1 D v (pack agg vs):=by
 unfold FA at h;cases agg with
 |true=>simp only[a4]at h;cases h;exact .MV aE
 |false=>
  simp only[aQ]at h;split at h;·cases h;obtain⟨x,xs,U,aa,rfl⟩:=aE.lk;rw[aa.oD];exact U
  ·cases h
def SK:∀ {cs:List ap} {off:Nat} {vs r:List ap} {us xs:List Value},zU cs off vs=some r->b0 D cs us->b0 D vs xs->b0 D r (bQ us off xs)/\off+xs.length<=us.length
 |cs,0,[],r,us,xs,h,aJ,aj=>by simp[zU]at h;subst h;rw[aj.oD];exact⟨by simpa[bQ]using aJ,by simp⟩
 |[],0,_::_,r,us,xs,h,aJ,aj=>by simp[zU]at h
 |[],_+1,_,r,us,xs,h,aJ,aj=>by simp[zU]at h
 |c::cs,0,v::vs,r,us,xs,h,aJ,aj=>by
  simp only[zU]at h;split at h
  ·rename_i q aL;cases h;obtain⟨x,us,U,aa,rfl⟩:=aJ.lk;obtain⟨y,xs,af,aN,rfl⟩:=aj.lk;obtain⟨bq,bp⟩:=SK aL aa aN;refine⟨?_,by simp at bp |-;omega⟩;have e:bQ (x::us) 0 (y::xs)=y::bQ us 0 xs:=by simp[bQ]
   rw[e];exact .cons af bq
  ·cases h
 |c::cs,n+1,vs,r,us,xs,h,aJ,aj=>by
  simp only[zU]at h;split at h
  ·rename_i q aL;cases h;obtain⟨x,us,U,aa,rfl⟩:=aJ.lk;obtain⟨bq,bp⟩:=SK aL aa aj;refine⟨?_,by simp;omega⟩;have e:bQ (x::us) (n+1) xs=x::bQ us n xs:=by simp only[bQ,oL,py,zb,true_and];rw[show n+1+xs.length=(n+xs.length)+1 by omega,IL]
   rw[e];exact .cons U bq
  ·cases h
inductive I2(D:bS):List (Nat×ap)->List (Nat×Value)->Prop
 |nil:I2 D [] []| cons {i v u l us} (h:a1 D v u) (k:I2 D l us):I2 D ((i,v)::l) ((i,u)::us)
def MY{place:Nat->Option (Nat×Nat)}:∀ {vs:List (Nat×ap)} {cells r:List ap} {us:List Value} {xs:List (Nat×Value)},Bg place cells vs=some r->b0 D cells us->I2 D vs xs -> ∃ bj,um place us xs=some bj/\b0 D r bj
 |[],cells,r,us,_,h,aJ,.nil=>by simp only[Bg]at h;cases h;exact⟨us,rfl,aJ⟩
 |(i,v)::vs,cells,r,us,_,h,aJ,.cons (u:=u) (us:=xs) aj jx=>by
  simp only[Bg]at h;split at h;·cases h
  ·rename_i off size aK;cases ag:Nat.beq v.cells.length size with
   |false=>rw[ag]at h;cases h
   |true=>
    rw[ag]at h;simp only[a4]at h;split at h
    ·rename_i cs lS;obtain⟨U,aa⟩:=SK lS aJ aj.cells;obtain⟨bj,af,aN⟩:=MY h U jx;refine⟨bj,?_,aN⟩;have aE:u.cells.size=v.cells.length:=by simpa using aj.cells.len
     simp only[um,aK,aE,ag];rw[show Nat.ble (off+size) us.length=true by rw[MQ,eY];have:=cj ag;simp at aa;omega];exact af
    ·cases h
end
def gV(D:bS)(x:dW)(v:ap):Prop:=(∃ u,x=.val u/\a1 D v u)\/∃ q,v=.b q/\x=.lit q
def gV.val{D:bS}{u:Value}{v:ap}(h:a1 D v u):gV D (.val u) v:=.inl ⟨u,rfl,h⟩
def gV.mono{D bH:bS}(dH:D.le bH){x:dW}{v:ap}(h:gV D x v):gV bH x v:=by
 rcases h with⟨u,rfl,h⟩ | ⟨q,rfl,rfl⟩
 ·exact .val (h.mono dH)
 ·exact .inr ⟨q,rfl,rfl⟩
def rN(D:bS)(F:Fr)(ak:bn ap):Prop:=∀ t v,ak.get t=some v->gV D (F t) v
def jW(D:bS)(F:Fr)(ak:bn ap)(xs:List Operand):Prop:=∀ x∈xs,∀ v,dG ak x=some v->gV D (dN F x) v
def rN.op{D:bS}{ak:bn ap}(h:rN D F ak)(xs:List Operand):jW D F ak xs:=λx _ v aj=>by
 cases x with
 |tmp t=>exact h t v aj
 |const c=>
  have nq:Fx c=some v:=aj;cases c with
  |bool q=>
   have:v=.b q:=by simp[Fx,IN]at nq;exact nq.symm
   exact .inr ⟨q,this,rfl⟩
  |_=>exact .val (.of nq)
 |global g=>
  have:v=.g g 0:=by simpa[dG]using aj.symm
  subst this;exact .val (by simp[a1])
 |func f=>
  have:v=.f f [] []:=by simpa[dG]using aj.symm
  subst this;exact .val (by simp only[a1];exact⟨[],[],.nil,.nil,rfl⟩)
section
variable{D:bS}{F:Fr}{ak:bn ap}{xs:List Operand}
def gV.ey{v:ap}(h:gV D (dN F x) v):∃ u,bU F x=.val u/\a1 D v u:=by
 unfold bU Go.V.ey;rcases h with⟨u,h,aj⟩ | ⟨q,rfl,h⟩
 ·rw[h];exact⟨u,rfl,aj⟩
 ·rw[h];exact⟨.bool q,rfl,by simp[a1]⟩
def gV.yl{x:dW}{v:ap}(h:gV D x v)(aj:∀ q,v≠.b q):∃ u,x=.val u/\a1 D v u:=by
 rcases h with h | ⟨q,h,_⟩
 ·exact h
 ·exact(aj q h).elim
def jW.bU(h:jW D F ak xs)(ab:x∈xs){v:ap}(aj:dG ak x=some v):∃ u,bU F x=.val u/\a1 D v u:=(h x ab v aj).ey
def jW.nh(h:jW D F ak xs):∀ {l:List Operand} {vs:List ap},(∀ x∈l,x∈xs)->pd ak l=some vs->∃ us,nh F l=some us/\b0 D vs us
 |[],vs,_,aj=>by simp only[pd]at aj;cases aj;exact⟨[],rfl,.nil⟩
 |x::l,vs,aE,aj=>by
  simp only[pd]at aj;split at aj;·rename_i v vs U aa;cases aj;obtain⟨u,aC,a3⟩:=h.bU (aE x (by simp)) U;obtain⟨us,aA,a6⟩:=jW.nh h (λy aT=>aE y (by simp[aT])) aa;refine⟨u::us,?_,.cons a3 a6⟩;show kJ (dN F) (x::l)=_;rw[kJ];have dO:ey (dN F) x=.val u:=aC;have eZ:kJ (dN F) l=some us:=aA;rw[dO,eZ]
  ·cases aj
def jW.parts(h:jW D F ak xs):∀ {l:List (Nat×Operand)} {vs:List (Nat×ap)},(∀ x∈l.map (·.2),x∈xs)->FB ak l=some vs->∃ us,BY F l=some us/\I2 D vs us
 |[],vs,_,aj=>by simp only[FB]at aj;cases aj;exact⟨[],rfl,.nil⟩
 |(i,x)::l,vs,aE,aj=>by
  simp only[FB]at aj;split at aj;·rename_i v vs U aa;cases aj;obtain⟨u,aC,a3⟩:=h.bU (aE x (by simp)) U;obtain⟨us,aA,a6⟩:=jW.parts h (λy aT=>aE y (by simp only[dQ,eu];exact .inr aT)) aa;refine⟨(i,u)::us,?_,.cons a3 a6⟩;show uo (dN F) ((i,x)::l)=_;rw[uo];have dO:ey (dN F) x=.val u:=aC;have eZ:uo (dN F) l=some us:=aA;rw[dO,eZ]
  ·cases aj
end
inductive rO(D:bS):List (ap×ap)->List MapEntry->Prop
 |nil:rO D [] []| cons {k v es e l} (ae:a1 D k e.key) (aj:a1 D v e.val) (t:rO D es l):rO D ((k,v)::es) (e::l)
def iS(n:Nat):Code->Bool
 | .seq x y=>iS n x&&iS n y| .block _ c=>iS n c| .cond _ x y=>iS n x&&iS n y| .loop c=>iS n c| .scope c=>iS n c| .region _ ops _=>Ce n ops| .rangeFunc _ ps fO body=>iS n fO&&(iS n body&&ps.toList.all λt=>Nat.blt t n)| _=>true
structure abo(D:bS)(busy:Bool)(n:Nat)(ak:bn ap)(ps:List Nat)(fO body:Code)(L:Loop):Prop where
 ao:L.state=bif busy then .busy else .ready
 q0:L.pending=none
 sz:L.tmps.size=n
 ak:∀ t v,ak.get t=some v->a1 D v (L.tmps.getD t undef)
 ps:L.params.toList=ps
 fO:L.assign=fO
 body:L.body=body
 za:iS n L.assign=true
 pB:iS n L.body=true
 op:∀ t∈L.params.toList,t<n
inductive l6(D:bS)(E:Env)(M:List aF)(a:Loc):gn->Prop
 |cells{cs:bn ap}{T ga:Nat}(arr:Array Value)(aD:a.o=0)(a2:(⟨a.b,.cells arr T (0,0)⟩:aF)∈M)(aE:a.o+ga<=arr.size)(aJ:∀ i v,i<ga->cs.get i=some v->∃ x,arr[a.o+i]?=some x/\a1 D v x)(ae:∀ i,E T=some i->arr.size=a.o+a.c*i.size)(hm:a.c<=maxLen):l6 D E M a (.cells cs T ga)| map {es:List (ap×ap)} (l:List MapEntry) (clock:Nat) (a2:(⟨a.b,.map l.toArray clock⟩:aF)∈M) (he:rO D es l):l6 D E M a (.map es)| loop {busy n ak ps fO body} (L:Loop) (a2:(⟨a.b,.loop L⟩:aF)∈M) (c4:abo D busy n ak ps fO body L):l6 D E M a (.loop busy n ak ps fO body)| done {c n ak ps fO body} (L:Loop) (a2:(⟨a.b,.loop L⟩:aF)∈M) (ax:L.state=.done) (aK:L.pending=some c):l6 D E M a (.done c n ak ps fO body)
def rO.mono{D bH:bS}(dH:D.le bH){es:List (ap×ap)}{l:List MapEntry}(h:rO D es l):rO bH es l:=by
 induction h with
 |nil=>exact .nil| cons ae aj t be=>exact .cons (ae.mono dH) (aj.mono dH) be
def l6.mono{D bH:bS}{M':List aF}{a:Loc}(dH:D.le bH)(a2:∀ x∈M,x.num=a.b->x∈M'){e:gn}(h:l6 D E M a e):l6 bH E M' a e:=by
 cases h with
 |cells arr ay U aa af aN bq=>exact .cells arr ay (a2 _ U rfl) aa (λi v hi aB=>by obtain⟨x,a3,a6⟩:=af i v hi aB;exact⟨x,a3,a6.mono dH⟩) aN bq| map l clock U aa=>exact .map l clock (a2 _ U rfl) (aa.mono dH)| loop L U aa=>exact .loop L (a2 _ U rfl) { aa with ak:=λt v aI=>(aa.ak t v aI).mono dH }| done L U aa af=>exact .done L (a2 _ U rfl) aa af
def I3(G:GT)(I:a5):Prop:=∀ g cs,G g=some cs->∃ (arr:Array Value) (T:Nat) (f:Nat×Nat),I g=some (.cells arr T f)/\∀ i v,cs.get i=some v->∃ x,arr[i]?=some x/\∀ D,a1 D v x
structure dE(Y:hF)(D:bS)(m:bB)(I:a5)(M:List aF):Prop where
 jH:∀ id e a,m.t.get id=some e->D id=some a->l6 D Y.E M a e
 inj:∀ id ju e a' a cf,m.t.get id=some e->m.t.get ju=some a'->D id=some a->D ju=some cf->a.b=cf.b->id=ju
 kB:∀ id a,D id=some a->id<m.n
 rM:I3 Y.G I
section
variable{Y:hF}{D:bS}{m:bB}{I:a5}{M:List aF}{R:Type}
def Bn(h:dE Y D m I M){x:ap}{u:Value}(ab:a1 D x u){n:Nat}{K:List ap->Option R}{r:R}(al:yf Y.G m.t x n K=some r) :
  ∃ ad l vs,u=.pointer (some ad)/\cx I M ad n vs/\b0 D l vs/\K l=some r:=by
 have key:∀ (arr:Array Value) (aq off:Nat) (l:List ap),l.length=n->aq+off+n<=arr.size->(∀ i,i<n->∀ v,l[i]?=some v->∃ x,arr[aq+off+i]?=some x/\a1 D v x) ->
   ((arr.toList.drop (aq+off)).take n).length=n/\b0 D l ((arr.toList.drop (aq+off)).take n):=by
  intro arr aq off l aE cI aB;have cg:((arr.toList.drop (aq+off)).take n).length=n:=by simp;omega
  refine⟨cg,b0.SH (by rw[cg,aE]) λi v hi=>?_⟩;have jc:i<n:=by rw[<-aE];exact(kG.1 hi).1
  obtain⟨x,U,aa⟩:=aB i jc v hi;refine⟨x,?_,aa⟩;rw[mM,cF jc,s8];simpa using U
 unfold yf at al;split at al
 ·rename_i id off;split at al
  ·rename_i cs T ga aB;cases ag:Nat.ble (Nat.add off n) ga with
   |false=>rw[ag]at al;cases al
   |true=>
    rw[ag]at al;have ht:off+n<=ga:=bP ag;simp only[a4]at al;obtain⟨l,U,aa,af⟩:=bn.FL cs n off K r al;obtain⟨a,aH,hu⟩:=ab.ptr;have he:=h.jH _ _ _ aB aH;obtain⟨arr,-,a2,aE,aJ,-,-⟩:=he;obtain⟨eJ,c3⟩:=key arr a.o off l U (by omega) λi hi v aj=>by have:=aJ (off+i) v (by omega) (by rw[aa i hi,aj]);rw[<-p9]at this;exact this
    exact⟨_,l,_,hu,⟨rfl,arr,T,(0,0),.inr ⟨_,a2,rfl,rfl⟩,rfl,eJ⟩,c3,af⟩
  ·cases al
 ·rename_i g off;split at al
  ·rename_i cs aB;obtain⟨l,U,aa,af⟩:=bn.FL cs n off K r al;obtain⟨arr,T,f,bX,aJ⟩:=h.rM _ _ aB;have hu:=ab.rM;have gq:∀ i,i<n->∀ v,l[i]?=some v->∃ x,arr[0+off+i]?=some x/\a1 D v x:=λi hi v aj=>by obtain⟨x,a3,a6⟩:=aJ (off+i) v (by rw[aa i hi,aj]);exact⟨x,by simpa using a3,a6 D⟩
   by_cases az:n=0;·subst az;have:l=[]:=nx U;subst this;exact⟨_,[],[],hu,⟨rfl,arr,T,f,.inl bX,by simp,rfl⟩,.nil,af⟩
   ·have cI:0+off+n<=arr.size:=by
     have a0:n-1<l.length:=by omega
     obtain⟨x,a3,_⟩:=gq (n-1) (by omega) l[n-1] (g5 a0);have:=(ma.1 a3).1;omega
    obtain⟨eJ,c3⟩:=key arr 0 off l U cI gq;simp only[dp]at eJ c3;exact⟨_,l,_,hu,⟨rfl,arr,T,f,.inl bX,rfl,eJ⟩,c3,af⟩
  ·cases al
 ·cases al
end
def amM{k:IntKind}(h:IntKind.nk k cO=true):k=cO:=IntKind.D5 h
def MZ(l m:List UInt8):decide ((⟨l.toArray⟩:ByteArray)=⟨m.toArray⟩)=decide (l=m):=by
 simp only[My];constructor
 ·intro h;simpa using h
 ·rintro rfl;rfl
def amN(a b:ByteArray):(a == b)=decide (a=b):=by
 rw[nZ];simp only[eY];constructor
 ·intro h
  first | exact eq_of_beq h | exact w1 (eq_of_beq (a:=a.data) (b:=b.data) h)
 ·rintro rfl
  first | exact Gm _ | exact Gm a.data
section
variable{P:Program}{E:Env}{D:bS}
def M2(aW:dm P E){o:Nat}{l:List ap}{x:ap}(h:wJ E t o l=some x){us:List Value}(aE:b0 D l us):∃ u,a1 D x u/\∀ w,(part t us.toArray o).run P w=.ok u w:=by
 unfold wJ at h;obtain⟨i,U,h⟩:=df h;obtain⟨ay,h⟩:=Bj h;have j4:i.size≠0:=λe=>by rw[e]at ay;cases ay
 obtain⟨r,aa,h⟩:=df h;obtain⟨aC,aA⟩:=abm aa;rw[I1]at aC;have cg:=aE.len;subst aC;refine⟨_,MX h ((aE.drop o).take _),λw=>?_⟩;have:=OH (aW _ _ U) (cs:=us.toArray) (off:=o) (by rw[mV,Ax]at aA;simp;omega) w;simpa using this
def SL{F:Nat->ap->ap->Option Bool}{l m:List ap}{α β:Type}{pl:α->Nat×Nat}{g:α->β->Sem (ForInStep β)}{e2 s1:β}{w:World}:∀ (L:List α) {b:Bool},Bf F E l m (L.map pl)=some b -> (∀ a∈L,∀ x y c,wJ E (pl a).1 (pl a).2 l=some x->wJ E (pl a).1 (pl a).2 m=some y->F (pl a).1 x y=some c->(g a e2).run P w=.ok (if c then .yield e2 else .done s1) w) -> (forIn L e2 g).run P w=.ok (if b then e2 else s1) w
 |[],b,h,_=>by cases h;simp[dv]
 |a::L,b,h,aB=>by
  simp only[dQ]at h;unfold Bf at h;obtain⟨x,U,h⟩:=df h;obtain⟨y,aa,h⟩:=df h;obtain⟨c,af,h⟩:=df h;simp only[List.forIn_cons,cG];rw[aB a (by simp) x y c U aa af];rw[k4]at h;cases c with
  |true=>simp only[s',ck];exact SL L h λcf aH=>aB cf (by simp[aH])
  |false=>cases h;simp[ck,dv]
def SM(aW:dm P E):∀ (d:Nat) {t:Nat} {x y:ap} {b:Bool} {u v:Value},rK P E d t x y=some b->a1 D x u->a1 D y v->∀ n,d<=n->∀ w,(Op.equalIn n t u v).run P w=.ok b w
 |0,t,x,y,b,u,v,h,ab,aT,n,az,w=>by cases h
 |d+1,t,x,y,b,u,v,h,ab,aT,0,az,w=>by omega
 |d+1,t,x,y,b,u,v,h,ab,aT,n+1,az,w=>by
  unfold rK at h;obtain⟨i,hi,h⟩:=df h;obtain⟨q7,fH,oJ⟩:=(aW _ _ hi).fM;rw[Op.equalIn];simp only[cG,run_underlying fH,ck];split at h
  ·rename_i a cf ax _;cases h;have a3:q7=.bool:=by cases q7<;>simp_all[fF]
   subst a3;rw[ab.bool,aT.bool];rfl
  ·rename_i cO k a c3 cf ax _;obtain⟨aC,h⟩:=hG h;cases h;have a3:q7=.int cO:=by cases q7<;>simp_all[fF]
   subst a3;rw[ab.int,aT.int];rw[amM aC];have ag:(a == cf)=nU a cf:=by
    rw[zY];by_cases e:a=cf;·subst e;simp
    ·simp[e]
   simp[ag]
  ·rename_i a cf ax _;cases h;have a3:q7=.string:=by cases q7<;>simp_all[fF]
   subst a3;rw[ab.str,aT.str];show Result.ok _ _=_;rw[Dr,<-MZ];congr 1;exact amN _ _
  ·rename_i cT l m ax _;obtain⟨aC,h⟩:=hG h;unfold R8 at aC;rw[fH]at aC;cases q7 with
   |struct fields=>
    simp only[ct,pk,hI,eY]at aC;obtain⟨aC,aA⟩:=aC;rw[ax]at oJ;simp only[fF,Gs.struct.injEq]at oJ;subst oJ;obtain⟨us,U,rfl⟩:=ab.agg;obtain⟨ws,aa,rfl⟩:=aT.agg;simp only[cG,run_program,ck,aC,lN,mO];rw[<-Array.forIn_toList];rw[SL (P:=P) (s1:=⟨some false,⟨⟩⟩) fields.toList h (λf ar x y c tL pT aJ=>by
     obtain⟨p,eJ,c3⟩:=M2 aW tL U;obtain⟨q,gr,mZ⟩:=M2 aW pT aa;have aL:=SM aW d aJ eJ gr n (by omega) w;simp only[aA f ar,s',ne_eq,not_false_eq_true,cG,c3,mZ,ck,aL];cases c<;>simp[dv])]
    cases b<;>simp[ck,dv]
   |_=>cases aC
  ·rename_i len e l m ax _;obtain⟨aP,iF,h⟩:=df h;have a3:q7=.array len e:=by cases q7<;>simp_all[fF]
   subst a3;obtain⟨us,U,rfl⟩:=ab.agg;obtain⟨ws,aa,rfl⟩:=aT.agg;simp only[cG,(aW _ _ iF).run_sizeOf,ck,VP];have al:List.range' 0 ([:len]:Std.Legacy.Range).size=List.range len:=by simp[Std.Legacy.Range.size,DZ]
   rw[al];rw[SL (P:=P) (s1:=⟨some false,⟨⟩⟩) (List.range len) h (λf ar x y c tL pT aJ=>by
    obtain⟨p,eJ,c3⟩:=M2 aW tL U;obtain⟨q,gr,mZ⟩:=M2 aW pT aa;have aL:=SM aW d aJ eJ gr n (by omega) w;simp only[cG,c3,mZ,ck,aL];cases c<;>simp[dv])]
   cases b<;>simp[ck,dv]
  ·cases h
end
section
variable{X:dw}{D:bS}
def SN(aW:dm X.P X.E){op:BinOp}{l m:List ap}{v:ap}{us ws:List Value}(h:Dj X.P X.E op t l m=some v)(aE:b0 D l us)(hm:b0 D m ws)(ae:∀ u,a1 D v u->K u) :
  fU X.P op t x y (.val (.agg us.toArray)) (.val (.agg ws.toArray)) K O:=by
 unfold Dj at h;obtain⟨aB,h⟩:=Bj h;obtain⟨b,U,h⟩:=df h;have aL:=SM (D:=D) aW 8 U (u:=.agg us.toArray) (v:=.agg ws.toArray) (by simp only[a1];exact⟨us,aE,rfl⟩) (by simp only[a1];exact⟨ws,hm,rfl⟩) Op.maxDepth (by decide);split at h
 ·cases h;refine .mk _ _ _ rfl rfl (λw=>?_) (ae _ (by simp only[a1];rfl));simp only[cG,run_eqGuard_agg (hm:=aB),ck,binOp,Op.equal,aL,dv]
 ·cases h;refine .mk _ _ _ rfl rfl (λw=>?_) (ae _ (by simp only[a1];rfl));simp only[cG,run_eqGuard_agg (hm:=aB),ck,binOp,Op.equal,aL,dv]
 ·cases h
end
open Go Go.Proofs
def FN(x y:Int):Int:=IntKind.u64.wrap ((BitVec.ofInt 64 x ||| BitVec.ofInt 64 y).toNat:Int)
def M3(x y:BitVec 64):FN x.toNat y.toNat=((x ||| y).toNat:Int):=by unfold FN;rw[IF,IF,aaj]
def SO(x y:Int):Int:=IntKind.u64.wrap ((BitVec.ofInt 64 x &&& BitVec.ofInt 64 y).toNat:Int)
def amO(x y:BitVec 64):SO x.toNat y.toNat=((x &&& y).toNat:Int):=by unfold SO;rw[IF,IF,aaj]
def amP(x y:BitVec 64):nU (x.toNat:Int) (y.toNat:Int)=decide (x=y):=by rw[zY,<-ami,nZ];simp
def FO(v:α)(x:R)(f:α->R):cv (some v) x f=f v:=rfl
abbrev et(X:dw)(G:GT)(pr:mG):hF:=⟨X.P,X.E,G,pr⟩
section
variable{X:dw}{G:GT}{pr:mG}{D:bS}{m:bB}{F:Fr}{ak:bn ap}{C:dX}{I:a5}{M:List aF}{V:dW->Prop}{O:Prop}
def pZ{a b:α}(h:some a=some b):a=b:=by cases h;rfl
def amQ{op:BinOp}{k:IntKind}{a b:Int}{v:ap}(h:R5 op k cO a b=some v)(ae:∀ u,a1 D v u->K u):mg op dT (.val (.int k a)) (.val (.int cO b)) K O:=by
 have mk:∀ {q:ap} {u:Value},some q=some v->a1 D q u->K u:=λe hu=>ae _ (pZ e ▸ hu);unfold R5 at h;split at h
 ·split at h
  ·rename_i j;refine⟨j,rfl,⟨_,rfl,mk h ?_⟩⟩;simp only[a1];rw[Bk,amJ,k4,abk]
  ·cases h
 ·split at h
  ·rename_i j;refine⟨j,rfl,mk h ?_⟩;simp only[a1];rw[amK,k4,abk]
  ·cases h
 all_goals obtain⟨aL,h⟩:=hG h
 all_goals simp only[mg,aL,a4]
 ·exact⟨_,rfl,mk h (by simp only[a1];rw[Bk,amE])⟩
 ·exact⟨_,rfl,mk h (by simp only[a1];rw[Bk,amF])⟩
 ·exact⟨_,rfl,mk h (by simp only[a1];rw[Bk,amG])⟩
 ·obtain⟨ay,h⟩:=Bj h;refine⟨λe=>?_,_,rfl,mk h (by simp only[a1];rw[Bk,amH])⟩;rw[zY,e]at ay;simp at ay
 ·obtain⟨ay,h⟩:=Bj h;refine⟨λe=>?_,mk h (by simp only[a1];rw[amI])⟩;rw[zY,e]at ay;simp at ay
 ·obtain⟨r,al,h⟩:=df h;rw[MS al];exact mk h (by simp only[a1])
 ·obtain⟨r,al,h⟩:=df h;rw[MS al];exact mk h (by simp only[a1])
 ·obtain⟨r,al,h⟩:=df h;rw[MS al];exact mk h (by simp only[a1])
 ·obtain⟨r,al,h⟩:=df h;rw[MS al];exact mk h (by simp only[a1])
 ·obtain⟨r,al,h⟩:=df h;rw[amD]at al;have aj:v=.b r:=(pZ h).symm;subst aj;have hZ:K (.bool r):=ae _ (by simp only[a1]);cases op<;>first
   |contradiction|(rw[al];exact hZ)
def SP(b:Bool):cw b false true=!b:=by cases b<;>rfl
def amR{op:BinOp}{a b:List UInt8}{v:ap}(h:R6 op a b=some v)(ae:∀ u,a1 D v u->K u) :
  mg op dT (.val (.string ⟨a.toArray⟩)) (.val (.string ⟨b.toArray⟩)) K (fU P op t x y (.val (.string ⟨a.toArray⟩)) (.val (.string ⟨b.toArray⟩)) K O):=by
 unfold R6 at h;split at h
 ·cases h;refine ae _ ?_;simp only[a1];rw[MZ,Dr]
 ·cases h;refine ae _ ?_;simp only[a1];rw[MZ,Dr,SP]
 ·obtain⟨aE,h⟩:=hG h;cases h;have n5:=bP aE;refine fU.concat (by simpa[ByteArray.size]using n5) (ae _ ?_);simp only[a1];congr 1
 ·cases h
def amS{op:BinOp}{a:Bool}{v:ap}(h:R7 op dT a b=some v)(ae:∀ u,a1 D v u->K u):mg op dT (.val (.bool a)) (.val (.bool b)) K O:=by
 unfold R7 at h;split at h
 ·split at h
  ·cases h;exact ae _ (by simp only[a1])
  ·cases h;exact ae _ (by simp only[a1])
  ·cases h
 ·cases h
def amT{x:ap}(h:R9 x=some b){u:Value}(hu:a1 D x u):∃ a n c,u=.slice a n c/\b=a.isNone:=by
 cases x<;>simp only[R9,hq,reduceCtorEq]at h<;>subst h<;>simp only[a1]at hu
 ·exact⟨_,_,_,hu,rfl⟩
 ·obtain⟨a,-,hu⟩:=hu;exact⟨_,_,_,hu,rfl⟩
 ·obtain⟨a,-,-,hu⟩:=hu;exact⟨_,_,_,hu,rfl⟩
 ·exact⟨_,_,_,hu,rfl⟩
 ·obtain⟨a,c,hu⟩:=hu;exact⟨_,_,_,hu,rfl⟩
def amU{x:ap}(h:R' x=some b){u:Value}(hu:a1 D x u):∃ p,u=.pointer p/\b=p.isNone:=by
 cases x<;>simp only[R',hq,reduceCtorEq]at h<;>subst h<;>simp only[a1]at hu
 ·exact⟨_,hu,rfl⟩
 ·obtain⟨a,-,hu⟩:=hu;exact⟨_,hu,rfl⟩
 ·exact⟨_,hu,rfl⟩
def amV{e:Nat}(h:P.underlying t=some (.slice e))(a:Option Addr)(n c:Nat)(w:World):(Op.equal t (.slice a n c) (.slice none 0 0)).run P w=.ok a.isNone w:=by
 have key:∀ d,(Op.equalIn (d+1) t (.slice a n c) (.slice none 0 0)).run P w=.ok a.isNone w:=λd=>by cases a<;>simp[Op.equalIn,run_underlying h]
 exact key 9999
def amW{e:Nat}(h:P.underlying t=some (.pointer e))(p:Option Addr)(w:World):(Op.equal t (.pointer p) (.pointer none)).run P w=.ok p.isNone w:=by
 have key:∀ d,(Op.equalIn (d+1) t (.pointer p) (.pointer none)).run P w=.ok p.isNone w:=λd=>by cases p<;>simp[Op.equalIn,run_underlying h]
 exact key 9999
def abp{op:BinOp}{v:ap}{p q:Value}(aB:∀ w,op=.eql\/op=.neq->(eqGuard op t x y p q).run P w=.ok () w)(he:∀ w,(Op.equal t p q).run P w=.ok b w)(ag:∀ w,(binOp .eql t p q).run P w=.ok (.bool b) w)(az:∀ w,(binOp .neq t p q).run P w=.ok (.bool (!b)) w)(h:MB op b=some v)(ae:∀ u,a1 D v u->K u):fU P op t x y (.val p) (.val q) K O:=by
 unfold MB at h;split at h
 ·cases h;refine .mk p q (.bool b) rfl rfl (λw=>?_) (ae _ (by simp only[a1]));simp only[cG,aB w (.inl rfl),ck,ag w]
 ·cases h;refine .mk p q (.bool (!b)) rfl rfl (λw=>?_) (ae _ (by simp only[a1]));simp only[cG,aB w (.inr rfl),ck,az w]
 ·cases h
def amX(aW:dm X.P X.E){op:BinOp}{x y v:ap}{amY:Operand}{u:Value}(h:Sa X.P X.E op t x y=some v)(ab:a1 D x u)(aT:a1 D y w)(ae:∀ u,a1 D v u->K u) :
  mg op (X.E t) (.val u) (.val w) K (fU X.P op t rI amY (.val u) (.val w) K O):=by
 unfold Sa at h;split at h
 ·rw[ab.int,aT.int];exact amQ h ae
 ·rw[ab.str,aT.str];exact amR h ae
 ·rw[ab.bool,aT.bool];exact amS h ae
 ·obtain⟨us,U,rfl⟩:=ab.agg;obtain⟨ws,aa,rfl⟩:=aT.agg;exact SN aW h U aa ae
 ·obtain⟨i,hi,h⟩:=df h;split at h
  ·rename_i e oJ;obtain⟨b,U,h⟩:=df h;obtain⟨a,n,c,rfl,rfl⟩:=amT U ab;simp only[a1]at aT;subst aT;obtain⟨d,fH,gd⟩:=(aW _ _ hi).fM;have aa:d=.slice e:=by rw[oJ]at gd;cases d<;>simp_all[fF]
   subst aa;have he:=amV fH a n c;exact abp (λw aD=>by rcases aD with rfl | rfl<;>(unfold eqGuard;rfl)) he (λw=>by simp only[binOp];simp[he w]) (λw=>by simp only[binOp];simp[he w]) h ae
  ·cases h
 ·obtain⟨i,hi,h⟩:=df h;split at h
  ·rename_i e oJ;obtain⟨b,U,h⟩:=df h;obtain⟨p,rfl,rfl⟩:=amU U ab;simp only[a1]at aT;subst aT;obtain⟨d,fH,gd⟩:=(aW _ _ hi).fM;have aa:d=.pointer e:=by rw[oJ]at gd;cases d<;>simp_all[fF]
   subst aa;have he:=amW fH p;exact abp (λw aD=>by rcases aD with rfl | rfl<;>(unfold eqGuard;rfl)) he (λw=>by simp only[binOp];simp[he w]) (λw=>by simp only[binOp];simp[he w]) h ae
  ·cases h
 ·cases h
variable(aW:dm X.P X.E)(hm:dE (et X G pr) D m I M)
def FP{v:ap}{n:Nat}(h:v.nat=some n):∃ k,v=.i k (.ofNat n):=by
 unfold ap.nat at h;split at h
 ·cases h;exact⟨_,rfl⟩
 ·cases h
def abq{x v:ap}{n:Nat}{u:Value}(h:IP x n=some v)(ab:a1 D x u):∃ a,u=.pointer (some a)/\a.spot=none/\a1 D v (.pointer (some (a.add n))):=by
 unfold IP at h;split at h
 ·cases h;obtain⟨a,aH,rfl⟩:=ab.ptr;refine⟨_,rfl,rfl,?_⟩;rw[dY _ rfl];simp only[a1];exact⟨a,aH,by simp only[Be,p9]⟩
 ·cases h;refine⟨_,ab.rM,rfl,?_⟩;rw[dY _ rfl];simp only[a1];rfl
 ·cases h
def amZ{x v:ap}{u:Value}(h:MC x j sz=some v)(ab:a1 D x u):∃ a n c,u=.slice (some a) n c/\j<n/\a1 D v (.pointer (some (a.add (j*sz)))):=by
 unfold MC at h;split at h
 ·cases ag:Nat.blt j _ with
  |false=>rw[ag]at h;cases h| true=>rw[ag]at h;cases h;obtain⟨a,aH,rfl⟩:=ab.tV;refine⟨_,_,_,rfl,bP ag,?_⟩;rw[dY _ rfl];simp only[a1];exact⟨a,aH,by simp only[Be,Fu,p9]⟩
 ·cases ag:Nat.blt j _ with
  |false=>rw[ag]at h;cases h| true=>rw[ag]at h;cases h;obtain⟨a,aH,_,rfl⟩:=ab.wN;refine⟨_,_,_,rfl,bP ag,?_⟩;rw[dY _ rfl];simp only[a1];exact⟨a,aH,by simp only[Be,Fu,p9]⟩
 ·cases ag:Nat.blt j _ with
  |false=>rw[ag]at h;cases h| true=>rw[ag]at h;cases h;refine⟨_,_,_,ab.SI,bP ag,?_⟩;rw[dY _ rfl];simp only[a1];rfl
 ·cases h
def abr{cs:List ap}{v:ap}{us:List Value}(h:ME aP cs off=some v)(aJ:b0 D cs us) :
  off+aP.size<=us.length/\a1 D v (pack aP.bT.agg ((us.drop off).take aP.size)):=by
 unfold ME at h;obtain⟨ay,h⟩:=Bj h;obtain⟨l,U,aa⟩:=df h;have j4:aP.size≠0:=λe=>by rw[e]at ay;cases ay
 obtain⟨rfl,aE⟩:=abm U;rw[I1]at aa aE;refine⟨?_,MX aa ((aJ.drop off).take _)⟩;have:=aJ.len;simp at aE;omega
def abt{i:Nat}{h1:eE}(h:MD E t i=some (off,h1)):∃ a b z cT nj,E t=some ⟨a,b,z,.struct cT⟩/\cT[i]?=some (nj,off)/\E nj=some h1:=by
 unfold MD at h;split at h
 ·rename_i a b z cT aI;split at h
  ·rename_i nj o ar;rw[Bm]at ar;split at h
   ·rename_i f rr;cases h;exact⟨_,_,_,_,nj,aI,ar,rr⟩
   ·cases h
  ·cases h
 ·cases h
def am0(h:Sd E t=some (r,aP)):(∃ a b z e,E t=some ⟨a,b,z,.slice e⟩/\E e=some aP/\r=none)\/∃ a b z n e,E t=some ⟨a,b,z,.array n e⟩/\E e=some aP/\r=some n:=by
 unfold Sd at h;split at h
 ·rename_i a b z e aI;split at h
  ·cases h;exact .inl ⟨_,_,_,_,aI,by assumption,rfl⟩
  ·cases h
 ·rename_i a b z n e aI;split at h
  ·cases h;exact .inr ⟨_,_,_,_,_,aI,by assumption,rfl⟩
  ·cases h
 ·cases h
def am1{x i v:ap}{u:Value}(h:IQ X.E t (some x) (some i)=some v)(ab:a1 D x u)(hi:a1 D i w){ρ:Operand->dW}{g4:Operand}(SQ:ey ρ rI=.val u)(iZ:ey ρ g4=.val w)
  (k:∀ x,gV D x v->V x):cY X (.index t rI g4) ρ C I M V O:=by
 unfold IQ at h;split at h
 ·rename_i l hV aI U aa;cases U;cases aa;obtain⟨j,an,h⟩:=df h;obtain⟨fS,rfl⟩:=FP an;have eX:Se l j=some v:=h;unfold Se at eX;obtain⟨b,ag,dk⟩:=df eX;cases dk;rw[Bm]at ag;rw[ab.str]at SQ;rw[hi.int]at iZ;have a0:=(kG.1 ag).1;simp only[cY,aI,SQ,iZ];refine⟨j,rfl,by simpa[ByteArray.size]using a0,k _ (.val ?_)⟩;simp only[a1];have:(⟨l.toArray⟩:ByteArray)[j]'(by simpa[ByteArray.size]using a0)=b:=by have:=(kG.1 ag).2;show l.toArray[j]'_=b;simpa using this
  rw[this];rfl
 ·rename_i n e cs hV aI U aa;cases U;cases aa;obtain⟨aP,he,h⟩:=df h;obtain⟨j,an,h⟩:=df h;obtain⟨fS,rfl⟩:=FP an;obtain⟨us,gK,rfl⟩:=ab.agg;unfold aaN at h;obtain⟨ag,h⟩:=hG h;rw[ct]at ag;obtain⟨af,aN⟩:=abr h gK;rw[hi.int]at iZ;simp only[cY,aI,SQ,iZ,he];have cI:Nat.beq (n*aP.size) us.toArray.size=true:=by have bq:=cj ag.1;rw[vp,gK.len,<-bq];exact r2 _
  rw[cI];simp only[a4];exact⟨j,rfl,bP ag.2,k _ (.val aN)⟩
 ·cases h
def am2{x v:ap}{l:Nat}{h:Option Nat}{u:Value}(ax:Sb x sz l h=some v)(ab:a1 D x u):∃ a n c,u=.slice a n c/\l<=h.getD n/\h.getD n<=c/\(h=none->l<=n) /\
  a1 D v (.slice (if c=l then a else a.map (·.add (l*sz))) (h.getD n-l) (c-l)):=by
 unfold Sb at ax;split at ax
 ·cases ag:(Nat.beq l 0&&Nat.beq (h.getD 0) 0)with
  |false=>rw[ag]at ax;cases ax| true=>rw[ag]at ax;cases ax;rw[ct]at ag;have U:=cj ag.1;have aa:=cj ag.2;subst U;refine⟨none,0,0,ab.Ds,by omega,by omega,λ_=>by omega,?_⟩;rw[aa];simp[a1]
 ·rename_i id off n c;obtain⟨a,aH,rfl⟩:=ab.tV;simp only at ax;cases ag:(Nat.ble l (h.getD n)&&Nat.ble (h.getD n) c)with
  |false=>rw[ag]at ax;cases ax
  |true=>
   rw[ag]at ax;simp only[a4]at ax;rw[ct]at ag;have U:=bP ag.1;have aa:=bP ag.2;refine⟨_,n,c,rfl,U,aa,λe=>by subst e;exact U,?_⟩;rw[SG]at ax;by_cases e:c=l;·subst e;simp only[zc,a4]at ax;cases ax;simp only[s',a1];exact⟨a,aH,by simp only[Fv,rp]⟩
   ·simp only[e,Mz,aQ]at ax;cases ax;simp only[e,mO,a1,mc];refine⟨a,aH,?_⟩;rw[dY _ rfl];simp only[Be,Fu,Fv,p9]
 ·rename_i id off e n;obtain⟨a,aH,bz,rfl⟩:=ab.wN;simp only at ax;cases ag:(Nat.ble l (h.getD n)&&Nat.ble (h.getD n) n)with
  |false=>rw[ag]at ax;cases ax
  |true=>
   rw[ag]at ax;simp only[a4]at ax;rw[ct]at ag;have U:=bP ag.1;have aa:=bP ag.2;refine⟨_,n,a.c-e,rfl,U,by omega,λe=>by subst e;exact U,?_⟩;cases aJ:(Nat.beq l 0||Nat.blt l n)with
   |true=>
    rw[aJ]at ax;simp only[a4]at ax;cases ax;rw[lq]at aJ;simp only[a1];refine⟨a,aH,by simp only[Be,Fv];omega,?_⟩;have af:a.c-e-l=a.c-(e+l):=by omega
    by_cases ay:l=0
    ·subst ay;simp only[G2,xL,mc,Be,Fu,Fv,p'];split
     ·rfl
     ·rw[dY _ rfl];simp
    ·have aN:l<n:=by
      rcases aJ with aJ | aJ;·exact absurd (cj aJ) ay
      ·exact bP aJ
     rw[b8 (by omega)];simp only[mc];rw[dY _ rfl];simp only[Be,Fu,Fv,p9,af]
   |false=>
    rw[aJ]at ax;simp only[aQ]at ax;cases ax;rw[n8]at aJ;have aN:¬ l<n:=λa0=>by have:=CW (show l.succ<=n from a0);rw[show Nat.blt l n=Nat.ble l.succ n from rfl,this]at aJ;cases aJ.2
    have bq:h.getD n-l=0:=by omega
    simp only[a1,bq];split;·exact⟨_,_,rfl⟩
    ·exact⟨_,_,rfl⟩
 ·cases ax
end
section
variable{X:dw}{G:GT}{pr:mG}{D:bS}{m:bB}{F:Fr}{ak:bn ap}{C:dX}{I:a5}{M:List aF}{V:dW->Prop}{O:Prop}
def am3(c:Bool)(a b:Value):Kd c (.val a) (.val b)=.val (bif c then a else b):=by cases a<;>cases b<;>cases c<;>rfl
def abu{o:Option Operand}{xs:List Operand}(H:jW D F ak xs)(ab:∀ y,o=some y->y∈xs)(h:Dk (o.map (dG ak))=some r) :
  (o.map (ey (dN F))=none/\r=none)\/∃ k n,o.map (ey (dN F))=some (.val (.int k (Int.ofNat n)))/\r=some n:=by
 cases o with
 |none=>simp[Dk]at h;exact .inl ⟨rfl,h.symm⟩
 |some y=>
  simp only[mc,Dk]at h;cases aj:dG ak y with
  |none=>rw[aj]at h;cases h
  |some v=>
   rw[aj]at h;simp only at h;split at h;·rename_i n az;cases h;obtain⟨k,rfl⟩:=FP az;obtain⟨u,hu,al⟩:=H.bU (ab y rfl) aj;rw[al.int]at hu;exact .inr ⟨k,n,by simp only[mc];exact congrArg some hu,rfl⟩
   ·cases h
def SR(l:List UInt8)(lo hi:Nat):(⟨(Sc l lo hi).toArray⟩:ByteArray)=(⟨l.toArray⟩:ByteArray).extract lo hi:=by apply w1;apply hJ;unfold Sc;rw[I1];simp[J6,List.extract_eq_take_drop]
def am4{v:ap}{n:Nat}{u:Value}(h:yg v=some n)(aj:a1 D v u):∃ a c,u=.slice a n c:=by
 unfold yg at h;split at h
 ·cases h;exact⟨_,_,aj.Ds⟩
 ·cases h;obtain⟨a,c,rfl⟩:=aj.MU;exact⟨_,_,rfl⟩
 ·cases h;obtain⟨a,_,rfl⟩:=aj.tV;exact⟨_,_,rfl⟩
 ·cases h;obtain⟨a,_,_,rfl⟩:=aj.wN;exact⟨_,_,rfl⟩
 ·cases h;exact⟨_,_,aj.SI⟩
 ·cases h
def am5(aW:dm X.P X.E){b:Builtin}{ts:Array TypeId}{v:ap}(h:Sh X.E b ts.toList (pd ak args.toList)=some v)(H:jW D F ak args.toList)(k:∀ x,gV D x v->V x) :
  cY X (.call { callee:=.builtin b,args:=args,argTypes:=ts }) (dN F) C I M V O:=by
 unfold Sh at h;split at h
 ·
  unfold aaS at h;split at h
  ·rename_i t w aI aE;obtain⟨us,aC,a3⟩:=H.nh (λ_ h=>h) aE;obtain⟨u,xs,a6,bN,rfl⟩:=a3.lk;have:=bN.oD;subst this;have dO:kJ (dN F) args.toList=some [u]:=aC;simp only[cY,aI,dO];split at h
   ·rename_i a b z e nK px;unfold MF at h;obtain⟨n,az,h⟩:=df h;have dk:some (ap.i .i64 (.ofNat n))=some v:=h;cases dk;obtain⟨cf,c,rfl⟩:=am4 az a6;simp only[px];exact k _ (.val (by simp only[a1];rfl))
   ·rename_i a b z l px;cases h;rw[a6.str];simp only[px];refine k _ (.val ?_);simp only[a1];simp[ByteArray.size]
   ·rename_i a b z n e nK px;cases h;cases u<;>(simp only[px];exact k _ (.val (by simp only[a1];rfl)))
   ·cases h
  ·cases h
 ·unfold aaT at h;split at h
  ·rename_i eJ a c3 b aE;obtain⟨us,aC,a3⟩:=H.nh (λ_ h=>h) aE;obtain⟨u,xs,a6,bN,rfl⟩:=a3.lk;obtain⟨w,kY,gP,pA,rfl⟩:=bN.lk;have:=pA.oD;subst this;have dO:kJ (dN F) args.toList=some [u,w]:=aC;rw[a6.int,gP.int]at dO;simp only[cY,dO];cases h;refine k _ (.val ?_);simp only[a1];rw[k4,MR];by_cases jo:a<=b
   ·simp[jo];omega
   ·simp[jo];omega
  ·cases h
 ·unfold aaU at h;split at h
  ·rename_i eJ a c3 b aE;obtain⟨us,aC,a3⟩:=H.nh (λ_ h=>h) aE;obtain⟨u,xs,a6,bN,rfl⟩:=a3.lk;obtain⟨w,kY,gP,pA,rfl⟩:=bN.lk;have:=pA.oD;subst this;have dO:kJ (dN F) args.toList=some [u,w]:=aC;rw[a6.int,gP.int]at dO;simp only[cY,dO];cases h;refine k _ (.val ?_);simp only[a1];rw[k4,MR];by_cases jo:a<=b
   ·simp[jo];omega
   ·simp[jo];omega
  ·cases h
 ·unfold aaV at h;split at h
  ·rename_i t id off n c aI aE;split at h
   ·rename_i a b z e px;cases h;obtain⟨us,aC,a3⟩:=H.nh (λ_ h=>h) aE;obtain⟨u,xs,a6,bN,rfl⟩:=a3.lk;have:=bN.oD;subst this;obtain⟨cf,aH,rfl⟩:=a6.tV;have dO:kJ (dN F) args.toList=some [_]:=aC;simp only[cY,aI,dO,px];exact k _ (.val (by simp only[a1];rfl))
   ·cases h
  ·cases h
 ·unfold aaW at h;split at h
  ·rename_i aE;cases h;obtain⟨us,aC,a3⟩:=H.nh (λ_ h=>h) aE;obtain⟨u,xs,a6,bN,rfl⟩:=a3.lk;have:=bN.oD;subst this;rw[a6.Ds]at aC;have dO:kJ (dN F) args.toList=some [_]:=aC;simp only[cY,dO];exact k _ (.val (by simp only[a1]))
  ·rename_i id off n c aE;obtain⟨ay,h⟩:=Bj h;cases h;obtain⟨us,aC,a3⟩:=H.nh (λ_ h=>h) aE;obtain⟨u,xs,a6,bN,rfl⟩:=a3.lk;have:=bN.oD;subst this;obtain⟨cf,aH,rfl⟩:=a6.tV;have dO:kJ (dN F) args.toList=some [_]:=aC;simp only[cY,dO];refine⟨λe=>?_,k _ (.val ?_)⟩
   ·have:c=0:=by omega
    subst this;cases ay
   ·simp only[a1];exact⟨cf,aH,rfl⟩
  ·rename_i id off e n aE;obtain⟨ay,h⟩:=Bj h;cases h;obtain⟨us,aC,a3⟩:=H.nh (λ_ h=>h) aE;obtain⟨u,xs,a6,bN,rfl⟩:=a3.lk;have:=bN.oD;subst this;obtain⟨cf,aH,bz,rfl⟩:=a6.wN;have dO:kJ (dN F) args.toList=some [_]:=aC;simp only[cY,dO];refine⟨λa'=>?_,k _ (.val ?_)⟩
   ·have:n=0:=by omega
    subst this;cases ay
   ·simp only[a1];exact⟨cf,aH,rfl⟩
  ·cases h
 ·cases h
def am6(aW:dm X.P X.E){op:Op}{v:ap}(h:Si X.P X.E G m.t op ak=some v)(H:jW D F ak op.operands.toList)(hm:dE (et X G pr) D m I M)(k:∀ x,gV D x v->V x):cY X op (dN F) C I M V O:=by
 unfold Si at h;split at h
 ·
  exact k _ (H _ (by simp[Op.operands]) _ h)
 ·exact k _ (H _ (by simp[Op.operands]) _ h)
 ·
  rename_i c a b;unfold aaF at h;split at h
  ·rename_i q u w U aa af;cases h;have aJ:=H c (by simp[Op.operands]) _ U;have aH:=H a (by simp[Op.operands]) _ aa;have ag:=H b (by simp[Op.operands]) _ af;simp only[cY];rcases aJ with⟨aud,zL,aJ⟩ | ⟨fG,a',zL⟩
   ·rw[aJ.bool]at zL;simp only[zL];obtain⟨SS,sF,am7⟩:=aH.ey;obtain⟨Ij,C5,c6⟩:=ag.ey;have am8:ey (dN F) a=.val SS:=sF;have am9:ey (dN F) b=.val Ij:=C5;rw[am8,am9];refine k _ (.inl ⟨bif q then SS else Ij,?_,?_⟩)
    ·exact am3 q SS Ij
    ·cases q
     ·exact c6
     ·exact am7
   ·cases a';simp only[zL];cases q
    ·exact k _ ag
    ·exact k _ aH
  ·cases h
 ·
  rename_i aue t x;unfold aaG at h;split at h
  ·rename_i b U;cases h;have ab:=H x (by simp[Op.operands]) _ U;simp only[cY];rcases ab with⟨u,e,hu⟩ | ⟨q,aC,e⟩
   ·rw[hu.bool]at e;simp only[e];exact k _ (.val (by simp only[a1];rw[SP]))
   ·cases aC;simp only[e];exact k _ (.inr ⟨!b,by rw[SP],rfl⟩)
  ·rename_i fS n U;cases h;have ab:=H x (by simp[Op.operands]) _ U;obtain⟨u,e,hu⟩:=ab.yl (by simp);rw[hu.int]at e;simp only[cY,e];exact⟨_,rfl,k _ (.val (by simp only[a1];rw[Bk]))⟩
  ·cases h
 ·
  rename_i auf t x y fw;unfold aaH at h;obtain⟨a,U,h⟩:=df h;obtain⟨b,aa,h⟩:=df h;obtain⟨u,aC,a3⟩:=H.bU (x:=x) (by simp[Op.operands]) U;obtain⟨w,aA,a6⟩:=H.bU (x:=y) (by simp[Op.operands]) aa;have dO:ey (dN F) x=.val u:=aC;have eZ:ey (dN F) y=.val w:=aA;simp only[cY,dO,eZ];exact amX aW h a3 a6 λr al=>k _ (.val al)
 ·
  rename_i t x;unfold aaI at h;obtain⟨i,hi,h⟩:=df h;obtain⟨a,U,h⟩:=df h;have ab:=H x (by simp[Op.operands]) _ U;have p0:∀ q,a≠.b q:=λq e=>by subst e;cases h
  obtain⟨u,aC,a3⟩:=ab.yl p0;obtain⟨ad,l,vs,rfl,br,aE,aK⟩:=Bn hm a3 h;simp only[cY,hi,aC];exact⟨vs,br,k _ (.val (MX aK aE))⟩
 ·
  rename_i x;unfold aaJ at h;split at h;·rename_i id off U;cases h;obtain⟨u,aC,a3⟩:=(H x (by simp[Op.operands]) _ U).yl (by simp);obtain⟨a,aH,rfl⟩:=a3.ptr;simp only[cY,aC];exact k _ (.val a3)
  ·rename_i id off U;cases h;obtain⟨u,aC,a3⟩:=(H x (by simp[Op.operands]) _ U).yl (by simp);have:=a3.rM;subst this;simp only[cY,aC];exact k _ (.val a3)
  ·cases h
 ·
  rename_i t x i;unfold aaK at h;obtain⟨r,al,h⟩:=df h;obtain⟨a,U,h⟩:=df h;obtain⟨off,h1⟩:=r;obtain⟨bk,h⟩:=Bj h;obtain⟨sa,tW,sz,cT,nj,aI,ar,rr⟩:=abt al;have ab:=H x (by simp[Op.operands]) _ U;have p0:∀ q,a≠.b q:=λq e=>by subst e;cases h
  obtain⟨u,aC,a3⟩:=ab.yl p0;obtain⟨ad,rfl,ax,aj⟩:=abq h a3;have ij:Nat.beq h1.size 0=false:=bk;simp only[cY,aI,ar,rr,aC,ij,aQ];exact k _ (.val aj)
 ·
  rename_i t x i;unfold aaL at h;split at h;·rename_i off h1 cs ay U;obtain⟨sa,tW,sz,cT,nj,aI,ar,rr⟩:=abt ay;obtain⟨u,aC,a3⟩:=H.bU (x:=x) (by simp[Op.operands]) U;obtain⟨us,gK,rfl⟩:=a3.agg;obtain⟨aa,af⟩:=abr h gK;have dO:ey (dN F) x=.val (.agg us.toArray):=aC;simp only[cY,aI,dO,ar,rr];rw[show Nat.ble (off+h1.size) us.toArray.size=true from CW (by simpa using aa)];exact k _ (.val af)
  ·cases h
 ·
  rename_i t x i;unfold aaM at h;obtain⟨r,al,h⟩:=df h;obtain⟨a,U,h⟩:=df h;obtain⟨b,aa,h⟩:=df h;obtain⟨j,an,h⟩:=df h;obtain⟨fS,rfl⟩:=FP an;obtain⟨u,aA,a6⟩:=H.bU (x:=i) (by simp[Op.operands]) aa;rw[a6.int]at aA;have eZ:ey (dN F) i=.val (.int fS (.ofNat j)):=aA;obtain⟨Rg,aP⟩:=r;rcases am0 al with⟨sa,tW,sz,e,aI,he,rfl⟩ | ⟨sa,tW,sz,n,e,aI,he,rfl⟩;·have bg:MC a j aP.size=some v:=h;obtain⟨w,aC,a3⟩:=H.bU (x:=x) (by simp[Op.operands]) U;obtain⟨ad,n,c,rfl,a0,aj⟩:=amZ bg a3;have dO:ey (dN F) x=.val (.slice (some ad) n c):=aC;simp only[cY,aI,eZ,he,dO];exact⟨ad,j,rfl,rfl,a0,k _ (.val aj)⟩
  ·have bg:cw (Nat.blt j n) (IP a (Nat.mul j aP.size)) none=some v:=h;obtain⟨ag,bg⟩:=hG bg;have ab:=H x (by simp[Op.operands]) _ U;have p0:∀ q,a≠.b q:=λq e=>by subst e;cases bg
   obtain⟨w,aC,a3⟩:=ab.yl p0;obtain⟨ad,rfl,ax,aj⟩:=abq bg a3;simp only[cY,aI,eZ,he,aC];exact⟨j,rfl,bP ag,k _ (.val aj)⟩
 ·
  rename_i t x i;cases U:dG ak x with
  |none=>rw[U]at h;unfold IQ at h;split at h<;>first | cases h | (rename_i e _;cases e)
  |some a=>
   cases aa:dG ak i with
   |none=>rw[aa]at h;unfold IQ at h;split at h<;>first | cases h | (rename_i e;cases e)
   |some b=>rw[U,aa]at h;obtain⟨u,aC,a3⟩:=H.bU (x:=x) (by simp[Op.operands]) U;obtain⟨w,aA,a6⟩:=H.bU (x:=i) (by simp[Op.operands]) aa;exact am1 h a3 a6 aC aA k
 ·
  rename_i t parts;unfold aaO at h;split at h
  ·rename_i i vs aI aK;obtain⟨z,bk,h⟩:=df h;have ij:=b0.FM (D:=D) bk;obtain⟨us,aC,a3⟩:=H.parts (l:=parts.toList) (by intro y aT;simpa[Op.operands]using aT) aK;have dO:uo (dN F) parts.toList=some us:=aC
   try simp only at h
   split at h;·rename_i cT oJ;obtain⟨uN,h⟩:=hG h;unfold IR at h;obtain⟨cs,af,aN⟩:=df h;have dk:some (ap.a cs)=some v:=aN;cases dk;obtain⟨bj,bq,bp⟩:=MY af ij a3;simp only[cY,aI,dO,oJ,uN,a4,bq];exact k _ (.val (.MV bp))
   ·rename_i n e oJ;obtain⟨aP,he,h⟩:=df h;have bg:IR (Bg (λj=>some (j*aP.size,aP.size)) z vs)=some v:=h;unfold IR at bg;obtain⟨cs,af,aN⟩:=df bg;have dk:some (ap.a cs)=some v:=aN;cases dk;obtain⟨bj,bq,bp⟩:=MY af ij a3;simp only[cY,aI,dO,oJ,he,bq];exact k _ (.val (.MV bp))
   ·cases h
  ·cases h
 ·
  rename_i f first captured
  unfold aaP at h;split at h
  ·rename_i g cT cs U aa;cases h;obtain⟨us,aC,a3⟩:=H.nh (l:=first.toList) (by intro y aT;simp[Op.operands];exact .inl (by simpa using aT)) U;obtain⟨ws,aA,a6⟩:=H.nh (l:=captured.toList) (by intro y aT;simp[Op.operands];exact .inr (by simpa using aT)) aa;have dO:kJ (dN F) first.toList=some us:=aC
   have eZ:kJ (dN F) captured.toList=some ws:=aA;simp only[cY,dO,eZ];exact k _ (.val (by simp only[a1];exact⟨us,ws,a3,a6,rfl⟩))
  ·cases h
 ·
  rename_i t x lo hi;cases U:dG ak x with
  |none=>rw[U]at h;unfold IS at h;split at h<;>first | cases h | (rename_i e _ _;cases e)
  |some a=>
   rw[U]at h;cases aa:Dk (lo.map (dG ak))with
   |none=>rw[aa]at h;unfold IS at h;split at h<;>first | cases h | (rename_i e _;cases e)
   |some l=>
    rw[aa]at h;cases af:Dk (hi.map (dG ak))with
    |none=>rw[af]at h;unfold IS at h;split at h<;>first | cases h | (rename_i e;cases e)
    |some aR=>
     rw[af]at h;obtain⟨u,aC,a3⟩:=H.bU (x:=x) (by simp[Op.operands]) U;have dO:ey (dN F) x=.val u:=aC;have dg:=abu H (λy aT=>by subst aT;simp[Op.operands]) aa;have fT:=abu H (λy aT=>by subst aT;simp[Op.operands]) af;unfold IS at h;split at h
     ·rename_i sa tW sz e tf ana dx aI bx cU e8;cases bx;cases cU;cases e8;obtain⟨aP,he,h⟩:=df h;have bg:Sf aP a l aR=some v:=h;unfold Sf at bg;split at bg
      ·have el:lo.map (ey (dN F))=none:=by
        rcases dg with⟨el,_⟩ | ⟨_,_,_,el⟩;·exact el
        ·cases el
       have ow:hi.map (ey (dN F))=none:=by
        rcases fT with⟨ow,_⟩ | ⟨_,_,_,ow⟩;·exact ow
        ·cases ow
       have j9:∃ q n c,u=.slice q n c/\a1 D v u:=by
        split at bg;·cases bg;exact⟨_,_,_,a3.Ds,a3⟩
        ·cases bg;obtain⟨q,_,rfl⟩:=a3.tV;exact⟨_,_,_,rfl,a3⟩
        ·cases bg;obtain⟨q,_,_,rfl⟩:=a3.wN;exact⟨_,_,_,rfl,a3⟩
        ·cases bg;obtain⟨q,c,rfl⟩:=a3.MU;exact⟨_,_,_,rfl,a3⟩
        ·cases bg
       obtain⟨q,n,c,rfl,aj⟩:=j9;simp only[cY,aI,dO,he,el,ow];exact k _ (.val aj)
      ·obtain⟨q,n,c,rfl,fm,fj,oX,aj⟩:=am2 bg a3;simp only[cY,aI,dO,he];rcases dg with⟨el,rfl⟩ | ⟨uw,I4,el,rfl⟩<;>rcases fT with⟨ow,rfl⟩ | ⟨anb,I5,ow,rfl⟩<;>simp only[el,ow]
       ·rename_i bM;exact(bM rfl rfl).elim
       ·simp only[vq,mb]at fm fj aj;refine⟨0,I5,rfl,rfl,bF _,fj,k _ (.val ?_)⟩;simp only[G2,xL]at aj;have b':(if c=0 then q else q.map λx=>x.add 0)=q:=by
         split;·rfl
         ·cases q with
          |none=>rfl| some q=>simp[Addr.add]
        rw[b']at aj;exact aj
       ·simp only[vq,mb]at fm fj aj;exact⟨I4,n,rfl,rfl,fm,b2 _,k _ (.val aj)⟩
       ·simp only[vq,mb]at fm fj aj;exact⟨I4,I5,rfl,rfl,fm,fj,k _ (.val aj)⟩
     ·rename_i sa tW sz str ana dx aI bx cU e8;cases bx;cases cU;cases e8;rw[a3.str]at dO;have bg:Sg str l aR=some v:=h;unfold Sg at bg;split at bg
      ·have el:lo.map (ey (dN F))=none:=by
        rcases dg with⟨el,_⟩ | ⟨_,_,_,el⟩;·exact el
        ·cases el
       have ow:hi.map (ey (dN F))=none:=by
        rcases fT with⟨ow,_⟩ | ⟨_,_,_,ow⟩;·exact ow
        ·cases ow
       cases bg;simp only[cY,aI,dO,el,ow];exact k _ (.val (by simp only[a1]))
      ·obtain⟨ag,bg⟩:=hG bg;cases bg;rw[ct]at ag;have b1:=bP ag.1;have ch:=bP ag.2;have cI:(⟨str.toArray⟩:ByteArray).size=str.length:=by simp[ByteArray.size]
       simp only[cY,aI,dO];rcases dg with⟨el,rfl⟩ | ⟨uw,I4,el,rfl⟩<;>rcases fT with⟨ow,rfl⟩ | ⟨anb,I5,ow,rfl⟩<;>simp only[el,ow]
       ·rename_i bM;exact(bM rfl rfl).elim
       ·simp only[vq,mb]at b1 ch;exact⟨0,I5,rfl,rfl,bF _,by rw[cI];exact ch,k _ (.val (by simp only[a1,vq,mb,SR]))⟩
       ·simp only[vq,mb]at b1 ch;exact⟨I4,str.length,rfl,by rw[cI];rfl,b1,by rw[cI];exact b2 _,k _ (.val (by simp only[a1,vq,mb,SR,cI]))⟩
       ·simp only[vq,mb]at b1 ch;exact⟨I4,I5,rfl,rfl,b1,by rw[cI];exact ch,k _ (.val (by simp only[a1,vq,mb,SR]))⟩
     ·cases h
 ·
  rename_i x i;unfold aaQ at h;split at h;·rename_i vs U;obtain⟨u,aC,a3⟩:=H.bU (x:=x) (by simp[Op.operands]) U;obtain⟨us,gK,rfl⟩:=a3.SJ;rw[Bm]at h;obtain⟨w,hw,aj⟩:=gK.get h;have dO:ey (dN F) x=.val (.tuple us.toArray):=aC;simp only[cY,dO,hw];exact k _ (.val aj)
  ·cases h
 ·
  rename_i s d x;unfold aaR at h;split at h;·rename_i fS eJ n ax ah U;cases h;obtain⟨u,aC,a3⟩:=H.bU (x:=x) (by simp[Op.operands]) U;rw[a3.int]at aC;have dO:ey (dN F) x=.val (.int eJ n):=aC;simp only[cY,ax,ah,dO];exact⟨_,rfl,k _ (.val (by simp only[a1];rw[Bk]))⟩
  ·cases h
 ·
  rename_i b args ts;exact am5 aW h (by simpa[Op.operands,Call.operands]using H) k
 ·cases h
end
def bS.set(D:bS)(id:Nat)(a:Loc):bS:=λi=>if i=id then some a else D i
def bS.qM(D:bS)(id:Nat)(a:Loc):(D.set id a) id=some a:=by simp[bS.set]
def bS.le_refl(D:bS):D.le D:=λ_ _ h=>h
def bS.le_trans{D bH I6:bS}(h:D.le bH)(k:bH.le I6):D.le I6:=λi a e=>k _ _ (h _ _ e)
def bS.Bo{D:bS}{id:Nat}(a:Loc)(h:D id=none):D.le (D.set id a):=λi b ag=>by
 unfold bS.set;split
 ·rename_i e;subst e;rw[h]at ag;cases ag
 ·exact ag
def bS.ext(D bH:bS)(n:Nat):Prop:=∀ i,i<n->bH i=D i
def bS.p1{D:bS}{n:Nat}:D.ext D n:=λ_ _=>rfl
def bS.FQ{D:bS}{n:Nat}{a:Loc}:D.ext (D.set n a) n:=λi hi=>by unfold bS.set;rw[b8 (by omega)]
section
variable{Y:hF}{D bH:bS}{m:bB}{I I':a5}{M M':List aF}{R:Type}
def I3.mono{G:GT}(h:I3 G I)(bX:∀ b o,I b=some o->I' b=some o):I3 G I':=λg cs aB=>by obtain⟨arr,T,f,U,aa⟩:=h g cs aB;exact⟨arr,T,f,bX _ _ U,aa⟩
def dE.le(h:dE Y D m I M)(dH:D.ext bH m.n):D.le bH:=λi a aH=>by rw[dH i (h.kB _ _ aH)];exact aH
def dE.step(h:dE Y D m I M){fw:bn gn}{fK:Nat}{b':gn}{a:Loc}(aI:∀ id e,fw.get id=some e->(id=j/\b'=e)\/(id≠j/\m.t.get id=some e))(an:bH j=some a)(bz:D.le bH)(dH:∀ i,i≠j->bH i=D i)(anc:∀ id a,bH id=some a->id<fK)(bX:∀ b o,I b=some o->I' b=some o)(r7:∀ id e cf,id≠j->m.t.get id=some e->D id=some cf->∀ x∈M,x.num=cf.b->x∈M')
  (he:l6 bH Y.E M' a b') (La:∀ id e cf,id≠j->m.t.get id=some e->D id=some cf->cf.b≠a.b):dE Y bH ⟨fw,fK⟩ I' M' where
 jH id e bW aB U:=by
  rcases aI id e aB with⟨aC,aA⟩ | ⟨bM,aB⟩;·subst aC;subst aA;rw[an]at U;cases U;exact he
  ·rw[dH id bM]at U;exact(h.jH id e bW aB U).mono bz λx ab az=>r7 id e bW bM aB U x ab az
 inj id ju e a' bW da aB lQ U aa ag:=by
  rcases aI id e aB with⟨aC,aA⟩ | ⟨bM,aB⟩
  ·rcases aI ju a' lQ with⟨bx,cU⟩ | ⟨B2,lQ⟩
   ·rw[aC,bx]
   ·rw[dH ju B2]at aa;subst aC;rw[an]at U;cases U;exact(La ju a' da B2 lQ aa ag.symm).elim
  ·rw[dH id bM]at U;rcases aI ju a' lQ with⟨bx,cU⟩ | ⟨B2,lQ⟩
   ·subst bx;rw[an]at aa;cases aa;exact(La id e bW bM aB U ag).elim
   ·rw[dH ju B2]at aa;exact h.inj id ju e a' bW da aB lQ U aa ag
 kB:=anc
 rM:=h.rM.mono bX
def dE.fresh(h:dE Y D m I M):D m.n=none:=by
 cases dH:D m.n with
 |none=>rfl| some a=>exact absurd (h.kB _ _ dH) (Nat.lt_irrefl _)
def dE.aO(h:dE Y D m I M){id:Nat}{e:gn}{a:Loc}(aB:m.t.get id=some e)(aH:D id=some a):∃ x∈M,x.num=a.b:=by
 cases h.jH id e a aB aH with
 |cells arr ay U=>exact⟨_,U,rfl⟩| map l c U=>exact⟨_,U,rfl⟩| loop L U=>exact⟨_,U,rfl⟩| done L U=>exact⟨_,U,rfl⟩
def dE.new(h:dE Y D m I M){fw:bn gn}{b':gn}{a:Loc}{o:Obj}(aI:∀ id e,fw.get id=some e->(id=m.n/\some b'=some e)\/(id≠m.n/\m.t.get id=some e))(ar:∀ x∈M,x.num≠a.b)
  (he:l6 (D.set m.n a) Y.E (⟨a.b,o⟩::M) a b'):dE Y (D.set m.n a) ⟨fw,m.n+1⟩ I (⟨a.b,o⟩::M):=
 h.step (λid e aB=>(aI id e aB).imp (λh=>⟨h.1,pZ h.2⟩) λh=>h) (D.qM _ _) (bS.Bo a h.fresh) (λi hi=>by unfold bS.set;rw[b8 hi])
  (λid b ag=>by
   unfold bS.set at ag;split at ag;·omega
   ·have:=h.kB _ _ ag;omega)
  (λ_ _ h=>h) (λ_ _ _ _ _ _ x ab _=>pc _ ab) he
  (λid e cf _ aB Dt ag=>by
   obtain⟨x,ab,az⟩:=h.aO aB Dt;exact ar x ab (az.trans ag))
def l6.new{l:List ap}{aY:List Value}{c:Nat}{b:Nat}{cs:bn ap}(lS:∀ j x,cs.get j=some x->(0<=j/\l[j-0]?=some x)\/((j<0\/0+l.length<=j)/\(bn.nil:bn ap).get j=some x))(aE:b0 D l vs)
  (ae:∀ i,Y.E T=some i->(vs++aY).length=c*i.size) (aJ:c<=maxLen):l6 D Y.E (⟨b,.cells (vs++aY).toArray T (0,0)⟩::M) ⟨b,0,c⟩ (.cells cs T l.length):=by
 refine .cells (vs++aY).toArray rfl (by simp) (by simp[aE.len]) (λi v hi aB=>?_) (λi hi=>by simpa using ae i hi) aJ;rcases lS i v aB with⟨_,U⟩ | ⟨_,U⟩
 ·obtain⟨x,aa,af⟩:=aE.get (i:=i) (by simpa using U);have a0:=(kG.1 aa).1;exact⟨x,by simp only[dp,BU];rw[rZ a0];exact aa,af⟩
 ·cases U
def I7{e:gn}{K:Nat->bB->Option R}{r:R}(h:Dl m e K=some r):∃ fw,(∀ id a',fw.get id=some a'->(id=m.n/\some e=some a')\/(id≠m.n/\m.t.get id=some a'))/\K m.n ⟨fw,m.n+1⟩=some r:=by unfold Dl at h;rw[SF]at h;obtain⟨fw,U,aa⟩:=bn.pY (some e) m.t m.n;rw[U]at h;exact⟨fw,aa,h⟩
def SU{l:List ap}{K:Nat->bB->Option R}{r:R}(h:wL m l T K=some r):∃ m',K m.n m'=some r/\m'.n=m.n+1 /\
  ∀ {D:bS} {I:a5} {M:List aF} {vs:List Value} (aY:List Value) {b c:Nat},dE Y D m I M->(∀ x∈M,x.num≠b)->b0 D l vs->(∀ i,Y.E T=some i->(vs++aY).length=c*i.size)->c<=maxLen ->
   dE Y (D.set m.n ⟨b,0,c⟩) m' I (⟨b,.cells (vs++aY).toArray T (0,0)⟩::M):=by
 unfold wL at h;obtain⟨cs,U,aa⟩:=bn.zX l (.nil:bn ap) 0;rw[U]at h;obtain⟨fw,af,aN⟩:=I7 h;refine⟨_,aN,rfl,fun {D I M vs} aY {b c} hm ar aE ae aJ=>?_⟩;exact hm.new (a:=⟨b,0,c⟩) af ar (.new aa (aE.mono (bS.Bo _ hm.fresh)) ae aJ)
end
def ane(z:List Value)(n:Nat):rowOf z (z.length+n)=rowOf z z.length++rowOf z n:=by unfold rowOf;rw[Q2,gW,ms];congr 1;apply xo;intro i _;simp[Nat.add_mod_left]
def anf(z:List Value):rowOf z z.length=z:=by
 unfold rowOf;apply xq
 ·simp
 ·intro i U aa;simp only[lu,su,H' aa];simp[aa]
def SV(z:List Value):∀ n,rowOf z (n*z.length)=(List.replicate n z).flatten
 |0=>by simp[rowOf]
 |n+1=>by rw[Nat.succ_mul,Gq,ane,anf,SV z n,wc,PA]
def abv(place:Nat->Option (Nat×Nat)):∀ (vs:List (Nat×Value)) (cs r:List Value),um place cs vs=some r->r.length=cs.length
 |[],cs,r,h=>by simp only[um]at h;cases h;rfl
 |(i,v)::vs,cs,r,h=>by
  simp only[um]at h;split at h;·cases h
  ·rename_i off size aK;cases ag:(Nat.beq v.cells.size size&&Nat.ble (off+size) cs.length)with
   |false=>rw[ag]at h;cases h| true=>rw[ag]at h;simp only[a4]at h;rw[abv place vs _ _ h];rw[ct]at ag;have U:=cj ag.1;have aa:=bP ag.2;simp[bQ];omega
def Bp(dst:Option Nat)(u:Value)(F eV:Fr):Prop:=(∀ d,dst=some d->eV d=.val u)/\∀ (D:bS) t v,dst≠some t->gV D (F t) v->gV D (eV t) v
def Bp.put(dst:Option Nat)(u:Value)(F:Fr):Bp dst u F (put dst (.val u) F):=by
 constructor
 ·rintro d rfl;simp[Go.V.put,hr]
 ·intro D t v bM h;cases dst with
  |none=>exact h| some d=>have:t≠d:=λe=>bM (by rw[e]);simp only[Go.V.put,hr,hW this,aQ];exact h
def Bp.qT(d:Nat)(u:Value)(F:Fr):Bp (some d) u F (hr (qT F d) d (.val u)):=by
 constructor
 ·rintro _⟨⟩;simp[hr]
 ·intro D t v bM h;have:t≠d:=λe=>bM (by rw[e]);simp only[hr,hW this,aQ];unfold Go.V.qT;rcases h with⟨ang,e,h⟩ | ⟨q,e,h⟩
  ·rw[e];exact .inl ⟨ang,rfl,h⟩
  ·rw[h];exact .inr ⟨q,e,rfl⟩
section
variable{X:dw}{G:GT}{pr:mG}{D:bS}{m:bB}{F:Fr}{ak:bn ap}{C:dX}{I:a5}{M:List aF}{K:hb}{o:Oper}
def abw(aW:dm X.P X.E)(k6:∀ d,d<X.n->X.hs.contains d=true)(ah:∀ d,o.dst=some d->d<X.n){l:List ap}{c:Nat}{mk:Nat->ap}(h:Dn X.E o ak=some (l,T,c,mk))(I8:o.dst.isSome=true)(H:jW D F ak o.op.operands.toList)
  (k:∀ b vs u eV C',I b=none->(∀ x∈M,x.num≠b)->b0 D l vs->(∀ i,X.E T=some i->vs.length=c*i.size)->c<=maxLen->(∀ (bH:bS) id,bH id=some ⟨b,0,c⟩->a1 bH (mk id) u)->Bp o.dst u F eV ->
   K eV C' I (⟨b,.cells vs.toArray T (0,0)⟩::M)):hL X o F C I M K:=by
 obtain⟨dst,op,ty,pos,after,guard⟩:=o;cases dst with
 |none=>cases I8
 |some d=>
  have r':X.hs.contains d=true:=k6 d (ah d rfl);have abx:∀ (b c:Nat) (bH:bS) id,bH id=some ⟨b,0,c⟩->a1 bH (.p id 0) (.pointer (some ⟨b,0,none⟩)):=λb c bH id mH=>by simp only[a1];exact⟨_,mH,rfl⟩
  unfold Dn at h;simp only at h H;split at h
  ·rename_i t x;unfold aaZ at h;obtain⟨i,hi,h⟩:=df h;obtain⟨v,aj,h⟩:=df h;obtain⟨ag,h⟩:=hG h;cases h;obtain⟨u,aC,a3⟩:=H.bU (x:=x) (by simp[Op.operands]) aj;have aJ:=a3.cells;simp only[hL,aC,r',a4];refine⟨λb U aa=>?_⟩;have:=k b u.cells.toList (.pointer (some ⟨b,0,none⟩)) _ (jX C d none) U aa aJ (λhV dx=>?_) (by decide) (abx b 1) (.qT d _ F)
   ·simpa using this
   ·rw[hi]at dx;cases dx;rw[aJ.len,qj];exact cj ag
  ·rename_i t;unfold aa0 at h;obtain⟨i,hi,h⟩:=df h;obtain⟨z,bk,h⟩:=df h;cases h;simp only[hL,hi,r',a4];refine⟨λb U aa=>?_⟩;exact k b i.zero (.pointer (some ⟨b,0,none⟩)) _ (jX C d none) U aa (.FM bk) (λhV dx=>by rw[hi]at dx;cases dx;rw[(aW _ _ hi).len,qj]) (by decide) (abx b 1) (.qT d _ F)
  ·rename_i t len parts;unfold aa1 at h;split at h
   ·rename_i sa tW sz e vs aI aK;obtain⟨aP,he,h⟩:=df h;obtain⟨z,bk,h⟩:=df h;obtain⟨us,aC,a3⟩:=H.parts (l:=parts.toList) (by intro y aT;simpa[Op.operands]using aT) aK;simp only[hL,aI,aC,he];have KP:=(aW _ _ he).len;cases ag:(Nat.ble (len*aP.size) 16777216&&Nat.blt 0 (len*aP.size))with
    |true=>
     have ht:(Nat.ble (Nat.mul len aP.size) 16777216&&Nat.blt 0 (Nat.mul len aP.size))=true:=ag;rw[k4,ht]at h;simp only[a4]at h |-;obtain⟨cs,af,aN⟩:=df h;have dk:some (cs,e,len,λid=>ap.sl id 0 len len)=some (l,T,c,mk):=aN;cases dk;have rz:b0 D (Dm c z) (rowOf aP.zero (c*aP.size)):=by rw[<-KP,SV];exact(b0.FM bk).kR c
     obtain⟨bj,bq,bp⟩:=MY af rz a3;rw[bq];refine⟨λb U aa=>?_⟩;have cg:bj.length=c*aP.size:=by rw[abv _ _ _ _ bq];simp[rowOf]
     rw[ct]at ag;have jN:=bP ag.1;have gy:0<c*aP.size:=bP ag.2;exact k b bj (.slice (some ⟨b,0,none⟩) c c) _ C U aa bp (λhV dx=>by rw[he]at dx;cases dx;exact cg)
      (by
       have ec:0<aP.size:=Nat.pos_of_mul_pos_left gy;have:c<=c*aP.size:=Nat.le_mul_of_pos_right _ ec;simp only[maxLen];omega)
      (λbH id mH=>by simp only[a1];exact⟨_,mH,rfl⟩) (.put _ _ F)
    |false=>
     have ht:(Nat.ble (Nat.mul len aP.size) 16777216&&Nat.blt 0 (Nat.mul len aP.size))=false:=ag;rw[k4,ht]at h;simp only[aQ]at h |-;obtain⟨aJ,h⟩:=hG h;cases h;rw[ct]at aJ;have af:=cj aJ.1;subst af;have aN:vs=[]:=by simpa using aJ.2
     subst aN;cases a3;simp only;refine⟨λb U aa=>?_⟩;exact k b [] (.slice (some ⟨b,0,none⟩) 0 0) _ C U aa .nil (λhV dx=>by simp) (by decide) (λbH id mH=>by simp only[a1];exact⟨_,mH,rfl⟩) (.put _ _ F)
   ·cases h
  ·rename_i t c8 c';unfold aa2 at h;split at h
   ·rename_i sa tW sz e Kl aug aI U aa;obtain⟨aP,he,h⟩:=df h;obtain⟨n,az,h⟩:=df h;obtain⟨q,aL,h⟩:=df h;obtain⟨z,bk,h⟩:=df h;obtain⟨ag,h⟩:=hG h;cases h;obtain⟨eJ,rfl⟩:=FP az;obtain⟨c3,rfl⟩:=FP aL;obtain⟨wO,aC,a3⟩:=H.bU (x:=c8) (by simp[Op.operands]) U;obtain⟨sX,aA,a6⟩:=H.bU (x:=c') (by simp[Op.operands]) aa;rw[a3.int]at aC;rw[a6.int]at aA;simp only[ct]at ag;simp only[hL,aI,aC,aA,he];refine⟨n,c,rfl,rfl,bP ag.1,bP ag.2.1,bP ag.2.2,⟨λb af aN=>?_⟩⟩;have KP:=(aW _ _ he).len;have rz:b0 D (Dm c z) (rowOf aP.zero (c*aP.size)):=by rw[<-KP,SV];exact(b0.FM bk).kR c
    exact k b _ (.slice (some ⟨b,0,none⟩) n c) _ C af aN rz (λhV dx=>by rw[he]at dx;cases dx;simp[rowOf]) (bP ag.2.2) (λbH id mH=>by simp only[a1];exact⟨_,mH,rfl⟩) (.put _ _ F)
   ·cases h
  ·cases h
end
def aby{i:Nat}(h:off+vs.length<=cs.length):(bQ cs off vs)[i]?=if off<=i/\i<off+vs.length then vs[i-off]? else cs[i]?:=by
 unfold bQ;by_cases U:i<off
 ·rw[b8 (by omega),rZ (by simp;omega),rZ (by simp;omega),mM,cF U]
 ·by_cases aa:i<off+vs.length
  ·rw[cF ⟨by omega,aa⟩,rZ (by simp;omega),qg (by simp;omega)];simp;congr 1;omega
  ·rw[b8 (by omega),qg (by simp;omega),s8];congr 1;simp;omega
def SW(h:off+vs.length<=cs.length):(bQ cs off vs).length=cs.length:=by simp[bQ];omega
section
variable{Y:hF}{D:bS}{m:bB}{I:a5}{M:List aF}{R:Type}
def SX{x:ap}{l:List ap}{K:bB->Option R}{r:R}(h:zV m x l K=some r):∃ m',K m'=some r/\m'.n=m.n/\(∀ id,m'.t.get id≠none->m.t.get id≠none\/True) /\
  ∀ {D:bS} {I:a5} {M:List aF} {u:Value} {vs:List Value},dE Y D m I M->a1 D x u->b0 D l vs ->
   ∃ (g off:Nat) (bi post:List aF) (arr:Array Value) (T:Nat),u=.pointer (some ⟨g,off,none⟩)/\M=bi++⟨g,.cells arr T (0,0)⟩::post/\off+vs.length<=arr.size/\iW vs=true /\ (∃ id e a,m.t.get id=some e/\D id=some a/\a.b=g) /\
    dE Y D m' I (bi++⟨g,.cells (bQ arr.toList off vs).toArray T (0,0)⟩::post):=by
 unfold zV at h;split at h
 ·rename_i id off;split at h
  ·rename_i cs T ga aB;cases ag:(Nat.ble (Nat.add off l.length) ga&&l.all ap.one)with
   |false=>rw[ag]at h;cases h
   |true=>
    rw[ag]at h;simp only[a4]at h;rw[ct]at ag;have o5:off+l.length<=ga:=bP ag.1;obtain⟨cs',U,aa⟩:=bn.zX l cs off;rw[U]at h;obtain⟨fw,af,aN⟩:=bn.pY (some (gn.cells cs' T ga)) m.t id;rw[af]at h;refine⟨_,h,rfl,λ_ _=>.inr trivial,fun {D I M u vs} hm ab aE=>?_⟩;obtain⟨a,aH,rfl⟩:=ab.ptr;have he:=hm.jH _ _ _ aB aH;obtain⟨arr,aD,a2,cI,aJ,ae,k2⟩:=he;have cg:=aE.len;obtain⟨bi,post,bL⟩:=wI a2;have hz:off+vs.length<=arr.size:=by omega
    refine⟨a.b,off,bi,post,arr,T,by rw[aD,dp],bL,hz,aE.one ag.2,⟨id,_,a,aB,aH,rfl⟩,?_⟩;have hy:∀ x∈M,x.num≠a.b->x∈bi++⟨a.b,.cells (bQ arr.toList off vs).toArray T (0,0)⟩::post:=λx ab az=>by
     rw[bL]at ab;rcases dV.1 ab with ab | ab;·exact dV.2 (.inl ab)
     ·rcases eu.1 ab with rfl | ab
      ·exact(az rfl).elim
      ·exact dV.2 (.inr (pc _ ab))
    refine hm.step (λi e hi=>(aN i e hi).imp (λq=>⟨q.1,pZ q.2⟩) λq=>q) aH (bS.le_refl D) (λ_ _=>rfl) hm.kB (λ_ _ h=>h) (λi e cf bM hi rP x ab az=>hy x ab ?_) ?_ ?_;·rw[az];exact λag=>bM (hm.inj _ _ _ _ _ _ hi aB rP aH ag)
    ·have Bq:(bQ arr.toList off vs).length=arr.size:=by rw[SW (by simpa using hz)];simp
     refine .cells (bQ arr.toList off vs).toArray aD (by simp) (by simp[Bq];exact cI) (λi v hi I9=>?_) (λi hi=>by simp[Bq];exact ae i hi) k2;rw[aD,dp];simp only[BU];rw[aby (by simpa using hz)];rcases aa i v I9 with⟨a3,a6⟩ | ⟨a3,a6⟩;·have a0:=(kG.1 a6).1;rw[cF ⟨a3,by omega⟩];exact aE.get a6
     ·rw[b8 (by omega)];have:=aJ i v hi a6;rw[aD,dp]at this;simpa using this
    ·intro i e cf bM hi rP ag;exact bM (hm.inj _ _ _ _ _ _ hi aB rP aH ag)
  ·cases h
 ·cases h
def SY:∀ {l:List ap} {c1:List UInt8} {vs:List Value},FE l=some c1->b0 D l vs->vs=c1.map (λb=>.int .u8 b.toNat)
 |[],c1,vs,h,aE=>by simp only[FE]at h;cases h;exact aE.oD
 |v::l,c1,vs,h,aE=>by
  unfold FE at h;split at h;·rename_i e;cases e
  ·rename_i n c8 e;cases e;cases ag:Nat.ble n 255 with
   |false=>rw[ag]at h;cases h
   |true=>
    rw[ag]at h;simp only[a4]at h;split at h;·rename_i r al;cases h;obtain⟨x,xs,U,aa,rfl⟩:=aE.lk;have az:=bP ag;rw[SY al aa,U.int];simp only[dQ,zb,and_true,Value.int.injEq,true_and];rw[UInt8.toNat_ofNat_of_lt' (show n<256 by omega)];rfl
    ·cases h
  ·cases h
inductive Br:TypeDesc->ap->Prop
 |int{k n}:Br (.int k) (.i k n)| str {l}:Br .string (.s l)
def abz(aW:dm P E){k:Nat}{y:ap}(h:MI (E k) y=true):∃ d,P.underlying k=some d/\Br d y:=by
 unfold MI at h;split at h
 ·rename_i fS cO n ae;have:=IntKind.D5 h;subst this;obtain⟨d,hu,ah⟩:=(aW _ _ ae).fM;refine⟨d,hu,?_⟩;have:d=.int fS:=by cases d<;>simp_all[fF]
  subst this;exact .int
 ·rename_i l ae;obtain⟨d,hu,ah⟩:=(aW _ _ ae).fM;refine⟨d,hu,?_⟩;have:d=.string:=by cases d<;>simp_all[fF]
  subst this;exact .str
 ·cases h
def Br.isKey{y:ap}{u:Value}(h:Br d y)(aT:a1 D y u):MapKept.IsKey d u:=by
 cases h with
 |int=>rw[aT.int];rfl| str=>rw[aT.str];trivial
def abA(a b:ByteArray):(a == b)=decide (a=b):=by rw[nZ,MapKept.bytes_beq];simp
def FR{y x:ap}{u:Value}{r:Bool}(h:Br d y)(aT:a1 D y u)(ab:a1 D x w)(he:Fz y x=some r):Instr.sameNow d u w=some r:=by
 cases h with
 | @int k n=>
  rw[aT.int];unfold Fz at he;split at he;·rename_i e;cases e
  ·rename_i eJ a c3 b e;cases e;obtain⟨U,aa⟩:=hG he;have:=IntKind.D5 U;subst this;cases aa;rw[ab.int];simp only[Instr.sameNow,s',zY];congr 1
  ·rename_i e;cases e
  ·cases he
 | @str l=>
  rw[aT.str];unfold Fz at he;split at he;·rename_i e;cases e
  ·rename_i e;cases e
  ·rename_i a b e;cases e;cases he;rw[ab.str];simp only[Instr.sameNow];rw[abA,MZ,Dr]
  ·cases he
def abB{d:TypeDesc}{y:ap}{u:Value}(h:Br d y)(aT:a1 D y u):∀ {es:List (ap×ap)} {l:List MapEntry} {r:Option ap} (i:Nat),rO D es l->IU y es=some r ->
  match r with
  |none=>Instr.findNow d u l i=some none| some v=>∃ j w,Instr.findNow d u l i=some (some (j,w))/\a1 D v w
 |[],_,r,i,.nil,aE=>by simp only[IU]at aE;cases aE;rfl
 |(x,v)::es,_,r,i,.cons (e:=e) (l:=l) ae aj t,aE=>by
  simp only[IU]at aE;split at aE;·rename_i he;cases aE;refine⟨i,e.val,?_,aj⟩;simp only[Instr.findNow,FR h aT ae he]
  ·rename_i he;have be:=abB h aT (i+1) t aE;simp only[Instr.findNow,FR h aT ae he];exact be
  ·cases aE
def abC{d:TypeDesc}{y v:ap}{u w:Value}(h:Br d y)(aT:a1 D y u)(aj:a1 D v w):∀ {es wP:List (ap×ap)} {l:List MapEntry} (i:Nat),rO D es l->IV y v es=some wP -> (Instr.findNow d u l i=some none/\∀ b,rO D wP (l++[{ key:=u,val:=w,born:=b }])) \/ ∃ j e,Instr.findNow d u l i=some (some (i+j,e.val))/\l[j]?=some e/\Instr.sameNow d u e.key=some true/\rO D wP (l.modify j λe=>{ e with key:=u,val:=w })
 |[],wP,_,i,.nil,aE=>by simp only[IV]at aE;cases aE;exact .inl ⟨rfl,λb=>.cons aT aj .nil⟩
 |(x,nK)::es,wP,_,i,.cons (e:=e) (l:=l) ae nq t,aE=>by
  simp only[IV]at aE;split at aE
  ·rename_i he;cases aE;refine .inr ⟨0,e,?_,rfl,FR h aT ae he,?_⟩
   ·simp only[Instr.findNow,FR h aT ae he,p']
   ·simp only[List.modify_zero_cons];exact .cons aT aj t
  ·rename_i he;split at aE
   ·rename_i r al;cases aE;rcases abC h aT aj (i+1) t al with⟨U,aa⟩ | ⟨j,a',U,aa,af,aN⟩
    ·refine .inl ⟨?_,λb=>.cons ae nq (aa b)⟩;simp only[Instr.findNow,FR h aT ae he];exact U
    ·refine .inr ⟨j+1,a',?_,by simpa using aa,af,?_⟩
     ·simp only[Instr.findNow,FR h aT ae he];rw[U];congr 3;omega
     ·simp only[List.modify_succ_cons];exact .cons ae nq aN
   ·cases aE
  ·cases aE
end
section
variable{P:Program}{w:World}
def anh{k e:Nat}(aI:P.underlying t=some (.map k e))(ae:P.underlying k=some d){u:Value}(ym:MapKept.IsKey d u){l:List MapEntry}(aB:w.heap[g]?=some (.map l.toArray clock))
  {q:Option (Nat×Value)} (ar:Instr.findNow d u l 0=some q) {inf:TypeInfo} {z:Value} (hi:P.info? e=some inf) (bk:inf.zero=some z) (ok:Bool) :
  (Instr.lookup t (.map (some g)) u ok).run P w=.ok (bif ok then .tuple #[(q.map (·.2)).getD z,.bool q.isSome]else(q.map (·.2)).getD z) w:=by
 have aJ:(Instr.checkKey l.toArray.isEmpty 10000 k u).run P w=.ok () w:=Ew ae ym _ 9999;have v3:(Instr.findKey k u l).run P w=.ok q w:=Ex ae ar;have M4:(zeroValue e).run P w=.ok z w:=by simp[zeroValue,typeInfo,hi,bk]
 unfold Instr.lookup;simp only[cG,run_underlying aI,ck,Ev aB,dv,aJ,v3];cases q with
 |none=>cases ok<;>simp[M4]
 |some p=>cases ok<;>simp
def ani{k e:Nat}(aI:P.underlying t=some (.map k e))(ae:P.underlying k=some d){u v:Value}(ym:MapKept.IsKey d u){l:List MapEntry}(aB:w.heap[g]?=some (.map l.toArray clock))
  (ar:Instr.findNow d u l 0=some none):(Instr.mapUpdate t (.map (some g)) u v).run P w=.ok () { w with heap:=w.heap.setIfInBounds g (.map (l++[({ key:=u,val:=v,born:=clock }:MapEntry)]).toArray (clock+1)) }:=by
 have aJ:(Instr.checkKey false 10000 k u).run P w=.ok () w:=Ew ae ym _ 9999;have v3:(Instr.findKey k u l).run P w=.ok none w:=Ex ae ar;unfold Instr.mapUpdate;simp only[cG,run_underlying aI,ck,Ev aB,aJ,v3,Py _ aB];congr 3;simp
def anj{k e:Nat}(aI:P.underlying t=some (.map k e))(ae:P.underlying k=some d){u v:Value}(ym:MapKept.IsKey d u){l:List MapEntry}(aB:w.heap[g]?=some (.map l.toArray clock))
 {a':MapEntry} (ar:Instr.findNow d u l 0=some (some (j,a'.val))) (an:l[j]?=some a') (ax:a'.key=u) :
  (Instr.mapUpdate t (.map (some g)) u v).run P w=.ok () { w with heap:=w.heap.setIfInBounds g (.map (l.modify j λe=>{ e with key:=u,val:=v }).toArray clock) }:=by
 have aJ:(Instr.checkKey false 10000 k u).run P w=.ok () w:=Ew ae ym _ 9999;have v3:(Instr.findKey k u l).run P w=.ok (some (j,a'.val)) w:=Ex ae ar;have cR:(Instr.keyThatStays u u).run P w=.ok u w:=MapKept.run_keyThatStays ym;unfold Instr.mapUpdate;simp only[cG,run_underlying aI,ck,Ev aB,aJ,v3];simp only[BU,an,mc,mb,ax,cR,ck,Py _ aB];congr 3;show Obj.map _ _=Obj.map _ _;congr 1;apply hJ;simp
end
section
variable{X:dw}{G:GT}{pr:mG}{D:bS}{m m':bB}{F:Fr}{ak:bn ap}{C:dX}{I:a5}{M:List aF}{K:hb}{o:Oper}{v:ap}
def sY(X:dw)(G:GT)(pr:mG)(D:bS)(m:bB)(I:a5)(M:List aF)(v:ap)(m':bB)(dst:Option Nat)(F:Fr)(C:dX)(K:hb):Prop:=
 ∀ bH u M',D.ext bH m.n->a1 bH v u->dE (et X G pr) bH m' I M'->K (put dst (.val u) F) C I M'
def ank(aD:o.op=.store t x y)(h:cv o.dst (MG (X.E t) m (dG ak x) (dG ak y)) (λ_=>none)=some (v,m'))(H:jW D F ak o.op.operands.toList)(hm:dE (et X G pr) D m I M)
  (k:sY X G pr D m I M v m' o.dst F C K):hL X o F C I M K:=by
 obtain⟨dst,op,ty,pos,after,guard⟩:=o;simp only at aD;subst aD;cases dst with
 |some d=>cases h
 |none=>
  have U:MG (X.E t) m (dG ak x) (dG ak y)=some (v,m'):=h;unfold MG at U;obtain⟨i,hi,U⟩:=df U;obtain⟨a,ab,U⟩:=df U;obtain⟨b,aT,U⟩:=df U;obtain⟨ag,U⟩:=hG U;obtain⟨m2,aa,-,-,af⟩:=SX (Y:=et X G pr) U;cases aa;simp only at H;have kf:=H x (by simp[Op.operands]) _ ab;have p0:∀ q,a≠.b q:=λq e=>by subst e;cases U
  obtain⟨u,aC,a3⟩:=kf.yl p0;obtain⟨w,aA,a6⟩:=H.bU (x:=y) (by simp[Op.operands]) aT;obtain⟨g,off,bi,post,arr,T,rfl,a2,hz,hM,⟨id,e,iz,mH,ir,aB⟩,l7⟩:=af hm a3 a6.cells;simp only[hL,hi,aA,aC];have cI:Nat.beq w.cells.size i.size=true:=by have:=a6.cells.len;rw[Av]at this;rw[this];exact ag
  rw[cI];simp only[a4];refine⟨bi,post,arr,T,a2,rfl,hz,hM,?_⟩;exact k D (.tuple #[]) _ bS.p1 (by simp only[a1];exact⟨[],.nil,rfl⟩) l7
def abD(ah:∀ d,o.dst=some d->d<X.n)(bV:∀ c,o.op≠.defer c)
  (h:∀ (β:Nat->Nat) (a:Act) (w:World),db X β a w F C I M->∃ u w' I' M',(execOp a.eval o).run X.P w=.ok (.value u) w'/\db X β a w' F C I' M'/\K (put o.dst (.val u) F) C I' M'):bE X o F C I M K:=by
 refine⟨λa w Q ⟨β,ba⟩=>?_⟩;obtain⟨u,w',I',M',U,aa,af⟩:=h β a w ba;exact kk bV U ⟨_,_,_,_,⟨β,aa.put (x:=.val u) ah rfl⟩,af⟩
def anl(ah:o.dst=none)(bV:∀ c,o.op≠.defer c)
  (h:∀ (β:Nat->Nat) (a:Act) (w:World),db X β a w F C I M->∃ w' I' M',(execOp a.eval o).run X.P w=.ok .skip w'/\db X β a w' F C I' M'/\K F C I' M'):bE X o F C I M K:=by
 refine⟨λa w Q ⟨β,ba⟩=>?_⟩;obtain⟨w',I',M',U,aa,af⟩:=h β a w ba;refine D3 bV U ⟨_,_,_,_,⟨β,?_⟩,af⟩;rw[ah];exact aa
def abE(aW:dm X.P X.E)(ah:∀ d,o.dst=some d->d<X.n){r:Option Operand}(aD:o.op=.makeMap t r)(h:MH (X.E t) m=some (v,m'))(al:∀ x,r=some x->∃ k n,bU F x=.val (.int k n))(hm:dE (et X G pr) D m I M)
  (k:sY X G pr D m I M v m' o.dst F C K):bE X o F C I M K:=by
 unfold MH at h;split at h
 ·rename_i sa tW sz fS e aI;obtain⟨d,fH,gd⟩:=(aW _ _ aI).fM;have U:d=.map fS e:=by cases d<;>simp_all[fF]
  subst U;obtain⟨fw,aa,af⟩:=I7 h;cases af;refine abD ah (by rw[aD];simp) fun β a w ba=>?_;refine⟨.map (some w.heap.size),w.alloc (.map #[] 0),I,⟨w.heap.size,.map #[] 0⟩::M,?_,ba.qb _,?_⟩
  ·unfold execOp;cases r with
   |none=>simp[aD,Instr.makeMap]| some x=>obtain⟨eJ,gZ,ab⟩:=al x rfl;have PU:=dJ ba.ak ab;simp[aD,PU,Instr.makeMap,run_underlying fH,asInt,pu]
  ·have ar:∀ x∈M,x.num≠w.heap.size:=ba.holds.r3;refine k _ _ _ bS.FQ (by simp only[a1];exact⟨_,bS.qM _ _ ⟨w.heap.size,0,0⟩,rfl⟩) (hm.new (a:=⟨w.heap.size,0,0⟩) aa ar ?_);exact .map [] 0 (by simp) .nil
 ·cases h
def l6.abF{D:bS}{a:Loc}{es:List (ap×ap)}(h:l6 D E M a (.map es)):∃ l clock,(⟨a.b,.map l.toArray clock⟩:aF)∈M/\rO D es l:=by
 cases h with
 |map l clock U aa=>exact⟨l,clock,U,aa⟩
def a1.map'{id:Nat}{u:Value}(h:a1 D (.m id) u):∃ a,D id=some a/\u=.map (some a.b):=by simpa only[a1]using h
def anm(aW:dm X.P X.E)(ah:∀ d,o.dst=some d->d<X.n){ok:Bool}(aD:o.op=.lookup t x y ok)(h:Sp X.P X.E t m (dG ak x) (dG ak y) ok=some (v,m'))(H:jW D F ak o.op.operands.toList)
  (hm:dE (et X G pr) D m I M) (k:sY X G pr D m I M v m' o.dst F C K):bE X o F C I M K:=by
 unfold Sp at h;split at h
 ·rename_i sa tW sz fS e id ann aI U aa;obtain⟨ym,h⟩:=hG h;split at h
  ·rename_i es aB;obtain⟨r,al,h⟩:=df h;obtain⟨inf,hi,h⟩:=df h;obtain⟨z,bk,h⟩:=df h;obtain⟨uv,B9,h⟩:=df h;cases h;obtain⟨d,fH,gd⟩:=(aW _ _ aI).fM;have iD:d=.map fS e:=by cases d<;>simp_all[fF]
   subst iD;obtain⟨gm,tC,A'⟩:=abz aW ym;rw[aD]at H;obtain⟨wO,aC,a3⟩:=H.bU (x:=x) (by simp[Op.operands]) U;obtain⟨sX,aA,a6⟩:=H.bU (x:=y) (by simp[Op.operands]) aa;obtain⟨a,aH,rfl⟩:=a3.map';have he:=hm.jH _ _ _ aB aH;obtain⟨l,clock,a2,zZ⟩:=he.abF;have q2:=abB A' a6 0 zZ al;have M4:a1 D uv z:=.of B9;have fin:∀ {q:Option (Nat×Value)},Instr.findNow gm sX l 0=some q->(r=none/\q=none\/∃ rv j w,r=some rv/\q=some (j,w)/\a1 D rv w)->bE X o F C I M K:=fun {q} ar aL=>by
    refine abD ah (by rw[aD];simp) fun β ac w ba=>?_;have ff:=anh (P:=X.P) (w:=w) fH tC (A'.isKey a6) (ba.holds.m _ a2) ar hi bk ok;have ex:=dJ ba.ak aC;have q8:=dJ ba.ak aA;refine⟨bif ok then .tuple #[(q.map (·.2)).getD z,.bool q.isSome]else(q.map (·.2)).getD z,w,I,M,?_,ba,k D _ M bS.p1 ?_ hm⟩;·unfold execOp;simp only[aD,ex,q8,cG,ff,ck,dv]
    ·unfold aa3;rcases aL with⟨rfl,rfl⟩ | ⟨rv,j,w',rfl,rfl,aj⟩
     ·cases ok
      ·exact M4
      ·exact .MW (.cons M4 (.cons (by simp only[a1];rfl) .nil))
     ·cases ok
      ·exact aj
      ·exact .MW (.cons aj (.cons (by simp only[a1];rfl) .nil))
   cases r with
   |none=>exact fin q2 (.inl ⟨rfl,rfl⟩)| some rv=>obtain⟨j,w,ar,aj⟩:=q2;exact fin ar (.inr ⟨rv,j,w,rfl,rfl,aj⟩)
  ·cases h
 ·cases h
def abG(aW:dm X.P X.E){z:Operand}(aD:o.op=.mapUpdate t x y z\/o.op=.insert t x y z)(h:cv o.dst (IW X.E t m (dG ak x) (dG ak y) (dG ak z)) (λ_=>none)=some (v,m'))(H:jW D F ak o.op.operands.toList)
  (hm:dE (et X G pr) D m I M) (k:sY X G pr D m I M v m' o.dst F C K):bE X o F C I M K:=by
 cases I8:o.dst with
 |some d=>rw[I8]at h;cases h
 |none=>
  rw[I8]at h k;have ay:IW X.E t m (dG ak x) (dG ak y) (dG ak z)=some (v,m'):=h;have xi:∀ q,q=x\/q=y\/q=z->q∈o.op.operands.toList:=λq aL=>by
   rcases aD with aD | aD<;>rw[aD]<;>simp[Op.operands]<;>exact aL
  unfold IW at ay;split at ay
  ·rename_i sa tW sz fS e id ann uv aI U aa af;obtain⟨ym,ay⟩:=hG ay;split at ay
   ·rename_i es aB;obtain⟨wP,mX,ay⟩:=df ay;obtain⟨fw,aN,bq⟩:=bn.pY (some (gn.map wP)) m.t id;have j4:(m.t.oC (some (gn.map wP)) id λt=>some (ap.t [],(⟨t,m.n⟩:bB)))=some (v,m'):=ay;rw[aN]at j4;cases j4;obtain⟨d,fH,gd⟩:=(aW _ _ aI).fM;have iD:d=.map fS e:=by cases d<;>simp_all[fF]
    subst iD;obtain⟨gm,tC,A'⟩:=abz aW ym;obtain⟨wO,aC,a3⟩:=H.bU (x:=x) (xi x (.inl rfl)) U;obtain⟨sX,aA,a6⟩:=H.bU (x:=y) (xi y (.inr (.inl rfl))) aa;obtain⟨z0,bx,bN⟩:=H.bU (x:=z) (xi z (.inr (.inr rfl))) af;obtain⟨a,aH,rfl⟩:=a3.map';have he:=hm.jH _ _ _ aB aH;obtain⟨l,clock,a2,zZ⟩:=he.abF;have fin:∀ (c8:List MapEntry) (Du:Nat),rO D wP c8->(∀ w:World,w.heap[a.b]?=some (.map l.toArray clock)->(Instr.mapUpdate t (.map (some a.b)) sX z0).run X.P w=.ok () { w with heap:=w.heap.setIfInBounds a.b (.map c8.toArray Du) }) ->
      bE X o F C I M K:=λc8 Du n5 ff=>by
     obtain⟨bi,post,bL⟩:=wI a2;have lh:M.Perm (⟨a.b,.map l.toArray clock⟩::(bi++post)):=by rw[bL];exact rn
     refine anl I8 (by rcases aD with aD | aD<;>rw[aD]<;>simp) fun β ac w kN=>?_;have ba:db X β ac w F C I (⟨a.b,.map l.toArray clock⟩::(bi++post)):=kN.j0 (.perm lh .refl);have vf:=kN.holds.m _ a2;have ex:=dJ ba.ak aC;have q8:=dJ ba.ak aA;have qw:=dJ ba.ak bx;have jM:=MapKept.heap_set (o':=Obj.map c8.toArray Du) vf;refine⟨_,I,⟨a.b,.map c8.toArray Du⟩::(bi++post),?_,ba.swap (w':={ w with heap:=w.heap.setIfInBounds a.b (.map c8.toArray Du) }) (by simp) jM.1 jM.2 ⟨rfl,rfl⟩,?_⟩
     ·unfold execOp;rcases aD with aD | aD<;>simp only[aD,ex,q8,qw,cG,ff w vf,ck,dv]
     ·have y2:∀ q∈M,q.num≠a.b->q∈(⟨a.b,.map c8.toArray Du⟩:aF)::(bi++post):=λq aL az=>by
       rcases eu.1 (lh.mem_iff.1 aL)with rfl | aL;·exact(az rfl).elim
       ·exact pc _ aL
      refine k D (.tuple #[]) _ bS.p1 (by simp only[a1];exact⟨[],.nil,rfl⟩) ?_;refine hm.step (λi e hi=>(bq i e hi).imp (λq=>⟨q.1,pZ q.2⟩) λq=>q) aH (bS.le_refl D) (λ_ _=>rfl) hm.kB (λ_ _ h=>h) (λi e cf bM hi rP q aL az=>y2 q aL ?_) (.map c8 Du (by simp) n5) ?_;·rw[az];exact λag=>bM (hm.inj _ _ _ _ _ _ hi aB rP aH ag)
      ·exact λi e cf bM hi rP ag=>bM (hm.inj _ _ _ _ _ _ hi aB rP aH ag)
    rcases abC A' a6 bN 0 zZ mX with⟨ar,hy⟩ | ⟨j,a',ar,an,ax,zp⟩;·exact fin _ (clock+1) (hy clock) λw vf=>ani fH tC (A'.isKey a6) vf ar
    ·rw[dp]at ar;have vO:a'.key=sX:=by
      cases A' with
      |int=>
       have:=a6.int;subst this;cases ae:a'.key<;>rw[ae]at ax<;>simp[Instr.sameNow]at ax
       obtain⟨rfl,h⟩:=ax;rw[h]
      |str=>
       have:=a6.str;subst this;cases ae:a'.key<;>rw[ae]at ax<;>simp[Instr.sameNow,abA]at ax
       rw[ax]
     exact fin _ clock zp λw vf=>anj fH tC (A'.isKey a6) vf ar an vO
   ·cases ay
  ·cases ay
end
section
variable{X:dw}{G:GT}{pr:mG}{D:bS}{m m':bB}{F:Fr}{ak:bn ap}{C:dX}{I:a5}{M:List aF}{K:hb}{o:Oper}{v:ap}
def abH(aW:dm X.P X.E)(ah:∀ d,o.dst=some d->d<X.n){s d e:Nat}(aD:o.op=.convert s d x){da ch:Nat}{v':List Value}(ax:X.E s=some ⟨bW,b1,oZ,.slice e⟩)(iD:X.E d=some ⟨da,ch,v',.string⟩)(ag:FC (X.E e)=true)
  {id off n:Nat} (h:MJ G m id off n=some (v,m')) (ab:∃ a c,D id=some a/\bU F x=.val (.slice (some ⟨a.b,a.o+off,none⟩) n c)) (hm:dE (et X G pr) D m I M)
  (k:sY X G pr D m I M v m' o.dst F C K):bE X o F C I M K:=by
 unfold MJ at h;obtain⟨a,c,aH,ex⟩:=ab;obtain⟨ad,l,vs,aC,br,aE,h⟩:=Bn (u:=.pointer (some ⟨a.b,a.o+off,none⟩)) hm (by simp only[a1];exact⟨a,aH,rfl⟩) h;cases aC;obtain⟨c1,pF,h⟩:=df h;cases h;have jx:=SY pF aE;have cg:c1.length=n:=by have:=br.2;obtain⟨_,_,_,_,_,aa⟩:=this;rw[<-aa,jx];simp
 subst jx;obtain⟨aP,he,mX⟩:∃ aP,X.E e=some aP/\aP.bT=.int .u8:=by
  unfold FC at ag;split at ag;·rename_i h;exact⟨_,h,rfl⟩
  ·cases ag
 refine bE.aj0 aW aD ah ax rfl he mX iD rfl ex cg br ?_;exact k D _ M bS.p1 (by simp only[a1]) hm
def ano(aW:dm X.P X.E)(ah:∀ d,o.dst=some d->d<X.n){s d:Nat}(aD:o.op=.convert s d x)(h:MK (et X G pr) m s d (dG ak x)=some (v,m'))(H:jW D F ak o.op.operands.toList)(hm:dE (et X G pr) D m I M)
  (k:sY X G pr D m I M v m' o.dst F C K):bE X o F C I M K:=by
 unfold MK at h;rw[aD]at H;split at h
 ·rename_i U aa af;obtain⟨ag,h⟩:=hG h;obtain⟨u,aC,a3⟩:=H.bU (x:=x) (by simp[Op.operands]) af;obtain⟨a,aH,rfl⟩:=a3.tV;exact abH aW ah aD U aa ag h ⟨a,_,aH,aC⟩ hm k
 ·rename_i U aa af;obtain⟨ag,h⟩:=hG h;obtain⟨u,aC,a3⟩:=H.bU (x:=x) (by simp[Op.operands]) af;obtain⟨a,aH,_,rfl⟩:=a3.wN;exact abH aW ah aD U aa ag h ⟨a,_,aH,aC⟩ hm k
 ·rename_i U aa af;obtain⟨ag,h⟩:=hG h;obtain⟨u,aC,a3⟩:=H.bU (x:=x) (by simp[Op.operands]) af;cases h;simp only[a1]at a3;subst a3;obtain⟨aP,he,mX⟩:∃ aP,X.E _=some aP/\aP.bT=.int .u8:=by
   unfold FC at ag;split at ag;·rename_i h;exact⟨_,h,rfl⟩
   ·cases ag
  refine bE.aj1 aW aD ah U rfl he mX aa rfl aC ?_;exact k D _ M bS.p1 (by simp only[a1]) hm
 ·cases h
def abI(q:List UInt8):b0 D (q.map λb=>ap.i .u8 (.ofNat b.toNat)) (lY ⟨q.toArray⟩):=by
 unfold lY;simp only
 induction q with
 |nil=>exact .nil| cons b q be=>exact .cons (by simp only[a1];rfl) be
def M5{l:List Operand}{a b:ap}(h:pd ak l=some [a,b]):∃ x y,l=[x,y]/\dG ak x=some a/\dG ak y=some b:=by
 match l,h with
 |[],h=>simp[pd]at h
 |[x],h=>
  simp only[pd]at h;split at h;·rename_i aC aA;cases aA;cases h
  ·cases h
 |[x,y],h=>
  simp only[pd]at h;split at h
  ·rename_i aC aA;split at aA
   ·rename_i bx cU;cases cU;cases aA;cases h;exact⟨x,y,rfl,aC,bx⟩
   ·cases aA
  ·cases h
 |x::y::z::l,h=>
  simp only[pd]at h;split at h
  ·rename_i aC aA;split at aA
   ·rename_i bx cU;split at cU
    ·cases cU;cases aA;cases h
    ·cases cU
   ·cases aA
  ·cases h
def dE.sub{M':List aF}(h:dE (et X G pr) D m I M)(ax:∀ x∈M,x∈M'):dE (et X G pr) D m I M':=
 ⟨λid e a hi aH=>(h.jH id e a hi aH).mono (bS.le_refl D) (λx ab _=>ax x ab),h.inj,h.kB,h.rM⟩
def anp(aW:dm X.P X.E)(ah:∀ d,o.dst=some d->d<X.n)(aD:o.op=.call { callee:=.builtin .copy,args:=args,argTypes:=ts })(h:Sr (et X G pr) m ts.toList (pd ak args.toList)=some (v,m'))
  (H:jW D F ak args.toList) (hm:dE (et X G pr) D m I M) (k:sY X G pr D m I M v m' o.dst F C K):bE X o F C I M K:=by
 unfold Sr at h;split at h
 ·rename_i t u id off n c q aI aE;split at h
  ·rename_i sa tW sz e px;obtain⟨aP,he,h⟩:=df h;obtain⟨ag,h⟩:=hG h;rw[ct]at ag;obtain⟨m2,aa,-,-,af⟩:=SX (Y:=et X G pr) h;cases aa;obtain⟨x,y,m3,Dv,anq⟩:=M5 aE;obtain⟨wO,ab,a6⟩:=H.bU (x:=x) (by rw[m3];simp) Dv;obtain⟨sX,aT,gP⟩:=H.bU (x:=y) (by rw[m3];simp) anq;obtain⟨a,aH,rfl⟩:=a6.tV;have anr:=gP.str;subst anr;obtain⟨g,Ki,bi,post,arr,T,bx,a2,hz,hM,⟨ju,a',iz,mH,ir,aB⟩,l7⟩:=af hm (u:=.pointer (some ⟨a.b,a.o+off,none⟩)) (by simp only[a1];exact⟨a,aH,rfl⟩) (abI q);cases bx;have lh:M.Perm (⟨a.b,.cells arr T (0,0)⟩::(bi++post)):=by rw[a2];exact rn
   have Dw:args=#[x,y]:=by apply hJ;simpa using m3
   have Dx:ts=#[t,u]:=by apply hJ;simpa using aI
   have cI:(⟨q.toArray⟩:ByteArray).size=q.length:=by simp[ByteArray.size]
   have q5:(lY ⟨q.toArray⟩).length=q.length:=by simp[lY]
   refine bE.V7 aW (by rw[aD,Dw,Dx]) ah px rfl he (cj ag.1) ab aT (by rw[cI];exact bP ag.2) (by rw[cI,<-q5];exact hz) lh ?_;rw[cI];have ans:(bi++(⟨a.b,.cells (bQ arr.toList (a.o+off) (lY ⟨q.toArray⟩)).toArray T (0,0)⟩:aF)::post).Perm (⟨a.b,.cells (bQ arr.toList (a.o+off) (lY ⟨q.toArray⟩)).toArray T (0,0)⟩::(bi++post)):=rn;exact k D (.int .i64 q.length) _ bS.p1 (by simp only[a1];rfl) (l7.sub λx ab=>ans.mem_iff.1 ab)
  ·cases h
 ·cases h
end
section
variable{P:Program}{w:World}
def abJ(t u ty e:Nat)(i:TypeInfo)(aI:P.underlying t=some (.slice e))(hu:P.underlying u=some pz)(q6:∀ k,pz≠.int k)(hi:P.info? e=some i)
 {n c:Nat} {arr:Array Value} (aB:w.heap[g]?=some (.cells arr T (0,0))) {x:Value} (U:∀ v∈dd,v.oneCell'=true)
  (cg:∀ w',(Builtin.lenOf x).run P w'=.ok m w') (hy:(Builtin.firstCells i.size m x).run P w=.ok dd.toArray w) (uF:n+m<=c) (hz:off+n*i.size+dd.length<=arr.size) :
  (Builtin.append_ #[t,u] ty #[.slice (some ⟨g,off,none⟩) n c,x]).run P w=.ok (.slice (some ⟨g,off,none⟩) (n+m) c) (w.setRow g (bQ arr.toList (off+n*i.size) dd).toArray):=by
 have Ha:(match pz with | .int _=>true | _=>false)=false:=by cases pz<;>first | rfl | exact(q6 _ rfl).elim
 have cR:=run_storeCells_at P g (off+n*i.size) T dd 0 arr w aB (by simpa using hz) U;simp only[p']at cR;have RC:(Addr.add ⟨g,off,none⟩ (n*i.size))=⟨g,off+n*i.size,none⟩:=dY _ rfl _;simp[Builtin.append_,run_underlying aI,run_underlying hu,sizeOf,typeInfo,hi,cg,uF,hy,RC,cR,bQ]
def ant(t u ty e:Nat)(i:TypeInfo)(z:Value)(aI:P.underlying t=some (.slice e))(hu:P.underlying u=some pz)(q6:∀ k,pz≠.int k)(hi:P.info? e=some i)(bk:i.zero=some z)(y7:z.cells.size=i.size)
 {n c:Nat} (hold:(Builtin.firstCells i.size n (.slice aq n c)).run P w.drew=.ok xs.toArray w.drew) (oA:xs.length=n*i.size) {x:Value} (aE:dd.length=m*i.size)
  (cg:∀ w',(Builtin.lenOf x).run P w'=.ok m w') (hy:(Builtin.firstCells i.size m x).run P w.drew=.ok dd.toArray w.drew) (uF:c<n+m) (b1:n+m<=maxLen) (ch:(n+m)*i.bytes<=140737488355328) :
  ∃ cap aY,(Builtin.append_ #[t,u] ty #[.slice aq n c,x]).run P w=.ok (.slice (some ⟨w.heap.size,0,none⟩) (n+m) cap) (w.drew.alloc (.cells (xs++dd++aY).toArray e (0,0)))/\n+m<=cap/\cap<=maxLen/\(xs++dd++aY).length=cap*i.size:=by
 have Ha:(match pz with | .int _=>true | _=>false)=false:=by cases pz<;>first | rfl | exact(q6 _ rfl).elim
 have az:¬ (n+m<=c):=by omega
 have jN:n+m<=9223372036854775807:=by simp only[maxLen]at b1;exact b1
 have Hb:¬ (9223372036854775807<((n:Int)+(m:Int))):=by omega
 have Hc:¬ (281474976710656<Builtin.nextslicecap (n+m) c*i.bytes):=by have:=growslice_fits (by omega:c<n+m) ch;omega
 have cE:=grownCap_ge w (n+m) c e;have nC:grownCap w (n+m) c e<=maxLen:=grownCap_le_maxLen w (n+m) c e b1;refine⟨grownCap w (n+m) c e,(Builtin.zeroCells z.cells (grownCap w (n+m) c e-(n+m))).toList,?_,cE,nC,?_⟩
 ·simp[Builtin.append_,run_underlying aI,run_underlying hu,sizeOf,typeInfo,zeroValue,hi,bk,cg,az,Hb,Hc,Question.forced,hy,hold,newRow,grownCap];congr 2;apply hJ;simp
 ·rw[di,di,oA,aE,Av,size_zeroCells,y7,<-j3,<-j3];congr 1;omega
end
section
variable{X:dw}{G:GT}{pr:mG}{D:bS}{m m':bB}{F:Fr}{ak:bn ap}{C:dX}{I:a5}{M:List aF}{K:hb}{o:Oper}{v:ap}
def cx.SZ{ad:Addr}{n:Nat}(h:cx I M ad n vs){w:World}(mh:e1 I M w)(j:Nat)(v:Value)(an:vs[j]?=some v):w.cell? (ad.add j)=some v:=by
 obtain⟨bL,cs,T,ak,ev,aj,aE⟩:=h;rw[dY _ bL,w6 (ev.heap mh)];rw[<-aj,mM]at an;split at an
 ·rw[s8]at an;simpa using an
 ·cases an
def anu{x:ap}{u:Value}{k:Nat}{K:List ap->Option R}{r:R}(h:FD G m.t x aP.size K=some r)(ax:yh ut aP x=true)(ab:a1 D x u)(hm:dE (et X G pr) D m I M)(ae:tU x=some k)(ay:k≠0) :
  ∃ l vs,K l=some r/\b0 D l vs/\(∀ w',(Builtin.lenOf u).run X.P w'=.ok k w')/\(∀ w,e1 I M w->(Builtin.firstCells aP.size k u).run X.P w=.ok vs.toArray w)/\vs.length=k*aP.size /\
   ((∃ a b z e,ut=some ⟨a,b,z,.slice e⟩)\/∃ a b z,ut=some ⟨a,b,z,.string⟩):=by
 have S0:(∃ a b z e,ut=some ⟨a,b,z,.slice e⟩)\/∃ a b z,ut=some ⟨a,b,z,.string⟩:=by
  unfold yh at ax;split at ax<;>first | exact .inl ⟨_,_,_,_,rfl⟩ | exact .inr ⟨_,_,_,rfl⟩ | cases ax
 cases x<;>simp only[FD]at h<;>first | cases h | skip
 case sn=>simp[tU,yg]at ae;exact(ay ae.symm).elim
 case so=>simp[tU,yg]at ae;exact(ay ae.symm).elim
 case sl id off n c=>
  simp only[tU,yg,hq]at ae;subst ae;obtain⟨a,aH,rfl⟩:=ab.tV;obtain⟨ad,l,vs,aC,br,aE,h⟩:=Bn (u:=.pointer (some ⟨a.b,a.o+off,none⟩)) hm (by simp only[a1];exact⟨a,aH,rfl⟩) h;cases aC;have x6:=br;obtain⟨_,_,_,_,_,_,cg⟩:=x6;exact⟨l,vs,h,aE,λ_=>rfl,λw hw=>run_firstCells_some (P:=X.P) w aP.size n _ n c vs cg (λj v an=>br.SZ hw j v an),cg,S0⟩
 case sx id off e n=>
  simp only[tU,yg,hq]at ae;subst ae;obtain⟨a,aH,_,rfl⟩:=ab.wN;obtain⟨ad,l,vs,aC,br,aE,h⟩:=Bn (u:=.pointer (some ⟨a.b,a.o+off,none⟩)) hm (by simp only[a1];exact⟨a,aH,rfl⟩) h;cases aC;have x6:=br;obtain⟨_,_,_,_,_,_,cg⟩:=x6;exact⟨l,vs,h,aE,λ_=>rfl,λw hw=>run_firstCells_some (P:=X.P) w aP.size n _ n _ vs cg (λj v an=>br.SZ hw j v an),cg,S0⟩
 case s q=>
  simp only[tU,hq]at ae;subst ae;have anv:aP.size=1:=by
   unfold yh at ax;split at ax<;>first | exact cj ax | (rename_i e;cases e) | cases ax
  have:=ab.str;subst this;have aL:(⟨q.toArray⟩:ByteArray).size=q.length:=by simp[ByteArray.size]
  refine⟨_,lY ⟨q.toArray⟩,h,abI q,λw=>?_,λw hw=>?_,by simp[lY,anv],S0⟩;·show Result.ok _ _=_;rw[aL]
  ·have:=VR w aP.size (P:=X.P) ⟨q.toArray⟩;rw[aL]at this;exact this
def S1(aW:dm X.P X.E)(ah:∀ d,o.dst=some d->d<X.n){s:Operand}{u:Nat}(aD:o.op=.call { callee:=.builtin .append,args:=#[s,x],argTypes:=#[t,u] })
  {e:Nat} (aI:X.E t=some ⟨bW,b1,oZ,.slice e⟩) (hu:X.E u=some oO) (gK:∀ k,oO.bT≠.int k) (he:X.E e=some aP)
 {n c k:Nat} {S2:Value} (ax:bU F s=.val (.slice aq n c)) (ab:bU F x=.val S2) (oA:xs.length=n*aP.size) (n7:dd.length=k*aP.size) (U:iW dd=true)
  (cg:∀ w',(Builtin.lenOf S2).run X.P w'=.ok k w') (hy:∀ w,e1 I M w->(Builtin.firstCells aP.size k S2).run X.P w=.ok dd.toArray w)
  (hold:∀ w,e1 I M w->(Builtin.firstCells aP.size n (.slice aq n c)).run X.P w=.ok xs.toArray w) (b1:n+k<=maxLen) (ch:(n+k)*aP.bytes<=140737488355328)
  (anw:n+k<=c->∃ g off T arr bi post,aq=some ⟨g,off,none⟩/\M=bi++⟨g,.cells arr T (0,0)⟩::post/\off+n*aP.size+dd.length<=arr.size /\ K (put o.dst (.val (.slice aq (n+k) c)) F) C I (bi++⟨g,.cells (bQ arr.toList (off+n*aP.size) dd).toArray T (0,0)⟩::post))
  (anx:c<n+k->∀ b cap aY,I b=none->(∀ y∈M,y.num≠b)->n+k<=cap->cap<=maxLen->(xs++dd++aY).length=cap*aP.size ->
   K (put o.dst (.val (.slice (some ⟨b,0,none⟩) (n+k) cap)) F) C I (⟨b,.cells (xs++dd++aY).toArray e (0,0)⟩::M)):bE X o F C I M K:=by
 refine⟨λa w Q ⟨β,ba⟩=>?_⟩;obtain⟨inf,z,hi,gL,j1,kl,mQ⟩:=(aW _ _ he).inf;obtain⟨d,fH,gd⟩:=(aW _ _ hu).fM;obtain⟨ja,qm,mW⟩:=(aW _ _ aI).fM;have vI:ja=.slice e:=by cases ja<;>simp_all[fF]
 subst vI;have y7:z.cells.size=inf.size:=by rw[gL,<-(aW _ _ he).len,<-mQ];simp
 have es:=dJ ba.ak ax;have ex:=dJ ba.ak ab;have q6:∀ k,d≠.int k:=λk a'=>gK k (by rw[<-gd,a'];rfl);rw[<-gL]at oA n7 hold hy;by_cases uF:n+k<=c
 ·obtain⟨g,off,T,arr,bi,post,rfl,a2,hz,ae⟩:=anw uF;rw[<-gL]at hz ae;have aB:w.heap[g]?=some (.cells arr T (0,0)):=ba.holds.m ⟨g,.cells arr T (0,0)⟩ (by rw[a2];simp);have ff:=abJ (P:=X.P) (w:=w) t u o.type e inf qm fH q6 hi aB (B1 U) cg (hy w ba.holds) uF hz;refine kk (by rw[aD];simp) ?_ ⟨_,_,_,_,⟨β,db.put (x:=.val (.slice (some ⟨g,off,none⟩) (n+k) c)) (ba.Ag a2) ah rfl⟩,ae⟩;unfold execOp;simp only[aD,resolve,invoke,builtin,cG,dv,ck,xp,dQ,oN,es,ex,ff]
 ·have mh:e1 I M w.drew:=ba.holds.heap rfl;obtain⟨cap,aY,ff,aa,af,aN⟩:=ant (P:=X.P) (w:=w) t u o.type e inf z qm fH q6 hi kl y7 (hold w.drew mh) oA n7 cg (hy w.drew mh) (by omega) b1 (by rw[j1];exact ch);have ik:db X β a w.drew F C I M:=ba.world rfl;rw[gL]at aN;refine kk (by rw[aD];simp) ?_ ⟨_,_,_,_,⟨β,db.put (x:=.val (.slice (some ⟨w.heap.size,0,none⟩) (n+k) cap)) (ik.qb (.cells (xs++dd++aY).toArray e (0,0))) ah rfl⟩,anx (by omega) w.heap.size cap aY ba.holds.td ba.holds.r3 aa af aN⟩;unfold execOp;simp only[aD,resolve,invoke,builtin,cG,dv,ck,xp,dQ,oN,es,ex,ff]
def abK{u:Nat}{x:ap}(h:yh (X.E u) aP x=true):∃ oO,X.E u=some oO/\∀ k,oO.bT≠.int k:=by
 unfold yh at h;split at h<;>first | (cases h;done) | (rename_i e;exact⟨_,e,by simp⟩) | (rename_i e _;exact⟨_,e,by simp⟩) | (rename_i e _ _;exact⟨_,e,by simp⟩)
def anz{s:ap}{u:Value}(h:FF s=true)(ax:a1 D s u):∃ a n c,u=.slice a n c/\n<=c:=by
 cases s<;>simp only[FF,lN]at h
 case sn=>exact⟨_,_,_,ax.Ds,b2 _⟩
 case so=>obtain⟨a,c,rfl⟩:=ax.MU;exact⟨_,_,_,rfl,bF _⟩
 case sl=>obtain⟨a,_,rfl⟩:=ax.tV;exact⟨_,_,_,rfl,bP h⟩
 case sx=>obtain⟨a,_,bz,rfl⟩:=ax.wN;exact⟨_,_,_,rfl,by omega⟩
def anA{x:ap}{u:Value}(ax:yh ut aP x=true)(ab:a1 D x u)(ae:tU x=some 0):(∃ b c,u=.slice b 0 c)\/u=.string .empty:=by
 cases x<;>simp[tU,yg]at ae
 case sn=>exact .inl ⟨_,_,ab.Ds⟩
 case so=>obtain⟨a,c,rfl⟩:=ab.MU;exact .inl ⟨_,_,rfl⟩
 case sl=>subst ae;obtain⟨a,_,rfl⟩:=ab.tV;exact .inl ⟨_,_,rfl⟩
 case sx=>subst ae;obtain⟨a,_,_,rfl⟩:=ab.wN;exact .inl ⟨_,_,rfl⟩
 case gs=>subst ae;exact .inl ⟨_,_,ab.SI⟩
 case s=>subst ae;exact .inr ab.str
noncomputable abbrev S3(X:dw)(G:GT)(m:bB)(s x:ap)(aP:eE)(kn e:Nat):List ap->Option (ap×bB):=λl=>cv (some kn) none λk=>cw (Nat.beq k 0) (cw (FF s) (some (s,m)) none) (cw (l.all ap.one) (IT G m s l k aP.size aP.bytes e) none)
def anB(aW:dm X.P X.E)(ah:∀ d,o.dst=some d->d<X.n){u:Nat}(aD:o.op=.call { callee:=.builtin .append,args:=#[os,rI],argTypes:=#[t,u] })
 {e:Nat} (aI:X.E t=some ⟨bW,b1,oZ,.slice e⟩) {s x:ap} (sO:yh (X.E u) aP x=true) (he:X.E e=some aP) (ae:tU x=some 0) {us:Value}
  (es:bU F os=.val us) (gs:a1 D s us) (ex:bU F rI=.val mP) (Bs:a1 D x mP) (h:FD G m.t x aP.size (S3 X G m s x aP 0 e)=some (v,m'))
  (hm:dE (et X G pr) D m I M) (k:sY X G pr D m I M v m' o.dst F C K):bE X o F C I M K:=by
 have aa:∃ l,S3 X G m s x aP 0 e l=some (v,m'):=by
  cases x<;>simp only[FD]at h<;>first | cases h | exact⟨_,h⟩ | skip
  case sl=>obtain⟨a,aH,rfl⟩:=Bs.tV;obtain⟨_,l,_,_,_,_,h⟩:=Bn (u:=.pointer (some ⟨a.b,a.o+_,none⟩)) hm (by simp only[a1];exact⟨a,aH,rfl⟩) h;exact⟨l,h⟩
  case sx=>obtain⟨a,aH,_,rfl⟩:=Bs.wN;obtain⟨_,l,_,_,_,_,h⟩:=Bn (u:=.pointer (some ⟨a.b,a.o+_,none⟩)) hm (by simp only[a1];exact⟨a,aH,rfl⟩) h;exact⟨l,h⟩
 obtain⟨l,aa⟩:=aa;have af:cw (FF s) (some (s,m)) none=some (v,m'):=aa;obtain⟨aJ,af⟩:=hG af;cases af;obtain⟨a,n,c,rfl,oQ⟩:=anz aJ gs;obtain⟨oO,hu,gK⟩:=abK sO;exact bE.WH aW aD ah aI rfl hu gK he es oQ ex (anA sO Bs ae) (k D _ M bS.p1 gs hm)
def anC(aW:dm X.P X.E)(ah:∀ d,o.dst=some d->d<X.n){u:Nat}(aD:o.op=.call { callee:=.builtin .append,args:=#[os,rI],argTypes:=#[t,u] })
 {e:Nat} (aI:X.E t=some ⟨bW,b1,oZ,.slice e⟩) (hu:X.E u=some oO) (gK:∀ k,oO.bT≠.int k) (he:X.E e=some aP) {us:Value} {id off n c kn:Nat}
  (es:bU F os=.val us) (gs:a1 D (.sl id off n c) us) (ex:bU F rI=.val mP) {l:List ap} (h:Sn G m id off n c l kn aP.size e=some (v,m')) (jN:n+kn<=maxLen) (gy:(n+kn)*aP.bytes<=140737488355328)
  (aE:b0 D l vs) (tD:vs.length=kn*aP.size) (U:iW vs=true) (cg:∀ w',(Builtin.lenOf mP).run X.P w'=.ok kn w') (hy:∀ w,e1 I M w->(Builtin.firstCells aP.size kn mP).run X.P w=.ok vs.toArray w)
  (hm:dE (et X G pr) D m I M) (k:sY X G pr D m I M v m' o.dst F C K):bE X o F C I M K:=by
 have Ja:∀ {q:List Value} {c:Nat},q.length=c*aP.size->∀ i,(et X G pr).E e=some i->q.length=c*i.size:=λaL i hi=>by have:X.E e=some i:=hi;rw[he]at this;cases this;exact aL
 obtain⟨a,aH,rfl⟩:=gs.tV;unfold Sn at h;by_cases al:n+kn<=c
 ·have ag:Nat.ble (Nat.add n kn) c=true:=CW al;rw[ag]at h;have bg:zV m (.p id (Nat.add off (Nat.mul n aP.size))) l (λm=>some (ap.sl id off (Nat.add n kn) c,m))=some (v,m'):=h;obtain⟨m2,aa,-,-,af⟩:=SX (Y:=et X G pr) bg;cases aa;obtain⟨g,Ki,bi,post,arr,T,aC,a2,hz,hM,⟨ju,a',iz,mH,ir,aB⟩,l7⟩:=af hm (u:=.pointer (some ⟨a.b,a.o+(off+n*aP.size),none⟩)) (by simp only[a1];exact⟨a,aH,rfl⟩) aE;cases aC;refine⟨λac w Q ⟨β,ba⟩=>?_⟩;obtain⟨inf,z,hi,gL,j1,kl,mQ⟩:=(aW _ _ he).inf;obtain⟨d,fH,gd⟩:=(aW _ _ hu).fM;obtain⟨ja,qm,mW⟩:=(aW _ _ aI).fM;have vI:ja=.slice e:=by cases ja<;>simp_all[fF]
  subst vI;have aB:w.heap[a.b]?=some (.cells arr T (0,0)):=ba.holds.m ⟨a.b,.cells arr T (0,0)⟩ (by rw[a2];simp);have wP:=dJ ba.ak es;have Dy:=dJ ba.ak ex;rw[<-gL]at hy;have ff:=abJ (P:=X.P) (w:=w) t u o.type e inf qm fH (λk a'=>gK k (by rw[<-gd,a'];rfl)) hi aB (B1 U) cg (hy w ba.holds) al (off:=a.o+off) (by rw[gL];omega);rw[gL,p9]at ff;have ik:=ba.Ag (cs':=(bQ arr.toList (a.o+(off+n*aP.size)) vs).toArray) a2;refine kk (by rw[aD];simp) ?_ ⟨_,_,_,_,⟨β,db.put (x:=.val (.slice (some ⟨a.b,a.o+off,none⟩) (n+kn) c)) ik ah rfl⟩,?_⟩;·unfold execOp;simp only[aD,resolve,invoke,builtin,cG,dv,ck,xp,dQ,oN,wP,Dy,ff]
  ·exact k D _ _ bS.p1 (by simp only[a1];exact⟨a,aH,rfl⟩) l7
 ·have ag:Nat.ble (Nat.add n kn) c=false:=by
   cases ag:Nat.ble (Nat.add n kn) c with
   |false=>rfl| true=>exact absurd (bP ag) al
  rw[ag]at h;have bg:yf G m.t (.p id off) (Nat.mul n aP.size) (λdS=>wL m (dS++l) e λid m=>some (ap.sx id 0 0 (Nat.add n kn),m))=some (v,m'):=h;obtain⟨ad,dS,xs,aC,br,dg,aa⟩:=Bn (u:=.pointer (some ⟨a.b,a.o+off,none⟩)) hm (by simp only[a1];exact⟨a,aH,rfl⟩) bg;cases aC;obtain⟨m2,bp,az,ec⟩:=SU (Y:=et X G pr) aa;cases bp;have x6:=br;obtain⟨_,_,_,_,_,_,m0⟩:=x6;refine S1 aW ah aD aI hu gK he es ex m0 tD U cg hy (λw hw=>run_firstCells_some (P:=X.P) w aP.size n _ n c xs m0 (λj v an=>br.SZ hw j v an)) jN gy (λhf=>(al hf).elim) λ_ b cap aY bX ar Jb oz Jc=>?_;refine k _ _ _ bS.FQ ?_ (ec aY hm ar (dg.append aE) (Ja Jc) oz);simp only[a1];exact⟨_,bS.qM _ _ _,by simpa using Jb,by simp⟩
def anD(aW:dm X.P X.E)(ah:∀ d,o.dst=some d->d<X.n){u:Nat}(aD:o.op=.call { callee:=.builtin .append,args:=#[os,rI],argTypes:=#[t,u] })
 {e:Nat} (aI:X.E t=some ⟨bW,b1,oZ,.slice e⟩) (hu:X.E u=some oO) (gK:∀ k,oO.bT≠.int k) (he:X.E e=some aP) {us:Value} {id n ga kn:Nat} {cs:bn ap}
  (es:bU F os=.val us) (gs:a1 D (.sx id 0 0 n) us) (ex:bU F rI=.val mP) (aB:m.t.get id=some (.cells cs e ga)) {l:List ap} (h:So m id n cs ga l kn aP.size e=some (v,m')) (jN:n+kn<=maxLen) (gy:(n+kn)*aP.bytes<=140737488355328)
  (aE:b0 D l vs) (tD:vs.length=kn*aP.size) (U:iW vs=true) (cg:∀ w',(Builtin.lenOf mP).run X.P w'=.ok kn w') (hy:∀ w,e1 I M w->(Builtin.firstCells aP.size kn mP).run X.P w=.ok vs.toArray w)
  (hm:dE (et X G pr) D m I M) (k:sY X G pr D m I M v m' o.dst F C K):bE X o F C I M K:=by
 obtain⟨a,aH,bz,rfl⟩:=gs.wN;have qV:=hm.jH _ _ _ aB aH;obtain⟨arr,z1,a2,cI,aJ,ae,k2⟩:=qV;unfold So at h;obtain⟨o5,h⟩:=hG h;have abL:n*aP.size<=ga:=bP o5;obtain⟨t1,aa,af⟩:=bn.pY (none:Option gn) m.t id;rw[aa]at h;obtain⟨cs',aN,bq⟩:=bn.zX l cs (Nat.mul n aP.size);have bg:bn.zS l cs (Nat.mul n aP.size) (λcs=>Dl (⟨t1,m.n⟩:bB) (.cells cs e (Nat.mul (Nat.add n kn) aP.size)) λid m=>some (ap.sx id 0 0 (Nat.add n kn),m))=some (v,m'):=h;rw[aN]at bg;obtain⟨t2,bp,ec⟩:=I7 bg;cases ec;have nF:∀ i fB,t1.get i=some fB->i≠id/\m.t.get i=some fB:=λi fB hi=>by
  rcases af i fB hi with⟨_,eX⟩ | eX;·cases eX
  ·exact eX
 have abM:dE (et X G pr) D ⟨t1,m.n⟩ I M:=⟨λi fB b hi=>hm.jH i fB b (nF i fB hi).2,λi hV fB Bt b h2 hi dx=>hm.inj i hV fB Bt b h2 (nF i fB hi).2 (nF hV Bt dx).2,hm.kB,hm.rM⟩;have abN:arr.size=a.c*aP.size:=by have:=ae aP he;rw[z1,dp]at this;exact this
 have MT:=aE.len;have oA:((arr.toList.take (n*aP.size)).length=n*aP.size):=by rw[mV,Av];omega
 have lA:∀ j,j<n*aP.size->∀ v,cs.get j=some v->∃ x,(arr.toList.take (n*aP.size))[j]?=some x/\a1 D v x:=λj an v aj=>by obtain⟨x,a3,a6⟩:=aJ j v (by omega) aj;rw[z1,dp]at a3;exact⟨x,by rw[mM,cF an];simpa using a3,a6⟩
 have abO:∀ (bH:bS) (M':List aF) (b fy:Nat) (au:List Value),D.le bH->(⟨b,.cells (arr.toList.take (n*aP.size)++vs++au).toArray e (0,0)⟩:aF)∈M'->(arr.toList.take (n*aP.size)++vs++au).length=fy*aP.size->fy<=maxLen ->
   l6 bH X.E M' ⟨b,0,fy⟩ (.cells cs' e (Nat.mul (Nat.add n kn) aP.size)):=by
  intro bH M' b fy au dH Iw ZP anE;have hmul:(n+kn)*aP.size=n*aP.size+kn*aP.size:=j3 _ _ _;refine .cells _ rfl Iw ?_ (λi v hi I9=>?_) (λi hi=>?_) anE;·show 0+(n+kn)*aP.size<=_;rw[vp,di,di,oA,tD];omega
  ·have dx:i<n*aP.size+kn*aP.size:=by have:i<(n+kn)*aP.size:=hi;omega
   simp only[dp,BU];rcases bq i v I9 with⟨a3,a6⟩ | ⟨a3,a6⟩;·have M6:n*aP.size<=i:=a3;obtain⟨x,bN,gP⟩:=aE.get (i:=i-n*aP.size) a6;refine⟨x,?_,gP.mono dH⟩;rw[gz,qg (by omega),oA,rZ (by omega)];exact bN
   ·have M6:i<n*aP.size:=by
     rcases a3 with a3 | a3;·exact a3
     ·have:n*aP.size+l.length<=i:=a3;omega
    obtain⟨x,bN,gP⟩:=lA i M6 v a6;refine⟨x,?_,gP.mono dH⟩;rw[gz,rZ (by omega)];exact bN
  ·rw[he]at hi;cases hi;simpa using ZP
 refine S1 aW ah aD aI hu gK he es ex oA tD U cg hy (λw hw=>?_) jN gy (λal=>?_) λ_ b cap aY bX ar Jb oz Jc=>?_
 ·refine run_firstCells_some (P:=X.P) w aP.size n _ n _ _ oA λj v an=>?_;rw[dY _ rfl,w6 (hw.m _ a2)];rw[mM]at an;split at an
  ·rw[z1];simpa using an
  ·cases an
 ·
  obtain⟨bi,post,bL⟩:=wI a2;rw[xL]at al;have hz:a.o+0+n*aP.size+vs.length<=arr.size:=by have dk:=s7 aP.size al;rw[j3]at dk;rw[z1,abN,tD];omega
  refine⟨a.b,a.o+0,e,arr,bi,post,rfl,bL,hz,?_⟩;have abP:bQ arr.toList (a.o+0+n*aP.size) vs=arr.toList.take (n*aP.size)++vs++arr.toList.drop (n*aP.size+vs.length):=by rw[z1];simp only[bQ,dp]
  rw[abP];have y2:∀ q∈M,q.num≠a.b->q∈bi++(⟨a.b,.cells (arr.toList.take (n*aP.size)++vs++arr.toList.drop (n*aP.size+vs.length)).toArray e (0,0)⟩:aF)::post:=λq aL az=>by
   rw[bL]at aL;rcases dV.1 aL with aL | aL;·exact dV.2 (.inl aL)
   ·rcases eu.1 aL with rfl | aL
    ·exact(az rfl).elim
    ·exact dV.2 (.inr (pc _ aL))
  have Jd:∀ i fB b,t1.get i=some fB->D i=some b->b.b≠a.b:=λi fB b hi ag zG=>(nF i fB hi).1 (hm.inj _ _ _ _ _ _ (nF i fB hi).2 aB ag aH zG);refine k _ _ _ bS.FQ ?_ (abM.step (m:=⟨t1,m.n⟩) (j:=m.n) (λi fB hi=>(bp i fB hi).imp (λq=>⟨q.1,pZ q.2⟩) λq=>q) (D.qM _ ⟨a.b,0,a.c⟩) (bS.Bo _ hm.fresh) (λi hi=>by unfold bS.set;rw[b8 hi]) (λi b ag=>?_) (λ_ _ h=>h) (λi fB b bM hi ag q aL az=>y2 q aL (by rw[az];exact Jd i fB b hi ag)) (abO _ _ _ _ (arr.toList.drop (n*aP.size+vs.length)) (bS.Bo _ hm.fresh) (by simp) ?_ k2) λi fB b bM hi ag=>Jd i fB b hi ag);·simp only[a1];exact⟨_,bS.qM _ _ _,by simpa using al,by rw[z1];rfl⟩
  ·unfold bS.set at ag;split at ag
   ·show i<m.n+1;omega
   ·have:=hm.kB _ _ ag;show i<m.n+1;omega
  ·rw[<-abP,SW (by simpa using hz)];simpa using abN
 ·
  refine k _ _ _ bS.FQ ?_ (abM.new (m:=⟨t1,m.n⟩) (a:=⟨b,0,cap⟩) bp ar (abO _ _ _ _ _ (bS.Bo _ hm.fresh) (by simp) Jc oz));simp only[a1];exact⟨_,bS.qM _ _ _,by simpa using Jb,by simp⟩
def anF(aW:dm X.P X.E)(ah:∀ d,o.dst=some d->d<X.n){u:Nat}(aD:o.op=.call { callee:=.builtin .append,args:=#[os,rI],argTypes:=#[t,u] })
 {e:Nat} (aI:X.E t=some ⟨bW,b1,oZ,.slice e⟩) {s x:ap} (sO:yh (X.E u) aP x=true) (he:X.E e=some aP) {kn:Nat} (ae:tU x=some kn) (ay:kn≠0) {us:Value}
  (es:bU F os=.val us) (gs:a1 D s us) (ex:bU F rI=.val mP) (Bs:a1 D x mP) (h:FD G m.t x aP.size (S3 X G m s x aP kn e)=some (v,m'))
  (hm:dE (et X G pr) D m I M) (k:sY X G pr D m I M v m' o.dst F C K):bE X o F C I M K:=by
 obtain⟨l,vs,aa,aE,cg,hy,tD,_⟩:=anu (ut:=X.E u) h sO Bs hm ae ay;have af:cw (Nat.beq kn 0) (cw (FF s) (some (s,m)) none) (cw (l.all ap.one) (IT G m s l kn aP.size aP.bytes e) none)=some (v,m'):=aa;rw[hW ay]at af;have aN:cw (l.all ap.one) (IT G m s l kn aP.size aP.bytes e) none=some (v,m'):=af;obtain⟨hM,aN⟩:=hG aN;have U:=aE.one hM;obtain⟨oO,hu,gK⟩:=abK sO;have Ja:∀ {q:List Value} {c:Nat},q.length=c*aP.size->∀ i,(et X G pr).E e=some i->q.length=c*i.size:=λaL i hi=>by have:X.E e=some i:=hi;rw[he]at this;cases this;exact aL
 cases s<;>simp only[IT]at aN<;>first | cases aN | skip
 case sn=>
  obtain⟨ag,bq⟩:=hG aN;rw[ct]at ag;obtain⟨m2,bp,az,ec⟩:=SU (Y:=et X G pr) bq;cases bp;have nf:=gs.Ds;subst nf;have jN:0+kn<=maxLen:=by rw[dp];exact bP ag.2
  have gy:(0+kn)*aP.bytes<=140737488355328:=by rw[dp];exact bP ag.1
  refine S1 aW ah aD aI hu gK he (n:=0) (c:=0) (xs:=[]) es ex (by simp) tD U cg hy (λw _=>by simp[run_firstCells_none]) jN gy (λal=>by omega) λ_ b cap aY bX ar Jb oz Jc=>?_;refine k _ _ _ bS.FQ ?_ (ec aY hm ar aE (Ja Jc) oz);simp only[a1];exact⟨_,bS.qM _ _ _,by simpa using Jb,by simp⟩
 case sl=>
  obtain⟨ag,bq⟩:=hG aN;rw[ct]at ag;exact anC aW ah aD aI hu gK he es gs ex bq (bP ag.2) (bP ag.1) aE tD U cg hy hm k
 case sx=>
  split at aN;·rename_i aB;obtain⟨ag,bq⟩:=hG aN;simp only[ct]at ag;obtain⟨⟨fm,fj⟩,oX,zn,AU⟩:=ag;have d1:=cj fm;have d2:=cj fj;have d3:=cj oX;subst d1;subst d2;subst d3;exact anD aW ah aD aI hu gK he es gs ex aB bq (bP AU) (bP zn) aE tD U cg hy hm k
  ·cases aN
def anG(aW:dm X.P X.E)(ah:∀ d,o.dst=some d->d<X.n)(aD:o.op=.call { callee:=.builtin .append,args:=args,argTypes:=ts })(h:Sq (et X G pr) m ts.toList (pd ak args.toList)=some (v,m'))
  (H:jW D F ak args.toList) (hm:dE (et X G pr) D m I M) (k:sY X G pr D m I M v m' o.dst F C K):bE X o F C I M K:=by
 unfold Sq at h;split at h
 ·rename_i t u s x aI aE;split at h
  ·rename_i sa tW sz e px;obtain⟨aP,he,h⟩:=df h;obtain⟨sO,h⟩:=hG h;obtain⟨os,rI,m3,g3,Dv⟩:=M5 aE;obtain⟨us,es,gs⟩:=H.bU (x:=os) (by rw[m3];simp) g3;obtain⟨mP,ex,Bs⟩:=H.bU (x:=rI) (by rw[m3];simp) Dv;have Dw:args=#[os,rI]:=by apply hJ;simpa using m3
   have Dx:ts=#[t,u]:=by apply hJ;simpa using aI
   have sd:o.op=.call { callee:=.builtin .append,args:=#[os,rI],argTypes:=#[t,u] }:=by rw[aD,Dw,Dx]
   cases ae:tU x with
   |none=>
    exfalso;unfold yh at sO;split at sO<;>first | (cases sO;done) | (simp[tU,yg]at ae;done)
   |some kn=>
    rw[ae]at h;by_cases ay:kn=0;·subst ay;exact anB aW ah sd px sO he ae es gs ex Bs h hm k
    ·exact anF aW ah sd px sO he ae ay es gs ex Bs h hm k
  ·cases h
 ·cases h
end
section
variable{X:dw}{G:GT}{pr:mG}{D:bS}{m m':bB}{F:Fr}{ak:bn ap}{C:dX}{I:a5}{M:List aF}{K:hb}{o:Oper}{v:ap}
def anH(aW:dm X.P X.E)(ah:∀ d,o.dst=some d->d<X.n)(aD:o.op=.call { callee:=.builtin .unsafeString,args:=args,argTypes:=ts })(h:Ss (et X G pr) m ts.toList (pd ak args.toList)=some (v,m'))
  (H:jW D F ak args.toList) (hm:dE (et X G pr) D m I M) (k:sY X G pr D m I M v m' o.dst F C K):bE X o F C I M K:=by
 unfold Ss at h;split at h
 ·rename_i vH it aI aE;cases h;obtain⟨op,on,m3,U,aa⟩:=M5 aE;obtain⟨wO,aC,a3⟩:=H.bU (x:=op) (by rw[m3];simp) U;obtain⟨sX,aA,a6⟩:=H.bU (x:=on) (by rw[m3];simp) aa;have Dw:args=#[op,on]:=by apply hJ;simpa using m3
  have Dx:ts=#[vH,it]:=by apply hJ;simpa using aI
  have M6:wO=.pointer none:=by simpa only[a1]using a3
  subst M6;rw[a6.int]at aA;refine bE.V6 (by rw[aD,Dw,Dx]) ah aC aA (k D _ M bS.p1 ?_ hm);simp only[a1];rfl
 ·rename_i vH it id n aI aE;split at h
  ·rename_i sa tW sz e cs T ga Lu aB;obtain⟨aP,he,ec⟩:=df h;obtain⟨ag,eX⟩:=hG ec;simp only[ct]at ag;obtain⟨op,on,m3,U,aa⟩:=M5 aE;obtain⟨wO,aC,a3⟩:=H.bU (x:=op) (by rw[m3];simp) U;obtain⟨sX,aA,a6⟩:=H.bU (x:=on) (by rw[m3];simp) aa;have Dw:args=#[op,on]:=by apply hJ;simpa using m3
   have Dx:ts=#[vH,it]:=by apply hJ;simpa using aI
   rw[a6.int]at aA;obtain⟨a,aH,rfl⟩:=a3.ptr;have qV:=hm.jH _ _ _ aB aH;obtain⟨arr,z1,a2,cI,aJ,ae,k2⟩:=qV;have Ja:=cj ag.2.1;subst Ja;unfold yf at eX;simp only[aB]at eX;cases S4:Nat.ble (Nat.add 0 n) ga with
   |false=>rw[S4]at eX;cases eX| true=>
   rw[S4]at eX;simp only[a4]at eX;have n7:0+n<=ga:=bP S4;obtain⟨l,fm,fj,dk⟩:=bn.FL cs n 0 _ _ eX;obtain⟨c1,pF,qn⟩:=df dk;obtain⟨Pk,Je⟩:=hG qn;obtain⟨t1,aN,bq⟩:=bn.pY (none:Option gn) m.t id;rw[aN]at Je;cases Je;have EA:(arr.toList.take n).length=n:=by rw[mV,Av];omega
   have anI:b0 D l (arr.toList.take n):=b0.SH (by rw[EA,fm]) λi v hi=>by
    have jc:i<n:=by rw[<-fm];exact(kG.1 hi).1
    obtain⟨x,bN,gP⟩:=aJ i v (by omega) (by have:=fj i jc;rw[dp]at this;rw[this,hi]);rw[z1,dp]at bN;exact⟨x,by rw[mM,cF jc];simpa using bN,gP⟩
   have jx:=SY pF anI;have q5:c1.length=n:=by have:=congrArg List.length jx;rw[EA]at this;simpa using this.symm
   obtain⟨bi,post,bL⟩:=wI a2;have lh:M.Perm (⟨a.b,.cells arr T (0,0)⟩::(bi++post)):=by rw[bL];exact rn
   have lS:arr.toList.take c1.length=c1.map λb=>Value.int .u8 b.toNat:=by rw[q5];exact jx
   have ay:c1≠[]:=λa'=>by subst a';have:0<n:=bP ag.2.2;simp at q5;omega
   have dO:bU F op=.val (.pointer (some ⟨a.b,0,none⟩)):=by rw[aC,z1]
   have eZ:bU F on=.val (.int .i64 c1.length):=by rw[aA,q5];rfl
   refine bE.Pj aW (by rw[aD,Dw,Dx]) ah Lu rfl he (cj ag.1) dO eZ ay (by rw[q5];exact bP Pk) lh lS ?_;have nF:∀ i fB,t1.get i=some fB->i≠id/\m.t.get i=some fB:=λi fB hi=>by
    rcases bq i fB hi with⟨_,eX⟩ | eX;·cases eX
    ·exact eX
   refine k D _ _ bS.p1 (by simp only[a1]) ⟨λi fB b hi jN=>?_,λi hV fB Bt b h2 hi dx=>hm.inj i hV fB Bt b h2 (nF i fB hi).2 (nF hV Bt dx).2,hm.kB,hm.rM⟩;refine(hm.jH i fB b (nF i fB hi).2 jN).mono (bS.le_refl D) λq aL az=>?_;rcases eu.1 (lh.mem_iff.1 aL)with rfl | aL;·exact((nF i fB hi).1 (hm.inj _ _ _ _ _ _ (nF i fB hi).2 aB jN aH az.symm)).elim
   ·exact aL
  ·cases h
 ·cases h
def anJ(aW:dm X.P X.E)(ah:∀ d,o.dst=some d->d<X.n){v:ap}(aD:o.op=.slice t x (some lo) (some hi) (some mx))(h:Sk X.E t (dG ak x) (dG ak lo) (dG ak hi) (dG ak mx)=some v)
  (H:jW D F ak o.op.operands.toList) (hm:dE (et X G pr) D m I M) (k:∀ x,gV D x v->K (put o.dst x F) C I M):bE X o F C I M K:=by
 unfold Sk at h;split at h
 ·rename_i sz jh z e id off n c eJ l c3 bg gr fS aI ab dg fT k2;obtain⟨aP,he,ec⟩:=df h;obtain⟨ag,eX⟩:=hG ec;simp only[ct]at ag;obtain⟨b1,ch,b9,cK⟩:=ag;cases eX;have b1:=bP b1;have ch:=bP ch;have b9:=bP b9;have cK:l+1<=fS:=bP cK;obtain⟨Qv,b',Bu⟩:=H.bU (x:=x) (by rw[aD];simp[Op.operands]) ab;obtain⟨wO,aC,a3⟩:=H.bU (x:=lo) (by rw[aD];simp[Op.operands]) dg;obtain⟨sX,aA,a6⟩:=H.bU (x:=hi) (by rw[aD];simp[Op.operands]) fT;obtain⟨z0,bx,bN⟩:=H.bU (x:=mx) (by rw[aD];simp[Op.operands]) k2;rw[a3.int]at aC;rw[a6.int]at aA;rw[bN.int]at bx;simp only[a1]at Bu;obtain⟨a,aH,rfl⟩:=Bu;refine bE.slice3 aW aD ah aI rfl he l bg fS b' aC aA bx b1 ch b9 (k _ (.val ?_));simp only[a1];refine⟨a,aH,?_⟩;rw[b8 (by omega),mc,dY _ rfl];simp only[Be,Fu,Fv,p9]
 ·cases h
def anK(aW:dm X.P X.E)(ah:∀ d,o.dst=some d->d<X.n){v:ap}(aD:o.op=.slice t x none (some hi) (some mx))(h:Sj X.E t (dG ak x) (dG ak hi) (dG ak mx)=some v)
  (H:jW D F ak o.op.operands.toList) (hm:dE (et X G pr) D m I M) (k:∀ x,gV D x v->K (put o.dst x F) C I M):bE X o F C I M K:=by
 unfold Sj at h;split at h
 ·rename_i sz jh z e id off n c c3 bg gr fS aI ab fT k2;obtain⟨aP,he,ec⟩:=df h;obtain⟨ag,eX⟩:=hG ec;simp only[ct]at ag;obtain⟨ch,b9,cK⟩:=ag;cases eX;have ch:=bP ch;have b9:=bP b9;have cK:0+1<=fS:=bP cK;obtain⟨Qv,b',Bu⟩:=H.bU (x:=x) (by rw[aD];simp[Op.operands]) ab;obtain⟨sX,aA,a6⟩:=H.bU (x:=hi) (by rw[aD];simp[Op.operands]) fT;obtain⟨z0,bx,bN⟩:=H.bU (x:=mx) (by rw[aD];simp[Op.operands]) k2;rw[a6.int]at aA;rw[bN.int]at bx;simp only[a1]at Bu;obtain⟨a,aH,rfl⟩:=Bu;refine bE.ZB aW aD ah aI rfl he bg fS b' aA bx ch b9 (k _ (.val ?_));simp only[a1];refine⟨a,aH,?_⟩;rw[b8 (by omega),mc,dY _ rfl];simp
 ·rename_i sz jh z e id off aA n c3 bg gr fS aI ab fT k2;obtain⟨aP,he,ec⟩:=df h;obtain⟨ag,eX⟩:=hG ec;simp only[ct]at ag;obtain⟨ch,b9,cK⟩:=ag;cases eX;have ch:=bP ch;have b9:=bP b9;have cK:0+1<=fS:=bP cK;obtain⟨Qv,b',Bu⟩:=H.bU (x:=x) (by rw[aD];simp[Op.operands]) ab;obtain⟨sX,aA,a6⟩:=H.bU (x:=hi) (by rw[aD];simp[Op.operands]) fT;obtain⟨z0,bx,bN⟩:=H.bU (x:=mx) (by rw[aD];simp[Op.operands]) k2;rw[a6.int]at aA;rw[bN.int]at bx;simp only[a1]at Bu;obtain⟨a,aH,bz,rfl⟩:=Bu;refine bE.ZB aW aD ah aI rfl he bg fS b' aA bx ch (by omega) (k _ (.val ?_));simp only[a1];refine⟨a,aH,?_⟩;rw[b8 (by omega),mc,dY _ rfl];simp
 ·cases h
def anL(ah:∀ d,o.dst=some d->d<X.n){v:ap}(aD:o.op=.unOp .xor t x)(h:Sl (dG ak x)=some v)(H:jW D F ak o.op.operands.toList)(k:∀ x,gV D x v->K (put o.dst x F) C I M):hL X o F C I M K:=by
 unfold Sl at h;split at h
 ·rename_i n ab;cases h;obtain⟨u,e,hu⟩:=H.bU (x:=x) (by rw[aD];simp[Op.operands]) ab;rw[hu.int]at e;have q:bE X o F C I M K:=bE.Hg aD ah e (k _ (.val (by simp only[a1])));obtain⟨dst,Dz,ty,pos,after,guard⟩:=o;simp only at aD;subst aD;exact q
 ·cases h
def anM(aD:o.op=.slice t x none (some hi) (some mx))(k:bE X o F C I M K):hL X o F C I M K:=by
 obtain⟨dst,Dz,ty,pos,after,guard⟩:=o;simp only at aD;subst aD;simp only[hL,cY];split<;>first | exact k | (rename_i e;cases e)
def anN(aD:o.op=.slice t x (some lo) (some hi) (some mx))(k:bE X o F C I M K):hL X o F C I M K:=by
 obtain⟨dst,Dz,ty,pos,after,guard⟩:=o;simp only at aD;subst aD;simp only[hL,cY];split<;>first | exact k | (rename_i e;cases e)
def abQ:Op->Bool
 | .makeMap .. | .lookup .. | .mapUpdate .. | .insert ..=>true| .call { callee:=.builtin .append,.. }=>true| .call { callee:=.builtin .copy,.. }=>true| .call { callee:=.builtin .unsafeString,.. }=>true| _=>false
def Bv{op:Op}(aD:o.op=op)(h:abQ op=true)(k:bE X o F C I M K):hL X o F C I M K:=by
 obtain⟨dst,Dz,ty,pos,after,guard⟩:=o;simp only at aD;subst aD;unfold abQ at h;split at h<;>first | exact k | cases h
def anO(aW:dm X.P X.E)(ah:∀ d,o.dst=some d->d<X.n)(h:St (et X G pr) m o ak=some (v,m'))(H:jW D F ak o.op.operands.toList)(hm:dE (et X G pr) D m I M)(k:sY X G pr D m I M v m' o.dst F C K):hL X o F C I M K:=by
 unfold St at h;split at h
 ·rename_i t x y aD;exact ank aD h H hm k
 ·rename_i t aD;exact Bv aD rfl (abE aW ah aD h (by simp) hm k)
 ·rename_i t x aD;split at h
  ·rename_i fS n ab;refine Bv aD rfl (abE aW ah aD h (λy aT=>?_) hm k);cases aT;obtain⟨u,aC,a3⟩:=H.bU (x:=x) (by rw[aD];simp[Op.operands]) ab;rw[a3.int]at aC;exact⟨_,_,aC⟩
  ·cases h
 ·rename_i t x y ok aD;exact Bv aD rfl (anm aW ah aD h H hm k)
 ·rename_i t x y z aD;exact Bv aD rfl (abG aW (.inl aD) h H hm k)
 ·rename_i t x y z aD;exact Bv aD rfl (abG aW (.inr aD) h H hm k)
 ·rename_i s d x aD;have S5:=ano aW ah aD h H hm k;obtain⟨dst,Dz,ty,pos,after,guard⟩:=o;simp only at aD;subst aD;have nI:∃ a b z,X.E d=some ⟨a,b,z,.string⟩:=by
   unfold MK at h;split at h;·exact⟨_,_,_,by assumption⟩
   ·exact⟨_,_,_,by assumption⟩
   ·exact⟨_,_,_,by assumption⟩
   ·cases h
  obtain⟨a,b,z,nI⟩:=nI;simp only[hL,cY,nI];split;·rename_i e _;cases e
  ·exact S5
 ·rename_i b args ts aD;have S6:jW D F ak args.toList:=by rw[aD]at H;simpa[Op.operands,Call.operands]using H
  unfold aa4 at h;split at h;·exact Bv aD rfl (anG aW ah aD h S6 hm k)
  ·exact Bv aD rfl (anp aW ah aD h S6 hm k)
  ·exact Bv aD rfl (anH aW ah aD h S6 hm k)
  ·cases h
 ·cases h
end
def Jf(Y:hF)(call:ap->List ap->bB->Option (ap×bB)):Prop:=∀ f l m v m',call f l m=some (v,m')->∀ (D:bS) (I:a5) (M:List aF) (u:Value) (us:List Value),a1 D f u->b0 D l us->dE Y D m I M -> (∃ g cT cs,u=.func (.func g) cT cs/\Spec Y.P g (cT.toList++us++cs.toList) I M λr I' M'=>∃ bH,D.ext bH m.n/\a1 bH v r/\dE Y bH m' I' M') \/ ∃ q,u=.func (.yield q) #[] #[]/\G5 Y.P q us I M λr I' M'=>∃ bH,D.ext bH m.n/\a1 bH v r/\dE Y bH m' I' M'
def wQ(dst:Option Nat)(v:ap)(D:bS)(F eV:Fr):Prop:=(∀ d,dst=some d->gV D (eV d) v)/\∀ (D:bS) t nK,dst≠some t->gV D (F t) nK->gV D (eV t) nK
def wQ.put{v:ap}{D:bS}{x:dW}(F:Fr)(h:gV D x v):wQ dst v D F (put dst x F):=by
 constructor
 ·rintro d rfl;simpa[Go.V.put,hr]using h
 ·intro D t nK bM h;cases dst with
  |none=>exact h| some d=>have:t≠d:=λe=>bM (by rw[e]);simp only[Go.V.put,hr,hW this,aQ];exact h
def Bp.v{u:Value}{eV:Fr}(h:Bp dst u F eV){D:bS}{v:ap}(aj:a1 D v u):wQ dst v D F eV:=⟨λd ah=>by rw[h.1 d ah];exact .val aj,h.2⟩
section
variable{X:dw}{G:GT}{pr:mG}{D:bS}{m m':bB}{F:Fr}{ak:bn ap}{C:dX}{I:a5}{M:List aF}{K:hb}{o:Oper}{v:ap}
def M7(X:dw)(G:GT)(pr:mG)(o:Oper)(ak:bn ap)(m:bB)(v:ap)(m':bB):Prop:=m.n<=m'.n/\∀ (D:bS) (F:Fr) (C:dX) (I:a5) (M:List aF) (K:hb),jW D F ak o.op.operands.toList->dE (et X G pr) D m I M -> (∀ bH eV C' I' M',D.ext bH m.n->wQ o.dst v bH F eV->dE (et X G pr) bH m' I' M'->K eV C' I' M')->hL X o F C I M K
def anP{op:Op}(aD:o.op=op)(ae:l5 X.E op=0)(h:cY X op (dN F) C I M (λx=>K (put o.dst x F) C I M) (bE X o F C I M K)):hL X o F C I M K:=by
 obtain⟨dst,Dz,ty,pos,after,guard⟩:=o;simp only at aD;subst aD;cases Dz with
 |call c=>
  obtain⟨callee,args,ts⟩:=c;cases callee with
  |value f=>simp[l5]at ae| invoke r n=>exact h| builtin b=>exact h
 |alloc t=>simp[l5]at ae| box t x=>simp[l5]at ae| store t x y=>simp[l5]at ae| buildSlice t l ps=>simp[l5]at ae| makeSlice t l c=>simp[l5]at ae| _=>exact h
def abR(aW:dm X.P X.E)(ah:∀ d,o.dst=some d->d<X.n){v:ap}(ae:l5 X.E o.op=0)(h:wK X.P X.E G m.t o.op ak=some v)(H:jW D F ak o.op.operands.toList)(hm:dE (et X G pr) D m I M)
  (k:∀ x,gV D x v->K (put o.dst x F) C I M):hL X o F C I M K:=by
 unfold wK at h;split at h
 ·rename_i t x aD;exact anL ah aD h H k
 ·rename_i t x lo hi mx aD;exact anN aD (anJ aW ah aD h H hm k)
 ·rename_i t x hi mx aD;exact anM aD (anK aW ah aD h H hm k)
 ·exact anP rfl ae (am6 aW h H hm k)
def S7{K:bn ap->Option R}{r:R}(h:qK dst ak v K=some r):∃ dq,K dq=some r/\(dst=none->dq=ak)/\∀ d,dst=some d->∀ t w,dq.get t=some w->(t=d/\w=v)\/(t≠d/\ak.get t=some w):=by
 unfold qK at h;cases dst with
 |none=>exact⟨ak,h,λ_=>rfl,λd ah=>by cases ah⟩
 |some d=>
  have bg:(Sm v λv=>ak.oC (some v) d K)=some r:=h;rw[amB]at bg;obtain⟨dq,U,aa⟩:=bn.pY (some v) ak d;rw[U]at bg;refine⟨dq,bg,(λe=>by cases e),λzq ah t w hw=>?_⟩;cases ah;rcases aa t w hw with⟨aC,aA⟩ | ⟨aC,aA⟩;·exact .inl ⟨aC,(pZ aA).symm⟩
  ·exact .inr ⟨aC,aA⟩
def abS(aW:dm X.P X.E)(k6:∀ d,d<X.n->X.hs.contains d=true)(ah:∀ d,o.dst=some d->d<X.n){call:ap->List ap->bB->Option (ap×bB)}(nB:Jf (et X G pr) call){K:bn ap->bB->Option R}{r:R}
  (h:Bh (et X G pr) call o ak m K=some r):∃ v m' dq,M7 X G pr o ak m v m'/\(qK o.dst ak v λak=>K ak m')=some r/\K dq m'=some r/\(o.dst=none->dq=ak)/\∀ d,o.dst=some d->∀ t w,dq.get t=some w->(t=d/\w=v)\/(t≠d/\ak.get t=some w):=by
 have fin:∀ {v:ap} {m':bB},M7 X G pr o ak m v m'->(qK o.dst ak v λak=>K ak m')=some r->∃ v m' dq,M7 X G pr o ak m v m'/\(qK o.dst ak v λak=>K ak m')=some r/\K dq m'=some r/\(o.dst=none->dq=ak)/\∀ d,o.dst=some d->∀ t w,dq.get t=some w->(t=d/\w=v)\/(t≠d/\ak.get t=some w):=fun {v m'} aJ aK=>by obtain⟨dq,U,aa,af⟩:=S7 aK;exact⟨v,m',dq,aJ,aK,U,aa,af⟩
 unfold Bh at h;split at h
 ·
  rename_i f args ts aD;unfold aa5 at h;obtain⟨anQ,ar,h⟩:=df h;obtain⟨l,aE,h⟩:=df h;obtain⟨⟨v,m'⟩,aJ,h⟩:=df h;obtain⟨az,h⟩:=hG h;refine fin ⟨bP az,λD F C I M K tX hm ae=>?_⟩ h;rw[aD]at tX;obtain⟨u,aC,a3⟩:=tX.bU (x:=f) (by simp[Op.operands,Call.operands]) ar;obtain⟨us,aA,a6⟩:=tX.nh (l:=args.toList) (by intro y aT;simp[Op.operands,Call.operands];exact .inr (by simpa using aT)) aE;obtain⟨dst,Dz,ty,pos,after,guard⟩:=o;simp only at aD;subst aD;rcases nB _ _ _ _ _ aJ D I M u us a3 a6 hm with⟨g,cT,cs,rfl,ax⟩ | ⟨q,rfl,ax⟩
  ·simp only[hL,aC,aA];exact a9.whole _ ax λr I' M' bX ab=>by obtain⟨bH,U,aa,af⟩:=ab;exact ae bH _ C I' M' U (.put F (.val aa)) af
  ·simp only[hL,aC,aA];refine bE.yield rfl ah aC aA ⟨M,[],_,by simp,ax,λr I' M' bX ab=>?_⟩;obtain⟨bH,U,aa,af⟩:=ab;rw[eo];exact ae bH _ C I' M' U (.put F (.val aa)) af
 ·rename_i op eb;unfold aa9 at h;split at h
  ·rename_i e3;unfold aa7 at h;obtain⟨v,aj,h⟩:=df h;refine fin ⟨b2 _,λD F C I M K tX hm ae=>?_⟩ h;exact abR aW ah e3 aj tX hm λx ab=>ae D _ C I M bS.p1 (.put F ab) hm
  ·unfold aa6 at h;obtain⟨d,gd,h⟩:=df h;obtain⟨⟨l,T,c,mk⟩,aH,h⟩:=df h;obtain⟨m2,aa,az,af⟩:=SU (Y:=et X G pr) h;refine fin (v:=mk m.n) (m':=m2) ⟨by omega,λD F C I M K tX hm ae=>?_⟩ (by rw[gd];exact aa);refine abw aW k6 ah aH (by rw[gd];rfl) tX λb vs u eV C' bX ar jx cg aJ hu S8=>?_;have aN:=af (vs:=vs) [] (b:=b) (c:=c) hm ar jx (by simpa using cg) aJ;rw[eo]at aN;exact ae _ eV C' I _ bS.FQ (S8.v (hu _ _ (bS.qM _ _ _))) aN
  ·unfold aa8 at h;obtain⟨⟨v,m'⟩,ab,h⟩:=df h;obtain⟨az,h⟩:=hG h;refine fin ⟨bP az,λD F C I M K tX hm ae=>?_⟩ h;exact anO aW ah ab tX hm λbH u M' U aa af=>ae bH _ C I M' U (.put F (.val aa)) af
end
end Go.V
