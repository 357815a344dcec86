/- Part 1 of what the proofs of this seat share: the executor, data in memory, walks.
-/
import Derived.WalkKit
import Derived.RangeFuncRecord
import Derived.OrdersIn
import Derived.Lib.UnsafeStr
set_option linter.all false
namespace Go.V
open Go
def bK:=@Nat.le_of_ble_eq_true
def bY:=@Result.andThen_ok
def cw:=@Bool.and_eq_true
def dJ:=@Nat.eq_of_beq_eq_true
def c5:=@of_decide_eq_true
def cC:=@List.mem_append
def ca:=@List.map_cons
def cS:=@List.map_append
def gH:=@List.take_succ_eq_append_getElem
def fi:=@List.drop_eq_getElem_cons
def cu:=@Sem.run_bind
def b2:=@Nat.le_refl
def eo:=@List.length_cons
def c0:=@List.mem_map
def cb:=@cond_false
def c7:=@Sem.run_pure
def cp:=@cond_true
def iz:=@List.getElem?_eq_some_iff
def eA:=@List.mem_cons
def fV:=@List.all_eq_true
def gN:=@Int.toNat_natCast
def k8:=@Array.getElem?_eq_some_iff
def hS:=@decide_eq_true_eq
def bP:=@if_neg
def bT:=@if_pos
def ju:=@List.getElem?_map
def pB:=@Array.getD_eq_getD_getElem?
def nv:=@World.putObj_heap_other
def k9:=@List.getElem?_take
def k':=@Bool.false_eq_true
def kJ:=@Option.some.injEq
def kK:=@Option.getD_some
def kl:=@List.foldl_cons
def j0:=@List.mem_range
def nw:=@List.getElem?_drop
def lb:=@Option.map_some
def gX:=@Array.ext'
def ja:=@Nat.le_trans
def qn:=@Nat.mul_le_mul_right
def mg:=@List.nodup_cons
def ti:=@Option.map_eq_some_iff
def pC:=@Nat.min_eq_left
def uG:=@List.nodup_append
def DD:=@Array.getElem?_setIfInBounds
def pD:=@Nat.add_zero
def tj:=@Bool.eq_iff_iff
def uH:=@Option.getD_none
def uI:=@Option.map_none
def tk:=@Oper.wpIn_mono
def tl:=@Nat.add_assoc
def mh:=@if_false
def DE:=@List.range_eq_range'
def Gt:=@List.getElem?_cons_succ
def we:=@ByteArray.ext
def Kr:=@Option.ne_none_iff_exists'
def Bo:=@Nat.lt_succ_self
def xN:=@List.all_cons
def Bp:=@World.alloc_eq
def Ks:=@ByteArray.data_extract
def OD:=@Array.getElem?_eq_getElem
def DF:=@List.nodup_nil
def Kt:=@Nat.lt_of_lt_of_le
def Gu:=@List.mapM_cons
def su:=@Ne.symm
def sv:=@if_true
def OE:=@List.toList_toArray
def Gv:=@Nat.add_comm
def OF:=@Array.foldl_toList
def OG:=@Option.isSome_none
def VN:=@Array.mapM_eq_mapM_toList
def Ku:=@Oper.semAt_eq
def OH:=@List.range'_succ
def Kv:=@Nat.succ_mul
variable{a:Act}{c:Code}{foot:List Nat}{P:Program}{f off T sz hT e n m gd cN ej ek hj ld mi nx oA qo sw uJ xO Bq Gw:Nat}{args vs z:List Value}{v:Value}{w' w:World}{cs:Array Value}{an:Nat×Nat}{R:Ending->World->Prop}{next:Act->World->Prop}{aP:Addr}{gq:IntKind}{ops:Array Oper}{fn:Func}
inductive Gx where
 |other | int (k:IntKind) | bool | string | slice (e:Nat) | array (n e:Nat) | struct (cO:List (Nat×Nat)) | map (k e:Nat) | pointer (e:Nat)
 deriving DecidableEq
def fs:TypeDesc->Gx
 | .int k=>.int k| .bool=>.bool| .string=>.string| .slice e=>.slice e| .array n e=>.array n e| .struct cO=>.struct (cO.toList.map λf=>(f.type,f.offset))| .map k e=>.map k e| .pointer e=>.pointer e| _=>.other
def Gx.agg:Gx->Bool
 | .struct _ | .array ..=>true| _=>false
structure dR where
 size:Nat
 bytes:Nat
 zero:List Value
 bQ:Gx
structure km(P:Program)(t:Nat)(i:dR):Prop where
 inf:∃ inf z,P.info? t=some inf/\inf.size=i.size/\inf.bytes=i.bytes/\inf.zero=some z/\z.cells.toList=i.zero
 ft:∃ d,P.underlying t=some d/\fs d=i.bQ
 one:∀ v∈i.zero,v.oneCell'=true
 len:i.zero.length=i.size
 Kw:i.bQ.agg=false->i.size=1
abbrev Env:=Nat->Option dR
def cX(P:Program)(E:Env):Prop:=∀ t i,E t=some i->km P t i
inductive dH where
 |val(v:Value)| lit (b:Bool)| ref (s off:Nat)| ny
abbrev Fr:=Nat->dH
abbrev dO:=Nat->Option (List Value)
abbrev aJ:=Nat->Option Obj
structure aF where
 num:Nat
 obj:Obj
abbrev gr:=Fr->dO->aJ->List aF->Prop
def gY(F:Fr)(d:Nat)(x:dH):Fr:=λt=>bif Nat.beq t d then x else F t
def jv(C:dO)(d:Nat)(x:Option (List Value)):dO:=λt=>bif Nat.beq t d then x else C t
def qp(F:Fr)(d:Nat):Fr:=λt=>match F t with
 | .ref s o=>bif Nat.beq s d then .ny else .ref s o| x=>x
def put(o:Option Nat)(x:dH)(F:Fr):Fr:=match o with
 |some d=>gY F d x| none=>F
def dn(F:Fr):Operand->dH
 | .tmp t=>F t| .const (.bool b)=>.lit b| .const v=>.val v| .global g=>.val (.pointer (some ⟨g,0,none⟩))| .func f=>.val (.func (.func f) #[] #[])
def dB(ρ:Operand->dH)(x:Operand):dH:=match ρ x with
 | .lit b=>.val (.bool b)| y=>y
abbrev bH(F:Fr):Operand->dH:=dB (dn F)
def pack(agg:Bool)(vs:List Value):Value:=bif agg then .agg vs.toArray else vs.headD undef
def cq(cs:List Value)(off:Nat)(vs:List Value):List Value:=cs.take off++vs++cs.drop (off+vs.length)
def fJ(vs:List Value):Bool:=vs.all (·.oneCell')
def Kx(c:Bool):dH->dH->dH
 | .val (.bool x),.val (.bool y)=>.val (.bool (bif c then x else y))| .val x,.val y=>.val (bif c then x else y)| _,_=>.ny
def xP(op:BinOp)(x y:Int):Option Bool:=match op with
 | .eql=>some (decide (x=y))| .neq=>some (!decide (x=y))| .lss=>some (decide (x<y))| .leq=>some (decide (x<=y))| .gtr=>some (decide (y<x))| .geq=>some (decide (y<=x))| _=>none
def uK(op:BinOp)(k:IntKind)(x y:Int):Option Int:=
 let a:=BitVec.ofInt k.bits x
 let b:=BitVec.ofInt k.bits y
 match op with
 | .and=>some (k.wrap (a &&& b).toNat)| .or=>some (k.wrap (a ||| b).toNat)| .xor=>some (k.wrap (a ^^^ b).toNat)| .andNot=>some (k.wrap (a &&& ~~~b).toNat)| _=>none
def ih(I:aJ)(M:List aF)(b:Nat)(o:Obj):Prop:=I b=some o\/∃ x∈M,x.num=b/\x.obj=o
def cY(I:aJ)(M:List aF)(a:Addr)(n:Nat)(vs:List Value):Prop:=
 a.spot=none/\∃ cs T an,ih I M a.block (.cells cs T an)/\(cs.toList.drop a.off).take n=vs/\vs.length=n
inductive aV(I:aJ)(M:List aF)(a:Addr)(n:Nat)(K:List Value->Prop):Prop
 |mk(vs:List Value)(h:cY I M a n vs)(k:K vs)
inductive cd(M:List aF)(a:Addr)(vs:List Value)(K:List aF->Prop):Prop
 |mk(a9 post:List aF)(cs:Array Value)(T:Nat)(bb:M=a9++⟨a.block,.cells cs T (0,0)⟩::post)(av:a.spot=none)(ag:a.off+vs.length<=cs.size)(aa:fJ vs=true)(k:K (a9++⟨a.block,.cells (cq cs.toList a.off vs).toArray T (0,0)⟩::post))
inductive bZ(I:aJ)(M:List aF)(K:Nat->Prop):Prop
 |mk(k:∀ b,I b=none->(∀ x∈M,x.num≠b)->K b)
inductive bA(a:Option Addr)(n sz:Nat)(k:Int)(K:Addr->Prop):Prop
 |mk(aP:Addr)(j:Nat)(a6:a=some aP)(ae:k=(j:Int))(ak:j<n)(h:K (aP.add (j*sz)))
inductive cA(n:Nat)(k:Int)(K:Nat->Prop):Prop
 |mk(j:Nat)(ae:k=(j:Int))(ak:j<n)(h:K j)
inductive tm(s:ByteArray)(k:Int)(K:UInt8->Prop):Prop
 |mk(j:Nat)(ae:k=(j:Int))(ak:j<s.size)(h:K s[j])
inductive be(k:IntKind)(n:Int)(K:Int->Prop):Prop
 |mk(r:Int)(h:k.wrap n=r)(bj:K r)
inductive uL(y:Int)(K:Prop):Prop
 |mk(h:y≠0)(bj:K)
inductive sy(y:Int)(K:Nat->Prop):Prop
 |mk(j:Nat)(h:y=(j:Int))(bj:K j)
inductive a5(c:Bool)(X Y:Prop):Prop
 |mk(h:c=true->X)(bj:c=false->Y)
inductive pE(l c:Int)(bytes:Nat)(K:Nat->Nat->Prop):Prop
 |mk(n m:Nat)(aA:l=(n:Int))(ao:c=(m:Int))(h:n<=m)(ag:bytes*m<=140737488355328)(hm:m<=9223372036854775807)(k:K n m)
inductive OI(c:Nat)(hi mx:Int)(K:Nat->Nat->Prop):Prop
 |mk(h m:Nat)(gI:hi=(h:Int))(iA:mx=(m:Int))(aa:h<=m)(ab:m<=c)(k:K h m)
inductive lf(n c:Nat)(lo hi:Option Int)(K:Nat->Nat->Prop):Prop
 |mk(l h:Nat)(eZ:lo.getD 0=(l:Int))(gI:hi.getD n=(h:Int))(aa:l<=h)(ab:h<=c)(k:K l h)
structure eN(I:aJ)(M:List aF)(w:World):Prop where
 i:∀ b o,I b=some o->w.heap[b]?=some o
 m:∀ x∈M,w.heap[x.num]?=some x.obj
 d:∀ x∈M,I x.num=none
 bX:(M.map (·.num)).Nodup
def oB(w w':World):Prop:=w'.os=w.os/\w'.output=w.output
def oB.refl(w:World):oB w w:=⟨rfl,rfl⟩
def oB.trans{a b c:World}(h:oB a b)(bj:oB b c):oB a c:=⟨bj.1.trans h.1,bj.2.trans h.2⟩
structure Kept(I:aJ)(M:List aF)(w:World)(I':aJ)(M':List aF)(w':World):Prop where
 le:∀ b o,I b=some o->I' b=some o
 uM:∀ b o,I' b=some o->I b=some o\/w.heap.size<=b
 wg:∀ x∈M',(∃ y∈M,y.num=x.num)\/w.heap.size<=x.num
 dK:∀ b,b<w.heap.size->(∀ y∈M,y.num≠b)->w'.heap[b]?=w.heap[b]?
 out:oB w w'
 sz:w.heap.size<=w'.heap.size
def OJ(P:Program)(f:Nat):Prop:=∀ (args:Array Value) (w:World),(callFunc f args).run P w=.ok (.enter f args) w
def wh(P:Program)(f:Nat)(args:List Value)(I:aJ)(M:List aF)(post:Value->aJ->List aF->Prop):Prop:=
 OJ P f/\∀ w,eN I M w->Calls P f args.toArray w λe w'=>∃ v I' M',e=.returned v/\post v I' M'/\eN I' M' w'/\Kept I M w I' M' w'
def ahw(P:Program)(f:Nat)(args:List Value)(I:aJ)(M:List aF)(post:Value->aJ->List aF->Prop):Prop:=
 ∀ w,eN I M w->∃ v w' I' M',(callFunc f args.toArray).run P w=.ok (.value v) w'/\post v I' M'/\eN I' M' w'/\Kept I M w I' M' w'
def Spec(P:Program)(f:Nat)(args:List Value)(I:aJ)(M:List aF)(post:Value->aJ->List aF->Prop):Prop:=wh P f args I M post\/ahw P f args I M post
def ins(I:aJ)(b:Nat)(o:Obj):aJ:=λx=>bif Nat.beq x b then some o else I x
inductive h6(foot:List Nat):aJ->List aF->aJ->List aF->Prop
 |refl{I M}:h6 foot I M I M| sub {I M M1 I' M'} (h:List.Sublist M1 M) (k:h6 foot I M1 I' M'):h6 foot I M I' M'| perm {I M M1 I' M'} (h:M.Perm M1) (k:h6 foot I M1 I' M'):h6 foot I M I' M'| n1 {I M I' M' b o post} (h:M=⟨b,o⟩::post) (aB:b ∉ foot) (k:h6 foot (ins I b o) post I' M'):h6 foot I M I' M'
structure mj(I:aJ)(M:List aF):Prop where
 d:∀ x∈M,I x.num=none
 bX:(M.map (·.num)).Nodup
inductive bc(foot:List Nat)(P:Program)(f:Nat)(args:List Value)(I:aJ)(M:List aF)(K:Value->aJ->List aF->Prop):Prop
 |mk(dW Mr:List aF)(post:Value->aJ->List aF->Prop)(bb:M.Perm (dW++Mr))(av:Spec P f args I dW post)(k:∀ v I' M',(∀ b o,I b=some o->I' b=some o)->post v I' M'->K v I' (M'++Mr))| DG (dW Mr:List aF) (post:Value->aJ->List aF->Prop) (bb:M.Perm (dW++Mr)) (av:Spec P f args I dW post) (k:∀ v I' M',(∀ b o,I b=some o->I' b=some o)->(∀ x∈M'++Mr,I' x.num=none)->post v I' M'->K v I' (M'++Mr))| zo (I1:aJ) (dW Mr:List aF) (post:Value->aJ->List aF->Prop) (hw:h6 foot I M I1 (dW++Mr)) (av:Spec P f args I1 dW post) (k:∀ v I' M',(∀ b o,I1 b=some o->I' b=some o)->(∀ x∈M'++Mr,I' x.num=none)->post v I' M'->K v I' (M'++Mr))| wi (h:mj I M->bc foot P f args I M K)
def bc.elim{I:aJ}{M:List aF}{K:Value->aJ->List aF->Prop}(eS:mj I M)(h:bc foot P f args I M K) :
  ∃ (I1:aJ) (dW Mr:List aF) (post:Value->aJ->List aF->Prop),h6 foot I M I1 (dW++Mr)/\Spec P f args I1 dW post/\∀ v I' M',(∀ b o,I1 b=some o->I' b=some o)->(∀ x∈M'++Mr,I' x.num=none)->post v I' M'->K v I' (M'++Mr):=by
 induction h with
 |mk dW Mr post bb av k=>exact⟨I,dW,Mr,post,.perm bb .refl,av,λv I' M' aa _ ab=>k v I' M' aa ab⟩| DG dW Mr post bb av k=>exact⟨I,dW,Mr,post,.perm bb .refl,av,k⟩| zo I1 dW Mr post hw av k=>exact⟨I1,dW,Mr,post,hw,av,k⟩| wi h aN=>exact aN eS
structure c1 where
 P:Program
 E:Env
 gJ:List Nat
 n:Nat
 B:Nat
 aw:World
 dS:aJ
 foot:List Nat
 ro:Option Nat
def g8(X:c1):Fence:={ Fence.wide with round:=X.ro }
def e5(β:Nat->Nat):dH->Value->Prop
 | .val v,u=>u=v| .lit b,u=>u=.bool b| .ref s off,u=>u=.pointer (some ⟨β s,off,none⟩)| .ny,_=>True
structure xQ(X:c1)(w:World)(I:aJ)(M:List aF)(b:Nat)(cs:List Value):Prop where
 aY:∃ T,w.heap[b]?=some (.cells cs.toArray T (0,0))
 bC:X.B<=b
 j1:I b=none
 e6:∀ x∈M,x.num≠b
structure wj(X:c1)(w:World)(I:aJ)(M:List aF)(r:Nat):Prop where
 aY:w.heap[r]?=some (.deferred (some []))
 bC:X.B<=r
 j1:I r=none
 e6:∀ x∈M,x.num≠r
def xR(r:Nat):Deferred:={ target:=.collected r,args:=#[] }
def Marks(X:c1)(a:Act)(w:World)(I:aJ)(M:List aF):Prop:=∃ ba:List Nat,a.defers=ba.map xR/\ba.Nodup/\∀ r∈ba,wj X w I M r
structure cL(X:c1)(β:Nat->Nat)(a:Act)(w:World)(F:Fr)(C:dO)(I:aJ)(M:List aF):Prop where
 size:a.tmps.size=X.n
 defers:Marks X a w I M
 holds:eN I M w
 an:∀ t,e5 β (F t) (a.tmps.getD t undef)
 cr:∀ s cs,C s=some cs->xQ X w I M (β s) cs
 inj:∀ s cn,C s≠none->C cn≠none->β s=β cn->s=cn
 ij:∀ b o,X.dS b=some o->I b=some o
 hU:∀ b o,I b=some o->X.dS b=some o\/X.B<=b
 own:∀ x∈M,x.num∈X.foot\/X.B<=x.num
 dK:∀ b,b<X.B->b ∉ X.foot->w.heap[b]?=X.aw.heap[b]?
 out:oB X.aw w
 sz:X.B<=w.heap.size
 fy:∀ x∈X.foot,x<X.B
def Rel(X:c1)(a:Act)(w:World)(F:Fr)(C:dO)(I:aJ)(M:List aF):Prop:=∃ β,cL X β a w F C I M
def Sat(X:c1)(K:gr)(a:Act)(w:World):Prop:=∃ F C I M,Rel X a w F C I M/\K F C I M
inductive bF(X:c1)(o:Oper)(F:Fr)(C:dO)(I:aJ)(M:List aF)(K:gr):Prop
 |mk(h:∀ a w Q,Rel X a w F C I M->o.wpIn (g8 X) 0 X.P a w (Sat X K) Q)
def j2(ρ:Operand->dH):List Operand->Option (List Value)
 |[]=>some []
 |x::xs=>match dB ρ x,j2 ρ xs with
  | .val v,some vs=>some (v::vs)| _,_=>none
abbrev mO(F:Fr):List Operand->Option (List Value):=j2 (dn F)
def tn(place:Nat->Option (Nat×Nat))(cells:List Value):List (Nat×Value)->Option (List Value)
 |[]=>some cells
 |(i,v)::bo=>match place i with
  |none=>none| some (off,size)=>bif Nat.beq v.cells.size size&&Nat.ble (off+size) cells.length then tn place (cq cells off v.cells.toList) bo else none
def to(ρ:Operand->dH):List (Nat×Operand)->Option (List (Nat×Value))
 |[]=>some []
 |(i,x)::xs=>match dB ρ x,to ρ xs with
  | .val v,some vs=>some ((i,v)::vs)| _,_=>none
abbrev Br(F:Fr):List (Nat×Operand)->Option (List (Nat×Value)):=to (dn F)
def places(E:Env)(cO:List (Nat×Nat))(i:Nat):Option (Nat×Nat):=match cO[i]? with
 |some (fy,off)=>match E fy with
  |some hv=>some (off,hv.size)| none=>none
 |none=>none
def DH(E:Env)(cO:List (Nat×Nat)):Bool:=cO.all λf=>(E f.1).isSome
def rowOf(zero:List Value)(n:Nat):List Value:=(List.range n).map λi=>zero[i%zero.length]!
def tp(zero:List Value)(n:Nat):rowOf zero n=(madeCells zero.toArray n).toList:=by simp[rowOf,madeCells]
def IntKind.lP:IntKind->IntKind->Bool
 | .i8,.i8 | .i16,.i16 | .i32,.i32 | .i64,.i64 | .u8,.u8 | .u16,.u16 | .u32,.u32 | .u64,.u64=>true| _,_=>false
def lQ(op:BinOp)(c6:Option dR)(x y:dH)(K:Value->Prop)(other:Prop):Prop:=
 match x,y with
 | .val (.int k a),.val (.int fu b)=>
  match op with
  | .shl=>sy b λj=>be k (a*2^(min j k.bits)) λr=>K (.int k r)
  | .shr=>sy b λj=>K (.int k (a.fdiv (2^(min j k.bits))))
  |op=>bif IntKind.lP k fu then
    (match op with
    | .add=>be k (a+b) λr=>K (.int k r)
    | .sub=>be k (a-b) λr=>K (.int k r)
    | .mul=>be k (a*b) λr=>K (.int k r)
    | .quo=>uL b (be k (a.tdiv b) λr=>K (.int k r))| .rem=>uL b (K (.int k (a.tmod b)))
    | .and | .or | .xor | .andNot=>(match uK op k a b with
     |some r=>K (.int k r)| none=>False)
    |op=>(match xP op a b with
     |some r=>K (.bool r)| none=>False))
   else False
 | .val (.string a),.val (.string b)=>
  match op with
  | .eql=>K (.bool (decide (a=b)))| .neq=>K (.bool (!decide (a=b)))| _=>other
 | .val (.bool a),.val (.bool b)=>
  match c6 with
  |some { bQ:=.bool,.. }=>
   (match op with
   | .eql=>K (.bool (a == b))| .neq=>K (.bool (!(a == b)))| _=>other)
  |_=>other
 |_,_=>other
inductive fW(P:Program)(op:BinOp)(t:Nat)(x y:Operand)(p q:dH)(K:Value->Prop)(other:Prop):Prop
 |mk(lg fP v:Value)(aH:p=.val lg)(aM:q=.val fP)(h:∀ w,(do eqGuard op t x y lg fP;binOp op t lg fP:Sem Value).run P w=.ok v w)(k:K v)| other (h:other)
def cK(X:c1)(op:Op)(ρ:Operand->dH)(C:dO)(I:aJ)(M:List aF)(V:dH->Prop)(other:Prop):Prop:=
 match op with
 | .move x | .assign x=>V (ρ x)
 | .pick c a b=>
  match ρ c with
  | .lit c=>V (bif c then ρ a else ρ b)| .val (.bool c)=>V (Kx c (dB ρ a) (dB ρ b))| _=>False
 | .unOp op _ x=>
  match op,ρ x with
  | .not,.lit b=>V (.lit (!b))| .not,.val (.bool b)=>V (.val (.bool (!b)))| .neg,.val (.int k n)=>be k (0-n) λr=>V (.val (.int k r))
  |_,_=>other
 | .binOp op t x y _=>lQ op (X.E t) (dB ρ x) (dB ρ y) (λv=>V (.val v)) (fW X.P op t x y (dB ρ x) (dB ρ y) (λv=>V (.val v)) other)
 | .load t x=>
  match X.E t with
  |some i=>
   (match ρ x with
   | .ref s off=>
    (match C s with
    |some cs=>bif Nat.ble (off+i.size) cs.length then V (.val (pack i.bQ.agg ((cs.drop off).take i.size)))else False| none=>False)
   | .val (.pointer (some a))=>aV I M a i.size λvs=>V (.val (pack i.bQ.agg vs))
   |_=>False)
  |none=>False
 | .nilCheck x=>
  match ρ x with
  | .ref s off=>V (.ref s off)| .val (.pointer (some a))=>V (.val (.pointer (some a)))| _=>other
 | .fieldAddr t x i=>
  match X.E t with
  |some { bQ:=.struct cO,.. }=>
   (match cO[i]? with
   |some (fy,off)=>
    (match X.E fy,ρ x with
    |some hv,.ref s o'=>bif Nat.beq hv.size 0 then False else V (.ref s (o'+off))| some hv,.val (.pointer (some a))=>bif Nat.beq hv.size 0 then False else V (.val (.pointer (some (a.add off))))| _,_=>False)
   |none=>False)
  |_=>False
 | .field t x i=>
  match X.E t,dB ρ x with
  |some { bQ:=.struct cO,.. },.val (.agg cs)=>
   (match cO[i]? with
   |some (fy,off)=>
    (match X.E fy with
    |some hv=>bif Nat.ble (off+hv.size) cs.size then V (.val (pack hv.bQ.agg ((cs.toList.drop off).take hv.size)))else False| none=>False)
   |none=>False)
  |_,_=>False
 | .indexAddr t x i=>
  match X.E t,dB ρ i with
  |some { bQ:=.slice e,.. },.val (.int _ k)=>
   (match X.E e,dB ρ x with
   |some aG,.val (.slice a n _)=>bA a n aG.size k λaP=>V (.val (.pointer (some aP)))
   |_,_=>False)
  |some { bQ:=.array n e,.. },.val (.int _ k)=>
   (match X.E e,ρ x with
   |some aG,.ref s o'=>cA n k λj=>V (.ref s (o'+j*aG.size))
   |some aG,.val (.pointer (some a))=>cA n k λj=>V (.val (.pointer (some (a.add (j*aG.size)))))
   |_,_=>False)
  |_,_=>False
 | .index t x i=>
  match X.E t,dB ρ x,dB ρ i with
  |some { bQ:=.string,.. },.val (.string s),.val (.int _ k)=>tm s k λb=>V (.val (.int .u8 b.toNat))
  |some { bQ:=.array n e,.. },.val (.agg cs),.val (.int _ k)=>
   (match X.E e with
   |some aG=>bif Nat.beq (n*aG.size) cs.size then cA n k λj=>V (.val (pack aG.bQ.agg ((cs.toList.drop (j*aG.size)).take aG.size)))else False
   |none=>False)
  |_,_,_=>False
 | .build t parts=>
  match X.E t,to ρ parts.toList with
  |some i,some vs=>
   (match i.bQ with
   | .struct cO=>bif DH X.E cO then(match tn (places X.E cO) i.zero vs with
    |some cells=>V (.val (.agg cells.toArray))| none=>False)else False
   | .array _ e=>(match X.E e with
    |some aG=>(match tn (λj=>some (j*aG.size,aG.size)) i.zero vs with
     |some cells=>V (.val (.agg cells.toArray))| none=>False)
    |none=>False)
   |_=>False)
  |_,_=>False
 | .makeFunc fn first captured=>
  match j2 ρ first.toList,j2 ρ captured.toList with
  |some cO,some cs=>V (.val (.func fn cO.toArray cs.toArray))| _,_=>False
 | .slice t x lo hi mx=>
  match X.E t,dB ρ x,mx.map (dB ρ)with
  |some { bQ:=.slice e,.. },.val (.slice a n c),none=>
   (match X.E e,lo.map (dB ρ),hi.map (dB ρ)with
   |some aG,none,none=>V (.val (.slice a n c))| some aG,none,some (.val (.int _ h))=>lf n c none (some h) λ_ h=>V (.val (.slice a h c))
   |some aG,some (.val (.int _ l)),none=>lf n n (some l) none λl _=>V (.val (.slice (if c=l then a else a.map (·.add (l*aG.size))) (n-l) (c-l)))
   |some aG,some (.val (.int _ l)),some (.val (.int _ h))=>lf n c (some l) (some h) λl h=>V (.val (.slice (if c=l then a else a.map (·.add (l*aG.size))) (h-l) (c-l)))
   |_,_,_=>False)
  |some { bQ:=.string,.. },.val (.string s),none=>
   (match lo.map (dB ρ),hi.map (dB ρ)with
   |none,none=>V (.val (.string s))| none,some (.val (.int _ h))=>lf s.size s.size none (some h) λ_ h=>V (.val (.string (s.extract 0 h)))
   |some (.val (.int _ l)),none=>lf s.size s.size (some l) none λl _=>V (.val (.string (s.extract l s.size)))
   |some (.val (.int _ l)),some (.val (.int _ h))=>lf s.size s.size (some l) (some h) λl h=>V (.val (.string (s.extract l h)))
   |_,_=>False)
  |some { bQ:=.slice e,.. },.val (.slice a _ c),some (.val (.int _ m))=>
   (match X.E e,lo.map (dB ρ),hi.map (dB ρ)with
   |some aG,none,some (.val (.int _ h))=>OI c h m λh m=>V (.val (.slice (if m=0 then a else a.map (·.add (0*aG.size))) (h-0) (m-0)))
   |_,_,_=>other)
  |_,_,_=>other
 | .extract x i=>
  match dB ρ x with
  | .val (.tuple vs)=>(match vs.toList[i]? with
   |some v=>V (.val v)| none=>False)
  |_=>False
 | .convert s d x=>
  match X.E s,X.E d,dB ρ x with
  |some _,some { bQ:=.int k,.. },.val (.int _ n)=>be k n λr=>V (.val (.int k r))
  |_,_,_=>other
 | .call { callee:=.builtin .len,args,argTypes }=>
  match argTypes.toList,j2 ρ args.toList with
  |[t],some [v]=>
   (match X.E t,v with
   |some { bQ:=.slice _,.. },.slice _ n _=>V (.val (.int .i64 n))| some { bQ:=.string,.. },.string s=>V (.val (.int .i64 s.size))| some { bQ:=.array n _,.. },_=>V (.val (.int .i64 n))| _,_=>other)
  |_,_=>other
 | .call { callee:=.builtin .cap,args,argTypes }=>
  match argTypes.toList,j2 ρ args.toList with
  |[t],some [v]=>
   (match X.E t,v with
   |some { bQ:=.slice _,.. },.slice _ _ c=>V (.val (.int .i64 c))| _,_=>other)
  |_,_=>other
 | .call { callee:=.builtin .max,args,.. }=>
  match j2 ρ args.toList with
  |some [.int k a,.int _ b]=>V (.val (.int k (max a b)))| _=>other
 | .call { callee:=.builtin .min,args,.. }=>
  match j2 ρ args.toList with
  |some [.int k a,.int _ b]=>V (.val (.int k (min a b)))| _=>other
 | .call { callee:=.builtin .unsafeSliceData,args,.. }=>
  match j2 ρ args.toList with
  |some [.slice none _ _]=>V (.val (.pointer none))| some [.slice (some a) _ c]=>uL c (V (.val (.pointer (some a))))| _=>other
 |_=>other
def gZ(X:c1)(o:Oper)(F:Fr)(C:dO)(I:aJ)(M:List aF)(K:gr):Prop:=
 match o.op with
 | .box t x=>
  match o.dst,bH F x with
  |some d,.val v=>
   bif X.gJ.contains d then bZ I M λb=>K (gY (qp F d) d (.val (.pointer (some ⟨b,0,none⟩)))) (jv C d none) I (⟨b,.cells v.cells t (0,0)⟩::M)
   else K (gY (qp F d) d (.ref d 0)) (jv C d (some v.cells.toList)) I M
  |_,_=>False
 | .alloc t=>
  match o.dst,X.E t with
  |some d,some i=>
   bif X.gJ.contains d then bZ I M λb=>K (gY (qp F d) d (.val (.pointer (some ⟨b,0,none⟩)))) (jv C d none) I (⟨b,.cells i.zero.toArray t (0,0)⟩::M)
   else K (gY (qp F d) d (.ref d 0)) (jv C d (some i.zero)) I M
  |_,_=>False
 | .store t x y=>
  match o.dst,X.E t,bH F y with
  |none,some i,.val v=>
   (match dn F x with
   | .ref s off=>
    (match C s with
    |some cs=>bif Nat.ble (off+i.size) cs.length&&(Nat.beq v.cells.size i.size&&fJ v.cells.toList)then K F (jv C s (some (cq cs off v.cells.toList))) I M else False| none=>False)
   | .val (.pointer (some a))=>bif Nat.beq v.cells.size i.size then cd M a v.cells.toList λM'=>K F C I M' else False
   |_=>False)
  |_,_,_=>False
 | .buildSlice t len parts=>
  match X.E t,Br F parts.toList with
  |some { bQ:=.slice e,.. },some vs=>
   (match X.E e with
   |some aG=>
    bif Nat.ble (len*aG.size) 16777216&&Nat.blt 0 (len*aG.size)then
     (match tn (λj=>some (j*aG.size,aG.size)) (rowOf aG.zero (len*aG.size)) vs with
     |some cells=>bZ I M λb=>K (put o.dst (.val (.slice (some ⟨b,0,none⟩) len len)) F) C I (⟨b,.cells cells.toArray e (0,0)⟩::M)
     |none=>False)
    else(match len,vs with
     |0,[]=>bZ I M λb=>K (put o.dst (.val (.slice (some ⟨b,0,none⟩) 0 0)) F) C I (⟨b,.cells #[] e (0,0)⟩::M)
     |_,_=>False)
   |none=>False)
  |_,_=>False
 | .makeSlice t l c=>
  match X.E t,bH F l,bH F c with
  |some { bQ:=.slice e,.. },.val (.int _ l),.val (.int _ c)=>
   (match X.E e with
   |some aG=>pE l c aG.bytes λn m=>bZ I M λb=>K (put o.dst (.val (.slice (some ⟨b,0,none⟩) n m)) F) C I (⟨b,.cells (rowOf aG.zero (m*aG.size)).toArray e (0,0)⟩::M)
   |none=>False)
  |_,_,_=>False
 | .call { callee:=.value f,args,.. }=>
  match bH F f,mO F args.toList with
  | .val (.func (.func g) first cap),some vs=>bc X.foot X.P g (first.toList++vs++cap.toList) I M λv I' M'=>K (put o.dst (.val v) F) C I' M'
  |_,_=>bF X o F C I M K
 |op=>cK X op (dn F) C I M (λx=>K (put o.dst x F) C I M) (bF X o F C I M K)
inductive cT(c b:Bool)(Y N:Prop):Prop
 |mk(h:c=b->Y)(bj:c=!b->N)
def uN(X:c1)(ops:List Oper):List Oper->Fr->dO->aJ->List aF->gr->Prop
 |[],F,C,I,M,K=>K F C I M
 |o::bo,F,C,I,M,K=>
  match o.guard with
  |none=>gZ X o F C I M λF C I M=>uN X ops bo F C I M K
  |some (j,b)=>
   match(ops[j]?).bind (·.dst)with
   |none=>False
   |some d=>
    match F d with
    | .lit c=>bif c == b then gZ X o F C I M λF C I M=>uN X ops bo F C I M K else uN X ops bo (put o.dst (.val undef) F) C I M K
    | .val (.bool c)=>cT c b (gZ X o (gY F d (.lit b)) C I M λF C I M=>uN X ops bo F C I M K) (uN X ops bo (put o.dst (.val undef) (gY F d (.lit !b))) C I M K)| .val (.tuple _)=>uN X ops bo (put o.dst (.val undef) F) C I M K| _=>False
def hF{a b:Nat}(h:¬ a=b):Nat.beq a b=false:=by
 cases ag:Nat.beq a b with
 |false=>rfl| true=>exact absurd (dJ ag) h
def rj(a:Nat):Nat.beq a a=true:=Nat.beq_refl a
def Gy(w:World)(o:Obj){i:Nat}(h:i<w.heap.size):(w.alloc o).heap[i]?=w.heap[i]?:=by show(w.heap.push o)[i]?=_;simp[Array.getElem?_push,Nat.ne_of_lt h]
def OK(w:World)(o:Obj):(w.alloc o).heap[w.heap.size]?=some o:=by show(w.heap.push o)[w.heap.size]?=_;simp
section
variable{X:c1}{β:Nat->Nat}{a:Act}{w:World}{F:Fr}{C:dO}{I:aJ}{M:List aF}{o:Oper}{Q:Exit->Act->World->Prop}{next:Act->World->Prop}{K:gr}
def xS(h:∀ t,e5 β (F t) (a.tmps.getD t undef))(x:Operand):e5 β (dn F x) (a.eval x):=by
 cases x with
 |tmp t=>exact h t| const v=>cases v<;>exact rfl
 |global g=>exact rfl| func f=>exact rfl
def dh(h:∀ t,e5 β (F t) (a.tmps.getD t undef)){x:Operand}(ad:bH F x=.val v):a.eval x=v:=by
 have aa:=xS h x;unfold bH dB at ad;split at ad
 ·rename_i b ag;rw[ag]at aa;cases ad;exact aa
 ·rw[ad]at aa;exact aa
def uO(h:∀ t,e5 β (F t) (a.tmps.getD t undef)){x:Operand}(ad:dn F x=.val v):a.eval x=v:=by have aa:=xS h x;rw[ad]at aa;exact aa
def OL(h:∀ t,e5 β (F t) (a.tmps.getD t undef)){x:Operand}{b:Bool}(ad:dn F x=.lit b):a.eval x=.bool b:=by have aa:=xS h x;rw[ad]at aa;exact aa
def Bs(h:∀ t,e5 β (F t) (a.tmps.getD t undef)){x:Operand}{s:Nat}(ad:dn F x=.ref s off):a.eval x=.pointer (some ⟨β s,off,none⟩):=by have aa:=xS h x;rw[ad]at aa;exact aa
def VO(h:∀ t,e5 β (F t) (a.tmps.getD t undef))(x:Operand):e5 β (bH F x) (a.eval x):=by
 have aa:=xS h x;unfold bH dB;split
 ·rename_i b ag;rw[ag]at aa;exact aa
 ·exact aa
def tq(h:∀ t,e5 β (F t) (a.tmps.getD t undef)):∀ {xs:List Operand} {vs:List Value},mO F xs=some vs->xs.map a.eval=vs
 |[],vs,ad=>by simp[mO,j2]at ad;simp[ad]
 |x::xs,vs,ad=>by
  unfold mO j2 at ad;split at ad;·rename_i v tr aa ab;cases ad;simp[dh h aa,tq h ab]
  ·cases ad
def Ky(h:∀ t,e5 β (F t) (a.tmps.getD t undef)):∀ {xs:List (Nat×Operand)} {vs:List (Nat×Value)},Br F xs=some vs->(xs.map λ(i,x)=>(i,a.eval x))=vs
 |[],vs,ad=>by simp[Br,to]at ad;simp[ad]
 |(i,x)::xs,vs,ad=>by
  unfold Br to at ad;split at ad;·rename_i v tr aa ab;cases ad;simp[dh h aa,Ky h ab]
  ·cases ad
def iJ(bV:∀ c,o.op≠.defer c)(h:(execOp a.eval o).run X.P w=.ok (.value v) w')(ae:next (a.put o.dst v) w'):o.wpIn (g8 X) 0 X.P a w next Q:=
 ⟨λ_ _=>trivial,by rw[Ku _ _ _ bV,h];exact ae⟩
def DI(bV:∀ c,o.op≠.defer c)(h:(execOp a.eval o).run X.P w=.ok .skip w')(ae:next (a.put o.dst undef) w'):o.wpIn (g8 X) 0 X.P a w next Q:=
 ⟨λ_ _=>trivial,by rw[Ku _ _ _ bV,h];exact ae⟩
def VP(a:Act)(d t:Nat)(v:Value)(ah:d<a.tmps.size):(a.put (some d) v).tmps.getD t undef=if t=d then v else a.tmps.getD t undef:=by
 simp only[Act.put,pB,DD];by_cases h:t=d
 ·subst h;simp[ah]
 ·simp[h,su h]
def OM(h:∀ t,e5 β (F t) (a.tmps.getD t undef)){d:Nat}{x:dH}(ah:d<a.tmps.size)(ad:e5 β x v)(t:Nat):e5 β (gY F d x t) ((a.put (some d) v).tmps.getD t undef):=by
 rw[VP a d t v ah];unfold gY;by_cases aa:t=d
 ·subst aa;simp only[rj,cp,sv];exact ad
 ·have:Nat.beq t d=false:=hF aa;simp only[this,cb,bP aa];exact h t
def VQ(w:World)(g:Nat)(cs:Array Value):oB w (w.setRow g cs):=by
 unfold World.setRow
 first | exact⟨rfl,rfl⟩ | (split<;>exact⟨rfl,rfl⟩)
def Kz(w:World)(g:Nat)(o:Obj):oB w (w.putObj g o):=by unfold World.putObj;exact⟨rfl,rfl⟩
def Marks.mono(h:Marks X a w I M){I':aJ}{M':List aF}(hm:∀ r,wj X w I M r->wj X w' I' M' r):Marks X a w' I' M':=by obtain⟨ba,aa,ab,ai⟩:=h;exact⟨ba,aa,ab,λr af=>hm r (ai r af)⟩
def cL.put(h:cL X β a w F C I M){dst:Option Nat}(ah:∀ d,dst=some d->d<X.n){x:dH}(ad:e5 β x v):cL X β (a.put dst v) w (put dst x F) C I M:=by
 cases dst with
 |none=>exact h
 |some d=>
  refine { h with size:=?_,defers:=h.defers,an:=?_ };·simp[Act.put,h.size]
  ·exact OM h.an (by rw[h.size];exact ah d rfl) ad
def eN.heap(h:eN I M w)(c4:w'.heap=w.heap):eN I M w':=
 { i:=by rw[c4];exact h.i,m:=by rw[c4];exact h.m,d:=h.d,bX:=h.bX }
def cL.world(h:cL X β a w F C I M)(c4:w'.heap=w.heap)(aC:oB w w':=by exact⟨rfl,rfl⟩):cL X β a w' F C I M:=
 { h with
  holds:={ i:=by rw[c4];exact h.holds.i,m:=by rw[c4];exact h.holds.m,d:=h.holds.d,bX:=h.holds.bX }
  defers:=h.defers.mono λr af=>{ af with aY:=by rw[c4];exact af.aY }
  cr:=λs cs av=>{ h.cr s cs av with aY:=by rw[c4];exact(h.cr s cs av).aY }
  dK:=by rw[c4];exact h.dK
  out:=h.out.trans aC
  sz:=by rw[c4];exact h.sz }
def eN.alloc(h:eN I M w)(o:Obj):eN I M (w.alloc o) where
 i b x ag:=by have aa:=h.i b x ag;rw[Gy w o (k8.1 aa).1];exact aa
 m x ad:=by have aa:=h.m x ad;rw[Gy w o (k8.1 aa).1];exact aa
 d:=h.d
 bX:=h.bX
def eN.lt(h:eN I M w){x:aF}(ad:x∈M):x.num<w.heap.size:=(k8.1 (h.m x ad)).1
def eN.DJ(h:eN I M w){b:Nat}{o:Obj}(ag:I b=some o):b<w.heap.size:=(k8.1 (h.i b o ag)).1
def eN.sA(h:eN I M w):I w.heap.size=none:=by
 cases ag:I w.heap.size with
 |none=>rfl| some o=>exact absurd (h.DJ ag) (Nat.lt_irrefl _)
def eN.rk(h:eN I M w):∀ x∈M,x.num≠w.heap.size:=λx ad e=>by have:=h.lt ad;omega
def eN.cons(h:eN I M w)(o:Obj):eN I (⟨w.heap.size,o⟩::M) (w.alloc o) where
 i:=(h.alloc o).i
 m x ad:=by
  rcases eA.1 ad with rfl | ad;·exact OK w o
  ·exact(h.alloc o).m x ad
 d x ad:=by
  rcases eA.1 ad with rfl | ad;·exact h.sA
  ·exact h.d x ad
 bX:=by simp only[ca,mg];refine⟨λhm=>?_,h.bX⟩;obtain⟨x,ad,e⟩:=c0.1 hm;exact h.rk x ad e
def xQ.alloc{b:Nat}{cs:List Value}(h:xQ X w I M b cs)(o:Obj):xQ X (w.alloc o) I M b cs where
 aY:=by obtain⟨T,bl⟩:=h.aY;exact⟨T,by rw[Gy w o (k8.1 bl).1];exact bl⟩
 bC:=h.bC
 j1:=h.j1
 e6:=h.e6
def xQ.lt{b:Nat}{cs:List Value}(h:xQ X w I M b cs):b<w.heap.size:=by obtain⟨T,bl⟩:=h.aY;exact(k8.1 bl).1
def xQ.ON{b:Nat}{cs:List Value}(h:xQ X w I M b cs)(o:Obj):xQ X (w.alloc o) I (⟨w.heap.size,o⟩::M) b cs where
 aY:=(h.alloc o).aY
 bC:=h.bC
 j1:=h.j1
 e6 x ad:=by
  rcases eA.1 ad with rfl | ad
  ·exact λe=>by have:=h.lt;simp only at e;omega
  ·exact h.e6 x ad
def wj.alloc{r:Nat}(h:wj X w I M r)(o:Obj):wj X (w.alloc o) I M r:=
 { h with aY:=by rw[Gy w o (k8.1 h.aY).1];exact h.aY }
def wj.ON{r:Nat}(h:wj X w I M r)(o:Obj):wj X (w.alloc o) I (⟨w.heap.size,o⟩::M) r:=by
 refine { h.alloc o with e6:=λx ad=>?_ };rcases eA.1 ad with rfl | ad
 ·have aa:=(k8.1 h.aY).1;simp only;omega
 ·exact h.e6 x ad
def OO(h:∀ b,b<X.B->b ∉ X.foot->w.heap[b]?=X.aw.heap[b]?)(dk:X.B<=w.heap.size)(o:Obj):∀ b,b<X.B->b ∉ X.foot->(w.alloc o).heap[b]?=X.aw.heap[b]?:=λb ag aB=>by rw[Gy w o (by omega)];exact h b ag aB
def cL.n2(h:cL X β a w F C I M)(o:Obj):cL X β a (w.alloc o) F C I (⟨w.heap.size,o⟩::M) where
 size:=h.size
 defers:=h.defers.mono λr af=>af.ON o
 holds:=h.holds.cons o
 an:=h.an
 cr s cs av:=(h.cr s cs av).ON o
 inj:=h.inj
 ij:=h.ij
 hU:=h.hU
 own x ad:=by
  rcases eA.1 ad with rfl | ad;·exact .inr h.sz
  ·exact h.own x ad
 dK:=OO h.dK h.sz o
 out:=h.out
 sz:=by have:=h.sz;simp;omega
 fy:=h.fy
def cL.OP(h:cL X β a w F C I M)(d:Nat):cL X β a w (qp F d) (jv C d none) I M where
 size:=h.size
 defers:=h.defers
 holds:=h.holds
 an t:=by
  have aa:=h.an t;unfold qp;cases bs:F t with
  |ref s off=>
   rw[bs]at aa;simp only;cases Nat.beq s d;·exact aa
   ·trivial
  |_=>rw[bs]at aa;exact aa
 cr s cs av:=by
  unfold jv at av;cases ag:Nat.beq s d with
  |true=>simp[ag]at av| false=>simp[ag]at av;exact h.cr s cs av
 inj s cn aa ab:=h.inj s cn (λe=>aa (by simp[jv,e])) (λe=>ab (by simp[jv,e]))
 ij:=h.ij
 hU:=h.hU
 own:=h.own
 dK:=h.dK
 out:=h.out
 sz:=h.sz
 fy:=h.fy
def cL.VR(h:cL X β a w F C I M)(d:Nat)(ah:d<X.n)(cs:List Value)(T:Nat) :
  ∃ oC,cL X oC (a.put (some d) (.pointer (some ⟨w.heap.size,0,none⟩))) (w.alloc (.cells cs.toArray T (0,0))) (gY (qp F d) d (.ref d 0)) (jv C d (some cs)) I M:=by
 have aw:=h.OP d;let oC:Nat->Nat:=λs=>if s=d then w.heap.size else β s
 refine⟨oC,?_⟩;have xT:∀ t,e5 oC (qp F d t) (a.tmps.getD t undef):=λt=>by
  have aa:=aw.an t;cases bs:qp F d t with
  |ref s off=>
   rw[bs]at aa;have av:s≠d:=by
    intro e;subst e;unfold qp at bs;split at bs
    ·rename_i cn KA mP;cases ag:Nat.beq cn s with
     |true=>simp[ag]at bs| false=>simp[ag]at bs;obtain⟨rfl,_⟩:=bs;simp at ag
    ·rename_i bD;exact bD _ _ bs
   simp only[e5,oC,bP av];exact aa
  |_=>rw[bs]at aa;exact aa
 exact {
  size:=by simp[Act.put,h.size]
  defers:=h.defers.mono λr af=>af.alloc _
  holds:=h.holds.alloc _
  an:=OM xT (by rw[h.size];exact ah) (by simp[e5,oC])
  cr:=λs cs' av=>by
   by_cases e:s=d;·subst e;simp[jv]at av;subst av;simp only[oC,bT rfl];exact { aY:=⟨T,OK w _⟩,bC:=h.sz,j1:=h.holds.sA,e6:=h.holds.rk }
   ·have ag:Nat.beq s d=false:=hF e;simp[jv,ag]at av;simp only[oC,bP e];exact(h.cr s cs' av).alloc _
  inj:=λs cn aa ab he=>by
   by_cases e:s=d<;>by_cases cU:cn=d
   ·rw[e,cU]
   ·exfalso;have ag:Nat.beq cn d=false:=hF cU;simp[jv,ag]at ab;obtain⟨c,ao⟩:=Kr.1 ab;have:=(h.cr cn c ao).lt;simp only[oC,bT e,bP cU]at he;omega
   ·exfalso;have ag:Nat.beq s d=false:=hF e;simp[jv,ag]at aa;obtain⟨c,ao⟩:=Kr.1 aa;have:=(h.cr s c ao).lt;simp only[oC,bP e,bT cU]at he;omega
   ·have ag:Nat.beq s d=false:=hF e;have hk:Nat.beq cn d=false:=hF cU;simp[jv,ag]at aa;simp[jv,hk]at ab;simp only[oC,bP e,bP cU]at he;exact h.inj s cn aa ab he
  ij:=h.ij
  hU:=h.hU
  own:=h.own
  dK:=OO h.dK h.sz _
  out:=h.out
  sz:=by have:=h.sz;simp;omega
  fy:=h.fy }
def eO(a:Addr)(h:a.spot=none)(j:Nat):a.add j=⟨a.block,a.off+j,none⟩:=by
 obtain⟨b,o,s⟩:=a;simp only at h;subst h;unfold Addr.add;split<;>simp_all
def ts{b:Nat}(ax:w.heap[b]?=some (.cells cs T an))(j:Nat):w.cell? ⟨b,j,none⟩=cs[j]?:=by simp[World.cell?,ax]
variable{P:Program}{t:Nat}{i:dR}
def km.run_sizeOf(h:km P t i)(w:World):(sizeOf t).run P w=.ok i.size w:=by obtain⟨inf,z,aa,ab,_⟩:=h.inf;simp[sizeOf,typeInfo,aa,ab]
def km.Gz(h:km P t i)(w:World):∃ z,(zeroValue t).run P w=.ok z w/\z.cells.toList=i.zero:=by obtain⟨inf,z,aa,ab,ai,aL,bq⟩:=h.inf;exact⟨z,by simp[zeroValue,typeInfo,aa,aL],bq⟩
def km.ahx(h:km P t i)(w:World):∃ d,(underlying t).run P w=.ok d w/\fs d=i.bQ:=by obtain⟨d,aa,ab⟩:=h.ft;exact⟨d,run_underlying aa w,ab⟩
def km.VS(h:km P t i)(w:World):(isAgg t).run P w=.ok i.bQ.agg w:=by
 obtain⟨d,aa,ab⟩:=h.ahx w;rw[<-ab];unfold isAgg;simp only[cu,aa,bY];cases d<;>rfl
def ahy(aA:vs.length=1):vs=[vs.headD undef]:=by
 match vs,aA with
 |[v],_=>rfl
def KB(h:km P t i){a:Addr}(av:a.spot=none)(ax:w.heap[a.block]?=some (.cells cs T an))
  (aj:(cs.toList.drop a.off).take i.size=vs) (aA:vs.length=i.size):(loadVar t a).run P w=.ok (pack i.bQ.agg vs) w:=by
 have ao:∀ j v,vs[j]?=some v->w.cell? (a.add j)=some v:=by
  intro j v ak;rw[eO a av,ts ax];rw[<-aj,k9]at ak;split at ak;·rw[nw]at ak;simpa using ak
  ·cases ak
 unfold loadVar;simp only[cu,h.VS,bY];cases GA:i.bQ.agg with
 |true=>simp only[sv,cu,h.run_sizeOf,bY,<-aA];rw[run_loadCells_list w a vs ao];simp[pack]| false=>have aa:=h.Kw GA;rw[aa]at aA;have iK:=ahy aA;have:=ao 0 (vs.headD undef) (by rw[iK];simp);have a6:a.add 0=a:=rfl;rw[a6]at this;simp[this,pack]
def zp(h:fJ vs=true):∀ v∈vs,v.oneCell'=true:=by simpa[fJ]using h
def KD(h:km P t i){a:Addr}(av:a.spot=none)(ax:w.heap[a.block]?=some (.cells cs T (0,0)))(dk:v.cells.size=i.size)(ag:a.off+v.cells.toList.length<=cs.size)(aa:fJ v.cells.toList=true) :
  (storeVar t a v).run P w=.ok () (w.setRow a.block (cq cs.toList a.off v.cells.toList).toArray):=by
 obtain⟨b,o,s⟩:=a;simp only at av ax ag;subst av;unfold storeVar;simp only[cu,h.run_sizeOf,bY,dk,ne_eq,not_true,mh,Sem.run_ite];have:=run_storeCells_at (P:=P) b o T v.cells.toList 0 cs w ax (by simpa using ag) (zp aa);simp only[pD]at this;simp only[cq];simpa using this
def cL.VT(h:cL X β a w F C I M){s:Nat}{cs:List Value}(av:C s=some cs)(cs':List Value):cL X β a (w.setRow (β s) cs'.toArray) F (jv C s (some cs')) I M:=by
 have ag:=h.cr s cs av;obtain⟨T,bl⟩:=ag.aY;exact {
  size:=h.size
  defers:=h.defers.mono λr af=>by refine { af with aY:=?_ };rw[setRow_other _ _ _ _ (λe=>by have aa:=af.aY;rw[e,bl]at aa;cases aa)];exact af.aY
  holds:={
   i:=λb o iL=>by rw[setRow_other _ _ _ _ (λe=>by rw[e,ag.j1]at iL;cases iL)];exact h.holds.i b o iL
   m:=λx ad=>by rw[setRow_other _ _ _ _ (ag.e6 x ad)];exact h.holds.m x ad
   d:=h.holds.d
   bX:=h.holds.bX }
  an:=h.an
  cr:=λcn c' oD=>by
   by_cases e:cn=s;·subst e;simp[jv,rj]at oD;subst oD;exact { aY:=⟨T,setRow_heap _ _ _ _ _ _ bl⟩,bC:=ag.bC,j1:=ag.j1,e6:=ag.e6 }
   ·simp[jv,hF e]at oD;have hk:=h.cr cn c' oD;obtain⟨ml,GB⟩:=hk.aY;refine { aY:=⟨ml,?_⟩,bC:=hk.bC,j1:=hk.j1,e6:=hk.e6 };rw[setRow_other _ _ _ _ (λcU=>e (h.inj cn s (by simp[oD]) (by simp[av]) cU))];exact GB
  inj:=λs1 s2 aa ab=>h.inj s1 s2 (λe=>by
    unfold jv at aa;cases aM:Nat.beq s1 s with
    |true=>have:=dJ aM;subst this;rw[av]at e;cases e| false=>rw[aM]at aa;exact aa e) (λe=>by
    unfold jv at ab;cases aM:Nat.beq s2 s with
    |true=>have:=dJ aM;subst this;rw[av]at e;cases e| false=>rw[aM]at ab;exact ab e)
  ij:=h.ij
  hU:=h.hU
  own:=h.own
  dK:=λb hk aB=>by rw[setRow_other _ _ _ _ (λe=>by have:=ag.bC;omega)];exact h.dK b hk aB
  out:=h.out.trans (VQ _ _ _)
  sz:=by have:=h.sz;simpa using this
  fy:=h.fy }
def cL.xU(h:cL X β a w F C I M){a9 post:List aF}{g:Nat}{cs':Array Value}(bb:M=a9++⟨g,.cells cs T (0,0)⟩::post) :
  cL X β a (w.setRow g cs') F C I (a9++⟨g,.cells cs' T (0,0)⟩::post):=by
 subst bb;have fQ:(⟨g,.cells cs T (0,0)⟩:aF)∈a9++⟨g,.cells cs T (0,0)⟩::post:=by simp
 have ax:w.heap[g]?=some (.cells cs T (0,0)):=h.holds.m _ fQ;have bV:=h.holds.bX;simp only[cS,ca]at bV;have bD:∀ x,x∈a9\/x∈post->x.num≠g:=by
  intro x ad e;rw[uG]at bV;obtain⟨_,ab,ai⟩:=bV;rcases ad with ad | ad;·exact ai x.num (c0.2 ⟨x,ad,rfl⟩) g (by simp) e
  ·rw[mg]at ab;exact ab.1 (c0.2 ⟨x,ad,e⟩)
 have mem:∀ x,x∈a9++(⟨g,.cells cs' T (0,0)⟩:aF)::post->x=⟨g,.cells cs' T (0,0)⟩\/(x∈a9\/x∈post):=by
  intro x ad;simp only[cC,eA]at ad;rcases ad with ad | ad | ad;·exact .inr (.inl ad)
  ·exact .inl ad
  ·exact .inr (.inr ad)
 have back:∀ x,x∈a9\/x∈post->x∈a9++(⟨g,.cells cs T (0,0)⟩:aF)::post:=by
  intro x ad;simp only[cC,eA];rcases ad with ad | ad;·exact .inl ad
  ·exact .inr (.inr ad)
 exact {
  size:=h.size
  defers:=h.defers.mono λr af=>by
   have Bt:g≠r:=af.e6 _ fQ;refine { af with aY:=?_,e6:=λx ad=>?_ };·rw[setRow_other _ _ _ _ (su Bt)];exact af.aY
   ·rcases mem x ad with rfl | ad
    ·exact Bt
    ·exact af.e6 x (back x ad)
  holds:={
   i:=λb o iL=>by rw[setRow_other _ _ _ _ (λe=>by have:=h.holds.d _ fQ;simp only at this;rw[e,this]at iL;cases iL)];exact h.holds.i b o iL
   m:=λx ad=>by
    rcases mem x ad with rfl | ad;·exact setRow_heap _ _ _ _ _ _ ax
    ·rw[setRow_other _ _ _ _ (bD x ad)];exact h.holds.m x (back x ad)
   d:=λx ad=>by
    rcases mem x ad with rfl | ad;·exact h.holds.d ⟨g,.cells cs T (0,0)⟩ fQ
    ·exact h.holds.d x (back x ad)
   bX:=by simpa[cS]using bV }
  an:=h.an
  cr:=λs c av=>by
   have ag:=h.cr s c av;obtain⟨ml,GB⟩:=ag.aY;have xV:g≠β s:=ag.e6 _ fQ;refine { aY:=⟨ml,?_⟩,bC:=ag.bC,j1:=ag.j1,e6:=λx ad=>?_ };·rw[setRow_other _ _ _ _ (su xV)];exact GB
   ·rcases mem x ad with rfl | ad
    ·exact xV
    ·exact ag.e6 x (back x ad)
  inj:=h.inj
  ij:=h.ij
  hU:=h.hU
  own:=λx ad=>by
   rcases mem x ad with rfl | ad;·exact h.own ⟨g,.cells cs T (0,0)⟩ fQ
   ·exact h.own x (back x ad)
  dK:=λb ag aB=>by
   rw[setRow_other _ _ _ _ (λe=>by
    rcases h.own _ fQ with aa | aa;·simp only at aa;exact aB (e ▸ aa)
    ·simp only at aa;omega)]
   exact h.dK b ag aB
  out:=h.out.trans (VQ _ _ _)
  sz:=by have:=h.sz;simpa using this
  fy:=h.fy }
def ih.heap(h:eN I M w){b:Nat}{o:Obj}(ae:ih I M b o):w.heap[b]?=some o:=by
 rcases ae with ae | ⟨x,ad,rfl,rfl⟩
 ·exact h.i b o ae
 ·exact h.m x ad
def ahz{aU:List Value}{x:Value}{xs:List Value}(h:off+1+xs.length<=aU.length):cq (aU.set off x) (off+1) xs=cq aU off (x::xs):=by
 unfold cq;rw[List.take_set,List.drop_set,bT (by omega),gH (by omega:off<aU.length)];have e:(List.take off aU++[aU[off]'(by omega)]).set off x=List.take off aU++[x]:=by rw[List.set_append,bP (by simp;omega)];simp[pC (by omega:off<=aU.length)]
 rw[e];simp[tl,Gv 1]
def VU(off:Nat):∀ (xs:List Value) (k:Nat) (aU:List Value),off+k+xs.length<=aU.length -> (xs.zipIdx k).foldl (λ(cs:Array Value) (p:Value×Nat)=>cs.setIfInBounds (off+p.2) p.1) aU.toArray=(cq aU (off+k) xs).toArray
 |[],k,aU,_=>by simp[cq]
 |x::xs,k,aU,aA=>by simp only[eo]at aA;simp only[List.zipIdx_cons,kl];rw[List.setIfInBounds_toArray,VU off xs (k+1) _ (by simp;omega)];rw[show off+(k+1)=off+k+1 from by omega,ahz (by omega)]
def fill_eq(place:Nat->Option (Nat×Nat)):∀ (vs:List (Nat×Value)) (cells r:List Value),tn place cells vs=some r->Instr.fill place cells.toArray vs=some r.toArray
 |[],cells,r,h=>by simp[tn]at h;simp[Instr.fill,h]
 |(i,v)::bo,cells,r,h=>by
  unfold tn at h;unfold Instr.fill;split at h;·cases h
  ·rename_i off size aH;simp only[aH];cases ao:(Nat.beq v.cells.size size&&Nat.ble (off+size) cells.length)with
   |false=>rw[ao]at h;cases h
   |true=>
    rw[ao]at h;simp only[cp]at h;rw[cw]at ao;have aa:=dJ ao.1;have ab:=bK ao.2;have aK:decide (v.cells.size≠size)=false:=by simp[aa]
    have a7:decide (off+v.cells.size > cells.toArray.size)=false:=by simp;omega
    rw[aK,a7];simp only[Bool.or_false,k',mh];have aN:=fill_eq place bo _ r h;rw[<-aN];congr 1;have:=VU off v.cells.toList 0 cells (by simp;omega);simp only[pD]at this;rw[<-this,<-OF];simp
end
def h6.le{I I':aJ}{M M':List aF}(h:h6 foot I M I' M')(lh:eN I M w):(∀ b o,I b=some o->I' b=some o)/\eN I' M' w /\
  (∀ b o,I' b=some o->I b=some o\/∃ x∈M,x.num=b/\x.obj=o/\b ∉ foot)/\(∀ x∈M',x∈M):=by
 induction h with
 |refl=>exact⟨λ_ _ h=>h,lh,λ_ _ h=>.inl h,λ_ h=>h⟩
 | @sub I M M1 I' M' av k aN=>
  have aa:eN I M1 w:=⟨lh.i,λx ad=>lh.m x (av.subset ad),λx ad=>lh.d x (av.subset ad),(av.map _).nodup lh.bX⟩;obtain⟨cN,ej,ek,hj⟩:=aN aa;refine⟨cN,ej,λb o ag=>?_,λx ad=>av.subset (hj x ad)⟩;rcases ek b o ag with h | ⟨x,ad,h⟩;·exact .inl h
  ·exact .inr ⟨x,av.subset ad,h⟩
 | @perm I M M1 I' M' aH k aN=>
  have aa:eN I M1 w:=⟨lh.i,λx ad=>lh.m x (aH.mem_iff.2 ad),λx ad=>lh.d x (aH.mem_iff.2 ad),(aH.map _).nodup_iff.1 lh.bX⟩;obtain⟨cN,ej,ek,hj⟩:=aN aa;refine⟨cN,ej,λb o ag=>?_,λx ad=>aH.mem_iff.2 (hj x ad)⟩;rcases ek b o ag with h | ⟨x,ad,h⟩;·exact .inl h
  ·exact .inr ⟨x,aH.mem_iff.2 ad,h⟩
 | @n1 I M I' M' b o post bb aB k aN=>
  subst bb;have bV:=lh.bX;simp only[ca,mg]at bV;have ag:=lh.d ⟨b,o⟩ (by simp);simp only at ag;have aa:eN (ins I b o) post w:={
   i:=λjb o' h=>by
    unfold ins at h;by_cases e:jb=b;·subst e;simp only[rj,cp,kJ]at h;subst h;exact lh.m ⟨jb,o⟩ (by simp)
    ·simp only[hF e,cb]at h;exact lh.i _ _ h
   m:=λx ad=>lh.m x (by simp[ad])
   d:=λx ad=>by unfold ins;have e:x.num≠b:=λe=>bV.1 (c0.2 ⟨x,ad,e⟩);simp only[hF e,cb];exact lh.d x (by simp[ad])
   bX:=bV.2 }
  obtain⟨cN,ej,ek,hj⟩:=aN aa;refine⟨λjb o' h=>cN jb o' ?_,ej,λjb o' h=>?_,λx ad=>by simp[hj x ad]⟩
  ·unfold ins;by_cases e:jb=b
   ·subst e;rw[ag]at h;cases h
   ·simp only[hF e,cb];exact h
  ·rcases ek jb o' h with h | ⟨x,ad,h⟩
   ·unfold ins at h;by_cases e:jb=b
    ·subst e;simp only[rj,cp,kJ]at h;exact .inr ⟨⟨jb,o⟩,by simp,rfl,h,aB⟩
    ·simp only[hF e,cb]at h;exact .inl h
   ·exact .inr ⟨x,by simp[ad],h⟩
def cL.h7{X:c1}{β:Nat->Nat}{F:Fr}{C:dO}{I I':aJ}{M M':List aF}(h:cL X β a w F C I M)(hw:h6 X.foot I M I' M'):cL X β a w F C I' M':=by
 obtain⟨cN,ej,ek,hj⟩:=hw.le h.holds;exact { h with
  holds:=ej
  defers:=h.defers.mono λr af=>by
   refine { af with j1:=?_,e6:=λx ad=>af.e6 x (hj x ad) };cases bB:I' r with
   |none=>rfl
   |some o=>
    exfalso;rcases ek _ _ bB with aa | ⟨x,ad,aa,_⟩;·rw[af.j1]at aa;cases aa
    ·exact af.e6 x ad aa
  cr:=λs cs av=>{ h.cr s cs av with
   j1:=by
    cases bB:I' (β s)with
    |none=>rfl
    |some o=>
     exfalso;rcases ek _ _ bB with aa | ⟨x,ad,aa,_⟩;·rw[(h.cr s cs av).j1]at aa;cases aa
     ·exact(h.cr s cs av).e6 x ad aa
   e6:=λx ad=>(h.cr s cs av).e6 x (hj x ad) }
  ij:=λb o ag=>cN b o (h.ij b o ag)
  hU:=λb o ag=>by
   rcases ek b o ag with aa | ⟨x,ad,rfl,_,aB⟩;·exact h.hU b o aa
   ·exact .inr ((h.own x ad).resolve_left aB)
  own:=λx ad=>h.own x (hj x ad) }
section
variable{X:c1}{β:Nat->Nat}{a:Act}{w:World}{F:Fr}{C:dO}{I:aJ}{M:List aF}{o:Oper}{Q:Exit->Act->World->Prop}{K:gr}
def VV(h:cL X β a w F C I M)(ah:∀ d,o.dst=some d->d<X.n)(bV:∀ c,o.op≠.defer c){x:dH}(af:(execOp a.eval o).run X.P w=.ok (.value v) w)(ad:e5 β x v)(ae:K (put o.dst x F) C I M):o.wpIn (g8 X) 0 X.P a w (Sat X K) Q:=
 iJ bV af ⟨_,_,_,_,⟨β,h.put ah ad⟩,ae⟩
def wk(h:cL X β a w F C I M)(ah:∀ d,o.dst=some d->d<X.n)(bV:∀ c,o.op≠.defer c)(af:(execOp a.eval o).run X.P w=.ok (.value v) w)(ae:K (put o.dst (.val v) F) C I M):o.wpIn (g8 X) 0 X.P a w (Sat X K) Q:=
 VV (x:=.val v) h ah bV af rfl ae
def oE(k:IntKind)(n:Int)(w:World)(P:Program):(asIntOf (.int k n)).run P w=.ok (k,n) w:=rfl
def IntKind.DK{k fu:IntKind}(h:IntKind.lP k fu=true):k=fu:=by cases k<;>cases fu<;>first | rfl | cases h
def oF(op:BinOp)(t:Nat)(x y:Operand)(k fu:IntKind)(n m:Int)(P:Program)(w:World):(eqGuard op t x y (.int k n) (.int fu m)).run P w=.ok () w:=by
 unfold eqGuard;cases op<;>rfl
def OQ(op:BinOp)(t:Nat)(x y:Operand)(n m:ByteArray)(P:Program)(w:World):(eqGuard op t x y (.string n) (.string m)).run P w=.ok () w:=by
 unfold eqGuard;cases op<;>rfl
def VW(op:BinOp)(t:Nat)(x y:Operand)(n m:Bool)(P:Program)(w:World):(eqGuard op t x y (.bool n) (.bool m)).run P w=.ok () w:=by
 unfold eqGuard;cases op<;>rfl
def VX(a b:ByteArray):(a.toList == b.toList)=decide (a=b):=by
 rw[tj];simp only[beq_iff_eq,hS];constructor
 ·intro h;have aa:a.data.toList=b.data.toList:=by rw[ByteArray.toList_eq,ByteArray.toList_eq]at h;exact h
  cases a;cases b;simp only[ByteArray.mk.injEq];exact gX aa
 ·intro h;rw[h]
def run_equal_bool{t:Nat}(hu:P.underlying t=some .bool)(a b:Bool)(w:World):(Op.equal t (.bool a) (.bool b)).run P w=.ok (a == b) w:=by
 have key:∀ d,(Op.equalIn (d+1) t (.bool a) (.bool b)).run P w=.ok (a == b) w:=λd=>by simp only[Op.equalIn,cu,run_underlying hu,bY,c7]
 exact key 9999
def ahA(aO:cX X.P X.E)(op:BinOp)(t:Nat)(x y:Operand)(u v:dH)(mm xW:Value)(ad:u=.val mm)(aE:v=.val xW)(VY:Value->Prop)(other:Prop)
  (h:lQ op (X.E t) u v VY other):other\/∃ r,(∀ w,(do eqGuard op t x y mm xW;binOp op t mm xW:Sem Value).run X.P w=.ok r w)/\VY r:=by
 subst ad;subst aE;unfold lQ at h;split at h
 ·rename_i k a fu b aK a7;cases aK;cases a7
  right
  split at h;·obtain⟨j,rfl,⟨r,af,ae⟩⟩:=h;refine⟨_,λw=>?_,ae⟩;simp only[cu,oF,bY,binOp,Op.shift];rw[bP (by omega)];simp[af]
  ·obtain⟨j,rfl,ae⟩:=h;refine⟨_,λw=>?_,ae⟩;simp only[cu,oF,bY,binOp,Op.shift];rw[bP (by omega)];simp
  ·rename_i gj oG;cases e0:IntKind.lP k fu with
   |false=>rw[e0]at h;exact h.elim
   |true=>
    rw[e0]at h;have jc:=IntKind.DK e0;subst jc;simp only[cp]at h;cases op<;>simp only at h
    case add=>obtain⟨r,af,ae⟩:=h;exact⟨_,λw=>by simp[oF,binOp,Op.intArith,af],ae⟩
    case sub=>obtain⟨r,af,ae⟩:=h;exact⟨_,λw=>by simp[oF,binOp,Op.intArith,af],ae⟩
    case mul=>obtain⟨r,af,ae⟩:=h;exact⟨_,λw=>by simp[oF,binOp,Op.intArith,af],ae⟩
    case quo=>obtain⟨aw,r,af,ae⟩:=h;exact⟨_,λw=>by simp[oF,binOp,Op.intDiv,aw,af],ae⟩
    case rem=>obtain⟨aw,ae⟩:=h;exact⟨_,λw=>by simp[oF,binOp,Op.intDiv,aw],ae⟩
    case and=>exact⟨_,λw=>by simp[oF,binOp,Op.intBits,uK],h⟩
    case or=>exact⟨_,λw=>by simp[oF,binOp,Op.intBits,uK],h⟩
    case xor=>exact⟨_,λw=>by simp[oF,binOp,Op.intBits,uK],h⟩
    case andNot=>exact⟨_,λw=>by simp[oF,binOp,Op.intBits,uK],h⟩
    case shl=>exact(gj rfl).elim
    case shr=>exact(oG rfl).elim
    case eql=>exact⟨_,λw=>by simp only[cu,oF,bY,binOp,Op.intCmp,xP];simp;rfl,h⟩
    case neq=>exact⟨_,λw=>by simp only[cu,oF,bY,binOp,Op.intCmp,xP];simp;rfl,h⟩
    case lss=>exact⟨_,λw=>by simp[oF,binOp,Op.intCmp,xP],h⟩
    case leq=>exact⟨_,λw=>by simp[oF,binOp,Op.intCmp,xP],h⟩
    case gtr=>exact⟨_,λw=>by simp[oF,binOp,Op.intCmp,xP],h⟩
    case geq=>exact⟨_,λw=>by simp[oF,binOp,Op.intCmp,xP],h⟩
 ·rename_i a b aK a7;cases aK;cases a7;split at h
  ·exact .inr ⟨_,λw=>by simp only[cu,OQ,bY,binOp,Op.stringOp,c7,VX],h⟩
  ·exact .inr ⟨_,λw=>by simp only[cu,OQ,bY,binOp,Op.stringOp,c7,VX],h⟩
  ·exact .inl h
 ·rename_i a b aK a7;cases aK;cases a7;split at h
  ·rename_i c6 sz hT z au;obtain⟨d,hu,ah⟩:=(aO _ _ au).ft;have fE:d=.bool:=by cases d<;>simp_all[fs]
   subst fE;split at h;·exact .inr ⟨_,λw=>by simp only[cu,VW,bY,binOp,run_equal_bool hu,c7],h⟩
   ·exact .inr ⟨_,λw=>by simp only[cu,VW,bY,binOp,run_equal_bool hu,c7],h⟩
   ·exact .inl h
  ·exact .inl h
 ·exact .inl h
def OR{args:Array Value}(h:Calls P f args w R)(n:Nat):CallsIn (g8 X) n P f args w R:=by have aa:=(callsIn_wide (n:=n)).2 h;exact⟨trivial,λcs af=>aa.2 cs (room_wide _)⟩
def eN.part(h:eN I M w){dW Mr:List aF}(bb:M.Perm (dW++Mr)):eN I dW w:=by
 have gk:∀ x,x∈M ↔ x∈dW\/x∈Mr:=λx=>by rw[bb.mem_iff,cC]
 have bV:((dW++Mr).map (·.num)).Nodup:=(bb.map (·.num)).nodup_iff.1 h.bX;rw[cS,uG]at bV;exact⟨h.i,λx ad=>h.m x ((gk x).2 (.inl ad)),λx ad=>h.d x ((gk x).2 (.inl ad)),bV.1⟩
def cL.after(h:cL X β a w F C I M){dW Mr M':List aF}{I':aJ}(bb:M.Perm (dW++Mr))(rl:eN I' M' w')(eG:Kept I dW w I' M' w'):cL X β a w' F C I' (M'++Mr):=by
 have gk:∀ x,x∈M ↔ x∈dW\/x∈Mr:=λx=>by rw[bb.mem_iff,cC]
 have bV:((dW++Mr).map (·.num)).Nodup:=(bb.map (·.num)).nodup_iff.1 h.holds.bX;rw[cS,uG]at bV;have VZ:∀ x∈Mr,∀ y∈dW,y.num≠x.num:=λx ad y aE=>bV.2.2 y.num (c0.2 ⟨y,aE,rfl⟩) x.num (c0.2 ⟨x,ad,rfl⟩);have ahB:∀ x∈Mr,w'.heap[x.num]?=w.heap[x.num]?:=λx ad=>
  eG.dK x.num (h.holds.lt ((gk x).2 (.inr ad))) (VZ x ad)
 exact {
  size:=h.size
  defers:=h.defers.mono λr af=>by
   have a4:=(k8.1 af.aY).1;refine { aY:=?_,bC:=af.bC,j1:=?_,e6:=λx ad=>?_ };·rw[eG.dK _ a4 (λy aE=>af.e6 y ((gk y).2 (.inl aE)))];exact af.aY
   ·cases bB:I' r with
    |none=>rfl
    |some o=>
     exfalso;rcases eG.uM _ _ bB with aa | aa;·rw[af.j1]at aa;cases aa
     ·omega
   ·rcases cC.1 ad with ad | ad
    ·rcases eG.wg x ad with⟨z,bd,Bu⟩ | aa
     ·rw[<-Bu];exact af.e6 z ((gk z).2 (.inl bd))
     ·omega
    ·exact af.e6 x ((gk x).2 (.inr ad))
  holds:={
   i:=rl.i
   m:=λx ad=>by
    rcases cC.1 ad with ad | ad;·exact rl.m x ad
    ·rw[ahB x ad];exact h.holds.m x ((gk x).2 (.inr ad))
   d:=λx ad=>by
    rcases cC.1 ad with ad | ad;·exact rl.d x ad
    ·cases bB:I' x.num with
     |none=>rfl
     |some o=>
      exfalso;rcases eG.uM _ _ bB with aa | aa;·have:=h.holds.d x ((gk x).2 (.inr ad));rw[this]at aa;cases aa
      ·have:=h.holds.lt ((gk x).2 (.inr ad));omega
   bX:=by
    rw[cS,uG];refine⟨rl.bX,bV.2.1,λp aH q aM e=>?_⟩;obtain⟨x,ad,rfl⟩:=c0.1 aH;obtain⟨y,aE,rfl⟩:=c0.1 aM;rcases eG.wg x ad with⟨z,bd,Bu⟩ | aa;·exact VZ y aE z bd (Bu.trans e)
    ·have:=h.holds.lt ((gk y).2 (.inr aE));omega }
  an:=h.an
  cr:=λs cs av=>by
   have ag:=h.cr s cs av;obtain⟨T,bl⟩:=ag.aY;refine { aY:=⟨T,?_⟩,bC:=ag.bC,j1:=?_,e6:=λx ad=>?_ };·rw[eG.dK _ ag.lt (λy aE=>ag.e6 y ((gk y).2 (.inl aE)))];exact bl
   ·cases bB:I' (β s)with
    |none=>rfl
    |some o=>
     exfalso;rcases eG.uM _ _ bB with aa | aa;·rw[ag.j1]at aa;cases aa
     ·have:=ag.lt;omega
   ·rcases cC.1 ad with ad | ad
    ·rcases eG.wg x ad with⟨z,bd,Bu⟩ | aa
     ·rw[<-Bu];exact ag.e6 z ((gk z).2 (.inl bd))
     ·have:=ag.lt;omega
    ·exact ag.e6 x ((gk x).2 (.inr ad))
  inj:=h.inj
  ij:=λb o ag=>eG.le b o (h.ij b o ag)
  hU:=λb o ag=>by
   rcases eG.uM b o ag with aa | aa;·exact h.hU b o aa
   ·exact .inr (ja h.sz aa)
  own:=λx ad=>by
   rcases cC.1 ad with ad | ad
   ·rcases eG.wg x ad with⟨z,bd,Bu⟩ | aa
    ·rw[<-Bu];exact h.own z ((gk z).2 (.inl bd))
    ·exact .inr (ja h.sz aa)
   ·exact h.own x ((gk x).2 (.inr ad))
  dK:=λb ag aB=>by
   rw[eG.dK b (Kt ag h.sz) (λy aE e=>by
    rcases h.own y ((gk y).2 (.inl aE))with aa | aa;·exact aB (e ▸ aa)
    ·omega)]
   exact h.dK b ag aB
  out:=h.out.trans eG.out
  sz:=ja h.sz eG.sz
  fy:=h.fy }
def cL.call(h:cL X β a w F C I M){KC:Value->aJ->List aF->Prop}(ao:bc X.foot P f args I M KC) :
  (OJ P f/\Calls P f args.toArray w λe w'=>∃ v I' M',e=.returned v/\KC v I' M'/\cL X β a w' F C I' M')\/(∃ v w' I' M',(callFunc f args.toArray).run P w=.ok (.value v) w'/\KC v I' M'/\cL X β a w' F C I' M'):=by
 obtain⟨I1,dW,Mr,post,iB,⟨qq,av⟩ | av,ae⟩:=ao.elim ⟨h.holds.d,h.holds.bX⟩<;>have h:=h.h7 iB<;>have bb:=List.Perm.refl (dW++Mr)
 ·refine .inl ⟨qq,?_⟩;refine(av w (h.holds.part bb)).mono ?_;rintro e w'⟨v,I',M',rfl,aH,rl,eG⟩;have a6:=h.after bb rl eG;exact⟨v,I',M'++Mr,rfl,ae v I' M' eG.le a6.holds.d aH,a6⟩
 ·obtain⟨v,w',I',M',af,aH,rl,eG⟩:=av w (h.holds.part bb);have a6:=h.after bb rl eG;exact .inr ⟨v,w',I',M'++Mr,af,ae v I' M' eG.le a6.holds.d aH,a6⟩
def V0{args:Array Value}(bV:∀ c,o.op≠.defer c)(af:(execOp a.eval o).run X.P w=.ok (.enter f args) w)
  (ao:Calls X.P f args w λe w'=>∃ v,e=.returned v/\next (a.put o.dst v) w'):o.wpIn (g8 X) 0 X.P a w next Q:=by
 refine⟨λ_ _=>trivial,?_⟩;rw[Ku _ _ _ bV,af];refine⟨(λh=>by cases h),?_⟩;refine(OR ao _).mono ?_;rintro e w'⟨v,rfl,h⟩;exact h
def V1(z:Value)(fg:List Value)(h:z.cells.toList=fg)(n:Nat):(Array.range n).map (z.cells[· % z.cells.size]!)=(rowOf fg n).toArray:=by subst h;apply gX;simp[tp,madeCells]
def km.struct{t:Nat}{cO:List (Nat×Nat)}(h:km P t ⟨sz,hT,z,.struct cO⟩):∃ fields,P.underlying t=some (.struct fields)/\cO=fields.toList.map λf=>(f.type,f.offset):=by
 obtain⟨d,aa,ab⟩:=h.ft;cases d<;>simp[fs]at ab
 exact⟨_,aa,ab.symm⟩
def km.slice{t:Nat}(h:km P t ⟨sz,hT,z,.slice e⟩):P.underlying t=some (.slice e):=by
 obtain⟨d,aa,ab⟩:=h.ft;cases d<;>simp[fs]at ab
 rw[aa,ab]
def km.array{t:Nat}(h:km P t ⟨sz,hT,z,.array n e⟩):P.underlying t=some (.array n e):=by
 obtain⟨d,aa,ab⟩:=h.ft;cases d<;>simp[fs]at ab
 rw[aa,ab.1,ab.2]
def km.string{t:Nat}(h:km P t ⟨sz,hT,z,.string⟩):P.underlying t=some .string:=by
 obtain⟨d,aa,ab⟩:=h.ft;cases d<;>simp[fs]at ab
 exact aa
def km.int{P:Program}{t sz hT:Nat}{z:List Value}{k:IntKind}(h:km P t ⟨sz,hT,z,.int k⟩):P.underlying t=some (.int k):=by
 obtain⟨d,aa,ab⟩:=h.ft;cases d<;>simp[fs]at ab
 rw[aa,ab]
def V2{fields:Array Field}{i fy:Nat}(h:(fields.toList.map λf=>(f.type,f.offset))[i]?=some (fy,off)):∃ f,fields[i]?=some f/\f.type=fy/\f.offset=off:=by
 simp only[ju,Array.getElem?_toList]at h;cases aB:fields[i]? with
 |none=>simp[aB]at h| some f=>simp[aB]at h;exact⟨f,rfl,h.1,h.2⟩
def OS{t:Nat}{i:dR}(h:km P t i)(bk:off+i.size<=cs.size)(w:World):(part t cs off).run P w=.ok (pack i.bQ.agg ((cs.toList.drop off).take i.size)) w:=by
 unfold part;simp only[cu,h.VS,bY];cases GA:i.bQ.agg with
 |true=>simp only[sv,cu,h.run_sizeOf,bY,c7,pack,cp];congr 2;apply gX;simp[List.take_drop]
 |false=>
  have aa:=h.Kw GA;rw[aa]at bk |-;have a4:off<cs.size:=by omega
  simp only[k',mh,OD a4,c7,pack,cb];congr 1;rw[fi (by simpa using a4)];simp
def ahC{t:Nat}{aG:dR}(au:P.underlying t=some (.slice e))(he:km P e aG){c:Nat}{j:Nat}(ak:j<n)(w:World) :
  (Instr.indexAt t (.slice (some aP) n c) (.int gq j)).run P w=.ok (.pointer (some (aP.add (j*aG.size)))) w:=by
 unfold Instr.indexAt;simp only[cu,oE,bY,run_underlying au,c7];rw[bT ⟨by omega,by omega⟩];simp[he.run_sizeOf]
def V3{t:Nat}{aG:dR}(au:P.underlying t=some (.array m e))(he:km P e aG){j:Nat}(ak:j<m)(w:World) :
  (Instr.indexAt t (.pointer (some aP)) (.int gq j)).run P w=.ok (.pointer (some (aP.add (j*aG.size)))) w:=by
 unfold Instr.indexAt;simp only[cu,oE,bY,run_underlying au,c7,Instr.sureAddr];rw[bT ⟨by omega,by omega⟩];simp[he.run_sizeOf]
def V4{P:Program}{E:Env}(aO:cX P E)(w:World):∀ (fields:List Field),DH E (fields.map λf=>(f.type,f.offset))=true -> ∃ l:List (Nat×Nat),(fields.mapM λf=>(do pure (f.offset,<-sizeOf f.type):Sem (Nat×Nat))).run P w=.ok l w/\∀ i,l[i]?=places E (fields.map λf=>(f.type,f.offset)) i
 |[],_=>⟨[],rfl,λi=>by simp[places]⟩
 |f::cO,h=>by
  simp only[DH,ca,xN,cw]at h;obtain⟨hv,pF⟩:=Option.isSome_iff_exists.1 h.1;obtain⟨l,aa,ab⟩:=V4 aO w cO h.2;refine⟨(f.offset,hv.size)::l,?_,λi=>?_⟩;·simp only[Gu,cu,(aO _ _ pF).run_sizeOf,bY,c7];rw[aa];rfl
  ·cases i with
   |zero=>simp[places,pF]| succ i=>simp only[Gt,ab];simp[places]
def V5(aO:cX X.P X.E)(h:cL X β a w F C I M){zq:dH->Prop}{other:Prop}(op:Op)(ty:TypeId)(dst:Option Tmp)(pos:String)(after:Array Edge)(guard:Option (Nat×Bool))(aj:cK X op (dn F) C I M zq other) :
  other\/∃ v x,(execOp a.eval ⟨dst,op,ty,pos,after,guard⟩).run X.P w=.ok (.value v) w/\e5 β x v/\zq x:=by
 have done:∀ {v x},(execOp a.eval ⟨dst,op,ty,pos,after,guard⟩).run X.P w=.ok (.value v) w->e5 β x v->zq x->other\/∃ v x,(execOp a.eval ⟨dst,op,ty,pos,after,guard⟩).run X.P w=.ok (.value v) w/\e5 β x v/\zq x:=
  λaa ab ai=>.inr ⟨_,_,aa,ab,ai⟩
 have hV:∀ {v},(execOp a.eval ⟨dst,op,ty,pos,after,guard⟩).run X.P w=.ok (.value v) w->zq (.val v)->other\/∃ v x,(execOp a.eval ⟨dst,op,ty,pos,after,guard⟩).run X.P w=.ok (.value v) w/\e5 β x v/\zq x:=
  fun {v} aa ai=>.inr ⟨v,.val v,aa,rfl,ai⟩
 have aB:=h.an;cases op
 case move x=>exact done (by simp[execOp]) (xS aB x) aj
 case assign x=>exact done (by simp[execOp]) (xS aB x) aj
 case pick c p q=>
  simp only[cK]at aj;split at aj
  ·rename_i b ag;have ao:=OL aB ag;cases b
   ·exact done (by simp[execOp,ao,asBool]) (xS aB q) aj
   ·exact done (by simp[execOp,ao,asBool]) (xS aB p) aj
  ·rename_i b ag;have ao:=uO aB ag;refine done (v:=if b then a.eval p else a.eval q) (x:=Kx b (bH F p) (bH F q)) (by simp[execOp,ao,asBool]) ?_ aj;have aa:=VO aB p;have ab:=VO aB q;unfold Kx;split
   ·rename_i x y aK a7;rw[aK]at aa;rw[a7]at ab;simp only[e5]at aa ab |-;cases b<;>simp[aa,ab]
   ·rename_i x y _ aK a7;rw[aK]at aa;rw[a7]at ab;simp only[e5]at aa ab |-;cases b<;>simp[aa,ab]
   ·trivial
  ·exact aj.elim
 case unOp op t x=>
  simp only[cK]at aj;split at aj;·rename_i b ag;exact done (v:=.bool (!b)) (x:=.lit (!b)) (by simp[execOp,OL aB ag,Op.unary]) rfl aj
  ·rename_i b ag;exact hV (v:=.bool (!b)) (by simp[execOp,uO aB ag,Op.unary]) aj
  ·rename_i k n ag;obtain⟨r,af,ae⟩:=aj;exact hV (v:=.int k r) (by simp only[execOp,uO aB ag,Op.unary,Op.intArith,af];simp) ae
  ·exact Or.inl aj
 case binOp op t x y ty'=>
  simp only[cK]at aj;by_cases ad:∃ mm xW,bH F x=.val mm/\bH F y=.val xW
  ·obtain⟨mm,xW,ad,aE⟩:=ad;have fin:∀ r,(∀ w,(do eqGuard op t x y mm xW;binOp op t mm xW:Sem Value).run X.P w=.ok r w)->zq (.val r)->(other\/∃ v lj,(execOp a.eval ⟨dst,.binOp op t x y ty',ty,pos,after,guard⟩).run X.P w=.ok (.value v) w/\e5 β lj v/\zq lj):=λr af ae=>by refine hV (v:=r) ?_ ae;have:=af w;rw[<-dh aB ad,<-dh aB aE]at this;simp only[execOp];simp only[cu]at this |-;rw[this];rfl
   rcases ahA aO op t x y _ _ mm xW ad aE _ _ aj with(⟨lg,fP,r,aH,aM,af,ae⟩ | aa) | ⟨r,af,ae⟩;·rw[show dB (dn F) x=bH F x from rfl,ad]at aH;rw[show dB (dn F) y=bH F y from rfl,aE]at aM;cases aH;cases aM;exact fin r af ae
   ·exact Or.inl aa
   ·exact fin r af ae
  ·unfold lQ at aj;split at aj
   ·rename_i aK a7;exact(ad ⟨_,_,aK,a7⟩).elim
   ·rename_i aK a7;exact(ad ⟨_,_,aK,a7⟩).elim
   ·rename_i aK a7;exact(ad ⟨_,_,aK,a7⟩).elim
   ·rcases aj with⟨lg,fP,r,aH,aM,af,ae⟩ | aa
    ·exact(ad ⟨_,_,aH,aM⟩).elim
    ·exact Or.inl aa
 case load t x=>
  simp only[cK]at aj;split at aj
  ·rename_i i hi;split at aj
   ·rename_i s off ad;have kn:=Bs aB ad;split at aj
    ·rename_i cs av;cases bk:Nat.ble (off+i.size) cs.length with
     |false=>rw[bk]at aj;exact aj.elim| true=>rw[bk]at aj;have gl:=bK bk;obtain⟨T,bl⟩:=(h.cr s cs av).aY;refine hV (v:=pack i.bQ.agg ((cs.drop off).take i.size)) ?_ aj;have:=KB (aO _ _ hi) (a:=⟨β s,off,none⟩) rfl bl (vs:=(cs.drop off).take i.size) (by simp) (by simp;omega);simp[execOp,Instr.loadAt,Instr.sureAddr,kn,this]
    ·exact aj.elim
   ·rename_i aP ad;have kn:=uO aB ad;obtain⟨vs,⟨de,cs,T,an,fh,iK,aA⟩,ae⟩:=aj;refine hV (v:=pack i.bQ.agg vs) ?_ ae;have:=KB (aO _ _ hi) de (fh.heap h.holds) iK aA;simp[execOp,Instr.loadAt,Instr.sureAddr,kn,this]
   ·exact aj.elim
  ·exact aj.elim
 case nilCheck x=>
  simp only[cK]at aj;split at aj;·rename_i s off ad;exact done (v:=.pointer (some ⟨β s,off,none⟩)) (x:=.ref s off) (by simp[execOp,Bs aB ad]) rfl aj
  ·rename_i aP ad;exact hV (v:=.pointer (some aP)) (by simp[execOp,uO aB ad]) aj
  ·exact Or.inl aj
 case fieldAddr t x i=>
  simp only[cK]at aj;split at aj
  ·rename_i sz hT z cO au;obtain⟨fields,hu,rfl⟩:=(aO _ _ au).struct;split at aj
   ·rename_i fy off rm;obtain⟨f,wm,rfl,rfl⟩:=V2 rm;split at aj
    ·rename_i hv s o' pF ad;cases bd:Nat.beq hv.size 0 with
     |true=>rw[bd]at aj;exact aj.elim
     |false=>
      rw[bd]at aj;have gO:hv.size≠0:=λe=>by rw[e]at bd;cases bd
      refine done (v:=.pointer (some ⟨β s,o'+f.offset,none⟩)) (x:=.ref s (o'+f.offset)) ?_ rfl aj;simp[execOp,Instr.fieldAt,run_underlying hu,wm,Bs aB ad,Instr.sureAddr,fieldPlace,(aO _ _ pF).run_sizeOf,gO,eO]
    ·rename_i hv aP pF ad;cases bd:Nat.beq hv.size 0 with
     |true=>rw[bd]at aj;exact aj.elim
     |false=>
      rw[bd]at aj;have gO:hv.size≠0:=λe=>by rw[e]at bd;cases bd
      refine hV (v:=.pointer (some (aP.add f.offset))) ?_ aj;simp[execOp,Instr.fieldAt,run_underlying hu,wm,uO aB ad,Instr.sureAddr,fieldPlace,(aO _ _ pF).run_sizeOf,gO]
    ·exact aj.elim
   ·exact aj.elim
  ·exact aj.elim
 case field t x i=>
  simp only[cK]at aj;split at aj
  ·rename_i sz hT z cO cs au ad;obtain⟨fields,hu,rfl⟩:=(aO _ _ au).struct;split at aj
   ·rename_i fy off rm;obtain⟨f,wm,rfl,rfl⟩:=V2 rm;split at aj
    ·rename_i hv pF;cases bd:Nat.ble (f.offset+hv.size) cs.size with
     |false=>rw[bd]at aj;exact aj.elim| true=>rw[bd]at aj;refine hV ?_ aj;simp[execOp,Instr.field,run_underlying hu,wm,dh aB ad,asAgg,OS (aO _ _ pF) (bK bd)]
    ·exact aj.elim
   ·exact aj.elim
  ·exact aj.elim
 case indexAddr t x i=>
  simp only[cK]at aj;split at aj
  ·rename_i sz hT z e gq k au hi;have hu:=(aO _ _ au).slice;split at aj
   ·rename_i aG bN n c hG ad;obtain⟨aP,j,rfl,rfl,ak,ae⟩:=aj;refine hV ?_ ae;simp[execOp,dh aB ad,dh aB hi,ahC hu (aO _ _ hG) ak]
   ·exact aj.elim
  ·rename_i sz hT z n e gq k au hi;have hu:=(aO _ _ au).array;split at aj
   ·rename_i aG s o' hG ad;obtain⟨j,rfl,ak,ae⟩:=aj;refine done (v:=.pointer (some ⟨β s,o'+j*aG.size,none⟩)) (x:=.ref s (o'+j*aG.size)) ?_ rfl ae;simp[execOp,Bs aB ad,dh aB hi,V3 hu (aO _ _ hG) ak,eO]
   ·rename_i aG aP hG ad;obtain⟨j,rfl,ak,ae⟩:=aj;refine hV ?_ ae;simp[execOp,uO aB ad,dh aB hi,V3 hu (aO _ _ hG) ak]
   ·exact aj.elim
  ·exact aj.elim
 case index t x i=>
  simp only[cK]at aj;split at aj;·rename_i sz hT z s gq k au ad hi;have hu:=(aO _ _ au).string;obtain⟨j,rfl,ak,ae⟩:=aj;refine hV ?_ ae;simp only[execOp,dh aB ad,dh aB hi,Instr.index,cu,oE,bY,run_underlying hu];rw[bT (by omega:(0:Int)<=j)];simp[ak]
  ·rename_i sz hT z n e cs gq k au ad hi;have hu:=(aO _ _ au).array;split at aj
   ·rename_i aG hG;cases bd:Nat.beq (n*aG.size) cs.size with
    |false=>rw[bd]at aj;exact aj.elim
    |true=>
     rw[bd]at aj;obtain⟨j,rfl,ak,ae⟩:=aj;have gO:=dJ bd;refine hV ?_ ae;have bk:j*aG.size+aG.size<=cs.size:=by rw[<-gO,<-Kv];exact qn _ ak
     simp only[execOp,dh aB ad,dh aB hi,Instr.index,cu,oE,bY,run_underlying hu];rw[bT ⟨by omega,by omega⟩];simp[(aO _ _ hG).run_sizeOf,OS (aO _ _ hG) bk]
   ·exact aj.elim
  ·exact aj.elim
 case build t parts=>
  simp only[cK]at aj;split at aj
  ·rename_i i vs hi iK;have aH:=Ky aB iK;have zr:(parts.map λ(i,x)=>(i,a.eval x)).toList=vs:=by simpa using aH
   obtain⟨z,bd,xX⟩:=(aO _ _ hi).Gz w;have DL:z.cells=i.zero.toArray:=by rw[<-xX]
   split at aj
   ·rename_i cO n3;cases bi:DH X.E cO with
    |false=>rw[bi]at aj;exact aj.elim
    |true=>
     rw[bi]at aj;simp only[cp]at aj;split at aj
     ·rename_i cells Bv;obtain⟨sz,hT,ahD,bQ⟩:=i;simp only at n3;subst n3;obtain⟨fields,hu,rfl⟩:=(aO _ _ hi).struct;obtain⟨l,aA,nz⟩:=V4 aO w fields.toList bi;refine hV ?_ aj;have hm:(fields.mapM λf=>(do pure (f.offset,<-sizeOf f.type):Sem (Nat×Nat))).run X.P w=.ok l.toArray w:=by rw[VN,Sem.run_map,aA];rfl
      have wo:=fill_eq _ _ _ _ Bv;have ahE:(λj=>l.toArray[j]?)=places X.E (fields.toList.map λf=>(f.type,f.offset)):=by funext j;rw[<-nz j];simp
      simp only[execOp,Instr.build,cu,bd,bY,run_underlying hu,DL,zr];rw[hm];simp only[bY,ahE,wo,c7]
     ·exact aj.elim
   ·rename_i n e n3;split at aj
    ·rename_i aG hG;split at aj
     ·rename_i cells Bv;obtain⟨sz,hT,ahD,bQ⟩:=i;simp only at n3;subst n3;have hu:=(aO _ _ hi).array;refine hV ?_ aj;have wo:=fill_eq _ _ _ _ Bv;simp only[execOp,Instr.build,cu,bd,bY,run_underlying hu,DL,zr,(aO _ _ hG).run_sizeOf,wo,c7]
     ·exact aj.elim
    ·exact aj.elim
   ·exact aj.elim
  ·exact aj.elim
 case makeFunc fn first captured=>
  simp only[cK]at aj;split at aj
  ·rename_i cO cs aa ab;have aK:=tq aB aa;have a7:=tq aB ab;refine hV ?_ aj;have eB:first.map a.eval=cO.toArray:=by apply gX;simpa using aK
   have rn:captured.map a.eval=cs.toArray:=by apply gX;simpa using a7
   simp[execOp,Instr.makeFunc,eB,rn]
  ·exact aj.elim
 case slice t x lo hi mx=>
  simp only[cK]at aj;split at aj
  ·rename_i sz hT z e bN n c au ad iA;have OT:mx=none:=by simpa using iA
   subst OT;have hu:=(aO _ _ au).slice;have kn:=dh aB ad;split at aj
   ·rename_i aG hG eZ gI;have uP:lo=none:=by simpa using eZ
    have Bw:hi=none:=by simpa using gI
    subst uP;subst Bw;refine hV ?_ aj;have aK:(if c=0 then bN else bN.map (·.add (0*aG.size)))=bN:=by split<;>cases bN<;>simp[Addr.add]
    simp[execOp,Instr.sliceAt,Instr.slice,Instr.sliceBounds,kn,run_underlying hu,(aO _ _ hG).run_sizeOf,Addr.add]
   ·rename_i aG gq j3 hG eZ gI;have uP:lo=none:=by simpa using eZ
    subst uP;obtain⟨KE,rfl,c4⟩:=ti.1 gI;obtain⟨l,ab,Bx,rfl,bk,sB,ae⟩:=aj;refine hV ?_ ae;simp only[execOp,Instr.sliceAt,Instr.slice,Instr.sliceBounds,Instr.sliceBound,kn,cu,run_underlying hu,bY,(aO _ _ hG).run_sizeOf,c7,lb,uI,dh aB c4,oE];rw[bT ⟨by omega,by omega⟩];simp[Addr.add]
   ·rename_i aG gq hl hG eZ gI;have Bw:hi=none:=by simpa using gI
    subst Bw;obtain⟨OU,rfl,c4⟩:=ti.1 eZ;obtain⟨l,ab,rfl,By,bk,sB,ae⟩:=aj;simp only[uH,kK]at *;refine hV ?_ ae;simp only[execOp,Instr.sliceAt,Instr.slice,Instr.sliceBounds,Instr.sliceBound,kn,cu,run_underlying hu,bY,(aO _ _ hG).run_sizeOf,c7,lb,uI,dh aB c4,oE];rw[bT ⟨by omega,by omega⟩];simp
   ·rename_i aG gq hl ahF j3 hG eZ gI;obtain⟨OU,rfl,c4⟩:=ti.1 eZ;obtain⟨KE,rfl,Bz⟩:=ti.1 gI;obtain⟨l,ab,rfl,rfl,bk,sB,ae⟩:=aj;refine hV ?_ ae;simp only[execOp,Instr.sliceAt,Instr.slice,Instr.sliceBounds,Instr.sliceBound,kn,cu,run_underlying hu,bY,(aO _ _ hG).run_sizeOf,c7,lb,uI,dh aB c4,dh aB Bz,oE];rw[bT ⟨by omega,by omega⟩];simp only[c7,bY,gN];rw[bT ⟨by omega,by omega⟩];simp
   ·exact aj.elim
  ·rename_i sz hT z s au ad iA;have OT:mx=none:=by simpa using iA
   subst OT;have hu:=(aO _ _ au).string;have kn:=dh aB ad;split at aj
   ·rename_i eZ gI;have uP:lo=none:=by simpa using eZ
    have Bw:hi=none:=by simpa using gI
    subst uP;subst Bw;refine hV ?_ aj;have aK:s.extract 0 s.size=s:=by apply we;simp[Ks]
    simp[execOp,Instr.sliceAt,Instr.slice,Instr.sliceBounds,kn,run_underlying hu,aK]
   ·rename_i gq j3 eZ gI;have uP:lo=none:=by simpa using eZ
    subst uP;obtain⟨KE,rfl,c4⟩:=ti.1 gI;obtain⟨l,ab,Bx,rfl,bk,sB,ae⟩:=aj;refine hV ?_ ae;simp only[execOp,Instr.sliceAt,Instr.slice,Instr.sliceBounds,Instr.sliceBound,kn,cu,run_underlying hu,bY,c7,lb,uI,dh aB c4,oE];simp only[OG,k',mh,cu,c7,bY,oE];rw[bT ⟨by omega,by omega⟩];simp
   ·rename_i gq hl eZ gI;have Bw:hi=none:=by simpa using gI
    subst Bw;obtain⟨OU,rfl,c4⟩:=ti.1 eZ;obtain⟨l,ab,rfl,By,bk,sB,ae⟩:=aj;simp only[uH,kK]at *;refine hV ?_ ae;simp only[execOp,Instr.sliceAt,Instr.slice,Instr.sliceBounds,Instr.sliceBound,kn,cu,run_underlying hu,bY,c7,lb,uI,dh aB c4,oE];simp only[OG,k',mh,cu,c7,bY,oE];rw[bT ⟨by omega,by omega⟩];simp
   ·rename_i gq hl ahF j3 eZ gI;obtain⟨OU,rfl,c4⟩:=ti.1 eZ;obtain⟨KE,rfl,Bz⟩:=ti.1 gI;obtain⟨l,ab,rfl,rfl,bk,sB,ae⟩:=aj;refine hV ?_ ae;simp only[execOp,Instr.sliceAt,Instr.slice,Instr.sliceBounds,Instr.sliceBound,kn,cu,run_underlying hu,bY,c7,lb,uI,dh aB c4,dh aB Bz,oE];simp only[OG,k',mh,cu,c7,bY,oE];rw[bT ⟨by omega,by omega⟩];simp only[c7,bY,gN];rw[bT ⟨by omega,by omega⟩];simp
   ·exact aj.elim
  ·rename_i sz hT z e bN n c awO BA au ad iA;obtain⟨awP,rfl,ahG⟩:=ti.1 iA;have hu:=(aO _ _ au).slice;have kn:=dh aB ad;split at aj
   ·rename_i aG gq j3 hG eZ gI;have uP:lo=none:=by simpa using eZ
    subst uP;obtain⟨KE,rfl,c4⟩:=ti.1 gI;obtain⟨l,m,rfl,rfl,bk,sB,ae⟩:=aj;refine hV ?_ ae;simp only[execOp,Instr.sliceAt,Instr.slice,Instr.sliceBounds,Instr.sliceBound,kn,cu,run_underlying hu,bY,(aO _ _ hG).run_sizeOf,c7,lb,uI,dh aB c4,dh aB ahG,oE];rw[bT ⟨by omega,by omega⟩];simp only[c7,bY,gN];rw[bT ⟨by omega,by omega⟩];simp only[c7,bY,gN]
   ·exact Or.inl aj
  ·exact Or.inl aj
 case extract x i=>
  simp only[cK]at aj;split at aj
  ·rename_i vs ad;split at aj
   ·rename_i v hi;refine hV ?_ aj;have cG:vs[i]?=some v:=by simpa using hi
    simp[execOp,Instr.extract,dh aB ad,cG]
   ·exact aj.elim
  ·exact aj.elim
 case convert s d x=>
  simp only[cK]at aj;split at aj;·rename_i awQ sz hT z k fu n av au ad;have hu:=(aO _ _ au).int;obtain⟨ds,fK,_⟩:=(aO _ _ av).ft;obtain⟨r,af,ae⟩:=aj;refine hV ?_ ae;simp only[execOp,convert,dh aB ad,cu,run_underlying fK,run_underlying hu,bY];simp only[Conv.intToInt,af,c7,bY]
  ·exact Or.inl aj
 case call c=>
  obtain⟨callee,args,argTypes⟩:=c;cases callee with
  |value f=>exact .inl aj| invoke r m=>exact .inl aj
  |builtin b=>
   cases b
   case len=>
    simp only[cK]at aj;split at aj
    ·rename_i t v aa ab;have aK:=tq aB ab;have eB:args.map a.eval=#[v]:=by apply gX;simpa using aK
     have au:argTypes=#[t]:=by apply gX;simpa using aa
     subst au;split at aj;·rename_i sz hT z e aP n c bl;have hu:=(aO _ _ bl).slice;refine hV ?_ aj;simp[execOp,resolve,invoke,builtin,Builtin.len_,eB,run_underlying hu,goInt]
     ·rename_i sz hT z s bl;have hu:=(aO _ _ bl).string;refine hV ?_ aj;simp[execOp,resolve,invoke,builtin,Builtin.len_,eB,run_underlying hu,goInt]
     ·rename_i sz hT z n e bl;have hu:=(aO _ _ bl).array;refine hV ?_ aj;simp[execOp,resolve,invoke,builtin,Builtin.len_,eB,run_underlying hu,goInt]
     ·exact Or.inl aj
    ·exact Or.inl aj
   case cap=>
    simp only[cK]at aj;split at aj
    ·rename_i t v aa ab;have aK:=tq aB ab;have eB:args.map a.eval=#[v]:=by apply gX;simpa using aK
     have au:argTypes=#[t]:=by apply gX;simpa using aa
     subst au;split at aj;·rename_i sz hT z e aP n c bl;have hu:=(aO _ _ bl).slice;refine hV ?_ aj;simp[execOp,resolve,invoke,builtin,Builtin.cap_,eB,run_underlying hu,goInt]
     ·exact Or.inl aj
    ·exact Or.inl aj
   case max=>
    simp only[cK]at aj;split at aj
    ·rename_i k p fu q ab;have aK:=tq aB ab;have eB:args.map a.eval=#[.int k p,.int fu q]:=by apply gX;simpa using aK
     refine hV ?_ aj;have hm:(if q > p then q else p)=max p q:=by split<;>omega
     simp only[execOp,resolve,invoke,builtin,Builtin.max_,Builtin.max2,eB,cu,c7,bY,List.foldlM_cons,List.foldlM_nil,hm]
    ·exact Or.inl aj
   case min=>
    simp only[cK]at aj;split at aj
    ·rename_i k p fu q ab;have aK:=tq aB ab;have eB:args.map a.eval=#[.int k p,.int fu q]:=by apply gX;simpa using aK
     refine hV ?_ aj;have hm:(if q<p then q else p)=min p q:=by split<;>omega
     simp only[execOp,resolve,invoke,builtin,Builtin.min_,Builtin.min2,eB,cu,c7,bY,List.foldlM_cons,List.foldlM_nil,hm]
    ·exact Or.inl aj
   case unsafeSliceData=>
    simp only[cK]at aj;split at aj
    ·rename_i n c ab;have aK:=tq aB ab;have eB:args.map a.eval=#[.slice none n c]:=by apply gX;simpa using aK
     refine hV ?_ aj;simp only[execOp,resolve,invoke,builtin,eB,cu,c7,bY,Lib.run_unsafeSliceData_nil]
    ·rename_i aP n c ab;obtain⟨ai,aj⟩:=aj;have aK:=tq aB ab;have eB:args.map a.eval=#[.slice (some aP) n c]:=by apply gX;simpa using aK
     refine hV ?_ aj;simp only[execOp,resolve,invoke,builtin,eB,cu,c7,bY,Lib.run_unsafeSliceData_row _ _ _ _ _ _ (show c≠0 by omega)]
    ·exact Or.inl aj
   all_goals exact .inl aj
 all_goals exact .inl aj
def DM(aO:cX X.P X.E)(ah:∀ d,o.dst=some d->d<X.n)(h:Rel X a w F C I M)(aj:gZ X o F C I M K):o.wpIn (g8 X) 0 X.P a w (Sat X K) Q:=by
 have aX:=h;obtain⟨β,h⟩:=h;obtain⟨dst,op,ty,pos,after,guard⟩:=o;have other:bF X ⟨dst,op,ty,pos,after,guard⟩ F C I M K->(⟨dst,op,ty,pos,after,guard⟩:Oper).wpIn (g8 X) 0 X.P a w (Sat X K) Q:=λ⟨h⟩=>h a w Q aX;have aB:=h.an;have quiet:cK X op (dn F) C I M (λx=>K (Go.V.put dst x F) C I M) (bF X ⟨dst,op,ty,pos,after,guard⟩ F C I M K)->(∀ c,op≠.defer c)->(⟨dst,op,ty,pos,after,guard⟩:Oper).wpIn (g8 X) 0 X.P a w (Sat X K) Q:=λaM bV=>by
  rcases V5 aO h op ty dst pos after guard aM with aa | ⟨v,x,af,ad,ae⟩;·exact other aa
  ·exact VV (o:=⟨dst,op,ty,pos,after,guard⟩) h ah bV af ad ae
 cases op
 case box t x=>
  simp only[gZ]at aj;split at aj
  ·rename_i d v ad;have kn:=dh aB ad;have af:(execOp a.eval ⟨some d,.box t x,ty,pos,after,guard⟩).run X.P w=.ok (.value (.pointer (some ⟨w.heap.size,0,none⟩))) (w.alloc (.cells v.cells t (0,0))):=by simp[execOp,Instr.box,newVar,newRow,kn,Bp]
   have h8:d<X.n:=ah d rfl;cases ko:X.gJ.contains d with
   |true=>rw[ko]at aj;obtain⟨aj⟩:=aj;have ae:=aj w.heap.size h.holds.sA h.holds.rk;have aa:=(h.n2 (.cells v.cells t (0,0))).OP d;exact iJ (by simp) af ⟨_,_,_,_,⟨β,cL.put aa (dst:=some d) (x:=.val (.pointer (some ⟨w.heap.size,0,none⟩))) (by simpa using h8) rfl⟩,ae⟩
   |false=>rw[ko]at aj;obtain⟨oC,aa⟩:=h.VR d h8 v.cells.toList t;exact iJ (by simp) af ⟨_,_,_,_,⟨oC,by simpa using aa⟩,aj⟩
  ·exact aj.elim
 case alloc t=>
  simp only[gZ]at aj;split at aj
  ·rename_i d i hi;obtain⟨z,bd,xX⟩:=(aO _ _ hi).Gz w;have DL:z.cells=i.zero.toArray:=by rw[<-xX]
   have af:(execOp a.eval ⟨some d,.alloc t,ty,pos,after,guard⟩).run X.P w=.ok (.value (.pointer (some ⟨w.heap.size,0,none⟩))) (w.alloc (.cells i.zero.toArray t (0,0))):=by simp[execOp,Instr.alloc,newVar,newRow,bd,DL,Bp]
   have h8:d<X.n:=ah d rfl;cases ko:X.gJ.contains d with
   |true=>rw[ko]at aj;obtain⟨aj⟩:=aj;have ae:=aj w.heap.size h.holds.sA h.holds.rk;have aa:=(h.n2 (.cells i.zero.toArray t (0,0))).OP d;exact iJ (by simp) af ⟨_,_,_,_,⟨β,cL.put aa (dst:=some d) (x:=.val (.pointer (some ⟨w.heap.size,0,none⟩))) (by simpa using h8) rfl⟩,ae⟩
   |false=>rw[ko]at aj;obtain⟨oC,aa⟩:=h.VR d h8 i.zero t;exact iJ (by simp) af ⟨_,_,_,_,⟨oC,aa⟩,aj⟩
  ·exact aj.elim
 case store t x y=>
  simp only[gZ]at aj;split at aj
  ·rename_i i v hi aE;have tt:=dh aB aE;split at aj
   ·rename_i s off ad;have kn:=Bs aB ad;split at aj
    ·rename_i cs av;cases bk:(Nat.ble (off+i.size) cs.length&&(Nat.beq v.cells.size i.size&&fJ v.cells.toList))with
     |false=>rw[bk]at aj;exact aj.elim| true=>rw[bk]at aj;simp only[cw]at bk;obtain⟨bk,dk,qs⟩:=bk;have gl:=bK bk;have BB:=dJ dk;obtain⟨T,bl⟩:=(h.cr s cs av).aY;have:=KD (aO _ _ hi) (a:=⟨β s,off,none⟩) (v:=v) rfl bl BB (by simp;omega) qs;refine DI (by simp) (w':=w.setRow (β s) (cq cs off v.cells.toList).toArray) ?_ ⟨_,_,_,_,⟨β,h.VT av (cq cs off v.cells.toList)⟩,aj⟩;simp only[execOp,Instr.storeAt,kn,tt,Instr.sureAddr,cu,c7,bY];simp only[OE]at this;rw[this];rfl
    ·exact aj.elim
   ·rename_i aP ad;have kn:=uO aB ad;cases dk:Nat.beq v.cells.size i.size with
    |false=>rw[dk]at aj;exact aj.elim| true=>rw[dk]at aj;obtain⟨a9,post,cs,T,bb,de,ag,qs,ae⟩:=aj;have BB:=dJ dk;have ax:w.heap[aP.block]?=some (.cells cs T (0,0)):=h.holds.m ⟨aP.block,.cells cs T (0,0)⟩ (by rw[bb];simp);have:=KD (aO _ _ hi) (v:=v) de ax BB ag qs;refine DI (by simp) (w':=w.setRow aP.block (cq cs.toList aP.off v.cells.toList).toArray) ?_ ⟨_,_,_,_,⟨β,h.xU bb⟩,ae⟩;simp only[execOp,Instr.storeAt,kn,tt,Instr.sureAddr,cu,c7,bY];rw[this];rfl
   ·exact aj.elim
  ·exact aj.elim
 case buildSlice t len parts=>
  simp only[gZ]at aj;split at aj
  ·rename_i sz hT z e vs au iK;have hu:=(aO _ _ au).slice;have aH:=Ky aB iK;have zr:(parts.map λ(i,x)=>(i,a.eval x)).toList=vs:=by simpa using aH
   split at aj
   ·rename_i aG hG;cases bd:(Nat.ble (len*aG.size) 16777216&&Nat.blt 0 (len*aG.size))with
    |false=>
     rw[bd]at aj;simp only[cb]at aj;split at aj
     ·rename_i ahH;obtain⟨aj⟩:=aj;have ae:=aj w.heap.size h.holds.sA h.holds.rk;refine iJ (by simp) (v:=.slice (some ⟨w.heap.size,0,none⟩) 0 0) (w':=w.alloc (.cells #[] e (0,0))) ?_ ⟨_,_,_,_,⟨β,(h.n2 _).put (x:=.val (.slice (some ⟨w.heap.size,0,none⟩) 0 0)) ah rfl⟩,ae⟩;simp only[execOp,Instr.buildSlice,cu,bY,run_underlying hu,(aO _ _ hG).run_sizeOf,zr];have di:∀ f:Nat->Value,Array.map f (Array.range 0)=#[]:=λf=>by apply Array.ext<;>simp
      simp[newRow,Bp,Instr.fill,di]
     ·exact aj.elim
    |true=>
     rw[bd]at aj;simp only[cp]at aj;rw[cw]at bd;have bk:=bK bd.1;have mo:0<len*aG.size:=by simpa using bd.2
     split at aj;·rename_i cells Bv;obtain⟨tu,BC,xX⟩:=(aO _ _ hG).Gz w;obtain⟨aj⟩:=aj;have ae:=aj w.heap.size h.holds.sA h.holds.rk;refine iJ (by simp) (v:=.slice (some ⟨w.heap.size,0,none⟩) len len) (w':=w.alloc (.cells cells.toArray e (0,0))) ?_ ⟨_,_,_,_,⟨β,(h.n2 _).put (x:=.val (.slice (some ⟨w.heap.size,0,none⟩) len len)) ah rfl⟩,ae⟩;have wo:=fill_eq _ _ _ _ Bv;simp only[execOp,Instr.buildSlice,cu,bY,run_underlying hu,(aO _ _ hG).run_sizeOf];rw[bP (by omega)];simp only[bP (show ¬ len*aG.size=0 by omega),cu,BC,bY,c7,zr,V1 tu aG.zero xX,wo];simp[newRow,Bp]
     ·exact aj.elim
   ·exact aj.elim
  ·exact aj.elim
 case makeSlice t l c=>
  simp only[gZ]at aj;split at aj
  ·rename_i sz hT z e fz dC cx c' au aA ao;have hu:=(aO _ _ au).slice;split at aj
   ·rename_i aG hG;obtain⟨n,m,rfl,rfl,mq,ag,hm,⟨aj⟩⟩:=aj;have ae:=aj w.heap.size h.holds.sA h.holds.rk;obtain⟨inf,tu,fv,hW,ik,j4,BD⟩:=(aO _ _ hG).inf;refine iJ (by simp) (v:=.slice (some ⟨w.heap.size,0,none⟩) n m) (w':=w.alloc (.cells (rowOf aG.zero (m*aG.size)).toArray e (0,0))) ?_ ⟨_,_,_,_,⟨β,(h.n2 _).put (x:=.val (.slice (some ⟨w.heap.size,0,none⟩) n m)) ah rfl⟩,ae⟩;have iC:((aG.bytes:Nat):Int)*(m:Int)<=281474976710656:=by
     have ab:((aG.bytes*m:Nat):Int)<=281474976710656:=by omega
     simpa using ab
    have:=run_make (P:=X.P) w t e inf tu hu fv j4 fz cx (n:Int) (m:Int) (by omega) (by omega) (by rw[ik];exact iC) (by omega);simp only[execOp,dh aB aA,dh aB ao,cu,this,bY,c7,gN];have aK:madeCells tu.cells (m*inf.size)=(rowOf aG.zero (m*aG.size)).toArray:=by rw[hW,<-BD];simp[tp]
    rw[aK]
   ·exact aj.elim
  ·exact aj.elim
 case call c=>
  obtain⟨callee,args,argTypes⟩:=c;cases callee with
  |value f=>
   simp only[gZ]at aj;split at aj
   ·rename_i g first cap vs zs iK
    have aK:=tq aB iK;have eB:args.map a.eval=vs.toArray:=by apply gX;simpa using aK
    have e':∀ {n:Next} {w':World},(callFunc g (first.toList++vs++cap.toList).toArray).run X.P w=.ok n w'->(execOp a.eval ⟨dst,.call { callee:=.value f,args,argTypes },ty,pos,after,guard⟩).run X.P w=.ok n w':=λaf=>by simp only[execOp,resolve,dh aB zs,Deferred.ofValue,cu,c7,bY,eB,invoke];rw[show first++vs.toArray++cap=(first.toList++vs++cap.toList).toArray from by apply gX;simp];exact af
    rcases h.call aj with⟨qq,BE⟩ | ⟨v,w',I',M',af,ae,fA⟩;·refine V0 (by simp) (f:=g) (args:=(first.toList++vs++cap.toList).toArray) (e' (qq _ _)) ?_;refine BE.mono ?_;rintro e w'⟨v,I',M',rfl,ae,af⟩;exact⟨v,rfl,_,_,_,_,⟨β,af.put (x:=.val v) ah rfl⟩,ae⟩
    ·exact iJ (by simp) (e' af) ⟨_,_,_,_,⟨β,fA.put (x:=.val v) ah rfl⟩,ae⟩
   ·exact other aj
  |invoke r m=>exact quiet aj (by simp)
  |builtin b=>
   cases b
   all_goals exact quiet aj (by simp)
 case defer c=>exact other aj
 all_goals exact quiet aj (by simp)
end
section
variable{X:c1}{β:Nat->Nat}{a:Act}{w:World}{F:Fr}{C:dO}{I:aJ}{M:List aF}{o:Oper}{Q:Exit->Act->World->Prop}{K:gr}
def DN{a:Act}{d:Nat}{c:Bool}(h:a.tmps.getD d undef=.bool c):a.tmps[d]?=some (.bool c):=by
 rw[pB]at h;cases ah:a.tmps[d]? with
 |none=>rw[ah]at h;cases h| some v=>rw[ah]at h;simp at h;rw[h]
def GC{j d:Nat}(ah:(ops[j]?).bind (·.dst)=some d)(tmps:Array Value):yielded ops tmps j=match tmps[d]? with
  |some (.bool b)=>some b| _=>none:=by
 unfold yielded;rw[ah];rfl
def cL.refine(h:cL X β a w F C I M){c9:Fr}(bs:∀ t,e5 β (c9 t) (a.tmps.getD t undef)):cL X β a w c9 C I M:={ h with an:=bs }
def V6(aO:cX X.P X.E)(ops:Array Oper)(nA:∀ a w,Sat X K a w->Q .normal a w):∀ (l:List Oper) (k:Nat),(∀ j,l[j]?=ops[k+j]?)->(∀ o∈l,∀ d,o.dst=some d->d<X.n) -> ∀ {F C I M a w},Rel X a w F C I M->uN X ops.toList l F C I M K->wpOpsIn (g8 X) 0 X.P ops Q (List.range' k l.length) a w
 |[],k,_,_,F,C,I,M,a,w,aX,aj=>nA _ _ ⟨F,C,I,M,aX,aj⟩
 |o::bo,k,aA,ah,F,C,I,M,a,w,aX,aj=>by
  have aw:ops[k]?=some o:=by simpa using(aA 0).symm
  have rp:∀ j,bo[j]?=ops[k+1+j]?:=λj=>by have:=aA (j+1);simpa[tl,Gv 1 j]using this
  have fE:∀ o∈bo,∀ d,o.dst=some d->d<X.n:=λo aC=>ah o (by simp[aC]);have zt:=ah o (by simp);have aN:=@V6 aO ops nA bo (k+1) rp fE;simp only[eo,OH,wpOpsIn,aw];have run:∀ {F C I M},Rel X a w F C I M->gZ X o F C I M (λF C I M=>uN X ops.toList bo F C I M K)->o.wpIn (g8 X) 0 X.P a w (wpOpsIn (g8 X) 0 X.P ops Q (List.range' (k+1) bo.length)) Q:=λaX aj=>
   tk (λbN w' ⟨c9,C',I',M',af,ae⟩=>aN af ae) (DM aO zt aX aj)
  have skip:∀ {F C I M},Rel X a w F C I M->uN X ops.toList bo (put o.dst (.val undef) F) C I M K->(∀ f,o.about X.P w a.eval=some f->(g8 X).fn f)/\wpOpsIn (g8 X) 0 X.P ops Q (List.range' (k+1) bo.length) (a.put o.dst undef) w:=λ⟨β,af⟩ aj=>
   ⟨λ_ _=>trivial,aN ⟨β,af.put (x:=.val undef) zt rfl⟩ aj⟩
  unfold uN at aj;cases ax:o.guard with
  |none=>
   rw[ax]at aj;have hw:Region.wanted o (yielded ops a.tmps)=true:=by simp[Region.wanted,ax]
   rw[bT hw];exact run aX aj
  |some GD=>
   obtain⟨j,b⟩:=GD;rw[ax]at aj;simp only at aj;cases ak:(ops.toList[j]?).bind (·.dst)with
   |none=>rw[ak]at aj;exact aj.elim
   |some d=>
    rw[ak]at aj;simp only at aj;have jM:(ops[j]?).bind (·.dst)=some d:=by simpa using ak
    have aE:=GC jM a.tmps;obtain⟨β,af⟩:=aX;have bs:=af.an d;split at aj
    ·rename_i c ao;rw[ao]at bs;have GF:=DN bs;have GG:Region.wanted o (yielded ops a.tmps)=(c == b):=by simp[Region.wanted,ax,aE,GF]
     rw[GG];cases jN:(c == b)with
     |true=>rw[jN]at aj;simp only[sv];exact run ⟨β,af⟩ aj| false=>rw[jN]at aj;simp only[k',mh];exact skip ⟨β,af⟩ aj
    ·rename_i c ao;rw[ao]at bs;have GF:=DN bs;have GG:Region.wanted o (yielded ops a.tmps)=(c == b):=by simp[Region.wanted,ax,aE,GF]
     rw[GG];obtain⟨KF,lR⟩:=aj;have set:∀ x:Bool,c=x->Rel X a w (gY F d (.lit x)) C I M:=λx ad=>⟨β,af.refine λt=>by
      unfold gY;by_cases e:t=d;·subst e;simp only[rj,cp];rw[<-ad];exact bs
      ·simp only[hF e,cb];exact af.an t⟩
     by_cases jN:c=b
     ·have:(c == b)=true:=by simp[jN]
      rw[this];simp only[sv];exact run (set b jN) (KF jN)
     ·have ab:c=!b:=by cases c<;>cases b<;>simp_all
      have:(c == b)=false:=by simp[jN]
      rw[this];simp only[k',mh];exact skip (set _ ab) (lR ab)
    ·rename_i vs ao;rw[ao]at bs;have uQ:yielded ops a.tmps j=none:=by
      rw[aE];cases jO:a.tmps[d]? with
      |none=>rfl| some v=>simp only[e5,pB,jO,kK]at bs;subst bs;rfl
     have GG:Region.wanted o (yielded ops a.tmps)=false:=by simp[Region.wanted,ax,uQ]
     rw[GG];simp only[k',mh];exact skip ⟨β,af⟩ aj
    ·exact aj.elim
end
inductive zu:dH->dH->Prop
 |refl{x}:zu x x| lit {b}:zu (.lit b) (.val (.bool b))| ny {x}:zu x .ny
def rq:List (Nat×dH)->Fr
 |[],_=>.ny|(t,x)::l,s=>bif Nat.beq s t then x else rq l s
def rr:List (Nat×List Value)->dO
 |[],_=>none|(t,x)::l,s=>bif Nat.beq s t then some x else rr l s
inductive lk(F:Fr):List (Nat×dH)->Prop
 |nil:lk F []| cons {t x l} (h:zu (F t) x) (k:lk F l):lk F ((t,x)::l)
inductive zv(C:dO):List (Nat×List Value)->Prop
 |nil:zv C []| cons {t x l} (h:C t=some x) (k:zv C l):zv C ((t,x)::l)
def ahI{β:Nat->Nat}{x y:dH}(h:zu x y)(ad:e5 β x v):e5 β y v:=by
 cases h with
 |refl=>exact ad| lit=>exact ad| ny=>trivial
def lk.ok{β:Nat->Nat}{F:Fr}(h:∀ t,e5 β (F t) (a.tmps.getD t undef)){l:List (Nat×dH)}(aA:lk F l)(t:Nat):e5 β (rq l t) (a.tmps.getD t undef):=by
 induction aA with
 |nil=>trivial
 | @cons bf x l ad k aN=>
  unfold rq;by_cases e:t=bf;·subst e;simp only[rj,cp];exact ahI ad (h t)
  ·simp only[hF e,cb];exact aN
def zv.ok{C:dO}{l:List (Nat×List Value)}(aA:zv C l){s:Nat}{cs:List Value}(h:rr l s=some cs):C s=some cs:=by
 induction aA with
 |nil=>cases h
 | @cons bf x l ad k aN=>
  unfold rr at h;by_cases e:s=bf;·subst e;simp only[rj,cp]at h;rw[ad,h]
  ·simp only[hF e,cb]at h;exact aN h
def cL.bC{X:c1}{β:Nat->Nat}{F:Fr}{C:dO}{I:aJ}{M:List aF}(h:cL X β a w F C I M){bp:List (Nat×dH)}{cl:List (Nat×List Value)}(bs:lk F bp)(j5:zv C cl):cL X β a w (rq bp) (rr cl) I M:=
 { h with
  an:=bs.ok h.an
  cr:=λs cs av=>h.cr s cs (j5.ok av)
  inj:=λs cn aa ab=>by
   obtain⟨fF,aK⟩:=Kr.1 aa;obtain⟨fB,a7⟩:=Kr.1 ab;exact h.inj s cn (by rw[j5.ok aK];simp) (by rw[j5.ok a7];simp) }
inductive tv where
 |normal| exit (id:Nat)| goto (l:Nat)| ret
abbrev kp:=tv->gr
def zw(N:gr)(K:kp):kp
 | .normal=>N| .exit id=>K (.exit id)| .goto l=>K (.goto l)| .ret=>K .ret
def V7(id:Nat)(K:kp):kp
 | .normal=>K .normal| .exit j=>bif Nat.beq j id then K .normal else K (.exit j)| .goto l=>K (.goto l)| .ret=>K .ret
def mQ(X:c1)(K:kp):Exit->Act->World->Prop
 | .normal,a,w=>Sat X (K .normal) a w| .exit id,a,w=>Sat X (K (.exit id)) a w| .goto l,a,w=>Sat X (K (.goto l)) a w| .ret,a,w=>Sat X (K .ret) a w| .panic _,_,_=>False| .outgrown,_,_=>False
abbrev Body:=Fr->dO->aJ->List aF->kp->Prop
structure xY where
 bp:List (Nat×dH)
 cl:List (Nat×List Value):=[]
 cP:aJ
 da:List aF:=[]
inductive qt{ι:Type}(foot:List Nat)(aI:ι->xY)(p:ι->Prop)(F:Fr)(C:dO)(I:aJ)(M:List aF):Prop
 |mk(j:ι)(aH:p j)(hw:h6 foot I M (aI j).cP (aI j).da)(bs:lk F (aI j).bp)(j5:zv C (aI j).cl)
def OV(body:Body)(K:kp):Nat->gr
 |0=>λ_ _ _ _=>False
 |n+1=>λF C I M=>body F C I M (zw (OV body K n) K)
inductive dx(foot:List Nat)(body:Body)(F:Fr)(C:dO)(I:aJ)(M:List aF)(K:kp):Prop
 |inv {ι:Type} (aI:ι->xY) (inv:ι->Prop) (μ:ι->Nat) (start:qt foot aI inv F C I M) (round:∀ i,inv i->body (rq (aI i).bp) (rr (aI i).cl) (aI i).cP (aI i).da (zw (qt foot aI λj=>inv j/\μ j<μ i) K))| ahJ (n:Nat) (h:OV body K n F C I M)| uR {ι:Type} (aI:ι->xY) (inv:ι->Prop) (μ:ι->Nat) (start:mj I M->qt foot aI inv F C I M) (round:∀ i,inv i->body (rq (aI i).bp) (rr (aI i).cl) (aI i).cP (aI i).da (zw (λF C I M=>mj I M->qt foot aI (λj=>inv j/\μ j<μ i) F C I M) K))
inductive c2(X:c1)(c:Code)(F:Fr)(C:dO)(I:aJ)(M:List aF)(K:kp):Prop
 |mk(h:∀ a w,Rel X a w F C I M->c.wpIn (g8 X) 0 X.P (mQ X K) a w)
inductive ahK(foot:List Nat)(F:Fr)(C:dO)(I:aJ)(M:List aF)(K:gr):Prop
 |go(h:K F C I M)| KG (l:xY) (hw:h6 foot I M l.cP l.da) (bs:lk F l.bp) (j5:zv C l.cl) (h:K (rq l.bp) (rr l.cl) l.cP l.da)
def V(X:c1):Code->Fr->dO->aJ->List aF->kp->Prop
 | .skip,F,C,I,M,K=>K .normal F C I M| .label l,F,C,I,M,K=>bif Nat.ble 2 l then ahK X.foot F C I M (K .normal)else K .normal F C I M| .ret,F,C,I,M,K=>K .ret F C I M| .exit id,F,C,I,M,K=>K (.exit id) F C I M| .goto l,F,C,I,M,K=>K (.goto l) F C I M| .seq x y,F,C,I,M,K=>V X x F C I M (zw (λF C I M=>V X y F C I M K) K)| .block id c,F,C,I,M,K=>V X c F C I M (V7 id K)
 | .cond c x y,F,C,I,M,K=>
  match dn F c with
  | .lit b=>bif b then V X x F C I M K else V X y F C I M K| .val (.bool b)=>a5 b (V X x F C I M K) (V X y F C I M K)| _=>False
 | .loop c,F,C,I,M,K=>dx X.foot (V X c) F C I M K| .region _ ops false,F,C,I,M,K=>uN X ops.toList ops.toList F C I M (K .normal)| .region id ops true,F,C,I,M,K=>c2 X (.region id ops true) F C I M K| .rangeFunc f ps fj body,F,C,I,M,K=>c2 X (.rangeFunc f ps fj body) F C I M K| .scope c,F,C,I,M,K=>c2 X (.scope c) F C I M K| .refuse _,_,_,_,_,_=>False
def xZ(n:Nat)(ops:Array Oper):Bool:=ops.toList.all λo=>match o.dst with
 |some d=>Nat.blt d n| none=>true
def codeOk(n:Nat):Code->Bool
 | .seq x y=>codeOk n x&&codeOk n y| .block _ c=>codeOk n c| .cond _ x y=>codeOk n x&&codeOk n y| .loop c=>codeOk n c| .region _ ops _=>xZ n ops| _=>true
def KH(h:xZ n ops=true):∀ o∈ops.toList,∀ d,o.dst=some d->d<n:=by intro o aC d ah;have:=fV.1 h o aC;rw[ah]at this;simpa using this
def mQ.then{X:c1}{N:gr}{K:kp}(aD:∀ a w,Sat X N a w->next a w):∀ e a w,mQ X (zw N K) e a w->Exit.then next (mQ X K) e a w:=by
 intro e a w h;cases e<;>first | exact aD _ _ h | exact h
def KI{sC:Fence}{Q:Exit->Act->World->Prop}(J:Nat->Act->World->Prop)(ahL:J m a w)
  (round:∀ m a w,J m a w->c.wpIn sC n P (Exit.then (λbN w'=>∃ m',m'<m/\J m' bN w') Q) a w):(Code.loop c).wpIn sC n P Q a w:=by
 intro b k cs jd ag af;have key:∀ j a w,J j a w->∃ e bN w',Q e bN w'/\ArrivesIn (Machine.fenced P sC) P (lone (b.atR a (.code c::.inLoop c::k)) cs w) b k cs e bN w':=by
  intro j
  induction j using Nat.strongRecOn with
  |_ j aN=>
   intro a w bB;obtain⟨e,j6,j7,aM,je⟩:=round j a w bB b (.inLoop c::k) cs jd ag af;cases e with
   |normal=>obtain⟨m',a4,ahM⟩:=aM;obtain⟨GH,GI,GJ,GK,GL⟩:=aN m' a4 j6 j7 ahM;exact⟨GH,GI,GJ,GK,.of_steps (StepsIn.trans je (.one (fenced_calm ag af rfl) stepR_inLoop)) GL⟩
   |exit id=>exact⟨_,j6,j7,aM,.pass (x:=.inLoop c) rfl (λ_ _=>.inl (by simp)) je⟩| goto l=>exact⟨_,j6,j7,aM,.pass (x:=.inLoop c) rfl (λ_ _=>.inl (by simp)) je⟩| ret=>exact⟨_,j6,j7,aM,.pass (x:=.inLoop c) rfl (λ_ _=>.inl (by simp)) je⟩| panic DO=>exact⟨_,j6,j7,aM,.pass (x:=.inLoop c) rfl (λ_ _=>.inl (by simp)) je⟩| outgrown=>exact⟨_,j6,j7,aM,.pass (x:=.inLoop c) rfl (λ_ _=>.inl (by simp)) je⟩
 obtain⟨e,bN,w',aM,je⟩:=key _ a w ahL;exact⟨e,bN,w',aM,.of_steps (.one (fenced_calm ag af rfl) stepR_loop) je⟩
def rs{X:c1}(aO:cX X.P X.E):∀ (c:Code) {F C I M K a w},codeOk X.n c=true->Rel X a w F C I M->V X c F C I M K->c.wpIn (g8 X) 0 X.P (mQ X K) a w
 | .skip,F,C,I,M,K,a,w,_,aX,aj=>wpIn_skip ⟨F,C,I,M,aX,aj⟩
 | .label l,F,C,I,M,K,a,w,_,aX,aj=>by
  refine wpIn_label ?_;simp only[V]at aj;cases aA:Nat.ble 2 l with
  |false=>rw[aA]at aj;exact⟨F,C,I,M,aX,aj⟩
  |true=>
   rw[aA]at aj;simp only[cp]at aj;cases aj with
   |go h=>exact⟨F,C,I,M,aX,h⟩| KG l hw bs j5 h=>obtain⟨β,af⟩:=aX;exact⟨_,_,_,_,⟨β,(af.bC bs j5).h7 hw⟩,h⟩
 | .ret,F,C,I,M,K,a,w,_,aX,aj=>wpIn_ret ⟨F,C,I,M,aX,aj⟩| .exit id,F,C,I,M,K,a,w,_,aX,aj=>wpIn_exit ⟨F,C,I,M,aX,aj⟩| .goto l,F,C,I,M,K,a,w,_,aX,aj=>wpIn_goto ⟨F,C,I,M,aX,aj⟩| .seq x y,F,C,I,M,K,a,w,bi,aX,aj=>by simp only[codeOk,cw]at bi;refine wpIn_seq (wpIn_mono (rs aO x bi.1 aX aj) (mQ.then ?_));rintro a w⟨c9,C',I',M',af,ae⟩;exact rs aO y bi.2 af ae
 | .block id c,F,C,I,M,K,a,w,bi,aX,aj=>by
  refine wpIn_block (wpIn_mono (rs aO c bi aX aj) ?_);intro e a w h;cases e with
  |exit j=>
   simp only[mQ,V7]at h;simp only[Exit.inBlock];by_cases e:j=id;·subst e;simp only[rj,cp]at h;rw[bT rfl];exact h
   ·simp only[hF e,cb]at h;rw[bP e];exact h
  |_=>exact h
 | .cond c x y,F,C,I,M,K,a,w,bi,aX,aj=>by
  simp only[codeOk,cw]at bi;obtain⟨β,af⟩:=aX;simp only[V]at aj;split at aj
  ·rename_i b ag;have ao:=OL af.an ag;refine wpIn_cond ao ?_;cases b
   ·exact rs aO y bi.2 ⟨β,af⟩ aj
   ·exact rs aO x bi.1 ⟨β,af⟩ aj
  ·rename_i b ag;have ao:=uO af.an ag;refine wpIn_cond ao ?_;obtain⟨aa,ab⟩:=aj;cases b
   ·exact rs aO y bi.2 ⟨β,af⟩ (ab rfl)
   ·exact rs aO x bi.1 ⟨β,af⟩ (aa rfl)
  ·exact aj.elim
 | .loop c,F,C,I,M,K,a,w,bi,aX,aj=>by
  have aN:=@rs X aO c;simp only[V]at aj;have hinv:∀ {ι:Type} (aI:ι->xY) (inv:ι->Prop) (μ:ι->Nat) (start:mj I M->qt X.foot aI inv F C I M)
    (round:∀ i,inv i->V X c (rq (aI i).bp) (rr (aI i).cl) (aI i).cP (aI i).da (zw (λF C I M=>mj I M->qt X.foot aI (λj=>inv j/\μ j<μ i) F C I M) K)),(Code.loop c).wpIn (g8 X) 0 X.P (mQ X K) a w:=by
   intro ι aI inv μ start round;let J (m:Nat) (a:Act) (w:World):Prop:=∃ i,inv i/\μ i=m/\Rel X a w (rq (aI i).bp) (rr (aI i).cl) (aI i).cP (aI i).da
   have zx:∀ {p:ι->Prop} {a w},(∀ i,p i->inv i)->Sat X (λF C I M=>mj I M->qt X.foot aI p F C I M) a w->∃ i,p i/\J (μ i) a w:=by rintro p a w aH⟨F,C,I,M,⟨β,af⟩,eS⟩;obtain⟨j,sD,hw,bs,j5⟩:=eS ⟨af.holds.d,af.holds.bX⟩;exact⟨j,sD,j,aH j sD,rfl,β,(af.bC bs j5).h7 hw⟩
   obtain⟨i0,_,x0⟩:=zx (λ_ h=>h) ⟨F,C,I,M,aX,start⟩;refine KI J x0 ?_;rintro m a w⟨i,hi,rfl,af⟩;refine wpIn_mono (aN bi af (round i hi)) ?_;intro e a w h;cases e with
   |normal=>obtain⟨j,⟨ak,a4⟩,a8⟩:=zx (λ_ h=>h.1) h;exact⟨_,a4,a8⟩
   |_=>exact h
  cases aj with
  | @inv ι aI inv μ start round=>
   let J (m:Nat) (a:Act) (w:World):Prop:=∃ i,inv i/\μ i=m/\Rel X a w (rq (aI i).bp) (rr (aI i).cl) (aI i).cP (aI i).da
   have zx:∀ {p:ι->Prop} {a w},(∀ i,p i->inv i)->Sat X (qt X.foot aI p) a w->∃ i,p i/\J (μ i) a w:=by rintro p a w aH⟨F,C,I,M,⟨β,af⟩,⟨j,sD,hw,bs,j5⟩⟩;exact⟨j,sD,j,aH j sD,rfl,β,(af.bC bs j5).h7 hw⟩
   obtain⟨i0,_,x0⟩:=zx (λ_ h=>h) ⟨F,C,I,M,aX,start⟩;refine KI J x0 ?_;rintro m a w⟨i,hi,rfl,af⟩;refine wpIn_mono (aN bi af (round i hi)) ?_;intro e a w h;cases e with
   |normal=>obtain⟨j,⟨ak,a4⟩,a8⟩:=zx (λ_ h=>h.1) h;exact⟨_,a4,a8⟩
   |_=>exact h
  |uR aI inv μ start round=>exact hinv aI inv μ start round
  |ahJ n h=>
   refine KI (λm a w=>Sat X (OV (V X c) K m) a w) ⟨F,C,I,M,aX,h⟩ ?_;rintro m a w⟨F,C,I,M,af,ae⟩;cases m with
   |zero=>exact ae.elim
   |succ m=>
    refine wpIn_mono (aN bi af ae) ?_;intro e a w h;cases e with
    |normal=>exact⟨m,Bo m,h⟩| _=>exact h
 | .region id ops false,F,C,I,M,K,a,w,bi,aX,aj=>by refine wpIn_region ?_;have:=V6 (K:=K .normal) (Q:=mQ X K) aO ops (λ_ _ h=>h) ops.toList 0 (by simp) (KH bi) aX aj;simpa[DE]using this
 | .region id ops true,F,C,I,M,K,a,w,bi,aX,⟨aj⟩=>aj a w aX| .rangeFunc f ps fj body,F,C,I,M,K,a,w,bi,aX,⟨aj⟩=>aj a w aX| .scope c,F,C,I,M,K,a,w,bi,aX,⟨aj⟩=>aj a w aX| .refuse _,F,C,I,M,K,a,w,bi,aX,aj=>aj.elim
def x1(args:List Value):Fr:=λt=>match args[t]? with
 |some v=>.val v| none=>.ny
def pG(X:c1)(F:Fr)(C:dO)(I:aJ)(M:List aF):List ResultVar->(List Value->Prop)->Prop
 |[],K=>K []
 | .tmp t::l,K=>match bH F (.tmp t)with
  | .val v=>pG X F C I M l λvs=>K (v::vs)
  |_=>False
 | .cell t ty::l,K=>match dn F (.tmp t),X.E ty with
  | .ref s off,some i=>(match C s with
   |some cs=>bif Nat.ble (off+i.size) cs.length then pG X F C I M l λvs=>K (pack i.bQ.agg ((cs.drop off).take i.size)::vs)else False
   |none=>False)
  | .val (.pointer (some a)),some i=>aV I M a i.size λws=>pG X F C I M l λvs=>K (pack i.bQ.agg ws::vs)
  |_,_=>False
inductive wq(foot:List Nat)(I:aJ)(M:List aF)(post:aJ->List aF->Prop):Prop
 |mk(I':aJ)(M':List aF)(hw:h6 foot I M I' M')(h:post I' M')
def wu(X:c1)(ba:List ResultVar)(post:Value->aJ->List aF->Prop):kp:=λex F C I M=>
 let done:Prop:=pG X F C I M ba λvs=>match vs with
  |[v]=>wq X.foot I M (post v)| vs=>wq X.foot I M (post (.tuple vs.toArray))
 match ex with
 | .normal=>done| .ret=>done| _=>False
def DP(tmps:Array Value):ResultVar->Sem Value
 | .tmp t=>pure (tmps.getD t undef)| .cell a t=>do loadVar t (<-asAddr (tmps.getD a undef))
def ahN(fn:Func)(tmps:Array Value):results fn tmps=(do let vs <-fn.results.mapM (DP tmps);pure (if h:vs.size=1 then vs[0]else .tuple vs)):=by unfold results;congr 1
def KJ{X:c1}(aO:cX X.P X.E){β:Nat->Nat}{a:Act}{w:World}{F:Fr}{C:dO}{I:aJ}{M:List aF}(h:cL X β a w F C I M):∀ {ba:List ResultVar} {K:List Value->Prop},pG X F C I M ba K -> ∃ vs,K vs/\(ba.mapM (DP a.tmps)).run X.P w=.ok vs w
 |[],K,aj=>⟨[],aj,rfl⟩
 | .tmp t::l,K,aj=>by
  unfold pG at aj;split at aj;·rename_i v aa;have aK:a.tmps.getD t undef=v:=dh h.an aa;obtain⟨vs,ae,a7⟩:=KJ aO h aj;refine⟨_,ae,?_⟩;simp only[Gu,DP,cu,c7,bY,a7,aK]
  ·exact aj.elim
 | .cell t ty::l,K,aj=>by
  unfold pG at aj;split at aj
  ·rename_i s off i aa hi;have aK:a.tmps.getD t undef=.pointer (some ⟨β s,off,none⟩):=Bs h.an aa;split at aj
   ·rename_i cs av;cases bk:Nat.ble (off+i.size) cs.length with
    |false=>rw[bk]at aj;exact aj.elim| true=>rw[bk]at aj;obtain⟨vs,ae,a7⟩:=KJ aO h aj;have gl:=bK bk;obtain⟨T,bl⟩:=(h.cr s cs av).aY;have ck:=KB (aO _ _ hi) (a:=⟨β s,off,none⟩) rfl bl (vs:=(cs.drop off).take i.size) (by simp) (by simp;omega);refine⟨_,ae,?_⟩;simp only[Gu,DP,cu,c7,bY,a7,aK,asAddr,ck]
   ·exact aj.elim
  ·rename_i aP i aa hi;have aK:a.tmps.getD t undef=.pointer (some aP):=uO h.an aa;obtain⟨ws,⟨de,cs,T,an,fh,iK,aA⟩,aj⟩:=aj;obtain⟨vs,ae,a7⟩:=KJ aO h aj;have ck:=KB (aO _ _ hi) de (fh.heap h.holds) iK aA;refine⟨_,ae,?_⟩;simp only[Gu,DP,cu,c7,bY,a7,aK,asAddr,ck]
  ·exact aj.elim
def ahO{X:c1}(aO:cX X.P X.E){β:Nat->Nat}{F:Fr}{C:dO}{I:aJ}{M:List aF}(h:cL X β a w F C I M){K:List Value->Prop}(aj:pG X F C I M fn.results.toList K) :
  ∃ vs,K vs/\(results fn a.tmps).run X.P w=.ok (match vs with | [v]=>v | vs=>.tuple vs.toArray) w:=by
 obtain⟨vs,ae,e⟩:=KJ aO h aj;refine⟨vs,ae,?_⟩;rw[ahN];have aK:(fn.results.mapM (DP a.tmps)).run X.P w=.ok vs.toArray w:=by rw[VN,Sem.run_map,e];rfl
 simp only[cu,aK,bY,c7]
 match vs with
 |[]=>rfl| [v]=>rfl| u::v::l=>simp
def V8{sC:Fence}{n:Nat}{P:Program}{fn:Func}{tmps:Array Value}{R:Ending->World->Prop}:∀ (ba:List Nat) (w:World),ba.Nodup->(∀ r∈ba,w.heap[r]?=some (.deferred (some []))) -> (∀ w':World,w'.heap.size=w.heap.size->(∀ b,b ∉ ba->w'.heap[b]?=w.heap[b]?)->oB w w'->∃ v,(results fn tmps).run P w'=.ok v w'/\R (.returned v) w')->LeavesInM sC n P fn tmps R (ba.map xR) .returning w
 |[],w,_,_,h=>h w rfl (λ_ _=>rfl) (.refl _)
 |r::ba,w,bV,af,h=>by
  rw[mg]at bV;refine⟨by simp,.inl ⟨r,_,rfl,run_takeDeferred (af r (by simp)),?_⟩⟩;refine V8 ba _ bV.2 (λmR fA=>?_) λw' av ag aC=>h w' (by rw[av];simp) (λb GM=>?_) ((Kz _ _ _).trans aC);·have bD:mR≠r:=λe=>bV.1 (e ▸ fA);rw[nv bD];exact af mR (by simp[fA])
  ·simp only[eA,not_or]at GM;rw[ag b GM.2,nv GM.1]
def cL.take{X:c1}{β:Nat->Nat}{F:Fr}{C:dO}{I:aJ}{M:List aF}(h:cL X β a w F C I M){ba:List Nat}(dr:∀ r∈ba,wj X w I M r)(av:w'.heap.size=w.heap.size)(ag:∀ b,b ∉ ba->w'.heap[b]?=w.heap[b]?)(aC:oB w w') :
  cL X β { a with defers:=[] } w' F C I M:=by
 exact {
  size:=h.size
  defers:=⟨[],rfl,DF,λr af=>by cases af⟩
  holds:={
   i:=λb o iL=>by rw[ag b (λaf=>by have:=(dr b af).j1;rw[iL]at this;cases this)];exact h.holds.i b o iL
   m:=λx ad=>by rw[ag _ (λaf=>(dr _ af).e6 x ad rfl)];exact h.holds.m x ad
   d:=h.holds.d
   bX:=h.holds.bX }
  an:=h.an
  cr:=λs cs lS=>by have uS:=h.cr s cs lS;obtain⟨T,bl⟩:=uS.aY;refine { uS with aY:=⟨T,?_⟩ };rw[ag _ (λaf=>by have:=(dr _ af).aY;rw[bl]at this;cases this)];exact bl
  inj:=h.inj
  ij:=h.ij
  hU:=h.hU
  own:=h.own
  dK:=λb a4 aB=>by rw[ag _ (λaf=>by have:=(dr _ af).bC;omega)];exact h.dK b a4 aB
  out:=h.out.trans aC
  sz:=by rw[av];exact h.sz
  fy:=h.fy }
def mQ.ret{X:c1}(aO:cX X.P X.E){post:Value->aJ->List aF->Prop}
  (aX:∀ v I M (w:World) (a:Act) (F:Fr) (C:dO),Rel X a w F C I M->post v I M->R (.returned v) w):∀ e a w,mQ X (wu X fn.results.toList post) e a w->bodyPostM (g8 X) 0 X.P fn R e a w:=by
 have main:∀ a w,Sat X (wu X fn.results.toList post .ret) a w->LeavesInM (g8 X) 0 X.P fn a.tmps R a.defers .returning w:=by
  rintro a w⟨F,C,I,M,⟨β,af⟩,ae⟩;simp only[wu]at ae;obtain⟨ba,ah,bV,hm⟩:=af.defers;rw[ah];refine V8 ba w bV (λr en=>(hm r en).aY) λw' av ag aC=>?_;have fA:=af.take hm av ag aC;obtain⟨vs,aH,e'⟩:=ahO aO fA ae;refine⟨_,e',?_⟩
  match vs,aH with
  |[],⟨I',M',hw,aH⟩=>exact aX _ I' M' w' _ F C ⟨β,fA.h7 hw⟩ aH| [v],⟨I',M',hw,aH⟩=>exact aX _ I' M' w' _ F C ⟨β,fA.h7 hw⟩ aH| u::v::l,⟨I',M',hw,aH⟩=>exact aX _ I' M' w' _ F C ⟨β,fA.h7 hw⟩ aH
 intro e a w h;cases e with
 |normal=>exact main a w h| ret=>exact main a w h| exit id=>obtain⟨F,C,I,M,_,ae⟩:=h;exact ae.elim
 |goto l=>obtain⟨F,C,I,M,_,ae⟩:=h;exact ae.elim
 |panic _=>exact h.elim| outgrown=>exact h.elim
def ahP(aB:P.funcs[f]?=some fn)(ag:fn.body.isSome=true)(aD:(fn.name == "runtime.NumGoroutine")=false):OJ P f:=by
 intro args w;have hk:fn.body.isNone=false:=by cases h:fn.body<;>simp_all
 simp only[callFunc,cu,run_program,bY,aB,aD,k',mh,hk];rfl
def OW{E:Env}(gJ:List Nat)(aO:cX P E)(aB:P.funcs[f]?=some fn)(ag:fn.body=some c)(aD:(fn.name == "runtime.NumGoroutine")=false)
 (bi:(codeOk fn.ntmps c&&Nat.ble args.length fn.ntmps)=true) {I:aJ} {M:List aF} {post:Value->aJ->List aF->Prop}
  (h:∀ B aw a w,Rel ⟨P,E,gJ,fn.ntmps,B,aw,I,M.map (·.num),none⟩ a w (x1 args) (λ_=>none) I M->c.wpIn (g8 ⟨P,E,gJ,fn.ntmps,B,aw,I,M.map (·.num),none⟩) 0 P (mQ ⟨P,E,gJ,fn.ntmps,B,aw,I,M.map (·.num),none⟩ (wu ⟨P,E,gJ,fn.ntmps,B,aw,I,M.map (·.num),none⟩ fn.results.toList post)) a w) :
  wh P f args I M post:=by
 rw[cw]at bi;have cQ:=bK bi.2;refine⟨ahP aB (by rw[ag];rfl) aD,λw lh=>?_⟩;let X:c1:=⟨P,E,gJ,fn.ntmps,w.heap.size,w,I,M.map (·.num),none⟩
 have GN:Rel X { tmps:=args.toArray++Array.replicate (fn.ntmps-args.toArray.size) undef,defers:=[] } w (x1 args) (λ_=>none) I M:=⟨λ_=>0,{
  size:=by simp[X];omega
  defers:=⟨[],rfl,DF,λr af=>by cases af⟩
  holds:=lh
  an:=λt=>by
   unfold x1;cases au:args[t]? with
   |none=>trivial| some v=>have a4:t<args.length:=(iz.1 au).1;simp only[e5,pB];rw[Array.getElem?_append_left (by simpa using a4)];simp[au]
  cr:=λs cs av=>by cases av
  inj:=λs cn aa=>by simp at aa
  ij:=λb o ag=>ag
  hU:=λb o ag=>.inl ag
  own:=λx ad=>.inl (c0.2 ⟨x,ad,rfl⟩)
  dK:=λb ag aB=>rfl
  out:=.refl _
  sz:=b2 _
  fy:=λx ad=>by
   obtain⟨y,aE,rfl⟩:=c0.1 ad;exact(k8.1 (lh.m y aE)).1 }⟩
 have KK:=h w.heap.size w _ _ GN;refine(callsIn_wide (n:=0)).1 ?_;have ahQ:g8 X=Fence.wide:=rfl;rw[ahQ]at KK;refine callsIn_of_wp_marks aB ag trivial (wpIn_mono KK (mQ.ret (X:=X) aO ?_));rintro v I' M' w' bN c9 C'⟨β,af⟩aH;refine⟨v,I',M',rfl,aH,af.holds,?_⟩;exact {
  le:=af.ij
  uM:=af.hU
  wg:=λx ad=>by
   rcases af.own x ad with aa | aa;·obtain⟨y,aE,e⟩:=c0.1 aa;exact .inl ⟨y,aE,e⟩
   ·exact .inr aa
  dK:=λb ag bD=>af.dK b ag (λhm=>by
   obtain⟨y,aE,e⟩:=c0.1 hm;exact bD y aE e)
  out:=af.out
  sz:=af.sz }
def BF{E:Env}(gJ:List Nat)(aO:cX P E)(aB:P.funcs[f]?=some fn)(ag:fn.body=some c)(aD:(fn.name == "runtime.NumGoroutine")=false)
 (bi:(codeOk fn.ntmps c&&Nat.ble args.length fn.ntmps)=true) {I:aJ} {M:List aF} {post:Value->aJ->List aF->Prop}
  (h:∀ B aw,V ⟨P,E,gJ,fn.ntmps,B,aw,I,M.map (·.num),none⟩ c (x1 args) (λ_=>none) I M (wu ⟨P,E,gJ,fn.ntmps,B,aw,I,M.map (·.num),none⟩ fn.results.toList post)) :
  wh P f args I M post:=
 OW gJ aO aB ag aD bi λB aw a w af=>by rw[cw]at bi;exact rs aO c bi.1 af (h B aw)
def b0{E:Env}(gJ:List Nat)(aO:cX P E)(aB:P.funcs[f]?=some fn)(ag:fn.body=some c)(aD:(fn.name == "runtime.NumGoroutine")=false)
 (bi:(codeOk fn.ntmps c&&Nat.ble args.length fn.ntmps)=true) {I:aJ} {M:List aF} {post:Value->aJ->List aF->Prop}
  (h:∀ B aw,V ⟨P,E,gJ,fn.ntmps,B,aw,I,M.map (·.num),none⟩ c (x1 args) (λ_=>none) I M (wu ⟨P,E,gJ,fn.ntmps,B,aw,I,M.map (·.num),none⟩ fn.results.toList post)) :
  Spec P f args I M post:=.inl (BF gJ aO aB ag aD bi h)
def KL(X:c1)(ba:List ResultVar)(post:Value->aJ->List aF->Prop):kp:=λex F C I M=>
 let done:Prop:=pG X F C I M ba λvs=>match vs with
  |[v]=>mj I M->wq X.foot I M (post v)| vs=>mj I M->wq X.foot I M (post (.tuple vs.toArray))
 match ex with
 | .normal=>done| .ret=>done| _=>False
def KM{X:c1}{F:Fr}{C:dO}{I:aJ}{M:List aF}:∀ {ba:List ResultVar} {K zy:List Value->Prop},(∀ vs,K vs->zy vs)->pG X F C I M ba K->pG X F C I M ba zy
 |[],K,zy,h,aj=>h _ aj
 | .tmp t::l,K,zy,h,aj=>by
  unfold pG at aj |-;split at aj;·exact KM (λvs=>h _) aj
  ·exact aj.elim
 | .cell t ty::l,K,zy,h,aj=>by
  unfold pG at aj |-;split at aj
  ·rename_i s off i aa hi;split at aj
   ·rename_i cs av;cases bk:Nat.ble (off+i.size) cs.length with
    |false=>rw[bk]at aj;exact aj.elim| true=>rw[bk]at aj;exact KM (λvs=>h _) aj
   ·exact aj.elim
  ·obtain⟨ws,a',aj⟩:=aj;exact⟨ws,a',KM (λvs=>h _) aj⟩
  ·exact aj.elim
def mQ.ahR{X:c1}{ba:List ResultVar}{post:Value->aJ->List aF->Prop}:∀ e a w,mQ X (KL X ba post) e a w->mQ X (wu X ba post) e a w:=by
 have one:∀ a w,Sat X (KL X ba post .ret) a w->Sat X (wu X ba post .ret) a w:=by
  rintro a w⟨F,C,I,M,⟨β,af⟩,h⟩;refine⟨F,C,I,M,⟨β,af⟩,KM (λvs aj=>?_) h⟩;have eS:mj I M:=⟨af.holds.d,af.holds.bX⟩
  match vs,aj with
  |[v],aj=>exact aj eS| [],aj=>exact aj eS| _::_::_,aj=>exact aj eS
 intro e a w h;cases e with
 |normal=>exact one a w h| ret=>exact one a w h| exit id=>obtain⟨F,C,I,M,af,ae⟩:=h;exact ae.elim
 |goto l=>obtain⟨F,C,I,M,af,ae⟩:=h;exact ae.elim
 |panic _=>exact h| outgrown=>exact h
def ahS{E:Env}(gJ:List Nat)(aO:cX P E)(aB:P.funcs[f]?=some fn)(ag:fn.body=some c)(aD:(fn.name == "runtime.NumGoroutine")=false)
 (bi:(codeOk fn.ntmps c&&Nat.ble args.length fn.ntmps)=true) {I:aJ} {M:List aF} {post:Value->aJ->List aF->Prop}
  (h:∀ B aw,V ⟨P,E,gJ,fn.ntmps,B,aw,I,M.map (·.num),none⟩ c (x1 args) (λ_=>none) I M (KL ⟨P,E,gJ,fn.ntmps,B,aw,I,M.map (·.num),none⟩ fn.results.toList post)) :
  wh P f args I M post:=
 OW gJ aO aB ag aD bi λB aw a w af=>by rw[cw]at bi;exact wpIn_mono (rs aO c bi.1 af (h B aw)) mQ.ahR
def x2{E:Env}(gJ:List Nat)(aO:cX P E)(aB:P.funcs[f]?=some fn)(ag:fn.body=some c)(aD:(fn.name == "runtime.NumGoroutine")=false)
 (bi:(codeOk fn.ntmps c&&Nat.ble args.length fn.ntmps)=true) {I:aJ} {M:List aF} {post:Value->aJ->List aF->Prop}
  (h:∀ B aw,V ⟨P,E,gJ,fn.ntmps,B,aw,I,M.map (·.num),none⟩ c (x1 args) (λ_=>none) I M (KL ⟨P,E,gJ,fn.ntmps,B,aw,I,M.map (·.num),none⟩ fn.results.toList post)) :
  Spec P f args I M post:=.inl (ahS gJ aO aB ag aD bi h)
def OX:Value->Value->Bool
 | .bool a,.bool b=>a == b| .int k n,.int fu m=>IntKind.lP k fu&&decide (n=m)| .string s,.string t=>decide (s.data.toList=t.data.toList)| .pointer none,.pointer none=>true| .slice none 0 0,.slice none 0 0=>true| .map none,.map none=>true| .nilFunc,.nilFunc=>true| .nilIface,.nilIface=>true| _,_=>false
def ahT:∀ {a b:Value},OX a b=true->a=b:=by
 intro a b h;unfold OX at h;split at h
 ·simp at h;rw[h]
 ·simp only[cw,hS]at h;rw[IntKind.DK h.1,h.2]
 ·rename_i s t;simp only[hS]at h;have:s=t:=by cases s;cases t;simp only[ByteArray.mk.injEq];exact gX h
  rw[this]
 all_goals first | rfl | cases h
def KN:List Value->List Value->Bool
 |[],[]=>true| a::as,b::cB=>OX a b&&KN as cB| _,_=>false
def V9:∀ {a b:List Value},KN a b=true->a=b
 |[],[],_=>rfl| a::as,b::cB,h=>by simp only[KN,cw]at h;rw[ahT h.1,V9 h.2]
 |[],_::_,h=>by cases h
 |_::_,[],h=>by cases h
def OY(P:Program)(t:Nat)(i:dR):Bool:=
 (match P.info? t with
 |some inf=>decide (inf.size=i.size)&&decide (inf.bytes=i.bytes)&&(match inf.zero with
  |some z=>KN z.cells.toList i.zero| none=>false)
 |none=>false) &&
 (match P.underlying t with
 |some d=>decide (fs d=i.bQ)| none=>false)&&fJ i.zero&&decide (i.zero.length=i.size)&&(i.bQ.agg||decide (i.size=1))
def ahU{t:Nat}{i:dR}(h:OY P t i=true):km P t i:=by
 simp only[OY,cw]at h;obtain⟨⟨⟨⟨aa,ab⟩,ai⟩,aL⟩,bq⟩:=h;refine⟨?_,?_,zp ai,c5 aL,λa6=>?_⟩
 ·split at aa
  ·rename_i inf hi;simp only[cw,hS]at aa;obtain⟨⟨aK,a7⟩,ck⟩:=aa;split at ck
   ·rename_i z bd;exact⟨inf,z,hi,aK,a7,bd,V9 ck⟩
   ·cases ck
  ·cases aa
 ·split at ab
  ·rename_i d ah;exact⟨d,ah,c5 ab⟩
  ·cases ab
 ·rw[a6]at bq;simpa using bq
def ahV{E:Env}(n:Nat)(aD:∀ t,n<=t->E t=none)(h:((List.range n).all λt=>match E t with
  |some i=>OY P t i| none=>true)=true):cX P E:=by
 intro t i hi;by_cases au:t<n
 ·have:=fV.1 h t (j0.2 au);rw[hi]at this;exact ahU this
 ·rw[aD t (by omega)]at hi;cases hi
end Go.V
namespace Go.V
variable{a:Act}{c:Code}{foot:List Nat}{P:Program}{f off T sz hT e n m gd cN ej ek hj ld mi nx oA qo sw uJ xO Bq Gw:Nat}{args vs z:List Value}{v:Value}{w' w:World}{cs:Array Value}{an:Nat×Nat}{R:Ending->World->Prop}{next:Act->World->Prop}{aP:Addr}{gq:IntKind}{ops:Array Oper}{fn:Func}
def x3{F:Fr}:lk F [(gd,F gd),(cN,F cN)]:=.cons .refl (.cons .refl (.nil))
def fw{F:Fr}:lk F [(gd,F gd),(cN,F cN),(ej,F ej)]:=.cons .refl (.cons .refl (.cons .refl (.nil)))
def dY{F:Fr}:lk F [(gd,F gd),(cN,F cN),(ej,F ej),(ek,F ek)]:=.cons .refl (.cons .refl (.cons .refl (.cons .refl (.nil))))
def il{F:Fr}:lk F [(gd,F gd),(cN,F cN),(ej,F ej),(ek,F ek),(hj,F hj)]:=.cons .refl (.cons .refl (.cons .refl (.cons .refl (.cons .refl (.nil)))))
def zz{F:Fr}:lk F [(gd,F gd),(cN,F cN),(ej,F ej),(ek,F ek),(hj,F hj),(ld,F ld)]:=.cons .refl (.cons .refl (.cons .refl (.cons .refl (.cons .refl (.cons .refl (.nil))))))
def ru{F:Fr}:lk F [(gd,F gd),(cN,F cN),(ej,F ej),(ek,F ek),(hj,F hj),(ld,F ld),(mi,F mi)]:=.cons .refl (.cons .refl (.cons .refl (.cons .refl (.cons .refl (.cons .refl (.cons .refl (.nil)))))))
def kL{F:Fr}:lk F [(gd,F gd),(cN,F cN),(ej,F ej),(ek,F ek),(hj,F hj),(ld,F ld),(mi,F mi),(nx,F nx)]:=.cons .refl (.cons .refl (.cons .refl (.cons .refl (.cons .refl (.cons .refl (.cons .refl (.cons .refl (.nil))))))))
def mS{F:Fr}:lk F [(gd,F gd),(cN,F cN),(ej,F ej),(ek,F ek),(hj,F hj),(ld,F ld),(mi,F mi),(nx,F nx),(oA,F oA)]:=.cons .refl (.cons .refl (.cons .refl (.cons .refl (.cons .refl (.cons .refl (.cons .refl (.cons .refl (.cons .refl (.nil)))))))))
def OZ{F:Fr}:lk F [(gd,F gd),(cN,F cN),(ej,F ej),(ek,F ek),(hj,F hj),(ld,F ld),(mi,F mi),(nx,F nx),(oA,F oA),(qo,F qo)]:=.cons .refl (.cons .refl (.cons .refl (.cons .refl (.cons .refl (.cons .refl (.cons .refl (.cons .refl (.cons .refl (.cons .refl (.nil))))))))))
def GO{F:Fr}:lk F [(gd,F gd),(cN,F cN),(ej,F ej),(ek,F ek),(hj,F hj),(ld,F ld),(mi,F mi),(nx,F nx),(oA,F oA),(qo,F qo),(sw,F sw)]:=.cons .refl (.cons .refl (.cons .refl (.cons .refl (.cons .refl (.cons .refl (.cons .refl (.cons .refl (.cons .refl (.cons .refl (.cons .refl (.nil)))))))))))
def awR{F:Fr}:lk F [(gd,F gd),(cN,F cN),(ej,F ej),(ek,F ek),(hj,F hj),(ld,F ld),(mi,F mi),(nx,F nx),(oA,F oA),(qo,F qo),(sw,F sw),(uJ,F uJ)]:=.cons .refl (.cons .refl (.cons .refl (.cons .refl (.cons .refl (.cons .refl (.cons .refl (.cons .refl (.cons .refl (.cons .refl (.cons .refl (.cons .refl (.nil))))))))))))
def V'{F:Fr}:lk F [(gd,F gd),(cN,F cN),(ej,F ej),(ek,F ek),(hj,F hj),(ld,F ld),(mi,F mi),(nx,F nx),(oA,F oA),(qo,F qo),(sw,F sw),(uJ,F uJ),(xO,F xO)]:=.cons .refl (.cons .refl (.cons .refl (.cons .refl (.cons .refl (.cons .refl (.cons .refl (.cons .refl (.cons .refl (.cons .refl (.cons .refl (.cons .refl (.cons .refl (.nil)))))))))))))
def GP{F:Fr}:lk F [(gd,F gd),(cN,F cN),(ej,F ej),(ek,F ek),(hj,F hj),(ld,F ld),(mi,F mi),(nx,F nx),(oA,F oA),(qo,F qo),(sw,F sw),(uJ,F uJ),(xO,F xO),(Bq,F Bq)]:=.cons .refl (.cons .refl (.cons .refl (.cons .refl (.cons .refl (.cons .refl (.cons .refl (.cons .refl (.cons .refl (.cons .refl (.cons .refl (.cons .refl (.cons .refl (.cons .refl (.nil))))))))))))))
def ahW{F:Fr}:lk F [(gd,F gd),(cN,F cN),(ej,F ej),(ek,F ek),(hj,F hj),(ld,F ld),(mi,F mi),(nx,F nx),(oA,F oA),(qo,F qo),(sw,F sw),(uJ,F uJ),(xO,F xO),(Bq,F Bq),(Gw,F Gw)]:=.cons .refl (.cons .refl (.cons .refl (.cons .refl (.cons .refl (.cons .refl (.cons .refl (.cons .refl (.cons .refl (.cons .refl (.cons .refl (.cons .refl (.cons .refl (.cons .refl (.cons .refl (.nil)))))))))))))))
def awS{F:Fr}{Wa:Nat}:lk F [(gd,F gd),(cN,F cN),(ej,F ej),(ek,F ek),(hj,F hj),(ld,F ld),(mi,F mi),(nx,F nx),(oA,F oA),(qo,F qo),(sw,F sw),(uJ,F uJ),(xO,F xO),(Bq,F Bq),(Gw,F Gw),(Wa,F Wa)]:=.cons .refl (.cons .refl (.cons .refl (.cons .refl (.cons .refl (.cons .refl (.cons .refl (.cons .refl (.cons .refl (.cons .refl (.cons .refl (.cons .refl (.cons .refl (.cons .refl (.cons .refl (.cons .refl (.nil))))))))))))))))
end Go.V
