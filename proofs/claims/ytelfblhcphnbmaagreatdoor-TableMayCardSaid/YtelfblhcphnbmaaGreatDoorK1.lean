/- Part 1 of what the proofs of this seat share: the executor, data in memory, walks.
-/
import Derived.WalkKit
import Derived.RangeFuncRecord
import Derived.OrdersIn
import Derived.Lib.UnsafeStr
set_option linter.all false
namespace Go.V
open Go
def bq:=@Nat.le_of_ble_eq_true
def bV:=@Nat.eq_of_beq_eq_true
def bx:=@Result.andThen_ok
def aY:=@cond_false
def bG:=@Bool.and_eq_true
def aZ:=@cond_true
def dT:=@List.getD_eq_getElem?_getD
def bH:=@Sem.run_bind
def c9:=@of_decide_eq_true
def bS:=@Nat.le_refl
def fs:=@List.drop_eq_getElem_cons
def ch:=@Sem.run_pure
def du:=@List.length_cons
def dA:=@List.mem_append
def jw:=@List.take_succ_eq_append_getElem
def dv:=@List.mem_cons
def eC:=@decide_eq_true_eq
def h3:=@List.getElem?_eq_some_iff
def jx:=@Array.getElem?_eq_some_iff
def eh:=@List.map_cons
def dO:=@List.mem_map
def g7:=@Option.some.injEq
def l8:=@Array.getD_eq_getD_getElem?
def kt:=@World.putObj_heap_other
def gR:=@List.all_eq_true
def iL:=@Bool.false_eq_true
def iM:=@List.mem_singleton
def hq:=@List.map_append
def jY:=@List.getElem?_take
def iz:=@Option.map_some
def b7:=@if_neg
def fa:=@Array.ext'
def jZ:=@Option.getD_some
def cv:=@if_pos
def ku:=@Bool.or_eq_true
def kW:=@List.nodup_cons
def mK:=@Bool.not_eq_true'
def tm:=@List.getElem?_append_left
def nF:=@Int.toNat_natCast
def oE:=@List.getElem?_drop
def rK:=@Option.map_eq_some_iff
def jy:=@Nat.le_trans
def qz:=@Nat.mul_le_mul_right
def l9:=@List.mem_range
def qA:=@List.size_toArray
def uY:=@ByteArray.data_extract
def yB:=@Array.getElem?_setIfInBounds
def qB:=@Option.getD_none
def pz:=@Oper.wpIn_mono
def yC:=@Classical.byContradiction
def oF:=@Nat.add_assoc
def wF:=@List.getElem?_eq_none
def wG:=@List.getElem?_toArray
def rL:=@Bool.eq_iff_iff
def pA:=@ByteArray.ext
def pB:=@Bool.not_true
def wH:=@List.mem_of_getElem?
def Ar:=@Array.getElem?_eq_getElem
def pC:=@Nat.add_zero
def tn:=@Option.map_none
def yD:=@List.mem_append_right
def jz:=@if_false
def yE:=@List.mem_append_left
def Dp:=@Option.ne_none_iff_exists'
def yF:=@List.nodup_append
def Dq:=@List.getElem?_cons_succ
def uZ:=@Bool.false_or
def wI:=@World.alloc_eq
def wJ:=@List.nodup_nil
def yG:=@Nat.min_eq_left
def Dr:=@List.length_filter_le
def As:=@beq_self_eq_true
def Ds:=@Nat.testBit_two_pow
def At:=@List.foldl_cons
def Dt:=@Nat.lt_of_lt_of_le
def GZ:=@Option.bind_eq_some_iff
def Au:=@List.mem_filter
def Av:=@List.mapM_cons
def Aw:=@Bool.not_false
def Du:=@Nat.lt_succ_self
def Dv:=@List.filter_cons
def G0:=@List.range_eq_range'
def pD:=@Ne.symm
def pE:=@if_true
def G1:=@List.toList_toArray
def G2:=@Array.foldl_toList
def G3:=@ByteArray.mk.injEq
def G4:=@Option.isSome_none
def Mm:=@Array.mapM_eq_mapM_toList
def Dw:=@Nat.testBit_or
def G5:=@List.getElem?_map
def Dx:=@Oper.semAt_eq
def Dy:=@Nat.add_comm
variable{a:Act}{c:Code}{bF:List Nat}{P:Program}{f off T sz gp e n m eD cf dd c2 e4 hG iN iA j0 mL oG qC to wK Ax:Nat}{args vs z:List Value}{v:Value}{w' w:World}{dst:Option Nat}{cs:Array Value}{aj:Nat×Nat}{R:Ending->World->Prop}{next:Act->World->Prop}{ad:Addr}{eE:IntKind}{other:Prop}{ops:List Oper}{Q:Exit->Act->World->Prop}{fn:Func}{soft fG:Bool}{op:Op}{listed:Array Bool}{A:Array Oper}
inductive Ay where
 |other | int (k:IntKind) | bool | string | slice (e:Nat) | array (n e:Nat) | struct (bK:List (Nat×Nat)) | map (k e:Nat) | pointer (e:Nat)
 deriving DecidableEq
def ek:TypeDesc->Ay
 | .int k=>.int k| .bool=>.bool| .string=>.string| .slice e=>.slice e| .array n e=>.array n e| .struct bK=>.struct (bK.toList.map λf=>(f.type,f.offset))| .map k e=>.map k e| .pointer e=>.pointer e| _=>.other
def Ay.agg:Ay->Bool
 | .struct _ | .array ..=>true| _=>false
structure dw where
 size:Nat
 bytes:Nat
 zero:List Value
 bn:Ay
structure h4(P:Program)(t:Nat)(i:dw):Prop where
 inf:∃ inf z,P.info? t=some inf/\inf.size=i.size/\inf.bytes=i.bytes/\inf.zero=some z/\z.cells.toList=i.zero
 ep:∃ d,P.underlying t=some d/\ek d=i.bn
 one:∀ v∈i.zero,v.oneCell'=true
 len:i.zero.length=i.size
 G6:i.bn.agg=false->i.size=1
abbrev Env:=Nat->Option dw
def cj(P:Program)(E:Env):Prop:=∀ t i,E t=some i->h4 P t i
inductive cF where
 |val(v:Value)| lit (b:Bool)| ref (s off:Nat)| kv
abbrev Fr:=Nat->cF
abbrev cG:=Nat->Option (List Value)
abbrev aN:=Nat->Option Obj
structure aC where
 num:Nat
 obj:Obj
abbrev eF:=Fr->cG->aN->List aC->Prop
def e5(F:Fr)(d:Nat)(x:cF):Fr:=λt=>bif Nat.beq t d then x else F t
def g8(C:cG)(d:Nat)(x:Option (List Value)):cG:=λt=>bif Nat.beq t d then x else C t
def mM(F:Fr)(d:Nat):Fr:=λt=>match F t with
 | .ref s o=>bif Nat.beq s d then .kv else .ref s o| x=>x
def put(o:Option Nat)(x:cF)(F:Fr):Fr:=match o with
 |some d=>e5 F d x| none=>F
def cB(F:Fr):Operand->cF
 | .tmp t=>F t| .const (.bool b)=>.lit b| .const v=>.val v| .global g=>.val (.pointer (some ⟨g,0,none⟩))| .func f=>.val (.func (.func f) #[] #[])
def cR(ρ:Operand->cF)(x:Operand):cF:=match ρ x with
 | .lit b=>.val (.bool b)| y=>y
abbrev bi(F:Fr):Operand->cF:=cR (cB F)
def pack(agg:Bool)(vs:List Value):Value:=bif agg then .agg vs.toArray else vs.headD undef
def bo(cs:List Value)(off:Nat)(vs:List Value):List Value:=cs.take off++vs++cs.drop (off+vs.length)
def ga(vs:List Value):Bool:=vs.all (·.oneCell')
def Dz(c:Bool):cF->cF->cF
 | .val (.bool x),.val (.bool y)=>.val (.bool (bif c then x else y))| .val x,.val y=>.val (bif c then x else y)| _,_=>.kv
def tp(op:BinOp)(x y:Int):Option Bool:=match op with
 | .eql=>some (decide (x=y))| .neq=>some (!decide (x=y))| .lss=>some (decide (x<y))| .leq=>some (decide (x<=y))| .gtr=>some (decide (y<x))| .geq=>some (decide (y<=x))| _=>none
def qD(op:BinOp)(k:IntKind)(x y:Int):Option Int:=
 let a:=BitVec.ofInt k.bits x
 let b:=BitVec.ofInt k.bits y
 match op with
 | .and=>some (k.wrap (a &&& b).toNat)| .or=>some (k.wrap (a ||| b).toNat)| .xor=>some (k.wrap (a ^^^ b).toNat)| .andNot=>some (k.wrap (a &&& ~~~b).toNat)| _=>none
def gE(I:aN)(M:List aC)(b:Nat)(o:Obj):Prop:=I b=some o\/∃ x∈M,x.num=b/\x.obj=o
def ck(I:aN)(M:List aC)(a:Addr)(n:Nat)(vs:List Value):Prop:=
 a.spot=none/\∃ cs T aj,gE I M a.block (.cells cs T aj)/\(cs.toList.drop a.off).take n=vs/\vs.length=n
inductive aM(I:aN)(M:List aC)(a:Addr)(n:Nat)(K:List Value->Prop):Prop
 |mk(vs:List Value)(h:ck I M a n vs)(k:K vs)
inductive cS(M:List aC)(a:Addr)(vs:List Value)(K:List aC->Prop):Prop
 |mk(pre post:List aC)(cs:Array Value)(T:Nat)(a5:M=pre++⟨a.block,.cells cs T (0,0)⟩::post)(aq:a.spot=none)(ag:a.off+vs.length<=cs.size)(aa:ga vs=true)(k:K (pre++⟨a.block,.cells (bo cs.toList a.off vs).toArray T (0,0)⟩::post))
inductive cC(I:aN)(M:List aC)(K:Nat->Prop):Prop
 |mk(k:∀ b,I b=none->(∀ x∈M,x.num≠b)->K b)
inductive bs(a:Option Addr)(n sz:Nat)(k:Int)(K:Addr->Prop):Prop
 |mk(ad:Addr)(j:Nat)(av:a=some ad)(af:k=(j:Int))(ar:j<n)(h:K (ad.add (j*sz)))
inductive ed(n:Nat)(k:Int)(K:Nat->Prop):Prop
 |mk(j:Nat)(af:k=(j:Int))(ar:j<n)(h:K j)
inductive u0(s:ByteArray)(k:Int)(K:UInt8->Prop):Prop
 |mk(j:Nat)(af:k=(j:Int))(ar:j<s.size)(h:K s[j])
inductive a6(k:IntKind)(n:Int)(K:Int->Prop):Prop
 |mk(r:Int)(h:k.wrap n=r)(bf:K r)
inductive oH(y:Int)(K:Prop):Prop
 |mk(h:y≠0)(bf:K)
inductive u1(y:Int)(K:Nat->Prop):Prop
 |mk(j:Nat)(h:y=(j:Int))(bf:K j)
inductive aR(c:Bool)(X Y:Prop):Prop
 |mk(h:c=true->X)(bf:c=false->Y)
inductive qE(l c:Int)(bytes:Nat)(K:Nat->Nat->Prop):Prop
 |mk(n m:Nat)(ay:l=(n:Int))(aF:c=(m:Int))(h:n<=m)(ag:bytes*m<=140737488355328)(hm:m<=9223372036854775807)(k:K n m)
inductive h5(n c:Nat)(lo hi:Option Int)(K:Nat->Nat->Prop):Prop
 |mk(l h:Nat)(dJ:lo.getD 0=(l:Int))(er:hi.getD n=(h:Int))(aa:l<=h)(ab:h<=c)(k:K l h)
structure dC(I:aN)(M:List aC)(w:World):Prop where
 i:∀ b o,I b=some o->w.heap[b]?=some o
 m:∀ x∈M,w.heap[x.num]?=some x.obj
 d:∀ x∈M,I x.num=none
 a2:(M.map (·.num)).Nodup
def lx(w w':World):Prop:=w'.os=w.os/\w'.output=w.output
def lx.refl(w:World):lx w w:=⟨rfl,rfl⟩
def lx.trans{a b c:World}(h:lx a b)(bf:lx b c):lx a c:=⟨bf.1.trans h.1,bf.2.trans h.2⟩
structure Kept(I:aN)(M:List aC)(w:World)(I':aN)(M':List aC)(w':World):Prop where
 le:∀ b o,I b=some o->I' b=some o
 rM:∀ b o,I' b=some o->I b=some o\/w.heap.size<=b
 tq:∀ x∈M',(∃ y∈M,y.num=x.num)\/w.heap.size<=x.num
 cE:∀ b,b<w.heap.size->(∀ y∈M,y.num≠b)->w'.heap[b]?=w.heap[b]?
 out:lx w w'
 sz:w.heap.size<=w'.heap.size
def G7(P:Program)(f:Nat):Prop:=∀ (args:Array Value) (w:World),(callFunc f args).run P w=.ok (.enter f args) w
def rN(P:Program)(f:Nat)(args:List Value)(I:aN)(M:List aC)(post:Value->aN->List aC->Prop):Prop:=
 G7 P f/\∀ w,dC I M w->Calls P f args.toArray w λe w'=>∃ v I' M',e=.returned v/\post v I' M'/\dC I' M' w'/\Kept I M w I' M' w'
def UL(P:Program)(f:Nat)(args:List Value)(I:aN)(M:List aC)(post:Value->aN->List aC->Prop):Prop:=
 ∀ w,dC I M w->∃ v w' I' M',(callFunc f args.toArray).run P w=.ok (.value v) w'/\post v I' M'/\dC I' M' w'/\Kept I M w I' M' w'
def Spec(P:Program)(f:Nat)(args:List Value)(I:aN)(M:List aC)(post:Value->aN->List aC->Prop):Prop:=rN P f args I M post\/UL P f args I M post
def ins(I:aN)(b:Nat)(o:Obj):aN:=λx=>bif Nat.beq x b then some o else I x
inductive h6(bF:List Nat):aN->List aC->aN->List aC->Prop
 |refl{I M}:h6 bF I M I M| sub {I M M1 I' M'} (h:List.Sublist M1 M) (k:h6 bF I M1 I' M'):h6 bF I M I' M'| perm {I M M1 I' M'} (h:M.Perm M1) (k:h6 bF I M1 I' M'):h6 bF I M I' M'| rO {I M I' M' b o post} (h:M=⟨b,o⟩::post) (aD:b ∉ bF) (k:h6 bF (ins I b o) post I' M'):h6 bF I M I' M'
structure pF(I:aN)(M:List aC):Prop where
 d:∀ x∈M,I x.num=none
 a2:(M.map (·.num)).Nodup
inductive a7(bF:List Nat)(P:Program)(f:Nat)(args:List Value)(I:aN)(M:List aC)(K:Value->aN->List aC->Prop):Prop
 |mk(cH Mr:List aC)(post:Value->aN->List aC->Prop)(a5:M.Perm (cH++Mr))(aq:Spec P f args I cH post)(k:∀ v I' M',(∀ b o,I b=some o->I' b=some o)->post v I' M'->K v I' (M'++Mr))| DA (cH Mr:List aC) (post:Value->aN->List aC->Prop) (a5:M.Perm (cH++Mr)) (aq:Spec P f args I cH post) (k:∀ v I' M',(∀ b o,I b=some o->I' b=some o)->(∀ x∈M'++Mr,I' x.num=none)->post v I' M'->K v I' (M'++Mr))| Az (c3:aN) (cH Mr:List aC) (post:Value->aN->List aC->Prop) (hw:h6 bF I M c3 (cH++Mr)) (aq:Spec P f args c3 cH post) (k:∀ v I' M',(∀ b o,c3 b=some o->I' b=some o)->(∀ x∈M'++Mr,I' x.num=none)->post v I' M'->K v I' (M'++Mr))| DB (h:pF I M->a7 bF P f args I M K)
def a7.elim{I:aN}{M:List aC}{K:Value->aN->List aC->Prop}(j1:pF I M)(h:a7 bF P f args I M K) :
  ∃ (c3:aN) (cH Mr:List aC) (post:Value->aN->List aC->Prop),h6 bF I M c3 (cH++Mr)/\Spec P f args c3 cH post/\∀ v I' M',(∀ b o,c3 b=some o->I' b=some o)->(∀ x∈M'++Mr,I' x.num=none)->post v I' M'->K v I' (M'++Mr):=by
 induction h with
 |mk cH Mr post a5 aq k=>exact⟨I,cH,Mr,post,.perm a5 .refl,aq,λv I' M' aa _ ab=>k v I' M' aa ab⟩| DA cH Mr post a5 aq k=>exact⟨I,cH,Mr,post,.perm a5 .refl,aq,k⟩| Az c3 cH Mr post hw aq k=>exact⟨c3,cH,Mr,post,hw,aq,k⟩| DB h a8=>exact a8 j1
structure b' where
 P:Program
 E:Env
 e6:List Nat
 n:Nat
 B:Nat
 au:World
 cW:aN
 bF:List Nat
 ro:Option Nat
def fb(X:b'):Fence:={ Fence.wide with round:=X.ro }
def dD(β:Nat->Nat):cF->Value->Prop
 | .val v,u=>u=v| .lit b,u=>u=.bool b| .ref s off,u=>u=.pointer (some ⟨β s,off,none⟩)| .kv,_=>True
structure tr(X:b')(w:World)(I:aN)(M:List aC)(b:Nat)(cs:List Value):Prop where
 at_:∃ T,w.heap[b]?=some (.cells cs.toArray T (0,0))
 base:X.B<=b
 hH:I b=none
 dF:∀ x∈M,x.num≠b
structure rP(X:b')(w:World)(I:aN)(M:List aC)(r:Nat):Prop where
 at_:w.heap[r]?=some (.deferred (some []))
 base:X.B<=r
 hH:I r=none
 dF:∀ x∈M,x.num≠r
def ts(r:Nat):Deferred:={ target:=.collected r,args:=#[] }
def Marks(X:b')(a:Act)(w:World)(I:aN)(M:List aC):Prop:=∃ a3:List Nat,a.defers=a3.map ts/\a3.Nodup/\∀ r∈a3,rP X w I M r
structure bY(X:b')(β:Nat->Nat)(a:Act)(w:World)(F:Fr)(C:cG)(I:aN)(M:List aC):Prop where
 size:a.tmps.size=X.n
 defers:Marks X a w I M
 holds:dC I M w
 aj:∀ t,dD β (F t) (a.tmps.getD t undef)
 bL:∀ s cs,C s=some cs->tr X w I M (β s) cs
 inj:∀ s b0,C s≠none->C b0≠none->β s=β b0->s=b0
 gb:∀ b o,X.cW b=some o->I b=some o
 fH:∀ b o,I b=some o->X.cW b=some o\/X.B<=b
 own:∀ x∈M,x.num∈X.bF\/X.B<=x.num
 cE:∀ b,b<X.B->b ∉ X.bF->w.heap[b]?=X.au.heap[b]?
 out:lx X.au w
 sz:X.B<=w.heap.size
def Rel(X:b')(a:Act)(w:World)(F:Fr)(C:cG)(I:aN)(M:List aC):Prop:=∃ β,bY X β a w F C I M
def Sat(X:b')(K:eF)(a:Act)(w:World):Prop:=∃ F C I M,Rel X a w F C I M/\K F C I M
inductive be(X:b')(o:Oper)(F:Fr)(C:cG)(I:aN)(M:List aC)(K:eF):Prop
 |mk(h:∀ a w Q,Rel X a w F C I M->o.wpIn (fb X) 0 X.P a w (Sat X K) Q)
def hI(ρ:Operand->cF):List Operand->Option (List Value)
 |[]=>some []
 |x::xs=>match cR ρ x,hI ρ xs with
  | .val v,some vs=>some (v::vs)| _,_=>none
abbrev j2(F:Fr):List Operand->Option (List Value):=hI (cB F)
def pG(place:Nat->Option (Nat×Nat))(cells:List Value):List (Nat×Value)->Option (List Value)
 |[]=>some cells
 |(i,v)::rest=>match place i with
  |none=>none| some (off,size)=>bif Nat.beq v.cells.size size&&Nat.ble (off+size) cells.length then pG place (bo cells off v.cells.toList) rest else none
def pH(ρ:Operand->cF):List (Nat×Operand)->Option (List (Nat×Value))
 |[]=>some []
 |(i,x)::xs=>match cR ρ x,pH ρ xs with
  | .val v,some vs=>some ((i,v)::vs)| _,_=>none
abbrev wL(F:Fr):List (Nat×Operand)->Option (List (Nat×Value)):=pH (cB F)
def places(E:Env)(bK:List (Nat×Nat))(i:Nat):Option (Nat×Nat):=match bK[i]? with
 |some (j3,off)=>match E j3 with
  |some ft=>some (off,ft.size)| none=>none
 |none=>none
def yH(E:Env)(bK:List (Nat×Nat)):Bool:=bK.all λf=>(E f.1).isSome
def rowOf(zero:List Value)(n:Nat):List Value:=(List.range n).map λi=>zero[i%zero.length]!
def yI(zero:List Value)(n:Nat):rowOf zero n=(madeCells zero.toArray n).toList:=by simp[rowOf,madeCells]
def IntKind.j4:IntKind->IntKind->Bool
 | .i8,.i8 | .i16,.i16 | .i32,.i32 | .i64,.i64 | .u8,.u8 | .u16,.u16 | .u32,.u32 | .u64,.u64=>true| _,_=>false
def jg(op:BinOp)(cP:Option dw)(x y:cF)(K:Value->Prop)(other:Prop):Prop:=
 match x,y with
 | .val (.int k a),.val (.int cb b)=>
  match op with
  | .shl=>u1 b λj=>a6 k (a*2^(min j k.bits)) λr=>K (.int k r)
  | .shr=>u1 b λj=>K (.int k (a.fdiv (2^(min j k.bits))))
  |op=>bif IntKind.j4 k cb then
    (match op with
    | .add=>a6 k (a+b) λr=>K (.int k r)
    | .sub=>a6 k (a-b) λr=>K (.int k r)
    | .mul=>a6 k (a*b) λr=>K (.int k r)
    | .quo=>oH b (a6 k (a.tdiv b) λr=>K (.int k r))| .rem=>oH b (K (.int k (a.tmod b)))
    | .and | .or | .xor | .andNot=>(match qD op k a b with
     |some r=>K (.int k r)| none=>False)
    |op=>(match tp op a b with
     |some r=>K (.bool r)| none=>False))
   else False
 | .val (.string a),.val (.string b)=>
  match op with
  | .eql=>K (.bool (decide (a=b)))| .neq=>K (.bool (!decide (a=b)))| _=>other
 | .val (.bool a),.val (.bool b)=>
  match cP with
  |some { bn:=.bool,.. }=>
   (match op with
   | .eql=>K (.bool (a == b))| .neq=>K (.bool (!(a == b)))| _=>other)
  |_=>other
 |_,_=>other
inductive fk(P:Program)(op:BinOp)(t:Nat)(x y:Operand)(p q:cF)(K:Value->Prop)(other:Prop):Prop
 |mk(fu c7 v:Value)(aH:p=.val fu)(aK:q=.val c7)(h:∀ w,(do eqGuard op t x y fu c7;binOp op t fu c7:Sem Value).run P w=.ok v w)(k:K v)| other (h:other)
def bR(X:b')(op:Op)(ρ:Operand->cF)(C:cG)(I:aN)(M:List aC)(V:cF->Prop)(other:Prop):Prop:=
 match op with
 | .move x | .assign x=>V (ρ x)
 | .pick c a b=>
  match ρ c with
  | .lit c=>V (bif c then ρ a else ρ b)| .val (.bool c)=>V (Dz c (cR ρ a) (cR ρ b))| _=>False
 | .unOp op _ x=>
  match op,ρ x with
  | .not,.lit b=>V (.lit (!b))| .not,.val (.bool b)=>V (.val (.bool (!b)))| .neg,.val (.int k n)=>a6 k (0-n) λr=>V (.val (.int k r))
  |_,_=>other
 | .binOp op t x y _=>jg op (X.E t) (cR ρ x) (cR ρ y) (λv=>V (.val v)) (fk X.P op t x y (cR ρ x) (cR ρ y) (λv=>V (.val v)) other)
 | .load t x=>
  match X.E t with
  |some i=>
   (match ρ x with
   | .ref s off=>
    (match C s with
    |some cs=>bif Nat.ble (off+i.size) cs.length then V (.val (pack i.bn.agg ((cs.drop off).take i.size)))else False| none=>False)
   | .val (.pointer (some a))=>aM I M a i.size λvs=>V (.val (pack i.bn.agg vs))
   |_=>False)
  |none=>False
 | .nilCheck x=>
  match ρ x with
  | .ref s off=>V (.ref s off)| .val (.pointer (some a))=>V (.val (.pointer (some a)))| _=>other
 | .fieldAddr t x i=>
  match X.E t with
  |some { bn:=.struct bK,.. }=>
   (match bK[i]? with
   |some (j3,off)=>
    (match X.E j3,ρ x with
    |some ft,.ref s o'=>bif Nat.beq ft.size 0 then False else V (.ref s (o'+off))| some ft,.val (.pointer (some a))=>bif Nat.beq ft.size 0 then False else V (.val (.pointer (some (a.add off))))| _,_=>False)
   |none=>False)
  |_=>False
 | .field t x i=>
  match X.E t,cR ρ x with
  |some { bn:=.struct bK,.. },.val (.agg cs)=>
   (match bK[i]? with
   |some (j3,off)=>
    (match X.E j3 with
    |some ft=>bif Nat.ble (off+ft.size) cs.size then V (.val (pack ft.bn.agg ((cs.toList.drop off).take ft.size)))else False| none=>False)
   |none=>False)
  |_,_=>False
 | .indexAddr t x i=>
  match X.E t,cR ρ i with
  |some { bn:=.slice e,.. },.val (.int _ k)=>
   (match X.E e,cR ρ x with
   |some aE,.val (.slice a n _)=>bs a n aE.size k λad=>V (.val (.pointer (some ad)))
   |_,_=>False)
  |some { bn:=.array n e,.. },.val (.int _ k)=>
   (match X.E e,ρ x with
   |some aE,.ref s o'=>ed n k λj=>V (.ref s (o'+j*aE.size))
   |some aE,.val (.pointer (some a))=>ed n k λj=>V (.val (.pointer (some (a.add (j*aE.size)))))
   |_,_=>False)
  |_,_=>False
 | .index t x i=>
  match X.E t,cR ρ x,cR ρ i with
  |some { bn:=.string,.. },.val (.string s),.val (.int _ k)=>u0 s k λb=>V (.val (.int .u8 b.toNat))
  |some { bn:=.array n e,.. },.val (.agg cs),.val (.int _ k)=>
   (match X.E e with
   |some aE=>bif Nat.beq (n*aE.size) cs.size then ed n k λj=>V (.val (pack aE.bn.agg ((cs.toList.drop (j*aE.size)).take aE.size)))else False
   |none=>False)
  |_,_,_=>False
 | .build t parts=>
  match X.E t,pH ρ parts.toList with
  |some i,some vs=>
   (match i.bn with
   | .struct bK=>bif yH X.E bK then(match pG (places X.E bK) i.zero vs with
    |some cells=>V (.val (.agg cells.toArray))| none=>False)else False
   | .array _ e=>(match X.E e with
    |some aE=>(match pG (λj=>some (j*aE.size,aE.size)) i.zero vs with
     |some cells=>V (.val (.agg cells.toArray))| none=>False)
    |none=>False)
   |_=>False)
  |_,_=>False
 | .makeFunc fn first captured=>
  match hI ρ first.toList,hI ρ captured.toList with
  |some bK,some cs=>V (.val (.func fn bK.toArray cs.toArray))| _,_=>False
 | .slice t x lo hi mx=>
  match X.E t,cR ρ x,mx with
  |some { bn:=.slice e,.. },.val (.slice a n c),none=>
   (match X.E e,lo.map (cR ρ),hi.map (cR ρ)with
   |some aE,none,none=>V (.val (.slice a n c))| some aE,none,some (.val (.int _ h))=>h5 n c none (some h) λ_ h=>V (.val (.slice a h c))
   |some aE,some (.val (.int _ l)),none=>h5 n n (some l) none λl _=>V (.val (.slice (if c=l then a else a.map (·.add (l*aE.size))) (n-l) (c-l)))
   |some aE,some (.val (.int _ l)),some (.val (.int _ h))=>h5 n c (some l) (some h) λl h=>V (.val (.slice (if c=l then a else a.map (·.add (l*aE.size))) (h-l) (c-l)))
   |_,_,_=>False)
  |some { bn:=.string,.. },.val (.string s),none=>
   (match lo.map (cR ρ),hi.map (cR ρ)with
   |none,none=>V (.val (.string s))| none,some (.val (.int _ h))=>h5 s.size s.size none (some h) λ_ h=>V (.val (.string (s.extract 0 h)))
   |some (.val (.int _ l)),none=>h5 s.size s.size (some l) none λl _=>V (.val (.string (s.extract l s.size)))
   |some (.val (.int _ l)),some (.val (.int _ h))=>h5 s.size s.size (some l) (some h) λl h=>V (.val (.string (s.extract l h)))
   |_,_=>False)
  |_,_,_=>other
 | .extract x i=>
  match cR ρ x with
  | .val (.tuple vs)=>(match vs.toList[i]? with
   |some v=>V (.val v)| none=>False)
  |_=>False
 | .convert s d x=>
  match X.E s,X.E d,cR ρ x with
  |some _,some { bn:=.int k,.. },.val (.int _ n)=>a6 k n λr=>V (.val (.int k r))
  |_,_,_=>other
 | .call { callee:=.builtin .len,args,argTypes }=>
  match argTypes.toList,hI ρ args.toList with
  |[t],some [v]=>
   (match X.E t,v with
   |some { bn:=.slice _,.. },.slice _ n _=>V (.val (.int .i64 n))| some { bn:=.string,.. },.string s=>V (.val (.int .i64 s.size))| some { bn:=.array n _,.. },_=>V (.val (.int .i64 n))| _,_=>other)
  |_,_=>other
 | .call { callee:=.builtin .cap,args,argTypes }=>
  match argTypes.toList,hI ρ args.toList with
  |[t],some [v]=>
   (match X.E t,v with
   |some { bn:=.slice _,.. },.slice _ _ c=>V (.val (.int .i64 c))| _,_=>other)
  |_,_=>other
 | .call { callee:=.builtin .max,args,.. }=>
  match hI ρ args.toList with
  |some [.int k a,.int _ b]=>V (.val (.int k (max a b)))| _=>other
 | .call { callee:=.builtin .min,args,.. }=>
  match hI ρ args.toList with
  |some [.int k a,.int _ b]=>V (.val (.int k (min a b)))| _=>other
 | .call { callee:=.builtin .unsafeSliceData,args,.. }=>
  match hI ρ args.toList with
  |some [.slice none _ _]=>V (.val (.pointer none))| some [.slice (some a) _ c]=>oH c (V (.val (.pointer (some a))))| _=>other
 |_=>other
def fc(X:b')(o:Oper)(F:Fr)(C:cG)(I:aN)(M:List aC)(K:eF):Prop:=
 match o.op with
 | .box t x=>
  match o.dst,bi F x with
  |some d,.val v=>
   bif X.e6.contains d then cC I M λb=>K (e5 (mM F d) d (.val (.pointer (some ⟨b,0,none⟩)))) (g8 C d none) I (⟨b,.cells v.cells t (0,0)⟩::M)
   else K (e5 (mM F d) d (.ref d 0)) (g8 C d (some v.cells.toList)) I M
  |_,_=>False
 | .alloc t=>
  match o.dst,X.E t with
  |some d,some i=>
   bif X.e6.contains d then cC I M λb=>K (e5 (mM F d) d (.val (.pointer (some ⟨b,0,none⟩)))) (g8 C d none) I (⟨b,.cells i.zero.toArray t (0,0)⟩::M)
   else K (e5 (mM F d) d (.ref d 0)) (g8 C d (some i.zero)) I M
  |_,_=>False
 | .store t x y=>
  match o.dst,X.E t,bi F y with
  |none,some i,.val v=>
   (match cB F x with
   | .ref s off=>
    (match C s with
    |some cs=>bif Nat.ble (off+i.size) cs.length&&(Nat.beq v.cells.size i.size&&ga v.cells.toList)then K F (g8 C s (some (bo cs off v.cells.toList))) I M else False| none=>False)
   | .val (.pointer (some a))=>bif Nat.beq v.cells.size i.size then cS M a v.cells.toList λM'=>K F C I M' else False
   |_=>False)
  |_,_,_=>False
 | .buildSlice t len parts=>
  match X.E t,wL F parts.toList with
  |some { bn:=.slice e,.. },some vs=>
   (match X.E e with
   |some aE=>
    bif Nat.ble (len*aE.size) 16777216&&Nat.blt 0 (len*aE.size)then
     (match pG (λj=>some (j*aE.size,aE.size)) (rowOf aE.zero (len*aE.size)) vs with
     |some cells=>cC I M λb=>K (put o.dst (.val (.slice (some ⟨b,0,none⟩) len len)) F) C I (⟨b,.cells cells.toArray e (0,0)⟩::M)
     |none=>False)
    else(match len,vs with
     |0,[]=>cC I M λb=>K (put o.dst (.val (.slice (some ⟨b,0,none⟩) 0 0)) F) C I (⟨b,.cells #[] e (0,0)⟩::M)
     |_,_=>False)
   |none=>False)
  |_,_=>False
 | .makeSlice t l c=>
  match X.E t,bi F l,bi F c with
  |some { bn:=.slice e,.. },.val (.int _ l),.val (.int _ c)=>
   (match X.E e with
   |some aE=>qE l c aE.bytes λn m=>cC I M λb=>K (put o.dst (.val (.slice (some ⟨b,0,none⟩) n m)) F) C I (⟨b,.cells (rowOf aE.zero (m*aE.size)).toArray e (0,0)⟩::M)
   |none=>False)
  |_,_,_=>False
 | .call { callee:=.value f,args,.. }=>
  match bi F f,j2 F args.toList with
  | .val (.func (.func g) first cap),some vs=>a7 X.bF X.P g (first.toList++vs++cap.toList) I M λv I' M'=>K (put o.dst (.val v) F) C I' M'
  |_,_=>be X o F C I M K
 |op=>bR X op (cB F) C I M (λx=>K (put o.dst x F) C I M) (be X o F C I M K)
inductive bC(c b:Bool)(Y N:Prop):Prop
 |mk(h:c=b->Y)(bf:c=!b->N)
def qF(X:b')(ops:List Oper):List Oper->Fr->cG->aN->List aC->eF->Prop
 |[],F,C,I,M,K=>K F C I M
 |o::rest,F,C,I,M,K=>
  match o.guard with
  |none=>fc X o F C I M λF C I M=>qF X ops rest F C I M K
  |some (j,b)=>
   match(ops[j]?).bind (·.dst)with
   |none=>False
   |some d=>
    match F d with
    | .lit c=>bif c == b then fc X o F C I M λF C I M=>qF X ops rest F C I M K else qF X ops rest (put o.dst (.val undef) F) C I M K
    | .val (.bool c)=>bC c b (fc X o (e5 F d (.lit b)) C I M λF C I M=>qF X ops rest F C I M K) (qF X ops rest (put o.dst (.val undef) (e5 F d (.lit !b))) C I M K)| .val (.tuple _)=>qF X ops rest (put o.dst (.val undef) F) C I M K| _=>False
def fv{a b:Nat}(h:¬ a=b):Nat.beq a b=false:=by
 cases ag:Nat.beq a b with
 |false=>rfl| true=>exact absurd (bV ag) h
def nG(a:Nat):Nat.beq a a=true:=Nat.beq_refl a
def AA(w:World)(o:Obj){i:Nat}(h:i<w.heap.size):(w.alloc o).heap[i]?=w.heap[i]?:=by show(w.heap.push o)[i]?=_;simp[Array.getElem?_push,Nat.ne_of_lt h]
def G8(w:World)(o:Obj):(w.alloc o).heap[w.heap.size]?=some o:=by show(w.heap.push o)[w.heap.size]?=_;simp
section
variable{X:b'}{β:Nat->Nat}{a:Act}{w:World}{F:Fr}{C:cG}{I:aN}{M:List aC}{o:Oper}{Q:Exit->Act->World->Prop}{next:Act->World->Prop}{K:eF}
def tt(h:∀ t,dD β (F t) (a.tmps.getD t undef))(x:Operand):dD β (cB F x) (a.eval x):=by
 cases x with
 |tmp t=>exact h t| const v=>cases v<;>exact rfl
 |global g=>exact rfl| func f=>exact rfl
def cw(h:∀ t,dD β (F t) (a.tmps.getD t undef)){x:Operand}(ae:bi F x=.val v):a.eval x=v:=by
 have aa:=tt h x;unfold bi cR at ae;split at ae
 ·rename_i b ag;rw[ag]at aa;cases ae;exact aa
 ·rw[ae]at aa;exact aa
def qG(h:∀ t,dD β (F t) (a.tmps.getD t undef)){x:Operand}(ae:cB F x=.val v):a.eval x=v:=by have aa:=tt h x;rw[ae]at aa;exact aa
def G9(h:∀ t,dD β (F t) (a.tmps.getD t undef)){x:Operand}{b:Bool}(ae:cB F x=.lit b):a.eval x=.bool b:=by have aa:=tt h x;rw[ae]at aa;exact aa
def wM(h:∀ t,dD β (F t) (a.tmps.getD t undef)){x:Operand}{s:Nat}(ae:cB F x=.ref s off):a.eval x=.pointer (some ⟨β s,off,none⟩):=by have aa:=tt h x;rw[ae]at aa;exact aa
def Mn(h:∀ t,dD β (F t) (a.tmps.getD t undef))(x:Operand):dD β (bi F x) (a.eval x):=by
 have aa:=tt h x;unfold bi cR;split
 ·rename_i b ag;rw[ag]at aa;exact aa
 ·exact aa
def pI(h:∀ t,dD β (F t) (a.tmps.getD t undef)):∀ {xs:List Operand} {vs:List Value},j2 F xs=some vs->xs.map a.eval=vs
 |[],vs,ae=>by simp[j2,hI]at ae;simp[ae]
 |x::xs,vs,ae=>by
  unfold j2 hI at ae;split at ae;·rename_i v pJ aa ab;cases ae;simp[cw h aa,pI h ab]
  ·cases ae
def DC(h:∀ t,dD β (F t) (a.tmps.getD t undef)):∀ {xs:List (Nat×Operand)} {vs:List (Nat×Value)},wL F xs=some vs->(xs.map λ(i,x)=>(i,a.eval x))=vs
 |[],vs,ae=>by simp[wL,pH]at ae;simp[ae]
 |(i,x)::xs,vs,ae=>by
  unfold wL pH at ae;split at ae;·rename_i v pJ aa ab;cases ae;simp[cw h aa,DC h ab]
  ·cases ae
def g9(b3:∀ c,o.op≠.defer c)(h:(execOp a.eval o).run X.P w=.ok (.value v) w')(af:next (a.put o.dst v) w'):o.wpIn (fb X) 0 X.P a w next Q:=
 ⟨λ_ _=>trivial,by rw[Dx _ _ _ b3,h];exact af⟩
def yJ(b3:∀ c,o.op≠.defer c)(h:(execOp a.eval o).run X.P w=.ok .skip w')(af:next (a.put o.dst undef) w'):o.wpIn (fb X) 0 X.P a w next Q:=
 ⟨λ_ _=>trivial,by rw[Dx _ _ _ b3,h];exact af⟩
def Mo(a:Act)(d t:Nat)(v:Value)(ak:d<a.tmps.size):(a.put (some d) v).tmps.getD t undef=if t=d then v else a.tmps.getD t undef:=by
 simp only[Act.put,l8,yB];by_cases h:t=d
 ·subst h;simp[ak]
 ·simp[h,pD h]
def G'(h:∀ t,dD β (F t) (a.tmps.getD t undef)){d:Nat}{x:cF}(ak:d<a.tmps.size)(ae:dD β x v)(t:Nat):dD β (e5 F d x t) ((a.put (some d) v).tmps.getD t undef):=by
 rw[Mo a d t v ak];unfold e5;by_cases aa:t=d
 ·subst aa;simp only[nG,aZ,pE];exact ae
 ·have:Nat.beq t d=false:=fv aa;simp only[this,aY,b7 aa];exact h t
def Mp(w:World)(g:Nat)(cs:Array Value):lx w (w.setRow g cs):=by
 unfold World.setRow
 first | exact⟨rfl,rfl⟩ | (split<;>exact⟨rfl,rfl⟩)
def DD(w:World)(g:Nat)(o:Obj):lx w (w.putObj g o):=by unfold World.putObj;exact⟨rfl,rfl⟩
def Marks.mono(h:Marks X a w I M){I':aN}{M':List aC}(hm:∀ r,rP X w I M r->rP X w' I' M' r):Marks X a w' I' M':=by obtain⟨a3,aa,ab,ai⟩:=h;exact⟨a3,aa,ab,λr ao=>hm r (ai r ao)⟩
def bY.put(h:bY X β a w F C I M)(ak:∀ d,dst=some d->d<X.n){x:cF}(ae:dD β x v):bY X β (a.put dst v) w (put dst x F) C I M:=by
 cases dst with
 |none=>exact h
 |some d=>
  refine { h with size:=?_,defers:=h.defers,aj:=?_ };·simp[Act.put,h.size]
  ·exact G' h.aj (by rw[h.size];exact ak d rfl) ae
def dC.heap(h:dC I M w)(a4:w'.heap=w.heap):dC I M w':=
 { i:=by rw[a4];exact h.i,m:=by rw[a4];exact h.m,d:=h.d,a2:=h.a2 }
def bY.world(h:bY X β a w F C I M)(a4:w'.heap=w.heap)(an:lx w w':=by exact⟨rfl,rfl⟩):bY X β a w' F C I M:=
 { h with
  holds:={ i:=by rw[a4];exact h.holds.i,m:=by rw[a4];exact h.holds.m,d:=h.holds.d,a2:=h.holds.a2 }
  defers:=h.defers.mono λr ao=>{ ao with at_:=by rw[a4];exact ao.at_ }
  bL:=λs cs aq=>{ h.bL s cs aq with at_:=by rw[a4];exact(h.bL s cs aq).at_ }
  cE:=by rw[a4];exact h.cE
  out:=h.out.trans an
  sz:=by rw[a4];exact h.sz }
def dC.alloc(h:dC I M w)(o:Obj):dC I M (w.alloc o) where
 i b x ag:=by have aa:=h.i b x ag;rw[AA w o (jx.1 aa).1];exact aa
 m x ae:=by have aa:=h.m x ae;rw[AA w o (jx.1 aa).1];exact aa
 d:=h.d
 a2:=h.a2
def dC.lt(h:dC I M w){x:aC}(ae:x∈M):x.num<w.heap.size:=(jx.1 (h.m x ae)).1
def dC.yK(h:dC I M w){b:Nat}{o:Obj}(ag:I b=some o):b<w.heap.size:=(jx.1 (h.i b o ag)).1
def dC.oI(h:dC I M w):I w.heap.size=none:=by
 cases ag:I w.heap.size with
 |none=>rfl| some o=>exact absurd (h.yK ag) (Nat.lt_irrefl _)
def dC.nH(h:dC I M w):∀ x∈M,x.num≠w.heap.size:=λx ae e=>by have:=h.lt ae;omega
def dC.cons(h:dC I M w)(o:Obj):dC I (⟨w.heap.size,o⟩::M) (w.alloc o) where
 i:=(h.alloc o).i
 m x ae:=by
  rcases dv.1 ae with rfl | ae;·exact G8 w o
  ·exact(h.alloc o).m x ae
 d x ae:=by
  rcases dv.1 ae with rfl | ae;·exact h.oI
  ·exact h.d x ae
 a2:=by simp only[eh,kW];refine⟨λhm=>?_,h.a2⟩;obtain⟨x,ae,e⟩:=dO.1 hm;exact h.nH x ae e
def tr.alloc{b:Nat}{cs:List Value}(h:tr X w I M b cs)(o:Obj):tr X (w.alloc o) I M b cs where
 at_:=by obtain⟨T,bO⟩:=h.at_;exact⟨T,by rw[AA w o (jx.1 bO).1];exact bO⟩
 base:=h.base
 hH:=h.hH
 dF:=h.dF
def tr.lt{b:Nat}{cs:List Value}(h:tr X w I M b cs):b<w.heap.size:=by obtain⟨T,bO⟩:=h.at_;exact(jx.1 bO).1
def tr.Ha{b:Nat}{cs:List Value}(h:tr X w I M b cs)(o:Obj):tr X (w.alloc o) I (⟨w.heap.size,o⟩::M) b cs where
 at_:=(h.alloc o).at_
 base:=h.base
 hH:=h.hH
 dF x ae:=by
  rcases dv.1 ae with rfl | ae
  ·exact λe=>by have:=h.lt;simp only at e;omega
  ·exact h.dF x ae
def rP.alloc{r:Nat}(h:rP X w I M r)(o:Obj):rP X (w.alloc o) I M r:=
 { h with at_:=by rw[AA w o (jx.1 h.at_).1];exact h.at_ }
def rP.Ha{r:Nat}(h:rP X w I M r)(o:Obj):rP X (w.alloc o) I (⟨w.heap.size,o⟩::M) r:=by
 refine { h.alloc o with dF:=λx ae=>?_ };rcases dv.1 ae with rfl | ae
 ·have aa:=(jx.1 h.at_).1;simp only;omega
 ·exact h.dF x ae
def Hb(h:∀ b,b<X.B->b ∉ X.bF->w.heap[b]?=X.au.heap[b]?)(cc:X.B<=w.heap.size)(o:Obj):∀ b,b<X.B->b ∉ X.bF->(w.alloc o).heap[b]?=X.au.heap[b]?:=λb ag aD=>by rw[AA w o (by omega)];exact h b ag aD
def bY.l'(h:bY X β a w F C I M)(o:Obj):bY X β a (w.alloc o) F C I (⟨w.heap.size,o⟩::M) where
 size:=h.size
 defers:=h.defers.mono λr ao=>ao.Ha o
 holds:=h.holds.cons o
 aj:=h.aj
 bL s cs aq:=(h.bL s cs aq).Ha o
 inj:=h.inj
 gb:=h.gb
 fH:=h.fH
 own x ae:=by
  rcases dv.1 ae with rfl | ae;·exact .inr h.sz
  ·exact h.own x ae
 cE:=Hb h.cE h.sz o
 out:=h.out
 sz:=by have:=h.sz;simp;omega
def bY.Hc(h:bY X β a w F C I M)(d:Nat):bY X β a w (mM F d) (g8 C d none) I M where
 size:=h.size
 defers:=h.defers
 holds:=h.holds
 aj t:=by
  have aa:=h.aj t;unfold mM;cases ct:F t with
  |ref s off=>
   rw[ct]at aa;simp only;cases Nat.beq s d;·exact aa
   ·trivial
  |_=>rw[ct]at aa;exact aa
 bL s cs aq:=by
  unfold g8 at aq;cases ag:Nat.beq s d with
  |true=>simp[ag]at aq| false=>simp[ag]at aq;exact h.bL s cs aq
 inj s b0 aa ab:=h.inj s b0 (λe=>aa (by simp[g8,e])) (λe=>ab (by simp[g8,e]))
 gb:=h.gb
 fH:=h.fH
 own:=h.own
 cE:=h.cE
 out:=h.out
 sz:=h.sz
def bY.Mq(h:bY X β a w F C I M)(d:Nat)(ak:d<X.n)(cs:List Value)(T:Nat) :
  ∃ ly,bY X ly (a.put (some d) (.pointer (some ⟨w.heap.size,0,none⟩))) (w.alloc (.cells cs.toArray T (0,0))) (e5 (mM F d) d (.ref d 0)) (g8 C d (some cs)) I M:=by
 have au:=h.Hc d;let ly:Nat->Nat:=λs=>if s=d then w.heap.size else β s
 refine⟨ly,?_⟩;have qH:∀ t,dD ly (mM F d t) (a.tmps.getD t undef):=λt=>by
  have aa:=au.aj t;cases ct:mM F d t with
  |ref s off=>
   rw[ct]at aa;have aq:s≠d:=by
    intro e;subst e;unfold mM at ct;split at ct
    ·rename_i b0 DE Ms;cases ag:Nat.beq b0 s with
     |true=>simp[ag]at ct| false=>simp[ag]at ct;obtain⟨rfl,_⟩:=ct;simp at ag
    ·rename_i bl;exact bl _ _ ct
   simp only[dD,ly,b7 aq];exact aa
  |_=>rw[ct]at aa;exact aa
 exact {
  size:=by simp[Act.put,h.size]
  defers:=h.defers.mono λr ao=>ao.alloc _
  holds:=h.holds.alloc _
  aj:=G' qH (by rw[h.size];exact ak) (by simp[dD,ly])
  bL:=λs cs' aq=>by
   by_cases e:s=d;·subst e;simp[g8]at aq;subst aq;simp only[ly,cv rfl];exact { at_:=⟨T,G8 w _⟩,base:=h.sz,hH:=h.holds.oI,dF:=h.holds.nH }
   ·have ag:Nat.beq s d=false:=fv e;simp[g8,ag]at aq;simp only[ly,b7 e];exact(h.bL s cs' aq).alloc _
  inj:=λs b0 aa ab he=>by
   by_cases e:s=d<;>by_cases bc:b0=d
   ·rw[e,bc]
   ·exfalso;have ag:Nat.beq b0 d=false:=fv bc;simp[g8,ag]at ab;obtain⟨c,aF⟩:=Dp.1 ab;have:=(h.bL b0 c aF).lt;simp only[ly,cv e,b7 bc]at he;omega
   ·exfalso;have ag:Nat.beq s d=false:=fv e;simp[g8,ag]at aa;obtain⟨c,aF⟩:=Dp.1 aa;have:=(h.bL s c aF).lt;simp only[ly,b7 e,cv bc]at he;omega
   ·have ag:Nat.beq s d=false:=fv e;have gF:Nat.beq b0 d=false:=fv bc;simp[g8,ag]at aa;simp[g8,gF]at ab;simp only[ly,b7 e,b7 bc]at he;exact h.inj s b0 aa ab he
  gb:=h.gb
  fH:=h.fH
  own:=h.own
  cE:=Hb h.cE h.sz _
  out:=h.out
  sz:=by have:=h.sz;simp;omega }
def dx(a:Addr)(h:a.spot=none)(j:Nat):a.add j=⟨a.block,a.off+j,none⟩:=by
 obtain⟨b,o,s⟩:=a;simp only at h;subst h;unfold Addr.add;split<;>simp_all
def rQ{b:Nat}(aG:w.heap[b]?=some (.cells cs T aj))(j:Nat):w.cell? ⟨b,j,none⟩=cs[j]?:=by simp[World.cell?,aG]
variable{P:Program}{t:Nat}{i:dw}
def h4.run_sizeOf(h:h4 P t i)(w:World):(sizeOf t).run P w=.ok i.size w:=by obtain⟨inf,z,aa,ab,_⟩:=h.inf;simp[sizeOf,typeInfo,aa,ab]
def h4.AB(h:h4 P t i)(w:World):∃ z,(zeroValue t).run P w=.ok z w/\z.cells.toList=i.zero:=by obtain⟨inf,z,aa,ab,ai,aQ,bp⟩:=h.inf;exact⟨z,by simp[zeroValue,typeInfo,aa,aQ],bp⟩
def h4.UM(h:h4 P t i)(w:World):∃ d,(underlying t).run P w=.ok d w/\ek d=i.bn:=by obtain⟨d,aa,ab⟩:=h.ep;exact⟨d,run_underlying aa w,ab⟩
def h4.Mt(h:h4 P t i)(w:World):(isAgg t).run P w=.ok i.bn.agg w:=by
 obtain⟨d,aa,ab⟩:=h.UM w;rw[<-ab];unfold isAgg;simp only[bH,aa,bx];cases d<;>rfl
def UN(ay:vs.length=1):vs=[vs.headD undef]:=by
 match vs,ay with
 |[v],_=>rfl
def DF(h:h4 P t i){a:Addr}(aq:a.spot=none)(aG:w.heap[a.block]?=some (.cells cs T aj))
  (ah:(cs.toList.drop a.off).take i.size=vs) (ay:vs.length=i.size):(loadVar t a).run P w=.ok (pack i.bn.agg vs) w:=by
 have aF:∀ j v,vs[j]?=some v->w.cell? (a.add j)=some v:=by
  intro j v ar;rw[dx a aq,rQ aG];rw[<-ah,jY]at ar;split at ar;·rw[oE]at ar;simpa using ar
  ·cases ar
 unfold loadVar;simp only[bH,h.Mt,bx];cases AD:i.bn.agg with
 |true=>simp only[pE,bH,h.run_sizeOf,bx,<-ay];rw[run_loadCells_list w a vs aF];simp[pack]| false=>have aa:=h.G6 AD;rw[aa]at ay;have gG:=UN ay;have:=aF 0 (vs.headD undef) (by rw[gG];simp);have av:a.add 0=a:=rfl;rw[av]at this;simp[this,pack]
def wN(h:ga vs=true):∀ v∈vs,v.oneCell'=true:=by simpa[ga]using h
def DG(h:h4 P t i){a:Addr}(aq:a.spot=none)(aG:w.heap[a.block]?=some (.cells cs T (0,0)))(cc:v.cells.size=i.size)(ag:a.off+v.cells.toList.length<=cs.size)(aa:ga v.cells.toList=true) :
  (storeVar t a v).run P w=.ok () (w.setRow a.block (bo cs.toList a.off v.cells.toList).toArray):=by
 obtain⟨b,o,s⟩:=a;simp only at aq aG ag;subst aq;unfold storeVar;simp only[bH,h.run_sizeOf,bx,cc,ne_eq,not_true,jz,Sem.run_ite];have:=run_storeCells_at (P:=P) b o T v.cells.toList 0 cs w aG (by simpa using ag) (wN aa);simp only[pC]at this;simp only[bo];simpa using this
def bY.Mu(h:bY X β a w F C I M){s:Nat}{cs:List Value}(aq:C s=some cs)(cs':List Value):bY X β a (w.setRow (β s) cs'.toArray) F (g8 C s (some cs')) I M:=by
 have ag:=h.bL s cs aq;obtain⟨T,bO⟩:=ag.at_;exact {
  size:=h.size
  defers:=h.defers.mono λr ao=>by refine { ao with at_:=?_ };rw[setRow_other _ _ _ _ (λe=>by have aa:=ao.at_;rw[e,bO]at aa;cases aa)];exact ao.at_
  holds:={
   i:=λb o hr=>by rw[setRow_other _ _ _ _ (λe=>by rw[e,ag.hH]at hr;cases hr)];exact h.holds.i b o hr
   m:=λx ae=>by rw[setRow_other _ _ _ _ (ag.dF x ae)];exact h.holds.m x ae
   d:=h.holds.d
   a2:=h.holds.a2 }
  aj:=h.aj
  bL:=λb0 c' AE=>by
   by_cases e:b0=s;·subst e;simp[g8,nG]at AE;subst AE;exact { at_:=⟨T,setRow_heap _ _ _ _ _ _ bO⟩,base:=ag.base,hH:=ag.hH,dF:=ag.dF }
   ·simp[g8,fv e]at AE;have gF:=h.bL b0 c' AE;obtain⟨kw,AF⟩:=gF.at_;refine { at_:=⟨kw,?_⟩,base:=gF.base,hH:=gF.hH,dF:=gF.dF };rw[setRow_other _ _ _ _ (λbc=>e (h.inj b0 s (by simp[AE]) (by simp[aq]) bc))];exact AF
  inj:=λs1 s2 aa ab=>h.inj s1 s2 (λe=>by
    unfold g8 at aa;cases aK:Nat.beq s1 s with
    |true=>have:=bV aK;subst this;rw[aq]at e;cases e| false=>rw[aK]at aa;exact aa e) (λe=>by
    unfold g8 at ab;cases aK:Nat.beq s2 s with
    |true=>have:=bV aK;subst this;rw[aq]at e;cases e| false=>rw[aK]at ab;exact ab e)
  gb:=h.gb
  fH:=h.fH
  own:=h.own
  cE:=λb gF aD=>by rw[setRow_other _ _ _ _ (λe=>by have:=ag.base;omega)];exact h.cE b gF aD
  out:=h.out.trans (Mp _ _ _)
  sz:=by have:=h.sz;simpa using this }
def bY.u2(h:bY X β a w F C I M){pre post:List aC}{g:Nat}{cs':Array Value}(a5:M=pre++⟨g,.cells cs T (0,0)⟩::post) :
  bY X β a (w.setRow g cs') F C I (pre++⟨g,.cells cs' T (0,0)⟩::post):=by
 subst a5;have et:(⟨g,.cells cs T (0,0)⟩:aC)∈pre++⟨g,.cells cs T (0,0)⟩::post:=by simp
 have aG:w.heap[g]?=some (.cells cs T (0,0)):=h.holds.m _ et;have b3:=h.holds.a2;simp only[hq,eh]at b3;have bl:∀ x,x∈pre\/x∈post->x.num≠g:=by
  intro x ae e;rw[yF]at b3;obtain⟨_,ab,ai⟩:=b3;rcases ae with ae | ae;·exact ai x.num (dO.2 ⟨x,ae,rfl⟩) g (by simp) e
  ·rw[kW]at ab;exact ab.1 (dO.2 ⟨x,ae,e⟩)
 have mem:∀ x,x∈pre++(⟨g,.cells cs' T (0,0)⟩:aC)::post->x=⟨g,.cells cs' T (0,0)⟩\/(x∈pre\/x∈post):=by
  intro x ae;simp only[dA,dv]at ae;rcases ae with ae | ae | ae;·exact .inr (.inl ae)
  ·exact .inl ae
  ·exact .inr (.inr ae)
 have back:∀ x,x∈pre\/x∈post->x∈pre++(⟨g,.cells cs T (0,0)⟩:aC)::post:=by
  intro x ae;simp only[dA,dv];rcases ae with ae | ae;·exact .inl ae
  ·exact .inr (.inr ae)
 exact {
  size:=h.size
  defers:=h.defers.mono λr ao=>by
   have rR:g≠r:=ao.dF _ et;refine { ao with at_:=?_,dF:=λx ae=>?_ };·rw[setRow_other _ _ _ _ (pD rR)];exact ao.at_
   ·rcases mem x ae with rfl | ae
    ·exact rR
    ·exact ao.dF x (back x ae)
  holds:={
   i:=λb o hr=>by rw[setRow_other _ _ _ _ (λe=>by have:=h.holds.d _ et;simp only at this;rw[e,this]at hr;cases hr)];exact h.holds.i b o hr
   m:=λx ae=>by
    rcases mem x ae with rfl | ae;·exact setRow_heap _ _ _ _ _ _ aG
    ·rw[setRow_other _ _ _ _ (bl x ae)];exact h.holds.m x (back x ae)
   d:=λx ae=>by
    rcases mem x ae with rfl | ae;·exact h.holds.d ⟨g,.cells cs T (0,0)⟩ et
    ·exact h.holds.d x (back x ae)
   a2:=by simpa[hq]using b3 }
  aj:=h.aj
  bL:=λs c aq=>by
   have ag:=h.bL s c aq;obtain⟨kw,AF⟩:=ag.at_;have nI:g≠β s:=ag.dF _ et;refine { at_:=⟨kw,?_⟩,base:=ag.base,hH:=ag.hH,dF:=λx ae=>?_ };·rw[setRow_other _ _ _ _ (pD nI)];exact AF
   ·rcases mem x ae with rfl | ae
    ·exact nI
    ·exact ag.dF x (back x ae)
  inj:=h.inj
  gb:=h.gb
  fH:=h.fH
  own:=λx ae=>by
   rcases mem x ae with rfl | ae;·exact h.own ⟨g,.cells cs T (0,0)⟩ et
   ·exact h.own x (back x ae)
  cE:=λb ag aD=>by
   rw[setRow_other _ _ _ _ (λe=>by
    rcases h.own _ et with aa | aa;·simp only at aa;exact aD (e ▸ aa)
    ·simp only at aa;omega)]
   exact h.cE b ag aD
  out:=h.out.trans (Mp _ _ _)
  sz:=by have:=h.sz;simpa using this }
def gE.heap(h:dC I M w){b:Nat}{o:Obj}(af:gE I M b o):w.heap[b]?=some o:=by
 rcases af with af | ⟨x,ae,rfl,rfl⟩
 ·exact h.i b o af
 ·exact h.m x ae
def UO{cur:List Value}{x:Value}{xs:List Value}(h:off+1+xs.length<=cur.length):bo (cur.set off x) (off+1) xs=bo cur off (x::xs):=by
 unfold bo;rw[List.take_set,List.drop_set,cv (by omega),jw (by omega:off<cur.length)];have e:(List.take off cur++[cur[off]'(by omega)]).set off x=List.take off cur++[x]:=by rw[List.set_append,b7 (by simp;omega)];simp[yG (by omega:off<=cur.length)]
 rw[e];simp[oF,Dy 1]
def Mv(off:Nat):∀ (xs:List Value) (k:Nat) (cur:List Value),off+k+xs.length<=cur.length -> (xs.zipIdx k).foldl (λ(cs:Array Value) (p:Value×Nat)=>cs.setIfInBounds (off+p.2) p.1) cur.toArray=(bo cur (off+k) xs).toArray
 |[],k,cur,_=>by simp[bo]
 |x::xs,k,cur,ay=>by simp only[du]at ay;simp only[List.zipIdx_cons,At];rw[List.setIfInBounds_toArray,Mv off xs (k+1) _ (by simp;omega)];rw[show off+(k+1)=off+k+1 from by omega,UO (by omega)]
def fill_eq(place:Nat->Option (Nat×Nat)):∀ (vs:List (Nat×Value)) (cells r:List Value),pG place cells vs=some r->Instr.fill place cells.toArray vs=some r.toArray
 |[],cells,r,h=>by simp[pG]at h;simp[Instr.fill,h]
 |(i,v)::rest,cells,r,h=>by
  unfold pG at h;unfold Instr.fill;split at h;·cases h
  ·rename_i off size aH;simp only[aH];cases aF:(Nat.beq v.cells.size size&&Nat.ble (off+size) cells.length)with
   |false=>rw[aF]at h;cases h
   |true=>
    rw[aF]at h;simp only[aZ]at h;rw[bG]at aF;have aa:=bV aF.1;have ab:=bq aF.2;have ax:decide (v.cells.size≠size)=false:=by simp[aa]
    have aA:decide (off+v.cells.size > cells.toArray.size)=false:=by simp;omega
    rw[ax,aA];simp only[Bool.or_false,iL,jz];have a8:=fill_eq place rest _ r h;rw[<-a8];congr 1;have:=Mv off v.cells.toList 0 cells (by simp;omega);simp only[pC]at this;rw[<-this,<-G2];simp
end
def h6.le{I I':aN}{M M':List aC}(h:h6 bF I M I' M')(jh:dC I M w):(∀ b o,I b=some o->I' b=some o)/\dC I' M' w /\
  (∀ b o,I' b=some o->I b=some o\/∃ x∈M,x.num=b/\x.obj=o/\b ∉ bF)/\(∀ x∈M',x∈M):=by
 induction h with
 |refl=>exact⟨λ_ _ h=>h,jh,λ_ _ h=>.inl h,λ_ h=>h⟩
 | @sub I M M1 I' M' aq k a8=>
  have aa:dC I M1 w:=⟨jh.i,λx ae=>jh.m x (aq.subset ae),λx ae=>jh.d x (aq.subset ae),(aq.map _).nodup jh.a2⟩;obtain⟨cf,dd,c2,e4⟩:=a8 aa;refine⟨cf,dd,λb o ag=>?_,λx ae=>aq.subset (e4 x ae)⟩;rcases c2 b o ag with h | ⟨x,ae,h⟩;·exact .inl h
  ·exact .inr ⟨x,aq.subset ae,h⟩
 | @perm I M M1 I' M' aH k a8=>
  have aa:dC I M1 w:=⟨jh.i,λx ae=>jh.m x (aH.mem_iff.2 ae),λx ae=>jh.d x (aH.mem_iff.2 ae),(aH.map _).nodup_iff.1 jh.a2⟩;obtain⟨cf,dd,c2,e4⟩:=a8 aa;refine⟨cf,dd,λb o ag=>?_,λx ae=>aH.mem_iff.2 (e4 x ae)⟩;rcases c2 b o ag with h | ⟨x,ae,h⟩;·exact .inl h
  ·exact .inr ⟨x,aH.mem_iff.2 ae,h⟩
 | @rO I M I' M' b o post a5 aD k a8=>
  subst a5;have b3:=jh.a2;simp only[eh,kW]at b3;have ag:=jh.d ⟨b,o⟩ (by simp);simp only at ag;have aa:dC (ins I b o) post w:={
   i:=λfe o' h=>by
    unfold ins at h;by_cases e:fe=b;·subst e;simp only[nG,aZ,g7]at h;subst h;exact jh.m ⟨fe,o⟩ (by simp)
    ·simp only[fv e,aY]at h;exact jh.i _ _ h
   m:=λx ae=>jh.m x (by simp[ae])
   d:=λx ae=>by unfold ins;have e:x.num≠b:=λe=>b3.1 (dO.2 ⟨x,ae,e⟩);simp only[fv e,aY];exact jh.d x (by simp[ae])
   a2:=b3.2 }
  obtain⟨cf,dd,c2,e4⟩:=a8 aa;refine⟨λfe o' h=>cf fe o' ?_,dd,λfe o' h=>?_,λx ae=>by simp[e4 x ae]⟩
  ·unfold ins;by_cases e:fe=b
   ·subst e;rw[ag]at h;cases h
   ·simp only[fv e,aY];exact h
  ·rcases c2 fe o' h with h | ⟨x,ae,h⟩
   ·unfold ins at h;by_cases e:fe=b
    ·subst e;simp only[nG,aZ,g7]at h;exact .inr ⟨⟨fe,o⟩,by simp,rfl,h,aD⟩
    ·simp only[fv e,aY]at h;exact .inl h
   ·exact .inr ⟨x,by simp[ae],h⟩
def bY.gS{X:b'}{β:Nat->Nat}{F:Fr}{C:cG}{I I':aN}{M M':List aC}(h:bY X β a w F C I M)(hw:h6 X.bF I M I' M'):bY X β a w F C I' M':=by
 obtain⟨cf,dd,c2,e4⟩:=hw.le h.holds;exact { h with
  holds:=dd
  defers:=h.defers.mono λr ao=>by
   refine { ao with hH:=?_,dF:=λx ae=>ao.dF x (e4 x ae) };cases a':I' r with
   |none=>rfl
   |some o=>
    exfalso;rcases c2 _ _ a' with aa | ⟨x,ae,aa,_⟩;·rw[ao.hH]at aa;cases aa
    ·exact ao.dF x ae aa
  bL:=λs cs aq=>{ h.bL s cs aq with
   hH:=by
    cases a':I' (β s)with
    |none=>rfl
    |some o=>
     exfalso;rcases c2 _ _ a' with aa | ⟨x,ae,aa,_⟩;·rw[(h.bL s cs aq).hH]at aa;cases aa
     ·exact(h.bL s cs aq).dF x ae aa
   dF:=λx ae=>(h.bL s cs aq).dF x (e4 x ae) }
  gb:=λb o ag=>cf b o (h.gb b o ag)
  fH:=λb o ag=>by
   rcases c2 b o ag with aa | ⟨x,ae,rfl,_,aD⟩;·exact h.fH b o aa
   ·exact .inr ((h.own x ae).resolve_left aD)
  own:=λx ae=>h.own x (e4 x ae) }
section
variable{X:b'}{β:Nat->Nat}{a:Act}{w:World}{F:Fr}{C:cG}{I:aN}{M:List aC}{o:Oper}{Q:Exit->Act->World->Prop}{K:eF}
def Mw(h:bY X β a w F C I M)(ak:∀ d,o.dst=some d->d<X.n)(b3:∀ c,o.op≠.defer c){x:cF}(ao:(execOp a.eval o).run X.P w=.ok (.value v) w)(ae:dD β x v)(af:K (put o.dst x F) C I M):o.wpIn (fb X) 0 X.P a w (Sat X K) Q:=
 g9 b3 ao ⟨_,_,_,_,⟨β,h.put ak ae⟩,af⟩
def u3(h:bY X β a w F C I M)(ak:∀ d,o.dst=some d->d<X.n)(b3:∀ c,o.op≠.defer c)(ao:(execOp a.eval o).run X.P w=.ok (.value v) w)(af:K (put o.dst (.val v) F) C I M):o.wpIn (fb X) 0 X.P a w (Sat X K) Q:=
 Mw (x:=.val v) h ak b3 ao rfl af
def kX(k:IntKind)(n:Int)(w:World)(P:Program):(asIntOf (.int k n)).run P w=.ok (k,n) w:=rfl
def IntKind.yL{k cb:IntKind}(h:IntKind.j4 k cb=true):k=cb:=by cases k<;>cases cb<;>first | rfl | cases h
def lz(op:BinOp)(t:Nat)(x y:Operand)(k cb:IntKind)(n m:Int)(P:Program)(w:World):(eqGuard op t x y (.int k n) (.int cb m)).run P w=.ok () w:=by
 unfold eqGuard;cases op<;>rfl
def Hd(op:BinOp)(t:Nat)(x y:Operand)(n m:ByteArray)(P:Program)(w:World):(eqGuard op t x y (.string n) (.string m)).run P w=.ok () w:=by
 unfold eqGuard;cases op<;>rfl
def Mx(op:BinOp)(t:Nat)(x y:Operand)(n m:Bool)(P:Program)(w:World):(eqGuard op t x y (.bool n) (.bool m)).run P w=.ok () w:=by
 unfold eqGuard;cases op<;>rfl
def My(a b:ByteArray):(a.toList == b.toList)=decide (a=b):=by
 rw[rL];simp only[beq_iff_eq,eC];constructor
 ·intro h;have aa:a.data.toList=b.data.toList:=by rw[ByteArray.toList_eq,ByteArray.toList_eq]at h;exact h
  cases a;cases b;simp only[G3];exact fa aa
 ·intro h;rw[h]
def run_equal_bool{t:Nat}(hu:P.underlying t=some .bool)(a b:Bool)(w:World):(Op.equal t (.bool a) (.bool b)).run P w=.ok (a == b) w:=by
 have key:∀ d,(Op.equalIn (d+1) t (.bool a) (.bool b)).run P w=.ok (a == b) w:=λd=>by simp only[Op.equalIn,bH,run_underlying hu,bx,ch]
 exact key 9999
def UP(aI:cj X.P X.E)(op:BinOp)(t:Nat)(x y:Operand)(u v:cF)(jA tu:Value)(ae:u=.val jA)(aL:v=.val tu)(Mz:Value->Prop)(other:Prop)
  (h:jg op (X.E t) u v Mz other):other\/∃ r,(∀ w,(do eqGuard op t x y jA tu;binOp op t jA tu:Sem Value).run X.P w=.ok r w)/\Mz r:=by
 subst ae;subst aL;unfold jg at h;split at h
 ·rename_i k a cb b ax aA;cases ax;cases aA
  right
  split at h;·obtain⟨j,rfl,⟨r,ao,af⟩⟩:=h;refine⟨_,λw=>?_,af⟩;simp only[bH,lz,bx,binOp,Op.shift];rw[b7 (by omega)];simp[ao]
  ·obtain⟨j,rfl,af⟩:=h;refine⟨_,λw=>?_,af⟩;simp only[bH,lz,bx,binOp,Op.shift];rw[b7 (by omega)];simp
  ·rename_i gH ma;cases hJ:IntKind.j4 k cb with
   |false=>rw[hJ]at h;exact h.elim
   |true=>
    rw[hJ]at h;have UQ:=IntKind.yL hJ;subst UQ;simp only[aZ]at h;cases op<;>simp only at h
    case add=>obtain⟨r,ao,af⟩:=h;exact⟨_,λw=>by simp[lz,binOp,Op.intArith,ao],af⟩
    case sub=>obtain⟨r,ao,af⟩:=h;exact⟨_,λw=>by simp[lz,binOp,Op.intArith,ao],af⟩
    case mul=>obtain⟨r,ao,af⟩:=h;exact⟨_,λw=>by simp[lz,binOp,Op.intArith,ao],af⟩
    case quo=>obtain⟨au,r,ao,af⟩:=h;exact⟨_,λw=>by simp[lz,binOp,Op.intDiv,au,ao],af⟩
    case rem=>obtain⟨au,af⟩:=h;exact⟨_,λw=>by simp[lz,binOp,Op.intDiv,au],af⟩
    case and=>exact⟨_,λw=>by simp[lz,binOp,Op.intBits,qD],h⟩
    case or=>exact⟨_,λw=>by simp[lz,binOp,Op.intBits,qD],h⟩
    case xor=>exact⟨_,λw=>by simp[lz,binOp,Op.intBits,qD],h⟩
    case andNot=>exact⟨_,λw=>by simp[lz,binOp,Op.intBits,qD],h⟩
    case shl=>exact(gH rfl).elim
    case shr=>exact(ma rfl).elim
    case eql=>exact⟨_,λw=>by simp only[bH,lz,bx,binOp,Op.intCmp,tp];simp;rfl,h⟩
    case neq=>exact⟨_,λw=>by simp only[bH,lz,bx,binOp,Op.intCmp,tp];simp;rfl,h⟩
    case lss=>exact⟨_,λw=>by simp[lz,binOp,Op.intCmp,tp],h⟩
    case leq=>exact⟨_,λw=>by simp[lz,binOp,Op.intCmp,tp],h⟩
    case gtr=>exact⟨_,λw=>by simp[lz,binOp,Op.intCmp,tp],h⟩
    case geq=>exact⟨_,λw=>by simp[lz,binOp,Op.intCmp,tp],h⟩
 ·rename_i a b ax aA;cases ax;cases aA;split at h
  ·exact .inr ⟨_,λw=>by simp only[bH,Hd,bx,binOp,Op.stringOp,ch,My],h⟩
  ·exact .inr ⟨_,λw=>by simp only[bH,Hd,bx,binOp,Op.stringOp,ch,My],h⟩
  ·exact .inl h
 ·rename_i a b ax aA;cases ax;cases aA;split at h
  ·rename_i cP sz gp z az;obtain⟨d,hu,ak⟩:=(aI _ _ az).ep;have ff:d=.bool:=by cases d<;>simp_all[ek]
   subst ff;split at h;·exact .inr ⟨_,λw=>by simp only[bH,Mx,bx,binOp,run_equal_bool hu,ch],h⟩
   ·exact .inr ⟨_,λw=>by simp only[bH,Mx,bx,binOp,run_equal_bool hu,ch],h⟩
   ·exact .inl h
  ·exact .inl h
 ·exact .inl h
def He{args:Array Value}(h:Calls P f args w R)(n:Nat):CallsIn (fb X) n P f args w R:=by have aa:=(callsIn_wide (n:=n)).2 h;exact⟨trivial,λcs ao=>aa.2 cs (room_wide _)⟩
def dC.part(h:dC I M w){cH Mr:List aC}(a5:M.Perm (cH++Mr)):dC I cH w:=by
 have gq:∀ x,x∈M ↔ x∈cH\/x∈Mr:=λx=>by rw[a5.mem_iff,dA]
 have b3:((cH++Mr).map (·.num)).Nodup:=(a5.map (·.num)).nodup_iff.1 h.a2;rw[hq,yF]at b3;exact⟨h.i,λx ae=>h.m x ((gq x).2 (.inl ae)),λx ae=>h.d x ((gq x).2 (.inl ae)),b3.1⟩
def bY.after(h:bY X β a w F C I M){cH Mr M':List aC}{I':aN}(a5:M.Perm (cH++Mr))(nJ:dC I' M' w')(dB:Kept I cH w I' M' w'):bY X β a w' F C I' (M'++Mr):=by
 have gq:∀ x,x∈M ↔ x∈cH\/x∈Mr:=λx=>by rw[a5.mem_iff,dA]
 have b3:((cH++Mr).map (·.num)).Nodup:=(a5.map (·.num)).nodup_iff.1 h.holds.a2;rw[hq,yF]at b3;have MA:∀ x∈Mr,∀ y∈cH,y.num≠x.num:=λx ae y aL=>b3.2.2 y.num (dO.2 ⟨y,aL,rfl⟩) x.num (dO.2 ⟨x,ae,rfl⟩);have UR:∀ x∈Mr,w'.heap[x.num]?=w.heap[x.num]?:=λx ae=>
  dB.cE x.num (h.holds.lt ((gq x).2 (.inr ae))) (MA x ae)
 exact {
  size:=h.size
  defers:=h.defers.mono λr ao=>by
   have aU:=(jx.1 ao.at_).1;refine { at_:=?_,base:=ao.base,hH:=?_,dF:=λx ae=>?_ };·rw[dB.cE _ aU (λy aL=>ao.dF y ((gq y).2 (.inl aL)))];exact ao.at_
   ·cases a':I' r with
    |none=>rfl
    |some o=>
     exfalso;rcases dB.rM _ _ a' with aa | aa;·rw[ao.hH]at aa;cases aa
     ·omega
   ·rcases dA.1 ae with ae | ae
    ·rcases dB.tq x ae with⟨z,bd,wO⟩ | aa
     ·rw[<-wO];exact ao.dF z ((gq z).2 (.inl bd))
     ·omega
    ·exact ao.dF x ((gq x).2 (.inr ae))
  holds:={
   i:=nJ.i
   m:=λx ae=>by
    rcases dA.1 ae with ae | ae;·exact nJ.m x ae
    ·rw[UR x ae];exact h.holds.m x ((gq x).2 (.inr ae))
   d:=λx ae=>by
    rcases dA.1 ae with ae | ae;·exact nJ.d x ae
    ·cases a':I' x.num with
     |none=>rfl
     |some o=>
      exfalso;rcases dB.rM _ _ a' with aa | aa;·have:=h.holds.d x ((gq x).2 (.inr ae));rw[this]at aa;cases aa
      ·have:=h.holds.lt ((gq x).2 (.inr ae));omega
   a2:=by
    rw[hq,yF];refine⟨nJ.a2,b3.2.1,λp aH q aK e=>?_⟩;obtain⟨x,ae,rfl⟩:=dO.1 aH;obtain⟨y,aL,rfl⟩:=dO.1 aK;rcases dB.tq x ae with⟨z,bd,wO⟩ | aa;·exact MA y aL z bd (wO.trans e)
    ·have:=h.holds.lt ((gq y).2 (.inr aL));omega }
  aj:=h.aj
  bL:=λs cs aq=>by
   have ag:=h.bL s cs aq;obtain⟨T,bO⟩:=ag.at_;refine { at_:=⟨T,?_⟩,base:=ag.base,hH:=?_,dF:=λx ae=>?_ };·rw[dB.cE _ ag.lt (λy aL=>ag.dF y ((gq y).2 (.inl aL)))];exact bO
   ·cases a':I' (β s)with
    |none=>rfl
    |some o=>
     exfalso;rcases dB.rM _ _ a' with aa | aa;·rw[ag.hH]at aa;cases aa
     ·have:=ag.lt;omega
   ·rcases dA.1 ae with ae | ae
    ·rcases dB.tq x ae with⟨z,bd,wO⟩ | aa
     ·rw[<-wO];exact ag.dF z ((gq z).2 (.inl bd))
     ·have:=ag.lt;omega
    ·exact ag.dF x ((gq x).2 (.inr ae))
  inj:=h.inj
  gb:=λb o ag=>dB.le b o (h.gb b o ag)
  fH:=λb o ag=>by
   rcases dB.rM b o ag with aa | aa;·exact h.fH b o aa
   ·exact .inr (jy h.sz aa)
  own:=λx ae=>by
   rcases dA.1 ae with ae | ae
   ·rcases dB.tq x ae with⟨z,bd,wO⟩ | aa
    ·rw[<-wO];exact h.own z ((gq z).2 (.inl bd))
    ·exact .inr (jy h.sz aa)
   ·exact h.own x ((gq x).2 (.inr ae))
  cE:=λb ag aD=>by
   rw[dB.cE b (Dt ag h.sz) (λy aL e=>by
    rcases h.own y ((gq y).2 (.inl aL))with aa | aa;·exact aD (e ▸ aa)
    ·omega)]
   exact h.cE b ag aD
  out:=h.out.trans dB.out
  sz:=jy h.sz dB.sz }
def bY.call(h:bY X β a w F C I M){KC:Value->aN->List aC->Prop}(aF:a7 X.bF P f args I M KC) :
  (G7 P f/\Calls P f args.toArray w λe w'=>∃ v I' M',e=.returned v/\KC v I' M'/\bY X β a w' F C I' M')\/(∃ v w' I' M',(callFunc f args.toArray).run P w=.ok (.value v) w'/\KC v I' M'/\bY X β a w' F C I' M'):=by
 obtain⟨c3,cH,Mr,post,gr,⟨mN,aq⟩ | aq,af⟩:=aF.elim ⟨h.holds.d,h.holds.a2⟩<;>have h:=h.gS gr<;>have a5:=List.Perm.refl (cH++Mr)
 ·refine .inl ⟨mN,?_⟩;refine(aq w (h.holds.part a5)).mono ?_;rintro e w'⟨v,I',M',rfl,aH,nJ,dB⟩;have av:=h.after a5 nJ dB;exact⟨v,I',M'++Mr,rfl,af v I' M' dB.le av.holds.d aH,av⟩
 ·obtain⟨v,w',I',M',ao,aH,nJ,dB⟩:=aq w (h.holds.part a5);have av:=h.after a5 nJ dB;exact .inr ⟨v,w',I',M'++Mr,ao,af v I' M' dB.le av.holds.d aH,av⟩
def MB{args:Array Value}(b3:∀ c,o.op≠.defer c)(ao:(execOp a.eval o).run X.P w=.ok (.enter f args) w)
  (aF:Calls X.P f args w λe w'=>∃ v,e=.returned v/\next (a.put o.dst v) w'):o.wpIn (fb X) 0 X.P a w next Q:=by
 refine⟨λ_ _=>trivial,?_⟩;rw[Dx _ _ _ b3,ao];refine⟨(λh=>by cases h),?_⟩;refine(He aF _).mono ?_;rintro e w'⟨v,rfl,h⟩;exact h
def MC(z:Value)(MD:List Value)(h:z.cells.toList=MD)(n:Nat):(Array.range n).map (z.cells[· % z.cells.size]!)=(rowOf MD n).toArray:=by subst h;apply fa;simp[yI,madeCells]
def h4.struct{t:Nat}{bK:List (Nat×Nat)}(h:h4 P t ⟨sz,gp,z,.struct bK⟩):∃ fields,P.underlying t=some (.struct fields)/\bK=fields.toList.map λf=>(f.type,f.offset):=by
 obtain⟨d,aa,ab⟩:=h.ep;cases d<;>simp[ek]at ab
 exact⟨_,aa,ab.symm⟩
def h4.slice{t:Nat}(h:h4 P t ⟨sz,gp,z,.slice e⟩):P.underlying t=some (.slice e):=by
 obtain⟨d,aa,ab⟩:=h.ep;cases d<;>simp[ek]at ab
 rw[aa,ab]
def h4.array{t:Nat}(h:h4 P t ⟨sz,gp,z,.array n e⟩):P.underlying t=some (.array n e):=by
 obtain⟨d,aa,ab⟩:=h.ep;cases d<;>simp[ek]at ab
 rw[aa,ab.1,ab.2]
def h4.string{t:Nat}(h:h4 P t ⟨sz,gp,z,.string⟩):P.underlying t=some .string:=by
 obtain⟨d,aa,ab⟩:=h.ep;cases d<;>simp[ek]at ab
 exact aa
def h4.int{P:Program}{t sz gp:Nat}{z:List Value}{k:IntKind}(h:h4 P t ⟨sz,gp,z,.int k⟩):P.underlying t=some (.int k):=by
 obtain⟨d,aa,ab⟩:=h.ep;cases d<;>simp[ek]at ab
 rw[aa,ab]
def ME{fields:Array Field}{i j3:Nat}(h:(fields.toList.map λf=>(f.type,f.offset))[i]?=some (j3,off)):∃ f,fields[i]?=some f/\f.type=j3/\f.offset=off:=by
 simp only[G5,Array.getElem?_toList]at h;cases aD:fields[i]? with
 |none=>simp[aD]at h| some f=>simp[aD]at h;exact⟨f,rfl,h.1,h.2⟩
def Hf{t:Nat}{i:dw}(h:h4 P t i)(hle:off+i.size<=cs.size)(w:World):(part t cs off).run P w=.ok (pack i.bn.agg ((cs.toList.drop off).take i.size)) w:=by
 unfold part;simp only[bH,h.Mt,bx];cases AD:i.bn.agg with
 |true=>simp only[pE,bH,h.run_sizeOf,bx,ch,pack,aZ];congr 2;apply fa;simp[List.take_drop]
 |false=>
  have aa:=h.G6 AD;rw[aa]at hle |-;have aU:off<cs.size:=by omega
  simp only[iL,jz,Ar aU,ch,pack,aY];congr 1;rw[fs (by simpa using aU)];simp
def US{t:Nat}{aE:dw}(az:P.underlying t=some (.slice e))(he:h4 P e aE){c:Nat}{j:Nat}(ar:j<n)(w:World) :
  (Instr.indexAt t (.slice (some ad) n c) (.int eE j)).run P w=.ok (.pointer (some (ad.add (j*aE.size)))) w:=by
 unfold Instr.indexAt;simp only[bH,kX,bx,run_underlying az,ch];rw[cv ⟨by omega,by omega⟩];simp[he.run_sizeOf]
def MF{t:Nat}{aE:dw}(az:P.underlying t=some (.array m e))(he:h4 P e aE){j:Nat}(ar:j<m)(w:World) :
  (Instr.indexAt t (.pointer (some ad)) (.int eE j)).run P w=.ok (.pointer (some (ad.add (j*aE.size)))) w:=by
 unfold Instr.indexAt;simp only[bH,kX,bx,run_underlying az,ch,Instr.sureAddr];rw[cv ⟨by omega,by omega⟩];simp[he.run_sizeOf]
def MG{P:Program}{E:Env}(aI:cj P E)(w:World):∀ (fields:List Field),yH E (fields.map λf=>(f.type,f.offset))=true -> ∃ l:List (Nat×Nat),(fields.mapM λf=>(do pure (f.offset,<-sizeOf f.type):Sem (Nat×Nat))).run P w=.ok l w/\∀ i,l[i]?=places E (fields.map λf=>(f.type,f.offset)) i
 |[],_=>⟨[],rfl,λi=>by simp[places]⟩
 |f::bK,h=>by
  simp only[yH,eh,List.all_cons,bG]at h;obtain⟨ft,mb⟩:=Option.isSome_iff_exists.1 h.1;obtain⟨l,aa,ab⟩:=MG aI w bK h.2;refine⟨(f.offset,ft.size)::l,?_,λi=>?_⟩;·simp only[Av,bH,(aI _ _ mb).run_sizeOf,bx,ch];rw[aa];rfl
  ·cases i with
   |zero=>simp[places,mb]| succ i=>simp only[Dq,ab];simp[places]
def MH(aI:cj X.P X.E)(h:bY X β a w F C I M){u4:cF->Prop}(op:Op)(ty:TypeId)(dst:Option Tmp)(pos:String)(after:Array Edge)(guard:Option (Nat×Bool))(ah:bR X op (cB F) C I M u4 other) :
  other\/∃ v x,(execOp a.eval ⟨dst,op,ty,pos,after,guard⟩).run X.P w=.ok (.value v) w/\dD β x v/\u4 x:=by
 have done:∀ {v x},(execOp a.eval ⟨dst,op,ty,pos,after,guard⟩).run X.P w=.ok (.value v) w->dD β x v->u4 x->other\/∃ v x,(execOp a.eval ⟨dst,op,ty,pos,after,guard⟩).run X.P w=.ok (.value v) w/\dD β x v/\u4 x:=
  λaa ab ai=>.inr ⟨_,_,aa,ab,ai⟩
 have fR:∀ {v},(execOp a.eval ⟨dst,op,ty,pos,after,guard⟩).run X.P w=.ok (.value v) w->u4 (.val v)->other\/∃ v x,(execOp a.eval ⟨dst,op,ty,pos,after,guard⟩).run X.P w=.ok (.value v) w/\dD β x v/\u4 x:=
  fun {v} aa ai=>.inr ⟨v,.val v,aa,rfl,ai⟩
 have aD:=h.aj;cases op
 case move x=>exact done (by simp[execOp]) (tt aD x) ah
 case assign x=>exact done (by simp[execOp]) (tt aD x) ah
 case pick c p q=>
  simp only[bR]at ah;split at ah
  ·rename_i b ag;have aF:=G9 aD ag;cases b
   ·exact done (by simp[execOp,aF,asBool]) (tt aD q) ah
   ·exact done (by simp[execOp,aF,asBool]) (tt aD p) ah
  ·rename_i b ag;have aF:=qG aD ag;refine done (v:=if b then a.eval p else a.eval q) (x:=Dz b (bi F p) (bi F q)) (by simp[execOp,aF,asBool]) ?_ ah;have aa:=Mn aD p;have ab:=Mn aD q;unfold Dz;split
   ·rename_i x y ax aA;rw[ax]at aa;rw[aA]at ab;simp only[dD]at aa ab |-;cases b<;>simp[aa,ab]
   ·rename_i x y _ ax aA;rw[ax]at aa;rw[aA]at ab;simp only[dD]at aa ab |-;cases b<;>simp[aa,ab]
   ·trivial
  ·exact ah.elim
 case unOp op t x=>
  simp only[bR]at ah;split at ah;·rename_i b ag;exact done (v:=.bool (!b)) (x:=.lit (!b)) (by simp[execOp,G9 aD ag,Op.unary]) rfl ah
  ·rename_i b ag;exact fR (v:=.bool (!b)) (by simp[execOp,qG aD ag,Op.unary]) ah
  ·rename_i k n ag;obtain⟨r,ao,af⟩:=ah;exact fR (v:=.int k r) (by simp only[execOp,qG aD ag,Op.unary,Op.intArith,ao];simp) af
  ·exact Or.inl ah
 case binOp op t x y ty'=>
  simp only[bR]at ah;by_cases ae:∃ jA tu,bi F x=.val jA/\bi F y=.val tu
  ·obtain⟨jA,tu,ae,aL⟩:=ae;have fin:∀ r,(∀ w,(do eqGuard op t x y jA tu;binOp op t jA tu:Sem Value).run X.P w=.ok r w)->u4 (.val r)->(other\/∃ v lA,(execOp a.eval ⟨dst,.binOp op t x y ty',ty,pos,after,guard⟩).run X.P w=.ok (.value v) w/\dD β lA v/\u4 lA):=λr ao af=>by refine fR (v:=r) ?_ af;have:=ao w;rw[<-cw aD ae,<-cw aD aL]at this;simp only[execOp];simp only[bH]at this |-;rw[this];rfl
   rcases UP aI op t x y _ _ jA tu ae aL _ _ ah with(⟨fu,c7,r,aH,aK,ao,af⟩ | aa) | ⟨r,ao,af⟩;·rw[show cR (cB F) x=bi F x from rfl,ae]at aH;rw[show cR (cB F) y=bi F y from rfl,aL]at aK;cases aH;cases aK;exact fin r ao af
   ·exact Or.inl aa
   ·exact fin r ao af
  ·unfold jg at ah;split at ah
   ·rename_i ax aA;exact(ae ⟨_,_,ax,aA⟩).elim
   ·rename_i ax aA;exact(ae ⟨_,_,ax,aA⟩).elim
   ·rename_i ax aA;exact(ae ⟨_,_,ax,aA⟩).elim
   ·rcases ah with⟨fu,c7,r,aH,aK,ao,af⟩ | aa
    ·exact(ae ⟨_,_,aH,aK⟩).elim
    ·exact Or.inl aa
 case load t x=>
  simp only[bR]at ah;split at ah
  ·rename_i i hi;split at ah
   ·rename_i s off ae;have iO:=wM aD ae;split at ah
    ·rename_i cs aq;cases hle:Nat.ble (off+i.size) cs.length with
     |false=>rw[hle]at ah;exact ah.elim| true=>rw[hle]at ah;have AG:=bq hle;obtain⟨T,bO⟩:=(h.bL s cs aq).at_;refine fR (v:=pack i.bn.agg ((cs.drop off).take i.size)) ?_ ah;have:=DF (aI _ _ hi) (a:=⟨β s,off,none⟩) rfl bO (vs:=(cs.drop off).take i.size) (by simp) (by simp;omega);simp[execOp,Instr.loadAt,Instr.sureAddr,iO,this]
    ·exact ah.elim
   ·rename_i ad ae;have iO:=qG aD ae;obtain⟨vs,⟨bI,cs,T,aj,dK,gG,ay⟩,af⟩:=ah;refine fR (v:=pack i.bn.agg vs) ?_ af;have:=DF (aI _ _ hi) bI (dK.heap h.holds) gG ay;simp[execOp,Instr.loadAt,Instr.sureAddr,iO,this]
   ·exact ah.elim
  ·exact ah.elim
 case nilCheck x=>
  simp only[bR]at ah;split at ah;·rename_i s off ae;exact done (v:=.pointer (some ⟨β s,off,none⟩)) (x:=.ref s off) (by simp[execOp,wM aD ae]) rfl ah
  ·rename_i ad ae;exact fR (v:=.pointer (some ad)) (by simp[execOp,qG aD ae]) ah
  ·exact Or.inl ah
 case fieldAddr t x i=>
  simp only[bR]at ah;split at ah
  ·rename_i sz gp z bK az;obtain⟨fields,hu,rfl⟩:=(aI _ _ az).struct;split at ah
   ·rename_i j3 off iB;obtain⟨f,u5,rfl,rfl⟩:=ME iB;split at ah
    ·rename_i ft s o' mb ae;cases bd:Nat.beq ft.size 0 with
     |true=>rw[bd]at ah;exact ah.elim
     |false=>
      rw[bd]at ah;have iC:ft.size≠0:=λe=>by rw[e]at bd;cases bd
      refine done (v:=.pointer (some ⟨β s,o'+f.offset,none⟩)) (x:=.ref s (o'+f.offset)) ?_ rfl ah;simp[execOp,Instr.fieldAt,run_underlying hu,u5,wM aD ae,Instr.sureAddr,fieldPlace,(aI _ _ mb).run_sizeOf,iC,dx]
    ·rename_i ft ad mb ae;cases bd:Nat.beq ft.size 0 with
     |true=>rw[bd]at ah;exact ah.elim
     |false=>
      rw[bd]at ah;have iC:ft.size≠0:=λe=>by rw[e]at bd;cases bd
      refine fR (v:=.pointer (some (ad.add f.offset))) ?_ ah;simp[execOp,Instr.fieldAt,run_underlying hu,u5,qG aD ae,Instr.sureAddr,fieldPlace,(aI _ _ mb).run_sizeOf,iC]
    ·exact ah.elim
   ·exact ah.elim
  ·exact ah.elim
 case field t x i=>
  simp only[bR]at ah;split at ah
  ·rename_i sz gp z bK cs az ae;obtain⟨fields,hu,rfl⟩:=(aI _ _ az).struct;split at ah
   ·rename_i j3 off iB;obtain⟨f,u5,rfl,rfl⟩:=ME iB;split at ah
    ·rename_i ft mb;cases bd:Nat.ble (f.offset+ft.size) cs.size with
     |false=>rw[bd]at ah;exact ah.elim| true=>rw[bd]at ah;refine fR ?_ ah;simp[execOp,Instr.field,run_underlying hu,u5,cw aD ae,asAgg,Hf (aI _ _ mb) (bq bd)]
    ·exact ah.elim
   ·exact ah.elim
  ·exact ah.elim
 case indexAddr t x i=>
  simp only[bR]at ah;split at ah
  ·rename_i sz gp z e eE k az hi;have hu:=(aI _ _ az).slice;split at ah
   ·rename_i aE bw n c fS ae;obtain⟨ad,j,rfl,rfl,ar,af⟩:=ah;refine fR ?_ af;simp[execOp,cw aD ae,cw aD hi,US hu (aI _ _ fS) ar]
   ·exact ah.elim
  ·rename_i sz gp z n e eE k az hi;have hu:=(aI _ _ az).array;split at ah
   ·rename_i aE s o' fS ae;obtain⟨j,rfl,ar,af⟩:=ah;refine done (v:=.pointer (some ⟨β s,o'+j*aE.size,none⟩)) (x:=.ref s (o'+j*aE.size)) ?_ rfl af;simp[execOp,wM aD ae,cw aD hi,MF hu (aI _ _ fS) ar,dx]
   ·rename_i aE ad fS ae;obtain⟨j,rfl,ar,af⟩:=ah;refine fR ?_ af;simp[execOp,qG aD ae,cw aD hi,MF hu (aI _ _ fS) ar]
   ·exact ah.elim
  ·exact ah.elim
 case index t x i=>
  simp only[bR]at ah;split at ah;·rename_i sz gp z s eE k az ae hi;have hu:=(aI _ _ az).string;obtain⟨j,rfl,ar,af⟩:=ah;refine fR ?_ af;simp only[execOp,cw aD ae,cw aD hi,Instr.index,bH,kX,bx,run_underlying hu];rw[cv (by omega:(0:Int)<=j)];simp[ar]
  ·rename_i sz gp z n e cs eE k az ae hi;have hu:=(aI _ _ az).array;split at ah
   ·rename_i aE fS;cases bd:Nat.beq (n*aE.size) cs.size with
    |false=>rw[bd]at ah;exact ah.elim
    |true=>
     rw[bd]at ah;obtain⟨j,rfl,ar,af⟩:=ah;have iC:=bV bd;refine fR ?_ af;have hle:j*aE.size+aE.size<=cs.size:=by rw[<-iC,<-Nat.succ_mul];exact qz _ ar
     simp only[execOp,cw aD ae,cw aD hi,Instr.index,bH,kX,bx,run_underlying hu];rw[cv ⟨by omega,by omega⟩];simp[(aI _ _ fS).run_sizeOf,Hf (aI _ _ fS) hle]
   ·exact ah.elim
  ·exact ah.elim
 case build t parts=>
  simp only[bR]at ah;split at ah
  ·rename_i i vs hi gG;have aH:=DC aD gG;have u6:(parts.map λ(i,x)=>(i,a.eval x)).toList=vs:=by simpa using aH
   obtain⟨z,bd,tv⟩:=(aI _ _ hi).AB w;have yM:z.cells=i.zero.toArray:=by rw[<-tv]
   split at ah
   ·rename_i bK kY;cases aW:yH X.E bK with
    |false=>rw[aW]at ah;exact ah.elim
    |true=>
     rw[aW]at ah;simp only[aZ]at ah;split at ah
     ·rename_i cells rS;obtain⟨sz,gp,UT,bn⟩:=i;simp only at kY;subst kY;obtain⟨fields,hu,rfl⟩:=(aI _ _ hi).struct;obtain⟨l,ay,rT⟩:=MG aI w fields.toList aW;refine fR ?_ ah;have hm:(fields.mapM λf=>(do pure (f.offset,<-sizeOf f.type):Sem (Nat×Nat))).run X.P w=.ok l.toArray w:=by rw[Mm,Sem.run_map,ay];rfl
      have wP:=fill_eq _ _ _ _ rS;have UU:(λj=>l.toArray[j]?)=places X.E (fields.toList.map λf=>(f.type,f.offset)):=by funext j;rw[<-rT j];simp
      simp only[execOp,Instr.build,bH,bd,bx,run_underlying hu,yM,u6];rw[hm];simp only[bx,UU,wP,ch]
     ·exact ah.elim
   ·rename_i n e kY;split at ah
    ·rename_i aE fS;split at ah
     ·rename_i cells rS;obtain⟨sz,gp,UT,bn⟩:=i;simp only at kY;subst kY;have hu:=(aI _ _ hi).array;refine fR ?_ ah;have wP:=fill_eq _ _ _ _ rS;simp only[execOp,Instr.build,bH,bd,bx,run_underlying hu,yM,u6,(aI _ _ fS).run_sizeOf,wP,ch]
     ·exact ah.elim
    ·exact ah.elim
   ·exact ah.elim
  ·exact ah.elim
 case makeFunc fn first captured=>
  simp only[bR]at ah;split at ah
  ·rename_i bK cs aa ab;have ax:=pI aD aa;have aA:=pI aD ab;refine fR ?_ ah;have cL:first.map a.eval=bK.toArray:=by apply fa;simpa using ax
   have dy:captured.map a.eval=cs.toArray:=by apply fa;simpa using aA
   simp[execOp,Instr.makeFunc,cL,dy]
  ·exact ah.elim
 case slice t x lo hi mx=>
  simp only[bR]at ah;split at ah
  ·rename_i sz gp z e bw n c az ae;have hu:=(aI _ _ az).slice;have iO:=cw aD ae;split at ah
   ·rename_i aE fS dJ er;have wQ:lo=none:=by simpa using dJ
    have wR:hi=none:=by simpa using er
    subst wQ;subst wR;refine fR ?_ ah;have ax:(if c=0 then bw else bw.map (·.add (0*aE.size)))=bw:=by split<;>cases bw<;>simp[Addr.add]
    simp[execOp,Instr.sliceAt,Instr.slice,Instr.sliceBounds,iO,run_underlying hu,(aI _ _ fS).run_sizeOf,Addr.add]
   ·rename_i aE eE j5 fS dJ er;have wQ:lo=none:=by simpa using dJ
    subst wQ;obtain⟨ji,rfl,a4⟩:=rK.1 er;obtain⟨l,ab,DH,rfl,hle,pK,af⟩:=ah;refine fR ?_ af;simp only[execOp,Instr.sliceAt,Instr.slice,Instr.sliceBounds,Instr.sliceBound,iO,bH,run_underlying hu,bx,(aI _ _ fS).run_sizeOf,ch,iz,tn,cw aD a4,kX];rw[cv ⟨by omega,by omega⟩];simp[Addr.add]
   ·rename_i aE eE DI fS dJ er;have wR:hi=none:=by simpa using er
    subst wR;obtain⟨Hg,rfl,a4⟩:=rK.1 dJ;obtain⟨l,ab,rfl,Hh,hle,pK,af⟩:=ah;simp only[qB,jZ]at *;refine fR ?_ af;simp only[execOp,Instr.sliceAt,Instr.slice,Instr.sliceBounds,Instr.sliceBound,iO,bH,run_underlying hu,bx,(aI _ _ fS).run_sizeOf,ch,iz,tn,cw aD a4,kX];rw[cv ⟨by omega,by omega⟩];simp
   ·rename_i aE eE DI UW j5 fS dJ er;obtain⟨Hg,rfl,a4⟩:=rK.1 dJ;obtain⟨ji,rfl,Hi⟩:=rK.1 er;obtain⟨l,ab,rfl,rfl,hle,pK,af⟩:=ah;refine fR ?_ af;simp only[execOp,Instr.sliceAt,Instr.slice,Instr.sliceBounds,Instr.sliceBound,iO,bH,run_underlying hu,bx,(aI _ _ fS).run_sizeOf,ch,iz,tn,cw aD a4,cw aD Hi,kX];rw[cv ⟨by omega,by omega⟩];simp only[ch,bx,nF];rw[cv ⟨by omega,by omega⟩];simp
   ·exact ah.elim
  ·rename_i sz gp z s az ae;have hu:=(aI _ _ az).string;have iO:=cw aD ae;split at ah
   ·rename_i dJ er;have wQ:lo=none:=by simpa using dJ
    have wR:hi=none:=by simpa using er
    subst wQ;subst wR;refine fR ?_ ah;have ax:s.extract 0 s.size=s:=by apply pA;simp[uY]
    simp[execOp,Instr.sliceAt,Instr.slice,Instr.sliceBounds,iO,run_underlying hu,ax]
   ·rename_i eE j5 dJ er;have wQ:lo=none:=by simpa using dJ
    subst wQ;obtain⟨ji,rfl,a4⟩:=rK.1 er;obtain⟨l,ab,DH,rfl,hle,pK,af⟩:=ah;refine fR ?_ af;simp only[execOp,Instr.sliceAt,Instr.slice,Instr.sliceBounds,Instr.sliceBound,iO,bH,run_underlying hu,bx,ch,iz,tn,cw aD a4,kX];simp only[G4,iL,jz,bH,ch,bx,kX];rw[cv ⟨by omega,by omega⟩];simp
   ·rename_i eE DI dJ er;have wR:hi=none:=by simpa using er
    subst wR;obtain⟨Hg,rfl,a4⟩:=rK.1 dJ;obtain⟨l,ab,rfl,Hh,hle,pK,af⟩:=ah;simp only[qB,jZ]at *;refine fR ?_ af;simp only[execOp,Instr.sliceAt,Instr.slice,Instr.sliceBounds,Instr.sliceBound,iO,bH,run_underlying hu,bx,ch,iz,tn,cw aD a4,kX];simp only[G4,iL,jz,bH,ch,bx,kX];rw[cv ⟨by omega,by omega⟩];simp
   ·rename_i eE DI UW j5 dJ er;obtain⟨Hg,rfl,a4⟩:=rK.1 dJ;obtain⟨ji,rfl,Hi⟩:=rK.1 er;obtain⟨l,ab,rfl,rfl,hle,pK,af⟩:=ah;refine fR ?_ af;simp only[execOp,Instr.sliceAt,Instr.slice,Instr.sliceBounds,Instr.sliceBound,iO,bH,run_underlying hu,bx,ch,iz,tn,cw aD a4,cw aD Hi,kX];simp only[G4,iL,jz,bH,ch,bx,kX];rw[cv ⟨by omega,by omega⟩];simp only[ch,bx,nF];rw[cv ⟨by omega,by omega⟩];simp
   ·exact ah.elim
  ·exact Or.inl ah
 case extract x i=>
  simp only[bR]at ah;split at ah
  ·rename_i vs ae;split at ah
   ·rename_i v hi;refine fR ?_ ah;have c6:vs[i]?=some v:=by simpa using hi
    simp[execOp,Instr.extract,cw aD ae,c6]
   ·exact ah.elim
  ·exact ah.elim
 case convert s d x=>
  simp only[bR]at ah;split at ah;·rename_i afE sz gp z k cb n aq az ae;have hu:=(aI _ _ az).int;obtain⟨ds,ey,_⟩:=(aI _ _ aq).ep;obtain⟨r,ao,af⟩:=ah;refine fR ?_ af;simp only[execOp,convert,cw aD ae,bH,run_underlying ey,run_underlying hu,bx];simp only[Conv.intToInt,ao,ch,bx]
  ·exact Or.inl ah
 case call c=>
  obtain⟨callee,args,argTypes⟩:=c;cases callee with
  |value f=>exact .inl ah| invoke r m=>exact .inl ah
  |builtin b=>
   cases b
   case len=>
    simp only[bR]at ah;split at ah
    ·rename_i t v aa ab;have ax:=pI aD ab;have cL:args.map a.eval=#[v]:=by apply fa;simpa using ax
     have az:argTypes=#[t]:=by apply fa;simpa using aa
     subst az;split at ah;·rename_i sz gp z e ad n c bO;have hu:=(aI _ _ bO).slice;refine fR ?_ ah;simp[execOp,resolve,invoke,builtin,Builtin.len_,cL,run_underlying hu,goInt]
     ·rename_i sz gp z s bO;have hu:=(aI _ _ bO).string;refine fR ?_ ah;simp[execOp,resolve,invoke,builtin,Builtin.len_,cL,run_underlying hu,goInt]
     ·rename_i sz gp z n e bO;have hu:=(aI _ _ bO).array;refine fR ?_ ah;simp[execOp,resolve,invoke,builtin,Builtin.len_,cL,run_underlying hu,goInt]
     ·exact Or.inl ah
    ·exact Or.inl ah
   case cap=>
    simp only[bR]at ah;split at ah
    ·rename_i t v aa ab;have ax:=pI aD ab;have cL:args.map a.eval=#[v]:=by apply fa;simpa using ax
     have az:argTypes=#[t]:=by apply fa;simpa using aa
     subst az;split at ah;·rename_i sz gp z e ad n c bO;have hu:=(aI _ _ bO).slice;refine fR ?_ ah;simp[execOp,resolve,invoke,builtin,Builtin.cap_,cL,run_underlying hu,goInt]
     ·exact Or.inl ah
    ·exact Or.inl ah
   case max=>
    simp only[bR]at ah;split at ah
    ·rename_i k p cb q ab;have ax:=pI aD ab;have cL:args.map a.eval=#[.int k p,.int cb q]:=by apply fa;simpa using ax
     refine fR ?_ ah;have hm:(if q > p then q else p)=max p q:=by split<;>omega
     simp only[execOp,resolve,invoke,builtin,Builtin.max_,Builtin.max2,cL,bH,ch,bx,List.foldlM_cons,List.foldlM_nil,hm]
    ·exact Or.inl ah
   case min=>
    simp only[bR]at ah;split at ah
    ·rename_i k p cb q ab;have ax:=pI aD ab;have cL:args.map a.eval=#[.int k p,.int cb q]:=by apply fa;simpa using ax
     refine fR ?_ ah;have hm:(if q<p then q else p)=min p q:=by split<;>omega
     simp only[execOp,resolve,invoke,builtin,Builtin.min_,Builtin.min2,cL,bH,ch,bx,List.foldlM_cons,List.foldlM_nil,hm]
    ·exact Or.inl ah
   case unsafeSliceData=>
    simp only[bR]at ah;split at ah
    ·rename_i n c ab;have ax:=pI aD ab;have cL:args.map a.eval=#[.slice none n c]:=by apply fa;simpa using ax
     refine fR ?_ ah;simp only[execOp,resolve,invoke,builtin,cL,bH,ch,bx,Lib.run_unsafeSliceData_nil]
    ·rename_i ad n c ab;obtain⟨ai,ah⟩:=ah;have ax:=pI aD ab;have cL:args.map a.eval=#[.slice (some ad) n c]:=by apply fa;simpa using ax
     refine fR ?_ ah;simp only[execOp,resolve,invoke,builtin,cL,bH,ch,bx,Lib.run_unsafeSliceData_row _ _ _ _ _ _ (show c≠0 by omega)]
    ·exact Or.inl ah
   all_goals exact .inl ah
 all_goals exact .inl ah
def yN(aI:cj X.P X.E)(ak:∀ d,o.dst=some d->d<X.n)(h:Rel X a w F C I M)(ah:fc X o F C I M K):o.wpIn (fb X) 0 X.P a w (Sat X K) Q:=by
 have aX:=h;obtain⟨β,h⟩:=h;obtain⟨dst,op,ty,pos,after,guard⟩:=o;have other:be X ⟨dst,op,ty,pos,after,guard⟩ F C I M K->(⟨dst,op,ty,pos,after,guard⟩:Oper).wpIn (fb X) 0 X.P a w (Sat X K) Q:=λ⟨h⟩=>h a w Q aX;have aD:=h.aj;have quiet:bR X op (cB F) C I M (λx=>K (Go.V.put dst x F) C I M) (be X ⟨dst,op,ty,pos,after,guard⟩ F C I M K)->(∀ c,op≠.defer c)->(⟨dst,op,ty,pos,after,guard⟩:Oper).wpIn (fb X) 0 X.P a w (Sat X K) Q:=λaK b3=>by
  rcases MH aI h op ty dst pos after guard aK with aa | ⟨v,x,ao,ae,af⟩;·exact other aa
  ·exact Mw (o:=⟨dst,op,ty,pos,after,guard⟩) h ak b3 ao ae af
 cases op
 case box t x=>
  simp only[fc]at ah;split at ah
  ·rename_i d v ae;have iO:=cw aD ae;have ao:(execOp a.eval ⟨some d,.box t x,ty,pos,after,guard⟩).run X.P w=.ok (.value (.pointer (some ⟨w.heap.size,0,none⟩))) (w.alloc (.cells v.cells t (0,0))):=by simp[execOp,Instr.box,newVar,newRow,iO,wI]
   have eG:d<X.n:=ak d rfl;cases h7:X.e6.contains d with
   |true=>rw[h7]at ah;obtain⟨ah⟩:=ah;have af:=ah w.heap.size h.holds.oI h.holds.nH;have aa:=(h.l' (.cells v.cells t (0,0))).Hc d;exact g9 (by simp) ao ⟨_,_,_,_,⟨β,bY.put aa (dst:=some d) (x:=.val (.pointer (some ⟨w.heap.size,0,none⟩))) (by simpa using eG) rfl⟩,af⟩
   |false=>rw[h7]at ah;obtain⟨ly,aa⟩:=h.Mq d eG v.cells.toList t;exact g9 (by simp) ao ⟨_,_,_,_,⟨ly,by simpa using aa⟩,ah⟩
  ·exact ah.elim
 case alloc t=>
  simp only[fc]at ah;split at ah
  ·rename_i d i hi;obtain⟨z,bd,tv⟩:=(aI _ _ hi).AB w;have yM:z.cells=i.zero.toArray:=by rw[<-tv]
   have ao:(execOp a.eval ⟨some d,.alloc t,ty,pos,after,guard⟩).run X.P w=.ok (.value (.pointer (some ⟨w.heap.size,0,none⟩))) (w.alloc (.cells i.zero.toArray t (0,0))):=by simp[execOp,Instr.alloc,newVar,newRow,bd,yM,wI]
   have eG:d<X.n:=ak d rfl;cases h7:X.e6.contains d with
   |true=>rw[h7]at ah;obtain⟨ah⟩:=ah;have af:=ah w.heap.size h.holds.oI h.holds.nH;have aa:=(h.l' (.cells i.zero.toArray t (0,0))).Hc d;exact g9 (by simp) ao ⟨_,_,_,_,⟨β,bY.put aa (dst:=some d) (x:=.val (.pointer (some ⟨w.heap.size,0,none⟩))) (by simpa using eG) rfl⟩,af⟩
   |false=>rw[h7]at ah;obtain⟨ly,aa⟩:=h.Mq d eG i.zero t;exact g9 (by simp) ao ⟨_,_,_,_,⟨ly,aa⟩,ah⟩
  ·exact ah.elim
 case store t x y=>
  simp only[fc]at ah;split at ah
  ·rename_i i v hi aL;have u7:=cw aD aL;split at ah
   ·rename_i s off ae;have iO:=wM aD ae;split at ah
    ·rename_i cs aq;cases hle:(Nat.ble (off+i.size) cs.length&&(Nat.beq v.cells.size i.size&&ga v.cells.toList))with
     |false=>rw[hle]at ah;exact ah.elim| true=>rw[hle]at ah;simp only[bG]at hle;obtain⟨hle,cc,j6⟩:=hle;have AG:=bq hle;have wS:=bV cc;obtain⟨T,bO⟩:=(h.bL s cs aq).at_;have:=DG (aI _ _ hi) (a:=⟨β s,off,none⟩) (v:=v) rfl bO wS (by simp;omega) j6;refine yJ (by simp) (w':=w.setRow (β s) (bo cs off v.cells.toList).toArray) ?_ ⟨_,_,_,_,⟨β,h.Mu aq (bo cs off v.cells.toList)⟩,ah⟩;simp only[execOp,Instr.storeAt,iO,u7,Instr.sureAddr,bH,ch,bx];simp only[G1]at this;rw[this];rfl
    ·exact ah.elim
   ·rename_i ad ae;have iO:=qG aD ae;cases cc:Nat.beq v.cells.size i.size with
    |false=>rw[cc]at ah;exact ah.elim| true=>rw[cc]at ah;obtain⟨pre,post,cs,T,a5,bI,ag,j6,af⟩:=ah;have wS:=bV cc;have aG:w.heap[ad.block]?=some (.cells cs T (0,0)):=h.holds.m ⟨ad.block,.cells cs T (0,0)⟩ (by rw[a5];simp);have:=DG (aI _ _ hi) (v:=v) bI aG wS ag j6;refine yJ (by simp) (w':=w.setRow ad.block (bo cs.toList ad.off v.cells.toList).toArray) ?_ ⟨_,_,_,_,⟨β,h.u2 a5⟩,af⟩;simp only[execOp,Instr.storeAt,iO,u7,Instr.sureAddr,bH,ch,bx];rw[this];rfl
   ·exact ah.elim
  ·exact ah.elim
 case buildSlice t len parts=>
  simp only[fc]at ah;split at ah
  ·rename_i sz gp z e vs az gG;have hu:=(aI _ _ az).slice;have aH:=DC aD gG;have u6:(parts.map λ(i,x)=>(i,a.eval x)).toList=vs:=by simpa using aH
   split at ah
   ·rename_i aE fS;cases bd:(Nat.ble (len*aE.size) 16777216&&Nat.blt 0 (len*aE.size))with
    |false=>
     rw[bd]at ah;simp only[aY]at ah;split at ah
     ·rename_i UX;obtain⟨ah⟩:=ah;have af:=ah w.heap.size h.holds.oI h.holds.nH;refine g9 (by simp) (v:=.slice (some ⟨w.heap.size,0,none⟩) 0 0) (w':=w.alloc (.cells #[] e (0,0))) ?_ ⟨_,_,_,_,⟨β,(h.l' _).put (x:=.val (.slice (some ⟨w.heap.size,0,none⟩) 0 0)) ak rfl⟩,af⟩;simp only[execOp,Instr.buildSlice,bH,bx,run_underlying hu,(aI _ _ fS).run_sizeOf,u6];have bT:∀ f:Nat->Value,Array.map f (Array.range 0)=#[]:=λf=>by apply Array.ext<;>simp
      simp[newRow,wI,Instr.fill,bT]
     ·exact ah.elim
    |true=>
     rw[bd]at ah;simp only[aZ]at ah;rw[bG]at bd;have hle:=bq bd.1;have mO:0<len*aE.size:=by simpa using bd.2
     split at ah;·rename_i cells rS;obtain⟨pL,wT,tv⟩:=(aI _ _ fS).AB w;obtain⟨ah⟩:=ah;have af:=ah w.heap.size h.holds.oI h.holds.nH;refine g9 (by simp) (v:=.slice (some ⟨w.heap.size,0,none⟩) len len) (w':=w.alloc (.cells cells.toArray e (0,0))) ?_ ⟨_,_,_,_,⟨β,(h.l' _).put (x:=.val (.slice (some ⟨w.heap.size,0,none⟩) len len)) ak rfl⟩,af⟩;have wP:=fill_eq _ _ _ _ rS;simp only[execOp,Instr.buildSlice,bH,bx,run_underlying hu,(aI _ _ fS).run_sizeOf];rw[b7 (by omega)];simp only[b7 (show ¬ len*aE.size=0 by omega),bH,wT,bx,ch,u6,MC pL aE.zero tv,wP];simp[newRow,wI]
     ·exact ah.elim
   ·exact ah.elim
  ·exact ah.elim
 case makeSlice t l c=>
  simp only[fc]at ah;split at ah
  ·rename_i sz gp z e AH cd jj c' az ay aF;have hu:=(aI _ _ az).slice;split at ah
   ·rename_i aE fS;obtain⟨n,m,rfl,rfl,AI,ag,hm,⟨ah⟩⟩:=ah;have af:=ah w.heap.size h.holds.oI h.holds.nH;obtain⟨inf,pL,eM,gd,hs,jB,wU⟩:=(aI _ _ fS).inf;refine g9 (by simp) (v:=.slice (some ⟨w.heap.size,0,none⟩) n m) (w':=w.alloc (.cells (rowOf aE.zero (m*aE.size)).toArray e (0,0))) ?_ ⟨_,_,_,_,⟨β,(h.l' _).put (x:=.val (.slice (some ⟨w.heap.size,0,none⟩) n m)) ak rfl⟩,af⟩;have jC:((aE.bytes:Nat):Int)*(m:Int)<=281474976710656:=by
     have ab:((aE.bytes*m:Nat):Int)<=281474976710656:=by omega
     simpa using ab
    have:=run_make (P:=X.P) w t e inf pL hu eM jB AH jj (n:Int) (m:Int) (by omega) (by omega) (by rw[hs];exact jC) (by omega);simp only[execOp,cw aD ay,cw aD aF,bH,this,bx,ch,nF];have ax:madeCells pL.cells (m*inf.size)=(rowOf aE.zero (m*aE.size)).toArray:=by rw[gd,<-wU];simp[yI]
    rw[ax]
   ·exact ah.elim
  ·exact ah.elim
 case call c=>
  obtain⟨callee,args,argTypes⟩:=c;cases callee with
  |value f=>
   simp only[fc]at ah;split at ah
   ·rename_i g first cap vs u9 gG
    have ax:=pI aD gG;have cL:args.map a.eval=vs.toArray:=by apply fa;simpa using ax
    have eu:∀ {n:Next} {w':World},(callFunc g (first.toList++vs++cap.toList).toArray).run X.P w=.ok n w'->(execOp a.eval ⟨dst,.call { callee:=.value f,args,argTypes },ty,pos,after,guard⟩).run X.P w=.ok n w':=λao=>by simp only[execOp,resolve,cw aD u9,Deferred.ofValue,bH,ch,bx,cL,invoke];rw[show first++vs.toArray++cap=(first.toList++vs++cap.toList).toArray from by apply fa;simp];exact ao
    rcases h.call ah with⟨mN,wV⟩ | ⟨v,w',I',M',ao,af,fw⟩;·refine MB (by simp) (f:=g) (args:=(first.toList++vs++cap.toList).toArray) (eu (mN _ _)) ?_;refine wV.mono ?_;rintro e w'⟨v,I',M',rfl,af,ao⟩;exact⟨v,rfl,_,_,_,_,⟨β,ao.put (x:=.val v) ak rfl⟩,af⟩
    ·exact g9 (by simp) (eu ao) ⟨_,_,_,_,⟨β,fw.put (x:=.val v) ak rfl⟩,af⟩
   ·exact other ah
  |invoke r m=>exact quiet ah (by simp)
  |builtin b=>
   cases b
   all_goals exact quiet ah (by simp)
 case defer c=>exact other ah
 all_goals exact quiet ah (by simp)
end
section
variable{X:b'}{β:Nat->Nat}{a:Act}{w:World}{F:Fr}{C:cG}{I:aN}{M:List aC}{o:Oper}{Q:Exit->Act->World->Prop}{K:eF}
def yO{d:Nat}{c:Bool}(h:a.tmps.getD d undef=.bool c):a.tmps[d]?=some (.bool c):=by
 rw[l8]at h;cases ak:a.tmps[d]? with
 |none=>rw[ak]at h;cases h| some v=>rw[ak]at h;simp at h;rw[h]
def AJ{ops:Array Oper}{j d:Nat}(ak:(ops[j]?).bind (·.dst)=some d)(tmps:Array Value):yielded ops tmps j=match tmps[d]? with
  |some (.bool b)=>some b| _=>none:=by
 unfold yielded;rw[ak];rfl
def bY.refine(h:bY X β a w F C I M){de:Fr}(ct:∀ t,dD β (de t) (a.tmps.getD t undef)):bY X β a w de C I M:={ h with aj:=ct }
def MI(aI:cj X.P X.E)(ops:Array Oper)(qI:∀ a w,Sat X K a w->Q .normal a w):∀ (l:List Oper) (k:Nat),(∀ j,l[j]?=ops[k+j]?)->(∀ o∈l,∀ d,o.dst=some d->d<X.n) -> ∀ {F C I M a w},Rel X a w F C I M->qF X ops.toList l F C I M K->wpOpsIn (fb X) 0 X.P ops Q (List.range' k l.length) a w
 |[],k,_,_,F,C,I,M,a,w,aX,ah=>qI _ _ ⟨F,C,I,M,aX,ah⟩
 |o::rest,k,ay,ak,F,C,I,M,a,w,aX,ah=>by
  have au:ops[k]?=some o:=by simpa using(ay 0).symm
  have nK:∀ j,rest[j]?=ops[k+1+j]?:=λj=>by have:=ay (j+1);simpa[oF,Dy 1 j]using this
  have ff:∀ o∈rest,∀ d,o.dst=some d->d<X.n:=λo an=>ak o (by simp[an]);have u':=ak o (by simp);have a8:=@MI aI ops qI rest (k+1) nK ff;simp only[du,List.range'_succ,wpOpsIn,au];have run:∀ {F C I M},Rel X a w F C I M->fc X o F C I M (λF C I M=>qF X ops.toList rest F C I M K)->o.wpIn (fb X) 0 X.P a w (wpOpsIn (fb X) 0 X.P ops Q (List.range' (k+1) rest.length)) Q:=λaX ah=>
   pz (λbw w' ⟨de,C',I',M',ao,af⟩=>a8 ao af) (yN aI u' aX ah)
  have skip:∀ {F C I M},Rel X a w F C I M->qF X ops.toList rest (put o.dst (.val undef) F) C I M K->(∀ f,o.about X.P w a.eval=some f->(fb X).fn f)/\wpOpsIn (fb X) 0 X.P ops Q (List.range' (k+1) rest.length) (a.put o.dst undef) w:=λ⟨β,ao⟩ ah=>
   ⟨λ_ _=>trivial,a8 ⟨β,ao.put (x:=.val undef) u' rfl⟩ ah⟩
  unfold qF at ah;cases aG:o.guard with
  |none=>
   rw[aG]at ah;have hw:Region.wanted o (yielded ops a.tmps)=true:=by simp[Region.wanted,aG]
   rw[cv hw];exact run aX ah
  |some AK=>
   obtain⟨j,b⟩:=AK;rw[aG]at ah;simp only at ah;cases ar:(ops.toList[j]?).bind (·.dst)with
   |none=>rw[ar]at ah;exact ah.elim
   |some d=>
    rw[ar]at ah;simp only at ah;have h8:(ops[j]?).bind (·.dst)=some d:=by simpa using ar
    have aL:=AJ h8 a.tmps;obtain⟨β,ao⟩:=aX;have ct:=ao.aj d;split at ah
    ·rename_i c aF;rw[aF]at ct;have Hj:=yO ct;have AL:Region.wanted o (yielded ops a.tmps)=(c == b):=by simp[Region.wanted,aG,aL,Hj]
     rw[AL];cases gT:(c == b)with
     |true=>rw[gT]at ah;simp only[pE];exact run ⟨β,ao⟩ ah| false=>rw[gT]at ah;simp only[iL,jz];exact skip ⟨β,ao⟩ ah
    ·rename_i c aF;rw[aF]at ct;have Hj:=yO ct;have AL:Region.wanted o (yielded ops a.tmps)=(c == b):=by simp[Region.wanted,aG,aL,Hj]
     rw[AL];obtain⟨wW,rU⟩:=ah;have set:∀ x:Bool,c=x->Rel X a w (e5 F d (.lit x)) C I M:=λx ae=>⟨β,ao.refine λt=>by
      unfold e5;by_cases e:t=d;·subst e;simp only[nG,aZ];rw[<-ae];exact ct
      ·simp only[fv e,aY];exact ao.aj t⟩
     by_cases gT:c=b
     ·have:(c == b)=true:=by simp[gT]
      rw[this];simp only[pE];exact run (set b gT) (wW gT)
     ·have ab:c=!b:=by cases c<;>cases b<;>simp_all
      have:(c == b)=false:=by simp[gT]
      rw[this];simp only[iL,jz];exact skip (set _ ab) (rU ab)
    ·rename_i vs aF;rw[aF]at ct;have wX:yielded ops a.tmps j=none:=by
      rw[aL];cases kZ:a.tmps[d]? with
      |none=>rfl| some v=>simp only[dD,l8,kZ,jZ]at ct;subst ct;rfl
     have AL:Region.wanted o (yielded ops a.tmps)=false:=by simp[Region.wanted,aG,wX]
     rw[AL];simp only[iL,jz];exact skip ⟨β,ao⟩ ah
    ·exact ah.elim
end
inductive tw:cF->cF->Prop
 |refl{x}:tw x x| lit {b}:tw (.lit b) (.val (.bool b))| kv {x}:tw x .kv
def pM:List (Nat×cF)->Fr
 |[],_=>.kv|(t,x)::l,s=>bif Nat.beq s t then x else pM l s
def pN:List (Nat×List Value)->cG
 |[],_=>none|(t,x)::l,s=>bif Nat.beq s t then some x else pN l s
inductive iP(F:Fr):List (Nat×cF)->Prop
 |nil:iP F []| cons {t x l} (h:tw (F t) x) (k:iP F l):iP F ((t,x)::l)
inductive va(C:cG):List (Nat×List Value)->Prop
 |nil:va C []| cons {t x l} (h:C t=some x) (k:va C l):va C ((t,x)::l)
def UY{β:Nat->Nat}{x y:cF}(h:tw x y)(ae:dD β x v):dD β y v:=by
 cases h with
 |refl=>exact ae| lit=>exact ae| kv=>trivial
def iP.ok{β:Nat->Nat}{F:Fr}{a:Act}(h:∀ t,dD β (F t) (a.tmps.getD t undef)){l:List (Nat×cF)}(ay:iP F l)(t:Nat):dD β (pM l t) (a.tmps.getD t undef):=by
 induction ay with
 |nil=>trivial
 | @cons dU x l ae k a8=>
  unfold pM;by_cases e:t=dU;·subst e;simp only[nG,aZ];exact UY ae (h t)
  ·simp only[fv e,aY];exact a8
def va.ok{C:cG}{l:List (Nat×List Value)}(ay:va C l){s:Nat}{cs:List Value}(h:pN l s=some cs):C s=some cs:=by
 induction ay with
 |nil=>cases h
 | @cons dU x l ae k a8=>
  unfold pN at h;by_cases e:s=dU;·subst e;simp only[nG,aZ]at h;rw[ae,h]
  ·simp only[fv e,aY]at h;exact a8 h
def bY.base{X:b'}{β:Nat->Nat}{F:Fr}{C:cG}{I:aN}{M:List aC}(h:bY X β a w F C I M){ca:List (Nat×cF)}{cl:List (Nat×List Value)}(ct:iP F ca)(oJ:va C cl):bY X β a w (pM ca) (pN cl) I M:=
 { h with
  aj:=ct.ok h.aj
  bL:=λs cs aq=>h.bL s cs (oJ.ok aq)
  inj:=λs b0 aa ab=>by
   obtain⟨ee,ax⟩:=Dp.1 aa;obtain⟨eH,aA⟩:=Dp.1 ab;exact h.inj s b0 (by rw[oJ.ok ax];simp) (by rw[oJ.ok aA];simp) }
inductive qJ where
 |normal| exit (id:Nat)| goto (l:Nat)| ret
abbrev jD:=qJ->eF
def wY(N:eF)(K:jD):jD
 | .normal=>N| .exit id=>K (.exit id)| .goto l=>K (.goto l)| .ret=>K .ret
def MJ(id:Nat)(K:jD):jD
 | .normal=>K .normal| .exit j=>bif Nat.beq j id then K .normal else K (.exit j)| .goto l=>K (.goto l)| .ret=>K .ret
def j7(X:b')(K:jD):Exit->Act->World->Prop
 | .normal,a,w=>Sat X (K .normal) a w| .exit id,a,w=>Sat X (K (.exit id)) a w| .goto l,a,w=>Sat X (K (.goto l)) a w| .ret,a,w=>Sat X (K .ret) a w| .panic _,_,_=>False| .outgrown,_,_=>False
abbrev Body:=Fr->cG->aN->List aC->jD->Prop
structure wZ where
 ca:List (Nat×cF)
 cl:List (Nat×List Value):=[]
 cQ:aN
 dq:List aC:=[]
inductive pO{ι:Type}(bF:List Nat)(ap:ι->wZ)(p:ι->Prop)(F:Fr)(C:cG)(I:aN)(M:List aC):Prop
 |mk(j:ι)(aH:p j)(hw:h6 bF I M (ap j).cQ (ap j).dq)(ct:iP F (ap j).ca)(oJ:va C (ap j).cl)
def Hk(body:Body)(K:jD):Nat->eF
 |0=>λ_ _ _ _=>False
 |n+1=>λF C I M=>body F C I M (wY (Hk body K n) K)
inductive dh(bF:List Nat)(body:Body)(F:Fr)(C:cG)(I:aN)(M:List aC)(K:jD):Prop
 |inv {ι:Type} (ap:ι->wZ) (inv:ι->Prop) (μ:ι->Nat) (start:pO bF ap inv F C I M) (round:∀ i,inv i->body (pM (ap i).ca) (pN (ap i).cl) (ap i).cQ (ap i).dq (wY (pO bF ap λj=>inv j/\μ j<μ i) K))| UZ (n:Nat) (h:Hk body K n F C I M)| Hl {ι:Type} (ap:ι->wZ) (inv:ι->Prop) (μ:ι->Nat) (start:pF I M->pO bF ap inv F C I M) (round:∀ i,inv i->body (pM (ap i).ca) (pN (ap i).cl) (ap i).cQ (ap i).dq (wY (λF C I M=>pF I M->pO bF ap (λj=>inv j/\μ j<μ i) F C I M) K))
inductive cX(X:b')(c:Code)(F:Fr)(C:cG)(I:aN)(M:List aC)(K:jD):Prop
 |mk(h:∀ a w,Rel X a w F C I M->c.wpIn (fb X) 0 X.P (j7 X K) a w)
inductive U0(bF:List Nat)(F:Fr)(C:cG)(I:aN)(M:List aC)(K:eF):Prop
 |go(h:K F C I M)| DJ (l:wZ) (hw:h6 bF I M l.cQ l.dq) (ct:iP F l.ca) (oJ:va C l.cl) (h:K (pM l.ca) (pN l.cl) l.cQ l.dq)
def V(X:b'):Code->Fr->cG->aN->List aC->jD->Prop
 | .skip,F,C,I,M,K=>K .normal F C I M| .label l,F,C,I,M,K=>bif Nat.ble 2 l then U0 X.bF F C I M (K .normal)else K .normal F C I M| .ret,F,C,I,M,K=>K .ret F C I M| .exit id,F,C,I,M,K=>K (.exit id) F C I M| .goto l,F,C,I,M,K=>K (.goto l) F C I M| .seq x y,F,C,I,M,K=>V X x F C I M (wY (λF C I M=>V X y F C I M K) K)| .block id c,F,C,I,M,K=>V X c F C I M (MJ id K)
 | .cond c x y,F,C,I,M,K=>
  match cB F c with
  | .lit b=>bif b then V X x F C I M K else V X y F C I M K| .val (.bool b)=>aR b (V X x F C I M K) (V X y F C I M K)| _=>False
 | .loop c,F,C,I,M,K=>dh X.bF (V X c) F C I M K| .region _ ops false,F,C,I,M,K=>qF X ops.toList ops.toList F C I M (K .normal)| .region id ops true,F,C,I,M,K=>cX X (.region id ops true) F C I M K| .rangeFunc f ps dV body,F,C,I,M,K=>cX X (.rangeFunc f ps dV body) F C I M K| .scope c,F,C,I,M,K=>cX X (.scope c) F C I M K| .refuse _,_,_,_,_,_=>False
def yP(n:Nat)(ops:Array Oper):Bool:=ops.toList.all λo=>match o.dst with
 |some d=>Nat.blt d n| none=>true
def codeOk(n:Nat):Code->Bool
 | .seq x y=>codeOk n x&&codeOk n y| .block _ c=>codeOk n c| .cond _ x y=>codeOk n x&&codeOk n y| .loop c=>codeOk n c| .region _ ops _=>yP n ops| _=>true
def DK{ops:Array Oper}(h:yP n ops=true):∀ o∈ops.toList,∀ d,o.dst=some d->d<n:=by intro o an d ak;have:=gR.1 h o an;rw[ak]at this;simpa using this
def j7.then{X:b'}{N:eF}{K:jD}(aw:∀ a w,Sat X N a w->next a w):∀ e a w,j7 X (wY N K) e a w->Exit.then next (j7 X K) e a w:=by
 intro e a w h;cases e<;>first | exact aw _ _ h | exact h
def DL{oK:Fence}(J:Nat->Act->World->Prop)(U1:J m a w)
  (round:∀ m a w,J m a w->c.wpIn oK n P (Exit.then (λbw w'=>∃ m',m'<m/\J m' bw w') Q) a w):(Code.loop c).wpIn oK n P Q a w:=by
 intro b k cs jE ag ao;have key:∀ j a w,J j a w->∃ e bw w',Q e bw w'/\ArrivesIn (Machine.fenced P oK) P (lone (b.atR a (.code c::.inLoop c::k)) cs w) b k cs e bw w':=by
  intro j
  induction j using Nat.strongRecOn with
  |_ j a8=>
   intro a w a';obtain⟨e,hK,hL,aK,gU⟩:=round j a w a' b (.inLoop c::k) cs jE ag ao;cases e with
   |normal=>obtain⟨m',aU,U2⟩:=aK;obtain⟨AM,AN,AO,AP,AQ⟩:=a8 m' aU hK hL U2;exact⟨AM,AN,AO,AP,.of_steps (StepsIn.trans gU (.one (fenced_calm ag ao rfl) stepR_inLoop)) AQ⟩
   |exit id=>exact⟨_,hK,hL,aK,.pass (x:=.inLoop c) rfl (λ_ _=>.inl (by simp)) gU⟩| goto l=>exact⟨_,hK,hL,aK,.pass (x:=.inLoop c) rfl (λ_ _=>.inl (by simp)) gU⟩| ret=>exact⟨_,hK,hL,aK,.pass (x:=.inLoop c) rfl (λ_ _=>.inl (by simp)) gU⟩| panic rV=>exact⟨_,hK,hL,aK,.pass (x:=.inLoop c) rfl (λ_ _=>.inl (by simp)) gU⟩| outgrown=>exact⟨_,hK,hL,aK,.pass (x:=.inLoop c) rfl (λ_ _=>.inl (by simp)) gU⟩
 obtain⟨e,bw,w',aK,gU⟩:=key _ a w U1;exact⟨e,bw,w',aK,.of_steps (.one (fenced_calm ag ao rfl) stepR_loop) gU⟩
def nL{X:b'}(aI:cj X.P X.E):∀ (c:Code) {F C I M K a w},codeOk X.n c=true->Rel X a w F C I M->V X c F C I M K->c.wpIn (fb X) 0 X.P (j7 X K) a w
 | .skip,F,C,I,M,K,a,w,_,aX,ah=>wpIn_skip ⟨F,C,I,M,aX,ah⟩
 | .label l,F,C,I,M,K,a,w,_,aX,ah=>by
  refine wpIn_label ?_;simp only[V]at ah;cases ay:Nat.ble 2 l with
  |false=>rw[ay]at ah;exact⟨F,C,I,M,aX,ah⟩
  |true=>
   rw[ay]at ah;simp only[aZ]at ah;cases ah with
   |go h=>exact⟨F,C,I,M,aX,h⟩| DJ l hw ct oJ h=>obtain⟨β,ao⟩:=aX;exact⟨_,_,_,_,⟨β,(ao.base ct oJ).gS hw⟩,h⟩
 | .ret,F,C,I,M,K,a,w,_,aX,ah=>wpIn_ret ⟨F,C,I,M,aX,ah⟩| .exit id,F,C,I,M,K,a,w,_,aX,ah=>wpIn_exit ⟨F,C,I,M,aX,ah⟩| .goto l,F,C,I,M,K,a,w,_,aX,ah=>wpIn_goto ⟨F,C,I,M,aX,ah⟩| .seq x y,F,C,I,M,K,a,w,aW,aX,ah=>by simp only[codeOk,bG]at aW;refine wpIn_seq (wpIn_mono (nL aI x aW.1 aX ah) (j7.then ?_));rintro a w⟨de,C',I',M',ao,af⟩;exact nL aI y aW.2 ao af
 | .block id c,F,C,I,M,K,a,w,aW,aX,ah=>by
  refine wpIn_block (wpIn_mono (nL aI c aW aX ah) ?_);intro e a w h;cases e with
  |exit j=>
   simp only[j7,MJ]at h;simp only[Exit.inBlock];by_cases e:j=id;·subst e;simp only[nG,aZ]at h;rw[cv rfl];exact h
   ·simp only[fv e,aY]at h;rw[b7 e];exact h
  |_=>exact h
 | .cond c x y,F,C,I,M,K,a,w,aW,aX,ah=>by
  simp only[codeOk,bG]at aW;obtain⟨β,ao⟩:=aX;simp only[V]at ah;split at ah
  ·rename_i b ag;have aF:=G9 ao.aj ag;refine wpIn_cond aF ?_;cases b
   ·exact nL aI y aW.2 ⟨β,ao⟩ ah
   ·exact nL aI x aW.1 ⟨β,ao⟩ ah
  ·rename_i b ag;have aF:=qG ao.aj ag;refine wpIn_cond aF ?_;obtain⟨aa,ab⟩:=ah;cases b
   ·exact nL aI y aW.2 ⟨β,ao⟩ (ab rfl)
   ·exact nL aI x aW.1 ⟨β,ao⟩ (aa rfl)
  ·exact ah.elim
 | .loop c,F,C,I,M,K,a,w,aW,aX,ah=>by
  have a8:=@nL X aI c;simp only[V]at ah;have hinv:∀ {ι:Type} (ap:ι->wZ) (inv:ι->Prop) (μ:ι->Nat) (start:pF I M->pO X.bF ap inv F C I M)
    (round:∀ i,inv i->V X c (pM (ap i).ca) (pN (ap i).cl) (ap i).cQ (ap i).dq (wY (λF C I M=>pF I M->pO X.bF ap (λj=>inv j/\μ j<μ i) F C I M) K)),(Code.loop c).wpIn (fb X) 0 X.P (j7 X K) a w:=by
   intro ι ap inv μ start round;let J (m:Nat) (a:Act) (w:World):Prop:=∃ i,inv i/\μ i=m/\Rel X a w (pM (ap i).ca) (pN (ap i).cl) (ap i).cQ (ap i).dq
   have vb:∀ {p:ι->Prop} {a w},(∀ i,p i->inv i)->Sat X (λF C I M=>pF I M->pO X.bF ap p F C I M) a w->∃ i,p i/\J (μ i) a w:=by rintro p a w aH⟨F,C,I,M,⟨β,ao⟩,j1⟩;obtain⟨j,nM,hw,ct,oJ⟩:=j1 ⟨ao.holds.d,ao.holds.a2⟩;exact⟨j,nM,j,aH j nM,rfl,β,(ao.base ct oJ).gS hw⟩
   obtain⟨i0,_,AR⟩:=vb (λ_ h=>h) ⟨F,C,I,M,aX,start⟩;refine DL J AR ?_;rintro m a w⟨i,hi,rfl,ao⟩;refine wpIn_mono (a8 aW ao (round i hi)) ?_;intro e a w h;cases e with
   |normal=>obtain⟨j,⟨ar,aU⟩,cT⟩:=vb (λ_ h=>h.1) h;exact⟨_,aU,cT⟩
   |_=>exact h
  cases ah with
  | @inv ι ap inv μ start round=>
   let J (m:Nat) (a:Act) (w:World):Prop:=∃ i,inv i/\μ i=m/\Rel X a w (pM (ap i).ca) (pN (ap i).cl) (ap i).cQ (ap i).dq
   have vb:∀ {p:ι->Prop} {a w},(∀ i,p i->inv i)->Sat X (pO X.bF ap p) a w->∃ i,p i/\J (μ i) a w:=by rintro p a w aH⟨F,C,I,M,⟨β,ao⟩,⟨j,nM,hw,ct,oJ⟩⟩;exact⟨j,nM,j,aH j nM,rfl,β,(ao.base ct oJ).gS hw⟩
   obtain⟨i0,_,AR⟩:=vb (λ_ h=>h) ⟨F,C,I,M,aX,start⟩;refine DL J AR ?_;rintro m a w⟨i,hi,rfl,ao⟩;refine wpIn_mono (a8 aW ao (round i hi)) ?_;intro e a w h;cases e with
   |normal=>obtain⟨j,⟨ar,aU⟩,cT⟩:=vb (λ_ h=>h.1) h;exact⟨_,aU,cT⟩
   |_=>exact h
  |Hl ap inv μ start round=>exact hinv ap inv μ start round
  |UZ n h=>
   refine DL (λm a w=>Sat X (Hk (V X c) K m) a w) ⟨F,C,I,M,aX,h⟩ ?_;rintro m a w⟨F,C,I,M,ao,af⟩;cases m with
   |zero=>exact af.elim
   |succ m=>
    refine wpIn_mono (a8 aW ao af) ?_;intro e a w h;cases e with
    |normal=>exact⟨m,Du m,h⟩| _=>exact h
 | .region id ops false,F,C,I,M,K,a,w,aW,aX,ah=>by refine wpIn_region ?_;have:=MI (K:=K .normal) (Q:=j7 X K) aI ops (λ_ _ h=>h) ops.toList 0 (by simp) (DK aW) aX ah;simpa[G0]using this
 | .region id ops true,F,C,I,M,K,a,w,aW,aX,⟨ah⟩=>ah a w aX| .rangeFunc f ps dV body,F,C,I,M,K,a,w,aW,aX,⟨ah⟩=>ah a w aX| .scope c,F,C,I,M,K,a,w,aW,aX,⟨ah⟩=>ah a w aX| .refuse _,F,C,I,M,K,a,w,aW,aX,ah=>ah.elim
def tx(args:List Value):Fr:=λt=>match args[t]? with
 |some v=>.val v| none=>.kv
def mc(X:b')(F:Fr)(C:cG)(I:aN)(M:List aC):List ResultVar->(List Value->Prop)->Prop
 |[],K=>K []
 | .tmp t::l,K=>match bi F (.tmp t)with
  | .val v=>mc X F C I M l λvs=>K (v::vs)
  |_=>False
 | .cell t ty::l,K=>match cB F (.tmp t),X.E ty with
  | .ref s off,some i=>(match C s with
   |some cs=>bif Nat.ble (off+i.size) cs.length then mc X F C I M l λvs=>K (pack i.bn.agg ((cs.drop off).take i.size)::vs)else False
   |none=>False)
  | .val (.pointer (some a)),some i=>aM I M a i.size λws=>mc X F C I M l λvs=>K (pack i.bn.agg ws::vs)
  |_,_=>False
inductive rW(bF:List Nat)(I:aN)(M:List aC)(post:aN->List aC->Prop):Prop
 |mk(I':aN)(M':List aC)(hw:h6 bF I M I' M')(h:post I' M')
def rX(X:b')(a3:List ResultVar)(post:Value->aN->List aC->Prop):jD:=λex F C I M=>
 let done:Prop:=mc X F C I M a3 λvs=>match vs with
  |[v]=>rW X.bF I M (post v)| vs=>rW X.bF I M (post (.tuple vs.toArray))
 match ex with
 | .normal=>done| .ret=>done| _=>False
def yQ(tmps:Array Value):ResultVar->Sem Value
 | .tmp t=>pure (tmps.getD t undef)| .cell a t=>do loadVar t (<-asAddr (tmps.getD a undef))
def U3(fn:Func)(tmps:Array Value):results fn tmps=(do let vs <-fn.results.mapM (yQ tmps);pure (if h:vs.size=1 then vs[0]else .tuple vs)):=by unfold results;congr 1
def DM{X:b'}(aI:cj X.P X.E){β:Nat->Nat}{a:Act}{w:World}{F:Fr}{C:cG}{I:aN}{M:List aC}(h:bY X β a w F C I M):∀ {a3:List ResultVar} {K:List Value->Prop},mc X F C I M a3 K -> ∃ vs,K vs/\(a3.mapM (yQ a.tmps)).run X.P w=.ok vs w
 |[],K,ah=>⟨[],ah,rfl⟩
 | .tmp t::l,K,ah=>by
  unfold mc at ah;split at ah;·rename_i v aa;have ax:a.tmps.getD t undef=v:=cw h.aj aa;obtain⟨vs,af,aA⟩:=DM aI h ah;refine⟨_,af,?_⟩;simp only[Av,yQ,bH,ch,bx,aA,ax]
  ·exact ah.elim
 | .cell t ty::l,K,ah=>by
  unfold mc at ah;split at ah
  ·rename_i s off i aa hi;have ax:a.tmps.getD t undef=.pointer (some ⟨β s,off,none⟩):=wM h.aj aa;split at ah
   ·rename_i cs aq;cases hle:Nat.ble (off+i.size) cs.length with
    |false=>rw[hle]at ah;exact ah.elim| true=>rw[hle]at ah;obtain⟨vs,af,aA⟩:=DM aI h ah;have AG:=bq hle;obtain⟨T,bO⟩:=(h.bL s cs aq).at_;have bj:=DF (aI _ _ hi) (a:=⟨β s,off,none⟩) rfl bO (vs:=(cs.drop off).take i.size) (by simp) (by simp;omega);refine⟨_,af,?_⟩;simp only[Av,yQ,bH,ch,bx,aA,ax,asAddr,bj]
   ·exact ah.elim
  ·rename_i ad i aa hi;have ax:a.tmps.getD t undef=.pointer (some ad):=qG h.aj aa;obtain⟨ws,⟨bI,cs,T,aj,dK,gG,ay⟩,ah⟩:=ah;obtain⟨vs,af,aA⟩:=DM aI h ah;have bj:=DF (aI _ _ hi) bI (dK.heap h.holds) gG ay;refine⟨_,af,?_⟩;simp only[Av,yQ,bH,ch,bx,aA,ax,asAddr,bj]
  ·exact ah.elim
def U4{X:b'}(aI:cj X.P X.E){β:Nat->Nat}{F:Fr}{C:cG}{I:aN}{M:List aC}(h:bY X β a w F C I M){K:List Value->Prop}(ah:mc X F C I M fn.results.toList K) :
  ∃ vs,K vs/\(results fn a.tmps).run X.P w=.ok (match vs with | [v]=>v | vs=>.tuple vs.toArray) w:=by
 obtain⟨vs,af,e⟩:=DM aI h ah;refine⟨vs,af,?_⟩;rw[U3];have ax:(fn.results.mapM (yQ a.tmps)).run X.P w=.ok vs.toArray w:=by rw[Mm,Sem.run_map,e];rfl
 simp only[bH,ax,bx,ch]
 match vs with
 |[]=>rfl| [v]=>rfl| u::v::l=>simp
def MK{oK:Fence}{n:Nat}{P:Program}{fn:Func}{tmps:Array Value}{R:Ending->World->Prop}:∀ (a3:List Nat) (w:World),a3.Nodup->(∀ r∈a3,w.heap[r]?=some (.deferred (some []))) -> (∀ w':World,w'.heap.size=w.heap.size->(∀ b,b ∉ a3->w'.heap[b]?=w.heap[b]?)->lx w w'->∃ v,(results fn tmps).run P w'=.ok v w'/\R (.returned v) w')->LeavesInM oK n P fn tmps R (a3.map ts) .returning w
 |[],w,_,_,h=>h w rfl (λ_ _=>rfl) (.refl _)
 |r::a3,w,b3,ao,h=>by
  rw[kW]at b3;refine⟨by simp,.inl ⟨r,_,rfl,run_takeDeferred (ao r (by simp)),?_⟩⟩;refine MK a3 _ b3.2 (λpP fw=>?_) λw' aq ag an=>h w' (by rw[aq];simp) (λb Hm=>?_) ((DD _ _ _).trans an);·have bl:pP≠r:=λe=>b3.1 (e ▸ fw);rw[kt bl];exact ao pP (by simp[fw])
  ·simp only[dv,not_or]at Hm;rw[ag b Hm.2,kt Hm.1]
def bY.take{X:b'}{β:Nat->Nat}{F:Fr}{C:cG}{I:aN}{M:List aC}(h:bY X β a w F C I M){a3:List Nat}(k0:∀ r∈a3,rP X w I M r)(aq:w'.heap.size=w.heap.size)(ag:∀ b,b ∉ a3->w'.heap[b]?=w.heap[b]?)(an:lx w w') :
  bY X β { a with defers:=[] } w' F C I M:=by
 exact {
  size:=h.size
  defers:=⟨[],rfl,wJ,λr ao=>by cases ao⟩
  holds:={
   i:=λb o hr=>by rw[ag b (λao=>by have:=(k0 b ao).hH;rw[hr]at this;cases this)];exact h.holds.i b o hr
   m:=λx ae=>by rw[ag _ (λao=>(k0 _ ao).dF x ae rfl)];exact h.holds.m x ae
   d:=h.holds.d
   a2:=h.holds.a2 }
  aj:=h.aj
  bL:=λs cs jF=>by have qK:=h.bL s cs jF;obtain⟨T,bO⟩:=qK.at_;refine { qK with at_:=⟨T,?_⟩ };rw[ag _ (λao=>by have:=(k0 _ ao).at_;rw[bO]at this;cases this)];exact bO
  inj:=h.inj
  gb:=h.gb
  fH:=h.fH
  own:=h.own
  cE:=λb aU aD=>by rw[ag _ (λao=>by have:=(k0 _ ao).base;omega)];exact h.cE b aU aD
  out:=h.out.trans an
  sz:=by rw[aq];exact h.sz }
def j7.ret{X:b'}(aI:cj X.P X.E){post:Value->aN->List aC->Prop}
  (aX:∀ v I M (w:World) (a:Act) (F:Fr) (C:cG),Rel X a w F C I M->post v I M->R (.returned v) w):∀ e a w,j7 X (rX X fn.results.toList post) e a w->bodyPostM (fb X) 0 X.P fn R e a w:=by
 have main:∀ a w,Sat X (rX X fn.results.toList post .ret) a w->LeavesInM (fb X) 0 X.P fn a.tmps R a.defers .returning w:=by
  rintro a w⟨F,C,I,M,⟨β,ao⟩,af⟩;simp only[rX]at af;obtain⟨a3,ak,b3,hm⟩:=ao.defers;rw[ak];refine MK a3 w b3 (λr fI=>(hm r fI).at_) λw' aq ag an=>?_;have fw:=ao.take hm aq ag an;obtain⟨vs,aH,eu⟩:=U4 aI fw af;refine⟨_,eu,?_⟩
  match vs,aH with
  |[],⟨I',M',hw,aH⟩=>exact aX _ I' M' w' _ F C ⟨β,fw.gS hw⟩ aH| [v],⟨I',M',hw,aH⟩=>exact aX _ I' M' w' _ F C ⟨β,fw.gS hw⟩ aH| u::v::l,⟨I',M',hw,aH⟩=>exact aX _ I' M' w' _ F C ⟨β,fw.gS hw⟩ aH
 intro e a w h;cases e with
 |normal=>exact main a w h| ret=>exact main a w h| exit id=>obtain⟨F,C,I,M,_,af⟩:=h;exact af.elim
 |goto l=>obtain⟨F,C,I,M,_,af⟩:=h;exact af.elim
 |panic _=>exact h.elim| outgrown=>exact h.elim
def U5(aD:P.funcs[f]?=some fn)(ag:fn.body.isSome=true)(aw:(fn.name == "runtime.NumGoroutine")=false):G7 P f:=by
 intro args w;have gF:fn.body.isNone=false:=by cases h:fn.body<;>simp_all
 simp only[callFunc,bH,run_program,bx,aD,aw,iL,jz,gF];rfl
def Hn{E:Env}(e6:List Nat)(aI:cj P E)(aD:P.funcs[f]?=some fn)(ag:fn.body=some c)(aw:(fn.name == "runtime.NumGoroutine")=false)
 (aW:(codeOk fn.ntmps c&&Nat.ble args.length fn.ntmps)=true) {I:aN} {M:List aC} {post:Value->aN->List aC->Prop}
  (h:∀ B au a w,Rel ⟨P,E,e6,fn.ntmps,B,au,I,M.map (·.num),none⟩ a w (tx args) (λ_=>none) I M->c.wpIn (fb ⟨P,E,e6,fn.ntmps,B,au,I,M.map (·.num),none⟩) 0 P (j7 ⟨P,E,e6,fn.ntmps,B,au,I,M.map (·.num),none⟩ (rX ⟨P,E,e6,fn.ntmps,B,au,I,M.map (·.num),none⟩ fn.results.toList post)) a w) :
  rN P f args I M post:=by
 rw[bG]at aW;have hlen:=bq aW.2;refine⟨U5 aD (by rw[ag];rfl) aw,λw jh=>?_⟩;let X:b':=⟨P,E,e6,fn.ntmps,w.heap.size,w,I,M.map (·.num),none⟩
 have AS:Rel X { tmps:=args.toArray++Array.replicate (fn.ntmps-args.toArray.size) undef,defers:=[] } w (tx args) (λ_=>none) I M:=⟨λ_=>0,{
  size:=by simp[X];omega
  defers:=⟨[],rfl,wJ,λr ao=>by cases ao⟩
  holds:=jh
  aj:=λt=>by
   unfold tx;cases az:args[t]? with
   |none=>trivial| some v=>have aU:t<args.length:=(h3.1 az).1;simp only[dD,l8];rw[Array.getElem?_append_left (by simpa using aU)];simp[az]
  bL:=λs cs aq=>by cases aq
  inj:=λs b0 aa=>by simp at aa
  gb:=λb o ag=>ag
  fH:=λb o ag=>.inl ag
  own:=λx ae=>.inl (dO.2 ⟨x,ae,rfl⟩)
  cE:=λb ag aD=>rfl
  out:=.refl _
  sz:=bS _ }⟩
 have DN:=h w.heap.size w _ _ AS;refine(callsIn_wide (n:=0)).1 ?_;have U6:fb X=Fence.wide:=rfl;rw[U6]at DN;refine callsIn_of_wp_marks aD ag trivial (wpIn_mono DN (j7.ret (X:=X) aI ?_));rintro v I' M' w' bw de C'⟨β,ao⟩aH;refine⟨v,I',M',rfl,aH,ao.holds,?_⟩;exact {
  le:=ao.gb
  rM:=ao.fH
  tq:=λx ae=>by
   rcases ao.own x ae with aa | aa;·obtain⟨y,aL,e⟩:=dO.1 aa;exact .inl ⟨y,aL,e⟩
   ·exact .inr aa
  cE:=λb ag bl=>ao.cE b ag (λhm=>by
   obtain⟨y,aL,e⟩:=dO.1 hm;exact bl y aL e)
  out:=ao.out
  sz:=ao.sz }
def yR{E:Env}(e6:List Nat)(aI:cj P E)(aD:P.funcs[f]?=some fn)(ag:fn.body=some c)(aw:(fn.name == "runtime.NumGoroutine")=false)
 (aW:(codeOk fn.ntmps c&&Nat.ble args.length fn.ntmps)=true) {I:aN} {M:List aC} {post:Value->aN->List aC->Prop}
  (h:∀ B au,V ⟨P,E,e6,fn.ntmps,B,au,I,M.map (·.num),none⟩ c (tx args) (λ_=>none) I M (rX ⟨P,E,e6,fn.ntmps,B,au,I,M.map (·.num),none⟩ fn.results.toList post)) :
  rN P f args I M post:=
 Hn e6 aI aD ag aw aW λB au a w ao=>by rw[bG]at aW;exact nL aI c aW.1 ao (h B au)
def b8{E:Env}(e6:List Nat)(aI:cj P E)(aD:P.funcs[f]?=some fn)(ag:fn.body=some c)(aw:(fn.name == "runtime.NumGoroutine")=false)
 (aW:(codeOk fn.ntmps c&&Nat.ble args.length fn.ntmps)=true) {I:aN} {M:List aC} {post:Value->aN->List aC->Prop}
  (h:∀ B au,V ⟨P,E,e6,fn.ntmps,B,au,I,M.map (·.num),none⟩ c (tx args) (λ_=>none) I M (rX ⟨P,E,e6,fn.ntmps,B,au,I,M.map (·.num),none⟩ fn.results.toList post)) :
  Spec P f args I M post:=.inl (yR e6 aI aD ag aw aW h)
def DO(X:b')(a3:List ResultVar)(post:Value->aN->List aC->Prop):jD:=λex F C I M=>
 let done:Prop:=mc X F C I M a3 λvs=>match vs with
  |[v]=>pF I M->rW X.bF I M (post v)| vs=>pF I M->rW X.bF I M (post (.tuple vs.toArray))
 match ex with
 | .normal=>done| .ret=>done| _=>False
def DP{X:b'}{F:Fr}{C:cG}{I:aN}{M:List aC}:∀ {a3:List ResultVar} {K vc:List Value->Prop},(∀ vs,K vs->vc vs)->mc X F C I M a3 K->mc X F C I M a3 vc
 |[],K,vc,h,ah=>h _ ah
 | .tmp t::l,K,vc,h,ah=>by
  unfold mc at ah |-;split at ah;·exact DP (λvs=>h _) ah
  ·exact ah.elim
 | .cell t ty::l,K,vc,h,ah=>by
  unfold mc at ah |-;split at ah
  ·rename_i s off i aa hi;split at ah
   ·rename_i cs aq;cases hle:Nat.ble (off+i.size) cs.length with
    |false=>rw[hle]at ah;exact ah.elim| true=>rw[hle]at ah;exact DP (λvs=>h _) ah
   ·exact ah.elim
  ·obtain⟨ws,aO,ah⟩:=ah;exact⟨ws,aO,DP (λvs=>h _) ah⟩
  ·exact ah.elim
def j7.U7{X:b'}{a3:List ResultVar}{post:Value->aN->List aC->Prop}:∀ e a w,j7 X (DO X a3 post) e a w->j7 X (rX X a3 post) e a w:=by
 have one:∀ a w,Sat X (DO X a3 post .ret) a w->Sat X (rX X a3 post .ret) a w:=by
  rintro a w⟨F,C,I,M,⟨β,ao⟩,h⟩;refine⟨F,C,I,M,⟨β,ao⟩,DP (λvs ah=>?_) h⟩;have j1:pF I M:=⟨ao.holds.d,ao.holds.a2⟩
  match vs,ah with
  |[v],ah=>exact ah j1| [],ah=>exact ah j1| _::_::_,ah=>exact ah j1
 intro e a w h;cases e with
 |normal=>exact one a w h| ret=>exact one a w h| exit id=>obtain⟨F,C,I,M,ao,af⟩:=h;exact af.elim
 |goto l=>obtain⟨F,C,I,M,ao,af⟩:=h;exact af.elim
 |panic _=>exact h| outgrown=>exact h
def U8{E:Env}(e6:List Nat)(aI:cj P E)(aD:P.funcs[f]?=some fn)(ag:fn.body=some c)(aw:(fn.name == "runtime.NumGoroutine")=false)
 (aW:(codeOk fn.ntmps c&&Nat.ble args.length fn.ntmps)=true) {I:aN} {M:List aC} {post:Value->aN->List aC->Prop}
  (h:∀ B au,V ⟨P,E,e6,fn.ntmps,B,au,I,M.map (·.num),none⟩ c (tx args) (λ_=>none) I M (DO ⟨P,E,e6,fn.ntmps,B,au,I,M.map (·.num),none⟩ fn.results.toList post)) :
  rN P f args I M post:=
 Hn e6 aI aD ag aw aW λB au a w ao=>by rw[bG]at aW;exact wpIn_mono (nL aI c aW.1 ao (h B au)) j7.U7
def U9{E:Env}(e6:List Nat)(aI:cj P E)(aD:P.funcs[f]?=some fn)(ag:fn.body=some c)(aw:(fn.name == "runtime.NumGoroutine")=false)
 (aW:(codeOk fn.ntmps c&&Nat.ble args.length fn.ntmps)=true) {I:aN} {M:List aC} {post:Value->aN->List aC->Prop}
  (h:∀ B au,V ⟨P,E,e6,fn.ntmps,B,au,I,M.map (·.num),none⟩ c (tx args) (λ_=>none) I M (DO ⟨P,E,e6,fn.ntmps,B,au,I,M.map (·.num),none⟩ fn.results.toList post)) :
  Spec P f args I M post:=.inl (U8 e6 aI aD ag aw aW h)
def Ho:Value->Value->Bool
 | .bool a,.bool b=>a == b| .int k n,.int cb m=>IntKind.j4 k cb&&decide (n=m)| .string s,.string t=>decide (s.data.toList=t.data.toList)| .pointer none,.pointer none=>true| .slice none 0 0,.slice none 0 0=>true| .map none,.map none=>true| .nilFunc,.nilFunc=>true| .nilIface,.nilIface=>true| _,_=>false
def U':∀ {a b:Value},Ho a b=true->a=b:=by
 intro a b h;unfold Ho at h;split at h
 ·simp at h;rw[h]
 ·simp only[bG,eC]at h;rw[IntKind.yL h.1,h.2]
 ·rename_i s t;simp only[eC]at h;have:s=t:=by cases s;cases t;simp only[G3];exact fa h
  rw[this]
 all_goals first | rfl | cases h
def DQ:List Value->List Value->Bool
 |[],[]=>true| a::as,b::bU=>Ho a b&&DQ as bU| _,_=>false
def ML:∀ {a b:List Value},DQ a b=true->a=b
 |[],[],_=>rfl| a::as,b::bU,h=>by simp only[DQ,bG]at h;rw[U' h.1,ML h.2]
 |[],_::_,h=>by cases h
 |_::_,[],h=>by cases h
def Hp(P:Program)(t:Nat)(i:dw):Bool:=
 (match P.info? t with
 |some inf=>decide (inf.size=i.size)&&decide (inf.bytes=i.bytes)&&(match inf.zero with
  |some z=>DQ z.cells.toList i.zero| none=>false)
 |none=>false) &&
 (match P.underlying t with
 |some d=>decide (ek d=i.bn)| none=>false)&&ga i.zero&&decide (i.zero.length=i.size)&&(i.bn.agg||decide (i.size=1))
def Va{t:Nat}{i:dw}(h:Hp P t i=true):h4 P t i:=by
 simp only[Hp,bG]at h;obtain⟨⟨⟨⟨aa,ab⟩,ai⟩,aQ⟩,bp⟩:=h;refine⟨?_,?_,wN ai,c9 aQ,λav=>?_⟩
 ·split at aa
  ·rename_i inf hi;simp only[bG,eC]at aa;obtain⟨⟨ax,aA⟩,bj⟩:=aa;split at bj
   ·rename_i z bd;exact⟨inf,z,hi,ax,aA,bd,ML bj⟩
   ·cases bj
  ·cases aa
 ·split at ab
  ·rename_i d ak;exact⟨d,ak,c9 ab⟩
  ·cases ab
 ·rw[av]at bp;simpa using bp
def Vb{E:Env}(n:Nat)(aw:∀ t,n<=t->E t=none)(h:((List.range n).all λt=>match E t with
  |some i=>Hp P t i| none=>true)=true):cj P E:=by
 intro t i hi;by_cases az:t<n
 ·have:=gR.1 h t (l9.2 az);rw[hi]at this;exact Va this
 ·rw[aw t (by omega)]at hi;cases hi
end Go.V
namespace Go.V
variable{a:Act}{c:Code}{bF:List Nat}{P:Program}{f off T sz gp e n m eD cf dd c2 e4 hG iN iA j0 mL oG qC to wK Ax:Nat}{args vs z:List Value}{v:Value}{w' w:World}{dst:Option Nat}{cs:Array Value}{aj:Nat×Nat}{R:Ending->World->Prop}{next:Act->World->Prop}{ad:Addr}{eE:IntKind}{other:Prop}{ops:List Oper}{Q:Exit->Act->World->Prop}{fn:Func}{soft fG:Bool}{op:Op}{listed:Array Bool}{A:Array Oper}
def vd{F:Fr}:iP F [(eD,F eD),(cf,F cf)]:=.cons .refl (.cons .refl (.nil))
def gI{F:Fr}:iP F [(eD,F eD),(cf,F cf),(dd,F dd)]:=.cons .refl (.cons .refl (.cons .refl (.nil)))
def ez{F:Fr}:iP F [(eD,F eD),(cf,F cf),(dd,F dd),(c2,F c2)]:=.cons .refl (.cons .refl (.cons .refl (.cons .refl (.nil))))
def iD{F:Fr}:iP F [(eD,F eD),(cf,F cf),(dd,F dd),(c2,F c2),(e4,F e4)]:=.cons .refl (.cons .refl (.cons .refl (.cons .refl (.cons .refl (.nil)))))
def jG{F:Fr}:iP F [(eD,F eD),(cf,F cf),(dd,F dd),(c2,F c2),(e4,F e4),(hG,F hG)]:=.cons .refl (.cons .refl (.cons .refl (.cons .refl (.cons .refl (.cons .refl (.nil))))))
def j8{F:Fr}:iP F [(eD,F eD),(cf,F cf),(dd,F dd),(c2,F c2),(e4,F e4),(hG,F hG),(iN,F iN)]:=.cons .refl (.cons .refl (.cons .refl (.cons .refl (.cons .refl (.cons .refl (.cons .refl (.nil)))))))
def rY{F:Fr}:iP F [(eD,F eD),(cf,F cf),(dd,F dd),(c2,F c2),(e4,F e4),(hG,F hG),(iN,F iN),(iA,F iA)]:=.cons .refl (.cons .refl (.cons .refl (.cons .refl (.cons .refl (.cons .refl (.cons .refl (.cons .refl (.nil))))))))
def rZ{F:Fr}:iP F [(eD,F eD),(cf,F cf),(dd,F dd),(c2,F c2),(e4,F e4),(hG,F hG),(iN,F iN),(iA,F iA),(j0,F j0)]:=.cons .refl (.cons .refl (.cons .refl (.cons .refl (.cons .refl (.cons .refl (.cons .refl (.cons .refl (.cons .refl (.nil)))))))))
def afF{F:Fr}:iP F [(eD,F eD),(cf,F cf),(dd,F dd),(c2,F c2),(e4,F e4),(hG,F hG),(iN,F iN),(iA,F iA),(j0,F j0),(mL,F mL)]:=.cons .refl (.cons .refl (.cons .refl (.cons .refl (.cons .refl (.cons .refl (.cons .refl (.cons .refl (.cons .refl (.cons .refl (.nil))))))))))
def MM{F:Fr}:iP F [(eD,F eD),(cf,F cf),(dd,F dd),(c2,F c2),(e4,F e4),(hG,F hG),(iN,F iN),(iA,F iA),(j0,F j0),(mL,F mL),(oG,F oG)]:=.cons .refl (.cons .refl (.cons .refl (.cons .refl (.cons .refl (.cons .refl (.cons .refl (.cons .refl (.cons .refl (.cons .refl (.cons .refl (.nil)))))))))))
def afG{F:Fr}:iP F [(eD,F eD),(cf,F cf),(dd,F dd),(c2,F c2),(e4,F e4),(hG,F hG),(iN,F iN),(iA,F iA),(j0,F j0),(mL,F mL),(oG,F oG),(qC,F qC)]:=.cons .refl (.cons .refl (.cons .refl (.cons .refl (.cons .refl (.cons .refl (.cons .refl (.cons .refl (.cons .refl (.cons .refl (.cons .refl (.cons .refl (.nil))))))))))))
def afH{F:Fr}:iP F [(eD,F eD),(cf,F cf),(dd,F dd),(c2,F c2),(e4,F e4),(hG,F hG),(iN,F iN),(iA,F iA),(j0,F j0),(mL,F mL),(oG,F oG),(qC,F qC),(to,F to)]:=.cons .refl (.cons .refl (.cons .refl (.cons .refl (.cons .refl (.cons .refl (.cons .refl (.cons .refl (.cons .refl (.cons .refl (.cons .refl (.cons .refl (.cons .refl (.nil)))))))))))))
def afI{F:Fr}:iP F [(eD,F eD),(cf,F cf),(dd,F dd),(c2,F c2),(e4,F e4),(hG,F hG),(iN,F iN),(iA,F iA),(j0,F j0),(mL,F mL),(oG,F oG),(qC,F qC),(to,F to),(wK,F wK)]:=.cons .refl (.cons .refl (.cons .refl (.cons .refl (.cons .refl (.cons .refl (.cons .refl (.cons .refl (.cons .refl (.cons .refl (.cons .refl (.cons .refl (.cons .refl (.cons .refl (.nil))))))))))))))
def afJ{F:Fr}:iP F [(eD,F eD),(cf,F cf),(dd,F dd),(c2,F c2),(e4,F e4),(hG,F hG),(iN,F iN),(iA,F iA),(j0,F j0),(mL,F mL),(oG,F oG),(qC,F qC),(to,F to),(wK,F wK),(Ax,F Ax)]:=.cons .refl (.cons .refl (.cons .refl (.cons .refl (.cons .refl (.cons .refl (.cons .refl (.cons .refl (.cons .refl (.cons .refl (.cons .refl (.cons .refl (.cons .refl (.cons .refl (.cons .refl (.nil)))))))))))))))
def afK{F:Fr}{MN:Nat}:iP F [(eD,F eD),(cf,F cf),(dd,F dd),(c2,F c2),(e4,F e4),(hG,F hG),(iN,F iN),(iA,F iA),(j0,F j0),(mL,F mL),(oG,F oG),(qC,F qC),(to,F to),(wK,F wK),(Ax,F Ax),(MN,F MN)]:=.cons .refl (.cons .refl (.cons .refl (.cons .refl (.cons .refl (.cons .refl (.cons .refl (.cons .refl (.cons .refl (.cons .refl (.cons .refl (.cons .refl (.cons .refl (.cons .refl (.cons .refl (.cons .refl (.nil))))))))))))))))
def yS:Op->Bool
 | .move _ | .assign _ | .pick .. | .unOp .. | .binOp .. | .load .. | .nilCheck _ | .fieldAddr .. | .field .. | .indexAddr .. | .index .. | .build .. | .makeFunc .. | .slice .. | .extract .. | .convert ..=>true| .call { callee:=.builtin .len,.. }=>true| .call { callee:=.builtin .cap,.. }=>true| .call { callee:=.builtin .max,.. }=>true| .call { callee:=.builtin .min,.. }=>true| .call { callee:=.builtin .unsafeSliceData,.. }=>true| _=>false
def mP:Op->Bool
 | .load ..=>true| _=>false
def AT(o:Oper)(p:Nat):Bool:=o.after.toList.all λe=>!Region.binds .any e||p.testBit e.on
def mQ(ops:List Oper)(p:Nat)(k:Bool):List Nat:=(List.range ops.length).filter λi=>match ops[i]? with
 |some o=>!p.testBit i&&((yS o.op == k)&&AT o p)| none=>false
def AU(acc:List Nat)(o:Oper):Nat:=o.after.toList.foldl (λs e=>bif Region.binds .any e then s ||| 2^e.on ||| acc.getD e.on 0 else s) 0
def iQ(ops:List Oper):List Nat:=ops.foldl (λacc o=>acc++[AU acc o]) []
def Hq(P:Nat->Prop):List Nat->Prop
 |[]=>True| [i]=>P i| i::l=>P i/\Hq P l
inductive nO(soft:Bool)(bF:List Nat)(P:Program)(f:Nat)(args:List Value)(I:aN)(M:List aC)(K:Value->aN->List aC->Prop):Prop
 |mk(post:Value->aN->List aC->Prop)(aq:Spec P f args I [] post)(k:∀ v I' M',(∀ b o,I b=some o->I' b=some o)->post v I' M'->K v I' (M'++M))| MO (cH Mr:List aC) (post:Value->aN->List aC->Prop) (a5:M.Perm (cH++Mr)) (aq:Spec P f args I cH post) (kx:∀ v I' M',post v I' M'->∀ x∈cH,x∈M') (k:∀ v I' M',(∀ b o,I b=some o->I' b=some o)->post v I' M'->K v I' (M'++Mr))| DA (post:Value->aN->List aC->Prop) (aq:Spec P f args I [] post) (k:∀ v I' M',(∀ b o,I b=some o->I' b=some o)->(∀ x∈M'++M,I' x.num=none)->post v I' M'->K v I' (M'++M))| Vc (cH Mr:List aC) (post:Value->aN->List aC->Prop) (a5:M.Perm (cH++Mr)) (aq:Spec P f args I cH post) (kx:∀ v I' M',post v I' M'->∀ x∈cH,x∈M') (k:∀ v I' M',(∀ b o,I b=some o->I' b=some o)->(∀ x∈M'++Mr,I' x.num=none)->post v I' M'->K v I' (M'++Mr))| Vd (b:Nat) (o:Obj) (cH Mr:List aC) (post:Value->aN->List aC->Prop) (a5:M.Perm (⟨b,o⟩::(cH++Mr))) (aD:b ∉ bF) (aq:Spec P f args (ins I b o) cH post) (kx:∀ v I' M',post v I' M'->∀ x∈cH,x∈M') (k:∀ v I' M',(∀ c p,ins I b o c=some p->I' c=some p)->(∀ x∈M'++Mr,I' x.num=none)->post v I' M'->K v I' (M'++Mr))| DB (h:pF I M->nO soft bF P f args I M K)| MP (DR:soft=true) (cH Mr:List aC) (post:Value->aN->List aC->Prop) (a5:M.Perm (cH++Mr)) (aq:Spec P f args I cH post) (k:∀ v I' M',(∀ b o,I b=some o->I' b=some o)->post v I' M'->K v I' (M'++Mr))
def nO.elim{I:aN}{M:List aC}{K:Value->aN->List aC->Prop}(j1:pF I M)(h:nO soft bF P f args I M K) :
  ∃ (c3:aN) (cH Mr:List aC) (post:Value->aN->List aC->Prop),h6 bF I M c3 (cH++Mr)/\(∀ b o,I b=some o->c3 b=some o)/\Spec P f args c3 cH post /\
   ∀ v I' M',(∀ b o,c3 b=some o->I' b=some o)->(∀ x∈M'++Mr,I' x.num=none)->post v I' M'->(soft=true\/∀ x∈M,I' x.num=some x.obj\/x∈M'++Mr)/\K v I' (M'++Mr):=by
 have MQ:∀ {cH Mr:List aC} {post:Value->aN->List aC->Prop} {I':aN},M.Perm (cH++Mr)->(∀ v I' M',post v I' M'->∀ x∈cH,x∈M')->∀ v M',post v I' M'->∀ x∈M,I' x.num=some x.obj\/x∈M'++Mr:=λa5 kx v M' ab x ae=>by
  right
  rcases dA.1 (a5.mem_iff.1 ae)with ae | ae;·exact dA.2 (.inl (kx v _ M' ab x ae))
  ·exact dA.2 (.inr ae)
 induction h with
 |mk post aq k=>exact⟨I,[],M,post,.refl,λ_ _ h=>h,aq,λv I' M' aa _ ab=>⟨.inr λx ae=>.inr (by simp[ae]),k v I' M' aa ab⟩⟩| MO cH Mr post a5 aq kx k=>exact⟨I,cH,Mr,post,.perm a5 .refl,λ_ _ h=>h,aq,λv I' M' aa _ ab=>⟨.inr (MQ a5 kx v M' ab),k v I' M' aa ab⟩⟩| DA post aq k=>exact⟨I,[],M,post,.refl,λ_ _ h=>h,aq,λv I' M' aa ai ab=>⟨.inr λx ae=>.inr (by simp[ae]),k v I' M' aa ai ab⟩⟩| Vc cH Mr post a5 aq kx k=>exact⟨I,cH,Mr,post,.perm a5 .refl,λ_ _ h=>h,aq,λv I' M' aa ai ab=>⟨.inr (MQ a5 kx v M' ab),k v I' M' aa ai ab⟩⟩
 |Vd b o cH Mr post a5 aD aq kx k=>
  have ag:I b=none:=j1.d ⟨b,o⟩ (a5.mem_iff.2 (.head _));have Ve:ins I b o b=some o:=by unfold ins;rw[nG];rfl
  refine⟨ins I b o,cH,Mr,post,.perm a5 (.rO rfl aD .refl),λc p aF=>?_,aq,λv I' M' aa ai ab=>⟨.inr λx ae=>?_,k v I' M' aa ai ab⟩⟩
  ·unfold ins;by_cases e:c=b
   ·subst e;rw[ag]at aF;cases aF
   ·rw[fv e];exact aF
  ·rcases dv.1 (a5.mem_iff.1 ae)with rfl | ae
   ·exact .inl (aa _ _ Ve)
   ·right
    rcases dA.1 ae with ae | ae;·exact dA.2 (.inl (kx v I' M' ab x ae))
    ·exact dA.2 (.inr ae)
 |DB h a8=>exact a8 j1| MP DR cH Mr post a5 aq k=>exact⟨I,cH,Mr,post,.perm a5 .refl,λ_ _ h=>h,aq,λv I' M' aa _ ab=>⟨.inl DR,k v I' M' aa ab⟩⟩
def DS(ops:List Oper)(o:Oper)(F:Fr)(run skip:Fr->Prop):Prop:=
 match o.guard with
 |none=>run F
 |some (j,b)=>
  match(ops[j]?).bind (·.dst)with
  |none=>False
  |some d=>
   match F d with
   | .lit c=>bif c == b then run F else skip F| .val (.bool c)=>bC c b (run (e5 F d (.lit b))) (skip (e5 F d (.lit !b)))| .val (.tuple _)=>skip F| _=>False
def MR(fg p:Nat):Bool:=Nat.beq (p &&& fg) p
def Vf(ops:List Oper)(fg p:Nat):Bool:=(List.range ops.length).all λq=>!p.testBit q||(fg.testBit q||match ops[q]? with
 |some o=>!mP o.op| none=>true)
inductive tz(X:b')(o:Oper)(F:Fr)(C:cG)(I:aN)(M:List aC)(K:cF->aN->List aC->Prop):Prop
 |mk (h:∀ β a w Q,bY X β a w F C I M->o.wpIn (fb X) 0 X.P a w (λbw w'=>∃ v x I' M',bw=a.put o.dst v/\dD β x v/\bY X β a w' F C I' M'/\K x I' M'/\I'=I) Q)
def r0(X:b')(Vg soft:Bool)(o:Oper)(F:Fr)(C:cG)(I:aN)(M:List aC)(K:eF):Prop:=
 bif Vg then fc X o F C I M K else
 match o.op with
 | .call { callee:=.value f,args,.. }=>
  match bi F f,j2 F args.toList with
  | .val (.func (.func g) first cap),some vs=>nO soft X.bF X.P g (first.toList++vs++cap.toList) I M λv I' M'=>K (put o.dst (.val v) F) C I' M'
  |_,_=>False
 | .alloc t=>
  match o.dst,X.E t with
  |some d,some i=>cC I M λb=>K (e5 F d (.val (.pointer (some ⟨b,0,none⟩)))) C I (⟨b,.cells i.zero.toArray t (0,0)⟩::M)
  |_,_=>False
 | .buildSlice _ _ _=>fc X o F C I M K| .makeSlice _ _ _=>fc X o F C I M K| .store _ _ _=>bif soft then fc X o F C I M K else False| .call { callee:=.builtin .append,.. }=>bif soft then ∀ G:Fr,(∀ y∈o.op.operands,cB G y=cB F y)->tz X o G C I M λx I' M'=>K (put o.dst x F) C I' M' else False
 | .call { callee:=.builtin .copy,.. }=>bif soft then ∀ G:Fr,(∀ y∈o.op.operands,cB G y=cB F y)->tz X o G C I M λx I' M'=>K (put o.dst x F) C I' M' else False
 |_=>False
def DT:cF->Nat
 | .ref s _=>s+1| _=>0
def AV(i:Nat)(op:Op)(ρ:Operand->cF)(bL:List (Nat×Nat)):List (Nat×Nat):=match op with
 | .load _ x=>(i,DT (ρ x))::bL| _=>bL
def yT(fg s:Nat):List (Nat×Nat)->Bool
 |[]=>true|(i,t)::bL=>(fg.testBit i || !Nat.beq s t)&&yT fg s bL
def MS{fg s i t:Nat}:∀ {bL:List (Nat×Nat)},yT fg s bL=true->(i,t)∈bL->fg.testBit i=true\/t≠s
 |(j,u)::bL,h,hm=>by
  unfold yT at h;rw[bG,ku]at h;rcases dv.1 hm with e | hm
  ·cases e;rcases h.1 with aa | aa
   ·exact .inl aa
   ·right
    rintro rfl;simp at aa
  ·exact MS h.2 hm
def MT(fg:Nat)(op:Op)(ρ:Operand->cF)(bL:List (Nat×Nat)):Bool:=match op with
 | .store _ x _=>(match ρ x with
  | .val (.pointer (some _))=>yT fg 0 bL| _=>false)
 |_=>false
def MU(fg:Nat)(op:Op)(ρ:Operand->cF)(bL:List (Nat×Nat)):Bool:=match op with
 | .store _ x _=>(match ρ x with
  | .ref s _=>yT fg (s+1) bL| _=>false)
 |_=>false
def r1(fG:Bool)(M:List aC):List aC:=bif fG then []else M
def Vh{I:aN}{M:List aC}{b:Nat}{o:Obj}(h:gE I (r1 fG M) b o):gE I M b o:=by
 cases fG with
 |false=>exact h
 |true=>
  rcases h with h | ⟨x,ae,_⟩;·exact .inl h
  ·cases ae
def MV{I I':aN}{M M':List aC}(h:∀ b o,gE I M b o->gE I' M' b o)(bf:∀ b o,I b=some o->I' b=some o):∀ b o,gE I (r1 fG M) b o->gE I' (r1 fG M') b o:=λb o ag=>by
 cases fG with
 |false=>exact h b o ag
 |true=>
  rcases ag with ag | ⟨x,ae,_⟩;·exact .inl (bf _ _ ag)
  ·cases ae
def Vi{I I':aN}{M M':List aC}(bf:∀ b o,I b=some o->I' b=some o):∀ b o,gE I (r1 true M) b o->gE I' (r1 true M') b o:=λb o ag=>by
 rcases ag with ag | ⟨x,ae,_⟩
 ·exact .inl (bf _ _ ag)
 ·cases ae
def MW(X:b')(fG:Bool)(op:Op)(ρ:Operand->cF)(C:cG)(I:aN)(M:List aC)(V:cF->Prop)(other:Prop):Prop:=match fG with
 |false=>bR X op ρ C I M V other| true=>bR X op ρ C I [] V other
def Vj{X:b'}{ρ:Operand->cF}{C:cG}{I:aN}{M:List aC}{V:cF->Prop}(h:MW X fG op ρ C I M V other):bR X op ρ C I (r1 fG M) V other:=by
 cases fG with
 |false=>exact h| true=>exact h
def Vk(ops:List Oper)(fG:Nat->Bool)(fg p:Nat):Bool:=(List.range ops.length).all λq=>!p.testBit q||(fg.testBit q||(fG q||match ops[q]? with
 |some o=>!mP o.op| none=>true))
def MX(op:Op)(ρ:Operand->cF):Bool:=match op with
 | .store _ x _=>(match ρ x with
  | .val (.pointer (some _))=>true| _=>false)
 | .call { callee:=.builtin .append,.. }=>true| .call { callee:=.builtin .copy,.. }=>true| _=>false
def MY(ops:List Oper)(fG:Nat->Bool)(fg p:Nat)(op:Op)(ρ:Operand->cF):Bool:=Vk ops fG fg p&&MX op ρ
def oL(X:b')(ops:List Oper)(fG:Nat->Bool):Nat->Nat->List (Nat×Nat)->Fr->cG->aN->List aC->eF->Prop
 |0,_,_,_,_,_,_,_=>False
 |n+1,p,bL,F,C,I,M,K=>
  match mQ ops p true with
  |i::_=>
   (match ops[i]? with
   |some o=>DS ops o F (λF=>MW X (fG i) o.op (cB F) C I M (λx=>oL X ops fG n (p ||| 2^i) (AV i o.op (cB F) bL) (put o.dst x F) C I M K) False) (λF=>oL X ops fG n (p ||| 2^i) bL (put o.dst (.val undef) F) C I M K)| none=>False)
  |[]=>
   match mQ ops p false with
   |[]=>K F C I M
   |i0::eN=>Hq (λi=>match ops[i]? with
     |some o=>DS ops o F (λF=>r0 X (MR ((iQ ops).getD i 0) p) (Vf ops ((iQ ops).getD i 0) p||(MU ((iQ ops).getD i 0) o.op (cB F) bL||(MT ((iQ ops).getD i 0) o.op (cB F) bL||MY ops fG ((iQ ops).getD i 0) p o.op (cB F)))) o F C I M λF C I M=>oL X ops fG n (p ||| 2^i) bL F C I M K) (λF=>oL X ops fG n (p ||| 2^i) bL (put o.dst (.val undef) F) C I M K)| none=>False) (i0::eN)
def looks(ops:List Oper)(o:Oper):List Nat:=o.looksAt ops.toArray
def DU(ops:List Oper):Bool:=
 let b:=iQ ops
 (List.range ops.length).all λj=>match ops[j]? with
  |none=>true
  |some j9=>
   (j9.after.toList.all λe=>!Region.binds .any e||Nat.blt e.on j) &&
   ((match j9.dst with
    |some d=>!(looks ops j9).contains d| none=>true) &&
   ((List.range ops.length).all (λi=>Nat.beq i j||match ops[i]? with
    |none=>true
    |some eO=>match eO.dst with
     |none=>true| some d=>!(j9.dst == some d)&&(!(looks ops j9).contains d||((b.getD j 0).testBit i||(b.getD i 0).testBit j)))))
def j'(ops:List Oper)(j e:Nat):Prop:=∃ o ky,ops[j]?=some o/\ky∈o.after/\Region.binds .any ky=true/\ky.on=e
inductive me(ops:List Oper):Nat->Nat->Prop
 |one{i j}(h:j' ops j i):me ops i j| trans {i j k} (h:j' ops j k) (bf:me ops i k):me ops i j
def w0(ops:List Oper)(S:Nat->Prop):Prop:=∀ j e,S j->j' ops j e->S e
def me.mem{S:Nat->Prop}(ea:w0 ops S){i j:Nat}(h:me ops i j)(ar:∀ e,j' ops j e->S e):S i:=by
 induction h with
 |one h=>exact ar _ h| trans h _ a8=>exact a8 λe he=>ea _ e (ar _ h) he
def Vl{acc:List Nat}{o:Oper}{i:Nat}(h:(AU acc o).testBit i=true):∃ e∈o.after,Region.binds .any e=true/\(e.on=i\/(acc.getD e.on 0).testBit i=true):=by
 have key:∀ (l:List Edge) (s:Nat),(l.foldl (λs e=>bif Region.binds .any e then s ||| 2^e.on ||| acc.getD e.on 0 else s) s).testBit i=true->s.testBit i=true\/∃ e∈l,Region.binds .any e=true/\(e.on=i\/(acc.getD e.on 0).testBit i=true):=by
  intro l
  induction l with
  |nil=>intro s h;exact .inl h
  |cons e l a8=>
   intro s h;simp only[At]at h;rcases a8 _ h with aa | ⟨bc,ve,ab⟩
   ·cases ag:Region.binds .any e with
    |false=>rw[ag]at aa;exact .inl aa
    |true=>
     rw[ag]at aa;simp only[aZ,Dw,ku,Ds,eC]at aa;rcases aa with(aa | aa) | aa;·exact .inl aa
     ·exact .inr ⟨e,by simp,ag,.inl aa⟩
     ·exact .inr ⟨e,by simp,ag,.inr aa⟩
   ·exact .inr ⟨bc,by simp[ve],ab⟩
 rcases key _ 0 h with aa | ⟨e,he,ab⟩
 ·simp at aa
 ·exact⟨e,by simpa using he,ab⟩
def MZ(ops:List Oper):∀ (l:List Oper) (pre:List Oper) (acc:List Nat),ops=pre++l->acc.length=pre.length->(∀ j i,(acc.getD j 0).testBit i=true->me ops i j) -> ∀ j i,((l.foldl (λacc o=>acc++[AU acc o]) acc).getD j 0).testBit i=true->me ops i j
 |[],pre,acc,_,_,DV=>DV
 |o::l,pre,acc,r2,hlen,DV=>by
  simp only[At];refine MZ ops l (pre++[o]) _ (by simp[r2]) (by simp[hlen]) ?_;intro j i h;by_cases ar:j<acc.length;·exact DV j i (by simpa[dT,tm ar]using h)
  ·by_cases h8:j=acc.length
   ·subst h8;have bf:(AU acc o).testBit i=true:=by simpa[dT]using h
    obtain⟨e,he,ag,ab⟩:=Vl bf;have an:ops[acc.length]?=some o:=by rw[r2,hlen];simp
    have vf:j' ops acc.length e.on:=⟨o,e,an,he,ag,rfl⟩;rcases ab with rfl | ab;·exact .one vf
    ·exact .trans vf (DV _ _ ab)
   ·have:(acc++[AU acc o]).getD j 0=0:=by rw[dT,wF (by simp;omega)];rfl
    rw[this]at h;simp at h
def vg{j i:Nat}(h:((iQ ops).getD j 0).testBit i=true):me ops i j:=
 MZ ops ops [] [] rfl rfl (λj i h=>by simp at h) j i h
section
variable{X:b'}{C C':cG}{I I':aN}{M M':List aC}
def tA{ρ hM:Operand->cF}:∀ {xs:List Operand},(∀ y∈xs,hM y=ρ y)->hI hM xs=hI ρ xs
 |[],_=>rfl| x::xs,h=>by have aa:=h x (by simp);have ab:=tA (xs:=xs) λy aL=>h y (by simp[aL]);simp only[hI,cR,aa,ab]
def Hr{ρ hM:Operand->cF}:∀ {xs:List (Nat×Operand)},(∀ y∈xs.map (·.2),hM y=ρ y)->pH hM xs=pH ρ xs
 |[],_=>rfl|(i,x)::xs,h=>by have aa:=h x (by simp);have ab:=Hr (xs:=xs) λy aL=>h y (by simp only[eh,dv];exact .inr aL);simp only[pH,cR,aa,ab]
def M2{ρ hM:Operand->cF}{V:cF->Prop}(h:bR X op ρ C I M V False)(g':∀ y∈op.operands,hM y=ρ y)
  (ay:∀ t x,op=.load t x->(∀ s off,ρ x=.ref s off->C' s=C s)/\((∀ s off,ρ x≠.ref s off)->∀ b o,gE I M b o->gE I' M' b o)):bR X op hM C' I' M' V False:=by
 cases op
 case load t x=>
  obtain⟨aF,af⟩:=ay t x rfl;have aa:=g' x (by simp[Op.operands]);simp only[bR,aa]at h |-;cases aI:X.E t with
  |none=>rw[aI]at h;exact h.elim
  |some i=>
   rw[aI]at h
   try simp only at h |-
   cases ae:ρ x with
   |ref s off=>
    rw[ae]at h
    try simp only at h |-
    rw[aF s off ae];exact h
   |val v=>
    rw[ae]at h
    try simp only at h |-
    split at h;·rename_i e;cases e
    ·rename_i a e;cases e;obtain⟨vs,⟨ab,cs,T,aj,ai,aQ⟩,bp⟩:=h;exact⟨vs,⟨ab,cs,T,aj,af (λs off e=>by rw[ae]at e;cases e) _ _ ai,aQ⟩,bp⟩
    ·exact h.elim
   |lit b=>rw[ae]at h;exact h.elim| kv=>rw[ae]at h;exact h.elim
 case build t ps=>
  have aa:=Hr (ρ:=ρ) (hM:=hM) (xs:=ps.toList) λy aL=>g' y (by simpa[Op.operands]using aL);simp only[bR,aa]at h |-;exact h
 case makeFunc fn first captured=>
  have aa:=tA (ρ:=ρ) (hM:=hM) (xs:=first.toList) λy aL=>g' y (by simp only[Op.operands,Array.mem_append];exact .inl (by simpa using aL));have ab:=tA (ρ:=ρ) (hM:=hM) (xs:=captured.toList) λy aL=>g' y (by simp only[Op.operands,Array.mem_append];exact .inr (by simpa using aL));simp only[bR,aa,ab]at h |-;exact h
 case slice t x lo hi mx=>
  have aa:=g' x (by simp[Op.operands]);have ab:lo.map (cR hM)=lo.map (cR ρ):=by
   cases lo with
   |none=>rfl| some y=>have:=g' y (by simp[Op.operands]);simp[cR,this]
  have ai:hi.map (cR hM)=hi.map (cR ρ):=by
   cases hi with
   |none=>rfl| some y=>have:=g' y (by simp[Op.operands]);simp[cR,this]
  simp only[bR,ab,ai,cR,aa]at h |-;exact h
 case call c=>
  obtain⟨callee,args,argTypes⟩:=c;cases callee with
  |value f=>exact h| invoke r m=>exact h
  |builtin b=>
   cases b
   case len=>
    have aa:=tA (ρ:=ρ) (hM:=hM) (xs:=args.toList) λy aL=>g' y (by simp[Op.operands,Call.operands];simpa using aL);simp only[bR,aa]at h |-;exact h
   case cap=>
    have aa:=tA (ρ:=ρ) (hM:=hM) (xs:=args.toList) λy aL=>g' y (by simp[Op.operands,Call.operands];simpa using aL);simp only[bR,aa]at h |-;exact h
   case max=>
    have aa:=tA (ρ:=ρ) (hM:=hM) (xs:=args.toList) λy aL=>g' y (by simp[Op.operands,Call.operands];simpa using aL);simp only[bR,aa]at h |-;exact h
   case min=>
    have aa:=tA (ρ:=ρ) (hM:=hM) (xs:=args.toList) λy aL=>g' y (by simp[Op.operands,Call.operands];simpa using aL);simp only[bR,aa]at h |-;exact h
   case unsafeSliceData=>
    have aa:=tA (ρ:=ρ) (hM:=hM) (xs:=args.toList) λy aL=>g' y (by simp[Op.operands,Call.operands];simpa using aL);simp only[bR,aa]at h |-;exact h
   all_goals exact h
 all_goals first
  |exact h|(rename_i x;have aa:=g' x (by simp[Op.operands]);simp only[bR,cR,aa]at h |-;exact h)|(rename_i x y;have aa:=g' x (by simp[Op.operands]);have ab:=g' y (by simp[Op.operands]);simp only[bR,cR,aa,ab]at h |-;exact h)|(rename_i x y z;have aa:=g' x (by simp[Op.operands]);have ab:=g' y (by simp[Op.operands]);have ai:=g' z (by simp[Op.operands]);simp only[bR,cR,aa,ab,ai]at h |-;exact h)|(rename_i x y;have aa:=g' x (by simp[Op.operands]);simp only[bR,cR,aa]at h |-;exact h)|(rename_i x y;have aa:=g' y (by simp[Op.operands]);simp only[bR,cR,aa]at h |-;exact h)|(rename_i x y z;have aa:=g' x (by simp[Op.operands]);have ab:=g' y (by simp[Op.operands]);simp only[bR,cR,aa,ab]at h |-;exact h)|(rename_i x y z;have aa:=g' y (by simp[Op.operands]);have ab:=g' z (by simp[Op.operands]);simp only[bR,cR,aa,ab]at h |-;exact h)|(rename_i o x y z u;have aa:=g' y (by simp[Op.operands]);have ab:=g' z (by simp[Op.operands]);simp only[bR,cR,aa,ab]at h |-;exact h)|(rename_i x y z u;have aa:=g' z (by simp[Op.operands]);have ab:=g' y (by simp[Op.operands]);simp only[bR,cR,aa,ab]at h |-;exact h)
end
section
variable{X:b'}{C:cG}{I:aN}{M:List aC}
def Vm{op:BinOp}{cP:Option dw}{x y:cF}{V:Value->Prop}{O:Prop}(h:jg op cP x y V O) :
  (∃ r,V r/\∀ nP,jg op cP x y (λz=>z=r) nP)\/(O/\∀ (Hs:Value->Prop) (nP:Prop),nP->jg op cP x y Hs nP):=by
 unfold jg at h;split at h
 ·left
  split at h;·obtain⟨j,ar,⟨r,ao,af⟩⟩:=h;exact⟨_,af,λnP=>by unfold jg;exact⟨j,ar,⟨r,ao,rfl⟩⟩⟩
  ·obtain⟨j,ar,af⟩:=h;exact⟨_,af,λnP=>by unfold jg;exact⟨j,ar,rfl⟩⟩
  ·rename_i _ _ k a cb b _ gH ma;cases hJ:IntKind.j4 k cb with
   |false=>rw[hJ]at h;exact h.elim
   |true=>
    rw[hJ]at h;simp only[aZ]at h;cases op<;>simp only at h
    case add=>obtain⟨r,ao,af⟩:=h;exact⟨_,af,λnP=>by simp only[jg,hJ,aZ];exact⟨r,ao,rfl⟩⟩
    case sub=>obtain⟨r,ao,af⟩:=h;exact⟨_,af,λnP=>by simp only[jg,hJ,aZ];exact⟨r,ao,rfl⟩⟩
    case mul=>obtain⟨r,ao,af⟩:=h;exact⟨_,af,λnP=>by simp only[jg,hJ,aZ];exact⟨r,ao,rfl⟩⟩
    case quo=>obtain⟨au,⟨r,ao,af⟩⟩:=h;exact⟨_,af,λnP=>by simp only[jg,hJ,aZ];exact⟨au,⟨r,ao,rfl⟩⟩⟩
    case rem=>obtain⟨au,af⟩:=h;exact⟨_,af,λnP=>by simp only[jg,hJ,aZ];first | exact⟨au,rfl⟩ | exact⟨au,trivial⟩⟩
    case shl=>exact(gH rfl).elim
    case shr=>exact(ma rfl).elim
    all_goals exact⟨_,h,λnP=>by simp only[jg,hJ,aZ];rfl⟩
 ·cases op<;>first
  |exact .inl ⟨_,h,λ_=>rfl⟩| exact .inr ⟨h,λ_ _ an=>an⟩
 ·split at h
  ·cases op<;>first
   |exact .inl ⟨_,h,λ_=>rfl⟩| exact .inr ⟨h,λ_ _ an=>an⟩
  ·rename_i aw;refine .inr ⟨h,λHs nP an=>?_⟩;cases cP with
   |none=>exact an
   |some i=>
    obtain⟨s,b,z,bn⟩:=i;cases bn<;>first
     |exact an| exact(aw _ _ _ rfl).elim
 ·rename_i aa ab ai;refine .inr ⟨h,λHs nP an=>?_⟩;unfold jg;split<;>first
   |exact an| exact(aa _ _ _ _ rfl rfl).elim| exact(ab _ _ rfl rfl).elim| exact(ai _ _ rfl rfl).elim
def Vn{ρ:Operand->cF}{V:cF->Prop}(h:bR X op ρ C I M V False):∃ x,V x/\bR X op ρ C I M (λy=>y=x) False:=by
 cases op
 case move x=>exact⟨_,h,rfl⟩
 case assign x=>exact⟨_,h,rfl⟩
 case pick c p q=>
  simp only[bR]at h |-;split at h;·exact⟨_,h,rfl⟩
  ·exact⟨_,h,rfl⟩
  ·exact h.elim
 case unOp op t x=>
  simp only[bR]at h |-;split at h;·exact⟨_,h,rfl⟩
  ·exact⟨_,h,rfl⟩
  ·obtain⟨r,ao,af⟩:=h;exact⟨_,af,⟨r,ao,rfl⟩⟩
  ·exact h.elim
 case binOp op t x y ty=>
  simp only[bR]at h |-;rcases Vm h with⟨r,aa,ab⟩ | ⟨⟨fu,c7,r,aH,aK,ao,af⟩ | aa,ab⟩
  ·refine⟨_,aa,?_⟩;have:(λv=>cF.val v=cF.val r)=(λz=>z=r):=by funext v;simp
   rw[this];exact ab _
  ·exact⟨_,af,ab _ _ (.mk fu c7 r aH aK ao rfl)⟩
  ·exact aa.elim
 case load t x=>
  simp only[bR]at h |-;split at h
  ·split at h
   ·split at h
    ·rename_i i hi _ s off aq _ cs aF;cases hle:Nat.ble (off+i.size) cs.length with
     |false=>rw[hle]at h;exact h.elim| true=>rw[hle]at h;exact⟨_,h,rfl⟩
    ·exact h.elim
   ·obtain⟨vs,ao,af⟩:=h;exact⟨_,af,⟨vs,ao,rfl⟩⟩
   ·exact h.elim
  ·exact h.elim
 case nilCheck x=>
  simp only[bR]at h |-;split at h;·exact⟨_,h,rfl⟩
  ·exact⟨_,h,rfl⟩
  ·exact h.elim
 case fieldAddr t x i=>
  simp only[bR]at h |-;split at h
  ·split at h
   ·split at h
    ·rename_i ft s o' mb ae;cases bd:Nat.beq ft.size 0 with
     |true=>rw[bd]at h;exact h.elim| false=>rw[bd]at h;exact⟨_,h,rfl⟩
    ·rename_i ft s mb ae;cases bd:Nat.beq ft.size 0 with
     |true=>rw[bd]at h;exact h.elim| false=>rw[bd]at h;exact⟨_,h,rfl⟩
    ·exact h.elim
   ·exact h.elim
  ·exact h.elim
 case field t x i=>
  simp only[bR]at h |-;split at h
  ·split at h
   ·split at h
    ·rename_i sz gp z bK cs az ae _ j3 off iB _ ft mb;cases hle:Nat.ble (off+ft.size) cs.size with
     |false=>rw[hle]at h;exact h.elim| true=>rw[hle]at h;exact⟨_,h,rfl⟩
    ·exact h.elim
   ·exact h.elim
  ·exact h.elim
 case indexAddr t x i=>
  simp only[bR]at h |-;split at h
  ·split at h
   ·obtain⟨ad,j,aa,ab,ai,af⟩:=h;exact⟨_,af,⟨ad,j,aa,ab,ai,rfl⟩⟩
   ·exact h.elim
  ·split at h
   ·obtain⟨j,ab,ai,af⟩:=h;exact⟨_,af,⟨j,ab,ai,rfl⟩⟩
   ·obtain⟨j,ab,ai,af⟩:=h;exact⟨_,af,⟨j,ab,ai,rfl⟩⟩
   ·exact h.elim
  ·exact h.elim
 case index t x i=>
  simp only[bR]at h |-;split at h;·obtain⟨j,ab,ai,af⟩:=h;exact⟨_,af,⟨j,ab,ai,rfl⟩⟩
  ·split at h
   ·rename_i n e cs eE k az ae hi _ aE fS;cases bd:Nat.beq (n*aE.size) cs.size with
    |false=>rw[bd]at h;exact h.elim| true=>rw[bd]at h;obtain⟨j,ab,ai,af⟩:=h;exact⟨_,af,⟨j,ab,ai,rfl⟩⟩
   ·exact h.elim
  ·exact h.elim
 case build t ps=>
  simp only[bR]at h |-;split at h
  ·split at h
   ·rename_i i vs az gG _ bK kY;cases aH:yH X.E bK with
    |false=>rw[aH]at h;exact h.elim
    |true=>
     rw[aH]at h;simp only[aZ]at h |-;split at h;·exact⟨_,h,rfl⟩
     ·exact h.elim
   ·split at h
    ·split at h
     ·exact⟨_,h,rfl⟩
     ·exact h.elim
    ·exact h.elim
   ·exact h.elim
  ·exact h.elim
 case makeFunc fn first captured=>
  simp only[bR]at h |-;split at h;·exact⟨_,h,rfl⟩
  ·exact h.elim
 case slice t x lo hi mx=>
  simp only[bR]at h |-;split at h
  ·split at h
   ·exact⟨_,h,rfl⟩
   ·obtain⟨l,m,aa,ab,ai,aQ,af⟩:=h;exact⟨_,af,⟨l,m,aa,ab,ai,aQ,rfl⟩⟩
   ·obtain⟨l,m,aa,ab,ai,aQ,af⟩:=h;exact⟨_,af,⟨l,m,aa,ab,ai,aQ,rfl⟩⟩
   ·obtain⟨l,m,aa,ab,ai,aQ,af⟩:=h;exact⟨_,af,⟨l,m,aa,ab,ai,aQ,rfl⟩⟩
   ·exact h.elim
  ·split at h
   ·exact⟨_,h,rfl⟩
   ·obtain⟨l,m,aa,ab,ai,aQ,af⟩:=h;exact⟨_,af,⟨l,m,aa,ab,ai,aQ,rfl⟩⟩
   ·obtain⟨l,m,aa,ab,ai,aQ,af⟩:=h;exact⟨_,af,⟨l,m,aa,ab,ai,aQ,rfl⟩⟩
   ·obtain⟨l,m,aa,ab,ai,aQ,af⟩:=h;exact⟨_,af,⟨l,m,aa,ab,ai,aQ,rfl⟩⟩
   ·exact h.elim
  ·exact h.elim
 case extract x i=>
  simp only[bR]at h |-;split at h
  ·split at h
   ·exact⟨_,h,rfl⟩
   ·exact h.elim
  ·exact h.elim
 case convert s d x=>
  simp only[bR]at h |-;split at h;·obtain⟨r,ao,af⟩:=h;exact⟨_,af,⟨r,ao,rfl⟩⟩
  ·exact h.elim
 case call c=>
  obtain⟨callee,args,argTypes⟩:=c;cases callee with
  |value f=>exact h.elim| invoke r m=>exact h.elim
  |builtin b=>
   cases b
   case len=>
    simp only[bR]at h |-;split at h
    ·split at h
     ·exact⟨_,h,rfl⟩
     ·exact⟨_,h,rfl⟩
     ·exact⟨_,h,rfl⟩
     ·exact h.elim
    ·exact h.elim
   case cap=>
    simp only[bR]at h |-;split at h
    ·split at h
     ·exact⟨_,h,rfl⟩
     ·exact h.elim
    ·exact h.elim
   case max=>
    simp only[bR]at h |-;split at h;·exact⟨_,h,rfl⟩
    ·exact h.elim
   case min=>
    simp only[bR]at h |-;split at h;·exact⟨_,h,rfl⟩
    ·exact h.elim
   case unsafeSliceData=>
    simp only[bR]at h |-;split at h;·exact⟨_,h,rfl⟩
    ·obtain⟨aa,ab⟩:=h;exact⟨_,ab,⟨aa,rfl⟩⟩
    ·exact h.elim
   all_goals exact h.elim
 all_goals exact h.elim
end
def gE.mono{I I':aN}{M M':List aC}{b:Nat}{o:Obj}(h:gE I M b o)(a':∀ b o,I b=some o->I' b=some o)(a5:∀ x∈M,x∈M'):gE I' M' b o:=by
 rcases h with h | ⟨x,ae,aa,ab⟩
 ·exact .inl (a' _ _ h)
 ·exact .inr ⟨x,a5 x ae,aa,ab⟩
def gE.move{I I':aN}{M M':List aC}{b:Nat}{o:Obj}(h:gE I M b o)(a':∀ b o,I b=some o->I' b=some o)(a5:∀ x∈M,I' x.num=some x.obj\/x∈M'):gE I' M' b o:=by
 rcases h with h | ⟨x,ae,rfl,rfl⟩
 ·exact .inl (a' _ _ h)
 ·rcases a5 x ae with h | h
  ·exact .inl h
  ·exact .inr ⟨x,h,rfl,rfl⟩
def M3(F:Fr)(op:Op)(C C':cG)(I I':aN)(M M':List aC):Prop:=(∀ t x y s off,op=.store t x y->cB F x=.ref s off->((∀ b0,b0≠s->C' b0=C b0)/\∀ b o,I b=some o->I' b=some o)/\∀ b o,gE I M b o->gE I' M' b o)/\(∀ t x y ad,op=.store t x y->cB F x=.val (.pointer (some ad))->C'=C/\∀ b o,I b=some o->I' b=some o)/\((∀ t x y,op≠.store t x y)->C'=C/\∀ b o,I b=some o->I' b=some o)
def Vo(X:b')(β:Nat->Nat)(G F:Fr)(C:cG)(I:aN)(M:List aC)(Vp:Bool)(op:Op)(dst:Option Nat)(a:Act)(K:eF)(bw:Act)(w':World):Prop:=
 ∃ v x C' I' M',bw=a.put dst v/\dD β x v/\bY X β a w' G C' I' M'/\K (put dst x F) C' I' M'/\((Vp=true/\M3 F op C C' I I' M M')\/(C'=C/\(∀ b o,I b=some o->I' b=some o)/\∀ b o,gE I M b o->gE I' M' b o))
def Vq{X:b'}{β:Nat->Nat}{F G:Fr}{C:cG}{I:aN}{M:List aC}{o:Oper}{K:eF}(aI:cj X.P X.E)
  (h:bY X β a w G C I M) (ka:∀ y∈o.op.operands,cB G y=cB F y) (ah:r0 X false soft o F C I M K):o.wpIn (fb X) 0 X.P a w (Vo X β G F C I M soft o.op o.dst a K) Q:=by
 obtain⟨dst,op,ty,pos,after,guard⟩:=o;have aD:=h.aj;have lB:∀ {y:Operand} {v:Value},y∈op.operands->bi F y=.val v->a.eval y=v:=fun {y v} aL he=>cw aD (by simp only[bi,cR,ka y aL];exact he);cases op
 case alloc t=>
  simp only[r0,aY]at ah;split at ah
  ·rename_i d i hi;obtain⟨z,bd,tv⟩:=(aI _ _ hi).AB w;have yM:z.cells=i.zero.toArray:=by rw[<-tv]
   obtain⟨ah⟩:=ah;have af:=ah w.heap.size h.holds.oI h.holds.nH;refine g9 (by simp) (v:=.pointer (some ⟨w.heap.size,0,none⟩)) (w':=w.alloc (.cells i.zero.toArray t (0,0))) ?_ ⟨_,.val _,_,_,_,rfl,rfl,h.l' _,af,.inr ⟨rfl,λ_ _ h=>h,λb o ag=>ag.mono (λ_ _ h=>h) (λx ae=>by simp[ae])⟩⟩;simp[execOp,Instr.alloc,newVar,newRow,bd,yM,wI]
  ·exact ah.elim
 case store t x y=>
  simp only[r0,aY]at ah;cases soft with
  |false=>exact ah.elim
  |true=>
   simp only[aZ,fc]at ah;split at ah
   ·rename_i i v hi aL;have u7:=lB (by simp[Op.operands]) aL;split at ah
    ·rename_i s off ae;have iO:=wM aD ((ka x (by simp[Op.operands])).trans ae);split at ah
     ·rename_i cs aq;cases hle:(Nat.ble (off+i.size) cs.length&&(Nat.beq v.cells.size i.size&&ga v.cells.toList))with
      |false=>rw[hle]at ah;exact ah.elim
      |true=>
       rw[hle]at ah;simp only[bG]at hle;obtain⟨hle,cc,j6⟩:=hle;have AG:=bq hle;have wS:=bV cc;obtain⟨T,bO⟩:=(h.bL s cs aq).at_;have:=DG (aI _ _ hi) (a:=⟨β s,off,none⟩) (v:=v) rfl bO wS (by simp;omega) j6;refine yJ (by simp) (w':=w.setRow (β s) (bo cs off v.cells.toList).toArray) ?_ ⟨undef,.kv,_,_,_,rfl,trivial,h.Mu aq (bo cs off v.cells.toList),ah,.inl ⟨rfl,λdU lA M4 b0 DE ax aA=>(by
        cases ax;rw[ae]at aA;cases aA;refine⟨⟨λs2 bl=>?_,λ_ _ h=>h⟩,λ_ _ h=>h⟩;unfold g8;rw[fv bl];rfl),λdU lA M4 M5 ax aA=>(by
        cases ax;rw[ae]at aA;cases aA),λAW=>absurd rfl (AW _ _ _)⟩⟩
       simp only[execOp,Instr.storeAt,iO,u7,Instr.sureAddr,bH,ch,bx];simp only[G1]at this;rw[this];rfl
     ·exact ah.elim
    ·rename_i ad ae;have iO:=qG aD ((ka x (by simp[Op.operands])).trans ae);cases cc:Nat.beq v.cells.size i.size with
     |false=>rw[cc]at ah;exact ah.elim| true=>rw[cc]at ah;obtain⟨pre,post,cs,T,a5,bI,ag,j6,af⟩:=ah;have wS:=bV cc;have aG:w.heap[ad.block]?=some (.cells cs T (0,0)):=h.holds.m ⟨ad.block,.cells cs T (0,0)⟩ (by rw[a5];simp);have:=DG (aI _ _ hi) (v:=v) bI aG wS ag j6;refine yJ (by simp) (w':=w.setRow ad.block (bo cs.toList ad.off v.cells.toList).toArray) ?_ ⟨undef,.kv,_,_,_,rfl,trivial,h.u2 a5,af,.inl ⟨rfl,λdU lA M4 b0 DE ax aA=>(by cases ax;rw[ae]at aA;cases aA),λ_ _ _ _ _ _=>⟨rfl,λ_ _ h=>h⟩,λAW=>absurd rfl (AW _ _ _)⟩⟩;simp only[execOp,Instr.storeAt,iO,u7,Instr.sureAddr,bH,ch,bx];rw[this];rfl
    ·exact ah.elim
   ·exact ah.elim
 case buildSlice t len parts=>
  simp only[r0,aY,fc]at ah;have Vr:wL G parts.toList=wL F parts.toList:=Hr λy aL=>ka y (by simpa[Op.operands]using aL);rw[<-Vr]at ah;split at ah
  ·rename_i sz gp z e vs az gG;have hu:=(aI _ _ az).slice;have aH:=DC aD gG;have u6:(parts.map λ(i,x)=>(i,a.eval x)).toList=vs:=by simpa using aH
   split at ah
   ·rename_i aE fS;cases bd:(Nat.ble (len*aE.size) 16777216&&Nat.blt 0 (len*aE.size))with
    |false=>
     rw[bd]at ah;simp only[aY]at ah;split at ah
     ·rename_i UX;obtain⟨ah⟩:=ah;have af:=ah w.heap.size h.holds.oI h.holds.nH;refine g9 (by simp) (v:=.slice (some ⟨w.heap.size,0,none⟩) 0 0) (w':=w.alloc (.cells #[] e (0,0))) ?_ ⟨_,.val _,_,_,_,rfl,rfl,h.l' _,af,.inr ⟨rfl,λ_ _ h=>h,λb o ag=>ag.mono (λ_ _ h=>h) (λx ae=>by simp[ae])⟩⟩;simp only[execOp,Instr.buildSlice,bH,bx,run_underlying hu,(aI _ _ fS).run_sizeOf,u6];have bT:∀ f:Nat->Value,Array.map f (Array.range 0)=#[]:=λf=>by apply Array.ext<;>simp
      simp[newRow,wI,Instr.fill,bT]
     ·exact ah.elim
    |true=>
     rw[bd]at ah;simp only[aZ]at ah;rw[bG]at bd;have hle:=bq bd.1;have mO:0<len*aE.size:=by simpa using bd.2
     split at ah;·rename_i cells rS;obtain⟨pL,wT,tv⟩:=(aI _ _ fS).AB w;obtain⟨ah⟩:=ah;have af:=ah w.heap.size h.holds.oI h.holds.nH;refine g9 (by simp) (v:=.slice (some ⟨w.heap.size,0,none⟩) len len) (w':=w.alloc (.cells cells.toArray e (0,0))) ?_ ⟨_,.val _,_,_,_,rfl,rfl,h.l' _,af,.inr ⟨rfl,λ_ _ h=>h,λb o ag=>ag.mono (λ_ _ h=>h) (λx ae=>by simp[ae])⟩⟩;have wP:=fill_eq _ _ _ _ rS;simp only[execOp,Instr.buildSlice,bH,bx,run_underlying hu,(aI _ _ fS).run_sizeOf];rw[b7 (by omega)];simp only[b7 (show ¬ len*aE.size=0 by omega),bH,wT,bx,ch,u6,MC pL aE.zero tv,wP];simp[newRow,wI]
     ·exact ah.elim
   ·exact ah.elim
  ·exact ah.elim
 case makeSlice t l c=>
  simp only[r0,aY,fc]at ah;split at ah
  ·rename_i sz gp z e AH cd jj c' az ay aF;have hu:=(aI _ _ az).slice;have nK:=lB (by simp[Op.operands]) ay;have qL:=lB (by simp[Op.operands]) aF;split at ah
   ·rename_i aE fS;obtain⟨n,m,rfl,rfl,AI,ag,hm,⟨ah⟩⟩:=ah;have af:=ah w.heap.size h.holds.oI h.holds.nH;obtain⟨inf,pL,eM,gd,hs,jB,wU⟩:=(aI _ _ fS).inf;refine g9 (by simp) (v:=.slice (some ⟨w.heap.size,0,none⟩) n m) (w':=w.alloc (.cells (rowOf aE.zero (m*aE.size)).toArray e (0,0))) ?_ ⟨_,.val _,_,_,_,rfl,rfl,h.l' _,af,.inr ⟨rfl,λ_ _ h=>h,λb o ag=>ag.mono (λ_ _ h=>h) (λx ae=>by simp[ae])⟩⟩;have jC:((aE.bytes:Nat):Int)*(m:Int)<=281474976710656:=by
     have ab:((aE.bytes*m:Nat):Int)<=281474976710656:=by omega
     simpa using ab
    have:=run_make (P:=X.P) w t e inf pL hu eM jB AH jj (n:Int) (m:Int) (by omega) (by omega) (by rw[hs];exact jC) (by omega);simp only[execOp,nK,qL,bH,this,bx,ch,nF];have ax:madeCells pL.cells (m*inf.size)=(rowOf aE.zero (m*aE.size)).toArray:=by rw[gd,<-wU];simp[yI]
    rw[ax]
   ·exact ah.elim
  ·exact ah.elim
 case call c=>
  obtain⟨callee,args,argTypes⟩:=c;cases callee with
  |value f=>
   simp only[r0,aY]at ah;split at ah
   ·rename_i g first cap vs u9 gG
    have Vs:j2 G args.toList=some vs:=by rw[<-gG];exact tA λy aL=>ka y (by simp only[Op.operands,Call.operands];simp;right;simpa using aL)
    have Vt:=lB (by simp[Op.operands,Call.operands]) u9;obtain⟨c3,cH,Mr,post,Vu,cJ,aq,af⟩:=ah.elim ⟨h.holds.d,h.holds.a2⟩;have ax:=pI aD Vs;have cL:args.map a.eval=vs.toArray:=by apply fa;simpa using ax
    have eu:∀ {n:Next} {w':World},(callFunc g (first.toList++vs++cap.toList).toArray).run X.P w=.ok n w'->(execOp a.eval ⟨dst,.call { callee:=.value f,args,argTypes },ty,pos,after,guard⟩).run X.P w=.ok n w':=λao=>by simp only[execOp,resolve,Vt,Deferred.ofValue,bH,ch,bx,cL,invoke];rw[show first++vs.toArray++cap=(first.toList++vs++cap.toList).toArray from by apply fa;simp];exact ao
    have M6:∀ {I':aN} {M':List aC},(∀ b o,I b=some o->I' b=some o)->(soft=true\/∀ x∈M,I' x.num=some x.obj\/x∈M')->(soft=true/\M3 F (.call { callee:=.value f,args,argTypes }) C C I I' M M')\/(C=C/\(∀ b o,I b=some o->I' b=some o)/\∀ b o,gE I M b o->gE I' M' b o):=λaa ab=>by
     rcases ab with ab | ab;·exact .inl ⟨ab,⟨λt x y s off e _=>(by cases e),λt x y ad e _=>(by cases e),λ_=>⟨rfl,aa⟩⟩⟩
     ·exact .inr ⟨rfl,aa,λb o ag=>ag.move aa ab⟩
    rcases h.call (KC:=λv I' M'=>(∀ b o,I b=some o->I' b=some o)/\(soft=true\/∀ x∈M,I' x.num=some x.obj\/x∈M')/\K (Go.V.put dst (.val v) F) C I' M') (.Az c3 cH Mr post Vu aq λv I' M' hle ak aH=>⟨λb o ag=>hle _ _ (cJ _ _ ag),(af v I' M' hle ak aH).1,(af v I' M' hle ak aH).2⟩)with⟨mN,wV⟩ | ⟨v,w',I',M',ao,⟨aa,ab,af⟩,fw⟩;·refine MB (by simp) (f:=g) (args:=(first.toList++vs++cap.toList).toArray) (eu (mN _ _)) ?_;refine wV.mono ?_;rintro e w'⟨v,I',M',rfl,⟨aa,ab,af⟩,ao⟩;exact⟨v,rfl,v,.val v,C,I',M',rfl,rfl,ao,af,M6 aa ab⟩
    ·exact g9 (by simp) (eu ao) ⟨v,.val v,C,I',M',rfl,rfl,fw,af,M6 aa ab⟩
   ·exact ah.elim
  |invoke r m=>exact ah.elim
  |builtin b=>
   cases b
   case append=>
    simp only[r0,aY]at ah;cases soft with
    |false=>exact ah.elim| true=>simp only[aZ]at ah;obtain⟨ah⟩:=ah G ka;refine pz (λbw w'=>?_) (ah β a w Q h);rintro⟨v,x,I',M',aa,ab,ai,aQ,Ht⟩;exact⟨v,x,C,I',M',aa,ab,ai,aQ,.inl ⟨rfl,⟨λt x y s off e _=>(by cases e),λt x y ad e _=>(by cases e),λ_=>⟨rfl,λb o h=>by rw[Ht];exact h⟩⟩⟩⟩
   case copy=>
    simp only[r0,aY]at ah;cases soft with
    |false=>exact ah.elim| true=>simp only[aZ]at ah;obtain⟨ah⟩:=ah G ka;refine pz (λbw w'=>?_) (ah β a w Q h);rintro⟨v,x,I',M',aa,ab,ai,aQ,Ht⟩;exact⟨v,x,C,I',M',aa,ab,ai,aQ,.inl ⟨rfl,⟨λt x y s off e _=>(by cases e),λt x y ad e _=>(by cases e),λ_=>⟨rfl,λb o h=>by rw[Ht];exact h⟩⟩⟩⟩
   all_goals exact ah.elim
 all_goals exact ah.elim
def pQ(x y:cF):Prop:=∀ β u,dD β x u->dD β y u
def pQ.refl(x:cF):pQ x x:=λ_ _ h=>h
def pQ.trans{x y z:cF}(h:pQ x y)(bf:pQ y z):pQ x z:=fun β u hu=>bf β u (h β u hu)
structure r3(ops:List Oper):Prop where
 lt:∀ j e,j' ops j e->e<j
 own:∀ (j:Nat) (o:Oper) (d:Nat),ops[j]?=some o->o.dst=some d->d ∉ looks ops o
 Hu:∀ (i j:Nat) (eO j9:Oper) (d:Nat),i≠j->ops[i]?=some eO->ops[j]?=some j9->eO.dst=some d->j9.dst≠some d
 ord:∀ (i j:Nat) (eO j9:Oper) (d:Nat),i≠j->ops[i]?=some eO->ops[j]?=some j9->eO.dst=some d->d∈looks ops j9->me ops i j\/me ops j i
def M7(h:DU ops=true):r3 ops:=by
 have key:∀ (j:Nat) (j9:Oper),ops[j]?=some j9->_:=λj j9 ar=>by have aU:j<ops.length:=(h3.1 ar).1;have aa:=gR.1 h j (l9.2 aU);simp only[ar,bG]at aa;exact aa
 refine⟨?_,?_,?_,?_⟩
 ·rintro j e⟨o,ky,an,nQ,ag,rfl⟩;have aa:=gR.1 (key j o an).1 ky (by simpa using nQ);rw[ag]at aa;simpa using aa
 ·intro j o d an ak;have aa:=(key j o an).2.1;rw[ak]at aa;simpa using aa
 ·intro i j eO j9 d bl hi ar ak ff;have aU:i<ops.length:=(h3.1 hi).1;have aa:=gR.1 (key j j9 ar).2.2 i (l9.2 aU);rw[fv bl]at aa;simp only[hi,ak,uZ,bG]at aa;rw[ff]at aa;simp at aa
 ·intro i j eO j9 d bl hi ar ak ay;have aU:i<ops.length:=(h3.1 hi).1;have aa:=gR.1 (key j j9 ar).2.2 i (l9.2 aU);rw[fv bl]at aa;simp only[hi,ak,uZ,bG,ku]at aa;rcases aa.2 with ab | ab | ab
  ·have:(looks ops j9).contains d=true:=by simpa using ay
   rw[this]at ab;cases ab
  ·exact .inl (vg ab)
  ·exact .inr (vg ab)
def gV(ops:List Oper)(i:Nat):Option Nat:=(ops[i]?).bind (·.dst)
def iE(L:Nat->Prop)(p i:Nat):Prop:=p.testBit i=true/\¬ L i
def vh(ops:List Oper)(o:Oper)(F:Fr):Prop:=match o.guard with
 |none=>True| some (j,b)=>∃ d,gV ops j=some d/\F d=.lit b
def DW(ops:List Oper)(o:Oper)(F:Fr):Prop:=∃ j b d,o.guard=some (j,b)/\gV ops j=some d/\(F d=.lit (!b)\/∃ vs,F d=.val (.tuple vs))
def Hv{o:Oper}{j d:Nat}{b:Bool}(aG:o.guard=some (j,b))(ak:gV ops j=some d):d∈looks ops o:=by unfold looks Oper.looksAt;refine yD _ ?_;rw[aG];simp only[Option.mem_toList];simpa[gV]using ak
def Hw{o:Oper}{t:Nat}(h:Operand.tmp t∈o.op.operands):t∈looks ops o:=
 yE _ (List.mem_filterMap.2 ⟨.tmp t,by simpa using h,rfl⟩)
def M8{o:Oper}{F:Fr}{β:Nat->Nat}(h:vh ops o F)(ct:∀ t∈looks ops o,dD β (F t) (a.tmps.getD t undef)):Region.wanted o (yielded ops.toArray a.tmps)=true:=by
 unfold vh at h;unfold Region.wanted;cases aG:o.guard with
 |none=>rfl| some AK=>obtain⟨j,b⟩:=AK;rw[aG]at h;obtain⟨d,ak,ay⟩:=h;have aa:=ct d (Hv aG ak);rw[ay]at aa;have aL:=AJ (ops:=ops.toArray) (j:=j) (d:=d) (by simpa[gV]using ak) a.tmps;simp[aL,yO aa]
def M9{o:Oper}{F:Fr}{β:Nat->Nat}(h:DW ops o F)(ct:∀ t∈looks ops o,dD β (F t) (a.tmps.getD t undef)):Region.wanted o (yielded ops.toArray a.tmps)=false:=by
 obtain⟨j,b,d,aG,ak,ay⟩:=h;unfold Region.wanted;have aa:=ct d (Hv aG ak);have aL:=AJ (ops:=ops.toArray) (j:=j) (d:=d) (by simpa[gV]using ak) a.tmps;rw[aG];rcases ay with ay | ⟨vs,ay⟩
 ·rw[ay]at aa;simp[aL,yO aa]
 ·rw[ay]at aa;have wX:yielded ops.toArray a.tmps j=none:=by
   rw[aL];cases kZ:a.tmps[d]? with
   |none=>rfl| some v=>simp only[dD,l8,kZ,jZ]at aa;subst aa;rfl
  simp[wX]
def Na{o:Oper}{F:Fr}{run skip:Fr->Prop}(h:DS ops o F run skip):∃ iR,(∀ t,pQ (F t) (iR t))/\((vh ops o iR/\run iR)\/(DW ops o iR/\skip iR)):=by
 unfold DS at h;cases aG:o.guard with
 |none=>rw[aG]at h;exact⟨F,λt=>.refl _,.inl ⟨by simp[vh,aG],h⟩⟩
 |some AK=>
  obtain⟨j,b⟩:=AK;rw[aG]at h;simp only at h;split at h;·exact h.elim
  ·rename_i d ak;have ff:gV ops j=some d:=ak;split at h
   ·rename_i c aF;refine⟨F,λt=>.refl _,?_⟩;cases gT:(c == b)with
    |true=>
     rw[gT]at h;have gT:c=b:=by simpa using gT
     subst gT;exact .inl ⟨by simp only[vh,aG];exact⟨d,ff,aF⟩,h⟩
    |false=>
     rw[gT]at h;have DX:c=!b:=by cases c<;>cases b<;>simp_all
     subst DX;exact .inr ⟨⟨j,b,d,aG,ff,.inl aF⟩,h⟩
   ·rename_i c aF;obtain⟨aa,ab⟩:=h;have fG:∀ x,c=x->∀ t,pQ (F t) (e5 F d (.lit x) t):=λx ae t=>by
     unfold e5;by_cases e:t=d;·subst e;subst ae;simp only[nG,aZ,aF];exact λ_ _ h=>h
     ·simp only[fv e,aY];exact .refl _
    have self:∀ x,e5 F d (.lit x) d=.lit x:=λx=>by simp[e5]
    by_cases gT:c=b;·exact⟨_,fG b gT,.inl ⟨by simp only[vh,aG];exact⟨d,ff,self b⟩,aa gT⟩⟩
    ·have DX:c=!b:=by cases c<;>cases b<;>simp_all
     exact⟨_,fG _ DX,.inr ⟨⟨j,b,d,aG,ff,.inl (self _)⟩,ab DX⟩⟩
   ·rename_i vs aF;exact⟨F,λt=>.refl _,.inr ⟨⟨j,b,d,aG,ff,.inr ⟨vs,aF⟩⟩,h⟩⟩
   ·exact h.elim
structure Vv(X:b')(ops:List Oper)(gJ:Nat->Bool)(L:Nat->Prop)(p:Nat)(bL:List (Nat×Nat))(β:Nat->Nat)(a:Act)(F:Fr)(C:cG)(I:aN)(M:List aC)(fx:Nat->cF)(eV:Nat->Fr)(q:Nat)(o:Oper):Prop where
 quiet:yS o.op=true
 fG:∀ d,o.dst=some d->pQ (fx q) (F d)
 b:∀ t∈looks ops o,∀ i,iE L p i->me ops i q->gV ops i=some t->pQ (fx i) (eV q t)
 a:∀ t∈looks ops o,(∀ i,iE L p i->me ops i q->gV ops i≠some t)->dD β (eV q t) (a.tmps.getD t undef)
 r:(vh ops o (eV q)/\bR X o.op (cB (eV q)) C I (r1 (gJ q) M) (λx=>x=fx q) False/\∀ t x,o.op=.load t x->(q,DT (cB (eV q) x))∈bL)\/(DW ops o (eV q)/\fx q=.val undef)
structure Inv(X:b')(ops:List Oper)(gJ:Nat->Bool)(L:Nat->Prop)(β:Nat->Nat)(a:Act)(w:World)(F:Fr)(C:cG)(I:aN)(M:List aC)(p:Nat)(bL:List (Nat×Nat))(fx:Nat->cF)(eV:Nat->Fr):Prop where
 rel:bY X β a w (λ_=>.kv) C I M
 sub:∀ i,L i->p.testBit i=true
 r4:w0 ops L
 nR:w0 ops (λi=>p.testBit i=true)
 T:∀ t,(∀ i,iE L p i->gV ops i≠some t)->dD β (F t) (a.tmps.getD t undef)
 vi:∀ q,iE L p q->∃ o,ops[q]?=some o/\Vv X ops gJ L p bL β a F C I M fx eV q o
def kc{p q i:Nat}:(p ||| 2^q).testBit i=true ↔ p.testBit i=true\/i=q:=by simp only[Dw,ku,Ds,eC];exact⟨λh=>h.imp id Eq.symm,λh=>h.imp id Eq.symm⟩
section
variable{X:b'}{ops:List Oper}{gJ:Nat->Bool}{L:Nat->Prop}{β:Nat->Nat}{a:Act}{w:World}{F:Fr}{C:cG}{I:aN}{M:List aC}{p:Nat}{bL:List (Nat×Nat)}{fx:Nat->cF}{eV:Nat->Fr}{q:Nat}{o:Oper}
def AX(h:ops[q]?=some o):gV ops q=o.dst:=by simp[gV,h]
def AY{i d:Nat}(h:gV ops i=some d):∃ eO,ops[i]?=some eO/\eO.dst=some d:=by unfold gV at h;exact GZ.1 h
def Inv.ahead(cn:r3 ops)(Nb:w0 ops (λi=>p.testBit i=true))(aK:ops[q]?=some o)(iS:p.testBit q=false){i t:Nat}(hi:p.testBit i=true)(az:t∈looks ops o)(ak:gV ops i=some t):me ops i q:=by
 obtain⟨eO,gf,mR⟩:=AY ak;have bl:i≠q:=λe=>by rw[e,iS]at hi;cases hi
 rcases cn.ord i q eO o t bl gf aK mR az with h | h
 ·exact h
 ·have:=h.mem Nb (λe he=>Nb i e hi he);rw[iS]at this;cases this
def Inv.Vw(cn:r3 ops)(h:Inv X ops gJ L β a w F C I M p bL fx eV)(aK:ops[q]?=some o)(iS:p.testBit q=false)(bD:∀ e,j' ops q e->L e):∀ t∈looks ops o,dD β (F t) (a.tmps.getD t undef):=λt az=>h.T t λi hi ak=>
 hi.2 ((Inv.ahead cn h.nR aK iS hi.1 az ak).mem h.r4 bD)
def DY{x:cF}{t:Nat}(h:dst≠some t):put dst x F t=F t:=by
 cases dst with
 |none=>rfl| some d=>have:t≠d:=λe=>h (by rw[e]);simp only[put,e5,fv this,aY]
def put_eq{x:cF}{t:Nat}:put (some t) x F t=x:=by simp[put,e5]
def DZ{t:Nat}(h:dst≠some t):(a.put dst v).tmps.getD t undef=a.tmps.getD t undef:=by
 cases dst with
 |none=>rfl| some d=>have:d≠t:=λe=>h (by rw[e]);simp only[Act.put,l8,yB,b7 this]
def Hx{t:Nat}(h:t<a.tmps.size):(a.put (some t) v).tmps.getD t undef=v:=by rw[Mo a t t v h,cv rfl]
def Inv.record(cn:r3 ops)(h:Inv X ops gJ L β a w F C I M p bL fx eV)(aK:ops[q]?=some o)(iS:p.testBit q=false)(vf:∀ e,j' ops q e->p.testBit e=true)(D1:yS o.op=true)
  {iR:Fr} (pR:∀ t,pQ (F t) (iR t)) {x:cF} {Hy:List (Nat×Nat)} (qK:∀ s∈bL,s∈Hy) (ao:(vh ops o iR/\bR X o.op (cB iR) C I (r1 (gJ q) M) (λy=>y=x) False/\∀ t y,o.op=.load t y->(q,DT (cB iR y))∈Hy)\/(DW ops o iR/\x=.val undef)) :
  Inv X ops gJ L β a w (put o.dst x iR) C I M (p ||| 2^q) Hy (λi=>if i=q then x else fx i) (λi=>if i=q then iR else eV i):=by
 have nS:¬ L q:=λe=>by have:=h.sub q e;rw[iS]at this;cases this
 have mS:∀ {i},iE L (p ||| 2^q) i->i≠q->iE L p i:=λhi bl=>⟨(kc.1 hi.1).resolve_right bl,hi.2⟩;have tB:∀ {i},iE L p i->iE L (p ||| 2^q) i:=λhi=>⟨kc.2 (.inl hi.1),hi.2⟩;have Vx:iE L (p ||| 2^q) q:=⟨kc.2 (.inr rfl),nS⟩;have Vy:∀ {i},iE L p i->¬ me ops q i:=fun {i} hi ag=>by have:=ag.mem h.nR (λe he=>h.nR i e hi.1 he);rw[iS]at this;cases this
 refine⟨h.rel,λi hi=>kc.2 (.inl (h.sub i hi)),h.r4,?_,?_,?_⟩
 ·intro j e ar he;rcases kc.1 ar with ar | rfl
  ·exact kc.2 (.inl (h.nR j e ar he))
  ·exact kc.2 (.inl (vf e he))
 ·intro t az;have aa:o.dst≠some t:=λe=>az q Vx (by rw[AX aK,e]);rw[DY aa];exact pR t _ _ (h.T t λi hi=>az i (tB hi))
 ·intro i hi;by_cases mf:i=q
  ·subst mf;refine⟨o,aK,⟨D1,?_,?_,?_,?_⟩⟩
   ·intro d ak;rw[ak,put_eq];simp only[cv];exact .refl _
   ·intro t az j ar ag r5;have D2:j≠i:=λe=>by subst e;have:=ag.mem h.nR vf;rw[iS]at this;cases this
    simp only[b7 D2,cv];obtain⟨j9,Vz,oM⟩:=h.vi j (mS ar D2);exact(oM.fG t (by rw[<-AX Vz];exact r5)).trans (pR t)
   ·intro t az ef;simp only[cv];refine pR t _ _ (h.T t λj ar r5=>ef j (tB ar) (Inv.ahead cn h.nR aK iS ar.1 az r5) r5)
   ·simpa using ao
  ·obtain⟨eO,gf,oM⟩:=h.vi i (mS hi mf);refine⟨eO,gf,⟨oM.quiet,?_,?_,?_,?_⟩⟩
   ·intro d ak;simp only[b7 mf];rw[DY (cn.Hu i q eO o d mf gf aK ak)];exact(oM.fG d ak).trans (pR d)
   ·intro t az j ar ag r5;have AZ:j≠q:=λe=>by subst e;exact Vy (mS hi mf) ag
    simp only[b7 mf,b7 AZ];exact oM.b t az j (mS ar AZ) ag r5
   ·intro t az ef;simp only[b7 mf];exact oM.a t az λj ar=>ef j (tB ar)
   ·simp only[b7 mf];exact oM.r.imp (λ⟨aa,ab,ai⟩=>⟨aa,ab,λt x ax=>qK _ (ai t x ax)⟩) id
def Inv.exec{vc:Act->World->Prop}(aI:cj X.P X.E)(cn:r3 ops)(eG:∀ d,o.dst=some d->d<X.n)(h:Inv X ops gJ L β a w F C I M p bL fx eV)(aK:ops[q]?=some o)(aH:iE L p q)(bD:∀ e,j' ops q e->L e)
  (dB:∀ bw,Inv X ops gJ (λi=>L i\/i=q) β bw w F C I M p bL fx eV->vc bw w):wpOpIn (fb X) 0 X.P ops.toArray Q q vc a w:=by
 obtain⟨o',k1,oM⟩:=h.vi q aH;rw[aK]at k1;cases k1;have yU:∀ {i},me ops i q->¬ iE L p i:=λag hi=>hi.2 (ag.mem h.r4 bD);have ha:∀ t∈looks ops o,dD β (eV q t) (a.tmps.getD t undef):=λt az=>oM.a t az λi hi ag=>(yU ag hi).elim;have after:∀ v,dD β (fx q) v->Inv X ops gJ (λi=>L i\/i=q) β (a.put o.dst v) w F C I M p bL fx eV:=λv ah=>by
  have mS:∀ {i},iE (λi=>L i\/i=q) p i->iE L p i/\i≠q:=λhi=>⟨⟨hi.1,λe=>hi.2 (.inl e)⟩,λe=>hi.2 (.inr e)⟩;have tB:∀ {i},iE L p i->i≠q->iE (λi=>L i\/i=q) p i:=λhi bl=>⟨hi.1,λe=>e.elim hi.2 bl⟩;refine⟨h.rel.put eG (x:=.kv) trivial |> λh=>h.refine λ_=>trivial,?_,?_,h.nR,?_,?_⟩
  ·rintro i (hi | rfl)
   ·exact h.sub i hi
   ·exact aH.1
  ·rintro j e (ar | rfl) he
   ·exact .inl (h.r4 j e ar he)
   ·exact .inl (bD e he)
  ·intro t az;by_cases ak:o.dst=some t
   ·have aU:t<a.tmps.size:=by rw[h.rel.size];exact eG t ak
    rw[ak,Hx aU];exact oM.fG t ak _ _ ah
   ·rw[DZ ak];refine h.T t λi hi mR=>?_;by_cases mf:i=q
    ·subst mf;rw[AX aK]at mR;exact ak mR
    ·exact az i (tB hi mf) mR
  ·intro i hi;obtain⟨c6,mf⟩:=mS hi;obtain⟨eO,gf,pS⟩:=h.vi i c6;refine⟨eO,gf,⟨pS.quiet,pS.fG,λt az j ar=>pS.b t az j (mS ar).1,?_,pS.r⟩⟩;intro t az ef;by_cases ak:o.dst=some t
   ·have aU:t<a.tmps.size:=by rw[h.rel.size];exact eG t ak
    rw[ak,Hx aU];have ag:me ops q i:=by
     rcases cn.ord q i o eO t (pD mf) aK gf ak az with ag | ag;·exact ag
     ·exact(yU ag c6).elim
    exact pS.b t az q aH ag (by rw[AX aK,ak]) _ _ ah
   ·rw[DZ ak];refine pS.a t az λj ar ag r5=>?_;by_cases AZ:j=q
    ·subst AZ;rw[AX aK]at r5;exact ak r5
    ·exact ef j (tB ar AZ) ag r5
 have A0:ops.toArray[q]?=some o:=by simpa using aK
 unfold wpOpIn;simp only[A0];rcases oM.r with⟨eu,VA,-⟩ | ⟨A1,ae⟩
 ·rw[M8 eu ha,cv rfl];let G:Fr:=λt=>if t∈looks ops o then eV q t else .kv
  have ka:∀ t,dD β (G t) (a.tmps.getD t undef):=λt=>by
   by_cases az:t∈looks ops o;·simp only[G,cv az];exact ha t az
   ·simp only[G,b7 az];trivial
  have Hz:∀ y∈o.op.operands,cB G y=cB (eV q) y:=λy aL=>by
   cases y with
   |tmp t=>simp only[cB,G,cv (Hw aL)]| const v=>cases v<;>rfl
   |global g=>rfl| func f=>rfl
  have VB:=M2 VA Hz (C':=C) (I':=I) (M':=M) λ_ _ _=>⟨λ_ _ _=>rfl,λ_ _ _ h=>Vh h⟩;obtain⟨dst,op,ty,pos,VC,guard⟩:=o;have b3:∀ c,op≠.defer c:=λc e=>by have:=oM.quiet;rw[e]at this;cases this
  rcases MH aI (h.rel.refine ka) op ty dst pos VC guard VB with aa | ⟨v,x,mT,ae,rfl⟩;·exact aa.elim
  ·exact g9 b3 mT (dB _ (after v ae))
 ·rw[M9 A1 ha];simp only[iL,jz];exact⟨λ_ _=>trivial,dB _ (after undef (by rw[ae];rfl))⟩
end
section
variable{X:b'}{ops:List Oper}{gJ:Nat->Bool}{L:Nat->Prop}{β:Nat->Nat}{a:Act}{w:World}{F:Fr}{C:cG}{I:aN}{M:List aC}{p:Nat}{bL:List (Nat×Nat)}{fx:Nat->cF}{eV:Nat->Fr}{q:Nat}{o:Oper}
def Inv.refine(h:Inv X ops gJ L β a w F C I M p bL fx eV){iR:Fr}(pR:∀ t,pQ (F t) (iR t)):Inv X ops gJ L β a w iR C I M p bL fx eV:=
 ⟨h.rel,h.sub,h.r4,h.nR,λt az=>pR t _ _ (h.T t az),λi hi=>by
  obtain⟨eO,gf,aH⟩:=h.vi i hi;exact⟨eO,gf,⟨aH.quiet,λd ak=>(aH.fG d ak).trans (pR d),aH.b,aH.a,aH.r⟩⟩⟩
def Inv.step(cn:r3 ops)(eG:∀ d,o.dst=some d->d<X.n)(h:Inv X ops gJ L β a w F C I M p bL fx eV)(aK:ops[q]?=some o)(iS:p.testBit q=false)(bD:∀ e,j' ops q e->L e)
 {x:cF} {C':cG} {I':aN} {M':List aC} (ae:dD β x v) (ao:bY X β a w' (λ_=>.kv) C' I' M')
  (hm:∀ i eO dW,iE L p i->ops[i]?=some eO->mP eO.op=true->(i,dW)∈bL->(∀ s,dW=s+1->C' s=C s)/\(dW=0->∀ b o,gE I (r1 (gJ i) M) b o->gE I' (r1 (gJ i) M') b o)) :
  Inv X ops gJ (λi=>L i\/i=q) β (a.put o.dst v) w' (put o.dst x F) C' I' M' (p ||| 2^q) bL fx eV:=by
 have mS:∀ {i},iE (λi=>L i\/i=q) (p ||| 2^q) i->iE L p i:=λhi=>⟨(kc.1 hi.1).resolve_right (λe=>hi.2 (.inr e)),λe=>hi.2 (.inl e)⟩;have tB:∀ {i},iE L p i->iE (λi=>L i\/i=q) (p ||| 2^q) i:=fun {i} hi=>⟨kc.2 (.inl hi.1),λe=>e.elim hi.2 (λe=>by
  subst e;have:=hi.1;rw[iS]at this;cases this)⟩
 refine⟨ao.put eG (x:=.kv) trivial |> λh=>h.refine λ_=>trivial,?_,?_,?_,?_,?_⟩
 ·rintro i (hi | rfl)
  ·exact kc.2 (.inl (h.sub i hi))
  ·exact kc.2 (.inr rfl)
 ·rintro j e (ar | rfl) he
  ·exact .inl (h.r4 j e ar he)
  ·exact .inl (bD e he)
 ·intro j e ar he;rcases kc.1 ar with ar | rfl
  ·exact kc.2 (.inl (h.nR j e ar he))
  ·exact kc.2 (.inl (h.sub e (bD e he)))
 ·intro t az;by_cases ak:o.dst=some t
  ·have aU:t<a.tmps.size:=by rw[h.rel.size];exact eG t ak
   rw[ak,Hx aU,put_eq];exact ae
  ·rw[DZ ak,DY ak];exact h.T t λi hi=>az i (tB hi)
 ·intro i hi;have c6:=mS hi;obtain⟨eO,gf,pS⟩:=h.vi i c6;have mf:i≠q:=λe=>by subst e;have:=c6.1;rw[iS]at this;cases this
  refine⟨eO,gf,⟨pS.quiet,?_,λt az j ar=>pS.b t az j (mS ar),?_,?_⟩⟩;·intro d ak;rw[DY (cn.Hu i q eO o d mf gf aK ak)];exact pS.fG d ak
  ·intro t az ef;have ak:o.dst≠some t:=λak=>by
    rcases cn.ord q i o eO t (pD mf) aK gf ak az with ag | ag;·have:=ag.mem h.nR (λe he=>h.nR i e c6.1 he);rw[iS]at this;cases this
    ·exact c6.2 (ag.mem h.r4 bD)
   rw[DZ ak];exact pS.a t az λj ar=>ef j (tB ar)
  ·refine pS.r.imp (λ⟨aa,ab,ai⟩=>⟨aa,M2 ab (λ_ _=>rfl) λt x ay=>?_,ai⟩) id;have aQ:=ai t x ay;have bp:=hm i eO _ c6 gf (by rw[ay];rfl) aQ;refine⟨λs off e=>?_,λbl=>bp.2 ?_⟩
   ·exact bp.1 s (by rw[e];rfl)
   ·generalize cB (eV i) x=VD at bl;cases VD with
    |ref s off=>exact(bl s off rfl).elim| _=>rfl
def w1(X:b')(ops:List Oper)(gJ:Nat->Bool)(K:eF)(L:Nat->Prop)(a:Act)(w:World):Prop:=
 ∃ β F C I M p bL fx eV n,Inv X ops gJ L β a w F C I M p bL fx eV/\oL X ops gJ n p bL F C I M K
def A2{k:Bool}{i:Nat}:i∈mQ ops p k ↔ ∃ o,ops[i]?=some o/\p.testBit i=false/\yS o.op=k/\(∀ e,j' ops i e->p.testBit e=true):=by
 unfold mQ;rw[Au,l9];have A3:∀ {o},ops[i]?=some o->(AT o p=true ↔ ∀ e,j' ops i e->p.testBit e=true):=fun {o} an=>by
  unfold AT;rw[gR];constructor;·rintro h e⟨o',ky,k1,nQ,ag,rfl⟩;rw[an]at k1;cases k1;have:=h ky (by simpa using nQ);rw[ag]at this;simpa using this
  ·intro h ky nQ;cases ag:Region.binds .any ky with
   |false=>simp| true=>simp[h ky.on ⟨o,ky,an,by simpa using nQ,ag,rfl⟩]
 constructor
 ·rintro⟨aU,h⟩;cases an:ops[i]? with
  |none=>rw[an]at h;cases h| some o=>rw[an]at h;simp only[bG,mK,beq_iff_eq]at h;exact⟨o,rfl,h.1,h.2.1,(A3 an).1 h.2.2⟩
 ·rintro⟨o,an,aa,ab,ai⟩;refine⟨(h3.1 an).1,?_⟩;rw[an];simp only[aa,ab,(A3 an).2 ai,Aw,As,Bool.and_self]
def Nc{P:Nat->Prop}:∀ {l:List Nat},Hq P l->∀ i∈l,P i
 |[],_,i,hi=>by cases hi
 |[j],h,i,hi=>by rw[iM]at hi;subst hi;exact h
 |j::k::l,h,i,hi=>by
  rcases dv.1 hi with rfl | hi;·exact h.1
  ·exact Nc (l:=k::l) h.2 i hi
def VE(i:Nat)(op:Op)(ρ:Operand->cF)(bL:List (Nat×Nat)):∀ s∈bL,s∈AV i op ρ bL:=λs aq=>by
 unfold AV;split
 ·exact .tail _ aq
 ·exact aq
def VF{i:Nat}{ρ:Operand->cF}{bL:List (Nat×Nat)}:∀ t x,op=.load t x->(i,DT (ρ x))∈AV i op ρ bL:=λt x ax=>by subst ax;unfold AV;exact .head _
def w1.advance(cn:r3 ops){K:eF}:∀ (n:Nat) {p bL F fx eV},Inv X ops gJ L β a w F C I M p bL fx eV->oL X ops gJ n p bL F C I M K -> ∃ p bL F fx eV n,Inv X ops gJ L β a w F C I M p bL fx eV/\mQ ops p true=[]/\oL X ops gJ (n+1) p bL F C I M K
 |0,_,_,_,_,_,_,ah=>ah.elim
 |n+1,p,bL,F,fx,eV,a',ah=>by
  cases ao:mQ ops p true with
  |nil=>exact⟨p,bL,F,fx,eV,n,a',ao,ah⟩
  |cons q l=>
   have gq:q∈mQ ops p true:=by rw[ao];simp
   obtain⟨o,aK,iS,D1,vf⟩:=A2.1 gq;have j5:=ah;unfold oL at j5;rw[ao]at j5;simp only[aK]at j5;obtain⟨iR,pR,⟨eu,aa⟩ | ⟨A1,aa⟩⟩:=Na j5;·obtain⟨x,ab,ai⟩:=Vn (Vj aa);exact w1.advance cn n (a'.record cn aK iS vf D1 pR (VE _ _ _ _) (.inl ⟨eu,ai,VF⟩)) ab
   ·exact w1.advance cn n (a'.record cn aK iS vf D1 pR (λ_ h=>h) (.inr ⟨A1,rfl⟩)) aa
def mem_ready{i:Nat}(cc:listed.size=ops.length):i∈Region.ready .any ops.toArray listed ↔ ∃ o,ops[i]?=some o/\¬ listed.getD i false=true/\∀ e,j' ops i e->listed.getD e false=true:=by
 unfold Region.ready;rw[Au,l9];simp only[qA,wG,bG,mK];have A3:∀ {o},ops[i]?=some o->((o.after.all λe=>!Region.binds .any e||listed.getD e.on false)=true ↔ ∀ e,j' ops i e->listed.getD e false=true):=fun {o} an=>by
  rw[Array.all_eq_true_iff_forall_mem];constructor;·rintro h e⟨o',ky,k1,nQ,ag,rfl⟩;rw[an]at k1;cases k1;have:=h ky nQ;rw[ag]at this;simpa using this
  ·intro h ky nQ;cases ag:Region.binds .any ky with
   |false=>simp| true=>simp[h ky.on ⟨o,ky,an,nQ,ag,rfl⟩]
 have Nd:i<ops.length->(listed.getD i true=false ↔ ¬ listed.getD i false=true):=λhi=>by
  have:i<listed.size:=by omega
  simp[Array.getD,this]
 constructor
 ·rintro⟨aU,aa,ab⟩;cases an:ops[i]? with
  |none=>rw[an]at ab;cases ab| some o=>rw[an]at ab;exact⟨o,rfl,(Nd aU).1 aa,(A3 an).1 ab⟩
 ·rintro⟨o,an,aa,ab⟩;have aU:=(h3.1 an).1;refine⟨aU,(Nd aU).2 aa,?_⟩;rw[an];exact(A3 an).2 ab
def Nf{i:Nat}(hi:i<listed.size):(λj=>(listed.setIfInBounds i true).getD j false=true)=λj=>listed.getD j false=true\/j=i:=by
 funext j;simp only[l8,yB,eq_iff_iff];by_cases e:i=j
 ·subst e;simp[hi]
 ·simp only[b7 e];constructor
  ·exact .inl
  ·rintro(h | h)
   ·exact h
   ·exact(e h.symm).elim
def todo(ops:List Oper)(listed:Array Bool):Nat:=((List.range ops.length).filter λi=>!listed.getD i false).length
def D3{i:Nat}(hi:i<ops.length)(cc:listed.size=ops.length)(aw:¬ listed.getD i false=true):todo ops (listed.setIfInBounds i true)<todo ops listed:=by
 unfold todo;have key:∀ l:List Nat,l.Nodup->i∈l->((l.filter λj=>!(listed.setIfInBounds i true).getD j false).length<(l.filter λj=>!listed.getD j false).length):=by
  have same:∀ j,j≠i->(listed.setIfInBounds i true).getD j false=listed.getD j false:=λj ar=>by simp only[l8,yB,b7 (pD ar)]
  have self:(listed.setIfInBounds i true).getD i false=true:=by
   have:i<listed.size:=by omega
   simp[l8,yB,this]
  have D4:listed.getD i false=false:=by simpa using aw
  intro l
  induction l with
  |nil=>intro _ h;cases h
  |cons j l a8=>
   intro b3 hm;rw[kW]at b3;by_cases e:j=i
   ·subst e;have:l.filter (λk=>!(listed.setIfInBounds j true).getD k false)=l.filter (λk=>!listed.getD k false):=
     List.filter_congr λk af=>by rw[same k (λe=>b3.1 (e ▸ af))]
    simp only[Dv,self,D4,this];simp
   ·have oN:i∈l:=by
     rcases dv.1 hm with h | h;·exact(e h.symm).elim
     ·exact h
    have:=a8 b3.2 oN;simp only[Dv,same j e];split;·simp only[du];omega
    ·exact this
 exact key _ List.nodup_range (l9.2 hi)
def VG(aI:cj X.P X.E)(cn:r3 ops)(eG:∀ o∈ops,∀ d,o.dst=some d->d<X.n){K:eF}(qI:∀ a w,Sat X K a w->Q .normal a w):∀ (fuel:Nat) (listed:Array Bool) (a:Act) (w:World),
  listed.size=ops.length->todo ops listed<=fuel->w1 X ops gJ K (λi=>listed.getD i false=true) a w->wpAnyIn (fb X) 0 X.P .any ops.toArray Q fuel listed a w:=by
 intro fuel
 induction fuel with
 |zero=>
  rintro listed a w cc aD⟨β,F,C,I,M,p,bL,fx,eV,n,a',ah⟩;have lC:Region.ready .any ops.toArray listed=[]:=by
   cases ao:Region.ready .any ops.toArray listed with
   |nil=>rfl| cons i l=>obtain⟨o,an,aw,_⟩:=(mem_ready cc).1 (by rw[ao];simp:i∈Region.ready .any ops.toArray listed);have:=D3 (h3.1 an).1 cc aw;omega
  refine⟨lC,?_⟩;obtain⟨p,bL,F,fx,eV,n,a',h9,ah⟩:=w1.advance cn n a' ah;have A4:∀ i,p.testBit i=true->listed.getD i false=true:=λi=>by
   induction i using Nat.strongRecOn with
   |ind i a8=>intro aH;refine yC λaw=>?_;obtain⟨o,an,_⟩:=a'.vi i ⟨aH,aw⟩;have:i∈Region.ready .any ops.toArray listed:=(mem_ready cc).2 ⟨o,an,aw,λe he=>a8 e (cn.lt i e he) (a'.nR i e aH he)⟩;rw[lC]at this;cases this
  have tC:mQ ops p false=[]:=by
   cases ao:mQ ops p false with
   |nil=>rfl| cons i l=>obtain⟨o,an,aH,_,ak⟩:=A2.1 (by rw[ao];simp:i∈mQ ops p false);have:i∈Region.ready .any ops.toArray listed:=(mem_ready cc).2 ⟨o,an,λa4=>(by have dP:=a'.sub i a4;rw[aH]at dP;exact Bool.noConfusion dP),λe he=>A4 e (ak e he)⟩;rw[lC]at this;cases this
  unfold oL at ah;rw[h9,tC]at ah;exact qI _ _ ⟨F,C,I,M,⟨β,a'.rel.refine λt=>a'.T t λi hi=>(hi.2 (A4 i hi.1)).elim⟩,ah⟩
 |succ fuel a8=>
  rintro listed a w cc aD⟨β,F,C,I,M,p,bL,fx,eV,n,a',ah⟩;obtain⟨p,bL,F,fx,eV,n,a',h9,ah⟩:=w1.advance cn n a' ah;refine⟨λlC=>?_,λq aK=>?_⟩
  ·have A4:∀ i,p.testBit i=true->listed.getD i false=true:=λi=>by
    induction i using Nat.strongRecOn with
    |ind i a8=>intro aH;refine yC λaw=>?_;obtain⟨o,an,_⟩:=a'.vi i ⟨aH,aw⟩;have:i∈Region.ready .any ops.toArray listed:=(mem_ready cc).2 ⟨o,an,aw,λe he=>a8 e (cn.lt i e he) (a'.nR i e aH he)⟩;rw[lC]at this;cases this
   have tC:mQ ops p false=[]:=by
    cases ao:mQ ops p false with
    |nil=>rfl| cons i l=>obtain⟨o,an,aH,_,ak⟩:=A2.1 (by rw[ao];simp:i∈mQ ops p false);have:i∈Region.ready .any ops.toArray listed:=(mem_ready cc).2 ⟨o,an,λa4=>(by have dP:=a'.sub i a4;rw[aH]at dP;exact Bool.noConfusion dP),λe he=>A4 e (ak e he)⟩;rw[lC]at this;cases this
   unfold oL at ah;rw[h9,tC]at ah;exact qI _ _ ⟨F,C,I,M,⟨β,a'.rel.refine λt=>a'.T t λi hi=>(hi.2 (A4 i hi.1)).elim⟩,ah⟩
  ·obtain⟨o,an,aw,ak⟩:=(mem_ready cc).1 aK;have aU:=(h3.1 an).1;have nT:=eG o (wH an);have jH:=Nf (listed:=listed) (i:=q) (by omega);have next:∀ bw w',w1 X ops gJ K (λi=>listed.getD i false=true\/i=q) bw w'->wpAnyIn (fb X) 0 X.P .any ops.toArray Q fuel (listed.setIfInBounds q true) bw w':=λbw w' h=>by refine a8 _ bw w' (by simpa using cc) ?_ (by rw[jH];exact h);have:=D3 aU cc aw;omega
   cases iS:p.testBit q with
   |true=>
    exact a'.exec aI cn nT an ⟨iS,aw⟩ ak λbw h=>next bw w ⟨β,F,C,I,M,p,bL,fx,eV,n+1,h,ah⟩
   |false=>
    have HA:∀ e,j' ops q e->p.testBit e=true:=λe he=>a'.sub e (ak e he);have VH:yS o.op=false:=by
     cases VI:yS o.op with
     |false=>rfl| true=>have:q∈mQ ops p true:=A2.2 ⟨o,an,iS,VI,HA⟩;rw[h9]at this;cases this
    have gq:q∈mQ ops p false:=A2.2 ⟨o,an,iS,VH,HA⟩;unfold oL at ah;rw[h9]at ah;simp only at ah;split at ah;·rename_i tC;rw[tC]at gq;cases gq
    ·rename_i i0 eN tC;rw[tC]at gq;have ag:=Nc ah q gq;simp only[an]at ag;obtain⟨iR,pR,ag⟩:=Na ag;have cJ:=a'.refine pR;have tD:=cJ.Vw cn an iS ak;have A0:ops.toArray[q]?=some o:=by simpa using an
     unfold wpOpIn;simp only[A0];rcases ag with⟨eu,ag⟩ | ⟨A1,ag⟩
     ·rw[M8 eu tD,cv rfl];cases HB:MR ((iQ ops).getD q 0) p with
      |true=>
       rw[HB]at ag;simp only[r0,aZ]at ag;have gg:∀ i,p.testBit i=true->listed.getD i false=true:=λi hi=>by
        have aa:=bV HB;have ab:(p &&& (iQ ops).getD q 0).testBit i=true:=by rw[aa];exact hi
        rw[Nat.testBit_and,bG]at ab;exact(vg ab.2).mem a'.r4 ak
       have aX:Rel X a w iR C I M:=⟨β,cJ.rel.refine λt=>cJ.T t λi hi=>(hi.2 (gg i hi.1)).elim⟩;refine pz (λbw w'=>?_) (yN aI nT aX ag);rintro⟨de,C',I',M',⟨ly,fw⟩,af⟩;have VJ:∀ i,¬ iE (λi=>listed.getD i false=true\/i=q) (p ||| 2^q) i:=λi hi=>by
        rcases kc.1 hi.1 with aa | aa;·exact hi.2 (.inl (gg i aa))
        ·exact hi.2 (.inr aa)
       refine next bw w' ⟨ly,de,C',I',M',p ||| 2^q,bL,fx,eV,n,⟨fw.refine λ_=>trivial,?_,?_,?_,λt _=>fw.aj t,λi hi=>(VJ i hi).elim⟩,af⟩
       ·rintro i (hi | rfl)
        ·exact kc.2 (.inl (a'.sub i hi))
        ·exact kc.2 (.inr rfl)
       ·rintro j e (ar | rfl) he
        ·exact .inl (a'.r4 j e ar he)
        ·exact .inl (ak e he)
       ·intro j e ar he;rcases kc.1 ar with ar | rfl
        ·exact kc.2 (.inl (a'.nR j e ar he))
        ·exact kc.2 (.inl (HA e he))
      |false=>
       rw[HB]at ag;let G:Fr:=λt=>if t∈looks ops o then iR t else .kv
       have ka:∀ t,dD β (G t) (a.tmps.getD t undef):=λt=>by
        by_cases az:t∈looks ops o;·simp only[G,cv az];exact tD t az
        ·simp only[G,b7 az];trivial
       have Hz:∀ y∈o.op.operands,cB G y=cB iR y:=λy aL=>by
        cases y with
        |tmp t=>simp only[cB,G,cv (Hw aL)]| const v=>cases v<;>rfl
        |global g=>rfl| func f=>rfl
       refine pz (λbw w'=>?_) (Vq aI (cJ.rel.refine ka) Hz ag);rintro⟨v,x,C',I',M',rfl,ae,fw,af,hm⟩;refine next _ _ ⟨β,_,C',I',M',p ||| 2^q,bL,fx,eV,n,cJ.step cn nT an iS ak ae (fw.refine λ_=>trivial) ?_,af⟩
       rcases hm with⟨DR,tE⟩ | ⟨rfl,hle,dK⟩
       rotate_left
       ·exact λ_ _ _ _ _ _ _=>⟨λ_ _=>rfl,λ_=>MV dK hle⟩
       have yU:∀ {i},iE (λi=>listed.getD i false=true) p i->((iQ ops).getD q 0).testBit i=true->False:=λhi ag=>hi.2 ((vg ag).mem a'.r4 ak);intro i eO dW hi gf dJ gq;have ef:∀ {s:Nat},yT ((iQ ops).getD q 0) s bL=true->dW≠s:=fun {s} h e=>by
        rcases MS h gq with aa | aa;·exact yU hi aa
        ·exact aa e
       rcases(ku _ _).mp DR with VK | VL
       ·have aa:=gR.1 VK i (l9.2 (h3.1 gf).1);rw[hi.1,gf]at aa;simp only[pB,uZ,ku,mK]at aa;rcases aa with aa | aa
        ·exact(yU hi aa).elim
        ·rw[aa]at dJ;cases dJ
       rcases(ku _ _).mp VL with yV | vj
       ·unfold MU at yV;split at yV
        ·rename_i t0 r6 Ng bT;split at yV
         ·rename_i fT afL ax;obtain⟨⟨dr,fy⟩,c4⟩:=tE.1 _ _ _ _ _ bT ax;exact⟨λb0 e=>dr b0 (λaA=>ef yV (by rw[e,aA])),λ_=>MV c4 fy⟩
         ·cases yV
        ·cases yV
       rcases(ku _ _).mp vj with vj | tF
       ·unfold MT at vj;split at vj
        ·rename_i t0 r6 Ng bT;split at vj
         ·rename_i VM ax;exact⟨λ_ _=>by rw[(tE.2.1 _ _ _ _ bT ax).1],λe=>(ef vj e).elim⟩
         ·cases vj
        ·cases vj
       unfold MY at tF;rw[bG]at tF;obtain⟨VN,tF⟩:=tF;have VO:gJ i=true:=by
        have aa:=gR.1 VN i (l9.2 (h3.1 gf).1);rw[hi.1,gf]at aa;simp only[pB,uZ,ku,mK]at aa;rcases aa with aa | aa | aa;·exact(yU hi aa).elim
        ·exact aa
        ·rw[aa]at dJ;cases dJ
       have hle:C'=C/\∀ b o,I b=some o->I' b=some o:=by
        unfold MX at tF;split at tF
        ·rename_i t0 r6 Ng bT;split at tF
         ·rename_i VM ax;exact tE.2.1 _ _ _ _ bT ax
         ·cases tF
        ·rename_i bT;exact tE.2.2 (λt x y e=>by rw[bT]at e;cases e)
        ·rename_i bT;exact tE.2.2 (λt x y e=>by rw[bT]at e;cases e)
        ·cases tF
       exact⟨λ_ _=>by rw[hle.1],λ_=>by rw[VO];exact Vi hle.2⟩
     ·rw[M9 A1 tD];simp only[iL,jz];refine⟨λ_ _=>trivial,next _ _ ⟨β,_,C,I,M,p ||| 2^q,bL,fx,eV,n,cJ.step cn nT an iS ak (x:=.val undef) rfl cJ.rel (λ_ _ _ _ _ _ _=>⟨λ_ _=>rfl,λ_ _ _ h=>h⟩),ag⟩⟩
end
def cX.VP{X:b'}{id:Nat}{F:Fr}{C:cG}{I:aN}{M:List aC}{K:jD}(aI:cj X.P X.E)(hm:X.P.follows .mixedOrders=true)(aF:DU A.toList=true)(aw:yP X.n A=true)
  {gJ:Nat->Bool} (h:oL X A.toList gJ (A.size+1) 0 [] F C I M (K .normal)):cX X (.region id A true) F C I M K:=by
 refine⟨λa w ⟨β,aX⟩=>wpIn_region_any hm ?_⟩;have r7:bY X β a { w with drawn:=w.drawn+1 } F C I M:=aX.world rfl;have cI:∀ i,(Array.replicate A.size false).getD i false=false:=λi=>by
  by_cases hi:i<A.size<;>simp[l8,hi]
 have vk:∀ {i},¬ (Array.replicate A.size false).getD i false=true:=fun {i}=>by rw[cI];simp
 have key:=VG (K:=K .normal) (Q:=j7 X K) aI (M7 aF) (DK aw) (λ_ _ h=>h) A.size (Array.replicate A.size false) a { w with drawn:=w.drawn+1 } (by simp) ?_ ⟨β,F,C,I,M,0,[],λ_=>.kv,λ_ _=>.kv,A.size+1,⟨r7.refine λ_=>trivial,λi hi=>(vk hi).elim,λj e ar=>(vk ar).elim,λj e ar=>by simp at ar,λt _=>r7.aj t,λi hi=>by simp[iE]at hi⟩,h⟩
 ·simpa using key
 ·unfold todo;refine jy (Dr _ _) (by simp)
def cX.draw{X:b'}{id:Nat}{F:Fr}{C:cG}{I:aN}{M:List aC}{K:jD}(aI:cj X.P X.E)(hm:X.P.follows .mixedOrders=true)(aF:DU A.toList=true)(aw:yP X.n A=true)(h:oL X A.toList (λ_=>false) (A.size+1) 0 [] F C I M (K .normal)):cX X (.region id A true) F C I M K:=.VP aI hm aF aw h
end Go.V
