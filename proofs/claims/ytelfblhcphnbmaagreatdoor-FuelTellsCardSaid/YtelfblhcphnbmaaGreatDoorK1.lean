/- Part 1 of what the proofs of this seat share: the executor, data in memory, walks.
-/
import Derived.WalkKit
import Derived.RangeFuncRecord
import Derived.OrdersIn
import Derived.Lib.UnsafeStr
set_option linter.all false
namespace Go.V
open Go
def bB:=@Nat.le_of_ble_eq_true
def cQ:=@List.getD_eq_getElem?_getD
def bx:=@Result.andThen_ok
def cC:=@Nat.eq_of_beq_eq_true
def bL:=@Bool.and_eq_true
def a5:=@cond_false
def cr:=@of_decide_eq_true
def dS:=@List.drop_eq_getElem_cons
def ba:=@cond_true
def bM:=@Sem.run_bind
def c5:=@List.length_cons
def g9:=@List.take_succ_eq_append_getElem
def b6:=@Nat.le_refl
def cy:=@Sem.run_pure
def dA:=@List.map_cons
def dE:=@List.mem_cons
def en:=@List.mem_append
def du:=@List.mem_map
def ft:=@decide_eq_true_eq
def ij:=@List.getElem?_eq_some_iff
def kg:=@Array.getElem?_eq_some_iff
def gq:=@List.all_eq_true
def gg:=@List.map_append
def kJ:=@List.getElem?_append_left
def m6:=@Array.getD_eq_getD_getElem?
def lf:=@World.putObj_heap_other
def iP:=@Bool.false_eq_true
def jA:=@Int.toNat_natCast
def kh:=@List.mem_singleton
def iZ:=@Option.getD_some
def kK:=@List.getElem?_take
def ki:=@Option.some.injEq
def fV:=@Array.ext'
def jY:=@Bool.or_eq_true
def kj:=@Option.map_some
def kk:=@List.mem_range
def lg:=@List.nodup_cons
def dc:=@if_neg
def n4:=@Bool.not_eq_true'
def jB:=@Nat.le_trans
def qP:=@Nat.mul_le_mul_right
def dv:=@if_pos
def oY:=@List.size_toArray
def pX:=@List.getElem?_drop
def sU:=@Option.map_eq_some_iff
def n5:=@Bool.eq_iff_iff
def lR:=@Bool.not_true
def mm:=@Nat.add_assoc
def z4:=@Array.getElem?_setIfInBounds
def rK:=@Option.getD_none
def oZ:=@ByteArray.ext
def vQ:=@List.mem_of_getElem?
def qQ:=@Oper.wpIn_mono
def z5:=@Classical.byContradiction
def o0:=@Nat.add_zero
def xK:=@List.getElem?_toArray
def xL:=@List.length_filter_le
def qR:=@List.all_cons
def qS:=@Bool.false_or
def jC:=@if_false
def z6:=@ByteArray.data_extract
def B':=@Array.getElem?_eq_getElem
def z7:=@List.getElem?_eq_none
def vR:=@List.filter_cons
def xM:=@List.nodup_append
def xN:=@List.getElem?_map
def vS:=@Option.map_none
def vT:=@List.mem_filter
def FD:=@Option.ne_none_iff_exists'
def Ca:=@List.mem_append_left
def FE:=@List.getElem?_cons_succ
def Cb:=@Nat.testBit_two_pow
def z8:=@beq_self_eq_true
def xO:=@World.alloc_eq
def xP:=@List.nodup_nil
def Cc:=@Nat.lt_of_lt_of_le
def FF:=@List.mem_append_right
def Cd:=@Nat.lt_succ_self
def Ce:=@Nat.min_eq_left
def Cf:=@List.foldl_cons
def Jo:=@Option.bind_eq_some_iff
def o1:=@if_true
def FG:=@List.filter_congr
def Cg:=@List.mapM_cons
def Ch:=@Bool.not_false
def Jp:=@List.range_eq_range'
def qT:=@Ne.symm
def Jq:=@List.toList_toArray
def Jr:=@Array.foldl_toList
def Js:=@Option.isSome_none
def Pe:=@Array.mapM_eq_mapM_toList
def FH:=@Nat.testBit_or
def FI:=@Oper.semAt_eq
def FJ:=@Nat.add_comm
def Jt:=@Nat.testBit_and
variable{a:Act}{c:Code}{bP:List Nat}{P:Program}{f off T sz g' e n m dq bN cG c6 fk hz jD lh mo n6 pY rL uA xQ Ci:Nat}{args vs z:List Value}{v:Value}{w' w:World}{dst:Option Nat}{cs:Array Value}{aj:Nat×Nat}{R:Ending->World->Prop}{next:Act->World->Prop}{ad:Addr}{e9:IntKind}{other:Prop}{ops:List Oper}{Q:Exit->Act->World->Prop}{fn:Func}{soft gC:Bool}{op:Op}{listed:Array Bool}{A:Array Oper}
inductive Cj where
 |other | int (k:IntKind) | bool | string | slice (e:Nat) | array (n e:Nat) | struct (bT:List (Nat×Nat)) | map (k e:Nat) | pointer (e:Nat)
 deriving DecidableEq
def eW:TypeDesc->Cj
 | .int k=>.int k| .bool=>.bool| .string=>.string| .slice e=>.slice e| .array n e=>.array n e| .struct bT=>.struct (bT.toList.map λf=>(f.type,f.offset))| .map k e=>.map k e| .pointer e=>.pointer e| _=>.other
def Cj.agg:Cj->Bool
 | .struct _ | .array ..=>true| _=>false
structure dH where
 size:Nat
 bytes:Nat
 zero:List Value
 bz:Cj
structure iQ(P:Program)(t:Nat)(i:dH):Prop where
 inf:∃ inf z,P.info? t=some inf/\inf.size=i.size/\inf.bytes=i.bytes/\inf.zero=some z/\z.cells.toList=i.zero
 e1:∃ d,P.underlying t=some d/\eW d=i.bz
 one:∀ v∈i.zero,v.oneCell'=true
 len:i.zero.length=i.size
 FK:i.bz.agg=false->i.size=1
abbrev Env:=Nat->Option dH
def cB(P:Program)(E:Env):Prop:=∀ t i,E t=some i->iQ P t i
inductive cW where
 |val(v:Value)| lit (b:Bool)| ref (s off:Nat)| lj
abbrev Fr:=Nat->cW
abbrev c7:=Nat->Option (List Value)
abbrev aN:=Nat->Option Obj
structure aC where
 num:Nat
 obj:Obj
abbrev fG:=Fr->c7->aN->List aC->Prop
def fL(F:Fr)(d:Nat)(x:cW):Fr:=λt=>bif Nat.beq t d then x else F t
def hO(C:c7)(d:Nat)(x:Option (List Value)):c7:=λt=>bif Nat.beq t d then x else C t
def n7(F:Fr)(d:Nat):Fr:=λt=>match F t with
 | .ref s o=>bif Nat.beq s d then .lj else .ref s o| x=>x
def put(o:Option Nat)(x:cW)(F:Fr):Fr:=match o with
 |some d=>fL F d x| none=>F
def cR(F:Fr):Operand->cW
 | .tmp t=>F t| .const (.bool b)=>.lit b| .const v=>.val v| .global g=>.val (.pointer (some ⟨g,0,none⟩))| .func f=>.val (.func (.func f) #[] #[])
def dh(ρ:Operand->cW)(x:Operand):cW:=match ρ x with
 | .lit b=>.val (.bool b)| y=>y
abbrev bm(F:Fr):Operand->cW:=dh (cR F)
def pack(agg:Bool)(vs:List Value):Value:=bif agg then .agg vs.toArray else vs.headD undef
def bw(cs:List Value)(off:Nat)(vs:List Value):List Value:=cs.take off++vs++cs.drop (off+vs.length)
def gS(vs:List Value):Bool:=vs.all (·.oneCell')
def FL(c:Bool):cW->cW->cW
 | .val (.bool x),.val (.bool y)=>.val (.bool (bif c then x else y))| .val x,.val y=>.val (bif c then x else y)| _,_=>.lj
def uB(op:BinOp)(x y:Int):Option Bool:=match op with
 | .eql=>some (decide (x=y))| .neq=>some (!decide (x=y))| .lss=>some (decide (x<y))| .leq=>some (decide (x<=y))| .gtr=>some (decide (y<x))| .geq=>some (decide (y<=x))| _=>none
def rM(op:BinOp)(k:IntKind)(x y:Int):Option Int:=
 let a:=BitVec.ofInt k.bits x
 let b:=BitVec.ofInt k.bits y
 match op with
 | .and=>some (k.wrap (a &&& b).toNat)| .or=>some (k.wrap (a ||| b).toNat)| .xor=>some (k.wrap (a ^^^ b).toNat)| .andNot=>some (k.wrap (a &&& ~~~b).toNat)| _=>none
def hl(I:aN)(M:List aC)(b:Nat)(o:Obj):Prop:=I b=some o\/∃ x∈M,x.num=b/\x.obj=o
def bE(I:aN)(M:List aC)(a:Addr)(n:Nat)(vs:List Value):Prop:=
 a.spot=none/\∃ cs T aj,hl I M a.block (.cells cs T aj)/\(cs.toList.drop a.off).take n=vs/\vs.length=n
inductive aJ(I:aN)(M:List aC)(a:Addr)(n:Nat)(K:List Value->Prop):Prop
 |mk(vs:List Value)(h:bE I M a n vs)(k:K vs)
inductive cX(M:List aC)(a:Addr)(vs:List Value)(K:List aC->Prop):Prop
 |mk(pre post:List aC)(cs:Array Value)(T:Nat)(a7:M=pre++⟨a.block,.cells cs T (0,0)⟩::post)(ao:a.spot=none)(af:a.off+vs.length<=cs.size)(U:gS vs=true)(k:K (pre++⟨a.block,.cells (bw cs.toList a.off vs).toArray T (0,0)⟩::post))
inductive cz(I:aN)(M:List aC)(K:Nat->Prop):Prop
 |mk(k:∀ b,I b=none->(∀ x∈M,x.num≠b)->K b)
inductive a6(a:Option Addr)(n sz:Nat)(k:Int)(K:Addr->Prop):Prop
 |mk(ad:Addr)(j:Nat)(aD:a=some ad)(ae:k=(j:Int))(al:j<n)(h:K (ad.add (j*sz)))
inductive dT(n:Nat)(k:Int)(K:Nat->Prop):Prop
 |mk(j:Nat)(ae:k=(j:Int))(al:j<n)(h:K j)
inductive o2(s:ByteArray)(k:Int)(K:UInt8->Prop):Prop
 |mk(j:Nat)(ae:k=(j:Int))(al:j<s.size)(h:K s[j])
inductive aQ(k:IntKind)(n:Int)(K:Int->Prop):Prop
 |mk(r:Int)(h:k.wrap n=r)(a1:K r)
inductive gE(y:Int)(K:Prop):Prop
 |mk(h:y≠0)(a1:K)
inductive vU(y:Int)(K:Nat->Prop):Prop
 |mk(j:Nat)(h:y=(j:Int))(a1:K j)
inductive aI(c:Bool)(X Y:Prop):Prop
 |mk(h:c=true->X)(a1:c=false->Y)
inductive qU(l c:Int)(bytes:Nat)(K:Nat->Nat->Prop):Prop
 |mk(n m:Nat)(ay:l=(n:Int))(aA:c=(m:Int))(h:n<=m)(af:bytes*m<=140737488355328)(hm:m<=9223372036854775807)(k:K n m)
inductive i'(n c:Nat)(lo hi:Option Int)(K:Nat->Nat->Prop):Prop
 |mk(l h:Nat)(dX:lo.getD 0=(l:Int))(eX:hi.getD n=(h:Int))(U:l<=h)(aa:h<=c)(k:K l h)
structure dU(I:aN)(M:List aC)(w:World):Prop where
 i:∀ b o,I b=some o->w.heap[b]?=some o
 m:∀ x∈M,w.heap[x.num]?=some x.obj
 d:∀ x∈M,I x.num=none
 bS:(M.map (·.num)).Nodup
def mq(w w':World):Prop:=w'.os=w.os/\w'.output=w.output
def mq.refl(w:World):mq w w:=⟨rfl,rfl⟩
def mq.trans{a b c:World}(h:mq a b)(a1:mq b c):mq a c:=⟨a1.1.trans h.1,a1.2.trans h.2⟩
structure Kept(I:aN)(M:List aC)(w:World)(I':aN)(M':List aC)(w':World):Prop where
 le:∀ b o,I b=some o->I' b=some o
 sV:∀ b o,I' b=some o->I b=some o\/w.heap.size<=b
 uC:∀ x∈M',(∃ y∈M,y.num=x.num)\/w.heap.size<=x.num
 cY:∀ b,b<w.heap.size->(∀ y∈M,y.num≠b)->w'.heap[b]?=w.heap[b]?
 out:mq w w'
 sz:w.heap.size<=w'.heap.size
def Ju(P:Program)(f:Nat):Prop:=∀ (args:Array Value) (w:World),(callFunc f args).run P w=.ok (.enter f args) w
def uD(P:Program)(f:Nat)(args:List Value)(I:aN)(M:List aC)(post:Value->aN->List aC->Prop):Prop:=
 Ju P f/\∀ w,dU I M w->Calls P f args.toArray w λe w'=>∃ v I' M',e=.returned v/\post v I' M'/\dU I' M' w'/\Kept I M w I' M' w'
def X1(P:Program)(f:Nat)(args:List Value)(I:aN)(M:List aC)(post:Value->aN->List aC->Prop):Prop:=
 ∀ w,dU I M w->∃ v w' I' M',(callFunc f args.toArray).run P w=.ok (.value v) w'/\post v I' M'/\dU I' M' w'/\Kept I M w I' M' w'
def Spec(P:Program)(f:Nat)(args:List Value)(I:aN)(M:List aC)(post:Value->aN->List aC->Prop):Prop:=uD P f args I M post\/X1 P f args I M post
def ins(I:aN)(b:Nat)(o:Obj):aN:=λx=>bif Nat.beq x b then some o else I x
inductive hP(bP:List Nat):aN->List aC->aN->List aC->Prop
 |refl{I M}:hP bP I M I M| sub {I M M1 I' M'} (h:List.Sublist M1 M) (k:hP bP I M1 I' M'):hP bP I M I' M'| perm {I M M1 I' M'} (h:M.Perm M1) (k:hP bP I M1 I' M'):hP bP I M I' M'| pZ {I M I' M' b o post} (h:M=⟨b,o⟩::post) (aw:b ∉ bP) (k:hP bP (ins I b o) post I' M'):hP bP I M I' M'
structure qV(I:aN)(M:List aC):Prop where
 d:∀ x∈M,I x.num=none
 bS:(M.map (·.num)).Nodup
inductive aT(bP:List Nat)(P:Program)(f:Nat)(args:List Value)(I:aN)(M:List aC)(K:Value->aN->List aC->Prop):Prop
 |mk(c4 Mr:List aC)(post:Value->aN->List aC->Prop)(a7:M.Perm (c4++Mr))(ao:Spec P f args I c4 post)(k:∀ v I' M',(∀ b o,I b=some o->I' b=some o)->post v I' M'->K v I' (M'++Mr))| Jv (c4 Mr:List aC) (post:Value->aN->List aC->Prop) (a7:M.Perm (c4++Mr)) (ao:Spec P f args I c4 post) (k:∀ v I' M',(∀ b o,I b=some o->I' b=some o)->(∀ x∈M'++Mr,I' x.num=none)->post v I' M'->K v I' (M'++Mr))| Jw (c8:aN) (c4 Mr:List aC) (post:Value->aN->List aC->Prop) (hw:hP bP I M c8 (c4++Mr)) (ao:Spec P f args c8 c4 post) (k:∀ v I' M',(∀ b o,c8 b=some o->I' b=some o)->(∀ x∈M'++Mr,I' x.num=none)->post v I' M'->K v I' (M'++Mr))| FM (h:qV I M->aT bP P f args I M K)
def aT.elim{I:aN}{M:List aC}{K:Value->aN->List aC->Prop}(hQ:qV I M)(h:aT bP P f args I M K) :
  ∃ (c8:aN) (c4 Mr:List aC) (post:Value->aN->List aC->Prop),hP bP I M c8 (c4++Mr)/\Spec P f args c8 c4 post/\∀ v I' M',(∀ b o,c8 b=some o->I' b=some o)->(∀ x∈M'++Mr,I' x.num=none)->post v I' M'->K v I' (M'++Mr):=by
 induction h with
 |mk c4 Mr post a7 ao k=>exact⟨I,c4,Mr,post,.perm a7 .refl,ao,λv I' M' U _ aa=>k v I' M' U aa⟩| Jv c4 Mr post a7 ao k=>exact⟨I,c4,Mr,post,.perm a7 .refl,ao,k⟩| Jw c8 c4 Mr post hw ao k=>exact⟨c8,c4,Mr,post,hw,ao,k⟩| FM h a2=>exact a2 hQ
structure cx where
 P:Program
 E:Env
 fM:List Nat
 n:Nat
 B:Nat
 aq:World
 dd:aN
 bP:List Nat
 ro:Option Nat
def fW(X:cx):Fence:={ Fence.wide with round:=X.ro }
def dV(β:Nat->Nat):cW->Value->Prop
 | .val v,u=>u=v| .lit b,u=>u=.bool b| .ref s off,u=>u=.pointer (some ⟨β s,off,none⟩)| .lj,_=>True
structure uE(X:cx)(w:World)(I:aN)(M:List aC)(b:Nat)(cs:List Value):Prop where
 at_:∃ T,w.heap[b]?=some (.cells cs.toArray T (0,0))
 base:X.B<=b
 ik:I b=none
 dY:∀ x∈M,x.num≠b
structure sW(X:cx)(w:World)(I:aN)(M:List aC)(r:Nat):Prop where
 at_:w.heap[r]?=some (.deferred (some []))
 base:X.B<=r
 ik:I r=none
 dY:∀ x∈M,x.num≠r
def uF(r:Nat):Deferred:={ target:=.collected r,args:=#[] }
def Marks(X:cx)(a:Act)(w:World)(I:aN)(M:List aC):Prop:=∃ aU:List Nat,a.defers=aU.map uF/\aU.Nodup/\∀ r∈aU,sW X w I M r
structure cc(X:cx)(β:Nat->Nat)(a:Act)(w:World)(F:Fr)(C:c7)(I:aN)(M:List aC):Prop where
 size:a.tmps.size=X.n
 defers:Marks X a w I M
 holds:dU I M w
 aj:∀ t,dV β (F t) (a.tmps.getD t undef)
 bX:∀ s cs,C s=some cs->uE X w I M (β s) cs
 inj:∀ s b0,C s≠none->C b0≠none->β s=β b0->s=b0
 g3:∀ b o,X.dd b=some o->I b=some o
 gF:∀ b o,I b=some o->X.dd b=some o\/X.B<=b
 own:∀ x∈M,x.num∈X.bP\/X.B<=x.num
 cY:∀ b,b<X.B->b ∉ X.bP->w.heap[b]?=X.aq.heap[b]?
 out:mq X.aq w
 sz:X.B<=w.heap.size
def Rel(X:cx)(a:Act)(w:World)(F:Fr)(C:c7)(I:aN)(M:List aC):Prop:=∃ β,cc X β a w F C I M
def Sat(X:cx)(K:fG)(a:Act)(w:World):Prop:=∃ F C I M,Rel X a w F C I M/\K F C I M
inductive be(X:cx)(o:Oper)(F:Fr)(C:c7)(I:aN)(M:List aC)(K:fG):Prop
 |mk(h:∀ a w Q,Rel X a w F C I M->o.wpIn (fW X) 0 X.P a w (Sat X K) Q)
def il(ρ:Operand->cW):List Operand->Option (List Value)
 |[]=>some []
 |x::xs=>match dh ρ x,il ρ xs with
  | .val v,some vs=>some (v::vs)| _,_=>none
abbrev kL(F:Fr):List Operand->Option (List Value):=il (cR F)
def qW(place:Nat->Option (Nat×Nat))(cells:List Value):List (Nat×Value)->Option (List Value)
 |[]=>some cells
 |(i,v)::rest=>match place i with
  |none=>none| some (off,size)=>bif Nat.beq v.cells.size size&&Nat.ble (off+size) cells.length then qW place (bw cells off v.cells.toList) rest else none
def qX(ρ:Operand->cW):List (Nat×Operand)->Option (List (Nat×Value))
 |[]=>some []
 |(i,x)::xs=>match dh ρ x,qX ρ xs with
  | .val v,some vs=>some ((i,v)::vs)| _,_=>none
abbrev xR(F:Fr):List (Nat×Operand)->Option (List (Nat×Value)):=qX (cR F)
def places(E:Env)(bT:List (Nat×Nat))(i:Nat):Option (Nat×Nat):=match bT[i]? with
 |some (kM,off)=>match E kM with
  |some gl=>some (off,gl.size)| none=>none
 |none=>none
def z9(E:Env)(bT:List (Nat×Nat)):Bool:=bT.all λf=>(E f.1).isSome
def rowOf(zero:List Value)(n:Nat):List Value:=(List.range n).map λi=>zero[i%zero.length]!
def z'(zero:List Value)(n:Nat):rowOf zero n=(madeCells zero.toArray n).toList:=by simp[rowOf,madeCells]
def IntKind.kN:IntKind->IntKind->Bool
 | .i8,.i8 | .i16,.i16 | .i32,.i32 | .i64,.i64 | .u8,.u8 | .u16,.u16 | .u32,.u32 | .u64,.u64=>true| _,_=>false
def jZ(op:BinOp)(c9:Option dH)(x y:cW)(K:Value->Prop)(other:Prop):Prop:=
 match x,y with
 | .val (.int k a),.val (.int cd b)=>
  match op with
  | .shl=>vU b λj=>aQ k (a*2^(min j k.bits)) λr=>K (.int k r)
  | .shr=>vU b λj=>K (.int k (a.fdiv (2^(min j k.bits))))
  |op=>bif IntKind.kN k cd then
    (match op with
    | .add=>aQ k (a+b) λr=>K (.int k r)
    | .sub=>aQ k (a-b) λr=>K (.int k r)
    | .mul=>aQ k (a*b) λr=>K (.int k r)
    | .quo=>gE b (aQ k (a.tdiv b) λr=>K (.int k r))| .rem=>gE b (K (.int k (a.tmod b)))
    | .and | .or | .xor | .andNot=>(match rM op k a b with
     |some r=>K (.int k r)| none=>False)
    |op=>(match uB op a b with
     |some r=>K (.bool r)| none=>False))
   else False
 | .val (.string a),.val (.string b)=>
  match op with
  | .eql=>K (.bool (decide (a=b)))| .neq=>K (.bool (!decide (a=b)))| _=>other
 | .val (.bool a),.val (.bool b)=>
  match c9 with
  |some { bz:=.bool,.. }=>
   (match op with
   | .eql=>K (.bool (a == b))| .neq=>K (.bool (!(a == b)))| _=>other)
  |_=>other
 |_,_=>other
inductive cu(P:Program)(op:BinOp)(t:Nat)(x y:Operand)(p q:cW)(K:Value->Prop)(other:Prop):Prop
 |mk(e2 eN v:Value)(aO:p=.val e2)(aE:q=.val eN)(h:∀ w,(do eqGuard op t x y e2 eN;binOp op t e2 eN:Sem Value).run P w=.ok v w)(k:K v)| other (h:other)
def b5(X:cx)(op:Op)(ρ:Operand->cW)(C:c7)(I:aN)(M:List aC)(V:cW->Prop)(other:Prop):Prop:=
 match op with
 | .move x | .assign x=>V (ρ x)
 | .pick c a b=>
  match ρ c with
  | .lit c=>V (bif c then ρ a else ρ b)| .val (.bool c)=>V (FL c (dh ρ a) (dh ρ b))| _=>False
 | .unOp op _ x=>
  match op,ρ x with
  | .not,.lit b=>V (.lit (!b))| .not,.val (.bool b)=>V (.val (.bool (!b)))| .neg,.val (.int k n)=>aQ k (0-n) λr=>V (.val (.int k r))
  |_,_=>other
 | .binOp op t x y _=>jZ op (X.E t) (dh ρ x) (dh ρ y) (λv=>V (.val v)) (cu X.P op t x y (dh ρ x) (dh ρ y) (λv=>V (.val v)) other)
 | .load t x=>
  match X.E t with
  |some i=>
   (match ρ x with
   | .ref s off=>
    (match C s with
    |some cs=>bif Nat.ble (off+i.size) cs.length then V (.val (pack i.bz.agg ((cs.drop off).take i.size)))else False| none=>False)
   | .val (.pointer (some a))=>aJ I M a i.size λvs=>V (.val (pack i.bz.agg vs))
   |_=>False)
  |none=>False
 | .nilCheck x=>
  match ρ x with
  | .ref s off=>V (.ref s off)| .val (.pointer (some a))=>V (.val (.pointer (some a)))| _=>other
 | .fieldAddr t x i=>
  match X.E t with
  |some { bz:=.struct bT,.. }=>
   (match bT[i]? with
   |some (kM,off)=>
    (match X.E kM,ρ x with
    |some gl,.ref s o'=>bif Nat.beq gl.size 0 then False else V (.ref s (o'+off))| some gl,.val (.pointer (some a))=>bif Nat.beq gl.size 0 then False else V (.val (.pointer (some (a.add off))))| _,_=>False)
   |none=>False)
  |_=>False
 | .field t x i=>
  match X.E t,dh ρ x with
  |some { bz:=.struct bT,.. },.val (.agg cs)=>
   (match bT[i]? with
   |some (kM,off)=>
    (match X.E kM with
    |some gl=>bif Nat.ble (off+gl.size) cs.size then V (.val (pack gl.bz.agg ((cs.toList.drop off).take gl.size)))else False| none=>False)
   |none=>False)
  |_,_=>False
 | .indexAddr t x i=>
  match X.E t,dh ρ i with
  |some { bz:=.slice e,.. },.val (.int _ k)=>
   (match X.E e,dh ρ x with
   |some aF,.val (.slice a n _)=>a6 a n aF.size k λad=>V (.val (.pointer (some ad)))
   |_,_=>False)
  |some { bz:=.array n e,.. },.val (.int _ k)=>
   (match X.E e,ρ x with
   |some aF,.ref s o'=>dT n k λj=>V (.ref s (o'+j*aF.size))
   |some aF,.val (.pointer (some a))=>dT n k λj=>V (.val (.pointer (some (a.add (j*aF.size)))))
   |_,_=>False)
  |_,_=>False
 | .index t x i=>
  match X.E t,dh ρ x,dh ρ i with
  |some { bz:=.string,.. },.val (.string s),.val (.int _ k)=>o2 s k λb=>V (.val (.int .u8 b.toNat))
  |some { bz:=.array n e,.. },.val (.agg cs),.val (.int _ k)=>
   (match X.E e with
   |some aF=>bif Nat.beq (n*aF.size) cs.size then dT n k λj=>V (.val (pack aF.bz.agg ((cs.toList.drop (j*aF.size)).take aF.size)))else False
   |none=>False)
  |_,_,_=>False
 | .build t parts=>
  match X.E t,qX ρ parts.toList with
  |some i,some vs=>
   (match i.bz with
   | .struct bT=>bif z9 X.E bT then(match qW (places X.E bT) i.zero vs with
    |some cells=>V (.val (.agg cells.toArray))| none=>False)else False
   | .array _ e=>(match X.E e with
    |some aF=>(match qW (λj=>some (j*aF.size,aF.size)) i.zero vs with
     |some cells=>V (.val (.agg cells.toArray))| none=>False)
    |none=>False)
   |_=>False)
  |_,_=>False
 | .makeFunc fn first captured=>
  match il ρ first.toList,il ρ captured.toList with
  |some bT,some cs=>V (.val (.func fn bT.toArray cs.toArray))| _,_=>False
 | .slice t x lo hi mx=>
  match X.E t,dh ρ x,mx with
  |some { bz:=.slice e,.. },.val (.slice a n c),none=>
   (match X.E e,lo.map (dh ρ),hi.map (dh ρ)with
   |some aF,none,none=>V (.val (.slice a n c))| some aF,none,some (.val (.int _ h))=>i' n c none (some h) λ_ h=>V (.val (.slice a h c))
   |some aF,some (.val (.int _ l)),none=>i' n n (some l) none λl _=>V (.val (.slice (if c=l then a else a.map (·.add (l*aF.size))) (n-l) (c-l)))
   |some aF,some (.val (.int _ l)),some (.val (.int _ h))=>i' n c (some l) (some h) λl h=>V (.val (.slice (if c=l then a else a.map (·.add (l*aF.size))) (h-l) (c-l)))
   |_,_,_=>False)
  |some { bz:=.string,.. },.val (.string s),none=>
   (match lo.map (dh ρ),hi.map (dh ρ)with
   |none,none=>V (.val (.string s))| none,some (.val (.int _ h))=>i' s.size s.size none (some h) λ_ h=>V (.val (.string (s.extract 0 h)))
   |some (.val (.int _ l)),none=>i' s.size s.size (some l) none λl _=>V (.val (.string (s.extract l s.size)))
   |some (.val (.int _ l)),some (.val (.int _ h))=>i' s.size s.size (some l) (some h) λl h=>V (.val (.string (s.extract l h)))
   |_,_=>False)
  |_,_,_=>other
 | .extract x i=>
  match dh ρ x with
  | .val (.tuple vs)=>(match vs.toList[i]? with
   |some v=>V (.val v)| none=>False)
  |_=>False
 | .convert s d x=>
  match X.E s,X.E d,dh ρ x with
  |some _,some { bz:=.int k,.. },.val (.int _ n)=>aQ k n λr=>V (.val (.int k r))
  |_,_,_=>other
 | .call { callee:=.builtin .len,args,argTypes }=>
  match argTypes.toList,il ρ args.toList with
  |[t],some [v]=>
   (match X.E t,v with
   |some { bz:=.slice _,.. },.slice _ n _=>V (.val (.int .i64 n))| some { bz:=.string,.. },.string s=>V (.val (.int .i64 s.size))| some { bz:=.array n _,.. },_=>V (.val (.int .i64 n))| _,_=>other)
  |_,_=>other
 | .call { callee:=.builtin .cap,args,argTypes }=>
  match argTypes.toList,il ρ args.toList with
  |[t],some [v]=>
   (match X.E t,v with
   |some { bz:=.slice _,.. },.slice _ _ c=>V (.val (.int .i64 c))| _,_=>other)
  |_,_=>other
 | .call { callee:=.builtin .max,args,.. }=>
  match il ρ args.toList with
  |some [.int k a,.int _ b]=>V (.val (.int k (max a b)))| _=>other
 | .call { callee:=.builtin .min,args,.. }=>
  match il ρ args.toList with
  |some [.int k a,.int _ b]=>V (.val (.int k (min a b)))| _=>other
 | .call { callee:=.builtin .unsafeSliceData,args,.. }=>
  match il ρ args.toList with
  |some [.slice none _ _]=>V (.val (.pointer none))| some [.slice (some a) _ c]=>gE c (V (.val (.pointer (some a))))| _=>other
 |_=>other
def fX(X:cx)(o:Oper)(F:Fr)(C:c7)(I:aN)(M:List aC)(K:fG):Prop:=
 match o.op with
 | .box t x=>
  match o.dst,bm F x with
  |some d,.val v=>
   bif X.fM.contains d then cz I M λb=>K (fL (n7 F d) d (.val (.pointer (some ⟨b,0,none⟩)))) (hO C d none) I (⟨b,.cells v.cells t (0,0)⟩::M)
   else K (fL (n7 F d) d (.ref d 0)) (hO C d (some v.cells.toList)) I M
  |_,_=>False
 | .alloc t=>
  match o.dst,X.E t with
  |some d,some i=>
   bif X.fM.contains d then cz I M λb=>K (fL (n7 F d) d (.val (.pointer (some ⟨b,0,none⟩)))) (hO C d none) I (⟨b,.cells i.zero.toArray t (0,0)⟩::M)
   else K (fL (n7 F d) d (.ref d 0)) (hO C d (some i.zero)) I M
  |_,_=>False
 | .store t x y=>
  match o.dst,X.E t,bm F y with
  |none,some i,.val v=>
   (match cR F x with
   | .ref s off=>
    (match C s with
    |some cs=>bif Nat.ble (off+i.size) cs.length&&(Nat.beq v.cells.size i.size&&gS v.cells.toList)then K F (hO C s (some (bw cs off v.cells.toList))) I M else False| none=>False)
   | .val (.pointer (some a))=>bif Nat.beq v.cells.size i.size then cX M a v.cells.toList λM'=>K F C I M' else False
   |_=>False)
  |_,_,_=>False
 | .buildSlice t len parts=>
  match X.E t,xR F parts.toList with
  |some { bz:=.slice e,.. },some vs=>
   (match X.E e with
   |some aF=>
    bif Nat.ble (len*aF.size) 16777216&&Nat.blt 0 (len*aF.size)then
     (match qW (λj=>some (j*aF.size,aF.size)) (rowOf aF.zero (len*aF.size)) vs with
     |some cells=>cz I M λb=>K (put o.dst (.val (.slice (some ⟨b,0,none⟩) len len)) F) C I (⟨b,.cells cells.toArray e (0,0)⟩::M)
     |none=>False)
    else(match len,vs with
     |0,[]=>cz I M λb=>K (put o.dst (.val (.slice (some ⟨b,0,none⟩) 0 0)) F) C I (⟨b,.cells #[] e (0,0)⟩::M)
     |_,_=>False)
   |none=>False)
  |_,_=>False
 | .makeSlice t l c=>
  match X.E t,bm F l,bm F c with
  |some { bz:=.slice e,.. },.val (.int _ l),.val (.int _ c)=>
   (match X.E e with
   |some aF=>qU l c aF.bytes λn m=>cz I M λb=>K (put o.dst (.val (.slice (some ⟨b,0,none⟩) n m)) F) C I (⟨b,.cells (rowOf aF.zero (m*aF.size)).toArray e (0,0)⟩::M)
   |none=>False)
  |_,_,_=>False
 | .call { callee:=.value f,args,.. }=>
  match bm F f,kL F args.toList with
  | .val (.func (.func g) first cap),some vs=>aT X.bP X.P g (first.toList++vs++cap.toList) I M λv I' M'=>K (put o.dst (.val v) F) C I' M'
  |_,_=>be X o F C I M K
 |op=>b5 X op (cR F) C I M (λx=>K (put o.dst x F) C I M) (be X o F C I M K)
inductive bo(c b:Bool)(Y N:Prop):Prop
 |mk(h:c=b->Y)(a1:c=!b->N)
def rN(X:cx)(ops:List Oper):List Oper->Fr->c7->aN->List aC->fG->Prop
 |[],F,C,I,M,K=>K F C I M
 |o::rest,F,C,I,M,K=>
  match o.guard with
  |none=>fX X o F C I M λF C I M=>rN X ops rest F C I M K
  |some (j,b)=>
   match(ops[j]?).bind (·.dst)with
   |none=>False
   |some d=>
    match F d with
    | .lit c=>bif c == b then fX X o F C I M λF C I M=>rN X ops rest F C I M K else rN X ops rest (put o.dst (.val undef) F) C I M K
    | .val (.bool c)=>bo c b (fX X o (fL F d (.lit b)) C I M λF C I M=>rN X ops rest F C I M K) (rN X ops rest (put o.dst (.val undef) (fL F d (.lit !b))) C I M K)| .val (.tuple _)=>rN X ops rest (put o.dst (.val undef) F) C I M K| _=>False
def gh{a b:Nat}(h:¬ a=b):Nat.beq a b=false:=by
 cases af:Nat.beq a b with
 |false=>rfl| true=>exact absurd (cC af) h
def o3(a:Nat):Nat.beq a a=true:=Nat.beq_refl a
def Ck(w:World)(o:Obj){i:Nat}(h:i<w.heap.size):(w.alloc o).heap[i]?=w.heap[i]?:=by show(w.heap.push o)[i]?=_;simp[Array.getElem?_push,Nat.ne_of_lt h]
def Jx(w:World)(o:Obj):(w.alloc o).heap[w.heap.size]?=some o:=by show(w.heap.push o)[w.heap.size]?=_;simp
section
variable{X:cx}{β:Nat->Nat}{a:Act}{w:World}{F:Fr}{C:c7}{I:aN}{M:List aC}{o:Oper}{Q:Exit->Act->World->Prop}{next:Act->World->Prop}{K:fG}
def uG(h:∀ t,dV β (F t) (a.tmps.getD t undef))(x:Operand):dV β (cR F x) (a.eval x):=by
 cases x with
 |tmp t=>exact h t| const v=>cases v<;>exact rfl
 |global g=>exact rfl| func f=>exact rfl
def cZ(h:∀ t,dV β (F t) (a.tmps.getD t undef)){x:Operand}(ab:bm F x=.val v):a.eval x=v:=by
 have U:=uG h x;unfold bm dh at ab;split at ab
 ·rename_i b af;rw[af]at U;cases ab;exact U
 ·rw[ab]at U;exact U
def rO(h:∀ t,dV β (F t) (a.tmps.getD t undef)){x:Operand}(ab:cR F x=.val v):a.eval x=v:=by have U:=uG h x;rw[ab]at U;exact U
def Jy(h:∀ t,dV β (F t) (a.tmps.getD t undef)){x:Operand}{b:Bool}(ab:cR F x=.lit b):a.eval x=.bool b:=by have U:=uG h x;rw[ab]at U;exact U
def xS(h:∀ t,dV β (F t) (a.tmps.getD t undef)){x:Operand}{s:Nat}(ab:cR F x=.ref s off):a.eval x=.pointer (some ⟨β s,off,none⟩):=by have U:=uG h x;rw[ab]at U;exact U
def Pf(h:∀ t,dV β (F t) (a.tmps.getD t undef))(x:Operand):dV β (bm F x) (a.eval x):=by
 have U:=uG h x;unfold bm dh;split
 ·rename_i b af;rw[af]at U;exact U
 ·exact U
def qY(h:∀ t,dV β (F t) (a.tmps.getD t undef)):∀ {xs:List Operand} {vs:List Value},kL F xs=some vs->xs.map a.eval=vs
 |[],vs,ab=>by simp[kL,il]at ab;simp[ab]
 |x::xs,vs,ab=>by
  unfold kL il at ab;split at ab;·rename_i v p0 U aa;cases ab;simp[cZ h U,qY h aa]
  ·cases ab
def FN(h:∀ t,dV β (F t) (a.tmps.getD t undef)):∀ {xs:List (Nat×Operand)} {vs:List (Nat×Value)},xR F xs=some vs->(xs.map λ(i,x)=>(i,a.eval x))=vs
 |[],vs,ab=>by simp[xR,qX]at ab;simp[ab]
 |(i,x)::xs,vs,ab=>by
  unfold xR qX at ab;split at ab;·rename_i v p0 U aa;cases ab;simp[cZ h U,FN h aa]
  ·cases ab
def hZ(cf:∀ c,o.op≠.defer c)(h:(execOp a.eval o).run X.P w=.ok (.value v) w')(ae:next (a.put o.dst v) w'):o.wpIn (fW X) 0 X.P a w next Q:=
 ⟨λ_ _=>trivial,by rw[FI _ _ _ cf,h];exact ae⟩
def Aa(cf:∀ c,o.op≠.defer c)(h:(execOp a.eval o).run X.P w=.ok .skip w')(ae:next (a.put o.dst undef) w'):o.wpIn (fW X) 0 X.P a w next Q:=
 ⟨λ_ _=>trivial,by rw[FI _ _ _ cf,h];exact ae⟩
def Pg(a:Act)(d t:Nat)(v:Value)(ai:d<a.tmps.size):(a.put (some d) v).tmps.getD t undef=if t=d then v else a.tmps.getD t undef:=by
 simp only[Act.put,m6,z4];by_cases h:t=d
 ·subst h;simp[ai]
 ·simp[h,qT h]
def Jz(h:∀ t,dV β (F t) (a.tmps.getD t undef)){d:Nat}{x:cW}(ai:d<a.tmps.size)(ab:dV β x v)(t:Nat):dV β (fL F d x t) ((a.put (some d) v).tmps.getD t undef):=by
 rw[Pg a d t v ai];unfold fL;by_cases U:t=d
 ·subst U;simp only[o3,ba,o1];exact ab
 ·have:Nat.beq t d=false:=gh U;simp only[this,a5,dc U];exact h t
def Ph(w:World)(g:Nat)(cs:Array Value):mq w (w.setRow g cs):=by
 unfold World.setRow
 first | exact⟨rfl,rfl⟩ | (split<;>exact⟨rfl,rfl⟩)
def FO(w:World)(g:Nat)(o:Obj):mq w (w.putObj g o):=by unfold World.putObj;exact⟨rfl,rfl⟩
def Marks.mono(h:Marks X a w I M){I':aN}{M':List aC}(hm:∀ r,sW X w I M r->sW X w' I' M' r):Marks X a w' I' M':=by obtain⟨aU,U,aa,ag⟩:=h;exact⟨aU,U,aa,λr an=>hm r (ag r an)⟩
def cc.put(h:cc X β a w F C I M)(ai:∀ d,dst=some d->d<X.n){x:cW}(ab:dV β x v):cc X β (a.put dst v) w (put dst x F) C I M:=by
 cases dst with
 |none=>exact h
 |some d=>
  refine { h with size:=?_,defers:=h.defers,aj:=?_ };·simp[Act.put,h.size]
  ·exact Jz h.aj (by rw[h.size];exact ai d rfl) ab
def dU.heap(h:dU I M w)(bI:w'.heap=w.heap):dU I M w':=
 { i:=by rw[bI];exact h.i,m:=by rw[bI];exact h.m,d:=h.d,bS:=h.bS }
def cc.world(h:cc X β a w F C I M)(bI:w'.heap=w.heap)(ap:mq w w':=by exact⟨rfl,rfl⟩):cc X β a w' F C I M:=
 { h with
  holds:={ i:=by rw[bI];exact h.holds.i,m:=by rw[bI];exact h.holds.m,d:=h.holds.d,bS:=h.holds.bS }
  defers:=h.defers.mono λr an=>{ an with at_:=by rw[bI];exact an.at_ }
  bX:=λs cs ao=>{ h.bX s cs ao with at_:=by rw[bI];exact(h.bX s cs ao).at_ }
  cY:=by rw[bI];exact h.cY
  out:=h.out.trans ap
  sz:=by rw[bI];exact h.sz }
def dU.alloc(h:dU I M w)(o:Obj):dU I M (w.alloc o) where
 i b x af:=by have U:=h.i b x af;rw[Ck w o (kg.1 U).1];exact U
 m x ab:=by have U:=h.m x ab;rw[Ck w o (kg.1 U).1];exact U
 d:=h.d
 bS:=h.bS
def dU.lt(h:dU I M w){x:aC}(ab:x∈M):x.num<w.heap.size:=(kg.1 (h.m x ab)).1
def dU.Ab(h:dU I M w){b:Nat}{o:Obj}(af:I b=some o):b<w.heap.size:=(kg.1 (h.i b o af)).1
def dU.p1(h:dU I M w):I w.heap.size=none:=by
 cases af:I w.heap.size with
 |none=>rfl| some o=>exact absurd (h.Ab af) (Nat.lt_irrefl _)
def dU.o4(h:dU I M w):∀ x∈M,x.num≠w.heap.size:=λx ab e=>by have:=h.lt ab;omega
def dU.cons(h:dU I M w)(o:Obj):dU I (⟨w.heap.size,o⟩::M) (w.alloc o) where
 i:=(h.alloc o).i
 m x ab:=by
  rcases dE.1 ab with rfl | ab;·exact Jx w o
  ·exact(h.alloc o).m x ab
 d x ab:=by
  rcases dE.1 ab with rfl | ab;·exact h.p1
  ·exact h.d x ab
 bS:=by simp only[dA,lg];refine⟨λhm=>?_,h.bS⟩;obtain⟨x,ab,e⟩:=du.1 hm;exact h.o4 x ab e
def uE.alloc{b:Nat}{cs:List Value}(h:uE X w I M b cs)(o:Obj):uE X (w.alloc o) I M b cs where
 at_:=by obtain⟨T,br⟩:=h.at_;exact⟨T,by rw[Ck w o (kg.1 br).1];exact br⟩
 base:=h.base
 ik:=h.ik
 dY:=h.dY
def uE.lt{b:Nat}{cs:List Value}(h:uE X w I M b cs):b<w.heap.size:=by obtain⟨T,br⟩:=h.at_;exact(kg.1 br).1
def uE.JA{b:Nat}{cs:List Value}(h:uE X w I M b cs)(o:Obj):uE X (w.alloc o) I (⟨w.heap.size,o⟩::M) b cs where
 at_:=(h.alloc o).at_
 base:=h.base
 ik:=h.ik
 dY x ab:=by
  rcases dE.1 ab with rfl | ab
  ·exact λe=>by have:=h.lt;simp only at e;omega
  ·exact h.dY x ab
def sW.alloc{r:Nat}(h:sW X w I M r)(o:Obj):sW X (w.alloc o) I M r:=
 { h with at_:=by rw[Ck w o (kg.1 h.at_).1];exact h.at_ }
def sW.JA{r:Nat}(h:sW X w I M r)(o:Obj):sW X (w.alloc o) I (⟨w.heap.size,o⟩::M) r:=by
 refine { h.alloc o with dY:=λx ab=>?_ };rcases dE.1 ab with rfl | ab
 ·have U:=(kg.1 h.at_).1;simp only;omega
 ·exact h.dY x ab
def JB(h:∀ b,b<X.B->b ∉ X.bP->w.heap[b]?=X.aq.heap[b]?)(cm:X.B<=w.heap.size)(o:Obj):∀ b,b<X.B->b ∉ X.bP->(w.alloc o).heap[b]?=X.aq.heap[b]?:=λb af aw=>by rw[Ck w o (by omega)];exact h b af aw
def cc.m7(h:cc X β a w F C I M)(o:Obj):cc X β a (w.alloc o) F C I (⟨w.heap.size,o⟩::M) where
 size:=h.size
 defers:=h.defers.mono λr an=>an.JA o
 holds:=h.holds.cons o
 aj:=h.aj
 bX s cs ao:=(h.bX s cs ao).JA o
 inj:=h.inj
 g3:=h.g3
 gF:=h.gF
 own x ab:=by
  rcases dE.1 ab with rfl | ab;·exact .inr h.sz
  ·exact h.own x ab
 cY:=JB h.cY h.sz o
 out:=h.out
 sz:=by have:=h.sz;simp;omega
def cc.JC(h:cc X β a w F C I M)(d:Nat):cc X β a w (n7 F d) (hO C d none) I M where
 size:=h.size
 defers:=h.defers
 holds:=h.holds
 aj t:=by
  have U:=h.aj t;unfold n7;cases cS:F t with
  |ref s off=>
   rw[cS]at U;simp only;cases Nat.beq s d;·exact U
   ·trivial
  |_=>rw[cS]at U;exact U
 bX s cs ao:=by
  unfold hO at ao;cases af:Nat.beq s d with
  |true=>simp[af]at ao| false=>simp[af]at ao;exact h.bX s cs ao
 inj s b0 U aa:=h.inj s b0 (λe=>U (by simp[hO,e])) (λe=>aa (by simp[hO,e]))
 g3:=h.g3
 gF:=h.gF
 own:=h.own
 cY:=h.cY
 out:=h.out
 sz:=h.sz
def cc.Pj(h:cc X β a w F C I M)(d:Nat)(ai:d<X.n)(cs:List Value)(T:Nat) :
  ∃ mr,cc X mr (a.put (some d) (.pointer (some ⟨w.heap.size,0,none⟩))) (w.alloc (.cells cs.toArray T (0,0))) (fL (n7 F d) d (.ref d 0)) (hO C d (some cs)) I M:=by
 have aq:=h.JC d;let mr:Nat->Nat:=λs=>if s=d then w.heap.size else β s
 refine⟨mr,?_⟩;have uH:∀ t,dV mr (n7 F d t) (a.tmps.getD t undef):=λt=>by
  have U:=aq.aj t;cases cS:n7 F d t with
  |ref s off=>
   rw[cS]at U;have ao:s≠d:=by
    intro e;subst e;unfold n7 at cS;split at cS
    ·rename_i b0 FP Pk;cases af:Nat.beq b0 s with
     |true=>simp[af]at cS| false=>simp[af]at cS;obtain⟨rfl,_⟩:=cS;simp at af
    ·rename_i bk;exact bk _ _ cS
   simp only[dV,mr,dc ao];exact U
  |_=>rw[cS]at U;exact U
 exact {
  size:=by simp[Act.put,h.size]
  defers:=h.defers.mono λr an=>an.alloc _
  holds:=h.holds.alloc _
  aj:=Jz uH (by rw[h.size];exact ai) (by simp[dV,mr])
  bX:=λs cs' ao=>by
   by_cases e:s=d;·subst e;simp[hO]at ao;subst ao;simp only[mr,dv rfl];exact { at_:=⟨T,Jx w _⟩,base:=h.sz,ik:=h.holds.p1,dY:=h.holds.o4 }
   ·have af:Nat.beq s d=false:=gh e;simp[hO,af]at ao;simp only[mr,dc e];exact(h.bX s cs' ao).alloc _
  inj:=λs b0 U aa he=>by
   by_cases e:s=d<;>by_cases a0:b0=d
   ·rw[e,a0]
   ·exfalso;have af:Nat.beq b0 d=false:=gh a0;simp[hO,af]at aa;obtain⟨c,aA⟩:=FD.1 aa;have:=(h.bX b0 c aA).lt;simp only[mr,dv e,dc a0]at he;omega
   ·exfalso;have af:Nat.beq s d=false:=gh e;simp[hO,af]at U;obtain⟨c,aA⟩:=FD.1 U;have:=(h.bX s c aA).lt;simp only[mr,dc e,dv a0]at he;omega
   ·have af:Nat.beq s d=false:=gh e;have ha:Nat.beq b0 d=false:=gh a0;simp[hO,af]at U;simp[hO,ha]at aa;simp only[mr,dc e,dc a0]at he;exact h.inj s b0 U aa he
  g3:=h.g3
  gF:=h.gF
  own:=h.own
  cY:=JB h.cY h.sz _
  out:=h.out
  sz:=by have:=h.sz;simp;omega }
def d'(a:Addr)(h:a.spot=none)(j:Nat):a.add j=⟨a.block,a.off+j,none⟩:=by
 obtain⟨b,o,s⟩:=a;simp only at h;subst h;unfold Addr.add;split<;>simp_all
def sX{b:Nat}(ar:w.heap[b]?=some (.cells cs T aj))(j:Nat):w.cell? ⟨b,j,none⟩=cs[j]?:=by simp[World.cell?,ar]
variable{P:Program}{t:Nat}{i:dH}
def iQ.run_sizeOf(h:iQ P t i)(w:World):(sizeOf t).run P w=.ok i.size w:=by obtain⟨inf,z,U,aa,_⟩:=h.inf;simp[sizeOf,typeInfo,U,aa]
def iQ.Cl(h:iQ P t i)(w:World):∃ z,(zeroValue t).run P w=.ok z w/\z.cells.toList=i.zero:=by obtain⟨inf,z,U,aa,ag,aK,bg⟩:=h.inf;exact⟨z,by simp[zeroValue,typeInfo,U,aK],bg⟩
def iQ.X2(h:iQ P t i)(w:World):∃ d,(underlying t).run P w=.ok d w/\eW d=i.bz:=by obtain⟨d,U,aa⟩:=h.e1;exact⟨d,run_underlying U w,aa⟩
def iQ.Pl(h:iQ P t i)(w:World):(isAgg t).run P w=.ok i.bz.agg w:=by
 obtain⟨d,U,aa⟩:=h.X2 w;rw[<-aa];unfold isAgg;simp only[bM,U,bx];cases d<;>rfl
def X3(ay:vs.length=1):vs=[vs.headD undef]:=by
 match vs,ay with
 |[v],_=>rfl
def FQ(h:iQ P t i){a:Addr}(ao:a.spot=none)(ar:w.heap[a.block]?=some (.cells cs T aj))
  (ah:(cs.toList.drop a.off).take i.size=vs) (ay:vs.length=i.size):(loadVar t a).run P w=.ok (pack i.bz.agg vs) w:=by
 have aA:∀ j v,vs[j]?=some v->w.cell? (a.add j)=some v:=by
  intro j v al;rw[d' a ao,sX ar];rw[<-ah,kK]at al;split at al;·rw[pX]at al;simpa using al
  ·cases al
 unfold loadVar;simp only[bM,h.Pl,bx];cases xT:i.bz.agg with
 |true=>simp only[o1,bM,h.run_sizeOf,bx,<-ay];rw[run_loadCells_list w a vs aA];simp[pack]| false=>have U:=h.FK xT;rw[U]at ay;have hn:=X3 ay;have:=aA 0 (vs.headD undef) (by rw[hn];simp);have aD:a.add 0=a:=rfl;rw[aD]at this;simp[this,pack]
def xU(h:gS vs=true):∀ v∈vs,v.oneCell'=true:=by simpa[gS]using h
def FR(h:iQ P t i){a:Addr}(ao:a.spot=none)(ar:w.heap[a.block]?=some (.cells cs T (0,0)))(cm:v.cells.size=i.size)(af:a.off+v.cells.toList.length<=cs.size)(U:gS v.cells.toList=true) :
  (storeVar t a v).run P w=.ok () (w.setRow a.block (bw cs.toList a.off v.cells.toList).toArray):=by
 obtain⟨b,o,s⟩:=a;simp only at ao ar af;subst ao;unfold storeVar;simp only[bM,h.run_sizeOf,bx,cm,ne_eq,not_true,jC,Sem.run_ite];have:=run_storeCells_at (P:=P) b o T v.cells.toList 0 cs w ar (by simpa using af) (xU U);simp only[o0]at this;simp only[bw];simpa using this
def cc.Pm(h:cc X β a w F C I M){s:Nat}{cs:List Value}(ao:C s=some cs)(cs':List Value):cc X β a (w.setRow (β s) cs'.toArray) F (hO C s (some cs')) I M:=by
 have af:=h.bX s cs ao;obtain⟨T,br⟩:=af.at_;exact {
  size:=h.size
  defers:=h.defers.mono λr an=>by refine { an with at_:=?_ };rw[setRow_other _ _ _ _ (λe=>by have U:=an.at_;rw[e,br]at U;cases U)];exact an.at_
  holds:={
   i:=λb o im=>by rw[setRow_other _ _ _ _ (λe=>by rw[e,af.ik]at im;cases im)];exact h.holds.i b o im
   m:=λx ab=>by rw[setRow_other _ _ _ _ (af.dY x ab)];exact h.holds.m x ab
   d:=h.holds.d
   bS:=h.holds.bS }
  aj:=h.aj
  bX:=λb0 c' Cm=>by
   by_cases e:b0=s;·subst e;simp[hO,o3]at Cm;subst Cm;exact { at_:=⟨T,setRow_heap _ _ _ _ _ _ br⟩,base:=af.base,ik:=af.ik,dY:=af.dY }
   ·simp[hO,gh e]at Cm;have ha:=h.bX b0 c' Cm;obtain⟨lk,Cn⟩:=ha.at_;refine { at_:=⟨lk,?_⟩,base:=ha.base,ik:=ha.ik,dY:=ha.dY };rw[setRow_other _ _ _ _ (λa0=>e (h.inj b0 s (by simp[Cm]) (by simp[ao]) a0))];exact Cn
  inj:=λs1 s2 U aa=>h.inj s1 s2 (λe=>by
    unfold hO at U;cases aE:Nat.beq s1 s with
    |true=>have:=cC aE;subst this;rw[ao]at e;cases e| false=>rw[aE]at U;exact U e) (λe=>by
    unfold hO at aa;cases aE:Nat.beq s2 s with
    |true=>have:=cC aE;subst this;rw[ao]at e;cases e| false=>rw[aE]at aa;exact aa e)
  g3:=h.g3
  gF:=h.gF
  own:=h.own
  cY:=λb ha aw=>by rw[setRow_other _ _ _ _ (λe=>by have:=af.base;omega)];exact h.cY b ha aw
  out:=h.out.trans (Ph _ _ _)
  sz:=by have:=h.sz;simpa using this }
def cc.vV(h:cc X β a w F C I M){pre post:List aC}{g:Nat}{cs':Array Value}(a7:M=pre++⟨g,.cells cs T (0,0)⟩::post) :
  cc X β a (w.setRow g cs') F C I (pre++⟨g,.cells cs' T (0,0)⟩::post):=by
 subst a7;have e':(⟨g,.cells cs T (0,0)⟩:aC)∈pre++⟨g,.cells cs T (0,0)⟩::post:=by simp
 have ar:w.heap[g]?=some (.cells cs T (0,0)):=h.holds.m _ e';have cf:=h.holds.bS;simp only[gg,dA]at cf;have bk:∀ x,x∈pre\/x∈post->x.num≠g:=by
  intro x ab e;rw[xM]at cf;obtain⟨_,aa,ag⟩:=cf;rcases ab with ab | ab;·exact ag x.num (du.2 ⟨x,ab,rfl⟩) g (by simp) e
  ·rw[lg]at aa;exact aa.1 (du.2 ⟨x,ab,e⟩)
 have mem:∀ x,x∈pre++(⟨g,.cells cs' T (0,0)⟩:aC)::post->x=⟨g,.cells cs' T (0,0)⟩\/(x∈pre\/x∈post):=by
  intro x ab;simp only[en,dE]at ab;rcases ab with ab | ab | ab;·exact .inr (.inl ab)
  ·exact .inl ab
  ·exact .inr (.inr ab)
 have back:∀ x,x∈pre\/x∈post->x∈pre++(⟨g,.cells cs T (0,0)⟩:aC)::post:=by
  intro x ab;simp only[en,dE];rcases ab with ab | ab;·exact .inl ab
  ·exact .inr (.inr ab)
 exact {
  size:=h.size
  defers:=h.defers.mono λr an=>by
   have xV:g≠r:=an.dY _ e';refine { an with at_:=?_,dY:=λx ab=>?_ };·rw[setRow_other _ _ _ _ (qT xV)];exact an.at_
   ·rcases mem x ab with rfl | ab
    ·exact xV
    ·exact an.dY x (back x ab)
  holds:={
   i:=λb o im=>by rw[setRow_other _ _ _ _ (λe=>by have:=h.holds.d _ e';simp only at this;rw[e,this]at im;cases im)];exact h.holds.i b o im
   m:=λx ab=>by
    rcases mem x ab with rfl | ab;·exact setRow_heap _ _ _ _ _ _ ar
    ·rw[setRow_other _ _ _ _ (bk x ab)];exact h.holds.m x (back x ab)
   d:=λx ab=>by
    rcases mem x ab with rfl | ab;·exact h.holds.d ⟨g,.cells cs T (0,0)⟩ e'
    ·exact h.holds.d x (back x ab)
   bS:=by simpa[gg]using cf }
  aj:=h.aj
  bX:=λs c ao=>by
   have af:=h.bX s c ao;obtain⟨lk,Cn⟩:=af.at_;have Ac:g≠β s:=af.dY _ e';refine { at_:=⟨lk,?_⟩,base:=af.base,ik:=af.ik,dY:=λx ab=>?_ };·rw[setRow_other _ _ _ _ (qT Ac)];exact Cn
   ·rcases mem x ab with rfl | ab
    ·exact Ac
    ·exact af.dY x (back x ab)
  inj:=h.inj
  g3:=h.g3
  gF:=h.gF
  own:=λx ab=>by
   rcases mem x ab with rfl | ab;·exact h.own ⟨g,.cells cs T (0,0)⟩ e'
   ·exact h.own x (back x ab)
  cY:=λb af aw=>by
   rw[setRow_other _ _ _ _ (λe=>by
    rcases h.own _ e' with U | U;·simp only at U;exact aw (e ▸ U)
    ·simp only at U;omega)]
   exact h.cY b af aw
  out:=h.out.trans (Ph _ _ _)
  sz:=by have:=h.sz;simpa using this }
def hl.heap(h:dU I M w){b:Nat}{o:Obj}(ae:hl I M b o):w.heap[b]?=some o:=by
 rcases ae with ae | ⟨x,ab,rfl,rfl⟩
 ·exact h.i b o ae
 ·exact h.m x ab
def X4{cur:List Value}{x:Value}{xs:List Value}(h:off+1+xs.length<=cur.length):bw (cur.set off x) (off+1) xs=bw cur off (x::xs):=by
 unfold bw;rw[List.take_set,List.drop_set,dv (by omega),g9 (by omega:off<cur.length)];have e:(List.take off cur++[cur[off]'(by omega)]).set off x=List.take off cur++[x]:=by rw[List.set_append,dc (by simp;omega)];simp[Ce (by omega:off<=cur.length)]
 rw[e];simp[mm,FJ 1]
def Pn(off:Nat):∀ (xs:List Value) (k:Nat) (cur:List Value),off+k+xs.length<=cur.length -> (xs.zipIdx k).foldl (λ(cs:Array Value) (p:Value×Nat)=>cs.setIfInBounds (off+p.2) p.1) cur.toArray=(bw cur (off+k) xs).toArray
 |[],k,cur,_=>by simp[bw]
 |x::xs,k,cur,ay=>by simp only[c5]at ay;simp only[List.zipIdx_cons,Cf];rw[List.setIfInBounds_toArray,Pn off xs (k+1) _ (by simp;omega)];rw[show off+(k+1)=off+k+1 from by omega,X4 (by omega)]
def fill_eq(place:Nat->Option (Nat×Nat)):∀ (vs:List (Nat×Value)) (cells r:List Value),qW place cells vs=some r->Instr.fill place cells.toArray vs=some r.toArray
 |[],cells,r,h=>by simp[qW]at h;simp[Instr.fill,h]
 |(i,v)::rest,cells,r,h=>by
  unfold qW at h;unfold Instr.fill;split at h;·cases h
  ·rename_i off size aO;simp only[aO];cases aA:(Nat.beq v.cells.size size&&Nat.ble (off+size) cells.length)with
   |false=>rw[aA]at h;cases h
   |true=>
    rw[aA]at h;simp only[ba]at h;rw[bL]at aA;have U:=cC aA.1;have aa:=bB aA.2;have ax:decide (v.cells.size≠size)=false:=by simp[U]
    have az:decide (off+v.cells.size > cells.toArray.size)=false:=by simp;omega
    rw[ax,az];simp only[Bool.or_false,iP,jC];have a2:=fill_eq place rest _ r h;rw[<-a2];congr 1;have:=Pn off v.cells.toList 0 cells (by simp;omega);simp only[o0]at this;rw[<-this,<-Jr];simp
end
def hP.le{I I':aN}{M M':List aC}(h:hP bP I M I' M')(h0:dU I M w):(∀ b o,I b=some o->I' b=some o)/\dU I' M' w /\
  (∀ b o,I' b=some o->I b=some o\/∃ x∈M,x.num=b/\x.obj=o/\b ∉ bP)/\(∀ x∈M',x∈M):=by
 induction h with
 |refl=>exact⟨λ_ _ h=>h,h0,λ_ _ h=>.inl h,λ_ h=>h⟩
 | @sub I M M1 I' M' ao k a2=>
  have U:dU I M1 w:=⟨h0.i,λx ab=>h0.m x (ao.subset ab),λx ab=>h0.d x (ao.subset ab),(ao.map _).nodup h0.bS⟩;obtain⟨bN,cG,c6,fk⟩:=a2 U;refine⟨bN,cG,λb o af=>?_,λx ab=>ao.subset (fk x ab)⟩;rcases c6 b o af with h | ⟨x,ab,h⟩;·exact .inl h
  ·exact .inr ⟨x,ao.subset ab,h⟩
 | @perm I M M1 I' M' aO k a2=>
  have U:dU I M1 w:=⟨h0.i,λx ab=>h0.m x (aO.mem_iff.2 ab),λx ab=>h0.d x (aO.mem_iff.2 ab),(aO.map _).nodup_iff.1 h0.bS⟩;obtain⟨bN,cG,c6,fk⟩:=a2 U;refine⟨bN,cG,λb o af=>?_,λx ab=>aO.mem_iff.2 (fk x ab)⟩;rcases c6 b o af with h | ⟨x,ab,h⟩;·exact .inl h
  ·exact .inr ⟨x,aO.mem_iff.2 ab,h⟩
 | @pZ I M I' M' b o post a7 aw k a2=>
  subst a7;have cf:=h0.bS;simp only[dA,lg]at cf;have af:=h0.d ⟨b,o⟩ (by simp);simp only at af;have U:dU (ins I b o) post w:={
   i:=λiq o' h=>by
    unfold ins at h;by_cases e:iq=b;·subst e;simp only[o3,ba,ki]at h;subst h;exact h0.m ⟨iq,o⟩ (by simp)
    ·simp only[gh e,a5]at h;exact h0.i _ _ h
   m:=λx ab=>h0.m x (by simp[ab])
   d:=λx ab=>by unfold ins;have e:x.num≠b:=λe=>cf.1 (du.2 ⟨x,ab,e⟩);simp only[gh e,a5];exact h0.d x (by simp[ab])
   bS:=cf.2 }
  obtain⟨bN,cG,c6,fk⟩:=a2 U;refine⟨λiq o' h=>bN iq o' ?_,cG,λiq o' h=>?_,λx ab=>by simp[fk x ab]⟩
  ·unfold ins;by_cases e:iq=b
   ·subst e;rw[af]at h;cases h
   ·simp only[gh e,a5];exact h
  ·rcases c6 iq o' h with h | ⟨x,ab,h⟩
   ·unfold ins at h;by_cases e:iq=b
    ·subst e;simp only[o3,ba,ki]at h;exact .inr ⟨⟨iq,o⟩,by simp,rfl,h,aw⟩
    ·simp only[gh e,a5]at h;exact .inl h
   ·exact .inr ⟨x,by simp[ab],h⟩
def cc.hA{X:cx}{β:Nat->Nat}{F:Fr}{C:c7}{I I':aN}{M M':List aC}(h:cc X β a w F C I M)(hw:hP X.bP I M I' M'):cc X β a w F C I' M':=by
 obtain⟨bN,cG,c6,fk⟩:=hw.le h.holds;exact { h with
  holds:=cG
  defers:=h.defers.mono λr an=>by
   refine { an with ik:=?_,dY:=λx ab=>an.dY x (fk x ab) };cases a9:I' r with
   |none=>rfl
   |some o=>
    exfalso;rcases c6 _ _ a9 with U | ⟨x,ab,U,_⟩;·rw[an.ik]at U;cases U
    ·exact an.dY x ab U
  bX:=λs cs ao=>{ h.bX s cs ao with
   ik:=by
    cases a9:I' (β s)with
    |none=>rfl
    |some o=>
     exfalso;rcases c6 _ _ a9 with U | ⟨x,ab,U,_⟩;·rw[(h.bX s cs ao).ik]at U;cases U
     ·exact(h.bX s cs ao).dY x ab U
   dY:=λx ab=>(h.bX s cs ao).dY x (fk x ab) }
  g3:=λb o af=>bN b o (h.g3 b o af)
  gF:=λb o af=>by
   rcases c6 b o af with U | ⟨x,ab,rfl,_,aw⟩;·exact h.gF b o U
   ·exact .inr ((h.own x ab).resolve_left aw)
  own:=λx ab=>h.own x (fk x ab) }
section
variable{X:cx}{β:Nat->Nat}{a:Act}{w:World}{F:Fr}{C:c7}{I:aN}{M:List aC}{o:Oper}{Q:Exit->Act->World->Prop}{K:fG}
def Po(h:cc X β a w F C I M)(ai:∀ d,o.dst=some d->d<X.n)(cf:∀ c,o.op≠.defer c){x:cW}(an:(execOp a.eval o).run X.P w=.ok (.value v) w)(ab:dV β x v)(ae:K (put o.dst x F) C I M):o.wpIn (fW X) 0 X.P a w (Sat X K) Q:=
 hZ cf an ⟨_,_,_,_,⟨β,h.put ai ab⟩,ae⟩
def vW(h:cc X β a w F C I M)(ai:∀ d,o.dst=some d->d<X.n)(cf:∀ c,o.op≠.defer c)(an:(execOp a.eval o).run X.P w=.ok (.value v) w)(ae:K (put o.dst (.val v) F) C I M):o.wpIn (fW X) 0 X.P a w (Sat X K) Q:=
 Po (x:=.val v) h ai cf an rfl ae
def ms(k:IntKind)(n:Int)(w:World)(P:Program):(asIntOf (.int k n)).run P w=.ok (k,n) w:=rfl
def IntKind.Ad{k cd:IntKind}(h:IntKind.kN k cd=true):k=cd:=by cases k<;>cases cd<;>first | rfl | cases h
def mu(op:BinOp)(t:Nat)(x y:Operand)(k cd:IntKind)(n m:Int)(P:Program)(w:World):(eqGuard op t x y (.int k n) (.int cd m)).run P w=.ok () w:=by
 unfold eqGuard;cases op<;>rfl
def JD(op:BinOp)(t:Nat)(x y:Operand)(n m:ByteArray)(P:Program)(w:World):(eqGuard op t x y (.string n) (.string m)).run P w=.ok () w:=by
 unfold eqGuard;cases op<;>rfl
def Pp(op:BinOp)(t:Nat)(x y:Operand)(n m:Bool)(P:Program)(w:World):(eqGuard op t x y (.bool n) (.bool m)).run P w=.ok () w:=by
 unfold eqGuard;cases op<;>rfl
def Pq(a b:ByteArray):(a.toList == b.toList)=decide (a=b):=by
 rw[n5];simp only[beq_iff_eq,ft];constructor
 ·intro h;have U:a.data.toList=b.data.toList:=by rw[ByteArray.toList_eq,ByteArray.toList_eq]at h;exact h
  cases a;cases b;simp only[ByteArray.mk.injEq];exact fV U
 ·intro h;rw[h]
def run_equal_bool{t:Nat}(hu:P.underlying t=some .bool)(a b:Bool)(w:World):(Op.equal t (.bool a) (.bool b)).run P w=.ok (a == b) w:=by
 have key:∀ d,(Op.equalIn (d+1) t (.bool a) (.bool b)).run P w=.ok (a == b) w:=λd=>by simp only[Op.equalIn,bM,run_underlying hu,bx,cy]
 exact key 9999
def X5(aH:cB X.P X.E)(op:BinOp)(t:Nat)(x y:Operand)(u v:cW)(kl uI:Value)(ab:u=.val kl)(aG:v=.val uI)(Pr:Value->Prop)(other:Prop)
  (h:jZ op (X.E t) u v Pr other):other\/∃ r,(∀ w,(do eqGuard op t x y kl uI;binOp op t kl uI:Sem Value).run X.P w=.ok r w)/\Pr r:=by
 subst ab;subst aG;unfold jZ at h;split at h
 ·rename_i k a cd b ax az;cases ax;cases az
  right
  split at h;·obtain⟨j,rfl,⟨r,an,ae⟩⟩:=h;refine⟨_,λw=>?_,ae⟩;simp only[bM,mu,bx,binOp,Op.shift];rw[dc (by omega)];simp[an]
  ·obtain⟨j,rfl,ae⟩:=h;refine⟨_,λw=>?_,ae⟩;simp only[bM,mu,bx,binOp,Op.shift];rw[dc (by omega)];simp
  ·rename_i fY ja;cases gT:IntKind.kN k cd with
   |false=>rw[gT]at h;exact h.elim
   |true=>
    rw[gT]at h;have X6:=IntKind.Ad gT;subst X6;simp only[ba]at h;cases op<;>simp only at h
    case add=>obtain⟨r,an,ae⟩:=h;exact⟨_,λw=>by simp[mu,binOp,Op.intArith,an],ae⟩
    case sub=>obtain⟨r,an,ae⟩:=h;exact⟨_,λw=>by simp[mu,binOp,Op.intArith,an],ae⟩
    case mul=>obtain⟨r,an,ae⟩:=h;exact⟨_,λw=>by simp[mu,binOp,Op.intArith,an],ae⟩
    case quo=>obtain⟨aq,r,an,ae⟩:=h;exact⟨_,λw=>by simp[mu,binOp,Op.intDiv,aq,an],ae⟩
    case rem=>obtain⟨aq,ae⟩:=h;exact⟨_,λw=>by simp[mu,binOp,Op.intDiv,aq],ae⟩
    case and=>exact⟨_,λw=>by simp[mu,binOp,Op.intBits,rM],h⟩
    case or=>exact⟨_,λw=>by simp[mu,binOp,Op.intBits,rM],h⟩
    case xor=>exact⟨_,λw=>by simp[mu,binOp,Op.intBits,rM],h⟩
    case andNot=>exact⟨_,λw=>by simp[mu,binOp,Op.intBits,rM],h⟩
    case shl=>exact(fY rfl).elim
    case shr=>exact(ja rfl).elim
    case eql=>exact⟨_,λw=>by simp only[bM,mu,bx,binOp,Op.intCmp,uB];simp;rfl,h⟩
    case neq=>exact⟨_,λw=>by simp only[bM,mu,bx,binOp,Op.intCmp,uB];simp;rfl,h⟩
    case lss=>exact⟨_,λw=>by simp[mu,binOp,Op.intCmp,uB],h⟩
    case leq=>exact⟨_,λw=>by simp[mu,binOp,Op.intCmp,uB],h⟩
    case gtr=>exact⟨_,λw=>by simp[mu,binOp,Op.intCmp,uB],h⟩
    case geq=>exact⟨_,λw=>by simp[mu,binOp,Op.intCmp,uB],h⟩
 ·rename_i a b ax az;cases ax;cases az;split at h
  ·exact .inr ⟨_,λw=>by simp only[bM,JD,bx,binOp,Op.stringOp,cy,Pq],h⟩
  ·exact .inr ⟨_,λw=>by simp only[bM,JD,bx,binOp,Op.stringOp,cy,Pq],h⟩
  ·exact .inl h
 ·rename_i a b ax az;cases ax;cases az;split at h
  ·rename_i c9 sz g' z au;obtain⟨d,hu,ai⟩:=(aH _ _ au).e1;have gi:d=.bool:=by cases d<;>simp_all[eW]
   subst gi;split at h;·exact .inr ⟨_,λw=>by simp only[bM,Pp,bx,binOp,run_equal_bool hu,cy],h⟩
   ·exact .inr ⟨_,λw=>by simp only[bM,Pp,bx,binOp,run_equal_bool hu,cy],h⟩
   ·exact .inl h
  ·exact .inl h
 ·exact .inl h
def JE{args:Array Value}(h:Calls P f args w R)(n:Nat):CallsIn (fW X) n P f args w R:=by have U:=(callsIn_wide (n:=n)).2 h;exact⟨trivial,λcs an=>U.2 cs (room_wide _)⟩
def dU.part(h:dU I M w){c4 Mr:List aC}(a7:M.Perm (c4++Mr)):dU I c4 w:=by
 have gU:∀ x,x∈M ↔ x∈c4\/x∈Mr:=λx=>by rw[a7.mem_iff,en]
 have cf:((c4++Mr).map (·.num)).Nodup:=(a7.map (·.num)).nodup_iff.1 h.bS;rw[gg,xM]at cf;exact⟨h.i,λx ab=>h.m x ((gU x).2 (.inl ab)),λx ab=>h.d x ((gU x).2 (.inl ab)),cf.1⟩
def cc.after(h:cc X β a w F C I M){c4 Mr M':List aC}{I':aN}(a7:M.Perm (c4++Mr))(o5:dU I' M' w')(fl:Kept I c4 w I' M' w'):cc X β a w' F C I' (M'++Mr):=by
 have gU:∀ x,x∈M ↔ x∈c4\/x∈Mr:=λx=>by rw[a7.mem_iff,en]
 have cf:((c4++Mr).map (·.num)).Nodup:=(a7.map (·.num)).nodup_iff.1 h.holds.bS;rw[gg,xM]at cf;have Ps:∀ x∈Mr,∀ y∈c4,y.num≠x.num:=λx ab y aG=>cf.2.2 y.num (du.2 ⟨y,aG,rfl⟩) x.num (du.2 ⟨x,ab,rfl⟩);have X7:∀ x∈Mr,w'.heap[x.num]?=w.heap[x.num]?:=λx ab=>
  fl.cY x.num (h.holds.lt ((gU x).2 (.inr ab))) (Ps x ab)
 exact {
  size:=h.size
  defers:=h.defers.mono λr an=>by
   have aL:=(kg.1 an.at_).1;refine { at_:=?_,base:=an.base,ik:=?_,dY:=λx ab=>?_ };·rw[fl.cY _ aL (λy aG=>an.dY y ((gU y).2 (.inl aG)))];exact an.at_
   ·cases a9:I' r with
    |none=>rfl
    |some o=>
     exfalso;rcases fl.sV _ _ a9 with U | U;·rw[an.ik]at U;cases U
     ·omega
   ·rcases en.1 ab with ab | ab
    ·rcases fl.uC x ab with⟨z,bd,xW⟩ | U
     ·rw[<-xW];exact an.dY z ((gU z).2 (.inl bd))
     ·omega
    ·exact an.dY x ((gU x).2 (.inr ab))
  holds:={
   i:=o5.i
   m:=λx ab=>by
    rcases en.1 ab with ab | ab;·exact o5.m x ab
    ·rw[X7 x ab];exact h.holds.m x ((gU x).2 (.inr ab))
   d:=λx ab=>by
    rcases en.1 ab with ab | ab;·exact o5.d x ab
    ·cases a9:I' x.num with
     |none=>rfl
     |some o=>
      exfalso;rcases fl.sV _ _ a9 with U | U;·have:=h.holds.d x ((gU x).2 (.inr ab));rw[this]at U;cases U
      ·have:=h.holds.lt ((gU x).2 (.inr ab));omega
   bS:=by
    rw[gg,xM];refine⟨o5.bS,cf.2.1,λp aO q aE e=>?_⟩;obtain⟨x,ab,rfl⟩:=du.1 aO;obtain⟨y,aG,rfl⟩:=du.1 aE;rcases fl.uC x ab with⟨z,bd,xW⟩ | U;·exact Ps y aG z bd (xW.trans e)
    ·have:=h.holds.lt ((gU y).2 (.inr aG));omega }
  aj:=h.aj
  bX:=λs cs ao=>by
   have af:=h.bX s cs ao;obtain⟨T,br⟩:=af.at_;refine { at_:=⟨T,?_⟩,base:=af.base,ik:=?_,dY:=λx ab=>?_ };·rw[fl.cY _ af.lt (λy aG=>af.dY y ((gU y).2 (.inl aG)))];exact br
   ·cases a9:I' (β s)with
    |none=>rfl
    |some o=>
     exfalso;rcases fl.sV _ _ a9 with U | U;·rw[af.ik]at U;cases U
     ·have:=af.lt;omega
   ·rcases en.1 ab with ab | ab
    ·rcases fl.uC x ab with⟨z,bd,xW⟩ | U
     ·rw[<-xW];exact af.dY z ((gU z).2 (.inl bd))
     ·have:=af.lt;omega
    ·exact af.dY x ((gU x).2 (.inr ab))
  inj:=h.inj
  g3:=λb o af=>fl.le b o (h.g3 b o af)
  gF:=λb o af=>by
   rcases fl.sV b o af with U | U;·exact h.gF b o U
   ·exact .inr (jB h.sz U)
  own:=λx ab=>by
   rcases en.1 ab with ab | ab
   ·rcases fl.uC x ab with⟨z,bd,xW⟩ | U
    ·rw[<-xW];exact h.own z ((gU z).2 (.inl bd))
    ·exact .inr (jB h.sz U)
   ·exact h.own x ((gU x).2 (.inr ab))
  cY:=λb af aw=>by
   rw[fl.cY b (Cc af h.sz) (λy aG e=>by
    rcases h.own y ((gU y).2 (.inl aG))with U | U;·exact aw (e ▸ U)
    ·omega)]
   exact h.cY b af aw
  out:=h.out.trans fl.out
  sz:=jB h.sz fl.sz }
def cc.call(h:cc X β a w F C I M){KC:Value->aN->List aC->Prop}(aA:aT X.bP P f args I M KC) :
  (Ju P f/\Calls P f args.toArray w λe w'=>∃ v I' M',e=.returned v/\KC v I' M'/\cc X β a w' F C I' M')\/(∃ v w' I' M',(callFunc f args.toArray).run P w=.ok (.value v) w'/\KC v I' M'/\cc X β a w' F C I' M'):=by
 obtain⟨c8,c4,Mr,post,gV,⟨n8,ao⟩ | ao,ae⟩:=aA.elim ⟨h.holds.d,h.holds.bS⟩<;>have h:=h.hA gV<;>have a7:=List.Perm.refl (c4++Mr)
 ·refine .inl ⟨n8,?_⟩;refine(ao w (h.holds.part a7)).mono ?_;rintro e w'⟨v,I',M',rfl,aO,o5,fl⟩;have aD:=h.after a7 o5 fl;exact⟨v,I',M'++Mr,rfl,ae v I' M' fl.le aD.holds.d aO,aD⟩
 ·obtain⟨v,w',I',M',an,aO,o5,fl⟩:=ao w (h.holds.part a7);have aD:=h.after a7 o5 fl;exact .inr ⟨v,w',I',M'++Mr,an,ae v I' M' fl.le aD.holds.d aO,aD⟩
def Pt{args:Array Value}(cf:∀ c,o.op≠.defer c)(an:(execOp a.eval o).run X.P w=.ok (.enter f args) w)
  (aA:Calls X.P f args w λe w'=>∃ v,e=.returned v/\next (a.put o.dst v) w'):o.wpIn (fW X) 0 X.P a w next Q:=by
 refine⟨λ_ _=>trivial,?_⟩;rw[FI _ _ _ cf,an];refine⟨(λh=>by cases h),?_⟩;refine(JE aA _).mono ?_;rintro e w'⟨v,rfl,h⟩;exact h
def Pu(z:Value)(vX:List Value)(h:z.cells.toList=vX)(n:Nat):(Array.range n).map (z.cells[· % z.cells.size]!)=(rowOf vX n).toArray:=by subst h;apply fV;simp[z',madeCells]
def iQ.struct{t:Nat}{bT:List (Nat×Nat)}(h:iQ P t ⟨sz,g',z,.struct bT⟩):∃ fields,P.underlying t=some (.struct fields)/\bT=fields.toList.map λf=>(f.type,f.offset):=by
 obtain⟨d,U,aa⟩:=h.e1;cases d<;>simp[eW]at aa
 exact⟨_,U,aa.symm⟩
def iQ.slice{t:Nat}(h:iQ P t ⟨sz,g',z,.slice e⟩):P.underlying t=some (.slice e):=by
 obtain⟨d,U,aa⟩:=h.e1;cases d<;>simp[eW]at aa
 rw[U,aa]
def iQ.array{t:Nat}(h:iQ P t ⟨sz,g',z,.array n e⟩):P.underlying t=some (.array n e):=by
 obtain⟨d,U,aa⟩:=h.e1;cases d<;>simp[eW]at aa
 rw[U,aa.1,aa.2]
def iQ.string{t:Nat}(h:iQ P t ⟨sz,g',z,.string⟩):P.underlying t=some .string:=by
 obtain⟨d,U,aa⟩:=h.e1;cases d<;>simp[eW]at aa
 exact U
def iQ.int{P:Program}{t sz g':Nat}{z:List Value}{k:IntKind}(h:iQ P t ⟨sz,g',z,.int k⟩):P.underlying t=some (.int k):=by
 obtain⟨d,U,aa⟩:=h.e1;cases d<;>simp[eW]at aa
 rw[U,aa]
def Pv{fields:Array Field}{i kM:Nat}(h:(fields.toList.map λf=>(f.type,f.offset))[i]?=some (kM,off)):∃ f,fields[i]?=some f/\f.type=kM/\f.offset=off:=by
 simp only[xN,Array.getElem?_toList]at h;cases aw:fields[i]? with
 |none=>simp[aw]at h| some f=>simp[aw]at h;exact⟨f,rfl,h.1,h.2⟩
def JF{t:Nat}{i:dH}(h:iQ P t i)(hle:off+i.size<=cs.size)(w:World):(part t cs off).run P w=.ok (pack i.bz.agg ((cs.toList.drop off).take i.size)) w:=by
 unfold part;simp only[bM,h.Pl,bx];cases xT:i.bz.agg with
 |true=>simp only[o1,bM,h.run_sizeOf,bx,cy,pack,ba];congr 2;apply fV;simp[List.take_drop]
 |false=>
  have U:=h.FK xT;rw[U]at hle |-;have aL:off<cs.size:=by omega
  simp only[iP,jC,B' aL,cy,pack,a5];congr 1;rw[dS (by simpa using aL)];simp
def X8{t:Nat}{aF:dH}(au:P.underlying t=some (.slice e))(he:iQ P e aF){c:Nat}{j:Nat}(al:j<n)(w:World) :
  (Instr.indexAt t (.slice (some ad) n c) (.int e9 j)).run P w=.ok (.pointer (some (ad.add (j*aF.size)))) w:=by
 unfold Instr.indexAt;simp only[bM,ms,bx,run_underlying au,cy];rw[dv ⟨by omega,by omega⟩];simp[he.run_sizeOf]
def Pw{t:Nat}{aF:dH}(au:P.underlying t=some (.array m e))(he:iQ P e aF){j:Nat}(al:j<m)(w:World) :
  (Instr.indexAt t (.pointer (some ad)) (.int e9 j)).run P w=.ok (.pointer (some (ad.add (j*aF.size)))) w:=by
 unfold Instr.indexAt;simp only[bM,ms,bx,run_underlying au,cy,Instr.sureAddr];rw[dv ⟨by omega,by omega⟩];simp[he.run_sizeOf]
def Px{P:Program}{E:Env}(aH:cB P E)(w:World):∀ (fields:List Field),z9 E (fields.map λf=>(f.type,f.offset))=true -> ∃ l:List (Nat×Nat),(fields.mapM λf=>(do pure (f.offset,<-sizeOf f.type):Sem (Nat×Nat))).run P w=.ok l w/\∀ i,l[i]?=places E (fields.map λf=>(f.type,f.offset)) i
 |[],_=>⟨[],rfl,λi=>by simp[places]⟩
 |f::bT,h=>by
  simp only[z9,dA,qR,bL]at h;obtain⟨gl,ll⟩:=Option.isSome_iff_exists.1 h.1;obtain⟨l,U,aa⟩:=Px aH w bT h.2;refine⟨(f.offset,gl.size)::l,?_,λi=>?_⟩;·simp only[Cg,bM,(aH _ _ ll).run_sizeOf,bx,cy];rw[U];rfl
  ·cases i with
   |zero=>simp[places,ll]| succ i=>simp only[FE,aa];simp[places]
def Py(aH:cB X.P X.E)(h:cc X β a w F C I M){vY:cW->Prop}(op:Op)(ty:TypeId)(dst:Option Tmp)(pos:String)(after:Array Edge)(guard:Option (Nat×Bool))(ah:b5 X op (cR F) C I M vY other) :
  other\/∃ v x,(execOp a.eval ⟨dst,op,ty,pos,after,guard⟩).run X.P w=.ok (.value v) w/\dV β x v/\vY x:=by
 have done:∀ {v x},(execOp a.eval ⟨dst,op,ty,pos,after,guard⟩).run X.P w=.ok (.value v) w->dV β x v->vY x->other\/∃ v x,(execOp a.eval ⟨dst,op,ty,pos,after,guard⟩).run X.P w=.ok (.value v) w/\dV β x v/\vY x:=
  λU aa ag=>.inr ⟨_,_,U,aa,ag⟩
 have gW:∀ {v},(execOp a.eval ⟨dst,op,ty,pos,after,guard⟩).run X.P w=.ok (.value v) w->vY (.val v)->other\/∃ v x,(execOp a.eval ⟨dst,op,ty,pos,after,guard⟩).run X.P w=.ok (.value v) w/\dV β x v/\vY x:=
  fun {v} U ag=>.inr ⟨v,.val v,U,rfl,ag⟩
 have aw:=h.aj;cases op
 case move x=>exact done (by simp[execOp]) (uG aw x) ah
 case assign x=>exact done (by simp[execOp]) (uG aw x) ah
 case pick c p q=>
  simp only[b5]at ah;split at ah
  ·rename_i b af;have aA:=Jy aw af;cases b
   ·exact done (by simp[execOp,aA,asBool]) (uG aw q) ah
   ·exact done (by simp[execOp,aA,asBool]) (uG aw p) ah
  ·rename_i b af;have aA:=rO aw af;refine done (v:=if b then a.eval p else a.eval q) (x:=FL b (bm F p) (bm F q)) (by simp[execOp,aA,asBool]) ?_ ah;have U:=Pf aw p;have aa:=Pf aw q;unfold FL;split
   ·rename_i x y ax az;rw[ax]at U;rw[az]at aa;simp only[dV]at U aa |-;cases b<;>simp[U,aa]
   ·rename_i x y _ ax az;rw[ax]at U;rw[az]at aa;simp only[dV]at U aa |-;cases b<;>simp[U,aa]
   ·trivial
  ·exact ah.elim
 case unOp op t x=>
  simp only[b5]at ah;split at ah;·rename_i b af;exact done (v:=.bool (!b)) (x:=.lit (!b)) (by simp[execOp,Jy aw af,Op.unary]) rfl ah
  ·rename_i b af;exact gW (v:=.bool (!b)) (by simp[execOp,rO aw af,Op.unary]) ah
  ·rename_i k n af;obtain⟨r,an,ae⟩:=ah;exact gW (v:=.int k r) (by simp only[execOp,rO aw af,Op.unary,Op.intArith,an];simp) ae
  ·exact Or.inl ah
 case binOp op t x y ty'=>
  simp only[b5]at ah;by_cases ab:∃ kl uI,bm F x=.val kl/\bm F y=.val uI
  ·obtain⟨kl,uI,ab,aG⟩:=ab;have fin:∀ r,(∀ w,(do eqGuard op t x y kl uI;binOp op t kl uI:Sem Value).run X.P w=.ok r w)->vY (.val r)->(other\/∃ v mv,(execOp a.eval ⟨dst,.binOp op t x y ty',ty,pos,after,guard⟩).run X.P w=.ok (.value v) w/\dV β mv v/\vY mv):=λr an ae=>by refine gW (v:=r) ?_ ae;have:=an w;rw[<-cZ aw ab,<-cZ aw aG]at this;simp only[execOp];simp only[bM]at this |-;rw[this];rfl
   rcases X5 aH op t x y _ _ kl uI ab aG _ _ ah with(⟨e2,eN,r,aO,aE,an,ae⟩ | U) | ⟨r,an,ae⟩;·rw[show dh (cR F) x=bm F x from rfl,ab]at aO;rw[show dh (cR F) y=bm F y from rfl,aG]at aE;cases aO;cases aE;exact fin r an ae
   ·exact Or.inl U
   ·exact fin r an ae
  ·unfold jZ at ah;split at ah
   ·rename_i ax az;exact(ab ⟨_,_,ax,az⟩).elim
   ·rename_i ax az;exact(ab ⟨_,_,ax,az⟩).elim
   ·rename_i ax az;exact(ab ⟨_,_,ax,az⟩).elim
   ·rcases ah with⟨e2,eN,r,aO,aE,an,ae⟩ | U
    ·exact(ab ⟨_,_,aO,aE⟩).elim
    ·exact Or.inl U
 case load t x=>
  simp only[b5]at ah;split at ah
  ·rename_i i hi;split at ah
   ·rename_i s off ab;have h1:=xS aw ab;split at ah
    ·rename_i cs ao;cases hle:Nat.ble (off+i.size) cs.length with
     |false=>rw[hle]at ah;exact ah.elim| true=>rw[hle]at ah;have Co:=bB hle;obtain⟨T,br⟩:=(h.bX s cs ao).at_;refine gW (v:=pack i.bz.agg ((cs.drop off).take i.size)) ?_ ah;have:=FQ (aH _ _ hi) (a:=⟨β s,off,none⟩) rfl br (vs:=(cs.drop off).take i.size) (by simp) (by simp;omega);simp[execOp,Instr.loadAt,Instr.sureAddr,h1,this]
    ·exact ah.elim
   ·rename_i ad ab;have h1:=rO aw ab;obtain⟨vs,⟨bQ,cs,T,aj,dP,hn,ay⟩,ae⟩:=ah;refine gW (v:=pack i.bz.agg vs) ?_ ae;have:=FQ (aH _ _ hi) bQ (dP.heap h.holds) hn ay;simp[execOp,Instr.loadAt,Instr.sureAddr,h1,this]
   ·exact ah.elim
  ·exact ah.elim
 case nilCheck x=>
  simp only[b5]at ah;split at ah;·rename_i s off ab;exact done (v:=.pointer (some ⟨β s,off,none⟩)) (x:=.ref s off) (by simp[execOp,xS aw ab]) rfl ah
  ·rename_i ad ab;exact gW (v:=.pointer (some ad)) (by simp[execOp,rO aw ab]) ah
  ·exact Or.inl ah
 case fieldAddr t x i=>
  simp only[b5]at ah;split at ah
  ·rename_i sz g' z bT au;obtain⟨fields,hu,rfl⟩:=(aH _ _ au).struct;split at ah
   ·rename_i kM off h2;obtain⟨f,vZ,rfl,rfl⟩:=Pv h2;split at ah
    ·rename_i gl s o' ll ab;cases bd:Nat.beq gl.size 0 with
     |true=>rw[bd]at ah;exact ah.elim
     |false=>
      rw[bd]at ah;have ir:gl.size≠0:=λe=>by rw[e]at bd;cases bd
      refine done (v:=.pointer (some ⟨β s,o'+f.offset,none⟩)) (x:=.ref s (o'+f.offset)) ?_ rfl ah;simp[execOp,Instr.fieldAt,run_underlying hu,vZ,xS aw ab,Instr.sureAddr,fieldPlace,(aH _ _ ll).run_sizeOf,ir,d']
    ·rename_i gl ad ll ab;cases bd:Nat.beq gl.size 0 with
     |true=>rw[bd]at ah;exact ah.elim
     |false=>
      rw[bd]at ah;have ir:gl.size≠0:=λe=>by rw[e]at bd;cases bd
      refine gW (v:=.pointer (some (ad.add f.offset))) ?_ ah;simp[execOp,Instr.fieldAt,run_underlying hu,vZ,rO aw ab,Instr.sureAddr,fieldPlace,(aH _ _ ll).run_sizeOf,ir]
    ·exact ah.elim
   ·exact ah.elim
  ·exact ah.elim
 case field t x i=>
  simp only[b5]at ah;split at ah
  ·rename_i sz g' z bT cs au ab;obtain⟨fields,hu,rfl⟩:=(aH _ _ au).struct;split at ah
   ·rename_i kM off h2;obtain⟨f,vZ,rfl,rfl⟩:=Pv h2;split at ah
    ·rename_i gl ll;cases bd:Nat.ble (f.offset+gl.size) cs.size with
     |false=>rw[bd]at ah;exact ah.elim| true=>rw[bd]at ah;refine gW ?_ ah;simp[execOp,Instr.field,run_underlying hu,vZ,cZ aw ab,asAgg,JF (aH _ _ ll) (bB bd)]
    ·exact ah.elim
   ·exact ah.elim
  ·exact ah.elim
 case indexAddr t x i=>
  simp only[b5]at ah;split at ah
  ·rename_i sz g' z e e9 k au hi;have hu:=(aH _ _ au).slice;split at ah
   ·rename_i aF bF n c gX ab;obtain⟨ad,j,rfl,rfl,al,ae⟩:=ah;refine gW ?_ ae;simp[execOp,cZ aw ab,cZ aw hi,X8 hu (aH _ _ gX) al]
   ·exact ah.elim
  ·rename_i sz g' z n e e9 k au hi;have hu:=(aH _ _ au).array;split at ah
   ·rename_i aF s o' gX ab;obtain⟨j,rfl,al,ae⟩:=ah;refine done (v:=.pointer (some ⟨β s,o'+j*aF.size,none⟩)) (x:=.ref s (o'+j*aF.size)) ?_ rfl ae;simp[execOp,xS aw ab,cZ aw hi,Pw hu (aH _ _ gX) al,d']
   ·rename_i aF ad gX ab;obtain⟨j,rfl,al,ae⟩:=ah;refine gW ?_ ae;simp[execOp,rO aw ab,cZ aw hi,Pw hu (aH _ _ gX) al]
   ·exact ah.elim
  ·exact ah.elim
 case index t x i=>
  simp only[b5]at ah;split at ah;·rename_i sz g' z s e9 k au ab hi;have hu:=(aH _ _ au).string;obtain⟨j,rfl,al,ae⟩:=ah;refine gW ?_ ae;simp only[execOp,cZ aw ab,cZ aw hi,Instr.index,bM,ms,bx,run_underlying hu];rw[dv (by omega:(0:Int)<=j)];simp[al]
  ·rename_i sz g' z n e cs e9 k au ab hi;have hu:=(aH _ _ au).array;split at ah
   ·rename_i aF gX;cases bd:Nat.beq (n*aF.size) cs.size with
    |false=>rw[bd]at ah;exact ah.elim
    |true=>
     rw[bd]at ah;obtain⟨j,rfl,al,ae⟩:=ah;have ir:=cC bd;refine gW ?_ ae;have hle:j*aF.size+aF.size<=cs.size:=by rw[<-ir,<-Nat.succ_mul];exact qP _ al
     simp only[execOp,cZ aw ab,cZ aw hi,Instr.index,bM,ms,bx,run_underlying hu];rw[dv ⟨by omega,by omega⟩];simp[(aH _ _ gX).run_sizeOf,JF (aH _ _ gX) hle]
   ·exact ah.elim
  ·exact ah.elim
 case build t parts=>
  simp only[b5]at ah;split at ah
  ·rename_i i vs hi hn;have aO:=FN aw hn;have v0:(parts.map λ(i,x)=>(i,a.eval x)).toList=vs:=by simpa using aO
   obtain⟨z,bd,uJ⟩:=(aH _ _ hi).Cl w;have Ae:z.cells=i.zero.toArray:=by rw[<-uJ]
   split at ah
   ·rename_i bT lS;cases bb:z9 X.E bT with
    |false=>rw[bb]at ah;exact ah.elim
    |true=>
     rw[bb]at ah;simp only[ba]at ah;split at ah
     ·rename_i cells sY;obtain⟨sz,g',X9,bz⟩:=i;simp only at lS;subst lS;obtain⟨fields,hu,rfl⟩:=(aH _ _ hi).struct;obtain⟨l,ay,o6⟩:=Px aH w fields.toList bb;refine gW ?_ ah;have hm:(fields.mapM λf=>(do pure (f.offset,<-sizeOf f.type):Sem (Nat×Nat))).run X.P w=.ok l.toArray w:=by rw[Pe,Sem.run_map,ay];rfl
      have xX:=fill_eq _ _ _ _ sY;have X':(λj=>l.toArray[j]?)=places X.E (fields.toList.map λf=>(f.type,f.offset)):=by funext j;rw[<-o6 j];simp
      simp only[execOp,Instr.build,bM,bd,bx,run_underlying hu,Ae,v0];rw[hm];simp only[bx,X',xX,cy]
     ·exact ah.elim
   ·rename_i n e lS;split at ah
    ·rename_i aF gX;split at ah
     ·rename_i cells sY;obtain⟨sz,g',X9,bz⟩:=i;simp only at lS;subst lS;have hu:=(aH _ _ hi).array;refine gW ?_ ah;have xX:=fill_eq _ _ _ _ sY;simp only[execOp,Instr.build,bM,bd,bx,run_underlying hu,Ae,v0,(aH _ _ gX).run_sizeOf,xX,cy]
     ·exact ah.elim
    ·exact ah.elim
   ·exact ah.elim
  ·exact ah.elim
 case makeFunc fn first captured=>
  simp only[b5]at ah;split at ah
  ·rename_i bT cs U aa;have ax:=qY aw U;have az:=qY aw aa;refine gW ?_ ah;have dy:first.map a.eval=bT.toArray:=by apply fV;simpa using ax
   have dZ:captured.map a.eval=cs.toArray:=by apply fV;simpa using az
   simp[execOp,Instr.makeFunc,dy,dZ]
  ·exact ah.elim
 case slice t x lo hi mx=>
  simp only[b5]at ah;split at ah
  ·rename_i sz g' z e bF n c au ab;have hu:=(aH _ _ au).slice;have h1:=cZ aw ab;split at ah
   ·rename_i aF gX dX eX;have xY:lo=none:=by simpa using dX
    have xZ:hi=none:=by simpa using eX
    subst xY;subst xZ;refine gW ?_ ah;have ax:(if c=0 then bF else bF.map (·.add (0*aF.size)))=bF:=by split<;>cases bF<;>simp[Addr.add]
    simp[execOp,Instr.sliceAt,Instr.slice,Instr.sliceBounds,h1,run_underlying hu,(aH _ _ gX).run_sizeOf,Addr.add]
   ·rename_i aF e9 kO gX dX eX;have xY:lo=none:=by simpa using dX
    subst xY;obtain⟨JG,rfl,bI⟩:=sU.1 eX;obtain⟨l,aa,FT,rfl,hle,n9,ae⟩:=ah;refine gW ?_ ae;simp only[execOp,Instr.sliceAt,Instr.slice,Instr.sliceBounds,Instr.sliceBound,h1,bM,run_underlying hu,bx,(aH _ _ gX).run_sizeOf,cy,kj,vS,cZ aw bI,ms];rw[dv ⟨by omega,by omega⟩];simp[Addr.add]
   ·rename_i aF e9 FU gX dX eX;have xZ:hi=none:=by simpa using eX
    subst xZ;obtain⟨JH,rfl,bI⟩:=sU.1 dX;obtain⟨l,aa,rfl,JI,hle,n9,ae⟩:=ah;simp only[rK,iZ]at *;refine gW ?_ ae;simp only[execOp,Instr.sliceAt,Instr.slice,Instr.sliceBounds,Instr.sliceBound,h1,bM,run_underlying hu,bx,(aH _ _ gX).run_sizeOf,cy,kj,vS,cZ aw bI,ms];rw[dv ⟨by omega,by omega⟩];simp
   ·rename_i aF e9 FU Ya kO gX dX eX;obtain⟨JH,rfl,bI⟩:=sU.1 dX;obtain⟨JG,rfl,JJ⟩:=sU.1 eX;obtain⟨l,aa,rfl,rfl,hle,n9,ae⟩:=ah;refine gW ?_ ae;simp only[execOp,Instr.sliceAt,Instr.slice,Instr.sliceBounds,Instr.sliceBound,h1,bM,run_underlying hu,bx,(aH _ _ gX).run_sizeOf,cy,kj,vS,cZ aw bI,cZ aw JJ,ms];rw[dv ⟨by omega,by omega⟩];simp only[cy,bx,jA];rw[dv ⟨by omega,by omega⟩];simp
   ·exact ah.elim
  ·rename_i sz g' z s au ab;have hu:=(aH _ _ au).string;have h1:=cZ aw ab;split at ah
   ·rename_i dX eX;have xY:lo=none:=by simpa using dX
    have xZ:hi=none:=by simpa using eX
    subst xY;subst xZ;refine gW ?_ ah;have ax:s.extract 0 s.size=s:=by apply oZ;simp[z6]
    simp[execOp,Instr.sliceAt,Instr.slice,Instr.sliceBounds,h1,run_underlying hu,ax]
   ·rename_i e9 kO dX eX;have xY:lo=none:=by simpa using dX
    subst xY;obtain⟨JG,rfl,bI⟩:=sU.1 eX;obtain⟨l,aa,FT,rfl,hle,n9,ae⟩:=ah;refine gW ?_ ae;simp only[execOp,Instr.sliceAt,Instr.slice,Instr.sliceBounds,Instr.sliceBound,h1,bM,run_underlying hu,bx,cy,kj,vS,cZ aw bI,ms];simp only[Js,iP,jC,bM,cy,bx,ms];rw[dv ⟨by omega,by omega⟩];simp
   ·rename_i e9 FU dX eX;have xZ:hi=none:=by simpa using eX
    subst xZ;obtain⟨JH,rfl,bI⟩:=sU.1 dX;obtain⟨l,aa,rfl,JI,hle,n9,ae⟩:=ah;simp only[rK,iZ]at *;refine gW ?_ ae;simp only[execOp,Instr.sliceAt,Instr.slice,Instr.sliceBounds,Instr.sliceBound,h1,bM,run_underlying hu,bx,cy,kj,vS,cZ aw bI,ms];simp only[Js,iP,jC,bM,cy,bx,ms];rw[dv ⟨by omega,by omega⟩];simp
   ·rename_i e9 FU Ya kO dX eX;obtain⟨JH,rfl,bI⟩:=sU.1 dX;obtain⟨JG,rfl,JJ⟩:=sU.1 eX;obtain⟨l,aa,rfl,rfl,hle,n9,ae⟩:=ah;refine gW ?_ ae;simp only[execOp,Instr.sliceAt,Instr.slice,Instr.sliceBounds,Instr.sliceBound,h1,bM,run_underlying hu,bx,cy,kj,vS,cZ aw bI,cZ aw JJ,ms];simp only[Js,iP,jC,bM,cy,bx,ms];rw[dv ⟨by omega,by omega⟩];simp only[cy,bx,jA];rw[dv ⟨by omega,by omega⟩];simp
   ·exact ah.elim
  ·exact Or.inl ah
 case extract x i=>
  simp only[b5]at ah;split at ah
  ·rename_i vs ab;split at ah
   ·rename_i v hi;refine gW ?_ ah;have cT:vs[i]?=some v:=by simpa using hi
    simp[execOp,Instr.extract,cZ aw ab,cT]
   ·exact ah.elim
  ·exact ah.elim
 case convert s d x=>
  simp only[b5]at ah;split at ah;·rename_i akR sz g' z k cd n ao au ab;have hu:=(aH _ _ au).int;obtain⟨ds,fm,_⟩:=(aH _ _ ao).e1;obtain⟨r,an,ae⟩:=ah;refine gW ?_ ae;simp only[execOp,convert,cZ aw ab,bM,run_underlying fm,run_underlying hu,bx];simp only[Conv.intToInt,an,cy,bx]
  ·exact Or.inl ah
 case call c=>
  obtain⟨callee,args,argTypes⟩:=c;cases callee with
  |value f=>exact .inl ah| invoke r m=>exact .inl ah
  |builtin b=>
   cases b
   case len=>
    simp only[b5]at ah;split at ah
    ·rename_i t v U aa;have ax:=qY aw aa;have dy:args.map a.eval=#[v]:=by apply fV;simpa using ax
     have au:argTypes=#[t]:=by apply fV;simpa using U
     subst au;split at ah;·rename_i sz g' z e ad n c br;have hu:=(aH _ _ br).slice;refine gW ?_ ah;simp[execOp,resolve,invoke,builtin,Builtin.len_,dy,run_underlying hu,goInt]
     ·rename_i sz g' z s br;have hu:=(aH _ _ br).string;refine gW ?_ ah;simp[execOp,resolve,invoke,builtin,Builtin.len_,dy,run_underlying hu,goInt]
     ·rename_i sz g' z n e br;have hu:=(aH _ _ br).array;refine gW ?_ ah;simp[execOp,resolve,invoke,builtin,Builtin.len_,dy,run_underlying hu,goInt]
     ·exact Or.inl ah
    ·exact Or.inl ah
   case cap=>
    simp only[b5]at ah;split at ah
    ·rename_i t v U aa;have ax:=qY aw aa;have dy:args.map a.eval=#[v]:=by apply fV;simpa using ax
     have au:argTypes=#[t]:=by apply fV;simpa using U
     subst au;split at ah;·rename_i sz g' z e ad n c br;have hu:=(aH _ _ br).slice;refine gW ?_ ah;simp[execOp,resolve,invoke,builtin,Builtin.cap_,dy,run_underlying hu,goInt]
     ·exact Or.inl ah
    ·exact Or.inl ah
   case max=>
    simp only[b5]at ah;split at ah
    ·rename_i k p cd q aa;have ax:=qY aw aa;have dy:args.map a.eval=#[.int k p,.int cd q]:=by apply fV;simpa using ax
     refine gW ?_ ah;have hm:(if q > p then q else p)=max p q:=by split<;>omega
     simp only[execOp,resolve,invoke,builtin,Builtin.max_,Builtin.max2,dy,bM,cy,bx,List.foldlM_cons,List.foldlM_nil,hm]
    ·exact Or.inl ah
   case min=>
    simp only[b5]at ah;split at ah
    ·rename_i k p cd q aa;have ax:=qY aw aa;have dy:args.map a.eval=#[.int k p,.int cd q]:=by apply fV;simpa using ax
     refine gW ?_ ah;have hm:(if q<p then q else p)=min p q:=by split<;>omega
     simp only[execOp,resolve,invoke,builtin,Builtin.min_,Builtin.min2,dy,bM,cy,bx,List.foldlM_cons,List.foldlM_nil,hm]
    ·exact Or.inl ah
   case unsafeSliceData=>
    simp only[b5]at ah;split at ah
    ·rename_i n c aa;have ax:=qY aw aa;have dy:args.map a.eval=#[.slice none n c]:=by apply fV;simpa using ax
     refine gW ?_ ah;simp only[execOp,resolve,invoke,builtin,dy,bM,cy,bx,Lib.run_unsafeSliceData_nil]
    ·rename_i ad n c aa;obtain⟨ag,ah⟩:=ah;have ax:=qY aw aa;have dy:args.map a.eval=#[.slice (some ad) n c]:=by apply fV;simpa using ax
     refine gW ?_ ah;simp only[execOp,resolve,invoke,builtin,dy,bM,cy,bx,Lib.run_unsafeSliceData_row _ _ _ _ _ _ (show c≠0 by omega)]
    ·exact Or.inl ah
   all_goals exact .inl ah
 all_goals exact .inl ah
def Af(aH:cB X.P X.E)(ai:∀ d,o.dst=some d->d<X.n)(h:Rel X a w F C I M)(ah:fX X o F C I M K):o.wpIn (fW X) 0 X.P a w (Sat X K) Q:=by
 have aZ:=h;obtain⟨β,h⟩:=h;obtain⟨dst,op,ty,pos,after,guard⟩:=o;have other:be X ⟨dst,op,ty,pos,after,guard⟩ F C I M K->(⟨dst,op,ty,pos,after,guard⟩:Oper).wpIn (fW X) 0 X.P a w (Sat X K) Q:=λ⟨h⟩=>h a w Q aZ;have aw:=h.aj;have quiet:b5 X op (cR F) C I M (λx=>K (Go.V.put dst x F) C I M) (be X ⟨dst,op,ty,pos,after,guard⟩ F C I M K)->(∀ c,op≠.defer c)->(⟨dst,op,ty,pos,after,guard⟩:Oper).wpIn (fW X) 0 X.P a w (Sat X K) Q:=λaE cf=>by
  rcases Py aH h op ty dst pos after guard aE with U | ⟨v,x,an,ab,ae⟩;·exact other U
  ·exact Po (o:=⟨dst,op,ty,pos,after,guard⟩) h ai cf an ab ae
 cases op
 case box t x=>
  simp only[fX]at ah;split at ah
  ·rename_i d v ab;have h1:=cZ aw ab;have an:(execOp a.eval ⟨some d,.box t x,ty,pos,after,guard⟩).run X.P w=.ok (.value (.pointer (some ⟨w.heap.size,0,none⟩))) (w.alloc (.cells v.cells t (0,0))):=by simp[execOp,Instr.box,newVar,newRow,h1,xO]
   have fa:d<X.n:=ai d rfl;cases iR:X.fM.contains d with
   |true=>rw[iR]at ah;obtain⟨ah⟩:=ah;have ae:=ah w.heap.size h.holds.p1 h.holds.o4;have U:=(h.m7 (.cells v.cells t (0,0))).JC d;exact hZ (by simp) an ⟨_,_,_,_,⟨β,cc.put U (dst:=some d) (x:=.val (.pointer (some ⟨w.heap.size,0,none⟩))) (by simpa using fa) rfl⟩,ae⟩
   |false=>rw[iR]at ah;obtain⟨mr,U⟩:=h.Pj d fa v.cells.toList t;exact hZ (by simp) an ⟨_,_,_,_,⟨mr,by simpa using U⟩,ah⟩
  ·exact ah.elim
 case alloc t=>
  simp only[fX]at ah;split at ah
  ·rename_i d i hi;obtain⟨z,bd,uJ⟩:=(aH _ _ hi).Cl w;have Ae:z.cells=i.zero.toArray:=by rw[<-uJ]
   have an:(execOp a.eval ⟨some d,.alloc t,ty,pos,after,guard⟩).run X.P w=.ok (.value (.pointer (some ⟨w.heap.size,0,none⟩))) (w.alloc (.cells i.zero.toArray t (0,0))):=by simp[execOp,Instr.alloc,newVar,newRow,bd,Ae,xO]
   have fa:d<X.n:=ai d rfl;cases iR:X.fM.contains d with
   |true=>rw[iR]at ah;obtain⟨ah⟩:=ah;have ae:=ah w.heap.size h.holds.p1 h.holds.o4;have U:=(h.m7 (.cells i.zero.toArray t (0,0))).JC d;exact hZ (by simp) an ⟨_,_,_,_,⟨β,cc.put U (dst:=some d) (x:=.val (.pointer (some ⟨w.heap.size,0,none⟩))) (by simpa using fa) rfl⟩,ae⟩
   |false=>rw[iR]at ah;obtain⟨mr,U⟩:=h.Pj d fa i.zero t;exact hZ (by simp) an ⟨_,_,_,_,⟨mr,U⟩,ah⟩
  ·exact ah.elim
 case store t x y=>
  simp only[fX]at ah;split at ah
  ·rename_i i v hi aG;have v3:=cZ aw aG;split at ah
   ·rename_i s off ab;have h1:=xS aw ab;split at ah
    ·rename_i cs ao;cases hle:(Nat.ble (off+i.size) cs.length&&(Nat.beq v.cells.size i.size&&gS v.cells.toList))with
     |false=>rw[hle]at ah;exact ah.elim| true=>rw[hle]at ah;simp only[bL]at hle;obtain⟨hle,cm,jb⟩:=hle;have Co:=bB hle;have x0:=cC cm;obtain⟨T,br⟩:=(h.bX s cs ao).at_;have:=FR (aH _ _ hi) (a:=⟨β s,off,none⟩) (v:=v) rfl br x0 (by simp;omega) jb;refine Aa (by simp) (w':=w.setRow (β s) (bw cs off v.cells.toList).toArray) ?_ ⟨_,_,_,_,⟨β,h.Pm ao (bw cs off v.cells.toList)⟩,ah⟩;simp only[execOp,Instr.storeAt,h1,v3,Instr.sureAddr,bM,cy,bx];simp only[Jq]at this;rw[this];rfl
    ·exact ah.elim
   ·rename_i ad ab;have h1:=rO aw ab;cases cm:Nat.beq v.cells.size i.size with
    |false=>rw[cm]at ah;exact ah.elim| true=>rw[cm]at ah;obtain⟨pre,post,cs,T,a7,bQ,af,jb,ae⟩:=ah;have x0:=cC cm;have ar:w.heap[ad.block]?=some (.cells cs T (0,0)):=h.holds.m ⟨ad.block,.cells cs T (0,0)⟩ (by rw[a7];simp);have:=FR (aH _ _ hi) (v:=v) bQ ar x0 af jb;refine Aa (by simp) (w':=w.setRow ad.block (bw cs.toList ad.off v.cells.toList).toArray) ?_ ⟨_,_,_,_,⟨β,h.vV a7⟩,ae⟩;simp only[execOp,Instr.storeAt,h1,v3,Instr.sureAddr,bM,cy,bx];rw[this];rfl
   ·exact ah.elim
  ·exact ah.elim
 case buildSlice t len parts=>
  simp only[fX]at ah;split at ah
  ·rename_i sz g' z e vs au hn;have hu:=(aH _ _ au).slice;have aO:=FN aw hn;have v0:(parts.map λ(i,x)=>(i,a.eval x)).toList=vs:=by simpa using aO
   split at ah
   ·rename_i aF gX;cases bd:(Nat.ble (len*aF.size) 16777216&&Nat.blt 0 (len*aF.size))with
    |false=>
     rw[bd]at ah;simp only[a5]at ah;split at ah
     ·rename_i Yb;obtain⟨ah⟩:=ah;have ae:=ah w.heap.size h.holds.p1 h.holds.o4;refine hZ (by simp) (v:=.slice (some ⟨w.heap.size,0,none⟩) 0 0) (w':=w.alloc (.cells #[] e (0,0))) ?_ ⟨_,_,_,_,⟨β,(h.m7 _).put (x:=.val (.slice (some ⟨w.heap.size,0,none⟩) 0 0)) ai rfl⟩,ae⟩;simp only[execOp,Instr.buildSlice,bM,bx,run_underlying hu,(aH _ _ gX).run_sizeOf,v0];have b7:∀ f:Nat->Value,Array.map f (Array.range 0)=#[]:=λf=>by apply Array.ext<;>simp
      simp[newRow,xO,Instr.fill,b7]
     ·exact ah.elim
    |true=>
     rw[bd]at ah;simp only[ba]at ah;rw[bL]at bd;have hle:=bB bd.1;have n':0<len*aF.size:=by simpa using bd.2
     split at ah;·rename_i cells sY;obtain⟨qZ,x1,uJ⟩:=(aH _ _ gX).Cl w;obtain⟨ah⟩:=ah;have ae:=ah w.heap.size h.holds.p1 h.holds.o4;refine hZ (by simp) (v:=.slice (some ⟨w.heap.size,0,none⟩) len len) (w':=w.alloc (.cells cells.toArray e (0,0))) ?_ ⟨_,_,_,_,⟨β,(h.m7 _).put (x:=.val (.slice (some ⟨w.heap.size,0,none⟩) len len)) ai rfl⟩,ae⟩;have xX:=fill_eq _ _ _ _ sY;simp only[execOp,Instr.buildSlice,bM,bx,run_underlying hu,(aH _ _ gX).run_sizeOf];rw[dc (by omega)];simp only[dc (show ¬ len*aF.size=0 by omega),bM,x1,bx,cy,v0,Pu qZ aF.zero uJ,xX];simp[newRow,xO]
     ·exact ah.elim
   ·exact ah.elim
  ·exact ah.elim
 case makeSlice t l c=>
  simp only[fX]at ah;split at ah
  ·rename_i sz g' z e Cp cU j0 c' au ay aA;have hu:=(aH _ _ au).slice;split at ah
   ·rename_i aF gX;obtain⟨n,m,rfl,rfl,Cq,af,hm,⟨ah⟩⟩:=ah;have ae:=ah w.heap.size h.holds.p1 h.holds.o4;obtain⟨inf,qZ,eA,gG,gH,iS,rP⟩:=(aH _ _ gX).inf;refine hZ (by simp) (v:=.slice (some ⟨w.heap.size,0,none⟩) n m) (w':=w.alloc (.cells (rowOf aF.zero (m*aF.size)).toArray e (0,0))) ?_ ⟨_,_,_,_,⟨β,(h.m7 _).put (x:=.val (.slice (some ⟨w.heap.size,0,none⟩) n m)) ai rfl⟩,ae⟩;have m8:((aF.bytes:Nat):Int)*(m:Int)<=281474976710656:=by
     have aa:((aF.bytes*m:Nat):Int)<=281474976710656:=by omega
     simpa using aa
    have:=run_make (P:=X.P) w t e inf qZ hu eA iS Cp j0 (n:Int) (m:Int) (by omega) (by omega) (by rw[gH];exact m8) (by omega);simp only[execOp,cZ aw ay,cZ aw aA,bM,this,bx,cy,jA];have ax:madeCells qZ.cells (m*inf.size)=(rowOf aF.zero (m*aF.size)).toArray:=by rw[gG,<-rP];simp[z']
    rw[ax]
   ·exact ah.elim
  ·exact ah.elim
 case call c=>
  obtain⟨callee,args,argTypes⟩:=c;cases callee with
  |value f=>
   simp only[fX]at ah;split at ah
   ·rename_i g first cap vs v5 hn
    have ax:=qY aw hn;have dy:args.map a.eval=vs.toArray:=by apply fV;simpa using ax
    have fb:∀ {n:Next} {w':World},(callFunc g (first.toList++vs++cap.toList).toArray).run X.P w=.ok n w'->(execOp a.eval ⟨dst,.call { callee:=.value f,args,argTypes },ty,pos,after,guard⟩).run X.P w=.ok n w':=λan=>by simp only[execOp,resolve,cZ aw v5,Deferred.ofValue,bM,cy,bx,dy,invoke];rw[show first++vs.toArray++cap=(first.toList++vs++cap.toList).toArray from by apply fV;simp];exact an
    rcases h.call ah with⟨n8,x2⟩ | ⟨v,w',I',M',an,ae,fH⟩;·refine Pt (by simp) (f:=g) (args:=(first.toList++vs++cap.toList).toArray) (fb (n8 _ _)) ?_;refine x2.mono ?_;rintro e w'⟨v,I',M',rfl,ae,an⟩;exact⟨v,rfl,_,_,_,_,⟨β,an.put (x:=.val v) ai rfl⟩,ae⟩
    ·exact hZ (by simp) (fb an) ⟨_,_,_,_,⟨β,fH.put (x:=.val v) ai rfl⟩,ae⟩
   ·exact other ah
  |invoke r m=>exact quiet ah (by simp)
  |builtin b=>
   cases b
   all_goals exact quiet ah (by simp)
 case defer c=>exact other ah
 all_goals exact quiet ah (by simp)
end
section
variable{X:cx}{β:Nat->Nat}{a:Act}{w:World}{F:Fr}{C:c7}{I:aN}{M:List aC}{o:Oper}{Q:Exit->Act->World->Prop}{K:fG}
def Ag{d:Nat}{c:Bool}(h:a.tmps.getD d undef=.bool c):a.tmps[d]?=some (.bool c):=by
 rw[m6]at h;cases ai:a.tmps[d]? with
 |none=>rw[ai]at h;cases h| some v=>rw[ai]at h;simp at h;rw[h]
def Cr{ops:Array Oper}{j d:Nat}(ai:(ops[j]?).bind (·.dst)=some d)(tmps:Array Value):yielded ops tmps j=match tmps[d]? with
  |some (.bool b)=>some b| _=>none:=by
 unfold yielded;rw[ai];rfl
def cc.refine(h:cc X β a w F C I M){dI:Fr}(cS:∀ t,dV β (dI t) (a.tmps.getD t undef)):cc X β a w dI C I M:={ h with aj:=cS }
def Pz(aH:cB X.P X.E)(ops:Array Oper)(km:∀ a w,Sat X K a w->Q .normal a w):∀ (l:List Oper) (k:Nat),(∀ j,l[j]?=ops[k+j]?)->(∀ o∈l,∀ d,o.dst=some d->d<X.n) -> ∀ {F C I M a w},Rel X a w F C I M->rN X ops.toList l F C I M K->wpOpsIn (fW X) 0 X.P ops Q (List.range' k l.length) a w
 |[],k,_,_,F,C,I,M,a,w,aZ,ah=>km _ _ ⟨F,C,I,M,aZ,ah⟩
 |o::rest,k,ay,ai,F,C,I,M,a,w,aZ,ah=>by
  have aq:ops[k]?=some o:=by simpa using(ay 0).symm
  have o7:∀ j,rest[j]?=ops[k+1+j]?:=λj=>by have:=ay (j+1);simpa[mm,FJ 1 j]using this
  have gi:∀ o∈rest,∀ d,o.dst=some d->d<X.n:=λo ap=>ai o (by simp[ap]);have v7:=ai o (by simp);have a2:=@Pz aH ops km rest (k+1) o7 gi;simp only[c5,List.range'_succ,wpOpsIn,aq];have run:∀ {F C I M},Rel X a w F C I M->fX X o F C I M (λF C I M=>rN X ops.toList rest F C I M K)->o.wpIn (fW X) 0 X.P a w (wpOpsIn (fW X) 0 X.P ops Q (List.range' (k+1) rest.length)) Q:=λaZ ah=>
   qQ (λbF w' ⟨dI,C',I',M',an,ae⟩=>a2 an ae) (Af aH v7 aZ ah)
  have skip:∀ {F C I M},Rel X a w F C I M->rN X ops.toList rest (put o.dst (.val undef) F) C I M K->(∀ f,o.about X.P w a.eval=some f->(fW X).fn f)/\wpOpsIn (fW X) 0 X.P ops Q (List.range' (k+1) rest.length) (a.put o.dst undef) w:=λ⟨β,an⟩ ah=>
   ⟨λ_ _=>trivial,a2 ⟨β,an.put (x:=.val undef) v7 rfl⟩ ah⟩
  unfold rN at ah;cases ar:o.guard with
  |none=>
   rw[ar]at ah;have hw:Region.wanted o (yielded ops a.tmps)=true:=by simp[Region.wanted,ar]
   rw[dv hw];exact run aZ ah
  |some Cs=>
   obtain⟨j,b⟩:=Cs;rw[ar]at ah;simp only at ah;cases al:(ops.toList[j]?).bind (·.dst)with
   |none=>rw[al]at ah;exact ah.elim
   |some d=>
    rw[al]at ah;simp only at ah;have gm:(ops[j]?).bind (·.dst)=some d:=by simpa using al
    have aG:=Cr gm a.tmps;obtain⟨β,an⟩:=aZ;have cS:=an.aj d;split at ah
    ·rename_i c aA;rw[aA]at cS;have JK:=Ag cS;have Ct:Region.wanted o (yielded ops a.tmps)=(c == b):=by simp[Region.wanted,ar,aG,JK]
     rw[Ct];cases hR:(c == b)with
     |true=>rw[hR]at ah;simp only[o1];exact run ⟨β,an⟩ ah| false=>rw[hR]at ah;simp only[iP,jC];exact skip ⟨β,an⟩ ah
    ·rename_i c aA;rw[aA]at cS;have JK:=Ag cS;have Ct:Region.wanted o (yielded ops a.tmps)=(c == b):=by simp[Region.wanted,ar,aG,JK]
     rw[Ct];obtain⟨Ah,Ai⟩:=ah;have set:∀ x:Bool,c=x->Rel X a w (fL F d (.lit x)) C I M:=λx ab=>⟨β,an.refine λt=>by
      unfold fL;by_cases e:t=d;·subst e;simp only[o3,ba];rw[<-ab];exact cS
      ·simp only[gh e,a5];exact an.aj t⟩
     by_cases hR:c=b
     ·have:(c == b)=true:=by simp[hR]
      rw[this];simp only[o1];exact run (set b hR) (Ah hR)
     ·have aa:c=!b:=by cases c<;>cases b<;>simp_all
      have:(c == b)=false:=by simp[hR]
      rw[this];simp only[iP,jC];exact skip (set _ aa) (Ai aa)
    ·rename_i vs aA;rw[aA]at cS;have x3:yielded ops a.tmps j=none:=by
      rw[aG];cases o8:a.tmps[d]? with
      |none=>rfl| some v=>simp only[dV,m6,o8,iZ]at cS;subst cS;rfl
     have Ct:Region.wanted o (yielded ops a.tmps)=false:=by simp[Region.wanted,ar,x3]
     rw[Ct];simp only[iP,jC];exact skip ⟨β,an⟩ ah
    ·exact ah.elim
end
inductive x4:cW->cW->Prop
 |refl{x}:x4 x x| lit {b}:x4 (.lit b) (.val (.bool b))| lj {x}:x4 x .lj
def q0:List (Nat×cW)->Fr
 |[],_=>.lj|(t,x)::l,s=>bif Nat.beq s t then x else q0 l s
def q1:List (Nat×List Value)->c7
 |[],_=>none|(t,x)::l,s=>bif Nat.beq s t then some x else q1 l s
inductive jE(F:Fr):List (Nat×cW)->Prop
 |nil:jE F []| cons {t x l} (h:x4 (F t) x) (k:jE F l):jE F ((t,x)::l)
inductive v8(C:c7):List (Nat×List Value)->Prop
 |nil:v8 C []| cons {t x l} (h:C t=some x) (k:v8 C l):v8 C ((t,x)::l)
def Yc{β:Nat->Nat}{x y:cW}(h:x4 x y)(ab:dV β x v):dV β y v:=by
 cases h with
 |refl=>exact ab| lit=>exact ab| lj=>trivial
def jE.ok{β:Nat->Nat}{F:Fr}(h:∀ t,dV β (F t) (a.tmps.getD t undef)){l:List (Nat×cW)}(ay:jE F l)(t:Nat):dV β (q0 l t) (a.tmps.getD t undef):=by
 induction ay with
 |nil=>trivial
 | @cons eB x l ab k a2=>
  unfold q0;by_cases e:t=eB;·subst e;simp only[o3,ba];exact Yc ab (h t)
  ·simp only[gh e,a5];exact a2
def v8.ok{C:c7}{l:List (Nat×List Value)}(ay:v8 C l){s:Nat}{cs:List Value}(h:q1 l s=some cs):C s=some cs:=by
 induction ay with
 |nil=>cases h
 | @cons eB x l ab k a2=>
  unfold q1 at h;by_cases e:s=eB;·subst e;simp only[o3,ba]at h;rw[ab,h]
  ·simp only[gh e,a5]at h;exact a2 h
def cc.base{X:cx}{β:Nat->Nat}{F:Fr}{C:c7}{I:aN}{M:List aC}(h:cc X β a w F C I M){bA:List (Nat×cW)}{cl:List (Nat×List Value)}(cS:jE F bA)(fc:v8 C cl):cc X β a w (q0 bA) (q1 cl) I M:=
 { h with
  aj:=cS.ok h.aj
  bX:=λs cs ao=>h.bX s cs (fc.ok ao)
  inj:=λs b0 U aa=>by
   obtain⟨dw,ax⟩:=FD.1 U;obtain⟨ef,az⟩:=FD.1 aa;exact h.inj s b0 (by rw[fc.ok ax];simp) (by rw[fc.ok az];simp) }
inductive q2 where
 |normal| exit (id:Nat)| goto (l:Nat)| ret
abbrev ko:=q2->fG
def x5(N:fG)(K:ko):ko
 | .normal=>N| .exit id=>K (.exit id)| .goto l=>K (.goto l)| .ret=>K .ret
def PA(id:Nat)(K:ko):ko
 | .normal=>K .normal| .exit j=>bif Nat.beq j id then K .normal else K (.exit j)| .goto l=>K (.goto l)| .ret=>K .ret
def kP(X:cx)(K:ko):Exit->Act->World->Prop
 | .normal,a,w=>Sat X (K .normal) a w| .exit id,a,w=>Sat X (K (.exit id)) a w| .goto l,a,w=>Sat X (K (.goto l)) a w| .ret,a,w=>Sat X (K .ret) a w| .panic _,_,_=>False| .outgrown,_,_=>False
abbrev Body:=Fr->c7->aN->List aC->ko->Prop
structure x6 where
 bA:List (Nat×cW)
 cl:List (Nat×List Value):=[]
 cj:aN
 dx:List aC:=[]
inductive q3{ι:Type}(bP:List Nat)(aB:ι->x6)(p:ι->Prop)(F:Fr)(C:c7)(I:aN)(M:List aC):Prop
 |mk(j:ι)(aO:p j)(hw:hP bP I M (aB j).cj (aB j).dx)(cS:jE F (aB j).bA)(fc:v8 C (aB j).cl)
def JL(body:Body)(K:ko):Nat->fG
 |0=>λ_ _ _ _=>False
 |n+1=>λF C I M=>body F C I M (x5 (JL body K n) K)
inductive cD(bP:List Nat)(body:Body)(F:Fr)(C:c7)(I:aN)(M:List aC)(K:ko):Prop
 |inv {ι:Type} (aB:ι->x6) (inv:ι->Prop) (μ:ι->Nat) (start:q3 bP aB inv F C I M) (round:∀ i,inv i->body (q0 (aB i).bA) (q1 (aB i).cl) (aB i).cj (aB i).dx (x5 (q3 bP aB λj=>inv j/\μ j<μ i) K))| Yd (n:Nat) (h:JL body K n F C I M)| FV {ι:Type} (aB:ι->x6) (inv:ι->Prop) (μ:ι->Nat) (start:qV I M->q3 bP aB inv F C I M) (round:∀ i,inv i->body (q0 (aB i).bA) (q1 (aB i).cl) (aB i).cj (aB i).dx (x5 (λF C I M=>qV I M->q3 bP aB (λj=>inv j/\μ j<μ i) F C I M) K))
inductive cL(X:cx)(c:Code)(F:Fr)(C:c7)(I:aN)(M:List aC)(K:ko):Prop
 |mk(h:∀ a w,Rel X a w F C I M->c.wpIn (fW X) 0 X.P (kP X K) a w)
inductive Ye(bP:List Nat)(F:Fr)(C:c7)(I:aN)(M:List aC)(K:fG):Prop
 |go(h:K F C I M)| q4 (l:x6) (hw:hP bP I M l.cj l.dx) (cS:jE F l.bA) (fc:v8 C l.cl) (h:K (q0 l.bA) (q1 l.cl) l.cj l.dx)
def V(X:cx):Code->Fr->c7->aN->List aC->ko->Prop
 | .skip,F,C,I,M,K=>K .normal F C I M| .label l,F,C,I,M,K=>bif Nat.ble 2 l then Ye X.bP F C I M (K .normal)else K .normal F C I M| .ret,F,C,I,M,K=>K .ret F C I M| .exit id,F,C,I,M,K=>K (.exit id) F C I M| .goto l,F,C,I,M,K=>K (.goto l) F C I M| .seq x y,F,C,I,M,K=>V X x F C I M (x5 (λF C I M=>V X y F C I M K) K)| .block id c,F,C,I,M,K=>V X c F C I M (PA id K)
 | .cond c x y,F,C,I,M,K=>
  match cR F c with
  | .lit b=>bif b then V X x F C I M K else V X y F C I M K| .val (.bool b)=>aI b (V X x F C I M K) (V X y F C I M K)| _=>False
 | .loop c,F,C,I,M,K=>cD X.bP (V X c) F C I M K| .region _ ops false,F,C,I,M,K=>rN X ops.toList ops.toList F C I M (K .normal)| .region id ops true,F,C,I,M,K=>cL X (.region id ops true) F C I M K| .rangeFunc f ps eC body,F,C,I,M,K=>cL X (.rangeFunc f ps eC body) F C I M K| .scope c,F,C,I,M,K=>cL X (.scope c) F C I M K| .refuse _,_,_,_,_,_=>False
def Aj(n:Nat)(ops:Array Oper):Bool:=ops.toList.all λo=>match o.dst with
 |some d=>Nat.blt d n| none=>true
def codeOk(n:Nat):Code->Bool
 | .seq x y=>codeOk n x&&codeOk n y| .block _ c=>codeOk n c| .cond _ x y=>codeOk n x&&codeOk n y| .loop c=>codeOk n c| .region _ ops _=>Aj n ops| _=>true
def FW{ops:Array Oper}(h:Aj n ops=true):∀ o∈ops.toList,∀ d,o.dst=some d->d<n:=by intro o ap d ai;have:=gq.1 h o ap;rw[ai]at this;simpa using this
def kP.then{X:cx}{N:fG}{K:ko}(av:∀ a w,Sat X N a w->next a w):∀ e a w,kP X (x5 N K) e a w->Exit.then next (kP X K) e a w:=by
 intro e a w h;cases e<;>first | exact av _ _ h | exact h
def FX{p2:Fence}(J:Nat->Act->World->Prop)(Yf:J m a w)
  (round:∀ m a w,J m a w->c.wpIn p2 n P (Exit.then (λbF w'=>∃ m',m'<m/\J m' bF w') Q) a w):(Code.loop c).wpIn p2 n P Q a w:=by
 intro b k cs kp af an;have key:∀ j a w,J j a w->∃ e bF w',Q e bF w'/\ArrivesIn (Machine.fenced P p2) P (lone (b.atR a (.code c::.inLoop c::k)) cs w) b k cs e bF w':=by
  intro j
  induction j using Nat.strongRecOn with
  |_ j a2=>
   intro a w a9;obtain⟨e,iu,iv,aE,hB⟩:=round j a w a9 b (.inLoop c::k) cs kp af an;cases e with
   |normal=>obtain⟨m',aL,Yg⟩:=aE;obtain⟨Cu,Cv,Cw,Cx,Cy⟩:=a2 m' aL iu iv Yg;exact⟨Cu,Cv,Cw,Cx,.of_steps (StepsIn.trans hB (.one (fenced_calm af an rfl) stepR_inLoop)) Cy⟩
   |exit id=>exact⟨_,iu,iv,aE,.pass (x:=.inLoop c) rfl (λ_ _=>.inl (by simp)) hB⟩| goto l=>exact⟨_,iu,iv,aE,.pass (x:=.inLoop c) rfl (λ_ _=>.inl (by simp)) hB⟩| ret=>exact⟨_,iu,iv,aE,.pass (x:=.inLoop c) rfl (λ_ _=>.inl (by simp)) hB⟩| panic sZ=>exact⟨_,iu,iv,aE,.pass (x:=.inLoop c) rfl (λ_ _=>.inl (by simp)) hB⟩| outgrown=>exact⟨_,iu,iv,aE,.pass (x:=.inLoop c) rfl (λ_ _=>.inl (by simp)) hB⟩
 obtain⟨e,bF,w',aE,hB⟩:=key _ a w Yf;exact⟨e,bF,w',aE,.of_steps (.one (fenced_calm af an rfl) stepR_loop) hB⟩
def o9{X:cx}(aH:cB X.P X.E):∀ (c:Code) {F C I M K a w},codeOk X.n c=true->Rel X a w F C I M->V X c F C I M K->c.wpIn (fW X) 0 X.P (kP X K) a w
 | .skip,F,C,I,M,K,a,w,_,aZ,ah=>wpIn_skip ⟨F,C,I,M,aZ,ah⟩
 | .label l,F,C,I,M,K,a,w,_,aZ,ah=>by
  refine wpIn_label ?_;simp only[V]at ah;cases ay:Nat.ble 2 l with
  |false=>rw[ay]at ah;exact⟨F,C,I,M,aZ,ah⟩
  |true=>
   rw[ay]at ah;simp only[ba]at ah;cases ah with
   |go h=>exact⟨F,C,I,M,aZ,h⟩| q4 l hw cS fc h=>obtain⟨β,an⟩:=aZ;exact⟨_,_,_,_,⟨β,(an.base cS fc).hA hw⟩,h⟩
 | .ret,F,C,I,M,K,a,w,_,aZ,ah=>wpIn_ret ⟨F,C,I,M,aZ,ah⟩| .exit id,F,C,I,M,K,a,w,_,aZ,ah=>wpIn_exit ⟨F,C,I,M,aZ,ah⟩| .goto l,F,C,I,M,K,a,w,_,aZ,ah=>wpIn_goto ⟨F,C,I,M,aZ,ah⟩| .seq x y,F,C,I,M,K,a,w,bb,aZ,ah=>by simp only[codeOk,bL]at bb;refine wpIn_seq (wpIn_mono (o9 aH x bb.1 aZ ah) (kP.then ?_));rintro a w⟨dI,C',I',M',an,ae⟩;exact o9 aH y bb.2 an ae
 | .block id c,F,C,I,M,K,a,w,bb,aZ,ah=>by
  refine wpIn_block (wpIn_mono (o9 aH c bb aZ ah) ?_);intro e a w h;cases e with
  |exit j=>
   simp only[kP,PA]at h;simp only[Exit.inBlock];by_cases e:j=id;·subst e;simp only[o3,ba]at h;rw[dv rfl];exact h
   ·simp only[gh e,a5]at h;rw[dc e];exact h
  |_=>exact h
 | .cond c x y,F,C,I,M,K,a,w,bb,aZ,ah=>by
  simp only[codeOk,bL]at bb;obtain⟨β,an⟩:=aZ;simp only[V]at ah;split at ah
  ·rename_i b af;have aA:=Jy an.aj af;refine wpIn_cond aA ?_;cases b
   ·exact o9 aH y bb.2 ⟨β,an⟩ ah
   ·exact o9 aH x bb.1 ⟨β,an⟩ ah
  ·rename_i b af;have aA:=rO an.aj af;refine wpIn_cond aA ?_;obtain⟨U,aa⟩:=ah;cases b
   ·exact o9 aH y bb.2 ⟨β,an⟩ (aa rfl)
   ·exact o9 aH x bb.1 ⟨β,an⟩ (U rfl)
  ·exact ah.elim
 | .loop c,F,C,I,M,K,a,w,bb,aZ,ah=>by
  have a2:=@o9 X aH c;simp only[V]at ah;have hinv:∀ {ι:Type} (aB:ι->x6) (inv:ι->Prop) (μ:ι->Nat) (start:qV I M->q3 X.bP aB inv F C I M)
    (round:∀ i,inv i->V X c (q0 (aB i).bA) (q1 (aB i).cl) (aB i).cj (aB i).dx (x5 (λF C I M=>qV I M->q3 X.bP aB (λj=>inv j/\μ j<μ i) F C I M) K)),(Code.loop c).wpIn (fW X) 0 X.P (kP X K) a w:=by
   intro ι aB inv μ start round;let J (m:Nat) (a:Act) (w:World):Prop:=∃ i,inv i/\μ i=m/\Rel X a w (q0 (aB i).bA) (q1 (aB i).cl) (aB i).cj (aB i).dx
   have v9:∀ {p:ι->Prop} {a w},(∀ i,p i->inv i)->Sat X (λF C I M=>qV I M->q3 X.bP aB p F C I M) a w->∃ i,p i/\J (μ i) a w:=by rintro p a w aO⟨F,C,I,M,⟨β,an⟩,hQ⟩;obtain⟨j,rQ,hw,cS,fc⟩:=hQ ⟨an.holds.d,an.holds.bS⟩;exact⟨j,rQ,j,aO j rQ,rfl,β,(an.base cS fc).hA hw⟩
   obtain⟨i0,_,FY⟩:=v9 (λ_ h=>h) ⟨F,C,I,M,aZ,start⟩;refine FX J FY ?_;rintro m a w⟨i,hi,rfl,an⟩;refine wpIn_mono (a2 bb an (round i hi)) ?_;intro e a w h;cases e with
   |normal=>obtain⟨j,⟨al,aL⟩,bO⟩:=v9 (λ_ h=>h.1) h;exact⟨_,aL,bO⟩
   |_=>exact h
  cases ah with
  | @inv ι aB inv μ start round=>
   let J (m:Nat) (a:Act) (w:World):Prop:=∃ i,inv i/\μ i=m/\Rel X a w (q0 (aB i).bA) (q1 (aB i).cl) (aB i).cj (aB i).dx
   have v9:∀ {p:ι->Prop} {a w},(∀ i,p i->inv i)->Sat X (q3 X.bP aB p) a w->∃ i,p i/\J (μ i) a w:=by rintro p a w aO⟨F,C,I,M,⟨β,an⟩,⟨j,rQ,hw,cS,fc⟩⟩;exact⟨j,rQ,j,aO j rQ,rfl,β,(an.base cS fc).hA hw⟩
   obtain⟨i0,_,FY⟩:=v9 (λ_ h=>h) ⟨F,C,I,M,aZ,start⟩;refine FX J FY ?_;rintro m a w⟨i,hi,rfl,an⟩;refine wpIn_mono (a2 bb an (round i hi)) ?_;intro e a w h;cases e with
   |normal=>obtain⟨j,⟨al,aL⟩,bO⟩:=v9 (λ_ h=>h.1) h;exact⟨_,aL,bO⟩
   |_=>exact h
  |FV aB inv μ start round=>exact hinv aB inv μ start round
  |Yd n h=>
   refine FX (λm a w=>Sat X (JL (V X c) K m) a w) ⟨F,C,I,M,aZ,h⟩ ?_;rintro m a w⟨F,C,I,M,an,ae⟩;cases m with
   |zero=>exact ae.elim
   |succ m=>
    refine wpIn_mono (a2 bb an ae) ?_;intro e a w h;cases e with
    |normal=>exact⟨m,Cd m,h⟩| _=>exact h
 | .region id ops false,F,C,I,M,K,a,w,bb,aZ,ah=>by refine wpIn_region ?_;have:=Pz (K:=K .normal) (Q:=kP X K) aH ops (λ_ _ h=>h) ops.toList 0 (by simp) (FW bb) aZ ah;simpa[Jp]using this
 | .region id ops true,F,C,I,M,K,a,w,bb,aZ,⟨ah⟩=>ah a w aZ| .rangeFunc f ps eC body,F,C,I,M,K,a,w,bb,aZ,⟨ah⟩=>ah a w aZ| .scope c,F,C,I,M,K,a,w,bb,aZ,⟨ah⟩=>ah a w aZ| .refuse _,F,C,I,M,K,a,w,bb,aZ,ah=>ah.elim
def uK(args:List Value):Fr:=λt=>match args[t]? with
 |some v=>.val v| none=>.lj
def m9(X:cx)(F:Fr)(C:c7)(I:aN)(M:List aC):List ResultVar->(List Value->Prop)->Prop
 |[],K=>K []
 | .tmp t::l,K=>match bm F (.tmp t)with
  | .val v=>m9 X F C I M l λvs=>K (v::vs)
  |_=>False
 | .cell t ty::l,K=>match cR F (.tmp t),X.E ty with
  | .ref s off,some i=>(match C s with
   |some cs=>bif Nat.ble (off+i.size) cs.length then m9 X F C I M l λvs=>K (pack i.bz.agg ((cs.drop off).take i.size)::vs)else False
   |none=>False)
  | .val (.pointer (some a)),some i=>aJ I M a i.size λws=>m9 X F C I M l λvs=>K (pack i.bz.agg ws::vs)
  |_,_=>False
inductive s0(bP:List Nat)(I:aN)(M:List aC)(post:aN->List aC->Prop):Prop
 |mk(I':aN)(M':List aC)(hw:hP bP I M I' M')(h:post I' M')
def s3(X:cx)(aU:List ResultVar)(post:Value->aN->List aC->Prop):ko:=λex F C I M=>
 let done:Prop:=m9 X F C I M aU λvs=>match vs with
  |[v]=>s0 X.bP I M (post v)| vs=>s0 X.bP I M (post (.tuple vs.toArray))
 match ex with
 | .normal=>done| .ret=>done| _=>False
def Ak(tmps:Array Value):ResultVar->Sem Value
 | .tmp t=>pure (tmps.getD t undef)| .cell a t=>do loadVar t (<-asAddr (tmps.getD a undef))
def Yh(fn:Func)(tmps:Array Value):results fn tmps=(do let vs <-fn.results.mapM (Ak tmps);pure (if h:vs.size=1 then vs[0]else .tuple vs)):=by unfold results;congr 1
def FZ{X:cx}(aH:cB X.P X.E){β:Nat->Nat}{a:Act}{w:World}{F:Fr}{C:c7}{I:aN}{M:List aC}(h:cc X β a w F C I M):∀ {aU:List ResultVar} {K:List Value->Prop},m9 X F C I M aU K -> ∃ vs,K vs/\(aU.mapM (Ak a.tmps)).run X.P w=.ok vs w
 |[],K,ah=>⟨[],ah,rfl⟩
 | .tmp t::l,K,ah=>by
  unfold m9 at ah;split at ah;·rename_i v U;have ax:a.tmps.getD t undef=v:=cZ h.aj U;obtain⟨vs,ae,az⟩:=FZ aH h ah;refine⟨_,ae,?_⟩;simp only[Cg,Ak,bM,cy,bx,az,ax]
  ·exact ah.elim
 | .cell t ty::l,K,ah=>by
  unfold m9 at ah;split at ah
  ·rename_i s off i U hi;have ax:a.tmps.getD t undef=.pointer (some ⟨β s,off,none⟩):=xS h.aj U;split at ah
   ·rename_i cs ao;cases hle:Nat.ble (off+i.size) cs.length with
    |false=>rw[hle]at ah;exact ah.elim| true=>rw[hle]at ah;obtain⟨vs,ae,az⟩:=FZ aH h ah;have Co:=bB hle;obtain⟨T,br⟩:=(h.bX s cs ao).at_;have bc:=FQ (aH _ _ hi) (a:=⟨β s,off,none⟩) rfl br (vs:=(cs.drop off).take i.size) (by simp) (by simp;omega);refine⟨_,ae,?_⟩;simp only[Cg,Ak,bM,cy,bx,az,ax,asAddr,bc]
   ·exact ah.elim
  ·rename_i ad i U hi;have ax:a.tmps.getD t undef=.pointer (some ad):=rO h.aj U;obtain⟨ws,⟨bQ,cs,T,aj,dP,hn,ay⟩,ah⟩:=ah;obtain⟨vs,ae,az⟩:=FZ aH h ah;have bc:=FQ (aH _ _ hi) bQ (dP.heap h.holds) hn ay;refine⟨_,ae,?_⟩;simp only[Cg,Ak,bM,cy,bx,az,ax,asAddr,bc]
  ·exact ah.elim
def Yi{X:cx}(aH:cB X.P X.E){β:Nat->Nat}{F:Fr}{C:c7}{I:aN}{M:List aC}(h:cc X β a w F C I M){K:List Value->Prop}(ah:m9 X F C I M fn.results.toList K) :
  ∃ vs,K vs/\(results fn a.tmps).run X.P w=.ok (match vs with | [v]=>v | vs=>.tuple vs.toArray) w:=by
 obtain⟨vs,ae,e⟩:=FZ aH h ah;refine⟨vs,ae,?_⟩;rw[Yh];have ax:(fn.results.mapM (Ak a.tmps)).run X.P w=.ok vs.toArray w:=by rw[Pe,Sem.run_map,e];rfl
 simp only[bM,ax,bx,cy]
 match vs with
 |[]=>rfl| [v]=>rfl| u::v::l=>simp
def PB{p2:Fence}{n:Nat}{P:Program}{fn:Func}{tmps:Array Value}{R:Ending->World->Prop}:∀ (aU:List Nat) (w:World),aU.Nodup->(∀ r∈aU,w.heap[r]?=some (.deferred (some []))) -> (∀ w':World,w'.heap.size=w.heap.size->(∀ b,b ∉ aU->w'.heap[b]?=w.heap[b]?)->mq w w'->∃ v,(results fn tmps).run P w'=.ok v w'/\R (.returned v) w')->LeavesInM p2 n P fn tmps R (aU.map uF) .returning w
 |[],w,_,_,h=>h w rfl (λ_ _=>rfl) (.refl _)
 |r::aU,w,cf,an,h=>by
  rw[lg]at cf;refine⟨by simp,.inl ⟨r,_,rfl,run_takeDeferred (an r (by simp)),?_⟩⟩;refine PB aU _ cf.2 (λpb fH=>?_) λw' ao af ap=>h w' (by rw[ao];simp) (λb F0=>?_) ((FO _ _ _).trans ap);·have bk:pb≠r:=λe=>cf.1 (e ▸ fH);rw[lf bk];exact an pb (by simp[fH])
  ·simp only[dE,not_or]at F0;rw[af b F0.2,lf F0.1]
def cc.take{X:cx}{β:Nat->Nat}{F:Fr}{C:c7}{I:aN}{M:List aC}(h:cc X β a w F C I M){aU:List Nat}(q5:∀ r∈aU,sW X w I M r)(ao:w'.heap.size=w.heap.size)(af:∀ b,b ∉ aU->w'.heap[b]?=w.heap[b]?)(ap:mq w w') :
  cc X β { a with defers:=[] } w' F C I M:=by
 exact {
  size:=h.size
  defers:=⟨[],rfl,xP,λr an=>by cases an⟩
  holds:={
   i:=λb o im=>by rw[af b (λan=>by have:=(q5 b an).ik;rw[im]at this;cases this)];exact h.holds.i b o im
   m:=λx ab=>by rw[af _ (λan=>(q5 _ an).dY x ab rfl)];exact h.holds.m x ab
   d:=h.holds.d
   bS:=h.holds.bS }
  aj:=h.aj
  bX:=λs cs kq=>by have rR:=h.bX s cs kq;obtain⟨T,br⟩:=rR.at_;refine { rR with at_:=⟨T,?_⟩ };rw[af _ (λan=>by have:=(q5 _ an).at_;rw[br]at this;cases this)];exact br
  inj:=h.inj
  g3:=h.g3
  gF:=h.gF
  own:=h.own
  cY:=λb aL aw=>by rw[af _ (λan=>by have:=(q5 _ an).base;omega)];exact h.cY b aL aw
  out:=h.out.trans ap
  sz:=by rw[ao];exact h.sz }
def kP.ret{X:cx}(aH:cB X.P X.E){post:Value->aN->List aC->Prop}
  (aZ:∀ v I M (w:World) (a:Act) (F:Fr) (C:c7),Rel X a w F C I M->post v I M->R (.returned v) w):∀ e a w,kP X (s3 X fn.results.toList post) e a w->bodyPostM (fW X) 0 X.P fn R e a w:=by
 have main:∀ a w,Sat X (s3 X fn.results.toList post .ret) a w->LeavesInM (fW X) 0 X.P fn a.tmps R a.defers .returning w:=by
  rintro a w⟨F,C,I,M,⟨β,an⟩,ae⟩;simp only[s3]at ae;obtain⟨aU,ai,cf,hm⟩:=an.defers;rw[ai];refine PB aU w cf (λr iw=>(hm r iw).at_) λw' ao af ap=>?_;have fH:=an.take hm ao af ap;obtain⟨vs,aO,fb⟩:=Yi aH fH ae;refine⟨_,fb,?_⟩
  match vs,aO with
  |[],⟨I',M',hw,aO⟩=>exact aZ _ I' M' w' _ F C ⟨β,fH.hA hw⟩ aO| [v],⟨I',M',hw,aO⟩=>exact aZ _ I' M' w' _ F C ⟨β,fH.hA hw⟩ aO| u::v::l,⟨I',M',hw,aO⟩=>exact aZ _ I' M' w' _ F C ⟨β,fH.hA hw⟩ aO
 intro e a w h;cases e with
 |normal=>exact main a w h| ret=>exact main a w h| exit id=>obtain⟨F,C,I,M,_,ae⟩:=h;exact ae.elim
 |goto l=>obtain⟨F,C,I,M,_,ae⟩:=h;exact ae.elim
 |panic _=>exact h.elim| outgrown=>exact h.elim
def Yj(aw:P.funcs[f]?=some fn)(af:fn.body.isSome=true)(av:(fn.name == "runtime.NumGoroutine")=false):Ju P f:=by
 intro args w;have ha:fn.body.isNone=false:=by cases h:fn.body<;>simp_all
 simp only[callFunc,bM,run_program,bx,aw,av,iP,jC,ha];rfl
def JM{E:Env}(fM:List Nat)(aH:cB P E)(aw:P.funcs[f]?=some fn)(af:fn.body=some c)(av:(fn.name == "runtime.NumGoroutine")=false)
 (bb:(codeOk fn.ntmps c&&Nat.ble args.length fn.ntmps)=true) {I:aN} {M:List aC} {post:Value->aN->List aC->Prop}
  (h:∀ B aq a w,Rel ⟨P,E,fM,fn.ntmps,B,aq,I,M.map (·.num),none⟩ a w (uK args) (λ_=>none) I M->c.wpIn (fW ⟨P,E,fM,fn.ntmps,B,aq,I,M.map (·.num),none⟩) 0 P (kP ⟨P,E,fM,fn.ntmps,B,aq,I,M.map (·.num),none⟩ (s3 ⟨P,E,fM,fn.ntmps,B,aq,I,M.map (·.num),none⟩ fn.results.toList post)) a w) :
  uD P f args I M post:=by
 rw[bL]at bb;have hlen:=bB bb.2;refine⟨Yj aw (by rw[af];rfl) av,λw h0=>?_⟩;let X:cx:=⟨P,E,fM,fn.ntmps,w.heap.size,w,I,M.map (·.num),none⟩
 have Cz:Rel X { tmps:=args.toArray++Array.replicate (fn.ntmps-args.toArray.size) undef,defers:=[] } w (uK args) (λ_=>none) I M:=⟨λ_=>0,{
  size:=by simp[X];omega
  defers:=⟨[],rfl,xP,λr an=>by cases an⟩
  holds:=h0
  aj:=λt=>by
   unfold uK;cases au:args[t]? with
   |none=>trivial| some v=>have aL:t<args.length:=(ij.1 au).1;simp only[dV,m6];rw[Array.getElem?_append_left (by simpa using aL)];simp[au]
  bX:=λs cs ao=>by cases ao
  inj:=λs b0 U=>by simp at U
  g3:=λb o af=>af
  gF:=λb o af=>.inl af
  own:=λx ab=>.inl (du.2 ⟨x,ab,rfl⟩)
  cY:=λb af aw=>rfl
  out:=.refl _
  sz:=b6 _ }⟩
 have F1:=h w.heap.size w _ _ Cz;refine(callsIn_wide (n:=0)).1 ?_;have Yk:fW X=Fence.wide:=rfl;rw[Yk]at F1;refine callsIn_of_wp_marks aw af trivial (wpIn_mono F1 (kP.ret (X:=X) aH ?_));rintro v I' M' w' bF dI C'⟨β,an⟩aO;refine⟨v,I',M',rfl,aO,an.holds,?_⟩;exact {
  le:=an.g3
  sV:=an.gF
  uC:=λx ab=>by
   rcases an.own x ab with U | U;·obtain⟨y,aG,e⟩:=du.1 U;exact .inl ⟨y,aG,e⟩
   ·exact .inr U
  cY:=λb af bk=>an.cY b af (λhm=>by
   obtain⟨y,aG,e⟩:=du.1 hm;exact bk y aG e)
  out:=an.out
  sz:=an.sz }
def Al{E:Env}(fM:List Nat)(aH:cB P E)(aw:P.funcs[f]?=some fn)(af:fn.body=some c)(av:(fn.name == "runtime.NumGoroutine")=false)
 (bb:(codeOk fn.ntmps c&&Nat.ble args.length fn.ntmps)=true) {I:aN} {M:List aC} {post:Value->aN->List aC->Prop}
  (h:∀ B aq,V ⟨P,E,fM,fn.ntmps,B,aq,I,M.map (·.num),none⟩ c (uK args) (λ_=>none) I M (s3 ⟨P,E,fM,fn.ntmps,B,aq,I,M.map (·.num),none⟩ fn.results.toList post)) :
  uD P f args I M post:=
 JM fM aH aw af av bb λB aq a w an=>by rw[bL]at bb;exact o9 aH c bb.1 an (h B aq)
def bC{E:Env}(fM:List Nat)(aH:cB P E)(aw:P.funcs[f]?=some fn)(af:fn.body=some c)(av:(fn.name == "runtime.NumGoroutine")=false)
 (bb:(codeOk fn.ntmps c&&Nat.ble args.length fn.ntmps)=true) {I:aN} {M:List aC} {post:Value->aN->List aC->Prop}
  (h:∀ B aq,V ⟨P,E,fM,fn.ntmps,B,aq,I,M.map (·.num),none⟩ c (uK args) (λ_=>none) I M (s3 ⟨P,E,fM,fn.ntmps,B,aq,I,M.map (·.num),none⟩ fn.results.toList post)) :
  Spec P f args I M post:=.inl (Al fM aH aw af av bb h)
def F2(X:cx)(aU:List ResultVar)(post:Value->aN->List aC->Prop):ko:=λex F C I M=>
 let done:Prop:=m9 X F C I M aU λvs=>match vs with
  |[v]=>qV I M->s0 X.bP I M (post v)| vs=>qV I M->s0 X.bP I M (post (.tuple vs.toArray))
 match ex with
 | .normal=>done| .ret=>done| _=>False
def F3{X:cx}{F:Fr}{C:c7}{I:aN}{M:List aC}:∀ {aU:List ResultVar} {K v':List Value->Prop},(∀ vs,K vs->v' vs)->m9 X F C I M aU K->m9 X F C I M aU v'
 |[],K,v',h,ah=>h _ ah
 | .tmp t::l,K,v',h,ah=>by
  unfold m9 at ah |-;split at ah;·exact F3 (λvs=>h _) ah
  ·exact ah.elim
 | .cell t ty::l,K,v',h,ah=>by
  unfold m9 at ah |-;split at ah
  ·rename_i s off i U hi;split at ah
   ·rename_i cs ao;cases hle:Nat.ble (off+i.size) cs.length with
    |false=>rw[hle]at ah;exact ah.elim| true=>rw[hle]at ah;exact F3 (λvs=>h _) ah
   ·exact ah.elim
  ·obtain⟨ws,aR,ah⟩:=ah;exact⟨ws,aR,F3 (λvs=>h _) ah⟩
  ·exact ah.elim
def kP.Yl{X:cx}{aU:List ResultVar}{post:Value->aN->List aC->Prop}:∀ e a w,kP X (F2 X aU post) e a w->kP X (s3 X aU post) e a w:=by
 have one:∀ a w,Sat X (F2 X aU post .ret) a w->Sat X (s3 X aU post .ret) a w:=by
  rintro a w⟨F,C,I,M,⟨β,an⟩,h⟩;refine⟨F,C,I,M,⟨β,an⟩,F3 (λvs ah=>?_) h⟩;have hQ:qV I M:=⟨an.holds.d,an.holds.bS⟩
  match vs,ah with
  |[v],ah=>exact ah hQ| [],ah=>exact ah hQ| _::_::_,ah=>exact ah hQ
 intro e a w h;cases e with
 |normal=>exact one a w h| ret=>exact one a w h| exit id=>obtain⟨F,C,I,M,an,ae⟩:=h;exact ae.elim
 |goto l=>obtain⟨F,C,I,M,an,ae⟩:=h;exact ae.elim
 |panic _=>exact h| outgrown=>exact h
def Ym{E:Env}(fM:List Nat)(aH:cB P E)(aw:P.funcs[f]?=some fn)(af:fn.body=some c)(av:(fn.name == "runtime.NumGoroutine")=false)
 (bb:(codeOk fn.ntmps c&&Nat.ble args.length fn.ntmps)=true) {I:aN} {M:List aC} {post:Value->aN->List aC->Prop}
  (h:∀ B aq,V ⟨P,E,fM,fn.ntmps,B,aq,I,M.map (·.num),none⟩ c (uK args) (λ_=>none) I M (F2 ⟨P,E,fM,fn.ntmps,B,aq,I,M.map (·.num),none⟩ fn.results.toList post)) :
  uD P f args I M post:=
 JM fM aH aw af av bb λB aq a w an=>by rw[bL]at bb;exact wpIn_mono (o9 aH c bb.1 an (h B aq)) kP.Yl
def PC{E:Env}(fM:List Nat)(aH:cB P E)(aw:P.funcs[f]?=some fn)(af:fn.body=some c)(av:(fn.name == "runtime.NumGoroutine")=false)
 (bb:(codeOk fn.ntmps c&&Nat.ble args.length fn.ntmps)=true) {I:aN} {M:List aC} {post:Value->aN->List aC->Prop}
  (h:∀ B aq,V ⟨P,E,fM,fn.ntmps,B,aq,I,M.map (·.num),none⟩ c (uK args) (λ_=>none) I M (F2 ⟨P,E,fM,fn.ntmps,B,aq,I,M.map (·.num),none⟩ fn.results.toList post)) :
  Spec P f args I M post:=.inl (Ym fM aH aw af av bb h)
def JN:Value->Value->Bool
 | .bool a,.bool b=>a == b| .int k n,.int cd m=>IntKind.kN k cd&&decide (n=m)| .string s,.string t=>decide (s.data.toList=t.data.toList)| .pointer none,.pointer none=>true| .slice none 0 0,.slice none 0 0=>true| .map none,.map none=>true| .nilFunc,.nilFunc=>true| .nilIface,.nilIface=>true| _,_=>false
def Yn:∀ {a b:Value},JN a b=true->a=b:=by
 intro a b h;unfold JN at h;split at h
 ·simp at h;rw[h]
 ·simp only[bL,ft]at h;rw[IntKind.Ad h.1,h.2]
 ·rename_i s t;simp only[ft]at h;have:s=t:=by cases s;cases t;simp only[ByteArray.mk.injEq];exact fV h
  rw[this]
 all_goals first | rfl | cases h
def F4:List Value->List Value->Bool
 |[],[]=>true| a::as,b::bs=>JN a b&&F4 as bs| _,_=>false
def PD:∀ {a b:List Value},F4 a b=true->a=b
 |[],[],_=>rfl| a::as,b::bs,h=>by simp only[F4,bL]at h;rw[Yn h.1,PD h.2]
 |[],_::_,h=>by cases h
 |_::_,[],h=>by cases h
def JO(P:Program)(t:Nat)(i:dH):Bool:=
 (match P.info? t with
 |some inf=>decide (inf.size=i.size)&&decide (inf.bytes=i.bytes)&&(match inf.zero with
  |some z=>F4 z.cells.toList i.zero| none=>false)
 |none=>false) &&
 (match P.underlying t with
 |some d=>decide (eW d=i.bz)| none=>false)&&gS i.zero&&decide (i.zero.length=i.size)&&(i.bz.agg||decide (i.size=1))
def Yo{t:Nat}{i:dH}(h:JO P t i=true):iQ P t i:=by
 simp only[JO,bL]at h;obtain⟨⟨⟨⟨U,aa⟩,ag⟩,aK⟩,bg⟩:=h;refine⟨?_,?_,xU ag,cr aK,λaD=>?_⟩
 ·split at U
  ·rename_i inf hi;simp only[bL,ft]at U;obtain⟨⟨ax,az⟩,bc⟩:=U;split at bc
   ·rename_i z bd;exact⟨inf,z,hi,ax,az,bd,PD bc⟩
   ·cases bc
  ·cases U
 ·split at aa
  ·rename_i d ai;exact⟨d,ai,cr aa⟩
  ·cases aa
 ·rw[aD]at bg;simpa using bg
def Yp{E:Env}(n:Nat)(av:∀ t,n<=t->E t=none)(h:((List.range n).all λt=>match E t with
  |some i=>JO P t i| none=>true)=true):cB P E:=by
 intro t i hi;by_cases au:t<n
 ·have:=gq.1 h t (kk.2 au);rw[hi]at this;exact Yo this
 ·rw[av t (by omega)]at hi;cases hi
end Go.V
namespace Go.V
variable{a:Act}{c:Code}{bP:List Nat}{P:Program}{f off T sz g' e n m dq bN cG c6 fk hz jD lh mo n6 pY rL uA xQ Ci:Nat}{args vs z:List Value}{v:Value}{w' w:World}{dst:Option Nat}{cs:Array Value}{aj:Nat×Nat}{R:Ending->World->Prop}{next:Act->World->Prop}{ad:Addr}{e9:IntKind}{other:Prop}{ops:List Oper}{Q:Exit->Act->World->Prop}{fn:Func}{soft gC:Bool}{op:Op}{listed:Array Bool}{A:Array Oper}
def ln{F:Fr}:jE F [(dq,F dq),(bN,F bN)]:=.cons .refl (.cons .refl (.nil))
def da{F:Fr}:jE F [(dq,F dq),(bN,F bN),(cG,F cG)]:=.cons .refl (.cons .refl (.cons .refl (.nil)))
def dr{F:Fr}:jE F [(dq,F dq),(bN,F bN),(cG,F cG),(c6,F c6)]:=.cons .refl (.cons .refl (.cons .refl (.cons .refl (.nil))))
def kQ{F:Fr}:jE F [(dq,F dq),(bN,F bN),(cG,F cG),(c6,F c6),(fk,F fk)]:=.cons .refl (.cons .refl (.cons .refl (.cons .refl (.cons .refl (.nil)))))
def nb{F:Fr}:jE F [(dq,F dq),(bN,F bN),(cG,F cG),(c6,F c6),(fk,F fk),(hz,F hz)]:=.cons .refl (.cons .refl (.cons .refl (.cons .refl (.cons .refl (.cons .refl (.nil))))))
def lT{F:Fr}:jE F [(dq,F dq),(bN,F bN),(cG,F cG),(c6,F c6),(fk,F fk),(hz,F hz),(jD,F jD)]:=.cons .refl (.cons .refl (.cons .refl (.cons .refl (.cons .refl (.cons .refl (.cons .refl (.nil)))))))
def uL{F:Fr}:jE F [(dq,F dq),(bN,F bN),(cG,F cG),(c6,F c6),(fk,F fk),(hz,F hz),(jD,F jD),(lh,F lh)]:=.cons .refl (.cons .refl (.cons .refl (.cons .refl (.cons .refl (.cons .refl (.cons .refl (.cons .refl (.nil))))))))
def CA{F:Fr}:jE F [(dq,F dq),(bN,F bN),(cG,F cG),(c6,F c6),(fk,F fk),(hz,F hz),(jD,F jD),(lh,F lh),(mo,F mo)]:=.cons .refl (.cons .refl (.cons .refl (.cons .refl (.cons .refl (.cons .refl (.cons .refl (.cons .refl (.cons .refl (.nil)))))))))
def akS{F:Fr}:jE F [(dq,F dq),(bN,F bN),(cG,F cG),(c6,F c6),(fk,F fk),(hz,F hz),(jD,F jD),(lh,F lh),(mo,F mo),(n6,F n6)]:=.cons .refl (.cons .refl (.cons .refl (.cons .refl (.cons .refl (.cons .refl (.cons .refl (.cons .refl (.cons .refl (.cons .refl (.nil))))))))))
def PE{F:Fr}:jE F [(dq,F dq),(bN,F bN),(cG,F cG),(c6,F c6),(fk,F fk),(hz,F hz),(jD,F jD),(lh,F lh),(mo,F mo),(n6,F n6),(pY,F pY)]:=.cons .refl (.cons .refl (.cons .refl (.cons .refl (.cons .refl (.cons .refl (.cons .refl (.cons .refl (.cons .refl (.cons .refl (.cons .refl (.nil)))))))))))
def akT{F:Fr}:jE F [(dq,F dq),(bN,F bN),(cG,F cG),(c6,F c6),(fk,F fk),(hz,F hz),(jD,F jD),(lh,F lh),(mo,F mo),(n6,F n6),(pY,F pY),(rL,F rL)]:=.cons .refl (.cons .refl (.cons .refl (.cons .refl (.cons .refl (.cons .refl (.cons .refl (.cons .refl (.cons .refl (.cons .refl (.cons .refl (.cons .refl (.nil))))))))))))
def akU{F:Fr}:jE F [(dq,F dq),(bN,F bN),(cG,F cG),(c6,F c6),(fk,F fk),(hz,F hz),(jD,F jD),(lh,F lh),(mo,F mo),(n6,F n6),(pY,F pY),(rL,F rL),(uA,F uA)]:=.cons .refl (.cons .refl (.cons .refl (.cons .refl (.cons .refl (.cons .refl (.cons .refl (.cons .refl (.cons .refl (.cons .refl (.cons .refl (.cons .refl (.cons .refl (.nil)))))))))))))
def akV{F:Fr}:jE F [(dq,F dq),(bN,F bN),(cG,F cG),(c6,F c6),(fk,F fk),(hz,F hz),(jD,F jD),(lh,F lh),(mo,F mo),(n6,F n6),(pY,F pY),(rL,F rL),(uA,F uA),(xQ,F xQ)]:=.cons .refl (.cons .refl (.cons .refl (.cons .refl (.cons .refl (.cons .refl (.cons .refl (.cons .refl (.cons .refl (.cons .refl (.cons .refl (.cons .refl (.cons .refl (.cons .refl (.nil))))))))))))))
def akW{F:Fr}:jE F [(dq,F dq),(bN,F bN),(cG,F cG),(c6,F c6),(fk,F fk),(hz,F hz),(jD,F jD),(lh,F lh),(mo,F mo),(n6,F n6),(pY,F pY),(rL,F rL),(uA,F uA),(xQ,F xQ),(Ci,F Ci)]:=.cons .refl (.cons .refl (.cons .refl (.cons .refl (.cons .refl (.cons .refl (.cons .refl (.cons .refl (.cons .refl (.cons .refl (.cons .refl (.cons .refl (.cons .refl (.cons .refl (.cons .refl (.nil)))))))))))))))
def akX{F:Fr}{PF:Nat}:jE F [(dq,F dq),(bN,F bN),(cG,F cG),(c6,F c6),(fk,F fk),(hz,F hz),(jD,F jD),(lh,F lh),(mo,F mo),(n6,F n6),(pY,F pY),(rL,F rL),(uA,F uA),(xQ,F xQ),(Ci,F Ci),(PF,F PF)]:=.cons .refl (.cons .refl (.cons .refl (.cons .refl (.cons .refl (.cons .refl (.cons .refl (.cons .refl (.cons .refl (.cons .refl (.cons .refl (.cons .refl (.cons .refl (.cons .refl (.cons .refl (.cons .refl (.nil))))))))))))))))
def Am:Op->Bool
 | .move _ | .assign _ | .pick .. | .unOp .. | .binOp .. | .load .. | .nilCheck _ | .fieldAddr .. | .field .. | .indexAddr .. | .index .. | .build .. | .makeFunc .. | .slice .. | .extract .. | .convert ..=>true| .call { callee:=.builtin .len,.. }=>true| .call { callee:=.builtin .cap,.. }=>true| .call { callee:=.builtin .max,.. }=>true| .call { callee:=.builtin .min,.. }=>true| .call { callee:=.builtin .unsafeSliceData,.. }=>true| _=>false
def oa:Op->Bool
 | .load ..=>true| _=>false
def CB(o:Oper)(p:Nat):Bool:=o.after.toList.all λe=>!Region.binds .any e||p.testBit e.on
def ob(ops:List Oper)(p:Nat)(k:Bool):List Nat:=(List.range ops.length).filter λi=>match ops[i]? with
 |some o=>!p.testBit i&&((Am o.op == k)&&CB o p)| none=>false
def CC(acc:List Nat)(o:Oper):Nat:=o.after.toList.foldl (λs e=>bif Region.binds .any e then s ||| 2^e.on ||| acc.getD e.on 0 else s) 0
def jF(ops:List Oper):List Nat:=ops.foldl (λacc o=>acc++[CC acc o]) []
def JP(P:Nat->Prop):List Nat->Prop
 |[]=>True| [i]=>P i| i::l=>P i/\JP P l
inductive jc(soft:Bool)(bP:List Nat)(P:Program)(f:Nat)(args:List Value)(I:aN)(M:List aC)(K:Value->aN->List aC->Prop):Prop
 |mk(post:Value->aN->List aC->Prop)(ao:Spec P f args I [] post)(k:∀ v I' M',(∀ b o,I b=some o->I' b=some o)->post v I' M'->K v I' (M'++M))| Yq (c4 Mr:List aC) (post:Value->aN->List aC->Prop) (a7:M.Perm (c4++Mr)) (ao:Spec P f args I c4 post) (mw:∀ v I' M',post v I' M'->∀ x∈c4,x∈M') (k:∀ v I' M',(∀ b o,I b=some o->I' b=some o)->post v I' M'->K v I' (M'++Mr))| Jv (post:Value->aN->List aC->Prop) (ao:Spec P f args I [] post) (k:∀ v I' M',(∀ b o,I b=some o->I' b=some o)->(∀ x∈M'++M,I' x.num=none)->post v I' M'->K v I' (M'++M))| Yr (c4 Mr:List aC) (post:Value->aN->List aC->Prop) (a7:M.Perm (c4++Mr)) (ao:Spec P f args I c4 post) (mw:∀ v I' M',post v I' M'->∀ x∈c4,x∈M') (k:∀ v I' M',(∀ b o,I b=some o->I' b=some o)->(∀ x∈M'++Mr,I' x.num=none)->post v I' M'->K v I' (M'++Mr))| Ys (b:Nat) (o:Obj) (c4 Mr:List aC) (post:Value->aN->List aC->Prop) (a7:M.Perm (⟨b,o⟩::(c4++Mr))) (aw:b ∉ bP) (ao:Spec P f args (ins I b o) c4 post) (mw:∀ v I' M',post v I' M'->∀ x∈c4,x∈M') (k:∀ v I' M',(∀ c p,ins I b o c=some p->I' c=some p)->(∀ x∈M'++Mr,I' x.num=none)->post v I' M'->K v I' (M'++Mr))| FM (h:qV I M->jc soft bP P f args I M K)| PG (F5:soft=true) (c4 Mr:List aC) (post:Value->aN->List aC->Prop) (a7:M.Perm (c4++Mr)) (ao:Spec P f args I c4 post) (k:∀ v I' M',(∀ b o,I b=some o->I' b=some o)->post v I' M'->K v I' (M'++Mr))
def jc.elim{I:aN}{M:List aC}{K:Value->aN->List aC->Prop}(hQ:qV I M)(h:jc soft bP P f args I M K) :
  ∃ (c8:aN) (c4 Mr:List aC) (post:Value->aN->List aC->Prop),hP bP I M c8 (c4++Mr)/\(∀ b o,I b=some o->c8 b=some o)/\Spec P f args c8 c4 post /\
   ∀ v I' M',(∀ b o,c8 b=some o->I' b=some o)->(∀ x∈M'++Mr,I' x.num=none)->post v I' M'->(soft=true\/∀ x∈M,I' x.num=some x.obj\/x∈M'++Mr)/\K v I' (M'++Mr):=by
 have PH:∀ {c4 Mr:List aC} {post:Value->aN->List aC->Prop} {I':aN},M.Perm (c4++Mr)->(∀ v I' M',post v I' M'->∀ x∈c4,x∈M')->∀ v M',post v I' M'->∀ x∈M,I' x.num=some x.obj\/x∈M'++Mr:=λa7 mw v M' aa x ab=>by
  right
  rcases en.1 (a7.mem_iff.1 ab)with ab | ab;·exact en.2 (.inl (mw v _ M' aa x ab))
  ·exact en.2 (.inr ab)
 induction h with
 |mk post ao k=>exact⟨I,[],M,post,.refl,λ_ _ h=>h,ao,λv I' M' U _ aa=>⟨.inr λx ab=>.inr (by simp[ab]),k v I' M' U aa⟩⟩| Yq c4 Mr post a7 ao mw k=>exact⟨I,c4,Mr,post,.perm a7 .refl,λ_ _ h=>h,ao,λv I' M' U _ aa=>⟨.inr (PH a7 mw v M' aa),k v I' M' U aa⟩⟩| Jv post ao k=>exact⟨I,[],M,post,.refl,λ_ _ h=>h,ao,λv I' M' U ag aa=>⟨.inr λx ab=>.inr (by simp[ab]),k v I' M' U ag aa⟩⟩| Yr c4 Mr post a7 ao mw k=>exact⟨I,c4,Mr,post,.perm a7 .refl,λ_ _ h=>h,ao,λv I' M' U ag aa=>⟨.inr (PH a7 mw v M' aa),k v I' M' U ag aa⟩⟩
 |Ys b o c4 Mr post a7 aw ao mw k=>
  have af:I b=none:=hQ.d ⟨b,o⟩ (a7.mem_iff.2 (.head _));have Yt:ins I b o b=some o:=by unfold ins;rw[o3];rfl
  refine⟨ins I b o,c4,Mr,post,.perm a7 (.pZ rfl aw .refl),λc p aA=>?_,ao,λv I' M' U ag aa=>⟨.inr λx ab=>?_,k v I' M' U ag aa⟩⟩
  ·unfold ins;by_cases e:c=b
   ·subst e;rw[af]at aA;cases aA
   ·rw[gh e];exact aA
  ·rcases dE.1 (a7.mem_iff.1 ab)with rfl | ab
   ·exact .inl (U _ _ Yt)
   ·right
    rcases en.1 ab with ab | ab;·exact en.2 (.inl (mw v I' M' aa x ab))
    ·exact en.2 (.inr ab)
 |FM h a2=>exact a2 hQ| PG F5 c4 Mr post a7 ao k=>exact⟨I,c4,Mr,post,.perm a7 .refl,λ_ _ h=>h,ao,λv I' M' U _ aa=>⟨.inl F5,k v I' M' U aa⟩⟩
def F6(ops:List Oper)(o:Oper)(F:Fr)(run skip:Fr->Prop):Prop:=
 match o.guard with
 |none=>run F
 |some (j,b)=>
  match(ops[j]?).bind (·.dst)with
  |none=>False
  |some d=>
   match F d with
   | .lit c=>bif c == b then run F else skip F| .val (.bool c)=>bo c b (run (fL F d (.lit b))) (skip (fL F d (.lit !b)))| .val (.tuple _)=>skip F| _=>False
def PI(fZ p:Nat):Bool:=Nat.beq (p &&& fZ) p
def Yu(ops:List Oper)(fZ p:Nat):Bool:=(List.range ops.length).all λq=>!p.testBit q||(fZ.testBit q||match ops[q]? with
 |some o=>!oa o.op| none=>true)
inductive s4(X:cx)(o:Oper)(F:Fr)(C:c7)(I:aN)(M:List aC)(K:cW->aN->List aC->Prop):Prop
 |mk (h:∀ β a w Q,cc X β a w F C I M->o.wpIn (fW X) 0 X.P a w (λbF w'=>∃ v x I' M',bF=a.put o.dst v/\dV β x v/\cc X β a w' F C I' M'/\K x I' M'/\I'=I) Q)
def s5(X:cx)(Yv soft:Bool)(o:Oper)(F:Fr)(C:c7)(I:aN)(M:List aC)(K:fG):Prop:=
 bif Yv then fX X o F C I M K else
 match o.op with
 | .call { callee:=.value f,args,.. }=>
  match bm F f,kL F args.toList with
  | .val (.func (.func g) first cap),some vs=>jc soft X.bP X.P g (first.toList++vs++cap.toList) I M λv I' M'=>K (put o.dst (.val v) F) C I' M'
  |_,_=>False
 | .alloc t=>
  match o.dst,X.E t with
  |some d,some i=>cz I M λb=>K (fL F d (.val (.pointer (some ⟨b,0,none⟩)))) C I (⟨b,.cells i.zero.toArray t (0,0)⟩::M)
  |_,_=>False
 | .buildSlice _ _ _=>fX X o F C I M K| .makeSlice _ _ _=>fX X o F C I M K| .store _ _ _=>bif soft then fX X o F C I M K else False| .call { callee:=.builtin .append,.. }=>bif soft then ∀ G:Fr,(∀ y∈o.op.operands,cR G y=cR F y)->s4 X o G C I M λx I' M'=>K (put o.dst x F) C I' M' else False
 | .call { callee:=.builtin .copy,.. }=>bif soft then ∀ G:Fr,(∀ y∈o.op.operands,cR G y=cR F y)->s4 X o G C I M λx I' M'=>K (put o.dst x F) C I' M' else False
 |_=>False
def F7:cW->Nat
 | .ref s _=>s+1| _=>0
def CD(i:Nat)(op:Op)(ρ:Operand->cW)(bX:List (Nat×Nat)):List (Nat×Nat):=match op with
 | .load _ x=>(i,F7 (ρ x))::bX| _=>bX
def An(fZ s:Nat):List (Nat×Nat)->Bool
 |[]=>true|(i,t)::bX=>(fZ.testBit i || !Nat.beq s t)&&An fZ s bX
def PJ{fZ s i t:Nat}:∀ {bX:List (Nat×Nat)},An fZ s bX=true->(i,t)∈bX->fZ.testBit i=true\/t≠s
 |(j,u)::bX,h,hm=>by
  unfold An at h;rw[bL,jY]at h;rcases dE.1 hm with e | hm
  ·cases e;rcases h.1 with U | U
   ·exact .inl U
   ·right
    rintro rfl;simp at U
  ·exact PJ h.2 hm
def PK(fZ:Nat)(op:Op)(ρ:Operand->cW)(bX:List (Nat×Nat)):Bool:=match op with
 | .store _ x _=>(match ρ x with
  | .val (.pointer (some _))=>An fZ 0 bX| _=>false)
 |_=>false
def PL(fZ:Nat)(op:Op)(ρ:Operand->cW)(bX:List (Nat×Nat)):Bool:=match op with
 | .store _ x _=>(match ρ x with
  | .ref s _=>An fZ (s+1) bX| _=>false)
 |_=>false
def s6(gC:Bool)(M:List aC):List aC:=bif gC then []else M
def Yw{I:aN}{M:List aC}{b:Nat}{o:Obj}(h:hl I (s6 gC M) b o):hl I M b o:=by
 cases gC with
 |false=>exact h
 |true=>
  rcases h with h | ⟨x,ab,_⟩;·exact .inl h
  ·cases ab
def PM{I I':aN}{M M':List aC}(h:∀ b o,hl I M b o->hl I' M' b o)(a1:∀ b o,I b=some o->I' b=some o):∀ b o,hl I (s6 gC M) b o->hl I' (s6 gC M') b o:=λb o af=>by
 cases gC with
 |false=>exact h b o af
 |true=>
  rcases af with af | ⟨x,ab,_⟩;·exact .inl (a1 _ _ af)
  ·cases ab
def Yx{I I':aN}{M M':List aC}(a1:∀ b o,I b=some o->I' b=some o):∀ b o,hl I (s6 true M) b o->hl I' (s6 true M') b o:=λb o af=>by
 rcases af with af | ⟨x,ab,_⟩
 ·exact .inl (a1 _ _ af)
 ·cases ab
def PN(X:cx)(gC:Bool)(op:Op)(ρ:Operand->cW)(C:c7)(I:aN)(M:List aC)(V:cW->Prop)(other:Prop):Prop:=match gC with
 |false=>b5 X op ρ C I M V other| true=>b5 X op ρ C I [] V other
def Yy{X:cx}{ρ:Operand->cW}{C:c7}{I:aN}{M:List aC}{V:cW->Prop}(h:PN X gC op ρ C I M V other):b5 X op ρ C I (s6 gC M) V other:=by
 cases gC with
 |false=>exact h| true=>exact h
def Yz(ops:List Oper)(gC:Nat->Bool)(fZ p:Nat):Bool:=(List.range ops.length).all λq=>!p.testBit q||(fZ.testBit q||(gC q||match ops[q]? with
 |some o=>!oa o.op| none=>true))
def PO(op:Op)(ρ:Operand->cW):Bool:=match op with
 | .store _ x _=>(match ρ x with
  | .val (.pointer (some _))=>true| _=>false)
 | .call { callee:=.builtin .append,.. }=>true| .call { callee:=.builtin .copy,.. }=>true| _=>false
def PP(ops:List Oper)(gC:Nat->Bool)(fZ p:Nat)(op:Op)(ρ:Operand->cW):Bool:=Yz ops gC fZ p&&PO op ρ
def p3(X:cx)(ops:List Oper)(gC:Nat->Bool):Nat->Nat->List (Nat×Nat)->Fr->c7->aN->List aC->fG->Prop
 |0,_,_,_,_,_,_,_=>False
 |n+1,p,bX,F,C,I,M,K=>
  match ob ops p true with
  |i::_=>
   (match ops[i]? with
   |some o=>F6 ops o F (λF=>PN X (gC i) o.op (cR F) C I M (λx=>p3 X ops gC n (p ||| 2^i) (CD i o.op (cR F) bX) (put o.dst x F) C I M K) False) (λF=>p3 X ops gC n (p ||| 2^i) bX (put o.dst (.val undef) F) C I M K)| none=>False)
  |[]=>
   match ob ops p false with
   |[]=>K F C I M
   |i0::q6=>JP (λi=>match ops[i]? with
     |some o=>F6 ops o F (λF=>s5 X (PI ((jF ops).getD i 0) p) (Yu ops ((jF ops).getD i 0) p||(PL ((jF ops).getD i 0) o.op (cR F) bX||(PK ((jF ops).getD i 0) o.op (cR F) bX||PP ops gC ((jF ops).getD i 0) p o.op (cR F)))) o F C I M λF C I M=>p3 X ops gC n (p ||| 2^i) bX F C I M K) (λF=>p3 X ops gC n (p ||| 2^i) bX (put o.dst (.val undef) F) C I M K)| none=>False) (i0::q6)
def looks(ops:List Oper)(o:Oper):List Nat:=o.looksAt ops.toArray
def F8(ops:List Oper):Bool:=
 let b:=jF ops
 (List.range ops.length).all λj=>match ops[j]? with
  |none=>true
  |some kR=>
   (kR.after.toList.all λe=>!Region.binds .any e||Nat.blt e.on j) &&
   ((match kR.dst with
    |some d=>!(looks ops kR).contains d| none=>true) &&
   ((List.range ops.length).all (λi=>Nat.beq i j||match ops[i]? with
    |none=>true
    |some fy=>match fy.dst with
     |none=>true| some d=>!(kR.dst == some d)&&(!(looks ops kR).contains d||((b.getD j 0).testBit i||(b.getD i 0).testBit j)))))
def kS(ops:List Oper)(j e:Nat):Prop:=∃ o jd,ops[j]?=some o/\jd∈o.after/\Region.binds .any jd=true/\jd.on=e
inductive nd(ops:List Oper):Nat->Nat->Prop
 |one{i j}(h:kS ops j i):nd ops i j| trans {i j k} (h:kS ops j k) (a1:nd ops i k):nd ops i j
def x7(ops:List Oper)(S:Nat->Prop):Prop:=∀ j e,S j->kS ops j e->S e
def nd.mem{S:Nat->Prop}(g4:x7 ops S){i j:Nat}(h:nd ops i j)(al:∀ e,kS ops j e->S e):S i:=by
 induction h with
 |one h=>exact al _ h| trans h _ a2=>exact a2 λe he=>g4 _ e (al _ h) he
def YA{acc:List Nat}{o:Oper}{i:Nat}(h:(CC acc o).testBit i=true):∃ e∈o.after,Region.binds .any e=true/\(e.on=i\/(acc.getD e.on 0).testBit i=true):=by
 have key:∀ (l:List Edge) (s:Nat),(l.foldl (λs e=>bif Region.binds .any e then s ||| 2^e.on ||| acc.getD e.on 0 else s) s).testBit i=true->s.testBit i=true\/∃ e∈l,Region.binds .any e=true/\(e.on=i\/(acc.getD e.on 0).testBit i=true):=by
  intro l
  induction l with
  |nil=>intro s h;exact .inl h
  |cons e l a2=>
   intro s h;simp only[Cf]at h;rcases a2 _ h with U | ⟨a0,F9,aa⟩
   ·cases af:Region.binds .any e with
    |false=>rw[af]at U;exact .inl U
    |true=>
     rw[af]at U;simp only[ba,FH,jY,Cb,ft]at U;rcases U with(U | U) | U;·exact .inl U
     ·exact .inr ⟨e,by simp,af,.inl U⟩
     ·exact .inr ⟨e,by simp,af,.inr U⟩
   ·exact .inr ⟨a0,by simp[F9],aa⟩
 rcases key _ 0 h with U | ⟨e,he,aa⟩
 ·simp at U
 ·exact⟨e,by simpa using he,aa⟩
def PQ(ops:List Oper):∀ (l:List Oper) (pre:List Oper) (acc:List Nat),ops=pre++l->acc.length=pre.length->(∀ j i,(acc.getD j 0).testBit i=true->nd ops i j) -> ∀ j i,((l.foldl (λacc o=>acc++[CC acc o]) acc).getD j 0).testBit i=true->nd ops i j
 |[],pre,acc,_,_,F'=>F'
 |o::l,pre,acc,s7,hlen,F'=>by
  simp only[Cf];refine PQ ops l (pre++[o]) _ (by simp[s7]) (by simp[hlen]) ?_;intro j i h;by_cases al:j<acc.length;·exact F' j i (by simpa[cQ,kJ al]using h)
  ·by_cases gm:j=acc.length
   ·subst gm;have a1:(CC acc o).testBit i=true:=by simpa[cQ]using h
    obtain⟨e,he,af,aa⟩:=YA a1;have ap:ops[acc.length]?=some o:=by rw[s7,hlen];simp
    have wa:kS ops acc.length e.on:=⟨o,e,ap,he,af,rfl⟩;rcases aa with rfl | aa;·exact .one wa
    ·exact .trans wa (F' _ _ aa)
   ·have:(acc++[CC acc o]).getD j 0=0:=by rw[cQ,z7 (by simp;omega)];rfl
    rw[this]at h;simp at h
def wb{j i:Nat}(h:((jF ops).getD j 0).testBit i=true):nd ops i j:=
 PQ ops ops [] [] rfl rfl (λj i h=>by simp at h) j i h
section
variable{X:cx}{C C':c7}{I I':aN}{M M':List aC}
def uM{ρ ix:Operand->cW}:∀ {xs:List Operand},(∀ y∈xs,ix y=ρ y)->il ix xs=il ρ xs
 |[],_=>rfl| x::xs,h=>by have U:=h x (by simp);have aa:=uM (xs:=xs) λy aG=>h y (by simp[aG]);simp only[il,dh,U,aa]
def JQ{ρ ix:Operand->cW}:∀ {xs:List (Nat×Operand)},(∀ y∈xs.map (·.2),ix y=ρ y)->qX ix xs=qX ρ xs
 |[],_=>rfl|(i,x)::xs,h=>by have U:=h x (by simp);have aa:=JQ (xs:=xs) λy aG=>h y (by simp only[dA,dE];exact .inr aG);simp only[qX,dh,U,aa]
def PR{ρ ix:Operand->cW}{V:cW->Prop}(h:b5 X op ρ C I M V False)(hS:∀ y∈op.operands,ix y=ρ y)
  (ay:∀ t x,op=.load t x->(∀ s off,ρ x=.ref s off->C' s=C s)/\((∀ s off,ρ x≠.ref s off)->∀ b o,hl I M b o->hl I' M' b o)):b5 X op ix C' I' M' V False:=by
 cases op
 case load t x=>
  obtain⟨aA,ae⟩:=ay t x rfl;have U:=hS x (by simp[Op.operands]);simp only[b5,U]at h |-;cases aH:X.E t with
  |none=>rw[aH]at h;exact h.elim
  |some i=>
   rw[aH]at h
   try simp only at h |-
   cases ab:ρ x with
   |ref s off=>
    rw[ab]at h
    try simp only at h |-
    rw[aA s off ab];exact h
   |val v=>
    rw[ab]at h
    try simp only at h |-
    split at h;·rename_i e;cases e
    ·rename_i a e;cases e;obtain⟨vs,⟨aa,cs,T,aj,ag,aK⟩,bg⟩:=h;exact⟨vs,⟨aa,cs,T,aj,ae (λs off e=>by rw[ab]at e;cases e) _ _ ag,aK⟩,bg⟩
    ·exact h.elim
   |lit b=>rw[ab]at h;exact h.elim| lj=>rw[ab]at h;exact h.elim
 case build t ps=>
  have U:=JQ (ρ:=ρ) (ix:=ix) (xs:=ps.toList) λy aG=>hS y (by simpa[Op.operands]using aG);simp only[b5,U]at h |-;exact h
 case makeFunc fn first captured=>
  have U:=uM (ρ:=ρ) (ix:=ix) (xs:=first.toList) λy aG=>hS y (by simp only[Op.operands,Array.mem_append];exact .inl (by simpa using aG));have aa:=uM (ρ:=ρ) (ix:=ix) (xs:=captured.toList) λy aG=>hS y (by simp only[Op.operands,Array.mem_append];exact .inr (by simpa using aG));simp only[b5,U,aa]at h |-;exact h
 case slice t x lo hi mx=>
  have U:=hS x (by simp[Op.operands]);have aa:lo.map (dh ix)=lo.map (dh ρ):=by
   cases lo with
   |none=>rfl| some y=>have:=hS y (by simp[Op.operands]);simp[dh,this]
  have ag:hi.map (dh ix)=hi.map (dh ρ):=by
   cases hi with
   |none=>rfl| some y=>have:=hS y (by simp[Op.operands]);simp[dh,this]
  simp only[b5,aa,ag,dh,U]at h |-;exact h
 case call c=>
  obtain⟨callee,args,argTypes⟩:=c;cases callee with
  |value f=>exact h| invoke r m=>exact h
  |builtin b=>
   cases b
   case len=>
    have U:=uM (ρ:=ρ) (ix:=ix) (xs:=args.toList) λy aG=>hS y (by simp[Op.operands,Call.operands];simpa using aG);simp only[b5,U]at h |-;exact h
   case cap=>
    have U:=uM (ρ:=ρ) (ix:=ix) (xs:=args.toList) λy aG=>hS y (by simp[Op.operands,Call.operands];simpa using aG);simp only[b5,U]at h |-;exact h
   case max=>
    have U:=uM (ρ:=ρ) (ix:=ix) (xs:=args.toList) λy aG=>hS y (by simp[Op.operands,Call.operands];simpa using aG);simp only[b5,U]at h |-;exact h
   case min=>
    have U:=uM (ρ:=ρ) (ix:=ix) (xs:=args.toList) λy aG=>hS y (by simp[Op.operands,Call.operands];simpa using aG);simp only[b5,U]at h |-;exact h
   case unsafeSliceData=>
    have U:=uM (ρ:=ρ) (ix:=ix) (xs:=args.toList) λy aG=>hS y (by simp[Op.operands,Call.operands];simpa using aG);simp only[b5,U]at h |-;exact h
   all_goals exact h
 all_goals first
  |exact h|(rename_i x;have U:=hS x (by simp[Op.operands]);simp only[b5,dh,U]at h |-;exact h)|(rename_i x y;have U:=hS x (by simp[Op.operands]);have aa:=hS y (by simp[Op.operands]);simp only[b5,dh,U,aa]at h |-;exact h)|(rename_i x y z;have U:=hS x (by simp[Op.operands]);have aa:=hS y (by simp[Op.operands]);have ag:=hS z (by simp[Op.operands]);simp only[b5,dh,U,aa,ag]at h |-;exact h)|(rename_i x y;have U:=hS x (by simp[Op.operands]);simp only[b5,dh,U]at h |-;exact h)|(rename_i x y;have U:=hS y (by simp[Op.operands]);simp only[b5,dh,U]at h |-;exact h)|(rename_i x y z;have U:=hS x (by simp[Op.operands]);have aa:=hS y (by simp[Op.operands]);simp only[b5,dh,U,aa]at h |-;exact h)|(rename_i x y z;have U:=hS y (by simp[Op.operands]);have aa:=hS z (by simp[Op.operands]);simp only[b5,dh,U,aa]at h |-;exact h)|(rename_i o x y z u;have U:=hS y (by simp[Op.operands]);have aa:=hS z (by simp[Op.operands]);simp only[b5,dh,U,aa]at h |-;exact h)|(rename_i x y z u;have U:=hS z (by simp[Op.operands]);have aa:=hS y (by simp[Op.operands]);simp only[b5,dh,U,aa]at h |-;exact h)
end
section
variable{X:cx}{C:c7}{I:aN}{M:List aC}
def YB{op:BinOp}{c9:Option dH}{x y:cW}{V:Value->Prop}{O:Prop}(h:jZ op c9 x y V O) :
  (∃ r,V r/\∀ pc,jZ op c9 x y (λz=>z=r) pc)\/(O/\∀ (JR:Value->Prop) (pc:Prop),pc->jZ op c9 x y JR pc):=by
 unfold jZ at h;split at h
 ·left
  split at h;·obtain⟨j,al,⟨r,an,ae⟩⟩:=h;exact⟨_,ae,λpc=>by unfold jZ;exact⟨j,al,⟨r,an,rfl⟩⟩⟩
  ·obtain⟨j,al,ae⟩:=h;exact⟨_,ae,λpc=>by unfold jZ;exact⟨j,al,rfl⟩⟩
  ·rename_i _ _ k a cd b _ fY ja;cases gT:IntKind.kN k cd with
   |false=>rw[gT]at h;exact h.elim
   |true=>
    rw[gT]at h;simp only[ba]at h;cases op<;>simp only at h
    case add=>obtain⟨r,an,ae⟩:=h;exact⟨_,ae,λpc=>by simp only[jZ,gT,ba];exact⟨r,an,rfl⟩⟩
    case sub=>obtain⟨r,an,ae⟩:=h;exact⟨_,ae,λpc=>by simp only[jZ,gT,ba];exact⟨r,an,rfl⟩⟩
    case mul=>obtain⟨r,an,ae⟩:=h;exact⟨_,ae,λpc=>by simp only[jZ,gT,ba];exact⟨r,an,rfl⟩⟩
    case quo=>obtain⟨aq,⟨r,an,ae⟩⟩:=h;exact⟨_,ae,λpc=>by simp only[jZ,gT,ba];exact⟨aq,⟨r,an,rfl⟩⟩⟩
    case rem=>obtain⟨aq,ae⟩:=h;exact⟨_,ae,λpc=>by simp only[jZ,gT,ba];first | exact⟨aq,rfl⟩ | exact⟨aq,trivial⟩⟩
    case shl=>exact(fY rfl).elim
    case shr=>exact(ja rfl).elim
    all_goals exact⟨_,h,λpc=>by simp only[jZ,gT,ba];rfl⟩
 ·cases op<;>first
  |exact .inl ⟨_,h,λ_=>rfl⟩| exact .inr ⟨h,λ_ _ ap=>ap⟩
 ·split at h
  ·cases op<;>first
   |exact .inl ⟨_,h,λ_=>rfl⟩| exact .inr ⟨h,λ_ _ ap=>ap⟩
  ·rename_i av;refine .inr ⟨h,λJR pc ap=>?_⟩;cases c9 with
   |none=>exact ap
   |some i=>
    obtain⟨s,b,z,bz⟩:=i;cases bz<;>first
     |exact ap| exact(av _ _ _ rfl).elim
 ·rename_i U aa ag;refine .inr ⟨h,λJR pc ap=>?_⟩;unfold jZ;split<;>first
   |exact ap| exact(U _ _ _ _ rfl rfl).elim| exact(aa _ _ rfl rfl).elim| exact(ag _ _ rfl rfl).elim
def YC{ρ:Operand->cW}{V:cW->Prop}(h:b5 X op ρ C I M V False):∃ x,V x/\b5 X op ρ C I M (λy=>y=x) False:=by
 cases op
 case move x=>exact⟨_,h,rfl⟩
 case assign x=>exact⟨_,h,rfl⟩
 case pick c p q=>
  simp only[b5]at h |-;split at h;·exact⟨_,h,rfl⟩
  ·exact⟨_,h,rfl⟩
  ·exact h.elim
 case unOp op t x=>
  simp only[b5]at h |-;split at h;·exact⟨_,h,rfl⟩
  ·exact⟨_,h,rfl⟩
  ·obtain⟨r,an,ae⟩:=h;exact⟨_,ae,⟨r,an,rfl⟩⟩
  ·exact h.elim
 case binOp op t x y ty=>
  simp only[b5]at h |-;rcases YB h with⟨r,U,aa⟩ | ⟨⟨e2,eN,r,aO,aE,an,ae⟩ | U,aa⟩
  ·refine⟨_,U,?_⟩;have:(λv=>cW.val v=cW.val r)=(λz=>z=r):=by funext v;simp
   rw[this];exact aa _
  ·exact⟨_,ae,aa _ _ (.mk e2 eN r aO aE an rfl)⟩
  ·exact U.elim
 case load t x=>
  simp only[b5]at h |-;split at h
  ·split at h
   ·split at h
    ·rename_i i hi _ s off ao _ cs aA;cases hle:Nat.ble (off+i.size) cs.length with
     |false=>rw[hle]at h;exact h.elim| true=>rw[hle]at h;exact⟨_,h,rfl⟩
    ·exact h.elim
   ·obtain⟨vs,an,ae⟩:=h;exact⟨_,ae,⟨vs,an,rfl⟩⟩
   ·exact h.elim
  ·exact h.elim
 case nilCheck x=>
  simp only[b5]at h |-;split at h;·exact⟨_,h,rfl⟩
  ·exact⟨_,h,rfl⟩
  ·exact h.elim
 case fieldAddr t x i=>
  simp only[b5]at h |-;split at h
  ·split at h
   ·split at h
    ·rename_i gl s o' ll ab;cases bd:Nat.beq gl.size 0 with
     |true=>rw[bd]at h;exact h.elim| false=>rw[bd]at h;exact⟨_,h,rfl⟩
    ·rename_i gl s ll ab;cases bd:Nat.beq gl.size 0 with
     |true=>rw[bd]at h;exact h.elim| false=>rw[bd]at h;exact⟨_,h,rfl⟩
    ·exact h.elim
   ·exact h.elim
  ·exact h.elim
 case field t x i=>
  simp only[b5]at h |-;split at h
  ·split at h
   ·split at h
    ·rename_i sz g' z bT cs au ab _ kM off h2 _ gl ll;cases hle:Nat.ble (off+gl.size) cs.size with
     |false=>rw[hle]at h;exact h.elim| true=>rw[hle]at h;exact⟨_,h,rfl⟩
    ·exact h.elim
   ·exact h.elim
  ·exact h.elim
 case indexAddr t x i=>
  simp only[b5]at h |-;split at h
  ·split at h
   ·obtain⟨ad,j,U,aa,ag,ae⟩:=h;exact⟨_,ae,⟨ad,j,U,aa,ag,rfl⟩⟩
   ·exact h.elim
  ·split at h
   ·obtain⟨j,aa,ag,ae⟩:=h;exact⟨_,ae,⟨j,aa,ag,rfl⟩⟩
   ·obtain⟨j,aa,ag,ae⟩:=h;exact⟨_,ae,⟨j,aa,ag,rfl⟩⟩
   ·exact h.elim
  ·exact h.elim
 case index t x i=>
  simp only[b5]at h |-;split at h;·obtain⟨j,aa,ag,ae⟩:=h;exact⟨_,ae,⟨j,aa,ag,rfl⟩⟩
  ·split at h
   ·rename_i n e cs e9 k au ab hi _ aF gX;cases bd:Nat.beq (n*aF.size) cs.size with
    |false=>rw[bd]at h;exact h.elim| true=>rw[bd]at h;obtain⟨j,aa,ag,ae⟩:=h;exact⟨_,ae,⟨j,aa,ag,rfl⟩⟩
   ·exact h.elim
  ·exact h.elim
 case build t ps=>
  simp only[b5]at h |-;split at h
  ·split at h
   ·rename_i i vs au hn _ bT lS;cases aO:z9 X.E bT with
    |false=>rw[aO]at h;exact h.elim
    |true=>
     rw[aO]at h;simp only[ba]at h |-;split at h;·exact⟨_,h,rfl⟩
     ·exact h.elim
   ·split at h
    ·split at h
     ·exact⟨_,h,rfl⟩
     ·exact h.elim
    ·exact h.elim
   ·exact h.elim
  ·exact h.elim
 case makeFunc fn first captured=>
  simp only[b5]at h |-;split at h;·exact⟨_,h,rfl⟩
  ·exact h.elim
 case slice t x lo hi mx=>
  simp only[b5]at h |-;split at h
  ·split at h
   ·exact⟨_,h,rfl⟩
   ·obtain⟨l,m,U,aa,ag,aK,ae⟩:=h;exact⟨_,ae,⟨l,m,U,aa,ag,aK,rfl⟩⟩
   ·obtain⟨l,m,U,aa,ag,aK,ae⟩:=h;exact⟨_,ae,⟨l,m,U,aa,ag,aK,rfl⟩⟩
   ·obtain⟨l,m,U,aa,ag,aK,ae⟩:=h;exact⟨_,ae,⟨l,m,U,aa,ag,aK,rfl⟩⟩
   ·exact h.elim
  ·split at h
   ·exact⟨_,h,rfl⟩
   ·obtain⟨l,m,U,aa,ag,aK,ae⟩:=h;exact⟨_,ae,⟨l,m,U,aa,ag,aK,rfl⟩⟩
   ·obtain⟨l,m,U,aa,ag,aK,ae⟩:=h;exact⟨_,ae,⟨l,m,U,aa,ag,aK,rfl⟩⟩
   ·obtain⟨l,m,U,aa,ag,aK,ae⟩:=h;exact⟨_,ae,⟨l,m,U,aa,ag,aK,rfl⟩⟩
   ·exact h.elim
  ·exact h.elim
 case extract x i=>
  simp only[b5]at h |-;split at h
  ·split at h
   ·exact⟨_,h,rfl⟩
   ·exact h.elim
  ·exact h.elim
 case convert s d x=>
  simp only[b5]at h |-;split at h;·obtain⟨r,an,ae⟩:=h;exact⟨_,ae,⟨r,an,rfl⟩⟩
  ·exact h.elim
 case call c=>
  obtain⟨callee,args,argTypes⟩:=c;cases callee with
  |value f=>exact h.elim| invoke r m=>exact h.elim
  |builtin b=>
   cases b
   case len=>
    simp only[b5]at h |-;split at h
    ·split at h
     ·exact⟨_,h,rfl⟩
     ·exact⟨_,h,rfl⟩
     ·exact⟨_,h,rfl⟩
     ·exact h.elim
    ·exact h.elim
   case cap=>
    simp only[b5]at h |-;split at h
    ·split at h
     ·exact⟨_,h,rfl⟩
     ·exact h.elim
    ·exact h.elim
   case max=>
    simp only[b5]at h |-;split at h;·exact⟨_,h,rfl⟩
    ·exact h.elim
   case min=>
    simp only[b5]at h |-;split at h;·exact⟨_,h,rfl⟩
    ·exact h.elim
   case unsafeSliceData=>
    simp only[b5]at h |-;split at h;·exact⟨_,h,rfl⟩
    ·obtain⟨U,aa⟩:=h;exact⟨_,aa,⟨U,rfl⟩⟩
    ·exact h.elim
   all_goals exact h.elim
 all_goals exact h.elim
end
def hl.mono{I I':aN}{M M':List aC}{b:Nat}{o:Obj}(h:hl I M b o)(a9:∀ b o,I b=some o->I' b=some o)(a7:∀ x∈M,x∈M'):hl I' M' b o:=by
 rcases h with h | ⟨x,ab,U,aa⟩
 ·exact .inl (a9 _ _ h)
 ·exact .inr ⟨x,a7 x ab,U,aa⟩
def hl.move{I I':aN}{M M':List aC}{b:Nat}{o:Obj}(h:hl I M b o)(a9:∀ b o,I b=some o->I' b=some o)(a7:∀ x∈M,I' x.num=some x.obj\/x∈M'):hl I' M' b o:=by
 rcases h with h | ⟨x,ab,rfl,rfl⟩
 ·exact .inl (a9 _ _ h)
 ·rcases a7 x ab with h | h
  ·exact .inl h
  ·exact .inr ⟨x,h,rfl,rfl⟩
def PS(F:Fr)(op:Op)(C C':c7)(I I':aN)(M M':List aC):Prop:=(∀ t x y s off,op=.store t x y->cR F x=.ref s off->((∀ b0,b0≠s->C' b0=C b0)/\∀ b o,I b=some o->I' b=some o)/\∀ b o,hl I M b o->hl I' M' b o)/\(∀ t x y ad,op=.store t x y->cR F x=.val (.pointer (some ad))->C'=C/\∀ b o,I b=some o->I' b=some o)/\((∀ t x y,op≠.store t x y)->C'=C/\∀ b o,I b=some o->I' b=some o)
def YD(X:cx)(β:Nat->Nat)(G F:Fr)(C:c7)(I:aN)(M:List aC)(YE:Bool)(op:Op)(dst:Option Nat)(a:Act)(K:fG)(bF:Act)(w':World):Prop:=
 ∃ v x C' I' M',bF=a.put dst v/\dV β x v/\cc X β a w' G C' I' M'/\K (put dst x F) C' I' M'/\((YE=true/\PS F op C C' I I' M M')\/(C'=C/\(∀ b o,I b=some o->I' b=some o)/\∀ b o,hl I M b o->hl I' M' b o))
def YF{X:cx}{β:Nat->Nat}{F G:Fr}{C:c7}{I:aN}{M:List aC}{o:Oper}{K:fG}(aH:cB X.P X.E)
  (h:cc X β a w G C I M) (jG:∀ y∈o.op.operands,cR G y=cR F y) (ah:s5 X false soft o F C I M K):o.wpIn (fW X) 0 X.P a w (YD X β G F C I M soft o.op o.dst a K) Q:=by
 obtain⟨dst,op,ty,pos,after,guard⟩:=o;have aw:=h.aj;have my:∀ {y:Operand} {v:Value},y∈op.operands->bm F y=.val v->a.eval y=v:=fun {y v} aG he=>cZ aw (by simp only[bm,dh,jG y aG];exact he);cases op
 case alloc t=>
  simp only[s5,a5]at ah;split at ah
  ·rename_i d i hi;obtain⟨z,bd,uJ⟩:=(aH _ _ hi).Cl w;have Ae:z.cells=i.zero.toArray:=by rw[<-uJ]
   obtain⟨ah⟩:=ah;have ae:=ah w.heap.size h.holds.p1 h.holds.o4;refine hZ (by simp) (v:=.pointer (some ⟨w.heap.size,0,none⟩)) (w':=w.alloc (.cells i.zero.toArray t (0,0))) ?_ ⟨_,.val _,_,_,_,rfl,rfl,h.m7 _,ae,.inr ⟨rfl,λ_ _ h=>h,λb o af=>af.mono (λ_ _ h=>h) (λx ab=>by simp[ab])⟩⟩;simp[execOp,Instr.alloc,newVar,newRow,bd,Ae,xO]
  ·exact ah.elim
 case store t x y=>
  simp only[s5,a5]at ah;cases soft with
  |false=>exact ah.elim
  |true=>
   simp only[ba,fX]at ah;split at ah
   ·rename_i i v hi aG;have v3:=my (by simp[Op.operands]) aG;split at ah
    ·rename_i s off ab;have h1:=xS aw ((jG x (by simp[Op.operands])).trans ab);split at ah
     ·rename_i cs ao;cases hle:(Nat.ble (off+i.size) cs.length&&(Nat.beq v.cells.size i.size&&gS v.cells.toList))with
      |false=>rw[hle]at ah;exact ah.elim
      |true=>
       rw[hle]at ah;simp only[bL]at hle;obtain⟨hle,cm,jb⟩:=hle;have Co:=bB hle;have x0:=cC cm;obtain⟨T,br⟩:=(h.bX s cs ao).at_;have:=FR (aH _ _ hi) (a:=⟨β s,off,none⟩) (v:=v) rfl br x0 (by simp;omega) jb;refine Aa (by simp) (w':=w.setRow (β s) (bw cs off v.cells.toList).toArray) ?_ ⟨undef,.lj,_,_,_,rfl,trivial,h.Pm ao (bw cs off v.cells.toList),ah,.inl ⟨rfl,λeB mv PT b0 FP ax az=>(by
        cases ax;rw[ab]at az;cases az;refine⟨⟨λs2 bk=>?_,λ_ _ h=>h⟩,λ_ _ h=>h⟩;unfold hO;rw[gh bk];rfl),λeB mv PT akY ax az=>(by
        cases ax;rw[ab]at az;cases az),λx8=>absurd rfl (x8 _ _ _)⟩⟩
       simp only[execOp,Instr.storeAt,h1,v3,Instr.sureAddr,bM,cy,bx];simp only[Jq]at this;rw[this];rfl
     ·exact ah.elim
    ·rename_i ad ab;have h1:=rO aw ((jG x (by simp[Op.operands])).trans ab);cases cm:Nat.beq v.cells.size i.size with
     |false=>rw[cm]at ah;exact ah.elim| true=>rw[cm]at ah;obtain⟨pre,post,cs,T,a7,bQ,af,jb,ae⟩:=ah;have x0:=cC cm;have ar:w.heap[ad.block]?=some (.cells cs T (0,0)):=h.holds.m ⟨ad.block,.cells cs T (0,0)⟩ (by rw[a7];simp);have:=FR (aH _ _ hi) (v:=v) bQ ar x0 af jb;refine Aa (by simp) (w':=w.setRow ad.block (bw cs.toList ad.off v.cells.toList).toArray) ?_ ⟨undef,.lj,_,_,_,rfl,trivial,h.vV a7,ae,.inl ⟨rfl,λeB mv PT b0 FP ax az=>(by cases ax;rw[ab]at az;cases az),λ_ _ _ _ _ _=>⟨rfl,λ_ _ h=>h⟩,λx8=>absurd rfl (x8 _ _ _)⟩⟩;simp only[execOp,Instr.storeAt,h1,v3,Instr.sureAddr,bM,cy,bx];rw[this];rfl
    ·exact ah.elim
   ·exact ah.elim
 case buildSlice t len parts=>
  simp only[s5,a5,fX]at ah;have YG:xR G parts.toList=xR F parts.toList:=JQ λy aG=>jG y (by simpa[Op.operands]using aG);rw[<-YG]at ah;split at ah
  ·rename_i sz g' z e vs au hn;have hu:=(aH _ _ au).slice;have aO:=FN aw hn;have v0:(parts.map λ(i,x)=>(i,a.eval x)).toList=vs:=by simpa using aO
   split at ah
   ·rename_i aF gX;cases bd:(Nat.ble (len*aF.size) 16777216&&Nat.blt 0 (len*aF.size))with
    |false=>
     rw[bd]at ah;simp only[a5]at ah;split at ah
     ·rename_i Yb;obtain⟨ah⟩:=ah;have ae:=ah w.heap.size h.holds.p1 h.holds.o4;refine hZ (by simp) (v:=.slice (some ⟨w.heap.size,0,none⟩) 0 0) (w':=w.alloc (.cells #[] e (0,0))) ?_ ⟨_,.val _,_,_,_,rfl,rfl,h.m7 _,ae,.inr ⟨rfl,λ_ _ h=>h,λb o af=>af.mono (λ_ _ h=>h) (λx ab=>by simp[ab])⟩⟩;simp only[execOp,Instr.buildSlice,bM,bx,run_underlying hu,(aH _ _ gX).run_sizeOf,v0];have b7:∀ f:Nat->Value,Array.map f (Array.range 0)=#[]:=λf=>by apply Array.ext<;>simp
      simp[newRow,xO,Instr.fill,b7]
     ·exact ah.elim
    |true=>
     rw[bd]at ah;simp only[ba]at ah;rw[bL]at bd;have hle:=bB bd.1;have n':0<len*aF.size:=by simpa using bd.2
     split at ah;·rename_i cells sY;obtain⟨qZ,x1,uJ⟩:=(aH _ _ gX).Cl w;obtain⟨ah⟩:=ah;have ae:=ah w.heap.size h.holds.p1 h.holds.o4;refine hZ (by simp) (v:=.slice (some ⟨w.heap.size,0,none⟩) len len) (w':=w.alloc (.cells cells.toArray e (0,0))) ?_ ⟨_,.val _,_,_,_,rfl,rfl,h.m7 _,ae,.inr ⟨rfl,λ_ _ h=>h,λb o af=>af.mono (λ_ _ h=>h) (λx ab=>by simp[ab])⟩⟩;have xX:=fill_eq _ _ _ _ sY;simp only[execOp,Instr.buildSlice,bM,bx,run_underlying hu,(aH _ _ gX).run_sizeOf];rw[dc (by omega)];simp only[dc (show ¬ len*aF.size=0 by omega),bM,x1,bx,cy,v0,Pu qZ aF.zero uJ,xX];simp[newRow,xO]
     ·exact ah.elim
   ·exact ah.elim
  ·exact ah.elim
 case makeSlice t l c=>
  simp only[s5,a5,fX]at ah;split at ah
  ·rename_i sz g' z e Cp cU j0 c' au ay aA;have hu:=(aH _ _ au).slice;have o7:=my (by simp[Op.operands]) ay;have rS:=my (by simp[Op.operands]) aA;split at ah
   ·rename_i aF gX;obtain⟨n,m,rfl,rfl,Cq,af,hm,⟨ah⟩⟩:=ah;have ae:=ah w.heap.size h.holds.p1 h.holds.o4;obtain⟨inf,qZ,eA,gG,gH,iS,rP⟩:=(aH _ _ gX).inf;refine hZ (by simp) (v:=.slice (some ⟨w.heap.size,0,none⟩) n m) (w':=w.alloc (.cells (rowOf aF.zero (m*aF.size)).toArray e (0,0))) ?_ ⟨_,.val _,_,_,_,rfl,rfl,h.m7 _,ae,.inr ⟨rfl,λ_ _ h=>h,λb o af=>af.mono (λ_ _ h=>h) (λx ab=>by simp[ab])⟩⟩;have m8:((aF.bytes:Nat):Int)*(m:Int)<=281474976710656:=by
     have aa:((aF.bytes*m:Nat):Int)<=281474976710656:=by omega
     simpa using aa
    have:=run_make (P:=X.P) w t e inf qZ hu eA iS Cp j0 (n:Int) (m:Int) (by omega) (by omega) (by rw[gH];exact m8) (by omega);simp only[execOp,o7,rS,bM,this,bx,cy,jA];have ax:madeCells qZ.cells (m*inf.size)=(rowOf aF.zero (m*aF.size)).toArray:=by rw[gG,<-rP];simp[z']
    rw[ax]
   ·exact ah.elim
  ·exact ah.elim
 case call c=>
  obtain⟨callee,args,argTypes⟩:=c;cases callee with
  |value f=>
   simp only[s5,a5]at ah;split at ah
   ·rename_i g first cap vs v5 hn
    have YH:kL G args.toList=some vs:=by rw[<-hn];exact uM λy aG=>jG y (by simp only[Op.operands,Call.operands];simp;right;simpa using aG)
    have YI:=my (by simp[Op.operands,Call.operands]) v5;obtain⟨c8,c4,Mr,post,YJ,cn,ao,ae⟩:=ah.elim ⟨h.holds.d,h.holds.bS⟩;have ax:=qY aw YH;have dy:args.map a.eval=vs.toArray:=by apply fV;simpa using ax
    have fb:∀ {n:Next} {w':World},(callFunc g (first.toList++vs++cap.toList).toArray).run X.P w=.ok n w'->(execOp a.eval ⟨dst,.call { callee:=.value f,args,argTypes },ty,pos,after,guard⟩).run X.P w=.ok n w':=λan=>by simp only[execOp,resolve,YI,Deferred.ofValue,bM,cy,bx,dy,invoke];rw[show first++vs.toArray++cap=(first.toList++vs++cap.toList).toArray from by apply fV;simp];exact an
    have PU:∀ {I':aN} {M':List aC},(∀ b o,I b=some o->I' b=some o)->(soft=true\/∀ x∈M,I' x.num=some x.obj\/x∈M')->(soft=true/\PS F (.call { callee:=.value f,args,argTypes }) C C I I' M M')\/(C=C/\(∀ b o,I b=some o->I' b=some o)/\∀ b o,hl I M b o->hl I' M' b o):=λU aa=>by
     rcases aa with aa | aa;·exact .inl ⟨aa,⟨λt x y s off e _=>(by cases e),λt x y ad e _=>(by cases e),λ_=>⟨rfl,U⟩⟩⟩
     ·exact .inr ⟨rfl,U,λb o af=>af.move U aa⟩
    rcases h.call (KC:=λv I' M'=>(∀ b o,I b=some o->I' b=some o)/\(soft=true\/∀ x∈M,I' x.num=some x.obj\/x∈M')/\K (Go.V.put dst (.val v) F) C I' M') (.Jw c8 c4 Mr post YJ ao λv I' M' hle ai aO=>⟨λb o af=>hle _ _ (cn _ _ af),(ae v I' M' hle ai aO).1,(ae v I' M' hle ai aO).2⟩)with⟨n8,x2⟩ | ⟨v,w',I',M',an,⟨U,aa,ae⟩,fH⟩;·refine Pt (by simp) (f:=g) (args:=(first.toList++vs++cap.toList).toArray) (fb (n8 _ _)) ?_;refine x2.mono ?_;rintro e w'⟨v,I',M',rfl,⟨U,aa,ae⟩,an⟩;exact⟨v,rfl,v,.val v,C,I',M',rfl,rfl,an,ae,PU U aa⟩
    ·exact hZ (by simp) (fb an) ⟨v,.val v,C,I',M',rfl,rfl,fH,ae,PU U aa⟩
   ·exact ah.elim
  |invoke r m=>exact ah.elim
  |builtin b=>
   cases b
   case append=>
    simp only[s5,a5]at ah;cases soft with
    |false=>exact ah.elim| true=>simp only[ba]at ah;obtain⟨ah⟩:=ah G jG;refine qQ (λbF w'=>?_) (ah β a w Q h);rintro⟨v,x,I',M',U,aa,ag,aK,JS⟩;exact⟨v,x,C,I',M',U,aa,ag,aK,.inl ⟨rfl,⟨λt x y s off e _=>(by cases e),λt x y ad e _=>(by cases e),λ_=>⟨rfl,λb o h=>by rw[JS];exact h⟩⟩⟩⟩
   case copy=>
    simp only[s5,a5]at ah;cases soft with
    |false=>exact ah.elim| true=>simp only[ba]at ah;obtain⟨ah⟩:=ah G jG;refine qQ (λbF w'=>?_) (ah β a w Q h);rintro⟨v,x,I',M',U,aa,ag,aK,JS⟩;exact⟨v,x,C,I',M',U,aa,ag,aK,.inl ⟨rfl,⟨λt x y s off e _=>(by cases e),λt x y ad e _=>(by cases e),λ_=>⟨rfl,λb o h=>by rw[JS];exact h⟩⟩⟩⟩
   all_goals exact ah.elim
 all_goals exact ah.elim
def q7(x y:cW):Prop:=∀ β u,dV β x u->dV β y u
def q7.refl(x:cW):q7 x x:=λ_ _ h=>h
def q7.trans{x y z:cW}(h:q7 x y)(a1:q7 y z):q7 x z:=fun β u hu=>a1 β u (h β u hu)
structure s8(ops:List Oper):Prop where
 lt:∀ j e,kS ops j e->e<j
 own:∀ (j:Nat) (o:Oper) (d:Nat),ops[j]?=some o->o.dst=some d->d ∉ looks ops o
 JT:∀ (i j:Nat) (fy kR:Oper) (d:Nat),i≠j->ops[i]?=some fy->ops[j]?=some kR->fy.dst=some d->kR.dst≠some d
 ord:∀ (i j:Nat) (fy kR:Oper) (d:Nat),i≠j->ops[i]?=some fy->ops[j]?=some kR->fy.dst=some d->d∈looks ops kR->nd ops i j\/nd ops j i
def PV(h:F8 ops=true):s8 ops:=by
 have key:∀ (j:Nat) (kR:Oper),ops[j]?=some kR->_:=λj kR al=>by have aL:j<ops.length:=(ij.1 al).1;have U:=gq.1 h j (kk.2 aL);simp only[al,bL]at U;exact U
 refine⟨?_,?_,?_,?_⟩
 ·rintro j e⟨o,jd,ap,pd,af,rfl⟩;have U:=gq.1 (key j o ap).1 jd (by simpa using pd);rw[af]at U;simpa using U
 ·intro j o d ap ai;have U:=(key j o ap).2.1;rw[ai]at U;simpa using U
 ·intro i j fy kR d bk hi al ai gi;have aL:i<ops.length:=(ij.1 hi).1;have U:=gq.1 (key j kR al).2.2 i (kk.2 aL);rw[gh bk]at U;simp only[hi,ai,qS,bL]at U;rw[gi]at U;simp at U
 ·intro i j fy kR d bk hi al ai ay;have aL:i<ops.length:=(ij.1 hi).1;have U:=gq.1 (key j kR al).2.2 i (kk.2 aL);rw[gh bk]at U;simp only[hi,ai,qS,bL,jY]at U;rcases U.2 with aa | aa | aa
  ·have:(looks ops kR).contains d=true:=by simpa using ay
   rw[this]at aa;cases aa
  ·exact .inl (wb aa)
  ·exact .inr (wb aa)
def hC(ops:List Oper)(i:Nat):Option Nat:=(ops[i]?).bind (·.dst)
def je(L:Nat->Prop)(p i:Nat):Prop:=p.testBit i=true/\¬ L i
def wc(ops:List Oper)(o:Oper)(F:Fr):Prop:=match o.guard with
 |none=>True| some (j,b)=>∃ d,hC ops j=some d/\F d=.lit b
def Ga(ops:List Oper)(o:Oper)(F:Fr):Prop:=∃ j b d,o.guard=some (j,b)/\hC ops j=some d/\(F d=.lit (!b)\/∃ vs,F d=.val (.tuple vs))
def JU{o:Oper}{j d:Nat}{b:Bool}(ar:o.guard=some (j,b))(ai:hC ops j=some d):d∈looks ops o:=by unfold looks Oper.looksAt;refine FF _ ?_;rw[ar];simp only[Option.mem_toList];simpa[hC]using ai
def JV{o:Oper}{t:Nat}(h:Operand.tmp t∈o.op.operands):t∈looks ops o:=
 Ca _ (List.mem_filterMap.2 ⟨.tmp t,by simpa using h,rfl⟩)
def PW{o:Oper}{F:Fr}{β:Nat->Nat}(h:wc ops o F)(cS:∀ t∈looks ops o,dV β (F t) (a.tmps.getD t undef)):Region.wanted o (yielded ops.toArray a.tmps)=true:=by
 unfold wc at h;unfold Region.wanted;cases ar:o.guard with
 |none=>rfl| some Cs=>obtain⟨j,b⟩:=Cs;rw[ar]at h;obtain⟨d,ai,ay⟩:=h;have U:=cS d (JU ar ai);rw[ay]at U;have aG:=Cr (ops:=ops.toArray) (j:=j) (d:=d) (by simpa[hC]using ai) a.tmps;simp[aG,Ag U]
def PX{o:Oper}{F:Fr}{β:Nat->Nat}(h:Ga ops o F)(cS:∀ t∈looks ops o,dV β (F t) (a.tmps.getD t undef)):Region.wanted o (yielded ops.toArray a.tmps)=false:=by
 obtain⟨j,b,d,ar,ai,ay⟩:=h;unfold Region.wanted;have U:=cS d (JU ar ai);have aG:=Cr (ops:=ops.toArray) (j:=j) (d:=d) (by simpa[hC]using ai) a.tmps;rw[ar];rcases ay with ay | ⟨vs,ay⟩
 ·rw[ay]at U;simp[aG,Ag U]
 ·rw[ay]at U;have x3:yielded ops.toArray a.tmps j=none:=by
   rw[aG];cases o8:a.tmps[d]? with
   |none=>rfl| some v=>simp only[dV,m6,o8,iZ]at U;subst U;rfl
  simp[x3]
def PY{o:Oper}{F:Fr}{run skip:Fr->Prop}(h:F6 ops o F run skip):∃ jH,(∀ t,q7 (F t) (jH t))/\((wc ops o jH/\run jH)\/(Ga ops o jH/\skip jH)):=by
 unfold F6 at h;cases ar:o.guard with
 |none=>rw[ar]at h;exact⟨F,λt=>.refl _,.inl ⟨by simp[wc,ar],h⟩⟩
 |some Cs=>
  obtain⟨j,b⟩:=Cs;rw[ar]at h;simp only at h;split at h;·exact h.elim
  ·rename_i d ai;have gi:hC ops j=some d:=ai;split at h
   ·rename_i c aA;refine⟨F,λt=>.refl _,?_⟩;cases hR:(c == b)with
    |true=>
     rw[hR]at h;have hR:c=b:=by simpa using hR
     subst hR;exact .inl ⟨by simp only[wc,ar];exact⟨d,gi,aA⟩,h⟩
    |false=>
     rw[hR]at h;have Gb:c=!b:=by cases c<;>cases b<;>simp_all
     subst Gb;exact .inr ⟨⟨j,b,d,ar,gi,.inl aA⟩,h⟩
   ·rename_i c aA;obtain⟨U,aa⟩:=h;have gC:∀ x,c=x->∀ t,q7 (F t) (fL F d (.lit x) t):=λx ab t=>by
     unfold fL;by_cases e:t=d;·subst e;subst ab;simp only[o3,ba,aA];exact λ_ _ h=>h
     ·simp only[gh e,a5];exact .refl _
    have self:∀ x,fL F d (.lit x) d=.lit x:=λx=>by simp[fL]
    by_cases hR:c=b;·exact⟨_,gC b hR,.inl ⟨by simp only[wc,ar];exact⟨d,gi,self b⟩,U hR⟩⟩
    ·have Gb:c=!b:=by cases c<;>cases b<;>simp_all
     exact⟨_,gC _ Gb,.inr ⟨⟨j,b,d,ar,gi,.inl (self _)⟩,aa Gb⟩⟩
   ·rename_i vs aA;exact⟨F,λt=>.refl _,.inr ⟨⟨j,b,d,ar,gi,.inr ⟨vs,aA⟩⟩,h⟩⟩
   ·exact h.elim
structure YK(X:cx)(ops:List Oper)(ho:Nat->Bool)(L:Nat->Prop)(p:Nat)(bX:List (Nat×Nat))(β:Nat->Nat)(a:Act)(F:Fr)(C:c7)(I:aN)(M:List aC)(gr:Nat->cW)(fI:Nat->Fr)(q:Nat)(o:Oper):Prop where
 quiet:Am o.op=true
 gC:∀ d,o.dst=some d->q7 (gr q) (F d)
 b:∀ t∈looks ops o,∀ i,je L p i->nd ops i q->hC ops i=some t->q7 (gr i) (fI q t)
 a:∀ t∈looks ops o,(∀ i,je L p i->nd ops i q->hC ops i≠some t)->dV β (fI q t) (a.tmps.getD t undef)
 r:(wc ops o (fI q)/\b5 X o.op (cR (fI q)) C I (s6 (ho q) M) (λx=>x=gr q) False/\∀ t x,o.op=.load t x->(q,F7 (cR (fI q) x))∈bX)\/(Ga ops o (fI q)/\gr q=.val undef)
structure Inv(X:cx)(ops:List Oper)(ho:Nat->Bool)(L:Nat->Prop)(β:Nat->Nat)(a:Act)(w:World)(F:Fr)(C:c7)(I:aN)(M:List aC)(p:Nat)(bX:List (Nat×Nat))(gr:Nat->cW)(fI:Nat->Fr):Prop where
 rel:cc X β a w (λ_=>.lj) C I M
 sub:∀ i,L i->p.testBit i=true
 s9:x7 ops L
 pe:x7 ops (λi=>p.testBit i=true)
 T:∀ t,(∀ i,je L p i->hC ops i≠some t)->dV β (F t) (a.tmps.getD t undef)
 we:∀ q,je L p q->∃ o,ops[q]?=some o/\YK X ops ho L p bX β a F C I M gr fI q o
def kT{p q i:Nat}:(p ||| 2^q).testBit i=true ↔ p.testBit i=true\/i=q:=by simp only[FH,jY,Cb,ft];exact⟨λh=>h.imp id Eq.symm,λh=>h.imp id Eq.symm⟩
section
variable{X:cx}{ops:List Oper}{ho:Nat->Bool}{L:Nat->Prop}{β:Nat->Nat}{a:Act}{w:World}{F:Fr}{C:c7}{I:aN}{M:List aC}{p:Nat}{bX:List (Nat×Nat)}{gr:Nat->cW}{fI:Nat->Fr}{q:Nat}{o:Oper}
def CE(h:ops[q]?=some o):hC ops q=o.dst:=by simp[hC,h]
def CF{i d:Nat}(h:hC ops i=some d):∃ fy,ops[i]?=some fy/\fy.dst=some d:=by unfold hC at h;exact Jo.1 h
def Inv.ahead(cH:s8 ops)(uN:x7 ops (λi=>p.testBit i=true))(aE:ops[q]?=some o)(jI:p.testBit q=false){i t:Nat}(hi:p.testBit i=true)(au:t∈looks ops o)(ai:hC ops i=some t):nd ops i q:=by
 obtain⟨fy,g5,oc⟩:=CF ai;have bk:i≠q:=λe=>by rw[e,jI]at hi;cases hi
 rcases cH.ord i q fy o t bk g5 aE oc au with h | h
 ·exact h
 ·have:=h.mem uN (λe he=>uN i e hi he);rw[jI]at this;cases this
def Inv.YL(cH:s8 ops)(h:Inv X ops ho L β a w F C I M p bX gr fI)(aE:ops[q]?=some o)(jI:p.testBit q=false)(bh:∀ e,kS ops q e->L e):∀ t∈looks ops o,dV β (F t) (a.tmps.getD t undef):=λt au=>h.T t λi hi ai=>
 hi.2 ((Inv.ahead cH h.pe aE jI hi.1 au ai).mem h.s9 bh)
def Gc{x:cW}{t:Nat}(h:dst≠some t):put dst x F t=F t:=by
 cases dst with
 |none=>rfl| some d=>have:t≠d:=λe=>h (by rw[e]);simp only[put,fL,gh this,a5]
def put_eq{x:cW}{t:Nat}:put (some t) x F t=x:=by simp[put,fL]
def Gd{t:Nat}(h:dst≠some t):(a.put dst v).tmps.getD t undef=a.tmps.getD t undef:=by
 cases dst with
 |none=>rfl| some d=>have:d≠t:=λe=>h (by rw[e]);simp only[Act.put,m6,z4,dc this]
def JW{t:Nat}(h:t<a.tmps.size):(a.put (some t) v).tmps.getD t undef=v:=by rw[Pg a t t v h,dv rfl]
def Inv.record(cH:s8 ops)(h:Inv X ops ho L β a w F C I M p bX gr fI)(aE:ops[q]?=some o)(jI:p.testBit q=false)(wa:∀ e,kS ops q e->p.testBit e=true)(Ge:Am o.op=true)
  {jH:Fr} (q8:∀ t,q7 (F t) (jH t)) {x:cW} {JX:List (Nat×Nat)} (rR:∀ s∈bX,s∈JX) (an:(wc ops o jH/\b5 X o.op (cR jH) C I (s6 (ho q) M) (λy=>y=x) False/\∀ t y,o.op=.load t y->(q,F7 (cR jH y))∈JX)\/(Ga ops o jH/\x=.val undef)) :
  Inv X ops ho L β a w (put o.dst x jH) C I M (p ||| 2^q) JX (λi=>if i=q then x else gr i) (λi=>if i=q then jH else fI i):=by
 have pf:¬ L q:=λe=>by have:=h.sub q e;rw[jI]at this;cases this
 have od:∀ {i},je L (p ||| 2^q) i->i≠q->je L p i:=λhi bk=>⟨(kT.1 hi.1).resolve_right bk,hi.2⟩;have uO:∀ {i},je L p i->je L (p ||| 2^q) i:=λhi=>⟨kT.2 (.inl hi.1),hi.2⟩;have YM:je L (p ||| 2^q) q:=⟨kT.2 (.inr rfl),pf⟩;have YN:∀ {i},je L p i->¬ nd ops q i:=fun {i} hi af=>by have:=af.mem h.pe (λe he=>h.pe i e hi.1 he);rw[jI]at this;cases this
 refine⟨h.rel,λi hi=>kT.2 (.inl (h.sub i hi)),h.s9,?_,?_,?_⟩
 ·intro j e al he;rcases kT.1 al with al | rfl
  ·exact kT.2 (.inl (h.pe j e al he))
  ·exact kT.2 (.inl (wa e he))
 ·intro t au;have U:o.dst≠some t:=λe=>au q YM (by rw[CE aE,e]);rw[Gc U];exact q8 t _ _ (h.T t λi hi=>au i (uO hi))
 ·intro i hi;by_cases nf:i=q
  ·subst nf;refine⟨o,aE,⟨Ge,?_,?_,?_,?_⟩⟩
   ·intro d ai;rw[ai,put_eq];simp only[dv];exact .refl _
   ·intro t au j al af s';have Gf:j≠i:=λe=>by subst e;have:=af.mem h.pe wa;rw[jI]at this;cases this
    simp only[dc Gf,dv];obtain⟨kR,YO,p4⟩:=h.we j (od al Gf);exact(p4.gC t (by rw[<-CE YO];exact s')).trans (q8 t)
   ·intro t au eO;simp only[dv];refine q8 t _ _ (h.T t λj al s'=>eO j (uO al) (Inv.ahead cH h.pe aE jI al.1 au s') s')
   ·simpa using an
  ·obtain⟨fy,g5,p4⟩:=h.we i (od hi nf);refine⟨fy,g5,⟨p4.quiet,?_,?_,?_,?_⟩⟩
   ·intro d ai;simp only[dc nf];rw[Gc (cH.JT i q fy o d nf g5 aE ai)];exact(p4.gC d ai).trans (q8 d)
   ·intro t au j al af s';have CG:j≠q:=λe=>by subst e;exact YN (od hi nf) af
    simp only[dc nf,dc CG];exact p4.b t au j (od al CG) af s'
   ·intro t au eO;simp only[dc nf];exact p4.a t au λj al=>eO j (uO al)
   ·simp only[dc nf];exact p4.r.imp (λ⟨U,aa,ag⟩=>⟨U,aa,λt x ax=>rR _ (ag t x ax)⟩) id
def Inv.exec{v':Act->World->Prop}(aH:cB X.P X.E)(cH:s8 ops)(fa:∀ d,o.dst=some d->d<X.n)(h:Inv X ops ho L β a w F C I M p bX gr fI)(aE:ops[q]?=some o)(aO:je L p q)(bh:∀ e,kS ops q e->L e)
  (fl:∀ bF,Inv X ops ho (λi=>L i\/i=q) β bF w F C I M p bX gr fI->v' bF w):wpOpIn (fW X) 0 X.P ops.toArray Q q v' a w:=by
 obtain⟨o',pg,p4⟩:=h.we q aO;rw[aE]at pg;cases pg;have Ao:∀ {i},nd ops i q->¬ je L p i:=λaf hi=>hi.2 (af.mem h.s9 bh);have ea:∀ t∈looks ops o,dV β (fI q t) (a.tmps.getD t undef):=λt au=>p4.a t au λi hi af=>(Ao af hi).elim;have after:∀ v,dV β (gr q) v->Inv X ops ho (λi=>L i\/i=q) β (a.put o.dst v) w F C I M p bX gr fI:=λv ah=>by
  have od:∀ {i},je (λi=>L i\/i=q) p i->je L p i/\i≠q:=λhi=>⟨⟨hi.1,λe=>hi.2 (.inl e)⟩,λe=>hi.2 (.inr e)⟩;have uO:∀ {i},je L p i->i≠q->je (λi=>L i\/i=q) p i:=λhi bk=>⟨hi.1,λe=>e.elim hi.2 bk⟩;refine⟨h.rel.put fa (x:=.lj) trivial |> λh=>h.refine λ_=>trivial,?_,?_,h.pe,?_,?_⟩
  ·rintro i (hi | rfl)
   ·exact h.sub i hi
   ·exact aO.1
  ·rintro j e (al | rfl) he
   ·exact .inl (h.s9 j e al he)
   ·exact .inl (bh e he)
  ·intro t au;by_cases ai:o.dst=some t
   ·have aL:t<a.tmps.size:=by rw[h.rel.size];exact fa t ai
    rw[ai,JW aL];exact p4.gC t ai _ _ ah
   ·rw[Gd ai];refine h.T t λi hi oc=>?_;by_cases nf:i=q
    ·subst nf;rw[CE aE]at oc;exact ai oc
    ·exact au i (uO hi nf) oc
  ·intro i hi;obtain⟨cT,nf⟩:=od hi;obtain⟨fy,g5,q9⟩:=h.we i cT;refine⟨fy,g5,⟨q9.quiet,q9.gC,λt au j al=>q9.b t au j (od al).1,?_,q9.r⟩⟩;intro t au eO;by_cases ai:o.dst=some t
   ·have aL:t<a.tmps.size:=by rw[h.rel.size];exact fa t ai
    rw[ai,JW aL];have af:nd ops q i:=by
     rcases cH.ord q i o fy t (qT nf) aE g5 ai au with af | af;·exact af
     ·exact(Ao af cT).elim
    exact q9.b t au q aO af (by rw[CE aE,ai]) _ _ ah
   ·rw[Gd ai];refine q9.a t au λj al af s'=>?_;by_cases CG:j=q
    ·subst CG;rw[CE aE]at s';exact ai s'
    ·exact eO j (uO al CG) af s'
 have CH:ops.toArray[q]?=some o:=by simpa using aE
 unfold wpOpIn;simp only[CH];rcases p4.r with⟨fb,YP,-⟩ | ⟨CI,ab⟩
 ·rw[PW fb ea,dv rfl];let G:Fr:=λt=>if t∈looks ops o then fI q t else .lj
  have jG:∀ t,dV β (G t) (a.tmps.getD t undef):=λt=>by
   by_cases au:t∈looks ops o;·simp only[G,dv au];exact ea t au
   ·simp only[G,dc au];trivial
  have JY:∀ y∈o.op.operands,cR G y=cR (fI q) y:=λy aG=>by
   cases y with
   |tmp t=>simp only[cR,G,dv (JV aG)]| const v=>cases v<;>rfl
   |global g=>rfl| func f=>rfl
  have YQ:=PR YP JY (C':=C) (I':=I) (M':=M) λ_ _ _=>⟨λ_ _ _=>rfl,λ_ _ _ h=>Yw h⟩;obtain⟨dst,op,ty,pos,YR,guard⟩:=o;have cf:∀ c,op≠.defer c:=λc e=>by have:=p4.quiet;rw[e]at this;cases this
  rcases Py aH (h.rel.refine jG) op ty dst pos YR guard YQ with U | ⟨v,x,hb,ab,rfl⟩;·exact U.elim
  ·exact hZ cf hb (fl _ (after v ab))
 ·rw[PX CI ea];simp only[iP,jC];exact⟨λ_ _=>trivial,fl _ (after undef (by rw[ab];rfl))⟩
end
section
variable{X:cx}{ops:List Oper}{ho:Nat->Bool}{L:Nat->Prop}{β:Nat->Nat}{a:Act}{w:World}{F:Fr}{C:c7}{I:aN}{M:List aC}{p:Nat}{bX:List (Nat×Nat)}{gr:Nat->cW}{fI:Nat->Fr}{q:Nat}{o:Oper}
def Inv.refine(h:Inv X ops ho L β a w F C I M p bX gr fI){jH:Fr}(q8:∀ t,q7 (F t) (jH t)):Inv X ops ho L β a w jH C I M p bX gr fI:=
 ⟨h.rel,h.sub,h.s9,h.pe,λt au=>q8 t _ _ (h.T t au),λi hi=>by
  obtain⟨fy,g5,aO⟩:=h.we i hi;exact⟨fy,g5,⟨aO.quiet,λd ai=>(aO.gC d ai).trans (q8 d),aO.b,aO.a,aO.r⟩⟩⟩
def Inv.step(cH:s8 ops)(fa:∀ d,o.dst=some d->d<X.n)(h:Inv X ops ho L β a w F C I M p bX gr fI)(aE:ops[q]?=some o)(jI:p.testBit q=false)(bh:∀ e,kS ops q e->L e)
 {x:cW} {C':c7} {I':aN} {M':List aC} (ab:dV β x v) (an:cc X β a w' (λ_=>.lj) C' I' M')
  (hm:∀ i fy dO,je L p i->ops[i]?=some fy->oa fy.op=true->(i,dO)∈bX->(∀ s,dO=s+1->C' s=C s)/\(dO=0->∀ b o,hl I (s6 (ho i) M) b o->hl I' (s6 (ho i) M') b o)) :
  Inv X ops ho (λi=>L i\/i=q) β (a.put o.dst v) w' (put o.dst x F) C' I' M' (p ||| 2^q) bX gr fI:=by
 have od:∀ {i},je (λi=>L i\/i=q) (p ||| 2^q) i->je L p i:=λhi=>⟨(kT.1 hi.1).resolve_right (λe=>hi.2 (.inr e)),λe=>hi.2 (.inl e)⟩;have uO:∀ {i},je L p i->je (λi=>L i\/i=q) (p ||| 2^q) i:=fun {i} hi=>⟨kT.2 (.inl hi.1),λe=>e.elim hi.2 (λe=>by
  subst e;have:=hi.1;rw[jI]at this;cases this)⟩
 refine⟨an.put fa (x:=.lj) trivial |> λh=>h.refine λ_=>trivial,?_,?_,?_,?_,?_⟩
 ·rintro i (hi | rfl)
  ·exact kT.2 (.inl (h.sub i hi))
  ·exact kT.2 (.inr rfl)
 ·rintro j e (al | rfl) he
  ·exact .inl (h.s9 j e al he)
  ·exact .inl (bh e he)
 ·intro j e al he;rcases kT.1 al with al | rfl
  ·exact kT.2 (.inl (h.pe j e al he))
  ·exact kT.2 (.inl (h.sub e (bh e he)))
 ·intro t au;by_cases ai:o.dst=some t
  ·have aL:t<a.tmps.size:=by rw[h.rel.size];exact fa t ai
   rw[ai,JW aL,put_eq];exact ab
  ·rw[Gd ai,Gc ai];exact h.T t λi hi=>au i (uO hi)
 ·intro i hi;have cT:=od hi;obtain⟨fy,g5,q9⟩:=h.we i cT;have nf:i≠q:=λe=>by subst e;have:=cT.1;rw[jI]at this;cases this
  refine⟨fy,g5,⟨q9.quiet,?_,λt au j al=>q9.b t au j (od al),?_,?_⟩⟩;·intro d ai;rw[Gc (cH.JT i q fy o d nf g5 aE ai)];exact q9.gC d ai
  ·intro t au eO;have ai:o.dst≠some t:=λai=>by
    rcases cH.ord q i o fy t (qT nf) aE g5 ai au with af | af;·have:=af.mem h.pe (λe he=>h.pe i e cT.1 he);rw[jI]at this;cases this
    ·exact cT.2 (af.mem h.s9 bh)
   rw[Gd ai];exact q9.a t au λj al=>eO j (uO al)
  ·refine q9.r.imp (λ⟨U,aa,ag⟩=>⟨U,PR aa (λ_ _=>rfl) λt x ay=>?_,ag⟩) id;have aK:=ag t x ay;have bg:=hm i fy _ cT g5 (by rw[ay];rfl) aK;refine⟨λs off e=>?_,λbk=>bg.2 ?_⟩
   ·exact bg.1 s (by rw[e];rfl)
   ·generalize cR (fI i) x=YS at bk;cases YS with
    |ref s off=>exact(bk s off rfl).elim| _=>rfl
def x9(X:cx)(ops:List Oper)(ho:Nat->Bool)(K:fG)(L:Nat->Prop)(a:Act)(w:World):Prop:=
 ∃ β F C I M p bX gr fI n,Inv X ops ho L β a w F C I M p bX gr fI/\p3 X ops ho n p bX F C I M K
def CJ{k:Bool}{i:Nat}:i∈ob ops p k ↔ ∃ o,ops[i]?=some o/\p.testBit i=false/\Am o.op=k/\(∀ e,kS ops i e->p.testBit e=true):=by
 unfold ob;rw[vT,kk];have CK:∀ {o},ops[i]?=some o->(CB o p=true ↔ ∀ e,kS ops i e->p.testBit e=true):=fun {o} ap=>by
  unfold CB;rw[gq];constructor;·rintro h e⟨o',jd,pg,pd,af,rfl⟩;rw[ap]at pg;cases pg;have:=h jd (by simpa using pd);rw[af]at this;simpa using this
  ·intro h jd pd;cases af:Region.binds .any jd with
   |false=>simp| true=>simp[h jd.on ⟨o,jd,ap,by simpa using pd,af,rfl⟩]
 constructor
 ·rintro⟨aL,h⟩;cases ap:ops[i]? with
  |none=>rw[ap]at h;cases h| some o=>rw[ap]at h;simp only[bL,n4,beq_iff_eq]at h;exact⟨o,rfl,h.1,h.2.1,(CK ap).1 h.2.2⟩
 ·rintro⟨o,ap,U,aa,ag⟩;refine⟨(ij.1 ap).1,?_⟩;rw[ap];simp only[U,aa,(CK ap).2 ag,Ch,z8,Bool.and_self]
def PZ{P:Nat->Prop}:∀ {l:List Nat},JP P l->∀ i∈l,P i
 |[],_,i,hi=>by cases hi
 |[j],h,i,hi=>by rw[kh]at hi;subst hi;exact h
 |j::k::l,h,i,hi=>by
  rcases dE.1 hi with rfl | hi;·exact h.1
  ·exact PZ (l:=k::l) h.2 i hi
def YT(i:Nat)(op:Op)(ρ:Operand->cW)(bX:List (Nat×Nat)):∀ s∈bX,s∈CD i op ρ bX:=λs ao=>by
 unfold CD;split
 ·exact .tail _ ao
 ·exact ao
def YU{i:Nat}{ρ:Operand->cW}{bX:List (Nat×Nat)}:∀ t x,op=.load t x->(i,F7 (ρ x))∈CD i op ρ bX:=λt x ax=>by subst ax;unfold CD;exact .head _
def x9.advance(cH:s8 ops){K:fG}:∀ (n:Nat) {p bX F gr fI},Inv X ops ho L β a w F C I M p bX gr fI->p3 X ops ho n p bX F C I M K -> ∃ p bX F gr fI n,Inv X ops ho L β a w F C I M p bX gr fI/\ob ops p true=[]/\p3 X ops ho (n+1) p bX F C I M K
 |0,_,_,_,_,_,_,ah=>ah.elim
 |n+1,p,bX,F,gr,fI,a9,ah=>by
  cases an:ob ops p true with
  |nil=>exact⟨p,bX,F,gr,fI,n,a9,an,ah⟩
  |cons q l=>
   have gU:q∈ob ops p true:=by rw[an];simp
   obtain⟨o,aE,jI,Ge,wa⟩:=CJ.1 gU;have kO:=ah;unfold p3 at kO;rw[an]at kO;simp only[aE]at kO;obtain⟨jH,q8,⟨fb,U⟩ | ⟨CI,U⟩⟩:=PY kO;·obtain⟨x,aa,ag⟩:=YC (Yy U);exact x9.advance cH n (a9.record cH aE jI wa Ge q8 (YT _ _ _ _) (.inl ⟨fb,ag,YU⟩)) aa
   ·exact x9.advance cH n (a9.record cH aE jI wa Ge q8 (λ_ h=>h) (.inr ⟨CI,rfl⟩)) U
def mem_ready{i:Nat}(cm:listed.size=ops.length):i∈Region.ready .any ops.toArray listed ↔ ∃ o,ops[i]?=some o/\¬ listed.getD i false=true/\∀ e,kS ops i e->listed.getD e false=true:=by
 unfold Region.ready;rw[vT,kk];simp only[oY,xK,bL,n4];have CK:∀ {o},ops[i]?=some o->((o.after.all λe=>!Region.binds .any e||listed.getD e.on false)=true ↔ ∀ e,kS ops i e->listed.getD e false=true):=fun {o} ap=>by
  rw[Array.all_eq_true_iff_forall_mem];constructor;·rintro h e⟨o',jd,pg,pd,af,rfl⟩;rw[ap]at pg;cases pg;have:=h jd pd;rw[af]at this;simpa using this
  ·intro h jd pd;cases af:Region.binds .any jd with
   |false=>simp| true=>simp[h jd.on ⟨o,jd,ap,pd,af,rfl⟩]
 have P0:i<ops.length->(listed.getD i true=false ↔ ¬ listed.getD i false=true):=λhi=>by
  have:i<listed.size:=by omega
  simp[Array.getD,this]
 constructor
 ·rintro⟨aL,U,aa⟩;cases ap:ops[i]? with
  |none=>rw[ap]at aa;cases aa| some o=>rw[ap]at aa;exact⟨o,rfl,(P0 aL).1 U,(CK ap).1 aa⟩
 ·rintro⟨o,ap,U,aa⟩;have aL:=(ij.1 ap).1;refine⟨aL,(P0 aL).2 U,?_⟩;rw[ap];exact(CK ap).2 aa
def P1{i:Nat}(hi:i<listed.size):(λj=>(listed.setIfInBounds i true).getD j false=true)=λj=>listed.getD j false=true\/j=i:=by
 funext j;simp only[m6,z4,eq_iff_iff];by_cases e:i=j
 ·subst e;simp[hi]
 ·simp only[dc e];constructor
  ·exact .inl
  ·rintro(h | h)
   ·exact h
   ·exact(e h.symm).elim
def todo(ops:List Oper)(listed:Array Bool):Nat:=((List.range ops.length).filter λi=>!listed.getD i false).length
def Gg{i:Nat}(hi:i<ops.length)(cm:listed.size=ops.length)(av:¬ listed.getD i false=true):todo ops (listed.setIfInBounds i true)<todo ops listed:=by
 unfold todo;have key:∀ l:List Nat,l.Nodup->i∈l->((l.filter λj=>!(listed.setIfInBounds i true).getD j false).length<(l.filter λj=>!listed.getD j false).length):=by
  have same:∀ j,j≠i->(listed.setIfInBounds i true).getD j false=listed.getD j false:=λj al=>by simp only[m6,z4,dc (qT al)]
  have self:(listed.setIfInBounds i true).getD i false=true:=by
   have:i<listed.size:=by omega
   simp[m6,z4,this]
  have Gh:listed.getD i false=false:=by simpa using av
  intro l
  induction l with
  |nil=>intro _ h;cases h
  |cons j l a2=>
   intro cf hm;rw[lg]at cf;by_cases e:j=i
   ·subst e;have:l.filter (λk=>!(listed.setIfInBounds j true).getD k false)=l.filter (λk=>!listed.getD k false):=
     FG λk ae=>by rw[same k (λe=>cf.1 (e ▸ ae))]
    simp only[vR,self,Gh,this];simp
   ·have p5:i∈l:=by
     rcases dE.1 hm with h | h;·exact(e h.symm).elim
     ·exact h
    have:=a2 cf.2 p5;simp only[vR,same j e];split;·simp only[c5];omega
    ·exact this
 exact key _ List.nodup_range (kk.2 hi)
def YV(aH:cB X.P X.E)(cH:s8 ops)(fa:∀ o∈ops,∀ d,o.dst=some d->d<X.n){K:fG}(km:∀ a w,Sat X K a w->Q .normal a w):∀ (de:Nat) (listed:Array Bool) (a:Act) (w:World),
  listed.size=ops.length->todo ops listed<=de->x9 X ops ho K (λi=>listed.getD i false=true) a w->wpAnyIn (fW X) 0 X.P .any ops.toArray Q de listed a w:=by
 intro de
 induction de with
 |zero=>
  rintro listed a w cm aw⟨β,F,C,I,M,p,bX,gr,fI,n,a9,ah⟩;have mz:Region.ready .any ops.toArray listed=[]:=by
   cases an:Region.ready .any ops.toArray listed with
   |nil=>rfl| cons i l=>obtain⟨o,ap,av,_⟩:=(mem_ready cm).1 (by rw[an];simp:i∈Region.ready .any ops.toArray listed);have:=Gg (ij.1 ap).1 cm av;omega
  refine⟨mz,?_⟩;obtain⟨p,bX,F,gr,fI,n,a9,hp,ah⟩:=x9.advance cH n a9 ah;have CL:∀ i,p.testBit i=true->listed.getD i false=true:=λi=>by
   induction i using Nat.strongRecOn with
   |ind i a2=>intro aO;refine z5 λav=>?_;obtain⟨o,ap,_⟩:=a9.we i ⟨aO,av⟩;have:i∈Region.ready .any ops.toArray listed:=(mem_ready cm).2 ⟨o,ap,av,λe he=>a2 e (cH.lt i e he) (a9.pe i e aO he)⟩;rw[mz]at this;cases this
  have lp:ob ops p false=[]:=by
   cases an:ob ops p false with
   |nil=>rfl| cons i l=>obtain⟨o,ap,aO,_,ai⟩:=CJ.1 (by rw[an];simp:i∈ob ops p false);have:i∈Region.ready .any ops.toArray listed:=(mem_ready cm).2 ⟨o,ap,λbI=>(by have eg:=a9.sub i bI;rw[aO]at eg;exact Bool.noConfusion eg),λe he=>CL e (ai e he)⟩;rw[mz]at this;cases this
  unfold p3 at ah;rw[hp,lp]at ah;exact km _ _ ⟨F,C,I,M,⟨β,a9.rel.refine λt=>a9.T t λi hi=>(hi.2 (CL i hi.1)).elim⟩,ah⟩
 |succ de a2=>
  rintro listed a w cm aw⟨β,F,C,I,M,p,bX,gr,fI,n,a9,ah⟩;obtain⟨p,bX,F,gr,fI,n,a9,hp,ah⟩:=x9.advance cH n a9 ah;refine⟨λmz=>?_,λq aE=>?_⟩
  ·have CL:∀ i,p.testBit i=true->listed.getD i false=true:=λi=>by
    induction i using Nat.strongRecOn with
    |ind i a2=>intro aO;refine z5 λav=>?_;obtain⟨o,ap,_⟩:=a9.we i ⟨aO,av⟩;have:i∈Region.ready .any ops.toArray listed:=(mem_ready cm).2 ⟨o,ap,av,λe he=>a2 e (cH.lt i e he) (a9.pe i e aO he)⟩;rw[mz]at this;cases this
   have lp:ob ops p false=[]:=by
    cases an:ob ops p false with
    |nil=>rfl| cons i l=>obtain⟨o,ap,aO,_,ai⟩:=CJ.1 (by rw[an];simp:i∈ob ops p false);have:i∈Region.ready .any ops.toArray listed:=(mem_ready cm).2 ⟨o,ap,λbI=>(by have eg:=a9.sub i bI;rw[aO]at eg;exact Bool.noConfusion eg),λe he=>CL e (ai e he)⟩;rw[mz]at this;cases this
   unfold p3 at ah;rw[hp,lp]at ah;exact km _ _ ⟨F,C,I,M,⟨β,a9.rel.refine λt=>a9.T t λi hi=>(hi.2 (CL i hi.1)).elim⟩,ah⟩
  ·obtain⟨o,ap,av,ai⟩:=(mem_ready cm).1 aE;have aL:=(ij.1 ap).1;have ph:=fa o (vQ ap);have lU:=P1 (listed:=listed) (i:=q) (by omega);have next:∀ bF w',x9 X ops ho K (λi=>listed.getD i false=true\/i=q) bF w'->wpAnyIn (fW X) 0 X.P .any ops.toArray Q de (listed.setIfInBounds q true) bF w':=λbF w' h=>by refine a2 _ bF w' (by simpa using cm) ?_ (by rw[lU];exact h);have:=Gg aL cm av;omega
   cases jI:p.testBit q with
   |true=>
    exact a9.exec aH cH ph ap ⟨jI,av⟩ ai λbF h=>next bF w ⟨β,F,C,I,M,p,bX,gr,fI,n+1,h,ah⟩
   |false=>
    have JZ:∀ e,kS ops q e->p.testBit e=true:=λe he=>a9.sub e (ai e he);have YW:Am o.op=false:=by
     cases YX:Am o.op with
     |false=>rfl| true=>have:q∈ob ops p true:=CJ.2 ⟨o,ap,jI,YX,JZ⟩;rw[hp]at this;cases this
    have gU:q∈ob ops p false:=CJ.2 ⟨o,ap,jI,YW,JZ⟩;unfold p3 at ah;rw[hp]at ah;simp only at ah;split at ah;·rename_i lp;rw[lp]at gU;cases gU
    ·rename_i i0 q6 lp;rw[lp]at gU;have af:=PZ ah q gU;simp only[ap]at af;obtain⟨jH,q8,af⟩:=PY af;have cn:=a9.refine q8;have rT:=cn.YL cH ap jI ai;have CH:ops.toArray[q]?=some o:=by simpa using ap
     unfold wpOpIn;simp only[CH];rcases af with⟨fb,af⟩ | ⟨CI,af⟩
     ·rw[PW fb rT,dv rfl];cases J0:PI ((jF ops).getD q 0) p with
      |true=>
       rw[J0]at af;simp only[s5,ba]at af;have eP:∀ i,p.testBit i=true->listed.getD i false=true:=λi hi=>by
        have U:=cC J0;have aa:(p &&& (jF ops).getD q 0).testBit i=true:=by rw[U];exact hi
        rw[Jt,bL]at aa;exact(wb aa.2).mem a9.s9 ai
       have aZ:Rel X a w jH C I M:=⟨β,cn.rel.refine λt=>cn.T t λi hi=>(hi.2 (eP i hi.1)).elim⟩;refine qQ (λbF w'=>?_) (Af aH ph aZ af);rintro⟨dI,C',I',M',⟨mr,fH⟩,ae⟩;have YY:∀ i,¬ je (λi=>listed.getD i false=true\/i=q) (p ||| 2^q) i:=λi hi=>by
        rcases kT.1 hi.1 with U | U;·exact hi.2 (.inl (eP i U))
        ·exact hi.2 (.inr U)
       refine next bF w' ⟨mr,dI,C',I',M',p ||| 2^q,bX,gr,fI,n,⟨fH.refine λ_=>trivial,?_,?_,?_,λt _=>fH.aj t,λi hi=>(YY i hi).elim⟩,ae⟩
       ·rintro i (hi | rfl)
        ·exact kT.2 (.inl (a9.sub i hi))
        ·exact kT.2 (.inr rfl)
       ·rintro j e (al | rfl) he
        ·exact .inl (a9.s9 j e al he)
        ·exact .inl (ai e he)
       ·intro j e al he;rcases kT.1 al with al | rfl
        ·exact kT.2 (.inl (a9.pe j e al he))
        ·exact kT.2 (.inl (JZ e he))
      |false=>
       rw[J0]at af;let G:Fr:=λt=>if t∈looks ops o then jH t else .lj
       have jG:∀ t,dV β (G t) (a.tmps.getD t undef):=λt=>by
        by_cases au:t∈looks ops o;·simp only[G,dv au];exact rT t au
        ·simp only[G,dc au];trivial
       have JY:∀ y∈o.op.operands,cR G y=cR jH y:=λy aG=>by
        cases y with
        |tmp t=>simp only[cR,G,dv (JV aG)]| const v=>cases v<;>rfl
        |global g=>rfl| func f=>rfl
       refine qQ (λbF w'=>?_) (YF aH (cn.rel.refine jG) JY af);rintro⟨v,x,C',I',M',rfl,ab,fH,ae,hm⟩;refine next _ _ ⟨β,_,C',I',M',p ||| 2^q,bX,gr,fI,n,cn.step cH ph ap jI ai ab (fH.refine λ_=>trivial) ?_,ae⟩
       rcases hm with⟨F5,uP⟩ | ⟨rfl,hle,dP⟩
       rotate_left
       ·exact λ_ _ _ _ _ _ _=>⟨λ_ _=>rfl,λ_=>PM dP hle⟩
       have Ao:∀ {i},je (λi=>listed.getD i false=true) p i->((jF ops).getD q 0).testBit i=true->False:=λhi af=>hi.2 ((wb af).mem a9.s9 ai);intro i fy dO hi g5 dX gU;have eO:∀ {s:Nat},An ((jF ops).getD q 0) s bX=true->dO≠s:=fun {s} h e=>by
        rcases PJ h gU with U | U;·exact Ao hi U
        ·exact U e
       rcases(jY _ _).mp F5 with YZ | Y0
       ·have U:=gq.1 YZ i (kk.2 (ij.1 g5).1);rw[hi.1,g5]at U;simp only[lR,qS,jY,n4]at U;rcases U with U | U
        ·exact(Ao hi U).elim
        ·rw[U]at dX;cases dX
       rcases(jY _ _).mp Y0 with Ap | wg
       ·unfold PL at Ap;split at Ap
        ·rename_i t0 ta P2 b7;split at Ap
         ·rename_i eh akZ ax;obtain⟨⟨cM,eD⟩,cp⟩:=uP.1 _ _ _ _ _ b7 ax;exact⟨λb0 e=>cM b0 (λaz=>eO Ap (by rw[e,az])),λ_=>PM cp eD⟩
         ·cases Ap
        ·cases Ap
       rcases(jY _ _).mp wg with wg | uQ
       ·unfold PK at wg;split at wg
        ·rename_i t0 ta P2 b7;split at wg
         ·rename_i Y1 ax;exact⟨λ_ _=>by rw[(uP.2.1 _ _ _ _ b7 ax).1],λe=>(eO wg e).elim⟩
         ·cases wg
        ·cases wg
       unfold PP at uQ;rw[bL]at uQ;obtain⟨Y2,uQ⟩:=uQ;have Y3:ho i=true:=by
        have U:=gq.1 Y2 i (kk.2 (ij.1 g5).1);rw[hi.1,g5]at U;simp only[lR,qS,jY,n4]at U;rcases U with U | U | U;·exact(Ao hi U).elim
        ·exact U
        ·rw[U]at dX;cases dX
       have hle:C'=C/\∀ b o,I b=some o->I' b=some o:=by
        unfold PO at uQ;split at uQ
        ·rename_i t0 ta P2 b7;split at uQ
         ·rename_i Y1 ax;exact uP.2.1 _ _ _ _ b7 ax
         ·cases uQ
        ·rename_i b7;exact uP.2.2 (λt x y e=>by rw[b7]at e;cases e)
        ·rename_i b7;exact uP.2.2 (λt x y e=>by rw[b7]at e;cases e)
        ·cases uQ
       exact⟨λ_ _=>by rw[hle.1],λ_=>by rw[Y3];exact Yx hle.2⟩
     ·rw[PX CI rT];simp only[iP,jC];refine⟨λ_ _=>trivial,next _ _ ⟨β,_,C,I,M,p ||| 2^q,bX,gr,fI,n,cn.step cH ph ap jI ai (x:=.val undef) rfl cn.rel (λ_ _ _ _ _ _ _=>⟨λ_ _=>rfl,λ_ _ _ h=>h⟩),af⟩⟩
end
def cL.Y4{X:cx}{id:Nat}{F:Fr}{C:c7}{I:aN}{M:List aC}{K:ko}(aH:cB X.P X.E)(hm:X.P.follows .mixedOrders=true)(aA:F8 A.toList=true)(av:Aj X.n A=true)
  {ho:Nat->Bool} (h:p3 X A.toList ho (A.size+1) 0 [] F C I M (K .normal)):cL X (.region id A true) F C I M K:=by
 refine⟨λa w ⟨β,aZ⟩=>wpIn_region_any hm ?_⟩;have tb:cc X β a { w with drawn:=w.drawn+1 } F C I M:=aZ.world rfl;have b1:∀ i,(Array.replicate A.size false).getD i false=false:=λi=>by
  by_cases hi:i<A.size<;>simp[m6,hi]
 have p6:∀ {i},¬ (Array.replicate A.size false).getD i false=true:=fun {i}=>by rw[b1];simp
 have key:=YV (K:=K .normal) (Q:=kP X K) aH (PV aA) (FW av) (λ_ _ h=>h) A.size (Array.replicate A.size false) a { w with drawn:=w.drawn+1 } (by simp) ?_ ⟨β,F,C,I,M,0,[],λ_=>.lj,λ_ _=>.lj,A.size+1,⟨tb.refine λ_=>trivial,λi hi=>(p6 hi).elim,λj e al=>(p6 al).elim,λj e al=>by simp at al,λt _=>tb.aj t,λi hi=>by simp[je]at hi⟩,h⟩
 ·simpa using key
 ·unfold todo;refine jB (xL _ _) (by simp)
def cL.draw{X:cx}{id:Nat}{F:Fr}{C:c7}{I:aN}{M:List aC}{K:ko}(aH:cB X.P X.E)(hm:X.P.follows .mixedOrders=true)(aA:F8 A.toList=true)(av:Aj X.n A=true)(h:p3 X A.toList (λ_=>false) (A.size+1) 0 [] F C I M (K .normal)):cL X (.region id A true) F C I M K:=.Y4 aH hm aA av h
end Go.V
