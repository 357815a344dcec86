/- Part 1 of what the proofs of this seat share: the executor, data in memory, walks.
-/
import Derived.WalkKit
import Derived.RangeFuncRecord
import Derived.OrdersIn
import Derived.Lib.UnsafeStr
set_option linter.all false
namespace Go.V
open Go
def bS:=@Nat.le_of_ble_eq_true
def cC:=@List.getD_eq_getElem?_getD
def b3:=@Result.andThen_ok
def c6:=@Nat.eq_of_beq_eq_true
def b':=@Bool.and_eq_true
def bh:=@cond_false
def c1:=@of_decide_eq_true
def eE:=@List.drop_eq_getElem_cons
def gf:=@List.take_succ_eq_append_getElem
def bl:=@cond_true
def cm:=@Sem.run_bind
def cY:=@List.map_cons
def cj:=@Nat.le_refl
def ea:=@List.length_cons
def dQ:=@List.mem_append
def c9:=@Sem.run_pure
def eU:=@decide_eq_true_eq
def dA:=@List.mem_map
def eP:=@List.all_eq_true
def hT:=@List.getElem?_eq_some_iff
def ef:=@List.mem_cons
def fW:=@List.mem_singleton
def e7:=@List.map_append
def lD:=@Array.getElem?_eq_some_iff
def kF:=@List.mem_append_left
def oV:=@Array.getD_eq_getD_getElem?
def mD:=@World.putObj_heap_other
def cb:=@if_neg
def j9:=@List.getElem?_take
def cn:=@if_pos
def kG:=@Bool.false_eq_true
def j':=@Option.some.injEq
def jS:=@Option.getD_some
def lE:=@List.getElem?_map
def ka:=@Option.map_some
def oW:=@List.getElem?_eq_none
def kH:=@Bool.or_eq_true
def pS:=@List.mem_append_right
def gO:=@Array.ext'
def mE:=@List.size_toArray
def nZ:=@List.getElem?_drop
def tK:=@List.getElem?_append_left
def lF:=@List.mem_range
def oX:=@Bool.not_eq_true'
def rH:=@Nat.mul_le_mul_right
def nh:=@List.nodup_cons
def lg:=@Nat.le_trans
def qK:=@Int.toNat_natCast
def oY:=@Bool.eq_iff_iff
def u6:=@Option.map_eq_some_iff
def nj:=@Nat.add_zero
def rI:=@Nat.min_eq_left
def wV:=@List.mem_of_getElem?
def Cc:=@Array.getElem?_setIfInBounds
def pT:=@Bool.not_true
def sC:=@List.foldl_cons
def sD:=@List.mem_filter
def tL:=@Option.getD_none
def qL:=@Nat.add_assoc
def sE:=@Oper.wpIn_mono
def Cd:=@Classical.byContradiction
def wW:=@List.nodup_append
def Ab:=@List.getElem?_toArray
def Ac:=@List.range_eq_range'
def tM:=@ByteArray.ext
def lG:=@if_false
def EP:=@List.getElem?_cons_succ
def u7:=@Bool.false_or
def yx:=@Option.map_none
def Ii:=@Option.ne_none_iff_exists'
def EQ:=@List.length_filter_le
def Ij:=@Array.getElem?_eq_getElem
def ER:=@List.toList_toArray
def Ce:=@beq_self_eq_true
def Cf:=@List.filter_cons
def Ad:=@World.alloc_eq
def Ae:=@List.nodup_nil
def Ik:=@ByteArray.data_extract
def ES:=@List.filter_congr
def Il:=@Nat.testBit_two_pow
def pU:=@if_true
def Im:=@Nat.lt_of_lt_of_le
def Ml:=@Option.bind_eq_some_iff
def ET:=@List.mapM_cons
def Cg:=@Nat.add_comm
def rJ:=@Ne.symm
def Io:=@List.range'_succ
def Ip:=@Nat.lt_succ_self
def Mm:=@Array.foldl_toList
def Mn:=@ByteArray.mk.injEq
def Mo:=@Option.isSome_none
def SV:=@Array.mapM_eq_mapM_toList
def Iq:=@Nat.testBit_or
def Ir:=@Bool.not_false
def Is:=@Oper.semAt_eq
def Mp:=@List.nodup_range
variable{a:Act}{c:Code}{cq:List Nat}{P:Program}{f off T sz hU e n m fy cu dG dY fN iN kI lh mF oZ qM sF u9 Af EU:Nat}{args vs z:List Value}{v:Value}{w' w:World}{dst:Option Nat}{cs:Array Value}{al:Nat×Nat}{R:Ending->World->Prop}{next:Act->World->Prop}{ad:Addr}{fG:IntKind}{other:Prop}{ops:List Oper}{Q:Exit->Act->World->Prop}{fn:Func}{soft hp:Bool}{op:Op}{dt:Array Bool}{A:Array Oper}{ι:Type}
inductive EV where
 |other | int (k:IntKind) | bool | string | slice (e:Nat) | array (n e:Nat) | struct (cE:List (Nat×Nat)) | map (k e:Nat) | pointer (e:Nat)
 deriving DecidableEq
def e8:TypeDesc->EV
 | .int k=>.int k| .bool=>.bool| .string=>.string| .slice e=>.slice e| .array n e=>.array n e| .struct cE=>.struct (cE.toList.map λf=>(f.type,f.offset))| .map k e=>.map k e| .pointer e=>.pointer e| _=>.other
def EV.agg:EV->Bool
 | .struct _ | .array ..=>true| _=>false
structure dU where
 size:Nat
 bytes:Nat
 zero:List Value
 bE:EV
structure jT(P:Program)(t:Nat)(i:dU):Prop where
 inf:∃ inf z,P.info? t=some inf/\inf.size=i.size/\inf.bytes=i.bytes/\inf.zero=some z/\z.cells.toList=i.zero
 fi:∃ d,P.underlying t=some d/\e8 d=i.bE
 one:∀ v∈i.zero,v.oneCell'=true
 len:i.zero.length=i.size
 It:i.bE.agg=false->i.size=1
abbrev Env:=Nat->Option dU
def c2(P:Program)(E:Env):Prop:=∀ t i,E t=some i->jT P t i
inductive dn where
 |val(v:Value)| lit (b:Bool)| ref (s off:Nat)| mG
abbrev Fr:=Nat->dn
abbrev dp:=Nat->Option (List Value)
abbrev aZ:=Nat->Option Obj
structure aB where
 num:Nat
 obj:Obj
abbrev fX:=Fr->dp->aZ->List aB->Prop
def fz(F:Fr)(d:Nat)(x:dn):Fr:=λt=>bif Nat.beq t d then x else F t
def iO(C:dp)(d:Nat)(x:Option (List Value)):dp:=λt=>bif Nat.beq t d then x else C t
def pV(F:Fr)(d:Nat):Fr:=λt=>match F t with
 | .ref s o=>bif Nat.beq s d then .mG else .ref s o| x=>x
def put(o:Option Nat)(x:dn)(F:Fr):Fr:=match o with
 |some d=>fz F d x| none=>F
def dq(F:Fr):Operand->dn
 | .tmp t=>F t| .const (.bool b)=>.lit b| .const v=>.val v| .global g=>.val (.pointer (some ⟨g,0,none⟩))| .func f=>.val (.func (.func f) #[] #[])
def dR(ρ:Operand->dn)(x:Operand):dn:=match ρ x with
 | .lit b=>.val (.bool b)| y=>y
abbrev bB(F:Fr):Operand->dn:=dR (dq F)
def pack(agg:Bool)(vs:List Value):Value:=bif agg then .agg vs.toArray else vs.headD undef
def bo(cs:List Value)(off:Nat)(vs:List Value):List Value:=cs.take off++vs++cs.drop (off+vs.length)
def fO(vs:List Value):Bool:=vs.all (·.oneCell')
def Iu(c:Bool):dn->dn->dn
 | .val (.bool x),.val (.bool y)=>.val (.bool (bif c then x else y))| .val x,.val y=>.val (bif c then x else y)| _,_=>.mG
def wX(op:BinOp)(x y:Int):Option Bool:=match op with
 | .eql=>some (decide (x=y))| .neq=>some (!decide (x=y))| .lss=>some (decide (x<y))| .leq=>some (decide (x<=y))| .gtr=>some (decide (y<x))| .geq=>some (decide (y<=x))| _=>none
def tN(op:BinOp)(k:IntKind)(x y:Int):Option Int:=
 let a:=BitVec.ofInt k.bits x
 let b:=BitVec.ofInt k.bits y
 match op with
 | .and=>some (k.wrap (a &&& b).toNat)| .or=>some (k.wrap (a ||| b).toNat)| .xor=>some (k.wrap (a ^^^ b).toNat)| .andNot=>some (k.wrap (a &&& ~~~b).toNat)| _=>none
def hH(I:aZ)(M:List aB)(b:Nat)(o:Obj):Prop:=I b=some o\/∃ x∈M,x.num=b/\x.obj=o
def cr(I:aZ)(M:List aB)(a:Addr)(n:Nat)(vs:List Value):Prop:=
 a.spot=none/\∃ cs T al,hH I M a.block (.cells cs T al)/\(cs.toList.drop a.off).take n=vs/\vs.length=n
inductive aI(I:aZ)(M:List aB)(a:Addr)(n:Nat)(K:List Value->Prop):Prop
 |mk(vs:List Value)(h:cr I M a n vs)(k:K vs)
inductive cp(M:List aB)(a:Addr)(vs:List Value)(K:List aB->Prop):Prop
 |mk(bc post:List aB)(cs:Array Value)(T:Nat)(a1:M=bc++⟨a.block,.cells cs T (0,0)⟩::post)(ap:a.spot=none)(ai:a.off+vs.length<=cs.size)(aa:fO vs=true)(k:K (bc++⟨a.block,.cells (bo cs.toList a.off vs).toArray T (0,0)⟩::post))
inductive b8(I:aZ)(M:List aB)(K:Nat->Prop):Prop
 |mk(k:∀ b,I b=none->(∀ x∈M,x.num≠b)->K b)
inductive bi(a:Option Addr)(n sz:Nat)(k:Int)(K:Addr->Prop):Prop
 |mk(ad:Addr)(j:Nat)(aC:a=some ad)(af:k=(j:Int))(an:j<n)(h:K (ad.add (j*sz)))
inductive dV(n:Nat)(k:Int)(K:Nat->Prop):Prop
 |mk(j:Nat)(af:k=(j:Int))(an:j<n)(h:K j)
inductive yy(s:ByteArray)(k:Int)(K:UInt8->Prop):Prop
 |mk(j:Nat)(af:k=(j:Int))(an:j<s.size)(h:K s[j])
inductive bd(k:IntKind)(n:Int)(K:Int->Prop):Prop
 |mk(r:Int)(h:k.wrap n=r)(aX:K r)
inductive tO(y:Int)(K:Prop):Prop
 |mk(h:y≠0)(aX:K)
inductive rK(y:Int)(K:Nat->Prop):Prop
 |mk(j:Nat)(h:y=(j:Int))(aX:K j)
inductive aU(c:Bool)(X Y:Prop):Prop
 |mk(h:c=true->X)(aX:c=false->Y)
inductive n1(l c:Int)(bytes:Nat)(K:Nat->Nat->Prop):Prop
 |mk(n m:Nat)(av:l=(n:Int))(aA:c=(m:Int))(h:n<=m)(ai:bytes*m<=140737488355328)(hm:m<=9223372036854775807)(k:K n m)
inductive ik(n c:Nat)(lo hi:Option Int)(K:Nat->Nat->Prop):Prop
 |mk(l h:Nat)(e9:lo.getD 0=(l:Int))(fY:hi.getD n=(h:Int))(aa:l<=h)(ab:h<=c)(k:K l h)
structure ew(I:aZ)(M:List aB)(w:World):Prop where
 i:∀ b o,I b=some o->w.heap[b]?=some o
 m:∀ x∈M,w.heap[x.num]?=some x.obj
 d:∀ x∈M,I x.num=none
 bT:(M.map (·.num)).Nodup
def n2(w w':World):Prop:=w'.os=w.os/\w'.output=w.output
def n2.refl(w:World):n2 w w:=⟨rfl,rfl⟩
def n2.trans{a b c:World}(h:n2 a b)(aX:n2 b c):n2 a c:=⟨aX.1.trans h.1,aX.2.trans h.2⟩
structure Kept(I:aZ)(M:List aB)(w:World)(I':aZ)(M':List aB)(w':World):Prop where
 le:∀ b o,I b=some o->I' b=some o
 tP:∀ b o,I' b=some o->I b=some o\/w.heap.size<=b
 u':∀ x∈M',(∃ y∈M,y.num=x.num)\/w.heap.size<=x.num
 du:∀ b,b<w.heap.size->(∀ y∈M,y.num≠b)->w'.heap[b]?=w.heap[b]?
 out:n2 w w'
 sz:w.heap.size<=w'.heap.size
def Mq(P:Program)(f:Nat):Prop:=∀ (args:Array Value) (w:World),(callFunc f args).run P w=.ok (.enter f args) w
def wY(P:Program)(f:Nat)(args:List Value)(I:aZ)(M:List aB)(post:Value->aZ->List aB->Prop):Prop:=
 Mq P f/\∀ w,ew I M w->Calls P f args.toArray w λe w'=>∃ v I' M',e=.returned v/\post v I' M'/\ew I' M' w'/\Kept I M w I' M' w'
def adp(P:Program)(f:Nat)(args:List Value)(I:aZ)(M:List aB)(post:Value->aZ->List aB->Prop):Prop:=
 ∀ w,ew I M w->∃ v w' I' M',(callFunc f args.toArray).run P w=.ok (.value v) w'/\post v I' M'/\ew I' M' w'/\Kept I M w I' M' w'
def Spec(P:Program)(f:Nat)(args:List Value)(I:aZ)(M:List aB)(post:Value->aZ->List aB->Prop):Prop:=wY P f args I M post\/adp P f args I M post
def ins(I:aZ)(b:Nat)(o:Obj):aZ:=λx=>bif Nat.beq x b then some o else I x
inductive jd(cq:List Nat):aZ->List aB->aZ->List aB->Prop
 |refl{I M}:jd cq I M I M| sub {I M M1 I' M'} (h:List.Sublist M1 M) (k:jd cq I M1 I' M'):jd cq I M I' M'| perm {I M M1 I' M'} (h:M.Perm M1) (k:jd cq I M1 I' M'):jd cq I M I' M'| nk {I M I' M' b o post} (h:M=⟨b,o⟩::post) (aJ:b ∉ cq) (k:jd cq (ins I b o) post I' M'):jd cq I M I' M'
structure sG(I:aZ)(M:List aB):Prop where
 d:∀ x∈M,I x.num=none
 bT:(M.map (·.num)).Nodup
inductive a9(cq:List Nat)(P:Program)(f:Nat)(args:List Value)(I:aZ)(M:List aB)(K:Value->aZ->List aB->Prop):Prop
 |mk(dI Mr:List aB)(post:Value->aZ->List aB->Prop)(a1:M.Perm (dI++Mr))(ap:Spec P f args I dI post)(k:∀ v I' M',(∀ b o,I b=some o->I' b=some o)->post v I' M'->K v I' (M'++Mr))| Iv (dI Mr:List aB) (post:Value->aZ->List aB->Prop) (a1:M.Perm (dI++Mr)) (ap:Spec P f args I dI post) (k:∀ v I' M',(∀ b o,I b=some o->I' b=some o)->(∀ x∈M'++Mr,I' x.num=none)->post v I' M'->K v I' (M'++Mr))| Ch (cU:aZ) (dI Mr:List aB) (post:Value->aZ->List aB->Prop) (hw:jd cq I M cU (dI++Mr)) (ap:Spec P f args cU dI post) (k:∀ v I' M',(∀ b o,cU b=some o->I' b=some o)->(∀ x∈M'++Mr,I' x.num=none)->post v I' M'->K v I' (M'++Mr))| Iw (h:sG I M->a9 cq P f args I M K)
def a9.elim{I:aZ}{M:List aB}{K:Value->aZ->List aB->Prop}(iP:sG I M)(h:a9 cq P f args I M K) :
  ∃ (cU:aZ) (dI Mr:List aB) (post:Value->aZ->List aB->Prop),jd cq I M cU (dI++Mr)/\Spec P f args cU dI post/\∀ v I' M',(∀ b o,cU b=some o->I' b=some o)->(∀ x∈M'++Mr,I' x.num=none)->post v I' M'->K v I' (M'++Mr):=by
 induction h with
 |mk dI Mr post a1 ap k=>exact⟨I,dI,Mr,post,.perm a1 .refl,ap,λv I' M' aa _ ab=>k v I' M' aa ab⟩| Iv dI Mr post a1 ap k=>exact⟨I,dI,Mr,post,.perm a1 .refl,ap,k⟩| Ch cU dI Mr post hw ap k=>exact⟨cU,dI,Mr,post,hw,ap,k⟩| Iw h a7=>exact a7 iP
structure c3 where
 P:Program
 E:Env
 gC:List Nat
 n:Nat
 B:Nat
 ar:World
 dM:aZ
 cq:List Nat
 ro:Option Nat
def gP(X:c3):Fence:={ Fence.wide with round:=X.ro }
def eF(β:Nat->Nat):dn->Value->Prop
 | .val v,u=>u=v| .lit b,u=>u=.bool b| .ref s off,u=>u=.pointer (some ⟨β s,off,none⟩)| .mG,_=>True
structure wZ(X:c3)(w:World)(I:aZ)(M:List aB)(b:Nat)(cs:List Value):Prop where
 aO:∃ T,w.heap[b]?=some (.cells cs.toArray T (0,0))
 be:X.B<=b
 jz:I b=none
 eK:∀ x∈M,x.num≠b
structure va(X:c3)(w:World)(I:aZ)(M:List aB)(r:Nat):Prop where
 aO:w.heap[r]?=some (.deferred (some []))
 be:X.B<=r
 jz:I r=none
 eK:∀ x∈M,x.num≠r
def w0(r:Nat):Deferred:={ target:=.collected r,args:=#[] }
def Marks(X:c3)(a:Act)(w:World)(I:aZ)(M:List aB):Prop:=∃ a8:List Nat,a.defers=a8.map w0/\a8.Nodup/\∀ r∈a8,va X w I M r
structure cV(X:c3)(β:Nat->Nat)(a:Act)(w:World)(F:Fr)(C:dp)(I:aZ)(M:List aB):Prop where
 size:a.tmps.size=X.n
 defers:Marks X a w I M
 holds:ew I M w
 al:∀ t,eF β (F t) (a.tmps.getD t undef)
 ck:∀ s cs,C s=some cs->wZ X w I M (β s) cs
 inj:∀ s cc,C s≠none->C cc≠none->β s=β cc->s=cc
 hI:∀ b o,X.dM b=some o->I b=some o
 hq:∀ b o,I b=some o->X.dM b=some o\/X.B<=b
 own:∀ x∈M,x.num∈X.cq\/X.B<=x.num
 du:∀ b,b<X.B->b ∉ X.cq->w.heap[b]?=X.ar.heap[b]?
 out:n2 X.ar w
 sz:X.B<=w.heap.size
def Rel(X:c3)(a:Act)(w:World)(F:Fr)(C:dp)(I:aZ)(M:List aB):Prop:=∃ β,cV X β a w F C I M
def Sat(X:c3)(K:fX)(a:Act)(w:World):Prop:=∃ F C I M,Rel X a w F C I M/\K F C I M
inductive bn(X:c3)(o:Oper)(F:Fr)(C:dp)(I:aZ)(M:List aB)(K:fX):Prop
 |mk(h:∀ a w Q,Rel X a w F C I M->o.wpIn (gP X) 0 X.P a w (Sat X K) Q)
def jA(ρ:Operand->dn):List Operand->Option (List Value)
 |[]=>some []
 |x::xs=>match dR ρ x,jA ρ xs with
  | .val v,some vs=>some (v::vs)| _,_=>none
abbrev l8(F:Fr):List Operand->Option (List Value):=jA (dq F)
def sH(place:Nat->Option (Nat×Nat))(cells:List Value):List (Nat×Value)->Option (List Value)
 |[]=>some cells
 |(i,v)::bb=>match place i with
  |none=>none| some (off,size)=>bif Nat.beq v.cells.size size&&Nat.ble (off+size) cells.length then sH place (bo cells off v.cells.toList) bb else none
def sI(ρ:Operand->dn):List (Nat×Operand)->Option (List (Nat×Value))
 |[]=>some []
 |(i,x)::xs=>match dR ρ x,sI ρ xs with
  | .val v,some vs=>some ((i,v)::vs)| _,_=>none
abbrev Ag(F:Fr):List (Nat×Operand)->Option (List (Nat×Value)):=sI (dq F)
def places(E:Env)(cE:List (Nat×Nat))(i:Nat):Option (Nat×Nat):=match cE[i]? with
 |some (l9,off)=>match E l9 with
  |some g2=>some (off,g2.size)| none=>none
 |none=>none
def Ci(E:Env)(cE:List (Nat×Nat)):Bool:=cE.all λf=>(E f.1).isSome
def rowOf(zero:List Value)(n:Nat):List Value:=(List.range n).map λi=>zero[i%zero.length]!
def w1(zero:List Value)(n:Nat):rowOf zero n=(madeCells zero.toArray n).toList:=by simp[rowOf,madeCells]
def IntKind.l':IntKind->IntKind->Bool
 | .i8,.i8 | .i16,.i16 | .i32,.i32 | .i64,.i64 | .u8,.u8 | .u16,.u16 | .u32,.u32 | .u64,.u64=>true| _,_=>false
def lj(op:BinOp)(dk:Option dU)(x y:dn)(K:Value->Prop)(other:Prop):Prop:=
 match x,y with
 | .val (.int k a),.val (.int dJ b)=>
  match op with
  | .shl=>rK b λj=>bd k (a*2^(min j k.bits)) λr=>K (.int k r)
  | .shr=>rK b λj=>K (.int k (a.fdiv (2^(min j k.bits))))
  |op=>bif IntKind.l' k dJ then
    (match op with
    | .add=>bd k (a+b) λr=>K (.int k r)
    | .sub=>bd k (a-b) λr=>K (.int k r)
    | .mul=>bd k (a*b) λr=>K (.int k r)
    | .quo=>tO b (bd k (a.tdiv b) λr=>K (.int k r))| .rem=>tO b (K (.int k (a.tmod b)))
    | .and | .or | .xor | .andNot=>(match tN op k a b with
     |some r=>K (.int k r)| none=>False)
    |op=>(match wX op a b with
     |some r=>K (.bool r)| none=>False))
   else False
 | .val (.string a),.val (.string b)=>
  match op with
  | .eql=>K (.bool (decide (a=b)))| .neq=>K (.bool (!decide (a=b)))| _=>other
 | .val (.bool a),.val (.bool b)=>
  match dk with
  |some { bE:=.bool,.. }=>
   (match op with
   | .eql=>K (.bool (a == b))| .neq=>K (.bool (!(a == b)))| _=>other)
  |_=>other
 |_,_=>other
inductive e'(P:Program)(op:BinOp)(t:Nat)(x y:Operand)(p q:dn)(K:Value->Prop)(other:Prop):Prop
 |mk(pW fa v:Value)(aD:p=.val pW)(aM:q=.val fa)(h:∀ w,(do eqGuard op t x y pW fa;binOp op t pW fa:Sem Value).run P w=.ok v w)(k:K v)| other (h:other)
def cF(X:c3)(op:Op)(ρ:Operand->dn)(C:dp)(I:aZ)(M:List aB)(V:dn->Prop)(other:Prop):Prop:=
 match op with
 | .move x | .assign x=>V (ρ x)
 | .pick c a b=>
  match ρ c with
  | .lit c=>V (bif c then ρ a else ρ b)| .val (.bool c)=>V (Iu c (dR ρ a) (dR ρ b))| _=>False
 | .unOp op _ x=>
  match op,ρ x with
  | .not,.lit b=>V (.lit (!b))| .not,.val (.bool b)=>V (.val (.bool (!b)))| .neg,.val (.int k n)=>bd k (0-n) λr=>V (.val (.int k r))
  |_,_=>other
 | .binOp op t x y _=>lj op (X.E t) (dR ρ x) (dR ρ y) (λv=>V (.val v)) (e' X.P op t x y (dR ρ x) (dR ρ y) (λv=>V (.val v)) other)
 | .load t x=>
  match X.E t with
  |some i=>
   (match ρ x with
   | .ref s off=>
    (match C s with
    |some cs=>bif Nat.ble (off+i.size) cs.length then V (.val (pack i.bE.agg ((cs.drop off).take i.size)))else False| none=>False)
   | .val (.pointer (some a))=>aI I M a i.size λvs=>V (.val (pack i.bE.agg vs))
   |_=>False)
  |none=>False
 | .nilCheck x=>
  match ρ x with
  | .ref s off=>V (.ref s off)| .val (.pointer (some a))=>V (.val (.pointer (some a)))| _=>other
 | .fieldAddr t x i=>
  match X.E t with
  |some { bE:=.struct cE,.. }=>
   (match cE[i]? with
   |some (l9,off)=>
    (match X.E l9,ρ x with
    |some g2,.ref s o'=>bif Nat.beq g2.size 0 then False else V (.ref s (o'+off))| some g2,.val (.pointer (some a))=>bif Nat.beq g2.size 0 then False else V (.val (.pointer (some (a.add off))))| _,_=>False)
   |none=>False)
  |_=>False
 | .field t x i=>
  match X.E t,dR ρ x with
  |some { bE:=.struct cE,.. },.val (.agg cs)=>
   (match cE[i]? with
   |some (l9,off)=>
    (match X.E l9 with
    |some g2=>bif Nat.ble (off+g2.size) cs.size then V (.val (pack g2.bE.agg ((cs.toList.drop off).take g2.size)))else False| none=>False)
   |none=>False)
  |_,_=>False
 | .indexAddr t x i=>
  match X.E t,dR ρ i with
  |some { bE:=.slice e,.. },.val (.int _ k)=>
   (match X.E e,dR ρ x with
   |some aH,.val (.slice a n _)=>bi a n aH.size k λad=>V (.val (.pointer (some ad)))
   |_,_=>False)
  |some { bE:=.array n e,.. },.val (.int _ k)=>
   (match X.E e,ρ x with
   |some aH,.ref s o'=>dV n k λj=>V (.ref s (o'+j*aH.size))
   |some aH,.val (.pointer (some a))=>dV n k λj=>V (.val (.pointer (some (a.add (j*aH.size)))))
   |_,_=>False)
  |_,_=>False
 | .index t x i=>
  match X.E t,dR ρ x,dR ρ i with
  |some { bE:=.string,.. },.val (.string s),.val (.int _ k)=>yy s k λb=>V (.val (.int .u8 b.toNat))
  |some { bE:=.array n e,.. },.val (.agg cs),.val (.int _ k)=>
   (match X.E e with
   |some aH=>bif Nat.beq (n*aH.size) cs.size then dV n k λj=>V (.val (pack aH.bE.agg ((cs.toList.drop (j*aH.size)).take aH.size)))else False
   |none=>False)
  |_,_,_=>False
 | .build t parts=>
  match X.E t,sI ρ parts.toList with
  |some i,some vs=>
   (match i.bE with
   | .struct cE=>bif Ci X.E cE then(match sH (places X.E cE) i.zero vs with
    |some cells=>V (.val (.agg cells.toArray))| none=>False)else False
   | .array _ e=>(match X.E e with
    |some aH=>(match sH (λj=>some (j*aH.size,aH.size)) i.zero vs with
     |some cells=>V (.val (.agg cells.toArray))| none=>False)
    |none=>False)
   |_=>False)
  |_,_=>False
 | .makeFunc fn first captured=>
  match jA ρ first.toList,jA ρ captured.toList with
  |some cE,some cs=>V (.val (.func fn cE.toArray cs.toArray))| _,_=>False
 | .slice t x lo hi mx=>
  match X.E t,dR ρ x,mx with
  |some { bE:=.slice e,.. },.val (.slice a n c),none=>
   (match X.E e,lo.map (dR ρ),hi.map (dR ρ)with
   |some aH,none,none=>V (.val (.slice a n c))| some aH,none,some (.val (.int _ h))=>ik n c none (some h) λ_ h=>V (.val (.slice a h c))
   |some aH,some (.val (.int _ l)),none=>ik n n (some l) none λl _=>V (.val (.slice (if c=l then a else a.map (·.add (l*aH.size))) (n-l) (c-l)))
   |some aH,some (.val (.int _ l)),some (.val (.int _ h))=>ik n c (some l) (some h) λl h=>V (.val (.slice (if c=l then a else a.map (·.add (l*aH.size))) (h-l) (c-l)))
   |_,_,_=>False)
  |some { bE:=.string,.. },.val (.string s),none=>
   (match lo.map (dR ρ),hi.map (dR ρ)with
   |none,none=>V (.val (.string s))| none,some (.val (.int _ h))=>ik s.size s.size none (some h) λ_ h=>V (.val (.string (s.extract 0 h)))
   |some (.val (.int _ l)),none=>ik s.size s.size (some l) none λl _=>V (.val (.string (s.extract l s.size)))
   |some (.val (.int _ l)),some (.val (.int _ h))=>ik s.size s.size (some l) (some h) λl h=>V (.val (.string (s.extract l h)))
   |_,_=>False)
  |_,_,_=>other
 | .extract x i=>
  match dR ρ x with
  | .val (.tuple vs)=>(match vs.toList[i]? with
   |some v=>V (.val v)| none=>False)
  |_=>False
 | .convert s d x=>
  match X.E s,X.E d,dR ρ x with
  |some _,some { bE:=.int k,.. },.val (.int _ n)=>bd k n λr=>V (.val (.int k r))
  |_,_,_=>other
 | .call { callee:=.builtin .len,args,argTypes }=>
  match argTypes.toList,jA ρ args.toList with
  |[t],some [v]=>
   (match X.E t,v with
   |some { bE:=.slice _,.. },.slice _ n _=>V (.val (.int .i64 n))| some { bE:=.string,.. },.string s=>V (.val (.int .i64 s.size))| some { bE:=.array n _,.. },_=>V (.val (.int .i64 n))| _,_=>other)
  |_,_=>other
 | .call { callee:=.builtin .cap,args,argTypes }=>
  match argTypes.toList,jA ρ args.toList with
  |[t],some [v]=>
   (match X.E t,v with
   |some { bE:=.slice _,.. },.slice _ _ c=>V (.val (.int .i64 c))| _,_=>other)
  |_,_=>other
 | .call { callee:=.builtin .max,args,.. }=>
  match jA ρ args.toList with
  |some [.int k a,.int _ b]=>V (.val (.int k (max a b)))| _=>other
 | .call { callee:=.builtin .min,args,.. }=>
  match jA ρ args.toList with
  |some [.int k a,.int _ b]=>V (.val (.int k (min a b)))| _=>other
 | .call { callee:=.builtin .unsafeSliceData,args,.. }=>
  match jA ρ args.toList with
  |some [.slice none _ _]=>V (.val (.pointer none))| some [.slice (some a) _ c]=>tO c (V (.val (.pointer (some a))))| _=>other
 |_=>other
def gQ(X:c3)(o:Oper)(F:Fr)(C:dp)(I:aZ)(M:List aB)(K:fX):Prop:=
 match o.op with
 | .box t x=>
  match o.dst,bB F x with
  |some d,.val v=>
   bif X.gC.contains d then b8 I M λb=>K (fz (pV F d) d (.val (.pointer (some ⟨b,0,none⟩)))) (iO C d none) I (⟨b,.cells v.cells t (0,0)⟩::M)
   else K (fz (pV F d) d (.ref d 0)) (iO C d (some v.cells.toList)) I M
  |_,_=>False
 | .alloc t=>
  match o.dst,X.E t with
  |some d,some i=>
   bif X.gC.contains d then b8 I M λb=>K (fz (pV F d) d (.val (.pointer (some ⟨b,0,none⟩)))) (iO C d none) I (⟨b,.cells i.zero.toArray t (0,0)⟩::M)
   else K (fz (pV F d) d (.ref d 0)) (iO C d (some i.zero)) I M
  |_,_=>False
 | .store t x y=>
  match o.dst,X.E t,bB F y with
  |none,some i,.val v=>
   (match dq F x with
   | .ref s off=>
    (match C s with
    |some cs=>bif Nat.ble (off+i.size) cs.length&&(Nat.beq v.cells.size i.size&&fO v.cells.toList)then K F (iO C s (some (bo cs off v.cells.toList))) I M else False| none=>False)
   | .val (.pointer (some a))=>bif Nat.beq v.cells.size i.size then cp M a v.cells.toList λM'=>K F C I M' else False
   |_=>False)
  |_,_,_=>False
 | .buildSlice t len parts=>
  match X.E t,Ag F parts.toList with
  |some { bE:=.slice e,.. },some vs=>
   (match X.E e with
   |some aH=>
    bif Nat.ble (len*aH.size) 16777216&&Nat.blt 0 (len*aH.size)then
     (match sH (λj=>some (j*aH.size,aH.size)) (rowOf aH.zero (len*aH.size)) vs with
     |some cells=>b8 I M λb=>K (put o.dst (.val (.slice (some ⟨b,0,none⟩) len len)) F) C I (⟨b,.cells cells.toArray e (0,0)⟩::M)
     |none=>False)
    else(match len,vs with
     |0,[]=>b8 I M λb=>K (put o.dst (.val (.slice (some ⟨b,0,none⟩) 0 0)) F) C I (⟨b,.cells #[] e (0,0)⟩::M)
     |_,_=>False)
   |none=>False)
  |_,_=>False
 | .makeSlice t l c=>
  match X.E t,bB F l,bB F c with
  |some { bE:=.slice e,.. },.val (.int _ l),.val (.int _ c)=>
   (match X.E e with
   |some aH=>n1 l c aH.bytes λn m=>b8 I M λb=>K (put o.dst (.val (.slice (some ⟨b,0,none⟩) n m)) F) C I (⟨b,.cells (rowOf aH.zero (m*aH.size)).toArray e (0,0)⟩::M)
   |none=>False)
  |_,_,_=>False
 | .call { callee:=.value f,args,.. }=>
  match bB F f,l8 F args.toList with
  | .val (.func (.func g) first cap),some vs=>a9 X.cq X.P g (first.toList++vs++cap.toList) I M λv I' M'=>K (put o.dst (.val v) F) C I' M'
  |_,_=>bn X o F C I M K
 |op=>cF X op (dq F) C I M (λx=>K (put o.dst x F) C I M) (bn X o F C I M K)
inductive b4(c b:Bool)(Y N:Prop):Prop
 |mk(h:c=b->Y)(aX:c=!b->N)
def tQ(X:c3)(ops:List Oper):List Oper->Fr->dp->aZ->List aB->fX->Prop
 |[],F,C,I,M,K=>K F C I M
 |o::bb,F,C,I,M,K=>
  match o.guard with
  |none=>gQ X o F C I M λF C I M=>tQ X ops bb F C I M K
  |some (j,b)=>
   match(ops[j]?).bind (·.dst)with
   |none=>False
   |some d=>
    match F d with
    | .lit c=>bif c == b then gQ X o F C I M λF C I M=>tQ X ops bb F C I M K else tQ X ops bb (put o.dst (.val undef) F) C I M K
    | .val (.bool c)=>b4 c b (gQ X o (fz F d (.lit b)) C I M λF C I M=>tQ X ops bb F C I M K) (tQ X ops bb (put o.dst (.val undef) (fz F d (.lit !b))) C I M K)| .val (.tuple _)=>tQ X ops bb (put o.dst (.val undef) F) C I M K| _=>False
def g3{a b:Nat}(h:¬ a=b):Nat.beq a b=false:=by
 cases ai:Nat.beq a b with
 |false=>rfl| true=>exact absurd (c6 ai) h
def qN(a:Nat):Nat.beq a a=true:=Nat.beq_refl a
def EW(w:World)(o:Obj){i:Nat}(h:i<w.heap.size):(w.alloc o).heap[i]?=w.heap[i]?:=by show(w.heap.push o)[i]?=_;simp[Array.getElem?_push,Nat.ne_of_lt h]
def Ms(w:World)(o:Obj):(w.alloc o).heap[w.heap.size]?=some o:=by show(w.heap.push o)[w.heap.size]?=_;simp
section
variable{X:c3}{β:Nat->Nat}{a:Act}{w:World}{F:Fr}{C:dp}{I:aZ}{M:List aB}{o:Oper}{Q:Exit->Act->World->Prop}{next:Act->World->Prop}{K:fX}
def w2(h:∀ t,eF β (F t) (a.tmps.getD t undef))(x:Operand):eF β (dq F x) (a.eval x):=by
 cases x with
 |tmp t=>exact h t| const v=>cases v<;>exact rfl
 |global g=>exact rfl| func f=>exact rfl
def dh(h:∀ t,eF β (F t) (a.tmps.getD t undef)){x:Operand}(ae:bB F x=.val v):a.eval x=v:=by
 have aa:=w2 h x;unfold bB dR at ae;split at ae
 ·rename_i b ai;rw[ai]at aa;cases ae;exact aa
 ·rw[ae]at aa;exact aa
def tR(h:∀ t,eF β (F t) (a.tmps.getD t undef)){x:Operand}(ae:dq F x=.val v):a.eval x=v:=by have aa:=w2 h x;rw[ae]at aa;exact aa
def Mt(h:∀ t,eF β (F t) (a.tmps.getD t undef)){x:Operand}{b:Bool}(ae:dq F x=.lit b):a.eval x=.bool b:=by have aa:=w2 h x;rw[ae]at aa;exact aa
def Ah(h:∀ t,eF β (F t) (a.tmps.getD t undef)){x:Operand}{s:Nat}(ae:dq F x=.ref s off):a.eval x=.pointer (some ⟨β s,off,none⟩):=by have aa:=w2 h x;rw[ae]at aa;exact aa
def SW(h:∀ t,eF β (F t) (a.tmps.getD t undef))(x:Operand):eF β (bB F x) (a.eval x):=by
 have aa:=w2 h x;unfold bB dR;split
 ·rename_i b ai;rw[ai]at aa;exact aa
 ·exact aa
def sJ(h:∀ t,eF β (F t) (a.tmps.getD t undef)):∀ {xs:List Operand} {vs:List Value},l8 F xs=some vs->xs.map a.eval=vs
 |[],vs,ae=>by simp[l8,jA]at ae;simp[ae]
 |x::xs,vs,ae=>by
  unfold l8 jA at ae;split at ae;·rename_i v sK aa ab;cases ae;simp[dh h aa,sJ h ab]
  ·cases ae
def Ix(h:∀ t,eF β (F t) (a.tmps.getD t undef)):∀ {xs:List (Nat×Operand)} {vs:List (Nat×Value)},Ag F xs=some vs->(xs.map λ(i,x)=>(i,a.eval x))=vs
 |[],vs,ae=>by simp[Ag,sI]at ae;simp[ae]
 |(i,x)::xs,vs,ae=>by
  unfold Ag sI at ae;split at ae;·rename_i v sK aa ab;cases ae;simp[dh h aa,Ix h ab]
  ·cases ae
def il(cg:∀ c,o.op≠.defer c)(h:(execOp a.eval o).run X.P w=.ok (.value v) w')(af:next (a.put o.dst v) w'):o.wpIn (gP X) 0 X.P a w next Q:=
 ⟨λ_ _=>trivial,by rw[Is _ _ _ cg,h];exact af⟩
def Cj(cg:∀ c,o.op≠.defer c)(h:(execOp a.eval o).run X.P w=.ok .skip w')(af:next (a.put o.dst undef) w'):o.wpIn (gP X) 0 X.P a w next Q:=
 ⟨λ_ _=>trivial,by rw[Is _ _ _ cg,h];exact af⟩
def SX(a:Act)(d t:Nat)(v:Value)(ah:d<a.tmps.size):(a.put (some d) v).tmps.getD t undef=if t=d then v else a.tmps.getD t undef:=by
 simp only[Act.put,oV,Cc];by_cases h:t=d
 ·subst h;simp[ah]
 ·simp[h,rJ h]
def Mu(h:∀ t,eF β (F t) (a.tmps.getD t undef)){d:Nat}{x:dn}(ah:d<a.tmps.size)(ae:eF β x v)(t:Nat):eF β (fz F d x t) ((a.put (some d) v).tmps.getD t undef):=by
 rw[SX a d t v ah];unfold fz;by_cases aa:t=d
 ·subst aa;simp only[qN,bl,pU];exact ae
 ·have:Nat.beq t d=false:=g3 aa;simp only[this,bh,cb aa];exact h t
def SY(w:World)(g:Nat)(cs:Array Value):n2 w (w.setRow g cs):=by
 unfold World.setRow
 first | exact⟨rfl,rfl⟩ | (split<;>exact⟨rfl,rfl⟩)
def Iy(w:World)(g:Nat)(o:Obj):n2 w (w.putObj g o):=by unfold World.putObj;exact⟨rfl,rfl⟩
def Marks.mono(h:Marks X a w I M){I':aZ}{M':List aB}(hm:∀ r,va X w I M r->va X w' I' M' r):Marks X a w' I' M':=by obtain⟨a8,aa,ab,ag⟩:=h;exact⟨a8,aa,ab,λr ak=>hm r (ag r ak)⟩
def cV.put(h:cV X β a w F C I M)(ah:∀ d,dst=some d->d<X.n){x:dn}(ae:eF β x v):cV X β (a.put dst v) w (put dst x F) C I M:=by
 cases dst with
 |none=>exact h
 |some d=>
  refine { h with size:=?_,defers:=h.defers,al:=?_ };·simp[Act.put,h.size]
  ·exact Mu h.al (by rw[h.size];exact ah d rfl) ae
def ew.heap(h:ew I M w)(br:w'.heap=w.heap):ew I M w':=
 { i:=by rw[br];exact h.i,m:=by rw[br];exact h.m,d:=h.d,bT:=h.bT }
def cV.world(h:cV X β a w F C I M)(br:w'.heap=w.heap)(aw:n2 w w':=by exact⟨rfl,rfl⟩):cV X β a w' F C I M:=
 { h with
  holds:={ i:=by rw[br];exact h.holds.i,m:=by rw[br];exact h.holds.m,d:=h.holds.d,bT:=h.holds.bT }
  defers:=h.defers.mono λr ak=>{ ak with aO:=by rw[br];exact ak.aO }
  ck:=λs cs ap=>{ h.ck s cs ap with aO:=by rw[br];exact(h.ck s cs ap).aO }
  du:=by rw[br];exact h.du
  out:=h.out.trans aw
  sz:=by rw[br];exact h.sz }
def ew.alloc(h:ew I M w)(o:Obj):ew I M (w.alloc o) where
 i b x ai:=by have aa:=h.i b x ai;rw[EW w o (lD.1 aa).1];exact aa
 m x ae:=by have aa:=h.m x ae;rw[EW w o (lD.1 aa).1];exact aa
 d:=h.d
 bT:=h.bT
def ew.lt(h:ew I M w){x:aB}(ae:x∈M):x.num<w.heap.size:=(lD.1 (h.m x ae)).1
def ew.Ck(h:ew I M w){b:Nat}{o:Obj}(ai:I b=some o):b<w.heap.size:=(lD.1 (h.i b o ai)).1
def ew.rL(h:ew I M w):I w.heap.size=none:=by
 cases ai:I w.heap.size with
 |none=>rfl| some o=>exact absurd (h.Ck ai) (Nat.lt_irrefl _)
def ew.qO(h:ew I M w):∀ x∈M,x.num≠w.heap.size:=λx ae e=>by have:=h.lt ae;omega
def ew.cons(h:ew I M w)(o:Obj):ew I (⟨w.heap.size,o⟩::M) (w.alloc o) where
 i:=(h.alloc o).i
 m x ae:=by
  rcases ef.1 ae with rfl | ae;·exact Ms w o
  ·exact(h.alloc o).m x ae
 d x ae:=by
  rcases ef.1 ae with rfl | ae;·exact h.rL
  ·exact h.d x ae
 bT:=by simp only[cY,nh];refine⟨λhm=>?_,h.bT⟩;obtain⟨x,ae,e⟩:=dA.1 hm;exact h.qO x ae e
def wZ.alloc{b:Nat}{cs:List Value}(h:wZ X w I M b cs)(o:Obj):wZ X (w.alloc o) I M b cs where
 aO:=by obtain⟨T,bp⟩:=h.aO;exact⟨T,by rw[EW w o (lD.1 bp).1];exact bp⟩
 be:=h.be
 jz:=h.jz
 eK:=h.eK
def wZ.lt{b:Nat}{cs:List Value}(h:wZ X w I M b cs):b<w.heap.size:=by obtain⟨T,bp⟩:=h.aO;exact(lD.1 bp).1
def wZ.Mv{b:Nat}{cs:List Value}(h:wZ X w I M b cs)(o:Obj):wZ X (w.alloc o) I (⟨w.heap.size,o⟩::M) b cs where
 aO:=(h.alloc o).aO
 be:=h.be
 jz:=h.jz
 eK x ae:=by
  rcases ef.1 ae with rfl | ae
  ·exact λe=>by have:=h.lt;simp only at e;omega
  ·exact h.eK x ae
def va.alloc{r:Nat}(h:va X w I M r)(o:Obj):va X (w.alloc o) I M r:=
 { h with aO:=by rw[EW w o (lD.1 h.aO).1];exact h.aO }
def va.Mv{r:Nat}(h:va X w I M r)(o:Obj):va X (w.alloc o) I (⟨w.heap.size,o⟩::M) r:=by
 refine { h.alloc o with eK:=λx ae=>?_ };rcases ef.1 ae with rfl | ae
 ·have aa:=(lD.1 h.aO).1;simp only;omega
 ·exact h.eK x ae
def Mw(h:∀ b,b<X.B->b ∉ X.cq->w.heap[b]?=X.ar.heap[b]?)(df:X.B<=w.heap.size)(o:Obj):∀ b,b<X.B->b ∉ X.cq->(w.alloc o).heap[b]?=X.ar.heap[b]?:=λb ai aJ=>by rw[EW w o (by omega)];exact h b ai aJ
def cV.o0(h:cV X β a w F C I M)(o:Obj):cV X β a (w.alloc o) F C I (⟨w.heap.size,o⟩::M) where
 size:=h.size
 defers:=h.defers.mono λr ak=>ak.Mv o
 holds:=h.holds.cons o
 al:=h.al
 ck s cs ap:=(h.ck s cs ap).Mv o
 inj:=h.inj
 hI:=h.hI
 hq:=h.hq
 own x ae:=by
  rcases ef.1 ae with rfl | ae;·exact .inr h.sz
  ·exact h.own x ae
 du:=Mw h.du h.sz o
 out:=h.out
 sz:=by have:=h.sz;simp;omega
def cV.Mx(h:cV X β a w F C I M)(d:Nat):cV X β a w (pV F d) (iO C d none) I M where
 size:=h.size
 defers:=h.defers
 holds:=h.holds
 al t:=by
  have aa:=h.al t;unfold pV;cases bU:F t with
  |ref s off=>
   rw[bU]at aa;simp only;cases Nat.beq s d;·exact aa
   ·trivial
  |_=>rw[bU]at aa;exact aa
 ck s cs ap:=by
  unfold iO at ap;cases ai:Nat.beq s d with
  |true=>simp[ai]at ap| false=>simp[ai]at ap;exact h.ck s cs ap
 inj s cc aa ab:=h.inj s cc (λe=>aa (by simp[iO,e])) (λe=>ab (by simp[iO,e]))
 hI:=h.hI
 hq:=h.hq
 own:=h.own
 du:=h.du
 out:=h.out
 sz:=h.sz
def cV.SZ(h:cV X β a w F C I M)(d:Nat)(ah:d<X.n)(cs:List Value)(T:Nat) :
  ∃ n3,cV X n3 (a.put (some d) (.pointer (some ⟨w.heap.size,0,none⟩))) (w.alloc (.cells cs.toArray T (0,0))) (fz (pV F d) d (.ref d 0)) (iO C d (some cs)) I M:=by
 have ar:=h.Mx d;let n3:Nat->Nat:=λs=>if s=d then w.heap.size else β s
 refine⟨n3,?_⟩;have w3:∀ t,eF n3 (pV F d t) (a.tmps.getD t undef):=λt=>by
  have aa:=ar.al t;cases bU:pV F d t with
  |ref s off=>
   rw[bU]at aa;have ap:s≠d:=by
    intro e;subst e;unfold pV at bU;split at bU
    ·rename_i cc Iz Cl;cases ai:Nat.beq cc s with
     |true=>simp[ai]at bU| false=>simp[ai]at bU;obtain⟨rfl,_⟩:=bU;simp at ai
    ·rename_i bK;exact bK _ _ bU
   simp only[eF,n3,cb ap];exact aa
  |_=>rw[bU]at aa;exact aa
 exact {
  size:=by simp[Act.put,h.size]
  defers:=h.defers.mono λr ak=>ak.alloc _
  holds:=h.holds.alloc _
  al:=Mu w3 (by rw[h.size];exact ah) (by simp[eF,n3])
  ck:=λs cs' ap=>by
   by_cases e:s=d;·subst e;simp[iO]at ap;subst ap;simp only[n3,cn rfl];exact { aO:=⟨T,Ms w _⟩,be:=h.sz,jz:=h.holds.rL,eK:=h.holds.qO }
   ·have ai:Nat.beq s d=false:=g3 e;simp[iO,ai]at ap;simp only[n3,cb e];exact(h.ck s cs' ap).alloc _
  inj:=λs cc aa ab he=>by
   by_cases e:s=d<;>by_cases bq:cc=d
   ·rw[e,bq]
   ·exfalso;have ai:Nat.beq cc d=false:=g3 bq;simp[iO,ai]at ab;obtain⟨c,aA⟩:=Ii.1 ab;have:=(h.ck cc c aA).lt;simp only[n3,cn e,cb bq]at he;omega
   ·exfalso;have ai:Nat.beq s d=false:=g3 e;simp[iO,ai]at aa;obtain⟨c,aA⟩:=Ii.1 aa;have:=(h.ck s c aA).lt;simp only[n3,cb e,cn bq]at he;omega
   ·have ai:Nat.beq s d=false:=g3 e;have iQ:Nat.beq cc d=false:=g3 bq;simp[iO,ai]at aa;simp[iO,iQ]at ab;simp only[n3,cb e,cb bq]at he;exact h.inj s cc aa ab he
  hI:=h.hI
  hq:=h.hq
  own:=h.own
  du:=Mw h.du h.sz _
  out:=h.out
  sz:=by have:=h.sz;simp;omega }
def dL(a:Addr)(h:a.spot=none)(j:Nat):a.add j=⟨a.block,a.off+j,none⟩:=by
 obtain⟨b,o,s⟩:=a;simp only at h;subst h;unfold Addr.add;split<;>simp_all
def sL{b:Nat}(au:w.heap[b]?=some (.cells cs T al))(j:Nat):w.cell? ⟨b,j,none⟩=cs[j]?:=by simp[World.cell?,au]
variable{P:Program}{t:Nat}{i:dU}
def jT.run_sizeOf(h:jT P t i)(w:World):(sizeOf t).run P w=.ok i.size w:=by obtain⟨inf,z,aa,ab,_⟩:=h.inf;simp[sizeOf,typeInfo,aa,ab]
def jT.EX(h:jT P t i)(w:World):∃ z,(zeroValue t).run P w=.ok z w/\z.cells.toList=i.zero:=by obtain⟨inf,z,aa,ab,ag,aW,bC⟩:=h.inf;exact⟨z,by simp[zeroValue,typeInfo,aa,aW],bC⟩
def jT.adq(h:jT P t i)(w:World):∃ d,(underlying t).run P w=.ok d w/\e8 d=i.bE:=by obtain⟨d,aa,ab⟩:=h.fi;exact⟨d,run_underlying aa w,ab⟩
def jT.S0(h:jT P t i)(w:World):(isAgg t).run P w=.ok i.bE.agg w:=by
 obtain⟨d,aa,ab⟩:=h.adq w;rw[<-ab];unfold isAgg;simp only[cm,aa,b3];cases d<;>rfl
def adr(av:vs.length=1):vs=[vs.headD undef]:=by
 match vs,av with
 |[v],_=>rfl
def IA(h:jT P t i){a:Addr}(ap:a.spot=none)(au:w.heap[a.block]?=some (.cells cs T al))
  (aj:(cs.toList.drop a.off).take i.size=vs) (av:vs.length=i.size):(loadVar t a).run P w=.ok (pack i.bE.agg vs) w:=by
 have aA:∀ j v,vs[j]?=some v->w.cell? (a.add j)=some v:=by
  intro j v an;rw[dL a ap,sL au];rw[<-aj,j9]at an;split at an;·rw[nZ]at an;simpa using an
  ·cases an
 unfold loadVar;simp only[cm,h.S0,b3];cases EY:i.bE.agg with
 |true=>simp only[pU,cm,h.run_sizeOf,b3,<-av];rw[run_loadCells_list w a vs aA];simp[pack]| false=>have aa:=h.It EY;rw[aa]at av;have h7:=adr av;have:=aA 0 (vs.headD undef) (by rw[h7];simp);have aC:a.add 0=a:=rfl;rw[aC]at this;simp[this,pack]
def w4(h:fO vs=true):∀ v∈vs,v.oneCell'=true:=by simpa[fO]using h
def IB(h:jT P t i){a:Addr}(ap:a.spot=none)(au:w.heap[a.block]?=some (.cells cs T (0,0)))(df:v.cells.size=i.size)(ai:a.off+v.cells.toList.length<=cs.size)(aa:fO v.cells.toList=true) :
  (storeVar t a v).run P w=.ok () (w.setRow a.block (bo cs.toList a.off v.cells.toList).toArray):=by
 obtain⟨b,o,s⟩:=a;simp only at ap au ai;subst ap;unfold storeVar;simp only[cm,h.run_sizeOf,b3,df,ne_eq,not_true,lG,Sem.run_ite];have:=run_storeCells_at (P:=P) b o T v.cells.toList 0 cs w au (by simpa using ai) (w4 aa);simp only[nj]at this;simp only[bo];simpa using this
def cV.S1(h:cV X β a w F C I M){s:Nat}{cs:List Value}(ap:C s=some cs)(cs':List Value):cV X β a (w.setRow (β s) cs'.toArray) F (iO C s (some cs')) I M:=by
 have ai:=h.ck s cs ap;obtain⟨T,bp⟩:=ai.aO;exact {
  size:=h.size
  defers:=h.defers.mono λr ak=>by refine { ak with aO:=?_ };rw[setRow_other _ _ _ _ (λe=>by have aa:=ak.aO;rw[e,bp]at aa;cases aa)];exact ak.aO
  holds:={
   i:=λb o je=>by rw[setRow_other _ _ _ _ (λe=>by rw[e,ai.jz]at je;cases je)];exact h.holds.i b o je
   m:=λx ae=>by rw[setRow_other _ _ _ _ (ai.eK x ae)];exact h.holds.m x ae
   d:=h.holds.d
   bT:=h.holds.bT }
  al:=h.al
  ck:=λcc c' rM=>by
   by_cases e:cc=s;·subst e;simp[iO,qN]at rM;subst rM;exact { aO:=⟨T,setRow_heap _ _ _ _ _ _ bp⟩,be:=ai.be,jz:=ai.jz,eK:=ai.eK }
   ·simp[iO,g3 e]at rM;have iQ:=h.ck cc c' rM;obtain⟨mH,EZ⟩:=iQ.aO;refine { aO:=⟨mH,?_⟩,be:=iQ.be,jz:=iQ.jz,eK:=iQ.eK };rw[setRow_other _ _ _ _ (λbq=>e (h.inj cc s (by simp[rM]) (by simp[ap]) bq))];exact EZ
  inj:=λs1 s2 aa ab=>h.inj s1 s2 (λe=>by
    unfold iO at aa;cases aM:Nat.beq s1 s with
    |true=>have:=c6 aM;subst this;rw[ap]at e;cases e| false=>rw[aM]at aa;exact aa e) (λe=>by
    unfold iO at ab;cases aM:Nat.beq s2 s with
    |true=>have:=c6 aM;subst this;rw[ap]at e;cases e| false=>rw[aM]at ab;exact ab e)
  hI:=h.hI
  hq:=h.hq
  own:=h.own
  du:=λb iQ aJ=>by rw[setRow_other _ _ _ _ (λe=>by have:=ai.be;omega)];exact h.du b iQ aJ
  out:=h.out.trans (SY _ _ _)
  sz:=by have:=h.sz;simpa using this }
def cV.vb(h:cV X β a w F C I M){bc post:List aB}{g:Nat}{cs':Array Value}(a1:M=bc++⟨g,.cells cs T (0,0)⟩::post) :
  cV X β a (w.setRow g cs') F C I (bc++⟨g,.cells cs' T (0,0)⟩::post):=by
 subst a1;have fj:(⟨g,.cells cs T (0,0)⟩:aB)∈bc++⟨g,.cells cs T (0,0)⟩::post:=by simp
 have au:w.heap[g]?=some (.cells cs T (0,0)):=h.holds.m _ fj;have cg:=h.holds.bT;simp only[e7,cY]at cg;have bK:∀ x,x∈bc\/x∈post->x.num≠g:=by
  intro x ae e;rw[wW]at cg;obtain⟨_,ab,ag⟩:=cg;rcases ae with ae | ae;·exact ag x.num (dA.2 ⟨x,ae,rfl⟩) g (by simp) e
  ·rw[nh]at ab;exact ab.1 (dA.2 ⟨x,ae,e⟩)
 have mem:∀ x,x∈bc++(⟨g,.cells cs' T (0,0)⟩:aB)::post->x=⟨g,.cells cs' T (0,0)⟩\/(x∈bc\/x∈post):=by
  intro x ae;simp only[dQ,ef]at ae;rcases ae with ae | ae | ae;·exact .inr (.inl ae)
  ·exact .inl ae
  ·exact .inr (.inr ae)
 have back:∀ x,x∈bc\/x∈post->x∈bc++(⟨g,.cells cs T (0,0)⟩:aB)::post:=by
  intro x ae;simp only[dQ,ef];rcases ae with ae | ae;·exact .inl ae
  ·exact .inr (.inr ae)
 exact {
  size:=h.size
  defers:=h.defers.mono λr ak=>by
   have Ai:g≠r:=ak.eK _ fj;refine { ak with aO:=?_,eK:=λx ae=>?_ };·rw[setRow_other _ _ _ _ (rJ Ai)];exact ak.aO
   ·rcases mem x ae with rfl | ae
    ·exact Ai
    ·exact ak.eK x (back x ae)
  holds:={
   i:=λb o je=>by rw[setRow_other _ _ _ _ (λe=>by have:=h.holds.d _ fj;simp only at this;rw[e,this]at je;cases je)];exact h.holds.i b o je
   m:=λx ae=>by
    rcases mem x ae with rfl | ae;·exact setRow_heap _ _ _ _ _ _ au
    ·rw[setRow_other _ _ _ _ (bK x ae)];exact h.holds.m x (back x ae)
   d:=λx ae=>by
    rcases mem x ae with rfl | ae;·exact h.holds.d ⟨g,.cells cs T (0,0)⟩ fj
    ·exact h.holds.d x (back x ae)
   bT:=by simpa[e7]using cg }
  al:=h.al
  ck:=λs c ap=>by
   have ai:=h.ck s c ap;obtain⟨mH,EZ⟩:=ai.aO;have sM:g≠β s:=ai.eK _ fj;refine { aO:=⟨mH,?_⟩,be:=ai.be,jz:=ai.jz,eK:=λx ae=>?_ };·rw[setRow_other _ _ _ _ (rJ sM)];exact EZ
   ·rcases mem x ae with rfl | ae
    ·exact sM
    ·exact ai.eK x (back x ae)
  inj:=h.inj
  hI:=h.hI
  hq:=h.hq
  own:=λx ae=>by
   rcases mem x ae with rfl | ae;·exact h.own ⟨g,.cells cs T (0,0)⟩ fj
   ·exact h.own x (back x ae)
  du:=λb ai aJ=>by
   rw[setRow_other _ _ _ _ (λe=>by
    rcases h.own _ fj with aa | aa;·simp only at aa;exact aJ (e ▸ aa)
    ·simp only at aa;omega)]
   exact h.du b ai aJ
  out:=h.out.trans (SY _ _ _)
  sz:=by have:=h.sz;simpa using this }
def hH.heap(h:ew I M w){b:Nat}{o:Obj}(af:hH I M b o):w.heap[b]?=some o:=by
 rcases af with af | ⟨x,ae,rfl,rfl⟩
 ·exact h.i b o af
 ·exact h.m x ae
def ads{aK:List Value}{x:Value}{xs:List Value}(h:off+1+xs.length<=aK.length):bo (aK.set off x) (off+1) xs=bo aK off (x::xs):=by
 unfold bo;rw[List.take_set,List.drop_set,cn (by omega),gf (by omega:off<aK.length)];have e:(List.take off aK++[aK[off]'(by omega)]).set off x=List.take off aK++[x]:=by rw[List.set_append,cb (by simp;omega)];simp[rI (by omega:off<=aK.length)]
 rw[e];simp[qL,Cg 1]
def S2(off:Nat):∀ (xs:List Value) (k:Nat) (aK:List Value),off+k+xs.length<=aK.length -> (xs.zipIdx k).foldl (λ(cs:Array Value) (p:Value×Nat)=>cs.setIfInBounds (off+p.2) p.1) aK.toArray=(bo aK (off+k) xs).toArray
 |[],k,aK,_=>by simp[bo]
 |x::xs,k,aK,av=>by simp only[ea]at av;simp only[List.zipIdx_cons,sC];rw[List.setIfInBounds_toArray,S2 off xs (k+1) _ (by simp;omega)];rw[show off+(k+1)=off+k+1 from by omega,ads (by omega)]
def fill_eq(place:Nat->Option (Nat×Nat)):∀ (vs:List (Nat×Value)) (cells r:List Value),sH place cells vs=some r->Instr.fill place cells.toArray vs=some r.toArray
 |[],cells,r,h=>by simp[sH]at h;simp[Instr.fill,h]
 |(i,v)::bb,cells,r,h=>by
  unfold sH at h;unfold Instr.fill;split at h;·cases h
  ·rename_i off size aD;simp only[aD];cases aA:(Nat.beq v.cells.size size&&Nat.ble (off+size) cells.length)with
   |false=>rw[aA]at h;cases h
   |true=>
    rw[aA]at h;simp only[bl]at h;rw[b']at aA;have aa:=c6 aA.1;have ab:=bS aA.2;have az:decide (v.cells.size≠size)=false:=by simp[aa]
    have aE:decide (off+v.cells.size > cells.toArray.size)=false:=by simp;omega
    rw[az,aE];simp only[Bool.or_false,kG,lG];have a7:=fill_eq place bb _ r h;rw[<-a7];congr 1;have:=S2 off v.cells.toList 0 cells (by simp;omega);simp only[nj]at this;rw[<-this,<-Mm];simp
end
def jd.le{I I':aZ}{M M':List aB}(h:jd cq I M I' M')(lk:ew I M w):(∀ b o,I b=some o->I' b=some o)/\ew I' M' w /\
  (∀ b o,I' b=some o->I b=some o\/∃ x∈M,x.num=b/\x.obj=o/\b ∉ cq)/\(∀ x∈M',x∈M):=by
 induction h with
 |refl=>exact⟨λ_ _ h=>h,lk,λ_ _ h=>.inl h,λ_ h=>h⟩
 | @sub I M M1 I' M' ap k a7=>
  have aa:ew I M1 w:=⟨lk.i,λx ae=>lk.m x (ap.subset ae),λx ae=>lk.d x (ap.subset ae),(ap.map _).nodup lk.bT⟩;obtain⟨cu,dG,dY,fN⟩:=a7 aa;refine⟨cu,dG,λb o ai=>?_,λx ae=>ap.subset (fN x ae)⟩;rcases dY b o ai with h | ⟨x,ae,h⟩;·exact .inl h
  ·exact .inr ⟨x,ap.subset ae,h⟩
 | @perm I M M1 I' M' aD k a7=>
  have aa:ew I M1 w:=⟨lk.i,λx ae=>lk.m x (aD.mem_iff.2 ae),λx ae=>lk.d x (aD.mem_iff.2 ae),(aD.map _).nodup_iff.1 lk.bT⟩;obtain⟨cu,dG,dY,fN⟩:=a7 aa;refine⟨cu,dG,λb o ai=>?_,λx ae=>aD.mem_iff.2 (fN x ae)⟩;rcases dY b o ai with h | ⟨x,ae,h⟩;·exact .inl h
  ·exact .inr ⟨x,aD.mem_iff.2 ae,h⟩
 | @nk I M I' M' b o post a1 aJ k a7=>
  subst a1;have cg:=lk.bT;simp only[cY,nh]at cg;have ai:=lk.d ⟨b,o⟩ (by simp);simp only at ai;have aa:ew (ins I b o) post w:={
   i:=λhb o' h=>by
    unfold ins at h;by_cases e:hb=b;·subst e;simp only[qN,bl,j']at h;subst h;exact lk.m ⟨hb,o⟩ (by simp)
    ·simp only[g3 e,bh]at h;exact lk.i _ _ h
   m:=λx ae=>lk.m x (by simp[ae])
   d:=λx ae=>by unfold ins;have e:x.num≠b:=λe=>cg.1 (dA.2 ⟨x,ae,e⟩);simp only[g3 e,bh];exact lk.d x (by simp[ae])
   bT:=cg.2 }
  obtain⟨cu,dG,dY,fN⟩:=a7 aa;refine⟨λhb o' h=>cu hb o' ?_,dG,λhb o' h=>?_,λx ae=>by simp[fN x ae]⟩
  ·unfold ins;by_cases e:hb=b
   ·subst e;rw[ai]at h;cases h
   ·simp only[g3 e,bh];exact h
  ·rcases dY hb o' h with h | ⟨x,ae,h⟩
   ·unfold ins at h;by_cases e:hb=b
    ·subst e;simp only[qN,bl,j']at h;exact .inr ⟨⟨hb,o⟩,by simp,rfl,h,aJ⟩
    ·simp only[g3 e,bh]at h;exact .inl h
   ·exact .inr ⟨x,by simp[ae],h⟩
def cV.h8{X:c3}{β:Nat->Nat}{F:Fr}{C:dp}{I I':aZ}{M M':List aB}(h:cV X β a w F C I M)(hw:jd X.cq I M I' M'):cV X β a w F C I' M':=by
 obtain⟨cu,dG,dY,fN⟩:=hw.le h.holds;exact { h with
  holds:=dG
  defers:=h.defers.mono λr ak=>by
   refine { ak with jz:=?_,eK:=λx ae=>ak.eK x (fN x ae) };cases bA:I' r with
   |none=>rfl
   |some o=>
    exfalso;rcases dY _ _ bA with aa | ⟨x,ae,aa,_⟩;·rw[ak.jz]at aa;cases aa
    ·exact ak.eK x ae aa
  ck:=λs cs ap=>{ h.ck s cs ap with
   jz:=by
    cases bA:I' (β s)with
    |none=>rfl
    |some o=>
     exfalso;rcases dY _ _ bA with aa | ⟨x,ae,aa,_⟩;·rw[(h.ck s cs ap).jz]at aa;cases aa
     ·exact(h.ck s cs ap).eK x ae aa
   eK:=λx ae=>(h.ck s cs ap).eK x (fN x ae) }
  hI:=λb o ai=>cu b o (h.hI b o ai)
  hq:=λb o ai=>by
   rcases dY b o ai with aa | ⟨x,ae,rfl,_,aJ⟩;·exact h.hq b o aa
   ·exact .inr ((h.own x ae).resolve_left aJ)
  own:=λx ae=>h.own x (fN x ae) }
section
variable{X:c3}{β:Nat->Nat}{a:Act}{w:World}{F:Fr}{C:dp}{I:aZ}{M:List aB}{o:Oper}{Q:Exit->Act->World->Prop}{K:fX}
def S3(h:cV X β a w F C I M)(ah:∀ d,o.dst=some d->d<X.n)(cg:∀ c,o.op≠.defer c){x:dn}(ak:(execOp a.eval o).run X.P w=.ok (.value v) w)(ae:eF β x v)(af:K (put o.dst x F) C I M):o.wpIn (gP X) 0 X.P a w (Sat X K) Q:=
 il cg ak ⟨_,_,_,_,⟨β,h.put ah ae⟩,af⟩
def vc(h:cV X β a w F C I M)(ah:∀ d,o.dst=some d->d<X.n)(cg:∀ c,o.op≠.defer c)(ak:(execOp a.eval o).run X.P w=.ok (.value v) w)(af:K (put o.dst (.val v) F) C I M):o.wpIn (gP X) 0 X.P a w (Sat X K) Q:=
 S3 (x:=.val v) h ah cg ak rfl af
def n4(k:IntKind)(n:Int)(w:World)(P:Program):(asIntOf (.int k n)).run P w=.ok (k,n) w:=rfl
def IntKind.Cm{k dJ:IntKind}(h:IntKind.l' k dJ=true):k=dJ:=by cases k<;>cases dJ<;>first | rfl | cases h
def n5(op:BinOp)(t:Nat)(x y:Operand)(k dJ:IntKind)(n m:Int)(P:Program)(w:World):(eqGuard op t x y (.int k n) (.int dJ m)).run P w=.ok () w:=by
 unfold eqGuard;cases op<;>rfl
def My(op:BinOp)(t:Nat)(x y:Operand)(n m:ByteArray)(P:Program)(w:World):(eqGuard op t x y (.string n) (.string m)).run P w=.ok () w:=by
 unfold eqGuard;cases op<;>rfl
def S4(op:BinOp)(t:Nat)(x y:Operand)(n m:Bool)(P:Program)(w:World):(eqGuard op t x y (.bool n) (.bool m)).run P w=.ok () w:=by
 unfold eqGuard;cases op<;>rfl
def S5(a b:ByteArray):(a.toList == b.toList)=decide (a=b):=by
 rw[oY];simp only[beq_iff_eq,eU];constructor
 ·intro h;have aa:a.data.toList=b.data.toList:=by rw[ByteArray.toList_eq,ByteArray.toList_eq]at h;exact h
  cases a;cases b;simp only[Mn];exact gO aa
 ·intro h;rw[h]
def run_equal_bool{t:Nat}(hu:P.underlying t=some .bool)(a b:Bool)(w:World):(Op.equal t (.bool a) (.bool b)).run P w=.ok (a == b) w:=by
 have key:∀ d,(Op.equalIn (d+1) t (.bool a) (.bool b)).run P w=.ok (a == b) w:=λd=>by simp only[Op.equalIn,cm,run_underlying hu,b3,c9]
 exact key 9999
def adt(aN:c2 X.P X.E)(op:BinOp)(t:Nat)(x y:Operand)(u v:dn)(lH w5:Value)(ae:u=.val lH)(aF:v=.val w5)(S6:Value->Prop)(other:Prop)
  (h:lj op (X.E t) u v S6 other):other\/∃ r,(∀ w,(do eqGuard op t x y lH w5;binOp op t lH w5:Sem Value).run X.P w=.ok r w)/\S6 r:=by
 subst ae;subst aF;unfold lj at h;split at h
 ·rename_i k a dJ b az aE;cases az;cases aE
  right
  split at h;·obtain⟨j,rfl,⟨r,ak,af⟩⟩:=h;refine⟨_,λw=>?_,af⟩;simp only[cm,n5,b3,binOp,Op.shift];rw[cb (by omega)];simp[ak]
  ·obtain⟨j,rfl,af⟩:=h;refine⟨_,λw=>?_,af⟩;simp only[cm,n5,b3,binOp,Op.shift];rw[cb (by omega)];simp
  ·rename_i fs kJ;cases hc:IntKind.l' k dJ with
   |false=>rw[hc]at h;exact h.elim
   |true=>
    rw[hc]at h;have o1:=IntKind.Cm hc;subst o1;simp only[bl]at h;cases op<;>simp only at h
    case add=>obtain⟨r,ak,af⟩:=h;exact⟨_,λw=>by simp[n5,binOp,Op.intArith,ak],af⟩
    case sub=>obtain⟨r,ak,af⟩:=h;exact⟨_,λw=>by simp[n5,binOp,Op.intArith,ak],af⟩
    case mul=>obtain⟨r,ak,af⟩:=h;exact⟨_,λw=>by simp[n5,binOp,Op.intArith,ak],af⟩
    case quo=>obtain⟨ar,r,ak,af⟩:=h;exact⟨_,λw=>by simp[n5,binOp,Op.intDiv,ar,ak],af⟩
    case rem=>obtain⟨ar,af⟩:=h;exact⟨_,λw=>by simp[n5,binOp,Op.intDiv,ar],af⟩
    case and=>exact⟨_,λw=>by simp[n5,binOp,Op.intBits,tN],h⟩
    case or=>exact⟨_,λw=>by simp[n5,binOp,Op.intBits,tN],h⟩
    case xor=>exact⟨_,λw=>by simp[n5,binOp,Op.intBits,tN],h⟩
    case andNot=>exact⟨_,λw=>by simp[n5,binOp,Op.intBits,tN],h⟩
    case shl=>exact(fs rfl).elim
    case shr=>exact(kJ rfl).elim
    case eql=>exact⟨_,λw=>by simp only[cm,n5,b3,binOp,Op.intCmp,wX];simp;rfl,h⟩
    case neq=>exact⟨_,λw=>by simp only[cm,n5,b3,binOp,Op.intCmp,wX];simp;rfl,h⟩
    case lss=>exact⟨_,λw=>by simp[n5,binOp,Op.intCmp,wX],h⟩
    case leq=>exact⟨_,λw=>by simp[n5,binOp,Op.intCmp,wX],h⟩
    case gtr=>exact⟨_,λw=>by simp[n5,binOp,Op.intCmp,wX],h⟩
    case geq=>exact⟨_,λw=>by simp[n5,binOp,Op.intCmp,wX],h⟩
 ·rename_i a b az aE;cases az;cases aE;split at h
  ·exact .inr ⟨_,λw=>by simp only[cm,My,b3,binOp,Op.stringOp,c9,S5],h⟩
  ·exact .inr ⟨_,λw=>by simp only[cm,My,b3,binOp,Op.stringOp,c9,S5],h⟩
  ·exact .inl h
 ·rename_i a b az aE;cases az;cases aE;split at h
  ·rename_i dk sz hU z ay;obtain⟨d,hu,ah⟩:=(aN _ _ ay).fi;have hd:d=.bool:=by cases d<;>simp_all[e8]
   subst hd;split at h;·exact .inr ⟨_,λw=>by simp only[cm,S4,b3,binOp,run_equal_bool hu,c9],h⟩
   ·exact .inr ⟨_,λw=>by simp only[cm,S4,b3,binOp,run_equal_bool hu,c9],h⟩
   ·exact .inl h
  ·exact .inl h
 ·exact .inl h
def Mz{args:Array Value}(h:Calls P f args w R)(n:Nat):CallsIn (gP X) n P f args w R:=by have aa:=(callsIn_wide (n:=n)).2 h;exact⟨trivial,λcs ak=>aa.2 cs (room_wide _)⟩
def ew.part(h:ew I M w){dI Mr:List aB}(a1:M.Perm (dI++Mr)):ew I dI w:=by
 have g4:∀ x,x∈M ↔ x∈dI\/x∈Mr:=λx=>by rw[a1.mem_iff,dQ]
 have cg:((dI++Mr).map (·.num)).Nodup:=(a1.map (·.num)).nodup_iff.1 h.bT;rw[e7,wW]at cg;exact⟨h.i,λx ae=>h.m x ((g4 x).2 (.inl ae)),λx ae=>h.d x ((g4 x).2 (.inl ae)),cg.1⟩
def cV.after(h:cV X β a w F C I M){dI Mr M':List aB}{I':aZ}(a1:M.Perm (dI++Mr))(qP:ew I' M' w')(eu:Kept I dI w I' M' w'):cV X β a w' F C I' (M'++Mr):=by
 have g4:∀ x,x∈M ↔ x∈dI\/x∈Mr:=λx=>by rw[a1.mem_iff,dQ]
 have cg:((dI++Mr).map (·.num)).Nodup:=(a1.map (·.num)).nodup_iff.1 h.holds.bT;rw[e7,wW]at cg;have S7:∀ x∈Mr,∀ y∈dI,y.num≠x.num:=λx ae y aF=>cg.2.2 y.num (dA.2 ⟨y,aF,rfl⟩) x.num (dA.2 ⟨x,ae,rfl⟩);have adu:∀ x∈Mr,w'.heap[x.num]?=w.heap[x.num]?:=λx ae=>
  eu.du x.num (h.holds.lt ((g4 x).2 (.inr ae))) (S7 x ae)
 exact {
  size:=h.size
  defers:=h.defers.mono λr ak=>by
   have aR:=(lD.1 ak.aO).1;refine { aO:=?_,be:=ak.be,jz:=?_,eK:=λx ae=>?_ };·rw[eu.du _ aR (λy aF=>ak.eK y ((g4 y).2 (.inl aF)))];exact ak.aO
   ·cases bA:I' r with
    |none=>rfl
    |some o=>
     exfalso;rcases eu.tP _ _ bA with aa | aa;·rw[ak.jz]at aa;cases aa
     ·omega
   ·rcases dQ.1 ae with ae | ae
    ·rcases eu.u' x ae with⟨z,bf,qQ⟩ | aa
     ·rw[<-qQ];exact ak.eK z ((g4 z).2 (.inl bf))
     ·omega
    ·exact ak.eK x ((g4 x).2 (.inr ae))
  holds:={
   i:=qP.i
   m:=λx ae=>by
    rcases dQ.1 ae with ae | ae;·exact qP.m x ae
    ·rw[adu x ae];exact h.holds.m x ((g4 x).2 (.inr ae))
   d:=λx ae=>by
    rcases dQ.1 ae with ae | ae;·exact qP.d x ae
    ·cases bA:I' x.num with
     |none=>rfl
     |some o=>
      exfalso;rcases eu.tP _ _ bA with aa | aa;·have:=h.holds.d x ((g4 x).2 (.inr ae));rw[this]at aa;cases aa
      ·have:=h.holds.lt ((g4 x).2 (.inr ae));omega
   bT:=by
    rw[e7,wW];refine⟨qP.bT,cg.2.1,λp aD q aM e=>?_⟩;obtain⟨x,ae,rfl⟩:=dA.1 aD;obtain⟨y,aF,rfl⟩:=dA.1 aM;rcases eu.u' x ae with⟨z,bf,qQ⟩ | aa;·exact S7 y aF z bf (qQ.trans e)
    ·have:=h.holds.lt ((g4 y).2 (.inr aF));omega }
  al:=h.al
  ck:=λs cs ap=>by
   have ai:=h.ck s cs ap;obtain⟨T,bp⟩:=ai.aO;refine { aO:=⟨T,?_⟩,be:=ai.be,jz:=?_,eK:=λx ae=>?_ };·rw[eu.du _ ai.lt (λy aF=>ai.eK y ((g4 y).2 (.inl aF)))];exact bp
   ·cases bA:I' (β s)with
    |none=>rfl
    |some o=>
     exfalso;rcases eu.tP _ _ bA with aa | aa;·rw[ai.jz]at aa;cases aa
     ·have:=ai.lt;omega
   ·rcases dQ.1 ae with ae | ae
    ·rcases eu.u' x ae with⟨z,bf,qQ⟩ | aa
     ·rw[<-qQ];exact ai.eK z ((g4 z).2 (.inl bf))
     ·have:=ai.lt;omega
    ·exact ai.eK x ((g4 x).2 (.inr ae))
  inj:=h.inj
  hI:=λb o ai=>eu.le b o (h.hI b o ai)
  hq:=λb o ai=>by
   rcases eu.tP b o ai with aa | aa;·exact h.hq b o aa
   ·exact .inr (lg h.sz aa)
  own:=λx ae=>by
   rcases dQ.1 ae with ae | ae
   ·rcases eu.u' x ae with⟨z,bf,qQ⟩ | aa
    ·rw[<-qQ];exact h.own z ((g4 z).2 (.inl bf))
    ·exact .inr (lg h.sz aa)
   ·exact h.own x ((g4 x).2 (.inr ae))
  du:=λb ai aJ=>by
   rw[eu.du b (Im ai h.sz) (λy aF e=>by
    rcases h.own y ((g4 y).2 (.inl aF))with aa | aa;·exact aJ (e ▸ aa)
    ·omega)]
   exact h.du b ai aJ
  out:=h.out.trans eu.out
  sz:=lg h.sz eu.sz }
def cV.call(h:cV X β a w F C I M){KC:Value->aZ->List aB->Prop}(aA:a9 X.cq P f args I M KC) :
  (Mq P f/\Calls P f args.toArray w λe w'=>∃ v I' M',e=.returned v/\KC v I' M'/\cV X β a w' F C I' M')\/(∃ v w' I' M',(callFunc f args.toArray).run P w=.ok (.value v) w'/\KC v I' M'/\cV X β a w' F C I' M'):=by
 obtain⟨cU,dI,Mr,post,im,⟨pX,ap⟩ | ap,af⟩:=aA.elim ⟨h.holds.d,h.holds.bT⟩<;>have h:=h.h8 im<;>have a1:=List.Perm.refl (dI++Mr)
 ·refine .inl ⟨pX,?_⟩;refine(ap w (h.holds.part a1)).mono ?_;rintro e w'⟨v,I',M',rfl,aD,qP,eu⟩;have aC:=h.after a1 qP eu;exact⟨v,I',M'++Mr,rfl,af v I' M' eu.le aC.holds.d aD,aC⟩
 ·obtain⟨v,w',I',M',ak,aD,qP,eu⟩:=ap w (h.holds.part a1);have aC:=h.after a1 qP eu;exact .inr ⟨v,w',I',M'++Mr,ak,af v I' M' eu.le aC.holds.d aD,aC⟩
def S8{args:Array Value}(cg:∀ c,o.op≠.defer c)(ak:(execOp a.eval o).run X.P w=.ok (.enter f args) w)
  (aA:Calls X.P f args w λe w'=>∃ v,e=.returned v/\next (a.put o.dst v) w'):o.wpIn (gP X) 0 X.P a w next Q:=by
 refine⟨λ_ _=>trivial,?_⟩;rw[Is _ _ _ cg,ak];refine⟨(λh=>by cases h),?_⟩;refine(Mz aA _).mono ?_;rintro e w'⟨v,rfl,h⟩;exact h
def S9(z:Value)(zs:List Value)(h:z.cells.toList=zs)(n:Nat):(Array.range n).map (z.cells[· % z.cells.size]!)=(rowOf zs n).toArray:=by subst h;apply gO;simp[w1,madeCells]
def jT.struct{t:Nat}{cE:List (Nat×Nat)}(h:jT P t ⟨sz,hU,z,.struct cE⟩):∃ fields,P.underlying t=some (.struct fields)/\cE=fields.toList.map λf=>(f.type,f.offset):=by
 obtain⟨d,aa,ab⟩:=h.fi;cases d<;>simp[e8]at ab
 exact⟨_,aa,ab.symm⟩
def jT.slice{t:Nat}(h:jT P t ⟨sz,hU,z,.slice e⟩):P.underlying t=some (.slice e):=by
 obtain⟨d,aa,ab⟩:=h.fi;cases d<;>simp[e8]at ab
 rw[aa,ab]
def jT.array{t:Nat}(h:jT P t ⟨sz,hU,z,.array n e⟩):P.underlying t=some (.array n e):=by
 obtain⟨d,aa,ab⟩:=h.fi;cases d<;>simp[e8]at ab
 rw[aa,ab.1,ab.2]
def jT.string{t:Nat}(h:jT P t ⟨sz,hU,z,.string⟩):P.underlying t=some .string:=by
 obtain⟨d,aa,ab⟩:=h.fi;cases d<;>simp[e8]at ab
 exact aa
def jT.int{P:Program}{t sz hU:Nat}{z:List Value}{k:IntKind}(h:jT P t ⟨sz,hU,z,.int k⟩):P.underlying t=some (.int k):=by
 obtain⟨d,aa,ab⟩:=h.fi;cases d<;>simp[e8]at ab
 rw[aa,ab]
def S'{fields:Array Field}{i l9:Nat}(h:(fields.toList.map λf=>(f.type,f.offset))[i]?=some (l9,off)):∃ f,fields[i]?=some f/\f.type=l9/\f.offset=off:=by
 simp only[lE,Array.getElem?_toList]at h;cases aJ:fields[i]? with
 |none=>simp[aJ]at h| some f=>simp[aJ]at h;exact⟨f,rfl,h.1,h.2⟩
def MA{t:Nat}{i:dU}(h:jT P t i)(bs:off+i.size<=cs.size)(w:World):(part t cs off).run P w=.ok (pack i.bE.agg ((cs.toList.drop off).take i.size)) w:=by
 unfold part;simp only[cm,h.S0,b3];cases EY:i.bE.agg with
 |true=>simp only[pU,cm,h.run_sizeOf,b3,c9,pack,bl];congr 2;apply gO;simp[List.take_drop]
 |false=>
  have aa:=h.It EY;rw[aa]at bs |-;have aR:off<cs.size:=by omega
  simp only[kG,lG,Ij aR,c9,pack,bh];congr 1;rw[eE (by simpa using aR)];simp
def adv{t:Nat}{aH:dU}(ay:P.underlying t=some (.slice e))(he:jT P e aH){c:Nat}{j:Nat}(an:j<n)(w:World) :
  (Instr.indexAt t (.slice (some ad) n c) (.int fG j)).run P w=.ok (.pointer (some (ad.add (j*aH.size)))) w:=by
 unfold Instr.indexAt;simp only[cm,n4,b3,run_underlying ay,c9];rw[cn ⟨by omega,by omega⟩];simp[he.run_sizeOf]
def Ta{t:Nat}{aH:dU}(ay:P.underlying t=some (.array m e))(he:jT P e aH){j:Nat}(an:j<m)(w:World) :
  (Instr.indexAt t (.pointer (some ad)) (.int fG j)).run P w=.ok (.pointer (some (ad.add (j*aH.size)))) w:=by
 unfold Instr.indexAt;simp only[cm,n4,b3,run_underlying ay,c9,Instr.sureAddr];rw[cn ⟨by omega,by omega⟩];simp[he.run_sizeOf]
def Tb{P:Program}{E:Env}(aN:c2 P E)(w:World):∀ (fields:List Field),Ci E (fields.map λf=>(f.type,f.offset))=true -> ∃ l:List (Nat×Nat),(fields.mapM λf=>(do pure (f.offset,<-sizeOf f.type):Sem (Nat×Nat))).run P w=.ok l w/\∀ i,l[i]?=places E (fields.map λf=>(f.type,f.offset)) i
 |[],_=>⟨[],rfl,λi=>by simp[places]⟩
 |f::cE,h=>by
  simp only[Ci,cY,List.all_cons,b']at h;obtain⟨g2,ma⟩:=Option.isSome_iff_exists.1 h.1;obtain⟨l,aa,ab⟩:=Tb aN w cE h.2;refine⟨(f.offset,g2.size)::l,?_,λi=>?_⟩;·simp only[ET,cm,(aN _ _ ma).run_sizeOf,b3,c9];rw[aa];rfl
  ·cases i with
   |zero=>simp[places,ma]| succ i=>simp only[EP,ab];simp[places]
def Tc(aN:c2 X.P X.E)(h:cV X β a w F C I M){yz:dn->Prop}(op:Op)(ty:TypeId)(dst:Option Tmp)(pos:String)(after:Array Edge)(guard:Option (Nat×Bool))(aj:cF X op (dq F) C I M yz other) :
  other\/∃ v x,(execOp a.eval ⟨dst,op,ty,pos,after,guard⟩).run X.P w=.ok (.value v) w/\eF β x v/\yz x:=by
 have done:∀ {v x},(execOp a.eval ⟨dst,op,ty,pos,after,guard⟩).run X.P w=.ok (.value v) w->eF β x v->yz x->other\/∃ v x,(execOp a.eval ⟨dst,op,ty,pos,after,guard⟩).run X.P w=.ok (.value v) w/\eF β x v/\yz x:=
  λaa ab ag=>.inr ⟨_,_,aa,ab,ag⟩
 have hx:∀ {v},(execOp a.eval ⟨dst,op,ty,pos,after,guard⟩).run X.P w=.ok (.value v) w->yz (.val v)->other\/∃ v x,(execOp a.eval ⟨dst,op,ty,pos,after,guard⟩).run X.P w=.ok (.value v) w/\eF β x v/\yz x:=
  fun {v} aa ag=>.inr ⟨v,.val v,aa,rfl,ag⟩
 have aJ:=h.al;cases op
 case move x=>exact done (by simp[execOp]) (w2 aJ x) aj
 case assign x=>exact done (by simp[execOp]) (w2 aJ x) aj
 case pick c p q=>
  simp only[cF]at aj;split at aj
  ·rename_i b ai;have aA:=Mt aJ ai;cases b
   ·exact done (by simp[execOp,aA,asBool]) (w2 aJ q) aj
   ·exact done (by simp[execOp,aA,asBool]) (w2 aJ p) aj
  ·rename_i b ai;have aA:=tR aJ ai;refine done (v:=if b then a.eval p else a.eval q) (x:=Iu b (bB F p) (bB F q)) (by simp[execOp,aA,asBool]) ?_ aj;have aa:=SW aJ p;have ab:=SW aJ q;unfold Iu;split
   ·rename_i x y az aE;rw[az]at aa;rw[aE]at ab;simp only[eF]at aa ab |-;cases b<;>simp[aa,ab]
   ·rename_i x y _ az aE;rw[az]at aa;rw[aE]at ab;simp only[eF]at aa ab |-;cases b<;>simp[aa,ab]
   ·trivial
  ·exact aj.elim
 case unOp op t x=>
  simp only[cF]at aj;split at aj;·rename_i b ai;exact done (v:=.bool (!b)) (x:=.lit (!b)) (by simp[execOp,Mt aJ ai,Op.unary]) rfl aj
  ·rename_i b ai;exact hx (v:=.bool (!b)) (by simp[execOp,tR aJ ai,Op.unary]) aj
  ·rename_i k n ai;obtain⟨r,ak,af⟩:=aj;exact hx (v:=.int k r) (by simp only[execOp,tR aJ ai,Op.unary,Op.intArith,ak];simp) af
  ·exact Or.inl aj
 case binOp op t x y ty'=>
  simp only[cF]at aj;by_cases ae:∃ lH w5,bB F x=.val lH/\bB F y=.val w5
  ·obtain⟨lH,w5,ae,aF⟩:=ae;have fin:∀ r,(∀ w,(do eqGuard op t x y lH w5;binOp op t lH w5:Sem Value).run X.P w=.ok r w)->yz (.val r)->(other\/∃ v kc,(execOp a.eval ⟨dst,.binOp op t x y ty',ty,pos,after,guard⟩).run X.P w=.ok (.value v) w/\eF β kc v/\yz kc):=λr ak af=>by refine hx (v:=r) ?_ af;have:=ak w;rw[<-dh aJ ae,<-dh aJ aF]at this;simp only[execOp];simp only[cm]at this |-;rw[this];rfl
   rcases adt aN op t x y _ _ lH w5 ae aF _ _ aj with(⟨pW,fa,r,aD,aM,ak,af⟩ | aa) | ⟨r,ak,af⟩;·rw[show dR (dq F) x=bB F x from rfl,ae]at aD;rw[show dR (dq F) y=bB F y from rfl,aF]at aM;cases aD;cases aM;exact fin r ak af
   ·exact Or.inl aa
   ·exact fin r ak af
  ·unfold lj at aj;split at aj
   ·rename_i az aE;exact(ae ⟨_,_,az,aE⟩).elim
   ·rename_i az aE;exact(ae ⟨_,_,az,aE⟩).elim
   ·rename_i az aE;exact(ae ⟨_,_,az,aE⟩).elim
   ·rcases aj with⟨pW,fa,r,aD,aM,ak,af⟩ | aa
    ·exact(ae ⟨_,_,aD,aM⟩).elim
    ·exact Or.inl aa
 case load t x=>
  simp only[cF]at aj;split at aj
  ·rename_i i hi;split at aj
   ·rename_i s off ae;have kK:=Ah aJ ae;split at aj
    ·rename_i cs ap;cases bs:Nat.ble (off+i.size) cs.length with
     |false=>rw[bs]at aj;exact aj.elim| true=>rw[bs]at aj;have vd:=bS bs;obtain⟨T,bp⟩:=(h.ck s cs ap).aO;refine hx (v:=pack i.bE.agg ((cs.drop off).take i.size)) ?_ aj;have:=IA (aN _ _ hi) (a:=⟨β s,off,none⟩) rfl bp (vs:=(cs.drop off).take i.size) (by simp) (by simp;omega);simp[execOp,Instr.loadAt,Instr.sureAddr,kK,this]
    ·exact aj.elim
   ·rename_i ad ae;have kK:=tR aJ ae;obtain⟨vs,⟨ch,cs,T,al,dS,h7,av⟩,af⟩:=aj;refine hx (v:=pack i.bE.agg vs) ?_ af;have:=IA (aN _ _ hi) ch (dS.heap h.holds) h7 av;simp[execOp,Instr.loadAt,Instr.sureAddr,kK,this]
   ·exact aj.elim
  ·exact aj.elim
 case nilCheck x=>
  simp only[cF]at aj;split at aj;·rename_i s off ae;exact done (v:=.pointer (some ⟨β s,off,none⟩)) (x:=.ref s off) (by simp[execOp,Ah aJ ae]) rfl aj
  ·rename_i ad ae;exact hx (v:=.pointer (some ad)) (by simp[execOp,tR aJ ae]) aj
  ·exact Or.inl aj
 case fieldAddr t x i=>
  simp only[cF]at aj;split at aj
  ·rename_i sz hU z cE ay;obtain⟨fields,hu,rfl⟩:=(aN _ _ ay).struct;split at aj
   ·rename_i l9 off nl;obtain⟨f,ve,rfl,rfl⟩:=S' nl;split at aj
    ·rename_i g2 s o' ma ae;cases bf:Nat.beq g2.size 0 with
     |true=>rw[bf]at aj;exact aj.elim
     |false=>
      rw[bf]at aj;have g5:g2.size≠0:=λe=>by rw[e]at bf;cases bf
      refine done (v:=.pointer (some ⟨β s,o'+f.offset,none⟩)) (x:=.ref s (o'+f.offset)) ?_ rfl aj;simp[execOp,Instr.fieldAt,run_underlying hu,ve,Ah aJ ae,Instr.sureAddr,fieldPlace,(aN _ _ ma).run_sizeOf,g5,dL]
    ·rename_i g2 ad ma ae;cases bf:Nat.beq g2.size 0 with
     |true=>rw[bf]at aj;exact aj.elim
     |false=>
      rw[bf]at aj;have g5:g2.size≠0:=λe=>by rw[e]at bf;cases bf
      refine hx (v:=.pointer (some (ad.add f.offset))) ?_ aj;simp[execOp,Instr.fieldAt,run_underlying hu,ve,tR aJ ae,Instr.sureAddr,fieldPlace,(aN _ _ ma).run_sizeOf,g5]
    ·exact aj.elim
   ·exact aj.elim
  ·exact aj.elim
 case field t x i=>
  simp only[cF]at aj;split at aj
  ·rename_i sz hU z cE cs ay ae;obtain⟨fields,hu,rfl⟩:=(aN _ _ ay).struct;split at aj
   ·rename_i l9 off nl;obtain⟨f,ve,rfl,rfl⟩:=S' nl;split at aj
    ·rename_i g2 ma;cases bf:Nat.ble (f.offset+g2.size) cs.size with
     |false=>rw[bf]at aj;exact aj.elim| true=>rw[bf]at aj;refine hx ?_ aj;simp[execOp,Instr.field,run_underlying hu,ve,dh aJ ae,asAgg,MA (aN _ _ ma) (bS bf)]
    ·exact aj.elim
   ·exact aj.elim
  ·exact aj.elim
 case indexAddr t x i=>
  simp only[cF]at aj;split at aj
  ·rename_i sz hU z e fG k ay hi;have hu:=(aN _ _ ay).slice;split at aj
   ·rename_i aH bY n c hy ae;obtain⟨ad,j,rfl,rfl,an,af⟩:=aj;refine hx ?_ af;simp[execOp,dh aJ ae,dh aJ hi,adv hu (aN _ _ hy) an]
   ·exact aj.elim
  ·rename_i sz hU z n e fG k ay hi;have hu:=(aN _ _ ay).array;split at aj
   ·rename_i aH s o' hy ae;obtain⟨j,rfl,an,af⟩:=aj;refine done (v:=.pointer (some ⟨β s,o'+j*aH.size,none⟩)) (x:=.ref s (o'+j*aH.size)) ?_ rfl af;simp[execOp,Ah aJ ae,dh aJ hi,Ta hu (aN _ _ hy) an,dL]
   ·rename_i aH ad hy ae;obtain⟨j,rfl,an,af⟩:=aj;refine hx ?_ af;simp[execOp,tR aJ ae,dh aJ hi,Ta hu (aN _ _ hy) an]
   ·exact aj.elim
  ·exact aj.elim
 case index t x i=>
  simp only[cF]at aj;split at aj;·rename_i sz hU z s fG k ay ae hi;have hu:=(aN _ _ ay).string;obtain⟨j,rfl,an,af⟩:=aj;refine hx ?_ af;simp only[execOp,dh aJ ae,dh aJ hi,Instr.index,cm,n4,b3,run_underlying hu];rw[cn (by omega:(0:Int)<=j)];simp[an]
  ·rename_i sz hU z n e cs fG k ay ae hi;have hu:=(aN _ _ ay).array;split at aj
   ·rename_i aH hy;cases bf:Nat.beq (n*aH.size) cs.size with
    |false=>rw[bf]at aj;exact aj.elim
    |true=>
     rw[bf]at aj;obtain⟨j,rfl,an,af⟩:=aj;have g5:=c6 bf;refine hx ?_ af;have bs:j*aH.size+aH.size<=cs.size:=by rw[<-g5,<-Nat.succ_mul];exact rH _ an
     simp only[execOp,dh aJ ae,dh aJ hi,Instr.index,cm,n4,b3,run_underlying hu];rw[cn ⟨by omega,by omega⟩];simp[(aN _ _ hy).run_sizeOf,MA (aN _ _ hy) bs]
   ·exact aj.elim
  ·exact aj.elim
 case build t parts=>
  simp only[cF]at aj;split at aj
  ·rename_i i vs hi h7;have aD:=Ix aJ h7;have yA:(parts.map λ(i,x)=>(i,a.eval x)).toList=vs:=by simpa using aD
   obtain⟨z,bf,w6⟩:=(aN _ _ hi).EX w;have Cn:z.cells=i.zero.toArray:=by rw[<-w6]
   split at aj
   ·rename_i cE np;cases bj:Ci X.E cE with
    |false=>rw[bj]at aj;exact aj.elim
    |true=>
     rw[bj]at aj;simp only[bl]at aj;split at aj
     ·rename_i cells vf;obtain⟨sz,hU,adw,bE⟩:=i;simp only at np;subst np;obtain⟨fields,hu,rfl⟩:=(aN _ _ hi).struct;obtain⟨l,av,jf⟩:=Tb aN w fields.toList bj;refine hx ?_ aj;have hm:(fields.mapM λf=>(do pure (f.offset,<-sizeOf f.type):Sem (Nat×Nat))).run X.P w=.ok l.toArray w:=by rw[SV,Sem.run_map,av];rfl
      have vg:=fill_eq _ _ _ _ vf;have adx:(λj=>l.toArray[j]?)=places X.E (fields.toList.map λf=>(f.type,f.offset)):=by funext j;rw[<-jf j];simp
      simp only[execOp,Instr.build,cm,bf,b3,run_underlying hu,Cn,yA];rw[hm];simp only[b3,adx,vg,c9]
     ·exact aj.elim
   ·rename_i n e np;split at aj
    ·rename_i aH hy;split at aj
     ·rename_i cells vf;obtain⟨sz,hU,adw,bE⟩:=i;simp only at np;subst np;have hu:=(aN _ _ hi).array;refine hx ?_ aj;have vg:=fill_eq _ _ _ _ vf;simp only[execOp,Instr.build,cm,bf,b3,run_underlying hu,Cn,yA,(aN _ _ hy).run_sizeOf,vg,c9]
     ·exact aj.elim
    ·exact aj.elim
   ·exact aj.elim
  ·exact aj.elim
 case makeFunc fn first captured=>
  simp only[cF]at aj;split at aj
  ·rename_i cE cs aa ab;have az:=sJ aJ aa;have aE:=sJ aJ ab;refine hx ?_ aj;have ei:first.map a.eval=cE.toArray:=by apply gO;simpa using az
   have eC:captured.map a.eval=cs.toArray:=by apply gO;simpa using aE
   simp[execOp,Instr.makeFunc,ei,eC]
  ·exact aj.elim
 case slice t x lo hi mx=>
  simp only[cF]at aj;split at aj
  ·rename_i sz hU z e bY n c ay ae;have hu:=(aN _ _ ay).slice;have kK:=dh aJ ae;split at aj
   ·rename_i aH hy e9 fY;have w7:lo=none:=by simpa using e9
    have Aj:hi=none:=by simpa using fY
    subst w7;subst Aj;refine hx ?_ aj;have az:(if c=0 then bY else bY.map (·.add (0*aH.size)))=bY:=by split<;>cases bY<;>simp[Addr.add]
    simp[execOp,Instr.sliceAt,Instr.slice,Instr.sliceBounds,kK,run_underlying hu,(aN _ _ hy).run_sizeOf,Addr.add]
   ·rename_i aH fG kL hy e9 fY;have w7:lo=none:=by simpa using e9
    subst w7;obtain⟨IC,rfl,br⟩:=u6.1 fY;obtain⟨l,ab,Co,rfl,bs,sN,af⟩:=aj;refine hx ?_ af;simp only[execOp,Instr.sliceAt,Instr.slice,Instr.sliceBounds,Instr.sliceBound,kK,cm,run_underlying hu,b3,(aN _ _ hy).run_sizeOf,c9,ka,yx,dh aJ br,n4];rw[cn ⟨by omega,by omega⟩];simp[Addr.add]
   ·rename_i aH fG ID hy e9 fY;have Aj:hi=none:=by simpa using fY
    subst Aj;obtain⟨MB,rfl,br⟩:=u6.1 e9;obtain⟨l,ab,rfl,Ak,bs,sN,af⟩:=aj;simp only[tL,jS]at *;refine hx ?_ af;simp only[execOp,Instr.sliceAt,Instr.slice,Instr.sliceBounds,Instr.sliceBound,kK,cm,run_underlying hu,b3,(aN _ _ hy).run_sizeOf,c9,ka,yx,dh aJ br,n4];rw[cn ⟨by omega,by omega⟩];simp
   ·rename_i aH fG ID ady kL hy e9 fY;obtain⟨MB,rfl,br⟩:=u6.1 e9;obtain⟨IC,rfl,Al⟩:=u6.1 fY;obtain⟨l,ab,rfl,rfl,bs,sN,af⟩:=aj;refine hx ?_ af;simp only[execOp,Instr.sliceAt,Instr.slice,Instr.sliceBounds,Instr.sliceBound,kK,cm,run_underlying hu,b3,(aN _ _ hy).run_sizeOf,c9,ka,yx,dh aJ br,dh aJ Al,n4];rw[cn ⟨by omega,by omega⟩];simp only[c9,b3,qK];rw[cn ⟨by omega,by omega⟩];simp
   ·exact aj.elim
  ·rename_i sz hU z s ay ae;have hu:=(aN _ _ ay).string;have kK:=dh aJ ae;split at aj
   ·rename_i e9 fY;have w7:lo=none:=by simpa using e9
    have Aj:hi=none:=by simpa using fY
    subst w7;subst Aj;refine hx ?_ aj;have az:s.extract 0 s.size=s:=by apply tM;simp[Ik]
    simp[execOp,Instr.sliceAt,Instr.slice,Instr.sliceBounds,kK,run_underlying hu,az]
   ·rename_i fG kL e9 fY;have w7:lo=none:=by simpa using e9
    subst w7;obtain⟨IC,rfl,br⟩:=u6.1 fY;obtain⟨l,ab,Co,rfl,bs,sN,af⟩:=aj;refine hx ?_ af;simp only[execOp,Instr.sliceAt,Instr.slice,Instr.sliceBounds,Instr.sliceBound,kK,cm,run_underlying hu,b3,c9,ka,yx,dh aJ br,n4];simp only[Mo,kG,lG,cm,c9,b3,n4];rw[cn ⟨by omega,by omega⟩];simp
   ·rename_i fG ID e9 fY;have Aj:hi=none:=by simpa using fY
    subst Aj;obtain⟨MB,rfl,br⟩:=u6.1 e9;obtain⟨l,ab,rfl,Ak,bs,sN,af⟩:=aj;simp only[tL,jS]at *;refine hx ?_ af;simp only[execOp,Instr.sliceAt,Instr.slice,Instr.sliceBounds,Instr.sliceBound,kK,cm,run_underlying hu,b3,c9,ka,yx,dh aJ br,n4];simp only[Mo,kG,lG,cm,c9,b3,n4];rw[cn ⟨by omega,by omega⟩];simp
   ·rename_i fG ID ady kL e9 fY;obtain⟨MB,rfl,br⟩:=u6.1 e9;obtain⟨IC,rfl,Al⟩:=u6.1 fY;obtain⟨l,ab,rfl,rfl,bs,sN,af⟩:=aj;refine hx ?_ af;simp only[execOp,Instr.sliceAt,Instr.slice,Instr.sliceBounds,Instr.sliceBound,kK,cm,run_underlying hu,b3,c9,ka,yx,dh aJ br,dh aJ Al,n4];simp only[Mo,kG,lG,cm,c9,b3,n4];rw[cn ⟨by omega,by omega⟩];simp only[c9,b3,qK];rw[cn ⟨by omega,by omega⟩];simp
   ·exact aj.elim
  ·exact Or.inl aj
 case extract x i=>
  simp only[cF]at aj;split at aj
  ·rename_i vs ae;split at aj
   ·rename_i v hi;refine hx ?_ aj;have c7:vs[i]?=some v:=by simpa using hi
    simp[execOp,Instr.extract,dh aJ ae,c7]
   ·exact aj.elim
  ·exact aj.elim
 case convert s d x=>
  simp only[cF]at aj;split at aj;·rename_i ar5 sz hU z k dJ n ap ay ae;have hu:=(aN _ _ ay).int;obtain⟨ds,fA,_⟩:=(aN _ _ ap).fi;obtain⟨r,ak,af⟩:=aj;refine hx ?_ af;simp only[execOp,convert,dh aJ ae,cm,run_underlying fA,run_underlying hu,b3];simp only[Conv.intToInt,ak,c9,b3]
  ·exact Or.inl aj
 case call c=>
  obtain⟨callee,args,argTypes⟩:=c;cases callee with
  |value f=>exact .inl aj| invoke r m=>exact .inl aj
  |builtin b=>
   cases b
   case len=>
    simp only[cF]at aj;split at aj
    ·rename_i t v aa ab;have az:=sJ aJ ab;have ei:args.map a.eval=#[v]:=by apply gO;simpa using az
     have ay:argTypes=#[t]:=by apply gO;simpa using aa
     subst ay;split at aj;·rename_i sz hU z e ad n c bp;have hu:=(aN _ _ bp).slice;refine hx ?_ aj;simp[execOp,resolve,invoke,builtin,Builtin.len_,ei,run_underlying hu,goInt]
     ·rename_i sz hU z s bp;have hu:=(aN _ _ bp).string;refine hx ?_ aj;simp[execOp,resolve,invoke,builtin,Builtin.len_,ei,run_underlying hu,goInt]
     ·rename_i sz hU z n e bp;have hu:=(aN _ _ bp).array;refine hx ?_ aj;simp[execOp,resolve,invoke,builtin,Builtin.len_,ei,run_underlying hu,goInt]
     ·exact Or.inl aj
    ·exact Or.inl aj
   case cap=>
    simp only[cF]at aj;split at aj
    ·rename_i t v aa ab;have az:=sJ aJ ab;have ei:args.map a.eval=#[v]:=by apply gO;simpa using az
     have ay:argTypes=#[t]:=by apply gO;simpa using aa
     subst ay;split at aj;·rename_i sz hU z e ad n c bp;have hu:=(aN _ _ bp).slice;refine hx ?_ aj;simp[execOp,resolve,invoke,builtin,Builtin.cap_,ei,run_underlying hu,goInt]
     ·exact Or.inl aj
    ·exact Or.inl aj
   case max=>
    simp only[cF]at aj;split at aj
    ·rename_i k p dJ q ab;have az:=sJ aJ ab;have ei:args.map a.eval=#[.int k p,.int dJ q]:=by apply gO;simpa using az
     refine hx ?_ aj;have hm:(if q > p then q else p)=max p q:=by split<;>omega
     simp only[execOp,resolve,invoke,builtin,Builtin.max_,Builtin.max2,ei,cm,c9,b3,List.foldlM_cons,List.foldlM_nil,hm]
    ·exact Or.inl aj
   case min=>
    simp only[cF]at aj;split at aj
    ·rename_i k p dJ q ab;have az:=sJ aJ ab;have ei:args.map a.eval=#[.int k p,.int dJ q]:=by apply gO;simpa using az
     refine hx ?_ aj;have hm:(if q<p then q else p)=min p q:=by split<;>omega
     simp only[execOp,resolve,invoke,builtin,Builtin.min_,Builtin.min2,ei,cm,c9,b3,List.foldlM_cons,List.foldlM_nil,hm]
    ·exact Or.inl aj
   case unsafeSliceData=>
    simp only[cF]at aj;split at aj
    ·rename_i n c ab;have az:=sJ aJ ab;have ei:args.map a.eval=#[.slice none n c]:=by apply gO;simpa using az
     refine hx ?_ aj;simp only[execOp,resolve,invoke,builtin,ei,cm,c9,b3,Lib.run_unsafeSliceData_nil]
    ·rename_i ad n c ab;obtain⟨ag,aj⟩:=aj;have az:=sJ aJ ab;have ei:args.map a.eval=#[.slice (some ad) n c]:=by apply gO;simpa using az
     refine hx ?_ aj;simp only[execOp,resolve,invoke,builtin,ei,cm,c9,b3,Lib.run_unsafeSliceData_row _ _ _ _ _ _ (show c≠0 by omega)]
    ·exact Or.inl aj
   all_goals exact .inl aj
 all_goals exact .inl aj
def Cp(aN:c2 X.P X.E)(ah:∀ d,o.dst=some d->d<X.n)(h:Rel X a w F C I M)(aj:gQ X o F C I M K):o.wpIn (gP X) 0 X.P a w (Sat X K) Q:=by
 have a5:=h;obtain⟨β,h⟩:=h;obtain⟨dst,op,ty,pos,after,guard⟩:=o;have other:bn X ⟨dst,op,ty,pos,after,guard⟩ F C I M K->(⟨dst,op,ty,pos,after,guard⟩:Oper).wpIn (gP X) 0 X.P a w (Sat X K) Q:=λ⟨h⟩=>h a w Q a5;have aJ:=h.al;have quiet:cF X op (dq F) C I M (λx=>K (Go.V.put dst x F) C I M) (bn X ⟨dst,op,ty,pos,after,guard⟩ F C I M K)->(∀ c,op≠.defer c)->(⟨dst,op,ty,pos,after,guard⟩:Oper).wpIn (gP X) 0 X.P a w (Sat X K) Q:=λaM cg=>by
  rcases Tc aN h op ty dst pos after guard aM with aa | ⟨v,x,ak,ae,af⟩;·exact other aa
  ·exact S3 (o:=⟨dst,op,ty,pos,after,guard⟩) h ah cg ak ae af
 cases op
 case box t x=>
  simp only[gQ]at aj;split at aj
  ·rename_i d v ae;have kK:=dh aJ ae;have ak:(execOp a.eval ⟨some d,.box t x,ty,pos,after,guard⟩).run X.P w=.ok (.value (.pointer (some ⟨w.heap.size,0,none⟩))) (w.alloc (.cells v.cells t (0,0))):=by simp[execOp,Instr.box,newVar,newRow,kK,Ad]
   have gE:d<X.n:=ah d rfl;cases jU:X.gC.contains d with
   |true=>rw[jU]at aj;obtain⟨aj⟩:=aj;have af:=aj w.heap.size h.holds.rL h.holds.qO;have aa:=(h.o0 (.cells v.cells t (0,0))).Mx d;exact il (by simp) ak ⟨_,_,_,_,⟨β,cV.put aa (dst:=some d) (x:=.val (.pointer (some ⟨w.heap.size,0,none⟩))) (by simpa using gE) rfl⟩,af⟩
   |false=>rw[jU]at aj;obtain⟨n3,aa⟩:=h.SZ d gE v.cells.toList t;exact il (by simp) ak ⟨_,_,_,_,⟨n3,by simpa using aa⟩,aj⟩
  ·exact aj.elim
 case alloc t=>
  simp only[gQ]at aj;split at aj
  ·rename_i d i hi;obtain⟨z,bf,w6⟩:=(aN _ _ hi).EX w;have Cn:z.cells=i.zero.toArray:=by rw[<-w6]
   have ak:(execOp a.eval ⟨some d,.alloc t,ty,pos,after,guard⟩).run X.P w=.ok (.value (.pointer (some ⟨w.heap.size,0,none⟩))) (w.alloc (.cells i.zero.toArray t (0,0))):=by simp[execOp,Instr.alloc,newVar,newRow,bf,Cn,Ad]
   have gE:d<X.n:=ah d rfl;cases jU:X.gC.contains d with
   |true=>rw[jU]at aj;obtain⟨aj⟩:=aj;have af:=aj w.heap.size h.holds.rL h.holds.qO;have aa:=(h.o0 (.cells i.zero.toArray t (0,0))).Mx d;exact il (by simp) ak ⟨_,_,_,_,⟨β,cV.put aa (dst:=some d) (x:=.val (.pointer (some ⟨w.heap.size,0,none⟩))) (by simpa using gE) rfl⟩,af⟩
   |false=>rw[jU]at aj;obtain⟨n3,aa⟩:=h.SZ d gE i.zero t;exact il (by simp) ak ⟨_,_,_,_,⟨n3,aa⟩,aj⟩
  ·exact aj.elim
 case store t x y=>
  simp only[gQ]at aj;split at aj
  ·rename_i i v hi aF;have vh:=dh aJ aF;split at aj
   ·rename_i s off ae;have kK:=Ah aJ ae;split at aj
    ·rename_i cs ap;cases bs:(Nat.ble (off+i.size) cs.length&&(Nat.beq v.cells.size i.size&&fO v.cells.toList))with
     |false=>rw[bs]at aj;exact aj.elim| true=>rw[bs]at aj;simp only[b']at bs;obtain⟨bs,df,ll⟩:=bs;have vd:=bS bs;have Am:=c6 df;obtain⟨T,bp⟩:=(h.ck s cs ap).aO;have:=IB (aN _ _ hi) (a:=⟨β s,off,none⟩) (v:=v) rfl bp Am (by simp;omega) ll;refine Cj (by simp) (w':=w.setRow (β s) (bo cs off v.cells.toList).toArray) ?_ ⟨_,_,_,_,⟨β,h.S1 ap (bo cs off v.cells.toList)⟩,aj⟩;simp only[execOp,Instr.storeAt,kK,vh,Instr.sureAddr,cm,c9,b3];simp only[ER]at this;rw[this];rfl
    ·exact aj.elim
   ·rename_i ad ae;have kK:=tR aJ ae;cases df:Nat.beq v.cells.size i.size with
    |false=>rw[df]at aj;exact aj.elim| true=>rw[df]at aj;obtain⟨bc,post,cs,T,a1,ch,ai,ll,af⟩:=aj;have Am:=c6 df;have au:w.heap[ad.block]?=some (.cells cs T (0,0)):=h.holds.m ⟨ad.block,.cells cs T (0,0)⟩ (by rw[a1];simp);have:=IB (aN _ _ hi) (v:=v) ch au Am ai ll;refine Cj (by simp) (w':=w.setRow ad.block (bo cs.toList ad.off v.cells.toList).toArray) ?_ ⟨_,_,_,_,⟨β,h.vb a1⟩,af⟩;simp only[execOp,Instr.storeAt,kK,vh,Instr.sureAddr,cm,c9,b3];rw[this];rfl
   ·exact aj.elim
  ·exact aj.elim
 case buildSlice t len parts=>
  simp only[gQ]at aj;split at aj
  ·rename_i sz hU z e vs ay h7;have hu:=(aN _ _ ay).slice;have aD:=Ix aJ h7;have yA:(parts.map λ(i,x)=>(i,a.eval x)).toList=vs:=by simpa using aD
   split at aj
   ·rename_i aH hy;cases bf:(Nat.ble (len*aH.size) 16777216&&Nat.blt 0 (len*aH.size))with
    |false=>
     rw[bf]at aj;simp only[bh]at aj;split at aj
     ·rename_i adz;obtain⟨aj⟩:=aj;have af:=aj w.heap.size h.holds.rL h.holds.qO;refine il (by simp) (v:=.slice (some ⟨w.heap.size,0,none⟩) 0 0) (w':=w.alloc (.cells #[] e (0,0))) ?_ ⟨_,_,_,_,⟨β,(h.o0 _).put (x:=.val (.slice (some ⟨w.heap.size,0,none⟩) 0 0)) ah rfl⟩,af⟩;simp only[execOp,Instr.buildSlice,cm,b3,run_underlying hu,(aN _ _ hy).run_sizeOf,yA];have cG:∀ f:Nat->Value,Array.map f (Array.range 0)=#[]:=λf=>by apply Array.ext<;>simp
      simp[newRow,Ad,Instr.fill,cG]
     ·exact aj.elim
    |true=>
     rw[bf]at aj;simp only[bl]at aj;rw[b']at bf;have bs:=bS bf.1;have jV:0<len*aH.size:=by simpa using bf.2
     split at aj;·rename_i cells vf;obtain⟨sO,An,w6⟩:=(aN _ _ hy).EX w;obtain⟨aj⟩:=aj;have af:=aj w.heap.size h.holds.rL h.holds.qO;refine il (by simp) (v:=.slice (some ⟨w.heap.size,0,none⟩) len len) (w':=w.alloc (.cells cells.toArray e (0,0))) ?_ ⟨_,_,_,_,⟨β,(h.o0 _).put (x:=.val (.slice (some ⟨w.heap.size,0,none⟩) len len)) ah rfl⟩,af⟩;have vg:=fill_eq _ _ _ _ vf;simp only[execOp,Instr.buildSlice,cm,b3,run_underlying hu,(aN _ _ hy).run_sizeOf];rw[cb (by omega)];simp only[cb (show ¬ len*aH.size=0 by omega),cm,An,b3,c9,yA,S9 sO aH.zero w6,vg];simp[newRow,Ad]
     ·exact aj.elim
   ·exact aj.elim
  ·exact aj.elim
 case makeSlice t l c=>
  simp only[gQ]at aj;split at aj
  ·rename_i sz hU z e iR cR gR c' ay av aA;have hu:=(aN _ _ ay).slice;split at aj
   ·rename_i aH hy;obtain⟨n,m,rfl,rfl,n6,ai,hm,⟨aj⟩⟩:=aj;have af:=aj w.heap.size h.holds.rL h.holds.qO;obtain⟨inf,sO,fb,hV,iq,kM,Ao⟩:=(aN _ _ hy).inf;refine il (by simp) (v:=.slice (some ⟨w.heap.size,0,none⟩) n m) (w':=w.alloc (.cells (rowOf aH.zero (m*aH.size)).toArray e (0,0))) ?_ ⟨_,_,_,_,⟨β,(h.o0 _).put (x:=.val (.slice (some ⟨w.heap.size,0,none⟩) n m)) ah rfl⟩,af⟩;have gq:((aH.bytes:Nat):Int)*(m:Int)<=281474976710656:=by
     have ab:((aH.bytes*m:Nat):Int)<=281474976710656:=by omega
     simpa using ab
    have:=run_make (P:=X.P) w t e inf sO hu fb kM iR gR (n:Int) (m:Int) (by omega) (by omega) (by rw[iq];exact gq) (by omega);simp only[execOp,dh aJ av,dh aJ aA,cm,this,b3,c9,qK];have az:madeCells sO.cells (m*inf.size)=(rowOf aH.zero (m*aH.size)).toArray:=by rw[hV,<-Ao];simp[w1]
    rw[az]
   ·exact aj.elim
  ·exact aj.elim
 case call c=>
  obtain⟨callee,args,argTypes⟩:=c;cases callee with
  |value f=>
   simp only[gQ]at aj;split at aj
   ·rename_i g first cap vs yB h7
    have az:=sJ aJ h7;have ei:args.map a.eval=vs.toArray:=by apply gO;simpa using az
    have eV:∀ {n:Next} {w':World},(callFunc g (first.toList++vs++cap.toList).toArray).run X.P w=.ok n w'->(execOp a.eval ⟨dst,.call { callee:=.value f,args,argTypes },ty,pos,after,guard⟩).run X.P w=.ok n w':=λak=>by simp only[execOp,resolve,dh aJ yB,Deferred.ofValue,cm,c9,b3,ei,invoke];rw[show first++vs.toArray++cap=(first.toList++vs++cap.toList).toArray from by apply gO;simp];exact ak
    rcases h.call aj with⟨pX,Ap⟩ | ⟨v,w',I',M',ak,af,gZ⟩;·refine S8 (by simp) (f:=g) (args:=(first.toList++vs++cap.toList).toArray) (eV (pX _ _)) ?_;refine Ap.mono ?_;rintro e w'⟨v,I',M',rfl,af,ak⟩;exact⟨v,rfl,_,_,_,_,⟨β,ak.put (x:=.val v) ah rfl⟩,af⟩
    ·exact il (by simp) (eV ak) ⟨_,_,_,_,⟨β,gZ.put (x:=.val v) ah rfl⟩,af⟩
   ·exact other aj
  |invoke r m=>exact quiet aj (by simp)
  |builtin b=>
   cases b
   all_goals exact quiet aj (by simp)
 case defer c=>exact other aj
 all_goals exact quiet aj (by simp)
end
section
variable{X:c3}{β:Nat->Nat}{a:Act}{w:World}{F:Fr}{C:dp}{I:aZ}{M:List aB}{o:Oper}{Q:Exit->Act->World->Prop}{K:fX}
def Cq{d:Nat}{c:Bool}(h:a.tmps.getD d undef=.bool c):a.tmps[d]?=some (.bool c):=by
 rw[oV]at h;cases ah:a.tmps[d]? with
 |none=>rw[ah]at h;cases h| some v=>rw[ah]at h;simp at h;rw[h]
def E0{ops:Array Oper}{j d:Nat}(ah:(ops[j]?).bind (·.dst)=some d)(tmps:Array Value):yielded ops tmps j=match tmps[d]? with
  |some (.bool b)=>some b| _=>none:=by
 unfold yielded;rw[ah];rfl
def cV.refine(h:cV X β a w F C I M){cH:Fr}(bU:∀ t,eF β (cH t) (a.tmps.getD t undef)):cV X β a w cH C I M:={ h with al:=bU }
def Td(aN:c2 X.P X.E)(ops:Array Oper)(tS:∀ a w,Sat X K a w->Q .normal a w):∀ (l:List Oper) (k:Nat),(∀ j,l[j]?=ops[k+j]?)->(∀ o∈l,∀ d,o.dst=some d->d<X.n) -> ∀ {F C I M a w},Rel X a w F C I M->tQ X ops.toList l F C I M K->wpOpsIn (gP X) 0 X.P ops Q (List.range' k l.length) a w
 |[],k,_,_,F,C,I,M,a,w,a5,aj=>tS _ _ ⟨F,C,I,M,a5,aj⟩
 |o::bb,k,av,ah,F,C,I,M,a,w,a5,aj=>by
  have ar:ops[k]?=some o:=by simpa using(av 0).symm
  have kd:∀ j,bb[j]?=ops[k+1+j]?:=λj=>by have:=av (j+1);simpa[qL,Cg 1 j]using this
  have hd:∀ o∈bb,∀ d,o.dst=some d->d<X.n:=λo aw=>ah o (by simp[aw]);have yC:=ah o (by simp);have a7:=@Td aN ops tS bb (k+1) kd hd;simp only[ea,Io,wpOpsIn,ar];have run:∀ {F C I M},Rel X a w F C I M->gQ X o F C I M (λF C I M=>tQ X ops.toList bb F C I M K)->o.wpIn (gP X) 0 X.P a w (wpOpsIn (gP X) 0 X.P ops Q (List.range' (k+1) bb.length)) Q:=λa5 aj=>
   sE (λbY w' ⟨cH,C',I',M',ak,af⟩=>a7 ak af) (Cp aN yC a5 aj)
  have skip:∀ {F C I M},Rel X a w F C I M->tQ X ops.toList bb (put o.dst (.val undef) F) C I M K->(∀ f,o.about X.P w a.eval=some f->(gP X).fn f)/\wpOpsIn (gP X) 0 X.P ops Q (List.range' (k+1) bb.length) (a.put o.dst undef) w:=λ⟨β,ak⟩ aj=>
   ⟨λ_ _=>trivial,a7 ⟨β,ak.put (x:=.val undef) yC rfl⟩ aj⟩
  unfold tQ at aj;cases au:o.guard with
  |none=>
   rw[au]at aj;have hw:Region.wanted o (yielded ops a.tmps)=true:=by simp[Region.wanted,au]
   rw[cn hw];exact run a5 aj
  |some E1=>
   obtain⟨j,b⟩:=E1;rw[au]at aj;simp only at aj;cases an:(ops.toList[j]?).bind (·.dst)with
   |none=>rw[an]at aj;exact aj.elim
   |some d=>
    rw[an]at aj;simp only at aj;have hW:(ops[j]?).bind (·.dst)=some d:=by simpa using an
    have aF:=E0 hW a.tmps;obtain⟨β,ak⟩:=a5;have bU:=ak.al d;split at aj
    ·rename_i c aA;rw[aA]at bU;have Cr:=Cq bU;have E2:Region.wanted o (yielded ops a.tmps)=(c == b):=by simp[Region.wanted,au,aF,Cr]
     rw[E2];cases jg:(c == b)with
     |true=>rw[jg]at aj;simp only[pU];exact run ⟨β,ak⟩ aj| false=>rw[jg]at aj;simp only[kG,lG];exact skip ⟨β,ak⟩ aj
    ·rename_i c aA;rw[aA]at bU;have Cr:=Cq bU;have E2:Region.wanted o (yielded ops a.tmps)=(c == b):=by simp[Region.wanted,au,aF,Cr]
     rw[E2];obtain⟨IE,n7⟩:=aj;have set:∀ x:Bool,c=x->Rel X a w (fz F d (.lit x)) C I M:=λx ae=>⟨β,ak.refine λt=>by
      unfold fz;by_cases e:t=d;·subst e;simp only[qN,bl];rw[<-ae];exact bU
      ·simp only[g3 e,bh];exact ak.al t⟩
     by_cases jg:c=b
     ·have:(c == b)=true:=by simp[jg]
      rw[this];simp only[pU];exact run (set b jg) (IE jg)
     ·have ab:c=!b:=by cases c<;>cases b<;>simp_all
      have:(c == b)=false:=by simp[jg]
      rw[this];simp only[kG,lG];exact skip (set _ ab) (n7 ab)
    ·rename_i vs aA;rw[aA]at bU;have Aq:yielded ops a.tmps j=none:=by
      rw[aF];cases lI:a.tmps[d]? with
      |none=>rfl| some v=>simp only[eF,oV,lI,jS]at bU;subst bU;rfl
     have E2:Region.wanted o (yielded ops a.tmps)=false:=by simp[Region.wanted,au,Aq]
     rw[E2];simp only[kG,lG];exact skip ⟨β,ak⟩ aj
    ·exact aj.elim
end
inductive vi:dn->dn->Prop
 |refl{x}:vi x x| lit {b}:vi (.lit b) (.val (.bool b))| mG {x}:vi x .mG
def qR:List (Nat×dn)->Fr
 |[],_=>.mG|(t,x)::l,s=>bif Nat.beq s t then x else qR l s
def qS:List (Nat×List Value)->dp
 |[],_=>none|(t,x)::l,s=>bif Nat.beq s t then some x else qS l s
inductive kN(F:Fr):List (Nat×dn)->Prop
 |nil:kN F []| cons {t x l} (h:vi (F t) x) (k:kN F l):kN F ((t,x)::l)
inductive yD(C:dp):List (Nat×List Value)->Prop
 |nil:yD C []| cons {t x l} (h:C t=some x) (k:yD C l):yD C ((t,x)::l)
def adA{β:Nat->Nat}{x y:dn}(h:vi x y)(ae:eF β x v):eF β y v:=by
 cases h with
 |refl=>exact ae| lit=>exact ae| mG=>trivial
def kN.ok{β:Nat->Nat}{F:Fr}(h:∀ t,eF β (F t) (a.tmps.getD t undef)){l:List (Nat×dn)}(av:kN F l)(t:Nat):eF β (qR l t) (a.tmps.getD t undef):=by
 induction av with
 |nil=>trivial
 | @cons cZ x l ae k a7=>
  unfold qR;by_cases e:t=cZ;·subst e;simp only[qN,bl];exact adA ae (h t)
  ·simp only[g3 e,bh];exact a7
def yD.ok{C:dp}{l:List (Nat×List Value)}(av:yD C l){s:Nat}{cs:List Value}(h:qS l s=some cs):C s=some cs:=by
 induction av with
 |nil=>cases h
 | @cons cZ x l ae k a7=>
  unfold qS at h;by_cases e:s=cZ;·subst e;simp only[qN,bl]at h;rw[ae,h]
  ·simp only[g3 e,bh]at h;exact a7 h
def cV.be{X:c3}{β:Nat->Nat}{F:Fr}{C:dp}{I:aZ}{M:List aB}(h:cV X β a w F C I M){bu:List (Nat×dn)}{cl:List (Nat×List Value)}(bU:kN F bu)(pY:yD C cl):cV X β a w (qR bu) (qS cl) I M:=
 { h with
  al:=bU.ok h.al
  ck:=λs cs ap=>h.ck s cs (pY.ok ap)
  inj:=λs cc aa ab=>by
   obtain⟨fB,az⟩:=Ii.1 aa;obtain⟨fC,aE⟩:=Ii.1 ab;exact h.inj s cc (by rw[pY.ok az];simp) (by rw[pY.ok aE];simp) }
inductive tT where
 |normal| exit (id:Nat)| goto (l:Nat)| ret
abbrev ke:=tT->fX
def Ar(N:fX)(K:ke):ke
 | .normal=>N| .exit id=>K (.exit id)| .goto l=>K (.goto l)| .ret=>K .ret
def Te(id:Nat)(K:ke):ke
 | .normal=>K .normal| .exit j=>bif Nat.beq j id then K .normal else K (.exit j)| .goto l=>K (.goto l)| .ret=>K .ret
def mb(X:c3)(K:ke):Exit->Act->World->Prop
 | .normal,a,w=>Sat X (K .normal) a w| .exit id,a,w=>Sat X (K (.exit id)) a w| .goto l,a,w=>Sat X (K (.goto l)) a w| .ret,a,w=>Sat X (K .ret) a w| .panic _,_,_=>False| .outgrown,_,_=>False
abbrev Body:=Fr->dp->aZ->List aB->ke->Prop
structure vj where
 bu:List (Nat×dn)
 cl:List (Nat×List Value):=[]
 cS:aZ
 db:List aB:=[]
inductive o2{ι:Type}(cq:List Nat)(aG:ι->vj)(p:ι->Prop)(F:Fr)(C:dp)(I:aZ)(M:List aB):Prop
 |mk(j:ι)(aD:p j)(hw:jd cq I M (aG j).cS (aG j).db)(bU:kN F (aG j).bu)(pY:yD C (aG j).cl)
def MC(body:Body)(K:ke):Nat->fX
 |0=>λ_ _ _ _=>False
 |n+1=>λF C I M=>body F C I M (Ar (MC body K n) K)
inductive c4(cq:List Nat)(body:Body)(F:Fr)(C:dp)(I:aZ)(M:List aB)(K:ke):Prop
 |inv {ι:Type} (aG:ι->vj) (inv:ι->Prop) (μ:ι->Nat) (start:o2 cq aG inv F C I M) (round:∀ i,inv i->body (qR (aG i).bu) (qS (aG i).cl) (aG i).cS (aG i).db (Ar (o2 cq aG λj=>inv j/\μ j<μ i) K))| w8 (n:Nat) (h:MC body K n F C I M)| IF {ι:Type} (aG:ι->vj) (inv:ι->Prop) (μ:ι->Nat) (start:sG I M->o2 cq aG inv F C I M) (round:∀ i,inv i->body (qR (aG i).bu) (qS (aG i).cl) (aG i).cS (aG i).db (Ar (λF C I M=>sG I M->o2 cq aG (λj=>inv j/\μ j<μ i) F C I M) K))
inductive c5(X:c3)(c:Code)(F:Fr)(C:dp)(I:aZ)(M:List aB)(K:ke):Prop
 |mk(h:∀ a w,Rel X a w F C I M->c.wpIn (gP X) 0 X.P (mb X K) a w)
inductive adB(cq:List Nat)(F:Fr)(C:dp)(I:aZ)(M:List aB)(K:fX):Prop
 |go(h:K F C I M)| IG (l:vj) (hw:jd cq I M l.cS l.db) (bU:kN F l.bu) (pY:yD C l.cl) (h:K (qR l.bu) (qS l.cl) l.cS l.db)
def V(X:c3):Code->Fr->dp->aZ->List aB->ke->Prop
 | .skip,F,C,I,M,K=>K .normal F C I M| .label l,F,C,I,M,K=>bif Nat.ble 2 l then adB X.cq F C I M (K .normal)else K .normal F C I M| .ret,F,C,I,M,K=>K .ret F C I M| .exit id,F,C,I,M,K=>K (.exit id) F C I M| .goto l,F,C,I,M,K=>K (.goto l) F C I M| .seq x y,F,C,I,M,K=>V X x F C I M (Ar (λF C I M=>V X y F C I M K) K)| .block id c,F,C,I,M,K=>V X c F C I M (Te id K)
 | .cond c x y,F,C,I,M,K=>
  match dq F c with
  | .lit b=>bif b then V X x F C I M K else V X y F C I M K| .val (.bool b)=>aU b (V X x F C I M K) (V X y F C I M K)| _=>False
 | .loop c,F,C,I,M,K=>c4 X.cq (V X c) F C I M K| .region _ ops false,F,C,I,M,K=>tQ X ops.toList ops.toList F C I M (K .normal)| .region id ops true,F,C,I,M,K=>c5 X (.region id ops true) F C I M K| .rangeFunc f ps fc body,F,C,I,M,K=>c5 X (.rangeFunc f ps fc body) F C I M K| .scope c,F,C,I,M,K=>c5 X (.scope c) F C I M K| .refuse _,_,_,_,_,_=>False
def yE(n:Nat)(ops:Array Oper):Bool:=ops.toList.all λo=>match o.dst with
 |some d=>Nat.blt d n| none=>true
def codeOk(n:Nat):Code->Bool
 | .seq x y=>codeOk n x&&codeOk n y| .block _ c=>codeOk n c| .cond _ x y=>codeOk n x&&codeOk n y| .loop c=>codeOk n c| .region _ ops _=>yE n ops| _=>true
def IH{ops:Array Oper}(h:yE n ops=true):∀ o∈ops.toList,∀ d,o.dst=some d->d<n:=by intro o aw d ah;have:=eP.1 h o aw;rw[ah]at this;simpa using this
def mb.then{X:c3}{N:fX}{K:ke}(aq:∀ a w,Sat X N a w->next a w):∀ e a w,mb X (Ar N K) e a w->Exit.then next (mb X K) e a w:=by
 intro e a w h;cases e<;>first | exact aq _ _ h | exact h
def II{rN:Fence}(J:Nat->Act->World->Prop)(adC:J m a w)
  (round:∀ m a w,J m a w->c.wpIn rN n P (Exit.then (λbY w'=>∃ m',m'<m/\J m' bY w') Q) a w):(Code.loop c).wpIn rN n P Q a w:=by
 intro b k cs jW ai ak;have key:∀ j a w,J j a w->∃ e bY w',Q e bY w'/\ArrivesIn (Machine.fenced P rN) P (lone (b.atR a (.code c::.inLoop c::k)) cs w) b k cs e bY w':=by
  intro j
  induction j using Nat.strongRecOn with
  |_ j a7=>
   intro a w bA;obtain⟨e,jB,jC,aM,ir⟩:=round j a w bA b (.inLoop c::k) cs jW ai ak;cases e with
   |normal=>obtain⟨m',aR,adD⟩:=aM;obtain⟨E3,E4,E5,E6,E7⟩:=a7 m' aR jB jC adD;exact⟨E3,E4,E5,E6,.of_steps (StepsIn.trans ir (.one (fenced_calm ai ak rfl) stepR_inLoop)) E7⟩
   |exit id=>exact⟨_,jB,jC,aM,.pass (x:=.inLoop c) rfl (λ_ _=>.inl (by simp)) ir⟩| goto l=>exact⟨_,jB,jC,aM,.pass (x:=.inLoop c) rfl (λ_ _=>.inl (by simp)) ir⟩| ret=>exact⟨_,jB,jC,aM,.pass (x:=.inLoop c) rfl (λ_ _=>.inl (by simp)) ir⟩| panic yF=>exact⟨_,jB,jC,aM,.pass (x:=.inLoop c) rfl (λ_ _=>.inl (by simp)) ir⟩| outgrown=>exact⟨_,jB,jC,aM,.pass (x:=.inLoop c) rfl (λ_ _=>.inl (by simp)) ir⟩
 obtain⟨e,bY,w',aM,ir⟩:=key _ a w adC;exact⟨e,bY,w',aM,.of_steps (.one (fenced_calm ai ak rfl) stepR_loop) ir⟩
def qT{X:c3}(aN:c2 X.P X.E):∀ (c:Code) {F C I M K a w},codeOk X.n c=true->Rel X a w F C I M->V X c F C I M K->c.wpIn (gP X) 0 X.P (mb X K) a w
 | .skip,F,C,I,M,K,a,w,_,a5,aj=>wpIn_skip ⟨F,C,I,M,a5,aj⟩
 | .label l,F,C,I,M,K,a,w,_,a5,aj=>by
  refine wpIn_label ?_;simp only[V]at aj;cases av:Nat.ble 2 l with
  |false=>rw[av]at aj;exact⟨F,C,I,M,a5,aj⟩
  |true=>
   rw[av]at aj;simp only[bl]at aj;cases aj with
   |go h=>exact⟨F,C,I,M,a5,h⟩| IG l hw bU pY h=>obtain⟨β,ak⟩:=a5;exact⟨_,_,_,_,⟨β,(ak.be bU pY).h8 hw⟩,h⟩
 | .ret,F,C,I,M,K,a,w,_,a5,aj=>wpIn_ret ⟨F,C,I,M,a5,aj⟩| .exit id,F,C,I,M,K,a,w,_,a5,aj=>wpIn_exit ⟨F,C,I,M,a5,aj⟩| .goto l,F,C,I,M,K,a,w,_,a5,aj=>wpIn_goto ⟨F,C,I,M,a5,aj⟩| .seq x y,F,C,I,M,K,a,w,bj,a5,aj=>by simp only[codeOk,b']at bj;refine wpIn_seq (wpIn_mono (qT aN x bj.1 a5 aj) (mb.then ?_));rintro a w⟨cH,C',I',M',ak,af⟩;exact qT aN y bj.2 ak af
 | .block id c,F,C,I,M,K,a,w,bj,a5,aj=>by
  refine wpIn_block (wpIn_mono (qT aN c bj a5 aj) ?_);intro e a w h;cases e with
  |exit j=>
   simp only[mb,Te]at h;simp only[Exit.inBlock];by_cases e:j=id;·subst e;simp only[qN,bl]at h;rw[cn rfl];exact h
   ·simp only[g3 e,bh]at h;rw[cb e];exact h
  |_=>exact h
 | .cond c x y,F,C,I,M,K,a,w,bj,a5,aj=>by
  simp only[codeOk,b']at bj;obtain⟨β,ak⟩:=a5;simp only[V]at aj;split at aj
  ·rename_i b ai;have aA:=Mt ak.al ai;refine wpIn_cond aA ?_;cases b
   ·exact qT aN y bj.2 ⟨β,ak⟩ aj
   ·exact qT aN x bj.1 ⟨β,ak⟩ aj
  ·rename_i b ai;have aA:=tR ak.al ai;refine wpIn_cond aA ?_;obtain⟨aa,ab⟩:=aj;cases b
   ·exact qT aN y bj.2 ⟨β,ak⟩ (ab rfl)
   ·exact qT aN x bj.1 ⟨β,ak⟩ (aa rfl)
  ·exact aj.elim
 | .loop c,F,C,I,M,K,a,w,bj,a5,aj=>by
  have a7:=@qT X aN c;simp only[V]at aj;have hinv:∀ {ι:Type} (aG:ι->vj) (inv:ι->Prop) (μ:ι->Nat) (start:sG I M->o2 X.cq aG inv F C I M)
    (round:∀ i,inv i->V X c (qR (aG i).bu) (qS (aG i).cl) (aG i).cS (aG i).db (Ar (λF C I M=>sG I M->o2 X.cq aG (λj=>inv j/\μ j<μ i) F C I M) K)),(Code.loop c).wpIn (gP X) 0 X.P (mb X K) a w:=by
   intro ι aG inv μ start round;let J (m:Nat) (a:Act) (w:World):Prop:=∃ i,inv i/\μ i=m/\Rel X a w (qR (aG i).bu) (qS (aG i).cl) (aG i).cS (aG i).db
   have yG:∀ {p:ι->Prop} {a w},(∀ i,p i->inv i)->Sat X (λF C I M=>sG I M->o2 X.cq aG p F C I M) a w->∃ i,p i/\J (μ i) a w:=by rintro p a w aD⟨F,C,I,M,⟨β,ak⟩,iP⟩;obtain⟨j,rO,hw,bU,pY⟩:=iP ⟨ak.holds.d,ak.holds.bT⟩;exact⟨j,rO,j,aD j rO,rfl,β,(ak.be bU pY).h8 hw⟩
   obtain⟨i0,_,IJ⟩:=yG (λ_ h=>h) ⟨F,C,I,M,a5,start⟩;refine II J IJ ?_;rintro m a w⟨i,hi,rfl,ak⟩;refine wpIn_mono (a7 bj ak (round i hi)) ?_;intro e a w h;cases e with
   |normal=>obtain⟨j,⟨an,aR⟩,bM⟩:=yG (λ_ h=>h.1) h;exact⟨_,aR,bM⟩
   |_=>exact h
  cases aj with
  | @inv ι aG inv μ start round=>
   let J (m:Nat) (a:Act) (w:World):Prop:=∃ i,inv i/\μ i=m/\Rel X a w (qR (aG i).bu) (qS (aG i).cl) (aG i).cS (aG i).db
   have yG:∀ {p:ι->Prop} {a w},(∀ i,p i->inv i)->Sat X (o2 X.cq aG p) a w->∃ i,p i/\J (μ i) a w:=by rintro p a w aD⟨F,C,I,M,⟨β,ak⟩,⟨j,rO,hw,bU,pY⟩⟩;exact⟨j,rO,j,aD j rO,rfl,β,(ak.be bU pY).h8 hw⟩
   obtain⟨i0,_,IJ⟩:=yG (λ_ h=>h) ⟨F,C,I,M,a5,start⟩;refine II J IJ ?_;rintro m a w⟨i,hi,rfl,ak⟩;refine wpIn_mono (a7 bj ak (round i hi)) ?_;intro e a w h;cases e with
   |normal=>obtain⟨j,⟨an,aR⟩,bM⟩:=yG (λ_ h=>h.1) h;exact⟨_,aR,bM⟩
   |_=>exact h
  |IF aG inv μ start round=>exact hinv aG inv μ start round
  |w8 n h=>
   refine II (λm a w=>Sat X (MC (V X c) K m) a w) ⟨F,C,I,M,a5,h⟩ ?_;rintro m a w⟨F,C,I,M,ak,af⟩;cases m with
   |zero=>exact af.elim
   |succ m=>
    refine wpIn_mono (a7 bj ak af) ?_;intro e a w h;cases e with
    |normal=>exact⟨m,Ip m,h⟩| _=>exact h
 | .region id ops false,F,C,I,M,K,a,w,bj,a5,aj=>by refine wpIn_region ?_;have:=Td (K:=K .normal) (Q:=mb X K) aN ops (λ_ _ h=>h) ops.toList 0 (by simp) (IH bj) a5 aj;simpa[Ac]using this
 | .region id ops true,F,C,I,M,K,a,w,bj,a5,⟨aj⟩=>aj a w a5| .rangeFunc f ps fc body,F,C,I,M,K,a,w,bj,a5,⟨aj⟩=>aj a w a5| .scope c,F,C,I,M,K,a,w,bj,a5,⟨aj⟩=>aj a w a5| .refuse _,F,C,I,M,K,a,w,bj,a5,aj=>aj.elim
def w9(args:List Value):Fr:=λt=>match args[t]? with
 |some v=>.val v| none=>.mG
def o3(X:c3)(F:Fr)(C:dp)(I:aZ)(M:List aB):List ResultVar->(List Value->Prop)->Prop
 |[],K=>K []
 | .tmp t::l,K=>match bB F (.tmp t)with
  | .val v=>o3 X F C I M l λvs=>K (v::vs)
  |_=>False
 | .cell t ty::l,K=>match dq F (.tmp t),X.E ty with
  | .ref s off,some i=>(match C s with
   |some cs=>bif Nat.ble (off+i.size) cs.length then o3 X F C I M l λvs=>K (pack i.bE.agg ((cs.drop off).take i.size)::vs)else False
   |none=>False)
  | .val (.pointer (some a)),some i=>aI I M a i.size λws=>o3 X F C I M l λvs=>K (pack i.bE.agg ws::vs)
  |_,_=>False
inductive vk(cq:List Nat)(I:aZ)(M:List aB)(post:aZ->List aB->Prop):Prop
 |mk(I':aZ)(M':List aB)(hw:jd cq I M I' M')(h:post I' M')
def tU(X:c3)(a8:List ResultVar)(post:Value->aZ->List aB->Prop):ke:=λex F C I M=>
 let done:Prop:=o3 X F C I M a8 λvs=>match vs with
  |[v]=>vk X.cq I M (post v)| vs=>vk X.cq I M (post (.tuple vs.toArray))
 match ex with
 | .normal=>done| .ret=>done| _=>False
def Cs(tmps:Array Value):ResultVar->Sem Value
 | .tmp t=>pure (tmps.getD t undef)| .cell a t=>do loadVar t (<-asAddr (tmps.getD a undef))
def adE(fn:Func)(tmps:Array Value):results fn tmps=(do let vs <-fn.results.mapM (Cs tmps);pure (if h:vs.size=1 then vs[0]else .tuple vs)):=by unfold results;congr 1
def IK{X:c3}(aN:c2 X.P X.E){β:Nat->Nat}{a:Act}{w:World}{F:Fr}{C:dp}{I:aZ}{M:List aB}(h:cV X β a w F C I M):∀ {a8:List ResultVar} {K:List Value->Prop},o3 X F C I M a8 K -> ∃ vs,K vs/\(a8.mapM (Cs a.tmps)).run X.P w=.ok vs w
 |[],K,aj=>⟨[],aj,rfl⟩
 | .tmp t::l,K,aj=>by
  unfold o3 at aj;split at aj;·rename_i v aa;have az:a.tmps.getD t undef=v:=dh h.al aa;obtain⟨vs,af,aE⟩:=IK aN h aj;refine⟨_,af,?_⟩;simp only[ET,Cs,cm,c9,b3,aE,az]
  ·exact aj.elim
 | .cell t ty::l,K,aj=>by
  unfold o3 at aj;split at aj
  ·rename_i s off i aa hi;have az:a.tmps.getD t undef=.pointer (some ⟨β s,off,none⟩):=Ah h.al aa;split at aj
   ·rename_i cs ap;cases bs:Nat.ble (off+i.size) cs.length with
    |false=>rw[bs]at aj;exact aj.elim| true=>rw[bs]at aj;obtain⟨vs,af,aE⟩:=IK aN h aj;have vd:=bS bs;obtain⟨T,bp⟩:=(h.ck s cs ap).aO;have bz:=IA (aN _ _ hi) (a:=⟨β s,off,none⟩) rfl bp (vs:=(cs.drop off).take i.size) (by simp) (by simp;omega);refine⟨_,af,?_⟩;simp only[ET,Cs,cm,c9,b3,aE,az,asAddr,bz]
   ·exact aj.elim
  ·rename_i ad i aa hi;have az:a.tmps.getD t undef=.pointer (some ad):=tR h.al aa;obtain⟨ws,⟨ch,cs,T,al,dS,h7,av⟩,aj⟩:=aj;obtain⟨vs,af,aE⟩:=IK aN h aj;have bz:=IA (aN _ _ hi) ch (dS.heap h.holds) h7 av;refine⟨_,af,?_⟩;simp only[ET,Cs,cm,c9,b3,aE,az,asAddr,bz]
  ·exact aj.elim
def adF{X:c3}(aN:c2 X.P X.E){β:Nat->Nat}{F:Fr}{C:dp}{I:aZ}{M:List aB}(h:cV X β a w F C I M){K:List Value->Prop}(aj:o3 X F C I M fn.results.toList K) :
  ∃ vs,K vs/\(results fn a.tmps).run X.P w=.ok (match vs with | [v]=>v | vs=>.tuple vs.toArray) w:=by
 obtain⟨vs,af,e⟩:=IK aN h aj;refine⟨vs,af,?_⟩;rw[adE];have az:(fn.results.mapM (Cs a.tmps)).run X.P w=.ok vs.toArray w:=by rw[SV,Sem.run_map,e];rfl
 simp only[cm,az,b3,c9]
 match vs with
 |[]=>rfl| [v]=>rfl| u::v::l=>simp
def Tf{rN:Fence}{n:Nat}{P:Program}{fn:Func}{tmps:Array Value}{R:Ending->World->Prop}:∀ (a8:List Nat) (w:World),a8.Nodup->(∀ r∈a8,w.heap[r]?=some (.deferred (some []))) -> (∀ w':World,w'.heap.size=w.heap.size->(∀ b,b ∉ a8->w'.heap[b]?=w.heap[b]?)->n2 w w'->∃ v,(results fn tmps).run P w'=.ok v w'/\R (.returned v) w')->LeavesInM rN n P fn tmps R (a8.map w0) .returning w
 |[],w,_,_,h=>h w rfl (λ_ _=>rfl) (.refl _)
 |r::a8,w,cg,ak,h=>by
  rw[nh]at cg;refine⟨by simp,.inl ⟨r,_,rfl,run_takeDeferred (ak r (by simp)),?_⟩⟩;refine Tf a8 _ cg.2 (λtV gZ=>?_) λw' ap ai aw=>h w' (by rw[ap];simp) (λb E8=>?_) ((Iy _ _ _).trans aw);·have bK:tV≠r:=λe=>cg.1 (e ▸ gZ);rw[mD bK];exact ak tV (by simp[gZ])
  ·simp only[ef,not_or]at E8;rw[ai b E8.2,mD E8.1]
def cV.take{X:c3}{β:Nat->Nat}{F:Fr}{C:dp}{I:aZ}{M:List aB}(h:cV X β a w F C I M){a8:List Nat}(lp:∀ r∈a8,va X w I M r)(ap:w'.heap.size=w.heap.size)(ai:∀ b,b ∉ a8->w'.heap[b]?=w.heap[b]?)(aw:n2 w w') :
  cV X β { a with defers:=[] } w' F C I M:=by
 exact {
  size:=h.size
  defers:=⟨[],rfl,Ae,λr ak=>by cases ak⟩
  holds:={
   i:=λb o je=>by rw[ai b (λak=>by have:=(lp b ak).jz;rw[je]at this;cases this)];exact h.holds.i b o je
   m:=λx ae=>by rw[ai _ (λak=>(lp _ ak).eK x ae rfl)];exact h.holds.m x ae
   d:=h.holds.d
   bT:=h.holds.bT }
  al:=h.al
  ck:=λs cs lJ=>by have qU:=h.ck s cs lJ;obtain⟨T,bp⟩:=qU.aO;refine { qU with aO:=⟨T,?_⟩ };rw[ai _ (λak=>by have:=(lp _ ak).aO;rw[bp]at this;cases this)];exact bp
  inj:=h.inj
  hI:=h.hI
  hq:=h.hq
  own:=h.own
  du:=λb aR aJ=>by rw[ai _ (λak=>by have:=(lp _ ak).be;omega)];exact h.du b aR aJ
  out:=h.out.trans aw
  sz:=by rw[ap];exact h.sz }
def mb.ret{X:c3}(aN:c2 X.P X.E){post:Value->aZ->List aB->Prop}
  (a5:∀ v I M (w:World) (a:Act) (F:Fr) (C:dp),Rel X a w F C I M->post v I M->R (.returned v) w):∀ e a w,mb X (tU X fn.results.toList post) e a w->bodyPostM (gP X) 0 X.P fn R e a w:=by
 have main:∀ a w,Sat X (tU X fn.results.toList post .ret) a w->LeavesInM (gP X) 0 X.P fn a.tmps R a.defers .returning w:=by
  rintro a w⟨F,C,I,M,⟨β,ak⟩,af⟩;simp only[tU]at af;obtain⟨a8,ah,cg,hm⟩:=ak.defers;rw[ah];refine Tf a8 w cg (λr gF=>(hm r gF).aO) λw' ap ai aw=>?_;have gZ:=ak.take hm ap ai aw;obtain⟨vs,aD,eV⟩:=adF aN gZ af;refine⟨_,eV,?_⟩
  match vs,aD with
  |[],⟨I',M',hw,aD⟩=>exact a5 _ I' M' w' _ F C ⟨β,gZ.h8 hw⟩ aD| [v],⟨I',M',hw,aD⟩=>exact a5 _ I' M' w' _ F C ⟨β,gZ.h8 hw⟩ aD| u::v::l,⟨I',M',hw,aD⟩=>exact a5 _ I' M' w' _ F C ⟨β,gZ.h8 hw⟩ aD
 intro e a w h;cases e with
 |normal=>exact main a w h| ret=>exact main a w h| exit id=>obtain⟨F,C,I,M,_,af⟩:=h;exact af.elim
 |goto l=>obtain⟨F,C,I,M,_,af⟩:=h;exact af.elim
 |panic _=>exact h.elim| outgrown=>exact h.elim
def adG(aJ:P.funcs[f]?=some fn)(ai:fn.body.isSome=true)(aq:(fn.name == "runtime.NumGoroutine")=false):Mq P f:=by
 intro args w;have iQ:fn.body.isNone=false:=by cases h:fn.body<;>simp_all
 simp only[callFunc,cm,run_program,b3,aJ,aq,kG,lG,iQ];rfl
def MD{E:Env}(gC:List Nat)(aN:c2 P E)(aJ:P.funcs[f]?=some fn)(ai:fn.body=some c)(aq:(fn.name == "runtime.NumGoroutine")=false)
 (bj:(codeOk fn.ntmps c&&Nat.ble args.length fn.ntmps)=true) {I:aZ} {M:List aB} {post:Value->aZ->List aB->Prop}
  (h:∀ B ar a w,Rel ⟨P,E,gC,fn.ntmps,B,ar,I,M.map (·.num),none⟩ a w (w9 args) (λ_=>none) I M->c.wpIn (gP ⟨P,E,gC,fn.ntmps,B,ar,I,M.map (·.num),none⟩) 0 P (mb ⟨P,E,gC,fn.ntmps,B,ar,I,M.map (·.num),none⟩ (tU ⟨P,E,gC,fn.ntmps,B,ar,I,M.map (·.num),none⟩ fn.results.toList post)) a w) :
  wY P f args I M post:=by
 rw[b']at bj;have bQ:=bS bj.2;refine⟨adG aJ (by rw[ai];rfl) aq,λw lk=>?_⟩;let X:c3:=⟨P,E,gC,fn.ntmps,w.heap.size,w,I,M.map (·.num),none⟩
 have E9:Rel X { tmps:=args.toArray++Array.replicate (fn.ntmps-args.toArray.size) undef,defers:=[] } w (w9 args) (λ_=>none) I M:=⟨λ_=>0,{
  size:=by simp[X];omega
  defers:=⟨[],rfl,Ae,λr ak=>by cases ak⟩
  holds:=lk
  al:=λt=>by
   unfold w9;cases ay:args[t]? with
   |none=>trivial| some v=>have aR:t<args.length:=(hT.1 ay).1;simp only[eF,oV];rw[Array.getElem?_append_left (by simpa using aR)];simp[ay]
  ck:=λs cs ap=>by cases ap
  inj:=λs cc aa=>by simp at aa
  hI:=λb o ai=>ai
  hq:=λb o ai=>.inl ai
  own:=λx ae=>.inl (dA.2 ⟨x,ae,rfl⟩)
  du:=λb ai aJ=>rfl
  out:=.refl _
  sz:=cj _ }⟩
 have IL:=h w.heap.size w _ _ E9;refine(callsIn_wide (n:=0)).1 ?_;have adH:gP X=Fence.wide:=rfl;rw[adH]at IL;refine callsIn_of_wp_marks aJ ai trivial (wpIn_mono IL (mb.ret (X:=X) aN ?_));rintro v I' M' w' bY cH C'⟨β,ak⟩aD;refine⟨v,I',M',rfl,aD,ak.holds,?_⟩;exact {
  le:=ak.hI
  tP:=ak.hq
  u':=λx ae=>by
   rcases ak.own x ae with aa | aa;·obtain⟨y,aF,e⟩:=dA.1 aa;exact .inl ⟨y,aF,e⟩
   ·exact .inr aa
  du:=λb ai bK=>ak.du b ai (λhm=>by
   obtain⟨y,aF,e⟩:=dA.1 hm;exact bK y aF e)
  out:=ak.out
  sz:=ak.sz }
def Ct{E:Env}(gC:List Nat)(aN:c2 P E)(aJ:P.funcs[f]?=some fn)(ai:fn.body=some c)(aq:(fn.name == "runtime.NumGoroutine")=false)
 (bj:(codeOk fn.ntmps c&&Nat.ble args.length fn.ntmps)=true) {I:aZ} {M:List aB} {post:Value->aZ->List aB->Prop}
  (h:∀ B ar,V ⟨P,E,gC,fn.ntmps,B,ar,I,M.map (·.num),none⟩ c (w9 args) (λ_=>none) I M (tU ⟨P,E,gC,fn.ntmps,B,ar,I,M.map (·.num),none⟩ fn.results.toList post)) :
  wY P f args I M post:=
 MD gC aN aJ ai aq bj λB ar a w ak=>by rw[b']at bj;exact qT aN c bj.1 ak (h B ar)
def bN{E:Env}(gC:List Nat)(aN:c2 P E)(aJ:P.funcs[f]?=some fn)(ai:fn.body=some c)(aq:(fn.name == "runtime.NumGoroutine")=false)
 (bj:(codeOk fn.ntmps c&&Nat.ble args.length fn.ntmps)=true) {I:aZ} {M:List aB} {post:Value->aZ->List aB->Prop}
  (h:∀ B ar,V ⟨P,E,gC,fn.ntmps,B,ar,I,M.map (·.num),none⟩ c (w9 args) (λ_=>none) I M (tU ⟨P,E,gC,fn.ntmps,B,ar,I,M.map (·.num),none⟩ fn.results.toList post)) :
  Spec P f args I M post:=.inl (Ct gC aN aJ ai aq bj h)
def IM(X:c3)(a8:List ResultVar)(post:Value->aZ->List aB->Prop):ke:=λex F C I M=>
 let done:Prop:=o3 X F C I M a8 λvs=>match vs with
  |[v]=>sG I M->vk X.cq I M (post v)| vs=>sG I M->vk X.cq I M (post (.tuple vs.toArray))
 match ex with
 | .normal=>done| .ret=>done| _=>False
def IN{X:c3}{F:Fr}{C:dp}{I:aZ}{M:List aB}:∀ {a8:List ResultVar} {K yH:List Value->Prop},(∀ vs,K vs->yH vs)->o3 X F C I M a8 K->o3 X F C I M a8 yH
 |[],K,yH,h,aj=>h _ aj
 | .tmp t::l,K,yH,h,aj=>by
  unfold o3 at aj |-;split at aj;·exact IN (λvs=>h _) aj
  ·exact aj.elim
 | .cell t ty::l,K,yH,h,aj=>by
  unfold o3 at aj |-;split at aj
  ·rename_i s off i aa hi;split at aj
   ·rename_i cs ap;cases bs:Nat.ble (off+i.size) cs.length with
    |false=>rw[bs]at aj;exact aj.elim| true=>rw[bs]at aj;exact IN (λvs=>h _) aj
   ·exact aj.elim
  ·obtain⟨ws,a3,aj⟩:=aj;exact⟨ws,a3,IN (λvs=>h _) aj⟩
  ·exact aj.elim
def mb.adI{X:c3}{a8:List ResultVar}{post:Value->aZ->List aB->Prop}:∀ e a w,mb X (IM X a8 post) e a w->mb X (tU X a8 post) e a w:=by
 have one:∀ a w,Sat X (IM X a8 post .ret) a w->Sat X (tU X a8 post .ret) a w:=by
  rintro a w⟨F,C,I,M,⟨β,ak⟩,h⟩;refine⟨F,C,I,M,⟨β,ak⟩,IN (λvs aj=>?_) h⟩;have iP:sG I M:=⟨ak.holds.d,ak.holds.bT⟩
  match vs,aj with
  |[v],aj=>exact aj iP| [],aj=>exact aj iP| _::_::_,aj=>exact aj iP
 intro e a w h;cases e with
 |normal=>exact one a w h| ret=>exact one a w h| exit id=>obtain⟨F,C,I,M,ak,af⟩:=h;exact af.elim
 |goto l=>obtain⟨F,C,I,M,ak,af⟩:=h;exact af.elim
 |panic _=>exact h| outgrown=>exact h
def adJ{E:Env}(gC:List Nat)(aN:c2 P E)(aJ:P.funcs[f]?=some fn)(ai:fn.body=some c)(aq:(fn.name == "runtime.NumGoroutine")=false)
 (bj:(codeOk fn.ntmps c&&Nat.ble args.length fn.ntmps)=true) {I:aZ} {M:List aB} {post:Value->aZ->List aB->Prop}
  (h:∀ B ar,V ⟨P,E,gC,fn.ntmps,B,ar,I,M.map (·.num),none⟩ c (w9 args) (λ_=>none) I M (IM ⟨P,E,gC,fn.ntmps,B,ar,I,M.map (·.num),none⟩ fn.results.toList post)) :
  wY P f args I M post:=
 MD gC aN aJ ai aq bj λB ar a w ak=>by rw[b']at bj;exact wpIn_mono (qT aN c bj.1 ak (h B ar)) mb.adI
def ME{E:Env}(gC:List Nat)(aN:c2 P E)(aJ:P.funcs[f]?=some fn)(ai:fn.body=some c)(aq:(fn.name == "runtime.NumGoroutine")=false)
 (bj:(codeOk fn.ntmps c&&Nat.ble args.length fn.ntmps)=true) {I:aZ} {M:List aB} {post:Value->aZ->List aB->Prop}
  (h:∀ B ar,V ⟨P,E,gC,fn.ntmps,B,ar,I,M.map (·.num),none⟩ c (w9 args) (λ_=>none) I M (IM ⟨P,E,gC,fn.ntmps,B,ar,I,M.map (·.num),none⟩ fn.results.toList post)) :
  Spec P f args I M post:=.inl (adJ gC aN aJ ai aq bj h)
def MF:Value->Value->Bool
 | .bool a,.bool b=>a == b| .int k n,.int dJ m=>IntKind.l' k dJ&&decide (n=m)| .string s,.string t=>decide (s.data.toList=t.data.toList)| .pointer none,.pointer none=>true| .slice none 0 0,.slice none 0 0=>true| .map none,.map none=>true| .nilFunc,.nilFunc=>true| .nilIface,.nilIface=>true| _,_=>false
def adK:∀ {a b:Value},MF a b=true->a=b:=by
 intro a b h;unfold MF at h;split at h
 ·simp at h;rw[h]
 ·simp only[b',eU]at h;rw[IntKind.Cm h.1,h.2]
 ·rename_i s t;simp only[eU]at h;have:s=t:=by cases s;cases t;simp only[Mn];exact gO h
  rw[this]
 all_goals first | rfl | cases h
def IP:List Value->List Value->Bool
 |[],[]=>true| a::as,b::cM=>MF a b&&IP as cM| _,_=>false
def Tg:∀ {a b:List Value},IP a b=true->a=b
 |[],[],_=>rfl| a::as,b::cM,h=>by simp only[IP,b']at h;rw[adK h.1,Tg h.2]
 |[],_::_,h=>by cases h
 |_::_,[],h=>by cases h
def MG(P:Program)(t:Nat)(i:dU):Bool:=
 (match P.info? t with
 |some inf=>decide (inf.size=i.size)&&decide (inf.bytes=i.bytes)&&(match inf.zero with
  |some z=>IP z.cells.toList i.zero| none=>false)
 |none=>false) &&
 (match P.underlying t with
 |some d=>decide (e8 d=i.bE)| none=>false)&&fO i.zero&&decide (i.zero.length=i.size)&&(i.bE.agg||decide (i.size=1))
def adL{t:Nat}{i:dU}(h:MG P t i=true):jT P t i:=by
 simp only[MG,b']at h;obtain⟨⟨⟨⟨aa,ab⟩,ag⟩,aW⟩,bC⟩:=h;refine⟨?_,?_,w4 ag,c1 aW,λaC=>?_⟩
 ·split at aa
  ·rename_i inf hi;simp only[b',eU]at aa;obtain⟨⟨az,aE⟩,bz⟩:=aa;split at bz
   ·rename_i z bf;exact⟨inf,z,hi,az,aE,bf,Tg bz⟩
   ·cases bz
  ·cases aa
 ·split at ab
  ·rename_i d ah;exact⟨d,ah,c1 ab⟩
  ·cases ab
 ·rw[aC]at bC;simpa using bC
def adM{E:Env}(n:Nat)(aq:∀ t,n<=t->E t=none)(h:((List.range n).all λt=>match E t with
  |some i=>MG P t i| none=>true)=true):c2 P E:=by
 intro t i hi;by_cases ay:t<n
 ·have:=eP.1 h t (lF.2 ay);rw[hi]at this;exact adL this
 ·rw[aq t (by omega)]at hi;cases hi
end Go.V
namespace Go.V
variable{a:Act}{c:Code}{cq:List Nat}{P:Program}{f off T sz hU e n m fy cu dG dY fN iN kI lh mF oZ qM sF u9 Af EU:Nat}{args vs z:List Value}{v:Value}{w' w:World}{dst:Option Nat}{cs:Array Value}{al:Nat×Nat}{R:Ending->World->Prop}{next:Act->World->Prop}{ad:Addr}{fG:IntKind}{other:Prop}{ops:List Oper}{Q:Exit->Act->World->Prop}{fn:Func}{soft hp:Bool}{op:Op}{dt:Array Bool}{A:Array Oper}{ι:Type}
def xb{F:Fr}:kN F [(fy,F fy),(cu,F cu)]:=.cons .refl (.cons .refl (.nil))
def fH{F:Fr}:kN F [(fy,F fy),(cu,F cu),(dG,F dG)]:=.cons .refl (.cons .refl (.cons .refl (.nil)))
def ey{F:Fr}:kN F [(fy,F fy),(cu,F cu),(dG,F dG),(dY,F dY)]:=.cons .refl (.cons .refl (.cons .refl (.cons .refl (.nil))))
def gS{F:Fr}:kN F [(fy,F fy),(cu,F cu),(dG,F dG),(dY,F dY),(fN,F fN)]:=.cons .refl (.cons .refl (.cons .refl (.cons .refl (.cons .refl (.nil)))))
def kf{F:Fr}:kN F [(fy,F fy),(cu,F cu),(dG,F dG),(dY,F dY),(fN,F fN),(iN,F iN)]:=.cons .refl (.cons .refl (.cons .refl (.cons .refl (.cons .refl (.cons .refl (.nil))))))
def kg{F:Fr}:kN F [(fy,F fy),(cu,F cu),(dG,F dG),(dY,F dY),(fN,F fN),(iN,F iN),(kI,F kI)]:=.cons .refl (.cons .refl (.cons .refl (.cons .refl (.cons .refl (.cons .refl (.cons .refl (.nil)))))))
def rP{F:Fr}:kN F [(fy,F fy),(cu,F cu),(dG,F dG),(dY,F dY),(fN,F fN),(iN,F iN),(kI,F kI),(lh,F lh)]:=.cons .refl (.cons .refl (.cons .refl (.cons .refl (.cons .refl (.cons .refl (.cons .refl (.cons .refl (.nil))))))))
def o4{F:Fr}:kN F [(fy,F fy),(cu,F cu),(dG,F dG),(dY,F dY),(fN,F fN),(iN,F iN),(kI,F kI),(lh,F lh),(mF,F mF)]:=.cons .refl (.cons .refl (.cons .refl (.cons .refl (.cons .refl (.cons .refl (.cons .refl (.cons .refl (.cons .refl (.nil)))))))))
def Th{F:Fr}:kN F [(fy,F fy),(cu,F cu),(dG,F dG),(dY,F dY),(fN,F fN),(iN,F iN),(kI,F kI),(lh,F lh),(mF,F mF),(oZ,F oZ)]:=.cons .refl (.cons .refl (.cons .refl (.cons .refl (.cons .refl (.cons .refl (.cons .refl (.cons .refl (.cons .refl (.cons .refl (.nil))))))))))
def Ti{F:Fr}:kN F [(fy,F fy),(cu,F cu),(dG,F dG),(dY,F dY),(fN,F fN),(iN,F iN),(kI,F kI),(lh,F lh),(mF,F mF),(oZ,F oZ),(qM,F qM)]:=.cons .refl (.cons .refl (.cons .refl (.cons .refl (.cons .refl (.cons .refl (.cons .refl (.cons .refl (.cons .refl (.cons .refl (.cons .refl (.nil)))))))))))
def ar6{F:Fr}:kN F [(fy,F fy),(cu,F cu),(dG,F dG),(dY,F dY),(fN,F fN),(iN,F iN),(kI,F kI),(lh,F lh),(mF,F mF),(oZ,F oZ),(qM,F qM),(sF,F sF)]:=.cons .refl (.cons .refl (.cons .refl (.cons .refl (.cons .refl (.cons .refl (.cons .refl (.cons .refl (.cons .refl (.cons .refl (.cons .refl (.cons .refl (.nil))))))))))))
def ar7{F:Fr}:kN F [(fy,F fy),(cu,F cu),(dG,F dG),(dY,F dY),(fN,F fN),(iN,F iN),(kI,F kI),(lh,F lh),(mF,F mF),(oZ,F oZ),(qM,F qM),(sF,F sF),(u9,F u9)]:=.cons .refl (.cons .refl (.cons .refl (.cons .refl (.cons .refl (.cons .refl (.cons .refl (.cons .refl (.cons .refl (.cons .refl (.cons .refl (.cons .refl (.cons .refl (.nil)))))))))))))
def Tj{F:Fr}:kN F [(fy,F fy),(cu,F cu),(dG,F dG),(dY,F dY),(fN,F fN),(iN,F iN),(kI,F kI),(lh,F lh),(mF,F mF),(oZ,F oZ),(qM,F qM),(sF,F sF),(u9,F u9),(Af,F Af)]:=.cons .refl (.cons .refl (.cons .refl (.cons .refl (.cons .refl (.cons .refl (.cons .refl (.cons .refl (.cons .refl (.cons .refl (.cons .refl (.cons .refl (.cons .refl (.cons .refl (.nil))))))))))))))
def adN{F:Fr}:kN F [(fy,F fy),(cu,F cu),(dG,F dG),(dY,F dY),(fN,F fN),(iN,F iN),(kI,F kI),(lh,F lh),(mF,F mF),(oZ,F oZ),(qM,F qM),(sF,F sF),(u9,F u9),(Af,F Af),(EU,F EU)]:=.cons .refl (.cons .refl (.cons .refl (.cons .refl (.cons .refl (.cons .refl (.cons .refl (.cons .refl (.cons .refl (.cons .refl (.cons .refl (.cons .refl (.cons .refl (.cons .refl (.cons .refl (.nil)))))))))))))))
def ar8{F:Fr}{Tk:Nat}:kN F [(fy,F fy),(cu,F cu),(dG,F dG),(dY,F dY),(fN,F fN),(iN,F iN),(kI,F kI),(lh,F lh),(mF,F mF),(oZ,F oZ),(qM,F qM),(sF,F sF),(u9,F u9),(Af,F Af),(EU,F EU),(Tk,F Tk)]:=.cons .refl (.cons .refl (.cons .refl (.cons .refl (.cons .refl (.cons .refl (.cons .refl (.cons .refl (.cons .refl (.cons .refl (.cons .refl (.cons .refl (.cons .refl (.cons .refl (.cons .refl (.cons .refl (.nil))))))))))))))))
def Cu:Op->Bool
 | .move _ | .assign _ | .pick .. | .unOp .. | .binOp .. | .load .. | .nilCheck _ | .fieldAddr .. | .field .. | .indexAddr .. | .index .. | .build .. | .makeFunc .. | .slice .. | .extract .. | .convert ..=>true| .call { callee:=.builtin .len,.. }=>true| .call { callee:=.builtin .cap,.. }=>true| .call { callee:=.builtin .max,.. }=>true| .call { callee:=.builtin .min,.. }=>true| .call { callee:=.builtin .unsafeSliceData,.. }=>true| _=>false
def pZ:Op->Bool
 | .load ..=>true| _=>false
def E'(o:Oper)(p:Nat):Bool:=o.after.toList.all λe=>!Region.binds .any e||p.testBit e.on
def p0(ops:List Oper)(p:Nat)(k:Bool):List Nat:=(List.range ops.length).filter λi=>match ops[i]? with
 |some o=>!p.testBit i&&((Cu o.op == k)&&E' o p)| none=>false
def Fa(a4:List Nat)(o:Oper):Nat:=o.after.toList.foldl (λs e=>bif Region.binds .any e then s ||| 2^e.on ||| a4.getD e.on 0 else s) 0
def kO(ops:List Oper):List Nat:=ops.foldl (λa4 o=>a4++[Fa a4 o]) []
def MH(P:Nat->Prop):List Nat->Prop
 |[]=>True| [i]=>P i| i::l=>P i/\MH P l
inductive hf(soft:Bool)(cq:List Nat)(P:Program)(f:Nat)(args:List Value)(I:aZ)(M:List aB)(K:Value->aZ->List aB->Prop):Prop
 |mk(post:Value->aZ->List aB->Prop)(ap:Spec P f args I [] post)(k:∀ v I' M',(∀ b o,I b=some o->I' b=some o)->post v I' M'->K v I' (M'++M))| o5 (dI Mr:List aB) (post:Value->aZ->List aB->Prop) (a1:M.Perm (dI++Mr)) (ap:Spec P f args I dI post) (mI:∀ v I' M',post v I' M'->∀ x∈dI,x∈M') (k:∀ v I' M',(∀ b o,I b=some o->I' b=some o)->post v I' M'->K v I' (M'++Mr))| Iv (post:Value->aZ->List aB->Prop) (ap:Spec P f args I [] post) (k:∀ v I' M',(∀ b o,I b=some o->I' b=some o)->(∀ x∈M'++M,I' x.num=none)->post v I' M'->K v I' (M'++M))| adO (dI Mr:List aB) (post:Value->aZ->List aB->Prop) (a1:M.Perm (dI++Mr)) (ap:Spec P f args I dI post) (mI:∀ v I' M',post v I' M'->∀ x∈dI,x∈M') (k:∀ v I' M',(∀ b o,I b=some o->I' b=some o)->(∀ x∈M'++Mr,I' x.num=none)->post v I' M'->K v I' (M'++Mr))| adP (b:Nat) (o:Obj) (dI Mr:List aB) (post:Value->aZ->List aB->Prop) (a1:M.Perm (⟨b,o⟩::(dI++Mr))) (aJ:b ∉ cq) (ap:Spec P f args (ins I b o) dI post) (mI:∀ v I' M',post v I' M'->∀ x∈dI,x∈M') (k:∀ v I' M',(∀ c p,ins I b o c=some p->I' c=some p)->(∀ x∈M'++Mr,I' x.num=none)->post v I' M'->K v I' (M'++Mr))| Iw (h:sG I M->hf soft cq P f args I M K)| Tl (IQ:soft=true) (dI Mr:List aB) (post:Value->aZ->List aB->Prop) (a1:M.Perm (dI++Mr)) (ap:Spec P f args I dI post) (k:∀ v I' M',(∀ b o,I b=some o->I' b=some o)->post v I' M'->K v I' (M'++Mr))
def hf.elim{I:aZ}{M:List aB}{K:Value->aZ->List aB->Prop}(iP:sG I M)(h:hf soft cq P f args I M K) :
  ∃ (cU:aZ) (dI Mr:List aB) (post:Value->aZ->List aB->Prop),jd cq I M cU (dI++Mr)/\(∀ b o,I b=some o->cU b=some o)/\Spec P f args cU dI post /\
   ∀ v I' M',(∀ b o,cU b=some o->I' b=some o)->(∀ x∈M'++Mr,I' x.num=none)->post v I' M'->(soft=true\/∀ x∈M,I' x.num=some x.obj\/x∈M'++Mr)/\K v I' (M'++Mr):=by
 have Tm:∀ {dI Mr:List aB} {post:Value->aZ->List aB->Prop} {I':aZ},M.Perm (dI++Mr)->(∀ v I' M',post v I' M'->∀ x∈dI,x∈M')->∀ v M',post v I' M'->∀ x∈M,I' x.num=some x.obj\/x∈M'++Mr:=λa1 mI v M' ab x ae=>by
  right
  rcases dQ.1 (a1.mem_iff.1 ae)with ae | ae;·exact dQ.2 (.inl (mI v _ M' ab x ae))
  ·exact dQ.2 (.inr ae)
 induction h with
 |mk post ap k=>exact⟨I,[],M,post,.refl,λ_ _ h=>h,ap,λv I' M' aa _ ab=>⟨.inr λx ae=>.inr (by simp[ae]),k v I' M' aa ab⟩⟩| o5 dI Mr post a1 ap mI k=>exact⟨I,dI,Mr,post,.perm a1 .refl,λ_ _ h=>h,ap,λv I' M' aa _ ab=>⟨.inr (Tm a1 mI v M' ab),k v I' M' aa ab⟩⟩| Iv post ap k=>exact⟨I,[],M,post,.refl,λ_ _ h=>h,ap,λv I' M' aa ag ab=>⟨.inr λx ae=>.inr (by simp[ae]),k v I' M' aa ag ab⟩⟩| adO dI Mr post a1 ap mI k=>exact⟨I,dI,Mr,post,.perm a1 .refl,λ_ _ h=>h,ap,λv I' M' aa ag ab=>⟨.inr (Tm a1 mI v M' ab),k v I' M' aa ag ab⟩⟩
 |adP b o dI Mr post a1 aJ ap mI k=>
  have ai:I b=none:=iP.d ⟨b,o⟩ (a1.mem_iff.2 (.head _));have adQ:ins I b o b=some o:=by unfold ins;rw[qN];rfl
  refine⟨ins I b o,dI,Mr,post,.perm a1 (.nk rfl aJ .refl),λc p aA=>?_,ap,λv I' M' aa ag ab=>⟨.inr λx ae=>?_,k v I' M' aa ag ab⟩⟩
  ·unfold ins;by_cases e:c=b
   ·subst e;rw[ai]at aA;cases aA
   ·rw[g3 e];exact aA
  ·rcases ef.1 (a1.mem_iff.1 ae)with rfl | ae
   ·exact .inl (aa _ _ adQ)
   ·right
    rcases dQ.1 ae with ae | ae;·exact dQ.2 (.inl (mI v I' M' ab x ae))
    ·exact dQ.2 (.inr ae)
 |Iw h a7=>exact a7 iP| Tl IQ dI Mr post a1 ap k=>exact⟨I,dI,Mr,post,.perm a1 .refl,λ_ _ h=>h,ap,λv I' M' aa _ ab=>⟨.inl IQ,k v I' M' aa ab⟩⟩
def IR(ops:List Oper)(o:Oper)(F:Fr)(run skip:Fr->Prop):Prop:=
 match o.guard with
 |none=>run F
 |some (j,b)=>
  match(ops[j]?).bind (·.dst)with
  |none=>False
  |some d=>
   match F d with
   | .lit c=>bif c == b then run F else skip F| .val (.bool c)=>b4 c b (run (fz F d (.lit b))) (skip (fz F d (.lit !b)))| .val (.tuple _)=>skip F| _=>False
def Tn(gT p:Nat):Bool:=Nat.beq (p &&& gT) p
def adR(ops:List Oper)(gT p:Nat):Bool:=(List.range ops.length).all λq=>!p.testBit q||(gT.testBit q||match ops[q]? with
 |some o=>!pZ o.op| none=>true)
inductive sP(X:c3)(o:Oper)(F:Fr)(C:dp)(I:aZ)(M:List aB)(K:dn->aZ->List aB->Prop):Prop
 |mk (h:∀ β a w Q,cV X β a w F C I M->o.wpIn (gP X) 0 X.P a w (λbY w'=>∃ v x I' M',bY=a.put o.dst v/\eF β x v/\cV X β a w' F C I' M'/\K x I' M'/\I'=I) Q)
def vl(X:c3)(adS soft:Bool)(o:Oper)(F:Fr)(C:dp)(I:aZ)(M:List aB)(K:fX):Prop:=
 bif adS then gQ X o F C I M K else
 match o.op with
 | .call { callee:=.value f,args,.. }=>
  match bB F f,l8 F args.toList with
  | .val (.func (.func g) first cap),some vs=>hf soft X.cq X.P g (first.toList++vs++cap.toList) I M λv I' M'=>K (put o.dst (.val v) F) C I' M'
  |_,_=>False
 | .alloc t=>
  match o.dst,X.E t with
  |some d,some i=>b8 I M λb=>K (fz F d (.val (.pointer (some ⟨b,0,none⟩)))) C I (⟨b,.cells i.zero.toArray t (0,0)⟩::M)
  |_,_=>False
 | .buildSlice _ _ _=>gQ X o F C I M K| .makeSlice _ _ _=>gQ X o F C I M K| .store _ _ _=>bif soft then gQ X o F C I M K else False| .call { callee:=.builtin .append,.. }=>bif soft then ∀ G:Fr,(∀ y∈o.op.operands,dq G y=dq F y)->sP X o G C I M λx I' M'=>K (put o.dst x F) C I' M' else False
 | .call { callee:=.builtin .copy,.. }=>bif soft then ∀ G:Fr,(∀ y∈o.op.operands,dq G y=dq F y)->sP X o G C I M λx I' M'=>K (put o.dst x F) C I' M' else False
 |_=>False
def IS:dn->Nat
 | .ref s _=>s+1| _=>0
def Fb(i:Nat)(op:Op)(ρ:Operand->dn)(ck:List (Nat×Nat)):List (Nat×Nat):=match op with
 | .load _ x=>(i,IS (ρ x))::ck| _=>ck
def Cv(gT s:Nat):List (Nat×Nat)->Bool
 |[]=>true|(i,t)::ck=>(gT.testBit i || !Nat.beq s t)&&Cv gT s ck
def To{gT s i t:Nat}:∀ {ck:List (Nat×Nat)},Cv gT s ck=true->(i,t)∈ck->gT.testBit i=true\/t≠s
 |(j,u)::ck,h,hm=>by
  unfold Cv at h;rw[b',kH]at h;rcases ef.1 hm with e | hm
  ·cases e;rcases h.1 with aa | aa
   ·exact .inl aa
   ·right
    rintro rfl;simp at aa
  ·exact To h.2 hm
def Tp(gT:Nat)(op:Op)(ρ:Operand->dn)(ck:List (Nat×Nat)):Bool:=match op with
 | .store _ x _=>(match ρ x with
  | .val (.pointer (some _))=>Cv gT 0 ck| _=>false)
 |_=>false
def Tq(gT:Nat)(op:Op)(ρ:Operand->dn)(ck:List (Nat×Nat)):Bool:=match op with
 | .store _ x _=>(match ρ x with
  | .ref s _=>Cv gT (s+1) ck| _=>false)
 |_=>false
def vm(hp:Bool)(M:List aB):List aB:=bif hp then []else M
def adT{I:aZ}{M:List aB}{b:Nat}{o:Obj}(h:hH I (vm hp M) b o):hH I M b o:=by
 cases hp with
 |false=>exact h
 |true=>
  rcases h with h | ⟨x,ae,_⟩;·exact .inl h
  ·cases ae
def Tr{I I':aZ}{M M':List aB}(h:∀ b o,hH I M b o->hH I' M' b o)(aX:∀ b o,I b=some o->I' b=some o):∀ b o,hH I (vm hp M) b o->hH I' (vm hp M') b o:=λb o ai=>by
 cases hp with
 |false=>exact h b o ai
 |true=>
  rcases ai with ai | ⟨x,ae,_⟩;·exact .inl (aX _ _ ai)
  ·cases ae
def adU{I I':aZ}{M M':List aB}(aX:∀ b o,I b=some o->I' b=some o):∀ b o,hH I (vm true M) b o->hH I' (vm true M') b o:=λb o ai=>by
 rcases ai with ai | ⟨x,ae,_⟩
 ·exact .inl (aX _ _ ai)
 ·cases ae
def Ts(X:c3)(hp:Bool)(op:Op)(ρ:Operand->dn)(C:dp)(I:aZ)(M:List aB)(V:dn->Prop)(other:Prop):Prop:=match hp with
 |false=>cF X op ρ C I M V other| true=>cF X op ρ C I [] V other
def adV{X:c3}{ρ:Operand->dn}{C:dp}{I:aZ}{M:List aB}{V:dn->Prop}(h:Ts X hp op ρ C I M V other):cF X op ρ C I (vm hp M) V other:=by
 cases hp with
 |false=>exact h| true=>exact h
def adW(ops:List Oper)(hp:Nat->Bool)(gT p:Nat):Bool:=(List.range ops.length).all λq=>!p.testBit q||(gT.testBit q||(hp q||match ops[q]? with
 |some o=>!pZ o.op| none=>true))
def Tt(op:Op)(ρ:Operand->dn):Bool:=match op with
 | .store _ x _=>(match ρ x with
  | .val (.pointer (some _))=>true| _=>false)
 | .call { callee:=.builtin .append,.. }=>true| .call { callee:=.builtin .copy,.. }=>true| _=>false
def Tu(ops:List Oper)(hp:Nat->Bool)(gT p:Nat)(op:Op)(ρ:Operand->dn):Bool:=adW ops hp gT p&&Tt op ρ
def p1(X:c3)(ops:List Oper)(hp:Nat->Bool):Nat->Nat->List (Nat×Nat)->Fr->dp->aZ->List aB->fX->Prop
 |0,_,_,_,_,_,_,_=>False
 |n+1,p,ck,F,C,I,M,K=>
  match p0 ops p true with
  |i::_=>
   (match ops[i]? with
   |some o=>IR ops o F (λF=>Ts X (hp i) o.op (dq F) C I M (λx=>p1 X ops hp n (p ||| 2^i) (Fb i o.op (dq F) ck) (put o.dst x F) C I M K) False) (λF=>p1 X ops hp n (p ||| 2^i) ck (put o.dst (.val undef) F) C I M K)| none=>False)
  |[]=>
   match p0 ops p false with
   |[]=>K F C I M
   |i0::dd=>MH (λi=>match ops[i]? with
     |some o=>IR ops o F (λF=>vl X (Tn ((kO ops).getD i 0) p) (adR ops ((kO ops).getD i 0) p||(Tq ((kO ops).getD i 0) o.op (dq F) ck||(Tp ((kO ops).getD i 0) o.op (dq F) ck||Tu ops hp ((kO ops).getD i 0) p o.op (dq F)))) o F C I M λF C I M=>p1 X ops hp n (p ||| 2^i) ck F C I M K) (λF=>p1 X ops hp n (p ||| 2^i) ck (put o.dst (.val undef) F) C I M K)| none=>False) (i0::dd)
def looks(ops:List Oper)(o:Oper):List Nat:=o.looksAt ops.toArray
def Cw(ops:List Oper):Bool:=
 let b:=kO ops
 (List.range ops.length).all λj=>match ops[j]? with
  |none=>true
  |some mc=>
   (mc.after.toList.all λe=>!Region.binds .any e||Nat.blt e.on j) &&
   ((match mc.dst with
    |some d=>!(looks ops mc).contains d| none=>true) &&
   ((List.range ops.length).all (λi=>Nat.beq i j||match ops[i]? with
    |none=>true
    |some gg=>match gg.dst with
     |none=>true| some d=>!(mc.dst == some d)&&(!(looks ops mc).contains d||((b.getD j 0).testBit i||(b.getD i 0).testBit j)))))
def me(ops:List Oper)(j e:Nat):Prop:=∃ o mJ,ops[j]?=some o/\mJ∈o.after/\Region.binds .any mJ=true/\mJ.on=e
inductive o6(ops:List Oper):Nat->Nat->Prop
 |one{i j}(h:me ops j i):o6 ops i j| trans {i j k} (h:me ops j k) (aX:o6 ops i k):o6 ops i j
def As(ops:List Oper)(S:Nat->Prop):Prop:=∀ j e,S j->me ops j e->S e
def o6.mem{S:Nat->Prop}(jX:As ops S){i j:Nat}(h:o6 ops i j)(an:∀ e,me ops j e->S e):S i:=by
 induction h with
 |one h=>exact an _ h| trans h _ a7=>exact a7 λe he=>jX _ e (an _ h) he
def adX{a4:List Nat}{o:Oper}{i:Nat}(h:(Fa a4 o).testBit i=true):∃ e∈o.after,Region.binds .any e=true/\(e.on=i\/(a4.getD e.on 0).testBit i=true):=by
 have key:∀ (l:List Edge) (s:Nat),(l.foldl (λs e=>bif Region.binds .any e then s ||| 2^e.on ||| a4.getD e.on 0 else s) s).testBit i=true->s.testBit i=true\/∃ e∈l,Region.binds .any e=true/\(e.on=i\/(a4.getD e.on 0).testBit i=true):=by
  intro l
  induction l with
  |nil=>intro s h;exact .inl h
  |cons e l a7=>
   intro s h;simp only[sC]at h;rcases a7 _ h with aa | ⟨bq,sQ,ab⟩
   ·cases ai:Region.binds .any e with
    |false=>rw[ai]at aa;exact .inl aa
    |true=>
     rw[ai]at aa;simp only[bl,Iq,kH,Il,eU]at aa;rcases aa with(aa | aa) | aa;·exact .inl aa
     ·exact .inr ⟨e,by simp,ai,.inl aa⟩
     ·exact .inr ⟨e,by simp,ai,.inr aa⟩
   ·exact .inr ⟨bq,by simp[sQ],ab⟩
 rcases key _ 0 h with aa | ⟨e,he,ab⟩
 ·simp at aa
 ·exact⟨e,by simpa using he,ab⟩
def Tv(ops:List Oper):∀ (l:List Oper) (bc:List Oper) (a4:List Nat),ops=bc++l->a4.length=bc.length->(∀ j i,(a4.getD j 0).testBit i=true->o6 ops i j) -> ∀ j i,((l.foldl (λa4 o=>a4++[Fa a4 o]) a4).getD j 0).testBit i=true->o6 ops i j
 |[],bc,a4,_,_,lK=>lK
 |o::l,bc,a4,vn,bQ,lK=>by
  simp only[sC];refine Tv ops l (bc++[o]) _ (by simp[vn]) (by simp[bQ]) ?_;intro j i h;by_cases an:j<a4.length;·exact lK j i (by simpa[cC,tK an]using h)
  ·by_cases hW:j=a4.length
   ·subst hW;have aX:(Fa a4 o).testBit i=true:=by simpa[cC]using h
    obtain⟨e,he,ai,ab⟩:=adX aX;have aw:ops[a4.length]?=some o:=by rw[vn,bQ];simp
    have yI:me ops a4.length e.on:=⟨o,e,aw,he,ai,rfl⟩;rcases ab with rfl | ab;·exact .one yI
    ·exact .trans yI (lK _ _ ab)
   ·have:(a4++[Fa a4 o]).getD j 0=0:=by rw[cC,oW (by simp;omega)];rfl
    rw[this]at h;simp at h
def yJ{j i:Nat}(h:((kO ops).getD j 0).testBit i=true):o6 ops i j:=
 Tv ops ops [] [] rfl rfl (λj i h=>by simp at h) j i h
section
variable{X:c3}{C C':dp}{I I':aZ}{M M':List aB}
def xd{ρ jD:Operand->dn}:∀ {xs:List Operand},(∀ y∈xs,jD y=ρ y)->jA jD xs=jA ρ xs
 |[],_=>rfl| x::xs,h=>by have aa:=h x (by simp);have ab:=xd (xs:=xs) λy aF=>h y (by simp[aF]);simp only[jA,dR,aa,ab]
def MI{ρ jD:Operand->dn}:∀ {xs:List (Nat×Operand)},(∀ y∈xs.map (·.2),jD y=ρ y)->sI jD xs=sI ρ xs
 |[],_=>rfl|(i,x)::xs,h=>by have aa:=h x (by simp);have ab:=MI (xs:=xs) λy aF=>h y (by simp only[cY,ef];exact .inr aF);simp only[sI,dR,aa,ab]
def Tw{ρ jD:Operand->dn}{V:dn->Prop}(h:cF X op ρ C I M V False)(iS:∀ y∈op.operands,jD y=ρ y)
  (av:∀ t x,op=.load t x->(∀ s off,ρ x=.ref s off->C' s=C s)/\((∀ s off,ρ x≠.ref s off)->∀ b o,hH I M b o->hH I' M' b o)):cF X op jD C' I' M' V False:=by
 cases op
 case load t x=>
  obtain⟨aA,af⟩:=av t x rfl;have aa:=iS x (by simp[Op.operands]);simp only[cF,aa]at h |-;cases aN:X.E t with
  |none=>rw[aN]at h;exact h.elim
  |some i=>
   rw[aN]at h
   try simp only at h |-
   cases ae:ρ x with
   |ref s off=>
    rw[ae]at h
    try simp only at h |-
    rw[aA s off ae];exact h
   |val v=>
    rw[ae]at h
    try simp only at h |-
    split at h;·rename_i e;cases e
    ·rename_i a e;cases e;obtain⟨vs,⟨ab,cs,T,al,ag,aW⟩,bC⟩:=h;exact⟨vs,⟨ab,cs,T,al,af (λs off e=>by rw[ae]at e;cases e) _ _ ag,aW⟩,bC⟩
    ·exact h.elim
   |lit b=>rw[ae]at h;exact h.elim| mG=>rw[ae]at h;exact h.elim
 case build t ps=>
  have aa:=MI (ρ:=ρ) (jD:=jD) (xs:=ps.toList) λy aF=>iS y (by simpa[Op.operands]using aF);simp only[cF,aa]at h |-;exact h
 case makeFunc fn first captured=>
  have aa:=xd (ρ:=ρ) (jD:=jD) (xs:=first.toList) λy aF=>iS y (by simp only[Op.operands,Array.mem_append];exact .inl (by simpa using aF));have ab:=xd (ρ:=ρ) (jD:=jD) (xs:=captured.toList) λy aF=>iS y (by simp only[Op.operands,Array.mem_append];exact .inr (by simpa using aF));simp only[cF,aa,ab]at h |-;exact h
 case slice t x lo hi mx=>
  have aa:=iS x (by simp[Op.operands]);have ab:lo.map (dR jD)=lo.map (dR ρ):=by
   cases lo with
   |none=>rfl| some y=>have:=iS y (by simp[Op.operands]);simp[dR,this]
  have ag:hi.map (dR jD)=hi.map (dR ρ):=by
   cases hi with
   |none=>rfl| some y=>have:=iS y (by simp[Op.operands]);simp[dR,this]
  simp only[cF,ab,ag,dR,aa]at h |-;exact h
 case call c=>
  obtain⟨callee,args,argTypes⟩:=c;cases callee with
  |value f=>exact h| invoke r m=>exact h
  |builtin b=>
   cases b
   case len=>
    have aa:=xd (ρ:=ρ) (jD:=jD) (xs:=args.toList) λy aF=>iS y (by simp[Op.operands,Call.operands];simpa using aF);simp only[cF,aa]at h |-;exact h
   case cap=>
    have aa:=xd (ρ:=ρ) (jD:=jD) (xs:=args.toList) λy aF=>iS y (by simp[Op.operands,Call.operands];simpa using aF);simp only[cF,aa]at h |-;exact h
   case max=>
    have aa:=xd (ρ:=ρ) (jD:=jD) (xs:=args.toList) λy aF=>iS y (by simp[Op.operands,Call.operands];simpa using aF);simp only[cF,aa]at h |-;exact h
   case min=>
    have aa:=xd (ρ:=ρ) (jD:=jD) (xs:=args.toList) λy aF=>iS y (by simp[Op.operands,Call.operands];simpa using aF);simp only[cF,aa]at h |-;exact h
   case unsafeSliceData=>
    have aa:=xd (ρ:=ρ) (jD:=jD) (xs:=args.toList) λy aF=>iS y (by simp[Op.operands,Call.operands];simpa using aF);simp only[cF,aa]at h |-;exact h
   all_goals exact h
 all_goals first
  |exact h|(rename_i x;have aa:=iS x (by simp[Op.operands]);simp only[cF,dR,aa]at h |-;exact h)|(rename_i x y;have aa:=iS x (by simp[Op.operands]);have ab:=iS y (by simp[Op.operands]);simp only[cF,dR,aa,ab]at h |-;exact h)|(rename_i x y z;have aa:=iS x (by simp[Op.operands]);have ab:=iS y (by simp[Op.operands]);have ag:=iS z (by simp[Op.operands]);simp only[cF,dR,aa,ab,ag]at h |-;exact h)|(rename_i x y;have aa:=iS x (by simp[Op.operands]);simp only[cF,dR,aa]at h |-;exact h)|(rename_i x y;have aa:=iS y (by simp[Op.operands]);simp only[cF,dR,aa]at h |-;exact h)|(rename_i x y z;have aa:=iS x (by simp[Op.operands]);have ab:=iS y (by simp[Op.operands]);simp only[cF,dR,aa,ab]at h |-;exact h)|(rename_i x y z;have aa:=iS y (by simp[Op.operands]);have ab:=iS z (by simp[Op.operands]);simp only[cF,dR,aa,ab]at h |-;exact h)|(rename_i o x y z u;have aa:=iS y (by simp[Op.operands]);have ab:=iS z (by simp[Op.operands]);simp only[cF,dR,aa,ab]at h |-;exact h)|(rename_i x y z u;have aa:=iS z (by simp[Op.operands]);have ab:=iS y (by simp[Op.operands]);simp only[cF,dR,aa,ab]at h |-;exact h)
end
section
variable{X:c3}{C:dp}{I:aZ}{M:List aB}
def adY{op:BinOp}{dk:Option dU}{x y:dn}{V:Value->Prop}{O:Prop}(h:lj op dk x y V O) :
  (∃ r,V r/\∀ qV,lj op dk x y (λz=>z=r) qV)\/(O/\∀ (MJ:Value->Prop) (qV:Prop),qV->lj op dk x y MJ qV):=by
 unfold lj at h;split at h
 ·left
  split at h;·obtain⟨j,an,⟨r,ak,af⟩⟩:=h;exact⟨_,af,λqV=>by unfold lj;exact⟨j,an,⟨r,ak,rfl⟩⟩⟩
  ·obtain⟨j,an,af⟩:=h;exact⟨_,af,λqV=>by unfold lj;exact⟨j,an,rfl⟩⟩
  ·rename_i _ _ k a dJ b _ fs kJ;cases hc:IntKind.l' k dJ with
   |false=>rw[hc]at h;exact h.elim
   |true=>
    rw[hc]at h;simp only[bl]at h;cases op<;>simp only at h
    case add=>obtain⟨r,ak,af⟩:=h;exact⟨_,af,λqV=>by simp only[lj,hc,bl];exact⟨r,ak,rfl⟩⟩
    case sub=>obtain⟨r,ak,af⟩:=h;exact⟨_,af,λqV=>by simp only[lj,hc,bl];exact⟨r,ak,rfl⟩⟩
    case mul=>obtain⟨r,ak,af⟩:=h;exact⟨_,af,λqV=>by simp only[lj,hc,bl];exact⟨r,ak,rfl⟩⟩
    case quo=>obtain⟨ar,⟨r,ak,af⟩⟩:=h;exact⟨_,af,λqV=>by simp only[lj,hc,bl];exact⟨ar,⟨r,ak,rfl⟩⟩⟩
    case rem=>obtain⟨ar,af⟩:=h;exact⟨_,af,λqV=>by simp only[lj,hc,bl];first | exact⟨ar,rfl⟩ | exact⟨ar,trivial⟩⟩
    case shl=>exact(fs rfl).elim
    case shr=>exact(kJ rfl).elim
    all_goals exact⟨_,h,λqV=>by simp only[lj,hc,bl];rfl⟩
 ·cases op<;>first
  |exact .inl ⟨_,h,λ_=>rfl⟩| exact .inr ⟨h,λ_ _ aw=>aw⟩
 ·split at h
  ·cases op<;>first
   |exact .inl ⟨_,h,λ_=>rfl⟩| exact .inr ⟨h,λ_ _ aw=>aw⟩
  ·rename_i aq;refine .inr ⟨h,λMJ qV aw=>?_⟩;cases dk with
   |none=>exact aw
   |some i=>
    obtain⟨s,b,z,bE⟩:=i;cases bE<;>first
     |exact aw| exact(aq _ _ _ rfl).elim
 ·rename_i aa ab ag;refine .inr ⟨h,λMJ qV aw=>?_⟩;unfold lj;split<;>first
   |exact aw| exact(aa _ _ _ _ rfl rfl).elim| exact(ab _ _ rfl rfl).elim| exact(ag _ _ rfl rfl).elim
def adZ{ρ:Operand->dn}{V:dn->Prop}(h:cF X op ρ C I M V False):∃ x,V x/\cF X op ρ C I M (λy=>y=x) False:=by
 cases op
 case move x=>exact⟨_,h,rfl⟩
 case assign x=>exact⟨_,h,rfl⟩
 case pick c p q=>
  simp only[cF]at h |-;split at h;·exact⟨_,h,rfl⟩
  ·exact⟨_,h,rfl⟩
  ·exact h.elim
 case unOp op t x=>
  simp only[cF]at h |-;split at h;·exact⟨_,h,rfl⟩
  ·exact⟨_,h,rfl⟩
  ·obtain⟨r,ak,af⟩:=h;exact⟨_,af,⟨r,ak,rfl⟩⟩
  ·exact h.elim
 case binOp op t x y ty=>
  simp only[cF]at h |-;rcases adY h with⟨r,aa,ab⟩ | ⟨⟨pW,fa,r,aD,aM,ak,af⟩ | aa,ab⟩
  ·refine⟨_,aa,?_⟩;have:(λv=>dn.val v=dn.val r)=(λz=>z=r):=by funext v;simp
   rw[this];exact ab _
  ·exact⟨_,af,ab _ _ (.mk pW fa r aD aM ak rfl)⟩
  ·exact aa.elim
 case load t x=>
  simp only[cF]at h |-;split at h
  ·split at h
   ·split at h
    ·rename_i i hi _ s off ap _ cs aA;cases bs:Nat.ble (off+i.size) cs.length with
     |false=>rw[bs]at h;exact h.elim| true=>rw[bs]at h;exact⟨_,h,rfl⟩
    ·exact h.elim
   ·obtain⟨vs,ak,af⟩:=h;exact⟨_,af,⟨vs,ak,rfl⟩⟩
   ·exact h.elim
  ·exact h.elim
 case nilCheck x=>
  simp only[cF]at h |-;split at h;·exact⟨_,h,rfl⟩
  ·exact⟨_,h,rfl⟩
  ·exact h.elim
 case fieldAddr t x i=>
  simp only[cF]at h |-;split at h
  ·split at h
   ·split at h
    ·rename_i g2 s o' ma ae;cases bf:Nat.beq g2.size 0 with
     |true=>rw[bf]at h;exact h.elim| false=>rw[bf]at h;exact⟨_,h,rfl⟩
    ·rename_i g2 s ma ae;cases bf:Nat.beq g2.size 0 with
     |true=>rw[bf]at h;exact h.elim| false=>rw[bf]at h;exact⟨_,h,rfl⟩
    ·exact h.elim
   ·exact h.elim
  ·exact h.elim
 case field t x i=>
  simp only[cF]at h |-;split at h
  ·split at h
   ·split at h
    ·rename_i sz hU z cE cs ay ae _ l9 off nl _ g2 ma;cases bs:Nat.ble (off+g2.size) cs.size with
     |false=>rw[bs]at h;exact h.elim| true=>rw[bs]at h;exact⟨_,h,rfl⟩
    ·exact h.elim
   ·exact h.elim
  ·exact h.elim
 case indexAddr t x i=>
  simp only[cF]at h |-;split at h
  ·split at h
   ·obtain⟨ad,j,aa,ab,ag,af⟩:=h;exact⟨_,af,⟨ad,j,aa,ab,ag,rfl⟩⟩
   ·exact h.elim
  ·split at h
   ·obtain⟨j,ab,ag,af⟩:=h;exact⟨_,af,⟨j,ab,ag,rfl⟩⟩
   ·obtain⟨j,ab,ag,af⟩:=h;exact⟨_,af,⟨j,ab,ag,rfl⟩⟩
   ·exact h.elim
  ·exact h.elim
 case index t x i=>
  simp only[cF]at h |-;split at h;·obtain⟨j,ab,ag,af⟩:=h;exact⟨_,af,⟨j,ab,ag,rfl⟩⟩
  ·split at h
   ·rename_i n e cs fG k ay ae hi _ aH hy;cases bf:Nat.beq (n*aH.size) cs.size with
    |false=>rw[bf]at h;exact h.elim| true=>rw[bf]at h;obtain⟨j,ab,ag,af⟩:=h;exact⟨_,af,⟨j,ab,ag,rfl⟩⟩
   ·exact h.elim
  ·exact h.elim
 case build t ps=>
  simp only[cF]at h |-;split at h
  ·split at h
   ·rename_i i vs ay h7 _ cE np;cases aD:Ci X.E cE with
    |false=>rw[aD]at h;exact h.elim
    |true=>
     rw[aD]at h;simp only[bl]at h |-;split at h;·exact⟨_,h,rfl⟩
     ·exact h.elim
   ·split at h
    ·split at h
     ·exact⟨_,h,rfl⟩
     ·exact h.elim
    ·exact h.elim
   ·exact h.elim
  ·exact h.elim
 case makeFunc fn first captured=>
  simp only[cF]at h |-;split at h;·exact⟨_,h,rfl⟩
  ·exact h.elim
 case slice t x lo hi mx=>
  simp only[cF]at h |-;split at h
  ·split at h
   ·exact⟨_,h,rfl⟩
   ·obtain⟨l,m,aa,ab,ag,aW,af⟩:=h;exact⟨_,af,⟨l,m,aa,ab,ag,aW,rfl⟩⟩
   ·obtain⟨l,m,aa,ab,ag,aW,af⟩:=h;exact⟨_,af,⟨l,m,aa,ab,ag,aW,rfl⟩⟩
   ·obtain⟨l,m,aa,ab,ag,aW,af⟩:=h;exact⟨_,af,⟨l,m,aa,ab,ag,aW,rfl⟩⟩
   ·exact h.elim
  ·split at h
   ·exact⟨_,h,rfl⟩
   ·obtain⟨l,m,aa,ab,ag,aW,af⟩:=h;exact⟨_,af,⟨l,m,aa,ab,ag,aW,rfl⟩⟩
   ·obtain⟨l,m,aa,ab,ag,aW,af⟩:=h;exact⟨_,af,⟨l,m,aa,ab,ag,aW,rfl⟩⟩
   ·obtain⟨l,m,aa,ab,ag,aW,af⟩:=h;exact⟨_,af,⟨l,m,aa,ab,ag,aW,rfl⟩⟩
   ·exact h.elim
  ·exact h.elim
 case extract x i=>
  simp only[cF]at h |-;split at h
  ·split at h
   ·exact⟨_,h,rfl⟩
   ·exact h.elim
  ·exact h.elim
 case convert s d x=>
  simp only[cF]at h |-;split at h;·obtain⟨r,ak,af⟩:=h;exact⟨_,af,⟨r,ak,rfl⟩⟩
  ·exact h.elim
 case call c=>
  obtain⟨callee,args,argTypes⟩:=c;cases callee with
  |value f=>exact h.elim| invoke r m=>exact h.elim
  |builtin b=>
   cases b
   case len=>
    simp only[cF]at h |-;split at h
    ·split at h
     ·exact⟨_,h,rfl⟩
     ·exact⟨_,h,rfl⟩
     ·exact⟨_,h,rfl⟩
     ·exact h.elim
    ·exact h.elim
   case cap=>
    simp only[cF]at h |-;split at h
    ·split at h
     ·exact⟨_,h,rfl⟩
     ·exact h.elim
    ·exact h.elim
   case max=>
    simp only[cF]at h |-;split at h;·exact⟨_,h,rfl⟩
    ·exact h.elim
   case min=>
    simp only[cF]at h |-;split at h;·exact⟨_,h,rfl⟩
    ·exact h.elim
   case unsafeSliceData=>
    simp only[cF]at h |-;split at h;·exact⟨_,h,rfl⟩
    ·obtain⟨aa,ab⟩:=h;exact⟨_,ab,⟨aa,rfl⟩⟩
    ·exact h.elim
   all_goals exact h.elim
 all_goals exact h.elim
end
def hH.mono{I I':aZ}{M M':List aB}{b:Nat}{o:Obj}(h:hH I M b o)(bA:∀ b o,I b=some o->I' b=some o)(a1:∀ x∈M,x∈M'):hH I' M' b o:=by
 rcases h with h | ⟨x,ae,aa,ab⟩
 ·exact .inl (bA _ _ h)
 ·exact .inr ⟨x,a1 x ae,aa,ab⟩
def hH.move{I I':aZ}{M M':List aB}{b:Nat}{o:Obj}(h:hH I M b o)(bA:∀ b o,I b=some o->I' b=some o)(a1:∀ x∈M,I' x.num=some x.obj\/x∈M'):hH I' M' b o:=by
 rcases h with h | ⟨x,ae,rfl,rfl⟩
 ·exact .inl (bA _ _ h)
 ·rcases a1 x ae with h | h
  ·exact .inl h
  ·exact .inr ⟨x,h,rfl,rfl⟩
def Tx(F:Fr)(op:Op)(C C':dp)(I I':aZ)(M M':List aB):Prop:=(∀ t x y s off,op=.store t x y->dq F x=.ref s off->((∀ cc,cc≠s->C' cc=C cc)/\∀ b o,I b=some o->I' b=some o)/\∀ b o,hH I M b o->hH I' M' b o)/\(∀ t x y ad,op=.store t x y->dq F x=.val (.pointer (some ad))->C'=C/\∀ b o,I b=some o->I' b=some o)/\((∀ t x y,op≠.store t x y)->C'=C/\∀ b o,I b=some o->I' b=some o)
def ad0(X:c3)(β:Nat->Nat)(G F:Fr)(C:dp)(I:aZ)(M:List aB)(ad1:Bool)(op:Op)(dst:Option Nat)(a:Act)(K:fX)(bY:Act)(w':World):Prop:=
 ∃ v x C' I' M',bY=a.put dst v/\eF β x v/\cV X β a w' G C' I' M'/\K (put dst x F) C' I' M'/\((ad1=true/\Tx F op C C' I I' M M')\/(C'=C/\(∀ b o,I b=some o->I' b=some o)/\∀ b o,hH I M b o->hH I' M' b o))
def ad2{X:c3}{β:Nat->Nat}{F G:Fr}{C:dp}{I:aZ}{M:List aB}{o:Oper}{K:fX}(aN:c2 X.P X.E)
  (h:cV X β a w G C I M) (iu:∀ y∈o.op.operands,dq G y=dq F y) (aj:vl X false soft o F C I M K):o.wpIn (gP X) 0 X.P a w (ad0 X β G F C I M soft o.op o.dst a K) Q:=by
 obtain⟨dst,op,ty,pos,after,guard⟩:=o;have aJ:=h.al;have n8:∀ {y:Operand} {v:Value},y∈op.operands->bB F y=.val v->a.eval y=v:=fun {y v} aF he=>dh aJ (by simp only[bB,dR,iu y aF];exact he);cases op
 case alloc t=>
  simp only[vl,bh]at aj;split at aj
  ·rename_i d i hi;obtain⟨z,bf,w6⟩:=(aN _ _ hi).EX w;have Cn:z.cells=i.zero.toArray:=by rw[<-w6]
   obtain⟨aj⟩:=aj;have af:=aj w.heap.size h.holds.rL h.holds.qO;refine il (by simp) (v:=.pointer (some ⟨w.heap.size,0,none⟩)) (w':=w.alloc (.cells i.zero.toArray t (0,0))) ?_ ⟨_,.val _,_,_,_,rfl,rfl,h.o0 _,af,.inr ⟨rfl,λ_ _ h=>h,λb o ai=>ai.mono (λ_ _ h=>h) (λx ae=>by simp[ae])⟩⟩;simp[execOp,Instr.alloc,newVar,newRow,bf,Cn,Ad]
  ·exact aj.elim
 case store t x y=>
  simp only[vl,bh]at aj;cases soft with
  |false=>exact aj.elim
  |true=>
   simp only[bl,gQ]at aj;split at aj
   ·rename_i i v hi aF;have vh:=n8 (by simp[Op.operands]) aF;split at aj
    ·rename_i s off ae;have kK:=Ah aJ ((iu x (by simp[Op.operands])).trans ae);split at aj
     ·rename_i cs ap;cases bs:(Nat.ble (off+i.size) cs.length&&(Nat.beq v.cells.size i.size&&fO v.cells.toList))with
      |false=>rw[bs]at aj;exact aj.elim
      |true=>
       rw[bs]at aj;simp only[b']at bs;obtain⟨bs,df,ll⟩:=bs;have vd:=bS bs;have Am:=c6 df;obtain⟨T,bp⟩:=(h.ck s cs ap).aO;have:=IB (aN _ _ hi) (a:=⟨β s,off,none⟩) (v:=v) rfl bp Am (by simp;omega) ll;refine Cj (by simp) (w':=w.setRow (β s) (bo cs off v.cells.toList).toArray) ?_ ⟨undef,.mG,_,_,_,rfl,trivial,h.S1 ap (bo cs off v.cells.toList),aj,.inl ⟨rfl,λcZ kc Ty cc Iz az aE=>(by
        cases az;rw[ae]at aE;cases aE;refine⟨⟨λs2 bK=>?_,λ_ _ h=>h⟩,λ_ _ h=>h⟩;unfold iO;rw[g3 bK];rfl),λcZ kc Ty vo az aE=>(by
        cases az;rw[ae]at aE;cases aE),λAt=>absurd rfl (At _ _ _)⟩⟩
       simp only[execOp,Instr.storeAt,kK,vh,Instr.sureAddr,cm,c9,b3];simp only[ER]at this;rw[this];rfl
     ·exact aj.elim
    ·rename_i ad ae;have kK:=tR aJ ((iu x (by simp[Op.operands])).trans ae);cases df:Nat.beq v.cells.size i.size with
     |false=>rw[df]at aj;exact aj.elim| true=>rw[df]at aj;obtain⟨bc,post,cs,T,a1,ch,ai,ll,af⟩:=aj;have Am:=c6 df;have au:w.heap[ad.block]?=some (.cells cs T (0,0)):=h.holds.m ⟨ad.block,.cells cs T (0,0)⟩ (by rw[a1];simp);have:=IB (aN _ _ hi) (v:=v) ch au Am ai ll;refine Cj (by simp) (w':=w.setRow ad.block (bo cs.toList ad.off v.cells.toList).toArray) ?_ ⟨undef,.mG,_,_,_,rfl,trivial,h.vb a1,af,.inl ⟨rfl,λcZ kc Ty cc Iz az aE=>(by cases az;rw[ae]at aE;cases aE),λ_ _ _ _ _ _=>⟨rfl,λ_ _ h=>h⟩,λAt=>absurd rfl (At _ _ _)⟩⟩;simp only[execOp,Instr.storeAt,kK,vh,Instr.sureAddr,cm,c9,b3];rw[this];rfl
    ·exact aj.elim
   ·exact aj.elim
 case buildSlice t len parts=>
  simp only[vl,bh,gQ]at aj;have ad3:Ag G parts.toList=Ag F parts.toList:=MI λy aF=>iu y (by simpa[Op.operands]using aF);rw[<-ad3]at aj;split at aj
  ·rename_i sz hU z e vs ay h7;have hu:=(aN _ _ ay).slice;have aD:=Ix aJ h7;have yA:(parts.map λ(i,x)=>(i,a.eval x)).toList=vs:=by simpa using aD
   split at aj
   ·rename_i aH hy;cases bf:(Nat.ble (len*aH.size) 16777216&&Nat.blt 0 (len*aH.size))with
    |false=>
     rw[bf]at aj;simp only[bh]at aj;split at aj
     ·rename_i adz;obtain⟨aj⟩:=aj;have af:=aj w.heap.size h.holds.rL h.holds.qO;refine il (by simp) (v:=.slice (some ⟨w.heap.size,0,none⟩) 0 0) (w':=w.alloc (.cells #[] e (0,0))) ?_ ⟨_,.val _,_,_,_,rfl,rfl,h.o0 _,af,.inr ⟨rfl,λ_ _ h=>h,λb o ai=>ai.mono (λ_ _ h=>h) (λx ae=>by simp[ae])⟩⟩;simp only[execOp,Instr.buildSlice,cm,b3,run_underlying hu,(aN _ _ hy).run_sizeOf,yA];have cG:∀ f:Nat->Value,Array.map f (Array.range 0)=#[]:=λf=>by apply Array.ext<;>simp
      simp[newRow,Ad,Instr.fill,cG]
     ·exact aj.elim
    |true=>
     rw[bf]at aj;simp only[bl]at aj;rw[b']at bf;have bs:=bS bf.1;have jV:0<len*aH.size:=by simpa using bf.2
     split at aj;·rename_i cells vf;obtain⟨sO,An,w6⟩:=(aN _ _ hy).EX w;obtain⟨aj⟩:=aj;have af:=aj w.heap.size h.holds.rL h.holds.qO;refine il (by simp) (v:=.slice (some ⟨w.heap.size,0,none⟩) len len) (w':=w.alloc (.cells cells.toArray e (0,0))) ?_ ⟨_,.val _,_,_,_,rfl,rfl,h.o0 _,af,.inr ⟨rfl,λ_ _ h=>h,λb o ai=>ai.mono (λ_ _ h=>h) (λx ae=>by simp[ae])⟩⟩;have vg:=fill_eq _ _ _ _ vf;simp only[execOp,Instr.buildSlice,cm,b3,run_underlying hu,(aN _ _ hy).run_sizeOf];rw[cb (by omega)];simp only[cb (show ¬ len*aH.size=0 by omega),cm,An,b3,c9,yA,S9 sO aH.zero w6,vg];simp[newRow,Ad]
     ·exact aj.elim
   ·exact aj.elim
  ·exact aj.elim
 case makeSlice t l c=>
  simp only[vl,bh,gQ]at aj;split at aj
  ·rename_i sz hU z e iR cR gR c' ay av aA;have hu:=(aN _ _ ay).slice;have kd:=n8 (by simp[Op.operands]) av;have rQ:=n8 (by simp[Op.operands]) aA;split at aj
   ·rename_i aH hy;obtain⟨n,m,rfl,rfl,n6,ai,hm,⟨aj⟩⟩:=aj;have af:=aj w.heap.size h.holds.rL h.holds.qO;obtain⟨inf,sO,fb,hV,iq,kM,Ao⟩:=(aN _ _ hy).inf;refine il (by simp) (v:=.slice (some ⟨w.heap.size,0,none⟩) n m) (w':=w.alloc (.cells (rowOf aH.zero (m*aH.size)).toArray e (0,0))) ?_ ⟨_,.val _,_,_,_,rfl,rfl,h.o0 _,af,.inr ⟨rfl,λ_ _ h=>h,λb o ai=>ai.mono (λ_ _ h=>h) (λx ae=>by simp[ae])⟩⟩;have gq:((aH.bytes:Nat):Int)*(m:Int)<=281474976710656:=by
     have ab:((aH.bytes*m:Nat):Int)<=281474976710656:=by omega
     simpa using ab
    have:=run_make (P:=X.P) w t e inf sO hu fb kM iR gR (n:Int) (m:Int) (by omega) (by omega) (by rw[iq];exact gq) (by omega);simp only[execOp,kd,rQ,cm,this,b3,c9,qK];have az:madeCells sO.cells (m*inf.size)=(rowOf aH.zero (m*aH.size)).toArray:=by rw[hV,<-Ao];simp[w1]
    rw[az]
   ·exact aj.elim
  ·exact aj.elim
 case call c=>
  obtain⟨callee,args,argTypes⟩:=c;cases callee with
  |value f=>
   simp only[vl,bh]at aj;split at aj
   ·rename_i g first cap vs yB h7
    have ad4:l8 G args.toList=some vs:=by rw[<-h7];exact xd λy aF=>iu y (by simp only[Op.operands,Call.operands];simp;right;simpa using aF)
    have ad5:=n8 (by simp[Op.operands,Call.operands]) yB;obtain⟨cU,dI,Mr,post,ad6,bO,ap,af⟩:=aj.elim ⟨h.holds.d,h.holds.bT⟩;have az:=sJ aJ ad4;have ei:args.map a.eval=vs.toArray:=by apply gO;simpa using az
    have eV:∀ {n:Next} {w':World},(callFunc g (first.toList++vs++cap.toList).toArray).run X.P w=.ok n w'->(execOp a.eval ⟨dst,.call { callee:=.value f,args,argTypes },ty,pos,after,guard⟩).run X.P w=.ok n w':=λak=>by simp only[execOp,resolve,ad5,Deferred.ofValue,cm,c9,b3,ei,invoke];rw[show first++vs.toArray++cap=(first.toList++vs++cap.toList).toArray from by apply gO;simp];exact ak
    have Tz:∀ {I':aZ} {M':List aB},(∀ b o,I b=some o->I' b=some o)->(soft=true\/∀ x∈M,I' x.num=some x.obj\/x∈M')->(soft=true/\Tx F (.call { callee:=.value f,args,argTypes }) C C I I' M M')\/(C=C/\(∀ b o,I b=some o->I' b=some o)/\∀ b o,hH I M b o->hH I' M' b o):=λaa ab=>by
     rcases ab with ab | ab;·exact .inl ⟨ab,⟨λt x y s off e _=>(by cases e),λt x y ad e _=>(by cases e),λ_=>⟨rfl,aa⟩⟩⟩
     ·exact .inr ⟨rfl,aa,λb o ai=>ai.move aa ab⟩
    rcases h.call (KC:=λv I' M'=>(∀ b o,I b=some o->I' b=some o)/\(soft=true\/∀ x∈M,I' x.num=some x.obj\/x∈M')/\K (Go.V.put dst (.val v) F) C I' M') (.Ch cU dI Mr post ad6 ap λv I' M' bs ah aD=>⟨λb o ai=>bs _ _ (bO _ _ ai),(af v I' M' bs ah aD).1,(af v I' M' bs ah aD).2⟩)with⟨pX,Ap⟩ | ⟨v,w',I',M',ak,⟨aa,ab,af⟩,gZ⟩;·refine S8 (by simp) (f:=g) (args:=(first.toList++vs++cap.toList).toArray) (eV (pX _ _)) ?_;refine Ap.mono ?_;rintro e w'⟨v,I',M',rfl,⟨aa,ab,af⟩,ak⟩;exact⟨v,rfl,v,.val v,C,I',M',rfl,rfl,ak,af,Tz aa ab⟩
    ·exact il (by simp) (eV ak) ⟨v,.val v,C,I',M',rfl,rfl,gZ,af,Tz aa ab⟩
   ·exact aj.elim
  |invoke r m=>exact aj.elim
  |builtin b=>
   cases b
   case append=>
    simp only[vl,bh]at aj;cases soft with
    |false=>exact aj.elim| true=>simp only[bl]at aj;obtain⟨aj⟩:=aj G iu;refine sE (λbY w'=>?_) (aj β a w Q h);rintro⟨v,x,I',M',aa,ab,ag,aW,MK⟩;exact⟨v,x,C,I',M',aa,ab,ag,aW,.inl ⟨rfl,⟨λt x y s off e _=>(by cases e),λt x y ad e _=>(by cases e),λ_=>⟨rfl,λb o h=>by rw[MK];exact h⟩⟩⟩⟩
   case copy=>
    simp only[vl,bh]at aj;cases soft with
    |false=>exact aj.elim| true=>simp only[bl]at aj;obtain⟨aj⟩:=aj G iu;refine sE (λbY w'=>?_) (aj β a w Q h);rintro⟨v,x,I',M',aa,ab,ag,aW,MK⟩;exact⟨v,x,C,I',M',aa,ab,ag,aW,.inl ⟨rfl,⟨λt x y s off e _=>(by cases e),λt x y ad e _=>(by cases e),λ_=>⟨rfl,λb o h=>by rw[MK];exact h⟩⟩⟩⟩
   all_goals exact aj.elim
 all_goals exact aj.elim
def sR(x y:dn):Prop:=∀ β u,eF β x u->eF β y u
def sR.refl(x:dn):sR x x:=λ_ _ h=>h
def sR.trans{x y z:dn}(h:sR x y)(aX:sR y z):sR x z:=fun β u hu=>aX β u (h β u hu)
structure vp(ops:List Oper):Prop where
 lt:∀ j e,me ops j e->e<j
 own:∀ (j:Nat) (o:Oper) (d:Nat),ops[j]?=some o->o.dst=some d->d ∉ looks ops o
 ML:∀ (i j:Nat) (gg mc:Oper) (d:Nat),i≠j->ops[i]?=some gg->ops[j]?=some mc->gg.dst=some d->mc.dst≠some d
 ord:∀ (i j:Nat) (gg mc:Oper) (d:Nat),i≠j->ops[i]?=some gg->ops[j]?=some mc->gg.dst=some d->d∈looks ops mc->o6 ops i j\/o6 ops j i
def TA(h:Cw ops=true):vp ops:=by
 have key:∀ (j:Nat) (mc:Oper),ops[j]?=some mc->_:=λj mc an=>by have aR:j<ops.length:=(hT.1 an).1;have aa:=eP.1 h j (lF.2 aR);simp only[an,b']at aa;exact aa
 refine⟨?_,?_,?_,?_⟩
 ·rintro j e⟨o,mJ,aw,qW,ai,rfl⟩;have aa:=eP.1 (key j o aw).1 mJ (by simpa using qW);rw[ai]at aa;simpa using aa
 ·intro j o d aw ah;have aa:=(key j o aw).2.1;rw[ah]at aa;simpa using aa
 ·intro i j gg mc d bK hi an ah hd;have aR:i<ops.length:=(hT.1 hi).1;have aa:=eP.1 (key j mc an).2.2 i (lF.2 aR);rw[g3 bK]at aa;simp only[hi,ah,u7,b']at aa;rw[hd]at aa;simp at aa
 ·intro i j gg mc d bK hi an ah av;have aR:i<ops.length:=(hT.1 hi).1;have aa:=eP.1 (key j mc an).2.2 i (lF.2 aR);rw[g3 bK]at aa;simp only[hi,ah,u7,b',kH]at aa;rcases aa.2 with ab | ab | ab
  ·have:(looks ops mc).contains d=true:=by simpa using av
   rw[this]at ab;cases ab
  ·exact .inl (yJ ab)
  ·exact .inr (yJ ab)
def iv(ops:List Oper)(i:Nat):Option Nat:=(ops[i]?).bind (·.dst)
def kh(L:Nat->Prop)(p i:Nat):Prop:=p.testBit i=true/\¬ L i
def yK(ops:List Oper)(o:Oper)(F:Fr):Prop:=match o.guard with
 |none=>True| some (j,b)=>∃ d,iv ops j=some d/\F d=.lit b
def IT(ops:List Oper)(o:Oper)(F:Fr):Prop:=∃ j b d,o.guard=some (j,b)/\iv ops j=some d/\(F d=.lit (!b)\/∃ vs,F d=.val (.tuple vs))
def MM{o:Oper}{j d:Nat}{b:Bool}(au:o.guard=some (j,b))(ah:iv ops j=some d):d∈looks ops o:=by unfold looks Oper.looksAt;refine pS _ ?_;rw[au];simp only[Option.mem_toList];simpa[iv]using ah
def MN{o:Oper}{t:Nat}(h:Operand.tmp t∈o.op.operands):t∈looks ops o:=
 kF _ (List.mem_filterMap.2 ⟨.tmp t,by simpa using h,rfl⟩)
def TB{o:Oper}{F:Fr}{β:Nat->Nat}(h:yK ops o F)(bU:∀ t∈looks ops o,eF β (F t) (a.tmps.getD t undef)):Region.wanted o (yielded ops.toArray a.tmps)=true:=by
 unfold yK at h;unfold Region.wanted;cases au:o.guard with
 |none=>rfl| some E1=>obtain⟨j,b⟩:=E1;rw[au]at h;obtain⟨d,ah,av⟩:=h;have aa:=bU d (MM au ah);rw[av]at aa;have aF:=E0 (ops:=ops.toArray) (j:=j) (d:=d) (by simpa[iv]using ah) a.tmps;simp[aF,Cq aa]
def TC{o:Oper}{F:Fr}{β:Nat->Nat}(h:IT ops o F)(bU:∀ t∈looks ops o,eF β (F t) (a.tmps.getD t undef)):Region.wanted o (yielded ops.toArray a.tmps)=false:=by
 obtain⟨j,b,d,au,ah,av⟩:=h;unfold Region.wanted;have aa:=bU d (MM au ah);have aF:=E0 (ops:=ops.toArray) (j:=j) (d:=d) (by simpa[iv]using ah) a.tmps;rw[au];rcases av with av | ⟨vs,av⟩
 ·rw[av]at aa;simp[aF,Cq aa]
 ·rw[av]at aa;have Aq:yielded ops.toArray a.tmps j=none:=by
   rw[aF];cases lI:a.tmps[d]? with
   |none=>rfl| some v=>simp only[eF,oV,lI,jS]at aa;subst aa;rfl
  simp[Aq]
def TD{o:Oper}{F:Fr}{run skip:Fr->Prop}(h:IR ops o F run skip):∃ kP,(∀ t,sR (F t) (kP t))/\((yK ops o kP/\run kP)\/(IT ops o kP/\skip kP)):=by
 unfold IR at h;cases au:o.guard with
 |none=>rw[au]at h;exact⟨F,λt=>.refl _,.inl ⟨by simp[yK,au],h⟩⟩
 |some E1=>
  obtain⟨j,b⟩:=E1;rw[au]at h;simp only at h;split at h;·exact h.elim
  ·rename_i d ah;have hd:iv ops j=some d:=ah;split at h
   ·rename_i c aA;refine⟨F,λt=>.refl _,?_⟩;cases jg:(c == b)with
    |true=>
     rw[jg]at h;have jg:c=b:=by simpa using jg
     subst jg;exact .inl ⟨by simp only[yK,au];exact⟨d,hd,aA⟩,h⟩
    |false=>
     rw[jg]at h;have IU:c=!b:=by cases c<;>cases b<;>simp_all
     subst IU;exact .inr ⟨⟨j,b,d,au,hd,.inl aA⟩,h⟩
   ·rename_i c aA;obtain⟨aa,ab⟩:=h;have hp:∀ x,c=x->∀ t,sR (F t) (fz F d (.lit x) t):=λx ae t=>by
     unfold fz;by_cases e:t=d;·subst e;subst ae;simp only[qN,bl,aA];exact λ_ _ h=>h
     ·simp only[g3 e,bh];exact .refl _
    have self:∀ x,fz F d (.lit x) d=.lit x:=λx=>by simp[fz]
    by_cases jg:c=b;·exact⟨_,hp b jg,.inl ⟨by simp only[yK,au];exact⟨d,hd,self b⟩,aa jg⟩⟩
    ·have IU:c=!b:=by cases c<;>cases b<;>simp_all
     exact⟨_,hp _ IU,.inr ⟨⟨j,b,d,au,hd,.inl (self _)⟩,ab IU⟩⟩
   ·rename_i vs aA;exact⟨F,λt=>.refl _,.inr ⟨⟨j,b,d,au,hd,.inr ⟨vs,aA⟩⟩,h⟩⟩
   ·exact h.elim
structure ad7(X:c3)(ops:List Oper)(im':Nat->Bool)(L:Nat->Prop)(p:Nat)(ck:List (Nat×Nat))(β:Nat->Nat)(a:Act)(F:Fr)(C:dp)(I:aZ)(M:List aB)(hg:Nat->dn)(gr:Nat->Fr)(q:Nat)(o:Oper):Prop where
 quiet:Cu o.op=true
 hp:∀ d,o.dst=some d->sR (hg q) (F d)
 b:∀ t∈looks ops o,∀ i,kh L p i->o6 ops i q->iv ops i=some t->sR (hg i) (gr q t)
 a:∀ t∈looks ops o,(∀ i,kh L p i->o6 ops i q->iv ops i≠some t)->eF β (gr q t) (a.tmps.getD t undef)
 r:(yK ops o (gr q)/\cF X o.op (dq (gr q)) C I (vm (im' q) M) (λx=>x=hg q) False/\∀ t x,o.op=.load t x->(q,IS (dq (gr q) x))∈ck)\/(IT ops o (gr q)/\hg q=.val undef)
structure Inv(X:c3)(ops:List Oper)(im':Nat->Bool)(L:Nat->Prop)(β:Nat->Nat)(a:Act)(w:World)(F:Fr)(C:dp)(I:aZ)(M:List aB)(p:Nat)(ck:List (Nat×Nat))(hg:Nat->dn)(gr:Nat->Fr):Prop where
 rel:cV X β a w (λ_=>.mG) C I M
 sub:∀ i,L i->p.testBit i=true
 vq:As ops L
 qX:As ops (λi=>p.testBit i=true)
 T:∀ t,(∀ i,kh L p i->iv ops i≠some t)->eF β (F t) (a.tmps.getD t undef)
 yL:∀ q,kh L p q->∃ o,ops[q]?=some o/\ad7 X ops im' L p ck β a F C I M hg gr q o
def mf{p q i:Nat}:(p ||| 2^q).testBit i=true ↔ p.testBit i=true\/i=q:=by simp only[Iq,kH,Il,eU];exact⟨λh=>h.imp id Eq.symm,λh=>h.imp id Eq.symm⟩
section
variable{X:c3}{ops:List Oper}{im':Nat->Bool}{L:Nat->Prop}{β:Nat->Nat}{a:Act}{w:World}{F:Fr}{C:dp}{I:aZ}{M:List aB}{p:Nat}{ck:List (Nat×Nat)}{hg:Nat->dn}{gr:Nat->Fr}{q:Nat}{o:Oper}
def Fc(h:ops[q]?=some o):iv ops q=o.dst:=by simp[iv,h]
def Fe{i d:Nat}(h:iv ops i=some d):∃ gg,ops[i]?=some gg/\gg.dst=some d:=by unfold iv at h;exact Ml.1 h
def Inv.ahead(di:vp ops)(TE:As ops (λi=>p.testBit i=true))(aM:ops[q]?=some o)(kQ:p.testBit q=false){i t:Nat}(hi:p.testBit i=true)(ay:t∈looks ops o)(ah:iv ops i=some t):o6 ops i q:=by
 obtain⟨gg,hJ,p2⟩:=Fe ah;have bK:i≠q:=λe=>by rw[e,kQ]at hi;cases hi
 rcases di.ord i q gg o t bK hJ aM p2 ay with h | h
 ·exact h
 ·have:=h.mem TE (λe he=>TE i e hi he);rw[kQ]at this;cases this
def Inv.ad8(di:vp ops)(h:Inv X ops im' L β a w F C I M p ck hg gr)(aM:ops[q]?=some o)(kQ:p.testBit q=false)(bk:∀ e,me ops q e->L e):∀ t∈looks ops o,eF β (F t) (a.tmps.getD t undef):=λt ay=>h.T t λi hi ah=>
 hi.2 ((Inv.ahead di h.qX aM kQ hi.1 ay ah).mem h.vq bk)
def IV{x:dn}{t:Nat}(h:dst≠some t):put dst x F t=F t:=by
 cases dst with
 |none=>rfl| some d=>have:t≠d:=λe=>h (by rw[e]);simp only[put,fz,g3 this,bh]
def put_eq{x:dn}{t:Nat}:put (some t) x F t=x:=by simp[put,fz]
def IW{t:Nat}(h:dst≠some t):(a.put dst v).tmps.getD t undef=a.tmps.getD t undef:=by
 cases dst with
 |none=>rfl| some d=>have:d≠t:=λe=>h (by rw[e]);simp only[Act.put,oV,Cc,cb this]
def MO{t:Nat}(h:t<a.tmps.size):(a.put (some t) v).tmps.getD t undef=v:=by rw[SX a t t v h,cn rfl]
def Inv.record(di:vp ops)(h:Inv X ops im' L β a w F C I M p ck hg gr)(aM:ops[q]?=some o)(kQ:p.testBit q=false)(yI:∀ e,me ops q e->p.testBit e=true)(IX:Cu o.op=true)
  {kP:Fr} (sS:∀ t,sR (F t) (kP t)) {x:dn} {MP:List (Nat×Nat)} (qU:∀ s∈ck,s∈MP) (ak:(yK ops o kP/\cF X o.op (dq kP) C I (vm (im' q) M) (λy=>y=x) False/\∀ t y,o.op=.load t y->(q,IS (dq kP y))∈MP)\/(IT ops o kP/\x=.val undef)) :
  Inv X ops im' L β a w (put o.dst x kP) C I M (p ||| 2^q) MP (λi=>if i=q then x else hg i) (λi=>if i=q then kP else gr i):=by
 have qY:¬ L q:=λe=>by have:=h.sub q e;rw[kQ]at this;cases this
 have p3:∀ {i},kh L (p ||| 2^q) i->i≠q->kh L p i:=λhi bK=>⟨(mf.1 hi.1).resolve_right bK,hi.2⟩;have xe:∀ {i},kh L p i->kh L (p ||| 2^q) i:=λhi=>⟨mf.2 (.inl hi.1),hi.2⟩;have ad9:kh L (p ||| 2^q) q:=⟨mf.2 (.inr rfl),qY⟩;have aea:∀ {i},kh L p i->¬ o6 ops q i:=fun {i} hi ai=>by have:=ai.mem h.qX (λe he=>h.qX i e hi.1 he);rw[kQ]at this;cases this
 refine⟨h.rel,λi hi=>mf.2 (.inl (h.sub i hi)),h.vq,?_,?_,?_⟩
 ·intro j e an he;rcases mf.1 an with an | rfl
  ·exact mf.2 (.inl (h.qX j e an he))
  ·exact mf.2 (.inl (yI e he))
 ·intro t ay;have aa:o.dst≠some t:=λe=>ay q ad9 (by rw[Fc aM,e]);rw[IV aa];exact sS t _ _ (h.T t λi hi=>ay i (xe hi))
 ·intro i hi;by_cases o7:i=q
  ·subst o7;refine⟨o,aM,⟨IX,?_,?_,?_,?_⟩⟩
   ·intro d ah;rw[ah,put_eq];simp only[cn];exact .refl _
   ·intro t ay j an ai vr;have sT:j≠i:=λe=>by subst e;have:=ai.mem h.qX yI;rw[kQ]at this;cases this
    simp only[cb sT,cn];obtain⟨mc,aeb,rR⟩:=h.yL j (p3 an sT);exact(rR.hp t (by rw[<-Fc aeb];exact vr)).trans (sS t)
   ·intro t ay dB;simp only[cn];refine sS t _ _ (h.T t λj an vr=>dB j (xe an) (Inv.ahead di h.qX aM kQ an.1 ay vr) vr)
   ·simpa using ak
  ·obtain⟨gg,hJ,rR⟩:=h.yL i (p3 hi o7);refine⟨gg,hJ,⟨rR.quiet,?_,?_,?_,?_⟩⟩
   ·intro d ah;simp only[cb o7];rw[IV (di.ML i q gg o d o7 hJ aM ah)];exact(rR.hp d ah).trans (sS d)
   ·intro t ay j an ai vr;have Ff:j≠q:=λe=>by subst e;exact aea (p3 hi o7) ai
    simp only[cb o7,cb Ff];exact rR.b t ay j (p3 an Ff) ai vr
   ·intro t ay dB;simp only[cb o7];exact rR.a t ay λj an=>dB j (xe an)
   ·simp only[cb o7];exact rR.r.imp (λ⟨aa,ab,ag⟩=>⟨aa,ab,λt x az=>qU _ (ag t x az)⟩) id
def Inv.exec{yH:Act->World->Prop}(aN:c2 X.P X.E)(di:vp ops)(gE:∀ d,o.dst=some d->d<X.n)(h:Inv X ops im' L β a w F C I M p ck hg gr)(aM:ops[q]?=some o)(aD:kh L p q)(bk:∀ e,me ops q e->L e)
  (eu:∀ bY,Inv X ops im' (λi=>L i\/i=q) β bY w F C I M p ck hg gr->yH bY w):wpOpIn (gP X) 0 X.P ops.toArray Q q yH a w:=by
 obtain⟨o',o8,rR⟩:=h.yL q aD;rw[aM]at o8;cases o8;have Cx:∀ {i},o6 ops i q->¬ kh L p i:=λai hi=>hi.2 (ai.mem h.vq bk);have iw:∀ t∈looks ops o,eF β (gr q t) (a.tmps.getD t undef):=λt ay=>rR.a t ay λi hi ai=>(Cx ai hi).elim;have after:∀ v,eF β (hg q) v->Inv X ops im' (λi=>L i\/i=q) β (a.put o.dst v) w F C I M p ck hg gr:=λv aj=>by
  have p3:∀ {i},kh (λi=>L i\/i=q) p i->kh L p i/\i≠q:=λhi=>⟨⟨hi.1,λe=>hi.2 (.inl e)⟩,λe=>hi.2 (.inr e)⟩;have xe:∀ {i},kh L p i->i≠q->kh (λi=>L i\/i=q) p i:=λhi bK=>⟨hi.1,λe=>e.elim hi.2 bK⟩;refine⟨h.rel.put gE (x:=.mG) trivial |> λh=>h.refine λ_=>trivial,?_,?_,h.qX,?_,?_⟩
  ·rintro i (hi | rfl)
   ·exact h.sub i hi
   ·exact aD.1
  ·rintro j e (an | rfl) he
   ·exact .inl (h.vq j e an he)
   ·exact .inl (bk e he)
  ·intro t ay;by_cases ah:o.dst=some t
   ·have aR:t<a.tmps.size:=by rw[h.rel.size];exact gE t ah
    rw[ah,MO aR];exact rR.hp t ah _ _ aj
   ·rw[IW ah];refine h.T t λi hi p2=>?_;by_cases o7:i=q
    ·subst o7;rw[Fc aM]at p2;exact ah p2
    ·exact ay i (xe hi o7) p2
  ·intro i hi;obtain⟨c7,o7⟩:=p3 hi;obtain⟨gg,hJ,sU⟩:=h.yL i c7;refine⟨gg,hJ,⟨sU.quiet,sU.hp,λt ay j an=>sU.b t ay j (p3 an).1,?_,sU.r⟩⟩;intro t ay dB;by_cases ah:o.dst=some t
   ·have aR:t<a.tmps.size:=by rw[h.rel.size];exact gE t ah
    rw[ah,MO aR];have ai:o6 ops q i:=by
     rcases di.ord q i o gg t (rJ o7) aM hJ ah ay with ai | ai;·exact ai
     ·exact(Cx ai c7).elim
    exact sU.b t ay q aD ai (by rw[Fc aM,ah]) _ _ aj
   ·rw[IW ah];refine sU.a t ay λj an ai vr=>?_;by_cases Ff:j=q
    ·subst Ff;rw[Fc aM]at vr;exact ah vr
    ·exact dB j (xe an Ff) ai vr
 have Fg:ops.toArray[q]?=some o:=by simpa using aM
 unfold wpOpIn;simp only[Fg];rcases rR.r with⟨eV,Cy,-⟩ | ⟨Fh,ae⟩
 ·rw[TB eV iw,cn rfl];let G:Fr:=λt=>if t∈looks ops o then gr q t else .mG
  have iu:∀ t,eF β (G t) (a.tmps.getD t undef):=λt=>by
   by_cases ay:t∈looks ops o;·simp only[G,cn ay];exact iw t ay
   ·simp only[G,cb ay];trivial
  have MQ:∀ y∈o.op.operands,dq G y=dq (gr q) y:=λy aF=>by
   cases y with
   |tmp t=>simp only[dq,G,cn (MN aF)]| const v=>cases v<;>rfl
   |global g=>rfl| func f=>rfl
  have aec:=Tw Cy MQ (C':=C) (I':=I) (M':=M) λ_ _ _=>⟨λ_ _ _=>rfl,λ_ _ _ h=>adT h⟩;obtain⟨dst,op,ty,pos,aed,guard⟩:=o;have cg:∀ c,op≠.defer c:=λc e=>by have:=rR.quiet;rw[e]at this;cases this
  rcases Tc aN (h.rel.refine iu) op ty dst pos aed guard aec with aa | ⟨v,x,jE,ae,rfl⟩;·exact aa.elim
  ·exact il cg jE (eu _ (after v ae))
 ·rw[TC Fh iw];simp only[kG,lG];exact⟨λ_ _=>trivial,eu _ (after undef (by rw[ae];rfl))⟩
end
section
variable{X:c3}{ops:List Oper}{im':Nat->Bool}{L:Nat->Prop}{β:Nat->Nat}{a:Act}{w:World}{F:Fr}{C:dp}{I:aZ}{M:List aB}{p:Nat}{ck:List (Nat×Nat)}{hg:Nat->dn}{gr:Nat->Fr}{q:Nat}{o:Oper}
def Inv.refine(h:Inv X ops im' L β a w F C I M p ck hg gr){kP:Fr}(sS:∀ t,sR (F t) (kP t)):Inv X ops im' L β a w kP C I M p ck hg gr:=
 ⟨h.rel,h.sub,h.vq,h.qX,λt ay=>sS t _ _ (h.T t ay),λi hi=>by
  obtain⟨gg,hJ,aD⟩:=h.yL i hi;exact⟨gg,hJ,⟨aD.quiet,λd ah=>(aD.hp d ah).trans (sS d),aD.b,aD.a,aD.r⟩⟩⟩
def Inv.step(di:vp ops)(gE:∀ d,o.dst=some d->d<X.n)(h:Inv X ops im' L β a w F C I M p ck hg gr)(aM:ops[q]?=some o)(kQ:p.testBit q=false)(bk:∀ e,me ops q e->L e)
 {x:dn} {C':dp} {I':aZ} {M':List aB} (ae:eF β x v) (ak:cV X β a w' (λ_=>.mG) C' I' M')
  (hm:∀ i gg eY,kh L p i->ops[i]?=some gg->pZ gg.op=true->(i,eY)∈ck->(∀ s,eY=s+1->C' s=C s)/\(eY=0->∀ b o,hH I (vm (im' i) M) b o->hH I' (vm (im' i) M') b o)) :
  Inv X ops im' (λi=>L i\/i=q) β (a.put o.dst v) w' (put o.dst x F) C' I' M' (p ||| 2^q) ck hg gr:=by
 have p3:∀ {i},kh (λi=>L i\/i=q) (p ||| 2^q) i->kh L p i:=λhi=>⟨(mf.1 hi.1).resolve_right (λe=>hi.2 (.inr e)),λe=>hi.2 (.inl e)⟩;have xe:∀ {i},kh L p i->kh (λi=>L i\/i=q) (p ||| 2^q) i:=fun {i} hi=>⟨mf.2 (.inl hi.1),λe=>e.elim hi.2 (λe=>by
  subst e;have:=hi.1;rw[kQ]at this;cases this)⟩
 refine⟨ak.put gE (x:=.mG) trivial |> λh=>h.refine λ_=>trivial,?_,?_,?_,?_,?_⟩
 ·rintro i (hi | rfl)
  ·exact mf.2 (.inl (h.sub i hi))
  ·exact mf.2 (.inr rfl)
 ·rintro j e (an | rfl) he
  ·exact .inl (h.vq j e an he)
  ·exact .inl (bk e he)
 ·intro j e an he;rcases mf.1 an with an | rfl
  ·exact mf.2 (.inl (h.qX j e an he))
  ·exact mf.2 (.inl (h.sub e (bk e he)))
 ·intro t ay;by_cases ah:o.dst=some t
  ·have aR:t<a.tmps.size:=by rw[h.rel.size];exact gE t ah
   rw[ah,MO aR,put_eq];exact ae
  ·rw[IW ah,IV ah];exact h.T t λi hi=>ay i (xe hi)
 ·intro i hi;have c7:=p3 hi;obtain⟨gg,hJ,sU⟩:=h.yL i c7;have o7:i≠q:=λe=>by subst e;have:=c7.1;rw[kQ]at this;cases this
  refine⟨gg,hJ,⟨sU.quiet,?_,λt ay j an=>sU.b t ay j (p3 an),?_,?_⟩⟩;·intro d ah;rw[IV (di.ML i q gg o d o7 hJ aM ah)];exact sU.hp d ah
  ·intro t ay dB;have ah:o.dst≠some t:=λah=>by
    rcases di.ord q i o gg t (rJ o7) aM hJ ah ay with ai | ai;·have:=ai.mem h.qX (λe he=>h.qX i e c7.1 he);rw[kQ]at this;cases this
    ·exact c7.2 (ai.mem h.vq bk)
   rw[IW ah];exact sU.a t ay λj an=>dB j (xe an)
  ·refine sU.r.imp (λ⟨aa,ab,ag⟩=>⟨aa,Tw ab (λ_ _=>rfl) λt x av=>?_,ag⟩) id;have aW:=ag t x av;have bC:=hm i gg _ c7 hJ (by rw[av];rfl) aW;refine⟨λs off e=>?_,λbK=>bC.2 ?_⟩
   ·exact bC.1 s (by rw[e];rfl)
   ·generalize dq (gr i) x=aee at bK;cases aee with
    |ref s off=>exact(bK s off rfl).elim| _=>rfl
def Au(X:c3)(ops:List Oper)(im':Nat->Bool)(K:fX)(L:Nat->Prop)(a:Act)(w:World):Prop:=
 ∃ β F C I M p ck hg gr n,Inv X ops im' L β a w F C I M p ck hg gr/\p1 X ops im' n p ck F C I M K
def Fi{k:Bool}{i:Nat}:i∈p0 ops p k ↔ ∃ o,ops[i]?=some o/\p.testBit i=false/\Cu o.op=k/\(∀ e,me ops i e->p.testBit e=true):=by
 unfold p0;rw[sD,lF];have Fj:∀ {o},ops[i]?=some o->(E' o p=true ↔ ∀ e,me ops i e->p.testBit e=true):=fun {o} aw=>by
  unfold E';rw[eP];constructor;·rintro h e⟨o',mJ,o8,qW,ai,rfl⟩;rw[aw]at o8;cases o8;have:=h mJ (by simpa using qW);rw[ai]at this;simpa using this
  ·intro h mJ qW;cases ai:Region.binds .any mJ with
   |false=>simp| true=>simp[h mJ.on ⟨o,mJ,aw,by simpa using qW,ai,rfl⟩]
 constructor
 ·rintro⟨aR,h⟩;cases aw:ops[i]? with
  |none=>rw[aw]at h;cases h| some o=>rw[aw]at h;simp only[b',oX,beq_iff_eq]at h;exact⟨o,rfl,h.1,h.2.1,(Fj aw).1 h.2.2⟩
 ·rintro⟨o,aw,aa,ab,ag⟩;refine⟨(hT.1 aw).1,?_⟩;rw[aw];simp only[aa,ab,(Fj aw).2 ag,Ir,Ce,Bool.and_self]
def TF{P:Nat->Prop}:∀ {l:List Nat},MH P l->∀ i∈l,P i
 |[],_,i,hi=>by cases hi
 |[j],h,i,hi=>by rw[fW]at hi;subst hi;exact h
 |j::k::l,h,i,hi=>by
  rcases ef.1 hi with rfl | hi;·exact h.1
  ·exact TF (l:=k::l) h.2 i hi
def aef(i:Nat)(op:Op)(ρ:Operand->dn)(ck:List (Nat×Nat)):∀ s∈ck,s∈Fb i op ρ ck:=λs ap=>by
 unfold Fb;split
 ·exact .tail _ ap
 ·exact ap
def aeg{i:Nat}{ρ:Operand->dn}{ck:List (Nat×Nat)}:∀ t x,op=.load t x->(i,IS (ρ x))∈Fb i op ρ ck:=λt x az=>by subst az;unfold Fb;exact .head _
def Au.advance(di:vp ops){K:fX}:∀ (n:Nat) {p ck F hg gr},Inv X ops im' L β a w F C I M p ck hg gr->p1 X ops im' n p ck F C I M K -> ∃ p ck F hg gr n,Inv X ops im' L β a w F C I M p ck hg gr/\p0 ops p true=[]/\p1 X ops im' (n+1) p ck F C I M K
 |0,_,_,_,_,_,_,aj=>aj.elim
 |n+1,p,ck,F,hg,gr,bA,aj=>by
  cases ak:p0 ops p true with
  |nil=>exact⟨p,ck,F,hg,gr,n,bA,ak,aj⟩
  |cons q l=>
   have g4:q∈p0 ops p true:=by rw[ak];simp
   obtain⟨o,aM,kQ,IX,yI⟩:=Fi.1 g4;have kL:=aj;unfold p1 at kL;rw[ak]at kL;simp only[aM]at kL;obtain⟨kP,sS,⟨eV,aa⟩ | ⟨Fh,aa⟩⟩:=TD kL;·obtain⟨x,ab,ag⟩:=adZ (adV aa);exact Au.advance di n (bA.record di aM kQ yI IX sS (aef _ _ _ _) (.inl ⟨eV,ag,aeg⟩)) ab
   ·exact Au.advance di n (bA.record di aM kQ yI IX sS (λ_ h=>h) (.inr ⟨Fh,rfl⟩)) aa
def mem_ready{i:Nat}(df:dt.size=ops.length):i∈Region.ready .any ops.toArray dt ↔ ∃ o,ops[i]?=some o/\¬ dt.getD i false=true/\∀ e,me ops i e->dt.getD e false=true:=by
 unfold Region.ready;rw[sD,lF];simp only[mE,Ab,b',oX];have Fj:∀ {o},ops[i]?=some o->((o.after.all λe=>!Region.binds .any e||dt.getD e.on false)=true ↔ ∀ e,me ops i e->dt.getD e false=true):=fun {o} aw=>by
  rw[Array.all_eq_true_iff_forall_mem];constructor;·rintro h e⟨o',mJ,o8,qW,ai,rfl⟩;rw[aw]at o8;cases o8;have:=h mJ qW;rw[ai]at this;simpa using this
  ·intro h mJ qW;cases ai:Region.binds .any mJ with
   |false=>simp| true=>simp[h mJ.on ⟨o,mJ,aw,qW,ai,rfl⟩]
 have TG:i<ops.length->(dt.getD i true=false ↔ ¬ dt.getD i false=true):=λhi=>by
  have:i<dt.size:=by omega
  simp[Array.getD,this]
 constructor
 ·rintro⟨aR,aa,ab⟩;cases aw:ops[i]? with
  |none=>rw[aw]at ab;cases ab| some o=>rw[aw]at ab;exact⟨o,rfl,(TG aR).1 aa,(Fj aw).1 ab⟩
 ·rintro⟨o,aw,aa,ab⟩;have aR:=(hT.1 aw).1;refine⟨aR,(TG aR).2 aa,?_⟩;rw[aw];exact(Fj aw).2 ab
def TH{i:Nat}(hi:i<dt.size):(λj=>(dt.setIfInBounds i true).getD j false=true)=λj=>dt.getD j false=true\/j=i:=by
 funext j;simp only[oV,Cc,eq_iff_iff];by_cases e:i=j
 ·subst e;simp[hi]
 ·simp only[cb e];constructor
  ·exact .inl
  ·rintro(h | h)
   ·exact h
   ·exact(e h.symm).elim
def todo(ops:List Oper)(dt:Array Bool):Nat:=((List.range ops.length).filter λi=>!dt.getD i false).length
def IY{i:Nat}(hi:i<ops.length)(df:dt.size=ops.length)(aq:¬ dt.getD i false=true):todo ops (dt.setIfInBounds i true)<todo ops dt:=by
 unfold todo;have key:∀ l:List Nat,l.Nodup->i∈l->((l.filter λj=>!(dt.setIfInBounds i true).getD j false).length<(l.filter λj=>!dt.getD j false).length):=by
  have same:∀ j,j≠i->(dt.setIfInBounds i true).getD j false=dt.getD j false:=λj an=>by simp only[oV,Cc,cb (rJ an)]
  have self:(dt.setIfInBounds i true).getD i false=true:=by
   have:i<dt.size:=by omega
   simp[oV,Cc,this]
  have Cz:dt.getD i false=false:=by simpa using aq
  intro l
  induction l with
  |nil=>intro _ h;cases h
  |cons j l a7=>
   intro cg hm;rw[nh]at cg;by_cases e:j=i
   ·subst e;have:l.filter (λk=>!(dt.setIfInBounds j true).getD k false)=l.filter (λk=>!dt.getD k false):=
     ES λk af=>by rw[same k (λe=>cg.1 (e ▸ af))]
    simp only[Cf,self,Cz,this];simp
   ·have nq:i∈l:=by
     rcases ef.1 hm with h | h;·exact(e h.symm).elim
     ·exact h
    have:=a7 cg.2 nq;simp only[Cf,same j e];split;·simp only[ea];omega
    ·exact this
 exact key _ Mp (lF.2 hi)
def aeh(aN:c2 X.P X.E)(di:vp ops)(gE:∀ o∈ops,∀ d,o.dst=some d->d<X.n){K:fX}(tS:∀ a w,Sat X K a w->Q .normal a w):∀ (eL:Nat) (dt:Array Bool) (a:Act) (w:World),
  dt.size=ops.length->todo ops dt<=eL->Au X ops im' K (λi=>dt.getD i false=true) a w->wpAnyIn (gP X) 0 X.P .any ops.toArray Q eL dt a w:=by
 intro eL
 induction eL with
 |zero=>
  rintro dt a w df aJ⟨β,F,C,I,M,p,ck,hg,gr,n,bA,aj⟩;have n9:Region.ready .any ops.toArray dt=[]:=by
   cases ak:Region.ready .any ops.toArray dt with
   |nil=>rfl| cons i l=>obtain⟨o,aw,aq,_⟩:=(mem_ready df).1 (by rw[ak];simp:i∈Region.ready .any ops.toArray dt);have:=IY (hT.1 aw).1 df aq;omega
  refine⟨n9,?_⟩;obtain⟨p,ck,F,hg,gr,n,bA,h9,aj⟩:=Au.advance di n bA aj;have Fk:∀ i,p.testBit i=true->dt.getD i false=true:=λi=>by
   induction i using Nat.strongRecOn with
   |ind i a7=>intro aD;refine Cd λaq=>?_;obtain⟨o,aw,_⟩:=bA.yL i ⟨aD,aq⟩;have:i∈Region.ready .any ops.toArray dt:=(mem_ready df).2 ⟨o,aw,aq,λe he=>a7 e (di.lt i e he) (bA.qX i e aD he)⟩;rw[n9]at this;cases this
  have xf:p0 ops p false=[]:=by
   cases ak:p0 ops p false with
   |nil=>rfl| cons i l=>obtain⟨o,aw,aD,_,ah⟩:=Fi.1 (by rw[ak];simp:i∈p0 ops p false);have:i∈Region.ready .any ops.toArray dt:=(mem_ready df).2 ⟨o,aw,λbr=>(by have eo:=bA.sub i br;rw[aD]at eo;exact Bool.noConfusion eo),λe he=>Fk e (ah e he)⟩;rw[n9]at this;cases this
  unfold p1 at aj;rw[h9,xf]at aj;exact tS _ _ ⟨F,C,I,M,⟨β,bA.rel.refine λt=>bA.T t λi hi=>(hi.2 (Fk i hi.1)).elim⟩,aj⟩
 |succ eL a7=>
  rintro dt a w df aJ⟨β,F,C,I,M,p,ck,hg,gr,n,bA,aj⟩;obtain⟨p,ck,F,hg,gr,n,bA,h9,aj⟩:=Au.advance di n bA aj;refine⟨λn9=>?_,λq aM=>?_⟩
  ·have Fk:∀ i,p.testBit i=true->dt.getD i false=true:=λi=>by
    induction i using Nat.strongRecOn with
    |ind i a7=>intro aD;refine Cd λaq=>?_;obtain⟨o,aw,_⟩:=bA.yL i ⟨aD,aq⟩;have:i∈Region.ready .any ops.toArray dt:=(mem_ready df).2 ⟨o,aw,aq,λe he=>a7 e (di.lt i e he) (bA.qX i e aD he)⟩;rw[n9]at this;cases this
   have xf:p0 ops p false=[]:=by
    cases ak:p0 ops p false with
    |nil=>rfl| cons i l=>obtain⟨o,aw,aD,_,ah⟩:=Fi.1 (by rw[ak];simp:i∈p0 ops p false);have:i∈Region.ready .any ops.toArray dt:=(mem_ready df).2 ⟨o,aw,λbr=>(by have eo:=bA.sub i br;rw[aD]at eo;exact Bool.noConfusion eo),λe he=>Fk e (ah e he)⟩;rw[n9]at this;cases this
   unfold p1 at aj;rw[h9,xf]at aj;exact tS _ _ ⟨F,C,I,M,⟨β,bA.rel.refine λt=>bA.T t λi hi=>(hi.2 (Fk i hi.1)).elim⟩,aj⟩
  ·obtain⟨o,aw,aq,ah⟩:=(mem_ready df).1 aM;have aR:=(hT.1 aw).1;have n':=gE o (wV aw);have gU:=TH (dt:=dt) (i:=q) (by omega);have next:∀ bY w',Au X ops im' K (λi=>dt.getD i false=true\/i=q) bY w'->wpAnyIn (gP X) 0 X.P .any ops.toArray Q eL (dt.setIfInBounds q true) bY w':=λbY w' h=>by refine a7 _ bY w' (by simpa using df) ?_ (by rw[gU];exact h);have:=IY aR df aq;omega
   cases kQ:p.testBit q with
   |true=>
    exact bA.exec aN di n' aw ⟨kQ,aq⟩ ah λbY h=>next bY w ⟨β,F,C,I,M,p,ck,hg,gr,n+1,h,aj⟩
   |false=>
    have MR:∀ e,me ops q e->p.testBit e=true:=λe he=>bA.sub e (ah e he);have aei:Cu o.op=false:=by
     cases aej:Cu o.op with
     |false=>rfl| true=>have:q∈p0 ops p true:=Fi.2 ⟨o,aw,kQ,aej,MR⟩;rw[h9]at this;cases this
    have g4:q∈p0 ops p false:=Fi.2 ⟨o,aw,kQ,aei,MR⟩;unfold p1 at aj;rw[h9]at aj;simp only at aj;split at aj;·rename_i xf;rw[xf]at g4;cases g4
    ·rename_i i0 dd xf;rw[xf]at g4;have ai:=TF aj q g4;simp only[aw]at ai;obtain⟨kP,sS,ai⟩:=TD ai;have bO:=bA.refine sS;have p4:=bO.ad8 di aw kQ ah;have Fg:ops.toArray[q]?=some o:=by simpa using aw
     unfold wpOpIn;simp only[Fg];rcases ai with⟨eV,ai⟩ | ⟨Fh,ai⟩
     ·rw[TB eV p4,cn rfl];cases MS:Tn ((kO ops).getD q 0) p with
      |true=>
       rw[MS]at ai;simp only[vl,bl]at ai;have hr:∀ i,p.testBit i=true->dt.getD i false=true:=λi hi=>by
        have aa:=c6 MS;have ab:(p &&& (kO ops).getD q 0).testBit i=true:=by rw[aa];exact hi
        rw[Nat.testBit_and,b']at ab;exact(yJ ab.2).mem bA.vq ah
       have a5:Rel X a w kP C I M:=⟨β,bO.rel.refine λt=>bO.T t λi hi=>(hi.2 (hr i hi.1)).elim⟩;refine sE (λbY w'=>?_) (Cp aN n' a5 ai);rintro⟨cH,C',I',M',⟨n3,gZ⟩,af⟩;have aek:∀ i,¬ kh (λi=>dt.getD i false=true\/i=q) (p ||| 2^q) i:=λi hi=>by
        rcases mf.1 hi.1 with aa | aa;·exact hi.2 (.inl (hr i aa))
        ·exact hi.2 (.inr aa)
       refine next bY w' ⟨n3,cH,C',I',M',p ||| 2^q,ck,hg,gr,n,⟨gZ.refine λ_=>trivial,?_,?_,?_,λt _=>gZ.al t,λi hi=>(aek i hi).elim⟩,af⟩
       ·rintro i (hi | rfl)
        ·exact mf.2 (.inl (bA.sub i hi))
        ·exact mf.2 (.inr rfl)
       ·rintro j e (an | rfl) he
        ·exact .inl (bA.vq j e an he)
        ·exact .inl (ah e he)
       ·intro j e an he;rcases mf.1 an with an | rfl
        ·exact mf.2 (.inl (bA.qX j e an he))
        ·exact mf.2 (.inl (MR e he))
      |false=>
       rw[MS]at ai;let G:Fr:=λt=>if t∈looks ops o then kP t else .mG
       have iu:∀ t,eF β (G t) (a.tmps.getD t undef):=λt=>by
        by_cases ay:t∈looks ops o;·simp only[G,cn ay];exact p4 t ay
        ·simp only[G,cb ay];trivial
       have MQ:∀ y∈o.op.operands,dq G y=dq kP y:=λy aF=>by
        cases y with
        |tmp t=>simp only[dq,G,cn (MN aF)]| const v=>cases v<;>rfl
        |global g=>rfl| func f=>rfl
       refine sE (λbY w'=>?_) (ad2 aN (bO.rel.refine iu) MQ ai);rintro⟨v,x,C',I',M',rfl,ae,gZ,af,hm⟩;refine next _ _ ⟨β,_,C',I',M',p ||| 2^q,ck,hg,gr,n,bO.step di n' aw kQ ah ae (gZ.refine λ_=>trivial) ?_,af⟩
       rcases hm with⟨IQ,rS⟩ | ⟨rfl,bs,dS⟩
       rotate_left
       ·exact λ_ _ _ _ _ _ _=>⟨λ_ _=>rfl,λ_=>Tr dS bs⟩
       have Cx:∀ {i},kh (λi=>dt.getD i false=true) p i->((kO ops).getD q 0).testBit i=true->False:=λhi ai=>hi.2 ((yJ ai).mem bA.vq ah);intro i gg eY hi hJ e9 g4;have dB:∀ {s:Nat},Cv ((kO ops).getD q 0) s ck=true->eY≠s:=fun {s} h e=>by
        rcases To h g4 with aa | aa;·exact Cx hi aa
        ·exact aa e
       rcases(kH _ _).mp IQ with ael | aem
       ·have aa:=eP.1 ael i (lF.2 (hT.1 hJ).1);rw[hi.1,hJ]at aa;simp only[pT,u7,kH,oX]at aa;rcases aa with aa | aa
        ·exact(Cx hi aa).elim
        ·rw[aa]at e9;cases e9
       rcases(kH _ _).mp aem with CA | yM
       ·unfold Tq at CA;split at CA
        ·rename_i t0 vt TI cG;split at CA
         ·rename_i dT ar9 az;obtain⟨⟨eg,gu⟩,cA⟩:=rS.1 _ _ _ _ _ cG az;exact⟨λcc e=>eg cc (λaE=>dB CA (by rw[e,aE])),λ_=>Tr cA gu⟩
         ·cases CA
        ·cases CA
       rcases(kH _ _).mp yM with yM | xg
       ·unfold Tp at yM;split at yM
        ·rename_i t0 vt TI cG;split at yM
         ·rename_i IZ az;exact⟨λ_ _=>by rw[(rS.2.1 _ _ _ _ cG az).1],λe=>(dB yM e).elim⟩
         ·cases yM
        ·cases yM
       unfold Tu at xg;rw[b']at xg;obtain⟨aen,xg⟩:=xg;have aeo:im' i=true:=by
        have aa:=eP.1 aen i (lF.2 (hT.1 hJ).1);rw[hi.1,hJ]at aa;simp only[pT,u7,kH,oX]at aa;rcases aa with aa | aa | aa;·exact(Cx hi aa).elim
        ·exact aa
        ·rw[aa]at e9;cases e9
       have bs:C'=C/\∀ b o,I b=some o->I' b=some o:=by
        unfold Tt at xg;split at xg
        ·rename_i t0 vt TI cG;split at xg
         ·rename_i IZ az;exact rS.2.1 _ _ _ _ cG az
         ·cases xg
        ·rename_i cG;exact rS.2.2 (λt x y e=>by rw[cG]at e;cases e)
        ·rename_i cG;exact rS.2.2 (λt x y e=>by rw[cG]at e;cases e)
        ·cases xg
       exact⟨λ_ _=>by rw[bs.1],λ_=>by rw[aeo];exact adU bs.2⟩
     ·rw[TC Fh p4];simp only[kG,lG];refine⟨λ_ _=>trivial,next _ _ ⟨β,_,C,I,M,p ||| 2^q,ck,hg,gr,n,bO.step di n' aw kQ ah (x:=.val undef) rfl bO.rel (λ_ _ _ _ _ _ _=>⟨λ_ _=>rfl,λ_ _ _ h=>h⟩),ai⟩⟩
end
def c5.TJ{X:c3}{id:Nat}{F:Fr}{C:dp}{I:aZ}{M:List aB}{K:ke}(aN:c2 X.P X.E)(hm:X.P.follows .mixedOrders=true)(aA:Cw A.toList=true)(aq:yE X.n A=true)
  {im':Nat->Bool} (h:p1 X A.toList im' (A.size+1) 0 [] F C I M (K .normal)):c5 X (.region id A true) F C I M K:=by
 refine⟨λa w ⟨β,a5⟩=>wpIn_region_any hm ?_⟩;have vu:cV X β a { w with drawn:=w.drawn+1 } F C I M:=a5.world rfl;have b9:∀ i,(Array.replicate A.size false).getD i false=false:=λi=>by
  by_cases hi:i<A.size<;>simp[oV,hi]
 have mg:∀ {i},¬ (Array.replicate A.size false).getD i false=true:=fun {i}=>by rw[b9];simp
 have key:=aeh (K:=K .normal) (Q:=mb X K) aN (TA aA) (IH aq) (λ_ _ h=>h) A.size (Array.replicate A.size false) a { w with drawn:=w.drawn+1 } (by simp) ?_ ⟨β,F,C,I,M,0,[],λ_=>.mG,λ_ _=>.mG,A.size+1,⟨vu.refine λ_=>trivial,λi hi=>(mg hi).elim,λj e an=>(mg an).elim,λj e an=>by simp at an,λt _=>vu.al t,λi hi=>by simp[kh]at hi⟩,h⟩
 ·simpa using key
 ·unfold todo;refine lg (EQ _ _) (by simp)
def c5.aep{X:c3}{id:Nat}{F:Fr}{C:dp}{I:aZ}{M:List aB}{K:ke}(aN:c2 X.P X.E)(hm:X.P.follows .mixedOrders=true)(aA:Cw A.toList=true)(aq:yE X.n A=true)
  {im':Nat->Bool} (aG:ι->vj) (inv:ι->Prop) (aj:p1 X A.toList im' (A.toList.length+1) 0 [] F C I M (o2 X.cq aG inv)) (bb:∀ i,inv i->K .normal (qR (aG i).bu) (qS (aG i).cl) (aG i).cS (aG i).db):c5 X (.region id A true) F C I M K:=by
 obtain⟨h⟩:=c5.TJ (im':=im') (K:=λe=>match e with
  | .normal=>o2 X.cq aG inv| e=>K e) aN hm aA aq aj
 refine⟨λa w a5=>wpIn_mono (h a w a5) ?_⟩;intro e a w ap;cases e with
 |normal=>obtain⟨cH,C',I',M',⟨β,ak⟩,⟨j,rO,hw,bU,pY⟩⟩:=ap;exact⟨_,_,_,_,⟨β,(ak.be bU pY).h8 hw⟩,bb j rO⟩
 |_=>exact ap
def c5.draw{X:c3}{id:Nat}{F:Fr}{C:dp}{I:aZ}{M:List aB}{K:ke}(aN:c2 X.P X.E)(hm:X.P.follows .mixedOrders=true)(aA:Cw A.toList=true)(aq:yE X.n A=true)(h:p1 X A.toList (λ_=>false) (A.size+1) 0 [] F C I M (K .normal)):c5 X (.region id A true) F C I M K:=.TJ aN hm aA aq h
def c5.aeq{X:c3}{id:Nat}{F:Fr}{C:dp}{I:aZ}{M:List aB}{K:ke}(aN:c2 X.P X.E)(hm:X.P.follows .mixedOrders=true)(aA:Cw A.toList=true)(aq:yE X.n A=true)
 (aG:ι->vj) (inv:ι->Prop) (aj:p1 X A.toList (λ_=>false) (A.toList.length+1) 0 [] F C I M (o2 X.cq aG inv)) (bb:∀ i,inv i->K .normal (qR (aG i).bu) (qS (aG i).cl) (aG i).cS (aG i).db):c5 X (.region id A true) F C I M K:=.aep aN hm aA aq aG inv aj bb
end Go.V
