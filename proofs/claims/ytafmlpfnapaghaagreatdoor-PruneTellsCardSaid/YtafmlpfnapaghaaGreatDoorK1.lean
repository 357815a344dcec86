/- Part 1 of what the proofs of this seat share: the executor, data in memory, walks.
-/
import Derived.WalkKit
import Derived.RangeFuncRecord
import Derived.OrdersIn
import Derived.Lib.UnsafeStr
set_option linter.all false
namespace Go.V
open Go
def bV:=@List.getD_eq_getElem?_getD
def b9:=@Nat.le_of_ble_eq_true
def bU:=@Result.andThen_ok
def er:=@List.take_succ_eq_append_getElem
def dv:=@List.drop_eq_getElem_cons
def cq:=@of_decide_eq_true
def b':=@Bool.and_eq_true
def dD:=@Nat.eq_of_beq_eq_true
def cS:=@List.length_cons
def bz:=@cond_false
def b8:=@Sem.run_bind
def b2:=@Nat.le_refl
def dm:=@List.mem_append
def bt:=@cond_true
def cZ:=@List.map_cons
def et:=@List.all_eq_true
def c3:=@Sem.run_pure
def fb:=@List.mem_singleton
def eL:=@List.map_append
def fk:=@decide_eq_true_eq
def dB:=@List.mem_map
def ea:=@List.mem_cons
def gM:=@List.mem_append_left
def iO:=@List.getElem?_eq_some_iff
def l6:=@Array.getElem?_eq_some_iff
def oF:=@Array.getD_eq_getD_getElem?
def mJ:=@World.putObj_heap_other
def ly:=@List.mem_append_right
def jX:=@Bool.false_eq_true
def je:=@Option.getD_some
def jY:=@Option.some.injEq
def jZ:=@List.size_toArray
def kA:=@List.getElem?_take
def cw:=@if_pos
def cB:=@if_neg
def j0:=@Bool.or_eq_true
def lz:=@Int.toNat_natCast
def gF:=@Array.ext'
def kf:=@List.mem_range
def sq:=@List.getElem?_append_left
def ql:=@List.getElem?_eq_none
def oG:=@List.getElem?_drop
def l7:=@Bool.eq_iff_iff
def mK:=@Option.map_some
def rl:=@Nat.mul_le_mul_right
def nR:=@List.nodup_cons
def k5:=@Nat.le_trans
def to:=@List.length_filter_le
def u5:=@Option.map_eq_some_iff
def mL:=@Bool.false_or
def nS:=@Bool.not_true
def qm:=@List.foldl_cons
def sr:=@List.getElem?_map
def qn:=@List.mem_filter
def tp:=@Bool.not_eq_true'
def nT:=@Nat.add_zero
def Ch:=@Array.getElem?_setIfInBounds
def ss:=@Nat.min_eq_left
def tq:=@Option.getD_none
def u6:=@List.nodup_append
def qo:=@ByteArray.ext
def st:=@Oper.wpIn_mono
def u7:=@List.filter_cons
def z3:=@List.getElem?_toArray
def wT:=@List.filter_congr
def su:=@List.all_cons
def z4:=@List.range_eq_range'
def z5:=@List.mem_of_getElem?
def kB:=@if_false
def Ci:=@ByteArray.data_extract
def tr:=@Nat.add_assoc
def EC:=@Classical.byContradiction
def Cj:=@List.toList_toArray
def H3:=@Option.ne_none_iff_exists'
def H4:=@List.getElem?_cons_succ
def ED:=@Nat.testBit_two_pow
def Ck:=@beq_self_eq_true
def z6:=@World.alloc_eq
def EE:=@Nat.lt_of_lt_of_le
def Cl:=@Option.map_none
def nU:=@if_true
def LQ:=@Array.getElem?_eq_getElem
def Cm:=@List.nodup_nil
def LR:=@Option.bind_eq_some_iff
def EF:=@List.mapM_cons
def EG:=@Bool.not_false
def Cn:=@Nat.add_comm
def rm:=@Ne.symm
def H5:=@List.range'_succ
def H6:=@Nat.lt_succ_self
def LS:=@Array.foldl_toList
def LU:=@Option.isSome_none
def Su:=@Array.mapM_eq_mapM_toList
def H7:=@Nat.testBit_or
def H8:=@Oper.semAt_eq
def LV:=@List.nodup_range
def LW:=@Nat.testBit_and
variable{a:Act}{c:Code}{cp:List Nat}{P:Program}{f off T sz iP e n m dE ca dC dz gr kC lA mM nV po rn ts wU z7 EH:Nat}{args vs z:List Value}{v:Value}{w' w:World}{dst:Option Nat}{cs:Array Value}{an:Nat×Nat}{R:Ending->World->Prop}{next:Act->World->Prop}{ad:Addr}{gu:IntKind}{other:Prop}{ops:List Oper}{Q:Exit->Act->World->Prop}{fn:Func}{hj:Bool}{op:Op}{listed:Array Bool}{A:Array Oper}{ι:Type}
inductive EI where
 |other | int (k:IntKind) | bool | string | slice (e:Nat) | array (n e:Nat) | struct (cC:List (Nat×Nat)) | map (k e:Nat) | pointer (e:Nat)
 deriving DecidableEq
def fe:TypeDesc->EI
 | .int k=>.int k| .bool=>.bool| .string=>.string| .slice e=>.slice e| .array n e=>.array n e| .struct cC=>.struct (cC.toList.map λf=>(f.type,f.offset))| .map k e=>.map k e| .pointer e=>.pointer e| _=>.other
def EI.agg:EI->Bool
 | .struct _ | .array ..=>true| _=>false
structure dW where
 size:Nat
 bytes:Nat
 zero:List Value
 bH:EI
structure j1(P:Program)(t:Nat)(i:dW):Prop where
 inf:∃ inf z,P.info? t=some inf/\inf.size=i.size/\inf.bytes=i.bytes/\inf.zero=some z/\z.cells.toList=i.zero
 fl:∃ d,P.underlying t=some d/\fe d=i.bH
 one:∀ v∈i.zero,v.oneCell'=true
 len:i.zero.length=i.size
 EJ:i.bH.agg=false->i.size=1
abbrev Env:=Nat->Option dW
def cX(P:Program)(E:Env):Prop:=∀ t i,E t=some i->j1 P t i
inductive de where
 |val(v:Value)| lit (b:Bool)| ref (s off:Nat)| mN
abbrev Fr:=Nat->de
abbrev c8:=Nat->Option (List Value)
abbrev aT:=Nat->Option Obj
structure aD where
 num:Nat
 obj:Obj
abbrev fZ:=Fr->c8->aT->List aD->Prop
def fA(F:Fr)(d:Nat)(x:de):Fr:=λt=>bif Nat.beq t d then x else F t
def iQ(C:c8)(d:Nat)(x:Option (List Value)):c8:=λt=>bif Nat.beq t d then x else C t
def pq(F:Fr)(d:Nat):Fr:=λt=>match F t with
 | .ref s o=>bif Nat.beq s d then .mN else .ref s o| x=>x
def put(o:Option Nat)(x:de)(F:Fr):Fr:=match o with
 |some d=>fA F d x| none=>F
def df(F:Fr):Operand->de
 | .tmp t=>F t| .const (.bool b)=>.lit b| .const v=>.val v| .global g=>.val (.pointer (some ⟨g,0,none⟩))| .func f=>.val (.func (.func f) #[] #[])
def dH(ρ:Operand->de)(x:Operand):de:=match ρ x with
 | .lit b=>.val (.bool b)| y=>y
abbrev bY(F:Fr):Operand->de:=dH (df F)
def pack(agg:Bool)(vs:List Value):Value:=bif agg then .agg vs.toArray else vs.headD undef
def bG(cs:List Value)(off:Nat)(vs:List Value):List Value:=cs.take off++vs++cs.drop (off+vs.length)
def gh(vs:List Value):Bool:=vs.all (·.oneCell')
def H9(c:Bool):de->de->de
 | .val (.bool x),.val (.bool y)=>.val (.bool (bif c then x else y))| .val x,.val y=>.val (bif c then x else y)| _,_=>.mN
def wV(op:BinOp)(x y:Int):Option Bool:=match op with
 | .eql=>some (decide (x=y))| .neq=>some (!decide (x=y))| .lss=>some (decide (x<y))| .leq=>some (decide (x<=y))| .gtr=>some (decide (y<x))| .geq=>some (decide (y<=x))| _=>none
def tt(op:BinOp)(k:IntKind)(x y:Int):Option Int:=
 let a:=BitVec.ofInt k.bits x
 let b:=BitVec.ofInt k.bits y
 match op with
 | .and=>some (k.wrap (a &&& b).toNat)| .or=>some (k.wrap (a ||| b).toNat)| .xor=>some (k.wrap (a ^^^ b).toNat)| .andNot=>some (k.wrap (a &&& ~~~b).toNat)| _=>none
def h'(I:aT)(M:List aD)(b:Nat)(o:Obj):Prop:=I b=some o\/∃ x∈M,x.num=b/\x.obj=o
def bq(I:aT)(M:List aD)(a:Addr)(n:Nat)(vs:List Value):Prop:=
 a.spot=none/\∃ cs T an,h' I M a.block (.cells cs T an)/\(cs.toList.drop a.off).take n=vs/\vs.length=n
inductive aE(I:aT)(M:List aD)(a:Addr)(n:Nat)(K:List Value->Prop):Prop
 |mk(vs:List Value)(h:bq I M a n vs)(k:K vs)
inductive cu(M:List aD)(a:Addr)(vs:List Value)(K:List aD->Prop):Prop
 |mk(pre post:List aD)(cs:Array Value)(T:Nat)(aV:M=pre++⟨a.block,.cells cs T (0,0)⟩::post)(ar:a.spot=none)(ah:a.off+vs.length<=cs.size)(U:gh vs=true)(k:K (pre++⟨a.block,.cells (bG cs.toList a.off vs).toArray T (0,0)⟩::post))
inductive bL(I:aT)(M:List aD)(K:Nat->Prop):Prop
 |mk(k:∀ b,I b=none->(∀ x∈M,x.num≠b)->K b)
inductive aW(a:Option Addr)(n sz:Nat)(k:Int)(K:Addr->Prop):Prop
 |mk(ad:Addr)(j:Nat)(aX:a=some ad)(af:k=(j:Int))(aj:j<n)(h:K (ad.add (j*sz)))
inductive eb(n:Nat)(k:Int)(K:Nat->Prop):Prop
 |mk(j:Nat)(af:k=(j:Int))(aj:j<n)(h:K j)
inductive sv(s:ByteArray)(k:Int)(K:UInt8->Prop):Prop
 |mk(j:Nat)(af:k=(j:Int))(aj:j<s.size)(h:K s[j])
inductive aQ(k:IntKind)(n:Int)(K:Int->Prop):Prop
 |mk(r:Int)(h:k.wrap n=r)(aG:K r)
inductive j2(y:Int)(K:Prop):Prop
 |mk(h:y≠0)(aG:K)
inductive wW(y:Int)(K:Nat->Prop):Prop
 |mk(j:Nat)(h:y=(j:Int))(aG:K j)
inductive aB(c:Bool)(X Y:Prop):Prop
 |mk(h:c=true->X)(aG:c=false->Y)
inductive mO(l c:Int)(bytes:Nat)(K:Nat->Nat->Prop):Prop
 |mk(n m:Nat)(ay:l=(n:Int))(aC:c=(m:Int))(h:n<=m)(ah:bytes*m<=140737488355328)(hm:m<=9223372036854775807)(k:K n m)
inductive jv(n c:Nat)(lo hi:Option Int)(K:Nat->Nat->Prop):Prop
 |mk(l h:Nat)(gN:lo.getD 0=(l:Int))(ia:hi.getD n=(h:Int))(U:l<=h)(ab:h<=c)(k:K l h)
structure ef(I:aT)(M:List aD)(w:World):Prop where
 i:∀ b o,I b=some o->w.heap[b]?=some o
 m:∀ x∈M,w.heap[x.num]?=some x.obj
 d:∀ x∈M,I x.num=none
 bE:(M.map (·.num)).Nodup
def nW(w w':World):Prop:=w'.os=w.os/\w'.output=w.output
def nW.refl(w:World):nW w w:=⟨rfl,rfl⟩
def nW.trans{a b c:World}(h:nW a b)(aG:nW b c):nW a c:=⟨aG.1.trans h.1,aG.2.trans h.2⟩
structure Kept(I:aT)(M:List aD)(w:World)(I':aT)(M':List aD)(w':World):Prop where
 le:∀ b o,I b=some o->I' b=some o
 sw:∀ b o,I' b=some o->I b=some o\/w.heap.size<=b
 tu:∀ x∈M',(∃ y∈M,y.num=x.num)\/w.heap.size<=x.num
 dL:∀ b,b<w.heap.size->(∀ y∈M,y.num≠b)->w'.heap[b]?=w.heap[b]?
 out:nW w w'
 sz:w.heap.size<=w'.heap.size
def H'(P:Program)(f:Nat):Prop:=∀ (args:Array Value) (w:World),(callFunc f args).run P w=.ok (.enter f args) w
def wX(P:Program)(f:Nat)(args:List Value)(I:aT)(M:List aD)(post:Value->aT->List aD->Prop):Prop:=
 H' P f/\∀ w,ef I M w->Calls P f args.toArray w λe w'=>∃ v I' M',e=.returned v/\post v I' M'/\ef I' M' w'/\Kept I M w I' M' w'
def acE(P:Program)(f:Nat)(args:List Value)(I:aT)(M:List aD)(post:Value->aT->List aD->Prop):Prop:=
 ∀ w,ef I M w->∃ v w' I' M',(callFunc f args.toArray).run P w=.ok (.value v) w'/\post v I' M'/\ef I' M' w'/\Kept I M w I' M' w'
def Spec(P:Program)(f:Nat)(args:List Value)(I:aT)(M:List aD)(post:Value->aT->List aD->Prop):Prop:=wX P f args I M post\/acE P f args I M post
def ins(I:aT)(b:Nat)(o:Obj):aT:=λx=>bif Nat.beq x b then some o else I x
inductive hk(cp:List Nat):aT->List aD->aT->List aD->Prop
 |refl{I M}:hk cp I M I M| sub {I M M1 I' M'} (h:List.Sublist M1 M) (k:hk cp I M1 I' M'):hk cp I M I' M'| perm {I M M1 I' M'} (h:M.Perm M1) (k:hk cp I M1 I' M'):hk cp I M I' M'| pt {I M I' M' b o post} (h:M=⟨b,o⟩::post) (au:b ∉ cp) (k:hk cp (ins I b o) post I' M'):hk cp I M I' M'
structure rp(I:aT)(M:List aD):Prop where
 d:∀ x∈M,I x.num=none
 bE:(M.map (·.num)).Nodup
inductive aU(cp:List Nat)(P:Program)(f:Nat)(args:List Value)(I:aT)(M:List aD)(K:Value->aT->List aD->Prop):Prop
 |mk(ez Mr:List aD)(post:Value->aT->List aD->Prop)(aV:M.Perm (ez++Mr))(ar:Spec P f args I ez post)(k:∀ v I' M',(∀ b o,I b=some o->I' b=some o)->post v I' M'->K v I' (M'++Mr))| Ia (ez Mr:List aD) (post:Value->aT->List aD->Prop) (aV:M.Perm (ez++Mr)) (ar:Spec P f args I ez post) (k:∀ v I' M',(∀ b o,I b=some o->I' b=some o)->(∀ x∈M'++Mr,I' x.num=none)->post v I' M'->K v I' (M'++Mr))| EK (bR:aT) (ez Mr:List aD) (post:Value->aT->List aD->Prop) (hw:hk cp I M bR (ez++Mr)) (ar:Spec P f args bR ez post) (k:∀ v I' M',(∀ b o,bR b=some o->I' b=some o)->(∀ x∈M'++Mr,I' x.num=none)->post v I' M'->K v I' (M'++Mr))| mP (h:rp I M->aU cp P f args I M K)
def aU.elim{I:aT}{M:List aD}{K:Value->aT->List aD->Prop}(gO:rp I M)(h:aU cp P f args I M K) :
  ∃ (bR:aT) (ez Mr:List aD) (post:Value->aT->List aD->Prop),hk cp I M bR (ez++Mr)/\Spec P f args bR ez post/\∀ v I' M',(∀ b o,bR b=some o->I' b=some o)->(∀ x∈M'++Mr,I' x.num=none)->post v I' M'->K v I' (M'++Mr):=by
 induction h with
 |mk ez Mr post aV ar k=>exact⟨I,ez,Mr,post,.perm aV .refl,ar,λv I' M' U _ ab=>k v I' M' U ab⟩| Ia ez Mr post aV ar k=>exact⟨I,ez,Mr,post,.perm aV .refl,ar,k⟩| EK bR ez Mr post hw ar k=>exact⟨bR,ez,Mr,post,hw,ar,k⟩| mP h a8=>exact a8 gO
structure cO where
 P:Program
 E:Env
 gv:List Nat
 n:Nat
 B:Nat
 av:World
 dM:aT
 cp:List Nat
 ro:Option Nat
def gG(X:cO):Fence:={ Fence.wide with round:=X.ro }
def eI(β:Nat->Nat):de->Value->Prop
 | .val v,u=>u=v| .lit b,u=>u=.bool b| .ref s off,u=>u=.pointer (some ⟨β s,off,none⟩)| .mN,_=>True
structure wY(X:cO)(w:World)(I:aT)(M:List aD)(b:Nat)(cs:List Value):Prop where
 at_:∃ T,w.heap[b]?=some (.cells cs.toArray T (0,0))
 base:X.B<=b
 jw:I b=none
 eM:∀ x∈M,x.num≠b
structure u9(X:cO)(w:World)(I:aT)(M:List aD)(r:Nat):Prop where
 at_:w.heap[r]?=some (.deferred (some []))
 base:X.B<=r
 jw:I r=none
 eM:∀ x∈M,x.num≠r
def wZ(r:Nat):Deferred:={ target:=.collected r,args:=#[] }
def Marks(X:cO)(a:Act)(w:World)(I:aT)(M:List aD):Prop:=∃ aJ:List Nat,a.defers=aJ.map wZ/\aJ.Nodup/\∀ r∈aJ,u9 X w I M r
structure cP(X:cO)(β:Nat->Nat)(a:Act)(w:World)(F:Fr)(C:c8)(I:aT)(M:List aD):Prop where
 size:a.tmps.size=X.n
 defers:Marks X a w I M
 holds:ef I M w
 an:∀ t,eI β (F t) (a.tmps.getD t undef)
 cf:∀ s cs,C s=some cs->wY X w I M (β s) cs
 inj:∀ s b3,C s≠none->C b3≠none->β s=β b3->s=b3
 hL:∀ b o,X.dM b=some o->I b=some o
 hl:∀ b o,I b=some o->X.dM b=some o\/X.B<=b
 own:∀ x∈M,x.num∈X.cp\/X.B<=x.num
 dL:∀ b,b<X.B->b ∉ X.cp->w.heap[b]?=X.av.heap[b]?
 out:nW X.av w
 sz:X.B<=w.heap.size
def Rel(X:cO)(a:Act)(w:World)(F:Fr)(C:c8)(I:aT)(M:List aD):Prop:=∃ β,cP X β a w F C I M
def Sat(X:cO)(K:fZ)(a:Act)(w:World):Prop:=∃ F C I M,Rel X a w F C I M/\K F C I M
inductive bk(X:cO)(o:Oper)(F:Fr)(C:c8)(I:aT)(M:List aD)(K:fZ):Prop
 |mk(h:∀ a w Q,Rel X a w F C I M->o.wpIn (gG X) 0 X.P a w (Sat X K) Q)
def jx(ρ:Operand->de):List Operand->Option (List Value)
 |[]=>some []
 |x::xs=>match dH ρ x,jx ρ xs with
  | .val v,some vs=>some (v::vs)| _,_=>none
abbrev l8(F:Fr):List Operand->Option (List Value):=jx (df F)
def sy(place:Nat->Option (Nat×Nat))(cells:List Value):List (Nat×Value)->Option (List Value)
 |[]=>some cells
 |(i,v)::rest=>match place i with
  |none=>none| some (off,size)=>bif Nat.beq v.cells.size size&&Nat.ble (off+size) cells.length then sy place (bG cells off v.cells.toList) rest else none
def sA(ρ:Operand->de):List (Nat×Operand)->Option (List (Nat×Value))
 |[]=>some []
 |(i,x)::xs=>match dH ρ x,sA ρ xs with
  | .val v,some vs=>some ((i,v)::vs)| _,_=>none
abbrev z8(F:Fr):List (Nat×Operand)->Option (List (Nat×Value)):=sA (df F)
def places(E:Env)(cC:List (Nat×Nat))(i:Nat):Option (Nat×Nat):=match cC[i]? with
 |some (l9,off)=>match E l9 with
  |some g1=>some (off,g1.size)| none=>none
 |none=>none
def Co(E:Env)(cC:List (Nat×Nat)):Bool:=cC.all λf=>(E f.1).isSome
def rowOf(zero:List Value)(n:Nat):List Value:=(List.range n).map λi=>zero[i%zero.length]!
def w0(zero:List Value)(n:Nat):rowOf zero n=(madeCells zero.toArray n).toList:=by simp[rowOf,madeCells]
def IntKind.l':IntKind->IntKind->Bool
 | .i8,.i8 | .i16,.i16 | .i32,.i32 | .i64,.i64 | .u8,.u8 | .u16,.u16 | .u32,.u32 | .u64,.u64=>true| _,_=>false
def k6(op:BinOp)(dr:Option dW)(x y:de)(K:Value->Prop)(other:Prop):Prop:=
 match x,y with
 | .val (.int k a),.val (.int eQ b)=>
  match op with
  | .shl=>wW b λj=>aQ k (a*2^(min j k.bits)) λr=>K (.int k r)
  | .shr=>wW b λj=>K (.int k (a.fdiv (2^(min j k.bits))))
  |op=>bif IntKind.l' k eQ then
    (match op with
    | .add=>aQ k (a+b) λr=>K (.int k r)
    | .sub=>aQ k (a-b) λr=>K (.int k r)
    | .mul=>aQ k (a*b) λr=>K (.int k r)
    | .quo=>j2 b (aQ k (a.tdiv b) λr=>K (.int k r))| .rem=>j2 b (K (.int k (a.tmod b)))
    | .and | .or | .xor | .andNot=>(match tt op k a b with
     |some r=>K (.int k r)| none=>False)
    |op=>(match wV op a b with
     |some r=>K (.bool r)| none=>False))
   else False
 | .val (.string a),.val (.string b)=>
  match op with
  | .eql=>K (.bool (decide (a=b)))| .neq=>K (.bool (!decide (a=b)))| _=>other
 | .val (.bool a),.val (.bool b)=>
  match dr with
  |some { bH:=.bool,.. }=>
   (match op with
   | .eql=>K (.bool (a == b))| .neq=>K (.bool (!(a == b)))| _=>other)
  |_=>other
 |_,_=>other
inductive cx(P:Program)(op:BinOp)(t:Nat)(x y:Operand)(p q:de)(K:Value->Prop)(other:Prop):Prop
 |mk(z9 fB v:Value)(aN:p=.val z9)(a0:q=.val fB)(h:∀ w,(do eqGuard op t x y z9 fB;binOp op t z9 fB:Sem Value).run P w=.ok v w)(k:K v)| other (h:other)
def cE(X:cO)(op:Op)(ρ:Operand->de)(C:c8)(I:aT)(M:List aD)(V:de->Prop)(other:Prop):Prop:=
 match op with
 | .move x | .assign x=>V (ρ x)
 | .pick c a b=>
  match ρ c with
  | .lit c=>V (bif c then ρ a else ρ b)| .val (.bool c)=>V (H9 c (dH ρ a) (dH ρ b))| _=>False
 | .unOp op _ x=>
  match op,ρ x with
  | .not,.lit b=>V (.lit (!b))| .not,.val (.bool b)=>V (.val (.bool (!b)))| .neg,.val (.int k n)=>aQ k (0-n) λr=>V (.val (.int k r))
  |_,_=>other
 | .binOp op t x y _=>k6 op (X.E t) (dH ρ x) (dH ρ y) (λv=>V (.val v)) (cx X.P op t x y (dH ρ x) (dH ρ y) (λv=>V (.val v)) other)
 | .load t x=>
  match X.E t with
  |some i=>
   (match ρ x with
   | .ref s off=>
    (match C s with
    |some cs=>bif Nat.ble (off+i.size) cs.length then V (.val (pack i.bH.agg ((cs.drop off).take i.size)))else False| none=>False)
   | .val (.pointer (some a))=>aE I M a i.size λvs=>V (.val (pack i.bH.agg vs))
   |_=>False)
  |none=>False
 | .nilCheck x=>
  match ρ x with
  | .ref s off=>V (.ref s off)| .val (.pointer (some a))=>V (.val (.pointer (some a)))| _=>other
 | .fieldAddr t x i=>
  match X.E t with
  |some { bH:=.struct cC,.. }=>
   (match cC[i]? with
   |some (l9,off)=>
    (match X.E l9,ρ x with
    |some g1,.ref s o'=>bif Nat.beq g1.size 0 then False else V (.ref s (o'+off))| some g1,.val (.pointer (some a))=>bif Nat.beq g1.size 0 then False else V (.val (.pointer (some (a.add off))))| _,_=>False)
   |none=>False)
  |_=>False
 | .field t x i=>
  match X.E t,dH ρ x with
  |some { bH:=.struct cC,.. },.val (.agg cs)=>
   (match cC[i]? with
   |some (l9,off)=>
    (match X.E l9 with
    |some g1=>bif Nat.ble (off+g1.size) cs.size then V (.val (pack g1.bH.agg ((cs.toList.drop off).take g1.size)))else False| none=>False)
   |none=>False)
  |_,_=>False
 | .indexAddr t x i=>
  match X.E t,dH ρ i with
  |some { bH:=.slice e,.. },.val (.int _ k)=>
   (match X.E e,dH ρ x with
   |some aO,.val (.slice a n _)=>aW a n aO.size k λad=>V (.val (.pointer (some ad)))
   |_,_=>False)
  |some { bH:=.array n e,.. },.val (.int _ k)=>
   (match X.E e,ρ x with
   |some aO,.ref s o'=>eb n k λj=>V (.ref s (o'+j*aO.size))
   |some aO,.val (.pointer (some a))=>eb n k λj=>V (.val (.pointer (some (a.add (j*aO.size)))))
   |_,_=>False)
  |_,_=>False
 | .index t x i=>
  match X.E t,dH ρ x,dH ρ i with
  |some { bH:=.string,.. },.val (.string s),.val (.int _ k)=>sv s k λb=>V (.val (.int .u8 b.toNat))
  |some { bH:=.array n e,.. },.val (.agg cs),.val (.int _ k)=>
   (match X.E e with
   |some aO=>bif Nat.beq (n*aO.size) cs.size then eb n k λj=>V (.val (pack aO.bH.agg ((cs.toList.drop (j*aO.size)).take aO.size)))else False
   |none=>False)
  |_,_,_=>False
 | .build t parts=>
  match X.E t,sA ρ parts.toList with
  |some i,some vs=>
   (match i.bH with
   | .struct cC=>bif Co X.E cC then(match sy (places X.E cC) i.zero vs with
    |some cells=>V (.val (.agg cells.toArray))| none=>False)else False
   | .array _ e=>(match X.E e with
    |some aO=>(match sy (λj=>some (j*aO.size,aO.size)) i.zero vs with
     |some cells=>V (.val (.agg cells.toArray))| none=>False)
    |none=>False)
   |_=>False)
  |_,_=>False
 | .makeFunc fn first captured=>
  match jx ρ first.toList,jx ρ captured.toList with
  |some cC,some cs=>V (.val (.func fn cC.toArray cs.toArray))| _,_=>False
 | .slice t x lo hi mx=>
  match X.E t,dH ρ x,mx with
  |some { bH:=.slice e,.. },.val (.slice a n c),none=>
   (match X.E e,lo.map (dH ρ),hi.map (dH ρ)with
   |some aO,none,none=>V (.val (.slice a n c))| some aO,none,some (.val (.int _ h))=>jv n c none (some h) λ_ h=>V (.val (.slice a h c))
   |some aO,some (.val (.int _ l)),none=>jv n n (some l) none λl _=>V (.val (.slice (if c=l then a else a.map (·.add (l*aO.size))) (n-l) (c-l)))
   |some aO,some (.val (.int _ l)),some (.val (.int _ h))=>jv n c (some l) (some h) λl h=>V (.val (.slice (if c=l then a else a.map (·.add (l*aO.size))) (h-l) (c-l)))
   |_,_,_=>False)
  |some { bH:=.string,.. },.val (.string s),none=>
   (match lo.map (dH ρ),hi.map (dH ρ)with
   |none,none=>V (.val (.string s))| none,some (.val (.int _ h))=>jv s.size s.size none (some h) λ_ h=>V (.val (.string (s.extract 0 h)))
   |some (.val (.int _ l)),none=>jv s.size s.size (some l) none λl _=>V (.val (.string (s.extract l s.size)))
   |some (.val (.int _ l)),some (.val (.int _ h))=>jv s.size s.size (some l) (some h) λl h=>V (.val (.string (s.extract l h)))
   |_,_=>False)
  |_,_,_=>other
 | .extract x i=>
  match dH ρ x with
  | .val (.tuple vs)=>(match vs.toList[i]? with
   |some v=>V (.val v)| none=>False)
  |_=>False
 | .convert s d x=>
  match X.E s,X.E d,dH ρ x with
  |some _,some { bH:=.int k,.. },.val (.int _ n)=>aQ k n λr=>V (.val (.int k r))
  |_,_,_=>other
 | .call { callee:=.builtin .len,args,argTypes }=>
  match argTypes.toList,jx ρ args.toList with
  |[t],some [v]=>
   (match X.E t,v with
   |some { bH:=.slice _,.. },.slice _ n _=>V (.val (.int .i64 n))| some { bH:=.string,.. },.string s=>V (.val (.int .i64 s.size))| some { bH:=.array n _,.. },_=>V (.val (.int .i64 n))| _,_=>other)
  |_,_=>other
 | .call { callee:=.builtin .cap,args,argTypes }=>
  match argTypes.toList,jx ρ args.toList with
  |[t],some [v]=>
   (match X.E t,v with
   |some { bH:=.slice _,.. },.slice _ _ c=>V (.val (.int .i64 c))| _,_=>other)
  |_,_=>other
 | .call { callee:=.builtin .max,args,.. }=>
  match jx ρ args.toList with
  |some [.int k a,.int _ b]=>V (.val (.int k (max a b)))| _=>other
 | .call { callee:=.builtin .min,args,.. }=>
  match jx ρ args.toList with
  |some [.int k a,.int _ b]=>V (.val (.int k (min a b)))| _=>other
 | .call { callee:=.builtin .unsafeSliceData,args,.. }=>
  match jx ρ args.toList with
  |some [.slice none _ _]=>V (.val (.pointer none))| some [.slice (some a) _ c]=>j2 c (V (.val (.pointer (some a))))| _=>other
 |_=>other
def hM(X:cO)(o:Oper)(F:Fr)(C:c8)(I:aT)(M:List aD)(K:fZ):Prop:=
 match o.op with
 | .box t x=>
  match o.dst,bY F x with
  |some d,.val v=>
   bif X.gv.contains d then bL I M λb=>K (fA (pq F d) d (.val (.pointer (some ⟨b,0,none⟩)))) (iQ C d none) I (⟨b,.cells v.cells t (0,0)⟩::M)
   else K (fA (pq F d) d (.ref d 0)) (iQ C d (some v.cells.toList)) I M
  |_,_=>False
 | .alloc t=>
  match o.dst,X.E t with
  |some d,some i=>
   bif X.gv.contains d then bL I M λb=>K (fA (pq F d) d (.val (.pointer (some ⟨b,0,none⟩)))) (iQ C d none) I (⟨b,.cells i.zero.toArray t (0,0)⟩::M)
   else K (fA (pq F d) d (.ref d 0)) (iQ C d (some i.zero)) I M
  |_,_=>False
 | .store t x y=>
  match o.dst,X.E t,bY F y with
  |none,some i,.val v=>
   (match df F x with
   | .ref s off=>
    (match C s with
    |some cs=>bif Nat.ble (off+i.size) cs.length&&(Nat.beq v.cells.size i.size&&gh v.cells.toList)then K F (iQ C s (some (bG cs off v.cells.toList))) I M else False| none=>False)
   | .val (.pointer (some a))=>bif Nat.beq v.cells.size i.size then cu M a v.cells.toList λM'=>K F C I M' else False
   |_=>False)
  |_,_,_=>False
 | .buildSlice t len parts=>
  match X.E t,z8 F parts.toList with
  |some { bH:=.slice e,.. },some vs=>
   (match X.E e with
   |some aO=>
    bif Nat.ble (len*aO.size) 16777216&&Nat.blt 0 (len*aO.size)then
     (match sy (λj=>some (j*aO.size,aO.size)) (rowOf aO.zero (len*aO.size)) vs with
     |some cells=>bL I M λb=>K (put o.dst (.val (.slice (some ⟨b,0,none⟩) len len)) F) C I (⟨b,.cells cells.toArray e (0,0)⟩::M)
     |none=>False)
    else(match len,vs with
     |0,[]=>bL I M λb=>K (put o.dst (.val (.slice (some ⟨b,0,none⟩) 0 0)) F) C I (⟨b,.cells #[] e (0,0)⟩::M)
     |_,_=>False)
   |none=>False)
  |_,_=>False
 | .makeSlice t l c=>
  match X.E t,bY F l,bY F c with
  |some { bH:=.slice e,.. },.val (.int _ l),.val (.int _ c)=>
   (match X.E e with
   |some aO=>mO l c aO.bytes λn m=>bL I M λb=>K (put o.dst (.val (.slice (some ⟨b,0,none⟩) n m)) F) C I (⟨b,.cells (rowOf aO.zero (m*aO.size)).toArray e (0,0)⟩::M)
   |none=>False)
  |_,_,_=>False
 | .call { callee:=.value f,args,.. }=>
  match bY F f,l8 F args.toList with
  | .val (.func (.func g) first cap),some vs=>aU X.cp X.P g (first.toList++vs++cap.toList) I M λv I' M'=>K (put o.dst (.val v) F) C I' M'
  |_,_=>bk X o F C I M K
 |op=>cE X op (df F) C I M (λx=>K (put o.dst x F) C I M) (bk X o F C I M K)
inductive a9(c b:Bool)(Y N:Prop):Prop
 |mk(h:c=b->Y)(aG:c=!b->N)
def tv(X:cO)(ops:List Oper):List Oper->Fr->c8->aT->List aD->fZ->Prop
 |[],F,C,I,M,K=>K F C I M
 |o::rest,F,C,I,M,K=>
  match o.guard with
  |none=>hM X o F C I M λF C I M=>tv X ops rest F C I M K
  |some (j,b)=>
   match(ops[j]?).bind (·.dst)with
   |none=>False
   |some d=>
    match F d with
    | .lit c=>bif c == b then hM X o F C I M λF C I M=>tv X ops rest F C I M K else tv X ops rest (put o.dst (.val undef) F) C I M K
    | .val (.bool c)=>a9 c b (hM X o (fA F d (.lit b)) C I M λF C I M=>tv X ops rest F C I M K) (tv X ops rest (put o.dst (.val undef) (fA F d (.lit !b))) C I M K)| .val (.tuple _)=>tv X ops rest (put o.dst (.val undef) F) C I M K| _=>False
def hx{a b:Nat}(h:¬ a=b):Nat.beq a b=false:=by
 cases ah:Nat.beq a b with
 |false=>rfl| true=>exact absurd (dD ah) h
def qp(a:Nat):Nat.beq a a=true:=Nat.beq_refl a
def EL(w:World)(o:Obj){i:Nat}(h:i<w.heap.size):(w.alloc o).heap[i]?=w.heap[i]?:=by show(w.heap.push o)[i]?=_;simp[Array.getElem?_push,Nat.ne_of_lt h]
def LX(w:World)(o:Obj):(w.alloc o).heap[w.heap.size]?=some o:=by show(w.heap.push o)[w.heap.size]?=_;simp
section
variable{X:cO}{β:Nat->Nat}{a:Act}{w:World}{F:Fr}{C:c8}{I:aT}{M:List aD}{o:Oper}{Q:Exit->Act->World->Prop}{next:Act->World->Prop}{K:fZ}
def w1(h:∀ t,eI β (F t) (a.tmps.getD t undef))(x:Operand):eI β (df F x) (a.eval x):=by
 cases x with
 |tmp t=>exact h t| const v=>cases v<;>exact rfl
 |global g=>exact rfl| func f=>exact rfl
def dx(h:∀ t,eI β (F t) (a.tmps.getD t undef)){x:Operand}(ae:bY F x=.val v):a.eval x=v:=by
 have U:=w1 h x;unfold bY dH at ae;split at ae
 ·rename_i b ah;rw[ah]at U;cases ae;exact U
 ·rw[ae]at U;exact U
def tw(h:∀ t,eI β (F t) (a.tmps.getD t undef)){x:Operand}(ae:df F x=.val v):a.eval x=v:=by have U:=w1 h x;rw[ae]at U;exact U
def LY(h:∀ t,eI β (F t) (a.tmps.getD t undef)){x:Operand}{b:Bool}(ae:df F x=.lit b):a.eval x=.bool b:=by have U:=w1 h x;rw[ae]at U;exact U
def z'(h:∀ t,eI β (F t) (a.tmps.getD t undef)){x:Operand}{s:Nat}(ae:df F x=.ref s off):a.eval x=.pointer (some ⟨β s,off,none⟩):=by have U:=w1 h x;rw[ae]at U;exact U
def Sv(h:∀ t,eI β (F t) (a.tmps.getD t undef))(x:Operand):eI β (bY F x) (a.eval x):=by
 have U:=w1 h x;unfold bY dH;split
 ·rename_i b ah;rw[ah]at U;exact U
 ·exact U
def sB(h:∀ t,eI β (F t) (a.tmps.getD t undef)):∀ {xs:List Operand} {vs:List Value},l8 F xs=some vs->xs.map a.eval=vs
 |[],vs,ae=>by simp[l8,jx]at ae;simp[ae]
 |x::xs,vs,ae=>by
  unfold l8 jx at ae;split at ae;·rename_i v sC U ab;cases ae;simp[dx h U,sB h ab]
  ·cases ae
def Ib(h:∀ t,eI β (F t) (a.tmps.getD t undef)):∀ {xs:List (Nat×Operand)} {vs:List (Nat×Value)},z8 F xs=some vs->(xs.map λ(i,x)=>(i,a.eval x))=vs
 |[],vs,ae=>by simp[z8,sA]at ae;simp[ae]
 |(i,x)::xs,vs,ae=>by
  unfold z8 sA at ae;split at ae;·rename_i v sC U ab;cases ae;simp[dx h U,Ib h ab]
  ·cases ae
def j3(bW:∀ c,o.op≠.defer c)(h:(execOp a.eval o).run X.P w=.ok (.value v) w')(af:next (a.put o.dst v) w'):o.wpIn (gG X) 0 X.P a w next Q:=
 ⟨λ_ _=>trivial,by rw[H8 _ _ _ bW,h];exact af⟩
def Cp(bW:∀ c,o.op≠.defer c)(h:(execOp a.eval o).run X.P w=.ok .skip w')(af:next (a.put o.dst undef) w'):o.wpIn (gG X) 0 X.P a w next Q:=
 ⟨λ_ _=>trivial,by rw[H8 _ _ _ bW,h];exact af⟩
def Sw(a:Act)(d t:Nat)(v:Value)(al:d<a.tmps.size):(a.put (some d) v).tmps.getD t undef=if t=d then v else a.tmps.getD t undef:=by
 simp only[Act.put,oF,Ch];by_cases h:t=d
 ·subst h;simp[al]
 ·simp[h,rm h]
def LZ(h:∀ t,eI β (F t) (a.tmps.getD t undef)){d:Nat}{x:de}(al:d<a.tmps.size)(ae:eI β x v)(t:Nat):eI β (fA F d x t) ((a.put (some d) v).tmps.getD t undef):=by
 rw[Sw a d t v al];unfold fA;by_cases U:t=d
 ·subst U;simp only[qp,bt,nU];exact ae
 ·have:Nat.beq t d=false:=hx U;simp only[this,bz,cB U];exact h t
def Sx(w:World)(g:Nat)(cs:Array Value):nW w (w.setRow g cs):=by
 unfold World.setRow
 first | exact⟨rfl,rfl⟩ | (split<;>exact⟨rfl,rfl⟩)
def Ic(w:World)(g:Nat)(o:Obj):nW w (w.putObj g o):=by unfold World.putObj;exact⟨rfl,rfl⟩
def Marks.mono(h:Marks X a w I M){I':aT}{M':List aD}(hm:∀ r,u9 X w I M r->u9 X w' I' M' r):Marks X a w' I' M':=by obtain⟨aJ,U,ab,ak⟩:=h;exact⟨aJ,U,ab,λr ag=>hm r (ak r ag)⟩
def cP.put(h:cP X β a w F C I M)(al:∀ d,dst=some d->d<X.n){x:de}(ae:eI β x v):cP X β (a.put dst v) w (put dst x F) C I M:=by
 cases dst with
 |none=>exact h
 |some d=>
  refine { h with size:=?_,defers:=h.defers,an:=?_ };·simp[Act.put,h.size]
  ·exact LZ h.an (by rw[h.size];exact al d rfl) ae
def ef.heap(h:ef I M w)(cj:w'.heap=w.heap):ef I M w':=
 { i:=by rw[cj];exact h.i,m:=by rw[cj];exact h.m,d:=h.d,bE:=h.bE }
def cP.world(h:cP X β a w F C I M)(cj:w'.heap=w.heap)(aP:nW w w':=by exact⟨rfl,rfl⟩):cP X β a w' F C I M:=
 { h with
  holds:={ i:=by rw[cj];exact h.holds.i,m:=by rw[cj];exact h.holds.m,d:=h.holds.d,bE:=h.holds.bE }
  defers:=h.defers.mono λr ag=>{ ag with at_:=by rw[cj];exact ag.at_ }
  cf:=λs cs ar=>{ h.cf s cs ar with at_:=by rw[cj];exact(h.cf s cs ar).at_ }
  dL:=by rw[cj];exact h.dL
  out:=h.out.trans aP
  sz:=by rw[cj];exact h.sz }
def ef.alloc(h:ef I M w)(o:Obj):ef I M (w.alloc o) where
 i b x ah:=by have U:=h.i b x ah;rw[EL w o (l6.1 U).1];exact U
 m x ae:=by have U:=h.m x ae;rw[EL w o (l6.1 U).1];exact U
 d:=h.d
 bE:=h.bE
def ef.lt(h:ef I M w){x:aD}(ae:x∈M):x.num<w.heap.size:=(l6.1 (h.m x ae)).1
def ef.Cq(h:ef I M w){b:Nat}{o:Obj}(ah:I b=some o):b<w.heap.size:=(l6.1 (h.i b o ah)).1
def ef.rq(h:ef I M w):I w.heap.size=none:=by
 cases ah:I w.heap.size with
 |none=>rfl| some o=>exact absurd (h.Cq ah) (Nat.lt_irrefl _)
def ef.qq(h:ef I M w):∀ x∈M,x.num≠w.heap.size:=λx ae e=>by have:=h.lt ae;omega
def ef.cons(h:ef I M w)(o:Obj):ef I (⟨w.heap.size,o⟩::M) (w.alloc o) where
 i:=(h.alloc o).i
 m x ae:=by
  rcases ea.1 ae with rfl | ae;·exact LX w o
  ·exact(h.alloc o).m x ae
 d x ae:=by
  rcases ea.1 ae with rfl | ae;·exact h.rq
  ·exact h.d x ae
 bE:=by simp only[cZ,nR];refine⟨λhm=>?_,h.bE⟩;obtain⟨x,ae,e⟩:=dB.1 hm;exact h.qq x ae e
def wY.alloc{b:Nat}{cs:List Value}(h:wY X w I M b cs)(o:Obj):wY X (w.alloc o) I M b cs where
 at_:=by obtain⟨T,bA⟩:=h.at_;exact⟨T,by rw[EL w o (l6.1 bA).1];exact bA⟩
 base:=h.base
 jw:=h.jw
 eM:=h.eM
def wY.lt{b:Nat}{cs:List Value}(h:wY X w I M b cs):b<w.heap.size:=by obtain⟨T,bA⟩:=h.at_;exact(l6.1 bA).1
def wY.L0{b:Nat}{cs:List Value}(h:wY X w I M b cs)(o:Obj):wY X (w.alloc o) I (⟨w.heap.size,o⟩::M) b cs where
 at_:=(h.alloc o).at_
 base:=h.base
 jw:=h.jw
 eM x ae:=by
  rcases ea.1 ae with rfl | ae
  ·exact λe=>by have:=h.lt;simp only at e;omega
  ·exact h.eM x ae
def u9.alloc{r:Nat}(h:u9 X w I M r)(o:Obj):u9 X (w.alloc o) I M r:=
 { h with at_:=by rw[EL w o (l6.1 h.at_).1];exact h.at_ }
def u9.L0{r:Nat}(h:u9 X w I M r)(o:Obj):u9 X (w.alloc o) I (⟨w.heap.size,o⟩::M) r:=by
 refine { h.alloc o with eM:=λx ae=>?_ };rcases ea.1 ae with rfl | ae
 ·have U:=(l6.1 h.at_).1;simp only;omega
 ·exact h.eM x ae
def L1(h:∀ b,b<X.B->b ∉ X.cp->w.heap[b]?=X.av.heap[b]?)(cQ:X.B<=w.heap.size)(o:Obj):∀ b,b<X.B->b ∉ X.cp->(w.alloc o).heap[b]?=X.av.heap[b]?:=λb ah au=>by rw[EL w o (by omega)];exact h b ah au
def cP.pu(h:cP X β a w F C I M)(o:Obj):cP X β a (w.alloc o) F C I (⟨w.heap.size,o⟩::M) where
 size:=h.size
 defers:=h.defers.mono λr ag=>ag.L0 o
 holds:=h.holds.cons o
 an:=h.an
 cf s cs ar:=(h.cf s cs ar).L0 o
 inj:=h.inj
 hL:=h.hL
 hl:=h.hl
 own x ae:=by
  rcases ea.1 ae with rfl | ae;·exact .inr h.sz
  ·exact h.own x ae
 dL:=L1 h.dL h.sz o
 out:=h.out
 sz:=by have:=h.sz;simp;omega
def cP.L2(h:cP X β a w F C I M)(d:Nat):cP X β a w (pq F d) (iQ C d none) I M where
 size:=h.size
 defers:=h.defers
 holds:=h.holds
 an t:=by
  have U:=h.an t;unfold pq;cases bs:F t with
  |ref s off=>
   rw[bs]at U;simp only;cases Nat.beq s d;·exact U
   ·trivial
  |_=>rw[bs]at U;exact U
 cf s cs ar:=by
  unfold iQ at ar;cases ah:Nat.beq s d with
  |true=>simp[ah]at ar| false=>simp[ah]at ar;exact h.cf s cs ar
 inj s b3 U ab:=h.inj s b3 (λe=>U (by simp[iQ,e])) (λe=>ab (by simp[iQ,e]))
 hL:=h.hL
 hl:=h.hl
 own:=h.own
 dL:=h.dL
 out:=h.out
 sz:=h.sz
def cP.Sy(h:cP X β a w F C I M)(d:Nat)(al:d<X.n)(cs:List Value)(T:Nat) :
  ∃ nX,cP X nX (a.put (some d) (.pointer (some ⟨w.heap.size,0,none⟩))) (w.alloc (.cells cs.toArray T (0,0))) (fA (pq F d) d (.ref d 0)) (iQ C d (some cs)) I M:=by
 have av:=h.L2 d;let nX:Nat->Nat:=λs=>if s=d then w.heap.size else β s
 refine⟨nX,?_⟩;have w2:∀ t,eI nX (pq F d t) (a.tmps.getD t undef):=λt=>by
  have U:=av.an t;cases bs:pq F d t with
  |ref s off=>
   rw[bs]at U;have ar:s≠d:=by
    intro e;subst e;unfold pq at bs;split at bs
    ·rename_i b3 Ie If;cases ah:Nat.beq b3 s with
     |true=>simp[ah]at bs| false=>simp[ah]at bs;obtain⟨rfl,_⟩:=bs;simp at ah
    ·rename_i bB;exact bB _ _ bs
   simp only[eI,nX,cB ar];exact U
  |_=>rw[bs]at U;exact U
 exact {
  size:=by simp[Act.put,h.size]
  defers:=h.defers.mono λr ag=>ag.alloc _
  holds:=h.holds.alloc _
  an:=LZ w2 (by rw[h.size];exact al) (by simp[eI,nX])
  cf:=λs cs' ar=>by
   by_cases e:s=d;·subst e;simp[iQ]at ar;subst ar;simp only[nX,cw rfl];exact { at_:=⟨T,LX w _⟩,base:=h.sz,jw:=h.holds.rq,eM:=h.holds.qq }
   ·have ah:Nat.beq s d=false:=hx e;simp[iQ,ah]at ar;simp only[nX,cB e];exact(h.cf s cs' ar).alloc _
  inj:=λs b3 U ab he=>by
   by_cases e:s=d<;>by_cases c0:b3=d
   ·rw[e,c0]
   ·exfalso;have ah:Nat.beq b3 d=false:=hx c0;simp[iQ,ah]at ab;obtain⟨c,aC⟩:=H3.1 ab;have:=(h.cf b3 c aC).lt;simp only[nX,cw e,cB c0]at he;omega
   ·exfalso;have ah:Nat.beq s d=false:=hx e;simp[iQ,ah]at U;obtain⟨c,aC⟩:=H3.1 U;have:=(h.cf s c aC).lt;simp only[nX,cB e,cw c0]at he;omega
   ·have ah:Nat.beq s d=false:=hx e;have hn:Nat.beq b3 d=false:=hx c0;simp[iQ,ah]at U;simp[iQ,hn]at ab;simp only[nX,cB e,cB c0]at he;exact h.inj s b3 U ab he
  hL:=h.hL
  hl:=h.hl
  own:=h.own
  dL:=L1 h.dL h.sz _
  out:=h.out
  sz:=by have:=h.sz;simp;omega }
def dF(a:Addr)(h:a.spot=none)(j:Nat):a.add j=⟨a.block,a.off+j,none⟩:=by
 obtain⟨b,o,s⟩:=a;simp only at h;subst h;unfold Addr.add;split<;>simp_all
def u'{b:Nat}(ao:w.heap[b]?=some (.cells cs T an))(j:Nat):w.cell? ⟨b,j,none⟩=cs[j]?:=by simp[World.cell?,ao]
variable{P:Program}{t:Nat}{i:dW}
def j1.run_sizeOf(h:j1 P t i)(w:World):(sizeOf t).run P w=.ok i.size w:=by obtain⟨inf,z,U,ab,_⟩:=h.inf;simp[sizeOf,typeInfo,U,ab]
def j1.EM(h:j1 P t i)(w:World):∃ z,(zeroValue t).run P w=.ok z w/\z.cells.toList=i.zero:=by obtain⟨inf,z,U,ab,ak,aL,bm⟩:=h.inf;exact⟨z,by simp[zeroValue,typeInfo,U,aL],bm⟩
def j1.acF(h:j1 P t i)(w:World):∃ d,(underlying t).run P w=.ok d w/\fe d=i.bH:=by obtain⟨d,U,ab⟩:=h.fl;exact⟨d,run_underlying U w,ab⟩
def j1.Sz(h:j1 P t i)(w:World):(isAgg t).run P w=.ok i.bH.agg w:=by
 obtain⟨d,U,ab⟩:=h.acF w;rw[<-ab];unfold isAgg;simp only[b8,U,bU];cases d<;>rfl
def acG(ay:vs.length=1):vs=[vs.headD undef]:=by
 match vs,ay with
 |[v],_=>rfl
def Ig(h:j1 P t i){a:Addr}(ar:a.spot=none)(ao:w.heap[a.block]?=some (.cells cs T an))
  (ai:(cs.toList.drop a.off).take i.size=vs) (ay:vs.length=i.size):(loadVar t a).run P w=.ok (pack i.bH.agg vs) w:=by
 have aC:∀ j v,vs[j]?=some v->w.cell? (a.add j)=some v:=by
  intro j v aj;rw[dF a ar,u' ao];rw[<-ai,kA]at aj;split at aj;·rw[oG]at aj;simpa using aj
  ·cases aj
 unfold loadVar;simp only[b8,h.Sz,bU];cases Aa:i.bH.agg with
 |true=>simp only[nU,b8,h.run_sizeOf,bU,<-ay];rw[run_loadCells_list w a vs aC];simp[pack]| false=>have U:=h.EJ Aa;rw[U]at ay;have ib:=acG ay;have:=aC 0 (vs.headD undef) (by rw[ib];simp);have aX:a.add 0=a:=rfl;rw[aX]at this;simp[this,pack]
def Ab(h:gh vs=true):∀ v∈vs,v.oneCell'=true:=by simpa[gh]using h
def Ih(h:j1 P t i){a:Addr}(ar:a.spot=none)(ao:w.heap[a.block]?=some (.cells cs T (0,0)))(cQ:v.cells.size=i.size)(ah:a.off+v.cells.toList.length<=cs.size)(U:gh v.cells.toList=true) :
  (storeVar t a v).run P w=.ok () (w.setRow a.block (bG cs.toList a.off v.cells.toList).toArray):=by
 obtain⟨b,o,s⟩:=a;simp only at ar ao ah;subst ar;unfold storeVar;simp only[b8,h.run_sizeOf,bU,cQ,ne_eq,not_true,kB,Sem.run_ite];have:=run_storeCells_at (P:=P) b o T v.cells.toList 0 cs w ao (by simpa using ah) (Ab U);simp only[nT]at this;simp only[bG];simpa using this
def cP.SA(h:cP X β a w F C I M){s:Nat}{cs:List Value}(ar:C s=some cs)(cs':List Value):cP X β a (w.setRow (β s) cs'.toArray) F (iQ C s (some cs')) I M:=by
 have ah:=h.cf s cs ar;obtain⟨T,bA⟩:=ah.at_;exact {
  size:=h.size
  defers:=h.defers.mono λr ag=>by refine { ag with at_:=?_ };rw[setRow_other _ _ _ _ (λe=>by have U:=ag.at_;rw[e,bA]at U;cases U)];exact ag.at_
  holds:={
   i:=λb o jy=>by rw[setRow_other _ _ _ _ (λe=>by rw[e,ah.jw]at jy;cases jy)];exact h.holds.i b o jy
   m:=λx ae=>by rw[setRow_other _ _ _ _ (ah.eM x ae)];exact h.holds.m x ae
   d:=h.holds.d
   bE:=h.holds.bE }
  an:=h.an
  cf:=λb3 c' rr=>by
   by_cases e:b3=s;·subst e;simp[iQ,qp]at rr;subst rr;exact { at_:=⟨T,setRow_heap _ _ _ _ _ _ bA⟩,base:=ah.base,jw:=ah.jw,eM:=ah.eM }
   ·simp[iQ,hx e]at rr;have hn:=h.cf b3 c' rr;obtain⟨tx,EN⟩:=hn.at_;refine { at_:=⟨tx,?_⟩,base:=hn.base,jw:=hn.jw,eM:=hn.eM };rw[setRow_other _ _ _ _ (λc0=>e (h.inj b3 s (by simp[rr]) (by simp[ar]) c0))];exact EN
  inj:=λs1 s2 U ab=>h.inj s1 s2 (λe=>by
    unfold iQ at U;cases a0:Nat.beq s1 s with
    |true=>have:=dD a0;subst this;rw[ar]at e;cases e| false=>rw[a0]at U;exact U e) (λe=>by
    unfold iQ at ab;cases a0:Nat.beq s2 s with
    |true=>have:=dD a0;subst this;rw[ar]at e;cases e| false=>rw[a0]at ab;exact ab e)
  hL:=h.hL
  hl:=h.hl
  own:=h.own
  dL:=λb hn au=>by rw[setRow_other _ _ _ _ (λe=>by have:=ah.base;omega)];exact h.dL b hn au
  out:=h.out.trans (Sx _ _ _)
  sz:=by have:=h.sz;simpa using this }
def cP.yi(h:cP X β a w F C I M){pre post:List aD}{g:Nat}{cs':Array Value}(aV:M=pre++⟨g,.cells cs T (0,0)⟩::post) :
  cP X β a (w.setRow g cs') F C I (pre++⟨g,.cells cs' T (0,0)⟩::post):=by
 subst aV;have fv:(⟨g,.cells cs T (0,0)⟩:aD)∈pre++⟨g,.cells cs T (0,0)⟩::post:=by simp
 have ao:w.heap[g]?=some (.cells cs T (0,0)):=h.holds.m _ fv;have bW:=h.holds.bE;simp only[eL,cZ]at bW;have bB:∀ x,x∈pre\/x∈post->x.num≠g:=by
  intro x ae e;rw[u6]at bW;obtain⟨_,ab,ak⟩:=bW;rcases ae with ae | ae;·exact ak x.num (dB.2 ⟨x,ae,rfl⟩) g (by simp) e
  ·rw[nR]at ab;exact ab.1 (dB.2 ⟨x,ae,e⟩)
 have mem:∀ x,x∈pre++(⟨g,.cells cs' T (0,0)⟩:aD)::post->x=⟨g,.cells cs' T (0,0)⟩\/(x∈pre\/x∈post):=by
  intro x ae;simp only[dm,ea]at ae;rcases ae with ae | ae | ae;·exact .inr (.inl ae)
  ·exact .inl ae
  ·exact .inr (.inr ae)
 have back:∀ x,x∈pre\/x∈post->x∈pre++(⟨g,.cells cs T (0,0)⟩:aD)::post:=by
  intro x ae;simp only[dm,ea];rcases ae with ae | ae;·exact .inl ae
  ·exact .inr (.inr ae)
 exact {
  size:=h.size
  defers:=h.defers.mono λr ag=>by
   have Ac:g≠r:=ag.eM _ fv;refine { ag with at_:=?_,eM:=λx ae=>?_ };·rw[setRow_other _ _ _ _ (rm Ac)];exact ag.at_
   ·rcases mem x ae with rfl | ae
    ·exact Ac
    ·exact ag.eM x (back x ae)
  holds:={
   i:=λb o jy=>by rw[setRow_other _ _ _ _ (λe=>by have:=h.holds.d _ fv;simp only at this;rw[e,this]at jy;cases jy)];exact h.holds.i b o jy
   m:=λx ae=>by
    rcases mem x ae with rfl | ae;·exact setRow_heap _ _ _ _ _ _ ao
    ·rw[setRow_other _ _ _ _ (bB x ae)];exact h.holds.m x (back x ae)
   d:=λx ae=>by
    rcases mem x ae with rfl | ae;·exact h.holds.d ⟨g,.cells cs T (0,0)⟩ fv
    ·exact h.holds.d x (back x ae)
   bE:=by simpa[eL]using bW }
  an:=h.an
  cf:=λs c ar=>by
   have ah:=h.cf s c ar;obtain⟨tx,EN⟩:=ah.at_;have pw:g≠β s:=ah.eM _ fv;refine { at_:=⟨tx,?_⟩,base:=ah.base,jw:=ah.jw,eM:=λx ae=>?_ };·rw[setRow_other _ _ _ _ (rm pw)];exact EN
   ·rcases mem x ae with rfl | ae
    ·exact pw
    ·exact ah.eM x (back x ae)
  inj:=h.inj
  hL:=h.hL
  hl:=h.hl
  own:=λx ae=>by
   rcases mem x ae with rfl | ae;·exact h.own ⟨g,.cells cs T (0,0)⟩ fv
   ·exact h.own x (back x ae)
  dL:=λb ah au=>by
   rw[setRow_other _ _ _ _ (λe=>by
    rcases h.own _ fv with U | U;·simp only at U;exact au (e ▸ U)
    ·simp only at U;omega)]
   exact h.dL b ah au
  out:=h.out.trans (Sx _ _ _)
  sz:=by have:=h.sz;simpa using this }
def h'.heap(h:ef I M w){b:Nat}{o:Obj}(af:h' I M b o):w.heap[b]?=some o:=by
 rcases af with af | ⟨x,ae,rfl,rfl⟩
 ·exact h.i b o af
 ·exact h.m x ae
def acH{cur:List Value}{x:Value}{xs:List Value}(h:off+1+xs.length<=cur.length):bG (cur.set off x) (off+1) xs=bG cur off (x::xs):=by
 unfold bG;rw[List.take_set,List.drop_set,cw (by omega),er (by omega:off<cur.length)];have e:(List.take off cur++[cur[off]'(by omega)]).set off x=List.take off cur++[x]:=by rw[List.set_append,cB (by simp;omega)];simp[ss (by omega:off<=cur.length)]
 rw[e];simp[tr,Cn 1]
def SB(off:Nat):∀ (xs:List Value) (k:Nat) (cur:List Value),off+k+xs.length<=cur.length -> (xs.zipIdx k).foldl (λ(cs:Array Value) (p:Value×Nat)=>cs.setIfInBounds (off+p.2) p.1) cur.toArray=(bG cur (off+k) xs).toArray
 |[],k,cur,_=>by simp[bG]
 |x::xs,k,cur,ay=>by simp only[cS]at ay;simp only[List.zipIdx_cons,qm];rw[List.setIfInBounds_toArray,SB off xs (k+1) _ (by simp;omega)];rw[show off+(k+1)=off+k+1 from by omega,acH (by omega)]
def fill_eq(place:Nat->Option (Nat×Nat)):∀ (vs:List (Nat×Value)) (cells r:List Value),sy place cells vs=some r->Instr.fill place cells.toArray vs=some r.toArray
 |[],cells,r,h=>by simp[sy]at h;simp[Instr.fill,h]
 |(i,v)::rest,cells,r,h=>by
  unfold sy at h;unfold Instr.fill;split at h;·cases h
  ·rename_i off size aN;simp only[aN];cases aC:(Nat.beq v.cells.size size&&Nat.ble (off+size) cells.length)with
   |false=>rw[aC]at h;cases h
   |true=>
    rw[aC]at h;simp only[bt]at h;rw[b']at aC;have U:=dD aC.1;have ab:=b9 aC.2;have aF:decide (v.cells.size≠size)=false:=by simp[U]
    have a7:decide (off+v.cells.size > cells.toArray.size)=false:=by simp;omega
    rw[aF,a7];simp only[Bool.or_false,jX,kB];have a8:=fill_eq place rest _ r h;rw[<-a8];congr 1;have:=SB off v.cells.toList 0 cells (by simp;omega);simp only[nT]at this;rw[<-this,<-LS];simp
end
def hk.le{I I':aT}{M M':List aD}(h:hk cp I M I' M')(jf:ef I M w):(∀ b o,I b=some o->I' b=some o)/\ef I' M' w /\
  (∀ b o,I' b=some o->I b=some o\/∃ x∈M,x.num=b/\x.obj=o/\b ∉ cp)/\(∀ x∈M',x∈M):=by
 induction h with
 |refl=>exact⟨λ_ _ h=>h,jf,λ_ _ h=>.inl h,λ_ h=>h⟩
 | @sub I M M1 I' M' ar k a8=>
  have U:ef I M1 w:=⟨jf.i,λx ae=>jf.m x (ar.subset ae),λx ae=>jf.d x (ar.subset ae),(ar.map _).nodup jf.bE⟩;obtain⟨ca,dC,dz,gr⟩:=a8 U;refine⟨ca,dC,λb o ah=>?_,λx ae=>ar.subset (gr x ae)⟩;rcases dz b o ah with h | ⟨x,ae,h⟩;·exact .inl h
  ·exact .inr ⟨x,ar.subset ae,h⟩
 | @perm I M M1 I' M' aN k a8=>
  have U:ef I M1 w:=⟨jf.i,λx ae=>jf.m x (aN.mem_iff.2 ae),λx ae=>jf.d x (aN.mem_iff.2 ae),(aN.map _).nodup_iff.1 jf.bE⟩;obtain⟨ca,dC,dz,gr⟩:=a8 U;refine⟨ca,dC,λb o ah=>?_,λx ae=>aN.mem_iff.2 (gr x ae)⟩;rcases dz b o ah with h | ⟨x,ae,h⟩;·exact .inl h
  ·exact .inr ⟨x,aN.mem_iff.2 ae,h⟩
 | @pt I M I' M' b o post aV au k a8=>
  subst aV;have bW:=jf.bE;simp only[cZ,nR]at bW;have ah:=jf.d ⟨b,o⟩ (by simp);simp only at ah;have U:ef (ins I b o) post w:={
   i:=λic o' h=>by
    unfold ins at h;by_cases e:ic=b;·subst e;simp only[qp,bt,jY]at h;subst h;exact jf.m ⟨ic,o⟩ (by simp)
    ·simp only[hx e,bz]at h;exact jf.i _ _ h
   m:=λx ae=>jf.m x (by simp[ae])
   d:=λx ae=>by unfold ins;have e:x.num≠b:=λe=>bW.1 (dB.2 ⟨x,ae,e⟩);simp only[hx e,bz];exact jf.d x (by simp[ae])
   bE:=bW.2 }
  obtain⟨ca,dC,dz,gr⟩:=a8 U;refine⟨λic o' h=>ca ic o' ?_,dC,λic o' h=>?_,λx ae=>by simp[gr x ae]⟩
  ·unfold ins;by_cases e:ic=b
   ·subst e;rw[ah]at h;cases h
   ·simp only[hx e,bz];exact h
  ·rcases dz ic o' h with h | ⟨x,ae,h⟩
   ·unfold ins at h;by_cases e:ic=b
    ·subst e;simp only[qp,bt,jY]at h;exact .inr ⟨⟨ic,o⟩,by simp,rfl,h,au⟩
    ·simp only[hx e,bz]at h;exact .inl h
   ·exact .inr ⟨x,by simp[ae],h⟩
def cP.jg{X:cO}{β:Nat->Nat}{F:Fr}{C:c8}{I I':aT}{M M':List aD}(h:cP X β a w F C I M)(hw:hk X.cp I M I' M'):cP X β a w F C I' M':=by
 obtain⟨ca,dC,dz,gr⟩:=hw.le h.holds;exact { h with
  holds:=dC
  defers:=h.defers.mono λr ag=>by
   refine { ag with jw:=?_,eM:=λx ae=>ag.eM x (gr x ae) };cases cg:I' r with
   |none=>rfl
   |some o=>
    exfalso;rcases dz _ _ cg with U | ⟨x,ae,U,_⟩;·rw[ag.jw]at U;cases U
    ·exact ag.eM x ae U
  cf:=λs cs ar=>{ h.cf s cs ar with
   jw:=by
    cases cg:I' (β s)with
    |none=>rfl
    |some o=>
     exfalso;rcases dz _ _ cg with U | ⟨x,ae,U,_⟩;·rw[(h.cf s cs ar).jw]at U;cases U
     ·exact(h.cf s cs ar).eM x ae U
   eM:=λx ae=>(h.cf s cs ar).eM x (gr x ae) }
  hL:=λb o ah=>ca b o (h.hL b o ah)
  hl:=λb o ah=>by
   rcases dz b o ah with U | ⟨x,ae,rfl,_,au⟩;·exact h.hl b o U
   ·exact .inr ((h.own x ae).resolve_left au)
  own:=λx ae=>h.own x (gr x ae) }
section
variable{X:cO}{β:Nat->Nat}{a:Act}{w:World}{F:Fr}{C:c8}{I:aT}{M:List aD}{o:Oper}{Q:Exit->Act->World->Prop}{K:fZ}
def SC(h:cP X β a w F C I M)(al:∀ d,o.dst=some d->d<X.n)(bW:∀ c,o.op≠.defer c){x:de}(ag:(execOp a.eval o).run X.P w=.ok (.value v) w)(ae:eI β x v)(af:K (put o.dst x F) C I M):o.wpIn (gG X) 0 X.P a w (Sat X K) Q:=
 j3 bW ag ⟨_,_,_,_,⟨β,h.put al ae⟩,af⟩
def va(h:cP X β a w F C I M)(al:∀ d,o.dst=some d->d<X.n)(bW:∀ c,o.op≠.defer c)(ag:(execOp a.eval o).run X.P w=.ok (.value v) w)(af:K (put o.dst (.val v) F) C I M):o.wpIn (gG X) 0 X.P a w (Sat X K) Q:=
 SC (x:=.val v) h al bW ag rfl af
def px(k:IntKind)(n:Int)(w:World)(P:Program):(asIntOf (.int k n)).run P w=.ok (k,n) w:=rfl
def IntKind.Cr{k eQ:IntKind}(h:IntKind.l' k eQ=true):k=eQ:=by cases k<;>cases eQ<;>first | rfl | cases h
def nY(op:BinOp)(t:Nat)(x y:Operand)(k eQ:IntKind)(n m:Int)(P:Program)(w:World):(eqGuard op t x y (.int k n) (.int eQ m)).run P w=.ok () w:=by
 unfold eqGuard;cases op<;>rfl
def L3(op:BinOp)(t:Nat)(x y:Operand)(n m:ByteArray)(P:Program)(w:World):(eqGuard op t x y (.string n) (.string m)).run P w=.ok () w:=by
 unfold eqGuard;cases op<;>rfl
def SD(op:BinOp)(t:Nat)(x y:Operand)(n m:Bool)(P:Program)(w:World):(eqGuard op t x y (.bool n) (.bool m)).run P w=.ok () w:=by
 unfold eqGuard;cases op<;>rfl
def SE(a b:ByteArray):(a.toList == b.toList)=decide (a=b):=by
 rw[l7];simp only[beq_iff_eq,fk];constructor
 ·intro h;have U:a.data.toList=b.data.toList:=by rw[ByteArray.toList_eq,ByteArray.toList_eq]at h;exact h
  cases a;cases b;simp only[ByteArray.mk.injEq];exact gF U
 ·intro h;rw[h]
def run_equal_bool{t:Nat}(hu:P.underlying t=some .bool)(a b:Bool)(w:World):(Op.equal t (.bool a) (.bool b)).run P w=.ok (a == b) w:=by
 have key:∀ d,(Op.equalIn (d+1) t (.bool a) (.bool b)).run P w=.ok (a == b) w:=λd=>by simp only[Op.equalIn,b8,run_underlying hu,bU,c3]
 exact key 9999
def acI(aR:cX X.P X.E)(op:BinOp)(t:Nat)(x y:Operand)(u v:de)(lB w3:Value)(ae:u=.val lB)(aA:v=.val w3)(SF:Value->Prop)(other:Prop)
  (h:k6 op (X.E t) u v SF other):other\/∃ r,(∀ w,(do eqGuard op t x y lB w3;binOp op t lB w3:Sem Value).run X.P w=.ok r w)/\SF r:=by
 subst ae;subst aA;unfold k6 at h;split at h
 ·rename_i k a eQ b aF a7;cases aF;cases a7
  right
  split at h;·obtain⟨j,rfl,⟨r,ag,af⟩⟩:=h;refine⟨_,λw=>?_,af⟩;simp only[b8,nY,bU,binOp,Op.shift];rw[cB (by omega)];simp[ag]
  ·obtain⟨j,rfl,af⟩:=h;refine⟨_,λw=>?_,af⟩;simp only[b8,nY,bU,binOp,Op.shift];rw[cB (by omega)];simp
  ·rename_i eu iR;cases e6:IntKind.l' k eQ with
   |false=>rw[e6]at h;exact h.elim
   |true=>
    rw[e6]at h;have iS:=IntKind.Cr e6;subst iS;simp only[bt]at h;cases op<;>simp only at h
    case add=>obtain⟨r,ag,af⟩:=h;exact⟨_,λw=>by simp[nY,binOp,Op.intArith,ag],af⟩
    case sub=>obtain⟨r,ag,af⟩:=h;exact⟨_,λw=>by simp[nY,binOp,Op.intArith,ag],af⟩
    case mul=>obtain⟨r,ag,af⟩:=h;exact⟨_,λw=>by simp[nY,binOp,Op.intArith,ag],af⟩
    case quo=>obtain⟨av,r,ag,af⟩:=h;exact⟨_,λw=>by simp[nY,binOp,Op.intDiv,av,ag],af⟩
    case rem=>obtain⟨av,af⟩:=h;exact⟨_,λw=>by simp[nY,binOp,Op.intDiv,av],af⟩
    case and=>exact⟨_,λw=>by simp[nY,binOp,Op.intBits,tt],h⟩
    case or=>exact⟨_,λw=>by simp[nY,binOp,Op.intBits,tt],h⟩
    case xor=>exact⟨_,λw=>by simp[nY,binOp,Op.intBits,tt],h⟩
    case andNot=>exact⟨_,λw=>by simp[nY,binOp,Op.intBits,tt],h⟩
    case shl=>exact(eu rfl).elim
    case shr=>exact(iR rfl).elim
    case eql=>exact⟨_,λw=>by simp only[b8,nY,bU,binOp,Op.intCmp,wV];simp;rfl,h⟩
    case neq=>exact⟨_,λw=>by simp only[b8,nY,bU,binOp,Op.intCmp,wV];simp;rfl,h⟩
    case lss=>exact⟨_,λw=>by simp[nY,binOp,Op.intCmp,wV],h⟩
    case leq=>exact⟨_,λw=>by simp[nY,binOp,Op.intCmp,wV],h⟩
    case gtr=>exact⟨_,λw=>by simp[nY,binOp,Op.intCmp,wV],h⟩
    case geq=>exact⟨_,λw=>by simp[nY,binOp,Op.intCmp,wV],h⟩
 ·rename_i a b aF a7;cases aF;cases a7;split at h
  ·exact .inr ⟨_,λw=>by simp only[b8,L3,bU,binOp,Op.stringOp,c3,SE],h⟩
  ·exact .inr ⟨_,λw=>by simp only[b8,L3,bU,binOp,Op.stringOp,c3,SE],h⟩
  ·exact .inl h
 ·rename_i a b aF a7;cases aF;cases a7;split at h
  ·rename_i dr sz iP z aq;obtain⟨d,hu,al⟩:=(aR _ _ aq).fl;have ie:d=.bool:=by cases d<;>simp_all[fe]
   subst ie;split at h;·exact .inr ⟨_,λw=>by simp only[b8,SD,bU,binOp,run_equal_bool hu,c3],h⟩
   ·exact .inr ⟨_,λw=>by simp only[b8,SD,bU,binOp,run_equal_bool hu,c3],h⟩
   ·exact .inl h
  ·exact .inl h
 ·exact .inl h
def L4{args:Array Value}(h:Calls P f args w R)(n:Nat):CallsIn (gG X) n P f args w R:=by have U:=(callsIn_wide (n:=n)).2 h;exact⟨trivial,λcs ag=>U.2 cs (room_wide _)⟩
def ef.part(h:ef I M w){ez Mr:List aD}(aV:M.Perm (ez++Mr)):ef I ez w:=by
 have e2:∀ x,x∈M ↔ x∈ez\/x∈Mr:=λx=>by rw[aV.mem_iff,dm]
 have bW:((ez++Mr).map (·.num)).Nodup:=(aV.map (·.num)).nodup_iff.1 h.bE;rw[eL,u6]at bW;exact⟨h.i,λx ae=>h.m x ((e2 x).2 (.inl ae)),λx ae=>h.d x ((e2 x).2 (.inl ae)),bW.1⟩
def cP.after(h:cP X β a w F C I M){ez Mr M':List aD}{I':aT}(aV:M.Perm (ez++Mr))(qs:ef I' M' w')(cb:Kept I ez w I' M' w'):cP X β a w' F C I' (M'++Mr):=by
 have e2:∀ x,x∈M ↔ x∈ez\/x∈Mr:=λx=>by rw[aV.mem_iff,dm]
 have bW:((ez++Mr).map (·.num)).Nodup:=(aV.map (·.num)).nodup_iff.1 h.holds.bE;rw[eL,u6]at bW;have SG:∀ x∈Mr,∀ y∈ez,y.num≠x.num:=λx ae y aA=>bW.2.2 y.num (dB.2 ⟨y,aA,rfl⟩) x.num (dB.2 ⟨x,ae,rfl⟩);have acJ:∀ x∈Mr,w'.heap[x.num]?=w.heap[x.num]?:=λx ae=>
  cb.dL x.num (h.holds.lt ((e2 x).2 (.inr ae))) (SG x ae)
 exact {
  size:=h.size
  defers:=h.defers.mono λr ag=>by
   have ax:=(l6.1 ag.at_).1;refine { at_:=?_,base:=ag.base,jw:=?_,eM:=λx ae=>?_ };·rw[cb.dL _ ax (λy aA=>ag.eM y ((e2 y).2 (.inl aA)))];exact ag.at_
   ·cases cg:I' r with
    |none=>rfl
    |some o=>
     exfalso;rcases cb.sw _ _ cg with U | U;·rw[ag.jw]at U;cases U
     ·omega
   ·rcases dm.1 ae with ae | ae
    ·rcases cb.tu x ae with⟨z,a2,qt⟩ | U
     ·rw[<-qt];exact ag.eM z ((e2 z).2 (.inl a2))
     ·omega
    ·exact ag.eM x ((e2 x).2 (.inr ae))
  holds:={
   i:=qs.i
   m:=λx ae=>by
    rcases dm.1 ae with ae | ae;·exact qs.m x ae
    ·rw[acJ x ae];exact h.holds.m x ((e2 x).2 (.inr ae))
   d:=λx ae=>by
    rcases dm.1 ae with ae | ae;·exact qs.d x ae
    ·cases cg:I' x.num with
     |none=>rfl
     |some o=>
      exfalso;rcases cb.sw _ _ cg with U | U;·have:=h.holds.d x ((e2 x).2 (.inr ae));rw[this]at U;cases U
      ·have:=h.holds.lt ((e2 x).2 (.inr ae));omega
   bE:=by
    rw[eL,u6];refine⟨qs.bE,bW.2.1,λp aN q a0 e=>?_⟩;obtain⟨x,ae,rfl⟩:=dB.1 aN;obtain⟨y,aA,rfl⟩:=dB.1 a0;rcases cb.tu x ae with⟨z,a2,qt⟩ | U;·exact SG y aA z a2 (qt.trans e)
    ·have:=h.holds.lt ((e2 y).2 (.inr aA));omega }
  an:=h.an
  cf:=λs cs ar=>by
   have ah:=h.cf s cs ar;obtain⟨T,bA⟩:=ah.at_;refine { at_:=⟨T,?_⟩,base:=ah.base,jw:=?_,eM:=λx ae=>?_ };·rw[cb.dL _ ah.lt (λy aA=>ah.eM y ((e2 y).2 (.inl aA)))];exact bA
   ·cases cg:I' (β s)with
    |none=>rfl
    |some o=>
     exfalso;rcases cb.sw _ _ cg with U | U;·rw[ah.jw]at U;cases U
     ·have:=ah.lt;omega
   ·rcases dm.1 ae with ae | ae
    ·rcases cb.tu x ae with⟨z,a2,qt⟩ | U
     ·rw[<-qt];exact ah.eM z ((e2 z).2 (.inl a2))
     ·have:=ah.lt;omega
    ·exact ah.eM x ((e2 x).2 (.inr ae))
  inj:=h.inj
  hL:=λb o ah=>cb.le b o (h.hL b o ah)
  hl:=λb o ah=>by
   rcases cb.sw b o ah with U | U;·exact h.hl b o U
   ·exact .inr (k5 h.sz U)
  own:=λx ae=>by
   rcases dm.1 ae with ae | ae
   ·rcases cb.tu x ae with⟨z,a2,qt⟩ | U
    ·rw[<-qt];exact h.own z ((e2 z).2 (.inl a2))
    ·exact .inr (k5 h.sz U)
   ·exact h.own x ((e2 x).2 (.inr ae))
  dL:=λb ah au=>by
   rw[cb.dL b (EE ah h.sz) (λy aA e=>by
    rcases h.own y ((e2 y).2 (.inl aA))with U | U;·exact au (e ▸ U)
    ·omega)]
   exact h.dL b ah au
  out:=h.out.trans cb.out
  sz:=k5 h.sz cb.sz }
def cP.call(h:cP X β a w F C I M){KC:Value->aT->List aD->Prop}(aC:aU X.cp P f args I M KC) :
  (H' P f/\Calls P f args.toArray w λe w'=>∃ v I' M',e=.returned v/\KC v I' M'/\cP X β a w' F C I' M')\/(∃ v w' I' M',(callFunc f args.toArray).run P w=.ok (.value v) w'/\KC v I' M'/\cP X β a w' F C I' M'):=by
 obtain⟨bR,ez,Mr,post,gi,⟨py,ar⟩ | ar,af⟩:=aC.elim ⟨h.holds.d,h.holds.bE⟩<;>have h:=h.jg gi<;>have aV:=List.Perm.refl (ez++Mr)
 ·refine .inl ⟨py,?_⟩;refine(ar w (h.holds.part aV)).mono ?_;rintro e w'⟨v,I',M',rfl,aN,qs,cb⟩;have aX:=h.after aV qs cb;exact⟨v,I',M'++Mr,rfl,af v I' M' cb.le aX.holds.d aN,aX⟩
 ·obtain⟨v,w',I',M',ag,aN,qs,cb⟩:=ar w (h.holds.part aV);have aX:=h.after aV qs cb;exact .inr ⟨v,w',I',M'++Mr,ag,af v I' M' cb.le aX.holds.d aN,aX⟩
def SH{args:Array Value}(bW:∀ c,o.op≠.defer c)(ag:(execOp a.eval o).run X.P w=.ok (.enter f args) w)
  (aC:Calls X.P f args w λe w'=>∃ v,e=.returned v/\next (a.put o.dst v) w'):o.wpIn (gG X) 0 X.P a w next Q:=by
 refine⟨λ_ _=>trivial,?_⟩;rw[H8 _ _ _ bW,ag];refine⟨(λh=>by cases h),?_⟩;refine(L4 aC _).mono ?_;rintro e w'⟨v,rfl,h⟩;exact h
def SI(z:Value)(zs:List Value)(h:z.cells.toList=zs)(n:Nat):(Array.range n).map (z.cells[· % z.cells.size]!)=(rowOf zs n).toArray:=by subst h;apply gF;simp[w0,madeCells]
def j1.struct{t:Nat}{cC:List (Nat×Nat)}(h:j1 P t ⟨sz,iP,z,.struct cC⟩):∃ fields,P.underlying t=some (.struct fields)/\cC=fields.toList.map λf=>(f.type,f.offset):=by
 obtain⟨d,U,ab⟩:=h.fl;cases d<;>simp[fe]at ab
 exact⟨_,U,ab.symm⟩
def j1.slice{t:Nat}(h:j1 P t ⟨sz,iP,z,.slice e⟩):P.underlying t=some (.slice e):=by
 obtain⟨d,U,ab⟩:=h.fl;cases d<;>simp[fe]at ab
 rw[U,ab]
def j1.array{t:Nat}(h:j1 P t ⟨sz,iP,z,.array n e⟩):P.underlying t=some (.array n e):=by
 obtain⟨d,U,ab⟩:=h.fl;cases d<;>simp[fe]at ab
 rw[U,ab.1,ab.2]
def j1.string{t:Nat}(h:j1 P t ⟨sz,iP,z,.string⟩):P.underlying t=some .string:=by
 obtain⟨d,U,ab⟩:=h.fl;cases d<;>simp[fe]at ab
 exact U
def j1.int{P:Program}{t sz iP:Nat}{z:List Value}{k:IntKind}(h:j1 P t ⟨sz,iP,z,.int k⟩):P.underlying t=some (.int k):=by
 obtain⟨d,U,ab⟩:=h.fl;cases d<;>simp[fe]at ab
 rw[U,ab]
def SJ{fields:Array Field}{i l9:Nat}(h:(fields.toList.map λf=>(f.type,f.offset))[i]?=some (l9,off)):∃ f,fields[i]?=some f/\f.type=l9/\f.offset=off:=by
 simp only[sr,Array.getElem?_toList]at h;cases au:fields[i]? with
 |none=>simp[au]at h| some f=>simp[au]at h;exact⟨f,rfl,h.1,h.2⟩
def L5{t:Nat}{i:dW}(h:j1 P t i)(hle:off+i.size<=cs.size)(w:World):(part t cs off).run P w=.ok (pack i.bH.agg ((cs.toList.drop off).take i.size)) w:=by
 unfold part;simp only[b8,h.Sz,bU];cases Aa:i.bH.agg with
 |true=>simp only[nU,b8,h.run_sizeOf,bU,c3,pack,bt];congr 2;apply gF;simp[List.take_drop]
 |false=>
  have U:=h.EJ Aa;rw[U]at hle |-;have ax:off<cs.size:=by omega
  simp only[jX,kB,LQ ax,c3,pack,bz];congr 1;rw[dv (by simpa using ax)];simp
def acK{t:Nat}{aO:dW}(aq:P.underlying t=some (.slice e))(he:j1 P e aO){c:Nat}{j:Nat}(aj:j<n)(w:World) :
  (Instr.indexAt t (.slice (some ad) n c) (.int gu j)).run P w=.ok (.pointer (some (ad.add (j*aO.size)))) w:=by
 unfold Instr.indexAt;simp only[b8,px,bU,run_underlying aq,c3];rw[cw ⟨by omega,by omega⟩];simp[he.run_sizeOf]
def SK{t:Nat}{aO:dW}(aq:P.underlying t=some (.array m e))(he:j1 P e aO){j:Nat}(aj:j<m)(w:World) :
  (Instr.indexAt t (.pointer (some ad)) (.int gu j)).run P w=.ok (.pointer (some (ad.add (j*aO.size)))) w:=by
 unfold Instr.indexAt;simp only[b8,px,bU,run_underlying aq,c3,Instr.sureAddr];rw[cw ⟨by omega,by omega⟩];simp[he.run_sizeOf]
def SL{P:Program}{E:Env}(aR:cX P E)(w:World):∀ (fields:List Field),Co E (fields.map λf=>(f.type,f.offset))=true -> ∃ l:List (Nat×Nat),(fields.mapM λf=>(do pure (f.offset,<-sizeOf f.type):Sem (Nat×Nat))).run P w=.ok l w/\∀ i,l[i]?=places E (fields.map λf=>(f.type,f.offset)) i
 |[],_=>⟨[],rfl,λi=>by simp[places]⟩
 |f::cC,h=>by
  simp only[Co,cZ,su,b']at h;obtain⟨g1,mQ⟩:=Option.isSome_iff_exists.1 h.1;obtain⟨l,U,ab⟩:=SL aR w cC h.2;refine⟨(f.offset,g1.size)::l,?_,λi=>?_⟩;·simp only[EF,b8,(aR _ _ mQ).run_sizeOf,bU,c3];rw[U];rfl
  ·cases i with
   |zero=>simp[places,mQ]| succ i=>simp only[H4,ab];simp[places]
def SM(aR:cX X.P X.E)(h:cP X β a w F C I M){yj:de->Prop}(op:Op)(ty:TypeId)(dst:Option Tmp)(pos:String)(after:Array Edge)(guard:Option (Nat×Bool))(ai:cE X op (df F) C I M yj other) :
  other\/∃ v x,(execOp a.eval ⟨dst,op,ty,pos,after,guard⟩).run X.P w=.ok (.value v) w/\eI β x v/\yj x:=by
 have done:∀ {v x},(execOp a.eval ⟨dst,op,ty,pos,after,guard⟩).run X.P w=.ok (.value v) w->eI β x v->yj x->other\/∃ v x,(execOp a.eval ⟨dst,op,ty,pos,after,guard⟩).run X.P w=.ok (.value v) w/\eI β x v/\yj x:=
  λU ab ak=>.inr ⟨_,_,U,ab,ak⟩
 have hy:∀ {v},(execOp a.eval ⟨dst,op,ty,pos,after,guard⟩).run X.P w=.ok (.value v) w->yj (.val v)->other\/∃ v x,(execOp a.eval ⟨dst,op,ty,pos,after,guard⟩).run X.P w=.ok (.value v) w/\eI β x v/\yj x:=
  fun {v} U ak=>.inr ⟨v,.val v,U,rfl,ak⟩
 have au:=h.an;cases op
 case move x=>exact done (by simp[execOp]) (w1 au x) ai
 case assign x=>exact done (by simp[execOp]) (w1 au x) ai
 case pick c p q=>
  simp only[cE]at ai;split at ai
  ·rename_i b ah;have aC:=LY au ah;cases b
   ·exact done (by simp[execOp,aC,asBool]) (w1 au q) ai
   ·exact done (by simp[execOp,aC,asBool]) (w1 au p) ai
  ·rename_i b ah;have aC:=tw au ah;refine done (v:=if b then a.eval p else a.eval q) (x:=H9 b (bY F p) (bY F q)) (by simp[execOp,aC,asBool]) ?_ ai;have U:=Sv au p;have ab:=Sv au q;unfold H9;split
   ·rename_i x y aF a7;rw[aF]at U;rw[a7]at ab;simp only[eI]at U ab |-;cases b<;>simp[U,ab]
   ·rename_i x y _ aF a7;rw[aF]at U;rw[a7]at ab;simp only[eI]at U ab |-;cases b<;>simp[U,ab]
   ·trivial
  ·exact ai.elim
 case unOp op t x=>
  simp only[cE]at ai;split at ai;·rename_i b ah;exact done (v:=.bool (!b)) (x:=.lit (!b)) (by simp[execOp,LY au ah,Op.unary]) rfl ai
  ·rename_i b ah;exact hy (v:=.bool (!b)) (by simp[execOp,tw au ah,Op.unary]) ai
  ·rename_i k n ah;obtain⟨r,ag,af⟩:=ai;exact hy (v:=.int k r) (by simp only[execOp,tw au ah,Op.unary,Op.intArith,ag];simp) af
  ·exact Or.inl ai
 case binOp op t x y ty'=>
  simp only[cE]at ai;by_cases ae:∃ lB w3,bY F x=.val lB/\bY F y=.val w3
  ·obtain⟨lB,w3,ae,aA⟩:=ae;have fin:∀ r,(∀ w,(do eqGuard op t x y lB w3;binOp op t lB w3:Sem Value).run X.P w=.ok r w)->yj (.val r)->(other\/∃ v jz,(execOp a.eval ⟨dst,.binOp op t x y ty',ty,pos,after,guard⟩).run X.P w=.ok (.value v) w/\eI β jz v/\yj jz):=λr ag af=>by refine hy (v:=r) ?_ af;have:=ag w;rw[<-dx au ae,<-dx au aA]at this;simp only[execOp];simp only[b8]at this |-;rw[this];rfl
   rcases acI aR op t x y _ _ lB w3 ae aA _ _ ai with(⟨z9,fB,r,aN,a0,ag,af⟩ | U) | ⟨r,ag,af⟩;·rw[show dH (df F) x=bY F x from rfl,ae]at aN;rw[show dH (df F) y=bY F y from rfl,aA]at a0;cases aN;cases a0;exact fin r ag af
   ·exact Or.inl U
   ·exact fin r ag af
  ·unfold k6 at ai;split at ai
   ·rename_i aF a7;exact(ae ⟨_,_,aF,a7⟩).elim
   ·rename_i aF a7;exact(ae ⟨_,_,aF,a7⟩).elim
   ·rename_i aF a7;exact(ae ⟨_,_,aF,a7⟩).elim
   ·rcases ai with⟨z9,fB,r,aN,a0,ag,af⟩ | U
    ·exact(ae ⟨_,_,aN,a0⟩).elim
    ·exact Or.inl U
 case load t x=>
  simp only[cE]at ai;split at ai
  ·rename_i i hi;split at ai
   ·rename_i s off ae;have kD:=z' au ae;split at ai
    ·rename_i cs ar;cases hle:Nat.ble (off+i.size) cs.length with
     |false=>rw[hle]at ai;exact ai.elim| true=>rw[hle]at ai;have vb:=b9 hle;obtain⟨T,bA⟩:=(h.cf s cs ar).at_;refine hy (v:=pack i.bH.agg ((cs.drop off).take i.size)) ?_ ai;have:=Ig (aR _ _ hi) (a:=⟨β s,off,none⟩) rfl bA (vs:=(cs.drop off).take i.size) (by simp) (by simp;omega);simp[execOp,Instr.loadAt,Instr.sureAddr,kD,this]
    ·exact ai.elim
   ·rename_i ad ae;have kD:=tw au ae;obtain⟨vs,⟨c4,cs,T,an,eR,ib,ay⟩,af⟩:=ai;refine hy (v:=pack i.bH.agg vs) ?_ af;have:=Ig (aR _ _ hi) c4 (eR.heap h.holds) ib ay;simp[execOp,Instr.loadAt,Instr.sureAddr,kD,this]
   ·exact ai.elim
  ·exact ai.elim
 case nilCheck x=>
  simp only[cE]at ai;split at ai;·rename_i s off ae;exact done (v:=.pointer (some ⟨β s,off,none⟩)) (x:=.ref s off) (by simp[execOp,z' au ae]) rfl ai
  ·rename_i ad ae;exact hy (v:=.pointer (some ad)) (by simp[execOp,tw au ae]) ai
  ·exact Or.inl ai
 case fieldAddr t x i=>
  simp only[cE]at ai;split at ai
  ·rename_i sz iP z cC aq;obtain⟨fields,hu,rfl⟩:=(aR _ _ aq).struct;split at ai
   ·rename_i l9 off k7;obtain⟨f,tz,rfl,rfl⟩:=SJ k7;split at ai
    ·rename_i g1 s o' mQ ae;cases a2:Nat.beq g1.size 0 with
     |true=>rw[a2]at ai;exact ai.elim
     |false=>
      rw[a2]at ai;have fW:g1.size≠0:=λe=>by rw[e]at a2;cases a2
      refine done (v:=.pointer (some ⟨β s,o'+f.offset,none⟩)) (x:=.ref s (o'+f.offset)) ?_ rfl ai;simp[execOp,Instr.fieldAt,run_underlying hu,tz,z' au ae,Instr.sureAddr,fieldPlace,(aR _ _ mQ).run_sizeOf,fW,dF]
    ·rename_i g1 ad mQ ae;cases a2:Nat.beq g1.size 0 with
     |true=>rw[a2]at ai;exact ai.elim
     |false=>
      rw[a2]at ai;have fW:g1.size≠0:=λe=>by rw[e]at a2;cases a2
      refine hy (v:=.pointer (some (ad.add f.offset))) ?_ ai;simp[execOp,Instr.fieldAt,run_underlying hu,tz,tw au ae,Instr.sureAddr,fieldPlace,(aR _ _ mQ).run_sizeOf,fW]
    ·exact ai.elim
   ·exact ai.elim
  ·exact ai.elim
 case field t x i=>
  simp only[cE]at ai;split at ai
  ·rename_i sz iP z cC cs aq ae;obtain⟨fields,hu,rfl⟩:=(aR _ _ aq).struct;split at ai
   ·rename_i l9 off k7;obtain⟨f,tz,rfl,rfl⟩:=SJ k7;split at ai
    ·rename_i g1 mQ;cases a2:Nat.ble (f.offset+g1.size) cs.size with
     |false=>rw[a2]at ai;exact ai.elim| true=>rw[a2]at ai;refine hy ?_ ai;simp[execOp,Instr.field,run_underlying hu,tz,dx au ae,asAgg,L5 (aR _ _ mQ) (b9 a2)]
    ·exact ai.elim
   ·exact ai.elim
  ·exact ai.elim
 case indexAddr t x i=>
  simp only[cE]at ai;split at ai
  ·rename_i sz iP z e gu k aq hi;have hu:=(aR _ _ aq).slice;split at ai
   ·rename_i aO ch n c hz ae;obtain⟨ad,j,rfl,rfl,aj,af⟩:=ai;refine hy ?_ af;simp[execOp,dx au ae,dx au hi,acK hu (aR _ _ hz) aj]
   ·exact ai.elim
  ·rename_i sz iP z n e gu k aq hi;have hu:=(aR _ _ aq).array;split at ai
   ·rename_i aO s o' hz ae;obtain⟨j,rfl,aj,af⟩:=ai;refine done (v:=.pointer (some ⟨β s,o'+j*aO.size,none⟩)) (x:=.ref s (o'+j*aO.size)) ?_ rfl af;simp[execOp,z' au ae,dx au hi,SK hu (aR _ _ hz) aj,dF]
   ·rename_i aO ad hz ae;obtain⟨j,rfl,aj,af⟩:=ai;refine hy ?_ af;simp[execOp,tw au ae,dx au hi,SK hu (aR _ _ hz) aj]
   ·exact ai.elim
  ·exact ai.elim
 case index t x i=>
  simp only[cE]at ai;split at ai;·rename_i sz iP z s gu k aq ae hi;have hu:=(aR _ _ aq).string;obtain⟨j,rfl,aj,af⟩:=ai;refine hy ?_ af;simp only[execOp,dx au ae,dx au hi,Instr.index,b8,px,bU,run_underlying hu];rw[cw (by omega:(0:Int)<=j)];simp[aj]
  ·rename_i sz iP z n e cs gu k aq ae hi;have hu:=(aR _ _ aq).array;split at ai
   ·rename_i aO hz;cases a2:Nat.beq (n*aO.size) cs.size with
    |false=>rw[a2]at ai;exact ai.elim
    |true=>
     rw[a2]at ai;obtain⟨j,rfl,aj,af⟩:=ai;have fW:=dD a2;refine hy ?_ af;have hle:j*aO.size+aO.size<=cs.size:=by rw[<-fW,<-Nat.succ_mul];exact rl _ aj
     simp only[execOp,dx au ae,dx au hi,Instr.index,b8,px,bU,run_underlying hu];rw[cw ⟨by omega,by omega⟩];simp[(aR _ _ hz).run_sizeOf,L5 (aR _ _ hz) hle]
   ·exact ai.elim
  ·exact ai.elim
 case build t parts=>
  simp only[cE]at ai;split at ai
  ·rename_i i vs hi ib;have aN:=Ib au ib;have pz:(parts.map λ(i,x)=>(i,a.eval x)).toList=vs:=by simpa using aN
   obtain⟨z,a2,w4⟩:=(aR _ _ hi).EM w;have Cs:z.cells=i.zero.toArray:=by rw[<-w4]
   split at ai
   ·rename_i cC nn;cases bM:Co X.E cC with
    |false=>rw[bM]at ai;exact ai.elim
    |true=>
     rw[bM]at ai;simp only[bt]at ai;split at ai
     ·rename_i cells Ad;obtain⟨sz,iP,acL,bH⟩:=i;simp only at nn;subst nn;obtain⟨fields,hu,rfl⟩:=(aR _ _ hi).struct;obtain⟨l,ay,iT⟩:=SL aR w fields.toList bM;refine hy ?_ ai;have hm:(fields.mapM λf=>(do pure (f.offset,<-sizeOf f.type):Sem (Nat×Nat))).run X.P w=.ok l.toArray w:=by rw[Su,Sem.run_map,ay];rfl
      have vc:=fill_eq _ _ _ _ Ad;have acM:(λj=>l.toArray[j]?)=places X.E (fields.toList.map λf=>(f.type,f.offset)):=by funext j;rw[<-iT j];simp
      simp only[execOp,Instr.build,b8,a2,bU,run_underlying hu,Cs,pz];rw[hm];simp only[bU,acM,vc,c3]
     ·exact ai.elim
   ·rename_i n e nn;split at ai
    ·rename_i aO hz;split at ai
     ·rename_i cells Ad;obtain⟨sz,iP,acL,bH⟩:=i;simp only at nn;subst nn;have hu:=(aR _ _ hi).array;refine hy ?_ ai;have vc:=fill_eq _ _ _ _ Ad;simp only[execOp,Instr.build,b8,a2,bU,run_underlying hu,Cs,pz,(aR _ _ hz).run_sizeOf,vc,c3]
     ·exact ai.elim
    ·exact ai.elim
   ·exact ai.elim
  ·exact ai.elim
 case makeFunc fn first captured=>
  simp only[cE]at ai;split at ai
  ·rename_i cC cs U ab;have aF:=sB au U;have a7:=sB au ab;refine hy ?_ ai;have dZ:first.map a.eval=cC.toArray:=by apply gF;simpa using aF
   have qu:captured.map a.eval=cs.toArray:=by apply gF;simpa using a7
   simp[execOp,Instr.makeFunc,dZ,qu]
  ·exact ai.elim
 case slice t x lo hi mx=>
  simp only[cE]at ai;split at ai
  ·rename_i sz iP z e ch n c aq ae;have hu:=(aR _ _ aq).slice;have kD:=dx au ae;split at ai
   ·rename_i aO hz gN ia;have Ae:lo=none:=by simpa using gN
    have Af:hi=none:=by simpa using ia
    subst Ae;subst Af;refine hy ?_ ai;have aF:(if c=0 then ch else ch.map (·.add (0*aO.size)))=ch:=by split<;>cases ch<;>simp[Addr.add]
    simp[execOp,Instr.sliceAt,Instr.slice,Instr.sliceBounds,kD,run_underlying hu,(aR _ _ hz).run_sizeOf,Addr.add]
   ·rename_i aO gu j4 hz gN ia;have Ae:lo=none:=by simpa using gN
    subst Ae;obtain⟨sD,rfl,cj⟩:=u5.1 ia;obtain⟨l,ab,Ct,rfl,hle,EO,af⟩:=ai;refine hy ?_ af;simp only[execOp,Instr.sliceAt,Instr.slice,Instr.sliceBounds,Instr.sliceBound,kD,b8,run_underlying hu,bU,(aR _ _ hz).run_sizeOf,c3,mK,Cl,dx au cj,px];rw[cw ⟨by omega,by omega⟩];simp[Addr.add]
   ·rename_i aO gu Ii hz gN ia;have Af:hi=none:=by simpa using ia
    subst Af;obtain⟨L6,rfl,cj⟩:=u5.1 gN;obtain⟨l,ab,rfl,Ag,hle,EO,af⟩:=ai;simp only[tq,je]at *;refine hy ?_ af;simp only[execOp,Instr.sliceAt,Instr.slice,Instr.sliceBounds,Instr.sliceBound,kD,b8,run_underlying hu,bU,(aR _ _ hz).run_sizeOf,c3,mK,Cl,dx au cj,px];rw[cw ⟨by omega,by omega⟩];simp
   ·rename_i aO gu Ii acN j4 hz gN ia;obtain⟨L6,rfl,cj⟩:=u5.1 gN;obtain⟨sD,rfl,rs⟩:=u5.1 ia;obtain⟨l,ab,rfl,rfl,hle,EO,af⟩:=ai;refine hy ?_ af;simp only[execOp,Instr.sliceAt,Instr.slice,Instr.sliceBounds,Instr.sliceBound,kD,b8,run_underlying hu,bU,(aR _ _ hz).run_sizeOf,c3,mK,Cl,dx au cj,dx au rs,px];rw[cw ⟨by omega,by omega⟩];simp only[c3,bU,lz];rw[cw ⟨by omega,by omega⟩];simp
   ·exact ai.elim
  ·rename_i sz iP z s aq ae;have hu:=(aR _ _ aq).string;have kD:=dx au ae;split at ai
   ·rename_i gN ia;have Ae:lo=none:=by simpa using gN
    have Af:hi=none:=by simpa using ia
    subst Ae;subst Af;refine hy ?_ ai;have aF:s.extract 0 s.size=s:=by apply qo;simp[Ci]
    simp[execOp,Instr.sliceAt,Instr.slice,Instr.sliceBounds,kD,run_underlying hu,aF]
   ·rename_i gu j4 gN ia;have Ae:lo=none:=by simpa using gN
    subst Ae;obtain⟨sD,rfl,cj⟩:=u5.1 ia;obtain⟨l,ab,Ct,rfl,hle,EO,af⟩:=ai;refine hy ?_ af;simp only[execOp,Instr.sliceAt,Instr.slice,Instr.sliceBounds,Instr.sliceBound,kD,b8,run_underlying hu,bU,c3,mK,Cl,dx au cj,px];simp only[LU,jX,kB,b8,c3,bU,px];rw[cw ⟨by omega,by omega⟩];simp
   ·rename_i gu Ii gN ia;have Af:hi=none:=by simpa using ia
    subst Af;obtain⟨L6,rfl,cj⟩:=u5.1 gN;obtain⟨l,ab,rfl,Ag,hle,EO,af⟩:=ai;simp only[tq,je]at *;refine hy ?_ af;simp only[execOp,Instr.sliceAt,Instr.slice,Instr.sliceBounds,Instr.sliceBound,kD,b8,run_underlying hu,bU,c3,mK,Cl,dx au cj,px];simp only[LU,jX,kB,b8,c3,bU,px];rw[cw ⟨by omega,by omega⟩];simp
   ·rename_i gu Ii acN j4 gN ia;obtain⟨L6,rfl,cj⟩:=u5.1 gN;obtain⟨sD,rfl,rs⟩:=u5.1 ia;obtain⟨l,ab,rfl,rfl,hle,EO,af⟩:=ai;refine hy ?_ af;simp only[execOp,Instr.sliceAt,Instr.slice,Instr.sliceBounds,Instr.sliceBound,kD,b8,run_underlying hu,bU,c3,mK,Cl,dx au cj,dx au rs,px];simp only[LU,jX,kB,b8,c3,bU,px];rw[cw ⟨by omega,by omega⟩];simp only[c3,bU,lz];rw[cw ⟨by omega,by omega⟩];simp
   ·exact ai.elim
  ·exact Or.inl ai
 case extract x i=>
  simp only[cE]at ai;split at ai
  ·rename_i vs ae;split at ai
   ·rename_i v hi;refine hy ?_ ai;have ck:vs[i]?=some v:=by simpa using hi
    simp[execOp,Instr.extract,dx au ae,ck]
   ·exact ai.elim
  ·exact ai.elim
 case convert s d x=>
  simp only[cE]at ai;split at ai;·rename_i aqq sz iP z k eQ n ar aq ae;have hu:=(aR _ _ aq).int;obtain⟨ds,fL,_⟩:=(aR _ _ ar).fl;obtain⟨r,ag,af⟩:=ai;refine hy ?_ af;simp only[execOp,convert,dx au ae,b8,run_underlying fL,run_underlying hu,bU];simp only[Conv.intToInt,ag,c3,bU]
  ·exact Or.inl ai
 case call c=>
  obtain⟨callee,args,argTypes⟩:=c;cases callee with
  |value f=>exact .inl ai| invoke r m=>exact .inl ai
  |builtin b=>
   cases b
   case len=>
    simp only[cE]at ai;split at ai
    ·rename_i t v U ab;have aF:=sB au ab;have dZ:args.map a.eval=#[v]:=by apply gF;simpa using aF
     have aq:argTypes=#[t]:=by apply gF;simpa using U
     subst aq;split at ai;·rename_i sz iP z e ad n c bA;have hu:=(aR _ _ bA).slice;refine hy ?_ ai;simp[execOp,resolve,invoke,builtin,Builtin.len_,dZ,run_underlying hu,goInt]
     ·rename_i sz iP z s bA;have hu:=(aR _ _ bA).string;refine hy ?_ ai;simp[execOp,resolve,invoke,builtin,Builtin.len_,dZ,run_underlying hu,goInt]
     ·rename_i sz iP z n e bA;have hu:=(aR _ _ bA).array;refine hy ?_ ai;simp[execOp,resolve,invoke,builtin,Builtin.len_,dZ,run_underlying hu,goInt]
     ·exact Or.inl ai
    ·exact Or.inl ai
   case cap=>
    simp only[cE]at ai;split at ai
    ·rename_i t v U ab;have aF:=sB au ab;have dZ:args.map a.eval=#[v]:=by apply gF;simpa using aF
     have aq:argTypes=#[t]:=by apply gF;simpa using U
     subst aq;split at ai;·rename_i sz iP z e ad n c bA;have hu:=(aR _ _ bA).slice;refine hy ?_ ai;simp[execOp,resolve,invoke,builtin,Builtin.cap_,dZ,run_underlying hu,goInt]
     ·exact Or.inl ai
    ·exact Or.inl ai
   case max=>
    simp only[cE]at ai;split at ai
    ·rename_i k p eQ q ab;have aF:=sB au ab;have dZ:args.map a.eval=#[.int k p,.int eQ q]:=by apply gF;simpa using aF
     refine hy ?_ ai;have hm:(if q > p then q else p)=max p q:=by split<;>omega
     simp only[execOp,resolve,invoke,builtin,Builtin.max_,Builtin.max2,dZ,b8,c3,bU,List.foldlM_cons,List.foldlM_nil,hm]
    ·exact Or.inl ai
   case min=>
    simp only[cE]at ai;split at ai
    ·rename_i k p eQ q ab;have aF:=sB au ab;have dZ:args.map a.eval=#[.int k p,.int eQ q]:=by apply gF;simpa using aF
     refine hy ?_ ai;have hm:(if q<p then q else p)=min p q:=by split<;>omega
     simp only[execOp,resolve,invoke,builtin,Builtin.min_,Builtin.min2,dZ,b8,c3,bU,List.foldlM_cons,List.foldlM_nil,hm]
    ·exact Or.inl ai
   case unsafeSliceData=>
    simp only[cE]at ai;split at ai
    ·rename_i n c ab;have aF:=sB au ab;have dZ:args.map a.eval=#[.slice none n c]:=by apply gF;simpa using aF
     refine hy ?_ ai;simp only[execOp,resolve,invoke,builtin,dZ,b8,c3,bU,Lib.run_unsafeSliceData_nil]
    ·rename_i ad n c ab;obtain⟨ak,ai⟩:=ai;have aF:=sB au ab;have dZ:args.map a.eval=#[.slice (some ad) n c]:=by apply gF;simpa using aF
     refine hy ?_ ai;simp only[execOp,resolve,invoke,builtin,dZ,b8,c3,bU,Lib.run_unsafeSliceData_row _ _ _ _ _ _ (show c≠0 by omega)]
    ·exact Or.inl ai
   all_goals exact .inl ai
 all_goals exact .inl ai
def Cu(aR:cX X.P X.E)(al:∀ d,o.dst=some d->d<X.n)(h:Rel X a w F C I M)(ai:hM X o F C I M K):o.wpIn (gG X) 0 X.P a w (Sat X K) Q:=by
 have a5:=h;obtain⟨β,h⟩:=h;obtain⟨dst,op,ty,pos,after,guard⟩:=o;have other:bk X ⟨dst,op,ty,pos,after,guard⟩ F C I M K->(⟨dst,op,ty,pos,after,guard⟩:Oper).wpIn (gG X) 0 X.P a w (Sat X K) Q:=λ⟨h⟩=>h a w Q a5;have au:=h.an;have quiet:cE X op (df F) C I M (λx=>K (Go.V.put dst x F) C I M) (bk X ⟨dst,op,ty,pos,after,guard⟩ F C I M K)->(∀ c,op≠.defer c)->(⟨dst,op,ty,pos,after,guard⟩:Oper).wpIn (gG X) 0 X.P a w (Sat X K) Q:=λa0 bW=>by
  rcases SM aR h op ty dst pos after guard a0 with U | ⟨v,x,ag,ae,af⟩;·exact other U
  ·exact SC (o:=⟨dst,op,ty,pos,after,guard⟩) h al bW ag ae af
 cases op
 case box t x=>
  simp only[hM]at ai;split at ai
  ·rename_i d v ae;have kD:=dx au ae;have ag:(execOp a.eval ⟨some d,.box t x,ty,pos,after,guard⟩).run X.P w=.ok (.value (.pointer (some ⟨w.heap.size,0,none⟩))) (w.alloc (.cells v.cells t (0,0))):=by simp[execOp,Instr.box,newVar,newRow,kD,z6]
   have gw:d<X.n:=al d rfl;cases j5:X.gv.contains d with
   |true=>rw[j5]at ai;obtain⟨ai⟩:=ai;have af:=ai w.heap.size h.holds.rq h.holds.qq;have U:=(h.pu (.cells v.cells t (0,0))).L2 d;exact j3 (by simp) ag ⟨_,_,_,_,⟨β,cP.put U (dst:=some d) (x:=.val (.pointer (some ⟨w.heap.size,0,none⟩))) (by simpa using gw) rfl⟩,af⟩
   |false=>rw[j5]at ai;obtain⟨nX,U⟩:=h.Sy d gw v.cells.toList t;exact j3 (by simp) ag ⟨_,_,_,_,⟨nX,by simpa using U⟩,ai⟩
  ·exact ai.elim
 case alloc t=>
  simp only[hM]at ai;split at ai
  ·rename_i d i hi;obtain⟨z,a2,w4⟩:=(aR _ _ hi).EM w;have Cs:z.cells=i.zero.toArray:=by rw[<-w4]
   have ag:(execOp a.eval ⟨some d,.alloc t,ty,pos,after,guard⟩).run X.P w=.ok (.value (.pointer (some ⟨w.heap.size,0,none⟩))) (w.alloc (.cells i.zero.toArray t (0,0))):=by simp[execOp,Instr.alloc,newVar,newRow,a2,Cs,z6]
   have gw:d<X.n:=al d rfl;cases j5:X.gv.contains d with
   |true=>rw[j5]at ai;obtain⟨ai⟩:=ai;have af:=ai w.heap.size h.holds.rq h.holds.qq;have U:=(h.pu (.cells i.zero.toArray t (0,0))).L2 d;exact j3 (by simp) ag ⟨_,_,_,_,⟨β,cP.put U (dst:=some d) (x:=.val (.pointer (some ⟨w.heap.size,0,none⟩))) (by simpa using gw) rfl⟩,af⟩
   |false=>rw[j5]at ai;obtain⟨nX,U⟩:=h.Sy d gw i.zero t;exact j3 (by simp) ag ⟨_,_,_,_,⟨nX,U⟩,ai⟩
  ·exact ai.elim
 case store t x y=>
  simp only[hM]at ai;split at ai
  ·rename_i i v hi aA;have vd:=dx au aA;split at ai
   ·rename_i s off ae;have kD:=z' au ae;split at ai
    ·rename_i cs ar;cases hle:(Nat.ble (off+i.size) cs.length&&(Nat.beq v.cells.size i.size&&gh v.cells.toList))with
     |false=>rw[hle]at ai;exact ai.elim| true=>rw[hle]at ai;simp only[b']at hle;obtain⟨hle,cQ,ma⟩:=hle;have vb:=b9 hle;have Ah:=dD cQ;obtain⟨T,bA⟩:=(h.cf s cs ar).at_;have:=Ih (aR _ _ hi) (a:=⟨β s,off,none⟩) (v:=v) rfl bA Ah (by simp;omega) ma;refine Cp (by simp) (w':=w.setRow (β s) (bG cs off v.cells.toList).toArray) ?_ ⟨_,_,_,_,⟨β,h.SA ar (bG cs off v.cells.toList)⟩,ai⟩;simp only[execOp,Instr.storeAt,kD,vd,Instr.sureAddr,b8,c3,bU];simp only[Cj]at this;rw[this];rfl
    ·exact ai.elim
   ·rename_i ad ae;have kD:=tw au ae;cases cQ:Nat.beq v.cells.size i.size with
    |false=>rw[cQ]at ai;exact ai.elim| true=>rw[cQ]at ai;obtain⟨pre,post,cs,T,aV,c4,ah,ma,af⟩:=ai;have Ah:=dD cQ;have ao:w.heap[ad.block]?=some (.cells cs T (0,0)):=h.holds.m ⟨ad.block,.cells cs T (0,0)⟩ (by rw[aV];simp);have:=Ih (aR _ _ hi) (v:=v) c4 ao Ah ah ma;refine Cp (by simp) (w':=w.setRow ad.block (bG cs.toList ad.off v.cells.toList).toArray) ?_ ⟨_,_,_,_,⟨β,h.yi aV⟩,af⟩;simp only[execOp,Instr.storeAt,kD,vd,Instr.sureAddr,b8,c3,bU];rw[this];rfl
   ·exact ai.elim
  ·exact ai.elim
 case buildSlice t len parts=>
  simp only[hM]at ai;split at ai
  ·rename_i sz iP z e vs aq ib;have hu:=(aR _ _ aq).slice;have aN:=Ib au ib;have pz:(parts.map λ(i,x)=>(i,a.eval x)).toList=vs:=by simpa using aN
   split at ai
   ·rename_i aO hz;cases a2:(Nat.ble (len*aO.size) 16777216&&Nat.blt 0 (len*aO.size))with
    |false=>
     rw[a2]at ai;simp only[bz]at ai;split at ai
     ·rename_i acO;obtain⟨ai⟩:=ai;have af:=ai w.heap.size h.holds.rq h.holds.qq;refine j3 (by simp) (v:=.slice (some ⟨w.heap.size,0,none⟩) 0 0) (w':=w.alloc (.cells #[] e (0,0))) ?_ ⟨_,_,_,_,⟨β,(h.pu _).put (x:=.val (.slice (some ⟨w.heap.size,0,none⟩) 0 0)) al rfl⟩,af⟩;simp only[execOp,Instr.buildSlice,b8,bU,run_underlying hu,(aR _ _ hz).run_sizeOf,pz];have c9:∀ f:Nat->Value,Array.map f (Array.range 0)=#[]:=λf=>by apply Array.ext<;>simp
      simp[newRow,z6,Instr.fill,c9]
     ·exact ai.elim
    |true=>
     rw[a2]at ai;simp only[bt]at ai;rw[b']at a2;have hle:=b9 a2.1;have g2:0<len*aO.size:=by simpa using a2.2
     split at ai;·rename_i cells Ad;obtain⟨sE,Ai,w4⟩:=(aR _ _ hz).EM w;obtain⟨ai⟩:=ai;have af:=ai w.heap.size h.holds.rq h.holds.qq;refine j3 (by simp) (v:=.slice (some ⟨w.heap.size,0,none⟩) len len) (w':=w.alloc (.cells cells.toArray e (0,0))) ?_ ⟨_,_,_,_,⟨β,(h.pu _).put (x:=.val (.slice (some ⟨w.heap.size,0,none⟩) len len)) al rfl⟩,af⟩;have vc:=fill_eq _ _ _ _ Ad;simp only[execOp,Instr.buildSlice,b8,bU,run_underlying hu,(aR _ _ hz).run_sizeOf];rw[cB (by omega)];simp only[cB (show ¬ len*aO.size=0 by omega),b8,Ai,bU,c3,pz,SI sE aO.zero w4,vc];simp[newRow,z6]
     ·exact ai.elim
   ·exact ai.elim
  ·exact ai.elim
 case makeSlice t l c=>
  simp only[hM]at ai;split at ai
  ·rename_i sz iP z e eN dy ej c' aq ay aC;have hu:=(aR _ _ aq).slice;split at ai
   ·rename_i aO hz;obtain⟨n,m,rfl,rfl,jh,ah,hm,⟨ai⟩⟩:=ai;have af:=ai w.heap.size h.holds.rq h.holds.qq;obtain⟨inf,sE,e3,hA,hB,kg,tA⟩:=(aR _ _ hz).inf;refine j3 (by simp) (v:=.slice (some ⟨w.heap.size,0,none⟩) n m) (w':=w.alloc (.cells (rowOf aO.zero (m*aO.size)).toArray e (0,0))) ?_ ⟨_,_,_,_,⟨β,(h.pu _).put (x:=.val (.slice (some ⟨w.heap.size,0,none⟩) n m)) al rfl⟩,af⟩;have hc:((aO.bytes:Nat):Int)*(m:Int)<=281474976710656:=by
     have ab:((aO.bytes*m:Nat):Int)<=281474976710656:=by omega
     simpa using ab
    have:=run_make (P:=X.P) w t e inf sE hu e3 kg eN ej (n:Int) (m:Int) (by omega) (by omega) (by rw[hB];exact hc) (by omega);simp only[execOp,dx au ay,dx au aC,b8,this,bU,c3,lz];have aF:madeCells sE.cells (m*inf.size)=(rowOf aO.zero (m*aO.size)).toArray:=by rw[hA,<-tA];simp[w0]
    rw[aF]
   ·exact ai.elim
  ·exact ai.elim
 case call c=>
  obtain⟨callee,args,argTypes⟩:=c;cases callee with
  |value f=>
   simp only[hM]at ai;split at ai
   ·rename_i g first cap vs yk ib
    have aF:=sB au ib;have dZ:args.map a.eval=vs.toArray:=by apply gF;simpa using aF
    have fm:∀ {n:Next} {w':World},(callFunc g (first.toList++vs++cap.toList).toArray).run X.P w=.ok n w'->(execOp a.eval ⟨dst,.call { callee:=.value f,args,argTypes },ty,pos,after,guard⟩).run X.P w=.ok n w':=λag=>by simp only[execOp,resolve,dx au yk,Deferred.ofValue,b8,c3,bU,dZ,invoke];rw[show first++vs.toArray++cap=(first.toList++vs++cap.toList).toArray from by apply gF;simp];exact ag
    rcases h.call ai with⟨py,Aj⟩ | ⟨v,w',I',M',ag,af,gP⟩;·refine SH (by simp) (f:=g) (args:=(first.toList++vs++cap.toList).toArray) (fm (py _ _)) ?_;refine Aj.mono ?_;rintro e w'⟨v,I',M',rfl,af,ag⟩;exact⟨v,rfl,_,_,_,_,⟨β,ag.put (x:=.val v) al rfl⟩,af⟩
    ·exact j3 (by simp) (fm ag) ⟨_,_,_,_,⟨β,gP.put (x:=.val v) al rfl⟩,af⟩
   ·exact other ai
  |invoke r m=>exact quiet ai (by simp)
  |builtin b=>
   cases b
   all_goals exact quiet ai (by simp)
 case defer c=>exact other ai
 all_goals exact quiet ai (by simp)
end
section
variable{X:cO}{β:Nat->Nat}{a:Act}{w:World}{F:Fr}{C:c8}{I:aT}{M:List aD}{o:Oper}{Q:Exit->Act->World->Prop}{K:fZ}
def Cv{d:Nat}{c:Bool}(h:a.tmps.getD d undef=.bool c):a.tmps[d]?=some (.bool c):=by
 rw[oF]at h;cases al:a.tmps[d]? with
 |none=>rw[al]at h;cases h| some v=>rw[al]at h;simp at h;rw[h]
def EP{ops:Array Oper}{j d:Nat}(al:(ops[j]?).bind (·.dst)=some d)(tmps:Array Value):yielded ops tmps j=match tmps[d]? with
  |some (.bool b)=>some b| _=>none:=by
 unfold yielded;rw[al];rfl
def cP.refine(h:cP X β a w F C I M){dN:Fr}(bs:∀ t,eI β (dN t) (a.tmps.getD t undef)):cP X β a w dN C I M:={ h with an:=bs }
def SN(aR:cX X.P X.E)(ops:Array Oper)(nZ:∀ a w,Sat X K a w->Q .normal a w):∀ (l:List Oper) (k:Nat),(∀ j,l[j]?=ops[k+j]?)->(∀ o∈l,∀ d,o.dst=some d->d<X.n) -> ∀ {F C I M a w},Rel X a w F C I M->tv X ops.toList l F C I M K->wpOpsIn (gG X) 0 X.P ops Q (List.range' k l.length) a w
 |[],k,_,_,F,C,I,M,a,w,a5,ai=>nZ _ _ ⟨F,C,I,M,a5,ai⟩
 |o::rest,k,ay,al,F,C,I,M,a,w,a5,ai=>by
  have av:ops[k]?=some o:=by simpa using(ay 0).symm
  have hY:∀ j,rest[j]?=ops[k+1+j]?:=λj=>by have:=ay (j+1);simpa[tr,Cn 1 j]using this
  have ie:∀ o∈rest,∀ d,o.dst=some d->d<X.n:=λo aP=>al o (by simp[aP]);have yl:=al o (by simp);have a8:=@SN aR ops nZ rest (k+1) hY ie;simp only[cS,H5,wpOpsIn,av];have run:∀ {F C I M},Rel X a w F C I M->hM X o F C I M (λF C I M=>tv X ops.toList rest F C I M K)->o.wpIn (gG X) 0 X.P a w (wpOpsIn (gG X) 0 X.P ops Q (List.range' (k+1) rest.length)) Q:=λa5 ai=>
   st (λch w' ⟨dN,C',I',M',ag,af⟩=>a8 ag af) (Cu aR yl a5 ai)
  have skip:∀ {F C I M},Rel X a w F C I M->tv X ops.toList rest (put o.dst (.val undef) F) C I M K->(∀ f,o.about X.P w a.eval=some f->(gG X).fn f)/\wpOpsIn (gG X) 0 X.P ops Q (List.range' (k+1) rest.length) (a.put o.dst undef) w:=λ⟨β,ag⟩ ai=>
   ⟨λ_ _=>trivial,a8 ⟨β,ag.put (x:=.val undef) yl rfl⟩ ai⟩
  unfold tv at ai;cases ao:o.guard with
  |none=>
   rw[ao]at ai;have hw:Region.wanted o (yielded ops a.tmps)=true:=by simp[Region.wanted,ao]
   rw[cw hw];exact run a5 ai
  |some EQ=>
   obtain⟨j,b⟩:=EQ;rw[ao]at ai;simp only at ai;cases aj:(ops.toList[j]?).bind (·.dst)with
   |none=>rw[aj]at ai;exact ai.elim
   |some d=>
    rw[aj]at ai;simp only at ai;have jA:(ops[j]?).bind (·.dst)=some d:=by simpa using aj
    have aA:=EP jA a.tmps;obtain⟨β,ag⟩:=a5;have bs:=ag.an d;split at ai
    ·rename_i c aC;rw[aC]at bs;have Cw:=Cv bs;have ER:Region.wanted o (yielded ops a.tmps)=(c == b):=by simp[Region.wanted,ao,aA,Cw]
     rw[ER];cases iU:(c == b)with
     |true=>rw[iU]at ai;simp only[nU];exact run ⟨β,ag⟩ ai| false=>rw[iU]at ai;simp only[jX,kB];exact skip ⟨β,ag⟩ ai
    ·rename_i c aC;rw[aC]at bs;have Cw:=Cv bs;have ER:Region.wanted o (yielded ops a.tmps)=(c == b):=by simp[Region.wanted,ao,aA,Cw]
     rw[ER];obtain⟨Ij,mR⟩:=ai;have set:∀ x:Bool,c=x->Rel X a w (fA F d (.lit x)) C I M:=λx ae=>⟨β,ag.refine λt=>by
      unfold fA;by_cases e:t=d;·subst e;simp only[qp,bt];rw[<-ae];exact bs
      ·simp only[hx e,bz];exact ag.an t⟩
     by_cases iU:c=b
     ·have:(c == b)=true:=by simp[iU]
      rw[this];simp only[nU];exact run (set b iU) (Ij iU)
     ·have ab:c=!b:=by cases c<;>cases b<;>simp_all
      have:(c == b)=false:=by simp[iU]
      rw[this];simp only[jX,kB];exact skip (set _ ab) (mR ab)
    ·rename_i vs aC;rw[aC]at bs;have Ak:yielded ops a.tmps j=none:=by
      rw[aA];cases mb:a.tmps[d]? with
      |none=>rfl| some v=>simp only[eI,oF,mb,je]at bs;subst bs;rfl
     have ER:Region.wanted o (yielded ops a.tmps)=false:=by simp[Region.wanted,ao,Ak]
     rw[ER];simp only[jX,kB];exact skip ⟨β,ag⟩ ai
    ·exact ai.elim
end
inductive ym:de->de->Prop
 |refl{x}:ym x x| lit {b}:ym (.lit b) (.val (.bool b))| mN {x}:ym x .mN
def pA:List (Nat×de)->Fr
 |[],_=>.mN|(t,x)::l,s=>bif Nat.beq s t then x else pA l s
def pB:List (Nat×List Value)->c8
 |[],_=>none|(t,x)::l,s=>bif Nat.beq s t then some x else pB l s
inductive kE(F:Fr):List (Nat×de)->Prop
 |nil:kE F []| cons {t x l} (h:ym (F t) x) (k:kE F l):kE F ((t,x)::l)
inductive yn(C:c8):List (Nat×List Value)->Prop
 |nil:yn C []| cons {t x l} (h:C t=some x) (k:yn C l):yn C ((t,x)::l)
def acP{β:Nat->Nat}{x y:de}(h:ym x y)(ae:eI β x v):eI β y v:=by
 cases h with
 |refl=>exact ae| lit=>exact ae| mN=>trivial
def kE.ok{β:Nat->Nat}{F:Fr}(h:∀ t,eI β (F t) (a.tmps.getD t undef)){l:List (Nat×de)}(ay:kE F l)(t:Nat):eI β (pA l t) (a.tmps.getD t undef):=by
 induction ay with
 |nil=>trivial
 | @cons bh x l ae k a8=>
  unfold pA;by_cases e:t=bh;·subst e;simp only[qp,bt];exact acP ae (h t)
  ·simp only[hx e,bz];exact a8
def yn.ok{C:c8}{l:List (Nat×List Value)}(ay:yn C l){s:Nat}{cs:List Value}(h:pB l s=some cs):C s=some cs:=by
 induction ay with
 |nil=>cases h
 | @cons bh x l ae k a8=>
  unfold pB at h;by_cases e:s=bh;·subst e;simp only[qp,bt]at h;rw[ae,h]
  ·simp only[hx e,bz]at h;exact a8 h
def cP.base{X:cO}{β:Nat->Nat}{F:Fr}{C:c8}{I:aT}{M:List aD}(h:cP X β a w F C I M){a4:List (Nat×de)}{cl:List (Nat×List Value)}(bs:kE F a4)(lC:yn C cl):cP X β a w (pA a4) (pB cl) I M:=
 { h with
  an:=bs.ok h.an
  cf:=λs cs ar=>h.cf s cs (lC.ok ar)
  inj:=λs b3 U ab=>by
   obtain⟨c6,aF⟩:=H3.1 U;obtain⟨dg,a7⟩:=H3.1 ab;exact h.inj s b3 (by rw[lC.ok aF];simp) (by rw[lC.ok a7];simp) }
inductive tB where
 |normal| exit (id:Nat)| goto (l:Nat)| ret
abbrev j6:=tB->fZ
def Al(N:fZ)(K:j6):j6
 | .normal=>N| .exit id=>K (.exit id)| .goto l=>K (.goto l)| .ret=>K .ret
def SO(id:Nat)(K:j6):j6
 | .normal=>K .normal| .exit j=>bif Nat.beq j id then K .normal else K (.exit j)| .goto l=>K (.goto l)| .ret=>K .ret
def mc(X:cO)(K:j6):Exit->Act->World->Prop
 | .normal,a,w=>Sat X (K .normal) a w| .exit id,a,w=>Sat X (K (.exit id)) a w| .goto l,a,w=>Sat X (K (.goto l)) a w| .ret,a,w=>Sat X (K .ret) a w| .panic _,_,_=>False| .outgrown,_,_=>False
abbrev Body:=Fr->c8->aT->List aD->j6->Prop
structure tC where
 a4:List (Nat×de)
 cl:List (Nat×List Value):=[]
 br:aT
 bO:List aD:=[]
inductive n1{ι:Type}(cp:List Nat)(b4:ι->tC)(p:ι->Prop)(F:Fr)(C:c8)(I:aT)(M:List aD):Prop
 |mk(j:ι)(aN:p j)(hw:hk cp I M (b4 j).br (b4 j).bO)(bs:kE F (b4 j).a4)(lC:yn C (b4 j).cl)
def L7(body:Body)(K:j6):Nat->fZ
 |0=>λ_ _ _ _=>False
 |n+1=>λF C I M=>body F C I M (Al (L7 body K n) K)
inductive bu(cp:List Nat)(body:Body)(F:Fr)(C:c8)(I:aT)(M:List aD)(K:j6):Prop
 |inv {ι:Type} (b4:ι->tC) (inv:ι->Prop) (μ:ι->Nat) (start:n1 cp b4 inv F C I M) (round:∀ i,inv i->body (pA (b4 i).a4) (pB (b4 i).cl) (b4 i).br (b4 i).bO (Al (n1 cp b4 λj=>inv j/\μ j<μ i) K))| sF (n:Nat) (h:L7 body K n F C I M)| yo {ι:Type} (b4:ι->tC) (inv:ι->Prop) (μ:ι->Nat) (start:rp I M->n1 cp b4 inv F C I M) (round:∀ i,inv i->body (pA (b4 i).a4) (pB (b4 i).cl) (b4 i).br (b4 i).bO (Al (λF C I M=>rp I M->n1 cp b4 (λj=>inv j/\μ j<μ i) F C I M) K))
inductive cr(X:cO)(c:Code)(F:Fr)(C:c8)(I:aT)(M:List aD)(K:j6):Prop
 |mk(h:∀ a w,Rel X a w F C I M->c.wpIn (gG X) 0 X.P (mc X K) a w)
inductive acQ(cp:List Nat)(F:Fr)(C:c8)(I:aT)(M:List aD)(K:fZ):Prop
 |go(h:K F C I M)| acR (l:tC) (hw:hk cp I M l.br l.bO) (bs:kE F l.a4) (lC:yn C l.cl) (h:K (pA l.a4) (pB l.cl) l.br l.bO)
def V(X:cO):Code->Fr->c8->aT->List aD->j6->Prop
 | .skip,F,C,I,M,K=>K .normal F C I M| .label l,F,C,I,M,K=>bif Nat.ble 2 l then acQ X.cp F C I M (K .normal)else K .normal F C I M| .ret,F,C,I,M,K=>K .ret F C I M| .exit id,F,C,I,M,K=>K (.exit id) F C I M| .goto l,F,C,I,M,K=>K (.goto l) F C I M| .seq x y,F,C,I,M,K=>V X x F C I M (Al (λF C I M=>V X y F C I M K) K)| .block id c,F,C,I,M,K=>V X c F C I M (SO id K)
 | .cond c x y,F,C,I,M,K=>
  match df F c with
  | .lit b=>bif b then V X x F C I M K else V X y F C I M K| .val (.bool b)=>aB b (V X x F C I M K) (V X y F C I M K)| _=>False
 | .loop c,F,C,I,M,K=>bu X.cp (V X c) F C I M K| .region _ ops false,F,C,I,M,K=>tv X ops.toList ops.toList F C I M (K .normal)| .region id ops true,F,C,I,M,K=>cr X (.region id ops true) F C I M K| .rangeFunc f ps ff body,F,C,I,M,K=>cr X (.rangeFunc f ps ff body) F C I M K| .scope c,F,C,I,M,K=>cr X (.scope c) F C I M K| .refuse _,_,_,_,_,_=>False
def w5(n:Nat)(ops:Array Oper):Bool:=ops.toList.all λo=>match o.dst with
 |some d=>Nat.blt d n| none=>true
def codeOk(n:Nat):Code->Bool
 | .seq x y=>codeOk n x&&codeOk n y| .block _ c=>codeOk n c| .cond _ x y=>codeOk n x&&codeOk n y| .loop c=>codeOk n c| .region _ ops _=>w5 n ops| _=>true
def Ik{ops:Array Oper}(h:w5 n ops=true):∀ o∈ops.toList,∀ d,o.dst=some d->d<n:=by intro o aP d al;have:=et.1 h o aP;rw[al]at this;simpa using this
def mc.then{X:cO}{N:fZ}{K:j6}(az:∀ a w,Sat X N a w->next a w):∀ e a w,mc X (Al N K) e a w->Exit.then next (mc X K) e a w:=by
 intro e a w h;cases e<;>first | exact az _ _ h | exact h
def Il{ru:Fence}(J:Nat->Act->World->Prop)(acS:J m a w)
  (round:∀ m a w,J m a w->c.wpIn ru n P (Exit.then (λch w'=>∃ m',m'<m/\J m' ch w') Q) a w):(Code.loop c).wpIn ru n P Q a w:=by
 intro b k cs iw ah ag;have key:∀ j a w,J j a w->∃ e ch w',Q e ch w'/\ArrivesIn (Machine.fenced P ru) P (lone (b.atR a (.code c::.inLoop c::k)) cs w) b k cs e ch w':=by
  intro j
  induction j using Nat.strongRecOn with
  |_ j a8=>
   intro a w cg;obtain⟨e,jB,jC,a0,ix⟩:=round j a w cg b (.inLoop c::k) cs iw ah ag;cases e with
   |normal=>obtain⟨m',ax,acT⟩:=a0;obtain⟨ES,ET,EU,EV,EW⟩:=a8 m' ax jB jC acT;exact⟨ES,ET,EU,EV,.of_steps (StepsIn.trans ix (.one (fenced_calm ah ag rfl) stepR_inLoop)) EW⟩
   |exit id=>exact⟨_,jB,jC,a0,.pass (x:=.inLoop c) rfl (λ_ _=>.inl (by simp)) ix⟩| goto l=>exact⟨_,jB,jC,a0,.pass (x:=.inLoop c) rfl (λ_ _=>.inl (by simp)) ix⟩| ret=>exact⟨_,jB,jC,a0,.pass (x:=.inLoop c) rfl (λ_ _=>.inl (by simp)) ix⟩| panic EX=>exact⟨_,jB,jC,a0,.pass (x:=.inLoop c) rfl (λ_ _=>.inl (by simp)) ix⟩| outgrown=>exact⟨_,jB,jC,a0,.pass (x:=.inLoop c) rfl (λ_ _=>.inl (by simp)) ix⟩
 obtain⟨e,ch,w',a0,ix⟩:=key _ a w acS;exact⟨e,ch,w',a0,.of_steps (.one (fenced_calm ah ag rfl) stepR_loop) ix⟩
def qv{X:cO}(aR:cX X.P X.E):∀ (c:Code) {F C I M K a w},codeOk X.n c=true->Rel X a w F C I M->V X c F C I M K->c.wpIn (gG X) 0 X.P (mc X K) a w
 | .skip,F,C,I,M,K,a,w,_,a5,ai=>wpIn_skip ⟨F,C,I,M,a5,ai⟩
 | .label l,F,C,I,M,K,a,w,_,a5,ai=>by
  refine wpIn_label ?_;simp only[V]at ai;cases ay:Nat.ble 2 l with
  |false=>rw[ay]at ai;exact⟨F,C,I,M,a5,ai⟩
  |true=>
   rw[ay]at ai;simp only[bt]at ai;cases ai with
   |go h=>exact⟨F,C,I,M,a5,h⟩| acR l hw bs lC h=>obtain⟨β,ag⟩:=a5;exact⟨_,_,_,_,⟨β,(ag.base bs lC).jg hw⟩,h⟩
 | .ret,F,C,I,M,K,a,w,_,a5,ai=>wpIn_ret ⟨F,C,I,M,a5,ai⟩| .exit id,F,C,I,M,K,a,w,_,a5,ai=>wpIn_exit ⟨F,C,I,M,a5,ai⟩| .goto l,F,C,I,M,K,a,w,_,a5,ai=>wpIn_goto ⟨F,C,I,M,a5,ai⟩| .seq x y,F,C,I,M,K,a,w,bM,a5,ai=>by simp only[codeOk,b']at bM;refine wpIn_seq (wpIn_mono (qv aR x bM.1 a5 ai) (mc.then ?_));rintro a w⟨dN,C',I',M',ag,af⟩;exact qv aR y bM.2 ag af
 | .block id c,F,C,I,M,K,a,w,bM,a5,ai=>by
  refine wpIn_block (wpIn_mono (qv aR c bM a5 ai) ?_);intro e a w h;cases e with
  |exit j=>
   simp only[mc,SO]at h;simp only[Exit.inBlock];by_cases e:j=id;·subst e;simp only[qp,bt]at h;rw[cw rfl];exact h
   ·simp only[hx e,bz]at h;rw[cB e];exact h
  |_=>exact h
 | .cond c x y,F,C,I,M,K,a,w,bM,a5,ai=>by
  simp only[codeOk,b']at bM;obtain⟨β,ag⟩:=a5;simp only[V]at ai;split at ai
  ·rename_i b ah;have aC:=LY ag.an ah;refine wpIn_cond aC ?_;cases b
   ·exact qv aR y bM.2 ⟨β,ag⟩ ai
   ·exact qv aR x bM.1 ⟨β,ag⟩ ai
  ·rename_i b ah;have aC:=tw ag.an ah;refine wpIn_cond aC ?_;obtain⟨U,ab⟩:=ai;cases b
   ·exact qv aR y bM.2 ⟨β,ag⟩ (ab rfl)
   ·exact qv aR x bM.1 ⟨β,ag⟩ (U rfl)
  ·exact ai.elim
 | .loop c,F,C,I,M,K,a,w,bM,a5,ai=>by
  have a8:=@qv X aR c;simp only[V]at ai;have hinv:∀ {ι:Type} (b4:ι->tC) (inv:ι->Prop) (μ:ι->Nat) (start:rp I M->n1 X.cp b4 inv F C I M)
    (round:∀ i,inv i->V X c (pA (b4 i).a4) (pB (b4 i).cl) (b4 i).br (b4 i).bO (Al (λF C I M=>rp I M->n1 X.cp b4 (λj=>inv j/\μ j<μ i) F C I M) K)),(Code.loop c).wpIn (gG X) 0 X.P (mc X K) a w:=by
   intro ι b4 inv μ start round;let J (m:Nat) (a:Act) (w:World):Prop:=∃ i,inv i/\μ i=m/\Rel X a w (pA (b4 i).a4) (pB (b4 i).cl) (b4 i).br (b4 i).bO
   have yp:∀ {p:ι->Prop} {a w},(∀ i,p i->inv i)->Sat X (λF C I M=>rp I M->n1 X.cp b4 p F C I M) a w->∃ i,p i/\J (μ i) a w:=by rintro p a w aN⟨F,C,I,M,⟨β,ag⟩,gO⟩;obtain⟨j,rv,hw,bs,lC⟩:=gO ⟨ag.holds.d,ag.holds.bE⟩;exact⟨j,rv,j,aN j rv,rfl,β,(ag.base bs lC).jg hw⟩
   obtain⟨i0,_,Im⟩:=yp (λ_ h=>h) ⟨F,C,I,M,a5,start⟩;refine Il J Im ?_;rintro m a w⟨i,hi,rfl,ag⟩;refine wpIn_mono (a8 bM ag (round i hi)) ?_;intro e a w h;cases e with
   |normal=>obtain⟨j,⟨aj,ax⟩,bg⟩:=yp (λ_ h=>h.1) h;exact⟨_,ax,bg⟩
   |_=>exact h
  cases ai with
  | @inv ι b4 inv μ start round=>
   let J (m:Nat) (a:Act) (w:World):Prop:=∃ i,inv i/\μ i=m/\Rel X a w (pA (b4 i).a4) (pB (b4 i).cl) (b4 i).br (b4 i).bO
   have yp:∀ {p:ι->Prop} {a w},(∀ i,p i->inv i)->Sat X (n1 X.cp b4 p) a w->∃ i,p i/\J (μ i) a w:=by rintro p a w aN⟨F,C,I,M,⟨β,ag⟩,⟨j,rv,hw,bs,lC⟩⟩;exact⟨j,rv,j,aN j rv,rfl,β,(ag.base bs lC).jg hw⟩
   obtain⟨i0,_,Im⟩:=yp (λ_ h=>h) ⟨F,C,I,M,a5,start⟩;refine Il J Im ?_;rintro m a w⟨i,hi,rfl,ag⟩;refine wpIn_mono (a8 bM ag (round i hi)) ?_;intro e a w h;cases e with
   |normal=>obtain⟨j,⟨aj,ax⟩,bg⟩:=yp (λ_ h=>h.1) h;exact⟨_,ax,bg⟩
   |_=>exact h
  |yo b4 inv μ start round=>exact hinv b4 inv μ start round
  |sF n h=>
   refine Il (λm a w=>Sat X (L7 (V X c) K m) a w) ⟨F,C,I,M,a5,h⟩ ?_;rintro m a w⟨F,C,I,M,ag,af⟩;cases m with
   |zero=>exact af.elim
   |succ m=>
    refine wpIn_mono (a8 bM ag af) ?_;intro e a w h;cases e with
    |normal=>exact⟨m,H6 m,h⟩| _=>exact h
 | .region id ops false,F,C,I,M,K,a,w,bM,a5,ai=>by refine wpIn_region ?_;have:=SN (K:=K .normal) (Q:=mc X K) aR ops (λ_ _ h=>h) ops.toList 0 (by simp) (Ik bM) a5 ai;simpa[z4]using this
 | .region id ops true,F,C,I,M,K,a,w,bM,a5,⟨ai⟩=>ai a w a5| .rangeFunc f ps ff body,F,C,I,M,K,a,w,bM,a5,⟨ai⟩=>ai a w a5| .scope c,F,C,I,M,K,a,w,bM,a5,⟨ai⟩=>ai a w a5| .refuse _,F,C,I,M,K,a,w,bM,a5,ai=>ai.elim
def w6(args:List Value):Fr:=λt=>match args[t]? with
 |some v=>.val v| none=>.mN
def oH(X:cO)(F:Fr)(C:c8)(I:aT)(M:List aD):List ResultVar->(List Value->Prop)->Prop
 |[],K=>K []
 | .tmp t::l,K=>match bY F (.tmp t)with
  | .val v=>oH X F C I M l λvs=>K (v::vs)
  |_=>False
 | .cell t ty::l,K=>match df F (.tmp t),X.E ty with
  | .ref s off,some i=>(match C s with
   |some cs=>bif Nat.ble (off+i.size) cs.length then oH X F C I M l λvs=>K (pack i.bH.agg ((cs.drop off).take i.size)::vs)else False
   |none=>False)
  | .val (.pointer (some a)),some i=>aE I M a i.size λws=>oH X F C I M l λvs=>K (pack i.bH.agg ws::vs)
  |_,_=>False
inductive ve(cp:List Nat)(I:aT)(M:List aD)(post:aT->List aD->Prop):Prop
 |mk(I':aT)(M':List aD)(hw:hk cp I M I' M')(h:post I' M')
def tD(X:cO)(aJ:List ResultVar)(post:Value->aT->List aD->Prop):j6:=λex F C I M=>
 let done:Prop:=oH X F C I M aJ λvs=>match vs with
  |[v]=>ve X.cp I M (post v)| vs=>ve X.cp I M (post (.tuple vs.toArray))
 match ex with
 | .normal=>done| .ret=>done| _=>False
def Cx(tmps:Array Value):ResultVar->Sem Value
 | .tmp t=>pure (tmps.getD t undef)| .cell a t=>do loadVar t (<-asAddr (tmps.getD a undef))
def acU(fn:Func)(tmps:Array Value):results fn tmps=(do let vs <-fn.results.mapM (Cx tmps);pure (if h:vs.size=1 then vs[0]else .tuple vs)):=by unfold results;congr 1
def Io{X:cO}(aR:cX X.P X.E){β:Nat->Nat}{a:Act}{w:World}{F:Fr}{C:c8}{I:aT}{M:List aD}(h:cP X β a w F C I M):∀ {aJ:List ResultVar} {K:List Value->Prop},oH X F C I M aJ K -> ∃ vs,K vs/\(aJ.mapM (Cx a.tmps)).run X.P w=.ok vs w
 |[],K,ai=>⟨[],ai,rfl⟩
 | .tmp t::l,K,ai=>by
  unfold oH at ai;split at ai;·rename_i v U;have aF:a.tmps.getD t undef=v:=dx h.an U;obtain⟨vs,af,a7⟩:=Io aR h ai;refine⟨_,af,?_⟩;simp only[EF,Cx,b8,c3,bU,a7,aF]
  ·exact ai.elim
 | .cell t ty::l,K,ai=>by
  unfold oH at ai;split at ai
  ·rename_i s off i U hi;have aF:a.tmps.getD t undef=.pointer (some ⟨β s,off,none⟩):=z' h.an U;split at ai
   ·rename_i cs ar;cases hle:Nat.ble (off+i.size) cs.length with
    |false=>rw[hle]at ai;exact ai.elim| true=>rw[hle]at ai;obtain⟨vs,af,a7⟩:=Io aR h ai;have vb:=b9 hle;obtain⟨T,bA⟩:=(h.cf s cs ar).at_;have bC:=Ig (aR _ _ hi) (a:=⟨β s,off,none⟩) rfl bA (vs:=(cs.drop off).take i.size) (by simp) (by simp;omega);refine⟨_,af,?_⟩;simp only[EF,Cx,b8,c3,bU,a7,aF,asAddr,bC]
   ·exact ai.elim
  ·rename_i ad i U hi;have aF:a.tmps.getD t undef=.pointer (some ad):=tw h.an U;obtain⟨ws,⟨c4,cs,T,an,eR,ib,ay⟩,ai⟩:=ai;obtain⟨vs,af,a7⟩:=Io aR h ai;have bC:=Ig (aR _ _ hi) c4 (eR.heap h.holds) ib ay;refine⟨_,af,?_⟩;simp only[EF,Cx,b8,c3,bU,a7,aF,asAddr,bC]
  ·exact ai.elim
def acV{X:cO}(aR:cX X.P X.E){β:Nat->Nat}{F:Fr}{C:c8}{I:aT}{M:List aD}(h:cP X β a w F C I M){K:List Value->Prop}(ai:oH X F C I M fn.results.toList K) :
  ∃ vs,K vs/\(results fn a.tmps).run X.P w=.ok (match vs with | [v]=>v | vs=>.tuple vs.toArray) w:=by
 obtain⟨vs,af,e⟩:=Io aR h ai;refine⟨vs,af,?_⟩;rw[acU];have aF:(fn.results.mapM (Cx a.tmps)).run X.P w=.ok vs.toArray w:=by rw[Su,Sem.run_map,e];rfl
 simp only[b8,aF,bU,c3]
 match vs with
 |[]=>rfl| [v]=>rfl| u::v::l=>simp
def SP{ru:Fence}{n:Nat}{P:Program}{fn:Func}{tmps:Array Value}{R:Ending->World->Prop}:∀ (aJ:List Nat) (w:World),aJ.Nodup->(∀ r∈aJ,w.heap[r]?=some (.deferred (some []))) -> (∀ w':World,w'.heap.size=w.heap.size->(∀ b,b ∉ aJ->w'.heap[b]?=w.heap[b]?)->nW w w'->∃ v,(results fn tmps).run P w'=.ok v w'/\R (.returned v) w')->LeavesInM ru n P fn tmps R (aJ.map wZ) .returning w
 |[],w,_,_,h=>h w rfl (λ_ _=>rfl) (.refl _)
 |r::aJ,w,bW,ag,h=>by
  rw[nR]at bW;refine⟨by simp,.inl ⟨r,_,rfl,run_takeDeferred (ag r (by simp)),?_⟩⟩;refine SP aJ _ bW.2 (λtE gP=>?_) λw' ar ah aP=>h w' (by rw[ar];simp) (λb sG=>?_) ((Ic _ _ _).trans aP);·have bB:tE≠r:=λe=>bW.1 (e ▸ gP);rw[mJ bB];exact ag tE (by simp[gP])
  ·simp only[ea,not_or]at sG;rw[ah b sG.2,mJ sG.1]
def cP.take{X:cO}{β:Nat->Nat}{F:Fr}{C:c8}{I:aT}{M:List aD}(h:cP X β a w F C I M){aJ:List Nat}(ig:∀ r∈aJ,u9 X w I M r)(ar:w'.heap.size=w.heap.size)(ah:∀ b,b ∉ aJ->w'.heap[b]?=w.heap[b]?)(aP:nW w w') :
  cP X β { a with defers:=[] } w' F C I M:=by
 exact {
  size:=h.size
  defers:=⟨[],rfl,Cm,λr ag=>by cases ag⟩
  holds:={
   i:=λb o jy=>by rw[ah b (λag=>by have:=(ig b ag).jw;rw[jy]at this;cases this)];exact h.holds.i b o jy
   m:=λx ae=>by rw[ah _ (λag=>(ig _ ag).eM x ae rfl)];exact h.holds.m x ae
   d:=h.holds.d
   bE:=h.holds.bE }
  an:=h.an
  cf:=λs cs mS=>by have qw:=h.cf s cs mS;obtain⟨T,bA⟩:=qw.at_;refine { qw with at_:=⟨T,?_⟩ };rw[ah _ (λag=>by have:=(ig _ ag).at_;rw[bA]at this;cases this)];exact bA
  inj:=h.inj
  hL:=h.hL
  hl:=h.hl
  own:=h.own
  dL:=λb ax au=>by rw[ah _ (λag=>by have:=(ig _ ag).base;omega)];exact h.dL b ax au
  out:=h.out.trans aP
  sz:=by rw[ar];exact h.sz }
def mc.ret{X:cO}(aR:cX X.P X.E){post:Value->aT->List aD->Prop}
  (a5:∀ v I M (w:World) (a:Act) (F:Fr) (C:c8),Rel X a w F C I M->post v I M->R (.returned v) w):∀ e a w,mc X (tD X fn.results.toList post) e a w->bodyPostM (gG X) 0 X.P fn R e a w:=by
 have main:∀ a w,Sat X (tD X fn.results.toList post .ret) a w->LeavesInM (gG X) 0 X.P fn a.tmps R a.defers .returning w:=by
  rintro a w⟨F,C,I,M,⟨β,ag⟩,af⟩;simp only[tD]at af;obtain⟨aJ,al,bW,hm⟩:=ag.defers;rw[al];refine SP aJ w bW (λr lD=>(hm r lD).at_) λw' ar ah aP=>?_;have gP:=ag.take hm ar ah aP;obtain⟨vs,aN,fm⟩:=acV aR gP af;refine⟨_,fm,?_⟩
  match vs,aN with
  |[],⟨I',M',hw,aN⟩=>exact a5 _ I' M' w' _ F C ⟨β,gP.jg hw⟩ aN| [v],⟨I',M',hw,aN⟩=>exact a5 _ I' M' w' _ F C ⟨β,gP.jg hw⟩ aN| u::v::l,⟨I',M',hw,aN⟩=>exact a5 _ I' M' w' _ F C ⟨β,gP.jg hw⟩ aN
 intro e a w h;cases e with
 |normal=>exact main a w h| ret=>exact main a w h| exit id=>obtain⟨F,C,I,M,_,af⟩:=h;exact af.elim
 |goto l=>obtain⟨F,C,I,M,_,af⟩:=h;exact af.elim
 |panic _=>exact h.elim| outgrown=>exact h.elim
def SQ(au:P.funcs[f]?=some fn)(ah:fn.body.isSome=true)(az:(fn.name == "runtime.NumGoroutine")=false):H' P f:=by
 intro args w;have hn:fn.body.isNone=false:=by cases h:fn.body<;>simp_all
 simp only[callFunc,b8,run_program,bU,au,az,jX,kB,hn];rfl
def L8{E:Env}(gv:List Nat)(aR:cX P E)(au:P.funcs[f]?=some fn)(ah:fn.body=some c)(az:(fn.name == "runtime.NumGoroutine")=false)
 (bM:(codeOk fn.ntmps c&&Nat.ble args.length fn.ntmps)=true) {I:aT} {M:List aD} {post:Value->aT->List aD->Prop}
  (h:∀ B av a w,Rel ⟨P,E,gv,fn.ntmps,B,av,I,M.map (·.num),none⟩ a w (w6 args) (λ_=>none) I M->c.wpIn (gG ⟨P,E,gv,fn.ntmps,B,av,I,M.map (·.num),none⟩) 0 P (mc ⟨P,E,gv,fn.ntmps,B,av,I,M.map (·.num),none⟩ (tD ⟨P,E,gv,fn.ntmps,B,av,I,M.map (·.num),none⟩ fn.results.toList post)) a w) :
  wX P f args I M post:=by
 rw[b']at bM;have hlen:=b9 bM.2;refine⟨SQ au (by rw[ah];rfl) az,λw jf=>?_⟩;let X:cO:=⟨P,E,gv,fn.ntmps,w.heap.size,w,I,M.map (·.num),none⟩
 have EY:Rel X { tmps:=args.toArray++Array.replicate (fn.ntmps-args.toArray.size) undef,defers:=[] } w (w6 args) (λ_=>none) I M:=⟨λ_=>0,{
  size:=by simp[X];omega
  defers:=⟨[],rfl,Cm,λr ag=>by cases ag⟩
  holds:=jf
  an:=λt=>by
   unfold w6;cases aq:args[t]? with
   |none=>trivial| some v=>have ax:t<args.length:=(iO.1 aq).1;simp only[eI,oF];rw[Array.getElem?_append_left (by simpa using ax)];simp[aq]
  cf:=λs cs ar=>by cases ar
  inj:=λs b3 U=>by simp at U
  hL:=λb o ah=>ah
  hl:=λb o ah=>.inl ah
  own:=λx ae=>.inl (dB.2 ⟨x,ae,rfl⟩)
  dL:=λb ah au=>rfl
  out:=.refl _
  sz:=b2 _ }⟩
 have Ip:=h w.heap.size w _ _ EY;refine(callsIn_wide (n:=0)).1 ?_;have acW:gG X=Fence.wide:=rfl;rw[acW]at Ip;refine callsIn_of_wp_marks au ah trivial (wpIn_mono Ip (mc.ret (X:=X) aR ?_));rintro v I' M' w' ch dN C'⟨β,ag⟩aN;refine⟨v,I',M',rfl,aN,ag.holds,?_⟩;exact {
  le:=ag.hL
  sw:=ag.hl
  tu:=λx ae=>by
   rcases ag.own x ae with U | U;·obtain⟨y,aA,e⟩:=dB.1 U;exact .inl ⟨y,aA,e⟩
   ·exact .inr U
  dL:=λb ah bB=>ag.dL b ah (λhm=>by
   obtain⟨y,aA,e⟩:=dB.1 hm;exact bB y aA e)
  out:=ag.out
  sz:=ag.sz }
def EZ{E:Env}(gv:List Nat)(aR:cX P E)(au:P.funcs[f]?=some fn)(ah:fn.body=some c)(az:(fn.name == "runtime.NumGoroutine")=false)
 (bM:(codeOk fn.ntmps c&&Nat.ble args.length fn.ntmps)=true) {I:aT} {M:List aD} {post:Value->aT->List aD->Prop}
  (h:∀ B av,V ⟨P,E,gv,fn.ntmps,B,av,I,M.map (·.num),none⟩ c (w6 args) (λ_=>none) I M (tD ⟨P,E,gv,fn.ntmps,B,av,I,M.map (·.num),none⟩ fn.results.toList post)) :
  wX P f args I M post:=
 L8 gv aR au ah az bM λB av a w ag=>by rw[b']at bM;exact qv aR c bM.1 ag (h B av)
def bn{E:Env}(gv:List Nat)(aR:cX P E)(au:P.funcs[f]?=some fn)(ah:fn.body=some c)(az:(fn.name == "runtime.NumGoroutine")=false)
 (bM:(codeOk fn.ntmps c&&Nat.ble args.length fn.ntmps)=true) {I:aT} {M:List aD} {post:Value->aT->List aD->Prop}
  (h:∀ B av,V ⟨P,E,gv,fn.ntmps,B,av,I,M.map (·.num),none⟩ c (w6 args) (λ_=>none) I M (tD ⟨P,E,gv,fn.ntmps,B,av,I,M.map (·.num),none⟩ fn.results.toList post)) :
  Spec P f args I M post:=.inl (EZ gv aR au ah az bM h)
def Iq(X:cO)(aJ:List ResultVar)(post:Value->aT->List aD->Prop):j6:=λex F C I M=>
 let done:Prop:=oH X F C I M aJ λvs=>match vs with
  |[v]=>rp I M->ve X.cp I M (post v)| vs=>rp I M->ve X.cp I M (post (.tuple vs.toArray))
 match ex with
 | .normal=>done| .ret=>done| _=>False
def Ir{X:cO}{F:Fr}{C:c8}{I:aT}{M:List aD}:∀ {aJ:List ResultVar} {K yq:List Value->Prop},(∀ vs,K vs->yq vs)->oH X F C I M aJ K->oH X F C I M aJ yq
 |[],K,yq,h,ai=>h _ ai
 | .tmp t::l,K,yq,h,ai=>by
  unfold oH at ai |-;split at ai;·exact Ir (λvs=>h _) ai
  ·exact ai.elim
 | .cell t ty::l,K,yq,h,ai=>by
  unfold oH at ai |-;split at ai
  ·rename_i s off i U hi;split at ai
   ·rename_i cs ar;cases hle:Nat.ble (off+i.size) cs.length with
    |false=>rw[hle]at ai;exact ai.elim| true=>rw[hle]at ai;exact Ir (λvs=>h _) ai
   ·exact ai.elim
  ·obtain⟨ws,a6,ai⟩:=ai;exact⟨ws,a6,Ir (λvs=>h _) ai⟩
  ·exact ai.elim
def mc.acX{X:cO}{aJ:List ResultVar}{post:Value->aT->List aD->Prop}:∀ e a w,mc X (Iq X aJ post) e a w->mc X (tD X aJ post) e a w:=by
 have one:∀ a w,Sat X (Iq X aJ post .ret) a w->Sat X (tD X aJ post .ret) a w:=by
  rintro a w⟨F,C,I,M,⟨β,ag⟩,h⟩;refine⟨F,C,I,M,⟨β,ag⟩,Ir (λvs ai=>?_) h⟩;have gO:rp I M:=⟨ag.holds.d,ag.holds.bE⟩
  match vs,ai with
  |[v],ai=>exact ai gO| [],ai=>exact ai gO| _::_::_,ai=>exact ai gO
 intro e a w h;cases e with
 |normal=>exact one a w h| ret=>exact one a w h| exit id=>obtain⟨F,C,I,M,ag,af⟩:=h;exact af.elim
 |goto l=>obtain⟨F,C,I,M,ag,af⟩:=h;exact af.elim
 |panic _=>exact h| outgrown=>exact h
def acY{E:Env}(gv:List Nat)(aR:cX P E)(au:P.funcs[f]?=some fn)(ah:fn.body=some c)(az:(fn.name == "runtime.NumGoroutine")=false)
 (bM:(codeOk fn.ntmps c&&Nat.ble args.length fn.ntmps)=true) {I:aT} {M:List aD} {post:Value->aT->List aD->Prop}
  (h:∀ B av,V ⟨P,E,gv,fn.ntmps,B,av,I,M.map (·.num),none⟩ c (w6 args) (λ_=>none) I M (Iq ⟨P,E,gv,fn.ntmps,B,av,I,M.map (·.num),none⟩ fn.results.toList post)) :
  wX P f args I M post:=
 L8 gv aR au ah az bM λB av a w ag=>by rw[b']at bM;exact wpIn_mono (qv aR c bM.1 ag (h B av)) mc.acX
def Is{E:Env}(gv:List Nat)(aR:cX P E)(au:P.funcs[f]?=some fn)(ah:fn.body=some c)(az:(fn.name == "runtime.NumGoroutine")=false)
 (bM:(codeOk fn.ntmps c&&Nat.ble args.length fn.ntmps)=true) {I:aT} {M:List aD} {post:Value->aT->List aD->Prop}
  (h:∀ B av,V ⟨P,E,gv,fn.ntmps,B,av,I,M.map (·.num),none⟩ c (w6 args) (λ_=>none) I M (Iq ⟨P,E,gv,fn.ntmps,B,av,I,M.map (·.num),none⟩ fn.results.toList post)) :
  Spec P f args I M post:=.inl (acY gv aR au ah az bM h)
def L9:Value->Value->Bool
 | .bool a,.bool b=>a == b| .int k n,.int eQ m=>IntKind.l' k eQ&&decide (n=m)| .string s,.string t=>decide (s.data.toList=t.data.toList)| .pointer none,.pointer none=>true| .slice none 0 0,.slice none 0 0=>true| .map none,.map none=>true| .nilFunc,.nilFunc=>true| .nilIface,.nilIface=>true| _,_=>false
def acZ:∀ {a b:Value},L9 a b=true->a=b:=by
 intro a b h;unfold L9 at h;split at h
 ·simp at h;rw[h]
 ·simp only[b',fk]at h;rw[IntKind.Cr h.1,h.2]
 ·rename_i s t;simp only[fk]at h;have:s=t:=by cases s;cases t;simp only[ByteArray.mk.injEq];exact gF h
  rw[this]
 all_goals first | rfl | cases h
def It:List Value->List Value->Bool
 |[],[]=>true| a::as,b::bd=>L9 a b&&It as bd| _,_=>false
def SR:∀ {a b:List Value},It a b=true->a=b
 |[],[],_=>rfl| a::as,b::bd,h=>by simp only[It,b']at h;rw[acZ h.1,SR h.2]
 |[],_::_,h=>by cases h
 |_::_,[],h=>by cases h
def L'(P:Program)(t:Nat)(i:dW):Bool:=
 (match P.info? t with
 |some inf=>decide (inf.size=i.size)&&decide (inf.bytes=i.bytes)&&(match inf.zero with
  |some z=>It z.cells.toList i.zero| none=>false)
 |none=>false) &&
 (match P.underlying t with
 |some d=>decide (fe d=i.bH)| none=>false)&&gh i.zero&&decide (i.zero.length=i.size)&&(i.bH.agg||decide (i.size=1))
def ac0{t:Nat}{i:dW}(h:L' P t i=true):j1 P t i:=by
 simp only[L',b']at h;obtain⟨⟨⟨⟨U,ab⟩,ak⟩,aL⟩,bm⟩:=h;refine⟨?_,?_,Ab ak,cq aL,λaX=>?_⟩
 ·split at U
  ·rename_i inf hi;simp only[b',fk]at U;obtain⟨⟨aF,a7⟩,bC⟩:=U;split at bC
   ·rename_i z a2;exact⟨inf,z,hi,aF,a7,a2,SR bC⟩
   ·cases bC
  ·cases U
 ·split at ab
  ·rename_i d al;exact⟨d,al,cq ab⟩
  ·cases ab
 ·rw[aX]at bm;simpa using bm
def ac1{E:Env}(n:Nat)(az:∀ t,n<=t->E t=none)(h:((List.range n).all λt=>match E t with
  |some i=>L' P t i| none=>true)=true):cX P E:=by
 intro t i hi;by_cases aq:t<n
 ·have:=et.1 h t (kf.2 aq);rw[hi]at this;exact ac0 this
 ·rw[az t (by omega)]at hi;cases hi
end Go.V
namespace Go.V
variable{a:Act}{c:Code}{cp:List Nat}{P:Program}{f off T sz iP e n m dE ca dC dz gr kC lA mM nV po rn ts wU z7 EH:Nat}{args vs z:List Value}{v:Value}{w' w:World}{dst:Option Nat}{cs:Array Value}{an:Nat×Nat}{R:Ending->World->Prop}{next:Act->World->Prop}{ad:Addr}{gu:IntKind}{other:Prop}{ops:List Oper}{Q:Exit->Act->World->Prop}{fn:Func}{hj:Bool}{op:Op}{listed:Array Bool}{A:Array Oper}{ι:Type}
def ih{F:Fr}:kE F [(dE,F dE),(ca,F ca)]:=.cons .refl (.cons .refl (.nil))
def cU{F:Fr}:kE F [(dE,F dE),(ca,F ca),(dC,F dC)]:=.cons .refl (.cons .refl (.cons .refl (.nil)))
def cI{F:Fr}:kE F [(dE,F dE),(ca,F ca),(dC,F dC),(dz,F dz)]:=.cons .refl (.cons .refl (.cons .refl (.cons .refl (.nil))))
def ec{F:Fr}:kE F [(dE,F dE),(ca,F ca),(dC,F dC),(dz,F dz),(gr,F gr)]:=.cons .refl (.cons .refl (.cons .refl (.cons .refl (.cons .refl (.nil)))))
def jD{F:Fr}:kE F [(dE,F dE),(ca,F ca),(dC,F dC),(dz,F dz),(gr,F gr),(kC,F kC)]:=.cons .refl (.cons .refl (.cons .refl (.cons .refl (.cons .refl (.cons .refl (.nil))))))
def np{F:Fr}:kE F [(dE,F dE),(ca,F ca),(dC,F dC),(dz,F dz),(gr,F gr),(kC,F kC),(lA,F lA)]:=.cons .refl (.cons .refl (.cons .refl (.cons .refl (.cons .refl (.cons .refl (.cons .refl (.nil)))))))
def tF{F:Fr}:kE F [(dE,F dE),(ca,F ca),(dC,F dC),(dz,F dz),(gr,F gr),(kC,F kC),(lA,F lA),(mM,F mM)]:=.cons .refl (.cons .refl (.cons .refl (.cons .refl (.cons .refl (.cons .refl (.cons .refl (.cons .refl (.nil))))))))
def lE{F:Fr}:kE F [(dE,F dE),(ca,F ca),(dC,F dC),(dz,F dz),(gr,F gr),(kC,F kC),(lA,F lA),(mM,F mM),(nV,F nV)]:=.cons .refl (.cons .refl (.cons .refl (.cons .refl (.cons .refl (.cons .refl (.cons .refl (.cons .refl (.cons .refl (.nil)))))))))
def Cy{F:Fr}:kE F [(dE,F dE),(ca,F ca),(dC,F dC),(dz,F dz),(gr,F gr),(kC,F kC),(lA,F lA),(mM,F mM),(nV,F nV),(po,F po)]:=.cons .refl (.cons .refl (.cons .refl (.cons .refl (.cons .refl (.cons .refl (.cons .refl (.cons .refl (.cons .refl (.cons .refl (.nil))))))))))
def aqr{F:Fr}:kE F [(dE,F dE),(ca,F ca),(dC,F dC),(dz,F dz),(gr,F gr),(kC,F kC),(lA,F lA),(mM,F mM),(nV,F nV),(po,F po),(rn,F rn)]:=.cons .refl (.cons .refl (.cons .refl (.cons .refl (.cons .refl (.cons .refl (.cons .refl (.cons .refl (.cons .refl (.cons .refl (.cons .refl (.nil)))))))))))
def aqs{F:Fr}:kE F [(dE,F dE),(ca,F ca),(dC,F dC),(dz,F dz),(gr,F gr),(kC,F kC),(lA,F lA),(mM,F mM),(nV,F nV),(po,F po),(rn,F rn),(ts,F ts)]:=.cons .refl (.cons .refl (.cons .refl (.cons .refl (.cons .refl (.cons .refl (.cons .refl (.cons .refl (.cons .refl (.cons .refl (.cons .refl (.cons .refl (.nil))))))))))))
def aqt{F:Fr}:kE F [(dE,F dE),(ca,F ca),(dC,F dC),(dz,F dz),(gr,F gr),(kC,F kC),(lA,F lA),(mM,F mM),(nV,F nV),(po,F po),(rn,F rn),(ts,F ts),(wU,F wU)]:=.cons .refl (.cons .refl (.cons .refl (.cons .refl (.cons .refl (.cons .refl (.cons .refl (.cons .refl (.cons .refl (.cons .refl (.cons .refl (.cons .refl (.cons .refl (.nil)))))))))))))
def SS{F:Fr}:kE F [(dE,F dE),(ca,F ca),(dC,F dC),(dz,F dz),(gr,F gr),(kC,F kC),(lA,F lA),(mM,F mM),(nV,F nV),(po,F po),(rn,F rn),(ts,F ts),(wU,F wU),(z7,F z7)]:=.cons .refl (.cons .refl (.cons .refl (.cons .refl (.cons .refl (.cons .refl (.cons .refl (.cons .refl (.cons .refl (.cons .refl (.cons .refl (.cons .refl (.cons .refl (.cons .refl (.nil))))))))))))))
def ac2{F:Fr}:kE F [(dE,F dE),(ca,F ca),(dC,F dC),(dz,F dz),(gr,F gr),(kC,F kC),(lA,F lA),(mM,F mM),(nV,F nV),(po,F po),(rn,F rn),(ts,F ts),(wU,F wU),(z7,F z7),(EH,F EH)]:=.cons .refl (.cons .refl (.cons .refl (.cons .refl (.cons .refl (.cons .refl (.cons .refl (.cons .refl (.cons .refl (.cons .refl (.cons .refl (.cons .refl (.cons .refl (.cons .refl (.cons .refl (.nil)))))))))))))))
def aqu{F:Fr}{SU:Nat}:kE F [(dE,F dE),(ca,F ca),(dC,F dC),(dz,F dz),(gr,F gr),(kC,F kC),(lA,F lA),(mM,F mM),(nV,F nV),(po,F po),(rn,F rn),(ts,F ts),(wU,F wU),(z7,F z7),(EH,F EH),(SU,F SU)]:=.cons .refl (.cons .refl (.cons .refl (.cons .refl (.cons .refl (.cons .refl (.cons .refl (.cons .refl (.cons .refl (.cons .refl (.cons .refl (.cons .refl (.cons .refl (.cons .refl (.cons .refl (.cons .refl (.nil))))))))))))))))
def Cz:Op->Bool
 | .move _ | .assign _ | .pick .. | .unOp .. | .binOp .. | .load .. | .nilCheck _ | .fieldAddr .. | .field .. | .indexAddr .. | .index .. | .build .. | .makeFunc .. | .slice .. | .extract .. | .convert ..=>true| .call { callee:=.builtin .len,.. }=>true| .call { callee:=.builtin .cap,.. }=>true| .call { callee:=.builtin .max,.. }=>true| .call { callee:=.builtin .min,.. }=>true| .call { callee:=.builtin .unsafeSliceData,.. }=>true| _=>false
def pC:Op->Bool
 | .load ..=>true| _=>false
def E0(o:Oper)(p:Nat):Bool:=o.after.toList.all λe=>!Region.binds .any e||p.testBit e.on
def pD(ops:List Oper)(p:Nat)(k:Bool):List Nat:=(List.range ops.length).filter λi=>match ops[i]? with
 |some o=>!p.testBit i&&((Cz o.op == k)&&E0 o p)| none=>false
def E1(acc:List Nat)(o:Oper):Nat:=o.after.toList.foldl (λs e=>bif Region.binds .any e then s ||| 2^e.on ||| acc.getD e.on 0 else s) 0
def kF(ops:List Oper):List Nat:=ops.foldl (λacc o=>acc++[E1 acc o]) []
def Ma(P:Nat->Prop):List Nat->Prop
 |[]=>True| [i]=>P i| i::l=>P i/\Ma P l
inductive e7(cp:List Nat)(P:Program)(f:Nat)(args:List Value)(I:aT)(M:List aD)(K:Value->aT->List aD->Prop):Prop
 |mk(post:Value->aT->List aD->Prop)(ar:Spec P f args I [] post)(k:∀ v I' M',(∀ b o,I b=some o->I' b=some o)->post v I' M'->K v I' (M'++M))| mT (ez Mr:List aD) (post:Value->aT->List aD->Prop) (aV:M.Perm (ez++Mr)) (ar:Spec P f args I ez post) (mU:∀ v I' M',post v I' M'->∀ x∈ez,x∈M') (k:∀ v I' M',(∀ b o,I b=some o->I' b=some o)->post v I' M'->K v I' (M'++Mr))| Ia (post:Value->aT->List aD->Prop) (ar:Spec P f args I [] post) (k:∀ v I' M',(∀ b o,I b=some o->I' b=some o)->(∀ x∈M'++M,I' x.num=none)->post v I' M'->K v I' (M'++M))| ac3 (ez Mr:List aD) (post:Value->aT->List aD->Prop) (aV:M.Perm (ez++Mr)) (ar:Spec P f args I ez post) (mU:∀ v I' M',post v I' M'->∀ x∈ez,x∈M') (k:∀ v I' M',(∀ b o,I b=some o->I' b=some o)->(∀ x∈M'++Mr,I' x.num=none)->post v I' M'->K v I' (M'++Mr))| ac4 (b:Nat) (o:Obj) (ez Mr:List aD) (post:Value->aT->List aD->Prop) (aV:M.Perm (⟨b,o⟩::(ez++Mr))) (au:b ∉ cp) (ar:Spec P f args (ins I b o) ez post) (mU:∀ v I' M',post v I' M'->∀ x∈ez,x∈M') (k:∀ v I' M',(∀ c p,ins I b o c=some p->I' c=some p)->(∀ x∈M'++Mr,I' x.num=none)->post v I' M'->K v I' (M'++Mr))| mP (h:rp I M->e7 cp P f args I M K)
def e7.elim{I:aT}{M:List aD}{K:Value->aT->List aD->Prop}(gO:rp I M)(h:e7 cp P f args I M K) :
  ∃ (bR:aT) (ez Mr:List aD) (post:Value->aT->List aD->Prop),hk cp I M bR (ez++Mr)/\(∀ b o,I b=some o->bR b=some o)/\Spec P f args bR ez post /\
   ∀ v I' M',(∀ b o,bR b=some o->I' b=some o)->(∀ x∈M'++Mr,I' x.num=none)->post v I' M'->(∀ x∈M,I' x.num=some x.obj\/x∈M'++Mr)/\K v I' (M'++Mr):=by
 have SV:∀ {ez Mr:List aD} {post:Value->aT->List aD->Prop} {I':aT},M.Perm (ez++Mr)->(∀ v I' M',post v I' M'->∀ x∈ez,x∈M')->∀ v M',post v I' M'->∀ x∈M,I' x.num=some x.obj\/x∈M'++Mr:=λaV mU v M' ab x ae=>by
  right
  rcases dm.1 (aV.mem_iff.1 ae)with ae | ae;·exact dm.2 (.inl (mU v _ M' ab x ae))
  ·exact dm.2 (.inr ae)
 induction h with
 |mk post ar k=>exact⟨I,[],M,post,.refl,λ_ _ h=>h,ar,λv I' M' U _ ab=>⟨λx ae=>.inr (by simp[ae]),k v I' M' U ab⟩⟩| mT ez Mr post aV ar mU k=>exact⟨I,ez,Mr,post,.perm aV .refl,λ_ _ h=>h,ar,λv I' M' U _ ab=>⟨SV aV mU v M' ab,k v I' M' U ab⟩⟩| Ia post ar k=>exact⟨I,[],M,post,.refl,λ_ _ h=>h,ar,λv I' M' U ak ab=>⟨λx ae=>.inr (by simp[ae]),k v I' M' U ak ab⟩⟩| ac3 ez Mr post aV ar mU k=>exact⟨I,ez,Mr,post,.perm aV .refl,λ_ _ h=>h,ar,λv I' M' U ak ab=>⟨SV aV mU v M' ab,k v I' M' U ak ab⟩⟩
 |ac4 b o ez Mr post aV au ar mU k=>
  have ah:I b=none:=gO.d ⟨b,o⟩ (aV.mem_iff.2 (.head _));have ac5:ins I b o b=some o:=by unfold ins;rw[qp];rfl
  refine⟨ins I b o,ez,Mr,post,.perm aV (.pt rfl au .refl),λc p aC=>?_,ar,λv I' M' U ak ab=>⟨λx ae=>?_,k v I' M' U ak ab⟩⟩
  ·unfold ins;by_cases e:c=b
   ·subst e;rw[ah]at aC;cases aC
   ·rw[hx e];exact aC
  ·rcases ea.1 (aV.mem_iff.1 ae)with rfl | ae
   ·exact .inl (U _ _ ac5)
   ·right
    rcases dm.1 ae with ae | ae;·exact dm.2 (.inl (mU v I' M' ab x ae))
    ·exact dm.2 (.inr ae)
 |mP h a8=>exact a8 gO
def Iu(ops:List Oper)(o:Oper)(F:Fr)(run skip:Fr->Prop):Prop:=
 match o.guard with
 |none=>run F
 |some (j,b)=>
  match(ops[j]?).bind (·.dst)with
  |none=>False
  |some d=>
   match F d with
   | .lit c=>bif c == b then run F else skip F| .val (.bool c)=>a9 c b (run (fA F d (.lit b))) (skip (fA F d (.lit !b)))| .val (.tuple _)=>skip F| _=>False
def SW(gH p:Nat):Bool:=Nat.beq (p &&& gH) p
def ac6(ops:List Oper)(gH p:Nat):Bool:=(List.range ops.length).all λq=>!p.testBit q||(gH.testBit q||match ops[q]? with
 |some o=>!pC o.op| none=>true)
inductive E2(X:cO)(o:Oper)(F:Fr)(C:c8)(I:aT)(M:List aD)(K:de->aT->List aD->Prop):Prop
 |mk (h:∀ β a w Q,cP X β a w F C I M->o.wpIn (gG X) 0 X.P a w (λch w'=>∃ v x I' M',ch=a.put o.dst v/\eI β x v/\cP X β a w' F C I' M'/\K x I' M'/\I'=I) Q)
def vf(X:cO)(ac7 soft:Bool)(o:Oper)(F:Fr)(C:c8)(I:aT)(M:List aD)(K:fZ):Prop:=
 bif ac7 then hM X o F C I M K else
 match o.op with
 | .call { callee:=.value f,args,.. }=>
  match bY F f,l8 F args.toList with
  | .val (.func (.func g) first cap),some vs=>e7 X.cp X.P g (first.toList++vs++cap.toList) I M λv I' M'=>K (put o.dst (.val v) F) C I' M'
  |_,_=>False
 | .alloc t=>
  match o.dst,X.E t with
  |some d,some i=>bL I M λb=>K (fA F d (.val (.pointer (some ⟨b,0,none⟩)))) C I (⟨b,.cells i.zero.toArray t (0,0)⟩::M)
  |_,_=>False
 | .buildSlice _ _ _=>hM X o F C I M K| .makeSlice _ _ _=>hM X o F C I M K| .store _ _ _=>bif soft then hM X o F C I M K else False| .call { callee:=.builtin .append,.. }=>bif soft then ∀ G:Fr,(∀ y∈o.op.operands,df G y=df F y)->E2 X o G C I M λx I' M'=>K (put o.dst x F) C I' M' else False
 | .call { callee:=.builtin .copy,.. }=>bif soft then ∀ G:Fr,(∀ y∈o.op.operands,df G y=df F y)->E2 X o G C I M λx I' M'=>K (put o.dst x F) C I' M' else False
 |_=>False
def Iv:de->Nat
 | .ref s _=>s+1| _=>0
def E3(i:Nat)(op:Op)(ρ:Operand->de)(cf:List (Nat×Nat)):List (Nat×Nat):=match op with
 | .load _ x=>(i,Iv (ρ x))::cf| _=>cf
def CA(gH s:Nat):List (Nat×Nat)->Bool
 |[]=>true|(i,t)::cf=>(gH.testBit i || !Nat.beq s t)&&CA gH s cf
def SX{gH s i t:Nat}:∀ {cf:List (Nat×Nat)},CA gH s cf=true->(i,t)∈cf->gH.testBit i=true\/t≠s
 |(j,u)::cf,h,hm=>by
  unfold CA at h;rw[b',j0]at h;rcases ea.1 hm with e | hm
  ·cases e;rcases h.1 with U | U
   ·exact .inl U
   ·right
    rintro rfl;simp at U
  ·exact SX h.2 hm
def SY(gH:Nat)(op:Op)(ρ:Operand->de)(cf:List (Nat×Nat)):Bool:=match op with
 | .store _ x _=>(match ρ x with
  | .val (.pointer (some _))=>CA gH 0 cf| _=>false)
 |_=>false
def SZ(gH:Nat)(op:Op)(ρ:Operand->de)(cf:List (Nat×Nat)):Bool:=match op with
 | .store _ x _=>(match ρ x with
  | .ref s _=>CA gH (s+1) cf| _=>false)
 |_=>false
def vg(hj:Bool)(M:List aD):List aD:=bif hj then []else M
def ac8{I:aT}{M:List aD}{b:Nat}{o:Obj}(h:h' I (vg hj M) b o):h' I M b o:=by
 cases hj with
 |false=>exact h
 |true=>
  rcases h with h | ⟨x,ae,_⟩;·exact .inl h
  ·cases ae
def S0{I I':aT}{M M':List aD}(h:∀ b o,h' I M b o->h' I' M' b o)(aG:∀ b o,I b=some o->I' b=some o):∀ b o,h' I (vg hj M) b o->h' I' (vg hj M') b o:=λb o ah=>by
 cases hj with
 |false=>exact h b o ah
 |true=>
  rcases ah with ah | ⟨x,ae,_⟩;·exact .inl (aG _ _ ah)
  ·cases ae
def ac9{I I':aT}{M M':List aD}(aG:∀ b o,I b=some o->I' b=some o):∀ b o,h' I (vg true M) b o->h' I' (vg true M') b o:=λb o ah=>by
 rcases ah with ah | ⟨x,ae,_⟩
 ·exact .inl (aG _ _ ah)
 ·cases ae
def S1(X:cO)(hj:Bool)(op:Op)(ρ:Operand->de)(C:c8)(I:aT)(M:List aD)(V:de->Prop)(other:Prop):Prop:=match hj with
 |false=>cE X op ρ C I M V other| true=>cE X op ρ C I [] V other
def ada{X:cO}{ρ:Operand->de}{C:c8}{I:aT}{M:List aD}{V:de->Prop}(h:S1 X hj op ρ C I M V other):cE X op ρ C I (vg hj M) V other:=by
 cases hj with
 |false=>exact h| true=>exact h
def adb(ops:List Oper)(hj:Nat->Bool)(gH p:Nat):Bool:=(List.range ops.length).all λq=>!p.testBit q||(gH.testBit q||(hj q||match ops[q]? with
 |some o=>!pC o.op| none=>true))
def S2(op:Op)(ρ:Operand->de):Bool:=match op with
 | .store _ x _=>(match ρ x with
  | .val (.pointer (some _))=>true| _=>false)
 | .call { callee:=.builtin .append,.. }=>true| .call { callee:=.builtin .copy,.. }=>true| _=>false
def S3(ops:List Oper)(hj:Nat->Bool)(gH p:Nat)(op:Op)(ρ:Operand->de):Bool:=adb ops hj gH p&&S2 op ρ
def oI(X:cO)(ops:List Oper)(hj:Nat->Bool):Nat->Nat->List (Nat×Nat)->Fr->c8->aT->List aD->fZ->Prop
 |0,_,_,_,_,_,_,_=>False
 |n+1,p,cf,F,C,I,M,K=>
  match pD ops p true with
  |i::_=>
   (match ops[i]? with
   |some o=>Iu ops o F (λF=>S1 X (hj i) o.op (df F) C I M (λx=>oI X ops hj n (p ||| 2^i) (E3 i o.op (df F) cf) (put o.dst x F) C I M K) False) (λF=>oI X ops hj n (p ||| 2^i) cf (put o.dst (.val undef) F) C I M K)| none=>False)
  |[]=>
   match pD ops p false with
   |[]=>K F C I M
   |i0::e9=>Ma (λi=>match ops[i]? with
     |some o=>Iu ops o F (λF=>vf X (SW ((kF ops).getD i 0) p) (ac6 ops ((kF ops).getD i 0) p||(SZ ((kF ops).getD i 0) o.op (df F) cf||(SY ((kF ops).getD i 0) o.op (df F) cf||S3 ops hj ((kF ops).getD i 0) p o.op (df F)))) o F C I M λF C I M=>oI X ops hj n (p ||| 2^i) cf F C I M K) (λF=>oI X ops hj n (p ||| 2^i) cf (put o.dst (.val undef) F) C I M K)| none=>False) (i0::e9)
def looks(ops:List Oper)(o:Oper):List Nat:=o.looksAt ops.toArray
def Am(ops:List Oper):Bool:=
 let b:=kF ops
 (List.range ops.length).all λj=>match ops[j]? with
  |none=>true
  |some me=>
   (me.after.toList.all λe=>!Region.binds .any e||Nat.blt e.on j) &&
   ((match me.dst with
    |some d=>!(looks ops me).contains d| none=>true) &&
   ((List.range ops.length).all (λi=>Nat.beq i j||match ops[i]? with
    |none=>true
    |some fg=>match fg.dst with
     |none=>true| some d=>!(me.dst == some d)&&(!(looks ops me).contains d||((b.getD j 0).testBit i||(b.getD i 0).testBit j)))))
def mf(ops:List Oper)(j e:Nat):Prop:=∃ o kh,ops[j]?=some o/\kh∈o.after/\Region.binds .any kh=true/\kh.on=e
inductive oJ(ops:List Oper):Nat->Nat->Prop
 |one{i j}(h:mf ops j i):oJ ops i j| trans {i j k} (h:mf ops j k) (aG:oJ ops i k):oJ ops i j
def An(ops:List Oper)(S:Nat->Prop):Prop:=∀ j e,S j->mf ops j e->S e
def oJ.mem{S:Nat->Prop}(fo:An ops S){i j:Nat}(h:oJ ops i j)(aj:∀ e,mf ops j e->S e):S i:=by
 induction h with
 |one h=>exact aj _ h| trans h _ a8=>exact a8 λe he=>fo _ e (aj _ h) he
def ade{acc:List Nat}{o:Oper}{i:Nat}(h:(E1 acc o).testBit i=true):∃ e∈o.after,Region.binds .any e=true/\(e.on=i\/(acc.getD e.on 0).testBit i=true):=by
 have key:∀ (l:List Edge) (s:Nat),(l.foldl (λs e=>bif Region.binds .any e then s ||| 2^e.on ||| acc.getD e.on 0 else s) s).testBit i=true->s.testBit i=true\/∃ e∈l,Region.binds .any e=true/\(e.on=i\/(acc.getD e.on 0).testBit i=true):=by
  intro l
  induction l with
  |nil=>intro s h;exact .inl h
  |cons e l a8=>
   intro s h;simp only[qm]at h;rcases a8 _ h with U | ⟨c0,fM,ab⟩
   ·cases ah:Region.binds .any e with
    |false=>rw[ah]at U;exact .inl U
    |true=>
     rw[ah]at U;simp only[bt,H7,j0,ED,fk]at U;rcases U with(U | U) | U;·exact .inl U
     ·exact .inr ⟨e,by simp,ah,.inl U⟩
     ·exact .inr ⟨e,by simp,ah,.inr U⟩
   ·exact .inr ⟨c0,by simp[fM],ab⟩
 rcases key _ 0 h with U | ⟨e,he,ab⟩
 ·simp at U
 ·exact⟨e,by simpa using he,ab⟩
def S4(ops:List Oper):∀ (l:List Oper) (pre:List Oper) (acc:List Nat),ops=pre++l->acc.length=pre.length->(∀ j i,(acc.getD j 0).testBit i=true->oJ ops i j) -> ∀ j i,((l.foldl (λacc o=>acc++[E1 acc o]) acc).getD j 0).testBit i=true->oJ ops i j
 |[],pre,acc,_,_,lF=>lF
 |o::l,pre,acc,vh,hlen,lF=>by
  simp only[qm];refine S4 ops l (pre++[o]) _ (by simp[vh]) (by simp[hlen]) ?_;intro j i h;by_cases aj:j<acc.length;·exact lF j i (by simpa[bV,sq aj]using h)
  ·by_cases jA:j=acc.length
   ·subst jA;have aG:(E1 acc o).testBit i=true:=by simpa[bV]using h
    obtain⟨e,he,ah,ab⟩:=ade aG;have aP:ops[acc.length]?=some o:=by rw[vh,hlen];simp
    have yr:mf ops acc.length e.on:=⟨o,e,aP,he,ah,rfl⟩;rcases ab with rfl | ab;·exact .one yr
    ·exact .trans yr (lF _ _ ab)
   ·have:(acc++[E1 acc o]).getD j 0=0:=by rw[bV,ql (by simp;omega)];rfl
    rw[this]at h;simp at h
def ys{j i:Nat}(h:((kF ops).getD j 0).testBit i=true):oJ ops i j:=
 S4 ops ops [] [] rfl rfl (λj i h=>by simp at h) j i h
section
variable{X:cO}{C C':c8}{I I':aT}{M M':List aD}
def w7{ρ jE:Operand->de}:∀ {xs:List Operand},(∀ y∈xs,jE y=ρ y)->jx jE xs=jx ρ xs
 |[],_=>rfl| x::xs,h=>by have U:=h x (by simp);have ab:=w7 (xs:=xs) λy aA=>h y (by simp[aA]);simp only[jx,dH,U,ab]
def Mb{ρ jE:Operand->de}:∀ {xs:List (Nat×Operand)},(∀ y∈xs.map (·.2),jE y=ρ y)->sA jE xs=sA ρ xs
 |[],_=>rfl|(i,x)::xs,h=>by have U:=h x (by simp);have ab:=Mb (xs:=xs) λy aA=>h y (by simp only[cZ,ea];exact .inr aA);simp only[sA,dH,U,ab]
def S5{ρ jE:Operand->de}{V:de->Prop}(h:cE X op ρ C I M V False)(iV:∀ y∈op.operands,jE y=ρ y)
  (ay:∀ t x,op=.load t x->(∀ s off,ρ x=.ref s off->C' s=C s)/\((∀ s off,ρ x≠.ref s off)->∀ b o,h' I M b o->h' I' M' b o)):cE X op jE C' I' M' V False:=by
 cases op
 case load t x=>
  obtain⟨aC,af⟩:=ay t x rfl;have U:=iV x (by simp[Op.operands]);simp only[cE,U]at h |-;cases aR:X.E t with
  |none=>rw[aR]at h;exact h.elim
  |some i=>
   rw[aR]at h
   try simp only at h |-
   cases ae:ρ x with
   |ref s off=>
    rw[ae]at h
    try simp only at h |-
    rw[aC s off ae];exact h
   |val v=>
    rw[ae]at h
    try simp only at h |-
    split at h;·rename_i e;cases e
    ·rename_i a e;cases e;obtain⟨vs,⟨ab,cs,T,an,ak,aL⟩,bm⟩:=h;exact⟨vs,⟨ab,cs,T,an,af (λs off e=>by rw[ae]at e;cases e) _ _ ak,aL⟩,bm⟩
    ·exact h.elim
   |lit b=>rw[ae]at h;exact h.elim| mN=>rw[ae]at h;exact h.elim
 case build t ps=>
  have U:=Mb (ρ:=ρ) (jE:=jE) (xs:=ps.toList) λy aA=>iV y (by simpa[Op.operands]using aA);simp only[cE,U]at h |-;exact h
 case makeFunc fn first captured=>
  have U:=w7 (ρ:=ρ) (jE:=jE) (xs:=first.toList) λy aA=>iV y (by simp only[Op.operands,Array.mem_append];exact .inl (by simpa using aA));have ab:=w7 (ρ:=ρ) (jE:=jE) (xs:=captured.toList) λy aA=>iV y (by simp only[Op.operands,Array.mem_append];exact .inr (by simpa using aA));simp only[cE,U,ab]at h |-;exact h
 case slice t x lo hi mx=>
  have U:=iV x (by simp[Op.operands]);have ab:lo.map (dH jE)=lo.map (dH ρ):=by
   cases lo with
   |none=>rfl| some y=>have:=iV y (by simp[Op.operands]);simp[dH,this]
  have ak:hi.map (dH jE)=hi.map (dH ρ):=by
   cases hi with
   |none=>rfl| some y=>have:=iV y (by simp[Op.operands]);simp[dH,this]
  simp only[cE,ab,ak,dH,U]at h |-;exact h
 case call c=>
  obtain⟨callee,args,argTypes⟩:=c;cases callee with
  |value f=>exact h| invoke r m=>exact h
  |builtin b=>
   cases b
   case len=>
    have U:=w7 (ρ:=ρ) (jE:=jE) (xs:=args.toList) λy aA=>iV y (by simp[Op.operands,Call.operands];simpa using aA);simp only[cE,U]at h |-;exact h
   case cap=>
    have U:=w7 (ρ:=ρ) (jE:=jE) (xs:=args.toList) λy aA=>iV y (by simp[Op.operands,Call.operands];simpa using aA);simp only[cE,U]at h |-;exact h
   case max=>
    have U:=w7 (ρ:=ρ) (jE:=jE) (xs:=args.toList) λy aA=>iV y (by simp[Op.operands,Call.operands];simpa using aA);simp only[cE,U]at h |-;exact h
   case min=>
    have U:=w7 (ρ:=ρ) (jE:=jE) (xs:=args.toList) λy aA=>iV y (by simp[Op.operands,Call.operands];simpa using aA);simp only[cE,U]at h |-;exact h
   case unsafeSliceData=>
    have U:=w7 (ρ:=ρ) (jE:=jE) (xs:=args.toList) λy aA=>iV y (by simp[Op.operands,Call.operands];simpa using aA);simp only[cE,U]at h |-;exact h
   all_goals exact h
 all_goals first
  |exact h|(rename_i x;have U:=iV x (by simp[Op.operands]);simp only[cE,dH,U]at h |-;exact h)|(rename_i x y;have U:=iV x (by simp[Op.operands]);have ab:=iV y (by simp[Op.operands]);simp only[cE,dH,U,ab]at h |-;exact h)|(rename_i x y z;have U:=iV x (by simp[Op.operands]);have ab:=iV y (by simp[Op.operands]);have ak:=iV z (by simp[Op.operands]);simp only[cE,dH,U,ab,ak]at h |-;exact h)|(rename_i x y;have U:=iV x (by simp[Op.operands]);simp only[cE,dH,U]at h |-;exact h)|(rename_i x y;have U:=iV y (by simp[Op.operands]);simp only[cE,dH,U]at h |-;exact h)|(rename_i x y z;have U:=iV x (by simp[Op.operands]);have ab:=iV y (by simp[Op.operands]);simp only[cE,dH,U,ab]at h |-;exact h)|(rename_i x y z;have U:=iV y (by simp[Op.operands]);have ab:=iV z (by simp[Op.operands]);simp only[cE,dH,U,ab]at h |-;exact h)|(rename_i o x y z u;have U:=iV y (by simp[Op.operands]);have ab:=iV z (by simp[Op.operands]);simp only[cE,dH,U,ab]at h |-;exact h)|(rename_i x y z u;have U:=iV z (by simp[Op.operands]);have ab:=iV y (by simp[Op.operands]);simp only[cE,dH,U,ab]at h |-;exact h)
end
section
variable{X:cO}{C:c8}{I:aT}{M:List aD}
def adf{op:BinOp}{dr:Option dW}{x y:de}{V:Value->Prop}{O:Prop}(h:k6 op dr x y V O) :
  (∃ r,V r/\∀ qx,k6 op dr x y (λz=>z=r) qx)\/(O/\∀ (Mc:Value->Prop) (qx:Prop),qx->k6 op dr x y Mc qx):=by
 unfold k6 at h;split at h
 ·left
  split at h;·obtain⟨j,aj,⟨r,ag,af⟩⟩:=h;exact⟨_,af,λqx=>by unfold k6;exact⟨j,aj,⟨r,ag,rfl⟩⟩⟩
  ·obtain⟨j,aj,af⟩:=h;exact⟨_,af,λqx=>by unfold k6;exact⟨j,aj,rfl⟩⟩
  ·rename_i _ _ k a eQ b _ eu iR;cases e6:IntKind.l' k eQ with
   |false=>rw[e6]at h;exact h.elim
   |true=>
    rw[e6]at h;simp only[bt]at h;cases op<;>simp only at h
    case add=>obtain⟨r,ag,af⟩:=h;exact⟨_,af,λqx=>by simp only[k6,e6,bt];exact⟨r,ag,rfl⟩⟩
    case sub=>obtain⟨r,ag,af⟩:=h;exact⟨_,af,λqx=>by simp only[k6,e6,bt];exact⟨r,ag,rfl⟩⟩
    case mul=>obtain⟨r,ag,af⟩:=h;exact⟨_,af,λqx=>by simp only[k6,e6,bt];exact⟨r,ag,rfl⟩⟩
    case quo=>obtain⟨av,⟨r,ag,af⟩⟩:=h;exact⟨_,af,λqx=>by simp only[k6,e6,bt];exact⟨av,⟨r,ag,rfl⟩⟩⟩
    case rem=>obtain⟨av,af⟩:=h;exact⟨_,af,λqx=>by simp only[k6,e6,bt];first | exact⟨av,rfl⟩ | exact⟨av,trivial⟩⟩
    case shl=>exact(eu rfl).elim
    case shr=>exact(iR rfl).elim
    all_goals exact⟨_,h,λqx=>by simp only[k6,e6,bt];rfl⟩
 ·cases op<;>first
  |exact .inl ⟨_,h,λ_=>rfl⟩| exact .inr ⟨h,λ_ _ aP=>aP⟩
 ·split at h
  ·cases op<;>first
   |exact .inl ⟨_,h,λ_=>rfl⟩| exact .inr ⟨h,λ_ _ aP=>aP⟩
  ·rename_i az;refine .inr ⟨h,λMc qx aP=>?_⟩;cases dr with
   |none=>exact aP
   |some i=>
    obtain⟨s,b,z,bH⟩:=i;cases bH<;>first
     |exact aP| exact(az _ _ _ rfl).elim
 ·rename_i U ab ak;refine .inr ⟨h,λMc qx aP=>?_⟩;unfold k6;split<;>first
   |exact aP| exact(U _ _ _ _ rfl rfl).elim| exact(ab _ _ rfl rfl).elim| exact(ak _ _ rfl rfl).elim
def adg{ρ:Operand->de}{V:de->Prop}(h:cE X op ρ C I M V False):∃ x,V x/\cE X op ρ C I M (λy=>y=x) False:=by
 cases op
 case move x=>exact⟨_,h,rfl⟩
 case assign x=>exact⟨_,h,rfl⟩
 case pick c p q=>
  simp only[cE]at h |-;split at h;·exact⟨_,h,rfl⟩
  ·exact⟨_,h,rfl⟩
  ·exact h.elim
 case unOp op t x=>
  simp only[cE]at h |-;split at h;·exact⟨_,h,rfl⟩
  ·exact⟨_,h,rfl⟩
  ·obtain⟨r,ag,af⟩:=h;exact⟨_,af,⟨r,ag,rfl⟩⟩
  ·exact h.elim
 case binOp op t x y ty=>
  simp only[cE]at h |-;rcases adf h with⟨r,U,ab⟩ | ⟨⟨z9,fB,r,aN,a0,ag,af⟩ | U,ab⟩
  ·refine⟨_,U,?_⟩;have:(λv=>de.val v=de.val r)=(λz=>z=r):=by funext v;simp
   rw[this];exact ab _
  ·exact⟨_,af,ab _ _ (.mk z9 fB r aN a0 ag rfl)⟩
  ·exact U.elim
 case load t x=>
  simp only[cE]at h |-;split at h
  ·split at h
   ·split at h
    ·rename_i i hi _ s off ar _ cs aC;cases hle:Nat.ble (off+i.size) cs.length with
     |false=>rw[hle]at h;exact h.elim| true=>rw[hle]at h;exact⟨_,h,rfl⟩
    ·exact h.elim
   ·obtain⟨vs,ag,af⟩:=h;exact⟨_,af,⟨vs,ag,rfl⟩⟩
   ·exact h.elim
  ·exact h.elim
 case nilCheck x=>
  simp only[cE]at h |-;split at h;·exact⟨_,h,rfl⟩
  ·exact⟨_,h,rfl⟩
  ·exact h.elim
 case fieldAddr t x i=>
  simp only[cE]at h |-;split at h
  ·split at h
   ·split at h
    ·rename_i g1 s o' mQ ae;cases a2:Nat.beq g1.size 0 with
     |true=>rw[a2]at h;exact h.elim| false=>rw[a2]at h;exact⟨_,h,rfl⟩
    ·rename_i g1 s mQ ae;cases a2:Nat.beq g1.size 0 with
     |true=>rw[a2]at h;exact h.elim| false=>rw[a2]at h;exact⟨_,h,rfl⟩
    ·exact h.elim
   ·exact h.elim
  ·exact h.elim
 case field t x i=>
  simp only[cE]at h |-;split at h
  ·split at h
   ·split at h
    ·rename_i sz iP z cC cs aq ae _ l9 off k7 _ g1 mQ;cases hle:Nat.ble (off+g1.size) cs.size with
     |false=>rw[hle]at h;exact h.elim| true=>rw[hle]at h;exact⟨_,h,rfl⟩
    ·exact h.elim
   ·exact h.elim
  ·exact h.elim
 case indexAddr t x i=>
  simp only[cE]at h |-;split at h
  ·split at h
   ·obtain⟨ad,j,U,ab,ak,af⟩:=h;exact⟨_,af,⟨ad,j,U,ab,ak,rfl⟩⟩
   ·exact h.elim
  ·split at h
   ·obtain⟨j,ab,ak,af⟩:=h;exact⟨_,af,⟨j,ab,ak,rfl⟩⟩
   ·obtain⟨j,ab,ak,af⟩:=h;exact⟨_,af,⟨j,ab,ak,rfl⟩⟩
   ·exact h.elim
  ·exact h.elim
 case index t x i=>
  simp only[cE]at h |-;split at h;·obtain⟨j,ab,ak,af⟩:=h;exact⟨_,af,⟨j,ab,ak,rfl⟩⟩
  ·split at h
   ·rename_i n e cs gu k aq ae hi _ aO hz;cases a2:Nat.beq (n*aO.size) cs.size with
    |false=>rw[a2]at h;exact h.elim| true=>rw[a2]at h;obtain⟨j,ab,ak,af⟩:=h;exact⟨_,af,⟨j,ab,ak,rfl⟩⟩
   ·exact h.elim
  ·exact h.elim
 case build t ps=>
  simp only[cE]at h |-;split at h
  ·split at h
   ·rename_i i vs aq ib _ cC nn;cases aN:Co X.E cC with
    |false=>rw[aN]at h;exact h.elim
    |true=>
     rw[aN]at h;simp only[bt]at h |-;split at h;·exact⟨_,h,rfl⟩
     ·exact h.elim
   ·split at h
    ·split at h
     ·exact⟨_,h,rfl⟩
     ·exact h.elim
    ·exact h.elim
   ·exact h.elim
  ·exact h.elim
 case makeFunc fn first captured=>
  simp only[cE]at h |-;split at h;·exact⟨_,h,rfl⟩
  ·exact h.elim
 case slice t x lo hi mx=>
  simp only[cE]at h |-;split at h
  ·split at h
   ·exact⟨_,h,rfl⟩
   ·obtain⟨l,m,U,ab,ak,aL,af⟩:=h;exact⟨_,af,⟨l,m,U,ab,ak,aL,rfl⟩⟩
   ·obtain⟨l,m,U,ab,ak,aL,af⟩:=h;exact⟨_,af,⟨l,m,U,ab,ak,aL,rfl⟩⟩
   ·obtain⟨l,m,U,ab,ak,aL,af⟩:=h;exact⟨_,af,⟨l,m,U,ab,ak,aL,rfl⟩⟩
   ·exact h.elim
  ·split at h
   ·exact⟨_,h,rfl⟩
   ·obtain⟨l,m,U,ab,ak,aL,af⟩:=h;exact⟨_,af,⟨l,m,U,ab,ak,aL,rfl⟩⟩
   ·obtain⟨l,m,U,ab,ak,aL,af⟩:=h;exact⟨_,af,⟨l,m,U,ab,ak,aL,rfl⟩⟩
   ·obtain⟨l,m,U,ab,ak,aL,af⟩:=h;exact⟨_,af,⟨l,m,U,ab,ak,aL,rfl⟩⟩
   ·exact h.elim
  ·exact h.elim
 case extract x i=>
  simp only[cE]at h |-;split at h
  ·split at h
   ·exact⟨_,h,rfl⟩
   ·exact h.elim
  ·exact h.elim
 case convert s d x=>
  simp only[cE]at h |-;split at h;·obtain⟨r,ag,af⟩:=h;exact⟨_,af,⟨r,ag,rfl⟩⟩
  ·exact h.elim
 case call c=>
  obtain⟨callee,args,argTypes⟩:=c;cases callee with
  |value f=>exact h.elim| invoke r m=>exact h.elim
  |builtin b=>
   cases b
   case len=>
    simp only[cE]at h |-;split at h
    ·split at h
     ·exact⟨_,h,rfl⟩
     ·exact⟨_,h,rfl⟩
     ·exact⟨_,h,rfl⟩
     ·exact h.elim
    ·exact h.elim
   case cap=>
    simp only[cE]at h |-;split at h
    ·split at h
     ·exact⟨_,h,rfl⟩
     ·exact h.elim
    ·exact h.elim
   case max=>
    simp only[cE]at h |-;split at h;·exact⟨_,h,rfl⟩
    ·exact h.elim
   case min=>
    simp only[cE]at h |-;split at h;·exact⟨_,h,rfl⟩
    ·exact h.elim
   case unsafeSliceData=>
    simp only[cE]at h |-;split at h;·exact⟨_,h,rfl⟩
    ·obtain⟨U,ab⟩:=h;exact⟨_,ab,⟨U,rfl⟩⟩
    ·exact h.elim
   all_goals exact h.elim
 all_goals exact h.elim
end
def h'.mono{I I':aT}{M M':List aD}{b:Nat}{o:Obj}(h:h' I M b o)(cg:∀ b o,I b=some o->I' b=some o)(aV:∀ x∈M,x∈M'):h' I' M' b o:=by
 rcases h with h | ⟨x,ae,U,ab⟩
 ·exact .inl (cg _ _ h)
 ·exact .inr ⟨x,aV x ae,U,ab⟩
def h'.move{I I':aT}{M M':List aD}{b:Nat}{o:Obj}(h:h' I M b o)(cg:∀ b o,I b=some o->I' b=some o)(aV:∀ x∈M,I' x.num=some x.obj\/x∈M'):h' I' M' b o:=by
 rcases h with h | ⟨x,ae,rfl,rfl⟩
 ·exact .inl (cg _ _ h)
 ·rcases aV x ae with h | h
  ·exact .inl h
  ·exact .inr ⟨x,h,rfl,rfl⟩
def adh(F:Fr)(op:Op)(C C':c8)(I I':aT)(M M':List aD):Prop:=(∀ t x y s off,op=.store t x y->df F x=.ref s off->((∀ b3,b3≠s->C' b3=C b3)/\∀ b o,I b=some o->I' b=some o)/\∀ b o,h' I M b o->h' I' M' b o)/\(∀ t x y ad,op=.store t x y->df F x=.val (.pointer (some ad))->C'=C/\∀ b o,I b=some o->I' b=some o)/\((∀ t x y,op≠.store t x y)->C'=C/\∀ b o,I b=some o->I' b=some o)
def adi(X:cO)(β:Nat->Nat)(G F:Fr)(C:c8)(I:aT)(M:List aD)(adj:Bool)(op:Op)(dst:Option Nat)(a:Act)(K:fZ)(ch:Act)(w':World):Prop:=
 ∃ v x C' I' M',ch=a.put dst v/\eI β x v/\cP X β a w' G C' I' M'/\K (put dst x F) C' I' M'/\((adj=true/\adh F op C C' I I' M M')\/(C'=C/\(∀ b o,I b=some o->I' b=some o)/\∀ b o,h' I M b o->h' I' M' b o))
def adk{X:cO}{β:Nat->Nat}{F G:Fr}{C:c8}{I:aT}{M:List aD}{o:Oper}{K:fZ}{soft:Bool}(aR:cX X.P X.E)
  (h:cP X β a w G C I M) (oK:∀ y∈o.op.operands,df G y=df F y) (ai:vf X false soft o F C I M K):o.wpIn (gG X) 0 X.P a w (adi X β G F C I M soft o.op o.dst a K) Q:=by
 obtain⟨dst,op,ty,pos,after,guard⟩:=o;have au:=h.an;have n2:∀ {y:Operand} {v:Value},y∈op.operands->bY F y=.val v->a.eval y=v:=fun {y v} aA he=>dx au (by simp only[bY,dH,oK y aA];exact he);cases op
 case alloc t=>
  simp only[vf,bz]at ai;split at ai
  ·rename_i d i hi;obtain⟨z,a2,w4⟩:=(aR _ _ hi).EM w;have Cs:z.cells=i.zero.toArray:=by rw[<-w4]
   obtain⟨ai⟩:=ai;have af:=ai w.heap.size h.holds.rq h.holds.qq;refine j3 (by simp) (v:=.pointer (some ⟨w.heap.size,0,none⟩)) (w':=w.alloc (.cells i.zero.toArray t (0,0))) ?_ ⟨_,.val _,_,_,_,rfl,rfl,h.pu _,af,.inr ⟨rfl,λ_ _ h=>h,λb o ah=>ah.mono (λ_ _ h=>h) (λx ae=>by simp[ae])⟩⟩;simp[execOp,Instr.alloc,newVar,newRow,a2,Cs,z6]
  ·exact ai.elim
 case store t x y=>
  simp only[vf,bz]at ai;cases soft with
  |false=>exact ai.elim
  |true=>
   simp only[bt,hM]at ai;split at ai
   ·rename_i i v hi aA;have vd:=n2 (by simp[Op.operands]) aA;split at ai
    ·rename_i s off ae;have kD:=z' au ((oK x (by simp[Op.operands])).trans ae);split at ai
     ·rename_i cs ar;cases hle:(Nat.ble (off+i.size) cs.length&&(Nat.beq v.cells.size i.size&&gh v.cells.toList))with
      |false=>rw[hle]at ai;exact ai.elim
      |true=>
       rw[hle]at ai;simp only[b']at hle;obtain⟨hle,cQ,ma⟩:=hle;have vb:=b9 hle;have Ah:=dD cQ;obtain⟨T,bA⟩:=(h.cf s cs ar).at_;have:=Ih (aR _ _ hi) (a:=⟨β s,off,none⟩) (v:=v) rfl bA Ah (by simp;omega) ma;refine Cp (by simp) (w':=w.setRow (β s) (bG cs off v.cells.toList).toArray) ?_ ⟨undef,.mN,_,_,_,rfl,trivial,h.SA ar (bG cs off v.cells.toList),ai,.inl ⟨rfl,λbh jz S6 b3 Ie aF a7=>(by
        cases aF;rw[ae]at a7;cases a7;refine⟨⟨λs2 bB=>?_,λ_ _ h=>h⟩,λ_ _ h=>h⟩;unfold iQ;rw[hx bB];rfl),λbh jz S6 yt aF a7=>(by
        cases aF;rw[ae]at a7;cases a7),λvi=>absurd rfl (vi _ _ _)⟩⟩
       simp only[execOp,Instr.storeAt,kD,vd,Instr.sureAddr,b8,c3,bU];simp only[Cj]at this;rw[this];rfl
     ·exact ai.elim
    ·rename_i ad ae;have kD:=tw au ((oK x (by simp[Op.operands])).trans ae);cases cQ:Nat.beq v.cells.size i.size with
     |false=>rw[cQ]at ai;exact ai.elim| true=>rw[cQ]at ai;obtain⟨pre,post,cs,T,aV,c4,ah,ma,af⟩:=ai;have Ah:=dD cQ;have ao:w.heap[ad.block]?=some (.cells cs T (0,0)):=h.holds.m ⟨ad.block,.cells cs T (0,0)⟩ (by rw[aV];simp);have:=Ih (aR _ _ hi) (v:=v) c4 ao Ah ah ma;refine Cp (by simp) (w':=w.setRow ad.block (bG cs.toList ad.off v.cells.toList).toArray) ?_ ⟨undef,.mN,_,_,_,rfl,trivial,h.yi aV,af,.inl ⟨rfl,λbh jz S6 b3 Ie aF a7=>(by cases aF;rw[ae]at a7;cases a7),λ_ _ _ _ _ _=>⟨rfl,λ_ _ h=>h⟩,λvi=>absurd rfl (vi _ _ _)⟩⟩;simp only[execOp,Instr.storeAt,kD,vd,Instr.sureAddr,b8,c3,bU];rw[this];rfl
    ·exact ai.elim
   ·exact ai.elim
 case buildSlice t len parts=>
  simp only[vf,bz,hM]at ai;have adl:z8 G parts.toList=z8 F parts.toList:=Mb λy aA=>oK y (by simpa[Op.operands]using aA);rw[<-adl]at ai;split at ai
  ·rename_i sz iP z e vs aq ib;have hu:=(aR _ _ aq).slice;have aN:=Ib au ib;have pz:(parts.map λ(i,x)=>(i,a.eval x)).toList=vs:=by simpa using aN
   split at ai
   ·rename_i aO hz;cases a2:(Nat.ble (len*aO.size) 16777216&&Nat.blt 0 (len*aO.size))with
    |false=>
     rw[a2]at ai;simp only[bz]at ai;split at ai
     ·rename_i acO;obtain⟨ai⟩:=ai;have af:=ai w.heap.size h.holds.rq h.holds.qq;refine j3 (by simp) (v:=.slice (some ⟨w.heap.size,0,none⟩) 0 0) (w':=w.alloc (.cells #[] e (0,0))) ?_ ⟨_,.val _,_,_,_,rfl,rfl,h.pu _,af,.inr ⟨rfl,λ_ _ h=>h,λb o ah=>ah.mono (λ_ _ h=>h) (λx ae=>by simp[ae])⟩⟩;simp only[execOp,Instr.buildSlice,b8,bU,run_underlying hu,(aR _ _ hz).run_sizeOf,pz];have c9:∀ f:Nat->Value,Array.map f (Array.range 0)=#[]:=λf=>by apply Array.ext<;>simp
      simp[newRow,z6,Instr.fill,c9]
     ·exact ai.elim
    |true=>
     rw[a2]at ai;simp only[bt]at ai;rw[b']at a2;have hle:=b9 a2.1;have g2:0<len*aO.size:=by simpa using a2.2
     split at ai;·rename_i cells Ad;obtain⟨sE,Ai,w4⟩:=(aR _ _ hz).EM w;obtain⟨ai⟩:=ai;have af:=ai w.heap.size h.holds.rq h.holds.qq;refine j3 (by simp) (v:=.slice (some ⟨w.heap.size,0,none⟩) len len) (w':=w.alloc (.cells cells.toArray e (0,0))) ?_ ⟨_,.val _,_,_,_,rfl,rfl,h.pu _,af,.inr ⟨rfl,λ_ _ h=>h,λb o ah=>ah.mono (λ_ _ h=>h) (λx ae=>by simp[ae])⟩⟩;have vc:=fill_eq _ _ _ _ Ad;simp only[execOp,Instr.buildSlice,b8,bU,run_underlying hu,(aR _ _ hz).run_sizeOf];rw[cB (by omega)];simp only[cB (show ¬ len*aO.size=0 by omega),b8,Ai,bU,c3,pz,SI sE aO.zero w4,vc];simp[newRow,z6]
     ·exact ai.elim
   ·exact ai.elim
  ·exact ai.elim
 case makeSlice t l c=>
  simp only[vf,bz,hM]at ai;split at ai
  ·rename_i sz iP z e eN dy ej c' aq ay aC;have hu:=(aR _ _ aq).slice;have hY:=n2 (by simp[Op.operands]) ay;have adm:=n2 (by simp[Op.operands]) aC;split at ai
   ·rename_i aO hz;obtain⟨n,m,rfl,rfl,jh,ah,hm,⟨ai⟩⟩:=ai;have af:=ai w.heap.size h.holds.rq h.holds.qq;obtain⟨inf,sE,e3,hA,hB,kg,tA⟩:=(aR _ _ hz).inf;refine j3 (by simp) (v:=.slice (some ⟨w.heap.size,0,none⟩) n m) (w':=w.alloc (.cells (rowOf aO.zero (m*aO.size)).toArray e (0,0))) ?_ ⟨_,.val _,_,_,_,rfl,rfl,h.pu _,af,.inr ⟨rfl,λ_ _ h=>h,λb o ah=>ah.mono (λ_ _ h=>h) (λx ae=>by simp[ae])⟩⟩;have hc:((aO.bytes:Nat):Int)*(m:Int)<=281474976710656:=by
     have ab:((aO.bytes*m:Nat):Int)<=281474976710656:=by omega
     simpa using ab
    have:=run_make (P:=X.P) w t e inf sE hu e3 kg eN ej (n:Int) (m:Int) (by omega) (by omega) (by rw[hB];exact hc) (by omega);simp only[execOp,hY,adm,b8,this,bU,c3,lz];have aF:madeCells sE.cells (m*inf.size)=(rowOf aO.zero (m*aO.size)).toArray:=by rw[hA,<-tA];simp[w0]
    rw[aF]
   ·exact ai.elim
  ·exact ai.elim
 case call c=>
  obtain⟨callee,args,argTypes⟩:=c;cases callee with
  |value f=>
   simp only[vf,bz]at ai;split at ai
   ·rename_i g first cap vs yk ib
    have adn:l8 G args.toList=some vs:=by rw[<-ib];exact w7 λy aA=>oK y (by simp only[Op.operands,Call.operands];simp;right;simpa using aA)
    have ado:=n2 (by simp[Op.operands,Call.operands]) yk;obtain⟨bR,ez,Mr,post,adp,bK,ar,af⟩:=ai.elim ⟨h.holds.d,h.holds.bE⟩;have aF:=sB au adn;have dZ:args.map a.eval=vs.toArray:=by apply gF;simpa using aF
    have fm:∀ {n:Next} {w':World},(callFunc g (first.toList++vs++cap.toList).toArray).run X.P w=.ok n w'->(execOp a.eval ⟨dst,.call { callee:=.value f,args,argTypes },ty,pos,after,guard⟩).run X.P w=.ok n w':=λag=>by simp only[execOp,resolve,ado,Deferred.ofValue,b8,c3,bU,dZ,invoke];rw[show first++vs.toArray++cap=(first.toList++vs++cap.toList).toArray from by apply gF;simp];exact ag
    rcases h.call (KC:=λv I' M'=>(∀ b o,I b=some o->I' b=some o)/\(∀ x∈M,I' x.num=some x.obj\/x∈M')/\K (Go.V.put dst (.val v) F) C I' M') (.EK bR ez Mr post adp ar λv I' M' hle al aN=>⟨λb o ah=>hle _ _ (bK _ _ ah),(af v I' M' hle al aN).1,(af v I' M' hle al aN).2⟩)with⟨py,Aj⟩ | ⟨v,w',I',M',ag,⟨U,ab,af⟩,gP⟩;·refine SH (by simp) (f:=g) (args:=(first.toList++vs++cap.toList).toArray) (fm (py _ _)) ?_;refine Aj.mono ?_;rintro e w'⟨v,I',M',rfl,⟨U,ab,af⟩,ag⟩;exact⟨v,rfl,v,.val v,C,I',M',rfl,rfl,ag,af,.inr ⟨rfl,U,λb o ah=>ah.move U ab⟩⟩
    ·exact j3 (by simp) (fm ag) ⟨v,.val v,C,I',M',rfl,rfl,gP,af,.inr ⟨rfl,U,λb o ah=>ah.move U ab⟩⟩
   ·exact ai.elim
  |invoke r m=>exact ai.elim
  |builtin b=>
   cases b
   case append=>
    simp only[vf,bz]at ai;cases soft with
    |false=>exact ai.elim| true=>simp only[bt]at ai;obtain⟨ai⟩:=ai G oK;refine st (λch w'=>?_) (ai β a w Q h);rintro⟨v,x,I',M',U,ab,ak,aL,Md⟩;exact⟨v,x,C,I',M',U,ab,ak,aL,.inl ⟨rfl,⟨λt x y s off e _=>(by cases e),λt x y ad e _=>(by cases e),λ_=>⟨rfl,λb o h=>by rw[Md];exact h⟩⟩⟩⟩
   case copy=>
    simp only[vf,bz]at ai;cases soft with
    |false=>exact ai.elim| true=>simp only[bt]at ai;obtain⟨ai⟩:=ai G oK;refine st (λch w'=>?_) (ai β a w Q h);rintro⟨v,x,I',M',U,ab,ak,aL,Md⟩;exact⟨v,x,C,I',M',U,ab,ak,aL,.inl ⟨rfl,⟨λt x y s off e _=>(by cases e),λt x y ad e _=>(by cases e),λ_=>⟨rfl,λb o h=>by rw[Md];exact h⟩⟩⟩⟩
   all_goals exact ai.elim
 all_goals exact ai.elim
def sH(x y:de):Prop:=∀ β u,eI β x u->eI β y u
def sH.refl(x:de):sH x x:=λ_ _ h=>h
def sH.trans{x y z:de}(h:sH x y)(aG:sH y z):sH x z:=fun β u hu=>aG β u (h β u hu)
structure vj(ops:List Oper):Prop where
 lt:∀ j e,mf ops j e->e<j
 own:∀ (j:Nat) (o:Oper) (d:Nat),ops[j]?=some o->o.dst=some d->d ∉ looks ops o
 Me:∀ (i j:Nat) (fg me:Oper) (d:Nat),i≠j->ops[i]?=some fg->ops[j]?=some me->fg.dst=some d->me.dst≠some d
 ord:∀ (i j:Nat) (fg me:Oper) (d:Nat),i≠j->ops[i]?=some fg->ops[j]?=some me->fg.dst=some d->d∈looks ops me->oJ ops i j\/oJ ops j i
def S7(h:Am ops=true):vj ops:=by
 have key:∀ (j:Nat) (me:Oper),ops[j]?=some me->_:=λj me aj=>by have ax:j<ops.length:=(iO.1 aj).1;have U:=et.1 h j (kf.2 ax);simp only[aj,b']at U;exact U
 refine⟨?_,?_,?_,?_⟩
 ·rintro j e⟨o,kh,aP,qy,ah,rfl⟩;have U:=et.1 (key j o aP).1 kh (by simpa using qy);rw[ah]at U;simpa using U
 ·intro j o d aP al;have U:=(key j o aP).2.1;rw[al]at U;simpa using U
 ·intro i j fg me d bB hi aj al ie;have ax:i<ops.length:=(iO.1 hi).1;have U:=et.1 (key j me aj).2.2 i (kf.2 ax);rw[hx bB]at U;simp only[hi,al,mL,b']at U;rw[ie]at U;simp at U
 ·intro i j fg me d bB hi aj al ay;have ax:i<ops.length:=(iO.1 hi).1;have U:=et.1 (key j me aj).2.2 i (kf.2 ax);rw[hx bB]at U;simp only[hi,al,mL,b',j0]at U;rcases U.2 with ab | ab | ab
  ·have:(looks ops me).contains d=true:=by simpa using ay
   rw[this]at ab;cases ab
  ·exact .inl (ys ab)
  ·exact .inr (ys ab)
def iy(ops:List Oper)(i:Nat):Option Nat:=(ops[i]?).bind (·.dst)
def ki(L:Nat->Prop)(p i:Nat):Prop:=p.testBit i=true/\¬ L i
def yu(ops:List Oper)(o:Oper)(F:Fr):Prop:=match o.guard with
 |none=>True| some (j,b)=>∃ d,iy ops j=some d/\F d=.lit b
def Iw(ops:List Oper)(o:Oper)(F:Fr):Prop:=∃ j b d,o.guard=some (j,b)/\iy ops j=some d/\(F d=.lit (!b)\/∃ vs,F d=.val (.tuple vs))
def Mf{o:Oper}{j d:Nat}{b:Bool}(ao:o.guard=some (j,b))(al:iy ops j=some d):d∈looks ops o:=by unfold looks Oper.looksAt;refine ly _ ?_;rw[ao];simp only[Option.mem_toList];simpa[iy]using al
def Mg{o:Oper}{t:Nat}(h:Operand.tmp t∈o.op.operands):t∈looks ops o:=
 gM _ (List.mem_filterMap.2 ⟨.tmp t,by simpa using h,rfl⟩)
def S8{o:Oper}{F:Fr}{β:Nat->Nat}(h:yu ops o F)(bs:∀ t∈looks ops o,eI β (F t) (a.tmps.getD t undef)):Region.wanted o (yielded ops.toArray a.tmps)=true:=by
 unfold yu at h;unfold Region.wanted;cases ao:o.guard with
 |none=>rfl| some EQ=>obtain⟨j,b⟩:=EQ;rw[ao]at h;obtain⟨d,al,ay⟩:=h;have U:=bs d (Mf ao al);rw[ay]at U;have aA:=EP (ops:=ops.toArray) (j:=j) (d:=d) (by simpa[iy]using al) a.tmps;simp[aA,Cv U]
def S9{o:Oper}{F:Fr}{β:Nat->Nat}(h:Iw ops o F)(bs:∀ t∈looks ops o,eI β (F t) (a.tmps.getD t undef)):Region.wanted o (yielded ops.toArray a.tmps)=false:=by
 obtain⟨j,b,d,ao,al,ay⟩:=h;unfold Region.wanted;have U:=bs d (Mf ao al);have aA:=EP (ops:=ops.toArray) (j:=j) (d:=d) (by simpa[iy]using al) a.tmps;rw[ao];rcases ay with ay | ⟨vs,ay⟩
 ·rw[ay]at U;simp[aA,Cv U]
 ·rw[ay]at U;have Ak:yielded ops.toArray a.tmps j=none:=by
   rw[aA];cases mb:a.tmps[d]? with
   |none=>rfl| some v=>simp only[eI,oF,mb,je]at U;subst U;rfl
  simp[Ak]
def S'{o:Oper}{F:Fr}{run skip:Fr->Prop}(h:Iu ops o F run skip):∃ kG,(∀ t,sH (F t) (kG t))/\((yu ops o kG/\run kG)\/(Iw ops o kG/\skip kG)):=by
 unfold Iu at h;cases ao:o.guard with
 |none=>rw[ao]at h;exact⟨F,λt=>.refl _,.inl ⟨by simp[yu,ao],h⟩⟩
 |some EQ=>
  obtain⟨j,b⟩:=EQ;rw[ao]at h;simp only at h;split at h;·exact h.elim
  ·rename_i d al;have ie:iy ops j=some d:=al;split at h
   ·rename_i c aC;refine⟨F,λt=>.refl _,?_⟩;cases iU:(c == b)with
    |true=>
     rw[iU]at h;have iU:c=b:=by simpa using iU
     subst iU;exact .inl ⟨by simp only[yu,ao];exact⟨d,ie,aC⟩,h⟩
    |false=>
     rw[iU]at h;have Ix:c=!b:=by cases c<;>cases b<;>simp_all
     subst Ix;exact .inr ⟨⟨j,b,d,ao,ie,.inl aC⟩,h⟩
   ·rename_i c aC;obtain⟨U,ab⟩:=h;have hj:∀ x,c=x->∀ t,sH (F t) (fA F d (.lit x) t):=λx ae t=>by
     unfold fA;by_cases e:t=d;·subst e;subst ae;simp only[qp,bt,aC];exact λ_ _ h=>h
     ·simp only[hx e,bz];exact .refl _
    have self:∀ x,fA F d (.lit x) d=.lit x:=λx=>by simp[fA]
    by_cases iU:c=b;·exact⟨_,hj b iU,.inl ⟨by simp only[yu,ao];exact⟨d,ie,self b⟩,U iU⟩⟩
    ·have Ix:c=!b:=by cases c<;>cases b<;>simp_all
     exact⟨_,hj _ Ix,.inr ⟨⟨j,b,d,ao,ie,.inl (self _)⟩,ab Ix⟩⟩
   ·rename_i vs aC;exact⟨F,λt=>.refl _,.inr ⟨⟨j,b,d,ao,ie,.inr ⟨vs,aC⟩⟩,h⟩⟩
   ·exact h.elim
structure adq(X:cO)(ops:List Oper)(im':Nat->Bool)(L:Nat->Prop)(p:Nat)(cf:List (Nat×Nat))(β:Nat->Nat)(a:Act)(F:Fr)(C:c8)(I:aT)(M:List aD)(hd:Nat->de)(gj:Nat->Fr)(q:Nat)(o:Oper):Prop where
 quiet:Cz o.op=true
 hj:∀ d,o.dst=some d->sH (hd q) (F d)
 b:∀ t∈looks ops o,∀ i,ki L p i->oJ ops i q->iy ops i=some t->sH (hd i) (gj q t)
 a:∀ t∈looks ops o,(∀ i,ki L p i->oJ ops i q->iy ops i≠some t)->eI β (gj q t) (a.tmps.getD t undef)
 r:(yu ops o (gj q)/\cE X o.op (df (gj q)) C I (vg (im' q) M) (λx=>x=hd q) False/\∀ t x,o.op=.load t x->(q,Iv (df (gj q) x))∈cf)\/(Iw ops o (gj q)/\hd q=.val undef)
structure Inv(X:cO)(ops:List Oper)(im':Nat->Bool)(L:Nat->Prop)(β:Nat->Nat)(a:Act)(w:World)(F:Fr)(C:c8)(I:aT)(M:List aD)(p:Nat)(cf:List (Nat×Nat))(hd:Nat->de)(gj:Nat->Fr):Prop where
 rel:cP X β a w (λ_=>.mN) C I M
 sub:∀ i,L i->p.testBit i=true
 vk:An ops L
 qz:An ops (λi=>p.testBit i=true)
 T:∀ t,(∀ i,ki L p i->iy ops i≠some t)->eI β (F t) (a.tmps.getD t undef)
 yv:∀ q,ki L p q->∃ o,ops[q]?=some o/\adq X ops im' L p cf β a F C I M hd gj q o
def mg{p q i:Nat}:(p ||| 2^q).testBit i=true ↔ p.testBit i=true\/i=q:=by simp only[H7,j0,ED,fk];exact⟨λh=>h.imp id Eq.symm,λh=>h.imp id Eq.symm⟩
section
variable{X:cO}{ops:List Oper}{im':Nat->Bool}{L:Nat->Prop}{β:Nat->Nat}{a:Act}{w:World}{F:Fr}{C:c8}{I:aT}{M:List aD}{p:Nat}{cf:List (Nat×Nat)}{hd:Nat->de}{gj:Nat->Fr}{q:Nat}{o:Oper}
def E4(h:ops[q]?=some o):iy ops q=o.dst:=by simp[iy,h]
def E5{i d:Nat}(h:iy ops i=some d):∃ fg,ops[i]?=some fg/\fg.dst=some d:=by unfold iy at h;exact LR.1 h
def Inv.ahead(dn:vj ops)(Ta:An ops (λi=>p.testBit i=true))(a0:ops[q]?=some o)(kH:p.testBit q=false){i t:Nat}(hi:p.testBit i=true)(aq:t∈looks ops o)(al:iy ops i=some t):oJ ops i q:=by
 obtain⟨fg,hN,pE⟩:=E5 al;have bB:i≠q:=λe=>by rw[e,kH]at hi;cases hi
 rcases dn.ord i q fg o t bB hN a0 pE aq with h | h
 ·exact h
 ·have:=h.mem Ta (λe he=>Ta i e hi he);rw[kH]at this;cases this
def Inv.adr(dn:vj ops)(h:Inv X ops im' L β a w F C I M p cf hd gj)(a0:ops[q]?=some o)(kH:p.testBit q=false)(a3:∀ e,mf ops q e->L e):∀ t∈looks ops o,eI β (F t) (a.tmps.getD t undef):=λt aq=>h.T t λi hi al=>
 hi.2 ((Inv.ahead dn h.qz a0 kH hi.1 aq al).mem h.vk a3)
def Iy{x:de}{t:Nat}(h:dst≠some t):put dst x F t=F t:=by
 cases dst with
 |none=>rfl| some d=>have:t≠d:=λe=>h (by rw[e]);simp only[put,fA,hx this,bz]
def put_eq{x:de}{t:Nat}:put (some t) x F t=x:=by simp[put,fA]
def Iz{t:Nat}(h:dst≠some t):(a.put dst v).tmps.getD t undef=a.tmps.getD t undef:=by
 cases dst with
 |none=>rfl| some d=>have:d≠t:=λe=>h (by rw[e]);simp only[Act.put,oF,Ch,cB this]
def Mh{t:Nat}(h:t<a.tmps.size):(a.put (some t) v).tmps.getD t undef=v:=by rw[Sw a t t v h,cw rfl]
def Inv.record(dn:vj ops)(h:Inv X ops im' L β a w F C I M p cf hd gj)(a0:ops[q]?=some o)(kH:p.testBit q=false)(yr:∀ e,mf ops q e->p.testBit e=true)(IA:Cz o.op=true)
  {kG:Fr} (pF:∀ t,sH (F t) (kG t)) {x:de} {Mi:List (Nat×Nat)} (qw:∀ s∈cf,s∈Mi) (ag:(yu ops o kG/\cE X o.op (df kG) C I (vg (im' q) M) (λy=>y=x) False/\∀ t y,o.op=.load t y->(q,Iv (df kG y))∈Mi)\/(Iw ops o kG/\x=.val undef)) :
  Inv X ops im' L β a w (put o.dst x kG) C I M (p ||| 2^q) Mi (λi=>if i=q then x else hd i) (λi=>if i=q then kG else gj i):=by
 have qA:¬ L q:=λe=>by have:=h.sub q e;rw[kH]at this;cases this
 have pG:∀ {i},ki L (p ||| 2^q) i->i≠q->ki L p i:=λhi bB=>⟨(mg.1 hi.1).resolve_right bB,hi.2⟩;have w8:∀ {i},ki L p i->ki L (p ||| 2^q) i:=λhi=>⟨mg.2 (.inl hi.1),hi.2⟩;have ads:ki L (p ||| 2^q) q:=⟨mg.2 (.inr rfl),qA⟩;have adt:∀ {i},ki L p i->¬ oJ ops q i:=fun {i} hi ah=>by have:=ah.mem h.qz (λe he=>h.qz i e hi.1 he);rw[kH]at this;cases this
 refine⟨h.rel,λi hi=>mg.2 (.inl (h.sub i hi)),h.vk,?_,?_,?_⟩
 ·intro j e aj he;rcases mg.1 aj with aj | rfl
  ·exact mg.2 (.inl (h.qz j e aj he))
  ·exact mg.2 (.inl (yr e he))
 ·intro t aq;have U:o.dst≠some t:=λe=>aq q ads (by rw[E4 a0,e]);rw[Iy U];exact pF t _ _ (h.T t λi hi=>aq i (w8 hi))
 ·intro i hi;by_cases oL:i=q
  ·subst oL;refine⟨o,a0,⟨IA,?_,?_,?_,?_⟩⟩
   ·intro d al;rw[al,put_eq];simp only[cw];exact .refl _
   ·intro t aq j aj ah vl;have sI:j≠i:=λe=>by subst e;have:=ah.mem h.qz yr;rw[kH]at this;cases this
    simp only[cB sI,cw];obtain⟨me,adu,ry⟩:=h.yv j (pG aj sI);exact(ry.hj t (by rw[<-E4 adu];exact vl)).trans (pF t)
   ·intro t aq cm;simp only[cw];refine pF t _ _ (h.T t λj aj vl=>cm j (w8 aj) (Inv.ahead dn h.qz a0 kH aj.1 aq vl) vl)
   ·simpa using ag
  ·obtain⟨fg,hN,ry⟩:=h.yv i (pG hi oL);refine⟨fg,hN,⟨ry.quiet,?_,?_,?_,?_⟩⟩
   ·intro d al;simp only[cB oL];rw[Iy (dn.Me i q fg o d oL hN a0 al)];exact(ry.hj d al).trans (pF d)
   ·intro t aq j aj ah vl;have E6:j≠q:=λe=>by subst e;exact adt (pG hi oL) ah
    simp only[cB oL,cB E6];exact ry.b t aq j (pG aj E6) ah vl
   ·intro t aq cm;simp only[cB oL];exact ry.a t aq λj aj=>cm j (w8 aj)
   ·simp only[cB oL];exact ry.r.imp (λ⟨U,ab,ak⟩=>⟨U,ab,λt x aF=>qw _ (ak t x aF)⟩) id
def Inv.exec{yq:Act->World->Prop}(aR:cX X.P X.E)(dn:vj ops)(gw:∀ d,o.dst=some d->d<X.n)(h:Inv X ops im' L β a w F C I M p cf hd gj)(a0:ops[q]?=some o)(aN:ki L p q)(a3:∀ e,mf ops q e->L e)
  (cb:∀ ch,Inv X ops im' (λi=>L i\/i=q) β ch w F C I M p cf hd gj->yq ch w):wpOpIn (gG X) 0 X.P ops.toArray Q q yq a w:=by
 obtain⟨o',oM,ry⟩:=h.yv q aN;rw[a0]at oM;cases oM;have CB:∀ {i},oJ ops i q->¬ ki L p i:=λah hi=>hi.2 (ah.mem h.vk a3);have e4:∀ t∈looks ops o,eI β (gj q t) (a.tmps.getD t undef):=λt aq=>ry.a t aq λi hi ah=>(CB ah hi).elim;have after:∀ v,eI β (hd q) v->Inv X ops im' (λi=>L i\/i=q) β (a.put o.dst v) w F C I M p cf hd gj:=λv ai=>by
  have pG:∀ {i},ki (λi=>L i\/i=q) p i->ki L p i/\i≠q:=λhi=>⟨⟨hi.1,λe=>hi.2 (.inl e)⟩,λe=>hi.2 (.inr e)⟩;have w8:∀ {i},ki L p i->i≠q->ki (λi=>L i\/i=q) p i:=λhi bB=>⟨hi.1,λe=>e.elim hi.2 bB⟩;refine⟨h.rel.put gw (x:=.mN) trivial |> λh=>h.refine λ_=>trivial,?_,?_,h.qz,?_,?_⟩
  ·rintro i (hi | rfl)
   ·exact h.sub i hi
   ·exact aN.1
  ·rintro j e (aj | rfl) he
   ·exact .inl (h.vk j e aj he)
   ·exact .inl (a3 e he)
  ·intro t aq;by_cases al:o.dst=some t
   ·have ax:t<a.tmps.size:=by rw[h.rel.size];exact gw t al
    rw[al,Mh ax];exact ry.hj t al _ _ ai
   ·rw[Iz al];refine h.T t λi hi pE=>?_;by_cases oL:i=q
    ·subst oL;rw[E4 a0]at pE;exact al pE
    ·exact aq i (w8 hi oL) pE
  ·intro i hi;obtain⟨ck,oL⟩:=pG hi;obtain⟨fg,hN,rz⟩:=h.yv i ck;refine⟨fg,hN,⟨rz.quiet,rz.hj,λt aq j aj=>rz.b t aq j (pG aj).1,?_,rz.r⟩⟩;intro t aq cm;by_cases al:o.dst=some t
   ·have ax:t<a.tmps.size:=by rw[h.rel.size];exact gw t al
    rw[al,Mh ax];have ah:oJ ops q i:=by
     rcases dn.ord q i o fg t (rm oL) a0 hN al aq with ah | ah;·exact ah
     ·exact(CB ah ck).elim
    exact rz.b t aq q aN ah (by rw[E4 a0,al]) _ _ ai
   ·rw[Iz al];refine rz.a t aq λj aj ah vl=>?_;by_cases E6:j=q
    ·subst E6;rw[E4 a0]at vl;exact al vl
    ·exact cm j (w8 aj E6) ah vl
 have yw:ops.toArray[q]?=some o:=by simpa using a0
 unfold wpOpIn;simp only[yw];rcases ry.r with⟨fm,Ao,-⟩ | ⟨E7,ae⟩
 ·rw[S8 fm e4,cw rfl];let G:Fr:=λt=>if t∈looks ops o then gj q t else .mN
  have oK:∀ t,eI β (G t) (a.tmps.getD t undef):=λt=>by
   by_cases aq:t∈looks ops o;·simp only[G,cw aq];exact e4 t aq
   ·simp only[G,cB aq];trivial
  have Mj:∀ y∈o.op.operands,df G y=df (gj q) y:=λy aA=>by
   cases y with
   |tmp t=>simp only[df,G,cw (Mg aA)]| const v=>cases v<;>rfl
   |global g=>rfl| func f=>rfl
  have adv:=S5 Ao Mj (C':=C) (I':=I) (M':=M) λ_ _ _=>⟨λ_ _ _=>rfl,λ_ _ _ h=>ac8 h⟩;obtain⟨dst,op,ty,pos,adw,guard⟩:=o;have bW:∀ c,op≠.defer c:=λc e=>by have:=ry.quiet;rw[e]at this;cases this
  rcases SM aR (h.rel.refine oK) op ty dst pos adw guard adv with U | ⟨v,x,ji,ae,rfl⟩;·exact U.elim
  ·exact j3 bW ji (cb _ (after v ae))
 ·rw[S9 E7 e4];simp only[jX,kB];exact⟨λ_ _=>trivial,cb _ (after undef (by rw[ae];rfl))⟩
end
section
variable{X:cO}{ops:List Oper}{im':Nat->Bool}{L:Nat->Prop}{β:Nat->Nat}{a:Act}{w:World}{F:Fr}{C:c8}{I:aT}{M:List aD}{p:Nat}{cf:List (Nat×Nat)}{hd:Nat->de}{gj:Nat->Fr}{q:Nat}{o:Oper}
def Inv.refine(h:Inv X ops im' L β a w F C I M p cf hd gj){kG:Fr}(pF:∀ t,sH (F t) (kG t)):Inv X ops im' L β a w kG C I M p cf hd gj:=
 ⟨h.rel,h.sub,h.vk,h.qz,λt aq=>pF t _ _ (h.T t aq),λi hi=>by
  obtain⟨fg,hN,aN⟩:=h.yv i hi;exact⟨fg,hN,⟨aN.quiet,λd al=>(aN.hj d al).trans (pF d),aN.b,aN.a,aN.r⟩⟩⟩
def Inv.step(dn:vj ops)(gw:∀ d,o.dst=some d->d<X.n)(h:Inv X ops im' L β a w F C I M p cf hd gj)(a0:ops[q]?=some o)(kH:p.testBit q=false)(a3:∀ e,mf ops q e->L e)
 {x:de} {C':c8} {I':aT} {M':List aD} (ae:eI β x v) (ag:cP X β a w' (λ_=>.mN) C' I' M')
  (hm:∀ i fg ek,ki L p i->ops[i]?=some fg->pC fg.op=true->(i,ek)∈cf->(∀ s,ek=s+1->C' s=C s)/\(ek=0->∀ b o,h' I (vg (im' i) M) b o->h' I' (vg (im' i) M') b o)) :
  Inv X ops im' (λi=>L i\/i=q) β (a.put o.dst v) w' (put o.dst x F) C' I' M' (p ||| 2^q) cf hd gj:=by
 have pG:∀ {i},ki (λi=>L i\/i=q) (p ||| 2^q) i->ki L p i:=λhi=>⟨(mg.1 hi.1).resolve_right (λe=>hi.2 (.inr e)),λe=>hi.2 (.inl e)⟩;have w8:∀ {i},ki L p i->ki (λi=>L i\/i=q) (p ||| 2^q) i:=fun {i} hi=>⟨mg.2 (.inl hi.1),λe=>e.elim hi.2 (λe=>by
  subst e;have:=hi.1;rw[kH]at this;cases this)⟩
 refine⟨ag.put gw (x:=.mN) trivial |> λh=>h.refine λ_=>trivial,?_,?_,?_,?_,?_⟩
 ·rintro i (hi | rfl)
  ·exact mg.2 (.inl (h.sub i hi))
  ·exact mg.2 (.inr rfl)
 ·rintro j e (aj | rfl) he
  ·exact .inl (h.vk j e aj he)
  ·exact .inl (a3 e he)
 ·intro j e aj he;rcases mg.1 aj with aj | rfl
  ·exact mg.2 (.inl (h.qz j e aj he))
  ·exact mg.2 (.inl (h.sub e (a3 e he)))
 ·intro t aq;by_cases al:o.dst=some t
  ·have ax:t<a.tmps.size:=by rw[h.rel.size];exact gw t al
   rw[al,Mh ax,put_eq];exact ae
  ·rw[Iz al,Iy al];exact h.T t λi hi=>aq i (w8 hi)
 ·intro i hi;have ck:=pG hi;obtain⟨fg,hN,rz⟩:=h.yv i ck;have oL:i≠q:=λe=>by subst e;have:=ck.1;rw[kH]at this;cases this
  refine⟨fg,hN,⟨rz.quiet,?_,λt aq j aj=>rz.b t aq j (pG aj),?_,?_⟩⟩;·intro d al;rw[Iy (dn.Me i q fg o d oL hN a0 al)];exact rz.hj d al
  ·intro t aq cm;have al:o.dst≠some t:=λal=>by
    rcases dn.ord q i o fg t (rm oL) a0 hN al aq with ah | ah;·have:=ah.mem h.qz (λe he=>h.qz i e ck.1 he);rw[kH]at this;cases this
    ·exact ck.2 (ah.mem h.vk a3)
   rw[Iz al];exact rz.a t aq λj aj=>cm j (w8 aj)
  ·refine rz.r.imp (λ⟨U,ab,ak⟩=>⟨U,S5 ab (λ_ _=>rfl) λt x ay=>?_,ak⟩) id;have aL:=ak t x ay;have bm:=hm i fg _ ck hN (by rw[ay];rfl) aL;refine⟨λs off e=>?_,λbB=>bm.2 ?_⟩
   ·exact bm.1 s (by rw[e];rfl)
   ·generalize df (gj i) x=adx at bB;cases adx with
    |ref s off=>exact(bB s off rfl).elim| _=>rfl
def Ap(X:cO)(ops:List Oper)(im':Nat->Bool)(K:fZ)(L:Nat->Prop)(a:Act)(w:World):Prop:=
 ∃ β F C I M p cf hd gj n,Inv X ops im' L β a w F C I M p cf hd gj/\oI X ops im' n p cf F C I M K
def E8{k:Bool}{i:Nat}:i∈pD ops p k ↔ ∃ o,ops[i]?=some o/\p.testBit i=false/\Cz o.op=k/\(∀ e,mf ops i e->p.testBit e=true):=by
 unfold pD;rw[qn,kf];have E9:∀ {o},ops[i]?=some o->(E0 o p=true ↔ ∀ e,mf ops i e->p.testBit e=true):=fun {o} aP=>by
  unfold E0;rw[et];constructor;·rintro h e⟨o',kh,oM,qy,ah,rfl⟩;rw[aP]at oM;cases oM;have:=h kh (by simpa using qy);rw[ah]at this;simpa using this
  ·intro h kh qy;cases ah:Region.binds .any kh with
   |false=>simp| true=>simp[h kh.on ⟨o,kh,aP,by simpa using qy,ah,rfl⟩]
 constructor
 ·rintro⟨ax,h⟩;cases aP:ops[i]? with
  |none=>rw[aP]at h;cases h| some o=>rw[aP]at h;simp only[b',tp,beq_iff_eq]at h;exact⟨o,rfl,h.1,h.2.1,(E9 aP).1 h.2.2⟩
 ·rintro⟨o,aP,U,ab,ak⟩;refine⟨(iO.1 aP).1,?_⟩;rw[aP];simp only[U,ab,(E9 aP).2 ak,EG,Ck,Bool.and_self]
def Tb{P:Nat->Prop}:∀ {l:List Nat},Ma P l->∀ i∈l,P i
 |[],_,i,hi=>by cases hi
 |[j],h,i,hi=>by rw[fb]at hi;subst hi;exact h
 |j::k::l,h,i,hi=>by
  rcases ea.1 hi with rfl | hi;·exact h.1
  ·exact Tb (l:=k::l) h.2 i hi
def ady(i:Nat)(op:Op)(ρ:Operand->de)(cf:List (Nat×Nat)):∀ s∈cf,s∈E3 i op ρ cf:=λs ar=>by
 unfold E3;split
 ·exact .tail _ ar
 ·exact ar
def adz{i:Nat}{ρ:Operand->de}{cf:List (Nat×Nat)}:∀ t x,op=.load t x->(i,Iv (ρ x))∈E3 i op ρ cf:=λt x aF=>by subst aF;unfold E3;exact .head _
def Ap.advance(dn:vj ops){K:fZ}:∀ (n:Nat) {p cf F hd gj},Inv X ops im' L β a w F C I M p cf hd gj->oI X ops im' n p cf F C I M K -> ∃ p cf F hd gj n,Inv X ops im' L β a w F C I M p cf hd gj/\pD ops p true=[]/\oI X ops im' (n+1) p cf F C I M K
 |0,_,_,_,_,_,_,ai=>ai.elim
 |n+1,p,cf,F,hd,gj,cg,ai=>by
  cases ag:pD ops p true with
  |nil=>exact⟨p,cf,F,hd,gj,n,cg,ag,ai⟩
  |cons q l=>
   have e2:q∈pD ops p true:=by rw[ag];simp
   obtain⟨o,a0,kH,IA,yr⟩:=E8.1 e2;have j4:=ai;unfold oI at j4;rw[ag]at j4;simp only[a0]at j4;obtain⟨kG,pF,⟨fm,U⟩ | ⟨E7,U⟩⟩:=S' j4;·obtain⟨x,ab,ak⟩:=adg (ada U);exact Ap.advance dn n (cg.record dn a0 kH yr IA pF (ady _ _ _ _) (.inl ⟨fm,ak,adz⟩)) ab
   ·exact Ap.advance dn n (cg.record dn a0 kH yr IA pF (λ_ h=>h) (.inr ⟨E7,rfl⟩)) U
def mem_ready{i:Nat}(cQ:listed.size=ops.length):i∈Region.ready .any ops.toArray listed ↔ ∃ o,ops[i]?=some o/\¬ listed.getD i false=true/\∀ e,mf ops i e->listed.getD e false=true:=by
 unfold Region.ready;rw[qn,kf];simp only[jZ,z3,b',tp];have E9:∀ {o},ops[i]?=some o->((o.after.all λe=>!Region.binds .any e||listed.getD e.on false)=true ↔ ∀ e,mf ops i e->listed.getD e false=true):=fun {o} aP=>by
  rw[Array.all_eq_true_iff_forall_mem];constructor;·rintro h e⟨o',kh,oM,qy,ah,rfl⟩;rw[aP]at oM;cases oM;have:=h kh qy;rw[ah]at this;simpa using this
  ·intro h kh qy;cases ah:Region.binds .any kh with
   |false=>simp| true=>simp[h kh.on ⟨o,kh,aP,qy,ah,rfl⟩]
 have Tc:i<ops.length->(listed.getD i true=false ↔ ¬ listed.getD i false=true):=λhi=>by
  have:i<listed.size:=by omega
  simp[Array.getD,this]
 constructor
 ·rintro⟨ax,U,ab⟩;cases aP:ops[i]? with
  |none=>rw[aP]at ab;cases ab| some o=>rw[aP]at ab;exact⟨o,rfl,(Tc ax).1 U,(E9 aP).1 ab⟩
 ·rintro⟨o,aP,U,ab⟩;have ax:=(iO.1 aP).1;refine⟨ax,(Tc ax).2 U,?_⟩;rw[aP];exact(E9 aP).2 ab
def Td{i:Nat}(hi:i<listed.size):(λj=>(listed.setIfInBounds i true).getD j false=true)=λj=>listed.getD j false=true\/j=i:=by
 funext j;simp only[oF,Ch,eq_iff_iff];by_cases e:i=j
 ·subst e;simp[hi]
 ·simp only[cB e];constructor
  ·exact .inl
  ·rintro(h | h)
   ·exact h
   ·exact(e h.symm).elim
def todo(ops:List Oper)(listed:Array Bool):Nat:=((List.range ops.length).filter λi=>!listed.getD i false).length
def IB{i:Nat}(hi:i<ops.length)(cQ:listed.size=ops.length)(az:¬ listed.getD i false=true):todo ops (listed.setIfInBounds i true)<todo ops listed:=by
 unfold todo;have key:∀ l:List Nat,l.Nodup->i∈l->((l.filter λj=>!(listed.setIfInBounds i true).getD j false).length<(l.filter λj=>!listed.getD j false).length):=by
  have same:∀ j,j≠i->(listed.setIfInBounds i true).getD j false=listed.getD j false:=λj aj=>by simp only[oF,Ch,cB (rm aj)]
  have self:(listed.setIfInBounds i true).getD i false=true:=by
   have:i<listed.size:=by omega
   simp[oF,Ch,this]
  have yx:listed.getD i false=false:=by simpa using az
  intro l
  induction l with
  |nil=>intro _ h;cases h
  |cons j l a8=>
   intro bW hm;rw[nR]at bW;by_cases e:j=i
   ·subst e;have:l.filter (λk=>!(listed.setIfInBounds j true).getD k false)=l.filter (λk=>!listed.getD k false):=
     wT λk af=>by rw[same k (λe=>bW.1 (e ▸ af))]
    simp only[u7,self,yx,this];simp
   ·have mV:i∈l:=by
     rcases ea.1 hm with h | h;·exact(e h.symm).elim
     ·exact h
    have:=a8 bW.2 mV;simp only[u7,same j e];split;·simp only[cS];omega
    ·exact this
 exact key _ LV (kf.2 hi)
def adA(aR:cX X.P X.E)(dn:vj ops)(gw:∀ o∈ops,∀ d,o.dst=some d->d<X.n){K:fZ}(nZ:∀ a w,Sat X K a w->Q .normal a w):∀ (eH:Nat) (listed:Array Bool) (a:Act) (w:World),
  listed.size=ops.length->todo ops listed<=eH->Ap X ops im' K (λi=>listed.getD i false=true) a w->wpAnyIn (gG X) 0 X.P .any ops.toArray Q eH listed a w:=by
 intro eH
 induction eH with
 |zero=>
  rintro listed a w cQ au⟨β,F,C,I,M,p,cf,hd,gj,n,cg,ai⟩;have mW:Region.ready .any ops.toArray listed=[]:=by
   cases ag:Region.ready .any ops.toArray listed with
   |nil=>rfl| cons i l=>obtain⟨o,aP,az,_⟩:=(mem_ready cQ).1 (by rw[ag];simp:i∈Region.ready .any ops.toArray listed);have:=IB (iO.1 aP).1 cQ az;omega
  refine⟨mW,?_⟩;obtain⟨p,cf,F,hd,gj,n,cg,gI,ai⟩:=Ap.advance dn n cg ai;have E':∀ i,p.testBit i=true->listed.getD i false=true:=λi=>by
   induction i using Nat.strongRecOn with
   |ind i a8=>intro aN;refine EC λaz=>?_;obtain⟨o,aP,_⟩:=cg.yv i ⟨aN,az⟩;have:i∈Region.ready .any ops.toArray listed:=(mem_ready cQ).2 ⟨o,aP,az,λe he=>a8 e (dn.lt i e he) (cg.qz i e aN he)⟩;rw[mW]at this;cases this
  have pH:pD ops p false=[]:=by
   cases ag:pD ops p false with
   |nil=>rfl| cons i l=>obtain⟨o,aP,aN,_,al⟩:=E8.1 (by rw[ag];simp:i∈pD ops p false);have:i∈Region.ready .any ops.toArray listed:=(mem_ready cQ).2 ⟨o,aP,λcj=>(by have fw:=cg.sub i cj;rw[aN]at fw;exact Bool.noConfusion fw),λe he=>E' e (al e he)⟩;rw[mW]at this;cases this
  unfold oI at ai;rw[gI,pH]at ai;exact nZ _ _ ⟨F,C,I,M,⟨β,cg.rel.refine λt=>cg.T t λi hi=>(hi.2 (E' i hi.1)).elim⟩,ai⟩
 |succ eH a8=>
  rintro listed a w cQ au⟨β,F,C,I,M,p,cf,hd,gj,n,cg,ai⟩;obtain⟨p,cf,F,hd,gj,n,cg,gI,ai⟩:=Ap.advance dn n cg ai;refine⟨λmW=>?_,λq a0=>?_⟩
  ·have E':∀ i,p.testBit i=true->listed.getD i false=true:=λi=>by
    induction i using Nat.strongRecOn with
    |ind i a8=>intro aN;refine EC λaz=>?_;obtain⟨o,aP,_⟩:=cg.yv i ⟨aN,az⟩;have:i∈Region.ready .any ops.toArray listed:=(mem_ready cQ).2 ⟨o,aP,az,λe he=>a8 e (dn.lt i e he) (cg.qz i e aN he)⟩;rw[mW]at this;cases this
   have pH:pD ops p false=[]:=by
    cases ag:pD ops p false with
    |nil=>rfl| cons i l=>obtain⟨o,aP,aN,_,al⟩:=E8.1 (by rw[ag];simp:i∈pD ops p false);have:i∈Region.ready .any ops.toArray listed:=(mem_ready cQ).2 ⟨o,aP,λcj=>(by have fw:=cg.sub i cj;rw[aN]at fw;exact Bool.noConfusion fw),λe he=>E' e (al e he)⟩;rw[mW]at this;cases this
   unfold oI at ai;rw[gI,pH]at ai;exact nZ _ _ ⟨F,C,I,M,⟨β,cg.rel.refine λt=>cg.T t λi hi=>(hi.2 (E' i hi.1)).elim⟩,ai⟩
  ·obtain⟨o,aP,az,al⟩:=(mem_ready cQ).1 a0;have ax:=(iO.1 aP).1;have vm:=gw o (z5 aP);have fN:=Td (listed:=listed) (i:=q) (by omega);have next:∀ ch w',Ap X ops im' K (λi=>listed.getD i false=true\/i=q) ch w'->wpAnyIn (gG X) 0 X.P .any ops.toArray Q eH (listed.setIfInBounds q true) ch w':=λch w' h=>by refine a8 _ ch w' (by simpa using cQ) ?_ (by rw[fN];exact h);have:=IB ax cQ az;omega
   cases kH:p.testBit q with
   |true=>
    exact cg.exec aR dn vm aP ⟨kH,az⟩ al λch h=>next ch w ⟨β,F,C,I,M,p,cf,hd,gj,n+1,h,ai⟩
   |false=>
    have Mk:∀ e,mf ops q e->p.testBit e=true:=λe he=>cg.sub e (al e he);have adB:Cz o.op=false:=by
     cases adC:Cz o.op with
     |false=>rfl| true=>have:q∈pD ops p true:=E8.2 ⟨o,aP,kH,adC,Mk⟩;rw[gI]at this;cases this
    have e2:q∈pD ops p false:=E8.2 ⟨o,aP,kH,adB,Mk⟩;unfold oI at ai;rw[gI]at ai;simp only at ai;split at ai;·rename_i pH;rw[pH]at e2;cases e2
    ·rename_i i0 e9 pH;rw[pH]at e2;have ah:=Tb ai q e2;simp only[aP]at ah;obtain⟨kG,pF,ah⟩:=S' ah;have bK:=cg.refine pF;have ho:=bK.adr dn aP kH al;have yw:ops.toArray[q]?=some o:=by simpa using aP
     unfold wpOpIn;simp only[yw];rcases ah with⟨fm,ah⟩ | ⟨E7,ah⟩
     ·rw[S8 fm ho,cw rfl];cases Ml:SW ((kF ops).getD q 0) p with
      |true=>
       rw[Ml]at ah;simp only[vf,bt]at ah;have eg:∀ i,p.testBit i=true->listed.getD i false=true:=λi hi=>by
        have U:=dD Ml;have ab:(p &&& (kF ops).getD q 0).testBit i=true:=by rw[U];exact hi
        rw[LW,b']at ab;exact(ys ab.2).mem cg.vk al
       have a5:Rel X a w kG C I M:=⟨β,bK.rel.refine λt=>bK.T t λi hi=>(hi.2 (eg i hi.1)).elim⟩;refine st (λch w'=>?_) (Cu aR vm a5 ah);rintro⟨dN,C',I',M',⟨nX,gP⟩,af⟩;have adD:∀ i,¬ ki (λi=>listed.getD i false=true\/i=q) (p ||| 2^q) i:=λi hi=>by
        rcases mg.1 hi.1 with U | U;·exact hi.2 (.inl (eg i U))
        ·exact hi.2 (.inr U)
       refine next ch w' ⟨nX,dN,C',I',M',p ||| 2^q,cf,hd,gj,n,⟨gP.refine λ_=>trivial,?_,?_,?_,λt _=>gP.an t,λi hi=>(adD i hi).elim⟩,af⟩
       ·rintro i (hi | rfl)
        ·exact mg.2 (.inl (cg.sub i hi))
        ·exact mg.2 (.inr rfl)
       ·rintro j e (aj | rfl) he
        ·exact .inl (cg.vk j e aj he)
        ·exact .inl (al e he)
       ·intro j e aj he;rcases mg.1 aj with aj | rfl
        ·exact mg.2 (.inl (cg.qz j e aj he))
        ·exact mg.2 (.inl (Mk e he))
      |false=>
       rw[Ml]at ah;let G:Fr:=λt=>if t∈looks ops o then kG t else .mN
       have oK:∀ t,eI β (G t) (a.tmps.getD t undef):=λt=>by
        by_cases aq:t∈looks ops o;·simp only[G,cw aq];exact ho t aq
        ·simp only[G,cB aq];trivial
       have Mj:∀ y∈o.op.operands,df G y=df kG y:=λy aA=>by
        cases y with
        |tmp t=>simp only[df,G,cw (Mg aA)]| const v=>cases v<;>rfl
        |global g=>rfl| func f=>rfl
       refine st (λch w'=>?_) (adk aR (bK.rel.refine oK) Mj ah);rintro⟨v,x,C',I',M',rfl,ae,gP,af,hm⟩;refine next _ _ ⟨β,_,C',I',M',p ||| 2^q,cf,hd,gj,n,bK.step dn vm aP kH al ae (gP.refine λ_=>trivial) ?_,af⟩
       rcases hm with⟨adE,oN⟩ | ⟨rfl,hle,eR⟩
       rotate_left
       ·exact λ_ _ _ _ _ _ _=>⟨λ_ _=>rfl,λ_=>S0 eR hle⟩
       have CB:∀ {i},ki (λi=>listed.getD i false=true) p i->((kF ops).getD q 0).testBit i=true->False:=λhi ah=>hi.2 ((ys ah).mem cg.vk al);intro i fg ek hi hN gN e2;have cm:∀ {s:Nat},CA ((kF ops).getD q 0) s cf=true->ek≠s:=fun {s} h e=>by
        rcases SX h e2 with U | U;·exact CB hi U
        ·exact U e
       rcases(j0 _ _).mp adE with adF | adG
       ·have U:=et.1 adF i (kf.2 (iO.1 hN).1);rw[hi.1,hN]at U;simp only[nS,mL,j0,tp]at U;rcases U with U | U
        ·exact(CB hi U).elim
        ·rw[U]at gN;cases gN
       rcases(j0 _ _).mp adG with CC | yy
       ·unfold SZ at CC;split at CC
        ·rename_i t0 vn Te c9;split at CC
         ·rename_i cF aqv aF;obtain⟨⟨da,fG⟩,bZ⟩:=oN.1 _ _ _ _ _ c9 aF;exact⟨λb3 e=>da b3 (λa7=>cm CC (by rw[e,a7])),λ_=>S0 bZ fG⟩
         ·cases CC
        ·cases CC
       rcases(j0 _ _).mp yy with yy | w9
       ·unfold SY at yy;split at yy
        ·rename_i t0 vn Te c9;split at yy
         ·rename_i adH aF;exact⟨λ_ _=>by rw[(oN.2.1 _ _ _ _ c9 aF).1],λe=>(cm yy e).elim⟩
         ·cases yy
        ·cases yy
       unfold S3 at w9;rw[b']at w9;obtain⟨adI,w9⟩:=w9;have adJ:im' i=true:=by
        have U:=et.1 adI i (kf.2 (iO.1 hN).1);rw[hi.1,hN]at U;simp only[nS,mL,j0,tp]at U;rcases U with U | U | U;·exact(CB hi U).elim
        ·exact U
        ·rw[U]at gN;cases gN
       have hle:C'=C/\∀ b o,I b=some o->I' b=some o:=by
        unfold S2 at w9;split at w9
        ·rename_i t0 vn Te c9;split at w9
         ·rename_i adH aF;exact oN.2.1 _ _ _ _ c9 aF
         ·cases w9
        ·rename_i c9;exact oN.2.2 (λt x y e=>by rw[c9]at e;cases e)
        ·rename_i c9;exact oN.2.2 (λt x y e=>by rw[c9]at e;cases e)
        ·cases w9
       exact⟨λ_ _=>by rw[hle.1],λ_=>by rw[adJ];exact ac9 hle.2⟩
     ·rw[S9 E7 ho];simp only[jX,kB];refine⟨λ_ _=>trivial,next _ _ ⟨β,_,C,I,M,p ||| 2^q,cf,hd,gj,n,bK.step dn vm aP kH al (x:=.val undef) rfl bK.rel (λ_ _ _ _ _ _ _=>⟨λ_ _=>rfl,λ_ _ _ h=>h⟩),ah⟩⟩
end
def cr.Tf{X:cO}{id:Nat}{F:Fr}{C:c8}{I:aT}{M:List aD}{K:j6}(aR:cX X.P X.E)(hm:X.P.follows .mixedOrders=true)(aC:Am A.toList=true)(az:w5 X.n A=true)
  {im':Nat->Bool} (h:oI X A.toList im' (A.size+1) 0 [] F C I M (K .normal)):cr X (.region id A true) F C I M K:=by
 refine⟨λa w ⟨β,a5⟩=>wpIn_region_any hm ?_⟩;have vo:cP X β a { w with drawn:=w.drawn+1 } F C I M:=a5.world rfl;have cL:∀ i,(Array.replicate A.size false).getD i false=false:=λi=>by
  by_cases hi:i<A.size<;>simp[oF,hi]
 have kI:∀ {i},¬ (Array.replicate A.size false).getD i false=true:=fun {i}=>by rw[cL];simp
 have key:=adA (K:=K .normal) (Q:=mc X K) aR (S7 aC) (Ik az) (λ_ _ h=>h) A.size (Array.replicate A.size false) a { w with drawn:=w.drawn+1 } (by simp) ?_ ⟨β,F,C,I,M,0,[],λ_=>.mN,λ_ _=>.mN,A.size+1,⟨vo.refine λ_=>trivial,λi hi=>(kI hi).elim,λj e aj=>(kI aj).elim,λj e aj=>by simp at aj,λt _=>vo.an t,λi hi=>by simp[ki]at hi⟩,h⟩
 ·simpa using key
 ·unfold todo;refine k5 (to _ _) (by simp)
def cr.Tg{X:cO}{id:Nat}{F:Fr}{C:c8}{I:aT}{M:List aD}{K:j6}(aR:cX X.P X.E)(hm:X.P.follows .mixedOrders=true)(aC:Am A.toList=true)(az:w5 X.n A=true)
  {im':Nat->Bool} (b4:ι->tC) (inv:ι->Prop) (ai:oI X A.toList im' (A.toList.length+1) 0 [] F C I M (n1 X.cp b4 inv)) (rest:∀ i,inv i->K .normal (pA (b4 i).a4) (pB (b4 i).cl) (b4 i).br (b4 i).bO):cr X (.region id A true) F C I M K:=by
 obtain⟨h⟩:=cr.Tf (im':=im') (K:=λe=>match e with
  | .normal=>n1 X.cp b4 inv| e=>K e) aR hm aC az ai
 refine⟨λa w a5=>wpIn_mono (h a w a5) ?_⟩;intro e a w ar;cases e with
 |normal=>obtain⟨dN,C',I',M',⟨β,ag⟩,⟨j,rv,hw,bs,lC⟩⟩:=ar;exact⟨_,_,_,_,⟨β,(ag.base bs lC).jg hw⟩,rest j rv⟩
 |_=>exact ar
def cr.draw{X:cO}{id:Nat}{F:Fr}{C:c8}{I:aT}{M:List aD}{K:j6}(aR:cX X.P X.E)(hm:X.P.follows .mixedOrders=true)(aC:Am A.toList=true)(az:w5 X.n A=true)(h:oI X A.toList (λ_=>false) (A.size+1) 0 [] F C I M (K .normal)):cr X (.region id A true) F C I M K:=.Tf aR hm aC az h
def cr.IC{X:cO}{id:Nat}{F:Fr}{C:c8}{I:aT}{M:List aD}{K:j6}(aR:cX X.P X.E)(hm:X.P.follows .mixedOrders=true)(aC:Am A.toList=true)(az:w5 X.n A=true)
 (b4:ι->tC) (inv:ι->Prop) (ai:oI X A.toList (λ_=>false) (A.toList.length+1) 0 [] F C I M (n1 X.cp b4 inv)) (rest:∀ i,inv i->K .normal (pA (b4 i).a4) (pB (b4 i).cl) (b4 i).br (b4 i).bO):cr X (.region id A true) F C I M K:=.Tg aR hm aC az b4 inv ai rest
def cr.adK{X:cO}{id:Nat}{F:Fr}{C:c8}{I:aT}{M:List aD}{K:j6}(aR:cX X.P X.E)(hm:X.P.follows .mixedOrders=true)(aC:Am A.toList=true)(az:w5 X.n A=true)
 (b4:ι->tC) (inv:ι->Prop) (ai:oI X A.toList (λ_=>true) (A.toList.length+1) 0 [] F C I M (n1 X.cp b4 inv)) (rest:∀ i,inv i->K .normal (pA (b4 i).a4) (pB (b4 i).cl) (b4 i).br (b4 i).bO):cr X (.region id A true) F C I M K:=.Tg aR hm aC az b4 inv ai rest
end Go.V
