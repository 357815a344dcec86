/- Part 1 of what the proofs of this seat share: the executor, data in memory, walks.
-/
import Derived.WalkKit
import Derived.RangeFuncRecord
import Derived.OrdersIn
import Derived.Lib.UnsafeStr
set_option linter.all false
namespace Go.V
open Go
def bP:=@Nat.le_of_ble_eq_true
def aQ:=@cond_false
def cj:=@Nat.eq_of_beq_eq_true
def dB:=@List.getD_eq_getElem?_getD
def a4:=@cond_true
def ck:=@Result.andThen_ok
def cm:=@of_decide_eq_true
def ct:=@Bool.and_eq_true
def fg:=@List.drop_eq_getElem_cons
def b2:=@Nat.le_refl
def cG:=@Sem.run_bind
def dV:=@List.mem_append
def iT:=@List.take_succ_eq_append_getElem
def eY:=@decide_eq_true_eq
def eM:=@List.length_cons
def dv:=@Sem.run_pure
def dQ:=@List.map_cons
def eu:=@List.mem_cons
def eh:=@List.mem_map
def kG:=@List.getElem?_eq_some_iff
def hq:=@Option.some.injEq
def ma:=@Array.getElem?_eq_some_iff
def gW:=@List.map_append
def hI:=@List.all_eq_true
def jw:=@List.mem_singleton
def b8:=@if_neg
def p8:=@Array.getD_eq_getD_getElem?
def nY:=@World.putObj_heap_other
def cF:=@if_pos
def lN:=@Bool.false_eq_true
def oI:=@List.mem_append_right
def mM:=@List.getElem?_take
def rZ:=@List.getElem?_append_left
def iU:=@Nat.le_trans
def lq:=@Bool.or_eq_true
def mb:=@Option.getD_some
def qR:=@List.getElem?_eq_none
def hJ:=@Array.ext'
def mc:=@Option.map_some
def mN:=@List.nodup_cons
def me:=@List.mem_range
def r0:=@List.mem_append_left
def pk:=@Bool.not_eq_true'
def nZ:=@Bool.eq_iff_iff
def s7:=@Nat.mul_le_mul_right
def qS:=@Int.toNat_natCast
def s8:=@List.getElem?_drop
def w0:=@Option.map_eq_some_iff
def p9:=@Nat.add_assoc
def vp:=@List.size_toArray
def DW:=@Array.getElem?_setIfInBounds
def p':=@Nat.add_zero
def uj:=@List.foldl_cons
def vq:=@Option.getD_none
def r1:=@Bool.not_true
def DX:=@Array.getElem?_eq_getElem
def DY:=@Classical.byContradiction
def yL:=@List.getElem?_map
def BU:=@List.getElem?_toArray
def vr:=@Oper.wpIn_mono
def BV:=@List.mem_of_getElem?
def yM:=@Nat.lt_succ_self
def yN:=@List.mem_filter
def mO:=@if_false
def DZ:=@List.range_eq_range'
def w1:=@ByteArray.ext
def w2:=@Bool.false_or
def yO:=@List.nodup_nil
def Af:=@Option.map_none
def J3:=@Option.ne_none_iff_exists'
def Gl:=@List.length_filter_le
def D1:=@List.nodup_append
def J4:=@Option.isSome_iff_exists
def J5:=@List.getElem?_cons_succ
def BW:=@World.alloc_eq
def J6:=@ByteArray.data_extract
def Gm:=@beq_self_eq_true
def J7:=@Nat.testBit_two_pow
def Gn:=@Nat.min_eq_left
def J8:=@Nat.lt_of_lt_of_le
def On:=@Option.bind_eq_some_iff
def Gp:=@List.mapM_cons
def s9:=@Ne.symm
def s':=@if_true
def J9:=@List.filter_cons
def Oo:=@List.toList_toArray
def Gq:=@Nat.add_comm
def Oq:=@Array.foldl_toList
def Ot:=@ByteArray.mk.injEq
def Ou:=@Option.isSome_none
def UX:=@Array.mapM_eq_mapM_toList
def J':=@Nat.testBit_or
def Ka:=@Bool.not_false
def Ov:=@List.filter_congr
def Kb:=@Oper.semAt_eq
def Ow:=@List.range'_succ
variable{a:Act}{c:Code}{cL:List Nat}{P:Program}{f off T sz jh e n m gk bW da dh fs iV kH lO ng po ta vt yP BX Gr:Nat}{args vs z:List Value}{v:Value}{w' w:World}{dst:Option Nat}{cs:Array Value}{ak:Nat×Nat}{R:Ending->World->Prop}{next:Act->World->Prop}{ad:Addr}{fS:IntKind}{other:Prop}{ops:List Oper}{Q:Exit->Act->World->Prop}{fn:Func}{soft h0:Bool}{op:Op}{dK:Array Bool}{A:Array Oper}
inductive Gs where
 |other | int (k:IntKind) | bool | string | slice (e:Nat) | array (n e:Nat) | struct (cT:List (Nat×Nat)) | map (k e:Nat) | pointer (e:Nat)
 deriving DecidableEq
def fF:TypeDesc->Gs
 | .int k=>.int k| .bool=>.bool| .string=>.string| .slice e=>.slice e| .array n e=>.array n e| .struct cT=>.struct (cT.toList.map λf=>(f.type,f.offset))| .map k e=>.map k e| .pointer e=>.pointer e| _=>.other
def Gs.agg:Gs->Bool
 | .struct _ | .array ..=>true| _=>false
structure eE where
 size:Nat
 bytes:Nat
 zero:List Value
 bT:Gs
structure k5(P:Program)(t:Nat)(i:eE):Prop where
 inf:∃ inf z,P.info? t=some inf/\inf.size=i.size/\inf.bytes=i.bytes/\inf.zero=some z/\z.cells.toList=i.zero
 fM:∃ d,P.underlying t=some d/\fF d=i.bT
 one:∀ v∈i.zero,v.oneCell'=true
 len:i.zero.length=i.size
 Kc:i.bT.agg=false->i.size=1
abbrev Env:=Nat->Option eE
def dm(P:Program)(E:Env):Prop:=∀ t i,E t=some i->k5 P t i
inductive dW where
 |val(v:Value)| lit (b:Bool)| ref (s off:Nat)| n1
abbrev Fr:=Nat->dW
abbrev dX:=Nat->Option (List Value)
abbrev a5:=Nat->Option Obj
structure aF where
 num:Nat
 obj:Obj
abbrev hb:=Fr->dX->a5->List aF->Prop
def hr(F:Fr)(d:Nat)(x:dW):Fr:=λt=>bif Nat.beq t d then x else F t
def jX(C:dX)(d:Nat)(x:Option (List Value)):dX:=λt=>bif Nat.beq t d then x else C t
def qT(F:Fr)(d:Nat):Fr:=λt=>match F t with
 | .ref s o=>bif Nat.beq s d then .n1 else .ref s o| x=>x
def put(o:Option Nat)(x:dW)(F:Fr):Fr:=match o with
 |some d=>hr F d x| none=>F
def dN(F:Fr):Operand->dW
 | .tmp t=>F t| .const (.bool b)=>.lit b| .const v=>.val v| .global g=>.val (.pointer (some ⟨g,0,none⟩))| .func f=>.val (.func (.func f) #[] #[])
def ey(ρ:Operand->dW)(x:Operand):dW:=match ρ x with
 | .lit b=>.val (.bool b)| y=>y
abbrev bU(F:Fr):Operand->dW:=ey (dN F)
def pack(agg:Bool)(vs:List Value):Value:=bif agg then .agg vs.toArray else vs.headD undef
def bQ(cs:List Value)(off:Nat)(vs:List Value):List Value:=cs.take off++vs++cs.drop (off+vs.length)
def iW(vs:List Value):Bool:=vs.all (·.oneCell')
def Kd(c:Bool):dW->dW->dW
 | .val (.bool x),.val (.bool y)=>.val (.bool (bif c then x else y))| .val x,.val y=>.val (bif c then x else y)| _,_=>.n1
def yQ(op:BinOp)(x y:Int):Option Bool:=match op with
 | .eql=>some (decide (x=y))| .neq=>some (!decide (x=y))| .lss=>some (decide (x<y))| .leq=>some (decide (x<=y))| .gtr=>some (decide (y<x))| .geq=>some (decide (y<=x))| _=>none
def vu(op:BinOp)(k:IntKind)(x y:Int):Option Int:=
 let a:=BitVec.ofInt k.bits x
 let b:=BitVec.ofInt k.bits y
 match op with
 | .and=>some (k.wrap (a &&& b).toNat)| .or=>some (k.wrap (a ||| b).toNat)| .xor=>some (k.wrap (a ^^^ b).toNat)| .andNot=>some (k.wrap (a &&& ~~~b).toNat)| _=>none
def iX(I:a5)(M:List aF)(b:Nat)(o:Obj):Prop:=I b=some o\/∃ x∈M,x.num=b/\x.obj=o
def cx(I:a5)(M:List aF)(a:Addr)(n:Nat)(vs:List Value):Prop:=
 a.spot=none/\∃ cs T ak,iX I M a.block (.cells cs T ak)/\(cs.toList.drop a.off).take n=vs/\vs.length=n
inductive aw(I:a5)(M:List aF)(a:Addr)(n:Nat)(K:List Value->Prop):Prop
 |mk(vs:List Value)(h:cx I M a n vs)(k:K vs)
inductive cc(M:List aF)(a:Addr)(vs:List Value)(K:List aF->Prop):Prop
 |mk(bi post:List aF)(cs:Array Value)(T:Nat)(a2:M=bi++⟨a.block,.cells cs T (0,0)⟩::post)(ax:a.spot=none)(ag:a.off+vs.length<=cs.size)(U:iW vs=true)(k:K (bi++⟨a.block,.cells (bQ cs.toList a.off vs).toArray T (0,0)⟩::post))
inductive cy(I:a5)(M:List aF)(K:Nat->Prop):Prop
 |mk(k:∀ b,I b=none->(∀ x∈M,x.num≠b)->K b)
inductive bl(a:Option Addr)(n sz:Nat)(k:Int)(K:Addr->Prop):Prop
 |mk(ad:Addr)(j:Nat)(aH:a=some ad)(ae:k=(j:Int))(an:j<n)(h:K (ad.add (j*sz)))
inductive dR(n:Nat)(k:Int)(K:Nat->Prop):Prop
 |mk(j:Nat)(ae:k=(j:Int))(an:j<n)(h:K j)
inductive yR(s:ByteArray)(k:Int)(K:UInt8->Prop):Prop
 |mk(j:Nat)(ae:k=(j:Int))(an:j<s.size)(h:K s[j])
inductive bb(k:IntKind)(n:Int)(K:Int->Prop):Prop
 |mk(r:Int)(h:k.wrap n=r)(bg:K r)
inductive qa(y:Int)(K:Prop):Prop
 |mk(h:y≠0)(bg:K)
inductive tb(y:Int)(K:Nat->Prop):Prop
 |mk(j:Nat)(h:y=(j:Int))(bg:K j)
inductive aM(c:Bool)(X Y:Prop):Prop
 |mk(h:c=true->X)(bg:c=false->Y)
inductive qU(l c:Int)(bytes:Nat)(K:Nat->Nat->Prop):Prop
 |mk(n m:Nat)(aE:l=(n:Int))(aJ:c=(m:Int))(h:n<=m)(ag:bytes*m<=140737488355328)(hm:m<=9223372036854775807)(k:K n m)
inductive jI(n c:Nat)(lo hi:Option Int)(K:Nat->Nat->Prop):Prop
 |mk(l h:Nat)(dg:lo.getD 0=(l:Int))(fT:hi.getD n=(h:Int))(U:l<=h)(aa:h<=c)(k:K l h)
structure e1(I:a5)(M:List aF)(w:World):Prop where
 i:∀ b o,I b=some o->w.heap[b]?=some o
 m:∀ x∈M,w.heap[x.num]?=some x.obj
 d:∀ x∈M,I x.num=none
 aG:(M.map (·.num)).Nodup
def pq(w w':World):Prop:=w'.os=w.os/\w'.output=w.output
def pq.refl(w:World):pq w w:=⟨rfl,rfl⟩
def pq.trans{a b c:World}(h:pq a b)(bg:pq b c):pq a c:=⟨bg.1.trans h.1,bg.2.trans h.2⟩
structure Kept(I:a5)(M:List aF)(w:World)(I':a5)(M':List aF)(w':World):Prop where
 le:∀ b o,I b=some o->I' b=some o
 vv:∀ b o,I' b=some o->I b=some o\/w.heap.size<=b
 w3:∀ x∈M',(∃ y∈M,y.num=x.num)\/w.heap.size<=x.num
 dS:∀ b,b<w.heap.size->(∀ y∈M,y.num≠b)->w'.heap[b]?=w.heap[b]?
 out:pq w w'
 sz:w.heap.size<=w'.heap.size
def Ox(P:Program)(f:Nat):Prop:=∀ (args:Array Value) (w:World),(callFunc f args).run P w=.ok (.enter f args) w
def w4(P:Program)(f:Nat)(args:List Value)(I:a5)(M:List aF)(post:Value->a5->List aF->Prop):Prop:=
 Ox P f/\∀ w,e1 I M w->Calls P f args.toArray w λe w'=>∃ v I' M',e=.returned v/\post v I' M'/\e1 I' M' w'/\Kept I M w I' M' w'
def afn(P:Program)(f:Nat)(args:List Value)(I:a5)(M:List aF)(post:Value->a5->List aF->Prop):Prop:=
 ∀ w,e1 I M w->∃ v w' I' M',(callFunc f args.toArray).run P w=.ok (.value v) w'/\post v I' M'/\e1 I' M' w'/\Kept I M w I' M' w'
def Spec(P:Program)(f:Nat)(args:List Value)(I:a5)(M:List aF)(post:Value->a5->List aF->Prop):Prop:=w4 P f args I M post\/afn P f args I M post
def ins(I:a5)(b:Nat)(o:Obj):a5:=λx=>bif Nat.beq x b then some o else I x
inductive lr(cL:List Nat):a5->List aF->a5->List aF->Prop
 |refl{I M}:lr cL I M I M| sub {I M M1 I' M'} (h:List.Sublist M1 M) (k:lr cL I M1 I' M'):lr cL I M I' M'| perm {I M M1 I' M'} (h:M.Perm M1) (k:lr cL I M1 I' M'):lr cL I M I' M'| n2 {I M I' M' b o post} (h:M=⟨b,o⟩::post) (ar:b ∉ cL) (k:lr cL (ins I b o) post I' M'):lr cL I M I' M'
structure uk(I:a5)(M:List aF):Prop where
 d:∀ x∈M,I x.num=none
 aG:(M.map (·.num)).Nodup
inductive a9(cL:List Nat)(P:Program)(f:Nat)(args:List Value)(I:a5)(M:List aF)(K:Value->a5->List aF->Prop):Prop
 |mk(cz Mr:List aF)(post:Value->a5->List aF->Prop)(a2:M.Perm (cz++Mr))(ax:Spec P f args I cz post)(k:∀ v I' M',(∀ b o,I b=some o->I' b=some o)->post v I' M'->K v I' (M'++Mr))| Oy (cz Mr:List aF) (post:Value->a5->List aF->Prop) (a2:M.Perm (cz++Mr)) (ax:Spec P f args I cz post) (k:∀ v I' M',(∀ b o,I b=some o->I' b=some o)->(∀ x∈M'++Mr,I' x.num=none)->post v I' M'->K v I' (M'++Mr))| Ke (cW:a5) (cz Mr:List aF) (post:Value->a5->List aF->Prop) (hw:lr cL I M cW (cz++Mr)) (ax:Spec P f args cW cz post) (k:∀ v I' M',(∀ b o,cW b=some o->I' b=some o)->(∀ x∈M'++Mr,I' x.num=none)->post v I' M'->K v I' (M'++Mr))| Kf (h:uk I M->a9 cL P f args I M K)
def a9.elim{I:a5}{M:List aF}{K:Value->a5->List aF->Prop}(mf:uk I M)(h:a9 cL P f args I M K) :
  ∃ (cW:a5) (cz Mr:List aF) (post:Value->a5->List aF->Prop),lr cL I M cW (cz++Mr)/\Spec P f args cW cz post/\∀ v I' M',(∀ b o,cW b=some o->I' b=some o)->(∀ x∈M'++Mr,I' x.num=none)->post v I' M'->K v I' (M'++Mr):=by
 induction h with
 |mk cz Mr post a2 ax k=>exact⟨I,cz,Mr,post,.perm a2 .refl,ax,λv I' M' U _ aa=>k v I' M' U aa⟩| Oy cz Mr post a2 ax k=>exact⟨I,cz,Mr,post,.perm a2 .refl,ax,k⟩| Ke cW cz Mr post hw ax k=>exact⟨cW,cz,Mr,post,hw,ax,k⟩| Kf h be=>exact be mf
structure dw where
 P:Program
 E:Env
 hs:List Nat
 n:Nat
 B:Nat
 ay:World
 dZ:a5
 cL:List Nat
 ro:Option Nat
def hK(X:dw):Fence:={ Fence.wide with round:=X.ro }
def fe(β:Nat->Nat):dW->Value->Prop
 | .val v,u=>u=v| .lit b,u=>u=.bool b| .ref s off,u=>u=.pointer (some ⟨β s,off,none⟩)| .n1,_=>True
structure yS(X:dw)(w:World)(I:a5)(M:List aF)(b:Nat)(cs:List Value):Prop where
 ai:∃ T,w.heap[b]?=some (.cells cs.toArray T (0,0))
 aq:X.B<=b
 kI:I b=none
 fh:∀ x∈M,x.num≠b
structure w5(X:dw)(w:World)(I:a5)(M:List aF)(r:Nat):Prop where
 ai:w.heap[r]?=some (.deferred (some []))
 aq:X.B<=r
 kI:I r=none
 fh:∀ x∈M,x.num≠r
def yT(r:Nat):Deferred:={ target:=.collected r,args:=#[] }
def Marks(X:dw)(a:Act)(w:World)(I:a5)(M:List aF):Prop:=∃ bj:List Nat,a.defers=bj.map yT/\bj.Nodup/\∀ r∈bj,w5 X w I M r
structure db(X:dw)(β:Nat->Nat)(a:Act)(w:World)(F:Fr)(C:dX)(I:a5)(M:List aF):Prop where
 size:a.tmps.size=X.n
 defers:Marks X a w I M
 holds:e1 I M w
 ak:∀ t,fe β (F t) (a.tmps.getD t undef)
 cC:∀ s cs,C s=some cs->yS X w I M (β s) cs
 inj:∀ s cH,C s≠none->C cH≠none->β s=β cH->s=cH
 iY:∀ b o,X.dZ b=some o->I b=some o
 ih:∀ b o,I b=some o->X.dZ b=some o\/X.B<=b
 own:∀ x∈M,x.num∈X.cL\/X.B<=x.num
 dS:∀ b,b<X.B->b ∉ X.cL->w.heap[b]?=X.ay.heap[b]?
 out:pq X.ay w
 sz:X.B<=w.heap.size
def Rel(X:dw)(a:Act)(w:World)(F:Fr)(C:dX)(I:a5)(M:List aF):Prop:=∃ β,db X β a w F C I M
def Sat(X:dw)(K:hb)(a:Act)(w:World):Prop:=∃ F C I M,Rel X a w F C I M/\K F C I M
inductive bE(X:dw)(o:Oper)(F:Fr)(C:dX)(I:a5)(M:List aF)(K:hb):Prop
 |mk(h:∀ a w Q,Rel X a w F C I M->o.wpIn (hK X) 0 X.P a w (Sat X K) Q)
def kJ(ρ:Operand->dW):List Operand->Option (List Value)
 |[]=>some []
 |x::xs=>match ey ρ x,kJ ρ xs with
  | .val v,some vs=>some (v::vs)| _,_=>none
abbrev nh(F:Fr):List Operand->Option (List Value):=kJ (dN F)
def um(place:Nat->Option (Nat×Nat))(cells:List Value):List (Nat×Value)->Option (List Value)
 |[]=>some cells
 |(i,v)::au=>match place i with
  |none=>none| some (off,size)=>bif Nat.beq v.cells.size size&&Nat.ble (off+size) cells.length then um place (bQ cells off v.cells.toList) au else none
def uo(ρ:Operand->dW):List (Nat×Operand)->Option (List (Nat×Value))
 |[]=>some []
 |(i,x)::xs=>match ey ρ x,uo ρ xs with
  | .val v,some vs=>some ((i,v)::vs)| _,_=>none
abbrev BY(F:Fr):List (Nat×Operand)->Option (List (Nat×Value)):=uo (dN F)
def places(E:Env)(cT:List (Nat×Nat))(i:Nat):Option (Nat×Nat):=match cT[i]? with
 |some (nj,off)=>match E nj with
  |some h1=>some (off,h1.size)| none=>none
 |none=>none
def D2(E:Env)(cT:List (Nat×Nat)):Bool:=cT.all λf=>(E f.1).isSome
def rowOf(zero:List Value)(n:Nat):List Value:=(List.range n).map λi=>zero[i%zero.length]!
def BZ(zero:List Value)(n:Nat):rowOf zero n=(madeCells zero.toArray n).toList:=by simp[rowOf,madeCells]
def IntKind.nk:IntKind->IntKind->Bool
 | .i8,.i8 | .i16,.i16 | .i32,.i32 | .i64,.i64 | .u8,.u8 | .u16,.u16 | .u32,.u32 | .u64,.u64=>true| _,_=>false
def mg(op:BinOp)(dT:Option eE)(x y:dW)(K:Value->Prop)(other:Prop):Prop:=
 match x,y with
 | .val (.int k a),.val (.int cO b)=>
  match op with
  | .shl=>tb b λj=>bb k (a*2^(min j k.bits)) λr=>K (.int k r)
  | .shr=>tb b λj=>K (.int k (a.fdiv (2^(min j k.bits))))
  |op=>bif IntKind.nk k cO then
    (match op with
    | .add=>bb k (a+b) λr=>K (.int k r)
    | .sub=>bb k (a-b) λr=>K (.int k r)
    | .mul=>bb k (a*b) λr=>K (.int k r)
    | .quo=>qa b (bb k (a.tdiv b) λr=>K (.int k r))| .rem=>qa b (K (.int k (a.tmod b)))
    | .and | .or | .xor | .andNot=>(match vu op k a b with
     |some r=>K (.int k r)| none=>False)
    |op=>(match yQ op a b with
     |some r=>K (.bool r)| none=>False))
   else False
 | .val (.string a),.val (.string b)=>
  match op with
  | .eql=>K (.bool (decide (a=b)))| .neq=>K (.bool (!decide (a=b)))| _=>other
 | .val (.bool a),.val (.bool b)=>
  match dT with
  |some { bT:=.bool,.. }=>
   (match op with
   | .eql=>K (.bool (a == b))| .neq=>K (.bool (!(a == b)))| _=>other)
  |_=>other
 |_,_=>other
inductive fU(P:Program)(op:BinOp)(t:Nat)(x y:Operand)(p q:dW)(K:Value->Prop)(other:Prop):Prop
 |mk(hc fG v:Value)(aK:p=.val hc)(aL:q=.val fG)(h:∀ w,(do eqGuard op t x y hc fG;binOp op t hc fG:Sem Value).run P w=.ok v w)(k:K v)| other (h:other)
def cY(X:dw)(op:Op)(ρ:Operand->dW)(C:dX)(I:a5)(M:List aF)(V:dW->Prop)(other:Prop):Prop:=
 match op with
 | .move x | .assign x=>V (ρ x)
 | .pick c a b=>
  match ρ c with
  | .lit c=>V (bif c then ρ a else ρ b)| .val (.bool c)=>V (Kd c (ey ρ a) (ey ρ b))| _=>False
 | .unOp op _ x=>
  match op,ρ x with
  | .not,.lit b=>V (.lit (!b))| .not,.val (.bool b)=>V (.val (.bool (!b)))| .neg,.val (.int k n)=>bb k (0-n) λr=>V (.val (.int k r))
  |_,_=>other
 | .binOp op t x y _=>mg op (X.E t) (ey ρ x) (ey ρ y) (λv=>V (.val v)) (fU X.P op t x y (ey ρ x) (ey ρ y) (λv=>V (.val v)) other)
 | .load t x=>
  match X.E t with
  |some i=>
   (match ρ x with
   | .ref s off=>
    (match C s with
    |some cs=>bif Nat.ble (off+i.size) cs.length then V (.val (pack i.bT.agg ((cs.drop off).take i.size)))else False| none=>False)
   | .val (.pointer (some a))=>aw I M a i.size λvs=>V (.val (pack i.bT.agg vs))
   |_=>False)
  |none=>False
 | .nilCheck x=>
  match ρ x with
  | .ref s off=>V (.ref s off)| .val (.pointer (some a))=>V (.val (.pointer (some a)))| _=>other
 | .fieldAddr t x i=>
  match X.E t with
  |some { bT:=.struct cT,.. }=>
   (match cT[i]? with
   |some (nj,off)=>
    (match X.E nj,ρ x with
    |some h1,.ref s o'=>bif Nat.beq h1.size 0 then False else V (.ref s (o'+off))| some h1,.val (.pointer (some a))=>bif Nat.beq h1.size 0 then False else V (.val (.pointer (some (a.add off))))| _,_=>False)
   |none=>False)
  |_=>False
 | .field t x i=>
  match X.E t,ey ρ x with
  |some { bT:=.struct cT,.. },.val (.agg cs)=>
   (match cT[i]? with
   |some (nj,off)=>
    (match X.E nj with
    |some h1=>bif Nat.ble (off+h1.size) cs.size then V (.val (pack h1.bT.agg ((cs.toList.drop off).take h1.size)))else False| none=>False)
   |none=>False)
  |_,_=>False
 | .indexAddr t x i=>
  match X.E t,ey ρ i with
  |some { bT:=.slice e,.. },.val (.int _ k)=>
   (match X.E e,ey ρ x with
   |some aP,.val (.slice a n _)=>bl a n aP.size k λad=>V (.val (.pointer (some ad)))
   |_,_=>False)
  |some { bT:=.array n e,.. },.val (.int _ k)=>
   (match X.E e,ρ x with
   |some aP,.ref s o'=>dR n k λj=>V (.ref s (o'+j*aP.size))
   |some aP,.val (.pointer (some a))=>dR n k λj=>V (.val (.pointer (some (a.add (j*aP.size)))))
   |_,_=>False)
  |_,_=>False
 | .index t x i=>
  match X.E t,ey ρ x,ey ρ i with
  |some { bT:=.string,.. },.val (.string s),.val (.int _ k)=>yR s k λb=>V (.val (.int .u8 b.toNat))
  |some { bT:=.array n e,.. },.val (.agg cs),.val (.int _ k)=>
   (match X.E e with
   |some aP=>bif Nat.beq (n*aP.size) cs.size then dR n k λj=>V (.val (pack aP.bT.agg ((cs.toList.drop (j*aP.size)).take aP.size)))else False
   |none=>False)
  |_,_,_=>False
 | .build t parts=>
  match X.E t,uo ρ parts.toList with
  |some i,some vs=>
   (match i.bT with
   | .struct cT=>bif D2 X.E cT then(match um (places X.E cT) i.zero vs with
    |some cells=>V (.val (.agg cells.toArray))| none=>False)else False
   | .array _ e=>(match X.E e with
    |some aP=>(match um (λj=>some (j*aP.size,aP.size)) i.zero vs with
     |some cells=>V (.val (.agg cells.toArray))| none=>False)
    |none=>False)
   |_=>False)
  |_,_=>False
 | .makeFunc fn first captured=>
  match kJ ρ first.toList,kJ ρ captured.toList with
  |some cT,some cs=>V (.val (.func fn cT.toArray cs.toArray))| _,_=>False
 | .slice t x lo hi mx=>
  match X.E t,ey ρ x,mx with
  |some { bT:=.slice e,.. },.val (.slice a n c),none=>
   (match X.E e,lo.map (ey ρ),hi.map (ey ρ)with
   |some aP,none,none=>V (.val (.slice a n c))| some aP,none,some (.val (.int _ h))=>jI n c none (some h) λ_ h=>V (.val (.slice a h c))
   |some aP,some (.val (.int _ l)),none=>jI n n (some l) none λl _=>V (.val (.slice (if c=l then a else a.map (·.add (l*aP.size))) (n-l) (c-l)))
   |some aP,some (.val (.int _ l)),some (.val (.int _ h))=>jI n c (some l) (some h) λl h=>V (.val (.slice (if c=l then a else a.map (·.add (l*aP.size))) (h-l) (c-l)))
   |_,_,_=>False)
  |some { bT:=.string,.. },.val (.string s),none=>
   (match lo.map (ey ρ),hi.map (ey ρ)with
   |none,none=>V (.val (.string s))| none,some (.val (.int _ h))=>jI s.size s.size none (some h) λ_ h=>V (.val (.string (s.extract 0 h)))
   |some (.val (.int _ l)),none=>jI s.size s.size (some l) none λl _=>V (.val (.string (s.extract l s.size)))
   |some (.val (.int _ l)),some (.val (.int _ h))=>jI s.size s.size (some l) (some h) λl h=>V (.val (.string (s.extract l h)))
   |_,_=>False)
  |_,_,_=>other
 | .extract x i=>
  match ey ρ x with
  | .val (.tuple vs)=>(match vs.toList[i]? with
   |some v=>V (.val v)| none=>False)
  |_=>False
 | .convert s d x=>
  match X.E s,X.E d,ey ρ x with
  |some _,some { bT:=.int k,.. },.val (.int _ n)=>bb k n λr=>V (.val (.int k r))
  |_,_,_=>other
 | .call { callee:=.builtin .len,args,argTypes }=>
  match argTypes.toList,kJ ρ args.toList with
  |[t],some [v]=>
   (match X.E t,v with
   |some { bT:=.slice _,.. },.slice _ n _=>V (.val (.int .i64 n))| some { bT:=.string,.. },.string s=>V (.val (.int .i64 s.size))| some { bT:=.array n _,.. },_=>V (.val (.int .i64 n))| _,_=>other)
  |_,_=>other
 | .call { callee:=.builtin .cap,args,argTypes }=>
  match argTypes.toList,kJ ρ args.toList with
  |[t],some [v]=>
   (match X.E t,v with
   |some { bT:=.slice _,.. },.slice _ _ c=>V (.val (.int .i64 c))| _,_=>other)
  |_,_=>other
 | .call { callee:=.builtin .max,args,.. }=>
  match kJ ρ args.toList with
  |some [.int k a,.int _ b]=>V (.val (.int k (max a b)))| _=>other
 | .call { callee:=.builtin .min,args,.. }=>
  match kJ ρ args.toList with
  |some [.int k a,.int _ b]=>V (.val (.int k (min a b)))| _=>other
 | .call { callee:=.builtin .unsafeSliceData,args,.. }=>
  match kJ ρ args.toList with
  |some [.slice none _ _]=>V (.val (.pointer none))| some [.slice (some a) _ c]=>qa c (V (.val (.pointer (some a))))| _=>other
 |_=>other
def hL(X:dw)(o:Oper)(F:Fr)(C:dX)(I:a5)(M:List aF)(K:hb):Prop:=
 match o.op with
 | .box t x=>
  match o.dst,bU F x with
  |some d,.val v=>
   bif X.hs.contains d then cy I M λb=>K (hr (qT F d) d (.val (.pointer (some ⟨b,0,none⟩)))) (jX C d none) I (⟨b,.cells v.cells t (0,0)⟩::M)
   else K (hr (qT F d) d (.ref d 0)) (jX C d (some v.cells.toList)) I M
  |_,_=>False
 | .alloc t=>
  match o.dst,X.E t with
  |some d,some i=>
   bif X.hs.contains d then cy I M λb=>K (hr (qT F d) d (.val (.pointer (some ⟨b,0,none⟩)))) (jX C d none) I (⟨b,.cells i.zero.toArray t (0,0)⟩::M)
   else K (hr (qT F d) d (.ref d 0)) (jX C d (some i.zero)) I M
  |_,_=>False
 | .store t x y=>
  match o.dst,X.E t,bU F y with
  |none,some i,.val v=>
   (match dN F x with
   | .ref s off=>
    (match C s with
    |some cs=>bif Nat.ble (off+i.size) cs.length&&(Nat.beq v.cells.size i.size&&iW v.cells.toList)then K F (jX C s (some (bQ cs off v.cells.toList))) I M else False| none=>False)
   | .val (.pointer (some a))=>bif Nat.beq v.cells.size i.size then cc M a v.cells.toList λM'=>K F C I M' else False
   |_=>False)
  |_,_,_=>False
 | .buildSlice t len parts=>
  match X.E t,BY F parts.toList with
  |some { bT:=.slice e,.. },some vs=>
   (match X.E e with
   |some aP=>
    bif Nat.ble (len*aP.size) 16777216&&Nat.blt 0 (len*aP.size)then
     (match um (λj=>some (j*aP.size,aP.size)) (rowOf aP.zero (len*aP.size)) vs with
     |some cells=>cy I M λb=>K (put o.dst (.val (.slice (some ⟨b,0,none⟩) len len)) F) C I (⟨b,.cells cells.toArray e (0,0)⟩::M)
     |none=>False)
    else(match len,vs with
     |0,[]=>cy I M λb=>K (put o.dst (.val (.slice (some ⟨b,0,none⟩) 0 0)) F) C I (⟨b,.cells #[] e (0,0)⟩::M)
     |_,_=>False)
   |none=>False)
  |_,_=>False
 | .makeSlice t l c=>
  match X.E t,bU F l,bU F c with
  |some { bT:=.slice e,.. },.val (.int _ l),.val (.int _ c)=>
   (match X.E e with
   |some aP=>qU l c aP.bytes λn m=>cy I M λb=>K (put o.dst (.val (.slice (some ⟨b,0,none⟩) n m)) F) C I (⟨b,.cells (rowOf aP.zero (m*aP.size)).toArray e (0,0)⟩::M)
   |none=>False)
  |_,_,_=>False
 | .call { callee:=.value f,args,.. }=>
  match bU F f,nh F args.toList with
  | .val (.func (.func g) first cap),some vs=>a9 X.cL X.P g (first.toList++vs++cap.toList) I M λv I' M'=>K (put o.dst (.val v) F) C I' M'
  |_,_=>bE X o F C I M K
 |op=>cY X op (dN F) C I M (λx=>K (put o.dst x F) C I M) (bE X o F C I M K)
inductive c0(c b:Bool)(Y N:Prop):Prop
 |mk(h:c=b->Y)(bg:c=!b->N)
def vw(X:dw)(ops:List Oper):List Oper->Fr->dX->a5->List aF->hb->Prop
 |[],F,C,I,M,K=>K F C I M
 |o::au,F,C,I,M,K=>
  match o.guard with
  |none=>hL X o F C I M λF C I M=>vw X ops au F C I M K
  |some (j,b)=>
   match(ops[j]?).bind (·.dst)with
   |none=>False
   |some d=>
    match F d with
    | .lit c=>bif c == b then hL X o F C I M λF C I M=>vw X ops au F C I M K else vw X ops au (put o.dst (.val undef) F) C I M K
    | .val (.bool c)=>c0 c b (hL X o (hr F d (.lit b)) C I M λF C I M=>vw X ops au F C I M K) (vw X ops au (put o.dst (.val undef) (hr F d (.lit !b))) C I M K)| .val (.tuple _)=>vw X ops au (put o.dst (.val undef) F) C I M K| _=>False
def hW{a b:Nat}(h:¬ a=b):Nat.beq a b=false:=by
 cases ag:Nat.beq a b with
 |false=>rfl| true=>exact absurd (cj ag) h
def r2(a:Nat):Nat.beq a a=true:=Nat.beq_refl a
def Gt(w:World)(o:Obj){i:Nat}(h:i<w.heap.size):(w.alloc o).heap[i]?=w.heap[i]?:=by show(w.heap.push o)[i]?=_;simp[Array.getElem?_push,Nat.ne_of_lt h]
def Oz(w:World)(o:Obj):(w.alloc o).heap[w.heap.size]?=some o:=by show(w.heap.push o)[w.heap.size]?=_;simp
section
variable{X:dw}{β:Nat->Nat}{a:Act}{w:World}{F:Fr}{C:dX}{I:a5}{M:List aF}{o:Oper}{Q:Exit->Act->World->Prop}{next:Act->World->Prop}{K:hb}
def yU(h:∀ t,fe β (F t) (a.tmps.getD t undef))(x:Operand):fe β (dN F x) (a.eval x):=by
 cases x with
 |tmp t=>exact h t| const v=>cases v<;>exact rfl
 |global g=>exact rfl| func f=>exact rfl
def dJ(h:∀ t,fe β (F t) (a.tmps.getD t undef)){x:Operand}(ab:bU F x=.val v):a.eval x=v:=by
 have U:=yU h x;unfold bU ey at ab;split at ab
 ·rename_i b ag;rw[ag]at U;cases ab;exact U
 ·rw[ab]at U;exact U
def vx(h:∀ t,fe β (F t) (a.tmps.getD t undef)){x:Operand}(ab:dN F x=.val v):a.eval x=v:=by have U:=yU h x;rw[ab]at U;exact U
def OA(h:∀ t,fe β (F t) (a.tmps.getD t undef)){x:Operand}{b:Bool}(ab:dN F x=.lit b):a.eval x=.bool b:=by have U:=yU h x;rw[ab]at U;exact U
def B0(h:∀ t,fe β (F t) (a.tmps.getD t undef)){x:Operand}{s:Nat}(ab:dN F x=.ref s off):a.eval x=.pointer (some ⟨β s,off,none⟩):=by have U:=yU h x;rw[ab]at U;exact U
def UY(h:∀ t,fe β (F t) (a.tmps.getD t undef))(x:Operand):fe β (bU F x) (a.eval x):=by
 have U:=yU h x;unfold bU ey;split
 ·rename_i b ag;rw[ag]at U;exact U
 ·exact U
def uq(h:∀ t,fe β (F t) (a.tmps.getD t undef)):∀ {xs:List Operand} {vs:List Value},nh F xs=some vs->xs.map a.eval=vs
 |[],vs,ab=>by simp[nh,kJ]at ab;simp[ab]
 |x::xs,vs,ab=>by
  unfold nh kJ at ab;split at ab;·rename_i v tc U aa;cases ab;simp[dJ h U,uq h aa]
  ·cases ab
def Kg(h:∀ t,fe β (F t) (a.tmps.getD t undef)):∀ {xs:List (Nat×Operand)} {vs:List (Nat×Value)},BY F xs=some vs->(xs.map λ(i,x)=>(i,a.eval x))=vs
 |[],vs,ab=>by simp[BY,uo]at ab;simp[ab]
 |(i,x)::xs,vs,ab=>by
  unfold BY uo at ab;split at ab;·rename_i v tc U aa;cases ab;simp[dJ h U,Kg h aa]
  ·cases ab
def kk(bV:∀ c,o.op≠.defer c)(h:(execOp a.eval o).run X.P w=.ok (.value v) w')(ae:next (a.put o.dst v) w'):o.wpIn (hK X) 0 X.P a w next Q:=
 ⟨λ_ _=>trivial,by rw[Kb _ _ _ bV,h];exact ae⟩
def D3(bV:∀ c,o.op≠.defer c)(h:(execOp a.eval o).run X.P w=.ok .skip w')(ae:next (a.put o.dst undef) w'):o.wpIn (hK X) 0 X.P a w next Q:=
 ⟨λ_ _=>trivial,by rw[Kb _ _ _ bV,h];exact ae⟩
def UZ(a:Act)(d t:Nat)(v:Value)(ah:d<a.tmps.size):(a.put (some d) v).tmps.getD t undef=if t=d then v else a.tmps.getD t undef:=by
 simp only[Act.put,p8,DW];by_cases h:t=d
 ·subst h;simp[ah]
 ·simp[h,s9 h]
def OB(h:∀ t,fe β (F t) (a.tmps.getD t undef)){d:Nat}{x:dW}(ah:d<a.tmps.size)(ab:fe β x v)(t:Nat):fe β (hr F d x t) ((a.put (some d) v).tmps.getD t undef):=by
 rw[UZ a d t v ah];unfold hr;by_cases U:t=d
 ·subst U;simp only[r2,a4,s'];exact ab
 ·have:Nat.beq t d=false:=hW U;simp only[this,aQ,b8 U];exact h t
def U0(w:World)(g:Nat)(cs:Array Value):pq w (w.setRow g cs):=by
 unfold World.setRow
 first | exact⟨rfl,rfl⟩ | (split<;>exact⟨rfl,rfl⟩)
def Kh(w:World)(g:Nat)(o:Obj):pq w (w.putObj g o):=by unfold World.putObj;exact⟨rfl,rfl⟩
def Marks.mono(h:Marks X a w I M){I':a5}{M':List aF}(hm:∀ r,w5 X w I M r->w5 X w' I' M' r):Marks X a w' I' M':=by obtain⟨bj,U,aa,af⟩:=h;exact⟨bj,U,aa,λr al=>hm r (af r al)⟩
def db.put(h:db X β a w F C I M)(ah:∀ d,dst=some d->d<X.n){x:dW}(ab:fe β x v):db X β (a.put dst v) w (put dst x F) C I M:=by
 cases dst with
 |none=>exact h
 |some d=>
  refine { h with size:=?_,defers:=h.defers,ak:=?_ };·simp[Act.put,h.size]
  ·exact OB h.ak (by rw[h.size];exact ah d rfl) ab
def e1.heap(h:e1 I M w)(aR:w'.heap=w.heap):e1 I M w':=
 { i:=by rw[aR];exact h.i,m:=by rw[aR];exact h.m,d:=h.d,aG:=h.aG }
def db.world(h:db X β a w F C I M)(aR:w'.heap=w.heap)(aD:pq w w':=by exact⟨rfl,rfl⟩):db X β a w' F C I M:=
 { h with
  holds:={ i:=by rw[aR];exact h.holds.i,m:=by rw[aR];exact h.holds.m,d:=h.holds.d,aG:=h.holds.aG }
  defers:=h.defers.mono λr al=>{ al with ai:=by rw[aR];exact al.ai }
  cC:=λs cs ax=>{ h.cC s cs ax with ai:=by rw[aR];exact(h.cC s cs ax).ai }
  dS:=by rw[aR];exact h.dS
  out:=h.out.trans aD
  sz:=by rw[aR];exact h.sz }
def e1.alloc(h:e1 I M w)(o:Obj):e1 I M (w.alloc o) where
 i b x ag:=by have U:=h.i b x ag;rw[Gt w o (ma.1 U).1];exact U
 m x ab:=by have U:=h.m x ab;rw[Gt w o (ma.1 U).1];exact U
 d:=h.d
 aG:=h.aG
def e1.lt(h:e1 I M w){x:aF}(ab:x∈M):x.num<w.heap.size:=(ma.1 (h.m x ab)).1
def e1.D4(h:e1 I M w){b:Nat}{o:Obj}(ag:I b=some o):b<w.heap.size:=(ma.1 (h.i b o ag)).1
def e1.td(h:e1 I M w):I w.heap.size=none:=by
 cases ag:I w.heap.size with
 |none=>rfl| some o=>exact absurd (h.D4 ag) (Nat.lt_irrefl _)
def e1.r3(h:e1 I M w):∀ x∈M,x.num≠w.heap.size:=λx ab e=>by have:=h.lt ab;omega
def e1.cons(h:e1 I M w)(o:Obj):e1 I (⟨w.heap.size,o⟩::M) (w.alloc o) where
 i:=(h.alloc o).i
 m x ab:=by
  rcases eu.1 ab with rfl | ab;·exact Oz w o
  ·exact(h.alloc o).m x ab
 d x ab:=by
  rcases eu.1 ab with rfl | ab;·exact h.td
  ·exact h.d x ab
 aG:=by simp only[dQ,mN];refine⟨λhm=>?_,h.aG⟩;obtain⟨x,ab,e⟩:=eh.1 hm;exact h.r3 x ab e
def yS.alloc{b:Nat}{cs:List Value}(h:yS X w I M b cs)(o:Obj):yS X (w.alloc o) I M b cs where
 ai:=by obtain⟨T,bO⟩:=h.ai;exact⟨T,by rw[Gt w o (ma.1 bO).1];exact bO⟩
 aq:=h.aq
 kI:=h.kI
 fh:=h.fh
def yS.lt{b:Nat}{cs:List Value}(h:yS X w I M b cs):b<w.heap.size:=by obtain⟨T,bO⟩:=h.ai;exact(ma.1 bO).1
def yS.OC{b:Nat}{cs:List Value}(h:yS X w I M b cs)(o:Obj):yS X (w.alloc o) I (⟨w.heap.size,o⟩::M) b cs where
 ai:=(h.alloc o).ai
 aq:=h.aq
 kI:=h.kI
 fh x ab:=by
  rcases eu.1 ab with rfl | ab
  ·exact λe=>by have:=h.lt;simp only at e;omega
  ·exact h.fh x ab
def w5.alloc{r:Nat}(h:w5 X w I M r)(o:Obj):w5 X (w.alloc o) I M r:=
 { h with ai:=by rw[Gt w o (ma.1 h.ai).1];exact h.ai }
def w5.OC{r:Nat}(h:w5 X w I M r)(o:Obj):w5 X (w.alloc o) I (⟨w.heap.size,o⟩::M) r:=by
 refine { h.alloc o with fh:=λx ab=>?_ };rcases eu.1 ab with rfl | ab
 ·have U:=(ma.1 h.ai).1;simp only;omega
 ·exact h.fh x ab
def OD(h:∀ b,b<X.B->b ∉ X.cL->w.heap[b]?=X.ay.heap[b]?)(cI:X.B<=w.heap.size)(o:Obj):∀ b,b<X.B->b ∉ X.cL->(w.alloc o).heap[b]?=X.ay.heap[b]?:=λb ag ar=>by rw[Gt w o (by omega)];exact h b ag ar
def db.qb(h:db X β a w F C I M)(o:Obj):db X β a (w.alloc o) F C I (⟨w.heap.size,o⟩::M) where
 size:=h.size
 defers:=h.defers.mono λr al=>al.OC o
 holds:=h.holds.cons o
 ak:=h.ak
 cC s cs ax:=(h.cC s cs ax).OC o
 inj:=h.inj
 iY:=h.iY
 ih:=h.ih
 own x ab:=by
  rcases eu.1 ab with rfl | ab;·exact .inr h.sz
  ·exact h.own x ab
 dS:=OD h.dS h.sz o
 out:=h.out
 sz:=by have:=h.sz;simp;omega
def db.OE(h:db X β a w F C I M)(d:Nat):db X β a w (qT F d) (jX C d none) I M where
 size:=h.size
 defers:=h.defers
 holds:=h.holds
 ak t:=by
  have U:=h.ak t;unfold qT;cases cB:F t with
  |ref s off=>
   rw[cB]at U;simp only;cases Nat.beq s d;·exact U
   ·trivial
  |_=>rw[cB]at U;exact U
 cC s cs ax:=by
  unfold jX at ax;cases ag:Nat.beq s d with
  |true=>simp[ag]at ax| false=>simp[ag]at ax;exact h.cC s cs ax
 inj s cH U aa:=h.inj s cH (λe=>U (by simp[jX,e])) (λe=>aa (by simp[jX,e]))
 iY:=h.iY
 ih:=h.ih
 own:=h.own
 dS:=h.dS
 out:=h.out
 sz:=h.sz
def db.U1(h:db X β a w F C I M)(d:Nat)(ah:d<X.n)(cs:List Value)(T:Nat) :
  ∃ pt,db X pt (a.put (some d) (.pointer (some ⟨w.heap.size,0,none⟩))) (w.alloc (.cells cs.toArray T (0,0))) (hr (qT F d) d (.ref d 0)) (jX C d (some cs)) I M:=by
 have ay:=h.OE d;let pt:Nat->Nat:=λs=>if s=d then w.heap.size else β s
 refine⟨pt,?_⟩;have yV:∀ t,fe pt (qT F d t) (a.tmps.getD t undef):=λt=>by
  have U:=ay.ak t;cases cB:qT F d t with
  |ref s off=>
   rw[cB]at U;have ax:s≠d:=by
    intro e;subst e;unfold qT at cB;split at cB
    ·rename_i cH Ki U2;cases ag:Nat.beq cH s with
     |true=>simp[ag]at cB| false=>simp[ag]at cB;obtain⟨rfl,_⟩:=cB;simp at ag
    ·rename_i bM;exact bM _ _ cB
   simp only[fe,pt,b8 ax];exact U
  |_=>rw[cB]at U;exact U
 exact {
  size:=by simp[Act.put,h.size]
  defers:=h.defers.mono λr al=>al.alloc _
  holds:=h.holds.alloc _
  ak:=OB yV (by rw[h.size];exact ah) (by simp[fe,pt])
  cC:=λs cs' ax=>by
   by_cases e:s=d;·subst e;simp[jX]at ax;subst ax;simp only[pt,cF rfl];exact { ai:=⟨T,Oz w _⟩,aq:=h.sz,kI:=h.holds.td,fh:=h.holds.r3 }
   ·have ag:Nat.beq s d=false:=hW e;simp[jX,ag]at ax;simp only[pt,b8 e];exact(h.cC s cs' ax).alloc _
  inj:=λs cH U aa he=>by
   by_cases e:s=d<;>by_cases a':cH=d
   ·rw[e,a']
   ·exfalso;have ag:Nat.beq cH d=false:=hW a';simp[jX,ag]at aa;obtain⟨c,aJ⟩:=J3.1 aa;have:=(h.cC cH c aJ).lt;simp only[pt,cF e,b8 a']at he;omega
   ·exfalso;have ag:Nat.beq s d=false:=hW e;simp[jX,ag]at U;obtain⟨c,aJ⟩:=J3.1 U;have:=(h.cC s c aJ).lt;simp only[pt,b8 e,cF a']at he;omega
   ·have ag:Nat.beq s d=false:=hW e;have ht:Nat.beq cH d=false:=hW a';simp[jX,ag]at U;simp[jX,ht]at aa;simp only[pt,b8 e,b8 a']at he;exact h.inj s cH U aa he
  iY:=h.iY
  ih:=h.ih
  own:=h.own
  dS:=OD h.dS h.sz _
  out:=h.out
  sz:=by have:=h.sz;simp;omega }
def dY(a:Addr)(h:a.spot=none)(j:Nat):a.add j=⟨a.block,a.off+j,none⟩:=by
 obtain⟨b,o,s⟩:=a;simp only at h;subst h;unfold Addr.add;split<;>simp_all
def w6{b:Nat}(aB:w.heap[b]?=some (.cells cs T ak))(j:Nat):w.cell? ⟨b,j,none⟩=cs[j]?:=by simp[World.cell?,aB]
variable{P:Program}{t:Nat}{i:eE}
def k5.run_sizeOf(h:k5 P t i)(w:World):(sizeOf t).run P w=.ok i.size w:=by obtain⟨inf,z,U,aa,_⟩:=h.inf;simp[sizeOf,typeInfo,U,aa]
def k5.Gu(h:k5 P t i)(w:World):∃ z,(zeroValue t).run P w=.ok z w/\z.cells.toList=i.zero:=by obtain⟨inf,z,U,aa,af,aN,bq⟩:=h.inf;exact⟨z,by simp[zeroValue,typeInfo,U,aN],bq⟩
def k5.afo(h:k5 P t i)(w:World):∃ d,(underlying t).run P w=.ok d w/\fF d=i.bT:=by obtain⟨d,U,aa⟩:=h.fM;exact⟨d,run_underlying U w,aa⟩
def k5.U3(h:k5 P t i)(w:World):(isAgg t).run P w=.ok i.bT.agg w:=by
 obtain⟨d,U,aa⟩:=h.afo w;rw[<-aa];unfold isAgg;simp only[cG,U,ck];cases d<;>rfl
def afp(aE:vs.length=1):vs=[vs.headD undef]:=by
 match vs,aE with
 |[v],_=>rfl
def Kj(h:k5 P t i){a:Addr}(ax:a.spot=none)(aB:w.heap[a.block]?=some (.cells cs T ak))
  (aj:(cs.toList.drop a.off).take i.size=vs) (aE:vs.length=i.size):(loadVar t a).run P w=.ok (pack i.bT.agg vs) w:=by
 have aJ:∀ j v,vs[j]?=some v->w.cell? (a.add j)=some v:=by
  intro j v an;rw[dY a ax,w6 aB];rw[<-aj,mM]at an;split at an;·rw[s8]at an;simpa using an
  ·cases an
 unfold loadVar;simp only[cG,h.U3,ck];cases Gv:i.bT.agg with
 |true=>simp only[s',cG,h.run_sizeOf,ck,<-aE];rw[run_loadCells_list w a vs aJ];simp[pack]| false=>have U:=h.Kc Gv;rw[U]at aE;have jx:=afp aE;have:=aJ 0 (vs.headD undef) (by rw[jx];simp);have aH:a.add 0=a:=rfl;rw[aH]at this;simp[this,pack]
def B1(h:iW vs=true):∀ v∈vs,v.oneCell'=true:=by simpa[iW]using h
def Kk(h:k5 P t i){a:Addr}(ax:a.spot=none)(aB:w.heap[a.block]?=some (.cells cs T (0,0)))(cI:v.cells.size=i.size)(ag:a.off+v.cells.toList.length<=cs.size)(U:iW v.cells.toList=true) :
  (storeVar t a v).run P w=.ok () (w.setRow a.block (bQ cs.toList a.off v.cells.toList).toArray):=by
 obtain⟨b,o,s⟩:=a;simp only at ax aB ag;subst ax;unfold storeVar;simp only[cG,h.run_sizeOf,ck,cI,ne_eq,not_true,mO,Sem.run_ite];have:=run_storeCells_at (P:=P) b o T v.cells.toList 0 cs w aB (by simpa using ag) (B1 U);simp only[p']at this;simp only[bQ];simpa using this
def db.U4(h:db X β a w F C I M){s:Nat}{cs:List Value}(ax:C s=some cs)(cs':List Value):db X β a (w.setRow (β s) cs'.toArray) F (jX C s (some cs')) I M:=by
 have ag:=h.cC s cs ax;obtain⟨T,bO⟩:=ag.ai;exact {
  size:=h.size
  defers:=h.defers.mono λr al=>by refine { al with ai:=?_ };rw[setRow_other _ _ _ _ (λe=>by have U:=al.ai;rw[e,bO]at U;cases U)];exact al.ai
  holds:={
   i:=λb o jY=>by rw[setRow_other _ _ _ _ (λe=>by rw[e,ag.kI]at jY;cases jY)];exact h.holds.i b o jY
   m:=λx ab=>by rw[setRow_other _ _ _ _ (ag.fh x ab)];exact h.holds.m x ab
   d:=h.holds.d
   aG:=h.holds.aG }
  ak:=h.ak
  cC:=λcH c' te=>by
   by_cases e:cH=s;·subst e;simp[jX,r2]at te;subst te;exact { ai:=⟨T,setRow_heap _ _ _ _ _ _ bO⟩,aq:=ag.aq,kI:=ag.kI,fh:=ag.fh }
   ·simp[jX,hW e]at te;have ht:=h.cC cH c' te;obtain⟨n3,Gw⟩:=ht.ai;refine { ai:=⟨n3,?_⟩,aq:=ht.aq,kI:=ht.kI,fh:=ht.fh };rw[setRow_other _ _ _ _ (λa'=>e (h.inj cH s (by simp[te]) (by simp[ax]) a'))];exact Gw
  inj:=λs1 s2 U aa=>h.inj s1 s2 (λe=>by
    unfold jX at U;cases aL:Nat.beq s1 s with
    |true=>have:=cj aL;subst this;rw[ax]at e;cases e| false=>rw[aL]at U;exact U e) (λe=>by
    unfold jX at aa;cases aL:Nat.beq s2 s with
    |true=>have:=cj aL;subst this;rw[ax]at e;cases e| false=>rw[aL]at aa;exact aa e)
  iY:=h.iY
  ih:=h.ih
  own:=h.own
  dS:=λb ht ar=>by rw[setRow_other _ _ _ _ (λe=>by have:=ag.aq;omega)];exact h.dS b ht ar
  out:=h.out.trans (U0 _ _ _)
  sz:=by have:=h.sz;simpa using this }
def db.Ag(h:db X β a w F C I M){bi post:List aF}{g:Nat}{cs':Array Value}(a2:M=bi++⟨g,.cells cs T (0,0)⟩::post) :
  db X β a (w.setRow g cs') F C I (bi++⟨g,.cells cs' T (0,0)⟩::post):=by
 subst a2;have gx:(⟨g,.cells cs T (0,0)⟩:aF)∈bi++⟨g,.cells cs T (0,0)⟩::post:=by simp
 have aB:w.heap[g]?=some (.cells cs T (0,0)):=h.holds.m _ gx;have bV:=h.holds.aG;simp only[gW,dQ]at bV;have bM:∀ x,x∈bi\/x∈post->x.num≠g:=by
  intro x ab e;rw[D1]at bV;obtain⟨_,aa,af⟩:=bV;rcases ab with ab | ab;·exact af x.num (eh.2 ⟨x,ab,rfl⟩) g (by simp) e
  ·rw[mN]at aa;exact aa.1 (eh.2 ⟨x,ab,e⟩)
 have mem:∀ x,x∈bi++(⟨g,.cells cs' T (0,0)⟩:aF)::post->x=⟨g,.cells cs' T (0,0)⟩\/(x∈bi\/x∈post):=by
  intro x ab;simp only[dV,eu]at ab;rcases ab with ab | ab | ab;·exact .inr (.inl ab)
  ·exact .inl ab
  ·exact .inr (.inr ab)
 have back:∀ x,x∈bi\/x∈post->x∈bi++(⟨g,.cells cs T (0,0)⟩:aF)::post:=by
  intro x ab;simp only[dV,eu];rcases ab with ab | ab;·exact .inl ab
  ·exact .inr (.inr ab)
 exact {
  size:=h.size
  defers:=h.defers.mono λr al=>by
   have B2:g≠r:=al.fh _ gx;refine { al with ai:=?_,fh:=λx ab=>?_ };·rw[setRow_other _ _ _ _ (s9 B2)];exact al.ai
   ·rcases mem x ab with rfl | ab
    ·exact B2
    ·exact al.fh x (back x ab)
  holds:={
   i:=λb o jY=>by rw[setRow_other _ _ _ _ (λe=>by have:=h.holds.d _ gx;simp only at this;rw[e,this]at jY;cases jY)];exact h.holds.i b o jY
   m:=λx ab=>by
    rcases mem x ab with rfl | ab;·exact setRow_heap _ _ _ _ _ _ aB
    ·rw[setRow_other _ _ _ _ (bM x ab)];exact h.holds.m x (back x ab)
   d:=λx ab=>by
    rcases mem x ab with rfl | ab;·exact h.holds.d ⟨g,.cells cs T (0,0)⟩ gx
    ·exact h.holds.d x (back x ab)
   aG:=by simpa[gW]using bV }
  ak:=h.ak
  cC:=λs c ax=>by
   have ag:=h.cC s c ax;obtain⟨n3,Gw⟩:=ag.ai;have jZ:g≠β s:=ag.fh _ gx;refine { ai:=⟨n3,?_⟩,aq:=ag.aq,kI:=ag.kI,fh:=λx ab=>?_ };·rw[setRow_other _ _ _ _ (s9 jZ)];exact Gw
   ·rcases mem x ab with rfl | ab
    ·exact jZ
    ·exact ag.fh x (back x ab)
  inj:=h.inj
  iY:=h.iY
  ih:=h.ih
  own:=λx ab=>by
   rcases mem x ab with rfl | ab;·exact h.own ⟨g,.cells cs T (0,0)⟩ gx
   ·exact h.own x (back x ab)
  dS:=λb ag ar=>by
   rw[setRow_other _ _ _ _ (λe=>by
    rcases h.own _ gx with U | U;·simp only at U;exact ar (e ▸ U)
    ·simp only at U;omega)]
   exact h.dS b ag ar
  out:=h.out.trans (U0 _ _ _)
  sz:=by have:=h.sz;simpa using this }
def iX.heap(h:e1 I M w){b:Nat}{o:Obj}(ae:iX I M b o):w.heap[b]?=some o:=by
 rcases ae with ae | ⟨x,ab,rfl,rfl⟩
 ·exact h.i b o ae
 ·exact h.m x ab
def afq{aY:List Value}{x:Value}{xs:List Value}(h:off+1+xs.length<=aY.length):bQ (aY.set off x) (off+1) xs=bQ aY off (x::xs):=by
 unfold bQ;rw[List.take_set,List.drop_set,cF (by omega),iT (by omega:off<aY.length)];have e:(List.take off aY++[aY[off]'(by omega)]).set off x=List.take off aY++[x]:=by rw[List.set_append,b8 (by simp;omega)];simp[Gn (by omega:off<=aY.length)]
 rw[e];simp[p9,Gq 1]
def U5(off:Nat):∀ (xs:List Value) (k:Nat) (aY:List Value),off+k+xs.length<=aY.length -> (xs.zipIdx k).foldl (λ(cs:Array Value) (p:Value×Nat)=>cs.setIfInBounds (off+p.2) p.1) aY.toArray=(bQ aY (off+k) xs).toArray
 |[],k,aY,_=>by simp[bQ]
 |x::xs,k,aY,aE=>by simp only[eM]at aE;simp only[List.zipIdx_cons,uj];rw[List.setIfInBounds_toArray,U5 off xs (k+1) _ (by simp;omega)];rw[show off+(k+1)=off+k+1 from by omega,afq (by omega)]
def fill_eq(place:Nat->Option (Nat×Nat)):∀ (vs:List (Nat×Value)) (cells r:List Value),um place cells vs=some r->Instr.fill place cells.toArray vs=some r.toArray
 |[],cells,r,h=>by simp[um]at h;simp[Instr.fill,h]
 |(i,v)::au,cells,r,h=>by
  unfold um at h;unfold Instr.fill;split at h;·cases h
  ·rename_i off size aK;simp only[aK];cases aJ:(Nat.beq v.cells.size size&&Nat.ble (off+size) cells.length)with
   |false=>rw[aJ]at h;cases h
   |true=>
    rw[aJ]at h;simp only[a4]at h;rw[ct]at aJ;have U:=cj aJ.1;have aa:=bP aJ.2;have aC:decide (v.cells.size≠size)=false:=by simp[U]
    have aA:decide (off+v.cells.size > cells.toArray.size)=false:=by simp;omega
    rw[aC,aA];simp only[Bool.or_false,lN,mO];have be:=fill_eq place au _ r h;rw[<-be];congr 1;have:=U5 off v.cells.toList 0 cells (by simp;omega);simp only[p']at this;rw[<-this,<-Oq];simp
end
def lr.le{I I':a5}{M M':List aF}(h:lr cL I M I' M')(mh:e1 I M w):(∀ b o,I b=some o->I' b=some o)/\e1 I' M' w /\
  (∀ b o,I' b=some o->I b=some o\/∃ x∈M,x.num=b/\x.obj=o/\b ∉ cL)/\(∀ x∈M',x∈M):=by
 induction h with
 |refl=>exact⟨λ_ _ h=>h,mh,λ_ _ h=>.inl h,λ_ h=>h⟩
 | @sub I M M1 I' M' ax k be=>
  have U:e1 I M1 w:=⟨mh.i,λx ab=>mh.m x (ax.subset ab),λx ab=>mh.d x (ax.subset ab),(ax.map _).nodup mh.aG⟩;obtain⟨bW,da,dh,fs⟩:=be U;refine⟨bW,da,λb o ag=>?_,λx ab=>ax.subset (fs x ab)⟩;rcases dh b o ag with h | ⟨x,ab,h⟩;·exact .inl h
  ·exact .inr ⟨x,ax.subset ab,h⟩
 | @perm I M M1 I' M' aK k be=>
  have U:e1 I M1 w:=⟨mh.i,λx ab=>mh.m x (aK.mem_iff.2 ab),λx ab=>mh.d x (aK.mem_iff.2 ab),(aK.map _).nodup_iff.1 mh.aG⟩;obtain⟨bW,da,dh,fs⟩:=be U;refine⟨bW,da,λb o ag=>?_,λx ab=>aK.mem_iff.2 (fs x ab)⟩;rcases dh b o ag with h | ⟨x,ab,h⟩;·exact .inl h
  ·exact .inr ⟨x,aK.mem_iff.2 ab,h⟩
 | @n2 I M I' M' b o post a2 ar k be=>
  subst a2;have bV:=mh.aG;simp only[dQ,mN]at bV;have ag:=mh.d ⟨b,o⟩ (by simp);simp only at ag;have U:e1 (ins I b o) post w:={
   i:=λh2 o' h=>by
    unfold ins at h;by_cases e:h2=b;·subst e;simp only[r2,a4,hq]at h;subst h;exact mh.m ⟨h2,o⟩ (by simp)
    ·simp only[hW e,aQ]at h;exact mh.i _ _ h
   m:=λx ab=>mh.m x (by simp[ab])
   d:=λx ab=>by unfold ins;have e:x.num≠b:=λe=>bV.1 (eh.2 ⟨x,ab,e⟩);simp only[hW e,aQ];exact mh.d x (by simp[ab])
   aG:=bV.2 }
  obtain⟨bW,da,dh,fs⟩:=be U;refine⟨λh2 o' h=>bW h2 o' ?_,da,λh2 o' h=>?_,λx ab=>by simp[fs x ab]⟩
  ·unfold ins;by_cases e:h2=b
   ·subst e;rw[ag]at h;cases h
   ·simp only[hW e,aQ];exact h
  ·rcases dh h2 o' h with h | ⟨x,ab,h⟩
   ·unfold ins at h;by_cases e:h2=b
    ·subst e;simp only[r2,a4,hq]at h;exact .inr ⟨⟨h2,o⟩,by simp,rfl,h,ar⟩
    ·simp only[hW e,aQ]at h;exact .inl h
   ·exact .inr ⟨x,by simp[ab],h⟩
def db.j0{X:dw}{β:Nat->Nat}{F:Fr}{C:dX}{I I':a5}{M M':List aF}(h:db X β a w F C I M)(hw:lr X.cL I M I' M'):db X β a w F C I' M':=by
 obtain⟨bW,da,dh,fs⟩:=hw.le h.holds;exact { h with
  holds:=da
  defers:=h.defers.mono λr al=>by
   refine { al with kI:=?_,fh:=λx ab=>al.fh x (fs x ab) };cases bX:I' r with
   |none=>rfl
   |some o=>
    exfalso;rcases dh _ _ bX with U | ⟨x,ab,U,_⟩;·rw[al.kI]at U;cases U
    ·exact al.fh x ab U
  cC:=λs cs ax=>{ h.cC s cs ax with
   kI:=by
    cases bX:I' (β s)with
    |none=>rfl
    |some o=>
     exfalso;rcases dh _ _ bX with U | ⟨x,ab,U,_⟩;·rw[(h.cC s cs ax).kI]at U;cases U
     ·exact(h.cC s cs ax).fh x ab U
   fh:=λx ab=>(h.cC s cs ax).fh x (fs x ab) }
  iY:=λb o ag=>bW b o (h.iY b o ag)
  ih:=λb o ag=>by
   rcases dh b o ag with U | ⟨x,ab,rfl,_,ar⟩;·exact h.ih b o U
   ·exact .inr ((h.own x ab).resolve_left ar)
  own:=λx ab=>h.own x (fs x ab) }
section
variable{X:dw}{β:Nat->Nat}{a:Act}{w:World}{F:Fr}{C:dX}{I:a5}{M:List aF}{o:Oper}{Q:Exit->Act->World->Prop}{K:hb}
def U6(h:db X β a w F C I M)(ah:∀ d,o.dst=some d->d<X.n)(bV:∀ c,o.op≠.defer c){x:dW}(al:(execOp a.eval o).run X.P w=.ok (.value v) w)(ab:fe β x v)(ae:K (put o.dst x F) C I M):o.wpIn (hK X) 0 X.P a w (Sat X K) Q:=
 kk bV al ⟨_,_,_,_,⟨β,h.put ah ab⟩,ae⟩
def w7(h:db X β a w F C I M)(ah:∀ d,o.dst=some d->d<X.n)(bV:∀ c,o.op≠.defer c)(al:(execOp a.eval o).run X.P w=.ok (.value v) w)(ae:K (put o.dst (.val v) F) C I M):o.wpIn (hK X) 0 X.P a w (Sat X K) Q:=
 U6 (x:=.val v) h ah bV al rfl ae
def pu(k:IntKind)(n:Int)(w:World)(P:Program):(asIntOf (.int k n)).run P w=.ok (k,n) w:=rfl
def IntKind.D5{k cO:IntKind}(h:IntKind.nk k cO=true):k=cO:=by cases k<;>cases cO<;>first | rfl | cases h
def pw(op:BinOp)(t:Nat)(x y:Operand)(k cO:IntKind)(n m:Int)(P:Program)(w:World):(eqGuard op t x y (.int k n) (.int cO m)).run P w=.ok () w:=by
 unfold eqGuard;cases op<;>rfl
def OF(op:BinOp)(t:Nat)(x y:Operand)(n m:ByteArray)(P:Program)(w:World):(eqGuard op t x y (.string n) (.string m)).run P w=.ok () w:=by
 unfold eqGuard;cases op<;>rfl
def U7(op:BinOp)(t:Nat)(x y:Operand)(n m:Bool)(P:Program)(w:World):(eqGuard op t x y (.bool n) (.bool m)).run P w=.ok () w:=by
 unfold eqGuard;cases op<;>rfl
def U8(a b:ByteArray):(a.toList == b.toList)=decide (a=b):=by
 rw[nZ];simp only[beq_iff_eq,eY];constructor
 ·intro h;have U:a.data.toList=b.data.toList:=by rw[ByteArray.toList_eq,ByteArray.toList_eq]at h;exact h
  cases a;cases b;simp only[Ot];exact hJ U
 ·intro h;rw[h]
def run_equal_bool{t:Nat}(hu:P.underlying t=some .bool)(a b:Bool)(w:World):(Op.equal t (.bool a) (.bool b)).run P w=.ok (a == b) w:=by
 have key:∀ d,(Op.equalIn (d+1) t (.bool a) (.bool b)).run P w=.ok (a == b) w:=λd=>by simp only[Op.equalIn,cG,run_underlying hu,ck,dv]
 exact key 9999
def afr(aW:dm X.P X.E)(op:BinOp)(t:Nat)(x y:Operand)(u v:dW)(mP yW:Value)(ab:u=.val mP)(aT:v=.val yW)(U9:Value->Prop)(other:Prop)
  (h:mg op (X.E t) u v U9 other):other\/∃ r,(∀ w,(do eqGuard op t x y mP yW;binOp op t mP yW:Sem Value).run X.P w=.ok r w)/\U9 r:=by
 subst ab;subst aT;unfold mg at h;split at h
 ·rename_i k a cO b aC aA;cases aC;cases aA
  right
  split at h;·obtain⟨j,rfl,⟨r,al,ae⟩⟩:=h;refine⟨_,λw=>?_,ae⟩;simp only[cG,pw,ck,binOp,Op.shift];rw[b8 (by omega)];simp[al]
  ·obtain⟨j,rfl,ae⟩:=h;refine⟨_,λw=>?_,ae⟩;simp only[cG,pw,ck,binOp,Op.shift];rw[b8 (by omega)];simp
  ·rename_i g3 nl;cases h7:IntKind.nk k cO with
   |false=>rw[h7]at h;exact h.elim
   |true=>
    rw[h7]at h;have D6:=IntKind.D5 h7;subst D6;simp only[a4]at h;cases op<;>simp only at h
    case add=>obtain⟨r,al,ae⟩:=h;exact⟨_,λw=>by simp[pw,binOp,Op.intArith,al],ae⟩
    case sub=>obtain⟨r,al,ae⟩:=h;exact⟨_,λw=>by simp[pw,binOp,Op.intArith,al],ae⟩
    case mul=>obtain⟨r,al,ae⟩:=h;exact⟨_,λw=>by simp[pw,binOp,Op.intArith,al],ae⟩
    case quo=>obtain⟨ay,r,al,ae⟩:=h;exact⟨_,λw=>by simp[pw,binOp,Op.intDiv,ay,al],ae⟩
    case rem=>obtain⟨ay,ae⟩:=h;exact⟨_,λw=>by simp[pw,binOp,Op.intDiv,ay],ae⟩
    case and=>exact⟨_,λw=>by simp[pw,binOp,Op.intBits,vu],h⟩
    case or=>exact⟨_,λw=>by simp[pw,binOp,Op.intBits,vu],h⟩
    case xor=>exact⟨_,λw=>by simp[pw,binOp,Op.intBits,vu],h⟩
    case andNot=>exact⟨_,λw=>by simp[pw,binOp,Op.intBits,vu],h⟩
    case shl=>exact(g3 rfl).elim
    case shr=>exact(nl rfl).elim
    case eql=>exact⟨_,λw=>by simp only[cG,pw,ck,binOp,Op.intCmp,yQ];simp;rfl,h⟩
    case neq=>exact⟨_,λw=>by simp only[cG,pw,ck,binOp,Op.intCmp,yQ];simp;rfl,h⟩
    case lss=>exact⟨_,λw=>by simp[pw,binOp,Op.intCmp,yQ],h⟩
    case leq=>exact⟨_,λw=>by simp[pw,binOp,Op.intCmp,yQ],h⟩
    case gtr=>exact⟨_,λw=>by simp[pw,binOp,Op.intCmp,yQ],h⟩
    case geq=>exact⟨_,λw=>by simp[pw,binOp,Op.intCmp,yQ],h⟩
 ·rename_i a b aC aA;cases aC;cases aA;split at h
  ·exact .inr ⟨_,λw=>by simp only[cG,OF,ck,binOp,Op.stringOp,dv,U8],h⟩
  ·exact .inr ⟨_,λw=>by simp only[cG,OF,ck,binOp,Op.stringOp,dv,U8],h⟩
  ·exact .inl h
 ·rename_i a b aC aA;cases aC;cases aA;split at h
  ·rename_i dT sz jh z aI;obtain⟨d,hu,ah⟩:=(aW _ _ aI).fM;have iD:d=.bool:=by cases d<;>simp_all[fF]
   subst iD;split at h;·exact .inr ⟨_,λw=>by simp only[cG,U7,ck,binOp,run_equal_bool hu,dv],h⟩
   ·exact .inr ⟨_,λw=>by simp only[cG,U7,ck,binOp,run_equal_bool hu,dv],h⟩
   ·exact .inl h
  ·exact .inl h
 ·exact .inl h
def OG{args:Array Value}(h:Calls P f args w R)(n:Nat):CallsIn (hK X) n P f args w R:=by have U:=(callsIn_wide (n:=n)).2 h;exact⟨trivial,λcs al=>U.2 cs (room_wide _)⟩
def e1.part(h:e1 I M w){cz Mr:List aF}(a2:M.Perm (cz++Mr)):e1 I cz w:=by
 have h3:∀ x,x∈M ↔ x∈cz\/x∈Mr:=λx=>by rw[a2.mem_iff,dV]
 have bV:((cz++Mr).map (·.num)).Nodup:=(a2.map (·.num)).nodup_iff.1 h.aG;rw[gW,D1]at bV;exact⟨h.i,λx ab=>h.m x ((h3 x).2 (.inl ab)),λx ab=>h.d x ((h3 x).2 (.inl ab)),bV.1⟩
def db.after(h:db X β a w F C I M){cz Mr M':List aF}{I':a5}(a2:M.Perm (cz++Mr))(r4:e1 I' M' w')(fN:Kept I cz w I' M' w'):db X β a w' F C I' (M'++Mr):=by
 have h3:∀ x,x∈M ↔ x∈cz\/x∈Mr:=λx=>by rw[a2.mem_iff,dV]
 have bV:((cz++Mr).map (·.num)).Nodup:=(a2.map (·.num)).nodup_iff.1 h.holds.aG;rw[gW,D1]at bV;have U':∀ x∈Mr,∀ y∈cz,y.num≠x.num:=λx ab y aT=>bV.2.2 y.num (eh.2 ⟨y,aT,rfl⟩) x.num (eh.2 ⟨x,ab,rfl⟩);have afs:∀ x∈Mr,w'.heap[x.num]?=w.heap[x.num]?:=λx ab=>
  fN.dS x.num (h.holds.lt ((h3 x).2 (.inr ab))) (U' x ab)
 exact {
  size:=h.size
  defers:=h.defers.mono λr al=>by
   have a0:=(ma.1 al.ai).1;refine { ai:=?_,aq:=al.aq,kI:=?_,fh:=λx ab=>?_ };·rw[fN.dS _ a0 (λy aT=>al.fh y ((h3 y).2 (.inl aT)))];exact al.ai
   ·cases bX:I' r with
    |none=>rfl
    |some o=>
     exfalso;rcases fN.vv _ _ bX with U | U;·rw[al.kI]at U;cases U
     ·omega
   ·rcases dV.1 ab with ab | ab
    ·rcases fN.w3 x ab with⟨z,bk,B3⟩ | U
     ·rw[<-B3];exact al.fh z ((h3 z).2 (.inl bk))
     ·omega
    ·exact al.fh x ((h3 x).2 (.inr ab))
  holds:={
   i:=r4.i
   m:=λx ab=>by
    rcases dV.1 ab with ab | ab;·exact r4.m x ab
    ·rw[afs x ab];exact h.holds.m x ((h3 x).2 (.inr ab))
   d:=λx ab=>by
    rcases dV.1 ab with ab | ab;·exact r4.d x ab
    ·cases bX:I' x.num with
     |none=>rfl
     |some o=>
      exfalso;rcases fN.vv _ _ bX with U | U;·have:=h.holds.d x ((h3 x).2 (.inr ab));rw[this]at U;cases U
      ·have:=h.holds.lt ((h3 x).2 (.inr ab));omega
   aG:=by
    rw[gW,D1];refine⟨r4.aG,bV.2.1,λp aK q aL e=>?_⟩;obtain⟨x,ab,rfl⟩:=eh.1 aK;obtain⟨y,aT,rfl⟩:=eh.1 aL;rcases fN.w3 x ab with⟨z,bk,B3⟩ | U;·exact U' y aT z bk (B3.trans e)
    ·have:=h.holds.lt ((h3 y).2 (.inr aT));omega }
  ak:=h.ak
  cC:=λs cs ax=>by
   have ag:=h.cC s cs ax;obtain⟨T,bO⟩:=ag.ai;refine { ai:=⟨T,?_⟩,aq:=ag.aq,kI:=?_,fh:=λx ab=>?_ };·rw[fN.dS _ ag.lt (λy aT=>ag.fh y ((h3 y).2 (.inl aT)))];exact bO
   ·cases bX:I' (β s)with
    |none=>rfl
    |some o=>
     exfalso;rcases fN.vv _ _ bX with U | U;·rw[ag.kI]at U;cases U
     ·have:=ag.lt;omega
   ·rcases dV.1 ab with ab | ab
    ·rcases fN.w3 x ab with⟨z,bk,B3⟩ | U
     ·rw[<-B3];exact ag.fh z ((h3 z).2 (.inl bk))
     ·have:=ag.lt;omega
    ·exact ag.fh x ((h3 x).2 (.inr ab))
  inj:=h.inj
  iY:=λb o ag=>fN.le b o (h.iY b o ag)
  ih:=λb o ag=>by
   rcases fN.vv b o ag with U | U;·exact h.ih b o U
   ·exact .inr (iU h.sz U)
  own:=λx ab=>by
   rcases dV.1 ab with ab | ab
   ·rcases fN.w3 x ab with⟨z,bk,B3⟩ | U
    ·rw[<-B3];exact h.own z ((h3 z).2 (.inl bk))
    ·exact .inr (iU h.sz U)
   ·exact h.own x ((h3 x).2 (.inr ab))
  dS:=λb ag ar=>by
   rw[fN.dS b (J8 ag h.sz) (λy aT e=>by
    rcases h.own y ((h3 y).2 (.inl aT))with U | U;·exact ar (e ▸ U)
    ·omega)]
   exact h.dS b ag ar
  out:=h.out.trans fN.out
  sz:=iU h.sz fN.sz }
def db.call(h:db X β a w F C I M){KC:Value->a5->List aF->Prop}(aJ:a9 X.cL P f args I M KC) :
  (Ox P f/\Calls P f args.toArray w λe w'=>∃ v I' M',e=.returned v/\KC v I' M'/\db X β a w' F C I' M')\/(∃ v w' I' M',(callFunc f args.toArray).run P w=.ok (.value v) w'/\KC v I' M'/\db X β a w' F C I' M'):=by
 obtain⟨cW,cz,Mr,post,hd,⟨qV,ax⟩ | ax,ae⟩:=aJ.elim ⟨h.holds.d,h.holds.aG⟩<;>have h:=h.j0 hd<;>have a2:=List.Perm.refl (cz++Mr)
 ·refine .inl ⟨qV,?_⟩;refine(ax w (h.holds.part a2)).mono ?_;rintro e w'⟨v,I',M',rfl,aK,r4,fN⟩;have aH:=h.after a2 r4 fN;exact⟨v,I',M'++Mr,rfl,ae v I' M' fN.le aH.holds.d aK,aH⟩
 ·obtain⟨v,w',I',M',al,aK,r4,fN⟩:=ax w (h.holds.part a2);have aH:=h.after a2 r4 fN;exact .inr ⟨v,w',I',M'++Mr,al,ae v I' M' fN.le aH.holds.d aK,aH⟩
def Va{args:Array Value}(bV:∀ c,o.op≠.defer c)(al:(execOp a.eval o).run X.P w=.ok (.enter f args) w)
  (aJ:Calls X.P f args w λe w'=>∃ v,e=.returned v/\next (a.put o.dst v) w'):o.wpIn (hK X) 0 X.P a w next Q:=by
 refine⟨λ_ _=>trivial,?_⟩;rw[Kb _ _ _ bV,al];refine⟨(λh=>by cases h),?_⟩;refine(OG aJ _).mono ?_;rintro e w'⟨v,rfl,h⟩;exact h
def Vb(z:Value)(Vc:List Value)(h:z.cells.toList=Vc)(n:Nat):(Array.range n).map (z.cells[· % z.cells.size]!)=(rowOf Vc n).toArray:=by subst h;apply hJ;simp[BZ,madeCells]
def k5.struct{t:Nat}{cT:List (Nat×Nat)}(h:k5 P t ⟨sz,jh,z,.struct cT⟩):∃ fields,P.underlying t=some (.struct fields)/\cT=fields.toList.map λf=>(f.type,f.offset):=by
 obtain⟨d,U,aa⟩:=h.fM;cases d<;>simp[fF]at aa
 exact⟨_,U,aa.symm⟩
def k5.slice{t:Nat}(h:k5 P t ⟨sz,jh,z,.slice e⟩):P.underlying t=some (.slice e):=by
 obtain⟨d,U,aa⟩:=h.fM;cases d<;>simp[fF]at aa
 rw[U,aa]
def k5.array{t:Nat}(h:k5 P t ⟨sz,jh,z,.array n e⟩):P.underlying t=some (.array n e):=by
 obtain⟨d,U,aa⟩:=h.fM;cases d<;>simp[fF]at aa
 rw[U,aa.1,aa.2]
def k5.string{t:Nat}(h:k5 P t ⟨sz,jh,z,.string⟩):P.underlying t=some .string:=by
 obtain⟨d,U,aa⟩:=h.fM;cases d<;>simp[fF]at aa
 exact U
def k5.int{P:Program}{t sz jh:Nat}{z:List Value}{k:IntKind}(h:k5 P t ⟨sz,jh,z,.int k⟩):P.underlying t=some (.int k):=by
 obtain⟨d,U,aa⟩:=h.fM;cases d<;>simp[fF]at aa
 rw[U,aa]
def Vd{fields:Array Field}{i nj:Nat}(h:(fields.toList.map λf=>(f.type,f.offset))[i]?=some (nj,off)):∃ f,fields[i]?=some f/\f.type=nj/\f.offset=off:=by
 simp only[yL,Array.getElem?_toList]at h;cases ar:fields[i]? with
 |none=>simp[ar]at h| some f=>simp[ar]at h;exact⟨f,rfl,h.1,h.2⟩
def OH{t:Nat}{i:eE}(h:k5 P t i)(bz:off+i.size<=cs.size)(w:World):(part t cs off).run P w=.ok (pack i.bT.agg ((cs.toList.drop off).take i.size)) w:=by
 unfold part;simp only[cG,h.U3,ck];cases Gv:i.bT.agg with
 |true=>simp only[s',cG,h.run_sizeOf,ck,dv,pack,a4];congr 2;apply hJ;simp[List.take_drop]
 |false=>
  have U:=h.Kc Gv;rw[U]at bz |-;have a0:off<cs.size:=by omega
  simp only[lN,mO,DX a0,dv,pack,aQ];congr 1;rw[fg (by simpa using a0)];simp
def aft{t:Nat}{aP:eE}(aI:P.underlying t=some (.slice e))(he:k5 P e aP){c:Nat}{j:Nat}(an:j<n)(w:World) :
  (Instr.indexAt t (.slice (some ad) n c) (.int fS j)).run P w=.ok (.pointer (some (ad.add (j*aP.size)))) w:=by
 unfold Instr.indexAt;simp only[cG,pu,ck,run_underlying aI,dv];rw[cF ⟨by omega,by omega⟩];simp[he.run_sizeOf]
def Ve{t:Nat}{aP:eE}(aI:P.underlying t=some (.array m e))(he:k5 P e aP){j:Nat}(an:j<m)(w:World) :
  (Instr.indexAt t (.pointer (some ad)) (.int fS j)).run P w=.ok (.pointer (some (ad.add (j*aP.size)))) w:=by
 unfold Instr.indexAt;simp only[cG,pu,ck,run_underlying aI,dv,Instr.sureAddr];rw[cF ⟨by omega,by omega⟩];simp[he.run_sizeOf]
def Vf{P:Program}{E:Env}(aW:dm P E)(w:World):∀ (fields:List Field),D2 E (fields.map λf=>(f.type,f.offset))=true -> ∃ l:List (Nat×Nat),(fields.mapM λf=>(do pure (f.offset,<-sizeOf f.type):Sem (Nat×Nat))).run P w=.ok l w/\∀ i,l[i]?=places E (fields.map λf=>(f.type,f.offset)) i
 |[],_=>⟨[],rfl,λi=>by simp[places]⟩
 |f::cT,h=>by
  simp only[D2,dQ,List.all_cons,ct]at h;obtain⟨h1,np⟩:=J4.1 h.1;obtain⟨l,U,aa⟩:=Vf aW w cT h.2;refine⟨(f.offset,h1.size)::l,?_,λi=>?_⟩;·simp only[Gp,cG,(aW _ _ np).run_sizeOf,ck,dv];rw[U];rfl
  ·cases i with
   |zero=>simp[places,np]| succ i=>simp only[J5,aa];simp[places]
def Vg(aW:dm X.P X.E)(h:db X β a w F C I M){Ah:dW->Prop}(op:Op)(ty:TypeId)(dst:Option Tmp)(pos:String)(after:Array Edge)(guard:Option (Nat×Bool))(aj:cY X op (dN F) C I M Ah other) :
  other\/∃ v x,(execOp a.eval ⟨dst,op,ty,pos,after,guard⟩).run X.P w=.ok (.value v) w/\fe β x v/\Ah x:=by
 have done:∀ {v x},(execOp a.eval ⟨dst,op,ty,pos,after,guard⟩).run X.P w=.ok (.value v) w->fe β x v->Ah x->other\/∃ v x,(execOp a.eval ⟨dst,op,ty,pos,after,guard⟩).run X.P w=.ok (.value v) w/\fe β x v/\Ah x:=
  λU aa af=>.inr ⟨_,_,U,aa,af⟩
 have iE:∀ {v},(execOp a.eval ⟨dst,op,ty,pos,after,guard⟩).run X.P w=.ok (.value v) w->Ah (.val v)->other\/∃ v x,(execOp a.eval ⟨dst,op,ty,pos,after,guard⟩).run X.P w=.ok (.value v) w/\fe β x v/\Ah x:=
  fun {v} U af=>.inr ⟨v,.val v,U,rfl,af⟩
 have ar:=h.ak;cases op
 case move x=>exact done (by simp[execOp]) (yU ar x) aj
 case assign x=>exact done (by simp[execOp]) (yU ar x) aj
 case pick c p q=>
  simp only[cY]at aj;split at aj
  ·rename_i b ag;have aJ:=OA ar ag;cases b
   ·exact done (by simp[execOp,aJ,asBool]) (yU ar q) aj
   ·exact done (by simp[execOp,aJ,asBool]) (yU ar p) aj
  ·rename_i b ag;have aJ:=vx ar ag;refine done (v:=if b then a.eval p else a.eval q) (x:=Kd b (bU F p) (bU F q)) (by simp[execOp,aJ,asBool]) ?_ aj;have U:=UY ar p;have aa:=UY ar q;unfold Kd;split
   ·rename_i x y aC aA;rw[aC]at U;rw[aA]at aa;simp only[fe]at U aa |-;cases b<;>simp[U,aa]
   ·rename_i x y _ aC aA;rw[aC]at U;rw[aA]at aa;simp only[fe]at U aa |-;cases b<;>simp[U,aa]
   ·trivial
  ·exact aj.elim
 case unOp op t x=>
  simp only[cY]at aj;split at aj;·rename_i b ag;exact done (v:=.bool (!b)) (x:=.lit (!b)) (by simp[execOp,OA ar ag,Op.unary]) rfl aj
  ·rename_i b ag;exact iE (v:=.bool (!b)) (by simp[execOp,vx ar ag,Op.unary]) aj
  ·rename_i k n ag;obtain⟨r,al,ae⟩:=aj;exact iE (v:=.int k r) (by simp only[execOp,vx ar ag,Op.unary,Op.intArith,al];simp) ae
  ·exact Or.inl aj
 case binOp op t x y ty'=>
  simp only[cY]at aj;by_cases ab:∃ mP yW,bU F x=.val mP/\bU F y=.val yW
  ·obtain⟨mP,yW,ab,aT⟩:=ab;have fin:∀ r,(∀ w,(do eqGuard op t x y mP yW;binOp op t mP yW:Sem Value).run X.P w=.ok r w)->Ah (.val r)->(other\/∃ v tf,(execOp a.eval ⟨dst,.binOp op t x y ty',ty,pos,after,guard⟩).run X.P w=.ok (.value v) w/\fe β tf v/\Ah tf):=λr al ae=>by refine iE (v:=r) ?_ ae;have:=al w;rw[<-dJ ar ab,<-dJ ar aT]at this;simp only[execOp];simp only[cG]at this |-;rw[this];rfl
   rcases afr aW op t x y _ _ mP yW ab aT _ _ aj with(⟨hc,fG,r,aK,aL,al,ae⟩ | U) | ⟨r,al,ae⟩;·rw[show ey (dN F) x=bU F x from rfl,ab]at aK;rw[show ey (dN F) y=bU F y from rfl,aT]at aL;cases aK;cases aL;exact fin r al ae
   ·exact Or.inl U
   ·exact fin r al ae
  ·unfold mg at aj;split at aj
   ·rename_i aC aA;exact(ab ⟨_,_,aC,aA⟩).elim
   ·rename_i aC aA;exact(ab ⟨_,_,aC,aA⟩).elim
   ·rename_i aC aA;exact(ab ⟨_,_,aC,aA⟩).elim
   ·rcases aj with⟨hc,fG,r,aK,aL,al,ae⟩ | U
    ·exact(ab ⟨_,_,aK,aL⟩).elim
    ·exact Or.inl U
 case load t x=>
  simp only[cY]at aj;split at aj
  ·rename_i i hi;split at aj
   ·rename_i s off ab;have lP:=B0 ar ab;split at aj
    ·rename_i cs ax;cases bz:Nat.ble (off+i.size) cs.length with
     |false=>rw[bz]at aj;exact aj.elim| true=>rw[bz]at aj;have w8:=bP bz;obtain⟨T,bO⟩:=(h.cC s cs ax).ai;refine iE (v:=pack i.bT.agg ((cs.drop off).take i.size)) ?_ aj;have:=Kj (aW _ _ hi) (a:=⟨β s,off,none⟩) rfl bO (vs:=(cs.drop off).take i.size) (by simp) (by simp;omega);simp[execOp,Instr.loadAt,Instr.sureAddr,lP,this]
    ·exact aj.elim
   ·rename_i ad ab;have lP:=vx ar ab;obtain⟨vs,⟨bL,cs,T,ak,ev,jx,aE⟩,ae⟩:=aj;refine iE (v:=pack i.bT.agg vs) ?_ ae;have:=Kj (aW _ _ hi) bL (ev.heap h.holds) jx aE;simp[execOp,Instr.loadAt,Instr.sureAddr,lP,this]
   ·exact aj.elim
  ·exact aj.elim
 case nilCheck x=>
  simp only[cY]at aj;split at aj;·rename_i s off ab;exact done (v:=.pointer (some ⟨β s,off,none⟩)) (x:=.ref s off) (by simp[execOp,B0 ar ab]) rfl aj
  ·rename_i ad ab;exact iE (v:=.pointer (some ad)) (by simp[execOp,vx ar ab]) aj
  ·exact Or.inl aj
 case fieldAddr t x i=>
  simp only[cY]at aj;split at aj
  ·rename_i sz jh z cT aI;obtain⟨fields,hu,rfl⟩:=(aW _ _ aI).struct;split at aj
   ·rename_i nj off jJ;obtain⟨f,ur,rfl,rfl⟩:=Vd jJ;split at aj
    ·rename_i h1 s o' np ab;cases bk:Nat.beq h1.size 0 with
     |true=>rw[bk]at aj;exact aj.elim
     |false=>
      rw[bk]at aj;have ij:h1.size≠0:=λe=>by rw[e]at bk;cases bk
      refine done (v:=.pointer (some ⟨β s,o'+f.offset,none⟩)) (x:=.ref s (o'+f.offset)) ?_ rfl aj;simp[execOp,Instr.fieldAt,run_underlying hu,ur,B0 ar ab,Instr.sureAddr,fieldPlace,(aW _ _ np).run_sizeOf,ij,dY]
    ·rename_i h1 ad np ab;cases bk:Nat.beq h1.size 0 with
     |true=>rw[bk]at aj;exact aj.elim
     |false=>
      rw[bk]at aj;have ij:h1.size≠0:=λe=>by rw[e]at bk;cases bk
      refine iE (v:=.pointer (some (ad.add f.offset))) ?_ aj;simp[execOp,Instr.fieldAt,run_underlying hu,ur,vx ar ab,Instr.sureAddr,fieldPlace,(aW _ _ np).run_sizeOf,ij]
    ·exact aj.elim
   ·exact aj.elim
  ·exact aj.elim
 case field t x i=>
  simp only[cY]at aj;split at aj
  ·rename_i sz jh z cT cs aI ab;obtain⟨fields,hu,rfl⟩:=(aW _ _ aI).struct;split at aj
   ·rename_i nj off jJ;obtain⟨f,ur,rfl,rfl⟩:=Vd jJ;split at aj
    ·rename_i h1 np;cases bk:Nat.ble (f.offset+h1.size) cs.size with
     |false=>rw[bk]at aj;exact aj.elim| true=>rw[bk]at aj;refine iE ?_ aj;simp[execOp,Instr.field,run_underlying hu,ur,dJ ar ab,asAgg,OH (aW _ _ np) (bP bk)]
    ·exact aj.elim
   ·exact aj.elim
  ·exact aj.elim
 case indexAddr t x i=>
  simp only[cY]at aj;split at aj
  ·rename_i sz jh z e fS k aI hi;have hu:=(aW _ _ aI).slice;split at aj
   ·rename_i aP cf n c iF ab;obtain⟨ad,j,rfl,rfl,an,ae⟩:=aj;refine iE ?_ ae;simp[execOp,dJ ar ab,dJ ar hi,aft hu (aW _ _ iF) an]
   ·exact aj.elim
  ·rename_i sz jh z n e fS k aI hi;have hu:=(aW _ _ aI).array;split at aj
   ·rename_i aP s o' iF ab;obtain⟨j,rfl,an,ae⟩:=aj;refine done (v:=.pointer (some ⟨β s,o'+j*aP.size,none⟩)) (x:=.ref s (o'+j*aP.size)) ?_ rfl ae;simp[execOp,B0 ar ab,dJ ar hi,Ve hu (aW _ _ iF) an,dY]
   ·rename_i aP ad iF ab;obtain⟨j,rfl,an,ae⟩:=aj;refine iE ?_ ae;simp[execOp,vx ar ab,dJ ar hi,Ve hu (aW _ _ iF) an]
   ·exact aj.elim
  ·exact aj.elim
 case index t x i=>
  simp only[cY]at aj;split at aj;·rename_i sz jh z s fS k aI ab hi;have hu:=(aW _ _ aI).string;obtain⟨j,rfl,an,ae⟩:=aj;refine iE ?_ ae;simp only[execOp,dJ ar ab,dJ ar hi,Instr.index,cG,pu,ck,run_underlying hu];rw[cF (by omega:(0:Int)<=j)];simp[an]
  ·rename_i sz jh z n e cs fS k aI ab hi;have hu:=(aW _ _ aI).array;split at aj
   ·rename_i aP iF;cases bk:Nat.beq (n*aP.size) cs.size with
    |false=>rw[bk]at aj;exact aj.elim
    |true=>
     rw[bk]at aj;obtain⟨j,rfl,an,ae⟩:=aj;have ij:=cj bk;refine iE ?_ ae;have bz:j*aP.size+aP.size<=cs.size:=by rw[<-ij,<-Nat.succ_mul];exact s7 _ an
     simp only[execOp,dJ ar ab,dJ ar hi,Instr.index,cG,pu,ck,run_underlying hu];rw[cF ⟨by omega,by omega⟩];simp[(aW _ _ iF).run_sizeOf,OH (aW _ _ iF) bz]
   ·exact aj.elim
  ·exact aj.elim
 case build t parts=>
  simp only[cY]at aj;split at aj
  ·rename_i i vs hi jx;have aK:=Kg ar jx;have Ai:(parts.map λ(i,x)=>(i,a.eval x)).toList=vs:=by simpa using aK
   obtain⟨z,bk,yX⟩:=(aW _ _ hi).Gu w;have D7:z.cells=i.zero.toArray:=by rw[<-yX]
   split at aj
   ·rename_i cT oJ;cases bw:D2 X.E cT with
    |false=>rw[bw]at aj;exact aj.elim
    |true=>
     rw[bw]at aj;simp only[a4]at aj;split at aj
     ·rename_i cells w9;obtain⟨sz,jh,afu,bT⟩:=i;simp only at oJ;subst oJ;obtain⟨fields,hu,rfl⟩:=(aW _ _ hi).struct;obtain⟨l,aE,r5⟩:=Vf aW w fields.toList bw;refine iE ?_ aj;have hm:(fields.mapM λf=>(do pure (f.offset,<-sizeOf f.type):Sem (Nat×Nat))).run X.P w=.ok l.toArray w:=by rw[UX,Sem.run_map,aE];rfl
      have oK:=fill_eq _ _ _ _ w9;have afv:(λj=>l.toArray[j]?)=places X.E (fields.toList.map λf=>(f.type,f.offset)):=by funext j;rw[<-r5 j];simp
      simp only[execOp,Instr.build,cG,bk,ck,run_underlying hu,D7,Ai];rw[hm];simp only[ck,afv,oK,dv]
     ·exact aj.elim
   ·rename_i n e oJ;split at aj
    ·rename_i aP iF;split at aj
     ·rename_i cells w9;obtain⟨sz,jh,afu,bT⟩:=i;simp only at oJ;subst oJ;have hu:=(aW _ _ hi).array;refine iE ?_ aj;have oK:=fill_eq _ _ _ _ w9;simp only[execOp,Instr.build,cG,bk,ck,run_underlying hu,D7,Ai,(aW _ _ iF).run_sizeOf,oK,dv]
     ·exact aj.elim
    ·exact aj.elim
   ·exact aj.elim
  ·exact aj.elim
 case makeFunc fn first captured=>
  simp only[cY]at aj;split at aj
  ·rename_i cT cs U aa;have aC:=uq ar U;have aA:=uq ar aa;refine iE ?_ aj;have dO:first.map a.eval=cT.toArray:=by apply hJ;simpa using aC
   have eZ:captured.map a.eval=cs.toArray:=by apply hJ;simpa using aA
   simp[execOp,Instr.makeFunc,dO,eZ]
  ·exact aj.elim
 case slice t x lo hi mx=>
  simp only[cY]at aj;split at aj
  ·rename_i sz jh z e cf n c aI ab;have hu:=(aW _ _ aI).slice;have lP:=dJ ar ab;split at aj
   ·rename_i aP iF dg fT;have B4:lo=none:=by simpa using dg
    have B5:hi=none:=by simpa using fT
    subst B4;subst B5;refine iE ?_ aj;have aC:(if c=0 then cf else cf.map (·.add (0*aP.size)))=cf:=by split<;>cases cf<;>simp[Addr.add]
    simp[execOp,Instr.sliceAt,Instr.slice,Instr.sliceBounds,lP,run_underlying hu,(aW _ _ iF).run_sizeOf,Addr.add]
   ·rename_i aP fS nq iF dg fT;have B4:lo=none:=by simpa using dg
    subst B4;obtain⟨cX,rfl,aR⟩:=w0.1 fT;obtain⟨l,aa,D8,rfl,bz,uu,ae⟩:=aj;refine iE ?_ ae;simp only[execOp,Instr.sliceAt,Instr.slice,Instr.sliceBounds,Instr.sliceBound,lP,cG,run_underlying hu,ck,(aW _ _ iF).run_sizeOf,dv,mc,Af,dJ ar aR,pu];rw[cF ⟨by omega,by omega⟩];simp[Addr.add]
   ·rename_i aP fS Kl iF dg fT;have B5:hi=none:=by simpa using fT
    subst B5;obtain⟨OI,rfl,aR⟩:=w0.1 dg;obtain⟨l,aa,rfl,B6,bz,uu,ae⟩:=aj;simp only[vq,mb]at *;refine iE ?_ ae;simp only[execOp,Instr.sliceAt,Instr.slice,Instr.sliceBounds,Instr.sliceBound,lP,cG,run_underlying hu,ck,(aW _ _ iF).run_sizeOf,dv,mc,Af,dJ ar aR,pu];rw[cF ⟨by omega,by omega⟩];simp
   ·rename_i aP fS Kl afw nq iF dg fT;obtain⟨OI,rfl,aR⟩:=w0.1 dg;obtain⟨cX,rfl,B7⟩:=w0.1 fT;obtain⟨l,aa,rfl,rfl,bz,uu,ae⟩:=aj;refine iE ?_ ae;simp only[execOp,Instr.sliceAt,Instr.slice,Instr.sliceBounds,Instr.sliceBound,lP,cG,run_underlying hu,ck,(aW _ _ iF).run_sizeOf,dv,mc,Af,dJ ar aR,dJ ar B7,pu];rw[cF ⟨by omega,by omega⟩];simp only[dv,ck,qS];rw[cF ⟨by omega,by omega⟩];simp
   ·exact aj.elim
  ·rename_i sz jh z s aI ab;have hu:=(aW _ _ aI).string;have lP:=dJ ar ab;split at aj
   ·rename_i dg fT;have B4:lo=none:=by simpa using dg
    have B5:hi=none:=by simpa using fT
    subst B4;subst B5;refine iE ?_ aj;have aC:s.extract 0 s.size=s:=by apply w1;simp[J6]
    simp[execOp,Instr.sliceAt,Instr.slice,Instr.sliceBounds,lP,run_underlying hu,aC]
   ·rename_i fS nq dg fT;have B4:lo=none:=by simpa using dg
    subst B4;obtain⟨cX,rfl,aR⟩:=w0.1 fT;obtain⟨l,aa,D8,rfl,bz,uu,ae⟩:=aj;refine iE ?_ ae;simp only[execOp,Instr.sliceAt,Instr.slice,Instr.sliceBounds,Instr.sliceBound,lP,cG,run_underlying hu,ck,dv,mc,Af,dJ ar aR,pu];simp only[Ou,lN,mO,cG,dv,ck,pu];rw[cF ⟨by omega,by omega⟩];simp
   ·rename_i fS Kl dg fT;have B5:hi=none:=by simpa using fT
    subst B5;obtain⟨OI,rfl,aR⟩:=w0.1 dg;obtain⟨l,aa,rfl,B6,bz,uu,ae⟩:=aj;simp only[vq,mb]at *;refine iE ?_ ae;simp only[execOp,Instr.sliceAt,Instr.slice,Instr.sliceBounds,Instr.sliceBound,lP,cG,run_underlying hu,ck,dv,mc,Af,dJ ar aR,pu];simp only[Ou,lN,mO,cG,dv,ck,pu];rw[cF ⟨by omega,by omega⟩];simp
   ·rename_i fS Kl afw nq dg fT;obtain⟨OI,rfl,aR⟩:=w0.1 dg;obtain⟨cX,rfl,B7⟩:=w0.1 fT;obtain⟨l,aa,rfl,rfl,bz,uu,ae⟩:=aj;refine iE ?_ ae;simp only[execOp,Instr.sliceAt,Instr.slice,Instr.sliceBounds,Instr.sliceBound,lP,cG,run_underlying hu,ck,dv,mc,Af,dJ ar aR,dJ ar B7,pu];simp only[Ou,lN,mO,cG,dv,ck,pu];rw[cF ⟨by omega,by omega⟩];simp only[dv,ck,qS];rw[cF ⟨by omega,by omega⟩];simp
   ·exact aj.elim
  ·exact Or.inl aj
 case extract x i=>
  simp only[cY]at aj;split at aj
  ·rename_i vs ab;split at aj
   ·rename_i v hi;refine iE ?_ aj;have dx:vs[i]?=some v:=by simpa using hi
    simp[execOp,Instr.extract,dJ ar ab,dx]
   ·exact aj.elim
  ·exact aj.elim
 case convert s d x=>
  simp only[cY]at aj;split at aj;·rename_i atb sz jh z k cO n ax aI ab;have hu:=(aW _ _ aI).int;obtain⟨ds,gK,_⟩:=(aW _ _ ax).fM;obtain⟨r,al,ae⟩:=aj;refine iE ?_ ae;simp only[execOp,convert,dJ ar ab,cG,run_underlying gK,run_underlying hu,ck];simp only[Conv.intToInt,al,dv,ck]
  ·exact Or.inl aj
 case call c=>
  obtain⟨callee,args,argTypes⟩:=c;cases callee with
  |value f=>exact .inl aj| invoke r m=>exact .inl aj
  |builtin b=>
   cases b
   case len=>
    simp only[cY]at aj;split at aj
    ·rename_i t v U aa;have aC:=uq ar aa;have dO:args.map a.eval=#[v]:=by apply hJ;simpa using aC
     have aI:argTypes=#[t]:=by apply hJ;simpa using U
     subst aI;split at aj;·rename_i sz jh z e ad n c bO;have hu:=(aW _ _ bO).slice;refine iE ?_ aj;simp[execOp,resolve,invoke,builtin,Builtin.len_,dO,run_underlying hu,goInt]
     ·rename_i sz jh z s bO;have hu:=(aW _ _ bO).string;refine iE ?_ aj;simp[execOp,resolve,invoke,builtin,Builtin.len_,dO,run_underlying hu,goInt]
     ·rename_i sz jh z n e bO;have hu:=(aW _ _ bO).array;refine iE ?_ aj;simp[execOp,resolve,invoke,builtin,Builtin.len_,dO,run_underlying hu,goInt]
     ·exact Or.inl aj
    ·exact Or.inl aj
   case cap=>
    simp only[cY]at aj;split at aj
    ·rename_i t v U aa;have aC:=uq ar aa;have dO:args.map a.eval=#[v]:=by apply hJ;simpa using aC
     have aI:argTypes=#[t]:=by apply hJ;simpa using U
     subst aI;split at aj;·rename_i sz jh z e ad n c bO;have hu:=(aW _ _ bO).slice;refine iE ?_ aj;simp[execOp,resolve,invoke,builtin,Builtin.cap_,dO,run_underlying hu,goInt]
     ·exact Or.inl aj
    ·exact Or.inl aj
   case max=>
    simp only[cY]at aj;split at aj
    ·rename_i k p cO q aa;have aC:=uq ar aa;have dO:args.map a.eval=#[.int k p,.int cO q]:=by apply hJ;simpa using aC
     refine iE ?_ aj;have hm:(if q > p then q else p)=max p q:=by split<;>omega
     simp only[execOp,resolve,invoke,builtin,Builtin.max_,Builtin.max2,dO,cG,dv,ck,List.foldlM_cons,List.foldlM_nil,hm]
    ·exact Or.inl aj
   case min=>
    simp only[cY]at aj;split at aj
    ·rename_i k p cO q aa;have aC:=uq ar aa;have dO:args.map a.eval=#[.int k p,.int cO q]:=by apply hJ;simpa using aC
     refine iE ?_ aj;have hm:(if q<p then q else p)=min p q:=by split<;>omega
     simp only[execOp,resolve,invoke,builtin,Builtin.min_,Builtin.min2,dO,cG,dv,ck,List.foldlM_cons,List.foldlM_nil,hm]
    ·exact Or.inl aj
   case unsafeSliceData=>
    simp only[cY]at aj;split at aj
    ·rename_i n c aa;have aC:=uq ar aa;have dO:args.map a.eval=#[.slice none n c]:=by apply hJ;simpa using aC
     refine iE ?_ aj;simp only[execOp,resolve,invoke,builtin,dO,cG,dv,ck,Lib.run_unsafeSliceData_nil]
    ·rename_i ad n c aa;obtain⟨af,aj⟩:=aj;have aC:=uq ar aa;have dO:args.map a.eval=#[.slice (some ad) n c]:=by apply hJ;simpa using aC
     refine iE ?_ aj;simp only[execOp,resolve,invoke,builtin,dO,cG,dv,ck,Lib.run_unsafeSliceData_row _ _ _ _ _ _ (show c≠0 by omega)]
    ·exact Or.inl aj
   all_goals exact .inl aj
 all_goals exact .inl aj
def D9(aW:dm X.P X.E)(ah:∀ d,o.dst=some d->d<X.n)(h:Rel X a w F C I M)(aj:hL X o F C I M K):o.wpIn (hK X) 0 X.P a w (Sat X K) Q:=by
 have ba:=h;obtain⟨β,h⟩:=h;obtain⟨dst,op,ty,pos,after,guard⟩:=o;have other:bE X ⟨dst,op,ty,pos,after,guard⟩ F C I M K->(⟨dst,op,ty,pos,after,guard⟩:Oper).wpIn (hK X) 0 X.P a w (Sat X K) Q:=λ⟨h⟩=>h a w Q ba;have ar:=h.ak;have quiet:cY X op (dN F) C I M (λx=>K (Go.V.put dst x F) C I M) (bE X ⟨dst,op,ty,pos,after,guard⟩ F C I M K)->(∀ c,op≠.defer c)->(⟨dst,op,ty,pos,after,guard⟩:Oper).wpIn (hK X) 0 X.P a w (Sat X K) Q:=λaL bV=>by
  rcases Vg aW h op ty dst pos after guard aL with U | ⟨v,x,al,ab,ae⟩;·exact other U
  ·exact U6 (o:=⟨dst,op,ty,pos,after,guard⟩) h ah bV al ab ae
 cases op
 case box t x=>
  simp only[hL]at aj;split at aj
  ·rename_i d v ab;have lP:=dJ ar ab;have al:(execOp a.eval ⟨some d,.box t x,ty,pos,after,guard⟩).run X.P w=.ok (.value (.pointer (some ⟨w.heap.size,0,none⟩))) (w.alloc (.cells v.cells t (0,0))):=by simp[execOp,Instr.box,newVar,newRow,lP,BW]
   have fi:d<X.n:=ah d rfl;cases k6:X.hs.contains d with
   |true=>rw[k6]at aj;obtain⟨aj⟩:=aj;have ae:=aj w.heap.size h.holds.td h.holds.r3;have U:=(h.qb (.cells v.cells t (0,0))).OE d;exact kk (by simp) al ⟨_,_,_,_,⟨β,db.put U (dst:=some d) (x:=.val (.pointer (some ⟨w.heap.size,0,none⟩))) (by simpa using fi) rfl⟩,ae⟩
   |false=>rw[k6]at aj;obtain⟨pt,U⟩:=h.U1 d fi v.cells.toList t;exact kk (by simp) al ⟨_,_,_,_,⟨pt,by simpa using U⟩,aj⟩
  ·exact aj.elim
 case alloc t=>
  simp only[hL]at aj;split at aj
  ·rename_i d i hi;obtain⟨z,bk,yX⟩:=(aW _ _ hi).Gu w;have D7:z.cells=i.zero.toArray:=by rw[<-yX]
   have al:(execOp a.eval ⟨some d,.alloc t,ty,pos,after,guard⟩).run X.P w=.ok (.value (.pointer (some ⟨w.heap.size,0,none⟩))) (w.alloc (.cells i.zero.toArray t (0,0))):=by simp[execOp,Instr.alloc,newVar,newRow,bk,D7,BW]
   have fi:d<X.n:=ah d rfl;cases k6:X.hs.contains d with
   |true=>rw[k6]at aj;obtain⟨aj⟩:=aj;have ae:=aj w.heap.size h.holds.td h.holds.r3;have U:=(h.qb (.cells i.zero.toArray t (0,0))).OE d;exact kk (by simp) al ⟨_,_,_,_,⟨β,db.put U (dst:=some d) (x:=.val (.pointer (some ⟨w.heap.size,0,none⟩))) (by simpa using fi) rfl⟩,ae⟩
   |false=>rw[k6]at aj;obtain⟨pt,U⟩:=h.U1 d fi i.zero t;exact kk (by simp) al ⟨_,_,_,_,⟨pt,U⟩,aj⟩
  ·exact aj.elim
 case store t x y=>
  simp only[hL]at aj;split at aj
  ·rename_i i v hi aT;have xb:=dJ ar aT;split at aj
   ·rename_i s off ab;have lP:=B0 ar ab;split at aj
    ·rename_i cs ax;cases bz:(Nat.ble (off+i.size) cs.length&&(Nat.beq v.cells.size i.size&&iW v.cells.toList))with
     |false=>rw[bz]at aj;exact aj.elim| true=>rw[bz]at aj;simp only[ct]at bz;obtain⟨bz,cI,hM⟩:=bz;have w8:=bP bz;have B8:=cj cI;obtain⟨T,bO⟩:=(h.cC s cs ax).ai;have:=Kk (aW _ _ hi) (a:=⟨β s,off,none⟩) (v:=v) rfl bO B8 (by simp;omega) hM;refine D3 (by simp) (w':=w.setRow (β s) (bQ cs off v.cells.toList).toArray) ?_ ⟨_,_,_,_,⟨β,h.U4 ax (bQ cs off v.cells.toList)⟩,aj⟩;simp only[execOp,Instr.storeAt,lP,xb,Instr.sureAddr,cG,dv,ck];simp only[Oo]at this;rw[this];rfl
    ·exact aj.elim
   ·rename_i ad ab;have lP:=vx ar ab;cases cI:Nat.beq v.cells.size i.size with
    |false=>rw[cI]at aj;exact aj.elim| true=>rw[cI]at aj;obtain⟨bi,post,cs,T,a2,bL,ag,hM,ae⟩:=aj;have B8:=cj cI;have aB:w.heap[ad.block]?=some (.cells cs T (0,0)):=h.holds.m ⟨ad.block,.cells cs T (0,0)⟩ (by rw[a2];simp);have:=Kk (aW _ _ hi) (v:=v) bL aB B8 ag hM;refine D3 (by simp) (w':=w.setRow ad.block (bQ cs.toList ad.off v.cells.toList).toArray) ?_ ⟨_,_,_,_,⟨β,h.Ag a2⟩,ae⟩;simp only[execOp,Instr.storeAt,lP,xb,Instr.sureAddr,cG,dv,ck];rw[this];rfl
   ·exact aj.elim
  ·exact aj.elim
 case buildSlice t len parts=>
  simp only[hL]at aj;split at aj
  ·rename_i sz jh z e vs aI jx;have hu:=(aW _ _ aI).slice;have aK:=Kg ar jx;have Ai:(parts.map λ(i,x)=>(i,a.eval x)).toList=vs:=by simpa using aK
   split at aj
   ·rename_i aP iF;cases bk:(Nat.ble (len*aP.size) 16777216&&Nat.blt 0 (len*aP.size))with
    |false=>
     rw[bk]at aj;simp only[aQ]at aj;split at aj
     ·rename_i afx;obtain⟨aj⟩:=aj;have ae:=aj w.heap.size h.holds.td h.holds.r3;refine kk (by simp) (v:=.slice (some ⟨w.heap.size,0,none⟩) 0 0) (w':=w.alloc (.cells #[] e (0,0))) ?_ ⟨_,_,_,_,⟨β,(h.qb _).put (x:=.val (.slice (some ⟨w.heap.size,0,none⟩) 0 0)) ah rfl⟩,ae⟩;simp only[execOp,Instr.buildSlice,cG,ck,run_underlying hu,(aW _ _ iF).run_sizeOf,Ai];have b':∀ f:Nat->Value,Array.map f (Array.range 0)=#[]:=λf=>by apply Array.ext<;>simp
      simp[newRow,BW,Instr.fill,b']
     ·exact aj.elim
    |true=>
     rw[bk]at aj;simp only[a4]at aj;rw[ct]at bk;have bz:=bP bk.1;have n4:0<len*aP.size:=by simpa using bk.2
     split at aj;·rename_i cells w9;obtain⟨uv,B9,yX⟩:=(aW _ _ iF).Gu w;obtain⟨aj⟩:=aj;have ae:=aj w.heap.size h.holds.td h.holds.r3;refine kk (by simp) (v:=.slice (some ⟨w.heap.size,0,none⟩) len len) (w':=w.alloc (.cells cells.toArray e (0,0))) ?_ ⟨_,_,_,_,⟨β,(h.qb _).put (x:=.val (.slice (some ⟨w.heap.size,0,none⟩) len len)) ah rfl⟩,ae⟩;have oK:=fill_eq _ _ _ _ w9;simp only[execOp,Instr.buildSlice,cG,ck,run_underlying hu,(aW _ _ iF).run_sizeOf];rw[b8 (by omega)];simp only[b8 (show ¬ len*aP.size=0 by omega),cG,B9,ck,dv,Ai,Vb uv aP.zero yX,oK];simp[newRow,BW]
     ·exact aj.elim
   ·exact aj.elim
  ·exact aj.elim
 case makeSlice t l c=>
  simp only[hL]at aj;split at aj
  ·rename_i sz jh z e uw c8 k7 c' aI aE aJ;have hu:=(aW _ _ aI).slice;split at aj
   ·rename_i aP iF;obtain⟨n,m,rfl,rfl,tg,ag,hm,⟨aj⟩⟩:=aj;have ae:=aj w.heap.size h.holds.td h.holds.r3;obtain⟨inf,uv,gL,j1,kl,mQ,B'⟩:=(aW _ _ iF).inf;refine kk (by simp) (v:=.slice (some ⟨w.heap.size,0,none⟩) n m) (w':=w.alloc (.cells (rowOf aP.zero (m*aP.size)).toArray e (0,0))) ?_ ⟨_,_,_,_,⟨β,(h.qb _).put (x:=.val (.slice (some ⟨w.heap.size,0,none⟩) n m)) ah rfl⟩,ae⟩;have gy:((aP.bytes:Nat):Int)*(m:Int)<=281474976710656:=by
     have aa:((aP.bytes*m:Nat):Int)<=281474976710656:=by omega
     simpa using aa
    have:=run_make (P:=X.P) w t e inf uv hu gL mQ uw k7 (n:Int) (m:Int) (by omega) (by omega) (by rw[kl];exact gy) (by omega);simp only[execOp,dJ ar aE,dJ ar aJ,cG,this,ck,dv,qS];have aC:madeCells uv.cells (m*inf.size)=(rowOf aP.zero (m*aP.size)).toArray:=by rw[j1,<-B'];simp[BZ]
    rw[aC]
   ·exact aj.elim
  ·exact aj.elim
 case call c=>
  obtain⟨callee,args,argTypes⟩:=c;cases callee with
  |value f=>
   simp only[hL]at aj;split at aj
   ·rename_i g first cap vs Aj jx
    have aC:=uq ar jx;have dO:args.map a.eval=vs.toArray:=by apply hJ;simpa using aC
    have ff:∀ {n:Next} {w':World},(callFunc g (first.toList++vs++cap.toList).toArray).run X.P w=.ok n w'->(execOp a.eval ⟨dst,.call { callee:=.value f,args,argTypes },ty,pos,after,guard⟩).run X.P w=.ok n w':=λal=>by simp only[execOp,resolve,dJ ar Aj,Deferred.ofValue,cG,dv,ck,dO,invoke];rw[show first++vs.toArray++cap=(first.toList++vs++cap.toList).toArray from by apply hJ;simp];exact al
    rcases h.call aj with⟨qV,Ca⟩ | ⟨v,w',I',M',al,ae,hf⟩;·refine Va (by simp) (f:=g) (args:=(first.toList++vs++cap.toList).toArray) (ff (qV _ _)) ?_;refine Ca.mono ?_;rintro e w'⟨v,I',M',rfl,ae,al⟩;exact⟨v,rfl,_,_,_,_,⟨β,al.put (x:=.val v) ah rfl⟩,ae⟩
    ·exact kk (by simp) (ff al) ⟨_,_,_,_,⟨β,hf.put (x:=.val v) ah rfl⟩,ae⟩
   ·exact other aj
  |invoke r m=>exact quiet aj (by simp)
  |builtin b=>
   cases b
   all_goals exact quiet aj (by simp)
 case defer c=>exact other aj
 all_goals exact quiet aj (by simp)
end
section
variable{X:dw}{β:Nat->Nat}{a:Act}{w:World}{F:Fr}{C:dX}{I:a5}{M:List aF}{o:Oper}{Q:Exit->Act->World->Prop}{K:hb}
def D'{d:Nat}{c:Bool}(h:a.tmps.getD d undef=.bool c):a.tmps[d]?=some (.bool c):=by
 rw[p8]at h;cases ah:a.tmps[d]? with
 |none=>rw[ah]at h;cases h| some v=>rw[ah]at h;simp at h;rw[h]
def Gx{ops:Array Oper}{j d:Nat}(ah:(ops[j]?).bind (·.dst)=some d)(tmps:Array Value):yielded ops tmps j=match tmps[d]? with
  |some (.bool b)=>some b| _=>none:=by
 unfold yielded;rw[ah];rfl
def db.refine(h:db X β a w F C I M){eV:Fr}(cB:∀ t,fe β (eV t) (a.tmps.getD t undef)):db X β a w eV C I M:={ h with ak:=cB }
def Vh(aW:dm X.P X.E)(ops:Array Oper)(vy:∀ a w,Sat X K a w->Q .normal a w):∀ (l:List Oper) (k:Nat),(∀ j,l[j]?=ops[k+j]?)->(∀ o∈l,∀ d,o.dst=some d->d<X.n) -> ∀ {F C I M a w},Rel X a w F C I M->vw X ops.toList l F C I M K->wpOpsIn (hK X) 0 X.P ops Q (List.range' k l.length) a w
 |[],k,_,_,F,C,I,M,a,w,ba,aj=>vy _ _ ⟨F,C,I,M,ba,aj⟩
 |o::au,k,aE,ah,F,C,I,M,a,w,ba,aj=>by
  have ay:ops[k]?=some o:=by simpa using(aE 0).symm
  have n5:∀ j,au[j]?=ops[k+1+j]?:=λj=>by have:=aE (j+1);simpa[p9,Gq 1 j]using this
  have iD:∀ o∈au,∀ d,o.dst=some d->d<X.n:=λo aD=>ah o (by simp[aD]);have vz:=ah o (by simp);have be:=@Vh aW ops vy au (k+1) n5 iD;simp only[eM,Ow,wpOpsIn,ay];have run:∀ {F C I M},Rel X a w F C I M->hL X o F C I M (λF C I M=>vw X ops.toList au F C I M K)->o.wpIn (hK X) 0 X.P a w (wpOpsIn (hK X) 0 X.P ops Q (List.range' (k+1) au.length)) Q:=λba aj=>
   vr (λcf w' ⟨eV,C',I',M',al,ae⟩=>be al ae) (D9 aW vz ba aj)
  have skip:∀ {F C I M},Rel X a w F C I M->vw X ops.toList au (put o.dst (.val undef) F) C I M K->(∀ f,o.about X.P w a.eval=some f->(hK X).fn f)/\wpOpsIn (hK X) 0 X.P ops Q (List.range' (k+1) au.length) (a.put o.dst undef) w:=λ⟨β,al⟩ aj=>
   ⟨λ_ _=>trivial,be ⟨β,al.put (x:=.val undef) vz rfl⟩ aj⟩
  unfold vw at aj;cases aB:o.guard with
  |none=>
   rw[aB]at aj;have hw:Region.wanted o (yielded ops a.tmps)=true:=by simp[Region.wanted,aB]
   rw[cF hw];exact run ba aj
  |some Gy=>
   obtain⟨j,b⟩:=Gy;rw[aB]at aj;simp only at aj;cases an:(ops.toList[j]?).bind (·.dst)with
   |none=>rw[an]at aj;exact aj.elim
   |some d=>
    rw[an]at aj;simp only at aj;have ji:(ops[j]?).bind (·.dst)=some d:=by simpa using an
    have aT:=Gx ji a.tmps;obtain⟨β,al⟩:=ba;have cB:=al.ak d;split at aj
    ·rename_i c aJ;rw[aJ]at cB;have OJ:=D' cB;have Gz:Region.wanted o (yielded ops a.tmps)=(c == b):=by simp[Region.wanted,aB,aT,OJ]
     rw[Gz];cases km:(c == b)with
     |true=>rw[km]at aj;simp only[s'];exact run ⟨β,al⟩ aj| false=>rw[km]at aj;simp only[lN,mO];exact skip ⟨β,al⟩ aj
    ·rename_i c aJ;rw[aJ]at cB;have OJ:=D' cB;have Gz:Region.wanted o (yielded ops a.tmps)=(c == b):=by simp[Region.wanted,aB,aT,OJ]
     rw[Gz];obtain⟨Ea,hN⟩:=aj;have set:∀ x:Bool,c=x->Rel X a w (hr F d (.lit x)) C I M:=λx ab=>⟨β,al.refine λt=>by
      unfold hr;by_cases e:t=d;·subst e;simp only[r2,a4];rw[<-ab];exact cB
      ·simp only[hW e,aQ];exact al.ak t⟩
     by_cases km:c=b
     ·have:(c == b)=true:=by simp[km]
      rw[this];simp only[s'];exact run (set b km) (Ea km)
     ·have aa:c=!b:=by cases c<;>cases b<;>simp_all
      have:(c == b)=false:=by simp[km]
      rw[this];simp only[lN,mO];exact skip (set _ aa) (hN aa)
    ·rename_i vs aJ;rw[aJ]at cB;have Cb:yielded ops a.tmps j=none:=by
      rw[aT];cases lQ:a.tmps[d]? with
      |none=>rfl| some v=>simp only[fe,p8,lQ,mb]at cB;subst cB;rfl
     have Gz:Region.wanted o (yielded ops a.tmps)=false:=by simp[Region.wanted,aB,Cb]
     rw[Gz];simp only[lN,mO];exact skip ⟨β,al⟩ aj
    ·exact aj.elim
end
inductive xd:dW->dW->Prop
 |refl{x}:xd x x| lit {b}:xd (.lit b) (.val (.bool b))| n1 {x}:xd x .n1
def ux:List (Nat×dW)->Fr
 |[],_=>.n1|(t,x)::l,s=>bif Nat.beq s t then x else ux l s
def uy:List (Nat×List Value)->dX
 |[],_=>none|(t,x)::l,s=>bif Nat.beq s t then some x else uy l s
inductive lR(F:Fr):List (Nat×dW)->Prop
 |nil:lR F []| cons {t x l} (h:xd (F t) x) (k:lR F l):lR F ((t,x)::l)
inductive Ak(C:dX):List (Nat×List Value)->Prop
 |nil:Ak C []| cons {t x l} (h:C t=some x) (k:Ak C l):Ak C ((t,x)::l)
def afy{β:Nat->Nat}{x y:dW}(h:xd x y)(ab:fe β x v):fe β y v:=by
 cases h with
 |refl=>exact ab| lit=>exact ab| n1=>trivial
def lR.ok{β:Nat->Nat}{F:Fr}{a:Act}(h:∀ t,fe β (F t) (a.tmps.getD t undef)){l:List (Nat×dW)}(aE:lR F l)(t:Nat):fe β (ux l t) (a.tmps.getD t undef):=by
 induction aE with
 |nil=>trivial
 | @cons fw x l ab k be=>
  unfold ux;by_cases e:t=fw;·subst e;simp only[r2,a4];exact afy ab (h t)
  ·simp only[hW e,aQ];exact be
def Ak.ok{C:dX}{l:List (Nat×List Value)}(aE:Ak C l){s:Nat}{cs:List Value}(h:uy l s=some cs):C s=some cs:=by
 induction aE with
 |nil=>cases h
 | @cons fw x l ab k be=>
  unfold uy at h;by_cases e:s=fw;·subst e;simp only[r2,a4]at h;rw[ab,h]
  ·simp only[hW e,aQ]at h;exact be h
def db.aq{X:dw}{β:Nat->Nat}{F:Fr}{C:dX}{I:a5}{M:List aF}(h:db X β a w F C I M){bK:List (Nat×dW)}{cl:List (Nat×List Value)}(cB:lR F bK)(th:Ak C cl):db X β a w (ux bK) (uy cl) I M:=
 { h with
  ak:=cB.ok h.ak
  cC:=λs cs ax=>h.cC s cs (th.ok ax)
  inj:=λs cH U aa=>by
   obtain⟨fm,aC⟩:=J3.1 U;obtain⟨fj,aA⟩:=J3.1 aa;exact h.inj s cH (by rw[th.ok aC];simp) (by rw[th.ok aA];simp) }
inductive vA where
 |normal| exit (id:Nat)| goto (l:Nat)| ret
abbrev mi:=vA->hb
def Cc(N:hb)(K:mi):mi
 | .normal=>N| .exit id=>K (.exit id)| .goto l=>K (.goto l)| .ret=>K .ret
def Vi(id:Nat)(K:mi):mi
 | .normal=>K .normal| .exit j=>bif Nat.beq j id then K .normal else K (.exit j)| .goto l=>K (.goto l)| .ret=>K .ret
def nr(X:dw)(K:mi):Exit->Act->World->Prop
 | .normal,a,w=>Sat X (K .normal) a w| .exit id,a,w=>Sat X (K (.exit id)) a w| .goto l,a,w=>Sat X (K (.goto l)) a w| .ret,a,w=>Sat X (K .ret) a w| .panic _,_,_=>False| .outgrown,_,_=>False
abbrev Body:=Fr->dX->a5->List aF->mi->Prop
structure Al where
 bK:List (Nat×dW)
 cl:List (Nat×List Value):=[]
 dz:a5
 d':List aF:=[]
inductive uz{ι:Type}(cL:List Nat)(ao:ι->Al)(p:ι->Prop)(F:Fr)(C:dX)(I:a5)(M:List aF):Prop
 |mk(j:ι)(aK:p j)(hw:lr cL I M (ao j).dz (ao j).d')(cB:lR F (ao j).bK)(th:Ak C (ao j).cl)
def OK(body:Body)(K:mi):Nat->hb
 |0=>λ_ _ _ _=>False
 |n+1=>λF C I M=>body F C I M (Cc (OK body K n) K)
inductive ea(cL:List Nat)(body:Body)(F:Fr)(C:dX)(I:a5)(M:List aF)(K:mi):Prop
 |inv {ι:Type} (ao:ι->Al) (inv:ι->Prop) (μ:ι->Nat) (start:uz cL ao inv F C I M) (round:∀ i,inv i->body (ux (ao i).bK) (uy (ao i).cl) (ao i).dz (ao i).d' (Cc (uz cL ao λj=>inv j/\μ j<μ i) K))| afz (n:Nat) (h:OK body K n F C I M)| OL {ι:Type} (ao:ι->Al) (inv:ι->Prop) (μ:ι->Nat) (start:uk I M->uz cL ao inv F C I M) (round:∀ i,inv i->body (ux (ao i).bK) (uy (ao i).cl) (ao i).dz (ao i).d' (Cc (λF C I M=>uk I M->uz cL ao (λj=>inv j/\μ j<μ i) F C I M) K))
inductive cq(X:dw)(c:Code)(F:Fr)(C:dX)(I:a5)(M:List aF)(K:mi):Prop
 |mk(h:∀ a w,Rel X a w F C I M->c.wpIn (hK X) 0 X.P (nr X K) a w)
inductive Km(cL:List Nat)(F:Fr)(C:dX)(I:a5)(M:List aF)(K:hb):Prop
 |go(h:K F C I M)| Cd (l:Al) (hw:lr cL I M l.dz l.d') (cB:lR F l.bK) (th:Ak C l.cl) (h:K (ux l.bK) (uy l.cl) l.dz l.d')
def V(X:dw):Code->Fr->dX->a5->List aF->mi->Prop
 | .skip,F,C,I,M,K=>K .normal F C I M| .label l,F,C,I,M,K=>bif Nat.ble 2 l then Km X.cL F C I M (K .normal)else K .normal F C I M| .ret,F,C,I,M,K=>K .ret F C I M| .exit id,F,C,I,M,K=>K (.exit id) F C I M| .goto l,F,C,I,M,K=>K (.goto l) F C I M| .seq x y,F,C,I,M,K=>V X x F C I M (Cc (λF C I M=>V X y F C I M K) K)| .block id c,F,C,I,M,K=>V X c F C I M (Vi id K)
 | .cond c x y,F,C,I,M,K=>
  match dN F c with
  | .lit b=>bif b then V X x F C I M K else V X y F C I M K| .val (.bool b)=>aM b (V X x F C I M K) (V X y F C I M K)| _=>False
 | .loop c,F,C,I,M,K=>ea X.cL (V X c) F C I M K| .region _ ops false,F,C,I,M,K=>vw X ops.toList ops.toList F C I M (K .normal)| .region id ops true,F,C,I,M,K=>cq X (.region id ops true) F C I M K| .rangeFunc f ps fO body,F,C,I,M,K=>cq X (.rangeFunc f ps fO body) F C I M K| .scope c,F,C,I,M,K=>cq X (.scope c) F C I M K| .refuse _,_,_,_,_,_=>False
def Ce(n:Nat)(ops:Array Oper):Bool:=ops.toList.all λo=>match o.dst with
 |some d=>Nat.blt d n| none=>true
def codeOk(n:Nat):Code->Bool
 | .seq x y=>codeOk n x&&codeOk n y| .block _ c=>codeOk n c| .cond _ x y=>codeOk n x&&codeOk n y| .loop c=>codeOk n c| .region _ ops _=>Ce n ops| _=>true
def Kn{ops:Array Oper}(h:Ce n ops=true):∀ o∈ops.toList,∀ d,o.dst=some d->d<n:=by intro o aD d ah;have:=hI.1 h o aD;rw[ah]at this;simpa using this
def nr.then{X:dw}{N:hb}{K:mi}(az:∀ a w,Sat X N a w->next a w):∀ e a w,nr X (Cc N K) e a w->Exit.then next (nr X K) e a w:=by
 intro e a w h;cases e<;>first | exact az _ _ h | exact h
def Ko{ti:Fence}(J:Nat->Act->World->Prop)(afA:J m a w)
  (round:∀ m a w,J m a w->c.wpIn ti n P (Exit.then (λcf w'=>∃ m',m'<m/\J m' cf w') Q) a w):(Code.loop c).wpIn ti n P Q a w:=by
 intro b k cs mR ag al;have key:∀ j a w,J j a w->∃ e cf w',Q e cf w'/\ArrivesIn (Machine.fenced P ti) P (lone (b.atR a (.code c::.inLoop c::k)) cs w) b k cs e cf w':=by
  intro j
  induction j using Nat.strongRecOn with
  |_ j be=>
   intro a w bX;obtain⟨e,kK,kL,aL,jK⟩:=round j a w bX b (.inLoop c::k) cs mR ag al;cases e with
   |normal=>obtain⟨m',a0,afB⟩:=aL;obtain⟨GA,GB,GC,GD,GF⟩:=be m' a0 kK kL afB;exact⟨GA,GB,GC,GD,.of_steps (StepsIn.trans jK (.one (fenced_calm ag al rfl) stepR_inLoop)) GF⟩
   |exit id=>exact⟨_,kK,kL,aL,.pass (x:=.inLoop c) rfl (λ_ _=>.inl (by simp)) jK⟩| goto l=>exact⟨_,kK,kL,aL,.pass (x:=.inLoop c) rfl (λ_ _=>.inl (by simp)) jK⟩| ret=>exact⟨_,kK,kL,aL,.pass (x:=.inLoop c) rfl (λ_ _=>.inl (by simp)) jK⟩| panic vB=>exact⟨_,kK,kL,aL,.pass (x:=.inLoop c) rfl (λ_ _=>.inl (by simp)) jK⟩| outgrown=>exact⟨_,kK,kL,aL,.pass (x:=.inLoop c) rfl (λ_ _=>.inl (by simp)) jK⟩
 obtain⟨e,cf,w',aL,jK⟩:=key _ a w afA;exact⟨e,cf,w',aL,.of_steps (.one (fenced_calm ag al rfl) stepR_loop) jK⟩
def r6{X:dw}(aW:dm X.P X.E):∀ (c:Code) {F C I M K a w},codeOk X.n c=true->Rel X a w F C I M->V X c F C I M K->c.wpIn (hK X) 0 X.P (nr X K) a w
 | .skip,F,C,I,M,K,a,w,_,ba,aj=>wpIn_skip ⟨F,C,I,M,ba,aj⟩
 | .label l,F,C,I,M,K,a,w,_,ba,aj=>by
  refine wpIn_label ?_;simp only[V]at aj;cases aE:Nat.ble 2 l with
  |false=>rw[aE]at aj;exact⟨F,C,I,M,ba,aj⟩
  |true=>
   rw[aE]at aj;simp only[a4]at aj;cases aj with
   |go h=>exact⟨F,C,I,M,ba,h⟩| Cd l hw cB th h=>obtain⟨β,al⟩:=ba;exact⟨_,_,_,_,⟨β,(al.aq cB th).j0 hw⟩,h⟩
 | .ret,F,C,I,M,K,a,w,_,ba,aj=>wpIn_ret ⟨F,C,I,M,ba,aj⟩| .exit id,F,C,I,M,K,a,w,_,ba,aj=>wpIn_exit ⟨F,C,I,M,ba,aj⟩| .goto l,F,C,I,M,K,a,w,_,ba,aj=>wpIn_goto ⟨F,C,I,M,ba,aj⟩| .seq x y,F,C,I,M,K,a,w,bw,ba,aj=>by simp only[codeOk,ct]at bw;refine wpIn_seq (wpIn_mono (r6 aW x bw.1 ba aj) (nr.then ?_));rintro a w⟨eV,C',I',M',al,ae⟩;exact r6 aW y bw.2 al ae
 | .block id c,F,C,I,M,K,a,w,bw,ba,aj=>by
  refine wpIn_block (wpIn_mono (r6 aW c bw ba aj) ?_);intro e a w h;cases e with
  |exit j=>
   simp only[nr,Vi]at h;simp only[Exit.inBlock];by_cases e:j=id;·subst e;simp only[r2,a4]at h;rw[cF rfl];exact h
   ·simp only[hW e,aQ]at h;rw[b8 e];exact h
  |_=>exact h
 | .cond c x y,F,C,I,M,K,a,w,bw,ba,aj=>by
  simp only[codeOk,ct]at bw;obtain⟨β,al⟩:=ba;simp only[V]at aj;split at aj
  ·rename_i b ag;have aJ:=OA al.ak ag;refine wpIn_cond aJ ?_;cases b
   ·exact r6 aW y bw.2 ⟨β,al⟩ aj
   ·exact r6 aW x bw.1 ⟨β,al⟩ aj
  ·rename_i b ag;have aJ:=vx al.ak ag;refine wpIn_cond aJ ?_;obtain⟨U,aa⟩:=aj;cases b
   ·exact r6 aW y bw.2 ⟨β,al⟩ (aa rfl)
   ·exact r6 aW x bw.1 ⟨β,al⟩ (U rfl)
  ·exact aj.elim
 | .loop c,F,C,I,M,K,a,w,bw,ba,aj=>by
  have be:=@r6 X aW c;simp only[V]at aj;have hinv:∀ {ι:Type} (ao:ι->Al) (inv:ι->Prop) (μ:ι->Nat) (start:uk I M->uz X.cL ao inv F C I M)
    (round:∀ i,inv i->V X c (ux (ao i).bK) (uy (ao i).cl) (ao i).dz (ao i).d' (Cc (λF C I M=>uk I M->uz X.cL ao (λj=>inv j/\μ j<μ i) F C I M) K)),(Code.loop c).wpIn (hK X) 0 X.P (nr X K) a w:=by
   intro ι ao inv μ start round;let J (m:Nat) (a:Act) (w:World):Prop:=∃ i,inv i/\μ i=m/\Rel X a w (ux (ao i).bK) (uy (ao i).cl) (ao i).dz (ao i).d'
   have Am:∀ {p:ι->Prop} {a w},(∀ i,p i->inv i)->Sat X (λF C I M=>uk I M->uz X.cL ao p F C I M) a w->∃ i,p i/\J (μ i) a w:=by rintro p a w aK⟨F,C,I,M,⟨β,al⟩,mf⟩;obtain⟨j,vC,hw,cB,th⟩:=mf ⟨al.holds.d,al.holds.aG⟩;exact⟨j,vC,j,aK j vC,rfl,β,(al.aq cB th).j0 hw⟩
   obtain⟨i0,_,GG⟩:=Am (λ_ h=>h) ⟨F,C,I,M,ba,start⟩;refine Ko J GG ?_;rintro m a w⟨i,hi,rfl,al⟩;refine wpIn_mono (be bw al (round i hi)) ?_;intro e a w h;cases e with
   |normal=>obtain⟨j,⟨an,a0⟩,dn⟩:=Am (λ_ h=>h.1) h;exact⟨_,a0,dn⟩
   |_=>exact h
  cases aj with
  | @inv ι ao inv μ start round=>
   let J (m:Nat) (a:Act) (w:World):Prop:=∃ i,inv i/\μ i=m/\Rel X a w (ux (ao i).bK) (uy (ao i).cl) (ao i).dz (ao i).d'
   have Am:∀ {p:ι->Prop} {a w},(∀ i,p i->inv i)->Sat X (uz X.cL ao p) a w->∃ i,p i/\J (μ i) a w:=by rintro p a w aK⟨F,C,I,M,⟨β,al⟩,⟨j,vC,hw,cB,th⟩⟩;exact⟨j,vC,j,aK j vC,rfl,β,(al.aq cB th).j0 hw⟩
   obtain⟨i0,_,GG⟩:=Am (λ_ h=>h) ⟨F,C,I,M,ba,start⟩;refine Ko J GG ?_;rintro m a w⟨i,hi,rfl,al⟩;refine wpIn_mono (be bw al (round i hi)) ?_;intro e a w h;cases e with
   |normal=>obtain⟨j,⟨an,a0⟩,dn⟩:=Am (λ_ h=>h.1) h;exact⟨_,a0,dn⟩
   |_=>exact h
  |OL ao inv μ start round=>exact hinv ao inv μ start round
  |afz n h=>
   refine Ko (λm a w=>Sat X (OK (V X c) K m) a w) ⟨F,C,I,M,ba,h⟩ ?_;rintro m a w⟨F,C,I,M,al,ae⟩;cases m with
   |zero=>exact ae.elim
   |succ m=>
    refine wpIn_mono (be bw al ae) ?_;intro e a w h;cases e with
    |normal=>exact⟨m,yM m,h⟩| _=>exact h
 | .region id ops false,F,C,I,M,K,a,w,bw,ba,aj=>by refine wpIn_region ?_;have:=Vh (K:=K .normal) (Q:=nr X K) aW ops (λ_ _ h=>h) ops.toList 0 (by simp) (Kn bw) ba aj;simpa[DZ]using this
 | .region id ops true,F,C,I,M,K,a,w,bw,ba,⟨aj⟩=>aj a w ba| .rangeFunc f ps fO body,F,C,I,M,K,a,w,bw,ba,⟨aj⟩=>aj a w ba| .scope c,F,C,I,M,K,a,w,bw,ba,⟨aj⟩=>aj a w ba| .refuse _,F,C,I,M,K,a,w,bw,ba,aj=>aj.elim
def yY(args:List Value):Fr:=λt=>match args[t]? with
 |some v=>.val v| none=>.n1
def qc(X:dw)(F:Fr)(C:dX)(I:a5)(M:List aF):List ResultVar->(List Value->Prop)->Prop
 |[],K=>K []
 | .tmp t::l,K=>match bU F (.tmp t)with
  | .val v=>qc X F C I M l λvs=>K (v::vs)
  |_=>False
 | .cell t ty::l,K=>match dN F (.tmp t),X.E ty with
  | .ref s off,some i=>(match C s with
   |some cs=>bif Nat.ble (off+i.size) cs.length then qc X F C I M l λvs=>K (pack i.bT.agg ((cs.drop off).take i.size)::vs)else False
   |none=>False)
  | .val (.pointer (some a)),some i=>aw I M a i.size λws=>qc X F C I M l λvs=>K (pack i.bT.agg ws::vs)
  |_,_=>False
inductive xe(cL:List Nat)(I:a5)(M:List aF)(post:a5->List aF->Prop):Prop
 |mk(I':a5)(M':List aF)(hw:lr cL I M I' M')(h:post I' M')
def xf(X:dw)(bj:List ResultVar)(post:Value->a5->List aF->Prop):mi:=λex F C I M=>
 let done:Prop:=qc X F C I M bj λvs=>match vs with
  |[v]=>xe X.cL I M (post v)| vs=>xe X.cL I M (post (.tuple vs.toArray))
 match ex with
 | .normal=>done| .ret=>done| _=>False
def Eb(tmps:Array Value):ResultVar->Sem Value
 | .tmp t=>pure (tmps.getD t undef)| .cell a t=>do loadVar t (<-asAddr (tmps.getD a undef))
def afC(fn:Func)(tmps:Array Value):results fn tmps=(do let vs <-fn.results.mapM (Eb tmps);pure (if h:vs.size=1 then vs[0]else .tuple vs)):=by unfold results;congr 1
def Kp{X:dw}(aW:dm X.P X.E){β:Nat->Nat}{a:Act}{w:World}{F:Fr}{C:dX}{I:a5}{M:List aF}(h:db X β a w F C I M):∀ {bj:List ResultVar} {K:List Value->Prop},qc X F C I M bj K -> ∃ vs,K vs/\(bj.mapM (Eb a.tmps)).run X.P w=.ok vs w
 |[],K,aj=>⟨[],aj,rfl⟩
 | .tmp t::l,K,aj=>by
  unfold qc at aj;split at aj;·rename_i v U;have aC:a.tmps.getD t undef=v:=dJ h.ak U;obtain⟨vs,ae,aA⟩:=Kp aW h aj;refine⟨_,ae,?_⟩;simp only[Gp,Eb,cG,dv,ck,aA,aC]
  ·exact aj.elim
 | .cell t ty::l,K,aj=>by
  unfold qc at aj;split at aj
  ·rename_i s off i U hi;have aC:a.tmps.getD t undef=.pointer (some ⟨β s,off,none⟩):=B0 h.ak U;split at aj
   ·rename_i cs ax;cases bz:Nat.ble (off+i.size) cs.length with
    |false=>rw[bz]at aj;exact aj.elim| true=>rw[bz]at aj;obtain⟨vs,ae,aA⟩:=Kp aW h aj;have w8:=bP bz;obtain⟨T,bO⟩:=(h.cC s cs ax).ai;have bx:=Kj (aW _ _ hi) (a:=⟨β s,off,none⟩) rfl bO (vs:=(cs.drop off).take i.size) (by simp) (by simp;omega);refine⟨_,ae,?_⟩;simp only[Gp,Eb,cG,dv,ck,aA,aC,asAddr,bx]
   ·exact aj.elim
  ·rename_i ad i U hi;have aC:a.tmps.getD t undef=.pointer (some ad):=vx h.ak U;obtain⟨ws,⟨bL,cs,T,ak,ev,jx,aE⟩,aj⟩:=aj;obtain⟨vs,ae,aA⟩:=Kp aW h aj;have bx:=Kj (aW _ _ hi) bL (ev.heap h.holds) jx aE;refine⟨_,ae,?_⟩;simp only[Gp,Eb,cG,dv,ck,aA,aC,asAddr,bx]
  ·exact aj.elim
def afD{X:dw}(aW:dm X.P X.E){β:Nat->Nat}{F:Fr}{C:dX}{I:a5}{M:List aF}(h:db X β a w F C I M){K:List Value->Prop}(aj:qc X F C I M fn.results.toList K) :
  ∃ vs,K vs/\(results fn a.tmps).run X.P w=.ok (match vs with | [v]=>v | vs=>.tuple vs.toArray) w:=by
 obtain⟨vs,ae,e⟩:=Kp aW h aj;refine⟨vs,ae,?_⟩;rw[afC];have aC:(fn.results.mapM (Eb a.tmps)).run X.P w=.ok vs.toArray w:=by rw[UX,Sem.run_map,e];rfl
 simp only[cG,aC,ck,dv]
 match vs with
 |[]=>rfl| [v]=>rfl| u::v::l=>simp
def Vj{ti:Fence}{n:Nat}{P:Program}{fn:Func}{tmps:Array Value}{R:Ending->World->Prop}:∀ (bj:List Nat) (w:World),bj.Nodup->(∀ r∈bj,w.heap[r]?=some (.deferred (some []))) -> (∀ w':World,w'.heap.size=w.heap.size->(∀ b,b ∉ bj->w'.heap[b]?=w.heap[b]?)->pq w w'->∃ v,(results fn tmps).run P w'=.ok v w'/\R (.returned v) w')->LeavesInM ti n P fn tmps R (bj.map yT) .returning w
 |[],w,_,_,h=>h w rfl (λ_ _=>rfl) (.refl _)
 |r::bj,w,bV,al,h=>by
  rw[mN]at bV;refine⟨by simp,.inl ⟨r,_,rfl,run_takeDeferred (al r (by simp)),?_⟩⟩;refine Vj bj _ bV.2 (λqW hf=>?_) λw' ax ag aD=>h w' (by rw[ax];simp) (λb OM=>?_) ((Kh _ _ _).trans aD);·have bM:qW≠r:=λe=>bV.1 (e ▸ hf);rw[nY bM];exact al qW (by simp[hf])
  ·simp only[eu,not_or]at OM;rw[ag b OM.2,nY OM.1]
def db.take{X:dw}{β:Nat->Nat}{F:Fr}{C:dX}{I:a5}{M:List aF}(h:db X β a w F C I M){bj:List Nat}(mS:∀ r∈bj,w5 X w I M r)(ax:w'.heap.size=w.heap.size)(ag:∀ b,b ∉ bj->w'.heap[b]?=w.heap[b]?)(aD:pq w w') :
  db X β { a with defers:=[] } w' F C I M:=by
 exact {
  size:=h.size
  defers:=⟨[],rfl,yO,λr al=>by cases al⟩
  holds:={
   i:=λb o jY=>by rw[ag b (λal=>by have:=(mS b al).kI;rw[jY]at this;cases this)];exact h.holds.i b o jY
   m:=λx ab=>by rw[ag _ (λal=>(mS _ al).fh x ab rfl)];exact h.holds.m x ab
   d:=h.holds.d
   aG:=h.holds.aG }
  ak:=h.ak
  cC:=λs cs lS=>by have vD:=h.cC s cs lS;obtain⟨T,bO⟩:=vD.ai;refine { vD with ai:=⟨T,?_⟩ };rw[ag _ (λal=>by have:=(mS _ al).ai;rw[bO]at this;cases this)];exact bO
  inj:=h.inj
  iY:=h.iY
  ih:=h.ih
  own:=h.own
  dS:=λb a0 ar=>by rw[ag _ (λal=>by have:=(mS _ al).aq;omega)];exact h.dS b a0 ar
  out:=h.out.trans aD
  sz:=by rw[ax];exact h.sz }
def nr.ret{X:dw}(aW:dm X.P X.E){post:Value->a5->List aF->Prop}
  (ba:∀ v I M (w:World) (a:Act) (F:Fr) (C:dX),Rel X a w F C I M->post v I M->R (.returned v) w):∀ e a w,nr X (xf X fn.results.toList post) e a w->bodyPostM (hK X) 0 X.P fn R e a w:=by
 have main:∀ a w,Sat X (xf X fn.results.toList post .ret) a w->LeavesInM (hK X) 0 X.P fn a.tmps R a.defers .returning w:=by
  rintro a w⟨F,C,I,M,⟨β,al⟩,ae⟩;simp only[xf]at ae;obtain⟨bj,ah,bV,hm⟩:=al.defers;rw[ah];refine Vj bj w bV (λr hv=>(hm r hv).ai) λw' ax ag aD=>?_;have hf:=al.take hm ax ag aD;obtain⟨vs,aK,ff⟩:=afD aW hf ae;refine⟨_,ff,?_⟩
  match vs,aK with
  |[],⟨I',M',hw,aK⟩=>exact ba _ I' M' w' _ F C ⟨β,hf.j0 hw⟩ aK| [v],⟨I',M',hw,aK⟩=>exact ba _ I' M' w' _ F C ⟨β,hf.j0 hw⟩ aK| u::v::l,⟨I',M',hw,aK⟩=>exact ba _ I' M' w' _ F C ⟨β,hf.j0 hw⟩ aK
 intro e a w h;cases e with
 |normal=>exact main a w h| ret=>exact main a w h| exit id=>obtain⟨F,C,I,M,_,ae⟩:=h;exact ae.elim
 |goto l=>obtain⟨F,C,I,M,_,ae⟩:=h;exact ae.elim
 |panic _=>exact h.elim| outgrown=>exact h.elim
def afE(ar:P.funcs[f]?=some fn)(ag:fn.body.isSome=true)(az:(fn.name == "runtime.NumGoroutine")=false):Ox P f:=by
 intro args w;have ht:fn.body.isNone=false:=by cases h:fn.body<;>simp_all
 simp only[callFunc,cG,run_program,ck,ar,az,lN,mO,ht];rfl
def ON{E:Env}(hs:List Nat)(aW:dm P E)(ar:P.funcs[f]?=some fn)(ag:fn.body=some c)(az:(fn.name == "runtime.NumGoroutine")=false)
 (bw:(codeOk fn.ntmps c&&Nat.ble args.length fn.ntmps)=true) {I:a5} {M:List aF} {post:Value->a5->List aF->Prop}
  (h:∀ B ay a w,Rel ⟨P,E,hs,fn.ntmps,B,ay,I,M.map (·.num),none⟩ a w (yY args) (λ_=>none) I M->c.wpIn (hK ⟨P,E,hs,fn.ntmps,B,ay,I,M.map (·.num),none⟩) 0 P (nr ⟨P,E,hs,fn.ntmps,B,ay,I,M.map (·.num),none⟩ (xf ⟨P,E,hs,fn.ntmps,B,ay,I,M.map (·.num),none⟩ fn.results.toList post)) a w) :
  w4 P f args I M post:=by
 rw[ct]at bw;have cg:=bP bw.2;refine⟨afE ar (by rw[ag];rfl) az,λw mh=>?_⟩;let X:dw:=⟨P,E,hs,fn.ntmps,w.heap.size,w,I,M.map (·.num),none⟩
 have GH:Rel X { tmps:=args.toArray++Array.replicate (fn.ntmps-args.toArray.size) undef,defers:=[] } w (yY args) (λ_=>none) I M:=⟨λ_=>0,{
  size:=by simp[X];omega
  defers:=⟨[],rfl,yO,λr al=>by cases al⟩
  holds:=mh
  ak:=λt=>by
   unfold yY;cases aI:args[t]? with
   |none=>trivial| some v=>have a0:t<args.length:=(kG.1 aI).1;simp only[fe,p8];rw[Array.getElem?_append_left (by simpa using a0)];simp[aI]
  cC:=λs cs ax=>by cases ax
  inj:=λs cH U=>by simp at U
  iY:=λb o ag=>ag
  ih:=λb o ag=>.inl ag
  own:=λx ab=>.inl (eh.2 ⟨x,ab,rfl⟩)
  dS:=λb ag ar=>rfl
  out:=.refl _
  sz:=b2 _ }⟩
 have Kq:=h w.heap.size w _ _ GH;refine(callsIn_wide (n:=0)).1 ?_;have afF:hK X=Fence.wide:=rfl;rw[afF]at Kq;refine callsIn_of_wp_marks ar ag trivial (wpIn_mono Kq (nr.ret (X:=X) aW ?_));rintro v I' M' w' cf eV C'⟨β,al⟩aK;refine⟨v,I',M',rfl,aK,al.holds,?_⟩;exact {
  le:=al.iY
  vv:=al.ih
  w3:=λx ab=>by
   rcases al.own x ab with U | U;·obtain⟨y,aT,e⟩:=eh.1 U;exact .inl ⟨y,aT,e⟩
   ·exact .inr U
  dS:=λb ag bM=>al.dS b ag (λhm=>by
   obtain⟨y,aT,e⟩:=eh.1 hm;exact bM y aT e)
  out:=al.out
  sz:=al.sz }
def An{E:Env}(hs:List Nat)(aW:dm P E)(ar:P.funcs[f]?=some fn)(ag:fn.body=some c)(az:(fn.name == "runtime.NumGoroutine")=false)
 (bw:(codeOk fn.ntmps c&&Nat.ble args.length fn.ntmps)=true) {I:a5} {M:List aF} {post:Value->a5->List aF->Prop}
  (h:∀ B ay,V ⟨P,E,hs,fn.ntmps,B,ay,I,M.map (·.num),none⟩ c (yY args) (λ_=>none) I M (xf ⟨P,E,hs,fn.ntmps,B,ay,I,M.map (·.num),none⟩ fn.results.toList post)) :
  w4 P f args I M post:=
 ON hs aW ar ag az bw λB ay a w al=>by rw[ct]at bw;exact r6 aW c bw.1 al (h B ay)
def bY{E:Env}(hs:List Nat)(aW:dm P E)(ar:P.funcs[f]?=some fn)(ag:fn.body=some c)(az:(fn.name == "runtime.NumGoroutine")=false)
 (bw:(codeOk fn.ntmps c&&Nat.ble args.length fn.ntmps)=true) {I:a5} {M:List aF} {post:Value->a5->List aF->Prop}
  (h:∀ B ay,V ⟨P,E,hs,fn.ntmps,B,ay,I,M.map (·.num),none⟩ c (yY args) (λ_=>none) I M (xf ⟨P,E,hs,fn.ntmps,B,ay,I,M.map (·.num),none⟩ fn.results.toList post)) :
  Spec P f args I M post:=.inl (An hs aW ar ag az bw h)
def Kr(X:dw)(bj:List ResultVar)(post:Value->a5->List aF->Prop):mi:=λex F C I M=>
 let done:Prop:=qc X F C I M bj λvs=>match vs with
  |[v]=>uk I M->xe X.cL I M (post v)| vs=>uk I M->xe X.cL I M (post (.tuple vs.toArray))
 match ex with
 | .normal=>done| .ret=>done| _=>False
def Ks{X:dw}{F:Fr}{C:dX}{I:a5}{M:List aF}:∀ {bj:List ResultVar} {K Ao:List Value->Prop},(∀ vs,K vs->Ao vs)->qc X F C I M bj K->qc X F C I M bj Ao
 |[],K,Ao,h,aj=>h _ aj
 | .tmp t::l,K,Ao,h,aj=>by
  unfold qc at aj |-;split at aj;·exact Ks (λvs=>h _) aj
  ·exact aj.elim
 | .cell t ty::l,K,Ao,h,aj=>by
  unfold qc at aj |-;split at aj
  ·rename_i s off i U hi;split at aj
   ·rename_i cs ax;cases bz:Nat.ble (off+i.size) cs.length with
    |false=>rw[bz]at aj;exact aj.elim| true=>rw[bz]at aj;exact Ks (λvs=>h _) aj
   ·exact aj.elim
  ·obtain⟨ws,a3,aj⟩:=aj;exact⟨ws,a3,Ks (λvs=>h _) aj⟩
  ·exact aj.elim
def nr.afG{X:dw}{bj:List ResultVar}{post:Value->a5->List aF->Prop}:∀ e a w,nr X (Kr X bj post) e a w->nr X (xf X bj post) e a w:=by
 have one:∀ a w,Sat X (Kr X bj post .ret) a w->Sat X (xf X bj post .ret) a w:=by
  rintro a w⟨F,C,I,M,⟨β,al⟩,h⟩;refine⟨F,C,I,M,⟨β,al⟩,Ks (λvs aj=>?_) h⟩;have mf:uk I M:=⟨al.holds.d,al.holds.aG⟩
  match vs,aj with
  |[v],aj=>exact aj mf| [],aj=>exact aj mf| _::_::_,aj=>exact aj mf
 intro e a w h;cases e with
 |normal=>exact one a w h| ret=>exact one a w h| exit id=>obtain⟨F,C,I,M,al,ae⟩:=h;exact ae.elim
 |goto l=>obtain⟨F,C,I,M,al,ae⟩:=h;exact ae.elim
 |panic _=>exact h| outgrown=>exact h
def afH{E:Env}(hs:List Nat)(aW:dm P E)(ar:P.funcs[f]?=some fn)(ag:fn.body=some c)(az:(fn.name == "runtime.NumGoroutine")=false)
 (bw:(codeOk fn.ntmps c&&Nat.ble args.length fn.ntmps)=true) {I:a5} {M:List aF} {post:Value->a5->List aF->Prop}
  (h:∀ B ay,V ⟨P,E,hs,fn.ntmps,B,ay,I,M.map (·.num),none⟩ c (yY args) (λ_=>none) I M (Kr ⟨P,E,hs,fn.ntmps,B,ay,I,M.map (·.num),none⟩ fn.results.toList post)) :
  w4 P f args I M post:=
 ON hs aW ar ag az bw λB ay a w al=>by rw[ct]at bw;exact wpIn_mono (r6 aW c bw.1 al (h B ay)) nr.afG
def OO{E:Env}(hs:List Nat)(aW:dm P E)(ar:P.funcs[f]?=some fn)(ag:fn.body=some c)(az:(fn.name == "runtime.NumGoroutine")=false)
 (bw:(codeOk fn.ntmps c&&Nat.ble args.length fn.ntmps)=true) {I:a5} {M:List aF} {post:Value->a5->List aF->Prop}
  (h:∀ B ay,V ⟨P,E,hs,fn.ntmps,B,ay,I,M.map (·.num),none⟩ c (yY args) (λ_=>none) I M (Kr ⟨P,E,hs,fn.ntmps,B,ay,I,M.map (·.num),none⟩ fn.results.toList post)) :
  Spec P f args I M post:=.inl (afH hs aW ar ag az bw h)
def OP:Value->Value->Bool
 | .bool a,.bool b=>a == b| .int k n,.int cO m=>IntKind.nk k cO&&decide (n=m)| .string s,.string t=>decide (s.data.toList=t.data.toList)| .pointer none,.pointer none=>true| .slice none 0 0,.slice none 0 0=>true| .map none,.map none=>true| .nilFunc,.nilFunc=>true| .nilIface,.nilIface=>true| _,_=>false
def afI:∀ {a b:Value},OP a b=true->a=b:=by
 intro a b h;unfold OP at h;split at h
 ·simp at h;rw[h]
 ·simp only[ct,eY]at h;rw[IntKind.D5 h.1,h.2]
 ·rename_i s t;simp only[eY]at h;have:s=t:=by cases s;cases t;simp only[Ot];exact hJ h
  rw[this]
 all_goals first | rfl | cases h
def Kt:List Value->List Value->Bool
 |[],[]=>true| a::as,b::c1=>OP a b&&Kt as c1| _,_=>false
def Vk:∀ {a b:List Value},Kt a b=true->a=b
 |[],[],_=>rfl| a::as,b::c1,h=>by simp only[Kt,ct]at h;rw[afI h.1,Vk h.2]
 |[],_::_,h=>by cases h
 |_::_,[],h=>by cases h
def OQ(P:Program)(t:Nat)(i:eE):Bool:=
 (match P.info? t with
 |some inf=>decide (inf.size=i.size)&&decide (inf.bytes=i.bytes)&&(match inf.zero with
  |some z=>Kt z.cells.toList i.zero| none=>false)
 |none=>false) &&
 (match P.underlying t with
 |some d=>decide (fF d=i.bT)| none=>false)&&iW i.zero&&decide (i.zero.length=i.size)&&(i.bT.agg||decide (i.size=1))
def afJ{t:Nat}{i:eE}(h:OQ P t i=true):k5 P t i:=by
 simp only[OQ,ct]at h;obtain⟨⟨⟨⟨U,aa⟩,af⟩,aN⟩,bq⟩:=h;refine⟨?_,?_,B1 af,cm aN,λaH=>?_⟩
 ·split at U
  ·rename_i inf hi;simp only[ct,eY]at U;obtain⟨⟨aC,aA⟩,bx⟩:=U;split at bx
   ·rename_i z bk;exact⟨inf,z,hi,aC,aA,bk,Vk bx⟩
   ·cases bx
  ·cases U
 ·split at aa
  ·rename_i d ah;exact⟨d,ah,cm aa⟩
  ·cases aa
 ·rw[aH]at bq;simpa using bq
def afK{E:Env}(n:Nat)(az:∀ t,n<=t->E t=none)(h:((List.range n).all λt=>match E t with
  |some i=>OQ P t i| none=>true)=true):dm P E:=by
 intro t i hi;by_cases aI:t<n
 ·have:=hI.1 h t (me.2 aI);rw[hi]at this;exact afJ this
 ·rw[az t (by omega)]at hi;cases hi
end Go.V
namespace Go.V
variable{a:Act}{c:Code}{cL:List Nat}{P:Program}{f off T sz jh e n m gk bW da dh fs iV kH lO ng po ta vt yP BX Gr:Nat}{args vs z:List Value}{v:Value}{w' w:World}{dst:Option Nat}{cs:Array Value}{ak:Nat×Nat}{R:Ending->World->Prop}{next:Act->World->Prop}{ad:Addr}{fS:IntKind}{other:Prop}{ops:List Oper}{Q:Exit->Act->World->Prop}{fn:Func}{soft h0:Bool}{op:Op}{dK:Array Bool}{A:Array Oper}
def Cf{F:Fr}:lR F [(gk,F gk),(bW,F bW)]:=.cons .refl (.cons .refl (.nil))
def gX{F:Fr}:lR F [(gk,F gk),(bW,F bW),(da,F da)]:=.cons .refl (.cons .refl (.cons .refl (.nil)))
def fo{F:Fr}:lR F [(gk,F gk),(bW,F bW),(da,F da),(dh,F dh)]:=.cons .refl (.cons .refl (.cons .refl (.cons .refl (.nil))))
def jj{F:Fr}:lR F [(gk,F gk),(bW,F bW),(da,F da),(dh,F dh),(fs,F fs)]:=.cons .refl (.cons .refl (.cons .refl (.cons .refl (.cons .refl (.nil)))))
def e7{F:Fr}:lR F [(gk,F gk),(bW,F bW),(da,F da),(dh,F dh),(fs,F fs),(iV,F iV)]:=.cons .refl (.cons .refl (.cons .refl (.cons .refl (.cons .refl (.cons .refl (.nil))))))
def mj{F:Fr}:lR F [(gk,F gk),(bW,F bW),(da,F da),(dh,F dh),(fs,F fs),(iV,F iV),(kH,F kH)]:=.cons .refl (.cons .refl (.cons .refl (.cons .refl (.cons .refl (.cons .refl (.cons .refl (.nil)))))))
def Ap{F:Fr}:lR F [(gk,F gk),(bW,F bW),(da,F da),(dh,F dh),(fs,F fs),(iV,F iV),(kH,F kH),(lO,F lO)]:=.cons .refl (.cons .refl (.cons .refl (.cons .refl (.cons .refl (.cons .refl (.cons .refl (.cons .refl (.nil))))))))
def k8{F:Fr}:lR F [(gk,F gk),(bW,F bW),(da,F da),(dh,F dh),(fs,F fs),(iV,F iV),(kH,F kH),(lO,F lO),(ng,F ng)]:=.cons .refl (.cons .refl (.cons .refl (.cons .refl (.cons .refl (.cons .refl (.cons .refl (.cons .refl (.cons .refl (.nil)))))))))
def atc{F:Fr}:lR F [(gk,F gk),(bW,F bW),(da,F da),(dh,F dh),(fs,F fs),(iV,F iV),(kH,F kH),(lO,F lO),(ng,F ng),(po,F po)]:=.cons .refl (.cons .refl (.cons .refl (.cons .refl (.cons .refl (.cons .refl (.cons .refl (.cons .refl (.cons .refl (.cons .refl (.nil))))))))))
def Vl{F:Fr}:lR F [(gk,F gk),(bW,F bW),(da,F da),(dh,F dh),(fs,F fs),(iV,F iV),(kH,F kH),(lO,F lO),(ng,F ng),(po,F po),(ta,F ta)]:=.cons .refl (.cons .refl (.cons .refl (.cons .refl (.cons .refl (.cons .refl (.cons .refl (.cons .refl (.cons .refl (.cons .refl (.cons .refl (.nil)))))))))))
def atd{F:Fr}:lR F [(gk,F gk),(bW,F bW),(da,F da),(dh,F dh),(fs,F fs),(iV,F iV),(kH,F kH),(lO,F lO),(ng,F ng),(po,F po),(ta,F ta),(vt,F vt)]:=.cons .refl (.cons .refl (.cons .refl (.cons .refl (.cons .refl (.cons .refl (.cons .refl (.cons .refl (.cons .refl (.cons .refl (.cons .refl (.cons .refl (.nil))))))))))))
def ate{F:Fr}:lR F [(gk,F gk),(bW,F bW),(da,F da),(dh,F dh),(fs,F fs),(iV,F iV),(kH,F kH),(lO,F lO),(ng,F ng),(po,F po),(ta,F ta),(vt,F vt),(yP,F yP)]:=.cons .refl (.cons .refl (.cons .refl (.cons .refl (.cons .refl (.cons .refl (.cons .refl (.cons .refl (.cons .refl (.cons .refl (.cons .refl (.cons .refl (.cons .refl (.nil)))))))))))))
def Vm{F:Fr}:lR F [(gk,F gk),(bW,F bW),(da,F da),(dh,F dh),(fs,F fs),(iV,F iV),(kH,F kH),(lO,F lO),(ng,F ng),(po,F po),(ta,F ta),(vt,F vt),(yP,F yP),(BX,F BX)]:=.cons .refl (.cons .refl (.cons .refl (.cons .refl (.cons .refl (.cons .refl (.cons .refl (.cons .refl (.cons .refl (.cons .refl (.cons .refl (.cons .refl (.cons .refl (.cons .refl (.nil))))))))))))))
def atf{F:Fr}:lR F [(gk,F gk),(bW,F bW),(da,F da),(dh,F dh),(fs,F fs),(iV,F iV),(kH,F kH),(lO,F lO),(ng,F ng),(po,F po),(ta,F ta),(vt,F vt),(yP,F yP),(BX,F BX),(Gr,F Gr)]:=.cons .refl (.cons .refl (.cons .refl (.cons .refl (.cons .refl (.cons .refl (.cons .refl (.cons .refl (.cons .refl (.cons .refl (.cons .refl (.cons .refl (.cons .refl (.cons .refl (.cons .refl (.nil)))))))))))))))
def atg{F:Fr}{Vn:Nat}:lR F [(gk,F gk),(bW,F bW),(da,F da),(dh,F dh),(fs,F fs),(iV,F iV),(kH,F kH),(lO,F lO),(ng,F ng),(po,F po),(ta,F ta),(vt,F vt),(yP,F yP),(BX,F BX),(Gr,F Gr),(Vn,F Vn)]:=.cons .refl (.cons .refl (.cons .refl (.cons .refl (.cons .refl (.cons .refl (.cons .refl (.cons .refl (.cons .refl (.cons .refl (.cons .refl (.cons .refl (.cons .refl (.cons .refl (.cons .refl (.cons .refl (.nil))))))))))))))))
def Ec:Op->Bool
 | .move _ | .assign _ | .pick .. | .unOp .. | .binOp .. | .load .. | .nilCheck _ | .fieldAddr .. | .field .. | .indexAddr .. | .index .. | .build .. | .makeFunc .. | .slice .. | .extract .. | .convert ..=>true| .call { callee:=.builtin .len,.. }=>true| .call { callee:=.builtin .cap,.. }=>true| .call { callee:=.builtin .max,.. }=>true| .call { callee:=.builtin .min,.. }=>true| .call { callee:=.builtin .unsafeSliceData,.. }=>true| _=>false
def qX:Op->Bool
 | .load ..=>true| _=>false
def GI(o:Oper)(p:Nat):Bool:=o.after.toList.all λe=>!Region.binds .any e||p.testBit e.on
def qY(ops:List Oper)(p:Nat)(k:Bool):List Nat:=(List.range ops.length).filter λi=>match ops[i]? with
 |some o=>!p.testBit i&&((Ec o.op == k)&&GI o p)| none=>false
def GJ(bc:List Nat)(o:Oper):Nat:=o.after.toList.foldl (λs e=>bif Region.binds .any e then s ||| 2^e.on ||| bc.getD e.on 0 else s) 0
def lT(ops:List Oper):List Nat:=ops.foldl (λbc o=>bc++[GJ bc o]) []
def OR(P:Nat->Prop):List Nat->Prop
 |[]=>True| [i]=>P i| i::l=>P i/\OR P l
inductive hx(soft:Bool)(cL:List Nat)(P:Program)(f:Nat)(args:List Value)(I:a5)(M:List aF)(K:Value->a5->List aF->Prop):Prop
 |mk(post:Value->a5->List aF->Prop)(ax:Spec P f args I [] post)(k:∀ v I' M',(∀ b o,I b=some o->I' b=some o)->post v I' M'->K v I' (M'++M))| qd (cz Mr:List aF) (post:Value->a5->List aF->Prop) (a2:M.Perm (cz++Mr)) (ax:Spec P f args I cz post) (r7:∀ v I' M',post v I' M'->∀ x∈cz,x∈M') (k:∀ v I' M',(∀ b o,I b=some o->I' b=some o)->post v I' M'->K v I' (M'++Mr))| Oy (post:Value->a5->List aF->Prop) (ax:Spec P f args I [] post) (k:∀ v I' M',(∀ b o,I b=some o->I' b=some o)->(∀ x∈M'++M,I' x.num=none)->post v I' M'->K v I' (M'++M))| afL (cz Mr:List aF) (post:Value->a5->List aF->Prop) (a2:M.Perm (cz++Mr)) (ax:Spec P f args I cz post) (r7:∀ v I' M',post v I' M'->∀ x∈cz,x∈M') (k:∀ v I' M',(∀ b o,I b=some o->I' b=some o)->(∀ x∈M'++Mr,I' x.num=none)->post v I' M'->K v I' (M'++Mr))| afM (b:Nat) (o:Obj) (cz Mr:List aF) (post:Value->a5->List aF->Prop) (a2:M.Perm (⟨b,o⟩::(cz++Mr))) (ar:b ∉ cL) (ax:Spec P f args (ins I b o) cz post) (r7:∀ v I' M',post v I' M'->∀ x∈cz,x∈M') (k:∀ v I' M',(∀ c p,ins I b o c=some p->I' c=some p)->(∀ x∈M'++Mr,I' x.num=none)->post v I' M'->K v I' (M'++Mr))| Kf (h:uk I M->hx soft cL P f args I M K)| Vo (Ku:soft=true) (cz Mr:List aF) (post:Value->a5->List aF->Prop) (a2:M.Perm (cz++Mr)) (ax:Spec P f args I cz post) (k:∀ v I' M',(∀ b o,I b=some o->I' b=some o)->post v I' M'->K v I' (M'++Mr))
def hx.elim{I:a5}{M:List aF}{K:Value->a5->List aF->Prop}(mf:uk I M)(h:hx soft cL P f args I M K) :
  ∃ (cW:a5) (cz Mr:List aF) (post:Value->a5->List aF->Prop),lr cL I M cW (cz++Mr)/\(∀ b o,I b=some o->cW b=some o)/\Spec P f args cW cz post /\
   ∀ v I' M',(∀ b o,cW b=some o->I' b=some o)->(∀ x∈M'++Mr,I' x.num=none)->post v I' M'->(soft=true\/∀ x∈M,I' x.num=some x.obj\/x∈M'++Mr)/\K v I' (M'++Mr):=by
 have Vp:∀ {cz Mr:List aF} {post:Value->a5->List aF->Prop} {I':a5},M.Perm (cz++Mr)->(∀ v I' M',post v I' M'->∀ x∈cz,x∈M')->∀ v M',post v I' M'->∀ x∈M,I' x.num=some x.obj\/x∈M'++Mr:=λa2 r7 v M' aa x ab=>by
  right
  rcases dV.1 (a2.mem_iff.1 ab)with ab | ab;·exact dV.2 (.inl (r7 v _ M' aa x ab))
  ·exact dV.2 (.inr ab)
 induction h with
 |mk post ax k=>exact⟨I,[],M,post,.refl,λ_ _ h=>h,ax,λv I' M' U _ aa=>⟨.inr λx ab=>.inr (by simp[ab]),k v I' M' U aa⟩⟩| qd cz Mr post a2 ax r7 k=>exact⟨I,cz,Mr,post,.perm a2 .refl,λ_ _ h=>h,ax,λv I' M' U _ aa=>⟨.inr (Vp a2 r7 v M' aa),k v I' M' U aa⟩⟩| Oy post ax k=>exact⟨I,[],M,post,.refl,λ_ _ h=>h,ax,λv I' M' U af aa=>⟨.inr λx ab=>.inr (by simp[ab]),k v I' M' U af aa⟩⟩| afL cz Mr post a2 ax r7 k=>exact⟨I,cz,Mr,post,.perm a2 .refl,λ_ _ h=>h,ax,λv I' M' U af aa=>⟨.inr (Vp a2 r7 v M' aa),k v I' M' U af aa⟩⟩
 |afM b o cz Mr post a2 ar ax r7 k=>
  have ag:I b=none:=mf.d ⟨b,o⟩ (a2.mem_iff.2 (.head _));have afN:ins I b o b=some o:=by unfold ins;rw[r2];rfl
  refine⟨ins I b o,cz,Mr,post,.perm a2 (.n2 rfl ar .refl),λc p aJ=>?_,ax,λv I' M' U af aa=>⟨.inr λx ab=>?_,k v I' M' U af aa⟩⟩
  ·unfold ins;by_cases e:c=b
   ·subst e;rw[ag]at aJ;cases aJ
   ·rw[hW e];exact aJ
  ·rcases eu.1 (a2.mem_iff.1 ab)with rfl | ab
   ·exact .inl (U _ _ afN)
   ·right
    rcases dV.1 ab with ab | ab;·exact dV.2 (.inl (r7 v I' M' aa x ab))
    ·exact dV.2 (.inr ab)
 |Kf h be=>exact be mf| Vo Ku cz Mr post a2 ax k=>exact⟨I,cz,Mr,post,.perm a2 .refl,λ_ _ h=>h,ax,λv I' M' U _ aa=>⟨.inl Ku,k v I' M' U aa⟩⟩
def Kv(ops:List Oper)(o:Oper)(F:Fr)(run skip:Fr->Prop):Prop:=
 match o.guard with
 |none=>run F
 |some (j,b)=>
  match(ops[j]?).bind (·.dst)with
  |none=>False
  |some d=>
   match F d with
   | .lit c=>bif c == b then run F else skip F| .val (.bool c)=>c0 c b (run (hr F d (.lit b))) (skip (hr F d (.lit !b)))| .val (.tuple _)=>skip F| _=>False
def Vq(hO p:Nat):Bool:=Nat.beq (p &&& hO) p
def afO(ops:List Oper)(hO p:Nat):Bool:=(List.range ops.length).all λq=>!p.testBit q||(hO.testBit q||match ops[q]? with
 |some o=>!qX o.op| none=>true)
inductive vE(X:dw)(o:Oper)(F:Fr)(C:dX)(I:a5)(M:List aF)(K:dW->a5->List aF->Prop):Prop
 |mk (h:∀ β a w Q,db X β a w F C I M->o.wpIn (hK X) 0 X.P a w (λcf w'=>∃ v x I' M',cf=a.put o.dst v/\fe β x v/\db X β a w' F C I' M'/\K x I' M'/\I'=I) Q)
def xg(X:dw)(afP soft:Bool)(o:Oper)(F:Fr)(C:dX)(I:a5)(M:List aF)(K:hb):Prop:=
 bif afP then hL X o F C I M K else
 match o.op with
 | .call { callee:=.value f,args,.. }=>
  match bU F f,nh F args.toList with
  | .val (.func (.func g) first cap),some vs=>hx soft X.cL X.P g (first.toList++vs++cap.toList) I M λv I' M'=>K (put o.dst (.val v) F) C I' M'
  |_,_=>False
 | .alloc t=>
  match o.dst,X.E t with
  |some d,some i=>cy I M λb=>K (hr F d (.val (.pointer (some ⟨b,0,none⟩)))) C I (⟨b,.cells i.zero.toArray t (0,0)⟩::M)
  |_,_=>False
 | .buildSlice _ _ _=>hL X o F C I M K| .makeSlice _ _ _=>hL X o F C I M K| .store _ _ _=>bif soft then hL X o F C I M K else False| .call { callee:=.builtin .append,.. }=>bif soft then ∀ G:Fr,(∀ y∈o.op.operands,dN G y=dN F y)->vE X o G C I M λx I' M'=>K (put o.dst x F) C I' M' else False
 | .call { callee:=.builtin .copy,.. }=>bif soft then ∀ G:Fr,(∀ y∈o.op.operands,dN G y=dN F y)->vE X o G C I M λx I' M'=>K (put o.dst x F) C I' M' else False
 |_=>False
def Kw:dW->Nat
 | .ref s _=>s+1| _=>0
def GK(i:Nat)(op:Op)(ρ:Operand->dW)(cC:List (Nat×Nat)):List (Nat×Nat):=match op with
 | .load _ x=>(i,Kw (ρ x))::cC| _=>cC
def Ed(hO s:Nat):List (Nat×Nat)->Bool
 |[]=>true|(i,t)::cC=>(hO.testBit i || !Nat.beq s t)&&Ed hO s cC
def Vr{hO s i t:Nat}:∀ {cC:List (Nat×Nat)},Ed hO s cC=true->(i,t)∈cC->hO.testBit i=true\/t≠s
 |(j,u)::cC,h,hm=>by
  unfold Ed at h;rw[ct,lq]at h;rcases eu.1 hm with e | hm
  ·cases e;rcases h.1 with U | U
   ·exact .inl U
   ·right
    rintro rfl;simp at U
  ·exact Vr h.2 hm
def Vs(hO:Nat)(op:Op)(ρ:Operand->dW)(cC:List (Nat×Nat)):Bool:=match op with
 | .store _ x _=>(match ρ x with
  | .val (.pointer (some _))=>Ed hO 0 cC| _=>false)
 |_=>false
def Vt(hO:Nat)(op:Op)(ρ:Operand->dW)(cC:List (Nat×Nat)):Bool:=match op with
 | .store _ x _=>(match ρ x with
  | .ref s _=>Ed hO (s+1) cC| _=>false)
 |_=>false
def xh(h0:Bool)(M:List aF):List aF:=bif h0 then []else M
def afQ{I:a5}{M:List aF}{b:Nat}{o:Obj}(h:iX I (xh h0 M) b o):iX I M b o:=by
 cases h0 with
 |false=>exact h
 |true=>
  rcases h with h | ⟨x,ab,_⟩;·exact .inl h
  ·cases ab
def Vu{I I':a5}{M M':List aF}(h:∀ b o,iX I M b o->iX I' M' b o)(bg:∀ b o,I b=some o->I' b=some o):∀ b o,iX I (xh h0 M) b o->iX I' (xh h0 M') b o:=λb o ag=>by
 cases h0 with
 |false=>exact h b o ag
 |true=>
  rcases ag with ag | ⟨x,ab,_⟩;·exact .inl (bg _ _ ag)
  ·cases ab
def afR{I I':a5}{M M':List aF}(bg:∀ b o,I b=some o->I' b=some o):∀ b o,iX I (xh true M) b o->iX I' (xh true M') b o:=λb o ag=>by
 rcases ag with ag | ⟨x,ab,_⟩
 ·exact .inl (bg _ _ ag)
 ·cases ab
def Vv(X:dw)(h0:Bool)(op:Op)(ρ:Operand->dW)(C:dX)(I:a5)(M:List aF)(V:dW->Prop)(other:Prop):Prop:=match h0 with
 |false=>cY X op ρ C I M V other| true=>cY X op ρ C I [] V other
def afS{X:dw}{ρ:Operand->dW}{C:dX}{I:a5}{M:List aF}{V:dW->Prop}(h:Vv X h0 op ρ C I M V other):cY X op ρ C I (xh h0 M) V other:=by
 cases h0 with
 |false=>exact h| true=>exact h
def afT(ops:List Oper)(h0:Nat->Bool)(hO p:Nat):Bool:=(List.range ops.length).all λq=>!p.testBit q||(hO.testBit q||(h0 q||match ops[q]? with
 |some o=>!qX o.op| none=>true))
def Vw(op:Op)(ρ:Operand->dW):Bool:=match op with
 | .store _ x _=>(match ρ x with
  | .val (.pointer (some _))=>true| _=>false)
 | .call { callee:=.builtin .append,.. }=>true| .call { callee:=.builtin .copy,.. }=>true| _=>false
def Vx(ops:List Oper)(h0:Nat->Bool)(hO p:Nat)(op:Op)(ρ:Operand->dW):Bool:=afT ops h0 hO p&&Vw op ρ
def r8(X:dw)(ops:List Oper)(h0:Nat->Bool):Nat->Nat->List (Nat×Nat)->Fr->dX->a5->List aF->hb->Prop
 |0,_,_,_,_,_,_,_=>False
 |n+1,p,cC,F,C,I,M,K=>
  match qY ops p true with
  |i::_=>
   (match ops[i]? with
   |some o=>Kv ops o F (λF=>Vv X (h0 i) o.op (dN F) C I M (λx=>r8 X ops h0 n (p ||| 2^i) (GK i o.op (dN F) cC) (put o.dst x F) C I M K) False) (λF=>r8 X ops h0 n (p ||| 2^i) cC (put o.dst (.val undef) F) C I M K)| none=>False)
  |[]=>
   match qY ops p false with
   |[]=>K F C I M
   |i0::dy=>OR (λi=>match ops[i]? with
     |some o=>Kv ops o F (λF=>xg X (Vq ((lT ops).getD i 0) p) (afO ops ((lT ops).getD i 0) p||(Vt ((lT ops).getD i 0) o.op (dN F) cC||(Vs ((lT ops).getD i 0) o.op (dN F) cC||Vx ops h0 ((lT ops).getD i 0) p o.op (dN F)))) o F C I M λF C I M=>r8 X ops h0 n (p ||| 2^i) cC F C I M K) (λF=>r8 X ops h0 n (p ||| 2^i) cC (put o.dst (.val undef) F) C I M K)| none=>False) (i0::dy)
def looks(ops:List Oper)(o:Oper):List Nat:=o.looksAt ops.toArray
def GL(ops:List Oper):Bool:=
 let b:=lT ops
 (List.range ops.length).all λj=>match ops[j]? with
  |none=>true
  |some nt=>
   (nt.after.toList.all λe=>!Region.binds .any e||Nat.blt e.on j) &&
   ((match nt.dst with
    |some d=>!(looks ops nt).contains d| none=>true) &&
   ((List.range ops.length).all (λi=>Nat.beq i j||match ops[i]? with
    |none=>true
    |some g4=>match g4.dst with
     |none=>true| some d=>!(nt.dst == some d)&&(!(looks ops nt).contains d||((b.getD j 0).testBit i||(b.getD i 0).testBit j)))))
def nu(ops:List Oper)(j e:Nat):Prop:=∃ o n6,ops[j]?=some o/\n6∈o.after/\Region.binds .any n6=true/\n6.on=e
inductive qe(ops:List Oper):Nat->Nat->Prop
 |one{i j}(h:nu ops j i):qe ops i j| trans {i j k} (h:nu ops j k) (bg:qe ops i k):qe ops i j
def Cg(ops:List Oper)(S:Nat->Prop):Prop:=∀ j e,S j->nu ops j e->S e
def qe.mem{S:Nat->Prop}(c2:Cg ops S){i j:Nat}(h:qe ops i j)(an:∀ e,nu ops j e->S e):S i:=by
 induction h with
 |one h=>exact an _ h| trans h _ be=>exact be λe he=>c2 _ e (an _ h) he
def afU{bc:List Nat}{o:Oper}{i:Nat}(h:(GJ bc o).testBit i=true):∃ e∈o.after,Region.binds .any e=true/\(e.on=i\/(bc.getD e.on 0).testBit i=true):=by
 have key:∀ (l:List Edge) (s:Nat),(l.foldl (λs e=>bif Region.binds .any e then s ||| 2^e.on ||| bc.getD e.on 0 else s) s).testBit i=true->s.testBit i=true\/∃ e∈l,Region.binds .any e=true/\(e.on=i\/(bc.getD e.on 0).testBit i=true):=by
  intro l
  induction l with
  |nil=>intro s h;exact .inl h
  |cons e l be=>
   intro s h;simp only[uj]at h;rcases be _ h with U | ⟨a',uA,aa⟩
   ·cases ag:Region.binds .any e with
    |false=>rw[ag]at U;exact .inl U
    |true=>
     rw[ag]at U;simp only[a4,J',lq,J7,eY]at U;rcases U with(U | U) | U;·exact .inl U
     ·exact .inr ⟨e,by simp,ag,.inl U⟩
     ·exact .inr ⟨e,by simp,ag,.inr U⟩
   ·exact .inr ⟨a',by simp[uA],aa⟩
 rcases key _ 0 h with U | ⟨e,he,aa⟩
 ·simp at U
 ·exact⟨e,by simpa using he,aa⟩
def Vy(ops:List Oper):∀ (l:List Oper) (bi:List Oper) (bc:List Nat),ops=bi++l->bc.length=bi.length->(∀ j i,(bc.getD j 0).testBit i=true->qe ops i j) -> ∀ j i,((l.foldl (λbc o=>bc++[GJ bc o]) bc).getD j 0).testBit i=true->qe ops i j
 |[],bi,bc,_,_,mT=>mT
 |o::l,bi,bc,xi,cg,mT=>by
  simp only[uj];refine Vy ops l (bi++[o]) _ (by simp[xi]) (by simp[cg]) ?_;intro j i h;by_cases an:j<bc.length;·exact mT j i (by simpa[dB,rZ an]using h)
  ·by_cases ji:j=bc.length
   ·subst ji;have bg:(GJ bc o).testBit i=true:=by simpa[dB]using h
    obtain⟨e,he,ag,aa⟩:=afU bg;have aD:ops[bc.length]?=some o:=by rw[xi,cg];simp
    have Aq:nu ops bc.length e.on:=⟨o,e,aD,he,ag,rfl⟩;rcases aa with rfl | aa;·exact .one Aq
    ·exact .trans Aq (mT _ _ aa)
   ·have:(bc++[GJ bc o]).getD j 0=0:=by rw[dB,qR (by simp;omega)];rfl
    rw[this]at h;simp at h
def Ar{j i:Nat}(h:((lT ops).getD j 0).testBit i=true):qe ops i j:=
 Vy ops ops [] [] rfl rfl (λj i h=>by simp at h) j i h
section
variable{X:dw}{C C':dX}{I I':a5}{M M':List aF}
def yZ{ρ kM:Operand->dW}:∀ {xs:List Operand},(∀ y∈xs,kM y=ρ y)->kJ kM xs=kJ ρ xs
 |[],_=>rfl| x::xs,h=>by have U:=h x (by simp);have aa:=yZ (xs:=xs) λy aT=>h y (by simp[aT]);simp only[kJ,ey,U,aa]
def OS{ρ kM:Operand->dW}:∀ {xs:List (Nat×Operand)},(∀ y∈xs.map (·.2),kM y=ρ y)->uo kM xs=uo ρ xs
 |[],_=>rfl|(i,x)::xs,h=>by have U:=h x (by simp);have aa:=OS (xs:=xs) λy aT=>h y (by simp only[dQ,eu];exact .inr aT);simp only[uo,ey,U,aa]
def Vz{ρ kM:Operand->dW}{V:dW->Prop}(h:cY X op ρ C I M V False)(j2:∀ y∈op.operands,kM y=ρ y)
  (aE:∀ t x,op=.load t x->(∀ s off,ρ x=.ref s off->C' s=C s)/\((∀ s off,ρ x≠.ref s off)->∀ b o,iX I M b o->iX I' M' b o)):cY X op kM C' I' M' V False:=by
 cases op
 case load t x=>
  obtain⟨aJ,ae⟩:=aE t x rfl;have U:=j2 x (by simp[Op.operands]);simp only[cY,U]at h |-;cases aW:X.E t with
  |none=>rw[aW]at h;exact h.elim
  |some i=>
   rw[aW]at h
   try simp only at h |-
   cases ab:ρ x with
   |ref s off=>
    rw[ab]at h
    try simp only at h |-
    rw[aJ s off ab];exact h
   |val v=>
    rw[ab]at h
    try simp only at h |-
    split at h;·rename_i e;cases e
    ·rename_i a e;cases e;obtain⟨vs,⟨aa,cs,T,ak,af,aN⟩,bq⟩:=h;exact⟨vs,⟨aa,cs,T,ak,ae (λs off e=>by rw[ab]at e;cases e) _ _ af,aN⟩,bq⟩
    ·exact h.elim
   |lit b=>rw[ab]at h;exact h.elim| n1=>rw[ab]at h;exact h.elim
 case build t ps=>
  have U:=OS (ρ:=ρ) (kM:=kM) (xs:=ps.toList) λy aT=>j2 y (by simpa[Op.operands]using aT);simp only[cY,U]at h |-;exact h
 case makeFunc fn first captured=>
  have U:=yZ (ρ:=ρ) (kM:=kM) (xs:=first.toList) λy aT=>j2 y (by simp only[Op.operands,Array.mem_append];exact .inl (by simpa using aT));have aa:=yZ (ρ:=ρ) (kM:=kM) (xs:=captured.toList) λy aT=>j2 y (by simp only[Op.operands,Array.mem_append];exact .inr (by simpa using aT));simp only[cY,U,aa]at h |-;exact h
 case slice t x lo hi mx=>
  have U:=j2 x (by simp[Op.operands]);have aa:lo.map (ey kM)=lo.map (ey ρ):=by
   cases lo with
   |none=>rfl| some y=>have:=j2 y (by simp[Op.operands]);simp[ey,this]
  have af:hi.map (ey kM)=hi.map (ey ρ):=by
   cases hi with
   |none=>rfl| some y=>have:=j2 y (by simp[Op.operands]);simp[ey,this]
  simp only[cY,aa,af,ey,U]at h |-;exact h
 case call c=>
  obtain⟨callee,args,argTypes⟩:=c;cases callee with
  |value f=>exact h| invoke r m=>exact h
  |builtin b=>
   cases b
   case len=>
    have U:=yZ (ρ:=ρ) (kM:=kM) (xs:=args.toList) λy aT=>j2 y (by simp[Op.operands,Call.operands];simpa using aT);simp only[cY,U]at h |-;exact h
   case cap=>
    have U:=yZ (ρ:=ρ) (kM:=kM) (xs:=args.toList) λy aT=>j2 y (by simp[Op.operands,Call.operands];simpa using aT);simp only[cY,U]at h |-;exact h
   case max=>
    have U:=yZ (ρ:=ρ) (kM:=kM) (xs:=args.toList) λy aT=>j2 y (by simp[Op.operands,Call.operands];simpa using aT);simp only[cY,U]at h |-;exact h
   case min=>
    have U:=yZ (ρ:=ρ) (kM:=kM) (xs:=args.toList) λy aT=>j2 y (by simp[Op.operands,Call.operands];simpa using aT);simp only[cY,U]at h |-;exact h
   case unsafeSliceData=>
    have U:=yZ (ρ:=ρ) (kM:=kM) (xs:=args.toList) λy aT=>j2 y (by simp[Op.operands,Call.operands];simpa using aT);simp only[cY,U]at h |-;exact h
   all_goals exact h
 all_goals first
  |exact h|(rename_i x;have U:=j2 x (by simp[Op.operands]);simp only[cY,ey,U]at h |-;exact h)|(rename_i x y;have U:=j2 x (by simp[Op.operands]);have aa:=j2 y (by simp[Op.operands]);simp only[cY,ey,U,aa]at h |-;exact h)|(rename_i x y z;have U:=j2 x (by simp[Op.operands]);have aa:=j2 y (by simp[Op.operands]);have af:=j2 z (by simp[Op.operands]);simp only[cY,ey,U,aa,af]at h |-;exact h)|(rename_i x y;have U:=j2 x (by simp[Op.operands]);simp only[cY,ey,U]at h |-;exact h)|(rename_i x y;have U:=j2 y (by simp[Op.operands]);simp only[cY,ey,U]at h |-;exact h)|(rename_i x y z;have U:=j2 x (by simp[Op.operands]);have aa:=j2 y (by simp[Op.operands]);simp only[cY,ey,U,aa]at h |-;exact h)|(rename_i x y z;have U:=j2 y (by simp[Op.operands]);have aa:=j2 z (by simp[Op.operands]);simp only[cY,ey,U,aa]at h |-;exact h)|(rename_i o x y z u;have U:=j2 y (by simp[Op.operands]);have aa:=j2 z (by simp[Op.operands]);simp only[cY,ey,U,aa]at h |-;exact h)|(rename_i x y z u;have U:=j2 z (by simp[Op.operands]);have aa:=j2 y (by simp[Op.operands]);simp only[cY,ey,U,aa]at h |-;exact h)
end
section
variable{X:dw}{C:dX}{I:a5}{M:List aF}
def afV{op:BinOp}{dT:Option eE}{x y:dW}{V:Value->Prop}{O:Prop}(h:mg op dT x y V O) :
  (∃ r,V r/\∀ r9,mg op dT x y (λz=>z=r) r9)\/(O/\∀ (OT:Value->Prop) (r9:Prop),r9->mg op dT x y OT r9):=by
 unfold mg at h;split at h
 ·left
  split at h;·obtain⟨j,an,⟨r,al,ae⟩⟩:=h;exact⟨_,ae,λr9=>by unfold mg;exact⟨j,an,⟨r,al,rfl⟩⟩⟩
  ·obtain⟨j,an,ae⟩:=h;exact⟨_,ae,λr9=>by unfold mg;exact⟨j,an,rfl⟩⟩
  ·rename_i _ _ k a cO b _ g3 nl;cases h7:IntKind.nk k cO with
   |false=>rw[h7]at h;exact h.elim
   |true=>
    rw[h7]at h;simp only[a4]at h;cases op<;>simp only at h
    case add=>obtain⟨r,al,ae⟩:=h;exact⟨_,ae,λr9=>by simp only[mg,h7,a4];exact⟨r,al,rfl⟩⟩
    case sub=>obtain⟨r,al,ae⟩:=h;exact⟨_,ae,λr9=>by simp only[mg,h7,a4];exact⟨r,al,rfl⟩⟩
    case mul=>obtain⟨r,al,ae⟩:=h;exact⟨_,ae,λr9=>by simp only[mg,h7,a4];exact⟨r,al,rfl⟩⟩
    case quo=>obtain⟨ay,⟨r,al,ae⟩⟩:=h;exact⟨_,ae,λr9=>by simp only[mg,h7,a4];exact⟨ay,⟨r,al,rfl⟩⟩⟩
    case rem=>obtain⟨ay,ae⟩:=h;exact⟨_,ae,λr9=>by simp only[mg,h7,a4];first | exact⟨ay,rfl⟩ | exact⟨ay,trivial⟩⟩
    case shl=>exact(g3 rfl).elim
    case shr=>exact(nl rfl).elim
    all_goals exact⟨_,h,λr9=>by simp only[mg,h7,a4];rfl⟩
 ·cases op<;>first
  |exact .inl ⟨_,h,λ_=>rfl⟩| exact .inr ⟨h,λ_ _ aD=>aD⟩
 ·split at h
  ·cases op<;>first
   |exact .inl ⟨_,h,λ_=>rfl⟩| exact .inr ⟨h,λ_ _ aD=>aD⟩
  ·rename_i az;refine .inr ⟨h,λOT r9 aD=>?_⟩;cases dT with
   |none=>exact aD
   |some i=>
    obtain⟨s,b,z,bT⟩:=i;cases bT<;>first
     |exact aD| exact(az _ _ _ rfl).elim
 ·rename_i U aa af;refine .inr ⟨h,λOT r9 aD=>?_⟩;unfold mg;split<;>first
   |exact aD| exact(U _ _ _ _ rfl rfl).elim| exact(aa _ _ rfl rfl).elim| exact(af _ _ rfl rfl).elim
def afW{ρ:Operand->dW}{V:dW->Prop}(h:cY X op ρ C I M V False):∃ x,V x/\cY X op ρ C I M (λy=>y=x) False:=by
 cases op
 case move x=>exact⟨_,h,rfl⟩
 case assign x=>exact⟨_,h,rfl⟩
 case pick c p q=>
  simp only[cY]at h |-;split at h;·exact⟨_,h,rfl⟩
  ·exact⟨_,h,rfl⟩
  ·exact h.elim
 case unOp op t x=>
  simp only[cY]at h |-;split at h;·exact⟨_,h,rfl⟩
  ·exact⟨_,h,rfl⟩
  ·obtain⟨r,al,ae⟩:=h;exact⟨_,ae,⟨r,al,rfl⟩⟩
  ·exact h.elim
 case binOp op t x y ty=>
  simp only[cY]at h |-;rcases afV h with⟨r,U,aa⟩ | ⟨⟨hc,fG,r,aK,aL,al,ae⟩ | U,aa⟩
  ·refine⟨_,U,?_⟩;have:(λv=>dW.val v=dW.val r)=(λz=>z=r):=by funext v;simp
   rw[this];exact aa _
  ·exact⟨_,ae,aa _ _ (.mk hc fG r aK aL al rfl)⟩
  ·exact U.elim
 case load t x=>
  simp only[cY]at h |-;split at h
  ·split at h
   ·split at h
    ·rename_i i hi _ s off ax _ cs aJ;cases bz:Nat.ble (off+i.size) cs.length with
     |false=>rw[bz]at h;exact h.elim| true=>rw[bz]at h;exact⟨_,h,rfl⟩
    ·exact h.elim
   ·obtain⟨vs,al,ae⟩:=h;exact⟨_,ae,⟨vs,al,rfl⟩⟩
   ·exact h.elim
  ·exact h.elim
 case nilCheck x=>
  simp only[cY]at h |-;split at h;·exact⟨_,h,rfl⟩
  ·exact⟨_,h,rfl⟩
  ·exact h.elim
 case fieldAddr t x i=>
  simp only[cY]at h |-;split at h
  ·split at h
   ·split at h
    ·rename_i h1 s o' np ab;cases bk:Nat.beq h1.size 0 with
     |true=>rw[bk]at h;exact h.elim| false=>rw[bk]at h;exact⟨_,h,rfl⟩
    ·rename_i h1 s np ab;cases bk:Nat.beq h1.size 0 with
     |true=>rw[bk]at h;exact h.elim| false=>rw[bk]at h;exact⟨_,h,rfl⟩
    ·exact h.elim
   ·exact h.elim
  ·exact h.elim
 case field t x i=>
  simp only[cY]at h |-;split at h
  ·split at h
   ·split at h
    ·rename_i sz jh z cT cs aI ab _ nj off jJ _ h1 np;cases bz:Nat.ble (off+h1.size) cs.size with
     |false=>rw[bz]at h;exact h.elim| true=>rw[bz]at h;exact⟨_,h,rfl⟩
    ·exact h.elim
   ·exact h.elim
  ·exact h.elim
 case indexAddr t x i=>
  simp only[cY]at h |-;split at h
  ·split at h
   ·obtain⟨ad,j,U,aa,af,ae⟩:=h;exact⟨_,ae,⟨ad,j,U,aa,af,rfl⟩⟩
   ·exact h.elim
  ·split at h
   ·obtain⟨j,aa,af,ae⟩:=h;exact⟨_,ae,⟨j,aa,af,rfl⟩⟩
   ·obtain⟨j,aa,af,ae⟩:=h;exact⟨_,ae,⟨j,aa,af,rfl⟩⟩
   ·exact h.elim
  ·exact h.elim
 case index t x i=>
  simp only[cY]at h |-;split at h;·obtain⟨j,aa,af,ae⟩:=h;exact⟨_,ae,⟨j,aa,af,rfl⟩⟩
  ·split at h
   ·rename_i n e cs fS k aI ab hi _ aP iF;cases bk:Nat.beq (n*aP.size) cs.size with
    |false=>rw[bk]at h;exact h.elim| true=>rw[bk]at h;obtain⟨j,aa,af,ae⟩:=h;exact⟨_,ae,⟨j,aa,af,rfl⟩⟩
   ·exact h.elim
  ·exact h.elim
 case build t ps=>
  simp only[cY]at h |-;split at h
  ·split at h
   ·rename_i i vs aI jx _ cT oJ;cases aK:D2 X.E cT with
    |false=>rw[aK]at h;exact h.elim
    |true=>
     rw[aK]at h;simp only[a4]at h |-;split at h;·exact⟨_,h,rfl⟩
     ·exact h.elim
   ·split at h
    ·split at h
     ·exact⟨_,h,rfl⟩
     ·exact h.elim
    ·exact h.elim
   ·exact h.elim
  ·exact h.elim
 case makeFunc fn first captured=>
  simp only[cY]at h |-;split at h;·exact⟨_,h,rfl⟩
  ·exact h.elim
 case slice t x lo hi mx=>
  simp only[cY]at h |-;split at h
  ·split at h
   ·exact⟨_,h,rfl⟩
   ·obtain⟨l,m,U,aa,af,aN,ae⟩:=h;exact⟨_,ae,⟨l,m,U,aa,af,aN,rfl⟩⟩
   ·obtain⟨l,m,U,aa,af,aN,ae⟩:=h;exact⟨_,ae,⟨l,m,U,aa,af,aN,rfl⟩⟩
   ·obtain⟨l,m,U,aa,af,aN,ae⟩:=h;exact⟨_,ae,⟨l,m,U,aa,af,aN,rfl⟩⟩
   ·exact h.elim
  ·split at h
   ·exact⟨_,h,rfl⟩
   ·obtain⟨l,m,U,aa,af,aN,ae⟩:=h;exact⟨_,ae,⟨l,m,U,aa,af,aN,rfl⟩⟩
   ·obtain⟨l,m,U,aa,af,aN,ae⟩:=h;exact⟨_,ae,⟨l,m,U,aa,af,aN,rfl⟩⟩
   ·obtain⟨l,m,U,aa,af,aN,ae⟩:=h;exact⟨_,ae,⟨l,m,U,aa,af,aN,rfl⟩⟩
   ·exact h.elim
  ·exact h.elim
 case extract x i=>
  simp only[cY]at h |-;split at h
  ·split at h
   ·exact⟨_,h,rfl⟩
   ·exact h.elim
  ·exact h.elim
 case convert s d x=>
  simp only[cY]at h |-;split at h;·obtain⟨r,al,ae⟩:=h;exact⟨_,ae,⟨r,al,rfl⟩⟩
  ·exact h.elim
 case call c=>
  obtain⟨callee,args,argTypes⟩:=c;cases callee with
  |value f=>exact h.elim| invoke r m=>exact h.elim
  |builtin b=>
   cases b
   case len=>
    simp only[cY]at h |-;split at h
    ·split at h
     ·exact⟨_,h,rfl⟩
     ·exact⟨_,h,rfl⟩
     ·exact⟨_,h,rfl⟩
     ·exact h.elim
    ·exact h.elim
   case cap=>
    simp only[cY]at h |-;split at h
    ·split at h
     ·exact⟨_,h,rfl⟩
     ·exact h.elim
    ·exact h.elim
   case max=>
    simp only[cY]at h |-;split at h;·exact⟨_,h,rfl⟩
    ·exact h.elim
   case min=>
    simp only[cY]at h |-;split at h;·exact⟨_,h,rfl⟩
    ·exact h.elim
   case unsafeSliceData=>
    simp only[cY]at h |-;split at h;·exact⟨_,h,rfl⟩
    ·obtain⟨U,aa⟩:=h;exact⟨_,aa,⟨U,rfl⟩⟩
    ·exact h.elim
   all_goals exact h.elim
 all_goals exact h.elim
end
def iX.mono{I I':a5}{M M':List aF}{b:Nat}{o:Obj}(h:iX I M b o)(bX:∀ b o,I b=some o->I' b=some o)(a2:∀ x∈M,x∈M'):iX I' M' b o:=by
 rcases h with h | ⟨x,ab,U,aa⟩
 ·exact .inl (bX _ _ h)
 ·exact .inr ⟨x,a2 x ab,U,aa⟩
def iX.move{I I':a5}{M M':List aF}{b:Nat}{o:Obj}(h:iX I M b o)(bX:∀ b o,I b=some o->I' b=some o)(a2:∀ x∈M,I' x.num=some x.obj\/x∈M'):iX I' M' b o:=by
 rcases h with h | ⟨x,ab,rfl,rfl⟩
 ·exact .inl (bX _ _ h)
 ·rcases a2 x ab with h | h
  ·exact .inl h
  ·exact .inr ⟨x,h,rfl,rfl⟩
def VA(F:Fr)(op:Op)(C C':dX)(I I':a5)(M M':List aF):Prop:=(∀ t x y s off,op=.store t x y->dN F x=.ref s off->((∀ cH,cH≠s->C' cH=C cH)/\∀ b o,I b=some o->I' b=some o)/\∀ b o,iX I M b o->iX I' M' b o)/\(∀ t x y ad,op=.store t x y->dN F x=.val (.pointer (some ad))->C'=C/\∀ b o,I b=some o->I' b=some o)/\((∀ t x y,op≠.store t x y)->C'=C/\∀ b o,I b=some o->I' b=some o)
def afX(X:dw)(β:Nat->Nat)(G F:Fr)(C:dX)(I:a5)(M:List aF)(afY:Bool)(op:Op)(dst:Option Nat)(a:Act)(K:hb)(cf:Act)(w':World):Prop:=
 ∃ v x C' I' M',cf=a.put dst v/\fe β x v/\db X β a w' G C' I' M'/\K (put dst x F) C' I' M'/\((afY=true/\VA F op C C' I I' M M')\/(C'=C/\(∀ b o,I b=some o->I' b=some o)/\∀ b o,iX I M b o->iX I' M' b o))
def afZ{X:dw}{β:Nat->Nat}{F G:Fr}{C:dX}{I:a5}{M:List aF}{o:Oper}{K:hb}(aW:dm X.P X.E)
  (h:db X β a w G C I M) (eR:∀ y∈o.op.operands,dN G y=dN F y) (aj:xg X false soft o F C I M K):o.wpIn (hK X) 0 X.P a w (afX X β G F C I M soft o.op o.dst a K) Q:=by
 obtain⟨dst,op,ty,pos,after,guard⟩:=o;have ar:=h.ak;have px:∀ {y:Operand} {v:Value},y∈op.operands->bU F y=.val v->a.eval y=v:=fun {y v} aT he=>dJ ar (by simp only[bU,ey,eR y aT];exact he);cases op
 case alloc t=>
  simp only[xg,aQ]at aj;split at aj
  ·rename_i d i hi;obtain⟨z,bk,yX⟩:=(aW _ _ hi).Gu w;have D7:z.cells=i.zero.toArray:=by rw[<-yX]
   obtain⟨aj⟩:=aj;have ae:=aj w.heap.size h.holds.td h.holds.r3;refine kk (by simp) (v:=.pointer (some ⟨w.heap.size,0,none⟩)) (w':=w.alloc (.cells i.zero.toArray t (0,0))) ?_ ⟨_,.val _,_,_,_,rfl,rfl,h.qb _,ae,.inr ⟨rfl,λ_ _ h=>h,λb o ag=>ag.mono (λ_ _ h=>h) (λx ab=>by simp[ab])⟩⟩;simp[execOp,Instr.alloc,newVar,newRow,bk,D7,BW]
  ·exact aj.elim
 case store t x y=>
  simp only[xg,aQ]at aj;cases soft with
  |false=>exact aj.elim
  |true=>
   simp only[a4,hL]at aj;split at aj
   ·rename_i i v hi aT;have xb:=px (by simp[Op.operands]) aT;split at aj
    ·rename_i s off ab;have lP:=B0 ar ((eR x (by simp[Op.operands])).trans ab);split at aj
     ·rename_i cs ax;cases bz:(Nat.ble (off+i.size) cs.length&&(Nat.beq v.cells.size i.size&&iW v.cells.toList))with
      |false=>rw[bz]at aj;exact aj.elim
      |true=>
       rw[bz]at aj;simp only[ct]at bz;obtain⟨bz,cI,hM⟩:=bz;have w8:=bP bz;have B8:=cj cI;obtain⟨T,bO⟩:=(h.cC s cs ax).ai;have:=Kk (aW _ _ hi) (a:=⟨β s,off,none⟩) (v:=v) rfl bO B8 (by simp;omega) hM;refine D3 (by simp) (w':=w.setRow (β s) (bQ cs off v.cells.toList).toArray) ?_ ⟨undef,.n1,_,_,_,rfl,trivial,h.U4 ax (bQ cs off v.cells.toList),aj,.inl ⟨rfl,λfw tf VB cH Ki aC aA=>(by
        cases aC;rw[ab]at aA;cases aA;refine⟨⟨λs2 bM=>?_,λ_ _ h=>h⟩,λ_ _ h=>h⟩;unfold jX;rw[hW bM];rfl),λfw tf VB VC aC aA=>(by
        cases aC;rw[ab]at aA;cases aA),λgp=>absurd rfl (gp _ _ _)⟩⟩
       simp only[execOp,Instr.storeAt,lP,xb,Instr.sureAddr,cG,dv,ck];simp only[Oo]at this;rw[this];rfl
     ·exact aj.elim
    ·rename_i ad ab;have lP:=vx ar ((eR x (by simp[Op.operands])).trans ab);cases cI:Nat.beq v.cells.size i.size with
     |false=>rw[cI]at aj;exact aj.elim| true=>rw[cI]at aj;obtain⟨bi,post,cs,T,a2,bL,ag,hM,ae⟩:=aj;have B8:=cj cI;have aB:w.heap[ad.block]?=some (.cells cs T (0,0)):=h.holds.m ⟨ad.block,.cells cs T (0,0)⟩ (by rw[a2];simp);have:=Kk (aW _ _ hi) (v:=v) bL aB B8 ag hM;refine D3 (by simp) (w':=w.setRow ad.block (bQ cs.toList ad.off v.cells.toList).toArray) ?_ ⟨undef,.n1,_,_,_,rfl,trivial,h.Ag a2,ae,.inl ⟨rfl,λfw tf VB cH Ki aC aA=>(by cases aC;rw[ab]at aA;cases aA),λ_ _ _ _ _ _=>⟨rfl,λ_ _ h=>h⟩,λgp=>absurd rfl (gp _ _ _)⟩⟩;simp only[execOp,Instr.storeAt,lP,xb,Instr.sureAddr,cG,dv,ck];rw[this];rfl
    ·exact aj.elim
   ·exact aj.elim
 case buildSlice t len parts=>
  simp only[xg,aQ,hL]at aj;have af0:BY G parts.toList=BY F parts.toList:=OS λy aT=>eR y (by simpa[Op.operands]using aT);rw[<-af0]at aj;split at aj
  ·rename_i sz jh z e vs aI jx;have hu:=(aW _ _ aI).slice;have aK:=Kg ar jx;have Ai:(parts.map λ(i,x)=>(i,a.eval x)).toList=vs:=by simpa using aK
   split at aj
   ·rename_i aP iF;cases bk:(Nat.ble (len*aP.size) 16777216&&Nat.blt 0 (len*aP.size))with
    |false=>
     rw[bk]at aj;simp only[aQ]at aj;split at aj
     ·rename_i afx;obtain⟨aj⟩:=aj;have ae:=aj w.heap.size h.holds.td h.holds.r3;refine kk (by simp) (v:=.slice (some ⟨w.heap.size,0,none⟩) 0 0) (w':=w.alloc (.cells #[] e (0,0))) ?_ ⟨_,.val _,_,_,_,rfl,rfl,h.qb _,ae,.inr ⟨rfl,λ_ _ h=>h,λb o ag=>ag.mono (λ_ _ h=>h) (λx ab=>by simp[ab])⟩⟩;simp only[execOp,Instr.buildSlice,cG,ck,run_underlying hu,(aW _ _ iF).run_sizeOf,Ai];have b':∀ f:Nat->Value,Array.map f (Array.range 0)=#[]:=λf=>by apply Array.ext<;>simp
      simp[newRow,BW,Instr.fill,b']
     ·exact aj.elim
    |true=>
     rw[bk]at aj;simp only[a4]at aj;rw[ct]at bk;have bz:=bP bk.1;have n4:0<len*aP.size:=by simpa using bk.2
     split at aj;·rename_i cells w9;obtain⟨uv,B9,yX⟩:=(aW _ _ iF).Gu w;obtain⟨aj⟩:=aj;have ae:=aj w.heap.size h.holds.td h.holds.r3;refine kk (by simp) (v:=.slice (some ⟨w.heap.size,0,none⟩) len len) (w':=w.alloc (.cells cells.toArray e (0,0))) ?_ ⟨_,.val _,_,_,_,rfl,rfl,h.qb _,ae,.inr ⟨rfl,λ_ _ h=>h,λb o ag=>ag.mono (λ_ _ h=>h) (λx ab=>by simp[ab])⟩⟩;have oK:=fill_eq _ _ _ _ w9;simp only[execOp,Instr.buildSlice,cG,ck,run_underlying hu,(aW _ _ iF).run_sizeOf];rw[b8 (by omega)];simp only[b8 (show ¬ len*aP.size=0 by omega),cG,B9,ck,dv,Ai,Vb uv aP.zero yX,oK];simp[newRow,BW]
     ·exact aj.elim
   ·exact aj.elim
  ·exact aj.elim
 case makeSlice t l c=>
  simp only[xg,aQ,hL]at aj;split at aj
  ·rename_i sz jh z e uw c8 k7 c' aI aE aJ;have hu:=(aW _ _ aI).slice;have n5:=px (by simp[Op.operands]) aE;have vF:=px (by simp[Op.operands]) aJ;split at aj
   ·rename_i aP iF;obtain⟨n,m,rfl,rfl,tg,ag,hm,⟨aj⟩⟩:=aj;have ae:=aj w.heap.size h.holds.td h.holds.r3;obtain⟨inf,uv,gL,j1,kl,mQ,B'⟩:=(aW _ _ iF).inf;refine kk (by simp) (v:=.slice (some ⟨w.heap.size,0,none⟩) n m) (w':=w.alloc (.cells (rowOf aP.zero (m*aP.size)).toArray e (0,0))) ?_ ⟨_,.val _,_,_,_,rfl,rfl,h.qb _,ae,.inr ⟨rfl,λ_ _ h=>h,λb o ag=>ag.mono (λ_ _ h=>h) (λx ab=>by simp[ab])⟩⟩;have gy:((aP.bytes:Nat):Int)*(m:Int)<=281474976710656:=by
     have aa:((aP.bytes*m:Nat):Int)<=281474976710656:=by omega
     simpa using aa
    have:=run_make (P:=X.P) w t e inf uv hu gL mQ uw k7 (n:Int) (m:Int) (by omega) (by omega) (by rw[kl];exact gy) (by omega);simp only[execOp,n5,vF,cG,this,ck,dv,qS];have aC:madeCells uv.cells (m*inf.size)=(rowOf aP.zero (m*aP.size)).toArray:=by rw[j1,<-B'];simp[BZ]
    rw[aC]
   ·exact aj.elim
  ·exact aj.elim
 case call c=>
  obtain⟨callee,args,argTypes⟩:=c;cases callee with
  |value f=>
   simp only[xg,aQ]at aj;split at aj
   ·rename_i g first cap vs Aj jx
    have af1:nh G args.toList=some vs:=by rw[<-jx];exact yZ λy aT=>eR y (by simp only[Op.operands,Call.operands];simp;right;simpa using aT)
    have af2:=px (by simp[Op.operands,Call.operands]) Aj;obtain⟨cW,cz,Mr,post,af3,b4,ax,ae⟩:=aj.elim ⟨h.holds.d,h.holds.aG⟩;have aC:=uq ar af1;have dO:args.map a.eval=vs.toArray:=by apply hJ;simpa using aC
    have ff:∀ {n:Next} {w':World},(callFunc g (first.toList++vs++cap.toList).toArray).run X.P w=.ok n w'->(execOp a.eval ⟨dst,.call { callee:=.value f,args,argTypes },ty,pos,after,guard⟩).run X.P w=.ok n w':=λal=>by simp only[execOp,resolve,af2,Deferred.ofValue,cG,dv,ck,dO,invoke];rw[show first++vs.toArray++cap=(first.toList++vs++cap.toList).toArray from by apply hJ;simp];exact al
    have VD:∀ {I':a5} {M':List aF},(∀ b o,I b=some o->I' b=some o)->(soft=true\/∀ x∈M,I' x.num=some x.obj\/x∈M')->(soft=true/\VA F (.call { callee:=.value f,args,argTypes }) C C I I' M M')\/(C=C/\(∀ b o,I b=some o->I' b=some o)/\∀ b o,iX I M b o->iX I' M' b o):=λU aa=>by
     rcases aa with aa | aa;·exact .inl ⟨aa,⟨λt x y s off e _=>(by cases e),λt x y ad e _=>(by cases e),λ_=>⟨rfl,U⟩⟩⟩
     ·exact .inr ⟨rfl,U,λb o ag=>ag.move U aa⟩
    rcases h.call (KC:=λv I' M'=>(∀ b o,I b=some o->I' b=some o)/\(soft=true\/∀ x∈M,I' x.num=some x.obj\/x∈M')/\K (Go.V.put dst (.val v) F) C I' M') (.Ke cW cz Mr post af3 ax λv I' M' bz ah aK=>⟨λb o ag=>bz _ _ (b4 _ _ ag),(ae v I' M' bz ah aK).1,(ae v I' M' bz ah aK).2⟩)with⟨qV,Ca⟩ | ⟨v,w',I',M',al,⟨U,aa,ae⟩,hf⟩;·refine Va (by simp) (f:=g) (args:=(first.toList++vs++cap.toList).toArray) (ff (qV _ _)) ?_;refine Ca.mono ?_;rintro e w'⟨v,I',M',rfl,⟨U,aa,ae⟩,al⟩;exact⟨v,rfl,v,.val v,C,I',M',rfl,rfl,al,ae,VD U aa⟩
    ·exact kk (by simp) (ff al) ⟨v,.val v,C,I',M',rfl,rfl,hf,ae,VD U aa⟩
   ·exact aj.elim
  |invoke r m=>exact aj.elim
  |builtin b=>
   cases b
   case append=>
    simp only[xg,aQ]at aj;cases soft with
    |false=>exact aj.elim| true=>simp only[a4]at aj;obtain⟨aj⟩:=aj G eR;refine vr (λcf w'=>?_) (aj β a w Q h);rintro⟨v,x,I',M',U,aa,af,aN,OU⟩;exact⟨v,x,C,I',M',U,aa,af,aN,.inl ⟨rfl,⟨λt x y s off e _=>(by cases e),λt x y ad e _=>(by cases e),λ_=>⟨rfl,λb o h=>by rw[OU];exact h⟩⟩⟩⟩
   case copy=>
    simp only[xg,aQ]at aj;cases soft with
    |false=>exact aj.elim| true=>simp only[a4]at aj;obtain⟨aj⟩:=aj G eR;refine vr (λcf w'=>?_) (aj β a w Q h);rintro⟨v,x,I',M',U,aa,af,aN,OU⟩;exact⟨v,x,C,I',M',U,aa,af,aN,.inl ⟨rfl,⟨λt x y s off e _=>(by cases e),λt x y ad e _=>(by cases e),λ_=>⟨rfl,λb o h=>by rw[OU];exact h⟩⟩⟩⟩
   all_goals exact aj.elim
 all_goals exact aj.elim
def uB(x y:dW):Prop:=∀ β u,fe β x u->fe β y u
def uB.refl(x:dW):uB x x:=λ_ _ h=>h
def uB.trans{x y z:dW}(h:uB x y)(bg:uB y z):uB x z:=fun β u hu=>bg β u (h β u hu)
structure xj(ops:List Oper):Prop where
 lt:∀ j e,nu ops j e->e<j
 own:∀ (j:Nat) (o:Oper) (d:Nat),ops[j]?=some o->o.dst=some d->d ∉ looks ops o
 OV:∀ (i j:Nat) (g4 nt:Oper) (d:Nat),i≠j->ops[i]?=some g4->ops[j]?=some nt->g4.dst=some d->nt.dst≠some d
 ord:∀ (i j:Nat) (g4 nt:Oper) (d:Nat),i≠j->ops[i]?=some g4->ops[j]?=some nt->g4.dst=some d->d∈looks ops nt->qe ops i j\/qe ops j i
def VE(h:GL ops=true):xj ops:=by
 have key:∀ (j:Nat) (nt:Oper),ops[j]?=some nt->_:=λj nt an=>by have a0:j<ops.length:=(kG.1 an).1;have U:=hI.1 h j (me.2 a0);simp only[an,ct]at U;exact U
 refine⟨?_,?_,?_,?_⟩
 ·rintro j e⟨o,n6,aD,r',ag,rfl⟩;have U:=hI.1 (key j o aD).1 n6 (by simpa using r');rw[ag]at U;simpa using U
 ·intro j o d aD ah;have U:=(key j o aD).2.1;rw[ah]at U;simpa using U
 ·intro i j g4 nt d bM hi an ah iD;have a0:i<ops.length:=(kG.1 hi).1;have U:=hI.1 (key j nt an).2.2 i (me.2 a0);rw[hW bM]at U;simp only[hi,ah,w2,ct]at U;rw[iD]at U;simp at U
 ·intro i j g4 nt d bM hi an ah aE;have a0:i<ops.length:=(kG.1 hi).1;have U:=hI.1 (key j nt an).2.2 i (me.2 a0);rw[hW bM]at U;simp only[hi,ah,w2,ct,lq]at U;rcases U.2 with aa | aa | aa
  ·have:(looks ops nt).contains d=true:=by simpa using aE
   rw[this]at aa;cases aa
  ·exact .inl (Ar aa)
  ·exact .inr (Ar aa)
def jL(ops:List Oper)(i:Nat):Option Nat:=(ops[i]?).bind (·.dst)
def ls(L:Nat->Prop)(p i:Nat):Prop:=p.testBit i=true/\¬ L i
def As(ops:List Oper)(o:Oper)(F:Fr):Prop:=match o.guard with
 |none=>True| some (j,b)=>∃ d,jL ops j=some d/\F d=.lit b
def Kx(ops:List Oper)(o:Oper)(F:Fr):Prop:=∃ j b d,o.guard=some (j,b)/\jL ops j=some d/\(F d=.lit (!b)\/∃ vs,F d=.val (.tuple vs))
def OW{o:Oper}{j d:Nat}{b:Bool}(aB:o.guard=some (j,b))(ah:jL ops j=some d):d∈looks ops o:=by unfold looks Oper.looksAt;refine oI _ ?_;rw[aB];simp only[Option.mem_toList];simpa[jL]using ah
def OX{o:Oper}{t:Nat}(h:Operand.tmp t∈o.op.operands):t∈looks ops o:=
 r0 _ (List.mem_filterMap.2 ⟨.tmp t,by simpa using h,rfl⟩)
def VF{o:Oper}{F:Fr}{β:Nat->Nat}(h:As ops o F)(cB:∀ t∈looks ops o,fe β (F t) (a.tmps.getD t undef)):Region.wanted o (yielded ops.toArray a.tmps)=true:=by
 unfold As at h;unfold Region.wanted;cases aB:o.guard with
 |none=>rfl| some Gy=>obtain⟨j,b⟩:=Gy;rw[aB]at h;obtain⟨d,ah,aE⟩:=h;have U:=cB d (OW aB ah);rw[aE]at U;have aT:=Gx (ops:=ops.toArray) (j:=j) (d:=d) (by simpa[jL]using ah) a.tmps;simp[aT,D' U]
def VG{o:Oper}{F:Fr}{β:Nat->Nat}(h:Kx ops o F)(cB:∀ t∈looks ops o,fe β (F t) (a.tmps.getD t undef)):Region.wanted o (yielded ops.toArray a.tmps)=false:=by
 obtain⟨j,b,d,aB,ah,aE⟩:=h;unfold Region.wanted;have U:=cB d (OW aB ah);have aT:=Gx (ops:=ops.toArray) (j:=j) (d:=d) (by simpa[jL]using ah) a.tmps;rw[aB];rcases aE with aE | ⟨vs,aE⟩
 ·rw[aE]at U;simp[aT,D' U]
 ·rw[aE]at U;have Cb:yielded ops.toArray a.tmps j=none:=by
   rw[aT];cases lQ:a.tmps[d]? with
   |none=>rfl| some v=>simp only[fe,p8,lQ,mb]at U;subst U;rfl
  simp[Cb]
def VH{o:Oper}{F:Fr}{run skip:Fr->Prop}(h:Kv ops o F run skip):∃ lU,(∀ t,uB (F t) (lU t))/\((As ops o lU/\run lU)\/(Kx ops o lU/\skip lU)):=by
 unfold Kv at h;cases aB:o.guard with
 |none=>rw[aB]at h;exact⟨F,λt=>.refl _,.inl ⟨by simp[As,aB],h⟩⟩
 |some Gy=>
  obtain⟨j,b⟩:=Gy;rw[aB]at h;simp only at h;split at h;·exact h.elim
  ·rename_i d ah;have iD:jL ops j=some d:=ah;split at h
   ·rename_i c aJ;refine⟨F,λt=>.refl _,?_⟩;cases km:(c == b)with
    |true=>
     rw[km]at h;have km:c=b:=by simpa using km
     subst km;exact .inl ⟨by simp only[As,aB];exact⟨d,iD,aJ⟩,h⟩
    |false=>
     rw[km]at h;have Ky:c=!b:=by cases c<;>cases b<;>simp_all
     subst Ky;exact .inr ⟨⟨j,b,d,aB,iD,.inl aJ⟩,h⟩
   ·rename_i c aJ;obtain⟨U,aa⟩:=h;have h0:∀ x,c=x->∀ t,uB (F t) (hr F d (.lit x) t):=λx ab t=>by
     unfold hr;by_cases e:t=d;·subst e;subst ab;simp only[r2,a4,aJ];exact λ_ _ h=>h
     ·simp only[hW e,aQ];exact .refl _
    have self:∀ x,hr F d (.lit x) d=.lit x:=λx=>by simp[hr]
    by_cases km:c=b;·exact⟨_,h0 b km,.inl ⟨by simp only[As,aB];exact⟨d,iD,self b⟩,U km⟩⟩
    ·have Ky:c=!b:=by cases c<;>cases b<;>simp_all
     exact⟨_,h0 _ Ky,.inr ⟨⟨j,b,d,aB,iD,.inl (self _)⟩,aa Ky⟩⟩
   ·rename_i vs aJ;exact⟨F,λt=>.refl _,.inr ⟨⟨j,b,d,aB,iD,.inr ⟨vs,aJ⟩⟩,h⟩⟩
   ·exact h.elim
structure af4(X:dw)(ops:List Oper)(jy:Nat->Bool)(L:Nat->Prop)(p:Nat)(cC:List (Nat×Nat))(β:Nat->Nat)(a:Act)(F:Fr)(C:dX)(I:a5)(M:List aF)(h8:Nat->dW)(hg:Nat->Fr)(q:Nat)(o:Oper):Prop where
 quiet:Ec o.op=true
 h0:∀ d,o.dst=some d->uB (h8 q) (F d)
 b:∀ t∈looks ops o,∀ i,ls L p i->qe ops i q->jL ops i=some t->uB (h8 i) (hg q t)
 a:∀ t∈looks ops o,(∀ i,ls L p i->qe ops i q->jL ops i≠some t)->fe β (hg q t) (a.tmps.getD t undef)
 r:(As ops o (hg q)/\cY X o.op (dN (hg q)) C I (xh (jy q) M) (λx=>x=h8 q) False/\∀ t x,o.op=.load t x->(q,Kw (dN (hg q) x))∈cC)\/(Kx ops o (hg q)/\h8 q=.val undef)
structure Inv(X:dw)(ops:List Oper)(jy:Nat->Bool)(L:Nat->Prop)(β:Nat->Nat)(a:Act)(w:World)(F:Fr)(C:dX)(I:a5)(M:List aF)(p:Nat)(cC:List (Nat×Nat))(h8:Nat->dW)(hg:Nat->Fr):Prop where
 rel:db X β a w (λ_=>.n1) C I M
 sub:∀ i,L i->p.testBit i=true
 xk:Cg ops L
 sb:Cg ops (λi=>p.testBit i=true)
 T:∀ t,(∀ i,ls L p i->jL ops i≠some t)->fe β (F t) (a.tmps.getD t undef)
 At:∀ q,ls L p q->∃ o,ops[q]?=some o/\af4 X ops jy L p cC β a F C I M h8 hg q o
def nw{p q i:Nat}:(p ||| 2^q).testBit i=true ↔ p.testBit i=true\/i=q:=by simp only[J',lq,J7,eY];exact⟨λh=>h.imp id Eq.symm,λh=>h.imp id Eq.symm⟩
section
variable{X:dw}{ops:List Oper}{jy:Nat->Bool}{L:Nat->Prop}{β:Nat->Nat}{a:Act}{w:World}{F:Fr}{C:dX}{I:a5}{M:List aF}{p:Nat}{cC:List (Nat×Nat)}{h8:Nat->dW}{hg:Nat->Fr}{q:Nat}{o:Oper}
def GM(h:ops[q]?=some o):jL ops q=o.dst:=by simp[jL,h]
def GN{i d:Nat}(h:jL ops i=some d):∃ g4,ops[i]?=some g4/\g4.dst=some d:=by unfold jL at h;exact On.1 h
def Inv.ahead(dH:xj ops)(VI:Cg ops (λi=>p.testBit i=true))(aL:ops[q]?=some o)(lV:p.testBit q=false){i t:Nat}(hi:p.testBit i=true)(aI:t∈looks ops o)(ah:jL ops i=some t):qe ops i q:=by
 obtain⟨g4,iZ,qZ⟩:=GN ah;have bM:i≠q:=λe=>by rw[e,lV]at hi;cases hi
 rcases dH.ord i q g4 o t bM iZ aL qZ aI with h | h
 ·exact h
 ·have:=h.mem VI (λe he=>VI i e hi he);rw[lV]at this;cases this
def Inv.af5(dH:xj ops)(h:Inv X ops jy L β a w F C I M p cC h8 hg)(aL:ops[q]?=some o)(lV:p.testBit q=false)(br:∀ e,nu ops q e->L e):∀ t∈looks ops o,fe β (F t) (a.tmps.getD t undef):=λt aI=>h.T t λi hi ah=>
 hi.2 ((Inv.ahead dH h.sb aL lV hi.1 aI ah).mem h.xk br)
def Kz{x:dW}{t:Nat}(h:dst≠some t):put dst x F t=F t:=by
 cases dst with
 |none=>rfl| some d=>have:t≠d:=λe=>h (by rw[e]);simp only[put,hr,hW this,aQ]
def put_eq{x:dW}{t:Nat}:put (some t) x F t=x:=by simp[put,hr]
def KA{t:Nat}(h:dst≠some t):(a.put dst v).tmps.getD t undef=a.tmps.getD t undef:=by
 cases dst with
 |none=>rfl| some d=>have:d≠t:=λe=>h (by rw[e]);simp only[Act.put,p8,DW,b8 this]
def OY{t:Nat}(h:t<a.tmps.size):(a.put (some t) v).tmps.getD t undef=v:=by rw[UZ a t t v h,cF rfl]
def Inv.record(dH:xj ops)(h:Inv X ops jy L β a w F C I M p cC h8 hg)(aL:ops[q]?=some o)(lV:p.testBit q=false)(Aq:∀ e,nu ops q e->p.testBit e=true)(KB:Ec o.op=true)
  {lU:Fr} (uC:∀ t,uB (F t) (lU t)) {x:dW} {OZ:List (Nat×Nat)} (vD:∀ s∈cC,s∈OZ) (al:(As ops o lU/\cY X o.op (dN lU) C I (xh (jy q) M) (λy=>y=x) False/\∀ t y,o.op=.load t y->(q,Kw (dN lU y))∈OZ)\/(Kx ops o lU/\x=.val undef)) :
  Inv X ops jy L β a w (put o.dst x lU) C I M (p ||| 2^q) OZ (λi=>if i=q then x else h8 i) (λi=>if i=q then lU else hg i):=by
 have sc:¬ L q:=λe=>by have:=h.sub q e;rw[lV]at this;cases this
 have q0:∀ {i},ls L (p ||| 2^q) i->i≠q->ls L p i:=λhi bM=>⟨(nw.1 hi.1).resolve_right bM,hi.2⟩;have y0:∀ {i},ls L p i->ls L (p ||| 2^q) i:=λhi=>⟨nw.2 (.inl hi.1),hi.2⟩;have af6:ls L (p ||| 2^q) q:=⟨nw.2 (.inr rfl),sc⟩;have af7:∀ {i},ls L p i->¬ qe ops q i:=fun {i} hi ag=>by have:=ag.mem h.sb (λe he=>h.sb i e hi.1 he);rw[lV]at this;cases this
 refine⟨h.rel,λi hi=>nw.2 (.inl (h.sub i hi)),h.xk,?_,?_,?_⟩
 ·intro j e an he;rcases nw.1 an with an | rfl
  ·exact nw.2 (.inl (h.sb j e an he))
  ·exact nw.2 (.inl (Aq e he))
 ·intro t aI;have U:o.dst≠some t:=λe=>aI q af6 (by rw[GM aL,e]);rw[Kz U];exact uC t _ _ (h.T t λi hi=>aI i (y0 hi))
 ·intro i hi;by_cases qf:i=q
  ·subst qf;refine⟨o,aL,⟨KB,?_,?_,?_,?_⟩⟩
   ·intro d ah;rw[ah,put_eq];simp only[cF];exact .refl _
   ·intro t aI j an ag xl;have KD:j≠i:=λe=>by subst e;have:=ag.mem h.sb Aq;rw[lV]at this;cases this
    simp only[b8 KD,cF];obtain⟨nt,af8,tj⟩:=h.At j (q0 an KD);exact(tj.h0 t (by rw[<-GM af8];exact xl)).trans (uC t)
   ·intro t aI eb;simp only[cF];refine uC t _ _ (h.T t λj an xl=>eb j (y0 an) (Inv.ahead dH h.sb aL lV an.1 aI xl) xl)
   ·simpa using al
  ·obtain⟨g4,iZ,tj⟩:=h.At i (q0 hi qf);refine⟨g4,iZ,⟨tj.quiet,?_,?_,?_,?_⟩⟩
   ·intro d ah;simp only[b8 qf];rw[Kz (dH.OV i q g4 o d qf iZ aL ah)];exact(tj.h0 d ah).trans (uC d)
   ·intro t aI j an ag xl;have GO:j≠q:=λe=>by subst e;exact af7 (q0 hi qf) ag
    simp only[b8 qf,b8 GO];exact tj.b t aI j (q0 an GO) ag xl
   ·intro t aI eb;simp only[b8 qf];exact tj.a t aI λj an=>eb j (y0 an)
   ·simp only[b8 qf];exact tj.r.imp (λ⟨U,aa,af⟩=>⟨U,aa,λt x aC=>vD _ (af t x aC)⟩) id
def Inv.exec{Ao:Act->World->Prop}(aW:dm X.P X.E)(dH:xj ops)(fi:∀ d,o.dst=some d->d<X.n)(h:Inv X ops jy L β a w F C I M p cC h8 hg)(aL:ops[q]?=some o)(aK:ls L p q)(br:∀ e,nu ops q e->L e)
  (fN:∀ cf,Inv X ops jy (λi=>L i\/i=q) β cf w F C I M p cC h8 hg->Ao cf w):wpOpIn (hK X) 0 X.P ops.toArray Q q Ao a w:=by
 obtain⟨o',sd,tj⟩:=h.At q aK;rw[aL]at sd;cases sd;have Ee:∀ {i},qe ops i q->¬ ls L p i:=λag hi=>hi.2 (ag.mem h.xk br);have gl:∀ t∈looks ops o,fe β (hg q t) (a.tmps.getD t undef):=λt aI=>tj.a t aI λi hi ag=>(Ee ag hi).elim;have after:∀ v,fe β (h8 q) v->Inv X ops jy (λi=>L i\/i=q) β (a.put o.dst v) w F C I M p cC h8 hg:=λv aj=>by
  have q0:∀ {i},ls (λi=>L i\/i=q) p i->ls L p i/\i≠q:=λhi=>⟨⟨hi.1,λe=>hi.2 (.inl e)⟩,λe=>hi.2 (.inr e)⟩;have y0:∀ {i},ls L p i->i≠q->ls (λi=>L i\/i=q) p i:=λhi bM=>⟨hi.1,λe=>e.elim hi.2 bM⟩;refine⟨h.rel.put fi (x:=.n1) trivial |> λh=>h.refine λ_=>trivial,?_,?_,h.sb,?_,?_⟩
  ·rintro i (hi | rfl)
   ·exact h.sub i hi
   ·exact aK.1
  ·rintro j e (an | rfl) he
   ·exact .inl (h.xk j e an he)
   ·exact .inl (br e he)
  ·intro t aI;by_cases ah:o.dst=some t
   ·have a0:t<a.tmps.size:=by rw[h.rel.size];exact fi t ah
    rw[ah,OY a0];exact tj.h0 t ah _ _ aj
   ·rw[KA ah];refine h.T t λi hi qZ=>?_;by_cases qf:i=q
    ·subst qf;rw[GM aL]at qZ;exact ah qZ
    ·exact aI i (y0 hi qf) qZ
  ·intro i hi;obtain⟨dx,qf⟩:=q0 hi;obtain⟨g4,iZ,uD⟩:=h.At i dx;refine⟨g4,iZ,⟨uD.quiet,uD.h0,λt aI j an=>uD.b t aI j (q0 an).1,?_,uD.r⟩⟩;intro t aI eb;by_cases ah:o.dst=some t
   ·have a0:t<a.tmps.size:=by rw[h.rel.size];exact fi t ah
    rw[ah,OY a0];have ag:qe ops q i:=by
     rcases dH.ord q i o g4 t (s9 qf) aL iZ ah aI with ag | ag;·exact ag
     ·exact(Ee ag dx).elim
    exact uD.b t aI q aK ag (by rw[GM aL,ah]) _ _ aj
   ·rw[KA ah];refine uD.a t aI λj an ag xl=>?_;by_cases GO:j=q
    ·subst GO;rw[GM aL]at xl;exact ah xl
    ·exact eb j (y0 an GO) ag xl
 have GP:ops.toArray[q]?=some o:=by simpa using aL
 unfold wpOpIn;simp only[GP];rcases tj.r with⟨ff,af9,-⟩ | ⟨GQ,ab⟩
 ·rw[VF ff gl,cF rfl];let G:Fr:=λt=>if t∈looks ops o then hg q t else .n1
  have eR:∀ t,fe β (G t) (a.tmps.getD t undef):=λt=>by
   by_cases aI:t∈looks ops o;·simp only[G,cF aI];exact gl t aI
   ·simp only[G,b8 aI];trivial
  have O0:∀ y∈o.op.operands,dN G y=dN (hg q) y:=λy aT=>by
   cases y with
   |tmp t=>simp only[dN,G,cF (OX aT)]| const v=>cases v<;>rfl
   |global g=>rfl| func f=>rfl
  have aga:=Vz af9 O0 (C':=C) (I':=I) (M':=M) λ_ _ _=>⟨λ_ _ _=>rfl,λ_ _ _ h=>afQ h⟩;obtain⟨dst,op,ty,pos,agb,guard⟩:=o;have bV:∀ c,op≠.defer c:=λc e=>by have:=tj.quiet;rw[e]at this;cases this
  rcases Vg aW (h.rel.refine eR) op ty dst pos agb guard aga with U | ⟨v,x,lW,ab,rfl⟩;·exact U.elim
  ·exact kk bV lW (fN _ (after v ab))
 ·rw[VG GQ gl];simp only[lN,mO];exact⟨λ_ _=>trivial,fN _ (after undef (by rw[ab];rfl))⟩
end
section
variable{X:dw}{ops:List Oper}{jy:Nat->Bool}{L:Nat->Prop}{β:Nat->Nat}{a:Act}{w:World}{F:Fr}{C:dX}{I:a5}{M:List aF}{p:Nat}{cC:List (Nat×Nat)}{h8:Nat->dW}{hg:Nat->Fr}{q:Nat}{o:Oper}
def Inv.refine(h:Inv X ops jy L β a w F C I M p cC h8 hg){lU:Fr}(uC:∀ t,uB (F t) (lU t)):Inv X ops jy L β a w lU C I M p cC h8 hg:=
 ⟨h.rel,h.sub,h.xk,h.sb,λt aI=>uC t _ _ (h.T t aI),λi hi=>by
  obtain⟨g4,iZ,aK⟩:=h.At i hi;exact⟨g4,iZ,⟨aK.quiet,λd ah=>(aK.h0 d ah).trans (uC d),aK.b,aK.a,aK.r⟩⟩⟩
def Inv.step(dH:xj ops)(fi:∀ d,o.dst=some d->d<X.n)(h:Inv X ops jy L β a w F C I M p cC h8 hg)(aL:ops[q]?=some o)(lV:p.testBit q=false)(br:∀ e,nu ops q e->L e)
 {x:dW} {C':dX} {I':a5} {M':List aF} (ab:fe β x v) (al:db X β a w' (λ_=>.n1) C' I' M')
  (hm:∀ i g4 fA,ls L p i->ops[i]?=some g4->qX g4.op=true->(i,fA)∈cC->(∀ s,fA=s+1->C' s=C s)/\(fA=0->∀ b o,iX I (xh (jy i) M) b o->iX I' (xh (jy i) M') b o)) :
  Inv X ops jy (λi=>L i\/i=q) β (a.put o.dst v) w' (put o.dst x F) C' I' M' (p ||| 2^q) cC h8 hg:=by
 have q0:∀ {i},ls (λi=>L i\/i=q) (p ||| 2^q) i->ls L p i:=λhi=>⟨(nw.1 hi.1).resolve_right (λe=>hi.2 (.inr e)),λe=>hi.2 (.inl e)⟩;have y0:∀ {i},ls L p i->ls (λi=>L i\/i=q) (p ||| 2^q) i:=fun {i} hi=>⟨nw.2 (.inl hi.1),λe=>e.elim hi.2 (λe=>by
  subst e;have:=hi.1;rw[lV]at this;cases this)⟩
 refine⟨al.put fi (x:=.n1) trivial |> λh=>h.refine λ_=>trivial,?_,?_,?_,?_,?_⟩
 ·rintro i (hi | rfl)
  ·exact nw.2 (.inl (h.sub i hi))
  ·exact nw.2 (.inr rfl)
 ·rintro j e (an | rfl) he
  ·exact .inl (h.xk j e an he)
  ·exact .inl (br e he)
 ·intro j e an he;rcases nw.1 an with an | rfl
  ·exact nw.2 (.inl (h.sb j e an he))
  ·exact nw.2 (.inl (h.sub e (br e he)))
 ·intro t aI;by_cases ah:o.dst=some t
  ·have a0:t<a.tmps.size:=by rw[h.rel.size];exact fi t ah
   rw[ah,OY a0,put_eq];exact ab
  ·rw[KA ah,Kz ah];exact h.T t λi hi=>aI i (y0 hi)
 ·intro i hi;have dx:=q0 hi;obtain⟨g4,iZ,uD⟩:=h.At i dx;have qf:i≠q:=λe=>by subst e;have:=dx.1;rw[lV]at this;cases this
  refine⟨g4,iZ,⟨uD.quiet,?_,λt aI j an=>uD.b t aI j (q0 an),?_,?_⟩⟩;·intro d ah;rw[Kz (dH.OV i q g4 o d qf iZ aL ah)];exact uD.h0 d ah
  ·intro t aI eb;have ah:o.dst≠some t:=λah=>by
    rcases dH.ord q i o g4 t (s9 qf) aL iZ ah aI with ag | ag;·have:=ag.mem h.sb (λe he=>h.sb i e dx.1 he);rw[lV]at this;cases this
    ·exact dx.2 (ag.mem h.xk br)
   rw[KA ah];exact uD.a t aI λj an=>eb j (y0 an)
  ·refine uD.r.imp (λ⟨U,aa,af⟩=>⟨U,Vz aa (λ_ _=>rfl) λt x aE=>?_,af⟩) id;have aN:=af t x aE;have bq:=hm i g4 _ dx iZ (by rw[aE];rfl) aN;refine⟨λs off e=>?_,λbM=>bq.2 ?_⟩
   ·exact bq.1 s (by rw[e];rfl)
   ·generalize dN (hg i) x=agc at bM;cases agc with
    |ref s off=>exact(bM s off rfl).elim| _=>rfl
def Ch(X:dw)(ops:List Oper)(jy:Nat->Bool)(K:hb)(L:Nat->Prop)(a:Act)(w:World):Prop:=
 ∃ β F C I M p cC h8 hg n,Inv X ops jy L β a w F C I M p cC h8 hg/\r8 X ops jy n p cC F C I M K
def GR{k:Bool}{i:Nat}:i∈qY ops p k ↔ ∃ o,ops[i]?=some o/\p.testBit i=false/\Ec o.op=k/\(∀ e,nu ops i e->p.testBit e=true):=by
 unfold qY;rw[yN,me];have GS:∀ {o},ops[i]?=some o->(GI o p=true ↔ ∀ e,nu ops i e->p.testBit e=true):=fun {o} aD=>by
  unfold GI;rw[hI];constructor;·rintro h e⟨o',n6,sd,r',ag,rfl⟩;rw[aD]at sd;cases sd;have:=h n6 (by simpa using r');rw[ag]at this;simpa using this
  ·intro h n6 r';cases ag:Region.binds .any n6 with
   |false=>simp| true=>simp[h n6.on ⟨o,n6,aD,by simpa using r',ag,rfl⟩]
 constructor
 ·rintro⟨a0,h⟩;cases aD:ops[i]? with
  |none=>rw[aD]at h;cases h| some o=>rw[aD]at h;simp only[ct,pk,beq_iff_eq]at h;exact⟨o,rfl,h.1,h.2.1,(GS aD).1 h.2.2⟩
 ·rintro⟨o,aD,U,aa,af⟩;refine⟨(kG.1 aD).1,?_⟩;rw[aD];simp only[U,aa,(GS aD).2 af,Ka,Gm,Bool.and_self]
def VJ{P:Nat->Prop}:∀ {l:List Nat},OR P l->∀ i∈l,P i
 |[],_,i,hi=>by cases hi
 |[j],h,i,hi=>by rw[jw]at hi;subst hi;exact h
 |j::k::l,h,i,hi=>by
  rcases eu.1 hi with rfl | hi;·exact h.1
  ·exact VJ (l:=k::l) h.2 i hi
def agd(i:Nat)(op:Op)(ρ:Operand->dW)(cC:List (Nat×Nat)):∀ s∈cC,s∈GK i op ρ cC:=λs ax=>by
 unfold GK;split
 ·exact .tail _ ax
 ·exact ax
def age{i:Nat}{ρ:Operand->dW}{cC:List (Nat×Nat)}:∀ t x,op=.load t x->(i,Kw (ρ x))∈GK i op ρ cC:=λt x aC=>by subst aC;unfold GK;exact .head _
def Ch.advance(dH:xj ops){K:hb}:∀ (n:Nat) {p cC F h8 hg},Inv X ops jy L β a w F C I M p cC h8 hg->r8 X ops jy n p cC F C I M K -> ∃ p cC F h8 hg n,Inv X ops jy L β a w F C I M p cC h8 hg/\qY ops p true=[]/\r8 X ops jy (n+1) p cC F C I M K
 |0,_,_,_,_,_,_,aj=>aj.elim
 |n+1,p,cC,F,h8,hg,bX,aj=>by
  cases al:qY ops p true with
  |nil=>exact⟨p,cC,F,h8,hg,n,bX,al,aj⟩
  |cons q l=>
   have h3:q∈qY ops p true:=by rw[al];simp
   obtain⟨o,aL,lV,KB,Aq⟩:=GR.1 h3;have nq:=aj;unfold r8 at nq;rw[al]at nq;simp only[aL]at nq;obtain⟨lU,uC,⟨ff,U⟩ | ⟨GQ,U⟩⟩:=VH nq;·obtain⟨x,aa,af⟩:=afW (afS U);exact Ch.advance dH n (bX.record dH aL lV Aq KB uC (agd _ _ _ _) (.inl ⟨ff,af,age⟩)) aa
   ·exact Ch.advance dH n (bX.record dH aL lV Aq KB uC (λ_ h=>h) (.inr ⟨GQ,rfl⟩)) U
def mem_ready{i:Nat}(cI:dK.size=ops.length):i∈Region.ready .any ops.toArray dK ↔ ∃ o,ops[i]?=some o/\¬ dK.getD i false=true/\∀ e,nu ops i e->dK.getD e false=true:=by
 unfold Region.ready;rw[yN,me];simp only[vp,BU,ct,pk];have GS:∀ {o},ops[i]?=some o->((o.after.all λe=>!Region.binds .any e||dK.getD e.on false)=true ↔ ∀ e,nu ops i e->dK.getD e false=true):=fun {o} aD=>by
  rw[Array.all_eq_true_iff_forall_mem];constructor;·rintro h e⟨o',n6,sd,r',ag,rfl⟩;rw[aD]at sd;cases sd;have:=h n6 r';rw[ag]at this;simpa using this
  ·intro h n6 r';cases ag:Region.binds .any n6 with
   |false=>simp| true=>simp[h n6.on ⟨o,n6,aD,r',ag,rfl⟩]
 have VK:i<ops.length->(dK.getD i true=false ↔ ¬ dK.getD i false=true):=λhi=>by
  have:i<dK.size:=by omega
  simp[Array.getD,this]
 constructor
 ·rintro⟨a0,U,aa⟩;cases aD:ops[i]? with
  |none=>rw[aD]at aa;cases aa| some o=>rw[aD]at aa;exact⟨o,rfl,(VK a0).1 U,(GS aD).1 aa⟩
 ·rintro⟨o,aD,U,aa⟩;have a0:=(kG.1 aD).1;refine⟨a0,(VK a0).2 U,?_⟩;rw[aD];exact(GS aD).2 aa
def VL{i:Nat}(hi:i<dK.size):(λj=>(dK.setIfInBounds i true).getD j false=true)=λj=>dK.getD j false=true\/j=i:=by
 funext j;simp only[p8,DW,eq_iff_iff];by_cases e:i=j
 ·subst e;simp[hi]
 ·simp only[b8 e];constructor
  ·exact .inl
  ·rintro(h | h)
   ·exact h
   ·exact(e h.symm).elim
def todo(ops:List Oper)(dK:Array Bool):Nat:=((List.range ops.length).filter λi=>!dK.getD i false).length
def KE{i:Nat}(hi:i<ops.length)(cI:dK.size=ops.length)(az:¬ dK.getD i false=true):todo ops (dK.setIfInBounds i true)<todo ops dK:=by
 unfold todo;have key:∀ l:List Nat,l.Nodup->i∈l->((l.filter λj=>!(dK.setIfInBounds i true).getD j false).length<(l.filter λj=>!dK.getD j false).length):=by
  have same:∀ j,j≠i->(dK.setIfInBounds i true).getD j false=dK.getD j false:=λj an=>by simp only[p8,DW,b8 (s9 an)]
  have self:(dK.setIfInBounds i true).getD i false=true:=by
   have:i<dK.size:=by omega
   simp[p8,DW,this]
  have xm:dK.getD i false=false:=by simpa using az
  intro l
  induction l with
  |nil=>intro _ h;cases h
  |cons j l be=>
   intro bV hm;rw[mN]at bV;by_cases e:j=i
   ·subst e;have:l.filter (λk=>!(dK.setIfInBounds j true).getD k false)=l.filter (λk=>!dK.getD k false):=
     Ov λk ae=>by rw[same k (λe=>bV.1 (e ▸ ae))]
    simp only[J9,self,xm,this];simp
   ·have tk:i∈l:=by
     rcases eu.1 hm with h | h;·exact(e h.symm).elim
     ·exact h
    have:=be bV.2 tk;simp only[J9,same j e];split;·simp only[eM];omega
    ·exact this
 exact key _ List.nodup_range (me.2 hi)
def agf(aW:dm X.P X.E)(dH:xj ops)(fi:∀ o∈ops,∀ d,o.dst=some d->d<X.n){K:hb}(vy:∀ a w,Sat X K a w->Q .normal a w):∀ (fuel:Nat) (dK:Array Bool) (a:Act) (w:World),
  dK.size=ops.length->todo ops dK<=fuel->Ch X ops jy K (λi=>dK.getD i false=true) a w->wpAnyIn (hK X) 0 X.P .any ops.toArray Q fuel dK a w:=by
 intro fuel
 induction fuel with
 |zero=>
  rintro dK a w cI ar⟨β,F,C,I,M,p,cC,h8,hg,n,bX,aj⟩;have q1:Region.ready .any ops.toArray dK=[]:=by
   cases al:Region.ready .any ops.toArray dK with
   |nil=>rfl| cons i l=>obtain⟨o,aD,az,_⟩:=(mem_ready cI).1 (by rw[al];simp:i∈Region.ready .any ops.toArray dK);have:=KE (kG.1 aD).1 cI az;omega
  refine⟨q1,?_⟩;obtain⟨p,cC,F,h8,hg,n,bX,k9,aj⟩:=Ch.advance dH n bX aj;have GU:∀ i,p.testBit i=true->dK.getD i false=true:=λi=>by
   induction i using Nat.strongRecOn with
   |ind i be=>intro aK;refine DY λaz=>?_;obtain⟨o,aD,_⟩:=bX.At i ⟨aK,az⟩;have:i∈Region.ready .any ops.toArray dK:=(mem_ready cI).2 ⟨o,aD,az,λe he=>be e (dH.lt i e he) (bX.sb i e aK he)⟩;rw[q1]at this;cases this
  have y1:qY ops p false=[]:=by
   cases al:qY ops p false with
   |nil=>rfl| cons i l=>obtain⟨o,aD,aK,_,ah⟩:=GR.1 (by rw[al];simp:i∈qY ops p false);have:i∈Region.ready .any ops.toArray dK:=(mem_ready cI).2 ⟨o,aD,λaR=>(by have ec:=bX.sub i aR;rw[aK]at ec;exact Bool.noConfusion ec),λe he=>GU e (ah e he)⟩;rw[q1]at this;cases this
  unfold r8 at aj;rw[k9,y1]at aj;exact vy _ _ ⟨F,C,I,M,⟨β,bX.rel.refine λt=>bX.T t λi hi=>(hi.2 (GU i hi.1)).elim⟩,aj⟩
 |succ fuel be=>
  rintro dK a w cI ar⟨β,F,C,I,M,p,cC,h8,hg,n,bX,aj⟩;obtain⟨p,cC,F,h8,hg,n,bX,k9,aj⟩:=Ch.advance dH n bX aj;refine⟨λq1=>?_,λq aL=>?_⟩
  ·have GU:∀ i,p.testBit i=true->dK.getD i false=true:=λi=>by
    induction i using Nat.strongRecOn with
    |ind i be=>intro aK;refine DY λaz=>?_;obtain⟨o,aD,_⟩:=bX.At i ⟨aK,az⟩;have:i∈Region.ready .any ops.toArray dK:=(mem_ready cI).2 ⟨o,aD,az,λe he=>be e (dH.lt i e he) (bX.sb i e aK he)⟩;rw[q1]at this;cases this
   have y1:qY ops p false=[]:=by
    cases al:qY ops p false with
    |nil=>rfl| cons i l=>obtain⟨o,aD,aK,_,ah⟩:=GR.1 (by rw[al];simp:i∈qY ops p false);have:i∈Region.ready .any ops.toArray dK:=(mem_ready cI).2 ⟨o,aD,λaR=>(by have ec:=bX.sub i aR;rw[aK]at ec;exact Bool.noConfusion ec),λe he=>GU e (ah e he)⟩;rw[q1]at this;cases this
   unfold r8 at aj;rw[k9,y1]at aj;exact vy _ _ ⟨F,C,I,M,⟨β,bX.rel.refine λt=>bX.T t λi hi=>(hi.2 (GU i hi.1)).elim⟩,aj⟩
  ·obtain⟨o,aD,az,ah⟩:=(mem_ready cI).1 aL;have a0:=(kG.1 aD).1;have se:=fi o (BV aD);have jM:=VL (dK:=dK) (i:=q) (by omega);have next:∀ cf w',Ch X ops jy K (λi=>dK.getD i false=true\/i=q) cf w'->wpAnyIn (hK X) 0 X.P .any ops.toArray Q fuel (dK.setIfInBounds q true) cf w':=λcf w' h=>by refine be _ cf w' (by simpa using cI) ?_ (by rw[jM];exact h);have:=KE a0 cI az;omega
   cases lV:p.testBit q with
   |true=>
    exact bX.exec aW dH se aD ⟨lV,az⟩ ah λcf h=>next cf w ⟨β,F,C,I,M,p,cC,h8,hg,n+1,h,aj⟩
   |false=>
    have O1:∀ e,nu ops q e->p.testBit e=true:=λe he=>bX.sub e (ah e he);have agh:Ec o.op=false:=by
     cases agi:Ec o.op with
     |false=>rfl| true=>have:q∈qY ops p true:=GR.2 ⟨o,aD,lV,agi,O1⟩;rw[k9]at this;cases this
    have h3:q∈qY ops p false:=GR.2 ⟨o,aD,lV,agh,O1⟩;unfold r8 at aj;rw[k9]at aj;simp only at aj;split at aj;·rename_i y1;rw[y1]at h3;cases h3
    ·rename_i i0 dy y1;rw[y1]at h3;have ag:=VJ aj q h3;simp only[aD]at ag;obtain⟨lU,uC,ag⟩:=VH ag;have b4:=bX.refine uC;have q2:=b4.af5 dH aD lV ah;have GP:ops.toArray[q]?=some o:=by simpa using aD
     unfold wpOpIn;simp only[GP];rcases ag with⟨ff,ag⟩ | ⟨GQ,ag⟩
     ·rw[VF ff q2,cF rfl];cases O2:Vq ((lT ops).getD q 0) p with
      |true=>
       rw[O2]at ag;simp only[xg,a4]at ag;have gq:∀ i,p.testBit i=true->dK.getD i false=true:=λi hi=>by
        have U:=cj O2;have aa:(p &&& (lT ops).getD q 0).testBit i=true:=by rw[U];exact hi
        rw[Nat.testBit_and,ct]at aa;exact(Ar aa.2).mem bX.xk ah
       have ba:Rel X a w lU C I M:=⟨β,b4.rel.refine λt=>b4.T t λi hi=>(hi.2 (gq i hi.1)).elim⟩;refine vr (λcf w'=>?_) (D9 aW se ba ag);rintro⟨eV,C',I',M',⟨pt,hf⟩,ae⟩;have agj:∀ i,¬ ls (λi=>dK.getD i false=true\/i=q) (p ||| 2^q) i:=λi hi=>by
        rcases nw.1 hi.1 with U | U;·exact hi.2 (.inl (gq i U))
        ·exact hi.2 (.inr U)
       refine next cf w' ⟨pt,eV,C',I',M',p ||| 2^q,cC,h8,hg,n,⟨hf.refine λ_=>trivial,?_,?_,?_,λt _=>hf.ak t,λi hi=>(agj i hi).elim⟩,ae⟩
       ·rintro i (hi | rfl)
        ·exact nw.2 (.inl (bX.sub i hi))
        ·exact nw.2 (.inr rfl)
       ·rintro j e (an | rfl) he
        ·exact .inl (bX.xk j e an he)
        ·exact .inl (ah e he)
       ·intro j e an he;rcases nw.1 an with an | rfl
        ·exact nw.2 (.inl (bX.sb j e an he))
        ·exact nw.2 (.inl (O1 e he))
      |false=>
       rw[O2]at ag;let G:Fr:=λt=>if t∈looks ops o then lU t else .n1
       have eR:∀ t,fe β (G t) (a.tmps.getD t undef):=λt=>by
        by_cases aI:t∈looks ops o;·simp only[G,cF aI];exact q2 t aI
        ·simp only[G,b8 aI];trivial
       have O0:∀ y∈o.op.operands,dN G y=dN lU y:=λy aT=>by
        cases y with
        |tmp t=>simp only[dN,G,cF (OX aT)]| const v=>cases v<;>rfl
        |global g=>rfl| func f=>rfl
       refine vr (λcf w'=>?_) (afZ aW (b4.rel.refine eR) O0 ag);rintro⟨v,x,C',I',M',rfl,ab,hf,ae,hm⟩;refine next _ _ ⟨β,_,C',I',M',p ||| 2^q,cC,h8,hg,n,b4.step dH se aD lV ah ab (hf.refine λ_=>trivial) ?_,ae⟩
       rcases hm with⟨Ku,y2⟩ | ⟨rfl,bz,ev⟩
       rotate_left
       ·exact λ_ _ _ _ _ _ _=>⟨λ_ _=>rfl,λ_=>Vu ev bz⟩
       have Ee:∀ {i},ls (λi=>dK.getD i false=true) p i->((lT ops).getD q 0).testBit i=true->False:=λhi ag=>hi.2 ((Ar ag).mem bX.xk ah);intro i g4 fA hi iZ dg h3;have eb:∀ {s:Nat},Ed ((lT ops).getD q 0) s cC=true->fA≠s:=fun {s} h e=>by
        rcases Vr h h3 with U | U;·exact Ee hi U
        ·exact U e
       rcases(lq _ _).mp Ku with agk | agl
       ·have U:=hI.1 agk i (me.2 (kG.1 iZ).1);rw[hi.1,iZ]at U;simp only[r1,w2,lq,pk]at U;rcases U with U | U
        ·exact(Ee hi U).elim
        ·rw[U]at dg;cases dg
       rcases(lq _ _).mp agl with Ef | Au
       ·unfold Vt at Ef;split at Ef
        ·rename_i t0 xn VM b';split at Ef
         ·rename_i e2 ath aC;obtain⟨⟨eJ,gr⟩,c3⟩:=y2.1 _ _ _ _ _ b' aC;exact⟨λcH e=>eJ cH (λaA=>eb Ef (by rw[e,aA])),λ_=>Vu c3 gr⟩
         ·cases Ef
        ·cases Ef
       rcases(lq _ _).mp Au with Au | y3
       ·unfold Vs at Au;split at Au
        ·rename_i t0 xn VM b';split at Au
         ·rename_i agm aC;exact⟨λ_ _=>by rw[(y2.2.1 _ _ _ _ b' aC).1],λe=>(eb Au e).elim⟩
         ·cases Au
        ·cases Au
       unfold Vx at y3;rw[ct]at y3;obtain⟨agn,y3⟩:=y3;have ago:jy i=true:=by
        have U:=hI.1 agn i (me.2 (kG.1 iZ).1);rw[hi.1,iZ]at U;simp only[r1,w2,lq,pk]at U;rcases U with U | U | U;·exact(Ee hi U).elim
        ·exact U
        ·rw[U]at dg;cases dg
       have bz:C'=C/\∀ b o,I b=some o->I' b=some o:=by
        unfold Vw at y3;split at y3
        ·rename_i t0 xn VM b';split at y3
         ·rename_i agm aC;exact y2.2.1 _ _ _ _ b' aC
         ·cases y3
        ·rename_i b';exact y2.2.2 (λt x y e=>by rw[b']at e;cases e)
        ·rename_i b';exact y2.2.2 (λt x y e=>by rw[b']at e;cases e)
        ·cases y3
       exact⟨λ_ _=>by rw[bz.1],λ_=>by rw[ago];exact afR bz.2⟩
     ·rw[VG GQ q2];simp only[lN,mO];refine⟨λ_ _=>trivial,next _ _ ⟨β,_,C,I,M,p ||| 2^q,cC,h8,hg,n,b4.step dH se aD lV ah (x:=.val undef) rfl b4.rel (λ_ _ _ _ _ _ _=>⟨λ_ _=>rfl,λ_ _ _ h=>h⟩),ag⟩⟩
end
def cq.VN{X:dw}{id:Nat}{F:Fr}{C:dX}{I:a5}{M:List aF}{K:mi}(aW:dm X.P X.E)(hm:X.P.follows .mixedOrders=true)(aJ:GL A.toList=true)(az:Ce X.n A=true)
  {jy:Nat->Bool} (h:r8 X A.toList jy (A.size+1) 0 [] F C I M (K .normal)):cq X (.region id A true) F C I M K:=by
 refine⟨λa w ⟨β,ba⟩=>wpIn_region_any hm ?_⟩;have tl:db X β a { w with drawn:=w.drawn+1 } F C I M:=ba.world rfl;have c4:∀ i,(Array.replicate A.size false).getD i false=false:=λi=>by
  by_cases hi:i<A.size<;>simp[p8,hi]
 have n7:∀ {i},¬ (Array.replicate A.size false).getD i false=true:=fun {i}=>by rw[c4];simp
 have key:=agf (K:=K .normal) (Q:=nr X K) aW (VE aJ) (Kn az) (λ_ _ h=>h) A.size (Array.replicate A.size false) a { w with drawn:=w.drawn+1 } (by simp) ?_ ⟨β,F,C,I,M,0,[],λ_=>.n1,λ_ _=>.n1,A.size+1,⟨tl.refine λ_=>trivial,λi hi=>(n7 hi).elim,λj e an=>(n7 an).elim,λj e an=>by simp at an,λt _=>tl.ak t,λi hi=>by simp[ls]at hi⟩,h⟩
 ·simpa using key
 ·unfold todo;refine iU (Gl _ _) (by simp)
def cq.draw{X:dw}{id:Nat}{F:Fr}{C:dX}{I:a5}{M:List aF}{K:mi}(aW:dm X.P X.E)(hm:X.P.follows .mixedOrders=true)(aJ:GL A.toList=true)(az:Ce X.n A=true)(h:r8 X A.toList (λ_=>false) (A.size+1) 0 [] F C I M (K .normal)):cq X (.region id A true) F C I M K:=.VN aW hm aJ az h
def cq.VO{X:dw}{id:Nat}{F:Fr}{C:dX}{I:a5}{M:List aF}{K:mi}(h0:Nat->Bool)(aW:dm X.P X.E)(hm:X.P.follows .mixedOrders=true)(aJ:GL A.toList=true)(az:Ce X.n A=true)(h:r8 X A.toList h0 (A.size+1) 0 [] F C I M (K .normal)):cq X (.region id A true) F C I M K:=.VN aW hm aJ az h
end Go.V
