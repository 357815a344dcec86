/- Part 1 of what the proofs of this seat share: the executor, data in memory, walks.
-/
import Derived.WalkKit
import Derived.RangeFuncRecord
import Derived.OrdersIn
import Derived.Lib.UnsafeStr
set_option linter.all false
namespace Go.V
open Go
def b0:=@Nat.le_of_ble_eq_true
def bS:=@of_decide_eq_true
def cK:=@Nat.eq_of_beq_eq_true
def cc:=@Result.andThen_ok
def bf:=@cond_false
def cp:=@Bool.and_eq_true
def bh:=@cond_true
def e8:=@List.drop_eq_getElem_cons
def ho:=@List.take_succ_eq_append_getElem
def bY:=@Nat.le_refl
def cy:=@Sem.run_bind
def dV:=@List.mem_append
def dv:=@List.map_cons
def dc:=@Sem.run_pure
def eQ:=@List.length_cons
def e5:=@decide_eq_true_eq
def dC:=@List.mem_map
def fi:=@List.map_append
def eL:=@List.mem_cons
def gh:=@List.all_eq_true
def kc:=@List.getElem?_eq_some_iff
def lS:=@Array.getElem?_eq_some_iff
def ib:=@Option.getD_some
def ca:=@if_neg
def pN:=@Array.getD_eq_getD_getElem?
def nz:=@World.putObj_heap_other
def kd:=@Option.some.injEq
def kH:=@Int.toNat_natCast
def lp:=@List.getElem?_take
def lq:=@Bool.false_eq_true
def cG:=@if_pos
def k3:=@Option.map_some
def kI:=@List.mem_range
def g2:=@Array.ext'
def om:=@List.getElem?_drop
def qs:=@Nat.mul_le_mul_right
def jN:=@Nat.le_trans
def nB:=@List.nodup_cons
def tI:=@Option.map_eq_some_iff
def pO:=@Nat.min_eq_left
def pP:=@List.foldl_cons
def pQ:=@Bool.eq_iff_iff
def tJ:=@List.getElem?_map
def oo:=@Nat.add_zero
def DF:=@Array.getElem?_setIfInBounds
def vg:=@Option.getD_none
def rz:=@Nat.add_assoc
def vh:=@Option.map_none
def tK:=@Oper.wpIn_mono
def F5:=@Array.getElem?_eq_getElem
def mh:=@if_false
def zz:=@Nat.lt_succ_self
def DG:=@List.range_eq_range'
def wG:=@ByteArray.ext
def Bn:=@List.nodup_append
def JF:=@Option.ne_none_iff_exists'
def JG:=@List.getElem?_cons_succ
def Bo:=@World.alloc_eq
def Bp:=@List.nodup_nil
def JH:=@ByteArray.data_extract
def JI:=@Nat.lt_of_lt_of_le
def F6:=@List.mapM_cons
def sC:=@Ne.symm
def sD:=@if_true
def ND:=@List.toList_toArray
def F7:=@Nat.add_comm
def NE:=@Array.foldl_toList
def NF:=@ByteArray.mk.injEq
def NG:=@Option.isSome_none
def T7:=@Array.mapM_eq_mapM_toList
def JJ:=@Oper.semAt_eq
def NH:=@List.range'_succ
variable{a:Act}{c:Code}{cu:List Nat}{P:Program}{f off d T sz h0 e n m fX bz bJ cj dN gi hp h1 ke qt sE vi yc Bq F8:Nat}{args vs z:List Value}{v:Value}{w' w:World}{cs:Array Value}{al:Nat×Nat}{R:Ending->World->Prop}{next:Act->World->Prop}{ad:Addr}{fY:IntKind}{ops:Array Oper}{fn:Func}
inductive F9 where
 |other | int (k:IntKind) | bool | string | slice (e:Nat) | array (n e:Nat) | struct (cE:List (Nat×Nat)) | map (k e:Nat) | pointer (e:Nat)
 deriving DecidableEq
def fo:TypeDesc->F9
 | .int k=>.int k| .bool=>.bool| .string=>.string| .slice e=>.slice e| .array n e=>.array n e| .struct cE=>.struct (cE.toList.map λf=>(f.type,f.offset))| .map k e=>.map k e| .pointer e=>.pointer e| _=>.other
def F9.agg:F9->Bool
 | .struct _ | .array ..=>true| _=>false
structure ec where
 size:Nat
 bytes:Nat
 zero:List Value
 bO:F9
structure kJ(P:Program)(t:Nat)(i:ec):Prop where
 inf:∃ inf z,P.info? t=some inf/\inf.size=i.size/\inf.bytes=i.bytes/\inf.zero=some z/\z.cells.toList=i.zero
 fp:∃ d,P.underlying t=some d/\fo d=i.bO
 one:∀ v∈i.zero,v.oneCell'=true
 len:i.zero.length=i.size
 JK:i.bO.agg=false->i.size=1
abbrev Env:=Nat->Option ec
def c6(P:Program)(E:Env):Prop:=∀ t i,E t=some i->kJ P t i
inductive dQ where
 |val(v:Value)| lit (b:Bool)| ref (s off:Nat)| nC
abbrev Fr:=Nat->dQ
abbrev d':=Nat->Option (List Value)
abbrev aR:=Nat->Option Obj
structure aI where
 num:Nat
 obj:Obj
abbrev gp:=Fr->d'->aR->List aI->Prop
def g3(F:Fr)(d:Nat)(x:dQ):Fr:=λt=>bif Nat.beq t d then x else F t
def jy(C:d')(d:Nat)(x:Option (List Value)):d':=λt=>bif Nat.beq t d then x else C t
def qu(F:Fr)(d:Nat):Fr:=λt=>match F t with
 | .ref s o=>bif Nat.beq s d then .nC else .ref s o| x=>x
def put(o:Option Nat)(x:dQ)(F:Fr):Fr:=match o with
 |some d=>g3 F d x| none=>F
def dD(F:Fr):Operand->dQ
 | .tmp t=>F t| .const (.bool b)=>.lit b| .const v=>.val v| .global g=>.val (.pointer (some ⟨g,0,none⟩))| .func f=>.val (.func (.func f) #[] #[])
def dR(ρ:Operand->dQ)(x:Operand):dQ:=match ρ x with
 | .lit b=>.val (.bool b)| y=>y
abbrev bG(F:Fr):Operand->dQ:=dR (dD F)
def pack(agg:Bool)(vs:List Value):Value:=bif agg then .agg vs.toArray else vs.headD undef
def bK(cs:List Value)(off:Nat)(vs:List Value):List Value:=cs.take off++vs++cs.drop (off+vs.length)
def gU(vs:List Value):Bool:=vs.all (·.oneCell')
def JL(c:Bool):dQ->dQ->dQ
 | .val (.bool x),.val (.bool y)=>.val (.bool (bif c then x else y))| .val x,.val y=>.val (bif c then x else y)| _,_=>.nC
def yd(op:BinOp)(x y:Int):Option Bool:=match op with
 | .eql=>some (decide (x=y))| .neq=>some (!decide (x=y))| .lss=>some (decide (x<y))| .leq=>some (decide (x<=y))| .gtr=>some (decide (y<x))| .geq=>some (decide (y<=x))| _=>none
def vj(op:BinOp)(k:IntKind)(x y:Int):Option Int:=
 let a:=BitVec.ofInt k.bits x
 let b:=BitVec.ofInt k.bits y
 match op with
 | .and=>some (k.wrap (a &&& b).toNat)| .or=>some (k.wrap (a ||| b).toNat)| .xor=>some (k.wrap (a ^^^ b).toNat)| .andNot=>some (k.wrap (a &&& ~~~b).toNat)| _=>none
def ix(I:aR)(M:List aI)(b:Nat)(o:Obj):Prop:=I b=some o\/∃ x∈M,x.num=b/\x.obj=o
def cq(I:aR)(M:List aI)(a:Addr)(n:Nat)(vs:List Value):Prop:=
 a.spot=none/\∃ cs T al,ix I M a.block (.cells cs T al)/\(cs.toList.drop a.off).take n=vs/\vs.length=n
inductive aK(I:aR)(M:List aI)(a:Addr)(n:Nat)(K:List Value->Prop):Prop
 |mk(vs:List Value)(h:cq I M a n vs)(k:K vs)
inductive cz(M:List aI)(a:Addr)(vs:List Value)(K:List aI->Prop):Prop
 |mk(a8 post:List aI)(cs:Array Value)(T:Nat)(a2:M=a8++⟨a.block,.cells cs T (0,0)⟩::post)(ar:a.spot=none)(ah:a.off+vs.length<=cs.size)(U:gU vs=true)(k:K (a8++⟨a.block,.cells (bK cs.toList a.off vs).toArray T (0,0)⟩::post))
inductive cv(I:aR)(M:List aI)(K:Nat->Prop):Prop
 |mk(k:∀ b,I b=none->(∀ x∈M,x.num≠b)->K b)
inductive bk(a:Option Addr)(n sz:Nat)(k:Int)(K:Addr->Prop):Prop
 |mk(ad:Addr)(j:Nat)(aE:a=some ad)(ae:k=(j:Int))(aj:j<n)(h:K (ad.add (j*sz)))
inductive ez(n:Nat)(k:Int)(K:Nat->Prop):Prop
 |mk(j:Nat)(ae:k=(j:Int))(aj:j<n)(h:K j)
inductive ye(s:ByteArray)(k:Int)(K:UInt8->Prop):Prop
 |mk(j:Nat)(ae:k=(j:Int))(aj:j<s.size)(h:K s[j])
inductive bc(k:IntKind)(n:Int)(K:Int->Prop):Prop
 |mk(r:Int)(h:k.wrap n=r)(be:K r)
inductive sF(y:Int)(K:Prop):Prop
 |mk(h:y≠0)(be:K)
inductive sG(y:Int)(K:Nat->Prop):Prop
 |mk(j:Nat)(h:y=(j:Int))(be:K j)
inductive aJ(c:Bool)(X Y:Prop):Prop
 |mk(h:c=true->X)(be:c=false->Y)
inductive nE(l c:Int)(bytes:Nat)(K:Nat->Nat->Prop):Prop
 |mk(n m:Nat)(ap:l=(n:Int))(aN:c=(m:Int))(h:n<=m)(ah:bytes*m<=140737488355328)(hm:m<=9223372036854775807)(k:K n m)
inductive NI(c:Nat)(hi mx:Int)(K:Nat->Nat->Prop):Prop
 |mk(h m:Nat)(e1:hi=(h:Int))(g4:mx=(m:Int))(U:h<=m)(aa:m<=c)(k:K h m)
inductive jO(n c:Nat)(lo hi:Option Int)(K:Nat->Nat->Prop):Prop
 |mk(l h:Nat)(eH:lo.getD 0=(l:Int))(e1:hi.getD n=(h:Int))(U:l<=h)(aa:h<=c)(k:K l h)
structure eI(I:aR)(M:List aI)(w:World):Prop where
 i:∀ b o,I b=some o->w.heap[b]?=some o
 m:∀ x∈M,w.heap[x.num]?=some x.obj
 d:∀ x∈M,I x.num=none
 cd:(M.map (·.num)).Nodup
def o1(w w':World):Prop:=w'.os=w.os/\w'.output=w.output
def o1.refl(w:World):o1 w w:=⟨rfl,rfl⟩
def o1.trans{a b c:World}(h:o1 a b)(be:o1 b c):o1 a c:=⟨be.1.trans h.1,be.2.trans h.2⟩
structure Kept(I:aR)(M:List aI)(w:World)(I':aR)(M':List aI)(w':World):Prop where
 le:∀ b o,I b=some o->I' b=some o
 vk:∀ b o,I' b=some o->I b=some o\/w.heap.size<=b
 wH:∀ x∈M',(∃ y∈M,y.num=x.num)\/w.heap.size<=x.num
 dg:∀ b,b<w.heap.size->(∀ y∈M,y.num≠b)->w'.heap[b]?=w.heap[b]?
 out:o1 w w'
 sz:w.heap.size<=w'.heap.size
def NJ(P:Program)(f:Nat):Prop:=∀ (args:Array Value) (w:World),(callFunc f args).run P w=.ok (.enter f args) w
def yf(P:Program)(f:Nat)(args:List Value)(I:aR)(M:List aI)(post:Value->aR->List aI->Prop):Prop:=
 NJ P f/\∀ w,eI I M w->Calls P f args.toArray w λe w'=>∃ v I' M',e=.returned v/\post v I' M'/\eI I' M' w'/\Kept I M w I' M' w'
def aed(P:Program)(f:Nat)(args:List Value)(I:aR)(M:List aI)(post:Value->aR->List aI->Prop):Prop:=
 ∀ w,eI I M w->∃ v w' I' M',(callFunc f args.toArray).run P w=.ok (.value v) w'/\post v I' M'/\eI I' M' w'/\Kept I M w I' M' w'
def Spec(P:Program)(f:Nat)(args:List Value)(I:aR)(M:List aI)(post:Value->aR->List aI->Prop):Prop:=yf P f args I M post\/aed P f args I M post
def ins(I:aR)(b:Nat)(o:Obj):aR:=λx=>bif Nat.beq x b then some o else I x
inductive jP(cu:List Nat):aR->List aI->aR->List aI->Prop
 |refl{I M}:jP cu I M I M| sub {I M M1 I' M'} (h:List.Sublist M1 M) (k:jP cu I M1 I' M'):jP cu I M I' M'| perm {I M M1 I' M'} (h:M.Perm M1) (k:jP cu I M1 I' M'):jP cu I M I' M'| rA {I M I' M' b o post} (h:M=⟨b,o⟩::post) (aC:b ∉ cu) (k:jP cu (ins I b o) post I' M'):jP cu I M I' M'
structure tL(I:aR)(M:List aI):Prop where
 d:∀ x∈M,I x.num=none
 cd:(M.map (·.num)).Nodup
inductive a0(cu:List Nat)(P:Program)(f:Nat)(args:List Value)(I:aR)(M:List aI)(K:Value->aR->List aI->Prop):Prop
 |mk(dW Mr:List aI)(post:Value->aR->List aI->Prop)(a2:M.Perm (dW++Mr))(ar:Spec P f args I dW post)(k:∀ v I' M',(∀ b o,I b=some o->I' b=some o)->post v I' M'->K v I' (M'++Mr))| NK (dW Mr:List aI) (post:Value->aR->List aI->Prop) (a2:M.Perm (dW++Mr)) (ar:Spec P f args I dW post) (k:∀ v I' M',(∀ b o,I b=some o->I' b=some o)->(∀ x∈M'++Mr,I' x.num=none)->post v I' M'->K v I' (M'++Mr))| F' (dO:aR) (dW Mr:List aI) (post:Value->aR->List aI->Prop) (hw:jP cu I M dO (dW++Mr)) (ar:Spec P f args dO dW post) (k:∀ v I' M',(∀ b o,dO b=some o->I' b=some o)->(∀ x∈M'++Mr,I' x.num=none)->post v I' M'->K v I' (M'++Mr))| DH (h:tL I M->a0 cu P f args I M K)
def a0.elim{I:aR}{M:List aI}{K:Value->aR->List aI->Prop}(hH:tL I M)(h:a0 cu P f args I M K) :
  ∃ (dO:aR) (dW Mr:List aI) (post:Value->aR->List aI->Prop),jP cu I M dO (dW++Mr)/\Spec P f args dO dW post/\∀ v I' M',(∀ b o,dO b=some o->I' b=some o)->(∀ x∈M'++Mr,I' x.num=none)->post v I' M'->K v I' (M'++Mr):=by
 induction h with
 |mk dW Mr post a2 ar k=>exact⟨I,dW,Mr,post,.perm a2 .refl,ar,λv I' M' U _ aa=>k v I' M' U aa⟩| NK dW Mr post a2 ar k=>exact⟨I,dW,Mr,post,.perm a2 .refl,ar,k⟩| F' dO dW Mr post hw ar k=>exact⟨dO,dW,Mr,post,hw,ar,k⟩| DH h a7=>exact a7 hH
structure c7 where
 P:Program
 E:Env
 g5:List Nat
 n:Nat
 B:Nat
 ao:World
 er:aR
 cu:List Nat
 ro:Option Nat
def hq(X:c7):Fence:={ Fence.wide with round:=X.ro }
def e2(β:Nat->Nat):dQ->Value->Prop
 | .val v,u=>u=v| .lit b,u=>u=.bool b| .ref s off,u=>u=.pointer (some ⟨β s,off,none⟩)| .nC,_=>True
structure yg(X:c7)(w:World)(I:aR)(M:List aI)(b:Nat)(cs:List Value):Prop where
 an:∃ T,w.heap[b]?=some (.cells cs.toArray T (0,0))
 aW:X.B<=b
 kf:I b=none
 e3:∀ x∈M,x.num≠b
structure wI(X:c7)(w:World)(I:aR)(M:List aI)(r:Nat):Prop where
 an:w.heap[r]?=some (.deferred (some []))
 aW:X.B<=r
 kf:I r=none
 e3:∀ x∈M,x.num≠r
def yh(r:Nat):Deferred:={ target:=.collected r,args:=#[] }
def Marks(X:c7)(a:Act)(w:World)(I:aR)(M:List aI):Prop:=∃ bg:List Nat,a.defers=bg.map yh/\bg.Nodup/\∀ r∈bg,wI X w I M r
structure cR(X:c7)(β:Nat->Nat)(a:Act)(w:World)(F:Fr)(C:d')(I:aR)(M:List aI):Prop where
 size:a.tmps.size=X.n
 defers:Marks X a w I M
 holds:eI I M w
 al:∀ t,e2 β (F t) (a.tmps.getD t undef)
 cw:∀ s cs,C s=some cs->yg X w I M (β s) cs
 inj:∀ s ct,C s≠none->C ct≠none->β s=β ct->s=ct
 iy:∀ b o,X.er b=some o->I b=some o
 h2:∀ b o,I b=some o->X.er b=some o\/X.B<=b
 own:∀ x∈M,x.num∈X.cu\/X.B<=x.num
 dg:∀ b,b<X.B->b ∉ X.cu->w.heap[b]?=X.ao.heap[b]?
 out:o1 X.ao w
 sz:X.B<=w.heap.size
def Rel(X:c7)(a:Act)(w:World)(F:Fr)(C:d')(I:aR)(M:List aI):Prop:=∃ β,cR X β a w F C I M
def Sat(X:c7)(K:gp)(a:Act)(w:World):Prop:=∃ F C I M,Rel X a w F C I M/\K F C I M
inductive bs(X:c7)(o:Oper)(F:Fr)(C:d')(I:aR)(M:List aI)(K:gp):Prop
 |mk(h:∀ a w Q,Rel X a w F C I M->o.wpIn (hq X) 0 X.P a w (Sat X K) Q)
def kg(ρ:Operand->dQ):List Operand->Option (List Value)
 |[]=>some []
 |x::xs=>match dR ρ x,kg ρ xs with
  | .val v,some vs=>some (v::vs)| _,_=>none
abbrev mR(F:Fr):List Operand->Option (List Value):=kg (dD F)
def tM(place:Nat->Option (Nat×Nat))(cells:List Value):List (Nat×Value)->Option (List Value)
 |[]=>some cells
 |(i,v)::bd=>match place i with
  |none=>none| some (off,size)=>bif Nat.beq v.cells.size size&&Nat.ble (off+size) cells.length then tM place (bK cells off v.cells.toList) bd else none
def tN(ρ:Operand->dQ):List (Nat×Operand)->Option (List (Nat×Value))
 |[]=>some []
 |(i,x)::xs=>match dR ρ x,tN ρ xs with
  | .val v,some vs=>some ((i,v)::vs)| _,_=>none
abbrev Br(F:Fr):List (Nat×Operand)->Option (List (Nat×Value)):=tN (dD F)
def places(E:Env)(cE:List (Nat×Nat))(i:Nat):Option (Nat×Nat):=match cE[i]? with
 |some (mS,off)=>match E mS with
  |some hI=>some (off,hI.size)| none=>none
 |none=>none
def DI(E:Env)(cE:List (Nat×Nat)):Bool:=cE.all λf=>(E f.1).isSome
def rowOf(zero:List Value)(n:Nat):List Value:=(List.range n).map λi=>zero[i%zero.length]!
def vl(zero:List Value)(n:Nat):rowOf zero n=(madeCells zero.toArray n).toList:=by simp[rowOf,madeCells]
def IntKind.mT:IntKind->IntKind->Bool
 | .i8,.i8 | .i16,.i16 | .i32,.i32 | .i64,.i64 | .u8,.u8 | .u16,.u16 | .u32,.u32 | .u64,.u64=>true| _,_=>false
def lT(op:BinOp)(dh:Option ec)(x y:dQ)(K:Value->Prop)(other:Prop):Prop:=
 match x,y with
 | .val (.int k a),.val (.int ed b)=>
  match op with
  | .shl=>sG b λj=>bc k (a*2^(min j k.bits)) λr=>K (.int k r)
  | .shr=>sG b λj=>K (.int k (a.fdiv (2^(min j k.bits))))
  |op=>bif IntKind.mT k ed then
    (match op with
    | .add=>bc k (a+b) λr=>K (.int k r)
    | .sub=>bc k (a-b) λr=>K (.int k r)
    | .mul=>bc k (a*b) λr=>K (.int k r)
    | .quo=>sF b (bc k (a.tdiv b) λr=>K (.int k r))| .rem=>sF b (K (.int k (a.tmod b)))
    | .and | .or | .xor | .andNot=>(match vj op k a b with
     |some r=>K (.int k r)| none=>False)
    |op=>(match yd op a b with
     |some r=>K (.bool r)| none=>False))
   else False
 | .val (.string a),.val (.string b)=>
  match op with
  | .eql=>K (.bool (decide (a=b)))| .neq=>K (.bool (!decide (a=b)))| _=>other
 | .val (.bool a),.val (.bool b)=>
  match dh with
  |some { bO:=.bool,.. }=>
   (match op with
   | .eql=>K (.bool (a == b))| .neq=>K (.bool (!(a == b)))| _=>other)
  |_=>other
 |_,_=>other
inductive fM(P:Program)(op:BinOp)(t:Nat)(x y:Operand)(p q:dQ)(K:Value->Prop)(other:Prop):Prop
 |mk(qv fN v:Value)(aD:p=.val qv)(ay:q=.val fN)(h:∀ w,(do eqGuard op t x y qv fN;binOp op t qv fN:Sem Value).run P w=.ok v w)(k:K v)| other (h:other)
def cM(X:c7)(op:Op)(ρ:Operand->dQ)(C:d')(I:aR)(M:List aI)(V:dQ->Prop)(other:Prop):Prop:=
 match op with
 | .move x | .assign x=>V (ρ x)
 | .pick c a b=>
  match ρ c with
  | .lit c=>V (bif c then ρ a else ρ b)| .val (.bool c)=>V (JL c (dR ρ a) (dR ρ b))| _=>False
 | .unOp op _ x=>
  match op,ρ x with
  | .not,.lit b=>V (.lit (!b))| .not,.val (.bool b)=>V (.val (.bool (!b)))| .neg,.val (.int k n)=>bc k (0-n) λr=>V (.val (.int k r))
  |_,_=>other
 | .binOp op t x y _=>lT op (X.E t) (dR ρ x) (dR ρ y) (λv=>V (.val v)) (fM X.P op t x y (dR ρ x) (dR ρ y) (λv=>V (.val v)) other)
 | .load t x=>
  match X.E t with
  |some i=>
   (match ρ x with
   | .ref s off=>
    (match C s with
    |some cs=>bif Nat.ble (off+i.size) cs.length then V (.val (pack i.bO.agg ((cs.drop off).take i.size)))else False| none=>False)
   | .val (.pointer (some a))=>aK I M a i.size λvs=>V (.val (pack i.bO.agg vs))
   |_=>False)
  |none=>False
 | .nilCheck x=>
  match ρ x with
  | .ref s off=>V (.ref s off)| .val (.pointer (some a))=>V (.val (.pointer (some a)))| _=>other
 | .fieldAddr t x i=>
  match X.E t with
  |some { bO:=.struct cE,.. }=>
   (match cE[i]? with
   |some (mS,off)=>
    (match X.E mS,ρ x with
    |some hI,.ref s o'=>bif Nat.beq hI.size 0 then False else V (.ref s (o'+off))| some hI,.val (.pointer (some a))=>bif Nat.beq hI.size 0 then False else V (.val (.pointer (some (a.add off))))| _,_=>False)
   |none=>False)
  |_=>False
 | .field t x i=>
  match X.E t,dR ρ x with
  |some { bO:=.struct cE,.. },.val (.agg cs)=>
   (match cE[i]? with
   |some (mS,off)=>
    (match X.E mS with
    |some hI=>bif Nat.ble (off+hI.size) cs.size then V (.val (pack hI.bO.agg ((cs.toList.drop off).take hI.size)))else False| none=>False)
   |none=>False)
  |_,_=>False
 | .indexAddr t x i=>
  match X.E t,dR ρ i with
  |some { bO:=.slice e,.. },.val (.int _ k)=>
   (match X.E e,dR ρ x with
   |some aG,.val (.slice a n _)=>bk a n aG.size k λad=>V (.val (.pointer (some ad)))
   |_,_=>False)
  |some { bO:=.array n e,.. },.val (.int _ k)=>
   (match X.E e,ρ x with
   |some aG,.ref s o'=>ez n k λj=>V (.ref s (o'+j*aG.size))
   |some aG,.val (.pointer (some a))=>ez n k λj=>V (.val (.pointer (some (a.add (j*aG.size)))))
   |_,_=>False)
  |_,_=>False
 | .index t x i=>
  match X.E t,dR ρ x,dR ρ i with
  |some { bO:=.string,.. },.val (.string s),.val (.int _ k)=>ye s k λb=>V (.val (.int .u8 b.toNat))
  |some { bO:=.array n e,.. },.val (.agg cs),.val (.int _ k)=>
   (match X.E e with
   |some aG=>bif Nat.beq (n*aG.size) cs.size then ez n k λj=>V (.val (pack aG.bO.agg ((cs.toList.drop (j*aG.size)).take aG.size)))else False
   |none=>False)
  |_,_,_=>False
 | .build t parts=>
  match X.E t,tN ρ parts.toList with
  |some i,some vs=>
   (match i.bO with
   | .struct cE=>bif DI X.E cE then(match tM (places X.E cE) i.zero vs with
    |some cells=>V (.val (.agg cells.toArray))| none=>False)else False
   | .array _ e=>(match X.E e with
    |some aG=>(match tM (λj=>some (j*aG.size,aG.size)) i.zero vs with
     |some cells=>V (.val (.agg cells.toArray))| none=>False)
    |none=>False)
   |_=>False)
  |_,_=>False
 | .makeFunc fn first captured=>
  match kg ρ first.toList,kg ρ captured.toList with
  |some cE,some cs=>V (.val (.func fn cE.toArray cs.toArray))| _,_=>False
 | .slice t x lo hi mx=>
  match X.E t,dR ρ x,mx.map (dR ρ)with
  |some { bO:=.slice e,.. },.val (.slice a n c),none=>
   (match X.E e,lo.map (dR ρ),hi.map (dR ρ)with
   |some aG,none,none=>V (.val (.slice a n c))| some aG,none,some (.val (.int _ h))=>jO n c none (some h) λ_ h=>V (.val (.slice a h c))
   |some aG,some (.val (.int _ l)),none=>jO n n (some l) none λl _=>V (.val (.slice (if c=l then a else a.map (·.add (l*aG.size))) (n-l) (c-l)))
   |some aG,some (.val (.int _ l)),some (.val (.int _ h))=>jO n c (some l) (some h) λl h=>V (.val (.slice (if c=l then a else a.map (·.add (l*aG.size))) (h-l) (c-l)))
   |_,_,_=>False)
  |some { bO:=.string,.. },.val (.string s),none=>
   (match lo.map (dR ρ),hi.map (dR ρ)with
   |none,none=>V (.val (.string s))| none,some (.val (.int _ h))=>jO s.size s.size none (some h) λ_ h=>V (.val (.string (s.extract 0 h)))
   |some (.val (.int _ l)),none=>jO s.size s.size (some l) none λl _=>V (.val (.string (s.extract l s.size)))
   |some (.val (.int _ l)),some (.val (.int _ h))=>jO s.size s.size (some l) (some h) λl h=>V (.val (.string (s.extract l h)))
   |_,_=>False)
  |some { bO:=.slice e,.. },.val (.slice a _ c),some (.val (.int _ m))=>
   (match X.E e,lo.map (dR ρ),hi.map (dR ρ)with
   |some aG,none,some (.val (.int _ h))=>NI c h m λh m=>V (.val (.slice (if m=0 then a else a.map (·.add (0*aG.size))) (h-0) (m-0)))
   |_,_,_=>other)
  |_,_,_=>other
 | .extract x i=>
  match dR ρ x with
  | .val (.tuple vs)=>(match vs.toList[i]? with
   |some v=>V (.val v)| none=>False)
  |_=>False
 | .convert s d x=>
  match X.E s,X.E d,dR ρ x with
  |some _,some { bO:=.int k,.. },.val (.int _ n)=>bc k n λr=>V (.val (.int k r))
  |_,_,_=>other
 | .call { callee:=.builtin .len,args,argTypes }=>
  match argTypes.toList,kg ρ args.toList with
  |[t],some [v]=>
   (match X.E t,v with
   |some { bO:=.slice _,.. },.slice _ n _=>V (.val (.int .i64 n))| some { bO:=.string,.. },.string s=>V (.val (.int .i64 s.size))| some { bO:=.array n _,.. },_=>V (.val (.int .i64 n))| _,_=>other)
  |_,_=>other
 | .call { callee:=.builtin .cap,args,argTypes }=>
  match argTypes.toList,kg ρ args.toList with
  |[t],some [v]=>
   (match X.E t,v with
   |some { bO:=.slice _,.. },.slice _ _ c=>V (.val (.int .i64 c))| _,_=>other)
  |_,_=>other
 | .call { callee:=.builtin .max,args,.. }=>
  match kg ρ args.toList with
  |some [.int k a,.int _ b]=>V (.val (.int k (max a b)))| _=>other
 | .call { callee:=.builtin .min,args,.. }=>
  match kg ρ args.toList with
  |some [.int k a,.int _ b]=>V (.val (.int k (min a b)))| _=>other
 | .call { callee:=.builtin .unsafeSliceData,args,.. }=>
  match kg ρ args.toList with
  |some [.slice none _ _]=>V (.val (.pointer none))| some [.slice (some a) _ c]=>sF c (V (.val (.pointer (some a))))| _=>other
 |_=>other
def g6(X:c7)(o:Oper)(F:Fr)(C:d')(I:aR)(M:List aI)(K:gp):Prop:=
 match o.op with
 | .box t x=>
  match o.dst,bG F x with
  |some d,.val v=>
   bif X.g5.contains d then cv I M λb=>K (g3 (qu F d) d (.val (.pointer (some ⟨b,0,none⟩)))) (jy C d none) I (⟨b,.cells v.cells t (0,0)⟩::M)
   else K (g3 (qu F d) d (.ref d 0)) (jy C d (some v.cells.toList)) I M
  |_,_=>False
 | .alloc t=>
  match o.dst,X.E t with
  |some d,some i=>
   bif X.g5.contains d then cv I M λb=>K (g3 (qu F d) d (.val (.pointer (some ⟨b,0,none⟩)))) (jy C d none) I (⟨b,.cells i.zero.toArray t (0,0)⟩::M)
   else K (g3 (qu F d) d (.ref d 0)) (jy C d (some i.zero)) I M
  |_,_=>False
 | .store t x y=>
  match o.dst,X.E t,bG F y with
  |none,some i,.val v=>
   (match dD F x with
   | .ref s off=>
    (match C s with
    |some cs=>bif Nat.ble (off+i.size) cs.length&&(Nat.beq v.cells.size i.size&&gU v.cells.toList)then K F (jy C s (some (bK cs off v.cells.toList))) I M else False| none=>False)
   | .val (.pointer (some a))=>bif Nat.beq v.cells.size i.size then cz M a v.cells.toList λM'=>K F C I M' else False
   |_=>False)
  |_,_,_=>False
 | .buildSlice t len parts=>
  match X.E t,Br F parts.toList with
  |some { bO:=.slice e,.. },some vs=>
   (match X.E e with
   |some aG=>
    bif Nat.ble (len*aG.size) 16777216&&Nat.blt 0 (len*aG.size)then
     (match tM (λj=>some (j*aG.size,aG.size)) (rowOf aG.zero (len*aG.size)) vs with
     |some cells=>cv I M λb=>K (put o.dst (.val (.slice (some ⟨b,0,none⟩) len len)) F) C I (⟨b,.cells cells.toArray e (0,0)⟩::M)
     |none=>False)
    else(match len,vs with
     |0,[]=>cv I M λb=>K (put o.dst (.val (.slice (some ⟨b,0,none⟩) 0 0)) F) C I (⟨b,.cells #[] e (0,0)⟩::M)
     |_,_=>False)
   |none=>False)
  |_,_=>False
 | .makeSlice t l c=>
  match X.E t,bG F l,bG F c with
  |some { bO:=.slice e,.. },.val (.int _ l),.val (.int _ c)=>
   (match X.E e with
   |some aG=>nE l c aG.bytes λn m=>cv I M λb=>K (put o.dst (.val (.slice (some ⟨b,0,none⟩) n m)) F) C I (⟨b,.cells (rowOf aG.zero (m*aG.size)).toArray e (0,0)⟩::M)
   |none=>False)
  |_,_,_=>False
 | .call { callee:=.value f,args,.. }=>
  match bG F f,mR F args.toList with
  | .val (.func (.func g) first cap),some vs=>a0 X.cu X.P g (first.toList++vs++cap.toList) I M λv I' M'=>K (put o.dst (.val v) F) C I' M'
  |_,_=>bs X o F C I M K
 |op=>cM X op (dD F) C I M (λx=>K (put o.dst x F) C I M) (bs X o F C I M K)
inductive b2(c b:Bool)(Y N:Prop):Prop
 |mk(h:c=b->Y)(be:c=!b->N)
def vm(X:c7)(ops:List Oper):List Oper->Fr->d'->aR->List aI->gp->Prop
 |[],F,C,I,M,K=>K F C I M
 |o::bd,F,C,I,M,K=>
  match o.guard with
  |none=>g6 X o F C I M λF C I M=>vm X ops bd F C I M K
  |some (j,b)=>
   match(ops[j]?).bind (·.dst)with
   |none=>False
   |some d=>
    match F d with
    | .lit c=>bif c == b then g6 X o F C I M λF C I M=>vm X ops bd F C I M K else vm X ops bd (put o.dst (.val undef) F) C I M K
    | .val (.bool c)=>b2 c b (g6 X o (g3 F d (.lit b)) C I M λF C I M=>vm X ops bd F C I M K) (vm X ops bd (put o.dst (.val undef) (g3 F d (.lit !b))) C I M K)| .val (.tuple _)=>vm X ops bd (put o.dst (.val undef) F) C I M K| _=>False
def hy{a b:Nat}(h:¬ a=b):Nat.beq a b=false:=by
 cases ah:Nat.beq a b with
 |false=>rfl| true=>exact absurd (cK ah) h
def rB(a:Nat):Nat.beq a a=true:=Nat.beq_refl a
def Ga(w:World)(o:Obj){i:Nat}(h:i<w.heap.size):(w.alloc o).heap[i]?=w.heap[i]?:=by show(w.heap.push o)[i]?=_;simp[Array.getElem?_push,Nat.ne_of_lt h]
def NL(w:World)(o:Obj):(w.alloc o).heap[w.heap.size]?=some o:=by show(w.heap.push o)[w.heap.size]?=_;simp
section
variable{X:c7}{β:Nat->Nat}{a:Act}{w:World}{F:Fr}{C:d'}{I:aR}{M:List aI}{o:Oper}{Q:Exit->Act->World->Prop}{next:Act->World->Prop}{K:gp}
def yi(h:∀ t,e2 β (F t) (a.tmps.getD t undef))(x:Operand):e2 β (dD F x) (a.eval x):=by
 cases x with
 |tmp t=>exact h t| const v=>cases v<;>exact rfl
 |global g=>exact rfl| func f=>exact rfl
def dk(h:∀ t,e2 β (F t) (a.tmps.getD t undef)){x:Operand}(ab:bG F x=.val v):a.eval x=v:=by
 have U:=yi h x;unfold bG dR at ab;split at ab
 ·rename_i b ah;rw[ah]at U;cases ab;exact U
 ·rw[ab]at U;exact U
def vn(h:∀ t,e2 β (F t) (a.tmps.getD t undef)){x:Operand}(ab:dD F x=.val v):a.eval x=v:=by have U:=yi h x;rw[ab]at U;exact U
def NM(h:∀ t,e2 β (F t) (a.tmps.getD t undef)){x:Operand}{b:Bool}(ab:dD F x=.lit b):a.eval x=.bool b:=by have U:=yi h x;rw[ab]at U;exact U
def Bs(h:∀ t,e2 β (F t) (a.tmps.getD t undef)){x:Operand}{s:Nat}(ab:dD F x=.ref s off):a.eval x=.pointer (some ⟨β s,off,none⟩):=by have U:=yi h x;rw[ab]at U;exact U
def T8(h:∀ t,e2 β (F t) (a.tmps.getD t undef))(x:Operand):e2 β (bG F x) (a.eval x):=by
 have U:=yi h x;unfold bG dR;split
 ·rename_i b ah;rw[ah]at U;exact U
 ·exact U
def tO(h:∀ t,e2 β (F t) (a.tmps.getD t undef)):∀ {xs:List Operand} {vs:List Value},mR F xs=some vs->xs.map a.eval=vs
 |[],vs,ab=>by simp[mR,kg]at ab;simp[ab]
 |x::xs,vs,ab=>by
  unfold mR kg at ab;split at ab;·rename_i v tP U aa;cases ab;simp[dk h U,tO h aa]
  ·cases ab
def JM(h:∀ t,e2 β (F t) (a.tmps.getD t undef)):∀ {xs:List (Nat×Operand)} {vs:List (Nat×Value)},Br F xs=some vs->(xs.map λ(i,x)=>(i,a.eval x))=vs
 |[],vs,ab=>by simp[Br,tN]at ab;simp[ab]
 |(i,x)::xs,vs,ab=>by
  unfold Br tN at ab;split at ab;·rename_i v tP U aa;cases ab;simp[dk h U,JM h aa]
  ·cases ab
def je(cf:∀ c,o.op≠.defer c)(h:(execOp a.eval o).run X.P w=.ok (.value v) w')(ae:next (a.put o.dst v) w'):o.wpIn (hq X) 0 X.P a w next Q:=
 ⟨λ_ _=>trivial,by rw[JJ _ _ _ cf,h];exact ae⟩
def DJ(cf:∀ c,o.op≠.defer c)(h:(execOp a.eval o).run X.P w=.ok .skip w')(ae:next (a.put o.dst undef) w'):o.wpIn (hq X) 0 X.P a w next Q:=
 ⟨λ_ _=>trivial,by rw[JJ _ _ _ cf,h];exact ae⟩
def T9(a:Act)(d t:Nat)(v:Value)(ag:d<a.tmps.size):(a.put (some d) v).tmps.getD t undef=if t=d then v else a.tmps.getD t undef:=by
 simp only[Act.put,pN,DF];by_cases h:t=d
 ·subst h;simp[ag]
 ·simp[h,sC h]
def NN(h:∀ t,e2 β (F t) (a.tmps.getD t undef)){x:dQ}(ag:d<a.tmps.size)(ab:e2 β x v)(t:Nat):e2 β (g3 F d x t) ((a.put (some d) v).tmps.getD t undef):=by
 rw[T9 a d t v ag];unfold g3;by_cases U:t=d
 ·subst U;simp only[rB,bh,sD];exact ab
 ·have:Nat.beq t d=false:=hy U;simp only[this,bf,ca U];exact h t
def T'(w:World)(g:Nat)(cs:Array Value):o1 w (w.setRow g cs):=by
 unfold World.setRow
 first | exact⟨rfl,rfl⟩ | (split<;>exact⟨rfl,rfl⟩)
def JN(w:World)(g:Nat)(o:Obj):o1 w (w.putObj g o):=by unfold World.putObj;exact⟨rfl,rfl⟩
def Marks.mono(h:Marks X a w I M){I':aR}{M':List aI}(hm:∀ r,wI X w I M r->wI X w' I' M' r):Marks X a w' I' M':=by obtain⟨bg,U,aa,af⟩:=h;exact⟨bg,U,aa,λr ai=>hm r (af r ai)⟩
def cR.put(h:cR X β a w F C I M){dst:Option Nat}(ag:∀ d,dst=some d->d<X.n){x:dQ}(ab:e2 β x v):cR X β (a.put dst v) w (put dst x F) C I M:=by
 cases dst with
 |none=>exact h
 |some d=>
  refine { h with size:=?_,defers:=h.defers,al:=?_ };·simp[Act.put,h.size]
  ·exact NN h.al (by rw[h.size];exact ag d rfl) ab
def eI.heap(h:eI I M w)(bl:w'.heap=w.heap):eI I M w':=
 { i:=by rw[bl];exact h.i,m:=by rw[bl];exact h.m,d:=h.d,cd:=h.cd }
def cR.world(h:cR X β a w F C I M)(bl:w'.heap=w.heap)(au:o1 w w':=by exact⟨rfl,rfl⟩):cR X β a w' F C I M:=
 { h with
  holds:={ i:=by rw[bl];exact h.holds.i,m:=by rw[bl];exact h.holds.m,d:=h.holds.d,cd:=h.holds.cd }
  defers:=h.defers.mono λr ai=>{ ai with an:=by rw[bl];exact ai.an }
  cw:=λs cs ar=>{ h.cw s cs ar with an:=by rw[bl];exact(h.cw s cs ar).an }
  dg:=by rw[bl];exact h.dg
  out:=h.out.trans au
  sz:=by rw[bl];exact h.sz }
def eI.alloc(h:eI I M w)(o:Obj):eI I M (w.alloc o) where
 i b x ah:=by have U:=h.i b x ah;rw[Ga w o (lS.1 U).1];exact U
 m x ab:=by have U:=h.m x ab;rw[Ga w o (lS.1 U).1];exact U
 d:=h.d
 cd:=h.cd
def eI.lt(h:eI I M w){x:aI}(ab:x∈M):x.num<w.heap.size:=(lS.1 (h.m x ab)).1
def eI.DK(h:eI I M w){b:Nat}{o:Obj}(ah:I b=some o):b<w.heap.size:=(lS.1 (h.i b o ah)).1
def eI.sH(h:eI I M w):I w.heap.size=none:=by
 cases ah:I w.heap.size with
 |none=>rfl| some o=>exact absurd (h.DK ah) (Nat.lt_irrefl _)
def eI.rC(h:eI I M w):∀ x∈M,x.num≠w.heap.size:=λx ab e=>by have:=h.lt ab;omega
def eI.cons(h:eI I M w)(o:Obj):eI I (⟨w.heap.size,o⟩::M) (w.alloc o) where
 i:=(h.alloc o).i
 m x ab:=by
  rcases eL.1 ab with rfl | ab;·exact NL w o
  ·exact(h.alloc o).m x ab
 d x ab:=by
  rcases eL.1 ab with rfl | ab;·exact h.sH
  ·exact h.d x ab
 cd:=by simp only[dv,nB];refine⟨λhm=>?_,h.cd⟩;obtain⟨x,ab,e⟩:=dC.1 hm;exact h.rC x ab e
def yg.alloc{b:Nat}{cs:List Value}(h:yg X w I M b cs)(o:Obj):yg X (w.alloc o) I M b cs where
 an:=by obtain⟨T,bM⟩:=h.an;exact⟨T,by rw[Ga w o (lS.1 bM).1];exact bM⟩
 aW:=h.aW
 kf:=h.kf
 e3:=h.e3
def yg.lt{b:Nat}{cs:List Value}(h:yg X w I M b cs):b<w.heap.size:=by obtain⟨T,bM⟩:=h.an;exact(lS.1 bM).1
def yg.NO{b:Nat}{cs:List Value}(h:yg X w I M b cs)(o:Obj):yg X (w.alloc o) I (⟨w.heap.size,o⟩::M) b cs where
 an:=(h.alloc o).an
 aW:=h.aW
 kf:=h.kf
 e3 x ab:=by
  rcases eL.1 ab with rfl | ab
  ·exact λe=>by have:=h.lt;simp only at e;omega
  ·exact h.e3 x ab
def wI.alloc{r:Nat}(h:wI X w I M r)(o:Obj):wI X (w.alloc o) I M r:=
 { h with an:=by rw[Ga w o (lS.1 h.an).1];exact h.an }
def wI.NO{r:Nat}(h:wI X w I M r)(o:Obj):wI X (w.alloc o) I (⟨w.heap.size,o⟩::M) r:=by
 refine { h.alloc o with e3:=λx ab=>?_ };rcases eL.1 ab with rfl | ab
 ·have U:=(lS.1 h.an).1;simp only;omega
 ·exact h.e3 x ab
def NP(h:∀ b,b<X.B->b ∉ X.cu->w.heap[b]?=X.ao.heap[b]?)(c8:X.B<=w.heap.size)(o:Obj):∀ b,b<X.B->b ∉ X.cu->(w.alloc o).heap[b]?=X.ao.heap[b]?:=λb ah aC=>by rw[Ga w o (by omega)];exact h b ah aC
def cR.oq(h:cR X β a w F C I M)(o:Obj):cR X β a (w.alloc o) F C I (⟨w.heap.size,o⟩::M) where
 size:=h.size
 defers:=h.defers.mono λr ai=>ai.NO o
 holds:=h.holds.cons o
 al:=h.al
 cw s cs ar:=(h.cw s cs ar).NO o
 inj:=h.inj
 iy:=h.iy
 h2:=h.h2
 own x ab:=by
  rcases eL.1 ab with rfl | ab;·exact .inr h.sz
  ·exact h.own x ab
 dg:=NP h.dg h.sz o
 out:=h.out
 sz:=by have:=h.sz;simp;omega
def cR.NQ(h:cR X β a w F C I M)(d:Nat):cR X β a w (qu F d) (jy C d none) I M where
 size:=h.size
 defers:=h.defers
 holds:=h.holds
 al t:=by
  have U:=h.al t;unfold qu;cases bB:F t with
  |ref s off=>
   rw[bB]at U;simp only;cases Nat.beq s d;·exact U
   ·trivial
  |_=>rw[bB]at U;exact U
 cw s cs ar:=by
  unfold jy at ar;cases ah:Nat.beq s d with
  |true=>simp[ah]at ar| false=>simp[ah]at ar;exact h.cw s cs ar
 inj s ct U aa:=h.inj s ct (λe=>U (by simp[jy,e])) (λe=>aa (by simp[jy,e]))
 iy:=h.iy
 h2:=h.h2
 own:=h.own
 dg:=h.dg
 out:=h.out
 sz:=h.sz
def cR.Ua(h:cR X β a w F C I M)(d:Nat)(ag:d<X.n)(cs:List Value)(T:Nat) :
  ∃ o2,cR X o2 (a.put (some d) (.pointer (some ⟨w.heap.size,0,none⟩))) (w.alloc (.cells cs.toArray T (0,0))) (g3 (qu F d) d (.ref d 0)) (jy C d (some cs)) I M:=by
 have ao:=h.NQ d;let o2:Nat->Nat:=λs=>if s=d then w.heap.size else β s
 refine⟨o2,?_⟩;have vo:∀ t,e2 o2 (qu F d t) (a.tmps.getD t undef):=λt=>by
  have U:=ao.al t;cases bB:qu F d t with
  |ref s off=>
   rw[bB]at U;have ar:s≠d:=by
    intro e;subst e;unfold qu at bB;split at bB
    ·rename_i ct JO Ub;cases ah:Nat.beq ct s with
     |true=>simp[ah]at bB| false=>simp[ah]at bB;obtain⟨rfl,_⟩:=bB;simp at ah
    ·rename_i bH;exact bH _ _ bB
   simp only[e2,o2,ca ar];exact U
  |_=>rw[bB]at U;exact U
 exact {
  size:=by simp[Act.put,h.size]
  defers:=h.defers.mono λr ai=>ai.alloc _
  holds:=h.holds.alloc _
  al:=NN vo (by rw[h.size];exact ag) (by simp[e2,o2])
  cw:=λs cs' ar=>by
   by_cases e:s=d;·subst e;simp[jy]at ar;subst ar;simp only[o2,cG rfl];exact { an:=⟨T,NL w _⟩,aW:=h.sz,kf:=h.holds.sH,e3:=h.holds.rC }
   ·have ah:Nat.beq s d=false:=hy e;simp[jy,ah]at ar;simp only[o2,ca e];exact(h.cw s cs' ar).alloc _
  inj:=λs ct U aa he=>by
   by_cases e:s=d<;>by_cases bA:ct=d
   ·rw[e,bA]
   ·exfalso;have ah:Nat.beq ct d=false:=hy bA;simp[jy,ah]at aa;obtain⟨c,aN⟩:=JF.1 aa;have:=(h.cw ct c aN).lt;simp only[o2,cG e,ca bA]at he;omega
   ·exfalso;have ah:Nat.beq s d=false:=hy e;simp[jy,ah]at U;obtain⟨c,aN⟩:=JF.1 U;have:=(h.cw s c aN).lt;simp only[o2,ca e,cG bA]at he;omega
   ·have ah:Nat.beq s d=false:=hy e;have gV:Nat.beq ct d=false:=hy bA;simp[jy,ah]at U;simp[jy,gV]at aa;simp only[o2,ca e,ca bA]at he;exact h.inj s ct U aa he
  iy:=h.iy
  h2:=h.h2
  own:=h.own
  dg:=NP h.dg h.sz _
  out:=h.out
  sz:=by have:=h.sz;simp;omega }
def eo(a:Addr)(h:a.spot=none)(j:Nat):a.add j=⟨a.block,a.off+j,none⟩:=by
 obtain⟨b,o,s⟩:=a;simp only at h;subst h;unfold Addr.add;split<;>simp_all
def tQ{b:Nat}(aA:w.heap[b]?=some (.cells cs T al))(j:Nat):w.cell? ⟨b,j,none⟩=cs[j]?:=by simp[World.cell?,aA]
variable{P:Program}{t:Nat}{i:ec}
def kJ.run_sizeOf(h:kJ P t i)(w:World):(sizeOf t).run P w=.ok i.size w:=by obtain⟨inf,z,U,aa,_⟩:=h.inf;simp[sizeOf,typeInfo,U,aa]
def kJ.Gb(h:kJ P t i)(w:World):∃ z,(zeroValue t).run P w=.ok z w/\z.cells.toList=i.zero:=by obtain⟨inf,z,U,aa,af,aP,bq⟩:=h.inf;exact⟨z,by simp[zeroValue,typeInfo,U,aP],bq⟩
def kJ.aee(h:kJ P t i)(w:World):∃ d,(underlying t).run P w=.ok d w/\fo d=i.bO:=by obtain⟨d,U,aa⟩:=h.fp;exact⟨d,run_underlying U w,aa⟩
def kJ.Uc(h:kJ P t i)(w:World):(isAgg t).run P w=.ok i.bO.agg w:=by
 obtain⟨d,U,aa⟩:=h.aee w;rw[<-aa];unfold isAgg;simp only[cy,U,cc];cases d<;>rfl
def aef(ap:vs.length=1):vs=[vs.headD undef]:=by
 match vs,ap with
 |[v],_=>rfl
def JP(h:kJ P t i){a:Addr}(ar:a.spot=none)(aA:w.heap[a.block]?=some (.cells cs T al))
  (ak:(cs.toList.drop a.off).take i.size=vs) (ap:vs.length=i.size):(loadVar t a).run P w=.ok (pack i.bO.agg vs) w:=by
 have aN:∀ j v,vs[j]?=some v->w.cell? (a.add j)=some v:=by
  intro j v aj;rw[eo a ar,tQ aA];rw[<-ak,lp]at aj;split at aj;·rw[om]at aj;simpa using aj
  ·cases aj
 unfold loadVar;simp only[cy,h.Uc,cc];cases Gc:i.bO.agg with
 |true=>simp only[sD,cy,h.run_sizeOf,cc,<-ap];rw[run_loadCells_list w a vs aN];simp[pack]| false=>have U:=h.JK Gc;rw[U]at ap;have iS:=aef ap;have:=aN 0 (vs.headD undef) (by rw[iS];simp);have aE:a.add 0=a:=rfl;rw[aE]at this;simp[this,pack]
def zA(h:gU vs=true):∀ v∈vs,v.oneCell'=true:=by simpa[gU]using h
def JQ(h:kJ P t i){a:Addr}(ar:a.spot=none)(aA:w.heap[a.block]?=some (.cells cs T (0,0)))(c8:v.cells.size=i.size)(ah:a.off+v.cells.toList.length<=cs.size)(U:gU v.cells.toList=true) :
  (storeVar t a v).run P w=.ok () (w.setRow a.block (bK cs.toList a.off v.cells.toList).toArray):=by
 obtain⟨b,o,s⟩:=a;simp only at ar aA ah;subst ar;unfold storeVar;simp only[cy,h.run_sizeOf,cc,c8,ne_eq,not_true,mh,Sem.run_ite];have:=run_storeCells_at (P:=P) b o T v.cells.toList 0 cs w aA (by simpa using ah) (zA U);simp only[oo]at this;simp only[bK];simpa using this
def cR.Ud(h:cR X β a w F C I M){s:Nat}{cs:List Value}(ar:C s=some cs)(cs':List Value):cR X β a (w.setRow (β s) cs'.toArray) F (jy C s (some cs')) I M:=by
 have ah:=h.cw s cs ar;obtain⟨T,bM⟩:=ah.an;exact {
  size:=h.size
  defers:=h.defers.mono λr ai=>by refine { ai with an:=?_ };rw[setRow_other _ _ _ _ (λe=>by have U:=ai.an;rw[e,bM]at U;cases U)];exact ai.an
  holds:={
   i:=λb o jQ=>by rw[setRow_other _ _ _ _ (λe=>by rw[e,ah.kf]at jQ;cases jQ)];exact h.holds.i b o jQ
   m:=λx ab=>by rw[setRow_other _ _ _ _ (ah.e3 x ab)];exact h.holds.m x ab
   d:=h.holds.d
   cd:=h.holds.cd }
  al:=h.al
  cw:=λct c' sI=>by
   by_cases e:ct=s;·subst e;simp[jy,rB]at sI;subst sI;exact { an:=⟨T,setRow_heap _ _ _ _ _ _ bM⟩,aW:=ah.aW,kf:=ah.kf,e3:=ah.e3 }
   ·simp[jy,hy e]at sI;have gV:=h.cw ct c' sI;obtain⟨jf,Gd⟩:=gV.an;refine { an:=⟨jf,?_⟩,aW:=gV.aW,kf:=gV.kf,e3:=gV.e3 };rw[setRow_other _ _ _ _ (λbA=>e (h.inj ct s (by simp[sI]) (by simp[ar]) bA))];exact Gd
  inj:=λs1 s2 U aa=>h.inj s1 s2 (λe=>by
    unfold jy at U;cases ay:Nat.beq s1 s with
    |true=>have:=cK ay;subst this;rw[ar]at e;cases e| false=>rw[ay]at U;exact U e) (λe=>by
    unfold jy at aa;cases ay:Nat.beq s2 s with
    |true=>have:=cK ay;subst this;rw[ar]at e;cases e| false=>rw[ay]at aa;exact aa e)
  iy:=h.iy
  h2:=h.h2
  own:=h.own
  dg:=λb gV aC=>by rw[setRow_other _ _ _ _ (λe=>by have:=ah.aW;omega)];exact h.dg b gV aC
  out:=h.out.trans (T' _ _ _)
  sz:=by have:=h.sz;simpa using this }
def cR.yj(h:cR X β a w F C I M){a8 post:List aI}{g:Nat}{cs':Array Value}(a2:M=a8++⟨g,.cells cs T (0,0)⟩::post) :
  cR X β a (w.setRow g cs') F C I (a8++⟨g,.cells cs' T (0,0)⟩::post):=by
 subst a2;have fT:(⟨g,.cells cs T (0,0)⟩:aI)∈a8++⟨g,.cells cs T (0,0)⟩::post:=by simp
 have aA:w.heap[g]?=some (.cells cs T (0,0)):=h.holds.m _ fT;have cf:=h.holds.cd;simp only[fi,dv]at cf;have bH:∀ x,x∈a8\/x∈post->x.num≠g:=by
  intro x ab e;rw[Bn]at cf;obtain⟨_,aa,af⟩:=cf;rcases ab with ab | ab;·exact af x.num (dC.2 ⟨x,ab,rfl⟩) g (by simp) e
  ·rw[nB]at aa;exact aa.1 (dC.2 ⟨x,ab,e⟩)
 have mem:∀ x,x∈a8++(⟨g,.cells cs' T (0,0)⟩:aI)::post->x=⟨g,.cells cs' T (0,0)⟩\/(x∈a8\/x∈post):=by
  intro x ab;simp only[dV,eL]at ab;rcases ab with ab | ab | ab;·exact .inr (.inl ab)
  ·exact .inl ab
  ·exact .inr (.inr ab)
 have back:∀ x,x∈a8\/x∈post->x∈a8++(⟨g,.cells cs T (0,0)⟩:aI)::post:=by
  intro x ab;simp only[dV,eL];rcases ab with ab | ab;·exact .inl ab
  ·exact .inr (.inr ab)
 exact {
  size:=h.size
  defers:=h.defers.mono λr ai=>by
   have Bt:g≠r:=ai.e3 _ fT;refine { ai with an:=?_,e3:=λx ab=>?_ };·rw[setRow_other _ _ _ _ (sC Bt)];exact ai.an
   ·rcases mem x ab with rfl | ab
    ·exact Bt
    ·exact ai.e3 x (back x ab)
  holds:={
   i:=λb o jQ=>by rw[setRow_other _ _ _ _ (λe=>by have:=h.holds.d _ fT;simp only at this;rw[e,this]at jQ;cases jQ)];exact h.holds.i b o jQ
   m:=λx ab=>by
    rcases mem x ab with rfl | ab;·exact setRow_heap _ _ _ _ _ _ aA
    ·rw[setRow_other _ _ _ _ (bH x ab)];exact h.holds.m x (back x ab)
   d:=λx ab=>by
    rcases mem x ab with rfl | ab;·exact h.holds.d ⟨g,.cells cs T (0,0)⟩ fT
    ·exact h.holds.d x (back x ab)
   cd:=by simpa[fi]using cf }
  al:=h.al
  cw:=λs c ar=>by
   have ah:=h.cw s c ar;obtain⟨jf,Gd⟩:=ah.an;have tR:g≠β s:=ah.e3 _ fT;refine { an:=⟨jf,?_⟩,aW:=ah.aW,kf:=ah.kf,e3:=λx ab=>?_ };·rw[setRow_other _ _ _ _ (sC tR)];exact Gd
   ·rcases mem x ab with rfl | ab
    ·exact tR
    ·exact ah.e3 x (back x ab)
  inj:=h.inj
  iy:=h.iy
  h2:=h.h2
  own:=λx ab=>by
   rcases mem x ab with rfl | ab;·exact h.own ⟨g,.cells cs T (0,0)⟩ fT
   ·exact h.own x (back x ab)
  dg:=λb ah aC=>by
   rw[setRow_other _ _ _ _ (λe=>by
    rcases h.own _ fT with U | U;·simp only at U;exact aC (e ▸ U)
    ·simp only at U;omega)]
   exact h.dg b ah aC
  out:=h.out.trans (T' _ _ _)
  sz:=by have:=h.sz;simpa using this }
def ix.heap(h:eI I M w){b:Nat}{o:Obj}(ae:ix I M b o):w.heap[b]?=some o:=by
 rcases ae with ae | ⟨x,ab,rfl,rfl⟩
 ·exact h.i b o ae
 ·exact h.m x ab
def aeg{aQ:List Value}{x:Value}{xs:List Value}(h:off+1+xs.length<=aQ.length):bK (aQ.set off x) (off+1) xs=bK aQ off (x::xs):=by
 unfold bK;rw[List.take_set,List.drop_set,cG (by omega),ho (by omega:off<aQ.length)];have e:(List.take off aQ++[aQ[off]'(by omega)]).set off x=List.take off aQ++[x]:=by rw[List.set_append,ca (by simp;omega)];simp[pO (by omega:off<=aQ.length)]
 rw[e];simp[rz,F7 1]
def Ue(off:Nat):∀ (xs:List Value) (k:Nat) (aQ:List Value),off+k+xs.length<=aQ.length -> (xs.zipIdx k).foldl (λ(cs:Array Value) (p:Value×Nat)=>cs.setIfInBounds (off+p.2) p.1) aQ.toArray=(bK aQ (off+k) xs).toArray
 |[],k,aQ,_=>by simp[bK]
 |x::xs,k,aQ,ap=>by simp only[eQ]at ap;simp only[List.zipIdx_cons,pP];rw[List.setIfInBounds_toArray,Ue off xs (k+1) _ (by simp;omega)];rw[show off+(k+1)=off+k+1 from by omega,aeg (by omega)]
def fill_eq(place:Nat->Option (Nat×Nat)):∀ (vs:List (Nat×Value)) (cells r:List Value),tM place cells vs=some r->Instr.fill place cells.toArray vs=some r.toArray
 |[],cells,r,h=>by simp[tM]at h;simp[Instr.fill,h]
 |(i,v)::bd,cells,r,h=>by
  unfold tM at h;unfold Instr.fill;split at h;·cases h
  ·rename_i off size aD;simp only[aD];cases aN:(Nat.beq v.cells.size size&&Nat.ble (off+size) cells.length)with
   |false=>rw[aN]at h;cases h
   |true=>
    rw[aN]at h;simp only[bh]at h;rw[cp]at aN;have U:=cK aN.1;have aa:=b0 aN.2;have az:decide (v.cells.size≠size)=false:=by simp[U]
    have aF:decide (off+v.cells.size > cells.toArray.size)=false:=by simp;omega
    rw[az,aF];simp only[Bool.or_false,lq,mh];have a7:=fill_eq place bd _ r h;rw[<-a7];congr 1;have:=Ue off v.cells.toList 0 cells (by simp;omega);simp only[oo]at this;rw[<-this,<-NE];simp
end
def jP.le{I I':aR}{M M':List aI}(h:jP cu I M I' M')(lU:eI I M w):(∀ b o,I b=some o->I' b=some o)/\eI I' M' w /\
  (∀ b o,I' b=some o->I b=some o\/∃ x∈M,x.num=b/\x.obj=o/\b ∉ cu)/\(∀ x∈M',x∈M):=by
 induction h with
 |refl=>exact⟨λ_ _ h=>h,lU,λ_ _ h=>.inl h,λ_ h=>h⟩
 | @sub I M M1 I' M' ar k a7=>
  have U:eI I M1 w:=⟨lU.i,λx ab=>lU.m x (ar.subset ab),λx ab=>lU.d x (ar.subset ab),(ar.map _).nodup lU.cd⟩;obtain⟨bz,bJ,cj,dN⟩:=a7 U;refine⟨bz,bJ,λb o ah=>?_,λx ab=>ar.subset (dN x ab)⟩;rcases cj b o ah with h | ⟨x,ab,h⟩;·exact .inl h
  ·exact .inr ⟨x,ar.subset ab,h⟩
 | @perm I M M1 I' M' aD k a7=>
  have U:eI I M1 w:=⟨lU.i,λx ab=>lU.m x (aD.mem_iff.2 ab),λx ab=>lU.d x (aD.mem_iff.2 ab),(aD.map _).nodup_iff.1 lU.cd⟩;obtain⟨bz,bJ,cj,dN⟩:=a7 U;refine⟨bz,bJ,λb o ah=>?_,λx ab=>aD.mem_iff.2 (dN x ab)⟩;rcases cj b o ah with h | ⟨x,ab,h⟩;·exact .inl h
  ·exact .inr ⟨x,aD.mem_iff.2 ab,h⟩
 | @rA I M I' M' b o post a2 aC k a7=>
  subst a2;have cf:=lU.cd;simp only[dv,nB]at cf;have ah:=lU.d ⟨b,o⟩ (by simp);simp only at ah;have U:eI (ins I b o) post w:={
   i:=λhJ o' h=>by
    unfold ins at h;by_cases e:hJ=b;·subst e;simp only[rB,bh,kd]at h;subst h;exact lU.m ⟨hJ,o⟩ (by simp)
    ·simp only[hy e,bf]at h;exact lU.i _ _ h
   m:=λx ab=>lU.m x (by simp[ab])
   d:=λx ab=>by unfold ins;have e:x.num≠b:=λe=>cf.1 (dC.2 ⟨x,ab,e⟩);simp only[hy e,bf];exact lU.d x (by simp[ab])
   cd:=cf.2 }
  obtain⟨bz,bJ,cj,dN⟩:=a7 U;refine⟨λhJ o' h=>bz hJ o' ?_,bJ,λhJ o' h=>?_,λx ab=>by simp[dN x ab]⟩
  ·unfold ins;by_cases e:hJ=b
   ·subst e;rw[ah]at h;cases h
   ·simp only[hy e,bf];exact h
  ·rcases cj hJ o' h with h | ⟨x,ab,h⟩
   ·unfold ins at h;by_cases e:hJ=b
    ·subst e;simp only[rB,bh,kd]at h;exact .inr ⟨⟨hJ,o⟩,by simp,rfl,h,aC⟩
    ·simp only[hy e,bf]at h;exact .inl h
   ·exact .inr ⟨x,by simp[ab],h⟩
def cR.iH{X:c7}{β:Nat->Nat}{F:Fr}{C:d'}{I I':aR}{M M':List aI}(h:cR X β a w F C I M)(hw:jP X.cu I M I' M'):cR X β a w F C I' M':=by
 obtain⟨bz,bJ,cj,dN⟩:=hw.le h.holds;exact { h with
  holds:=bJ
  defers:=h.defers.mono λr ai=>by
   refine { ai with kf:=?_,e3:=λx ab=>ai.e3 x (dN x ab) };cases bL:I' r with
   |none=>rfl
   |some o=>
    exfalso;rcases cj _ _ bL with U | ⟨x,ab,U,_⟩;·rw[ai.kf]at U;cases U
    ·exact ai.e3 x ab U
  cw:=λs cs ar=>{ h.cw s cs ar with
   kf:=by
    cases bL:I' (β s)with
    |none=>rfl
    |some o=>
     exfalso;rcases cj _ _ bL with U | ⟨x,ab,U,_⟩;·rw[(h.cw s cs ar).kf]at U;cases U
     ·exact(h.cw s cs ar).e3 x ab U
   e3:=λx ab=>(h.cw s cs ar).e3 x (dN x ab) }
  iy:=λb o ah=>bz b o (h.iy b o ah)
  h2:=λb o ah=>by
   rcases cj b o ah with U | ⟨x,ab,rfl,_,aC⟩;·exact h.h2 b o U
   ·exact .inr ((h.own x ab).resolve_left aC)
  own:=λx ab=>h.own x (dN x ab) }
section
variable{X:c7}{β:Nat->Nat}{a:Act}{w:World}{F:Fr}{C:d'}{I:aR}{M:List aI}{o:Oper}{Q:Exit->Act->World->Prop}{K:gp}
def Uf(h:cR X β a w F C I M)(ag:∀ d,o.dst=some d->d<X.n)(cf:∀ c,o.op≠.defer c){x:dQ}(ai:(execOp a.eval o).run X.P w=.ok (.value v) w)(ab:e2 β x v)(ae:K (put o.dst x F) C I M):o.wpIn (hq X) 0 X.P a w (Sat X K) Q:=
 je cf ai ⟨_,_,_,_,⟨β,h.put ag ab⟩,ae⟩
def wJ(h:cR X β a w F C I M)(ag:∀ d,o.dst=some d->d<X.n)(cf:∀ c,o.op≠.defer c)(ai:(execOp a.eval o).run X.P w=.ok (.value v) w)(ae:K (put o.dst (.val v) F) C I M):o.wpIn (hq X) 0 X.P a w (Sat X K) Q:=
 Uf (x:=.val v) h ag cf ai rfl ae
def o3(k:IntKind)(n:Int)(w:World)(P:Program):(asIntOf (.int k n)).run P w=.ok (k,n) w:=rfl
def IntKind.DL{k ed:IntKind}(h:IntKind.mT k ed=true):k=ed:=by cases k<;>cases ed<;>first | rfl | cases h
def o4(op:BinOp)(t:Nat)(x y:Operand)(k ed:IntKind)(n m:Int)(P:Program)(w:World):(eqGuard op t x y (.int k n) (.int ed m)).run P w=.ok () w:=by
 unfold eqGuard;cases op<;>rfl
def NR(op:BinOp)(t:Nat)(x y:Operand)(n m:ByteArray)(P:Program)(w:World):(eqGuard op t x y (.string n) (.string m)).run P w=.ok () w:=by
 unfold eqGuard;cases op<;>rfl
def Ug(op:BinOp)(t:Nat)(x y:Operand)(n m:Bool)(P:Program)(w:World):(eqGuard op t x y (.bool n) (.bool m)).run P w=.ok () w:=by
 unfold eqGuard;cases op<;>rfl
def Uh(a b:ByteArray):(a.toList == b.toList)=decide (a=b):=by
 rw[pQ];simp only[beq_iff_eq,e5];constructor
 ·intro h;have U:a.data.toList=b.data.toList:=by rw[ByteArray.toList_eq,ByteArray.toList_eq]at h;exact h
  cases a;cases b;simp only[NF];exact g2 U
 ·intro h;rw[h]
def run_equal_bool{t:Nat}(hu:P.underlying t=some .bool)(a b:Bool)(w:World):(Op.equal t (.bool a) (.bool b)).run P w=.ok (a == b) w:=by
 have key:∀ d,(Op.equalIn (d+1) t (.bool a) (.bool b)).run P w=.ok (a == b) w:=λd=>by simp only[Op.equalIn,cy,run_underlying hu,cc,dc]
 exact key 9999
def aeh(aO:c6 X.P X.E)(op:BinOp)(t:Nat)(x y:Operand)(u v:dQ)(mi yk:Value)(ab:u=.val mi)(aH:v=.val yk)(Ui:Value->Prop)(other:Prop)
  (h:lT op (X.E t) u v Ui other):other\/∃ r,(∀ w,(do eqGuard op t x y mi yk;binOp op t mi yk:Sem Value).run X.P w=.ok r w)/\Ui r:=by
 subst ab;subst aH;unfold lT at h;split at h
 ·rename_i k a ed b az aF;cases az;cases aF
  right
  split at h;·obtain⟨j,rfl,⟨r,ai,ae⟩⟩:=h;refine⟨_,λw=>?_,ae⟩;simp only[cy,o4,cc,binOp,Op.shift];rw[ca (by omega)];simp[ai]
  ·obtain⟨j,rfl,ae⟩:=h;refine⟨_,λw=>?_,ae⟩;simp only[cy,o4,cc,binOp,Op.shift];rw[ca (by omega)];simp
  ·rename_i gj mU;cases gq:IntKind.mT k ed with
   |false=>rw[gq]at h;exact h.elim
   |true=>
    rw[gq]at h;have mj:=IntKind.DL gq;subst mj;simp only[bh]at h;cases op<;>simp only at h
    case add=>obtain⟨r,ai,ae⟩:=h;exact⟨_,λw=>by simp[o4,binOp,Op.intArith,ai],ae⟩
    case sub=>obtain⟨r,ai,ae⟩:=h;exact⟨_,λw=>by simp[o4,binOp,Op.intArith,ai],ae⟩
    case mul=>obtain⟨r,ai,ae⟩:=h;exact⟨_,λw=>by simp[o4,binOp,Op.intArith,ai],ae⟩
    case quo=>obtain⟨ao,r,ai,ae⟩:=h;exact⟨_,λw=>by simp[o4,binOp,Op.intDiv,ao,ai],ae⟩
    case rem=>obtain⟨ao,ae⟩:=h;exact⟨_,λw=>by simp[o4,binOp,Op.intDiv,ao],ae⟩
    case and=>exact⟨_,λw=>by simp[o4,binOp,Op.intBits,vj],h⟩
    case or=>exact⟨_,λw=>by simp[o4,binOp,Op.intBits,vj],h⟩
    case xor=>exact⟨_,λw=>by simp[o4,binOp,Op.intBits,vj],h⟩
    case andNot=>exact⟨_,λw=>by simp[o4,binOp,Op.intBits,vj],h⟩
    case shl=>exact(gj rfl).elim
    case shr=>exact(mU rfl).elim
    case eql=>exact⟨_,λw=>by simp only[cy,o4,cc,binOp,Op.intCmp,yd];simp;rfl,h⟩
    case neq=>exact⟨_,λw=>by simp only[cy,o4,cc,binOp,Op.intCmp,yd];simp;rfl,h⟩
    case lss=>exact⟨_,λw=>by simp[o4,binOp,Op.intCmp,yd],h⟩
    case leq=>exact⟨_,λw=>by simp[o4,binOp,Op.intCmp,yd],h⟩
    case gtr=>exact⟨_,λw=>by simp[o4,binOp,Op.intCmp,yd],h⟩
    case geq=>exact⟨_,λw=>by simp[o4,binOp,Op.intCmp,yd],h⟩
 ·rename_i a b az aF;cases az;cases aF;split at h
  ·exact .inr ⟨_,λw=>by simp only[cy,NR,cc,binOp,Op.stringOp,dc,Uh],h⟩
  ·exact .inr ⟨_,λw=>by simp only[cy,NR,cc,binOp,Op.stringOp,dc,Uh],h⟩
  ·exact .inl h
 ·rename_i a b az aF;cases az;cases aF;split at h
  ·rename_i dh sz h0 z av;obtain⟨d,hu,ag⟩:=(aO _ _ av).fp;have iI:d=.bool:=by cases d<;>simp_all[fo]
   subst iI;split at h;·exact .inr ⟨_,λw=>by simp only[cy,Ug,cc,binOp,run_equal_bool hu,dc],h⟩
   ·exact .inr ⟨_,λw=>by simp only[cy,Ug,cc,binOp,run_equal_bool hu,dc],h⟩
   ·exact .inl h
  ·exact .inl h
 ·exact .inl h
def NS{args:Array Value}(h:Calls P f args w R)(n:Nat):CallsIn (hq X) n P f args w R:=by have U:=(callsIn_wide (n:=n)).2 h;exact⟨trivial,λcs ai=>U.2 cs (room_wide _)⟩
def eI.part(h:eI I M w){dW Mr:List aI}(a2:M.Perm (dW++Mr)):eI I dW w:=by
 have gW:∀ x,x∈M ↔ x∈dW\/x∈Mr:=λx=>by rw[a2.mem_iff,dV]
 have cf:((dW++Mr).map (·.num)).Nodup:=(a2.map (·.num)).nodup_iff.1 h.cd;rw[fi,Bn]at cf;exact⟨h.i,λx ab=>h.m x ((gW x).2 (.inl ab)),λx ab=>h.d x ((gW x).2 (.inl ab)),cf.1⟩
def cR.after(h:cR X β a w F C I M){dW Mr M':List aI}{I':aR}(a2:M.Perm (dW++Mr))(rD:eI I' M' w')(fv:Kept I dW w I' M' w'):cR X β a w' F C I' (M'++Mr):=by
 have gW:∀ x,x∈M ↔ x∈dW\/x∈Mr:=λx=>by rw[a2.mem_iff,dV]
 have cf:((dW++Mr).map (·.num)).Nodup:=(a2.map (·.num)).nodup_iff.1 h.holds.cd;rw[fi,Bn]at cf;have Uj:∀ x∈Mr,∀ y∈dW,y.num≠x.num:=λx ab y aH=>cf.2.2 y.num (dC.2 ⟨y,aH,rfl⟩) x.num (dC.2 ⟨x,ab,rfl⟩);have aei:∀ x∈Mr,w'.heap[x.num]?=w.heap[x.num]?:=λx ab=>
  fv.dg x.num (h.holds.lt ((gW x).2 (.inr ab))) (Uj x ab)
 exact {
  size:=h.size
  defers:=h.defers.mono λr ai=>by
   have aS:=(lS.1 ai.an).1;refine { an:=?_,aW:=ai.aW,kf:=?_,e3:=λx ab=>?_ };·rw[fv.dg _ aS (λy aH=>ai.e3 y ((gW y).2 (.inl aH)))];exact ai.an
   ·cases bL:I' r with
    |none=>rfl
    |some o=>
     exfalso;rcases fv.vk _ _ bL with U | U;·rw[ai.kf]at U;cases U
     ·omega
   ·rcases dV.1 ab with ab | ab
    ·rcases fv.wH x ab with⟨z,a9,Bu⟩ | U
     ·rw[<-Bu];exact ai.e3 z ((gW z).2 (.inl a9))
     ·omega
    ·exact ai.e3 x ((gW x).2 (.inr ab))
  holds:={
   i:=rD.i
   m:=λx ab=>by
    rcases dV.1 ab with ab | ab;·exact rD.m x ab
    ·rw[aei x ab];exact h.holds.m x ((gW x).2 (.inr ab))
   d:=λx ab=>by
    rcases dV.1 ab with ab | ab;·exact rD.d x ab
    ·cases bL:I' x.num with
     |none=>rfl
     |some o=>
      exfalso;rcases fv.vk _ _ bL with U | U;·have:=h.holds.d x ((gW x).2 (.inr ab));rw[this]at U;cases U
      ·have:=h.holds.lt ((gW x).2 (.inr ab));omega
   cd:=by
    rw[fi,Bn];refine⟨rD.cd,cf.2.1,λp aD q ay e=>?_⟩;obtain⟨x,ab,rfl⟩:=dC.1 aD;obtain⟨y,aH,rfl⟩:=dC.1 ay;rcases fv.wH x ab with⟨z,a9,Bu⟩ | U;·exact Uj y aH z a9 (Bu.trans e)
    ·have:=h.holds.lt ((gW y).2 (.inr aH));omega }
  al:=h.al
  cw:=λs cs ar=>by
   have ah:=h.cw s cs ar;obtain⟨T,bM⟩:=ah.an;refine { an:=⟨T,?_⟩,aW:=ah.aW,kf:=?_,e3:=λx ab=>?_ };·rw[fv.dg _ ah.lt (λy aH=>ah.e3 y ((gW y).2 (.inl aH)))];exact bM
   ·cases bL:I' (β s)with
    |none=>rfl
    |some o=>
     exfalso;rcases fv.vk _ _ bL with U | U;·rw[ah.kf]at U;cases U
     ·have:=ah.lt;omega
   ·rcases dV.1 ab with ab | ab
    ·rcases fv.wH x ab with⟨z,a9,Bu⟩ | U
     ·rw[<-Bu];exact ah.e3 z ((gW z).2 (.inl a9))
     ·have:=ah.lt;omega
    ·exact ah.e3 x ((gW x).2 (.inr ab))
  inj:=h.inj
  iy:=λb o ah=>fv.le b o (h.iy b o ah)
  h2:=λb o ah=>by
   rcases fv.vk b o ah with U | U;·exact h.h2 b o U
   ·exact .inr (jN h.sz U)
  own:=λx ab=>by
   rcases dV.1 ab with ab | ab
   ·rcases fv.wH x ab with⟨z,a9,Bu⟩ | U
    ·rw[<-Bu];exact h.own z ((gW z).2 (.inl a9))
    ·exact .inr (jN h.sz U)
   ·exact h.own x ((gW x).2 (.inr ab))
  dg:=λb ah aC=>by
   rw[fv.dg b (JI ah h.sz) (λy aH e=>by
    rcases h.own y ((gW y).2 (.inl aH))with U | U;·exact aC (e ▸ U)
    ·omega)]
   exact h.dg b ah aC
  out:=h.out.trans fv.out
  sz:=jN h.sz fv.sz }
def cR.call(h:cR X β a w F C I M){KC:Value->aR->List aI->Prop}(aN:a0 X.cu P f args I M KC) :
  (NJ P f/\Calls P f args.toArray w λe w'=>∃ v I' M',e=.returned v/\KC v I' M'/\cR X β a w' F C I' M')\/(∃ v w' I' M',(callFunc f args.toArray).run P w=.ok (.value v) w'/\KC v I' M'/\cR X β a w' F C I' M'):=by
 obtain⟨dO,dW,Mr,post,hP,⟨qw,ar⟩ | ar,ae⟩:=aN.elim ⟨h.holds.d,h.holds.cd⟩<;>have h:=h.iH hP<;>have a2:=List.Perm.refl (dW++Mr)
 ·refine .inl ⟨qw,?_⟩;refine(ar w (h.holds.part a2)).mono ?_;rintro e w'⟨v,I',M',rfl,aD,rD,fv⟩;have aE:=h.after a2 rD fv;exact⟨v,I',M'++Mr,rfl,ae v I' M' fv.le aE.holds.d aD,aE⟩
 ·obtain⟨v,w',I',M',ai,aD,rD,fv⟩:=ar w (h.holds.part a2);have aE:=h.after a2 rD fv;exact .inr ⟨v,w',I',M'++Mr,ai,ae v I' M' fv.le aE.holds.d aD,aE⟩
def Uk{args:Array Value}(cf:∀ c,o.op≠.defer c)(ai:(execOp a.eval o).run X.P w=.ok (.enter f args) w)
  (aN:Calls X.P f args w λe w'=>∃ v,e=.returned v/\next (a.put o.dst v) w'):o.wpIn (hq X) 0 X.P a w next Q:=by
 refine⟨λ_ _=>trivial,?_⟩;rw[JJ _ _ _ cf,ai];refine⟨(λh=>by cases h),?_⟩;refine(NS aN _).mono ?_;rintro e w'⟨v,rfl,h⟩;exact h
def Ul(z:Value)(Um:List Value)(h:z.cells.toList=Um)(n:Nat):(Array.range n).map (z.cells[· % z.cells.size]!)=(rowOf Um n).toArray:=by subst h;apply g2;simp[vl,madeCells]
def kJ.struct{t:Nat}{cE:List (Nat×Nat)}(h:kJ P t ⟨sz,h0,z,.struct cE⟩):∃ fields,P.underlying t=some (.struct fields)/\cE=fields.toList.map λf=>(f.type,f.offset):=by
 obtain⟨d,U,aa⟩:=h.fp;cases d<;>simp[fo]at aa
 exact⟨_,U,aa.symm⟩
def kJ.slice{t:Nat}(h:kJ P t ⟨sz,h0,z,.slice e⟩):P.underlying t=some (.slice e):=by
 obtain⟨d,U,aa⟩:=h.fp;cases d<;>simp[fo]at aa
 rw[U,aa]
def kJ.array{t:Nat}(h:kJ P t ⟨sz,h0,z,.array n e⟩):P.underlying t=some (.array n e):=by
 obtain⟨d,U,aa⟩:=h.fp;cases d<;>simp[fo]at aa
 rw[U,aa.1,aa.2]
def kJ.string{t:Nat}(h:kJ P t ⟨sz,h0,z,.string⟩):P.underlying t=some .string:=by
 obtain⟨d,U,aa⟩:=h.fp;cases d<;>simp[fo]at aa
 exact U
def kJ.int{P:Program}{t sz h0:Nat}{z:List Value}{k:IntKind}(h:kJ P t ⟨sz,h0,z,.int k⟩):P.underlying t=some (.int k):=by
 obtain⟨d,U,aa⟩:=h.fp;cases d<;>simp[fo]at aa
 rw[U,aa]
def Un{fields:Array Field}{i mS:Nat}(h:(fields.toList.map λf=>(f.type,f.offset))[i]?=some (mS,off)):∃ f,fields[i]?=some f/\f.type=mS/\f.offset=off:=by
 simp only[tJ,Array.getElem?_toList]at h;cases aC:fields[i]? with
 |none=>simp[aC]at h| some f=>simp[aC]at h;exact⟨f,rfl,h.1,h.2⟩
def NT{t:Nat}{i:ec}(h:kJ P t i)(bn:off+i.size<=cs.size)(w:World):(part t cs off).run P w=.ok (pack i.bO.agg ((cs.toList.drop off).take i.size)) w:=by
 unfold part;simp only[cy,h.Uc,cc];cases Gc:i.bO.agg with
 |true=>simp only[sD,cy,h.run_sizeOf,cc,dc,pack,bh];congr 2;apply g2;simp[List.take_drop]
 |false=>
  have U:=h.JK Gc;rw[U]at bn |-;have aS:off<cs.size:=by omega
  simp only[lq,mh,F5 aS,dc,pack,bf];congr 1;rw[e8 (by simpa using aS)];simp
def aej{t:Nat}{aG:ec}(av:P.underlying t=some (.slice e))(he:kJ P e aG){c:Nat}{j:Nat}(aj:j<n)(w:World) :
  (Instr.indexAt t (.slice (some ad) n c) (.int fY j)).run P w=.ok (.pointer (some (ad.add (j*aG.size)))) w:=by
 unfold Instr.indexAt;simp only[cy,o3,cc,run_underlying av,dc];rw[cG ⟨by omega,by omega⟩];simp[he.run_sizeOf]
def Uo{t:Nat}{aG:ec}(av:P.underlying t=some (.array m e))(he:kJ P e aG){j:Nat}(aj:j<m)(w:World) :
  (Instr.indexAt t (.pointer (some ad)) (.int fY j)).run P w=.ok (.pointer (some (ad.add (j*aG.size)))) w:=by
 unfold Instr.indexAt;simp only[cy,o3,cc,run_underlying av,dc,Instr.sureAddr];rw[cG ⟨by omega,by omega⟩];simp[he.run_sizeOf]
def Up{P:Program}{E:Env}(aO:c6 P E)(w:World):∀ (fields:List Field),DI E (fields.map λf=>(f.type,f.offset))=true -> ∃ l:List (Nat×Nat),(fields.mapM λf=>(do pure (f.offset,<-sizeOf f.type):Sem (Nat×Nat))).run P w=.ok l w/\∀ i,l[i]?=places E (fields.map λf=>(f.type,f.offset)) i
 |[],_=>⟨[],rfl,λi=>by simp[places]⟩
 |f::cE,h=>by
  simp only[DI,dv,List.all_cons,cp]at h;obtain⟨hI,pR⟩:=Option.isSome_iff_exists.1 h.1;obtain⟨l,U,aa⟩:=Up aO w cE h.2;refine⟨(f.offset,hI.size)::l,?_,λi=>?_⟩;·simp only[F6,cy,(aO _ _ pR).run_sizeOf,cc,dc];rw[U];rfl
  ·cases i with
   |zero=>simp[places,pR]| succ i=>simp only[JG,aa];simp[places]
def Uq(aO:c6 X.P X.E)(h:cR X β a w F C I M){zB:dQ->Prop}{other:Prop}(op:Op)(ty:TypeId)(dst:Option Tmp)(pos:String)(after:Array Edge)(guard:Option (Nat×Bool))(ak:cM X op (dD F) C I M zB other) :
  other\/∃ v x,(execOp a.eval ⟨dst,op,ty,pos,after,guard⟩).run X.P w=.ok (.value v) w/\e2 β x v/\zB x:=by
 have done:∀ {v x},(execOp a.eval ⟨dst,op,ty,pos,after,guard⟩).run X.P w=.ok (.value v) w->e2 β x v->zB x->other\/∃ v x,(execOp a.eval ⟨dst,op,ty,pos,after,guard⟩).run X.P w=.ok (.value v) w/\e2 β x v/\zB x:=
  λU aa af=>.inr ⟨_,_,U,aa,af⟩
 have h3:∀ {v},(execOp a.eval ⟨dst,op,ty,pos,after,guard⟩).run X.P w=.ok (.value v) w->zB (.val v)->other\/∃ v x,(execOp a.eval ⟨dst,op,ty,pos,after,guard⟩).run X.P w=.ok (.value v) w/\e2 β x v/\zB x:=
  fun {v} U af=>.inr ⟨v,.val v,U,rfl,af⟩
 have aC:=h.al;cases op
 case move x=>exact done (by simp[execOp]) (yi aC x) ak
 case assign x=>exact done (by simp[execOp]) (yi aC x) ak
 case pick c p q=>
  simp only[cM]at ak;split at ak
  ·rename_i b ah;have aN:=NM aC ah;cases b
   ·exact done (by simp[execOp,aN,asBool]) (yi aC q) ak
   ·exact done (by simp[execOp,aN,asBool]) (yi aC p) ak
  ·rename_i b ah;have aN:=vn aC ah;refine done (v:=if b then a.eval p else a.eval q) (x:=JL b (bG F p) (bG F q)) (by simp[execOp,aN,asBool]) ?_ ak;have U:=T8 aC p;have aa:=T8 aC q;unfold JL;split
   ·rename_i x y az aF;rw[az]at U;rw[aF]at aa;simp only[e2]at U aa |-;cases b<;>simp[U,aa]
   ·rename_i x y _ az aF;rw[az]at U;rw[aF]at aa;simp only[e2]at U aa |-;cases b<;>simp[U,aa]
   ·trivial
  ·exact ak.elim
 case unOp op t x=>
  simp only[cM]at ak;split at ak;·rename_i b ah;exact done (v:=.bool (!b)) (x:=.lit (!b)) (by simp[execOp,NM aC ah,Op.unary]) rfl ak
  ·rename_i b ah;exact h3 (v:=.bool (!b)) (by simp[execOp,vn aC ah,Op.unary]) ak
  ·rename_i k n ah;obtain⟨r,ai,ae⟩:=ak;exact h3 (v:=.int k r) (by simp only[execOp,vn aC ah,Op.unary,Op.intArith,ai];simp) ae
  ·exact Or.inl ak
 case binOp op t x y ty'=>
  simp only[cM]at ak;by_cases ab:∃ mi yk,bG F x=.val mi/\bG F y=.val yk
  ·obtain⟨mi,yk,ab,aH⟩:=ab;have fin:∀ r,(∀ w,(do eqGuard op t x y mi yk;binOp op t mi yk:Sem Value).run X.P w=.ok r w)->zB (.val r)->(other\/∃ v lr,(execOp a.eval ⟨dst,.binOp op t x y ty',ty,pos,after,guard⟩).run X.P w=.ok (.value v) w/\e2 β lr v/\zB lr):=λr ai ae=>by refine h3 (v:=r) ?_ ae;have:=ai w;rw[<-dk aC ab,<-dk aC aH]at this;simp only[execOp];simp only[cy]at this |-;rw[this];rfl
   rcases aeh aO op t x y _ _ mi yk ab aH _ _ ak with(⟨qv,fN,r,aD,ay,ai,ae⟩ | U) | ⟨r,ai,ae⟩;·rw[show dR (dD F) x=bG F x from rfl,ab]at aD;rw[show dR (dD F) y=bG F y from rfl,aH]at ay;cases aD;cases ay;exact fin r ai ae
   ·exact Or.inl U
   ·exact fin r ai ae
  ·unfold lT at ak;split at ak
   ·rename_i az aF;exact(ab ⟨_,_,az,aF⟩).elim
   ·rename_i az aF;exact(ab ⟨_,_,az,aF⟩).elim
   ·rename_i az aF;exact(ab ⟨_,_,az,aF⟩).elim
   ·rcases ak with⟨qv,fN,r,aD,ay,ai,ae⟩ | U
    ·exact(ab ⟨_,_,aD,ay⟩).elim
    ·exact Or.inl U
 case load t x=>
  simp only[cM]at ak;split at ak
  ·rename_i i hi;split at ak
   ·rename_i s off ab;have kK:=Bs aC ab;split at ak
    ·rename_i cs ar;cases bn:Nat.ble (off+i.size) cs.length with
     |false=>rw[bn]at ak;exact ak.elim| true=>rw[bn]at ak;have qx:=b0 bn;obtain⟨T,bM⟩:=(h.cw s cs ar).an;refine h3 (v:=pack i.bO.agg ((cs.drop off).take i.size)) ?_ ak;have:=JP (aO _ _ hi) (a:=⟨β s,off,none⟩) rfl bM (vs:=(cs.drop off).take i.size) (by simp) (by simp;omega);simp[execOp,Instr.loadAt,Instr.sureAddr,kK,this]
    ·exact ak.elim
   ·rename_i ad ab;have kK:=vn aC ab;obtain⟨vs,⟨cg,cs,T,al,cY,iS,ap⟩,ae⟩:=ak;refine h3 (v:=pack i.bO.agg vs) ?_ ae;have:=JP (aO _ _ hi) cg (cY.heap h.holds) iS ap;simp[execOp,Instr.loadAt,Instr.sureAddr,kK,this]
   ·exact ak.elim
  ·exact ak.elim
 case nilCheck x=>
  simp only[cM]at ak;split at ak;·rename_i s off ab;exact done (v:=.pointer (some ⟨β s,off,none⟩)) (x:=.ref s off) (by simp[execOp,Bs aC ab]) rfl ak
  ·rename_i ad ab;exact h3 (v:=.pointer (some ad)) (by simp[execOp,vn aC ab]) ak
  ·exact Or.inl ak
 case fieldAddr t x i=>
  simp only[cM]at ak;split at ak
  ·rename_i sz h0 z cE av;obtain⟨fields,hu,rfl⟩:=(aO _ _ av).struct;split at ak
   ·rename_i mS off jR;obtain⟨f,wK,rfl,rfl⟩:=Un jR;split at ak
    ·rename_i hI s o' pR ab;cases a9:Nat.beq hI.size 0 with
     |true=>rw[a9]at ak;exact ak.elim
     |false=>
      rw[a9]at ak;have h4:hI.size≠0:=λe=>by rw[e]at a9;cases a9
      refine done (v:=.pointer (some ⟨β s,o'+f.offset,none⟩)) (x:=.ref s (o'+f.offset)) ?_ rfl ak;simp[execOp,Instr.fieldAt,run_underlying hu,wK,Bs aC ab,Instr.sureAddr,fieldPlace,(aO _ _ pR).run_sizeOf,h4,eo]
    ·rename_i hI ad pR ab;cases a9:Nat.beq hI.size 0 with
     |true=>rw[a9]at ak;exact ak.elim
     |false=>
      rw[a9]at ak;have h4:hI.size≠0:=λe=>by rw[e]at a9;cases a9
      refine h3 (v:=.pointer (some (ad.add f.offset))) ?_ ak;simp[execOp,Instr.fieldAt,run_underlying hu,wK,vn aC ab,Instr.sureAddr,fieldPlace,(aO _ _ pR).run_sizeOf,h4]
    ·exact ak.elim
   ·exact ak.elim
  ·exact ak.elim
 case field t x i=>
  simp only[cM]at ak;split at ak
  ·rename_i sz h0 z cE cs av ab;obtain⟨fields,hu,rfl⟩:=(aO _ _ av).struct;split at ak
   ·rename_i mS off jR;obtain⟨f,wK,rfl,rfl⟩:=Un jR;split at ak
    ·rename_i hI pR;cases a9:Nat.ble (f.offset+hI.size) cs.size with
     |false=>rw[a9]at ak;exact ak.elim| true=>rw[a9]at ak;refine h3 ?_ ak;simp[execOp,Instr.field,run_underlying hu,wK,dk aC ab,asAgg,NT (aO _ _ pR) (b0 a9)]
    ·exact ak.elim
   ·exact ak.elim
  ·exact ak.elim
 case indexAddr t x i=>
  simp only[cM]at ak;split at ak
  ·rename_i sz h0 z e fY k av hi;have hu:=(aO _ _ av).slice;split at ak
   ·rename_i aG a' n c hQ ab;obtain⟨ad,j,rfl,rfl,aj,ae⟩:=ak;refine h3 ?_ ae;simp[execOp,dk aC ab,dk aC hi,aej hu (aO _ _ hQ) aj]
   ·exact ak.elim
  ·rename_i sz h0 z n e fY k av hi;have hu:=(aO _ _ av).array;split at ak
   ·rename_i aG s o' hQ ab;obtain⟨j,rfl,aj,ae⟩:=ak;refine done (v:=.pointer (some ⟨β s,o'+j*aG.size,none⟩)) (x:=.ref s (o'+j*aG.size)) ?_ rfl ae;simp[execOp,Bs aC ab,dk aC hi,Uo hu (aO _ _ hQ) aj,eo]
   ·rename_i aG ad hQ ab;obtain⟨j,rfl,aj,ae⟩:=ak;refine h3 ?_ ae;simp[execOp,vn aC ab,dk aC hi,Uo hu (aO _ _ hQ) aj]
   ·exact ak.elim
  ·exact ak.elim
 case index t x i=>
  simp only[cM]at ak;split at ak;·rename_i sz h0 z s fY k av ab hi;have hu:=(aO _ _ av).string;obtain⟨j,rfl,aj,ae⟩:=ak;refine h3 ?_ ae;simp only[execOp,dk aC ab,dk aC hi,Instr.index,cy,o3,cc,run_underlying hu];rw[cG (by omega:(0:Int)<=j)];simp[aj]
  ·rename_i sz h0 z n e cs fY k av ab hi;have hu:=(aO _ _ av).array;split at ak
   ·rename_i aG hQ;cases a9:Nat.beq (n*aG.size) cs.size with
    |false=>rw[a9]at ak;exact ak.elim
    |true=>
     rw[a9]at ak;obtain⟨j,rfl,aj,ae⟩:=ak;have h4:=cK a9;refine h3 ?_ ae;have bn:j*aG.size+aG.size<=cs.size:=by rw[<-h4,<-Nat.succ_mul];exact qs _ aj
     simp only[execOp,dk aC ab,dk aC hi,Instr.index,cy,o3,cc,run_underlying hu];rw[cG ⟨by omega,by omega⟩];simp[(aO _ _ hQ).run_sizeOf,NT (aO _ _ hQ) bn]
   ·exact ak.elim
  ·exact ak.elim
 case build t parts=>
  simp only[cM]at ak;split at ak
  ·rename_i i vs hi iS;have aD:=JM aC iS;have zC:(parts.map λ(i,x)=>(i,a.eval x)).toList=vs:=by simpa using aD
   obtain⟨z,a9,yl⟩:=(aO _ _ hi).Gb w;have DM:z.cells=i.zero.toArray:=by rw[<-yl]
   split at ak
   ·rename_i cE ot;cases bb:DI X.E cE with
    |false=>rw[bb]at ak;exact ak.elim
    |true=>
     rw[bb]at ak;simp only[bh]at ak;split at ak
     ·rename_i cells sJ;obtain⟨sz,h0,aek,bO⟩:=i;simp only at ot;subst ot;obtain⟨fields,hu,rfl⟩:=(aO _ _ hi).struct;obtain⟨l,ap,tS⟩:=Up aO w fields.toList bb;refine h3 ?_ ak;have hm:(fields.mapM λf=>(do pure (f.offset,<-sizeOf f.type):Sem (Nat×Nat))).run X.P w=.ok l.toArray w:=by rw[T7,Sem.run_map,ap];rfl
      have tT:=fill_eq _ _ _ _ sJ;have ael:(λj=>l.toArray[j]?)=places X.E (fields.toList.map λf=>(f.type,f.offset)):=by funext j;rw[<-tS j];simp
      simp only[execOp,Instr.build,cy,a9,cc,run_underlying hu,DM,zC];rw[hm];simp only[cc,ael,tT,dc]
     ·exact ak.elim
   ·rename_i n e ot;split at ak
    ·rename_i aG hQ;split at ak
     ·rename_i cells sJ;obtain⟨sz,h0,aek,bO⟩:=i;simp only at ot;subst ot;have hu:=(aO _ _ hi).array;refine h3 ?_ ak;have tT:=fill_eq _ _ _ _ sJ;simp only[execOp,Instr.build,cy,a9,cc,run_underlying hu,DM,zC,(aO _ _ hQ).run_sizeOf,tT,dc]
     ·exact ak.elim
    ·exact ak.elim
   ·exact ak.elim
  ·exact ak.elim
 case makeFunc fn first captured=>
  simp only[cM]at ak;split at ak
  ·rename_i cE cs U aa;have az:=tO aC U;have aF:=tO aC aa;refine h3 ?_ ak;have eA:first.map a.eval=cE.toArray:=by apply g2;simpa using az
   have eX:captured.map a.eval=cs.toArray:=by apply g2;simpa using aF
   simp[execOp,Instr.makeFunc,eA,eX]
  ·exact ak.elim
 case slice t x lo hi mx=>
  simp only[cM]at ak;split at ak
  ·rename_i sz h0 z e a' n c av ab g4;have Bv:mx=none:=by simpa using g4
   subst Bv;have hu:=(aO _ _ av).slice;have kK:=dk aC ab;split at ak
   ·rename_i aG hQ eH e1;have ym:lo=none:=by simpa using eH
    have Bw:hi=none:=by simpa using e1
    subst ym;subst Bw;refine h3 ?_ ak;have az:(if c=0 then a' else a'.map (·.add (0*aG.size)))=a':=by split<;>cases a'<;>simp[Addr.add]
    simp[execOp,Instr.sliceAt,Instr.slice,Instr.sliceBounds,kK,run_underlying hu,(aO _ _ hQ).run_sizeOf,Addr.add]
   ·rename_i aG fY ls hQ eH e1;have ym:lo=none:=by simpa using eH
    subst ym;obtain⟨JR,rfl,bl⟩:=tI.1 e1;obtain⟨l,aa,DN,rfl,bn,sK,ae⟩:=ak;refine h3 ?_ ae;simp only[execOp,Instr.sliceAt,Instr.slice,Instr.sliceBounds,Instr.sliceBound,kK,cy,run_underlying hu,cc,(aO _ _ hQ).run_sizeOf,dc,k3,vh,dk aC bl,o3];rw[cG ⟨by omega,by omega⟩];simp[Addr.add]
   ·rename_i aG fY JS hQ eH e1;have Bw:hi=none:=by simpa using e1
    subst Bw;obtain⟨NU,rfl,bl⟩:=tI.1 eH;obtain⟨l,aa,rfl,Bx,bn,sK,ae⟩:=ak;simp only[vg,ib]at *;refine h3 ?_ ae;simp only[execOp,Instr.sliceAt,Instr.slice,Instr.sliceBounds,Instr.sliceBound,kK,cy,run_underlying hu,cc,(aO _ _ hQ).run_sizeOf,dc,k3,vh,dk aC bl,o3];rw[cG ⟨by omega,by omega⟩];simp
   ·rename_i aG fY JS aem ls hQ eH e1;obtain⟨NU,rfl,bl⟩:=tI.1 eH;obtain⟨JR,rfl,By⟩:=tI.1 e1;obtain⟨l,aa,rfl,rfl,bn,sK,ae⟩:=ak;refine h3 ?_ ae;simp only[execOp,Instr.sliceAt,Instr.slice,Instr.sliceBounds,Instr.sliceBound,kK,cy,run_underlying hu,cc,(aO _ _ hQ).run_sizeOf,dc,k3,vh,dk aC bl,dk aC By,o3];rw[cG ⟨by omega,by omega⟩];simp only[dc,cc,kH];rw[cG ⟨by omega,by omega⟩];simp
   ·exact ak.elim
  ·rename_i sz h0 z s av ab g4;have Bv:mx=none:=by simpa using g4
   subst Bv;have hu:=(aO _ _ av).string;have kK:=dk aC ab;split at ak
   ·rename_i eH e1;have ym:lo=none:=by simpa using eH
    have Bw:hi=none:=by simpa using e1
    subst ym;subst Bw;refine h3 ?_ ak;have az:s.extract 0 s.size=s:=by apply wG;simp[JH]
    simp[execOp,Instr.sliceAt,Instr.slice,Instr.sliceBounds,kK,run_underlying hu,az]
   ·rename_i fY ls eH e1;have ym:lo=none:=by simpa using eH
    subst ym;obtain⟨JR,rfl,bl⟩:=tI.1 e1;obtain⟨l,aa,DN,rfl,bn,sK,ae⟩:=ak;refine h3 ?_ ae;simp only[execOp,Instr.sliceAt,Instr.slice,Instr.sliceBounds,Instr.sliceBound,kK,cy,run_underlying hu,cc,dc,k3,vh,dk aC bl,o3];simp only[NG,lq,mh,cy,dc,cc,o3];rw[cG ⟨by omega,by omega⟩];simp
   ·rename_i fY JS eH e1;have Bw:hi=none:=by simpa using e1
    subst Bw;obtain⟨NU,rfl,bl⟩:=tI.1 eH;obtain⟨l,aa,rfl,Bx,bn,sK,ae⟩:=ak;simp only[vg,ib]at *;refine h3 ?_ ae;simp only[execOp,Instr.sliceAt,Instr.slice,Instr.sliceBounds,Instr.sliceBound,kK,cy,run_underlying hu,cc,dc,k3,vh,dk aC bl,o3];simp only[NG,lq,mh,cy,dc,cc,o3];rw[cG ⟨by omega,by omega⟩];simp
   ·rename_i fY JS aem ls eH e1;obtain⟨NU,rfl,bl⟩:=tI.1 eH;obtain⟨JR,rfl,By⟩:=tI.1 e1;obtain⟨l,aa,rfl,rfl,bn,sK,ae⟩:=ak;refine h3 ?_ ae;simp only[execOp,Instr.sliceAt,Instr.slice,Instr.sliceBounds,Instr.sliceBound,kK,cy,run_underlying hu,cc,dc,k3,vh,dk aC bl,dk aC By,o3];simp only[NG,lq,mh,cy,dc,cc,o3];rw[cG ⟨by omega,by omega⟩];simp only[dc,cc,kH];rw[cG ⟨by omega,by omega⟩];simp
   ·exact ak.elim
  ·rename_i sz h0 z e a' n c arZ ar0 av ab g4;obtain⟨ar1,rfl,aen⟩:=tI.1 g4;have hu:=(aO _ _ av).slice;have kK:=dk aC ab;split at ak
   ·rename_i aG fY ls hQ eH e1;have ym:lo=none:=by simpa using eH
    subst ym;obtain⟨JR,rfl,bl⟩:=tI.1 e1;obtain⟨l,m,rfl,rfl,bn,sK,ae⟩:=ak;refine h3 ?_ ae;simp only[execOp,Instr.sliceAt,Instr.slice,Instr.sliceBounds,Instr.sliceBound,kK,cy,run_underlying hu,cc,(aO _ _ hQ).run_sizeOf,dc,k3,vh,dk aC bl,dk aC aen,o3];rw[cG ⟨by omega,by omega⟩];simp only[dc,cc,kH];rw[cG ⟨by omega,by omega⟩];simp only[dc,cc,kH]
   ·exact Or.inl ak
  ·exact Or.inl ak
 case extract x i=>
  simp only[cM]at ak;split at ak
  ·rename_i vs ab;split at ak
   ·rename_i v hi;refine h3 ?_ ak;have di:vs[i]?=some v:=by simpa using hi
    simp[execOp,Instr.extract,dk aC ab,di]
   ·exact ak.elim
  ·exact ak.elim
 case convert s d x=>
  simp only[cM]at ak;split at ak;·rename_i ar2 sz h0 z k ed n ar av ab;have hu:=(aO _ _ av).int;obtain⟨ds,fZ,_⟩:=(aO _ _ ar).fp;obtain⟨r,ai,ae⟩:=ak;refine h3 ?_ ae;simp only[execOp,convert,dk aC ab,cy,run_underlying fZ,run_underlying hu,cc];simp only[Conv.intToInt,ai,dc,cc]
  ·exact Or.inl ak
 case call c=>
  obtain⟨callee,args,argTypes⟩:=c;cases callee with
  |value f=>exact .inl ak| invoke r m=>exact .inl ak
  |builtin b=>
   cases b
   case len=>
    simp only[cM]at ak;split at ak
    ·rename_i t v U aa;have az:=tO aC aa;have eA:args.map a.eval=#[v]:=by apply g2;simpa using az
     have av:argTypes=#[t]:=by apply g2;simpa using U
     subst av;split at ak;·rename_i sz h0 z e ad n c bM;have hu:=(aO _ _ bM).slice;refine h3 ?_ ak;simp[execOp,resolve,invoke,builtin,Builtin.len_,eA,run_underlying hu,goInt]
     ·rename_i sz h0 z s bM;have hu:=(aO _ _ bM).string;refine h3 ?_ ak;simp[execOp,resolve,invoke,builtin,Builtin.len_,eA,run_underlying hu,goInt]
     ·rename_i sz h0 z n e bM;have hu:=(aO _ _ bM).array;refine h3 ?_ ak;simp[execOp,resolve,invoke,builtin,Builtin.len_,eA,run_underlying hu,goInt]
     ·exact Or.inl ak
    ·exact Or.inl ak
   case cap=>
    simp only[cM]at ak;split at ak
    ·rename_i t v U aa;have az:=tO aC aa;have eA:args.map a.eval=#[v]:=by apply g2;simpa using az
     have av:argTypes=#[t]:=by apply g2;simpa using U
     subst av;split at ak;·rename_i sz h0 z e ad n c bM;have hu:=(aO _ _ bM).slice;refine h3 ?_ ak;simp[execOp,resolve,invoke,builtin,Builtin.cap_,eA,run_underlying hu,goInt]
     ·exact Or.inl ak
    ·exact Or.inl ak
   case max=>
    simp only[cM]at ak;split at ak
    ·rename_i k p ed q aa;have az:=tO aC aa;have eA:args.map a.eval=#[.int k p,.int ed q]:=by apply g2;simpa using az
     refine h3 ?_ ak;have hm:(if q > p then q else p)=max p q:=by split<;>omega
     simp only[execOp,resolve,invoke,builtin,Builtin.max_,Builtin.max2,eA,cy,dc,cc,List.foldlM_cons,List.foldlM_nil,hm]
    ·exact Or.inl ak
   case min=>
    simp only[cM]at ak;split at ak
    ·rename_i k p ed q aa;have az:=tO aC aa;have eA:args.map a.eval=#[.int k p,.int ed q]:=by apply g2;simpa using az
     refine h3 ?_ ak;have hm:(if q<p then q else p)=min p q:=by split<;>omega
     simp only[execOp,resolve,invoke,builtin,Builtin.min_,Builtin.min2,eA,cy,dc,cc,List.foldlM_cons,List.foldlM_nil,hm]
    ·exact Or.inl ak
   case unsafeSliceData=>
    simp only[cM]at ak;split at ak
    ·rename_i n c aa;have az:=tO aC aa;have eA:args.map a.eval=#[.slice none n c]:=by apply g2;simpa using az
     refine h3 ?_ ak;simp only[execOp,resolve,invoke,builtin,eA,cy,dc,cc,Lib.run_unsafeSliceData_nil]
    ·rename_i ad n c aa;obtain⟨af,ak⟩:=ak;have az:=tO aC aa;have eA:args.map a.eval=#[.slice (some ad) n c]:=by apply g2;simpa using az
     refine h3 ?_ ak;simp only[execOp,resolve,invoke,builtin,eA,cy,dc,cc,Lib.run_unsafeSliceData_row _ _ _ _ _ _ (show c≠0 by omega)]
    ·exact Or.inl ak
   all_goals exact .inl ak
 all_goals exact .inl ak
def DO(aO:c6 X.P X.E)(ag:∀ d,o.dst=some d->d<X.n)(h:Rel X a w F C I M)(ak:g6 X o F C I M K):o.wpIn (hq X) 0 X.P a w (Sat X K) Q:=by
 have a4:=h;obtain⟨β,h⟩:=h;obtain⟨dst,op,ty,pos,after,guard⟩:=o;have other:bs X ⟨dst,op,ty,pos,after,guard⟩ F C I M K->(⟨dst,op,ty,pos,after,guard⟩:Oper).wpIn (hq X) 0 X.P a w (Sat X K) Q:=λ⟨h⟩=>h a w Q a4;have aC:=h.al;have quiet:cM X op (dD F) C I M (λx=>K (Go.V.put dst x F) C I M) (bs X ⟨dst,op,ty,pos,after,guard⟩ F C I M K)->(∀ c,op≠.defer c)->(⟨dst,op,ty,pos,after,guard⟩:Oper).wpIn (hq X) 0 X.P a w (Sat X K) Q:=λay cf=>by
  rcases Uq aO h op ty dst pos after guard ay with U | ⟨v,x,ai,ab,ae⟩;·exact other U
  ·exact Uf (o:=⟨dst,op,ty,pos,after,guard⟩) h ag cf ai ab ae
 cases op
 case box t x=>
  simp only[g6]at ak;split at ak
  ·rename_i d v ab;have kK:=dk aC ab;have ai:(execOp a.eval ⟨some d,.box t x,ty,pos,after,guard⟩).run X.P w=.ok (.value (.pointer (some ⟨w.heap.size,0,none⟩))) (w.alloc (.cells v.cells t (0,0))):=by simp[execOp,Instr.box,newVar,newRow,kK,Bo]
   have dy:d<X.n:=ag d rfl;cases kL:X.g5.contains d with
   |true=>rw[kL]at ak;obtain⟨ak⟩:=ak;have ae:=ak w.heap.size h.holds.sH h.holds.rC;have U:=(h.oq (.cells v.cells t (0,0))).NQ d;exact je (by simp) ai ⟨_,_,_,_,⟨β,cR.put U (dst:=some d) (x:=.val (.pointer (some ⟨w.heap.size,0,none⟩))) (by simpa using dy) rfl⟩,ae⟩
   |false=>rw[kL]at ak;obtain⟨o2,U⟩:=h.Ua d dy v.cells.toList t;exact je (by simp) ai ⟨_,_,_,_,⟨o2,by simpa using U⟩,ak⟩
  ·exact ak.elim
 case alloc t=>
  simp only[g6]at ak;split at ak
  ·rename_i d i hi;obtain⟨z,a9,yl⟩:=(aO _ _ hi).Gb w;have DM:z.cells=i.zero.toArray:=by rw[<-yl]
   have ai:(execOp a.eval ⟨some d,.alloc t,ty,pos,after,guard⟩).run X.P w=.ok (.value (.pointer (some ⟨w.heap.size,0,none⟩))) (w.alloc (.cells i.zero.toArray t (0,0))):=by simp[execOp,Instr.alloc,newVar,newRow,a9,DM,Bo]
   have dy:d<X.n:=ag d rfl;cases kL:X.g5.contains d with
   |true=>rw[kL]at ak;obtain⟨ak⟩:=ak;have ae:=ak w.heap.size h.holds.sH h.holds.rC;have U:=(h.oq (.cells i.zero.toArray t (0,0))).NQ d;exact je (by simp) ai ⟨_,_,_,_,⟨β,cR.put U (dst:=some d) (x:=.val (.pointer (some ⟨w.heap.size,0,none⟩))) (by simpa using dy) rfl⟩,ae⟩
   |false=>rw[kL]at ak;obtain⟨o2,U⟩:=h.Ua d dy i.zero t;exact je (by simp) ai ⟨_,_,_,_,⟨o2,U⟩,ak⟩
  ·exact ak.elim
 case store t x y=>
  simp only[g6]at ak;split at ak
  ·rename_i i v hi aH;have wL:=dk aC aH;split at ak
   ·rename_i s off ab;have kK:=Bs aC ab;split at ak
    ·rename_i cs ar;cases bn:(Nat.ble (off+i.size) cs.length&&(Nat.beq v.cells.size i.size&&gU v.cells.toList))with
     |false=>rw[bn]at ak;exact ak.elim| true=>rw[bn]at ak;simp only[cp]at bn;obtain⟨bn,c8,kh⟩:=bn;have qx:=b0 bn;have Bz:=cK c8;obtain⟨T,bM⟩:=(h.cw s cs ar).an;have:=JQ (aO _ _ hi) (a:=⟨β s,off,none⟩) (v:=v) rfl bM Bz (by simp;omega) kh;refine DJ (by simp) (w':=w.setRow (β s) (bK cs off v.cells.toList).toArray) ?_ ⟨_,_,_,_,⟨β,h.Ud ar (bK cs off v.cells.toList)⟩,ak⟩;simp only[execOp,Instr.storeAt,kK,wL,Instr.sureAddr,cy,dc,cc];simp only[ND]at this;rw[this];rfl
    ·exact ak.elim
   ·rename_i ad ab;have kK:=vn aC ab;cases c8:Nat.beq v.cells.size i.size with
    |false=>rw[c8]at ak;exact ak.elim| true=>rw[c8]at ak;obtain⟨a8,post,cs,T,a2,cg,ah,kh,ae⟩:=ak;have Bz:=cK c8;have aA:w.heap[ad.block]?=some (.cells cs T (0,0)):=h.holds.m ⟨ad.block,.cells cs T (0,0)⟩ (by rw[a2];simp);have:=JQ (aO _ _ hi) (v:=v) cg aA Bz ah kh;refine DJ (by simp) (w':=w.setRow ad.block (bK cs.toList ad.off v.cells.toList).toArray) ?_ ⟨_,_,_,_,⟨β,h.yj a2⟩,ae⟩;simp only[execOp,Instr.storeAt,kK,wL,Instr.sureAddr,cy,dc,cc];rw[this];rfl
   ·exact ak.elim
  ·exact ak.elim
 case buildSlice t len parts=>
  simp only[g6]at ak;split at ak
  ·rename_i sz h0 z e vs av iS;have hu:=(aO _ _ av).slice;have aD:=JM aC iS;have zC:(parts.map λ(i,x)=>(i,a.eval x)).toList=vs:=by simpa using aD
   split at ak
   ·rename_i aG hQ;cases a9:(Nat.ble (len*aG.size) 16777216&&Nat.blt 0 (len*aG.size))with
    |false=>
     rw[a9]at ak;simp only[bf]at ak;split at ak
     ·rename_i aeo;obtain⟨ak⟩:=ak;have ae:=ak w.heap.size h.holds.sH h.holds.rC;refine je (by simp) (v:=.slice (some ⟨w.heap.size,0,none⟩) 0 0) (w':=w.alloc (.cells #[] e (0,0))) ?_ ⟨_,_,_,_,⟨β,(h.oq _).put (x:=.val (.slice (some ⟨w.heap.size,0,none⟩) 0 0)) ag rfl⟩,ae⟩;simp only[execOp,Instr.buildSlice,cy,cc,run_underlying hu,(aO _ _ hQ).run_sizeOf,zC];have cJ:∀ f:Nat->Value,Array.map f (Array.range 0)=#[]:=λf=>by apply Array.ext<;>simp
      simp[newRow,Bo,Instr.fill,cJ]
     ·exact ak.elim
    |true=>
     rw[a9]at ak;simp only[bh]at ak;rw[cp]at a9;have bn:=b0 a9.1;have ki:0<len*aG.size:=by simpa using a9.2
     split at ak;·rename_i cells sJ;obtain⟨tU,BA,yl⟩:=(aO _ _ hQ).Gb w;obtain⟨ak⟩:=ak;have ae:=ak w.heap.size h.holds.sH h.holds.rC;refine je (by simp) (v:=.slice (some ⟨w.heap.size,0,none⟩) len len) (w':=w.alloc (.cells cells.toArray e (0,0))) ?_ ⟨_,_,_,_,⟨β,(h.oq _).put (x:=.val (.slice (some ⟨w.heap.size,0,none⟩) len len)) ag rfl⟩,ae⟩;have tT:=fill_eq _ _ _ _ sJ;simp only[execOp,Instr.buildSlice,cy,cc,run_underlying hu,(aO _ _ hQ).run_sizeOf];rw[ca (by omega)];simp only[ca (show ¬ len*aG.size=0 by omega),cy,BA,cc,dc,zC,Ul tU aG.zero yl,tT];simp[newRow,Bo]
     ·exact ak.elim
   ·exact ak.elim
  ·exact ak.elim
 case makeSlice t l c=>
  simp only[g6]at ak;split at ak
  ·rename_i sz h0 z e hK l' iz c' av ap aN;have hu:=(aO _ _ av).slice;split at ak
   ·rename_i aG hQ;obtain⟨n,m,rfl,rfl,sL,ah,hm,⟨ak⟩⟩:=ak;have ae:=ak w.heap.size h.holds.sH h.holds.rC;obtain⟨inf,tU,e9,hz,iA,kj,BB⟩:=(aO _ _ hQ).inf;refine je (by simp) (v:=.slice (some ⟨w.heap.size,0,none⟩) n m) (w':=w.alloc (.cells (rowOf aG.zero (m*aG.size)).toArray e (0,0))) ?_ ⟨_,_,_,_,⟨β,(h.oq _).put (x:=.val (.slice (some ⟨w.heap.size,0,none⟩) n m)) ag rfl⟩,ae⟩;have hL:((aG.bytes:Nat):Int)*(m:Int)<=281474976710656:=by
     have aa:((aG.bytes*m:Nat):Int)<=281474976710656:=by omega
     simpa using aa
    have:=run_make (P:=X.P) w t e inf tU hu e9 kj hK iz (n:Int) (m:Int) (by omega) (by omega) (by rw[iA];exact hL) (by omega);simp only[execOp,dk aC ap,dk aC aN,cy,this,cc,dc,kH];have az:madeCells tU.cells (m*inf.size)=(rowOf aG.zero (m*aG.size)).toArray:=by rw[hz,<-BB];simp[vl]
    rw[az]
   ·exact ak.elim
  ·exact ak.elim
 case call c=>
  obtain⟨callee,args,argTypes⟩:=c;cases callee with
  |value f=>
   simp only[g6]at ak;split at ak
   ·rename_i g first cap vs zD iS
    have az:=tO aC iS;have eA:args.map a.eval=vs.toArray:=by apply g2;simpa using az
    have e':∀ {n:Next} {w':World},(callFunc g (first.toList++vs++cap.toList).toArray).run X.P w=.ok n w'->(execOp a.eval ⟨dst,.call { callee:=.value f,args,argTypes },ty,pos,after,guard⟩).run X.P w=.ok n w':=λai=>by simp only[execOp,resolve,dk aC zD,Deferred.ofValue,cy,dc,cc,eA,invoke];rw[show first++vs.toArray++cap=(first.toList++vs++cap.toList).toArray from by apply g2;simp];exact ai
    rcases h.call ak with⟨qw,BC⟩ | ⟨v,w',I',M',ai,ae,hR⟩;·refine Uk (by simp) (f:=g) (args:=(first.toList++vs++cap.toList).toArray) (e' (qw _ _)) ?_;refine BC.mono ?_;rintro e w'⟨v,I',M',rfl,ae,ai⟩;exact⟨v,rfl,_,_,_,_,⟨β,ai.put (x:=.val v) ag rfl⟩,ae⟩
    ·exact je (by simp) (e' ai) ⟨_,_,_,_,⟨β,hR.put (x:=.val v) ag rfl⟩,ae⟩
   ·exact other ak
  |invoke r m=>exact quiet ak (by simp)
  |builtin b=>
   cases b
   all_goals exact quiet ak (by simp)
 case defer c=>exact other ak
 all_goals exact quiet ak (by simp)
end
section
variable{X:c7}{β:Nat->Nat}{a:Act}{w:World}{F:Fr}{C:d'}{I:aR}{M:List aI}{o:Oper}{Q:Exit->Act->World->Prop}{K:gp}
def DP{c:Bool}(h:a.tmps.getD d undef=.bool c):a.tmps[d]?=some (.bool c):=by
 rw[pN]at h;cases ag:a.tmps[d]? with
 |none=>rw[ag]at h;cases h| some v=>rw[ag]at h;simp at h;rw[h]
def Ge{j:Nat}(ag:(ops[j]?).bind (·.dst)=some d)(tmps:Array Value):yielded ops tmps j=match tmps[d]? with
  |some (.bool b)=>some b| _=>none:=by
 unfold yielded;rw[ag];rfl
def cR.refine(h:cR X β a w F C I M){eD:Fr}(bB:∀ t,e2 β (eD t) (a.tmps.getD t undef)):cR X β a w eD C I M:={ h with al:=bB }
def Ur(aO:c6 X.P X.E)(ops:Array Oper)(vp:∀ a w,Sat X K a w->Q .normal a w):∀ (l:List Oper) (k:Nat),(∀ j,l[j]?=ops[k+j]?)->(∀ o∈l,∀ d,o.dst=some d->d<X.n) -> ∀ {F C I M a w},Rel X a w F C I M->vm X ops.toList l F C I M K->wpOpsIn (hq X) 0 X.P ops Q (List.range' k l.length) a w
 |[],k,_,_,F,C,I,M,a,w,a4,ak=>vp _ _ ⟨F,C,I,M,a4,ak⟩
 |o::bd,k,ap,ag,F,C,I,M,a,w,a4,ak=>by
  have ao:ops[k]?=some o:=by simpa using(ap 0).symm
  have ou:∀ j,bd[j]?=ops[k+1+j]?:=λj=>by have:=ap (j+1);simpa[rz,F7 1 j]using this
  have iI:∀ o∈bd,∀ d,o.dst=some d->d<X.n:=λo au=>ag o (by simp[au]);have zE:=ag o (by simp);have a7:=@Ur aO ops vp bd (k+1) ou iI;simp only[eQ,NH,wpOpsIn,ao];have run:∀ {F C I M},Rel X a w F C I M->g6 X o F C I M (λF C I M=>vm X ops.toList bd F C I M K)->o.wpIn (hq X) 0 X.P a w (wpOpsIn (hq X) 0 X.P ops Q (List.range' (k+1) bd.length)) Q:=λa4 ak=>
   tK (λa' w' ⟨eD,C',I',M',ai,ae⟩=>a7 ai ae) (DO aO zE a4 ak)
  have skip:∀ {F C I M},Rel X a w F C I M->vm X ops.toList bd (put o.dst (.val undef) F) C I M K->(∀ f,o.about X.P w a.eval=some f->(hq X).fn f)/\wpOpsIn (hq X) 0 X.P ops Q (List.range' (k+1) bd.length) (a.put o.dst undef) w:=λ⟨β,ai⟩ ak=>
   ⟨λ_ _=>trivial,a7 ⟨β,ai.put (x:=.val undef) zE rfl⟩ ak⟩
  unfold vm at ak;cases aA:o.guard with
  |none=>
   rw[aA]at ak;have hw:Region.wanted o (yielded ops a.tmps)=true:=by simp[Region.wanted,aA]
   rw[cG hw];exact run a4 ak
  |some Gf=>
   obtain⟨j,b⟩:=Gf;rw[aA]at ak;simp only at ak;cases aj:(ops.toList[j]?).bind (·.dst)with
   |none=>rw[aj]at ak;exact ak.elim
   |some d=>
    rw[aj]at ak;simp only at ak;have jS:(ops[j]?).bind (·.dst)=some d:=by simpa using aj
    have aH:=Ge jS a.tmps;obtain⟨β,ai⟩:=a4;have bB:=ai.al d;split at ak
    ·rename_i c aN;rw[aN]at bB;have NV:=DP bB;have Gg:Region.wanted o (yielded ops a.tmps)=(c == b):=by simp[Region.wanted,aA,aH,NV]
     rw[Gg];cases jz:(c == b)with
     |true=>rw[jz]at ak;simp only[sD];exact run ⟨β,ai⟩ ak| false=>rw[jz]at ak;simp only[lq,mh];exact skip ⟨β,ai⟩ ak
    ·rename_i c aN;rw[aN]at bB;have NV:=DP bB;have Gg:Region.wanted o (yielded ops a.tmps)=(c == b):=by simp[Region.wanted,aA,aH,NV]
     rw[Gg];obtain⟨yn,nF⟩:=ak;have set:∀ x:Bool,c=x->Rel X a w (g3 F d (.lit x)) C I M:=λx ab=>⟨β,ai.refine λt=>by
      unfold g3;by_cases e:t=d;·subst e;simp only[rB,bh];rw[<-ab];exact bB
      ·simp only[hy e,bf];exact ai.al t⟩
     by_cases jz:c=b
     ·have:(c == b)=true:=by simp[jz]
      rw[this];simp only[sD];exact run (set b jz) (yn jz)
     ·have aa:c=!b:=by cases c<;>cases b<;>simp_all
      have:(c == b)=false:=by simp[jz]
      rw[this];simp only[lq,mh];exact skip (set _ aa) (nF aa)
    ·rename_i vs aN;rw[aN]at bB;have BD:yielded ops a.tmps j=none:=by
      rw[aH];cases ml:a.tmps[d]? with
      |none=>rfl| some v=>simp only[e2,pN,ml,ib]at bB;subst bB;rfl
     have Gg:Region.wanted o (yielded ops a.tmps)=false:=by simp[Region.wanted,aA,BD]
     rw[Gg];simp only[lq,mh];exact skip ⟨β,ai⟩ ak
    ·exact ak.elim
end
inductive tV:dQ->dQ->Prop
 |refl{x}:tV x x| lit {b}:tV (.lit b) (.val (.bool b))| nC {x}:tV x .nC
def rE:List (Nat×dQ)->Fr
 |[],_=>.nC|(t,x)::l,s=>bif Nat.beq s t then x else rE l s
def rF:List (Nat×List Value)->d'
 |[],_=>none|(t,x)::l,s=>bif Nat.beq s t then some x else rF l s
inductive lu(F:Fr):List (Nat×dQ)->Prop
 |nil:lu F []| cons {t x l} (h:tV (F t) x) (k:lu F l):lu F ((t,x)::l)
inductive zF(C:d'):List (Nat×List Value)->Prop
 |nil:zF C []| cons {t x l} (h:C t=some x) (k:zF C l):zF C ((t,x)::l)
def aep{β:Nat->Nat}{x y:dQ}(h:tV x y)(ab:e2 β x v):e2 β y v:=by
 cases h with
 |refl=>exact ab| lit=>exact ab| nC=>trivial
def lu.ok{β:Nat->Nat}{F:Fr}(h:∀ t,e2 β (F t) (a.tmps.getD t undef)){l:List (Nat×dQ)}(ap:lu F l)(t:Nat):e2 β (rE l t) (a.tmps.getD t undef):=by
 induction ap with
 |nil=>trivial
 | @cons dt x l ab k a7=>
  unfold rE;by_cases e:t=dt;·subst e;simp only[rB,bh];exact aep ab (h t)
  ·simp only[hy e,bf];exact a7
def zF.ok{C:d'}{l:List (Nat×List Value)}(ap:zF C l){s:Nat}{cs:List Value}(h:rF l s=some cs):C s=some cs:=by
 induction ap with
 |nil=>cases h
 | @cons dt x l ab k a7=>
  unfold rF at h;by_cases e:s=dt;·subst e;simp only[rB,bh]at h;rw[ab,h]
  ·simp only[hy e,bf]at h;exact a7 h
def cR.aW{X:c7}{β:Nat->Nat}{F:Fr}{C:d'}{I:aR}{M:List aI}(h:cR X β a w F C I M){bx:List (Nat×dQ)}{cl:List (Nat×List Value)}(bB:lu F bx)(ov:zF C cl):cR X β a w (rE bx) (rF cl) I M:=
 { h with
  al:=bB.ok h.al
  cw:=λs cs ar=>h.cw s cs (ov.ok ar)
  inj:=λs ct U aa=>by
   obtain⟨eY,az⟩:=JF.1 U;obtain⟨dS,aF⟩:=JF.1 aa;exact h.inj s ct (by rw[ov.ok az];simp) (by rw[ov.ok aF];simp) }
inductive vq where
 |normal| exit (id:Nat)| goto (l:Nat)| ret
abbrev lv:=vq->gp
def BE(N:gp)(K:lv):lv
 | .normal=>N| .exit id=>K (.exit id)| .goto l=>K (.goto l)| .ret=>K .ret
def Us(id:Nat)(K:lv):lv
 | .normal=>K .normal| .exit j=>bif Nat.beq j id then K .normal else K (.exit j)| .goto l=>K (.goto l)| .ret=>K .ret
def mV(X:c7)(K:lv):Exit->Act->World->Prop
 | .normal,a,w=>Sat X (K .normal) a w| .exit id,a,w=>Sat X (K (.exit id)) a w| .goto l,a,w=>Sat X (K (.goto l)) a w| .ret,a,w=>Sat X (K .ret) a w| .panic _,_,_=>False| .outgrown,_,_=>False
abbrev Body:=Fr->d'->aR->List aI->lv->Prop
structure yo where
 bx:List (Nat×dQ)
 cl:List (Nat×List Value):=[]
 c2:aR
 du:List aI:=[]
inductive qy{ι:Type}(cu:List Nat)(aB:ι->yo)(p:ι->Prop)(F:Fr)(C:d')(I:aR)(M:List aI):Prop
 |mk(j:ι)(aD:p j)(hw:jP cu I M (aB j).c2 (aB j).du)(bB:lu F (aB j).bx)(ov:zF C (aB j).cl)
def NW(body:Body)(K:lv):Nat->gp
 |0=>λ_ _ _ _=>False
 |n+1=>λF C I M=>body F C I M (BE (NW body K n) K)
inductive dG(cu:List Nat)(body:Body)(F:Fr)(C:d')(I:aR)(M:List aI)(K:lv):Prop
 |inv {ι:Type} (aB:ι->yo) (inv:ι->Prop) (μ:ι->Nat) (start:qy cu aB inv F C I M) (round:∀ i,inv i->body (rE (aB i).bx) (rF (aB i).cl) (aB i).c2 (aB i).du (BE (qy cu aB λj=>inv j/\μ j<μ i) K))| aeq (n:Nat) (h:NW body K n F C I M)| DQ {ι:Type} (aB:ι->yo) (inv:ι->Prop) (μ:ι->Nat) (start:tL I M->qy cu aB inv F C I M) (round:∀ i,inv i->body (rE (aB i).bx) (rF (aB i).cl) (aB i).c2 (aB i).du (BE (λF C I M=>tL I M->qy cu aB (λj=>inv j/\μ j<μ i) F C I M) K))
inductive c4(X:c7)(c:Code)(F:Fr)(C:d')(I:aR)(M:List aI)(K:lv):Prop
 |mk(h:∀ a w,Rel X a w F C I M->c.wpIn (hq X) 0 X.P (mV X K) a w)
inductive aer(cu:List Nat)(F:Fr)(C:d')(I:aR)(M:List aI)(K:gp):Prop
 |go(h:K F C I M)| JT (l:yo) (hw:jP cu I M l.c2 l.du) (bB:lu F l.bx) (ov:zF C l.cl) (h:K (rE l.bx) (rF l.cl) l.c2 l.du)
def V(X:c7):Code->Fr->d'->aR->List aI->lv->Prop
 | .skip,F,C,I,M,K=>K .normal F C I M| .label l,F,C,I,M,K=>bif Nat.ble 2 l then aer X.cu F C I M (K .normal)else K .normal F C I M| .ret,F,C,I,M,K=>K .ret F C I M| .exit id,F,C,I,M,K=>K (.exit id) F C I M| .goto l,F,C,I,M,K=>K (.goto l) F C I M| .seq x y,F,C,I,M,K=>V X x F C I M (BE (λF C I M=>V X y F C I M K) K)| .block id c,F,C,I,M,K=>V X c F C I M (Us id K)
 | .cond c x y,F,C,I,M,K=>
  match dD F c with
  | .lit b=>bif b then V X x F C I M K else V X y F C I M K| .val (.bool b)=>aJ b (V X x F C I M K) (V X y F C I M K)| _=>False
 | .loop c,F,C,I,M,K=>dG X.cu (V X c) F C I M K| .region _ ops false,F,C,I,M,K=>vm X ops.toList ops.toList F C I M (K .normal)| .region id ops true,F,C,I,M,K=>c4 X (.region id ops true) F C I M K| .rangeFunc f ps fD body,F,C,I,M,K=>c4 X (.rangeFunc f ps fD body) F C I M K| .scope c,F,C,I,M,K=>c4 X (.scope c) F C I M K| .refuse _,_,_,_,_,_=>False
def zG(n:Nat)(ops:Array Oper):Bool:=ops.toList.all λo=>match o.dst with
 |some d=>Nat.blt d n| none=>true
def codeOk(n:Nat):Code->Bool
 | .seq x y=>codeOk n x&&codeOk n y| .block _ c=>codeOk n c| .cond _ x y=>codeOk n x&&codeOk n y| .loop c=>codeOk n c| .region _ ops _=>zG n ops| _=>true
def JU(h:zG n ops=true):∀ o∈ops.toList,∀ d,o.dst=some d->d<n:=by intro o au d ag;have:=gh.1 h o au;rw[ag]at this;simpa using this
def mV.then{X:c7}{N:gp}{K:lv}(aw:∀ a w,Sat X N a w->next a w):∀ e a w,mV X (BE N K) e a w->Exit.then next (mV X K) e a w:=by
 intro e a w h;cases e<;>first | exact aw _ _ h | exact h
def JV{sM:Fence}{Q:Exit->Act->World->Prop}(J:Nat->Act->World->Prop)(aes:J m a w)
  (round:∀ m a w,J m a w->c.wpIn sM n P (Exit.then (λa' w'=>∃ m',m'<m/\J m' a' w') Q) a w):(Code.loop c).wpIn sM n P Q a w:=by
 intro b k cs mm ah ai;have key:∀ j a w,J j a w->∃ e a' w',Q e a' w'/\ArrivesIn (Machine.fenced P sM) P (lone (b.atR a (.code c::.inLoop c::k)) cs w) b k cs e a' w':=by
  intro j
  induction j using Nat.strongRecOn with
  |_ j a7=>
   intro a w bL;obtain⟨e,kk,kl,ay,jg⟩:=round j a w bL b (.inLoop c::k) cs mm ah ai;cases e with
   |normal=>obtain⟨m',aS,aet⟩:=ay;obtain⟨Gh,Gi,Gj,Gk,Gl⟩:=a7 m' aS kk kl aet;exact⟨Gh,Gi,Gj,Gk,.of_steps (StepsIn.trans jg (.one (fenced_calm ah ai rfl) stepR_inLoop)) Gl⟩
   |exit id=>exact⟨_,kk,kl,ay,.pass (x:=.inLoop c) rfl (λ_ _=>.inl (by simp)) jg⟩| goto l=>exact⟨_,kk,kl,ay,.pass (x:=.inLoop c) rfl (λ_ _=>.inl (by simp)) jg⟩| ret=>exact⟨_,kk,kl,ay,.pass (x:=.inLoop c) rfl (λ_ _=>.inl (by simp)) jg⟩| panic qz=>exact⟨_,kk,kl,ay,.pass (x:=.inLoop c) rfl (λ_ _=>.inl (by simp)) jg⟩| outgrown=>exact⟨_,kk,kl,ay,.pass (x:=.inLoop c) rfl (λ_ _=>.inl (by simp)) jg⟩
 obtain⟨e,a',w',ay,jg⟩:=key _ a w aes;exact⟨e,a',w',ay,.of_steps (.one (fenced_calm ah ai rfl) stepR_loop) jg⟩
def rG{X:c7}(aO:c6 X.P X.E):∀ (c:Code) {F C I M K a w},codeOk X.n c=true->Rel X a w F C I M->V X c F C I M K->c.wpIn (hq X) 0 X.P (mV X K) a w
 | .skip,F,C,I,M,K,a,w,_,a4,ak=>wpIn_skip ⟨F,C,I,M,a4,ak⟩
 | .label l,F,C,I,M,K,a,w,_,a4,ak=>by
  refine wpIn_label ?_;simp only[V]at ak;cases ap:Nat.ble 2 l with
  |false=>rw[ap]at ak;exact⟨F,C,I,M,a4,ak⟩
  |true=>
   rw[ap]at ak;simp only[bh]at ak;cases ak with
   |go h=>exact⟨F,C,I,M,a4,h⟩| JT l hw bB ov h=>obtain⟨β,ai⟩:=a4;exact⟨_,_,_,_,⟨β,(ai.aW bB ov).iH hw⟩,h⟩
 | .ret,F,C,I,M,K,a,w,_,a4,ak=>wpIn_ret ⟨F,C,I,M,a4,ak⟩| .exit id,F,C,I,M,K,a,w,_,a4,ak=>wpIn_exit ⟨F,C,I,M,a4,ak⟩| .goto l,F,C,I,M,K,a,w,_,a4,ak=>wpIn_goto ⟨F,C,I,M,a4,ak⟩| .seq x y,F,C,I,M,K,a,w,bb,a4,ak=>by simp only[codeOk,cp]at bb;refine wpIn_seq (wpIn_mono (rG aO x bb.1 a4 ak) (mV.then ?_));rintro a w⟨eD,C',I',M',ai,ae⟩;exact rG aO y bb.2 ai ae
 | .block id c,F,C,I,M,K,a,w,bb,a4,ak=>by
  refine wpIn_block (wpIn_mono (rG aO c bb a4 ak) ?_);intro e a w h;cases e with
  |exit j=>
   simp only[mV,Us]at h;simp only[Exit.inBlock];by_cases e:j=id;·subst e;simp only[rB,bh]at h;rw[cG rfl];exact h
   ·simp only[hy e,bf]at h;rw[ca e];exact h
  |_=>exact h
 | .cond c x y,F,C,I,M,K,a,w,bb,a4,ak=>by
  simp only[codeOk,cp]at bb;obtain⟨β,ai⟩:=a4;simp only[V]at ak;split at ak
  ·rename_i b ah;have aN:=NM ai.al ah;refine wpIn_cond aN ?_;cases b
   ·exact rG aO y bb.2 ⟨β,ai⟩ ak
   ·exact rG aO x bb.1 ⟨β,ai⟩ ak
  ·rename_i b ah;have aN:=vn ai.al ah;refine wpIn_cond aN ?_;obtain⟨U,aa⟩:=ak;cases b
   ·exact rG aO y bb.2 ⟨β,ai⟩ (aa rfl)
   ·exact rG aO x bb.1 ⟨β,ai⟩ (U rfl)
  ·exact ak.elim
 | .loop c,F,C,I,M,K,a,w,bb,a4,ak=>by
  have a7:=@rG X aO c;simp only[V]at ak;have hinv:∀ {ι:Type} (aB:ι->yo) (inv:ι->Prop) (μ:ι->Nat) (start:tL I M->qy X.cu aB inv F C I M)
    (round:∀ i,inv i->V X c (rE (aB i).bx) (rF (aB i).cl) (aB i).c2 (aB i).du (BE (λF C I M=>tL I M->qy X.cu aB (λj=>inv j/\μ j<μ i) F C I M) K)),(Code.loop c).wpIn (hq X) 0 X.P (mV X K) a w:=by
   intro ι aB inv μ start round;let J (m:Nat) (a:Act) (w:World):Prop:=∃ i,inv i/\μ i=m/\Rel X a w (rE (aB i).bx) (rF (aB i).cl) (aB i).c2 (aB i).du
   have zH:∀ {p:ι->Prop} {a w},(∀ i,p i->inv i)->Sat X (λF C I M=>tL I M->qy X.cu aB p F C I M) a w->∃ i,p i/\J (μ i) a w:=by rintro p a w aD⟨F,C,I,M,⟨β,ai⟩,hH⟩;obtain⟨j,sN,hw,bB,ov⟩:=hH ⟨ai.holds.d,ai.holds.cd⟩;exact⟨j,sN,j,aD j sN,rfl,β,(ai.aW bB ov).iH hw⟩
   obtain⟨i0,_,Gm⟩:=zH (λ_ h=>h) ⟨F,C,I,M,a4,start⟩;refine JV J Gm ?_;rintro m a w⟨i,hi,rfl,ai⟩;refine wpIn_mono (a7 bb ai (round i hi)) ?_;intro e a w h;cases e with
   |normal=>obtain⟨j,⟨aj,aS⟩,bZ⟩:=zH (λ_ h=>h.1) h;exact⟨_,aS,bZ⟩
   |_=>exact h
  cases ak with
  | @inv ι aB inv μ start round=>
   let J (m:Nat) (a:Act) (w:World):Prop:=∃ i,inv i/\μ i=m/\Rel X a w (rE (aB i).bx) (rF (aB i).cl) (aB i).c2 (aB i).du
   have zH:∀ {p:ι->Prop} {a w},(∀ i,p i->inv i)->Sat X (qy X.cu aB p) a w->∃ i,p i/\J (μ i) a w:=by rintro p a w aD⟨F,C,I,M,⟨β,ai⟩,⟨j,sN,hw,bB,ov⟩⟩;exact⟨j,sN,j,aD j sN,rfl,β,(ai.aW bB ov).iH hw⟩
   obtain⟨i0,_,Gm⟩:=zH (λ_ h=>h) ⟨F,C,I,M,a4,start⟩;refine JV J Gm ?_;rintro m a w⟨i,hi,rfl,ai⟩;refine wpIn_mono (a7 bb ai (round i hi)) ?_;intro e a w h;cases e with
   |normal=>obtain⟨j,⟨aj,aS⟩,bZ⟩:=zH (λ_ h=>h.1) h;exact⟨_,aS,bZ⟩
   |_=>exact h
  |DQ aB inv μ start round=>exact hinv aB inv μ start round
  |aeq n h=>
   refine JV (λm a w=>Sat X (NW (V X c) K m) a w) ⟨F,C,I,M,a4,h⟩ ?_;rintro m a w⟨F,C,I,M,ai,ae⟩;cases m with
   |zero=>exact ae.elim
   |succ m=>
    refine wpIn_mono (a7 bb ai ae) ?_;intro e a w h;cases e with
    |normal=>exact⟨m,zz m,h⟩| _=>exact h
 | .region id ops false,F,C,I,M,K,a,w,bb,a4,ak=>by refine wpIn_region ?_;have:=Ur (K:=K .normal) (Q:=mV X K) aO ops (λ_ _ h=>h) ops.toList 0 (by simp) (JU bb) a4 ak;simpa[DG]using this
 | .region id ops true,F,C,I,M,K,a,w,bb,a4,⟨ak⟩=>ak a w a4| .rangeFunc f ps fD body,F,C,I,M,K,a,w,bb,a4,⟨ak⟩=>ak a w a4| .scope c,F,C,I,M,K,a,w,bb,a4,⟨ak⟩=>ak a w a4| .refuse _,F,C,I,M,K,a,w,bb,a4,ak=>ak.elim
def yp(args:List Value):Fr:=λt=>match args[t]? with
 |some v=>.val v| none=>.nC
def pS(X:c7)(F:Fr)(C:d')(I:aR)(M:List aI):List ResultVar->(List Value->Prop)->Prop
 |[],K=>K []
 | .tmp t::l,K=>match bG F (.tmp t)with
  | .val v=>pS X F C I M l λvs=>K (v::vs)
  |_=>False
 | .cell t ty::l,K=>match dD F (.tmp t),X.E ty with
  | .ref s off,some i=>(match C s with
   |some cs=>bif Nat.ble (off+i.size) cs.length then pS X F C I M l λvs=>K (pack i.bO.agg ((cs.drop off).take i.size)::vs)else False
   |none=>False)
  | .val (.pointer (some a)),some i=>aK I M a i.size λws=>pS X F C I M l λvs=>K (pack i.bO.agg ws::vs)
  |_,_=>False
inductive wM(cu:List Nat)(I:aR)(M:List aI)(post:aR->List aI->Prop):Prop
 |mk(I':aR)(M':List aI)(hw:jP cu I M I' M')(h:post I' M')
def wN(X:c7)(bg:List ResultVar)(post:Value->aR->List aI->Prop):lv:=λex F C I M=>
 let done:Prop:=pS X F C I M bg λvs=>match vs with
  |[v]=>wM X.cu I M (post v)| vs=>wM X.cu I M (post (.tuple vs.toArray))
 match ex with
 | .normal=>done| .ret=>done| _=>False
def DR(tmps:Array Value):ResultVar->Sem Value
 | .tmp t=>pure (tmps.getD t undef)| .cell a t=>do loadVar t (<-asAddr (tmps.getD a undef))
def aeu(fn:Func)(tmps:Array Value):results fn tmps=(do let vs <-fn.results.mapM (DR tmps);pure (if h:vs.size=1 then vs[0]else .tuple vs)):=by unfold results;congr 1
def JW{X:c7}(aO:c6 X.P X.E){β:Nat->Nat}{a:Act}{w:World}{F:Fr}{C:d'}{I:aR}{M:List aI}(h:cR X β a w F C I M):∀ {bg:List ResultVar} {K:List Value->Prop},pS X F C I M bg K -> ∃ vs,K vs/\(bg.mapM (DR a.tmps)).run X.P w=.ok vs w
 |[],K,ak=>⟨[],ak,rfl⟩
 | .tmp t::l,K,ak=>by
  unfold pS at ak;split at ak;·rename_i v U;have az:a.tmps.getD t undef=v:=dk h.al U;obtain⟨vs,ae,aF⟩:=JW aO h ak;refine⟨_,ae,?_⟩;simp only[F6,DR,cy,dc,cc,aF,az]
  ·exact ak.elim
 | .cell t ty::l,K,ak=>by
  unfold pS at ak;split at ak
  ·rename_i s off i U hi;have az:a.tmps.getD t undef=.pointer (some ⟨β s,off,none⟩):=Bs h.al U;split at ak
   ·rename_i cs ar;cases bn:Nat.ble (off+i.size) cs.length with
    |false=>rw[bn]at ak;exact ak.elim| true=>rw[bn]at ak;obtain⟨vs,ae,aF⟩:=JW aO h ak;have qx:=b0 bn;obtain⟨T,bM⟩:=(h.cw s cs ar).an;have bo:=JP (aO _ _ hi) (a:=⟨β s,off,none⟩) rfl bM (vs:=(cs.drop off).take i.size) (by simp) (by simp;omega);refine⟨_,ae,?_⟩;simp only[F6,DR,cy,dc,cc,aF,az,asAddr,bo]
   ·exact ak.elim
  ·rename_i ad i U hi;have az:a.tmps.getD t undef=.pointer (some ad):=vn h.al U;obtain⟨ws,⟨cg,cs,T,al,cY,iS,ap⟩,ak⟩:=ak;obtain⟨vs,ae,aF⟩:=JW aO h ak;have bo:=JP (aO _ _ hi) cg (cY.heap h.holds) iS ap;refine⟨_,ae,?_⟩;simp only[F6,DR,cy,dc,cc,aF,az,asAddr,bo]
  ·exact ak.elim
def aev{X:c7}(aO:c6 X.P X.E){β:Nat->Nat}{F:Fr}{C:d'}{I:aR}{M:List aI}(h:cR X β a w F C I M){K:List Value->Prop}(ak:pS X F C I M fn.results.toList K) :
  ∃ vs,K vs/\(results fn a.tmps).run X.P w=.ok (match vs with | [v]=>v | vs=>.tuple vs.toArray) w:=by
 obtain⟨vs,ae,e⟩:=JW aO h ak;refine⟨vs,ae,?_⟩;rw[aeu];have az:(fn.results.mapM (DR a.tmps)).run X.P w=.ok vs.toArray w:=by rw[T7,Sem.run_map,e];rfl
 simp only[cy,az,cc,dc]
 match vs with
 |[]=>rfl| [v]=>rfl| u::v::l=>simp
def Ut{sM:Fence}{n:Nat}{P:Program}{fn:Func}{tmps:Array Value}{R:Ending->World->Prop}:∀ (bg:List Nat) (w:World),bg.Nodup->(∀ r∈bg,w.heap[r]?=some (.deferred (some []))) -> (∀ w':World,w'.heap.size=w.heap.size->(∀ b,b ∉ bg->w'.heap[b]?=w.heap[b]?)->o1 w w'->∃ v,(results fn tmps).run P w'=.ok v w'/\R (.returned v) w')->LeavesInM sM n P fn tmps R (bg.map yh) .returning w
 |[],w,_,_,h=>h w rfl (λ_ _=>rfl) (.refl _)
 |r::bg,w,cf,ai,h=>by
  rw[nB]at cf;refine⟨by simp,.inl ⟨r,_,rfl,run_takeDeferred (ai r (by simp)),?_⟩⟩;refine Ut bg _ cf.2 (λvr hR=>?_) λw' ar ah au=>h w' (by rw[ar];simp) (λb BF=>?_) ((JN _ _ _).trans au);·have bH:vr≠r:=λe=>cf.1 (e ▸ hR);rw[nz bH];exact ai vr (by simp[hR])
  ·simp only[eL,not_or]at BF;rw[ah b BF.2,nz BF.1]
def cR.take{X:c7}{β:Nat->Nat}{F:Fr}{C:d'}{I:aR}{M:List aI}(h:cR X β a w F C I M){bg:List Nat}(iJ:∀ r∈bg,wI X w I M r)(ar:w'.heap.size=w.heap.size)(ah:∀ b,b ∉ bg->w'.heap[b]?=w.heap[b]?)(au:o1 w w') :
  cR X β { a with defers:=[] } w' F C I M:=by
 exact {
  size:=h.size
  defers:=⟨[],rfl,Bp,λr ai=>by cases ai⟩
  holds:={
   i:=λb o jQ=>by rw[ah b (λai=>by have:=(iJ b ai).kf;rw[jQ]at this;cases this)];exact h.holds.i b o jQ
   m:=λx ab=>by rw[ah _ (λai=>(iJ _ ai).e3 x ab rfl)];exact h.holds.m x ab
   d:=h.holds.d
   cd:=h.holds.cd }
  al:=h.al
  cw:=λs cs mo=>by have rH:=h.cw s cs mo;obtain⟨T,bM⟩:=rH.an;refine { rH with an:=⟨T,?_⟩ };rw[ah _ (λai=>by have:=(iJ _ ai).an;rw[bM]at this;cases this)];exact bM
  inj:=h.inj
  iy:=h.iy
  h2:=h.h2
  own:=h.own
  dg:=λb aS aC=>by rw[ah _ (λai=>by have:=(iJ _ ai).aW;omega)];exact h.dg b aS aC
  out:=h.out.trans au
  sz:=by rw[ar];exact h.sz }
def mV.ret{X:c7}(aO:c6 X.P X.E){post:Value->aR->List aI->Prop}
  (a4:∀ v I M (w:World) (a:Act) (F:Fr) (C:d'),Rel X a w F C I M->post v I M->R (.returned v) w):∀ e a w,mV X (wN X fn.results.toList post) e a w->bodyPostM (hq X) 0 X.P fn R e a w:=by
 have main:∀ a w,Sat X (wN X fn.results.toList post .ret) a w->LeavesInM (hq X) 0 X.P fn a.tmps R a.defers .returning w:=by
  rintro a w⟨F,C,I,M,⟨β,ai⟩,ae⟩;simp only[wN]at ae;obtain⟨bg,ag,cf,hm⟩:=ai.defers;rw[ag];refine Ut bg w cf (λr fj=>(hm r fj).an) λw' ar ah au=>?_;have hR:=ai.take hm ar ah au;obtain⟨vs,aD,e'⟩:=aev aO hR ae;refine⟨_,e',?_⟩
  match vs,aD with
  |[],⟨I',M',hw,aD⟩=>exact a4 _ I' M' w' _ F C ⟨β,hR.iH hw⟩ aD| [v],⟨I',M',hw,aD⟩=>exact a4 _ I' M' w' _ F C ⟨β,hR.iH hw⟩ aD| u::v::l,⟨I',M',hw,aD⟩=>exact a4 _ I' M' w' _ F C ⟨β,hR.iH hw⟩ aD
 intro e a w h;cases e with
 |normal=>exact main a w h| ret=>exact main a w h| exit id=>obtain⟨F,C,I,M,_,ae⟩:=h;exact ae.elim
 |goto l=>obtain⟨F,C,I,M,_,ae⟩:=h;exact ae.elim
 |panic _=>exact h.elim| outgrown=>exact h.elim
def aew(aC:P.funcs[f]?=some fn)(ah:fn.body.isSome=true)(aw:(fn.name == "runtime.NumGoroutine")=false):NJ P f:=by
 intro args w;have gV:fn.body.isNone=false:=by cases h:fn.body<;>simp_all
 simp only[callFunc,cy,run_program,cc,aC,aw,lq,mh,gV];rfl
def NX{E:Env}(g5:List Nat)(aO:c6 P E)(aC:P.funcs[f]?=some fn)(ah:fn.body=some c)(aw:(fn.name == "runtime.NumGoroutine")=false)
 (bb:(codeOk fn.ntmps c&&Nat.ble args.length fn.ntmps)=true) {I:aR} {M:List aI} {post:Value->aR->List aI->Prop}
  (h:∀ B ao a w,Rel ⟨P,E,g5,fn.ntmps,B,ao,I,M.map (·.num),none⟩ a w (yp args) (λ_=>none) I M->c.wpIn (hq ⟨P,E,g5,fn.ntmps,B,ao,I,M.map (·.num),none⟩) 0 P (mV ⟨P,E,g5,fn.ntmps,B,ao,I,M.map (·.num),none⟩ (wN ⟨P,E,g5,fn.ntmps,B,ao,I,M.map (·.num),none⟩ fn.results.toList post)) a w) :
  yf P f args I M post:=by
 rw[cp]at bb;have b3:=b0 bb.2;refine⟨aew aC (by rw[ah];rfl) aw,λw lU=>?_⟩;let X:c7:=⟨P,E,g5,fn.ntmps,w.heap.size,w,I,M.map (·.num),none⟩
 have Gn:Rel X { tmps:=args.toArray++Array.replicate (fn.ntmps-args.toArray.size) undef,defers:=[] } w (yp args) (λ_=>none) I M:=⟨λ_=>0,{
  size:=by simp[X];omega
  defers:=⟨[],rfl,Bp,λr ai=>by cases ai⟩
  holds:=lU
  al:=λt=>by
   unfold yp;cases av:args[t]? with
   |none=>trivial| some v=>have aS:t<args.length:=(kc.1 av).1;simp only[e2,pN];rw[Array.getElem?_append_left (by simpa using aS)];simp[av]
  cw:=λs cs ar=>by cases ar
  inj:=λs ct U=>by simp at U
  iy:=λb o ah=>ah
  h2:=λb o ah=>.inl ah
  own:=λx ab=>.inl (dC.2 ⟨x,ab,rfl⟩)
  dg:=λb ah aC=>rfl
  out:=.refl _
  sz:=bY _ }⟩
 have JX:=h w.heap.size w _ _ Gn;refine(callsIn_wide (n:=0)).1 ?_;have aex:hq X=Fence.wide:=rfl;rw[aex]at JX;refine callsIn_of_wp_marks aC ah trivial (wpIn_mono JX (mV.ret (X:=X) aO ?_));rintro v I' M' w' a' eD C'⟨β,ai⟩aD;refine⟨v,I',M',rfl,aD,ai.holds,?_⟩;exact {
  le:=ai.iy
  vk:=ai.h2
  wH:=λx ab=>by
   rcases ai.own x ab with U | U;·obtain⟨y,aH,e⟩:=dC.1 U;exact .inl ⟨y,aH,e⟩
   ·exact .inr U
  dg:=λb ah bH=>ai.dg b ah (λhm=>by
   obtain⟨y,aH,e⟩:=dC.1 hm;exact bH y aH e)
  out:=ai.out
  sz:=ai.sz }
def Gp{E:Env}(g5:List Nat)(aO:c6 P E)(aC:P.funcs[f]?=some fn)(ah:fn.body=some c)(aw:(fn.name == "runtime.NumGoroutine")=false)
 (bb:(codeOk fn.ntmps c&&Nat.ble args.length fn.ntmps)=true) {I:aR} {M:List aI} {post:Value->aR->List aI->Prop}
  (h:∀ B ao,V ⟨P,E,g5,fn.ntmps,B,ao,I,M.map (·.num),none⟩ c (yp args) (λ_=>none) I M (wN ⟨P,E,g5,fn.ntmps,B,ao,I,M.map (·.num),none⟩ fn.results.toList post)) :
  yf P f args I M post:=
 NX g5 aO aC ah aw bb λB ao a w ai=>by rw[cp]at bb;exact rG aO c bb.1 ai (h B ao)
def b4{E:Env}(g5:List Nat)(aO:c6 P E)(aC:P.funcs[f]?=some fn)(ah:fn.body=some c)(aw:(fn.name == "runtime.NumGoroutine")=false)
 (bb:(codeOk fn.ntmps c&&Nat.ble args.length fn.ntmps)=true) {I:aR} {M:List aI} {post:Value->aR->List aI->Prop}
  (h:∀ B ao,V ⟨P,E,g5,fn.ntmps,B,ao,I,M.map (·.num),none⟩ c (yp args) (λ_=>none) I M (wN ⟨P,E,g5,fn.ntmps,B,ao,I,M.map (·.num),none⟩ fn.results.toList post)) :
  Spec P f args I M post:=.inl (Gp g5 aO aC ah aw bb h)
def JY(X:c7)(bg:List ResultVar)(post:Value->aR->List aI->Prop):lv:=λex F C I M=>
 let done:Prop:=pS X F C I M bg λvs=>match vs with
  |[v]=>tL I M->wM X.cu I M (post v)| vs=>tL I M->wM X.cu I M (post (.tuple vs.toArray))
 match ex with
 | .normal=>done| .ret=>done| _=>False
def JZ{X:c7}{F:Fr}{C:d'}{I:aR}{M:List aI}:∀ {bg:List ResultVar} {K zI:List Value->Prop},(∀ vs,K vs->zI vs)->pS X F C I M bg K->pS X F C I M bg zI
 |[],K,zI,h,ak=>h _ ak
 | .tmp t::l,K,zI,h,ak=>by
  unfold pS at ak |-;split at ak;·exact JZ (λvs=>h _) ak
  ·exact ak.elim
 | .cell t ty::l,K,zI,h,ak=>by
  unfold pS at ak |-;split at ak
  ·rename_i s off i U hi;split at ak
   ·rename_i cs ar;cases bn:Nat.ble (off+i.size) cs.length with
    |false=>rw[bn]at ak;exact ak.elim| true=>rw[bn]at ak;exact JZ (λvs=>h _) ak
   ·exact ak.elim
  ·obtain⟨ws,aV,ak⟩:=ak;exact⟨ws,aV,JZ (λvs=>h _) ak⟩
  ·exact ak.elim
def mV.aey{X:c7}{bg:List ResultVar}{post:Value->aR->List aI->Prop}:∀ e a w,mV X (JY X bg post) e a w->mV X (wN X bg post) e a w:=by
 have one:∀ a w,Sat X (JY X bg post .ret) a w->Sat X (wN X bg post .ret) a w:=by
  rintro a w⟨F,C,I,M,⟨β,ai⟩,h⟩;refine⟨F,C,I,M,⟨β,ai⟩,JZ (λvs ak=>?_) h⟩;have hH:tL I M:=⟨ai.holds.d,ai.holds.cd⟩
  match vs,ak with
  |[v],ak=>exact ak hH| [],ak=>exact ak hH| _::_::_,ak=>exact ak hH
 intro e a w h;cases e with
 |normal=>exact one a w h| ret=>exact one a w h| exit id=>obtain⟨F,C,I,M,ai,ae⟩:=h;exact ae.elim
 |goto l=>obtain⟨F,C,I,M,ai,ae⟩:=h;exact ae.elim
 |panic _=>exact h| outgrown=>exact h
def aez{E:Env}(g5:List Nat)(aO:c6 P E)(aC:P.funcs[f]?=some fn)(ah:fn.body=some c)(aw:(fn.name == "runtime.NumGoroutine")=false)
 (bb:(codeOk fn.ntmps c&&Nat.ble args.length fn.ntmps)=true) {I:aR} {M:List aI} {post:Value->aR->List aI->Prop}
  (h:∀ B ao,V ⟨P,E,g5,fn.ntmps,B,ao,I,M.map (·.num),none⟩ c (yp args) (λ_=>none) I M (JY ⟨P,E,g5,fn.ntmps,B,ao,I,M.map (·.num),none⟩ fn.results.toList post)) :
  yf P f args I M post:=
 NX g5 aO aC ah aw bb λB ao a w ai=>by rw[cp]at bb;exact wpIn_mono (rG aO c bb.1 ai (h B ao)) mV.aey
def Gq{E:Env}(g5:List Nat)(aO:c6 P E)(aC:P.funcs[f]?=some fn)(ah:fn.body=some c)(aw:(fn.name == "runtime.NumGoroutine")=false)
 (bb:(codeOk fn.ntmps c&&Nat.ble args.length fn.ntmps)=true) {I:aR} {M:List aI} {post:Value->aR->List aI->Prop}
  (h:∀ B ao,V ⟨P,E,g5,fn.ntmps,B,ao,I,M.map (·.num),none⟩ c (yp args) (λ_=>none) I M (JY ⟨P,E,g5,fn.ntmps,B,ao,I,M.map (·.num),none⟩ fn.results.toList post)) :
  Spec P f args I M post:=.inl (aez g5 aO aC ah aw bb h)
def NY:Value->Value->Bool
 | .bool a,.bool b=>a == b| .int k n,.int ed m=>IntKind.mT k ed&&decide (n=m)| .string s,.string t=>decide (s.data.toList=t.data.toList)| .pointer none,.pointer none=>true| .slice none 0 0,.slice none 0 0=>true| .map none,.map none=>true| .nilFunc,.nilFunc=>true| .nilIface,.nilIface=>true| _,_=>false
def aeA:∀ {a b:Value},NY a b=true->a=b:=by
 intro a b h;unfold NY at h;split at h
 ·simp at h;rw[h]
 ·simp only[cp,e5]at h;rw[IntKind.DL h.1,h.2]
 ·rename_i s t;simp only[e5]at h;have:s=t:=by cases s;cases t;simp only[NF];exact g2 h
  rw[this]
 all_goals first | rfl | cases h
def J0:List Value->List Value->Bool
 |[],[]=>true| a::as,b::cO=>NY a b&&J0 as cO| _,_=>false
def Uu:∀ {a b:List Value},J0 a b=true->a=b
 |[],[],_=>rfl| a::as,b::cO,h=>by simp only[J0,cp]at h;rw[aeA h.1,Uu h.2]
 |[],_::_,h=>by cases h
 |_::_,[],h=>by cases h
def NZ(P:Program)(t:Nat)(i:ec):Bool:=
 (match P.info? t with
 |some inf=>decide (inf.size=i.size)&&decide (inf.bytes=i.bytes)&&(match inf.zero with
  |some z=>J0 z.cells.toList i.zero| none=>false)
 |none=>false) &&
 (match P.underlying t with
 |some d=>decide (fo d=i.bO)| none=>false)&&gU i.zero&&decide (i.zero.length=i.size)&&(i.bO.agg||decide (i.size=1))
def aeB{t:Nat}{i:ec}(h:NZ P t i=true):kJ P t i:=by
 simp only[NZ,cp]at h;obtain⟨⟨⟨⟨U,aa⟩,af⟩,aP⟩,bq⟩:=h;refine⟨?_,?_,zA af,bS aP,λaE=>?_⟩
 ·split at U
  ·rename_i inf hi;simp only[cp,e5]at U;obtain⟨⟨az,aF⟩,bo⟩:=U;split at bo
   ·rename_i z a9;exact⟨inf,z,hi,az,aF,a9,Uu bo⟩
   ·cases bo
  ·cases U
 ·split at aa
  ·rename_i d ag;exact⟨d,ag,bS aa⟩
  ·cases aa
 ·rw[aE]at bq;simpa using bq
def aeC{E:Env}(n:Nat)(aw:∀ t,n<=t->E t=none)(h:((List.range n).all λt=>match E t with
  |some i=>NZ P t i| none=>true)=true):c6 P E:=by
 intro t i hi;by_cases av:t<n
 ·have:=gh.1 h t (kI.2 av);rw[hi]at this;exact aeB this
 ·rw[aw t (by omega)]at hi;cases hi
end Go.V
namespace Go.V
variable{a:Act}{c:Code}{cu:List Nat}{P:Program}{f off d T sz h0 e n m fX bz bJ cj dN gi hp h1 ke qt sE vi yc Bq F8:Nat}{args vs z:List Value}{v:Value}{w' w:World}{cs:Array Value}{al:Nat×Nat}{R:Ending->World->Prop}{next:Act->World->Prop}{ad:Addr}{fY:IntKind}{ops:Array Oper}{fn:Func}
def yq{F:Fr}:lu F [(fX,F fX),(bz,F bz)]:=.cons .refl (.cons .refl (.nil))
def f'{F:Fr}:lu F [(fX,F fX),(bz,F bz),(bJ,F bJ)]:=.cons .refl (.cons .refl (.cons .refl (.nil)))
def fO{F:Fr}:lu F [(fX,F fX),(bz,F bz),(bJ,F bJ),(cj,F cj)]:=.cons .refl (.cons .refl (.cons .refl (.cons .refl (.nil))))
def hS{F:Fr}:lu F [(fX,F fX),(bz,F bz),(bJ,F bJ),(cj,F cj),(dN,F dN)]:=.cons .refl (.cons .refl (.cons .refl (.cons .refl (.cons .refl (.nil)))))
def km{F:Fr}:lu F [(fX,F fX),(bz,F bz),(bJ,F bJ),(cj,F cj),(dN,F dN),(gi,F gi)]:=.cons .refl (.cons .refl (.cons .refl (.cons .refl (.cons .refl (.cons .refl (.nil))))))
def ko{F:Fr}:lu F [(fX,F fX),(bz,F bz),(bJ,F bJ),(cj,F cj),(dN,F dN),(gi,F gi),(hp,F hp)]:=.cons .refl (.cons .refl (.cons .refl (.cons .refl (.cons .refl (.cons .refl (.cons .refl (.nil)))))))
def qA{F:Fr}:lu F [(fX,F fX),(bz,F bz),(bJ,F bJ),(cj,F cj),(dN,F dN),(gi,F gi),(hp,F hp),(h1,F h1)]:=.cons .refl (.cons .refl (.cons .refl (.cons .refl (.cons .refl (.cons .refl (.cons .refl (.cons .refl (.nil))))))))
def lV{F:Fr}:lu F [(fX,F fX),(bz,F bz),(bJ,F bJ),(cj,F cj),(dN,F dN),(gi,F gi),(hp,F hp),(h1,F h1),(ke,F ke)]:=.cons .refl (.cons .refl (.cons .refl (.cons .refl (.cons .refl (.cons .refl (.cons .refl (.cons .refl (.cons .refl (.nil)))))))))
def ar3{F:Fr}:lu F [(fX,F fX),(bz,F bz),(bJ,F bJ),(cj,F cj),(dN,F dN),(gi,F gi),(hp,F hp),(h1,F h1),(ke,F ke),(qt,F qt)]:=.cons .refl (.cons .refl (.cons .refl (.cons .refl (.cons .refl (.cons .refl (.cons .refl (.cons .refl (.cons .refl (.cons .refl (.nil))))))))))
def DS{F:Fr}:lu F [(fX,F fX),(bz,F bz),(bJ,F bJ),(cj,F cj),(dN,F dN),(gi,F gi),(hp,F hp),(h1,F h1),(ke,F ke),(qt,F qt),(sE,F sE)]:=.cons .refl (.cons .refl (.cons .refl (.cons .refl (.cons .refl (.cons .refl (.cons .refl (.cons .refl (.cons .refl (.cons .refl (.cons .refl (.nil)))))))))))
def ar4{F:Fr}:lu F [(fX,F fX),(bz,F bz),(bJ,F bJ),(cj,F cj),(dN,F dN),(gi,F gi),(hp,F hp),(h1,F h1),(ke,F ke),(qt,F qt),(sE,F sE),(vi,F vi)]:=.cons .refl (.cons .refl (.cons .refl (.cons .refl (.cons .refl (.cons .refl (.cons .refl (.cons .refl (.cons .refl (.cons .refl (.cons .refl (.cons .refl (.nil))))))))))))
def ar5{F:Fr}:lu F [(fX,F fX),(bz,F bz),(bJ,F bJ),(cj,F cj),(dN,F dN),(gi,F gi),(hp,F hp),(h1,F h1),(ke,F ke),(qt,F qt),(sE,F sE),(vi,F vi),(yc,F yc)]:=.cons .refl (.cons .refl (.cons .refl (.cons .refl (.cons .refl (.cons .refl (.cons .refl (.cons .refl (.cons .refl (.cons .refl (.cons .refl (.cons .refl (.cons .refl (.nil)))))))))))))
def Uv{F:Fr}:lu F [(fX,F fX),(bz,F bz),(bJ,F bJ),(cj,F cj),(dN,F dN),(gi,F gi),(hp,F hp),(h1,F h1),(ke,F ke),(qt,F qt),(sE,F sE),(vi,F vi),(yc,F yc),(Bq,F Bq)]:=.cons .refl (.cons .refl (.cons .refl (.cons .refl (.cons .refl (.cons .refl (.cons .refl (.cons .refl (.cons .refl (.cons .refl (.cons .refl (.cons .refl (.cons .refl (.cons .refl (.nil))))))))))))))
def aeD{F:Fr}:lu F [(fX,F fX),(bz,F bz),(bJ,F bJ),(cj,F cj),(dN,F dN),(gi,F gi),(hp,F hp),(h1,F h1),(ke,F ke),(qt,F qt),(sE,F sE),(vi,F vi),(yc,F yc),(Bq,F Bq),(F8,F F8)]:=.cons .refl (.cons .refl (.cons .refl (.cons .refl (.cons .refl (.cons .refl (.cons .refl (.cons .refl (.cons .refl (.cons .refl (.cons .refl (.cons .refl (.cons .refl (.cons .refl (.cons .refl (.nil)))))))))))))))
def ar6{F:Fr}{Uw:Nat}:lu F [(fX,F fX),(bz,F bz),(bJ,F bJ),(cj,F cj),(dN,F dN),(gi,F gi),(hp,F hp),(h1,F h1),(ke,F ke),(qt,F qt),(sE,F sE),(vi,F vi),(yc,F yc),(Bq,F Bq),(F8,F F8),(Uw,F Uw)]:=.cons .refl (.cons .refl (.cons .refl (.cons .refl (.cons .refl (.cons .refl (.cons .refl (.cons .refl (.cons .refl (.cons .refl (.cons .refl (.cons .refl (.cons .refl (.cons .refl (.cons .refl (.cons .refl (.nil))))))))))))))))
end Go.V
