/- Part 1 of what the proofs of this seat share: the executor, data in memory, walks.
-/
import Derived.WalkKit
import Derived.RangeFuncRecord
import Derived.OrdersIn
import Derived.Lib.UnsafeStr
set_option linter.all false
namespace Go.V
open Go
def bH:=@Nat.le_of_ble_eq_true
def bN:=@Result.andThen_ok
def b':=@Bool.and_eq_true
def dr:=@Nat.eq_of_beq_eq_true
def cO:=@List.mem_append
def bV:=@Sem.run_bind
def gD:=@List.take_succ_eq_append_getElem
def e6:=@List.drop_eq_getElem_cons
def cc:=@List.map_cons
def dc:=@List.map_append
def dV:=@of_decide_eq_true
def cG:=@List.mem_map
def cH:=@Sem.run_pure
def b0:=@cond_false
def ea:=@List.length_cons
def cI:=@Nat.le_refl
def bZ:=@cond_true
def ih:=@List.getElem?_eq_some_iff
def dW:=@List.mem_cons
def fL:=@List.all_eq_true
def j9:=@Array.getElem?_eq_some_iff
def hk:=@decide_eq_true_eq
def m9:=@Array.getD_eq_getD_getElem?
def lh:=@World.putObj_heap_other
def jF:=@Bool.false_eq_true
def jl:=@Option.some.injEq
def j':=@List.getElem?_take
def ca:=@if_neg
def iY:=@List.foldl_cons
def jG:=@Option.getD_some
def kx:=@Int.toNat_natCast
def mq:=@Nat.mul_le_mul_right
def ck:=@if_pos
def fZ:=@Array.ext'
def ka:=@Option.map_some
def kb:=@List.mem_range
def kN:=@List.nodup_cons
def na:=@List.getElem?_drop
def mr:=@List.getElem?_map
def qq:=@Option.map_eq_some_iff
def lj:=@Nat.le_trans
def oA:=@Nat.min_eq_left
def ms:=@Nat.add_zero
def zk:=@Array.getElem?_setIfInBounds
def rp:=@Option.getD_none
def sK:=@List.nodup_append
def rq:=@Bool.eq_iff_iff
def rr:=@Option.map_none
def rs:=@Oper.wpIn_mono
def qs:=@Nat.add_assoc
def ky:=@if_false
def zl:=@List.range_eq_range'
def sL:=@ByteArray.ext
def EP:=@Option.ne_none_iff_exists'
def tT:=@List.all_cons
def EQ:=@List.getElem?_cons_succ
def xu:=@World.alloc_eq
def ER:=@ByteArray.data_extract
def Iu:=@Array.getElem?_eq_getElem
def zm:=@List.nodup_nil
def Bw:=@Nat.lt_succ_self
def ES:=@Nat.lt_of_lt_of_le
def Bx:=@List.mapM_cons
def pE:=@Ne.symm
def pF:=@if_true
def Iv:=@List.toList_toArray
def By:=@Nat.add_comm
def Iw:=@Array.foldl_toList
def Ix:=@Option.isSome_none
def OS:=@Array.mapM_eq_mapM_toList
def ET:=@Oper.semAt_eq
def Iy:=@List.range'_succ
variable{a:Act}{c:Code}{foot:List Nat}{P:Program}{f off T sz gS e n m e7 cf dw dM gl jH kz lk mu nK pG ru tU xv Bz:Nat}{args vs z:List Value}{v:Value}{w' w:World}{cs:Array Value}{ak:Nat×Nat}{R:Ending->World->Prop}{next:Act->World->Prop}{aV:Addr}{fg:IntKind}{ops:Array Oper}{fn:Func}
inductive BA where
 |other | int (k:IntKind) | bool | string | slice (e:Nat) | array (n e:Nat) | struct (cb:List (Nat×Nat)) | map (k e:Nat) | pointer (e:Nat)
 deriving DecidableEq
def eR:TypeDesc->BA
 | .int k=>.int k| .bool=>.bool| .string=>.string| .slice e=>.slice e| .array n e=>.array n e| .struct cb=>.struct (cb.toList.map λf=>(f.type,f.offset))| .map k e=>.map k e| .pointer e=>.pointer e| _=>.other
def BA.agg:BA->Bool
 | .struct _ | .array ..=>true| _=>false
structure dt where
 size:Nat
 bytes:Nat
 zero:List Value
 bE:BA
structure iZ(P:Program)(t:Nat)(i:dt):Prop where
 inf:∃ inf z,P.info? t=some inf/\inf.size=i.size/\inf.bytes=i.bytes/\inf.zero=some z/\z.cells.toList=i.zero
 eW:∃ d,P.underlying t=some d/\eR d=i.bE
 one:∀ v∈i.zero,v.oneCell'=true
 len:i.zero.length=i.size
 EU:i.bE.agg=false->i.size=1
abbrev Env:=Nat->Option dt
def cw(P:Program)(E:Env):Prop:=∀ t i,E t=some i->iZ P t i
inductive dd where
 |val(v:Value)| lit (b:Bool)| ref (s off:Nat)| ll
abbrev Fr:=Nat->dd
abbrev dp:=Nat->Option (List Value)
abbrev aM:=Nat->Option Obj
structure aE where
 num:Nat
 obj:Obj
abbrev fD:=Fr->dp->aM->List aE->Prop
def fM(F:Fr)(d:Nat)(x:dd):Fr:=λt=>bif Nat.beq t d then x else F t
def hX(C:dp)(d:Nat)(x:Option (List Value)):dp:=λt=>bif Nat.beq t d then x else C t
def nL(F:Fr)(d:Nat):Fr:=λt=>match F t with
 | .ref s o=>bif Nat.beq s d then .ll else .ref s o| x=>x
def put(o:Option Nat)(x:dd)(F:Fr):Fr:=match o with
 |some d=>fM F d x| none=>F
def cR(F:Fr):Operand->dd
 | .tmp t=>F t| .const (.bool b)=>.lit b| .const v=>.val v| .global g=>.val (.pointer (some ⟨g,0,none⟩))| .func f=>.val (.func (.func f) #[] #[])
def cY(ρ:Operand->dd)(x:Operand):dd:=match ρ x with
 | .lit b=>.val (.bool b)| y=>y
abbrev bt(F:Fr):Operand->dd:=cY (cR F)
def pack(agg:Bool)(vs:List Value):Value:=bif agg then .agg vs.toArray else vs.headD undef
def bQ(cs:List Value)(off:Nat)(vs:List Value):List Value:=cs.take off++vs++cs.drop (off+vs.length)
def fN(vs:List Value):Bool:=vs.all (·.oneCell')
def EV(c:Bool):dd->dd->dd
 | .val (.bool x),.val (.bool y)=>.val (.bool (bif c then x else y))| .val x,.val y=>.val (bif c then x else y)| _,_=>.ll
def tV(op:BinOp)(x y:Int):Option Bool:=match op with
 | .eql=>some (decide (x=y))| .neq=>some (!decide (x=y))| .lss=>some (decide (x<y))| .leq=>some (decide (x<=y))| .gtr=>some (decide (y<x))| .geq=>some (decide (y<=x))| _=>none
def rv(op:BinOp)(k:IntKind)(x y:Int):Option Int:=
 let a:=BitVec.ofInt k.bits x
 let b:=BitVec.ofInt k.bits y
 match op with
 | .and=>some (k.wrap (a &&& b).toNat)| .or=>some (k.wrap (a ||| b).toNat)| .xor=>some (k.wrap (a ^^^ b).toNat)| .andNot=>some (k.wrap (a &&& ~~~b).toNat)| _=>none
def g8(I:aM)(M:List aE)(b:Nat)(o:Obj):Prop:=I b=some o\/∃ x∈M,x.num=b/\x.obj=o
def c7(I:aM)(M:List aE)(a:Addr)(n:Nat)(vs:List Value):Prop:=
 a.spot=none/\∃ cs T ak,g8 I M a.block (.cells cs T ak)/\(cs.toList.drop a.off).take n=vs/\vs.length=n
inductive aZ(I:aM)(M:List aE)(a:Addr)(n:Nat)(K:List Value->Prop):Prop
 |mk(vs:List Value)(h:c7 I M a n vs)(k:K vs)
inductive cn(M:List aE)(a:Addr)(vs:List Value)(K:List aE->Prop):Prop
 |mk(a5 post:List aE)(cs:Array Value)(T:Nat)(a3:M=a5++⟨a.block,.cells cs T (0,0)⟩::post)(ar:a.spot=none)(ah:a.off+vs.length<=cs.size)(aa:fN vs=true)(k:K (a5++⟨a.block,.cells (bQ cs.toList a.off vs).toArray T (0,0)⟩::post))
inductive cJ(I:aM)(M:List aE)(K:Nat->Prop):Prop
 |mk(k:∀ b,I b=none->(∀ x∈M,x.num≠b)->K b)
inductive bu(a:Option Addr)(n sz:Nat)(k:Int)(K:Addr->Prop):Prop
 |mk(aV:Addr)(j:Nat)(aY:a=some aV)(ae:k=(j:Int))(ai:j<n)(h:K (aV.add (j*sz)))
inductive dP(n:Nat)(k:Int)(K:Nat->Prop):Prop
 |mk(j:Nat)(ae:k=(j:Int))(ai:j<n)(h:K j)
inductive xw(s:ByteArray)(k:Int)(K:UInt8->Prop):Prop
 |mk(j:Nat)(ae:k=(j:Int))(ai:j<s.size)(h:K s[j])
inductive bi(k:IntKind)(n:Int)(K:Int->Prop):Prop
 |mk(r:Int)(h:k.wrap n=r)(bq:K r)
inductive zn(y:Int)(K:Prop):Prop
 |mk(h:y≠0)(bq:K)
inductive tW(y:Int)(K:Nat->Prop):Prop
 |mk(j:Nat)(h:y=(j:Int))(bq:K j)
inductive a9(c:Bool)(X Y:Prop):Prop
 |mk(h:c=true->X)(bq:c=false->Y)
inductive oB(l c:Int)(bytes:Nat)(K:Nat->Nat->Prop):Prop
 |mk(n m:Nat)(av:l=(n:Int))(au:c=(m:Int))(h:n<=m)(ah:bytes*m<=140737488355328)(hm:m<=9223372036854775807)(k:K n m)
inductive Yi(c:Nat)(hi mx:Int)(K:Nat->Nat->Prop):Prop
 |mk(h m:Nat)(fO:hi=(h:Int))(hl:mx=(m:Int))(aa:h<=m)(ad:m<=c)(k:K h m)
inductive kA(n c:Nat)(lo hi:Option Int)(K:Nat->Nat->Prop):Prop
 |mk(l h:Nat)(dG:lo.getD 0=(l:Int))(fO:hi.getD n=(h:Int))(aa:l<=h)(ad:h<=c)(k:K l h)
structure dT(I:aM)(M:List aE)(w:World):Prop where
 i:∀ b o,I b=some o->w.heap[b]?=some o
 m:∀ x∈M,w.heap[x.num]?=some x.obj
 d:∀ x∈M,I x.num=none
 bX:(M.map (·.num)).Nodup
def mv(w w':World):Prop:=w'.os=w.os/\w'.output=w.output
def mv.refl(w:World):mv w w:=⟨rfl,rfl⟩
def mv.trans{a b c:World}(h:mv a b)(bq:mv b c):mv a c:=⟨bq.1.trans h.1,bq.2.trans h.2⟩
structure Kept(I:aM)(M:List aE)(w:World)(I':aM)(M':List aE)(w':World):Prop where
 le:∀ b o,I b=some o->I' b=some o
 ry:∀ b o,I' b=some o->I b=some o\/w.heap.size<=b
 sM:∀ x∈M',(∃ y∈M,y.num=x.num)\/w.heap.size<=x.num
 dA:∀ b,b<w.heap.size->(∀ y∈M,y.num≠b)->w'.heap[b]?=w.heap[b]?
 out:mv w w'
 sz:w.heap.size<=w'.heap.size
def Iz(P:Program)(f:Nat):Prop:=∀ (args:Array Value) (w:World),(callFunc f args).run P w=.ok (.enter f args) w
def sN(P:Program)(f:Nat)(args:List Value)(I:aM)(M:List aE)(post:Value->aM->List aE->Prop):Prop:=
 Iz P f/\∀ w,dT I M w->Calls P f args.toArray w λe w'=>∃ v I' M',e=.returned v/\post v I' M'/\dT I' M' w'/\Kept I M w I' M' w'
def Yj(P:Program)(f:Nat)(args:List Value)(I:aM)(M:List aE)(post:Value->aM->List aE->Prop):Prop:=
 ∀ w,dT I M w->∃ v w' I' M',(callFunc f args.toArray).run P w=.ok (.value v) w'/\post v I' M'/\dT I' M' w'/\Kept I M w I' M' w'
def Spec(P:Program)(f:Nat)(args:List Value)(I:aM)(M:List aE)(post:Value->aM->List aE->Prop):Prop:=sN P f args I M post\/Yj P f args I M post
def ins(I:aM)(b:Nat)(o:Obj):aM:=λx=>bif Nat.beq x b then some o else I x
inductive hY(foot:List Nat):aM->List aE->aM->List aE->Prop
 |refl{I M}:hY foot I M I M| sub {I M M1 I' M'} (h:List.Sublist M1 M) (k:hY foot I M1 I' M'):hY foot I M I' M'| perm {I M M1 I' M'} (h:M.Perm M1) (k:hY foot I M1 I' M'):hY foot I M I' M'| vt {I M I' M' b o post} (h:M=⟨b,o⟩::post) (az:b ∉ foot) (k:hY foot (ins I b o) post I' M'):hY foot I M I' M'
structure lX(I:aM)(M:List aE):Prop where
 d:∀ x∈M,I x.num=none
 bX:(M.map (·.num)).Nodup
inductive bd(foot:List Nat)(P:Program)(f:Nat)(args:List Value)(I:aM)(M:List aE)(K:Value->aM->List aE->Prop):Prop
 |mk(dH Mr:List aE)(post:Value->aM->List aE->Prop)(a3:M.Perm (dH++Mr))(ar:Spec P f args I dH post)(k:∀ v I' M',(∀ b o,I b=some o->I' b=some o)->post v I' M'->K v I' (M'++Mr))| IA (dH Mr:List aE) (post:Value->aM->List aE->Prop) (a3:M.Perm (dH++Mr)) (ar:Spec P f args I dH post) (k:∀ v I' M',(∀ b o,I b=some o->I' b=some o)->(∀ x∈M'++Mr,I' x.num=none)->post v I' M'->K v I' (M'++Mr))| BB (cT:aM) (dH Mr:List aE) (post:Value->aM->List aE->Prop) (hw:hY foot I M cT (dH++Mr)) (ar:Spec P f args cT dH post) (k:∀ v I' M',(∀ b o,cT b=some o->I' b=some o)->(∀ x∈M'++Mr,I' x.num=none)->post v I' M'->K v I' (M'++Mr))| zo (h:lX I M->bd foot P f args I M K)
def bd.elim{I:aM}{M:List aE}{K:Value->aM->List aE->Prop}(e8:lX I M)(h:bd foot P f args I M K) :
  ∃ (cT:aM) (dH Mr:List aE) (post:Value->aM->List aE->Prop),hY foot I M cT (dH++Mr)/\Spec P f args cT dH post/\∀ v I' M',(∀ b o,cT b=some o->I' b=some o)->(∀ x∈M'++Mr,I' x.num=none)->post v I' M'->K v I' (M'++Mr):=by
 induction h with
 |mk dH Mr post a3 ar k=>exact⟨I,dH,Mr,post,.perm a3 .refl,ar,λv I' M' aa _ ad=>k v I' M' aa ad⟩| IA dH Mr post a3 ar k=>exact⟨I,dH,Mr,post,.perm a3 .refl,ar,k⟩| BB cT dH Mr post hw ar k=>exact⟨cT,dH,Mr,post,hw,ar,k⟩| zo h aR=>exact aR e8
structure cB where
 P:Program
 E:Env
 fs:List Nat
 n:Nat
 B:Nat
 ay:World
 dj:aM
 foot:List Nat
 ro:Option Nat
def f'(X:cB):Fence:={ Fence.wide with round:=X.ro }
def eb(β:Nat->Nat):dd->Value->Prop
 | .val v,u=>u=v| .lit b,u=>u=.bool b| .ref s off,u=>u=.pointer (some ⟨β s,off,none⟩)| .ll,_=>True
structure tX(X:cB)(w:World)(I:aM)(M:List aE)(b:Nat)(cs:List Value):Prop where
 ec:∃ T,w.heap[b]?=some (.cells cs.toArray T (0,0))
 c4:X.B<=b
 iC:I b=none
 ef:∀ x∈M,x.num≠b
structure sO(X:cB)(w:World)(I:aM)(M:List aE)(r:Nat):Prop where
 ec:w.heap[r]?=some (.deferred (some []))
 c4:X.B<=r
 iC:I r=none
 ef:∀ x∈M,x.num≠r
def tY(r:Nat):Deferred:={ target:=.collected r,args:=#[] }
def Marks(X:cB)(a:Act)(w:World)(I:aM)(M:List aE):Prop:=∃ bb:List Nat,a.defers=bb.map tY/\bb.Nodup/\∀ r∈bb,sO X w I M r
structure cg(X:cB)(β:Nat->Nat)(a:Act)(w:World)(F:Fr)(C:dp)(I:aM)(M:List aE):Prop where
 size:a.tmps.size=X.n
 defers:Marks X a w I M
 holds:dT I M w
 ak:∀ t,eb β (F t) (a.tmps.getD t undef)
 bR:∀ s cs,C s=some cs->tX X w I M (β s) cs
 inj:∀ s bP,C s≠none->C bP≠none->β s=β bP->s=bP
 g9:∀ b o,X.dj b=some o->I b=some o
 gT:∀ b o,I b=some o->X.dj b=some o\/X.B<=b
 own:∀ x∈M,x.num∈X.foot\/X.B<=x.num
 dA:∀ b,b<X.B->b ∉ X.foot->w.heap[b]?=X.ay.heap[b]?
 out:mv X.ay w
 sz:X.B<=w.heap.size
 eI:∀ x∈X.foot,x<X.B
def Rel(X:cB)(a:Act)(w:World)(F:Fr)(C:dp)(I:aM)(M:List aE):Prop:=∃ β,cg X β a w F C I M
def Sat(X:cB)(K:fD)(a:Act)(w:World):Prop:=∃ F C I M,Rel X a w F C I M/\K F C I M
inductive br(X:cB)(o:Oper)(F:Fr)(C:dp)(I:aM)(M:List aE)(K:fD):Prop
 |mk(h:∀ a w Q,Rel X a w F C I M->o.wpIn (f' X) 0 X.P a w (Sat X K) Q)
def iD(ρ:Operand->dd):List Operand->Option (List Value)
 |[]=>some []
 |x::xs=>match cY ρ x,iD ρ xs with
  | .val v,some vs=>some (v::vs)| _,_=>none
abbrev kO(F:Fr):List Operand->Option (List Value):=iD (cR F)
def qt(place:Nat->Option (Nat×Nat))(cells:List Value):List (Nat×Value)->Option (List Value)
 |[]=>some cells
 |(i,v)::bc=>match place i with
  |none=>none| some (off,size)=>bif Nat.beq v.cells.size size&&Nat.ble (off+size) cells.length then qt place (bQ cells off v.cells.toList) bc else none
def qu(ρ:Operand->dd):List (Nat×Operand)->Option (List (Nat×Value))
 |[]=>some []
 |(i,x)::xs=>match cY ρ x,qu ρ xs with
  | .val v,some vs=>some ((i,v)::vs)| _,_=>none
abbrev xx(F:Fr):List (Nat×Operand)->Option (List (Nat×Value)):=qu (cR F)
def places(E:Env)(cb:List (Nat×Nat))(i:Nat):Option (Nat×Nat):=match cb[i]? with
 |some (eI,off)=>match E eI with
  |some gu=>some (off,gu.size)| none=>none
 |none=>none
def zp(E:Env)(cb:List (Nat×Nat)):Bool:=cb.all λf=>(E f.1).isSome
def rowOf(zero:List Value)(n:Nat):List Value:=(List.range n).map λi=>zero[i%zero.length]!
def qv(zero:List Value)(n:Nat):rowOf zero n=(madeCells zero.toArray n).toList:=by simp[rowOf,madeCells]
def IntKind.kP:IntKind->IntKind->Bool
 | .i8,.i8 | .i16,.i16 | .i32,.i32 | .i64,.i64 | .u8,.u8 | .u16,.u16 | .u32,.u32 | .u64,.u64=>true| _,_=>false
def kc(op:BinOp)(c8:Option dt)(x y:dd)(K:Value->Prop)(other:Prop):Prop:=
 match x,y with
 | .val (.int k a),.val (.int eS b)=>
  match op with
  | .shl=>tW b λj=>bi k (a*2^(min j k.bits)) λr=>K (.int k r)
  | .shr=>tW b λj=>K (.int k (a.fdiv (2^(min j k.bits))))
  |op=>bif IntKind.kP k eS then
    (match op with
    | .add=>bi k (a+b) λr=>K (.int k r)
    | .sub=>bi k (a-b) λr=>K (.int k r)
    | .mul=>bi k (a*b) λr=>K (.int k r)
    | .quo=>zn b (bi k (a.tdiv b) λr=>K (.int k r))| .rem=>zn b (K (.int k (a.tmod b)))
    | .and | .or | .xor | .andNot=>(match rv op k a b with
     |some r=>K (.int k r)| none=>False)
    |op=>(match tV op a b with
     |some r=>K (.bool r)| none=>False))
   else False
 | .val (.string a),.val (.string b)=>
  match op with
  | .eql=>K (.bool (decide (a=b)))| .neq=>K (.bool (!decide (a=b)))| _=>other
 | .val (.bool a),.val (.bool b)=>
  match c8 with
  |some { bE:=.bool,.. }=>
   (match op with
   | .eql=>K (.bool (a == b))| .neq=>K (.bool (!(a == b)))| _=>other)
  |_=>other
 |_,_=>other
inductive ft(P:Program)(op:BinOp)(t:Nat)(x y:Operand)(p q:dd)(K:Value->Prop)(other:Prop):Prop
 |mk(xy e9 v:Value)(aO:p=.val xy)(aK:q=.val e9)(h:∀ w,(do eqGuard op t x y xy e9;binOp op t xy e9:Sem Value).run P w=.ok v w)(k:K v)| other (h:other)
def b5(X:cB)(op:Op)(ρ:Operand->dd)(C:dp)(I:aM)(M:List aE)(V:dd->Prop)(other:Prop):Prop:=
 match op with
 | .move x | .assign x=>V (ρ x)
 | .pick c a b=>
  match ρ c with
  | .lit c=>V (bif c then ρ a else ρ b)| .val (.bool c)=>V (EV c (cY ρ a) (cY ρ b))| _=>False
 | .unOp op _ x=>
  match op,ρ x with
  | .not,.lit b=>V (.lit (!b))| .not,.val (.bool b)=>V (.val (.bool (!b)))| .neg,.val (.int k n)=>bi k (0-n) λr=>V (.val (.int k r))
  |_,_=>other
 | .binOp op t x y _=>kc op (X.E t) (cY ρ x) (cY ρ y) (λv=>V (.val v)) (ft X.P op t x y (cY ρ x) (cY ρ y) (λv=>V (.val v)) other)
 | .load t x=>
  match X.E t with
  |some i=>
   (match ρ x with
   | .ref s off=>
    (match C s with
    |some cs=>bif Nat.ble (off+i.size) cs.length then V (.val (pack i.bE.agg ((cs.drop off).take i.size)))else False| none=>False)
   | .val (.pointer (some a))=>aZ I M a i.size λvs=>V (.val (pack i.bE.agg vs))
   |_=>False)
  |none=>False
 | .nilCheck x=>
  match ρ x with
  | .ref s off=>V (.ref s off)| .val (.pointer (some a))=>V (.val (.pointer (some a)))| _=>other
 | .fieldAddr t x i=>
  match X.E t with
  |some { bE:=.struct cb,.. }=>
   (match cb[i]? with
   |some (eI,off)=>
    (match X.E eI,ρ x with
    |some gu,.ref s o'=>bif Nat.beq gu.size 0 then False else V (.ref s (o'+off))| some gu,.val (.pointer (some a))=>bif Nat.beq gu.size 0 then False else V (.val (.pointer (some (a.add off))))| _,_=>False)
   |none=>False)
  |_=>False
 | .field t x i=>
  match X.E t,cY ρ x with
  |some { bE:=.struct cb,.. },.val (.agg cs)=>
   (match cb[i]? with
   |some (eI,off)=>
    (match X.E eI with
    |some gu=>bif Nat.ble (off+gu.size) cs.size then V (.val (pack gu.bE.agg ((cs.toList.drop off).take gu.size)))else False| none=>False)
   |none=>False)
  |_,_=>False
 | .indexAddr t x i=>
  match X.E t,cY ρ i with
  |some { bE:=.slice e,.. },.val (.int _ k)=>
   (match X.E e,cY ρ x with
   |some aB,.val (.slice a n _)=>bu a n aB.size k λaV=>V (.val (.pointer (some aV)))
   |_,_=>False)
  |some { bE:=.array n e,.. },.val (.int _ k)=>
   (match X.E e,ρ x with
   |some aB,.ref s o'=>dP n k λj=>V (.ref s (o'+j*aB.size))
   |some aB,.val (.pointer (some a))=>dP n k λj=>V (.val (.pointer (some (a.add (j*aB.size)))))
   |_,_=>False)
  |_,_=>False
 | .index t x i=>
  match X.E t,cY ρ x,cY ρ i with
  |some { bE:=.string,.. },.val (.string s),.val (.int _ k)=>xw s k λb=>V (.val (.int .u8 b.toNat))
  |some { bE:=.array n e,.. },.val (.agg cs),.val (.int _ k)=>
   (match X.E e with
   |some aB=>bif Nat.beq (n*aB.size) cs.size then dP n k λj=>V (.val (pack aB.bE.agg ((cs.toList.drop (j*aB.size)).take aB.size)))else False
   |none=>False)
  |_,_,_=>False
 | .build t parts=>
  match X.E t,qu ρ parts.toList with
  |some i,some vs=>
   (match i.bE with
   | .struct cb=>bif zp X.E cb then(match qt (places X.E cb) i.zero vs with
    |some cells=>V (.val (.agg cells.toArray))| none=>False)else False
   | .array _ e=>(match X.E e with
    |some aB=>(match qt (λj=>some (j*aB.size,aB.size)) i.zero vs with
     |some cells=>V (.val (.agg cells.toArray))| none=>False)
    |none=>False)
   |_=>False)
  |_,_=>False
 | .makeFunc fn first captured=>
  match iD ρ first.toList,iD ρ captured.toList with
  |some cb,some cs=>V (.val (.func fn cb.toArray cs.toArray))| _,_=>False
 | .slice t x lo hi mx=>
  match X.E t,cY ρ x,mx.map (cY ρ)with
  |some { bE:=.slice e,.. },.val (.slice a n c),none=>
   (match X.E e,lo.map (cY ρ),hi.map (cY ρ)with
   |some aB,none,none=>V (.val (.slice a n c))| some aB,none,some (.val (.int _ h))=>kA n c none (some h) λ_ h=>V (.val (.slice a h c))
   |some aB,some (.val (.int _ l)),none=>kA n n (some l) none λl _=>V (.val (.slice (if c=l then a else a.map (·.add (l*aB.size))) (n-l) (c-l)))
   |some aB,some (.val (.int _ l)),some (.val (.int _ h))=>kA n c (some l) (some h) λl h=>V (.val (.slice (if c=l then a else a.map (·.add (l*aB.size))) (h-l) (c-l)))
   |_,_,_=>False)
  |some { bE:=.string,.. },.val (.string s),none=>
   (match lo.map (cY ρ),hi.map (cY ρ)with
   |none,none=>V (.val (.string s))| none,some (.val (.int _ h))=>kA s.size s.size none (some h) λ_ h=>V (.val (.string (s.extract 0 h)))
   |some (.val (.int _ l)),none=>kA s.size s.size (some l) none λl _=>V (.val (.string (s.extract l s.size)))
   |some (.val (.int _ l)),some (.val (.int _ h))=>kA s.size s.size (some l) (some h) λl h=>V (.val (.string (s.extract l h)))
   |_,_=>False)
  |some { bE:=.slice e,.. },.val (.slice a _ c),some (.val (.int _ m))=>
   (match X.E e,lo.map (cY ρ),hi.map (cY ρ)with
   |some aB,none,some (.val (.int _ h))=>Yi c h m λh m=>V (.val (.slice (if m=0 then a else a.map (·.add (0*aB.size))) (h-0) (m-0)))
   |_,_,_=>other)
  |_,_,_=>other
 | .extract x i=>
  match cY ρ x with
  | .val (.tuple vs)=>(match vs.toList[i]? with
   |some v=>V (.val v)| none=>False)
  |_=>False
 | .convert s d x=>
  match X.E s,X.E d,cY ρ x with
  |some _,some { bE:=.int k,.. },.val (.int _ n)=>bi k n λr=>V (.val (.int k r))
  |_,_,_=>other
 | .call { callee:=.builtin .len,args,argTypes }=>
  match argTypes.toList,iD ρ args.toList with
  |[t],some [v]=>
   (match X.E t,v with
   |some { bE:=.slice _,.. },.slice _ n _=>V (.val (.int .i64 n))| some { bE:=.string,.. },.string s=>V (.val (.int .i64 s.size))| some { bE:=.array n _,.. },_=>V (.val (.int .i64 n))| _,_=>other)
  |_,_=>other
 | .call { callee:=.builtin .cap,args,argTypes }=>
  match argTypes.toList,iD ρ args.toList with
  |[t],some [v]=>
   (match X.E t,v with
   |some { bE:=.slice _,.. },.slice _ _ c=>V (.val (.int .i64 c))| _,_=>other)
  |_,_=>other
 | .call { callee:=.builtin .max,args,.. }=>
  match iD ρ args.toList with
  |some [.int k a,.int _ b]=>V (.val (.int k (max a b)))| _=>other
 | .call { callee:=.builtin .min,args,.. }=>
  match iD ρ args.toList with
  |some [.int k a,.int _ b]=>V (.val (.int k (min a b)))| _=>other
 | .call { callee:=.builtin .unsafeSliceData,args,.. }=>
  match iD ρ args.toList with
  |some [.slice none _ _]=>V (.val (.pointer none))| some [.slice (some a) _ c]=>zn c (V (.val (.pointer (some a))))| _=>other
 |_=>other
def fP(X:cB)(o:Oper)(F:Fr)(C:dp)(I:aM)(M:List aE)(K:fD):Prop:=
 match o.op with
 | .box t x=>
  match o.dst,bt F x with
  |some d,.val v=>
   bif X.fs.contains d then cJ I M λb=>K (fM (nL F d) d (.val (.pointer (some ⟨b,0,none⟩)))) (hX C d none) I (⟨b,.cells v.cells t (0,0)⟩::M)
   else K (fM (nL F d) d (.ref d 0)) (hX C d (some v.cells.toList)) I M
  |_,_=>False
 | .alloc t=>
  match o.dst,X.E t with
  |some d,some i=>
   bif X.fs.contains d then cJ I M λb=>K (fM (nL F d) d (.val (.pointer (some ⟨b,0,none⟩)))) (hX C d none) I (⟨b,.cells i.zero.toArray t (0,0)⟩::M)
   else K (fM (nL F d) d (.ref d 0)) (hX C d (some i.zero)) I M
  |_,_=>False
 | .store t x y=>
  match o.dst,X.E t,bt F y with
  |none,some i,.val v=>
   (match cR F x with
   | .ref s off=>
    (match C s with
    |some cs=>bif Nat.ble (off+i.size) cs.length&&(Nat.beq v.cells.size i.size&&fN v.cells.toList)then K F (hX C s (some (bQ cs off v.cells.toList))) I M else False| none=>False)
   | .val (.pointer (some a))=>bif Nat.beq v.cells.size i.size then cn M a v.cells.toList λM'=>K F C I M' else False
   |_=>False)
  |_,_,_=>False
 | .buildSlice t len parts=>
  match X.E t,xx F parts.toList with
  |some { bE:=.slice e,.. },some vs=>
   (match X.E e with
   |some aB=>
    bif Nat.ble (len*aB.size) 16777216&&Nat.blt 0 (len*aB.size)then
     (match qt (λj=>some (j*aB.size,aB.size)) (rowOf aB.zero (len*aB.size)) vs with
     |some cells=>cJ I M λb=>K (put o.dst (.val (.slice (some ⟨b,0,none⟩) len len)) F) C I (⟨b,.cells cells.toArray e (0,0)⟩::M)
     |none=>False)
    else(match len,vs with
     |0,[]=>cJ I M λb=>K (put o.dst (.val (.slice (some ⟨b,0,none⟩) 0 0)) F) C I (⟨b,.cells #[] e (0,0)⟩::M)
     |_,_=>False)
   |none=>False)
  |_,_=>False
 | .makeSlice t l c=>
  match X.E t,bt F l,bt F c with
  |some { bE:=.slice e,.. },.val (.int _ l),.val (.int _ c)=>
   (match X.E e with
   |some aB=>oB l c aB.bytes λn m=>cJ I M λb=>K (put o.dst (.val (.slice (some ⟨b,0,none⟩) n m)) F) C I (⟨b,.cells (rowOf aB.zero (m*aB.size)).toArray e (0,0)⟩::M)
   |none=>False)
  |_,_,_=>False
 | .call { callee:=.value f,args,.. }=>
  match bt F f,kO F args.toList with
  | .val (.func (.func g) first cap),some vs=>bd X.foot X.P g (first.toList++vs++cap.toList) I M λv I' M'=>K (put o.dst (.val v) F) C I' M'
  |_,_=>br X o F C I M K
 |op=>b5 X op (cR F) C I M (λx=>K (put o.dst x F) C I M) (br X o F C I M K)
inductive cP(c b:Bool)(Y N:Prop):Prop
 |mk(h:c=b->Y)(bq:c=!b->N)
def rz(X:cB)(ops:List Oper):List Oper->Fr->dp->aM->List aE->fD->Prop
 |[],F,C,I,M,K=>K F C I M
 |o::bc,F,C,I,M,K=>
  match o.guard with
  |none=>fP X o F C I M λF C I M=>rz X ops bc F C I M K
  |some (j,b)=>
   match(ops[j]?).bind (·.dst)with
   |none=>False
   |some d=>
    match F d with
    | .lit c=>bif c == b then fP X o F C I M λF C I M=>rz X ops bc F C I M K else rz X ops bc (put o.dst (.val undef) F) C I M K
    | .val (.bool c)=>cP c b (fP X o (fM F d (.lit b)) C I M λF C I M=>rz X ops bc F C I M K) (rz X ops bc (put o.dst (.val undef) (fM F d (.lit !b))) C I M K)| .val (.tuple _)=>rz X ops bc (put o.dst (.val undef) F) C I M K| _=>False
def g0{a b:Nat}(h:¬ a=b):Nat.beq a b=false:=by
 cases ah:Nat.beq a b with
 |false=>rfl| true=>exact absurd (dr ah) h
def oC(a:Nat):Nat.beq a a=true:=Nat.beq_refl a
def BC(w:World)(o:Obj){i:Nat}(h:i<w.heap.size):(w.alloc o).heap[i]?=w.heap[i]?:=by show(w.heap.push o)[i]?=_;simp[Array.getElem?_push,Nat.ne_of_lt h]
def IB(w:World)(o:Obj):(w.alloc o).heap[w.heap.size]?=some o:=by show(w.heap.push o)[w.heap.size]?=_;simp
section
variable{X:cB}{β:Nat->Nat}{a:Act}{w:World}{F:Fr}{C:dp}{I:aM}{M:List aE}{o:Oper}{Q:Exit->Act->World->Prop}{next:Act->World->Prop}{K:fD}
def tZ(h:∀ t,eb β (F t) (a.tmps.getD t undef))(x:Operand):eb β (cR F x) (a.eval x):=by
 cases x with
 |tmp t=>exact h t| const v=>cases v<;>exact rfl
 |global g=>exact rfl| func f=>exact rfl
def cS(h:∀ t,eb β (F t) (a.tmps.getD t undef)){x:Operand}(ab:bt F x=.val v):a.eval x=v:=by
 have aa:=tZ h x;unfold bt cY at ab;split at ab
 ·rename_i b ah;rw[ah]at aa;cases ab;exact aa
 ·rw[ab]at aa;exact aa
def rA(h:∀ t,eb β (F t) (a.tmps.getD t undef)){x:Operand}(ab:cR F x=.val v):a.eval x=v:=by have aa:=tZ h x;rw[ab]at aa;exact aa
def IC(h:∀ t,eb β (F t) (a.tmps.getD t undef)){x:Operand}{b:Bool}(ab:cR F x=.lit b):a.eval x=.bool b:=by have aa:=tZ h x;rw[ab]at aa;exact aa
def xz(h:∀ t,eb β (F t) (a.tmps.getD t undef)){x:Operand}{s:Nat}(ab:cR F x=.ref s off):a.eval x=.pointer (some ⟨β s,off,none⟩):=by have aa:=tZ h x;rw[ab]at aa;exact aa
def OT(h:∀ t,eb β (F t) (a.tmps.getD t undef))(x:Operand):eb β (bt F x) (a.eval x):=by
 have aa:=tZ h x;unfold bt cY;split
 ·rename_i b ah;rw[ah]at aa;exact aa
 ·exact aa
def qw(h:∀ t,eb β (F t) (a.tmps.getD t undef)):∀ {xs:List Operand} {vs:List Value},kO F xs=some vs->xs.map a.eval=vs
 |[],vs,ab=>by simp[kO,iD]at ab;simp[ab]
 |x::xs,vs,ab=>by
  unfold kO iD at ab;split at ab;·rename_i v qx aa ad;cases ab;simp[cS h aa,qw h ad]
  ·cases ab
def EW(h:∀ t,eb β (F t) (a.tmps.getD t undef)):∀ {xs:List (Nat×Operand)} {vs:List (Nat×Value)},xx F xs=some vs->(xs.map λ(i,x)=>(i,a.eval x))=vs
 |[],vs,ab=>by simp[xx,qu]at ab;simp[ab]
 |(i,x)::xs,vs,ab=>by
  unfold xx qu at ab;split at ab;·rename_i v qx aa ad;cases ab;simp[cS h aa,EW h ad]
  ·cases ab
def iE(bJ:∀ c,o.op≠.defer c)(h:(execOp a.eval o).run X.P w=.ok (.value v) w')(ae:next (a.put o.dst v) w'):o.wpIn (f' X) 0 X.P a w next Q:=
 ⟨λ_ _=>trivial,by rw[ET _ _ _ bJ,h];exact ae⟩
def zq(bJ:∀ c,o.op≠.defer c)(h:(execOp a.eval o).run X.P w=.ok .skip w')(ae:next (a.put o.dst undef) w'):o.wpIn (f' X) 0 X.P a w next Q:=
 ⟨λ_ _=>trivial,by rw[ET _ _ _ bJ,h];exact ae⟩
def OU(a:Act)(d t:Nat)(v:Value)(aj:d<a.tmps.size):(a.put (some d) v).tmps.getD t undef=if t=d then v else a.tmps.getD t undef:=by
 simp only[Act.put,m9,zk];by_cases h:t=d
 ·subst h;simp[aj]
 ·simp[h,pE h]
def ID(h:∀ t,eb β (F t) (a.tmps.getD t undef)){d:Nat}{x:dd}(aj:d<a.tmps.size)(ab:eb β x v)(t:Nat):eb β (fM F d x t) ((a.put (some d) v).tmps.getD t undef):=by
 rw[OU a d t v aj];unfold fM;by_cases aa:t=d
 ·subst aa;simp only[oC,bZ,pF];exact ab
 ·have:Nat.beq t d=false:=g0 aa;simp only[this,b0,ca aa];exact h t
def OV(w:World)(g:Nat)(cs:Array Value):mv w (w.setRow g cs):=by
 unfold World.setRow
 first | exact⟨rfl,rfl⟩ | (split<;>exact⟨rfl,rfl⟩)
def EX(w:World)(g:Nat)(o:Obj):mv w (w.putObj g o):=by unfold World.putObj;exact⟨rfl,rfl⟩
def Marks.mono(h:Marks X a w I M){I':aM}{M':List aE}(hm:∀ r,sO X w I M r->sO X w' I' M' r):Marks X a w' I' M':=by obtain⟨bb,aa,ad,al⟩:=h;exact⟨bb,aa,ad,λr af=>hm r (al r af)⟩
def cg.put(h:cg X β a w F C I M){dst:Option Nat}(aj:∀ d,dst=some d->d<X.n){x:dd}(ab:eb β x v):cg X β (a.put dst v) w (put dst x F) C I M:=by
 cases dst with
 |none=>exact h
 |some d=>
  refine { h with size:=?_,defers:=h.defers,ak:=?_ };·simp[Act.put,h.size]
  ·exact ID h.ak (by rw[h.size];exact aj d rfl) ab
def dT.heap(h:dT I M w)(cK:w'.heap=w.heap):dT I M w':=
 { i:=by rw[cK];exact h.i,m:=by rw[cK];exact h.m,d:=h.d,bX:=h.bX }
def cg.world(h:cg X β a w F C I M)(cK:w'.heap=w.heap)(aC:mv w w':=by exact⟨rfl,rfl⟩):cg X β a w' F C I M:=
 { h with
  holds:={ i:=by rw[cK];exact h.holds.i,m:=by rw[cK];exact h.holds.m,d:=h.holds.d,bX:=h.holds.bX }
  defers:=h.defers.mono λr af=>{ af with ec:=by rw[cK];exact af.ec }
  bR:=λs cs ar=>{ h.bR s cs ar with ec:=by rw[cK];exact(h.bR s cs ar).ec }
  dA:=by rw[cK];exact h.dA
  out:=h.out.trans aC
  sz:=by rw[cK];exact h.sz }
def dT.alloc(h:dT I M w)(o:Obj):dT I M (w.alloc o) where
 i b x ah:=by have aa:=h.i b x ah;rw[BC w o (j9.1 aa).1];exact aa
 m x ab:=by have aa:=h.m x ab;rw[BC w o (j9.1 aa).1];exact aa
 d:=h.d
 bX:=h.bX
def dT.lt(h:dT I M w){x:aE}(ab:x∈M):x.num<w.heap.size:=(j9.1 (h.m x ab)).1
def dT.zr(h:dT I M w){b:Nat}{o:Obj}(ah:I b=some o):b<w.heap.size:=(j9.1 (h.i b o ah)).1
def dT.pH(h:dT I M w):I w.heap.size=none:=by
 cases ah:I w.heap.size with
 |none=>rfl| some o=>exact absurd (h.zr ah) (Nat.lt_irrefl _)
def dT.oD(h:dT I M w):∀ x∈M,x.num≠w.heap.size:=λx ab e=>by have:=h.lt ab;omega
def dT.cons(h:dT I M w)(o:Obj):dT I (⟨w.heap.size,o⟩::M) (w.alloc o) where
 i:=(h.alloc o).i
 m x ab:=by
  rcases dW.1 ab with rfl | ab;·exact IB w o
  ·exact(h.alloc o).m x ab
 d x ab:=by
  rcases dW.1 ab with rfl | ab;·exact h.pH
  ·exact h.d x ab
 bX:=by simp only[cc,kN];refine⟨λhm=>?_,h.bX⟩;obtain⟨x,ab,e⟩:=cG.1 hm;exact h.oD x ab e
def tX.alloc{b:Nat}{cs:List Value}(h:tX X w I M b cs)(o:Obj):tX X (w.alloc o) I M b cs where
 ec:=by obtain⟨T,bl⟩:=h.ec;exact⟨T,by rw[BC w o (j9.1 bl).1];exact bl⟩
 c4:=h.c4
 iC:=h.iC
 ef:=h.ef
def tX.lt{b:Nat}{cs:List Value}(h:tX X w I M b cs):b<w.heap.size:=by obtain⟨T,bl⟩:=h.ec;exact(j9.1 bl).1
def tX.IE{b:Nat}{cs:List Value}(h:tX X w I M b cs)(o:Obj):tX X (w.alloc o) I (⟨w.heap.size,o⟩::M) b cs where
 ec:=(h.alloc o).ec
 c4:=h.c4
 iC:=h.iC
 ef x ab:=by
  rcases dW.1 ab with rfl | ab
  ·exact λe=>by have:=h.lt;simp only at e;omega
  ·exact h.ef x ab
def sO.alloc{r:Nat}(h:sO X w I M r)(o:Obj):sO X (w.alloc o) I M r:=
 { h with ec:=by rw[BC w o (j9.1 h.ec).1];exact h.ec }
def sO.IE{r:Nat}(h:sO X w I M r)(o:Obj):sO X (w.alloc o) I (⟨w.heap.size,o⟩::M) r:=by
 refine { h.alloc o with ef:=λx ab=>?_ };rcases dW.1 ab with rfl | ab
 ·have aa:=(j9.1 h.ec).1;simp only;omega
 ·exact h.ef x ab
def IF(h:∀ b,b<X.B->b ∉ X.foot->w.heap[b]?=X.ay.heap[b]?)(cx:X.B<=w.heap.size)(o:Obj):∀ b,b<X.B->b ∉ X.foot->(w.alloc o).heap[b]?=X.ay.heap[b]?:=λb ah az=>by rw[BC w o (by omega)];exact h b ah az
def cg.nb(h:cg X β a w F C I M)(o:Obj):cg X β a (w.alloc o) F C I (⟨w.heap.size,o⟩::M) where
 size:=h.size
 defers:=h.defers.mono λr af=>af.IE o
 holds:=h.holds.cons o
 ak:=h.ak
 bR s cs ar:=(h.bR s cs ar).IE o
 inj:=h.inj
 g9:=h.g9
 gT:=h.gT
 own x ab:=by
  rcases dW.1 ab with rfl | ab;·exact .inr h.sz
  ·exact h.own x ab
 dA:=IF h.dA h.sz o
 out:=h.out
 sz:=by have:=h.sz;simp;omega
 eI:=h.eI
def cg.IG(h:cg X β a w F C I M)(d:Nat):cg X β a w (nL F d) (hX C d none) I M where
 size:=h.size
 defers:=h.defers
 holds:=h.holds
 ak t:=by
  have aa:=h.ak t;unfold nL;cases bf:F t with
  |ref s off=>
   rw[bf]at aa;simp only;cases Nat.beq s d;·exact aa
   ·trivial
  |_=>rw[bf]at aa;exact aa
 bR s cs ar:=by
  unfold hX at ar;cases ah:Nat.beq s d with
  |true=>simp[ah]at ar| false=>simp[ah]at ar;exact h.bR s cs ar
 inj s bP aa ad:=h.inj s bP (λe=>aa (by simp[hX,e])) (λe=>ad (by simp[hX,e]))
 g9:=h.g9
 gT:=h.gT
 own:=h.own
 dA:=h.dA
 out:=h.out
 sz:=h.sz
 eI:=h.eI
def cg.OW(h:cg X β a w F C I M)(d:Nat)(aj:d<X.n)(cs:List Value)(T:Nat) :
  ∃ mw,cg X mw (a.put (some d) (.pointer (some ⟨w.heap.size,0,none⟩))) (w.alloc (.cells cs.toArray T (0,0))) (fM (nL F d) d (.ref d 0)) (hX C d (some cs)) I M:=by
 have ay:=h.IG d;let mw:Nat->Nat:=λs=>if s=d then w.heap.size else β s
 refine⟨mw,?_⟩;have t':∀ t,eb mw (nL F d t) (a.tmps.getD t undef):=λt=>by
  have aa:=ay.ak t;cases bf:nL F d t with
  |ref s off=>
   rw[bf]at aa;have ar:s≠d:=by
    intro e;subst e;unfold nL at bf;split at bf
    ·rename_i bP EY my;cases ah:Nat.beq bP s with
     |true=>simp[ah]at bf| false=>simp[ah]at bf;obtain⟨rfl,_⟩:=bf;simp at ah
    ·rename_i bs;exact bs _ _ bf
   simp only[eb,mw,ca ar];exact aa
  |_=>rw[bf]at aa;exact aa
 exact {
  size:=by simp[Act.put,h.size]
  defers:=h.defers.mono λr af=>af.alloc _
  holds:=h.holds.alloc _
  ak:=ID t' (by rw[h.size];exact aj) (by simp[eb,mw])
  bR:=λs cs' ar=>by
   by_cases e:s=d;·subst e;simp[hX]at ar;subst ar;simp only[mw,ck rfl];exact { ec:=⟨T,IB w _⟩,c4:=h.sz,iC:=h.holds.pH,ef:=h.holds.oD }
   ·have ah:Nat.beq s d=false:=g0 e;simp[hX,ah]at ar;simp only[mw,ca e];exact(h.bR s cs' ar).alloc _
  inj:=λs bP aa ad he=>by
   by_cases e:s=d<;>by_cases cM:bP=d
   ·rw[e,cM]
   ·exfalso;have ah:Nat.beq bP d=false:=g0 cM;simp[hX,ah]at ad;obtain⟨c,au⟩:=EP.1 ad;have:=(h.bR bP c au).lt;simp only[mw,ck e,ca cM]at he;omega
   ·exfalso;have ah:Nat.beq s d=false:=g0 e;simp[hX,ah]at aa;obtain⟨c,au⟩:=EP.1 aa;have:=(h.bR s c au).lt;simp only[mw,ca e,ck cM]at he;omega
   ·have ah:Nat.beq s d=false:=g0 e;have hn:Nat.beq bP d=false:=g0 cM;simp[hX,ah]at aa;simp[hX,hn]at ad;simp only[mw,ca e,ca cM]at he;exact h.inj s bP aa ad he
  g9:=h.g9
  gT:=h.gT
  own:=h.own
  dA:=IF h.dA h.sz _
  out:=h.out
  sz:=by have:=h.sz;simp;omega
  eI:=h.eI }
def dY(a:Addr)(h:a.spot=none)(j:Nat):a.add j=⟨a.block,a.off+j,none⟩:=by
 obtain⟨b,o,s⟩:=a;simp only at h;subst h;unfold Addr.add;split<;>simp_all
def sP{b:Nat}(ax:w.heap[b]?=some (.cells cs T ak))(j:Nat):w.cell? ⟨b,j,none⟩=cs[j]?:=by simp[World.cell?,ax]
variable{P:Program}{t:Nat}{i:dt}
def iZ.run_sizeOf(h:iZ P t i)(w:World):(sizeOf t).run P w=.ok i.size w:=by obtain⟨inf,z,aa,ad,_⟩:=h.inf;simp[sizeOf,typeInfo,aa,ad]
def iZ.BD(h:iZ P t i)(w:World):∃ z,(zeroValue t).run P w=.ok z w/\z.cells.toList=i.zero:=by obtain⟨inf,z,aa,ad,al,aL,bG⟩:=h.inf;exact⟨z,by simp[zeroValue,typeInfo,aa,aL],bG⟩
def iZ.Yk(h:iZ P t i)(w:World):∃ d,(underlying t).run P w=.ok d w/\eR d=i.bE:=by obtain⟨d,aa,ad⟩:=h.eW;exact⟨d,run_underlying aa w,ad⟩
def iZ.OX(h:iZ P t i)(w:World):(isAgg t).run P w=.ok i.bE.agg w:=by
 obtain⟨d,aa,ad⟩:=h.Yk w;rw[<-ad];unfold isAgg;simp only[bV,aa,bN];cases d<;>rfl
def Yl(av:vs.length=1):vs=[vs.headD undef]:=by
 match vs,av with
 |[v],_=>rfl
def EZ(h:iZ P t i){a:Addr}(ar:a.spot=none)(ax:w.heap[a.block]?=some (.cells cs T ak))
  (ag:(cs.toList.drop a.off).take i.size=vs) (av:vs.length=i.size):(loadVar t a).run P w=.ok (pack i.bE.agg vs) w:=by
 have au:∀ j v,vs[j]?=some v->w.cell? (a.add j)=some v:=by
  intro j v ai;rw[dY a ar,sP ax];rw[<-ag,j']at ai;split at ai;·rw[na]at ai;simpa using ai
  ·cases ai
 unfold loadVar;simp only[bV,h.OX,bN];cases BE:i.bE.agg with
 |true=>simp only[pF,bV,h.run_sizeOf,bN,<-av];rw[run_loadCells_list w a vs au];simp[pack]| false=>have aa:=h.EU BE;rw[aa]at av;have hr:=Yl av;have:=au 0 (vs.headD undef) (by rw[hr];simp);have aY:a.add 0=a:=rfl;rw[aY]at this;simp[this,pack]
def xA(h:fN vs=true):∀ v∈vs,v.oneCell'=true:=by simpa[fN]using h
def E0(h:iZ P t i){a:Addr}(ar:a.spot=none)(ax:w.heap[a.block]?=some (.cells cs T (0,0)))(cx:v.cells.size=i.size)(ah:a.off+v.cells.toList.length<=cs.size)(aa:fN v.cells.toList=true) :
  (storeVar t a v).run P w=.ok () (w.setRow a.block (bQ cs.toList a.off v.cells.toList).toArray):=by
 obtain⟨b,o,s⟩:=a;simp only at ar ax ah;subst ar;unfold storeVar;simp only[bV,h.run_sizeOf,bN,cx,ne_eq,not_true,ky,Sem.run_ite];have:=run_storeCells_at (P:=P) b o T v.cells.toList 0 cs w ax (by simpa using ah) (xA aa);simp only[ms]at this;simp only[bQ];simpa using this
def cg.OY(h:cg X β a w F C I M){s:Nat}{cs:List Value}(ar:C s=some cs)(cs':List Value):cg X β a (w.setRow (β s) cs'.toArray) F (hX C s (some cs')) I M:=by
 have ah:=h.bR s cs ar;obtain⟨T,bl⟩:=ah.ec;exact {
  size:=h.size
  defers:=h.defers.mono λr af=>by refine { af with ec:=?_ };rw[setRow_other _ _ _ _ (λe=>by have aa:=af.ec;rw[e,bl]at aa;cases aa)];exact af.ec
  holds:={
   i:=λb o iF=>by rw[setRow_other _ _ _ _ (λe=>by rw[e,ah.iC]at iF;cases iF)];exact h.holds.i b o iF
   m:=λx ab=>by rw[setRow_other _ _ _ _ (ah.ef x ab)];exact h.holds.m x ab
   d:=h.holds.d
   bX:=h.holds.bX }
  ak:=h.ak
  bR:=λbP c' mz=>by
   by_cases e:bP=s;·subst e;simp[hX,oC]at mz;subst mz;exact { ec:=⟨T,setRow_heap _ _ _ _ _ _ bl⟩,c4:=ah.c4,iC:=ah.iC,ef:=ah.ef }
   ·simp[hX,g0 e]at mz;have hn:=h.bR bP c' mz;obtain⟨rB,ua⟩:=hn.ec;refine { ec:=⟨rB,?_⟩,c4:=hn.c4,iC:=hn.iC,ef:=hn.ef };rw[setRow_other _ _ _ _ (λcM=>e (h.inj bP s (by simp[mz]) (by simp[ar]) cM))];exact ua
  inj:=λs1 s2 aa ad=>h.inj s1 s2 (λe=>by
    unfold hX at aa;cases aK:Nat.beq s1 s with
    |true=>have:=dr aK;subst this;rw[ar]at e;cases e| false=>rw[aK]at aa;exact aa e) (λe=>by
    unfold hX at ad;cases aK:Nat.beq s2 s with
    |true=>have:=dr aK;subst this;rw[ar]at e;cases e| false=>rw[aK]at ad;exact ad e)
  g9:=h.g9
  gT:=h.gT
  own:=h.own
  dA:=λb hn az=>by rw[setRow_other _ _ _ _ (λe=>by have:=ah.c4;omega)];exact h.dA b hn az
  out:=h.out.trans (OV _ _ _)
  sz:=by have:=h.sz;simpa using this
  eI:=h.eI }
def cg.vu(h:cg X β a w F C I M){a5 post:List aE}{g:Nat}{cs':Array Value}(a3:M=a5++⟨g,.cells cs T (0,0)⟩::post) :
  cg X β a (w.setRow g cs') F C I (a5++⟨g,.cells cs' T (0,0)⟩::post):=by
 subst a3;have ga:(⟨g,.cells cs T (0,0)⟩:aE)∈a5++⟨g,.cells cs T (0,0)⟩::post:=by simp
 have ax:w.heap[g]?=some (.cells cs T (0,0)):=h.holds.m _ ga;have bJ:=h.holds.bX;simp only[dc,cc]at bJ;have bs:∀ x,x∈a5\/x∈post->x.num≠g:=by
  intro x ab e;rw[sK]at bJ;obtain⟨_,ad,al⟩:=bJ;rcases ab with ab | ab;·exact al x.num (cG.2 ⟨x,ab,rfl⟩) g (by simp) e
  ·rw[kN]at ad;exact ad.1 (cG.2 ⟨x,ab,e⟩)
 have mem:∀ x,x∈a5++(⟨g,.cells cs' T (0,0)⟩:aE)::post->x=⟨g,.cells cs' T (0,0)⟩\/(x∈a5\/x∈post):=by
  intro x ab;simp only[cO,dW]at ab;rcases ab with ab | ab | ab;·exact .inr (.inl ab)
  ·exact .inl ab
  ·exact .inr (.inr ab)
 have back:∀ x,x∈a5\/x∈post->x∈a5++(⟨g,.cells cs T (0,0)⟩:aE)::post:=by
  intro x ab;simp only[cO,dW];rcases ab with ab | ab;·exact .inl ab
  ·exact .inr (.inr ab)
 exact {
  size:=h.size
  defers:=h.defers.mono λr af=>by
   have xB:g≠r:=af.ef _ ga;refine { af with ec:=?_,ef:=λx ab=>?_ };·rw[setRow_other _ _ _ _ (pE xB)];exact af.ec
   ·rcases mem x ab with rfl | ab
    ·exact xB
    ·exact af.ef x (back x ab)
  holds:={
   i:=λb o iF=>by rw[setRow_other _ _ _ _ (λe=>by have:=h.holds.d _ ga;simp only at this;rw[e,this]at iF;cases iF)];exact h.holds.i b o iF
   m:=λx ab=>by
    rcases mem x ab with rfl | ab;·exact setRow_heap _ _ _ _ _ _ ax
    ·rw[setRow_other _ _ _ _ (bs x ab)];exact h.holds.m x (back x ab)
   d:=λx ab=>by
    rcases mem x ab with rfl | ab;·exact h.holds.d ⟨g,.cells cs T (0,0)⟩ ga
    ·exact h.holds.d x (back x ab)
   bX:=by simpa[dc]using bJ }
  ak:=h.ak
  bR:=λs c ar=>by
   have ah:=h.bR s c ar;obtain⟨rB,ua⟩:=ah.ec;have BF:g≠β s:=ah.ef _ ga;refine { ec:=⟨rB,?_⟩,c4:=ah.c4,iC:=ah.iC,ef:=λx ab=>?_ };·rw[setRow_other _ _ _ _ (pE BF)];exact ua
   ·rcases mem x ab with rfl | ab
    ·exact BF
    ·exact ah.ef x (back x ab)
  inj:=h.inj
  g9:=h.g9
  gT:=h.gT
  own:=λx ab=>by
   rcases mem x ab with rfl | ab;·exact h.own ⟨g,.cells cs T (0,0)⟩ ga
   ·exact h.own x (back x ab)
  dA:=λb ah az=>by
   rw[setRow_other _ _ _ _ (λe=>by
    rcases h.own _ ga with aa | aa;·simp only at aa;exact az (e ▸ aa)
    ·simp only at aa;omega)]
   exact h.dA b ah az
  out:=h.out.trans (OV _ _ _)
  sz:=by have:=h.sz;simpa using this
  eI:=h.eI }
def g8.heap(h:dT I M w){b:Nat}{o:Obj}(ae:g8 I M b o):w.heap[b]?=some o:=by
 rcases ae with ae | ⟨x,ab,rfl,rfl⟩
 ·exact h.i b o ae
 ·exact h.m x ab
def Ym{aS:List Value}{x:Value}{xs:List Value}(h:off+1+xs.length<=aS.length):bQ (aS.set off x) (off+1) xs=bQ aS off (x::xs):=by
 unfold bQ;rw[List.take_set,List.drop_set,ck (by omega),gD (by omega:off<aS.length)];have e:(List.take off aS++[aS[off]'(by omega)]).set off x=List.take off aS++[x]:=by rw[List.set_append,ca (by simp;omega)];simp[oA (by omega:off<=aS.length)]
 rw[e];simp[qs,By 1]
def OZ(off:Nat):∀ (xs:List Value) (k:Nat) (aS:List Value),off+k+xs.length<=aS.length -> (xs.zipIdx k).foldl (λ(cs:Array Value) (p:Value×Nat)=>cs.setIfInBounds (off+p.2) p.1) aS.toArray=(bQ aS (off+k) xs).toArray
 |[],k,aS,_=>by simp[bQ]
 |x::xs,k,aS,av=>by simp only[ea]at av;simp only[List.zipIdx_cons,iY];rw[List.setIfInBounds_toArray,OZ off xs (k+1) _ (by simp;omega)];rw[show off+(k+1)=off+k+1 from by omega,Ym (by omega)]
def fill_eq(place:Nat->Option (Nat×Nat)):∀ (vs:List (Nat×Value)) (cells r:List Value),qt place cells vs=some r->Instr.fill place cells.toArray vs=some r.toArray
 |[],cells,r,h=>by simp[qt]at h;simp[Instr.fill,h]
 |(i,v)::bc,cells,r,h=>by
  unfold qt at h;unfold Instr.fill;split at h;·cases h
  ·rename_i off size aO;simp only[aO];cases au:(Nat.beq v.cells.size size&&Nat.ble (off+size) cells.length)with
   |false=>rw[au]at h;cases h
   |true=>
    rw[au]at h;simp only[bZ]at h;rw[b']at au;have aa:=dr au.1;have ad:=bH au.2;have aA:decide (v.cells.size≠size)=false:=by simp[aa]
    have a0:decide (off+v.cells.size > cells.toArray.size)=false:=by simp;omega
    rw[aA,a0];simp only[Bool.or_false,jF,ky];have aR:=fill_eq place bc _ r h;rw[<-aR];congr 1;have:=OZ off v.cells.toList 0 cells (by simp;omega);simp only[ms]at this;rw[<-this,<-Iw];simp
end
def hY.le{I I':aM}{M M':List aE}(h:hY foot I M I' M')(jI:dT I M w):(∀ b o,I b=some o->I' b=some o)/\dT I' M' w /\
  (∀ b o,I' b=some o->I b=some o\/∃ x∈M,x.num=b/\x.obj=o/\b ∉ foot)/\(∀ x∈M',x∈M):=by
 induction h with
 |refl=>exact⟨λ_ _ h=>h,jI,λ_ _ h=>.inl h,λ_ h=>h⟩
 | @sub I M M1 I' M' ar k aR=>
  have aa:dT I M1 w:=⟨jI.i,λx ab=>jI.m x (ar.subset ab),λx ab=>jI.d x (ar.subset ab),(ar.map _).nodup jI.bX⟩;obtain⟨cf,dw,dM,gl⟩:=aR aa;refine⟨cf,dw,λb o ah=>?_,λx ab=>ar.subset (gl x ab)⟩;rcases dM b o ah with h | ⟨x,ab,h⟩;·exact .inl h
  ·exact .inr ⟨x,ar.subset ab,h⟩
 | @perm I M M1 I' M' aO k aR=>
  have aa:dT I M1 w:=⟨jI.i,λx ab=>jI.m x (aO.mem_iff.2 ab),λx ab=>jI.d x (aO.mem_iff.2 ab),(aO.map _).nodup_iff.1 jI.bX⟩;obtain⟨cf,dw,dM,gl⟩:=aR aa;refine⟨cf,dw,λb o ah=>?_,λx ab=>aO.mem_iff.2 (gl x ab)⟩;rcases dM b o ah with h | ⟨x,ab,h⟩;·exact .inl h
  ·exact .inr ⟨x,aO.mem_iff.2 ab,h⟩
 | @vt I M I' M' b o post a3 az k aR=>
  subst a3;have bJ:=jI.bX;simp only[cc,kN]at bJ;have ah:=jI.d ⟨b,o⟩ (by simp);simp only at ah;have aa:dT (ins I b o) post w:={
   i:=λij o' h=>by
    unfold ins at h;by_cases e:ij=b;·subst e;simp only[oC,bZ,jl]at h;subst h;exact jI.m ⟨ij,o⟩ (by simp)
    ·simp only[g0 e,b0]at h;exact jI.i _ _ h
   m:=λx ab=>jI.m x (by simp[ab])
   d:=λx ab=>by unfold ins;have e:x.num≠b:=λe=>bJ.1 (cG.2 ⟨x,ab,e⟩);simp only[g0 e,b0];exact jI.d x (by simp[ab])
   bX:=bJ.2 }
  obtain⟨cf,dw,dM,gl⟩:=aR aa;refine⟨λij o' h=>cf ij o' ?_,dw,λij o' h=>?_,λx ab=>by simp[gl x ab]⟩
  ·unfold ins;by_cases e:ij=b
   ·subst e;rw[ah]at h;cases h
   ·simp only[g0 e,b0];exact h
  ·rcases dM ij o' h with h | ⟨x,ab,h⟩
   ·unfold ins at h;by_cases e:ij=b
    ·subst e;simp only[oC,bZ,jl]at h;exact .inr ⟨⟨ij,o⟩,by simp,rfl,h,az⟩
    ·simp only[g0 e,b0]at h;exact .inl h
   ·exact .inr ⟨x,by simp[ab],h⟩
def cg.hs{X:cB}{β:Nat->Nat}{F:Fr}{C:dp}{I I':aM}{M M':List aE}(h:cg X β a w F C I M)(hw:hY X.foot I M I' M'):cg X β a w F C I' M':=by
 obtain⟨cf,dw,dM,gl⟩:=hw.le h.holds;exact { h with
  holds:=dw
  defers:=h.defers.mono λr af=>by
   refine { af with iC:=?_,ef:=λx ab=>af.ef x (gl x ab) };cases bC:I' r with
   |none=>rfl
   |some o=>
    exfalso;rcases dM _ _ bC with aa | ⟨x,ab,aa,_⟩;·rw[af.iC]at aa;cases aa
    ·exact af.ef x ab aa
  bR:=λs cs ar=>{ h.bR s cs ar with
   iC:=by
    cases bC:I' (β s)with
    |none=>rfl
    |some o=>
     exfalso;rcases dM _ _ bC with aa | ⟨x,ab,aa,_⟩;·rw[(h.bR s cs ar).iC]at aa;cases aa
     ·exact(h.bR s cs ar).ef x ab aa
   ef:=λx ab=>(h.bR s cs ar).ef x (gl x ab) }
  g9:=λb o ah=>cf b o (h.g9 b o ah)
  gT:=λb o ah=>by
   rcases dM b o ah with aa | ⟨x,ab,rfl,_,az⟩;·exact h.gT b o aa
   ·exact .inr ((h.own x ab).resolve_left az)
  own:=λx ab=>h.own x (gl x ab) }
section
variable{X:cB}{β:Nat->Nat}{a:Act}{w:World}{F:Fr}{C:dp}{I:aM}{M:List aE}{o:Oper}{Q:Exit->Act->World->Prop}{K:fD}
def O0(h:cg X β a w F C I M)(aj:∀ d,o.dst=some d->d<X.n)(bJ:∀ c,o.op≠.defer c){x:dd}(af:(execOp a.eval o).run X.P w=.ok (.value v) w)(ab:eb β x v)(ae:K (put o.dst x F) C I M):o.wpIn (f' X) 0 X.P a w (Sat X K) Q:=
 iE bJ af ⟨_,_,_,_,⟨β,h.put aj ab⟩,ae⟩
def sQ(h:cg X β a w F C I M)(aj:∀ d,o.dst=some d->d<X.n)(bJ:∀ c,o.op≠.defer c)(af:(execOp a.eval o).run X.P w=.ok (.value v) w)(ae:K (put o.dst (.val v) F) C I M):o.wpIn (f' X) 0 X.P a w (Sat X K) Q:=
 O0 (x:=.val v) h aj bJ af rfl ae
def mA(k:IntKind)(n:Int)(w:World)(P:Program):(asIntOf (.int k n)).run P w=.ok (k,n) w:=rfl
def IntKind.zs{k eS:IntKind}(h:IntKind.kP k eS=true):k=eS:=by cases k<;>cases eS<;>first | rfl | cases h
def mB(op:BinOp)(t:Nat)(x y:Operand)(k eS:IntKind)(n m:Int)(P:Program)(w:World):(eqGuard op t x y (.int k n) (.int eS m)).run P w=.ok () w:=by
 unfold eqGuard;cases op<;>rfl
def IH(op:BinOp)(t:Nat)(x y:Operand)(n m:ByteArray)(P:Program)(w:World):(eqGuard op t x y (.string n) (.string m)).run P w=.ok () w:=by
 unfold eqGuard;cases op<;>rfl
def O1(op:BinOp)(t:Nat)(x y:Operand)(n m:Bool)(P:Program)(w:World):(eqGuard op t x y (.bool n) (.bool m)).run P w=.ok () w:=by
 unfold eqGuard;cases op<;>rfl
def O2(a b:ByteArray):(a.toList == b.toList)=decide (a=b):=by
 rw[rq];simp only[beq_iff_eq,hk];constructor
 ·intro h;have aa:a.data.toList=b.data.toList:=by rw[ByteArray.toList_eq,ByteArray.toList_eq]at h;exact h
  cases a;cases b;simp only[ByteArray.mk.injEq];exact fZ aa
 ·intro h;rw[h]
def run_equal_bool{t:Nat}(hu:P.underlying t=some .bool)(a b:Bool)(w:World):(Op.equal t (.bool a) (.bool b)).run P w=.ok (a == b) w:=by
 have key:∀ d,(Op.equalIn (d+1) t (.bool a) (.bool b)).run P w=.ok (a == b) w:=λd=>by simp only[Op.equalIn,bV,run_underlying hu,bN,cH]
 exact key 9999
def Yn(aG:cw X.P X.E)(op:BinOp)(t:Nat)(x y:Operand)(u v:dd)(kB ub:Value)(ab:u=.val kB)(aD:v=.val ub)(O3:Value->Prop)(other:Prop)
  (h:kc op (X.E t) u v O3 other):other\/∃ r,(∀ w,(do eqGuard op t x y kB ub;binOp op t kB ub:Sem Value).run X.P w=.ok r w)/\O3 r:=by
 subst ab;subst aD;unfold kc at h;split at h
 ·rename_i k a eS b aA a0;cases aA;cases a0
  right
  split at h;·obtain⟨j,rfl,⟨r,af,ae⟩⟩:=h;refine⟨_,λw=>?_,ae⟩;simp only[bV,mB,bN,binOp,Op.shift];rw[ca (by omega)];simp[af]
  ·obtain⟨j,rfl,ae⟩:=h;refine⟨_,λw=>?_,ae⟩;simp only[bV,mB,bN,binOp,Op.shift];rw[ca (by omega)];simp
  ·rename_i fc mC;cases ei:IntKind.kP k eS with
   |false=>rw[ei]at h;exact h.elim
   |true=>
    rw[ei]at h;have hG:=IntKind.zs ei;subst hG;simp only[bZ]at h;cases op<;>simp only at h
    case add=>obtain⟨r,af,ae⟩:=h;exact⟨_,λw=>by simp[mB,binOp,Op.intArith,af],ae⟩
    case sub=>obtain⟨r,af,ae⟩:=h;exact⟨_,λw=>by simp[mB,binOp,Op.intArith,af],ae⟩
    case mul=>obtain⟨r,af,ae⟩:=h;exact⟨_,λw=>by simp[mB,binOp,Op.intArith,af],ae⟩
    case quo=>obtain⟨ay,r,af,ae⟩:=h;exact⟨_,λw=>by simp[mB,binOp,Op.intDiv,ay,af],ae⟩
    case rem=>obtain⟨ay,ae⟩:=h;exact⟨_,λw=>by simp[mB,binOp,Op.intDiv,ay],ae⟩
    case and=>exact⟨_,λw=>by simp[mB,binOp,Op.intBits,rv],h⟩
    case or=>exact⟨_,λw=>by simp[mB,binOp,Op.intBits,rv],h⟩
    case xor=>exact⟨_,λw=>by simp[mB,binOp,Op.intBits,rv],h⟩
    case andNot=>exact⟨_,λw=>by simp[mB,binOp,Op.intBits,rv],h⟩
    case shl=>exact(fc rfl).elim
    case shr=>exact(mC rfl).elim
    case eql=>exact⟨_,λw=>by simp only[bV,mB,bN,binOp,Op.intCmp,tV];simp;rfl,h⟩
    case neq=>exact⟨_,λw=>by simp only[bV,mB,bN,binOp,Op.intCmp,tV];simp;rfl,h⟩
    case lss=>exact⟨_,λw=>by simp[mB,binOp,Op.intCmp,tV],h⟩
    case leq=>exact⟨_,λw=>by simp[mB,binOp,Op.intCmp,tV],h⟩
    case gtr=>exact⟨_,λw=>by simp[mB,binOp,Op.intCmp,tV],h⟩
    case geq=>exact⟨_,λw=>by simp[mB,binOp,Op.intCmp,tV],h⟩
 ·rename_i a b aA a0;cases aA;cases a0;split at h
  ·exact .inr ⟨_,λw=>by simp only[bV,IH,bN,binOp,Op.stringOp,cH,O2],h⟩
  ·exact .inr ⟨_,λw=>by simp only[bV,IH,bN,binOp,Op.stringOp,cH,O2],h⟩
  ·exact .inl h
 ·rename_i a b aA a0;cases aA;cases a0;split at h
  ·rename_i c8 sz gS z aw;obtain⟨d,hu,aj⟩:=(aG _ _ aw).eW;have eJ:d=.bool:=by cases d<;>simp_all[eR]
   subst eJ;split at h;·exact .inr ⟨_,λw=>by simp only[bV,O1,bN,binOp,run_equal_bool hu,cH],h⟩
   ·exact .inr ⟨_,λw=>by simp only[bV,O1,bN,binOp,run_equal_bool hu,cH],h⟩
   ·exact .inl h
  ·exact .inl h
 ·exact .inl h
def II{args:Array Value}(h:Calls P f args w R)(n:Nat):CallsIn (f' X) n P f args w R:=by have aa:=(callsIn_wide (n:=n)).2 h;exact⟨trivial,λcs af=>aa.2 cs (room_wide _)⟩
def dT.part(h:dT I M w){dH Mr:List aE}(a3:M.Perm (dH++Mr)):dT I dH w:=by
 have gE:∀ x,x∈M ↔ x∈dH\/x∈Mr:=λx=>by rw[a3.mem_iff,cO]
 have bJ:((dH++Mr).map (·.num)).Nodup:=(a3.map (·.num)).nodup_iff.1 h.bX;rw[dc,sK]at bJ;exact⟨h.i,λx ab=>h.m x ((gE x).2 (.inl ab)),λx ab=>h.d x ((gE x).2 (.inl ab)),bJ.1⟩
def cg.after(h:cg X β a w F C I M){dH Mr M':List aE}{I':aM}(a3:M.Perm (dH++Mr))(oE:dT I' M' w')(eB:Kept I dH w I' M' w'):cg X β a w' F C I' (M'++Mr):=by
 have gE:∀ x,x∈M ↔ x∈dH\/x∈Mr:=λx=>by rw[a3.mem_iff,cO]
 have bJ:((dH++Mr).map (·.num)).Nodup:=(a3.map (·.num)).nodup_iff.1 h.holds.bX;rw[dc,sK]at bJ;have O4:∀ x∈Mr,∀ y∈dH,y.num≠x.num:=λx ab y aD=>bJ.2.2 y.num (cG.2 ⟨y,aD,rfl⟩) x.num (cG.2 ⟨x,ab,rfl⟩);have Yo:∀ x∈Mr,w'.heap[x.num]?=w.heap[x.num]?:=λx ab=>
  eB.dA x.num (h.holds.lt ((gE x).2 (.inr ab))) (O4 x ab)
 exact {
  size:=h.size
  defers:=h.defers.mono λr af=>by
   have aW:=(j9.1 af.ec).1;refine { ec:=?_,c4:=af.c4,iC:=?_,ef:=λx ab=>?_ };·rw[eB.dA _ aW (λy aD=>af.ef y ((gE y).2 (.inl aD)))];exact af.ec
   ·cases bC:I' r with
    |none=>rfl
    |some o=>
     exfalso;rcases eB.ry _ _ bC with aa | aa;·rw[af.iC]at aa;cases aa
     ·omega
   ·rcases cO.1 ab with ab | ab
    ·rcases eB.sM x ab with⟨z,a',xC⟩ | aa
     ·rw[<-xC];exact af.ef z ((gE z).2 (.inl a'))
     ·omega
    ·exact af.ef x ((gE x).2 (.inr ab))
  holds:={
   i:=oE.i
   m:=λx ab=>by
    rcases cO.1 ab with ab | ab;·exact oE.m x ab
    ·rw[Yo x ab];exact h.holds.m x ((gE x).2 (.inr ab))
   d:=λx ab=>by
    rcases cO.1 ab with ab | ab;·exact oE.d x ab
    ·cases bC:I' x.num with
     |none=>rfl
     |some o=>
      exfalso;rcases eB.ry _ _ bC with aa | aa;·have:=h.holds.d x ((gE x).2 (.inr ab));rw[this]at aa;cases aa
      ·have:=h.holds.lt ((gE x).2 (.inr ab));omega
   bX:=by
    rw[dc,sK];refine⟨oE.bX,bJ.2.1,λp aO q aK e=>?_⟩;obtain⟨x,ab,rfl⟩:=cG.1 aO;obtain⟨y,aD,rfl⟩:=cG.1 aK;rcases eB.sM x ab with⟨z,a',xC⟩ | aa;·exact O4 y aD z a' (xC.trans e)
    ·have:=h.holds.lt ((gE y).2 (.inr aD));omega }
  ak:=h.ak
  bR:=λs cs ar=>by
   have ah:=h.bR s cs ar;obtain⟨T,bl⟩:=ah.ec;refine { ec:=⟨T,?_⟩,c4:=ah.c4,iC:=?_,ef:=λx ab=>?_ };·rw[eB.dA _ ah.lt (λy aD=>ah.ef y ((gE y).2 (.inl aD)))];exact bl
   ·cases bC:I' (β s)with
    |none=>rfl
    |some o=>
     exfalso;rcases eB.ry _ _ bC with aa | aa;·rw[ah.iC]at aa;cases aa
     ·have:=ah.lt;omega
   ·rcases cO.1 ab with ab | ab
    ·rcases eB.sM x ab with⟨z,a',xC⟩ | aa
     ·rw[<-xC];exact ah.ef z ((gE z).2 (.inl a'))
     ·have:=ah.lt;omega
    ·exact ah.ef x ((gE x).2 (.inr ab))
  inj:=h.inj
  g9:=λb o ah=>eB.le b o (h.g9 b o ah)
  gT:=λb o ah=>by
   rcases eB.ry b o ah with aa | aa;·exact h.gT b o aa
   ·exact .inr (lj h.sz aa)
  own:=λx ab=>by
   rcases cO.1 ab with ab | ab
   ·rcases eB.sM x ab with⟨z,a',xC⟩ | aa
    ·rw[<-xC];exact h.own z ((gE z).2 (.inl a'))
    ·exact .inr (lj h.sz aa)
   ·exact h.own x ((gE x).2 (.inr ab))
  dA:=λb ah az=>by
   rw[eB.dA b (ES ah h.sz) (λy aD e=>by
    rcases h.own y ((gE y).2 (.inl aD))with aa | aa;·exact az (e ▸ aa)
    ·omega)]
   exact h.dA b ah az
  out:=h.out.trans eB.out
  sz:=lj h.sz eB.sz
  eI:=h.eI }
def cg.call(h:cg X β a w F C I M){KC:Value->aM->List aE->Prop}(au:bd X.foot P f args I M KC) :
  (Iz P f/\Calls P f args.toArray w λe w'=>∃ v I' M',e=.returned v/\KC v I' M'/\cg X β a w' F C I' M')\/(∃ v w' I' M',(callFunc f args.toArray).run P w=.ok (.value v) w'/\KC v I' M'/\cg X β a w' F C I' M'):=by
 obtain⟨cT,dH,Mr,post,hZ,⟨nM,ar⟩ | ar,ae⟩:=au.elim ⟨h.holds.d,h.holds.bX⟩<;>have h:=h.hs hZ<;>have a3:=List.Perm.refl (dH++Mr)
 ·refine .inl ⟨nM,?_⟩;refine(ar w (h.holds.part a3)).mono ?_;rintro e w'⟨v,I',M',rfl,aO,oE,eB⟩;have aY:=h.after a3 oE eB;exact⟨v,I',M'++Mr,rfl,ae v I' M' eB.le aY.holds.d aO,aY⟩
 ·obtain⟨v,w',I',M',af,aO,oE,eB⟩:=ar w (h.holds.part a3);have aY:=h.after a3 oE eB;exact .inr ⟨v,w',I',M'++Mr,af,ae v I' M' eB.le aY.holds.d aO,aY⟩
def O5{args:Array Value}(bJ:∀ c,o.op≠.defer c)(af:(execOp a.eval o).run X.P w=.ok (.enter f args) w)
  (au:Calls X.P f args w λe w'=>∃ v,e=.returned v/\next (a.put o.dst v) w'):o.wpIn (f' X) 0 X.P a w next Q:=by
 refine⟨λ_ _=>trivial,?_⟩;rw[ET _ _ _ bJ,af];refine⟨(λh=>by cases h),?_⟩;refine(II au _).mono ?_;rintro e w'⟨v,rfl,h⟩;exact h
def O6(z:Value)(er:List Value)(h:z.cells.toList=er)(n:Nat):(Array.range n).map (z.cells[· % z.cells.size]!)=(rowOf er n).toArray:=by subst h;apply fZ;simp[qv,madeCells]
def iZ.struct{t:Nat}{cb:List (Nat×Nat)}(h:iZ P t ⟨sz,gS,z,.struct cb⟩):∃ fields,P.underlying t=some (.struct fields)/\cb=fields.toList.map λf=>(f.type,f.offset):=by
 obtain⟨d,aa,ad⟩:=h.eW;cases d<;>simp[eR]at ad
 exact⟨_,aa,ad.symm⟩
def iZ.slice{t:Nat}(h:iZ P t ⟨sz,gS,z,.slice e⟩):P.underlying t=some (.slice e):=by
 obtain⟨d,aa,ad⟩:=h.eW;cases d<;>simp[eR]at ad
 rw[aa,ad]
def iZ.array{t:Nat}(h:iZ P t ⟨sz,gS,z,.array n e⟩):P.underlying t=some (.array n e):=by
 obtain⟨d,aa,ad⟩:=h.eW;cases d<;>simp[eR]at ad
 rw[aa,ad.1,ad.2]
def iZ.string{t:Nat}(h:iZ P t ⟨sz,gS,z,.string⟩):P.underlying t=some .string:=by
 obtain⟨d,aa,ad⟩:=h.eW;cases d<;>simp[eR]at ad
 exact aa
def iZ.int{P:Program}{t sz gS:Nat}{z:List Value}{k:IntKind}(h:iZ P t ⟨sz,gS,z,.int k⟩):P.underlying t=some (.int k):=by
 obtain⟨d,aa,ad⟩:=h.eW;cases d<;>simp[eR]at ad
 rw[aa,ad]
def O7{fields:Array Field}{i eI:Nat}(h:(fields.toList.map λf=>(f.type,f.offset))[i]?=some (eI,off)):∃ f,fields[i]?=some f/\f.type=eI/\f.offset=off:=by
 simp only[mr,Array.getElem?_toList]at h;cases az:fields[i]? with
 |none=>simp[az]at h| some f=>simp[az]at h;exact⟨f,rfl,h.1,h.2⟩
def IJ{t:Nat}{i:dt}(h:iZ P t i)(bg:off+i.size<=cs.size)(w:World):(part t cs off).run P w=.ok (pack i.bE.agg ((cs.toList.drop off).take i.size)) w:=by
 unfold part;simp only[bV,h.OX,bN];cases BE:i.bE.agg with
 |true=>simp only[pF,bV,h.run_sizeOf,bN,cH,pack,bZ];congr 2;apply fZ;simp[List.take_drop]
 |false=>
  have aa:=h.EU BE;rw[aa]at bg |-;have aW:off<cs.size:=by omega
  simp only[jF,ky,Iu aW,cH,pack,b0];congr 1;rw[e6 (by simpa using aW)];simp
def Yp{t:Nat}{aB:dt}(aw:P.underlying t=some (.slice e))(he:iZ P e aB){c:Nat}{j:Nat}(ai:j<n)(w:World) :
  (Instr.indexAt t (.slice (some aV) n c) (.int fg j)).run P w=.ok (.pointer (some (aV.add (j*aB.size)))) w:=by
 unfold Instr.indexAt;simp only[bV,mA,bN,run_underlying aw,cH];rw[ck ⟨by omega,by omega⟩];simp[he.run_sizeOf]
def O8{t:Nat}{aB:dt}(aw:P.underlying t=some (.array m e))(he:iZ P e aB){j:Nat}(ai:j<m)(w:World) :
  (Instr.indexAt t (.pointer (some aV)) (.int fg j)).run P w=.ok (.pointer (some (aV.add (j*aB.size)))) w:=by
 unfold Instr.indexAt;simp only[bV,mA,bN,run_underlying aw,cH,Instr.sureAddr];rw[ck ⟨by omega,by omega⟩];simp[he.run_sizeOf]
def O9{P:Program}{E:Env}(aG:cw P E)(w:World):∀ (fields:List Field),zp E (fields.map λf=>(f.type,f.offset))=true -> ∃ l:List (Nat×Nat),(fields.mapM λf=>(do pure (f.offset,<-sizeOf f.type):Sem (Nat×Nat))).run P w=.ok l w/\∀ i,l[i]?=places E (fields.map λf=>(f.type,f.offset)) i
 |[],_=>⟨[],rfl,λi=>by simp[places]⟩
 |f::cb,h=>by
  simp only[zp,cc,tT,b']at h;obtain⟨gu,nc⟩:=Option.isSome_iff_exists.1 h.1;obtain⟨l,aa,ad⟩:=O9 aG w cb h.2;refine⟨(f.offset,gu.size)::l,?_,λi=>?_⟩;·simp only[Bx,bV,(aG _ _ nc).run_sizeOf,bN,cH];rw[aa];rfl
  ·cases i with
   |zero=>simp[places,nc]| succ i=>simp only[EQ,ad];simp[places]
def O'(aG:cw X.P X.E)(h:cg X β a w F C I M){vv:dd->Prop}{other:Prop}(op:Op)(ty:TypeId)(dst:Option Tmp)(pos:String)(after:Array Edge)(guard:Option (Nat×Bool))(ag:b5 X op (cR F) C I M vv other) :
  other\/∃ v x,(execOp a.eval ⟨dst,op,ty,pos,after,guard⟩).run X.P w=.ok (.value v) w/\eb β x v/\vv x:=by
 have done:∀ {v x},(execOp a.eval ⟨dst,op,ty,pos,after,guard⟩).run X.P w=.ok (.value v) w->eb β x v->vv x->other\/∃ v x,(execOp a.eval ⟨dst,op,ty,pos,after,guard⟩).run X.P w=.ok (.value v) w/\eb β x v/\vv x:=
  λaa ad al=>.inr ⟨_,_,aa,ad,al⟩
 have gU:∀ {v},(execOp a.eval ⟨dst,op,ty,pos,after,guard⟩).run X.P w=.ok (.value v) w->vv (.val v)->other\/∃ v x,(execOp a.eval ⟨dst,op,ty,pos,after,guard⟩).run X.P w=.ok (.value v) w/\eb β x v/\vv x:=
  fun {v} aa al=>.inr ⟨v,.val v,aa,rfl,al⟩
 have az:=h.ak;cases op
 case move x=>exact done (by simp[execOp]) (tZ az x) ag
 case assign x=>exact done (by simp[execOp]) (tZ az x) ag
 case pick c p q=>
  simp only[b5]at ag;split at ag
  ·rename_i b ah;have au:=IC az ah;cases b
   ·exact done (by simp[execOp,au,asBool]) (tZ az q) ag
   ·exact done (by simp[execOp,au,asBool]) (tZ az p) ag
  ·rename_i b ah;have au:=rA az ah;refine done (v:=if b then a.eval p else a.eval q) (x:=EV b (bt F p) (bt F q)) (by simp[execOp,au,asBool]) ?_ ag;have aa:=OT az p;have ad:=OT az q;unfold EV;split
   ·rename_i x y aA a0;rw[aA]at aa;rw[a0]at ad;simp only[eb]at aa ad |-;cases b<;>simp[aa,ad]
   ·rename_i x y _ aA a0;rw[aA]at aa;rw[a0]at ad;simp only[eb]at aa ad |-;cases b<;>simp[aa,ad]
   ·trivial
  ·exact ag.elim
 case unOp op t x=>
  simp only[b5]at ag;split at ag;·rename_i b ah;exact done (v:=.bool (!b)) (x:=.lit (!b)) (by simp[execOp,IC az ah,Op.unary]) rfl ag
  ·rename_i b ah;exact gU (v:=.bool (!b)) (by simp[execOp,rA az ah,Op.unary]) ag
  ·rename_i k n ah;obtain⟨r,af,ae⟩:=ag;exact gU (v:=.int k r) (by simp only[execOp,rA az ah,Op.unary,Op.intArith,af];simp) ae
  ·exact Or.inl ag
 case binOp op t x y ty'=>
  simp only[b5]at ag;by_cases ab:∃ kB ub,bt F x=.val kB/\bt F y=.val ub
  ·obtain⟨kB,ub,ab,aD⟩:=ab;have fin:∀ r,(∀ w,(do eqGuard op t x y kB ub;binOp op t kB ub:Sem Value).run X.P w=.ok r w)->vv (.val r)->(other\/∃ v jJ,(execOp a.eval ⟨dst,.binOp op t x y ty',ty,pos,after,guard⟩).run X.P w=.ok (.value v) w/\eb β jJ v/\vv jJ):=λr af ae=>by refine gU (v:=r) ?_ ae;have:=af w;rw[<-cS az ab,<-cS az aD]at this;simp only[execOp];simp only[bV]at this |-;rw[this];rfl
   rcases Yn aG op t x y _ _ kB ub ab aD _ _ ag with(⟨xy,e9,r,aO,aK,af,ae⟩ | aa) | ⟨r,af,ae⟩;·rw[show cY (cR F) x=bt F x from rfl,ab]at aO;rw[show cY (cR F) y=bt F y from rfl,aD]at aK;cases aO;cases aK;exact fin r af ae
   ·exact Or.inl aa
   ·exact fin r af ae
  ·unfold kc at ag;split at ag
   ·rename_i aA a0;exact(ab ⟨_,_,aA,a0⟩).elim
   ·rename_i aA a0;exact(ab ⟨_,_,aA,a0⟩).elim
   ·rename_i aA a0;exact(ab ⟨_,_,aA,a0⟩).elim
   ·rcases ag with⟨xy,e9,r,aO,aK,af,ae⟩ | aa
    ·exact(ab ⟨_,_,aO,aK⟩).elim
    ·exact Or.inl aa
 case load t x=>
  simp only[b5]at ag;split at ag
  ·rename_i i hi;split at ag
   ·rename_i s off ab;have i':=xz az ab;split at ag
    ·rename_i cs ar;cases bg:Nat.ble (off+i.size) cs.length with
     |false=>rw[bg]at ag;exact ag.elim| true=>rw[bg]at ag;have pI:=bH bg;obtain⟨T,bl⟩:=(h.bR s cs ar).ec;refine gU (v:=pack i.bE.agg ((cs.drop off).take i.size)) ?_ ag;have:=EZ (aG _ _ hi) (a:=⟨β s,off,none⟩) rfl bl (vs:=(cs.drop off).take i.size) (by simp) (by simp;omega);simp[execOp,Instr.loadAt,Instr.sureAddr,i',this]
    ·exact ag.elim
   ·rename_i aV ab;have i':=rA az ab;obtain⟨vs,⟨cZ,cs,T,ak,e',hr,av⟩,ae⟩:=ag;refine gU (v:=pack i.bE.agg vs) ?_ ae;have:=EZ (aG _ _ hi) cZ (e'.heap h.holds) hr av;simp[execOp,Instr.loadAt,Instr.sureAddr,i',this]
   ·exact ag.elim
  ·exact ag.elim
 case nilCheck x=>
  simp only[b5]at ag;split at ag;·rename_i s off ab;exact done (v:=.pointer (some ⟨β s,off,none⟩)) (x:=.ref s off) (by simp[execOp,xz az ab]) rfl ag
  ·rename_i aV ab;exact gU (v:=.pointer (some aV)) (by simp[execOp,rA az ab]) ag
  ·exact Or.inl ag
 case fieldAddr t x i=>
  simp only[b5]at ag;split at ag
  ·rename_i sz gS z cb aw;obtain⟨fields,hu,rfl⟩:=(aG _ _ aw).struct;split at ag
   ·rename_i eI off oF;obtain⟨f,sR,rfl,rfl⟩:=O7 oF;split at ag
    ·rename_i gu s o' nc ab;cases a':Nat.beq gu.size 0 with
     |true=>rw[a']at ag;exact ag.elim
     |false=>
      rw[a']at ag;have gv:gu.size≠0:=λe=>by rw[e]at a';cases a'
      refine done (v:=.pointer (some ⟨β s,o'+f.offset,none⟩)) (x:=.ref s (o'+f.offset)) ?_ rfl ag;simp[execOp,Instr.fieldAt,run_underlying hu,sR,xz az ab,Instr.sureAddr,fieldPlace,(aG _ _ nc).run_sizeOf,gv,dY]
    ·rename_i gu aV nc ab;cases a':Nat.beq gu.size 0 with
     |true=>rw[a']at ag;exact ag.elim
     |false=>
      rw[a']at ag;have gv:gu.size≠0:=λe=>by rw[e]at a';cases a'
      refine gU (v:=.pointer (some (aV.add f.offset))) ?_ ag;simp[execOp,Instr.fieldAt,run_underlying hu,sR,rA az ab,Instr.sureAddr,fieldPlace,(aG _ _ nc).run_sizeOf,gv]
    ·exact ag.elim
   ·exact ag.elim
  ·exact ag.elim
 case field t x i=>
  simp only[b5]at ag;split at ag
  ·rename_i sz gS z cb cs aw ab;obtain⟨fields,hu,rfl⟩:=(aG _ _ aw).struct;split at ag
   ·rename_i eI off oF;obtain⟨f,sR,rfl,rfl⟩:=O7 oF;split at ag
    ·rename_i gu nc;cases a':Nat.ble (f.offset+gu.size) cs.size with
     |false=>rw[a']at ag;exact ag.elim| true=>rw[a']at ag;refine gU ?_ ag;simp[execOp,Instr.field,run_underlying hu,sR,cS az ab,asAgg,IJ (aG _ _ nc) (bH a')]
    ·exact ag.elim
   ·exact ag.elim
  ·exact ag.elim
 case indexAddr t x i=>
  simp only[b5]at ag;split at ag
  ·rename_i sz gS z e fg k aw hi;have hu:=(aG _ _ aw).slice;split at ag
   ·rename_i aB bF n c gF ab;obtain⟨aV,j,rfl,rfl,ai,ae⟩:=ag;refine gU ?_ ae;simp[execOp,cS az ab,cS az hi,Yp hu (aG _ _ gF) ai]
   ·exact ag.elim
  ·rename_i sz gS z n e fg k aw hi;have hu:=(aG _ _ aw).array;split at ag
   ·rename_i aB s o' gF ab;obtain⟨j,rfl,ai,ae⟩:=ag;refine done (v:=.pointer (some ⟨β s,o'+j*aB.size,none⟩)) (x:=.ref s (o'+j*aB.size)) ?_ rfl ae;simp[execOp,xz az ab,cS az hi,O8 hu (aG _ _ gF) ai,dY]
   ·rename_i aB aV gF ab;obtain⟨j,rfl,ai,ae⟩:=ag;refine gU ?_ ae;simp[execOp,rA az ab,cS az hi,O8 hu (aG _ _ gF) ai]
   ·exact ag.elim
  ·exact ag.elim
 case index t x i=>
  simp only[b5]at ag;split at ag;·rename_i sz gS z s fg k aw ab hi;have hu:=(aG _ _ aw).string;obtain⟨j,rfl,ai,ae⟩:=ag;refine gU ?_ ae;simp only[execOp,cS az ab,cS az hi,Instr.index,bV,mA,bN,run_underlying hu];rw[ck (by omega:(0:Int)<=j)];simp[ai]
  ·rename_i sz gS z n e cs fg k aw ab hi;have hu:=(aG _ _ aw).array;split at ag
   ·rename_i aB gF;cases a':Nat.beq (n*aB.size) cs.size with
    |false=>rw[a']at ag;exact ag.elim
    |true=>
     rw[a']at ag;obtain⟨j,rfl,ai,ae⟩:=ag;have gv:=dr a';refine gU ?_ ae;have bg:j*aB.size+aB.size<=cs.size:=by rw[<-gv,<-Nat.succ_mul];exact mq _ ai
     simp only[execOp,cS az ab,cS az hi,Instr.index,bV,mA,bN,run_underlying hu];rw[ck ⟨by omega,by omega⟩];simp[(aG _ _ gF).run_sizeOf,IJ (aG _ _ gF) bg]
   ·exact ag.elim
  ·exact ag.elim
 case build t parts=>
  simp only[b5]at ag;split at ag
  ·rename_i i vs hi hr;have aO:=EW az hr;have vw:(parts.map λ(i,x)=>(i,a.eval x)).toList=vs:=by simpa using aO
   obtain⟨z,a',uc⟩:=(aG _ _ hi).BD w;have zt:z.cells=i.zero.toArray:=by rw[<-uc]
   split at ag
   ·rename_i cb lY;cases bo:zp X.E cb with
    |false=>rw[bo]at ag;exact ag.elim
    |true=>
     rw[bo]at ag;simp only[bZ]at ag;split at ag
     ·rename_i cells xD;obtain⟨sz,gS,Yq,bE⟩:=i;simp only at lY;subst lY;obtain⟨fields,hu,rfl⟩:=(aG _ _ hi).struct;obtain⟨l,av,lZ⟩:=O9 aG w fields.toList bo;refine gU ?_ ag;have hm:(fields.mapM λf=>(do pure (f.offset,<-sizeOf f.type):Sem (Nat×Nat))).run X.P w=.ok l.toArray w:=by rw[OS,Sem.run_map,av];rfl
      have sS:=fill_eq _ _ _ _ xD;have Yr:(λj=>l.toArray[j]?)=places X.E (fields.toList.map λf=>(f.type,f.offset)):=by funext j;rw[<-lZ j];simp
      simp only[execOp,Instr.build,bV,a',bN,run_underlying hu,zt,vw];rw[hm];simp only[bN,Yr,sS,cH]
     ·exact ag.elim
   ·rename_i n e lY;split at ag
    ·rename_i aB gF;split at ag
     ·rename_i cells xD;obtain⟨sz,gS,Yq,bE⟩:=i;simp only at lY;subst lY;have hu:=(aG _ _ hi).array;refine gU ?_ ag;have sS:=fill_eq _ _ _ _ xD;simp only[execOp,Instr.build,bV,a',bN,run_underlying hu,zt,vw,(aG _ _ gF).run_sizeOf,sS,cH]
     ·exact ag.elim
    ·exact ag.elim
   ·exact ag.elim
  ·exact ag.elim
 case makeFunc fn first captured=>
  simp only[b5]at ag;split at ag
  ·rename_i cb cs aa ad;have aA:=qw az aa;have a0:=qw az ad;refine gU ?_ ag;have dD:first.map a.eval=cb.toArray:=by apply fZ;simpa using aA
   have oG:captured.map a.eval=cs.toArray:=by apply fZ;simpa using a0
   simp[execOp,Instr.makeFunc,dD,oG]
  ·exact ag.elim
 case slice t x lo hi mx=>
  simp only[b5]at ag;split at ag
  ·rename_i sz gS z e bF n c aw ab hl;have IK:mx=none:=by simpa using hl
   subst IK;have hu:=(aG _ _ aw).slice;have i':=cS az ab;split at ag
   ·rename_i aB gF dG fO;have rC:lo=none:=by simpa using dG
    have xE:hi=none:=by simpa using fO
    subst rC;subst xE;refine gU ?_ ag;have aA:(if c=0 then bF else bF.map (·.add (0*aB.size)))=bF:=by split<;>cases bF<;>simp[Addr.add]
    simp[execOp,Instr.sliceAt,Instr.slice,Instr.sliceBounds,i',run_underlying hu,(aG _ _ gF).run_sizeOf,Addr.add]
   ·rename_i aB fg jK gF dG fO;have rC:lo=none:=by simpa using dG
    subst rC;obtain⟨E1,rfl,cK⟩:=qq.1 fO;obtain⟨l,ad,xF,rfl,bg,zu,ae⟩:=ag;refine gU ?_ ae;simp only[execOp,Instr.sliceAt,Instr.slice,Instr.sliceBounds,Instr.sliceBound,i',bV,run_underlying hu,bN,(aG _ _ gF).run_sizeOf,cH,ka,rr,cS az cK,mA];rw[ck ⟨by omega,by omega⟩];simp[Addr.add]
   ·rename_i aB fg gm gF dG fO;have xE:hi=none:=by simpa using fO
    subst xE;obtain⟨IL,rfl,cK⟩:=qq.1 dG;obtain⟨l,ad,rfl,xG,bg,zu,ae⟩:=ag;simp only[rp,jG]at *;refine gU ?_ ae;simp only[execOp,Instr.sliceAt,Instr.slice,Instr.sliceBounds,Instr.sliceBound,i',bV,run_underlying hu,bN,(aG _ _ gF).run_sizeOf,cH,ka,rr,cS az cK,mA];rw[ck ⟨by omega,by omega⟩];simp
   ·rename_i aB fg gm Ys jK gF dG fO;obtain⟨IL,rfl,cK⟩:=qq.1 dG;obtain⟨E1,rfl,xH⟩:=qq.1 fO;obtain⟨l,ad,rfl,rfl,bg,zu,ae⟩:=ag;refine gU ?_ ae;simp only[execOp,Instr.sliceAt,Instr.slice,Instr.sliceBounds,Instr.sliceBound,i',bV,run_underlying hu,bN,(aG _ _ gF).run_sizeOf,cH,ka,rr,cS az cK,cS az xH,mA];rw[ck ⟨by omega,by omega⟩];simp only[cH,bN,kx];rw[ck ⟨by omega,by omega⟩];simp
   ·exact ag.elim
  ·rename_i sz gS z s aw ab hl;have IK:mx=none:=by simpa using hl
   subst IK;have hu:=(aG _ _ aw).string;have i':=cS az ab;split at ag
   ·rename_i dG fO;have rC:lo=none:=by simpa using dG
    have xE:hi=none:=by simpa using fO
    subst rC;subst xE;refine gU ?_ ag;have aA:s.extract 0 s.size=s:=by apply sL;simp[ER]
    simp[execOp,Instr.sliceAt,Instr.slice,Instr.sliceBounds,i',run_underlying hu,aA]
   ·rename_i fg jK dG fO;have rC:lo=none:=by simpa using dG
    subst rC;obtain⟨E1,rfl,cK⟩:=qq.1 fO;obtain⟨l,ad,xF,rfl,bg,zu,ae⟩:=ag;refine gU ?_ ae;simp only[execOp,Instr.sliceAt,Instr.slice,Instr.sliceBounds,Instr.sliceBound,i',bV,run_underlying hu,bN,cH,ka,rr,cS az cK,mA];simp only[Ix,jF,ky,bV,cH,bN,mA];rw[ck ⟨by omega,by omega⟩];simp
   ·rename_i fg gm dG fO;have xE:hi=none:=by simpa using fO
    subst xE;obtain⟨IL,rfl,cK⟩:=qq.1 dG;obtain⟨l,ad,rfl,xG,bg,zu,ae⟩:=ag;simp only[rp,jG]at *;refine gU ?_ ae;simp only[execOp,Instr.sliceAt,Instr.slice,Instr.sliceBounds,Instr.sliceBound,i',bV,run_underlying hu,bN,cH,ka,rr,cS az cK,mA];simp only[Ix,jF,ky,bV,cH,bN,mA];rw[ck ⟨by omega,by omega⟩];simp
   ·rename_i fg gm Ys jK dG fO;obtain⟨IL,rfl,cK⟩:=qq.1 dG;obtain⟨E1,rfl,xH⟩:=qq.1 fO;obtain⟨l,ad,rfl,rfl,bg,zu,ae⟩:=ag;refine gU ?_ ae;simp only[execOp,Instr.sliceAt,Instr.slice,Instr.sliceBounds,Instr.sliceBound,i',bV,run_underlying hu,bN,cH,ka,rr,cS az cK,cS az xH,mA];simp only[Ix,jF,ky,bV,cH,bN,mA];rw[ck ⟨by omega,by omega⟩];simp only[cH,bN,kx];rw[ck ⟨by omega,by omega⟩];simp
   ·exact ag.elim
  ·rename_i sz gS z e bF n c alb xI aw ab hl;obtain⟨alc,rfl,Yt⟩:=qq.1 hl;have hu:=(aG _ _ aw).slice;have i':=cS az ab;split at ag
   ·rename_i aB fg jK gF dG fO;have rC:lo=none:=by simpa using dG
    subst rC;obtain⟨E1,rfl,cK⟩:=qq.1 fO;obtain⟨l,m,rfl,rfl,bg,zu,ae⟩:=ag;refine gU ?_ ae;simp only[execOp,Instr.sliceAt,Instr.slice,Instr.sliceBounds,Instr.sliceBound,i',bV,run_underlying hu,bN,(aG _ _ gF).run_sizeOf,cH,ka,rr,cS az cK,cS az Yt,mA];rw[ck ⟨by omega,by omega⟩];simp only[cH,bN,kx];rw[ck ⟨by omega,by omega⟩];simp only[cH,bN,kx]
   ·exact Or.inl ag
  ·exact Or.inl ag
 case extract x i=>
  simp only[b5]at ag;split at ag
  ·rename_i vs ab;split at ag
   ·rename_i v hi;refine gU ?_ ag;have ct:vs[i]?=some v:=by simpa using hi
    simp[execOp,Instr.extract,cS az ab,ct]
   ·exact ag.elim
  ·exact ag.elim
 case convert s d x=>
  simp only[b5]at ag;split at ag;·rename_i ald sz gS z k eS n ar aw ab;have hu:=(aG _ _ aw).int;obtain⟨ds,fh,_⟩:=(aG _ _ ar).eW;obtain⟨r,af,ae⟩:=ag;refine gU ?_ ae;simp only[execOp,convert,cS az ab,bV,run_underlying fh,run_underlying hu,bN];simp only[Conv.intToInt,af,cH,bN]
  ·exact Or.inl ag
 case call c=>
  obtain⟨callee,args,argTypes⟩:=c;cases callee with
  |value f=>exact .inl ag| invoke r m=>exact .inl ag
  |builtin b=>
   cases b
   case len=>
    simp only[b5]at ag;split at ag
    ·rename_i t v aa ad;have aA:=qw az ad;have dD:args.map a.eval=#[v]:=by apply fZ;simpa using aA
     have aw:argTypes=#[t]:=by apply fZ;simpa using aa
     subst aw;split at ag;·rename_i sz gS z e aV n c bl;have hu:=(aG _ _ bl).slice;refine gU ?_ ag;simp[execOp,resolve,invoke,builtin,Builtin.len_,dD,run_underlying hu,goInt]
     ·rename_i sz gS z s bl;have hu:=(aG _ _ bl).string;refine gU ?_ ag;simp[execOp,resolve,invoke,builtin,Builtin.len_,dD,run_underlying hu,goInt]
     ·rename_i sz gS z n e bl;have hu:=(aG _ _ bl).array;refine gU ?_ ag;simp[execOp,resolve,invoke,builtin,Builtin.len_,dD,run_underlying hu,goInt]
     ·exact Or.inl ag
    ·exact Or.inl ag
   case cap=>
    simp only[b5]at ag;split at ag
    ·rename_i t v aa ad;have aA:=qw az ad;have dD:args.map a.eval=#[v]:=by apply fZ;simpa using aA
     have aw:argTypes=#[t]:=by apply fZ;simpa using aa
     subst aw;split at ag;·rename_i sz gS z e aV n c bl;have hu:=(aG _ _ bl).slice;refine gU ?_ ag;simp[execOp,resolve,invoke,builtin,Builtin.cap_,dD,run_underlying hu,goInt]
     ·exact Or.inl ag
    ·exact Or.inl ag
   case max=>
    simp only[b5]at ag;split at ag
    ·rename_i k p eS q ad;have aA:=qw az ad;have dD:args.map a.eval=#[.int k p,.int eS q]:=by apply fZ;simpa using aA
     refine gU ?_ ag;have hm:(if q > p then q else p)=max p q:=by split<;>omega
     simp only[execOp,resolve,invoke,builtin,Builtin.max_,Builtin.max2,dD,bV,cH,bN,List.foldlM_cons,List.foldlM_nil,hm]
    ·exact Or.inl ag
   case min=>
    simp only[b5]at ag;split at ag
    ·rename_i k p eS q ad;have aA:=qw az ad;have dD:args.map a.eval=#[.int k p,.int eS q]:=by apply fZ;simpa using aA
     refine gU ?_ ag;have hm:(if q<p then q else p)=min p q:=by split<;>omega
     simp only[execOp,resolve,invoke,builtin,Builtin.min_,Builtin.min2,dD,bV,cH,bN,List.foldlM_cons,List.foldlM_nil,hm]
    ·exact Or.inl ag
   case unsafeSliceData=>
    simp only[b5]at ag;split at ag
    ·rename_i n c ad;have aA:=qw az ad;have dD:args.map a.eval=#[.slice none n c]:=by apply fZ;simpa using aA
     refine gU ?_ ag;simp only[execOp,resolve,invoke,builtin,dD,bV,cH,bN,Lib.run_unsafeSliceData_nil]
    ·rename_i aV n c ad;obtain⟨al,ag⟩:=ag;have aA:=qw az ad;have dD:args.map a.eval=#[.slice (some aV) n c]:=by apply fZ;simpa using aA
     refine gU ?_ ag;simp only[execOp,resolve,invoke,builtin,dD,bV,cH,bN,Lib.run_unsafeSliceData_row _ _ _ _ _ _ (show c≠0 by omega)]
    ·exact Or.inl ag
   all_goals exact .inl ag
 all_goals exact .inl ag
def zv(aG:cw X.P X.E)(aj:∀ d,o.dst=some d->d<X.n)(h:Rel X a w F C I M)(ag:fP X o F C I M K):o.wpIn (f' X) 0 X.P a w (Sat X K) Q:=by
 have aX:=h;obtain⟨β,h⟩:=h;obtain⟨dst,op,ty,pos,after,guard⟩:=o;have other:br X ⟨dst,op,ty,pos,after,guard⟩ F C I M K->(⟨dst,op,ty,pos,after,guard⟩:Oper).wpIn (f' X) 0 X.P a w (Sat X K) Q:=λ⟨h⟩=>h a w Q aX;have az:=h.ak;have quiet:b5 X op (cR F) C I M (λx=>K (Go.V.put dst x F) C I M) (br X ⟨dst,op,ty,pos,after,guard⟩ F C I M K)->(∀ c,op≠.defer c)->(⟨dst,op,ty,pos,after,guard⟩:Oper).wpIn (f' X) 0 X.P a w (Sat X K) Q:=λaK bJ=>by
  rcases O' aG h op ty dst pos after guard aK with aa | ⟨v,x,af,ab,ae⟩;·exact other aa
  ·exact O0 (o:=⟨dst,op,ty,pos,after,guard⟩) h aj bJ af ab ae
 cases op
 case box t x=>
  simp only[fP]at ag;split at ag
  ·rename_i d v ab;have i':=cS az ab;have af:(execOp a.eval ⟨some d,.box t x,ty,pos,after,guard⟩).run X.P w=.ok (.value (.pointer (some ⟨w.heap.size,0,none⟩))) (w.alloc (.cells v.cells t (0,0))):=by simp[execOp,Instr.box,newVar,newRow,i',xu]
   have g':d<X.n:=aj d rfl;cases ja:X.fs.contains d with
   |true=>rw[ja]at ag;obtain⟨ag⟩:=ag;have ae:=ag w.heap.size h.holds.pH h.holds.oD;have aa:=(h.nb (.cells v.cells t (0,0))).IG d;exact iE (by simp) af ⟨_,_,_,_,⟨β,cg.put aa (dst:=some d) (x:=.val (.pointer (some ⟨w.heap.size,0,none⟩))) (by simpa using g') rfl⟩,ae⟩
   |false=>rw[ja]at ag;obtain⟨mw,aa⟩:=h.OW d g' v.cells.toList t;exact iE (by simp) af ⟨_,_,_,_,⟨mw,by simpa using aa⟩,ag⟩
  ·exact ag.elim
 case alloc t=>
  simp only[fP]at ag;split at ag
  ·rename_i d i hi;obtain⟨z,a',uc⟩:=(aG _ _ hi).BD w;have zt:z.cells=i.zero.toArray:=by rw[<-uc]
   have af:(execOp a.eval ⟨some d,.alloc t,ty,pos,after,guard⟩).run X.P w=.ok (.value (.pointer (some ⟨w.heap.size,0,none⟩))) (w.alloc (.cells i.zero.toArray t (0,0))):=by simp[execOp,Instr.alloc,newVar,newRow,a',zt,xu]
   have g':d<X.n:=aj d rfl;cases ja:X.fs.contains d with
   |true=>rw[ja]at ag;obtain⟨ag⟩:=ag;have ae:=ag w.heap.size h.holds.pH h.holds.oD;have aa:=(h.nb (.cells i.zero.toArray t (0,0))).IG d;exact iE (by simp) af ⟨_,_,_,_,⟨β,cg.put aa (dst:=some d) (x:=.val (.pointer (some ⟨w.heap.size,0,none⟩))) (by simpa using g') rfl⟩,ae⟩
   |false=>rw[ja]at ag;obtain⟨mw,aa⟩:=h.OW d g' i.zero t;exact iE (by simp) af ⟨_,_,_,_,⟨mw,aa⟩,ag⟩
  ·exact ag.elim
 case store t x y=>
  simp only[fP]at ag;split at ag
  ·rename_i i v hi aD;have qy:=cS az aD;split at ag
   ·rename_i s off ab;have i':=xz az ab;split at ag
    ·rename_i cs ar;cases bg:(Nat.ble (off+i.size) cs.length&&(Nat.beq v.cells.size i.size&&fN v.cells.toList))with
     |false=>rw[bg]at ag;exact ag.elim| true=>rw[bg]at ag;simp only[b']at bg;obtain⟨bg,cx,pJ⟩:=bg;have pI:=bH bg;have xJ:=dr cx;obtain⟨T,bl⟩:=(h.bR s cs ar).ec;have:=E0 (aG _ _ hi) (a:=⟨β s,off,none⟩) (v:=v) rfl bl xJ (by simp;omega) pJ;refine zq (by simp) (w':=w.setRow (β s) (bQ cs off v.cells.toList).toArray) ?_ ⟨_,_,_,_,⟨β,h.OY ar (bQ cs off v.cells.toList)⟩,ag⟩;simp only[execOp,Instr.storeAt,i',qy,Instr.sureAddr,bV,cH,bN];simp only[Iv]at this;rw[this];rfl
    ·exact ag.elim
   ·rename_i aV ab;have i':=rA az ab;cases cx:Nat.beq v.cells.size i.size with
    |false=>rw[cx]at ag;exact ag.elim| true=>rw[cx]at ag;obtain⟨a5,post,cs,T,a3,cZ,ah,pJ,ae⟩:=ag;have xJ:=dr cx;have ax:w.heap[aV.block]?=some (.cells cs T (0,0)):=h.holds.m ⟨aV.block,.cells cs T (0,0)⟩ (by rw[a3];simp);have:=E0 (aG _ _ hi) (v:=v) cZ ax xJ ah pJ;refine zq (by simp) (w':=w.setRow aV.block (bQ cs.toList aV.off v.cells.toList).toArray) ?_ ⟨_,_,_,_,⟨β,h.vu a3⟩,ae⟩;simp only[execOp,Instr.storeAt,i',qy,Instr.sureAddr,bV,cH,bN];rw[this];rfl
   ·exact ag.elim
  ·exact ag.elim
 case buildSlice t len parts=>
  simp only[fP]at ag;split at ag
  ·rename_i sz gS z e vs aw hr;have hu:=(aG _ _ aw).slice;have aO:=EW az hr;have vw:(parts.map λ(i,x)=>(i,a.eval x)).toList=vs:=by simpa using aO
   split at ag
   ·rename_i aB gF;cases a':(Nat.ble (len*aB.size) 16777216&&Nat.blt 0 (len*aB.size))with
    |false=>
     rw[a']at ag;simp only[b0]at ag;split at ag
     ·rename_i Yu;obtain⟨ag⟩:=ag;have ae:=ag w.heap.size h.holds.pH h.holds.oD;refine iE (by simp) (v:=.slice (some ⟨w.heap.size,0,none⟩) 0 0) (w':=w.alloc (.cells #[] e (0,0))) ?_ ⟨_,_,_,_,⟨β,(h.nb _).put (x:=.val (.slice (some ⟨w.heap.size,0,none⟩) 0 0)) aj rfl⟩,ae⟩;simp only[execOp,Instr.buildSlice,bV,bN,run_underlying hu,(aG _ _ gF).run_sizeOf,vw];have c1:∀ f:Nat->Value,Array.map f (Array.range 0)=#[]:=λf=>by apply Array.ext<;>simp
      simp[newRow,xu,Instr.fill,c1]
     ·exact ag.elim
    |true=>
     rw[a']at ag;simp only[bZ]at ag;rw[b']at a';have bg:=bH a'.1;have lp:0<len*aB.size:=by simpa using a'.2
     split at ag;·rename_i cells xD;obtain⟨qz,xK,uc⟩:=(aG _ _ gF).BD w;obtain⟨ag⟩:=ag;have ae:=ag w.heap.size h.holds.pH h.holds.oD;refine iE (by simp) (v:=.slice (some ⟨w.heap.size,0,none⟩) len len) (w':=w.alloc (.cells cells.toArray e (0,0))) ?_ ⟨_,_,_,_,⟨β,(h.nb _).put (x:=.val (.slice (some ⟨w.heap.size,0,none⟩) len len)) aj rfl⟩,ae⟩;have sS:=fill_eq _ _ _ _ xD;simp only[execOp,Instr.buildSlice,bV,bN,run_underlying hu,(aG _ _ gF).run_sizeOf];rw[ca (by omega)];simp only[ca (show ¬ len*aB.size=0 by omega),bV,xK,bN,cH,vw,O6 qz aB.zero uc,sS];simp[newRow,xu]
     ·exact ag.elim
   ·exact ag.elim
  ·exact ag.elim
 case makeSlice t l c=>
  simp only[fP]at ag;split at ag
  ·rename_i sz gS z e eC ed c5 c' aw av au;have hu:=(aG _ _ aw).slice;split at ag
   ·rename_i aB gF;obtain⟨n,m,rfl,rfl,nN,ah,hm,⟨ag⟩⟩:=ag;have ae:=ag w.heap.size h.holds.pH h.holds.oD;obtain⟨inf,qz,fq,h0,ik,kC,xL⟩:=(aG _ _ gF).inf;refine iE (by simp) (v:=.slice (some ⟨w.heap.size,0,none⟩) n m) (w':=w.alloc (.cells (rowOf aB.zero (m*aB.size)).toArray e (0,0))) ?_ ⟨_,_,_,_,⟨β,(h.nb _).put (x:=.val (.slice (some ⟨w.heap.size,0,none⟩) n m)) aj rfl⟩,ae⟩;have iG:((aB.bytes:Nat):Int)*(m:Int)<=281474976710656:=by
     have ad:((aB.bytes*m:Nat):Int)<=281474976710656:=by omega
     simpa using ad
    have:=run_make (P:=X.P) w t e inf qz hu fq kC eC c5 (n:Int) (m:Int) (by omega) (by omega) (by rw[ik];exact iG) (by omega);simp only[execOp,cS az av,cS az au,bV,this,bN,cH,kx];have aA:madeCells qz.cells (m*inf.size)=(rowOf aB.zero (m*aB.size)).toArray:=by rw[h0,<-xL];simp[qv]
    rw[aA]
   ·exact ag.elim
  ·exact ag.elim
 case call c=>
  obtain⟨callee,args,argTypes⟩:=c;cases callee with
  |value f=>
   simp only[fP]at ag;split at ag
   ·rename_i g first cap vs vx hr
    have aA:=qw az hr;have dD:args.map a.eval=vs.toArray:=by apply fZ;simpa using aA
    have eT:∀ {n:Next} {w':World},(callFunc g (first.toList++vs++cap.toList).toArray).run X.P w=.ok n w'->(execOp a.eval ⟨dst,.call { callee:=.value f,args,argTypes },ty,pos,after,guard⟩).run X.P w=.ok n w':=λaf=>by simp only[execOp,resolve,cS az vx,Deferred.ofValue,bV,cH,bN,dD,invoke];rw[show first++vs.toArray++cap=(first.toList++vs++cap.toList).toArray from by apply fZ;simp];exact af
    rcases h.call ag with⟨nM,xM⟩ | ⟨v,w',I',M',af,ae,gw⟩;·refine O5 (by simp) (f:=g) (args:=(first.toList++vs++cap.toList).toArray) (eT (nM _ _)) ?_;refine xM.mono ?_;rintro e w'⟨v,I',M',rfl,ae,af⟩;exact⟨v,rfl,_,_,_,_,⟨β,af.put (x:=.val v) aj rfl⟩,ae⟩
    ·exact iE (by simp) (eT af) ⟨_,_,_,_,⟨β,gw.put (x:=.val v) aj rfl⟩,ae⟩
   ·exact other ag
  |invoke r m=>exact quiet ag (by simp)
  |builtin b=>
   cases b
   all_goals exact quiet ag (by simp)
 case defer c=>exact other ag
 all_goals exact quiet ag (by simp)
end
section
variable{X:cB}{β:Nat->Nat}{a:Act}{w:World}{F:Fr}{C:dp}{I:aM}{M:List aE}{o:Oper}{Q:Exit->Act->World->Prop}{K:fD}
def zw{a:Act}{d:Nat}{c:Bool}(h:a.tmps.getD d undef=.bool c):a.tmps[d]?=some (.bool c):=by
 rw[m9]at h;cases aj:a.tmps[d]? with
 |none=>rw[aj]at h;cases h| some v=>rw[aj]at h;simp at h;rw[h]
def BG{j d:Nat}(aj:(ops[j]?).bind (·.dst)=some d)(tmps:Array Value):yielded ops tmps j=match tmps[d]? with
  |some (.bool b)=>some b| _=>none:=by
 unfold yielded;rw[aj];rfl
def cg.refine(h:cg X β a w F C I M){F':Fr}(bf:∀ t,eb β (F' t) (a.tmps.getD t undef)):cg X β a w F' C I M:={ h with ak:=bf }
def Pa(aG:cw X.P X.E)(ops:Array Oper)(oH:∀ a w,Sat X K a w->Q .normal a w):∀ (l:List Oper) (k:Nat),(∀ j,l[j]?=ops[k+j]?)->(∀ o∈l,∀ d,o.dst=some d->d<X.n) -> ∀ {F C I M a w},Rel X a w F C I M->rz X ops.toList l F C I M K->wpOpsIn (f' X) 0 X.P ops Q (List.range' k l.length) a w
 |[],k,_,_,F,C,I,M,a,w,aX,ag=>oH _ _ ⟨F,C,I,M,aX,ag⟩
 |o::bc,k,av,aj,F,C,I,M,a,w,aX,ag=>by
  have ay:ops[k]?=some o:=by simpa using(av 0).symm
  have jm:∀ j,bc[j]?=ops[k+1+j]?:=λj=>by have:=av (j+1);simpa[qs,By 1 j]using this
  have eJ:∀ o∈bc,∀ d,o.dst=some d->d<X.n:=λo aC=>aj o (by simp[aC]);have vy:=aj o (by simp);have aR:=@Pa aG ops oH bc (k+1) jm eJ;simp only[ea,Iy,wpOpsIn,ay];have run:∀ {F C I M},Rel X a w F C I M->fP X o F C I M (λF C I M=>rz X ops.toList bc F C I M K)->o.wpIn (f' X) 0 X.P a w (wpOpsIn (f' X) 0 X.P ops Q (List.range' (k+1) bc.length)) Q:=λaX ag=>
   rs (λbF w' ⟨F',C',I',M',af,ae⟩=>aR af ae) (zv aG vy aX ag)
  have skip:∀ {F C I M},Rel X a w F C I M->rz X ops.toList bc (put o.dst (.val undef) F) C I M K->(∀ f,o.about X.P w a.eval=some f->(f' X).fn f)/\wpOpsIn (f' X) 0 X.P ops Q (List.range' (k+1) bc.length) (a.put o.dst undef) w:=λ⟨β,af⟩ ag=>
   ⟨λ_ _=>trivial,aR ⟨β,af.put (x:=.val undef) vy rfl⟩ ag⟩
  unfold rz at ag;cases ax:o.guard with
  |none=>
   rw[ax]at ag;have hw:Region.wanted o (yielded ops a.tmps)=true:=by simp[Region.wanted,ax]
   rw[ck hw];exact run aX ag
  |some BH=>
   obtain⟨j,b⟩:=BH;rw[ax]at ag;simp only at ag;cases ai:(ops.toList[j]?).bind (·.dst)with
   |none=>rw[ai]at ag;exact ag.elim
   |some d=>
    rw[ai]at ag;simp only at ag;have jL:(ops[j]?).bind (·.dst)=some d:=by simpa using ai
    have aD:=BG jL a.tmps;obtain⟨β,af⟩:=aX;have bf:=af.ak d;split at ag
    ·rename_i c au;rw[au]at bf;have IM:=zw bf;have BI:Region.wanted o (yielded ops a.tmps)=(c == b):=by simp[Region.wanted,ax,aD,IM]
     rw[BI];cases il:(c == b)with
     |true=>rw[il]at ag;simp only[pF];exact run ⟨β,af⟩ ag| false=>rw[il]at ag;simp only[jF,ky];exact skip ⟨β,af⟩ ag
    ·rename_i c au;rw[au]at bf;have IM:=zw bf;have BI:Region.wanted o (yielded ops a.tmps)=(c == b):=by simp[Region.wanted,ax,aD,IM]
     rw[BI];obtain⟨E2,kd⟩:=ag;have set:∀ x:Bool,c=x->Rel X a w (fM F d (.lit x)) C I M:=λx ab=>⟨β,af.refine λt=>by
      unfold fM;by_cases e:t=d;·subst e;simp only[oC,bZ];rw[<-ab];exact bf
      ·simp only[g0 e,b0];exact af.ak t⟩
     by_cases il:c=b
     ·have:(c == b)=true:=by simp[il]
      rw[this];simp only[pF];exact run (set b il) (E2 il)
     ·have ad:c=!b:=by cases c<;>cases b<;>simp_all
      have:(c == b)=false:=by simp[il]
      rw[this];simp only[jF,ky];exact skip (set _ ad) (kd ad)
    ·rename_i vs au;rw[au]at bf;have xN:yielded ops a.tmps j=none:=by
      rw[aD];cases jn:a.tmps[d]? with
      |none=>rfl| some v=>simp only[eb,m9,jn,jG]at bf;subst bf;rfl
     have BI:Region.wanted o (yielded ops a.tmps)=false:=by simp[Region.wanted,ax,xN]
     rw[BI];simp only[jF,ky];exact skip ⟨β,af⟩ ag
    ·exact ag.elim
end
inductive vz:dd->dd->Prop
 |refl{x}:vz x x| lit {b}:vz (.lit b) (.val (.bool b))| ll {x}:vz x .ll
def oI:List (Nat×dd)->Fr
 |[],_=>.ll|(t,x)::l,s=>bif Nat.beq s t then x else oI l s
def oJ:List (Nat×List Value)->dp
 |[],_=>none|(t,x)::l,s=>bif Nat.beq s t then some x else oJ l s
inductive jM(F:Fr):List (Nat×dd)->Prop
 |nil:jM F []| cons {t x l} (h:vz (F t) x) (k:jM F l):jM F ((t,x)::l)
inductive vA(C:dp):List (Nat×List Value)->Prop
 |nil:vA C []| cons {t x l} (h:C t=some x) (k:vA C l):vA C ((t,x)::l)
def Yv{β:Nat->Nat}{x y:dd}(h:vz x y)(ab:eb β x v):eb β y v:=by
 cases h with
 |refl=>exact ab| lit=>exact ab| ll=>trivial
def jM.ok{β:Nat->Nat}{F:Fr}(h:∀ t,eb β (F t) (a.tmps.getD t undef)){l:List (Nat×dd)}(av:jM F l)(t:Nat):eb β (oI l t) (a.tmps.getD t undef):=by
 induction av with
 |nil=>trivial
 | @cons bj x l ab k aR=>
  unfold oI;by_cases e:t=bj;·subst e;simp only[oC,bZ];exact Yv ab (h t)
  ·simp only[g0 e,b0];exact aR
def vA.ok{C:dp}{l:List (Nat×List Value)}(av:vA C l){s:Nat}{cs:List Value}(h:oJ l s=some cs):C s=some cs:=by
 induction av with
 |nil=>cases h
 | @cons bj x l ab k aR=>
  unfold oJ at h;by_cases e:s=bj;·subst e;simp only[oC,bZ]at h;rw[ab,h]
  ·simp only[g0 e,b0]at h;exact aR h
def cg.c4{X:cB}{β:Nat->Nat}{F:Fr}{C:dp}{I:aM}{M:List aE}(h:cg X β a w F C I M){bn:List (Nat×dd)}{cl:List (Nat×List Value)}(bf:jM F bn)(l0:vA C cl):cg X β a w (oI bn) (oJ cl) I M:=
 { h with
  ak:=bf.ok h.ak
  bR:=λs cs ar=>h.bR s cs (l0.ok ar)
  inj:=λs bP aa ad=>by
   obtain⟨hH,aA⟩:=EP.1 aa;obtain⟨ha,a0⟩:=EP.1 ad;exact h.inj s bP (by rw[l0.ok aA];simp) (by rw[l0.ok a0];simp) }
inductive qA where
 |normal| exit (id:Nat)| goto (l:Nat)| ret
abbrev jo:=qA->fD
def vB(N:fD)(K:jo):jo
 | .normal=>N| .exit id=>K (.exit id)| .goto l=>K (.goto l)| .ret=>K .ret
def Pb(id:Nat)(K:jo):jo
 | .normal=>K .normal| .exit j=>bif Nat.beq j id then K .normal else K (.exit j)| .goto l=>K (.goto l)| .ret=>K .ret
def kQ(X:cB)(K:jo):Exit->Act->World->Prop
 | .normal,a,w=>Sat X (K .normal) a w| .exit id,a,w=>Sat X (K (.exit id)) a w| .goto l,a,w=>Sat X (K (.goto l)) a w| .ret,a,w=>Sat X (K .ret) a w| .panic _,_,_=>False| .outgrown,_,_=>False
abbrev Body:=Fr->dp->aM->List aE->jo->Prop
structure ud where
 bn:List (Nat×dd)
 cl:List (Nat×List Value):=[]
 c2:aM
 dx:List aE:=[]
inductive nO{ι:Type}(foot:List Nat)(aN:ι->ud)(p:ι->Prop)(F:Fr)(C:dp)(I:aM)(M:List aE):Prop
 |mk(j:ι)(aO:p j)(hw:hY foot I M (aN j).c2 (aN j).dx)(bf:jM F (aN j).bn)(l0:vA C (aN j).cl)
def IN(body:Body)(K:jo):Nat->fD
 |0=>λ_ _ _ _=>False
 |n+1=>λF C I M=>body F C I M (vB (IN body K n) K)
inductive dI(foot:List Nat)(body:Body)(F:Fr)(C:dp)(I:aM)(M:List aE)(K:jo):Prop
 |inv {ι:Type} (aN:ι->ud) (inv:ι->Prop) (μ:ι->Nat) (start:nO foot aN inv F C I M) (round:∀ i,inv i->body (oI (aN i).bn) (oJ (aN i).cl) (aN i).c2 (aN i).dx (vB (nO foot aN λj=>inv j/\μ j<μ i) K))| Yw (n:Nat) (h:IN body K n F C I M)| xO {ι:Type} (aN:ι->ud) (inv:ι->Prop) (μ:ι->Nat) (start:lX I M->nO foot aN inv F C I M) (round:∀ i,inv i->body (oI (aN i).bn) (oJ (aN i).cl) (aN i).c2 (aN i).dx (vB (λF C I M=>lX I M->nO foot aN (λj=>inv j/\μ j<μ i) F C I M) K))
inductive dh(X:cB)(c:Code)(F:Fr)(C:dp)(I:aM)(M:List aE)(K:jo):Prop
 |mk(h:∀ a w,Rel X a w F C I M->c.wpIn (f' X) 0 X.P (kQ X K) a w)
inductive Yx(foot:List Nat)(F:Fr)(C:dp)(I:aM)(M:List aE)(K:fD):Prop
 |go(h:K F C I M)| Yy (l:ud) (hw:hY foot I M l.c2 l.dx) (bf:jM F l.bn) (l0:vA C l.cl) (h:K (oI l.bn) (oJ l.cl) l.c2 l.dx)
def V(X:cB):Code->Fr->dp->aM->List aE->jo->Prop
 | .skip,F,C,I,M,K=>K .normal F C I M| .label l,F,C,I,M,K=>bif Nat.ble 2 l then Yx X.foot F C I M (K .normal)else K .normal F C I M| .ret,F,C,I,M,K=>K .ret F C I M| .exit id,F,C,I,M,K=>K (.exit id) F C I M| .goto l,F,C,I,M,K=>K (.goto l) F C I M| .seq x y,F,C,I,M,K=>V X x F C I M (vB (λF C I M=>V X y F C I M K) K)| .block id c,F,C,I,M,K=>V X c F C I M (Pb id K)
 | .cond c x y,F,C,I,M,K=>
  match cR F c with
  | .lit b=>bif b then V X x F C I M K else V X y F C I M K| .val (.bool b)=>a9 b (V X x F C I M K) (V X y F C I M K)| _=>False
 | .loop c,F,C,I,M,K=>dI X.foot (V X c) F C I M K| .region _ ops false,F,C,I,M,K=>rz X ops.toList ops.toList F C I M (K .normal)| .region id ops true,F,C,I,M,K=>dh X (.region id ops true) F C I M K| .rangeFunc f ps et body,F,C,I,M,K=>dh X (.rangeFunc f ps et body) F C I M K| .scope c,F,C,I,M,K=>dh X (.scope c) F C I M K| .refuse _,_,_,_,_,_=>False
def vC(n:Nat)(ops:Array Oper):Bool:=ops.toList.all λo=>match o.dst with
 |some d=>Nat.blt d n| none=>true
def codeOk(n:Nat):Code->Bool
 | .seq x y=>codeOk n x&&codeOk n y| .block _ c=>codeOk n c| .cond _ x y=>codeOk n x&&codeOk n y| .loop c=>codeOk n c| .region _ ops _=>vC n ops| _=>true
def E3(h:vC n ops=true):∀ o∈ops.toList,∀ d,o.dst=some d->d<n:=by intro o aC d aj;have:=fL.1 h o aC;rw[aj]at this;simpa using this
def kQ.then{X:cB}{N:fD}{K:jo}(aJ:∀ a w,Sat X N a w->next a w):∀ e a w,kQ X (vB N K) e a w->Exit.then next (kQ X K) e a w:=by
 intro e a w h;cases e<;>first | exact aJ _ _ h | exact h
def E4{pK:Fence}{Q:Exit->Act->World->Prop}(J:Nat->Act->World->Prop)(Yz:J m a w)
  (round:∀ m a w,J m a w->c.wpIn pK n P (Exit.then (λbF w'=>∃ m',m'<m/\J m' bF w') Q) a w):(Code.loop c).wpIn pK n P Q a w:=by
 intro b k cs jN ah af;have key:∀ j a w,J j a w->∃ e bF w',Q e bF w'/\ArrivesIn (Machine.fenced P pK) P (lone (b.atR a (.code c::.inLoop c::k)) cs w) b k cs e bF w':=by
  intro j
  induction j using Nat.strongRecOn with
  |_ j aR=>
   intro a w bC;obtain⟨e,iH,iI,aK,hI⟩:=round j a w bC b (.inLoop c::k) cs jN ah af;cases e with
   |normal=>obtain⟨m',aW,YA⟩:=aK;obtain⟨BJ,BK,BL,BM,BN⟩:=aR m' aW iH iI YA;exact⟨BJ,BK,BL,BM,.of_steps (StepsIn.trans hI (.one (fenced_calm ah af rfl) stepR_inLoop)) BN⟩
   |exit id=>exact⟨_,iH,iI,aK,.pass (x:=.inLoop c) rfl (λ_ _=>.inl (by simp)) hI⟩| goto l=>exact⟨_,iH,iI,aK,.pass (x:=.inLoop c) rfl (λ_ _=>.inl (by simp)) hI⟩| ret=>exact⟨_,iH,iI,aK,.pass (x:=.inLoop c) rfl (λ_ _=>.inl (by simp)) hI⟩| panic BO=>exact⟨_,iH,iI,aK,.pass (x:=.inLoop c) rfl (λ_ _=>.inl (by simp)) hI⟩| outgrown=>exact⟨_,iH,iI,aK,.pass (x:=.inLoop c) rfl (λ_ _=>.inl (by simp)) hI⟩
 obtain⟨e,bF,w',aK,hI⟩:=key _ a w Yz;exact⟨e,bF,w',aK,.of_steps (.one (fenced_calm ah af rfl) stepR_loop) hI⟩
def oK{X:cB}(aG:cw X.P X.E):∀ (c:Code) {F C I M K a w},codeOk X.n c=true->Rel X a w F C I M->V X c F C I M K->c.wpIn (f' X) 0 X.P (kQ X K) a w
 | .skip,F,C,I,M,K,a,w,_,aX,ag=>wpIn_skip ⟨F,C,I,M,aX,ag⟩
 | .label l,F,C,I,M,K,a,w,_,aX,ag=>by
  refine wpIn_label ?_;simp only[V]at ag;cases av:Nat.ble 2 l with
  |false=>rw[av]at ag;exact⟨F,C,I,M,aX,ag⟩
  |true=>
   rw[av]at ag;simp only[bZ]at ag;cases ag with
   |go h=>exact⟨F,C,I,M,aX,h⟩| Yy l hw bf l0 h=>obtain⟨β,af⟩:=aX;exact⟨_,_,_,_,⟨β,(af.c4 bf l0).hs hw⟩,h⟩
 | .ret,F,C,I,M,K,a,w,_,aX,ag=>wpIn_ret ⟨F,C,I,M,aX,ag⟩| .exit id,F,C,I,M,K,a,w,_,aX,ag=>wpIn_exit ⟨F,C,I,M,aX,ag⟩| .goto l,F,C,I,M,K,a,w,_,aX,ag=>wpIn_goto ⟨F,C,I,M,aX,ag⟩| .seq x y,F,C,I,M,K,a,w,bo,aX,ag=>by simp only[codeOk,b']at bo;refine wpIn_seq (wpIn_mono (oK aG x bo.1 aX ag) (kQ.then ?_));rintro a w⟨F',C',I',M',af,ae⟩;exact oK aG y bo.2 af ae
 | .block id c,F,C,I,M,K,a,w,bo,aX,ag=>by
  refine wpIn_block (wpIn_mono (oK aG c bo aX ag) ?_);intro e a w h;cases e with
  |exit j=>
   simp only[kQ,Pb]at h;simp only[Exit.inBlock];by_cases e:j=id;·subst e;simp only[oC,bZ]at h;rw[ck rfl];exact h
   ·simp only[g0 e,b0]at h;rw[ca e];exact h
  |_=>exact h
 | .cond c x y,F,C,I,M,K,a,w,bo,aX,ag=>by
  simp only[codeOk,b']at bo;obtain⟨β,af⟩:=aX;simp only[V]at ag;split at ag
  ·rename_i b ah;have au:=IC af.ak ah;refine wpIn_cond au ?_;cases b
   ·exact oK aG y bo.2 ⟨β,af⟩ ag
   ·exact oK aG x bo.1 ⟨β,af⟩ ag
  ·rename_i b ah;have au:=rA af.ak ah;refine wpIn_cond au ?_;obtain⟨aa,ad⟩:=ag;cases b
   ·exact oK aG y bo.2 ⟨β,af⟩ (ad rfl)
   ·exact oK aG x bo.1 ⟨β,af⟩ (aa rfl)
  ·exact ag.elim
 | .loop c,F,C,I,M,K,a,w,bo,aX,ag=>by
  have aR:=@oK X aG c;simp only[V]at ag;have hinv:∀ {ι:Type} (aN:ι->ud) (inv:ι->Prop) (μ:ι->Nat) (start:lX I M->nO X.foot aN inv F C I M)
    (round:∀ i,inv i->V X c (oI (aN i).bn) (oJ (aN i).cl) (aN i).c2 (aN i).dx (vB (λF C I M=>lX I M->nO X.foot aN (λj=>inv j/\μ j<μ i) F C I M) K)),(Code.loop c).wpIn (f' X) 0 X.P (kQ X K) a w:=by
   intro ι aN inv μ start round;let J (m:Nat) (a:Act) (w:World):Prop:=∃ i,inv i/\μ i=m/\Rel X a w (oI (aN i).bn) (oJ (aN i).cl) (aN i).c2 (aN i).dx
   have vD:∀ {p:ι->Prop} {a w},(∀ i,p i->inv i)->Sat X (λF C I M=>lX I M->nO X.foot aN p F C I M) a w->∃ i,p i/\J (μ i) a w:=by rintro p a w aO⟨F,C,I,M,⟨β,af⟩,e8⟩;obtain⟨j,pL,hw,bf,l0⟩:=e8 ⟨af.holds.d,af.holds.bX⟩;exact⟨j,pL,j,aO j pL,rfl,β,(af.c4 bf l0).hs hw⟩
   obtain⟨i0,_,zx⟩:=vD (λ_ h=>h) ⟨F,C,I,M,aX,start⟩;refine E4 J zx ?_;rintro m a w⟨i,hi,rfl,af⟩;refine wpIn_mono (aR bo af (round i hi)) ?_;intro e a w h;cases e with
   |normal=>obtain⟨j,⟨ai,aW⟩,bL⟩:=vD (λ_ h=>h.1) h;exact⟨_,aW,bL⟩
   |_=>exact h
  cases ag with
  | @inv ι aN inv μ start round=>
   let J (m:Nat) (a:Act) (w:World):Prop:=∃ i,inv i/\μ i=m/\Rel X a w (oI (aN i).bn) (oJ (aN i).cl) (aN i).c2 (aN i).dx
   have vD:∀ {p:ι->Prop} {a w},(∀ i,p i->inv i)->Sat X (nO X.foot aN p) a w->∃ i,p i/\J (μ i) a w:=by rintro p a w aO⟨F,C,I,M,⟨β,af⟩,⟨j,pL,hw,bf,l0⟩⟩;exact⟨j,pL,j,aO j pL,rfl,β,(af.c4 bf l0).hs hw⟩
   obtain⟨i0,_,zx⟩:=vD (λ_ h=>h) ⟨F,C,I,M,aX,start⟩;refine E4 J zx ?_;rintro m a w⟨i,hi,rfl,af⟩;refine wpIn_mono (aR bo af (round i hi)) ?_;intro e a w h;cases e with
   |normal=>obtain⟨j,⟨ai,aW⟩,bL⟩:=vD (λ_ h=>h.1) h;exact⟨_,aW,bL⟩
   |_=>exact h
  |xO aN inv μ start round=>exact hinv aN inv μ start round
  |Yw n h=>
   refine E4 (λm a w=>Sat X (IN (V X c) K m) a w) ⟨F,C,I,M,aX,h⟩ ?_;rintro m a w⟨F,C,I,M,af,ae⟩;cases m with
   |zero=>exact ae.elim
   |succ m=>
    refine wpIn_mono (aR bo af ae) ?_;intro e a w h;cases e with
    |normal=>exact⟨m,Bw m,h⟩| _=>exact h
 | .region id ops false,F,C,I,M,K,a,w,bo,aX,ag=>by refine wpIn_region ?_;have:=Pa (K:=K .normal) (Q:=kQ X K) aG ops (λ_ _ h=>h) ops.toList 0 (by simp) (E3 bo) aX ag;simpa[zl]using this
 | .region id ops true,F,C,I,M,K,a,w,bo,aX,⟨ag⟩=>ag a w aX| .rangeFunc f ps et body,F,C,I,M,K,a,w,bo,aX,⟨ag⟩=>ag a w aX| .scope c,F,C,I,M,K,a,w,bo,aX,⟨ag⟩=>ag a w aX| .refuse _,F,C,I,M,K,a,w,bo,aX,ag=>ag.elim
def ue(args:List Value):Fr:=λt=>match args[t]? with
 |some v=>.val v| none=>.ll
def nd(X:cB)(F:Fr)(C:dp)(I:aM)(M:List aE):List ResultVar->(List Value->Prop)->Prop
 |[],K=>K []
 | .tmp t::l,K=>match bt F (.tmp t)with
  | .val v=>nd X F C I M l λvs=>K (v::vs)
  |_=>False
 | .cell t ty::l,K=>match cR F (.tmp t),X.E ty with
  | .ref s off,some i=>(match C s with
   |some cs=>bif Nat.ble (off+i.size) cs.length then nd X F C I M l λvs=>K (pack i.bE.agg ((cs.drop off).take i.size)::vs)else False
   |none=>False)
  | .val (.pointer (some a)),some i=>aZ I M a i.size λws=>nd X F C I M l λvs=>K (pack i.bE.agg ws::vs)
  |_,_=>False
inductive sT(foot:List Nat)(I:aM)(M:List aE)(post:aM->List aE->Prop):Prop
 |mk(I':aM)(M':List aE)(hw:hY foot I M I' M')(h:post I' M')
def sU(X:cB)(bb:List ResultVar)(post:Value->aM->List aE->Prop):jo:=λex F C I M=>
 let done:Prop:=nd X F C I M bb λvs=>match vs with
  |[v]=>sT X.foot I M (post v)| vs=>sT X.foot I M (post (.tuple vs.toArray))
 match ex with
 | .normal=>done| .ret=>done| _=>False
def zy(tmps:Array Value):ResultVar->Sem Value
 | .tmp t=>pure (tmps.getD t undef)| .cell a t=>do loadVar t (<-asAddr (tmps.getD a undef))
def YB(fn:Func)(tmps:Array Value):results fn tmps=(do let vs <-fn.results.mapM (zy tmps);pure (if h:vs.size=1 then vs[0]else .tuple vs)):=by unfold results;congr 1
def E5{X:cB}(aG:cw X.P X.E){β:Nat->Nat}{a:Act}{w:World}{F:Fr}{C:dp}{I:aM}{M:List aE}(h:cg X β a w F C I M):∀ {bb:List ResultVar} {K:List Value->Prop},nd X F C I M bb K -> ∃ vs,K vs/\(bb.mapM (zy a.tmps)).run X.P w=.ok vs w
 |[],K,ag=>⟨[],ag,rfl⟩
 | .tmp t::l,K,ag=>by
  unfold nd at ag;split at ag;·rename_i v aa;have aA:a.tmps.getD t undef=v:=cS h.ak aa;obtain⟨vs,ae,a0⟩:=E5 aG h ag;refine⟨_,ae,?_⟩;simp only[Bx,zy,bV,cH,bN,a0,aA]
  ·exact ag.elim
 | .cell t ty::l,K,ag=>by
  unfold nd at ag;split at ag
  ·rename_i s off i aa hi;have aA:a.tmps.getD t undef=.pointer (some ⟨β s,off,none⟩):=xz h.ak aa;split at ag
   ·rename_i cs ar;cases bg:Nat.ble (off+i.size) cs.length with
    |false=>rw[bg]at ag;exact ag.elim| true=>rw[bg]at ag;obtain⟨vs,ae,a0⟩:=E5 aG h ag;have pI:=bH bg;obtain⟨T,bl⟩:=(h.bR s cs ar).ec;have bY:=EZ (aG _ _ hi) (a:=⟨β s,off,none⟩) rfl bl (vs:=(cs.drop off).take i.size) (by simp) (by simp;omega);refine⟨_,ae,?_⟩;simp only[Bx,zy,bV,cH,bN,a0,aA,asAddr,bY]
   ·exact ag.elim
  ·rename_i aV i aa hi;have aA:a.tmps.getD t undef=.pointer (some aV):=rA h.ak aa;obtain⟨ws,⟨cZ,cs,T,ak,e',hr,av⟩,ag⟩:=ag;obtain⟨vs,ae,a0⟩:=E5 aG h ag;have bY:=EZ (aG _ _ hi) cZ (e'.heap h.holds) hr av;refine⟨_,ae,?_⟩;simp only[Bx,zy,bV,cH,bN,a0,aA,asAddr,bY]
  ·exact ag.elim
def YC{X:cB}(aG:cw X.P X.E){β:Nat->Nat}{F:Fr}{C:dp}{I:aM}{M:List aE}(h:cg X β a w F C I M){K:List Value->Prop}(ag:nd X F C I M fn.results.toList K) :
  ∃ vs,K vs/\(results fn a.tmps).run X.P w=.ok (match vs with | [v]=>v | vs=>.tuple vs.toArray) w:=by
 obtain⟨vs,ae,e⟩:=E5 aG h ag;refine⟨vs,ae,?_⟩;rw[YB];have aA:(fn.results.mapM (zy a.tmps)).run X.P w=.ok vs.toArray w:=by rw[OS,Sem.run_map,e];rfl
 simp only[bV,aA,bN,cH]
 match vs with
 |[]=>rfl| [v]=>rfl| u::v::l=>simp
def Pc{pK:Fence}{n:Nat}{P:Program}{fn:Func}{tmps:Array Value}{R:Ending->World->Prop}:∀ (bb:List Nat) (w:World),bb.Nodup->(∀ r∈bb,w.heap[r]?=some (.deferred (some []))) -> (∀ w':World,w'.heap.size=w.heap.size->(∀ b,b ∉ bb->w'.heap[b]?=w.heap[b]?)->mv w w'->∃ v,(results fn tmps).run P w'=.ok v w'/\R (.returned v) w')->LeavesInM pK n P fn tmps R (bb.map tY) .returning w
 |[],w,_,_,h=>h w rfl (λ_ _=>rfl) (.refl _)
 |r::bb,w,bJ,af,h=>by
  rw[kN]at bJ;refine⟨by simp,.inl ⟨r,_,rfl,run_takeDeferred (af r (by simp)),?_⟩⟩;refine Pc bb _ bJ.2 (λxP gw=>?_) λw' ar ah aC=>h w' (by rw[ar];simp) (λb BP=>?_) ((EX _ _ _).trans aC);·have bs:xP≠r:=λe=>bJ.1 (e ▸ gw);rw[lh bs];exact af xP (by simp[gw])
  ·simp only[dW,not_or]at BP;rw[ah b BP.2,lh BP.1]
def cg.take{X:cB}{β:Nat->Nat}{F:Fr}{C:dp}{I:aM}{M:List aE}(h:cg X β a w F C I M){bb:List Nat}(eu:∀ r∈bb,sO X w I M r)(ar:w'.heap.size=w.heap.size)(ah:∀ b,b ∉ bb->w'.heap[b]?=w.heap[b]?)(aC:mv w w') :
  cg X β { a with defers:=[] } w' F C I M:=by
 exact {
  size:=h.size
  defers:=⟨[],rfl,zm,λr af=>by cases af⟩
  holds:={
   i:=λb o iF=>by rw[ah b (λaf=>by have:=(eu b af).iC;rw[iF]at this;cases this)];exact h.holds.i b o iF
   m:=λx ab=>by rw[ah _ (λaf=>(eu _ af).ef x ab rfl)];exact h.holds.m x ab
   d:=h.holds.d
   bX:=h.holds.bX }
  ak:=h.ak
  bR:=λs cs lq=>by have rD:=h.bR s cs lq;obtain⟨T,bl⟩:=rD.ec;refine { rD with ec:=⟨T,?_⟩ };rw[ah _ (λaf=>by have:=(eu _ af).ec;rw[bl]at this;cases this)];exact bl
  inj:=h.inj
  g9:=h.g9
  gT:=h.gT
  own:=h.own
  dA:=λb aW az=>by rw[ah _ (λaf=>by have:=(eu _ af).c4;omega)];exact h.dA b aW az
  out:=h.out.trans aC
  sz:=by rw[ar];exact h.sz
  eI:=h.eI }
def kQ.ret{X:cB}(aG:cw X.P X.E){post:Value->aM->List aE->Prop}
  (aX:∀ v I M (w:World) (a:Act) (F:Fr) (C:dp),Rel X a w F C I M->post v I M->R (.returned v) w):∀ e a w,kQ X (sU X fn.results.toList post) e a w->bodyPostM (f' X) 0 X.P fn R e a w:=by
 have main:∀ a w,Sat X (sU X fn.results.toList post .ret) a w->LeavesInM (f' X) 0 X.P fn a.tmps R a.defers .returning w:=by
  rintro a w⟨F,C,I,M,⟨β,af⟩,ae⟩;simp only[sU]at ae;obtain⟨bb,aj,bJ,hm⟩:=af.defers;rw[aj];refine Pc bb w bJ (λr eD=>(hm r eD).ec) λw' ar ah aC=>?_;have gw:=af.take hm ar ah aC;obtain⟨vs,aO,eT⟩:=YC aG gw ae;refine⟨_,eT,?_⟩
  match vs,aO with
  |[],⟨I',M',hw,aO⟩=>exact aX _ I' M' w' _ F C ⟨β,gw.hs hw⟩ aO| [v],⟨I',M',hw,aO⟩=>exact aX _ I' M' w' _ F C ⟨β,gw.hs hw⟩ aO| u::v::l,⟨I',M',hw,aO⟩=>exact aX _ I' M' w' _ F C ⟨β,gw.hs hw⟩ aO
 intro e a w h;cases e with
 |normal=>exact main a w h| ret=>exact main a w h| exit id=>obtain⟨F,C,I,M,_,ae⟩:=h;exact ae.elim
 |goto l=>obtain⟨F,C,I,M,_,ae⟩:=h;exact ae.elim
 |panic _=>exact h.elim| outgrown=>exact h.elim
def YD(az:P.funcs[f]?=some fn)(ah:fn.body.isSome=true)(aJ:(fn.name == "runtime.NumGoroutine")=false):Iz P f:=by
 intro args w;have hn:fn.body.isNone=false:=by cases h:fn.body<;>simp_all
 simp only[callFunc,bV,run_program,bN,az,aJ,jF,ky,hn];rfl
def IP{E:Env}(fs:List Nat)(aG:cw P E)(az:P.funcs[f]?=some fn)(ah:fn.body=some c)(aJ:(fn.name == "runtime.NumGoroutine")=false)
 (bo:(codeOk fn.ntmps c&&Nat.ble args.length fn.ntmps)=true) {I:aM} {M:List aE} {post:Value->aM->List aE->Prop}
  (h:∀ B ay a w,Rel ⟨P,E,fs,fn.ntmps,B,ay,I,M.map (·.num),none⟩ a w (ue args) (λ_=>none) I M->c.wpIn (f' ⟨P,E,fs,fn.ntmps,B,ay,I,M.map (·.num),none⟩) 0 P (kQ ⟨P,E,fs,fn.ntmps,B,ay,I,M.map (·.num),none⟩ (sU ⟨P,E,fs,fn.ntmps,B,ay,I,M.map (·.num),none⟩ fn.results.toList post)) a w) :
  sN P f args I M post:=by
 rw[b']at bo;have cu:=bH bo.2;refine⟨YD az (by rw[ah];rfl) aJ,λw jI=>?_⟩;let X:cB:=⟨P,E,fs,fn.ntmps,w.heap.size,w,I,M.map (·.num),none⟩
 have BQ:Rel X { tmps:=args.toArray++Array.replicate (fn.ntmps-args.toArray.size) undef,defers:=[] } w (ue args) (λ_=>none) I M:=⟨λ_=>0,{
  size:=by simp[X];omega
  defers:=⟨[],rfl,zm,λr af=>by cases af⟩
  holds:=jI
  ak:=λt=>by
   unfold ue;cases aw:args[t]? with
   |none=>trivial| some v=>have aW:t<args.length:=(ih.1 aw).1;simp only[eb,m9];rw[Array.getElem?_append_left (by simpa using aW)];simp[aw]
  bR:=λs cs ar=>by cases ar
  inj:=λs bP aa=>by simp at aa
  g9:=λb o ah=>ah
  gT:=λb o ah=>.inl ah
  own:=λx ab=>.inl (cG.2 ⟨x,ab,rfl⟩)
  dA:=λb ah az=>rfl
  out:=.refl _
  sz:=cI _
  eI:=λx ab=>by
   obtain⟨y,aD,rfl⟩:=cG.1 ab;exact(j9.1 (jI.m y aD)).1 }⟩
 have E6:=h w.heap.size w _ _ BQ;refine(callsIn_wide (n:=0)).1 ?_;have YE:f' X=Fence.wide:=rfl;rw[YE]at E6;refine callsIn_of_wp_marks az ah trivial (wpIn_mono E6 (kQ.ret (X:=X) aG ?_));rintro v I' M' w' bF F' C'⟨β,af⟩aO;refine⟨v,I',M',rfl,aO,af.holds,?_⟩;exact {
  le:=af.g9
  ry:=af.gT
  sM:=λx ab=>by
   rcases af.own x ab with aa | aa;·obtain⟨y,aD,e⟩:=cG.1 aa;exact .inl ⟨y,aD,e⟩
   ·exact .inr aa
  dA:=λb ah bs=>af.dA b ah (λhm=>by
   obtain⟨y,aD,e⟩:=cG.1 hm;exact bs y aD e)
  out:=af.out
  sz:=af.sz }
def BR{E:Env}(fs:List Nat)(aG:cw P E)(az:P.funcs[f]?=some fn)(ah:fn.body=some c)(aJ:(fn.name == "runtime.NumGoroutine")=false)
 (bo:(codeOk fn.ntmps c&&Nat.ble args.length fn.ntmps)=true) {I:aM} {M:List aE} {post:Value->aM->List aE->Prop}
  (h:∀ B ay,V ⟨P,E,fs,fn.ntmps,B,ay,I,M.map (·.num),none⟩ c (ue args) (λ_=>none) I M (sU ⟨P,E,fs,fn.ntmps,B,ay,I,M.map (·.num),none⟩ fn.results.toList post)) :
  sN P f args I M post:=
 IP fs aG az ah aJ bo λB ay a w af=>by rw[b']at bo;exact oK aG c bo.1 af (h B ay)
def cp{E:Env}(fs:List Nat)(aG:cw P E)(az:P.funcs[f]?=some fn)(ah:fn.body=some c)(aJ:(fn.name == "runtime.NumGoroutine")=false)
 (bo:(codeOk fn.ntmps c&&Nat.ble args.length fn.ntmps)=true) {I:aM} {M:List aE} {post:Value->aM->List aE->Prop}
  (h:∀ B ay,V ⟨P,E,fs,fn.ntmps,B,ay,I,M.map (·.num),none⟩ c (ue args) (λ_=>none) I M (sU ⟨P,E,fs,fn.ntmps,B,ay,I,M.map (·.num),none⟩ fn.results.toList post)) :
  Spec P f args I M post:=.inl (BR fs aG az ah aJ bo h)
def E7(X:cB)(bb:List ResultVar)(post:Value->aM->List aE->Prop):jo:=λex F C I M=>
 let done:Prop:=nd X F C I M bb λvs=>match vs with
  |[v]=>lX I M->sT X.foot I M (post v)| vs=>lX I M->sT X.foot I M (post (.tuple vs.toArray))
 match ex with
 | .normal=>done| .ret=>done| _=>False
def E8{X:cB}{F:Fr}{C:dp}{I:aM}{M:List aE}:∀ {bb:List ResultVar} {K vE:List Value->Prop},(∀ vs,K vs->vE vs)->nd X F C I M bb K->nd X F C I M bb vE
 |[],K,vE,h,ag=>h _ ag
 | .tmp t::l,K,vE,h,ag=>by
  unfold nd at ag |-;split at ag;·exact E8 (λvs=>h _) ag
  ·exact ag.elim
 | .cell t ty::l,K,vE,h,ag=>by
  unfold nd at ag |-;split at ag
  ·rename_i s off i aa hi;split at ag
   ·rename_i cs ar;cases bg:Nat.ble (off+i.size) cs.length with
    |false=>rw[bg]at ag;exact ag.elim| true=>rw[bg]at ag;exact E8 (λvs=>h _) ag
   ·exact ag.elim
  ·obtain⟨ws,a1,ag⟩:=ag;exact⟨ws,a1,E8 (λvs=>h _) ag⟩
  ·exact ag.elim
def kQ.YF{X:cB}{bb:List ResultVar}{post:Value->aM->List aE->Prop}:∀ e a w,kQ X (E7 X bb post) e a w->kQ X (sU X bb post) e a w:=by
 have one:∀ a w,Sat X (E7 X bb post .ret) a w->Sat X (sU X bb post .ret) a w:=by
  rintro a w⟨F,C,I,M,⟨β,af⟩,h⟩;refine⟨F,C,I,M,⟨β,af⟩,E8 (λvs ag=>?_) h⟩;have e8:lX I M:=⟨af.holds.d,af.holds.bX⟩
  match vs,ag with
  |[v],ag=>exact ag e8| [],ag=>exact ag e8| _::_::_,ag=>exact ag e8
 intro e a w h;cases e with
 |normal=>exact one a w h| ret=>exact one a w h| exit id=>obtain⟨F,C,I,M,af,ae⟩:=h;exact ae.elim
 |goto l=>obtain⟨F,C,I,M,af,ae⟩:=h;exact ae.elim
 |panic _=>exact h| outgrown=>exact h
def YG{E:Env}(fs:List Nat)(aG:cw P E)(az:P.funcs[f]?=some fn)(ah:fn.body=some c)(aJ:(fn.name == "runtime.NumGoroutine")=false)
 (bo:(codeOk fn.ntmps c&&Nat.ble args.length fn.ntmps)=true) {I:aM} {M:List aE} {post:Value->aM->List aE->Prop}
  (h:∀ B ay,V ⟨P,E,fs,fn.ntmps,B,ay,I,M.map (·.num),none⟩ c (ue args) (λ_=>none) I M (E7 ⟨P,E,fs,fn.ntmps,B,ay,I,M.map (·.num),none⟩ fn.results.toList post)) :
  sN P f args I M post:=
 IP fs aG az ah aJ bo λB ay a w af=>by rw[b']at bo;exact wpIn_mono (oK aG c bo.1 af (h B ay)) kQ.YF
def zz{E:Env}(fs:List Nat)(aG:cw P E)(az:P.funcs[f]?=some fn)(ah:fn.body=some c)(aJ:(fn.name == "runtime.NumGoroutine")=false)
 (bo:(codeOk fn.ntmps c&&Nat.ble args.length fn.ntmps)=true) {I:aM} {M:List aE} {post:Value->aM->List aE->Prop}
  (h:∀ B ay,V ⟨P,E,fs,fn.ntmps,B,ay,I,M.map (·.num),none⟩ c (ue args) (λ_=>none) I M (E7 ⟨P,E,fs,fn.ntmps,B,ay,I,M.map (·.num),none⟩ fn.results.toList post)) :
  Spec P f args I M post:=.inl (YG fs aG az ah aJ bo h)
def IQ:Value->Value->Bool
 | .bool a,.bool b=>a == b| .int k n,.int eS m=>IntKind.kP k eS&&decide (n=m)| .string s,.string t=>decide (s.data.toList=t.data.toList)| .pointer none,.pointer none=>true| .slice none 0 0,.slice none 0 0=>true| .map none,.map none=>true| .nilFunc,.nilFunc=>true| .nilIface,.nilIface=>true| _,_=>false
def YH:∀ {a b:Value},IQ a b=true->a=b:=by
 intro a b h;unfold IQ at h;split at h
 ·simp at h;rw[h]
 ·simp only[b',hk]at h;rw[IntKind.zs h.1,h.2]
 ·rename_i s t;simp only[hk]at h;have:s=t:=by cases s;cases t;simp only[ByteArray.mk.injEq];exact fZ h
  rw[this]
 all_goals first | rfl | cases h
def E9:List Value->List Value->Bool
 |[],[]=>true| a::as,b::b8=>IQ a b&&E9 as b8| _,_=>false
def Pd:∀ {a b:List Value},E9 a b=true->a=b
 |[],[],_=>rfl| a::as,b::b8,h=>by simp only[E9,b']at h;rw[YH h.1,Pd h.2]
 |[],_::_,h=>by cases h
 |_::_,[],h=>by cases h
def IR(P:Program)(t:Nat)(i:dt):Bool:=
 (match P.info? t with
 |some inf=>decide (inf.size=i.size)&&decide (inf.bytes=i.bytes)&&(match inf.zero with
  |some z=>E9 z.cells.toList i.zero| none=>false)
 |none=>false) &&
 (match P.underlying t with
 |some d=>decide (eR d=i.bE)| none=>false)&&fN i.zero&&decide (i.zero.length=i.size)&&(i.bE.agg||decide (i.size=1))
def YI{t:Nat}{i:dt}(h:IR P t i=true):iZ P t i:=by
 simp only[IR,b']at h;obtain⟨⟨⟨⟨aa,ad⟩,al⟩,aL⟩,bG⟩:=h;refine⟨?_,?_,xA al,dV aL,λaY=>?_⟩
 ·split at aa
  ·rename_i inf hi;simp only[b',hk]at aa;obtain⟨⟨aA,a0⟩,bY⟩:=aa;split at bY
   ·rename_i z a';exact⟨inf,z,hi,aA,a0,a',Pd bY⟩
   ·cases bY
  ·cases aa
 ·split at ad
  ·rename_i d aj;exact⟨d,aj,dV ad⟩
  ·cases ad
 ·rw[aY]at bG;simpa using bG
def YJ{E:Env}(n:Nat)(aJ:∀ t,n<=t->E t=none)(h:((List.range n).all λt=>match E t with
  |some i=>IR P t i| none=>true)=true):cw P E:=by
 intro t i hi;by_cases aw:t<n
 ·have:=fL.1 h t (kb.2 aw);rw[hi]at this;exact YI this
 ·rw[aJ t (by omega)]at hi;cases hi
end Go.V
namespace Go.V
variable{a:Act}{c:Code}{foot:List Nat}{P:Program}{f off T sz gS e n m e7 cf dw dM gl jH kz lk mu nK pG ru tU xv Bz:Nat}{args vs z:List Value}{v:Value}{w' w:World}{cs:Array Value}{ak:Nat×Nat}{R:Ending->World->Prop}{next:Act->World->Prop}{aV:Addr}{fg:IntKind}{ops:Array Oper}{fn:Func}
def uf{F:Fr}:jM F [(e7,F e7),(cf,F cf)]:=.cons .refl (.cons .refl (.nil))
def g1{F:Fr}:jM F [(e7,F e7),(cf,F cf),(dw,F dw)]:=.cons .refl (.cons .refl (.cons .refl (.nil)))
def fr{F:Fr}:jM F [(e7,F e7),(cf,F cf),(dw,F dw),(dM,F dM)]:=.cons .refl (.cons .refl (.cons .refl (.cons .refl (.nil))))
def iJ{F:Fr}:jM F [(e7,F e7),(cf,F cf),(dw,F dw),(dM,F dM),(gl,F gl)]:=.cons .refl (.cons .refl (.cons .refl (.cons .refl (.cons .refl (.nil)))))
def xQ{F:Fr}:jM F [(e7,F e7),(cf,F cf),(dw,F dw),(dM,F dM),(gl,F gl),(jH,F jH)]:=.cons .refl (.cons .refl (.cons .refl (.cons .refl (.cons .refl (.cons .refl (.nil))))))
def qB{F:Fr}:jM F [(e7,F e7),(cf,F cf),(dw,F dw),(dM,F dM),(gl,F gl),(jH,F jH),(kz,F kz)]:=.cons .refl (.cons .refl (.cons .refl (.cons .refl (.cons .refl (.cons .refl (.cons .refl (.nil)))))))
def h1{F:Fr}:jM F [(e7,F e7),(cf,F cf),(dw,F dw),(dM,F dM),(gl,F gl),(jH,F jH),(kz,F kz),(lk,F lk)]:=.cons .refl (.cons .refl (.cons .refl (.cons .refl (.cons .refl (.cons .refl (.cons .refl (.cons .refl (.nil))))))))
def nP{F:Fr}:jM F [(e7,F e7),(cf,F cf),(dw,F dw),(dM,F dM),(gl,F gl),(jH,F jH),(kz,F kz),(lk,F lk),(mu,F mu)]:=.cons .refl (.cons .refl (.cons .refl (.cons .refl (.cons .refl (.cons .refl (.cons .refl (.cons .refl (.cons .refl (.nil)))))))))
def E'{F:Fr}:jM F [(e7,F e7),(cf,F cf),(dw,F dw),(dM,F dM),(gl,F gl),(jH,F jH),(kz,F kz),(lk,F lk),(mu,F mu),(nK,F nK)]:=.cons .refl (.cons .refl (.cons .refl (.cons .refl (.cons .refl (.cons .refl (.cons .refl (.cons .refl (.cons .refl (.cons .refl (.nil))))))))))
def Pe{F:Fr}:jM F [(e7,F e7),(cf,F cf),(dw,F dw),(dM,F dM),(gl,F gl),(jH,F jH),(kz,F kz),(lk,F lk),(mu,F mu),(nK,F nK),(pG,F pG)]:=.cons .refl (.cons .refl (.cons .refl (.cons .refl (.cons .refl (.cons .refl (.cons .refl (.cons .refl (.cons .refl (.cons .refl (.cons .refl (.nil)))))))))))
def ale{F:Fr}:jM F [(e7,F e7),(cf,F cf),(dw,F dw),(dM,F dM),(gl,F gl),(jH,F jH),(kz,F kz),(lk,F lk),(mu,F mu),(nK,F nK),(pG,F pG),(ru,F ru)]:=.cons .refl (.cons .refl (.cons .refl (.cons .refl (.cons .refl (.cons .refl (.cons .refl (.cons .refl (.cons .refl (.cons .refl (.cons .refl (.cons .refl (.nil))))))))))))
def Pf{F:Fr}:jM F [(e7,F e7),(cf,F cf),(dw,F dw),(dM,F dM),(gl,F gl),(jH,F jH),(kz,F kz),(lk,F lk),(mu,F mu),(nK,F nK),(pG,F pG),(ru,F ru),(tU,F tU)]:=.cons .refl (.cons .refl (.cons .refl (.cons .refl (.cons .refl (.cons .refl (.cons .refl (.cons .refl (.cons .refl (.cons .refl (.cons .refl (.cons .refl (.cons .refl (.nil)))))))))))))
def BS{F:Fr}:jM F [(e7,F e7),(cf,F cf),(dw,F dw),(dM,F dM),(gl,F gl),(jH,F jH),(kz,F kz),(lk,F lk),(mu,F mu),(nK,F nK),(pG,F pG),(ru,F ru),(tU,F tU),(xv,F xv)]:=.cons .refl (.cons .refl (.cons .refl (.cons .refl (.cons .refl (.cons .refl (.cons .refl (.cons .refl (.cons .refl (.cons .refl (.cons .refl (.cons .refl (.cons .refl (.cons .refl (.nil))))))))))))))
def YK{F:Fr}:jM F [(e7,F e7),(cf,F cf),(dw,F dw),(dM,F dM),(gl,F gl),(jH,F jH),(kz,F kz),(lk,F lk),(mu,F mu),(nK,F nK),(pG,F pG),(ru,F ru),(tU,F tU),(xv,F xv),(Bz,F Bz)]:=.cons .refl (.cons .refl (.cons .refl (.cons .refl (.cons .refl (.cons .refl (.cons .refl (.cons .refl (.cons .refl (.cons .refl (.cons .refl (.cons .refl (.cons .refl (.cons .refl (.cons .refl (.nil)))))))))))))))
def alf{F:Fr}{Pg:Nat}:jM F [(e7,F e7),(cf,F cf),(dw,F dw),(dM,F dM),(gl,F gl),(jH,F jH),(kz,F kz),(lk,F lk),(mu,F mu),(nK,F nK),(pG,F pG),(ru,F ru),(tU,F tU),(xv,F xv),(Bz,F Bz),(Pg,F Pg)]:=.cons .refl (.cons .refl (.cons .refl (.cons .refl (.cons .refl (.cons .refl (.cons .refl (.cons .refl (.cons .refl (.cons .refl (.cons .refl (.cons .refl (.cons .refl (.cons .refl (.cons .refl (.cons .refl (.nil))))))))))))))))
end Go.V
