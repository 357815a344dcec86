/- Part 1 of what the proofs of this seat share: the executor, data in memory, walks.
-/
import Derived.WalkKit
import Derived.RangeFuncRecord
import Derived.OrdersIn
import Derived.Lib.UnsafeStr
set_option linter.all false
namespace Go.V
open Go
def bK:=@Nat.le_of_ble_eq_true
def bZ:=@Result.andThen_ok
def cJ:=@of_decide_eq_true
def cB:=@Bool.and_eq_true
def cv:=@List.mem_append
def ed:=@Nat.eq_of_beq_eq_true
def b5:=@List.map_cons
def gj:=@List.take_succ_eq_append_getElem
def cM:=@List.map_append
def fg:=@List.drop_eq_getElem_cons
def cp:=@Sem.run_bind
def b':=@Nat.le_refl
def cP:=@List.mem_map
def et:=@List.length_cons
def da:=@Sem.run_pure
def hG:=@List.getElem?_eq_some_iff
def cE:=@cond_false
def cF:=@cond_true
def eI:=@List.mem_cons
def fS:=@List.all_eq_true
def lR:=@Array.getElem?_eq_some_iff
def hH:=@Int.toNat_natCast
def h6:=@decide_eq_true_eq
def bN:=@if_neg
def iB:=@List.getElem?_map
def bT:=@if_pos
def pz:=@Array.getD_eq_getD_getElem?
def nA:=@World.putObj_heap_other
def lb:=@List.getElem?_take
def ld:=@Bool.false_eq_true
def kK:=@Option.some.injEq
def kL:=@Option.getD_some
def mO:=@List.getElem?_drop
def km:=@List.foldl_cons
def j9:=@List.mem_range
def lf:=@List.nodup_cons
def lg:=@Option.map_some
def gX:=@Array.ext'
def jg:=@Nat.le_trans
def qg:=@Nat.mul_le_mul_right
def tb:=@Option.map_eq_some_iff
def pA:=@Nat.min_eq_left
def sh:=@List.nodup_append
def oz:=@Nat.add_zero
def DR:=@Array.getElem?_setIfInBounds
def tc:=@Bool.eq_iff_iff
def uz:=@Option.getD_none
def uA:=@Option.map_none
def td:=@Oper.wpIn_mono
def te:=@Nat.add_assoc
def mj:=@if_false
def DS:=@List.range_eq_range'
def Gy:=@List.getElem?_cons_succ
def v3:=@ByteArray.ext
def Ku:=@Option.ne_none_iff_exists'
def BC:=@Nat.lt_succ_self
def xA:=@List.all_cons
def zp:=@List.nodup_nil
def BD:=@World.alloc_eq
def Kv:=@ByteArray.data_extract
def OH:=@Array.getElem?_eq_getElem
def Kw:=@Nat.lt_of_lt_of_le
def Gz:=@List.mapM_cons
def si:=@Ne.symm
def sj:=@if_true
def OI:=@List.toList_toArray
def GA:=@Nat.add_comm
def OJ:=@Array.foldl_toList
def OK:=@Option.isSome_none
def VJ:=@Array.mapM_eq_mapM_toList
def Kx:=@Oper.semAt_eq
def OL:=@List.range'_succ
def Ky:=@Nat.succ_mul
variable{a:Act}{c:Code}{foot:List Nat}{P:Program}{f off T sz hS e n m ga cQ ef eD hb lh ml nB oA qh sk uB xB BE GB:Nat}{args vs z:List Value}{v:Value}{w' w:World}{cs:Array Value}{an:Nat×Nat}{R:Ending->World->Prop}{next:Act->World->Prop}{aM:Addr}{gk:IntKind}{ops:Array Oper}{fn:Func}
inductive GC where
 |other | int (k:IntKind) | bool | string | slice (e:Nat) | array (n e:Nat) | struct (cV:List (Nat×Nat)) | map (k e:Nat) | pointer (e:Nat)
 deriving DecidableEq
def fr:TypeDesc->GC
 | .int k=>.int k| .bool=>.bool| .string=>.string| .slice e=>.slice e| .array n e=>.array n e| .struct cV=>.struct (cV.toList.map λf=>(f.type,f.offset))| .map k e=>.map k e| .pointer e=>.pointer e| _=>.other
def GC.agg:GC->Bool
 | .struct _ | .array ..=>true| _=>false
structure ea where
 size:Nat
 bytes:Nat
 zero:List Value
 bP:GC
structure kn(P:Program)(t:Nat)(i:ea):Prop where
 inf:∃ inf z,P.info? t=some inf/\inf.size=i.size/\inf.bytes=i.bytes/\inf.zero=some z/\z.cells.toList=i.zero
 fs:∃ d,P.underlying t=some d/\fr d=i.bP
 one:∀ v∈i.zero,v.oneCell'=true
 len:i.zero.length=i.size
 Kz:i.bP.agg=false->i.size=1
abbrev Env:=Nat->Option ea
def cW(P:Program)(E:Env):Prop:=∀ t i,E t=some i->kn P t i
inductive dH where
 |val(v:Value)| lit (b:Bool)| ref (s off:Nat)| nC
abbrev Fr:=Nat->dH
abbrev dN:=Nat->Option (List Value)
abbrev aH:=Nat->Option Obj
structure aE where
 num:Nat
 obj:Obj
abbrev gl:=Fr->dN->aH->List aE->Prop
def gY(F:Fr)(d:Nat)(x:dH):Fr:=λt=>bif Nat.beq t d then x else F t
def jB(C:dN)(d:Nat)(x:Option (List Value)):dN:=λt=>bif Nat.beq t d then x else C t
def qi(F:Fr)(d:Nat):Fr:=λt=>match F t with
 | .ref s o=>bif Nat.beq s d then .nC else .ref s o| x=>x
def put(o:Option Nat)(x:dH)(F:Fr):Fr:=match o with
 |some d=>gY F d x| none=>F
def dq(F:Fr):Operand->dH
 | .tmp t=>F t| .const (.bool b)=>.lit b| .const v=>.val v| .global g=>.val (.pointer (some ⟨g,0,none⟩))| .func f=>.val (.func (.func f) #[] #[])
def dE(ρ:Operand->dH)(x:Operand):dH:=match ρ x with
 | .lit b=>.val (.bool b)| y=>y
abbrev bH(F:Fr):Operand->dH:=dE (dq F)
def pack(agg:Bool)(vs:List Value):Value:=bif agg then .agg vs.toArray else vs.headD undef
def cj(cs:List Value)(off:Nat)(vs:List Value):List Value:=cs.take off++vs++cs.drop (off+vs.length)
def fK(vs:List Value):Bool:=vs.all (·.oneCell')
def KA(c:Bool):dH->dH->dH
 | .val (.bool x),.val (.bool y)=>.val (.bool (bif c then x else y))| .val x,.val y=>.val (bif c then x else y)| _,_=>.nC
def xC(op:BinOp)(x y:Int):Option Bool:=match op with
 | .eql=>some (decide (x=y))| .neq=>some (!decide (x=y))| .lss=>some (decide (x<y))| .leq=>some (decide (x<=y))| .gtr=>some (decide (y<x))| .geq=>some (decide (y<=x))| _=>none
def uC(op:BinOp)(k:IntKind)(x y:Int):Option Int:=
 let a:=BitVec.ofInt k.bits x
 let b:=BitVec.ofInt k.bits y
 match op with
 | .and=>some (k.wrap (a &&& b).toNat)| .or=>some (k.wrap (a ||| b).toNat)| .xor=>some (k.wrap (a ^^^ b).toNat)| .andNot=>some (k.wrap (a &&& ~~~b).toNat)| _=>none
def ik(I:aH)(M:List aE)(b:Nat)(o:Obj):Prop:=I b=some o\/∃ x∈M,x.num=b/\x.obj=o
def cR(I:aH)(M:List aE)(a:Addr)(n:Nat)(vs:List Value):Prop:=
 a.spot=none/\∃ cs T an,ik I M a.block (.cells cs T an)/\(cs.toList.drop a.off).take n=vs/\vs.length=n
inductive aO(I:aH)(M:List aE)(a:Addr)(n:Nat)(K:List Value->Prop):Prop
 |mk(vs:List Value)(h:cR I M a n vs)(k:K vs)
inductive ck(M:List aE)(a:Addr)(vs:List Value)(K:List aE->Prop):Prop
 |mk(a9 post:List aE)(cs:Array Value)(T:Nat)(ba:M=a9++⟨a.block,.cells cs T (0,0)⟩::post)(av:a.spot=none)(ag:a.off+vs.length<=cs.size)(aa:fK vs=true)(k:K (a9++⟨a.block,.cells (cj cs.toList a.off vs).toArray T (0,0)⟩::post))
inductive bW(I:aH)(M:List aE)(K:Nat->Prop):Prop
 |mk(k:∀ b,I b=none->(∀ x∈M,x.num≠b)->K b)
inductive bm(a:Option Addr)(n sz:Nat)(k:Int)(K:Addr->Prop):Prop
 |mk(aM:Addr)(j:Nat)(a7:a=some aM)(ae:k=(j:Int))(ai:j<n)(h:K (aM.add (j*sz)))
inductive cw(n:Nat)(k:Int)(K:Nat->Prop):Prop
 |mk(j:Nat)(ae:k=(j:Int))(ai:j<n)(h:K j)
inductive tf(s:ByteArray)(k:Int)(K:UInt8->Prop):Prop
 |mk(j:Nat)(ae:k=(j:Int))(ai:j<s.size)(h:K s[j])
inductive bd(k:IntKind)(n:Int)(K:Int->Prop):Prop
 |mk(r:Int)(h:k.wrap n=r)(bq:K r)
inductive uD(y:Int)(K:Prop):Prop
 |mk(h:y≠0)(bq:K)
inductive sm(y:Int)(K:Nat->Prop):Prop
 |mk(j:Nat)(h:y=(j:Int))(bq:K j)
inductive aX(c:Bool)(X Y:Prop):Prop
 |mk(h:c=true->X)(bq:c=false->Y)
inductive pB(l c:Int)(bytes:Nat)(K:Nat->Nat->Prop):Prop
 |mk(n m:Nat)(ax:l=(n:Int))(ao:c=(m:Int))(h:n<=m)(ag:bytes*m<=140737488355328)(hm:m<=9223372036854775807)(k:K n m)
inductive OM(c:Nat)(hi mx:Int)(K:Nat->Nat->Prop):Prop
 |mk(h m:Nat)(gB:hi=(h:Int))(iC:mx=(m:Int))(aa:h<=m)(ad:m<=c)(k:K h m)
inductive jR(n c:Nat)(lo hi:Option Int)(K:Nat->Nat->Prop):Prop
 |mk(l h:Nat)(e6:lo.getD 0=(l:Int))(gB:hi.getD n=(h:Int))(aa:l<=h)(ad:h<=c)(k:K l h)
structure eM(I:aH)(M:List aE)(w:World):Prop where
 i:∀ b o,I b=some o->w.heap[b]?=some o
 m:∀ x∈M,w.heap[x.num]?=some x.obj
 d:∀ x∈M,I x.num=none
 b3:(M.map (·.num)).Nodup
def oB(w w':World):Prop:=w'.os=w.os/\w'.output=w.output
def oB.refl(w:World):oB w w:=⟨rfl,rfl⟩
def oB.trans{a b c:World}(h:oB a b)(bq:oB b c):oB a c:=⟨bq.1.trans h.1,bq.2.trans h.2⟩
structure Kept(I:aH)(M:List aE)(w:World)(I':aH)(M':List aE)(w':World):Prop where
 le:∀ b o,I b=some o->I' b=some o
 uE:∀ b o,I' b=some o->I b=some o\/w.heap.size<=b
 v5:∀ x∈M',(∃ y∈M,y.num=x.num)\/w.heap.size<=x.num
 dO:∀ b,b<w.heap.size->(∀ y∈M,y.num≠b)->w'.heap[b]?=w.heap[b]?
 out:oB w w'
 sz:w.heap.size<=w'.heap.size
def ON(P:Program)(f:Nat):Prop:=∀ (args:Array Value) (w:World),(callFunc f args).run P w=.ok (.enter f args) w
def v7(P:Program)(f:Nat)(args:List Value)(I:aH)(M:List aE)(post:Value->aH->List aE->Prop):Prop:=
 ON P f/\∀ w,eM I M w->Calls P f args.toArray w λe w'=>∃ v I' M',e=.returned v/\post v I' M'/\eM I' M' w'/\Kept I M w I' M' w'
def agH(P:Program)(f:Nat)(args:List Value)(I:aH)(M:List aE)(post:Value->aH->List aE->Prop):Prop:=
 ∀ w,eM I M w->∃ v w' I' M',(callFunc f args.toArray).run P w=.ok (.value v) w'/\post v I' M'/\eM I' M' w'/\Kept I M w I' M' w'
def Spec(P:Program)(f:Nat)(args:List Value)(I:aH)(M:List aE)(post:Value->aH->List aE->Prop):Prop:=v7 P f args I M post\/agH P f args I M post
def ins(I:aH)(b:Nat)(o:Obj):aH:=λx=>bif Nat.beq x b then some o else I x
inductive hc(foot:List Nat):aH->List aE->aH->List aE->Prop
 |refl{I M}:hc foot I M I M| sub {I M M1 I' M'} (h:List.Sublist M1 M) (k:hc foot I M1 I' M'):hc foot I M I' M'| perm {I M M1 I' M'} (h:M.Perm M1) (k:hc foot I M1 I' M'):hc foot I M I' M'| mP {I M I' M' b o post} (h:M=⟨b,o⟩::post) (aB:b ∉ foot) (k:hc foot (ins I b o) post I' M'):hc foot I M I' M'
structure mm(I:aH)(M:List aE):Prop where
 d:∀ x∈M,I x.num=none
 b3:(M.map (·.num)).Nodup
inductive a8(foot:List Nat)(P:Program)(f:Nat)(args:List Value)(I:aH)(M:List aE)(K:Value->aH->List aE->Prop):Prop
 |mk(eE Mr:List aE)(post:Value->aH->List aE->Prop)(ba:M.Perm (eE++Mr))(av:Spec P f args I eE post)(k:∀ v I' M',(∀ b o,I b=some o->I' b=some o)->post v I' M'->K v I' (M'++Mr))| xD (eE Mr:List aE) (post:Value->aH->List aE->Prop) (ba:M.Perm (eE++Mr)) (av:Spec P f args I eE post) (k:∀ v I' M',(∀ b o,I b=some o->I' b=some o)->(∀ x∈M'++Mr,I' x.num=none)->post v I' M'->K v I' (M'++Mr))| uF (I1:aH) (eE Mr:List aE) (post:Value->aH->List aE->Prop) (hw:hc foot I M I1 (eE++Mr)) (av:Spec P f args I1 eE post) (k:∀ v I' M',(∀ b o,I1 b=some o->I' b=some o)->(∀ x∈M'++Mr,I' x.num=none)->post v I' M'->K v I' (M'++Mr))| pC (h:mm I M->a8 foot P f args I M K)
def a8.elim{I:aH}{M:List aE}{K:Value->aH->List aE->Prop}(eF:mm I M)(h:a8 foot P f args I M K) :
  ∃ (I1:aH) (eE Mr:List aE) (post:Value->aH->List aE->Prop),hc foot I M I1 (eE++Mr)/\Spec P f args I1 eE post/\∀ v I' M',(∀ b o,I1 b=some o->I' b=some o)->(∀ x∈M'++Mr,I' x.num=none)->post v I' M'->K v I' (M'++Mr):=by
 induction h with
 |mk eE Mr post ba av k=>exact⟨I,eE,Mr,post,.perm ba .refl,av,λv I' M' aa _ ad=>k v I' M' aa ad⟩| xD eE Mr post ba av k=>exact⟨I,eE,Mr,post,.perm ba .refl,av,k⟩| uF I1 eE Mr post hw av k=>exact⟨I1,eE,Mr,post,hw,av,k⟩| pC h aQ=>exact aQ eF
structure c3 where
 P:Program
 E:Env
 gC:List Nat
 n:Nat
 B:Nat
 ay:World
 dQ:aH
 foot:List Nat
 ro:Option Nat
def g8(X:c3):Fence:={ Fence.wide with round:=X.ro }
def e4(β:Nat->Nat):dH->Value->Prop
 | .val v,u=>u=v| .lit b,u=>u=.bool b| .ref s off,u=>u=.pointer (some ⟨β s,off,none⟩)| .nC,_=>True
structure xE(X:c3)(w:World)(I:aH)(M:List aE)(b:Nat)(cs:List Value):Prop where
 bF:∃ T,w.heap[b]?=some (.cells cs.toArray T (0,0))
 cX:X.B<=b
 j':I b=none
 e7:∀ x∈M,x.num≠b
structure v8(X:c3)(w:World)(I:aH)(M:List aE)(r:Nat):Prop where
 bF:w.heap[r]?=some (.deferred (some []))
 cX:X.B<=r
 j':I r=none
 e7:∀ x∈M,x.num≠r
def xF(r:Nat):Deferred:={ target:=.collected r,args:=#[] }
def Marks(X:c3)(a:Act)(w:World)(I:aH)(M:List aE):Prop:=∃ a':List Nat,a.defers=a'.map xF/\a'.Nodup/\∀ r∈a',v8 X w I M r
structure cN(X:c3)(β:Nat->Nat)(a:Act)(w:World)(F:Fr)(C:dN)(I:aH)(M:List aE):Prop where
 size:a.tmps.size=X.n
 defers:Marks X a w I M
 holds:eM I M w
 an:∀ t,e4 β (F t) (a.tmps.getD t undef)
 cm:∀ s cs,C s=some cs->xE X w I M (β s) cs
 inj:∀ s cg,C s≠none->C cg≠none->β s=β cg->s=cg
 il:∀ b o,X.dQ b=some o->I b=some o
 hT:∀ b o,I b=some o->X.dQ b=some o\/X.B<=b
 own:∀ x∈M,x.num∈X.foot\/X.B<=x.num
 dO:∀ b,b<X.B->b ∉ X.foot->w.heap[b]?=X.ay.heap[b]?
 out:oB X.ay w
 sz:X.B<=w.heap.size
 fx:∀ x∈X.foot,x<X.B
def Rel(X:c3)(a:Act)(w:World)(F:Fr)(C:dN)(I:aH)(M:List aE):Prop:=∃ β,cN X β a w F C I M
def Sat(X:c3)(K:gl)(a:Act)(w:World):Prop:=∃ F C I M,Rel X a w F C I M/\K F C I M
inductive bD(X:c3)(o:Oper)(F:Fr)(C:dN)(I:aH)(M:List aE)(K:gl):Prop
 |mk(h:∀ a w Q,Rel X a w F C I M->o.wpIn (g8 X) 0 X.P a w (Sat X K) Q)
def ka(ρ:Operand->dH):List Operand->Option (List Value)
 |[]=>some []
 |x::xs=>match dE ρ x,ka ρ xs with
  | .val v,some vs=>some (v::vs)| _,_=>none
abbrev mQ(F:Fr):List Operand->Option (List Value):=ka (dq F)
def tg(place:Nat->Option (Nat×Nat))(cells:List Value):List (Nat×Value)->Option (List Value)
 |[]=>some cells
 |(i,v)::bl=>match place i with
  |none=>none| some (off,size)=>bif Nat.beq v.cells.size size&&Nat.ble (off+size) cells.length then tg place (cj cells off v.cells.toList) bl else none
def th(ρ:Operand->dH):List (Nat×Operand)->Option (List (Nat×Value))
 |[]=>some []
 |(i,x)::xs=>match dE ρ x,th ρ xs with
  | .val v,some vs=>some ((i,v)::vs)| _,_=>none
abbrev BF(F:Fr):List (Nat×Operand)->Option (List (Nat×Value)):=th (dq F)
def places(E:Env)(cV:List (Nat×Nat))(i:Nat):Option (Nat×Nat):=match cV[i]? with
 |some (fx,off)=>match E fx with
  |some hv=>some (off,hv.size)| none=>none
 |none=>none
def DT(E:Env)(cV:List (Nat×Nat)):Bool:=cV.all λf=>(E f.1).isSome
def rowOf(zero:List Value)(n:Nat):List Value:=(List.range n).map λi=>zero[i%zero.length]!
def ti(zero:List Value)(n:Nat):rowOf zero n=(madeCells zero.toArray n).toList:=by simp[rowOf,madeCells]
def IntKind.lS:IntKind->IntKind->Bool
 | .i8,.i8 | .i16,.i16 | .i32,.i32 | .i64,.i64 | .u8,.u8 | .u16,.u16 | .u32,.u32 | .u64,.u64=>true| _,_=>false
def lT(op:BinOp)(db:Option ea)(x y:dH)(K:Value->Prop)(other:Prop):Prop:=
 match x,y with
 | .val (.int k a),.val (.int fL b)=>
  match op with
  | .shl=>sm b λj=>bd k (a*2^(min j k.bits)) λr=>K (.int k r)
  | .shr=>sm b λj=>K (.int k (a.fdiv (2^(min j k.bits))))
  |op=>bif IntKind.lS k fL then
    (match op with
    | .add=>bd k (a+b) λr=>K (.int k r)
    | .sub=>bd k (a-b) λr=>K (.int k r)
    | .mul=>bd k (a*b) λr=>K (.int k r)
    | .quo=>uD b (bd k (a.tdiv b) λr=>K (.int k r))| .rem=>uD b (K (.int k (a.tmod b)))
    | .and | .or | .xor | .andNot=>(match uC op k a b with
     |some r=>K (.int k r)| none=>False)
    |op=>(match xC op a b with
     |some r=>K (.bool r)| none=>False))
   else False
 | .val (.string a),.val (.string b)=>
  match op with
  | .eql=>K (.bool (decide (a=b)))| .neq=>K (.bool (!decide (a=b)))| _=>other
 | .val (.bool a),.val (.bool b)=>
  match db with
  |some { bP:=.bool,.. }=>
   (match op with
   | .eql=>K (.bool (a == b))| .neq=>K (.bool (!(a == b)))| _=>other)
  |_=>other
 |_,_=>other
inductive fT(P:Program)(op:BinOp)(t:Nat)(x y:Operand)(p q:dH)(K:Value->Prop)(other:Prop):Prop
 |mk(mo gb v:Value)(aJ:p=.val mo)(aL:q=.val gb)(h:∀ w,(do eqGuard op t x y mo gb;binOp op t mo gb:Sem Value).run P w=.ok v w)(k:K v)| other (h:other)
def cK(X:c3)(op:Op)(ρ:Operand->dH)(C:dN)(I:aH)(M:List aE)(V:dH->Prop)(other:Prop):Prop:=
 match op with
 | .move x | .assign x=>V (ρ x)
 | .pick c a b=>
  match ρ c with
  | .lit c=>V (bif c then ρ a else ρ b)| .val (.bool c)=>V (KA c (dE ρ a) (dE ρ b))| _=>False
 | .unOp op _ x=>
  match op,ρ x with
  | .not,.lit b=>V (.lit (!b))| .not,.val (.bool b)=>V (.val (.bool (!b)))| .neg,.val (.int k n)=>bd k (0-n) λr=>V (.val (.int k r))
  |_,_=>other
 | .binOp op t x y _=>lT op (X.E t) (dE ρ x) (dE ρ y) (λv=>V (.val v)) (fT X.P op t x y (dE ρ x) (dE ρ y) (λv=>V (.val v)) other)
 | .load t x=>
  match X.E t with
  |some i=>
   (match ρ x with
   | .ref s off=>
    (match C s with
    |some cs=>bif Nat.ble (off+i.size) cs.length then V (.val (pack i.bP.agg ((cs.drop off).take i.size)))else False| none=>False)
   | .val (.pointer (some a))=>aO I M a i.size λvs=>V (.val (pack i.bP.agg vs))
   |_=>False)
  |none=>False
 | .nilCheck x=>
  match ρ x with
  | .ref s off=>V (.ref s off)| .val (.pointer (some a))=>V (.val (.pointer (some a)))| _=>other
 | .fieldAddr t x i=>
  match X.E t with
  |some { bP:=.struct cV,.. }=>
   (match cV[i]? with
   |some (fx,off)=>
    (match X.E fx,ρ x with
    |some hv,.ref s o'=>bif Nat.beq hv.size 0 then False else V (.ref s (o'+off))| some hv,.val (.pointer (some a))=>bif Nat.beq hv.size 0 then False else V (.val (.pointer (some (a.add off))))| _,_=>False)
   |none=>False)
  |_=>False
 | .field t x i=>
  match X.E t,dE ρ x with
  |some { bP:=.struct cV,.. },.val (.agg cs)=>
   (match cV[i]? with
   |some (fx,off)=>
    (match X.E fx with
    |some hv=>bif Nat.ble (off+hv.size) cs.size then V (.val (pack hv.bP.agg ((cs.toList.drop off).take hv.size)))else False| none=>False)
   |none=>False)
  |_,_=>False
 | .indexAddr t x i=>
  match X.E t,dE ρ i with
  |some { bP:=.slice e,.. },.val (.int _ k)=>
   (match X.E e,dE ρ x with
   |some aF,.val (.slice a n _)=>bm a n aF.size k λaM=>V (.val (.pointer (some aM)))
   |_,_=>False)
  |some { bP:=.array n e,.. },.val (.int _ k)=>
   (match X.E e,ρ x with
   |some aF,.ref s o'=>cw n k λj=>V (.ref s (o'+j*aF.size))
   |some aF,.val (.pointer (some a))=>cw n k λj=>V (.val (.pointer (some (a.add (j*aF.size)))))
   |_,_=>False)
  |_,_=>False
 | .index t x i=>
  match X.E t,dE ρ x,dE ρ i with
  |some { bP:=.string,.. },.val (.string s),.val (.int _ k)=>tf s k λb=>V (.val (.int .u8 b.toNat))
  |some { bP:=.array n e,.. },.val (.agg cs),.val (.int _ k)=>
   (match X.E e with
   |some aF=>bif Nat.beq (n*aF.size) cs.size then cw n k λj=>V (.val (pack aF.bP.agg ((cs.toList.drop (j*aF.size)).take aF.size)))else False
   |none=>False)
  |_,_,_=>False
 | .build t parts=>
  match X.E t,th ρ parts.toList with
  |some i,some vs=>
   (match i.bP with
   | .struct cV=>bif DT X.E cV then(match tg (places X.E cV) i.zero vs with
    |some cells=>V (.val (.agg cells.toArray))| none=>False)else False
   | .array _ e=>(match X.E e with
    |some aF=>(match tg (λj=>some (j*aF.size,aF.size)) i.zero vs with
     |some cells=>V (.val (.agg cells.toArray))| none=>False)
    |none=>False)
   |_=>False)
  |_,_=>False
 | .makeFunc fn first captured=>
  match ka ρ first.toList,ka ρ captured.toList with
  |some cV,some cs=>V (.val (.func fn cV.toArray cs.toArray))| _,_=>False
 | .slice t x lo hi mx=>
  match X.E t,dE ρ x,mx.map (dE ρ)with
  |some { bP:=.slice e,.. },.val (.slice a n c),none=>
   (match X.E e,lo.map (dE ρ),hi.map (dE ρ)with
   |some aF,none,none=>V (.val (.slice a n c))| some aF,none,some (.val (.int _ h))=>jR n c none (some h) λ_ h=>V (.val (.slice a h c))
   |some aF,some (.val (.int _ l)),none=>jR n n (some l) none λl _=>V (.val (.slice (if c=l then a else a.map (·.add (l*aF.size))) (n-l) (c-l)))
   |some aF,some (.val (.int _ l)),some (.val (.int _ h))=>jR n c (some l) (some h) λl h=>V (.val (.slice (if c=l then a else a.map (·.add (l*aF.size))) (h-l) (c-l)))
   |_,_,_=>False)
  |some { bP:=.string,.. },.val (.string s),none=>
   (match lo.map (dE ρ),hi.map (dE ρ)with
   |none,none=>V (.val (.string s))| none,some (.val (.int _ h))=>jR s.size s.size none (some h) λ_ h=>V (.val (.string (s.extract 0 h)))
   |some (.val (.int _ l)),none=>jR s.size s.size (some l) none λl _=>V (.val (.string (s.extract l s.size)))
   |some (.val (.int _ l)),some (.val (.int _ h))=>jR s.size s.size (some l) (some h) λl h=>V (.val (.string (s.extract l h)))
   |_,_=>False)
  |some { bP:=.slice e,.. },.val (.slice a _ c),some (.val (.int _ m))=>
   (match X.E e,lo.map (dE ρ),hi.map (dE ρ)with
   |some aF,none,some (.val (.int _ h))=>OM c h m λh m=>V (.val (.slice (if m=0 then a else a.map (·.add (0*aF.size))) (h-0) (m-0)))
   |_,_,_=>other)
  |_,_,_=>other
 | .extract x i=>
  match dE ρ x with
  | .val (.tuple vs)=>(match vs.toList[i]? with
   |some v=>V (.val v)| none=>False)
  |_=>False
 | .convert s d x=>
  match X.E s,X.E d,dE ρ x with
  |some _,some { bP:=.int k,.. },.val (.int _ n)=>bd k n λr=>V (.val (.int k r))
  |_,_,_=>other
 | .call { callee:=.builtin .len,args,argTypes }=>
  match argTypes.toList,ka ρ args.toList with
  |[t],some [v]=>
   (match X.E t,v with
   |some { bP:=.slice _,.. },.slice _ n _=>V (.val (.int .i64 n))| some { bP:=.string,.. },.string s=>V (.val (.int .i64 s.size))| some { bP:=.array n _,.. },_=>V (.val (.int .i64 n))| _,_=>other)
  |_,_=>other
 | .call { callee:=.builtin .cap,args,argTypes }=>
  match argTypes.toList,ka ρ args.toList with
  |[t],some [v]=>
   (match X.E t,v with
   |some { bP:=.slice _,.. },.slice _ _ c=>V (.val (.int .i64 c))| _,_=>other)
  |_,_=>other
 | .call { callee:=.builtin .max,args,.. }=>
  match ka ρ args.toList with
  |some [.int k a,.int _ b]=>V (.val (.int k (max a b)))| _=>other
 | .call { callee:=.builtin .min,args,.. }=>
  match ka ρ args.toList with
  |some [.int k a,.int _ b]=>V (.val (.int k (min a b)))| _=>other
 | .call { callee:=.builtin .unsafeSliceData,args,.. }=>
  match ka ρ args.toList with
  |some [.slice none _ _]=>V (.val (.pointer none))| some [.slice (some a) _ c]=>uD c (V (.val (.pointer (some a))))| _=>other
 |_=>other
def gZ(X:c3)(o:Oper)(F:Fr)(C:dN)(I:aH)(M:List aE)(K:gl):Prop:=
 match o.op with
 | .box t x=>
  match o.dst,bH F x with
  |some d,.val v=>
   bif X.gC.contains d then bW I M λb=>K (gY (qi F d) d (.val (.pointer (some ⟨b,0,none⟩)))) (jB C d none) I (⟨b,.cells v.cells t (0,0)⟩::M)
   else K (gY (qi F d) d (.ref d 0)) (jB C d (some v.cells.toList)) I M
  |_,_=>False
 | .alloc t=>
  match o.dst,X.E t with
  |some d,some i=>
   bif X.gC.contains d then bW I M λb=>K (gY (qi F d) d (.val (.pointer (some ⟨b,0,none⟩)))) (jB C d none) I (⟨b,.cells i.zero.toArray t (0,0)⟩::M)
   else K (gY (qi F d) d (.ref d 0)) (jB C d (some i.zero)) I M
  |_,_=>False
 | .store t x y=>
  match o.dst,X.E t,bH F y with
  |none,some i,.val v=>
   (match dq F x with
   | .ref s off=>
    (match C s with
    |some cs=>bif Nat.ble (off+i.size) cs.length&&(Nat.beq v.cells.size i.size&&fK v.cells.toList)then K F (jB C s (some (cj cs off v.cells.toList))) I M else False| none=>False)
   | .val (.pointer (some a))=>bif Nat.beq v.cells.size i.size then ck M a v.cells.toList λM'=>K F C I M' else False
   |_=>False)
  |_,_,_=>False
 | .buildSlice t len parts=>
  match X.E t,BF F parts.toList with
  |some { bP:=.slice e,.. },some vs=>
   (match X.E e with
   |some aF=>
    bif Nat.ble (len*aF.size) 16777216&&Nat.blt 0 (len*aF.size)then
     (match tg (λj=>some (j*aF.size,aF.size)) (rowOf aF.zero (len*aF.size)) vs with
     |some cells=>bW I M λb=>K (put o.dst (.val (.slice (some ⟨b,0,none⟩) len len)) F) C I (⟨b,.cells cells.toArray e (0,0)⟩::M)
     |none=>False)
    else(match len,vs with
     |0,[]=>bW I M λb=>K (put o.dst (.val (.slice (some ⟨b,0,none⟩) 0 0)) F) C I (⟨b,.cells #[] e (0,0)⟩::M)
     |_,_=>False)
   |none=>False)
  |_,_=>False
 | .makeSlice t l c=>
  match X.E t,bH F l,bH F c with
  |some { bP:=.slice e,.. },.val (.int _ l),.val (.int _ c)=>
   (match X.E e with
   |some aF=>pB l c aF.bytes λn m=>bW I M λb=>K (put o.dst (.val (.slice (some ⟨b,0,none⟩) n m)) F) C I (⟨b,.cells (rowOf aF.zero (m*aF.size)).toArray e (0,0)⟩::M)
   |none=>False)
  |_,_,_=>False
 | .call { callee:=.value f,args,.. }=>
  match bH F f,mQ F args.toList with
  | .val (.func (.func g) first cap),some vs=>a8 X.foot X.P g (first.toList++vs++cap.toList) I M λv I' M'=>K (put o.dst (.val v) F) C I' M'
  |_,_=>bD X o F C I M K
 |op=>cK X op (dq F) C I M (λx=>K (put o.dst x F) C I M) (bD X o F C I M K)
inductive bX(c b:Bool)(Y N:Prop):Prop
 |mk(h:c=b->Y)(bq:c=!b->N)
def uG(X:c3)(ops:List Oper):List Oper->Fr->dN->aH->List aE->gl->Prop
 |[],F,C,I,M,K=>K F C I M
 |o::bl,F,C,I,M,K=>
  match o.guard with
  |none=>gZ X o F C I M λF C I M=>uG X ops bl F C I M K
  |some (j,b)=>
   match(ops[j]?).bind (·.dst)with
   |none=>False
   |some d=>
    match F d with
    | .lit c=>bif c == b then gZ X o F C I M λF C I M=>uG X ops bl F C I M K else uG X ops bl (put o.dst (.val undef) F) C I M K
    | .val (.bool c)=>bX c b (gZ X o (gY F d (.lit b)) C I M λF C I M=>uG X ops bl F C I M K) (uG X ops bl (put o.dst (.val undef) (gY F d (.lit !b))) C I M K)| .val (.tuple _)=>uG X ops bl (put o.dst (.val undef) F) C I M K| _=>False
def hI{a b:Nat}(h:¬ a=b):Nat.beq a b=false:=by
 cases ag:Nat.beq a b with
 |false=>rfl| true=>exact absurd (ed ag) h
def q6(a:Nat):Nat.beq a a=true:=Nat.beq_refl a
def GD(w:World)(o:Obj){i:Nat}(h:i<w.heap.size):(w.alloc o).heap[i]?=w.heap[i]?:=by show(w.heap.push o)[i]?=_;simp[Array.getElem?_push,Nat.ne_of_lt h]
def OO(w:World)(o:Obj):(w.alloc o).heap[w.heap.size]?=some o:=by show(w.heap.push o)[w.heap.size]?=_;simp
section
variable{X:c3}{β:Nat->Nat}{a:Act}{w:World}{F:Fr}{C:dN}{I:aH}{M:List aE}{o:Oper}{Q:Exit->Act->World->Prop}{next:Act->World->Prop}{K:gl}
def xG(h:∀ t,e4 β (F t) (a.tmps.getD t undef))(x:Operand):e4 β (dq F x) (a.eval x):=by
 cases x with
 |tmp t=>exact h t| const v=>cases v<;>exact rfl
 |global g=>exact rfl| func f=>exact rfl
def dj(h:∀ t,e4 β (F t) (a.tmps.getD t undef)){x:Operand}(ab:bH F x=.val v):a.eval x=v:=by
 have aa:=xG h x;unfold bH dE at ab;split at ab
 ·rename_i b ag;rw[ag]at aa;cases ab;exact aa
 ·rw[ab]at aa;exact aa
def uH(h:∀ t,e4 β (F t) (a.tmps.getD t undef)){x:Operand}(ab:dq F x=.val v):a.eval x=v:=by have aa:=xG h x;rw[ab]at aa;exact aa
def OP(h:∀ t,e4 β (F t) (a.tmps.getD t undef)){x:Operand}{b:Bool}(ab:dq F x=.lit b):a.eval x=.bool b:=by have aa:=xG h x;rw[ab]at aa;exact aa
def BG(h:∀ t,e4 β (F t) (a.tmps.getD t undef)){x:Operand}{s:Nat}(ab:dq F x=.ref s off):a.eval x=.pointer (some ⟨β s,off,none⟩):=by have aa:=xG h x;rw[ab]at aa;exact aa
def VK(h:∀ t,e4 β (F t) (a.tmps.getD t undef))(x:Operand):e4 β (bH F x) (a.eval x):=by
 have aa:=xG h x;unfold bH dE;split
 ·rename_i b ag;rw[ag]at aa;exact aa
 ·exact aa
def tj(h:∀ t,e4 β (F t) (a.tmps.getD t undef)):∀ {xs:List Operand} {vs:List Value},mQ F xs=some vs->xs.map a.eval=vs
 |[],vs,ab=>by simp[mQ,ka]at ab;simp[ab]
 |x::xs,vs,ab=>by
  unfold mQ ka at ab;split at ab;·rename_i v tk aa ad;cases ab;simp[dj h aa,tj h ad]
  ·cases ab
def KB(h:∀ t,e4 β (F t) (a.tmps.getD t undef)):∀ {xs:List (Nat×Operand)} {vs:List (Nat×Value)},BF F xs=some vs->(xs.map λ(i,x)=>(i,a.eval x))=vs
 |[],vs,ab=>by simp[BF,th]at ab;simp[ab]
 |(i,x)::xs,vs,ab=>by
  unfold BF th at ab;split at ab;·rename_i v tk aa ad;cases ab;simp[dj h aa,KB h ad]
  ·cases ab
def iN(bU:∀ c,o.op≠.defer c)(h:(execOp a.eval o).run X.P w=.ok (.value v) w')(ae:next (a.put o.dst v) w'):o.wpIn (g8 X) 0 X.P a w next Q:=
 ⟨λ_ _=>trivial,by rw[Kx _ _ _ bU,h];exact ae⟩
def DU(bU:∀ c,o.op≠.defer c)(h:(execOp a.eval o).run X.P w=.ok .skip w')(ae:next (a.put o.dst undef) w'):o.wpIn (g8 X) 0 X.P a w next Q:=
 ⟨λ_ _=>trivial,by rw[Kx _ _ _ bU,h];exact ae⟩
def VL(a:Act)(d t:Nat)(v:Value)(ah:d<a.tmps.size):(a.put (some d) v).tmps.getD t undef=if t=d then v else a.tmps.getD t undef:=by
 simp only[Act.put,pz,DR];by_cases h:t=d
 ·subst h;simp[ah]
 ·simp[h,si h]
def OQ(h:∀ t,e4 β (F t) (a.tmps.getD t undef)){d:Nat}{x:dH}(ah:d<a.tmps.size)(ab:e4 β x v)(t:Nat):e4 β (gY F d x t) ((a.put (some d) v).tmps.getD t undef):=by
 rw[VL a d t v ah];unfold gY;by_cases aa:t=d
 ·subst aa;simp only[q6,cF,sj];exact ab
 ·have:Nat.beq t d=false:=hI aa;simp only[this,cE,bN aa];exact h t
def VM(w:World)(g:Nat)(cs:Array Value):oB w (w.setRow g cs):=by
 unfold World.setRow
 first | exact⟨rfl,rfl⟩ | (split<;>exact⟨rfl,rfl⟩)
def KD(w:World)(g:Nat)(o:Obj):oB w (w.putObj g o):=by unfold World.putObj;exact⟨rfl,rfl⟩
def Marks.mono(h:Marks X a w I M){I':aH}{M':List aE}(hm:∀ r,v8 X w I M r->v8 X w' I' M' r):Marks X a w' I' M':=by obtain⟨a',aa,ad,ak⟩:=h;exact⟨a',aa,ad,λr af=>hm r (ak r af)⟩
def cN.put(h:cN X β a w F C I M){dst:Option Nat}(ah:∀ d,dst=some d->d<X.n){x:dH}(ab:e4 β x v):cN X β (a.put dst v) w (put dst x F) C I M:=by
 cases dst with
 |none=>exact h
 |some d=>
  refine { h with size:=?_,defers:=h.defers,an:=?_ };·simp[Act.put,h.size]
  ·exact OQ h.an (by rw[h.size];exact ah d rfl) ab
def eM.heap(h:eM I M w)(cG:w'.heap=w.heap):eM I M w':=
 { i:=by rw[cG];exact h.i,m:=by rw[cG];exact h.m,d:=h.d,b3:=h.b3 }
def cN.world(h:cN X β a w F C I M)(cG:w'.heap=w.heap)(aA:oB w w':=by exact⟨rfl,rfl⟩):cN X β a w' F C I M:=
 { h with
  holds:={ i:=by rw[cG];exact h.holds.i,m:=by rw[cG];exact h.holds.m,d:=h.holds.d,b3:=h.holds.b3 }
  defers:=h.defers.mono λr af=>{ af with bF:=by rw[cG];exact af.bF }
  cm:=λs cs av=>{ h.cm s cs av with bF:=by rw[cG];exact(h.cm s cs av).bF }
  dO:=by rw[cG];exact h.dO
  out:=h.out.trans aA
  sz:=by rw[cG];exact h.sz }
def eM.alloc(h:eM I M w)(o:Obj):eM I M (w.alloc o) where
 i b x ag:=by have aa:=h.i b x ag;rw[GD w o (lR.1 aa).1];exact aa
 m x ab:=by have aa:=h.m x ab;rw[GD w o (lR.1 aa).1];exact aa
 d:=h.d
 b3:=h.b3
def eM.lt(h:eM I M w){x:aE}(ab:x∈M):x.num<w.heap.size:=(lR.1 (h.m x ab)).1
def eM.DV(h:eM I M w){b:Nat}{o:Obj}(ag:I b=some o):b<w.heap.size:=(lR.1 (h.i b o ag)).1
def eM.sp(h:eM I M w):I w.heap.size=none:=by
 cases ag:I w.heap.size with
 |none=>rfl| some o=>exact absurd (h.DV ag) (Nat.lt_irrefl _)
def eM.q7(h:eM I M w):∀ x∈M,x.num≠w.heap.size:=λx ab e=>by have:=h.lt ab;omega
def eM.cons(h:eM I M w)(o:Obj):eM I (⟨w.heap.size,o⟩::M) (w.alloc o) where
 i:=(h.alloc o).i
 m x ab:=by
  rcases eI.1 ab with rfl | ab;·exact OO w o
  ·exact(h.alloc o).m x ab
 d x ab:=by
  rcases eI.1 ab with rfl | ab;·exact h.sp
  ·exact h.d x ab
 b3:=by simp only[b5,lf];refine⟨λhm=>?_,h.b3⟩;obtain⟨x,ab,e⟩:=cP.1 hm;exact h.q7 x ab e
def xE.alloc{b:Nat}{cs:List Value}(h:xE X w I M b cs)(o:Obj):xE X (w.alloc o) I M b cs where
 bF:=by obtain⟨T,be⟩:=h.bF;exact⟨T,by rw[GD w o (lR.1 be).1];exact be⟩
 cX:=h.cX
 j':=h.j'
 e7:=h.e7
def xE.lt{b:Nat}{cs:List Value}(h:xE X w I M b cs):b<w.heap.size:=by obtain⟨T,be⟩:=h.bF;exact(lR.1 be).1
def xE.OR{b:Nat}{cs:List Value}(h:xE X w I M b cs)(o:Obj):xE X (w.alloc o) I (⟨w.heap.size,o⟩::M) b cs where
 bF:=(h.alloc o).bF
 cX:=h.cX
 j':=h.j'
 e7 x ab:=by
  rcases eI.1 ab with rfl | ab
  ·exact λe=>by have:=h.lt;simp only at e;omega
  ·exact h.e7 x ab
def v8.alloc{r:Nat}(h:v8 X w I M r)(o:Obj):v8 X (w.alloc o) I M r:=
 { h with bF:=by rw[GD w o (lR.1 h.bF).1];exact h.bF }
def v8.OR{r:Nat}(h:v8 X w I M r)(o:Obj):v8 X (w.alloc o) I (⟨w.heap.size,o⟩::M) r:=by
 refine { h.alloc o with e7:=λx ab=>?_ };rcases eI.1 ab with rfl | ab
 ·have aa:=(lR.1 h.bF).1;simp only;omega
 ·exact h.e7 x ab
def OS(h:∀ b,b<X.B->b ∉ X.foot->w.heap[b]?=X.ay.heap[b]?)(dn:X.B<=w.heap.size)(o:Obj):∀ b,b<X.B->b ∉ X.foot->(w.alloc o).heap[b]?=X.ay.heap[b]?:=λb ag aB=>by rw[GD w o (by omega)];exact h b ag aB
def cN.n2(h:cN X β a w F C I M)(o:Obj):cN X β a (w.alloc o) F C I (⟨w.heap.size,o⟩::M) where
 size:=h.size
 defers:=h.defers.mono λr af=>af.OR o
 holds:=h.holds.cons o
 an:=h.an
 cm s cs av:=(h.cm s cs av).OR o
 inj:=h.inj
 il:=h.il
 hT:=h.hT
 own x ab:=by
  rcases eI.1 ab with rfl | ab;·exact .inr h.sz
  ·exact h.own x ab
 dO:=OS h.dO h.sz o
 out:=h.out
 sz:=by have:=h.sz;simp;omega
 fx:=h.fx
def cN.OT(h:cN X β a w F C I M)(d:Nat):cN X β a w (qi F d) (jB C d none) I M where
 size:=h.size
 defers:=h.defers
 holds:=h.holds
 an t:=by
  have aa:=h.an t;unfold qi;cases bE:F t with
  |ref s off=>
   rw[bE]at aa;simp only;cases Nat.beq s d;·exact aa
   ·trivial
  |_=>rw[bE]at aa;exact aa
 cm s cs av:=by
  unfold jB at av;cases ag:Nat.beq s d with
  |true=>simp[ag]at av| false=>simp[ag]at av;exact h.cm s cs av
 inj s cg aa ad:=h.inj s cg (λe=>aa (by simp[jB,e])) (λe=>ad (by simp[jB,e]))
 il:=h.il
 hT:=h.hT
 own:=h.own
 dO:=h.dO
 out:=h.out
 sz:=h.sz
 fx:=h.fx
def cN.VN(h:cN X β a w F C I M)(d:Nat)(ah:d<X.n)(cs:List Value)(T:Nat) :
  ∃ oC,cN X oC (a.put (some d) (.pointer (some ⟨w.heap.size,0,none⟩))) (w.alloc (.cells cs.toArray T (0,0))) (gY (qi F d) d (.ref d 0)) (jB C d (some cs)) I M:=by
 have ay:=h.OT d;let oC:Nat->Nat:=λs=>if s=d then w.heap.size else β s
 refine⟨oC,?_⟩;have xH:∀ t,e4 oC (qi F d t) (a.tmps.getD t undef):=λt=>by
  have aa:=ay.an t;cases bE:qi F d t with
  |ref s off=>
   rw[bE]at aa;have av:s≠d:=by
    intro e;subst e;unfold qi at bE;split at bE
    ·rename_i cg KE mR;cases ag:Nat.beq cg s with
     |true=>simp[ag]at bE| false=>simp[ag]at bE;obtain⟨rfl,_⟩:=bE;simp at ag
    ·rename_i bt;exact bt _ _ bE
   simp only[e4,oC,bN av];exact aa
  |_=>rw[bE]at aa;exact aa
 exact {
  size:=by simp[Act.put,h.size]
  defers:=h.defers.mono λr af=>af.alloc _
  holds:=h.holds.alloc _
  an:=OQ xH (by rw[h.size];exact ah) (by simp[e4,oC])
  cm:=λs cs' av=>by
   by_cases e:s=d;·subst e;simp[jB]at av;subst av;simp only[oC,bT rfl];exact { bF:=⟨T,OO w _⟩,cX:=h.sz,j':=h.holds.sp,e7:=h.holds.q7 }
   ·have ag:Nat.beq s d=false:=hI e;simp[jB,ag]at av;simp only[oC,bN e];exact(h.cm s cs' av).alloc _
  inj:=λs cg aa ad he=>by
   by_cases e:s=d<;>by_cases cZ:cg=d
   ·rw[e,cZ]
   ·exfalso;have ag:Nat.beq cg d=false:=hI cZ;simp[jB,ag]at ad;obtain⟨c,ao⟩:=Ku.1 ad;have:=(h.cm cg c ao).lt;simp only[oC,bT e,bN cZ]at he;omega
   ·exfalso;have ag:Nat.beq s d=false:=hI e;simp[jB,ag]at aa;obtain⟨c,ao⟩:=Ku.1 aa;have:=(h.cm s c ao).lt;simp only[oC,bN e,bT cZ]at he;omega
   ·have ag:Nat.beq s d=false:=hI e;have hd:Nat.beq cg d=false:=hI cZ;simp[jB,ag]at aa;simp[jB,hd]at ad;simp only[oC,bN e,bN cZ]at he;exact h.inj s cg aa ad he
  il:=h.il
  hT:=h.hT
  own:=h.own
  dO:=OS h.dO h.sz _
  out:=h.out
  sz:=by have:=h.sz;simp;omega
  fx:=h.fx }
def eS(a:Addr)(h:a.spot=none)(j:Nat):a.add j=⟨a.block,a.off+j,none⟩:=by
 obtain⟨b,o,s⟩:=a;simp only at h;subst h;unfold Addr.add;split<;>simp_all
def tl{b:Nat}(aw:w.heap[b]?=some (.cells cs T an))(j:Nat):w.cell? ⟨b,j,none⟩=cs[j]?:=by simp[World.cell?,aw]
variable{P:Program}{t:Nat}{i:ea}
def kn.run_sizeOf(h:kn P t i)(w:World):(sizeOf t).run P w=.ok i.size w:=by obtain⟨inf,z,aa,ad,_⟩:=h.inf;simp[sizeOf,typeInfo,aa,ad]
def kn.GF(h:kn P t i)(w:World):∃ z,(zeroValue t).run P w=.ok z w/\z.cells.toList=i.zero:=by obtain⟨inf,z,aa,ad,ak,aK,bz⟩:=h.inf;exact⟨z,by simp[zeroValue,typeInfo,aa,aK],bz⟩
def kn.agI(h:kn P t i)(w:World):∃ d,(underlying t).run P w=.ok d w/\fr d=i.bP:=by obtain⟨d,aa,ad⟩:=h.fs;exact⟨d,run_underlying aa w,ad⟩
def kn.VO(h:kn P t i)(w:World):(isAgg t).run P w=.ok i.bP.agg w:=by
 obtain⟨d,aa,ad⟩:=h.agI w;rw[<-ad];unfold isAgg;simp only[cp,aa,bZ];cases d<;>rfl
def agJ(ax:vs.length=1):vs=[vs.headD undef]:=by
 match vs,ax with
 |[v],_=>rfl
def KF(h:kn P t i){a:Addr}(av:a.spot=none)(aw:w.heap[a.block]?=some (.cells cs T an))
  (aj:(cs.toList.drop a.off).take i.size=vs) (ax:vs.length=i.size):(loadVar t a).run P w=.ok (pack i.bP.agg vs) w:=by
 have ao:∀ j v,vs[j]?=some v->w.cell? (a.add j)=some v:=by
  intro j v ai;rw[eS a av,tl aw];rw[<-aj,lb]at ai;split at ai;·rw[mO]at ai;simpa using ai
  ·cases ai
 unfold loadVar;simp only[cp,h.VO,bZ];cases GG:i.bP.agg with
 |true=>simp only[sj,cp,h.run_sizeOf,bZ,<-ax];rw[run_loadCells_list w a vs ao];simp[pack]| false=>have aa:=h.Kz GG;rw[aa]at ax;have iO:=agJ ax;have:=ao 0 (vs.headD undef) (by rw[iO];simp);have a7:a.add 0=a:=rfl;rw[a7]at this;simp[this,pack]
def zq(h:fK vs=true):∀ v∈vs,v.oneCell'=true:=by simpa[fK]using h
def KG(h:kn P t i){a:Addr}(av:a.spot=none)(aw:w.heap[a.block]?=some (.cells cs T (0,0)))(dn:v.cells.size=i.size)(ag:a.off+v.cells.toList.length<=cs.size)(aa:fK v.cells.toList=true) :
  (storeVar t a v).run P w=.ok () (w.setRow a.block (cj cs.toList a.off v.cells.toList).toArray):=by
 obtain⟨b,o,s⟩:=a;simp only at av aw ag;subst av;unfold storeVar;simp only[cp,h.run_sizeOf,bZ,dn,ne_eq,not_true,mj,Sem.run_ite];have:=run_storeCells_at (P:=P) b o T v.cells.toList 0 cs w aw (by simpa using ag) (zq aa);simp only[oz]at this;simp only[cj];simpa using this
def cN.VP(h:cN X β a w F C I M){s:Nat}{cs:List Value}(av:C s=some cs)(cs':List Value):cN X β a (w.setRow (β s) cs'.toArray) F (jB C s (some cs')) I M:=by
 have ag:=h.cm s cs av;obtain⟨T,be⟩:=ag.bF;exact {
  size:=h.size
  defers:=h.defers.mono λr af=>by refine { af with bF:=?_ };rw[setRow_other _ _ _ _ (λe=>by have aa:=af.bF;rw[e,be]at aa;cases aa)];exact af.bF
  holds:={
   i:=λb o iP=>by rw[setRow_other _ _ _ _ (λe=>by rw[e,ag.j']at iP;cases iP)];exact h.holds.i b o iP
   m:=λx ab=>by rw[setRow_other _ _ _ _ (ag.e7 x ab)];exact h.holds.m x ab
   d:=h.holds.d
   b3:=h.holds.b3 }
  an:=h.an
  cm:=λcg c' oD=>by
   by_cases e:cg=s;·subst e;simp[jB,q6]at oD;subst oD;exact { bF:=⟨T,setRow_heap _ _ _ _ _ _ be⟩,cX:=ag.cX,j':=ag.j',e7:=ag.e7 }
   ·simp[jB,hI e]at oD;have hd:=h.cm cg c' oD;obtain⟨mq,GH⟩:=hd.bF;refine { bF:=⟨mq,?_⟩,cX:=hd.cX,j':=hd.j',e7:=hd.e7 };rw[setRow_other _ _ _ _ (λcZ=>e (h.inj cg s (by simp[oD]) (by simp[av]) cZ))];exact GH
  inj:=λs1 s2 aa ad=>h.inj s1 s2 (λe=>by
    unfold jB at aa;cases aL:Nat.beq s1 s with
    |true=>have:=ed aL;subst this;rw[av]at e;cases e| false=>rw[aL]at aa;exact aa e) (λe=>by
    unfold jB at ad;cases aL:Nat.beq s2 s with
    |true=>have:=ed aL;subst this;rw[av]at e;cases e| false=>rw[aL]at ad;exact ad e)
  il:=h.il
  hT:=h.hT
  own:=h.own
  dO:=λb hd aB=>by rw[setRow_other _ _ _ _ (λe=>by have:=ag.cX;omega)];exact h.dO b hd aB
  out:=h.out.trans (VM _ _ _)
  sz:=by have:=h.sz;simpa using this
  fx:=h.fx }
def cN.xI(h:cN X β a w F C I M){a9 post:List aE}{g:Nat}{cs':Array Value}(ba:M=a9++⟨g,.cells cs T (0,0)⟩::post) :
  cN X β a (w.setRow g cs') F C I (a9++⟨g,.cells cs' T (0,0)⟩::post):=by
 subst ba;have fM:(⟨g,.cells cs T (0,0)⟩:aE)∈a9++⟨g,.cells cs T (0,0)⟩::post:=by simp
 have aw:w.heap[g]?=some (.cells cs T (0,0)):=h.holds.m _ fM;have bU:=h.holds.b3;simp only[cM,b5]at bU;have bt:∀ x,x∈a9\/x∈post->x.num≠g:=by
  intro x ab e;rw[sh]at bU;obtain⟨_,ad,ak⟩:=bU;rcases ab with ab | ab;·exact ak x.num (cP.2 ⟨x,ab,rfl⟩) g (by simp) e
  ·rw[lf]at ad;exact ad.1 (cP.2 ⟨x,ab,e⟩)
 have mem:∀ x,x∈a9++(⟨g,.cells cs' T (0,0)⟩:aE)::post->x=⟨g,.cells cs' T (0,0)⟩\/(x∈a9\/x∈post):=by
  intro x ab;simp only[cv,eI]at ab;rcases ab with ab | ab | ab;·exact .inr (.inl ab)
  ·exact .inl ab
  ·exact .inr (.inr ab)
 have back:∀ x,x∈a9\/x∈post->x∈a9++(⟨g,.cells cs T (0,0)⟩:aE)::post:=by
  intro x ab;simp only[cv,eI];rcases ab with ab | ab;·exact .inl ab
  ·exact .inr (.inr ab)
 exact {
  size:=h.size
  defers:=h.defers.mono λr af=>by
   have BH:g≠r:=af.e7 _ fM;refine { af with bF:=?_,e7:=λx ab=>?_ };·rw[setRow_other _ _ _ _ (si BH)];exact af.bF
   ·rcases mem x ab with rfl | ab
    ·exact BH
    ·exact af.e7 x (back x ab)
  holds:={
   i:=λb o iP=>by rw[setRow_other _ _ _ _ (λe=>by have:=h.holds.d _ fM;simp only at this;rw[e,this]at iP;cases iP)];exact h.holds.i b o iP
   m:=λx ab=>by
    rcases mem x ab with rfl | ab;·exact setRow_heap _ _ _ _ _ _ aw
    ·rw[setRow_other _ _ _ _ (bt x ab)];exact h.holds.m x (back x ab)
   d:=λx ab=>by
    rcases mem x ab with rfl | ab;·exact h.holds.d ⟨g,.cells cs T (0,0)⟩ fM
    ·exact h.holds.d x (back x ab)
   b3:=by simpa[cM]using bU }
  an:=h.an
  cm:=λs c av=>by
   have ag:=h.cm s c av;obtain⟨mq,GH⟩:=ag.bF;have xJ:g≠β s:=ag.e7 _ fM;refine { bF:=⟨mq,?_⟩,cX:=ag.cX,j':=ag.j',e7:=λx ab=>?_ };·rw[setRow_other _ _ _ _ (si xJ)];exact GH
   ·rcases mem x ab with rfl | ab
    ·exact xJ
    ·exact ag.e7 x (back x ab)
  inj:=h.inj
  il:=h.il
  hT:=h.hT
  own:=λx ab=>by
   rcases mem x ab with rfl | ab;·exact h.own ⟨g,.cells cs T (0,0)⟩ fM
   ·exact h.own x (back x ab)
  dO:=λb ag aB=>by
   rw[setRow_other _ _ _ _ (λe=>by
    rcases h.own _ fM with aa | aa;·simp only at aa;exact aB (e ▸ aa)
    ·simp only at aa;omega)]
   exact h.dO b ag aB
  out:=h.out.trans (VM _ _ _)
  sz:=by have:=h.sz;simpa using this
  fx:=h.fx }
def ik.heap(h:eM I M w){b:Nat}{o:Obj}(ae:ik I M b o):w.heap[b]?=some o:=by
 rcases ae with ae | ⟨x,ab,rfl,rfl⟩
 ·exact h.i b o ae
 ·exact h.m x ab
def agK{aS:List Value}{x:Value}{xs:List Value}(h:off+1+xs.length<=aS.length):cj (aS.set off x) (off+1) xs=cj aS off (x::xs):=by
 unfold cj;rw[List.take_set,List.drop_set,bT (by omega),gj (by omega:off<aS.length)];have e:(List.take off aS++[aS[off]'(by omega)]).set off x=List.take off aS++[x]:=by rw[List.set_append,bN (by simp;omega)];simp[pA (by omega:off<=aS.length)]
 rw[e];simp[te,GA 1]
def VQ(off:Nat):∀ (xs:List Value) (k:Nat) (aS:List Value),off+k+xs.length<=aS.length -> (xs.zipIdx k).foldl (λ(cs:Array Value) (p:Value×Nat)=>cs.setIfInBounds (off+p.2) p.1) aS.toArray=(cj aS (off+k) xs).toArray
 |[],k,aS,_=>by simp[cj]
 |x::xs,k,aS,ax=>by simp only[et]at ax;simp only[List.zipIdx_cons,km];rw[List.setIfInBounds_toArray,VQ off xs (k+1) _ (by simp;omega)];rw[show off+(k+1)=off+k+1 from by omega,agK (by omega)]
def fill_eq(place:Nat->Option (Nat×Nat)):∀ (vs:List (Nat×Value)) (cells r:List Value),tg place cells vs=some r->Instr.fill place cells.toArray vs=some r.toArray
 |[],cells,r,h=>by simp[tg]at h;simp[Instr.fill,h]
 |(i,v)::bl,cells,r,h=>by
  unfold tg at h;unfold Instr.fill;split at h;·cases h
  ·rename_i off size aJ;simp only[aJ];cases ao:(Nat.beq v.cells.size size&&Nat.ble (off+size) cells.length)with
   |false=>rw[ao]at h;cases h
   |true=>
    rw[ao]at h;simp only[cF]at h;rw[cB]at ao;have aa:=ed ao.1;have ad:=bK ao.2;have aI:decide (v.cells.size≠size)=false:=by simp[aa]
    have a6:decide (off+v.cells.size > cells.toArray.size)=false:=by simp;omega
    rw[aI,a6];simp only[Bool.or_false,ld,mj];have aQ:=fill_eq place bl _ r h;rw[<-aQ];congr 1;have:=VQ off v.cells.toList 0 cells (by simp;omega);simp only[oz]at this;rw[<-this,<-OJ];simp
end
def hc.le{I I':aH}{M M':List aE}(h:hc foot I M I' M')(hU:eM I M w):(∀ b o,I b=some o->I' b=some o)/\eM I' M' w /\
  (∀ b o,I' b=some o->I b=some o\/∃ x∈M,x.num=b/\x.obj=o/\b ∉ foot)/\(∀ x∈M',x∈M):=by
 induction h with
 |refl=>exact⟨λ_ _ h=>h,hU,λ_ _ h=>.inl h,λ_ h=>h⟩
 | @sub I M M1 I' M' av k aQ=>
  have aa:eM I M1 w:=⟨hU.i,λx ab=>hU.m x (av.subset ab),λx ab=>hU.d x (av.subset ab),(av.map _).nodup hU.b3⟩;obtain⟨cQ,ef,eD,hb⟩:=aQ aa;refine⟨cQ,ef,λb o ag=>?_,λx ab=>av.subset (hb x ab)⟩;rcases eD b o ag with h | ⟨x,ab,h⟩;·exact .inl h
  ·exact .inr ⟨x,av.subset ab,h⟩
 | @perm I M M1 I' M' aJ k aQ=>
  have aa:eM I M1 w:=⟨hU.i,λx ab=>hU.m x (aJ.mem_iff.2 ab),λx ab=>hU.d x (aJ.mem_iff.2 ab),(aJ.map _).nodup_iff.1 hU.b3⟩;obtain⟨cQ,ef,eD,hb⟩:=aQ aa;refine⟨cQ,ef,λb o ag=>?_,λx ab=>aJ.mem_iff.2 (hb x ab)⟩;rcases eD b o ag with h | ⟨x,ab,h⟩;·exact .inl h
  ·exact .inr ⟨x,aJ.mem_iff.2 ab,h⟩
 | @mP I M I' M' b o post ba aB k aQ=>
  subst ba;have bU:=hU.b3;simp only[b5,lf]at bU;have ag:=hU.d ⟨b,o⟩ (by simp);simp only at ag;have aa:eM (ins I b o) post w:={
   i:=λjh o' h=>by
    unfold ins at h;by_cases e:jh=b;·subst e;simp only[q6,cF,kK]at h;subst h;exact hU.m ⟨jh,o⟩ (by simp)
    ·simp only[hI e,cE]at h;exact hU.i _ _ h
   m:=λx ab=>hU.m x (by simp[ab])
   d:=λx ab=>by unfold ins;have e:x.num≠b:=λe=>bU.1 (cP.2 ⟨x,ab,e⟩);simp only[hI e,cE];exact hU.d x (by simp[ab])
   b3:=bU.2 }
  obtain⟨cQ,ef,eD,hb⟩:=aQ aa;refine⟨λjh o' h=>cQ jh o' ?_,ef,λjh o' h=>?_,λx ab=>by simp[hb x ab]⟩
  ·unfold ins;by_cases e:jh=b
   ·subst e;rw[ag]at h;cases h
   ·simp only[hI e,cE];exact h
  ·rcases eD jh o' h with h | ⟨x,ab,h⟩
   ·unfold ins at h;by_cases e:jh=b
    ·subst e;simp only[q6,cF,kK]at h;exact .inr ⟨⟨jh,o⟩,by simp,rfl,h,aB⟩
    ·simp only[hI e,cE]at h;exact .inl h
   ·exact .inr ⟨x,by simp[ab],h⟩
def cN.h7{X:c3}{β:Nat->Nat}{F:Fr}{C:dN}{I I':aH}{M M':List aE}(h:cN X β a w F C I M)(hw:hc X.foot I M I' M'):cN X β a w F C I' M':=by
 obtain⟨cQ,ef,eD,hb⟩:=hw.le h.holds;exact { h with
  holds:=ef
  defers:=h.defers.mono λr af=>by
   refine { af with j':=?_,e7:=λx ab=>af.e7 x (hb x ab) };cases bA:I' r with
   |none=>rfl
   |some o=>
    exfalso;rcases eD _ _ bA with aa | ⟨x,ab,aa,_⟩;·rw[af.j']at aa;cases aa
    ·exact af.e7 x ab aa
  cm:=λs cs av=>{ h.cm s cs av with
   j':=by
    cases bA:I' (β s)with
    |none=>rfl
    |some o=>
     exfalso;rcases eD _ _ bA with aa | ⟨x,ab,aa,_⟩;·rw[(h.cm s cs av).j']at aa;cases aa
     ·exact(h.cm s cs av).e7 x ab aa
   e7:=λx ab=>(h.cm s cs av).e7 x (hb x ab) }
  il:=λb o ag=>cQ b o (h.il b o ag)
  hT:=λb o ag=>by
   rcases eD b o ag with aa | ⟨x,ab,rfl,_,aB⟩;·exact h.hT b o aa
   ·exact .inr ((h.own x ab).resolve_left aB)
  own:=λx ab=>h.own x (hb x ab) }
section
variable{X:c3}{β:Nat->Nat}{a:Act}{w:World}{F:Fr}{C:dN}{I:aH}{M:List aE}{o:Oper}{Q:Exit->Act->World->Prop}{K:gl}
def VR(h:cN X β a w F C I M)(ah:∀ d,o.dst=some d->d<X.n)(bU:∀ c,o.op≠.defer c){x:dH}(af:(execOp a.eval o).run X.P w=.ok (.value v) w)(ab:e4 β x v)(ae:K (put o.dst x F) C I M):o.wpIn (g8 X) 0 X.P a w (Sat X K) Q:=
 iN bU af ⟨_,_,_,_,⟨β,h.put ah ab⟩,ae⟩
def v9(h:cN X β a w F C I M)(ah:∀ d,o.dst=some d->d<X.n)(bU:∀ c,o.op≠.defer c)(af:(execOp a.eval o).run X.P w=.ok (.value v) w)(ae:K (put o.dst (.val v) F) C I M):o.wpIn (g8 X) 0 X.P a w (Sat X K) Q:=
 VR (x:=.val v) h ah bU af rfl ae
def oE(k:IntKind)(n:Int)(w:World)(P:Program):(asIntOf (.int k n)).run P w=.ok (k,n) w:=rfl
def IntKind.DW{k fL:IntKind}(h:IntKind.lS k fL=true):k=fL:=by cases k<;>cases fL<;>first | rfl | cases h
def oF(op:BinOp)(t:Nat)(x y:Operand)(k fL:IntKind)(n m:Int)(P:Program)(w:World):(eqGuard op t x y (.int k n) (.int fL m)).run P w=.ok () w:=by
 unfold eqGuard;cases op<;>rfl
def OU(op:BinOp)(t:Nat)(x y:Operand)(n m:ByteArray)(P:Program)(w:World):(eqGuard op t x y (.string n) (.string m)).run P w=.ok () w:=by
 unfold eqGuard;cases op<;>rfl
def VS(op:BinOp)(t:Nat)(x y:Operand)(n m:Bool)(P:Program)(w:World):(eqGuard op t x y (.bool n) (.bool m)).run P w=.ok () w:=by
 unfold eqGuard;cases op<;>rfl
def VT(a b:ByteArray):(a.toList == b.toList)=decide (a=b):=by
 rw[tc];simp only[beq_iff_eq,h6];constructor
 ·intro h;have aa:a.data.toList=b.data.toList:=by rw[ByteArray.toList_eq,ByteArray.toList_eq]at h;exact h
  cases a;cases b;simp only[ByteArray.mk.injEq];exact gX aa
 ·intro h;rw[h]
def run_equal_bool{t:Nat}(hu:P.underlying t=some .bool)(a b:Bool)(w:World):(Op.equal t (.bool a) (.bool b)).run P w=.ok (a == b) w:=by
 have key:∀ d,(Op.equalIn (d+1) t (.bool a) (.bool b)).run P w=.ok (a == b) w:=λd=>by simp only[Op.equalIn,cp,run_underlying hu,bZ,da]
 exact key 9999
def agL(aN:cW X.P X.E)(op:BinOp)(t:Nat)(x y:Operand)(u v:dH)(mr xK:Value)(ab:u=.val mr)(aC:v=.val xK)(VU:Value->Prop)(other:Prop)
  (h:lT op (X.E t) u v VU other):other\/∃ r,(∀ w,(do eqGuard op t x y mr xK;binOp op t mr xK:Sem Value).run X.P w=.ok r w)/\VU r:=by
 subst ab;subst aC;unfold lT at h;split at h
 ·rename_i k a fL b aI a6;cases aI;cases a6
  right
  split at h;·obtain⟨j,rfl,⟨r,af,ae⟩⟩:=h;refine⟨_,λw=>?_,ae⟩;simp only[cp,oF,bZ,binOp,Op.shift];rw[bN (by omega)];simp[af]
  ·obtain⟨j,rfl,ae⟩:=h;refine⟨_,λw=>?_,ae⟩;simp only[cp,oF,bZ,binOp,Op.shift];rw[bN (by omega)];simp
  ·rename_i gg oG;cases e0:IntKind.lS k fL with
   |false=>rw[e0]at h;exact h.elim
   |true=>
    rw[e0]at h;have ji:=IntKind.DW e0;subst ji;simp only[cF]at h;cases op<;>simp only at h
    case add=>obtain⟨r,af,ae⟩:=h;exact⟨_,λw=>by simp[oF,binOp,Op.intArith,af],ae⟩
    case sub=>obtain⟨r,af,ae⟩:=h;exact⟨_,λw=>by simp[oF,binOp,Op.intArith,af],ae⟩
    case mul=>obtain⟨r,af,ae⟩:=h;exact⟨_,λw=>by simp[oF,binOp,Op.intArith,af],ae⟩
    case quo=>obtain⟨ay,r,af,ae⟩:=h;exact⟨_,λw=>by simp[oF,binOp,Op.intDiv,ay,af],ae⟩
    case rem=>obtain⟨ay,ae⟩:=h;exact⟨_,λw=>by simp[oF,binOp,Op.intDiv,ay],ae⟩
    case and=>exact⟨_,λw=>by simp[oF,binOp,Op.intBits,uC],h⟩
    case or=>exact⟨_,λw=>by simp[oF,binOp,Op.intBits,uC],h⟩
    case xor=>exact⟨_,λw=>by simp[oF,binOp,Op.intBits,uC],h⟩
    case andNot=>exact⟨_,λw=>by simp[oF,binOp,Op.intBits,uC],h⟩
    case shl=>exact(gg rfl).elim
    case shr=>exact(oG rfl).elim
    case eql=>exact⟨_,λw=>by simp only[cp,oF,bZ,binOp,Op.intCmp,xC];simp;rfl,h⟩
    case neq=>exact⟨_,λw=>by simp only[cp,oF,bZ,binOp,Op.intCmp,xC];simp;rfl,h⟩
    case lss=>exact⟨_,λw=>by simp[oF,binOp,Op.intCmp,xC],h⟩
    case leq=>exact⟨_,λw=>by simp[oF,binOp,Op.intCmp,xC],h⟩
    case gtr=>exact⟨_,λw=>by simp[oF,binOp,Op.intCmp,xC],h⟩
    case geq=>exact⟨_,λw=>by simp[oF,binOp,Op.intCmp,xC],h⟩
 ·rename_i a b aI a6;cases aI;cases a6;split at h
  ·exact .inr ⟨_,λw=>by simp only[cp,OU,bZ,binOp,Op.stringOp,da,VT],h⟩
  ·exact .inr ⟨_,λw=>by simp only[cp,OU,bZ,binOp,Op.stringOp,da,VT],h⟩
  ·exact .inl h
 ·rename_i a b aI a6;cases aI;cases a6;split at h
  ·rename_i db sz hS z aq;obtain⟨d,hu,ah⟩:=(aN _ _ aq).fs;have fE:d=.bool:=by cases d<;>simp_all[fr]
   subst fE;split at h;·exact .inr ⟨_,λw=>by simp only[cp,VS,bZ,binOp,run_equal_bool hu,da],h⟩
   ·exact .inr ⟨_,λw=>by simp only[cp,VS,bZ,binOp,run_equal_bool hu,da],h⟩
   ·exact .inl h
  ·exact .inl h
 ·exact .inl h
def OV{args:Array Value}(h:Calls P f args w R)(n:Nat):CallsIn (g8 X) n P f args w R:=by have aa:=(callsIn_wide (n:=n)).2 h;exact⟨trivial,λcs af=>aa.2 cs (room_wide _)⟩
def eM.part(h:eM I M w){eE Mr:List aE}(ba:M.Perm (eE++Mr)):eM I eE w:=by
 have gh:∀ x,x∈M ↔ x∈eE\/x∈Mr:=λx=>by rw[ba.mem_iff,cv]
 have bU:((eE++Mr).map (·.num)).Nodup:=(ba.map (·.num)).nodup_iff.1 h.b3;rw[cM,sh]at bU;exact⟨h.i,λx ab=>h.m x ((gh x).2 (.inl ab)),λx ab=>h.d x ((gh x).2 (.inl ab)),bU.1⟩
def cN.after(h:cN X β a w F C I M){eE Mr M':List aE}{I':aH}(ba:M.Perm (eE++Mr))(q8:eM I' M' w')(ek:Kept I eE w I' M' w'):cN X β a w' F C I' (M'++Mr):=by
 have gh:∀ x,x∈M ↔ x∈eE\/x∈Mr:=λx=>by rw[ba.mem_iff,cv]
 have bU:((eE++Mr).map (·.num)).Nodup:=(ba.map (·.num)).nodup_iff.1 h.holds.b3;rw[cM,sh]at bU;have BI:∀ x∈Mr,∀ y∈eE,y.num≠x.num:=λx ab y aC=>bU.2.2 y.num (cP.2 ⟨y,aC,rfl⟩) x.num (cP.2 ⟨x,ab,rfl⟩);have agM:∀ x∈Mr,w'.heap[x.num]?=w.heap[x.num]?:=λx ab=>
  ek.dO x.num (h.holds.lt ((gh x).2 (.inr ab))) (BI x ab)
 exact {
  size:=h.size
  defers:=h.defers.mono λr af=>by
   have aZ:=(lR.1 af.bF).1;refine { bF:=?_,cX:=af.cX,j':=?_,e7:=λx ab=>?_ };·rw[ek.dO _ aZ (λy aC=>af.e7 y ((gh y).2 (.inl aC)))];exact af.bF
   ·cases bA:I' r with
    |none=>rfl
    |some o=>
     exfalso;rcases ek.uE _ _ bA with aa | aa;·rw[af.j']at aa;cases aa
     ·omega
   ·rcases cv.1 ab with ab | ab
    ·rcases ek.v5 x ab with⟨z,bb,BJ⟩ | aa
     ·rw[<-BJ];exact af.e7 z ((gh z).2 (.inl bb))
     ·omega
    ·exact af.e7 x ((gh x).2 (.inr ab))
  holds:={
   i:=q8.i
   m:=λx ab=>by
    rcases cv.1 ab with ab | ab;·exact q8.m x ab
    ·rw[agM x ab];exact h.holds.m x ((gh x).2 (.inr ab))
   d:=λx ab=>by
    rcases cv.1 ab with ab | ab;·exact q8.d x ab
    ·cases bA:I' x.num with
     |none=>rfl
     |some o=>
      exfalso;rcases ek.uE _ _ bA with aa | aa;·have:=h.holds.d x ((gh x).2 (.inr ab));rw[this]at aa;cases aa
      ·have:=h.holds.lt ((gh x).2 (.inr ab));omega
   b3:=by
    rw[cM,sh];refine⟨q8.b3,bU.2.1,λp aJ q aL e=>?_⟩;obtain⟨x,ab,rfl⟩:=cP.1 aJ;obtain⟨y,aC,rfl⟩:=cP.1 aL;rcases ek.v5 x ab with⟨z,bb,BJ⟩ | aa;·exact BI y aC z bb (BJ.trans e)
    ·have:=h.holds.lt ((gh y).2 (.inr aC));omega }
  an:=h.an
  cm:=λs cs av=>by
   have ag:=h.cm s cs av;obtain⟨T,be⟩:=ag.bF;refine { bF:=⟨T,?_⟩,cX:=ag.cX,j':=?_,e7:=λx ab=>?_ };·rw[ek.dO _ ag.lt (λy aC=>ag.e7 y ((gh y).2 (.inl aC)))];exact be
   ·cases bA:I' (β s)with
    |none=>rfl
    |some o=>
     exfalso;rcases ek.uE _ _ bA with aa | aa;·rw[ag.j']at aa;cases aa
     ·have:=ag.lt;omega
   ·rcases cv.1 ab with ab | ab
    ·rcases ek.v5 x ab with⟨z,bb,BJ⟩ | aa
     ·rw[<-BJ];exact ag.e7 z ((gh z).2 (.inl bb))
     ·have:=ag.lt;omega
    ·exact ag.e7 x ((gh x).2 (.inr ab))
  inj:=h.inj
  il:=λb o ag=>ek.le b o (h.il b o ag)
  hT:=λb o ag=>by
   rcases ek.uE b o ag with aa | aa;·exact h.hT b o aa
   ·exact .inr (jg h.sz aa)
  own:=λx ab=>by
   rcases cv.1 ab with ab | ab
   ·rcases ek.v5 x ab with⟨z,bb,BJ⟩ | aa
    ·rw[<-BJ];exact h.own z ((gh z).2 (.inl bb))
    ·exact .inr (jg h.sz aa)
   ·exact h.own x ((gh x).2 (.inr ab))
  dO:=λb ag aB=>by
   rw[ek.dO b (Kw ag h.sz) (λy aC e=>by
    rcases h.own y ((gh y).2 (.inl aC))with aa | aa;·exact aB (e ▸ aa)
    ·omega)]
   exact h.dO b ag aB
  out:=h.out.trans ek.out
  sz:=jg h.sz ek.sz
  fx:=h.fx }
def cN.call(h:cN X β a w F C I M){KC:Value->aH->List aE->Prop}(ao:a8 X.foot P f args I M KC) :
  (ON P f/\Calls P f args.toArray w λe w'=>∃ v I' M',e=.returned v/\KC v I' M'/\cN X β a w' F C I' M')\/(∃ v w' I' M',(callFunc f args.toArray).run P w=.ok (.value v) w'/\KC v I' M'/\cN X β a w' F C I' M'):=by
 obtain⟨I1,eE,Mr,post,iD,⟨qj,av⟩ | av,ae⟩:=ao.elim ⟨h.holds.d,h.holds.b3⟩<;>have h:=h.h7 iD<;>have ba:=List.Perm.refl (eE++Mr)
 ·refine .inl ⟨qj,?_⟩;refine(av w (h.holds.part ba)).mono ?_;rintro e w'⟨v,I',M',rfl,aJ,q8,ek⟩;have a7:=h.after ba q8 ek;exact⟨v,I',M'++Mr,rfl,ae v I' M' ek.le a7.holds.d aJ,a7⟩
 ·obtain⟨v,w',I',M',af,aJ,q8,ek⟩:=av w (h.holds.part ba);have a7:=h.after ba q8 ek;exact .inr ⟨v,w',I',M'++Mr,af,ae v I' M' ek.le a7.holds.d aJ,a7⟩
def VV{args:Array Value}(bU:∀ c,o.op≠.defer c)(af:(execOp a.eval o).run X.P w=.ok (.enter f args) w)
  (ao:Calls X.P f args w λe w'=>∃ v,e=.returned v/\next (a.put o.dst v) w'):o.wpIn (g8 X) 0 X.P a w next Q:=by
 refine⟨λ_ _=>trivial,?_⟩;rw[Kx _ _ _ bU,af];refine⟨(λh=>by cases h),?_⟩;refine(OV ao _).mono ?_;rintro e w'⟨v,rfl,h⟩;exact h
def VW(z:Value)(fi:List Value)(h:z.cells.toList=fi)(n:Nat):(Array.range n).map (z.cells[· % z.cells.size]!)=(rowOf fi n).toArray:=by subst h;apply gX;simp[ti,madeCells]
def kn.struct{t:Nat}{cV:List (Nat×Nat)}(h:kn P t ⟨sz,hS,z,.struct cV⟩):∃ fields,P.underlying t=some (.struct fields)/\cV=fields.toList.map λf=>(f.type,f.offset):=by
 obtain⟨d,aa,ad⟩:=h.fs;cases d<;>simp[fr]at ad
 exact⟨_,aa,ad.symm⟩
def kn.slice{t:Nat}(h:kn P t ⟨sz,hS,z,.slice e⟩):P.underlying t=some (.slice e):=by
 obtain⟨d,aa,ad⟩:=h.fs;cases d<;>simp[fr]at ad
 rw[aa,ad]
def kn.array{t:Nat}(h:kn P t ⟨sz,hS,z,.array n e⟩):P.underlying t=some (.array n e):=by
 obtain⟨d,aa,ad⟩:=h.fs;cases d<;>simp[fr]at ad
 rw[aa,ad.1,ad.2]
def kn.string{t:Nat}(h:kn P t ⟨sz,hS,z,.string⟩):P.underlying t=some .string:=by
 obtain⟨d,aa,ad⟩:=h.fs;cases d<;>simp[fr]at ad
 exact aa
def kn.int{P:Program}{t sz hS:Nat}{z:List Value}{k:IntKind}(h:kn P t ⟨sz,hS,z,.int k⟩):P.underlying t=some (.int k):=by
 obtain⟨d,aa,ad⟩:=h.fs;cases d<;>simp[fr]at ad
 rw[aa,ad]
def VX{fields:Array Field}{i fx:Nat}(h:(fields.toList.map λf=>(f.type,f.offset))[i]?=some (fx,off)):∃ f,fields[i]?=some f/\f.type=fx/\f.offset=off:=by
 simp only[iB,Array.getElem?_toList]at h;cases aB:fields[i]? with
 |none=>simp[aB]at h| some f=>simp[aB]at h;exact⟨f,rfl,h.1,h.2⟩
def OW{t:Nat}{i:ea}(h:kn P t i)(bf:off+i.size<=cs.size)(w:World):(part t cs off).run P w=.ok (pack i.bP.agg ((cs.toList.drop off).take i.size)) w:=by
 unfold part;simp only[cp,h.VO,bZ];cases GG:i.bP.agg with
 |true=>simp only[sj,cp,h.run_sizeOf,bZ,da,pack,cF];congr 2;apply gX;simp[List.take_drop]
 |false=>
  have aa:=h.Kz GG;rw[aa]at bf |-;have aZ:off<cs.size:=by omega
  simp only[ld,mj,OH aZ,da,pack,cE];congr 1;rw[fg (by simpa using aZ)];simp
def agN{t:Nat}{aF:ea}(aq:P.underlying t=some (.slice e))(he:kn P e aF){c:Nat}{j:Nat}(ai:j<n)(w:World) :
  (Instr.indexAt t (.slice (some aM) n c) (.int gk j)).run P w=.ok (.pointer (some (aM.add (j*aF.size)))) w:=by
 unfold Instr.indexAt;simp only[cp,oE,bZ,run_underlying aq,da];rw[bT ⟨by omega,by omega⟩];simp[he.run_sizeOf]
def VY{t:Nat}{aF:ea}(aq:P.underlying t=some (.array m e))(he:kn P e aF){j:Nat}(ai:j<m)(w:World) :
  (Instr.indexAt t (.pointer (some aM)) (.int gk j)).run P w=.ok (.pointer (some (aM.add (j*aF.size)))) w:=by
 unfold Instr.indexAt;simp only[cp,oE,bZ,run_underlying aq,da,Instr.sureAddr];rw[bT ⟨by omega,by omega⟩];simp[he.run_sizeOf]
def VZ{P:Program}{E:Env}(aN:cW P E)(w:World):∀ (fields:List Field),DT E (fields.map λf=>(f.type,f.offset))=true -> ∃ l:List (Nat×Nat),(fields.mapM λf=>(do pure (f.offset,<-sizeOf f.type):Sem (Nat×Nat))).run P w=.ok l w/\∀ i,l[i]?=places E (fields.map λf=>(f.type,f.offset)) i
 |[],_=>⟨[],rfl,λi=>by simp[places]⟩
 |f::cV,h=>by
  simp only[DT,b5,xA,cB]at h;obtain⟨hv,pD⟩:=Option.isSome_iff_exists.1 h.1;obtain⟨l,aa,ad⟩:=VZ aN w cV h.2;refine⟨(f.offset,hv.size)::l,?_,λi=>?_⟩;·simp only[Gz,cp,(aN _ _ pD).run_sizeOf,bZ,da];rw[aa];rfl
  ·cases i with
   |zero=>simp[places,pD]| succ i=>simp only[Gy,ad];simp[places]
def V0(aN:cW X.P X.E)(h:cN X β a w F C I M){zr:dH->Prop}{other:Prop}(op:Op)(ty:TypeId)(dst:Option Tmp)(pos:String)(after:Array Edge)(guard:Option (Nat×Bool))(aj:cK X op (dq F) C I M zr other) :
  other\/∃ v x,(execOp a.eval ⟨dst,op,ty,pos,after,guard⟩).run X.P w=.ok (.value v) w/\e4 β x v/\zr x:=by
 have done:∀ {v x},(execOp a.eval ⟨dst,op,ty,pos,after,guard⟩).run X.P w=.ok (.value v) w->e4 β x v->zr x->other\/∃ v x,(execOp a.eval ⟨dst,op,ty,pos,after,guard⟩).run X.P w=.ok (.value v) w/\e4 β x v/\zr x:=
  λaa ad ak=>.inr ⟨_,_,aa,ad,ak⟩
 have hV:∀ {v},(execOp a.eval ⟨dst,op,ty,pos,after,guard⟩).run X.P w=.ok (.value v) w->zr (.val v)->other\/∃ v x,(execOp a.eval ⟨dst,op,ty,pos,after,guard⟩).run X.P w=.ok (.value v) w/\e4 β x v/\zr x:=
  fun {v} aa ak=>.inr ⟨v,.val v,aa,rfl,ak⟩
 have aB:=h.an;cases op
 case move x=>exact done (by simp[execOp]) (xG aB x) aj
 case assign x=>exact done (by simp[execOp]) (xG aB x) aj
 case pick c p q=>
  simp only[cK]at aj;split at aj
  ·rename_i b ag;have ao:=OP aB ag;cases b
   ·exact done (by simp[execOp,ao,asBool]) (xG aB q) aj
   ·exact done (by simp[execOp,ao,asBool]) (xG aB p) aj
  ·rename_i b ag;have ao:=uH aB ag;refine done (v:=if b then a.eval p else a.eval q) (x:=KA b (bH F p) (bH F q)) (by simp[execOp,ao,asBool]) ?_ aj;have aa:=VK aB p;have ad:=VK aB q;unfold KA;split
   ·rename_i x y aI a6;rw[aI]at aa;rw[a6]at ad;simp only[e4]at aa ad |-;cases b<;>simp[aa,ad]
   ·rename_i x y _ aI a6;rw[aI]at aa;rw[a6]at ad;simp only[e4]at aa ad |-;cases b<;>simp[aa,ad]
   ·trivial
  ·exact aj.elim
 case unOp op t x=>
  simp only[cK]at aj;split at aj;·rename_i b ag;exact done (v:=.bool (!b)) (x:=.lit (!b)) (by simp[execOp,OP aB ag,Op.unary]) rfl aj
  ·rename_i b ag;exact hV (v:=.bool (!b)) (by simp[execOp,uH aB ag,Op.unary]) aj
  ·rename_i k n ag;obtain⟨r,af,ae⟩:=aj;exact hV (v:=.int k r) (by simp only[execOp,uH aB ag,Op.unary,Op.intArith,af];simp) ae
  ·exact Or.inl aj
 case binOp op t x y ty'=>
  simp only[cK]at aj;by_cases ab:∃ mr xK,bH F x=.val mr/\bH F y=.val xK
  ·obtain⟨mr,xK,ab,aC⟩:=ab;have fin:∀ r,(∀ w,(do eqGuard op t x y mr xK;binOp op t mr xK:Sem Value).run X.P w=.ok r w)->zr (.val r)->(other\/∃ v lj,(execOp a.eval ⟨dst,.binOp op t x y ty',ty,pos,after,guard⟩).run X.P w=.ok (.value v) w/\e4 β lj v/\zr lj):=λr af ae=>by refine hV (v:=r) ?_ ae;have:=af w;rw[<-dj aB ab,<-dj aB aC]at this;simp only[execOp];simp only[cp]at this |-;rw[this];rfl
   rcases agL aN op t x y _ _ mr xK ab aC _ _ aj with(⟨mo,gb,r,aJ,aL,af,ae⟩ | aa) | ⟨r,af,ae⟩;·rw[show dE (dq F) x=bH F x from rfl,ab]at aJ;rw[show dE (dq F) y=bH F y from rfl,aC]at aL;cases aJ;cases aL;exact fin r af ae
   ·exact Or.inl aa
   ·exact fin r af ae
  ·unfold lT at aj;split at aj
   ·rename_i aI a6;exact(ab ⟨_,_,aI,a6⟩).elim
   ·rename_i aI a6;exact(ab ⟨_,_,aI,a6⟩).elim
   ·rename_i aI a6;exact(ab ⟨_,_,aI,a6⟩).elim
   ·rcases aj with⟨mo,gb,r,aJ,aL,af,ae⟩ | aa
    ·exact(ab ⟨_,_,aJ,aL⟩).elim
    ·exact Or.inl aa
 case load t x=>
  simp only[cK]at aj;split at aj
  ·rename_i i hi;split at aj
   ·rename_i s off ab;have ko:=BG aB ab;split at aj
    ·rename_i cs av;cases bf:Nat.ble (off+i.size) cs.length with
     |false=>rw[bf]at aj;exact aj.elim| true=>rw[bf]at aj;have g0:=bK bf;obtain⟨T,be⟩:=(h.cm s cs av).bF;refine hV (v:=pack i.bP.agg ((cs.drop off).take i.size)) ?_ aj;have:=KF (aN _ _ hi) (a:=⟨β s,off,none⟩) rfl be (vs:=(cs.drop off).take i.size) (by simp) (by simp;omega);simp[execOp,Instr.loadAt,Instr.sureAddr,ko,this]
    ·exact aj.elim
   ·rename_i aM ab;have ko:=uH aB ab;obtain⟨vs,⟨c9,cs,T,an,fj,iO,ax⟩,ae⟩:=aj;refine hV (v:=pack i.bP.agg vs) ?_ ae;have:=KF (aN _ _ hi) c9 (fj.heap h.holds) iO ax;simp[execOp,Instr.loadAt,Instr.sureAddr,ko,this]
   ·exact aj.elim
  ·exact aj.elim
 case nilCheck x=>
  simp only[cK]at aj;split at aj;·rename_i s off ab;exact done (v:=.pointer (some ⟨β s,off,none⟩)) (x:=.ref s off) (by simp[execOp,BG aB ab]) rfl aj
  ·rename_i aM ab;exact hV (v:=.pointer (some aM)) (by simp[execOp,uH aB ab]) aj
  ·exact Or.inl aj
 case fieldAddr t x i=>
  simp only[cK]at aj;split at aj
  ·rename_i sz hS z cV aq;obtain⟨fields,hu,rfl⟩:=(aN _ _ aq).struct;split at aj
   ·rename_i fx off q9;obtain⟨f,v',rfl,rfl⟩:=VX q9;split at aj
    ·rename_i hv s o' pD ab;cases bb:Nat.beq hv.size 0 with
     |true=>rw[bb]at aj;exact aj.elim
     |false=>
      rw[bb]at aj;have gK:hv.size≠0:=λe=>by rw[e]at bb;cases bb
      refine done (v:=.pointer (some ⟨β s,o'+f.offset,none⟩)) (x:=.ref s (o'+f.offset)) ?_ rfl aj;simp[execOp,Instr.fieldAt,run_underlying hu,v',BG aB ab,Instr.sureAddr,fieldPlace,(aN _ _ pD).run_sizeOf,gK,eS]
    ·rename_i hv aM pD ab;cases bb:Nat.beq hv.size 0 with
     |true=>rw[bb]at aj;exact aj.elim
     |false=>
      rw[bb]at aj;have gK:hv.size≠0:=λe=>by rw[e]at bb;cases bb
      refine hV (v:=.pointer (some (aM.add f.offset))) ?_ aj;simp[execOp,Instr.fieldAt,run_underlying hu,v',uH aB ab,Instr.sureAddr,fieldPlace,(aN _ _ pD).run_sizeOf,gK]
    ·exact aj.elim
   ·exact aj.elim
  ·exact aj.elim
 case field t x i=>
  simp only[cK]at aj;split at aj
  ·rename_i sz hS z cV cs aq ab;obtain⟨fields,hu,rfl⟩:=(aN _ _ aq).struct;split at aj
   ·rename_i fx off q9;obtain⟨f,v',rfl,rfl⟩:=VX q9;split at aj
    ·rename_i hv pD;cases bb:Nat.ble (f.offset+hv.size) cs.size with
     |false=>rw[bb]at aj;exact aj.elim| true=>rw[bb]at aj;refine hV ?_ aj;simp[execOp,Instr.field,run_underlying hu,v',dj aB ab,asAgg,OW (aN _ _ pD) (bK bb)]
    ·exact aj.elim
   ·exact aj.elim
  ·exact aj.elim
 case indexAddr t x i=>
  simp only[cK]at aj;split at aj
  ·rename_i sz hS z e gk k aq hi;have hu:=(aN _ _ aq).slice;split at aj
   ·rename_i aF bL n c hJ ab;obtain⟨aM,j,rfl,rfl,ai,ae⟩:=aj;refine hV ?_ ae;simp[execOp,dj aB ab,dj aB hi,agN hu (aN _ _ hJ) ai]
   ·exact aj.elim
  ·rename_i sz hS z n e gk k aq hi;have hu:=(aN _ _ aq).array;split at aj
   ·rename_i aF s o' hJ ab;obtain⟨j,rfl,ai,ae⟩:=aj;refine done (v:=.pointer (some ⟨β s,o'+j*aF.size,none⟩)) (x:=.ref s (o'+j*aF.size)) ?_ rfl ae;simp[execOp,BG aB ab,dj aB hi,VY hu (aN _ _ hJ) ai,eS]
   ·rename_i aF aM hJ ab;obtain⟨j,rfl,ai,ae⟩:=aj;refine hV ?_ ae;simp[execOp,uH aB ab,dj aB hi,VY hu (aN _ _ hJ) ai]
   ·exact aj.elim
  ·exact aj.elim
 case index t x i=>
  simp only[cK]at aj;split at aj;·rename_i sz hS z s gk k aq ab hi;have hu:=(aN _ _ aq).string;obtain⟨j,rfl,ai,ae⟩:=aj;refine hV ?_ ae;simp only[execOp,dj aB ab,dj aB hi,Instr.index,cp,oE,bZ,run_underlying hu];rw[bT (by omega:(0:Int)<=j)];simp[ai]
  ·rename_i sz hS z n e cs gk k aq ab hi;have hu:=(aN _ _ aq).array;split at aj
   ·rename_i aF hJ;cases bb:Nat.beq (n*aF.size) cs.size with
    |false=>rw[bb]at aj;exact aj.elim
    |true=>
     rw[bb]at aj;obtain⟨j,rfl,ai,ae⟩:=aj;have gK:=ed bb;refine hV ?_ ae;have bf:j*aF.size+aF.size<=cs.size:=by rw[<-gK,<-Ky];exact qg _ ai
     simp only[execOp,dj aB ab,dj aB hi,Instr.index,cp,oE,bZ,run_underlying hu];rw[bT ⟨by omega,by omega⟩];simp[(aN _ _ hJ).run_sizeOf,OW (aN _ _ hJ) bf]
   ·exact aj.elim
  ·exact aj.elim
 case build t parts=>
  simp only[cK]at aj;split at aj
  ·rename_i i vs hi iO;have aJ:=KB aB iO;have q':(parts.map λ(i,x)=>(i,a.eval x)).toList=vs:=by simpa using aJ
   obtain⟨z,bb,xL⟩:=(aN _ _ hi).GF w;have DX:z.cells=i.zero.toArray:=by rw[<-xL]
   split at aj
   ·rename_i cV n3;cases bg:DT X.E cV with
    |false=>rw[bg]at aj;exact aj.elim
    |true=>
     rw[bg]at aj;simp only[cF]at aj;split at aj
     ·rename_i cells BK;obtain⟨sz,hS,agO,bP⟩:=i;simp only at n3;subst n3;obtain⟨fields,hu,rfl⟩:=(aN _ _ hi).struct;obtain⟨l,ax,nD⟩:=VZ aN w fields.toList bg;refine hV ?_ aj;have hm:(fields.mapM λf=>(do pure (f.offset,<-sizeOf f.type):Sem (Nat×Nat))).run X.P w=.ok l.toArray w:=by rw[VJ,Sem.run_map,ax];rfl
      have wa:=fill_eq _ _ _ _ BK;have agP:(λj=>l.toArray[j]?)=places X.E (fields.toList.map λf=>(f.type,f.offset)):=by funext j;rw[<-nD j];simp
      simp only[execOp,Instr.build,cp,bb,bZ,run_underlying hu,DX,q'];rw[hm];simp only[bZ,agP,wa,da]
     ·exact aj.elim
   ·rename_i n e n3;split at aj
    ·rename_i aF hJ;split at aj
     ·rename_i cells BK;obtain⟨sz,hS,agO,bP⟩:=i;simp only at n3;subst n3;have hu:=(aN _ _ hi).array;refine hV ?_ aj;have wa:=fill_eq _ _ _ _ BK;simp only[execOp,Instr.build,cp,bb,bZ,run_underlying hu,DX,q',(aN _ _ hJ).run_sizeOf,wa,da]
     ·exact aj.elim
    ·exact aj.elim
   ·exact aj.elim
  ·exact aj.elim
 case makeFunc fn first captured=>
  simp only[cK]at aj;split at aj
  ·rename_i cV cs aa ad;have aI:=tj aB aa;have a6:=tj aB ad;refine hV ?_ aj;have ez:first.map a.eval=cV.toArray:=by apply gX;simpa using aI
   have ra:captured.map a.eval=cs.toArray:=by apply gX;simpa using a6
   simp[execOp,Instr.makeFunc,ez,ra]
  ·exact aj.elim
 case slice t x lo hi mx=>
  simp only[cK]at aj;split at aj
  ·rename_i sz hS z e bL n c aq ab iC;have OX:mx=none:=by simpa using iC
   subst OX;have hu:=(aN _ _ aq).slice;have ko:=dj aB ab;split at aj
   ·rename_i aF hJ e6 gB;have uI:lo=none:=by simpa using e6
    have BL:hi=none:=by simpa using gB
    subst uI;subst BL;refine hV ?_ aj;have aI:(if c=0 then bL else bL.map (·.add (0*aF.size)))=bL:=by split<;>cases bL<;>simp[Addr.add]
    simp[execOp,Instr.sliceAt,Instr.slice,Instr.sliceBounds,ko,run_underlying hu,(aN _ _ hJ).run_sizeOf,Addr.add]
   ·rename_i aF gk lk hJ e6 gB;have uI:lo=none:=by simpa using e6
    subst uI;obtain⟨KH,rfl,cG⟩:=tb.1 gB;obtain⟨l,ad,BM,rfl,bf,DY,ae⟩:=aj;refine hV ?_ ae;simp only[execOp,Instr.sliceAt,Instr.slice,Instr.sliceBounds,Instr.sliceBound,ko,cp,run_underlying hu,bZ,(aN _ _ hJ).run_sizeOf,da,lg,uA,dj aB cG,oE];rw[bT ⟨by omega,by omega⟩];simp[Addr.add]
   ·rename_i aF gk hf hJ e6 gB;have BL:hi=none:=by simpa using gB
    subst BL;obtain⟨OY,rfl,cG⟩:=tb.1 e6;obtain⟨l,ad,rfl,BN,bf,DY,ae⟩:=aj;simp only[uz,kL]at *;refine hV ?_ ae;simp only[execOp,Instr.sliceAt,Instr.slice,Instr.sliceBounds,Instr.sliceBound,ko,cp,run_underlying hu,bZ,(aN _ _ hJ).run_sizeOf,da,lg,uA,dj aB cG,oE];rw[bT ⟨by omega,by omega⟩];simp
   ·rename_i aF gk hf agQ lk hJ e6 gB;obtain⟨OY,rfl,cG⟩:=tb.1 e6;obtain⟨KH,rfl,BO⟩:=tb.1 gB;obtain⟨l,ad,rfl,rfl,bf,DY,ae⟩:=aj;refine hV ?_ ae;simp only[execOp,Instr.sliceAt,Instr.slice,Instr.sliceBounds,Instr.sliceBound,ko,cp,run_underlying hu,bZ,(aN _ _ hJ).run_sizeOf,da,lg,uA,dj aB cG,dj aB BO,oE];rw[bT ⟨by omega,by omega⟩];simp only[da,bZ,hH];rw[bT ⟨by omega,by omega⟩];simp
   ·exact aj.elim
  ·rename_i sz hS z s aq ab iC;have OX:mx=none:=by simpa using iC
   subst OX;have hu:=(aN _ _ aq).string;have ko:=dj aB ab;split at aj
   ·rename_i e6 gB;have uI:lo=none:=by simpa using e6
    have BL:hi=none:=by simpa using gB
    subst uI;subst BL;refine hV ?_ aj;have aI:s.extract 0 s.size=s:=by apply v3;simp[Kv]
    simp[execOp,Instr.sliceAt,Instr.slice,Instr.sliceBounds,ko,run_underlying hu,aI]
   ·rename_i gk lk e6 gB;have uI:lo=none:=by simpa using e6
    subst uI;obtain⟨KH,rfl,cG⟩:=tb.1 gB;obtain⟨l,ad,BM,rfl,bf,DY,ae⟩:=aj;refine hV ?_ ae;simp only[execOp,Instr.sliceAt,Instr.slice,Instr.sliceBounds,Instr.sliceBound,ko,cp,run_underlying hu,bZ,da,lg,uA,dj aB cG,oE];simp only[OK,ld,mj,cp,da,bZ,oE];rw[bT ⟨by omega,by omega⟩];simp
   ·rename_i gk hf e6 gB;have BL:hi=none:=by simpa using gB
    subst BL;obtain⟨OY,rfl,cG⟩:=tb.1 e6;obtain⟨l,ad,rfl,BN,bf,DY,ae⟩:=aj;simp only[uz,kL]at *;refine hV ?_ ae;simp only[execOp,Instr.sliceAt,Instr.slice,Instr.sliceBounds,Instr.sliceBound,ko,cp,run_underlying hu,bZ,da,lg,uA,dj aB cG,oE];simp only[OK,ld,mj,cp,da,bZ,oE];rw[bT ⟨by omega,by omega⟩];simp
   ·rename_i gk hf agQ lk e6 gB;obtain⟨OY,rfl,cG⟩:=tb.1 e6;obtain⟨KH,rfl,BO⟩:=tb.1 gB;obtain⟨l,ad,rfl,rfl,bf,DY,ae⟩:=aj;refine hV ?_ ae;simp only[execOp,Instr.sliceAt,Instr.slice,Instr.sliceBounds,Instr.sliceBound,ko,cp,run_underlying hu,bZ,da,lg,uA,dj aB cG,dj aB BO,oE];simp only[OK,ld,mj,cp,da,bZ,oE];rw[bT ⟨by omega,by omega⟩];simp only[da,bZ,hH];rw[bT ⟨by omega,by omega⟩];simp
   ·exact aj.elim
  ·rename_i sz hS z e bL n c avd BP aq ab iC;obtain⟨ave,rfl,agR⟩:=tb.1 iC;have hu:=(aN _ _ aq).slice;have ko:=dj aB ab;split at aj
   ·rename_i aF gk lk hJ e6 gB;have uI:lo=none:=by simpa using e6
    subst uI;obtain⟨KH,rfl,cG⟩:=tb.1 gB;obtain⟨l,m,rfl,rfl,bf,DY,ae⟩:=aj;refine hV ?_ ae;simp only[execOp,Instr.sliceAt,Instr.slice,Instr.sliceBounds,Instr.sliceBound,ko,cp,run_underlying hu,bZ,(aN _ _ hJ).run_sizeOf,da,lg,uA,dj aB cG,dj aB agR,oE];rw[bT ⟨by omega,by omega⟩];simp only[da,bZ,hH];rw[bT ⟨by omega,by omega⟩];simp only[da,bZ,hH]
   ·exact Or.inl aj
  ·exact Or.inl aj
 case extract x i=>
  simp only[cK]at aj;split at aj
  ·rename_i vs ab;split at aj
   ·rename_i v hi;refine hV ?_ aj;have cC:vs[i]?=some v:=by simpa using hi
    simp[execOp,Instr.extract,dj aB ab,cC]
   ·exact aj.elim
  ·exact aj.elim
 case convert s d x=>
  simp only[cK]at aj;split at aj;·rename_i avf sz hS z k fL n av aq ab;have hu:=(aN _ _ aq).int;obtain⟨ds,fN,_⟩:=(aN _ _ av).fs;obtain⟨r,af,ae⟩:=aj;refine hV ?_ ae;simp only[execOp,convert,dj aB ab,cp,run_underlying fN,run_underlying hu,bZ];simp only[Conv.intToInt,af,da,bZ]
  ·exact Or.inl aj
 case call c=>
  obtain⟨callee,args,argTypes⟩:=c;cases callee with
  |value f=>exact .inl aj| invoke r m=>exact .inl aj
  |builtin b=>
   cases b
   case len=>
    simp only[cK]at aj;split at aj
    ·rename_i t v aa ad;have aI:=tj aB ad;have ez:args.map a.eval=#[v]:=by apply gX;simpa using aI
     have aq:argTypes=#[t]:=by apply gX;simpa using aa
     subst aq;split at aj;·rename_i sz hS z e aM n c be;have hu:=(aN _ _ be).slice;refine hV ?_ aj;simp[execOp,resolve,invoke,builtin,Builtin.len_,ez,run_underlying hu,goInt]
     ·rename_i sz hS z s be;have hu:=(aN _ _ be).string;refine hV ?_ aj;simp[execOp,resolve,invoke,builtin,Builtin.len_,ez,run_underlying hu,goInt]
     ·rename_i sz hS z n e be;have hu:=(aN _ _ be).array;refine hV ?_ aj;simp[execOp,resolve,invoke,builtin,Builtin.len_,ez,run_underlying hu,goInt]
     ·exact Or.inl aj
    ·exact Or.inl aj
   case cap=>
    simp only[cK]at aj;split at aj
    ·rename_i t v aa ad;have aI:=tj aB ad;have ez:args.map a.eval=#[v]:=by apply gX;simpa using aI
     have aq:argTypes=#[t]:=by apply gX;simpa using aa
     subst aq;split at aj;·rename_i sz hS z e aM n c be;have hu:=(aN _ _ be).slice;refine hV ?_ aj;simp[execOp,resolve,invoke,builtin,Builtin.cap_,ez,run_underlying hu,goInt]
     ·exact Or.inl aj
    ·exact Or.inl aj
   case max=>
    simp only[cK]at aj;split at aj
    ·rename_i k p fL q ad;have aI:=tj aB ad;have ez:args.map a.eval=#[.int k p,.int fL q]:=by apply gX;simpa using aI
     refine hV ?_ aj;have hm:(if q > p then q else p)=max p q:=by split<;>omega
     simp only[execOp,resolve,invoke,builtin,Builtin.max_,Builtin.max2,ez,cp,da,bZ,List.foldlM_cons,List.foldlM_nil,hm]
    ·exact Or.inl aj
   case min=>
    simp only[cK]at aj;split at aj
    ·rename_i k p fL q ad;have aI:=tj aB ad;have ez:args.map a.eval=#[.int k p,.int fL q]:=by apply gX;simpa using aI
     refine hV ?_ aj;have hm:(if q<p then q else p)=min p q:=by split<;>omega
     simp only[execOp,resolve,invoke,builtin,Builtin.min_,Builtin.min2,ez,cp,da,bZ,List.foldlM_cons,List.foldlM_nil,hm]
    ·exact Or.inl aj
   case unsafeSliceData=>
    simp only[cK]at aj;split at aj
    ·rename_i n c ad;have aI:=tj aB ad;have ez:args.map a.eval=#[.slice none n c]:=by apply gX;simpa using aI
     refine hV ?_ aj;simp only[execOp,resolve,invoke,builtin,ez,cp,da,bZ,Lib.run_unsafeSliceData_nil]
    ·rename_i aM n c ad;obtain⟨ak,aj⟩:=aj;have aI:=tj aB ad;have ez:args.map a.eval=#[.slice (some aM) n c]:=by apply gX;simpa using aI
     refine hV ?_ aj;simp only[execOp,resolve,invoke,builtin,ez,cp,da,bZ,Lib.run_unsafeSliceData_row _ _ _ _ _ _ (show c≠0 by omega)]
    ·exact Or.inl aj
   all_goals exact .inl aj
 all_goals exact .inl aj
def DZ(aN:cW X.P X.E)(ah:∀ d,o.dst=some d->d<X.n)(h:Rel X a w F C I M)(aj:gZ X o F C I M K):o.wpIn (g8 X) 0 X.P a w (Sat X K) Q:=by
 have aV:=h;obtain⟨β,h⟩:=h;obtain⟨dst,op,ty,pos,after,guard⟩:=o;have other:bD X ⟨dst,op,ty,pos,after,guard⟩ F C I M K->(⟨dst,op,ty,pos,after,guard⟩:Oper).wpIn (g8 X) 0 X.P a w (Sat X K) Q:=λ⟨h⟩=>h a w Q aV;have aB:=h.an;have quiet:cK X op (dq F) C I M (λx=>K (Go.V.put dst x F) C I M) (bD X ⟨dst,op,ty,pos,after,guard⟩ F C I M K)->(∀ c,op≠.defer c)->(⟨dst,op,ty,pos,after,guard⟩:Oper).wpIn (g8 X) 0 X.P a w (Sat X K) Q:=λaL bU=>by
  rcases V0 aN h op ty dst pos after guard aL with aa | ⟨v,x,af,ab,ae⟩;·exact other aa
  ·exact VR (o:=⟨dst,op,ty,pos,after,guard⟩) h ah bU af ab ae
 cases op
 case box t x=>
  simp only[gZ]at aj;split at aj
  ·rename_i d v ab;have ko:=dj aB ab;have af:(execOp a.eval ⟨some d,.box t x,ty,pos,after,guard⟩).run X.P w=.ok (.value (.pointer (some ⟨w.heap.size,0,none⟩))) (w.alloc (.cells v.cells t (0,0))):=by simp[execOp,Instr.box,newVar,newRow,ko,BD]
   have h8:d<X.n:=ah d rfl;cases kp:X.gC.contains d with
   |true=>rw[kp]at aj;obtain⟨aj⟩:=aj;have ae:=aj w.heap.size h.holds.sp h.holds.q7;have aa:=(h.n2 (.cells v.cells t (0,0))).OT d;exact iN (by simp) af ⟨_,_,_,_,⟨β,cN.put aa (dst:=some d) (x:=.val (.pointer (some ⟨w.heap.size,0,none⟩))) (by simpa using h8) rfl⟩,ae⟩
   |false=>rw[kp]at aj;obtain⟨oC,aa⟩:=h.VN d h8 v.cells.toList t;exact iN (by simp) af ⟨_,_,_,_,⟨oC,by simpa using aa⟩,aj⟩
  ·exact aj.elim
 case alloc t=>
  simp only[gZ]at aj;split at aj
  ·rename_i d i hi;obtain⟨z,bb,xL⟩:=(aN _ _ hi).GF w;have DX:z.cells=i.zero.toArray:=by rw[<-xL]
   have af:(execOp a.eval ⟨some d,.alloc t,ty,pos,after,guard⟩).run X.P w=.ok (.value (.pointer (some ⟨w.heap.size,0,none⟩))) (w.alloc (.cells i.zero.toArray t (0,0))):=by simp[execOp,Instr.alloc,newVar,newRow,bb,DX,BD]
   have h8:d<X.n:=ah d rfl;cases kp:X.gC.contains d with
   |true=>rw[kp]at aj;obtain⟨aj⟩:=aj;have ae:=aj w.heap.size h.holds.sp h.holds.q7;have aa:=(h.n2 (.cells i.zero.toArray t (0,0))).OT d;exact iN (by simp) af ⟨_,_,_,_,⟨β,cN.put aa (dst:=some d) (x:=.val (.pointer (some ⟨w.heap.size,0,none⟩))) (by simpa using h8) rfl⟩,ae⟩
   |false=>rw[kp]at aj;obtain⟨oC,aa⟩:=h.VN d h8 i.zero t;exact iN (by simp) af ⟨_,_,_,_,⟨oC,aa⟩,aj⟩
  ·exact aj.elim
 case store t x y=>
  simp only[gZ]at aj;split at aj
  ·rename_i i v hi aC;have tm:=dj aB aC;split at aj
   ·rename_i s off ab;have ko:=BG aB ab;split at aj
    ·rename_i cs av;cases bf:(Nat.ble (off+i.size) cs.length&&(Nat.beq v.cells.size i.size&&fK v.cells.toList))with
     |false=>rw[bf]at aj;exact aj.elim| true=>rw[bf]at aj;simp only[cB]at bf;obtain⟨bf,dn,qk⟩:=bf;have g0:=bK bf;have BQ:=ed dn;obtain⟨T,be⟩:=(h.cm s cs av).bF;have:=KG (aN _ _ hi) (a:=⟨β s,off,none⟩) (v:=v) rfl be BQ (by simp;omega) qk;refine DU (by simp) (w':=w.setRow (β s) (cj cs off v.cells.toList).toArray) ?_ ⟨_,_,_,_,⟨β,h.VP av (cj cs off v.cells.toList)⟩,aj⟩;simp only[execOp,Instr.storeAt,ko,tm,Instr.sureAddr,cp,da,bZ];simp only[OI]at this;rw[this];rfl
    ·exact aj.elim
   ·rename_i aM ab;have ko:=uH aB ab;cases dn:Nat.beq v.cells.size i.size with
    |false=>rw[dn]at aj;exact aj.elim| true=>rw[dn]at aj;obtain⟨a9,post,cs,T,ba,c9,ag,qk,ae⟩:=aj;have BQ:=ed dn;have aw:w.heap[aM.block]?=some (.cells cs T (0,0)):=h.holds.m ⟨aM.block,.cells cs T (0,0)⟩ (by rw[ba];simp);have:=KG (aN _ _ hi) (v:=v) c9 aw BQ ag qk;refine DU (by simp) (w':=w.setRow aM.block (cj cs.toList aM.off v.cells.toList).toArray) ?_ ⟨_,_,_,_,⟨β,h.xI ba⟩,ae⟩;simp only[execOp,Instr.storeAt,ko,tm,Instr.sureAddr,cp,da,bZ];rw[this];rfl
   ·exact aj.elim
  ·exact aj.elim
 case buildSlice t len parts=>
  simp only[gZ]at aj;split at aj
  ·rename_i sz hS z e vs aq iO;have hu:=(aN _ _ aq).slice;have aJ:=KB aB iO;have q':(parts.map λ(i,x)=>(i,a.eval x)).toList=vs:=by simpa using aJ
   split at aj
   ·rename_i aF hJ;cases bb:(Nat.ble (len*aF.size) 16777216&&Nat.blt 0 (len*aF.size))with
    |false=>
     rw[bb]at aj;simp only[cE]at aj;split at aj
     ·rename_i agS;obtain⟨aj⟩:=aj;have ae:=aj w.heap.size h.holds.sp h.holds.q7;refine iN (by simp) (v:=.slice (some ⟨w.heap.size,0,none⟩) 0 0) (w':=w.alloc (.cells #[] e (0,0))) ?_ ⟨_,_,_,_,⟨β,(h.n2 _).put (x:=.val (.slice (some ⟨w.heap.size,0,none⟩) 0 0)) ah rfl⟩,ae⟩;simp only[execOp,Instr.buildSlice,cp,bZ,run_underlying hu,(aN _ _ hJ).run_sizeOf,q'];have dy:∀ f:Nat->Value,Array.map f (Array.range 0)=#[]:=λf=>by apply Array.ext<;>simp
      simp[newRow,BD,Instr.fill,dy]
     ·exact aj.elim
    |true=>
     rw[bb]at aj;simp only[cF]at aj;rw[cB]at bb;have bf:=bK bb.1;have ms:0<len*aF.size:=by simpa using bb.2
     split at aj;·rename_i cells BK;obtain⟨tn,BR,xL⟩:=(aN _ _ hJ).GF w;obtain⟨aj⟩:=aj;have ae:=aj w.heap.size h.holds.sp h.holds.q7;refine iN (by simp) (v:=.slice (some ⟨w.heap.size,0,none⟩) len len) (w':=w.alloc (.cells cells.toArray e (0,0))) ?_ ⟨_,_,_,_,⟨β,(h.n2 _).put (x:=.val (.slice (some ⟨w.heap.size,0,none⟩) len len)) ah rfl⟩,ae⟩;have wa:=fill_eq _ _ _ _ BK;simp only[execOp,Instr.buildSlice,cp,bZ,run_underlying hu,(aN _ _ hJ).run_sizeOf];rw[bN (by omega)];simp only[bN (show ¬ len*aF.size=0 by omega),cp,BR,bZ,da,q',VW tn aF.zero xL,wa];simp[newRow,BD]
     ·exact aj.elim
   ·exact aj.elim
  ·exact aj.elim
 case makeSlice t l c=>
  simp only[gZ]at aj;split at aj
  ·rename_i sz hS z e fy eu ch c' aq ax ao;have hu:=(aN _ _ aq).slice;split at aj
   ·rename_i aF hJ;obtain⟨n,m,rfl,rfl,mu,ag,hm,⟨aj⟩⟩:=aj;have ae:=aj w.heap.size h.holds.sp h.holds.q7;obtain⟨inf,tn,ft,hW,im,kb,BS⟩:=(aN _ _ hJ).inf;refine iN (by simp) (v:=.slice (some ⟨w.heap.size,0,none⟩) n m) (w':=w.alloc (.cells (rowOf aF.zero (m*aF.size)).toArray e (0,0))) ?_ ⟨_,_,_,_,⟨β,(h.n2 _).put (x:=.val (.slice (some ⟨w.heap.size,0,none⟩) n m)) ah rfl⟩,ae⟩;have iQ:((aF.bytes:Nat):Int)*(m:Int)<=281474976710656:=by
     have ad:((aF.bytes*m:Nat):Int)<=281474976710656:=by omega
     simpa using ad
    have:=run_make (P:=X.P) w t e inf tn hu ft kb fy ch (n:Int) (m:Int) (by omega) (by omega) (by rw[im];exact iQ) (by omega);simp only[execOp,dj aB ax,dj aB ao,cp,this,bZ,da,hH];have aI:madeCells tn.cells (m*inf.size)=(rowOf aF.zero (m*aF.size)).toArray:=by rw[hW,<-BS];simp[ti]
    rw[aI]
   ·exact aj.elim
  ·exact aj.elim
 case call c=>
  obtain⟨callee,args,argTypes⟩:=c;cases callee with
  |value f=>
   simp only[gZ]at aj;split at aj
   ·rename_i g first cap vs zs iO
    have aI:=tj aB iO;have ez:args.map a.eval=vs.toArray:=by apply gX;simpa using aI
    have fb:∀ {n:Next} {w':World},(callFunc g (first.toList++vs++cap.toList).toArray).run X.P w=.ok n w'->(execOp a.eval ⟨dst,.call { callee:=.value f,args,argTypes },ty,pos,after,guard⟩).run X.P w=.ok n w':=λaf=>by simp only[execOp,resolve,dj aB zs,Deferred.ofValue,cp,da,bZ,ez,invoke];rw[show first++vs.toArray++cap=(first.toList++vs++cap.toList).toArray from by apply gX;simp];exact af
    rcases h.call aj with⟨qj,BT⟩ | ⟨v,w',I',M',af,ae,gL⟩;·refine VV (by simp) (f:=g) (args:=(first.toList++vs++cap.toList).toArray) (fb (qj _ _)) ?_;refine BT.mono ?_;rintro e w'⟨v,I',M',rfl,ae,af⟩;exact⟨v,rfl,_,_,_,_,⟨β,af.put (x:=.val v) ah rfl⟩,ae⟩
    ·exact iN (by simp) (fb af) ⟨_,_,_,_,⟨β,gL.put (x:=.val v) ah rfl⟩,ae⟩
   ·exact other aj
  |invoke r m=>exact quiet aj (by simp)
  |builtin b=>
   cases b
   all_goals exact quiet aj (by simp)
 case defer c=>exact other aj
 all_goals exact quiet aj (by simp)
end
section
variable{X:c3}{β:Nat->Nat}{a:Act}{w:World}{F:Fr}{C:dN}{I:aH}{M:List aE}{o:Oper}{Q:Exit->Act->World->Prop}{K:gl}
def D1{a:Act}{d:Nat}{c:Bool}(h:a.tmps.getD d undef=.bool c):a.tmps[d]?=some (.bool c):=by
 rw[pz]at h;cases ah:a.tmps[d]? with
 |none=>rw[ah]at h;cases h| some v=>rw[ah]at h;simp at h;rw[h]
def GI{j d:Nat}(ah:(ops[j]?).bind (·.dst)=some d)(tmps:Array Value):yielded ops tmps j=match tmps[d]? with
  |some (.bool b)=>some b| _=>none:=by
 unfold yielded;rw[ah];rfl
def cN.refine(h:cN X β a w F C I M){dc:Fr}(bE:∀ t,e4 β (dc t) (a.tmps.getD t undef)):cN X β a w dc C I M:={ h with an:=bE }
def V1(aN:cW X.P X.E)(ops:Array Oper)(kM:∀ a w,Sat X K a w->Q .normal a w):∀ (l:List Oper) (k:Nat),(∀ j,l[j]?=ops[k+j]?)->(∀ o∈l,∀ d,o.dst=some d->d<X.n) -> ∀ {F C I M a w},Rel X a w F C I M->uG X ops.toList l F C I M K->wpOpsIn (g8 X) 0 X.P ops Q (List.range' k l.length) a w
 |[],k,_,_,F,C,I,M,a,w,aV,aj=>kM _ _ ⟨F,C,I,M,aV,aj⟩
 |o::bl,k,ax,ah,F,C,I,M,a,w,aV,aj=>by
  have ay:ops[k]?=some o:=by simpa using(ax 0).symm
  have ql:∀ j,bl[j]?=ops[k+1+j]?:=λj=>by have:=ax (j+1);simpa[te,GA 1 j]using this
  have fE:∀ o∈bl,∀ d,o.dst=some d->d<X.n:=λo aA=>ah o (by simp[aA]);have zt:=ah o (by simp);have aQ:=@V1 aN ops kM bl (k+1) ql fE;simp only[et,OL,wpOpsIn,ay];have run:∀ {F C I M},Rel X a w F C I M->gZ X o F C I M (λF C I M=>uG X ops.toList bl F C I M K)->o.wpIn (g8 X) 0 X.P a w (wpOpsIn (g8 X) 0 X.P ops Q (List.range' (k+1) bl.length)) Q:=λaV aj=>
   td (λbL w' ⟨dc,C',I',M',af,ae⟩=>aQ af ae) (DZ aN zt aV aj)
  have skip:∀ {F C I M},Rel X a w F C I M->uG X ops.toList bl (put o.dst (.val undef) F) C I M K->(∀ f,o.about X.P w a.eval=some f->(g8 X).fn f)/\wpOpsIn (g8 X) 0 X.P ops Q (List.range' (k+1) bl.length) (a.put o.dst undef) w:=λ⟨β,af⟩ aj=>
   ⟨λ_ _=>trivial,aQ ⟨β,af.put (x:=.val undef) zt rfl⟩ aj⟩
  unfold uG at aj;cases aw:o.guard with
  |none=>
   rw[aw]at aj;have hw:Region.wanted o (yielded ops a.tmps)=true:=by simp[Region.wanted,aw]
   rw[bT hw];exact run aV aj
  |some GJ=>
   obtain⟨j,b⟩:=GJ;rw[aw]at aj;simp only at aj;cases ai:(ops.toList[j]?).bind (·.dst)with
   |none=>rw[ai]at aj;exact aj.elim
   |some d=>
    rw[ai]at aj;simp only at aj;have jS:(ops[j]?).bind (·.dst)=some d:=by simpa using ai
    have aC:=GI jS a.tmps;obtain⟨β,af⟩:=aV;have bE:=af.an d;split at aj
    ·rename_i c ao;rw[ao]at bE;have GK:=D1 bE;have GL:Region.wanted o (yielded ops a.tmps)=(c == b):=by simp[Region.wanted,aw,aC,GK]
     rw[GL];cases jT:(c == b)with
     |true=>rw[jT]at aj;simp only[sj];exact run ⟨β,af⟩ aj| false=>rw[jT]at aj;simp only[ld,mj];exact skip ⟨β,af⟩ aj
    ·rename_i c ao;rw[ao]at bE;have GK:=D1 bE;have GL:Region.wanted o (yielded ops a.tmps)=(c == b):=by simp[Region.wanted,aw,aC,GK]
     rw[GL];obtain⟨KI,lU⟩:=aj;have set:∀ x:Bool,c=x->Rel X a w (gY F d (.lit x)) C I M:=λx ab=>⟨β,af.refine λt=>by
      unfold gY;by_cases e:t=d;·subst e;simp only[q6,cF];rw[<-ab];exact bE
      ·simp only[hI e,cE];exact af.an t⟩
     by_cases jT:c=b
     ·have:(c == b)=true:=by simp[jT]
      rw[this];simp only[sj];exact run (set b jT) (KI jT)
     ·have ad:c=!b:=by cases c<;>cases b<;>simp_all
      have:(c == b)=false:=by simp[jT]
      rw[this];simp only[ld,mj];exact skip (set _ ad) (lU ad)
    ·rename_i vs ao;rw[ao]at bE;have sq:yielded ops a.tmps j=none:=by
      rw[aC];cases jU:a.tmps[d]? with
      |none=>rfl| some v=>simp only[e4,pz,jU,kL]at bE;subst bE;rfl
     have GL:Region.wanted o (yielded ops a.tmps)=false:=by simp[Region.wanted,aw,sq]
     rw[GL];simp only[ld,mj];exact skip ⟨β,af⟩ aj
    ·exact aj.elim
end
inductive zu:dH->dH->Prop
 |refl{x}:zu x x| lit {b}:zu (.lit b) (.val (.bool b))| nC {x}:zu x .nC
def rc:List (Nat×dH)->Fr
 |[],_=>.nC|(t,x)::l,s=>bif Nat.beq s t then x else rc l s
def re:List (Nat×List Value)->dN
 |[],_=>none|(t,x)::l,s=>bif Nat.beq s t then some x else re l s
inductive ll(F:Fr):List (Nat×dH)->Prop
 |nil:ll F []| cons {t x l} (h:zu (F t) x) (k:ll F l):ll F ((t,x)::l)
inductive zv(C:dN):List (Nat×List Value)->Prop
 |nil:zv C []| cons {t x l} (h:C t=some x) (k:zv C l):zv C ((t,x)::l)
def agT{β:Nat->Nat}{x y:dH}(h:zu x y)(ab:e4 β x v):e4 β y v:=by
 cases h with
 |refl=>exact ab| lit=>exact ab| nC=>trivial
def ll.ok{β:Nat->Nat}{F:Fr}(h:∀ t,e4 β (F t) (a.tmps.getD t undef)){l:List (Nat×dH)}(ax:ll F l)(t:Nat):e4 β (rc l t) (a.tmps.getD t undef):=by
 induction ax with
 |nil=>trivial
 | @cons bn x l ab k aQ=>
  unfold rc;by_cases e:t=bn;·subst e;simp only[q6,cF];exact agT ab (h t)
  ·simp only[hI e,cE];exact aQ
def zv.ok{C:dN}{l:List (Nat×List Value)}(ax:zv C l){s:Nat}{cs:List Value}(h:re l s=some cs):C s=some cs:=by
 induction ax with
 |nil=>cases h
 | @cons bn x l ab k aQ=>
  unfold re at h;by_cases e:s=bn;·subst e;simp only[q6,cF]at h;rw[ab,h]
  ·simp only[hI e,cE]at h;exact aQ h
def cN.cX{X:c3}{β:Nat->Nat}{F:Fr}{C:dN}{I:aH}{M:List aE}(h:cN X β a w F C I M){bo:List (Nat×dH)}{cl:List (Nat×List Value)}(bE:ll F bo)(gi:zv C cl):cN X β a w (rc bo) (re cl) I M:=
 { h with
  an:=bE.ok h.an
  cm:=λs cs av=>h.cm s cs (gi.ok av)
  inj:=λs cg aa ad=>by
   obtain⟨fF,aI⟩:=Ku.1 aa;obtain⟨fz,a6⟩:=Ku.1 ad;exact h.inj s cg (by rw[gi.ok aI];simp) (by rw[gi.ok a6];simp) }
inductive to where
 |normal| exit (id:Nat)| goto (l:Nat)| ret
abbrev kq:=to->gl
def zw(N:gl)(K:kq):kq
 | .normal=>N| .exit id=>K (.exit id)| .goto l=>K (.goto l)| .ret=>K .ret
def V2(id:Nat)(K:kq):kq
 | .normal=>K .normal| .exit j=>bif Nat.beq j id then K .normal else K (.exit j)| .goto l=>K (.goto l)| .ret=>K .ret
def mS(X:c3)(K:kq):Exit->Act->World->Prop
 | .normal,a,w=>Sat X (K .normal) a w| .exit id,a,w=>Sat X (K (.exit id)) a w| .goto l,a,w=>Sat X (K (.goto l)) a w| .ret,a,w=>Sat X (K .ret) a w| .panic _,_,_=>False| .outgrown,_,_=>False
abbrev Body:=Fr->dN->aH->List aE->kq->Prop
structure xM where
 bo:List (Nat×dH)
 cl:List (Nat×List Value):=[]
 cH:aH
 dd:List aE:=[]
inductive qm{ι:Type}(foot:List Nat)(a0:ι->xM)(p:ι->Prop)(F:Fr)(C:dN)(I:aH)(M:List aE):Prop
 |mk(j:ι)(aJ:p j)(hw:hc foot I M (a0 j).cH (a0 j).dd)(bE:ll F (a0 j).bo)(gi:zv C (a0 j).cl)
def OZ(body:Body)(K:kq):Nat->gl
 |0=>λ_ _ _ _=>False
 |n+1=>λF C I M=>body F C I M (zw (OZ body K n) K)
inductive dt(foot:List Nat)(body:Body)(F:Fr)(C:dN)(I:aH)(M:List aE)(K:kq):Prop
 |inv {ι:Type} (a0:ι->xM) (inv:ι->Prop) (μ:ι->Nat) (start:qm foot a0 inv F C I M) (round:∀ i,inv i->body (rc (a0 i).bo) (re (a0 i).cl) (a0 i).cH (a0 i).dd (zw (qm foot a0 λj=>inv j/\μ j<μ i) K))| agU (n:Nat) (h:OZ body K n F C I M)| uJ {ι:Type} (a0:ι->xM) (inv:ι->Prop) (μ:ι->Nat) (start:mm I M->qm foot a0 inv F C I M) (round:∀ i,inv i->body (rc (a0 i).bo) (re (a0 i).cl) (a0 i).cH (a0 i).dd (zw (λF C I M=>mm I M->qm foot a0 (λj=>inv j/\μ j<μ i) F C I M) K))
inductive cT(X:c3)(c:Code)(F:Fr)(C:dN)(I:aH)(M:List aE)(K:kq):Prop
 |mk(h:∀ a w,Rel X a w F C I M->c.wpIn (g8 X) 0 X.P (mS X K) a w)
inductive agV(foot:List Nat)(F:Fr)(C:dN)(I:aH)(M:List aE)(K:gl):Prop
 |go(h:K F C I M)| agW (l:xM) (hw:hc foot I M l.cH l.dd) (bE:ll F l.bo) (gi:zv C l.cl) (h:K (rc l.bo) (re l.cl) l.cH l.dd)
def V(X:c3):Code->Fr->dN->aH->List aE->kq->Prop
 | .skip,F,C,I,M,K=>K .normal F C I M| .label l,F,C,I,M,K=>bif Nat.ble 2 l then agV X.foot F C I M (K .normal)else K .normal F C I M| .ret,F,C,I,M,K=>K .ret F C I M| .exit id,F,C,I,M,K=>K (.exit id) F C I M| .goto l,F,C,I,M,K=>K (.goto l) F C I M| .seq x y,F,C,I,M,K=>V X x F C I M (zw (λF C I M=>V X y F C I M K) K)| .block id c,F,C,I,M,K=>V X c F C I M (V2 id K)
 | .cond c x y,F,C,I,M,K=>
  match dq F c with
  | .lit b=>bif b then V X x F C I M K else V X y F C I M K| .val (.bool b)=>aX b (V X x F C I M K) (V X y F C I M K)| _=>False
 | .loop c,F,C,I,M,K=>dt X.foot (V X c) F C I M K| .region _ ops false,F,C,I,M,K=>uG X ops.toList ops.toList F C I M (K .normal)| .region id ops true,F,C,I,M,K=>cT X (.region id ops true) F C I M K| .rangeFunc f ps fk body,F,C,I,M,K=>cT X (.rangeFunc f ps fk body) F C I M K| .scope c,F,C,I,M,K=>cT X (.scope c) F C I M K| .refuse _,_,_,_,_,_=>False
def xN(n:Nat)(ops:Array Oper):Bool:=ops.toList.all λo=>match o.dst with
 |some d=>Nat.blt d n| none=>true
def codeOk(n:Nat):Code->Bool
 | .seq x y=>codeOk n x&&codeOk n y| .block _ c=>codeOk n c| .cond _ x y=>codeOk n x&&codeOk n y| .loop c=>codeOk n c| .region _ ops _=>xN n ops| _=>true
def KJ(h:xN n ops=true):∀ o∈ops.toList,∀ d,o.dst=some d->d<n:=by intro o aA d ah;have:=fS.1 h o aA;rw[ah]at this;simpa using this
def mS.then{X:c3}{N:gl}{K:kq}(aD:∀ a w,Sat X N a w->next a w):∀ e a w,mS X (zw N K) e a w->Exit.then next (mS X K) e a w:=by
 intro e a w h;cases e<;>first | exact aD _ _ h | exact h
def KK{sr:Fence}{Q:Exit->Act->World->Prop}(J:Nat->Act->World->Prop)(agX:J m a w)
  (round:∀ m a w,J m a w->c.wpIn sr n P (Exit.then (λbL w'=>∃ m',m'<m/\J m' bL w') Q) a w):(Code.loop c).wpIn sr n P Q a w:=by
 intro b k cs jj ag af;have key:∀ j a w,J j a w->∃ e bL w',Q e bL w'/\ArrivesIn (Machine.fenced P sr) P (lone (b.atR a (.code c::.inLoop c::k)) cs w) b k cs e bL w':=by
  intro j
  induction j using Nat.strongRecOn with
  |_ j aQ=>
   intro a w bA;obtain⟨e,kc,kd,aL,jk⟩:=round j a w bA b (.inLoop c::k) cs jj ag af;cases e with
   |normal=>obtain⟨m',aZ,agY⟩:=aL;obtain⟨GM,GN,GO,GP,GQ⟩:=aQ m' aZ kc kd agY;exact⟨GM,GN,GO,GP,.of_steps (StepsIn.trans jk (.one (fenced_calm ag af rfl) stepR_inLoop)) GQ⟩
   |exit id=>exact⟨_,kc,kd,aL,.pass (x:=.inLoop c) rfl (λ_ _=>.inl (by simp)) jk⟩| goto l=>exact⟨_,kc,kd,aL,.pass (x:=.inLoop c) rfl (λ_ _=>.inl (by simp)) jk⟩| ret=>exact⟨_,kc,kd,aL,.pass (x:=.inLoop c) rfl (λ_ _=>.inl (by simp)) jk⟩| panic GR=>exact⟨_,kc,kd,aL,.pass (x:=.inLoop c) rfl (λ_ _=>.inl (by simp)) jk⟩| outgrown=>exact⟨_,kc,kd,aL,.pass (x:=.inLoop c) rfl (λ_ _=>.inl (by simp)) jk⟩
 obtain⟨e,bL,w',aL,jk⟩:=key _ a w agX;exact⟨e,bL,w',aL,.of_steps (.one (fenced_calm ag af rfl) stepR_loop) jk⟩
def rf{X:c3}(aN:cW X.P X.E):∀ (c:Code) {F C I M K a w},codeOk X.n c=true->Rel X a w F C I M->V X c F C I M K->c.wpIn (g8 X) 0 X.P (mS X K) a w
 | .skip,F,C,I,M,K,a,w,_,aV,aj=>wpIn_skip ⟨F,C,I,M,aV,aj⟩
 | .label l,F,C,I,M,K,a,w,_,aV,aj=>by
  refine wpIn_label ?_;simp only[V]at aj;cases ax:Nat.ble 2 l with
  |false=>rw[ax]at aj;exact⟨F,C,I,M,aV,aj⟩
  |true=>
   rw[ax]at aj;simp only[cF]at aj;cases aj with
   |go h=>exact⟨F,C,I,M,aV,h⟩| agW l hw bE gi h=>obtain⟨β,af⟩:=aV;exact⟨_,_,_,_,⟨β,(af.cX bE gi).h7 hw⟩,h⟩
 | .ret,F,C,I,M,K,a,w,_,aV,aj=>wpIn_ret ⟨F,C,I,M,aV,aj⟩| .exit id,F,C,I,M,K,a,w,_,aV,aj=>wpIn_exit ⟨F,C,I,M,aV,aj⟩| .goto l,F,C,I,M,K,a,w,_,aV,aj=>wpIn_goto ⟨F,C,I,M,aV,aj⟩| .seq x y,F,C,I,M,K,a,w,bg,aV,aj=>by simp only[codeOk,cB]at bg;refine wpIn_seq (wpIn_mono (rf aN x bg.1 aV aj) (mS.then ?_));rintro a w⟨dc,C',I',M',af,ae⟩;exact rf aN y bg.2 af ae
 | .block id c,F,C,I,M,K,a,w,bg,aV,aj=>by
  refine wpIn_block (wpIn_mono (rf aN c bg aV aj) ?_);intro e a w h;cases e with
  |exit j=>
   simp only[mS,V2]at h;simp only[Exit.inBlock];by_cases e:j=id;·subst e;simp only[q6,cF]at h;rw[bT rfl];exact h
   ·simp only[hI e,cE]at h;rw[bN e];exact h
  |_=>exact h
 | .cond c x y,F,C,I,M,K,a,w,bg,aV,aj=>by
  simp only[codeOk,cB]at bg;obtain⟨β,af⟩:=aV;simp only[V]at aj;split at aj
  ·rename_i b ag;have ao:=OP af.an ag;refine wpIn_cond ao ?_;cases b
   ·exact rf aN y bg.2 ⟨β,af⟩ aj
   ·exact rf aN x bg.1 ⟨β,af⟩ aj
  ·rename_i b ag;have ao:=uH af.an ag;refine wpIn_cond ao ?_;obtain⟨aa,ad⟩:=aj;cases b
   ·exact rf aN y bg.2 ⟨β,af⟩ (ad rfl)
   ·exact rf aN x bg.1 ⟨β,af⟩ (aa rfl)
  ·exact aj.elim
 | .loop c,F,C,I,M,K,a,w,bg,aV,aj=>by
  have aQ:=@rf X aN c;simp only[V]at aj;have hinv:∀ {ι:Type} (a0:ι->xM) (inv:ι->Prop) (μ:ι->Nat) (start:mm I M->qm X.foot a0 inv F C I M)
    (round:∀ i,inv i->V X c (rc (a0 i).bo) (re (a0 i).cl) (a0 i).cH (a0 i).dd (zw (λF C I M=>mm I M->qm X.foot a0 (λj=>inv j/\μ j<μ i) F C I M) K)),(Code.loop c).wpIn (g8 X) 0 X.P (mS X K) a w:=by
   intro ι a0 inv μ start round;let J (m:Nat) (a:Act) (w:World):Prop:=∃ i,inv i/\μ i=m/\Rel X a w (rc (a0 i).bo) (re (a0 i).cl) (a0 i).cH (a0 i).dd
   have zx:∀ {p:ι->Prop} {a w},(∀ i,p i->inv i)->Sat X (λF C I M=>mm I M->qm X.foot a0 p F C I M) a w->∃ i,p i/\J (μ i) a w:=by rintro p a w aJ⟨F,C,I,M,⟨β,af⟩,eF⟩;obtain⟨j,ss,hw,bE,gi⟩:=eF ⟨af.holds.d,af.holds.b3⟩;exact⟨j,ss,j,aJ j ss,rfl,β,(af.cX bE gi).h7 hw⟩
   obtain⟨i0,_,xO⟩:=zx (λ_ h=>h) ⟨F,C,I,M,aV,start⟩;refine KK J xO ?_;rintro m a w⟨i,hi,rfl,af⟩;refine wpIn_mono (aQ bg af (round i hi)) ?_;intro e a w h;cases e with
   |normal=>obtain⟨j,⟨ai,aZ⟩,a5⟩:=zx (λ_ h=>h.1) h;exact⟨_,aZ,a5⟩
   |_=>exact h
  cases aj with
  | @inv ι a0 inv μ start round=>
   let J (m:Nat) (a:Act) (w:World):Prop:=∃ i,inv i/\μ i=m/\Rel X a w (rc (a0 i).bo) (re (a0 i).cl) (a0 i).cH (a0 i).dd
   have zx:∀ {p:ι->Prop} {a w},(∀ i,p i->inv i)->Sat X (qm X.foot a0 p) a w->∃ i,p i/\J (μ i) a w:=by rintro p a w aJ⟨F,C,I,M,⟨β,af⟩,⟨j,ss,hw,bE,gi⟩⟩;exact⟨j,ss,j,aJ j ss,rfl,β,(af.cX bE gi).h7 hw⟩
   obtain⟨i0,_,xO⟩:=zx (λ_ h=>h) ⟨F,C,I,M,aV,start⟩;refine KK J xO ?_;rintro m a w⟨i,hi,rfl,af⟩;refine wpIn_mono (aQ bg af (round i hi)) ?_;intro e a w h;cases e with
   |normal=>obtain⟨j,⟨ai,aZ⟩,a5⟩:=zx (λ_ h=>h.1) h;exact⟨_,aZ,a5⟩
   |_=>exact h
  |uJ a0 inv μ start round=>exact hinv a0 inv μ start round
  |agU n h=>
   refine KK (λm a w=>Sat X (OZ (V X c) K m) a w) ⟨F,C,I,M,aV,h⟩ ?_;rintro m a w⟨F,C,I,M,af,ae⟩;cases m with
   |zero=>exact ae.elim
   |succ m=>
    refine wpIn_mono (aQ bg af ae) ?_;intro e a w h;cases e with
    |normal=>exact⟨m,BC m,h⟩| _=>exact h
 | .region id ops false,F,C,I,M,K,a,w,bg,aV,aj=>by refine wpIn_region ?_;have:=V1 (K:=K .normal) (Q:=mS X K) aN ops (λ_ _ h=>h) ops.toList 0 (by simp) (KJ bg) aV aj;simpa[DS]using this
 | .region id ops true,F,C,I,M,K,a,w,bg,aV,⟨aj⟩=>aj a w aV| .rangeFunc f ps fk body,F,C,I,M,K,a,w,bg,aV,⟨aj⟩=>aj a w aV| .scope c,F,C,I,M,K,a,w,bg,aV,⟨aj⟩=>aj a w aV| .refuse _,F,C,I,M,K,a,w,bg,aV,aj=>aj.elim
def xP(args:List Value):Fr:=λt=>match args[t]? with
 |some v=>.val v| none=>.nC
def pE(X:c3)(F:Fr)(C:dN)(I:aH)(M:List aE):List ResultVar->(List Value->Prop)->Prop
 |[],K=>K []
 | .tmp t::l,K=>match bH F (.tmp t)with
  | .val v=>pE X F C I M l λvs=>K (v::vs)
  |_=>False
 | .cell t ty::l,K=>match dq F (.tmp t),X.E ty with
  | .ref s off,some i=>(match C s with
   |some cs=>bif Nat.ble (off+i.size) cs.length then pE X F C I M l λvs=>K (pack i.bP.agg ((cs.drop off).take i.size)::vs)else False
   |none=>False)
  | .val (.pointer (some a)),some i=>aO I M a i.size λws=>pE X F C I M l λvs=>K (pack i.bP.agg ws::vs)
  |_,_=>False
inductive wb(foot:List Nat)(I:aH)(M:List aE)(post:aH->List aE->Prop):Prop
 |mk(I':aH)(M':List aE)(hw:hc foot I M I' M')(h:post I' M')
def wc(X:c3)(a':List ResultVar)(post:Value->aH->List aE->Prop):kq:=λex F C I M=>
 let done:Prop:=pE X F C I M a' λvs=>match vs with
  |[v]=>wb X.foot I M (post v)| vs=>wb X.foot I M (post (.tuple vs.toArray))
 match ex with
 | .normal=>done| .ret=>done| _=>False
def D2(tmps:Array Value):ResultVar->Sem Value
 | .tmp t=>pure (tmps.getD t undef)| .cell a t=>do loadVar t (<-asAddr (tmps.getD a undef))
def agZ(fn:Func)(tmps:Array Value):results fn tmps=(do let vs <-fn.results.mapM (D2 tmps);pure (if h:vs.size=1 then vs[0]else .tuple vs)):=by unfold results;congr 1
def KL{X:c3}(aN:cW X.P X.E){β:Nat->Nat}{a:Act}{w:World}{F:Fr}{C:dN}{I:aH}{M:List aE}(h:cN X β a w F C I M):∀ {a':List ResultVar} {K:List Value->Prop},pE X F C I M a' K -> ∃ vs,K vs/\(a'.mapM (D2 a.tmps)).run X.P w=.ok vs w
 |[],K,aj=>⟨[],aj,rfl⟩
 | .tmp t::l,K,aj=>by
  unfold pE at aj;split at aj;·rename_i v aa;have aI:a.tmps.getD t undef=v:=dj h.an aa;obtain⟨vs,ae,a6⟩:=KL aN h aj;refine⟨_,ae,?_⟩;simp only[Gz,D2,cp,da,bZ,a6,aI]
  ·exact aj.elim
 | .cell t ty::l,K,aj=>by
  unfold pE at aj;split at aj
  ·rename_i s off i aa hi;have aI:a.tmps.getD t undef=.pointer (some ⟨β s,off,none⟩):=BG h.an aa;split at aj
   ·rename_i cs av;cases bf:Nat.ble (off+i.size) cs.length with
    |false=>rw[bf]at aj;exact aj.elim| true=>rw[bf]at aj;obtain⟨vs,ae,a6⟩:=KL aN h aj;have g0:=bK bf;obtain⟨T,be⟩:=(h.cm s cs av).bF;have cq:=KF (aN _ _ hi) (a:=⟨β s,off,none⟩) rfl be (vs:=(cs.drop off).take i.size) (by simp) (by simp;omega);refine⟨_,ae,?_⟩;simp only[Gz,D2,cp,da,bZ,a6,aI,asAddr,cq]
   ·exact aj.elim
  ·rename_i aM i aa hi;have aI:a.tmps.getD t undef=.pointer (some aM):=uH h.an aa;obtain⟨ws,⟨c9,cs,T,an,fj,iO,ax⟩,aj⟩:=aj;obtain⟨vs,ae,a6⟩:=KL aN h aj;have cq:=KF (aN _ _ hi) c9 (fj.heap h.holds) iO ax;refine⟨_,ae,?_⟩;simp only[Gz,D2,cp,da,bZ,a6,aI,asAddr,cq]
  ·exact aj.elim
def ag0{X:c3}(aN:cW X.P X.E){β:Nat->Nat}{F:Fr}{C:dN}{I:aH}{M:List aE}(h:cN X β a w F C I M){K:List Value->Prop}(aj:pE X F C I M fn.results.toList K) :
  ∃ vs,K vs/\(results fn a.tmps).run X.P w=.ok (match vs with | [v]=>v | vs=>.tuple vs.toArray) w:=by
 obtain⟨vs,ae,e⟩:=KL aN h aj;refine⟨vs,ae,?_⟩;rw[agZ];have aI:(fn.results.mapM (D2 a.tmps)).run X.P w=.ok vs.toArray w:=by rw[VJ,Sem.run_map,e];rfl
 simp only[cp,aI,bZ,da]
 match vs with
 |[]=>rfl| [v]=>rfl| u::v::l=>simp
def V3{sr:Fence}{n:Nat}{P:Program}{fn:Func}{tmps:Array Value}{R:Ending->World->Prop}:∀ (a':List Nat) (w:World),a'.Nodup->(∀ r∈a',w.heap[r]?=some (.deferred (some []))) -> (∀ w':World,w'.heap.size=w.heap.size->(∀ b,b ∉ a'->w'.heap[b]?=w.heap[b]?)->oB w w'->∃ v,(results fn tmps).run P w'=.ok v w'/\R (.returned v) w')->LeavesInM sr n P fn tmps R (a'.map xF) .returning w
 |[],w,_,_,h=>h w rfl (λ_ _=>rfl) (.refl _)
 |r::a',w,bU,af,h=>by
  rw[lf]at bU;refine⟨by simp,.inl ⟨r,_,rfl,run_takeDeferred (af r (by simp)),?_⟩⟩;refine V3 a' _ bU.2 (λr' gL=>?_) λw' av ag aA=>h w' (by rw[av];simp) (λb GS=>?_) ((KD _ _ _).trans aA);·have bt:r'≠r:=λe=>bU.1 (e ▸ gL);rw[nA bt];exact af r' (by simp[gL])
  ·simp only[eI,not_or]at GS;rw[ag b GS.2,nA GS.1]
def cN.take{X:c3}{β:Nat->Nat}{F:Fr}{C:dN}{I:aH}{M:List aE}(h:cN X β a w F C I M){a':List Nat}(dB:∀ r∈a',v8 X w I M r)(av:w'.heap.size=w.heap.size)(ag:∀ b,b ∉ a'->w'.heap[b]?=w.heap[b]?)(aA:oB w w') :
  cN X β { a with defers:=[] } w' F C I M:=by
 exact {
  size:=h.size
  defers:=⟨[],rfl,zp,λr af=>by cases af⟩
  holds:={
   i:=λb o iP=>by rw[ag b (λaf=>by have:=(dB b af).j';rw[iP]at this;cases this)];exact h.holds.i b o iP
   m:=λx ab=>by rw[ag _ (λaf=>(dB _ af).e7 x ab rfl)];exact h.holds.m x ab
   d:=h.holds.d
   b3:=h.holds.b3 }
  an:=h.an
  cm:=λs cs kr=>by have uK:=h.cm s cs kr;obtain⟨T,be⟩:=uK.bF;refine { uK with bF:=⟨T,?_⟩ };rw[ag _ (λaf=>by have:=(dB _ af).bF;rw[be]at this;cases this)];exact be
  inj:=h.inj
  il:=h.il
  hT:=h.hT
  own:=h.own
  dO:=λb aZ aB=>by rw[ag _ (λaf=>by have:=(dB _ af).cX;omega)];exact h.dO b aZ aB
  out:=h.out.trans aA
  sz:=by rw[av];exact h.sz
  fx:=h.fx }
def mS.ret{X:c3}(aN:cW X.P X.E){post:Value->aH->List aE->Prop}
  (aV:∀ v I M (w:World) (a:Act) (F:Fr) (C:dN),Rel X a w F C I M->post v I M->R (.returned v) w):∀ e a w,mS X (wc X fn.results.toList post) e a w->bodyPostM (g8 X) 0 X.P fn R e a w:=by
 have main:∀ a w,Sat X (wc X fn.results.toList post .ret) a w->LeavesInM (g8 X) 0 X.P fn a.tmps R a.defers .returning w:=by
  rintro a w⟨F,C,I,M,⟨β,af⟩,ae⟩;simp only[wc]at ae;obtain⟨a',ah,bU,hm⟩:=af.defers;rw[ah];refine V3 a' w bU (λr en=>(hm r en).bF) λw' av ag aA=>?_;have gL:=af.take hm av ag aA;obtain⟨vs,aJ,fb⟩:=ag0 aN gL ae;refine⟨_,fb,?_⟩
  match vs,aJ with
  |[],⟨I',M',hw,aJ⟩=>exact aV _ I' M' w' _ F C ⟨β,gL.h7 hw⟩ aJ| [v],⟨I',M',hw,aJ⟩=>exact aV _ I' M' w' _ F C ⟨β,gL.h7 hw⟩ aJ| u::v::l,⟨I',M',hw,aJ⟩=>exact aV _ I' M' w' _ F C ⟨β,gL.h7 hw⟩ aJ
 intro e a w h;cases e with
 |normal=>exact main a w h| ret=>exact main a w h| exit id=>obtain⟨F,C,I,M,_,ae⟩:=h;exact ae.elim
 |goto l=>obtain⟨F,C,I,M,_,ae⟩:=h;exact ae.elim
 |panic _=>exact h.elim| outgrown=>exact h.elim
def ag1(aB:P.funcs[f]?=some fn)(ag:fn.body.isSome=true)(aD:(fn.name == "runtime.NumGoroutine")=false):ON P f:=by
 intro args w;have hd:fn.body.isNone=false:=by cases h:fn.body<;>simp_all
 simp only[callFunc,cp,run_program,bZ,aB,aD,ld,mj,hd];rfl
def O0{E:Env}(gC:List Nat)(aN:cW P E)(aB:P.funcs[f]?=some fn)(ag:fn.body=some c)(aD:(fn.name == "runtime.NumGoroutine")=false)
 (bg:(codeOk fn.ntmps c&&Nat.ble args.length fn.ntmps)=true) {I:aH} {M:List aE} {post:Value->aH->List aE->Prop}
  (h:∀ B ay a w,Rel ⟨P,E,gC,fn.ntmps,B,ay,I,M.map (·.num),none⟩ a w (xP args) (λ_=>none) I M->c.wpIn (g8 ⟨P,E,gC,fn.ntmps,B,ay,I,M.map (·.num),none⟩) 0 P (mS ⟨P,E,gC,fn.ntmps,B,ay,I,M.map (·.num),none⟩ (wc ⟨P,E,gC,fn.ntmps,B,ay,I,M.map (·.num),none⟩ fn.results.toList post)) a w) :
  v7 P f args I M post:=by
 rw[cB]at bg;have cS:=bK bg.2;refine⟨ag1 aB (by rw[ag];rfl) aD,λw hU=>?_⟩;let X:c3:=⟨P,E,gC,fn.ntmps,w.heap.size,w,I,M.map (·.num),none⟩
 have GU:Rel X { tmps:=args.toArray++Array.replicate (fn.ntmps-args.toArray.size) undef,defers:=[] } w (xP args) (λ_=>none) I M:=⟨λ_=>0,{
  size:=by simp[X];omega
  defers:=⟨[],rfl,zp,λr af=>by cases af⟩
  holds:=hU
  an:=λt=>by
   unfold xP;cases aq:args[t]? with
   |none=>trivial| some v=>have aZ:t<args.length:=(hG.1 aq).1;simp only[e4,pz];rw[Array.getElem?_append_left (by simpa using aZ)];simp[aq]
  cm:=λs cs av=>by cases av
  inj:=λs cg aa=>by simp at aa
  il:=λb o ag=>ag
  hT:=λb o ag=>.inl ag
  own:=λx ab=>.inl (cP.2 ⟨x,ab,rfl⟩)
  dO:=λb ag aB=>rfl
  out:=.refl _
  sz:=b' _
  fx:=λx ab=>by
   obtain⟨y,aC,rfl⟩:=cP.1 ab;exact(lR.1 (hU.m y aC)).1 }⟩
 have KM:=h w.heap.size w _ _ GU;refine(callsIn_wide (n:=0)).1 ?_;have ag2:g8 X=Fence.wide:=rfl;rw[ag2]at KM;refine callsIn_of_wp_marks aB ag trivial (wpIn_mono KM (mS.ret (X:=X) aN ?_));rintro v I' M' w' bL dc C'⟨β,af⟩aJ;refine⟨v,I',M',rfl,aJ,af.holds,?_⟩;exact {
  le:=af.il
  uE:=af.hT
  v5:=λx ab=>by
   rcases af.own x ab with aa | aa;·obtain⟨y,aC,e⟩:=cP.1 aa;exact .inl ⟨y,aC,e⟩
   ·exact .inr aa
  dO:=λb ag bt=>af.dO b ag (λhm=>by
   obtain⟨y,aC,e⟩:=cP.1 hm;exact bt y aC e)
  out:=af.out
  sz:=af.sz }
def BU{E:Env}(gC:List Nat)(aN:cW P E)(aB:P.funcs[f]?=some fn)(ag:fn.body=some c)(aD:(fn.name == "runtime.NumGoroutine")=false)
 (bg:(codeOk fn.ntmps c&&Nat.ble args.length fn.ntmps)=true) {I:aH} {M:List aE} {post:Value->aH->List aE->Prop}
  (h:∀ B ay,V ⟨P,E,gC,fn.ntmps,B,ay,I,M.map (·.num),none⟩ c (xP args) (λ_=>none) I M (wc ⟨P,E,gC,fn.ntmps,B,ay,I,M.map (·.num),none⟩ fn.results.toList post)) :
  v7 P f args I M post:=
 O0 gC aN aB ag aD bg λB ay a w af=>by rw[cB]at bg;exact rf aN c bg.1 af (h B ay)
def bV{E:Env}(gC:List Nat)(aN:cW P E)(aB:P.funcs[f]?=some fn)(ag:fn.body=some c)(aD:(fn.name == "runtime.NumGoroutine")=false)
 (bg:(codeOk fn.ntmps c&&Nat.ble args.length fn.ntmps)=true) {I:aH} {M:List aE} {post:Value->aH->List aE->Prop}
  (h:∀ B ay,V ⟨P,E,gC,fn.ntmps,B,ay,I,M.map (·.num),none⟩ c (xP args) (λ_=>none) I M (wc ⟨P,E,gC,fn.ntmps,B,ay,I,M.map (·.num),none⟩ fn.results.toList post)) :
  Spec P f args I M post:=.inl (BU gC aN aB ag aD bg h)
def KN(X:c3)(a':List ResultVar)(post:Value->aH->List aE->Prop):kq:=λex F C I M=>
 let done:Prop:=pE X F C I M a' λvs=>match vs with
  |[v]=>mm I M->wb X.foot I M (post v)| vs=>mm I M->wb X.foot I M (post (.tuple vs.toArray))
 match ex with
 | .normal=>done| .ret=>done| _=>False
def KO{X:c3}{F:Fr}{C:dN}{I:aH}{M:List aE}:∀ {a':List ResultVar} {K zy:List Value->Prop},(∀ vs,K vs->zy vs)->pE X F C I M a' K->pE X F C I M a' zy
 |[],K,zy,h,aj=>h _ aj
 | .tmp t::l,K,zy,h,aj=>by
  unfold pE at aj |-;split at aj;·exact KO (λvs=>h _) aj
  ·exact aj.elim
 | .cell t ty::l,K,zy,h,aj=>by
  unfold pE at aj |-;split at aj
  ·rename_i s off i aa hi;split at aj
   ·rename_i cs av;cases bf:Nat.ble (off+i.size) cs.length with
    |false=>rw[bf]at aj;exact aj.elim| true=>rw[bf]at aj;exact KO (λvs=>h _) aj
   ·exact aj.elim
  ·obtain⟨ws,bc,aj⟩:=aj;exact⟨ws,bc,KO (λvs=>h _) aj⟩
  ·exact aj.elim
def mS.ag3{X:c3}{a':List ResultVar}{post:Value->aH->List aE->Prop}:∀ e a w,mS X (KN X a' post) e a w->mS X (wc X a' post) e a w:=by
 have one:∀ a w,Sat X (KN X a' post .ret) a w->Sat X (wc X a' post .ret) a w:=by
  rintro a w⟨F,C,I,M,⟨β,af⟩,h⟩;refine⟨F,C,I,M,⟨β,af⟩,KO (λvs aj=>?_) h⟩;have eF:mm I M:=⟨af.holds.d,af.holds.b3⟩
  match vs,aj with
  |[v],aj=>exact aj eF| [],aj=>exact aj eF| _::_::_,aj=>exact aj eF
 intro e a w h;cases e with
 |normal=>exact one a w h| ret=>exact one a w h| exit id=>obtain⟨F,C,I,M,af,ae⟩:=h;exact ae.elim
 |goto l=>obtain⟨F,C,I,M,af,ae⟩:=h;exact ae.elim
 |panic _=>exact h| outgrown=>exact h
def ag4{E:Env}(gC:List Nat)(aN:cW P E)(aB:P.funcs[f]?=some fn)(ag:fn.body=some c)(aD:(fn.name == "runtime.NumGoroutine")=false)
 (bg:(codeOk fn.ntmps c&&Nat.ble args.length fn.ntmps)=true) {I:aH} {M:List aE} {post:Value->aH->List aE->Prop}
  (h:∀ B ay,V ⟨P,E,gC,fn.ntmps,B,ay,I,M.map (·.num),none⟩ c (xP args) (λ_=>none) I M (KN ⟨P,E,gC,fn.ntmps,B,ay,I,M.map (·.num),none⟩ fn.results.toList post)) :
  v7 P f args I M post:=
 O0 gC aN aB ag aD bg λB ay a w af=>by rw[cB]at bg;exact wpIn_mono (rf aN c bg.1 af (h B ay)) mS.ag3
def xQ{E:Env}(gC:List Nat)(aN:cW P E)(aB:P.funcs[f]?=some fn)(ag:fn.body=some c)(aD:(fn.name == "runtime.NumGoroutine")=false)
 (bg:(codeOk fn.ntmps c&&Nat.ble args.length fn.ntmps)=true) {I:aH} {M:List aE} {post:Value->aH->List aE->Prop}
  (h:∀ B ay,V ⟨P,E,gC,fn.ntmps,B,ay,I,M.map (·.num),none⟩ c (xP args) (λ_=>none) I M (KN ⟨P,E,gC,fn.ntmps,B,ay,I,M.map (·.num),none⟩ fn.results.toList post)) :
  Spec P f args I M post:=.inl (ag4 gC aN aB ag aD bg h)
def O1:Value->Value->Bool
 | .bool a,.bool b=>a == b| .int k n,.int fL m=>IntKind.lS k fL&&decide (n=m)| .string s,.string t=>decide (s.data.toList=t.data.toList)| .pointer none,.pointer none=>true| .slice none 0 0,.slice none 0 0=>true| .map none,.map none=>true| .nilFunc,.nilFunc=>true| .nilIface,.nilIface=>true| _,_=>false
def ag5:∀ {a b:Value},O1 a b=true->a=b:=by
 intro a b h;unfold O1 at h;split at h
 ·simp at h;rw[h]
 ·simp only[cB,h6]at h;rw[IntKind.DW h.1,h.2]
 ·rename_i s t;simp only[h6]at h;have:s=t:=by cases s;cases t;simp only[ByteArray.mk.injEq];exact gX h
  rw[this]
 all_goals first | rfl | cases h
def KP:List Value->List Value->Bool
 |[],[]=>true| a::as,b::cz=>O1 a b&&KP as cz| _,_=>false
def V4:∀ {a b:List Value},KP a b=true->a=b
 |[],[],_=>rfl| a::as,b::cz,h=>by simp only[KP,cB]at h;rw[ag5 h.1,V4 h.2]
 |[],_::_,h=>by cases h
 |_::_,[],h=>by cases h
def O2(P:Program)(t:Nat)(i:ea):Bool:=
 (match P.info? t with
 |some inf=>decide (inf.size=i.size)&&decide (inf.bytes=i.bytes)&&(match inf.zero with
  |some z=>KP z.cells.toList i.zero| none=>false)
 |none=>false) &&
 (match P.underlying t with
 |some d=>decide (fr d=i.bP)| none=>false)&&fK i.zero&&decide (i.zero.length=i.size)&&(i.bP.agg||decide (i.size=1))
def ag6{t:Nat}{i:ea}(h:O2 P t i=true):kn P t i:=by
 simp only[O2,cB]at h;obtain⟨⟨⟨⟨aa,ad⟩,ak⟩,aK⟩,bz⟩:=h;refine⟨?_,?_,zq ak,cJ aK,λa7=>?_⟩
 ·split at aa
  ·rename_i inf hi;simp only[cB,h6]at aa;obtain⟨⟨aI,a6⟩,cq⟩:=aa;split at cq
   ·rename_i z bb;exact⟨inf,z,hi,aI,a6,bb,V4 cq⟩
   ·cases cq
  ·cases aa
 ·split at ad
  ·rename_i d ah;exact⟨d,ah,cJ ad⟩
  ·cases ad
 ·rw[a7]at bz;simpa using bz
def ag7{E:Env}(n:Nat)(aD:∀ t,n<=t->E t=none)(h:((List.range n).all λt=>match E t with
  |some i=>O2 P t i| none=>true)=true):cW P E:=by
 intro t i hi;by_cases aq:t<n
 ·have:=fS.1 h t (j9.2 aq);rw[hi]at this;exact ag6 this
 ·rw[aD t (by omega)]at hi;cases hi
end Go.V
namespace Go.V
variable{a:Act}{c:Code}{foot:List Nat}{P:Program}{f off T sz hS e n m ga cQ ef eD hb lh ml nB oA qh sk uB xB BE GB:Nat}{args vs z:List Value}{v:Value}{w' w:World}{cs:Array Value}{an:Nat×Nat}{R:Ending->World->Prop}{next:Act->World->Prop}{aM:Addr}{gk:IntKind}{ops:Array Oper}{fn:Func}
def xR{F:Fr}:ll F [(ga,F ga),(cQ,F cQ)]:=.cons .refl (.cons .refl (.nil))
def fG{F:Fr}:ll F [(ga,F ga),(cQ,F cQ),(ef,F ef)]:=.cons .refl (.cons .refl (.cons .refl (.nil)))
def ee{F:Fr}:ll F [(ga,F ga),(cQ,F cQ),(ef,F ef),(eD,F eD)]:=.cons .refl (.cons .refl (.cons .refl (.cons .refl (.nil))))
def hx{F:Fr}:ll F [(ga,F ga),(cQ,F cQ),(ef,F ef),(eD,F eD),(hb,F hb)]:=.cons .refl (.cons .refl (.cons .refl (.cons .refl (.cons .refl (.nil)))))
def zz{F:Fr}:ll F [(ga,F ga),(cQ,F cQ),(ef,F ef),(eD,F eD),(hb,F hb),(lh,F lh)]:=.cons .refl (.cons .refl (.cons .refl (.cons .refl (.cons .refl (.cons .refl (.nil))))))
def rh{F:Fr}:ll F [(ga,F ga),(cQ,F cQ),(ef,F ef),(eD,F eD),(hb,F hb),(lh,F lh),(ml,F ml)]:=.cons .refl (.cons .refl (.cons .refl (.cons .refl (.cons .refl (.cons .refl (.cons .refl (.nil)))))))
def kN{F:Fr}:ll F [(ga,F ga),(cQ,F cQ),(ef,F ef),(eD,F eD),(hb,F hb),(lh,F lh),(ml,F ml),(nB,F nB)]:=.cons .refl (.cons .refl (.cons .refl (.cons .refl (.cons .refl (.cons .refl (.cons .refl (.cons .refl (.nil))))))))
def lV{F:Fr}:ll F [(ga,F ga),(cQ,F cQ),(ef,F ef),(eD,F eD),(hb,F hb),(lh,F lh),(ml,F ml),(nB,F nB),(oA,F oA)]:=.cons .refl (.cons .refl (.cons .refl (.cons .refl (.cons .refl (.cons .refl (.cons .refl (.cons .refl (.cons .refl (.nil)))))))))
def uL{F:Fr}:ll F [(ga,F ga),(cQ,F cQ),(ef,F ef),(eD,F eD),(hb,F hb),(lh,F lh),(ml,F ml),(nB,F nB),(oA,F oA),(qh,F qh)]:=.cons .refl (.cons .refl (.cons .refl (.cons .refl (.cons .refl (.cons .refl (.cons .refl (.cons .refl (.cons .refl (.cons .refl (.nil))))))))))
def GV{F:Fr}:ll F [(ga,F ga),(cQ,F cQ),(ef,F ef),(eD,F eD),(hb,F hb),(lh,F lh),(ml,F ml),(nB,F nB),(oA,F oA),(qh,F qh),(sk,F sk)]:=.cons .refl (.cons .refl (.cons .refl (.cons .refl (.cons .refl (.cons .refl (.cons .refl (.cons .refl (.cons .refl (.cons .refl (.cons .refl (.nil)))))))))))
def KQ{F:Fr}:ll F [(ga,F ga),(cQ,F cQ),(ef,F ef),(eD,F eD),(hb,F hb),(lh,F lh),(ml,F ml),(nB,F nB),(oA,F oA),(qh,F qh),(sk,F sk),(uB,F uB)]:=.cons .refl (.cons .refl (.cons .refl (.cons .refl (.cons .refl (.cons .refl (.cons .refl (.cons .refl (.cons .refl (.cons .refl (.cons .refl (.cons .refl (.nil))))))))))))
def V5{F:Fr}:ll F [(ga,F ga),(cQ,F cQ),(ef,F ef),(eD,F eD),(hb,F hb),(lh,F lh),(ml,F ml),(nB,F nB),(oA,F oA),(qh,F qh),(sk,F sk),(uB,F uB),(xB,F xB)]:=.cons .refl (.cons .refl (.cons .refl (.cons .refl (.cons .refl (.cons .refl (.cons .refl (.cons .refl (.cons .refl (.cons .refl (.cons .refl (.cons .refl (.cons .refl (.nil)))))))))))))
def GW{F:Fr}:ll F [(ga,F ga),(cQ,F cQ),(ef,F ef),(eD,F eD),(hb,F hb),(lh,F lh),(ml,F ml),(nB,F nB),(oA,F oA),(qh,F qh),(sk,F sk),(uB,F uB),(xB,F xB),(BE,F BE)]:=.cons .refl (.cons .refl (.cons .refl (.cons .refl (.cons .refl (.cons .refl (.cons .refl (.cons .refl (.cons .refl (.cons .refl (.cons .refl (.cons .refl (.cons .refl (.cons .refl (.nil))))))))))))))
def ag8{F:Fr}:ll F [(ga,F ga),(cQ,F cQ),(ef,F ef),(eD,F eD),(hb,F hb),(lh,F lh),(ml,F ml),(nB,F nB),(oA,F oA),(qh,F qh),(sk,F sk),(uB,F uB),(xB,F xB),(BE,F BE),(GB,F GB)]:=.cons .refl (.cons .refl (.cons .refl (.cons .refl (.cons .refl (.cons .refl (.cons .refl (.cons .refl (.cons .refl (.cons .refl (.cons .refl (.cons .refl (.cons .refl (.cons .refl (.cons .refl (.nil)))))))))))))))
def avg{F:Fr}{V6:Nat}:ll F [(ga,F ga),(cQ,F cQ),(ef,F ef),(eD,F eD),(hb,F hb),(lh,F lh),(ml,F ml),(nB,F nB),(oA,F oA),(qh,F qh),(sk,F sk),(uB,F uB),(xB,F xB),(BE,F BE),(GB,F GB),(V6,F V6)]:=.cons .refl (.cons .refl (.cons .refl (.cons .refl (.cons .refl (.cons .refl (.cons .refl (.cons .refl (.cons .refl (.cons .refl (.cons .refl (.cons .refl (.cons .refl (.cons .refl (.cons .refl (.cons .refl (.nil))))))))))))))))
end Go.V
