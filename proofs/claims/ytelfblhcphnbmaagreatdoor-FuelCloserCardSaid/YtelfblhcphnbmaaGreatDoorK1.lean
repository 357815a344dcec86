/- Part 1 of what the proofs of this seat share: the executor, data in memory, walks.
-/
import Derived.WalkKit
import Derived.RangeFuncRecord
import Derived.OrdersIn
import Derived.Lib.UnsafeStr
set_option linter.all false
namespace Go.V
open Go
def bk:=@Nat.le_of_ble_eq_true
def bd:=@Result.andThen_ok
def bs:=@Bool.and_eq_true
def cb:=@Nat.eq_of_beq_eq_true
def c1:=@List.getD_eq_getElem?_getD
def bo:=@Sem.run_bind
def bj:=@cond_false
def bR:=@Sem.run_pure
def bn:=@cond_true
def fe:=@List.drop_eq_getElem_cons
def cC:=@List.map_cons
def c8:=@List.length_cons
def c9:=@List.mem_append
def gf:=@List.getElem?_eq_some_iff
def cU:=@List.mem_cons
def cK:=@Nat.le_refl
def hU:=@Array.getElem?_eq_some_iff
def e3:=@decide_eq_true_eq
def eO:=@List.all_eq_true
def jt:=@Array.getD_eq_getD_getElem?
def hV:=@World.putObj_heap_other
def dw:=@List.mem_map
def l7:=@List.take_succ_eq_append_getElem
def gG:=@Bool.false_eq_true
def kA:=@List.getElem?_append_left
def hW:=@List.getElem?_take
def hr:=@Option.some.injEq
def dT:=@Array.ext'
def hX:=@of_decide_eq_true
def gX:=@Option.map_some
def gY:=@Bool.or_eq_true
def hs:=@Option.getD_some
def jX:=@Nat.mul_le_mul_right
def ju:=@List.mem_singleton
def cd:=@if_neg
def ck:=@if_pos
def nU:=@Option.map_eq_some_iff
def ll:=@Int.toNat_natCast
def ln:=@Bool.not_eq_true'
def l8:=@List.getElem?_drop
def kB:=@List.nodup_cons
def kC:=@List.map_append
def jY:=@List.mem_range
def mU:=@List.size_toArray
def iQ:=@Nat.le_trans
def tD:=@Array.getElem?_setIfInBounds
def mV:=@Option.getD_none
def kD:=@Nat.add_assoc
def l9:=@Oper.wpIn_mono
def rR:=@List.getElem?_toArray
def rS:=@List.mem_of_getElem?
def vD:=@Classical.byContradiction
def tE:=@List.getElem?_eq_none
def g9:=@if_false
def nV:=@ByteArray.ext
def nW:=@Bool.not_true
def mW:=@Nat.add_zero
def qi:=@Nat.min_eq_left
def qj:=@Option.map_none
def yD:=@Option.ne_none_iff_exists'
def vE:=@List.length_filter_le
def vF:=@List.mem_append_left
def tF:=@List.nodup_append
def rT:=@Bool.eq_iff_iff
def yE:=@List.getElem?_cons_succ
def rU:=@World.alloc_eq
def yF:=@ByteArray.data_extract
def vG:=@List.getElem?_map
def rV:=@Bool.false_or
def Bl:=@Array.getElem?_eq_getElem
def tG:=@List.nodup_nil
def vH:=@beq_self_eq_true
def yG:=@Nat.testBit_two_pow
def vI:=@List.foldl_cons
def yH:=@Nat.lt_of_lt_of_le
def Bm:=@Option.bind_eq_some_iff
def vJ:=@List.mem_filter
def kE:=@if_true
def vK:=@List.mapM_cons
def yI:=@Nat.lt_succ_self
def yJ:=@List.filter_cons
def Bn:=@List.range_eq_range'
def l':=@Ne.symm
def Bo:=@List.toList_toArray
def Bp:=@Array.foldl_toList
def Bq:=@Option.isSome_none
def GC:=@Array.mapM_eq_mapM_toList
def yK:=@Nat.testBit_or
def yL:=@Oper.semAt_eq
def yM:=@Nat.add_comm
variable{a:Act}{c:Code}{bA:List Nat}{P:Program}{f off T sz eW e n m dp bK cm cn dD gH g' hY iR jZ lp mX pe rW vL:Nat}{args vs z:List Value}{v:Value}{w' w:World}{dst:Option Nat}{cs:Array Value}{ah:Nat×Nat}{R:Ending->World->Prop}{next:Act->World->Prop}{ad:Addr}{dq:IntKind}{other:Prop}{ops:List Oper}{lq:Fence}{Q:Exit->Act->World->Prop}{fn:Func}{soft ez:Bool}{op:Op}{listed:Array Bool}{A:Array Oper}
inductive vM where
 |other | int (k:IntKind) | bool | string | slice (e:Nat) | array (n e:Nat) | struct (bB:List (Nat×Nat)) | map (k e:Nat) | pointer (e:Nat)
 deriving DecidableEq
def dh:TypeDesc->vM
 | .int k=>.int k| .bool=>.bool| .string=>.string| .slice e=>.slice e| .array n e=>.array n e| .struct bB=>.struct (bB.toList.map λf=>(f.type,f.offset))| .map k e=>.map k e| .pointer e=>.pointer e| _=>.other
def vM.agg:vM->Bool
 | .struct _ | .array ..=>true| _=>false
structure cF where
 size:Nat
 bytes:Nat
 zero:List Value
 bc:vM
structure gg(P:Program)(t:Nat)(i:cF):Prop where
 inf:∃ inf z,P.info? t=some inf/\inf.size=i.size/\inf.bytes=i.bytes/\inf.zero=some z/\z.cells.toList=i.zero
 dr:∃ d,P.underlying t=some d/\dh d=i.bc
 one:∀ v∈i.zero,v.oneCell'=true
 len:i.zero.length=i.size
 Br:i.bc.agg=false->i.size=1
abbrev Env:=Nat->Option cF
def bV(P:Program)(E:Env):Prop:=∀ t i,E t=some i->gg P t i
inductive b0 where
 |val(v:Value)| lit (b:Bool)| ref (s off:Nat)| hZ
abbrev Fr:=Nat->b0
abbrev b6:=Nat->Option (List Value)
abbrev aG:=Nat->Option Obj
structure aC where
 num:Nat
 obj:Obj
abbrev dE:=Fr->b6->aG->List aC->Prop
def dK(F:Fr)(d:Nat)(x:b0):Fr:=λt=>bif Nat.beq t d then x else F t
def fs(C:b6)(d:Nat)(x:Option (List Value)):b6:=λt=>bif Nat.beq t d then x else C t
def j0(F:Fr)(d:Nat):Fr:=λt=>match F t with
 | .ref s o=>bif Nat.beq s d then .hZ else .ref s o| x=>x
def put(o:Option Nat)(x:b0)(F:Fr):Fr:=match o with
 |some d=>dK F d x| none=>F
def bZ(F:Fr):Operand->b0
 | .tmp t=>F t| .const (.bool b)=>.lit b| .const v=>.val v| .global g=>.val (.pointer (some ⟨g,0,none⟩))| .func f=>.val (.func (.func f) #[] #[])
def cf(ρ:Operand->b0)(x:Operand):b0:=match ρ x with
 | .lit b=>.val (.bool b)| y=>y
abbrev a'(F:Fr):Operand->b0:=cf (bZ F)
def pack(agg:Bool)(vs:List Value):Value:=bif agg then .agg vs.toArray else vs.headD undef
def bt(cs:List Value)(off:Nat)(vs:List Value):List Value:=cs.take off++vs++cs.drop (off+vs.length)
def eP(vs:List Value):Bool:=vs.all (·.oneCell')
def yN(c:Bool):b0->b0->b0
 | .val (.bool x),.val (.bool y)=>.val (.bool (bif c then x else y))| .val x,.val y=>.val (bif c then x else y)| _,_=>.hZ
def pf(op:BinOp)(x y:Int):Option Bool:=match op with
 | .eql=>some (decide (x=y))| .neq=>some (!decide (x=y))| .lss=>some (decide (x<y))| .leq=>some (decide (x<=y))| .gtr=>some (decide (y<x))| .geq=>some (decide (y<=x))| _=>none
def mY(op:BinOp)(k:IntKind)(x y:Int):Option Int:=
 let a:=BitVec.ofInt k.bits x
 let b:=BitVec.ofInt k.bits y
 match op with
 | .and=>some (k.wrap (a &&& b).toNat)| .or=>some (k.wrap (a ||| b).toNat)| .xor=>some (k.wrap (a ^^^ b).toNat)| .andNot=>some (k.wrap (a &&& ~~~b).toNat)| _=>none
def e4(I:aG)(M:List aC)(b:Nat)(o:Obj):Prop:=I b=some o\/∃ x∈M,x.num=b/\x.obj=o
def cx(I:aG)(M:List aC)(a:Addr)(n:Nat)(vs:List Value):Prop:=
 a.spot=none/\∃ cs T ah,e4 I M a.block (.cells cs T ah)/\(cs.toList.drop a.off).take n=vs/\vs.length=n
inductive ba(I:aG)(M:List aC)(a:Addr)(n:Nat)(K:List Value->Prop):Prop
 |mk(vs:List Value)(h:cx I M a n vs)(k:K vs)
inductive df(M:List aC)(a:Addr)(vs:List Value)(K:List aC->Prop):Prop
 |mk(pre post:List aC)(cs:Array Value)(T:Nat)(aZ:M=pre++⟨a.block,.cells cs T (0,0)⟩::post)(an:a.spot=none)(ag:a.off+vs.length<=cs.size)(U:eP vs=true)(k:K (pre++⟨a.block,.cells (bt cs.toList a.off vs).toArray T (0,0)⟩::post))
inductive eA(I:aG)(M:List aC)(K:Nat->Prop):Prop
 |mk(k:∀ b,I b=none->(∀ x∈M,x.num≠b)->K b)
inductive c2(a:Option Addr)(n sz:Nat)(k:Int)(K:Addr->Prop):Prop
 |mk(ad:Addr)(j:Nat)(aN:a=some ad)(aj:k=(j:Int))(ap:j<n)(h:K (ad.add (j*sz)))
inductive eo(n:Nat)(k:Int)(K:Nat->Prop):Prop
 |mk(j:Nat)(aj:k=(j:Int))(ap:j<n)(h:K j)
inductive rX(s:ByteArray)(k:Int)(K:UInt8->Prop):Prop
 |mk(j:Nat)(aj:k=(j:Int))(ap:j<s.size)(h:K s[j])
inductive bp(k:IntKind)(n:Int)(K:Int->Prop):Prop
 |mk(r:Int)(h:k.wrap n=r)(aP:K r)
inductive qk(y:Int)(K:Prop):Prop
 |mk(h:y≠0)(aP:K)
inductive yO(y:Int)(K:Nat->Prop):Prop
 |mk(j:Nat)(h:y=(j:Int))(aP:K j)
inductive a1(c:Bool)(X Y:Prop):Prop
 |mk(h:c=true->X)(aP:c=false->Y)
inductive yP(l c:Int)(bytes:Nat)(K:Nat->Nat->Prop):Prop
 |mk(n m:Nat)(au:l=(n:Int))(aB:c=(m:Int))(h:n<=m)(ag:bytes*m<=140737488355328)(hm:m<=9223372036854775807)(k:K n m)
inductive h0(n c:Nat)(lo hi:Option Int)(K:Nat->Nat->Prop):Prop
 |mk(l h:Nat)(dx:lo.getD 0=(l:Int))(dU:hi.getD n=(h:Int))(U:l<=h)(aa:h<=c)(k:K l h)
structure cL(I:aG)(M:List aC)(w:World):Prop where
 i:∀ b o,I b=some o->w.heap[b]?=some o
 m:∀ x∈M,w.heap[x.num]?=some x.obj
 d:∀ x∈M,I x.num=none
 bH:(M.map (·.num)).Nodup
def iS(w w':World):Prop:=w'.os=w.os/\w'.output=w.output
def iS.refl(w:World):iS w w:=⟨rfl,rfl⟩
def iS.trans{a b c:World}(h:iS a b)(aP:iS b c):iS a c:=⟨aP.1.trans h.1,aP.2.trans h.2⟩
structure Kept(I:aG)(M:List aC)(w:World)(I':aG)(M':List aC)(w':World):Prop where
 le:∀ b o,I b=some o->I' b=some o
 nX:∀ b o,I' b=some o->I b=some o\/w.heap.size<=b
 pg:∀ x∈M',(∃ y∈M,y.num=x.num)\/w.heap.size<=x.num
 cp:∀ b,b<w.heap.size->(∀ y∈M,y.num≠b)->w'.heap[b]?=w.heap[b]?
 out:iS w w'
 sz:w.heap.size<=w'.heap.size
def Bs(P:Program)(f:Nat):Prop:=∀ (args:Array Value) (w:World),(callFunc f args).run P w=.ok (.enter f args) w
def ql(P:Program)(f:Nat)(args:List Value)(I:aG)(M:List aC)(post:Value->aG->List aC->Prop):Prop:=
 Bs P f/\∀ w,cL I M w->Calls P f args.toArray w λe w'=>∃ v I' M',e=.returned v/\post v I' M'/\cL I' M' w'/\Kept I M w I' M' w'
def Ny(P:Program)(f:Nat)(args:List Value)(I:aG)(M:List aC)(post:Value->aG->List aC->Prop):Prop:=
 ∀ w,cL I M w->∃ v w' I' M',(callFunc f args.toArray).run P w=.ok (.value v) w'/\post v I' M'/\cL I' M' w'/\Kept I M w I' M' w'
def Spec(P:Program)(f:Nat)(args:List Value)(I:aG)(M:List aC)(post:Value->aG->List aC->Prop):Prop:=ql P f args I M post\/Ny P f args I M post
def ins(I:aG)(b:Nat)(o:Obj):aG:=λx=>bif Nat.beq x b then some o else I x
inductive ht(bA:List Nat):aG->List aC->aG->List aC->Prop
 |refl{I M}:ht bA I M I M| sub {I M M1 I' M'} (h:List.Sublist M1 M) (k:ht bA I M1 I' M'):ht bA I M I' M'| perm {I M M1 I' M'} (h:M.Perm M1) (k:ht bA I M1 I' M'):ht bA I M I' M'| vN {I M I' M' b o post} (h:M=⟨b,o⟩::post) (az:b ∉ bA) (k:ht bA (ins I b o) post I' M'):ht bA I M I' M'
structure ph(I:aG)(M:List aC):Prop where
 d:∀ x∈M,I x.num=none
 bH:(M.map (·.num)).Nodup
inductive aY(bA:List Nat)(P:Program)(f:Nat)(args:List Value)(I:aG)(M:List aC)(K:Value->aG->List aC->Prop):Prop
 |mk(b4 Mr:List aC)(post:Value->aG->List aC->Prop)(aZ:M.Perm (b4++Mr))(an:Spec P f args I b4 post)(k:∀ v I' M',(∀ b o,I b=some o->I' b=some o)->post v I' M'->K v I' (M'++Mr))| Bt (b4 Mr:List aC) (post:Value->aG->List aC->Prop) (aZ:M.Perm (b4++Mr)) (an:Spec P f args I b4 post) (k:∀ v I' M',(∀ b o,I b=some o->I' b=some o)->(∀ x∈M'++Mr,I' x.num=none)->post v I' M'->K v I' (M'++Mr))| GD (ct:aG) (b4 Mr:List aC) (post:Value->aG->List aC->Prop) (hw:ht bA I M ct (b4++Mr)) (an:Spec P f args ct b4 post) (k:∀ v I' M',(∀ b o,ct b=some o->I' b=some o)->(∀ x∈M'++Mr,I' x.num=none)->post v I' M'->K v I' (M'++Mr))| Bu (h:ph I M->aY bA P f args I M K)
def aY.elim{I:aG}{M:List aC}{K:Value->aG->List aC->Prop}(tH:ph I M)(h:aY bA P f args I M K) :
  ∃ (ct:aG) (b4 Mr:List aC) (post:Value->aG->List aC->Prop),ht bA I M ct (b4++Mr)/\Spec P f args ct b4 post/\∀ v I' M',(∀ b o,ct b=some o->I' b=some o)->(∀ x∈M'++Mr,I' x.num=none)->post v I' M'->K v I' (M'++Mr):=by
 induction h with
 |mk b4 Mr post aZ an k=>exact⟨I,b4,Mr,post,.perm aZ .refl,an,λv I' M' U _ aa=>k v I' M' U aa⟩| Bt b4 Mr post aZ an k=>exact⟨I,b4,Mr,post,.perm aZ .refl,an,k⟩| GD ct b4 Mr post hw an k=>exact⟨ct,b4,Mr,post,hw,an,k⟩| Bu h aX=>exact aX tH
structure bO where
 P:Program
 E:Env
 eX:List Nat
 n:Nat
 B:Nat
 aD:World
 cg:aG
 bA:List Nat
 ro:Option Nat
def dV(X:bO):Fence:={ Fence.wide with round:=X.ro }
def cI(β:Nat->Nat):b0->Value->Prop
 | .val v,u=>u=v| .lit b,u=>u=.bool b| .ref s off,u=>u=.pointer (some ⟨β s,off,none⟩)| .hZ,_=>True
structure pi(X:bO)(w:World)(I:aG)(M:List aC)(b:Nat)(cs:List Value):Prop where
 at_:∃ T,w.heap[b]?=some (.cells cs.toArray T (0,0))
 base:X.B<=b
 fM:I b=none
 cM:∀ x∈M,x.num≠b
structure nY(X:bO)(w:World)(I:aG)(M:List aC)(r:Nat):Prop where
 at_:w.heap[r]?=some (.deferred (some []))
 base:X.B<=r
 fM:I r=none
 cM:∀ x∈M,x.num≠r
def pj(r:Nat):Deferred:={ target:=.collected r,args:=#[] }
def Marks(X:bO)(a:Act)(w:World)(I:aG)(M:List aC):Prop:=∃ aV:List Nat,a.defers=aV.map pj/\aV.Nodup/\∀ r∈aV,nY X w I M r
structure bE(X:bO)(β:Nat->Nat)(a:Act)(w:World)(F:Fr)(C:b6)(I:aG)(M:List aC):Prop where
 size:a.tmps.size=X.n
 defers:Marks X a w I M
 holds:cL I M w
 ah:∀ t,cI β (F t) (a.tmps.getD t undef)
 bq:∀ s cs,C s=some cs->pi X w I M (β s) cs
 inj:∀ s bx,C s≠none->C bx≠none->β s=β bx->s=bx
 eg:∀ b o,X.cg b=some o->I b=some o
 eB:∀ b o,I b=some o->X.cg b=some o\/X.B<=b
 own:∀ x∈M,x.num∈X.bA\/X.B<=x.num
 cp:∀ b,b<X.B->b ∉ X.bA->w.heap[b]?=X.aD.heap[b]?
 out:iS X.aD w
 sz:X.B<=w.heap.size
def Rel(X:bO)(a:Act)(w:World)(F:Fr)(C:b6)(I:aG)(M:List aC):Prop:=∃ β,bE X β a w F C I M
def Sat(X:bO)(K:dE)(a:Act)(w:World):Prop:=∃ F C I M,Rel X a w F C I M/\K F C I M
inductive a9(X:bO)(o:Oper)(F:Fr)(C:b6)(I:aG)(M:List aC)(K:dE):Prop
 |mk(h:∀ a w Q,Rel X a w F C I M->o.wpIn (dV X) 0 X.P a w (Sat X K) Q)
def fN(ρ:Operand->b0):List Operand->Option (List Value)
 |[]=>some []
 |x::xs=>match cf ρ x,fN ρ xs with
  | .val v,some vs=>some (v::vs)| _,_=>none
abbrev hv(F:Fr):List Operand->Option (List Value):=fN (bZ F)
def ma(place:Nat->Option (Nat×Nat))(cells:List Value):List (Nat×Value)->Option (List Value)
 |[]=>some cells
 |(i,v)::rest=>match place i with
  |none=>none| some (off,size)=>bif Nat.beq v.cells.size size&&Nat.ble (off+size) cells.length then ma place (bt cells off v.cells.toList) rest else none
def mb(ρ:Operand->b0):List (Nat×Operand)->Option (List (Nat×Value))
 |[]=>some []
 |(i,x)::xs=>match cf ρ x,mb ρ xs with
  | .val v,some vs=>some ((i,v)::vs)| _,_=>none
abbrev rY(F:Fr):List (Nat×Operand)->Option (List (Nat×Value)):=mb (bZ F)
def places(E:Env)(bB:List (Nat×Nat))(i:Nat):Option (Nat×Nat):=match bB[i]? with
 |some (hx,off)=>match E hx with
  |some eh=>some (off,eh.size)| none=>none
 |none=>none
def tI(E:Env)(bB:List (Nat×Nat)):Bool:=bB.all λf=>(E f.1).isSome
def rowOf(zero:List Value)(n:Nat):List Value:=(List.range n).map λi=>zero[i%zero.length]!
def tJ(zero:List Value)(n:Nat):rowOf zero n=(madeCells zero.toArray n).toList:=by simp[rowOf,madeCells]
def IntKind.hy:IntKind->IntKind->Bool
 | .i8,.i8 | .i16,.i16 | .i32,.i32 | .i64,.i64 | .u8,.u8 | .u16,.u16 | .u32,.u32 | .u64,.u64=>true| _,_=>false
def gZ(op:BinOp)(cA:Option cF)(x y:b0)(K:Value->Prop)(other:Prop):Prop:=
 match x,y with
 | .val (.int k a),.val (.int cG b)=>
  match op with
  | .shl=>yO b λj=>bp k (a*2^(min j k.bits)) λr=>K (.int k r)
  | .shr=>yO b λj=>K (.int k (a.fdiv (2^(min j k.bits))))
  |op=>bif IntKind.hy k cG then
    (match op with
    | .add=>bp k (a+b) λr=>K (.int k r)
    | .sub=>bp k (a-b) λr=>K (.int k r)
    | .mul=>bp k (a*b) λr=>K (.int k r)
    | .quo=>qk b (bp k (a.tdiv b) λr=>K (.int k r))| .rem=>qk b (K (.int k (a.tmod b)))
    | .and | .or | .xor | .andNot=>(match mY op k a b with
     |some r=>K (.int k r)| none=>False)
    |op=>(match pf op a b with
     |some r=>K (.bool r)| none=>False))
   else False
 | .val (.string a),.val (.string b)=>
  match op with
  | .eql=>K (.bool (decide (a=b)))| .neq=>K (.bool (!decide (a=b)))| _=>other
 | .val (.bool a),.val (.bool b)=>
  match cA with
  |some { bc:=.bool,.. }=>
   (match op with
   | .eql=>K (.bool (a == b))| .neq=>K (.bool (!(a == b)))| _=>other)
  |_=>other
 |_,_=>other
inductive eI(P:Program)(op:BinOp)(t:Nat)(x y:Operand)(p q:b0)(K:Value->Prop)(other:Prop):Prop
 |mk(h1 c4 v:Value)(aK:p=.val h1)(aR:q=.val c4)(h:∀ w,(do eqGuard op t x y h1 c4;binOp op t h1 c4:Sem Value).run P w=.ok v w)(k:K v)| other (h:other)
def bw(X:bO)(op:Op)(ρ:Operand->b0)(C:b6)(I:aG)(M:List aC)(V:b0->Prop)(other:Prop):Prop:=
 match op with
 | .move x | .assign x=>V (ρ x)
 | .pick c a b=>
  match ρ c with
  | .lit c=>V (bif c then ρ a else ρ b)| .val (.bool c)=>V (yN c (cf ρ a) (cf ρ b))| _=>False
 | .unOp op _ x=>
  match op,ρ x with
  | .not,.lit b=>V (.lit (!b))| .not,.val (.bool b)=>V (.val (.bool (!b)))| .neg,.val (.int k n)=>bp k (0-n) λr=>V (.val (.int k r))
  |_,_=>other
 | .binOp op t x y _=>gZ op (X.E t) (cf ρ x) (cf ρ y) (λv=>V (.val v)) (eI X.P op t x y (cf ρ x) (cf ρ y) (λv=>V (.val v)) other)
 | .load t x=>
  match X.E t with
  |some i=>
   (match ρ x with
   | .ref s off=>
    (match C s with
    |some cs=>bif Nat.ble (off+i.size) cs.length then V (.val (pack i.bc.agg ((cs.drop off).take i.size)))else False| none=>False)
   | .val (.pointer (some a))=>ba I M a i.size λvs=>V (.val (pack i.bc.agg vs))
   |_=>False)
  |none=>False
 | .nilCheck x=>
  match ρ x with
  | .ref s off=>V (.ref s off)| .val (.pointer (some a))=>V (.val (.pointer (some a)))| _=>other
 | .fieldAddr t x i=>
  match X.E t with
  |some { bc:=.struct bB,.. }=>
   (match bB[i]? with
   |some (hx,off)=>
    (match X.E hx,ρ x with
    |some eh,.ref s o'=>bif Nat.beq eh.size 0 then False else V (.ref s (o'+off))| some eh,.val (.pointer (some a))=>bif Nat.beq eh.size 0 then False else V (.val (.pointer (some (a.add off))))| _,_=>False)
   |none=>False)
  |_=>False
 | .field t x i=>
  match X.E t,cf ρ x with
  |some { bc:=.struct bB,.. },.val (.agg cs)=>
   (match bB[i]? with
   |some (hx,off)=>
    (match X.E hx with
    |some eh=>bif Nat.ble (off+eh.size) cs.size then V (.val (pack eh.bc.agg ((cs.toList.drop off).take eh.size)))else False| none=>False)
   |none=>False)
  |_,_=>False
 | .indexAddr t x i=>
  match X.E t,cf ρ i with
  |some { bc:=.slice e,.. },.val (.int _ k)=>
   (match X.E e,cf ρ x with
   |some av,.val (.slice a n _)=>c2 a n av.size k λad=>V (.val (.pointer (some ad)))
   |_,_=>False)
  |some { bc:=.array n e,.. },.val (.int _ k)=>
   (match X.E e,ρ x with
   |some av,.ref s o'=>eo n k λj=>V (.ref s (o'+j*av.size))
   |some av,.val (.pointer (some a))=>eo n k λj=>V (.val (.pointer (some (a.add (j*av.size)))))
   |_,_=>False)
  |_,_=>False
 | .index t x i=>
  match X.E t,cf ρ x,cf ρ i with
  |some { bc:=.string,.. },.val (.string s),.val (.int _ k)=>rX s k λb=>V (.val (.int .u8 b.toNat))
  |some { bc:=.array n e,.. },.val (.agg cs),.val (.int _ k)=>
   (match X.E e with
   |some av=>bif Nat.beq (n*av.size) cs.size then eo n k λj=>V (.val (pack av.bc.agg ((cs.toList.drop (j*av.size)).take av.size)))else False
   |none=>False)
  |_,_,_=>False
 | .build t parts=>
  match X.E t,mb ρ parts.toList with
  |some i,some vs=>
   (match i.bc with
   | .struct bB=>bif tI X.E bB then(match ma (places X.E bB) i.zero vs with
    |some cells=>V (.val (.agg cells.toArray))| none=>False)else False
   | .array _ e=>(match X.E e with
    |some av=>(match ma (λj=>some (j*av.size,av.size)) i.zero vs with
     |some cells=>V (.val (.agg cells.toArray))| none=>False)
    |none=>False)
   |_=>False)
  |_,_=>False
 | .makeFunc fn first captured=>
  match fN ρ first.toList,fN ρ captured.toList with
  |some bB,some cs=>V (.val (.func fn bB.toArray cs.toArray))| _,_=>False
 | .slice t x lo hi mx=>
  match X.E t,cf ρ x,mx with
  |some { bc:=.slice e,.. },.val (.slice a n c),none=>
   (match X.E e,lo.map (cf ρ),hi.map (cf ρ)with
   |some av,none,none=>V (.val (.slice a n c))| some av,none,some (.val (.int _ h))=>h0 n c none (some h) λ_ h=>V (.val (.slice a h c))
   |some av,some (.val (.int _ l)),none=>h0 n n (some l) none λl _=>V (.val (.slice (if c=l then a else a.map (·.add (l*av.size))) (n-l) (c-l)))
   |some av,some (.val (.int _ l)),some (.val (.int _ h))=>h0 n c (some l) (some h) λl h=>V (.val (.slice (if c=l then a else a.map (·.add (l*av.size))) (h-l) (c-l)))
   |_,_,_=>False)
  |some { bc:=.string,.. },.val (.string s),none=>
   (match lo.map (cf ρ),hi.map (cf ρ)with
   |none,none=>V (.val (.string s))| none,some (.val (.int _ h))=>h0 s.size s.size none (some h) λ_ h=>V (.val (.string (s.extract 0 h)))
   |some (.val (.int _ l)),none=>h0 s.size s.size (some l) none λl _=>V (.val (.string (s.extract l s.size)))
   |some (.val (.int _ l)),some (.val (.int _ h))=>h0 s.size s.size (some l) (some h) λl h=>V (.val (.string (s.extract l h)))
   |_,_=>False)
  |_,_,_=>other
 | .extract x i=>
  match cf ρ x with
  | .val (.tuple vs)=>(match vs.toList[i]? with
   |some v=>V (.val v)| none=>False)
  |_=>False
 | .convert s d x=>
  match X.E s,X.E d,cf ρ x with
  |some _,some { bc:=.int k,.. },.val (.int _ n)=>bp k n λr=>V (.val (.int k r))
  |_,_,_=>other
 | .call { callee:=.builtin .len,args,argTypes }=>
  match argTypes.toList,fN ρ args.toList with
  |[t],some [v]=>
   (match X.E t,v with
   |some { bc:=.slice _,.. },.slice _ n _=>V (.val (.int .i64 n))| some { bc:=.string,.. },.string s=>V (.val (.int .i64 s.size))| some { bc:=.array n _,.. },_=>V (.val (.int .i64 n))| _,_=>other)
  |_,_=>other
 | .call { callee:=.builtin .cap,args,argTypes }=>
  match argTypes.toList,fN ρ args.toList with
  |[t],some [v]=>
   (match X.E t,v with
   |some { bc:=.slice _,.. },.slice _ _ c=>V (.val (.int .i64 c))| _,_=>other)
  |_,_=>other
 | .call { callee:=.builtin .max,args,.. }=>
  match fN ρ args.toList with
  |some [.int k a,.int _ b]=>V (.val (.int k (max a b)))| _=>other
 | .call { callee:=.builtin .min,args,.. }=>
  match fN ρ args.toList with
  |some [.int k a,.int _ b]=>V (.val (.int k (min a b)))| _=>other
 | .call { callee:=.builtin .unsafeSliceData,args,.. }=>
  match fN ρ args.toList with
  |some [.slice none _ _]=>V (.val (.pointer none))| some [.slice (some a) _ c]=>qk c (V (.val (.pointer (some a))))| _=>other
 |_=>other
def dW(X:bO)(o:Oper)(F:Fr)(C:b6)(I:aG)(M:List aC)(K:dE):Prop:=
 match o.op with
 | .box t x=>
  match o.dst,a' F x with
  |some d,.val v=>
   bif X.eX.contains d then eA I M λb=>K (dK (j0 F d) d (.val (.pointer (some ⟨b,0,none⟩)))) (fs C d none) I (⟨b,.cells v.cells t (0,0)⟩::M)
   else K (dK (j0 F d) d (.ref d 0)) (fs C d (some v.cells.toList)) I M
  |_,_=>False
 | .alloc t=>
  match o.dst,X.E t with
  |some d,some i=>
   bif X.eX.contains d then eA I M λb=>K (dK (j0 F d) d (.val (.pointer (some ⟨b,0,none⟩)))) (fs C d none) I (⟨b,.cells i.zero.toArray t (0,0)⟩::M)
   else K (dK (j0 F d) d (.ref d 0)) (fs C d (some i.zero)) I M
  |_,_=>False
 | .store t x y=>
  match o.dst,X.E t,a' F y with
  |none,some i,.val v=>
   (match bZ F x with
   | .ref s off=>
    (match C s with
    |some cs=>bif Nat.ble (off+i.size) cs.length&&(Nat.beq v.cells.size i.size&&eP v.cells.toList)then K F (fs C s (some (bt cs off v.cells.toList))) I M else False| none=>False)
   | .val (.pointer (some a))=>bif Nat.beq v.cells.size i.size then df M a v.cells.toList λM'=>K F C I M' else False
   |_=>False)
  |_,_,_=>False
 | .buildSlice t len parts=>
  match X.E t,rY F parts.toList with
  |some { bc:=.slice e,.. },some vs=>
   (match X.E e with
   |some av=>
    bif Nat.ble (len*av.size) 16777216&&Nat.blt 0 (len*av.size)then
     (match ma (λj=>some (j*av.size,av.size)) (rowOf av.zero (len*av.size)) vs with
     |some cells=>eA I M λb=>K (put o.dst (.val (.slice (some ⟨b,0,none⟩) len len)) F) C I (⟨b,.cells cells.toArray e (0,0)⟩::M)
     |none=>False)
    else(match len,vs with
     |0,[]=>eA I M λb=>K (put o.dst (.val (.slice (some ⟨b,0,none⟩) 0 0)) F) C I (⟨b,.cells #[] e (0,0)⟩::M)
     |_,_=>False)
   |none=>False)
  |_,_=>False
 | .makeSlice t l c=>
  match X.E t,a' F l,a' F c with
  |some { bc:=.slice e,.. },.val (.int _ l),.val (.int _ c)=>
   (match X.E e with
   |some av=>yP l c av.bytes λn m=>eA I M λb=>K (put o.dst (.val (.slice (some ⟨b,0,none⟩) n m)) F) C I (⟨b,.cells (rowOf av.zero (m*av.size)).toArray e (0,0)⟩::M)
   |none=>False)
  |_,_,_=>False
 | .call { callee:=.value f,args,.. }=>
  match a' F f,hv F args.toList with
  | .val (.func (.func g) first cap),some vs=>aY X.bA X.P g (first.toList++vs++cap.toList) I M λv I' M'=>K (put o.dst (.val v) F) C I' M'
  |_,_=>a9 X o F C I M K
 |op=>bw X op (bZ F) C I M (λx=>K (put o.dst x F) C I M) (a9 X o F C I M K)
inductive b9(c b:Bool)(Y N:Prop):Prop
 |mk(h:c=b->Y)(aP:c=!b->N)
def mZ(X:bO)(ops:List Oper):List Oper->Fr->b6->aG->List aC->dE->Prop
 |[],F,C,I,M,K=>K F C I M
 |o::rest,F,C,I,M,K=>
  match o.guard with
  |none=>dW X o F C I M λF C I M=>mZ X ops rest F C I M K
  |some (j,b)=>
   match(ops[j]?).bind (·.dst)with
   |none=>False
   |some d=>
    match F d with
    | .lit c=>bif c == b then dW X o F C I M λF C I M=>mZ X ops rest F C I M K else mZ X ops rest (put o.dst (.val undef) F) C I M K
    | .val (.bool c)=>b9 c b (dW X o (dK F d (.lit b)) C I M λF C I M=>mZ X ops rest F C I M K) (mZ X ops rest (put o.dst (.val undef) (dK F d (.lit !b))) C I M K)| .val (.tuple _)=>mZ X ops rest (put o.dst (.val undef) F) C I M K| _=>False
def eQ{a b:Nat}(h:¬ a=b):Nat.beq a b=false:=by
 cases ag:Nat.beq a b with
 |false=>rfl| true=>exact absurd (cb ag) h
def kF(a:Nat):Nat.beq a a=true:=Nat.beq_refl a
def vO(w:World)(o:Obj){i:Nat}(h:i<w.heap.size):(w.alloc o).heap[i]?=w.heap[i]?:=by show(w.heap.push o)[i]?=_;simp[Array.getElem?_push,Nat.ne_of_lt h]
def Bv(w:World)(o:Obj):(w.alloc o).heap[w.heap.size]?=some o:=by show(w.heap.push o)[w.heap.size]?=_;simp
section
variable{X:bO}{β:Nat->Nat}{a:Act}{w:World}{F:Fr}{C:b6}{I:aG}{M:List aC}{o:Oper}{Q:Exit->Act->World->Prop}{next:Act->World->Prop}{K:dE}
def pk(h:∀ t,cI β (F t) (a.tmps.getD t undef))(x:Operand):cI β (bZ F x) (a.eval x):=by
 cases x with
 |tmp t=>exact h t| const v=>cases v<;>exact rfl
 |global g=>exact rfl| func f=>exact rfl
def b1(h:∀ t,cI β (F t) (a.tmps.getD t undef)){x:Operand}(ab:a' F x=.val v):a.eval x=v:=by
 have U:=pk h x;unfold a' cf at ab;split at ab
 ·rename_i b ag;rw[ag]at U;cases ab;exact U
 ·rw[ab]at U;exact U
def m0(h:∀ t,cI β (F t) (a.tmps.getD t undef)){x:Operand}(ab:bZ F x=.val v):a.eval x=v:=by have U:=pk h x;rw[ab]at U;exact U
def Bw(h:∀ t,cI β (F t) (a.tmps.getD t undef)){x:Operand}{b:Bool}(ab:bZ F x=.lit b):a.eval x=.bool b:=by have U:=pk h x;rw[ab]at U;exact U
def rZ(h:∀ t,cI β (F t) (a.tmps.getD t undef)){x:Operand}{s:Nat}(ab:bZ F x=.ref s off):a.eval x=.pointer (some ⟨β s,off,none⟩):=by have U:=pk h x;rw[ab]at U;exact U
def GF(h:∀ t,cI β (F t) (a.tmps.getD t undef))(x:Operand):cI β (a' F x) (a.eval x):=by
 have U:=pk h x;unfold a' cf;split
 ·rename_i b ag;rw[ag]at U;exact U
 ·exact U
def mc(h:∀ t,cI β (F t) (a.tmps.getD t undef)):∀ {xs:List Operand} {vs:List Value},hv F xs=some vs->xs.map a.eval=vs
 |[],vs,ab=>by simp[hv,fN]at ab;simp[ab]
 |x::xs,vs,ab=>by
  unfold hv fN at ab;split at ab;·rename_i v me U aa;cases ab;simp[b1 h U,mc h aa]
  ·cases ab
def yQ(h:∀ t,cI β (F t) (a.tmps.getD t undef)):∀ {xs:List (Nat×Operand)} {vs:List (Nat×Value)},rY F xs=some vs->(xs.map λ(i,x)=>(i,a.eval x))=vs
 |[],vs,ab=>by simp[rY,mb]at ab;simp[ab]
 |(i,x)::xs,vs,ab=>by
  unfold rY mb at ab;split at ab;·rename_i v me U aa;cases ab;simp[b1 h U,yQ h aa]
  ·cases ab
def fC(bI:∀ c,o.op≠.defer c)(h:(execOp a.eval o).run X.P w=.ok (.value v) w')(aj:next (a.put o.dst v) w'):o.wpIn (dV X) 0 X.P a w next Q:=
 ⟨λ_ _=>trivial,by rw[yL _ _ _ bI,h];exact aj⟩
def tK(bI:∀ c,o.op≠.defer c)(h:(execOp a.eval o).run X.P w=.ok .skip w')(aj:next (a.put o.dst undef) w'):o.wpIn (dV X) 0 X.P a w next Q:=
 ⟨λ_ _=>trivial,by rw[yL _ _ _ bI,h];exact aj⟩
def GG(a:Act)(d t:Nat)(v:Value)(ao:d<a.tmps.size):(a.put (some d) v).tmps.getD t undef=if t=d then v else a.tmps.getD t undef:=by
 simp only[Act.put,jt,tD];by_cases h:t=d
 ·subst h;simp[ao]
 ·simp[h,l' h]
def Bx(h:∀ t,cI β (F t) (a.tmps.getD t undef)){d:Nat}{x:b0}(ao:d<a.tmps.size)(ab:cI β x v)(t:Nat):cI β (dK F d x t) ((a.put (some d) v).tmps.getD t undef):=by
 rw[GG a d t v ao];unfold dK;by_cases U:t=d
 ·subst U;simp only[kF,bn,kE];exact ab
 ·have:Nat.beq t d=false:=eQ U;simp only[this,bj,cd U];exact h t
def GH(w:World)(g:Nat)(cs:Array Value):iS w (w.setRow g cs):=by
 unfold World.setRow
 first | exact⟨rfl,rfl⟩ | (split<;>exact⟨rfl,rfl⟩)
def yR(w:World)(g:Nat)(o:Obj):iS w (w.putObj g o):=by unfold World.putObj;exact⟨rfl,rfl⟩
def Marks.mono(h:Marks X a w I M){I':aG}{M':List aC}(hm:∀ r,nY X w I M r->nY X w' I' M' r):Marks X a w' I' M':=by obtain⟨aV,U,aa,ak⟩:=h;exact⟨aV,U,aa,λr al=>hm r (ak r al)⟩
def bE.put(h:bE X β a w F C I M)(ao:∀ d,dst=some d->d<X.n){x:b0}(ab:cI β x v):bE X β (a.put dst v) w (put dst x F) C I M:=by
 cases dst with
 |none=>exact h
 |some d=>
  refine { h with size:=?_,defers:=h.defers,ah:=?_ };·simp[Act.put,h.size]
  ·exact Bx h.ah (by rw[h.size];exact ao d rfl) ab
def cL.heap(h:cL I M w)(b7:w'.heap=w.heap):cL I M w':=
 { i:=by rw[b7];exact h.i,m:=by rw[b7];exact h.m,d:=h.d,bH:=h.bH }
def bE.world(h:bE X β a w F C I M)(b7:w'.heap=w.heap)(ar:iS w w':=by exact⟨rfl,rfl⟩):bE X β a w' F C I M:=
 { h with
  holds:={ i:=by rw[b7];exact h.holds.i,m:=by rw[b7];exact h.holds.m,d:=h.holds.d,bH:=h.holds.bH }
  defers:=h.defers.mono λr al=>{ al with at_:=by rw[b7];exact al.at_ }
  bq:=λs cs an=>{ h.bq s cs an with at_:=by rw[b7];exact(h.bq s cs an).at_ }
  cp:=by rw[b7];exact h.cp
  out:=h.out.trans ar
  sz:=by rw[b7];exact h.sz }
def cL.alloc(h:cL I M w)(o:Obj):cL I M (w.alloc o) where
 i b x ag:=by have U:=h.i b x ag;rw[vO w o (hU.1 U).1];exact U
 m x ab:=by have U:=h.m x ab;rw[vO w o (hU.1 U).1];exact U
 d:=h.d
 bH:=h.bH
def cL.lt(h:cL I M w){x:aC}(ab:x∈M):x.num<w.heap.size:=(hU.1 (h.m x ab)).1
def cL.tL(h:cL I M w){b:Nat}{o:Obj}(ag:I b=some o):b<w.heap.size:=(hU.1 (h.i b o ag)).1
def cL.lr(h:cL I M w):I w.heap.size=none:=by
 cases ag:I w.heap.size with
 |none=>rfl| some o=>exact absurd (h.tL ag) (Nat.lt_irrefl _)
def cL.kG(h:cL I M w):∀ x∈M,x.num≠w.heap.size:=λx ab e=>by have:=h.lt ab;omega
def cL.cons(h:cL I M w)(o:Obj):cL I (⟨w.heap.size,o⟩::M) (w.alloc o) where
 i:=(h.alloc o).i
 m x ab:=by
  rcases cU.1 ab with rfl | ab;·exact Bv w o
  ·exact(h.alloc o).m x ab
 d x ab:=by
  rcases cU.1 ab with rfl | ab;·exact h.lr
  ·exact h.d x ab
 bH:=by simp only[cC,kB];refine⟨λhm=>?_,h.bH⟩;obtain⟨x,ab,e⟩:=dw.1 hm;exact h.kG x ab e
def pi.alloc{b:Nat}{cs:List Value}(h:pi X w I M b cs)(o:Obj):pi X (w.alloc o) I M b cs where
 at_:=by obtain⟨T,bJ⟩:=h.at_;exact⟨T,by rw[vO w o (hU.1 bJ).1];exact bJ⟩
 base:=h.base
 fM:=h.fM
 cM:=h.cM
def pi.lt{b:Nat}{cs:List Value}(h:pi X w I M b cs):b<w.heap.size:=by obtain⟨T,bJ⟩:=h.at_;exact(hU.1 bJ).1
def pi.By{b:Nat}{cs:List Value}(h:pi X w I M b cs)(o:Obj):pi X (w.alloc o) I (⟨w.heap.size,o⟩::M) b cs where
 at_:=(h.alloc o).at_
 base:=h.base
 fM:=h.fM
 cM x ab:=by
  rcases cU.1 ab with rfl | ab
  ·exact λe=>by have:=h.lt;simp only at e;omega
  ·exact h.cM x ab
def nY.alloc{r:Nat}(h:nY X w I M r)(o:Obj):nY X (w.alloc o) I M r:=
 { h with at_:=by rw[vO w o (hU.1 h.at_).1];exact h.at_ }
def nY.By{r:Nat}(h:nY X w I M r)(o:Obj):nY X (w.alloc o) I (⟨w.heap.size,o⟩::M) r:=by
 refine { h.alloc o with cM:=λx ab=>?_ };rcases cU.1 ab with rfl | ab
 ·have U:=(hU.1 h.at_).1;simp only;omega
 ·exact h.cM x ab
def Bz(h:∀ b,b<X.B->b ∉ X.bA->w.heap[b]?=X.aD.heap[b]?)(bW:X.B<=w.heap.size)(o:Obj):∀ b,b<X.B->b ∉ X.bA->(w.alloc o).heap[b]?=X.aD.heap[b]?:=λb ag az=>by rw[vO w o (by omega)];exact h b ag az
def bE.j1(h:bE X β a w F C I M)(o:Obj):bE X β a (w.alloc o) F C I (⟨w.heap.size,o⟩::M) where
 size:=h.size
 defers:=h.defers.mono λr al=>al.By o
 holds:=h.holds.cons o
 ah:=h.ah
 bq s cs an:=(h.bq s cs an).By o
 inj:=h.inj
 eg:=h.eg
 eB:=h.eB
 own x ab:=by
  rcases cU.1 ab with rfl | ab;·exact .inr h.sz
  ·exact h.own x ab
 cp:=Bz h.cp h.sz o
 out:=h.out
 sz:=by have:=h.sz;simp;omega
def bE.BA(h:bE X β a w F C I M)(d:Nat):bE X β a w (j0 F d) (fs C d none) I M where
 size:=h.size
 defers:=h.defers
 holds:=h.holds
 ah t:=by
  have U:=h.ah t;unfold j0;cases bM:F t with
  |ref s off=>
   rw[bM]at U;simp only;cases Nat.beq s d;·exact U
   ·trivial
  |_=>rw[bM]at U;exact U
 bq s cs an:=by
  unfold fs at an;cases ag:Nat.beq s d with
  |true=>simp[ag]at an| false=>simp[ag]at an;exact h.bq s cs an
 inj s bx U aa:=h.inj s bx (λe=>U (by simp[fs,e])) (λe=>aa (by simp[fs,e]))
 eg:=h.eg
 eB:=h.eB
 own:=h.own
 cp:=h.cp
 out:=h.out
 sz:=h.sz
def bE.GI(h:bE X β a w F C I M)(d:Nat)(ao:d<X.n)(cs:List Value)(T:Nat) :
  ∃ iT,bE X iT (a.put (some d) (.pointer (some ⟨w.heap.size,0,none⟩))) (w.alloc (.cells cs.toArray T (0,0))) (dK (j0 F d) d (.ref d 0)) (fs C d (some cs)) I M:=by
 have aD:=h.BA d;let iT:Nat->Nat:=λs=>if s=d then w.heap.size else β s
 refine⟨iT,?_⟩;have po:∀ t,cI iT (j0 F d t) (a.tmps.getD t undef):=λt=>by
  have U:=aD.ah t;cases bM:j0 F d t with
  |ref s off=>
   rw[bM]at U;have an:s≠d:=by
    intro e;subst e;unfold j0 at bM;split at bM
    ·rename_i bx yS GJ;cases ag:Nat.beq bx s with
     |true=>simp[ag]at bM| false=>simp[ag]at bM;obtain⟨rfl,_⟩:=bM;simp at ag
    ·rename_i br;exact br _ _ bM
   simp only[cI,iT,cd an];exact U
  |_=>rw[bM]at U;exact U
 exact {
  size:=by simp[Act.put,h.size]
  defers:=h.defers.mono λr al=>al.alloc _
  holds:=h.holds.alloc _
  ah:=Bx po (by rw[h.size];exact ao) (by simp[cI,iT])
  bq:=λs cs' an=>by
   by_cases e:s=d;·subst e;simp[fs]at an;subst an;simp only[iT,ck rfl];exact { at_:=⟨T,Bv w _⟩,base:=h.sz,fM:=h.holds.lr,cM:=h.holds.kG }
   ·have ag:Nat.beq s d=false:=eQ e;simp[fs,ag]at an;simp only[iT,cd e];exact(h.bq s cs' an).alloc _
  inj:=λs bx U aa he=>by
   by_cases e:s=d<;>by_cases b2:bx=d
   ·rw[e,b2]
   ·exfalso;have ag:Nat.beq bx d=false:=eQ b2;simp[fs,ag]at aa;obtain⟨c,aB⟩:=yD.1 aa;have:=(h.bq bx c aB).lt;simp only[iT,ck e,cd b2]at he;omega
   ·exfalso;have ag:Nat.beq s d=false:=eQ e;simp[fs,ag]at U;obtain⟨c,aB⟩:=yD.1 U;have:=(h.bq s c aB).lt;simp only[iT,cd e,ck b2]at he;omega
   ·have ag:Nat.beq s d=false:=eQ e;have ft:Nat.beq bx d=false:=eQ b2;simp[fs,ag]at U;simp[fs,ft]at aa;simp only[iT,cd e,cd b2]at he;exact h.inj s bx U aa he
  eg:=h.eg
  eB:=h.eB
  own:=h.own
  cp:=Bz h.cp h.sz _
  out:=h.out
  sz:=by have:=h.sz;simp;omega }
def cY(a:Addr)(h:a.spot=none)(j:Nat):a.add j=⟨a.block,a.off+j,none⟩:=by
 obtain⟨b,o,s⟩:=a;simp only at h;subst h;unfold Addr.add;split<;>simp_all
def pq{b:Nat}(aw:w.heap[b]?=some (.cells cs T ah))(j:Nat):w.cell? ⟨b,j,none⟩=cs[j]?:=by simp[World.cell?,aw]
variable{P:Program}{t:Nat}{i:cF}
def gg.run_sizeOf(h:gg P t i)(w:World):(sizeOf t).run P w=.ok i.size w:=by obtain⟨inf,z,U,aa,_⟩:=h.inf;simp[sizeOf,typeInfo,U,aa]
def gg.vP(h:gg P t i)(w:World):∃ z,(zeroValue t).run P w=.ok z w/\z.cells.toList=i.zero:=by obtain⟨inf,z,U,aa,ak,aL,be⟩:=h.inf;exact⟨z,by simp[zeroValue,typeInfo,U,aL],be⟩
def gg.Nz(h:gg P t i)(w:World):∃ d,(underlying t).run P w=.ok d w/\dh d=i.bc:=by obtain⟨d,U,aa⟩:=h.dr;exact⟨d,run_underlying U w,aa⟩
def gg.GK(h:gg P t i)(w:World):(isAgg t).run P w=.ok i.bc.agg w:=by
 obtain⟨d,U,aa⟩:=h.Nz w;rw[<-aa];unfold isAgg;simp only[bo,U,bd];cases d<;>rfl
def NA(au:vs.length=1):vs=[vs.headD undef]:=by
 match vs,au with
 |[v],_=>rfl
def yT(h:gg P t i){a:Addr}(an:a.spot=none)(aw:w.heap[a.block]?=some (.cells cs T ah))
  (af:(cs.toList.drop a.off).take i.size=vs) (au:vs.length=i.size):(loadVar t a).run P w=.ok (pack i.bc.agg vs) w:=by
 have aB:∀ j v,vs[j]?=some v->w.cell? (a.add j)=some v:=by
  intro j v ap;rw[cY a an,pq aw];rw[<-af,hW]at ap;split at ap;·rw[l8]at ap;simpa using ap
  ·cases ap
 unfold loadVar;simp only[bo,h.GK,bd];cases vQ:i.bc.agg with
 |true=>simp only[kE,bo,h.run_sizeOf,bd,<-au];rw[run_loadCells_list w a vs aB];simp[pack]| false=>have U:=h.Br vQ;rw[U]at au;have e5:=NA au;have:=aB 0 (vs.headD undef) (by rw[e5];simp);have aN:a.add 0=a:=rfl;rw[aN]at this;simp[this,pack]
def tM(h:eP vs=true):∀ v∈vs,v.oneCell'=true:=by simpa[eP]using h
def yU(h:gg P t i){a:Addr}(an:a.spot=none)(aw:w.heap[a.block]?=some (.cells cs T (0,0)))(bW:v.cells.size=i.size)(ag:a.off+v.cells.toList.length<=cs.size)(U:eP v.cells.toList=true) :
  (storeVar t a v).run P w=.ok () (w.setRow a.block (bt cs.toList a.off v.cells.toList).toArray):=by
 obtain⟨b,o,s⟩:=a;simp only at an aw ag;subst an;unfold storeVar;simp only[bo,h.run_sizeOf,bd,bW,ne_eq,not_true,g9,Sem.run_ite];have:=run_storeCells_at (P:=P) b o T v.cells.toList 0 cs w aw (by simpa using ag) (tM U);simp only[mW]at this;simp only[bt];simpa using this
def bE.GL(h:bE X β a w F C I M){s:Nat}{cs:List Value}(an:C s=some cs)(cs':List Value):bE X β a (w.setRow (β s) cs'.toArray) F (fs C s (some cs')) I M:=by
 have ag:=h.bq s cs an;obtain⟨T,bJ⟩:=ag.at_;exact {
  size:=h.size
  defers:=h.defers.mono λr al=>by refine { al with at_:=?_ };rw[setRow_other _ _ _ _ (λe=>by have U:=al.at_;rw[e,bJ]at U;cases U)];exact al.at_
  holds:={
   i:=λb o fO=>by rw[setRow_other _ _ _ _ (λe=>by rw[e,ag.fM]at fO;cases fO)];exact h.holds.i b o fO
   m:=λx ab=>by rw[setRow_other _ _ _ _ (ag.cM x ab)];exact h.holds.m x ab
   d:=h.holds.d
   bH:=h.holds.bH }
  ah:=h.ah
  bq:=λbx c' vR=>by
   by_cases e:bx=s;·subst e;simp[fs,kF]at vR;subst vR;exact { at_:=⟨T,setRow_heap _ _ _ _ _ _ bJ⟩,base:=ag.base,fM:=ag.fM,cM:=ag.cM }
   ·simp[fs,eQ e]at vR;have ft:=h.bq bx c' vR;obtain⟨m1,vS⟩:=ft.at_;refine { at_:=⟨m1,?_⟩,base:=ft.base,fM:=ft.fM,cM:=ft.cM };rw[setRow_other _ _ _ _ (λb2=>e (h.inj bx s (by simp[vR]) (by simp[an]) b2))];exact vS
  inj:=λs1 s2 U aa=>h.inj s1 s2 (λe=>by
    unfold fs at U;cases aR:Nat.beq s1 s with
    |true=>have:=cb aR;subst this;rw[an]at e;cases e| false=>rw[aR]at U;exact U e) (λe=>by
    unfold fs at aa;cases aR:Nat.beq s2 s with
    |true=>have:=cb aR;subst this;rw[an]at e;cases e| false=>rw[aR]at aa;exact aa e)
  eg:=h.eg
  eB:=h.eB
  own:=h.own
  cp:=λb ft az=>by rw[setRow_other _ _ _ _ (λe=>by have:=ag.base;omega)];exact h.cp b ft az
  out:=h.out.trans (GH _ _ _)
  sz:=by have:=h.sz;simpa using this }
def bE.qm(h:bE X β a w F C I M){pre post:List aC}{g:Nat}{cs':Array Value}(aZ:M=pre++⟨g,.cells cs T (0,0)⟩::post) :
  bE X β a (w.setRow g cs') F C I (pre++⟨g,.cells cs' T (0,0)⟩::post):=by
 subst aZ;have dF:(⟨g,.cells cs T (0,0)⟩:aC)∈pre++⟨g,.cells cs T (0,0)⟩::post:=by simp
 have aw:w.heap[g]?=some (.cells cs T (0,0)):=h.holds.m _ dF;have bI:=h.holds.bH;simp only[kC,cC]at bI;have br:∀ x,x∈pre\/x∈post->x.num≠g:=by
  intro x ab e;rw[tF]at bI;obtain⟨_,aa,ak⟩:=bI;rcases ab with ab | ab;·exact ak x.num (dw.2 ⟨x,ab,rfl⟩) g (by simp) e
  ·rw[kB]at aa;exact aa.1 (dw.2 ⟨x,ab,e⟩)
 have mem:∀ x,x∈pre++(⟨g,.cells cs' T (0,0)⟩:aC)::post->x=⟨g,.cells cs' T (0,0)⟩\/(x∈pre\/x∈post):=by
  intro x ab;simp only[c9,cU]at ab;rcases ab with ab | ab | ab;·exact .inr (.inl ab)
  ·exact .inl ab
  ·exact .inr (.inr ab)
 have back:∀ x,x∈pre\/x∈post->x∈pre++(⟨g,.cells cs T (0,0)⟩:aC)::post:=by
  intro x ab;simp only[c9,cU];rcases ab with ab | ab;·exact .inl ab
  ·exact .inr (.inr ab)
 exact {
  size:=h.size
  defers:=h.defers.mono λr al=>by
   have r0:g≠r:=al.cM _ dF;refine { al with at_:=?_,cM:=λx ab=>?_ };·rw[setRow_other _ _ _ _ (l' r0)];exact al.at_
   ·rcases mem x ab with rfl | ab
    ·exact r0
    ·exact al.cM x (back x ab)
  holds:={
   i:=λb o fO=>by rw[setRow_other _ _ _ _ (λe=>by have:=h.holds.d _ dF;simp only at this;rw[e,this]at fO;cases fO)];exact h.holds.i b o fO
   m:=λx ab=>by
    rcases mem x ab with rfl | ab;·exact setRow_heap _ _ _ _ _ _ aw
    ·rw[setRow_other _ _ _ _ (br x ab)];exact h.holds.m x (back x ab)
   d:=λx ab=>by
    rcases mem x ab with rfl | ab;·exact h.holds.d ⟨g,.cells cs T (0,0)⟩ dF
    ·exact h.holds.d x (back x ab)
   bH:=by simpa[kC]using bI }
  ah:=h.ah
  bq:=λs c an=>by
   have ag:=h.bq s c an;obtain⟨m1,vS⟩:=ag.at_;have vT:g≠β s:=ag.cM _ dF;refine { at_:=⟨m1,?_⟩,base:=ag.base,fM:=ag.fM,cM:=λx ab=>?_ };·rw[setRow_other _ _ _ _ (l' vT)];exact vS
   ·rcases mem x ab with rfl | ab
    ·exact vT
    ·exact ag.cM x (back x ab)
  inj:=h.inj
  eg:=h.eg
  eB:=h.eB
  own:=λx ab=>by
   rcases mem x ab with rfl | ab;·exact h.own ⟨g,.cells cs T (0,0)⟩ dF
   ·exact h.own x (back x ab)
  cp:=λb ag az=>by
   rw[setRow_other _ _ _ _ (λe=>by
    rcases h.own _ dF with U | U;·simp only at U;exact az (e ▸ U)
    ·simp only at U;omega)]
   exact h.cp b ag az
  out:=h.out.trans (GH _ _ _)
  sz:=by have:=h.sz;simpa using this }
def e4.heap(h:cL I M w){b:Nat}{o:Obj}(aj:e4 I M b o):w.heap[b]?=some o:=by
 rcases aj with aj | ⟨x,ab,rfl,rfl⟩
 ·exact h.i b o aj
 ·exact h.m x ab
def NB{cur:List Value}{x:Value}{xs:List Value}(h:off+1+xs.length<=cur.length):bt (cur.set off x) (off+1) xs=bt cur off (x::xs):=by
 unfold bt;rw[List.take_set,List.drop_set,ck (by omega),l7 (by omega:off<cur.length)];have e:(List.take off cur++[cur[off]'(by omega)]).set off x=List.take off cur++[x]:=by rw[List.set_append,cd (by simp;omega)];simp[qi (by omega:off<=cur.length)]
 rw[e];simp[kD,yM 1]
def GM(off:Nat):∀ (xs:List Value) (k:Nat) (cur:List Value),off+k+xs.length<=cur.length -> (xs.zipIdx k).foldl (λ(cs:Array Value) (p:Value×Nat)=>cs.setIfInBounds (off+p.2) p.1) cur.toArray=(bt cur (off+k) xs).toArray
 |[],k,cur,_=>by simp[bt]
 |x::xs,k,cur,au=>by simp only[c8]at au;simp only[List.zipIdx_cons,vI];rw[List.setIfInBounds_toArray,GM off xs (k+1) _ (by simp;omega)];rw[show off+(k+1)=off+k+1 from by omega,NB (by omega)]
def fill_eq(place:Nat->Option (Nat×Nat)):∀ (vs:List (Nat×Value)) (cells r:List Value),ma place cells vs=some r->Instr.fill place cells.toArray vs=some r.toArray
 |[],cells,r,h=>by simp[ma]at h;simp[Instr.fill,h]
 |(i,v)::rest,cells,r,h=>by
  unfold ma at h;unfold Instr.fill;split at h;·cases h
  ·rename_i off size aK;simp only[aK];cases aB:(Nat.beq v.cells.size size&&Nat.ble (off+size) cells.length)with
   |false=>rw[aB]at h;cases h
   |true=>
    rw[aB]at h;simp only[bn]at h;rw[bs]at aB;have U:=cb aB.1;have aa:=bk aB.2;have ax:decide (v.cells.size≠size)=false:=by simp[U]
    have aS:decide (off+v.cells.size > cells.toArray.size)=false:=by simp;omega
    rw[ax,aS];simp only[Bool.or_false,gG,g9];have aX:=fill_eq place rest _ r h;rw[<-aX];congr 1;have:=GM off v.cells.toList 0 cells (by simp;omega);simp only[mW]at this;rw[<-this,<-Bp];simp
end
def ht.le{I I':aG}{M M':List aC}(h:ht bA I M I' M')(g0:cL I M w):(∀ b o,I b=some o->I' b=some o)/\cL I' M' w /\
  (∀ b o,I' b=some o->I b=some o\/∃ x∈M,x.num=b/\x.obj=o/\b ∉ bA)/\(∀ x∈M',x∈M):=by
 induction h with
 |refl=>exact⟨λ_ _ h=>h,g0,λ_ _ h=>.inl h,λ_ h=>h⟩
 | @sub I M M1 I' M' an k aX=>
  have U:cL I M1 w:=⟨g0.i,λx ab=>g0.m x (an.subset ab),λx ab=>g0.d x (an.subset ab),(an.map _).nodup g0.bH⟩;obtain⟨bK,cm,cn,dD⟩:=aX U;refine⟨bK,cm,λb o ag=>?_,λx ab=>an.subset (dD x ab)⟩;rcases cn b o ag with h | ⟨x,ab,h⟩;·exact .inl h
  ·exact .inr ⟨x,an.subset ab,h⟩
 | @perm I M M1 I' M' aK k aX=>
  have U:cL I M1 w:=⟨g0.i,λx ab=>g0.m x (aK.mem_iff.2 ab),λx ab=>g0.d x (aK.mem_iff.2 ab),(aK.map _).nodup_iff.1 g0.bH⟩;obtain⟨bK,cm,cn,dD⟩:=aX U;refine⟨bK,cm,λb o ag=>?_,λx ab=>aK.mem_iff.2 (dD x ab)⟩;rcases cn b o ag with h | ⟨x,ab,h⟩;·exact .inl h
  ·exact .inr ⟨x,aK.mem_iff.2 ab,h⟩
 | @vN I M I' M' b o post aZ az k aX=>
  subst aZ;have bI:=g0.bH;simp only[cC,kB]at bI;have ag:=g0.d ⟨b,o⟩ (by simp);simp only at ag;have U:cL (ins I b o) post w:={
   i:=λff o' h=>by
    unfold ins at h;by_cases e:ff=b;·subst e;simp only[kF,bn,hr]at h;subst h;exact g0.m ⟨ff,o⟩ (by simp)
    ·simp only[eQ e,bj]at h;exact g0.i _ _ h
   m:=λx ab=>g0.m x (by simp[ab])
   d:=λx ab=>by unfold ins;have e:x.num≠b:=λe=>bI.1 (dw.2 ⟨x,ab,e⟩);simp only[eQ e,bj];exact g0.d x (by simp[ab])
   bH:=bI.2 }
  obtain⟨bK,cm,cn,dD⟩:=aX U;refine⟨λff o' h=>bK ff o' ?_,cm,λff o' h=>?_,λx ab=>by simp[dD x ab]⟩
  ·unfold ins;by_cases e:ff=b
   ·subst e;rw[ag]at h;cases h
   ·simp only[eQ e,bj];exact h
  ·rcases cn ff o' h with h | ⟨x,ab,h⟩
   ·unfold ins at h;by_cases e:ff=b
    ·subst e;simp only[kF,bn,hr]at h;exact .inr ⟨⟨ff,o⟩,by simp,rfl,h,az⟩
    ·simp only[eQ e,bj]at h;exact .inl h
   ·exact .inr ⟨x,by simp[ab],h⟩
def bE.gh{X:bO}{β:Nat->Nat}{F:Fr}{C:b6}{I I':aG}{M M':List aC}(h:bE X β a w F C I M)(hw:ht X.bA I M I' M'):bE X β a w F C I' M':=by
 obtain⟨bK,cm,cn,dD⟩:=hw.le h.holds;exact { h with
  holds:=cm
  defers:=h.defers.mono λr al=>by
   refine { al with fM:=?_,cM:=λx ab=>al.cM x (dD x ab) };cases a7:I' r with
   |none=>rfl
   |some o=>
    exfalso;rcases cn _ _ a7 with U | ⟨x,ab,U,_⟩;·rw[al.fM]at U;cases U
    ·exact al.cM x ab U
  bq:=λs cs an=>{ h.bq s cs an with
   fM:=by
    cases a7:I' (β s)with
    |none=>rfl
    |some o=>
     exfalso;rcases cn _ _ a7 with U | ⟨x,ab,U,_⟩;·rw[(h.bq s cs an).fM]at U;cases U
     ·exact(h.bq s cs an).cM x ab U
   cM:=λx ab=>(h.bq s cs an).cM x (dD x ab) }
  eg:=λb o ag=>bK b o (h.eg b o ag)
  eB:=λb o ag=>by
   rcases cn b o ag with U | ⟨x,ab,rfl,_,az⟩;·exact h.eB b o U
   ·exact .inr ((h.own x ab).resolve_left az)
  own:=λx ab=>h.own x (dD x ab) }
section
variable{X:bO}{β:Nat->Nat}{a:Act}{w:World}{F:Fr}{C:b6}{I:aG}{M:List aC}{o:Oper}{Q:Exit->Act->World->Prop}{K:dE}
def GN(h:bE X β a w F C I M)(ao:∀ d,o.dst=some d->d<X.n)(bI:∀ c,o.op≠.defer c){x:b0}(al:(execOp a.eval o).run X.P w=.ok (.value v) w)(ab:cI β x v)(aj:K (put o.dst x F) C I M):o.wpIn (dV X) 0 X.P a w (Sat X K) Q:=
 fC bI al ⟨_,_,_,_,⟨β,h.put ao ab⟩,aj⟩
def qn(h:bE X β a w F C I M)(ao:∀ d,o.dst=some d->d<X.n)(bI:∀ c,o.op≠.defer c)(al:(execOp a.eval o).run X.P w=.ok (.value v) w)(aj:K (put o.dst (.val v) F) C I M):o.wpIn (dV X) 0 X.P a w (Sat X K) Q:=
 GN (x:=.val v) h ao bI al rfl aj
def iU(k:IntKind)(n:Int)(w:World)(P:Program):(asIntOf (.int k n)).run P w=.ok (k,n) w:=rfl
def IntKind.tN{k cG:IntKind}(h:IntKind.hy k cG=true):k=cG:=by cases k<;>cases cG<;>first | rfl | cases h
def iV(op:BinOp)(t:Nat)(x y:Operand)(k cG:IntKind)(n m:Int)(P:Program)(w:World):(eqGuard op t x y (.int k n) (.int cG m)).run P w=.ok () w:=by
 unfold eqGuard;cases op<;>rfl
def BB(op:BinOp)(t:Nat)(x y:Operand)(n m:ByteArray)(P:Program)(w:World):(eqGuard op t x y (.string n) (.string m)).run P w=.ok () w:=by
 unfold eqGuard;cases op<;>rfl
def GO(op:BinOp)(t:Nat)(x y:Operand)(n m:Bool)(P:Program)(w:World):(eqGuard op t x y (.bool n) (.bool m)).run P w=.ok () w:=by
 unfold eqGuard;cases op<;>rfl
def GP(a b:ByteArray):(a.toList == b.toList)=decide (a=b):=by
 rw[rT];simp only[beq_iff_eq,e3];constructor
 ·intro h;have U:a.data.toList=b.data.toList:=by rw[ByteArray.toList_eq,ByteArray.toList_eq]at h;exact h
  cases a;cases b;simp only[ByteArray.mk.injEq];exact dT U
 ·intro h;rw[h]
def run_equal_bool{t:Nat}(hu:P.underlying t=some .bool)(a b:Bool)(w:World):(Op.equal t (.bool a) (.bool b)).run P w=.ok (a == b) w:=by
 have key:∀ d,(Op.equalIn (d+1) t (.bool a) (.bool b)).run P w=.ok (a == b) w:=λd=>by simp only[Op.equalIn,bo,run_underlying hu,bd,bR]
 exact key 9999
def NC(aA:bV X.P X.E)(op:BinOp)(t:Nat)(x y:Operand)(u v:b0)(ha pt:Value)(ab:u=.val ha)(aE:v=.val pt)(GQ:Value->Prop)(other:Prop)
  (h:gZ op (X.E t) u v GQ other):other\/∃ r,(∀ w,(do eqGuard op t x y ha pt;binOp op t ha pt:Sem Value).run X.P w=.ok r w)/\GQ r:=by
 subst ab;subst aE;unfold gZ at h;split at h
 ·rename_i k a cG b ax aS;cases ax;cases aS
  right
  split at h;·obtain⟨j,rfl,⟨r,al,aj⟩⟩:=h;refine⟨_,λw=>?_,aj⟩;simp only[bo,iV,bd,binOp,Op.shift];rw[cd (by omega)];simp[al]
  ·obtain⟨j,rfl,aj⟩:=h;refine⟨_,λw=>?_,aj⟩;simp only[bo,iV,bd,binOp,Op.shift];rw[cd (by omega)];simp
  ·rename_i e6 ls;cases fP:IntKind.hy k cG with
   |false=>rw[fP]at h;exact h.elim
   |true=>
    rw[fP]at h;have ND:=IntKind.tN fP;subst ND;simp only[bn]at h;cases op<;>simp only at h
    case add=>obtain⟨r,al,aj⟩:=h;exact⟨_,λw=>by simp[iV,binOp,Op.intArith,al],aj⟩
    case sub=>obtain⟨r,al,aj⟩:=h;exact⟨_,λw=>by simp[iV,binOp,Op.intArith,al],aj⟩
    case mul=>obtain⟨r,al,aj⟩:=h;exact⟨_,λw=>by simp[iV,binOp,Op.intArith,al],aj⟩
    case quo=>obtain⟨aD,r,al,aj⟩:=h;exact⟨_,λw=>by simp[iV,binOp,Op.intDiv,aD,al],aj⟩
    case rem=>obtain⟨aD,aj⟩:=h;exact⟨_,λw=>by simp[iV,binOp,Op.intDiv,aD],aj⟩
    case and=>exact⟨_,λw=>by simp[iV,binOp,Op.intBits,mY],h⟩
    case or=>exact⟨_,λw=>by simp[iV,binOp,Op.intBits,mY],h⟩
    case xor=>exact⟨_,λw=>by simp[iV,binOp,Op.intBits,mY],h⟩
    case andNot=>exact⟨_,λw=>by simp[iV,binOp,Op.intBits,mY],h⟩
    case shl=>exact(e6 rfl).elim
    case shr=>exact(ls rfl).elim
    case eql=>exact⟨_,λw=>by simp only[bo,iV,bd,binOp,Op.intCmp,pf];simp;rfl,h⟩
    case neq=>exact⟨_,λw=>by simp only[bo,iV,bd,binOp,Op.intCmp,pf];simp;rfl,h⟩
    case lss=>exact⟨_,λw=>by simp[iV,binOp,Op.intCmp,pf],h⟩
    case leq=>exact⟨_,λw=>by simp[iV,binOp,Op.intCmp,pf],h⟩
    case gtr=>exact⟨_,λw=>by simp[iV,binOp,Op.intCmp,pf],h⟩
    case geq=>exact⟨_,λw=>by simp[iV,binOp,Op.intCmp,pf],h⟩
 ·rename_i a b ax aS;cases ax;cases aS;split at h
  ·exact .inr ⟨_,λw=>by simp only[bo,BB,bd,binOp,Op.stringOp,bR,GP],h⟩
  ·exact .inr ⟨_,λw=>by simp only[bo,BB,bd,binOp,Op.stringOp,bR,GP],h⟩
  ·exact .inl h
 ·rename_i a b ax aS;cases ax;cases aS;split at h
  ·rename_i cA sz eW z aq;obtain⟨d,hu,ao⟩:=(aA _ _ aq).dr;have e7:d=.bool:=by cases d<;>simp_all[dh]
   subst e7;split at h;·exact .inr ⟨_,λw=>by simp only[bo,GO,bd,binOp,run_equal_bool hu,bR],h⟩
   ·exact .inr ⟨_,λw=>by simp only[bo,GO,bd,binOp,run_equal_bool hu,bR],h⟩
   ·exact .inl h
  ·exact .inl h
 ·exact .inl h
def BC{args:Array Value}(h:Calls P f args w R)(n:Nat):CallsIn (dV X) n P f args w R:=by have U:=(callsIn_wide (n:=n)).2 h;exact⟨trivial,λcs al=>U.2 cs (room_wide _)⟩
def cL.part(h:cL I M w){b4 Mr:List aC}(aZ:M.Perm (b4++Mr)):cL I b4 w:=by
 have eY:∀ x,x∈M ↔ x∈b4\/x∈Mr:=λx=>by rw[aZ.mem_iff,c9]
 have bI:((b4++Mr).map (·.num)).Nodup:=(aZ.map (·.num)).nodup_iff.1 h.bH;rw[kC,tF]at bI;exact⟨h.i,λx ab=>h.m x ((eY x).2 (.inl ab)),λx ab=>h.d x ((eY x).2 (.inl ab)),bI.1⟩
def bE.after(h:bE X β a w F C I M){b4 Mr M':List aC}{I':aG}(aZ:M.Perm (b4++Mr))(kH:cL I' M' w')(dy:Kept I b4 w I' M' w'):bE X β a w' F C I' (M'++Mr):=by
 have eY:∀ x,x∈M ↔ x∈b4\/x∈Mr:=λx=>by rw[aZ.mem_iff,c9]
 have bI:((b4++Mr).map (·.num)).Nodup:=(aZ.map (·.num)).nodup_iff.1 h.holds.bH;rw[kC,tF]at bI;have GR:∀ x∈Mr,∀ y∈b4,y.num≠x.num:=λx ab y aE=>bI.2.2 y.num (dw.2 ⟨y,aE,rfl⟩) x.num (dw.2 ⟨x,ab,rfl⟩);have NE:∀ x∈Mr,w'.heap[x.num]?=w.heap[x.num]?:=λx ab=>
  dy.cp x.num (h.holds.lt ((eY x).2 (.inr ab))) (GR x ab)
 exact {
  size:=h.size
  defers:=h.defers.mono λr al=>by
   have a0:=(hU.1 al.at_).1;refine { at_:=?_,base:=al.base,fM:=?_,cM:=λx ab=>?_ };·rw[dy.cp _ a0 (λy aE=>al.cM y ((eY y).2 (.inl aE)))];exact al.at_
   ·cases a7:I' r with
    |none=>rfl
    |some o=>
     exfalso;rcases dy.nX _ _ a7 with U | U;·rw[al.fM]at U;cases U
     ·omega
   ·rcases c9.1 ab with ab | ab
    ·rcases dy.pg x ab with⟨z,a2,r1⟩ | U
     ·rw[<-r1];exact al.cM z ((eY z).2 (.inl a2))
     ·omega
    ·exact al.cM x ((eY x).2 (.inr ab))
  holds:={
   i:=kH.i
   m:=λx ab=>by
    rcases c9.1 ab with ab | ab;·exact kH.m x ab
    ·rw[NE x ab];exact h.holds.m x ((eY x).2 (.inr ab))
   d:=λx ab=>by
    rcases c9.1 ab with ab | ab;·exact kH.d x ab
    ·cases a7:I' x.num with
     |none=>rfl
     |some o=>
      exfalso;rcases dy.nX _ _ a7 with U | U;·have:=h.holds.d x ((eY x).2 (.inr ab));rw[this]at U;cases U
      ·have:=h.holds.lt ((eY x).2 (.inr ab));omega
   bH:=by
    rw[kC,tF];refine⟨kH.bH,bI.2.1,λp aK q aR e=>?_⟩;obtain⟨x,ab,rfl⟩:=dw.1 aK;obtain⟨y,aE,rfl⟩:=dw.1 aR;rcases dy.pg x ab with⟨z,a2,r1⟩ | U;·exact GR y aE z a2 (r1.trans e)
    ·have:=h.holds.lt ((eY y).2 (.inr aE));omega }
  ah:=h.ah
  bq:=λs cs an=>by
   have ag:=h.bq s cs an;obtain⟨T,bJ⟩:=ag.at_;refine { at_:=⟨T,?_⟩,base:=ag.base,fM:=?_,cM:=λx ab=>?_ };·rw[dy.cp _ ag.lt (λy aE=>ag.cM y ((eY y).2 (.inl aE)))];exact bJ
   ·cases a7:I' (β s)with
    |none=>rfl
    |some o=>
     exfalso;rcases dy.nX _ _ a7 with U | U;·rw[ag.fM]at U;cases U
     ·have:=ag.lt;omega
   ·rcases c9.1 ab with ab | ab
    ·rcases dy.pg x ab with⟨z,a2,r1⟩ | U
     ·rw[<-r1];exact ag.cM z ((eY z).2 (.inl a2))
     ·have:=ag.lt;omega
    ·exact ag.cM x ((eY x).2 (.inr ab))
  inj:=h.inj
  eg:=λb o ag=>dy.le b o (h.eg b o ag)
  eB:=λb o ag=>by
   rcases dy.nX b o ag with U | U;·exact h.eB b o U
   ·exact .inr (iQ h.sz U)
  own:=λx ab=>by
   rcases c9.1 ab with ab | ab
   ·rcases dy.pg x ab with⟨z,a2,r1⟩ | U
    ·rw[<-r1];exact h.own z ((eY z).2 (.inl a2))
    ·exact .inr (iQ h.sz U)
   ·exact h.own x ((eY x).2 (.inr ab))
  cp:=λb ag az=>by
   rw[dy.cp b (yH ag h.sz) (λy aE e=>by
    rcases h.own y ((eY y).2 (.inl aE))with U | U;·exact az (e ▸ U)
    ·omega)]
   exact h.cp b ag az
  out:=h.out.trans dy.out
  sz:=iQ h.sz dy.sz }
def bE.call(h:bE X β a w F C I M){KC:Value->aG->List aC->Prop}(aB:aY X.bA P f args I M KC) :
  (Bs P f/\Calls P f args.toArray w λe w'=>∃ v I' M',e=.returned v/\KC v I' M'/\bE X β a w' F C I' M')\/(∃ v w' I' M',(callFunc f args.toArray).run P w=.ok (.value v) w'/\KC v I' M'/\bE X β a w' F C I' M'):=by
 obtain⟨ct,b4,Mr,post,e8,⟨j2,an⟩ | an,aj⟩:=aB.elim ⟨h.holds.d,h.holds.bH⟩<;>have h:=h.gh e8<;>have aZ:=List.Perm.refl (b4++Mr)
 ·refine .inl ⟨j2,?_⟩;refine(an w (h.holds.part aZ)).mono ?_;rintro e w'⟨v,I',M',rfl,aK,kH,dy⟩;have aN:=h.after aZ kH dy;exact⟨v,I',M'++Mr,rfl,aj v I' M' dy.le aN.holds.d aK,aN⟩
 ·obtain⟨v,w',I',M',al,aK,kH,dy⟩:=an w (h.holds.part aZ);have aN:=h.after aZ kH dy;exact .inr ⟨v,w',I',M'++Mr,al,aj v I' M' dy.le aN.holds.d aK,aN⟩
def GS{args:Array Value}(bI:∀ c,o.op≠.defer c)(al:(execOp a.eval o).run X.P w=.ok (.enter f args) w)
  (aB:Calls X.P f args w λe w'=>∃ v,e=.returned v/\next (a.put o.dst v) w'):o.wpIn (dV X) 0 X.P a w next Q:=by
 refine⟨λ_ _=>trivial,?_⟩;rw[yL _ _ _ bI,al];refine⟨(λh=>by cases h),?_⟩;refine(BC aB _).mono ?_;rintro e w'⟨v,rfl,h⟩;exact h
def GU(z:Value)(vU:List Value)(h:z.cells.toList=vU)(n:Nat):(Array.range n).map (z.cells[· % z.cells.size]!)=(rowOf vU n).toArray:=by subst h;apply dT;simp[tJ,madeCells]
def gg.struct{t:Nat}{bB:List (Nat×Nat)}(h:gg P t ⟨sz,eW,z,.struct bB⟩):∃ fields,P.underlying t=some (.struct fields)/\bB=fields.toList.map λf=>(f.type,f.offset):=by
 obtain⟨d,U,aa⟩:=h.dr;cases d<;>simp[dh]at aa
 exact⟨_,U,aa.symm⟩
def gg.slice{t:Nat}(h:gg P t ⟨sz,eW,z,.slice e⟩):P.underlying t=some (.slice e):=by
 obtain⟨d,U,aa⟩:=h.dr;cases d<;>simp[dh]at aa
 rw[U,aa]
def gg.array{t:Nat}(h:gg P t ⟨sz,eW,z,.array n e⟩):P.underlying t=some (.array n e):=by
 obtain⟨d,U,aa⟩:=h.dr;cases d<;>simp[dh]at aa
 rw[U,aa.1,aa.2]
def gg.string{t:Nat}(h:gg P t ⟨sz,eW,z,.string⟩):P.underlying t=some .string:=by
 obtain⟨d,U,aa⟩:=h.dr;cases d<;>simp[dh]at aa
 exact U
def gg.int{P:Program}{t sz eW:Nat}{z:List Value}{k:IntKind}(h:gg P t ⟨sz,eW,z,.int k⟩):P.underlying t=some (.int k):=by
 obtain⟨d,U,aa⟩:=h.dr;cases d<;>simp[dh]at aa
 rw[U,aa]
def GV{fields:Array Field}{i hx:Nat}(h:(fields.toList.map λf=>(f.type,f.offset))[i]?=some (hx,off)):∃ f,fields[i]?=some f/\f.type=hx/\f.offset=off:=by
 simp only[vG,Array.getElem?_toList]at h;cases az:fields[i]? with
 |none=>simp[az]at h| some f=>simp[az]at h;exact⟨f,rfl,h.1,h.2⟩
def BD{t:Nat}{i:cF}(h:gg P t i)(hle:off+i.size<=cs.size)(w:World):(part t cs off).run P w=.ok (pack i.bc.agg ((cs.toList.drop off).take i.size)) w:=by
 unfold part;simp only[bo,h.GK,bd];cases vQ:i.bc.agg with
 |true=>simp only[kE,bo,h.run_sizeOf,bd,bR,pack,bn];congr 2;apply dT;simp[List.take_drop]
 |false=>
  have U:=h.Br vQ;rw[U]at hle |-;have a0:off<cs.size:=by omega
  simp only[gG,g9,Bl a0,bR,pack,bj];congr 1;rw[fe (by simpa using a0)];simp
def NF{t:Nat}{av:cF}(aq:P.underlying t=some (.slice e))(he:gg P e av){c:Nat}{j:Nat}(ap:j<n)(w:World) :
  (Instr.indexAt t (.slice (some ad) n c) (.int dq j)).run P w=.ok (.pointer (some (ad.add (j*av.size)))) w:=by
 unfold Instr.indexAt;simp only[bo,iU,bd,run_underlying aq,bR];rw[ck ⟨by omega,by omega⟩];simp[he.run_sizeOf]
def GW{t:Nat}{av:cF}(aq:P.underlying t=some (.array m e))(he:gg P e av){j:Nat}(ap:j<m)(w:World) :
  (Instr.indexAt t (.pointer (some ad)) (.int dq j)).run P w=.ok (.pointer (some (ad.add (j*av.size)))) w:=by
 unfold Instr.indexAt;simp only[bo,iU,bd,run_underlying aq,bR,Instr.sureAddr];rw[ck ⟨by omega,by omega⟩];simp[he.run_sizeOf]
def GX{P:Program}{E:Env}(aA:bV P E)(w:World):∀ (fields:List Field),tI E (fields.map λf=>(f.type,f.offset))=true -> ∃ l:List (Nat×Nat),(fields.mapM λf=>(do pure (f.offset,<-sizeOf f.type):Sem (Nat×Nat))).run P w=.ok l w/\∀ i,l[i]?=places E (fields.map λf=>(f.type,f.offset)) i
 |[],_=>⟨[],rfl,λi=>by simp[places]⟩
 |f::bB,h=>by
  simp only[tI,cC,List.all_cons,bs]at h;obtain⟨eh,jv⟩:=Option.isSome_iff_exists.1 h.1;obtain⟨l,U,aa⟩:=GX aA w bB h.2;refine⟨(f.offset,eh.size)::l,?_,λi=>?_⟩;·simp only[vK,bo,(aA _ _ jv).run_sizeOf,bd,bR];rw[U];rfl
  ·cases i with
   |zero=>simp[places,jv]| succ i=>simp only[yE,aa];simp[places]
def GY(aA:bV X.P X.E)(h:bE X β a w F C I M){qo:b0->Prop}(op:Op)(ty:TypeId)(dst:Option Tmp)(pos:String)(after:Array Edge)(guard:Option (Nat×Bool))(af:bw X op (bZ F) C I M qo other) :
  other\/∃ v x,(execOp a.eval ⟨dst,op,ty,pos,after,guard⟩).run X.P w=.ok (.value v) w/\cI β x v/\qo x:=by
 have done:∀ {v x},(execOp a.eval ⟨dst,op,ty,pos,after,guard⟩).run X.P w=.ok (.value v) w->cI β x v->qo x->other\/∃ v x,(execOp a.eval ⟨dst,op,ty,pos,after,guard⟩).run X.P w=.ok (.value v) w/\cI β x v/\qo x:=
  λU aa ak=>.inr ⟨_,_,U,aa,ak⟩
 have eJ:∀ {v},(execOp a.eval ⟨dst,op,ty,pos,after,guard⟩).run X.P w=.ok (.value v) w->qo (.val v)->other\/∃ v x,(execOp a.eval ⟨dst,op,ty,pos,after,guard⟩).run X.P w=.ok (.value v) w/\cI β x v/\qo x:=
  fun {v} U ak=>.inr ⟨v,.val v,U,rfl,ak⟩
 have az:=h.ah;cases op
 case move x=>exact done (by simp[execOp]) (pk az x) af
 case assign x=>exact done (by simp[execOp]) (pk az x) af
 case pick c p q=>
  simp only[bw]at af;split at af
  ·rename_i b ag;have aB:=Bw az ag;cases b
   ·exact done (by simp[execOp,aB,asBool]) (pk az q) af
   ·exact done (by simp[execOp,aB,asBool]) (pk az p) af
  ·rename_i b ag;have aB:=m0 az ag;refine done (v:=if b then a.eval p else a.eval q) (x:=yN b (a' F p) (a' F q)) (by simp[execOp,aB,asBool]) ?_ af;have U:=GF az p;have aa:=GF az q;unfold yN;split
   ·rename_i x y ax aS;rw[ax]at U;rw[aS]at aa;simp only[cI]at U aa |-;cases b<;>simp[U,aa]
   ·rename_i x y _ ax aS;rw[ax]at U;rw[aS]at aa;simp only[cI]at U aa |-;cases b<;>simp[U,aa]
   ·trivial
  ·exact af.elim
 case unOp op t x=>
  simp only[bw]at af;split at af;·rename_i b ag;exact done (v:=.bool (!b)) (x:=.lit (!b)) (by simp[execOp,Bw az ag,Op.unary]) rfl af
  ·rename_i b ag;exact eJ (v:=.bool (!b)) (by simp[execOp,m0 az ag,Op.unary]) af
  ·rename_i k n ag;obtain⟨r,al,aj⟩:=af;exact eJ (v:=.int k r) (by simp only[execOp,m0 az ag,Op.unary,Op.intArith,al];simp) aj
  ·exact Or.inl af
 case binOp op t x y ty'=>
  simp only[bw]at af;by_cases ab:∃ ha pt,a' F x=.val ha/\a' F y=.val pt
  ·obtain⟨ha,pt,ab,aE⟩:=ab;have fin:∀ r,(∀ w,(do eqGuard op t x y ha pt;binOp op t ha pt:Sem Value).run X.P w=.ok r w)->qo (.val r)->(other\/∃ v iW,(execOp a.eval ⟨dst,.binOp op t x y ty',ty,pos,after,guard⟩).run X.P w=.ok (.value v) w/\cI β iW v/\qo iW):=λr al aj=>by refine eJ (v:=r) ?_ aj;have:=al w;rw[<-b1 az ab,<-b1 az aE]at this;simp only[execOp];simp only[bo]at this |-;rw[this];rfl
   rcases NC aA op t x y _ _ ha pt ab aE _ _ af with(⟨h1,c4,r,aK,aR,al,aj⟩ | U) | ⟨r,al,aj⟩;·rw[show cf (bZ F) x=a' F x from rfl,ab]at aK;rw[show cf (bZ F) y=a' F y from rfl,aE]at aR;cases aK;cases aR;exact fin r al aj
   ·exact Or.inl U
   ·exact fin r al aj
  ·unfold gZ at af;split at af
   ·rename_i ax aS;exact(ab ⟨_,_,ax,aS⟩).elim
   ·rename_i ax aS;exact(ab ⟨_,_,ax,aS⟩).elim
   ·rename_i ax aS;exact(ab ⟨_,_,ax,aS⟩).elim
   ·rcases af with⟨h1,c4,r,aK,aR,al,aj⟩ | U
    ·exact(ab ⟨_,_,aK,aR⟩).elim
    ·exact Or.inl U
 case load t x=>
  simp only[bw]at af;split at af
  ·rename_i i hi;split at af
   ·rename_i s off ab;have gI:=rZ az ab;split at af
    ·rename_i cs an;cases hle:Nat.ble (off+i.size) cs.length with
     |false=>rw[hle]at af;exact af.elim| true=>rw[hle]at af;have vV:=bk hle;obtain⟨T,bJ⟩:=(h.bq s cs an).at_;refine eJ (v:=pack i.bc.agg ((cs.drop off).take i.size)) ?_ af;have:=yT (aA _ _ hi) (a:=⟨β s,off,none⟩) rfl bJ (vs:=(cs.drop off).take i.size) (by simp) (by simp;omega);simp[execOp,Instr.loadAt,Instr.sureAddr,gI,this]
    ·exact af.elim
   ·rename_i ad ab;have gI:=m0 az ab;obtain⟨vs,⟨cX,cs,T,ah,gJ,e5,au⟩,aj⟩:=af;refine eJ (v:=pack i.bc.agg vs) ?_ aj;have:=yT (aA _ _ hi) cX (gJ.heap h.holds) e5 au;simp[execOp,Instr.loadAt,Instr.sureAddr,gI,this]
   ·exact af.elim
  ·exact af.elim
 case nilCheck x=>
  simp only[bw]at af;split at af;·rename_i s off ab;exact done (v:=.pointer (some ⟨β s,off,none⟩)) (x:=.ref s off) (by simp[execOp,rZ az ab]) rfl af
  ·rename_i ad ab;exact eJ (v:=.pointer (some ad)) (by simp[execOp,m0 az ab]) af
  ·exact Or.inl af
 case fieldAddr t x i=>
  simp only[bw]at af;split at af
  ·rename_i sz eW z bB aq;obtain⟨fields,hu,rfl⟩:=(aA _ _ aq).struct;split at af
   ·rename_i hx off kI;obtain⟨f,qp,rfl,rfl⟩:=GV kI;split at af
    ·rename_i eh s o' jv ab;cases a2:Nat.beq eh.size 0 with
     |true=>rw[a2]at af;exact af.elim
     |false=>
      rw[a2]at af;have fQ:eh.size≠0:=λe=>by rw[e]at a2;cases a2
      refine done (v:=.pointer (some ⟨β s,o'+f.offset,none⟩)) (x:=.ref s (o'+f.offset)) ?_ rfl af;simp[execOp,Instr.fieldAt,run_underlying hu,qp,rZ az ab,Instr.sureAddr,fieldPlace,(aA _ _ jv).run_sizeOf,fQ,cY]
    ·rename_i eh ad jv ab;cases a2:Nat.beq eh.size 0 with
     |true=>rw[a2]at af;exact af.elim
     |false=>
      rw[a2]at af;have fQ:eh.size≠0:=λe=>by rw[e]at a2;cases a2
      refine eJ (v:=.pointer (some (ad.add f.offset))) ?_ af;simp[execOp,Instr.fieldAt,run_underlying hu,qp,m0 az ab,Instr.sureAddr,fieldPlace,(aA _ _ jv).run_sizeOf,fQ]
    ·exact af.elim
   ·exact af.elim
  ·exact af.elim
 case field t x i=>
  simp only[bw]at af;split at af
  ·rename_i sz eW z bB cs aq ab;obtain⟨fields,hu,rfl⟩:=(aA _ _ aq).struct;split at af
   ·rename_i hx off kI;obtain⟨f,qp,rfl,rfl⟩:=GV kI;split at af
    ·rename_i eh jv;cases a2:Nat.ble (f.offset+eh.size) cs.size with
     |false=>rw[a2]at af;exact af.elim| true=>rw[a2]at af;refine eJ ?_ af;simp[execOp,Instr.field,run_underlying hu,qp,b1 az ab,asAgg,BD (aA _ _ jv) (bk a2)]
    ·exact af.elim
   ·exact af.elim
  ·exact af.elim
 case indexAddr t x i=>
  simp only[bw]at af;split at af
  ·rename_i sz eW z e dq k aq hi;have hu:=(aA _ _ aq).slice;split at af
   ·rename_i av bl n c eK ab;obtain⟨ad,j,rfl,rfl,ap,aj⟩:=af;refine eJ ?_ aj;simp[execOp,b1 az ab,b1 az hi,NF hu (aA _ _ eK) ap]
   ·exact af.elim
  ·rename_i sz eW z n e dq k aq hi;have hu:=(aA _ _ aq).array;split at af
   ·rename_i av s o' eK ab;obtain⟨j,rfl,ap,aj⟩:=af;refine done (v:=.pointer (some ⟨β s,o'+j*av.size,none⟩)) (x:=.ref s (o'+j*av.size)) ?_ rfl aj;simp[execOp,rZ az ab,b1 az hi,GW hu (aA _ _ eK) ap,cY]
   ·rename_i av ad eK ab;obtain⟨j,rfl,ap,aj⟩:=af;refine eJ ?_ aj;simp[execOp,m0 az ab,b1 az hi,GW hu (aA _ _ eK) ap]
   ·exact af.elim
  ·exact af.elim
 case index t x i=>
  simp only[bw]at af;split at af;·rename_i sz eW z s dq k aq ab hi;have hu:=(aA _ _ aq).string;obtain⟨j,rfl,ap,aj⟩:=af;refine eJ ?_ aj;simp only[execOp,b1 az ab,b1 az hi,Instr.index,bo,iU,bd,run_underlying hu];rw[ck (by omega:(0:Int)<=j)];simp[ap]
  ·rename_i sz eW z n e cs dq k aq ab hi;have hu:=(aA _ _ aq).array;split at af
   ·rename_i av eK;cases a2:Nat.beq (n*av.size) cs.size with
    |false=>rw[a2]at af;exact af.elim
    |true=>
     rw[a2]at af;obtain⟨j,rfl,ap,aj⟩:=af;have fQ:=cb a2;refine eJ ?_ aj;have hle:j*av.size+av.size<=cs.size:=by rw[<-fQ,<-Nat.succ_mul];exact jX _ ap
     simp only[execOp,b1 az ab,b1 az hi,Instr.index,bo,iU,bd,run_underlying hu];rw[ck ⟨by omega,by omega⟩];simp[(aA _ _ eK).run_sizeOf,BD (aA _ _ eK) hle]
   ·exact af.elim
  ·exact af.elim
 case build t parts=>
  simp only[bw]at af;split at af
  ·rename_i i vs hi e5;have aK:=yQ az e5;have qq:(parts.map λ(i,x)=>(i,a.eval x)).toList=vs:=by simpa using aK
   obtain⟨z,a2,pu⟩:=(aA _ _ hi).vP w;have tO:z.cells=i.zero.toArray:=by rw[<-pu]
   split at af
   ·rename_i bB iA;cases bm:tI X.E bB with
    |false=>rw[bm]at af;exact af.elim
    |true=>
     rw[bm]at af;simp only[bn]at af;split at af
     ·rename_i cells r2;obtain⟨sz,eW,NG,bc⟩:=i;simp only at iA;subst iA;obtain⟨fields,hu,rfl⟩:=(aA _ _ hi).struct;obtain⟨l,au,tP⟩:=GX aA w fields.toList bm;refine eJ ?_ af;have hm:(fields.mapM λf=>(do pure (f.offset,<-sizeOf f.type):Sem (Nat×Nat))).run X.P w=.ok l.toArray w:=by rw[GC,Sem.run_map,au];rfl
      have r3:=fill_eq _ _ _ _ r2;have NH:(λj=>l.toArray[j]?)=places X.E (fields.toList.map λf=>(f.type,f.offset)):=by funext j;rw[<-tP j];simp
      simp only[execOp,Instr.build,bo,a2,bd,run_underlying hu,tO,qq];rw[hm];simp only[bd,NH,r3,bR]
     ·exact af.elim
   ·rename_i n e iA;split at af
    ·rename_i av eK;split at af
     ·rename_i cells r2;obtain⟨sz,eW,NG,bc⟩:=i;simp only at iA;subst iA;have hu:=(aA _ _ hi).array;refine eJ ?_ af;have r3:=fill_eq _ _ _ _ r2;simp only[execOp,Instr.build,bo,a2,bd,run_underlying hu,tO,qq,(aA _ _ eK).run_sizeOf,r3,bR]
     ·exact af.elim
    ·exact af.elim
   ·exact af.elim
  ·exact af.elim
 case makeFunc fn first captured=>
  simp only[bw]at af;split at af
  ·rename_i bB cs U aa;have ax:=mc az U;have aS:=mc az aa;refine eJ ?_ af;have cq:first.map a.eval=bB.toArray:=by apply dT;simpa using ax
   have kJ:captured.map a.eval=cs.toArray:=by apply dT;simpa using aS
   simp[execOp,Instr.makeFunc,cq,kJ]
  ·exact af.elim
 case slice t x lo hi mx=>
  simp only[bw]at af;split at af
  ·rename_i sz eW z e bl n c aq ab;have hu:=(aA _ _ aq).slice;have gI:=b1 az ab;split at af
   ·rename_i av eK dx dU;have r4:lo=none:=by simpa using dx
    have r5:hi=none:=by simpa using dU
    subst r4;subst r5;refine eJ ?_ af;have ax:(if c=0 then bl else bl.map (·.add (0*av.size)))=bl:=by split<;>cases bl<;>simp[Addr.add]
    simp[execOp,Instr.sliceAt,Instr.slice,Instr.sliceBounds,gI,run_underlying hu,(aA _ _ eK).run_sizeOf,Addr.add]
   ·rename_i av dq hz eK dx dU;have r4:lo=none:=by simpa using dx
    subst r4;obtain⟨BE,rfl,b7⟩:=nU.1 dU;obtain⟨l,aa,yV,rfl,hle,vW,aj⟩:=af;refine eJ ?_ aj;simp only[execOp,Instr.sliceAt,Instr.slice,Instr.sliceBounds,Instr.sliceBound,gI,bo,run_underlying hu,bd,(aA _ _ eK).run_sizeOf,bR,gX,qj,b1 az b7,iU];rw[ck ⟨by omega,by omega⟩];simp[Addr.add]
   ·rename_i av dq yW eK dx dU;have r5:hi=none:=by simpa using dU
    subst r5;obtain⟨BF,rfl,b7⟩:=nU.1 dx;obtain⟨l,aa,rfl,BG,hle,vW,aj⟩:=af;simp only[mV,hs]at *;refine eJ ?_ aj;simp only[execOp,Instr.sliceAt,Instr.slice,Instr.sliceBounds,Instr.sliceBound,gI,bo,run_underlying hu,bd,(aA _ _ eK).run_sizeOf,bR,gX,qj,b1 az b7,iU];rw[ck ⟨by omega,by omega⟩];simp
   ·rename_i av dq yW NI hz eK dx dU;obtain⟨BF,rfl,b7⟩:=nU.1 dx;obtain⟨BE,rfl,BH⟩:=nU.1 dU;obtain⟨l,aa,rfl,rfl,hle,vW,aj⟩:=af;refine eJ ?_ aj;simp only[execOp,Instr.sliceAt,Instr.slice,Instr.sliceBounds,Instr.sliceBound,gI,bo,run_underlying hu,bd,(aA _ _ eK).run_sizeOf,bR,gX,qj,b1 az b7,b1 az BH,iU];rw[ck ⟨by omega,by omega⟩];simp only[bR,bd,ll];rw[ck ⟨by omega,by omega⟩];simp
   ·exact af.elim
  ·rename_i sz eW z s aq ab;have hu:=(aA _ _ aq).string;have gI:=b1 az ab;split at af
   ·rename_i dx dU;have r4:lo=none:=by simpa using dx
    have r5:hi=none:=by simpa using dU
    subst r4;subst r5;refine eJ ?_ af;have ax:s.extract 0 s.size=s:=by apply nV;simp[yF]
    simp[execOp,Instr.sliceAt,Instr.slice,Instr.sliceBounds,gI,run_underlying hu,ax]
   ·rename_i dq hz dx dU;have r4:lo=none:=by simpa using dx
    subst r4;obtain⟨BE,rfl,b7⟩:=nU.1 dU;obtain⟨l,aa,yV,rfl,hle,vW,aj⟩:=af;refine eJ ?_ aj;simp only[execOp,Instr.sliceAt,Instr.slice,Instr.sliceBounds,Instr.sliceBound,gI,bo,run_underlying hu,bd,bR,gX,qj,b1 az b7,iU];simp only[Bq,gG,g9,bo,bR,bd,iU];rw[ck ⟨by omega,by omega⟩];simp
   ·rename_i dq yW dx dU;have r5:hi=none:=by simpa using dU
    subst r5;obtain⟨BF,rfl,b7⟩:=nU.1 dx;obtain⟨l,aa,rfl,BG,hle,vW,aj⟩:=af;simp only[mV,hs]at *;refine eJ ?_ aj;simp only[execOp,Instr.sliceAt,Instr.slice,Instr.sliceBounds,Instr.sliceBound,gI,bo,run_underlying hu,bd,bR,gX,qj,b1 az b7,iU];simp only[Bq,gG,g9,bo,bR,bd,iU];rw[ck ⟨by omega,by omega⟩];simp
   ·rename_i dq yW NI hz dx dU;obtain⟨BF,rfl,b7⟩:=nU.1 dx;obtain⟨BE,rfl,BH⟩:=nU.1 dU;obtain⟨l,aa,rfl,rfl,hle,vW,aj⟩:=af;refine eJ ?_ aj;simp only[execOp,Instr.sliceAt,Instr.slice,Instr.sliceBounds,Instr.sliceBound,gI,bo,run_underlying hu,bd,bR,gX,qj,b1 az b7,b1 az BH,iU];simp only[Bq,gG,g9,bo,bR,bd,iU];rw[ck ⟨by omega,by omega⟩];simp only[bR,bd,ll];rw[ck ⟨by omega,by omega⟩];simp
   ·exact af.elim
  ·exact Or.inl af
 case extract x i=>
  simp only[bw]at af;split at af
  ·rename_i vs ab;split at af
   ·rename_i v hi;refine eJ ?_ af;have cr:vs[i]?=some v:=by simpa using hi
    simp[execOp,Instr.extract,b1 az ab,cr]
   ·exact af.elim
  ·exact af.elim
 case convert s d x=>
  simp only[bw]at af;split at af;·rename_i Xm sz eW z k cG n an aq ab;have hu:=(aA _ _ aq).int;obtain⟨ds,di,_⟩:=(aA _ _ an).dr;obtain⟨r,al,aj⟩:=af;refine eJ ?_ aj;simp only[execOp,convert,b1 az ab,bo,run_underlying di,run_underlying hu,bd];simp only[Conv.intToInt,al,bR,bd]
  ·exact Or.inl af
 case call c=>
  obtain⟨callee,args,argTypes⟩:=c;cases callee with
  |value f=>exact .inl af| invoke r m=>exact .inl af
  |builtin b=>
   cases b
   case len=>
    simp only[bw]at af;split at af
    ·rename_i t v U aa;have ax:=mc az aa;have cq:args.map a.eval=#[v]:=by apply dT;simpa using ax
     have aq:argTypes=#[t]:=by apply dT;simpa using U
     subst aq;split at af;·rename_i sz eW z e ad n c bJ;have hu:=(aA _ _ bJ).slice;refine eJ ?_ af;simp[execOp,resolve,invoke,builtin,Builtin.len_,cq,run_underlying hu,goInt]
     ·rename_i sz eW z s bJ;have hu:=(aA _ _ bJ).string;refine eJ ?_ af;simp[execOp,resolve,invoke,builtin,Builtin.len_,cq,run_underlying hu,goInt]
     ·rename_i sz eW z n e bJ;have hu:=(aA _ _ bJ).array;refine eJ ?_ af;simp[execOp,resolve,invoke,builtin,Builtin.len_,cq,run_underlying hu,goInt]
     ·exact Or.inl af
    ·exact Or.inl af
   case cap=>
    simp only[bw]at af;split at af
    ·rename_i t v U aa;have ax:=mc az aa;have cq:args.map a.eval=#[v]:=by apply dT;simpa using ax
     have aq:argTypes=#[t]:=by apply dT;simpa using U
     subst aq;split at af;·rename_i sz eW z e ad n c bJ;have hu:=(aA _ _ bJ).slice;refine eJ ?_ af;simp[execOp,resolve,invoke,builtin,Builtin.cap_,cq,run_underlying hu,goInt]
     ·exact Or.inl af
    ·exact Or.inl af
   case max=>
    simp only[bw]at af;split at af
    ·rename_i k p cG q aa;have ax:=mc az aa;have cq:args.map a.eval=#[.int k p,.int cG q]:=by apply dT;simpa using ax
     refine eJ ?_ af;have hm:(if q > p then q else p)=max p q:=by split<;>omega
     simp only[execOp,resolve,invoke,builtin,Builtin.max_,Builtin.max2,cq,bo,bR,bd,List.foldlM_cons,List.foldlM_nil,hm]
    ·exact Or.inl af
   case min=>
    simp only[bw]at af;split at af
    ·rename_i k p cG q aa;have ax:=mc az aa;have cq:args.map a.eval=#[.int k p,.int cG q]:=by apply dT;simpa using ax
     refine eJ ?_ af;have hm:(if q<p then q else p)=min p q:=by split<;>omega
     simp only[execOp,resolve,invoke,builtin,Builtin.min_,Builtin.min2,cq,bo,bR,bd,List.foldlM_cons,List.foldlM_nil,hm]
    ·exact Or.inl af
   case unsafeSliceData=>
    simp only[bw]at af;split at af
    ·rename_i n c aa;have ax:=mc az aa;have cq:args.map a.eval=#[.slice none n c]:=by apply dT;simpa using ax
     refine eJ ?_ af;simp only[execOp,resolve,invoke,builtin,cq,bo,bR,bd,Lib.run_unsafeSliceData_nil]
    ·rename_i ad n c aa;obtain⟨ak,af⟩:=af;have ax:=mc az aa;have cq:args.map a.eval=#[.slice (some ad) n c]:=by apply dT;simpa using ax
     refine eJ ?_ af;simp only[execOp,resolve,invoke,builtin,cq,bo,bR,bd,Lib.run_unsafeSliceData_row _ _ _ _ _ _ (show c≠0 by omega)]
    ·exact Or.inl af
   all_goals exact .inl af
 all_goals exact .inl af
def tQ(aA:bV X.P X.E)(ao:∀ d,o.dst=some d->d<X.n)(h:Rel X a w F C I M)(af:dW X o F C I M K):o.wpIn (dV X) 0 X.P a w (Sat X K) Q:=by
 have aM:=h;obtain⟨β,h⟩:=h;obtain⟨dst,op,ty,pos,after,guard⟩:=o;have other:a9 X ⟨dst,op,ty,pos,after,guard⟩ F C I M K->(⟨dst,op,ty,pos,after,guard⟩:Oper).wpIn (dV X) 0 X.P a w (Sat X K) Q:=λ⟨h⟩=>h a w Q aM;have az:=h.ah;have quiet:bw X op (bZ F) C I M (λx=>K (Go.V.put dst x F) C I M) (a9 X ⟨dst,op,ty,pos,after,guard⟩ F C I M K)->(∀ c,op≠.defer c)->(⟨dst,op,ty,pos,after,guard⟩:Oper).wpIn (dV X) 0 X.P a w (Sat X K) Q:=λaR bI=>by
  rcases GY aA h op ty dst pos after guard aR with U | ⟨v,x,al,ab,aj⟩;·exact other U
  ·exact GN (o:=⟨dst,op,ty,pos,after,guard⟩) h ao bI al ab aj
 cases op
 case box t x=>
  simp only[dW]at af;split at af
  ·rename_i d v ab;have gI:=b1 az ab;have al:(execOp a.eval ⟨some d,.box t x,ty,pos,after,guard⟩).run X.P w=.ok (.value (.pointer (some ⟨w.heap.size,0,none⟩))) (w.alloc (.cells v.cells t (0,0))):=by simp[execOp,Instr.box,newVar,newRow,gI,rU]
   have eC:d<X.n:=ao d rfl;cases gi:X.eX.contains d with
   |true=>rw[gi]at af;obtain⟨af⟩:=af;have aj:=af w.heap.size h.holds.lr h.holds.kG;have U:=(h.j1 (.cells v.cells t (0,0))).BA d;exact fC (by simp) al ⟨_,_,_,_,⟨β,bE.put U (dst:=some d) (x:=.val (.pointer (some ⟨w.heap.size,0,none⟩))) (by simpa using eC) rfl⟩,aj⟩
   |false=>rw[gi]at af;obtain⟨iT,U⟩:=h.GI d eC v.cells.toList t;exact fC (by simp) al ⟨_,_,_,_,⟨iT,by simpa using U⟩,af⟩
  ·exact af.elim
 case alloc t=>
  simp only[dW]at af;split at af
  ·rename_i d i hi;obtain⟨z,a2,pu⟩:=(aA _ _ hi).vP w;have tO:z.cells=i.zero.toArray:=by rw[<-pu]
   have al:(execOp a.eval ⟨some d,.alloc t,ty,pos,after,guard⟩).run X.P w=.ok (.value (.pointer (some ⟨w.heap.size,0,none⟩))) (w.alloc (.cells i.zero.toArray t (0,0))):=by simp[execOp,Instr.alloc,newVar,newRow,a2,tO,rU]
   have eC:d<X.n:=ao d rfl;cases gi:X.eX.contains d with
   |true=>rw[gi]at af;obtain⟨af⟩:=af;have aj:=af w.heap.size h.holds.lr h.holds.kG;have U:=(h.j1 (.cells i.zero.toArray t (0,0))).BA d;exact fC (by simp) al ⟨_,_,_,_,⟨β,bE.put U (dst:=some d) (x:=.val (.pointer (some ⟨w.heap.size,0,none⟩))) (by simpa using eC) rfl⟩,aj⟩
   |false=>rw[gi]at af;obtain⟨iT,U⟩:=h.GI d eC i.zero t;exact fC (by simp) al ⟨_,_,_,_,⟨iT,U⟩,af⟩
  ·exact af.elim
 case store t x y=>
  simp only[dW]at af;split at af
  ·rename_i i v hi aE;have qs:=b1 az aE;split at af
   ·rename_i s off ab;have gI:=rZ az ab;split at af
    ·rename_i cs an;cases hle:(Nat.ble (off+i.size) cs.length&&(Nat.beq v.cells.size i.size&&eP v.cells.toList))with
     |false=>rw[hle]at af;exact af.elim| true=>rw[hle]at af;simp only[bs]at hle;obtain⟨hle,bW,j3⟩:=hle;have vV:=bk hle;have r6:=cb bW;obtain⟨T,bJ⟩:=(h.bq s cs an).at_;have:=yU (aA _ _ hi) (a:=⟨β s,off,none⟩) (v:=v) rfl bJ r6 (by simp;omega) j3;refine tK (by simp) (w':=w.setRow (β s) (bt cs off v.cells.toList).toArray) ?_ ⟨_,_,_,_,⟨β,h.GL an (bt cs off v.cells.toList)⟩,af⟩;simp only[execOp,Instr.storeAt,gI,qs,Instr.sureAddr,bo,bR,bd];simp only[Bo]at this;rw[this];rfl
    ·exact af.elim
   ·rename_i ad ab;have gI:=m0 az ab;cases bW:Nat.beq v.cells.size i.size with
    |false=>rw[bW]at af;exact af.elim| true=>rw[bW]at af;obtain⟨pre,post,cs,T,aZ,cX,ag,j3,aj⟩:=af;have r6:=cb bW;have aw:w.heap[ad.block]?=some (.cells cs T (0,0)):=h.holds.m ⟨ad.block,.cells cs T (0,0)⟩ (by rw[aZ];simp);have:=yU (aA _ _ hi) (v:=v) cX aw r6 ag j3;refine tK (by simp) (w':=w.setRow ad.block (bt cs.toList ad.off v.cells.toList).toArray) ?_ ⟨_,_,_,_,⟨β,h.qm aZ⟩,aj⟩;simp only[execOp,Instr.storeAt,gI,qs,Instr.sureAddr,bo,bR,bd];rw[this];rfl
   ·exact af.elim
  ·exact af.elim
 case buildSlice t len parts=>
  simp only[dW]at af;split at af
  ·rename_i sz eW z e vs aq e5;have hu:=(aA _ _ aq).slice;have aK:=yQ az e5;have qq:(parts.map λ(i,x)=>(i,a.eval x)).toList=vs:=by simpa using aK
   split at af
   ·rename_i av eK;cases a2:(Nat.ble (len*av.size) 16777216&&Nat.blt 0 (len*av.size))with
    |false=>
     rw[a2]at af;simp only[bj]at af;split at af
     ·rename_i NJ;obtain⟨af⟩:=af;have aj:=af w.heap.size h.holds.lr h.holds.kG;refine fC (by simp) (v:=.slice (some ⟨w.heap.size,0,none⟩) 0 0) (w':=w.alloc (.cells #[] e (0,0))) ?_ ⟨_,_,_,_,⟨β,(h.j1 _).put (x:=.val (.slice (some ⟨w.heap.size,0,none⟩) 0 0)) ao rfl⟩,aj⟩;simp only[execOp,Instr.buildSlice,bo,bd,run_underlying hu,(aA _ _ eK).run_sizeOf,qq];have cv:∀ f:Nat->Value,Array.map f (Array.range 0)=#[]:=λf=>by apply Array.ext<;>simp
      simp[newRow,rU,Instr.fill,cv]
     ·exact af.elim
    |true=>
     rw[a2]at af;simp only[bn]at af;rw[bs]at a2;have hle:=bk a2.1;have nZ:0<len*av.size:=by simpa using a2.2
     split at af;·rename_i cells r2;obtain⟨mf,r7,pu⟩:=(aA _ _ eK).vP w;obtain⟨af⟩:=af;have aj:=af w.heap.size h.holds.lr h.holds.kG;refine fC (by simp) (v:=.slice (some ⟨w.heap.size,0,none⟩) len len) (w':=w.alloc (.cells cells.toArray e (0,0))) ?_ ⟨_,_,_,_,⟨β,(h.j1 _).put (x:=.val (.slice (some ⟨w.heap.size,0,none⟩) len len)) ao rfl⟩,aj⟩;have r3:=fill_eq _ _ _ _ r2;simp only[execOp,Instr.buildSlice,bo,bd,run_underlying hu,(aA _ _ eK).run_sizeOf];rw[cd (by omega)];simp only[cd (show ¬ len*av.size=0 by omega),bo,r7,bd,bR,qq,GU mf av.zero pu,r3];simp[newRow,rU]
     ·exact af.elim
   ·exact af.elim
  ·exact af.elim
 case makeSlice t l c=>
  simp only[dW]at af;split at af
  ·rename_i sz eW z e vX bY h2 c' aq au aB;have hu:=(aA _ _ aq).slice;split at af
   ·rename_i av eK;obtain⟨n,m,rfl,rfl,vY,ag,hm,⟨af⟩⟩:=af;have aj:=af w.heap.size h.holds.lr h.holds.kG;obtain⟨inf,mf,ec,gK,fD,g1,r8⟩:=(aA _ _ eK).inf;refine fC (by simp) (v:=.slice (some ⟨w.heap.size,0,none⟩) n m) (w':=w.alloc (.cells (rowOf av.zero (m*av.size)).toArray e (0,0))) ?_ ⟨_,_,_,_,⟨β,(h.j1 _).put (x:=.val (.slice (some ⟨w.heap.size,0,none⟩) n m)) ao rfl⟩,aj⟩;have kK:((av.bytes:Nat):Int)*(m:Int)<=281474976710656:=by
     have aa:((av.bytes*m:Nat):Int)<=281474976710656:=by omega
     simpa using aa
    have:=run_make (P:=X.P) w t e inf mf hu ec g1 vX h2 (n:Int) (m:Int) (by omega) (by omega) (by rw[fD];exact kK) (by omega);simp only[execOp,b1 az au,b1 az aB,bo,this,bd,bR,ll];have ax:madeCells mf.cells (m*inf.size)=(rowOf av.zero (m*av.size)).toArray:=by rw[gK,<-r8];simp[tJ]
    rw[ax]
   ·exact af.elim
  ·exact af.elim
 case call c=>
  obtain⟨callee,args,argTypes⟩:=c;cases callee with
  |value f=>
   simp only[dW]at af;split at af
   ·rename_i g first cap vs qt e5
    have ax:=mc az e5;have cq:args.map a.eval=vs.toArray:=by apply dT;simpa using ax
    have dg:∀ {n:Next} {w':World},(callFunc g (first.toList++vs++cap.toList).toArray).run X.P w=.ok n w'->(execOp a.eval ⟨dst,.call { callee:=.value f,args,argTypes },ty,pos,after,guard⟩).run X.P w=.ok n w':=λal=>by simp only[execOp,resolve,b1 az qt,Deferred.ofValue,bo,bR,bd,cq,invoke];rw[show first++vs.toArray++cap=(first.toList++vs++cap.toList).toArray from by apply dT;simp];exact al
    rcases h.call af with⟨j2,r9⟩ | ⟨v,w',I',M',al,aj,eR⟩;·refine GS (by simp) (f:=g) (args:=(first.toList++vs++cap.toList).toArray) (dg (j2 _ _)) ?_;refine r9.mono ?_;rintro e w'⟨v,I',M',rfl,aj,al⟩;exact⟨v,rfl,_,_,_,_,⟨β,al.put (x:=.val v) ao rfl⟩,aj⟩
    ·exact fC (by simp) (dg al) ⟨_,_,_,_,⟨β,eR.put (x:=.val v) ao rfl⟩,aj⟩
   ·exact other af
  |invoke r m=>exact quiet af (by simp)
  |builtin b=>
   cases b
   all_goals exact quiet af (by simp)
 case defer c=>exact other af
 all_goals exact quiet af (by simp)
end
section
variable{X:bO}{β:Nat->Nat}{a:Act}{w:World}{F:Fr}{C:b6}{I:aG}{M:List aC}{o:Oper}{Q:Exit->Act->World->Prop}{K:dE}
def tR{d:Nat}{c:Bool}(h:a.tmps.getD d undef=.bool c):a.tmps[d]?=some (.bool c):=by
 rw[jt]at h;cases ao:a.tmps[d]? with
 |none=>rw[ao]at h;cases h| some v=>rw[ao]at h;simp at h;rw[h]
def vZ{ops:Array Oper}{j d:Nat}(ao:(ops[j]?).bind (·.dst)=some d)(tmps:Array Value):yielded ops tmps j=match tmps[d]? with
  |some (.bool b)=>some b| _=>none:=by
 unfold yielded;rw[ao];rfl
def bE.refine(h:bE X β a w F C I M){cy:Fr}(bM:∀ t,cI β (cy t) (a.tmps.getD t undef)):bE X β a w cy C I M:={ h with ah:=bM }
def GZ(aA:bV X.P X.E)(ops:Array Oper)(m3:∀ a w,Sat X K a w->Q .normal a w):∀ (l:List Oper) (k:Nat),(∀ j,l[j]?=ops[k+j]?)->(∀ o∈l,∀ d,o.dst=some d->d<X.n) -> ∀ {F C I M a w},Rel X a w F C I M->mZ X ops.toList l F C I M K->wpOpsIn (dV X) 0 X.P ops Q (List.range' k l.length) a w
 |[],k,_,_,F,C,I,M,a,w,aM,af=>m3 _ _ ⟨F,C,I,M,aM,af⟩
 |o::rest,k,au,ao,F,C,I,M,a,w,aM,af=>by
  have aD:ops[k]?=some o:=by simpa using(au 0).symm
  have kL:∀ j,rest[j]?=ops[k+1+j]?:=λj=>by have:=au (j+1);simpa[kD,yM 1 j]using this
  have e7:∀ o∈rest,∀ d,o.dst=some d->d<X.n:=λo ar=>ao o (by simp[ar]);have qu:=ao o (by simp);have aX:=@GZ aA ops m3 rest (k+1) kL e7;simp only[c8,List.range'_succ,wpOpsIn,aD];have run:∀ {F C I M},Rel X a w F C I M->dW X o F C I M (λF C I M=>mZ X ops.toList rest F C I M K)->o.wpIn (dV X) 0 X.P a w (wpOpsIn (dV X) 0 X.P ops Q (List.range' (k+1) rest.length)) Q:=λaM af=>
   l9 (λbl w' ⟨cy,C',I',M',al,aj⟩=>aX al aj) (tQ aA qu aM af)
  have skip:∀ {F C I M},Rel X a w F C I M->mZ X ops.toList rest (put o.dst (.val undef) F) C I M K->(∀ f,o.about X.P w a.eval=some f->(dV X).fn f)/\wpOpsIn (dV X) 0 X.P ops Q (List.range' (k+1) rest.length) (a.put o.dst undef) w:=λ⟨β,al⟩ af=>
   ⟨λ_ _=>trivial,aX ⟨β,al.put (x:=.val undef) qu rfl⟩ af⟩
  unfold mZ at af;cases aw:o.guard with
  |none=>
   rw[aw]at af;have hw:Region.wanted o (yielded ops a.tmps)=true:=by simp[Region.wanted,aw]
   rw[ck hw];exact run aM af
  |some v0=>
   obtain⟨j,b⟩:=v0;rw[aw]at af;simp only at af;cases ap:(ops.toList[j]?).bind (·.dst)with
   |none=>rw[ap]at af;exact af.elim
   |some d=>
    rw[ap]at af;simp only at af;have iB:(ops[j]?).bind (·.dst)=some d:=by simpa using ap
    have aE:=vZ iB a.tmps;obtain⟨β,al⟩:=aM;have bM:=al.ah d;split at af
    ·rename_i c aB;rw[aB]at bM;have BI:=tR bM;have v3:Region.wanted o (yielded ops a.tmps)=(c == b):=by simp[Region.wanted,aw,aE,BI]
     rw[v3];cases fE:(c == b)with
     |true=>rw[fE]at af;simp only[kE];exact run ⟨β,al⟩ af| false=>rw[fE]at af;simp only[gG,g9];exact skip ⟨β,al⟩ af
    ·rename_i c aB;rw[aB]at bM;have BI:=tR bM;have v3:Region.wanted o (yielded ops a.tmps)=(c == b):=by simp[Region.wanted,aw,aE,BI]
     rw[v3];obtain⟨tS,n1⟩:=af;have set:∀ x:Bool,c=x->Rel X a w (dK F d (.lit x)) C I M:=λx ab=>⟨β,al.refine λt=>by
      unfold dK;by_cases e:t=d;·subst e;simp only[kF,bn];rw[<-ab];exact bM
      ·simp only[eQ e,bj];exact al.ah t⟩
     by_cases fE:c=b
     ·have:(c == b)=true:=by simp[fE]
      rw[this];simp only[kE];exact run (set b fE) (tS fE)
     ·have aa:c=!b:=by cases c<;>cases b<;>simp_all
      have:(c == b)=false:=by simp[fE]
      rw[this];simp only[gG,g9];exact skip (set _ aa) (n1 aa)
    ·rename_i vs aB;rw[aB]at bM;have r':yielded ops a.tmps j=none:=by
      rw[aE];cases jw:a.tmps[d]? with
      |none=>rfl| some v=>simp only[cI,jt,jw,hs]at bM;subst bM;rfl
     have v3:Region.wanted o (yielded ops a.tmps)=false:=by simp[Region.wanted,aw,r']
     rw[v3];simp only[gG,g9];exact skip ⟨β,al⟩ af
    ·exact af.elim
end
inductive v5:b0->b0->Prop
 |refl{x}:v5 x x| lit {b}:v5 (.lit b) (.val (.bool b))| hZ {x}:v5 x .hZ
def mg:List (Nat×b0)->Fr
 |[],_=>.hZ|(t,x)::l,s=>bif Nat.beq s t then x else mg l s
def mh:List (Nat×List Value)->b6
 |[],_=>none|(t,x)::l,s=>bif Nat.beq s t then some x else mh l s
inductive gL(F:Fr):List (Nat×b0)->Prop
 |nil:gL F []| cons {t x l} (h:v5 (F t) x) (k:gL F l):gL F ((t,x)::l)
inductive qv(C:b6):List (Nat×List Value)->Prop
 |nil:qv C []| cons {t x l} (h:C t=some x) (k:qv C l):qv C ((t,x)::l)
def NK{β:Nat->Nat}{x y:b0}(h:v5 x y)(ab:cI β x v):cI β y v:=by
 cases h with
 |refl=>exact ab| lit=>exact ab| hZ=>trivial
def gL.ok{β:Nat->Nat}{F:Fr}(h:∀ t,cI β (F t) (a.tmps.getD t undef)){l:List (Nat×b0)}(au:gL F l)(t:Nat):cI β (mg l t) (a.tmps.getD t undef):=by
 induction au with
 |nil=>trivial
 | @cons cD x l ab k aX=>
  unfold mg;by_cases e:t=cD;·subst e;simp only[kF,bn];exact NK ab (h t)
  ·simp only[eQ e,bj];exact aX
def qv.ok{C:b6}{l:List (Nat×List Value)}(au:qv C l){s:Nat}{cs:List Value}(h:mh l s=some cs):C s=some cs:=by
 induction au with
 |nil=>cases h
 | @cons cD x l ab k aX=>
  unfold mh at h;by_cases e:s=cD;·subst e;simp only[kF,bn]at h;rw[ab,h]
  ·simp only[eQ e,bj]at h;exact aX h
def bE.base{X:bO}{β:Nat->Nat}{F:Fr}{C:b6}{I:aG}{M:List aC}(h:bE X β a w F C I M){b8:List (Nat×b0)}{cl:List (Nat×List Value)}(bM:gL F b8)(lu:qv C cl):bE X β a w (mg b8) (mh cl) I M:=
 { h with
  ah:=bM.ok h.ah
  bq:=λs cs an=>h.bq s cs (lu.ok an)
  inj:=λs bx U aa=>by
   obtain⟨fu,ax⟩:=yD.1 U;obtain⟨fF,aS⟩:=yD.1 aa;exact h.inj s bx (by rw[lu.ok ax];simp) (by rw[lu.ok aS];simp) }
inductive m4 where
 |normal| exit (id:Nat)| goto (l:Nat)| ret
abbrev hA:=m4->dE
def sb(N:dE)(K:hA):hA
 | .normal=>N| .exit id=>K (.exit id)| .goto l=>K (.goto l)| .ret=>K .ret
def G0(id:Nat)(K:hA):hA
 | .normal=>K .normal| .exit j=>bif Nat.beq j id then K .normal else K (.exit j)| .goto l=>K (.goto l)| .ret=>K .ret
def jx(X:bO)(K:hA):Exit->Act->World->Prop
 | .normal,a,w=>Sat X (K .normal) a w| .exit id,a,w=>Sat X (K (.exit id)) a w| .goto l,a,w=>Sat X (K (.goto l)) a w| .ret,a,w=>Sat X (K .ret) a w| .panic _,_,_=>False| .outgrown,_,_=>False
abbrev Body:=Fr->b6->aG->List aC->hA->Prop
structure sc where
 b8:List (Nat×b0)
 cl:List (Nat×List Value):=[]
 dL:aG
 fg:List aC:=[]
inductive mi{ι:Type}(bA:List Nat)(a3:ι->sc)(p:ι->Prop)(F:Fr)(C:b6)(I:aG)(M:List aC):Prop
 |mk(j:ι)(aK:p j)(hw:ht bA I M (a3 j).dL (a3 j).fg)(bM:gL F (a3 j).b8)(lu:qv C (a3 j).cl)
def BJ(body:Body)(K:hA):Nat->dE
 |0=>λ_ _ _ _=>False
 |n+1=>λF C I M=>body F C I M (sb (BJ body K n) K)
inductive fh(bA:List Nat)(body:Body)(F:Fr)(C:b6)(I:aG)(M:List aC)(K:hA):Prop
 |inv {ι:Type} (a3:ι->sc) (inv:ι->Prop) (μ:ι->Nat) (start:mi bA a3 inv F C I M) (round:∀ i,inv i->body (mg (a3 i).b8) (mh (a3 i).cl) (a3 i).dL (a3 i).fg (sb (mi bA a3 λj=>inv j/\μ j<μ i) K))| NL (n:Nat) (h:BJ body K n F C I M)| NM {ι:Type} (a3:ι->sc) (inv:ι->Prop) (μ:ι->Nat) (start:ph I M->mi bA a3 inv F C I M) (round:∀ i,inv i->body (mg (a3 i).b8) (mh (a3 i).cl) (a3 i).dL (a3 i).fg (sb (λF C I M=>ph I M->mi bA a3 (λj=>inv j/\μ j<μ i) F C I M) K))
inductive dt(X:bO)(c:Code)(F:Fr)(C:b6)(I:aG)(M:List aC)(K:hA):Prop
 |mk(h:∀ a w,Rel X a w F C I M->c.wpIn (dV X) 0 X.P (jx X K) a w)
inductive NN(bA:List Nat)(F:Fr)(C:b6)(I:aG)(M:List aC)(K:dE):Prop
 |go(h:K F C I M)| NO (l:sc) (hw:ht bA I M l.dL l.fg) (bM:gL F l.b8) (lu:qv C l.cl) (h:K (mg l.b8) (mh l.cl) l.dL l.fg)
def V(X:bO):Code->Fr->b6->aG->List aC->hA->Prop
 | .skip,F,C,I,M,K=>K .normal F C I M| .label l,F,C,I,M,K=>bif Nat.ble 2 l then NN X.bA F C I M (K .normal)else K .normal F C I M| .ret,F,C,I,M,K=>K .ret F C I M| .exit id,F,C,I,M,K=>K (.exit id) F C I M| .goto l,F,C,I,M,K=>K (.goto l) F C I M| .seq x y,F,C,I,M,K=>V X x F C I M (sb (λF C I M=>V X y F C I M K) K)| .block id c,F,C,I,M,K=>V X c F C I M (G0 id K)
 | .cond c x y,F,C,I,M,K=>
  match bZ F c with
  | .lit b=>bif b then V X x F C I M K else V X y F C I M K| .val (.bool b)=>a1 b (V X x F C I M K) (V X y F C I M K)| _=>False
 | .loop c,F,C,I,M,K=>fh X.bA (V X c) F C I M K| .region _ ops false,F,C,I,M,K=>mZ X ops.toList ops.toList F C I M (K .normal)| .region id ops true,F,C,I,M,K=>dt X (.region id ops true) F C I M K| .rangeFunc f ps cV body,F,C,I,M,K=>dt X (.rangeFunc f ps cV body) F C I M K| .scope c,F,C,I,M,K=>dt X (.scope c) F C I M K| .refuse _,_,_,_,_,_=>False
def tT(n:Nat)(ops:Array Oper):Bool:=ops.toList.all λo=>match o.dst with
 |some d=>Nat.blt d n| none=>true
def codeOk(n:Nat):Code->Bool
 | .seq x y=>codeOk n x&&codeOk n y| .block _ c=>codeOk n c| .cond _ x y=>codeOk n x&&codeOk n y| .loop c=>codeOk n c| .region _ ops _=>tT n ops| _=>true
def yX{ops:Array Oper}(h:tT n ops=true):∀ o∈ops.toList,∀ d,o.dst=some d->d<n:=by intro o ar d ao;have:=eO.1 h o ar;rw[ao]at this;simpa using this
def jx.then{X:bO}{N:dE}{K:hA}(aF:∀ a w,Sat X N a w->next a w):∀ e a w,jx X (sb N K) e a w->Exit.then next (jx X K) e a w:=by
 intro e a w h;cases e<;>first | exact aF _ _ h | exact h
def yY(J:Nat->Act->World->Prop)(NP:J m a w)
  (round:∀ m a w,J m a w->c.wpIn lq n P (Exit.then (λbl w'=>∃ m',m'<m/\J m' bl w') Q) a w):(Code.loop c).wpIn lq n P Q a w:=by
 intro b k cs hb ag al;have key:∀ j a w,J j a w->∃ e bl w',Q e bl w'/\ArrivesIn (Machine.fenced P lq) P (lone (b.atR a (.code c::.inLoop c::k)) cs w) b k cs e bl w':=by
  intro j
  induction j using Nat.strongRecOn with
  |_ j aX=>
   intro a w a7;obtain⟨e,fR,fS,aR,fi⟩:=round j a w a7 b (.inLoop c::k) cs hb ag al;cases e with
   |normal=>obtain⟨m',a0,NQ⟩:=aR;obtain⟨v7,v8,v9,v',wa⟩:=aX m' a0 fR fS NQ;exact⟨v7,v8,v9,v',.of_steps (StepsIn.trans fi (.one (fenced_calm ag al rfl) stepR_inLoop)) wa⟩
   |exit id=>exact⟨_,fR,fS,aR,.pass (x:=.inLoop c) rfl (λ_ _=>.inl (by simp)) fi⟩| goto l=>exact⟨_,fR,fS,aR,.pass (x:=.inLoop c) rfl (λ_ _=>.inl (by simp)) fi⟩| ret=>exact⟨_,fR,fS,aR,.pass (x:=.inLoop c) rfl (λ_ _=>.inl (by simp)) fi⟩| panic sd=>exact⟨_,fR,fS,aR,.pass (x:=.inLoop c) rfl (λ_ _=>.inl (by simp)) fi⟩| outgrown=>exact⟨_,fR,fS,aR,.pass (x:=.inLoop c) rfl (λ_ _=>.inl (by simp)) fi⟩
 obtain⟨e,bl,w',aR,fi⟩:=key _ a w NP;exact⟨e,bl,w',aR,.of_steps (.one (fenced_calm ag al rfl) stepR_loop) fi⟩
def lv{X:bO}(aA:bV X.P X.E):∀ (c:Code) {F C I M K a w},codeOk X.n c=true->Rel X a w F C I M->V X c F C I M K->c.wpIn (dV X) 0 X.P (jx X K) a w
 | .skip,F,C,I,M,K,a,w,_,aM,af=>wpIn_skip ⟨F,C,I,M,aM,af⟩
 | .label l,F,C,I,M,K,a,w,_,aM,af=>by
  refine wpIn_label ?_;simp only[V]at af;cases au:Nat.ble 2 l with
  |false=>rw[au]at af;exact⟨F,C,I,M,aM,af⟩
  |true=>
   rw[au]at af;simp only[bn]at af;cases af with
   |go h=>exact⟨F,C,I,M,aM,h⟩| NO l hw bM lu h=>obtain⟨β,al⟩:=aM;exact⟨_,_,_,_,⟨β,(al.base bM lu).gh hw⟩,h⟩
 | .ret,F,C,I,M,K,a,w,_,aM,af=>wpIn_ret ⟨F,C,I,M,aM,af⟩| .exit id,F,C,I,M,K,a,w,_,aM,af=>wpIn_exit ⟨F,C,I,M,aM,af⟩| .goto l,F,C,I,M,K,a,w,_,aM,af=>wpIn_goto ⟨F,C,I,M,aM,af⟩| .seq x y,F,C,I,M,K,a,w,bm,aM,af=>by simp only[codeOk,bs]at bm;refine wpIn_seq (wpIn_mono (lv aA x bm.1 aM af) (jx.then ?_));rintro a w⟨cy,C',I',M',al,aj⟩;exact lv aA y bm.2 al aj
 | .block id c,F,C,I,M,K,a,w,bm,aM,af=>by
  refine wpIn_block (wpIn_mono (lv aA c bm aM af) ?_);intro e a w h;cases e with
  |exit j=>
   simp only[jx,G0]at h;simp only[Exit.inBlock];by_cases e:j=id;·subst e;simp only[kF,bn]at h;rw[ck rfl];exact h
   ·simp only[eQ e,bj]at h;rw[cd e];exact h
  |_=>exact h
 | .cond c x y,F,C,I,M,K,a,w,bm,aM,af=>by
  simp only[codeOk,bs]at bm;obtain⟨β,al⟩:=aM;simp only[V]at af;split at af
  ·rename_i b ag;have aB:=Bw al.ah ag;refine wpIn_cond aB ?_;cases b
   ·exact lv aA y bm.2 ⟨β,al⟩ af
   ·exact lv aA x bm.1 ⟨β,al⟩ af
  ·rename_i b ag;have aB:=m0 al.ah ag;refine wpIn_cond aB ?_;obtain⟨U,aa⟩:=af;cases b
   ·exact lv aA y bm.2 ⟨β,al⟩ (aa rfl)
   ·exact lv aA x bm.1 ⟨β,al⟩ (U rfl)
  ·exact af.elim
 | .loop c,F,C,I,M,K,a,w,bm,aM,af=>by
  have aX:=@lv X aA c;simp only[V]at af;have hinv:∀ {ι:Type} (a3:ι->sc) (inv:ι->Prop) (μ:ι->Nat) (start:ph I M->mi X.bA a3 inv F C I M)
    (round:∀ i,inv i->V X c (mg (a3 i).b8) (mh (a3 i).cl) (a3 i).dL (a3 i).fg (sb (λF C I M=>ph I M->mi X.bA a3 (λj=>inv j/\μ j<μ i) F C I M) K)),(Code.loop c).wpIn (dV X) 0 X.P (jx X K) a w:=by
   intro ι a3 inv μ start round;let J (m:Nat) (a:Act) (w:World):Prop:=∃ i,inv i/\μ i=m/\Rel X a w (mg (a3 i).b8) (mh (a3 i).cl) (a3 i).dL (a3 i).fg
   have qw:∀ {p:ι->Prop} {a w},(∀ i,p i->inv i)->Sat X (λF C I M=>ph I M->mi X.bA a3 p F C I M) a w->∃ i,p i/\J (μ i) a w:=by rintro p a w aK⟨F,C,I,M,⟨β,al⟩,tH⟩;obtain⟨j,m5,hw,bM,lu⟩:=tH ⟨al.holds.d,al.holds.bH⟩;exact⟨j,m5,j,aK j m5,rfl,β,(al.base bM lu).gh hw⟩
   obtain⟨i0,_,yZ⟩:=qw (λ_ h=>h) ⟨F,C,I,M,aM,start⟩;refine yY J yZ ?_;rintro m a w⟨i,hi,rfl,al⟩;refine wpIn_mono (aX bm al (round i hi)) ?_;intro e a w h;cases e with
   |normal=>obtain⟨j,⟨ap,a0⟩,fv⟩:=qw (λ_ h=>h.1) h;exact⟨_,a0,fv⟩
   |_=>exact h
  cases af with
  | @inv ι a3 inv μ start round=>
   let J (m:Nat) (a:Act) (w:World):Prop:=∃ i,inv i/\μ i=m/\Rel X a w (mg (a3 i).b8) (mh (a3 i).cl) (a3 i).dL (a3 i).fg
   have qw:∀ {p:ι->Prop} {a w},(∀ i,p i->inv i)->Sat X (mi X.bA a3 p) a w->∃ i,p i/\J (μ i) a w:=by rintro p a w aK⟨F,C,I,M,⟨β,al⟩,⟨j,m5,hw,bM,lu⟩⟩;exact⟨j,m5,j,aK j m5,rfl,β,(al.base bM lu).gh hw⟩
   obtain⟨i0,_,yZ⟩:=qw (λ_ h=>h) ⟨F,C,I,M,aM,start⟩;refine yY J yZ ?_;rintro m a w⟨i,hi,rfl,al⟩;refine wpIn_mono (aX bm al (round i hi)) ?_;intro e a w h;cases e with
   |normal=>obtain⟨j,⟨ap,a0⟩,fv⟩:=qw (λ_ h=>h.1) h;exact⟨_,a0,fv⟩
   |_=>exact h
  |NM a3 inv μ start round=>exact hinv a3 inv μ start round
  |NL n h=>
   refine yY (λm a w=>Sat X (BJ (V X c) K m) a w) ⟨F,C,I,M,aM,h⟩ ?_;rintro m a w⟨F,C,I,M,al,aj⟩;cases m with
   |zero=>exact aj.elim
   |succ m=>
    refine wpIn_mono (aX bm al aj) ?_;intro e a w h;cases e with
    |normal=>exact⟨m,yI m,h⟩| _=>exact h
 | .region id ops false,F,C,I,M,K,a,w,bm,aM,af=>by refine wpIn_region ?_;have:=GZ (K:=K .normal) (Q:=jx X K) aA ops (λ_ _ h=>h) ops.toList 0 (by simp) (yX bm) aM af;simpa[Bn]using this
 | .region id ops true,F,C,I,M,K,a,w,bm,aM,⟨af⟩=>af a w aM| .rangeFunc f ps cV body,F,C,I,M,K,a,w,bm,aM,⟨af⟩=>af a w aM| .scope c,F,C,I,M,K,a,w,bm,aM,⟨af⟩=>af a w aM| .refuse _,F,C,I,M,K,a,w,bm,aM,af=>af.elim
def se(args:List Value):Fr:=λt=>match args[t]? with
 |some v=>.val v| none=>.hZ
def m6(X:bO)(F:Fr)(C:b6)(I:aG)(M:List aC):List ResultVar->(List Value->Prop)->Prop
 |[],K=>K []
 | .tmp t::l,K=>match a' F (.tmp t)with
  | .val v=>m6 X F C I M l λvs=>K (v::vs)
  |_=>False
 | .cell t ty::l,K=>match bZ F (.tmp t),X.E ty with
  | .ref s off,some i=>(match C s with
   |some cs=>bif Nat.ble (off+i.size) cs.length then m6 X F C I M l λvs=>K (pack i.bc.agg ((cs.drop off).take i.size)::vs)else False
   |none=>False)
  | .val (.pointer (some a)),some i=>ba I M a i.size λws=>m6 X F C I M l λvs=>K (pack i.bc.agg ws::vs)
  |_,_=>False
inductive qx(bA:List Nat)(I:aG)(M:List aC)(post:aG->List aC->Prop):Prop
 |mk(I':aG)(M':List aC)(hw:ht bA I M I' M')(h:post I' M')
def qy(X:bO)(aV:List ResultVar)(post:Value->aG->List aC->Prop):hA:=λex F C I M=>
 let done:Prop:=m6 X F C I M aV λvs=>match vs with
  |[v]=>qx X.bA I M (post v)| vs=>qx X.bA I M (post (.tuple vs.toArray))
 match ex with
 | .normal=>done| .ret=>done| _=>False
def tU(tmps:Array Value):ResultVar->Sem Value
 | .tmp t=>pure (tmps.getD t undef)| .cell a t=>do loadVar t (<-asAddr (tmps.getD a undef))
def NR(fn:Func)(tmps:Array Value):results fn tmps=(do let vs <-fn.results.mapM (tU tmps);pure (if h:vs.size=1 then vs[0]else .tuple vs)):=by unfold results;congr 1
def y0{X:bO}(aA:bV X.P X.E){β:Nat->Nat}{a:Act}{w:World}{F:Fr}{C:b6}{I:aG}{M:List aC}(h:bE X β a w F C I M):∀ {aV:List ResultVar} {K:List Value->Prop},m6 X F C I M aV K -> ∃ vs,K vs/\(aV.mapM (tU a.tmps)).run X.P w=.ok vs w
 |[],K,af=>⟨[],af,rfl⟩
 | .tmp t::l,K,af=>by
  unfold m6 at af;split at af;·rename_i v U;have ax:a.tmps.getD t undef=v:=b1 h.ah U;obtain⟨vs,aj,aS⟩:=y0 aA h af;refine⟨_,aj,?_⟩;simp only[vK,tU,bo,bR,bd,aS,ax]
  ·exact af.elim
 | .cell t ty::l,K,af=>by
  unfold m6 at af;split at af
  ·rename_i s off i U hi;have ax:a.tmps.getD t undef=.pointer (some ⟨β s,off,none⟩):=rZ h.ah U;split at af
   ·rename_i cs an;cases hle:Nat.ble (off+i.size) cs.length with
    |false=>rw[hle]at af;exact af.elim| true=>rw[hle]at af;obtain⟨vs,aj,aS⟩:=y0 aA h af;have vV:=bk hle;obtain⟨T,bJ⟩:=(h.bq s cs an).at_;have b5:=yT (aA _ _ hi) (a:=⟨β s,off,none⟩) rfl bJ (vs:=(cs.drop off).take i.size) (by simp) (by simp;omega);refine⟨_,aj,?_⟩;simp only[vK,tU,bo,bR,bd,aS,ax,asAddr,b5]
   ·exact af.elim
  ·rename_i ad i U hi;have ax:a.tmps.getD t undef=.pointer (some ad):=m0 h.ah U;obtain⟨ws,⟨cX,cs,T,ah,gJ,e5,au⟩,af⟩:=af;obtain⟨vs,aj,aS⟩:=y0 aA h af;have b5:=yT (aA _ _ hi) cX (gJ.heap h.holds) e5 au;refine⟨_,aj,?_⟩;simp only[vK,tU,bo,bR,bd,aS,ax,asAddr,b5]
  ·exact af.elim
def NS{X:bO}(aA:bV X.P X.E){β:Nat->Nat}{F:Fr}{C:b6}{I:aG}{M:List aC}(h:bE X β a w F C I M){K:List Value->Prop}(af:m6 X F C I M fn.results.toList K) :
  ∃ vs,K vs/\(results fn a.tmps).run X.P w=.ok (match vs with | [v]=>v | vs=>.tuple vs.toArray) w:=by
 obtain⟨vs,aj,e⟩:=y0 aA h af;refine⟨vs,aj,?_⟩;rw[NR];have ax:(fn.results.mapM (tU a.tmps)).run X.P w=.ok vs.toArray w:=by rw[GC,Sem.run_map,e];rfl
 simp only[bo,ax,bd,bR]
 match vs with
 |[]=>rfl| [v]=>rfl| u::v::l=>simp
def G1{lq:Fence}{n:Nat}{P:Program}{fn:Func}{tmps:Array Value}{R:Ending->World->Prop}:∀ (aV:List Nat) (w:World),aV.Nodup->(∀ r∈aV,w.heap[r]?=some (.deferred (some []))) -> (∀ w':World,w'.heap.size=w.heap.size->(∀ b,b ∉ aV->w'.heap[b]?=w.heap[b]?)->iS w w'->∃ v,(results fn tmps).run P w'=.ok v w'/\R (.returned v) w')->LeavesInM lq n P fn tmps R (aV.map pj) .returning w
 |[],w,_,_,h=>h w rfl (λ_ _=>rfl) (.refl _)
 |r::aV,w,bI,al,h=>by
  rw[kB]at bI;refine⟨by simp,.inl ⟨r,_,rfl,run_takeDeferred (al r (by simp)),?_⟩⟩;refine G1 aV _ bI.2 (λkM eR=>?_) λw' an ag ar=>h w' (by rw[an];simp) (λb BK=>?_) ((yR _ _ _).trans ar);·have br:kM≠r:=λe=>bI.1 (e ▸ eR);rw[hV br];exact al kM (by simp[eR])
  ·simp only[cU,not_or]at BK;rw[ag b BK.2,hV BK.1]
def bE.take{X:bO}{β:Nat->Nat}{F:Fr}{C:b6}{I:aG}{M:List aC}(h:bE X β a w F C I M){aV:List Nat}(kN:∀ r∈aV,nY X w I M r)(an:w'.heap.size=w.heap.size)(ag:∀ b,b ∉ aV->w'.heap[b]?=w.heap[b]?)(ar:iS w w') :
  bE X β { a with defers:=[] } w' F C I M:=by
 exact {
  size:=h.size
  defers:=⟨[],rfl,tG,λr al=>by cases al⟩
  holds:={
   i:=λb o fO=>by rw[ag b (λal=>by have:=(kN b al).fM;rw[fO]at this;cases this)];exact h.holds.i b o fO
   m:=λx ab=>by rw[ag _ (λal=>(kN _ al).cM x ab rfl)];exact h.holds.m x ab
   d:=h.holds.d
   bH:=h.holds.bH }
  ah:=h.ah
  bq:=λs cs h3=>by have m7:=h.bq s cs h3;obtain⟨T,bJ⟩:=m7.at_;refine { m7 with at_:=⟨T,?_⟩ };rw[ag _ (λal=>by have:=(kN _ al).at_;rw[bJ]at this;cases this)];exact bJ
  inj:=h.inj
  eg:=h.eg
  eB:=h.eB
  own:=h.own
  cp:=λb a0 az=>by rw[ag _ (λal=>by have:=(kN _ al).base;omega)];exact h.cp b a0 az
  out:=h.out.trans ar
  sz:=by rw[an];exact h.sz }
def jx.ret{X:bO}(aA:bV X.P X.E){post:Value->aG->List aC->Prop}
  (aM:∀ v I M (w:World) (a:Act) (F:Fr) (C:b6),Rel X a w F C I M->post v I M->R (.returned v) w):∀ e a w,jx X (qy X fn.results.toList post) e a w->bodyPostM (dV X) 0 X.P fn R e a w:=by
 have main:∀ a w,Sat X (qy X fn.results.toList post .ret) a w->LeavesInM (dV X) 0 X.P fn a.tmps R a.defers .returning w:=by
  rintro a w⟨F,C,I,M,⟨β,al⟩,aj⟩;simp only[qy]at aj;obtain⟨aV,ao,bI,hm⟩:=al.defers;rw[ao];refine G1 aV w bI (λr BL=>(hm r BL).at_) λw' an ag ar=>?_;have eR:=al.take hm an ag ar;obtain⟨vs,aK,dg⟩:=NS aA eR aj;refine⟨_,dg,?_⟩
  match vs,aK with
  |[],⟨I',M',hw,aK⟩=>exact aM _ I' M' w' _ F C ⟨β,eR.gh hw⟩ aK| [v],⟨I',M',hw,aK⟩=>exact aM _ I' M' w' _ F C ⟨β,eR.gh hw⟩ aK| u::v::l,⟨I',M',hw,aK⟩=>exact aM _ I' M' w' _ F C ⟨β,eR.gh hw⟩ aK
 intro e a w h;cases e with
 |normal=>exact main a w h| ret=>exact main a w h| exit id=>obtain⟨F,C,I,M,_,aj⟩:=h;exact aj.elim
 |goto l=>obtain⟨F,C,I,M,_,aj⟩:=h;exact aj.elim
 |panic _=>exact h.elim| outgrown=>exact h.elim
def NT(az:P.funcs[f]?=some fn)(ag:fn.body.isSome=true)(aF:(fn.name == "runtime.NumGoroutine")=false):Bs P f:=by
 intro args w;have ft:fn.body.isNone=false:=by cases h:fn.body<;>simp_all
 simp only[callFunc,bo,run_program,bd,az,aF,gG,g9,ft];rfl
def G2{E:Env}(eX:List Nat)(aA:bV P E)(az:P.funcs[f]?=some fn)(ag:fn.body=some c)(aF:(fn.name == "runtime.NumGoroutine")=false)
 (bm:(codeOk fn.ntmps c&&Nat.ble args.length fn.ntmps)=true) {I:aG} {M:List aC} {post:Value->aG->List aC->Prop}
  (h:∀ B aD a w,Rel ⟨P,E,eX,fn.ntmps,B,aD,I,M.map (·.num),none⟩ a w (se args) (λ_=>none) I M->c.wpIn (dV ⟨P,E,eX,fn.ntmps,B,aD,I,M.map (·.num),none⟩) 0 P (jx ⟨P,E,eX,fn.ntmps,B,aD,I,M.map (·.num),none⟩ (qy ⟨P,E,eX,fn.ntmps,B,aD,I,M.map (·.num),none⟩ fn.results.toList post)) a w) :
  ql P f args I M post:=by
 rw[bs]at bm;have hlen:=bk bm.2;refine⟨NT az (by rw[ag];rfl) aF,λw g0=>?_⟩;let X:bO:=⟨P,E,eX,fn.ntmps,w.heap.size,w,I,M.map (·.num),none⟩
 have wb:Rel X { tmps:=args.toArray++Array.replicate (fn.ntmps-args.toArray.size) undef,defers:=[] } w (se args) (λ_=>none) I M:=⟨λ_=>0,{
  size:=by simp[X];omega
  defers:=⟨[],rfl,tG,λr al=>by cases al⟩
  holds:=g0
  ah:=λt=>by
   unfold se;cases aq:args[t]? with
   |none=>trivial| some v=>have a0:t<args.length:=(gf.1 aq).1;simp only[cI,jt];rw[Array.getElem?_append_left (by simpa using a0)];simp[aq]
  bq:=λs cs an=>by cases an
  inj:=λs bx U=>by simp at U
  eg:=λb o ag=>ag
  eB:=λb o ag=>.inl ag
  own:=λx ab=>.inl (dw.2 ⟨x,ab,rfl⟩)
  cp:=λb ag az=>rfl
  out:=.refl _
  sz:=cK _ }⟩
 have y1:=h w.heap.size w _ _ wb;refine(callsIn_wide (n:=0)).1 ?_;have NU:dV X=Fence.wide:=rfl;rw[NU]at y1;refine callsIn_of_wp_marks az ag trivial (wpIn_mono y1 (jx.ret (X:=X) aA ?_));rintro v I' M' w' bl cy C'⟨β,al⟩aK;refine⟨v,I',M',rfl,aK,al.holds,?_⟩;exact {
  le:=al.eg
  nX:=al.eB
  pg:=λx ab=>by
   rcases al.own x ab with U | U;·obtain⟨y,aE,e⟩:=dw.1 U;exact .inl ⟨y,aE,e⟩
   ·exact .inr U
  cp:=λb ag br=>al.cp b ag (λhm=>by
   obtain⟨y,aE,e⟩:=dw.1 hm;exact br y aE e)
  out:=al.out
  sz:=al.sz }
def wc{E:Env}(eX:List Nat)(aA:bV P E)(az:P.funcs[f]?=some fn)(ag:fn.body=some c)(aF:(fn.name == "runtime.NumGoroutine")=false)
 (bm:(codeOk fn.ntmps c&&Nat.ble args.length fn.ntmps)=true) {I:aG} {M:List aC} {post:Value->aG->List aC->Prop}
  (h:∀ B aD,V ⟨P,E,eX,fn.ntmps,B,aD,I,M.map (·.num),none⟩ c (se args) (λ_=>none) I M (qy ⟨P,E,eX,fn.ntmps,B,aD,I,M.map (·.num),none⟩ fn.results.toList post)) :
  ql P f args I M post:=
 G2 eX aA az ag aF bm λB aD a w al=>by rw[bs]at bm;exact lv aA c bm.1 al (h B aD)
def cB{E:Env}(eX:List Nat)(aA:bV P E)(az:P.funcs[f]?=some fn)(ag:fn.body=some c)(aF:(fn.name == "runtime.NumGoroutine")=false)
 (bm:(codeOk fn.ntmps c&&Nat.ble args.length fn.ntmps)=true) {I:aG} {M:List aC} {post:Value->aG->List aC->Prop}
  (h:∀ B aD,V ⟨P,E,eX,fn.ntmps,B,aD,I,M.map (·.num),none⟩ c (se args) (λ_=>none) I M (qy ⟨P,E,eX,fn.ntmps,B,aD,I,M.map (·.num),none⟩ fn.results.toList post)) :
  Spec P f args I M post:=.inl (wc eX aA az ag aF bm h)
def BM:Value->Value->Bool
 | .bool a,.bool b=>a == b| .int k n,.int cG m=>IntKind.hy k cG&&decide (n=m)| .string s,.string t=>decide (s.data.toList=t.data.toList)| .pointer none,.pointer none=>true| .slice none 0 0,.slice none 0 0=>true| .map none,.map none=>true| .nilFunc,.nilFunc=>true| .nilIface,.nilIface=>true| _,_=>false
def NV:∀ {a b:Value},BM a b=true->a=b:=by
 intro a b h;unfold BM at h;split at h
 ·simp at h;rw[h]
 ·simp only[bs,e3]at h;rw[IntKind.tN h.1,h.2]
 ·rename_i s t;simp only[e3]at h;have:s=t:=by cases s;cases t;simp only[ByteArray.mk.injEq];exact dT h
  rw[this]
 all_goals first | rfl | cases h
def y2:List Value->List Value->Bool
 |[],[]=>true| a::as,b::bz=>BM a b&&y2 as bz| _,_=>false
def G3:∀ {a b:List Value},y2 a b=true->a=b
 |[],[],_=>rfl| a::as,b::bz,h=>by simp only[y2,bs]at h;rw[NV h.1,G3 h.2]
 |[],_::_,h=>by cases h
 |_::_,[],h=>by cases h
def BN(P:Program)(t:Nat)(i:cF):Bool:=
 (match P.info? t with
 |some inf=>decide (inf.size=i.size)&&decide (inf.bytes=i.bytes)&&(match inf.zero with
  |some z=>y2 z.cells.toList i.zero| none=>false)
 |none=>false) &&
 (match P.underlying t with
 |some d=>decide (dh d=i.bc)| none=>false)&&eP i.zero&&decide (i.zero.length=i.size)&&(i.bc.agg||decide (i.size=1))
def NW{t:Nat}{i:cF}(h:BN P t i=true):gg P t i:=by
 simp only[BN,bs]at h;obtain⟨⟨⟨⟨U,aa⟩,ak⟩,aL⟩,be⟩:=h;refine⟨?_,?_,tM ak,hX aL,λaN=>?_⟩
 ·split at U
  ·rename_i inf hi;simp only[bs,e3]at U;obtain⟨⟨ax,aS⟩,b5⟩:=U;split at b5
   ·rename_i z a2;exact⟨inf,z,hi,ax,aS,a2,G3 b5⟩
   ·cases b5
  ·cases U
 ·split at aa
  ·rename_i d ao;exact⟨d,ao,hX aa⟩
  ·cases aa
 ·rw[aN]at be;simpa using be
def NX{E:Env}(n:Nat)(aF:∀ t,n<=t->E t=none)(h:((List.range n).all λt=>match E t with
  |some i=>BN P t i| none=>true)=true):bV P E:=by
 intro t i hi;by_cases aq:t<n
 ·have:=eO.1 h t (jY.2 aq);rw[hi]at this;exact NW this
 ·rw[aF t (by omega)]at hi;cases hi
end Go.V
namespace Go.V
variable{a:Act}{c:Code}{bA:List Nat}{P:Program}{f off T sz eW e n m dp bK cm cn dD gH g' hY iR jZ lp mX pe rW vL:Nat}{args vs z:List Value}{v:Value}{w' w:World}{dst:Option Nat}{cs:Array Value}{ah:Nat×Nat}{R:Ending->World->Prop}{next:Act->World->Prop}{ad:Addr}{dq:IntKind}{other:Prop}{ops:List Oper}{lq:Fence}{Q:Exit->Act->World->Prop}{fn:Func}{soft ez:Bool}{op:Op}{listed:Array Bool}{A:Array Oper}
def y3{F:Fr}:gL F [(dp,F dp),(bK,F bK)]:=.cons .refl (.cons .refl (.nil))
def lx{F:Fr}:gL F [(dp,F dp),(bK,F bK),(cm,F cm)]:=.cons .refl (.cons .refl (.cons .refl (.nil)))
def ei{F:Fr}:gL F [(dp,F dp),(bK,F bK),(cm,F cm),(cn,F cn)]:=.cons .refl (.cons .refl (.cons .refl (.cons .refl (.nil))))
def m8{F:Fr}:gL F [(dp,F dp),(bK,F bK),(cm,F cm),(cn,F cn),(dD,F dD)]:=.cons .refl (.cons .refl (.cons .refl (.cons .refl (.cons .refl (.nil)))))
def y4{F:Fr}:gL F [(dp,F dp),(bK,F bK),(cm,F cm),(cn,F cn),(dD,F dD),(gH,F gH)]:=.cons .refl (.cons .refl (.cons .refl (.cons .refl (.cons .refl (.cons .refl (.nil))))))
def G4{F:Fr}:gL F [(dp,F dp),(bK,F bK),(cm,F cm),(cn,F cn),(dD,F dD),(gH,F gH),(g',F g')]:=.cons .refl (.cons .refl (.cons .refl (.cons .refl (.cons .refl (.cons .refl (.cons .refl (.nil)))))))
def qz{F:Fr}:gL F [(dp,F dp),(bK,F bK),(cm,F cm),(cn,F cn),(dD,F dD),(gH,F gH),(g',F g'),(hY,F hY)]:=.cons .refl (.cons .refl (.cons .refl (.cons .refl (.cons .refl (.cons .refl (.cons .refl (.cons .refl (.nil))))))))
def y5{F:Fr}:gL F [(dp,F dp),(bK,F bK),(cm,F cm),(cn,F cn),(dD,F dD),(gH,F gH),(g',F g'),(hY,F hY),(iR,F iR)]:=.cons .refl (.cons .refl (.cons .refl (.cons .refl (.cons .refl (.cons .refl (.cons .refl (.cons .refl (.cons .refl (.nil)))))))))
def Xn{F:Fr}:gL F [(dp,F dp),(bK,F bK),(cm,F cm),(cn,F cn),(dD,F dD),(gH,F gH),(g',F g'),(hY,F hY),(iR,F iR),(jZ,F jZ)]:=.cons .refl (.cons .refl (.cons .refl (.cons .refl (.cons .refl (.cons .refl (.cons .refl (.cons .refl (.cons .refl (.cons .refl (.nil))))))))))
def Xo{F:Fr}:gL F [(dp,F dp),(bK,F bK),(cm,F cm),(cn,F cn),(dD,F dD),(gH,F gH),(g',F g'),(hY,F hY),(iR,F iR),(jZ,F jZ),(lp,F lp)]:=.cons .refl (.cons .refl (.cons .refl (.cons .refl (.cons .refl (.cons .refl (.cons .refl (.cons .refl (.cons .refl (.cons .refl (.cons .refl (.nil)))))))))))
def Xp{F:Fr}:gL F [(dp,F dp),(bK,F bK),(cm,F cm),(cn,F cn),(dD,F dD),(gH,F gH),(g',F g'),(hY,F hY),(iR,F iR),(jZ,F jZ),(lp,F lp),(mX,F mX)]:=.cons .refl (.cons .refl (.cons .refl (.cons .refl (.cons .refl (.cons .refl (.cons .refl (.cons .refl (.cons .refl (.cons .refl (.cons .refl (.cons .refl (.nil))))))))))))
def Xq{F:Fr}:gL F [(dp,F dp),(bK,F bK),(cm,F cm),(cn,F cn),(dD,F dD),(gH,F gH),(g',F g'),(hY,F hY),(iR,F iR),(jZ,F jZ),(lp,F lp),(mX,F mX),(pe,F pe)]:=.cons .refl (.cons .refl (.cons .refl (.cons .refl (.cons .refl (.cons .refl (.cons .refl (.cons .refl (.cons .refl (.cons .refl (.cons .refl (.cons .refl (.cons .refl (.nil)))))))))))))
def Xr{F:Fr}:gL F [(dp,F dp),(bK,F bK),(cm,F cm),(cn,F cn),(dD,F dD),(gH,F gH),(g',F g'),(hY,F hY),(iR,F iR),(jZ,F jZ),(lp,F lp),(mX,F mX),(pe,F pe),(rW,F rW)]:=.cons .refl (.cons .refl (.cons .refl (.cons .refl (.cons .refl (.cons .refl (.cons .refl (.cons .refl (.cons .refl (.cons .refl (.cons .refl (.cons .refl (.cons .refl (.cons .refl (.nil))))))))))))))
def Xs{F:Fr}:gL F [(dp,F dp),(bK,F bK),(cm,F cm),(cn,F cn),(dD,F dD),(gH,F gH),(g',F g'),(hY,F hY),(iR,F iR),(jZ,F jZ),(lp,F lp),(mX,F mX),(pe,F pe),(rW,F rW),(vL,F vL)]:=.cons .refl (.cons .refl (.cons .refl (.cons .refl (.cons .refl (.cons .refl (.cons .refl (.cons .refl (.cons .refl (.cons .refl (.cons .refl (.cons .refl (.cons .refl (.cons .refl (.cons .refl (.nil)))))))))))))))
def Xt{F:Fr}{G5:Nat}:gL F [(dp,F dp),(bK,F bK),(cm,F cm),(cn,F cn),(dD,F dD),(gH,F gH),(g',F g'),(hY,F hY),(iR,F iR),(jZ,F jZ),(lp,F lp),(mX,F mX),(pe,F pe),(rW,F rW),(vL,F vL),(G5,F G5)]:=.cons .refl (.cons .refl (.cons .refl (.cons .refl (.cons .refl (.cons .refl (.cons .refl (.cons .refl (.cons .refl (.cons .refl (.cons .refl (.cons .refl (.cons .refl (.cons .refl (.cons .refl (.cons .refl (.nil))))))))))))))))
def tV:Op->Bool
 | .move _ | .assign _ | .pick .. | .unOp .. | .binOp .. | .load .. | .nilCheck _ | .fieldAddr .. | .field .. | .indexAddr .. | .index .. | .build .. | .makeFunc .. | .slice .. | .extract .. | .convert ..=>true| .call { callee:=.builtin .len,.. }=>true| .call { callee:=.builtin .cap,.. }=>true| .call { callee:=.builtin .max,.. }=>true| .call { callee:=.builtin .min,.. }=>true| .call { callee:=.builtin .unsafeSliceData,.. }=>true| _=>false
def j4:Op->Bool
 | .load ..=>true| _=>false
def we(o:Oper)(p:Nat):Bool:=o.after.toList.all λe=>!Region.binds .any e||p.testBit e.on
def j5(ops:List Oper)(p:Nat)(k:Bool):List Nat:=(List.range ops.length).filter λi=>match ops[i]? with
 |some o=>!p.testBit i&&((tV o.op == k)&&we o p)| none=>false
def wg(acc:List Nat)(o:Oper):Nat:=o.after.toList.foldl (λs e=>bif Region.binds .any e then s ||| 2^e.on ||| acc.getD e.on 0 else s) 0
def gM(ops:List Oper):List Nat:=ops.foldl (λacc o=>acc++[wg acc o]) []
def BO(P:Nat->Prop):List Nat->Prop
 |[]=>True| [i]=>P i| i::l=>P i/\BO P l
inductive iX(soft:Bool)(bA:List Nat)(P:Program)(f:Nat)(args:List Value)(I:aG)(M:List aC)(K:Value->aG->List aC->Prop):Prop
 |mk(post:Value->aG->List aC->Prop)(an:Spec P f args I [] post)(k:∀ v I' M',(∀ b o,I b=some o->I' b=some o)->post v I' M'->K v I' (M'++M))| G6 (b4 Mr:List aC) (post:Value->aG->List aC->Prop) (aZ:M.Perm (b4++Mr)) (an:Spec P f args I b4 post) (h4:∀ v I' M',post v I' M'->∀ x∈b4,x∈M') (k:∀ v I' M',(∀ b o,I b=some o->I' b=some o)->post v I' M'->K v I' (M'++Mr))| Bt (post:Value->aG->List aC->Prop) (an:Spec P f args I [] post) (k:∀ v I' M',(∀ b o,I b=some o->I' b=some o)->(∀ x∈M'++M,I' x.num=none)->post v I' M'->K v I' (M'++M))| NY (b4 Mr:List aC) (post:Value->aG->List aC->Prop) (aZ:M.Perm (b4++Mr)) (an:Spec P f args I b4 post) (h4:∀ v I' M',post v I' M'->∀ x∈b4,x∈M') (k:∀ v I' M',(∀ b o,I b=some o->I' b=some o)->(∀ x∈M'++Mr,I' x.num=none)->post v I' M'->K v I' (M'++Mr))| NZ (b:Nat) (o:Obj) (b4 Mr:List aC) (post:Value->aG->List aC->Prop) (aZ:M.Perm (⟨b,o⟩::(b4++Mr))) (az:b ∉ bA) (an:Spec P f args (ins I b o) b4 post) (h4:∀ v I' M',post v I' M'->∀ x∈b4,x∈M') (k:∀ v I' M',(∀ c p,ins I b o c=some p->I' c=some p)->(∀ x∈M'++Mr,I' x.num=none)->post v I' M'->K v I' (M'++Mr))| Bu (h:ph I M->iX soft bA P f args I M K)| N0 (y6:soft=true) (b4 Mr:List aC) (post:Value->aG->List aC->Prop) (aZ:M.Perm (b4++Mr)) (an:Spec P f args I b4 post) (k:∀ v I' M',(∀ b o,I b=some o->I' b=some o)->post v I' M'->K v I' (M'++Mr))
def iX.elim{I:aG}{M:List aC}{K:Value->aG->List aC->Prop}(tH:ph I M)(h:iX soft bA P f args I M K) :
  ∃ (ct:aG) (b4 Mr:List aC) (post:Value->aG->List aC->Prop),ht bA I M ct (b4++Mr)/\(∀ b o,I b=some o->ct b=some o)/\Spec P f args ct b4 post /\
   ∀ v I' M',(∀ b o,ct b=some o->I' b=some o)->(∀ x∈M'++Mr,I' x.num=none)->post v I' M'->(soft=true\/∀ x∈M,I' x.num=some x.obj\/x∈M'++Mr)/\K v I' (M'++Mr):=by
 have G7:∀ {b4 Mr:List aC} {post:Value->aG->List aC->Prop} {I':aG},M.Perm (b4++Mr)->(∀ v I' M',post v I' M'->∀ x∈b4,x∈M')->∀ v M',post v I' M'->∀ x∈M,I' x.num=some x.obj\/x∈M'++Mr:=λaZ h4 v M' aa x ab=>by
  right
  rcases c9.1 (aZ.mem_iff.1 ab)with ab | ab;·exact c9.2 (.inl (h4 v _ M' aa x ab))
  ·exact c9.2 (.inr ab)
 induction h with
 |mk post an k=>exact⟨I,[],M,post,.refl,λ_ _ h=>h,an,λv I' M' U _ aa=>⟨.inr λx ab=>.inr (by simp[ab]),k v I' M' U aa⟩⟩| G6 b4 Mr post aZ an h4 k=>exact⟨I,b4,Mr,post,.perm aZ .refl,λ_ _ h=>h,an,λv I' M' U _ aa=>⟨.inr (G7 aZ h4 v M' aa),k v I' M' U aa⟩⟩| Bt post an k=>exact⟨I,[],M,post,.refl,λ_ _ h=>h,an,λv I' M' U ak aa=>⟨.inr λx ab=>.inr (by simp[ab]),k v I' M' U ak aa⟩⟩| NY b4 Mr post aZ an h4 k=>exact⟨I,b4,Mr,post,.perm aZ .refl,λ_ _ h=>h,an,λv I' M' U ak aa=>⟨.inr (G7 aZ h4 v M' aa),k v I' M' U ak aa⟩⟩
 |NZ b o b4 Mr post aZ az an h4 k=>
  have ag:I b=none:=tH.d ⟨b,o⟩ (aZ.mem_iff.2 (.head _));have N1:ins I b o b=some o:=by unfold ins;rw[kF];rfl
  refine⟨ins I b o,b4,Mr,post,.perm aZ (.vN rfl az .refl),λc p aB=>?_,an,λv I' M' U ak aa=>⟨.inr λx ab=>?_,k v I' M' U ak aa⟩⟩
  ·unfold ins;by_cases e:c=b
   ·subst e;rw[ag]at aB;cases aB
   ·rw[eQ e];exact aB
  ·rcases cU.1 (aZ.mem_iff.1 ab)with rfl | ab
   ·exact .inl (U _ _ N1)
   ·right
    rcases c9.1 ab with ab | ab;·exact c9.2 (.inl (h4 v I' M' aa x ab))
    ·exact c9.2 (.inr ab)
 |Bu h aX=>exact aX tH| N0 y6 b4 Mr post aZ an k=>exact⟨I,b4,Mr,post,.perm aZ .refl,λ_ _ h=>h,an,λv I' M' U _ aa=>⟨.inl y6,k v I' M' U aa⟩⟩
def y7(ops:List Oper)(o:Oper)(F:Fr)(run skip:Fr->Prop):Prop:=
 match o.guard with
 |none=>run F
 |some (j,b)=>
  match(ops[j]?).bind (·.dst)with
  |none=>False
  |some d=>
   match F d with
   | .lit c=>bif c == b then run F else skip F| .val (.bool c)=>b9 c b (run (dK F d (.lit b))) (skip (dK F d (.lit !b)))| .val (.tuple _)=>skip F| _=>False
def G8(dX p:Nat):Bool:=Nat.beq (p &&& dX) p
def N2(ops:List Oper)(dX p:Nat):Bool:=(List.range ops.length).all λq=>!p.testBit q||(dX.testBit q||match ops[q]? with
 |some o=>!j4 o.op| none=>true)
inductive G9(X:bO)(o:Oper)(F:Fr)(C:b6)(I:aG)(M:List aC)(K:b0->aG->List aC->Prop):Prop
 |mk (h:∀ β a w Q,bE X β a w F C I M->o.wpIn (dV X) 0 X.P a w (λbl w'=>∃ v x I' M',bl=a.put o.dst v/\cI β x v/\bE X β a w' F C I' M'/\K x I' M'/\I'=I) Q)
def n2(X:bO)(N3 soft:Bool)(o:Oper)(F:Fr)(C:b6)(I:aG)(M:List aC)(K:dE):Prop:=
 bif N3 then dW X o F C I M K else
 match o.op with
 | .call { callee:=.value f,args,.. }=>
  match a' F f,hv F args.toList with
  | .val (.func (.func g) first cap),some vs=>iX soft X.bA X.P g (first.toList++vs++cap.toList) I M λv I' M'=>K (put o.dst (.val v) F) C I' M'
  |_,_=>False
 | .alloc t=>
  match o.dst,X.E t with
  |some d,some i=>eA I M λb=>K (dK F d (.val (.pointer (some ⟨b,0,none⟩)))) C I (⟨b,.cells i.zero.toArray t (0,0)⟩::M)
  |_,_=>False
 | .buildSlice _ _ _=>dW X o F C I M K| .makeSlice _ _ _=>dW X o F C I M K| .store _ _ _=>bif soft then dW X o F C I M K else False| .call { callee:=.builtin .append,.. }=>bif soft then ∀ G:Fr,(∀ y∈o.op.operands,bZ G y=bZ F y)->G9 X o G C I M λx I' M'=>K (put o.dst x F) C I' M' else False
 | .call { callee:=.builtin .copy,.. }=>bif soft then ∀ G:Fr,(∀ y∈o.op.operands,bZ G y=bZ F y)->G9 X o G C I M λx I' M'=>K (put o.dst x F) C I' M' else False
 |_=>False
def y8:b0->Nat
 | .ref s _=>s+1| _=>0
def wh(i:Nat)(op:Op)(ρ:Operand->b0)(bq:List (Nat×Nat)):List (Nat×Nat):=match op with
 | .load _ x=>(i,y8 (ρ x))::bq| _=>bq
def tW(dX s:Nat):List (Nat×Nat)->Bool
 |[]=>true|(i,t)::bq=>(dX.testBit i || !Nat.beq s t)&&tW dX s bq
def G'{dX s i t:Nat}:∀ {bq:List (Nat×Nat)},tW dX s bq=true->(i,t)∈bq->dX.testBit i=true\/t≠s
 |(j,u)::bq,h,hm=>by
  unfold tW at h;rw[bs,gY]at h;rcases cU.1 hm with e | hm
  ·cases e;rcases h.1 with U | U
   ·exact .inl U
   ·right
    rintro rfl;simp at U
  ·exact G' h.2 hm
def Ha(dX:Nat)(op:Op)(ρ:Operand->b0)(bq:List (Nat×Nat)):Bool:=match op with
 | .store _ x _=>(match ρ x with
  | .val (.pointer (some _))=>tW dX 0 bq| _=>false)
 |_=>false
def Hb(dX:Nat)(op:Op)(ρ:Operand->b0)(bq:List (Nat×Nat)):Bool:=match op with
 | .store _ x _=>(match ρ x with
  | .ref s _=>tW dX (s+1) bq| _=>false)
 |_=>false
def n3(ez:Bool)(M:List aC):List aC:=bif ez then []else M
def N4{I:aG}{M:List aC}{b:Nat}{o:Obj}(h:e4 I (n3 ez M) b o):e4 I M b o:=by
 cases ez with
 |false=>exact h
 |true=>
  rcases h with h | ⟨x,ab,_⟩;·exact .inl h
  ·cases ab
def Hc{I I':aG}{M M':List aC}(h:∀ b o,e4 I M b o->e4 I' M' b o)(aP:∀ b o,I b=some o->I' b=some o):∀ b o,e4 I (n3 ez M) b o->e4 I' (n3 ez M') b o:=λb o ag=>by
 cases ez with
 |false=>exact h b o ag
 |true=>
  rcases ag with ag | ⟨x,ab,_⟩;·exact .inl (aP _ _ ag)
  ·cases ab
def N5{I I':aG}{M M':List aC}(aP:∀ b o,I b=some o->I' b=some o):∀ b o,e4 I (n3 true M) b o->e4 I' (n3 true M') b o:=λb o ag=>by
 rcases ag with ag | ⟨x,ab,_⟩
 ·exact .inl (aP _ _ ag)
 ·cases ab
def Hd(X:bO)(ez:Bool)(op:Op)(ρ:Operand->b0)(C:b6)(I:aG)(M:List aC)(V:b0->Prop)(other:Prop):Prop:=match ez with
 |false=>bw X op ρ C I M V other| true=>bw X op ρ C I [] V other
def N6{X:bO}{ρ:Operand->b0}{C:b6}{I:aG}{M:List aC}{V:b0->Prop}(h:Hd X ez op ρ C I M V other):bw X op ρ C I (n3 ez M) V other:=by
 cases ez with
 |false=>exact h| true=>exact h
def N7(ops:List Oper)(ez:Nat->Bool)(dX p:Nat):Bool:=(List.range ops.length).all λq=>!p.testBit q||(dX.testBit q||(ez q||match ops[q]? with
 |some o=>!j4 o.op| none=>true))
def He(op:Op)(ρ:Operand->b0):Bool:=match op with
 | .store _ x _=>(match ρ x with
  | .val (.pointer (some _))=>true| _=>false)
 | .call { callee:=.builtin .append,.. }=>true| .call { callee:=.builtin .copy,.. }=>true| _=>false
def Hf(ops:List Oper)(ez:Nat->Bool)(dX p:Nat)(op:Op)(ρ:Operand->b0):Bool:=N7 ops ez dX p&&He op ρ
def ly(X:bO)(ops:List Oper)(ez:Nat->Bool):Nat->Nat->List (Nat×Nat)->Fr->b6->aG->List aC->dE->Prop
 |0,_,_,_,_,_,_,_=>False
 |n+1,p,bq,F,C,I,M,K=>
  match j5 ops p true with
  |i::_=>
   (match ops[i]? with
   |some o=>y7 ops o F (λF=>Hd X (ez i) o.op (bZ F) C I M (λx=>ly X ops ez n (p ||| 2^i) (wh i o.op (bZ F) bq) (put o.dst x F) C I M K) False) (λF=>ly X ops ez n (p ||| 2^i) bq (put o.dst (.val undef) F) C I M K)| none=>False)
  |[]=>
   match j5 ops p false with
   |[]=>K F C I M
   |i0::mj=>BO (λi=>match ops[i]? with
     |some o=>y7 ops o F (λF=>n2 X (G8 ((gM ops).getD i 0) p) (N2 ops ((gM ops).getD i 0) p||(Hb ((gM ops).getD i 0) o.op (bZ F) bq||(Ha ((gM ops).getD i 0) o.op (bZ F) bq||Hf ops ez ((gM ops).getD i 0) p o.op (bZ F)))) o F C I M λF C I M=>ly X ops ez n (p ||| 2^i) bq F C I M K) (λF=>ly X ops ez n (p ||| 2^i) bq (put o.dst (.val undef) F) C I M K)| none=>False) (i0::mj)
def looks(ops:List Oper)(o:Oper):List Nat:=o.looksAt ops.toArray
def y9(ops:List Oper):Bool:=
 let b:=gM ops
 (List.range ops.length).all λj=>match ops[j]? with
  |none=>true
  |some hB=>
   (hB.after.toList.all λe=>!Region.binds .any e||Nat.blt e.on j) &&
   ((match hB.dst with
    |some d=>!(looks ops hB).contains d| none=>true) &&
   ((List.range ops.length).all (λi=>Nat.beq i j||match ops[i]? with
    |none=>true
    |some dz=>match dz.dst with
     |none=>true| some d=>!(hB.dst == some d)&&(!(looks ops hB).contains d||((b.getD j 0).testBit i||(b.getD i 0).testBit j)))))
def hC(ops:List Oper)(j e:Nat):Prop:=∃ o h5,ops[j]?=some o/\h5∈o.after/\Region.binds .any h5=true/\h5.on=e
inductive jy(ops:List Oper):Nat->Nat->Prop
 |one{i j}(h:hC ops j i):jy ops i j| trans {i j k} (h:hC ops j k) (aP:jy ops i k):jy ops i j
def sf(ops:List Oper)(S:Nat->Prop):Prop:=∀ j e,S j->hC ops j e->S e
def jy.mem{S:Nat->Prop}(lz:sf ops S){i j:Nat}(h:jy ops i j)(ap:∀ e,hC ops j e->S e):S i:=by
 induction h with
 |one h=>exact ap _ h| trans h _ aX=>exact aX λe he=>lz _ e (ap _ h) he
def N8{acc:List Nat}{o:Oper}{i:Nat}(h:(wg acc o).testBit i=true):∃ e∈o.after,Region.binds .any e=true/\(e.on=i\/(acc.getD e.on 0).testBit i=true):=by
 have key:∀ (l:List Edge) (s:Nat),(l.foldl (λs e=>bif Region.binds .any e then s ||| 2^e.on ||| acc.getD e.on 0 else s) s).testBit i=true->s.testBit i=true\/∃ e∈l,Region.binds .any e=true/\(e.on=i\/(acc.getD e.on 0).testBit i=true):=by
  intro l
  induction l with
  |nil=>intro s h;exact .inl h
  |cons e l aX=>
   intro s h;simp only[vI]at h;rcases aX _ h with U | ⟨b2,y',aa⟩
   ·cases ag:Region.binds .any e with
    |false=>rw[ag]at U;exact .inl U
    |true=>
     rw[ag]at U;simp only[bn,yK,gY,yG,e3]at U;rcases U with(U | U) | U;·exact .inl U
     ·exact .inr ⟨e,by simp,ag,.inl U⟩
     ·exact .inr ⟨e,by simp,ag,.inr U⟩
   ·exact .inr ⟨b2,by simp[y'],aa⟩
 rcases key _ 0 h with U | ⟨e,he,aa⟩
 ·simp at U
 ·exact⟨e,by simpa using he,aa⟩
def Hg(ops:List Oper):∀ (l:List Oper) (pre:List Oper) (acc:List Nat),ops=pre++l->acc.length=pre.length->(∀ j i,(acc.getD j 0).testBit i=true->jy ops i j) -> ∀ j i,((l.foldl (λacc o=>acc++[wg acc o]) acc).getD j 0).testBit i=true->jy ops i j
 |[],pre,acc,_,_,za=>za
 |o::l,pre,acc,n4,hlen,za=>by
  simp only[vI];refine Hg ops l (pre++[o]) _ (by simp[n4]) (by simp[hlen]) ?_;intro j i h;by_cases ap:j<acc.length;·exact za j i (by simpa[c1,kA ap]using h)
  ·by_cases iB:j=acc.length
   ·subst iB;have aP:(wg acc o).testBit i=true:=by simpa[c1]using h
    obtain⟨e,he,ag,aa⟩:=N8 aP;have ar:ops[acc.length]?=some o:=by rw[n4,hlen];simp
    have qA:hC ops acc.length e.on:=⟨o,e,ar,he,ag,rfl⟩;rcases aa with rfl | aa;·exact .one qA
    ·exact .trans qA (za _ _ aa)
   ·have:(acc++[wg acc o]).getD j 0=0:=by rw[c1,tE (by simp;omega)];rfl
    rw[this]at h;simp at h
def qB{j i:Nat}(h:((gM ops).getD j 0).testBit i=true):jy ops i j:=
 Hg ops ops [] [] rfl rfl (λj i h=>by simp at h) j i h
section
variable{X:bO}{C C':b6}{I I':aG}{M M':List aC}
def pw{ρ fT:Operand->b0}:∀ {xs:List Operand},(∀ y∈xs,fT y=ρ y)->fN fT xs=fN ρ xs
 |[],_=>rfl| x::xs,h=>by have U:=h x (by simp);have aa:=pw (xs:=xs) λy aE=>h y (by simp[aE]);simp only[fN,cf,U,aa]
def BP{ρ fT:Operand->b0}:∀ {xs:List (Nat×Operand)},(∀ y∈xs.map (·.2),fT y=ρ y)->mb fT xs=mb ρ xs
 |[],_=>rfl|(i,x)::xs,h=>by have U:=h x (by simp);have aa:=BP (xs:=xs) λy aE=>h y (by simp only[cC,cU];exact .inr aE);simp only[mb,cf,U,aa]
def Hh{ρ fT:Operand->b0}{V:b0->Prop}(h:bw X op ρ C I M V False)(fw:∀ y∈op.operands,fT y=ρ y)
  (au:∀ t x,op=.load t x->(∀ s off,ρ x=.ref s off->C' s=C s)/\((∀ s off,ρ x≠.ref s off)->∀ b o,e4 I M b o->e4 I' M' b o)):bw X op fT C' I' M' V False:=by
 cases op
 case load t x=>
  obtain⟨aB,aj⟩:=au t x rfl;have U:=fw x (by simp[Op.operands]);simp only[bw,U]at h |-;cases aA:X.E t with
  |none=>rw[aA]at h;exact h.elim
  |some i=>
   rw[aA]at h
   try simp only at h |-
   cases ab:ρ x with
   |ref s off=>
    rw[ab]at h
    try simp only at h |-
    rw[aB s off ab];exact h
   |val v=>
    rw[ab]at h
    try simp only at h |-
    split at h;·rename_i e;cases e
    ·rename_i a e;cases e;obtain⟨vs,⟨aa,cs,T,ah,ak,aL⟩,be⟩:=h;exact⟨vs,⟨aa,cs,T,ah,aj (λs off e=>by rw[ab]at e;cases e) _ _ ak,aL⟩,be⟩
    ·exact h.elim
   |lit b=>rw[ab]at h;exact h.elim| hZ=>rw[ab]at h;exact h.elim
 case build t ps=>
  have U:=BP (ρ:=ρ) (fT:=fT) (xs:=ps.toList) λy aE=>fw y (by simpa[Op.operands]using aE);simp only[bw,U]at h |-;exact h
 case makeFunc fn first captured=>
  have U:=pw (ρ:=ρ) (fT:=fT) (xs:=first.toList) λy aE=>fw y (by simp only[Op.operands,Array.mem_append];exact .inl (by simpa using aE));have aa:=pw (ρ:=ρ) (fT:=fT) (xs:=captured.toList) λy aE=>fw y (by simp only[Op.operands,Array.mem_append];exact .inr (by simpa using aE));simp only[bw,U,aa]at h |-;exact h
 case slice t x lo hi mx=>
  have U:=fw x (by simp[Op.operands]);have aa:lo.map (cf fT)=lo.map (cf ρ):=by
   cases lo with
   |none=>rfl| some y=>have:=fw y (by simp[Op.operands]);simp[cf,this]
  have ak:hi.map (cf fT)=hi.map (cf ρ):=by
   cases hi with
   |none=>rfl| some y=>have:=fw y (by simp[Op.operands]);simp[cf,this]
  simp only[bw,aa,ak,cf,U]at h |-;exact h
 case call c=>
  obtain⟨callee,args,argTypes⟩:=c;cases callee with
  |value f=>exact h| invoke r m=>exact h
  |builtin b=>
   cases b
   case len=>
    have U:=pw (ρ:=ρ) (fT:=fT) (xs:=args.toList) λy aE=>fw y (by simp[Op.operands,Call.operands];simpa using aE);simp only[bw,U]at h |-;exact h
   case cap=>
    have U:=pw (ρ:=ρ) (fT:=fT) (xs:=args.toList) λy aE=>fw y (by simp[Op.operands,Call.operands];simpa using aE);simp only[bw,U]at h |-;exact h
   case max=>
    have U:=pw (ρ:=ρ) (fT:=fT) (xs:=args.toList) λy aE=>fw y (by simp[Op.operands,Call.operands];simpa using aE);simp only[bw,U]at h |-;exact h
   case min=>
    have U:=pw (ρ:=ρ) (fT:=fT) (xs:=args.toList) λy aE=>fw y (by simp[Op.operands,Call.operands];simpa using aE);simp only[bw,U]at h |-;exact h
   case unsafeSliceData=>
    have U:=pw (ρ:=ρ) (fT:=fT) (xs:=args.toList) λy aE=>fw y (by simp[Op.operands,Call.operands];simpa using aE);simp only[bw,U]at h |-;exact h
   all_goals exact h
 all_goals first
  |exact h|(rename_i x;have U:=fw x (by simp[Op.operands]);simp only[bw,cf,U]at h |-;exact h)|(rename_i x y;have U:=fw x (by simp[Op.operands]);have aa:=fw y (by simp[Op.operands]);simp only[bw,cf,U,aa]at h |-;exact h)|(rename_i x y z;have U:=fw x (by simp[Op.operands]);have aa:=fw y (by simp[Op.operands]);have ak:=fw z (by simp[Op.operands]);simp only[bw,cf,U,aa,ak]at h |-;exact h)|(rename_i x y;have U:=fw x (by simp[Op.operands]);simp only[bw,cf,U]at h |-;exact h)|(rename_i x y;have U:=fw y (by simp[Op.operands]);simp only[bw,cf,U]at h |-;exact h)|(rename_i x y z;have U:=fw x (by simp[Op.operands]);have aa:=fw y (by simp[Op.operands]);simp only[bw,cf,U,aa]at h |-;exact h)|(rename_i x y z;have U:=fw y (by simp[Op.operands]);have aa:=fw z (by simp[Op.operands]);simp only[bw,cf,U,aa]at h |-;exact h)|(rename_i o x y z u;have U:=fw y (by simp[Op.operands]);have aa:=fw z (by simp[Op.operands]);simp only[bw,cf,U,aa]at h |-;exact h)|(rename_i x y z u;have U:=fw z (by simp[Op.operands]);have aa:=fw y (by simp[Op.operands]);simp only[bw,cf,U,aa]at h |-;exact h)
end
section
variable{X:bO}{C:b6}{I:aG}{M:List aC}
def N9{op:BinOp}{cA:Option cF}{x y:b0}{V:Value->Prop}{O:Prop}(h:gZ op cA x y V O) :
  (∃ r,V r/\∀ kO,gZ op cA x y (λz=>z=r) kO)\/(O/\∀ (BQ:Value->Prop) (kO:Prop),kO->gZ op cA x y BQ kO):=by
 unfold gZ at h;split at h
 ·left
  split at h;·obtain⟨j,ap,⟨r,al,aj⟩⟩:=h;exact⟨_,aj,λkO=>by unfold gZ;exact⟨j,ap,⟨r,al,rfl⟩⟩⟩
  ·obtain⟨j,ap,aj⟩:=h;exact⟨_,aj,λkO=>by unfold gZ;exact⟨j,ap,rfl⟩⟩
  ·rename_i _ _ k a cG b _ e6 ls;cases fP:IntKind.hy k cG with
   |false=>rw[fP]at h;exact h.elim
   |true=>
    rw[fP]at h;simp only[bn]at h;cases op<;>simp only at h
    case add=>obtain⟨r,al,aj⟩:=h;exact⟨_,aj,λkO=>by simp only[gZ,fP,bn];exact⟨r,al,rfl⟩⟩
    case sub=>obtain⟨r,al,aj⟩:=h;exact⟨_,aj,λkO=>by simp only[gZ,fP,bn];exact⟨r,al,rfl⟩⟩
    case mul=>obtain⟨r,al,aj⟩:=h;exact⟨_,aj,λkO=>by simp only[gZ,fP,bn];exact⟨r,al,rfl⟩⟩
    case quo=>obtain⟨aD,⟨r,al,aj⟩⟩:=h;exact⟨_,aj,λkO=>by simp only[gZ,fP,bn];exact⟨aD,⟨r,al,rfl⟩⟩⟩
    case rem=>obtain⟨aD,aj⟩:=h;exact⟨_,aj,λkO=>by simp only[gZ,fP,bn];first | exact⟨aD,rfl⟩ | exact⟨aD,trivial⟩⟩
    case shl=>exact(e6 rfl).elim
    case shr=>exact(ls rfl).elim
    all_goals exact⟨_,h,λkO=>by simp only[gZ,fP,bn];rfl⟩
 ·cases op<;>first
  |exact .inl ⟨_,h,λ_=>rfl⟩| exact .inr ⟨h,λ_ _ ar=>ar⟩
 ·split at h
  ·cases op<;>first
   |exact .inl ⟨_,h,λ_=>rfl⟩| exact .inr ⟨h,λ_ _ ar=>ar⟩
  ·rename_i aF;refine .inr ⟨h,λBQ kO ar=>?_⟩;cases cA with
   |none=>exact ar
   |some i=>
    obtain⟨s,b,z,bc⟩:=i;cases bc<;>first
     |exact ar| exact(aF _ _ _ rfl).elim
 ·rename_i U aa ak;refine .inr ⟨h,λBQ kO ar=>?_⟩;unfold gZ;split<;>first
   |exact ar| exact(U _ _ _ _ rfl rfl).elim| exact(aa _ _ rfl rfl).elim| exact(ak _ _ rfl rfl).elim
def N'{ρ:Operand->b0}{V:b0->Prop}(h:bw X op ρ C I M V False):∃ x,V x/\bw X op ρ C I M (λy=>y=x) False:=by
 cases op
 case move x=>exact⟨_,h,rfl⟩
 case assign x=>exact⟨_,h,rfl⟩
 case pick c p q=>
  simp only[bw]at h |-;split at h;·exact⟨_,h,rfl⟩
  ·exact⟨_,h,rfl⟩
  ·exact h.elim
 case unOp op t x=>
  simp only[bw]at h |-;split at h;·exact⟨_,h,rfl⟩
  ·exact⟨_,h,rfl⟩
  ·obtain⟨r,al,aj⟩:=h;exact⟨_,aj,⟨r,al,rfl⟩⟩
  ·exact h.elim
 case binOp op t x y ty=>
  simp only[bw]at h |-;rcases N9 h with⟨r,U,aa⟩ | ⟨⟨h1,c4,r,aK,aR,al,aj⟩ | U,aa⟩
  ·refine⟨_,U,?_⟩;have:(λv=>b0.val v=b0.val r)=(λz=>z=r):=by funext v;simp
   rw[this];exact aa _
  ·exact⟨_,aj,aa _ _ (.mk h1 c4 r aK aR al rfl)⟩
  ·exact U.elim
 case load t x=>
  simp only[bw]at h |-;split at h
  ·split at h
   ·split at h
    ·rename_i i hi _ s off an _ cs aB;cases hle:Nat.ble (off+i.size) cs.length with
     |false=>rw[hle]at h;exact h.elim| true=>rw[hle]at h;exact⟨_,h,rfl⟩
    ·exact h.elim
   ·obtain⟨vs,al,aj⟩:=h;exact⟨_,aj,⟨vs,al,rfl⟩⟩
   ·exact h.elim
  ·exact h.elim
 case nilCheck x=>
  simp only[bw]at h |-;split at h;·exact⟨_,h,rfl⟩
  ·exact⟨_,h,rfl⟩
  ·exact h.elim
 case fieldAddr t x i=>
  simp only[bw]at h |-;split at h
  ·split at h
   ·split at h
    ·rename_i eh s o' jv ab;cases a2:Nat.beq eh.size 0 with
     |true=>rw[a2]at h;exact h.elim| false=>rw[a2]at h;exact⟨_,h,rfl⟩
    ·rename_i eh s jv ab;cases a2:Nat.beq eh.size 0 with
     |true=>rw[a2]at h;exact h.elim| false=>rw[a2]at h;exact⟨_,h,rfl⟩
    ·exact h.elim
   ·exact h.elim
  ·exact h.elim
 case field t x i=>
  simp only[bw]at h |-;split at h
  ·split at h
   ·split at h
    ·rename_i sz eW z bB cs aq ab _ hx off kI _ eh jv;cases hle:Nat.ble (off+eh.size) cs.size with
     |false=>rw[hle]at h;exact h.elim| true=>rw[hle]at h;exact⟨_,h,rfl⟩
    ·exact h.elim
   ·exact h.elim
  ·exact h.elim
 case indexAddr t x i=>
  simp only[bw]at h |-;split at h
  ·split at h
   ·obtain⟨ad,j,U,aa,ak,aj⟩:=h;exact⟨_,aj,⟨ad,j,U,aa,ak,rfl⟩⟩
   ·exact h.elim
  ·split at h
   ·obtain⟨j,aa,ak,aj⟩:=h;exact⟨_,aj,⟨j,aa,ak,rfl⟩⟩
   ·obtain⟨j,aa,ak,aj⟩:=h;exact⟨_,aj,⟨j,aa,ak,rfl⟩⟩
   ·exact h.elim
  ·exact h.elim
 case index t x i=>
  simp only[bw]at h |-;split at h;·obtain⟨j,aa,ak,aj⟩:=h;exact⟨_,aj,⟨j,aa,ak,rfl⟩⟩
  ·split at h
   ·rename_i n e cs dq k aq ab hi _ av eK;cases a2:Nat.beq (n*av.size) cs.size with
    |false=>rw[a2]at h;exact h.elim| true=>rw[a2]at h;obtain⟨j,aa,ak,aj⟩:=h;exact⟨_,aj,⟨j,aa,ak,rfl⟩⟩
   ·exact h.elim
  ·exact h.elim
 case build t ps=>
  simp only[bw]at h |-;split at h
  ·split at h
   ·rename_i i vs aq e5 _ bB iA;cases aK:tI X.E bB with
    |false=>rw[aK]at h;exact h.elim
    |true=>
     rw[aK]at h;simp only[bn]at h |-;split at h;·exact⟨_,h,rfl⟩
     ·exact h.elim
   ·split at h
    ·split at h
     ·exact⟨_,h,rfl⟩
     ·exact h.elim
    ·exact h.elim
   ·exact h.elim
  ·exact h.elim
 case makeFunc fn first captured=>
  simp only[bw]at h |-;split at h;·exact⟨_,h,rfl⟩
  ·exact h.elim
 case slice t x lo hi mx=>
  simp only[bw]at h |-;split at h
  ·split at h
   ·exact⟨_,h,rfl⟩
   ·obtain⟨l,m,U,aa,ak,aL,aj⟩:=h;exact⟨_,aj,⟨l,m,U,aa,ak,aL,rfl⟩⟩
   ·obtain⟨l,m,U,aa,ak,aL,aj⟩:=h;exact⟨_,aj,⟨l,m,U,aa,ak,aL,rfl⟩⟩
   ·obtain⟨l,m,U,aa,ak,aL,aj⟩:=h;exact⟨_,aj,⟨l,m,U,aa,ak,aL,rfl⟩⟩
   ·exact h.elim
  ·split at h
   ·exact⟨_,h,rfl⟩
   ·obtain⟨l,m,U,aa,ak,aL,aj⟩:=h;exact⟨_,aj,⟨l,m,U,aa,ak,aL,rfl⟩⟩
   ·obtain⟨l,m,U,aa,ak,aL,aj⟩:=h;exact⟨_,aj,⟨l,m,U,aa,ak,aL,rfl⟩⟩
   ·obtain⟨l,m,U,aa,ak,aL,aj⟩:=h;exact⟨_,aj,⟨l,m,U,aa,ak,aL,rfl⟩⟩
   ·exact h.elim
  ·exact h.elim
 case extract x i=>
  simp only[bw]at h |-;split at h
  ·split at h
   ·exact⟨_,h,rfl⟩
   ·exact h.elim
  ·exact h.elim
 case convert s d x=>
  simp only[bw]at h |-;split at h;·obtain⟨r,al,aj⟩:=h;exact⟨_,aj,⟨r,al,rfl⟩⟩
  ·exact h.elim
 case call c=>
  obtain⟨callee,args,argTypes⟩:=c;cases callee with
  |value f=>exact h.elim| invoke r m=>exact h.elim
  |builtin b=>
   cases b
   case len=>
    simp only[bw]at h |-;split at h
    ·split at h
     ·exact⟨_,h,rfl⟩
     ·exact⟨_,h,rfl⟩
     ·exact⟨_,h,rfl⟩
     ·exact h.elim
    ·exact h.elim
   case cap=>
    simp only[bw]at h |-;split at h
    ·split at h
     ·exact⟨_,h,rfl⟩
     ·exact h.elim
    ·exact h.elim
   case max=>
    simp only[bw]at h |-;split at h;·exact⟨_,h,rfl⟩
    ·exact h.elim
   case min=>
    simp only[bw]at h |-;split at h;·exact⟨_,h,rfl⟩
    ·exact h.elim
   case unsafeSliceData=>
    simp only[bw]at h |-;split at h;·exact⟨_,h,rfl⟩
    ·obtain⟨U,aa⟩:=h;exact⟨_,aa,⟨U,rfl⟩⟩
    ·exact h.elim
   all_goals exact h.elim
 all_goals exact h.elim
end
def e4.mono{I I':aG}{M M':List aC}{b:Nat}{o:Obj}(h:e4 I M b o)(a7:∀ b o,I b=some o->I' b=some o)(aZ:∀ x∈M,x∈M'):e4 I' M' b o:=by
 rcases h with h | ⟨x,ab,U,aa⟩
 ·exact .inl (a7 _ _ h)
 ·exact .inr ⟨x,aZ x ab,U,aa⟩
def e4.move{I I':aG}{M M':List aC}{b:Nat}{o:Obj}(h:e4 I M b o)(a7:∀ b o,I b=some o->I' b=some o)(aZ:∀ x∈M,I' x.num=some x.obj\/x∈M'):e4 I' M' b o:=by
 rcases h with h | ⟨x,ab,rfl,rfl⟩
 ·exact .inl (a7 _ _ h)
 ·rcases aZ x ab with h | h
  ·exact .inl h
  ·exact .inr ⟨x,h,rfl,rfl⟩
def Hi(F:Fr)(op:Op)(C C':b6)(I I':aG)(M M':List aC):Prop:=(∀ t x y s off,op=.store t x y->bZ F x=.ref s off->((∀ bx,bx≠s->C' bx=C bx)/\∀ b o,I b=some o->I' b=some o)/\∀ b o,e4 I M b o->e4 I' M' b o)/\(∀ t x y ad,op=.store t x y->bZ F x=.val (.pointer (some ad))->C'=C/\∀ b o,I b=some o->I' b=some o)/\((∀ t x y,op≠.store t x y)->C'=C/\∀ b o,I b=some o->I' b=some o)
def Oa(X:bO)(β:Nat->Nat)(G F:Fr)(C:b6)(I:aG)(M:List aC)(Ob:Bool)(op:Op)(dst:Option Nat)(a:Act)(K:dE)(bl:Act)(w':World):Prop:=
 ∃ v x C' I' M',bl=a.put dst v/\cI β x v/\bE X β a w' G C' I' M'/\K (put dst x F) C' I' M'/\((Ob=true/\Hi F op C C' I I' M M')\/(C'=C/\(∀ b o,I b=some o->I' b=some o)/\∀ b o,e4 I M b o->e4 I' M' b o))
def Oc{X:bO}{β:Nat->Nat}{F G:Fr}{C:b6}{I:aG}{M:List aC}{o:Oper}{K:dE}(aA:bV X.P X.E)
  (h:bE X β a w G C I M) (m9:∀ y∈o.op.operands,bZ G y=bZ F y) (af:n2 X false soft o F C I M K):o.wpIn (dV X) 0 X.P a w (Oa X β G F C I M soft o.op o.dst a K) Q:=by
 obtain⟨dst,op,ty,pos,after,guard⟩:=o;have az:=h.ah;have iY:∀ {y:Operand} {v:Value},y∈op.operands->a' F y=.val v->a.eval y=v:=fun {y v} aE he=>b1 az (by simp only[a',cf,m9 y aE];exact he);cases op
 case alloc t=>
  simp only[n2,bj]at af;split at af
  ·rename_i d i hi;obtain⟨z,a2,pu⟩:=(aA _ _ hi).vP w;have tO:z.cells=i.zero.toArray:=by rw[<-pu]
   obtain⟨af⟩:=af;have aj:=af w.heap.size h.holds.lr h.holds.kG;refine fC (by simp) (v:=.pointer (some ⟨w.heap.size,0,none⟩)) (w':=w.alloc (.cells i.zero.toArray t (0,0))) ?_ ⟨_,.val _,_,_,_,rfl,rfl,h.j1 _,aj,.inr ⟨rfl,λ_ _ h=>h,λb o ag=>ag.mono (λ_ _ h=>h) (λx ab=>by simp[ab])⟩⟩;simp[execOp,Instr.alloc,newVar,newRow,a2,tO,rU]
  ·exact af.elim
 case store t x y=>
  simp only[n2,bj]at af;cases soft with
  |false=>exact af.elim
  |true=>
   simp only[bn,dW]at af;split at af
   ·rename_i i v hi aE;have qs:=iY (by simp[Op.operands]) aE;split at af
    ·rename_i s off ab;have gI:=rZ az ((m9 x (by simp[Op.operands])).trans ab);split at af
     ·rename_i cs an;cases hle:(Nat.ble (off+i.size) cs.length&&(Nat.beq v.cells.size i.size&&eP v.cells.toList))with
      |false=>rw[hle]at af;exact af.elim
      |true=>
       rw[hle]at af;simp only[bs]at hle;obtain⟨hle,bW,j3⟩:=hle;have vV:=bk hle;have r6:=cb bW;obtain⟨T,bJ⟩:=(h.bq s cs an).at_;have:=yU (aA _ _ hi) (a:=⟨β s,off,none⟩) (v:=v) rfl bJ r6 (by simp;omega) j3;refine tK (by simp) (w':=w.setRow (β s) (bt cs off v.cells.toList).toArray) ?_ ⟨undef,.hZ,_,_,_,rfl,trivial,h.GL an (bt cs off v.cells.toList),af,.inl ⟨rfl,λcD iW Hj bx yS ax aS=>(by
        cases ax;rw[ab]at aS;cases aS;refine⟨⟨λs2 br=>?_,λ_ _ h=>h⟩,λ_ _ h=>h⟩;unfold fs;rw[eQ br];rfl),λcD iW Hj Xu ax aS=>(by
        cases ax;rw[ab]at aS;cases aS),λn5=>absurd rfl (n5 _ _ _)⟩⟩
       simp only[execOp,Instr.storeAt,gI,qs,Instr.sureAddr,bo,bR,bd];simp only[Bo]at this;rw[this];rfl
     ·exact af.elim
    ·rename_i ad ab;have gI:=m0 az ((m9 x (by simp[Op.operands])).trans ab);cases bW:Nat.beq v.cells.size i.size with
     |false=>rw[bW]at af;exact af.elim| true=>rw[bW]at af;obtain⟨pre,post,cs,T,aZ,cX,ag,j3,aj⟩:=af;have r6:=cb bW;have aw:w.heap[ad.block]?=some (.cells cs T (0,0)):=h.holds.m ⟨ad.block,.cells cs T (0,0)⟩ (by rw[aZ];simp);have:=yU (aA _ _ hi) (v:=v) cX aw r6 ag j3;refine tK (by simp) (w':=w.setRow ad.block (bt cs.toList ad.off v.cells.toList).toArray) ?_ ⟨undef,.hZ,_,_,_,rfl,trivial,h.qm aZ,aj,.inl ⟨rfl,λcD iW Hj bx yS ax aS=>(by cases ax;rw[ab]at aS;cases aS),λ_ _ _ _ _ _=>⟨rfl,λ_ _ h=>h⟩,λn5=>absurd rfl (n5 _ _ _)⟩⟩;simp only[execOp,Instr.storeAt,gI,qs,Instr.sureAddr,bo,bR,bd];rw[this];rfl
    ·exact af.elim
   ·exact af.elim
 case buildSlice t len parts=>
  simp only[n2,bj,dW]at af;have Od:rY G parts.toList=rY F parts.toList:=BP λy aE=>m9 y (by simpa[Op.operands]using aE);rw[<-Od]at af;split at af
  ·rename_i sz eW z e vs aq e5;have hu:=(aA _ _ aq).slice;have aK:=yQ az e5;have qq:(parts.map λ(i,x)=>(i,a.eval x)).toList=vs:=by simpa using aK
   split at af
   ·rename_i av eK;cases a2:(Nat.ble (len*av.size) 16777216&&Nat.blt 0 (len*av.size))with
    |false=>
     rw[a2]at af;simp only[bj]at af;split at af
     ·rename_i NJ;obtain⟨af⟩:=af;have aj:=af w.heap.size h.holds.lr h.holds.kG;refine fC (by simp) (v:=.slice (some ⟨w.heap.size,0,none⟩) 0 0) (w':=w.alloc (.cells #[] e (0,0))) ?_ ⟨_,.val _,_,_,_,rfl,rfl,h.j1 _,aj,.inr ⟨rfl,λ_ _ h=>h,λb o ag=>ag.mono (λ_ _ h=>h) (λx ab=>by simp[ab])⟩⟩;simp only[execOp,Instr.buildSlice,bo,bd,run_underlying hu,(aA _ _ eK).run_sizeOf,qq];have cv:∀ f:Nat->Value,Array.map f (Array.range 0)=#[]:=λf=>by apply Array.ext<;>simp
      simp[newRow,rU,Instr.fill,cv]
     ·exact af.elim
    |true=>
     rw[a2]at af;simp only[bn]at af;rw[bs]at a2;have hle:=bk a2.1;have nZ:0<len*av.size:=by simpa using a2.2
     split at af;·rename_i cells r2;obtain⟨mf,r7,pu⟩:=(aA _ _ eK).vP w;obtain⟨af⟩:=af;have aj:=af w.heap.size h.holds.lr h.holds.kG;refine fC (by simp) (v:=.slice (some ⟨w.heap.size,0,none⟩) len len) (w':=w.alloc (.cells cells.toArray e (0,0))) ?_ ⟨_,.val _,_,_,_,rfl,rfl,h.j1 _,aj,.inr ⟨rfl,λ_ _ h=>h,λb o ag=>ag.mono (λ_ _ h=>h) (λx ab=>by simp[ab])⟩⟩;have r3:=fill_eq _ _ _ _ r2;simp only[execOp,Instr.buildSlice,bo,bd,run_underlying hu,(aA _ _ eK).run_sizeOf];rw[cd (by omega)];simp only[cd (show ¬ len*av.size=0 by omega),bo,r7,bd,bR,qq,GU mf av.zero pu,r3];simp[newRow,rU]
     ·exact af.elim
   ·exact af.elim
  ·exact af.elim
 case makeSlice t l c=>
  simp only[n2,bj,dW]at af;split at af
  ·rename_i sz eW z e vX bY h2 c' aq au aB;have hu:=(aA _ _ aq).slice;have kL:=iY (by simp[Op.operands]) au;have Oe:=iY (by simp[Op.operands]) aB;split at af
   ·rename_i av eK;obtain⟨n,m,rfl,rfl,vY,ag,hm,⟨af⟩⟩:=af;have aj:=af w.heap.size h.holds.lr h.holds.kG;obtain⟨inf,mf,ec,gK,fD,g1,r8⟩:=(aA _ _ eK).inf;refine fC (by simp) (v:=.slice (some ⟨w.heap.size,0,none⟩) n m) (w':=w.alloc (.cells (rowOf av.zero (m*av.size)).toArray e (0,0))) ?_ ⟨_,.val _,_,_,_,rfl,rfl,h.j1 _,aj,.inr ⟨rfl,λ_ _ h=>h,λb o ag=>ag.mono (λ_ _ h=>h) (λx ab=>by simp[ab])⟩⟩;have kK:((av.bytes:Nat):Int)*(m:Int)<=281474976710656:=by
     have aa:((av.bytes*m:Nat):Int)<=281474976710656:=by omega
     simpa using aa
    have:=run_make (P:=X.P) w t e inf mf hu ec g1 vX h2 (n:Int) (m:Int) (by omega) (by omega) (by rw[fD];exact kK) (by omega);simp only[execOp,kL,Oe,bo,this,bd,bR,ll];have ax:madeCells mf.cells (m*inf.size)=(rowOf av.zero (m*av.size)).toArray:=by rw[gK,<-r8];simp[tJ]
    rw[ax]
   ·exact af.elim
  ·exact af.elim
 case call c=>
  obtain⟨callee,args,argTypes⟩:=c;cases callee with
  |value f=>
   simp only[n2,bj]at af;split at af
   ·rename_i g first cap vs qt e5
    have Of:hv G args.toList=some vs:=by rw[<-e5];exact pw λy aE=>m9 y (by simp only[Op.operands,Call.operands];simp;right;simpa using aE)
    have Og:=iY (by simp[Op.operands,Call.operands]) qt;obtain⟨ct,b4,Mr,post,Oh,ch,an,aj⟩:=af.elim ⟨h.holds.d,h.holds.bH⟩;have ax:=mc az Of;have cq:args.map a.eval=vs.toArray:=by apply dT;simpa using ax
    have dg:∀ {n:Next} {w':World},(callFunc g (first.toList++vs++cap.toList).toArray).run X.P w=.ok n w'->(execOp a.eval ⟨dst,.call { callee:=.value f,args,argTypes },ty,pos,after,guard⟩).run X.P w=.ok n w':=λal=>by simp only[execOp,resolve,Og,Deferred.ofValue,bo,bR,bd,cq,invoke];rw[show first++vs.toArray++cap=(first.toList++vs++cap.toList).toArray from by apply dT;simp];exact al
    have Hk:∀ {I':aG} {M':List aC},(∀ b o,I b=some o->I' b=some o)->(soft=true\/∀ x∈M,I' x.num=some x.obj\/x∈M')->(soft=true/\Hi F (.call { callee:=.value f,args,argTypes }) C C I I' M M')\/(C=C/\(∀ b o,I b=some o->I' b=some o)/\∀ b o,e4 I M b o->e4 I' M' b o):=λU aa=>by
     rcases aa with aa | aa;·exact .inl ⟨aa,⟨λt x y s off e _=>(by cases e),λt x y ad e _=>(by cases e),λ_=>⟨rfl,U⟩⟩⟩
     ·exact .inr ⟨rfl,U,λb o ag=>ag.move U aa⟩
    rcases h.call (KC:=λv I' M'=>(∀ b o,I b=some o->I' b=some o)/\(soft=true\/∀ x∈M,I' x.num=some x.obj\/x∈M')/\K (Go.V.put dst (.val v) F) C I' M') (.GD ct b4 Mr post Oh an λv I' M' hle ao aK=>⟨λb o ag=>hle _ _ (ch _ _ ag),(aj v I' M' hle ao aK).1,(aj v I' M' hle ao aK).2⟩)with⟨j2,r9⟩ | ⟨v,w',I',M',al,⟨U,aa,aj⟩,eR⟩;·refine GS (by simp) (f:=g) (args:=(first.toList++vs++cap.toList).toArray) (dg (j2 _ _)) ?_;refine r9.mono ?_;rintro e w'⟨v,I',M',rfl,⟨U,aa,aj⟩,al⟩;exact⟨v,rfl,v,.val v,C,I',M',rfl,rfl,al,aj,Hk U aa⟩
    ·exact fC (by simp) (dg al) ⟨v,.val v,C,I',M',rfl,rfl,eR,aj,Hk U aa⟩
   ·exact af.elim
  |invoke r m=>exact af.elim
  |builtin b=>
   cases b
   case append=>
    simp only[n2,bj]at af;cases soft with
    |false=>exact af.elim| true=>simp only[bn]at af;obtain⟨af⟩:=af G m9;refine l9 (λbl w'=>?_) (af β a w Q h);rintro⟨v,x,I',M',U,aa,ak,aL,BR⟩;exact⟨v,x,C,I',M',U,aa,ak,aL,.inl ⟨rfl,⟨λt x y s off e _=>(by cases e),λt x y ad e _=>(by cases e),λ_=>⟨rfl,λb o h=>by rw[BR];exact h⟩⟩⟩⟩
   case copy=>
    simp only[n2,bj]at af;cases soft with
    |false=>exact af.elim| true=>simp only[bn]at af;obtain⟨af⟩:=af G m9;refine l9 (λbl w'=>?_) (af β a w Q h);rintro⟨v,x,I',M',U,aa,ak,aL,BR⟩;exact⟨v,x,C,I',M',U,aa,ak,aL,.inl ⟨rfl,⟨λt x y s off e _=>(by cases e),λt x y ad e _=>(by cases e),λ_=>⟨rfl,λb o h=>by rw[BR];exact h⟩⟩⟩⟩
   all_goals exact af.elim
 all_goals exact af.elim
def ml(x y:b0):Prop:=∀ β u,cI β x u->cI β y u
def ml.refl(x:b0):ml x x:=λ_ _ h=>h
def ml.trans{x y z:b0}(h:ml x y)(aP:ml y z):ml x z:=fun β u hu=>aP β u (h β u hu)
structure n6(ops:List Oper):Prop where
 lt:∀ j e,hC ops j e->e<j
 own:∀ (j:Nat) (o:Oper) (d:Nat),ops[j]?=some o->o.dst=some d->d ∉ looks ops o
 BS:∀ (i j:Nat) (dz hB:Oper) (d:Nat),i≠j->ops[i]?=some dz->ops[j]?=some hB->dz.dst=some d->hB.dst≠some d
 ord:∀ (i j:Nat) (dz hB:Oper) (d:Nat),i≠j->ops[i]?=some dz->ops[j]?=some hB->dz.dst=some d->d∈looks ops hB->jy ops i j\/jy ops j i
def Hl(h:y9 ops=true):n6 ops:=by
 have key:∀ (j:Nat) (hB:Oper),ops[j]?=some hB->_:=λj hB ap=>by have a0:j<ops.length:=(gf.1 ap).1;have U:=eO.1 h j (jY.2 a0);simp only[ap,bs]at U;exact U
 refine⟨?_,?_,?_,?_⟩
 ·rintro j e⟨o,h5,ar,kP,ag,rfl⟩;have U:=eO.1 (key j o ar).1 h5 (by simpa using kP);rw[ag]at U;simpa using U
 ·intro j o d ar ao;have U:=(key j o ar).2.1;rw[ao]at U;simpa using U
 ·intro i j dz hB d br hi ap ao e7;have a0:i<ops.length:=(gf.1 hi).1;have U:=eO.1 (key j hB ap).2.2 i (jY.2 a0);rw[eQ br]at U;simp only[hi,ao,rV,bs]at U;rw[e7]at U;simp at U
 ·intro i j dz hB d br hi ap ao au;have a0:i<ops.length:=(gf.1 hi).1;have U:=eO.1 (key j hB ap).2.2 i (jY.2 a0);rw[eQ br]at U;simp only[hi,ao,rV,bs,gY]at U;rcases U.2 with aa | aa | aa
  ·have:(looks ops hB).contains d=true:=by simpa using au
   rw[this]at aa;cases aa
  ·exact .inl (qB aa)
  ·exact .inr (qB aa)
def fj(ops:List Oper)(i:Nat):Option Nat:=(ops[i]?).bind (·.dst)
def gw(L:Nat->Prop)(p i:Nat):Prop:=p.testBit i=true/\¬ L i
def qC(ops:List Oper)(o:Oper)(F:Fr):Prop:=match o.guard with
 |none=>True| some (j,b)=>∃ d,fj ops j=some d/\F d=.lit b
def zb(ops:List Oper)(o:Oper)(F:Fr):Prop:=∃ j b d,o.guard=some (j,b)/\fj ops j=some d/\(F d=.lit (!b)\/∃ vs,F d=.val (.tuple vs))
def BT{o:Oper}{j d:Nat}{b:Bool}(aw:o.guard=some (j,b))(ao:fj ops j=some d):d∈looks ops o:=by unfold looks Oper.looksAt;refine List.mem_append_right _ ?_;rw[aw];simp only[Option.mem_toList];simpa[fj]using ao
def BU{o:Oper}{t:Nat}(h:Operand.tmp t∈o.op.operands):t∈looks ops o:=
 vF _ (List.mem_filterMap.2 ⟨.tmp t,by simpa using h,rfl⟩)
def Hm{o:Oper}{F:Fr}{β:Nat->Nat}(h:qC ops o F)(bM:∀ t∈looks ops o,cI β (F t) (a.tmps.getD t undef)):Region.wanted o (yielded ops.toArray a.tmps)=true:=by
 unfold qC at h;unfold Region.wanted;cases aw:o.guard with
 |none=>rfl| some v0=>obtain⟨j,b⟩:=v0;rw[aw]at h;obtain⟨d,ao,au⟩:=h;have U:=bM d (BT aw ao);rw[au]at U;have aE:=vZ (ops:=ops.toArray) (j:=j) (d:=d) (by simpa[fj]using ao) a.tmps;simp[aE,tR U]
def Hn{o:Oper}{F:Fr}{β:Nat->Nat}(h:zb ops o F)(bM:∀ t∈looks ops o,cI β (F t) (a.tmps.getD t undef)):Region.wanted o (yielded ops.toArray a.tmps)=false:=by
 obtain⟨j,b,d,aw,ao,au⟩:=h;unfold Region.wanted;have U:=bM d (BT aw ao);have aE:=vZ (ops:=ops.toArray) (j:=j) (d:=d) (by simpa[fj]using ao) a.tmps;rw[aw];rcases au with au | ⟨vs,au⟩
 ·rw[au]at U;simp[aE,tR U]
 ·rw[au]at U;have r':yielded ops.toArray a.tmps j=none:=by
   rw[aE];cases jw:a.tmps[d]? with
   |none=>rfl| some v=>simp only[cI,jt,jw,hs]at U;subst U;rfl
  simp[r']
def Ho{o:Oper}{F:Fr}{run skip:Fr->Prop}(h:y7 ops o F run skip):∃ gN,(∀ t,ml (F t) (gN t))/\((qC ops o gN/\run gN)\/(zb ops o gN/\skip gN)):=by
 unfold y7 at h;cases aw:o.guard with
 |none=>rw[aw]at h;exact⟨F,λt=>.refl _,.inl ⟨by simp[qC,aw],h⟩⟩
 |some v0=>
  obtain⟨j,b⟩:=v0;rw[aw]at h;simp only at h;split at h;·exact h.elim
  ·rename_i d ao;have e7:fj ops j=some d:=ao;split at h
   ·rename_i c aB;refine⟨F,λt=>.refl _,?_⟩;cases fE:(c == b)with
    |true=>
     rw[fE]at h;have fE:c=b:=by simpa using fE
     subst fE;exact .inl ⟨by simp only[qC,aw];exact⟨d,e7,aB⟩,h⟩
    |false=>
     rw[fE]at h;have zc:c=!b:=by cases c<;>cases b<;>simp_all
     subst zc;exact .inr ⟨⟨j,b,d,aw,e7,.inl aB⟩,h⟩
   ·rename_i c aB;obtain⟨U,aa⟩:=h;have ez:∀ x,c=x->∀ t,ml (F t) (dK F d (.lit x) t):=λx ab t=>by
     unfold dK;by_cases e:t=d;·subst e;subst ab;simp only[kF,bn,aB];exact λ_ _ h=>h
     ·simp only[eQ e,bj];exact .refl _
    have self:∀ x,dK F d (.lit x) d=.lit x:=λx=>by simp[dK]
    by_cases fE:c=b;·exact⟨_,ez b fE,.inl ⟨by simp only[qC,aw];exact⟨d,e7,self b⟩,U fE⟩⟩
    ·have zc:c=!b:=by cases c<;>cases b<;>simp_all
     exact⟨_,ez _ zc,.inr ⟨⟨j,b,d,aw,e7,.inl (self _)⟩,aa zc⟩⟩
   ·rename_i vs aB;exact⟨F,λt=>.refl _,.inr ⟨⟨j,b,d,aw,e7,.inr ⟨vs,aB⟩⟩,h⟩⟩
   ·exact h.elim
structure Oi(X:bO)(ops:List Oper)(e9:Nat->Bool)(L:Nat->Prop)(p:Nat)(bq:List (Nat×Nat))(β:Nat->Nat)(a:Act)(F:Fr)(C:b6)(I:aG)(M:List aC)(ep:Nat->b0)(dG:Nat->Fr)(q:Nat)(o:Oper):Prop where
 quiet:tV o.op=true
 ez:∀ d,o.dst=some d->ml (ep q) (F d)
 b:∀ t∈looks ops o,∀ i,gw L p i->jy ops i q->fj ops i=some t->ml (ep i) (dG q t)
 a:∀ t∈looks ops o,(∀ i,gw L p i->jy ops i q->fj ops i≠some t)->cI β (dG q t) (a.tmps.getD t undef)
 r:(qC ops o (dG q)/\bw X o.op (bZ (dG q)) C I (n3 (e9 q) M) (λx=>x=ep q) False/\∀ t x,o.op=.load t x->(q,y8 (bZ (dG q) x))∈bq)\/(zb ops o (dG q)/\ep q=.val undef)
structure Inv(X:bO)(ops:List Oper)(e9:Nat->Bool)(L:Nat->Prop)(β:Nat->Nat)(a:Act)(w:World)(F:Fr)(C:b6)(I:aG)(M:List aC)(p:Nat)(bq:List (Nat×Nat))(ep:Nat->b0)(dG:Nat->Fr):Prop where
 rel:bE X β a w (λ_=>.hZ) C I M
 sub:∀ i,L i->p.testBit i=true
 n7:sf ops L
 kQ:sf ops (λi=>p.testBit i=true)
 T:∀ t,(∀ i,gw L p i->fj ops i≠some t)->cI β (F t) (a.tmps.getD t undef)
 qD:∀ q,gw L p q->∃ o,ops[q]?=some o/\Oi X ops e9 L p bq β a F C I M ep dG q o
def hD{p q i:Nat}:(p ||| 2^q).testBit i=true ↔ p.testBit i=true\/i=q:=by simp only[yK,gY,yG,e3];exact⟨λh=>h.imp id Eq.symm,λh=>h.imp id Eq.symm⟩
section
variable{X:bO}{ops:List Oper}{e9:Nat->Bool}{L:Nat->Prop}{β:Nat->Nat}{a:Act}{w:World}{F:Fr}{C:b6}{I:aG}{M:List aC}{p:Nat}{bq:List (Nat×Nat)}{ep:Nat->b0}{dG:Nat->Fr}{q:Nat}{o:Oper}
def wi(h:ops[q]?=some o):fj ops q=o.dst:=by simp[fj,h]
def wj{i d:Nat}(h:fj ops i=some d):∃ dz,ops[i]?=some dz/\dz.dst=some d:=by unfold fj at h;exact Bm.1 h
def Inv.ahead(bX:n6 ops)(Hp:sf ops (λi=>p.testBit i=true))(aR:ops[q]?=some o)(gO:p.testBit q=false){i t:Nat}(hi:p.testBit i=true)(aq:t∈looks ops o)(ao:fj ops i=some t):jy ops i q:=by
 obtain⟨dz,eS,j6⟩:=wj ao;have br:i≠q:=λe=>by rw[e,gO]at hi;cases hi
 rcases bX.ord i q dz o t br eS aR j6 aq with h | h
 ·exact h
 ·have:=h.mem Hp (λe he=>Hp i e hi he);rw[gO]at this;cases this
def Inv.Oj(bX:n6 ops)(h:Inv X ops e9 L β a w F C I M p bq ep dG)(aR:ops[q]?=some o)(gO:p.testBit q=false)(cj:∀ e,hC ops q e->L e):∀ t∈looks ops o,cI β (F t) (a.tmps.getD t undef):=λt aq=>h.T t λi hi ao=>
 hi.2 ((Inv.ahead bX h.kQ aR gO hi.1 aq ao).mem h.n7 cj)
def zd{x:b0}{t:Nat}(h:dst≠some t):put dst x F t=F t:=by
 cases dst with
 |none=>rfl| some d=>have:t≠d:=λe=>h (by rw[e]);simp only[put,dK,eQ this,bj]
def put_eq{x:b0}{t:Nat}:put (some t) x F t=x:=by simp[put,dK]
def ze{t:Nat}(h:dst≠some t):(a.put dst v).tmps.getD t undef=a.tmps.getD t undef:=by
 cases dst with
 |none=>rfl| some d=>have:d≠t:=λe=>h (by rw[e]);simp only[Act.put,jt,tD,cd this]
def BV{t:Nat}(h:t<a.tmps.size):(a.put (some t) v).tmps.getD t undef=v:=by rw[GG a t t v h,ck rfl]
def Inv.record(bX:n6 ops)(h:Inv X ops e9 L β a w F C I M p bq ep dG)(aR:ops[q]?=some o)(gO:p.testBit q=false)(qA:∀ e,hC ops q e->p.testBit e=true)(zf:tV o.op=true)
  {gN:Fr} (mm:∀ t,ml (F t) (gN t)) {x:b0} {BW:List (Nat×Nat)} (m7:∀ s∈bq,s∈BW) (al:(qC ops o gN/\bw X o.op (bZ gN) C I (n3 (e9 q) M) (λy=>y=x) False/\∀ t y,o.op=.load t y->(q,y8 (bZ gN y))∈BW)\/(zb ops o gN/\x=.val undef)) :
  Inv X ops e9 L β a w (put o.dst x gN) C I M (p ||| 2^q) BW (λi=>if i=q then x else ep i) (λi=>if i=q then gN else dG i):=by
 have kR:¬ L q:=λe=>by have:=h.sub q e;rw[gO]at this;cases this
 have j7:∀ {i},gw L (p ||| 2^q) i->i≠q->gw L p i:=λhi br=>⟨(hD.1 hi.1).resolve_right br,hi.2⟩;have px:∀ {i},gw L p i->gw L (p ||| 2^q) i:=λhi=>⟨hD.2 (.inl hi.1),hi.2⟩;have Ok:gw L (p ||| 2^q) q:=⟨hD.2 (.inr rfl),kR⟩;have Ol:∀ {i},gw L p i->¬ jy ops q i:=fun {i} hi ag=>by have:=ag.mem h.kQ (λe he=>h.kQ i e hi.1 he);rw[gO]at this;cases this
 refine⟨h.rel,λi hi=>hD.2 (.inl (h.sub i hi)),h.n7,?_,?_,?_⟩
 ·intro j e ap he;rcases hD.1 ap with ap | rfl
  ·exact hD.2 (.inl (h.kQ j e ap he))
  ·exact hD.2 (.inl (qA e he))
 ·intro t aq;have U:o.dst≠some t:=λe=>aq q Ok (by rw[wi aR,e]);rw[zd U];exact mm t _ _ (h.T t λi hi=>aq i (px hi))
 ·intro i hi;by_cases jz:i=q
  ·subst jz;refine⟨o,aR,⟨zf,?_,?_,?_,?_⟩⟩
   ·intro d ao;rw[ao,put_eq];simp only[ck];exact .refl _
   ·intro t aq j ap ag n8;have zg:j≠i:=λe=>by subst e;have:=ag.mem h.kQ qA;rw[gO]at this;cases this
    simp only[cd zg,ck];obtain⟨hB,Om,lA⟩:=h.qD j (j7 ap zg);exact(lA.ez t (by rw[<-wi Om];exact n8)).trans (mm t)
   ·intro t aq ed;simp only[ck];refine mm t _ _ (h.T t λj ap n8=>ed j (px ap) (Inv.ahead bX h.kQ aR gO ap.1 aq n8) n8)
   ·simpa using al
  ·obtain⟨dz,eS,lA⟩:=h.qD i (j7 hi jz);refine⟨dz,eS,⟨lA.quiet,?_,?_,?_,?_⟩⟩
   ·intro d ao;simp only[cd jz];rw[zd (bX.BS i q dz o d jz eS aR ao)];exact(lA.ez d ao).trans (mm d)
   ·intro t aq j ap ag n8;have wk:j≠q:=λe=>by subst e;exact Ol (j7 hi jz) ag
    simp only[cd jz,cd wk];exact lA.b t aq j (j7 ap wk) ag n8
   ·intro t aq ed;simp only[cd jz];exact lA.a t aq λj ap=>ed j (px ap)
   ·simp only[cd jz];exact lA.r.imp (λ⟨U,aa,ak⟩=>⟨U,aa,λt x ax=>m7 _ (ak t x ax)⟩) id
def Inv.exec{Hq:Act->World->Prop}(aA:bV X.P X.E)(bX:n6 ops)(eC:∀ d,o.dst=some d->d<X.n)(h:Inv X ops e9 L β a w F C I M p bq ep dG)(aR:ops[q]?=some o)(aK:gw L p q)(cj:∀ e,hC ops q e->L e)
  (dy:∀ bl,Inv X ops e9 (λi=>L i\/i=q) β bl w F C I M p bq ep dG->Hq bl w):wpOpIn (dV X) 0 X.P ops.toArray Q q Hq a w:=by
 obtain⟨o',kS,lA⟩:=h.qD q aK;rw[aR]at kS;cases kS;have tX:∀ {i},jy ops i q->¬ gw L p i:=λag hi=>hi.2 (ag.mem h.n7 cj);have fU:∀ t∈looks ops o,cI β (dG q t) (a.tmps.getD t undef):=λt aq=>lA.a t aq λi hi ag=>(tX ag hi).elim;have after:∀ v,cI β (ep q) v->Inv X ops e9 (λi=>L i\/i=q) β (a.put o.dst v) w F C I M p bq ep dG:=λv af=>by
  have j7:∀ {i},gw (λi=>L i\/i=q) p i->gw L p i/\i≠q:=λhi=>⟨⟨hi.1,λe=>hi.2 (.inl e)⟩,λe=>hi.2 (.inr e)⟩;have px:∀ {i},gw L p i->i≠q->gw (λi=>L i\/i=q) p i:=λhi br=>⟨hi.1,λe=>e.elim hi.2 br⟩;refine⟨h.rel.put eC (x:=.hZ) trivial |> λh=>h.refine λ_=>trivial,?_,?_,h.kQ,?_,?_⟩
  ·rintro i (hi | rfl)
   ·exact h.sub i hi
   ·exact aK.1
  ·rintro j e (ap | rfl) he
   ·exact .inl (h.n7 j e ap he)
   ·exact .inl (cj e he)
  ·intro t aq;by_cases ao:o.dst=some t
   ·have a0:t<a.tmps.size:=by rw[h.rel.size];exact eC t ao
    rw[ao,BV a0];exact lA.ez t ao _ _ af
   ·rw[ze ao];refine h.T t λi hi j6=>?_;by_cases jz:i=q
    ·subst jz;rw[wi aR]at j6;exact ao j6
    ·exact aq i (px hi jz) j6
  ·intro i hi;obtain⟨cr,jz⟩:=j7 hi;obtain⟨dz,eS,mo⟩:=h.qD i cr;refine⟨dz,eS,⟨mo.quiet,mo.ez,λt aq j ap=>mo.b t aq j (j7 ap).1,?_,mo.r⟩⟩;intro t aq ed;by_cases ao:o.dst=some t
   ·have a0:t<a.tmps.size:=by rw[h.rel.size];exact eC t ao
    rw[ao,BV a0];have ag:jy ops q i:=by
     rcases bX.ord q i o dz t (l' jz) aR eS ao aq with ag | ag;·exact ag
     ·exact(tX ag cr).elim
    exact mo.b t aq q aK ag (by rw[wi aR,ao]) _ _ af
   ·rw[ze ao];refine mo.a t aq λj ap ag n8=>?_;by_cases wk:j=q
    ·subst wk;rw[wi aR]at n8;exact ao n8
    ·exact ed j (px ap wk) ag n8
 have wm:ops.toArray[q]?=some o:=by simpa using aR
 unfold wpOpIn;simp only[wm];rcases lA.r with⟨dg,On,-⟩ | ⟨wo,ab⟩
 ·rw[Hm dg fU,ck rfl];let G:Fr:=λt=>if t∈looks ops o then dG q t else .hZ
  have m9:∀ t,cI β (G t) (a.tmps.getD t undef):=λt=>by
   by_cases aq:t∈looks ops o;·simp only[G,ck aq];exact fU t aq
   ·simp only[G,cd aq];trivial
  have BX:∀ y∈o.op.operands,bZ G y=bZ (dG q) y:=λy aE=>by
   cases y with
   |tmp t=>simp only[bZ,G,ck (BU aE)]| const v=>cases v<;>rfl
   |global g=>rfl| func f=>rfl
  have Oo:=Hh On BX (C':=C) (I':=I) (M':=M) λ_ _ _=>⟨λ_ _ _=>rfl,λ_ _ _ h=>N4 h⟩;obtain⟨dst,op,ty,pos,Oq,guard⟩:=o;have bI:∀ c,op≠.defer c:=λc e=>by have:=lA.quiet;rw[e]at this;cases this
  rcases GY aA (h.rel.refine m9) op ty dst pos Oq guard Oo with U | ⟨v,x,sg,ab,rfl⟩;·exact U.elim
  ·exact fC bI sg (dy _ (after v ab))
 ·rw[Hn wo fU];simp only[gG,g9];exact⟨λ_ _=>trivial,dy _ (after undef (by rw[ab];rfl))⟩
end
section
variable{X:bO}{ops:List Oper}{e9:Nat->Bool}{L:Nat->Prop}{β:Nat->Nat}{a:Act}{w:World}{F:Fr}{C:b6}{I:aG}{M:List aC}{p:Nat}{bq:List (Nat×Nat)}{ep:Nat->b0}{dG:Nat->Fr}{q:Nat}{o:Oper}
def Inv.refine(h:Inv X ops e9 L β a w F C I M p bq ep dG){gN:Fr}(mm:∀ t,ml (F t) (gN t)):Inv X ops e9 L β a w gN C I M p bq ep dG:=
 ⟨h.rel,h.sub,h.n7,h.kQ,λt aq=>mm t _ _ (h.T t aq),λi hi=>by
  obtain⟨dz,eS,aK⟩:=h.qD i hi;exact⟨dz,eS,⟨aK.quiet,λd ao=>(aK.ez d ao).trans (mm d),aK.b,aK.a,aK.r⟩⟩⟩
def Inv.step(bX:n6 ops)(eC:∀ d,o.dst=some d->d<X.n)(h:Inv X ops e9 L β a w F C I M p bq ep dG)(aR:ops[q]?=some o)(gO:p.testBit q=false)(cj:∀ e,hC ops q e->L e)
 {x:b0} {C':b6} {I':aG} {M':List aC} (ab:cI β x v) (al:bE X β a w' (λ_=>.hZ) C' I' M')
  (hm:∀ i dz c5,gw L p i->ops[i]?=some dz->j4 dz.op=true->(i,c5)∈bq->(∀ s,c5=s+1->C' s=C s)/\(c5=0->∀ b o,e4 I (n3 (e9 i) M) b o->e4 I' (n3 (e9 i) M') b o)) :
  Inv X ops e9 (λi=>L i\/i=q) β (a.put o.dst v) w' (put o.dst x F) C' I' M' (p ||| 2^q) bq ep dG:=by
 have j7:∀ {i},gw (λi=>L i\/i=q) (p ||| 2^q) i->gw L p i:=λhi=>⟨(hD.1 hi.1).resolve_right (λe=>hi.2 (.inr e)),λe=>hi.2 (.inl e)⟩;have px:∀ {i},gw L p i->gw (λi=>L i\/i=q) (p ||| 2^q) i:=fun {i} hi=>⟨hD.2 (.inl hi.1),λe=>e.elim hi.2 (λe=>by
  subst e;have:=hi.1;rw[gO]at this;cases this)⟩
 refine⟨al.put eC (x:=.hZ) trivial |> λh=>h.refine λ_=>trivial,?_,?_,?_,?_,?_⟩
 ·rintro i (hi | rfl)
  ·exact hD.2 (.inl (h.sub i hi))
  ·exact hD.2 (.inr rfl)
 ·rintro j e (ap | rfl) he
  ·exact .inl (h.n7 j e ap he)
  ·exact .inl (cj e he)
 ·intro j e ap he;rcases hD.1 ap with ap | rfl
  ·exact hD.2 (.inl (h.kQ j e ap he))
  ·exact hD.2 (.inl (h.sub e (cj e he)))
 ·intro t aq;by_cases ao:o.dst=some t
  ·have a0:t<a.tmps.size:=by rw[h.rel.size];exact eC t ao
   rw[ao,BV a0,put_eq];exact ab
  ·rw[ze ao,zd ao];exact h.T t λi hi=>aq i (px hi)
 ·intro i hi;have cr:=j7 hi;obtain⟨dz,eS,mo⟩:=h.qD i cr;have jz:i≠q:=λe=>by subst e;have:=cr.1;rw[gO]at this;cases this
  refine⟨dz,eS,⟨mo.quiet,?_,λt aq j ap=>mo.b t aq j (j7 ap),?_,?_⟩⟩;·intro d ao;rw[zd (bX.BS i q dz o d jz eS aR ao)];exact mo.ez d ao
  ·intro t aq ed;have ao:o.dst≠some t:=λao=>by
    rcases bX.ord q i o dz t (l' jz) aR eS ao aq with ag | ag;·have:=ag.mem h.kQ (λe he=>h.kQ i e cr.1 he);rw[gO]at this;cases this
    ·exact cr.2 (ag.mem h.n7 cj)
   rw[ze ao];exact mo.a t aq λj ap=>ed j (px ap)
  ·refine mo.r.imp (λ⟨U,aa,ak⟩=>⟨U,Hh aa (λ_ _=>rfl) λt x au=>?_,ak⟩) id;have aL:=ak t x au;have be:=hm i dz _ cr eS (by rw[au];rfl) aL;refine⟨λs off e=>?_,λbr=>be.2 ?_⟩
   ·exact be.1 s (by rw[e];rfl)
   ·generalize bZ (dG i) x=Ot at br;cases Ot with
    |ref s off=>exact(br s off rfl).elim| _=>rfl
def sh(X:bO)(ops:List Oper)(e9:Nat->Bool)(K:dE)(L:Nat->Prop)(a:Act)(w:World):Prop:=
 ∃ β F C I M p bq ep dG n,Inv X ops e9 L β a w F C I M p bq ep dG/\ly X ops e9 n p bq F C I M K
def wq{k:Bool}{i:Nat}:i∈j5 ops p k ↔ ∃ o,ops[i]?=some o/\p.testBit i=false/\tV o.op=k/\(∀ e,hC ops i e->p.testBit e=true):=by
 unfold j5;rw[vJ,jY];have wu:∀ {o},ops[i]?=some o->(we o p=true ↔ ∀ e,hC ops i e->p.testBit e=true):=fun {o} ar=>by
  unfold we;rw[eO];constructor;·rintro h e⟨o',h5,kS,kP,ag,rfl⟩;rw[ar]at kS;cases kS;have:=h h5 (by simpa using kP);rw[ag]at this;simpa using this
  ·intro h h5 kP;cases ag:Region.binds .any h5 with
   |false=>simp| true=>simp[h h5.on ⟨o,h5,ar,by simpa using kP,ag,rfl⟩]
 constructor
 ·rintro⟨a0,h⟩;cases ar:ops[i]? with
  |none=>rw[ar]at h;cases h| some o=>rw[ar]at h;simp only[bs,ln,beq_iff_eq]at h;exact⟨o,rfl,h.1,h.2.1,(wu ar).1 h.2.2⟩
 ·rintro⟨o,ar,U,aa,ak⟩;refine⟨(gf.1 ar).1,?_⟩;rw[ar];simp only[U,aa,(wu ar).2 ak,Bool.not_false,vH,Bool.and_self]
def Hr{P:Nat->Prop}:∀ {l:List Nat},BO P l->∀ i∈l,P i
 |[],_,i,hi=>by cases hi
 |[j],h,i,hi=>by rw[ju]at hi;subst hi;exact h
 |j::k::l,h,i,hi=>by
  rcases cU.1 hi with rfl | hi;·exact h.1
  ·exact Hr (l:=k::l) h.2 i hi
def Ou(i:Nat)(op:Op)(ρ:Operand->b0)(bq:List (Nat×Nat)):∀ s∈bq,s∈wh i op ρ bq:=λs an=>by
 unfold wh;split
 ·exact .tail _ an
 ·exact an
def Ov{i:Nat}{ρ:Operand->b0}{bq:List (Nat×Nat)}:∀ t x,op=.load t x->(i,y8 (ρ x))∈wh i op ρ bq:=λt x ax=>by subst ax;unfold wh;exact .head _
def sh.advance(bX:n6 ops){K:dE}:∀ (n:Nat) {p bq F ep dG},Inv X ops e9 L β a w F C I M p bq ep dG->ly X ops e9 n p bq F C I M K -> ∃ p bq F ep dG n,Inv X ops e9 L β a w F C I M p bq ep dG/\j5 ops p true=[]/\ly X ops e9 (n+1) p bq F C I M K
 |0,_,_,_,_,_,_,af=>af.elim
 |n+1,p,bq,F,ep,dG,a7,af=>by
  cases al:j5 ops p true with
  |nil=>exact⟨p,bq,F,ep,dG,n,a7,al,af⟩
  |cons q l=>
   have eY:q∈j5 ops p true:=by rw[al];simp
   obtain⟨o,aR,gO,zf,qA⟩:=wq.1 eY;have hz:=af;unfold ly at hz;rw[al]at hz;simp only[aR]at hz;obtain⟨gN,mm,⟨dg,U⟩ | ⟨wo,U⟩⟩:=Ho hz;·obtain⟨x,aa,ak⟩:=N' (N6 U);exact sh.advance bX n (a7.record bX aR gO qA zf mm (Ou _ _ _ _) (.inl ⟨dg,ak,Ov⟩)) aa
   ·exact sh.advance bX n (a7.record bX aR gO qA zf mm (λ_ h=>h) (.inr ⟨wo,rfl⟩)) U
def mem_ready{i:Nat}(bW:listed.size=ops.length):i∈Region.ready .any ops.toArray listed ↔ ∃ o,ops[i]?=some o/\¬ listed.getD i false=true/\∀ e,hC ops i e->listed.getD e false=true:=by
 unfold Region.ready;rw[vJ,jY];simp only[mU,rR,bs,ln];have wu:∀ {o},ops[i]?=some o->((o.after.all λe=>!Region.binds .any e||listed.getD e.on false)=true ↔ ∀ e,hC ops i e->listed.getD e false=true):=fun {o} ar=>by
  rw[Array.all_eq_true_iff_forall_mem];constructor;·rintro h e⟨o',h5,kS,kP,ag,rfl⟩;rw[ar]at kS;cases kS;have:=h h5 kP;rw[ag]at this;simpa using this
  ·intro h h5 kP;cases ag:Region.binds .any h5 with
   |false=>simp| true=>simp[h h5.on ⟨o,h5,ar,kP,ag,rfl⟩]
 have Hs:i<ops.length->(listed.getD i true=false ↔ ¬ listed.getD i false=true):=λhi=>by
  have:i<listed.size:=by omega
  simp[Array.getD,this]
 constructor
 ·rintro⟨a0,U,aa⟩;cases ar:ops[i]? with
  |none=>rw[ar]at aa;cases aa| some o=>rw[ar]at aa;exact⟨o,rfl,(Hs a0).1 U,(wu ar).1 aa⟩
 ·rintro⟨o,ar,U,aa⟩;have a0:=(gf.1 ar).1;refine⟨a0,(Hs a0).2 U,?_⟩;rw[ar];exact(wu ar).2 aa
def Ht{i:Nat}(hi:i<listed.size):(λj=>(listed.setIfInBounds i true).getD j false=true)=λj=>listed.getD j false=true\/j=i:=by
 funext j;simp only[jt,tD,eq_iff_iff];by_cases e:i=j
 ·subst e;simp[hi]
 ·simp only[cd e];constructor
  ·exact .inl
  ·rintro(h | h)
   ·exact h
   ·exact(e h.symm).elim
def todo(ops:List Oper)(listed:Array Bool):Nat:=((List.range ops.length).filter λi=>!listed.getD i false).length
def zh{i:Nat}(hi:i<ops.length)(bW:listed.size=ops.length)(aF:¬ listed.getD i false=true):todo ops (listed.setIfInBounds i true)<todo ops listed:=by
 unfold todo;have key:∀ l:List Nat,l.Nodup->i∈l->((l.filter λj=>!(listed.setIfInBounds i true).getD j false).length<(l.filter λj=>!listed.getD j false).length):=by
  have same:∀ j,j≠i->(listed.setIfInBounds i true).getD j false=listed.getD j false:=λj ap=>by simp only[jt,tD,cd (l' ap)]
  have self:(listed.setIfInBounds i true).getD i false=true:=by
   have:i<listed.size:=by omega
   simp[jt,tD,this]
  have wv:listed.getD i false=false:=by simpa using aF
  intro l
  induction l with
  |nil=>intro _ h;cases h
  |cons j l aX=>
   intro bI hm;rw[kB]at bI;by_cases e:j=i
   ·subst e;have:l.filter (λk=>!(listed.setIfInBounds j true).getD k false)=l.filter (λk=>!listed.getD k false):=
     List.filter_congr λk aj=>by rw[same k (λe=>bI.1 (e ▸ aj))]
    simp only[yJ,self,wv,this];simp
   ·have lB:i∈l:=by
     rcases cU.1 hm with h | h;·exact(e h.symm).elim
     ·exact h
    have:=aX bI.2 lB;simp only[yJ,same j e];split;·simp only[c8];omega
    ·exact this
 exact key _ List.nodup_range (jY.2 hi)
def Ow(aA:bV X.P X.E)(bX:n6 ops)(eC:∀ o∈ops,∀ d,o.dst=some d->d<X.n){K:dE}(m3:∀ a w,Sat X K a w->Q .normal a w):∀ (ca:Nat) (listed:Array Bool) (a:Act) (w:World),
  listed.size=ops.length->todo ops listed<=ca->sh X ops e9 K (λi=>listed.getD i false=true) a w->wpAnyIn (dV X) 0 X.P .any ops.toArray Q ca listed a w:=by
 intro ca
 induction ca with
 |zero=>
  rintro listed a w bW az⟨β,F,C,I,M,p,bq,ep,dG,n,a7,af⟩;have h6:Region.ready .any ops.toArray listed=[]:=by
   cases al:Region.ready .any ops.toArray listed with
   |nil=>rfl| cons i l=>obtain⟨o,ar,aF,_⟩:=(mem_ready bW).1 (by rw[al];simp:i∈Region.ready .any ops.toArray listed);have:=zh (gf.1 ar).1 bW aF;omega
  refine⟨h6,?_⟩;obtain⟨p,bq,F,ep,dG,n,a7,gj,af⟩:=sh.advance bX n a7 af;have wx:∀ i,p.testBit i=true->listed.getD i false=true:=λi=>by
   induction i using Nat.strongRecOn with
   |ind i aX=>intro aK;refine vD λaF=>?_;obtain⟨o,ar,_⟩:=a7.qD i ⟨aK,aF⟩;have:i∈Region.ready .any ops.toArray listed:=(mem_ready bW).2 ⟨o,ar,aF,λe he=>aX e (bX.lt i e he) (a7.kQ i e aK he)⟩;rw[h6]at this;cases this
  have py:j5 ops p false=[]:=by
   cases al:j5 ops p false with
   |nil=>rfl| cons i l=>obtain⟨o,ar,aK,_,ao⟩:=wq.1 (by rw[al];simp:i∈j5 ops p false);have:i∈Region.ready .any ops.toArray listed:=(mem_ready bW).2 ⟨o,ar,λb7=>(by have er:=a7.sub i b7;rw[aK]at er;exact Bool.noConfusion er),λe he=>wx e (ao e he)⟩;rw[h6]at this;cases this
  unfold ly at af;rw[gj,py]at af;exact m3 _ _ ⟨F,C,I,M,⟨β,a7.rel.refine λt=>a7.T t λi hi=>(hi.2 (wx i hi.1)).elim⟩,af⟩
 |succ ca aX=>
  rintro listed a w bW az⟨β,F,C,I,M,p,bq,ep,dG,n,a7,af⟩;obtain⟨p,bq,F,ep,dG,n,a7,gj,af⟩:=sh.advance bX n a7 af;refine⟨λh6=>?_,λq aR=>?_⟩
  ·have wx:∀ i,p.testBit i=true->listed.getD i false=true:=λi=>by
    induction i using Nat.strongRecOn with
    |ind i aX=>intro aK;refine vD λaF=>?_;obtain⟨o,ar,_⟩:=a7.qD i ⟨aK,aF⟩;have:i∈Region.ready .any ops.toArray listed:=(mem_ready bW).2 ⟨o,ar,aF,λe he=>aX e (bX.lt i e he) (a7.kQ i e aK he)⟩;rw[h6]at this;cases this
   have py:j5 ops p false=[]:=by
    cases al:j5 ops p false with
    |nil=>rfl| cons i l=>obtain⟨o,ar,aK,_,ao⟩:=wq.1 (by rw[al];simp:i∈j5 ops p false);have:i∈Region.ready .any ops.toArray listed:=(mem_ready bW).2 ⟨o,ar,λb7=>(by have er:=a7.sub i b7;rw[aK]at er;exact Bool.noConfusion er),λe he=>wx e (ao e he)⟩;rw[h6]at this;cases this
   unfold ly at af;rw[gj,py]at af;exact m3 _ _ ⟨F,C,I,M,⟨β,a7.rel.refine λt=>a7.T t λi hi=>(hi.2 (wx i hi.1)).elim⟩,af⟩
  ·obtain⟨o,ar,aF,ao⟩:=(mem_ready bW).1 aR;have a0:=(gf.1 ar).1;have na:=eC o (rS ar);have g2:=Ht (listed:=listed) (i:=q) (by omega);have next:∀ bl w',sh X ops e9 K (λi=>listed.getD i false=true\/i=q) bl w'->wpAnyIn (dV X) 0 X.P .any ops.toArray Q ca (listed.setIfInBounds q true) bl w':=λbl w' h=>by refine aX _ bl w' (by simpa using bW) ?_ (by rw[g2];exact h);have:=zh a0 bW aF;omega
   cases gO:p.testBit q with
   |true=>
    exact a7.exec aA bX na ar ⟨gO,aF⟩ ao λbl h=>next bl w ⟨β,F,C,I,M,p,bq,ep,dG,n+1,h,af⟩
   |false=>
    have BY:∀ e,hC ops q e->p.testBit e=true:=λe he=>a7.sub e (ao e he);have Ox:tV o.op=false:=by
     cases Oy:tV o.op with
     |false=>rfl| true=>have:q∈j5 ops p true:=wq.2 ⟨o,ar,gO,Oy,BY⟩;rw[gj]at this;cases this
    have eY:q∈j5 ops p false:=wq.2 ⟨o,ar,gO,Ox,BY⟩;unfold ly at af;rw[gj]at af;simp only at af;split at af;·rename_i py;rw[py]at eY;cases eY
    ·rename_i i0 mj py;rw[py]at eY;have ag:=Hr af q eY;simp only[ar]at ag;obtain⟨gN,mm,ag⟩:=Ho ag;have ch:=a7.refine mm;have pz:=ch.Oj bX ar gO ao;have wm:ops.toArray[q]?=some o:=by simpa using ar
     unfold wpOpIn;simp only[wm];rcases ag with⟨dg,ag⟩ | ⟨wo,ag⟩
     ·rw[Hm dg pz,ck rfl];cases BZ:G8 ((gM ops).getD q 0) p with
      |true=>
       rw[BZ]at ag;simp only[n2,bn]at ag;have e':∀ i,p.testBit i=true->listed.getD i false=true:=λi hi=>by
        have U:=cb BZ;have aa:(p &&& (gM ops).getD q 0).testBit i=true:=by rw[U];exact hi
        rw[Nat.testBit_and,bs]at aa;exact(qB aa.2).mem a7.n7 ao
       have aM:Rel X a w gN C I M:=⟨β,ch.rel.refine λt=>ch.T t λi hi=>(hi.2 (e' i hi.1)).elim⟩;refine l9 (λbl w'=>?_) (tQ aA na aM ag);rintro⟨cy,C',I',M',⟨iT,eR⟩,aj⟩;have Oz:∀ i,¬ gw (λi=>listed.getD i false=true\/i=q) (p ||| 2^q) i:=λi hi=>by
        rcases hD.1 hi.1 with U | U;·exact hi.2 (.inl (e' i U))
        ·exact hi.2 (.inr U)
       refine next bl w' ⟨iT,cy,C',I',M',p ||| 2^q,bq,ep,dG,n,⟨eR.refine λ_=>trivial,?_,?_,?_,λt _=>eR.ah t,λi hi=>(Oz i hi).elim⟩,aj⟩
       ·rintro i (hi | rfl)
        ·exact hD.2 (.inl (a7.sub i hi))
        ·exact hD.2 (.inr rfl)
       ·rintro j e (ap | rfl) he
        ·exact .inl (a7.n7 j e ap he)
        ·exact .inl (ao e he)
       ·intro j e ap he;rcases hD.1 ap with ap | rfl
        ·exact hD.2 (.inl (a7.kQ j e ap he))
        ·exact hD.2 (.inl (BY e he))
      |false=>
       rw[BZ]at ag;let G:Fr:=λt=>if t∈looks ops o then gN t else .hZ
       have m9:∀ t,cI β (G t) (a.tmps.getD t undef):=λt=>by
        by_cases aq:t∈looks ops o;·simp only[G,ck aq];exact pz t aq
        ·simp only[G,cd aq];trivial
       have BX:∀ y∈o.op.operands,bZ G y=bZ gN y:=λy aE=>by
        cases y with
        |tmp t=>simp only[bZ,G,ck (BU aE)]| const v=>cases v<;>rfl
        |global g=>rfl| func f=>rfl
       refine l9 (λbl w'=>?_) (Oc aA (ch.rel.refine m9) BX ag);rintro⟨v,x,C',I',M',rfl,ab,eR,aj,hm⟩;refine next _ _ ⟨β,_,C',I',M',p ||| 2^q,bq,ep,dG,n,ch.step bX na ar gO ao ab (eR.refine λ_=>trivial) ?_,aj⟩
       rcases hm with⟨y6,pA⟩ | ⟨rfl,hle,gJ⟩
       rotate_left
       ·exact λ_ _ _ _ _ _ _=>⟨λ_ _=>rfl,λ_=>Hc gJ hle⟩
       have tX:∀ {i},gw (λi=>listed.getD i false=true) p i->((gM ops).getD q 0).testBit i=true->False:=λhi ag=>hi.2 ((qB ag).mem a7.n7 ao);intro i dz c5 hi eS dx eY;have ed:∀ {s:Nat},tW ((gM ops).getD q 0) s bq=true->c5≠s:=fun {s} h e=>by
        rcases G' h eY with U | U;·exact tX hi U
        ·exact U e
       rcases(gY _ _).mp y6 with OA | OB
       ·have U:=eO.1 OA i (jY.2 (gf.1 eS).1);rw[hi.1,eS]at U;simp only[nW,rV,gY,ln]at U;rcases U with U | U
        ·exact(tX hi U).elim
        ·rw[U]at dx;cases dx
       rcases(gY _ _).mp OB with tY | qE
       ·unfold Hb at tY;split at tY
        ·rename_i t0 n9 Hu cv;split at tY
         ·rename_i dY Xv ax;obtain⟨⟨cH,eZ⟩,cz⟩:=pA.1 _ _ _ _ _ cv ax;exact⟨λbx e=>cH bx (λaS=>ed tY (by rw[e,aS])),λ_=>Hc cz eZ⟩
         ·cases tY
        ·cases tY
       rcases(gY _ _).mp qE with qE | pB
       ·unfold Ha at qE;split at qE
        ·rename_i t0 n9 Hu cv;split at qE
         ·rename_i OC ax;exact⟨λ_ _=>by rw[(pA.2.1 _ _ _ _ cv ax).1],λe=>(ed qE e).elim⟩
         ·cases qE
        ·cases qE
       unfold Hf at pB;rw[bs]at pB;obtain⟨OD,pB⟩:=pB;have OE:e9 i=true:=by
        have U:=eO.1 OD i (jY.2 (gf.1 eS).1);rw[hi.1,eS]at U;simp only[nW,rV,gY,ln]at U;rcases U with U | U | U;·exact(tX hi U).elim
        ·exact U
        ·rw[U]at dx;cases dx
       have hle:C'=C/\∀ b o,I b=some o->I' b=some o:=by
        unfold He at pB;split at pB
        ·rename_i t0 n9 Hu cv;split at pB
         ·rename_i OC ax;exact pA.2.1 _ _ _ _ cv ax
         ·cases pB
        ·rename_i cv;exact pA.2.2 (λt x y e=>by rw[cv]at e;cases e)
        ·rename_i cv;exact pA.2.2 (λt x y e=>by rw[cv]at e;cases e)
        ·cases pB
       exact⟨λ_ _=>by rw[hle.1],λ_=>by rw[OE];exact N5 hle.2⟩
     ·rw[Hn wo pz];simp only[gG,g9];refine⟨λ_ _=>trivial,next _ _ ⟨β,_,C,I,M,p ||| 2^q,bq,ep,dG,n,ch.step bX na ar gO ao (x:=.val undef) rfl ch.rel (λ_ _ _ _ _ _ _=>⟨λ_ _=>rfl,λ_ _ _ h=>h⟩),ag⟩⟩
end
def dt.OF{X:bO}{id:Nat}{F:Fr}{C:b6}{I:aG}{M:List aC}{K:hA}(aA:bV X.P X.E)(hm:X.P.follows .mixedOrders=true)(aB:y9 A.toList=true)(aF:tT X.n A=true)
  {e9:Nat->Bool} (h:ly X A.toList e9 (A.size+1) 0 [] F C I M (K .normal)):dt X (.region id A true) F C I M K:=by
 refine⟨λa w ⟨β,aM⟩=>wpIn_region_any hm ?_⟩;have n':bE X β a { w with drawn:=w.drawn+1 } F C I M:=aM.world rfl;have cN:∀ i,(Array.replicate A.size false).getD i false=false:=λi=>by
  by_cases hi:i<A.size<;>simp[jt,hi]
 have kT:∀ {i},¬ (Array.replicate A.size false).getD i false=true:=fun {i}=>by rw[cN];simp
 have key:=Ow (K:=K .normal) (Q:=jx X K) aA (Hl aB) (yX aF) (λ_ _ h=>h) A.size (Array.replicate A.size false) a { w with drawn:=w.drawn+1 } (by simp) ?_ ⟨β,F,C,I,M,0,[],λ_=>.hZ,λ_ _=>.hZ,A.size+1,⟨n'.refine λ_=>trivial,λi hi=>(kT hi).elim,λj e ap=>(kT ap).elim,λj e ap=>by simp at ap,λt _=>n'.ah t,λi hi=>by simp[gw]at hi⟩,h⟩
 ·simpa using key
 ·unfold todo;refine iQ (vE _ _) (by simp)
def dt.draw{X:bO}{id:Nat}{F:Fr}{C:b6}{I:aG}{M:List aC}{K:hA}(aA:bV X.P X.E)(hm:X.P.follows .mixedOrders=true)(aB:y9 A.toList=true)(aF:tT X.n A=true)(h:ly X A.toList (λ_=>false) (A.size+1) 0 [] F C I M (K .normal)):dt X (.region id A true) F C I M K:=.OF aA hm aB aF h
def Hv(J:Nat->Nat->Act->World->Prop)
  (first:c.wpIn lq n P (λe bl w'=>match e with
   | .goto l=>∃ m,J l m bl w'| e=>Q e bl w') a w)
  (pass:∀ l m a w,J l m a w->∃ rest,findLabel c l=some rest/\rest.wpIn lq n P (λe bl w'=>match e with
   | .goto bY=>∃ m',m'<m/\J bY m' bl w'| e=>Q e bl w') a w):(Code.scope c).wpIn lq n P Q a w:=by
 intro b k cs hb ag al;have dY:step P (lone (b.atR a (.code (.scope c)::k)) cs w)=.next (lone (b.atR a (.code c::.inScope c::k)) cs w):=
  step_lone_go (by simp[stepG,stepG.exec,Frame.atR])
 have s1:∀ a w,step P (lone (b.atR a (.inScope c::k)) cs w)=.next (lone (b.atR a k) cs w):=λa w=>
  step_lone_go (by simp[stepG,stepG.exec,Frame.atR])
 have ab:∀ id,exitTo id (.inScope c::k)=exitTo id k:=λid=>by simp[exitTo]
 have fin:∀ {m:Machine} {e:Exit} {fR:Act} {fS:World},(∀ l,e≠.goto l)->ArrivesIn (Machine.fenced P lq) P m b (.inScope c::k) cs e fR fS->ArrivesIn (Machine.fenced P lq) P m b k cs e fR fS:=by
  intro m e fR fS br fi;cases e with
  |normal=>exact StepsIn.trans fi (.one (fenced_calm ag al rfl) (s1 _ _))| exit id=>exact⟨λcG aj=>fi.1 cG (by rw[ab];exact aj),λeR aj=>fi.2 eR (by rw[ab];exact aj)⟩| goto l=>exact(br l rfl).elim| ret=>exact fi| panic sd=>exact fi| outgrown=>exact fi
 have key:∀ m l a w,J l m a w->∀ rest,findLabel c l=some rest->∃ e bl w',Q e bl w'/\ArrivesIn (Machine.fenced P lq) P (lone (b.atR a (.code rest::.inScope c::k)) cs w) b k cs e bl w':=by
  intro m
  induction m using Nat.strongRecOn with
  |_ m aX=>
   intro l a w fv rest qF;obtain⟨tZ,az,hw⟩:=pass l m a w fv;rw[qF]at az;cases az;obtain⟨e,fR,fS,aR,fi⟩:=hw b (.inScope c::k) cs hb ag al;cases e with
   |goto bY=>
    obtain⟨m',a0,wy⟩:=aR;obtain⟨tZ,qG,_⟩:=pass bY m' fR fS wy;have aw:gotoIn bY (.inScope c::k)=some (.code tZ::.inScope c::k):=by simp[gotoIn,qG]
    obtain⟨v7,v8,v9,v',wa⟩:=aX m' a0 bY fR fS wy tZ qG;exact⟨v7,v8,v9,v',.of_steps (fi.1 _ aw) wa⟩
   |normal=>exact⟨_,fR,fS,aR,fin (by simp) fi⟩| exit id=>exact⟨_,fR,fS,aR,fin (by simp) fi⟩| ret=>exact⟨_,fR,fS,aR,fin (by simp) fi⟩| panic sd=>exact⟨_,fR,fS,aR,fin (by simp) fi⟩| outgrown=>exact⟨_,fR,fS,aR,fin (by simp) fi⟩
 have aD:(lone (b.atR a (.code (.scope c)::k)) cs w).fenced P lq:=fenced_calm ag al rfl;obtain⟨e,fR,fS,aR,fi⟩:=first b (.inScope c::k) cs hb ag al
 cases e with
 |goto bY=>
  obtain⟨m',wy⟩:=aR;obtain⟨tZ,qG,_⟩:=pass bY m' fR fS wy;have aw:gotoIn bY (.inScope c::k)=some (.code tZ::.inScope c::k):=by simp[gotoIn,qG]
  obtain⟨v7,v8,v9,v',wa⟩:=key m' bY fR fS wy tZ qG;exact⟨v7,v8,v9,v',.of_steps (.head aD dY (fi.1 _ aw)) wa⟩
 |normal=>exact⟨_,fR,fS,aR,.of_steps (.one aD dY) (fin (by simp) fi)⟩| exit id=>exact⟨_,fR,fS,aR,.of_steps (.one aD dY) (fin (by simp) fi)⟩| ret=>exact⟨_,fR,fS,aR,.of_steps (.one aD dY) (fin (by simp) fi)⟩| panic sd=>exact⟨_,fR,fS,aR,.of_steps (.one aD dY) (fin (by simp) fi)⟩| outgrown=>exact⟨_,fR,fS,aR,.of_steps (.one aD dY) (fin (by simp) fi)⟩
def B0(N:Nat->dE)(K:hA):hA
 | .goto l=>N l| e=>K e
def dt.scope{X:bO}{F:Fr}{C:b6}{I:aG}{M:List aC}{K:hA}(aA:bV X.P X.E)(bm:codeOk X.n c=true){ι:Type}(a3:ι->sc)(oa:ι->Nat)(inv:ι->Prop)(μ:ι->Nat)(rest:Nat->Code)(qF:∀ i,inv i->findLabel c (oa i)=some (rest (oa i))/\codeOk X.n (rest (oa i))=true)(first:V X c F C I M (B0 (λl=>mi X.bA a3 λj=>inv j/\oa j=l) K))(pass:∀ i,inv i->V X (rest (oa i)) (mg (a3 i).b8) (mh (a3 i).cl) (a3 i).dL (a3 i).fg (B0 (λl=>mi X.bA a3 λj=>(inv j/\oa j=l)/\μ j<μ i) K)) :
  dt X (.scope c) F C I M K:=by
 refine⟨λa w aM=>?_⟩;let J (l m:Nat) (a:Act) (w:World):Prop:=∃ i,inv i/\oa i=l/\μ i=m/\Rel X a w (mg (a3 i).b8) (mh (a3 i).cl) (a3 i).dL (a3 i).fg
 have qw:∀ {p:ι->Prop} {l:Nat} {a w},(∀ i,p i->inv i/\oa i=l)->Sat X (mi X.bA a3 p) a w->∃ i,p i/\J l (μ i) a w:=by rintro p l a w aK⟨F,C,I,M,⟨β,al⟩,⟨j,m5,hw,bM,lu⟩⟩;exact⟨j,m5,j,(aK j m5).1,(aK j m5).2,rfl,β,(al.base bM lu).gh hw⟩
 refine Hv J (wpIn_mono (lv aA c bm aM first) ?_) ?_
 ·intro e a w h;cases e with
  |goto l=>obtain⟨j,ap,fv⟩:=qw (p:=λj=>inv j/\oa j=l) (l:=l) (λ_ h=>h) h;exact⟨_,fv⟩
  |_=>exact h
 ·rintro l m a w⟨i,hi,rfl,rfl,al⟩;obtain⟨U,aa⟩:=qF i hi;refine⟨_,U,wpIn_mono (lv aA _ aa al (pass i hi)) ?_⟩;intro e a w h;cases e with
  |goto bY=>obtain⟨j,ap,fv⟩:=qw (p:=λj=>(inv j/\oa j=bY)/\μ j<μ i) (l:=bY) (λ_ h=>h.1) h;exact⟨_,ap.2,fv⟩
  |_=>exact h
end Go.V
