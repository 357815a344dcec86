/- Part 1 of what the proofs of this seat share: the executor, data in memory, walks.
-/
import Derived.WalkKit
import Derived.RangeFuncRecord
import Derived.OrdersIn
import Derived.Lib.UnsafeStr
set_option linter.all false
namespace Go.V
open Go
def bN:=@Nat.le_of_ble_eq_true
def bR:=@Result.andThen_ok
def cM:=@Nat.eq_of_beq_eq_true
def cv:=@of_decide_eq_true
def bd:=@cond_false
def cA:=@Bool.and_eq_true
def eE:=@List.drop_eq_getElem_cons
def bg:=@cond_true
def ca:=@Sem.run_bind
def b1:=@Nat.le_refl
def dL:=@List.length_cons
def hR:=@List.take_succ_eq_append_getElem
def dW:=@List.mem_append
def c5:=@Sem.run_pure
def dp:=@List.mem_map
def e7:=@decide_eq_true_eq
def ek:=@List.map_cons
def et:=@List.mem_cons
def iY:=@List.getElem?_eq_some_iff
def fC:=@List.map_append
def lv:=@Array.getElem?_eq_some_iff
def g0:=@List.all_eq_true
def oS:=@Array.getD_eq_getD_getElem?
def mS:=@World.putObj_heap_other
def j0:=@Bool.false_eq_true
def j1:=@Option.getD_some
def lW:=@List.getElem?_take
def lx:=@Option.some.injEq
def cG:=@if_neg
def mm:=@Int.toNat_natCast
def j2:=@List.mem_range
def gG:=@Array.ext'
def ly:=@Option.map_some
def dd:=@if_pos
def mo:=@List.nodup_cons
def jD:=@Nat.le_trans
def sN:=@Option.map_eq_some_iff
def rV:=@Nat.mul_le_mul_right
def qO:=@List.getElem?_drop
def pQ:=@Bool.eq_iff_iff
def Cb:=@Array.getElem?_setIfInBounds
def pR:=@Nat.add_assoc
def tM:=@Option.getD_none
def vj:=@List.getElem?_map
def qP:=@ByteArray.ext
def tN:=@Option.map_none
def sO:=@Oper.wpIn_mono
def rW:=@Nat.add_zero
def kO:=@if_false
def Cc:=@ByteArray.data_extract
def x':=@List.nodup_append
def Ew:=@Array.getElem?_eq_getElem
def tO:=@List.all_cons
def HM:=@Option.ne_none_iff_exists'
def HN:=@List.getElem?_cons_succ
def Cd:=@Nat.lt_succ_self
def zT:=@World.alloc_eq
def zU:=@List.nodup_nil
def Ex:=@Nat.lt_of_lt_of_le
def Ey:=@Nat.min_eq_left
def Ez:=@List.foldl_cons
def EA:=@List.mapM_cons
def Ly:=@List.range_eq_range'
def sP:=@Ne.symm
def sQ:=@if_true
def Lz:=@List.toList_toArray
def LA:=@Array.foldl_toList
def LB:=@ByteArray.mk.injEq
def LC:=@Option.isSome_none
def RI:=@Array.mapM_eq_mapM_toList
def HO:=@Oper.semAt_eq
def HP:=@Nat.add_comm
variable{a:Act}{c:Code}{b6:List Nat}{P:Program}{f off d T sz hs e n m d' cg dv dC fI iE km jE lX pS rX tP wX zV EB:Nat}{args vs z:List Value}{v:Value}{w' w:World}{cs:Array Value}{aj:Nat×Nat}{R:Ending->World->Prop}{next:Act->World->Prop}{ad:Addr}{fD:IntKind}{ops:Array Oper}{fn:Func}
inductive EC where
 |other | int (k:IntKind) | bool | string | slice (e:Nat) | array (n e:Nat) | struct (cb:List (Nat×Nat)) | map (k e:Nat) | pointer (e:Nat)
 deriving DecidableEq
def fj:TypeDesc->EC
 | .int k=>.int k| .bool=>.bool| .string=>.string| .slice e=>.slice e| .array n e=>.array n e| .struct cb=>.struct (cb.toList.map λf=>(f.type,f.offset))| .map k e=>.map k e| .pointer e=>.pointer e| _=>.other
def EC.agg:EC->Bool
 | .struct _ | .array ..=>true| _=>false
structure dU where
 size:Nat
 bytes:Nat
 zero:List Value
 bK:EC
structure j3(P:Program)(t:Nat)(i:dU):Prop where
 inf:∃ inf z,P.info? t=some inf/\inf.size=i.size/\inf.bytes=i.bytes/\inf.zero=some z/\z.cells.toList=i.zero
 fk:∃ d,P.underlying t=some d/\fj d=i.bK
 one:∀ v∈i.zero,v.oneCell'=true
 len:i.zero.length=i.size
 HQ:i.bK.agg=false->i.size=1
abbrev Env:=Nat->Option dU
def cY(P:Program)(E:Env):Prop:=∀ t i,E t=some i->j3 P t i
inductive dD where
 |val(v:Value)| lit (b:Bool)| ref (s off:Nat)| mT
abbrev Fr:=Nat->dD
abbrev dM:=Nat->Option (List Value)
abbrev aH:=Nat->Option Obj
structure aE where
 num:Nat
 obj:Obj
abbrev gg:=Fr->dM->aH->List aE->Prop
def gH(F:Fr)(d:Nat)(x:dD):Fr:=λt=>bif Nat.beq t d then x else F t
def iZ(C:dM)(d:Nat)(x:Option (List Value)):dM:=λt=>bif Nat.beq t d then x else C t
def pT(F:Fr)(d:Nat):Fr:=λt=>match F t with
 | .ref s o=>bif Nat.beq s d then .mT else .ref s o| x=>x
def put(o:Option Nat)(x:dD)(F:Fr):Fr:=match o with
 |some d=>gH F d x| none=>F
def dk(F:Fr):Operand->dD
 | .tmp t=>F t| .const (.bool b)=>.lit b| .const v=>.val v| .global g=>.val (.pointer (some ⟨g,0,none⟩))| .func f=>.val (.func (.func f) #[] #[])
def dB(ρ:Operand->dD)(x:Operand):dD:=match ρ x with
 | .lit b=>.val (.bool b)| y=>y
abbrev bw(F:Fr):Operand->dD:=dB (dk F)
def pack(agg:Bool)(vs:List Value):Value:=bif agg then .agg vs.toArray else vs.headD undef
def bO(cs:List Value)(off:Nat)(vs:List Value):List Value:=cs.take off++vs++cs.drop (off+vs.length)
def gI(vs:List Value):Bool:=vs.all (·.oneCell')
def HR(c:Bool):dD->dD->dD
 | .val (.bool x),.val (.bool y)=>.val (.bool (bif c then x else y))| .val x,.val y=>.val (bif c then x else y)| _,_=>.mT
def wY(op:BinOp)(x y:Int):Option Bool:=match op with
 | .eql=>some (decide (x=y))| .neq=>some (!decide (x=y))| .lss=>some (decide (x<y))| .leq=>some (decide (x<=y))| .gtr=>some (decide (y<x))| .geq=>some (decide (y<=x))| _=>none
def tQ(op:BinOp)(k:IntKind)(x y:Int):Option Int:=
 let a:=BitVec.ofInt k.bits x
 let b:=BitVec.ofInt k.bits y
 match op with
 | .and=>some (k.wrap (a &&& b).toNat)| .or=>some (k.wrap (a ||| b).toNat)| .xor=>some (k.wrap (a ^^^ b).toNat)| .andNot=>some (k.wrap (a &&& ~~~b).toNat)| _=>none
def il(I:aH)(M:List aE)(b:Nat)(o:Obj):Prop:=I b=some o\/∃ x∈M,x.num=b/\x.obj=o
def bD(I:aH)(M:List aE)(a:Addr)(n:Nat)(vs:List Value):Prop:=
 a.spot=none/\∃ cs T aj,il I M a.block (.cells cs T aj)/\(cs.toList.drop a.off).take n=vs/\vs.length=n
inductive aD(I:aH)(M:List aE)(a:Addr)(n:Nat)(K:List Value->Prop):Prop
 |mk(vs:List Value)(h:bD I M a n vs)(k:K vs)
inductive cV(M:List aE)(a:Addr)(vs:List Value)(K:List aE->Prop):Prop
 |mk(a9 post:List aE)(cs:Array Value)(T:Nat)(bb:M=a9++⟨a.block,.cells cs T (0,0)⟩::post)(ap:a.spot=none)(ag:a.off+vs.length<=cs.size)(U:gI vs=true)(k:K (a9++⟨a.block,.cells (bO cs.toList a.off vs).toArray T (0,0)⟩::post))
inductive cw(I:aH)(M:List aE)(K:Nat->Prop):Prop
 |mk(k:∀ b,I b=none->(∀ x∈M,x.num≠b)->K b)
inductive a7(a:Option Addr)(n sz:Nat)(k:Int)(K:Addr->Prop):Prop
 |mk(ad:Addr)(j:Nat)(ax:a=some ad)(af:k=(j:Int))(ak:j<n)(h:K (ad.add (j*sz)))
inductive eN(n:Nat)(k:Int)(K:Nat->Prop):Prop
 |mk(j:Nat)(af:k=(j:Int))(ak:j<n)(h:K j)
inductive qQ(s:ByteArray)(k:Int)(K:UInt8->Prop):Prop
 |mk(j:Nat)(af:k=(j:Int))(ak:j<s.size)(h:K s[j])
inductive aW(k:IntKind)(n:Int)(K:Int->Prop):Prop
 |mk(r:Int)(h:k.wrap n=r)(bh:K r)
inductive h0(y:Int)(K:Prop):Prop
 |mk(h:y≠0)(bh:K)
inductive ya(y:Int)(K:Nat->Prop):Prop
 |mk(j:Nat)(h:y=(j:Int))(bh:K j)
inductive aI(c:Bool)(X Y:Prop):Prop
 |mk(h:c=true->X)(bh:c=false->Y)
inductive qR(l c:Int)(bytes:Nat)(K:Nat->Nat->Prop):Prop
 |mk(n m:Nat)(aw:l=(n:Int))(aN:c=(m:Int))(h:n<=m)(ag:bytes*m<=140737488355328)(hm:m<=9223372036854775807)(k:K n m)
inductive HS(c:Nat)(hi mx:Int)(K:Nat->Nat->Prop):Prop
 |mk(h m:Nat)(fs:hi=(h:Int))(e8:mx=(m:Int))(U:h<=m)(aa:m<=c)(k:K h m)
inductive jl(n c:Nat)(lo hi:Option Int)(K:Nat->Nat->Prop):Prop
 |mk(l h:Nat)(eS:lo.getD 0=(l:Int))(fs:hi.getD n=(h:Int))(U:l<=h)(aa:h<=c)(k:K l h)
structure ef(I:aH)(M:List aE)(w:World):Prop where
 i:∀ b o,I b=some o->w.heap[b]?=some o
 m:∀ x∈M,w.heap[x.num]?=some x.obj
 d:∀ x∈M,I x.num=none
 cn:(M.map (·.num)).Nodup
def n3(w w':World):Prop:=w'.os=w.os/\w'.output=w.output
def n3.refl(w:World):n3 w w:=⟨rfl,rfl⟩
def n3.trans{a b c:World}(h:n3 a b)(bh:n3 b c):n3 a c:=⟨bh.1.trans h.1,bh.2.trans h.2⟩
structure Kept(I:aH)(M:List aE)(w:World)(I':aH)(M':List aE)(w':World):Prop where
 le:∀ b o,I b=some o->I' b=some o
 tR:∀ b o,I' b=some o->I b=some o\/w.heap.size<=b
 vk:∀ x∈M',(∃ y∈M,y.num=x.num)\/w.heap.size<=x.num
 c2:∀ b,b<w.heap.size->(∀ y∈M,y.num≠b)->w'.heap[b]?=w.heap[b]?
 out:n3 w w'
 sz:w.heap.size<=w'.heap.size
def HT(P:Program)(f:Nat):Prop:=∀ (args:Array Value) (w:World),(callFunc f args).run P w=.ok (.enter f args) w
def wZ(P:Program)(f:Nat)(args:List Value)(I:aH)(M:List aE)(post:Value->aH->List aE->Prop):Prop:=
 HT P f/\∀ w,ef I M w->Calls P f args.toArray w λe w'=>∃ v I' M',e=.returned v/\post v I' M'/\ef I' M' w'/\Kept I M w I' M' w'
def aa5(P:Program)(f:Nat)(args:List Value)(I:aH)(M:List aE)(post:Value->aH->List aE->Prop):Prop:=
 ∀ w,ef I M w->∃ v w' I' M',(callFunc f args.toArray).run P w=.ok (.value v) w'/\post v I' M'/\ef I' M' w'/\Kept I M w I' M' w'
def Spec(P:Program)(f:Nat)(args:List Value)(I:aH)(M:List aE)(post:Value->aH->List aE->Prop):Prop:=wZ P f args I M post\/aa5 P f args I M post
def ins(I:aH)(b:Nat)(o:Obj):aH:=λx=>bif Nat.beq x b then some o else I x
inductive h1(b6:List Nat):aH->List aE->aH->List aE->Prop
 |refl{I M}:h1 b6 I M I M| sub {I M M1 I' M'} (h:List.Sublist M1 M) (k:h1 b6 I M1 I' M'):h1 b6 I M I' M'| perm {I M M1 I' M'} (h:M.Perm M1) (k:h1 b6 I M1 I' M'):h1 b6 I M I' M'| oT {I M I' M' b o post} (h:M=⟨b,o⟩::post) (aF:b ∉ b6) (k:h1 b6 (ins I b o) post I' M'):h1 b6 I M I' M'
structure sR(I:aH)(M:List aE):Prop where
 d:∀ x∈M,I x.num=none
 cn:(M.map (·.num)).Nodup
inductive aZ(b6:List Nat)(P:Program)(f:Nat)(args:List Value)(I:aH)(M:List aE)(K:Value->aH->List aE->Prop):Prop
 |mk(dE Mr:List aE)(post:Value->aH->List aE->Prop)(bb:M.Perm (dE++Mr))(ap:Spec P f args I dE post)(k:∀ v I' M',(∀ b o,I b=some o->I' b=some o)->post v I' M'->K v I' (M'++Mr))| LD (dE Mr:List aE) (post:Value->aH->List aE->Prop) (bb:M.Perm (dE++Mr)) (ap:Spec P f args I dE post) (k:∀ v I' M',(∀ b o,I b=some o->I' b=some o)->(∀ x∈M'++Mr,I' x.num=none)->post v I' M'->K v I' (M'++Mr))| zW (dm:aH) (dE Mr:List aE) (post:Value->aH->List aE->Prop) (hw:h1 b6 I M dm (dE++Mr)) (ap:Spec P f args dm dE post) (k:∀ v I' M',(∀ b o,dm b=some o->I' b=some o)->(∀ x∈M'++Mr,I' x.num=none)->post v I' M'->K v I' (M'++Mr))| zX (h:sR I M->aZ b6 P f args I M K)
def aZ.elim{I:aH}{M:List aE}{K:Value->aH->List aE->Prop}(gv:sR I M)(h:aZ b6 P f args I M K) :
  ∃ (dm:aH) (dE Mr:List aE) (post:Value->aH->List aE->Prop),h1 b6 I M dm (dE++Mr)/\Spec P f args dm dE post/\∀ v I' M',(∀ b o,dm b=some o->I' b=some o)->(∀ x∈M'++Mr,I' x.num=none)->post v I' M'->K v I' (M'++Mr):=by
 induction h with
 |mk dE Mr post bb ap k=>exact⟨I,dE,Mr,post,.perm bb .refl,ap,λv I' M' U _ aa=>k v I' M' U aa⟩| LD dE Mr post bb ap k=>exact⟨I,dE,Mr,post,.perm bb .refl,ap,k⟩| zW dm dE Mr post hw ap k=>exact⟨dm,dE,Mr,post,hw,ap,k⟩| zX h bc=>exact bc gv
structure cW where
 P:Program
 E:Env
 gJ:List Nat
 n:Nat
 B:Nat
 aq:World
 dN:aH
 b6:List Nat
 ro:Option Nat
def gR(X:cW):Fence:={ Fence.wide with round:=X.ro }
def eO(β:Nat->Nat):dD->Value->Prop
 | .val v,u=>u=v| .lit b,u=>u=.bool b| .ref s off,u=>u=.pointer (some ⟨β s,off,none⟩)| .mT,_=>True
structure w0(X:cW)(w:World)(I:aH)(M:List aE)(b:Nat)(cs:List Value):Prop where
 av:∃ T,w.heap[b]?=some (.cells cs.toArray T (0,0))
 a0:X.B<=b
 jF:I b=none
 eQ:∀ x∈M,x.num≠b
structure vl(X:cW)(w:World)(I:aH)(M:List aE)(r:Nat):Prop where
 av:w.heap[r]?=some (.deferred (some []))
 a0:X.B<=r
 jF:I r=none
 eQ:∀ x∈M,x.num≠r
def w1(r:Nat):Deferred:={ target:=.collected r,args:=#[] }
def Marks(X:cW)(a:Act)(w:World)(I:aH)(M:List aE):Prop:=∃ a2:List Nat,a.defers=a2.map w1/\a2.Nodup/\∀ r∈a2,vl X w I M r
structure cH(X:cW)(β:Nat->Nat)(a:Act)(w:World)(F:Fr)(C:dM)(I:aH)(M:List aE):Prop where
 size:a.tmps.size=X.n
 defers:Marks X a w I M
 holds:ef I M w
 aj:∀ t,eO β (F t) (a.tmps.getD t undef)
 cp:∀ s cs,C s=some cs->w0 X w I M (β s) cs
 inj:∀ s cB,C s≠none->C cB≠none->β s=β cB->s=cB
 hS:∀ b o,X.dN b=some o->I b=some o
 ht:∀ b o,I b=some o->X.dN b=some o\/X.B<=b
 own:∀ x∈M,x.num∈X.b6\/X.B<=x.num
 c2:∀ b,b<X.B->b ∉ X.b6->w.heap[b]?=X.aq.heap[b]?
 out:n3 X.aq w
 sz:X.B<=w.heap.size
def Rel(X:cW)(a:Act)(w:World)(F:Fr)(C:dM)(I:aH)(M:List aE):Prop:=∃ β,cH X β a w F C I M
def Sat(X:cW)(K:gg)(a:Act)(w:World):Prop:=∃ F C I M,Rel X a w F C I M/\K F C I M
inductive bp(X:cW)(o:Oper)(F:Fr)(C:dM)(I:aH)(M:List aE)(K:gg):Prop
 |mk(h:∀ a w Q,Rel X a w F C I M->o.wpIn (gR X) 0 X.P a w (Sat X K) Q)
def jG(ρ:Operand->dD):List Operand->Option (List Value)
 |[]=>some []
 |x::xs=>match dB ρ x,jG ρ xs with
  | .val v,some vs=>some (v::vs)| _,_=>none
abbrev mq(F:Fr):List Operand->Option (List Value):=jG (dk F)
def sS(place:Nat->Option (Nat×Nat))(cells:List Value):List (Nat×Value)->Option (List Value)
 |[]=>some cells
 |(i,v)::a6=>match place i with
  |none=>none| some (off,size)=>bif Nat.beq v.cells.size size&&Nat.ble (off+size) cells.length then sS place (bO cells off v.cells.toList) a6 else none
def sT(ρ:Operand->dD):List (Nat×Operand)->Option (List (Nat×Value))
 |[]=>some []
 |(i,x)::xs=>match dB ρ x,sT ρ xs with
  | .val v,some vs=>some ((i,v)::vs)| _,_=>none
abbrev zY(F:Fr):List (Nat×Operand)->Option (List (Nat×Value)):=sT (dk F)
def places(E:Env)(cb:List (Nat×Nat))(i:Nat):Option (Nat×Nat):=match cb[i]? with
 |some (mr,off)=>match E mr with
  |some g9=>some (off,g9.size)| none=>none
 |none=>none
def Ce(E:Env)(cb:List (Nat×Nat)):Bool:=cb.all λf=>(E f.1).isSome
def rowOf(zero:List Value)(n:Nat):List Value:=(List.range n).map λi=>zero[i%zero.length]!
def Cf(zero:List Value)(n:Nat):rowOf zero n=(madeCells zero.toArray n).toList:=by simp[rowOf,madeCells]
def IntKind.ms:IntKind->IntKind->Bool
 | .i8,.i8 | .i16,.i16 | .i32,.i32 | .i64,.i64 | .u8,.u8 | .u16,.u16 | .u32,.u32 | .u64,.u64=>true| _,_=>false
def lz(op:BinOp)(dn:Option dU)(x y:dD)(K:Value->Prop)(other:Prop):Prop:=
 match x,y with
 | .val (.int k a),.val (.int c7 b)=>
  match op with
  | .shl=>ya b λj=>aW k (a*2^(min j k.bits)) λr=>K (.int k r)
  | .shr=>ya b λj=>K (.int k (a.fdiv (2^(min j k.bits))))
  |op=>bif IntKind.ms k c7 then
    (match op with
    | .add=>aW k (a+b) λr=>K (.int k r)
    | .sub=>aW k (a-b) λr=>K (.int k r)
    | .mul=>aW k (a*b) λr=>K (.int k r)
    | .quo=>h0 b (aW k (a.tdiv b) λr=>K (.int k r))| .rem=>h0 b (K (.int k (a.tmod b)))
    | .and | .or | .xor | .andNot=>(match tQ op k a b with
     |some r=>K (.int k r)| none=>False)
    |op=>(match wY op a b with
     |some r=>K (.bool r)| none=>False))
   else False
 | .val (.string a),.val (.string b)=>
  match op with
  | .eql=>K (.bool (decide (a=b)))| .neq=>K (.bool (!decide (a=b)))| _=>other
 | .val (.bool a),.val (.bool b)=>
  match dn with
  |some { bK:=.bool,.. }=>
   (match op with
   | .eql=>K (.bool (a == b))| .neq=>K (.bool (!(a == b)))| _=>other)
  |_=>other
 |_,_=>other
inductive cC(P:Program)(op:BinOp)(t:Nat)(x y:Operand)(p q:dD)(K:Value->Prop)(other:Prop):Prop
 |mk(hg ft v:Value)(aK:p=.val hg)(az:q=.val ft)(h:∀ w,(do eqGuard op t x y hg ft;binOp op t hg ft:Sem Value).run P w=.ok v w)(k:K v)| other (h:other)
def cD(X:cW)(op:Op)(ρ:Operand->dD)(C:dM)(I:aH)(M:List aE)(V:dD->Prop)(other:Prop):Prop:=
 match op with
 | .move x | .assign x=>V (ρ x)
 | .pick c a b=>
  match ρ c with
  | .lit c=>V (bif c then ρ a else ρ b)| .val (.bool c)=>V (HR c (dB ρ a) (dB ρ b))| _=>False
 | .unOp op _ x=>
  match op,ρ x with
  | .not,.lit b=>V (.lit (!b))| .not,.val (.bool b)=>V (.val (.bool (!b)))| .neg,.val (.int k n)=>aW k (0-n) λr=>V (.val (.int k r))
  |_,_=>other
 | .binOp op t x y _=>lz op (X.E t) (dB ρ x) (dB ρ y) (λv=>V (.val v)) (cC X.P op t x y (dB ρ x) (dB ρ y) (λv=>V (.val v)) other)
 | .load t x=>
  match X.E t with
  |some i=>
   (match ρ x with
   | .ref s off=>
    (match C s with
    |some cs=>bif Nat.ble (off+i.size) cs.length then V (.val (pack i.bK.agg ((cs.drop off).take i.size)))else False| none=>False)
   | .val (.pointer (some a))=>aD I M a i.size λvs=>V (.val (pack i.bK.agg vs))
   |_=>False)
  |none=>False
 | .nilCheck x=>
  match ρ x with
  | .ref s off=>V (.ref s off)| .val (.pointer (some a))=>V (.val (.pointer (some a)))| _=>other
 | .fieldAddr t x i=>
  match X.E t with
  |some { bK:=.struct cb,.. }=>
   (match cb[i]? with
   |some (mr,off)=>
    (match X.E mr,ρ x with
    |some g9,.ref s o'=>bif Nat.beq g9.size 0 then False else V (.ref s (o'+off))| some g9,.val (.pointer (some a))=>bif Nat.beq g9.size 0 then False else V (.val (.pointer (some (a.add off))))| _,_=>False)
   |none=>False)
  |_=>False
 | .field t x i=>
  match X.E t,dB ρ x with
  |some { bK:=.struct cb,.. },.val (.agg cs)=>
   (match cb[i]? with
   |some (mr,off)=>
    (match X.E mr with
    |some g9=>bif Nat.ble (off+g9.size) cs.size then V (.val (pack g9.bK.agg ((cs.toList.drop off).take g9.size)))else False| none=>False)
   |none=>False)
  |_,_=>False
 | .indexAddr t x i=>
  match X.E t,dB ρ i with
  |some { bK:=.slice e,.. },.val (.int _ k)=>
   (match X.E e,dB ρ x with
   |some aJ,.val (.slice a n _)=>a7 a n aJ.size k λad=>V (.val (.pointer (some ad)))
   |_,_=>False)
  |some { bK:=.array n e,.. },.val (.int _ k)=>
   (match X.E e,ρ x with
   |some aJ,.ref s o'=>eN n k λj=>V (.ref s (o'+j*aJ.size))
   |some aJ,.val (.pointer (some a))=>eN n k λj=>V (.val (.pointer (some (a.add (j*aJ.size)))))
   |_,_=>False)
  |_,_=>False
 | .index t x i=>
  match X.E t,dB ρ x,dB ρ i with
  |some { bK:=.string,.. },.val (.string s),.val (.int _ k)=>qQ s k λb=>V (.val (.int .u8 b.toNat))
  |some { bK:=.array n e,.. },.val (.agg cs),.val (.int _ k)=>
   (match X.E e with
   |some aJ=>bif Nat.beq (n*aJ.size) cs.size then eN n k λj=>V (.val (pack aJ.bK.agg ((cs.toList.drop (j*aJ.size)).take aJ.size)))else False
   |none=>False)
  |_,_,_=>False
 | .build t parts=>
  match X.E t,sT ρ parts.toList with
  |some i,some vs=>
   (match i.bK with
   | .struct cb=>bif Ce X.E cb then(match sS (places X.E cb) i.zero vs with
    |some cells=>V (.val (.agg cells.toArray))| none=>False)else False
   | .array _ e=>(match X.E e with
    |some aJ=>(match sS (λj=>some (j*aJ.size,aJ.size)) i.zero vs with
     |some cells=>V (.val (.agg cells.toArray))| none=>False)
    |none=>False)
   |_=>False)
  |_,_=>False
 | .makeFunc fn first captured=>
  match jG ρ first.toList,jG ρ captured.toList with
  |some cb,some cs=>V (.val (.func fn cb.toArray cs.toArray))| _,_=>False
 | .slice t x lo hi mx=>
  match X.E t,dB ρ x,mx.map (dB ρ)with
  |some { bK:=.slice e,.. },.val (.slice a n c),none=>
   (match X.E e,lo.map (dB ρ),hi.map (dB ρ)with
   |some aJ,none,none=>V (.val (.slice a n c))| some aJ,none,some (.val (.int _ h))=>jl n c none (some h) λ_ h=>V (.val (.slice a h c))
   |some aJ,some (.val (.int _ l)),none=>jl n n (some l) none λl _=>V (.val (.slice (if c=l then a else a.map (·.add (l*aJ.size))) (n-l) (c-l)))
   |some aJ,some (.val (.int _ l)),some (.val (.int _ h))=>jl n c (some l) (some h) λl h=>V (.val (.slice (if c=l then a else a.map (·.add (l*aJ.size))) (h-l) (c-l)))
   |_,_,_=>False)
  |some { bK:=.string,.. },.val (.string s),none=>
   (match lo.map (dB ρ),hi.map (dB ρ)with
   |none,none=>V (.val (.string s))| none,some (.val (.int _ h))=>jl s.size s.size none (some h) λ_ h=>V (.val (.string (s.extract 0 h)))
   |some (.val (.int _ l)),none=>jl s.size s.size (some l) none λl _=>V (.val (.string (s.extract l s.size)))
   |some (.val (.int _ l)),some (.val (.int _ h))=>jl s.size s.size (some l) (some h) λl h=>V (.val (.string (s.extract l h)))
   |_,_=>False)
  |some { bK:=.slice e,.. },.val (.slice a _ c),some (.val (.int _ m))=>
   (match X.E e,lo.map (dB ρ),hi.map (dB ρ)with
   |some aJ,none,some (.val (.int _ h))=>HS c h m λh m=>V (.val (.slice (if m=0 then a else a.map (·.add (0*aJ.size))) (h-0) (m-0)))
   |_,_,_=>other)
  |_,_,_=>other
 | .extract x i=>
  match dB ρ x with
  | .val (.tuple vs)=>(match vs.toList[i]? with
   |some v=>V (.val v)| none=>False)
  |_=>False
 | .convert s d x=>
  match X.E s,X.E d,dB ρ x with
  |some _,some { bK:=.int k,.. },.val (.int _ n)=>aW k n λr=>V (.val (.int k r))
  |_,_,_=>other
 | .call { callee:=.builtin .len,args,argTypes }=>
  match argTypes.toList,jG ρ args.toList with
  |[t],some [v]=>
   (match X.E t,v with
   |some { bK:=.slice _,.. },.slice _ n _=>V (.val (.int .i64 n))| some { bK:=.string,.. },.string s=>V (.val (.int .i64 s.size))| some { bK:=.array n _,.. },_=>V (.val (.int .i64 n))| _,_=>other)
  |_,_=>other
 | .call { callee:=.builtin .cap,args,argTypes }=>
  match argTypes.toList,jG ρ args.toList with
  |[t],some [v]=>
   (match X.E t,v with
   |some { bK:=.slice _,.. },.slice _ _ c=>V (.val (.int .i64 c))| _,_=>other)
  |_,_=>other
 | .call { callee:=.builtin .max,args,.. }=>
  match jG ρ args.toList with
  |some [.int k a,.int _ b]=>V (.val (.int k (max a b)))| _=>other
 | .call { callee:=.builtin .min,args,.. }=>
  match jG ρ args.toList with
  |some [.int k a,.int _ b]=>V (.val (.int k (min a b)))| _=>other
 | .call { callee:=.builtin .unsafeSliceData,args,.. }=>
  match jG ρ args.toList with
  |some [.slice none _ _]=>V (.val (.pointer none))| some [.slice (some a) _ c]=>h0 c (V (.val (.pointer (some a))))| _=>other
 |_=>other
def gK(X:cW)(o:Oper)(F:Fr)(C:dM)(I:aH)(M:List aE)(K:gg):Prop:=
 match o.op with
 | .box t x=>
  match o.dst,bw F x with
  |some d,.val v=>
   bif X.gJ.contains d then cw I M λb=>K (gH (pT F d) d (.val (.pointer (some ⟨b,0,none⟩)))) (iZ C d none) I (⟨b,.cells v.cells t (0,0)⟩::M)
   else K (gH (pT F d) d (.ref d 0)) (iZ C d (some v.cells.toList)) I M
  |_,_=>False
 | .alloc t=>
  match o.dst,X.E t with
  |some d,some i=>
   bif X.gJ.contains d then cw I M λb=>K (gH (pT F d) d (.val (.pointer (some ⟨b,0,none⟩)))) (iZ C d none) I (⟨b,.cells i.zero.toArray t (0,0)⟩::M)
   else K (gH (pT F d) d (.ref d 0)) (iZ C d (some i.zero)) I M
  |_,_=>False
 | .store t x y=>
  match o.dst,X.E t,bw F y with
  |none,some i,.val v=>
   (match dk F x with
   | .ref s off=>
    (match C s with
    |some cs=>bif Nat.ble (off+i.size) cs.length&&(Nat.beq v.cells.size i.size&&gI v.cells.toList)then K F (iZ C s (some (bO cs off v.cells.toList))) I M else False| none=>False)
   | .val (.pointer (some a))=>bif Nat.beq v.cells.size i.size then cV M a v.cells.toList λM'=>K F C I M' else False
   |_=>False)
  |_,_,_=>False
 | .buildSlice t len parts=>
  match X.E t,zY F parts.toList with
  |some { bK:=.slice e,.. },some vs=>
   (match X.E e with
   |some aJ=>
    bif Nat.ble (len*aJ.size) 16777216&&Nat.blt 0 (len*aJ.size)then
     (match sS (λj=>some (j*aJ.size,aJ.size)) (rowOf aJ.zero (len*aJ.size)) vs with
     |some cells=>cw I M λb=>K (put o.dst (.val (.slice (some ⟨b,0,none⟩) len len)) F) C I (⟨b,.cells cells.toArray e (0,0)⟩::M)
     |none=>False)
    else(match len,vs with
     |0,[]=>cw I M λb=>K (put o.dst (.val (.slice (some ⟨b,0,none⟩) 0 0)) F) C I (⟨b,.cells #[] e (0,0)⟩::M)
     |_,_=>False)
   |none=>False)
  |_,_=>False
 | .makeSlice t l c=>
  match X.E t,bw F l,bw F c with
  |some { bK:=.slice e,.. },.val (.int _ l),.val (.int _ c)=>
   (match X.E e with
   |some aJ=>qR l c aJ.bytes λn m=>cw I M λb=>K (put o.dst (.val (.slice (some ⟨b,0,none⟩) n m)) F) C I (⟨b,.cells (rowOf aJ.zero (m*aJ.size)).toArray e (0,0)⟩::M)
   |none=>False)
  |_,_,_=>False
 | .call { callee:=.value f,args,.. }=>
  match bw F f,mq F args.toList with
  | .val (.func (.func g) first cap),some vs=>aZ X.b6 X.P g (first.toList++vs++cap.toList) I M λv I' M'=>K (put o.dst (.val v) F) C I' M'
  |_,_=>bp X o F C I M K
 |op=>cD X op (dk F) C I M (λx=>K (put o.dst x F) C I M) (bp X o F C I M K)
inductive bP(c b:Bool)(Y N:Prop):Prop
 |mk(h:c=b->Y)(bh:c=!b->N)
def tS(X:cW)(ops:List Oper):List Oper->Fr->dM->aH->List aE->gg->Prop
 |[],F,C,I,M,K=>K F C I M
 |o::a6,F,C,I,M,K=>
  match o.guard with
  |none=>gK X o F C I M λF C I M=>tS X ops a6 F C I M K
  |some (j,b)=>
   match(ops[j]?).bind (·.dst)with
   |none=>False
   |some d=>
    match F d with
    | .lit c=>bif c == b then gK X o F C I M λF C I M=>tS X ops a6 F C I M K else tS X ops a6 (put o.dst (.val undef) F) C I M K
    | .val (.bool c)=>bP c b (gK X o (gH F d (.lit b)) C I M λF C I M=>tS X ops a6 F C I M K) (tS X ops a6 (put o.dst (.val undef) (gH F d (.lit !b))) C I M K)| .val (.tuple _)=>tS X ops a6 (put o.dst (.val undef) F) C I M K| _=>False
def gS{a b:Nat}(h:¬ a=b):Nat.beq a b=false:=by
 cases ag:Nat.beq a b with
 |false=>rfl| true=>exact absurd (cM ag) h
def qS(a:Nat):Nat.beq a a=true:=Nat.beq_refl a
def ED(w:World)(o:Obj){i:Nat}(h:i<w.heap.size):(w.alloc o).heap[i]?=w.heap[i]?:=by show(w.heap.push o)[i]?=_;simp[Array.getElem?_push,Nat.ne_of_lt h]
def LF(w:World)(o:Obj):(w.alloc o).heap[w.heap.size]?=some o:=by show(w.heap.push o)[w.heap.size]?=_;simp
section
variable{X:cW}{β:Nat->Nat}{a:Act}{w:World}{F:Fr}{C:dM}{I:aH}{M:List aE}{o:Oper}{Q:Exit->Act->World->Prop}{next:Act->World->Prop}{K:gg}
def w2(h:∀ t,eO β (F t) (a.tmps.getD t undef))(x:Operand):eO β (dk F x) (a.eval x):=by
 cases x with
 |tmp t=>exact h t| const v=>cases v<;>exact rfl
 |global g=>exact rfl| func f=>exact rfl
def dq(h:∀ t,eO β (F t) (a.tmps.getD t undef)){x:Operand}(ab:bw F x=.val v):a.eval x=v:=by
 have U:=w2 h x;unfold bw dB at ab;split at ab
 ·rename_i b ag;rw[ag]at U;cases ab;exact U
 ·rw[ab]at U;exact U
def tT(h:∀ t,eO β (F t) (a.tmps.getD t undef)){x:Operand}(ab:dk F x=.val v):a.eval x=v:=by have U:=w2 h x;rw[ab]at U;exact U
def LG(h:∀ t,eO β (F t) (a.tmps.getD t undef)){x:Operand}{b:Bool}(ab:dk F x=.lit b):a.eval x=.bool b:=by have U:=w2 h x;rw[ab]at U;exact U
def zZ(h:∀ t,eO β (F t) (a.tmps.getD t undef)){x:Operand}{s:Nat}(ab:dk F x=.ref s off):a.eval x=.pointer (some ⟨β s,off,none⟩):=by have U:=w2 h x;rw[ab]at U;exact U
def RJ(h:∀ t,eO β (F t) (a.tmps.getD t undef))(x:Operand):eO β (bw F x) (a.eval x):=by
 have U:=w2 h x;unfold bw dB;split
 ·rename_i b ag;rw[ag]at U;exact U
 ·exact U
def sU(h:∀ t,eO β (F t) (a.tmps.getD t undef)):∀ {xs:List Operand} {vs:List Value},mq F xs=some vs->xs.map a.eval=vs
 |[],vs,ab=>by simp[mq,jG]at ab;simp[ab]
 |x::xs,vs,ab=>by
  unfold mq jG at ab;split at ab;·rename_i v rY U aa;cases ab;simp[dq h U,sU h aa]
  ·cases ab
def HU(h:∀ t,eO β (F t) (a.tmps.getD t undef)):∀ {xs:List (Nat×Operand)} {vs:List (Nat×Value)},zY F xs=some vs->(xs.map λ(i,x)=>(i,a.eval x))=vs
 |[],vs,ab=>by simp[zY,sT]at ab;simp[ab]
 |(i,x)::xs,vs,ab=>by
  unfold zY sT at ab;split at ab;·rename_i v rY U aa;cases ab;simp[dq h U,HU h aa]
  ·cases ab
def i'(cq:∀ c,o.op≠.defer c)(h:(execOp a.eval o).run X.P w=.ok (.value v) w')(af:next (a.put o.dst v) w'):o.wpIn (gR X) 0 X.P a w next Q:=
 ⟨λ_ _=>trivial,by rw[HO _ _ _ cq,h];exact af⟩
def Cg(cq:∀ c,o.op≠.defer c)(h:(execOp a.eval o).run X.P w=.ok .skip w')(af:next (a.put o.dst undef) w'):o.wpIn (gR X) 0 X.P a w next Q:=
 ⟨λ_ _=>trivial,by rw[HO _ _ _ cq,h];exact af⟩
def RK(a:Act)(d t:Nat)(v:Value)(ah:d<a.tmps.size):(a.put (some d) v).tmps.getD t undef=if t=d then v else a.tmps.getD t undef:=by
 simp only[Act.put,oS,Cb];by_cases h:t=d
 ·subst h;simp[ah]
 ·simp[h,sP h]
def LH(h:∀ t,eO β (F t) (a.tmps.getD t undef)){x:dD}(ah:d<a.tmps.size)(ab:eO β x v)(t:Nat):eO β (gH F d x t) ((a.put (some d) v).tmps.getD t undef):=by
 rw[RK a d t v ah];unfold gH;by_cases U:t=d
 ·subst U;simp only[qS,bg,sQ];exact ab
 ·have:Nat.beq t d=false:=gS U;simp only[this,bd,cG U];exact h t
def RL(w:World)(g:Nat)(cs:Array Value):n3 w (w.setRow g cs):=by
 unfold World.setRow
 first | exact⟨rfl,rfl⟩ | (split<;>exact⟨rfl,rfl⟩)
def HV(w:World)(g:Nat)(o:Obj):n3 w (w.putObj g o):=by unfold World.putObj;exact⟨rfl,rfl⟩
def Marks.mono(h:Marks X a w I M){I':aH}{M':List aE}(hm:∀ r,vl X w I M r->vl X w' I' M' r):Marks X a w' I' M':=by obtain⟨a2,U,aa,ae⟩:=h;exact⟨a2,U,aa,λr ao=>hm r (ae r ao)⟩
def cH.put(h:cH X β a w F C I M){dst:Option Nat}(ah:∀ d,dst=some d->d<X.n){x:dD}(ab:eO β x v):cH X β (a.put dst v) w (put dst x F) C I M:=by
 cases dst with
 |none=>exact h
 |some d=>
  refine { h with size:=?_,defers:=h.defers,aj:=?_ };·simp[Act.put,h.size]
  ·exact LH h.aj (by rw[h.size];exact ah d rfl) ab
def ef.heap(h:ef I M w)(bC:w'.heap=w.heap):ef I M w':=
 { i:=by rw[bC];exact h.i,m:=by rw[bC];exact h.m,d:=h.d,cn:=h.cn }
def cH.world(h:cH X β a w F C I M)(bC:w'.heap=w.heap)(ar:n3 w w':=by exact⟨rfl,rfl⟩):cH X β a w' F C I M:=
 { h with
  holds:={ i:=by rw[bC];exact h.holds.i,m:=by rw[bC];exact h.holds.m,d:=h.holds.d,cn:=h.holds.cn }
  defers:=h.defers.mono λr ao=>{ ao with av:=by rw[bC];exact ao.av }
  cp:=λs cs ap=>{ h.cp s cs ap with av:=by rw[bC];exact(h.cp s cs ap).av }
  c2:=by rw[bC];exact h.c2
  out:=h.out.trans ar
  sz:=by rw[bC];exact h.sz }
def ef.alloc(h:ef I M w)(o:Obj):ef I M (w.alloc o) where
 i b x ag:=by have U:=h.i b x ag;rw[ED w o (lv.1 U).1];exact U
 m x ab:=by have U:=h.m x ab;rw[ED w o (lv.1 U).1];exact U
 d:=h.d
 cn:=h.cn
def ef.lt(h:ef I M w){x:aE}(ab:x∈M):x.num<w.heap.size:=(lv.1 (h.m x ab)).1
def ef.Ch(h:ef I M w){b:Nat}{o:Obj}(ag:I b=some o):b<w.heap.size:=(lv.1 (h.i b o ag)).1
def ef.rZ(h:ef I M w):I w.heap.size=none:=by
 cases ag:I w.heap.size with
 |none=>rfl| some o=>exact absurd (h.Ch ag) (Nat.lt_irrefl _)
def ef.qT(h:ef I M w):∀ x∈M,x.num≠w.heap.size:=λx ab e=>by have:=h.lt ab;omega
def ef.cons(h:ef I M w)(o:Obj):ef I (⟨w.heap.size,o⟩::M) (w.alloc o) where
 i:=(h.alloc o).i
 m x ab:=by
  rcases et.1 ab with rfl | ab;·exact LF w o
  ·exact(h.alloc o).m x ab
 d x ab:=by
  rcases et.1 ab with rfl | ab;·exact h.rZ
  ·exact h.d x ab
 cn:=by simp only[ek,mo];refine⟨λhm=>?_,h.cn⟩;obtain⟨x,ab,e⟩:=dp.1 hm;exact h.qT x ab e
def w0.alloc{b:Nat}{cs:List Value}(h:w0 X w I M b cs)(o:Obj):w0 X (w.alloc o) I M b cs where
 av:=by obtain⟨T,bS⟩:=h.av;exact⟨T,by rw[ED w o (lv.1 bS).1];exact bS⟩
 a0:=h.a0
 jF:=h.jF
 eQ:=h.eQ
def w0.lt{b:Nat}{cs:List Value}(h:w0 X w I M b cs):b<w.heap.size:=by obtain⟨T,bS⟩:=h.av;exact(lv.1 bS).1
def w0.LI{b:Nat}{cs:List Value}(h:w0 X w I M b cs)(o:Obj):w0 X (w.alloc o) I (⟨w.heap.size,o⟩::M) b cs where
 av:=(h.alloc o).av
 a0:=h.a0
 jF:=h.jF
 eQ x ab:=by
  rcases et.1 ab with rfl | ab
  ·exact λe=>by have:=h.lt;simp only at e;omega
  ·exact h.eQ x ab
def vl.alloc{r:Nat}(h:vl X w I M r)(o:Obj):vl X (w.alloc o) I M r:=
 { h with av:=by rw[ED w o (lv.1 h.av).1];exact h.av }
def vl.LI{r:Nat}(h:vl X w I M r)(o:Obj):vl X (w.alloc o) I (⟨w.heap.size,o⟩::M) r:=by
 refine { h.alloc o with eQ:=λx ab=>?_ };rcases et.1 ab with rfl | ab
 ·have U:=(lv.1 h.av).1;simp only;omega
 ·exact h.eQ x ab
def LJ(h:∀ b,b<X.B->b ∉ X.b6->w.heap[b]?=X.aq.heap[b]?)(cr:X.B<=w.heap.size)(o:Obj):∀ b,b<X.B->b ∉ X.b6->(w.alloc o).heap[b]?=X.aq.heap[b]?:=λb ag aF=>by rw[ED w o (by omega)];exact h b ag aF
def cH.nu(h:cH X β a w F C I M)(o:Obj):cH X β a (w.alloc o) F C I (⟨w.heap.size,o⟩::M) where
 size:=h.size
 defers:=h.defers.mono λr ao=>ao.LI o
 holds:=h.holds.cons o
 aj:=h.aj
 cp s cs ap:=(h.cp s cs ap).LI o
 inj:=h.inj
 hS:=h.hS
 ht:=h.ht
 own x ab:=by
  rcases et.1 ab with rfl | ab;·exact .inr h.sz
  ·exact h.own x ab
 c2:=LJ h.c2 h.sz o
 out:=h.out
 sz:=by have:=h.sz;simp;omega
def cH.LK(h:cH X β a w F C I M)(d:Nat):cH X β a w (pT F d) (iZ C d none) I M where
 size:=h.size
 defers:=h.defers
 holds:=h.holds
 aj t:=by
  have U:=h.aj t;unfold pT;cases c6:F t with
  |ref s off=>
   rw[c6]at U;simp only;cases Nat.beq s d;·exact U
   ·trivial
  |_=>rw[c6]at U;exact U
 cp s cs ap:=by
  unfold iZ at ap;cases ag:Nat.beq s d with
  |true=>simp[ag]at ap| false=>simp[ag]at ap;exact h.cp s cs ap
 inj s cB U aa:=h.inj s cB (λe=>U (by simp[iZ,e])) (λe=>aa (by simp[iZ,e]))
 hS:=h.hS
 ht:=h.ht
 own:=h.own
 c2:=h.c2
 out:=h.out
 sz:=h.sz
def cH.RM(h:cH X β a w F C I M)(d:Nat)(ah:d<X.n)(cs:List Value)(T:Nat) :
  ∃ n4,cH X n4 (a.put (some d) (.pointer (some ⟨w.heap.size,0,none⟩))) (w.alloc (.cells cs.toArray T (0,0))) (gH (pT F d) d (.ref d 0)) (iZ C d (some cs)) I M:=by
 have aq:=h.LK d;let n4:Nat->Nat:=λs=>if s=d then w.heap.size else β s
 refine⟨n4,?_⟩;have w3:∀ t,eO n4 (pT F d t) (a.tmps.getD t undef):=λt=>by
  have U:=aq.aj t;cases c6:pT F d t with
  |ref s off=>
   rw[c6]at U;have ap:s≠d:=by
    intro e;subst e;unfold pT at c6;split at c6
    ·rename_i cB HW RN;cases ag:Nat.beq cB s with
     |true=>simp[ag]at c6| false=>simp[ag]at c6;obtain⟨rfl,_⟩:=c6;simp at ag
    ·rename_i bu;exact bu _ _ c6
   simp only[eO,n4,cG ap];exact U
  |_=>rw[c6]at U;exact U
 exact {
  size:=by simp[Act.put,h.size]
  defers:=h.defers.mono λr ao=>ao.alloc _
  holds:=h.holds.alloc _
  aj:=LH w3 (by rw[h.size];exact ah) (by simp[eO,n4])
  cp:=λs cs' ap=>by
   by_cases e:s=d;·subst e;simp[iZ]at ap;subst ap;simp only[n4,dd rfl];exact { av:=⟨T,LF w _⟩,a0:=h.sz,jF:=h.holds.rZ,eQ:=h.holds.qT }
   ·have ag:Nat.beq s d=false:=gS e;simp[iZ,ag]at ap;simp only[n4,cG e];exact(h.cp s cs' ap).alloc _
  inj:=λs cB U aa he=>by
   by_cases e:s=d<;>by_cases a4:cB=d
   ·rw[e,a4]
   ·exfalso;have ag:Nat.beq cB d=false:=gS a4;simp[iZ,ag]at aa;obtain⟨c,aN⟩:=HM.1 aa;have:=(h.cp cB c aN).lt;simp only[n4,dd e,cG a4]at he;omega
   ·exfalso;have ag:Nat.beq s d=false:=gS e;simp[iZ,ag]at U;obtain⟨c,aN⟩:=HM.1 U;have:=(h.cp s c aN).lt;simp only[n4,cG e,dd a4]at he;omega
   ·have ag:Nat.beq s d=false:=gS e;have h2:Nat.beq cB d=false:=gS a4;simp[iZ,ag]at U;simp[iZ,h2]at aa;simp only[n4,cG e,cG a4]at he;exact h.inj s cB U aa he
  hS:=h.hS
  ht:=h.ht
  own:=h.own
  c2:=LJ h.c2 h.sz _
  out:=h.out
  sz:=by have:=h.sz;simp;omega }
def ei(a:Addr)(h:a.spot=none)(j:Nat):a.add j=⟨a.block,a.off+j,none⟩:=by
 obtain⟨b,o,s⟩:=a;simp only at h;subst h;unfold Addr.add;split<;>simp_all
def tU{b:Nat}(aB:w.heap[b]?=some (.cells cs T aj))(j:Nat):w.cell? ⟨b,j,none⟩=cs[j]?:=by simp[World.cell?,aB]
variable{P:Program}{t:Nat}{i:dU}
def j3.run_sizeOf(h:j3 P t i)(w:World):(sizeOf t).run P w=.ok i.size w:=by obtain⟨inf,z,U,aa,_⟩:=h.inf;simp[sizeOf,typeInfo,U,aa]
def j3.EE(h:j3 P t i)(w:World):∃ z,(zeroValue t).run P w=.ok z w/\z.cells.toList=i.zero:=by obtain⟨inf,z,U,aa,ae,aR,bn⟩:=h.inf;exact⟨z,by simp[zeroValue,typeInfo,U,aR],bn⟩
def j3.aa6(h:j3 P t i)(w:World):∃ d,(underlying t).run P w=.ok d w/\fj d=i.bK:=by obtain⟨d,U,aa⟩:=h.fk;exact⟨d,run_underlying U w,aa⟩
def j3.RO(h:j3 P t i)(w:World):(isAgg t).run P w=.ok i.bK.agg w:=by
 obtain⟨d,U,aa⟩:=h.aa6 w;rw[<-aa];unfold isAgg;simp only[ca,U,bR];cases d<;>rfl
def aa7(aw:vs.length=1):vs=[vs.headD undef]:=by
 match vs,aw with
 |[v],_=>rfl
def HX(h:j3 P t i){a:Addr}(ap:a.spot=none)(aB:w.heap[a.block]?=some (.cells cs T aj))
  (ai:(cs.toList.drop a.off).take i.size=vs) (aw:vs.length=i.size):(loadVar t a).run P w=.ok (pack i.bK.agg vs) w:=by
 have aN:∀ j v,vs[j]?=some v->w.cell? (a.add j)=some v:=by
  intro j v ak;rw[ei a ap,tU aB];rw[<-ai,lW]at ak;split at ak;·rw[qO]at ak;simpa using ak
  ·cases ak
 unfold loadVar;simp only[ca,h.RO,bR];cases z0:i.bK.agg with
 |true=>simp only[sQ,ca,h.run_sizeOf,bR,<-aw];rw[run_loadCells_list w a vs aN];simp[pack]| false=>have U:=h.HQ z0;rw[U]at aw;have im:=aa7 aw;have:=aN 0 (vs.headD undef) (by rw[im];simp);have ax:a.add 0=a:=rfl;rw[ax]at this;simp[this,pack]
def z1(h:gI vs=true):∀ v∈vs,v.oneCell'=true:=by simpa[gI]using h
def HY(h:j3 P t i){a:Addr}(ap:a.spot=none)(aB:w.heap[a.block]?=some (.cells cs T (0,0)))(cr:v.cells.size=i.size)(ag:a.off+v.cells.toList.length<=cs.size)(U:gI v.cells.toList=true) :
  (storeVar t a v).run P w=.ok () (w.setRow a.block (bO cs.toList a.off v.cells.toList).toArray):=by
 obtain⟨b,o,s⟩:=a;simp only at ap aB ag;subst ap;unfold storeVar;simp only[ca,h.run_sizeOf,bR,cr,ne_eq,not_true,kO,Sem.run_ite];have:=run_storeCells_at (P:=P) b o T v.cells.toList 0 cs w aB (by simpa using ag) (z1 U);simp only[rW]at this;simp only[bO];simpa using this
def cH.RP(h:cH X β a w F C I M){s:Nat}{cs:List Value}(ap:C s=some cs)(cs':List Value):cH X β a (w.setRow (β s) cs'.toArray) F (iZ C s (some cs')) I M:=by
 have ag:=h.cp s cs ap;obtain⟨T,bS⟩:=ag.av;exact {
  size:=h.size
  defers:=h.defers.mono λr ao=>by refine { ao with av:=?_ };rw[setRow_other _ _ _ _ (λe=>by have U:=ao.av;rw[e,bS]at U;cases U)];exact ao.av
  holds:={
   i:=λb o jm=>by rw[setRow_other _ _ _ _ (λe=>by rw[e,ag.jF]at jm;cases jm)];exact h.holds.i b o jm
   m:=λx ab=>by rw[setRow_other _ _ _ _ (ag.eQ x ab)];exact h.holds.m x ab
   d:=h.holds.d
   cn:=h.holds.cn }
  aj:=h.aj
  cp:=λcB c' EF=>by
   by_cases e:cB=s;·subst e;simp[iZ,qS]at EF;subst EF;exact { av:=⟨T,setRow_heap _ _ _ _ _ _ bS⟩,a0:=ag.a0,jF:=ag.jF,eQ:=ag.eQ }
   ·simp[iZ,gS e]at EF;have h2:=h.cp cB c' EF;obtain⟨iF,EG⟩:=h2.av;refine { av:=⟨iF,?_⟩,a0:=h2.a0,jF:=h2.jF,eQ:=h2.eQ };rw[setRow_other _ _ _ _ (λa4=>e (h.inj cB s (by simp[EF]) (by simp[ap]) a4))];exact EG
  inj:=λs1 s2 U aa=>h.inj s1 s2 (λe=>by
    unfold iZ at U;cases az:Nat.beq s1 s with
    |true=>have:=cM az;subst this;rw[ap]at e;cases e| false=>rw[az]at U;exact U e) (λe=>by
    unfold iZ at aa;cases az:Nat.beq s2 s with
    |true=>have:=cM az;subst this;rw[ap]at e;cases e| false=>rw[az]at aa;exact aa e)
  hS:=h.hS
  ht:=h.ht
  own:=h.own
  c2:=λb h2 aF=>by rw[setRow_other _ _ _ _ (λe=>by have:=ag.a0;omega)];exact h.c2 b h2 aF
  out:=h.out.trans (RL _ _ _)
  sz:=by have:=h.sz;simpa using this }
def cH.yb(h:cH X β a w F C I M){a9 post:List aE}{g:Nat}{cs':Array Value}(bb:M=a9++⟨g,.cells cs T (0,0)⟩::post) :
  cH X β a (w.setRow g cs') F C I (a9++⟨g,.cells cs' T (0,0)⟩::post):=by
 subst bb;have fE:(⟨g,.cells cs T (0,0)⟩:aE)∈a9++⟨g,.cells cs T (0,0)⟩::post:=by simp
 have aB:w.heap[g]?=some (.cells cs T (0,0)):=h.holds.m _ fE;have cq:=h.holds.cn;simp only[fC,ek]at cq;have bu:∀ x,x∈a9\/x∈post->x.num≠g:=by
  intro x ab e;rw[x']at cq;obtain⟨_,aa,ae⟩:=cq;rcases ab with ab | ab;·exact ae x.num (dp.2 ⟨x,ab,rfl⟩) g (by simp) e
  ·rw[mo]at aa;exact aa.1 (dp.2 ⟨x,ab,e⟩)
 have mem:∀ x,x∈a9++(⟨g,.cells cs' T (0,0)⟩:aE)::post->x=⟨g,.cells cs' T (0,0)⟩\/(x∈a9\/x∈post):=by
  intro x ab;simp only[dW,et]at ab;rcases ab with ab | ab | ab;·exact .inr (.inl ab)
  ·exact .inl ab
  ·exact .inr (.inr ab)
 have back:∀ x,x∈a9\/x∈post->x∈a9++(⟨g,.cells cs T (0,0)⟩:aE)::post:=by
  intro x ab;simp only[dW,et];rcases ab with ab | ab;·exact .inl ab
  ·exact .inr (.inr ab)
 exact {
  size:=h.size
  defers:=h.defers.mono λr ao=>by
   have z2:g≠r:=ao.eQ _ fE;refine { ao with av:=?_,eQ:=λx ab=>?_ };·rw[setRow_other _ _ _ _ (sP z2)];exact ao.av
   ·rcases mem x ab with rfl | ab
    ·exact z2
    ·exact ao.eQ x (back x ab)
  holds:={
   i:=λb o jm=>by rw[setRow_other _ _ _ _ (λe=>by have:=h.holds.d _ fE;simp only at this;rw[e,this]at jm;cases jm)];exact h.holds.i b o jm
   m:=λx ab=>by
    rcases mem x ab with rfl | ab;·exact setRow_heap _ _ _ _ _ _ aB
    ·rw[setRow_other _ _ _ _ (bu x ab)];exact h.holds.m x (back x ab)
   d:=λx ab=>by
    rcases mem x ab with rfl | ab;·exact h.holds.d ⟨g,.cells cs T (0,0)⟩ fE
    ·exact h.holds.d x (back x ab)
   cn:=by simpa[fC]using cq }
  aj:=h.aj
  cp:=λs c ap=>by
   have ag:=h.cp s c ap;obtain⟨iF,EG⟩:=ag.av;have oU:g≠β s:=ag.eQ _ fE;refine { av:=⟨iF,?_⟩,a0:=ag.a0,jF:=ag.jF,eQ:=λx ab=>?_ };·rw[setRow_other _ _ _ _ (sP oU)];exact EG
   ·rcases mem x ab with rfl | ab
    ·exact oU
    ·exact ag.eQ x (back x ab)
  inj:=h.inj
  hS:=h.hS
  ht:=h.ht
  own:=λx ab=>by
   rcases mem x ab with rfl | ab;·exact h.own ⟨g,.cells cs T (0,0)⟩ fE
   ·exact h.own x (back x ab)
  c2:=λb ag aF=>by
   rw[setRow_other _ _ _ _ (λe=>by
    rcases h.own _ fE with U | U;·simp only at U;exact aF (e ▸ U)
    ·simp only at U;omega)]
   exact h.c2 b ag aF
  out:=h.out.trans (RL _ _ _)
  sz:=by have:=h.sz;simpa using this }
def il.heap(h:ef I M w){b:Nat}{o:Obj}(af:il I M b o):w.heap[b]?=some o:=by
 rcases af with af | ⟨x,ab,rfl,rfl⟩
 ·exact h.i b o af
 ·exact h.m x ab
def aa8{aS:List Value}{x:Value}{xs:List Value}(h:off+1+xs.length<=aS.length):bO (aS.set off x) (off+1) xs=bO aS off (x::xs):=by
 unfold bO;rw[List.take_set,List.drop_set,dd (by omega),hR (by omega:off<aS.length)];have e:(List.take off aS++[aS[off]'(by omega)]).set off x=List.take off aS++[x]:=by rw[List.set_append,cG (by simp;omega)];simp[Ey (by omega:off<=aS.length)]
 rw[e];simp[pR,HP 1]
def RQ(off:Nat):∀ (xs:List Value) (k:Nat) (aS:List Value),off+k+xs.length<=aS.length -> (xs.zipIdx k).foldl (λ(cs:Array Value) (p:Value×Nat)=>cs.setIfInBounds (off+p.2) p.1) aS.toArray=(bO aS (off+k) xs).toArray
 |[],k,aS,_=>by simp[bO]
 |x::xs,k,aS,aw=>by simp only[dL]at aw;simp only[List.zipIdx_cons,Ez];rw[List.setIfInBounds_toArray,RQ off xs (k+1) _ (by simp;omega)];rw[show off+(k+1)=off+k+1 from by omega,aa8 (by omega)]
def fill_eq(place:Nat->Option (Nat×Nat)):∀ (vs:List (Nat×Value)) (cells r:List Value),sS place cells vs=some r->Instr.fill place cells.toArray vs=some r.toArray
 |[],cells,r,h=>by simp[sS]at h;simp[Instr.fill,h]
 |(i,v)::a6,cells,r,h=>by
  unfold sS at h;unfold Instr.fill;split at h;·cases h
  ·rename_i off size aK;simp only[aK];cases aN:(Nat.beq v.cells.size size&&Nat.ble (off+size) cells.length)with
   |false=>rw[aN]at h;cases h
   |true=>
    rw[aN]at h;simp only[bg]at h;rw[cA]at aN;have U:=cM aN.1;have aa:=bN aN.2;have aC:decide (v.cells.size≠size)=false:=by simp[U]
    have ay:decide (off+v.cells.size > cells.toArray.size)=false:=by simp;omega
    rw[aC,ay];simp only[Bool.or_false,j0,kO];have bc:=fill_eq place a6 _ r h;rw[<-bc];congr 1;have:=RQ off v.cells.toList 0 cells (by simp;omega);simp only[rW]at this;rw[<-this,<-LA];simp
end
def h1.le{I I':aH}{M M':List aE}(h:h1 b6 I M I' M')(jn:ef I M w):(∀ b o,I b=some o->I' b=some o)/\ef I' M' w /\
  (∀ b o,I' b=some o->I b=some o\/∃ x∈M,x.num=b/\x.obj=o/\b ∉ b6)/\(∀ x∈M',x∈M):=by
 induction h with
 |refl=>exact⟨λ_ _ h=>h,jn,λ_ _ h=>.inl h,λ_ h=>h⟩
 | @sub I M M1 I' M' ap k bc=>
  have U:ef I M1 w:=⟨jn.i,λx ab=>jn.m x (ap.subset ab),λx ab=>jn.d x (ap.subset ab),(ap.map _).nodup jn.cn⟩;obtain⟨cg,dv,dC,fI⟩:=bc U;refine⟨cg,dv,λb o ag=>?_,λx ab=>ap.subset (fI x ab)⟩;rcases dC b o ag with h | ⟨x,ab,h⟩;·exact .inl h
  ·exact .inr ⟨x,ap.subset ab,h⟩
 | @perm I M M1 I' M' aK k bc=>
  have U:ef I M1 w:=⟨jn.i,λx ab=>jn.m x (aK.mem_iff.2 ab),λx ab=>jn.d x (aK.mem_iff.2 ab),(aK.map _).nodup_iff.1 jn.cn⟩;obtain⟨cg,dv,dC,fI⟩:=bc U;refine⟨cg,dv,λb o ag=>?_,λx ab=>aK.mem_iff.2 (fI x ab)⟩;rcases dC b o ag with h | ⟨x,ab,h⟩;·exact .inl h
  ·exact .inr ⟨x,aK.mem_iff.2 ab,h⟩
 | @oT I M I' M' b o post bb aF k bc=>
  subst bb;have cq:=jn.cn;simp only[ek,mo]at cq;have ag:=jn.d ⟨b,o⟩ (by simp);simp only at ag;have U:ef (ins I b o) post w:={
   i:=λiq o' h=>by
    unfold ins at h;by_cases e:iq=b;·subst e;simp only[qS,bg,lx]at h;subst h;exact jn.m ⟨iq,o⟩ (by simp)
    ·simp only[gS e,bd]at h;exact jn.i _ _ h
   m:=λx ab=>jn.m x (by simp[ab])
   d:=λx ab=>by unfold ins;have e:x.num≠b:=λe=>cq.1 (dp.2 ⟨x,ab,e⟩);simp only[gS e,bd];exact jn.d x (by simp[ab])
   cn:=cq.2 }
  obtain⟨cg,dv,dC,fI⟩:=bc U;refine⟨λiq o' h=>cg iq o' ?_,dv,λiq o' h=>?_,λx ab=>by simp[fI x ab]⟩
  ·unfold ins;by_cases e:iq=b
   ·subst e;rw[ag]at h;cases h
   ·simp only[gS e,bd];exact h
  ·rcases dC iq o' h with h | ⟨x,ab,h⟩
   ·unfold ins at h;by_cases e:iq=b
    ·subst e;simp only[qS,bg,lx]at h;exact .inr ⟨⟨iq,o⟩,by simp,rfl,h,aF⟩
    ·simp only[gS e,bd]at h;exact .inl h
   ·exact .inr ⟨x,by simp[ab],h⟩
def cH.ir{X:cW}{β:Nat->Nat}{F:Fr}{C:dM}{I I':aH}{M M':List aE}(h:cH X β a w F C I M)(hw:h1 X.b6 I M I' M'):cH X β a w F C I' M':=by
 obtain⟨cg,dv,dC,fI⟩:=hw.le h.holds;exact { h with
  holds:=dv
  defers:=h.defers.mono λr ao=>by
   refine { ao with jF:=?_,eQ:=λx ab=>ao.eQ x (fI x ab) };cases bx:I' r with
   |none=>rfl
   |some o=>
    exfalso;rcases dC _ _ bx with U | ⟨x,ab,U,_⟩;·rw[ao.jF]at U;cases U
    ·exact ao.eQ x ab U
  cp:=λs cs ap=>{ h.cp s cs ap with
   jF:=by
    cases bx:I' (β s)with
    |none=>rfl
    |some o=>
     exfalso;rcases dC _ _ bx with U | ⟨x,ab,U,_⟩;·rw[(h.cp s cs ap).jF]at U;cases U
     ·exact(h.cp s cs ap).eQ x ab U
   eQ:=λx ab=>(h.cp s cs ap).eQ x (fI x ab) }
  hS:=λb o ag=>cg b o (h.hS b o ag)
  ht:=λb o ag=>by
   rcases dC b o ag with U | ⟨x,ab,rfl,_,aF⟩;·exact h.ht b o U
   ·exact .inr ((h.own x ab).resolve_left aF)
  own:=λx ab=>h.own x (fI x ab) }
section
variable{X:cW}{β:Nat->Nat}{a:Act}{w:World}{F:Fr}{C:dM}{I:aH}{M:List aE}{o:Oper}{Q:Exit->Act->World->Prop}{K:gg}
def RR(h:cH X β a w F C I M)(ah:∀ d,o.dst=some d->d<X.n)(cq:∀ c,o.op≠.defer c){x:dD}(ao:(execOp a.eval o).run X.P w=.ok (.value v) w)(ab:eO β x v)(af:K (put o.dst x F) C I M):o.wpIn (gR X) 0 X.P a w (Sat X K) Q:=
 i' cq ao ⟨_,_,_,_,⟨β,h.put ah ab⟩,af⟩
def yc(h:cH X β a w F C I M)(ah:∀ d,o.dst=some d->d<X.n)(cq:∀ c,o.op≠.defer c)(ao:(execOp a.eval o).run X.P w=.ok (.value v) w)(af:K (put o.dst (.val v) F) C I M):o.wpIn (gR X) 0 X.P a w (Sat X K) Q:=
 RR (x:=.val v) h ah cq ao rfl af
def n5(k:IntKind)(n:Int)(w:World)(P:Program):(asIntOf (.int k n)).run P w=.ok (k,n) w:=rfl
def IntKind.Ci{k c7:IntKind}(h:IntKind.ms k c7=true):k=c7:=by cases k<;>cases c7<;>first | rfl | cases h
def n6(op:BinOp)(t:Nat)(x y:Operand)(k c7:IntKind)(n m:Int)(P:Program)(w:World):(eqGuard op t x y (.int k n) (.int c7 m)).run P w=.ok () w:=by
 unfold eqGuard;cases op<;>rfl
def LL(op:BinOp)(t:Nat)(x y:Operand)(n m:ByteArray)(P:Program)(w:World):(eqGuard op t x y (.string n) (.string m)).run P w=.ok () w:=by
 unfold eqGuard;cases op<;>rfl
def RS(op:BinOp)(t:Nat)(x y:Operand)(n m:Bool)(P:Program)(w:World):(eqGuard op t x y (.bool n) (.bool m)).run P w=.ok () w:=by
 unfold eqGuard;cases op<;>rfl
def RT(a b:ByteArray):(a.toList == b.toList)=decide (a=b):=by
 rw[pQ];simp only[beq_iff_eq,e7];constructor
 ·intro h;have U:a.data.toList=b.data.toList:=by rw[ByteArray.toList_eq,ByteArray.toList_eq]at h;exact h
  cases a;cases b;simp only[LB];exact gG U
 ·intro h;rw[h]
def run_equal_bool{t:Nat}(hu:P.underlying t=some .bool)(a b:Bool)(w:World):(Op.equal t (.bool a) (.bool b)).run P w=.ok (a == b) w:=by
 have key:∀ d,(Op.equalIn (d+1) t (.bool a) (.bool b)).run P w=.ok (a == b) w:=λd=>by simp only[Op.equalIn,ca,run_underlying hu,bR,c5]
 exact key 9999
def aa9(aP:cY X.P X.E)(op:BinOp)(t:Nat)(x y:Operand)(u v:dD)(lY w4:Value)(ab:u=.val lY)(aG:v=.val w4)(RU:Value->Prop)(other:Prop)
  (h:lz op (X.E t) u v RU other):other\/∃ r,(∀ w,(do eqGuard op t x y lY w4;binOp op t lY w4:Sem Value).run X.P w=.ok r w)/\RU r:=by
 subst ab;subst aG;unfold lz at h;split at h
 ·rename_i k a c7 b aC ay;cases aC;cases ay
  right
  split at h;·obtain⟨j,rfl,⟨r,ao,af⟩⟩:=h;refine⟨_,λw=>?_,af⟩;simp only[ca,n6,bR,binOp,Op.shift];rw[cG (by omega)];simp[ao]
  ·obtain⟨j,rfl,af⟩:=h;refine⟨_,λw=>?_,af⟩;simp only[ca,n6,bR,binOp,Op.shift];rw[cG (by omega)];simp
  ·rename_i gT ko;cases hH:IntKind.ms k c7 with
   |false=>rw[hH]at h;exact h.elim
   |true=>
    rw[hH]at h;have aba:=IntKind.Ci hH;subst aba;simp only[bg]at h;cases op<;>simp only at h
    case add=>obtain⟨r,ao,af⟩:=h;exact⟨_,λw=>by simp[n6,binOp,Op.intArith,ao],af⟩
    case sub=>obtain⟨r,ao,af⟩:=h;exact⟨_,λw=>by simp[n6,binOp,Op.intArith,ao],af⟩
    case mul=>obtain⟨r,ao,af⟩:=h;exact⟨_,λw=>by simp[n6,binOp,Op.intArith,ao],af⟩
    case quo=>obtain⟨aq,r,ao,af⟩:=h;exact⟨_,λw=>by simp[n6,binOp,Op.intDiv,aq,ao],af⟩
    case rem=>obtain⟨aq,af⟩:=h;exact⟨_,λw=>by simp[n6,binOp,Op.intDiv,aq],af⟩
    case and=>exact⟨_,λw=>by simp[n6,binOp,Op.intBits,tQ],h⟩
    case or=>exact⟨_,λw=>by simp[n6,binOp,Op.intBits,tQ],h⟩
    case xor=>exact⟨_,λw=>by simp[n6,binOp,Op.intBits,tQ],h⟩
    case andNot=>exact⟨_,λw=>by simp[n6,binOp,Op.intBits,tQ],h⟩
    case shl=>exact(gT rfl).elim
    case shr=>exact(ko rfl).elim
    case eql=>exact⟨_,λw=>by simp only[ca,n6,bR,binOp,Op.intCmp,wY];simp;rfl,h⟩
    case neq=>exact⟨_,λw=>by simp only[ca,n6,bR,binOp,Op.intCmp,wY];simp;rfl,h⟩
    case lss=>exact⟨_,λw=>by simp[n6,binOp,Op.intCmp,wY],h⟩
    case leq=>exact⟨_,λw=>by simp[n6,binOp,Op.intCmp,wY],h⟩
    case gtr=>exact⟨_,λw=>by simp[n6,binOp,Op.intCmp,wY],h⟩
    case geq=>exact⟨_,λw=>by simp[n6,binOp,Op.intCmp,wY],h⟩
 ·rename_i a b aC ay;cases aC;cases ay;split at h
  ·exact .inr ⟨_,λw=>by simp only[ca,LL,bR,binOp,Op.stringOp,c5,RT],h⟩
  ·exact .inr ⟨_,λw=>by simp only[ca,LL,bR,binOp,Op.stringOp,c5,RT],h⟩
  ·exact .inl h
 ·rename_i a b aC ay;cases aC;cases ay;split at h
  ·rename_i dn sz hs z au;obtain⟨d,hu,ah⟩:=(aP _ _ au).fk;have hI:d=.bool:=by cases d<;>simp_all[fj]
   subst hI;split at h;·exact .inr ⟨_,λw=>by simp only[ca,RS,bR,binOp,run_equal_bool hu,c5],h⟩
   ·exact .inr ⟨_,λw=>by simp only[ca,RS,bR,binOp,run_equal_bool hu,c5],h⟩
   ·exact .inl h
  ·exact .inl h
 ·exact .inl h
def LM{args:Array Value}(h:Calls P f args w R)(n:Nat):CallsIn (gR X) n P f args w R:=by have U:=(callsIn_wide (n:=n)).2 h;exact⟨trivial,λcs ao=>U.2 cs (room_wide _)⟩
def ef.part(h:ef I M w){dE Mr:List aE}(bb:M.Perm (dE++Mr)):ef I dE w:=by
 have gU:∀ x,x∈M ↔ x∈dE\/x∈Mr:=λx=>by rw[bb.mem_iff,dW]
 have cq:((dE++Mr).map (·.num)).Nodup:=(bb.map (·.num)).nodup_iff.1 h.cn;rw[fC,x']at cq;exact⟨h.i,λx ab=>h.m x ((gU x).2 (.inl ab)),λx ab=>h.d x ((gU x).2 (.inl ab)),cq.1⟩
def cH.after(h:cH X β a w F C I M){dE Mr M':List aE}{I':aH}(bb:M.Perm (dE++Mr))(qU:ef I' M' w')(fl:Kept I dE w I' M' w'):cH X β a w' F C I' (M'++Mr):=by
 have gU:∀ x,x∈M ↔ x∈dE\/x∈Mr:=λx=>by rw[bb.mem_iff,dW]
 have cq:((dE++Mr).map (·.num)).Nodup:=(bb.map (·.num)).nodup_iff.1 h.holds.cn;rw[fC,x']at cq;have RV:∀ x∈Mr,∀ y∈dE,y.num≠x.num:=λx ab y aG=>cq.2.2 y.num (dp.2 ⟨y,aG,rfl⟩) x.num (dp.2 ⟨x,ab,rfl⟩);have abb:∀ x∈Mr,w'.heap[x.num]?=w.heap[x.num]?:=λx ab=>
  fl.c2 x.num (h.holds.lt ((gU x).2 (.inr ab))) (RV x ab)
 exact {
  size:=h.size
  defers:=h.defers.mono λr ao=>by
   have aO:=(lv.1 ao.av).1;refine { av:=?_,a0:=ao.a0,jF:=?_,eQ:=λx ab=>?_ };·rw[fl.c2 _ aO (λy aG=>ao.eQ y ((gU y).2 (.inl aG)))];exact ao.av
   ·cases bx:I' r with
    |none=>rfl
    |some o=>
     exfalso;rcases fl.tR _ _ bx with U | U;·rw[ao.jF]at U;cases U
     ·omega
   ·rcases dW.1 ab with ab | ab
    ·rcases fl.vk x ab with⟨z,a1,z3⟩ | U
     ·rw[<-z3];exact ao.eQ z ((gU z).2 (.inl a1))
     ·omega
    ·exact ao.eQ x ((gU x).2 (.inr ab))
  holds:={
   i:=qU.i
   m:=λx ab=>by
    rcases dW.1 ab with ab | ab;·exact qU.m x ab
    ·rw[abb x ab];exact h.holds.m x ((gU x).2 (.inr ab))
   d:=λx ab=>by
    rcases dW.1 ab with ab | ab;·exact qU.d x ab
    ·cases bx:I' x.num with
     |none=>rfl
     |some o=>
      exfalso;rcases fl.tR _ _ bx with U | U;·have:=h.holds.d x ((gU x).2 (.inr ab));rw[this]at U;cases U
      ·have:=h.holds.lt ((gU x).2 (.inr ab));omega
   cn:=by
    rw[fC,x'];refine⟨qU.cn,cq.2.1,λp aK q az e=>?_⟩;obtain⟨x,ab,rfl⟩:=dp.1 aK;obtain⟨y,aG,rfl⟩:=dp.1 az;rcases fl.vk x ab with⟨z,a1,z3⟩ | U;·exact RV y aG z a1 (z3.trans e)
    ·have:=h.holds.lt ((gU y).2 (.inr aG));omega }
  aj:=h.aj
  cp:=λs cs ap=>by
   have ag:=h.cp s cs ap;obtain⟨T,bS⟩:=ag.av;refine { av:=⟨T,?_⟩,a0:=ag.a0,jF:=?_,eQ:=λx ab=>?_ };·rw[fl.c2 _ ag.lt (λy aG=>ag.eQ y ((gU y).2 (.inl aG)))];exact bS
   ·cases bx:I' (β s)with
    |none=>rfl
    |some o=>
     exfalso;rcases fl.tR _ _ bx with U | U;·rw[ag.jF]at U;cases U
     ·have:=ag.lt;omega
   ·rcases dW.1 ab with ab | ab
    ·rcases fl.vk x ab with⟨z,a1,z3⟩ | U
     ·rw[<-z3];exact ag.eQ z ((gU z).2 (.inl a1))
     ·have:=ag.lt;omega
    ·exact ag.eQ x ((gU x).2 (.inr ab))
  inj:=h.inj
  hS:=λb o ag=>fl.le b o (h.hS b o ag)
  ht:=λb o ag=>by
   rcases fl.tR b o ag with U | U;·exact h.ht b o U
   ·exact .inr (jD h.sz U)
  own:=λx ab=>by
   rcases dW.1 ab with ab | ab
   ·rcases fl.vk x ab with⟨z,a1,z3⟩ | U
    ·rw[<-z3];exact h.own z ((gU z).2 (.inl a1))
    ·exact .inr (jD h.sz U)
   ·exact h.own x ((gU x).2 (.inr ab))
  c2:=λb ag aF=>by
   rw[fl.c2 b (Ex ag h.sz) (λy aG e=>by
    rcases h.own y ((gU y).2 (.inl aG))with U | U;·exact aF (e ▸ U)
    ·omega)]
   exact h.c2 b ag aF
  out:=h.out.trans fl.out
  sz:=jD h.sz fl.sz }
def cH.call(h:cH X β a w F C I M){KC:Value->aH->List aE->Prop}(aN:aZ X.b6 P f args I M KC) :
  (HT P f/\Calls P f args.toArray w λe w'=>∃ v I' M',e=.returned v/\KC v I' M'/\cH X β a w' F C I' M')\/(∃ v w' I' M',(callFunc f args.toArray).run P w=.ok (.value v) w'/\KC v I' M'/\cH X β a w' F C I' M'):=by
 obtain⟨dm,dE,Mr,post,gV,⟨pU,ap⟩ | ap,af⟩:=aN.elim ⟨h.holds.d,h.holds.cn⟩<;>have h:=h.ir gV<;>have bb:=List.Perm.refl (dE++Mr)
 ·refine .inl ⟨pU,?_⟩;refine(ap w (h.holds.part bb)).mono ?_;rintro e w'⟨v,I',M',rfl,aK,qU,fl⟩;have ax:=h.after bb qU fl;exact⟨v,I',M'++Mr,rfl,af v I' M' fl.le ax.holds.d aK,ax⟩
 ·obtain⟨v,w',I',M',ao,aK,qU,fl⟩:=ap w (h.holds.part bb);have ax:=h.after bb qU fl;exact .inr ⟨v,w',I',M'++Mr,ao,af v I' M' fl.le ax.holds.d aK,ax⟩
def RW{args:Array Value}(cq:∀ c,o.op≠.defer c)(ao:(execOp a.eval o).run X.P w=.ok (.enter f args) w)
  (aN:Calls X.P f args w λe w'=>∃ v,e=.returned v/\next (a.put o.dst v) w'):o.wpIn (gR X) 0 X.P a w next Q:=by
 refine⟨λ_ _=>trivial,?_⟩;rw[HO _ _ _ cq,ao];refine⟨(λh=>by cases h),?_⟩;refine(LM aN _).mono ?_;rintro e w'⟨v,rfl,h⟩;exact h
def RX(z:Value)(yd:List Value)(h:z.cells.toList=yd)(n:Nat):(Array.range n).map (z.cells[· % z.cells.size]!)=(rowOf yd n).toArray:=by subst h;apply gG;simp[Cf,madeCells]
def j3.struct{t:Nat}{cb:List (Nat×Nat)}(h:j3 P t ⟨sz,hs,z,.struct cb⟩):∃ fields,P.underlying t=some (.struct fields)/\cb=fields.toList.map λf=>(f.type,f.offset):=by
 obtain⟨d,U,aa⟩:=h.fk;cases d<;>simp[fj]at aa
 exact⟨_,U,aa.symm⟩
def j3.slice{t:Nat}(h:j3 P t ⟨sz,hs,z,.slice e⟩):P.underlying t=some (.slice e):=by
 obtain⟨d,U,aa⟩:=h.fk;cases d<;>simp[fj]at aa
 rw[U,aa]
def j3.array{t:Nat}(h:j3 P t ⟨sz,hs,z,.array n e⟩):P.underlying t=some (.array n e):=by
 obtain⟨d,U,aa⟩:=h.fk;cases d<;>simp[fj]at aa
 rw[U,aa.1,aa.2]
def j3.string{t:Nat}(h:j3 P t ⟨sz,hs,z,.string⟩):P.underlying t=some .string:=by
 obtain⟨d,U,aa⟩:=h.fk;cases d<;>simp[fj]at aa
 exact U
def j3.int{P:Program}{t sz hs:Nat}{z:List Value}{k:IntKind}(h:j3 P t ⟨sz,hs,z,.int k⟩):P.underlying t=some (.int k):=by
 obtain⟨d,U,aa⟩:=h.fk;cases d<;>simp[fj]at aa
 rw[U,aa]
def RY{fields:Array Field}{i mr:Nat}(h:(fields.toList.map λf=>(f.type,f.offset))[i]?=some (mr,off)):∃ f,fields[i]?=some f/\f.type=mr/\f.offset=off:=by
 simp only[vj,Array.getElem?_toList]at h;cases aF:fields[i]? with
 |none=>simp[aF]at h| some f=>simp[aF]at h;exact⟨f,rfl,h.1,h.2⟩
def LN{t:Nat}{i:dU}(h:j3 P t i)(bk:off+i.size<=cs.size)(w:World):(part t cs off).run P w=.ok (pack i.bK.agg ((cs.toList.drop off).take i.size)) w:=by
 unfold part;simp only[ca,h.RO,bR];cases z0:i.bK.agg with
 |true=>simp only[sQ,ca,h.run_sizeOf,bR,c5,pack,bg];congr 2;apply gG;simp[List.take_drop]
 |false=>
  have U:=h.HQ z0;rw[U]at bk |-;have aO:off<cs.size:=by omega
  simp only[j0,kO,Ew aO,c5,pack,bd];congr 1;rw[eE (by simpa using aO)];simp
def abc{t:Nat}{aJ:dU}(au:P.underlying t=some (.slice e))(he:j3 P e aJ){c:Nat}{j:Nat}(ak:j<n)(w:World) :
  (Instr.indexAt t (.slice (some ad) n c) (.int fD j)).run P w=.ok (.pointer (some (ad.add (j*aJ.size)))) w:=by
 unfold Instr.indexAt;simp only[ca,n5,bR,run_underlying au,c5];rw[dd ⟨by omega,by omega⟩];simp[he.run_sizeOf]
def RZ{t:Nat}{aJ:dU}(au:P.underlying t=some (.array m e))(he:j3 P e aJ){j:Nat}(ak:j<m)(w:World) :
  (Instr.indexAt t (.pointer (some ad)) (.int fD j)).run P w=.ok (.pointer (some (ad.add (j*aJ.size)))) w:=by
 unfold Instr.indexAt;simp only[ca,n5,bR,run_underlying au,c5,Instr.sureAddr];rw[dd ⟨by omega,by omega⟩];simp[he.run_sizeOf]
def R0{P:Program}{E:Env}(aP:cY P E)(w:World):∀ (fields:List Field),Ce E (fields.map λf=>(f.type,f.offset))=true -> ∃ l:List (Nat×Nat),(fields.mapM λf=>(do pure (f.offset,<-sizeOf f.type):Sem (Nat×Nat))).run P w=.ok l w/\∀ i,l[i]?=places E (fields.map λf=>(f.type,f.offset)) i
 |[],_=>⟨[],rfl,λi=>by simp[places]⟩
 |f::cb,h=>by
  simp only[Ce,ek,tO,cA]at h;obtain⟨g9,mU⟩:=Option.isSome_iff_exists.1 h.1;obtain⟨l,U,aa⟩:=R0 aP w cb h.2;refine⟨(f.offset,g9.size)::l,?_,λi=>?_⟩;·simp only[EA,ca,(aP _ _ mU).run_sizeOf,bR,c5];rw[U];rfl
  ·cases i with
   |zero=>simp[places,mU]| succ i=>simp only[HN,aa];simp[places]
def R1(aP:cY X.P X.E)(h:cH X β a w F C I M){ye:dD->Prop}{other:Prop}(op:Op)(ty:TypeId)(dst:Option Tmp)(pos:String)(after:Array Edge)(guard:Option (Nat×Bool))(ai:cD X op (dk F) C I M ye other) :
  other\/∃ v x,(execOp a.eval ⟨dst,op,ty,pos,after,guard⟩).run X.P w=.ok (.value v) w/\eO β x v/\ye x:=by
 have done:∀ {v x},(execOp a.eval ⟨dst,op,ty,pos,after,guard⟩).run X.P w=.ok (.value v) w->eO β x v->ye x->other\/∃ v x,(execOp a.eval ⟨dst,op,ty,pos,after,guard⟩).run X.P w=.ok (.value v) w/\eO β x v/\ye x:=
  λU aa ae=>.inr ⟨_,_,U,aa,ae⟩
 have hv:∀ {v},(execOp a.eval ⟨dst,op,ty,pos,after,guard⟩).run X.P w=.ok (.value v) w->ye (.val v)->other\/∃ v x,(execOp a.eval ⟨dst,op,ty,pos,after,guard⟩).run X.P w=.ok (.value v) w/\eO β x v/\ye x:=
  fun {v} U ae=>.inr ⟨v,.val v,U,rfl,ae⟩
 have aF:=h.aj;cases op
 case move x=>exact done (by simp[execOp]) (w2 aF x) ai
 case assign x=>exact done (by simp[execOp]) (w2 aF x) ai
 case pick c p q=>
  simp only[cD]at ai;split at ai
  ·rename_i b ag;have aN:=LG aF ag;cases b
   ·exact done (by simp[execOp,aN,asBool]) (w2 aF q) ai
   ·exact done (by simp[execOp,aN,asBool]) (w2 aF p) ai
  ·rename_i b ag;have aN:=tT aF ag;refine done (v:=if b then a.eval p else a.eval q) (x:=HR b (bw F p) (bw F q)) (by simp[execOp,aN,asBool]) ?_ ai;have U:=RJ aF p;have aa:=RJ aF q;unfold HR;split
   ·rename_i x y aC ay;rw[aC]at U;rw[ay]at aa;simp only[eO]at U aa |-;cases b<;>simp[U,aa]
   ·rename_i x y _ aC ay;rw[aC]at U;rw[ay]at aa;simp only[eO]at U aa |-;cases b<;>simp[U,aa]
   ·trivial
  ·exact ai.elim
 case unOp op t x=>
  simp only[cD]at ai;split at ai;·rename_i b ag;exact done (v:=.bool (!b)) (x:=.lit (!b)) (by simp[execOp,LG aF ag,Op.unary]) rfl ai
  ·rename_i b ag;exact hv (v:=.bool (!b)) (by simp[execOp,tT aF ag,Op.unary]) ai
  ·rename_i k n ag;obtain⟨r,ao,af⟩:=ai;exact hv (v:=.int k r) (by simp only[execOp,tT aF ag,Op.unary,Op.intArith,ao];simp) af
  ·exact Or.inl ai
 case binOp op t x y ty'=>
  simp only[cD]at ai;by_cases ab:∃ lY w4,bw F x=.val lY/\bw F y=.val w4
  ·obtain⟨lY,w4,ab,aG⟩:=ab;have fin:∀ r,(∀ w,(do eqGuard op t x y lY w4;binOp op t lY w4:Sem Value).run X.P w=.ok r w)->ye (.val r)->(other\/∃ v n7,(execOp a.eval ⟨dst,.binOp op t x y ty',ty,pos,after,guard⟩).run X.P w=.ok (.value v) w/\eO β n7 v/\ye n7):=λr ao af=>by refine hv (v:=r) ?_ af;have:=ao w;rw[<-dq aF ab,<-dq aF aG]at this;simp only[execOp];simp only[ca]at this |-;rw[this];rfl
   rcases aa9 aP op t x y _ _ lY w4 ab aG _ _ ai with(⟨hg,ft,r,aK,az,ao,af⟩ | U) | ⟨r,ao,af⟩;·rw[show dB (dk F) x=bw F x from rfl,ab]at aK;rw[show dB (dk F) y=bw F y from rfl,aG]at az;cases aK;cases az;exact fin r ao af
   ·exact Or.inl U
   ·exact fin r ao af
  ·unfold lz at ai;split at ai
   ·rename_i aC ay;exact(ab ⟨_,_,aC,ay⟩).elim
   ·rename_i aC ay;exact(ab ⟨_,_,aC,ay⟩).elim
   ·rename_i aC ay;exact(ab ⟨_,_,aC,ay⟩).elim
   ·rcases ai with⟨hg,ft,r,aK,az,ao,af⟩ | U
    ·exact(ab ⟨_,_,aK,az⟩).elim
    ·exact Or.inl U
 case load t x=>
  simp only[cD]at ai;split at ai
  ·rename_i i hi;split at ai
   ·rename_i s off ab;have g1:=zZ aF ab;split at ai
    ·rename_i cs ap;cases bk:Nat.ble (off+i.size) cs.length with
     |false=>rw[bk]at ai;exact ai.elim| true=>rw[bk]at ai;have z4:=bN bk;obtain⟨T,bS⟩:=(h.cp s cs ap).av;refine hv (v:=pack i.bK.agg ((cs.drop off).take i.size)) ?_ ai;have:=HX (aP _ _ hi) (a:=⟨β s,off,none⟩) rfl bS (vs:=(cs.drop off).take i.size) (by simp) (by simp;omega);simp[execOp,Instr.loadAt,Instr.sureAddr,g1,this]
    ·exact ai.elim
   ·rename_i ad ab;have g1:=tT aF ab;obtain⟨vs,⟨bZ,cs,T,aj,eg,im,aw⟩,af⟩:=ai;refine hv (v:=pack i.bK.agg vs) ?_ af;have:=HX (aP _ _ hi) bZ (eg.heap h.holds) im aw;simp[execOp,Instr.loadAt,Instr.sureAddr,g1,this]
   ·exact ai.elim
  ·exact ai.elim
 case nilCheck x=>
  simp only[cD]at ai;split at ai;·rename_i s off ab;exact done (v:=.pointer (some ⟨β s,off,none⟩)) (x:=.ref s off) (by simp[execOp,zZ aF ab]) rfl ai
  ·rename_i ad ab;exact hv (v:=.pointer (some ad)) (by simp[execOp,tT aF ab]) ai
  ·exact Or.inl ai
 case fieldAddr t x i=>
  simp only[cD]at ai;split at ai
  ·rename_i sz hs z cb au;obtain⟨fields,hu,rfl⟩:=(aP _ _ au).struct;split at ai
   ·rename_i mr off hh;obtain⟨f,yf,rfl,rfl⟩:=RY hh;split at ai
    ·rename_i g9 s o' mU ab;cases a1:Nat.beq g9.size 0 with
     |true=>rw[a1]at ai;exact ai.elim
     |false=>
      rw[a1]at ai;have kp:g9.size≠0:=λe=>by rw[e]at a1;cases a1
      refine done (v:=.pointer (some ⟨β s,o'+f.offset,none⟩)) (x:=.ref s (o'+f.offset)) ?_ rfl ai;simp[execOp,Instr.fieldAt,run_underlying hu,yf,zZ aF ab,Instr.sureAddr,fieldPlace,(aP _ _ mU).run_sizeOf,kp,ei]
    ·rename_i g9 ad mU ab;cases a1:Nat.beq g9.size 0 with
     |true=>rw[a1]at ai;exact ai.elim
     |false=>
      rw[a1]at ai;have kp:g9.size≠0:=λe=>by rw[e]at a1;cases a1
      refine hv (v:=.pointer (some (ad.add f.offset))) ?_ ai;simp[execOp,Instr.fieldAt,run_underlying hu,yf,tT aF ab,Instr.sureAddr,fieldPlace,(aP _ _ mU).run_sizeOf,kp]
    ·exact ai.elim
   ·exact ai.elim
  ·exact ai.elim
 case field t x i=>
  simp only[cD]at ai;split at ai
  ·rename_i sz hs z cb cs au ab;obtain⟨fields,hu,rfl⟩:=(aP _ _ au).struct;split at ai
   ·rename_i mr off hh;obtain⟨f,yf,rfl,rfl⟩:=RY hh;split at ai
    ·rename_i g9 mU;cases a1:Nat.ble (f.offset+g9.size) cs.size with
     |false=>rw[a1]at ai;exact ai.elim| true=>rw[a1]at ai;refine hv ?_ ai;simp[execOp,Instr.field,run_underlying hu,yf,dq aF ab,asAgg,LN (aP _ _ mU) (bN a1)]
    ·exact ai.elim
   ·exact ai.elim
  ·exact ai.elim
 case indexAddr t x i=>
  simp only[cD]at ai;split at ai
  ·rename_i sz hs z e fD k au hi;have hu:=(aP _ _ au).slice;split at ai
   ·rename_i aJ bX n c hj ab;obtain⟨ad,j,rfl,rfl,ak,af⟩:=ai;refine hv ?_ af;simp[execOp,dq aF ab,dq aF hi,abc hu (aP _ _ hj) ak]
   ·exact ai.elim
  ·rename_i sz hs z n e fD k au hi;have hu:=(aP _ _ au).array;split at ai
   ·rename_i aJ s o' hj ab;obtain⟨j,rfl,ak,af⟩:=ai;refine done (v:=.pointer (some ⟨β s,o'+j*aJ.size,none⟩)) (x:=.ref s (o'+j*aJ.size)) ?_ rfl af;simp[execOp,zZ aF ab,dq aF hi,RZ hu (aP _ _ hj) ak,ei]
   ·rename_i aJ ad hj ab;obtain⟨j,rfl,ak,af⟩:=ai;refine hv ?_ af;simp[execOp,tT aF ab,dq aF hi,RZ hu (aP _ _ hj) ak]
   ·exact ai.elim
  ·exact ai.elim
 case index t x i=>
  simp only[cD]at ai;split at ai;·rename_i sz hs z s fD k au ab hi;have hu:=(aP _ _ au).string;obtain⟨j,rfl,ak,af⟩:=ai;refine hv ?_ af;simp only[execOp,dq aF ab,dq aF hi,Instr.index,ca,n5,bR,run_underlying hu];rw[dd (by omega:(0:Int)<=j)];simp[ak]
  ·rename_i sz hs z n e cs fD k au ab hi;have hu:=(aP _ _ au).array;split at ai
   ·rename_i aJ hj;cases a1:Nat.beq (n*aJ.size) cs.size with
    |false=>rw[a1]at ai;exact ai.elim
    |true=>
     rw[a1]at ai;obtain⟨j,rfl,ak,af⟩:=ai;have kp:=cM a1;refine hv ?_ af;have bk:j*aJ.size+aJ.size<=cs.size:=by rw[<-kp,<-Nat.succ_mul];exact rV _ ak
     simp only[execOp,dq aF ab,dq aF hi,Instr.index,ca,n5,bR,run_underlying hu];rw[dd ⟨by omega,by omega⟩];simp[(aP _ _ hj).run_sizeOf,LN (aP _ _ hj) bk]
   ·exact ai.elim
  ·exact ai.elim
 case build t parts=>
  simp only[cD]at ai;split at ai
  ·rename_i i vs hi im;have aK:=HU aF im;have vm:(parts.map λ(i,x)=>(i,a.eval x)).toList=vs:=by simpa using aK
   obtain⟨z,a1,w5⟩:=(aP _ _ hi).EE w;have Cj:z.cells=i.zero.toArray:=by rw[<-w5]
   split at ai
   ·rename_i cb nw;cases a5:Ce X.E cb with
    |false=>rw[a5]at ai;exact ai.elim
    |true=>
     rw[a5]at ai;simp only[bg]at ai;split at ai
     ·rename_i cells r0;obtain⟨sz,hs,abd,bK⟩:=i;simp only at nw;subst nw;obtain⟨fields,hu,rfl⟩:=(aP _ _ hi).struct;obtain⟨l,aw,nx⟩:=R0 aP w fields.toList a5;refine hv ?_ ai;have hm:(fields.mapM λf=>(do pure (f.offset,<-sizeOf f.type):Sem (Nat×Nat))).run X.P w=.ok l.toArray w:=by rw[RI,Sem.run_map,aw];rfl
      have z5:=fill_eq _ _ _ _ r0;have abe:(λj=>l.toArray[j]?)=places X.E (fields.toList.map λf=>(f.type,f.offset)):=by funext j;rw[<-nx j];simp
      simp only[execOp,Instr.build,ca,a1,bR,run_underlying hu,Cj,vm];rw[hm];simp only[bR,abe,z5,c5]
     ·exact ai.elim
   ·rename_i n e nw;split at ai
    ·rename_i aJ hj;split at ai
     ·rename_i cells r0;obtain⟨sz,hs,abd,bK⟩:=i;simp only at nw;subst nw;have hu:=(aP _ _ hi).array;refine hv ?_ ai;have z5:=fill_eq _ _ _ _ r0;simp only[execOp,Instr.build,ca,a1,bR,run_underlying hu,Cj,vm,(aP _ _ hj).run_sizeOf,z5,c5]
     ·exact ai.elim
    ·exact ai.elim
   ·exact ai.elim
  ·exact ai.elim
 case makeFunc fn first captured=>
  simp only[cD]at ai;split at ai
  ·rename_i cb cs U aa;have aC:=sU aF U;have ay:=sU aF aa;refine hv ?_ ai;have eb:first.map a.eval=cb.toArray:=by apply gG;simpa using aC
   have eF:captured.map a.eval=cs.toArray:=by apply gG;simpa using ay
   simp[execOp,Instr.makeFunc,eb,eF]
  ·exact ai.elim
 case slice t x lo hi mx=>
  simp only[cD]at ai;split at ai
  ·rename_i sz hs z e bX n c au ab e8;have oV:mx=none:=by simpa using e8
   subst oV;have hu:=(aP _ _ au).slice;have g1:=dq aF ab;split at ai
   ·rename_i aJ hj eS fs;have w6:lo=none:=by simpa using eS
    have z6:hi=none:=by simpa using fs
    subst w6;subst z6;refine hv ?_ ai;have aC:(if c=0 then bX else bX.map (·.add (0*aJ.size)))=bX:=by split<;>cases bX<;>simp[Addr.add]
    simp[execOp,Instr.sliceAt,Instr.slice,Instr.sliceBounds,g1,run_underlying hu,(aP _ _ hj).run_sizeOf,Addr.add]
   ·rename_i aJ fD ny hj eS fs;have w6:lo=none:=by simpa using eS
    subst w6;obtain⟨HZ,rfl,bC⟩:=sN.1 fs;obtain⟨l,aa,H0,rfl,bk,pV,af⟩:=ai;refine hv ?_ af;simp only[execOp,Instr.sliceAt,Instr.slice,Instr.sliceBounds,Instr.sliceBound,g1,ca,run_underlying hu,bR,(aP _ _ hj).run_sizeOf,c5,ly,tN,dq aF bC,n5];rw[dd ⟨by omega,by omega⟩];simp[Addr.add]
   ·rename_i aJ fD H2 hj eS fs;have z6:hi=none:=by simpa using fs
    subst z6;obtain⟨LO,rfl,bC⟩:=sN.1 eS;obtain⟨l,aa,rfl,LP,bk,pV,af⟩:=ai;simp only[tM,j1]at *;refine hv ?_ af;simp only[execOp,Instr.sliceAt,Instr.slice,Instr.sliceBounds,Instr.sliceBound,g1,ca,run_underlying hu,bR,(aP _ _ hj).run_sizeOf,c5,ly,tN,dq aF bC,n5];rw[dd ⟨by omega,by omega⟩];simp
   ·rename_i aJ fD H2 abf ny hj eS fs;obtain⟨LO,rfl,bC⟩:=sN.1 eS;obtain⟨HZ,rfl,LQ⟩:=sN.1 fs;obtain⟨l,aa,rfl,rfl,bk,pV,af⟩:=ai;refine hv ?_ af;simp only[execOp,Instr.sliceAt,Instr.slice,Instr.sliceBounds,Instr.sliceBound,g1,ca,run_underlying hu,bR,(aP _ _ hj).run_sizeOf,c5,ly,tN,dq aF bC,dq aF LQ,n5];rw[dd ⟨by omega,by omega⟩];simp only[c5,bR,mm];rw[dd ⟨by omega,by omega⟩];simp
   ·exact ai.elim
  ·rename_i sz hs z s au ab e8;have oV:mx=none:=by simpa using e8
   subst oV;have hu:=(aP _ _ au).string;have g1:=dq aF ab;split at ai
   ·rename_i eS fs;have w6:lo=none:=by simpa using eS
    have z6:hi=none:=by simpa using fs
    subst w6;subst z6;refine hv ?_ ai;have aC:s.extract 0 s.size=s:=by apply qP;simp[Cc]
    simp[execOp,Instr.sliceAt,Instr.slice,Instr.sliceBounds,g1,run_underlying hu,aC]
   ·rename_i fD ny eS fs;have w6:lo=none:=by simpa using eS
    subst w6;obtain⟨HZ,rfl,bC⟩:=sN.1 fs;obtain⟨l,aa,H0,rfl,bk,pV,af⟩:=ai;refine hv ?_ af;simp only[execOp,Instr.sliceAt,Instr.slice,Instr.sliceBounds,Instr.sliceBound,g1,ca,run_underlying hu,bR,c5,ly,tN,dq aF bC,n5];simp only[LC,j0,kO,ca,c5,bR,n5];rw[dd ⟨by omega,by omega⟩];simp
   ·rename_i fD H2 eS fs;have z6:hi=none:=by simpa using fs
    subst z6;obtain⟨LO,rfl,bC⟩:=sN.1 eS;obtain⟨l,aa,rfl,LP,bk,pV,af⟩:=ai;simp only[tM,j1]at *;refine hv ?_ af;simp only[execOp,Instr.sliceAt,Instr.slice,Instr.sliceBounds,Instr.sliceBound,g1,ca,run_underlying hu,bR,c5,ly,tN,dq aF bC,n5];simp only[LC,j0,kO,ca,c5,bR,n5];rw[dd ⟨by omega,by omega⟩];simp
   ·rename_i fD H2 abf ny eS fs;obtain⟨LO,rfl,bC⟩:=sN.1 eS;obtain⟨HZ,rfl,LQ⟩:=sN.1 fs;obtain⟨l,aa,rfl,rfl,bk,pV,af⟩:=ai;refine hv ?_ af;simp only[execOp,Instr.sliceAt,Instr.slice,Instr.sliceBounds,Instr.sliceBound,g1,ca,run_underlying hu,bR,c5,ly,tN,dq aF bC,dq aF LQ,n5];simp only[LC,j0,kO,ca,c5,bR,n5];rw[dd ⟨by omega,by omega⟩];simp only[c5,bR,mm];rw[dd ⟨by omega,by omega⟩];simp
   ·exact ai.elim
  ·rename_i sz hs z e bX n c anq qV au ab e8;obtain⟨anr,rfl,abg⟩:=sN.1 e8;have hu:=(aP _ _ au).slice;have g1:=dq aF ab;split at ai
   ·rename_i aJ fD ny hj eS fs;have w6:lo=none:=by simpa using eS
    subst w6;obtain⟨HZ,rfl,bC⟩:=sN.1 fs;obtain⟨l,m,rfl,rfl,bk,pV,af⟩:=ai;refine hv ?_ af;simp only[execOp,Instr.sliceAt,Instr.slice,Instr.sliceBounds,Instr.sliceBound,g1,ca,run_underlying hu,bR,(aP _ _ hj).run_sizeOf,c5,ly,tN,dq aF bC,dq aF abg,n5];rw[dd ⟨by omega,by omega⟩];simp only[c5,bR,mm];rw[dd ⟨by omega,by omega⟩];simp only[c5,bR,mm]
   ·exact Or.inl ai
  ·exact Or.inl ai
 case extract x i=>
  simp only[cD]at ai;split at ai
  ·rename_i vs ab;split at ai
   ·rename_i v hi;refine hv ?_ ai;have dw:vs[i]?=some v:=by simpa using hi
    simp[execOp,Instr.extract,dq aF ab,dw]
   ·exact ai.elim
  ·exact ai.elim
 case convert s d x=>
  simp only[cD]at ai;split at ai;·rename_i ans sz hs z k c7 n ap au ab;have hu:=(aP _ _ au).int;obtain⟨ds,fu,_⟩:=(aP _ _ ap).fk;obtain⟨r,ao,af⟩:=ai;refine hv ?_ af;simp only[execOp,convert,dq aF ab,ca,run_underlying fu,run_underlying hu,bR];simp only[Conv.intToInt,ao,c5,bR]
  ·exact Or.inl ai
 case call c=>
  obtain⟨callee,args,argTypes⟩:=c;cases callee with
  |value f=>exact .inl ai| invoke r m=>exact .inl ai
  |builtin b=>
   cases b
   case len=>
    simp only[cD]at ai;split at ai
    ·rename_i t v U aa;have aC:=sU aF aa;have eb:args.map a.eval=#[v]:=by apply gG;simpa using aC
     have au:argTypes=#[t]:=by apply gG;simpa using U
     subst au;split at ai;·rename_i sz hs z e ad n c bS;have hu:=(aP _ _ bS).slice;refine hv ?_ ai;simp[execOp,resolve,invoke,builtin,Builtin.len_,eb,run_underlying hu,goInt]
     ·rename_i sz hs z s bS;have hu:=(aP _ _ bS).string;refine hv ?_ ai;simp[execOp,resolve,invoke,builtin,Builtin.len_,eb,run_underlying hu,goInt]
     ·rename_i sz hs z n e bS;have hu:=(aP _ _ bS).array;refine hv ?_ ai;simp[execOp,resolve,invoke,builtin,Builtin.len_,eb,run_underlying hu,goInt]
     ·exact Or.inl ai
    ·exact Or.inl ai
   case cap=>
    simp only[cD]at ai;split at ai
    ·rename_i t v U aa;have aC:=sU aF aa;have eb:args.map a.eval=#[v]:=by apply gG;simpa using aC
     have au:argTypes=#[t]:=by apply gG;simpa using U
     subst au;split at ai;·rename_i sz hs z e ad n c bS;have hu:=(aP _ _ bS).slice;refine hv ?_ ai;simp[execOp,resolve,invoke,builtin,Builtin.cap_,eb,run_underlying hu,goInt]
     ·exact Or.inl ai
    ·exact Or.inl ai
   case max=>
    simp only[cD]at ai;split at ai
    ·rename_i k p c7 q aa;have aC:=sU aF aa;have eb:args.map a.eval=#[.int k p,.int c7 q]:=by apply gG;simpa using aC
     refine hv ?_ ai;have hm:(if q > p then q else p)=max p q:=by split<;>omega
     simp only[execOp,resolve,invoke,builtin,Builtin.max_,Builtin.max2,eb,ca,c5,bR,List.foldlM_cons,List.foldlM_nil,hm]
    ·exact Or.inl ai
   case min=>
    simp only[cD]at ai;split at ai
    ·rename_i k p c7 q aa;have aC:=sU aF aa;have eb:args.map a.eval=#[.int k p,.int c7 q]:=by apply gG;simpa using aC
     refine hv ?_ ai;have hm:(if q<p then q else p)=min p q:=by split<;>omega
     simp only[execOp,resolve,invoke,builtin,Builtin.min_,Builtin.min2,eb,ca,c5,bR,List.foldlM_cons,List.foldlM_nil,hm]
    ·exact Or.inl ai
   case unsafeSliceData=>
    simp only[cD]at ai;split at ai
    ·rename_i n c aa;have aC:=sU aF aa;have eb:args.map a.eval=#[.slice none n c]:=by apply gG;simpa using aC
     refine hv ?_ ai;simp only[execOp,resolve,invoke,builtin,eb,ca,c5,bR,Lib.run_unsafeSliceData_nil]
    ·rename_i ad n c aa;obtain⟨ae,ai⟩:=ai;have aC:=sU aF aa;have eb:args.map a.eval=#[.slice (some ad) n c]:=by apply gG;simpa using aC
     refine hv ?_ ai;simp only[execOp,resolve,invoke,builtin,eb,ca,c5,bR,Lib.run_unsafeSliceData_row _ _ _ _ _ _ (show c≠0 by omega)]
    ·exact Or.inl ai
   all_goals exact .inl ai
 all_goals exact .inl ai
def Ck(aP:cY X.P X.E)(ah:∀ d,o.dst=some d->d<X.n)(h:Rel X a w F C I M)(ai:gK X o F C I M K):o.wpIn (gR X) 0 X.P a w (Sat X K) Q:=by
 have a8:=h;obtain⟨β,h⟩:=h;obtain⟨dst,op,ty,pos,after,guard⟩:=o;have other:bp X ⟨dst,op,ty,pos,after,guard⟩ F C I M K->(⟨dst,op,ty,pos,after,guard⟩:Oper).wpIn (gR X) 0 X.P a w (Sat X K) Q:=λ⟨h⟩=>h a w Q a8;have aF:=h.aj;have quiet:cD X op (dk F) C I M (λx=>K (Go.V.put dst x F) C I M) (bp X ⟨dst,op,ty,pos,after,guard⟩ F C I M K)->(∀ c,op≠.defer c)->(⟨dst,op,ty,pos,after,guard⟩:Oper).wpIn (gR X) 0 X.P a w (Sat X K) Q:=λaz cq=>by
  rcases R1 aP h op ty dst pos after guard az with U | ⟨v,x,ao,ab,af⟩;·exact other U
  ·exact RR (o:=⟨dst,op,ty,pos,after,guard⟩) h ah cq ao ab af
 cases op
 case box t x=>
  simp only[gK]at ai;split at ai
  ·rename_i d v ab;have g1:=dq aF ab;have ao:(execOp a.eval ⟨some d,.box t x,ty,pos,after,guard⟩).run X.P w=.ok (.value (.pointer (some ⟨w.heap.size,0,none⟩))) (w.alloc (.cells v.cells t (0,0))):=by simp[execOp,Instr.box,newVar,newRow,g1,zT]
   have fv:d<X.n:=ah d rfl;cases j4:X.gJ.contains d with
   |true=>rw[j4]at ai;obtain⟨ai⟩:=ai;have af:=ai w.heap.size h.holds.rZ h.holds.qT;have U:=(h.nu (.cells v.cells t (0,0))).LK d;exact i' (by simp) ao ⟨_,_,_,_,⟨β,cH.put U (dst:=some d) (x:=.val (.pointer (some ⟨w.heap.size,0,none⟩))) (by simpa using fv) rfl⟩,af⟩
   |false=>rw[j4]at ai;obtain⟨n4,U⟩:=h.RM d fv v.cells.toList t;exact i' (by simp) ao ⟨_,_,_,_,⟨n4,by simpa using U⟩,ai⟩
  ·exact ai.elim
 case alloc t=>
  simp only[gK]at ai;split at ai
  ·rename_i d i hi;obtain⟨z,a1,w5⟩:=(aP _ _ hi).EE w;have Cj:z.cells=i.zero.toArray:=by rw[<-w5]
   have ao:(execOp a.eval ⟨some d,.alloc t,ty,pos,after,guard⟩).run X.P w=.ok (.value (.pointer (some ⟨w.heap.size,0,none⟩))) (w.alloc (.cells i.zero.toArray t (0,0))):=by simp[execOp,Instr.alloc,newVar,newRow,a1,Cj,zT]
   have fv:d<X.n:=ah d rfl;cases j4:X.gJ.contains d with
   |true=>rw[j4]at ai;obtain⟨ai⟩:=ai;have af:=ai w.heap.size h.holds.rZ h.holds.qT;have U:=(h.nu (.cells i.zero.toArray t (0,0))).LK d;exact i' (by simp) ao ⟨_,_,_,_,⟨β,cH.put U (dst:=some d) (x:=.val (.pointer (some ⟨w.heap.size,0,none⟩))) (by simpa using fv) rfl⟩,af⟩
   |false=>rw[j4]at ai;obtain⟨n4,U⟩:=h.RM d fv i.zero t;exact i' (by simp) ao ⟨_,_,_,_,⟨n4,U⟩,ai⟩
  ·exact ai.elim
 case store t x y=>
  simp only[gK]at ai;split at ai
  ·rename_i i v hi aG;have yg:=dq aF aG;split at ai
   ·rename_i s off ab;have g1:=zZ aF ab;split at ai
    ·rename_i cs ap;cases bk:(Nat.ble (off+i.size) cs.length&&(Nat.beq v.cells.size i.size&&gI v.cells.toList))with
     |false=>rw[bk]at ai;exact ai.elim| true=>rw[bk]at ai;simp only[cA]at bk;obtain⟨bk,cr,h3⟩:=bk;have z4:=bN bk;have z7:=cM cr;obtain⟨T,bS⟩:=(h.cp s cs ap).av;have:=HY (aP _ _ hi) (a:=⟨β s,off,none⟩) (v:=v) rfl bS z7 (by simp;omega) h3;refine Cg (by simp) (w':=w.setRow (β s) (bO cs off v.cells.toList).toArray) ?_ ⟨_,_,_,_,⟨β,h.RP ap (bO cs off v.cells.toList)⟩,ai⟩;simp only[execOp,Instr.storeAt,g1,yg,Instr.sureAddr,ca,c5,bR];simp only[Lz]at this;rw[this];rfl
    ·exact ai.elim
   ·rename_i ad ab;have g1:=tT aF ab;cases cr:Nat.beq v.cells.size i.size with
    |false=>rw[cr]at ai;exact ai.elim| true=>rw[cr]at ai;obtain⟨a9,post,cs,T,bb,bZ,ag,h3,af⟩:=ai;have z7:=cM cr;have aB:w.heap[ad.block]?=some (.cells cs T (0,0)):=h.holds.m ⟨ad.block,.cells cs T (0,0)⟩ (by rw[bb];simp);have:=HY (aP _ _ hi) (v:=v) bZ aB z7 ag h3;refine Cg (by simp) (w':=w.setRow ad.block (bO cs.toList ad.off v.cells.toList).toArray) ?_ ⟨_,_,_,_,⟨β,h.yb bb⟩,af⟩;simp only[execOp,Instr.storeAt,g1,yg,Instr.sureAddr,ca,c5,bR];rw[this];rfl
   ·exact ai.elim
  ·exact ai.elim
 case buildSlice t len parts=>
  simp only[gK]at ai;split at ai
  ·rename_i sz hs z e vs au im;have hu:=(aP _ _ au).slice;have aK:=HU aF im;have vm:(parts.map λ(i,x)=>(i,a.eval x)).toList=vs:=by simpa using aK
   split at ai
   ·rename_i aJ hj;cases a1:(Nat.ble (len*aJ.size) 16777216&&Nat.blt 0 (len*aJ.size))with
    |false=>
     rw[a1]at ai;simp only[bd]at ai;split at ai
     ·rename_i abh;obtain⟨ai⟩:=ai;have af:=ai w.heap.size h.holds.rZ h.holds.qT;refine i' (by simp) (v:=.slice (some ⟨w.heap.size,0,none⟩) 0 0) (w':=w.alloc (.cells #[] e (0,0))) ?_ ⟨_,_,_,_,⟨β,(h.nu _).put (x:=.val (.slice (some ⟨w.heap.size,0,none⟩) 0 0)) ah rfl⟩,af⟩;simp only[execOp,Instr.buildSlice,ca,bR,run_underlying hu,(aP _ _ hj).run_sizeOf,vm];have cd:∀ f:Nat->Value,Array.map f (Array.range 0)=#[]:=λf=>by apply Array.ext<;>simp
      simp[newRow,zT,Instr.fill,cd]
     ·exact ai.elim
    |true=>
     rw[a1]at ai;simp only[bg]at ai;rw[cA]at a1;have bk:=bN a1.1;have kP:0<len*aJ.size:=by simpa using a1.2
     split at ai;·rename_i cells r0;obtain⟨sV,z8,w5⟩:=(aP _ _ hj).EE w;obtain⟨ai⟩:=ai;have af:=ai w.heap.size h.holds.rZ h.holds.qT;refine i' (by simp) (v:=.slice (some ⟨w.heap.size,0,none⟩) len len) (w':=w.alloc (.cells cells.toArray e (0,0))) ?_ ⟨_,_,_,_,⟨β,(h.nu _).put (x:=.val (.slice (some ⟨w.heap.size,0,none⟩) len len)) ah rfl⟩,af⟩;have z5:=fill_eq _ _ _ _ r0;simp only[execOp,Instr.buildSlice,ca,bR,run_underlying hu,(aP _ _ hj).run_sizeOf];rw[cG (by omega)];simp only[cG (show ¬ len*aJ.size=0 by omega),ca,z8,bR,c5,vm,RX sV aJ.zero w5,z5];simp[newRow,zT]
     ·exact ai.elim
   ·exact ai.elim
  ·exact ai.elim
 case makeSlice t l c=>
  simp only[gK]at ai;split at ai
  ·rename_i sz hs z e EH dg hk c' au aw aN;have hu:=(aP _ _ au).slice;split at ai
   ·rename_i aJ hj;obtain⟨n,m,rfl,rfl,vn,ag,hm,⟨ai⟩⟩:=ai;have af:=ai w.heap.size h.holds.rZ h.holds.qT;obtain⟨inf,sV,eA,gw,gW,iG,tV⟩:=(aP _ _ hj).inf;refine i' (by simp) (v:=.slice (some ⟨w.heap.size,0,none⟩) n m) (w':=w.alloc (.cells (rowOf aJ.zero (m*aJ.size)).toArray e (0,0))) ?_ ⟨_,_,_,_,⟨β,(h.nu _).put (x:=.val (.slice (some ⟨w.heap.size,0,none⟩) n m)) ah rfl⟩,af⟩;have kq:((aJ.bytes:Nat):Int)*(m:Int)<=281474976710656:=by
     have aa:((aJ.bytes*m:Nat):Int)<=281474976710656:=by omega
     simpa using aa
    have:=run_make (P:=X.P) w t e inf sV hu eA iG EH hk (n:Int) (m:Int) (by omega) (by omega) (by rw[gW];exact kq) (by omega);simp only[execOp,dq aF aw,dq aF aN,ca,this,bR,c5,mm];have aC:madeCells sV.cells (m*inf.size)=(rowOf aJ.zero (m*aJ.size)).toArray:=by rw[gw,<-tV];simp[Cf]
    rw[aC]
   ·exact ai.elim
  ·exact ai.elim
 case call c=>
  obtain⟨callee,args,argTypes⟩:=c;cases callee with
  |value f=>
   simp only[gK]at ai;split at ai
   ·rename_i g first cap vs yh im
    have aC:=sU aF im;have eb:args.map a.eval=vs.toArray:=by apply gG;simpa using aC
    have fw:∀ {n:Next} {w':World},(callFunc g (first.toList++vs++cap.toList).toArray).run X.P w=.ok n w'->(execOp a.eval ⟨dst,.call { callee:=.value f,args,argTypes },ty,pos,after,guard⟩).run X.P w=.ok n w':=λao=>by simp only[execOp,resolve,dq aF yh,Deferred.ofValue,ca,c5,bR,eb,invoke];rw[show first++vs.toArray++cap=(first.toList++vs++cap.toList).toArray from by apply gG;simp];exact ao
    rcases h.call ai with⟨pU,z9⟩ | ⟨v,w',I',M',ao,af,gh⟩;·refine RW (by simp) (f:=g) (args:=(first.toList++vs++cap.toList).toArray) (fw (pU _ _)) ?_;refine z9.mono ?_;rintro e w'⟨v,I',M',rfl,af,ao⟩;exact⟨v,rfl,_,_,_,_,⟨β,ao.put (x:=.val v) ah rfl⟩,af⟩
    ·exact i' (by simp) (fw ao) ⟨_,_,_,_,⟨β,gh.put (x:=.val v) ah rfl⟩,af⟩
   ·exact other ai
  |invoke r m=>exact quiet ai (by simp)
  |builtin b=>
   cases b
   all_goals exact quiet ai (by simp)
 case defer c=>exact other ai
 all_goals exact quiet ai (by simp)
end
section
variable{X:cW}{β:Nat->Nat}{a:Act}{w:World}{F:Fr}{C:dM}{I:aH}{M:List aE}{o:Oper}{Q:Exit->Act->World->Prop}{K:gg}
def Cl{c:Bool}(h:a.tmps.getD d undef=.bool c):a.tmps[d]?=some (.bool c):=by
 rw[oS]at h;cases ah:a.tmps[d]? with
 |none=>rw[ah]at h;cases h| some v=>rw[ah]at h;simp at h;rw[h]
def EI{j:Nat}(ah:(ops[j]?).bind (·.dst)=some d)(tmps:Array Value):yielded ops tmps j=match tmps[d]? with
  |some (.bool b)=>some b| _=>none:=by
 unfold yielded;rw[ah];rfl
def cH.refine(h:cH X β a w F C I M){en:Fr}(c6:∀ t,eO β (en t) (a.tmps.getD t undef)):cH X β a w en C I M:={ h with aj:=c6 }
def R2(aP:cY X.P X.E)(ops:Array Oper)(n8:∀ a w,Sat X K a w->Q .normal a w):∀ (l:List Oper) (k:Nat),(∀ j,l[j]?=ops[k+j]?)->(∀ o∈l,∀ d,o.dst=some d->d<X.n) -> ∀ {F C I M a w},Rel X a w F C I M->tS X ops.toList l F C I M K->wpOpsIn (gR X) 0 X.P ops Q (List.range' k l.length) a w
 |[],k,_,_,F,C,I,M,a,w,a8,ai=>n8 _ _ ⟨F,C,I,M,a8,ai⟩
 |o::a6,k,aw,ah,F,C,I,M,a,w,a8,ai=>by
  have aq:ops[k]?=some o:=by simpa using(aw 0).symm
  have pW:∀ j,a6[j]?=ops[k+1+j]?:=λj=>by have:=aw (j+1);simpa[pR,HP 1 j]using this
  have hI:∀ o∈a6,∀ d,o.dst=some d->d<X.n:=λo ar=>ah o (by simp[ar]);have yi:=ah o (by simp);have bc:=@R2 aP ops n8 a6 (k+1) pW hI;simp only[dL,List.range'_succ,wpOpsIn,aq];have run:∀ {F C I M},Rel X a w F C I M->gK X o F C I M (λF C I M=>tS X ops.toList a6 F C I M K)->o.wpIn (gR X) 0 X.P a w (wpOpsIn (gR X) 0 X.P ops Q (List.range' (k+1) a6.length)) Q:=λa8 ai=>
   sO (λbX w' ⟨en,C',I',M',ao,af⟩=>bc ao af) (Ck aP yi a8 ai)
  have skip:∀ {F C I M},Rel X a w F C I M->tS X ops.toList a6 (put o.dst (.val undef) F) C I M K->(∀ f,o.about X.P w a.eval=some f->(gR X).fn f)/\wpOpsIn (gR X) 0 X.P ops Q (List.range' (k+1) a6.length) (a.put o.dst undef) w:=λ⟨β,ao⟩ ai=>
   ⟨λ_ _=>trivial,bc ⟨β,ao.put (x:=.val undef) yi rfl⟩ ai⟩
  unfold tS at ai;cases aB:o.guard with
  |none=>
   rw[aB]at ai;have hw:Region.wanted o (yielded ops a.tmps)=true:=by simp[Region.wanted,aB]
   rw[dd hw];exact run a8 ai
  |some EJ=>
   obtain⟨j,b⟩:=EJ;rw[aB]at ai;simp only at ai;cases ak:(ops.toList[j]?).bind (·.dst)with
   |none=>rw[ak]at ai;exact ai.elim
   |some d=>
    rw[ak]at ai;simp only at ai;have gx:(ops[j]?).bind (·.dst)=some d:=by simpa using ak
    have aG:=EI gx a.tmps;obtain⟨β,ao⟩:=a8;have c6:=ao.aj d;split at ai
    ·rename_i c aN;rw[aN]at c6;have LR:=Cl c6;have EK:Region.wanted o (yielded ops a.tmps)=(c == b):=by simp[Region.wanted,aB,aG,LR]
     rw[EK];cases iH:(c == b)with
     |true=>rw[iH]at ai;simp only[sQ];exact run ⟨β,ao⟩ ai| false=>rw[iH]at ai;simp only[j0,kO];exact skip ⟨β,ao⟩ ai
    ·rename_i c aN;rw[aN]at c6;have LR:=Cl c6;have EK:Region.wanted o (yielded ops a.tmps)=(c == b):=by simp[Region.wanted,aB,aG,LR]
     rw[EK];obtain⟨w7,vo⟩:=ai;have set:∀ x:Bool,c=x->Rel X a w (gH F d (.lit x)) C I M:=λx ab=>⟨β,ao.refine λt=>by
      unfold gH;by_cases e:t=d;·subst e;simp only[qS,bg];rw[<-ab];exact c6
      ·simp only[gS e,bd];exact ao.aj t⟩
     by_cases iH:c=b
     ·have:(c == b)=true:=by simp[iH]
      rw[this];simp only[sQ];exact run (set b iH) (w7 iH)
     ·have aa:c=!b:=by cases c<;>cases b<;>simp_all
      have:(c == b)=false:=by simp[iH]
      rw[this];simp only[j0,kO];exact skip (set _ aa) (vo aa)
    ·rename_i vs aN;rw[aN]at c6;have z':yielded ops a.tmps j=none:=by
      rw[aG];cases kr:a.tmps[d]? with
      |none=>rfl| some v=>simp only[eO,oS,kr,j1]at c6;subst c6;rfl
     have EK:Region.wanted o (yielded ops a.tmps)=false:=by simp[Region.wanted,aB,z']
     rw[EK];simp only[j0,kO];exact skip ⟨β,ao⟩ ai
    ·exact ai.elim
end
inductive w8:dD->dD->Prop
 |refl{x}:w8 x x| lit {b}:w8 (.lit b) (.val (.bool b))| mT {x}:w8 x .mT
def sW:List (Nat×dD)->Fr
 |[],_=>.mT|(t,x)::l,s=>bif Nat.beq s t then x else sW l s
def sX:List (Nat×List Value)->dM
 |[],_=>none|(t,x)::l,s=>bif Nat.beq s t then some x else sX l s
inductive kQ(F:Fr):List (Nat×dD)->Prop
 |nil:kQ F []| cons {t x l} (h:w8 (F t) x) (k:kQ F l):kQ F ((t,x)::l)
inductive yj(C:dM):List (Nat×List Value)->Prop
 |nil:yj C []| cons {t x l} (h:C t=some x) (k:yj C l):yj C ((t,x)::l)
def abi{β:Nat->Nat}{x y:dD}(h:w8 x y)(ab:eO β x v):eO β y v:=by
 cases h with
 |refl=>exact ab| lit=>exact ab| mT=>trivial
def kQ.ok{β:Nat->Nat}{F:Fr}(h:∀ t,eO β (F t) (a.tmps.getD t undef)){l:List (Nat×dD)}(aw:kQ F l)(t:Nat):eO β (sW l t) (a.tmps.getD t undef):=by
 induction aw with
 |nil=>trivial
 | @cons e9 x l ab k bc=>
  unfold sW;by_cases e:t=e9;·subst e;simp only[qS,bg];exact abi ab (h t)
  ·simp only[gS e,bd];exact bc
def yj.ok{C:dM}{l:List (Nat×List Value)}(aw:yj C l){s:Nat}{cs:List Value}(h:sX l s=some cs):C s=some cs:=by
 induction aw with
 |nil=>cases h
 | @cons e9 x l ab k bc=>
  unfold sX at h;by_cases e:s=e9;·subst e;simp only[qS,bg]at h;rw[ab,h]
  ·simp only[gS e,bd]at h;exact bc h
def cH.a0{X:cW}{β:Nat->Nat}{F:Fr}{C:dM}{I:aH}{M:List aE}(h:cH X β a w F C I M){cc:List (Nat×dD)}{cl:List (Nat×List Value)}(c6:kQ F cc)(eu:yj C cl):cH X β a w (sW cc) (sX cl) I M:=
 { h with
  aj:=c6.ok h.aj
  cp:=λs cs ap=>h.cp s cs (eu.ok ap)
  inj:=λs cB U aa=>by
   obtain⟨cT,aC⟩:=HM.1 U;obtain⟨c3,ay⟩:=HM.1 aa;exact h.inj s cB (by rw[eu.ok aC];simp) (by rw[eu.ok ay];simp) }
inductive sY where
 |normal| exit (id:Nat)| goto (l:Nat)| ret
abbrev lA:=sY->gg
def Aa(N:gg)(K:lA):lA
 | .normal=>N| .exit id=>K (.exit id)| .goto l=>K (.goto l)| .ret=>K .ret
def R3(id:Nat)(K:lA):lA
 | .normal=>K .normal| .exit j=>bif Nat.beq j id then K .normal else K (.exit j)| .goto l=>K (.goto l)| .ret=>K .ret
def mu(X:cW)(K:lA):Exit->Act->World->Prop
 | .normal,a,w=>Sat X (K .normal) a w| .exit id,a,w=>Sat X (K (.exit id)) a w| .goto l,a,w=>Sat X (K (.goto l)) a w| .ret,a,w=>Sat X (K .ret) a w| .panic _,_,_=>False| .outgrown,_,_=>False
abbrev Body:=Fr->dM->aH->List aE->lA->Prop
structure Ab where
 cc:List (Nat×dD)
 cl:List (Nat×List Value):=[]
 ck:aH
 de:List aE:=[]
inductive sZ{ι:Type}(b6:List Nat)(aA:ι->Ab)(p:ι->Prop)(F:Fr)(C:dM)(I:aH)(M:List aE):Prop
 |mk(j:ι)(aK:p j)(hw:h1 b6 I M (aA j).ck (aA j).de)(c6:kQ F (aA j).cc)(eu:yj C (aA j).cl)
def LS(body:Body)(K:lA):Nat->gg
 |0=>λ_ _ _ _=>False
 |n+1=>λF C I M=>body F C I M (Aa (LS body K n) K)
inductive cx(b6:List Nat)(body:Body)(F:Fr)(C:dM)(I:aH)(M:List aE)(K:lA):Prop
 |inv {ι:Type} (aA:ι->Ab) (inv:ι->Prop) (μ:ι->Nat) (start:sZ b6 aA inv F C I M) (round:∀ i,inv i->body (sW (aA i).cc) (sX (aA i).cl) (aA i).ck (aA i).de (Aa (sZ b6 aA λj=>inv j/\μ j<μ i) K))| abj (n:Nat) (h:LS body K n F C I M)| Ac {ι:Type} (aA:ι->Ab) (inv:ι->Prop) (μ:ι->Nat) (start:sR I M->sZ b6 aA inv F C I M) (round:∀ i,inv i->body (sW (aA i).cc) (sX (aA i).cl) (aA i).ck (aA i).de (Aa (λF C I M=>sR I M->sZ b6 aA (λj=>inv j/\μ j<μ i) F C I M) K))
inductive cU(X:cW)(c:Code)(F:Fr)(C:dM)(I:aH)(M:List aE)(K:lA):Prop
 |mk(h:∀ a w,Rel X a w F C I M->c.wpIn (gR X) 0 X.P (mu X K) a w)
inductive abk(b6:List Nat)(F:Fr)(C:dM)(I:aH)(M:List aE)(K:gg):Prop
 |go(h:K F C I M)| s0 (l:Ab) (hw:h1 b6 I M l.ck l.de) (c6:kQ F l.cc) (eu:yj C l.cl) (h:K (sW l.cc) (sX l.cl) l.ck l.de)
def V(X:cW):Code->Fr->dM->aH->List aE->lA->Prop
 | .skip,F,C,I,M,K=>K .normal F C I M| .label l,F,C,I,M,K=>bif Nat.ble 2 l then abk X.b6 F C I M (K .normal)else K .normal F C I M| .ret,F,C,I,M,K=>K .ret F C I M| .exit id,F,C,I,M,K=>K (.exit id) F C I M| .goto l,F,C,I,M,K=>K (.goto l) F C I M| .seq x y,F,C,I,M,K=>V X x F C I M (Aa (λF C I M=>V X y F C I M K) K)| .block id c,F,C,I,M,K=>V X c F C I M (R3 id K)
 | .cond c x y,F,C,I,M,K=>
  match dk F c with
  | .lit b=>bif b then V X x F C I M K else V X y F C I M K| .val (.bool b)=>aI b (V X x F C I M K) (V X y F C I M K)| _=>False
 | .loop c,F,C,I,M,K=>cx X.b6 (V X c) F C I M K| .region _ ops false,F,C,I,M,K=>tS X ops.toList ops.toList F C I M (K .normal)| .region id ops true,F,C,I,M,K=>cU X (.region id ops true) F C I M K| .rangeFunc f ps fm body,F,C,I,M,K=>cU X (.rangeFunc f ps fm body) F C I M K| .scope c,F,C,I,M,K=>cU X (.scope c) F C I M K| .refuse _,_,_,_,_,_=>False
def Ad(n:Nat)(ops:Array Oper):Bool:=ops.toList.all λo=>match o.dst with
 |some d=>Nat.blt d n| none=>true
def codeOk(n:Nat):Code->Bool
 | .seq x y=>codeOk n x&&codeOk n y| .block _ c=>codeOk n c| .cond _ x y=>codeOk n x&&codeOk n y| .loop c=>codeOk n c| .region _ ops _=>Ad n ops| _=>true
def H3(h:Ad n ops=true):∀ o∈ops.toList,∀ d,o.dst=some d->d<n:=by intro o ar d ah;have:=g0.1 h o ar;rw[ah]at this;simpa using this
def mu.then{X:cW}{N:gg}{K:lA}(an:∀ a w,Sat X N a w->next a w):∀ e a w,mu X (Aa N K) e a w->Exit.then next (mu X K) e a w:=by
 intro e a w h;cases e<;>first | exact an _ _ h | exact h
def H4{r1:Fence}{Q:Exit->Act->World->Prop}(J:Nat->Act->World->Prop)(abl:J m a w)
  (round:∀ m a w,J m a w->c.wpIn r1 n P (Exit.then (λbX w'=>∃ m',m'<m/\J m' bX w') Q) a w):(Code.loop c).wpIn r1 n P Q a w:=by
 intro b k cs kR ag ao;have key:∀ j a w,J j a w->∃ e bX w',Q e bX w'/\ArrivesIn (Machine.fenced P r1) P (lone (b.atR a (.code c::.inLoop c::k)) cs w) b k cs e bX w':=by
  intro j
  induction j using Nat.strongRecOn with
  |_ j bc=>
   intro a w bx;obtain⟨e,jH,jI,az,iI⟩:=round j a w bx b (.inLoop c::k) cs kR ag ao;cases e with
   |normal=>obtain⟨m',aO,abm⟩:=az;obtain⟨EL,EM,EN,EO,EP⟩:=bc m' aO jH jI abm;exact⟨EL,EM,EN,EO,.of_steps (StepsIn.trans iI (.one (fenced_calm ag ao rfl) stepR_inLoop)) EP⟩
   |exit id=>exact⟨_,jH,jI,az,.pass (x:=.inLoop c) rfl (λ_ _=>.inl (by simp)) iI⟩| goto l=>exact⟨_,jH,jI,az,.pass (x:=.inLoop c) rfl (λ_ _=>.inl (by simp)) iI⟩| ret=>exact⟨_,jH,jI,az,.pass (x:=.inLoop c) rfl (λ_ _=>.inl (by simp)) iI⟩| panic s3=>exact⟨_,jH,jI,az,.pass (x:=.inLoop c) rfl (λ_ _=>.inl (by simp)) iI⟩| outgrown=>exact⟨_,jH,jI,az,.pass (x:=.inLoop c) rfl (λ_ _=>.inl (by simp)) iI⟩
 obtain⟨e,bX,w',az,iI⟩:=key _ a w abl;exact⟨e,bX,w',az,.of_steps (.one (fenced_calm ag ao rfl) stepR_loop) iI⟩
def qW{X:cW}(aP:cY X.P X.E):∀ (c:Code) {F C I M K a w},codeOk X.n c=true->Rel X a w F C I M->V X c F C I M K->c.wpIn (gR X) 0 X.P (mu X K) a w
 | .skip,F,C,I,M,K,a,w,_,a8,ai=>wpIn_skip ⟨F,C,I,M,a8,ai⟩
 | .label l,F,C,I,M,K,a,w,_,a8,ai=>by
  refine wpIn_label ?_;simp only[V]at ai;cases aw:Nat.ble 2 l with
  |false=>rw[aw]at ai;exact⟨F,C,I,M,a8,ai⟩
  |true=>
   rw[aw]at ai;simp only[bg]at ai;cases ai with
   |go h=>exact⟨F,C,I,M,a8,h⟩| s0 l hw c6 eu h=>obtain⟨β,ao⟩:=a8;exact⟨_,_,_,_,⟨β,(ao.a0 c6 eu).ir hw⟩,h⟩
 | .ret,F,C,I,M,K,a,w,_,a8,ai=>wpIn_ret ⟨F,C,I,M,a8,ai⟩| .exit id,F,C,I,M,K,a,w,_,a8,ai=>wpIn_exit ⟨F,C,I,M,a8,ai⟩| .goto l,F,C,I,M,K,a,w,_,a8,ai=>wpIn_goto ⟨F,C,I,M,a8,ai⟩| .seq x y,F,C,I,M,K,a,w,a5,a8,ai=>by simp only[codeOk,cA]at a5;refine wpIn_seq (wpIn_mono (qW aP x a5.1 a8 ai) (mu.then ?_));rintro a w⟨en,C',I',M',ao,af⟩;exact qW aP y a5.2 ao af
 | .block id c,F,C,I,M,K,a,w,a5,a8,ai=>by
  refine wpIn_block (wpIn_mono (qW aP c a5 a8 ai) ?_);intro e a w h;cases e with
  |exit j=>
   simp only[mu,R3]at h;simp only[Exit.inBlock];by_cases e:j=id;·subst e;simp only[qS,bg]at h;rw[dd rfl];exact h
   ·simp only[gS e,bd]at h;rw[cG e];exact h
  |_=>exact h
 | .cond c x y,F,C,I,M,K,a,w,a5,a8,ai=>by
  simp only[codeOk,cA]at a5;obtain⟨β,ao⟩:=a8;simp only[V]at ai;split at ai
  ·rename_i b ag;have aN:=LG ao.aj ag;refine wpIn_cond aN ?_;cases b
   ·exact qW aP y a5.2 ⟨β,ao⟩ ai
   ·exact qW aP x a5.1 ⟨β,ao⟩ ai
  ·rename_i b ag;have aN:=tT ao.aj ag;refine wpIn_cond aN ?_;obtain⟨U,aa⟩:=ai;cases b
   ·exact qW aP y a5.2 ⟨β,ao⟩ (aa rfl)
   ·exact qW aP x a5.1 ⟨β,ao⟩ (U rfl)
  ·exact ai.elim
 | .loop c,F,C,I,M,K,a,w,a5,a8,ai=>by
  have bc:=@qW X aP c;simp only[V]at ai;have hinv:∀ {ι:Type} (aA:ι->Ab) (inv:ι->Prop) (μ:ι->Nat) (start:sR I M->sZ X.b6 aA inv F C I M)
    (round:∀ i,inv i->V X c (sW (aA i).cc) (sX (aA i).cl) (aA i).ck (aA i).de (Aa (λF C I M=>sR I M->sZ X.b6 aA (λj=>inv j/\μ j<μ i) F C I M) K)),(Code.loop c).wpIn (gR X) 0 X.P (mu X K) a w:=by
   intro ι aA inv μ start round;let J (m:Nat) (a:Act) (w:World):Prop:=∃ i,inv i/\μ i=m/\Rel X a w (sW (aA i).cc) (sX (aA i).cl) (aA i).ck (aA i).de
   have yk:∀ {p:ι->Prop} {a w},(∀ i,p i->inv i)->Sat X (λF C I M=>sR I M->sZ X.b6 aA p F C I M) a w->∃ i,p i/\J (μ i) a w:=by rintro p a w aK⟨F,C,I,M,⟨β,ao⟩,gv⟩;obtain⟨j,tW,hw,c6,eu⟩:=gv ⟨ao.holds.d,ao.holds.cn⟩;exact⟨j,tW,j,aK j tW,rfl,β,(ao.a0 c6 eu).ir hw⟩
   obtain⟨i0,_,H5⟩:=yk (λ_ h=>h) ⟨F,C,I,M,a8,start⟩;refine H4 J H5 ?_;rintro m a w⟨i,hi,rfl,ao⟩;refine wpIn_mono (bc a5 ao (round i hi)) ?_;intro e a w h;cases e with
   |normal=>obtain⟨j,⟨ak,aO⟩,cm⟩:=yk (λ_ h=>h.1) h;exact⟨_,aO,cm⟩
   |_=>exact h
  cases ai with
  | @inv ι aA inv μ start round=>
   let J (m:Nat) (a:Act) (w:World):Prop:=∃ i,inv i/\μ i=m/\Rel X a w (sW (aA i).cc) (sX (aA i).cl) (aA i).ck (aA i).de
   have yk:∀ {p:ι->Prop} {a w},(∀ i,p i->inv i)->Sat X (sZ X.b6 aA p) a w->∃ i,p i/\J (μ i) a w:=by rintro p a w aK⟨F,C,I,M,⟨β,ao⟩,⟨j,tW,hw,c6,eu⟩⟩;exact⟨j,tW,j,aK j tW,rfl,β,(ao.a0 c6 eu).ir hw⟩
   obtain⟨i0,_,H5⟩:=yk (λ_ h=>h) ⟨F,C,I,M,a8,start⟩;refine H4 J H5 ?_;rintro m a w⟨i,hi,rfl,ao⟩;refine wpIn_mono (bc a5 ao (round i hi)) ?_;intro e a w h;cases e with
   |normal=>obtain⟨j,⟨ak,aO⟩,cm⟩:=yk (λ_ h=>h.1) h;exact⟨_,aO,cm⟩
   |_=>exact h
  |Ac aA inv μ start round=>exact hinv aA inv μ start round
  |abj n h=>
   refine H4 (λm a w=>Sat X (LS (V X c) K m) a w) ⟨F,C,I,M,a8,h⟩ ?_;rintro m a w⟨F,C,I,M,ao,af⟩;cases m with
   |zero=>exact af.elim
   |succ m=>
    refine wpIn_mono (bc a5 ao af) ?_;intro e a w h;cases e with
    |normal=>exact⟨m,Cd m,h⟩| _=>exact h
 | .region id ops false,F,C,I,M,K,a,w,a5,a8,ai=>by refine wpIn_region ?_;have:=R2 (K:=K .normal) (Q:=mu X K) aP ops (λ_ _ h=>h) ops.toList 0 (by simp) (H3 a5) a8 ai;simpa[Ly]using this
 | .region id ops true,F,C,I,M,K,a,w,a5,a8,⟨ai⟩=>ai a w a8| .rangeFunc f ps fm body,F,C,I,M,K,a,w,a5,a8,⟨ai⟩=>ai a w a8| .scope c,F,C,I,M,K,a,w,a5,a8,⟨ai⟩=>ai a w a8| .refuse _,F,C,I,M,K,a,w,a5,a8,ai=>ai.elim
def w9(args:List Value):Fr:=λt=>match args[t]? with
 |some v=>.val v| none=>.mT
def oW(X:cW)(F:Fr)(C:dM)(I:aH)(M:List aE):List ResultVar->(List Value->Prop)->Prop
 |[],K=>K []
 | .tmp t::l,K=>match bw F (.tmp t)with
  | .val v=>oW X F C I M l λvs=>K (v::vs)
  |_=>False
 | .cell t ty::l,K=>match dk F (.tmp t),X.E ty with
  | .ref s off,some i=>(match C s with
   |some cs=>bif Nat.ble (off+i.size) cs.length then oW X F C I M l λvs=>K (pack i.bK.agg ((cs.drop off).take i.size)::vs)else False
   |none=>False)
  | .val (.pointer (some a)),some i=>aD I M a i.size λws=>oW X F C I M l λvs=>K (pack i.bK.agg ws::vs)
  |_,_=>False
inductive vp(b6:List Nat)(I:aH)(M:List aE)(post:aH->List aE->Prop):Prop
 |mk(I':aH)(M':List aE)(hw:h1 b6 I M I' M')(h:post I' M')
def vq(X:cW)(a2:List ResultVar)(post:Value->aH->List aE->Prop):lA:=λex F C I M=>
 let done:Prop:=oW X F C I M a2 λvs=>match vs with
  |[v]=>vp X.b6 I M (post v)| vs=>vp X.b6 I M (post (.tuple vs.toArray))
 match ex with
 | .normal=>done| .ret=>done| _=>False
def Cm(tmps:Array Value):ResultVar->Sem Value
 | .tmp t=>pure (tmps.getD t undef)| .cell a t=>do loadVar t (<-asAddr (tmps.getD a undef))
def abn(fn:Func)(tmps:Array Value):results fn tmps=(do let vs <-fn.results.mapM (Cm tmps);pure (if h:vs.size=1 then vs[0]else .tuple vs)):=by unfold results;congr 1
def H6{X:cW}(aP:cY X.P X.E){β:Nat->Nat}{a:Act}{w:World}{F:Fr}{C:dM}{I:aH}{M:List aE}(h:cH X β a w F C I M):∀ {a2:List ResultVar} {K:List Value->Prop},oW X F C I M a2 K -> ∃ vs,K vs/\(a2.mapM (Cm a.tmps)).run X.P w=.ok vs w
 |[],K,ai=>⟨[],ai,rfl⟩
 | .tmp t::l,K,ai=>by
  unfold oW at ai;split at ai;·rename_i v U;have aC:a.tmps.getD t undef=v:=dq h.aj U;obtain⟨vs,af,ay⟩:=H6 aP h ai;refine⟨_,af,?_⟩;simp only[EA,Cm,ca,c5,bR,ay,aC]
  ·exact ai.elim
 | .cell t ty::l,K,ai=>by
  unfold oW at ai;split at ai
  ·rename_i s off i U hi;have aC:a.tmps.getD t undef=.pointer (some ⟨β s,off,none⟩):=zZ h.aj U;split at ai
   ·rename_i cs ap;cases bk:Nat.ble (off+i.size) cs.length with
    |false=>rw[bk]at ai;exact ai.elim| true=>rw[bk]at ai;obtain⟨vs,af,ay⟩:=H6 aP h ai;have z4:=bN bk;obtain⟨T,bS⟩:=(h.cp s cs ap).av;have bf:=HX (aP _ _ hi) (a:=⟨β s,off,none⟩) rfl bS (vs:=(cs.drop off).take i.size) (by simp) (by simp;omega);refine⟨_,af,?_⟩;simp only[EA,Cm,ca,c5,bR,ay,aC,asAddr,bf]
   ·exact ai.elim
  ·rename_i ad i U hi;have aC:a.tmps.getD t undef=.pointer (some ad):=tT h.aj U;obtain⟨ws,⟨bZ,cs,T,aj,eg,im,aw⟩,ai⟩:=ai;obtain⟨vs,af,ay⟩:=H6 aP h ai;have bf:=HX (aP _ _ hi) bZ (eg.heap h.holds) im aw;refine⟨_,af,?_⟩;simp only[EA,Cm,ca,c5,bR,ay,aC,asAddr,bf]
  ·exact ai.elim
def abo{X:cW}(aP:cY X.P X.E){β:Nat->Nat}{F:Fr}{C:dM}{I:aH}{M:List aE}(h:cH X β a w F C I M){K:List Value->Prop}(ai:oW X F C I M fn.results.toList K) :
  ∃ vs,K vs/\(results fn a.tmps).run X.P w=.ok (match vs with | [v]=>v | vs=>.tuple vs.toArray) w:=by
 obtain⟨vs,af,e⟩:=H6 aP h ai;refine⟨vs,af,?_⟩;rw[abn];have aC:(fn.results.mapM (Cm a.tmps)).run X.P w=.ok vs.toArray w:=by rw[RI,Sem.run_map,e];rfl
 simp only[ca,aC,bR,c5]
 match vs with
 |[]=>rfl| [v]=>rfl| u::v::l=>simp
def R4{r1:Fence}{n:Nat}{P:Program}{fn:Func}{tmps:Array Value}{R:Ending->World->Prop}:∀ (a2:List Nat) (w:World),a2.Nodup->(∀ r∈a2,w.heap[r]?=some (.deferred (some []))) -> (∀ w':World,w'.heap.size=w.heap.size->(∀ b,b ∉ a2->w'.heap[b]?=w.heap[b]?)->n3 w w'->∃ v,(results fn tmps).run P w'=.ok v w'/\R (.returned v) w')->LeavesInM r1 n P fn tmps R (a2.map w1) .returning w
 |[],w,_,_,h=>h w rfl (λ_ _=>rfl) (.refl _)
 |r::a2,w,cq,ao,h=>by
  rw[mo]at cq;refine⟨by simp,.inl ⟨r,_,rfl,run_takeDeferred (ao r (by simp)),?_⟩⟩;refine R4 a2 _ cq.2 (λr2 gh=>?_) λw' ap ag ar=>h w' (by rw[ap];simp) (λb EQ=>?_) ((HV _ _ _).trans ar);·have bu:r2≠r:=λe=>cq.1 (e ▸ gh);rw[mS bu];exact ao r2 (by simp[gh])
  ·simp only[et,not_or]at EQ;rw[ag b EQ.2,mS EQ.1]
def cH.take{X:cW}{β:Nat->Nat}{F:Fr}{C:dM}{I:aH}{M:List aE}(h:cH X β a w F C I M){a2:List Nat}(lB:∀ r∈a2,vl X w I M r)(ap:w'.heap.size=w.heap.size)(ag:∀ b,b ∉ a2->w'.heap[b]?=w.heap[b]?)(ar:n3 w w') :
  cH X β { a with defers:=[] } w' F C I M:=by
 exact {
  size:=h.size
  defers:=⟨[],rfl,zU,λr ao=>by cases ao⟩
  holds:={
   i:=λb o jm=>by rw[ag b (λao=>by have:=(lB b ao).jF;rw[jm]at this;cases this)];exact h.holds.i b o jm
   m:=λx ab=>by rw[ag _ (λao=>(lB _ ao).eQ x ab rfl)];exact h.holds.m x ab
   d:=h.holds.d
   cn:=h.holds.cn }
  aj:=h.aj
  cp:=λs cs lZ=>by have tX:=h.cp s cs lZ;obtain⟨T,bS⟩:=tX.av;refine { tX with av:=⟨T,?_⟩ };rw[ag _ (λao=>by have:=(lB _ ao).av;rw[bS]at this;cases this)];exact bS
  inj:=h.inj
  hS:=h.hS
  ht:=h.ht
  own:=h.own
  c2:=λb aO aF=>by rw[ag _ (λao=>by have:=(lB _ ao).a0;omega)];exact h.c2 b aO aF
  out:=h.out.trans ar
  sz:=by rw[ap];exact h.sz }
def mu.ret{X:cW}(aP:cY X.P X.E){post:Value->aH->List aE->Prop}
  (a8:∀ v I M (w:World) (a:Act) (F:Fr) (C:dM),Rel X a w F C I M->post v I M->R (.returned v) w):∀ e a w,mu X (vq X fn.results.toList post) e a w->bodyPostM (gR X) 0 X.P fn R e a w:=by
 have main:∀ a w,Sat X (vq X fn.results.toList post .ret) a w->LeavesInM (gR X) 0 X.P fn a.tmps R a.defers .returning w:=by
  rintro a w⟨F,C,I,M,⟨β,ao⟩,af⟩;simp only[vq]at af;obtain⟨a2,ah,cq,hm⟩:=ao.defers;rw[ah];refine R4 a2 w cq (λr hx=>(hm r hx).av) λw' ap ag ar=>?_;have gh:=ao.take hm ap ag ar;obtain⟨vs,aK,fw⟩:=abo aP gh af;refine⟨_,fw,?_⟩
  match vs,aK with
  |[],⟨I',M',hw,aK⟩=>exact a8 _ I' M' w' _ F C ⟨β,gh.ir hw⟩ aK| [v],⟨I',M',hw,aK⟩=>exact a8 _ I' M' w' _ F C ⟨β,gh.ir hw⟩ aK| u::v::l,⟨I',M',hw,aK⟩=>exact a8 _ I' M' w' _ F C ⟨β,gh.ir hw⟩ aK
 intro e a w h;cases e with
 |normal=>exact main a w h| ret=>exact main a w h| exit id=>obtain⟨F,C,I,M,_,af⟩:=h;exact af.elim
 |goto l=>obtain⟨F,C,I,M,_,af⟩:=h;exact af.elim
 |panic _=>exact h.elim| outgrown=>exact h.elim
def R5(aF:P.funcs[f]?=some fn)(ag:fn.body.isSome=true)(an:(fn.name == "runtime.NumGoroutine")=false):HT P f:=by
 intro args w;have h2:fn.body.isNone=false:=by cases h:fn.body<;>simp_all
 simp only[callFunc,ca,run_program,bR,aF,an,j0,kO,h2];rfl
def LU{E:Env}(gJ:List Nat)(aP:cY P E)(aF:P.funcs[f]?=some fn)(ag:fn.body=some c)(an:(fn.name == "runtime.NumGoroutine")=false)
 (a5:(codeOk fn.ntmps c&&Nat.ble args.length fn.ntmps)=true) {I:aH} {M:List aE} {post:Value->aH->List aE->Prop}
  (h:∀ B aq a w,Rel ⟨P,E,gJ,fn.ntmps,B,aq,I,M.map (·.num),none⟩ a w (w9 args) (λ_=>none) I M->c.wpIn (gR ⟨P,E,gJ,fn.ntmps,B,aq,I,M.map (·.num),none⟩) 0 P (mu ⟨P,E,gJ,fn.ntmps,B,aq,I,M.map (·.num),none⟩ (vq ⟨P,E,gJ,fn.ntmps,B,aq,I,M.map (·.num),none⟩ fn.results.toList post)) a w) :
  wZ P f args I M post:=by
 rw[cA]at a5;have bY:=bN a5.2;refine⟨R5 aF (by rw[ag];rfl) an,λw jn=>?_⟩;let X:cW:=⟨P,E,gJ,fn.ntmps,w.heap.size,w,I,M.map (·.num),none⟩
 have ER:Rel X { tmps:=args.toArray++Array.replicate (fn.ntmps-args.toArray.size) undef,defers:=[] } w (w9 args) (λ_=>none) I M:=⟨λ_=>0,{
  size:=by simp[X];omega
  defers:=⟨[],rfl,zU,λr ao=>by cases ao⟩
  holds:=jn
  aj:=λt=>by
   unfold w9;cases au:args[t]? with
   |none=>trivial| some v=>have aO:t<args.length:=(iY.1 au).1;simp only[eO,oS];rw[Array.getElem?_append_left (by simpa using aO)];simp[au]
  cp:=λs cs ap=>by cases ap
  inj:=λs cB U=>by simp at U
  hS:=λb o ag=>ag
  ht:=λb o ag=>.inl ag
  own:=λx ab=>.inl (dp.2 ⟨x,ab,rfl⟩)
  c2:=λb ag aF=>rfl
  out:=.refl _
  sz:=b1 _ }⟩
 have H7:=h w.heap.size w _ _ ER;refine(callsIn_wide (n:=0)).1 ?_;have abp:gR X=Fence.wide:=rfl;rw[abp]at H7;refine callsIn_of_wp_marks aF ag trivial (wpIn_mono H7 (mu.ret (X:=X) aP ?_));rintro v I' M' w' bX en C'⟨β,ao⟩aK;refine⟨v,I',M',rfl,aK,ao.holds,?_⟩;exact {
  le:=ao.hS
  tR:=ao.ht
  vk:=λx ab=>by
   rcases ao.own x ab with U | U;·obtain⟨y,aG,e⟩:=dp.1 U;exact .inl ⟨y,aG,e⟩
   ·exact .inr U
  c2:=λb ag bu=>ao.c2 b ag (λhm=>by
   obtain⟨y,aG,e⟩:=dp.1 hm;exact bu y aG e)
  out:=ao.out
  sz:=ao.sz }
def ES{E:Env}(gJ:List Nat)(aP:cY P E)(aF:P.funcs[f]?=some fn)(ag:fn.body=some c)(an:(fn.name == "runtime.NumGoroutine")=false)
 (a5:(codeOk fn.ntmps c&&Nat.ble args.length fn.ntmps)=true) {I:aH} {M:List aE} {post:Value->aH->List aE->Prop}
  (h:∀ B aq,V ⟨P,E,gJ,fn.ntmps,B,aq,I,M.map (·.num),none⟩ c (w9 args) (λ_=>none) I M (vq ⟨P,E,gJ,fn.ntmps,B,aq,I,M.map (·.num),none⟩ fn.results.toList post)) :
  wZ P f args I M post:=
 LU gJ aP aF ag an a5 λB aq a w ao=>by rw[cA]at a5;exact qW aP c a5.1 ao (h B aq)
def bU{E:Env}(gJ:List Nat)(aP:cY P E)(aF:P.funcs[f]?=some fn)(ag:fn.body=some c)(an:(fn.name == "runtime.NumGoroutine")=false)
 (a5:(codeOk fn.ntmps c&&Nat.ble args.length fn.ntmps)=true) {I:aH} {M:List aE} {post:Value->aH->List aE->Prop}
  (h:∀ B aq,V ⟨P,E,gJ,fn.ntmps,B,aq,I,M.map (·.num),none⟩ c (w9 args) (λ_=>none) I M (vq ⟨P,E,gJ,fn.ntmps,B,aq,I,M.map (·.num),none⟩ fn.results.toList post)) :
  Spec P f args I M post:=.inl (ES gJ aP aF ag an a5 h)
def H8(X:cW)(a2:List ResultVar)(post:Value->aH->List aE->Prop):lA:=λex F C I M=>
 let done:Prop:=oW X F C I M a2 λvs=>match vs with
  |[v]=>sR I M->vp X.b6 I M (post v)| vs=>sR I M->vp X.b6 I M (post (.tuple vs.toArray))
 match ex with
 | .normal=>done| .ret=>done| _=>False
def H9{X:cW}{F:Fr}{C:dM}{I:aH}{M:List aE}:∀ {a2:List ResultVar} {K tY:List Value->Prop},(∀ vs,K vs->tY vs)->oW X F C I M a2 K->oW X F C I M a2 tY
 |[],K,tY,h,ai=>h _ ai
 | .tmp t::l,K,tY,h,ai=>by
  unfold oW at ai |-;split at ai;·exact H9 (λvs=>h _) ai
  ·exact ai.elim
 | .cell t ty::l,K,tY,h,ai=>by
  unfold oW at ai |-;split at ai
  ·rename_i s off i U hi;split at ai
   ·rename_i cs ap;cases bk:Nat.ble (off+i.size) cs.length with
    |false=>rw[bk]at ai;exact ai.elim| true=>rw[bk]at ai;exact H9 (λvs=>h _) ai
   ·exact ai.elim
  ·obtain⟨ws,aV,ai⟩:=ai;exact⟨ws,aV,H9 (λvs=>h _) ai⟩
  ·exact ai.elim
def mu.abq{X:cW}{a2:List ResultVar}{post:Value->aH->List aE->Prop}:∀ e a w,mu X (H8 X a2 post) e a w->mu X (vq X a2 post) e a w:=by
 have one:∀ a w,Sat X (H8 X a2 post .ret) a w->Sat X (vq X a2 post .ret) a w:=by
  rintro a w⟨F,C,I,M,⟨β,ao⟩,h⟩;refine⟨F,C,I,M,⟨β,ao⟩,H9 (λvs ai=>?_) h⟩;have gv:sR I M:=⟨ao.holds.d,ao.holds.cn⟩
  match vs,ai with
  |[v],ai=>exact ai gv| [],ai=>exact ai gv| _::_::_,ai=>exact ai gv
 intro e a w h;cases e with
 |normal=>exact one a w h| ret=>exact one a w h| exit id=>obtain⟨F,C,I,M,ao,af⟩:=h;exact af.elim
 |goto l=>obtain⟨F,C,I,M,ao,af⟩:=h;exact af.elim
 |panic _=>exact h| outgrown=>exact h
def abr{E:Env}(gJ:List Nat)(aP:cY P E)(aF:P.funcs[f]?=some fn)(ag:fn.body=some c)(an:(fn.name == "runtime.NumGoroutine")=false)
 (a5:(codeOk fn.ntmps c&&Nat.ble args.length fn.ntmps)=true) {I:aH} {M:List aE} {post:Value->aH->List aE->Prop}
  (h:∀ B aq,V ⟨P,E,gJ,fn.ntmps,B,aq,I,M.map (·.num),none⟩ c (w9 args) (λ_=>none) I M (H8 ⟨P,E,gJ,fn.ntmps,B,aq,I,M.map (·.num),none⟩ fn.results.toList post)) :
  wZ P f args I M post:=
 LU gJ aP aF ag an a5 λB aq a w ao=>by rw[cA]at a5;exact wpIn_mono (qW aP c a5.1 ao (h B aq)) mu.abq
def H'{E:Env}(gJ:List Nat)(aP:cY P E)(aF:P.funcs[f]?=some fn)(ag:fn.body=some c)(an:(fn.name == "runtime.NumGoroutine")=false)
 (a5:(codeOk fn.ntmps c&&Nat.ble args.length fn.ntmps)=true) {I:aH} {M:List aE} {post:Value->aH->List aE->Prop}
  (h:∀ B aq,V ⟨P,E,gJ,fn.ntmps,B,aq,I,M.map (·.num),none⟩ c (w9 args) (λ_=>none) I M (H8 ⟨P,E,gJ,fn.ntmps,B,aq,I,M.map (·.num),none⟩ fn.results.toList post)) :
  Spec P f args I M post:=.inl (abr gJ aP aF ag an a5 h)
def LV:Value->Value->Bool
 | .bool a,.bool b=>a == b| .int k n,.int c7 m=>IntKind.ms k c7&&decide (n=m)| .string s,.string t=>decide (s.data.toList=t.data.toList)| .pointer none,.pointer none=>true| .slice none 0 0,.slice none 0 0=>true| .map none,.map none=>true| .nilFunc,.nilFunc=>true| .nilIface,.nilIface=>true| _,_=>false
def abt:∀ {a b:Value},LV a b=true->a=b:=by
 intro a b h;unfold LV at h;split at h
 ·simp at h;rw[h]
 ·simp only[cA,e7]at h;rw[IntKind.Ci h.1,h.2]
 ·rename_i s t;simp only[e7]at h;have:s=t:=by cases s;cases t;simp only[LB];exact gG h
  rw[this]
 all_goals first | rfl | cases h
def Ia:List Value->List Value->Bool
 |[],[]=>true| a::as,b::bs=>LV a b&&Ia as bs| _,_=>false
def R6:∀ {a b:List Value},Ia a b=true->a=b
 |[],[],_=>rfl| a::as,b::bs,h=>by simp only[Ia,cA]at h;rw[abt h.1,R6 h.2]
 |[],_::_,h=>by cases h
 |_::_,[],h=>by cases h
def LW(P:Program)(t:Nat)(i:dU):Bool:=
 (match P.info? t with
 |some inf=>decide (inf.size=i.size)&&decide (inf.bytes=i.bytes)&&(match inf.zero with
  |some z=>Ia z.cells.toList i.zero| none=>false)
 |none=>false) &&
 (match P.underlying t with
 |some d=>decide (fj d=i.bK)| none=>false)&&gI i.zero&&decide (i.zero.length=i.size)&&(i.bK.agg||decide (i.size=1))
def abu{t:Nat}{i:dU}(h:LW P t i=true):j3 P t i:=by
 simp only[LW,cA]at h;obtain⟨⟨⟨⟨U,aa⟩,ae⟩,aR⟩,bn⟩:=h;refine⟨?_,?_,z1 ae,cv aR,λax=>?_⟩
 ·split at U
  ·rename_i inf hi;simp only[cA,e7]at U;obtain⟨⟨aC,ay⟩,bf⟩:=U;split at bf
   ·rename_i z a1;exact⟨inf,z,hi,aC,ay,a1,R6 bf⟩
   ·cases bf
  ·cases U
 ·split at aa
  ·rename_i d ah;exact⟨d,ah,cv aa⟩
  ·cases aa
 ·rw[ax]at bn;simpa using bn
def abv{E:Env}(n:Nat)(an:∀ t,n<=t->E t=none)(h:((List.range n).all λt=>match E t with
  |some i=>LW P t i| none=>true)=true):cY P E:=by
 intro t i hi;by_cases au:t<n
 ·have:=g0.1 h t (j2.2 au);rw[hi]at this;exact abu this
 ·rw[an t (by omega)]at hi;cases hi
end Go.V
namespace Go.V
variable{a:Act}{c:Code}{b6:List Nat}{P:Program}{f off d T sz hs e n m d' cg dv dC fI iE km jE lX pS rX tP wX zV EB:Nat}{args vs z:List Value}{v:Value}{w' w:World}{cs:Array Value}{aj:Nat×Nat}{R:Ending->World->Prop}{next:Act->World->Prop}{ad:Addr}{fD:IntKind}{ops:Array Oper}{fn:Func}
def kS{F:Fr}:kQ F [(d',F d'),(cg,F cg)]:=.cons .refl (.cons .refl (.nil))
def dO{F:Fr}:kQ F [(d',F d'),(cg,F cg),(dv,F dv)]:=.cons .refl (.cons .refl (.cons .refl (.nil)))
def ec{F:Fr}:kQ F [(d',F d'),(cg,F cg),(dv,F dv),(dC,F dC)]:=.cons .refl (.cons .refl (.cons .refl (.cons .refl (.nil))))
def ja{F:Fr}:kQ F [(d',F d'),(cg,F cg),(dv,F dv),(dC,F dC),(fI,F fI)]:=.cons .refl (.cons .refl (.cons .refl (.cons .refl (.cons .refl (.nil)))))
def jo{F:Fr}:kQ F [(d',F d'),(cg,F cg),(dv,F dv),(dC,F dC),(fI,F fI),(iE,F iE)]:=.cons .refl (.cons .refl (.cons .refl (.cons .refl (.cons .refl (.cons .refl (.nil))))))
def nz{F:Fr}:kQ F [(d',F d'),(cg,F cg),(dv,F dv),(dC,F dC),(fI,F fI),(iE,F iE),(km,F km)]:=.cons .refl (.cons .refl (.cons .refl (.cons .refl (.cons .refl (.cons .refl (.cons .refl (.nil)))))))
def qX{F:Fr}:kQ F [(d',F d'),(cg,F cg),(dv,F dv),(dC,F dC),(fI,F fI),(iE,F iE),(km,F km),(jE,F jE)]:=.cons .refl (.cons .refl (.cons .refl (.cons .refl (.cons .refl (.cons .refl (.cons .refl (.cons .refl (.nil))))))))
def vr{F:Fr}:kQ F [(d',F d'),(cg,F cg),(dv,F dv),(dC,F dC),(fI,F fI),(iE,F iE),(km,F km),(jE,F jE),(lX,F lX)]:=.cons .refl (.cons .refl (.cons .refl (.cons .refl (.cons .refl (.cons .refl (.cons .refl (.cons .refl (.cons .refl (.nil)))))))))
def R7{F:Fr}:kQ F [(d',F d'),(cg,F cg),(dv,F dv),(dC,F dC),(fI,F fI),(iE,F iE),(km,F km),(jE,F jE),(lX,F lX),(pS,F pS)]:=.cons .refl (.cons .refl (.cons .refl (.cons .refl (.cons .refl (.cons .refl (.cons .refl (.cons .refl (.cons .refl (.cons .refl (.nil))))))))))
def Cn{F:Fr}:kQ F [(d',F d'),(cg,F cg),(dv,F dv),(dC,F dC),(fI,F fI),(iE,F iE),(km,F km),(jE,F jE),(lX,F lX),(pS,F pS),(rX,F rX)]:=.cons .refl (.cons .refl (.cons .refl (.cons .refl (.cons .refl (.cons .refl (.cons .refl (.cons .refl (.cons .refl (.cons .refl (.cons .refl (.nil)))))))))))
def ant{F:Fr}:kQ F [(d',F d'),(cg,F cg),(dv,F dv),(dC,F dC),(fI,F fI),(iE,F iE),(km,F km),(jE,F jE),(lX,F lX),(pS,F pS),(rX,F rX),(tP,F tP)]:=.cons .refl (.cons .refl (.cons .refl (.cons .refl (.cons .refl (.cons .refl (.cons .refl (.cons .refl (.cons .refl (.cons .refl (.cons .refl (.cons .refl (.nil))))))))))))
def anu{F:Fr}:kQ F [(d',F d'),(cg,F cg),(dv,F dv),(dC,F dC),(fI,F fI),(iE,F iE),(km,F km),(jE,F jE),(lX,F lX),(pS,F pS),(rX,F rX),(tP,F tP),(wX,F wX)]:=.cons .refl (.cons .refl (.cons .refl (.cons .refl (.cons .refl (.cons .refl (.cons .refl (.cons .refl (.cons .refl (.cons .refl (.cons .refl (.cons .refl (.cons .refl (.nil)))))))))))))
def anv{F:Fr}:kQ F [(d',F d'),(cg,F cg),(dv,F dv),(dC,F dC),(fI,F fI),(iE,F iE),(km,F km),(jE,F jE),(lX,F lX),(pS,F pS),(rX,F rX),(tP,F tP),(wX,F wX),(zV,F zV)]:=.cons .refl (.cons .refl (.cons .refl (.cons .refl (.cons .refl (.cons .refl (.cons .refl (.cons .refl (.cons .refl (.cons .refl (.cons .refl (.cons .refl (.cons .refl (.cons .refl (.nil))))))))))))))
def anw{F:Fr}:kQ F [(d',F d'),(cg,F cg),(dv,F dv),(dC,F dC),(fI,F fI),(iE,F iE),(km,F km),(jE,F jE),(lX,F lX),(pS,F pS),(rX,F rX),(tP,F tP),(wX,F wX),(zV,F zV),(EB,F EB)]:=.cons .refl (.cons .refl (.cons .refl (.cons .refl (.cons .refl (.cons .refl (.cons .refl (.cons .refl (.cons .refl (.cons .refl (.cons .refl (.cons .refl (.cons .refl (.cons .refl (.cons .refl (.nil)))))))))))))))
def anx{F:Fr}{R8:Nat}:kQ F [(d',F d'),(cg,F cg),(dv,F dv),(dC,F dC),(fI,F fI),(iE,F iE),(km,F km),(jE,F jE),(lX,F lX),(pS,F pS),(rX,F rX),(tP,F tP),(wX,F wX),(zV,F zV),(EB,F EB),(R8,F R8)]:=.cons .refl (.cons .refl (.cons .refl (.cons .refl (.cons .refl (.cons .refl (.cons .refl (.cons .refl (.cons .refl (.cons .refl (.cons .refl (.cons .refl (.cons .refl (.cons .refl (.cons .refl (.cons .refl (.nil))))))))))))))))
end Go.V
