/- Part 1 of what the proofs of this seat share: the executor, data in memory, walks.
-/
import Derived.WalkKit
import Derived.RangeFuncRecord
import Derived.OrdersIn
import Derived.Lib.UnsafeStr
set_option linter.all false
namespace Go.V
open Go
def bJ:=@Nat.le_of_ble_eq_true
def bV:=@Result.andThen_ok
def cB:=@Bool.and_eq_true
def dQ:=@Nat.eq_of_beq_eq_true
def fZ:=@List.take_succ_eq_append_getElem
def eR:=@List.drop_eq_getElem_cons
def cE:=@List.mem_append
def cb:=@List.map_cons
def cP:=@List.map_append
def dh:=@of_decide_eq_true
def cj:=@Sem.run_bind
def dx:=@List.length_cons
def cC:=@List.mem_map
def cc:=@Nat.le_refl
def b':=@cond_false
def c0:=@Sem.run_pure
def ca:=@cond_true
def h5:=@List.getElem?_eq_some_iff
def ee:=@List.mem_cons
def fx:=@List.all_eq_true
def gl:=@Int.toNat_natCast
def lJ:=@Array.getElem?_eq_some_iff
def hR:=@decide_eq_true_eq
def iG:=@List.getElem?_map
def bQ:=@if_pos
def g':=@List.mem_range
def bU:=@if_neg
def pj:=@Array.getD_eq_getD_getElem?
def nh:=@World.putObj_heap_other
def kk:=@Option.some.injEq
def k6:=@List.getElem?_take
def k7:=@Bool.false_eq_true
def jV:=@Option.getD_some
def jn:=@List.foldl_cons
def kM:=@List.nodup_cons
def nj:=@List.getElem?_drop
def k8:=@Option.map_some
def gS:=@Array.ext'
def r4:=@Option.map_eq_some_iff
def k9:=@Nat.le_trans
def r5:=@List.nodup_append
def vA:=@Nat.mul_le_mul_right
def r6:=@Bool.eq_iff_iff
def w3:=@List.range_eq_range'
def C3:=@Array.getElem?_setIfInBounds
def pk:=@Nat.add_zero
def uc:=@Option.getD_none
def ud:=@Nat.min_eq_left
def ue:=@Option.map_none
def sZ:=@Oper.wpIn_mono
def s0:=@Nat.add_assoc
def l5:=@if_false
def FH:=@List.getElem?_cons_succ
def vB:=@ByteArray.ext
def Jp:=@Option.ne_none_iff_exists'
def AR:=@Nat.lt_succ_self
def w4:=@List.all_cons
def yH:=@List.nodup_nil
def AS:=@World.alloc_eq
def Jq:=@ByteArray.data_extract
def NI:=@Array.getElem?_eq_getElem
def FI:=@List.range'_succ
def po:=@Ne.symm
def p2:=@if_true
def Jr:=@Nat.lt_of_lt_of_le
def FJ:=@List.mapM_cons
def C4:=@Nat.add_comm
def NJ:=@List.toList_toArray
def NK:=@Array.foldl_toList
def NL:=@Option.isSome_none
def Uk:=@Array.mapM_eq_mapM_toList
def Js:=@Oper.semAt_eq
variable{a:Act}{c:Code}{foot:List Nat}{P:Program}{f off T sz hC e n m fB cL dW ei ha k' l6 nk og p3 r7 uf w5 AT FK:Nat}{args vs z:List Value}{v:Value}{w' w:World}{cs:Array Value}{al:Nat×Nat}{R:Ending->World->Prop}{next:Act->World->Prop}{aS:Addr}{gb:IntKind}{ops:Array Oper}{fn:Func}
inductive FL where
 |other | int (k:IntKind) | bool | string | slice (e:Nat) | array (n e:Nat) | struct (cN:List (Nat×Nat)) | map (k e:Nat) | pointer (e:Nat)
 deriving DecidableEq
def fk:TypeDesc->FL
 | .int k=>.int k| .bool=>.bool| .string=>.string| .slice e=>.slice e| .array n e=>.array n e| .struct cN=>.struct (cN.toList.map λf=>(f.type,f.offset))| .map k e=>.map k e| .pointer e=>.pointer e| _=>.other
def FL.agg:FL->Bool
 | .struct _ | .array ..=>true| _=>false
structure dD where
 size:Nat
 bytes:Nat
 zero:List Value
 bL:FL
structure kl(P:Program)(t:Nat)(i:dD):Prop where
 inf:∃ inf z,P.info? t=some inf/\inf.size=i.size/\inf.bytes=i.bytes/\inf.zero=some z/\z.cells.toList=i.zero
 fl:∃ d,P.underlying t=some d/\fk d=i.bL
 one:∀ v∈i.zero,v.oneCell'=true
 len:i.zero.length=i.size
 Jt:i.bL.agg=false->i.size=1
abbrev Env:=Nat->Option dD
def cU(P:Program)(E:Env):Prop:=∀ t i,E t=some i->kl P t i
inductive dA where
 |val(v:Value)| lit (b:Bool)| ref (s off:Nat)| nl
abbrev Fr:=Nat->dA
abbrev dB:=Nat->Option (List Value)
abbrev aI:=Nat->Option Obj
structure aD where
 num:Nat
 obj:Obj
abbrev gd:=Fr->dB->aI->List aD->Prop
def fY(F:Fr)(d:Nat)(x:dA):Fr:=λt=>bif Nat.beq t d then x else F t
def jo(C:dB)(d:Nat)(x:Option (List Value)):dB:=λt=>bif Nat.beq t d then x else C t
def p6(F:Fr)(d:Nat):Fr:=λt=>match F t with
 | .ref s o=>bif Nat.beq s d then .nl else .ref s o| x=>x
def put(o:Option Nat)(x:dA)(F:Fr):Fr:=match o with
 |some d=>fY F d x| none=>F
def di(F:Fr):Operand->dA
 | .tmp t=>F t| .const (.bool b)=>.lit b| .const v=>.val v| .global g=>.val (.pointer (some ⟨g,0,none⟩))| .func f=>.val (.func (.func f) #[] #[])
def dw(ρ:Operand->dA)(x:Operand):dA:=match ρ x with
 | .lit b=>.val (.bool b)| y=>y
abbrev bE(F:Fr):Operand->dA:=dw (di F)
def pack(agg:Bool)(vs:List Value):Value:=bif agg then .agg vs.toArray else vs.headD undef
def ck(cs:List Value)(off:Nat)(vs:List Value):List Value:=cs.take off++vs++cs.drop (off+vs.length)
def gm(vs:List Value):Bool:=vs.all (·.oneCell')
def Ju(c:Bool):dA->dA->dA
 | .val (.bool x),.val (.bool y)=>.val (.bool (bif c then x else y))| .val x,.val y=>.val (bif c then x else y)| _,_=>.nl
def w6(op:BinOp)(x y:Int):Option Bool:=match op with
 | .eql=>some (decide (x=y))| .neq=>some (!decide (x=y))| .lss=>some (decide (x<y))| .leq=>some (decide (x<=y))| .gtr=>some (decide (y<x))| .geq=>some (decide (y<=x))| _=>none
def ug(op:BinOp)(k:IntKind)(x y:Int):Option Int:=
 let a:=BitVec.ofInt k.bits x
 let b:=BitVec.ofInt k.bits y
 match op with
 | .and=>some (k.wrap (a &&& b).toNat)| .or=>some (k.wrap (a ||| b).toNat)| .xor=>some (k.wrap (a ^^^ b).toNat)| .andNot=>some (k.wrap (a &&& ~~~b).toNat)| _=>none
def h6(I:aI)(M:List aD)(b:Nat)(o:Obj):Prop:=I b=some o\/∃ x∈M,x.num=b/\x.obj=o
def cM(I:aI)(M:List aD)(a:Addr)(n:Nat)(vs:List Value):Prop:=
 a.spot=none/\∃ cs T al,h6 I M a.block (.cells cs T al)/\(cs.toList.drop a.off).take n=vs/\vs.length=n
inductive aO(I:aI)(M:List aD)(a:Addr)(n:Nat)(K:List Value->Prop):Prop
 |mk(vs:List Value)(h:cM I M a n vs)(k:K vs)
inductive b2(M:List aD)(a:Addr)(vs:List Value)(K:List aD->Prop):Prop
 |mk(a9 post:List aD)(cs:Array Value)(T:Nat)(a':M=a9++⟨a.block,.cells cs T (0,0)⟩::post)(ar:a.spot=none)(ag:a.off+vs.length<=cs.size)(aa:gm vs=true)(k:K (a9++⟨a.block,.cells (ck cs.toList a.off vs).toArray T (0,0)⟩::post))
inductive bX(I:aI)(M:List aD)(K:Nat->Prop):Prop
 |mk(k:∀ b,I b=none->(∀ x∈M,x.num≠b)->K b)
inductive bf(a:Option Addr)(n sz:Nat)(k:Int)(K:Addr->Prop):Prop
 |mk(aS:Addr)(j:Nat)(a2:a=some aS)(ae:k=(j:Int))(ai:j<n)(h:K (aS.add (j*sz)))
inductive eD(n:Nat)(k:Int)(K:Nat->Prop):Prop
 |mk(j:Nat)(ae:k=(j:Int))(ai:j<n)(h:K j)
inductive AU(s:ByteArray)(k:Int)(K:UInt8->Prop):Prop
 |mk(j:Nat)(ae:k=(j:Int))(ai:j<s.size)(h:K s[j])
inductive bg(k:IntKind)(n:Int)(K:Int->Prop):Prop
 |mk(r:Int)(h:k.wrap n=r)(bd:K r)
inductive C5(y:Int)(K:Prop):Prop
 |mk(h:y≠0)(bd:K)
inductive w7(y:Int)(K:Nat->Prop):Prop
 |mk(j:Nat)(h:y=(j:Int))(bd:K j)
inductive aZ(c:Bool)(X Y:Prop):Prop
 |mk(h:c=true->X)(bd:c=false->Y)
inductive mG(l c:Int)(bytes:Nat)(K:Nat->Nat->Prop):Prop
 |mk(n m:Nat)(ay:l=(n:Int))(ap:c=(m:Int))(h:n<=m)(ag:bytes*m<=140737488355328)(hm:m<=9223372036854775807)(k:K n m)
inductive NM(c:Nat)(hi mx:Int)(K:Nat->Nat->Prop):Prop
 |mk(h m:Nat)(gw:hi=(h:Int))(ij:mx=(m:Int))(aa:h<=m)(ab:m<=c)(k:K h m)
inductive l7(n c:Nat)(lo hi:Option Int)(K:Nat->Nat->Prop):Prop
 |mk(l h:Nat)(eT:lo.getD 0=(l:Int))(gw:hi.getD n=(h:Int))(aa:l<=h)(ab:h<=c)(k:K l h)
structure ey(I:aI)(M:List aD)(w:World):Prop where
 i:∀ b o,I b=some o->w.heap[b]?=some o
 m:∀ x∈M,w.heap[x.num]?=some x.obj
 d:∀ x∈M,I x.num=none
 cd:(M.map (·.num)).Nodup
def oh(w w':World):Prop:=w'.os=w.os/\w'.output=w.output
def oh.refl(w:World):oh w w:=⟨rfl,rfl⟩
def oh.trans{a b c:World}(h:oh a b)(bd:oh b c):oh a c:=⟨bd.1.trans h.1,bd.2.trans h.2⟩
structure Kept(I:aI)(M:List aD)(w:World)(I':aI)(M':List aD)(w':World):Prop where
 le:∀ b o,I b=some o->I' b=some o
 uh:∀ b o,I' b=some o->I b=some o\/w.heap.size<=b
 vC:∀ x∈M',(∃ y∈M,y.num=x.num)\/w.heap.size<=x.num
 dE:∀ b,b<w.heap.size->(∀ y∈M,y.num≠b)->w'.heap[b]?=w.heap[b]?
 out:oh w w'
 sz:w.heap.size<=w'.heap.size
def NN(P:Program)(f:Nat):Prop:=∀ (args:Array Value) (w:World),(callFunc f args).run P w=.ok (.enter f args) w
def vD(P:Program)(f:Nat)(args:List Value)(I:aI)(M:List aD)(post:Value->aI->List aD->Prop):Prop:=
 NN P f/\∀ w,ey I M w->Calls P f args.toArray w λe w'=>∃ v I' M',e=.returned v/\post v I' M'/\ey I' M' w'/\Kept I M w I' M' w'
def ae7(P:Program)(f:Nat)(args:List Value)(I:aI)(M:List aD)(post:Value->aI->List aD->Prop):Prop:=
 ∀ w,ey I M w->∃ v w' I' M',(callFunc f args.toArray).run P w=.ok (.value v) w'/\post v I' M'/\ey I' M' w'/\Kept I M w I' M' w'
def Spec(P:Program)(f:Nat)(args:List Value)(I:aI)(M:List aD)(post:Value->aI->List aD->Prop):Prop:=vD P f args I M post\/ae7 P f args I M post
def ins(I:aI)(b:Nat)(o:Obj):aI:=λx=>bif Nat.beq x b then some o else I x
inductive h7(foot:List Nat):aI->List aD->aI->List aD->Prop
 |refl{I M}:h7 foot I M I M| sub {I M M1 I' M'} (h:List.Sublist M1 M) (k:h7 foot I M1 I' M'):h7 foot I M I' M'| perm {I M M1 I' M'} (h:M.Perm M1) (k:h7 foot I M1 I' M'):h7 foot I M I' M'| kN {I M I' M' b o post} (h:M=⟨b,o⟩::post) (aA:b ∉ foot) (k:h7 foot (ins I b o) post I' M'):h7 foot I M I' M'
structure l8(I:aI)(M:List aD):Prop where
 d:∀ x∈M,I x.num=none
 cd:(M.map (·.num)).Nodup
inductive bc(foot:List Nat)(P:Program)(f:Nat)(args:List Value)(I:aI)(M:List aD)(K:Value->aI->List aD->Prop):Prop
 |mk(ep Mr:List aD)(post:Value->aI->List aD->Prop)(a':M.Perm (ep++Mr))(ar:Spec P f args I ep post)(k:∀ v I' M',(∀ b o,I b=some o->I' b=some o)->post v I' M'->K v I' (M'++Mr))| yI (ep Mr:List aD) (post:Value->aI->List aD->Prop) (a':M.Perm (ep++Mr)) (ar:Spec P f args I ep post) (k:∀ v I' M',(∀ b o,I b=some o->I' b=some o)->(∀ x∈M'++Mr,I' x.num=none)->post v I' M'->K v I' (M'++Mr))| C6 (I1:aI) (ep Mr:List aD) (post:Value->aI->List aD->Prop) (hw:h7 foot I M I1 (ep++Mr)) (ar:Spec P f args I1 ep post) (k:∀ v I' M',(∀ b o,I1 b=some o->I' b=some o)->(∀ x∈M'++Mr,I' x.num=none)->post v I' M'->K v I' (M'++Mr))| FM (h:l8 I M->bc foot P f args I M K)
def bc.elim{I:aI}{M:List aD}{K:Value->aI->List aD->Prop}(fC:l8 I M)(h:bc foot P f args I M K) :
  ∃ (I1:aI) (ep Mr:List aD) (post:Value->aI->List aD->Prop),h7 foot I M I1 (ep++Mr)/\Spec P f args I1 ep post/\∀ v I' M',(∀ b o,I1 b=some o->I' b=some o)->(∀ x∈M'++Mr,I' x.num=none)->post v I' M'->K v I' (M'++Mr):=by
 induction h with
 |mk ep Mr post a' ar k=>exact⟨I,ep,Mr,post,.perm a' .refl,ar,λv I' M' aa _ ab=>k v I' M' aa ab⟩| yI ep Mr post a' ar k=>exact⟨I,ep,Mr,post,.perm a' .refl,ar,k⟩| C6 I1 ep Mr post hw ar k=>exact⟨I1,ep,Mr,post,hw,ar,k⟩| FM h aN=>exact aN fC
structure cV where
 P:Program
 E:Env
 gx:List Nat
 n:Nat
 B:Nat
 az:World
 dp:aI
 foot:List Nat
 ro:Option Nat
def g3(X:cV):Fence:={ Fence.wide with round:=X.ro }
def eU(β:Nat->Nat):dA->Value->Prop
 | .val v,u=>u=v| .lit b,u=>u=.bool b| .ref s off,u=>u=.pointer (some ⟨β s,off,none⟩)| .nl,_=>True
structure w8(X:cV)(w:World)(I:aI)(M:List aD)(b:Nat)(cs:List Value):Prop where
 dU:∃ T,w.heap[b]?=some (.cells cs.toArray T (0,0))
 cQ:X.B<=b
 jW:I b=none
 eX:∀ x∈M,x.num≠b
structure vE(X:cV)(w:World)(I:aI)(M:List aD)(r:Nat):Prop where
 dU:w.heap[r]?=some (.deferred (some []))
 cQ:X.B<=r
 jW:I r=none
 eX:∀ x∈M,x.num≠r
def w9(r:Nat):Deferred:={ target:=.collected r,args:=#[] }
def Marks(X:cV)(a:Act)(w:World)(I:aI)(M:List aD):Prop:=∃ a0:List Nat,a.defers=a0.map w9/\a0.Nodup/\∀ r∈a0,vE X w I M r
structure cH(X:cV)(β:Nat->Nat)(a:Act)(w:World)(F:Fr)(C:dB)(I:aI)(M:List aD):Prop where
 size:a.tmps.size=X.n
 defers:Marks X a w I M
 holds:ey I M w
 al:∀ t,eU β (F t) (a.tmps.getD t undef)
 cf:∀ s cs,C s=some cs->w8 X w I M (β s) cs
 inj:∀ s b3,C s≠none->C b3≠none->β s=β b3->s=b3
 h8:∀ b o,X.dp b=some o->I b=some o
 hD:∀ b o,I b=some o->X.dp b=some o\/X.B<=b
 own:∀ x∈M,x.num∈X.foot\/X.B<=x.num
 dE:∀ b,b<X.B->b ∉ X.foot->w.heap[b]?=X.az.heap[b]?
 out:oh X.az w
 sz:X.B<=w.heap.size
 fm:∀ x∈X.foot,x<X.B
def Rel(X:cV)(a:Act)(w:World)(F:Fr)(C:dB)(I:aI)(M:List aD):Prop:=∃ β,cH X β a w F C I M
def Sat(X:cV)(K:gd)(a:Act)(w:World):Prop:=∃ F C I M,Rel X a w F C I M/\K F C I M
inductive bw(X:cV)(o:Oper)(F:Fr)(C:dB)(I:aI)(M:List aD)(K:gd):Prop
 |mk(h:∀ a w Q,Rel X a w F C I M->o.wpIn (g3 X) 0 X.P a w (Sat X K) Q)
def jX(ρ:Operand->dA):List Operand->Option (List Value)
 |[]=>some []
 |x::xs=>match dw ρ x,jX ρ xs with
  | .val v,some vs=>some (v::vs)| _,_=>none
abbrev mH(F:Fr):List Operand->Option (List Value):=jX (di F)
def s3(place:Nat->Option (Nat×Nat))(cells:List Value):List (Nat×Value)->Option (List Value)
 |[]=>some cells
 |(i,v)::bi=>match place i with
  |none=>none| some (off,size)=>bif Nat.beq v.cells.size size&&Nat.ble (off+size) cells.length then s3 place (ck cells off v.cells.toList) bi else none
def s4(ρ:Operand->dA):List (Nat×Operand)->Option (List (Nat×Value))
 |[]=>some []
 |(i,x)::xs=>match dw ρ x,s4 ρ xs with
  | .val v,some vs=>some ((i,v)::vs)| _,_=>none
abbrev AV(F:Fr):List (Nat×Operand)->Option (List (Nat×Value)):=s4 (di F)
def places(E:Env)(cN:List (Nat×Nat))(i:Nat):Option (Nat×Nat):=match cN[i]? with
 |some (fm,off)=>match E fm with
  |some hh=>some (off,hh.size)| none=>none
 |none=>none
def C7(E:Env)(cN:List (Nat×Nat)):Bool:=cN.all λf=>(E f.1).isSome
def rowOf(zero:List Value)(n:Nat):List Value:=(List.range n).map λi=>zero[i%zero.length]!
def vF(zero:List Value)(n:Nat):rowOf zero n=(madeCells zero.toArray n).toList:=by simp[rowOf,madeCells]
def IntKind.mI:IntKind->IntKind->Bool
 | .i8,.i8 | .i16,.i16 | .i32,.i32 | .i64,.i64 | .u8,.u8 | .u16,.u16 | .u32,.u32 | .u64,.u64=>true| _,_=>false
def lK(op:BinOp)(c7:Option dD)(x y:dA)(K:Value->Prop)(other:Prop):Prop:=
 match x,y with
 | .val (.int k a),.val (.int eZ b)=>
  match op with
  | .shl=>w7 b λj=>bg k (a*2^(min j k.bits)) λr=>K (.int k r)
  | .shr=>w7 b λj=>K (.int k (a.fdiv (2^(min j k.bits))))
  |op=>bif IntKind.mI k eZ then
    (match op with
    | .add=>bg k (a+b) λr=>K (.int k r)
    | .sub=>bg k (a-b) λr=>K (.int k r)
    | .mul=>bg k (a*b) λr=>K (.int k r)
    | .quo=>C5 b (bg k (a.tdiv b) λr=>K (.int k r))| .rem=>C5 b (K (.int k (a.tmod b)))
    | .and | .or | .xor | .andNot=>(match ug op k a b with
     |some r=>K (.int k r)| none=>False)
    |op=>(match w6 op a b with
     |some r=>K (.bool r)| none=>False))
   else False
 | .val (.string a),.val (.string b)=>
  match op with
  | .eql=>K (.bool (decide (a=b)))| .neq=>K (.bool (!decide (a=b)))| _=>other
 | .val (.bool a),.val (.bool b)=>
  match c7 with
  |some { bL:=.bool,.. }=>
   (match op with
   | .eql=>K (.bool (a == b))| .neq=>K (.bool (!(a == b)))| _=>other)
  |_=>other
 |_,_=>other
inductive gn(P:Program)(op:BinOp)(t:Nat)(x y:Operand)(p q:dA)(K:Value->Prop)(other:Prop):Prop
 |mk(l9 fD v:Value)(aC:p=.val l9)(aP:q=.val fD)(h:∀ w,(do eqGuard op t x y l9 fD;binOp op t l9 fD:Sem Value).run P w=.ok v w)(k:K v)| other (h:other)
def cF(X:cV)(op:Op)(ρ:Operand->dA)(C:dB)(I:aI)(M:List aD)(V:dA->Prop)(other:Prop):Prop:=
 match op with
 | .move x | .assign x=>V (ρ x)
 | .pick c a b=>
  match ρ c with
  | .lit c=>V (bif c then ρ a else ρ b)| .val (.bool c)=>V (Ju c (dw ρ a) (dw ρ b))| _=>False
 | .unOp op _ x=>
  match op,ρ x with
  | .not,.lit b=>V (.lit (!b))| .not,.val (.bool b)=>V (.val (.bool (!b)))| .neg,.val (.int k n)=>bg k (0-n) λr=>V (.val (.int k r))
  |_,_=>other
 | .binOp op t x y _=>lK op (X.E t) (dw ρ x) (dw ρ y) (λv=>V (.val v)) (gn X.P op t x y (dw ρ x) (dw ρ y) (λv=>V (.val v)) other)
 | .load t x=>
  match X.E t with
  |some i=>
   (match ρ x with
   | .ref s off=>
    (match C s with
    |some cs=>bif Nat.ble (off+i.size) cs.length then V (.val (pack i.bL.agg ((cs.drop off).take i.size)))else False| none=>False)
   | .val (.pointer (some a))=>aO I M a i.size λvs=>V (.val (pack i.bL.agg vs))
   |_=>False)
  |none=>False
 | .nilCheck x=>
  match ρ x with
  | .ref s off=>V (.ref s off)| .val (.pointer (some a))=>V (.val (.pointer (some a)))| _=>other
 | .fieldAddr t x i=>
  match X.E t with
  |some { bL:=.struct cN,.. }=>
   (match cN[i]? with
   |some (fm,off)=>
    (match X.E fm,ρ x with
    |some hh,.ref s o'=>bif Nat.beq hh.size 0 then False else V (.ref s (o'+off))| some hh,.val (.pointer (some a))=>bif Nat.beq hh.size 0 then False else V (.val (.pointer (some (a.add off))))| _,_=>False)
   |none=>False)
  |_=>False
 | .field t x i=>
  match X.E t,dw ρ x with
  |some { bL:=.struct cN,.. },.val (.agg cs)=>
   (match cN[i]? with
   |some (fm,off)=>
    (match X.E fm with
    |some hh=>bif Nat.ble (off+hh.size) cs.size then V (.val (pack hh.bL.agg ((cs.toList.drop off).take hh.size)))else False| none=>False)
   |none=>False)
  |_,_=>False
 | .indexAddr t x i=>
  match X.E t,dw ρ i with
  |some { bL:=.slice e,.. },.val (.int _ k)=>
   (match X.E e,dw ρ x with
   |some aF,.val (.slice a n _)=>bf a n aF.size k λaS=>V (.val (.pointer (some aS)))
   |_,_=>False)
  |some { bL:=.array n e,.. },.val (.int _ k)=>
   (match X.E e,ρ x with
   |some aF,.ref s o'=>eD n k λj=>V (.ref s (o'+j*aF.size))
   |some aF,.val (.pointer (some a))=>eD n k λj=>V (.val (.pointer (some (a.add (j*aF.size)))))
   |_,_=>False)
  |_,_=>False
 | .index t x i=>
  match X.E t,dw ρ x,dw ρ i with
  |some { bL:=.string,.. },.val (.string s),.val (.int _ k)=>AU s k λb=>V (.val (.int .u8 b.toNat))
  |some { bL:=.array n e,.. },.val (.agg cs),.val (.int _ k)=>
   (match X.E e with
   |some aF=>bif Nat.beq (n*aF.size) cs.size then eD n k λj=>V (.val (pack aF.bL.agg ((cs.toList.drop (j*aF.size)).take aF.size)))else False
   |none=>False)
  |_,_,_=>False
 | .build t parts=>
  match X.E t,s4 ρ parts.toList with
  |some i,some vs=>
   (match i.bL with
   | .struct cN=>bif C7 X.E cN then(match s3 (places X.E cN) i.zero vs with
    |some cells=>V (.val (.agg cells.toArray))| none=>False)else False
   | .array _ e=>(match X.E e with
    |some aF=>(match s3 (λj=>some (j*aF.size,aF.size)) i.zero vs with
     |some cells=>V (.val (.agg cells.toArray))| none=>False)
    |none=>False)
   |_=>False)
  |_,_=>False
 | .makeFunc fn first captured=>
  match jX ρ first.toList,jX ρ captured.toList with
  |some cN,some cs=>V (.val (.func fn cN.toArray cs.toArray))| _,_=>False
 | .slice t x lo hi mx=>
  match X.E t,dw ρ x,mx.map (dw ρ)with
  |some { bL:=.slice e,.. },.val (.slice a n c),none=>
   (match X.E e,lo.map (dw ρ),hi.map (dw ρ)with
   |some aF,none,none=>V (.val (.slice a n c))| some aF,none,some (.val (.int _ h))=>l7 n c none (some h) λ_ h=>V (.val (.slice a h c))
   |some aF,some (.val (.int _ l)),none=>l7 n n (some l) none λl _=>V (.val (.slice (if c=l then a else a.map (·.add (l*aF.size))) (n-l) (c-l)))
   |some aF,some (.val (.int _ l)),some (.val (.int _ h))=>l7 n c (some l) (some h) λl h=>V (.val (.slice (if c=l then a else a.map (·.add (l*aF.size))) (h-l) (c-l)))
   |_,_,_=>False)
  |some { bL:=.string,.. },.val (.string s),none=>
   (match lo.map (dw ρ),hi.map (dw ρ)with
   |none,none=>V (.val (.string s))| none,some (.val (.int _ h))=>l7 s.size s.size none (some h) λ_ h=>V (.val (.string (s.extract 0 h)))
   |some (.val (.int _ l)),none=>l7 s.size s.size (some l) none λl _=>V (.val (.string (s.extract l s.size)))
   |some (.val (.int _ l)),some (.val (.int _ h))=>l7 s.size s.size (some l) (some h) λl h=>V (.val (.string (s.extract l h)))
   |_,_=>False)
  |some { bL:=.slice e,.. },.val (.slice a _ c),some (.val (.int _ m))=>
   (match X.E e,lo.map (dw ρ),hi.map (dw ρ)with
   |some aF,none,some (.val (.int _ h))=>NM c h m λh m=>V (.val (.slice (if m=0 then a else a.map (·.add (0*aF.size))) (h-0) (m-0)))
   |_,_,_=>other)
  |_,_,_=>other
 | .extract x i=>
  match dw ρ x with
  | .val (.tuple vs)=>(match vs.toList[i]? with
   |some v=>V (.val v)| none=>False)
  |_=>False
 | .convert s d x=>
  match X.E s,X.E d,dw ρ x with
  |some _,some { bL:=.int k,.. },.val (.int _ n)=>bg k n λr=>V (.val (.int k r))
  |_,_,_=>other
 | .call { callee:=.builtin .len,args,argTypes }=>
  match argTypes.toList,jX ρ args.toList with
  |[t],some [v]=>
   (match X.E t,v with
   |some { bL:=.slice _,.. },.slice _ n _=>V (.val (.int .i64 n))| some { bL:=.string,.. },.string s=>V (.val (.int .i64 s.size))| some { bL:=.array n _,.. },_=>V (.val (.int .i64 n))| _,_=>other)
  |_,_=>other
 | .call { callee:=.builtin .cap,args,argTypes }=>
  match argTypes.toList,jX ρ args.toList with
  |[t],some [v]=>
   (match X.E t,v with
   |some { bL:=.slice _,.. },.slice _ _ c=>V (.val (.int .i64 c))| _,_=>other)
  |_,_=>other
 | .call { callee:=.builtin .max,args,.. }=>
  match jX ρ args.toList with
  |some [.int k a,.int _ b]=>V (.val (.int k (max a b)))| _=>other
 | .call { callee:=.builtin .min,args,.. }=>
  match jX ρ args.toList with
  |some [.int k a,.int _ b]=>V (.val (.int k (min a b)))| _=>other
 | .call { callee:=.builtin .unsafeSliceData,args,.. }=>
  match jX ρ args.toList with
  |some [.slice none _ _]=>V (.val (.pointer none))| some [.slice (some a) _ c]=>C5 c (V (.val (.pointer (some a))))| _=>other
 |_=>other
def gT(X:cV)(o:Oper)(F:Fr)(C:dB)(I:aI)(M:List aD)(K:gd):Prop:=
 match o.op with
 | .box t x=>
  match o.dst,bE F x with
  |some d,.val v=>
   bif X.gx.contains d then bX I M λb=>K (fY (p6 F d) d (.val (.pointer (some ⟨b,0,none⟩)))) (jo C d none) I (⟨b,.cells v.cells t (0,0)⟩::M)
   else K (fY (p6 F d) d (.ref d 0)) (jo C d (some v.cells.toList)) I M
  |_,_=>False
 | .alloc t=>
  match o.dst,X.E t with
  |some d,some i=>
   bif X.gx.contains d then bX I M λb=>K (fY (p6 F d) d (.val (.pointer (some ⟨b,0,none⟩)))) (jo C d none) I (⟨b,.cells i.zero.toArray t (0,0)⟩::M)
   else K (fY (p6 F d) d (.ref d 0)) (jo C d (some i.zero)) I M
  |_,_=>False
 | .store t x y=>
  match o.dst,X.E t,bE F y with
  |none,some i,.val v=>
   (match di F x with
   | .ref s off=>
    (match C s with
    |some cs=>bif Nat.ble (off+i.size) cs.length&&(Nat.beq v.cells.size i.size&&gm v.cells.toList)then K F (jo C s (some (ck cs off v.cells.toList))) I M else False| none=>False)
   | .val (.pointer (some a))=>bif Nat.beq v.cells.size i.size then b2 M a v.cells.toList λM'=>K F C I M' else False
   |_=>False)
  |_,_,_=>False
 | .buildSlice t len parts=>
  match X.E t,AV F parts.toList with
  |some { bL:=.slice e,.. },some vs=>
   (match X.E e with
   |some aF=>
    bif Nat.ble (len*aF.size) 16777216&&Nat.blt 0 (len*aF.size)then
     (match s3 (λj=>some (j*aF.size,aF.size)) (rowOf aF.zero (len*aF.size)) vs with
     |some cells=>bX I M λb=>K (put o.dst (.val (.slice (some ⟨b,0,none⟩) len len)) F) C I (⟨b,.cells cells.toArray e (0,0)⟩::M)
     |none=>False)
    else(match len,vs with
     |0,[]=>bX I M λb=>K (put o.dst (.val (.slice (some ⟨b,0,none⟩) 0 0)) F) C I (⟨b,.cells #[] e (0,0)⟩::M)
     |_,_=>False)
   |none=>False)
  |_,_=>False
 | .makeSlice t l c=>
  match X.E t,bE F l,bE F c with
  |some { bL:=.slice e,.. },.val (.int _ l),.val (.int _ c)=>
   (match X.E e with
   |some aF=>mG l c aF.bytes λn m=>bX I M λb=>K (put o.dst (.val (.slice (some ⟨b,0,none⟩) n m)) F) C I (⟨b,.cells (rowOf aF.zero (m*aF.size)).toArray e (0,0)⟩::M)
   |none=>False)
  |_,_,_=>False
 | .call { callee:=.value f,args,.. }=>
  match bE F f,mH F args.toList with
  | .val (.func (.func g) first cap),some vs=>bc X.foot X.P g (first.toList++vs++cap.toList) I M λv I' M'=>K (put o.dst (.val v) F) C I' M'
  |_,_=>bw X o F C I M K
 |op=>cF X op (di F) C I M (λx=>K (put o.dst x F) C I M) (bw X o F C I M K)
inductive cq(c b:Bool)(Y N:Prop):Prop
 |mk(h:c=b->Y)(bd:c=!b->N)
def ui(X:cV)(ops:List Oper):List Oper->Fr->dB->aI->List aD->gd->Prop
 |[],F,C,I,M,K=>K F C I M
 |o::bi,F,C,I,M,K=>
  match o.guard with
  |none=>gT X o F C I M λF C I M=>ui X ops bi F C I M K
  |some (j,b)=>
   match(ops[j]?).bind (·.dst)with
   |none=>False
   |some d=>
    match F d with
    | .lit c=>bif c == b then gT X o F C I M λF C I M=>ui X ops bi F C I M K else ui X ops bi (put o.dst (.val undef) F) C I M K
    | .val (.bool c)=>cq c b (gT X o (fY F d (.lit b)) C I M λF C I M=>ui X ops bi F C I M K) (ui X ops bi (put o.dst (.val undef) (fY F d (.lit !b))) C I M K)| .val (.tuple _)=>ui X ops bi (put o.dst (.val undef) F) C I M K| _=>False
def hp{a b:Nat}(h:¬ a=b):Nat.beq a b=false:=by
 cases ag:Nat.beq a b with
 |false=>rfl| true=>exact absurd (dQ ag) h
def q0(a:Nat):Nat.beq a a=true:=Nat.beq_refl a
def FN(w:World)(o:Obj){i:Nat}(h:i<w.heap.size):(w.alloc o).heap[i]?=w.heap[i]?:=by show(w.heap.push o)[i]?=_;simp[Array.getElem?_push,Nat.ne_of_lt h]
def NO(w:World)(o:Obj):(w.alloc o).heap[w.heap.size]?=some o:=by show(w.heap.push o)[w.heap.size]?=_;simp
section
variable{X:cV}{β:Nat->Nat}{a:Act}{w:World}{F:Fr}{C:dB}{I:aI}{M:List aD}{o:Oper}{Q:Exit->Act->World->Prop}{next:Act->World->Prop}{K:gd}
def xb(h:∀ t,eU β (F t) (a.tmps.getD t undef))(x:Operand):eU β (di F x) (a.eval x):=by
 cases x with
 |tmp t=>exact h t| const v=>cases v<;>exact rfl
 |global g=>exact rfl| func f=>exact rfl
def dc(h:∀ t,eU β (F t) (a.tmps.getD t undef)){x:Operand}(ad:bE F x=.val v):a.eval x=v:=by
 have aa:=xb h x;unfold bE dw at ad;split at ad
 ·rename_i b ag;rw[ag]at aa;cases ad;exact aa
 ·rw[ad]at aa;exact aa
def uj(h:∀ t,eU β (F t) (a.tmps.getD t undef)){x:Operand}(ad:di F x=.val v):a.eval x=v:=by have aa:=xb h x;rw[ad]at aa;exact aa
def NP(h:∀ t,eU β (F t) (a.tmps.getD t undef)){x:Operand}{b:Bool}(ad:di F x=.lit b):a.eval x=.bool b:=by have aa:=xb h x;rw[ad]at aa;exact aa
def AW(h:∀ t,eU β (F t) (a.tmps.getD t undef)){x:Operand}{s:Nat}(ad:di F x=.ref s off):a.eval x=.pointer (some ⟨β s,off,none⟩):=by have aa:=xb h x;rw[ad]at aa;exact aa
def Ul(h:∀ t,eU β (F t) (a.tmps.getD t undef))(x:Operand):eU β (bE F x) (a.eval x):=by
 have aa:=xb h x;unfold bE dw;split
 ·rename_i b ag;rw[ag]at aa;exact aa
 ·exact aa
def s5(h:∀ t,eU β (F t) (a.tmps.getD t undef)):∀ {xs:List Operand} {vs:List Value},mH F xs=some vs->xs.map a.eval=vs
 |[],vs,ad=>by simp[mH,jX]at ad;simp[ad]
 |x::xs,vs,ad=>by
  unfold mH jX at ad;split at ad;·rename_i v s6 aa ab;cases ad;simp[dc h aa,s5 h ab]
  ·cases ad
def Jv(h:∀ t,eU β (F t) (a.tmps.getD t undef)):∀ {xs:List (Nat×Operand)} {vs:List (Nat×Value)},AV F xs=some vs->(xs.map λ(i,x)=>(i,a.eval x))=vs
 |[],vs,ad=>by simp[AV,s4]at ad;simp[ad]
 |(i,x)::xs,vs,ad=>by
  unfold AV s4 at ad;split at ad;·rename_i v s6 aa ab;cases ad;simp[dc h aa,Jv h ab]
  ·cases ad
def iV(bI:∀ c,o.op≠.defer c)(h:(execOp a.eval o).run X.P w=.ok (.value v) w')(ae:next (a.put o.dst v) w'):o.wpIn (g3 X) 0 X.P a w next Q:=
 ⟨λ_ _=>trivial,by rw[Js _ _ _ bI,h];exact ae⟩
def C8(bI:∀ c,o.op≠.defer c)(h:(execOp a.eval o).run X.P w=.ok .skip w')(ae:next (a.put o.dst undef) w'):o.wpIn (g3 X) 0 X.P a w next Q:=
 ⟨λ_ _=>trivial,by rw[Js _ _ _ bI,h];exact ae⟩
def Um(a:Act)(d t:Nat)(v:Value)(aj:d<a.tmps.size):(a.put (some d) v).tmps.getD t undef=if t=d then v else a.tmps.getD t undef:=by
 simp only[Act.put,pj,C3];by_cases h:t=d
 ·subst h;simp[aj]
 ·simp[h,po h]
def NQ(h:∀ t,eU β (F t) (a.tmps.getD t undef)){d:Nat}{x:dA}(aj:d<a.tmps.size)(ad:eU β x v)(t:Nat):eU β (fY F d x t) ((a.put (some d) v).tmps.getD t undef):=by
 rw[Um a d t v aj];unfold fY;by_cases aa:t=d
 ·subst aa;simp only[q0,ca,p2];exact ad
 ·have:Nat.beq t d=false:=hp aa;simp only[this,b',bU aa];exact h t
def Un(w:World)(g:Nat)(cs:Array Value):oh w (w.setRow g cs):=by
 unfold World.setRow
 first | exact⟨rfl,rfl⟩ | (split<;>exact⟨rfl,rfl⟩)
def Jw(w:World)(g:Nat)(o:Obj):oh w (w.putObj g o):=by unfold World.putObj;exact⟨rfl,rfl⟩
def Marks.mono(h:Marks X a w I M){I':aI}{M':List aD}(hm:∀ r,vE X w I M r->vE X w' I' M' r):Marks X a w' I' M':=by obtain⟨a0,aa,ab,ak⟩:=h;exact⟨a0,aa,ab,λr af=>hm r (ak r af)⟩
def cH.put(h:cH X β a w F C I M){dst:Option Nat}(aj:∀ d,dst=some d->d<X.n){x:dA}(ad:eU β x v):cH X β (a.put dst v) w (put dst x F) C I M:=by
 cases dst with
 |none=>exact h
 |some d=>
  refine { h with size:=?_,defers:=h.defers,al:=?_ };·simp[Act.put,h.size]
  ·exact NQ h.al (by rw[h.size];exact aj d rfl) ad
def ey.heap(h:ey I M w)(cv:w'.heap=w.heap):ey I M w':=
 { i:=by rw[cv];exact h.i,m:=by rw[cv];exact h.m,d:=h.d,cd:=h.cd }
def cH.world(h:cH X β a w F C I M)(cv:w'.heap=w.heap)(aH:oh w w':=by exact⟨rfl,rfl⟩):cH X β a w' F C I M:=
 { h with
  holds:={ i:=by rw[cv];exact h.holds.i,m:=by rw[cv];exact h.holds.m,d:=h.holds.d,cd:=h.holds.cd }
  defers:=h.defers.mono λr af=>{ af with dU:=by rw[cv];exact af.dU }
  cf:=λs cs ar=>{ h.cf s cs ar with dU:=by rw[cv];exact(h.cf s cs ar).dU }
  dE:=by rw[cv];exact h.dE
  out:=h.out.trans aH
  sz:=by rw[cv];exact h.sz }
def ey.alloc(h:ey I M w)(o:Obj):ey I M (w.alloc o) where
 i b x ag:=by have aa:=h.i b x ag;rw[FN w o (lJ.1 aa).1];exact aa
 m x ad:=by have aa:=h.m x ad;rw[FN w o (lJ.1 aa).1];exact aa
 d:=h.d
 cd:=h.cd
def ey.lt(h:ey I M w){x:aD}(ad:x∈M):x.num<w.heap.size:=(lJ.1 (h.m x ad)).1
def ey.C9(h:ey I M w){b:Nat}{o:Obj}(ag:I b=some o):b<w.heap.size:=(lJ.1 (h.i b o ag)).1
def ey.r8(h:ey I M w):I w.heap.size=none:=by
 cases ag:I w.heap.size with
 |none=>rfl| some o=>exact absurd (h.C9 ag) (Nat.lt_irrefl _)
def ey.q1(h:ey I M w):∀ x∈M,x.num≠w.heap.size:=λx ad e=>by have:=h.lt ad;omega
def ey.cons(h:ey I M w)(o:Obj):ey I (⟨w.heap.size,o⟩::M) (w.alloc o) where
 i:=(h.alloc o).i
 m x ad:=by
  rcases ee.1 ad with rfl | ad;·exact NO w o
  ·exact(h.alloc o).m x ad
 d x ad:=by
  rcases ee.1 ad with rfl | ad;·exact h.r8
  ·exact h.d x ad
 cd:=by simp only[cb,kM];refine⟨λhm=>?_,h.cd⟩;obtain⟨x,ad,e⟩:=cC.1 hm;exact h.q1 x ad e
def w8.alloc{b:Nat}{cs:List Value}(h:w8 X w I M b cs)(o:Obj):w8 X (w.alloc o) I M b cs where
 dU:=by obtain⟨T,bs⟩:=h.dU;exact⟨T,by rw[FN w o (lJ.1 bs).1];exact bs⟩
 cQ:=h.cQ
 jW:=h.jW
 eX:=h.eX
def w8.lt{b:Nat}{cs:List Value}(h:w8 X w I M b cs):b<w.heap.size:=by obtain⟨T,bs⟩:=h.dU;exact(lJ.1 bs).1
def w8.NR{b:Nat}{cs:List Value}(h:w8 X w I M b cs)(o:Obj):w8 X (w.alloc o) I (⟨w.heap.size,o⟩::M) b cs where
 dU:=(h.alloc o).dU
 cQ:=h.cQ
 jW:=h.jW
 eX x ad:=by
  rcases ee.1 ad with rfl | ad
  ·exact λe=>by have:=h.lt;simp only at e;omega
  ·exact h.eX x ad
def vE.alloc{r:Nat}(h:vE X w I M r)(o:Obj):vE X (w.alloc o) I M r:=
 { h with dU:=by rw[FN w o (lJ.1 h.dU).1];exact h.dU }
def vE.NR{r:Nat}(h:vE X w I M r)(o:Obj):vE X (w.alloc o) I (⟨w.heap.size,o⟩::M) r:=by
 refine { h.alloc o with eX:=λx ad=>?_ };rcases ee.1 ad with rfl | ad
 ·have aa:=(lJ.1 h.dU).1;simp only;omega
 ·exact h.eX x ad
def NS(h:∀ b,b<X.B->b ∉ X.foot->w.heap[b]?=X.az.heap[b]?)(dj:X.B<=w.heap.size)(o:Obj):∀ b,b<X.B->b ∉ X.foot->(w.alloc o).heap[b]?=X.az.heap[b]?:=λb ag aA=>by rw[FN w o (by omega)];exact h b ag aA
def cH.nS(h:cH X β a w F C I M)(o:Obj):cH X β a (w.alloc o) F C I (⟨w.heap.size,o⟩::M) where
 size:=h.size
 defers:=h.defers.mono λr af=>af.NR o
 holds:=h.holds.cons o
 al:=h.al
 cf s cs ar:=(h.cf s cs ar).NR o
 inj:=h.inj
 h8:=h.h8
 hD:=h.hD
 own x ad:=by
  rcases ee.1 ad with rfl | ad;·exact .inr h.sz
  ·exact h.own x ad
 dE:=NS h.dE h.sz o
 out:=h.out
 sz:=by have:=h.sz;simp;omega
 fm:=h.fm
def cH.NT(h:cH X β a w F C I M)(d:Nat):cH X β a w (p6 F d) (jo C d none) I M where
 size:=h.size
 defers:=h.defers
 holds:=h.holds
 al t:=by
  have aa:=h.al t;unfold p6;cases bG:F t with
  |ref s off=>
   rw[bG]at aa;simp only;cases Nat.beq s d;·exact aa
   ·trivial
  |_=>rw[bG]at aa;exact aa
 cf s cs ar:=by
  unfold jo at ar;cases ag:Nat.beq s d with
  |true=>simp[ag]at ar| false=>simp[ag]at ar;exact h.cf s cs ar
 inj s b3 aa ab:=h.inj s b3 (λe=>aa (by simp[jo,e])) (λe=>ab (by simp[jo,e]))
 h8:=h.h8
 hD:=h.hD
 own:=h.own
 dE:=h.dE
 out:=h.out
 sz:=h.sz
 fm:=h.fm
def cH.Uo(h:cH X β a w F C I M)(d:Nat)(aj:d<X.n)(cs:List Value)(T:Nat) :
  ∃ oi,cH X oi (a.put (some d) (.pointer (some ⟨w.heap.size,0,none⟩))) (w.alloc (.cells cs.toArray T (0,0))) (fY (p6 F d) d (.ref d 0)) (jo C d (some cs)) I M:=by
 have az:=h.NT d;let oi:Nat->Nat:=λs=>if s=d then w.heap.size else β s
 refine⟨oi,?_⟩;have xd:∀ t,eU oi (p6 F d t) (a.tmps.getD t undef):=λt=>by
  have aa:=az.al t;cases bG:p6 F d t with
  |ref s off=>
   rw[bG]at aa;have ar:s≠d:=by
    intro e;subst e;unfold p6 at bG;split at bG
    ·rename_i b3 Jx oj;cases ag:Nat.beq b3 s with
     |true=>simp[ag]at bG| false=>simp[ag]at bG;obtain⟨rfl,_⟩:=bG;simp at ag
    ·rename_i bn;exact bn _ _ bG
   simp only[eU,oi,bU ar];exact aa
  |_=>rw[bG]at aa;exact aa
 exact {
  size:=by simp[Act.put,h.size]
  defers:=h.defers.mono λr af=>af.alloc _
  holds:=h.holds.alloc _
  al:=NQ xd (by rw[h.size];exact aj) (by simp[eU,oi])
  cf:=λs cs' ar=>by
   by_cases e:s=d;·subst e;simp[jo]at ar;subst ar;simp only[oi,bQ rfl];exact { dU:=⟨T,NO w _⟩,cQ:=h.sz,jW:=h.holds.r8,eX:=h.holds.q1 }
   ·have ag:Nat.beq s d=false:=hp e;simp[jo,ag]at ar;simp only[oi,bU e];exact(h.cf s cs' ar).alloc _
  inj:=λs b3 aa ab he=>by
   by_cases e:s=d<;>by_cases cW:b3=d
   ·rw[e,cW]
   ·exfalso;have ag:Nat.beq b3 d=false:=hp cW;simp[jo,ag]at ab;obtain⟨c,ap⟩:=Jp.1 ab;have:=(h.cf b3 c ap).lt;simp only[oi,bQ e,bU cW]at he;omega
   ·exfalso;have ag:Nat.beq s d=false:=hp e;simp[jo,ag]at aa;obtain⟨c,ap⟩:=Jp.1 aa;have:=(h.cf s c ap).lt;simp only[oi,bU e,bQ cW]at he;omega
   ·have ag:Nat.beq s d=false:=hp e;have jq:Nat.beq b3 d=false:=hp cW;simp[jo,ag]at aa;simp[jo,jq]at ab;simp only[oi,bU e,bU cW]at he;exact h.inj s b3 aa ab he
  h8:=h.h8
  hD:=h.hD
  own:=h.own
  dE:=NS h.dE h.sz _
  out:=h.out
  sz:=by have:=h.sz;simp;omega
  fm:=h.fm }
def eP(a:Addr)(h:a.spot=none)(j:Nat):a.add j=⟨a.block,a.off+j,none⟩:=by
 obtain⟨b,o,s⟩:=a;simp only at h;subst h;unfold Addr.add;split<;>simp_all
def s7{b:Nat}(au:w.heap[b]?=some (.cells cs T al))(j:Nat):w.cell? ⟨b,j,none⟩=cs[j]?:=by simp[World.cell?,au]
variable{P:Program}{t:Nat}{i:dD}
def kl.run_sizeOf(h:kl P t i)(w:World):(sizeOf t).run P w=.ok i.size w:=by obtain⟨inf,z,aa,ab,_⟩:=h.inf;simp[sizeOf,typeInfo,aa,ab]
def kl.FO(h:kl P t i)(w:World):∃ z,(zeroValue t).run P w=.ok z w/\z.cells.toList=i.zero:=by obtain⟨inf,z,aa,ab,ak,aJ,bB⟩:=h.inf;exact⟨z,by simp[zeroValue,typeInfo,aa,aJ],bB⟩
def kl.ae8(h:kl P t i)(w:World):∃ d,(underlying t).run P w=.ok d w/\fk d=i.bL:=by obtain⟨d,aa,ab⟩:=h.fl;exact⟨d,run_underlying aa w,ab⟩
def kl.Up(h:kl P t i)(w:World):(isAgg t).run P w=.ok i.bL.agg w:=by
 obtain⟨d,aa,ab⟩:=h.ae8 w;rw[<-ab];unfold isAgg;simp only[cj,aa,bV];cases d<;>rfl
def ae9(ay:vs.length=1):vs=[vs.headD undef]:=by
 match vs,ay with
 |[v],_=>rfl
def Jy(h:kl P t i){a:Addr}(ar:a.spot=none)(au:w.heap[a.block]?=some (.cells cs T al))
  (ah:(cs.toList.drop a.off).take i.size=vs) (ay:vs.length=i.size):(loadVar t a).run P w=.ok (pack i.bL.agg vs) w:=by
 have ap:∀ j v,vs[j]?=some v->w.cell? (a.add j)=some v:=by
  intro j v ai;rw[eP a ar,s7 au];rw[<-ah,k6]at ai;split at ai;·rw[nj]at ai;simpa using ai
  ·cases ai
 unfold loadVar;simp only[cj,h.Up,bV];cases FP:i.bL.agg with
 |true=>simp only[p2,cj,h.run_sizeOf,bV,<-ay];rw[run_loadCells_list w a vs ap];simp[pack]| false=>have aa:=h.Jt FP;rw[aa]at ay;have iH:=ae9 ay;have:=ap 0 (vs.headD undef) (by rw[iH];simp);have a2:a.add 0=a:=rfl;rw[a2]at this;simp[this,pack]
def yJ(h:gm vs=true):∀ v∈vs,v.oneCell'=true:=by simpa[gm]using h
def Jz(h:kl P t i){a:Addr}(ar:a.spot=none)(au:w.heap[a.block]?=some (.cells cs T (0,0)))(dj:v.cells.size=i.size)(ag:a.off+v.cells.toList.length<=cs.size)(aa:gm v.cells.toList=true) :
  (storeVar t a v).run P w=.ok () (w.setRow a.block (ck cs.toList a.off v.cells.toList).toArray):=by
 obtain⟨b,o,s⟩:=a;simp only at ar au ag;subst ar;unfold storeVar;simp only[cj,h.run_sizeOf,bV,dj,ne_eq,not_true,l5,Sem.run_ite];have:=run_storeCells_at (P:=P) b o T v.cells.toList 0 cs w au (by simpa using ag) (yJ aa);simp only[pk]at this;simp only[ck];simpa using this
def cH.Uq(h:cH X β a w F C I M){s:Nat}{cs:List Value}(ar:C s=some cs)(cs':List Value):cH X β a (w.setRow (β s) cs'.toArray) F (jo C s (some cs')) I M:=by
 have ag:=h.cf s cs ar;obtain⟨T,bs⟩:=ag.dU;exact {
  size:=h.size
  defers:=h.defers.mono λr af=>by refine { af with dU:=?_ };rw[setRow_other _ _ _ _ (λe=>by have aa:=af.dU;rw[e,bs]at aa;cases aa)];exact af.dU
  holds:={
   i:=λb o jY=>by rw[setRow_other _ _ _ _ (λe=>by rw[e,ag.jW]at jY;cases jY)];exact h.holds.i b o jY
   m:=λx ad=>by rw[setRow_other _ _ _ _ (ag.eX x ad)];exact h.holds.m x ad
   d:=h.holds.d
   cd:=h.holds.cd }
  al:=h.al
  cf:=λb3 c' om=>by
   by_cases e:b3=s;·subst e;simp[jo,q0]at om;subst om;exact { dU:=⟨T,setRow_heap _ _ _ _ _ _ bs⟩,cQ:=ag.cQ,jW:=ag.jW,eX:=ag.eX }
   ·simp[jo,hp e]at om;have jq:=h.cf b3 c' om;obtain⟨l',FQ⟩:=jq.dU;refine { dU:=⟨l',?_⟩,cQ:=jq.cQ,jW:=jq.jW,eX:=jq.eX };rw[setRow_other _ _ _ _ (λcW=>e (h.inj b3 s (by simp[om]) (by simp[ar]) cW))];exact FQ
  inj:=λs1 s2 aa ab=>h.inj s1 s2 (λe=>by
    unfold jo at aa;cases aP:Nat.beq s1 s with
    |true=>have:=dQ aP;subst this;rw[ar]at e;cases e| false=>rw[aP]at aa;exact aa e) (λe=>by
    unfold jo at ab;cases aP:Nat.beq s2 s with
    |true=>have:=dQ aP;subst this;rw[ar]at e;cases e| false=>rw[aP]at ab;exact ab e)
  h8:=h.h8
  hD:=h.hD
  own:=h.own
  dE:=λb jq aA=>by rw[setRow_other _ _ _ _ (λe=>by have:=ag.cQ;omega)];exact h.dE b jq aA
  out:=h.out.trans (Un _ _ _)
  sz:=by have:=h.sz;simpa using this
  fm:=h.fm }
def cH.xe(h:cH X β a w F C I M){a9 post:List aD}{g:Nat}{cs':Array Value}(a':M=a9++⟨g,.cells cs T (0,0)⟩::post) :
  cH X β a (w.setRow g cs') F C I (a9++⟨g,.cells cs' T (0,0)⟩::post):=by
 subst a';have f':(⟨g,.cells cs T (0,0)⟩:aD)∈a9++⟨g,.cells cs T (0,0)⟩::post:=by simp
 have au:w.heap[g]?=some (.cells cs T (0,0)):=h.holds.m _ f';have bI:=h.holds.cd;simp only[cP,cb]at bI;have bn:∀ x,x∈a9\/x∈post->x.num≠g:=by
  intro x ad e;rw[r5]at bI;obtain⟨_,ab,ak⟩:=bI;rcases ad with ad | ad;·exact ak x.num (cC.2 ⟨x,ad,rfl⟩) g (by simp) e
  ·rw[kM]at ab;exact ab.1 (cC.2 ⟨x,ad,e⟩)
 have mem:∀ x,x∈a9++(⟨g,.cells cs' T (0,0)⟩:aD)::post->x=⟨g,.cells cs' T (0,0)⟩\/(x∈a9\/x∈post):=by
  intro x ad;simp only[cE,ee]at ad;rcases ad with ad | ad | ad;·exact .inr (.inl ad)
  ·exact .inl ad
  ·exact .inr (.inr ad)
 have back:∀ x,x∈a9\/x∈post->x∈a9++(⟨g,.cells cs T (0,0)⟩:aD)::post:=by
  intro x ad;simp only[cE,ee];rcases ad with ad | ad;·exact .inl ad
  ·exact .inr (.inr ad)
 exact {
  size:=h.size
  defers:=h.defers.mono λr af=>by
   have AX:g≠r:=af.eX _ f';refine { af with dU:=?_,eX:=λx ad=>?_ };·rw[setRow_other _ _ _ _ (po AX)];exact af.dU
   ·rcases mem x ad with rfl | ad
    ·exact AX
    ·exact af.eX x (back x ad)
  holds:={
   i:=λb o jY=>by rw[setRow_other _ _ _ _ (λe=>by have:=h.holds.d _ f';simp only at this;rw[e,this]at jY;cases jY)];exact h.holds.i b o jY
   m:=λx ad=>by
    rcases mem x ad with rfl | ad;·exact setRow_heap _ _ _ _ _ _ au
    ·rw[setRow_other _ _ _ _ (bn x ad)];exact h.holds.m x (back x ad)
   d:=λx ad=>by
    rcases mem x ad with rfl | ad;·exact h.holds.d ⟨g,.cells cs T (0,0)⟩ f'
    ·exact h.holds.d x (back x ad)
   cd:=by simpa[cP]using bI }
  al:=h.al
  cf:=λs c ar=>by
   have ag:=h.cf s c ar;obtain⟨l',FQ⟩:=ag.dU;have yK:g≠β s:=ag.eX _ f';refine { dU:=⟨l',?_⟩,cQ:=ag.cQ,jW:=ag.jW,eX:=λx ad=>?_ };·rw[setRow_other _ _ _ _ (po yK)];exact FQ
   ·rcases mem x ad with rfl | ad
    ·exact yK
    ·exact ag.eX x (back x ad)
  inj:=h.inj
  h8:=h.h8
  hD:=h.hD
  own:=λx ad=>by
   rcases mem x ad with rfl | ad;·exact h.own ⟨g,.cells cs T (0,0)⟩ f'
   ·exact h.own x (back x ad)
  dE:=λb ag aA=>by
   rw[setRow_other _ _ _ _ (λe=>by
    rcases h.own _ f' with aa | aa;·simp only at aa;exact aA (e ▸ aa)
    ·simp only at aa;omega)]
   exact h.dE b ag aA
  out:=h.out.trans (Un _ _ _)
  sz:=by have:=h.sz;simpa using this
  fm:=h.fm }
def h6.heap(h:ey I M w){b:Nat}{o:Obj}(ae:h6 I M b o):w.heap[b]?=some o:=by
 rcases ae with ae | ⟨x,ad,rfl,rfl⟩
 ·exact h.i b o ae
 ·exact h.m x ad
def afa{aR:List Value}{x:Value}{xs:List Value}(h:off+1+xs.length<=aR.length):ck (aR.set off x) (off+1) xs=ck aR off (x::xs):=by
 unfold ck;rw[List.take_set,List.drop_set,bQ (by omega),fZ (by omega:off<aR.length)];have e:(List.take off aR++[aR[off]'(by omega)]).set off x=List.take off aR++[x]:=by rw[List.set_append,bU (by simp;omega)];simp[ud (by omega:off<=aR.length)]
 rw[e];simp[s0,C4 1]
def Ur(off:Nat):∀ (xs:List Value) (k:Nat) (aR:List Value),off+k+xs.length<=aR.length -> (xs.zipIdx k).foldl (λ(cs:Array Value) (p:Value×Nat)=>cs.setIfInBounds (off+p.2) p.1) aR.toArray=(ck aR (off+k) xs).toArray
 |[],k,aR,_=>by simp[ck]
 |x::xs,k,aR,ay=>by simp only[dx]at ay;simp only[List.zipIdx_cons,jn];rw[List.setIfInBounds_toArray,Ur off xs (k+1) _ (by simp;omega)];rw[show off+(k+1)=off+k+1 from by omega,afa (by omega)]
def fill_eq(place:Nat->Option (Nat×Nat)):∀ (vs:List (Nat×Value)) (cells r:List Value),s3 place cells vs=some r->Instr.fill place cells.toArray vs=some r.toArray
 |[],cells,r,h=>by simp[s3]at h;simp[Instr.fill,h]
 |(i,v)::bi,cells,r,h=>by
  unfold s3 at h;unfold Instr.fill;split at h;·cases h
  ·rename_i off size aC;simp only[aC];cases ap:(Nat.beq v.cells.size size&&Nat.ble (off+size) cells.length)with
   |false=>rw[ap]at h;cases h
   |true=>
    rw[ap]at h;simp only[ca]at h;rw[cB]at ap;have aa:=dQ ap.1;have ab:=bJ ap.2;have aG:decide (v.cells.size≠size)=false:=by simp[aa]
    have a7:decide (off+v.cells.size > cells.toArray.size)=false:=by simp;omega
    rw[aG,a7];simp only[Bool.or_false,k7,l5];have aN:=fill_eq place bi _ r h;rw[<-aN];congr 1;have:=Ur off v.cells.toList 0 cells (by simp;omega);simp only[pk]at this;rw[<-this,<-NK];simp
end
def h7.le{I I':aI}{M M':List aD}(h:h7 foot I M I' M')(la:ey I M w):(∀ b o,I b=some o->I' b=some o)/\ey I' M' w /\
  (∀ b o,I' b=some o->I b=some o\/∃ x∈M,x.num=b/\x.obj=o/\b ∉ foot)/\(∀ x∈M',x∈M):=by
 induction h with
 |refl=>exact⟨λ_ _ h=>h,la,λ_ _ h=>.inl h,λ_ h=>h⟩
 | @sub I M M1 I' M' ar k aN=>
  have aa:ey I M1 w:=⟨la.i,λx ad=>la.m x (ar.subset ad),λx ad=>la.d x (ar.subset ad),(ar.map _).nodup la.cd⟩;obtain⟨cL,dW,ei,ha⟩:=aN aa;refine⟨cL,dW,λb o ag=>?_,λx ad=>ar.subset (ha x ad)⟩;rcases ei b o ag with h | ⟨x,ad,h⟩;·exact .inl h
  ·exact .inr ⟨x,ar.subset ad,h⟩
 | @perm I M M1 I' M' aC k aN=>
  have aa:ey I M1 w:=⟨la.i,λx ad=>la.m x (aC.mem_iff.2 ad),λx ad=>la.d x (aC.mem_iff.2 ad),(aC.map _).nodup_iff.1 la.cd⟩;obtain⟨cL,dW,ei,ha⟩:=aN aa;refine⟨cL,dW,λb o ag=>?_,λx ad=>aC.mem_iff.2 (ha x ad)⟩;rcases ei b o ag with h | ⟨x,ad,h⟩;·exact .inl h
  ·exact .inr ⟨x,aC.mem_iff.2 ad,h⟩
 | @kN I M I' M' b o post a' aA k aN=>
  subst a';have bI:=la.cd;simp only[cb,kM]at bI;have ag:=la.d ⟨b,o⟩ (by simp);simp only at ag;have aa:ey (ins I b o) post w:={
   i:=λiI o' h=>by
    unfold ins at h;by_cases e:iI=b;·subst e;simp only[q0,ca,kk]at h;subst h;exact la.m ⟨iI,o⟩ (by simp)
    ·simp only[hp e,b']at h;exact la.i _ _ h
   m:=λx ad=>la.m x (by simp[ad])
   d:=λx ad=>by unfold ins;have e:x.num≠b:=λe=>bI.1 (cC.2 ⟨x,ad,e⟩);simp only[hp e,b'];exact la.d x (by simp[ad])
   cd:=bI.2 }
  obtain⟨cL,dW,ei,ha⟩:=aN aa;refine⟨λiI o' h=>cL iI o' ?_,dW,λiI o' h=>?_,λx ad=>by simp[ha x ad]⟩
  ·unfold ins;by_cases e:iI=b
   ·subst e;rw[ag]at h;cases h
   ·simp only[hp e,b'];exact h
  ·rcases ei iI o' h with h | ⟨x,ad,h⟩
   ·unfold ins at h;by_cases e:iI=b
    ·subst e;simp only[q0,ca,kk]at h;exact .inr ⟨⟨iI,o⟩,by simp,rfl,h,aA⟩
    ·simp only[hp e,b']at h;exact .inl h
   ·exact .inr ⟨x,by simp[ad],h⟩
def cH.hS{X:cV}{β:Nat->Nat}{F:Fr}{C:dB}{I I':aI}{M M':List aD}(h:cH X β a w F C I M)(hw:h7 X.foot I M I' M'):cH X β a w F C I' M':=by
 obtain⟨cL,dW,ei,ha⟩:=hw.le h.holds;exact { h with
  holds:=dW
  defers:=h.defers.mono λr af=>by
   refine { af with jW:=?_,eX:=λx ad=>af.eX x (ha x ad) };cases bt:I' r with
   |none=>rfl
   |some o=>
    exfalso;rcases ei _ _ bt with aa | ⟨x,ad,aa,_⟩;·rw[af.jW]at aa;cases aa
    ·exact af.eX x ad aa
  cf:=λs cs ar=>{ h.cf s cs ar with
   jW:=by
    cases bt:I' (β s)with
    |none=>rfl
    |some o=>
     exfalso;rcases ei _ _ bt with aa | ⟨x,ad,aa,_⟩;·rw[(h.cf s cs ar).jW]at aa;cases aa
     ·exact(h.cf s cs ar).eX x ad aa
   eX:=λx ad=>(h.cf s cs ar).eX x (ha x ad) }
  h8:=λb o ag=>cL b o (h.h8 b o ag)
  hD:=λb o ag=>by
   rcases ei b o ag with aa | ⟨x,ad,rfl,_,aA⟩;·exact h.hD b o aa
   ·exact .inr ((h.own x ad).resolve_left aA)
  own:=λx ad=>h.own x (ha x ad) }
section
variable{X:cV}{β:Nat->Nat}{a:Act}{w:World}{F:Fr}{C:dB}{I:aI}{M:List aD}{o:Oper}{Q:Exit->Act->World->Prop}{K:gd}
def Us(h:cH X β a w F C I M)(aj:∀ d,o.dst=some d->d<X.n)(bI:∀ c,o.op≠.defer c){x:dA}(af:(execOp a.eval o).run X.P w=.ok (.value v) w)(ad:eU β x v)(ae:K (put o.dst x F) C I M):o.wpIn (g3 X) 0 X.P a w (Sat X K) Q:=
 iV bI af ⟨_,_,_,_,⟨β,h.put aj ad⟩,ae⟩
def vG(h:cH X β a w F C I M)(aj:∀ d,o.dst=some d->d<X.n)(bI:∀ c,o.op≠.defer c)(af:(execOp a.eval o).run X.P w=.ok (.value v) w)(ae:K (put o.dst (.val v) F) C I M):o.wpIn (g3 X) 0 X.P a w (Sat X K) Q:=
 Us (x:=.val v) h aj bI af rfl ae
def oo(k:IntKind)(n:Int)(w:World)(P:Program):(asIntOf (.int k n)).run P w=.ok (k,n) w:=rfl
def IntKind.Da{k eZ:IntKind}(h:IntKind.mI k eZ=true):k=eZ:=by cases k<;>cases eZ<;>first | rfl | cases h
def oq(op:BinOp)(t:Nat)(x y:Operand)(k eZ:IntKind)(n m:Int)(P:Program)(w:World):(eqGuard op t x y (.int k n) (.int eZ m)).run P w=.ok () w:=by
 unfold eqGuard;cases op<;>rfl
def NU(op:BinOp)(t:Nat)(x y:Operand)(n m:ByteArray)(P:Program)(w:World):(eqGuard op t x y (.string n) (.string m)).run P w=.ok () w:=by
 unfold eqGuard;cases op<;>rfl
def Ut(op:BinOp)(t:Nat)(x y:Operand)(n m:Bool)(P:Program)(w:World):(eqGuard op t x y (.bool n) (.bool m)).run P w=.ok () w:=by
 unfold eqGuard;cases op<;>rfl
def Uu(a b:ByteArray):(a.toList == b.toList)=decide (a=b):=by
 rw[r6];simp only[beq_iff_eq,hR];constructor
 ·intro h;have aa:a.data.toList=b.data.toList:=by rw[ByteArray.toList_eq,ByteArray.toList_eq]at h;exact h
  cases a;cases b;simp only[ByteArray.mk.injEq];exact gS aa
 ·intro h;rw[h]
def run_equal_bool{t:Nat}(hu:P.underlying t=some .bool)(a b:Bool)(w:World):(Op.equal t (.bool a) (.bool b)).run P w=.ok (a == b) w:=by
 have key:∀ d,(Op.equalIn (d+1) t (.bool a) (.bool b)).run P w=.ok (a == b) w:=λd=>by simp only[Op.equalIn,cj,run_underlying hu,bV,c0]
 exact key 9999
def afb(aM:cU X.P X.E)(op:BinOp)(t:Nat)(x y:Operand)(u v:dA)(ma xf:Value)(ad:u=.val ma)(aE:v=.val xf)(Uv:Value->Prop)(other:Prop)
  (h:lK op (X.E t) u v Uv other):other\/∃ r,(∀ w,(do eqGuard op t x y ma xf;binOp op t ma xf:Sem Value).run X.P w=.ok r w)/\Uv r:=by
 subst ad;subst aE;unfold lK at h;split at h
 ·rename_i k a eZ b aG a7;cases aG;cases a7
  right
  split at h;·obtain⟨j,rfl,⟨r,af,ae⟩⟩:=h;refine⟨_,λw=>?_,ae⟩;simp only[cj,oq,bV,binOp,Op.shift];rw[bU (by omega)];simp[af]
  ·obtain⟨j,rfl,ae⟩:=h;refine⟨_,λw=>?_,ae⟩;simp only[cj,oq,bV,binOp,Op.shift];rw[bU (by omega)];simp
  ·rename_i fo ik;cases fc:IntKind.mI k eZ with
   |false=>rw[fc]at h;exact h.elim
   |true=>
    rw[fc]at h;have kO:=IntKind.Da fc;subst kO;simp only[ca]at h;cases op<;>simp only at h
    case add=>obtain⟨r,af,ae⟩:=h;exact⟨_,λw=>by simp[oq,binOp,Op.intArith,af],ae⟩
    case sub=>obtain⟨r,af,ae⟩:=h;exact⟨_,λw=>by simp[oq,binOp,Op.intArith,af],ae⟩
    case mul=>obtain⟨r,af,ae⟩:=h;exact⟨_,λw=>by simp[oq,binOp,Op.intArith,af],ae⟩
    case quo=>obtain⟨az,r,af,ae⟩:=h;exact⟨_,λw=>by simp[oq,binOp,Op.intDiv,az,af],ae⟩
    case rem=>obtain⟨az,ae⟩:=h;exact⟨_,λw=>by simp[oq,binOp,Op.intDiv,az],ae⟩
    case and=>exact⟨_,λw=>by simp[oq,binOp,Op.intBits,ug],h⟩
    case or=>exact⟨_,λw=>by simp[oq,binOp,Op.intBits,ug],h⟩
    case xor=>exact⟨_,λw=>by simp[oq,binOp,Op.intBits,ug],h⟩
    case andNot=>exact⟨_,λw=>by simp[oq,binOp,Op.intBits,ug],h⟩
    case shl=>exact(fo rfl).elim
    case shr=>exact(ik rfl).elim
    case eql=>exact⟨_,λw=>by simp only[cj,oq,bV,binOp,Op.intCmp,w6];simp;rfl,h⟩
    case neq=>exact⟨_,λw=>by simp only[cj,oq,bV,binOp,Op.intCmp,w6];simp;rfl,h⟩
    case lss=>exact⟨_,λw=>by simp[oq,binOp,Op.intCmp,w6],h⟩
    case leq=>exact⟨_,λw=>by simp[oq,binOp,Op.intCmp,w6],h⟩
    case gtr=>exact⟨_,λw=>by simp[oq,binOp,Op.intCmp,w6],h⟩
    case geq=>exact⟨_,λw=>by simp[oq,binOp,Op.intCmp,w6],h⟩
 ·rename_i a b aG a7;cases aG;cases a7;split at h
  ·exact .inr ⟨_,λw=>by simp only[cj,NU,bV,binOp,Op.stringOp,c0,Uu],h⟩
  ·exact .inr ⟨_,λw=>by simp only[cj,NU,bV,binOp,Op.stringOp,c0,Uu],h⟩
  ·exact .inl h
 ·rename_i a b aG a7;cases aG;cases a7;split at h
  ·rename_i c7 sz hC z av;obtain⟨d,hu,aj⟩:=(aM _ _ av).fl;have fy:d=.bool:=by cases d<;>simp_all[fk]
   subst fy;split at h;·exact .inr ⟨_,λw=>by simp only[cj,Ut,bV,binOp,run_equal_bool hu,c0],h⟩
   ·exact .inr ⟨_,λw=>by simp only[cj,Ut,bV,binOp,run_equal_bool hu,c0],h⟩
   ·exact .inl h
  ·exact .inl h
 ·exact .inl h
def NV{args:Array Value}(h:Calls P f args w R)(n:Nat):CallsIn (g3 X) n P f args w R:=by have aa:=(callsIn_wide (n:=n)).2 h;exact⟨trivial,λcs af=>aa.2 cs (room_wide _)⟩
def ey.part(h:ey I M w){ep Mr:List aD}(a':M.Perm (ep++Mr)):ey I ep w:=by
 have e6:∀ x,x∈M ↔ x∈ep\/x∈Mr:=λx=>by rw[a'.mem_iff,cE]
 have bI:((ep++Mr).map (·.num)).Nodup:=(a'.map (·.num)).nodup_iff.1 h.cd;rw[cP,r5]at bI;exact⟨h.i,λx ad=>h.m x ((e6 x).2 (.inl ad)),λx ad=>h.d x ((e6 x).2 (.inl ad)),bI.1⟩
def cH.after(h:cH X β a w F C I M){ep Mr M':List aD}{I':aI}(a':M.Perm (ep++Mr))(q2:ey I' M' w')(dX:Kept I ep w I' M' w'):cH X β a w' F C I' (M'++Mr):=by
 have e6:∀ x,x∈M ↔ x∈ep\/x∈Mr:=λx=>by rw[a'.mem_iff,cE]
 have bI:((ep++Mr).map (·.num)).Nodup:=(a'.map (·.num)).nodup_iff.1 h.holds.cd;rw[cP,r5]at bI;have Uw:∀ x∈Mr,∀ y∈ep,y.num≠x.num:=λx ad y aE=>bI.2.2 y.num (cC.2 ⟨y,aE,rfl⟩) x.num (cC.2 ⟨x,ad,rfl⟩);have afc:∀ x∈Mr,w'.heap[x.num]?=w.heap[x.num]?:=λx ad=>
  dX.dE x.num (h.holds.lt ((e6 x).2 (.inr ad))) (Uw x ad)
 exact {
  size:=h.size
  defers:=h.defers.mono λr af=>by
   have aV:=(lJ.1 af.dU).1;refine { dU:=?_,cQ:=af.cQ,jW:=?_,eX:=λx ad=>?_ };·rw[dX.dE _ aV (λy aE=>af.eX y ((e6 y).2 (.inl aE)))];exact af.dU
   ·cases bt:I' r with
    |none=>rfl
    |some o=>
     exfalso;rcases dX.uh _ _ bt with aa | aa;·rw[af.jW]at aa;cases aa
     ·omega
   ·rcases cE.1 ad with ad | ad
    ·rcases dX.vC x ad with⟨z,bb,AY⟩ | aa
     ·rw[<-AY];exact af.eX z ((e6 z).2 (.inl bb))
     ·omega
    ·exact af.eX x ((e6 x).2 (.inr ad))
  holds:={
   i:=q2.i
   m:=λx ad=>by
    rcases cE.1 ad with ad | ad;·exact q2.m x ad
    ·rw[afc x ad];exact h.holds.m x ((e6 x).2 (.inr ad))
   d:=λx ad=>by
    rcases cE.1 ad with ad | ad;·exact q2.d x ad
    ·cases bt:I' x.num with
     |none=>rfl
     |some o=>
      exfalso;rcases dX.uh _ _ bt with aa | aa;·have:=h.holds.d x ((e6 x).2 (.inr ad));rw[this]at aa;cases aa
      ·have:=h.holds.lt ((e6 x).2 (.inr ad));omega
   cd:=by
    rw[cP,r5];refine⟨q2.cd,bI.2.1,λp aC q aP e=>?_⟩;obtain⟨x,ad,rfl⟩:=cC.1 aC;obtain⟨y,aE,rfl⟩:=cC.1 aP;rcases dX.vC x ad with⟨z,bb,AY⟩ | aa;·exact Uw y aE z bb (AY.trans e)
    ·have:=h.holds.lt ((e6 y).2 (.inr aE));omega }
  al:=h.al
  cf:=λs cs ar=>by
   have ag:=h.cf s cs ar;obtain⟨T,bs⟩:=ag.dU;refine { dU:=⟨T,?_⟩,cQ:=ag.cQ,jW:=?_,eX:=λx ad=>?_ };·rw[dX.dE _ ag.lt (λy aE=>ag.eX y ((e6 y).2 (.inl aE)))];exact bs
   ·cases bt:I' (β s)with
    |none=>rfl
    |some o=>
     exfalso;rcases dX.uh _ _ bt with aa | aa;·rw[ag.jW]at aa;cases aa
     ·have:=ag.lt;omega
   ·rcases cE.1 ad with ad | ad
    ·rcases dX.vC x ad with⟨z,bb,AY⟩ | aa
     ·rw[<-AY];exact ag.eX z ((e6 z).2 (.inl bb))
     ·have:=ag.lt;omega
    ·exact ag.eX x ((e6 x).2 (.inr ad))
  inj:=h.inj
  h8:=λb o ag=>dX.le b o (h.h8 b o ag)
  hD:=λb o ag=>by
   rcases dX.uh b o ag with aa | aa;·exact h.hD b o aa
   ·exact .inr (k9 h.sz aa)
  own:=λx ad=>by
   rcases cE.1 ad with ad | ad
   ·rcases dX.vC x ad with⟨z,bb,AY⟩ | aa
    ·rw[<-AY];exact h.own z ((e6 z).2 (.inl bb))
    ·exact .inr (k9 h.sz aa)
   ·exact h.own x ((e6 x).2 (.inr ad))
  dE:=λb ag aA=>by
   rw[dX.dE b (Jr ag h.sz) (λy aE e=>by
    rcases h.own y ((e6 y).2 (.inl aE))with aa | aa;·exact aA (e ▸ aa)
    ·omega)]
   exact h.dE b ag aA
  out:=h.out.trans dX.out
  sz:=k9 h.sz dX.sz
  fm:=h.fm }
def cH.call(h:cH X β a w F C I M){KC:Value->aI->List aD->Prop}(ap:bc X.foot P f args I M KC) :
  (NN P f/\Calls P f args.toArray w λe w'=>∃ v I' M',e=.returned v/\KC v I' M'/\cH X β a w' F C I' M')\/(∃ v w' I' M',(callFunc f args.toArray).run P w=.ok (.value v) w'/\KC v I' M'/\cH X β a w' F C I' M'):=by
 obtain⟨I1,ep,Mr,post,hT,⟨p7,ar⟩ | ar,ae⟩:=ap.elim ⟨h.holds.d,h.holds.cd⟩<;>have h:=h.hS hT<;>have a':=List.Perm.refl (ep++Mr)
 ·refine .inl ⟨p7,?_⟩;refine(ar w (h.holds.part a')).mono ?_;rintro e w'⟨v,I',M',rfl,aC,q2,dX⟩;have a2:=h.after a' q2 dX;exact⟨v,I',M'++Mr,rfl,ae v I' M' dX.le a2.holds.d aC,a2⟩
 ·obtain⟨v,w',I',M',af,aC,q2,dX⟩:=ar w (h.holds.part a');have a2:=h.after a' q2 dX;exact .inr ⟨v,w',I',M'++Mr,af,ae v I' M' dX.le a2.holds.d aC,a2⟩
def Ux{args:Array Value}(bI:∀ c,o.op≠.defer c)(af:(execOp a.eval o).run X.P w=.ok (.enter f args) w)
  (ap:Calls X.P f args w λe w'=>∃ v,e=.returned v/\next (a.put o.dst v) w'):o.wpIn (g3 X) 0 X.P a w next Q:=by
 refine⟨λ_ _=>trivial,?_⟩;rw[Js _ _ _ bI,af];refine⟨(λh=>by cases h),?_⟩;refine(NV ap _).mono ?_;rintro e w'⟨v,rfl,h⟩;exact h
def Uy(z:Value)(e7:List Value)(h:z.cells.toList=e7)(n:Nat):(Array.range n).map (z.cells[· % z.cells.size]!)=(rowOf e7 n).toArray:=by subst h;apply gS;simp[vF,madeCells]
def kl.struct{t:Nat}{cN:List (Nat×Nat)}(h:kl P t ⟨sz,hC,z,.struct cN⟩):∃ fields,P.underlying t=some (.struct fields)/\cN=fields.toList.map λf=>(f.type,f.offset):=by
 obtain⟨d,aa,ab⟩:=h.fl;cases d<;>simp[fk]at ab
 exact⟨_,aa,ab.symm⟩
def kl.slice{t:Nat}(h:kl P t ⟨sz,hC,z,.slice e⟩):P.underlying t=some (.slice e):=by
 obtain⟨d,aa,ab⟩:=h.fl;cases d<;>simp[fk]at ab
 rw[aa,ab]
def kl.array{t:Nat}(h:kl P t ⟨sz,hC,z,.array n e⟩):P.underlying t=some (.array n e):=by
 obtain⟨d,aa,ab⟩:=h.fl;cases d<;>simp[fk]at ab
 rw[aa,ab.1,ab.2]
def kl.string{t:Nat}(h:kl P t ⟨sz,hC,z,.string⟩):P.underlying t=some .string:=by
 obtain⟨d,aa,ab⟩:=h.fl;cases d<;>simp[fk]at ab
 exact aa
def kl.int{P:Program}{t sz hC:Nat}{z:List Value}{k:IntKind}(h:kl P t ⟨sz,hC,z,.int k⟩):P.underlying t=some (.int k):=by
 obtain⟨d,aa,ab⟩:=h.fl;cases d<;>simp[fk]at ab
 rw[aa,ab]
def Uz{fields:Array Field}{i fm:Nat}(h:(fields.toList.map λf=>(f.type,f.offset))[i]?=some (fm,off)):∃ f,fields[i]?=some f/\f.type=fm/\f.offset=off:=by
 simp only[iG,Array.getElem?_toList]at h;cases aA:fields[i]? with
 |none=>simp[aA]at h| some f=>simp[aA]at h;exact⟨f,rfl,h.1,h.2⟩
def NW{t:Nat}{i:dD}(h:kl P t i)(bp:off+i.size<=cs.size)(w:World):(part t cs off).run P w=.ok (pack i.bL.agg ((cs.toList.drop off).take i.size)) w:=by
 unfold part;simp only[cj,h.Up,bV];cases FP:i.bL.agg with
 |true=>simp only[p2,cj,h.run_sizeOf,bV,c0,pack,ca];congr 2;apply gS;simp[List.take_drop]
 |false=>
  have aa:=h.Jt FP;rw[aa]at bp |-;have aV:off<cs.size:=by omega
  simp only[k7,l5,NI aV,c0,pack,b'];congr 1;rw[eR (by simpa using aV)];simp
def afd{t:Nat}{aF:dD}(av:P.underlying t=some (.slice e))(he:kl P e aF){c:Nat}{j:Nat}(ai:j<n)(w:World) :
  (Instr.indexAt t (.slice (some aS) n c) (.int gb j)).run P w=.ok (.pointer (some (aS.add (j*aF.size)))) w:=by
 unfold Instr.indexAt;simp only[cj,oo,bV,run_underlying av,c0];rw[bQ ⟨by omega,by omega⟩];simp[he.run_sizeOf]
def UA{t:Nat}{aF:dD}(av:P.underlying t=some (.array m e))(he:kl P e aF){j:Nat}(ai:j<m)(w:World) :
  (Instr.indexAt t (.pointer (some aS)) (.int gb j)).run P w=.ok (.pointer (some (aS.add (j*aF.size)))) w:=by
 unfold Instr.indexAt;simp only[cj,oo,bV,run_underlying av,c0,Instr.sureAddr];rw[bQ ⟨by omega,by omega⟩];simp[he.run_sizeOf]
def UB{P:Program}{E:Env}(aM:cU P E)(w:World):∀ (fields:List Field),C7 E (fields.map λf=>(f.type,f.offset))=true -> ∃ l:List (Nat×Nat),(fields.mapM λf=>(do pure (f.offset,<-sizeOf f.type):Sem (Nat×Nat))).run P w=.ok l w/\∀ i,l[i]?=places E (fields.map λf=>(f.type,f.offset)) i
 |[],_=>⟨[],rfl,λi=>by simp[places]⟩
 |f::cN,h=>by
  simp only[C7,cb,w4,cB]at h;obtain⟨hh,lb⟩:=Option.isSome_iff_exists.1 h.1;obtain⟨l,aa,ab⟩:=UB aM w cN h.2;refine⟨(f.offset,hh.size)::l,?_,λi=>?_⟩;·simp only[FJ,cj,(aM _ _ lb).run_sizeOf,bV,c0];rw[aa];rfl
  ·cases i with
   |zero=>simp[places,lb]| succ i=>simp only[FH,ab];simp[places]
def UC(aM:cU X.P X.E)(h:cH X β a w F C I M){yL:dA->Prop}{other:Prop}(op:Op)(ty:TypeId)(dst:Option Tmp)(pos:String)(after:Array Edge)(guard:Option (Nat×Bool))(ah:cF X op (di F) C I M yL other) :
  other\/∃ v x,(execOp a.eval ⟨dst,op,ty,pos,after,guard⟩).run X.P w=.ok (.value v) w/\eU β x v/\yL x:=by
 have done:∀ {v x},(execOp a.eval ⟨dst,op,ty,pos,after,guard⟩).run X.P w=.ok (.value v) w->eU β x v->yL x->other\/∃ v x,(execOp a.eval ⟨dst,op,ty,pos,after,guard⟩).run X.P w=.ok (.value v) w/\eU β x v/\yL x:=
  λaa ab ak=>.inr ⟨_,_,aa,ab,ak⟩
 have hE:∀ {v},(execOp a.eval ⟨dst,op,ty,pos,after,guard⟩).run X.P w=.ok (.value v) w->yL (.val v)->other\/∃ v x,(execOp a.eval ⟨dst,op,ty,pos,after,guard⟩).run X.P w=.ok (.value v) w/\eU β x v/\yL x:=
  fun {v} aa ak=>.inr ⟨v,.val v,aa,rfl,ak⟩
 have aA:=h.al;cases op
 case move x=>exact done (by simp[execOp]) (xb aA x) ah
 case assign x=>exact done (by simp[execOp]) (xb aA x) ah
 case pick c p q=>
  simp only[cF]at ah;split at ah
  ·rename_i b ag;have ap:=NP aA ag;cases b
   ·exact done (by simp[execOp,ap,asBool]) (xb aA q) ah
   ·exact done (by simp[execOp,ap,asBool]) (xb aA p) ah
  ·rename_i b ag;have ap:=uj aA ag;refine done (v:=if b then a.eval p else a.eval q) (x:=Ju b (bE F p) (bE F q)) (by simp[execOp,ap,asBool]) ?_ ah;have aa:=Ul aA p;have ab:=Ul aA q;unfold Ju;split
   ·rename_i x y aG a7;rw[aG]at aa;rw[a7]at ab;simp only[eU]at aa ab |-;cases b<;>simp[aa,ab]
   ·rename_i x y _ aG a7;rw[aG]at aa;rw[a7]at ab;simp only[eU]at aa ab |-;cases b<;>simp[aa,ab]
   ·trivial
  ·exact ah.elim
 case unOp op t x=>
  simp only[cF]at ah;split at ah;·rename_i b ag;exact done (v:=.bool (!b)) (x:=.lit (!b)) (by simp[execOp,NP aA ag,Op.unary]) rfl ah
  ·rename_i b ag;exact hE (v:=.bool (!b)) (by simp[execOp,uj aA ag,Op.unary]) ah
  ·rename_i k n ag;obtain⟨r,af,ae⟩:=ah;exact hE (v:=.int k r) (by simp only[execOp,uj aA ag,Op.unary,Op.intArith,af];simp) ae
  ·exact Or.inl ah
 case binOp op t x y ty'=>
  simp only[cF]at ah;by_cases ad:∃ ma xf,bE F x=.val ma/\bE F y=.val xf
  ·obtain⟨ma,xf,ad,aE⟩:=ad;have fin:∀ r,(∀ w,(do eqGuard op t x y ma xf;binOp op t ma xf:Sem Value).run X.P w=.ok r w)->yL (.val r)->(other\/∃ v ld,(execOp a.eval ⟨dst,.binOp op t x y ty',ty,pos,after,guard⟩).run X.P w=.ok (.value v) w/\eU β ld v/\yL ld):=λr af ae=>by refine hE (v:=r) ?_ ae;have:=af w;rw[<-dc aA ad,<-dc aA aE]at this;simp only[execOp];simp only[cj]at this |-;rw[this];rfl
   rcases afb aM op t x y _ _ ma xf ad aE _ _ ah with(⟨l9,fD,r,aC,aP,af,ae⟩ | aa) | ⟨r,af,ae⟩;·rw[show dw (di F) x=bE F x from rfl,ad]at aC;rw[show dw (di F) y=bE F y from rfl,aE]at aP;cases aC;cases aP;exact fin r af ae
   ·exact Or.inl aa
   ·exact fin r af ae
  ·unfold lK at ah;split at ah
   ·rename_i aG a7;exact(ad ⟨_,_,aG,a7⟩).elim
   ·rename_i aG a7;exact(ad ⟨_,_,aG,a7⟩).elim
   ·rename_i aG a7;exact(ad ⟨_,_,aG,a7⟩).elim
   ·rcases ah with⟨l9,fD,r,aC,aP,af,ae⟩ | aa
    ·exact(ad ⟨_,_,aC,aP⟩).elim
    ·exact Or.inl aa
 case load t x=>
  simp only[cF]at ah;split at ah
  ·rename_i i hi;split at ah
   ·rename_i s off ad;have km:=AW aA ad;split at ah
    ·rename_i cs ar;cases bp:Nat.ble (off+i.size) cs.length with
     |false=>rw[bp]at ah;exact ah.elim| true=>rw[bp]at ah;have kP:=bJ bp;obtain⟨T,bs⟩:=(h.cf s cs ar).dU;refine hE (v:=pack i.bL.agg ((cs.drop off).take i.size)) ?_ ah;have:=Jy (aM _ _ hi) (a:=⟨β s,off,none⟩) rfl bs (vs:=(cs.drop off).take i.size) (by simp) (by simp;omega);simp[execOp,Instr.loadAt,Instr.sureAddr,km,this]
    ·exact ah.elim
   ·rename_i aS ad;have km:=uj aA ad;obtain⟨vs,⟨dK,cs,T,al,e8,iH,ay⟩,ae⟩:=ah;refine hE (v:=pack i.bL.agg vs) ?_ ae;have:=Jy (aM _ _ hi) dK (e8.heap h.holds) iH ay;simp[execOp,Instr.loadAt,Instr.sureAddr,km,this]
   ·exact ah.elim
  ·exact ah.elim
 case nilCheck x=>
  simp only[cF]at ah;split at ah;·rename_i s off ad;exact done (v:=.pointer (some ⟨β s,off,none⟩)) (x:=.ref s off) (by simp[execOp,AW aA ad]) rfl ah
  ·rename_i aS ad;exact hE (v:=.pointer (some aS)) (by simp[execOp,uj aA ad]) ah
  ·exact Or.inl ah
 case fieldAddr t x i=>
  simp only[cF]at ah;split at ah
  ·rename_i sz hC z cN av;obtain⟨fields,hu,rfl⟩:=(aM _ _ av).struct;split at ah
   ·rename_i fm off q3;obtain⟨f,vH,rfl,rfl⟩:=Uz q3;split at ah
    ·rename_i hh s o' lb ad;cases bb:Nat.beq hh.size 0 with
     |true=>rw[bb]at ah;exact ah.elim
     |false=>
      rw[bb]at ah;have g4:hh.size≠0:=λe=>by rw[e]at bb;cases bb
      refine done (v:=.pointer (some ⟨β s,o'+f.offset,none⟩)) (x:=.ref s (o'+f.offset)) ?_ rfl ah;simp[execOp,Instr.fieldAt,run_underlying hu,vH,AW aA ad,Instr.sureAddr,fieldPlace,(aM _ _ lb).run_sizeOf,g4,eP]
    ·rename_i hh aS lb ad;cases bb:Nat.beq hh.size 0 with
     |true=>rw[bb]at ah;exact ah.elim
     |false=>
      rw[bb]at ah;have g4:hh.size≠0:=λe=>by rw[e]at bb;cases bb
      refine hE (v:=.pointer (some (aS.add f.offset))) ?_ ah;simp[execOp,Instr.fieldAt,run_underlying hu,vH,uj aA ad,Instr.sureAddr,fieldPlace,(aM _ _ lb).run_sizeOf,g4]
    ·exact ah.elim
   ·exact ah.elim
  ·exact ah.elim
 case field t x i=>
  simp only[cF]at ah;split at ah
  ·rename_i sz hC z cN cs av ad;obtain⟨fields,hu,rfl⟩:=(aM _ _ av).struct;split at ah
   ·rename_i fm off q3;obtain⟨f,vH,rfl,rfl⟩:=Uz q3;split at ah
    ·rename_i hh lb;cases bb:Nat.ble (f.offset+hh.size) cs.size with
     |false=>rw[bb]at ah;exact ah.elim| true=>rw[bb]at ah;refine hE ?_ ah;simp[execOp,Instr.field,run_underlying hu,vH,dc aA ad,asAgg,NW (aM _ _ lb) (bJ bb)]
    ·exact ah.elim
   ·exact ah.elim
  ·exact ah.elim
 case indexAddr t x i=>
  simp only[cF]at ah;split at ah
  ·rename_i sz hC z e gb k av hi;have hu:=(aM _ _ av).slice;split at ah
   ·rename_i aF bM n c hq ad;obtain⟨aS,j,rfl,rfl,ai,ae⟩:=ah;refine hE ?_ ae;simp[execOp,dc aA ad,dc aA hi,afd hu (aM _ _ hq) ai]
   ·exact ah.elim
  ·rename_i sz hC z n e gb k av hi;have hu:=(aM _ _ av).array;split at ah
   ·rename_i aF s o' hq ad;obtain⟨j,rfl,ai,ae⟩:=ah;refine done (v:=.pointer (some ⟨β s,o'+j*aF.size,none⟩)) (x:=.ref s (o'+j*aF.size)) ?_ rfl ae;simp[execOp,AW aA ad,dc aA hi,UA hu (aM _ _ hq) ai,eP]
   ·rename_i aF aS hq ad;obtain⟨j,rfl,ai,ae⟩:=ah;refine hE ?_ ae;simp[execOp,uj aA ad,dc aA hi,UA hu (aM _ _ hq) ai]
   ·exact ah.elim
  ·exact ah.elim
 case index t x i=>
  simp only[cF]at ah;split at ah;·rename_i sz hC z s gb k av ad hi;have hu:=(aM _ _ av).string;obtain⟨j,rfl,ai,ae⟩:=ah;refine hE ?_ ae;simp only[execOp,dc aA ad,dc aA hi,Instr.index,cj,oo,bV,run_underlying hu];rw[bQ (by omega:(0:Int)<=j)];simp[ai]
  ·rename_i sz hC z n e cs gb k av ad hi;have hu:=(aM _ _ av).array;split at ah
   ·rename_i aF hq;cases bb:Nat.beq (n*aF.size) cs.size with
    |false=>rw[bb]at ah;exact ah.elim
    |true=>
     rw[bb]at ah;obtain⟨j,rfl,ai,ae⟩:=ah;have g4:=dQ bb;refine hE ?_ ae;have bp:j*aF.size+aF.size<=cs.size:=by rw[<-g4,<-Nat.succ_mul];exact vA _ ai
     simp only[execOp,dc aA ad,dc aA hi,Instr.index,cj,oo,bV,run_underlying hu];rw[bQ ⟨by omega,by omega⟩];simp[(aM _ _ hq).run_sizeOf,NW (aM _ _ hq) bp]
   ·exact ah.elim
  ·exact ah.elim
 case build t parts=>
  simp only[cF]at ah;split at ah
  ·rename_i i vs hi iH;have aC:=Jv aA iH;have yM:(parts.map λ(i,x)=>(i,a.eval x)).toList=vs:=by simpa using aC
   obtain⟨z,bb,xg⟩:=(aM _ _ hi).FO w;have Db:z.cells=i.zero.toArray:=by rw[<-xg]
   split at ah
   ·rename_i cN nT;cases bu:C7 X.E cN with
    |false=>rw[bu]at ah;exact ah.elim
    |true=>
     rw[bu]at ah;simp only[ca]at ah;split at ah
     ·rename_i cells xh;obtain⟨sz,hC,afe,bL⟩:=i;simp only at nT;subst nT;obtain⟨fields,hu,rfl⟩:=(aM _ _ hi).struct;obtain⟨l,ay,hF⟩:=UB aM w fields.toList bu;refine hE ?_ ah;have hm:(fields.mapM λf=>(do pure (f.offset,<-sizeOf f.type):Sem (Nat×Nat))).run X.P w=.ok l.toArray w:=by rw[Uk,Sem.run_map,ay];rfl
      have vI:=fill_eq _ _ _ _ xh;have aff:(λj=>l.toArray[j]?)=places X.E (fields.toList.map λf=>(f.type,f.offset)):=by funext j;rw[<-hF j];simp
      simp only[execOp,Instr.build,cj,bb,bV,run_underlying hu,Db,yM];rw[hm];simp only[bV,aff,vI,c0]
     ·exact ah.elim
   ·rename_i n e nT;split at ah
    ·rename_i aF hq;split at ah
     ·rename_i cells xh;obtain⟨sz,hC,afe,bL⟩:=i;simp only at nT;subst nT;have hu:=(aM _ _ hi).array;refine hE ?_ ah;have vI:=fill_eq _ _ _ _ xh;simp only[execOp,Instr.build,cj,bb,bV,run_underlying hu,Db,yM,(aM _ _ hq).run_sizeOf,vI,c0]
     ·exact ah.elim
    ·exact ah.elim
   ·exact ah.elim
  ·exact ah.elim
 case makeFunc fn first captured=>
  simp only[cF]at ah;split at ah
  ·rename_i cN cs aa ab;have aG:=s5 aA aa;have a7:=s5 aA ab;refine hE ?_ ah;have ej:first.map a.eval=cN.toArray:=by apply gS;simpa using aG
   have q4:captured.map a.eval=cs.toArray:=by apply gS;simpa using a7
   simp[execOp,Instr.makeFunc,ej,q4]
  ·exact ah.elim
 case slice t x lo hi mx=>
  simp only[cF]at ah;split at ah
  ·rename_i sz hC z e bM n c av ad ij;have NX:mx=none:=by simpa using ij
   subst NX;have hu:=(aM _ _ av).slice;have km:=dc aA ad;split at ah
   ·rename_i aF hq eT gw;have uk:lo=none:=by simpa using eT
    have AZ:hi=none:=by simpa using gw
    subst uk;subst AZ;refine hE ?_ ah;have aG:(if c=0 then bM else bM.map (·.add (0*aF.size)))=bM:=by split<;>cases bM<;>simp[Addr.add]
    simp[execOp,Instr.sliceAt,Instr.slice,Instr.sliceBounds,km,run_underlying hu,(aM _ _ hq).run_sizeOf,Addr.add]
   ·rename_i aF gb jZ hq eT gw;have uk:lo=none:=by simpa using eT
    subst uk;obtain⟨yN,rfl,cv⟩:=r4.1 gw;obtain⟨l,ab,A0,rfl,bp,xi,ae⟩:=ah;refine hE ?_ ae;simp only[execOp,Instr.sliceAt,Instr.slice,Instr.sliceBounds,Instr.sliceBound,km,cj,run_underlying hu,bV,(aM _ _ hq).run_sizeOf,c0,k8,ue,dc aA cv,oo];rw[bQ ⟨by omega,by omega⟩];simp[Addr.add]
   ·rename_i aF gb hb hq eT gw;have AZ:hi=none:=by simpa using gw
    subst AZ;obtain⟨NY,rfl,cv⟩:=r4.1 eT;obtain⟨l,ab,rfl,A1,bp,xi,ae⟩:=ah;simp only[uc,jV]at *;refine hE ?_ ae;simp only[execOp,Instr.sliceAt,Instr.slice,Instr.sliceBounds,Instr.sliceBound,km,cj,run_underlying hu,bV,(aM _ _ hq).run_sizeOf,c0,k8,ue,dc aA cv,oo];rw[bQ ⟨by omega,by omega⟩];simp
   ·rename_i aF gb hb afg jZ hq eT gw;obtain⟨NY,rfl,cv⟩:=r4.1 eT;obtain⟨yN,rfl,A2⟩:=r4.1 gw;obtain⟨l,ab,rfl,rfl,bp,xi,ae⟩:=ah;refine hE ?_ ae;simp only[execOp,Instr.sliceAt,Instr.slice,Instr.sliceBounds,Instr.sliceBound,km,cj,run_underlying hu,bV,(aM _ _ hq).run_sizeOf,c0,k8,ue,dc aA cv,dc aA A2,oo];rw[bQ ⟨by omega,by omega⟩];simp only[c0,bV,gl];rw[bQ ⟨by omega,by omega⟩];simp
   ·exact ah.elim
  ·rename_i sz hC z s av ad ij;have NX:mx=none:=by simpa using ij
   subst NX;have hu:=(aM _ _ av).string;have km:=dc aA ad;split at ah
   ·rename_i eT gw;have uk:lo=none:=by simpa using eT
    have AZ:hi=none:=by simpa using gw
    subst uk;subst AZ;refine hE ?_ ah;have aG:s.extract 0 s.size=s:=by apply vB;simp[Jq]
    simp[execOp,Instr.sliceAt,Instr.slice,Instr.sliceBounds,km,run_underlying hu,aG]
   ·rename_i gb jZ eT gw;have uk:lo=none:=by simpa using eT
    subst uk;obtain⟨yN,rfl,cv⟩:=r4.1 gw;obtain⟨l,ab,A0,rfl,bp,xi,ae⟩:=ah;refine hE ?_ ae;simp only[execOp,Instr.sliceAt,Instr.slice,Instr.sliceBounds,Instr.sliceBound,km,cj,run_underlying hu,bV,c0,k8,ue,dc aA cv,oo];simp only[NL,k7,l5,cj,c0,bV,oo];rw[bQ ⟨by omega,by omega⟩];simp
   ·rename_i gb hb eT gw;have AZ:hi=none:=by simpa using gw
    subst AZ;obtain⟨NY,rfl,cv⟩:=r4.1 eT;obtain⟨l,ab,rfl,A1,bp,xi,ae⟩:=ah;simp only[uc,jV]at *;refine hE ?_ ae;simp only[execOp,Instr.sliceAt,Instr.slice,Instr.sliceBounds,Instr.sliceBound,km,cj,run_underlying hu,bV,c0,k8,ue,dc aA cv,oo];simp only[NL,k7,l5,cj,c0,bV,oo];rw[bQ ⟨by omega,by omega⟩];simp
   ·rename_i gb hb afg jZ eT gw;obtain⟨NY,rfl,cv⟩:=r4.1 eT;obtain⟨yN,rfl,A2⟩:=r4.1 gw;obtain⟨l,ab,rfl,rfl,bp,xi,ae⟩:=ah;refine hE ?_ ae;simp only[execOp,Instr.sliceAt,Instr.slice,Instr.sliceBounds,Instr.sliceBound,km,cj,run_underlying hu,bV,c0,k8,ue,dc aA cv,dc aA A2,oo];simp only[NL,k7,l5,cj,c0,bV,oo];rw[bQ ⟨by omega,by omega⟩];simp only[c0,bV,gl];rw[bQ ⟨by omega,by omega⟩];simp
   ·exact ah.elim
  ·rename_i sz hC z e bM n c atZ at0 av ad ij;obtain⟨at1,rfl,afh⟩:=r4.1 ij;have hu:=(aM _ _ av).slice;have km:=dc aA ad;split at ah
   ·rename_i aF gb jZ hq eT gw;have uk:lo=none:=by simpa using eT
    subst uk;obtain⟨yN,rfl,cv⟩:=r4.1 gw;obtain⟨l,m,rfl,rfl,bp,xi,ae⟩:=ah;refine hE ?_ ae;simp only[execOp,Instr.sliceAt,Instr.slice,Instr.sliceBounds,Instr.sliceBound,km,cj,run_underlying hu,bV,(aM _ _ hq).run_sizeOf,c0,k8,ue,dc aA cv,dc aA afh,oo];rw[bQ ⟨by omega,by omega⟩];simp only[c0,bV,gl];rw[bQ ⟨by omega,by omega⟩];simp only[c0,bV,gl]
   ·exact Or.inl ah
  ·exact Or.inl ah
 case extract x i=>
  simp only[cF]at ah;split at ah
  ·rename_i vs ad;split at ah
   ·rename_i v hi;refine hE ?_ ah;have cX:vs[i]?=some v:=by simpa using hi
    simp[execOp,Instr.extract,dc aA ad,cX]
   ·exact ah.elim
  ·exact ah.elim
 case convert s d x=>
  simp only[cF]at ah;split at ah;·rename_i at2 sz hC z k eZ n ar av ad;have hu:=(aM _ _ av).int;obtain⟨ds,fE,_⟩:=(aM _ _ ar).fl;obtain⟨r,af,ae⟩:=ah;refine hE ?_ ae;simp only[execOp,convert,dc aA ad,cj,run_underlying fE,run_underlying hu,bV];simp only[Conv.intToInt,af,c0,bV]
  ·exact Or.inl ah
 case call c=>
  obtain⟨callee,args,argTypes⟩:=c;cases callee with
  |value f=>exact .inl ah| invoke r m=>exact .inl ah
  |builtin b=>
   cases b
   case len=>
    simp only[cF]at ah;split at ah
    ·rename_i t v aa ab;have aG:=s5 aA ab;have ej:args.map a.eval=#[v]:=by apply gS;simpa using aG
     have av:argTypes=#[t]:=by apply gS;simpa using aa
     subst av;split at ah;·rename_i sz hC z e aS n c bs;have hu:=(aM _ _ bs).slice;refine hE ?_ ah;simp[execOp,resolve,invoke,builtin,Builtin.len_,ej,run_underlying hu,goInt]
     ·rename_i sz hC z s bs;have hu:=(aM _ _ bs).string;refine hE ?_ ah;simp[execOp,resolve,invoke,builtin,Builtin.len_,ej,run_underlying hu,goInt]
     ·rename_i sz hC z n e bs;have hu:=(aM _ _ bs).array;refine hE ?_ ah;simp[execOp,resolve,invoke,builtin,Builtin.len_,ej,run_underlying hu,goInt]
     ·exact Or.inl ah
    ·exact Or.inl ah
   case cap=>
    simp only[cF]at ah;split at ah
    ·rename_i t v aa ab;have aG:=s5 aA ab;have ej:args.map a.eval=#[v]:=by apply gS;simpa using aG
     have av:argTypes=#[t]:=by apply gS;simpa using aa
     subst av;split at ah;·rename_i sz hC z e aS n c bs;have hu:=(aM _ _ bs).slice;refine hE ?_ ah;simp[execOp,resolve,invoke,builtin,Builtin.cap_,ej,run_underlying hu,goInt]
     ·exact Or.inl ah
    ·exact Or.inl ah
   case max=>
    simp only[cF]at ah;split at ah
    ·rename_i k p eZ q ab;have aG:=s5 aA ab;have ej:args.map a.eval=#[.int k p,.int eZ q]:=by apply gS;simpa using aG
     refine hE ?_ ah;have hm:(if q > p then q else p)=max p q:=by split<;>omega
     simp only[execOp,resolve,invoke,builtin,Builtin.max_,Builtin.max2,ej,cj,c0,bV,List.foldlM_cons,List.foldlM_nil,hm]
    ·exact Or.inl ah
   case min=>
    simp only[cF]at ah;split at ah
    ·rename_i k p eZ q ab;have aG:=s5 aA ab;have ej:args.map a.eval=#[.int k p,.int eZ q]:=by apply gS;simpa using aG
     refine hE ?_ ah;have hm:(if q<p then q else p)=min p q:=by split<;>omega
     simp only[execOp,resolve,invoke,builtin,Builtin.min_,Builtin.min2,ej,cj,c0,bV,List.foldlM_cons,List.foldlM_nil,hm]
    ·exact Or.inl ah
   case unsafeSliceData=>
    simp only[cF]at ah;split at ah
    ·rename_i n c ab;have aG:=s5 aA ab;have ej:args.map a.eval=#[.slice none n c]:=by apply gS;simpa using aG
     refine hE ?_ ah;simp only[execOp,resolve,invoke,builtin,ej,cj,c0,bV,Lib.run_unsafeSliceData_nil]
    ·rename_i aS n c ab;obtain⟨ak,ah⟩:=ah;have aG:=s5 aA ab;have ej:args.map a.eval=#[.slice (some aS) n c]:=by apply gS;simpa using aG
     refine hE ?_ ah;simp only[execOp,resolve,invoke,builtin,ej,cj,c0,bV,Lib.run_unsafeSliceData_row _ _ _ _ _ _ (show c≠0 by omega)]
    ·exact Or.inl ah
   all_goals exact .inl ah
 all_goals exact .inl ah
def Dc(aM:cU X.P X.E)(aj:∀ d,o.dst=some d->d<X.n)(h:Rel X a w F C I M)(ah:gT X o F C I M K):o.wpIn (g3 X) 0 X.P a w (Sat X K) Q:=by
 have aW:=h;obtain⟨β,h⟩:=h;obtain⟨dst,op,ty,pos,after,guard⟩:=o;have other:bw X ⟨dst,op,ty,pos,after,guard⟩ F C I M K->(⟨dst,op,ty,pos,after,guard⟩:Oper).wpIn (g3 X) 0 X.P a w (Sat X K) Q:=λ⟨h⟩=>h a w Q aW;have aA:=h.al;have quiet:cF X op (di F) C I M (λx=>K (Go.V.put dst x F) C I M) (bw X ⟨dst,op,ty,pos,after,guard⟩ F C I M K)->(∀ c,op≠.defer c)->(⟨dst,op,ty,pos,after,guard⟩:Oper).wpIn (g3 X) 0 X.P a w (Sat X K) Q:=λaP bI=>by
  rcases UC aM h op ty dst pos after guard aP with aa | ⟨v,x,af,ad,ae⟩;·exact other aa
  ·exact Us (o:=⟨dst,op,ty,pos,after,guard⟩) h aj bI af ad ae
 cases op
 case box t x=>
  simp only[gT]at ah;split at ah
  ·rename_i d v ad;have km:=dc aA ad;have af:(execOp a.eval ⟨some d,.box t x,ty,pos,after,guard⟩).run X.P w=.ok (.value (.pointer (some ⟨w.heap.size,0,none⟩))) (w.alloc (.cells v.cells t (0,0))):=by simp[execOp,Instr.box,newVar,newRow,km,AS]
   have hj:d<X.n:=aj d rfl;cases kn:X.gx.contains d with
   |true=>rw[kn]at ah;obtain⟨ah⟩:=ah;have ae:=ah w.heap.size h.holds.r8 h.holds.q1;have aa:=(h.nS (.cells v.cells t (0,0))).NT d;exact iV (by simp) af ⟨_,_,_,_,⟨β,cH.put aa (dst:=some d) (x:=.val (.pointer (some ⟨w.heap.size,0,none⟩))) (by simpa using hj) rfl⟩,ae⟩
   |false=>rw[kn]at ah;obtain⟨oi,aa⟩:=h.Uo d hj v.cells.toList t;exact iV (by simp) af ⟨_,_,_,_,⟨oi,by simpa using aa⟩,ah⟩
  ·exact ah.elim
 case alloc t=>
  simp only[gT]at ah;split at ah
  ·rename_i d i hi;obtain⟨z,bb,xg⟩:=(aM _ _ hi).FO w;have Db:z.cells=i.zero.toArray:=by rw[<-xg]
   have af:(execOp a.eval ⟨some d,.alloc t,ty,pos,after,guard⟩).run X.P w=.ok (.value (.pointer (some ⟨w.heap.size,0,none⟩))) (w.alloc (.cells i.zero.toArray t (0,0))):=by simp[execOp,Instr.alloc,newVar,newRow,bb,Db,AS]
   have hj:d<X.n:=aj d rfl;cases kn:X.gx.contains d with
   |true=>rw[kn]at ah;obtain⟨ah⟩:=ah;have ae:=ah w.heap.size h.holds.r8 h.holds.q1;have aa:=(h.nS (.cells i.zero.toArray t (0,0))).NT d;exact iV (by simp) af ⟨_,_,_,_,⟨β,cH.put aa (dst:=some d) (x:=.val (.pointer (some ⟨w.heap.size,0,none⟩))) (by simpa using hj) rfl⟩,ae⟩
   |false=>rw[kn]at ah;obtain⟨oi,aa⟩:=h.Uo d hj i.zero t;exact iV (by simp) af ⟨_,_,_,_,⟨oi,aa⟩,ah⟩
  ·exact ah.elim
 case store t x y=>
  simp only[gT]at ah;split at ah
  ·rename_i i v hi aE;have s8:=dc aA aE;split at ah
   ·rename_i s off ad;have km:=AW aA ad;split at ah
    ·rename_i cs ar;cases bp:(Nat.ble (off+i.size) cs.length&&(Nat.beq v.cells.size i.size&&gm v.cells.toList))with
     |false=>rw[bp]at ah;exact ah.elim| true=>rw[bp]at ah;simp only[cB]at bp;obtain⟨bp,dj,pq⟩:=bp;have kP:=bJ bp;have A3:=dQ dj;obtain⟨T,bs⟩:=(h.cf s cs ar).dU;have:=Jz (aM _ _ hi) (a:=⟨β s,off,none⟩) (v:=v) rfl bs A3 (by simp;omega) pq;refine C8 (by simp) (w':=w.setRow (β s) (ck cs off v.cells.toList).toArray) ?_ ⟨_,_,_,_,⟨β,h.Uq ar (ck cs off v.cells.toList)⟩,ah⟩;simp only[execOp,Instr.storeAt,km,s8,Instr.sureAddr,cj,c0,bV];simp only[NJ]at this;rw[this];rfl
    ·exact ah.elim
   ·rename_i aS ad;have km:=uj aA ad;cases dj:Nat.beq v.cells.size i.size with
    |false=>rw[dj]at ah;exact ah.elim| true=>rw[dj]at ah;obtain⟨a9,post,cs,T,a',dK,ag,pq,ae⟩:=ah;have A3:=dQ dj;have au:w.heap[aS.block]?=some (.cells cs T (0,0)):=h.holds.m ⟨aS.block,.cells cs T (0,0)⟩ (by rw[a'];simp);have:=Jz (aM _ _ hi) (v:=v) dK au A3 ag pq;refine C8 (by simp) (w':=w.setRow aS.block (ck cs.toList aS.off v.cells.toList).toArray) ?_ ⟨_,_,_,_,⟨β,h.xe a'⟩,ae⟩;simp only[execOp,Instr.storeAt,km,s8,Instr.sureAddr,cj,c0,bV];rw[this];rfl
   ·exact ah.elim
  ·exact ah.elim
 case buildSlice t len parts=>
  simp only[gT]at ah;split at ah
  ·rename_i sz hC z e vs av iH;have hu:=(aM _ _ av).slice;have aC:=Jv aA iH;have yM:(parts.map λ(i,x)=>(i,a.eval x)).toList=vs:=by simpa using aC
   split at ah
   ·rename_i aF hq;cases bb:(Nat.ble (len*aF.size) 16777216&&Nat.blt 0 (len*aF.size))with
    |false=>
     rw[bb]at ah;simp only[b']at ah;split at ah
     ·rename_i afi;obtain⟨ah⟩:=ah;have ae:=ah w.heap.size h.holds.r8 h.holds.q1;refine iV (by simp) (v:=.slice (some ⟨w.heap.size,0,none⟩) 0 0) (w':=w.alloc (.cells #[] e (0,0))) ?_ ⟨_,_,_,_,⟨β,(h.nS _).put (x:=.val (.slice (some ⟨w.heap.size,0,none⟩) 0 0)) aj rfl⟩,ae⟩;simp only[execOp,Instr.buildSlice,cj,bV,run_underlying hu,(aM _ _ hq).run_sizeOf,yM];have dF:∀ f:Nat->Value,Array.map f (Array.range 0)=#[]:=λf=>by apply Array.ext<;>simp
      simp[newRow,AS,Instr.fill,dF]
     ·exact ah.elim
    |true=>
     rw[bb]at ah;simp only[ca]at ah;rw[cB]at bb;have bp:=bJ bb.1;have ot:0<len*aF.size:=by simpa using bb.2
     split at ah;·rename_i cells xh;obtain⟨s9,A4,xg⟩:=(aM _ _ hq).FO w;obtain⟨ah⟩:=ah;have ae:=ah w.heap.size h.holds.r8 h.holds.q1;refine iV (by simp) (v:=.slice (some ⟨w.heap.size,0,none⟩) len len) (w':=w.alloc (.cells cells.toArray e (0,0))) ?_ ⟨_,_,_,_,⟨β,(h.nS _).put (x:=.val (.slice (some ⟨w.heap.size,0,none⟩) len len)) aj rfl⟩,ae⟩;have vI:=fill_eq _ _ _ _ xh;simp only[execOp,Instr.buildSlice,cj,bV,run_underlying hu,(aM _ _ hq).run_sizeOf];rw[bU (by omega)];simp only[bU (show ¬ len*aF.size=0 by omega),cj,A4,bV,c0,yM,Uy s9 aF.zero xg,vI];simp[newRow,AS]
     ·exact ah.elim
   ·exact ah.elim
  ·exact ah.elim
 case makeSlice t l c=>
  simp only[gT]at ah;split at ah
  ·rename_i sz hC z e gy dL dq c' av ay ap;have hu:=(aM _ _ av).slice;split at ah
   ·rename_i aF hq;obtain⟨n,m,rfl,rfl,h9,ag,hm,⟨ah⟩⟩:=ah;have ae:=ah w.heap.size h.holds.r8 h.holds.q1;obtain⟨inf,s9,fh,iJ,il,ko,A5⟩:=(aM _ _ hq).inf;refine iV (by simp) (v:=.slice (some ⟨w.heap.size,0,none⟩) n m) (w':=w.alloc (.cells (rowOf aF.zero (m*aF.size)).toArray e (0,0))) ?_ ⟨_,_,_,_,⟨β,(h.nS _).put (x:=.val (.slice (some ⟨w.heap.size,0,none⟩) n m)) aj rfl⟩,ae⟩;have gU:((aF.bytes:Nat):Int)*(m:Int)<=281474976710656:=by
     have ab:((aF.bytes*m:Nat):Int)<=281474976710656:=by omega
     simpa using ab
    have:=run_make (P:=X.P) w t e inf s9 hu fh ko gy dq (n:Int) (m:Int) (by omega) (by omega) (by rw[il];exact gU) (by omega);simp only[execOp,dc aA ay,dc aA ap,cj,this,bV,c0,gl];have aG:madeCells s9.cells (m*inf.size)=(rowOf aF.zero (m*aF.size)).toArray:=by rw[iJ,<-A5];simp[vF]
    rw[aG]
   ·exact ah.elim
  ·exact ah.elim
 case call c=>
  obtain⟨callee,args,argTypes⟩:=c;cases callee with
  |value f=>
   simp only[gT]at ah;split at ah
   ·rename_i g first cap vs nn iH
    have aG:=s5 aA iH;have ej:args.map a.eval=vs.toArray:=by apply gS;simpa using aG
    have e9:∀ {n:Next} {w':World},(callFunc g (first.toList++vs++cap.toList).toArray).run X.P w=.ok n w'->(execOp a.eval ⟨dst,.call { callee:=.value f,args,argTypes },ty,pos,after,guard⟩).run X.P w=.ok n w':=λaf=>by simp only[execOp,resolve,dc aA nn,Deferred.ofValue,cj,c0,bV,ej,invoke];rw[show first++vs.toArray++cap=(first.toList++vs++cap.toList).toArray from by apply gS;simp];exact af
    rcases h.call ah with⟨p7,A6⟩ | ⟨v,w',I',M',af,ae,eY⟩;·refine Ux (by simp) (f:=g) (args:=(first.toList++vs++cap.toList).toArray) (e9 (p7 _ _)) ?_;refine A6.mono ?_;rintro e w'⟨v,I',M',rfl,ae,af⟩;exact⟨v,rfl,_,_,_,_,⟨β,af.put (x:=.val v) aj rfl⟩,ae⟩
    ·exact iV (by simp) (e9 af) ⟨_,_,_,_,⟨β,eY.put (x:=.val v) aj rfl⟩,ae⟩
   ·exact other ah
  |invoke r m=>exact quiet ah (by simp)
  |builtin b=>
   cases b
   all_goals exact quiet ah (by simp)
 case defer c=>exact other ah
 all_goals exact quiet ah (by simp)
end
section
variable{X:cV}{β:Nat->Nat}{a:Act}{w:World}{F:Fr}{C:dB}{I:aI}{M:List aD}{o:Oper}{Q:Exit->Act->World->Prop}{K:gd}
def Dd{d:Nat}{c:Bool}(h:a.tmps.getD d undef=.bool c):a.tmps[d]?=some (.bool c):=by
 rw[pj]at h;cases aj:a.tmps[d]? with
 |none=>rw[aj]at h;cases h| some v=>rw[aj]at h;simp at h;rw[h]
def FR{j d:Nat}(aj:(ops[j]?).bind (·.dst)=some d)(tmps:Array Value):yielded ops tmps j=match tmps[d]? with
  |some (.bool b)=>some b| _=>none:=by
 unfold yielded;rw[aj];rfl
def cH.refine(h:cH X β a w F C I M){dk:Fr}(bG:∀ t,eU β (dk t) (a.tmps.getD t undef)):cH X β a w dk C I M:={ h with al:=bG }
def UD(aM:cU X.P X.E)(ops:Array Oper)(q5:∀ a w,Sat X K a w->Q .normal a w):∀ (l:List Oper) (k:Nat),(∀ j,l[j]?=ops[k+j]?)->(∀ o∈l,∀ d,o.dst=some d->d<X.n) -> ∀ {F C I M a w},Rel X a w F C I M->ui X ops.toList l F C I M K->wpOpsIn (g3 X) 0 X.P ops Q (List.range' k l.length) a w
 |[],k,_,_,F,C,I,M,a,w,aW,ah=>q5 _ _ ⟨F,C,I,M,aW,ah⟩
 |o::bi,k,ay,aj,F,C,I,M,a,w,aW,ah=>by
  have az:ops[k]?=some o:=by simpa using(ay 0).symm
  have ou:∀ j,bi[j]?=ops[k+1+j]?:=λj=>by have:=ay (j+1);simpa[s0,C4 1 j]using this
  have fy:∀ o∈bi,∀ d,o.dst=some d->d<X.n:=λo aH=>aj o (by simp[aH]);have yO:=aj o (by simp);have aN:=@UD aM ops q5 bi (k+1) ou fy;simp only[dx,FI,wpOpsIn,az];have run:∀ {F C I M},Rel X a w F C I M->gT X o F C I M (λF C I M=>ui X ops.toList bi F C I M K)->o.wpIn (g3 X) 0 X.P a w (wpOpsIn (g3 X) 0 X.P ops Q (List.range' (k+1) bi.length)) Q:=λaW ah=>
   sZ (λbM w' ⟨dk,C',I',M',af,ae⟩=>aN af ae) (Dc aM yO aW ah)
  have skip:∀ {F C I M},Rel X a w F C I M->ui X ops.toList bi (put o.dst (.val undef) F) C I M K->(∀ f,o.about X.P w a.eval=some f->(g3 X).fn f)/\wpOpsIn (g3 X) 0 X.P ops Q (List.range' (k+1) bi.length) (a.put o.dst undef) w:=λ⟨β,af⟩ ah=>
   ⟨λ_ _=>trivial,aN ⟨β,af.put (x:=.val undef) yO rfl⟩ ah⟩
  unfold ui at ah;cases au:o.guard with
  |none=>
   rw[au]at ah;have hw:Region.wanted o (yielded ops a.tmps)=true:=by simp[Region.wanted,au]
   rw[bQ hw];exact run aW ah
  |some FT=>
   obtain⟨j,b⟩:=FT;rw[au]at ah;simp only at ah;cases ai:(ops.toList[j]?).bind (·.dst)with
   |none=>rw[ai]at ah;exact ah.elim
   |some d=>
    rw[ai]at ah;simp only at ah;have im:(ops[j]?).bind (·.dst)=some d:=by simpa using ai
    have aE:=FR im a.tmps;obtain⟨β,af⟩:=aW;have bG:=af.al d;split at ah
    ·rename_i c ap;rw[ap]at bG;have NZ:=Dd bG;have FU:Region.wanted o (yielded ops a.tmps)=(c == b):=by simp[Region.wanted,au,aE,NZ]
     rw[FU];cases jG:(c == b)with
     |true=>rw[jG]at ah;simp only[p2];exact run ⟨β,af⟩ ah| false=>rw[jG]at ah;simp only[k7,l5];exact skip ⟨β,af⟩ ah
    ·rename_i c ap;rw[ap]at bG;have NZ:=Dd bG;have FU:Region.wanted o (yielded ops a.tmps)=(c == b):=by simp[Region.wanted,au,aE,NZ]
     rw[FU];obtain⟨JA,np⟩:=ah;have set:∀ x:Bool,c=x->Rel X a w (fY F d (.lit x)) C I M:=λx ad=>⟨β,af.refine λt=>by
      unfold fY;by_cases e:t=d;·subst e;simp only[q0,ca];rw[<-ad];exact bG
      ·simp only[hp e,b'];exact af.al t⟩
     by_cases jG:c=b
     ·have:(c == b)=true:=by simp[jG]
      rw[this];simp only[p2];exact run (set b jG) (JA jG)
     ·have ab:c=!b:=by cases c<;>cases b<;>simp_all
      have:(c == b)=false:=by simp[jG]
      rw[this];simp only[k7,l5];exact skip (set _ ab) (np ab)
    ·rename_i vs ap;rw[ap]at bG;have um:yielded ops a.tmps j=none:=by
      rw[aE];cases kp:a.tmps[d]? with
      |none=>rfl| some v=>simp only[eU,pj,kp,jV]at bG;subst bG;rfl
     have FU:Region.wanted o (yielded ops a.tmps)=false:=by simp[Region.wanted,au,um]
     rw[FU];simp only[k7,l5];exact skip ⟨β,af⟩ ah
    ·exact ah.elim
end
inductive yP:dA->dA->Prop
 |refl{x}:yP x x| lit {b}:yP (.lit b) (.val (.bool b))| nl {x}:yP x .nl
def q6:List (Nat×dA)->Fr
 |[],_=>.nl|(t,x)::l,s=>bif Nat.beq s t then x else q6 l s
def q7:List (Nat×List Value)->dB
 |[],_=>none|(t,x)::l,s=>bif Nat.beq s t then some x else q7 l s
inductive lf(F:Fr):List (Nat×dA)->Prop
 |nil:lf F []| cons {t x l} (h:yP (F t) x) (k:lf F l):lf F ((t,x)::l)
inductive yQ(C:dB):List (Nat×List Value)->Prop
 |nil:yQ C []| cons {t x l} (h:C t=some x) (k:yQ C l):yQ C ((t,x)::l)
def afj{β:Nat->Nat}{x y:dA}(h:yP x y)(ad:eU β x v):eU β y v:=by
 cases h with
 |refl=>exact ad| lit=>exact ad| nl=>trivial
def lf.ok{β:Nat->Nat}{F:Fr}(h:∀ t,eU β (F t) (a.tmps.getD t undef)){l:List (Nat×dA)}(ay:lf F l)(t:Nat):eU β (q6 l t) (a.tmps.getD t undef):=by
 induction ay with
 |nil=>trivial
 | @cons bm x l ad k aN=>
  unfold q6;by_cases e:t=bm;·subst e;simp only[q0,ca];exact afj ad (h t)
  ·simp only[hp e,b'];exact aN
def yQ.ok{C:dB}{l:List (Nat×List Value)}(ay:yQ C l){s:Nat}{cs:List Value}(h:q7 l s=some cs):C s=some cs:=by
 induction ay with
 |nil=>cases h
 | @cons bm x l ad k aN=>
  unfold q7 at h;by_cases e:s=bm;·subst e;simp only[q0,ca]at h;rw[ad,h]
  ·simp only[hp e,b']at h;exact aN h
def cH.cQ{X:cV}{β:Nat->Nat}{F:Fr}{C:dB}{I:aI}{M:List aD}(h:cH X β a w F C I M){bj:List (Nat×dA)}{cl:List (Nat×List Value)}(bG:lf F bj)(lg:yQ C cl):cH X β a w (q6 bj) (q7 cl) I M:=
 { h with
  al:=bG.ok h.al
  cf:=λs cs ar=>h.cf s cs (lg.ok ar)
  inj:=λs b3 aa ab=>by
   obtain⟨gz,aG⟩:=Jp.1 aa;obtain⟨gJ,a7⟩:=Jp.1 ab;exact h.inj s b3 (by rw[lg.ok aG];simp) (by rw[lg.ok a7];simp) }
inductive s' where
 |normal| exit (id:Nat)| goto (l:Nat)| ret
abbrev j0:=s'->gd
def yR(N:gd)(K:j0):j0
 | .normal=>N| .exit id=>K (.exit id)| .goto l=>K (.goto l)| .ret=>K .ret
def UE(id:Nat)(K:j0):j0
 | .normal=>K .normal| .exit j=>bif Nat.beq j id then K .normal else K (.exit j)| .goto l=>K (.goto l)| .ret=>K .ret
def mJ(X:cV)(K:j0):Exit->Act->World->Prop
 | .normal,a,w=>Sat X (K .normal) a w| .exit id,a,w=>Sat X (K (.exit id)) a w| .goto l,a,w=>Sat X (K (.goto l)) a w| .ret,a,w=>Sat X (K .ret) a w| .panic _,_,_=>False| .outgrown,_,_=>False
abbrev Body:=Fr->dB->aI->List aD->j0->Prop
structure vJ where
 bj:List (Nat×dA)
 cl:List (Nat×List Value):=[]
 cI:aI
 c1:List aD:=[]
inductive pt{ι:Type}(foot:List Nat)(aY:ι->vJ)(p:ι->Prop)(F:Fr)(C:dB)(I:aI)(M:List aD):Prop
 |mk(j:ι)(aC:p j)(hw:h7 foot I M (aY j).cI (aY j).c1)(bG:lf F (aY j).bj)(lg:yQ C (aY j).cl)
def N0(body:Body)(K:j0):Nat->gd
 |0=>λ_ _ _ _=>False
 |n+1=>λF C I M=>body F C I M (yR (N0 body K n) K)
inductive de(foot:List Nat)(body:Body)(F:Fr)(C:dB)(I:aI)(M:List aD)(K:j0):Prop
 |inv {ι:Type} (aY:ι->vJ) (inv:ι->Prop) (μ:ι->Nat) (start:pt foot aY inv F C I M) (round:∀ i,inv i->body (q6 (aY i).bj) (q7 (aY i).cl) (aY i).cI (aY i).c1 (yR (pt foot aY λj=>inv j/\μ j<μ i) K))| afk (n:Nat) (h:N0 body K n F C I M)| vK {ι:Type} (aY:ι->vJ) (inv:ι->Prop) (μ:ι->Nat) (start:l8 I M->pt foot aY inv F C I M) (round:∀ i,inv i->body (q6 (aY i).bj) (q7 (aY i).cl) (aY i).cI (aY i).c1 (yR (λF C I M=>l8 I M->pt foot aY (λj=>inv j/\μ j<μ i) F C I M) K))
inductive cY(X:cV)(c:Code)(F:Fr)(C:dB)(I:aI)(M:List aD)(K:j0):Prop
 |mk(h:∀ a w,Rel X a w F C I M->c.wpIn (g3 X) 0 X.P (mJ X K) a w)
inductive afl(foot:List Nat)(F:Fr)(C:dB)(I:aI)(M:List aD)(K:gd):Prop
 |go(h:K F C I M)| afm (l:vJ) (hw:h7 foot I M l.cI l.c1) (bG:lf F l.bj) (lg:yQ C l.cl) (h:K (q6 l.bj) (q7 l.cl) l.cI l.c1)
def V(X:cV):Code->Fr->dB->aI->List aD->j0->Prop
 | .skip,F,C,I,M,K=>K .normal F C I M| .label l,F,C,I,M,K=>bif Nat.ble 2 l then afl X.foot F C I M (K .normal)else K .normal F C I M| .ret,F,C,I,M,K=>K .ret F C I M| .exit id,F,C,I,M,K=>K (.exit id) F C I M| .goto l,F,C,I,M,K=>K (.goto l) F C I M| .seq x y,F,C,I,M,K=>V X x F C I M (yR (λF C I M=>V X y F C I M K) K)| .block id c,F,C,I,M,K=>V X c F C I M (UE id K)
 | .cond c x y,F,C,I,M,K=>
  match di F c with
  | .lit b=>bif b then V X x F C I M K else V X y F C I M K| .val (.bool b)=>aZ b (V X x F C I M K) (V X y F C I M K)| _=>False
 | .loop c,F,C,I,M,K=>de X.foot (V X c) F C I M K| .region _ ops false,F,C,I,M,K=>ui X ops.toList ops.toList F C I M (K .normal)| .region id ops true,F,C,I,M,K=>cY X (.region id ops true) F C I M K| .rangeFunc f ps fe body,F,C,I,M,K=>cY X (.rangeFunc f ps fe body) F C I M K| .scope c,F,C,I,M,K=>cY X (.scope c) F C I M K| .refuse _,_,_,_,_,_=>False
def xj(n:Nat)(ops:Array Oper):Bool:=ops.toList.all λo=>match o.dst with
 |some d=>Nat.blt d n| none=>true
def codeOk(n:Nat):Code->Bool
 | .seq x y=>codeOk n x&&codeOk n y| .block _ c=>codeOk n c| .cond _ x y=>codeOk n x&&codeOk n y| .loop c=>codeOk n c| .region _ ops _=>xj n ops| _=>true
def JB(h:xj n ops=true):∀ o∈ops.toList,∀ d,o.dst=some d->d<n:=by intro o aH d aj;have:=fx.1 h o aH;rw[aj]at this;simpa using this
def mJ.then{X:cV}{N:gd}{K:j0}(aB:∀ a w,Sat X N a w->next a w):∀ e a w,mJ X (yR N K) e a w->Exit.then next (mJ X K) e a w:=by
 intro e a w h;cases e<;>first | exact aB _ _ h | exact h
def JC{r9:Fence}{Q:Exit->Act->World->Prop}(J:Nat->Act->World->Prop)(afn:J m a w)
  (round:∀ m a w,J m a w->c.wpIn r9 n P (Exit.then (λbM w'=>∃ m',m'<m/\J m' bM w') Q) a w):(Code.loop c).wpIn r9 n P Q a w:=by
 intro b k cs gp ag af;have key:∀ j a w,J j a w->∃ e bM w',Q e bM w'/\ArrivesIn (Machine.fenced P r9) P (lone (b.atR a (.code c::.inLoop c::k)) cs w) b k cs e bM w':=by
  intro j
  induction j using Nat.strongRecOn with
  |_ j aN=>
   intro a w bt;obtain⟨e,j1,j2,aP,iW⟩:=round j a w bt b (.inLoop c::k) cs gp ag af;cases e with
   |normal=>obtain⟨m',aV,afo⟩:=aP;obtain⟨FV,FW,FX,FY,FZ⟩:=aN m' aV j1 j2 afo;exact⟨FV,FW,FX,FY,.of_steps (StepsIn.trans iW (.one (fenced_calm ag af rfl) stepR_inLoop)) FZ⟩
   |exit id=>exact⟨_,j1,j2,aP,.pass (x:=.inLoop c) rfl (λ_ _=>.inl (by simp)) iW⟩| goto l=>exact⟨_,j1,j2,aP,.pass (x:=.inLoop c) rfl (λ_ _=>.inl (by simp)) iW⟩| ret=>exact⟨_,j1,j2,aP,.pass (x:=.inLoop c) rfl (λ_ _=>.inl (by simp)) iW⟩| panic F0=>exact⟨_,j1,j2,aP,.pass (x:=.inLoop c) rfl (λ_ _=>.inl (by simp)) iW⟩| outgrown=>exact⟨_,j1,j2,aP,.pass (x:=.inLoop c) rfl (λ_ _=>.inl (by simp)) iW⟩
 obtain⟨e,bM,w',aP,iW⟩:=key _ a w afn;exact⟨e,bM,w',aP,.of_steps (.one (fenced_calm ag af rfl) stepR_loop) iW⟩
def q8{X:cV}(aM:cU X.P X.E):∀ (c:Code) {F C I M K a w},codeOk X.n c=true->Rel X a w F C I M->V X c F C I M K->c.wpIn (g3 X) 0 X.P (mJ X K) a w
 | .skip,F,C,I,M,K,a,w,_,aW,ah=>wpIn_skip ⟨F,C,I,M,aW,ah⟩
 | .label l,F,C,I,M,K,a,w,_,aW,ah=>by
  refine wpIn_label ?_;simp only[V]at ah;cases ay:Nat.ble 2 l with
  |false=>rw[ay]at ah;exact⟨F,C,I,M,aW,ah⟩
  |true=>
   rw[ay]at ah;simp only[ca]at ah;cases ah with
   |go h=>exact⟨F,C,I,M,aW,h⟩| afm l hw bG lg h=>obtain⟨β,af⟩:=aW;exact⟨_,_,_,_,⟨β,(af.cQ bG lg).hS hw⟩,h⟩
 | .ret,F,C,I,M,K,a,w,_,aW,ah=>wpIn_ret ⟨F,C,I,M,aW,ah⟩| .exit id,F,C,I,M,K,a,w,_,aW,ah=>wpIn_exit ⟨F,C,I,M,aW,ah⟩| .goto l,F,C,I,M,K,a,w,_,aW,ah=>wpIn_goto ⟨F,C,I,M,aW,ah⟩| .seq x y,F,C,I,M,K,a,w,bu,aW,ah=>by simp only[codeOk,cB]at bu;refine wpIn_seq (wpIn_mono (q8 aM x bu.1 aW ah) (mJ.then ?_));rintro a w⟨dk,C',I',M',af,ae⟩;exact q8 aM y bu.2 af ae
 | .block id c,F,C,I,M,K,a,w,bu,aW,ah=>by
  refine wpIn_block (wpIn_mono (q8 aM c bu aW ah) ?_);intro e a w h;cases e with
  |exit j=>
   simp only[mJ,UE]at h;simp only[Exit.inBlock];by_cases e:j=id;·subst e;simp only[q0,ca]at h;rw[bQ rfl];exact h
   ·simp only[hp e,b']at h;rw[bU e];exact h
  |_=>exact h
 | .cond c x y,F,C,I,M,K,a,w,bu,aW,ah=>by
  simp only[codeOk,cB]at bu;obtain⟨β,af⟩:=aW;simp only[V]at ah;split at ah
  ·rename_i b ag;have ap:=NP af.al ag;refine wpIn_cond ap ?_;cases b
   ·exact q8 aM y bu.2 ⟨β,af⟩ ah
   ·exact q8 aM x bu.1 ⟨β,af⟩ ah
  ·rename_i b ag;have ap:=uj af.al ag;refine wpIn_cond ap ?_;obtain⟨aa,ab⟩:=ah;cases b
   ·exact q8 aM y bu.2 ⟨β,af⟩ (ab rfl)
   ·exact q8 aM x bu.1 ⟨β,af⟩ (aa rfl)
  ·exact ah.elim
 | .loop c,F,C,I,M,K,a,w,bu,aW,ah=>by
  have aN:=@q8 X aM c;simp only[V]at ah;have hinv:∀ {ι:Type} (aY:ι->vJ) (inv:ι->Prop) (μ:ι->Nat) (start:l8 I M->pt X.foot aY inv F C I M)
    (round:∀ i,inv i->V X c (q6 (aY i).bj) (q7 (aY i).cl) (aY i).cI (aY i).c1 (yR (λF C I M=>l8 I M->pt X.foot aY (λj=>inv j/\μ j<μ i) F C I M) K)),(Code.loop c).wpIn (g3 X) 0 X.P (mJ X K) a w:=by
   intro ι aY inv μ start round;let J (m:Nat) (a:Act) (w:World):Prop:=∃ i,inv i/\μ i=m/\Rel X a w (q6 (aY i).bj) (q7 (aY i).cl) (aY i).cI (aY i).c1
   have yS:∀ {p:ι->Prop} {a w},(∀ i,p i->inv i)->Sat X (λF C I M=>l8 I M->pt X.foot aY p F C I M) a w->∃ i,p i/\J (μ i) a w:=by rintro p a w aC⟨F,C,I,M,⟨β,af⟩,fC⟩;obtain⟨j,p8,hw,bG,lg⟩:=fC ⟨af.holds.d,af.holds.cd⟩;exact⟨j,p8,j,aC j p8,rfl,β,(af.cQ bG lg).hS hw⟩
   obtain⟨i0,_,A7⟩:=yS (λ_ h=>h) ⟨F,C,I,M,aW,start⟩;refine JC J A7 ?_;rintro m a w⟨i,hi,rfl,af⟩;refine wpIn_mono (aN bu af (round i hi)) ?_;intro e a w h;cases e with
   |normal=>obtain⟨j,⟨ai,aV⟩,bk⟩:=yS (λ_ h=>h.1) h;exact⟨_,aV,bk⟩
   |_=>exact h
  cases ah with
  | @inv ι aY inv μ start round=>
   let J (m:Nat) (a:Act) (w:World):Prop:=∃ i,inv i/\μ i=m/\Rel X a w (q6 (aY i).bj) (q7 (aY i).cl) (aY i).cI (aY i).c1
   have yS:∀ {p:ι->Prop} {a w},(∀ i,p i->inv i)->Sat X (pt X.foot aY p) a w->∃ i,p i/\J (μ i) a w:=by rintro p a w aC⟨F,C,I,M,⟨β,af⟩,⟨j,p8,hw,bG,lg⟩⟩;exact⟨j,p8,j,aC j p8,rfl,β,(af.cQ bG lg).hS hw⟩
   obtain⟨i0,_,A7⟩:=yS (λ_ h=>h) ⟨F,C,I,M,aW,start⟩;refine JC J A7 ?_;rintro m a w⟨i,hi,rfl,af⟩;refine wpIn_mono (aN bu af (round i hi)) ?_;intro e a w h;cases e with
   |normal=>obtain⟨j,⟨ai,aV⟩,bk⟩:=yS (λ_ h=>h.1) h;exact⟨_,aV,bk⟩
   |_=>exact h
  |vK aY inv μ start round=>exact hinv aY inv μ start round
  |afk n h=>
   refine JC (λm a w=>Sat X (N0 (V X c) K m) a w) ⟨F,C,I,M,aW,h⟩ ?_;rintro m a w⟨F,C,I,M,af,ae⟩;cases m with
   |zero=>exact ae.elim
   |succ m=>
    refine wpIn_mono (aN bu af ae) ?_;intro e a w h;cases e with
    |normal=>exact⟨m,AR m,h⟩| _=>exact h
 | .region id ops false,F,C,I,M,K,a,w,bu,aW,ah=>by refine wpIn_region ?_;have:=UD (K:=K .normal) (Q:=mJ X K) aM ops (λ_ _ h=>h) ops.toList 0 (by simp) (JB bu) aW ah;simpa[w3]using this
 | .region id ops true,F,C,I,M,K,a,w,bu,aW,⟨ah⟩=>ah a w aW| .rangeFunc f ps fe body,F,C,I,M,K,a,w,bu,aW,⟨ah⟩=>ah a w aW| .scope c,F,C,I,M,K,a,w,bu,aW,⟨ah⟩=>ah a w aW| .refuse _,F,C,I,M,K,a,w,bu,aW,ah=>ah.elim
def xk(args:List Value):Fr:=λt=>match args[t]? with
 |some v=>.val v| none=>.nl
def pu(X:cV)(F:Fr)(C:dB)(I:aI)(M:List aD):List ResultVar->(List Value->Prop)->Prop
 |[],K=>K []
 | .tmp t::l,K=>match bE F (.tmp t)with
  | .val v=>pu X F C I M l λvs=>K (v::vs)
  |_=>False
 | .cell t ty::l,K=>match di F (.tmp t),X.E ty with
  | .ref s off,some i=>(match C s with
   |some cs=>bif Nat.ble (off+i.size) cs.length then pu X F C I M l λvs=>K (pack i.bL.agg ((cs.drop off).take i.size)::vs)else False
   |none=>False)
  | .val (.pointer (some a)),some i=>aO I M a i.size λws=>pu X F C I M l λvs=>K (pack i.bL.agg ws::vs)
  |_,_=>False
inductive vL(foot:List Nat)(I:aI)(M:List aD)(post:aI->List aD->Prop):Prop
 |mk(I':aI)(M':List aD)(hw:h7 foot I M I' M')(h:post I' M')
def uo(X:cV)(a0:List ResultVar)(post:Value->aI->List aD->Prop):j0:=λex F C I M=>
 let done:Prop:=pu X F C I M a0 λvs=>match vs with
  |[v]=>vL X.foot I M (post v)| vs=>vL X.foot I M (post (.tuple vs.toArray))
 match ex with
 | .normal=>done| .ret=>done| _=>False
def De(tmps:Array Value):ResultVar->Sem Value
 | .tmp t=>pure (tmps.getD t undef)| .cell a t=>do loadVar t (<-asAddr (tmps.getD a undef))
def afp(fn:Func)(tmps:Array Value):results fn tmps=(do let vs <-fn.results.mapM (De tmps);pure (if h:vs.size=1 then vs[0]else .tuple vs)):=by unfold results;congr 1
def JD{X:cV}(aM:cU X.P X.E){β:Nat->Nat}{a:Act}{w:World}{F:Fr}{C:dB}{I:aI}{M:List aD}(h:cH X β a w F C I M):∀ {a0:List ResultVar} {K:List Value->Prop},pu X F C I M a0 K -> ∃ vs,K vs/\(a0.mapM (De a.tmps)).run X.P w=.ok vs w
 |[],K,ah=>⟨[],ah,rfl⟩
 | .tmp t::l,K,ah=>by
  unfold pu at ah;split at ah;·rename_i v aa;have aG:a.tmps.getD t undef=v:=dc h.al aa;obtain⟨vs,ae,a7⟩:=JD aM h ah;refine⟨_,ae,?_⟩;simp only[FJ,De,cj,c0,bV,a7,aG]
  ·exact ah.elim
 | .cell t ty::l,K,ah=>by
  unfold pu at ah;split at ah
  ·rename_i s off i aa hi;have aG:a.tmps.getD t undef=.pointer (some ⟨β s,off,none⟩):=AW h.al aa;split at ah
   ·rename_i cs ar;cases bp:Nat.ble (off+i.size) cs.length with
    |false=>rw[bp]at ah;exact ah.elim| true=>rw[bp]at ah;obtain⟨vs,ae,a7⟩:=JD aM h ah;have kP:=bJ bp;obtain⟨T,bs⟩:=(h.cf s cs ar).dU;have cr:=Jy (aM _ _ hi) (a:=⟨β s,off,none⟩) rfl bs (vs:=(cs.drop off).take i.size) (by simp) (by simp;omega);refine⟨_,ae,?_⟩;simp only[FJ,De,cj,c0,bV,a7,aG,asAddr,cr]
   ·exact ah.elim
  ·rename_i aS i aa hi;have aG:a.tmps.getD t undef=.pointer (some aS):=uj h.al aa;obtain⟨ws,⟨dK,cs,T,al,e8,iH,ay⟩,ah⟩:=ah;obtain⟨vs,ae,a7⟩:=JD aM h ah;have cr:=Jy (aM _ _ hi) dK (e8.heap h.holds) iH ay;refine⟨_,ae,?_⟩;simp only[FJ,De,cj,c0,bV,a7,aG,asAddr,cr]
  ·exact ah.elim
def afq{X:cV}(aM:cU X.P X.E){β:Nat->Nat}{F:Fr}{C:dB}{I:aI}{M:List aD}(h:cH X β a w F C I M){K:List Value->Prop}(ah:pu X F C I M fn.results.toList K) :
  ∃ vs,K vs/\(results fn a.tmps).run X.P w=.ok (match vs with | [v]=>v | vs=>.tuple vs.toArray) w:=by
 obtain⟨vs,ae,e⟩:=JD aM h ah;refine⟨vs,ae,?_⟩;rw[afp];have aG:(fn.results.mapM (De a.tmps)).run X.P w=.ok vs.toArray w:=by rw[Uk,Sem.run_map,e];rfl
 simp only[cj,aG,bV,c0]
 match vs with
 |[]=>rfl| [v]=>rfl| u::v::l=>simp
def UF{r9:Fence}{n:Nat}{P:Program}{fn:Func}{tmps:Array Value}{R:Ending->World->Prop}:∀ (a0:List Nat) (w:World),a0.Nodup->(∀ r∈a0,w.heap[r]?=some (.deferred (some []))) -> (∀ w':World,w'.heap.size=w.heap.size->(∀ b,b ∉ a0->w'.heap[b]?=w.heap[b]?)->oh w w'->∃ v,(results fn tmps).run P w'=.ok v w'/\R (.returned v) w')->LeavesInM r9 n P fn tmps R (a0.map w9) .returning w
 |[],w,_,_,h=>h w rfl (λ_ _=>rfl) (.refl _)
 |r::a0,w,bI,af,h=>by
  rw[kM]at bI;refine⟨by simp,.inl ⟨r,_,rfl,run_takeDeferred (af r (by simp)),?_⟩⟩;refine UF a0 _ bI.2 (λr' eY=>?_) λw' ar ag aH=>h w' (by rw[ar];simp) (λb Df=>?_) ((Jw _ _ _).trans aH);·have bn:r'≠r:=λe=>bI.1 (e ▸ eY);rw[nh bn];exact af r' (by simp[eY])
  ·simp only[ee,not_or]at Df;rw[ag b Df.2,nh Df.1]
def cH.take{X:cV}{β:Nat->Nat}{F:Fr}{C:dB}{I:aI}{M:List aD}(h:cH X β a w F C I M){a0:List Nat}(er:∀ r∈a0,vE X w I M r)(ar:w'.heap.size=w.heap.size)(ag:∀ b,b ∉ a0->w'.heap[b]?=w.heap[b]?)(aH:oh w w') :
  cH X β { a with defers:=[] } w' F C I M:=by
 exact {
  size:=h.size
  defers:=⟨[],rfl,yH,λr af=>by cases af⟩
  holds:={
   i:=λb o jY=>by rw[ag b (λaf=>by have:=(er b af).jW;rw[jY]at this;cases this)];exact h.holds.i b o jY
   m:=λx ad=>by rw[ag _ (λaf=>(er _ af).eX x ad rfl)];exact h.holds.m x ad
   d:=h.holds.d
   cd:=h.holds.cd }
  al:=h.al
  cf:=λs cs nq=>by have q9:=h.cf s cs nq;obtain⟨T,bs⟩:=q9.dU;refine { q9 with dU:=⟨T,?_⟩ };rw[ag _ (λaf=>by have:=(er _ af).dU;rw[bs]at this;cases this)];exact bs
  inj:=h.inj
  h8:=h.h8
  hD:=h.hD
  own:=h.own
  dE:=λb aV aA=>by rw[ag _ (λaf=>by have:=(er _ af).cQ;omega)];exact h.dE b aV aA
  out:=h.out.trans aH
  sz:=by rw[ar];exact h.sz
  fm:=h.fm }
def mJ.ret{X:cV}(aM:cU X.P X.E){post:Value->aI->List aD->Prop}
  (aW:∀ v I M (w:World) (a:Act) (F:Fr) (C:dB),Rel X a w F C I M->post v I M->R (.returned v) w):∀ e a w,mJ X (uo X fn.results.toList post) e a w->bodyPostM (g3 X) 0 X.P fn R e a w:=by
 have main:∀ a w,Sat X (uo X fn.results.toList post .ret) a w->LeavesInM (g3 X) 0 X.P fn a.tmps R a.defers .returning w:=by
  rintro a w⟨F,C,I,M,⟨β,af⟩,ae⟩;simp only[uo]at ae;obtain⟨a0,aj,bI,hm⟩:=af.defers;rw[aj];refine UF a0 w bI (λr fz=>(hm r fz).dU) λw' ar ag aH=>?_;have eY:=af.take hm ar ag aH;obtain⟨vs,aC,e9⟩:=afq aM eY ae;refine⟨_,e9,?_⟩
  match vs,aC with
  |[],⟨I',M',hw,aC⟩=>exact aW _ I' M' w' _ F C ⟨β,eY.hS hw⟩ aC| [v],⟨I',M',hw,aC⟩=>exact aW _ I' M' w' _ F C ⟨β,eY.hS hw⟩ aC| u::v::l,⟨I',M',hw,aC⟩=>exact aW _ I' M' w' _ F C ⟨β,eY.hS hw⟩ aC
 intro e a w h;cases e with
 |normal=>exact main a w h| ret=>exact main a w h| exit id=>obtain⟨F,C,I,M,_,ae⟩:=h;exact ae.elim
 |goto l=>obtain⟨F,C,I,M,_,ae⟩:=h;exact ae.elim
 |panic _=>exact h.elim| outgrown=>exact h.elim
def afr(aA:P.funcs[f]?=some fn)(ag:fn.body.isSome=true)(aB:(fn.name == "runtime.NumGoroutine")=false):NN P f:=by
 intro args w;have jq:fn.body.isNone=false:=by cases h:fn.body<;>simp_all
 simp only[callFunc,cj,run_program,bV,aA,aB,k7,l5,jq];rfl
def N1{E:Env}(gx:List Nat)(aM:cU P E)(aA:P.funcs[f]?=some fn)(ag:fn.body=some c)(aB:(fn.name == "runtime.NumGoroutine")=false)
 (bu:(codeOk fn.ntmps c&&Nat.ble args.length fn.ntmps)=true) {I:aI} {M:List aD} {post:Value->aI->List aD->Prop}
  (h:∀ B az a w,Rel ⟨P,E,gx,fn.ntmps,B,az,I,M.map (·.num),none⟩ a w (xk args) (λ_=>none) I M->c.wpIn (g3 ⟨P,E,gx,fn.ntmps,B,az,I,M.map (·.num),none⟩) 0 P (mJ ⟨P,E,gx,fn.ntmps,B,az,I,M.map (·.num),none⟩ (uo ⟨P,E,gx,fn.ntmps,B,az,I,M.map (·.num),none⟩ fn.results.toList post)) a w) :
  vD P f args I M post:=by
 rw[cB]at bu;have c2:=bJ bu.2;refine⟨afr aA (by rw[ag];rfl) aB,λw la=>?_⟩;let X:cV:=⟨P,E,gx,fn.ntmps,w.heap.size,w,I,M.map (·.num),none⟩
 have F1:Rel X { tmps:=args.toArray++Array.replicate (fn.ntmps-args.toArray.size) undef,defers:=[] } w (xk args) (λ_=>none) I M:=⟨λ_=>0,{
  size:=by simp[X];omega
  defers:=⟨[],rfl,yH,λr af=>by cases af⟩
  holds:=la
  al:=λt=>by
   unfold xk;cases av:args[t]? with
   |none=>trivial| some v=>have aV:t<args.length:=(h5.1 av).1;simp only[eU,pj];rw[Array.getElem?_append_left (by simpa using aV)];simp[av]
  cf:=λs cs ar=>by cases ar
  inj:=λs b3 aa=>by simp at aa
  h8:=λb o ag=>ag
  hD:=λb o ag=>.inl ag
  own:=λx ad=>.inl (cC.2 ⟨x,ad,rfl⟩)
  dE:=λb ag aA=>rfl
  out:=.refl _
  sz:=cc _
  fm:=λx ad=>by
   obtain⟨y,aE,rfl⟩:=cC.1 ad;exact(lJ.1 (la.m y aE)).1 }⟩
 have JE:=h w.heap.size w _ _ F1;refine(callsIn_wide (n:=0)).1 ?_;have afs:g3 X=Fence.wide:=rfl;rw[afs]at JE;refine callsIn_of_wp_marks aA ag trivial (wpIn_mono JE (mJ.ret (X:=X) aM ?_));rintro v I' M' w' bM dk C'⟨β,af⟩aC;refine⟨v,I',M',rfl,aC,af.holds,?_⟩;exact {
  le:=af.h8
  uh:=af.hD
  vC:=λx ad=>by
   rcases af.own x ad with aa | aa;·obtain⟨y,aE,e⟩:=cC.1 aa;exact .inl ⟨y,aE,e⟩
   ·exact .inr aa
  dE:=λb ag bn=>af.dE b ag (λhm=>by
   obtain⟨y,aE,e⟩:=cC.1 hm;exact bn y aE e)
  out:=af.out
  sz:=af.sz }
def yT{E:Env}(gx:List Nat)(aM:cU P E)(aA:P.funcs[f]?=some fn)(ag:fn.body=some c)(aB:(fn.name == "runtime.NumGoroutine")=false)
 (bu:(codeOk fn.ntmps c&&Nat.ble args.length fn.ntmps)=true) {I:aI} {M:List aD} {post:Value->aI->List aD->Prop}
  (h:∀ B az,V ⟨P,E,gx,fn.ntmps,B,az,I,M.map (·.num),none⟩ c (xk args) (λ_=>none) I M (uo ⟨P,E,gx,fn.ntmps,B,az,I,M.map (·.num),none⟩ fn.results.toList post)) :
  vD P f args I M post:=
 N1 gx aM aA ag aB bu λB az a w af=>by rw[cB]at bu;exact q8 aM c bu.1 af (h B az)
def bZ{E:Env}(gx:List Nat)(aM:cU P E)(aA:P.funcs[f]?=some fn)(ag:fn.body=some c)(aB:(fn.name == "runtime.NumGoroutine")=false)
 (bu:(codeOk fn.ntmps c&&Nat.ble args.length fn.ntmps)=true) {I:aI} {M:List aD} {post:Value->aI->List aD->Prop}
  (h:∀ B az,V ⟨P,E,gx,fn.ntmps,B,az,I,M.map (·.num),none⟩ c (xk args) (λ_=>none) I M (uo ⟨P,E,gx,fn.ntmps,B,az,I,M.map (·.num),none⟩ fn.results.toList post)) :
  Spec P f args I M post:=.inl (yT gx aM aA ag aB bu h)
def JF(X:cV)(a0:List ResultVar)(post:Value->aI->List aD->Prop):j0:=λex F C I M=>
 let done:Prop:=pu X F C I M a0 λvs=>match vs with
  |[v]=>l8 I M->vL X.foot I M (post v)| vs=>l8 I M->vL X.foot I M (post (.tuple vs.toArray))
 match ex with
 | .normal=>done| .ret=>done| _=>False
def JG{X:cV}{F:Fr}{C:dB}{I:aI}{M:List aD}:∀ {a0:List ResultVar} {K yU:List Value->Prop},(∀ vs,K vs->yU vs)->pu X F C I M a0 K->pu X F C I M a0 yU
 |[],K,yU,h,ah=>h _ ah
 | .tmp t::l,K,yU,h,ah=>by
  unfold pu at ah |-;split at ah;·exact JG (λvs=>h _) ah
  ·exact ah.elim
 | .cell t ty::l,K,yU,h,ah=>by
  unfold pu at ah |-;split at ah
  ·rename_i s off i aa hi;split at ah
   ·rename_i cs ar;cases bp:Nat.ble (off+i.size) cs.length with
    |false=>rw[bp]at ah;exact ah.elim| true=>rw[bp]at ah;exact JG (λvs=>h _) ah
   ·exact ah.elim
  ·obtain⟨ws,a8,ah⟩:=ah;exact⟨ws,a8,JG (λvs=>h _) ah⟩
  ·exact ah.elim
def mJ.aft{X:cV}{a0:List ResultVar}{post:Value->aI->List aD->Prop}:∀ e a w,mJ X (JF X a0 post) e a w->mJ X (uo X a0 post) e a w:=by
 have one:∀ a w,Sat X (JF X a0 post .ret) a w->Sat X (uo X a0 post .ret) a w:=by
  rintro a w⟨F,C,I,M,⟨β,af⟩,h⟩;refine⟨F,C,I,M,⟨β,af⟩,JG (λvs ah=>?_) h⟩;have fC:l8 I M:=⟨af.holds.d,af.holds.cd⟩
  match vs,ah with
  |[v],ah=>exact ah fC| [],ah=>exact ah fC| _::_::_,ah=>exact ah fC
 intro e a w h;cases e with
 |normal=>exact one a w h| ret=>exact one a w h| exit id=>obtain⟨F,C,I,M,af,ae⟩:=h;exact ae.elim
 |goto l=>obtain⟨F,C,I,M,af,ae⟩:=h;exact ae.elim
 |panic _=>exact h| outgrown=>exact h
def afu{E:Env}(gx:List Nat)(aM:cU P E)(aA:P.funcs[f]?=some fn)(ag:fn.body=some c)(aB:(fn.name == "runtime.NumGoroutine")=false)
 (bu:(codeOk fn.ntmps c&&Nat.ble args.length fn.ntmps)=true) {I:aI} {M:List aD} {post:Value->aI->List aD->Prop}
  (h:∀ B az,V ⟨P,E,gx,fn.ntmps,B,az,I,M.map (·.num),none⟩ c (xk args) (λ_=>none) I M (JF ⟨P,E,gx,fn.ntmps,B,az,I,M.map (·.num),none⟩ fn.results.toList post)) :
  vD P f args I M post:=
 N1 gx aM aA ag aB bu λB az a w af=>by rw[cB]at bu;exact wpIn_mono (q8 aM c bu.1 af (h B az)) mJ.aft
def yV{E:Env}(gx:List Nat)(aM:cU P E)(aA:P.funcs[f]?=some fn)(ag:fn.body=some c)(aB:(fn.name == "runtime.NumGoroutine")=false)
 (bu:(codeOk fn.ntmps c&&Nat.ble args.length fn.ntmps)=true) {I:aI} {M:List aD} {post:Value->aI->List aD->Prop}
  (h:∀ B az,V ⟨P,E,gx,fn.ntmps,B,az,I,M.map (·.num),none⟩ c (xk args) (λ_=>none) I M (JF ⟨P,E,gx,fn.ntmps,B,az,I,M.map (·.num),none⟩ fn.results.toList post)) :
  Spec P f args I M post:=.inl (afu gx aM aA ag aB bu h)
def N2:Value->Value->Bool
 | .bool a,.bool b=>a == b| .int k n,.int eZ m=>IntKind.mI k eZ&&decide (n=m)| .string s,.string t=>decide (s.data.toList=t.data.toList)| .pointer none,.pointer none=>true| .slice none 0 0,.slice none 0 0=>true| .map none,.map none=>true| .nilFunc,.nilFunc=>true| .nilIface,.nilIface=>true| _,_=>false
def afv:∀ {a b:Value},N2 a b=true->a=b:=by
 intro a b h;unfold N2 at h;split at h
 ·simp at h;rw[h]
 ·simp only[cB,hR]at h;rw[IntKind.Da h.1,h.2]
 ·rename_i s t;simp only[hR]at h;have:s=t:=by cases s;cases t;simp only[ByteArray.mk.injEq];exact gS h
  rw[this]
 all_goals first | rfl | cases h
def JH:List Value->List Value->Bool
 |[],[]=>true| a::as,b::bK=>N2 a b&&JH as bK| _,_=>false
def UG:∀ {a b:List Value},JH a b=true->a=b
 |[],[],_=>rfl| a::as,b::bK,h=>by simp only[JH,cB]at h;rw[afv h.1,UG h.2]
 |[],_::_,h=>by cases h
 |_::_,[],h=>by cases h
def N3(P:Program)(t:Nat)(i:dD):Bool:=
 (match P.info? t with
 |some inf=>decide (inf.size=i.size)&&decide (inf.bytes=i.bytes)&&(match inf.zero with
  |some z=>JH z.cells.toList i.zero| none=>false)
 |none=>false) &&
 (match P.underlying t with
 |some d=>decide (fk d=i.bL)| none=>false)&&gm i.zero&&decide (i.zero.length=i.size)&&(i.bL.agg||decide (i.size=1))
def afw{t:Nat}{i:dD}(h:N3 P t i=true):kl P t i:=by
 simp only[N3,cB]at h;obtain⟨⟨⟨⟨aa,ab⟩,ak⟩,aJ⟩,bB⟩:=h;refine⟨?_,?_,yJ ak,dh aJ,λa2=>?_⟩
 ·split at aa
  ·rename_i inf hi;simp only[cB,hR]at aa;obtain⟨⟨aG,a7⟩,cr⟩:=aa;split at cr
   ·rename_i z bb;exact⟨inf,z,hi,aG,a7,bb,UG cr⟩
   ·cases cr
  ·cases aa
 ·split at ab
  ·rename_i d aj;exact⟨d,aj,dh ab⟩
  ·cases ab
 ·rw[a2]at bB;simpa using bB
def afx{E:Env}(n:Nat)(aB:∀ t,n<=t->E t=none)(h:((List.range n).all λt=>match E t with
  |some i=>N3 P t i| none=>true)=true):cU P E:=by
 intro t i hi;by_cases av:t<n
 ·have:=fx.1 h t (g'.2 av);rw[hi]at this;exact afw this
 ·rw[aB t (by omega)]at hi;cases hi
end Go.V
namespace Go.V
variable{a:Act}{c:Code}{foot:List Nat}{P:Program}{f off T sz hC e n m fB cL dW ei ha k' l6 nk og p3 r7 uf w5 AT FK:Nat}{args vs z:List Value}{v:Value}{w' w:World}{cs:Array Value}{al:Nat×Nat}{R:Ending->World->Prop}{next:Act->World->Prop}{aS:Addr}{gb:IntKind}{ops:Array Oper}{fn:Func}
def xl{F:Fr}:lf F [(fB,F fB),(cL,F cL)]:=.cons .refl (.cons .refl (.nil))
def hG{F:Fr}:lf F [(fB,F fB),(cL,F cL),(dW,F dW)]:=.cons .refl (.cons .refl (.cons .refl (.nil)))
def eE{F:Fr}:lf F [(fB,F fB),(cL,F cL),(dW,F dW),(ei,F ei)]:=.cons .refl (.cons .refl (.cons .refl (.cons .refl (.nil))))
def gf{F:Fr}:lf F [(fB,F fB),(cL,F cL),(dW,F dW),(ei,F ei),(ha,F ha)]:=.cons .refl (.cons .refl (.cons .refl (.cons .refl (.cons .refl (.nil)))))
def ov{F:Fr}:lf F [(fB,F fB),(cL,F cL),(dW,F dW),(ei,F ei),(ha,F ha),(k',F k')]:=.cons .refl (.cons .refl (.cons .refl (.cons .refl (.cons .refl (.cons .refl (.nil))))))
def p'{F:Fr}:lf F [(fB,F fB),(cL,F cL),(dW,F dW),(ei,F ei),(ha,F ha),(k',F k'),(l6,F l6)]:=.cons .refl (.cons .refl (.cons .refl (.cons .refl (.cons .refl (.cons .refl (.cons .refl (.nil)))))))
def kq{F:Fr}:lf F [(fB,F fB),(cL,F cL),(dW,F dW),(ei,F ei),(ha,F ha),(k',F k'),(l6,F l6),(nk,F nk)]:=.cons .refl (.cons .refl (.cons .refl (.cons .refl (.cons .refl (.cons .refl (.cons .refl (.cons .refl (.nil))))))))
def j3{F:Fr}:lf F [(fB,F fB),(cL,F cL),(dW,F dW),(ei,F ei),(ha,F ha),(k',F k'),(l6,F l6),(nk,F nk),(og,F og)]:=.cons .refl (.cons .refl (.cons .refl (.cons .refl (.cons .refl (.cons .refl (.cons .refl (.cons .refl (.cons .refl (.nil)))))))))
def A8{F:Fr}:lf F [(fB,F fB),(cL,F cL),(dW,F dW),(ei,F ei),(ha,F ha),(k',F k'),(l6,F l6),(nk,F nk),(og,F og),(p3,F p3)]:=.cons .refl (.cons .refl (.cons .refl (.cons .refl (.cons .refl (.cons .refl (.cons .refl (.cons .refl (.cons .refl (.cons .refl (.nil))))))))))
def at3{F:Fr}:lf F [(fB,F fB),(cL,F cL),(dW,F dW),(ei,F ei),(ha,F ha),(k',F k'),(l6,F l6),(nk,F nk),(og,F og),(p3,F p3),(r7,F r7)]:=.cons .refl (.cons .refl (.cons .refl (.cons .refl (.cons .refl (.cons .refl (.cons .refl (.cons .refl (.cons .refl (.cons .refl (.cons .refl (.nil)))))))))))
def at4{F:Fr}:lf F [(fB,F fB),(cL,F cL),(dW,F dW),(ei,F ei),(ha,F ha),(k',F k'),(l6,F l6),(nk,F nk),(og,F og),(p3,F p3),(r7,F r7),(uf,F uf)]:=.cons .refl (.cons .refl (.cons .refl (.cons .refl (.cons .refl (.cons .refl (.cons .refl (.cons .refl (.cons .refl (.cons .refl (.cons .refl (.cons .refl (.nil))))))))))))
def UH{F:Fr}:lf F [(fB,F fB),(cL,F cL),(dW,F dW),(ei,F ei),(ha,F ha),(k',F k'),(l6,F l6),(nk,F nk),(og,F og),(p3,F p3),(r7,F r7),(uf,F uf),(w5,F w5)]:=.cons .refl (.cons .refl (.cons .refl (.cons .refl (.cons .refl (.cons .refl (.cons .refl (.cons .refl (.cons .refl (.cons .refl (.cons .refl (.cons .refl (.cons .refl (.nil)))))))))))))
def F2{F:Fr}:lf F [(fB,F fB),(cL,F cL),(dW,F dW),(ei,F ei),(ha,F ha),(k',F k'),(l6,F l6),(nk,F nk),(og,F og),(p3,F p3),(r7,F r7),(uf,F uf),(w5,F w5),(AT,F AT)]:=.cons .refl (.cons .refl (.cons .refl (.cons .refl (.cons .refl (.cons .refl (.cons .refl (.cons .refl (.cons .refl (.cons .refl (.cons .refl (.cons .refl (.cons .refl (.cons .refl (.nil))))))))))))))
def afy{F:Fr}:lf F [(fB,F fB),(cL,F cL),(dW,F dW),(ei,F ei),(ha,F ha),(k',F k'),(l6,F l6),(nk,F nk),(og,F og),(p3,F p3),(r7,F r7),(uf,F uf),(w5,F w5),(AT,F AT),(FK,F FK)]:=.cons .refl (.cons .refl (.cons .refl (.cons .refl (.cons .refl (.cons .refl (.cons .refl (.cons .refl (.cons .refl (.cons .refl (.cons .refl (.cons .refl (.cons .refl (.cons .refl (.cons .refl (.nil)))))))))))))))
def at5{F:Fr}{UI:Nat}:lf F [(fB,F fB),(cL,F cL),(dW,F dW),(ei,F ei),(ha,F ha),(k',F k'),(l6,F l6),(nk,F nk),(og,F og),(p3,F p3),(r7,F r7),(uf,F uf),(w5,F w5),(AT,F AT),(FK,F FK),(UI,F UI)]:=.cons .refl (.cons .refl (.cons .refl (.cons .refl (.cons .refl (.cons .refl (.cons .refl (.cons .refl (.cons .refl (.cons .refl (.cons .refl (.cons .refl (.cons .refl (.cons .refl (.cons .refl (.cons .refl (.nil))))))))))))))))
end Go.V
