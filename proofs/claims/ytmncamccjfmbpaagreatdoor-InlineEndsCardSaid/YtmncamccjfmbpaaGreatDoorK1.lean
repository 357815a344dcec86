/- Part 1 of what the proofs of this seat share: the executor, data in memory, walks.
-/
import Derived.WalkKit
import Derived.RangeFuncRecord
import Derived.OrdersIn
import Derived.Lib.UnsafeStr
set_option linter.all false
namespace Go.V
open Go
def bI:=@Nat.le_of_ble_eq_true
def bY:=@Result.andThen_ok
def cz:=@Bool.and_eq_true
def bX:=@List.map_cons
def dR:=@Nat.eq_of_beq_eq_true
def cF:=@List.mem_append
def e1:=@List.drop_eq_getElem_cons
def gy:=@List.take_succ_eq_append_getElem
def cP:=@List.map_append
def c2:=@List.length_cons
def dB:=@of_decide_eq_true
def ct:=@Sem.run_bind
def b2:=@Nat.le_refl
def cA:=@List.mem_map
def b5:=@cond_false
def c3:=@Sem.run_pure
def cb:=@cond_true
def ij:=@List.getElem?_eq_some_iff
def fi:=@List.all_eq_true
def eg:=@List.mem_cons
def gz:=@Int.toNat_natCast
def l4:=@Array.getElem?_eq_some_iff
def hq:=@decide_eq_true_eq
def bN:=@if_pos
def g8:=@List.mem_range
def bS:=@if_neg
def pM:=@Array.getD_eq_getD_getElem?
def nM:=@World.putObj_heap_other
def jR:=@List.getElem?_map
def j9:=@Option.some.injEq
def lu:=@List.getElem?_take
def lv:=@Bool.false_eq_true
def j':=@Option.getD_some
def jE:=@List.foldl_cons
def lx:=@Option.map_some
def gY:=@Array.ext'
def od:=@List.getElem?_drop
def l5:=@List.nodup_cons
def jf:=@Nat.le_trans
def sB:=@Option.map_eq_some_iff
def v':=@Nat.mul_le_mul_right
def sC:=@Bool.eq_iff_iff
def uJ:=@List.nodup_append
def xH:=@List.range_eq_range'
def DT:=@Array.getElem?_setIfInBounds
def uK:=@Option.getD_none
def qt:=@Nat.add_zero
def uL:=@Nat.min_eq_left
def uM:=@Option.map_none
def tq:=@Oper.wpIn_mono
def tr:=@Nat.add_assoc
def l6:=@if_false
def Gy:=@List.getElem?_cons_succ
def wa:=@ByteArray.ext
def Kp:=@Option.ne_none_iff_exists'
def Bw:=@Nat.lt_succ_self
def xI:=@List.all_cons
def Bx:=@World.alloc_eq
def Kq:=@ByteArray.data_extract
def OY:=@Array.getElem?_eq_getElem
def DU:=@List.nodup_nil
def Gz:=@List.range'_succ
def pN:=@Ne.symm
def pO:=@if_true
def Kr:=@Nat.lt_of_lt_of_le
def GA:=@List.mapM_cons
def DV:=@Nat.add_comm
def OZ:=@List.toList_toArray
def O0:=@Array.foldl_toList
def O1:=@Option.isSome_none
def VG:=@Array.mapM_eq_mapM_toList
def Ks:=@Oper.semAt_eq
variable{a:Act}{c:Code}{foot:List Nat}{P:Program}{f off T sz hQ e n m fI cM d' eh g9 k2 mr nN oP qu sD uN xJ By GB:Nat}{args vs z:List Value}{v:Value}{w' w:World}{cs:Array Value}{ao:Nat×Nat}{R:Ending->World->Prop}{next:Act->World->Prop}{aU:Addr}{gl:IntKind}{ops:Array Oper}{fn:Func}
inductive GC where
 |other | int (k:IntKind) | bool | string | slice (e:Nat) | array (n e:Nat) | struct (cR:List (Nat×Nat)) | map (k e:Nat) | pointer (e:Nat)
 deriving DecidableEq
def fw:TypeDesc->GC
 | .int k=>.int k| .bool=>.bool| .string=>.string| .slice e=>.slice e| .array n e=>.array n e| .struct cR=>.struct (cR.toList.map λf=>(f.type,f.offset))| .map k e=>.map k e| .pointer e=>.pointer e| _=>.other
def GC.agg:GC->Bool
 | .struct _ | .array ..=>true| _=>false
structure dH where
 size:Nat
 bytes:Nat
 zero:List Value
 bM:GC
structure kA(P:Program)(t:Nat)(i:dH):Prop where
 inf:∃ inf z,P.info? t=some inf/\inf.size=i.size/\inf.bytes=i.bytes/\inf.zero=some z/\z.cells.toList=i.zero
 fx:∃ d,P.underlying t=some d/\fw d=i.bM
 one:∀ v∈i.zero,v.oneCell'=true
 len:i.zero.length=i.size
 Kt:i.bM.agg=false->i.size=1
abbrev Env:=Nat->Option dH
def cU(P:Program)(E:Env):Prop:=∀ t i,E t=some i->kA P t i
inductive dD where
 |val(v:Value)| lit (b:Bool)| ref (s off:Nat)| nO
abbrev Fr:=Nat->dD
abbrev dF:=Nat->Option (List Value)
abbrev aM:=Nat->Option Obj
structure aE where
 num:Nat
 obj:Obj
abbrev gm:=Fr->dF->aM->List aE->Prop
def ga(F:Fr)(d:Nat)(x:dD):Fr:=λt=>bif Nat.beq t d then x else F t
def jF(C:dF)(d:Nat)(x:Option (List Value)):dF:=λt=>bif Nat.beq t d then x else C t
def qv(F:Fr)(d:Nat):Fr:=λt=>match F t with
 | .ref s o=>bif Nat.beq s d then .nO else .ref s o| x=>x
def put(o:Option Nat)(x:dD)(F:Fr):Fr:=match o with
 |some d=>ga F d x| none=>F
def dq(F:Fr):Operand->dD
 | .tmp t=>F t| .const (.bool b)=>.lit b| .const v=>.val v| .global g=>.val (.pointer (some ⟨g,0,none⟩))| .func f=>.val (.func (.func f) #[] #[])
def dC(ρ:Operand->dD)(x:Operand):dD:=match ρ x with
 | .lit b=>.val (.bool b)| y=>y
abbrev bF(F:Fr):Operand->dD:=dC (dq F)
def pack(agg:Bool)(vs:List Value):Value:=bif agg then .agg vs.toArray else vs.headD undef
def ck(cs:List Value)(off:Nat)(vs:List Value):List Value:=cs.take off++vs++cs.drop (off+vs.length)
def gA(vs:List Value):Bool:=vs.all (·.oneCell')
def Ku(c:Bool):dD->dD->dD
 | .val (.bool x),.val (.bool y)=>.val (.bool (bif c then x else y))| .val x,.val y=>.val (bif c then x else y)| _,_=>.nO
def xK(op:BinOp)(x y:Int):Option Bool:=match op with
 | .eql=>some (decide (x=y))| .neq=>some (!decide (x=y))| .lss=>some (decide (x<y))| .leq=>some (decide (x<=y))| .gtr=>some (decide (y<x))| .geq=>some (decide (y<=x))| _=>none
def uO(op:BinOp)(k:IntKind)(x y:Int):Option Int:=
 let a:=BitVec.ofInt k.bits x
 let b:=BitVec.ofInt k.bits y
 match op with
 | .and=>some (k.wrap (a &&& b).toNat)| .or=>some (k.wrap (a ||| b).toNat)| .xor=>some (k.wrap (a ^^^ b).toNat)| .andNot=>some (k.wrap (a &&& ~~~b).toNat)| _=>none
def ik(I:aM)(M:List aE)(b:Nat)(o:Obj):Prop:=I b=some o\/∃ x∈M,x.num=b/\x.obj=o
def cO(I:aM)(M:List aE)(a:Addr)(n:Nat)(vs:List Value):Prop:=
 a.spot=none/\∃ cs T ao,ik I M a.block (.cells cs T ao)/\(cs.toList.drop a.off).take n=vs/\vs.length=n
inductive aR(I:aM)(M:List aE)(a:Addr)(n:Nat)(K:List Value->Prop):Prop
 |mk(vs:List Value)(h:cO I M a n vs)(k:K vs)
inductive b8(M:List aE)(a:Addr)(vs:List Value)(K:List aE->Prop):Prop
 |mk(a9 post:List aE)(cs:Array Value)(T:Nat)(a':M=a9++⟨a.block,.cells cs T (0,0)⟩::post)(au:a.spot=none)(ag:a.off+vs.length<=cs.size)(aa:gA vs=true)(k:K (a9++⟨a.block,.cells (ck cs.toList a.off vs).toArray T (0,0)⟩::post))
inductive b'(I:aM)(M:List aE)(K:Nat->Prop):Prop
 |mk(k:∀ b,I b=none->(∀ x∈M,x.num≠b)->K b)
inductive bf(a:Option Addr)(n sz:Nat)(k:Int)(K:Addr->Prop):Prop
 |mk(aU:Addr)(j:Nat)(a6:a=some aU)(ae:k=(j:Int))(ai:j<n)(h:K (aU.add (j*sz)))
inductive eH(n:Nat)(k:Int)(K:Nat->Prop):Prop
 |mk(j:Nat)(ae:k=(j:Int))(ai:j<n)(h:K j)
inductive Bz(s:ByteArray)(k:Int)(K:UInt8->Prop):Prop
 |mk(j:Nat)(ae:k=(j:Int))(ai:j<s.size)(h:K s[j])
inductive bg(k:IntKind)(n:Int)(K:Int->Prop):Prop
 |mk(r:Int)(h:k.wrap n=r)(bc:K r)
inductive DW(y:Int)(K:Prop):Prop
 |mk(h:y≠0)(bc:K)
inductive xL(y:Int)(K:Nat->Prop):Prop
 |mk(j:Nat)(h:y=(j:Int))(bc:K j)
inductive a3(c:Bool)(X Y:Prop):Prop
 |mk(h:c=true->X)(bc:c=false->Y)
inductive m0(l c:Int)(bytes:Nat)(K:Nat->Nat->Prop):Prop
 |mk(n m:Nat)(ay:l=(n:Int))(an:c=(m:Int))(h:n<=m)(ag:bytes*m<=140737488355328)(hm:m<=9223372036854775807)(k:K n m)
inductive O2(c:Nat)(hi mx:Int)(K:Nat->Nat->Prop):Prop
 |mk(h m:Nat)(gF:hi=(h:Int))(iz:mx=(m:Int))(aa:h<=m)(ab:m<=c)(k:K h m)
inductive ms(n c:Nat)(lo hi:Option Int)(K:Nat->Nat->Prop):Prop
 |mk(l h:Nat)(e2:lo.getD 0=(l:Int))(gF:hi.getD n=(h:Int))(aa:l<=h)(ab:h<=c)(k:K l h)
structure eF(I:aM)(M:List aE)(w:World):Prop where
 i:∀ b o,I b=some o->w.heap[b]?=some o
 m:∀ x∈M,w.heap[x.num]?=some x.obj
 d:∀ x∈M,I x.num=none
 ca:(M.map (·.num)).Nodup
def oQ(w w':World):Prop:=w'.os=w.os/\w'.output=w.output
def oQ.refl(w:World):oQ w w:=⟨rfl,rfl⟩
def oQ.trans{a b c:World}(h:oQ a b)(bc:oQ b c):oQ a c:=⟨bc.1.trans h.1,bc.2.trans h.2⟩
structure Kept(I:aM)(M:List aE)(w:World)(I':aM)(M':List aE)(w':World):Prop where
 le:∀ b o,I b=some o->I' b=some o
 uP:∀ b o,I' b=some o->I b=some o\/w.heap.size<=b
 wb:∀ x∈M',(∃ y∈M,y.num=x.num)\/w.heap.size<=x.num
 dI:∀ b,b<w.heap.size->(∀ y∈M,y.num≠b)->w'.heap[b]?=w.heap[b]?
 out:oQ w w'
 sz:w.heap.size<=w'.heap.size
def O3(P:Program)(f:Nat):Prop:=∀ (args:Array Value) (w:World),(callFunc f args).run P w=.ok (.enter f args) w
def wc(P:Program)(f:Nat)(args:List Value)(I:aM)(M:List aE)(post:Value->aM->List aE->Prop):Prop:=
 O3 P f/\∀ w,eF I M w->Calls P f args.toArray w λe w'=>∃ v I' M',e=.returned v/\post v I' M'/\eF I' M' w'/\Kept I M w I' M' w'
def agS(P:Program)(f:Nat)(args:List Value)(I:aM)(M:List aE)(post:Value->aM->List aE->Prop):Prop:=
 ∀ w,eF I M w->∃ v w' I' M',(callFunc f args.toArray).run P w=.ok (.value v) w'/\post v I' M'/\eF I' M' w'/\Kept I M w I' M' w'
def Spec(P:Program)(f:Nat)(args:List Value)(I:aM)(M:List aE)(post:Value->aM->List aE->Prop):Prop:=wc P f args I M post\/agS P f args I M post
def ins(I:aM)(b:Nat)(o:Obj):aM:=λx=>bif Nat.beq x b then some o else I x
inductive il(foot:List Nat):aM->List aE->aM->List aE->Prop
 |refl{I M}:il foot I M I M| sub {I M M1 I' M'} (h:List.Sublist M1 M) (k:il foot I M1 I' M'):il foot I M I' M'| perm {I M M1 I' M'} (h:M.Perm M1) (k:il foot I M1 I' M'):il foot I M I' M'| k3 {I M I' M' b o post} (h:M=⟨b,o⟩::post) (aA:b ∉ foot) (k:il foot (ins I b o) post I' M'):il foot I M I' M'
structure mu(I:aM)(M:List aE):Prop where
 d:∀ x∈M,I x.num=none
 ca:(M.map (·.num)).Nodup
inductive bd(foot:List Nat)(P:Program)(f:Nat)(args:List Value)(I:aM)(M:List aE)(K:Value->aM->List aE->Prop):Prop
 |mk(ey Mr:List aE)(post:Value->aM->List aE->Prop)(a':M.Perm (ey++Mr))(au:Spec P f args I ey post)(k:∀ v I' M',(∀ b o,I b=some o->I' b=some o)->post v I' M'->K v I' (M'++Mr))| zi (ey Mr:List aE) (post:Value->aM->List aE->Prop) (a':M.Perm (ey++Mr)) (au:Spec P f args I ey post) (k:∀ v I' M',(∀ b o,I b=some o->I' b=some o)->(∀ x∈M'++Mr,I' x.num=none)->post v I' M'->K v I' (M'++Mr))| DX (I1:aM) (ey Mr:List aE) (post:Value->aM->List aE->Prop) (hw:il foot I M I1 (ey++Mr)) (au:Spec P f args I1 ey post) (k:∀ v I' M',(∀ b o,I1 b=some o->I' b=some o)->(∀ x∈M'++Mr,I' x.num=none)->post v I' M'->K v I' (M'++Mr))| GD (h:mu I M->bd foot P f args I M K)
def bd.elim{I:aM}{M:List aE}{K:Value->aM->List aE->Prop}(fJ:mu I M)(h:bd foot P f args I M K) :
  ∃ (I1:aM) (ey Mr:List aE) (post:Value->aM->List aE->Prop),il foot I M I1 (ey++Mr)/\Spec P f args I1 ey post/\∀ v I' M',(∀ b o,I1 b=some o->I' b=some o)->(∀ x∈M'++Mr,I' x.num=none)->post v I' M'->K v I' (M'++Mr):=by
 induction h with
 |mk ey Mr post a' au k=>exact⟨I,ey,Mr,post,.perm a' .refl,au,λv I' M' aa _ ab=>k v I' M' aa ab⟩| zi ey Mr post a' au k=>exact⟨I,ey,Mr,post,.perm a' .refl,au,k⟩| DX I1 ey Mr post hw au k=>exact⟨I1,ey,Mr,post,hw,au,k⟩| GD h aF=>exact aF fJ
structure cV where
 P:Program
 E:Env
 gG:List Nat
 n:Nat
 B:Nat
 az:World
 dt:aM
 foot:List Nat
 ro:Option Nat
def g'(X:cV):Fence:={ Fence.wide with round:=X.ro }
def e3(β:Nat->Nat):dD->Value->Prop
 | .val v,u=>u=v| .lit b,u=>u=.bool b| .ref s off,u=>u=.pointer (some ⟨β s,off,none⟩)| .nO,_=>True
structure xM(X:cV)(w:World)(I:aM)(M:List aE)(b:Nat)(cs:List Value):Prop where
 dX:∃ T,w.heap[b]?=some (.cells cs.toArray T (0,0))
 cS:X.B<=b
 ka:I b=none
 e5:∀ x∈M,x.num≠b
structure we(X:cV)(w:World)(I:aM)(M:List aE)(r:Nat):Prop where
 dX:w.heap[r]?=some (.deferred (some []))
 cS:X.B<=r
 ka:I r=none
 e5:∀ x∈M,x.num≠r
def xN(r:Nat):Deferred:={ target:=.collected r,args:=#[] }
def Marks(X:cV)(a:Act)(w:World)(I:aM)(M:List aE):Prop:=∃ a2:List Nat,a.defers=a2.map xN/\a2.Nodup/\∀ r∈a2,we X w I M r
structure cN(X:cV)(β:Nat->Nat)(a:Act)(w:World)(F:Fr)(C:dF)(I:aM)(M:List aE):Prop where
 size:a.tmps.size=X.n
 defers:Marks X a w I M
 holds:eF I M w
 ao:∀ t,e3 β (F t) (a.tmps.getD t undef)
 cm:∀ s cs,C s=some cs->xM X w I M (β s) cs
 inj:∀ s cf,C s≠none->C cf≠none->β s=β cf->s=cf
 im:∀ b o,X.dt b=some o->I b=some o
 hR:∀ b o,I b=some o->X.dt b=some o\/X.B<=b
 own:∀ x∈M,x.num∈X.foot\/X.B<=x.num
 dI:∀ b,b<X.B->b ∉ X.foot->w.heap[b]?=X.az.heap[b]?
 out:oQ X.az w
 sz:X.B<=w.heap.size
 fy:∀ x∈X.foot,x<X.B
def Rel(X:cV)(a:Act)(w:World)(F:Fr)(C:dF)(I:aM)(M:List aE):Prop:=∃ β,cN X β a w F C I M
def Sat(X:cV)(K:gm)(a:Act)(w:World):Prop:=∃ F C I M,Rel X a w F C I M/\K F C I M
inductive bB(X:cV)(o:Oper)(F:Fr)(C:dF)(I:aM)(M:List aE)(K:gm):Prop
 |mk(h:∀ a w Q,Rel X a w F C I M->o.wpIn (g' X) 0 X.P a w (Sat X K) Q)
def kb(ρ:Operand->dD):List Operand->Option (List Value)
 |[]=>some []
 |x::xs=>match dC ρ x,kb ρ xs with
  | .val v,some vs=>some (v::vs)| _,_=>none
abbrev m1(F:Fr):List Operand->Option (List Value):=kb (dq F)
def ts(place:Nat->Option (Nat×Nat))(cells:List Value):List (Nat×Value)->Option (List Value)
 |[]=>some cells
 |(i,v)::bk=>match place i with
  |none=>none| some (off,size)=>bif Nat.beq v.cells.size size&&Nat.ble (off+size) cells.length then ts place (ck cells off v.cells.toList) bk else none
def tt(ρ:Operand->dD):List (Nat×Operand)->Option (List (Nat×Value))
 |[]=>some []
 |(i,x)::xs=>match dC ρ x,tt ρ xs with
  | .val v,some vs=>some ((i,v)::vs)| _,_=>none
abbrev BA(F:Fr):List (Nat×Operand)->Option (List (Nat×Value)):=tt (dq F)
def places(E:Env)(cR:List (Nat×Nat))(i:Nat):Option (Nat×Nat):=match cR[i]? with
 |some (fy,off)=>match E fy with
  |some hr=>some (off,hr.size)| none=>none
 |none=>none
def DY(E:Env)(cR:List (Nat×Nat)):Bool:=cR.all λf=>(E f.1).isSome
def rowOf(zero:List Value)(n:Nat):List Value:=(List.range n).map λi=>zero[i%zero.length]!
def wg(zero:List Value)(n:Nat):rowOf zero n=(madeCells zero.toArray n).toList:=by simp[rowOf,madeCells]
def IntKind.m3:IntKind->IntKind->Bool
 | .i8,.i8 | .i16,.i16 | .i32,.i32 | .i64,.i64 | .u8,.u8 | .u16,.u16 | .u32,.u32 | .u64,.u64=>true| _,_=>false
def l7(op:BinOp)(c7:Option dH)(x y:dD)(K:Value->Prop)(other:Prop):Prop:=
 match x,y with
 | .val (.int k a),.val (.int e9 b)=>
  match op with
  | .shl=>xL b λj=>bg k (a*2^(min j k.bits)) λr=>K (.int k r)
  | .shr=>xL b λj=>K (.int k (a.fdiv (2^(min j k.bits))))
  |op=>bif IntKind.m3 k e9 then
    (match op with
    | .add=>bg k (a+b) λr=>K (.int k r)
    | .sub=>bg k (a-b) λr=>K (.int k r)
    | .mul=>bg k (a*b) λr=>K (.int k r)
    | .quo=>DW b (bg k (a.tdiv b) λr=>K (.int k r))| .rem=>DW b (K (.int k (a.tmod b)))
    | .and | .or | .xor | .andNot=>(match uO op k a b with
     |some r=>K (.int k r)| none=>False)
    |op=>(match xK op a b with
     |some r=>K (.bool r)| none=>False))
   else False
 | .val (.string a),.val (.string b)=>
  match op with
  | .eql=>K (.bool (decide (a=b)))| .neq=>K (.bool (!decide (a=b)))| _=>other
 | .val (.bool a),.val (.bool b)=>
  match c7 with
  |some { bM:=.bool,.. }=>
   (match op with
   | .eql=>K (.bool (a == b))| .neq=>K (.bool (!(a == b)))| _=>other)
  |_=>other
 |_,_=>other
inductive gB(P:Program)(op:BinOp)(t:Nat)(x y:Operand)(p q:dD)(K:Value->Prop)(other:Prop):Prop
 |mk(m4 eA v:Value)(aB:p=.val m4)(aN:q=.val eA)(h:∀ w,(do eqGuard op t x y m4 eA;binOp op t m4 eA:Sem Value).run P w=.ok v w)(k:K v)| other (h:other)
def cH(X:cV)(op:Op)(ρ:Operand->dD)(C:dF)(I:aM)(M:List aE)(V:dD->Prop)(other:Prop):Prop:=
 match op with
 | .move x | .assign x=>V (ρ x)
 | .pick c a b=>
  match ρ c with
  | .lit c=>V (bif c then ρ a else ρ b)| .val (.bool c)=>V (Ku c (dC ρ a) (dC ρ b))| _=>False
 | .unOp op _ x=>
  match op,ρ x with
  | .not,.lit b=>V (.lit (!b))| .not,.val (.bool b)=>V (.val (.bool (!b)))| .neg,.val (.int k n)=>bg k (0-n) λr=>V (.val (.int k r))
  |_,_=>other
 | .binOp op t x y _=>l7 op (X.E t) (dC ρ x) (dC ρ y) (λv=>V (.val v)) (gB X.P op t x y (dC ρ x) (dC ρ y) (λv=>V (.val v)) other)
 | .load t x=>
  match X.E t with
  |some i=>
   (match ρ x with
   | .ref s off=>
    (match C s with
    |some cs=>bif Nat.ble (off+i.size) cs.length then V (.val (pack i.bM.agg ((cs.drop off).take i.size)))else False| none=>False)
   | .val (.pointer (some a))=>aR I M a i.size λvs=>V (.val (pack i.bM.agg vs))
   |_=>False)
  |none=>False
 | .nilCheck x=>
  match ρ x with
  | .ref s off=>V (.ref s off)| .val (.pointer (some a))=>V (.val (.pointer (some a)))| _=>other
 | .fieldAddr t x i=>
  match X.E t with
  |some { bM:=.struct cR,.. }=>
   (match cR[i]? with
   |some (fy,off)=>
    (match X.E fy,ρ x with
    |some hr,.ref s o'=>bif Nat.beq hr.size 0 then False else V (.ref s (o'+off))| some hr,.val (.pointer (some a))=>bif Nat.beq hr.size 0 then False else V (.val (.pointer (some (a.add off))))| _,_=>False)
   |none=>False)
  |_=>False
 | .field t x i=>
  match X.E t,dC ρ x with
  |some { bM:=.struct cR,.. },.val (.agg cs)=>
   (match cR[i]? with
   |some (fy,off)=>
    (match X.E fy with
    |some hr=>bif Nat.ble (off+hr.size) cs.size then V (.val (pack hr.bM.agg ((cs.toList.drop off).take hr.size)))else False| none=>False)
   |none=>False)
  |_,_=>False
 | .indexAddr t x i=>
  match X.E t,dC ρ i with
  |some { bM:=.slice e,.. },.val (.int _ k)=>
   (match X.E e,dC ρ x with
   |some aI,.val (.slice a n _)=>bf a n aI.size k λaU=>V (.val (.pointer (some aU)))
   |_,_=>False)
  |some { bM:=.array n e,.. },.val (.int _ k)=>
   (match X.E e,ρ x with
   |some aI,.ref s o'=>eH n k λj=>V (.ref s (o'+j*aI.size))
   |some aI,.val (.pointer (some a))=>eH n k λj=>V (.val (.pointer (some (a.add (j*aI.size)))))
   |_,_=>False)
  |_,_=>False
 | .index t x i=>
  match X.E t,dC ρ x,dC ρ i with
  |some { bM:=.string,.. },.val (.string s),.val (.int _ k)=>Bz s k λb=>V (.val (.int .u8 b.toNat))
  |some { bM:=.array n e,.. },.val (.agg cs),.val (.int _ k)=>
   (match X.E e with
   |some aI=>bif Nat.beq (n*aI.size) cs.size then eH n k λj=>V (.val (pack aI.bM.agg ((cs.toList.drop (j*aI.size)).take aI.size)))else False
   |none=>False)
  |_,_,_=>False
 | .build t parts=>
  match X.E t,tt ρ parts.toList with
  |some i,some vs=>
   (match i.bM with
   | .struct cR=>bif DY X.E cR then(match ts (places X.E cR) i.zero vs with
    |some cells=>V (.val (.agg cells.toArray))| none=>False)else False
   | .array _ e=>(match X.E e with
    |some aI=>(match ts (λj=>some (j*aI.size,aI.size)) i.zero vs with
     |some cells=>V (.val (.agg cells.toArray))| none=>False)
    |none=>False)
   |_=>False)
  |_,_=>False
 | .makeFunc fn first captured=>
  match kb ρ first.toList,kb ρ captured.toList with
  |some cR,some cs=>V (.val (.func fn cR.toArray cs.toArray))| _,_=>False
 | .slice t x lo hi mx=>
  match X.E t,dC ρ x,mx.map (dC ρ)with
  |some { bM:=.slice e,.. },.val (.slice a n c),none=>
   (match X.E e,lo.map (dC ρ),hi.map (dC ρ)with
   |some aI,none,none=>V (.val (.slice a n c))| some aI,none,some (.val (.int _ h))=>ms n c none (some h) λ_ h=>V (.val (.slice a h c))
   |some aI,some (.val (.int _ l)),none=>ms n n (some l) none λl _=>V (.val (.slice (if c=l then a else a.map (·.add (l*aI.size))) (n-l) (c-l)))
   |some aI,some (.val (.int _ l)),some (.val (.int _ h))=>ms n c (some l) (some h) λl h=>V (.val (.slice (if c=l then a else a.map (·.add (l*aI.size))) (h-l) (c-l)))
   |_,_,_=>False)
  |some { bM:=.string,.. },.val (.string s),none=>
   (match lo.map (dC ρ),hi.map (dC ρ)with
   |none,none=>V (.val (.string s))| none,some (.val (.int _ h))=>ms s.size s.size none (some h) λ_ h=>V (.val (.string (s.extract 0 h)))
   |some (.val (.int _ l)),none=>ms s.size s.size (some l) none λl _=>V (.val (.string (s.extract l s.size)))
   |some (.val (.int _ l)),some (.val (.int _ h))=>ms s.size s.size (some l) (some h) λl h=>V (.val (.string (s.extract l h)))
   |_,_=>False)
  |some { bM:=.slice e,.. },.val (.slice a _ c),some (.val (.int _ m))=>
   (match X.E e,lo.map (dC ρ),hi.map (dC ρ)with
   |some aI,none,some (.val (.int _ h))=>O2 c h m λh m=>V (.val (.slice (if m=0 then a else a.map (·.add (0*aI.size))) (h-0) (m-0)))
   |_,_,_=>other)
  |_,_,_=>other
 | .extract x i=>
  match dC ρ x with
  | .val (.tuple vs)=>(match vs.toList[i]? with
   |some v=>V (.val v)| none=>False)
  |_=>False
 | .convert s d x=>
  match X.E s,X.E d,dC ρ x with
  |some _,some { bM:=.int k,.. },.val (.int _ n)=>bg k n λr=>V (.val (.int k r))
  |_,_,_=>other
 | .call { callee:=.builtin .len,args,argTypes }=>
  match argTypes.toList,kb ρ args.toList with
  |[t],some [v]=>
   (match X.E t,v with
   |some { bM:=.slice _,.. },.slice _ n _=>V (.val (.int .i64 n))| some { bM:=.string,.. },.string s=>V (.val (.int .i64 s.size))| some { bM:=.array n _,.. },_=>V (.val (.int .i64 n))| _,_=>other)
  |_,_=>other
 | .call { callee:=.builtin .cap,args,argTypes }=>
  match argTypes.toList,kb ρ args.toList with
  |[t],some [v]=>
   (match X.E t,v with
   |some { bM:=.slice _,.. },.slice _ _ c=>V (.val (.int .i64 c))| _,_=>other)
  |_,_=>other
 | .call { callee:=.builtin .max,args,.. }=>
  match kb ρ args.toList with
  |some [.int k a,.int _ b]=>V (.val (.int k (max a b)))| _=>other
 | .call { callee:=.builtin .min,args,.. }=>
  match kb ρ args.toList with
  |some [.int k a,.int _ b]=>V (.val (.int k (min a b)))| _=>other
 | .call { callee:=.builtin .unsafeSliceData,args,.. }=>
  match kb ρ args.toList with
  |some [.slice none _ _]=>V (.val (.pointer none))| some [.slice (some a) _ c]=>DW c (V (.val (.pointer (some a))))| _=>other
 |_=>other
def gZ(X:cV)(o:Oper)(F:Fr)(C:dF)(I:aM)(M:List aE)(K:gm):Prop:=
 match o.op with
 | .box t x=>
  match o.dst,bF F x with
  |some d,.val v=>
   bif X.gG.contains d then b' I M λb=>K (ga (qv F d) d (.val (.pointer (some ⟨b,0,none⟩)))) (jF C d none) I (⟨b,.cells v.cells t (0,0)⟩::M)
   else K (ga (qv F d) d (.ref d 0)) (jF C d (some v.cells.toList)) I M
  |_,_=>False
 | .alloc t=>
  match o.dst,X.E t with
  |some d,some i=>
   bif X.gG.contains d then b' I M λb=>K (ga (qv F d) d (.val (.pointer (some ⟨b,0,none⟩)))) (jF C d none) I (⟨b,.cells i.zero.toArray t (0,0)⟩::M)
   else K (ga (qv F d) d (.ref d 0)) (jF C d (some i.zero)) I M
  |_,_=>False
 | .store t x y=>
  match o.dst,X.E t,bF F y with
  |none,some i,.val v=>
   (match dq F x with
   | .ref s off=>
    (match C s with
    |some cs=>bif Nat.ble (off+i.size) cs.length&&(Nat.beq v.cells.size i.size&&gA v.cells.toList)then K F (jF C s (some (ck cs off v.cells.toList))) I M else False| none=>False)
   | .val (.pointer (some a))=>bif Nat.beq v.cells.size i.size then b8 M a v.cells.toList λM'=>K F C I M' else False
   |_=>False)
  |_,_,_=>False
 | .buildSlice t len parts=>
  match X.E t,BA F parts.toList with
  |some { bM:=.slice e,.. },some vs=>
   (match X.E e with
   |some aI=>
    bif Nat.ble (len*aI.size) 16777216&&Nat.blt 0 (len*aI.size)then
     (match ts (λj=>some (j*aI.size,aI.size)) (rowOf aI.zero (len*aI.size)) vs with
     |some cells=>b' I M λb=>K (put o.dst (.val (.slice (some ⟨b,0,none⟩) len len)) F) C I (⟨b,.cells cells.toArray e (0,0)⟩::M)
     |none=>False)
    else(match len,vs with
     |0,[]=>b' I M λb=>K (put o.dst (.val (.slice (some ⟨b,0,none⟩) 0 0)) F) C I (⟨b,.cells #[] e (0,0)⟩::M)
     |_,_=>False)
   |none=>False)
  |_,_=>False
 | .makeSlice t l c=>
  match X.E t,bF F l,bF F c with
  |some { bM:=.slice e,.. },.val (.int _ l),.val (.int _ c)=>
   (match X.E e with
   |some aI=>m0 l c aI.bytes λn m=>b' I M λb=>K (put o.dst (.val (.slice (some ⟨b,0,none⟩) n m)) F) C I (⟨b,.cells (rowOf aI.zero (m*aI.size)).toArray e (0,0)⟩::M)
   |none=>False)
  |_,_,_=>False
 | .call { callee:=.value f,args,.. }=>
  match bF F f,m1 F args.toList with
  | .val (.func (.func g) first cap),some vs=>bd X.foot X.P g (first.toList++vs++cap.toList) I M λv I' M'=>K (put o.dst (.val v) F) C I' M'
  |_,_=>bB X o F C I M K
 |op=>cH X op (dq F) C I M (λx=>K (put o.dst x F) C I M) (bB X o F C I M K)
inductive cj(c b:Bool)(Y N:Prop):Prop
 |mk(h:c=b->Y)(bc:c=!b->N)
def uQ(X:cV)(ops:List Oper):List Oper->Fr->dF->aM->List aE->gm->Prop
 |[],F,C,I,M,K=>K F C I M
 |o::bk,F,C,I,M,K=>
  match o.guard with
  |none=>gZ X o F C I M λF C I M=>uQ X ops bk F C I M K
  |some (j,b)=>
   match(ops[j]?).bind (·.dst)with
   |none=>False
   |some d=>
    match F d with
    | .lit c=>bif c == b then gZ X o F C I M λF C I M=>uQ X ops bk F C I M K else uQ X ops bk (put o.dst (.val undef) F) C I M K
    | .val (.bool c)=>cj c b (gZ X o (ga F d (.lit b)) C I M λF C I M=>uQ X ops bk F C I M K) (uQ X ops bk (put o.dst (.val undef) (ga F d (.lit !b))) C I M K)| .val (.tuple _)=>uQ X ops bk (put o.dst (.val undef) F) C I M K| _=>False
def hE{a b:Nat}(h:¬ a=b):Nat.beq a b=false:=by
 cases ag:Nat.beq a b with
 |false=>rfl| true=>exact absurd (dR ag) h
def rq(a:Nat):Nat.beq a a=true:=Nat.beq_refl a
def GF(w:World)(o:Obj){i:Nat}(h:i<w.heap.size):(w.alloc o).heap[i]?=w.heap[i]?:=by show(w.heap.push o)[i]?=_;simp[Array.getElem?_push,Nat.ne_of_lt h]
def O4(w:World)(o:Obj):(w.alloc o).heap[w.heap.size]?=some o:=by show(w.heap.push o)[w.heap.size]?=_;simp
section
variable{X:cV}{β:Nat->Nat}{a:Act}{w:World}{F:Fr}{C:dF}{I:aM}{M:List aE}{o:Oper}{Q:Exit->Act->World->Prop}{next:Act->World->Prop}{K:gm}
def xO(h:∀ t,e3 β (F t) (a.tmps.getD t undef))(x:Operand):e3 β (dq F x) (a.eval x):=by
 cases x with
 |tmp t=>exact h t| const v=>cases v<;>exact rfl
 |global g=>exact rfl| func f=>exact rfl
def df(h:∀ t,e3 β (F t) (a.tmps.getD t undef)){x:Operand}(ad:bF F x=.val v):a.eval x=v:=by
 have aa:=xO h x;unfold bF dC at ad;split at ad
 ·rename_i b ag;rw[ag]at aa;cases ad;exact aa
 ·rw[ad]at aa;exact aa
def uR(h:∀ t,e3 β (F t) (a.tmps.getD t undef)){x:Operand}(ad:dq F x=.val v):a.eval x=v:=by have aa:=xO h x;rw[ad]at aa;exact aa
def O5(h:∀ t,e3 β (F t) (a.tmps.getD t undef)){x:Operand}{b:Bool}(ad:dq F x=.lit b):a.eval x=.bool b:=by have aa:=xO h x;rw[ad]at aa;exact aa
def BB(h:∀ t,e3 β (F t) (a.tmps.getD t undef)){x:Operand}{s:Nat}(ad:dq F x=.ref s off):a.eval x=.pointer (some ⟨β s,off,none⟩):=by have aa:=xO h x;rw[ad]at aa;exact aa
def VH(h:∀ t,e3 β (F t) (a.tmps.getD t undef))(x:Operand):e3 β (bF F x) (a.eval x):=by
 have aa:=xO h x;unfold bF dC;split
 ·rename_i b ag;rw[ag]at aa;exact aa
 ·exact aa
def tu(h:∀ t,e3 β (F t) (a.tmps.getD t undef)):∀ {xs:List Operand} {vs:List Value},m1 F xs=some vs->xs.map a.eval=vs
 |[],vs,ad=>by simp[m1,kb]at ad;simp[ad]
 |x::xs,vs,ad=>by
  unfold m1 kb at ad;split at ad;·rename_i v tv aa ab;cases ad;simp[df h aa,tu h ab]
  ·cases ad
def Kv(h:∀ t,e3 β (F t) (a.tmps.getD t undef)):∀ {xs:List (Nat×Operand)} {vs:List (Nat×Value)},BA F xs=some vs->(xs.map λ(i,x)=>(i,a.eval x))=vs
 |[],vs,ad=>by simp[BA,tt]at ad;simp[ad]
 |(i,x)::xs,vs,ad=>by
  unfold BA tt at ad;split at ad;·rename_i v tv aa ab;cases ad;simp[df h aa,Kv h ab]
  ·cases ad
def jg(bH:∀ c,o.op≠.defer c)(h:(execOp a.eval o).run X.P w=.ok (.value v) w')(ae:next (a.put o.dst v) w'):o.wpIn (g' X) 0 X.P a w next Q:=
 ⟨λ_ _=>trivial,by rw[Ks _ _ _ bH,h];exact ae⟩
def DZ(bH:∀ c,o.op≠.defer c)(h:(execOp a.eval o).run X.P w=.ok .skip w')(ae:next (a.put o.dst undef) w'):o.wpIn (g' X) 0 X.P a w next Q:=
 ⟨λ_ _=>trivial,by rw[Ks _ _ _ bH,h];exact ae⟩
def VI(a:Act)(d t:Nat)(v:Value)(ak:d<a.tmps.size):(a.put (some d) v).tmps.getD t undef=if t=d then v else a.tmps.getD t undef:=by
 simp only[Act.put,pM,DT];by_cases h:t=d
 ·subst h;simp[ak]
 ·simp[h,pN h]
def O6(h:∀ t,e3 β (F t) (a.tmps.getD t undef)){d:Nat}{x:dD}(ak:d<a.tmps.size)(ad:e3 β x v)(t:Nat):e3 β (ga F d x t) ((a.put (some d) v).tmps.getD t undef):=by
 rw[VI a d t v ak];unfold ga;by_cases aa:t=d
 ·subst aa;simp only[rq,cb,pO];exact ad
 ·have:Nat.beq t d=false:=hE aa;simp only[this,b5,bS aa];exact h t
def VJ(w:World)(g:Nat)(cs:Array Value):oQ w (w.setRow g cs):=by
 unfold World.setRow
 first | exact⟨rfl,rfl⟩ | (split<;>exact⟨rfl,rfl⟩)
def Kw(w:World)(g:Nat)(o:Obj):oQ w (w.putObj g o):=by unfold World.putObj;exact⟨rfl,rfl⟩
def Marks.mono(h:Marks X a w I M){I':aM}{M':List aE}(hm:∀ r,we X w I M r->we X w' I' M' r):Marks X a w' I' M':=by obtain⟨a2,aa,ab,aj⟩:=h;exact⟨a2,aa,ab,λr af=>hm r (aj r af)⟩
def cN.put(h:cN X β a w F C I M){dst:Option Nat}(ak:∀ d,dst=some d->d<X.n){x:dD}(ad:e3 β x v):cN X β (a.put dst v) w (put dst x F) C I M:=by
 cases dst with
 |none=>exact h
 |some d=>
  refine { h with size:=?_,defers:=h.defers,ao:=?_ };·simp[Act.put,h.size]
  ·exact O6 h.ao (by rw[h.size];exact ak d rfl) ad
def eF.heap(h:eF I M w)(cW:w'.heap=w.heap):eF I M w':=
 { i:=by rw[cW];exact h.i,m:=by rw[cW];exact h.m,d:=h.d,ca:=h.ca }
def cN.world(h:cN X β a w F C I M)(cW:w'.heap=w.heap)(aK:oQ w w':=by exact⟨rfl,rfl⟩):cN X β a w' F C I M:=
 { h with
  holds:={ i:=by rw[cW];exact h.holds.i,m:=by rw[cW];exact h.holds.m,d:=h.holds.d,ca:=h.holds.ca }
  defers:=h.defers.mono λr af=>{ af with dX:=by rw[cW];exact af.dX }
  cm:=λs cs au=>{ h.cm s cs au with dX:=by rw[cW];exact(h.cm s cs au).dX }
  dI:=by rw[cW];exact h.dI
  out:=h.out.trans aK
  sz:=by rw[cW];exact h.sz }
def eF.alloc(h:eF I M w)(o:Obj):eF I M (w.alloc o) where
 i b x ag:=by have aa:=h.i b x ag;rw[GF w o (l4.1 aa).1];exact aa
 m x ad:=by have aa:=h.m x ad;rw[GF w o (l4.1 aa).1];exact aa
 d:=h.d
 ca:=h.ca
def eF.lt(h:eF I M w){x:aE}(ad:x∈M):x.num<w.heap.size:=(l4.1 (h.m x ad)).1
def eF.D1(h:eF I M w){b:Nat}{o:Obj}(ag:I b=some o):b<w.heap.size:=(l4.1 (h.i b o ag)).1
def eF.sE(h:eF I M w):I w.heap.size=none:=by
 cases ag:I w.heap.size with
 |none=>rfl| some o=>exact absurd (h.D1 ag) (Nat.lt_irrefl _)
def eF.rr(h:eF I M w):∀ x∈M,x.num≠w.heap.size:=λx ad e=>by have:=h.lt ad;omega
def eF.cons(h:eF I M w)(o:Obj):eF I (⟨w.heap.size,o⟩::M) (w.alloc o) where
 i:=(h.alloc o).i
 m x ad:=by
  rcases eg.1 ad with rfl | ad;·exact O4 w o
  ·exact(h.alloc o).m x ad
 d x ad:=by
  rcases eg.1 ad with rfl | ad;·exact h.sE
  ·exact h.d x ad
 ca:=by simp only[bX,l5];refine⟨λhm=>?_,h.ca⟩;obtain⟨x,ad,e⟩:=cA.1 hm;exact h.rr x ad e
def xM.alloc{b:Nat}{cs:List Value}(h:xM X w I M b cs)(o:Obj):xM X (w.alloc o) I M b cs where
 dX:=by obtain⟨T,bp⟩:=h.dX;exact⟨T,by rw[GF w o (l4.1 bp).1];exact bp⟩
 cS:=h.cS
 ka:=h.ka
 e5:=h.e5
def xM.lt{b:Nat}{cs:List Value}(h:xM X w I M b cs):b<w.heap.size:=by obtain⟨T,bp⟩:=h.dX;exact(l4.1 bp).1
def xM.O7{b:Nat}{cs:List Value}(h:xM X w I M b cs)(o:Obj):xM X (w.alloc o) I (⟨w.heap.size,o⟩::M) b cs where
 dX:=(h.alloc o).dX
 cS:=h.cS
 ka:=h.ka
 e5 x ad:=by
  rcases eg.1 ad with rfl | ad
  ·exact λe=>by have:=h.lt;simp only at e;omega
  ·exact h.e5 x ad
def we.alloc{r:Nat}(h:we X w I M r)(o:Obj):we X (w.alloc o) I M r:=
 { h with dX:=by rw[GF w o (l4.1 h.dX).1];exact h.dX }
def we.O7{r:Nat}(h:we X w I M r)(o:Obj):we X (w.alloc o) I (⟨w.heap.size,o⟩::M) r:=by
 refine { h.alloc o with e5:=λx ad=>?_ };rcases eg.1 ad with rfl | ad
 ·have aa:=(l4.1 h.dX).1;simp only;omega
 ·exact h.e5 x ad
def O8(h:∀ b,b<X.B->b ∉ X.foot->w.heap[b]?=X.az.heap[b]?)(da:X.B<=w.heap.size)(o:Obj):∀ b,b<X.B->b ∉ X.foot->(w.alloc o).heap[b]?=X.az.heap[b]?:=λb ag aA=>by rw[GF w o (by omega)];exact h b ag aA
def cN.oe(h:cN X β a w F C I M)(o:Obj):cN X β a (w.alloc o) F C I (⟨w.heap.size,o⟩::M) where
 size:=h.size
 defers:=h.defers.mono λr af=>af.O7 o
 holds:=h.holds.cons o
 ao:=h.ao
 cm s cs au:=(h.cm s cs au).O7 o
 inj:=h.inj
 im:=h.im
 hR:=h.hR
 own x ad:=by
  rcases eg.1 ad with rfl | ad;·exact .inr h.sz
  ·exact h.own x ad
 dI:=O8 h.dI h.sz o
 out:=h.out
 sz:=by have:=h.sz;simp;omega
 fy:=h.fy
def cN.O9(h:cN X β a w F C I M)(d:Nat):cN X β a w (qv F d) (jF C d none) I M where
 size:=h.size
 defers:=h.defers
 holds:=h.holds
 ao t:=by
  have aa:=h.ao t;unfold qv;cases bG:F t with
  |ref s off=>
   rw[bG]at aa;simp only;cases Nat.beq s d;·exact aa
   ·trivial
  |_=>rw[bG]at aa;exact aa
 cm s cs au:=by
  unfold jF at au;cases ag:Nat.beq s d with
  |true=>simp[ag]at au| false=>simp[ag]at au;exact h.cm s cs au
 inj s cf aa ab:=h.inj s cf (λe=>aa (by simp[jF,e])) (λe=>ab (by simp[jF,e]))
 im:=h.im
 hR:=h.hR
 own:=h.own
 dI:=h.dI
 out:=h.out
 sz:=h.sz
 fy:=h.fy
def cN.VK(h:cN X β a w F C I M)(d:Nat)(ak:d<X.n)(cs:List Value)(T:Nat) :
  ∃ oR,cN X oR (a.put (some d) (.pointer (some ⟨w.heap.size,0,none⟩))) (w.alloc (.cells cs.toArray T (0,0))) (ga (qv F d) d (.ref d 0)) (jF C d (some cs)) I M:=by
 have az:=h.O9 d;let oR:Nat->Nat:=λs=>if s=d then w.heap.size else β s
 refine⟨oR,?_⟩;have xP:∀ t,e3 oR (qv F d t) (a.tmps.getD t undef):=λt=>by
  have aa:=az.ao t;cases bG:qv F d t with
  |ref s off=>
   rw[bG]at aa;have au:s≠d:=by
    intro e;subst e;unfold qv at bG;split at bG
    ·rename_i cf Kx oS;cases ag:Nat.beq cf s with
     |true=>simp[ag]at bG| false=>simp[ag]at bG;obtain⟨rfl,_⟩:=bG;simp at ag
    ·rename_i bs;exact bs _ _ bG
   simp only[e3,oR,bS au];exact aa
  |_=>rw[bG]at aa;exact aa
 exact {
  size:=by simp[Act.put,h.size]
  defers:=h.defers.mono λr af=>af.alloc _
  holds:=h.holds.alloc _
  ao:=O6 xP (by rw[h.size];exact ak) (by simp[e3,oR])
  cm:=λs cs' au=>by
   by_cases e:s=d;·subst e;simp[jF]at au;subst au;simp only[oR,bN rfl];exact { dX:=⟨T,O4 w _⟩,cS:=h.sz,ka:=h.holds.sE,e5:=h.holds.rr }
   ·have ag:Nat.beq s d=false:=hE e;simp[jF,ag]at au;simp only[oR,bS e];exact(h.cm s cs' au).alloc _
  inj:=λs cf aa ab he=>by
   by_cases e:s=d<;>by_cases cQ:cf=d
   ·rw[e,cQ]
   ·exfalso;have ag:Nat.beq cf d=false:=hE cQ;simp[jF,ag]at ab;obtain⟨c,an⟩:=Kp.1 ab;have:=(h.cm cf c an).lt;simp only[oR,bN e,bS cQ]at he;omega
   ·exfalso;have ag:Nat.beq s d=false:=hE e;simp[jF,ag]at aa;obtain⟨c,an⟩:=Kp.1 aa;have:=(h.cm s c an).lt;simp only[oR,bS e,bN cQ]at he;omega
   ·have ag:Nat.beq s d=false:=hE e;have jG:Nat.beq cf d=false:=hE cQ;simp[jF,ag]at aa;simp[jF,jG]at ab;simp only[oR,bS e,bS cQ]at he;exact h.inj s cf aa ab he
  im:=h.im
  hR:=h.hR
  own:=h.own
  dI:=O8 h.dI h.sz _
  out:=h.out
  sz:=by have:=h.sz;simp;omega
  fy:=h.fy }
def eU(a:Addr)(h:a.spot=none)(j:Nat):a.add j=⟨a.block,a.off+j,none⟩:=by
 obtain⟨b,o,s⟩:=a;simp only at h;subst h;unfold Addr.add;split<;>simp_all
def tw{b:Nat}(av:w.heap[b]?=some (.cells cs T ao))(j:Nat):w.cell? ⟨b,j,none⟩=cs[j]?:=by simp[World.cell?,av]
variable{P:Program}{t:Nat}{i:dH}
def kA.run_sizeOf(h:kA P t i)(w:World):(sizeOf t).run P w=.ok i.size w:=by obtain⟨inf,z,aa,ab,_⟩:=h.inf;simp[sizeOf,typeInfo,aa,ab]
def kA.GG(h:kA P t i)(w:World):∃ z,(zeroValue t).run P w=.ok z w/\z.cells.toList=i.zero:=by obtain⟨inf,z,aa,ab,aj,aG,bx⟩:=h.inf;exact⟨z,by simp[zeroValue,typeInfo,aa,aG],bx⟩
def kA.agT(h:kA P t i)(w:World):∃ d,(underlying t).run P w=.ok d w/\fw d=i.bM:=by obtain⟨d,aa,ab⟩:=h.fx;exact⟨d,run_underlying aa w,ab⟩
def kA.VL(h:kA P t i)(w:World):(isAgg t).run P w=.ok i.bM.agg w:=by
 obtain⟨d,aa,ab⟩:=h.agT w;rw[<-ab];unfold isAgg;simp only[ct,aa,bY];cases d<;>rfl
def agU(ay:vs.length=1):vs=[vs.headD undef]:=by
 match vs,ay with
 |[v],_=>rfl
def Ky(h:kA P t i){a:Addr}(au:a.spot=none)(av:w.heap[a.block]?=some (.cells cs T ao))
  (ah:(cs.toList.drop a.off).take i.size=vs) (ay:vs.length=i.size):(loadVar t a).run P w=.ok (pack i.bM.agg vs) w:=by
 have an:∀ j v,vs[j]?=some v->w.cell? (a.add j)=some v:=by
  intro j v ai;rw[eU a au,tw av];rw[<-ah,lu]at ai;split at ai;·rw[od]at ai;simpa using ai
  ·cases ai
 unfold loadVar;simp only[ct,h.VL,bY];cases GH:i.bM.agg with
 |true=>simp only[pO,ct,h.run_sizeOf,bY,<-ay];rw[run_loadCells_list w a vs an];simp[pack]| false=>have aa:=h.Kt GH;rw[aa]at ay;have iU:=agU ay;have:=an 0 (vs.headD undef) (by rw[iU];simp);have a6:a.add 0=a:=rfl;rw[a6]at this;simp[this,pack]
def zj(h:gA vs=true):∀ v∈vs,v.oneCell'=true:=by simpa[gA]using h
def Kz(h:kA P t i){a:Addr}(au:a.spot=none)(av:w.heap[a.block]?=some (.cells cs T (0,0)))(da:v.cells.size=i.size)(ag:a.off+v.cells.toList.length<=cs.size)(aa:gA v.cells.toList=true) :
  (storeVar t a v).run P w=.ok () (w.setRow a.block (ck cs.toList a.off v.cells.toList).toArray):=by
 obtain⟨b,o,s⟩:=a;simp only at au av ag;subst au;unfold storeVar;simp only[ct,h.run_sizeOf,bY,da,ne_eq,not_true,l6,Sem.run_ite];have:=run_storeCells_at (P:=P) b o T v.cells.toList 0 cs w av (by simpa using ag) (zj aa);simp only[qt]at this;simp only[ck];simpa using this
def cN.VM(h:cN X β a w F C I M){s:Nat}{cs:List Value}(au:C s=some cs)(cs':List Value):cN X β a (w.setRow (β s) cs'.toArray) F (jF C s (some cs')) I M:=by
 have ag:=h.cm s cs au;obtain⟨T,bp⟩:=ag.dX;exact {
  size:=h.size
  defers:=h.defers.mono λr af=>by refine { af with dX:=?_ };rw[setRow_other _ _ _ _ (λe=>by have aa:=af.dX;rw[e,bp]at aa;cases aa)];exact af.dX
  holds:={
   i:=λb o kc=>by rw[setRow_other _ _ _ _ (λe=>by rw[e,ag.ka]at kc;cases kc)];exact h.holds.i b o kc
   m:=λx ad=>by rw[setRow_other _ _ _ _ (ag.e5 x ad)];exact h.holds.m x ad
   d:=h.holds.d
   ca:=h.holds.ca }
  ao:=h.ao
  cm:=λcf c' oT=>by
   by_cases e:cf=s;·subst e;simp[jF,rq]at oT;subst oT;exact { dX:=⟨T,setRow_heap _ _ _ _ _ _ bp⟩,cS:=ag.cS,ka:=ag.ka,e5:=ag.e5 }
   ·simp[jF,hE e]at oT;have jG:=h.cm cf c' oT;obtain⟨kB,GI⟩:=jG.dX;refine { dX:=⟨kB,?_⟩,cS:=jG.cS,ka:=jG.ka,e5:=jG.e5 };rw[setRow_other _ _ _ _ (λcQ=>e (h.inj cf s (by simp[oT]) (by simp[au]) cQ))];exact GI
  inj:=λs1 s2 aa ab=>h.inj s1 s2 (λe=>by
    unfold jF at aa;cases aN:Nat.beq s1 s with
    |true=>have:=dR aN;subst this;rw[au]at e;cases e| false=>rw[aN]at aa;exact aa e) (λe=>by
    unfold jF at ab;cases aN:Nat.beq s2 s with
    |true=>have:=dR aN;subst this;rw[au]at e;cases e| false=>rw[aN]at ab;exact ab e)
  im:=h.im
  hR:=h.hR
  own:=h.own
  dI:=λb jG aA=>by rw[setRow_other _ _ _ _ (λe=>by have:=ag.cS;omega)];exact h.dI b jG aA
  out:=h.out.trans (VJ _ _ _)
  sz:=by have:=h.sz;simpa using this
  fy:=h.fy }
def cN.xQ(h:cN X β a w F C I M){a9 post:List aE}{g:Nat}{cs':Array Value}(a':M=a9++⟨g,.cells cs T (0,0)⟩::post) :
  cN X β a (w.setRow g cs') F C I (a9++⟨g,.cells cs' T (0,0)⟩::post):=by
 subst a';have fK:(⟨g,.cells cs T (0,0)⟩:aE)∈a9++⟨g,.cells cs T (0,0)⟩::post:=by simp
 have av:w.heap[g]?=some (.cells cs T (0,0)):=h.holds.m _ fK;have bH:=h.holds.ca;simp only[cP,bX]at bH;have bs:∀ x,x∈a9\/x∈post->x.num≠g:=by
  intro x ad e;rw[uJ]at bH;obtain⟨_,ab,aj⟩:=bH;rcases ad with ad | ad;·exact aj x.num (cA.2 ⟨x,ad,rfl⟩) g (by simp) e
  ·rw[l5]at ab;exact ab.1 (cA.2 ⟨x,ad,e⟩)
 have mem:∀ x,x∈a9++(⟨g,.cells cs' T (0,0)⟩:aE)::post->x=⟨g,.cells cs' T (0,0)⟩\/(x∈a9\/x∈post):=by
  intro x ad;simp only[cF,eg]at ad;rcases ad with ad | ad | ad;·exact .inr (.inl ad)
  ·exact .inl ad
  ·exact .inr (.inr ad)
 have back:∀ x,x∈a9\/x∈post->x∈a9++(⟨g,.cells cs T (0,0)⟩:aE)::post:=by
  intro x ad;simp only[cF,eg];rcases ad with ad | ad;·exact .inl ad
  ·exact .inr (.inr ad)
 exact {
  size:=h.size
  defers:=h.defers.mono λr af=>by
   have BC:g≠r:=af.e5 _ fK;refine { af with dX:=?_,e5:=λx ad=>?_ };·rw[setRow_other _ _ _ _ (pN BC)];exact af.dX
   ·rcases mem x ad with rfl | ad
    ·exact BC
    ·exact af.e5 x (back x ad)
  holds:={
   i:=λb o kc=>by rw[setRow_other _ _ _ _ (λe=>by have:=h.holds.d _ fK;simp only at this;rw[e,this]at kc;cases kc)];exact h.holds.i b o kc
   m:=λx ad=>by
    rcases mem x ad with rfl | ad;·exact setRow_heap _ _ _ _ _ _ av
    ·rw[setRow_other _ _ _ _ (bs x ad)];exact h.holds.m x (back x ad)
   d:=λx ad=>by
    rcases mem x ad with rfl | ad;·exact h.holds.d ⟨g,.cells cs T (0,0)⟩ fK
    ·exact h.holds.d x (back x ad)
   ca:=by simpa[cP]using bH }
  ao:=h.ao
  cm:=λs c au=>by
   have ag:=h.cm s c au;obtain⟨kB,GI⟩:=ag.dX;have xR:g≠β s:=ag.e5 _ fK;refine { dX:=⟨kB,?_⟩,cS:=ag.cS,ka:=ag.ka,e5:=λx ad=>?_ };·rw[setRow_other _ _ _ _ (pN xR)];exact GI
   ·rcases mem x ad with rfl | ad
    ·exact xR
    ·exact ag.e5 x (back x ad)
  inj:=h.inj
  im:=h.im
  hR:=h.hR
  own:=λx ad=>by
   rcases mem x ad with rfl | ad;·exact h.own ⟨g,.cells cs T (0,0)⟩ fK
   ·exact h.own x (back x ad)
  dI:=λb ag aA=>by
   rw[setRow_other _ _ _ _ (λe=>by
    rcases h.own _ fK with aa | aa;·simp only at aa;exact aA (e ▸ aa)
    ·simp only at aa;omega)]
   exact h.dI b ag aA
  out:=h.out.trans (VJ _ _ _)
  sz:=by have:=h.sz;simpa using this
  fy:=h.fy }
def ik.heap(h:eF I M w){b:Nat}{o:Obj}(ae:ik I M b o):w.heap[b]?=some o:=by
 rcases ae with ae | ⟨x,ad,rfl,rfl⟩
 ·exact h.i b o ae
 ·exact h.m x ad
def agV{aS:List Value}{x:Value}{xs:List Value}(h:off+1+xs.length<=aS.length):ck (aS.set off x) (off+1) xs=ck aS off (x::xs):=by
 unfold ck;rw[List.take_set,List.drop_set,bN (by omega),gy (by omega:off<aS.length)];have e:(List.take off aS++[aS[off]'(by omega)]).set off x=List.take off aS++[x]:=by rw[List.set_append,bS (by simp;omega)];simp[uL (by omega:off<=aS.length)]
 rw[e];simp[tr,DV 1]
def VN(off:Nat):∀ (xs:List Value) (k:Nat) (aS:List Value),off+k+xs.length<=aS.length -> (xs.zipIdx k).foldl (λ(cs:Array Value) (p:Value×Nat)=>cs.setIfInBounds (off+p.2) p.1) aS.toArray=(ck aS (off+k) xs).toArray
 |[],k,aS,_=>by simp[ck]
 |x::xs,k,aS,ay=>by simp only[c2]at ay;simp only[List.zipIdx_cons,jE];rw[List.setIfInBounds_toArray,VN off xs (k+1) _ (by simp;omega)];rw[show off+(k+1)=off+k+1 from by omega,agV (by omega)]
def fill_eq(place:Nat->Option (Nat×Nat)):∀ (vs:List (Nat×Value)) (cells r:List Value),ts place cells vs=some r->Instr.fill place cells.toArray vs=some r.toArray
 |[],cells,r,h=>by simp[ts]at h;simp[Instr.fill,h]
 |(i,v)::bk,cells,r,h=>by
  unfold ts at h;unfold Instr.fill;split at h;·cases h
  ·rename_i off size aB;simp only[aB];cases an:(Nat.beq v.cells.size size&&Nat.ble (off+size) cells.length)with
   |false=>rw[an]at h;cases h
   |true=>
    rw[an]at h;simp only[cb]at h;rw[cz]at an;have aa:=dR an.1;have ab:=bI an.2;have aJ:decide (v.cells.size≠size)=false:=by simp[aa]
    have a4:decide (off+v.cells.size > cells.toArray.size)=false:=by simp;omega
    rw[aJ,a4];simp only[Bool.or_false,lv,l6];have aF:=fill_eq place bk _ r h;rw[<-aF];congr 1;have:=VN off v.cells.toList 0 cells (by simp;omega);simp only[qt]at this;rw[<-this,<-O0];simp
end
def il.le{I I':aM}{M M':List aE}(h:il foot I M I' M')(ly:eF I M w):(∀ b o,I b=some o->I' b=some o)/\eF I' M' w /\
  (∀ b o,I' b=some o->I b=some o\/∃ x∈M,x.num=b/\x.obj=o/\b ∉ foot)/\(∀ x∈M',x∈M):=by
 induction h with
 |refl=>exact⟨λ_ _ h=>h,ly,λ_ _ h=>.inl h,λ_ h=>h⟩
 | @sub I M M1 I' M' au k aF=>
  have aa:eF I M1 w:=⟨ly.i,λx ad=>ly.m x (au.subset ad),λx ad=>ly.d x (au.subset ad),(au.map _).nodup ly.ca⟩;obtain⟨cM,d',eh,g9⟩:=aF aa;refine⟨cM,d',λb o ag=>?_,λx ad=>au.subset (g9 x ad)⟩;rcases eh b o ag with h | ⟨x,ad,h⟩;·exact .inl h
  ·exact .inr ⟨x,au.subset ad,h⟩
 | @perm I M M1 I' M' aB k aF=>
  have aa:eF I M1 w:=⟨ly.i,λx ad=>ly.m x (aB.mem_iff.2 ad),λx ad=>ly.d x (aB.mem_iff.2 ad),(aB.map _).nodup_iff.1 ly.ca⟩;obtain⟨cM,d',eh,g9⟩:=aF aa;refine⟨cM,d',λb o ag=>?_,λx ad=>aB.mem_iff.2 (g9 x ad)⟩;rcases eh b o ag with h | ⟨x,ad,h⟩;·exact .inl h
  ·exact .inr ⟨x,aB.mem_iff.2 ad,h⟩
 | @k3 I M I' M' b o post a' aA k aF=>
  subst a';have bH:=ly.ca;simp only[bX,l5]at bH;have ag:=ly.d ⟨b,o⟩ (by simp);simp only at ag;have aa:eF (ins I b o) post w:={
   i:=λiV o' h=>by
    unfold ins at h;by_cases e:iV=b;·subst e;simp only[rq,cb,j9]at h;subst h;exact ly.m ⟨iV,o⟩ (by simp)
    ·simp only[hE e,b5]at h;exact ly.i _ _ h
   m:=λx ad=>ly.m x (by simp[ad])
   d:=λx ad=>by unfold ins;have e:x.num≠b:=λe=>bH.1 (cA.2 ⟨x,ad,e⟩);simp only[hE e,b5];exact ly.d x (by simp[ad])
   ca:=bH.2 }
  obtain⟨cM,d',eh,g9⟩:=aF aa;refine⟨λiV o' h=>cM iV o' ?_,d',λiV o' h=>?_,λx ad=>by simp[g9 x ad]⟩
  ·unfold ins;by_cases e:iV=b
   ·subst e;rw[ag]at h;cases h
   ·simp only[hE e,b5];exact h
  ·rcases eh iV o' h with h | ⟨x,ad,h⟩
   ·unfold ins at h;by_cases e:iV=b
    ·subst e;simp only[rq,cb,j9]at h;exact .inr ⟨⟨iV,o⟩,by simp,rfl,h,aA⟩
    ·simp only[hE e,b5]at h;exact .inl h
   ·exact .inr ⟨x,by simp[ad],h⟩
def cN.h5{X:cV}{β:Nat->Nat}{F:Fr}{C:dF}{I I':aM}{M M':List aE}(h:cN X β a w F C I M)(hw:il X.foot I M I' M'):cN X β a w F C I' M':=by
 obtain⟨cM,d',eh,g9⟩:=hw.le h.holds;exact { h with
  holds:=d'
  defers:=h.defers.mono λr af=>by
   refine { af with ka:=?_,e5:=λx ad=>af.e5 x (g9 x ad) };cases bz:I' r with
   |none=>rfl
   |some o=>
    exfalso;rcases eh _ _ bz with aa | ⟨x,ad,aa,_⟩;·rw[af.ka]at aa;cases aa
    ·exact af.e5 x ad aa
  cm:=λs cs au=>{ h.cm s cs au with
   ka:=by
    cases bz:I' (β s)with
    |none=>rfl
    |some o=>
     exfalso;rcases eh _ _ bz with aa | ⟨x,ad,aa,_⟩;·rw[(h.cm s cs au).ka]at aa;cases aa
     ·exact(h.cm s cs au).e5 x ad aa
   e5:=λx ad=>(h.cm s cs au).e5 x (g9 x ad) }
  im:=λb o ag=>cM b o (h.im b o ag)
  hR:=λb o ag=>by
   rcases eh b o ag with aa | ⟨x,ad,rfl,_,aA⟩;·exact h.hR b o aa
   ·exact .inr ((h.own x ad).resolve_left aA)
  own:=λx ad=>h.own x (g9 x ad) }
section
variable{X:cV}{β:Nat->Nat}{a:Act}{w:World}{F:Fr}{C:dF}{I:aM}{M:List aE}{o:Oper}{Q:Exit->Act->World->Prop}{K:gm}
def VO(h:cN X β a w F C I M)(ak:∀ d,o.dst=some d->d<X.n)(bH:∀ c,o.op≠.defer c){x:dD}(af:(execOp a.eval o).run X.P w=.ok (.value v) w)(ad:e3 β x v)(ae:K (put o.dst x F) C I M):o.wpIn (g' X) 0 X.P a w (Sat X K) Q:=
 jg bH af ⟨_,_,_,_,⟨β,h.put ak ad⟩,ae⟩
def wi(h:cN X β a w F C I M)(ak:∀ d,o.dst=some d->d<X.n)(bH:∀ c,o.op≠.defer c)(af:(execOp a.eval o).run X.P w=.ok (.value v) w)(ae:K (put o.dst (.val v) F) C I M):o.wpIn (g' X) 0 X.P a w (Sat X K) Q:=
 VO (x:=.val v) h ak bH af rfl ae
def oU(k:IntKind)(n:Int)(w:World)(P:Program):(asIntOf (.int k n)).run P w=.ok (k,n) w:=rfl
def IntKind.D2{k e9:IntKind}(h:IntKind.m3 k e9=true):k=e9:=by cases k<;>cases e9<;>first | rfl | cases h
def oV(op:BinOp)(t:Nat)(x y:Operand)(k e9:IntKind)(n m:Int)(P:Program)(w:World):(eqGuard op t x y (.int k n) (.int e9 m)).run P w=.ok () w:=by
 unfold eqGuard;cases op<;>rfl
def O'(op:BinOp)(t:Nat)(x y:Operand)(n m:ByteArray)(P:Program)(w:World):(eqGuard op t x y (.string n) (.string m)).run P w=.ok () w:=by
 unfold eqGuard;cases op<;>rfl
def VP(op:BinOp)(t:Nat)(x y:Operand)(n m:Bool)(P:Program)(w:World):(eqGuard op t x y (.bool n) (.bool m)).run P w=.ok () w:=by
 unfold eqGuard;cases op<;>rfl
def VQ(a b:ByteArray):(a.toList == b.toList)=decide (a=b):=by
 rw[sC];simp only[beq_iff_eq,hq];constructor
 ·intro h;have aa:a.data.toList=b.data.toList:=by rw[ByteArray.toList_eq,ByteArray.toList_eq]at h;exact h
  cases a;cases b;simp only[ByteArray.mk.injEq];exact gY aa
 ·intro h;rw[h]
def run_equal_bool{t:Nat}(hu:P.underlying t=some .bool)(a b:Bool)(w:World):(Op.equal t (.bool a) (.bool b)).run P w=.ok (a == b) w:=by
 have key:∀ d,(Op.equalIn (d+1) t (.bool a) (.bool b)).run P w=.ok (a == b) w:=λd=>by simp only[Op.equalIn,ct,run_underlying hu,bY,c3]
 exact key 9999
def agW(aQ:cU X.P X.E)(op:BinOp)(t:Nat)(x y:Operand)(u v:dD)(mv xS:Value)(ad:u=.val mv)(aH:v=.val xS)(VR:Value->Prop)(other:Prop)
  (h:l7 op (X.E t) u v VR other):other\/∃ r,(∀ w,(do eqGuard op t x y mv xS;binOp op t mv xS:Sem Value).run X.P w=.ok r w)/\VR r:=by
 subst ad;subst aH;unfold l7 at h;split at h
 ·rename_i k a e9 b aJ a4;cases aJ;cases a4
  right
  split at h;·obtain⟨j,rfl,⟨r,af,ae⟩⟩:=h;refine⟨_,λw=>?_,ae⟩;simp only[ct,oV,bY,binOp,Op.shift];rw[bS (by omega)];simp[af]
  ·obtain⟨j,rfl,ae⟩:=h;refine⟨_,λw=>?_,ae⟩;simp only[ct,oV,bY,binOp,Op.shift];rw[bS (by omega)];simp
  ·rename_i fz iA;cases eX:IntKind.m3 k e9 with
   |false=>rw[eX]at h;exact h.elim
   |true=>
    rw[eX]at h;have k4:=IntKind.D2 eX;subst k4;simp only[cb]at h;cases op<;>simp only at h
    case add=>obtain⟨r,af,ae⟩:=h;exact⟨_,λw=>by simp[oV,binOp,Op.intArith,af],ae⟩
    case sub=>obtain⟨r,af,ae⟩:=h;exact⟨_,λw=>by simp[oV,binOp,Op.intArith,af],ae⟩
    case mul=>obtain⟨r,af,ae⟩:=h;exact⟨_,λw=>by simp[oV,binOp,Op.intArith,af],ae⟩
    case quo=>obtain⟨az,r,af,ae⟩:=h;exact⟨_,λw=>by simp[oV,binOp,Op.intDiv,az,af],ae⟩
    case rem=>obtain⟨az,ae⟩:=h;exact⟨_,λw=>by simp[oV,binOp,Op.intDiv,az],ae⟩
    case and=>exact⟨_,λw=>by simp[oV,binOp,Op.intBits,uO],h⟩
    case or=>exact⟨_,λw=>by simp[oV,binOp,Op.intBits,uO],h⟩
    case xor=>exact⟨_,λw=>by simp[oV,binOp,Op.intBits,uO],h⟩
    case andNot=>exact⟨_,λw=>by simp[oV,binOp,Op.intBits,uO],h⟩
    case shl=>exact(fz rfl).elim
    case shr=>exact(iA rfl).elim
    case eql=>exact⟨_,λw=>by simp only[ct,oV,bY,binOp,Op.intCmp,xK];simp;rfl,h⟩
    case neq=>exact⟨_,λw=>by simp only[ct,oV,bY,binOp,Op.intCmp,xK];simp;rfl,h⟩
    case lss=>exact⟨_,λw=>by simp[oV,binOp,Op.intCmp,xK],h⟩
    case leq=>exact⟨_,λw=>by simp[oV,binOp,Op.intCmp,xK],h⟩
    case gtr=>exact⟨_,λw=>by simp[oV,binOp,Op.intCmp,xK],h⟩
    case geq=>exact⟨_,λw=>by simp[oV,binOp,Op.intCmp,xK],h⟩
 ·rename_i a b aJ a4;cases aJ;cases a4;split at h
  ·exact .inr ⟨_,λw=>by simp only[ct,O',bY,binOp,Op.stringOp,c3,VQ],h⟩
  ·exact .inr ⟨_,λw=>by simp only[ct,O',bY,binOp,Op.stringOp,c3,VQ],h⟩
  ·exact .inl h
 ·rename_i a b aJ a4;cases aJ;cases a4;split at h
  ·rename_i c7 sz hQ z ax;obtain⟨d,hu,ak⟩:=(aQ _ _ ax).fx;have fD:d=.bool:=by cases d<;>simp_all[fw]
   subst fD;split at h;·exact .inr ⟨_,λw=>by simp only[ct,VP,bY,binOp,run_equal_bool hu,c3],h⟩
   ·exact .inr ⟨_,λw=>by simp only[ct,VP,bY,binOp,run_equal_bool hu,c3],h⟩
   ·exact .inl h
  ·exact .inl h
 ·exact .inl h
def Pa{args:Array Value}(h:Calls P f args w R)(n:Nat):CallsIn (g' X) n P f args w R:=by have aa:=(callsIn_wide (n:=n)).2 h;exact⟨trivial,λcs af=>aa.2 cs (room_wide _)⟩
def eF.part(h:eF I M w){ey Mr:List aE}(a':M.Perm (ey++Mr)):eF I ey w:=by
 have fo:∀ x,x∈M ↔ x∈ey\/x∈Mr:=λx=>by rw[a'.mem_iff,cF]
 have bH:((ey++Mr).map (·.num)).Nodup:=(a'.map (·.num)).nodup_iff.1 h.ca;rw[cP,uJ]at bH;exact⟨h.i,λx ad=>h.m x ((fo x).2 (.inl ad)),λx ad=>h.d x ((fo x).2 (.inl ad)),bH.1⟩
def cN.after(h:cN X β a w F C I M){ey Mr M':List aE}{I':aM}(a':M.Perm (ey++Mr))(rs:eF I' M' w')(eG:Kept I ey w I' M' w'):cN X β a w' F C I' (M'++Mr):=by
 have fo:∀ x,x∈M ↔ x∈ey\/x∈Mr:=λx=>by rw[a'.mem_iff,cF]
 have bH:((ey++Mr).map (·.num)).Nodup:=(a'.map (·.num)).nodup_iff.1 h.holds.ca;rw[cP,uJ]at bH;have VS:∀ x∈Mr,∀ y∈ey,y.num≠x.num:=λx ad y aH=>bH.2.2 y.num (cA.2 ⟨y,aH,rfl⟩) x.num (cA.2 ⟨x,ad,rfl⟩);have agX:∀ x∈Mr,w'.heap[x.num]?=w.heap[x.num]?:=λx ad=>
  eG.dI x.num (h.holds.lt ((fo x).2 (.inr ad))) (VS x ad)
 exact {
  size:=h.size
  defers:=h.defers.mono λr af=>by
   have a1:=(l4.1 af.dX).1;refine { dX:=?_,cS:=af.cS,ka:=?_,e5:=λx ad=>?_ };·rw[eG.dI _ a1 (λy aH=>af.e5 y ((fo y).2 (.inl aH)))];exact af.dX
   ·cases bz:I' r with
    |none=>rfl
    |some o=>
     exfalso;rcases eG.uP _ _ bz with aa | aa;·rw[af.ka]at aa;cases aa
     ·omega
   ·rcases cF.1 ad with ad | ad
    ·rcases eG.wb x ad with⟨z,bb,BD⟩ | aa
     ·rw[<-BD];exact af.e5 z ((fo z).2 (.inl bb))
     ·omega
    ·exact af.e5 x ((fo x).2 (.inr ad))
  holds:={
   i:=rs.i
   m:=λx ad=>by
    rcases cF.1 ad with ad | ad;·exact rs.m x ad
    ·rw[agX x ad];exact h.holds.m x ((fo x).2 (.inr ad))
   d:=λx ad=>by
    rcases cF.1 ad with ad | ad;·exact rs.d x ad
    ·cases bz:I' x.num with
     |none=>rfl
     |some o=>
      exfalso;rcases eG.uP _ _ bz with aa | aa;·have:=h.holds.d x ((fo x).2 (.inr ad));rw[this]at aa;cases aa
      ·have:=h.holds.lt ((fo x).2 (.inr ad));omega
   ca:=by
    rw[cP,uJ];refine⟨rs.ca,bH.2.1,λp aB q aN e=>?_⟩;obtain⟨x,ad,rfl⟩:=cA.1 aB;obtain⟨y,aH,rfl⟩:=cA.1 aN;rcases eG.wb x ad with⟨z,bb,BD⟩ | aa;·exact VS y aH z bb (BD.trans e)
    ·have:=h.holds.lt ((fo y).2 (.inr aH));omega }
  ao:=h.ao
  cm:=λs cs au=>by
   have ag:=h.cm s cs au;obtain⟨T,bp⟩:=ag.dX;refine { dX:=⟨T,?_⟩,cS:=ag.cS,ka:=?_,e5:=λx ad=>?_ };·rw[eG.dI _ ag.lt (λy aH=>ag.e5 y ((fo y).2 (.inl aH)))];exact bp
   ·cases bz:I' (β s)with
    |none=>rfl
    |some o=>
     exfalso;rcases eG.uP _ _ bz with aa | aa;·rw[ag.ka]at aa;cases aa
     ·have:=ag.lt;omega
   ·rcases cF.1 ad with ad | ad
    ·rcases eG.wb x ad with⟨z,bb,BD⟩ | aa
     ·rw[<-BD];exact ag.e5 z ((fo z).2 (.inl bb))
     ·have:=ag.lt;omega
    ·exact ag.e5 x ((fo x).2 (.inr ad))
  inj:=h.inj
  im:=λb o ag=>eG.le b o (h.im b o ag)
  hR:=λb o ag=>by
   rcases eG.uP b o ag with aa | aa;·exact h.hR b o aa
   ·exact .inr (jf h.sz aa)
  own:=λx ad=>by
   rcases cF.1 ad with ad | ad
   ·rcases eG.wb x ad with⟨z,bb,BD⟩ | aa
    ·rw[<-BD];exact h.own z ((fo z).2 (.inl bb))
    ·exact .inr (jf h.sz aa)
   ·exact h.own x ((fo x).2 (.inr ad))
  dI:=λb ag aA=>by
   rw[eG.dI b (Kr ag h.sz) (λy aH e=>by
    rcases h.own y ((fo y).2 (.inl aH))with aa | aa;·exact aA (e ▸ aa)
    ·omega)]
   exact h.dI b ag aA
  out:=h.out.trans eG.out
  sz:=jf h.sz eG.sz
  fy:=h.fy }
def cN.call(h:cN X β a w F C I M){KC:Value->aM->List aE->Prop}(an:bd X.foot P f args I M KC) :
  (O3 P f/\Calls P f args.toArray w λe w'=>∃ v I' M',e=.returned v/\KC v I' M'/\cN X β a w' F C I' M')\/(∃ v w' I' M',(callFunc f args.toArray).run P w=.ok (.value v) w'/\KC v I' M'/\cN X β a w' F C I' M'):=by
 obtain⟨I1,ey,Mr,post,h6,⟨qw,au⟩ | au,ae⟩:=an.elim ⟨h.holds.d,h.holds.ca⟩<;>have h:=h.h5 h6<;>have a':=List.Perm.refl (ey++Mr)
 ·refine .inl ⟨qw,?_⟩;refine(au w (h.holds.part a')).mono ?_;rintro e w'⟨v,I',M',rfl,aB,rs,eG⟩;have a6:=h.after a' rs eG;exact⟨v,I',M'++Mr,rfl,ae v I' M' eG.le a6.holds.d aB,a6⟩
 ·obtain⟨v,w',I',M',af,aB,rs,eG⟩:=au w (h.holds.part a');have a6:=h.after a' rs eG;exact .inr ⟨v,w',I',M'++Mr,af,ae v I' M' eG.le a6.holds.d aB,a6⟩
def VT{args:Array Value}(bH:∀ c,o.op≠.defer c)(af:(execOp a.eval o).run X.P w=.ok (.enter f args) w)
  (an:Calls X.P f args w λe w'=>∃ v,e=.returned v/\next (a.put o.dst v) w'):o.wpIn (g' X) 0 X.P a w next Q:=by
 refine⟨λ_ _=>trivial,?_⟩;rw[Ks _ _ _ bH,af];refine⟨(λh=>by cases h),?_⟩;refine(Pa an _).mono ?_;rintro e w'⟨v,rfl,h⟩;exact h
def VU(z:Value)(e':List Value)(h:z.cells.toList=e')(n:Nat):(Array.range n).map (z.cells[· % z.cells.size]!)=(rowOf e' n).toArray:=by subst h;apply gY;simp[wg,madeCells]
def kA.struct{t:Nat}{cR:List (Nat×Nat)}(h:kA P t ⟨sz,hQ,z,.struct cR⟩):∃ fields,P.underlying t=some (.struct fields)/\cR=fields.toList.map λf=>(f.type,f.offset):=by
 obtain⟨d,aa,ab⟩:=h.fx;cases d<;>simp[fw]at ab
 exact⟨_,aa,ab.symm⟩
def kA.slice{t:Nat}(h:kA P t ⟨sz,hQ,z,.slice e⟩):P.underlying t=some (.slice e):=by
 obtain⟨d,aa,ab⟩:=h.fx;cases d<;>simp[fw]at ab
 rw[aa,ab]
def kA.array{t:Nat}(h:kA P t ⟨sz,hQ,z,.array n e⟩):P.underlying t=some (.array n e):=by
 obtain⟨d,aa,ab⟩:=h.fx;cases d<;>simp[fw]at ab
 rw[aa,ab.1,ab.2]
def kA.string{t:Nat}(h:kA P t ⟨sz,hQ,z,.string⟩):P.underlying t=some .string:=by
 obtain⟨d,aa,ab⟩:=h.fx;cases d<;>simp[fw]at ab
 exact aa
def kA.int{P:Program}{t sz hQ:Nat}{z:List Value}{k:IntKind}(h:kA P t ⟨sz,hQ,z,.int k⟩):P.underlying t=some (.int k):=by
 obtain⟨d,aa,ab⟩:=h.fx;cases d<;>simp[fw]at ab
 rw[aa,ab]
def VV{fields:Array Field}{i fy:Nat}(h:(fields.toList.map λf=>(f.type,f.offset))[i]?=some (fy,off)):∃ f,fields[i]?=some f/\f.type=fy/\f.offset=off:=by
 simp only[jR,Array.getElem?_toList]at h;cases aA:fields[i]? with
 |none=>simp[aA]at h| some f=>simp[aA]at h;exact⟨f,rfl,h.1,h.2⟩
def Pb{t:Nat}{i:dH}(h:kA P t i)(bq:off+i.size<=cs.size)(w:World):(part t cs off).run P w=.ok (pack i.bM.agg ((cs.toList.drop off).take i.size)) w:=by
 unfold part;simp only[ct,h.VL,bY];cases GH:i.bM.agg with
 |true=>simp only[pO,ct,h.run_sizeOf,bY,c3,pack,cb];congr 2;apply gY;simp[List.take_drop]
 |false=>
  have aa:=h.Kt GH;rw[aa]at bq |-;have a1:off<cs.size:=by omega
  simp only[lv,l6,OY a1,c3,pack,b5];congr 1;rw[e1 (by simpa using a1)];simp
def agY{t:Nat}{aI:dH}(ax:P.underlying t=some (.slice e))(he:kA P e aI){c:Nat}{j:Nat}(ai:j<n)(w:World) :
  (Instr.indexAt t (.slice (some aU) n c) (.int gl j)).run P w=.ok (.pointer (some (aU.add (j*aI.size)))) w:=by
 unfold Instr.indexAt;simp only[ct,oU,bY,run_underlying ax,c3];rw[bN ⟨by omega,by omega⟩];simp[he.run_sizeOf]
def VW{t:Nat}{aI:dH}(ax:P.underlying t=some (.array m e))(he:kA P e aI){j:Nat}(ai:j<m)(w:World) :
  (Instr.indexAt t (.pointer (some aU)) (.int gl j)).run P w=.ok (.pointer (some (aU.add (j*aI.size)))) w:=by
 unfold Instr.indexAt;simp only[ct,oU,bY,run_underlying ax,c3,Instr.sureAddr];rw[bN ⟨by omega,by omega⟩];simp[he.run_sizeOf]
def VX{P:Program}{E:Env}(aQ:cU P E)(w:World):∀ (fields:List Field),DY E (fields.map λf=>(f.type,f.offset))=true -> ∃ l:List (Nat×Nat),(fields.mapM λf=>(do pure (f.offset,<-sizeOf f.type):Sem (Nat×Nat))).run P w=.ok l w/\∀ i,l[i]?=places E (fields.map λf=>(f.type,f.offset)) i
 |[],_=>⟨[],rfl,λi=>by simp[places]⟩
 |f::cR,h=>by
  simp only[DY,bX,xI,cz]at h;obtain⟨hr,m5⟩:=Option.isSome_iff_exists.1 h.1;obtain⟨l,aa,ab⟩:=VX aQ w cR h.2;refine⟨(f.offset,hr.size)::l,?_,λi=>?_⟩;·simp only[GA,ct,(aQ _ _ m5).run_sizeOf,bY,c3];rw[aa];rfl
  ·cases i with
   |zero=>simp[places,m5]| succ i=>simp only[Gy,ab];simp[places]
def VY(aQ:cU X.P X.E)(h:cN X β a w F C I M){zk:dD->Prop}{other:Prop}(op:Op)(ty:TypeId)(dst:Option Tmp)(pos:String)(after:Array Edge)(guard:Option (Nat×Bool))(ah:cH X op (dq F) C I M zk other) :
  other\/∃ v x,(execOp a.eval ⟨dst,op,ty,pos,after,guard⟩).run X.P w=.ok (.value v) w/\e3 β x v/\zk x:=by
 have done:∀ {v x},(execOp a.eval ⟨dst,op,ty,pos,after,guard⟩).run X.P w=.ok (.value v) w->e3 β x v->zk x->other\/∃ v x,(execOp a.eval ⟨dst,op,ty,pos,after,guard⟩).run X.P w=.ok (.value v) w/\e3 β x v/\zk x:=
  λaa ab aj=>.inr ⟨_,_,aa,ab,aj⟩
 have hS:∀ {v},(execOp a.eval ⟨dst,op,ty,pos,after,guard⟩).run X.P w=.ok (.value v) w->zk (.val v)->other\/∃ v x,(execOp a.eval ⟨dst,op,ty,pos,after,guard⟩).run X.P w=.ok (.value v) w/\e3 β x v/\zk x:=
  fun {v} aa aj=>.inr ⟨v,.val v,aa,rfl,aj⟩
 have aA:=h.ao;cases op
 case move x=>exact done (by simp[execOp]) (xO aA x) ah
 case assign x=>exact done (by simp[execOp]) (xO aA x) ah
 case pick c p q=>
  simp only[cH]at ah;split at ah
  ·rename_i b ag;have an:=O5 aA ag;cases b
   ·exact done (by simp[execOp,an,asBool]) (xO aA q) ah
   ·exact done (by simp[execOp,an,asBool]) (xO aA p) ah
  ·rename_i b ag;have an:=uR aA ag;refine done (v:=if b then a.eval p else a.eval q) (x:=Ku b (bF F p) (bF F q)) (by simp[execOp,an,asBool]) ?_ ah;have aa:=VH aA p;have ab:=VH aA q;unfold Ku;split
   ·rename_i x y aJ a4;rw[aJ]at aa;rw[a4]at ab;simp only[e3]at aa ab |-;cases b<;>simp[aa,ab]
   ·rename_i x y _ aJ a4;rw[aJ]at aa;rw[a4]at ab;simp only[e3]at aa ab |-;cases b<;>simp[aa,ab]
   ·trivial
  ·exact ah.elim
 case unOp op t x=>
  simp only[cH]at ah;split at ah;·rename_i b ag;exact done (v:=.bool (!b)) (x:=.lit (!b)) (by simp[execOp,O5 aA ag,Op.unary]) rfl ah
  ·rename_i b ag;exact hS (v:=.bool (!b)) (by simp[execOp,uR aA ag,Op.unary]) ah
  ·rename_i k n ag;obtain⟨r,af,ae⟩:=ah;exact hS (v:=.int k r) (by simp only[execOp,uR aA ag,Op.unary,Op.intArith,af];simp) ae
  ·exact Or.inl ah
 case binOp op t x y ty'=>
  simp only[cH]at ah;by_cases ad:∃ mv xS,bF F x=.val mv/\bF F y=.val xS
  ·obtain⟨mv,xS,ad,aH⟩:=ad;have fin:∀ r,(∀ w,(do eqGuard op t x y mv xS;binOp op t mv xS:Sem Value).run X.P w=.ok r w)->zk (.val r)->(other\/∃ v lz,(execOp a.eval ⟨dst,.binOp op t x y ty',ty,pos,after,guard⟩).run X.P w=.ok (.value v) w/\e3 β lz v/\zk lz):=λr af ae=>by refine hS (v:=r) ?_ ae;have:=af w;rw[<-df aA ad,<-df aA aH]at this;simp only[execOp];simp only[ct]at this |-;rw[this];rfl
   rcases agW aQ op t x y _ _ mv xS ad aH _ _ ah with(⟨m4,eA,r,aB,aN,af,ae⟩ | aa) | ⟨r,af,ae⟩;·rw[show dC (dq F) x=bF F x from rfl,ad]at aB;rw[show dC (dq F) y=bF F y from rfl,aH]at aN;cases aB;cases aN;exact fin r af ae
   ·exact Or.inl aa
   ·exact fin r af ae
  ·unfold l7 at ah;split at ah
   ·rename_i aJ a4;exact(ad ⟨_,_,aJ,a4⟩).elim
   ·rename_i aJ a4;exact(ad ⟨_,_,aJ,a4⟩).elim
   ·rename_i aJ a4;exact(ad ⟨_,_,aJ,a4⟩).elim
   ·rcases ah with⟨m4,eA,r,aB,aN,af,ae⟩ | aa
    ·exact(ad ⟨_,_,aB,aN⟩).elim
    ·exact Or.inl aa
 case load t x=>
  simp only[cH]at ah;split at ah
  ·rename_i i hi;split at ah
   ·rename_i s off ad;have kC:=BB aA ad;split at ah
    ·rename_i cs au;cases bq:Nat.ble (off+i.size) cs.length with
     |false=>rw[bq]at ah;exact ah.elim| true=>rw[bq]at ah;have jh:=bI bq;obtain⟨T,bp⟩:=(h.cm s cs au).dX;refine hS (v:=pack i.bM.agg ((cs.drop off).take i.size)) ?_ ah;have:=Ky (aQ _ _ hi) (a:=⟨β s,off,none⟩) rfl bp (vs:=(cs.drop off).take i.size) (by simp) (by simp;omega);simp[execOp,Instr.loadAt,Instr.sureAddr,kC,this]
    ·exact ah.elim
   ·rename_i aU ad;have kC:=uR aA ad;obtain⟨vs,⟨dO,cs,T,ao,ff,iU,ay⟩,ae⟩:=ah;refine hS (v:=pack i.bM.agg vs) ?_ ae;have:=Ky (aQ _ _ hi) dO (ff.heap h.holds) iU ay;simp[execOp,Instr.loadAt,Instr.sureAddr,kC,this]
   ·exact ah.elim
  ·exact ah.elim
 case nilCheck x=>
  simp only[cH]at ah;split at ah;·rename_i s off ad;exact done (v:=.pointer (some ⟨β s,off,none⟩)) (x:=.ref s off) (by simp[execOp,BB aA ad]) rfl ah
  ·rename_i aU ad;exact hS (v:=.pointer (some aU)) (by simp[execOp,uR aA ad]) ah
  ·exact Or.inl ah
 case fieldAddr t x i=>
  simp only[cH]at ah;split at ah
  ·rename_i sz hQ z cR ax;obtain⟨fields,hu,rfl⟩:=(aQ _ _ ax).struct;split at ah
   ·rename_i fy off ru;obtain⟨f,wj,rfl,rfl⟩:=VV ru;split at ah
    ·rename_i hr s o' m5 ad;cases bb:Nat.beq hr.size 0 with
     |true=>rw[bb]at ah;exact ah.elim
     |false=>
      rw[bb]at ah;have ha:hr.size≠0:=λe=>by rw[e]at bb;cases bb
      refine done (v:=.pointer (some ⟨β s,o'+f.offset,none⟩)) (x:=.ref s (o'+f.offset)) ?_ rfl ah;simp[execOp,Instr.fieldAt,run_underlying hu,wj,BB aA ad,Instr.sureAddr,fieldPlace,(aQ _ _ m5).run_sizeOf,ha,eU]
    ·rename_i hr aU m5 ad;cases bb:Nat.beq hr.size 0 with
     |true=>rw[bb]at ah;exact ah.elim
     |false=>
      rw[bb]at ah;have ha:hr.size≠0:=λe=>by rw[e]at bb;cases bb
      refine hS (v:=.pointer (some (aU.add f.offset))) ?_ ah;simp[execOp,Instr.fieldAt,run_underlying hu,wj,uR aA ad,Instr.sureAddr,fieldPlace,(aQ _ _ m5).run_sizeOf,ha]
    ·exact ah.elim
   ·exact ah.elim
  ·exact ah.elim
 case field t x i=>
  simp only[cH]at ah;split at ah
  ·rename_i sz hQ z cR cs ax ad;obtain⟨fields,hu,rfl⟩:=(aQ _ _ ax).struct;split at ah
   ·rename_i fy off ru;obtain⟨f,wj,rfl,rfl⟩:=VV ru;split at ah
    ·rename_i hr m5;cases bb:Nat.ble (f.offset+hr.size) cs.size with
     |false=>rw[bb]at ah;exact ah.elim| true=>rw[bb]at ah;refine hS ?_ ah;simp[execOp,Instr.field,run_underlying hu,wj,df aA ad,asAgg,Pb (aQ _ _ m5) (bI bb)]
    ·exact ah.elim
   ·exact ah.elim
  ·exact ah.elim
 case indexAddr t x i=>
  simp only[cH]at ah;split at ah
  ·rename_i sz hQ z e gl k ax hi;have hu:=(aQ _ _ ax).slice;split at ah
   ·rename_i aI bO n c hF ad;obtain⟨aU,j,rfl,rfl,ai,ae⟩:=ah;refine hS ?_ ae;simp[execOp,df aA ad,df aA hi,agY hu (aQ _ _ hF) ai]
   ·exact ah.elim
  ·rename_i sz hQ z n e gl k ax hi;have hu:=(aQ _ _ ax).array;split at ah
   ·rename_i aI s o' hF ad;obtain⟨j,rfl,ai,ae⟩:=ah;refine done (v:=.pointer (some ⟨β s,o'+j*aI.size,none⟩)) (x:=.ref s (o'+j*aI.size)) ?_ rfl ae;simp[execOp,BB aA ad,df aA hi,VW hu (aQ _ _ hF) ai,eU]
   ·rename_i aI aU hF ad;obtain⟨j,rfl,ai,ae⟩:=ah;refine hS ?_ ae;simp[execOp,uR aA ad,df aA hi,VW hu (aQ _ _ hF) ai]
   ·exact ah.elim
  ·exact ah.elim
 case index t x i=>
  simp only[cH]at ah;split at ah;·rename_i sz hQ z s gl k ax ad hi;have hu:=(aQ _ _ ax).string;obtain⟨j,rfl,ai,ae⟩:=ah;refine hS ?_ ae;simp only[execOp,df aA ad,df aA hi,Instr.index,ct,oU,bY,run_underlying hu];rw[bN (by omega:(0:Int)<=j)];simp[ai]
  ·rename_i sz hQ z n e cs gl k ax ad hi;have hu:=(aQ _ _ ax).array;split at ah
   ·rename_i aI hF;cases bb:Nat.beq (n*aI.size) cs.size with
    |false=>rw[bb]at ah;exact ah.elim
    |true=>
     rw[bb]at ah;obtain⟨j,rfl,ai,ae⟩:=ah;have ha:=dR bb;refine hS ?_ ae;have bq:j*aI.size+aI.size<=cs.size:=by rw[<-ha,<-Nat.succ_mul];exact v' _ ai
     simp only[execOp,df aA ad,df aA hi,Instr.index,ct,oU,bY,run_underlying hu];rw[bN ⟨by omega,by omega⟩];simp[(aQ _ _ hF).run_sizeOf,Pb (aQ _ _ hF) bq]
   ·exact ah.elim
  ·exact ah.elim
 case build t parts=>
  simp only[cH]at ah;split at ah
  ·rename_i i vs hi iU;have aB:=Kv aA iU;have zl:(parts.map λ(i,x)=>(i,a.eval x)).toList=vs:=by simpa using aB
   obtain⟨z,bb,xT⟩:=(aQ _ _ hi).GG w;have D3:z.cells=i.zero.toArray:=by rw[<-xT]
   split at ah
   ·rename_i cR og;cases bw:DY X.E cR with
    |false=>rw[bw]at ah;exact ah.elim
    |true=>
     rw[bw]at ah;simp only[cb]at ah;split at ah
     ·rename_i cells xU;obtain⟨sz,hQ,agZ,bM⟩:=i;simp only at og;subst og;obtain⟨fields,hu,rfl⟩:=(aQ _ _ hi).struct;obtain⟨l,ay,gC⟩:=VX aQ w fields.toList bw;refine hS ?_ ah;have hm:(fields.mapM λf=>(do pure (f.offset,<-sizeOf f.type):Sem (Nat×Nat))).run X.P w=.ok l.toArray w:=by rw[VG,Sem.run_map,ay];rfl
      have wk:=fill_eq _ _ _ _ xU;have ag0:(λj=>l.toArray[j]?)=places X.E (fields.toList.map λf=>(f.type,f.offset)):=by funext j;rw[<-gC j];simp
      simp only[execOp,Instr.build,ct,bb,bY,run_underlying hu,D3,zl];rw[hm];simp only[bY,ag0,wk,c3]
     ·exact ah.elim
   ·rename_i n e og;split at ah
    ·rename_i aI hF;split at ah
     ·rename_i cells xU;obtain⟨sz,hQ,agZ,bM⟩:=i;simp only at og;subst og;have hu:=(aQ _ _ hi).array;refine hS ?_ ah;have wk:=fill_eq _ _ _ _ xU;simp only[execOp,Instr.build,ct,bb,bY,run_underlying hu,D3,zl,(aQ _ _ hF).run_sizeOf,wk,c3]
     ·exact ah.elim
    ·exact ah.elim
   ·exact ah.elim
  ·exact ah.elim
 case makeFunc fn first captured=>
  simp only[cH]at ah;split at ah
  ·rename_i cR cs aa ab;have aJ:=tu aA aa;have a4:=tu aA ab;refine hS ?_ ah;have er:first.map a.eval=cR.toArray:=by apply gY;simpa using aJ
   have rv:captured.map a.eval=cs.toArray:=by apply gY;simpa using a4
   simp[execOp,Instr.makeFunc,er,rv]
  ·exact ah.elim
 case slice t x lo hi mx=>
  simp only[cH]at ah;split at ah
  ·rename_i sz hQ z e bO n c ax ad iz;have Pc:mx=none:=by simpa using iz
   subst Pc;have hu:=(aQ _ _ ax).slice;have kC:=df aA ad;split at ah
   ·rename_i aI hF e2 gF;have uS:lo=none:=by simpa using e2
    have BE:hi=none:=by simpa using gF
    subst uS;subst BE;refine hS ?_ ah;have aJ:(if c=0 then bO else bO.map (·.add (0*aI.size)))=bO:=by split<;>cases bO<;>simp[Addr.add]
    simp[execOp,Instr.sliceAt,Instr.slice,Instr.sliceBounds,kC,run_underlying hu,(aQ _ _ hF).run_sizeOf,Addr.add]
   ·rename_i aI gl kd hF e2 gF;have uS:lo=none:=by simpa using e2
    subst uS;obtain⟨GJ,rfl,cW⟩:=sB.1 gF;obtain⟨l,ab,BF,rfl,bq,xV,ae⟩:=ah;refine hS ?_ ae;simp only[execOp,Instr.sliceAt,Instr.slice,Instr.sliceBounds,Instr.sliceBound,kC,ct,run_underlying hu,bY,(aQ _ _ hF).run_sizeOf,c3,lx,uM,df aA cW,oU];rw[bN ⟨by omega,by omega⟩];simp[Addr.add]
   ·rename_i aI gl hl hF e2 gF;have BE:hi=none:=by simpa using gF
    subst BE;obtain⟨Pd,rfl,cW⟩:=sB.1 e2;obtain⟨l,ab,rfl,BG,bq,xV,ae⟩:=ah;simp only[uK,j']at *;refine hS ?_ ae;simp only[execOp,Instr.sliceAt,Instr.slice,Instr.sliceBounds,Instr.sliceBound,kC,ct,run_underlying hu,bY,(aQ _ _ hF).run_sizeOf,c3,lx,uM,df aA cW,oU];rw[bN ⟨by omega,by omega⟩];simp
   ·rename_i aI gl hl ag1 kd hF e2 gF;obtain⟨Pd,rfl,cW⟩:=sB.1 e2;obtain⟨GJ,rfl,BH⟩:=sB.1 gF;obtain⟨l,ab,rfl,rfl,bq,xV,ae⟩:=ah;refine hS ?_ ae;simp only[execOp,Instr.sliceAt,Instr.slice,Instr.sliceBounds,Instr.sliceBound,kC,ct,run_underlying hu,bY,(aQ _ _ hF).run_sizeOf,c3,lx,uM,df aA cW,df aA BH,oU];rw[bN ⟨by omega,by omega⟩];simp only[c3,bY,gz];rw[bN ⟨by omega,by omega⟩];simp
   ·exact ah.elim
  ·rename_i sz hQ z s ax ad iz;have Pc:mx=none:=by simpa using iz
   subst Pc;have hu:=(aQ _ _ ax).string;have kC:=df aA ad;split at ah
   ·rename_i e2 gF;have uS:lo=none:=by simpa using e2
    have BE:hi=none:=by simpa using gF
    subst uS;subst BE;refine hS ?_ ah;have aJ:s.extract 0 s.size=s:=by apply wa;simp[Kq]
    simp[execOp,Instr.sliceAt,Instr.slice,Instr.sliceBounds,kC,run_underlying hu,aJ]
   ·rename_i gl kd e2 gF;have uS:lo=none:=by simpa using e2
    subst uS;obtain⟨GJ,rfl,cW⟩:=sB.1 gF;obtain⟨l,ab,BF,rfl,bq,xV,ae⟩:=ah;refine hS ?_ ae;simp only[execOp,Instr.sliceAt,Instr.slice,Instr.sliceBounds,Instr.sliceBound,kC,ct,run_underlying hu,bY,c3,lx,uM,df aA cW,oU];simp only[O1,lv,l6,ct,c3,bY,oU];rw[bN ⟨by omega,by omega⟩];simp
   ·rename_i gl hl e2 gF;have BE:hi=none:=by simpa using gF
    subst BE;obtain⟨Pd,rfl,cW⟩:=sB.1 e2;obtain⟨l,ab,rfl,BG,bq,xV,ae⟩:=ah;simp only[uK,j']at *;refine hS ?_ ae;simp only[execOp,Instr.sliceAt,Instr.slice,Instr.sliceBounds,Instr.sliceBound,kC,ct,run_underlying hu,bY,c3,lx,uM,df aA cW,oU];simp only[O1,lv,l6,ct,c3,bY,oU];rw[bN ⟨by omega,by omega⟩];simp
   ·rename_i gl hl ag1 kd e2 gF;obtain⟨Pd,rfl,cW⟩:=sB.1 e2;obtain⟨GJ,rfl,BH⟩:=sB.1 gF;obtain⟨l,ab,rfl,rfl,bq,xV,ae⟩:=ah;refine hS ?_ ae;simp only[execOp,Instr.sliceAt,Instr.slice,Instr.sliceBounds,Instr.sliceBound,kC,ct,run_underlying hu,bY,c3,lx,uM,df aA cW,df aA BH,oU];simp only[O1,lv,l6,ct,c3,bY,oU];rw[bN ⟨by omega,by omega⟩];simp only[c3,bY,gz];rw[bN ⟨by omega,by omega⟩];simp
   ·exact ah.elim
  ·rename_i sz hQ z e bO n c awf awg ax ad iz;obtain⟨awh,rfl,ag2⟩:=sB.1 iz;have hu:=(aQ _ _ ax).slice;have kC:=df aA ad;split at ah
   ·rename_i aI gl kd hF e2 gF;have uS:lo=none:=by simpa using e2
    subst uS;obtain⟨GJ,rfl,cW⟩:=sB.1 gF;obtain⟨l,m,rfl,rfl,bq,xV,ae⟩:=ah;refine hS ?_ ae;simp only[execOp,Instr.sliceAt,Instr.slice,Instr.sliceBounds,Instr.sliceBound,kC,ct,run_underlying hu,bY,(aQ _ _ hF).run_sizeOf,c3,lx,uM,df aA cW,df aA ag2,oU];rw[bN ⟨by omega,by omega⟩];simp only[c3,bY,gz];rw[bN ⟨by omega,by omega⟩];simp only[c3,bY,gz]
   ·exact Or.inl ah
  ·exact Or.inl ah
 case extract x i=>
  simp only[cH]at ah;split at ah
  ·rename_i vs ad;split at ah
   ·rename_i v hi;refine hS ?_ ah;have cZ:vs[i]?=some v:=by simpa using hi
    simp[execOp,Instr.extract,df aA ad,cZ]
   ·exact ah.elim
  ·exact ah.elim
 case convert s d x=>
  simp only[cH]at ah;split at ah;·rename_i awi sz hQ z k e9 n au ax ad;have hu:=(aQ _ _ ax).int;obtain⟨ds,fL,_⟩:=(aQ _ _ au).fx;obtain⟨r,af,ae⟩:=ah;refine hS ?_ ae;simp only[execOp,convert,df aA ad,ct,run_underlying fL,run_underlying hu,bY];simp only[Conv.intToInt,af,c3,bY]
  ·exact Or.inl ah
 case call c=>
  obtain⟨callee,args,argTypes⟩:=c;cases callee with
  |value f=>exact .inl ah| invoke r m=>exact .inl ah
  |builtin b=>
   cases b
   case len=>
    simp only[cH]at ah;split at ah
    ·rename_i t v aa ab;have aJ:=tu aA ab;have er:args.map a.eval=#[v]:=by apply gY;simpa using aJ
     have ax:argTypes=#[t]:=by apply gY;simpa using aa
     subst ax;split at ah;·rename_i sz hQ z e aU n c bp;have hu:=(aQ _ _ bp).slice;refine hS ?_ ah;simp[execOp,resolve,invoke,builtin,Builtin.len_,er,run_underlying hu,goInt]
     ·rename_i sz hQ z s bp;have hu:=(aQ _ _ bp).string;refine hS ?_ ah;simp[execOp,resolve,invoke,builtin,Builtin.len_,er,run_underlying hu,goInt]
     ·rename_i sz hQ z n e bp;have hu:=(aQ _ _ bp).array;refine hS ?_ ah;simp[execOp,resolve,invoke,builtin,Builtin.len_,er,run_underlying hu,goInt]
     ·exact Or.inl ah
    ·exact Or.inl ah
   case cap=>
    simp only[cH]at ah;split at ah
    ·rename_i t v aa ab;have aJ:=tu aA ab;have er:args.map a.eval=#[v]:=by apply gY;simpa using aJ
     have ax:argTypes=#[t]:=by apply gY;simpa using aa
     subst ax;split at ah;·rename_i sz hQ z e aU n c bp;have hu:=(aQ _ _ bp).slice;refine hS ?_ ah;simp[execOp,resolve,invoke,builtin,Builtin.cap_,er,run_underlying hu,goInt]
     ·exact Or.inl ah
    ·exact Or.inl ah
   case max=>
    simp only[cH]at ah;split at ah
    ·rename_i k p e9 q ab;have aJ:=tu aA ab;have er:args.map a.eval=#[.int k p,.int e9 q]:=by apply gY;simpa using aJ
     refine hS ?_ ah;have hm:(if q > p then q else p)=max p q:=by split<;>omega
     simp only[execOp,resolve,invoke,builtin,Builtin.max_,Builtin.max2,er,ct,c3,bY,List.foldlM_cons,List.foldlM_nil,hm]
    ·exact Or.inl ah
   case min=>
    simp only[cH]at ah;split at ah
    ·rename_i k p e9 q ab;have aJ:=tu aA ab;have er:args.map a.eval=#[.int k p,.int e9 q]:=by apply gY;simpa using aJ
     refine hS ?_ ah;have hm:(if q<p then q else p)=min p q:=by split<;>omega
     simp only[execOp,resolve,invoke,builtin,Builtin.min_,Builtin.min2,er,ct,c3,bY,List.foldlM_cons,List.foldlM_nil,hm]
    ·exact Or.inl ah
   case unsafeSliceData=>
    simp only[cH]at ah;split at ah
    ·rename_i n c ab;have aJ:=tu aA ab;have er:args.map a.eval=#[.slice none n c]:=by apply gY;simpa using aJ
     refine hS ?_ ah;simp only[execOp,resolve,invoke,builtin,er,ct,c3,bY,Lib.run_unsafeSliceData_nil]
    ·rename_i aU n c ab;obtain⟨aj,ah⟩:=ah;have aJ:=tu aA ab;have er:args.map a.eval=#[.slice (some aU) n c]:=by apply gY;simpa using aJ
     refine hS ?_ ah;simp only[execOp,resolve,invoke,builtin,er,ct,c3,bY,Lib.run_unsafeSliceData_row _ _ _ _ _ _ (show c≠0 by omega)]
    ·exact Or.inl ah
   all_goals exact .inl ah
 all_goals exact .inl ah
def D4(aQ:cU X.P X.E)(ak:∀ d,o.dst=some d->d<X.n)(h:Rel X a w F C I M)(ah:gZ X o F C I M K):o.wpIn (g' X) 0 X.P a w (Sat X K) Q:=by
 have aV:=h;obtain⟨β,h⟩:=h;obtain⟨dst,op,ty,pos,after,guard⟩:=o;have other:bB X ⟨dst,op,ty,pos,after,guard⟩ F C I M K->(⟨dst,op,ty,pos,after,guard⟩:Oper).wpIn (g' X) 0 X.P a w (Sat X K) Q:=λ⟨h⟩=>h a w Q aV;have aA:=h.ao;have quiet:cH X op (dq F) C I M (λx=>K (Go.V.put dst x F) C I M) (bB X ⟨dst,op,ty,pos,after,guard⟩ F C I M K)->(∀ c,op≠.defer c)->(⟨dst,op,ty,pos,after,guard⟩:Oper).wpIn (g' X) 0 X.P a w (Sat X K) Q:=λaN bH=>by
  rcases VY aQ h op ty dst pos after guard aN with aa | ⟨v,x,af,ad,ae⟩;·exact other aa
  ·exact VO (o:=⟨dst,op,ty,pos,after,guard⟩) h ak bH af ad ae
 cases op
 case box t x=>
  simp only[gZ]at ah;split at ah
  ·rename_i d v ad;have kC:=df aA ad;have af:(execOp a.eval ⟨some d,.box t x,ty,pos,after,guard⟩).run X.P w=.ok (.value (.pointer (some ⟨w.heap.size,0,none⟩))) (w.alloc (.cells v.cells t (0,0))):=by simp[execOp,Instr.box,newVar,newRow,kC,Bx]
   have hs:d<X.n:=ak d rfl;cases kD:X.gG.contains d with
   |true=>rw[kD]at ah;obtain⟨ah⟩:=ah;have ae:=ah w.heap.size h.holds.sE h.holds.rr;have aa:=(h.oe (.cells v.cells t (0,0))).O9 d;exact jg (by simp) af ⟨_,_,_,_,⟨β,cN.put aa (dst:=some d) (x:=.val (.pointer (some ⟨w.heap.size,0,none⟩))) (by simpa using hs) rfl⟩,ae⟩
   |false=>rw[kD]at ah;obtain⟨oR,aa⟩:=h.VK d hs v.cells.toList t;exact jg (by simp) af ⟨_,_,_,_,⟨oR,by simpa using aa⟩,ah⟩
  ·exact ah.elim
 case alloc t=>
  simp only[gZ]at ah;split at ah
  ·rename_i d i hi;obtain⟨z,bb,xT⟩:=(aQ _ _ hi).GG w;have D3:z.cells=i.zero.toArray:=by rw[<-xT]
   have af:(execOp a.eval ⟨some d,.alloc t,ty,pos,after,guard⟩).run X.P w=.ok (.value (.pointer (some ⟨w.heap.size,0,none⟩))) (w.alloc (.cells i.zero.toArray t (0,0))):=by simp[execOp,Instr.alloc,newVar,newRow,bb,D3,Bx]
   have hs:d<X.n:=ak d rfl;cases kD:X.gG.contains d with
   |true=>rw[kD]at ah;obtain⟨ah⟩:=ah;have ae:=ah w.heap.size h.holds.sE h.holds.rr;have aa:=(h.oe (.cells i.zero.toArray t (0,0))).O9 d;exact jg (by simp) af ⟨_,_,_,_,⟨β,cN.put aa (dst:=some d) (x:=.val (.pointer (some ⟨w.heap.size,0,none⟩))) (by simpa using hs) rfl⟩,ae⟩
   |false=>rw[kD]at ah;obtain⟨oR,aa⟩:=h.VK d hs i.zero t;exact jg (by simp) af ⟨_,_,_,_,⟨oR,aa⟩,ah⟩
  ·exact ah.elim
 case store t x y=>
  simp only[gZ]at ah;split at ah
  ·rename_i i v hi aH;have tx:=df aA aH;split at ah
   ·rename_i s off ad;have kC:=BB aA ad;split at ah
    ·rename_i cs au;cases bq:(Nat.ble (off+i.size) cs.length&&(Nat.beq v.cells.size i.size&&gA v.cells.toList))with
     |false=>rw[bq]at ah;exact ah.elim| true=>rw[bq]at ah;simp only[cz]at bq;obtain⟨bq,da,oW⟩:=bq;have jh:=bI bq;have BI:=dR da;obtain⟨T,bp⟩:=(h.cm s cs au).dX;have:=Kz (aQ _ _ hi) (a:=⟨β s,off,none⟩) (v:=v) rfl bp BI (by simp;omega) oW;refine DZ (by simp) (w':=w.setRow (β s) (ck cs off v.cells.toList).toArray) ?_ ⟨_,_,_,_,⟨β,h.VM au (ck cs off v.cells.toList)⟩,ah⟩;simp only[execOp,Instr.storeAt,kC,tx,Instr.sureAddr,ct,c3,bY];simp only[OZ]at this;rw[this];rfl
    ·exact ah.elim
   ·rename_i aU ad;have kC:=uR aA ad;cases da:Nat.beq v.cells.size i.size with
    |false=>rw[da]at ah;exact ah.elim| true=>rw[da]at ah;obtain⟨a9,post,cs,T,a',dO,ag,oW,ae⟩:=ah;have BI:=dR da;have av:w.heap[aU.block]?=some (.cells cs T (0,0)):=h.holds.m ⟨aU.block,.cells cs T (0,0)⟩ (by rw[a'];simp);have:=Kz (aQ _ _ hi) (v:=v) dO av BI ag oW;refine DZ (by simp) (w':=w.setRow aU.block (ck cs.toList aU.off v.cells.toList).toArray) ?_ ⟨_,_,_,_,⟨β,h.xQ a'⟩,ae⟩;simp only[execOp,Instr.storeAt,kC,tx,Instr.sureAddr,ct,c3,bY];rw[this];rfl
   ·exact ah.elim
  ·exact ah.elim
 case buildSlice t len parts=>
  simp only[gZ]at ah;split at ah
  ·rename_i sz hQ z e vs ax iU;have hu:=(aQ _ _ ax).slice;have aB:=Kv aA iU;have zl:(parts.map λ(i,x)=>(i,a.eval x)).toList=vs:=by simpa using aB
   split at ah
   ·rename_i aI hF;cases bb:(Nat.ble (len*aI.size) 16777216&&Nat.blt 0 (len*aI.size))with
    |false=>
     rw[bb]at ah;simp only[b5]at ah;split at ah
     ·rename_i ag3;obtain⟨ah⟩:=ah;have ae:=ah w.heap.size h.holds.sE h.holds.rr;refine jg (by simp) (v:=.slice (some ⟨w.heap.size,0,none⟩) 0 0) (w':=w.alloc (.cells #[] e (0,0))) ?_ ⟨_,_,_,_,⟨β,(h.oe _).put (x:=.val (.slice (some ⟨w.heap.size,0,none⟩) 0 0)) ak rfl⟩,ae⟩;simp only[execOp,Instr.buildSlice,ct,bY,run_underlying hu,(aQ _ _ hF).run_sizeOf,zl];have dd:∀ f:Nat->Value,Array.map f (Array.range 0)=#[]:=λf=>by apply Array.ext<;>simp
      simp[newRow,Bx,Instr.fill,dd]
     ·exact ah.elim
    |true=>
     rw[bb]at ah;simp only[cb]at ah;rw[cz]at bb;have bq:=bI bb.1;have m6:0<len*aI.size:=by simpa using bb.2
     split at ah;·rename_i cells xU;obtain⟨tz,BJ,xT⟩:=(aQ _ _ hF).GG w;obtain⟨ah⟩:=ah;have ae:=ah w.heap.size h.holds.sE h.holds.rr;refine jg (by simp) (v:=.slice (some ⟨w.heap.size,0,none⟩) len len) (w':=w.alloc (.cells cells.toArray e (0,0))) ?_ ⟨_,_,_,_,⟨β,(h.oe _).put (x:=.val (.slice (some ⟨w.heap.size,0,none⟩) len len)) ak rfl⟩,ae⟩;have wk:=fill_eq _ _ _ _ xU;simp only[execOp,Instr.buildSlice,ct,bY,run_underlying hu,(aQ _ _ hF).run_sizeOf];rw[bS (by omega)];simp only[bS (show ¬ len*aI.size=0 by omega),ct,BJ,bY,c3,zl,VU tz aI.zero xT,wk];simp[newRow,Bx]
     ·exact ah.elim
   ·exact ah.elim
  ·exact ah.elim
 case makeSlice t l c=>
  simp only[gZ]at ah;split at ah
  ·rename_i sz hQ z e gH eB du c' ax ay an;have hu:=(aQ _ _ ax).slice;split at ah
   ·rename_i aI hF;obtain⟨n,m,rfl,rfl,h7,ag,hm,⟨ah⟩⟩:=ah;have ae:=ah w.heap.size h.holds.sE h.holds.rr;obtain⟨inf,tz,ft,iW,iB,kE,BK⟩:=(aQ _ _ hF).inf;refine jg (by simp) (v:=.slice (some ⟨w.heap.size,0,none⟩) n m) (w':=w.alloc (.cells (rowOf aI.zero (m*aI.size)).toArray e (0,0))) ?_ ⟨_,_,_,_,⟨β,(h.oe _).put (x:=.val (.slice (some ⟨w.heap.size,0,none⟩) n m)) ak rfl⟩,ae⟩;have gS:((aI.bytes:Nat):Int)*(m:Int)<=281474976710656:=by
     have ab:((aI.bytes*m:Nat):Int)<=281474976710656:=by omega
     simpa using ab
    have:=run_make (P:=X.P) w t e inf tz hu ft kE gH du (n:Int) (m:Int) (by omega) (by omega) (by rw[iB];exact gS) (by omega);simp only[execOp,df aA ay,df aA an,ct,this,bY,c3,gz];have aJ:madeCells tz.cells (m*inf.size)=(rowOf aI.zero (m*aI.size)).toArray:=by rw[iW,<-BK];simp[wg]
    rw[aJ]
   ·exact ah.elim
  ·exact ah.elim
 case call c=>
  obtain⟨callee,args,argTypes⟩:=c;cases callee with
  |value f=>
   simp only[gZ]at ah;split at ah
   ·rename_i g first cap vs nP iU
    have aJ:=tu aA iU;have er:args.map a.eval=vs.toArray:=by apply gY;simpa using aJ
    have fj:∀ {n:Next} {w':World},(callFunc g (first.toList++vs++cap.toList).toArray).run X.P w=.ok n w'->(execOp a.eval ⟨dst,.call { callee:=.value f,args,argTypes },ty,pos,after,guard⟩).run X.P w=.ok n w':=λaf=>by simp only[execOp,resolve,df aA nP,Deferred.ofValue,ct,c3,bY,er,invoke];rw[show first++vs.toArray++cap=(first.toList++vs++cap.toList).toArray from by apply gY;simp];exact af
    rcases h.call ah with⟨qw,BL⟩ | ⟨v,w',I',M',af,ae,e6⟩;·refine VT (by simp) (f:=g) (args:=(first.toList++vs++cap.toList).toArray) (fj (qw _ _)) ?_;refine BL.mono ?_;rintro e w'⟨v,I',M',rfl,ae,af⟩;exact⟨v,rfl,_,_,_,_,⟨β,af.put (x:=.val v) ak rfl⟩,ae⟩
    ·exact jg (by simp) (fj af) ⟨_,_,_,_,⟨β,e6.put (x:=.val v) ak rfl⟩,ae⟩
   ·exact other ah
  |invoke r m=>exact quiet ah (by simp)
  |builtin b=>
   cases b
   all_goals exact quiet ah (by simp)
 case defer c=>exact other ah
 all_goals exact quiet ah (by simp)
end
section
variable{X:cV}{β:Nat->Nat}{a:Act}{w:World}{F:Fr}{C:dF}{I:aM}{M:List aE}{o:Oper}{Q:Exit->Act->World->Prop}{K:gm}
def D5{a:Act}{d:Nat}{c:Bool}(h:a.tmps.getD d undef=.bool c):a.tmps[d]?=some (.bool c):=by
 rw[pM]at h;cases ak:a.tmps[d]? with
 |none=>rw[ak]at h;cases h| some v=>rw[ak]at h;simp at h;rw[h]
def GK{j d:Nat}(ak:(ops[j]?).bind (·.dst)=some d)(tmps:Array Value):yielded ops tmps j=match tmps[d]? with
  |some (.bool b)=>some b| _=>none:=by
 unfold yielded;rw[ak];rfl
def cN.refine(h:cN X β a w F C I M){dr:Fr}(bG:∀ t,e3 β (dr t) (a.tmps.getD t undef)):cN X β a w dr C I M:={ h with ao:=bG }
def VZ(aQ:cU X.P X.E)(ops:Array Oper)(ry:∀ a w,Sat X K a w->Q .normal a w):∀ (l:List Oper) (k:Nat),(∀ j,l[j]?=ops[k+j]?)->(∀ o∈l,∀ d,o.dst=some d->d<X.n) -> ∀ {F C I M a w},Rel X a w F C I M->uQ X ops.toList l F C I M K->wpOpsIn (g' X) 0 X.P ops Q (List.range' k l.length) a w
 |[],k,_,_,F,C,I,M,a,w,aV,ah=>ry _ _ ⟨F,C,I,M,aV,ah⟩
 |o::bk,k,ay,ak,F,C,I,M,a,w,aV,ah=>by
  have az:ops[k]?=some o:=by simpa using(ay 0).symm
  have oh:∀ j,bk[j]?=ops[k+1+j]?:=λj=>by have:=ay (j+1);simpa[tr,DV 1 j]using this
  have fD:∀ o∈bk,∀ d,o.dst=some d->d<X.n:=λo aK=>ak o (by simp[aK]);have zm:=ak o (by simp);have aF:=@VZ aQ ops ry bk (k+1) oh fD;simp only[c2,Gz,wpOpsIn,az];have run:∀ {F C I M},Rel X a w F C I M->gZ X o F C I M (λF C I M=>uQ X ops.toList bk F C I M K)->o.wpIn (g' X) 0 X.P a w (wpOpsIn (g' X) 0 X.P ops Q (List.range' (k+1) bk.length)) Q:=λaV ah=>
   tq (λbO w' ⟨dr,C',I',M',af,ae⟩=>aF af ae) (D4 aQ zm aV ah)
  have skip:∀ {F C I M},Rel X a w F C I M->uQ X ops.toList bk (put o.dst (.val undef) F) C I M K->(∀ f,o.about X.P w a.eval=some f->(g' X).fn f)/\wpOpsIn (g' X) 0 X.P ops Q (List.range' (k+1) bk.length) (a.put o.dst undef) w:=λ⟨β,af⟩ ah=>
   ⟨λ_ _=>trivial,aF ⟨β,af.put (x:=.val undef) zm rfl⟩ ah⟩
  unfold uQ at ah;cases av:o.guard with
  |none=>
   rw[av]at ah;have hw:Region.wanted o (yielded ops a.tmps)=true:=by simp[Region.wanted,av]
   rw[bN hw];exact run aV ah
  |some GL=>
   obtain⟨j,b⟩:=GL;rw[av]at ah;simp only at ah;cases ai:(ops.toList[j]?).bind (·.dst)with
   |none=>rw[ai]at ah;exact ah.elim
   |some d=>
    rw[ai]at ah;simp only at ah;have iC:(ops[j]?).bind (·.dst)=some d:=by simpa using ai
    have aH:=GK iC a.tmps;obtain⟨β,af⟩:=aV;have bG:=af.ao d;split at ah
    ·rename_i c an;rw[an]at bG;have qx:=D5 bG;have GM:Region.wanted o (yielded ops a.tmps)=(c == b):=by simp[Region.wanted,av,aH,qx]
     rw[GM];cases jS:(c == b)with
     |true=>rw[jS]at ah;simp only[pO];exact run ⟨β,af⟩ ah| false=>rw[jS]at ah;simp only[lv,l6];exact skip ⟨β,af⟩ ah
    ·rename_i c an;rw[an]at bG;have qx:=D5 bG;have GM:Region.wanted o (yielded ops a.tmps)=(c == b):=by simp[Region.wanted,av,aH,qx]
     rw[GM];obtain⟨KA,nQ⟩:=ah;have set:∀ x:Bool,c=x->Rel X a w (ga F d (.lit x)) C I M:=λx ad=>⟨β,af.refine λt=>by
      unfold ga;by_cases e:t=d;·subst e;simp only[rq,cb];rw[<-ad];exact bG
      ·simp only[hE e,b5];exact af.ao t⟩
     by_cases jS:c=b
     ·have:(c == b)=true:=by simp[jS]
      rw[this];simp only[pO];exact run (set b jS) (KA jS)
     ·have ab:c=!b:=by cases c<;>cases b<;>simp_all
      have:(c == b)=false:=by simp[jS]
      rw[this];simp only[lv,l6];exact skip (set _ ab) (nQ ab)
    ·rename_i vs an;rw[an]at bG;have uT:yielded ops a.tmps j=none:=by
      rw[aH];cases kF:a.tmps[d]? with
      |none=>rfl| some v=>simp only[e3,pM,kF,j']at bG;subst bG;rfl
     have GM:Region.wanted o (yielded ops a.tmps)=false:=by simp[Region.wanted,av,uT]
     rw[GM];simp only[lv,l6];exact skip ⟨β,af⟩ ah
    ·exact ah.elim
end
inductive zn:dD->dD->Prop
 |refl{x}:zn x x| lit {b}:zn (.lit b) (.val (.bool b))| nO {x}:zn x .nO
def rz:List (Nat×dD)->Fr
 |[],_=>.nO|(t,x)::l,s=>bif Nat.beq s t then x else rz l s
def rA:List (Nat×List Value)->dF
 |[],_=>none|(t,x)::l,s=>bif Nat.beq s t then some x else rA l s
inductive lA(F:Fr):List (Nat×dD)->Prop
 |nil:lA F []| cons {t x l} (h:zn (F t) x) (k:lA F l):lA F ((t,x)::l)
inductive zo(C:dF):List (Nat×List Value)->Prop
 |nil:zo C []| cons {t x l} (h:C t=some x) (k:zo C l):zo C ((t,x)::l)
def ag4{β:Nat->Nat}{x y:dD}(h:zn x y)(ad:e3 β x v):e3 β y v:=by
 cases h with
 |refl=>exact ad| lit=>exact ad| nO=>trivial
def lA.ok{β:Nat->Nat}{F:Fr}(h:∀ t,e3 β (F t) (a.tmps.getD t undef)){l:List (Nat×dD)}(ay:lA F l)(t:Nat):e3 β (rz l t) (a.tmps.getD t undef):=by
 induction ay with
 |nil=>trivial
 | @cons bo x l ad k aF=>
  unfold rz;by_cases e:t=bo;·subst e;simp only[rq,cb];exact ag4 ad (h t)
  ·simp only[hE e,b5];exact aF
def zo.ok{C:dF}{l:List (Nat×List Value)}(ay:zo C l){s:Nat}{cs:List Value}(h:rA l s=some cs):C s=some cs:=by
 induction ay with
 |nil=>cases h
 | @cons bo x l ad k aF=>
  unfold rA at h;by_cases e:s=bo;·subst e;simp only[rq,cb]at h;rw[ad,h]
  ·simp only[hE e,b5]at h;exact aF h
def cN.cS{X:cV}{β:Nat->Nat}{F:Fr}{C:dF}{I:aM}{M:List aE}(h:cN X β a w F C I M){bj:List (Nat×dD)}{cl:List (Nat×List Value)}(bG:lA F bj)(lB:zo C cl):cN X β a w (rz bj) (rA cl) I M:=
 { h with
  ao:=bG.ok h.ao
  cm:=λs cs au=>h.cm s cs (lB.ok au)
  inj:=λs cf aa ab=>by
   obtain⟨gf,aJ⟩:=Kp.1 aa;obtain⟨gn,a4⟩:=Kp.1 ab;exact h.inj s cf (by rw[lB.ok aJ];simp) (by rw[lB.ok a4];simp) }
inductive tA where
 |normal| exit (id:Nat)| goto (l:Nat)| ret
abbrev ke:=tA->gm
def zp(N:gm)(K:ke):ke
 | .normal=>N| .exit id=>K (.exit id)| .goto l=>K (.goto l)| .ret=>K .ret
def V0(id:Nat)(K:ke):ke
 | .normal=>K .normal| .exit j=>bif Nat.beq j id then K .normal else K (.exit j)| .goto l=>K (.goto l)| .ret=>K .ret
def m7(X:cV)(K:ke):Exit->Act->World->Prop
 | .normal,a,w=>Sat X (K .normal) a w| .exit id,a,w=>Sat X (K (.exit id)) a w| .goto l,a,w=>Sat X (K (.goto l)) a w| .ret,a,w=>Sat X (K .ret) a w| .panic _,_,_=>False| .outgrown,_,_=>False
abbrev Body:=Fr->dF->aM->List aE->ke->Prop
structure wm where
 bj:List (Nat×dD)
 cl:List (Nat×List Value):=[]
 cI:aM
 de:List aE:=[]
inductive pP{ι:Type}(foot:List Nat)(aX:ι->wm)(p:ι->Prop)(F:Fr)(C:dF)(I:aM)(M:List aE):Prop
 |mk(j:ι)(aB:p j)(hw:il foot I M (aX j).cI (aX j).de)(bG:lA F (aX j).bj)(lB:zo C (aX j).cl)
def Pe(body:Body)(K:ke):Nat->gm
 |0=>λ_ _ _ _=>False
 |n+1=>λF C I M=>body F C I M (zp (Pe body K n) K)
inductive dg(foot:List Nat)(body:Body)(F:Fr)(C:dF)(I:aM)(M:List aE)(K:ke):Prop
 |inv {ι:Type} (aX:ι->wm) (inv:ι->Prop) (μ:ι->Nat) (start:pP foot aX inv F C I M) (round:∀ i,inv i->body (rz (aX i).bj) (rA (aX i).cl) (aX i).cI (aX i).de (zp (pP foot aX λj=>inv j/\μ j<μ i) K))| ag5 (n:Nat) (h:Pe body K n F C I M)| wo {ι:Type} (aX:ι->wm) (inv:ι->Prop) (μ:ι->Nat) (start:mu I M->pP foot aX inv F C I M) (round:∀ i,inv i->body (rz (aX i).bj) (rA (aX i).cl) (aX i).cI (aX i).de (zp (λF C I M=>mu I M->pP foot aX (λj=>inv j/\μ j<μ i) F C I M) K))
inductive c4(X:cV)(c:Code)(F:Fr)(C:dF)(I:aM)(M:List aE)(K:ke):Prop
 |mk(h:∀ a w,Rel X a w F C I M->c.wpIn (g' X) 0 X.P (m7 X K) a w)
inductive ag6(foot:List Nat)(F:Fr)(C:dF)(I:aM)(M:List aE)(K:gm):Prop
 |go(h:K F C I M)| ag7 (l:wm) (hw:il foot I M l.cI l.de) (bG:lA F l.bj) (lB:zo C l.cl) (h:K (rz l.bj) (rA l.cl) l.cI l.de)
def V(X:cV):Code->Fr->dF->aM->List aE->ke->Prop
 | .skip,F,C,I,M,K=>K .normal F C I M| .label l,F,C,I,M,K=>bif Nat.ble 2 l then ag6 X.foot F C I M (K .normal)else K .normal F C I M| .ret,F,C,I,M,K=>K .ret F C I M| .exit id,F,C,I,M,K=>K (.exit id) F C I M| .goto l,F,C,I,M,K=>K (.goto l) F C I M| .seq x y,F,C,I,M,K=>V X x F C I M (zp (λF C I M=>V X y F C I M K) K)| .block id c,F,C,I,M,K=>V X c F C I M (V0 id K)
 | .cond c x y,F,C,I,M,K=>
  match dq F c with
  | .lit b=>bif b then V X x F C I M K else V X y F C I M K| .val (.bool b)=>a3 b (V X x F C I M K) (V X y F C I M K)| _=>False
 | .loop c,F,C,I,M,K=>dg X.foot (V X c) F C I M K| .region _ ops false,F,C,I,M,K=>uQ X ops.toList ops.toList F C I M (K .normal)| .region id ops true,F,C,I,M,K=>c4 X (.region id ops true) F C I M K| .rangeFunc f ps fp body,F,C,I,M,K=>c4 X (.rangeFunc f ps fp body) F C I M K| .scope c,F,C,I,M,K=>c4 X (.scope c) F C I M K| .refuse _,_,_,_,_,_=>False
def xW(n:Nat)(ops:Array Oper):Bool:=ops.toList.all λo=>match o.dst with
 |some d=>Nat.blt d n| none=>true
def codeOk(n:Nat):Code->Bool
 | .seq x y=>codeOk n x&&codeOk n y| .block _ c=>codeOk n c| .cond _ x y=>codeOk n x&&codeOk n y| .loop c=>codeOk n c| .region _ ops _=>xW n ops| _=>true
def KB(h:xW n ops=true):∀ o∈ops.toList,∀ d,o.dst=some d->d<n:=by intro o aK d ak;have:=fi.1 h o aK;rw[ak]at this;simpa using this
def m7.then{X:cV}{N:gm}{K:ke}(aC:∀ a w,Sat X N a w->next a w):∀ e a w,m7 X (zp N K) e a w->Exit.then next (m7 X K) e a w:=by
 intro e a w h;cases e<;>first | exact aC _ _ h | exact h
def KD{sF:Fence}{Q:Exit->Act->World->Prop}(J:Nat->Act->World->Prop)(ag8:J m a w)
  (round:∀ m a w,J m a w->c.wpIn sF n P (Exit.then (λbO w'=>∃ m',m'<m/\J m' bO w') Q) a w):(Code.loop c).wpIn sF n P Q a w:=by
 intro b k cs g0 ag af;have key:∀ j a w,J j a w->∃ e bO w',Q e bO w'/\ArrivesIn (Machine.fenced P sF) P (lone (b.atR a (.code c::.inLoop c::k)) cs w) b k cs e bO w':=by
  intro j
  induction j using Nat.strongRecOn with
  |_ j aF=>
   intro a w bz;obtain⟨e,kf,kg,aN,ji⟩:=round j a w bz b (.inLoop c::k) cs g0 ag af;cases e with
   |normal=>obtain⟨m',a1,ag9⟩:=aN;obtain⟨GN,GO,GP,GQ,GR⟩:=aF m' a1 kf kg ag9;exact⟨GN,GO,GP,GQ,.of_steps (StepsIn.trans ji (.one (fenced_calm ag af rfl) stepR_inLoop)) GR⟩
   |exit id=>exact⟨_,kf,kg,aN,.pass (x:=.inLoop c) rfl (λ_ _=>.inl (by simp)) ji⟩| goto l=>exact⟨_,kf,kg,aN,.pass (x:=.inLoop c) rfl (λ_ _=>.inl (by simp)) ji⟩| ret=>exact⟨_,kf,kg,aN,.pass (x:=.inLoop c) rfl (λ_ _=>.inl (by simp)) ji⟩| panic GS=>exact⟨_,kf,kg,aN,.pass (x:=.inLoop c) rfl (λ_ _=>.inl (by simp)) ji⟩| outgrown=>exact⟨_,kf,kg,aN,.pass (x:=.inLoop c) rfl (λ_ _=>.inl (by simp)) ji⟩
 obtain⟨e,bO,w',aN,ji⟩:=key _ a w ag8;exact⟨e,bO,w',aN,.of_steps (.one (fenced_calm ag af rfl) stepR_loop) ji⟩
def rB{X:cV}(aQ:cU X.P X.E):∀ (c:Code) {F C I M K a w},codeOk X.n c=true->Rel X a w F C I M->V X c F C I M K->c.wpIn (g' X) 0 X.P (m7 X K) a w
 | .skip,F,C,I,M,K,a,w,_,aV,ah=>wpIn_skip ⟨F,C,I,M,aV,ah⟩
 | .label l,F,C,I,M,K,a,w,_,aV,ah=>by
  refine wpIn_label ?_;simp only[V]at ah;cases ay:Nat.ble 2 l with
  |false=>rw[ay]at ah;exact⟨F,C,I,M,aV,ah⟩
  |true=>
   rw[ay]at ah;simp only[cb]at ah;cases ah with
   |go h=>exact⟨F,C,I,M,aV,h⟩| ag7 l hw bG lB h=>obtain⟨β,af⟩:=aV;exact⟨_,_,_,_,⟨β,(af.cS bG lB).h5 hw⟩,h⟩
 | .ret,F,C,I,M,K,a,w,_,aV,ah=>wpIn_ret ⟨F,C,I,M,aV,ah⟩| .exit id,F,C,I,M,K,a,w,_,aV,ah=>wpIn_exit ⟨F,C,I,M,aV,ah⟩| .goto l,F,C,I,M,K,a,w,_,aV,ah=>wpIn_goto ⟨F,C,I,M,aV,ah⟩| .seq x y,F,C,I,M,K,a,w,bw,aV,ah=>by simp only[codeOk,cz]at bw;refine wpIn_seq (wpIn_mono (rB aQ x bw.1 aV ah) (m7.then ?_));rintro a w⟨dr,C',I',M',af,ae⟩;exact rB aQ y bw.2 af ae
 | .block id c,F,C,I,M,K,a,w,bw,aV,ah=>by
  refine wpIn_block (wpIn_mono (rB aQ c bw aV ah) ?_);intro e a w h;cases e with
  |exit j=>
   simp only[m7,V0]at h;simp only[Exit.inBlock];by_cases e:j=id;·subst e;simp only[rq,cb]at h;rw[bN rfl];exact h
   ·simp only[hE e,b5]at h;rw[bS e];exact h
  |_=>exact h
 | .cond c x y,F,C,I,M,K,a,w,bw,aV,ah=>by
  simp only[codeOk,cz]at bw;obtain⟨β,af⟩:=aV;simp only[V]at ah;split at ah
  ·rename_i b ag;have an:=O5 af.ao ag;refine wpIn_cond an ?_;cases b
   ·exact rB aQ y bw.2 ⟨β,af⟩ ah
   ·exact rB aQ x bw.1 ⟨β,af⟩ ah
  ·rename_i b ag;have an:=uR af.ao ag;refine wpIn_cond an ?_;obtain⟨aa,ab⟩:=ah;cases b
   ·exact rB aQ y bw.2 ⟨β,af⟩ (ab rfl)
   ·exact rB aQ x bw.1 ⟨β,af⟩ (aa rfl)
  ·exact ah.elim
 | .loop c,F,C,I,M,K,a,w,bw,aV,ah=>by
  have aF:=@rB X aQ c;simp only[V]at ah;have hinv:∀ {ι:Type} (aX:ι->wm) (inv:ι->Prop) (μ:ι->Nat) (start:mu I M->pP X.foot aX inv F C I M)
    (round:∀ i,inv i->V X c (rz (aX i).bj) (rA (aX i).cl) (aX i).cI (aX i).de (zp (λF C I M=>mu I M->pP X.foot aX (λj=>inv j/\μ j<μ i) F C I M) K)),(Code.loop c).wpIn (g' X) 0 X.P (m7 X K) a w:=by
   intro ι aX inv μ start round;let J (m:Nat) (a:Act) (w:World):Prop:=∃ i,inv i/\μ i=m/\Rel X a w (rz (aX i).bj) (rA (aX i).cl) (aX i).cI (aX i).de
   have zq:∀ {p:ι->Prop} {a w},(∀ i,p i->inv i)->Sat X (λF C I M=>mu I M->pP X.foot aX p F C I M) a w->∃ i,p i/\J (μ i) a w:=by rintro p a w aB⟨F,C,I,M,⟨β,af⟩,fJ⟩;obtain⟨j,qy,hw,bG,lB⟩:=fJ ⟨af.holds.d,af.holds.ca⟩;exact⟨j,qy,j,aB j qy,rfl,β,(af.cS bG lB).h5 hw⟩
   obtain⟨i0,_,BM⟩:=zq (λ_ h=>h) ⟨F,C,I,M,aV,start⟩;refine KD J BM ?_;rintro m a w⟨i,hi,rfl,af⟩;refine wpIn_mono (aF bw af (round i hi)) ?_;intro e a w h;cases e with
   |normal=>obtain⟨j,⟨ai,a1⟩,bl⟩:=zq (λ_ h=>h.1) h;exact⟨_,a1,bl⟩
   |_=>exact h
  cases ah with
  | @inv ι aX inv μ start round=>
   let J (m:Nat) (a:Act) (w:World):Prop:=∃ i,inv i/\μ i=m/\Rel X a w (rz (aX i).bj) (rA (aX i).cl) (aX i).cI (aX i).de
   have zq:∀ {p:ι->Prop} {a w},(∀ i,p i->inv i)->Sat X (pP X.foot aX p) a w->∃ i,p i/\J (μ i) a w:=by rintro p a w aB⟨F,C,I,M,⟨β,af⟩,⟨j,qy,hw,bG,lB⟩⟩;exact⟨j,qy,j,aB j qy,rfl,β,(af.cS bG lB).h5 hw⟩
   obtain⟨i0,_,BM⟩:=zq (λ_ h=>h) ⟨F,C,I,M,aV,start⟩;refine KD J BM ?_;rintro m a w⟨i,hi,rfl,af⟩;refine wpIn_mono (aF bw af (round i hi)) ?_;intro e a w h;cases e with
   |normal=>obtain⟨j,⟨ai,a1⟩,bl⟩:=zq (λ_ h=>h.1) h;exact⟨_,a1,bl⟩
   |_=>exact h
  |wo aX inv μ start round=>exact hinv aX inv μ start round
  |ag5 n h=>
   refine KD (λm a w=>Sat X (Pe (V X c) K m) a w) ⟨F,C,I,M,aV,h⟩ ?_;rintro m a w⟨F,C,I,M,af,ae⟩;cases m with
   |zero=>exact ae.elim
   |succ m=>
    refine wpIn_mono (aF bw af ae) ?_;intro e a w h;cases e with
    |normal=>exact⟨m,Bw m,h⟩| _=>exact h
 | .region id ops false,F,C,I,M,K,a,w,bw,aV,ah=>by refine wpIn_region ?_;have:=VZ (K:=K .normal) (Q:=m7 X K) aQ ops (λ_ _ h=>h) ops.toList 0 (by simp) (KB bw) aV ah;simpa[xH]using this
 | .region id ops true,F,C,I,M,K,a,w,bw,aV,⟨ah⟩=>ah a w aV| .rangeFunc f ps fp body,F,C,I,M,K,a,w,bw,aV,⟨ah⟩=>ah a w aV| .scope c,F,C,I,M,K,a,w,bw,aV,⟨ah⟩=>ah a w aV| .refuse _,F,C,I,M,K,a,w,bw,aV,ah=>ah.elim
def xX(args:List Value):Fr:=λt=>match args[t]? with
 |some v=>.val v| none=>.nO
def pQ(X:cV)(F:Fr)(C:dF)(I:aM)(M:List aE):List ResultVar->(List Value->Prop)->Prop
 |[],K=>K []
 | .tmp t::l,K=>match bF F (.tmp t)with
  | .val v=>pQ X F C I M l λvs=>K (v::vs)
  |_=>False
 | .cell t ty::l,K=>match dq F (.tmp t),X.E ty with
  | .ref s off,some i=>(match C s with
   |some cs=>bif Nat.ble (off+i.size) cs.length then pQ X F C I M l λvs=>K (pack i.bM.agg ((cs.drop off).take i.size)::vs)else False
   |none=>False)
  | .val (.pointer (some a)),some i=>aR I M a i.size λws=>pQ X F C I M l λvs=>K (pack i.bM.agg ws::vs)
  |_,_=>False
inductive wq(foot:List Nat)(I:aM)(M:List aE)(post:aM->List aE->Prop):Prop
 |mk(I':aM)(M':List aE)(hw:il foot I M I' M')(h:post I' M')
def uU(X:cV)(a2:List ResultVar)(post:Value->aM->List aE->Prop):ke:=λex F C I M=>
 let done:Prop:=pQ X F C I M a2 λvs=>match vs with
  |[v]=>wq X.foot I M (post v)| vs=>wq X.foot I M (post (.tuple vs.toArray))
 match ex with
 | .normal=>done| .ret=>done| _=>False
def D6(tmps:Array Value):ResultVar->Sem Value
 | .tmp t=>pure (tmps.getD t undef)| .cell a t=>do loadVar t (<-asAddr (tmps.getD a undef))
def aha(fn:Func)(tmps:Array Value):results fn tmps=(do let vs <-fn.results.mapM (D6 tmps);pure (if h:vs.size=1 then vs[0]else .tuple vs)):=by unfold results;congr 1
def KE{X:cV}(aQ:cU X.P X.E){β:Nat->Nat}{a:Act}{w:World}{F:Fr}{C:dF}{I:aM}{M:List aE}(h:cN X β a w F C I M):∀ {a2:List ResultVar} {K:List Value->Prop},pQ X F C I M a2 K -> ∃ vs,K vs/\(a2.mapM (D6 a.tmps)).run X.P w=.ok vs w
 |[],K,ah=>⟨[],ah,rfl⟩
 | .tmp t::l,K,ah=>by
  unfold pQ at ah;split at ah;·rename_i v aa;have aJ:a.tmps.getD t undef=v:=df h.ao aa;obtain⟨vs,ae,a4⟩:=KE aQ h ah;refine⟨_,ae,?_⟩;simp only[GA,D6,ct,c3,bY,a4,aJ]
  ·exact ah.elim
 | .cell t ty::l,K,ah=>by
  unfold pQ at ah;split at ah
  ·rename_i s off i aa hi;have aJ:a.tmps.getD t undef=.pointer (some ⟨β s,off,none⟩):=BB h.ao aa;split at ah
   ·rename_i cs au;cases bq:Nat.ble (off+i.size) cs.length with
    |false=>rw[bq]at ah;exact ah.elim| true=>rw[bq]at ah;obtain⟨vs,ae,a4⟩:=KE aQ h ah;have jh:=bI bq;obtain⟨T,bp⟩:=(h.cm s cs au).dX;have cn:=Ky (aQ _ _ hi) (a:=⟨β s,off,none⟩) rfl bp (vs:=(cs.drop off).take i.size) (by simp) (by simp;omega);refine⟨_,ae,?_⟩;simp only[GA,D6,ct,c3,bY,a4,aJ,asAddr,cn]
   ·exact ah.elim
  ·rename_i aU i aa hi;have aJ:a.tmps.getD t undef=.pointer (some aU):=uR h.ao aa;obtain⟨ws,⟨dO,cs,T,ao,ff,iU,ay⟩,ah⟩:=ah;obtain⟨vs,ae,a4⟩:=KE aQ h ah;have cn:=Ky (aQ _ _ hi) dO (ff.heap h.holds) iU ay;refine⟨_,ae,?_⟩;simp only[GA,D6,ct,c3,bY,a4,aJ,asAddr,cn]
  ·exact ah.elim
def ahb{X:cV}(aQ:cU X.P X.E){β:Nat->Nat}{F:Fr}{C:dF}{I:aM}{M:List aE}(h:cN X β a w F C I M){K:List Value->Prop}(ah:pQ X F C I M fn.results.toList K) :
  ∃ vs,K vs/\(results fn a.tmps).run X.P w=.ok (match vs with | [v]=>v | vs=>.tuple vs.toArray) w:=by
 obtain⟨vs,ae,e⟩:=KE aQ h ah;refine⟨vs,ae,?_⟩;rw[aha];have aJ:(fn.results.mapM (D6 a.tmps)).run X.P w=.ok vs.toArray w:=by rw[VG,Sem.run_map,e];rfl
 simp only[ct,aJ,bY,c3]
 match vs with
 |[]=>rfl| [v]=>rfl| u::v::l=>simp
def V1{sF:Fence}{n:Nat}{P:Program}{fn:Func}{tmps:Array Value}{R:Ending->World->Prop}:∀ (a2:List Nat) (w:World),a2.Nodup->(∀ r∈a2,w.heap[r]?=some (.deferred (some []))) -> (∀ w':World,w'.heap.size=w.heap.size->(∀ b,b ∉ a2->w'.heap[b]?=w.heap[b]?)->oQ w w'->∃ v,(results fn tmps).run P w'=.ok v w'/\R (.returned v) w')->LeavesInM sF n P fn tmps R (a2.map xN) .returning w
 |[],w,_,_,h=>h w rfl (λ_ _=>rfl) (.refl _)
 |r::a2,w,bH,af,h=>by
  rw[l5]at bH;refine⟨by simp,.inl ⟨r,_,rfl,run_takeDeferred (af r (by simp)),?_⟩⟩;refine V1 a2 _ bH.2 (λrC e6=>?_) λw' au ag aK=>h w' (by rw[au];simp) (λb D7=>?_) ((Kw _ _ _).trans aK);·have bs:rC≠r:=λe=>bH.1 (e ▸ e6);rw[nM bs];exact af rC (by simp[e6])
  ·simp only[eg,not_or]at D7;rw[ag b D7.2,nM D7.1]
def cN.take{X:cV}{β:Nat->Nat}{F:Fr}{C:dF}{I:aM}{M:List aE}(h:cN X β a w F C I M){a2:List Nat}(ei:∀ r∈a2,we X w I M r)(au:w'.heap.size=w.heap.size)(ag:∀ b,b ∉ a2->w'.heap[b]?=w.heap[b]?)(aK:oQ w w') :
  cN X β { a with defers:=[] } w' F C I M:=by
 exact {
  size:=h.size
  defers:=⟨[],rfl,DU,λr af=>by cases af⟩
  holds:={
   i:=λb o kc=>by rw[ag b (λaf=>by have:=(ei b af).ka;rw[kc]at this;cases this)];exact h.holds.i b o kc
   m:=λx ad=>by rw[ag _ (λaf=>(ei _ af).e5 x ad rfl)];exact h.holds.m x ad
   d:=h.holds.d
   ca:=h.holds.ca }
  ao:=h.ao
  cm:=λs cs nR=>by have rD:=h.cm s cs nR;obtain⟨T,bp⟩:=rD.dX;refine { rD with dX:=⟨T,?_⟩ };rw[ag _ (λaf=>by have:=(ei _ af).dX;rw[bp]at this;cases this)];exact bp
  inj:=h.inj
  im:=h.im
  hR:=h.hR
  own:=h.own
  dI:=λb a1 aA=>by rw[ag _ (λaf=>by have:=(ei _ af).cS;omega)];exact h.dI b a1 aA
  out:=h.out.trans aK
  sz:=by rw[au];exact h.sz
  fy:=h.fy }
def m7.ret{X:cV}(aQ:cU X.P X.E){post:Value->aM->List aE->Prop}
  (aV:∀ v I M (w:World) (a:Act) (F:Fr) (C:dF),Rel X a w F C I M->post v I M->R (.returned v) w):∀ e a w,m7 X (uU X fn.results.toList post) e a w->bodyPostM (g' X) 0 X.P fn R e a w:=by
 have main:∀ a w,Sat X (uU X fn.results.toList post .ret) a w->LeavesInM (g' X) 0 X.P fn a.tmps R a.defers .returning w:=by
  rintro a w⟨F,C,I,M,⟨β,af⟩,ae⟩;simp only[uU]at ae;obtain⟨a2,ak,bH,hm⟩:=af.defers;rw[ak];refine V1 a2 w bH (λr fE=>(hm r fE).dX) λw' au ag aK=>?_;have e6:=af.take hm au ag aK;obtain⟨vs,aB,fj⟩:=ahb aQ e6 ae;refine⟨_,fj,?_⟩
  match vs,aB with
  |[],⟨I',M',hw,aB⟩=>exact aV _ I' M' w' _ F C ⟨β,e6.h5 hw⟩ aB| [v],⟨I',M',hw,aB⟩=>exact aV _ I' M' w' _ F C ⟨β,e6.h5 hw⟩ aB| u::v::l,⟨I',M',hw,aB⟩=>exact aV _ I' M' w' _ F C ⟨β,e6.h5 hw⟩ aB
 intro e a w h;cases e with
 |normal=>exact main a w h| ret=>exact main a w h| exit id=>obtain⟨F,C,I,M,_,ae⟩:=h;exact ae.elim
 |goto l=>obtain⟨F,C,I,M,_,ae⟩:=h;exact ae.elim
 |panic _=>exact h.elim| outgrown=>exact h.elim
def ahc(aA:P.funcs[f]?=some fn)(ag:fn.body.isSome=true)(aC:(fn.name == "runtime.NumGoroutine")=false):O3 P f:=by
 intro args w;have jG:fn.body.isNone=false:=by cases h:fn.body<;>simp_all
 simp only[callFunc,ct,run_program,bY,aA,aC,lv,l6,jG];rfl
def Pf{E:Env}(gG:List Nat)(aQ:cU P E)(aA:P.funcs[f]?=some fn)(ag:fn.body=some c)(aC:(fn.name == "runtime.NumGoroutine")=false)
 (bw:(codeOk fn.ntmps c&&Nat.ble args.length fn.ntmps)=true) {I:aM} {M:List aE} {post:Value->aM->List aE->Prop}
  (h:∀ B az a w,Rel ⟨P,E,gG,fn.ntmps,B,az,I,M.map (·.num),none⟩ a w (xX args) (λ_=>none) I M->c.wpIn (g' ⟨P,E,gG,fn.ntmps,B,az,I,M.map (·.num),none⟩) 0 P (m7 ⟨P,E,gG,fn.ntmps,B,az,I,M.map (·.num),none⟩ (uU ⟨P,E,gG,fn.ntmps,B,az,I,M.map (·.num),none⟩ fn.results.toList post)) a w) :
  wc P f args I M post:=by
 rw[cz]at bw;have c1:=bI bw.2;refine⟨ahc aA (by rw[ag];rfl) aC,λw ly=>?_⟩;let X:cV:=⟨P,E,gG,fn.ntmps,w.heap.size,w,I,M.map (·.num),none⟩
 have GU:Rel X { tmps:=args.toArray++Array.replicate (fn.ntmps-args.toArray.size) undef,defers:=[] } w (xX args) (λ_=>none) I M:=⟨λ_=>0,{
  size:=by simp[X];omega
  defers:=⟨[],rfl,DU,λr af=>by cases af⟩
  holds:=ly
  ao:=λt=>by
   unfold xX;cases ax:args[t]? with
   |none=>trivial| some v=>have a1:t<args.length:=(ij.1 ax).1;simp only[e3,pM];rw[Array.getElem?_append_left (by simpa using a1)];simp[ax]
  cm:=λs cs au=>by cases au
  inj:=λs cf aa=>by simp at aa
  im:=λb o ag=>ag
  hR:=λb o ag=>.inl ag
  own:=λx ad=>.inl (cA.2 ⟨x,ad,rfl⟩)
  dI:=λb ag aA=>rfl
  out:=.refl _
  sz:=b2 _
  fy:=λx ad=>by
   obtain⟨y,aH,rfl⟩:=cA.1 ad;exact(l4.1 (ly.m y aH)).1 }⟩
 have KF:=h w.heap.size w _ _ GU;refine(callsIn_wide (n:=0)).1 ?_;have ahd:g' X=Fence.wide:=rfl;rw[ahd]at KF;refine callsIn_of_wp_marks aA ag trivial (wpIn_mono KF (m7.ret (X:=X) aQ ?_));rintro v I' M' w' bO dr C'⟨β,af⟩aB;refine⟨v,I',M',rfl,aB,af.holds,?_⟩;exact {
  le:=af.im
  uP:=af.hR
  wb:=λx ad=>by
   rcases af.own x ad with aa | aa;·obtain⟨y,aH,e⟩:=cA.1 aa;exact .inl ⟨y,aH,e⟩
   ·exact .inr aa
  dI:=λb ag bs=>af.dI b ag (λhm=>by
   obtain⟨y,aH,e⟩:=cA.1 hm;exact bs y aH e)
  out:=af.out
  sz:=af.sz }
def zr{E:Env}(gG:List Nat)(aQ:cU P E)(aA:P.funcs[f]?=some fn)(ag:fn.body=some c)(aC:(fn.name == "runtime.NumGoroutine")=false)
 (bw:(codeOk fn.ntmps c&&Nat.ble args.length fn.ntmps)=true) {I:aM} {M:List aE} {post:Value->aM->List aE->Prop}
  (h:∀ B az,V ⟨P,E,gG,fn.ntmps,B,az,I,M.map (·.num),none⟩ c (xX args) (λ_=>none) I M (uU ⟨P,E,gG,fn.ntmps,B,az,I,M.map (·.num),none⟩ fn.results.toList post)) :
  wc P f args I M post:=
 Pf gG aQ aA ag aC bw λB az a w af=>by rw[cz]at bw;exact rB aQ c bw.1 af (h B az)
def cg{E:Env}(gG:List Nat)(aQ:cU P E)(aA:P.funcs[f]?=some fn)(ag:fn.body=some c)(aC:(fn.name == "runtime.NumGoroutine")=false)
 (bw:(codeOk fn.ntmps c&&Nat.ble args.length fn.ntmps)=true) {I:aM} {M:List aE} {post:Value->aM->List aE->Prop}
  (h:∀ B az,V ⟨P,E,gG,fn.ntmps,B,az,I,M.map (·.num),none⟩ c (xX args) (λ_=>none) I M (uU ⟨P,E,gG,fn.ntmps,B,az,I,M.map (·.num),none⟩ fn.results.toList post)) :
  Spec P f args I M post:=.inl (zr gG aQ aA ag aC bw h)
def KG(X:cV)(a2:List ResultVar)(post:Value->aM->List aE->Prop):ke:=λex F C I M=>
 let done:Prop:=pQ X F C I M a2 λvs=>match vs with
  |[v]=>mu I M->wq X.foot I M (post v)| vs=>mu I M->wq X.foot I M (post (.tuple vs.toArray))
 match ex with
 | .normal=>done| .ret=>done| _=>False
def KH{X:cV}{F:Fr}{C:dF}{I:aM}{M:List aE}:∀ {a2:List ResultVar} {K zs:List Value->Prop},(∀ vs,K vs->zs vs)->pQ X F C I M a2 K->pQ X F C I M a2 zs
 |[],K,zs,h,ah=>h _ ah
 | .tmp t::l,K,zs,h,ah=>by
  unfold pQ at ah |-;split at ah;·exact KH (λvs=>h _) ah
  ·exact ah.elim
 | .cell t ty::l,K,zs,h,ah=>by
  unfold pQ at ah |-;split at ah
  ·rename_i s off i aa hi;split at ah
   ·rename_i cs au;cases bq:Nat.ble (off+i.size) cs.length with
    |false=>rw[bq]at ah;exact ah.elim| true=>rw[bq]at ah;exact KH (λvs=>h _) ah
   ·exact ah.elim
  ·obtain⟨ws,a8,ah⟩:=ah;exact⟨ws,a8,KH (λvs=>h _) ah⟩
  ·exact ah.elim
def m7.ahe{X:cV}{a2:List ResultVar}{post:Value->aM->List aE->Prop}:∀ e a w,m7 X (KG X a2 post) e a w->m7 X (uU X a2 post) e a w:=by
 have one:∀ a w,Sat X (KG X a2 post .ret) a w->Sat X (uU X a2 post .ret) a w:=by
  rintro a w⟨F,C,I,M,⟨β,af⟩,h⟩;refine⟨F,C,I,M,⟨β,af⟩,KH (λvs ah=>?_) h⟩;have fJ:mu I M:=⟨af.holds.d,af.holds.ca⟩
  match vs,ah with
  |[v],ah=>exact ah fJ| [],ah=>exact ah fJ| _::_::_,ah=>exact ah fJ
 intro e a w h;cases e with
 |normal=>exact one a w h| ret=>exact one a w h| exit id=>obtain⟨F,C,I,M,af,ae⟩:=h;exact ae.elim
 |goto l=>obtain⟨F,C,I,M,af,ae⟩:=h;exact ae.elim
 |panic _=>exact h| outgrown=>exact h
def ahf{E:Env}(gG:List Nat)(aQ:cU P E)(aA:P.funcs[f]?=some fn)(ag:fn.body=some c)(aC:(fn.name == "runtime.NumGoroutine")=false)
 (bw:(codeOk fn.ntmps c&&Nat.ble args.length fn.ntmps)=true) {I:aM} {M:List aE} {post:Value->aM->List aE->Prop}
  (h:∀ B az,V ⟨P,E,gG,fn.ntmps,B,az,I,M.map (·.num),none⟩ c (xX args) (λ_=>none) I M (KG ⟨P,E,gG,fn.ntmps,B,az,I,M.map (·.num),none⟩ fn.results.toList post)) :
  wc P f args I M post:=
 Pf gG aQ aA ag aC bw λB az a w af=>by rw[cz]at bw;exact wpIn_mono (rB aQ c bw.1 af (h B az)) m7.ahe
def zt{E:Env}(gG:List Nat)(aQ:cU P E)(aA:P.funcs[f]?=some fn)(ag:fn.body=some c)(aC:(fn.name == "runtime.NumGoroutine")=false)
 (bw:(codeOk fn.ntmps c&&Nat.ble args.length fn.ntmps)=true) {I:aM} {M:List aE} {post:Value->aM->List aE->Prop}
  (h:∀ B az,V ⟨P,E,gG,fn.ntmps,B,az,I,M.map (·.num),none⟩ c (xX args) (λ_=>none) I M (KG ⟨P,E,gG,fn.ntmps,B,az,I,M.map (·.num),none⟩ fn.results.toList post)) :
  Spec P f args I M post:=.inl (ahf gG aQ aA ag aC bw h)
def Pg:Value->Value->Bool
 | .bool a,.bool b=>a == b| .int k n,.int e9 m=>IntKind.m3 k e9&&decide (n=m)| .string s,.string t=>decide (s.data.toList=t.data.toList)| .pointer none,.pointer none=>true| .slice none 0 0,.slice none 0 0=>true| .map none,.map none=>true| .nilFunc,.nilFunc=>true| .nilIface,.nilIface=>true| _,_=>false
def ahg:∀ {a b:Value},Pg a b=true->a=b:=by
 intro a b h;unfold Pg at h;split at h
 ·simp at h;rw[h]
 ·simp only[cz,hq]at h;rw[IntKind.D2 h.1,h.2]
 ·rename_i s t;simp only[hq]at h;have:s=t:=by cases s;cases t;simp only[ByteArray.mk.injEq];exact gY h
  rw[this]
 all_goals first | rfl | cases h
def KI:List Value->List Value->Bool
 |[],[]=>true| a::as,b::bJ=>Pg a b&&KI as bJ| _,_=>false
def V2:∀ {a b:List Value},KI a b=true->a=b
 |[],[],_=>rfl| a::as,b::bJ,h=>by simp only[KI,cz]at h;rw[ahg h.1,V2 h.2]
 |[],_::_,h=>by cases h
 |_::_,[],h=>by cases h
def Ph(P:Program)(t:Nat)(i:dH):Bool:=
 (match P.info? t with
 |some inf=>decide (inf.size=i.size)&&decide (inf.bytes=i.bytes)&&(match inf.zero with
  |some z=>KI z.cells.toList i.zero| none=>false)
 |none=>false) &&
 (match P.underlying t with
 |some d=>decide (fw d=i.bM)| none=>false)&&gA i.zero&&decide (i.zero.length=i.size)&&(i.bM.agg||decide (i.size=1))
def ahh{t:Nat}{i:dH}(h:Ph P t i=true):kA P t i:=by
 simp only[Ph,cz]at h;obtain⟨⟨⟨⟨aa,ab⟩,aj⟩,aG⟩,bx⟩:=h;refine⟨?_,?_,zj aj,dB aG,λa6=>?_⟩
 ·split at aa
  ·rename_i inf hi;simp only[cz,hq]at aa;obtain⟨⟨aJ,a4⟩,cn⟩:=aa;split at cn
   ·rename_i z bb;exact⟨inf,z,hi,aJ,a4,bb,V2 cn⟩
   ·cases cn
  ·cases aa
 ·split at ab
  ·rename_i d ak;exact⟨d,ak,dB ab⟩
  ·cases ab
 ·rw[a6]at bx;simpa using bx
def ahi{E:Env}(n:Nat)(aC:∀ t,n<=t->E t=none)(h:((List.range n).all λt=>match E t with
  |some i=>Ph P t i| none=>true)=true):cU P E:=by
 intro t i hi;by_cases ax:t<n
 ·have:=fi.1 h t (g8.2 ax);rw[hi]at this;exact ahh this
 ·rw[aC t (by omega)]at hi;cases hi
end Go.V
namespace Go.V
variable{a:Act}{c:Code}{foot:List Nat}{P:Program}{f off T sz hQ e n m fI cM d' eh g9 k2 mr nN oP qu sD uN xJ By GB:Nat}{args vs z:List Value}{v:Value}{w' w:World}{cs:Array Value}{ao:Nat×Nat}{R:Ending->World->Prop}{next:Act->World->Prop}{aU:Addr}{gl:IntKind}{ops:Array Oper}{fn:Func}
def uV{F:Fr}:lA F [(fI,F fI),(cM,F cM)]:=.cons .refl (.cons .refl (.nil))
def ht{F:Fr}:lA F [(fI,F fI),(cM,F cM),(d',F d')]:=.cons .refl (.cons .refl (.cons .refl (.nil)))
def ej{F:Fr}:lA F [(fI,F fI),(cM,F cM),(d',F d'),(eh,F eh)]:=.cons .refl (.cons .refl (.cons .refl (.cons .refl (.nil))))
def hv{F:Fr}:lA F [(fI,F fI),(cM,F cM),(d',F d'),(eh,F eh),(g9,F g9)]:=.cons .refl (.cons .refl (.cons .refl (.cons .refl (.cons .refl (.nil)))))
def oX{F:Fr}:lA F [(fI,F fI),(cM,F cM),(d',F d'),(eh,F eh),(g9,F g9),(k2,F k2)]:=.cons .refl (.cons .refl (.cons .refl (.cons .refl (.cons .refl (.cons .refl (.nil))))))
def tB{F:Fr}:lA F [(fI,F fI),(cM,F cM),(d',F d'),(eh,F eh),(g9,F g9),(k2,F k2),(mr,F mr)]:=.cons .refl (.cons .refl (.cons .refl (.cons .refl (.cons .refl (.cons .refl (.cons .refl (.nil)))))))
def k5{F:Fr}:lA F [(fI,F fI),(cM,F cM),(d',F d'),(eh,F eh),(g9,F g9),(k2,F k2),(mr,F mr),(nN,F nN)]:=.cons .refl (.cons .refl (.cons .refl (.cons .refl (.cons .refl (.cons .refl (.cons .refl (.cons .refl (.nil))))))))
def kh{F:Fr}:lA F [(fI,F fI),(cM,F cM),(d',F d'),(eh,F eh),(g9,F g9),(k2,F k2),(mr,F mr),(nN,F nN),(oP,F oP)]:=.cons .refl (.cons .refl (.cons .refl (.cons .refl (.cons .refl (.cons .refl (.cons .refl (.cons .refl (.cons .refl (.nil)))))))))
def BN{F:Fr}:lA F [(fI,F fI),(cM,F cM),(d',F d'),(eh,F eh),(g9,F g9),(k2,F k2),(mr,F mr),(nN,F nN),(oP,F oP),(qu,F qu)]:=.cons .refl (.cons .refl (.cons .refl (.cons .refl (.cons .refl (.cons .refl (.cons .refl (.cons .refl (.cons .refl (.cons .refl (.nil))))))))))
def awj{F:Fr}:lA F [(fI,F fI),(cM,F cM),(d',F d'),(eh,F eh),(g9,F g9),(k2,F k2),(mr,F mr),(nN,F nN),(oP,F oP),(qu,F qu),(sD,F sD)]:=.cons .refl (.cons .refl (.cons .refl (.cons .refl (.cons .refl (.cons .refl (.cons .refl (.cons .refl (.cons .refl (.cons .refl (.cons .refl (.nil)))))))))))
def awk{F:Fr}:lA F [(fI,F fI),(cM,F cM),(d',F d'),(eh,F eh),(g9,F g9),(k2,F k2),(mr,F mr),(nN,F nN),(oP,F oP),(qu,F qu),(sD,F sD),(uN,F uN)]:=.cons .refl (.cons .refl (.cons .refl (.cons .refl (.cons .refl (.cons .refl (.cons .refl (.cons .refl (.cons .refl (.cons .refl (.cons .refl (.cons .refl (.nil))))))))))))
def V3{F:Fr}:lA F [(fI,F fI),(cM,F cM),(d',F d'),(eh,F eh),(g9,F g9),(k2,F k2),(mr,F mr),(nN,F nN),(oP,F oP),(qu,F qu),(sD,F sD),(uN,F uN),(xJ,F xJ)]:=.cons .refl (.cons .refl (.cons .refl (.cons .refl (.cons .refl (.cons .refl (.cons .refl (.cons .refl (.cons .refl (.cons .refl (.cons .refl (.cons .refl (.cons .refl (.nil)))))))))))))
def GV{F:Fr}:lA F [(fI,F fI),(cM,F cM),(d',F d'),(eh,F eh),(g9,F g9),(k2,F k2),(mr,F mr),(nN,F nN),(oP,F oP),(qu,F qu),(sD,F sD),(uN,F uN),(xJ,F xJ),(By,F By)]:=.cons .refl (.cons .refl (.cons .refl (.cons .refl (.cons .refl (.cons .refl (.cons .refl (.cons .refl (.cons .refl (.cons .refl (.cons .refl (.cons .refl (.cons .refl (.cons .refl (.nil))))))))))))))
def ahj{F:Fr}:lA F [(fI,F fI),(cM,F cM),(d',F d'),(eh,F eh),(g9,F g9),(k2,F k2),(mr,F mr),(nN,F nN),(oP,F oP),(qu,F qu),(sD,F sD),(uN,F uN),(xJ,F xJ),(By,F By),(GB,F GB)]:=.cons .refl (.cons .refl (.cons .refl (.cons .refl (.cons .refl (.cons .refl (.cons .refl (.cons .refl (.cons .refl (.cons .refl (.cons .refl (.cons .refl (.cons .refl (.cons .refl (.cons .refl (.nil)))))))))))))))
def awl{F:Fr}{V4:Nat}:lA F [(fI,F fI),(cM,F cM),(d',F d'),(eh,F eh),(g9,F g9),(k2,F k2),(mr,F mr),(nN,F nN),(oP,F oP),(qu,F qu),(sD,F sD),(uN,F uN),(xJ,F xJ),(By,F By),(GB,F GB),(V4,F V4)]:=.cons .refl (.cons .refl (.cons .refl (.cons .refl (.cons .refl (.cons .refl (.cons .refl (.cons .refl (.cons .refl (.cons .refl (.cons .refl (.cons .refl (.cons .refl (.cons .refl (.cons .refl (.cons .refl (.nil))))))))))))))))
end Go.V
