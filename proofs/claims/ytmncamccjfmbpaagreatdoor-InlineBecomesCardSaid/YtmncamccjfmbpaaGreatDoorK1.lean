/- Part 1 of what the proofs of this seat share: the executor, data in memory, walks.
-/
import Derived.WalkKit
import Derived.RangeFuncRecord
import Derived.OrdersIn
import Derived.Lib.UnsafeStr
set_option linter.all false
namespace Go.V
open Go
def bJ:=@Nat.le_of_ble_eq_true
def bV:=@Result.andThen_ok
def cz:=@Bool.and_eq_true
def dP:=@Nat.eq_of_beq_eq_true
def cB:=@List.mem_append
def b0:=@List.map_cons
def gg:=@List.take_succ_eq_append_getElem
def eV:=@List.drop_eq_getElem_cons
def cM:=@List.map_append
def dw:=@of_decide_eq_true
def ck:=@Sem.run_bind
def dx:=@List.length_cons
def ca:=@Nat.le_refl
def cN:=@List.mem_map
def b':=@cond_false
def c3:=@Sem.run_pure
def b5:=@cond_true
def ia:=@List.getElem?_eq_some_iff
def ec:=@List.mem_cons
def fy:=@List.all_eq_true
def g6:=@Int.toNat_natCast
def lK:=@Array.getElem?_eq_some_iff
def hV:=@decide_eq_true_eq
def bN:=@if_pos
def g7:=@List.mem_range
def bR:=@if_neg
def pi:=@Array.getD_eq_getD_getElem?
def nr:=@World.putObj_heap_other
def jH:=@List.getElem?_map
def jY:=@Option.some.injEq
def k7:=@List.getElem?_take
def k8:=@Bool.false_eq_true
def js:=@List.foldl_cons
def kk:=@Option.getD_some
def k9:=@Option.map_some
def gV:=@Array.ext'
def nX:=@List.getElem?_drop
def lL:=@List.nodup_cons
def sk:=@Option.map_eq_some_iff
def k':=@Nat.le_trans
def vK:=@Nat.mul_le_mul_right
def sm:=@Bool.eq_iff_iff
def uq:=@List.nodup_append
def xq:=@List.range_eq_range'
def Dt:=@Array.getElem?_setIfInBounds
def ur:=@Option.getD_none
def qb:=@Nat.add_zero
def uu:=@Nat.min_eq_left
def uv:=@Option.map_none
def te:=@Oper.wpIn_mono
def tf:=@Nat.add_assoc
def lM:=@if_false
def F7:=@List.getElem?_cons_succ
def vL:=@ByteArray.ext
def JN:=@Option.ne_none_iff_exists'
def A':=@Nat.lt_succ_self
def xr:=@List.all_cons
def Ba:=@World.alloc_eq
def JO:=@ByteArray.data_extract
def Oj:=@Array.getElem?_eq_getElem
def Du:=@List.nodup_nil
def F8:=@List.range'_succ
def pj:=@Ne.symm
def pk:=@if_true
def JP:=@Nat.lt_of_lt_of_le
def F9:=@List.mapM_cons
def Dv:=@Nat.add_comm
def Ok:=@List.toList_toArray
def Ol:=@Array.foldl_toList
def Om:=@Option.isSome_none
def U1:=@Array.mapM_eq_mapM_toList
def JQ:=@Oper.semAt_eq
variable{a:Act}{c:Code}{foot:List Nat}{P:Program}{f off T sz hH e n m fC cC dQ dT gu kM l5 nt oq qc sp uw xt Bb F':Nat}{args vs z:List Value}{v:Value}{w' w:World}{cs:Array Value}{al:Nat×Nat}{R:Ending->World->Prop}{next:Act->World->Prop}{aS:Addr}{gh:IntKind}{ops:Array Oper}{fn:Func}
inductive Ga where
 |other | int (k:IntKind) | bool | string | slice (e:Nat) | array (n e:Nat) | struct (cQ:List (Nat×Nat)) | map (k e:Nat) | pointer (e:Nat)
 deriving DecidableEq
def fm:TypeDesc->Ga
 | .int k=>.int k| .bool=>.bool| .string=>.string| .slice e=>.slice e| .array n e=>.array n e| .struct cQ=>.struct (cQ.toList.map λf=>(f.type,f.offset))| .map k e=>.map k e| .pointer e=>.pointer e| _=>.other
def Ga.agg:Ga->Bool
 | .struct _ | .array ..=>true| _=>false
structure dG where
 size:Nat
 bytes:Nat
 zero:List Value
 bL:Ga
structure kl(P:Program)(t:Nat)(i:dG):Prop where
 inf:∃ inf z,P.info? t=some inf/\inf.size=i.size/\inf.bytes=i.bytes/\inf.zero=some z/\z.cells.toList=i.zero
 fo:∃ d,P.underlying t=some d/\fm d=i.bL
 one:∀ v∈i.zero,v.oneCell'=true
 len:i.zero.length=i.size
 JR:i.bL.agg=false->i.size=1
abbrev Env:=Nat->Option dG
def cT(P:Program)(E:Env):Prop:=∀ t i,E t=some i->kl P t i
inductive dA where
 |val(v:Value)| lit (b:Bool)| ref (s off:Nat)| nu
abbrev Fr:=Nat->dA
abbrev dC:=Nat->Option (List Value)
abbrev aJ:=Nat->Option Obj
structure aD where
 num:Nat
 obj:Obj
abbrev gi:=Fr->dC->aJ->List aD->Prop
def fZ(F:Fr)(d:Nat)(x:dA):Fr:=λt=>bif Nat.beq t d then x else F t
def jt(C:dC)(d:Nat)(x:Option (List Value)):dC:=λt=>bif Nat.beq t d then x else C t
def qd(F:Fr)(d:Nat):Fr:=λt=>match F t with
 | .ref s o=>bif Nat.beq s d then .nu else .ref s o| x=>x
def put(o:Option Nat)(x:dA)(F:Fr):Fr:=match o with
 |some d=>fZ F d x| none=>F
def dk(F:Fr):Operand->dA
 | .tmp t=>F t| .const (.bool b)=>.lit b| .const v=>.val v| .global g=>.val (.pointer (some ⟨g,0,none⟩))| .func f=>.val (.func (.func f) #[] #[])
def dy(ρ:Operand->dA)(x:Operand):dA:=match ρ x with
 | .lit b=>.val (.bool b)| y=>y
abbrev bE(F:Fr):Operand->dA:=dy (dk F)
def pack(agg:Bool)(vs:List Value):Value:=bif agg then .agg vs.toArray else vs.headD undef
def cm(cs:List Value)(off:Nat)(vs:List Value):List Value:=cs.take off++vs++cs.drop (off+vs.length)
def gv(vs:List Value):Bool:=vs.all (·.oneCell')
def JS(c:Bool):dA->dA->dA
 | .val (.bool x),.val (.bool y)=>.val (.bool (bif c then x else y))| .val x,.val y=>.val (bif c then x else y)| _,_=>.nu
def xu(op:BinOp)(x y:Int):Option Bool:=match op with
 | .eql=>some (decide (x=y))| .neq=>some (!decide (x=y))| .lss=>some (decide (x<y))| .leq=>some (decide (x<=y))| .gtr=>some (decide (y<x))| .geq=>some (decide (y<=x))| _=>none
def ux(op:BinOp)(k:IntKind)(x y:Int):Option Int:=
 let a:=BitVec.ofInt k.bits x
 let b:=BitVec.ofInt k.bits y
 match op with
 | .and=>some (k.wrap (a &&& b).toNat)| .or=>some (k.wrap (a ||| b).toNat)| .xor=>some (k.wrap (a ^^^ b).toNat)| .andNot=>some (k.wrap (a &&& ~~~b).toNat)| _=>none
def ib(I:aJ)(M:List aD)(b:Nat)(o:Obj):Prop:=I b=some o\/∃ x∈M,x.num=b/\x.obj=o
def cF(I:aJ)(M:List aD)(a:Addr)(n:Nat)(vs:List Value):Prop:=
 a.spot=none/\∃ cs T al,ib I M a.block (.cells cs T al)/\(cs.toList.drop a.off).take n=vs/\vs.length=n
inductive aM(I:aJ)(M:List aD)(a:Addr)(n:Nat)(K:List Value->Prop):Prop
 |mk(vs:List Value)(h:cF I M a n vs)(k:K vs)
inductive b2(M:List aD)(a:Addr)(vs:List Value)(K:List aD->Prop):Prop
 |mk(a9 post:List aD)(cs:Array Value)(T:Nat)(a':M=a9++⟨a.block,.cells cs T (0,0)⟩::post)(ar:a.spot=none)(ag:a.off+vs.length<=cs.size)(aa:gv vs=true)(k:K (a9++⟨a.block,.cells (cm cs.toList a.off vs).toArray T (0,0)⟩::post))
inductive bX(I:aJ)(M:List aD)(K:Nat->Prop):Prop
 |mk(k:∀ b,I b=none->(∀ x∈M,x.num≠b)->K b)
inductive bd(a:Option Addr)(n sz:Nat)(k:Int)(K:Addr->Prop):Prop
 |mk(aS:Addr)(j:Nat)(a4:a=some aS)(ae:k=(j:Int))(ai:j<n)(h:K (aS.add (j*sz)))
inductive eG(n:Nat)(k:Int)(K:Nat->Prop):Prop
 |mk(j:Nat)(ae:k=(j:Int))(ai:j<n)(h:K j)
inductive Bc(s:ByteArray)(k:Int)(K:UInt8->Prop):Prop
 |mk(j:Nat)(ae:k=(j:Int))(ai:j<s.size)(h:K s[j])
inductive bg(k:IntKind)(n:Int)(K:Int->Prop):Prop
 |mk(r:Int)(h:k.wrap n=r)(bc:K r)
inductive Dw(y:Int)(K:Prop):Prop
 |mk(h:y≠0)(bc:K)
inductive xv(y:Int)(K:Nat->Prop):Prop
 |mk(j:Nat)(h:y=(j:Int))(bc:K j)
inductive a2(c:Bool)(X Y:Prop):Prop
 |mk(h:c=true->X)(bc:c=false->Y)
inductive mO(l c:Int)(bytes:Nat)(K:Nat->Nat->Prop):Prop
 |mk(n m:Nat)(ay:l=(n:Int))(an:c=(m:Int))(h:n<=m)(ag:bytes*m<=140737488355328)(hm:m<=9223372036854775807)(k:K n m)
inductive On(c:Nat)(hi mx:Int)(K:Nat->Nat->Prop):Prop
 |mk(h m:Nat)(gB:hi=(h:Int))(iu:mx=(m:Int))(aa:h<=m)(ab:m<=c)(k:K h m)
inductive l6(n c:Nat)(lo hi:Option Int)(K:Nat->Nat->Prop):Prop
 |mk(l h:Nat)(eS:lo.getD 0=(l:Int))(gB:hi.getD n=(h:Int))(aa:l<=h)(ab:h<=c)(k:K l h)
structure eE(I:aJ)(M:List aD)(w:World):Prop where
 i:∀ b o,I b=some o->w.heap[b]?=some o
 m:∀ x∈M,w.heap[x.num]?=some x.obj
 d:∀ x∈M,I x.num=none
 cd:(M.map (·.num)).Nodup
def ot(w w':World):Prop:=w'.os=w.os/\w'.output=w.output
def ot.refl(w:World):ot w w:=⟨rfl,rfl⟩
def ot.trans{a b c:World}(h:ot a b)(bc:ot b c):ot a c:=⟨bc.1.trans h.1,bc.2.trans h.2⟩
structure Kept(I:aJ)(M:List aD)(w:World)(I':aJ)(M':List aD)(w':World):Prop where
 le:∀ b o,I b=some o->I' b=some o
 uy:∀ b o,I' b=some o->I b=some o\/w.heap.size<=b
 vM:∀ x∈M',(∃ y∈M,y.num=x.num)\/w.heap.size<=x.num
 dH:∀ b,b<w.heap.size->(∀ y∈M,y.num≠b)->w'.heap[b]?=w.heap[b]?
 out:ot w w'
 sz:w.heap.size<=w'.heap.size
def Oo(P:Program)(f:Nat):Prop:=∀ (args:Array Value) (w:World),(callFunc f args).run P w=.ok (.enter f args) w
def vN(P:Program)(f:Nat)(args:List Value)(I:aJ)(M:List aD)(post:Value->aJ->List aD->Prop):Prop:=
 Oo P f/\∀ w,eE I M w->Calls P f args.toArray w λe w'=>∃ v I' M',e=.returned v/\post v I' M'/\eE I' M' w'/\Kept I M w I' M' w'
def afN(P:Program)(f:Nat)(args:List Value)(I:aJ)(M:List aD)(post:Value->aJ->List aD->Prop):Prop:=
 ∀ w,eE I M w->∃ v w' I' M',(callFunc f args.toArray).run P w=.ok (.value v) w'/\post v I' M'/\eE I' M' w'/\Kept I M w I' M' w'
def Spec(P:Program)(f:Nat)(args:List Value)(I:aJ)(M:List aD)(post:Value->aJ->List aD->Prop):Prop:=vN P f args I M post\/afN P f args I M post
def ins(I:aJ)(b:Nat)(o:Obj):aJ:=λx=>bif Nat.beq x b then some o else I x
inductive ic(foot:List Nat):aJ->List aD->aJ->List aD->Prop
 |refl{I M}:ic foot I M I M| sub {I M M1 I' M'} (h:List.Sublist M1 M) (k:ic foot I M1 I' M'):ic foot I M I' M'| perm {I M M1 I' M'} (h:M.Perm M1) (k:ic foot I M1 I' M'):ic foot I M I' M'| kN {I M I' M' b o post} (h:M=⟨b,o⟩::post) (aA:b ∉ foot) (k:ic foot (ins I b o) post I' M'):ic foot I M I' M'
structure l7(I:aJ)(M:List aD):Prop where
 d:∀ x∈M,I x.num=none
 cd:(M.map (·.num)).Nodup
inductive be(foot:List Nat)(P:Program)(f:Nat)(args:List Value)(I:aJ)(M:List aD)(K:Value->aJ->List aD->Prop):Prop
 |mk(eo Mr:List aD)(post:Value->aJ->List aD->Prop)(a':M.Perm (eo++Mr))(ar:Spec P f args I eo post)(k:∀ v I' M',(∀ b o,I b=some o->I' b=some o)->post v I' M'->K v I' (M'++Mr))| y1 (eo Mr:List aD) (post:Value->aJ->List aD->Prop) (a':M.Perm (eo++Mr)) (ar:Spec P f args I eo post) (k:∀ v I' M',(∀ b o,I b=some o->I' b=some o)->(∀ x∈M'++Mr,I' x.num=none)->post v I' M'->K v I' (M'++Mr))| Dx (I1:aJ) (eo Mr:List aD) (post:Value->aJ->List aD->Prop) (hw:ic foot I M I1 (eo++Mr)) (ar:Spec P f args I1 eo post) (k:∀ v I' M',(∀ b o,I1 b=some o->I' b=some o)->(∀ x∈M'++Mr,I' x.num=none)->post v I' M'->K v I' (M'++Mr))| Gb (h:l7 I M->be foot P f args I M K)
def be.elim{I:aJ}{M:List aD}{K:Value->aJ->List aD->Prop}(fD:l7 I M)(h:be foot P f args I M K) :
  ∃ (I1:aJ) (eo Mr:List aD) (post:Value->aJ->List aD->Prop),ic foot I M I1 (eo++Mr)/\Spec P f args I1 eo post/\∀ v I' M',(∀ b o,I1 b=some o->I' b=some o)->(∀ x∈M'++Mr,I' x.num=none)->post v I' M'->K v I' (M'++Mr):=by
 induction h with
 |mk eo Mr post a' ar k=>exact⟨I,eo,Mr,post,.perm a' .refl,ar,λv I' M' aa _ ab=>k v I' M' aa ab⟩| y1 eo Mr post a' ar k=>exact⟨I,eo,Mr,post,.perm a' .refl,ar,k⟩| Dx I1 eo Mr post hw ar k=>exact⟨I1,eo,Mr,post,hw,ar,k⟩| Gb h aL=>exact aL fD
structure cU where
 P:Program
 E:Env
 gC:List Nat
 n:Nat
 B:Nat
 az:World
 dn:aJ
 foot:List Nat
 ro:Option Nat
def g8(X:cU):Fence:={ Fence.wide with round:=X.ro }
def eT(β:Nat->Nat):dA->Value->Prop
 | .val v,u=>u=v| .lit b,u=>u=.bool b| .ref s off,u=>u=.pointer (some ⟨β s,off,none⟩)| .nu,_=>True
structure xw(X:cU)(w:World)(I:aJ)(M:List aD)(b:Nat)(cs:List Value):Prop where
 dU:∃ T,w.heap[b]?=some (.cells cs.toArray T (0,0))
 cR:X.B<=b
 jZ:I b=none
 eW:∀ x∈M,x.num≠b
structure vO(X:cU)(w:World)(I:aJ)(M:List aD)(r:Nat):Prop where
 dU:w.heap[r]?=some (.deferred (some []))
 cR:X.B<=r
 jZ:I r=none
 eW:∀ x∈M,x.num≠r
def xx(r:Nat):Deferred:={ target:=.collected r,args:=#[] }
def Marks(X:cU)(a:Act)(w:World)(I:aJ)(M:List aD):Prop:=∃ a0:List Nat,a.defers=a0.map xx/\a0.Nodup/\∀ r∈a0,vO X w I M r
structure cK(X:cU)(β:Nat->Nat)(a:Act)(w:World)(F:Fr)(C:dC)(I:aJ)(M:List aD):Prop where
 size:a.tmps.size=X.n
 defers:Marks X a w I M
 holds:eE I M w
 al:∀ t,eT β (F t) (a.tmps.getD t undef)
 cf:∀ s cs,C s=some cs->xw X w I M (β s) cs
 inj:∀ s b3,C s≠none->C b3≠none->β s=β b3->s=b3
 ie:∀ b o,X.dn b=some o->I b=some o
 hI:∀ b o,I b=some o->X.dn b=some o\/X.B<=b
 own:∀ x∈M,x.num∈X.foot\/X.B<=x.num
 dH:∀ b,b<X.B->b ∉ X.foot->w.heap[b]?=X.az.heap[b]?
 out:ot X.az w
 sz:X.B<=w.heap.size
 fp:∀ x∈X.foot,x<X.B
def Rel(X:cU)(a:Act)(w:World)(F:Fr)(C:dC)(I:aJ)(M:List aD):Prop:=∃ β,cK X β a w F C I M
def Sat(X:cU)(K:gi)(a:Act)(w:World):Prop:=∃ F C I M,Rel X a w F C I M/\K F C I M
inductive bz(X:cU)(o:Oper)(F:Fr)(C:dC)(I:aJ)(M:List aD)(K:gi):Prop
 |mk(h:∀ a w Q,Rel X a w F C I M->o.wpIn (g8 X) 0 X.P a w (Sat X K) Q)
def j0(ρ:Operand->dA):List Operand->Option (List Value)
 |[]=>some []
 |x::xs=>match dy ρ x,j0 ρ xs with
  | .val v,some vs=>some (v::vs)| _,_=>none
abbrev mP(F:Fr):List Operand->Option (List Value):=j0 (dk F)
def tg(place:Nat->Option (Nat×Nat))(cells:List Value):List (Nat×Value)->Option (List Value)
 |[]=>some cells
 |(i,v)::bj=>match place i with
  |none=>none| some (off,size)=>bif Nat.beq v.cells.size size&&Nat.ble (off+size) cells.length then tg place (cm cells off v.cells.toList) bj else none
def th(ρ:Operand->dA):List (Nat×Operand)->Option (List (Nat×Value))
 |[]=>some []
 |(i,x)::xs=>match dy ρ x,th ρ xs with
  | .val v,some vs=>some ((i,v)::vs)| _,_=>none
abbrev Bd(F:Fr):List (Nat×Operand)->Option (List (Nat×Value)):=th (dk F)
def places(E:Env)(cQ:List (Nat×Nat))(i:Nat):Option (Nat×Nat):=match cQ[i]? with
 |some (fp,off)=>match E fp with
  |some hj=>some (off,hj.size)| none=>none
 |none=>none
def Dy(E:Env)(cQ:List (Nat×Nat)):Bool:=cQ.all λf=>(E f.1).isSome
def rowOf(zero:List Value)(n:Nat):List Value:=(List.range n).map λi=>zero[i%zero.length]!
def vP(zero:List Value)(n:Nat):rowOf zero n=(madeCells zero.toArray n).toList:=by simp[rowOf,madeCells]
def IntKind.mQ:IntKind->IntKind->Bool
 | .i8,.i8 | .i16,.i16 | .i32,.i32 | .i64,.i64 | .u8,.u8 | .u16,.u16 | .u32,.u32 | .u64,.u64=>true| _,_=>false
def lN(op:BinOp)(c7:Option dG)(x y:dA)(K:Value->Prop)(other:Prop):Prop:=
 match x,y with
 | .val (.int k a),.val (.int eZ b)=>
  match op with
  | .shl=>xv b λj=>bg k (a*2^(min j k.bits)) λr=>K (.int k r)
  | .shr=>xv b λj=>K (.int k (a.fdiv (2^(min j k.bits))))
  |op=>bif IntKind.mQ k eZ then
    (match op with
    | .add=>bg k (a+b) λr=>K (.int k r)
    | .sub=>bg k (a-b) λr=>K (.int k r)
    | .mul=>bg k (a*b) λr=>K (.int k r)
    | .quo=>Dw b (bg k (a.tdiv b) λr=>K (.int k r))| .rem=>Dw b (K (.int k (a.tmod b)))
    | .and | .or | .xor | .andNot=>(match ux op k a b with
     |some r=>K (.int k r)| none=>False)
    |op=>(match xu op a b with
     |some r=>K (.bool r)| none=>False))
   else False
 | .val (.string a),.val (.string b)=>
  match op with
  | .eql=>K (.bool (decide (a=b)))| .neq=>K (.bool (!decide (a=b)))| _=>other
 | .val (.bool a),.val (.bool b)=>
  match c7 with
  |some { bL:=.bool,.. }=>
   (match op with
   | .eql=>K (.bool (a == b))| .neq=>K (.bool (!(a == b)))| _=>other)
  |_=>other
 |_,_=>other
inductive gw(P:Program)(op:BinOp)(t:Nat)(x y:Operand)(p q:dA)(K:Value->Prop)(other:Prop):Prop
 |mk(mR e0 v:Value)(aC:p=.val mR)(aR:q=.val e0)(h:∀ w,(do eqGuard op t x y mR e0;binOp op t mR e0:Sem Value).run P w=.ok v w)(k:K v)| other (h:other)
def cG(X:cU)(op:Op)(ρ:Operand->dA)(C:dC)(I:aJ)(M:List aD)(V:dA->Prop)(other:Prop):Prop:=
 match op with
 | .move x | .assign x=>V (ρ x)
 | .pick c a b=>
  match ρ c with
  | .lit c=>V (bif c then ρ a else ρ b)| .val (.bool c)=>V (JS c (dy ρ a) (dy ρ b))| _=>False
 | .unOp op _ x=>
  match op,ρ x with
  | .not,.lit b=>V (.lit (!b))| .not,.val (.bool b)=>V (.val (.bool (!b)))| .neg,.val (.int k n)=>bg k (0-n) λr=>V (.val (.int k r))
  |_,_=>other
 | .binOp op t x y _=>lN op (X.E t) (dy ρ x) (dy ρ y) (λv=>V (.val v)) (gw X.P op t x y (dy ρ x) (dy ρ y) (λv=>V (.val v)) other)
 | .load t x=>
  match X.E t with
  |some i=>
   (match ρ x with
   | .ref s off=>
    (match C s with
    |some cs=>bif Nat.ble (off+i.size) cs.length then V (.val (pack i.bL.agg ((cs.drop off).take i.size)))else False| none=>False)
   | .val (.pointer (some a))=>aM I M a i.size λvs=>V (.val (pack i.bL.agg vs))
   |_=>False)
  |none=>False
 | .nilCheck x=>
  match ρ x with
  | .ref s off=>V (.ref s off)| .val (.pointer (some a))=>V (.val (.pointer (some a)))| _=>other
 | .fieldAddr t x i=>
  match X.E t with
  |some { bL:=.struct cQ,.. }=>
   (match cQ[i]? with
   |some (fp,off)=>
    (match X.E fp,ρ x with
    |some hj,.ref s o'=>bif Nat.beq hj.size 0 then False else V (.ref s (o'+off))| some hj,.val (.pointer (some a))=>bif Nat.beq hj.size 0 then False else V (.val (.pointer (some (a.add off))))| _,_=>False)
   |none=>False)
  |_=>False
 | .field t x i=>
  match X.E t,dy ρ x with
  |some { bL:=.struct cQ,.. },.val (.agg cs)=>
   (match cQ[i]? with
   |some (fp,off)=>
    (match X.E fp with
    |some hj=>bif Nat.ble (off+hj.size) cs.size then V (.val (pack hj.bL.agg ((cs.toList.drop off).take hj.size)))else False| none=>False)
   |none=>False)
  |_,_=>False
 | .indexAddr t x i=>
  match X.E t,dy ρ i with
  |some { bL:=.slice e,.. },.val (.int _ k)=>
   (match X.E e,dy ρ x with
   |some aF,.val (.slice a n _)=>bd a n aF.size k λaS=>V (.val (.pointer (some aS)))
   |_,_=>False)
  |some { bL:=.array n e,.. },.val (.int _ k)=>
   (match X.E e,ρ x with
   |some aF,.ref s o'=>eG n k λj=>V (.ref s (o'+j*aF.size))
   |some aF,.val (.pointer (some a))=>eG n k λj=>V (.val (.pointer (some (a.add (j*aF.size)))))
   |_,_=>False)
  |_,_=>False
 | .index t x i=>
  match X.E t,dy ρ x,dy ρ i with
  |some { bL:=.string,.. },.val (.string s),.val (.int _ k)=>Bc s k λb=>V (.val (.int .u8 b.toNat))
  |some { bL:=.array n e,.. },.val (.agg cs),.val (.int _ k)=>
   (match X.E e with
   |some aF=>bif Nat.beq (n*aF.size) cs.size then eG n k λj=>V (.val (pack aF.bL.agg ((cs.toList.drop (j*aF.size)).take aF.size)))else False
   |none=>False)
  |_,_,_=>False
 | .build t parts=>
  match X.E t,th ρ parts.toList with
  |some i,some vs=>
   (match i.bL with
   | .struct cQ=>bif Dy X.E cQ then(match tg (places X.E cQ) i.zero vs with
    |some cells=>V (.val (.agg cells.toArray))| none=>False)else False
   | .array _ e=>(match X.E e with
    |some aF=>(match tg (λj=>some (j*aF.size,aF.size)) i.zero vs with
     |some cells=>V (.val (.agg cells.toArray))| none=>False)
    |none=>False)
   |_=>False)
  |_,_=>False
 | .makeFunc fn first captured=>
  match j0 ρ first.toList,j0 ρ captured.toList with
  |some cQ,some cs=>V (.val (.func fn cQ.toArray cs.toArray))| _,_=>False
 | .slice t x lo hi mx=>
  match X.E t,dy ρ x,mx.map (dy ρ)with
  |some { bL:=.slice e,.. },.val (.slice a n c),none=>
   (match X.E e,lo.map (dy ρ),hi.map (dy ρ)with
   |some aF,none,none=>V (.val (.slice a n c))| some aF,none,some (.val (.int _ h))=>l6 n c none (some h) λ_ h=>V (.val (.slice a h c))
   |some aF,some (.val (.int _ l)),none=>l6 n n (some l) none λl _=>V (.val (.slice (if c=l then a else a.map (·.add (l*aF.size))) (n-l) (c-l)))
   |some aF,some (.val (.int _ l)),some (.val (.int _ h))=>l6 n c (some l) (some h) λl h=>V (.val (.slice (if c=l then a else a.map (·.add (l*aF.size))) (h-l) (c-l)))
   |_,_,_=>False)
  |some { bL:=.string,.. },.val (.string s),none=>
   (match lo.map (dy ρ),hi.map (dy ρ)with
   |none,none=>V (.val (.string s))| none,some (.val (.int _ h))=>l6 s.size s.size none (some h) λ_ h=>V (.val (.string (s.extract 0 h)))
   |some (.val (.int _ l)),none=>l6 s.size s.size (some l) none λl _=>V (.val (.string (s.extract l s.size)))
   |some (.val (.int _ l)),some (.val (.int _ h))=>l6 s.size s.size (some l) (some h) λl h=>V (.val (.string (s.extract l h)))
   |_,_=>False)
  |some { bL:=.slice e,.. },.val (.slice a _ c),some (.val (.int _ m))=>
   (match X.E e,lo.map (dy ρ),hi.map (dy ρ)with
   |some aF,none,some (.val (.int _ h))=>On c h m λh m=>V (.val (.slice (if m=0 then a else a.map (·.add (0*aF.size))) (h-0) (m-0)))
   |_,_,_=>other)
  |_,_,_=>other
 | .extract x i=>
  match dy ρ x with
  | .val (.tuple vs)=>(match vs.toList[i]? with
   |some v=>V (.val v)| none=>False)
  |_=>False
 | .convert s d x=>
  match X.E s,X.E d,dy ρ x with
  |some _,some { bL:=.int k,.. },.val (.int _ n)=>bg k n λr=>V (.val (.int k r))
  |_,_,_=>other
 | .call { callee:=.builtin .len,args,argTypes }=>
  match argTypes.toList,j0 ρ args.toList with
  |[t],some [v]=>
   (match X.E t,v with
   |some { bL:=.slice _,.. },.slice _ n _=>V (.val (.int .i64 n))| some { bL:=.string,.. },.string s=>V (.val (.int .i64 s.size))| some { bL:=.array n _,.. },_=>V (.val (.int .i64 n))| _,_=>other)
  |_,_=>other
 | .call { callee:=.builtin .cap,args,argTypes }=>
  match argTypes.toList,j0 ρ args.toList with
  |[t],some [v]=>
   (match X.E t,v with
   |some { bL:=.slice _,.. },.slice _ _ c=>V (.val (.int .i64 c))| _,_=>other)
  |_,_=>other
 | .call { callee:=.builtin .max,args,.. }=>
  match j0 ρ args.toList with
  |some [.int k a,.int _ b]=>V (.val (.int k (max a b)))| _=>other
 | .call { callee:=.builtin .min,args,.. }=>
  match j0 ρ args.toList with
  |some [.int k a,.int _ b]=>V (.val (.int k (min a b)))| _=>other
 | .call { callee:=.builtin .unsafeSliceData,args,.. }=>
  match j0 ρ args.toList with
  |some [.slice none _ _]=>V (.val (.pointer none))| some [.slice (some a) _ c]=>Dw c (V (.val (.pointer (some a))))| _=>other
 |_=>other
def gW(X:cU)(o:Oper)(F:Fr)(C:dC)(I:aJ)(M:List aD)(K:gi):Prop:=
 match o.op with
 | .box t x=>
  match o.dst,bE F x with
  |some d,.val v=>
   bif X.gC.contains d then bX I M λb=>K (fZ (qd F d) d (.val (.pointer (some ⟨b,0,none⟩)))) (jt C d none) I (⟨b,.cells v.cells t (0,0)⟩::M)
   else K (fZ (qd F d) d (.ref d 0)) (jt C d (some v.cells.toList)) I M
  |_,_=>False
 | .alloc t=>
  match o.dst,X.E t with
  |some d,some i=>
   bif X.gC.contains d then bX I M λb=>K (fZ (qd F d) d (.val (.pointer (some ⟨b,0,none⟩)))) (jt C d none) I (⟨b,.cells i.zero.toArray t (0,0)⟩::M)
   else K (fZ (qd F d) d (.ref d 0)) (jt C d (some i.zero)) I M
  |_,_=>False
 | .store t x y=>
  match o.dst,X.E t,bE F y with
  |none,some i,.val v=>
   (match dk F x with
   | .ref s off=>
    (match C s with
    |some cs=>bif Nat.ble (off+i.size) cs.length&&(Nat.beq v.cells.size i.size&&gv v.cells.toList)then K F (jt C s (some (cm cs off v.cells.toList))) I M else False| none=>False)
   | .val (.pointer (some a))=>bif Nat.beq v.cells.size i.size then b2 M a v.cells.toList λM'=>K F C I M' else False
   |_=>False)
  |_,_,_=>False
 | .buildSlice t len parts=>
  match X.E t,Bd F parts.toList with
  |some { bL:=.slice e,.. },some vs=>
   (match X.E e with
   |some aF=>
    bif Nat.ble (len*aF.size) 16777216&&Nat.blt 0 (len*aF.size)then
     (match tg (λj=>some (j*aF.size,aF.size)) (rowOf aF.zero (len*aF.size)) vs with
     |some cells=>bX I M λb=>K (put o.dst (.val (.slice (some ⟨b,0,none⟩) len len)) F) C I (⟨b,.cells cells.toArray e (0,0)⟩::M)
     |none=>False)
    else(match len,vs with
     |0,[]=>bX I M λb=>K (put o.dst (.val (.slice (some ⟨b,0,none⟩) 0 0)) F) C I (⟨b,.cells #[] e (0,0)⟩::M)
     |_,_=>False)
   |none=>False)
  |_,_=>False
 | .makeSlice t l c=>
  match X.E t,bE F l,bE F c with
  |some { bL:=.slice e,.. },.val (.int _ l),.val (.int _ c)=>
   (match X.E e with
   |some aF=>mO l c aF.bytes λn m=>bX I M λb=>K (put o.dst (.val (.slice (some ⟨b,0,none⟩) n m)) F) C I (⟨b,.cells (rowOf aF.zero (m*aF.size)).toArray e (0,0)⟩::M)
   |none=>False)
  |_,_,_=>False
 | .call { callee:=.value f,args,.. }=>
  match bE F f,mP F args.toList with
  | .val (.func (.func g) first cap),some vs=>be X.foot X.P g (first.toList++vs++cap.toList) I M λv I' M'=>K (put o.dst (.val v) F) C I' M'
  |_,_=>bz X o F C I M K
 |op=>cG X op (dk F) C I M (λx=>K (put o.dst x F) C I M) (bz X o F C I M K)
inductive ct(c b:Bool)(Y N:Prop):Prop
 |mk(h:c=b->Y)(bc:c=!b->N)
def uz(X:cU)(ops:List Oper):List Oper->Fr->dC->aJ->List aD->gi->Prop
 |[],F,C,I,M,K=>K F C I M
 |o::bj,F,C,I,M,K=>
  match o.guard with
  |none=>gW X o F C I M λF C I M=>uz X ops bj F C I M K
  |some (j,b)=>
   match(ops[j]?).bind (·.dst)with
   |none=>False
   |some d=>
    match F d with
    | .lit c=>bif c == b then gW X o F C I M λF C I M=>uz X ops bj F C I M K else uz X ops bj (put o.dst (.val undef) F) C I M K
    | .val (.bool c)=>ct c b (gW X o (fZ F d (.lit b)) C I M λF C I M=>uz X ops bj F C I M K) (uz X ops bj (put o.dst (.val undef) (fZ F d (.lit !b))) C I M K)| .val (.tuple _)=>uz X ops bj (put o.dst (.val undef) F) C I M K| _=>False
def hs{a b:Nat}(h:¬ a=b):Nat.beq a b=false:=by
 cases ag:Nat.beq a b with
 |false=>rfl| true=>exact absurd (dP ag) h
def q5(a:Nat):Nat.beq a a=true:=Nat.beq_refl a
def Gc(w:World)(o:Obj){i:Nat}(h:i<w.heap.size):(w.alloc o).heap[i]?=w.heap[i]?:=by show(w.heap.push o)[i]?=_;simp[Array.getElem?_push,Nat.ne_of_lt h]
def Oq(w:World)(o:Obj):(w.alloc o).heap[w.heap.size]?=some o:=by show(w.heap.push o)[w.heap.size]?=_;simp
section
variable{X:cU}{β:Nat->Nat}{a:Act}{w:World}{F:Fr}{C:dC}{I:aJ}{M:List aD}{o:Oper}{Q:Exit->Act->World->Prop}{next:Act->World->Prop}{K:gi}
def xy(h:∀ t,eT β (F t) (a.tmps.getD t undef))(x:Operand):eT β (dk F x) (a.eval x):=by
 cases x with
 |tmp t=>exact h t| const v=>cases v<;>exact rfl
 |global g=>exact rfl| func f=>exact rfl
def dd(h:∀ t,eT β (F t) (a.tmps.getD t undef)){x:Operand}(ad:bE F x=.val v):a.eval x=v:=by
 have aa:=xy h x;unfold bE dy at ad;split at ad
 ·rename_i b ag;rw[ag]at aa;cases ad;exact aa
 ·rw[ad]at aa;exact aa
def uA(h:∀ t,eT β (F t) (a.tmps.getD t undef)){x:Operand}(ad:dk F x=.val v):a.eval x=v:=by have aa:=xy h x;rw[ad]at aa;exact aa
def Ot(h:∀ t,eT β (F t) (a.tmps.getD t undef)){x:Operand}{b:Bool}(ad:dk F x=.lit b):a.eval x=.bool b:=by have aa:=xy h x;rw[ad]at aa;exact aa
def Be(h:∀ t,eT β (F t) (a.tmps.getD t undef)){x:Operand}{s:Nat}(ad:dk F x=.ref s off):a.eval x=.pointer (some ⟨β s,off,none⟩):=by have aa:=xy h x;rw[ad]at aa;exact aa
def U2(h:∀ t,eT β (F t) (a.tmps.getD t undef))(x:Operand):eT β (bE F x) (a.eval x):=by
 have aa:=xy h x;unfold bE dy;split
 ·rename_i b ag;rw[ag]at aa;exact aa
 ·exact aa
def ti(h:∀ t,eT β (F t) (a.tmps.getD t undef)):∀ {xs:List Operand} {vs:List Value},mP F xs=some vs->xs.map a.eval=vs
 |[],vs,ad=>by simp[mP,j0]at ad;simp[ad]
 |x::xs,vs,ad=>by
  unfold mP j0 at ad;split at ad;·rename_i v tj aa ab;cases ad;simp[dd h aa,ti h ab]
  ·cases ad
def JT(h:∀ t,eT β (F t) (a.tmps.getD t undef)):∀ {xs:List (Nat×Operand)} {vs:List (Nat×Value)},Bd F xs=some vs->(xs.map λ(i,x)=>(i,a.eval x))=vs
 |[],vs,ad=>by simp[Bd,th]at ad;simp[ad]
 |(i,x)::xs,vs,ad=>by
  unfold Bd th at ad;split at ad;·rename_i v tj aa ab;cases ad;simp[dd h aa,JT h ab]
  ·cases ad
def iY(bF:∀ c,o.op≠.defer c)(h:(execOp a.eval o).run X.P w=.ok (.value v) w')(ae:next (a.put o.dst v) w'):o.wpIn (g8 X) 0 X.P a w next Q:=
 ⟨λ_ _=>trivial,by rw[JQ _ _ _ bF,h];exact ae⟩
def Dz(bF:∀ c,o.op≠.defer c)(h:(execOp a.eval o).run X.P w=.ok .skip w')(ae:next (a.put o.dst undef) w'):o.wpIn (g8 X) 0 X.P a w next Q:=
 ⟨λ_ _=>trivial,by rw[JQ _ _ _ bF,h];exact ae⟩
def U3(a:Act)(d t:Nat)(v:Value)(ak:d<a.tmps.size):(a.put (some d) v).tmps.getD t undef=if t=d then v else a.tmps.getD t undef:=by
 simp only[Act.put,pi,Dt];by_cases h:t=d
 ·subst h;simp[ak]
 ·simp[h,pj h]
def Ou(h:∀ t,eT β (F t) (a.tmps.getD t undef)){d:Nat}{x:dA}(ak:d<a.tmps.size)(ad:eT β x v)(t:Nat):eT β (fZ F d x t) ((a.put (some d) v).tmps.getD t undef):=by
 rw[U3 a d t v ak];unfold fZ;by_cases aa:t=d
 ·subst aa;simp only[q5,b5,pk];exact ad
 ·have:Nat.beq t d=false:=hs aa;simp only[this,b',bR aa];exact h t
def U4(w:World)(g:Nat)(cs:Array Value):ot w (w.setRow g cs):=by
 unfold World.setRow
 first | exact⟨rfl,rfl⟩ | (split<;>exact⟨rfl,rfl⟩)
def JU(w:World)(g:Nat)(o:Obj):ot w (w.putObj g o):=by unfold World.putObj;exact⟨rfl,rfl⟩
def Marks.mono(h:Marks X a w I M){I':aJ}{M':List aD}(hm:∀ r,vO X w I M r->vO X w' I' M' r):Marks X a w' I' M':=by obtain⟨a0,aa,ab,aj⟩:=h;exact⟨a0,aa,ab,λr af=>hm r (aj r af)⟩
def cK.put(h:cK X β a w F C I M){dst:Option Nat}(ak:∀ d,dst=some d->d<X.n){x:dA}(ad:eT β x v):cK X β (a.put dst v) w (put dst x F) C I M:=by
 cases dst with
 |none=>exact h
 |some d=>
  refine { h with size:=?_,defers:=h.defers,al:=?_ };·simp[Act.put,h.size]
  ·exact Ou h.al (by rw[h.size];exact ak d rfl) ad
def eE.heap(h:eE I M w)(cS:w'.heap=w.heap):eE I M w':=
 { i:=by rw[cS];exact h.i,m:=by rw[cS];exact h.m,d:=h.d,cd:=h.cd }
def cK.world(h:cK X β a w F C I M)(cS:w'.heap=w.heap)(aH:ot w w':=by exact⟨rfl,rfl⟩):cK X β a w' F C I M:=
 { h with
  holds:={ i:=by rw[cS];exact h.holds.i,m:=by rw[cS];exact h.holds.m,d:=h.holds.d,cd:=h.holds.cd }
  defers:=h.defers.mono λr af=>{ af with dU:=by rw[cS];exact af.dU }
  cf:=λs cs ar=>{ h.cf s cs ar with dU:=by rw[cS];exact(h.cf s cs ar).dU }
  dH:=by rw[cS];exact h.dH
  out:=h.out.trans aH
  sz:=by rw[cS];exact h.sz }
def eE.alloc(h:eE I M w)(o:Obj):eE I M (w.alloc o) where
 i b x ag:=by have aa:=h.i b x ag;rw[Gc w o (lK.1 aa).1];exact aa
 m x ad:=by have aa:=h.m x ad;rw[Gc w o (lK.1 aa).1];exact aa
 d:=h.d
 cd:=h.cd
def eE.lt(h:eE I M w){x:aD}(ad:x∈M):x.num<w.heap.size:=(lK.1 (h.m x ad)).1
def eE.DA(h:eE I M w){b:Nat}{o:Obj}(ag:I b=some o):b<w.heap.size:=(lK.1 (h.i b o ag)).1
def eE.sq(h:eE I M w):I w.heap.size=none:=by
 cases ag:I w.heap.size with
 |none=>rfl| some o=>exact absurd (h.DA ag) (Nat.lt_irrefl _)
def eE.q6(h:eE I M w):∀ x∈M,x.num≠w.heap.size:=λx ad e=>by have:=h.lt ad;omega
def eE.cons(h:eE I M w)(o:Obj):eE I (⟨w.heap.size,o⟩::M) (w.alloc o) where
 i:=(h.alloc o).i
 m x ad:=by
  rcases ec.1 ad with rfl | ad;·exact Oq w o
  ·exact(h.alloc o).m x ad
 d x ad:=by
  rcases ec.1 ad with rfl | ad;·exact h.sq
  ·exact h.d x ad
 cd:=by simp only[b0,lL];refine⟨λhm=>?_,h.cd⟩;obtain⟨x,ad,e⟩:=cN.1 hm;exact h.q6 x ad e
def xw.alloc{b:Nat}{cs:List Value}(h:xw X w I M b cs)(o:Obj):xw X (w.alloc o) I M b cs where
 dU:=by obtain⟨T,bu⟩:=h.dU;exact⟨T,by rw[Gc w o (lK.1 bu).1];exact bu⟩
 cR:=h.cR
 jZ:=h.jZ
 eW:=h.eW
def xw.lt{b:Nat}{cs:List Value}(h:xw X w I M b cs):b<w.heap.size:=by obtain⟨T,bu⟩:=h.dU;exact(lK.1 bu).1
def xw.Ov{b:Nat}{cs:List Value}(h:xw X w I M b cs)(o:Obj):xw X (w.alloc o) I (⟨w.heap.size,o⟩::M) b cs where
 dU:=(h.alloc o).dU
 cR:=h.cR
 jZ:=h.jZ
 eW x ad:=by
  rcases ec.1 ad with rfl | ad
  ·exact λe=>by have:=h.lt;simp only at e;omega
  ·exact h.eW x ad
def vO.alloc{r:Nat}(h:vO X w I M r)(o:Obj):vO X (w.alloc o) I M r:=
 { h with dU:=by rw[Gc w o (lK.1 h.dU).1];exact h.dU }
def vO.Ov{r:Nat}(h:vO X w I M r)(o:Obj):vO X (w.alloc o) I (⟨w.heap.size,o⟩::M) r:=by
 refine { h.alloc o with eW:=λx ad=>?_ };rcases ec.1 ad with rfl | ad
 ·have aa:=(lK.1 h.dU).1;simp only;omega
 ·exact h.eW x ad
def Ow(h:∀ b,b<X.B->b ∉ X.foot->w.heap[b]?=X.az.heap[b]?)(df:X.B<=w.heap.size)(o:Obj):∀ b,b<X.B->b ∉ X.foot->(w.alloc o).heap[b]?=X.az.heap[b]?:=λb ag aA=>by rw[Gc w o (by omega)];exact h b ag aA
def cK.nY(h:cK X β a w F C I M)(o:Obj):cK X β a (w.alloc o) F C I (⟨w.heap.size,o⟩::M) where
 size:=h.size
 defers:=h.defers.mono λr af=>af.Ov o
 holds:=h.holds.cons o
 al:=h.al
 cf s cs ar:=(h.cf s cs ar).Ov o
 inj:=h.inj
 ie:=h.ie
 hI:=h.hI
 own x ad:=by
  rcases ec.1 ad with rfl | ad;·exact .inr h.sz
  ·exact h.own x ad
 dH:=Ow h.dH h.sz o
 out:=h.out
 sz:=by have:=h.sz;simp;omega
 fp:=h.fp
def cK.Ox(h:cK X β a w F C I M)(d:Nat):cK X β a w (qd F d) (jt C d none) I M where
 size:=h.size
 defers:=h.defers
 holds:=h.holds
 al t:=by
  have aa:=h.al t;unfold qd;cases bG:F t with
  |ref s off=>
   rw[bG]at aa;simp only;cases Nat.beq s d;·exact aa
   ·trivial
  |_=>rw[bG]at aa;exact aa
 cf s cs ar:=by
  unfold jt at ar;cases ag:Nat.beq s d with
  |true=>simp[ag]at ar| false=>simp[ag]at ar;exact h.cf s cs ar
 inj s b3 aa ab:=h.inj s b3 (λe=>aa (by simp[jt,e])) (λe=>ab (by simp[jt,e]))
 ie:=h.ie
 hI:=h.hI
 own:=h.own
 dH:=h.dH
 out:=h.out
 sz:=h.sz
 fp:=h.fp
def cK.U5(h:cK X β a w F C I M)(d:Nat)(ak:d<X.n)(cs:List Value)(T:Nat) :
  ∃ ou,cK X ou (a.put (some d) (.pointer (some ⟨w.heap.size,0,none⟩))) (w.alloc (.cells cs.toArray T (0,0))) (fZ (qd F d) d (.ref d 0)) (jt C d (some cs)) I M:=by
 have az:=h.Ox d;let ou:Nat->Nat:=λs=>if s=d then w.heap.size else β s
 refine⟨ou,?_⟩;have xz:∀ t,eT ou (qd F d t) (a.tmps.getD t undef):=λt=>by
  have aa:=az.al t;cases bG:qd F d t with
  |ref s off=>
   rw[bG]at aa;have ar:s≠d:=by
    intro e;subst e;unfold qd at bG;split at bG
    ·rename_i b3 JV ov;cases ag:Nat.beq b3 s with
     |true=>simp[ag]at bG| false=>simp[ag]at bG;obtain⟨rfl,_⟩:=bG;simp at ag
    ·rename_i bt;exact bt _ _ bG
   simp only[eT,ou,bR ar];exact aa
  |_=>rw[bG]at aa;exact aa
 exact {
  size:=by simp[Act.put,h.size]
  defers:=h.defers.mono λr af=>af.alloc _
  holds:=h.holds.alloc _
  al:=Ou xz (by rw[h.size];exact ak) (by simp[eT,ou])
  cf:=λs cs' ar=>by
   by_cases e:s=d;·subst e;simp[jt]at ar;subst ar;simp only[ou,bN rfl];exact { dU:=⟨T,Oq w _⟩,cR:=h.sz,jZ:=h.holds.sq,eW:=h.holds.q6 }
   ·have ag:Nat.beq s d=false:=hs e;simp[jt,ag]at ar;simp only[ou,bR e];exact(h.cf s cs' ar).alloc _
  inj:=λs b3 aa ab he=>by
   by_cases e:s=d<;>by_cases cX:b3=d
   ·rw[e,cX]
   ·exfalso;have ag:Nat.beq b3 d=false:=hs cX;simp[jt,ag]at ab;obtain⟨c,an⟩:=JN.1 ab;have:=(h.cf b3 c an).lt;simp only[ou,bN e,bR cX]at he;omega
   ·exfalso;have ag:Nat.beq s d=false:=hs e;simp[jt,ag]at aa;obtain⟨c,an⟩:=JN.1 aa;have:=(h.cf s c an).lt;simp only[ou,bR e,bN cX]at he;omega
   ·have ag:Nat.beq s d=false:=hs e;have ju:Nat.beq b3 d=false:=hs cX;simp[jt,ag]at aa;simp[jt,ju]at ab;simp only[ou,bR e,bR cX]at he;exact h.inj s b3 aa ab he
  ie:=h.ie
  hI:=h.hI
  own:=h.own
  dH:=Ow h.dH h.sz _
  out:=h.out
  sz:=by have:=h.sz;simp;omega
  fp:=h.fp }
def eP(a:Addr)(h:a.spot=none)(j:Nat):a.add j=⟨a.block,a.off+j,none⟩:=by
 obtain⟨b,o,s⟩:=a;simp only at h;subst h;unfold Addr.add;split<;>simp_all
def tk{b:Nat}(au:w.heap[b]?=some (.cells cs T al))(j:Nat):w.cell? ⟨b,j,none⟩=cs[j]?:=by simp[World.cell?,au]
variable{P:Program}{t:Nat}{i:dG}
def kl.run_sizeOf(h:kl P t i)(w:World):(sizeOf t).run P w=.ok i.size w:=by obtain⟨inf,z,aa,ab,_⟩:=h.inf;simp[sizeOf,typeInfo,aa,ab]
def kl.Gd(h:kl P t i)(w:World):∃ z,(zeroValue t).run P w=.ok z w/\z.cells.toList=i.zero:=by obtain⟨inf,z,aa,ab,aj,aI,bB⟩:=h.inf;exact⟨z,by simp[zeroValue,typeInfo,aa,aI],bB⟩
def kl.afO(h:kl P t i)(w:World):∃ d,(underlying t).run P w=.ok d w/\fm d=i.bL:=by obtain⟨d,aa,ab⟩:=h.fo;exact⟨d,run_underlying aa w,ab⟩
def kl.U6(h:kl P t i)(w:World):(isAgg t).run P w=.ok i.bL.agg w:=by
 obtain⟨d,aa,ab⟩:=h.afO w;rw[<-ab];unfold isAgg;simp only[ck,aa,bV];cases d<;>rfl
def afP(ay:vs.length=1):vs=[vs.headD undef]:=by
 match vs,ay with
 |[v],_=>rfl
def JW(h:kl P t i){a:Addr}(ar:a.spot=none)(au:w.heap[a.block]?=some (.cells cs T al))
  (ah:(cs.toList.drop a.off).take i.size=vs) (ay:vs.length=i.size):(loadVar t a).run P w=.ok (pack i.bL.agg vs) w:=by
 have an:∀ j v,vs[j]?=some v->w.cell? (a.add j)=some v:=by
  intro j v ai;rw[eP a ar,tk au];rw[<-ah,k7]at ai;split at ai;·rw[nX]at ai;simpa using ai
  ·cases ai
 unfold loadVar;simp only[ck,h.U6,bV];cases Ge:i.bL.agg with
 |true=>simp only[pk,ck,h.run_sizeOf,bV,<-ay];rw[run_loadCells_list w a vs an];simp[pack]| false=>have aa:=h.JR Ge;rw[aa]at ay;have iL:=afP ay;have:=an 0 (vs.headD undef) (by rw[iL];simp);have a4:a.add 0=a:=rfl;rw[a4]at this;simp[this,pack]
def y2(h:gv vs=true):∀ v∈vs,v.oneCell'=true:=by simpa[gv]using h
def JX(h:kl P t i){a:Addr}(ar:a.spot=none)(au:w.heap[a.block]?=some (.cells cs T (0,0)))(df:v.cells.size=i.size)(ag:a.off+v.cells.toList.length<=cs.size)(aa:gv v.cells.toList=true) :
  (storeVar t a v).run P w=.ok () (w.setRow a.block (cm cs.toList a.off v.cells.toList).toArray):=by
 obtain⟨b,o,s⟩:=a;simp only at ar au ag;subst ar;unfold storeVar;simp only[ck,h.run_sizeOf,bV,df,ne_eq,not_true,lM,Sem.run_ite];have:=run_storeCells_at (P:=P) b o T v.cells.toList 0 cs w au (by simpa using ag) (y2 aa);simp only[qb]at this;simp only[cm];simpa using this
def cK.U7(h:cK X β a w F C I M){s:Nat}{cs:List Value}(ar:C s=some cs)(cs':List Value):cK X β a (w.setRow (β s) cs'.toArray) F (jt C s (some cs')) I M:=by
 have ag:=h.cf s cs ar;obtain⟨T,bu⟩:=ag.dU;exact {
  size:=h.size
  defers:=h.defers.mono λr af=>by refine { af with dU:=?_ };rw[setRow_other _ _ _ _ (λe=>by have aa:=af.dU;rw[e,bu]at aa;cases aa)];exact af.dU
  holds:={
   i:=λb o j1=>by rw[setRow_other _ _ _ _ (λe=>by rw[e,ag.jZ]at j1;cases j1)];exact h.holds.i b o j1
   m:=λx ad=>by rw[setRow_other _ _ _ _ (ag.eW x ad)];exact h.holds.m x ad
   d:=h.holds.d
   cd:=h.holds.cd }
  al:=h.al
  cf:=λb3 c' ow=>by
   by_cases e:b3=s;·subst e;simp[jt,q5]at ow;subst ow;exact { dU:=⟨T,setRow_heap _ _ _ _ _ _ bu⟩,cR:=ag.cR,jZ:=ag.jZ,eW:=ag.eW }
   ·simp[jt,hs e]at ow;have ju:=h.cf b3 c' ow;obtain⟨l8,Gf⟩:=ju.dU;refine { dU:=⟨l8,?_⟩,cR:=ju.cR,jZ:=ju.jZ,eW:=ju.eW };rw[setRow_other _ _ _ _ (λcX=>e (h.inj b3 s (by simp[ow]) (by simp[ar]) cX))];exact Gf
  inj:=λs1 s2 aa ab=>h.inj s1 s2 (λe=>by
    unfold jt at aa;cases aR:Nat.beq s1 s with
    |true=>have:=dP aR;subst this;rw[ar]at e;cases e| false=>rw[aR]at aa;exact aa e) (λe=>by
    unfold jt at ab;cases aR:Nat.beq s2 s with
    |true=>have:=dP aR;subst this;rw[ar]at e;cases e| false=>rw[aR]at ab;exact ab e)
  ie:=h.ie
  hI:=h.hI
  own:=h.own
  dH:=λb ju aA=>by rw[setRow_other _ _ _ _ (λe=>by have:=ag.cR;omega)];exact h.dH b ju aA
  out:=h.out.trans (U4 _ _ _)
  sz:=by have:=h.sz;simpa using this
  fp:=h.fp }
def cK.xA(h:cK X β a w F C I M){a9 post:List aD}{g:Nat}{cs':Array Value}(a':M=a9++⟨g,.cells cs T (0,0)⟩::post) :
  cK X β a (w.setRow g cs') F C I (a9++⟨g,.cells cs' T (0,0)⟩::post):=by
 subst a';have gx:(⟨g,.cells cs T (0,0)⟩:aD)∈a9++⟨g,.cells cs T (0,0)⟩::post:=by simp
 have au:w.heap[g]?=some (.cells cs T (0,0)):=h.holds.m _ gx;have bF:=h.holds.cd;simp only[cM,b0]at bF;have bt:∀ x,x∈a9\/x∈post->x.num≠g:=by
  intro x ad e;rw[uq]at bF;obtain⟨_,ab,aj⟩:=bF;rcases ad with ad | ad;·exact aj x.num (cN.2 ⟨x,ad,rfl⟩) g (by simp) e
  ·rw[lL]at ab;exact ab.1 (cN.2 ⟨x,ad,e⟩)
 have mem:∀ x,x∈a9++(⟨g,.cells cs' T (0,0)⟩:aD)::post->x=⟨g,.cells cs' T (0,0)⟩\/(x∈a9\/x∈post):=by
  intro x ad;simp only[cB,ec]at ad;rcases ad with ad | ad | ad;·exact .inr (.inl ad)
  ·exact .inl ad
  ·exact .inr (.inr ad)
 have back:∀ x,x∈a9\/x∈post->x∈a9++(⟨g,.cells cs T (0,0)⟩:aD)::post:=by
  intro x ad;simp only[cB,ec];rcases ad with ad | ad;·exact .inl ad
  ·exact .inr (.inr ad)
 exact {
  size:=h.size
  defers:=h.defers.mono λr af=>by
   have Bf:g≠r:=af.eW _ gx;refine { af with dU:=?_,eW:=λx ad=>?_ };·rw[setRow_other _ _ _ _ (pj Bf)];exact af.dU
   ·rcases mem x ad with rfl | ad
    ·exact Bf
    ·exact af.eW x (back x ad)
  holds:={
   i:=λb o j1=>by rw[setRow_other _ _ _ _ (λe=>by have:=h.holds.d _ gx;simp only at this;rw[e,this]at j1;cases j1)];exact h.holds.i b o j1
   m:=λx ad=>by
    rcases mem x ad with rfl | ad;·exact setRow_heap _ _ _ _ _ _ au
    ·rw[setRow_other _ _ _ _ (bt x ad)];exact h.holds.m x (back x ad)
   d:=λx ad=>by
    rcases mem x ad with rfl | ad;·exact h.holds.d ⟨g,.cells cs T (0,0)⟩ gx
    ·exact h.holds.d x (back x ad)
   cd:=by simpa[cM]using bF }
  al:=h.al
  cf:=λs c ar=>by
   have ag:=h.cf s c ar;obtain⟨l8,Gf⟩:=ag.dU;have y3:g≠β s:=ag.eW _ gx;refine { dU:=⟨l8,?_⟩,cR:=ag.cR,jZ:=ag.jZ,eW:=λx ad=>?_ };·rw[setRow_other _ _ _ _ (pj y3)];exact Gf
   ·rcases mem x ad with rfl | ad
    ·exact y3
    ·exact ag.eW x (back x ad)
  inj:=h.inj
  ie:=h.ie
  hI:=h.hI
  own:=λx ad=>by
   rcases mem x ad with rfl | ad;·exact h.own ⟨g,.cells cs T (0,0)⟩ gx
   ·exact h.own x (back x ad)
  dH:=λb ag aA=>by
   rw[setRow_other _ _ _ _ (λe=>by
    rcases h.own _ gx with aa | aa;·simp only at aa;exact aA (e ▸ aa)
    ·simp only at aa;omega)]
   exact h.dH b ag aA
  out:=h.out.trans (U4 _ _ _)
  sz:=by have:=h.sz;simpa using this
  fp:=h.fp }
def ib.heap(h:eE I M w){b:Nat}{o:Obj}(ae:ib I M b o):w.heap[b]?=some o:=by
 rcases ae with ae | ⟨x,ad,rfl,rfl⟩
 ·exact h.i b o ae
 ·exact h.m x ad
def afQ{aT:List Value}{x:Value}{xs:List Value}(h:off+1+xs.length<=aT.length):cm (aT.set off x) (off+1) xs=cm aT off (x::xs):=by
 unfold cm;rw[List.take_set,List.drop_set,bN (by omega),gg (by omega:off<aT.length)];have e:(List.take off aT++[aT[off]'(by omega)]).set off x=List.take off aT++[x]:=by rw[List.set_append,bR (by simp;omega)];simp[uu (by omega:off<=aT.length)]
 rw[e];simp[tf,Dv 1]
def U8(off:Nat):∀ (xs:List Value) (k:Nat) (aT:List Value),off+k+xs.length<=aT.length -> (xs.zipIdx k).foldl (λ(cs:Array Value) (p:Value×Nat)=>cs.setIfInBounds (off+p.2) p.1) aT.toArray=(cm aT (off+k) xs).toArray
 |[],k,aT,_=>by simp[cm]
 |x::xs,k,aT,ay=>by simp only[dx]at ay;simp only[List.zipIdx_cons,js];rw[List.setIfInBounds_toArray,U8 off xs (k+1) _ (by simp;omega)];rw[show off+(k+1)=off+k+1 from by omega,afQ (by omega)]
def fill_eq(place:Nat->Option (Nat×Nat)):∀ (vs:List (Nat×Value)) (cells r:List Value),tg place cells vs=some r->Instr.fill place cells.toArray vs=some r.toArray
 |[],cells,r,h=>by simp[tg]at h;simp[Instr.fill,h]
 |(i,v)::bj,cells,r,h=>by
  unfold tg at h;unfold Instr.fill;split at h;·cases h
  ·rename_i off size aC;simp only[aC];cases an:(Nat.beq v.cells.size size&&Nat.ble (off+size) cells.length)with
   |false=>rw[an]at h;cases h
   |true=>
    rw[an]at h;simp only[b5]at h;rw[cz]at an;have aa:=dP an.1;have ab:=bJ an.2;have aG:decide (v.cells.size≠size)=false:=by simp[aa]
    have a7:decide (off+v.cells.size > cells.toArray.size)=false:=by simp;omega
    rw[aG,a7];simp only[Bool.or_false,k8,lM];have aL:=fill_eq place bj _ r h;rw[<-aL];congr 1;have:=U8 off v.cells.toList 0 cells (by simp;omega);simp only[qb]at this;rw[<-this,<-Ol];simp
end
def ic.le{I I':aJ}{M M':List aD}(h:ic foot I M I' M')(la:eE I M w):(∀ b o,I b=some o->I' b=some o)/\eE I' M' w /\
  (∀ b o,I' b=some o->I b=some o\/∃ x∈M,x.num=b/\x.obj=o/\b ∉ foot)/\(∀ x∈M',x∈M):=by
 induction h with
 |refl=>exact⟨λ_ _ h=>h,la,λ_ _ h=>.inl h,λ_ h=>h⟩
 | @sub I M M1 I' M' ar k aL=>
  have aa:eE I M1 w:=⟨la.i,λx ad=>la.m x (ar.subset ad),λx ad=>la.d x (ar.subset ad),(ar.map _).nodup la.cd⟩;obtain⟨cC,dQ,dT,gu⟩:=aL aa;refine⟨cC,dQ,λb o ag=>?_,λx ad=>ar.subset (gu x ad)⟩;rcases dT b o ag with h | ⟨x,ad,h⟩;·exact .inl h
  ·exact .inr ⟨x,ar.subset ad,h⟩
 | @perm I M M1 I' M' aC k aL=>
  have aa:eE I M1 w:=⟨la.i,λx ad=>la.m x (aC.mem_iff.2 ad),λx ad=>la.d x (aC.mem_iff.2 ad),(aC.map _).nodup_iff.1 la.cd⟩;obtain⟨cC,dQ,dT,gu⟩:=aL aa;refine⟨cC,dQ,λb o ag=>?_,λx ad=>aC.mem_iff.2 (gu x ad)⟩;rcases dT b o ag with h | ⟨x,ad,h⟩;·exact .inl h
  ·exact .inr ⟨x,aC.mem_iff.2 ad,h⟩
 | @kN I M I' M' b o post a' aA k aL=>
  subst a';have bF:=la.cd;simp only[b0,lL]at bF;have ag:=la.d ⟨b,o⟩ (by simp);simp only at ag;have aa:eE (ins I b o) post w:={
   i:=λiM o' h=>by
    unfold ins at h;by_cases e:iM=b;·subst e;simp only[q5,b5,jY]at h;subst h;exact la.m ⟨iM,o⟩ (by simp)
    ·simp only[hs e,b']at h;exact la.i _ _ h
   m:=λx ad=>la.m x (by simp[ad])
   d:=λx ad=>by unfold ins;have e:x.num≠b:=λe=>bF.1 (cN.2 ⟨x,ad,e⟩);simp only[hs e,b'];exact la.d x (by simp[ad])
   cd:=bF.2 }
  obtain⟨cC,dQ,dT,gu⟩:=aL aa;refine⟨λiM o' h=>cC iM o' ?_,dQ,λiM o' h=>?_,λx ad=>by simp[gu x ad]⟩
  ·unfold ins;by_cases e:iM=b
   ·subst e;rw[ag]at h;cases h
   ·simp only[hs e,b'];exact h
  ·rcases dT iM o' h with h | ⟨x,ad,h⟩
   ·unfold ins at h;by_cases e:iM=b
    ·subst e;simp only[q5,b5,jY]at h;exact .inr ⟨⟨iM,o⟩,by simp,rfl,h,aA⟩
    ·simp only[hs e,b']at h;exact .inl h
   ·exact .inr ⟨x,by simp[ad],h⟩
def cK.hW{X:cU}{β:Nat->Nat}{F:Fr}{C:dC}{I I':aJ}{M M':List aD}(h:cK X β a w F C I M)(hw:ic X.foot I M I' M'):cK X β a w F C I' M':=by
 obtain⟨cC,dQ,dT,gu⟩:=hw.le h.holds;exact { h with
  holds:=dQ
  defers:=h.defers.mono λr af=>by
   refine { af with jZ:=?_,eW:=λx ad=>af.eW x (gu x ad) };cases bw:I' r with
   |none=>rfl
   |some o=>
    exfalso;rcases dT _ _ bw with aa | ⟨x,ad,aa,_⟩;·rw[af.jZ]at aa;cases aa
    ·exact af.eW x ad aa
  cf:=λs cs ar=>{ h.cf s cs ar with
   jZ:=by
    cases bw:I' (β s)with
    |none=>rfl
    |some o=>
     exfalso;rcases dT _ _ bw with aa | ⟨x,ad,aa,_⟩;·rw[(h.cf s cs ar).jZ]at aa;cases aa
     ·exact(h.cf s cs ar).eW x ad aa
   eW:=λx ad=>(h.cf s cs ar).eW x (gu x ad) }
  ie:=λb o ag=>cC b o (h.ie b o ag)
  hI:=λb o ag=>by
   rcases dT b o ag with aa | ⟨x,ad,rfl,_,aA⟩;·exact h.hI b o aa
   ·exact .inr ((h.own x ad).resolve_left aA)
  own:=λx ad=>h.own x (gu x ad) }
section
variable{X:cU}{β:Nat->Nat}{a:Act}{w:World}{F:Fr}{C:dC}{I:aJ}{M:List aD}{o:Oper}{Q:Exit->Act->World->Prop}{K:gi}
def U9(h:cK X β a w F C I M)(ak:∀ d,o.dst=some d->d<X.n)(bF:∀ c,o.op≠.defer c){x:dA}(af:(execOp a.eval o).run X.P w=.ok (.value v) w)(ad:eT β x v)(ae:K (put o.dst x F) C I M):o.wpIn (g8 X) 0 X.P a w (Sat X K) Q:=
 iY bF af ⟨_,_,_,_,⟨β,h.put ak ad⟩,ae⟩
def vQ(h:cK X β a w F C I M)(ak:∀ d,o.dst=some d->d<X.n)(bF:∀ c,o.op≠.defer c)(af:(execOp a.eval o).run X.P w=.ok (.value v) w)(ae:K (put o.dst (.val v) F) C I M):o.wpIn (g8 X) 0 X.P a w (Sat X K) Q:=
 U9 (x:=.val v) h ak bF af rfl ae
def ox(k:IntKind)(n:Int)(w:World)(P:Program):(asIntOf (.int k n)).run P w=.ok (k,n) w:=rfl
def IntKind.DB{k eZ:IntKind}(h:IntKind.mQ k eZ=true):k=eZ:=by cases k<;>cases eZ<;>first | rfl | cases h
def oy(op:BinOp)(t:Nat)(x y:Operand)(k eZ:IntKind)(n m:Int)(P:Program)(w:World):(eqGuard op t x y (.int k n) (.int eZ m)).run P w=.ok () w:=by
 unfold eqGuard;cases op<;>rfl
def Oy(op:BinOp)(t:Nat)(x y:Operand)(n m:ByteArray)(P:Program)(w:World):(eqGuard op t x y (.string n) (.string m)).run P w=.ok () w:=by
 unfold eqGuard;cases op<;>rfl
def U'(op:BinOp)(t:Nat)(x y:Operand)(n m:Bool)(P:Program)(w:World):(eqGuard op t x y (.bool n) (.bool m)).run P w=.ok () w:=by
 unfold eqGuard;cases op<;>rfl
def Va(a b:ByteArray):(a.toList == b.toList)=decide (a=b):=by
 rw[sm];simp only[beq_iff_eq,hV];constructor
 ·intro h;have aa:a.data.toList=b.data.toList:=by rw[ByteArray.toList_eq,ByteArray.toList_eq]at h;exact h
  cases a;cases b;simp only[ByteArray.mk.injEq];exact gV aa
 ·intro h;rw[h]
def run_equal_bool{t:Nat}(hu:P.underlying t=some .bool)(a b:Bool)(w:World):(Op.equal t (.bool a) (.bool b)).run P w=.ok (a == b) w:=by
 have key:∀ d,(Op.equalIn (d+1) t (.bool a) (.bool b)).run P w=.ok (a == b) w:=λd=>by simp only[Op.equalIn,ck,run_underlying hu,bV,c3]
 exact key 9999
def afR(aO:cT X.P X.E)(op:BinOp)(t:Nat)(x y:Operand)(u v:dA)(l9 xB:Value)(ad:u=.val l9)(aE:v=.val xB)(Vb:Value->Prop)(other:Prop)
  (h:lN op (X.E t) u v Vb other):other\/∃ r,(∀ w,(do eqGuard op t x y l9 xB;binOp op t l9 xB:Sem Value).run X.P w=.ok r w)/\Vb r:=by
 subst ad;subst aE;unfold lN at h;split at h
 ·rename_i k a eZ b aG a7;cases aG;cases a7
  right
  split at h;·obtain⟨j,rfl,⟨r,af,ae⟩⟩:=h;refine⟨_,λw=>?_,ae⟩;simp only[ck,oy,bV,binOp,Op.shift];rw[bR (by omega)];simp[af]
  ·obtain⟨j,rfl,ae⟩:=h;refine⟨_,λw=>?_,ae⟩;simp only[ck,oy,bV,binOp,Op.shift];rw[bR (by omega)];simp
  ·rename_i fq iv;cases ff:IntKind.mQ k eZ with
   |false=>rw[ff]at h;exact h.elim
   |true=>
    rw[ff]at h;have kO:=IntKind.DB ff;subst kO;simp only[b5]at h;cases op<;>simp only at h
    case add=>obtain⟨r,af,ae⟩:=h;exact⟨_,λw=>by simp[oy,binOp,Op.intArith,af],ae⟩
    case sub=>obtain⟨r,af,ae⟩:=h;exact⟨_,λw=>by simp[oy,binOp,Op.intArith,af],ae⟩
    case mul=>obtain⟨r,af,ae⟩:=h;exact⟨_,λw=>by simp[oy,binOp,Op.intArith,af],ae⟩
    case quo=>obtain⟨az,r,af,ae⟩:=h;exact⟨_,λw=>by simp[oy,binOp,Op.intDiv,az,af],ae⟩
    case rem=>obtain⟨az,ae⟩:=h;exact⟨_,λw=>by simp[oy,binOp,Op.intDiv,az],ae⟩
    case and=>exact⟨_,λw=>by simp[oy,binOp,Op.intBits,ux],h⟩
    case or=>exact⟨_,λw=>by simp[oy,binOp,Op.intBits,ux],h⟩
    case xor=>exact⟨_,λw=>by simp[oy,binOp,Op.intBits,ux],h⟩
    case andNot=>exact⟨_,λw=>by simp[oy,binOp,Op.intBits,ux],h⟩
    case shl=>exact(fq rfl).elim
    case shr=>exact(iv rfl).elim
    case eql=>exact⟨_,λw=>by simp only[ck,oy,bV,binOp,Op.intCmp,xu];simp;rfl,h⟩
    case neq=>exact⟨_,λw=>by simp only[ck,oy,bV,binOp,Op.intCmp,xu];simp;rfl,h⟩
    case lss=>exact⟨_,λw=>by simp[oy,binOp,Op.intCmp,xu],h⟩
    case leq=>exact⟨_,λw=>by simp[oy,binOp,Op.intCmp,xu],h⟩
    case gtr=>exact⟨_,λw=>by simp[oy,binOp,Op.intCmp,xu],h⟩
    case geq=>exact⟨_,λw=>by simp[oy,binOp,Op.intCmp,xu],h⟩
 ·rename_i a b aG a7;cases aG;cases a7;split at h
  ·exact .inr ⟨_,λw=>by simp only[ck,Oy,bV,binOp,Op.stringOp,c3,Va],h⟩
  ·exact .inr ⟨_,λw=>by simp only[ck,Oy,bV,binOp,Op.stringOp,c3,Va],h⟩
  ·exact .inl h
 ·rename_i a b aG a7;cases aG;cases a7;split at h
  ·rename_i c7 sz hH z av;obtain⟨d,hu,ak⟩:=(aO _ _ av).fo;have fz:d=.bool:=by cases d<;>simp_all[fm]
   subst fz;split at h;·exact .inr ⟨_,λw=>by simp only[ck,U',bV,binOp,run_equal_bool hu,c3],h⟩
   ·exact .inr ⟨_,λw=>by simp only[ck,U',bV,binOp,run_equal_bool hu,c3],h⟩
   ·exact .inl h
  ·exact .inl h
 ·exact .inl h
def Oz{args:Array Value}(h:Calls P f args w R)(n:Nat):CallsIn (g8 X) n P f args w R:=by have aa:=(callsIn_wide (n:=n)).2 h;exact⟨trivial,λcs af=>aa.2 cs (room_wide _)⟩
def eE.part(h:eE I M w){eo Mr:List aD}(a':M.Perm (eo++Mr)):eE I eo w:=by
 have eX:∀ x,x∈M ↔ x∈eo\/x∈Mr:=λx=>by rw[a'.mem_iff,cB]
 have bF:((eo++Mr).map (·.num)).Nodup:=(a'.map (·.num)).nodup_iff.1 h.cd;rw[cM,uq]at bF;exact⟨h.i,λx ad=>h.m x ((eX x).2 (.inl ad)),λx ad=>h.d x ((eX x).2 (.inl ad)),bF.1⟩
def cK.after(h:cK X β a w F C I M){eo Mr M':List aD}{I':aJ}(a':M.Perm (eo++Mr))(q7:eE I' M' w')(dZ:Kept I eo w I' M' w'):cK X β a w' F C I' (M'++Mr):=by
 have eX:∀ x,x∈M ↔ x∈eo\/x∈Mr:=λx=>by rw[a'.mem_iff,cB]
 have bF:((eo++Mr).map (·.num)).Nodup:=(a'.map (·.num)).nodup_iff.1 h.holds.cd;rw[cM,uq]at bF;have Vc:∀ x∈Mr,∀ y∈eo,y.num≠x.num:=λx ad y aE=>bF.2.2 y.num (cN.2 ⟨y,aE,rfl⟩) x.num (cN.2 ⟨x,ad,rfl⟩);have afS:∀ x∈Mr,w'.heap[x.num]?=w.heap[x.num]?:=λx ad=>
  dZ.dH x.num (h.holds.lt ((eX x).2 (.inr ad))) (Vc x ad)
 exact {
  size:=h.size
  defers:=h.defers.mono λr af=>by
   have aX:=(lK.1 af.dU).1;refine { dU:=?_,cR:=af.cR,jZ:=?_,eW:=λx ad=>?_ };·rw[dZ.dH _ aX (λy aE=>af.eW y ((eX y).2 (.inl aE)))];exact af.dU
   ·cases bw:I' r with
    |none=>rfl
    |some o=>
     exfalso;rcases dZ.uy _ _ bw with aa | aa;·rw[af.jZ]at aa;cases aa
     ·omega
   ·rcases cB.1 ad with ad | ad
    ·rcases dZ.vM x ad with⟨z,bb,Bg⟩ | aa
     ·rw[<-Bg];exact af.eW z ((eX z).2 (.inl bb))
     ·omega
    ·exact af.eW x ((eX x).2 (.inr ad))
  holds:={
   i:=q7.i
   m:=λx ad=>by
    rcases cB.1 ad with ad | ad;·exact q7.m x ad
    ·rw[afS x ad];exact h.holds.m x ((eX x).2 (.inr ad))
   d:=λx ad=>by
    rcases cB.1 ad with ad | ad;·exact q7.d x ad
    ·cases bw:I' x.num with
     |none=>rfl
     |some o=>
      exfalso;rcases dZ.uy _ _ bw with aa | aa;·have:=h.holds.d x ((eX x).2 (.inr ad));rw[this]at aa;cases aa
      ·have:=h.holds.lt ((eX x).2 (.inr ad));omega
   cd:=by
    rw[cM,uq];refine⟨q7.cd,bF.2.1,λp aC q aR e=>?_⟩;obtain⟨x,ad,rfl⟩:=cN.1 aC;obtain⟨y,aE,rfl⟩:=cN.1 aR;rcases dZ.vM x ad with⟨z,bb,Bg⟩ | aa;·exact Vc y aE z bb (Bg.trans e)
    ·have:=h.holds.lt ((eX y).2 (.inr aE));omega }
  al:=h.al
  cf:=λs cs ar=>by
   have ag:=h.cf s cs ar;obtain⟨T,bu⟩:=ag.dU;refine { dU:=⟨T,?_⟩,cR:=ag.cR,jZ:=?_,eW:=λx ad=>?_ };·rw[dZ.dH _ ag.lt (λy aE=>ag.eW y ((eX y).2 (.inl aE)))];exact bu
   ·cases bw:I' (β s)with
    |none=>rfl
    |some o=>
     exfalso;rcases dZ.uy _ _ bw with aa | aa;·rw[ag.jZ]at aa;cases aa
     ·have:=ag.lt;omega
   ·rcases cB.1 ad with ad | ad
    ·rcases dZ.vM x ad with⟨z,bb,Bg⟩ | aa
     ·rw[<-Bg];exact ag.eW z ((eX z).2 (.inl bb))
     ·have:=ag.lt;omega
    ·exact ag.eW x ((eX x).2 (.inr ad))
  inj:=h.inj
  ie:=λb o ag=>dZ.le b o (h.ie b o ag)
  hI:=λb o ag=>by
   rcases dZ.uy b o ag with aa | aa;·exact h.hI b o aa
   ·exact .inr (k' h.sz aa)
  own:=λx ad=>by
   rcases cB.1 ad with ad | ad
   ·rcases dZ.vM x ad with⟨z,bb,Bg⟩ | aa
    ·rw[<-Bg];exact h.own z ((eX z).2 (.inl bb))
    ·exact .inr (k' h.sz aa)
   ·exact h.own x ((eX x).2 (.inr ad))
  dH:=λb ag aA=>by
   rw[dZ.dH b (JP ag h.sz) (λy aE e=>by
    rcases h.own y ((eX y).2 (.inl aE))with aa | aa;·exact aA (e ▸ aa)
    ·omega)]
   exact h.dH b ag aA
  out:=h.out.trans dZ.out
  sz:=k' h.sz dZ.sz
  fp:=h.fp }
def cK.call(h:cK X β a w F C I M){KC:Value->aJ->List aD->Prop}(an:be X.foot P f args I M KC) :
  (Oo P f/\Calls P f args.toArray w λe w'=>∃ v I' M',e=.returned v/\KC v I' M'/\cK X β a w' F C I' M')\/(∃ v w' I' M',(callFunc f args.toArray).run P w=.ok (.value v) w'/\KC v I' M'/\cK X β a w' F C I' M'):=by
 obtain⟨I1,eo,Mr,post,hX,⟨qe,ar⟩ | ar,ae⟩:=an.elim ⟨h.holds.d,h.holds.cd⟩<;>have h:=h.hW hX<;>have a':=List.Perm.refl (eo++Mr)
 ·refine .inl ⟨qe,?_⟩;refine(ar w (h.holds.part a')).mono ?_;rintro e w'⟨v,I',M',rfl,aC,q7,dZ⟩;have a4:=h.after a' q7 dZ;exact⟨v,I',M'++Mr,rfl,ae v I' M' dZ.le a4.holds.d aC,a4⟩
 ·obtain⟨v,w',I',M',af,aC,q7,dZ⟩:=ar w (h.holds.part a');have a4:=h.after a' q7 dZ;exact .inr ⟨v,w',I',M'++Mr,af,ae v I' M' dZ.le a4.holds.d aC,a4⟩
def Vd{args:Array Value}(bF:∀ c,o.op≠.defer c)(af:(execOp a.eval o).run X.P w=.ok (.enter f args) w)
  (an:Calls X.P f args w λe w'=>∃ v,e=.returned v/\next (a.put o.dst v) w'):o.wpIn (g8 X) 0 X.P a w next Q:=by
 refine⟨λ_ _=>trivial,?_⟩;rw[JQ _ _ _ bF,af];refine⟨(λh=>by cases h),?_⟩;refine(Oz an _).mono ?_;rintro e w'⟨v,rfl,h⟩;exact h
def Ve(z:Value)(e1:List Value)(h:z.cells.toList=e1)(n:Nat):(Array.range n).map (z.cells[· % z.cells.size]!)=(rowOf e1 n).toArray:=by subst h;apply gV;simp[vP,madeCells]
def kl.struct{t:Nat}{cQ:List (Nat×Nat)}(h:kl P t ⟨sz,hH,z,.struct cQ⟩):∃ fields,P.underlying t=some (.struct fields)/\cQ=fields.toList.map λf=>(f.type,f.offset):=by
 obtain⟨d,aa,ab⟩:=h.fo;cases d<;>simp[fm]at ab
 exact⟨_,aa,ab.symm⟩
def kl.slice{t:Nat}(h:kl P t ⟨sz,hH,z,.slice e⟩):P.underlying t=some (.slice e):=by
 obtain⟨d,aa,ab⟩:=h.fo;cases d<;>simp[fm]at ab
 rw[aa,ab]
def kl.array{t:Nat}(h:kl P t ⟨sz,hH,z,.array n e⟩):P.underlying t=some (.array n e):=by
 obtain⟨d,aa,ab⟩:=h.fo;cases d<;>simp[fm]at ab
 rw[aa,ab.1,ab.2]
def kl.string{t:Nat}(h:kl P t ⟨sz,hH,z,.string⟩):P.underlying t=some .string:=by
 obtain⟨d,aa,ab⟩:=h.fo;cases d<;>simp[fm]at ab
 exact aa
def kl.int{P:Program}{t sz hH:Nat}{z:List Value}{k:IntKind}(h:kl P t ⟨sz,hH,z,.int k⟩):P.underlying t=some (.int k):=by
 obtain⟨d,aa,ab⟩:=h.fo;cases d<;>simp[fm]at ab
 rw[aa,ab]
def Vf{fields:Array Field}{i fp:Nat}(h:(fields.toList.map λf=>(f.type,f.offset))[i]?=some (fp,off)):∃ f,fields[i]?=some f/\f.type=fp/\f.offset=off:=by
 simp only[jH,Array.getElem?_toList]at h;cases aA:fields[i]? with
 |none=>simp[aA]at h| some f=>simp[aA]at h;exact⟨f,rfl,h.1,h.2⟩
def OA{t:Nat}{i:dG}(h:kl P t i)(bm:off+i.size<=cs.size)(w:World):(part t cs off).run P w=.ok (pack i.bL.agg ((cs.toList.drop off).take i.size)) w:=by
 unfold part;simp only[ck,h.U6,bV];cases Ge:i.bL.agg with
 |true=>simp only[pk,ck,h.run_sizeOf,bV,c3,pack,b5];congr 2;apply gV;simp[List.take_drop]
 |false=>
  have aa:=h.JR Ge;rw[aa]at bm |-;have aX:off<cs.size:=by omega
  simp only[k8,lM,Oj aX,c3,pack,b'];congr 1;rw[eV (by simpa using aX)];simp
def afT{t:Nat}{aF:dG}(av:P.underlying t=some (.slice e))(he:kl P e aF){c:Nat}{j:Nat}(ai:j<n)(w:World) :
  (Instr.indexAt t (.slice (some aS) n c) (.int gh j)).run P w=.ok (.pointer (some (aS.add (j*aF.size)))) w:=by
 unfold Instr.indexAt;simp only[ck,ox,bV,run_underlying av,c3];rw[bN ⟨by omega,by omega⟩];simp[he.run_sizeOf]
def Vg{t:Nat}{aF:dG}(av:P.underlying t=some (.array m e))(he:kl P e aF){j:Nat}(ai:j<m)(w:World) :
  (Instr.indexAt t (.pointer (some aS)) (.int gh j)).run P w=.ok (.pointer (some (aS.add (j*aF.size)))) w:=by
 unfold Instr.indexAt;simp only[ck,ox,bV,run_underlying av,c3,Instr.sureAddr];rw[bN ⟨by omega,by omega⟩];simp[he.run_sizeOf]
def Vh{P:Program}{E:Env}(aO:cT P E)(w:World):∀ (fields:List Field),Dy E (fields.map λf=>(f.type,f.offset))=true -> ∃ l:List (Nat×Nat),(fields.mapM λf=>(do pure (f.offset,<-sizeOf f.type):Sem (Nat×Nat))).run P w=.ok l w/\∀ i,l[i]?=places E (fields.map λf=>(f.type,f.offset)) i
 |[],_=>⟨[],rfl,λi=>by simp[places]⟩
 |f::cQ,h=>by
  simp only[Dy,b0,xr,cz]at h;obtain⟨hj,km⟩:=Option.isSome_iff_exists.1 h.1;obtain⟨l,aa,ab⟩:=Vh aO w cQ h.2;refine⟨(f.offset,hj.size)::l,?_,λi=>?_⟩;·simp only[F9,ck,(aO _ _ km).run_sizeOf,bV,c3];rw[aa];rfl
  ·cases i with
   |zero=>simp[places,km]| succ i=>simp only[F7,ab];simp[places]
def Vi(aO:cT X.P X.E)(h:cK X β a w F C I M){y4:dA->Prop}{other:Prop}(op:Op)(ty:TypeId)(dst:Option Tmp)(pos:String)(after:Array Edge)(guard:Option (Nat×Bool))(ah:cG X op (dk F) C I M y4 other) :
  other\/∃ v x,(execOp a.eval ⟨dst,op,ty,pos,after,guard⟩).run X.P w=.ok (.value v) w/\eT β x v/\y4 x:=by
 have done:∀ {v x},(execOp a.eval ⟨dst,op,ty,pos,after,guard⟩).run X.P w=.ok (.value v) w->eT β x v->y4 x->other\/∃ v x,(execOp a.eval ⟨dst,op,ty,pos,after,guard⟩).run X.P w=.ok (.value v) w/\eT β x v/\y4 x:=
  λaa ab aj=>.inr ⟨_,_,aa,ab,aj⟩
 have hJ:∀ {v},(execOp a.eval ⟨dst,op,ty,pos,after,guard⟩).run X.P w=.ok (.value v) w->y4 (.val v)->other\/∃ v x,(execOp a.eval ⟨dst,op,ty,pos,after,guard⟩).run X.P w=.ok (.value v) w/\eT β x v/\y4 x:=
  fun {v} aa aj=>.inr ⟨v,.val v,aa,rfl,aj⟩
 have aA:=h.al;cases op
 case move x=>exact done (by simp[execOp]) (xy aA x) ah
 case assign x=>exact done (by simp[execOp]) (xy aA x) ah
 case pick c p q=>
  simp only[cG]at ah;split at ah
  ·rename_i b ag;have an:=Ot aA ag;cases b
   ·exact done (by simp[execOp,an,asBool]) (xy aA q) ah
   ·exact done (by simp[execOp,an,asBool]) (xy aA p) ah
  ·rename_i b ag;have an:=uA aA ag;refine done (v:=if b then a.eval p else a.eval q) (x:=JS b (bE F p) (bE F q)) (by simp[execOp,an,asBool]) ?_ ah;have aa:=U2 aA p;have ab:=U2 aA q;unfold JS;split
   ·rename_i x y aG a7;rw[aG]at aa;rw[a7]at ab;simp only[eT]at aa ab |-;cases b<;>simp[aa,ab]
   ·rename_i x y _ aG a7;rw[aG]at aa;rw[a7]at ab;simp only[eT]at aa ab |-;cases b<;>simp[aa,ab]
   ·trivial
  ·exact ah.elim
 case unOp op t x=>
  simp only[cG]at ah;split at ah;·rename_i b ag;exact done (v:=.bool (!b)) (x:=.lit (!b)) (by simp[execOp,Ot aA ag,Op.unary]) rfl ah
  ·rename_i b ag;exact hJ (v:=.bool (!b)) (by simp[execOp,uA aA ag,Op.unary]) ah
  ·rename_i k n ag;obtain⟨r,af,ae⟩:=ah;exact hJ (v:=.int k r) (by simp only[execOp,uA aA ag,Op.unary,Op.intArith,af];simp) ae
  ·exact Or.inl ah
 case binOp op t x y ty'=>
  simp only[cG]at ah;by_cases ad:∃ l9 xB,bE F x=.val l9/\bE F y=.val xB
  ·obtain⟨l9,xB,ad,aE⟩:=ad;have fin:∀ r,(∀ w,(do eqGuard op t x y l9 xB;binOp op t l9 xB:Sem Value).run X.P w=.ok r w)->y4 (.val r)->(other\/∃ v lb,(execOp a.eval ⟨dst,.binOp op t x y ty',ty,pos,after,guard⟩).run X.P w=.ok (.value v) w/\eT β lb v/\y4 lb):=λr af ae=>by refine hJ (v:=r) ?_ ae;have:=af w;rw[<-dd aA ad,<-dd aA aE]at this;simp only[execOp];simp only[ck]at this |-;rw[this];rfl
   rcases afR aO op t x y _ _ l9 xB ad aE _ _ ah with(⟨mR,e0,r,aC,aR,af,ae⟩ | aa) | ⟨r,af,ae⟩;·rw[show dy (dk F) x=bE F x from rfl,ad]at aC;rw[show dy (dk F) y=bE F y from rfl,aE]at aR;cases aC;cases aR;exact fin r af ae
   ·exact Or.inl aa
   ·exact fin r af ae
  ·unfold lN at ah;split at ah
   ·rename_i aG a7;exact(ad ⟨_,_,aG,a7⟩).elim
   ·rename_i aG a7;exact(ad ⟨_,_,aG,a7⟩).elim
   ·rename_i aG a7;exact(ad ⟨_,_,aG,a7⟩).elim
   ·rcases ah with⟨mR,e0,r,aC,aR,af,ae⟩ | aa
    ·exact(ad ⟨_,_,aC,aR⟩).elim
    ·exact Or.inl aa
 case load t x=>
  simp only[cG]at ah;split at ah
  ·rename_i i hi;split at ah
   ·rename_i s off ad;have kn:=Be aA ad;split at ah
    ·rename_i cs ar;cases bm:Nat.ble (off+i.size) cs.length with
     |false=>rw[bm]at ah;exact ah.elim| true=>rw[bm]at ah;have kP:=bJ bm;obtain⟨T,bu⟩:=(h.cf s cs ar).dU;refine hJ (v:=pack i.bL.agg ((cs.drop off).take i.size)) ?_ ah;have:=JW (aO _ _ hi) (a:=⟨β s,off,none⟩) rfl bu (vs:=(cs.drop off).take i.size) (by simp) (by simp;omega);simp[execOp,Instr.loadAt,Instr.sureAddr,kn,this]
    ·exact ah.elim
   ·rename_i aS ad;have kn:=uA aA ad;obtain⟨vs,⟨dL,cs,T,al,e',iL,ay⟩,ae⟩:=ah;refine hJ (v:=pack i.bL.agg vs) ?_ ae;have:=JW (aO _ _ hi) dL (e'.heap h.holds) iL ay;simp[execOp,Instr.loadAt,Instr.sureAddr,kn,this]
   ·exact ah.elim
  ·exact ah.elim
 case nilCheck x=>
  simp only[cG]at ah;split at ah;·rename_i s off ad;exact done (v:=.pointer (some ⟨β s,off,none⟩)) (x:=.ref s off) (by simp[execOp,Be aA ad]) rfl ah
  ·rename_i aS ad;exact hJ (v:=.pointer (some aS)) (by simp[execOp,uA aA ad]) ah
  ·exact Or.inl ah
 case fieldAddr t x i=>
  simp only[cG]at ah;split at ah
  ·rename_i sz hH z cQ av;obtain⟨fields,hu,rfl⟩:=(aO _ _ av).struct;split at ah
   ·rename_i fp off q8;obtain⟨f,vR,rfl,rfl⟩:=Vf q8;split at ah
    ·rename_i hj s o' km ad;cases bb:Nat.beq hj.size 0 with
     |true=>rw[bb]at ah;exact ah.elim
     |false=>
      rw[bb]at ah;have g9:hj.size≠0:=λe=>by rw[e]at bb;cases bb
      refine done (v:=.pointer (some ⟨β s,o'+f.offset,none⟩)) (x:=.ref s (o'+f.offset)) ?_ rfl ah;simp[execOp,Instr.fieldAt,run_underlying hu,vR,Be aA ad,Instr.sureAddr,fieldPlace,(aO _ _ km).run_sizeOf,g9,eP]
    ·rename_i hj aS km ad;cases bb:Nat.beq hj.size 0 with
     |true=>rw[bb]at ah;exact ah.elim
     |false=>
      rw[bb]at ah;have g9:hj.size≠0:=λe=>by rw[e]at bb;cases bb
      refine hJ (v:=.pointer (some (aS.add f.offset))) ?_ ah;simp[execOp,Instr.fieldAt,run_underlying hu,vR,uA aA ad,Instr.sureAddr,fieldPlace,(aO _ _ km).run_sizeOf,g9]
    ·exact ah.elim
   ·exact ah.elim
  ·exact ah.elim
 case field t x i=>
  simp only[cG]at ah;split at ah
  ·rename_i sz hH z cQ cs av ad;obtain⟨fields,hu,rfl⟩:=(aO _ _ av).struct;split at ah
   ·rename_i fp off q8;obtain⟨f,vR,rfl,rfl⟩:=Vf q8;split at ah
    ·rename_i hj km;cases bb:Nat.ble (f.offset+hj.size) cs.size with
     |false=>rw[bb]at ah;exact ah.elim| true=>rw[bb]at ah;refine hJ ?_ ah;simp[execOp,Instr.field,run_underlying hu,vR,dd aA ad,asAgg,OA (aO _ _ km) (bJ bb)]
    ·exact ah.elim
   ·exact ah.elim
  ·exact ah.elim
 case indexAddr t x i=>
  simp only[cG]at ah;split at ah
  ·rename_i sz hH z e gh k av hi;have hu:=(aO _ _ av).slice;split at ah
   ·rename_i aF bO n c ht ad;obtain⟨aS,j,rfl,rfl,ai,ae⟩:=ah;refine hJ ?_ ae;simp[execOp,dd aA ad,dd aA hi,afT hu (aO _ _ ht) ai]
   ·exact ah.elim
  ·rename_i sz hH z n e gh k av hi;have hu:=(aO _ _ av).array;split at ah
   ·rename_i aF s o' ht ad;obtain⟨j,rfl,ai,ae⟩:=ah;refine done (v:=.pointer (some ⟨β s,o'+j*aF.size,none⟩)) (x:=.ref s (o'+j*aF.size)) ?_ rfl ae;simp[execOp,Be aA ad,dd aA hi,Vg hu (aO _ _ ht) ai,eP]
   ·rename_i aF aS ht ad;obtain⟨j,rfl,ai,ae⟩:=ah;refine hJ ?_ ae;simp[execOp,uA aA ad,dd aA hi,Vg hu (aO _ _ ht) ai]
   ·exact ah.elim
  ·exact ah.elim
 case index t x i=>
  simp only[cG]at ah;split at ah;·rename_i sz hH z s gh k av ad hi;have hu:=(aO _ _ av).string;obtain⟨j,rfl,ai,ae⟩:=ah;refine hJ ?_ ae;simp only[execOp,dd aA ad,dd aA hi,Instr.index,ck,ox,bV,run_underlying hu];rw[bN (by omega:(0:Int)<=j)];simp[ai]
  ·rename_i sz hH z n e cs gh k av ad hi;have hu:=(aO _ _ av).array;split at ah
   ·rename_i aF ht;cases bb:Nat.beq (n*aF.size) cs.size with
    |false=>rw[bb]at ah;exact ah.elim
    |true=>
     rw[bb]at ah;obtain⟨j,rfl,ai,ae⟩:=ah;have g9:=dP bb;refine hJ ?_ ae;have bm:j*aF.size+aF.size<=cs.size:=by rw[<-g9,<-Nat.succ_mul];exact vK _ ai
     simp only[execOp,dd aA ad,dd aA hi,Instr.index,ck,ox,bV,run_underlying hu];rw[bN ⟨by omega,by omega⟩];simp[(aO _ _ ht).run_sizeOf,OA (aO _ _ ht) bm]
   ·exact ah.elim
  ·exact ah.elim
 case build t parts=>
  simp only[cG]at ah;split at ah
  ·rename_i i vs hi iL;have aC:=JT aA iL;have y5:(parts.map λ(i,x)=>(i,a.eval x)).toList=vs:=by simpa using aC
   obtain⟨z,bb,xC⟩:=(aO _ _ hi).Gd w;have DC:z.cells=i.zero.toArray:=by rw[<-xC]
   split at ah
   ·rename_i cQ nZ;cases bx:Dy X.E cQ with
    |false=>rw[bx]at ah;exact ah.elim
    |true=>
     rw[bx]at ah;simp only[b5]at ah;split at ah
     ·rename_i cells Bh;obtain⟨sz,hH,afU,bL⟩:=i;simp only at nZ;subst nZ;obtain⟨fields,hu,rfl⟩:=(aO _ _ hi).struct;obtain⟨l,ay,gX⟩:=Vh aO w fields.toList bx;refine hJ ?_ ah;have hm:(fields.mapM λf=>(do pure (f.offset,<-sizeOf f.type):Sem (Nat×Nat))).run X.P w=.ok l.toArray w:=by rw[U1,Sem.run_map,ay];rfl
      have vS:=fill_eq _ _ _ _ Bh;have afV:(λj=>l.toArray[j]?)=places X.E (fields.toList.map λf=>(f.type,f.offset)):=by funext j;rw[<-gX j];simp
      simp only[execOp,Instr.build,ck,bb,bV,run_underlying hu,DC,y5];rw[hm];simp only[bV,afV,vS,c3]
     ·exact ah.elim
   ·rename_i n e nZ;split at ah
    ·rename_i aF ht;split at ah
     ·rename_i cells Bh;obtain⟨sz,hH,afU,bL⟩:=i;simp only at nZ;subst nZ;have hu:=(aO _ _ hi).array;refine hJ ?_ ah;have vS:=fill_eq _ _ _ _ Bh;simp only[execOp,Instr.build,ck,bb,bV,run_underlying hu,DC,y5,(aO _ _ ht).run_sizeOf,vS,c3]
     ·exact ah.elim
    ·exact ah.elim
   ·exact ah.elim
  ·exact ah.elim
 case makeFunc fn first captured=>
  simp only[cG]at ah;split at ah
  ·rename_i cQ cs aa ab;have aG:=ti aA aa;have a7:=ti aA ab;refine hJ ?_ ah;have ej:first.map a.eval=cQ.toArray:=by apply gV;simpa using aG
   have q9:captured.map a.eval=cs.toArray:=by apply gV;simpa using a7
   simp[execOp,Instr.makeFunc,ej,q9]
  ·exact ah.elim
 case slice t x lo hi mx=>
  simp only[cG]at ah;split at ah
  ·rename_i sz hH z e bO n c av ad iu;have OB:mx=none:=by simpa using iu
   subst OB;have hu:=(aO _ _ av).slice;have kn:=dd aA ad;split at ah
   ·rename_i aF ht eS gB;have uB:lo=none:=by simpa using eS
    have Bi:hi=none:=by simpa using gB
    subst uB;subst Bi;refine hJ ?_ ah;have aG:(if c=0 then bO else bO.map (·.add (0*aF.size)))=bO:=by split<;>cases bO<;>simp[Addr.add]
    simp[execOp,Instr.sliceAt,Instr.slice,Instr.sliceBounds,kn,run_underlying hu,(aO _ _ ht).run_sizeOf,Addr.add]
   ·rename_i aF gh j2 ht eS gB;have uB:lo=none:=by simpa using eS
    subst uB;obtain⟨Gg,rfl,cS⟩:=sk.1 gB;obtain⟨l,ab,Bj,rfl,bm,xD,ae⟩:=ah;refine hJ ?_ ae;simp only[execOp,Instr.sliceAt,Instr.slice,Instr.sliceBounds,Instr.sliceBound,kn,ck,run_underlying hu,bV,(aO _ _ ht).run_sizeOf,c3,k9,uv,dd aA cS,ox];rw[bN ⟨by omega,by omega⟩];simp[Addr.add]
   ·rename_i aF gh hf ht eS gB;have Bi:hi=none:=by simpa using gB
    subst Bi;obtain⟨OC,rfl,cS⟩:=sk.1 eS;obtain⟨l,ab,rfl,Bk,bm,xD,ae⟩:=ah;simp only[ur,kk]at *;refine hJ ?_ ae;simp only[execOp,Instr.sliceAt,Instr.slice,Instr.sliceBounds,Instr.sliceBound,kn,ck,run_underlying hu,bV,(aO _ _ ht).run_sizeOf,c3,k9,uv,dd aA cS,ox];rw[bN ⟨by omega,by omega⟩];simp
   ·rename_i aF gh hf afW j2 ht eS gB;obtain⟨OC,rfl,cS⟩:=sk.1 eS;obtain⟨Gg,rfl,Bl⟩:=sk.1 gB;obtain⟨l,ab,rfl,rfl,bm,xD,ae⟩:=ah;refine hJ ?_ ae;simp only[execOp,Instr.sliceAt,Instr.slice,Instr.sliceBounds,Instr.sliceBound,kn,ck,run_underlying hu,bV,(aO _ _ ht).run_sizeOf,c3,k9,uv,dd aA cS,dd aA Bl,ox];rw[bN ⟨by omega,by omega⟩];simp only[c3,bV,g6];rw[bN ⟨by omega,by omega⟩];simp
   ·exact ah.elim
  ·rename_i sz hH z s av ad iu;have OB:mx=none:=by simpa using iu
   subst OB;have hu:=(aO _ _ av).string;have kn:=dd aA ad;split at ah
   ·rename_i eS gB;have uB:lo=none:=by simpa using eS
    have Bi:hi=none:=by simpa using gB
    subst uB;subst Bi;refine hJ ?_ ah;have aG:s.extract 0 s.size=s:=by apply vL;simp[JO]
    simp[execOp,Instr.sliceAt,Instr.slice,Instr.sliceBounds,kn,run_underlying hu,aG]
   ·rename_i gh j2 eS gB;have uB:lo=none:=by simpa using eS
    subst uB;obtain⟨Gg,rfl,cS⟩:=sk.1 gB;obtain⟨l,ab,Bj,rfl,bm,xD,ae⟩:=ah;refine hJ ?_ ae;simp only[execOp,Instr.sliceAt,Instr.slice,Instr.sliceBounds,Instr.sliceBound,kn,ck,run_underlying hu,bV,c3,k9,uv,dd aA cS,ox];simp only[Om,k8,lM,ck,c3,bV,ox];rw[bN ⟨by omega,by omega⟩];simp
   ·rename_i gh hf eS gB;have Bi:hi=none:=by simpa using gB
    subst Bi;obtain⟨OC,rfl,cS⟩:=sk.1 eS;obtain⟨l,ab,rfl,Bk,bm,xD,ae⟩:=ah;simp only[ur,kk]at *;refine hJ ?_ ae;simp only[execOp,Instr.sliceAt,Instr.slice,Instr.sliceBounds,Instr.sliceBound,kn,ck,run_underlying hu,bV,c3,k9,uv,dd aA cS,ox];simp only[Om,k8,lM,ck,c3,bV,ox];rw[bN ⟨by omega,by omega⟩];simp
   ·rename_i gh hf afW j2 eS gB;obtain⟨OC,rfl,cS⟩:=sk.1 eS;obtain⟨Gg,rfl,Bl⟩:=sk.1 gB;obtain⟨l,ab,rfl,rfl,bm,xD,ae⟩:=ah;refine hJ ?_ ae;simp only[execOp,Instr.sliceAt,Instr.slice,Instr.sliceBounds,Instr.sliceBound,kn,ck,run_underlying hu,bV,c3,k9,uv,dd aA cS,dd aA Bl,ox];simp only[Om,k8,lM,ck,c3,bV,ox];rw[bN ⟨by omega,by omega⟩];simp only[c3,bV,g6];rw[bN ⟨by omega,by omega⟩];simp
   ·exact ah.elim
  ·rename_i sz hH z e bO n c auJ auK av ad iu;obtain⟨auL,rfl,afX⟩:=sk.1 iu;have hu:=(aO _ _ av).slice;have kn:=dd aA ad;split at ah
   ·rename_i aF gh j2 ht eS gB;have uB:lo=none:=by simpa using eS
    subst uB;obtain⟨Gg,rfl,cS⟩:=sk.1 gB;obtain⟨l,m,rfl,rfl,bm,xD,ae⟩:=ah;refine hJ ?_ ae;simp only[execOp,Instr.sliceAt,Instr.slice,Instr.sliceBounds,Instr.sliceBound,kn,ck,run_underlying hu,bV,(aO _ _ ht).run_sizeOf,c3,k9,uv,dd aA cS,dd aA afX,ox];rw[bN ⟨by omega,by omega⟩];simp only[c3,bV,g6];rw[bN ⟨by omega,by omega⟩];simp only[c3,bV,g6]
   ·exact Or.inl ah
  ·exact Or.inl ah
 case extract x i=>
  simp only[cG]at ah;split at ah
  ·rename_i vs ad;split at ah
   ·rename_i v hi;refine hJ ?_ ah;have cZ:vs[i]?=some v:=by simpa using hi
    simp[execOp,Instr.extract,dd aA ad,cZ]
   ·exact ah.elim
  ·exact ah.elim
 case convert s d x=>
  simp only[cG]at ah;split at ah;·rename_i auM sz hH z k eZ n ar av ad;have hu:=(aO _ _ av).int;obtain⟨ds,fE,_⟩:=(aO _ _ ar).fo;obtain⟨r,af,ae⟩:=ah;refine hJ ?_ ae;simp only[execOp,convert,dd aA ad,ck,run_underlying fE,run_underlying hu,bV];simp only[Conv.intToInt,af,c3,bV]
  ·exact Or.inl ah
 case call c=>
  obtain⟨callee,args,argTypes⟩:=c;cases callee with
  |value f=>exact .inl ah| invoke r m=>exact .inl ah
  |builtin b=>
   cases b
   case len=>
    simp only[cG]at ah;split at ah
    ·rename_i t v aa ab;have aG:=ti aA ab;have ej:args.map a.eval=#[v]:=by apply gV;simpa using aG
     have av:argTypes=#[t]:=by apply gV;simpa using aa
     subst av;split at ah;·rename_i sz hH z e aS n c bu;have hu:=(aO _ _ bu).slice;refine hJ ?_ ah;simp[execOp,resolve,invoke,builtin,Builtin.len_,ej,run_underlying hu,goInt]
     ·rename_i sz hH z s bu;have hu:=(aO _ _ bu).string;refine hJ ?_ ah;simp[execOp,resolve,invoke,builtin,Builtin.len_,ej,run_underlying hu,goInt]
     ·rename_i sz hH z n e bu;have hu:=(aO _ _ bu).array;refine hJ ?_ ah;simp[execOp,resolve,invoke,builtin,Builtin.len_,ej,run_underlying hu,goInt]
     ·exact Or.inl ah
    ·exact Or.inl ah
   case cap=>
    simp only[cG]at ah;split at ah
    ·rename_i t v aa ab;have aG:=ti aA ab;have ej:args.map a.eval=#[v]:=by apply gV;simpa using aG
     have av:argTypes=#[t]:=by apply gV;simpa using aa
     subst av;split at ah;·rename_i sz hH z e aS n c bu;have hu:=(aO _ _ bu).slice;refine hJ ?_ ah;simp[execOp,resolve,invoke,builtin,Builtin.cap_,ej,run_underlying hu,goInt]
     ·exact Or.inl ah
    ·exact Or.inl ah
   case max=>
    simp only[cG]at ah;split at ah
    ·rename_i k p eZ q ab;have aG:=ti aA ab;have ej:args.map a.eval=#[.int k p,.int eZ q]:=by apply gV;simpa using aG
     refine hJ ?_ ah;have hm:(if q > p then q else p)=max p q:=by split<;>omega
     simp only[execOp,resolve,invoke,builtin,Builtin.max_,Builtin.max2,ej,ck,c3,bV,List.foldlM_cons,List.foldlM_nil,hm]
    ·exact Or.inl ah
   case min=>
    simp only[cG]at ah;split at ah
    ·rename_i k p eZ q ab;have aG:=ti aA ab;have ej:args.map a.eval=#[.int k p,.int eZ q]:=by apply gV;simpa using aG
     refine hJ ?_ ah;have hm:(if q<p then q else p)=min p q:=by split<;>omega
     simp only[execOp,resolve,invoke,builtin,Builtin.min_,Builtin.min2,ej,ck,c3,bV,List.foldlM_cons,List.foldlM_nil,hm]
    ·exact Or.inl ah
   case unsafeSliceData=>
    simp only[cG]at ah;split at ah
    ·rename_i n c ab;have aG:=ti aA ab;have ej:args.map a.eval=#[.slice none n c]:=by apply gV;simpa using aG
     refine hJ ?_ ah;simp only[execOp,resolve,invoke,builtin,ej,ck,c3,bV,Lib.run_unsafeSliceData_nil]
    ·rename_i aS n c ab;obtain⟨aj,ah⟩:=ah;have aG:=ti aA ab;have ej:args.map a.eval=#[.slice (some aS) n c]:=by apply gV;simpa using aG
     refine hJ ?_ ah;simp only[execOp,resolve,invoke,builtin,ej,ck,c3,bV,Lib.run_unsafeSliceData_row _ _ _ _ _ _ (show c≠0 by omega)]
    ·exact Or.inl ah
   all_goals exact .inl ah
 all_goals exact .inl ah
def DD(aO:cT X.P X.E)(ak:∀ d,o.dst=some d->d<X.n)(h:Rel X a w F C I M)(ah:gW X o F C I M K):o.wpIn (g8 X) 0 X.P a w (Sat X K) Q:=by
 have aV:=h;obtain⟨β,h⟩:=h;obtain⟨dst,op,ty,pos,after,guard⟩:=o;have other:bz X ⟨dst,op,ty,pos,after,guard⟩ F C I M K->(⟨dst,op,ty,pos,after,guard⟩:Oper).wpIn (g8 X) 0 X.P a w (Sat X K) Q:=λ⟨h⟩=>h a w Q aV;have aA:=h.al;have quiet:cG X op (dk F) C I M (λx=>K (Go.V.put dst x F) C I M) (bz X ⟨dst,op,ty,pos,after,guard⟩ F C I M K)->(∀ c,op≠.defer c)->(⟨dst,op,ty,pos,after,guard⟩:Oper).wpIn (g8 X) 0 X.P a w (Sat X K) Q:=λaR bF=>by
  rcases Vi aO h op ty dst pos after guard aR with aa | ⟨v,x,af,ad,ae⟩;·exact other aa
  ·exact U9 (o:=⟨dst,op,ty,pos,after,guard⟩) h ak bF af ad ae
 cases op
 case box t x=>
  simp only[gW]at ah;split at ah
  ·rename_i d v ad;have kn:=dd aA ad;have af:(execOp a.eval ⟨some d,.box t x,ty,pos,after,guard⟩).run X.P w=.ok (.value (.pointer (some ⟨w.heap.size,0,none⟩))) (w.alloc (.cells v.cells t (0,0))):=by simp[execOp,Instr.box,newVar,newRow,kn,Ba]
   have hk:d<X.n:=ak d rfl;cases ko:X.gC.contains d with
   |true=>rw[ko]at ah;obtain⟨ah⟩:=ah;have ae:=ah w.heap.size h.holds.sq h.holds.q6;have aa:=(h.nY (.cells v.cells t (0,0))).Ox d;exact iY (by simp) af ⟨_,_,_,_,⟨β,cK.put aa (dst:=some d) (x:=.val (.pointer (some ⟨w.heap.size,0,none⟩))) (by simpa using hk) rfl⟩,ae⟩
   |false=>rw[ko]at ah;obtain⟨ou,aa⟩:=h.U5 d hk v.cells.toList t;exact iY (by simp) af ⟨_,_,_,_,⟨ou,by simpa using aa⟩,ah⟩
  ·exact ah.elim
 case alloc t=>
  simp only[gW]at ah;split at ah
  ·rename_i d i hi;obtain⟨z,bb,xC⟩:=(aO _ _ hi).Gd w;have DC:z.cells=i.zero.toArray:=by rw[<-xC]
   have af:(execOp a.eval ⟨some d,.alloc t,ty,pos,after,guard⟩).run X.P w=.ok (.value (.pointer (some ⟨w.heap.size,0,none⟩))) (w.alloc (.cells i.zero.toArray t (0,0))):=by simp[execOp,Instr.alloc,newVar,newRow,bb,DC,Ba]
   have hk:d<X.n:=ak d rfl;cases ko:X.gC.contains d with
   |true=>rw[ko]at ah;obtain⟨ah⟩:=ah;have ae:=ah w.heap.size h.holds.sq h.holds.q6;have aa:=(h.nY (.cells i.zero.toArray t (0,0))).Ox d;exact iY (by simp) af ⟨_,_,_,_,⟨β,cK.put aa (dst:=some d) (x:=.val (.pointer (some ⟨w.heap.size,0,none⟩))) (by simpa using hk) rfl⟩,ae⟩
   |false=>rw[ko]at ah;obtain⟨ou,aa⟩:=h.U5 d hk i.zero t;exact iY (by simp) af ⟨_,_,_,_,⟨ou,aa⟩,ah⟩
  ·exact ah.elim
 case store t x y=>
  simp only[gW]at ah;split at ah
  ·rename_i i v hi aE;have tl:=dd aA aE;split at ah
   ·rename_i s off ad;have kn:=Be aA ad;split at ah
    ·rename_i cs ar;cases bm:(Nat.ble (off+i.size) cs.length&&(Nat.beq v.cells.size i.size&&gv v.cells.toList))with
     |false=>rw[bm]at ah;exact ah.elim| true=>rw[bm]at ah;simp only[cz]at bm;obtain⟨bm,df,oz⟩:=bm;have kP:=bJ bm;have Bm:=dP df;obtain⟨T,bu⟩:=(h.cf s cs ar).dU;have:=JX (aO _ _ hi) (a:=⟨β s,off,none⟩) (v:=v) rfl bu Bm (by simp;omega) oz;refine Dz (by simp) (w':=w.setRow (β s) (cm cs off v.cells.toList).toArray) ?_ ⟨_,_,_,_,⟨β,h.U7 ar (cm cs off v.cells.toList)⟩,ah⟩;simp only[execOp,Instr.storeAt,kn,tl,Instr.sureAddr,ck,c3,bV];simp only[Ok]at this;rw[this];rfl
    ·exact ah.elim
   ·rename_i aS ad;have kn:=uA aA ad;cases df:Nat.beq v.cells.size i.size with
    |false=>rw[df]at ah;exact ah.elim| true=>rw[df]at ah;obtain⟨a9,post,cs,T,a',dL,ag,oz,ae⟩:=ah;have Bm:=dP df;have au:w.heap[aS.block]?=some (.cells cs T (0,0)):=h.holds.m ⟨aS.block,.cells cs T (0,0)⟩ (by rw[a'];simp);have:=JX (aO _ _ hi) (v:=v) dL au Bm ag oz;refine Dz (by simp) (w':=w.setRow aS.block (cm cs.toList aS.off v.cells.toList).toArray) ?_ ⟨_,_,_,_,⟨β,h.xA a'⟩,ae⟩;simp only[execOp,Instr.storeAt,kn,tl,Instr.sureAddr,ck,c3,bV];rw[this];rfl
   ·exact ah.elim
  ·exact ah.elim
 case buildSlice t len parts=>
  simp only[gW]at ah;split at ah
  ·rename_i sz hH z e vs av iL;have hu:=(aO _ _ av).slice;have aC:=JT aA iL;have y5:(parts.map λ(i,x)=>(i,a.eval x)).toList=vs:=by simpa using aC
   split at ah
   ·rename_i aF ht;cases bb:(Nat.ble (len*aF.size) 16777216&&Nat.blt 0 (len*aF.size))with
    |false=>
     rw[bb]at ah;simp only[b']at ah;split at ah
     ·rename_i afY;obtain⟨ah⟩:=ah;have ae:=ah w.heap.size h.holds.sq h.holds.q6;refine iY (by simp) (v:=.slice (some ⟨w.heap.size,0,none⟩) 0 0) (w':=w.alloc (.cells #[] e (0,0))) ?_ ⟨_,_,_,_,⟨β,(h.nY _).put (x:=.val (.slice (some ⟨w.heap.size,0,none⟩) 0 0)) ak rfl⟩,ae⟩;simp only[execOp,Instr.buildSlice,ck,bV,run_underlying hu,(aO _ _ ht).run_sizeOf,y5];have db:∀ f:Nat->Value,Array.map f (Array.range 0)=#[]:=λf=>by apply Array.ext<;>simp
      simp[newRow,Ba,Instr.fill,db]
     ·exact ah.elim
    |true=>
     rw[bb]at ah;simp only[b5]at ah;rw[cz]at bb;have bm:=bJ bb.1;have oA:0<len*aF.size:=by simpa using bb.2
     split at ah;·rename_i cells Bh;obtain⟨tm,Bn,xC⟩:=(aO _ _ ht).Gd w;obtain⟨ah⟩:=ah;have ae:=ah w.heap.size h.holds.sq h.holds.q6;refine iY (by simp) (v:=.slice (some ⟨w.heap.size,0,none⟩) len len) (w':=w.alloc (.cells cells.toArray e (0,0))) ?_ ⟨_,_,_,_,⟨β,(h.nY _).put (x:=.val (.slice (some ⟨w.heap.size,0,none⟩) len len)) ak rfl⟩,ae⟩;have vS:=fill_eq _ _ _ _ Bh;simp only[execOp,Instr.buildSlice,ck,bV,run_underlying hu,(aO _ _ ht).run_sizeOf];rw[bR (by omega)];simp only[bR (show ¬ len*aF.size=0 by omega),ck,Bn,bV,c3,y5,Ve tm aF.zero xC,vS];simp[newRow,Ba]
     ·exact ah.elim
   ·exact ah.elim
  ·exact ah.elim
 case makeSlice t l c=>
  simp only[gW]at ah;split at ah
  ·rename_i sz hH z e gD ev dp c' av ay an;have hu:=(aO _ _ av).slice;split at ah
   ·rename_i aF ht;obtain⟨n,m,rfl,rfl,hv,ag,hm,⟨ah⟩⟩:=ah;have ae:=ah w.heap.size h.holds.sq h.holds.q6;obtain⟨inf,tm,fr,iN,iw,kp,Bo⟩:=(aO _ _ ht).inf;refine iY (by simp) (v:=.slice (some ⟨w.heap.size,0,none⟩) n m) (w':=w.alloc (.cells (rowOf aF.zero (m*aF.size)).toArray e (0,0))) ?_ ⟨_,_,_,_,⟨β,(h.nY _).put (x:=.val (.slice (some ⟨w.heap.size,0,none⟩) n m)) ak rfl⟩,ae⟩;have gY:((aF.bytes:Nat):Int)*(m:Int)<=281474976710656:=by
     have ab:((aF.bytes*m:Nat):Int)<=281474976710656:=by omega
     simpa using ab
    have:=run_make (P:=X.P) w t e inf tm hu fr kp gD dp (n:Int) (m:Int) (by omega) (by omega) (by rw[iw];exact gY) (by omega);simp only[execOp,dd aA ay,dd aA an,ck,this,bV,c3,g6];have aG:madeCells tm.cells (m*inf.size)=(rowOf aF.zero (m*aF.size)).toArray:=by rw[iN,<-Bo];simp[vP]
    rw[aG]
   ·exact ah.elim
  ·exact ah.elim
 case call c=>
  obtain⟨callee,args,argTypes⟩:=c;cases callee with
  |value f=>
   simp only[gW]at ah;split at ah
   ·rename_i g first cap vs nv iL
    have aG:=ti aA iL;have ej:args.map a.eval=vs.toArray:=by apply gV;simpa using aG
    have fa:∀ {n:Next} {w':World},(callFunc g (first.toList++vs++cap.toList).toArray).run X.P w=.ok n w'->(execOp a.eval ⟨dst,.call { callee:=.value f,args,argTypes },ty,pos,after,guard⟩).run X.P w=.ok n w':=λaf=>by simp only[execOp,resolve,dd aA nv,Deferred.ofValue,ck,c3,bV,ej,invoke];rw[show first++vs.toArray++cap=(first.toList++vs++cap.toList).toArray from by apply gV;simp];exact af
    rcases h.call ah with⟨qe,Bp⟩ | ⟨v,w',I',M',af,ae,eY⟩;·refine Vd (by simp) (f:=g) (args:=(first.toList++vs++cap.toList).toArray) (fa (qe _ _)) ?_;refine Bp.mono ?_;rintro e w'⟨v,I',M',rfl,ae,af⟩;exact⟨v,rfl,_,_,_,_,⟨β,af.put (x:=.val v) ak rfl⟩,ae⟩
    ·exact iY (by simp) (fa af) ⟨_,_,_,_,⟨β,eY.put (x:=.val v) ak rfl⟩,ae⟩
   ·exact other ah
  |invoke r m=>exact quiet ah (by simp)
  |builtin b=>
   cases b
   all_goals exact quiet ah (by simp)
 case defer c=>exact other ah
 all_goals exact quiet ah (by simp)
end
section
variable{X:cU}{β:Nat->Nat}{a:Act}{w:World}{F:Fr}{C:dC}{I:aJ}{M:List aD}{o:Oper}{Q:Exit->Act->World->Prop}{K:gi}
def DE{a:Act}{d:Nat}{c:Bool}(h:a.tmps.getD d undef=.bool c):a.tmps[d]?=some (.bool c):=by
 rw[pi]at h;cases ak:a.tmps[d]? with
 |none=>rw[ak]at h;cases h| some v=>rw[ak]at h;simp at h;rw[h]
def Gh{j d:Nat}(ak:(ops[j]?).bind (·.dst)=some d)(tmps:Array Value):yielded ops tmps j=match tmps[d]? with
  |some (.bool b)=>some b| _=>none:=by
 unfold yielded;rw[ak];rfl
def cK.refine(h:cK X β a w F C I M){dm:Fr}(bG:∀ t,eT β (dm t) (a.tmps.getD t undef)):cK X β a w dm C I M:={ h with al:=bG }
def Vj(aO:cT X.P X.E)(ops:Array Oper)(q':∀ a w,Sat X K a w->Q .normal a w):∀ (l:List Oper) (k:Nat),(∀ j,l[j]?=ops[k+j]?)->(∀ o∈l,∀ d,o.dst=some d->d<X.n) -> ∀ {F C I M a w},Rel X a w F C I M->uz X ops.toList l F C I M K->wpOpsIn (g8 X) 0 X.P ops Q (List.range' k l.length) a w
 |[],k,_,_,F,C,I,M,a,w,aV,ah=>q' _ _ ⟨F,C,I,M,aV,ah⟩
 |o::bj,k,ay,ak,F,C,I,M,a,w,aV,ah=>by
  have az:ops[k]?=some o:=by simpa using(ay 0).symm
  have po:∀ j,bj[j]?=ops[k+1+j]?:=λj=>by have:=ay (j+1);simpa[tf,Dv 1 j]using this
  have fz:∀ o∈bj,∀ d,o.dst=some d->d<X.n:=λo aH=>ak o (by simp[aH]);have y6:=ak o (by simp);have aL:=@Vj aO ops q' bj (k+1) po fz;simp only[dx,F8,wpOpsIn,az];have run:∀ {F C I M},Rel X a w F C I M->gW X o F C I M (λF C I M=>uz X ops.toList bj F C I M K)->o.wpIn (g8 X) 0 X.P a w (wpOpsIn (g8 X) 0 X.P ops Q (List.range' (k+1) bj.length)) Q:=λaV ah=>
   te (λbO w' ⟨dm,C',I',M',af,ae⟩=>aL af ae) (DD aO y6 aV ah)
  have skip:∀ {F C I M},Rel X a w F C I M->uz X ops.toList bj (put o.dst (.val undef) F) C I M K->(∀ f,o.about X.P w a.eval=some f->(g8 X).fn f)/\wpOpsIn (g8 X) 0 X.P ops Q (List.range' (k+1) bj.length) (a.put o.dst undef) w:=λ⟨β,af⟩ ah=>
   ⟨λ_ _=>trivial,aL ⟨β,af.put (x:=.val undef) y6 rfl⟩ ah⟩
  unfold uz at ah;cases au:o.guard with
  |none=>
   rw[au]at ah;have hw:Region.wanted o (yielded ops a.tmps)=true:=by simp[Region.wanted,au]
   rw[bN hw];exact run aV ah
  |some Gi=>
   obtain⟨j,b⟩:=Gi;rw[au]at ah;simp only at ah;cases ai:(ops.toList[j]?).bind (·.dst)with
   |none=>rw[ai]at ah;exact ah.elim
   |some d=>
    rw[ai]at ah;simp only at ah;have ix:(ops[j]?).bind (·.dst)=some d:=by simpa using ai
    have aE:=Gh ix a.tmps;obtain⟨β,af⟩:=aV;have bG:=af.al d;split at ah
    ·rename_i c an;rw[an]at bG;have y7:=DE bG;have Gj:Region.wanted o (yielded ops a.tmps)=(c == b):=by simp[Region.wanted,au,aE,y7]
     rw[Gj];cases jI:(c == b)with
     |true=>rw[jI]at ah;simp only[pk];exact run ⟨β,af⟩ ah| false=>rw[jI]at ah;simp only[k8,lM];exact skip ⟨β,af⟩ ah
    ·rename_i c an;rw[an]at bG;have y7:=DE bG;have Gj:Region.wanted o (yielded ops a.tmps)=(c == b):=by simp[Region.wanted,au,aE,y7]
     rw[Gj];obtain⟨JY,nw⟩:=ah;have set:∀ x:Bool,c=x->Rel X a w (fZ F d (.lit x)) C I M:=λx ad=>⟨β,af.refine λt=>by
      unfold fZ;by_cases e:t=d;·subst e;simp only[q5,b5];rw[<-ad];exact bG
      ·simp only[hs e,b'];exact af.al t⟩
     by_cases jI:c=b
     ·have:(c == b)=true:=by simp[jI]
      rw[this];simp only[pk];exact run (set b jI) (JY jI)
     ·have ab:c=!b:=by cases c<;>cases b<;>simp_all
      have:(c == b)=false:=by simp[jI]
      rw[this];simp only[k8,lM];exact skip (set _ ab) (nw ab)
    ·rename_i vs an;rw[an]at bG;have uC:yielded ops a.tmps j=none:=by
      rw[aE];cases kq:a.tmps[d]? with
      |none=>rfl| some v=>simp only[eT,pi,kq,kk]at bG;subst bG;rfl
     have Gj:Region.wanted o (yielded ops a.tmps)=false:=by simp[Region.wanted,au,uC]
     rw[Gj];simp only[k8,lM];exact skip ⟨β,af⟩ ah
    ·exact ah.elim
end
inductive xE:dA->dA->Prop
 |refl{x}:xE x x| lit {b}:xE (.lit b) (.val (.bool b))| nu {x}:xE x .nu
def ra:List (Nat×dA)->Fr
 |[],_=>.nu|(t,x)::l,s=>bif Nat.beq s t then x else ra l s
def rc:List (Nat×List Value)->dC
 |[],_=>none|(t,x)::l,s=>bif Nat.beq s t then some x else rc l s
inductive ld(F:Fr):List (Nat×dA)->Prop
 |nil:ld F []| cons {t x l} (h:xE (F t) x) (k:ld F l):ld F ((t,x)::l)
inductive y8(C:dC):List (Nat×List Value)->Prop
 |nil:y8 C []| cons {t x l} (h:C t=some x) (k:y8 C l):y8 C ((t,x)::l)
def afZ{β:Nat->Nat}{x y:dA}(h:xE x y)(ad:eT β x v):eT β y v:=by
 cases h with
 |refl=>exact ad| lit=>exact ad| nu=>trivial
def ld.ok{β:Nat->Nat}{F:Fr}(h:∀ t,eT β (F t) (a.tmps.getD t undef)){l:List (Nat×dA)}(ay:ld F l)(t:Nat):eT β (ra l t) (a.tmps.getD t undef):=by
 induction ay with
 |nil=>trivial
 | @cons bq x l ad k aL=>
  unfold ra;by_cases e:t=bq;·subst e;simp only[q5,b5];exact afZ ad (h t)
  ·simp only[hs e,b'];exact aL
def y8.ok{C:dC}{l:List (Nat×List Value)}(ay:y8 C l){s:Nat}{cs:List Value}(h:rc l s=some cs):C s=some cs:=by
 induction ay with
 |nil=>cases h
 | @cons bq x l ad k aL=>
  unfold rc at h;by_cases e:s=bq;·subst e;simp only[q5,b5]at h;rw[ad,h]
  ·simp only[hs e,b']at h;exact aL h
def cK.cR{X:cU}{β:Nat->Nat}{F:Fr}{C:dC}{I:aJ}{M:List aD}(h:cK X β a w F C I M){bi:List (Nat×dA)}{cl:List (Nat×List Value)}(bG:ld F bi)(lf:y8 C cl):cK X β a w (ra bi) (rc cl) I M:=
 { h with
  al:=bG.ok h.al
  cf:=λs cs ar=>h.cf s cs (lf.ok ar)
  inj:=λs b3 aa ab=>by
   obtain⟨gy,aG⟩:=JN.1 aa;obtain⟨gE,a7⟩:=JN.1 ab;exact h.inj s b3 (by rw[lf.ok aG];simp) (by rw[lf.ok a7];simp) }
inductive tn where
 |normal| exit (id:Nat)| goto (l:Nat)| ret
abbrev j3:=tn->gi
def y9(N:gi)(K:j3):j3
 | .normal=>N| .exit id=>K (.exit id)| .goto l=>K (.goto l)| .ret=>K .ret
def Vk(id:Nat)(K:j3):j3
 | .normal=>K .normal| .exit j=>bif Nat.beq j id then K .normal else K (.exit j)| .goto l=>K (.goto l)| .ret=>K .ret
def mS(X:cU)(K:j3):Exit->Act->World->Prop
 | .normal,a,w=>Sat X (K .normal) a w| .exit id,a,w=>Sat X (K (.exit id)) a w| .goto l,a,w=>Sat X (K (.goto l)) a w| .ret,a,w=>Sat X (K .ret) a w| .panic _,_,_=>False| .outgrown,_,_=>False
abbrev Body:=Fr->dC->aJ->List aD->j3->Prop
structure vT where
 bi:List (Nat×dA)
 cl:List (Nat×List Value):=[]
 cD:aJ
 c0:List aD:=[]
inductive pq{ι:Type}(foot:List Nat)(aZ:ι->vT)(p:ι->Prop)(F:Fr)(C:dC)(I:aJ)(M:List aD):Prop
 |mk(j:ι)(aC:p j)(hw:ic foot I M (aZ j).cD (aZ j).c0)(bG:ld F (aZ j).bi)(lf:y8 C (aZ j).cl)
def OD(body:Body)(K:j3):Nat->gi
 |0=>λ_ _ _ _=>False
 |n+1=>λF C I M=>body F C I M (y9 (OD body K n) K)
inductive di(foot:List Nat)(body:Body)(F:Fr)(C:dC)(I:aJ)(M:List aD)(K:j3):Prop
 |inv {ι:Type} (aZ:ι->vT) (inv:ι->Prop) (μ:ι->Nat) (start:pq foot aZ inv F C I M) (round:∀ i,inv i->body (ra (aZ i).bi) (rc (aZ i).cl) (aZ i).cD (aZ i).c0 (y9 (pq foot aZ λj=>inv j/\μ j<μ i) K))| af0 (n:Nat) (h:OD body K n F C I M)| vU {ι:Type} (aZ:ι->vT) (inv:ι->Prop) (μ:ι->Nat) (start:l7 I M->pq foot aZ inv F C I M) (round:∀ i,inv i->body (ra (aZ i).bi) (rc (aZ i).cl) (aZ i).cD (aZ i).c0 (y9 (λF C I M=>l7 I M->pq foot aZ (λj=>inv j/\μ j<μ i) F C I M) K))
inductive cV(X:cU)(c:Code)(F:Fr)(C:dC)(I:aJ)(M:List aD)(K:j3):Prop
 |mk(h:∀ a w,Rel X a w F C I M->c.wpIn (g8 X) 0 X.P (mS X K) a w)
inductive af1(foot:List Nat)(F:Fr)(C:dC)(I:aJ)(M:List aD)(K:gi):Prop
 |go(h:K F C I M)| af2 (l:vT) (hw:ic foot I M l.cD l.c0) (bG:ld F l.bi) (lf:y8 C l.cl) (h:K (ra l.bi) (rc l.cl) l.cD l.c0)
def V(X:cU):Code->Fr->dC->aJ->List aD->j3->Prop
 | .skip,F,C,I,M,K=>K .normal F C I M| .label l,F,C,I,M,K=>bif Nat.ble 2 l then af1 X.foot F C I M (K .normal)else K .normal F C I M| .ret,F,C,I,M,K=>K .ret F C I M| .exit id,F,C,I,M,K=>K (.exit id) F C I M| .goto l,F,C,I,M,K=>K (.goto l) F C I M| .seq x y,F,C,I,M,K=>V X x F C I M (y9 (λF C I M=>V X y F C I M K) K)| .block id c,F,C,I,M,K=>V X c F C I M (Vk id K)
 | .cond c x y,F,C,I,M,K=>
  match dk F c with
  | .lit b=>bif b then V X x F C I M K else V X y F C I M K| .val (.bool b)=>a2 b (V X x F C I M K) (V X y F C I M K)| _=>False
 | .loop c,F,C,I,M,K=>di X.foot (V X c) F C I M K| .region _ ops false,F,C,I,M,K=>uz X ops.toList ops.toList F C I M (K .normal)| .region id ops true,F,C,I,M,K=>cV X (.region id ops true) F C I M K| .rangeFunc f ps fg body,F,C,I,M,K=>cV X (.rangeFunc f ps fg body) F C I M K| .scope c,F,C,I,M,K=>cV X (.scope c) F C I M K| .refuse _,_,_,_,_,_=>False
def xF(n:Nat)(ops:Array Oper):Bool:=ops.toList.all λo=>match o.dst with
 |some d=>Nat.blt d n| none=>true
def codeOk(n:Nat):Code->Bool
 | .seq x y=>codeOk n x&&codeOk n y| .block _ c=>codeOk n c| .cond _ x y=>codeOk n x&&codeOk n y| .loop c=>codeOk n c| .region _ ops _=>xF n ops| _=>true
def JZ(h:xF n ops=true):∀ o∈ops.toList,∀ d,o.dst=some d->d<n:=by intro o aH d ak;have:=fy.1 h o aH;rw[ak]at this;simpa using this
def mS.then{X:cU}{N:gi}{K:j3}(aB:∀ a w,Sat X N a w->next a w):∀ e a w,mS X (y9 N K) e a w->Exit.then next (mS X K) e a w:=by
 intro e a w h;cases e<;>first | exact aB _ _ h | exact h
def J0{sr:Fence}{Q:Exit->Act->World->Prop}(J:Nat->Act->World->Prop)(af3:J m a w)
  (round:∀ m a w,J m a w->c.wpIn sr n P (Exit.then (λbO w'=>∃ m',m'<m/\J m' bO w') Q) a w):(Code.loop c).wpIn sr n P Q a w:=by
 intro b k cs gj ag af;have key:∀ j a w,J j a w->∃ e bO w',Q e bO w'/\ArrivesIn (Machine.fenced P sr) P (lone (b.atR a (.code c::.inLoop c::k)) cs w) b k cs e bO w':=by
  intro j
  induction j using Nat.strongRecOn with
  |_ j aL=>
   intro a w bw;obtain⟨e,j4,j5,aR,iZ⟩:=round j a w bw b (.inLoop c::k) cs gj ag af;cases e with
   |normal=>obtain⟨m',aX,af4⟩:=aR;obtain⟨Gk,Gl,Gm,Gn,Gp⟩:=aL m' aX j4 j5 af4;exact⟨Gk,Gl,Gm,Gn,.of_steps (StepsIn.trans iZ (.one (fenced_calm ag af rfl) stepR_inLoop)) Gp⟩
   |exit id=>exact⟨_,j4,j5,aR,.pass (x:=.inLoop c) rfl (λ_ _=>.inl (by simp)) iZ⟩| goto l=>exact⟨_,j4,j5,aR,.pass (x:=.inLoop c) rfl (λ_ _=>.inl (by simp)) iZ⟩| ret=>exact⟨_,j4,j5,aR,.pass (x:=.inLoop c) rfl (λ_ _=>.inl (by simp)) iZ⟩| panic Gq=>exact⟨_,j4,j5,aR,.pass (x:=.inLoop c) rfl (λ_ _=>.inl (by simp)) iZ⟩| outgrown=>exact⟨_,j4,j5,aR,.pass (x:=.inLoop c) rfl (λ_ _=>.inl (by simp)) iZ⟩
 obtain⟨e,bO,w',aR,iZ⟩:=key _ a w af3;exact⟨e,bO,w',aR,.of_steps (.one (fenced_calm ag af rfl) stepR_loop) iZ⟩
def re{X:cU}(aO:cT X.P X.E):∀ (c:Code) {F C I M K a w},codeOk X.n c=true->Rel X a w F C I M->V X c F C I M K->c.wpIn (g8 X) 0 X.P (mS X K) a w
 | .skip,F,C,I,M,K,a,w,_,aV,ah=>wpIn_skip ⟨F,C,I,M,aV,ah⟩
 | .label l,F,C,I,M,K,a,w,_,aV,ah=>by
  refine wpIn_label ?_;simp only[V]at ah;cases ay:Nat.ble 2 l with
  |false=>rw[ay]at ah;exact⟨F,C,I,M,aV,ah⟩
  |true=>
   rw[ay]at ah;simp only[b5]at ah;cases ah with
   |go h=>exact⟨F,C,I,M,aV,h⟩| af2 l hw bG lf h=>obtain⟨β,af⟩:=aV;exact⟨_,_,_,_,⟨β,(af.cR bG lf).hW hw⟩,h⟩
 | .ret,F,C,I,M,K,a,w,_,aV,ah=>wpIn_ret ⟨F,C,I,M,aV,ah⟩| .exit id,F,C,I,M,K,a,w,_,aV,ah=>wpIn_exit ⟨F,C,I,M,aV,ah⟩| .goto l,F,C,I,M,K,a,w,_,aV,ah=>wpIn_goto ⟨F,C,I,M,aV,ah⟩| .seq x y,F,C,I,M,K,a,w,bx,aV,ah=>by simp only[codeOk,cz]at bx;refine wpIn_seq (wpIn_mono (re aO x bx.1 aV ah) (mS.then ?_));rintro a w⟨dm,C',I',M',af,ae⟩;exact re aO y bx.2 af ae
 | .block id c,F,C,I,M,K,a,w,bx,aV,ah=>by
  refine wpIn_block (wpIn_mono (re aO c bx aV ah) ?_);intro e a w h;cases e with
  |exit j=>
   simp only[mS,Vk]at h;simp only[Exit.inBlock];by_cases e:j=id;·subst e;simp only[q5,b5]at h;rw[bN rfl];exact h
   ·simp only[hs e,b']at h;rw[bR e];exact h
  |_=>exact h
 | .cond c x y,F,C,I,M,K,a,w,bx,aV,ah=>by
  simp only[codeOk,cz]at bx;obtain⟨β,af⟩:=aV;simp only[V]at ah;split at ah
  ·rename_i b ag;have an:=Ot af.al ag;refine wpIn_cond an ?_;cases b
   ·exact re aO y bx.2 ⟨β,af⟩ ah
   ·exact re aO x bx.1 ⟨β,af⟩ ah
  ·rename_i b ag;have an:=uA af.al ag;refine wpIn_cond an ?_;obtain⟨aa,ab⟩:=ah;cases b
   ·exact re aO y bx.2 ⟨β,af⟩ (ab rfl)
   ·exact re aO x bx.1 ⟨β,af⟩ (aa rfl)
  ·exact ah.elim
 | .loop c,F,C,I,M,K,a,w,bx,aV,ah=>by
  have aL:=@re X aO c;simp only[V]at ah;have hinv:∀ {ι:Type} (aZ:ι->vT) (inv:ι->Prop) (μ:ι->Nat) (start:l7 I M->pq X.foot aZ inv F C I M)
    (round:∀ i,inv i->V X c (ra (aZ i).bi) (rc (aZ i).cl) (aZ i).cD (aZ i).c0 (y9 (λF C I M=>l7 I M->pq X.foot aZ (λj=>inv j/\μ j<μ i) F C I M) K)),(Code.loop c).wpIn (g8 X) 0 X.P (mS X K) a w:=by
   intro ι aZ inv μ start round;let J (m:Nat) (a:Act) (w:World):Prop:=∃ i,inv i/\μ i=m/\Rel X a w (ra (aZ i).bi) (rc (aZ i).cl) (aZ i).cD (aZ i).c0
   have y':∀ {p:ι->Prop} {a w},(∀ i,p i->inv i)->Sat X (λF C I M=>l7 I M->pq X.foot aZ p F C I M) a w->∃ i,p i/\J (μ i) a w:=by rintro p a w aC⟨F,C,I,M,⟨β,af⟩,fD⟩;obtain⟨j,qf,hw,bG,lf⟩:=fD ⟨af.holds.d,af.holds.cd⟩;exact⟨j,qf,j,aC j qf,rfl,β,(af.cR bG lf).hW hw⟩
   obtain⟨i0,_,Bq⟩:=y' (λ_ h=>h) ⟨F,C,I,M,aV,start⟩;refine J0 J Bq ?_;rintro m a w⟨i,hi,rfl,af⟩;refine wpIn_mono (aL bx af (round i hi)) ?_;intro e a w h;cases e with
   |normal=>obtain⟨j,⟨ai,aX⟩,bk⟩:=y' (λ_ h=>h.1) h;exact⟨_,aX,bk⟩
   |_=>exact h
  cases ah with
  | @inv ι aZ inv μ start round=>
   let J (m:Nat) (a:Act) (w:World):Prop:=∃ i,inv i/\μ i=m/\Rel X a w (ra (aZ i).bi) (rc (aZ i).cl) (aZ i).cD (aZ i).c0
   have y':∀ {p:ι->Prop} {a w},(∀ i,p i->inv i)->Sat X (pq X.foot aZ p) a w->∃ i,p i/\J (μ i) a w:=by rintro p a w aC⟨F,C,I,M,⟨β,af⟩,⟨j,qf,hw,bG,lf⟩⟩;exact⟨j,qf,j,aC j qf,rfl,β,(af.cR bG lf).hW hw⟩
   obtain⟨i0,_,Bq⟩:=y' (λ_ h=>h) ⟨F,C,I,M,aV,start⟩;refine J0 J Bq ?_;rintro m a w⟨i,hi,rfl,af⟩;refine wpIn_mono (aL bx af (round i hi)) ?_;intro e a w h;cases e with
   |normal=>obtain⟨j,⟨ai,aX⟩,bk⟩:=y' (λ_ h=>h.1) h;exact⟨_,aX,bk⟩
   |_=>exact h
  |vU aZ inv μ start round=>exact hinv aZ inv μ start round
  |af0 n h=>
   refine J0 (λm a w=>Sat X (OD (V X c) K m) a w) ⟨F,C,I,M,aV,h⟩ ?_;rintro m a w⟨F,C,I,M,af,ae⟩;cases m with
   |zero=>exact ae.elim
   |succ m=>
    refine wpIn_mono (aL bx af ae) ?_;intro e a w h;cases e with
    |normal=>exact⟨m,A' m,h⟩| _=>exact h
 | .region id ops false,F,C,I,M,K,a,w,bx,aV,ah=>by refine wpIn_region ?_;have:=Vj (K:=K .normal) (Q:=mS X K) aO ops (λ_ _ h=>h) ops.toList 0 (by simp) (JZ bx) aV ah;simpa[xq]using this
 | .region id ops true,F,C,I,M,K,a,w,bx,aV,⟨ah⟩=>ah a w aV| .rangeFunc f ps fg body,F,C,I,M,K,a,w,bx,aV,⟨ah⟩=>ah a w aV| .scope c,F,C,I,M,K,a,w,bx,aV,⟨ah⟩=>ah a w aV| .refuse _,F,C,I,M,K,a,w,bx,aV,ah=>ah.elim
def xG(args:List Value):Fr:=λt=>match args[t]? with
 |some v=>.val v| none=>.nu
def pt(X:cU)(F:Fr)(C:dC)(I:aJ)(M:List aD):List ResultVar->(List Value->Prop)->Prop
 |[],K=>K []
 | .tmp t::l,K=>match bE F (.tmp t)with
  | .val v=>pt X F C I M l λvs=>K (v::vs)
  |_=>False
 | .cell t ty::l,K=>match dk F (.tmp t),X.E ty with
  | .ref s off,some i=>(match C s with
   |some cs=>bif Nat.ble (off+i.size) cs.length then pt X F C I M l λvs=>K (pack i.bL.agg ((cs.drop off).take i.size)::vs)else False
   |none=>False)
  | .val (.pointer (some a)),some i=>aM I M a i.size λws=>pt X F C I M l λvs=>K (pack i.bL.agg ws::vs)
  |_,_=>False
inductive vV(foot:List Nat)(I:aJ)(M:List aD)(post:aJ->List aD->Prop):Prop
 |mk(I':aJ)(M':List aD)(hw:ic foot I M I' M')(h:post I' M')
def uD(X:cU)(a0:List ResultVar)(post:Value->aJ->List aD->Prop):j3:=λex F C I M=>
 let done:Prop:=pt X F C I M a0 λvs=>match vs with
  |[v]=>vV X.foot I M (post v)| vs=>vV X.foot I M (post (.tuple vs.toArray))
 match ex with
 | .normal=>done| .ret=>done| _=>False
def DF(tmps:Array Value):ResultVar->Sem Value
 | .tmp t=>pure (tmps.getD t undef)| .cell a t=>do loadVar t (<-asAddr (tmps.getD a undef))
def af5(fn:Func)(tmps:Array Value):results fn tmps=(do let vs <-fn.results.mapM (DF tmps);pure (if h:vs.size=1 then vs[0]else .tuple vs)):=by unfold results;congr 1
def J1{X:cU}(aO:cT X.P X.E){β:Nat->Nat}{a:Act}{w:World}{F:Fr}{C:dC}{I:aJ}{M:List aD}(h:cK X β a w F C I M):∀ {a0:List ResultVar} {K:List Value->Prop},pt X F C I M a0 K -> ∃ vs,K vs/\(a0.mapM (DF a.tmps)).run X.P w=.ok vs w
 |[],K,ah=>⟨[],ah,rfl⟩
 | .tmp t::l,K,ah=>by
  unfold pt at ah;split at ah;·rename_i v aa;have aG:a.tmps.getD t undef=v:=dd h.al aa;obtain⟨vs,ae,a7⟩:=J1 aO h ah;refine⟨_,ae,?_⟩;simp only[F9,DF,ck,c3,bV,a7,aG]
  ·exact ah.elim
 | .cell t ty::l,K,ah=>by
  unfold pt at ah;split at ah
  ·rename_i s off i aa hi;have aG:a.tmps.getD t undef=.pointer (some ⟨β s,off,none⟩):=Be h.al aa;split at ah
   ·rename_i cs ar;cases bm:Nat.ble (off+i.size) cs.length with
    |false=>rw[bm]at ah;exact ah.elim| true=>rw[bm]at ah;obtain⟨vs,ae,a7⟩:=J1 aO h ah;have kP:=bJ bm;obtain⟨T,bu⟩:=(h.cf s cs ar).dU;have cn:=JW (aO _ _ hi) (a:=⟨β s,off,none⟩) rfl bu (vs:=(cs.drop off).take i.size) (by simp) (by simp;omega);refine⟨_,ae,?_⟩;simp only[F9,DF,ck,c3,bV,a7,aG,asAddr,cn]
   ·exact ah.elim
  ·rename_i aS i aa hi;have aG:a.tmps.getD t undef=.pointer (some aS):=uA h.al aa;obtain⟨ws,⟨dL,cs,T,al,e',iL,ay⟩,ah⟩:=ah;obtain⟨vs,ae,a7⟩:=J1 aO h ah;have cn:=JW (aO _ _ hi) dL (e'.heap h.holds) iL ay;refine⟨_,ae,?_⟩;simp only[F9,DF,ck,c3,bV,a7,aG,asAddr,cn]
  ·exact ah.elim
def af6{X:cU}(aO:cT X.P X.E){β:Nat->Nat}{F:Fr}{C:dC}{I:aJ}{M:List aD}(h:cK X β a w F C I M){K:List Value->Prop}(ah:pt X F C I M fn.results.toList K) :
  ∃ vs,K vs/\(results fn a.tmps).run X.P w=.ok (match vs with | [v]=>v | vs=>.tuple vs.toArray) w:=by
 obtain⟨vs,ae,e⟩:=J1 aO h ah;refine⟨vs,ae,?_⟩;rw[af5];have aG:(fn.results.mapM (DF a.tmps)).run X.P w=.ok vs.toArray w:=by rw[U1,Sem.run_map,e];rfl
 simp only[ck,aG,bV,c3]
 match vs with
 |[]=>rfl| [v]=>rfl| u::v::l=>simp
def Vl{sr:Fence}{n:Nat}{P:Program}{fn:Func}{tmps:Array Value}{R:Ending->World->Prop}:∀ (a0:List Nat) (w:World),a0.Nodup->(∀ r∈a0,w.heap[r]?=some (.deferred (some []))) -> (∀ w':World,w'.heap.size=w.heap.size->(∀ b,b ∉ a0->w'.heap[b]?=w.heap[b]?)->ot w w'->∃ v,(results fn tmps).run P w'=.ok v w'/\R (.returned v) w')->LeavesInM sr n P fn tmps R (a0.map xx) .returning w
 |[],w,_,_,h=>h w rfl (λ_ _=>rfl) (.refl _)
 |r::a0,w,bF,af,h=>by
  rw[lL]at bF;refine⟨by simp,.inl ⟨r,_,rfl,run_takeDeferred (af r (by simp)),?_⟩⟩;refine Vl a0 _ bF.2 (λrf eY=>?_) λw' ar ag aH=>h w' (by rw[ar];simp) (λb Br=>?_) ((JU _ _ _).trans aH);·have bt:rf≠r:=λe=>bF.1 (e ▸ eY);rw[nr bt];exact af rf (by simp[eY])
  ·simp only[ec,not_or]at Br;rw[ag b Br.2,nr Br.1]
def cK.take{X:cU}{β:Nat->Nat}{F:Fr}{C:dC}{I:aJ}{M:List aD}(h:cK X β a w F C I M){a0:List Nat}(ep:∀ r∈a0,vO X w I M r)(ar:w'.heap.size=w.heap.size)(ag:∀ b,b ∉ a0->w'.heap[b]?=w.heap[b]?)(aH:ot w w') :
  cK X β { a with defers:=[] } w' F C I M:=by
 exact {
  size:=h.size
  defers:=⟨[],rfl,Du,λr af=>by cases af⟩
  holds:={
   i:=λb o j1=>by rw[ag b (λaf=>by have:=(ep b af).jZ;rw[j1]at this;cases this)];exact h.holds.i b o j1
   m:=λx ad=>by rw[ag _ (λaf=>(ep _ af).eW x ad rfl)];exact h.holds.m x ad
   d:=h.holds.d
   cd:=h.holds.cd }
  al:=h.al
  cf:=λs cs nx=>by have rh:=h.cf s cs nx;obtain⟨T,bu⟩:=rh.dU;refine { rh with dU:=⟨T,?_⟩ };rw[ag _ (λaf=>by have:=(ep _ af).dU;rw[bu]at this;cases this)];exact bu
  inj:=h.inj
  ie:=h.ie
  hI:=h.hI
  own:=h.own
  dH:=λb aX aA=>by rw[ag _ (λaf=>by have:=(ep _ af).cR;omega)];exact h.dH b aX aA
  out:=h.out.trans aH
  sz:=by rw[ar];exact h.sz
  fp:=h.fp }
def mS.ret{X:cU}(aO:cT X.P X.E){post:Value->aJ->List aD->Prop}
  (aV:∀ v I M (w:World) (a:Act) (F:Fr) (C:dC),Rel X a w F C I M->post v I M->R (.returned v) w):∀ e a w,mS X (uD X fn.results.toList post) e a w->bodyPostM (g8 X) 0 X.P fn R e a w:=by
 have main:∀ a w,Sat X (uD X fn.results.toList post .ret) a w->LeavesInM (g8 X) 0 X.P fn a.tmps R a.defers .returning w:=by
  rintro a w⟨F,C,I,M,⟨β,af⟩,ae⟩;simp only[uD]at ae;obtain⟨a0,ak,bF,hm⟩:=af.defers;rw[ak];refine Vl a0 w bF (λr fJ=>(hm r fJ).dU) λw' ar ag aH=>?_;have eY:=af.take hm ar ag aH;obtain⟨vs,aC,fa⟩:=af6 aO eY ae;refine⟨_,fa,?_⟩
  match vs,aC with
  |[],⟨I',M',hw,aC⟩=>exact aV _ I' M' w' _ F C ⟨β,eY.hW hw⟩ aC| [v],⟨I',M',hw,aC⟩=>exact aV _ I' M' w' _ F C ⟨β,eY.hW hw⟩ aC| u::v::l,⟨I',M',hw,aC⟩=>exact aV _ I' M' w' _ F C ⟨β,eY.hW hw⟩ aC
 intro e a w h;cases e with
 |normal=>exact main a w h| ret=>exact main a w h| exit id=>obtain⟨F,C,I,M,_,ae⟩:=h;exact ae.elim
 |goto l=>obtain⟨F,C,I,M,_,ae⟩:=h;exact ae.elim
 |panic _=>exact h.elim| outgrown=>exact h.elim
def af7(aA:P.funcs[f]?=some fn)(ag:fn.body.isSome=true)(aB:(fn.name == "runtime.NumGoroutine")=false):Oo P f:=by
 intro args w;have ju:fn.body.isNone=false:=by cases h:fn.body<;>simp_all
 simp only[callFunc,ck,run_program,bV,aA,aB,k8,lM,ju];rfl
def OE{E:Env}(gC:List Nat)(aO:cT P E)(aA:P.funcs[f]?=some fn)(ag:fn.body=some c)(aB:(fn.name == "runtime.NumGoroutine")=false)
 (bx:(codeOk fn.ntmps c&&Nat.ble args.length fn.ntmps)=true) {I:aJ} {M:List aD} {post:Value->aJ->List aD->Prop}
  (h:∀ B az a w,Rel ⟨P,E,gC,fn.ntmps,B,az,I,M.map (·.num),none⟩ a w (xG args) (λ_=>none) I M->c.wpIn (g8 ⟨P,E,gC,fn.ntmps,B,az,I,M.map (·.num),none⟩) 0 P (mS ⟨P,E,gC,fn.ntmps,B,az,I,M.map (·.num),none⟩ (uD ⟨P,E,gC,fn.ntmps,B,az,I,M.map (·.num),none⟩ fn.results.toList post)) a w) :
  vN P f args I M post:=by
 rw[cz]at bx;have c2:=bJ bx.2;refine⟨af7 aA (by rw[ag];rfl) aB,λw la=>?_⟩;let X:cU:=⟨P,E,gC,fn.ntmps,w.heap.size,w,I,M.map (·.num),none⟩
 have Gr:Rel X { tmps:=args.toArray++Array.replicate (fn.ntmps-args.toArray.size) undef,defers:=[] } w (xG args) (λ_=>none) I M:=⟨λ_=>0,{
  size:=by simp[X];omega
  defers:=⟨[],rfl,Du,λr af=>by cases af⟩
  holds:=la
  al:=λt=>by
   unfold xG;cases av:args[t]? with
   |none=>trivial| some v=>have aX:t<args.length:=(ia.1 av).1;simp only[eT,pi];rw[Array.getElem?_append_left (by simpa using aX)];simp[av]
  cf:=λs cs ar=>by cases ar
  inj:=λs b3 aa=>by simp at aa
  ie:=λb o ag=>ag
  hI:=λb o ag=>.inl ag
  own:=λx ad=>.inl (cN.2 ⟨x,ad,rfl⟩)
  dH:=λb ag aA=>rfl
  out:=.refl _
  sz:=ca _
  fp:=λx ad=>by
   obtain⟨y,aE,rfl⟩:=cN.1 ad;exact(lK.1 (la.m y aE)).1 }⟩
 have J2:=h w.heap.size w _ _ Gr;refine(callsIn_wide (n:=0)).1 ?_;have af8:g8 X=Fence.wide:=rfl;rw[af8]at J2;refine callsIn_of_wp_marks aA ag trivial (wpIn_mono J2 (mS.ret (X:=X) aO ?_));rintro v I' M' w' bO dm C'⟨β,af⟩aC;refine⟨v,I',M',rfl,aC,af.holds,?_⟩;exact {
  le:=af.ie
  uy:=af.hI
  vM:=λx ad=>by
   rcases af.own x ad with aa | aa;·obtain⟨y,aE,e⟩:=cN.1 aa;exact .inl ⟨y,aE,e⟩
   ·exact .inr aa
  dH:=λb ag bt=>af.dH b ag (λhm=>by
   obtain⟨y,aE,e⟩:=cN.1 hm;exact bt y aE e)
  out:=af.out
  sz:=af.sz }
def za{E:Env}(gC:List Nat)(aO:cT P E)(aA:P.funcs[f]?=some fn)(ag:fn.body=some c)(aB:(fn.name == "runtime.NumGoroutine")=false)
 (bx:(codeOk fn.ntmps c&&Nat.ble args.length fn.ntmps)=true) {I:aJ} {M:List aD} {post:Value->aJ->List aD->Prop}
  (h:∀ B az,V ⟨P,E,gC,fn.ntmps,B,az,I,M.map (·.num),none⟩ c (xG args) (λ_=>none) I M (uD ⟨P,E,gC,fn.ntmps,B,az,I,M.map (·.num),none⟩ fn.results.toList post)) :
  vN P f args I M post:=
 OE gC aO aA ag aB bx λB az a w af=>by rw[cz]at bx;exact re aO c bx.1 af (h B az)
def cb{E:Env}(gC:List Nat)(aO:cT P E)(aA:P.funcs[f]?=some fn)(ag:fn.body=some c)(aB:(fn.name == "runtime.NumGoroutine")=false)
 (bx:(codeOk fn.ntmps c&&Nat.ble args.length fn.ntmps)=true) {I:aJ} {M:List aD} {post:Value->aJ->List aD->Prop}
  (h:∀ B az,V ⟨P,E,gC,fn.ntmps,B,az,I,M.map (·.num),none⟩ c (xG args) (λ_=>none) I M (uD ⟨P,E,gC,fn.ntmps,B,az,I,M.map (·.num),none⟩ fn.results.toList post)) :
  Spec P f args I M post:=.inl (za gC aO aA ag aB bx h)
def J3(X:cU)(a0:List ResultVar)(post:Value->aJ->List aD->Prop):j3:=λex F C I M=>
 let done:Prop:=pt X F C I M a0 λvs=>match vs with
  |[v]=>l7 I M->vV X.foot I M (post v)| vs=>l7 I M->vV X.foot I M (post (.tuple vs.toArray))
 match ex with
 | .normal=>done| .ret=>done| _=>False
def J4{X:cU}{F:Fr}{C:dC}{I:aJ}{M:List aD}:∀ {a0:List ResultVar} {K zb:List Value->Prop},(∀ vs,K vs->zb vs)->pt X F C I M a0 K->pt X F C I M a0 zb
 |[],K,zb,h,ah=>h _ ah
 | .tmp t::l,K,zb,h,ah=>by
  unfold pt at ah |-;split at ah;·exact J4 (λvs=>h _) ah
  ·exact ah.elim
 | .cell t ty::l,K,zb,h,ah=>by
  unfold pt at ah |-;split at ah
  ·rename_i s off i aa hi;split at ah
   ·rename_i cs ar;cases bm:Nat.ble (off+i.size) cs.length with
    |false=>rw[bm]at ah;exact ah.elim| true=>rw[bm]at ah;exact J4 (λvs=>h _) ah
   ·exact ah.elim
  ·obtain⟨ws,a8,ah⟩:=ah;exact⟨ws,a8,J4 (λvs=>h _) ah⟩
  ·exact ah.elim
def mS.af9{X:cU}{a0:List ResultVar}{post:Value->aJ->List aD->Prop}:∀ e a w,mS X (J3 X a0 post) e a w->mS X (uD X a0 post) e a w:=by
 have one:∀ a w,Sat X (J3 X a0 post .ret) a w->Sat X (uD X a0 post .ret) a w:=by
  rintro a w⟨F,C,I,M,⟨β,af⟩,h⟩;refine⟨F,C,I,M,⟨β,af⟩,J4 (λvs ah=>?_) h⟩;have fD:l7 I M:=⟨af.holds.d,af.holds.cd⟩
  match vs,ah with
  |[v],ah=>exact ah fD| [],ah=>exact ah fD| _::_::_,ah=>exact ah fD
 intro e a w h;cases e with
 |normal=>exact one a w h| ret=>exact one a w h| exit id=>obtain⟨F,C,I,M,af,ae⟩:=h;exact ae.elim
 |goto l=>obtain⟨F,C,I,M,af,ae⟩:=h;exact ae.elim
 |panic _=>exact h| outgrown=>exact h
def aga{E:Env}(gC:List Nat)(aO:cT P E)(aA:P.funcs[f]?=some fn)(ag:fn.body=some c)(aB:(fn.name == "runtime.NumGoroutine")=false)
 (bx:(codeOk fn.ntmps c&&Nat.ble args.length fn.ntmps)=true) {I:aJ} {M:List aD} {post:Value->aJ->List aD->Prop}
  (h:∀ B az,V ⟨P,E,gC,fn.ntmps,B,az,I,M.map (·.num),none⟩ c (xG args) (λ_=>none) I M (J3 ⟨P,E,gC,fn.ntmps,B,az,I,M.map (·.num),none⟩ fn.results.toList post)) :
  vN P f args I M post:=
 OE gC aO aA ag aB bx λB az a w af=>by rw[cz]at bx;exact wpIn_mono (re aO c bx.1 af (h B az)) mS.af9
def zc{E:Env}(gC:List Nat)(aO:cT P E)(aA:P.funcs[f]?=some fn)(ag:fn.body=some c)(aB:(fn.name == "runtime.NumGoroutine")=false)
 (bx:(codeOk fn.ntmps c&&Nat.ble args.length fn.ntmps)=true) {I:aJ} {M:List aD} {post:Value->aJ->List aD->Prop}
  (h:∀ B az,V ⟨P,E,gC,fn.ntmps,B,az,I,M.map (·.num),none⟩ c (xG args) (λ_=>none) I M (J3 ⟨P,E,gC,fn.ntmps,B,az,I,M.map (·.num),none⟩ fn.results.toList post)) :
  Spec P f args I M post:=.inl (aga gC aO aA ag aB bx h)
def OF:Value->Value->Bool
 | .bool a,.bool b=>a == b| .int k n,.int eZ m=>IntKind.mQ k eZ&&decide (n=m)| .string s,.string t=>decide (s.data.toList=t.data.toList)| .pointer none,.pointer none=>true| .slice none 0 0,.slice none 0 0=>true| .map none,.map none=>true| .nilFunc,.nilFunc=>true| .nilIface,.nilIface=>true| _,_=>false
def agb:∀ {a b:Value},OF a b=true->a=b:=by
 intro a b h;unfold OF at h;split at h
 ·simp at h;rw[h]
 ·simp only[cz,hV]at h;rw[IntKind.DB h.1,h.2]
 ·rename_i s t;simp only[hV]at h;have:s=t:=by cases s;cases t;simp only[ByteArray.mk.injEq];exact gV h
  rw[this]
 all_goals first | rfl | cases h
def J5:List Value->List Value->Bool
 |[],[]=>true| a::as,b::bK=>OF a b&&J5 as bK| _,_=>false
def Vm:∀ {a b:List Value},J5 a b=true->a=b
 |[],[],_=>rfl| a::as,b::bK,h=>by simp only[J5,cz]at h;rw[agb h.1,Vm h.2]
 |[],_::_,h=>by cases h
 |_::_,[],h=>by cases h
def OG(P:Program)(t:Nat)(i:dG):Bool:=
 (match P.info? t with
 |some inf=>decide (inf.size=i.size)&&decide (inf.bytes=i.bytes)&&(match inf.zero with
  |some z=>J5 z.cells.toList i.zero| none=>false)
 |none=>false) &&
 (match P.underlying t with
 |some d=>decide (fm d=i.bL)| none=>false)&&gv i.zero&&decide (i.zero.length=i.size)&&(i.bL.agg||decide (i.size=1))
def agc{t:Nat}{i:dG}(h:OG P t i=true):kl P t i:=by
 simp only[OG,cz]at h;obtain⟨⟨⟨⟨aa,ab⟩,aj⟩,aI⟩,bB⟩:=h;refine⟨?_,?_,y2 aj,dw aI,λa4=>?_⟩
 ·split at aa
  ·rename_i inf hi;simp only[cz,hV]at aa;obtain⟨⟨aG,a7⟩,cn⟩:=aa;split at cn
   ·rename_i z bb;exact⟨inf,z,hi,aG,a7,bb,Vm cn⟩
   ·cases cn
  ·cases aa
 ·split at ab
  ·rename_i d ak;exact⟨d,ak,dw ab⟩
  ·cases ab
 ·rw[a4]at bB;simpa using bB
def agd{E:Env}(n:Nat)(aB:∀ t,n<=t->E t=none)(h:((List.range n).all λt=>match E t with
  |some i=>OG P t i| none=>true)=true):cT P E:=by
 intro t i hi;by_cases av:t<n
 ·have:=fy.1 h t (g7.2 av);rw[hi]at this;exact agc this
 ·rw[aB t (by omega)]at hi;cases hi
end Go.V
namespace Go.V
variable{a:Act}{c:Code}{foot:List Nat}{P:Program}{f off T sz hH e n m fC cC dQ dT gu kM l5 nt oq qc sp uw xt Bb F':Nat}{args vs z:List Value}{v:Value}{w' w:World}{cs:Array Value}{al:Nat×Nat}{R:Ending->World->Prop}{next:Act->World->Prop}{aS:Addr}{gh:IntKind}{ops:Array Oper}{fn:Func}
def xH{F:Fr}:ld F [(fC,F fC),(cC,F cC)]:=.cons .refl (.cons .refl (.nil))
def hl{F:Fr}:ld F [(fC,F fC),(cC,F cC),(dQ,F dQ)]:=.cons .refl (.cons .refl (.cons .refl (.nil)))
def ew{F:Fr}:ld F [(fC,F fC),(cC,F cC),(dQ,F dQ),(dT,F dT)]:=.cons .refl (.cons .refl (.cons .refl (.cons .refl (.nil))))
def hn{F:Fr}:ld F [(fC,F fC),(cC,F cC),(dQ,F dQ),(dT,F dT),(gu,F gu)]:=.cons .refl (.cons .refl (.cons .refl (.cons .refl (.cons .refl (.nil)))))
def oB{F:Fr}:ld F [(fC,F fC),(cC,F cC),(dQ,F dQ),(dT,F dT),(gu,F gu),(kM,F kM)]:=.cons .refl (.cons .refl (.cons .refl (.cons .refl (.cons .refl (.cons .refl (.nil))))))
def ri{F:Fr}:ld F [(fC,F fC),(cC,F cC),(dQ,F dQ),(dT,F dT),(gu,F gu),(kM,F kM),(l5,F l5)]:=.cons .refl (.cons .refl (.cons .refl (.cons .refl (.cons .refl (.cons .refl (.cons .refl (.nil)))))))
def jJ{F:Fr}:ld F [(fC,F fC),(cC,F cC),(dQ,F dQ),(dT,F dT),(gu,F gu),(kM,F kM),(l5,F l5),(nt,F nt)]:=.cons .refl (.cons .refl (.cons .refl (.cons .refl (.cons .refl (.cons .refl (.cons .refl (.cons .refl (.nil))))))))
def i'{F:Fr}:ld F [(fC,F fC),(cC,F cC),(dQ,F dQ),(dT,F dT),(gu,F gu),(kM,F kM),(l5,F l5),(nt,F nt),(oq,F oq)]:=.cons .refl (.cons .refl (.cons .refl (.cons .refl (.cons .refl (.cons .refl (.cons .refl (.cons .refl (.cons .refl (.nil)))))))))
def Bs{F:Fr}:ld F [(fC,F fC),(cC,F cC),(dQ,F dQ),(dT,F dT),(gu,F gu),(kM,F kM),(l5,F l5),(nt,F nt),(oq,F oq),(qc,F qc)]:=.cons .refl (.cons .refl (.cons .refl (.cons .refl (.cons .refl (.cons .refl (.cons .refl (.cons .refl (.cons .refl (.cons .refl (.nil))))))))))
def auN{F:Fr}:ld F [(fC,F fC),(cC,F cC),(dQ,F dQ),(dT,F dT),(gu,F gu),(kM,F kM),(l5,F l5),(nt,F nt),(oq,F oq),(qc,F qc),(sp,F sp)]:=.cons .refl (.cons .refl (.cons .refl (.cons .refl (.cons .refl (.cons .refl (.cons .refl (.cons .refl (.cons .refl (.cons .refl (.cons .refl (.nil)))))))))))
def auO{F:Fr}:ld F [(fC,F fC),(cC,F cC),(dQ,F dQ),(dT,F dT),(gu,F gu),(kM,F kM),(l5,F l5),(nt,F nt),(oq,F oq),(qc,F qc),(sp,F sp),(uw,F uw)]:=.cons .refl (.cons .refl (.cons .refl (.cons .refl (.cons .refl (.cons .refl (.cons .refl (.cons .refl (.cons .refl (.cons .refl (.cons .refl (.cons .refl (.nil))))))))))))
def Vn{F:Fr}:ld F [(fC,F fC),(cC,F cC),(dQ,F dQ),(dT,F dT),(gu,F gu),(kM,F kM),(l5,F l5),(nt,F nt),(oq,F oq),(qc,F qc),(sp,F sp),(uw,F uw),(xt,F xt)]:=.cons .refl (.cons .refl (.cons .refl (.cons .refl (.cons .refl (.cons .refl (.cons .refl (.cons .refl (.cons .refl (.cons .refl (.cons .refl (.cons .refl (.cons .refl (.nil)))))))))))))
def Gs{F:Fr}:ld F [(fC,F fC),(cC,F cC),(dQ,F dQ),(dT,F dT),(gu,F gu),(kM,F kM),(l5,F l5),(nt,F nt),(oq,F oq),(qc,F qc),(sp,F sp),(uw,F uw),(xt,F xt),(Bb,F Bb)]:=.cons .refl (.cons .refl (.cons .refl (.cons .refl (.cons .refl (.cons .refl (.cons .refl (.cons .refl (.cons .refl (.cons .refl (.cons .refl (.cons .refl (.cons .refl (.cons .refl (.nil))))))))))))))
def age{F:Fr}:ld F [(fC,F fC),(cC,F cC),(dQ,F dQ),(dT,F dT),(gu,F gu),(kM,F kM),(l5,F l5),(nt,F nt),(oq,F oq),(qc,F qc),(sp,F sp),(uw,F uw),(xt,F xt),(Bb,F Bb),(F',F F')]:=.cons .refl (.cons .refl (.cons .refl (.cons .refl (.cons .refl (.cons .refl (.cons .refl (.cons .refl (.cons .refl (.cons .refl (.cons .refl (.cons .refl (.cons .refl (.cons .refl (.cons .refl (.nil)))))))))))))))
def auP{F:Fr}{Vo:Nat}:ld F [(fC,F fC),(cC,F cC),(dQ,F dQ),(dT,F dT),(gu,F gu),(kM,F kM),(l5,F l5),(nt,F nt),(oq,F oq),(qc,F qc),(sp,F sp),(uw,F uw),(xt,F xt),(Bb,F Bb),(F',F F'),(Vo,F Vo)]:=.cons .refl (.cons .refl (.cons .refl (.cons .refl (.cons .refl (.cons .refl (.cons .refl (.cons .refl (.cons .refl (.cons .refl (.cons .refl (.cons .refl (.cons .refl (.cons .refl (.cons .refl (.cons .refl (.nil))))))))))))))))
end Go.V
