/- Part 1 of what the proofs of this seat share: the executor, data in memory, walks.
-/
import Derived.WalkKit
import Derived.RangeFuncRecord
import Derived.OrdersIn
import Derived.Lib.UnsafeStr
set_option linter.all false
namespace Go.V
open Go
def bJ:=@Nat.le_of_ble_eq_true
def cf:=@Nat.eq_of_beq_eq_true
def bK:=@Result.andThen_ok
def dh:=@List.getD_eq_getElem?_getD
def b3:=@Bool.and_eq_true
def ba:=@cond_false
def bh:=@cond_true
def bZ:=@Sem.run_bind
def du:=@of_decide_eq_true
def fg:=@List.drop_eq_getElem_cons
def cG:=@Sem.run_pure
def hU:=@List.take_succ_eq_append_getElem
def cC:=@Nat.le_refl
def eb:=@List.mem_append
def e0:=@decide_eq_true_eq
def e1:=@List.length_cons
def dV:=@List.map_cons
def eg:=@List.mem_cons
def iI:=@List.getElem?_eq_some_iff
def jS:=@Array.getElem?_eq_some_iff
def ej:=@List.mem_map
def gi:=@List.all_eq_true
def mL:=@Array.getD_eq_getD_getElem?
def k1:=@World.putObj_heap_other
def gX:=@List.map_append
def iY:=@List.mem_singleton
def iJ:=@Option.some.injEq
def jw:=@Bool.false_eq_true
def oy:=@List.getElem?_append_left
def kx:=@List.getElem?_take
def cA:=@if_neg
def j6:=@Option.getD_some
def fM:=@Array.ext'
def jT:=@Option.map_some
def cK:=@if_pos
def j7:=@Bool.or_eq_true
def lA:=@List.nodup_cons
def nw:=@Bool.not_eq_true'
def jx:=@Nat.le_trans
def l2:=@Bool.eq_iff_iff
def oz:=@Int.toNat_natCast
def pI:=@List.getElem?_drop
def sE:=@Option.map_eq_some_iff
def rr:=@Nat.mul_le_mul_right
def l3:=@List.mem_range
def rs:=@List.size_toArray
def zn:=@Array.getElem?_setIfInBounds
def ru:=@Option.getD_none
def oA:=@Nat.add_assoc
def oB:=@Bool.not_true
def qm:=@Oper.wpIn_mono
def zo:=@Classical.byContradiction
def xo:=@List.getElem?_eq_none
def xp:=@List.getElem?_toArray
def xq:=@List.mem_of_getElem?
def ry:=@ByteArray.ext
def qn:=@Nat.add_zero
def uc:=@List.foldl_cons
def zp:=@List.mem_append_right
def j8:=@if_false
def zq:=@List.mem_append_left
def vw:=@Option.map_none
def Em:=@Option.ne_none_iff_exists'
def ud:=@Bool.false_or
def En:=@Array.getElem?_eq_getElem
def zr:=@List.nodup_append
def zs:=@List.getElem?_map
def Eo:=@List.getElem?_cons_succ
def xr:=@World.alloc_eq
def xt:=@List.nodup_nil
def Ep:=@ByteArray.data_extract
def Er:=@List.length_filter_le
def Br:=@beq_self_eq_true
def Es:=@Nat.testBit_two_pow
def Bs:=@Nat.min_eq_left
def Et:=@Nat.lt_of_lt_of_le
def H3:=@Option.bind_eq_some_iff
def Bt:=@List.mem_filter
def Bu:=@List.mapM_cons
def Eu:=@Nat.lt_succ_self
def Ev:=@List.filter_cons
def H4:=@List.range_eq_range'
def qo:=@Ne.symm
def qp:=@if_true
def H5:=@List.toList_toArray
def H6:=@Array.foldl_toList
def H7:=@Option.isSome_none
def Nr:=@Array.mapM_eq_mapM_toList
def Ew:=@Nat.testBit_or
def Ex:=@Oper.semAt_eq
def Ey:=@Nat.add_comm
def H8:=@Bool.not_false
variable{a:Act}{c:Code}{bW:List Nat}{P:Program}{f off T sz gY e n m en cc dd df fx ic jy iZ ky nx pJ rz ue xu Bv:Nat}{args vs z:List Value}{v:Value}{w' w:World}{dst:Option Nat}{cs:Array Value}{aj:Nat×Nat}{R:Ending->World->Prop}{next:Act->World->Prop}{ad:Addr}{fy:IntKind}{other:Prop}{ops:List Oper}{Q:Exit->Act->World->Prop}{fn:Func}{soft gr:Bool}{op:Op}{cX:Array Bool}{A:Array Oper}{ι:Type}
inductive Bw where
 |other | int (k:IntKind) | bool | string | slice (e:Nat) | array (n e:Nat) | struct (b':List (Nat×Nat)) | map (k e:Nat) | pointer (e:Nat)
 deriving DecidableEq
def eD:TypeDesc->Bw
 | .int k=>.int k| .bool=>.bool| .string=>.string| .slice e=>.slice e| .array n e=>.array n e| .struct b'=>.struct (b'.toList.map λf=>(f.type,f.offset))| .map k e=>.map k e| .pointer e=>.pointer e| _=>.other
def Bw.agg:Bw->Bool
 | .struct _ | .array ..=>true| _=>false
structure dz where
 size:Nat
 bytes:Nat
 zero:List Value
 bz:Bw
structure iK(P:Program)(t:Nat)(i:dz):Prop where
 inf:∃ inf z,P.info? t=some inf/\inf.size=i.size/\inf.bytes=i.bytes/\inf.zero=some z/\z.cells.toList=i.zero
 eJ:∃ d,P.underlying t=some d/\eD d=i.bz
 one:∀ v∈i.zero,v.oneCell'=true
 len:i.zero.length=i.size
 Ez:i.bz.agg=false->i.size=1
abbrev Env:=Nat->Option dz
def cE(P:Program)(E:Env):Prop:=∀ t i,E t=some i->iK P t i
inductive c6 where
 |val(v:Value)| lit (b:Bool)| ref (s off:Nat)| k2
abbrev Fr:=Nat->c6
abbrev c2:=Nat->Option (List Value)
abbrev aS:=Nat->Option Obj
structure ay where
 num:Nat
 obj:Obj
abbrev fo:=Fr->c2->aS->List ay->Prop
def fG(F:Fr)(d:Nat)(x:c6):Fr:=λt=>bif Nat.beq t d then x else F t
def hG(C:c2)(d:Nat)(x:Option (List Value)):c2:=λt=>bif Nat.beq t d then x else C t
def ny(F:Fr)(d:Nat):Fr:=λt=>match F t with
 | .ref s o=>bif Nat.beq s d then .k2 else .ref s o| x=>x
def put(o:Option Nat)(x:c6)(F:Fr):Fr:=match o with
 |some d=>fG F d x| none=>F
def c0(F:Fr):Operand->c6
 | .tmp t=>F t| .const (.bool b)=>.lit b| .const v=>.val v| .global g=>.val (.pointer (some ⟨g,0,none⟩))| .func f=>.val (.func (.func f) #[] #[])
def di(ρ:Operand->c6)(x:Operand):c6:=match ρ x with
 | .lit b=>.val (.bool b)| y=>y
abbrev br(F:Fr):Operand->c6:=di (c0 F)
def pack(agg:Bool)(vs:List Value):Value:=bif agg then .agg vs.toArray else vs.headD undef
def bu(cs:List Value)(off:Nat)(vs:List Value):List Value:=cs.take off++vs++cs.drop (off+vs.length)
def hH(vs:List Value):Bool:=vs.all (·.oneCell')
def EA(c:Bool):c6->c6->c6
 | .val (.bool x),.val (.bool y)=>.val (.bool (bif c then x else y))| .val x,.val y=>.val (bif c then x else y)| _,_=>.k2
def uf(op:BinOp)(x y:Int):Option Bool:=match op with
 | .eql=>some (decide (x=y))| .neq=>some (!decide (x=y))| .lss=>some (decide (x<y))| .leq=>some (decide (x<=y))| .gtr=>some (decide (y<x))| .geq=>some (decide (y<=x))| _=>none
def rA(op:BinOp)(k:IntKind)(x y:Int):Option Int:=
 let a:=BitVec.ofInt k.bits x
 let b:=BitVec.ofInt k.bits y
 match op with
 | .and=>some (k.wrap (a &&& b).toNat)| .or=>some (k.wrap (a ||| b).toNat)| .xor=>some (k.wrap (a ^^^ b).toNat)| .andNot=>some (k.wrap (a &&& ~~~b).toNat)| _=>none
def gO(I:aS)(M:List ay)(b:Nat)(o:Obj):Prop:=I b=some o\/∃ x∈M,x.num=b/\x.obj=o
def ca(I:aS)(M:List ay)(a:Addr)(n:Nat)(vs:List Value):Prop:=
 a.spot=none/\∃ cs T aj,gO I M a.block (.cells cs T aj)/\(cs.toList.drop a.off).take n=vs/\vs.length=n
inductive aF(I:aS)(M:List ay)(a:Addr)(n:Nat)(K:List Value->Prop):Prop
 |mk(vs:List Value)(h:ca I M a n vs)(k:K vs)
inductive cg(M:List ay)(a:Addr)(vs:List Value)(K:List ay->Prop):Prop
 |mk(a6 post:List ay)(cs:Array Value)(T:Nat)(a4:M=a6++⟨a.block,.cells cs T (0,0)⟩::post)(ap:a.spot=none)(ai:a.off+vs.length<=cs.size)(U:hH vs=true)(k:K (a6++⟨a.block,.cells (bu cs.toList a.off vs).toArray T (0,0)⟩::post))
inductive cz(I:aS)(M:List ay)(K:Nat->Prop):Prop
 |mk(k:∀ b,I b=none->(∀ x∈M,x.num≠b)->K b)
inductive bc(a:Option Addr)(n sz:Nat)(k:Int)(K:Addr->Prop):Prop
 |mk(ad:Addr)(j:Nat)(aC:a=some ad)(ae:k=(j:Int))(an:j<n)(h:K (ad.add (j*sz)))
inductive cH(n:Nat)(k:Int)(K:Nat->Prop):Prop
 |mk(j:Nat)(ae:k=(j:Int))(an:j<n)(h:K j)
inductive oC(s:ByteArray)(k:Int)(K:UInt8->Prop):Prop
 |mk(j:Nat)(ae:k=(j:Int))(an:j<s.size)(h:K s[j])
inductive a5(k:IntKind)(n:Int)(K:Int->Prop):Prop
 |mk(r:Int)(h:k.wrap n=r)(a':K r)
inductive l4(y:Int)(K:Prop):Prop
 |mk(h:y≠0)(a':K)
inductive qq(y:Int)(K:Nat->Prop):Prop
 |mk(j:Nat)(h:y=(j:Int))(a':K j)
inductive a0(c:Bool)(X Y:Prop):Prop
 |mk(h:c=true->X)(a':c=false->Y)
inductive oD(l c:Int)(bytes:Nat)(K:Nat->Nat->Prop):Prop
 |mk(n m:Nat)(ar:l=(n:Int))(aL:c=(m:Int))(h:n<=m)(ai:bytes*m<=140737488355328)(hm:m<=9223372036854775807)(k:K n m)
inductive ie(n c:Nat)(lo hi:Option Int)(K:Nat->Nat->Prop):Prop
 |mk(l h:Nat)(ev:lo.getD 0=(l:Int))(e2:hi.getD n=(h:Int))(U:l<=h)(aa:h<=c)(k:K l h)
structure dY(I:aS)(M:List ay)(w:World):Prop where
 i:∀ b o,I b=some o->w.heap[b]?=some o
 m:∀ x∈M,w.heap[x.num]?=some x.obj
 d:∀ x∈M,I x.num=none
 ch:(M.map (·.num)).Nodup
def l5(w w':World):Prop:=w'.os=w.os/\w'.output=w.output
def l5.refl(w:World):l5 w w:=⟨rfl,rfl⟩
def l5.trans{a b c:World}(h:l5 a b)(a':l5 b c):l5 a c:=⟨a'.1.trans h.1,a'.2.trans h.2⟩
structure Kept(I:aS)(M:List ay)(w:World)(I':aS)(M':List ay)(w':World):Prop where
 le:∀ b o,I b=some o->I' b=some o
 sF:∀ b o,I' b=some o->I b=some o\/w.heap.size<=b
 ug:∀ x∈M',(∃ y∈M,y.num=x.num)\/w.heap.size<=x.num
 c3:∀ b,b<w.heap.size->(∀ y∈M,y.num≠b)->w'.heap[b]?=w.heap[b]?
 out:l5 w w'
 sz:w.heap.size<=w'.heap.size
def H9(P:Program)(f:Nat):Prop:=∀ (args:Array Value) (w:World),(callFunc f args).run P w=.ok (.enter f args) w
def uh(P:Program)(f:Nat)(args:List Value)(I:aS)(M:List ay)(post:Value->aS->List ay->Prop):Prop:=
 H9 P f/\∀ w,dY I M w->Calls P f args.toArray w λe w'=>∃ v I' M',e=.returned v/\post v I' M'/\dY I' M' w'/\Kept I M w I' M' w'
def VT(P:Program)(f:Nat)(args:List Value)(I:aS)(M:List ay)(post:Value->aS->List ay->Prop):Prop:=
 ∀ w,dY I M w->∃ v w' I' M',(callFunc f args.toArray).run P w=.ok (.value v) w'/\post v I' M'/\dY I' M' w'/\Kept I M w I' M' w'
def Spec(P:Program)(f:Nat)(args:List Value)(I:aS)(M:List ay)(post:Value->aS->List ay->Prop):Prop:=uh P f args I M post\/VT P f args I M post
def ins(I:aS)(b:Nat)(o:Obj):aS:=λx=>bif Nat.beq x b then some o else I x
inductive i'(bW:List Nat):aS->List ay->aS->List ay->Prop
 |refl{I M}:i' bW I M I M| sub {I M M1 I' M'} (h:List.Sublist M1 M) (k:i' bW I M1 I' M'):i' bW I M I' M'| perm {I M M1 I' M'} (h:M.Perm M1) (k:i' bW I M1 I' M'):i' bW I M I' M'| qs {I M I' M' b o post} (h:M=⟨b,o⟩::post) (az:b ∉ bW) (k:i' bW (ins I b o) post I' M'):i' bW I M I' M'
structure qt(I:aS)(M:List ay):Prop where
 d:∀ x∈M,I x.num=none
 ch:(M.map (·.num)).Nodup
inductive bb(bW:List Nat)(P:Program)(f:Nat)(args:List Value)(I:aS)(M:List ay)(K:Value->aS->List ay->Prop):Prop
 |mk(db Mr:List ay)(post:Value->aS->List ay->Prop)(a4:M.Perm (db++Mr))(ap:Spec P f args I db post)(k:∀ v I' M',(∀ b o,I b=some o->I' b=some o)->post v I' M'->K v I' (M'++Mr))| H' (db Mr:List ay) (post:Value->aS->List ay->Prop) (a4:M.Perm (db++Mr)) (ap:Spec P f args I db post) (k:∀ v I' M',(∀ b o,I b=some o->I' b=some o)->(∀ x∈M'++Mr,I' x.num=none)->post v I' M'->K v I' (M'++Mr))| Ia (cL:aS) (db Mr:List ay) (post:Value->aS->List ay->Prop) (hw:i' bW I M cL (db++Mr)) (ap:Spec P f args cL db post) (k:∀ v I' M',(∀ b o,cL b=some o->I' b=some o)->(∀ x∈M'++Mr,I' x.num=none)->post v I' M'->K v I' (M'++Mr))| EB (h:qt I M->bb bW P f args I M K)
def bb.elim{I:aS}{M:List ay}{K:Value->aS->List ay->Prop}(ja:qt I M)(h:bb bW P f args I M K) :
  ∃ (cL:aS) (db Mr:List ay) (post:Value->aS->List ay->Prop),i' bW I M cL (db++Mr)/\Spec P f args cL db post/\∀ v I' M',(∀ b o,cL b=some o->I' b=some o)->(∀ x∈M'++Mr,I' x.num=none)->post v I' M'->K v I' (M'++Mr):=by
 induction h with
 |mk db Mr post a4 ap k=>exact⟨I,db,Mr,post,.perm a4 .refl,ap,λv I' M' U _ aa=>k v I' M' U aa⟩| H' db Mr post a4 ap k=>exact⟨I,db,Mr,post,.perm a4 .refl,ap,k⟩| Ia cL db Mr post hw ap k=>exact⟨cL,db,Mr,post,hw,ap,k⟩| EB h be=>exact be ja
structure cD where
 P:Program
 E:Env
 fH:List Nat
 n:Nat
 B:Nat
 ao:World
 dj:aS
 bW:List Nat
 ro:Option Nat
def fN(X:cD):Fence:={ Fence.wide with round:=X.ro }
def dZ(β:Nat->Nat):c6->Value->Prop
 | .val v,u=>u=v| .lit b,u=>u=.bool b| .ref s off,u=>u=.pointer (some ⟨β s,off,none⟩)| .k2,_=>True
structure ui(X:cD)(w:World)(I:aS)(M:List ay)(b:Nat)(cs:List Value):Prop where
 aH:∃ T,w.heap[b]?=some (.cells cs.toArray T (0,0))
 a3:X.B<=b
 ig:I b=none
 ec:∀ x∈M,x.num≠b
structure sG(X:cD)(w:World)(I:aS)(M:List ay)(r:Nat):Prop where
 aH:w.heap[r]?=some (.deferred (some []))
 a3:X.B<=r
 ig:I r=none
 ec:∀ x∈M,x.num≠r
def uj(r:Nat):Deferred:={ target:=.collected r,args:=#[] }
def Marks(X:cD)(a:Act)(w:World)(I:aS)(M:List ay):Prop:=∃ bd:List Nat,a.defers=bd.map uj/\bd.Nodup/\∀ r∈bd,sG X w I M r
structure cp(X:cD)(β:Nat->Nat)(a:Act)(w:World)(F:Fr)(C:c2)(I:aS)(M:List ay):Prop where
 size:a.tmps.size=X.n
 defers:Marks X a w I M
 holds:dY I M w
 aj:∀ t,dZ β (F t) (a.tmps.getD t undef)
 b5:∀ s cs,C s=some cs->ui X w I M (β s) cs
 inj:∀ s cq,C s≠none->C cq≠none->β s=β cq->s=cq
 gP:∀ b o,X.dj b=some o->I b=some o
 gu:∀ b o,I b=some o->X.dj b=some o\/X.B<=b
 own:∀ x∈M,x.num∈X.bW\/X.B<=x.num
 c3:∀ b,b<X.B->b ∉ X.bW->w.heap[b]?=X.ao.heap[b]?
 out:l5 X.ao w
 sz:X.B<=w.heap.size
def Rel(X:cD)(a:Act)(w:World)(F:Fr)(C:c2)(I:aS)(M:List ay):Prop:=∃ β,cp X β a w F C I M
def Sat(X:cD)(K:fo)(a:Act)(w:World):Prop:=∃ F C I M,Rel X a w F C I M/\K F C I M
inductive bl(X:cD)(o:Oper)(F:Fr)(C:c2)(I:aS)(M:List ay)(K:fo):Prop
 |mk(h:∀ a w Q,Rel X a w F C I M->o.wpIn (fN X) 0 X.P a w (Sat X K) Q)
def ih(ρ:Operand->c6):List Operand->Option (List Value)
 |[]=>some []
 |x::xs=>match di ρ x,ih ρ xs with
  | .val v,some vs=>some (v::vs)| _,_=>none
abbrev kz(F:Fr):List Operand->Option (List Value):=ih (c0 F)
def qu(place:Nat->Option (Nat×Nat))(cells:List Value):List (Nat×Value)->Option (List Value)
 |[]=>some cells
 |(i,v)::a2=>match place i with
  |none=>none| some (off,size)=>bif Nat.beq v.cells.size size&&Nat.ble (off+size) cells.length then qu place (bu cells off v.cells.toList) a2 else none
def qv(ρ:Operand->c6):List (Nat×Operand)->Option (List (Nat×Value))
 |[]=>some []
 |(i,x)::xs=>match di ρ x,qv ρ xs with
  | .val v,some vs=>some ((i,v)::vs)| _,_=>none
abbrev xv(F:Fr):List (Nat×Operand)->Option (List (Nat×Value)):=qv (c0 F)
def places(E:Env)(b':List (Nat×Nat))(i:Nat):Option (Nat×Nat):=match b'[i]? with
 |some (kA,off)=>match E kA with
  |some fW=>some (off,fW.size)| none=>none
 |none=>none
def zt(E:Env)(b':List (Nat×Nat)):Bool:=b'.all λf=>(E f.1).isSome
def rowOf(zero:List Value)(n:Nat):List Value:=(List.range n).map λi=>zero[i%zero.length]!
def vx(zero:List Value)(n:Nat):rowOf zero n=(madeCells zero.toArray n).toList:=by simp[rowOf,madeCells]
def IntKind.jU:IntKind->IntKind->Bool
 | .i8,.i8 | .i16,.i16 | .i32,.i32 | .i64,.i64 | .u8,.u8 | .u16,.u16 | .u32,.u32 | .u64,.u64=>true| _,_=>false
def jV(op:BinOp)(dc:Option dz)(x y:c6)(K:Value->Prop)(other:Prop):Prop:=
 match x,y with
 | .val (.int k a),.val (.int dq b)=>
  match op with
  | .shl=>qq b λj=>a5 k (a*2^(min j k.bits)) λr=>K (.int k r)
  | .shr=>qq b λj=>K (.int k (a.fdiv (2^(min j k.bits))))
  |op=>bif IntKind.jU k dq then
    (match op with
    | .add=>a5 k (a+b) λr=>K (.int k r)
    | .sub=>a5 k (a-b) λr=>K (.int k r)
    | .mul=>a5 k (a*b) λr=>K (.int k r)
    | .quo=>l4 b (a5 k (a.tdiv b) λr=>K (.int k r))| .rem=>l4 b (K (.int k (a.tmod b)))
    | .and | .or | .xor | .andNot=>(match rA op k a b with
     |some r=>K (.int k r)| none=>False)
    |op=>(match uf op a b with
     |some r=>K (.bool r)| none=>False))
   else False
 | .val (.string a),.val (.string b)=>
  match op with
  | .eql=>K (.bool (decide (a=b)))| .neq=>K (.bool (!decide (a=b)))| _=>other
 | .val (.bool a),.val (.bool b)=>
  match dc with
  |some { bz:=.bool,.. }=>
   (match op with
   | .eql=>K (.bool (a == b))| .neq=>K (.bool (!(a == b)))| _=>other)
  |_=>other
 |_,_=>other
inductive fh(P:Program)(op:BinOp)(t:Nat)(x y:Operand)(p q:c6)(K:Value->Prop)(other:Prop):Prop
 |mk(nz eR v:Value)(aG:p=.val nz)(aO:q=.val eR)(h:∀ w,(do eqGuard op t x y nz eR;binOp op t nz eR:Sem Value).run P w=.ok v w)(k:K v)| other (h:other)
def cb(X:cD)(op:Op)(ρ:Operand->c6)(C:c2)(I:aS)(M:List ay)(V:c6->Prop)(other:Prop):Prop:=
 match op with
 | .move x | .assign x=>V (ρ x)
 | .pick c a b=>
  match ρ c with
  | .lit c=>V (bif c then ρ a else ρ b)| .val (.bool c)=>V (EA c (di ρ a) (di ρ b))| _=>False
 | .unOp op _ x=>
  match op,ρ x with
  | .not,.lit b=>V (.lit (!b))| .not,.val (.bool b)=>V (.val (.bool (!b)))| .neg,.val (.int k n)=>a5 k (0-n) λr=>V (.val (.int k r))
  |_,_=>other
 | .binOp op t x y _=>jV op (X.E t) (di ρ x) (di ρ y) (λv=>V (.val v)) (fh X.P op t x y (di ρ x) (di ρ y) (λv=>V (.val v)) other)
 | .load t x=>
  match X.E t with
  |some i=>
   (match ρ x with
   | .ref s off=>
    (match C s with
    |some cs=>bif Nat.ble (off+i.size) cs.length then V (.val (pack i.bz.agg ((cs.drop off).take i.size)))else False| none=>False)
   | .val (.pointer (some a))=>aF I M a i.size λvs=>V (.val (pack i.bz.agg vs))
   |_=>False)
  |none=>False
 | .nilCheck x=>
  match ρ x with
  | .ref s off=>V (.ref s off)| .val (.pointer (some a))=>V (.val (.pointer (some a)))| _=>other
 | .fieldAddr t x i=>
  match X.E t with
  |some { bz:=.struct b',.. }=>
   (match b'[i]? with
   |some (kA,off)=>
    (match X.E kA,ρ x with
    |some fW,.ref s o'=>bif Nat.beq fW.size 0 then False else V (.ref s (o'+off))| some fW,.val (.pointer (some a))=>bif Nat.beq fW.size 0 then False else V (.val (.pointer (some (a.add off))))| _,_=>False)
   |none=>False)
  |_=>False
 | .field t x i=>
  match X.E t,di ρ x with
  |some { bz:=.struct b',.. },.val (.agg cs)=>
   (match b'[i]? with
   |some (kA,off)=>
    (match X.E kA with
    |some fW=>bif Nat.ble (off+fW.size) cs.size then V (.val (pack fW.bz.agg ((cs.toList.drop off).take fW.size)))else False| none=>False)
   |none=>False)
  |_,_=>False
 | .indexAddr t x i=>
  match X.E t,di ρ i with
  |some { bz:=.slice e,.. },.val (.int _ k)=>
   (match X.E e,di ρ x with
   |some aD,.val (.slice a n _)=>bc a n aD.size k λad=>V (.val (.pointer (some ad)))
   |_,_=>False)
  |some { bz:=.array n e,.. },.val (.int _ k)=>
   (match X.E e,ρ x with
   |some aD,.ref s o'=>cH n k λj=>V (.ref s (o'+j*aD.size))
   |some aD,.val (.pointer (some a))=>cH n k λj=>V (.val (.pointer (some (a.add (j*aD.size)))))
   |_,_=>False)
  |_,_=>False
 | .index t x i=>
  match X.E t,di ρ x,di ρ i with
  |some { bz:=.string,.. },.val (.string s),.val (.int _ k)=>oC s k λb=>V (.val (.int .u8 b.toNat))
  |some { bz:=.array n e,.. },.val (.agg cs),.val (.int _ k)=>
   (match X.E e with
   |some aD=>bif Nat.beq (n*aD.size) cs.size then cH n k λj=>V (.val (pack aD.bz.agg ((cs.toList.drop (j*aD.size)).take aD.size)))else False
   |none=>False)
  |_,_,_=>False
 | .build t parts=>
  match X.E t,qv ρ parts.toList with
  |some i,some vs=>
   (match i.bz with
   | .struct b'=>bif zt X.E b' then(match qu (places X.E b') i.zero vs with
    |some cells=>V (.val (.agg cells.toArray))| none=>False)else False
   | .array _ e=>(match X.E e with
    |some aD=>(match qu (λj=>some (j*aD.size,aD.size)) i.zero vs with
     |some cells=>V (.val (.agg cells.toArray))| none=>False)
    |none=>False)
   |_=>False)
  |_,_=>False
 | .makeFunc fn first captured=>
  match ih ρ first.toList,ih ρ captured.toList with
  |some b',some cs=>V (.val (.func fn b'.toArray cs.toArray))| _,_=>False
 | .slice t x lo hi mx=>
  match X.E t,di ρ x,mx with
  |some { bz:=.slice e,.. },.val (.slice a n c),none=>
   (match X.E e,lo.map (di ρ),hi.map (di ρ)with
   |some aD,none,none=>V (.val (.slice a n c))| some aD,none,some (.val (.int _ h))=>ie n c none (some h) λ_ h=>V (.val (.slice a h c))
   |some aD,some (.val (.int _ l)),none=>ie n n (some l) none λl _=>V (.val (.slice (if c=l then a else a.map (·.add (l*aD.size))) (n-l) (c-l)))
   |some aD,some (.val (.int _ l)),some (.val (.int _ h))=>ie n c (some l) (some h) λl h=>V (.val (.slice (if c=l then a else a.map (·.add (l*aD.size))) (h-l) (c-l)))
   |_,_,_=>False)
  |some { bz:=.string,.. },.val (.string s),none=>
   (match lo.map (di ρ),hi.map (di ρ)with
   |none,none=>V (.val (.string s))| none,some (.val (.int _ h))=>ie s.size s.size none (some h) λ_ h=>V (.val (.string (s.extract 0 h)))
   |some (.val (.int _ l)),none=>ie s.size s.size (some l) none λl _=>V (.val (.string (s.extract l s.size)))
   |some (.val (.int _ l)),some (.val (.int _ h))=>ie s.size s.size (some l) (some h) λl h=>V (.val (.string (s.extract l h)))
   |_,_=>False)
  |_,_,_=>other
 | .extract x i=>
  match di ρ x with
  | .val (.tuple vs)=>(match vs.toList[i]? with
   |some v=>V (.val v)| none=>False)
  |_=>False
 | .convert s d x=>
  match X.E s,X.E d,di ρ x with
  |some _,some { bz:=.int k,.. },.val (.int _ n)=>a5 k n λr=>V (.val (.int k r))
  |_,_,_=>other
 | .call { callee:=.builtin .len,args,argTypes }=>
  match argTypes.toList,ih ρ args.toList with
  |[t],some [v]=>
   (match X.E t,v with
   |some { bz:=.slice _,.. },.slice _ n _=>V (.val (.int .i64 n))| some { bz:=.string,.. },.string s=>V (.val (.int .i64 s.size))| some { bz:=.array n _,.. },_=>V (.val (.int .i64 n))| _,_=>other)
  |_,_=>other
 | .call { callee:=.builtin .cap,args,argTypes }=>
  match argTypes.toList,ih ρ args.toList with
  |[t],some [v]=>
   (match X.E t,v with
   |some { bz:=.slice _,.. },.slice _ _ c=>V (.val (.int .i64 c))| _,_=>other)
  |_,_=>other
 | .call { callee:=.builtin .max,args,.. }=>
  match ih ρ args.toList with
  |some [.int k a,.int _ b]=>V (.val (.int k (max a b)))| _=>other
 | .call { callee:=.builtin .min,args,.. }=>
  match ih ρ args.toList with
  |some [.int k a,.int _ b]=>V (.val (.int k (min a b)))| _=>other
 | .call { callee:=.builtin .unsafeSliceData,args,.. }=>
  match ih ρ args.toList with
  |some [.slice none _ _]=>V (.val (.pointer none))| some [.slice (some a) _ c]=>l4 c (V (.val (.pointer (some a))))| _=>other
 |_=>other
def fO(X:cD)(o:Oper)(F:Fr)(C:c2)(I:aS)(M:List ay)(K:fo):Prop:=
 match o.op with
 | .box t x=>
  match o.dst,br F x with
  |some d,.val v=>
   bif X.fH.contains d then cz I M λb=>K (fG (ny F d) d (.val (.pointer (some ⟨b,0,none⟩)))) (hG C d none) I (⟨b,.cells v.cells t (0,0)⟩::M)
   else K (fG (ny F d) d (.ref d 0)) (hG C d (some v.cells.toList)) I M
  |_,_=>False
 | .alloc t=>
  match o.dst,X.E t with
  |some d,some i=>
   bif X.fH.contains d then cz I M λb=>K (fG (ny F d) d (.val (.pointer (some ⟨b,0,none⟩)))) (hG C d none) I (⟨b,.cells i.zero.toArray t (0,0)⟩::M)
   else K (fG (ny F d) d (.ref d 0)) (hG C d (some i.zero)) I M
  |_,_=>False
 | .store t x y=>
  match o.dst,X.E t,br F y with
  |none,some i,.val v=>
   (match c0 F x with
   | .ref s off=>
    (match C s with
    |some cs=>bif Nat.ble (off+i.size) cs.length&&(Nat.beq v.cells.size i.size&&hH v.cells.toList)then K F (hG C s (some (bu cs off v.cells.toList))) I M else False| none=>False)
   | .val (.pointer (some a))=>bif Nat.beq v.cells.size i.size then cg M a v.cells.toList λM'=>K F C I M' else False
   |_=>False)
  |_,_,_=>False
 | .buildSlice t len parts=>
  match X.E t,xv F parts.toList with
  |some { bz:=.slice e,.. },some vs=>
   (match X.E e with
   |some aD=>
    bif Nat.ble (len*aD.size) 16777216&&Nat.blt 0 (len*aD.size)then
     (match qu (λj=>some (j*aD.size,aD.size)) (rowOf aD.zero (len*aD.size)) vs with
     |some cells=>cz I M λb=>K (put o.dst (.val (.slice (some ⟨b,0,none⟩) len len)) F) C I (⟨b,.cells cells.toArray e (0,0)⟩::M)
     |none=>False)
    else(match len,vs with
     |0,[]=>cz I M λb=>K (put o.dst (.val (.slice (some ⟨b,0,none⟩) 0 0)) F) C I (⟨b,.cells #[] e (0,0)⟩::M)
     |_,_=>False)
   |none=>False)
  |_,_=>False
 | .makeSlice t l c=>
  match X.E t,br F l,br F c with
  |some { bz:=.slice e,.. },.val (.int _ l),.val (.int _ c)=>
   (match X.E e with
   |some aD=>oD l c aD.bytes λn m=>cz I M λb=>K (put o.dst (.val (.slice (some ⟨b,0,none⟩) n m)) F) C I (⟨b,.cells (rowOf aD.zero (m*aD.size)).toArray e (0,0)⟩::M)
   |none=>False)
  |_,_,_=>False
 | .call { callee:=.value f,args,.. }=>
  match br F f,kz F args.toList with
  | .val (.func (.func g) first cap),some vs=>bb X.bW X.P g (first.toList++vs++cap.toList) I M λv I' M'=>K (put o.dst (.val v) F) C I' M'
  |_,_=>bl X o F C I M K
 |op=>cb X op (c0 F) C I M (λx=>K (put o.dst x F) C I M) (bl X o F C I M K)
inductive cB(c b:Bool)(Y N:Prop):Prop
 |mk(h:c=b->Y)(a':c=!b->N)
def rB(X:cD)(ops:List Oper):List Oper->Fr->c2->aS->List ay->fo->Prop
 |[],F,C,I,M,K=>K F C I M
 |o::a2,F,C,I,M,K=>
  match o.guard with
  |none=>fO X o F C I M λF C I M=>rB X ops a2 F C I M K
  |some (j,b)=>
   match(ops[j]?).bind (·.dst)with
   |none=>False
   |some d=>
    match F d with
    | .lit c=>bif c == b then fO X o F C I M λF C I M=>rB X ops a2 F C I M K else rB X ops a2 (put o.dst (.val undef) F) C I M K
    | .val (.bool c)=>cB c b (fO X o (fG F d (.lit b)) C I M λF C I M=>rB X ops a2 F C I M K) (rB X ops a2 (put o.dst (.val undef) (fG F d (.lit !b))) C I M K)| .val (.tuple _)=>rB X ops a2 (put o.dst (.val undef) F) C I M K| _=>False
def fX{a b:Nat}(h:¬ a=b):Nat.beq a b=false:=by
 cases ai:Nat.beq a b with
 |false=>rfl| true=>exact absurd (cf ai) h
def oE(a:Nat):Nat.beq a a=true:=Nat.beq_refl a
def Bx(w:World)(o:Obj){i:Nat}(h:i<w.heap.size):(w.alloc o).heap[i]?=w.heap[i]?:=by show(w.heap.push o)[i]?=_;simp[Array.getElem?_push,Nat.ne_of_lt h]
def Ib(w:World)(o:Obj):(w.alloc o).heap[w.heap.size]?=some o:=by show(w.heap.push o)[w.heap.size]?=_;simp
section
variable{X:cD}{β:Nat->Nat}{a:Act}{w:World}{F:Fr}{C:c2}{I:aS}{M:List ay}{o:Oper}{Q:Exit->Act->World->Prop}{next:Act->World->Prop}{K:fo}
def uk(h:∀ t,dZ β (F t) (a.tmps.getD t undef))(x:Operand):dZ β (c0 F x) (a.eval x):=by
 cases x with
 |tmp t=>exact h t| const v=>cases v<;>exact rfl
 |global g=>exact rfl| func f=>exact rfl
def cV(h:∀ t,dZ β (F t) (a.tmps.getD t undef)){x:Operand}(ab:br F x=.val v):a.eval x=v:=by
 have U:=uk h x;unfold br di at ab;split at ab
 ·rename_i b ai;rw[ai]at U;cases ab;exact U
 ·rw[ab]at U;exact U
def rC(h:∀ t,dZ β (F t) (a.tmps.getD t undef)){x:Operand}(ab:c0 F x=.val v):a.eval x=v:=by have U:=uk h x;rw[ab]at U;exact U
def Ic(h:∀ t,dZ β (F t) (a.tmps.getD t undef)){x:Operand}{b:Bool}(ab:c0 F x=.lit b):a.eval x=.bool b:=by have U:=uk h x;rw[ab]at U;exact U
def xw(h:∀ t,dZ β (F t) (a.tmps.getD t undef)){x:Operand}{s:Nat}(ab:c0 F x=.ref s off):a.eval x=.pointer (some ⟨β s,off,none⟩):=by have U:=uk h x;rw[ab]at U;exact U
def Ns(h:∀ t,dZ β (F t) (a.tmps.getD t undef))(x:Operand):dZ β (br F x) (a.eval x):=by
 have U:=uk h x;unfold br di;split
 ·rename_i b ai;rw[ai]at U;exact U
 ·exact U
def qw(h:∀ t,dZ β (F t) (a.tmps.getD t undef)):∀ {xs:List Operand} {vs:List Value},kz F xs=some vs->xs.map a.eval=vs
 |[],vs,ab=>by simp[kz,ih]at ab;simp[ab]
 |x::xs,vs,ab=>by
  unfold kz ih at ab;split at ab;·rename_i v qx U aa;cases ab;simp[cV h U,qw h aa]
  ·cases ab
def EC(h:∀ t,dZ β (F t) (a.tmps.getD t undef)):∀ {xs:List (Nat×Operand)} {vs:List (Nat×Value)},xv F xs=some vs->(xs.map λ(i,x)=>(i,a.eval x))=vs
 |[],vs,ab=>by simp[xv,qv]at ab;simp[ab]
 |(i,x)::xs,vs,ab=>by
  unfold xv qv at ab;split at ab;·rename_i v qx U aa;cases ab;simp[cV h U,EC h aa]
  ·cases ab
def hV(cJ:∀ c,o.op≠.defer c)(h:(execOp a.eval o).run X.P w=.ok (.value v) w')(ae:next (a.put o.dst v) w'):o.wpIn (fN X) 0 X.P a w next Q:=
 ⟨λ_ _=>trivial,by rw[Ex _ _ _ cJ,h];exact ae⟩
def zu(cJ:∀ c,o.op≠.defer c)(h:(execOp a.eval o).run X.P w=.ok .skip w')(ae:next (a.put o.dst undef) w'):o.wpIn (fN X) 0 X.P a w next Q:=
 ⟨λ_ _=>trivial,by rw[Ex _ _ _ cJ,h];exact ae⟩
def Nt(a:Act)(d t:Nat)(v:Value)(ah:d<a.tmps.size):(a.put (some d) v).tmps.getD t undef=if t=d then v else a.tmps.getD t undef:=by
 simp only[Act.put,mL,zn];by_cases h:t=d
 ·subst h;simp[ah]
 ·simp[h,qo h]
def Ie(h:∀ t,dZ β (F t) (a.tmps.getD t undef)){d:Nat}{x:c6}(ah:d<a.tmps.size)(ab:dZ β x v)(t:Nat):dZ β (fG F d x t) ((a.put (some d) v).tmps.getD t undef):=by
 rw[Nt a d t v ah];unfold fG;by_cases U:t=d
 ·subst U;simp only[oE,bh,qp];exact ab
 ·have:Nat.beq t d=false:=fX U;simp only[this,ba,cA U];exact h t
def Nu(w:World)(g:Nat)(cs:Array Value):l5 w (w.setRow g cs):=by
 unfold World.setRow
 first | exact⟨rfl,rfl⟩ | (split<;>exact⟨rfl,rfl⟩)
def ED(w:World)(g:Nat)(o:Obj):l5 w (w.putObj g o):=by unfold World.putObj;exact⟨rfl,rfl⟩
def Marks.mono(h:Marks X a w I M){I':aS}{M':List ay}(hm:∀ r,sG X w I M r->sG X w' I' M' r):Marks X a w' I' M':=by obtain⟨bd,U,aa,af⟩:=h;exact⟨bd,U,aa,λr al=>hm r (af r al)⟩
def cp.put(h:cp X β a w F C I M)(ah:∀ d,dst=some d->d<X.n){x:c6}(ab:dZ β x v):cp X β (a.put dst v) w (put dst x F) C I M:=by
 cases dst with
 |none=>exact h
 |some d=>
  refine { h with size:=?_,defers:=h.defers,aj:=?_ };·simp[Act.put,h.size]
  ·exact Ie h.aj (by rw[h.size];exact ah d rfl) ab
def dY.heap(h:dY I M w)(bA:w'.heap=w.heap):dY I M w':=
 { i:=by rw[bA];exact h.i,m:=by rw[bA];exact h.m,d:=h.d,ch:=h.ch }
def cp.world(h:cp X β a w F C I M)(bA:w'.heap=w.heap)(aq:l5 w w':=by exact⟨rfl,rfl⟩):cp X β a w' F C I M:=
 { h with
  holds:={ i:=by rw[bA];exact h.holds.i,m:=by rw[bA];exact h.holds.m,d:=h.holds.d,ch:=h.holds.ch }
  defers:=h.defers.mono λr al=>{ al with aH:=by rw[bA];exact al.aH }
  b5:=λs cs ap=>{ h.b5 s cs ap with aH:=by rw[bA];exact(h.b5 s cs ap).aH }
  c3:=by rw[bA];exact h.c3
  out:=h.out.trans aq
  sz:=by rw[bA];exact h.sz }
def dY.alloc(h:dY I M w)(o:Obj):dY I M (w.alloc o) where
 i b x ai:=by have U:=h.i b x ai;rw[Bx w o (jS.1 U).1];exact U
 m x ab:=by have U:=h.m x ab;rw[Bx w o (jS.1 U).1];exact U
 d:=h.d
 ch:=h.ch
def dY.lt(h:dY I M w){x:ay}(ab:x∈M):x.num<w.heap.size:=(jS.1 (h.m x ab)).1
def dY.zv(h:dY I M w){b:Nat}{o:Obj}(ai:I b=some o):b<w.heap.size:=(jS.1 (h.i b o ai)).1
def dY.pK(h:dY I M w):I w.heap.size=none:=by
 cases ai:I w.heap.size with
 |none=>rfl| some o=>exact absurd (h.zv ai) (Nat.lt_irrefl _)
def dY.oF(h:dY I M w):∀ x∈M,x.num≠w.heap.size:=λx ab e=>by have:=h.lt ab;omega
def dY.cons(h:dY I M w)(o:Obj):dY I (⟨w.heap.size,o⟩::M) (w.alloc o) where
 i:=(h.alloc o).i
 m x ab:=by
  rcases eg.1 ab with rfl | ab;·exact Ib w o
  ·exact(h.alloc o).m x ab
 d x ab:=by
  rcases eg.1 ab with rfl | ab;·exact h.pK
  ·exact h.d x ab
 ch:=by simp only[dV,lA];refine⟨λhm=>?_,h.ch⟩;obtain⟨x,ab,e⟩:=ej.1 hm;exact h.oF x ab e
def ui.alloc{b:Nat}{cs:List Value}(h:ui X w I M b cs)(o:Obj):ui X (w.alloc o) I M b cs where
 aH:=by obtain⟨T,b6⟩:=h.aH;exact⟨T,by rw[Bx w o (jS.1 b6).1];exact b6⟩
 a3:=h.a3
 ig:=h.ig
 ec:=h.ec
def ui.lt{b:Nat}{cs:List Value}(h:ui X w I M b cs):b<w.heap.size:=by obtain⟨T,b6⟩:=h.aH;exact(jS.1 b6).1
def ui.If{b:Nat}{cs:List Value}(h:ui X w I M b cs)(o:Obj):ui X (w.alloc o) I (⟨w.heap.size,o⟩::M) b cs where
 aH:=(h.alloc o).aH
 a3:=h.a3
 ig:=h.ig
 ec x ab:=by
  rcases eg.1 ab with rfl | ab
  ·exact λe=>by have:=h.lt;simp only at e;omega
  ·exact h.ec x ab
def sG.alloc{r:Nat}(h:sG X w I M r)(o:Obj):sG X (w.alloc o) I M r:=
 { h with aH:=by rw[Bx w o (jS.1 h.aH).1];exact h.aH }
def sG.If{r:Nat}(h:sG X w I M r)(o:Obj):sG X (w.alloc o) I (⟨w.heap.size,o⟩::M) r:=by
 refine { h.alloc o with ec:=λx ab=>?_ };rcases eg.1 ab with rfl | ab
 ·have U:=(jS.1 h.aH).1;simp only;omega
 ·exact h.ec x ab
def Ig(h:∀ b,b<X.B->b ∉ X.bW->w.heap[b]?=X.ao.heap[b]?)(cI:X.B<=w.heap.size)(o:Obj):∀ b,b<X.B->b ∉ X.bW->(w.alloc o).heap[b]?=X.ao.heap[b]?:=λb ai az=>by rw[Bx w o (by omega)];exact h b ai az
def cp.mM(h:cp X β a w F C I M)(o:Obj):cp X β a (w.alloc o) F C I (⟨w.heap.size,o⟩::M) where
 size:=h.size
 defers:=h.defers.mono λr al=>al.If o
 holds:=h.holds.cons o
 aj:=h.aj
 b5 s cs ap:=(h.b5 s cs ap).If o
 inj:=h.inj
 gP:=h.gP
 gu:=h.gu
 own x ab:=by
  rcases eg.1 ab with rfl | ab;·exact .inr h.sz
  ·exact h.own x ab
 c3:=Ig h.c3 h.sz o
 out:=h.out
 sz:=by have:=h.sz;simp;omega
def cp.Ih(h:cp X β a w F C I M)(d:Nat):cp X β a w (ny F d) (hG C d none) I M where
 size:=h.size
 defers:=h.defers
 holds:=h.holds
 aj t:=by
  have U:=h.aj t;unfold ny;cases cr:F t with
  |ref s off=>
   rw[cr]at U;simp only;cases Nat.beq s d;·exact U
   ·trivial
  |_=>rw[cr]at U;exact U
 b5 s cs ap:=by
  unfold hG at ap;cases ai:Nat.beq s d with
  |true=>simp[ai]at ap| false=>simp[ai]at ap;exact h.b5 s cs ap
 inj s cq U aa:=h.inj s cq (λe=>U (by simp[hG,e])) (λe=>aa (by simp[hG,e]))
 gP:=h.gP
 gu:=h.gu
 own:=h.own
 c3:=h.c3
 out:=h.out
 sz:=h.sz
def cp.Nv(h:cp X β a w F C I M)(d:Nat)(ah:d<X.n)(cs:List Value)(T:Nat) :
  ∃ l6,cp X l6 (a.put (some d) (.pointer (some ⟨w.heap.size,0,none⟩))) (w.alloc (.cells cs.toArray T (0,0))) (fG (ny F d) d (.ref d 0)) (hG C d (some cs)) I M:=by
 have ao:=h.Ih d;let l6:Nat->Nat:=λs=>if s=d then w.heap.size else β s
 refine⟨l6,?_⟩;have rD:∀ t,dZ l6 (ny F d t) (a.tmps.getD t undef):=λt=>by
  have U:=ao.aj t;cases cr:ny F d t with
  |ref s off=>
   rw[cr]at U;have ap:s≠d:=by
    intro e;subst e;unfold ny at cr;split at cr
    ·rename_i cq EE EF;cases ai:Nat.beq cq s with
     |true=>simp[ai]at cr| false=>simp[ai]at cr;obtain⟨rfl,_⟩:=cr;simp at ai
    ·rename_i bB;exact bB _ _ cr
   simp only[dZ,l6,cA ap];exact U
  |_=>rw[cr]at U;exact U
 exact {
  size:=by simp[Act.put,h.size]
  defers:=h.defers.mono λr al=>al.alloc _
  holds:=h.holds.alloc _
  aj:=Ie rD (by rw[h.size];exact ah) (by simp[dZ,l6])
  b5:=λs cs' ap=>by
   by_cases e:s=d;·subst e;simp[hG]at ap;subst ap;simp only[l6,cK rfl];exact { aH:=⟨T,Ib w _⟩,a3:=h.sz,ig:=h.holds.pK,ec:=h.holds.oF }
   ·have ai:Nat.beq s d=false:=fX e;simp[hG,ai]at ap;simp only[l6,cA e];exact(h.b5 s cs' ap).alloc _
  inj:=λs cq U aa he=>by
   by_cases e:s=d<;>by_cases bn:cq=d
   ·rw[e,bn]
   ·exfalso;have ai:Nat.beq cq d=false:=fX bn;simp[hG,ai]at aa;obtain⟨c,aL⟩:=Em.1 aa;have:=(h.b5 cq c aL).lt;simp only[l6,cK e,cA bn]at he;omega
   ·exfalso;have ai:Nat.beq s d=false:=fX e;simp[hG,ai]at U;obtain⟨c,aL⟩:=Em.1 U;have:=(h.b5 s c aL).lt;simp only[l6,cA e,cK bn]at he;omega
   ·have ai:Nat.beq s d=false:=fX e;have hI:Nat.beq cq d=false:=fX bn;simp[hG,ai]at U;simp[hG,hI]at aa;simp only[l6,cA e,cA bn]at he;exact h.inj s cq U aa he
  gP:=h.gP
  gu:=h.gu
  own:=h.own
  c3:=Ig h.c3 h.sz _
  out:=h.out
  sz:=by have:=h.sz;simp;omega }
def dS(a:Addr)(h:a.spot=none)(j:Nat):a.add j=⟨a.block,a.off+j,none⟩:=by
 obtain⟨b,o,s⟩:=a;simp only at h;subst h;unfold Addr.add;split<;>simp_all
def sH{b:Nat}(aA:w.heap[b]?=some (.cells cs T aj))(j:Nat):w.cell? ⟨b,j,none⟩=cs[j]?:=by simp[World.cell?,aA]
variable{P:Program}{t:Nat}{i:dz}
def iK.run_sizeOf(h:iK P t i)(w:World):(sizeOf t).run P w=.ok i.size w:=by obtain⟨inf,z,U,aa,_⟩:=h.inf;simp[sizeOf,typeInfo,U,aa]
def iK.By(h:iK P t i)(w:World):∃ z,(zeroValue t).run P w=.ok z w/\z.cells.toList=i.zero:=by obtain⟨inf,z,U,aa,af,aR,bC⟩:=h.inf;exact⟨z,by simp[zeroValue,typeInfo,U,aR],bC⟩
def iK.VU(h:iK P t i)(w:World):∃ d,(underlying t).run P w=.ok d w/\eD d=i.bz:=by obtain⟨d,U,aa⟩:=h.eJ;exact⟨d,run_underlying U w,aa⟩
def iK.Nw(h:iK P t i)(w:World):(isAgg t).run P w=.ok i.bz.agg w:=by
 obtain⟨d,U,aa⟩:=h.VU w;rw[<-aa];unfold isAgg;simp only[bZ,U,bK];cases d<;>rfl
def VV(ar:vs.length=1):vs=[vs.headD undef]:=by
 match vs,ar with
 |[v],_=>rfl
def EG(h:iK P t i){a:Addr}(ap:a.spot=none)(aA:w.heap[a.block]?=some (.cells cs T aj))
  (ag:(cs.toList.drop a.off).take i.size=vs) (ar:vs.length=i.size):(loadVar t a).run P w=.ok (pack i.bz.agg vs) w:=by
 have aL:∀ j v,vs[j]?=some v->w.cell? (a.add j)=some v:=by
  intro j v an;rw[dS a ap,sH aA];rw[<-ag,kx]at an;split at an;·rw[pI]at an;simpa using an
  ·cases an
 unfold loadVar;simp only[bZ,h.Nw,bK];cases Bz:i.bz.agg with
 |true=>simp only[qp,bZ,h.run_sizeOf,bK,<-ar];rw[run_loadCells_list w a vs aL];simp[pack]| false=>have U:=h.Ez Bz;rw[U]at ar;have g7:=VV ar;have:=aL 0 (vs.headD undef) (by rw[g7];simp);have aC:a.add 0=a:=rfl;rw[aC]at this;simp[this,pack]
def xx(h:hH vs=true):∀ v∈vs,v.oneCell'=true:=by simpa[hH]using h
def EH(h:iK P t i){a:Addr}(ap:a.spot=none)(aA:w.heap[a.block]?=some (.cells cs T (0,0)))(cI:v.cells.size=i.size)(ai:a.off+v.cells.toList.length<=cs.size)(U:hH v.cells.toList=true) :
  (storeVar t a v).run P w=.ok () (w.setRow a.block (bu cs.toList a.off v.cells.toList).toArray):=by
 obtain⟨b,o,s⟩:=a;simp only at ap aA ai;subst ap;unfold storeVar;simp only[bZ,h.run_sizeOf,bK,cI,ne_eq,not_true,j8,Sem.run_ite];have:=run_storeCells_at (P:=P) b o T v.cells.toList 0 cs w aA (by simpa using ai) (xx U);simp only[qn]at this;simp only[bu];simpa using this
def cp.Nx(h:cp X β a w F C I M){s:Nat}{cs:List Value}(ap:C s=some cs)(cs':List Value):cp X β a (w.setRow (β s) cs'.toArray) F (hG C s (some cs')) I M:=by
 have ai:=h.b5 s cs ap;obtain⟨T,b6⟩:=ai.aH;exact {
  size:=h.size
  defers:=h.defers.mono λr al=>by refine { al with aH:=?_ };rw[setRow_other _ _ _ _ (λe=>by have U:=al.aH;rw[e,b6]at U;cases U)];exact al.aH
  holds:={
   i:=λb o hW=>by rw[setRow_other _ _ _ _ (λe=>by rw[e,ai.ig]at hW;cases hW)];exact h.holds.i b o hW
   m:=λx ab=>by rw[setRow_other _ _ _ _ (ai.ec x ab)];exact h.holds.m x ab
   d:=h.holds.d
   ch:=h.holds.ch }
  aj:=h.aj
  b5:=λcq c' BA=>by
   by_cases e:cq=s;·subst e;simp[hG,oE]at BA;subst BA;exact { aH:=⟨T,setRow_heap _ _ _ _ _ _ b6⟩,a3:=ai.a3,ig:=ai.ig,ec:=ai.ec }
   ·simp[hG,fX e]at BA;have hI:=h.b5 cq c' BA;obtain⟨k3,BB⟩:=hI.aH;refine { aH:=⟨k3,?_⟩,a3:=hI.a3,ig:=hI.ig,ec:=hI.ec };rw[setRow_other _ _ _ _ (λbn=>e (h.inj cq s (by simp[BA]) (by simp[ap]) bn))];exact BB
  inj:=λs1 s2 U aa=>h.inj s1 s2 (λe=>by
    unfold hG at U;cases aO:Nat.beq s1 s with
    |true=>have:=cf aO;subst this;rw[ap]at e;cases e| false=>rw[aO]at U;exact U e) (λe=>by
    unfold hG at aa;cases aO:Nat.beq s2 s with
    |true=>have:=cf aO;subst this;rw[ap]at e;cases e| false=>rw[aO]at aa;exact aa e)
  gP:=h.gP
  gu:=h.gu
  own:=h.own
  c3:=λb hI az=>by rw[setRow_other _ _ _ _ (λe=>by have:=ai.a3;omega)];exact h.c3 b hI az
  out:=h.out.trans (Nu _ _ _)
  sz:=by have:=h.sz;simpa using this }
def cp.vy(h:cp X β a w F C I M){a6 post:List ay}{g:Nat}{cs':Array Value}(a4:M=a6++⟨g,.cells cs T (0,0)⟩::post) :
  cp X β a (w.setRow g cs') F C I (a6++⟨g,.cells cs' T (0,0)⟩::post):=by
 subst a4;have e7:(⟨g,.cells cs T (0,0)⟩:ay)∈a6++⟨g,.cells cs T (0,0)⟩::post:=by simp
 have aA:w.heap[g]?=some (.cells cs T (0,0)):=h.holds.m _ e7;have cJ:=h.holds.ch;simp only[gX,dV]at cJ;have bB:∀ x,x∈a6\/x∈post->x.num≠g:=by
  intro x ab e;rw[zr]at cJ;obtain⟨_,aa,af⟩:=cJ;rcases ab with ab | ab;·exact af x.num (ej.2 ⟨x,ab,rfl⟩) g (by simp) e
  ·rw[lA]at aa;exact aa.1 (ej.2 ⟨x,ab,e⟩)
 have mem:∀ x,x∈a6++(⟨g,.cells cs' T (0,0)⟩:ay)::post->x=⟨g,.cells cs' T (0,0)⟩\/(x∈a6\/x∈post):=by
  intro x ab;simp only[eb,eg]at ab;rcases ab with ab | ab | ab;·exact .inr (.inl ab)
  ·exact .inl ab
  ·exact .inr (.inr ab)
 have back:∀ x,x∈a6\/x∈post->x∈a6++(⟨g,.cells cs T (0,0)⟩:ay)::post:=by
  intro x ab;simp only[eb,eg];rcases ab with ab | ab;·exact .inl ab
  ·exact .inr (.inr ab)
 exact {
  size:=h.size
  defers:=h.defers.mono λr al=>by
   have xy:g≠r:=al.ec _ e7;refine { al with aH:=?_,ec:=λx ab=>?_ };·rw[setRow_other _ _ _ _ (qo xy)];exact al.aH
   ·rcases mem x ab with rfl | ab
    ·exact xy
    ·exact al.ec x (back x ab)
  holds:={
   i:=λb o hW=>by rw[setRow_other _ _ _ _ (λe=>by have:=h.holds.d _ e7;simp only at this;rw[e,this]at hW;cases hW)];exact h.holds.i b o hW
   m:=λx ab=>by
    rcases mem x ab with rfl | ab;·exact setRow_heap _ _ _ _ _ _ aA
    ·rw[setRow_other _ _ _ _ (bB x ab)];exact h.holds.m x (back x ab)
   d:=λx ab=>by
    rcases mem x ab with rfl | ab;·exact h.holds.d ⟨g,.cells cs T (0,0)⟩ e7
    ·exact h.holds.d x (back x ab)
   ch:=by simpa[gX]using cJ }
  aj:=h.aj
  b5:=λs c ap=>by
   have ai:=h.b5 s c ap;obtain⟨k3,BB⟩:=ai.aH;have qy:g≠β s:=ai.ec _ e7;refine { aH:=⟨k3,?_⟩,a3:=ai.a3,ig:=ai.ig,ec:=λx ab=>?_ };·rw[setRow_other _ _ _ _ (qo qy)];exact BB
   ·rcases mem x ab with rfl | ab
    ·exact qy
    ·exact ai.ec x (back x ab)
  inj:=h.inj
  gP:=h.gP
  gu:=h.gu
  own:=λx ab=>by
   rcases mem x ab with rfl | ab;·exact h.own ⟨g,.cells cs T (0,0)⟩ e7
   ·exact h.own x (back x ab)
  c3:=λb ai az=>by
   rw[setRow_other _ _ _ _ (λe=>by
    rcases h.own _ e7 with U | U;·simp only at U;exact az (e ▸ U)
    ·simp only at U;omega)]
   exact h.c3 b ai az
  out:=h.out.trans (Nu _ _ _)
  sz:=by have:=h.sz;simpa using this }
def gO.heap(h:dY I M w){b:Nat}{o:Obj}(ae:gO I M b o):w.heap[b]?=some o:=by
 rcases ae with ae | ⟨x,ab,rfl,rfl⟩
 ·exact h.i b o ae
 ·exact h.m x ab
def VW{aJ:List Value}{x:Value}{xs:List Value}(h:off+1+xs.length<=aJ.length):bu (aJ.set off x) (off+1) xs=bu aJ off (x::xs):=by
 unfold bu;rw[List.take_set,List.drop_set,cK (by omega),hU (by omega:off<aJ.length)];have e:(List.take off aJ++[aJ[off]'(by omega)]).set off x=List.take off aJ++[x]:=by rw[List.set_append,cA (by simp;omega)];simp[Bs (by omega:off<=aJ.length)]
 rw[e];simp[oA,Ey 1]
def Ny(off:Nat):∀ (xs:List Value) (k:Nat) (aJ:List Value),off+k+xs.length<=aJ.length -> (xs.zipIdx k).foldl (λ(cs:Array Value) (p:Value×Nat)=>cs.setIfInBounds (off+p.2) p.1) aJ.toArray=(bu aJ (off+k) xs).toArray
 |[],k,aJ,_=>by simp[bu]
 |x::xs,k,aJ,ar=>by simp only[e1]at ar;simp only[List.zipIdx_cons,uc];rw[List.setIfInBounds_toArray,Ny off xs (k+1) _ (by simp;omega)];rw[show off+(k+1)=off+k+1 from by omega,VW (by omega)]
def fill_eq(place:Nat->Option (Nat×Nat)):∀ (vs:List (Nat×Value)) (cells r:List Value),qu place cells vs=some r->Instr.fill place cells.toArray vs=some r.toArray
 |[],cells,r,h=>by simp[qu]at h;simp[Instr.fill,h]
 |(i,v)::a2,cells,r,h=>by
  unfold qu at h;unfold Instr.fill;split at h;·cases h
  ·rename_i off size aG;simp only[aG];cases aL:(Nat.beq v.cells.size size&&Nat.ble (off+size) cells.length)with
   |false=>rw[aL]at h;cases h
   |true=>
    rw[aL]at h;simp only[bh]at h;rw[b3]at aL;have U:=cf aL.1;have aa:=bJ aL.2;have aw:decide (v.cells.size≠size)=false:=by simp[U]
    have aB:decide (off+v.cells.size > cells.toArray.size)=false:=by simp;omega
    rw[aw,aB];simp only[Bool.or_false,jw,j8];have be:=fill_eq place a2 _ r h;rw[<-be];congr 1;have:=Ny off v.cells.toList 0 cells (by simp;omega);simp only[qn]at this;rw[<-this,<-H6];simp
end
def i'.le{I I':aS}{M M':List ay}(h:i' bW I M I' M')(jW:dY I M w):(∀ b o,I b=some o->I' b=some o)/\dY I' M' w /\
  (∀ b o,I' b=some o->I b=some o\/∃ x∈M,x.num=b/\x.obj=o/\b ∉ bW)/\(∀ x∈M',x∈M):=by
 induction h with
 |refl=>exact⟨λ_ _ h=>h,jW,λ_ _ h=>.inl h,λ_ h=>h⟩
 | @sub I M M1 I' M' ap k be=>
  have U:dY I M1 w:=⟨jW.i,λx ab=>jW.m x (ap.subset ab),λx ab=>jW.d x (ap.subset ab),(ap.map _).nodup jW.ch⟩;obtain⟨cc,dd,df,fx⟩:=be U;refine⟨cc,dd,λb o ai=>?_,λx ab=>ap.subset (fx x ab)⟩;rcases df b o ai with h | ⟨x,ab,h⟩;·exact .inl h
  ·exact .inr ⟨x,ap.subset ab,h⟩
 | @perm I M M1 I' M' aG k be=>
  have U:dY I M1 w:=⟨jW.i,λx ab=>jW.m x (aG.mem_iff.2 ab),λx ab=>jW.d x (aG.mem_iff.2 ab),(aG.map _).nodup_iff.1 jW.ch⟩;obtain⟨cc,dd,df,fx⟩:=be U;refine⟨cc,dd,λb o ai=>?_,λx ab=>aG.mem_iff.2 (fx x ab)⟩;rcases df b o ai with h | ⟨x,ab,h⟩;·exact .inl h
  ·exact .inr ⟨x,aG.mem_iff.2 ab,h⟩
 | @qs I M I' M' b o post a4 az k be=>
  subst a4;have cJ:=jW.ch;simp only[dV,lA]at cJ;have ai:=jW.d ⟨b,o⟩ (by simp);simp only at ai;have U:dY (ins I b o) post w:={
   i:=λhX o' h=>by
    unfold ins at h;by_cases e:hX=b;·subst e;simp only[oE,bh,iJ]at h;subst h;exact jW.m ⟨hX,o⟩ (by simp)
    ·simp only[fX e,ba]at h;exact jW.i _ _ h
   m:=λx ab=>jW.m x (by simp[ab])
   d:=λx ab=>by unfold ins;have e:x.num≠b:=λe=>cJ.1 (ej.2 ⟨x,ab,e⟩);simp only[fX e,ba];exact jW.d x (by simp[ab])
   ch:=cJ.2 }
  obtain⟨cc,dd,df,fx⟩:=be U;refine⟨λhX o' h=>cc hX o' ?_,dd,λhX o' h=>?_,λx ab=>by simp[fx x ab]⟩
  ·unfold ins;by_cases e:hX=b
   ·subst e;rw[ai]at h;cases h
   ·simp only[fX e,ba];exact h
  ·rcases df hX o' h with h | ⟨x,ab,h⟩
   ·unfold ins at h;by_cases e:hX=b
    ·subst e;simp only[oE,bh,iJ]at h;exact .inr ⟨⟨hX,o⟩,by simp,rfl,h,az⟩
    ·simp only[fX e,ba]at h;exact .inl h
   ·exact .inr ⟨x,by simp[ab],h⟩
def cp.hh{X:cD}{β:Nat->Nat}{F:Fr}{C:c2}{I I':aS}{M M':List ay}(h:cp X β a w F C I M)(hw:i' X.bW I M I' M'):cp X β a w F C I' M':=by
 obtain⟨cc,dd,df,fx⟩:=hw.le h.holds;exact { h with
  holds:=dd
  defers:=h.defers.mono λr al=>by
   refine { al with ig:=?_,ec:=λx ab=>al.ec x (fx x ab) };cases bF:I' r with
   |none=>rfl
   |some o=>
    exfalso;rcases df _ _ bF with U | ⟨x,ab,U,_⟩;·rw[al.ig]at U;cases U
    ·exact al.ec x ab U
  b5:=λs cs ap=>{ h.b5 s cs ap with
   ig:=by
    cases bF:I' (β s)with
    |none=>rfl
    |some o=>
     exfalso;rcases df _ _ bF with U | ⟨x,ab,U,_⟩;·rw[(h.b5 s cs ap).ig]at U;cases U
     ·exact(h.b5 s cs ap).ec x ab U
   ec:=λx ab=>(h.b5 s cs ap).ec x (fx x ab) }
  gP:=λb o ai=>cc b o (h.gP b o ai)
  gu:=λb o ai=>by
   rcases df b o ai with U | ⟨x,ab,rfl,_,az⟩;·exact h.gu b o U
   ·exact .inr ((h.own x ab).resolve_left az)
  own:=λx ab=>h.own x (fx x ab) }
section
variable{X:cD}{β:Nat->Nat}{a:Act}{w:World}{F:Fr}{C:c2}{I:aS}{M:List ay}{o:Oper}{Q:Exit->Act->World->Prop}{K:fo}
def Nz(h:cp X β a w F C I M)(ah:∀ d,o.dst=some d->d<X.n)(cJ:∀ c,o.op≠.defer c){x:c6}(al:(execOp a.eval o).run X.P w=.ok (.value v) w)(ab:dZ β x v)(ae:K (put o.dst x F) C I M):o.wpIn (fN X) 0 X.P a w (Sat X K) Q:=
 hV cJ al ⟨_,_,_,_,⟨β,h.put ah ab⟩,ae⟩
def sI(h:cp X β a w F C I M)(ah:∀ d,o.dst=some d->d<X.n)(cJ:∀ c,o.op≠.defer c)(al:(execOp a.eval o).run X.P w=.ok (.value v) w)(ae:K (put o.dst (.val v) F) C I M):o.wpIn (fN X) 0 X.P a w (Sat X K) Q:=
 Nz (x:=.val v) h ah cJ al rfl ae
def l7(k:IntKind)(n:Int)(w:World)(P:Program):(asIntOf (.int k n)).run P w=.ok (k,n) w:=rfl
def IntKind.zw{k dq:IntKind}(h:IntKind.jU k dq=true):k=dq:=by cases k<;>cases dq<;>first | rfl | cases h
def l8(op:BinOp)(t:Nat)(x y:Operand)(k dq:IntKind)(n m:Int)(P:Program)(w:World):(eqGuard op t x y (.int k n) (.int dq m)).run P w=.ok () w:=by
 unfold eqGuard;cases op<;>rfl
def Ii(op:BinOp)(t:Nat)(x y:Operand)(n m:ByteArray)(P:Program)(w:World):(eqGuard op t x y (.string n) (.string m)).run P w=.ok () w:=by
 unfold eqGuard;cases op<;>rfl
def NA(op:BinOp)(t:Nat)(x y:Operand)(n m:Bool)(P:Program)(w:World):(eqGuard op t x y (.bool n) (.bool m)).run P w=.ok () w:=by
 unfold eqGuard;cases op<;>rfl
def NB(a b:ByteArray):(a.toList == b.toList)=decide (a=b):=by
 rw[l2];simp only[beq_iff_eq,e0];constructor
 ·intro h;have U:a.data.toList=b.data.toList:=by rw[ByteArray.toList_eq,ByteArray.toList_eq]at h;exact h
  cases a;cases b;simp only[ByteArray.mk.injEq];exact fM U
 ·intro h;rw[h]
def run_equal_bool{t:Nat}(hu:P.underlying t=some .bool)(a b:Bool)(w:World):(Op.equal t (.bool a) (.bool b)).run P w=.ok (a == b) w:=by
 have key:∀ d,(Op.equalIn (d+1) t (.bool a) (.bool b)).run P w=.ok (a == b) w:=λd=>by simp only[Op.equalIn,bZ,run_underlying hu,bK,cG]
 exact key 9999
def VX(aE:cE X.P X.E)(op:BinOp)(t:Nat)(x y:Operand)(u v:c6)(j9 um:Value)(ab:u=.val j9)(aN:v=.val um)(NC:Value->Prop)(other:Prop)
  (h:jV op (X.E t) u v NC other):other\/∃ r,(∀ w,(do eqGuard op t x y j9 um;binOp op t j9 um:Sem Value).run X.P w=.ok r w)/\NC r:=by
 subst ab;subst aN;unfold jV at h;split at h
 ·rename_i k a dq b aw aB;cases aw;cases aB
  right
  split at h;·obtain⟨j,rfl,⟨r,al,ae⟩⟩:=h;refine⟨_,λw=>?_,ae⟩;simp only[bZ,l8,bK,binOp,Op.shift];rw[cA (by omega)];simp[al]
  ·obtain⟨j,rfl,ae⟩:=h;refine⟨_,λw=>?_,ae⟩;simp only[bZ,l8,bK,binOp,Op.shift];rw[cA (by omega)];simp
  ·rename_i gQ mN;cases gv:IntKind.jU k dq with
   |false=>rw[gv]at h;exact h.elim
   |true=>
    rw[gv]at h;have rE:=IntKind.zw gv;subst rE;simp only[bh]at h;cases op<;>simp only at h
    case add=>obtain⟨r,al,ae⟩:=h;exact⟨_,λw=>by simp[l8,binOp,Op.intArith,al],ae⟩
    case sub=>obtain⟨r,al,ae⟩:=h;exact⟨_,λw=>by simp[l8,binOp,Op.intArith,al],ae⟩
    case mul=>obtain⟨r,al,ae⟩:=h;exact⟨_,λw=>by simp[l8,binOp,Op.intArith,al],ae⟩
    case quo=>obtain⟨ao,r,al,ae⟩:=h;exact⟨_,λw=>by simp[l8,binOp,Op.intDiv,ao,al],ae⟩
    case rem=>obtain⟨ao,ae⟩:=h;exact⟨_,λw=>by simp[l8,binOp,Op.intDiv,ao],ae⟩
    case and=>exact⟨_,λw=>by simp[l8,binOp,Op.intBits,rA],h⟩
    case or=>exact⟨_,λw=>by simp[l8,binOp,Op.intBits,rA],h⟩
    case xor=>exact⟨_,λw=>by simp[l8,binOp,Op.intBits,rA],h⟩
    case andNot=>exact⟨_,λw=>by simp[l8,binOp,Op.intBits,rA],h⟩
    case shl=>exact(gQ rfl).elim
    case shr=>exact(mN rfl).elim
    case eql=>exact⟨_,λw=>by simp only[bZ,l8,bK,binOp,Op.intCmp,uf];simp;rfl,h⟩
    case neq=>exact⟨_,λw=>by simp only[bZ,l8,bK,binOp,Op.intCmp,uf];simp;rfl,h⟩
    case lss=>exact⟨_,λw=>by simp[l8,binOp,Op.intCmp,uf],h⟩
    case leq=>exact⟨_,λw=>by simp[l8,binOp,Op.intCmp,uf],h⟩
    case gtr=>exact⟨_,λw=>by simp[l8,binOp,Op.intCmp,uf],h⟩
    case geq=>exact⟨_,λw=>by simp[l8,binOp,Op.intCmp,uf],h⟩
 ·rename_i a b aw aB;cases aw;cases aB;split at h
  ·exact .inr ⟨_,λw=>by simp only[bZ,Ii,bK,binOp,Op.stringOp,cG,NB],h⟩
  ·exact .inr ⟨_,λw=>by simp only[bZ,Ii,bK,binOp,Op.stringOp,cG,NB],h⟩
  ·exact .inl h
 ·rename_i a b aw aB;cases aw;cases aB;split at h
  ·rename_i dc sz gY z av;obtain⟨d,hu,ah⟩:=(aE _ _ av).eJ;have gZ:d=.bool:=by cases d<;>simp_all[eD]
   subst gZ;split at h;·exact .inr ⟨_,λw=>by simp only[bZ,NA,bK,binOp,run_equal_bool hu,cG],h⟩
   ·exact .inr ⟨_,λw=>by simp only[bZ,NA,bK,binOp,run_equal_bool hu,cG],h⟩
   ·exact .inl h
  ·exact .inl h
 ·exact .inl h
def Ij{args:Array Value}(h:Calls P f args w R)(n:Nat):CallsIn (fN X) n P f args w R:=by have U:=(callsIn_wide (n:=n)).2 h;exact⟨trivial,λcs al=>U.2 cs (room_wide _)⟩
def dY.part(h:dY I M w){db Mr:List ay}(a4:M.Perm (db++Mr)):dY I db w:=by
 have gF:∀ x,x∈M ↔ x∈db\/x∈Mr:=λx=>by rw[a4.mem_iff,eb]
 have cJ:((db++Mr).map (·.num)).Nodup:=(a4.map (·.num)).nodup_iff.1 h.ch;rw[gX,zr]at cJ;exact⟨h.i,λx ab=>h.m x ((gF x).2 (.inl ab)),λx ab=>h.d x ((gF x).2 (.inl ab)),cJ.1⟩
def cp.after(h:cp X β a w F C I M){db Mr M':List ay}{I':aS}(a4:M.Perm (db++Mr))(oG:dY I' M' w')(e9:Kept I db w I' M' w'):cp X β a w' F C I' (M'++Mr):=by
 have gF:∀ x,x∈M ↔ x∈db\/x∈Mr:=λx=>by rw[a4.mem_iff,eb]
 have cJ:((db++Mr).map (·.num)).Nodup:=(a4.map (·.num)).nodup_iff.1 h.holds.ch;rw[gX,zr]at cJ;have ND:∀ x∈Mr,∀ y∈db,y.num≠x.num:=λx ab y aN=>cJ.2.2 y.num (ej.2 ⟨y,aN,rfl⟩) x.num (ej.2 ⟨x,ab,rfl⟩);have VY:∀ x∈Mr,w'.heap[x.num]?=w.heap[x.num]?:=λx ab=>
  e9.c3 x.num (h.holds.lt ((gF x).2 (.inr ab))) (ND x ab)
 exact {
  size:=h.size
  defers:=h.defers.mono λr al=>by
   have aK:=(jS.1 al.aH).1;refine { aH:=?_,a3:=al.a3,ig:=?_,ec:=λx ab=>?_ };·rw[e9.c3 _ aK (λy aN=>al.ec y ((gF y).2 (.inl aN)))];exact al.aH
   ·cases bF:I' r with
    |none=>rfl
    |some o=>
     exfalso;rcases e9.sF _ _ bF with U | U;·rw[al.ig]at U;cases U
     ·omega
   ·rcases eb.1 ab with ab | ab
    ·rcases e9.ug x ab with⟨z,bg,xz⟩ | U
     ·rw[<-xz];exact al.ec z ((gF z).2 (.inl bg))
     ·omega
    ·exact al.ec x ((gF x).2 (.inr ab))
  holds:={
   i:=oG.i
   m:=λx ab=>by
    rcases eb.1 ab with ab | ab;·exact oG.m x ab
    ·rw[VY x ab];exact h.holds.m x ((gF x).2 (.inr ab))
   d:=λx ab=>by
    rcases eb.1 ab with ab | ab;·exact oG.d x ab
    ·cases bF:I' x.num with
     |none=>rfl
     |some o=>
      exfalso;rcases e9.sF _ _ bF with U | U;·have:=h.holds.d x ((gF x).2 (.inr ab));rw[this]at U;cases U
      ·have:=h.holds.lt ((gF x).2 (.inr ab));omega
   ch:=by
    rw[gX,zr];refine⟨oG.ch,cJ.2.1,λp aG q aO e=>?_⟩;obtain⟨x,ab,rfl⟩:=ej.1 aG;obtain⟨y,aN,rfl⟩:=ej.1 aO;rcases e9.ug x ab with⟨z,bg,xz⟩ | U;·exact ND y aN z bg (xz.trans e)
    ·have:=h.holds.lt ((gF y).2 (.inr aN));omega }
  aj:=h.aj
  b5:=λs cs ap=>by
   have ai:=h.b5 s cs ap;obtain⟨T,b6⟩:=ai.aH;refine { aH:=⟨T,?_⟩,a3:=ai.a3,ig:=?_,ec:=λx ab=>?_ };·rw[e9.c3 _ ai.lt (λy aN=>ai.ec y ((gF y).2 (.inl aN)))];exact b6
   ·cases bF:I' (β s)with
    |none=>rfl
    |some o=>
     exfalso;rcases e9.sF _ _ bF with U | U;·rw[ai.ig]at U;cases U
     ·have:=ai.lt;omega
   ·rcases eb.1 ab with ab | ab
    ·rcases e9.ug x ab with⟨z,bg,xz⟩ | U
     ·rw[<-xz];exact ai.ec z ((gF z).2 (.inl bg))
     ·have:=ai.lt;omega
    ·exact ai.ec x ((gF x).2 (.inr ab))
  inj:=h.inj
  gP:=λb o ai=>e9.le b o (h.gP b o ai)
  gu:=λb o ai=>by
   rcases e9.sF b o ai with U | U;·exact h.gu b o U
   ·exact .inr (jx h.sz U)
  own:=λx ab=>by
   rcases eb.1 ab with ab | ab
   ·rcases e9.ug x ab with⟨z,bg,xz⟩ | U
    ·rw[<-xz];exact h.own z ((gF z).2 (.inl bg))
    ·exact .inr (jx h.sz U)
   ·exact h.own x ((gF x).2 (.inr ab))
  c3:=λb ai az=>by
   rw[e9.c3 b (Et ai h.sz) (λy aN e=>by
    rcases h.own y ((gF y).2 (.inl aN))with U | U;·exact az (e ▸ U)
    ·omega)]
   exact h.c3 b ai az
  out:=h.out.trans e9.out
  sz:=jx h.sz e9.sz }
def cp.call(h:cp X β a w F C I M){KC:Value->aS->List ay->Prop}(aL:bb X.bW P f args I M KC) :
  (H9 P f/\Calls P f args.toArray w λe w'=>∃ v I' M',e=.returned v/\KC v I' M'/\cp X β a w' F C I' M')\/(∃ v w' I' M',(callFunc f args.toArray).run P w=.ok (.value v) w'/\KC v I' M'/\cp X β a w' F C I' M'):=by
 obtain⟨cL,db,Mr,post,fY,⟨nB,ap⟩ | ap,ae⟩:=aL.elim ⟨h.holds.d,h.holds.ch⟩<;>have h:=h.hh fY<;>have a4:=List.Perm.refl (db++Mr)
 ·refine .inl ⟨nB,?_⟩;refine(ap w (h.holds.part a4)).mono ?_;rintro e w'⟨v,I',M',rfl,aG,oG,e9⟩;have aC:=h.after a4 oG e9;exact⟨v,I',M'++Mr,rfl,ae v I' M' e9.le aC.holds.d aG,aC⟩
 ·obtain⟨v,w',I',M',al,aG,oG,e9⟩:=ap w (h.holds.part a4);have aC:=h.after a4 oG e9;exact .inr ⟨v,w',I',M'++Mr,al,ae v I' M' e9.le aC.holds.d aG,aC⟩
def NE{args:Array Value}(cJ:∀ c,o.op≠.defer c)(al:(execOp a.eval o).run X.P w=.ok (.enter f args) w)
  (aL:Calls X.P f args w λe w'=>∃ v,e=.returned v/\next (a.put o.dst v) w'):o.wpIn (fN X) 0 X.P a w next Q:=by
 refine⟨λ_ _=>trivial,?_⟩;rw[Ex _ _ _ cJ,al];refine⟨(λh=>by cases h),?_⟩;refine(Ij aL _).mono ?_;rintro e w'⟨v,rfl,h⟩;exact h
def NF(z:Value)(NG:List Value)(h:z.cells.toList=NG)(n:Nat):(Array.range n).map (z.cells[· % z.cells.size]!)=(rowOf NG n).toArray:=by subst h;apply fM;simp[vx,madeCells]
def iK.struct{t:Nat}{b':List (Nat×Nat)}(h:iK P t ⟨sz,gY,z,.struct b'⟩):∃ fields,P.underlying t=some (.struct fields)/\b'=fields.toList.map λf=>(f.type,f.offset):=by
 obtain⟨d,U,aa⟩:=h.eJ;cases d<;>simp[eD]at aa
 exact⟨_,U,aa.symm⟩
def iK.slice{t:Nat}(h:iK P t ⟨sz,gY,z,.slice e⟩):P.underlying t=some (.slice e):=by
 obtain⟨d,U,aa⟩:=h.eJ;cases d<;>simp[eD]at aa
 rw[U,aa]
def iK.array{t:Nat}(h:iK P t ⟨sz,gY,z,.array n e⟩):P.underlying t=some (.array n e):=by
 obtain⟨d,U,aa⟩:=h.eJ;cases d<;>simp[eD]at aa
 rw[U,aa.1,aa.2]
def iK.string{t:Nat}(h:iK P t ⟨sz,gY,z,.string⟩):P.underlying t=some .string:=by
 obtain⟨d,U,aa⟩:=h.eJ;cases d<;>simp[eD]at aa
 exact U
def iK.int{P:Program}{t sz gY:Nat}{z:List Value}{k:IntKind}(h:iK P t ⟨sz,gY,z,.int k⟩):P.underlying t=some (.int k):=by
 obtain⟨d,U,aa⟩:=h.eJ;cases d<;>simp[eD]at aa
 rw[U,aa]
def NH{fields:Array Field}{i kA:Nat}(h:(fields.toList.map λf=>(f.type,f.offset))[i]?=some (kA,off)):∃ f,fields[i]?=some f/\f.type=kA/\f.offset=off:=by
 simp only[zs,Array.getElem?_toList]at h;cases az:fields[i]? with
 |none=>simp[az]at h| some f=>simp[az]at h;exact⟨f,rfl,h.1,h.2⟩
def Ik{t:Nat}{i:dz}(h:iK P t i)(bo:off+i.size<=cs.size)(w:World):(part t cs off).run P w=.ok (pack i.bz.agg ((cs.toList.drop off).take i.size)) w:=by
 unfold part;simp only[bZ,h.Nw,bK];cases Bz:i.bz.agg with
 |true=>simp only[qp,bZ,h.run_sizeOf,bK,cG,pack,bh];congr 2;apply fM;simp[List.take_drop]
 |false=>
  have U:=h.Ez Bz;rw[U]at bo |-;have aK:off<cs.size:=by omega
  simp only[jw,j8,En aK,cG,pack,ba];congr 1;rw[fg (by simpa using aK)];simp
def VZ{t:Nat}{aD:dz}(av:P.underlying t=some (.slice e))(he:iK P e aD){c:Nat}{j:Nat}(an:j<n)(w:World) :
  (Instr.indexAt t (.slice (some ad) n c) (.int fy j)).run P w=.ok (.pointer (some (ad.add (j*aD.size)))) w:=by
 unfold Instr.indexAt;simp only[bZ,l7,bK,run_underlying av,cG];rw[cK ⟨by omega,by omega⟩];simp[he.run_sizeOf]
def NI{t:Nat}{aD:dz}(av:P.underlying t=some (.array m e))(he:iK P e aD){j:Nat}(an:j<m)(w:World) :
  (Instr.indexAt t (.pointer (some ad)) (.int fy j)).run P w=.ok (.pointer (some (ad.add (j*aD.size)))) w:=by
 unfold Instr.indexAt;simp only[bZ,l7,bK,run_underlying av,cG,Instr.sureAddr];rw[cK ⟨by omega,by omega⟩];simp[he.run_sizeOf]
def NJ{P:Program}{E:Env}(aE:cE P E)(w:World):∀ (fields:List Field),zt E (fields.map λf=>(f.type,f.offset))=true -> ∃ l:List (Nat×Nat),(fields.mapM λf=>(do pure (f.offset,<-sizeOf f.type):Sem (Nat×Nat))).run P w=.ok l w/\∀ i,l[i]?=places E (fields.map λf=>(f.type,f.offset)) i
 |[],_=>⟨[],rfl,λi=>by simp[places]⟩
 |f::b',h=>by
  simp only[zt,dV,List.all_cons,b3]at h;obtain⟨fW,mO⟩:=Option.isSome_iff_exists.1 h.1;obtain⟨l,U,aa⟩:=NJ aE w b' h.2;refine⟨(f.offset,fW.size)::l,?_,λi=>?_⟩;·simp only[Bu,bZ,(aE _ _ mO).run_sizeOf,bK,cG];rw[U];rfl
  ·cases i with
   |zero=>simp[places,mO]| succ i=>simp only[Eo,aa];simp[places]
def NK(aE:cE X.P X.E)(h:cp X β a w F C I M){vz:c6->Prop}(op:Op)(ty:TypeId)(dst:Option Tmp)(pos:String)(after:Array Edge)(guard:Option (Nat×Bool))(ag:cb X op (c0 F) C I M vz other) :
  other\/∃ v x,(execOp a.eval ⟨dst,op,ty,pos,after,guard⟩).run X.P w=.ok (.value v) w/\dZ β x v/\vz x:=by
 have done:∀ {v x},(execOp a.eval ⟨dst,op,ty,pos,after,guard⟩).run X.P w=.ok (.value v) w->dZ β x v->vz x->other\/∃ v x,(execOp a.eval ⟨dst,op,ty,pos,after,guard⟩).run X.P w=.ok (.value v) w/\dZ β x v/\vz x:=
  λU aa af=>.inr ⟨_,_,U,aa,af⟩
 have gG:∀ {v},(execOp a.eval ⟨dst,op,ty,pos,after,guard⟩).run X.P w=.ok (.value v) w->vz (.val v)->other\/∃ v x,(execOp a.eval ⟨dst,op,ty,pos,after,guard⟩).run X.P w=.ok (.value v) w/\dZ β x v/\vz x:=
  fun {v} U af=>.inr ⟨v,.val v,U,rfl,af⟩
 have az:=h.aj;cases op
 case move x=>exact done (by simp[execOp]) (uk az x) ag
 case assign x=>exact done (by simp[execOp]) (uk az x) ag
 case pick c p q=>
  simp only[cb]at ag;split at ag
  ·rename_i b ai;have aL:=Ic az ai;cases b
   ·exact done (by simp[execOp,aL,asBool]) (uk az q) ag
   ·exact done (by simp[execOp,aL,asBool]) (uk az p) ag
  ·rename_i b ai;have aL:=rC az ai;refine done (v:=if b then a.eval p else a.eval q) (x:=EA b (br F p) (br F q)) (by simp[execOp,aL,asBool]) ?_ ag;have U:=Ns az p;have aa:=Ns az q;unfold EA;split
   ·rename_i x y aw aB;rw[aw]at U;rw[aB]at aa;simp only[dZ]at U aa |-;cases b<;>simp[U,aa]
   ·rename_i x y _ aw aB;rw[aw]at U;rw[aB]at aa;simp only[dZ]at U aa |-;cases b<;>simp[U,aa]
   ·trivial
  ·exact ag.elim
 case unOp op t x=>
  simp only[cb]at ag;split at ag;·rename_i b ai;exact done (v:=.bool (!b)) (x:=.lit (!b)) (by simp[execOp,Ic az ai,Op.unary]) rfl ag
  ·rename_i b ai;exact gG (v:=.bool (!b)) (by simp[execOp,rC az ai,Op.unary]) ag
  ·rename_i k n ai;obtain⟨r,al,ae⟩:=ag;exact gG (v:=.int k r) (by simp only[execOp,rC az ai,Op.unary,Op.intArith,al];simp) ae
  ·exact Or.inl ag
 case binOp op t x y ty'=>
  simp only[cb]at ag;by_cases ab:∃ j9 um,br F x=.val j9/\br F y=.val um
  ·obtain⟨j9,um,ab,aN⟩:=ab;have fin:∀ r,(∀ w,(do eqGuard op t x y j9 um;binOp op t j9 um:Sem Value).run X.P w=.ok r w)->vz (.val r)->(other\/∃ v pL,(execOp a.eval ⟨dst,.binOp op t x y ty',ty,pos,after,guard⟩).run X.P w=.ok (.value v) w/\dZ β pL v/\vz pL):=λr al ae=>by refine gG (v:=r) ?_ ae;have:=al w;rw[<-cV az ab,<-cV az aN]at this;simp only[execOp];simp only[bZ]at this |-;rw[this];rfl
   rcases VX aE op t x y _ _ j9 um ab aN _ _ ag with(⟨nz,eR,r,aG,aO,al,ae⟩ | U) | ⟨r,al,ae⟩;·rw[show di (c0 F) x=br F x from rfl,ab]at aG;rw[show di (c0 F) y=br F y from rfl,aN]at aO;cases aG;cases aO;exact fin r al ae
   ·exact Or.inl U
   ·exact fin r al ae
  ·unfold jV at ag;split at ag
   ·rename_i aw aB;exact(ab ⟨_,_,aw,aB⟩).elim
   ·rename_i aw aB;exact(ab ⟨_,_,aw,aB⟩).elim
   ·rename_i aw aB;exact(ab ⟨_,_,aw,aB⟩).elim
   ·rcases ag with⟨nz,eR,r,aG,aO,al,ae⟩ | U
    ·exact(ab ⟨_,_,aG,aO⟩).elim
    ·exact Or.inl U
 case load t x=>
  simp only[cb]at ag;split at ag
  ·rename_i i hi;split at ag
   ·rename_i s off ab;have jz:=xw az ab;split at ag
    ·rename_i cs ap;cases bo:Nat.ble (off+i.size) cs.length with
     |false=>rw[bo]at ag;exact ag.elim| true=>rw[bo]at ag;have oH:=bJ bo;obtain⟨T,b6⟩:=(h.b5 s cs ap).aH;refine gG (v:=pack i.bz.agg ((cs.drop off).take i.size)) ?_ ag;have:=EG (aE _ _ hi) (a:=⟨β s,off,none⟩) rfl b6 (vs:=(cs.drop off).take i.size) (by simp) (by simp;omega);simp[execOp,Instr.loadAt,Instr.sureAddr,jz,this]
    ·exact ag.elim
   ·rename_i ad ab;have jz:=rC az ab;obtain⟨vs,⟨b0,cs,T,aj,dR,g7,ar⟩,ae⟩:=ag;refine gG (v:=pack i.bz.agg vs) ?_ ae;have:=EG (aE _ _ hi) b0 (dR.heap h.holds) g7 ar;simp[execOp,Instr.loadAt,Instr.sureAddr,jz,this]
   ·exact ag.elim
  ·exact ag.elim
 case nilCheck x=>
  simp only[cb]at ag;split at ag;·rename_i s off ab;exact done (v:=.pointer (some ⟨β s,off,none⟩)) (x:=.ref s off) (by simp[execOp,xw az ab]) rfl ag
  ·rename_i ad ab;exact gG (v:=.pointer (some ad)) (by simp[execOp,rC az ab]) ag
  ·exact Or.inl ag
 case fieldAddr t x i=>
  simp only[cb]at ag;split at ag
  ·rename_i sz gY z b' av;obtain⟨fields,hu,rfl⟩:=(aE _ _ av).struct;split at ag
   ·rename_i kA off j';obtain⟨f,sJ,rfl,rfl⟩:=NH j';split at ag
    ·rename_i fW s o' mO ab;cases bg:Nat.beq fW.size 0 with
     |true=>rw[bg]at ag;exact ag.elim
     |false=>
      rw[bg]at ag;have jb:fW.size≠0:=λe=>by rw[e]at bg;cases bg
      refine done (v:=.pointer (some ⟨β s,o'+f.offset,none⟩)) (x:=.ref s (o'+f.offset)) ?_ rfl ag;simp[execOp,Instr.fieldAt,run_underlying hu,sJ,xw az ab,Instr.sureAddr,fieldPlace,(aE _ _ mO).run_sizeOf,jb,dS]
    ·rename_i fW ad mO ab;cases bg:Nat.beq fW.size 0 with
     |true=>rw[bg]at ag;exact ag.elim
     |false=>
      rw[bg]at ag;have jb:fW.size≠0:=λe=>by rw[e]at bg;cases bg
      refine gG (v:=.pointer (some (ad.add f.offset))) ?_ ag;simp[execOp,Instr.fieldAt,run_underlying hu,sJ,rC az ab,Instr.sureAddr,fieldPlace,(aE _ _ mO).run_sizeOf,jb]
    ·exact ag.elim
   ·exact ag.elim
  ·exact ag.elim
 case field t x i=>
  simp only[cb]at ag;split at ag
  ·rename_i sz gY z b' cs av ab;obtain⟨fields,hu,rfl⟩:=(aE _ _ av).struct;split at ag
   ·rename_i kA off j';obtain⟨f,sJ,rfl,rfl⟩:=NH j';split at ag
    ·rename_i fW mO;cases bg:Nat.ble (f.offset+fW.size) cs.size with
     |false=>rw[bg]at ag;exact ag.elim| true=>rw[bg]at ag;refine gG ?_ ag;simp[execOp,Instr.field,run_underlying hu,sJ,cV az ab,asAgg,Ik (aE _ _ mO) (bJ bg)]
    ·exact ag.elim
   ·exact ag.elim
  ·exact ag.elim
 case indexAddr t x i=>
  simp only[cb]at ag;split at ag
  ·rename_i sz gY z e fy k av hi;have hu:=(aE _ _ av).slice;split at ag
   ·rename_i aD bS n c gH ab;obtain⟨ad,j,rfl,rfl,an,ae⟩:=ag;refine gG ?_ ae;simp[execOp,cV az ab,cV az hi,VZ hu (aE _ _ gH) an]
   ·exact ag.elim
  ·rename_i sz gY z n e fy k av hi;have hu:=(aE _ _ av).array;split at ag
   ·rename_i aD s o' gH ab;obtain⟨j,rfl,an,ae⟩:=ag;refine done (v:=.pointer (some ⟨β s,o'+j*aD.size,none⟩)) (x:=.ref s (o'+j*aD.size)) ?_ rfl ae;simp[execOp,xw az ab,cV az hi,NI hu (aE _ _ gH) an,dS]
   ·rename_i aD ad gH ab;obtain⟨j,rfl,an,ae⟩:=ag;refine gG ?_ ae;simp[execOp,rC az ab,cV az hi,NI hu (aE _ _ gH) an]
   ·exact ag.elim
  ·exact ag.elim
 case index t x i=>
  simp only[cb]at ag;split at ag;·rename_i sz gY z s fy k av ab hi;have hu:=(aE _ _ av).string;obtain⟨j,rfl,an,ae⟩:=ag;refine gG ?_ ae;simp only[execOp,cV az ab,cV az hi,Instr.index,bZ,l7,bK,run_underlying hu];rw[cK (by omega:(0:Int)<=j)];simp[an]
  ·rename_i sz gY z n e cs fy k av ab hi;have hu:=(aE _ _ av).array;split at ag
   ·rename_i aD gH;cases bg:Nat.beq (n*aD.size) cs.size with
    |false=>rw[bg]at ag;exact ag.elim
    |true=>
     rw[bg]at ag;obtain⟨j,rfl,an,ae⟩:=ag;have jb:=cf bg;refine gG ?_ ae;have bo:j*aD.size+aD.size<=cs.size:=by rw[<-jb,<-Nat.succ_mul];exact rr _ an
     simp only[execOp,cV az ab,cV az hi,Instr.index,bZ,l7,bK,run_underlying hu];rw[cK ⟨by omega,by omega⟩];simp[(aE _ _ gH).run_sizeOf,Ik (aE _ _ gH) bo]
   ·exact ag.elim
  ·exact ag.elim
 case build t parts=>
  simp only[cb]at ag;split at ag
  ·rename_i i vs hi g7;have aG:=EC az g7;have vA:(parts.map λ(i,x)=>(i,a.eval x)).toList=vs:=by simpa using aG
   obtain⟨z,bg,uo⟩:=(aE _ _ hi).By w;have zx:z.cells=i.zero.toArray:=by rw[<-uo]
   split at ag
   ·rename_i b' lB;cases bf:zt X.E b' with
    |false=>rw[bf]at ag;exact ag.elim
    |true=>
     rw[bf]at ag;simp only[bh]at ag;split at ag
     ·rename_i cells sK;obtain⟨sz,gY,V0,bz⟩:=i;simp only at lB;subst lB;obtain⟨fields,hu,rfl⟩:=(aE _ _ hi).struct;obtain⟨l,ar,oI⟩:=NJ aE w fields.toList bf;refine gG ?_ ag;have hm:(fields.mapM λf=>(do pure (f.offset,<-sizeOf f.type):Sem (Nat×Nat))).run X.P w=.ok l.toArray w:=by rw[Nr,Sem.run_map,ar];rfl
      have pM:=fill_eq _ _ _ _ sK;have V1:(λj=>l.toArray[j]?)=places X.E (fields.toList.map λf=>(f.type,f.offset)):=by funext j;rw[<-oI j];simp
      simp only[execOp,Instr.build,bZ,bg,bK,run_underlying hu,zx,vA];rw[hm];simp only[bK,V1,pM,cG]
     ·exact ag.elim
   ·rename_i n e lB;split at ag
    ·rename_i aD gH;split at ag
     ·rename_i cells sK;obtain⟨sz,gY,V0,bz⟩:=i;simp only at lB;subst lB;have hu:=(aE _ _ hi).array;refine gG ?_ ag;have pM:=fill_eq _ _ _ _ sK;simp only[execOp,Instr.build,bZ,bg,bK,run_underlying hu,zx,vA,(aE _ _ gH).run_sizeOf,pM,cG]
     ·exact ag.elim
    ·exact ag.elim
   ·exact ag.elim
  ·exact ag.elim
 case makeFunc fn first captured=>
  simp only[cb]at ag;split at ag
  ·rename_i b' cs U aa;have aw:=qw az U;have aB:=qw az aa;refine gG ?_ ag;have dA:first.map a.eval=b'.toArray:=by apply fM;simpa using aw
   have dW:captured.map a.eval=cs.toArray:=by apply fM;simpa using aB
   simp[execOp,Instr.makeFunc,dA,dW]
  ·exact ag.elim
 case slice t x lo hi mx=>
  simp only[cb]at ag;split at ag
  ·rename_i sz gY z e bS n c av ab;have hu:=(aE _ _ av).slice;have jz:=cV az ab;split at ag
   ·rename_i aD gH ev e2;have xA:lo=none:=by simpa using ev
    have xB:hi=none:=by simpa using e2
    subst xA;subst xB;refine gG ?_ ag;have aw:(if c=0 then bS else bS.map (·.add (0*aD.size)))=bS:=by split<;>cases bS<;>simp[Addr.add]
    simp[execOp,Instr.sliceAt,Instr.slice,Instr.sliceBounds,jz,run_underlying hu,(aE _ _ gH).run_sizeOf,Addr.add]
   ·rename_i aD fy kB gH ev e2;have xA:lo=none:=by simpa using ev
    subst xA;obtain⟨Il,rfl,bA⟩:=sE.1 e2;obtain⟨l,aa,vB,rfl,bo,qz,ae⟩:=ag;refine gG ?_ ae;simp only[execOp,Instr.sliceAt,Instr.slice,Instr.sliceBounds,Instr.sliceBound,jz,bZ,run_underlying hu,bK,(aE _ _ gH).run_sizeOf,cG,jT,vw,cV az bA,l7];rw[cK ⟨by omega,by omega⟩];simp[Addr.add]
   ·rename_i aD fy EI gH ev e2;have xB:hi=none:=by simpa using e2
    subst xB;obtain⟨Im,rfl,bA⟩:=sE.1 ev;obtain⟨l,aa,rfl,Io,bo,qz,ae⟩:=ag;simp only[ru,j6]at *;refine gG ?_ ae;simp only[execOp,Instr.sliceAt,Instr.slice,Instr.sliceBounds,Instr.sliceBound,jz,bZ,run_underlying hu,bK,(aE _ _ gH).run_sizeOf,cG,jT,vw,cV az bA,l7];rw[cK ⟨by omega,by omega⟩];simp
   ·rename_i aD fy EI V2 kB gH ev e2;obtain⟨Im,rfl,bA⟩:=sE.1 ev;obtain⟨Il,rfl,Ip⟩:=sE.1 e2;obtain⟨l,aa,rfl,rfl,bo,qz,ae⟩:=ag;refine gG ?_ ae;simp only[execOp,Instr.sliceAt,Instr.slice,Instr.sliceBounds,Instr.sliceBound,jz,bZ,run_underlying hu,bK,(aE _ _ gH).run_sizeOf,cG,jT,vw,cV az bA,cV az Ip,l7];rw[cK ⟨by omega,by omega⟩];simp only[cG,bK,oz];rw[cK ⟨by omega,by omega⟩];simp
   ·exact ag.elim
  ·rename_i sz gY z s av ab;have hu:=(aE _ _ av).string;have jz:=cV az ab;split at ag
   ·rename_i ev e2;have xA:lo=none:=by simpa using ev
    have xB:hi=none:=by simpa using e2
    subst xA;subst xB;refine gG ?_ ag;have aw:s.extract 0 s.size=s:=by apply ry;simp[Ep]
    simp[execOp,Instr.sliceAt,Instr.slice,Instr.sliceBounds,jz,run_underlying hu,aw]
   ·rename_i fy kB ev e2;have xA:lo=none:=by simpa using ev
    subst xA;obtain⟨Il,rfl,bA⟩:=sE.1 e2;obtain⟨l,aa,vB,rfl,bo,qz,ae⟩:=ag;refine gG ?_ ae;simp only[execOp,Instr.sliceAt,Instr.slice,Instr.sliceBounds,Instr.sliceBound,jz,bZ,run_underlying hu,bK,cG,jT,vw,cV az bA,l7];simp only[H7,jw,j8,bZ,cG,bK,l7];rw[cK ⟨by omega,by omega⟩];simp
   ·rename_i fy EI ev e2;have xB:hi=none:=by simpa using e2
    subst xB;obtain⟨Im,rfl,bA⟩:=sE.1 ev;obtain⟨l,aa,rfl,Io,bo,qz,ae⟩:=ag;simp only[ru,j6]at *;refine gG ?_ ae;simp only[execOp,Instr.sliceAt,Instr.slice,Instr.sliceBounds,Instr.sliceBound,jz,bZ,run_underlying hu,bK,cG,jT,vw,cV az bA,l7];simp only[H7,jw,j8,bZ,cG,bK,l7];rw[cK ⟨by omega,by omega⟩];simp
   ·rename_i fy EI V2 kB ev e2;obtain⟨Im,rfl,bA⟩:=sE.1 ev;obtain⟨Il,rfl,Ip⟩:=sE.1 e2;obtain⟨l,aa,rfl,rfl,bo,qz,ae⟩:=ag;refine gG ?_ ae;simp only[execOp,Instr.sliceAt,Instr.slice,Instr.sliceBounds,Instr.sliceBound,jz,bZ,run_underlying hu,bK,cG,jT,vw,cV az bA,cV az Ip,l7];simp only[H7,jw,j8,bZ,cG,bK,l7];rw[cK ⟨by omega,by omega⟩];simp only[cG,bK,oz];rw[cK ⟨by omega,by omega⟩];simp
   ·exact ag.elim
  ·exact Or.inl ag
 case extract x i=>
  simp only[cb]at ag;split at ag
  ·rename_i vs ab;split at ag
   ·rename_i v hi;refine gG ?_ ag;have cw:vs[i]?=some v:=by simpa using hi
    simp[execOp,Instr.extract,cV az ab,cw]
   ·exact ag.elim
  ·exact ag.elim
 case convert s d x=>
  simp only[cb]at ag;split at ag;·rename_i ahM sz gY z k dq n ap av ab;have hu:=(aE _ _ av).int;obtain⟨ds,e',_⟩:=(aE _ _ ap).eJ;obtain⟨r,al,ae⟩:=ag;refine gG ?_ ae;simp only[execOp,convert,cV az ab,bZ,run_underlying e',run_underlying hu,bK];simp only[Conv.intToInt,al,cG,bK]
  ·exact Or.inl ag
 case call c=>
  obtain⟨callee,args,argTypes⟩:=c;cases callee with
  |value f=>exact .inl ag| invoke r m=>exact .inl ag
  |builtin b=>
   cases b
   case len=>
    simp only[cb]at ag;split at ag
    ·rename_i t v U aa;have aw:=qw az aa;have dA:args.map a.eval=#[v]:=by apply fM;simpa using aw
     have av:argTypes=#[t]:=by apply fM;simpa using U
     subst av;split at ag;·rename_i sz gY z e ad n c b6;have hu:=(aE _ _ b6).slice;refine gG ?_ ag;simp[execOp,resolve,invoke,builtin,Builtin.len_,dA,run_underlying hu,goInt]
     ·rename_i sz gY z s b6;have hu:=(aE _ _ b6).string;refine gG ?_ ag;simp[execOp,resolve,invoke,builtin,Builtin.len_,dA,run_underlying hu,goInt]
     ·rename_i sz gY z n e b6;have hu:=(aE _ _ b6).array;refine gG ?_ ag;simp[execOp,resolve,invoke,builtin,Builtin.len_,dA,run_underlying hu,goInt]
     ·exact Or.inl ag
    ·exact Or.inl ag
   case cap=>
    simp only[cb]at ag;split at ag
    ·rename_i t v U aa;have aw:=qw az aa;have dA:args.map a.eval=#[v]:=by apply fM;simpa using aw
     have av:argTypes=#[t]:=by apply fM;simpa using U
     subst av;split at ag;·rename_i sz gY z e ad n c b6;have hu:=(aE _ _ b6).slice;refine gG ?_ ag;simp[execOp,resolve,invoke,builtin,Builtin.cap_,dA,run_underlying hu,goInt]
     ·exact Or.inl ag
    ·exact Or.inl ag
   case max=>
    simp only[cb]at ag;split at ag
    ·rename_i k p dq q aa;have aw:=qw az aa;have dA:args.map a.eval=#[.int k p,.int dq q]:=by apply fM;simpa using aw
     refine gG ?_ ag;have hm:(if q > p then q else p)=max p q:=by split<;>omega
     simp only[execOp,resolve,invoke,builtin,Builtin.max_,Builtin.max2,dA,bZ,cG,bK,List.foldlM_cons,List.foldlM_nil,hm]
    ·exact Or.inl ag
   case min=>
    simp only[cb]at ag;split at ag
    ·rename_i k p dq q aa;have aw:=qw az aa;have dA:args.map a.eval=#[.int k p,.int dq q]:=by apply fM;simpa using aw
     refine gG ?_ ag;have hm:(if q<p then q else p)=min p q:=by split<;>omega
     simp only[execOp,resolve,invoke,builtin,Builtin.min_,Builtin.min2,dA,bZ,cG,bK,List.foldlM_cons,List.foldlM_nil,hm]
    ·exact Or.inl ag
   case unsafeSliceData=>
    simp only[cb]at ag;split at ag
    ·rename_i n c aa;have aw:=qw az aa;have dA:args.map a.eval=#[.slice none n c]:=by apply fM;simpa using aw
     refine gG ?_ ag;simp only[execOp,resolve,invoke,builtin,dA,bZ,cG,bK,Lib.run_unsafeSliceData_nil]
    ·rename_i ad n c aa;obtain⟨af,ag⟩:=ag;have aw:=qw az aa;have dA:args.map a.eval=#[.slice (some ad) n c]:=by apply fM;simpa using aw
     refine gG ?_ ag;simp only[execOp,resolve,invoke,builtin,dA,bZ,cG,bK,Lib.run_unsafeSliceData_row _ _ _ _ _ _ (show c≠0 by omega)]
    ·exact Or.inl ag
   all_goals exact .inl ag
 all_goals exact .inl ag
def zy(aE:cE X.P X.E)(ah:∀ d,o.dst=some d->d<X.n)(h:Rel X a w F C I M)(ag:fO X o F C I M K):o.wpIn (fN X) 0 X.P a w (Sat X K) Q:=by
 have a1:=h;obtain⟨β,h⟩:=h;obtain⟨dst,op,ty,pos,after,guard⟩:=o;have other:bl X ⟨dst,op,ty,pos,after,guard⟩ F C I M K->(⟨dst,op,ty,pos,after,guard⟩:Oper).wpIn (fN X) 0 X.P a w (Sat X K) Q:=λ⟨h⟩=>h a w Q a1;have az:=h.aj;have quiet:cb X op (c0 F) C I M (λx=>K (Go.V.put dst x F) C I M) (bl X ⟨dst,op,ty,pos,after,guard⟩ F C I M K)->(∀ c,op≠.defer c)->(⟨dst,op,ty,pos,after,guard⟩:Oper).wpIn (fN X) 0 X.P a w (Sat X K) Q:=λaO cJ=>by
  rcases NK aE h op ty dst pos after guard aO with U | ⟨v,x,al,ab,ae⟩;·exact other U
  ·exact Nz (o:=⟨dst,op,ty,pos,after,guard⟩) h ah cJ al ab ae
 cases op
 case box t x=>
  simp only[fO]at ag;split at ag
  ·rename_i d v ab;have jz:=cV az ab;have al:(execOp a.eval ⟨some d,.box t x,ty,pos,after,guard⟩).run X.P w=.ok (.value (.pointer (some ⟨w.heap.size,0,none⟩))) (w.alloc (.cells v.cells t (0,0))):=by simp[execOp,Instr.box,newVar,newRow,jz,xr]
   have fz:d<X.n:=ah d rfl;cases iL:X.fH.contains d with
   |true=>rw[iL]at ag;obtain⟨ag⟩:=ag;have ae:=ag w.heap.size h.holds.pK h.holds.oF;have U:=(h.mM (.cells v.cells t (0,0))).Ih d;exact hV (by simp) al ⟨_,_,_,_,⟨β,cp.put U (dst:=some d) (x:=.val (.pointer (some ⟨w.heap.size,0,none⟩))) (by simpa using fz) rfl⟩,ae⟩
   |false=>rw[iL]at ag;obtain⟨l6,U⟩:=h.Nv d fz v.cells.toList t;exact hV (by simp) al ⟨_,_,_,_,⟨l6,by simpa using U⟩,ag⟩
  ·exact ag.elim
 case alloc t=>
  simp only[fO]at ag;split at ag
  ·rename_i d i hi;obtain⟨z,bg,uo⟩:=(aE _ _ hi).By w;have zx:z.cells=i.zero.toArray:=by rw[<-uo]
   have al:(execOp a.eval ⟨some d,.alloc t,ty,pos,after,guard⟩).run X.P w=.ok (.value (.pointer (some ⟨w.heap.size,0,none⟩))) (w.alloc (.cells i.zero.toArray t (0,0))):=by simp[execOp,Instr.alloc,newVar,newRow,bg,zx,xr]
   have fz:d<X.n:=ah d rfl;cases iL:X.fH.contains d with
   |true=>rw[iL]at ag;obtain⟨ag⟩:=ag;have ae:=ag w.heap.size h.holds.pK h.holds.oF;have U:=(h.mM (.cells i.zero.toArray t (0,0))).Ih d;exact hV (by simp) al ⟨_,_,_,_,⟨β,cp.put U (dst:=some d) (x:=.val (.pointer (some ⟨w.heap.size,0,none⟩))) (by simpa using fz) rfl⟩,ae⟩
   |false=>rw[iL]at ag;obtain⟨l6,U⟩:=h.Nv d fz i.zero t;exact hV (by simp) al ⟨_,_,_,_,⟨l6,U⟩,ag⟩
  ·exact ag.elim
 case store t x y=>
  simp only[fO]at ag;split at ag
  ·rename_i i v hi aN;have vC:=cV az aN;split at ag
   ·rename_i s off ab;have jz:=xw az ab;split at ag
    ·rename_i cs ap;cases bo:(Nat.ble (off+i.size) cs.length&&(Nat.beq v.cells.size i.size&&hH v.cells.toList))with
     |false=>rw[bo]at ag;exact ag.elim| true=>rw[bo]at ag;simp only[b3]at bo;obtain⟨bo,cI,jA⟩:=bo;have oH:=bJ bo;have xC:=cf cI;obtain⟨T,b6⟩:=(h.b5 s cs ap).aH;have:=EH (aE _ _ hi) (a:=⟨β s,off,none⟩) (v:=v) rfl b6 xC (by simp;omega) jA;refine zu (by simp) (w':=w.setRow (β s) (bu cs off v.cells.toList).toArray) ?_ ⟨_,_,_,_,⟨β,h.Nx ap (bu cs off v.cells.toList)⟩,ag⟩;simp only[execOp,Instr.storeAt,jz,vC,Instr.sureAddr,bZ,cG,bK];simp only[H5]at this;rw[this];rfl
    ·exact ag.elim
   ·rename_i ad ab;have jz:=rC az ab;cases cI:Nat.beq v.cells.size i.size with
    |false=>rw[cI]at ag;exact ag.elim| true=>rw[cI]at ag;obtain⟨a6,post,cs,T,a4,b0,ai,jA,ae⟩:=ag;have xC:=cf cI;have aA:w.heap[ad.block]?=some (.cells cs T (0,0)):=h.holds.m ⟨ad.block,.cells cs T (0,0)⟩ (by rw[a4];simp);have:=EH (aE _ _ hi) (v:=v) b0 aA xC ai jA;refine zu (by simp) (w':=w.setRow ad.block (bu cs.toList ad.off v.cells.toList).toArray) ?_ ⟨_,_,_,_,⟨β,h.vy a4⟩,ae⟩;simp only[execOp,Instr.storeAt,jz,vC,Instr.sureAddr,bZ,cG,bK];rw[this];rfl
   ·exact ag.elim
  ·exact ag.elim
 case buildSlice t len parts=>
  simp only[fO]at ag;split at ag
  ·rename_i sz gY z e vs av g7;have hu:=(aE _ _ av).slice;have aG:=EC az g7;have vA:(parts.map λ(i,x)=>(i,a.eval x)).toList=vs:=by simpa using aG
   split at ag
   ·rename_i aD gH;cases bg:(Nat.ble (len*aD.size) 16777216&&Nat.blt 0 (len*aD.size))with
    |false=>
     rw[bg]at ag;simp only[ba]at ag;split at ag
     ·rename_i V3;obtain⟨ag⟩:=ag;have ae:=ag w.heap.size h.holds.pK h.holds.oF;refine hV (by simp) (v:=.slice (some ⟨w.heap.size,0,none⟩) 0 0) (w':=w.alloc (.cells #[] e (0,0))) ?_ ⟨_,_,_,_,⟨β,(h.mM _).put (x:=.val (.slice (some ⟨w.heap.size,0,none⟩) 0 0)) ah rfl⟩,ae⟩;simp only[execOp,Instr.buildSlice,bZ,bK,run_underlying hu,(aE _ _ gH).run_sizeOf,vA];have cv:∀ f:Nat->Value,Array.map f (Array.range 0)=#[]:=λf=>by apply Array.ext<;>simp
      simp[newRow,xr,Instr.fill,cv]
     ·exact ag.elim
    |true=>
     rw[bg]at ag;simp only[bh]at ag;rw[b3]at bg;have bo:=bJ bg.1;have jX:0<len*aD.size:=by simpa using bg.2
     split at ag;·rename_i cells sK;obtain⟨qA,xD,uo⟩:=(aE _ _ gH).By w;obtain⟨ag⟩:=ag;have ae:=ag w.heap.size h.holds.pK h.holds.oF;refine hV (by simp) (v:=.slice (some ⟨w.heap.size,0,none⟩) len len) (w':=w.alloc (.cells cells.toArray e (0,0))) ?_ ⟨_,_,_,_,⟨β,(h.mM _).put (x:=.val (.slice (some ⟨w.heap.size,0,none⟩) len len)) ah rfl⟩,ae⟩;have pM:=fill_eq _ _ _ _ sK;simp only[execOp,Instr.buildSlice,bZ,bK,run_underlying hu,(aE _ _ gH).run_sizeOf];rw[cA (by omega)];simp only[cA (show ¬ len*aD.size=0 by omega),bZ,xD,bK,cG,vA,NF qA aD.zero uo,pM];simp[newRow,xr]
     ·exact ag.elim
   ·exact ag.elim
  ·exact ag.elim
 case makeSlice t l c=>
  simp only[fO]at ag;split at ag
  ·rename_i sz gY z e k4 c4 jc c' av ar aL;have hu:=(aE _ _ av).slice;split at ag
   ·rename_i aD gH;obtain⟨n,m,rfl,rfl,uq,ai,hm,⟨ag⟩⟩:=ag;have ae:=ag w.heap.size h.holds.pK h.holds.oF;obtain⟨inf,qA,fa,g8,hY,ka,xE⟩:=(aE _ _ gH).inf;refine hV (by simp) (v:=.slice (some ⟨w.heap.size,0,none⟩) n m) (w':=w.alloc (.cells (rowOf aD.zero (m*aD.size)).toArray e (0,0))) ?_ ⟨_,_,_,_,⟨β,(h.mM _).put (x:=.val (.slice (some ⟨w.heap.size,0,none⟩) n m)) ah rfl⟩,ae⟩;have eW:((aD.bytes:Nat):Int)*(m:Int)<=281474976710656:=by
     have aa:((aD.bytes*m:Nat):Int)<=281474976710656:=by omega
     simpa using aa
    have:=run_make (P:=X.P) w t e inf qA hu fa ka k4 jc (n:Int) (m:Int) (by omega) (by omega) (by rw[hY];exact eW) (by omega);simp only[execOp,cV az ar,cV az aL,bZ,this,bK,cG,oz];have aw:madeCells qA.cells (m*inf.size)=(rowOf aD.zero (m*aD.size)).toArray:=by rw[g8,<-xE];simp[vx]
    rw[aw]
   ·exact ag.elim
  ·exact ag.elim
 case call c=>
  obtain⟨callee,args,argTypes⟩:=c;cases callee with
  |value f=>
   simp only[fO]at ag;split at ag
   ·rename_i g first cap vs vD g7
    have aw:=qw az g7;have dA:args.map a.eval=vs.toArray:=by apply fM;simpa using aw
    have eK:∀ {n:Next} {w':World},(callFunc g (first.toList++vs++cap.toList).toArray).run X.P w=.ok n w'->(execOp a.eval ⟨dst,.call { callee:=.value f,args,argTypes },ty,pos,after,guard⟩).run X.P w=.ok n w':=λal=>by simp only[execOp,resolve,cV az vD,Deferred.ofValue,bZ,cG,bK,dA,invoke];rw[show first++vs.toArray++cap=(first.toList++vs++cap.toList).toArray from by apply fM;simp];exact al
    rcases h.call ag with⟨nB,xF⟩ | ⟨v,w',I',M',al,ae,gj⟩;·refine NE (by simp) (f:=g) (args:=(first.toList++vs++cap.toList).toArray) (eK (nB _ _)) ?_;refine xF.mono ?_;rintro e w'⟨v,I',M',rfl,ae,al⟩;exact⟨v,rfl,_,_,_,_,⟨β,al.put (x:=.val v) ah rfl⟩,ae⟩
    ·exact hV (by simp) (eK al) ⟨_,_,_,_,⟨β,gj.put (x:=.val v) ah rfl⟩,ae⟩
   ·exact other ag
  |invoke r m=>exact quiet ag (by simp)
  |builtin b=>
   cases b
   all_goals exact quiet ag (by simp)
 case defer c=>exact other ag
 all_goals exact quiet ag (by simp)
end
section
variable{X:cD}{β:Nat->Nat}{a:Act}{w:World}{F:Fr}{C:c2}{I:aS}{M:List ay}{o:Oper}{Q:Exit->Act->World->Prop}{K:fo}
def zz{d:Nat}{c:Bool}(h:a.tmps.getD d undef=.bool c):a.tmps[d]?=some (.bool c):=by
 rw[mL]at h;cases ah:a.tmps[d]? with
 |none=>rw[ah]at h;cases h| some v=>rw[ah]at h;simp at h;rw[h]
def BC{ops:Array Oper}{j d:Nat}(ah:(ops[j]?).bind (·.dst)=some d)(tmps:Array Value):yielded ops tmps j=match tmps[d]? with
  |some (.bool b)=>some b| _=>none:=by
 unfold yielded;rw[ah];rfl
def cp.refine(h:cp X β a w F C I M){dE:Fr}(cr:∀ t,dZ β (dE t) (a.tmps.getD t undef)):cp X β a w dE C I M:={ h with aj:=cr }
def NL(aE:cE X.P X.E)(ops:Array Oper)(rF:∀ a w,Sat X K a w->Q .normal a w):∀ (l:List Oper) (k:Nat),(∀ j,l[j]?=ops[k+j]?)->(∀ o∈l,∀ d,o.dst=some d->d<X.n) -> ∀ {F C I M a w},Rel X a w F C I M->rB X ops.toList l F C I M K->wpOpsIn (fN X) 0 X.P ops Q (List.range' k l.length) a w
 |[],k,_,_,F,C,I,M,a,w,a1,ag=>rF _ _ ⟨F,C,I,M,a1,ag⟩
 |o::a2,k,ar,ah,F,C,I,M,a,w,a1,ag=>by
  have ao:ops[k]?=some o:=by simpa using(ar 0).symm
  have oJ:∀ j,a2[j]?=ops[k+1+j]?:=λj=>by have:=ar (j+1);simpa[oA,Ey 1 j]using this
  have gZ:∀ o∈a2,∀ d,o.dst=some d->d<X.n:=λo aq=>ah o (by simp[aq]);have vE:=ah o (by simp);have be:=@NL aE ops rF a2 (k+1) oJ gZ;simp only[e1,List.range'_succ,wpOpsIn,ao];have run:∀ {F C I M},Rel X a w F C I M->fO X o F C I M (λF C I M=>rB X ops.toList a2 F C I M K)->o.wpIn (fN X) 0 X.P a w (wpOpsIn (fN X) 0 X.P ops Q (List.range' (k+1) a2.length)) Q:=λa1 ag=>
   qm (λbS w' ⟨dE,C',I',M',al,ae⟩=>be al ae) (zy aE vE a1 ag)
  have skip:∀ {F C I M},Rel X a w F C I M->rB X ops.toList a2 (put o.dst (.val undef) F) C I M K->(∀ f,o.about X.P w a.eval=some f->(fN X).fn f)/\wpOpsIn (fN X) 0 X.P ops Q (List.range' (k+1) a2.length) (a.put o.dst undef) w:=λ⟨β,al⟩ ag=>
   ⟨λ_ _=>trivial,be ⟨β,al.put (x:=.val undef) vE rfl⟩ ag⟩
  unfold rB at ag;cases aA:o.guard with
  |none=>
   rw[aA]at ag;have hw:Region.wanted o (yielded ops a.tmps)=true:=by simp[Region.wanted,aA]
   rw[cK hw];exact run a1 ag
  |some BD=>
   obtain⟨j,b⟩:=BD;rw[aA]at ag;simp only at ag;cases an:(ops.toList[j]?).bind (·.dst)with
   |none=>rw[an]at ag;exact ag.elim
   |some d=>
    rw[an]at ag;simp only at ag;have ij:(ops[j]?).bind (·.dst)=some d:=by simpa using an
    have aN:=BC ij a.tmps;obtain⟨β,al⟩:=a1;have cr:=al.aj d;split at ag
    ·rename_i c aL;rw[aL]at cr;have BE:=zz cr;have BF:Region.wanted o (yielded ops a.tmps)=(c == b):=by simp[Region.wanted,aA,aN,BE]
     rw[BF];cases hZ:(c == b)with
     |true=>rw[hZ]at ag;simp only[qp];exact run ⟨β,al⟩ ag| false=>rw[hZ]at ag;simp only[jw,j8];exact skip ⟨β,al⟩ ag
    ·rename_i c aL;rw[aL]at cr;have BE:=zz cr;have BF:Region.wanted o (yielded ops a.tmps)=(c == b):=by simp[Region.wanted,aA,aN,BE]
     rw[BF];obtain⟨xG,vF⟩:=ag;have set:∀ x:Bool,c=x->Rel X a w (fG F d (.lit x)) C I M:=λx ab=>⟨β,al.refine λt=>by
      unfold fG;by_cases e:t=d;·subst e;simp only[oE,bh];rw[<-ab];exact cr
      ·simp only[fX e,ba];exact al.aj t⟩
     by_cases hZ:c=b
     ·have:(c == b)=true:=by simp[hZ]
      rw[this];simp only[qp];exact run (set b hZ) (xG hZ)
     ·have aa:c=!b:=by cases c<;>cases b<;>simp_all
      have:(c == b)=false:=by simp[hZ]
      rw[this];simp only[jw,j8];exact skip (set _ aa) (vF aa)
    ·rename_i vs aL;rw[aL]at cr;have xH:yielded ops a.tmps j=none:=by
      rw[aN];cases oK:a.tmps[d]? with
      |none=>rfl| some v=>simp only[dZ,mL,oK,j6]at cr;subst cr;rfl
     have BF:Region.wanted o (yielded ops a.tmps)=false:=by simp[Region.wanted,aA,xH]
     rw[BF];simp only[jw,j8];exact skip ⟨β,al⟩ ag
    ·exact ag.elim
end
inductive sL:c6->c6->Prop
 |refl{x}:sL x x| lit {b}:sL (.lit b) (.val (.bool b))| k2 {x}:sL x .k2
def oL:List (Nat×c6)->Fr
 |[],_=>.k2|(t,x)::l,s=>bif Nat.beq s t then x else oL l s
def oM:List (Nat×List Value)->c2
 |[],_=>none|(t,x)::l,s=>bif Nat.beq s t then some x else oM l s
inductive jB(F:Fr):List (Nat×c6)->Prop
 |nil:jB F []| cons {t x l} (h:sL (F t) x) (k:jB F l):jB F ((t,x)::l)
inductive vG(C:c2):List (Nat×List Value)->Prop
 |nil:vG C []| cons {t x l} (h:C t=some x) (k:vG C l):vG C ((t,x)::l)
def V4{β:Nat->Nat}{x y:c6}(h:sL x y)(ab:dZ β x v):dZ β y v:=by
 cases h with
 |refl=>exact ab| lit=>exact ab| k2=>trivial
def jB.ok{β:Nat->Nat}{F:Fr}(h:∀ t,dZ β (F t) (a.tmps.getD t undef)){l:List (Nat×c6)}(ar:jB F l)(t:Nat):dZ β (oL l t) (a.tmps.getD t undef):=by
 induction ar with
 |nil=>trivial
 | @cons eS x l ab k be=>
  unfold oL;by_cases e:t=eS;·subst e;simp only[oE,bh];exact V4 ab (h t)
  ·simp only[fX e,ba];exact be
def vG.ok{C:c2}{l:List (Nat×List Value)}(ar:vG C l){s:Nat}{cs:List Value}(h:oM l s=some cs):C s=some cs:=by
 induction ar with
 |nil=>cases h
 | @cons eS x l ab k be=>
  unfold oM at h;by_cases e:s=eS;·subst e;simp only[oE,bh]at h;rw[ab,h]
  ·simp only[fX e,ba]at h;exact be h
def cp.a3{X:cD}{β:Nat->Nat}{F:Fr}{C:c2}{I:aS}{M:List ay}(h:cp X β a w F C I M){bj:List (Nat×c6)}{cl:List (Nat×List Value)}(cr:jB F bj)(nC:vG C cl):cp X β a w (oL bj) (oM cl) I M:=
 { h with
  aj:=cr.ok h.aj
  b5:=λs cs ap=>h.b5 s cs (nC.ok ap)
  inj:=λs cq U aa=>by
   obtain⟨eE,aw⟩:=Em.1 U;obtain⟨eL,aB⟩:=Em.1 aa;exact h.inj s cq (by rw[nC.ok aw];simp) (by rw[nC.ok aB];simp) }
inductive qB where
 |normal| exit (id:Nat)| goto (l:Nat)| ret
abbrev jC:=qB->fo
def xI(N:fo)(K:jC):jC
 | .normal=>N| .exit id=>K (.exit id)| .goto l=>K (.goto l)| .ret=>K .ret
def NM(id:Nat)(K:jC):jC
 | .normal=>K .normal| .exit j=>bif Nat.beq j id then K .normal else K (.exit j)| .goto l=>K (.goto l)| .ret=>K .ret
def kC(X:cD)(K:jC):Exit->Act->World->Prop
 | .normal,a,w=>Sat X (K .normal) a w| .exit id,a,w=>Sat X (K (.exit id)) a w| .goto l,a,w=>Sat X (K (.goto l)) a w| .ret,a,w=>Sat X (K .ret) a w| .panic _,_,_=>False| .outgrown,_,_=>False
abbrev Body:=Fr->c2->aS->List ay->jC->Prop
structure ur where
 bj:List (Nat×c6)
 cl:List (Nat×List Value):=[]
 c5:aS
 dv:List ay:=[]
inductive nE{ι:Type}(bW:List Nat)(au:ι->ur)(p:ι->Prop)(F:Fr)(C:c2)(I:aS)(M:List ay):Prop
 |mk(j:ι)(aG:p j)(hw:i' bW I M (au j).c5 (au j).dv)(cr:jB F (au j).bj)(nC:vG C (au j).cl)
def Iq(body:Body)(K:jC):Nat->fo
 |0=>λ_ _ _ _=>False
 |n+1=>λF C I M=>body F C I M (xI (Iq body K n) K)
inductive dB(bW:List Nat)(body:Body)(F:Fr)(C:c2)(I:aS)(M:List ay)(K:jC):Prop
 |inv {ι:Type} (au:ι->ur) (inv:ι->Prop) (μ:ι->Nat) (start:nE bW au inv F C I M) (round:∀ i,inv i->body (oL (au i).bj) (oM (au i).cl) (au i).c5 (au i).dv (xI (nE bW au λj=>inv j/\μ j<μ i) K))| V5 (n:Nat) (h:Iq body K n F C I M)| EJ {ι:Type} (au:ι->ur) (inv:ι->Prop) (μ:ι->Nat) (start:qt I M->nE bW au inv F C I M) (round:∀ i,inv i->body (oL (au i).bj) (oM (au i).cl) (au i).c5 (au i).dv (xI (λF C I M=>qt I M->nE bW au (λj=>inv j/\μ j<μ i) F C I M) K))
inductive cW(X:cD)(c:Code)(F:Fr)(C:c2)(I:aS)(M:List ay)(K:jC):Prop
 |mk(h:∀ a w,Rel X a w F C I M->c.wpIn (fN X) 0 X.P (kC X K) a w)
inductive V6(bW:List Nat)(F:Fr)(C:c2)(I:aS)(M:List ay)(K:fo):Prop
 |go(h:K F C I M)| EK (l:ur) (hw:i' bW I M l.c5 l.dv) (cr:jB F l.bj) (nC:vG C l.cl) (h:K (oL l.bj) (oM l.cl) l.c5 l.dv)
def V(X:cD):Code->Fr->c2->aS->List ay->jC->Prop
 | .skip,F,C,I,M,K=>K .normal F C I M| .label l,F,C,I,M,K=>bif Nat.ble 2 l then V6 X.bW F C I M (K .normal)else K .normal F C I M| .ret,F,C,I,M,K=>K .ret F C I M| .exit id,F,C,I,M,K=>K (.exit id) F C I M| .goto l,F,C,I,M,K=>K (.goto l) F C I M| .seq x y,F,C,I,M,K=>V X x F C I M (xI (λF C I M=>V X y F C I M K) K)| .block id c,F,C,I,M,K=>V X c F C I M (NM id K)
 | .cond c x y,F,C,I,M,K=>
  match c0 F c with
  | .lit b=>bif b then V X x F C I M K else V X y F C I M K| .val (.bool b)=>a0 b (V X x F C I M K) (V X y F C I M K)| _=>False
 | .loop c,F,C,I,M,K=>dB X.bW (V X c) F C I M K| .region _ ops false,F,C,I,M,K=>rB X ops.toList ops.toList F C I M (K .normal)| .region id ops true,F,C,I,M,K=>cW X (.region id ops true) F C I M K| .rangeFunc f ps eC body,F,C,I,M,K=>cW X (.rangeFunc f ps eC body) F C I M K| .scope c,F,C,I,M,K=>cW X (.scope c) F C I M K| .refuse _,_,_,_,_,_=>False
def vH(n:Nat)(ops:Array Oper):Bool:=ops.toList.all λo=>match o.dst with
 |some d=>Nat.blt d n| none=>true
def codeOk(n:Nat):Code->Bool
 | .seq x y=>codeOk n x&&codeOk n y| .block _ c=>codeOk n c| .cond _ x y=>codeOk n x&&codeOk n y| .loop c=>codeOk n c| .region _ ops _=>vH n ops| _=>true
def EL{ops:Array Oper}(h:vH n ops=true):∀ o∈ops.toList,∀ d,o.dst=some d->d<n:=by intro o aq d ah;have:=gi.1 h o aq;rw[ah]at this;simpa using this
def kC.then{X:cD}{N:fo}{K:jC}(ax:∀ a w,Sat X N a w->next a w):∀ e a w,kC X (xI N K) e a w->Exit.then next (kC X K) e a w:=by
 intro e a w h;cases e<;>first | exact ax _ _ h | exact h
def EM{pN:Fence}(J:Nat->Act->World->Prop)(V7:J m a w)
  (round:∀ m a w,J m a w->c.wpIn pN n P (Exit.then (λbS w'=>∃ m',m'<m/\J m' bS w') Q) a w):(Code.loop c).wpIn pN n P Q a w:=by
 intro b k cs kc ai al;have key:∀ j a w,J j a w->∃ e bS w',Q e bS w'/\ArrivesIn (Machine.fenced P pN) P (lone (b.atR a (.code c::.inLoop c::k)) cs w) b k cs e bS w':=by
  intro j
  induction j using Nat.strongRecOn with
  |_ j be=>
   intro a w bF;obtain⟨e,ik,il,aO,hj⟩:=round j a w bF b (.inLoop c::k) cs kc ai al;cases e with
   |normal=>obtain⟨m',aK,V8⟩:=aO;obtain⟨BG,BH,BI,BJ,BK⟩:=be m' aK ik il V8;exact⟨BG,BH,BI,BJ,.of_steps (StepsIn.trans hj (.one (fenced_calm ai al rfl) stepR_inLoop)) BK⟩
   |exit id=>exact⟨_,ik,il,aO,.pass (x:=.inLoop c) rfl (λ_ _=>.inl (by simp)) hj⟩| goto l=>exact⟨_,ik,il,aO,.pass (x:=.inLoop c) rfl (λ_ _=>.inl (by simp)) hj⟩| ret=>exact⟨_,ik,il,aO,.pass (x:=.inLoop c) rfl (λ_ _=>.inl (by simp)) hj⟩| panic sM=>exact⟨_,ik,il,aO,.pass (x:=.inLoop c) rfl (λ_ _=>.inl (by simp)) hj⟩| outgrown=>exact⟨_,ik,il,aO,.pass (x:=.inLoop c) rfl (λ_ _=>.inl (by simp)) hj⟩
 obtain⟨e,bS,w',aO,hj⟩:=key _ a w V7;exact⟨e,bS,w',aO,.of_steps (.one (fenced_calm ai al rfl) stepR_loop) hj⟩
def oN{X:cD}(aE:cE X.P X.E):∀ (c:Code) {F C I M K a w},codeOk X.n c=true->Rel X a w F C I M->V X c F C I M K->c.wpIn (fN X) 0 X.P (kC X K) a w
 | .skip,F,C,I,M,K,a,w,_,a1,ag=>wpIn_skip ⟨F,C,I,M,a1,ag⟩
 | .label l,F,C,I,M,K,a,w,_,a1,ag=>by
  refine wpIn_label ?_;simp only[V]at ag;cases ar:Nat.ble 2 l with
  |false=>rw[ar]at ag;exact⟨F,C,I,M,a1,ag⟩
  |true=>
   rw[ar]at ag;simp only[bh]at ag;cases ag with
   |go h=>exact⟨F,C,I,M,a1,h⟩| EK l hw cr nC h=>obtain⟨β,al⟩:=a1;exact⟨_,_,_,_,⟨β,(al.a3 cr nC).hh hw⟩,h⟩
 | .ret,F,C,I,M,K,a,w,_,a1,ag=>wpIn_ret ⟨F,C,I,M,a1,ag⟩| .exit id,F,C,I,M,K,a,w,_,a1,ag=>wpIn_exit ⟨F,C,I,M,a1,ag⟩| .goto l,F,C,I,M,K,a,w,_,a1,ag=>wpIn_goto ⟨F,C,I,M,a1,ag⟩| .seq x y,F,C,I,M,K,a,w,bf,a1,ag=>by simp only[codeOk,b3]at bf;refine wpIn_seq (wpIn_mono (oN aE x bf.1 a1 ag) (kC.then ?_));rintro a w⟨dE,C',I',M',al,ae⟩;exact oN aE y bf.2 al ae
 | .block id c,F,C,I,M,K,a,w,bf,a1,ag=>by
  refine wpIn_block (wpIn_mono (oN aE c bf a1 ag) ?_);intro e a w h;cases e with
  |exit j=>
   simp only[kC,NM]at h;simp only[Exit.inBlock];by_cases e:j=id;·subst e;simp only[oE,bh]at h;rw[cK rfl];exact h
   ·simp only[fX e,ba]at h;rw[cA e];exact h
  |_=>exact h
 | .cond c x y,F,C,I,M,K,a,w,bf,a1,ag=>by
  simp only[codeOk,b3]at bf;obtain⟨β,al⟩:=a1;simp only[V]at ag;split at ag
  ·rename_i b ai;have aL:=Ic al.aj ai;refine wpIn_cond aL ?_;cases b
   ·exact oN aE y bf.2 ⟨β,al⟩ ag
   ·exact oN aE x bf.1 ⟨β,al⟩ ag
  ·rename_i b ai;have aL:=rC al.aj ai;refine wpIn_cond aL ?_;obtain⟨U,aa⟩:=ag;cases b
   ·exact oN aE y bf.2 ⟨β,al⟩ (aa rfl)
   ·exact oN aE x bf.1 ⟨β,al⟩ (U rfl)
  ·exact ag.elim
 | .loop c,F,C,I,M,K,a,w,bf,a1,ag=>by
  have be:=@oN X aE c;simp only[V]at ag;have hinv:∀ {ι:Type} (au:ι->ur) (inv:ι->Prop) (μ:ι->Nat) (start:qt I M->nE X.bW au inv F C I M)
    (round:∀ i,inv i->V X c (oL (au i).bj) (oM (au i).cl) (au i).c5 (au i).dv (xI (λF C I M=>qt I M->nE X.bW au (λj=>inv j/\μ j<μ i) F C I M) K)),(Code.loop c).wpIn (fN X) 0 X.P (kC X K) a w:=by
   intro ι au inv μ start round;let J (m:Nat) (a:Act) (w:World):Prop:=∃ i,inv i/\μ i=m/\Rel X a w (oL (au i).bj) (oM (au i).cl) (au i).c5 (au i).dv
   have vI:∀ {p:ι->Prop} {a w},(∀ i,p i->inv i)->Sat X (λF C I M=>qt I M->nE X.bW au p F C I M) a w->∃ i,p i/\J (μ i) a w:=by rintro p a w aG⟨F,C,I,M,⟨β,al⟩,ja⟩;obtain⟨j,pO,hw,cr,nC⟩:=ja ⟨al.holds.d,al.holds.ch⟩;exact⟨j,pO,j,aG j pO,rfl,β,(al.a3 cr nC).hh hw⟩
   obtain⟨i0,_,EN⟩:=vI (λ_ h=>h) ⟨F,C,I,M,a1,start⟩;refine EM J EN ?_;rintro m a w⟨i,hi,rfl,al⟩;refine wpIn_mono (be bf al (round i hi)) ?_;intro e a w h;cases e with
   |normal=>obtain⟨j,⟨an,aK⟩,dm⟩:=vI (λ_ h=>h.1) h;exact⟨_,aK,dm⟩
   |_=>exact h
  cases ag with
  | @inv ι au inv μ start round=>
   let J (m:Nat) (a:Act) (w:World):Prop:=∃ i,inv i/\μ i=m/\Rel X a w (oL (au i).bj) (oM (au i).cl) (au i).c5 (au i).dv
   have vI:∀ {p:ι->Prop} {a w},(∀ i,p i->inv i)->Sat X (nE X.bW au p) a w->∃ i,p i/\J (μ i) a w:=by rintro p a w aG⟨F,C,I,M,⟨β,al⟩,⟨j,pO,hw,cr,nC⟩⟩;exact⟨j,pO,j,aG j pO,rfl,β,(al.a3 cr nC).hh hw⟩
   obtain⟨i0,_,EN⟩:=vI (λ_ h=>h) ⟨F,C,I,M,a1,start⟩;refine EM J EN ?_;rintro m a w⟨i,hi,rfl,al⟩;refine wpIn_mono (be bf al (round i hi)) ?_;intro e a w h;cases e with
   |normal=>obtain⟨j,⟨an,aK⟩,dm⟩:=vI (λ_ h=>h.1) h;exact⟨_,aK,dm⟩
   |_=>exact h
  |EJ au inv μ start round=>exact hinv au inv μ start round
  |V5 n h=>
   refine EM (λm a w=>Sat X (Iq (V X c) K m) a w) ⟨F,C,I,M,a1,h⟩ ?_;rintro m a w⟨F,C,I,M,al,ae⟩;cases m with
   |zero=>exact ae.elim
   |succ m=>
    refine wpIn_mono (be bf al ae) ?_;intro e a w h;cases e with
    |normal=>exact⟨m,Eu m,h⟩| _=>exact h
 | .region id ops false,F,C,I,M,K,a,w,bf,a1,ag=>by refine wpIn_region ?_;have:=NL (K:=K .normal) (Q:=kC X K) aE ops (λ_ _ h=>h) ops.toList 0 (by simp) (EL bf) a1 ag;simpa[H4]using this
 | .region id ops true,F,C,I,M,K,a,w,bf,a1,⟨ag⟩=>ag a w a1| .rangeFunc f ps eC body,F,C,I,M,K,a,w,bf,a1,⟨ag⟩=>ag a w a1| .scope c,F,C,I,M,K,a,w,bf,a1,⟨ag⟩=>ag a w a1| .refuse _,F,C,I,M,K,a,w,bf,a1,ag=>ag.elim
def uu(args:List Value):Fr:=λt=>match args[t]? with
 |some v=>.val v| none=>.k2
def mP(X:cD)(F:Fr)(C:c2)(I:aS)(M:List ay):List ResultVar->(List Value->Prop)->Prop
 |[],K=>K []
 | .tmp t::l,K=>match br F (.tmp t)with
  | .val v=>mP X F C I M l λvs=>K (v::vs)
  |_=>False
 | .cell t ty::l,K=>match c0 F (.tmp t),X.E ty with
  | .ref s off,some i=>(match C s with
   |some cs=>bif Nat.ble (off+i.size) cs.length then mP X F C I M l λvs=>K (pack i.bz.agg ((cs.drop off).take i.size)::vs)else False
   |none=>False)
  | .val (.pointer (some a)),some i=>aF I M a i.size λws=>mP X F C I M l λvs=>K (pack i.bz.agg ws::vs)
  |_,_=>False
inductive sN(bW:List Nat)(I:aS)(M:List ay)(post:aS->List ay->Prop):Prop
 |mk(I':aS)(M':List ay)(hw:i' bW I M I' M')(h:post I' M')
def sO(X:cD)(bd:List ResultVar)(post:Value->aS->List ay->Prop):jC:=λex F C I M=>
 let done:Prop:=mP X F C I M bd λvs=>match vs with
  |[v]=>sN X.bW I M (post v)| vs=>sN X.bW I M (post (.tuple vs.toArray))
 match ex with
 | .normal=>done| .ret=>done| _=>False
def zA(tmps:Array Value):ResultVar->Sem Value
 | .tmp t=>pure (tmps.getD t undef)| .cell a t=>do loadVar t (<-asAddr (tmps.getD a undef))
def V9(fn:Func)(tmps:Array Value):results fn tmps=(do let vs <-fn.results.mapM (zA tmps);pure (if h:vs.size=1 then vs[0]else .tuple vs)):=by unfold results;congr 1
def EO{X:cD}(aE:cE X.P X.E){β:Nat->Nat}{a:Act}{w:World}{F:Fr}{C:c2}{I:aS}{M:List ay}(h:cp X β a w F C I M):∀ {bd:List ResultVar} {K:List Value->Prop},mP X F C I M bd K -> ∃ vs,K vs/\(bd.mapM (zA a.tmps)).run X.P w=.ok vs w
 |[],K,ag=>⟨[],ag,rfl⟩
 | .tmp t::l,K,ag=>by
  unfold mP at ag;split at ag;·rename_i v U;have aw:a.tmps.getD t undef=v:=cV h.aj U;obtain⟨vs,ae,aB⟩:=EO aE h ag;refine⟨_,ae,?_⟩;simp only[Bu,zA,bZ,cG,bK,aB,aw]
  ·exact ag.elim
 | .cell t ty::l,K,ag=>by
  unfold mP at ag;split at ag
  ·rename_i s off i U hi;have aw:a.tmps.getD t undef=.pointer (some ⟨β s,off,none⟩):=xw h.aj U;split at ag
   ·rename_i cs ap;cases bo:Nat.ble (off+i.size) cs.length with
    |false=>rw[bo]at ag;exact ag.elim| true=>rw[bo]at ag;obtain⟨vs,ae,aB⟩:=EO aE h ag;have oH:=bJ bo;obtain⟨T,b6⟩:=(h.b5 s cs ap).aH;have bD:=EG (aE _ _ hi) (a:=⟨β s,off,none⟩) rfl b6 (vs:=(cs.drop off).take i.size) (by simp) (by simp;omega);refine⟨_,ae,?_⟩;simp only[Bu,zA,bZ,cG,bK,aB,aw,asAddr,bD]
   ·exact ag.elim
  ·rename_i ad i U hi;have aw:a.tmps.getD t undef=.pointer (some ad):=rC h.aj U;obtain⟨ws,⟨b0,cs,T,aj,dR,g7,ar⟩,ag⟩:=ag;obtain⟨vs,ae,aB⟩:=EO aE h ag;have bD:=EG (aE _ _ hi) b0 (dR.heap h.holds) g7 ar;refine⟨_,ae,?_⟩;simp only[Bu,zA,bZ,cG,bK,aB,aw,asAddr,bD]
  ·exact ag.elim
def V'{X:cD}(aE:cE X.P X.E){β:Nat->Nat}{F:Fr}{C:c2}{I:aS}{M:List ay}(h:cp X β a w F C I M){K:List Value->Prop}(ag:mP X F C I M fn.results.toList K) :
  ∃ vs,K vs/\(results fn a.tmps).run X.P w=.ok (match vs with | [v]=>v | vs=>.tuple vs.toArray) w:=by
 obtain⟨vs,ae,e⟩:=EO aE h ag;refine⟨vs,ae,?_⟩;rw[V9];have aw:(fn.results.mapM (zA a.tmps)).run X.P w=.ok vs.toArray w:=by rw[Nr,Sem.run_map,e];rfl
 simp only[bZ,aw,bK,cG]
 match vs with
 |[]=>rfl| [v]=>rfl| u::v::l=>simp
def NN{pN:Fence}{n:Nat}{P:Program}{fn:Func}{tmps:Array Value}{R:Ending->World->Prop}:∀ (bd:List Nat) (w:World),bd.Nodup->(∀ r∈bd,w.heap[r]?=some (.deferred (some []))) -> (∀ w':World,w'.heap.size=w.heap.size->(∀ b,b ∉ bd->w'.heap[b]?=w.heap[b]?)->l5 w w'->∃ v,(results fn tmps).run P w'=.ok v w'/\R (.returned v) w')->LeavesInM pN n P fn tmps R (bd.map uj) .returning w
 |[],w,_,_,h=>h w rfl (λ_ _=>rfl) (.refl _)
 |r::bd,w,cJ,al,h=>by
  rw[lA]at cJ;refine⟨by simp,.inl ⟨r,_,rfl,run_takeDeferred (al r (by simp)),?_⟩⟩;refine NN bd _ cJ.2 (λrG gj=>?_) λw' ap ai aq=>h w' (by rw[ap];simp) (λb Ir=>?_) ((ED _ _ _).trans aq);·have bB:rG≠r:=λe=>cJ.1 (e ▸ gj);rw[k1 bB];exact al rG (by simp[gj])
  ·simp only[eg,not_or]at Ir;rw[ai b Ir.2,k1 Ir.1]
def cp.take{X:cD}{β:Nat->Nat}{F:Fr}{C:c2}{I:aS}{M:List ay}(h:cp X β a w F C I M){bd:List Nat}(qC:∀ r∈bd,sG X w I M r)(ap:w'.heap.size=w.heap.size)(ai:∀ b,b ∉ bd->w'.heap[b]?=w.heap[b]?)(aq:l5 w w') :
  cp X β { a with defers:=[] } w' F C I M:=by
 exact {
  size:=h.size
  defers:=⟨[],rfl,xt,λr al=>by cases al⟩
  holds:={
   i:=λb o hW=>by rw[ai b (λal=>by have:=(qC b al).ig;rw[hW]at this;cases this)];exact h.holds.i b o hW
   m:=λx ab=>by rw[ai _ (λal=>(qC _ al).ec x ab rfl)];exact h.holds.m x ab
   d:=h.holds.d
   ch:=h.holds.ch }
  aj:=h.aj
  b5:=λs cs jd=>by have rH:=h.b5 s cs jd;obtain⟨T,b6⟩:=rH.aH;refine { rH with aH:=⟨T,?_⟩ };rw[ai _ (λal=>by have:=(qC _ al).aH;rw[b6]at this;cases this)];exact b6
  inj:=h.inj
  gP:=h.gP
  gu:=h.gu
  own:=h.own
  c3:=λb aK az=>by rw[ai _ (λal=>by have:=(qC _ al).a3;omega)];exact h.c3 b aK az
  out:=h.out.trans aq
  sz:=by rw[ap];exact h.sz }
def kC.ret{X:cD}(aE:cE X.P X.E){post:Value->aS->List ay->Prop}
  (a1:∀ v I M (w:World) (a:Act) (F:Fr) (C:c2),Rel X a w F C I M->post v I M->R (.returned v) w):∀ e a w,kC X (sO X fn.results.toList post) e a w->bodyPostM (fN X) 0 X.P fn R e a w:=by
 have main:∀ a w,Sat X (sO X fn.results.toList post .ret) a w->LeavesInM (fN X) 0 X.P fn a.tmps R a.defers .returning w:=by
  rintro a w⟨F,C,I,M,⟨β,al⟩,ae⟩;simp only[sO]at ae;obtain⟨bd,ah,cJ,hm⟩:=al.defers;rw[ah];refine NN bd w cJ (λr g9=>(hm r g9).aH) λw' ap ai aq=>?_;have gj:=al.take hm ap ai aq;obtain⟨vs,aG,eK⟩:=V' aE gj ae;refine⟨_,eK,?_⟩
  match vs,aG with
  |[],⟨I',M',hw,aG⟩=>exact a1 _ I' M' w' _ F C ⟨β,gj.hh hw⟩ aG| [v],⟨I',M',hw,aG⟩=>exact a1 _ I' M' w' _ F C ⟨β,gj.hh hw⟩ aG| u::v::l,⟨I',M',hw,aG⟩=>exact a1 _ I' M' w' _ F C ⟨β,gj.hh hw⟩ aG
 intro e a w h;cases e with
 |normal=>exact main a w h| ret=>exact main a w h| exit id=>obtain⟨F,C,I,M,_,ae⟩:=h;exact ae.elim
 |goto l=>obtain⟨F,C,I,M,_,ae⟩:=h;exact ae.elim
 |panic _=>exact h.elim| outgrown=>exact h.elim
def Wa(az:P.funcs[f]?=some fn)(ai:fn.body.isSome=true)(ax:(fn.name == "runtime.NumGoroutine")=false):H9 P f:=by
 intro args w;have hI:fn.body.isNone=false:=by cases h:fn.body<;>simp_all
 simp only[callFunc,bZ,run_program,bK,az,ax,jw,j8,hI];rfl
def Is{E:Env}(fH:List Nat)(aE:cE P E)(az:P.funcs[f]?=some fn)(ai:fn.body=some c)(ax:(fn.name == "runtime.NumGoroutine")=false)
 (bf:(codeOk fn.ntmps c&&Nat.ble args.length fn.ntmps)=true) {I:aS} {M:List ay} {post:Value->aS->List ay->Prop}
  (h:∀ B ao a w,Rel ⟨P,E,fH,fn.ntmps,B,ao,I,M.map (·.num),none⟩ a w (uu args) (λ_=>none) I M->c.wpIn (fN ⟨P,E,fH,fn.ntmps,B,ao,I,M.map (·.num),none⟩) 0 P (kC ⟨P,E,fH,fn.ntmps,B,ao,I,M.map (·.num),none⟩ (sO ⟨P,E,fH,fn.ntmps,B,ao,I,M.map (·.num),none⟩ fn.results.toList post)) a w) :
  uh P f args I M post:=by
 rw[b3]at bf;have bV:=bJ bf.2;refine⟨Wa az (by rw[ai];rfl) ax,λw jW=>?_⟩;let X:cD:=⟨P,E,fH,fn.ntmps,w.heap.size,w,I,M.map (·.num),none⟩
 have BL:Rel X { tmps:=args.toArray++Array.replicate (fn.ntmps-args.toArray.size) undef,defers:=[] } w (uu args) (λ_=>none) I M:=⟨λ_=>0,{
  size:=by simp[X];omega
  defers:=⟨[],rfl,xt,λr al=>by cases al⟩
  holds:=jW
  aj:=λt=>by
   unfold uu;cases av:args[t]? with
   |none=>trivial| some v=>have aK:t<args.length:=(iI.1 av).1;simp only[dZ,mL];rw[Array.getElem?_append_left (by simpa using aK)];simp[av]
  b5:=λs cs ap=>by cases ap
  inj:=λs cq U=>by simp at U
  gP:=λb o ai=>ai
  gu:=λb o ai=>.inl ai
  own:=λx ab=>.inl (ej.2 ⟨x,ab,rfl⟩)
  c3:=λb ai az=>rfl
  out:=.refl _
  sz:=cC _ }⟩
 have EP:=h w.heap.size w _ _ BL;refine(callsIn_wide (n:=0)).1 ?_;have Wb:fN X=Fence.wide:=rfl;rw[Wb]at EP;refine callsIn_of_wp_marks az ai trivial (wpIn_mono EP (kC.ret (X:=X) aE ?_));rintro v I' M' w' bS dE C'⟨β,al⟩aG;refine⟨v,I',M',rfl,aG,al.holds,?_⟩;exact {
  le:=al.gP
  sF:=al.gu
  ug:=λx ab=>by
   rcases al.own x ab with U | U;·obtain⟨y,aN,e⟩:=ej.1 U;exact .inl ⟨y,aN,e⟩
   ·exact .inr U
  c3:=λb ai bB=>al.c3 b ai (λhm=>by
   obtain⟨y,aN,e⟩:=ej.1 hm;exact bB y aN e)
  out:=al.out
  sz:=al.sz }
def BM{E:Env}(fH:List Nat)(aE:cE P E)(az:P.funcs[f]?=some fn)(ai:fn.body=some c)(ax:(fn.name == "runtime.NumGoroutine")=false)
 (bf:(codeOk fn.ntmps c&&Nat.ble args.length fn.ntmps)=true) {I:aS} {M:List ay} {post:Value->aS->List ay->Prop}
  (h:∀ B ao,V ⟨P,E,fH,fn.ntmps,B,ao,I,M.map (·.num),none⟩ c (uu args) (λ_=>none) I M (sO ⟨P,E,fH,fn.ntmps,B,ao,I,M.map (·.num),none⟩ fn.results.toList post)) :
  uh P f args I M post:=
 Is fH aE az ai ax bf λB ao a w al=>by rw[b3]at bf;exact oN aE c bf.1 al (h B ao)
def bX{E:Env}(fH:List Nat)(aE:cE P E)(az:P.funcs[f]?=some fn)(ai:fn.body=some c)(ax:(fn.name == "runtime.NumGoroutine")=false)
 (bf:(codeOk fn.ntmps c&&Nat.ble args.length fn.ntmps)=true) {I:aS} {M:List ay} {post:Value->aS->List ay->Prop}
  (h:∀ B ao,V ⟨P,E,fH,fn.ntmps,B,ao,I,M.map (·.num),none⟩ c (uu args) (λ_=>none) I M (sO ⟨P,E,fH,fn.ntmps,B,ao,I,M.map (·.num),none⟩ fn.results.toList post)) :
  Spec P f args I M post:=.inl (BM fH aE az ai ax bf h)
def EQ(X:cD)(bd:List ResultVar)(post:Value->aS->List ay->Prop):jC:=λex F C I M=>
 let done:Prop:=mP X F C I M bd λvs=>match vs with
  |[v]=>qt I M->sN X.bW I M (post v)| vs=>qt I M->sN X.bW I M (post (.tuple vs.toArray))
 match ex with
 | .normal=>done| .ret=>done| _=>False
def ER{X:cD}{F:Fr}{C:c2}{I:aS}{M:List ay}:∀ {bd:List ResultVar} {K vJ:List Value->Prop},(∀ vs,K vs->vJ vs)->mP X F C I M bd K->mP X F C I M bd vJ
 |[],K,vJ,h,ag=>h _ ag
 | .tmp t::l,K,vJ,h,ag=>by
  unfold mP at ag |-;split at ag;·exact ER (λvs=>h _) ag
  ·exact ag.elim
 | .cell t ty::l,K,vJ,h,ag=>by
  unfold mP at ag |-;split at ag
  ·rename_i s off i U hi;split at ag
   ·rename_i cs ap;cases bo:Nat.ble (off+i.size) cs.length with
    |false=>rw[bo]at ag;exact ag.elim| true=>rw[bo]at ag;exact ER (λvs=>h _) ag
   ·exact ag.elim
  ·obtain⟨ws,aT,ag⟩:=ag;exact⟨ws,aT,ER (λvs=>h _) ag⟩
  ·exact ag.elim
def kC.Wc{X:cD}{bd:List ResultVar}{post:Value->aS->List ay->Prop}:∀ e a w,kC X (EQ X bd post) e a w->kC X (sO X bd post) e a w:=by
 have one:∀ a w,Sat X (EQ X bd post .ret) a w->Sat X (sO X bd post .ret) a w:=by
  rintro a w⟨F,C,I,M,⟨β,al⟩,h⟩;refine⟨F,C,I,M,⟨β,al⟩,ER (λvs ag=>?_) h⟩;have ja:qt I M:=⟨al.holds.d,al.holds.ch⟩
  match vs,ag with
  |[v],ag=>exact ag ja| [],ag=>exact ag ja| _::_::_,ag=>exact ag ja
 intro e a w h;cases e with
 |normal=>exact one a w h| ret=>exact one a w h| exit id=>obtain⟨F,C,I,M,al,ae⟩:=h;exact ae.elim
 |goto l=>obtain⟨F,C,I,M,al,ae⟩:=h;exact ae.elim
 |panic _=>exact h| outgrown=>exact h
def Wd{E:Env}(fH:List Nat)(aE:cE P E)(az:P.funcs[f]?=some fn)(ai:fn.body=some c)(ax:(fn.name == "runtime.NumGoroutine")=false)
 (bf:(codeOk fn.ntmps c&&Nat.ble args.length fn.ntmps)=true) {I:aS} {M:List ay} {post:Value->aS->List ay->Prop}
  (h:∀ B ao,V ⟨P,E,fH,fn.ntmps,B,ao,I,M.map (·.num),none⟩ c (uu args) (λ_=>none) I M (EQ ⟨P,E,fH,fn.ntmps,B,ao,I,M.map (·.num),none⟩ fn.results.toList post)) :
  uh P f args I M post:=
 Is fH aE az ai ax bf λB ao a w al=>by rw[b3]at bf;exact wpIn_mono (oN aE c bf.1 al (h B ao)) kC.Wc
def NO{E:Env}(fH:List Nat)(aE:cE P E)(az:P.funcs[f]?=some fn)(ai:fn.body=some c)(ax:(fn.name == "runtime.NumGoroutine")=false)
 (bf:(codeOk fn.ntmps c&&Nat.ble args.length fn.ntmps)=true) {I:aS} {M:List ay} {post:Value->aS->List ay->Prop}
  (h:∀ B ao,V ⟨P,E,fH,fn.ntmps,B,ao,I,M.map (·.num),none⟩ c (uu args) (λ_=>none) I M (EQ ⟨P,E,fH,fn.ntmps,B,ao,I,M.map (·.num),none⟩ fn.results.toList post)) :
  Spec P f args I M post:=.inl (Wd fH aE az ai ax bf h)
def It:Value->Value->Bool
 | .bool a,.bool b=>a == b| .int k n,.int dq m=>IntKind.jU k dq&&decide (n=m)| .string s,.string t=>decide (s.data.toList=t.data.toList)| .pointer none,.pointer none=>true| .slice none 0 0,.slice none 0 0=>true| .map none,.map none=>true| .nilFunc,.nilFunc=>true| .nilIface,.nilIface=>true| _,_=>false
def We:∀ {a b:Value},It a b=true->a=b:=by
 intro a b h;unfold It at h;split at h
 ·simp at h;rw[h]
 ·simp only[b3,e0]at h;rw[IntKind.zw h.1,h.2]
 ·rename_i s t;simp only[e0]at h;have:s=t:=by cases s;cases t;simp only[ByteArray.mk.injEq];exact fM h
  rw[this]
 all_goals first | rfl | cases h
def ES:List Value->List Value->Bool
 |[],[]=>true| a::as,b::cd=>It a b&&ES as cd| _,_=>false
def NP:∀ {a b:List Value},ES a b=true->a=b
 |[],[],_=>rfl| a::as,b::cd,h=>by simp only[ES,b3]at h;rw[We h.1,NP h.2]
 |[],_::_,h=>by cases h
 |_::_,[],h=>by cases h
def Iu(P:Program)(t:Nat)(i:dz):Bool:=
 (match P.info? t with
 |some inf=>decide (inf.size=i.size)&&decide (inf.bytes=i.bytes)&&(match inf.zero with
  |some z=>ES z.cells.toList i.zero| none=>false)
 |none=>false) &&
 (match P.underlying t with
 |some d=>decide (eD d=i.bz)| none=>false)&&hH i.zero&&decide (i.zero.length=i.size)&&(i.bz.agg||decide (i.size=1))
def Wf{t:Nat}{i:dz}(h:Iu P t i=true):iK P t i:=by
 simp only[Iu,b3]at h;obtain⟨⟨⟨⟨U,aa⟩,af⟩,aR⟩,bC⟩:=h;refine⟨?_,?_,xx af,du aR,λaC=>?_⟩
 ·split at U
  ·rename_i inf hi;simp only[b3,e0]at U;obtain⟨⟨aw,aB⟩,bD⟩:=U;split at bD
   ·rename_i z bg;exact⟨inf,z,hi,aw,aB,bg,NP bD⟩
   ·cases bD
  ·cases U
 ·split at aa
  ·rename_i d ah;exact⟨d,ah,du aa⟩
  ·cases aa
 ·rw[aC]at bC;simpa using bC
def Wg{E:Env}(n:Nat)(ax:∀ t,n<=t->E t=none)(h:((List.range n).all λt=>match E t with
  |some i=>Iu P t i| none=>true)=true):cE P E:=by
 intro t i hi;by_cases av:t<n
 ·have:=gi.1 h t (l3.2 av);rw[hi]at this;exact Wf this
 ·rw[ax t (by omega)]at hi;cases hi
end Go.V
namespace Go.V
variable{a:Act}{c:Code}{bW:List Nat}{P:Program}{f off T sz gY e n m en cc dd df fx ic jy iZ ky nx pJ rz ue xu Bv:Nat}{args vs z:List Value}{v:Value}{w' w:World}{dst:Option Nat}{cs:Array Value}{aj:Nat×Nat}{R:Ending->World->Prop}{next:Act->World->Prop}{ad:Addr}{fy:IntKind}{other:Prop}{ops:List Oper}{Q:Exit->Act->World->Prop}{fn:Func}{soft gr:Bool}{op:Op}{cX:Array Bool}{A:Array Oper}{ι:Type}
def vK{F:Fr}:jB F [(en,F en),(cc,F cc)]:=.cons .refl (.cons .refl (.nil))
def fZ{F:Fr}:jB F [(en,F en),(cc,F cc),(dd,F dd)]:=.cons .refl (.cons .refl (.cons .refl (.nil)))
def ew{F:Fr}:jB F [(en,F en),(cc,F cc),(dd,F dd),(df,F df)]:=.cons .refl (.cons .refl (.cons .refl (.cons .refl (.nil))))
def g'{F:Fr}:jB F [(en,F en),(cc,F cc),(dd,F dd),(df,F df),(fx,F fx)]:=.cons .refl (.cons .refl (.cons .refl (.cons .refl (.cons .refl (.nil)))))
def nF{F:Fr}:jB F [(en,F en),(cc,F cc),(dd,F dd),(df,F df),(fx,F fx),(ic,F ic)]:=.cons .refl (.cons .refl (.cons .refl (.cons .refl (.cons .refl (.cons .refl (.nil))))))
def im{F:Fr}:jB F [(en,F en),(cc,F cc),(dd,F dd),(df,F df),(fx,F fx),(ic,F ic),(jy,F jy)]:=.cons .refl (.cons .refl (.cons .refl (.cons .refl (.cons .refl (.cons .refl (.cons .refl (.nil)))))))
def vL{F:Fr}:jB F [(en,F en),(cc,F cc),(dd,F dd),(df,F df),(fx,F fx),(ic,F ic),(jy,F jy),(iZ,F iZ)]:=.cons .refl (.cons .refl (.cons .refl (.cons .refl (.cons .refl (.cons .refl (.cons .refl (.cons .refl (.nil))))))))
def hk{F:Fr}:jB F [(en,F en),(cc,F cc),(dd,F dd),(df,F df),(fx,F fx),(ic,F ic),(jy,F jy),(iZ,F iZ),(ky,F ky)]:=.cons .refl (.cons .refl (.cons .refl (.cons .refl (.cons .refl (.cons .refl (.cons .refl (.cons .refl (.cons .refl (.nil)))))))))
def ahN{F:Fr}:jB F [(en,F en),(cc,F cc),(dd,F dd),(df,F df),(fx,F fx),(ic,F ic),(jy,F jy),(iZ,F iZ),(ky,F ky),(nx,F nx)]:=.cons .refl (.cons .refl (.cons .refl (.cons .refl (.cons .refl (.cons .refl (.cons .refl (.cons .refl (.cons .refl (.cons .refl (.nil))))))))))
def NQ{F:Fr}:jB F [(en,F en),(cc,F cc),(dd,F dd),(df,F df),(fx,F fx),(ic,F ic),(jy,F jy),(iZ,F iZ),(ky,F ky),(nx,F nx),(pJ,F pJ)]:=.cons .refl (.cons .refl (.cons .refl (.cons .refl (.cons .refl (.cons .refl (.cons .refl (.cons .refl (.cons .refl (.cons .refl (.cons .refl (.nil)))))))))))
def ahO{F:Fr}:jB F [(en,F en),(cc,F cc),(dd,F dd),(df,F df),(fx,F fx),(ic,F ic),(jy,F jy),(iZ,F iZ),(ky,F ky),(nx,F nx),(pJ,F pJ),(rz,F rz)]:=.cons .refl (.cons .refl (.cons .refl (.cons .refl (.cons .refl (.cons .refl (.cons .refl (.cons .refl (.cons .refl (.cons .refl (.cons .refl (.cons .refl (.nil))))))))))))
def ahP{F:Fr}:jB F [(en,F en),(cc,F cc),(dd,F dd),(df,F df),(fx,F fx),(ic,F ic),(jy,F jy),(iZ,F iZ),(ky,F ky),(nx,F nx),(pJ,F pJ),(rz,F rz),(ue,F ue)]:=.cons .refl (.cons .refl (.cons .refl (.cons .refl (.cons .refl (.cons .refl (.cons .refl (.cons .refl (.cons .refl (.cons .refl (.cons .refl (.cons .refl (.cons .refl (.nil)))))))))))))
def ET{F:Fr}:jB F [(en,F en),(cc,F cc),(dd,F dd),(df,F df),(fx,F fx),(ic,F ic),(jy,F jy),(iZ,F iZ),(ky,F ky),(nx,F nx),(pJ,F pJ),(rz,F rz),(ue,F ue),(xu,F xu)]:=.cons .refl (.cons .refl (.cons .refl (.cons .refl (.cons .refl (.cons .refl (.cons .refl (.cons .refl (.cons .refl (.cons .refl (.cons .refl (.cons .refl (.cons .refl (.cons .refl (.nil))))))))))))))
def ahQ{F:Fr}:jB F [(en,F en),(cc,F cc),(dd,F dd),(df,F df),(fx,F fx),(ic,F ic),(jy,F jy),(iZ,F iZ),(ky,F ky),(nx,F nx),(pJ,F pJ),(rz,F rz),(ue,F ue),(xu,F xu),(Bv,F Bv)]:=.cons .refl (.cons .refl (.cons .refl (.cons .refl (.cons .refl (.cons .refl (.cons .refl (.cons .refl (.cons .refl (.cons .refl (.cons .refl (.cons .refl (.cons .refl (.cons .refl (.cons .refl (.nil)))))))))))))))
def ahR{F:Fr}{NR:Nat}:jB F [(en,F en),(cc,F cc),(dd,F dd),(df,F df),(fx,F fx),(ic,F ic),(jy,F jy),(iZ,F iZ),(ky,F ky),(nx,F nx),(pJ,F pJ),(rz,F rz),(ue,F ue),(xu,F xu),(Bv,F Bv),(NR,F NR)]:=.cons .refl (.cons .refl (.cons .refl (.cons .refl (.cons .refl (.cons .refl (.cons .refl (.cons .refl (.cons .refl (.cons .refl (.cons .refl (.cons .refl (.cons .refl (.cons .refl (.cons .refl (.cons .refl (.nil))))))))))))))))
def zB:Op->Bool
 | .move _ | .assign _ | .pick .. | .unOp .. | .binOp .. | .load .. | .nilCheck _ | .fieldAddr .. | .field .. | .indexAddr .. | .index .. | .build .. | .makeFunc .. | .slice .. | .extract .. | .convert ..=>true| .call { callee:=.builtin .len,.. }=>true| .call { callee:=.builtin .cap,.. }=>true| .call { callee:=.builtin .max,.. }=>true| .call { callee:=.builtin .min,.. }=>true| .call { callee:=.builtin .unsafeSliceData,.. }=>true| _=>false
def nG:Op->Bool
 | .load ..=>true| _=>false
def BN(o:Oper)(p:Nat):Bool:=o.after.toList.all λe=>!Region.binds .any e||p.testBit e.on
def nH(ops:List Oper)(p:Nat)(k:Bool):List Nat:=(List.range ops.length).filter λi=>match ops[i]? with
 |some o=>!p.testBit i&&((zB o.op == k)&&BN o p)| none=>false
def BO(aM:List Nat)(o:Oper):Nat:=o.after.toList.foldl (λs e=>bif Region.binds .any e then s ||| 2^e.on ||| aM.getD e.on 0 else s) 0
def jD(ops:List Oper):List Nat:=ops.foldl (λaM o=>aM++[BO aM o]) []
def Iv(P:Nat->Prop):List Nat->Prop
 |[]=>True| [i]=>P i| i::l=>P i/\Iv P l
inductive fi(soft:Bool)(bW:List Nat)(P:Program)(f:Nat)(args:List Value)(I:aS)(M:List ay)(K:Value->aS->List ay->Prop):Prop
 |mk(post:Value->aS->List ay->Prop)(ap:Spec P f args I [] post)(k:∀ v I' M',(∀ b o,I b=some o->I' b=some o)->post v I' M'->K v I' (M'++M))| lC (db Mr:List ay) (post:Value->aS->List ay->Prop) (a4:M.Perm (db++Mr)) (ap:Spec P f args I db post) (oO:∀ v I' M',post v I' M'->∀ x∈db,x∈M') (k:∀ v I' M',(∀ b o,I b=some o->I' b=some o)->post v I' M'->K v I' (M'++Mr))| H' (post:Value->aS->List ay->Prop) (ap:Spec P f args I [] post) (k:∀ v I' M',(∀ b o,I b=some o->I' b=some o)->(∀ x∈M'++M,I' x.num=none)->post v I' M'->K v I' (M'++M))| Wh (db Mr:List ay) (post:Value->aS->List ay->Prop) (a4:M.Perm (db++Mr)) (ap:Spec P f args I db post) (oO:∀ v I' M',post v I' M'->∀ x∈db,x∈M') (k:∀ v I' M',(∀ b o,I b=some o->I' b=some o)->(∀ x∈M'++Mr,I' x.num=none)->post v I' M'->K v I' (M'++Mr))| Wi (b:Nat) (o:Obj) (db Mr:List ay) (post:Value->aS->List ay->Prop) (a4:M.Perm (⟨b,o⟩::(db++Mr))) (az:b ∉ bW) (ap:Spec P f args (ins I b o) db post) (oO:∀ v I' M',post v I' M'->∀ x∈db,x∈M') (k:∀ v I' M',(∀ c p,ins I b o c=some p->I' c=some p)->(∀ x∈M'++Mr,I' x.num=none)->post v I' M'->K v I' (M'++Mr))| EB (h:qt I M->fi soft bW P f args I M K)| NS (EU:soft=true) (db Mr:List ay) (post:Value->aS->List ay->Prop) (a4:M.Perm (db++Mr)) (ap:Spec P f args I db post) (k:∀ v I' M',(∀ b o,I b=some o->I' b=some o)->post v I' M'->K v I' (M'++Mr))
def fi.elim{I:aS}{M:List ay}{K:Value->aS->List ay->Prop}(ja:qt I M)(h:fi soft bW P f args I M K) :
  ∃ (cL:aS) (db Mr:List ay) (post:Value->aS->List ay->Prop),i' bW I M cL (db++Mr)/\(∀ b o,I b=some o->cL b=some o)/\Spec P f args cL db post /\
   ∀ v I' M',(∀ b o,cL b=some o->I' b=some o)->(∀ x∈M'++Mr,I' x.num=none)->post v I' M'->(soft=true\/∀ x∈M,I' x.num=some x.obj\/x∈M'++Mr)/\K v I' (M'++Mr):=by
 have NT:∀ {db Mr:List ay} {post:Value->aS->List ay->Prop} {I':aS},M.Perm (db++Mr)->(∀ v I' M',post v I' M'->∀ x∈db,x∈M')->∀ v M',post v I' M'->∀ x∈M,I' x.num=some x.obj\/x∈M'++Mr:=λa4 oO v M' aa x ab=>by
  right
  rcases eb.1 (a4.mem_iff.1 ab)with ab | ab;·exact eb.2 (.inl (oO v _ M' aa x ab))
  ·exact eb.2 (.inr ab)
 induction h with
 |mk post ap k=>exact⟨I,[],M,post,.refl,λ_ _ h=>h,ap,λv I' M' U _ aa=>⟨.inr λx ab=>.inr (by simp[ab]),k v I' M' U aa⟩⟩| lC db Mr post a4 ap oO k=>exact⟨I,db,Mr,post,.perm a4 .refl,λ_ _ h=>h,ap,λv I' M' U _ aa=>⟨.inr (NT a4 oO v M' aa),k v I' M' U aa⟩⟩| H' post ap k=>exact⟨I,[],M,post,.refl,λ_ _ h=>h,ap,λv I' M' U af aa=>⟨.inr λx ab=>.inr (by simp[ab]),k v I' M' U af aa⟩⟩| Wh db Mr post a4 ap oO k=>exact⟨I,db,Mr,post,.perm a4 .refl,λ_ _ h=>h,ap,λv I' M' U af aa=>⟨.inr (NT a4 oO v M' aa),k v I' M' U af aa⟩⟩
 |Wi b o db Mr post a4 az ap oO k=>
  have ai:I b=none:=ja.d ⟨b,o⟩ (a4.mem_iff.2 (.head _));have Wj:ins I b o b=some o:=by unfold ins;rw[oE];rfl
  refine⟨ins I b o,db,Mr,post,.perm a4 (.qs rfl az .refl),λc p aL=>?_,ap,λv I' M' U af aa=>⟨.inr λx ab=>?_,k v I' M' U af aa⟩⟩
  ·unfold ins;by_cases e:c=b
   ·subst e;rw[ai]at aL;cases aL
   ·rw[fX e];exact aL
  ·rcases eg.1 (a4.mem_iff.1 ab)with rfl | ab
   ·exact .inl (U _ _ Wj)
   ·right
    rcases eb.1 ab with ab | ab;·exact eb.2 (.inl (oO v I' M' aa x ab))
    ·exact eb.2 (.inr ab)
 |EB h be=>exact be ja| NS EU db Mr post a4 ap k=>exact⟨I,db,Mr,post,.perm a4 .refl,λ_ _ h=>h,ap,λv I' M' U _ aa=>⟨.inl EU,k v I' M' U aa⟩⟩
def EV(ops:List Oper)(o:Oper)(F:Fr)(run skip:Fr->Prop):Prop:=
 match o.guard with
 |none=>run F
 |some (j,b)=>
  match(ops[j]?).bind (·.dst)with
  |none=>False
  |some d=>
   match F d with
   | .lit c=>bif c == b then run F else skip F| .val (.bool c)=>cB c b (run (fG F d (.lit b))) (skip (fG F d (.lit !b)))| .val (.tuple _)=>skip F| _=>False
def NU(fP p:Nat):Bool:=Nat.beq (p &&& fP) p
def Wk(ops:List Oper)(fP p:Nat):Bool:=(List.range ops.length).all λq=>!p.testBit q||(fP.testBit q||match ops[q]? with
 |some o=>!nG o.op| none=>true)
inductive uv(X:cD)(o:Oper)(F:Fr)(C:c2)(I:aS)(M:List ay)(K:c6->aS->List ay->Prop):Prop
 |mk (h:∀ β a w Q,cp X β a w F C I M->o.wpIn (fN X) 0 X.P a w (λbS w'=>∃ v x I' M',bS=a.put o.dst v/\dZ β x v/\cp X β a w' F C I' M'/\K x I' M'/\I'=I) Q)
def sP(X:cD)(Wl soft:Bool)(o:Oper)(F:Fr)(C:c2)(I:aS)(M:List ay)(K:fo):Prop:=
 bif Wl then fO X o F C I M K else
 match o.op with
 | .call { callee:=.value f,args,.. }=>
  match br F f,kz F args.toList with
  | .val (.func (.func g) first cap),some vs=>fi soft X.bW X.P g (first.toList++vs++cap.toList) I M λv I' M'=>K (put o.dst (.val v) F) C I' M'
  |_,_=>False
 | .alloc t=>
  match o.dst,X.E t with
  |some d,some i=>cz I M λb=>K (fG F d (.val (.pointer (some ⟨b,0,none⟩)))) C I (⟨b,.cells i.zero.toArray t (0,0)⟩::M)
  |_,_=>False
 | .buildSlice _ _ _=>fO X o F C I M K| .makeSlice _ _ _=>fO X o F C I M K| .store _ _ _=>bif soft then fO X o F C I M K else False| .call { callee:=.builtin .append,.. }=>bif soft then ∀ G:Fr,(∀ y∈o.op.operands,c0 G y=c0 F y)->uv X o G C I M λx I' M'=>K (put o.dst x F) C I' M' else False
 | .call { callee:=.builtin .copy,.. }=>bif soft then ∀ G:Fr,(∀ y∈o.op.operands,c0 G y=c0 F y)->uv X o G C I M λx I' M'=>K (put o.dst x F) C I' M' else False
 |_=>False
def EW:c6->Nat
 | .ref s _=>s+1| _=>0
def BP(i:Nat)(op:Op)(ρ:Operand->c6)(b5:List (Nat×Nat)):List (Nat×Nat):=match op with
 | .load _ x=>(i,EW (ρ x))::b5| _=>b5
def zC(fP s:Nat):List (Nat×Nat)->Bool
 |[]=>true|(i,t)::b5=>(fP.testBit i || !Nat.beq s t)&&zC fP s b5
def NV{fP s i t:Nat}:∀ {b5:List (Nat×Nat)},zC fP s b5=true->(i,t)∈b5->fP.testBit i=true\/t≠s
 |(j,u)::b5,h,hm=>by
  unfold zC at h;rw[b3,j7]at h;rcases eg.1 hm with e | hm
  ·cases e;rcases h.1 with U | U
   ·exact .inl U
   ·right
    rintro rfl;simp at U
  ·exact NV h.2 hm
def NW(fP:Nat)(op:Op)(ρ:Operand->c6)(b5:List (Nat×Nat)):Bool:=match op with
 | .store _ x _=>(match ρ x with
  | .val (.pointer (some _))=>zC fP 0 b5| _=>false)
 |_=>false
def NX(fP:Nat)(op:Op)(ρ:Operand->c6)(b5:List (Nat×Nat)):Bool:=match op with
 | .store _ x _=>(match ρ x with
  | .ref s _=>zC fP (s+1) b5| _=>false)
 |_=>false
def sQ(gr:Bool)(M:List ay):List ay:=bif gr then []else M
def Wm{I:aS}{M:List ay}{b:Nat}{o:Obj}(h:gO I (sQ gr M) b o):gO I M b o:=by
 cases gr with
 |false=>exact h
 |true=>
  rcases h with h | ⟨x,ab,_⟩;·exact .inl h
  ·cases ab
def NY{I I':aS}{M M':List ay}(h:∀ b o,gO I M b o->gO I' M' b o)(a':∀ b o,I b=some o->I' b=some o):∀ b o,gO I (sQ gr M) b o->gO I' (sQ gr M') b o:=λb o ai=>by
 cases gr with
 |false=>exact h b o ai
 |true=>
  rcases ai with ai | ⟨x,ab,_⟩;·exact .inl (a' _ _ ai)
  ·cases ab
def Wn{I I':aS}{M M':List ay}(a':∀ b o,I b=some o->I' b=some o):∀ b o,gO I (sQ true M) b o->gO I' (sQ true M') b o:=λb o ai=>by
 rcases ai with ai | ⟨x,ab,_⟩
 ·exact .inl (a' _ _ ai)
 ·cases ab
def NZ(X:cD)(gr:Bool)(op:Op)(ρ:Operand->c6)(C:c2)(I:aS)(M:List ay)(V:c6->Prop)(other:Prop):Prop:=match gr with
 |false=>cb X op ρ C I M V other| true=>cb X op ρ C I [] V other
def Wo{X:cD}{ρ:Operand->c6}{C:c2}{I:aS}{M:List ay}{V:c6->Prop}(h:NZ X gr op ρ C I M V other):cb X op ρ C I (sQ gr M) V other:=by
 cases gr with
 |false=>exact h| true=>exact h
def Wp(ops:List Oper)(gr:Nat->Bool)(fP p:Nat):Bool:=(List.range ops.length).all λq=>!p.testBit q||(fP.testBit q||(gr q||match ops[q]? with
 |some o=>!nG o.op| none=>true))
def N0(op:Op)(ρ:Operand->c6):Bool:=match op with
 | .store _ x _=>(match ρ x with
  | .val (.pointer (some _))=>true| _=>false)
 | .call { callee:=.builtin .append,.. }=>true| .call { callee:=.builtin .copy,.. }=>true| _=>false
def N1(ops:List Oper)(gr:Nat->Bool)(fP p:Nat)(op:Op)(ρ:Operand->c6):Bool:=Wp ops gr fP p&&N0 op ρ
def nI(X:cD)(ops:List Oper)(gr:Nat->Bool):Nat->Nat->List (Nat×Nat)->Fr->c2->aS->List ay->fo->Prop
 |0,_,_,_,_,_,_,_=>False
 |n+1,p,b5,F,C,I,M,K=>
  match nH ops p true with
  |i::_=>
   (match ops[i]? with
   |some o=>EV ops o F (λF=>NZ X (gr i) o.op (c0 F) C I M (λx=>nI X ops gr n (p ||| 2^i) (BP i o.op (c0 F) b5) (put o.dst x F) C I M K) False) (λF=>nI X ops gr n (p ||| 2^i) b5 (put o.dst (.val undef) F) C I M K)| none=>False)
  |[]=>
   match nH ops p false with
   |[]=>K F C I M
   |i0::dC=>Iv (λi=>match ops[i]? with
     |some o=>EV ops o F (λF=>sP X (NU ((jD ops).getD i 0) p) (Wk ops ((jD ops).getD i 0) p||(NX ((jD ops).getD i 0) o.op (c0 F) b5||(NW ((jD ops).getD i 0) o.op (c0 F) b5||N1 ops gr ((jD ops).getD i 0) p o.op (c0 F)))) o F C I M λF C I M=>nI X ops gr n (p ||| 2^i) b5 F C I M K) (λF=>nI X ops gr n (p ||| 2^i) b5 (put o.dst (.val undef) F) C I M K)| none=>False) (i0::dC)
def looks(ops:List Oper)(o:Oper):List Nat:=o.looksAt ops.toArray
def zD(ops:List Oper):Bool:=
 let b:=jD ops
 (List.range ops.length).all λj=>match ops[j]? with
  |none=>true
  |some kD=>
   (kD.after.toList.all λe=>!Region.binds .any e||Nat.blt e.on j) &&
   ((match kD.dst with
    |some d=>!(looks ops kD).contains d| none=>true) &&
   ((List.range ops.length).all (λi=>Nat.beq i j||match ops[i]? with
    |none=>true
    |some fp=>match fp.dst with
     |none=>true| some d=>!(kD.dst == some d)&&(!(looks ops kD).contains d||((b.getD j 0).testBit i||(b.getD i 0).testBit j)))))
def kE(ops:List Oper)(j e:Nat):Prop:=∃ o je,ops[j]?=some o/\je∈o.after/\Region.binds .any je=true/\je.on=e
inductive mQ(ops:List Oper):Nat->Nat->Prop
 |one{i j}(h:kE ops j i):mQ ops i j| trans {i j k} (h:kE ops j k) (a':mQ ops i k):mQ ops i j
def xJ(ops:List Oper)(S:Nat->Prop):Prop:=∀ j e,S j->kE ops j e->S e
def mQ.mem{S:Nat->Prop}(iM:xJ ops S){i j:Nat}(h:mQ ops i j)(an:∀ e,kE ops j e->S e):S i:=by
 induction h with
 |one h=>exact an _ h| trans h _ be=>exact be λe he=>iM _ e (an _ h) he
def Wq{aM:List Nat}{o:Oper}{i:Nat}(h:(BO aM o).testBit i=true):∃ e∈o.after,Region.binds .any e=true/\(e.on=i\/(aM.getD e.on 0).testBit i=true):=by
 have key:∀ (l:List Edge) (s:Nat),(l.foldl (λs e=>bif Region.binds .any e then s ||| 2^e.on ||| aM.getD e.on 0 else s) s).testBit i=true->s.testBit i=true\/∃ e∈l,Region.binds .any e=true/\(e.on=i\/(aM.getD e.on 0).testBit i=true):=by
  intro l
  induction l with
  |nil=>intro s h;exact .inl h
  |cons e l be=>
   intro s h;simp only[uc]at h;rcases be _ h with U | ⟨bn,EX,aa⟩
   ·cases ai:Region.binds .any e with
    |false=>rw[ai]at U;exact .inl U
    |true=>
     rw[ai]at U;simp only[bh,Ew,j7,Es,e0]at U;rcases U with(U | U) | U;·exact .inl U
     ·exact .inr ⟨e,by simp,ai,.inl U⟩
     ·exact .inr ⟨e,by simp,ai,.inr U⟩
   ·exact .inr ⟨bn,by simp[EX],aa⟩
 rcases key _ 0 h with U | ⟨e,he,aa⟩
 ·simp at U
 ·exact⟨e,by simpa using he,aa⟩
def N2(ops:List Oper):∀ (l:List Oper) (a6:List Oper) (aM:List Nat),ops=a6++l->aM.length=a6.length->(∀ j i,(aM.getD j 0).testBit i=true->mQ ops i j) -> ∀ j i,((l.foldl (λaM o=>aM++[BO aM o]) aM).getD j 0).testBit i=true->mQ ops i j
 |[],a6,aM,_,_,fR=>fR
 |o::l,a6,aM,sR,bV,fR=>by
  simp only[uc];refine N2 ops l (a6++[o]) _ (by simp[sR]) (by simp[bV]) ?_;intro j i h;by_cases an:j<aM.length;·exact fR j i (by simpa[dh,oy an]using h)
  ·by_cases ij:j=aM.length
   ·subst ij;have a':(BO aM o).testBit i=true:=by simpa[dh]using h
    obtain⟨e,he,ai,aa⟩:=Wq a';have aq:ops[aM.length]?=some o:=by rw[sR,bV];simp
    have vM:kE ops aM.length e.on:=⟨o,e,aq,he,ai,rfl⟩;rcases aa with rfl | aa;·exact .one vM
    ·exact .trans vM (fR _ _ aa)
   ·have:(aM++[BO aM o]).getD j 0=0:=by rw[dh,xo (by simp;omega)];rfl
    rw[this]at h;simp at h
def vN{j i:Nat}(h:((jD ops).getD j 0).testBit i=true):mQ ops i j:=
 N2 ops ops [] [] rfl rfl (λj i h=>by simp at h) j i h
section
variable{X:cD}{C C':c2}{I I':aS}{M M':List ay}
def uw{ρ iq:Operand->c6}:∀ {xs:List Operand},(∀ y∈xs,iq y=ρ y)->ih iq xs=ih ρ xs
 |[],_=>rfl| x::xs,h=>by have U:=h x (by simp);have aa:=uw (xs:=xs) λy aN=>h y (by simp[aN]);simp only[ih,di,U,aa]
def Iw{ρ iq:Operand->c6}:∀ {xs:List (Nat×Operand)},(∀ y∈xs.map (·.2),iq y=ρ y)->qv iq xs=qv ρ xs
 |[],_=>rfl|(i,x)::xs,h=>by have U:=h x (by simp);have aa:=Iw (xs:=xs) λy aN=>h y (by simp only[dV,eg];exact .inr aN);simp only[qv,di,U,aa]
def N3{ρ iq:Operand->c6}{V:c6->Prop}(h:cb X op ρ C I M V False)(hJ:∀ y∈op.operands,iq y=ρ y)
  (ar:∀ t x,op=.load t x->(∀ s off,ρ x=.ref s off->C' s=C s)/\((∀ s off,ρ x≠.ref s off)->∀ b o,gO I M b o->gO I' M' b o)):cb X op iq C' I' M' V False:=by
 cases op
 case load t x=>
  obtain⟨aL,ae⟩:=ar t x rfl;have U:=hJ x (by simp[Op.operands]);simp only[cb,U]at h |-;cases aE:X.E t with
  |none=>rw[aE]at h;exact h.elim
  |some i=>
   rw[aE]at h
   try simp only at h |-
   cases ab:ρ x with
   |ref s off=>
    rw[ab]at h
    try simp only at h |-
    rw[aL s off ab];exact h
   |val v=>
    rw[ab]at h
    try simp only at h |-
    split at h;·rename_i e;cases e
    ·rename_i a e;cases e;obtain⟨vs,⟨aa,cs,T,aj,af,aR⟩,bC⟩:=h;exact⟨vs,⟨aa,cs,T,aj,ae (λs off e=>by rw[ab]at e;cases e) _ _ af,aR⟩,bC⟩
    ·exact h.elim
   |lit b=>rw[ab]at h;exact h.elim| k2=>rw[ab]at h;exact h.elim
 case build t ps=>
  have U:=Iw (ρ:=ρ) (iq:=iq) (xs:=ps.toList) λy aN=>hJ y (by simpa[Op.operands]using aN);simp only[cb,U]at h |-;exact h
 case makeFunc fn first captured=>
  have U:=uw (ρ:=ρ) (iq:=iq) (xs:=first.toList) λy aN=>hJ y (by simp only[Op.operands,Array.mem_append];exact .inl (by simpa using aN));have aa:=uw (ρ:=ρ) (iq:=iq) (xs:=captured.toList) λy aN=>hJ y (by simp only[Op.operands,Array.mem_append];exact .inr (by simpa using aN));simp only[cb,U,aa]at h |-;exact h
 case slice t x lo hi mx=>
  have U:=hJ x (by simp[Op.operands]);have aa:lo.map (di iq)=lo.map (di ρ):=by
   cases lo with
   |none=>rfl| some y=>have:=hJ y (by simp[Op.operands]);simp[di,this]
  have af:hi.map (di iq)=hi.map (di ρ):=by
   cases hi with
   |none=>rfl| some y=>have:=hJ y (by simp[Op.operands]);simp[di,this]
  simp only[cb,aa,af,di,U]at h |-;exact h
 case call c=>
  obtain⟨callee,args,argTypes⟩:=c;cases callee with
  |value f=>exact h| invoke r m=>exact h
  |builtin b=>
   cases b
   case len=>
    have U:=uw (ρ:=ρ) (iq:=iq) (xs:=args.toList) λy aN=>hJ y (by simp[Op.operands,Call.operands];simpa using aN);simp only[cb,U]at h |-;exact h
   case cap=>
    have U:=uw (ρ:=ρ) (iq:=iq) (xs:=args.toList) λy aN=>hJ y (by simp[Op.operands,Call.operands];simpa using aN);simp only[cb,U]at h |-;exact h
   case max=>
    have U:=uw (ρ:=ρ) (iq:=iq) (xs:=args.toList) λy aN=>hJ y (by simp[Op.operands,Call.operands];simpa using aN);simp only[cb,U]at h |-;exact h
   case min=>
    have U:=uw (ρ:=ρ) (iq:=iq) (xs:=args.toList) λy aN=>hJ y (by simp[Op.operands,Call.operands];simpa using aN);simp only[cb,U]at h |-;exact h
   case unsafeSliceData=>
    have U:=uw (ρ:=ρ) (iq:=iq) (xs:=args.toList) λy aN=>hJ y (by simp[Op.operands,Call.operands];simpa using aN);simp only[cb,U]at h |-;exact h
   all_goals exact h
 all_goals first
  |exact h|(rename_i x;have U:=hJ x (by simp[Op.operands]);simp only[cb,di,U]at h |-;exact h)|(rename_i x y;have U:=hJ x (by simp[Op.operands]);have aa:=hJ y (by simp[Op.operands]);simp only[cb,di,U,aa]at h |-;exact h)|(rename_i x y z;have U:=hJ x (by simp[Op.operands]);have aa:=hJ y (by simp[Op.operands]);have af:=hJ z (by simp[Op.operands]);simp only[cb,di,U,aa,af]at h |-;exact h)|(rename_i x y;have U:=hJ x (by simp[Op.operands]);simp only[cb,di,U]at h |-;exact h)|(rename_i x y;have U:=hJ y (by simp[Op.operands]);simp only[cb,di,U]at h |-;exact h)|(rename_i x y z;have U:=hJ x (by simp[Op.operands]);have aa:=hJ y (by simp[Op.operands]);simp only[cb,di,U,aa]at h |-;exact h)|(rename_i x y z;have U:=hJ y (by simp[Op.operands]);have aa:=hJ z (by simp[Op.operands]);simp only[cb,di,U,aa]at h |-;exact h)|(rename_i o x y z u;have U:=hJ y (by simp[Op.operands]);have aa:=hJ z (by simp[Op.operands]);simp only[cb,di,U,aa]at h |-;exact h)|(rename_i x y z u;have U:=hJ z (by simp[Op.operands]);have aa:=hJ y (by simp[Op.operands]);simp only[cb,di,U,aa]at h |-;exact h)
end
section
variable{X:cD}{C:c2}{I:aS}{M:List ay}
def Wr{op:BinOp}{dc:Option dz}{x y:c6}{V:Value->Prop}{O:Prop}(h:jV op dc x y V O) :
  (∃ r,V r/\∀ oP,jV op dc x y (λz=>z=r) oP)\/(O/\∀ (Ix:Value->Prop) (oP:Prop),oP->jV op dc x y Ix oP):=by
 unfold jV at h;split at h
 ·left
  split at h;·obtain⟨j,an,⟨r,al,ae⟩⟩:=h;exact⟨_,ae,λoP=>by unfold jV;exact⟨j,an,⟨r,al,rfl⟩⟩⟩
  ·obtain⟨j,an,ae⟩:=h;exact⟨_,ae,λoP=>by unfold jV;exact⟨j,an,rfl⟩⟩
  ·rename_i _ _ k a dq b _ gQ mN;cases gv:IntKind.jU k dq with
   |false=>rw[gv]at h;exact h.elim
   |true=>
    rw[gv]at h;simp only[bh]at h;cases op<;>simp only at h
    case add=>obtain⟨r,al,ae⟩:=h;exact⟨_,ae,λoP=>by simp only[jV,gv,bh];exact⟨r,al,rfl⟩⟩
    case sub=>obtain⟨r,al,ae⟩:=h;exact⟨_,ae,λoP=>by simp only[jV,gv,bh];exact⟨r,al,rfl⟩⟩
    case mul=>obtain⟨r,al,ae⟩:=h;exact⟨_,ae,λoP=>by simp only[jV,gv,bh];exact⟨r,al,rfl⟩⟩
    case quo=>obtain⟨ao,⟨r,al,ae⟩⟩:=h;exact⟨_,ae,λoP=>by simp only[jV,gv,bh];exact⟨ao,⟨r,al,rfl⟩⟩⟩
    case rem=>obtain⟨ao,ae⟩:=h;exact⟨_,ae,λoP=>by simp only[jV,gv,bh];first | exact⟨ao,rfl⟩ | exact⟨ao,trivial⟩⟩
    case shl=>exact(gQ rfl).elim
    case shr=>exact(mN rfl).elim
    all_goals exact⟨_,h,λoP=>by simp only[jV,gv,bh];rfl⟩
 ·cases op<;>first
  |exact .inl ⟨_,h,λ_=>rfl⟩| exact .inr ⟨h,λ_ _ aq=>aq⟩
 ·split at h
  ·cases op<;>first
   |exact .inl ⟨_,h,λ_=>rfl⟩| exact .inr ⟨h,λ_ _ aq=>aq⟩
  ·rename_i ax;refine .inr ⟨h,λIx oP aq=>?_⟩;cases dc with
   |none=>exact aq
   |some i=>
    obtain⟨s,b,z,bz⟩:=i;cases bz<;>first
     |exact aq| exact(ax _ _ _ rfl).elim
 ·rename_i U aa af;refine .inr ⟨h,λIx oP aq=>?_⟩;unfold jV;split<;>first
   |exact aq| exact(U _ _ _ _ rfl rfl).elim| exact(aa _ _ rfl rfl).elim| exact(af _ _ rfl rfl).elim
def Ws{ρ:Operand->c6}{V:c6->Prop}(h:cb X op ρ C I M V False):∃ x,V x/\cb X op ρ C I M (λy=>y=x) False:=by
 cases op
 case move x=>exact⟨_,h,rfl⟩
 case assign x=>exact⟨_,h,rfl⟩
 case pick c p q=>
  simp only[cb]at h |-;split at h;·exact⟨_,h,rfl⟩
  ·exact⟨_,h,rfl⟩
  ·exact h.elim
 case unOp op t x=>
  simp only[cb]at h |-;split at h;·exact⟨_,h,rfl⟩
  ·exact⟨_,h,rfl⟩
  ·obtain⟨r,al,ae⟩:=h;exact⟨_,ae,⟨r,al,rfl⟩⟩
  ·exact h.elim
 case binOp op t x y ty=>
  simp only[cb]at h |-;rcases Wr h with⟨r,U,aa⟩ | ⟨⟨nz,eR,r,aG,aO,al,ae⟩ | U,aa⟩
  ·refine⟨_,U,?_⟩;have:(λv=>c6.val v=c6.val r)=(λz=>z=r):=by funext v;simp
   rw[this];exact aa _
  ·exact⟨_,ae,aa _ _ (.mk nz eR r aG aO al rfl)⟩
  ·exact U.elim
 case load t x=>
  simp only[cb]at h |-;split at h
  ·split at h
   ·split at h
    ·rename_i i hi _ s off ap _ cs aL;cases bo:Nat.ble (off+i.size) cs.length with
     |false=>rw[bo]at h;exact h.elim| true=>rw[bo]at h;exact⟨_,h,rfl⟩
    ·exact h.elim
   ·obtain⟨vs,al,ae⟩:=h;exact⟨_,ae,⟨vs,al,rfl⟩⟩
   ·exact h.elim
  ·exact h.elim
 case nilCheck x=>
  simp only[cb]at h |-;split at h;·exact⟨_,h,rfl⟩
  ·exact⟨_,h,rfl⟩
  ·exact h.elim
 case fieldAddr t x i=>
  simp only[cb]at h |-;split at h
  ·split at h
   ·split at h
    ·rename_i fW s o' mO ab;cases bg:Nat.beq fW.size 0 with
     |true=>rw[bg]at h;exact h.elim| false=>rw[bg]at h;exact⟨_,h,rfl⟩
    ·rename_i fW s mO ab;cases bg:Nat.beq fW.size 0 with
     |true=>rw[bg]at h;exact h.elim| false=>rw[bg]at h;exact⟨_,h,rfl⟩
    ·exact h.elim
   ·exact h.elim
  ·exact h.elim
 case field t x i=>
  simp only[cb]at h |-;split at h
  ·split at h
   ·split at h
    ·rename_i sz gY z b' cs av ab _ kA off j' _ fW mO;cases bo:Nat.ble (off+fW.size) cs.size with
     |false=>rw[bo]at h;exact h.elim| true=>rw[bo]at h;exact⟨_,h,rfl⟩
    ·exact h.elim
   ·exact h.elim
  ·exact h.elim
 case indexAddr t x i=>
  simp only[cb]at h |-;split at h
  ·split at h
   ·obtain⟨ad,j,U,aa,af,ae⟩:=h;exact⟨_,ae,⟨ad,j,U,aa,af,rfl⟩⟩
   ·exact h.elim
  ·split at h
   ·obtain⟨j,aa,af,ae⟩:=h;exact⟨_,ae,⟨j,aa,af,rfl⟩⟩
   ·obtain⟨j,aa,af,ae⟩:=h;exact⟨_,ae,⟨j,aa,af,rfl⟩⟩
   ·exact h.elim
  ·exact h.elim
 case index t x i=>
  simp only[cb]at h |-;split at h;·obtain⟨j,aa,af,ae⟩:=h;exact⟨_,ae,⟨j,aa,af,rfl⟩⟩
  ·split at h
   ·rename_i n e cs fy k av ab hi _ aD gH;cases bg:Nat.beq (n*aD.size) cs.size with
    |false=>rw[bg]at h;exact h.elim| true=>rw[bg]at h;obtain⟨j,aa,af,ae⟩:=h;exact⟨_,ae,⟨j,aa,af,rfl⟩⟩
   ·exact h.elim
  ·exact h.elim
 case build t ps=>
  simp only[cb]at h |-;split at h
  ·split at h
   ·rename_i i vs av g7 _ b' lB;cases aG:zt X.E b' with
    |false=>rw[aG]at h;exact h.elim
    |true=>
     rw[aG]at h;simp only[bh]at h |-;split at h;·exact⟨_,h,rfl⟩
     ·exact h.elim
   ·split at h
    ·split at h
     ·exact⟨_,h,rfl⟩
     ·exact h.elim
    ·exact h.elim
   ·exact h.elim
  ·exact h.elim
 case makeFunc fn first captured=>
  simp only[cb]at h |-;split at h;·exact⟨_,h,rfl⟩
  ·exact h.elim
 case slice t x lo hi mx=>
  simp only[cb]at h |-;split at h
  ·split at h
   ·exact⟨_,h,rfl⟩
   ·obtain⟨l,m,U,aa,af,aR,ae⟩:=h;exact⟨_,ae,⟨l,m,U,aa,af,aR,rfl⟩⟩
   ·obtain⟨l,m,U,aa,af,aR,ae⟩:=h;exact⟨_,ae,⟨l,m,U,aa,af,aR,rfl⟩⟩
   ·obtain⟨l,m,U,aa,af,aR,ae⟩:=h;exact⟨_,ae,⟨l,m,U,aa,af,aR,rfl⟩⟩
   ·exact h.elim
  ·split at h
   ·exact⟨_,h,rfl⟩
   ·obtain⟨l,m,U,aa,af,aR,ae⟩:=h;exact⟨_,ae,⟨l,m,U,aa,af,aR,rfl⟩⟩
   ·obtain⟨l,m,U,aa,af,aR,ae⟩:=h;exact⟨_,ae,⟨l,m,U,aa,af,aR,rfl⟩⟩
   ·obtain⟨l,m,U,aa,af,aR,ae⟩:=h;exact⟨_,ae,⟨l,m,U,aa,af,aR,rfl⟩⟩
   ·exact h.elim
  ·exact h.elim
 case extract x i=>
  simp only[cb]at h |-;split at h
  ·split at h
   ·exact⟨_,h,rfl⟩
   ·exact h.elim
  ·exact h.elim
 case convert s d x=>
  simp only[cb]at h |-;split at h;·obtain⟨r,al,ae⟩:=h;exact⟨_,ae,⟨r,al,rfl⟩⟩
  ·exact h.elim
 case call c=>
  obtain⟨callee,args,argTypes⟩:=c;cases callee with
  |value f=>exact h.elim| invoke r m=>exact h.elim
  |builtin b=>
   cases b
   case len=>
    simp only[cb]at h |-;split at h
    ·split at h
     ·exact⟨_,h,rfl⟩
     ·exact⟨_,h,rfl⟩
     ·exact⟨_,h,rfl⟩
     ·exact h.elim
    ·exact h.elim
   case cap=>
    simp only[cb]at h |-;split at h
    ·split at h
     ·exact⟨_,h,rfl⟩
     ·exact h.elim
    ·exact h.elim
   case max=>
    simp only[cb]at h |-;split at h;·exact⟨_,h,rfl⟩
    ·exact h.elim
   case min=>
    simp only[cb]at h |-;split at h;·exact⟨_,h,rfl⟩
    ·exact h.elim
   case unsafeSliceData=>
    simp only[cb]at h |-;split at h;·exact⟨_,h,rfl⟩
    ·obtain⟨U,aa⟩:=h;exact⟨_,aa,⟨U,rfl⟩⟩
    ·exact h.elim
   all_goals exact h.elim
 all_goals exact h.elim
end
def gO.mono{I I':aS}{M M':List ay}{b:Nat}{o:Obj}(h:gO I M b o)(bF:∀ b o,I b=some o->I' b=some o)(a4:∀ x∈M,x∈M'):gO I' M' b o:=by
 rcases h with h | ⟨x,ab,U,aa⟩
 ·exact .inl (bF _ _ h)
 ·exact .inr ⟨x,a4 x ab,U,aa⟩
def gO.move{I I':aS}{M M':List ay}{b:Nat}{o:Obj}(h:gO I M b o)(bF:∀ b o,I b=some o->I' b=some o)(a4:∀ x∈M,I' x.num=some x.obj\/x∈M'):gO I' M' b o:=by
 rcases h with h | ⟨x,ab,rfl,rfl⟩
 ·exact .inl (bF _ _ h)
 ·rcases a4 x ab with h | h
  ·exact .inl h
  ·exact .inr ⟨x,h,rfl,rfl⟩
def N4(F:Fr)(op:Op)(C C':c2)(I I':aS)(M M':List ay):Prop:=(∀ t x y s off,op=.store t x y->c0 F x=.ref s off->((∀ cq,cq≠s->C' cq=C cq)/\∀ b o,I b=some o->I' b=some o)/\∀ b o,gO I M b o->gO I' M' b o)/\(∀ t x y ad,op=.store t x y->c0 F x=.val (.pointer (some ad))->C'=C/\∀ b o,I b=some o->I' b=some o)/\((∀ t x y,op≠.store t x y)->C'=C/\∀ b o,I b=some o->I' b=some o)
def Wt(X:cD)(β:Nat->Nat)(G F:Fr)(C:c2)(I:aS)(M:List ay)(Wu:Bool)(op:Op)(dst:Option Nat)(a:Act)(K:fo)(bS:Act)(w':World):Prop:=
 ∃ v x C' I' M',bS=a.put dst v/\dZ β x v/\cp X β a w' G C' I' M'/\K (put dst x F) C' I' M'/\((Wu=true/\N4 F op C C' I I' M M')\/(C'=C/\(∀ b o,I b=some o->I' b=some o)/\∀ b o,gO I M b o->gO I' M' b o))
def Wv{X:cD}{β:Nat->Nat}{F G:Fr}{C:c2}{I:aS}{M:List ay}{o:Oper}{K:fo}(aE:cE X.P X.E)
  (h:cp X β a w G C I M) (kF:∀ y∈o.op.operands,c0 G y=c0 F y) (ag:sP X false soft o F C I M K):o.wpIn (fN X) 0 X.P a w (Wt X β G F C I M soft o.op o.dst a K) Q:=by
 obtain⟨dst,op,ty,pos,after,guard⟩:=o;have az:=h.aj;have l9:∀ {y:Operand} {v:Value},y∈op.operands->br F y=.val v->a.eval y=v:=fun {y v} aN he=>cV az (by simp only[br,di,kF y aN];exact he);cases op
 case alloc t=>
  simp only[sP,ba]at ag;split at ag
  ·rename_i d i hi;obtain⟨z,bg,uo⟩:=(aE _ _ hi).By w;have zx:z.cells=i.zero.toArray:=by rw[<-uo]
   obtain⟨ag⟩:=ag;have ae:=ag w.heap.size h.holds.pK h.holds.oF;refine hV (by simp) (v:=.pointer (some ⟨w.heap.size,0,none⟩)) (w':=w.alloc (.cells i.zero.toArray t (0,0))) ?_ ⟨_,.val _,_,_,_,rfl,rfl,h.mM _,ae,.inr ⟨rfl,λ_ _ h=>h,λb o ai=>ai.mono (λ_ _ h=>h) (λx ab=>by simp[ab])⟩⟩;simp[execOp,Instr.alloc,newVar,newRow,bg,zx,xr]
  ·exact ag.elim
 case store t x y=>
  simp only[sP,ba]at ag;cases soft with
  |false=>exact ag.elim
  |true=>
   simp only[bh,fO]at ag;split at ag
   ·rename_i i v hi aN;have vC:=l9 (by simp[Op.operands]) aN;split at ag
    ·rename_i s off ab;have jz:=xw az ((kF x (by simp[Op.operands])).trans ab);split at ag
     ·rename_i cs ap;cases bo:(Nat.ble (off+i.size) cs.length&&(Nat.beq v.cells.size i.size&&hH v.cells.toList))with
      |false=>rw[bo]at ag;exact ag.elim
      |true=>
       rw[bo]at ag;simp only[b3]at bo;obtain⟨bo,cI,jA⟩:=bo;have oH:=bJ bo;have xC:=cf cI;obtain⟨T,b6⟩:=(h.b5 s cs ap).aH;have:=EH (aE _ _ hi) (a:=⟨β s,off,none⟩) (v:=v) rfl b6 xC (by simp;omega) jA;refine zu (by simp) (w':=w.setRow (β s) (bu cs off v.cells.toList).toArray) ?_ ⟨undef,.k2,_,_,_,rfl,trivial,h.Nx ap (bu cs off v.cells.toList),ag,.inl ⟨rfl,λeS pL N5 cq EE aw aB=>(by
        cases aw;rw[ab]at aB;cases aB;refine⟨⟨λs2 bB=>?_,λ_ _ h=>h⟩,λ_ _ h=>h⟩;unfold hG;rw[fX bB];rfl),λeS pL N5 ahS aw aB=>(by
        cases aw;rw[ab]at aB;cases aB),λxK=>absurd rfl (xK _ _ _)⟩⟩
       simp only[execOp,Instr.storeAt,jz,vC,Instr.sureAddr,bZ,cG,bK];simp only[H5]at this;rw[this];rfl
     ·exact ag.elim
    ·rename_i ad ab;have jz:=rC az ((kF x (by simp[Op.operands])).trans ab);cases cI:Nat.beq v.cells.size i.size with
     |false=>rw[cI]at ag;exact ag.elim| true=>rw[cI]at ag;obtain⟨a6,post,cs,T,a4,b0,ai,jA,ae⟩:=ag;have xC:=cf cI;have aA:w.heap[ad.block]?=some (.cells cs T (0,0)):=h.holds.m ⟨ad.block,.cells cs T (0,0)⟩ (by rw[a4];simp);have:=EH (aE _ _ hi) (v:=v) b0 aA xC ai jA;refine zu (by simp) (w':=w.setRow ad.block (bu cs.toList ad.off v.cells.toList).toArray) ?_ ⟨undef,.k2,_,_,_,rfl,trivial,h.vy a4,ae,.inl ⟨rfl,λeS pL N5 cq EE aw aB=>(by cases aw;rw[ab]at aB;cases aB),λ_ _ _ _ _ _=>⟨rfl,λ_ _ h=>h⟩,λxK=>absurd rfl (xK _ _ _)⟩⟩;simp only[execOp,Instr.storeAt,jz,vC,Instr.sureAddr,bZ,cG,bK];rw[this];rfl
    ·exact ag.elim
   ·exact ag.elim
 case buildSlice t len parts=>
  simp only[sP,ba,fO]at ag;have Ww:xv G parts.toList=xv F parts.toList:=Iw λy aN=>kF y (by simpa[Op.operands]using aN);rw[<-Ww]at ag;split at ag
  ·rename_i sz gY z e vs av g7;have hu:=(aE _ _ av).slice;have aG:=EC az g7;have vA:(parts.map λ(i,x)=>(i,a.eval x)).toList=vs:=by simpa using aG
   split at ag
   ·rename_i aD gH;cases bg:(Nat.ble (len*aD.size) 16777216&&Nat.blt 0 (len*aD.size))with
    |false=>
     rw[bg]at ag;simp only[ba]at ag;split at ag
     ·rename_i V3;obtain⟨ag⟩:=ag;have ae:=ag w.heap.size h.holds.pK h.holds.oF;refine hV (by simp) (v:=.slice (some ⟨w.heap.size,0,none⟩) 0 0) (w':=w.alloc (.cells #[] e (0,0))) ?_ ⟨_,.val _,_,_,_,rfl,rfl,h.mM _,ae,.inr ⟨rfl,λ_ _ h=>h,λb o ai=>ai.mono (λ_ _ h=>h) (λx ab=>by simp[ab])⟩⟩;simp only[execOp,Instr.buildSlice,bZ,bK,run_underlying hu,(aE _ _ gH).run_sizeOf,vA];have cv:∀ f:Nat->Value,Array.map f (Array.range 0)=#[]:=λf=>by apply Array.ext<;>simp
      simp[newRow,xr,Instr.fill,cv]
     ·exact ag.elim
    |true=>
     rw[bg]at ag;simp only[bh]at ag;rw[b3]at bg;have bo:=bJ bg.1;have jX:0<len*aD.size:=by simpa using bg.2
     split at ag;·rename_i cells sK;obtain⟨qA,xD,uo⟩:=(aE _ _ gH).By w;obtain⟨ag⟩:=ag;have ae:=ag w.heap.size h.holds.pK h.holds.oF;refine hV (by simp) (v:=.slice (some ⟨w.heap.size,0,none⟩) len len) (w':=w.alloc (.cells cells.toArray e (0,0))) ?_ ⟨_,.val _,_,_,_,rfl,rfl,h.mM _,ae,.inr ⟨rfl,λ_ _ h=>h,λb o ai=>ai.mono (λ_ _ h=>h) (λx ab=>by simp[ab])⟩⟩;have pM:=fill_eq _ _ _ _ sK;simp only[execOp,Instr.buildSlice,bZ,bK,run_underlying hu,(aE _ _ gH).run_sizeOf];rw[cA (by omega)];simp only[cA (show ¬ len*aD.size=0 by omega),bZ,xD,bK,cG,vA,NF qA aD.zero uo,pM];simp[newRow,xr]
     ·exact ag.elim
   ·exact ag.elim
  ·exact ag.elim
 case makeSlice t l c=>
  simp only[sP,ba,fO]at ag;split at ag
  ·rename_i sz gY z e k4 c4 jc c' av ar aL;have hu:=(aE _ _ av).slice;have oJ:=l9 (by simp[Op.operands]) ar;have rI:=l9 (by simp[Op.operands]) aL;split at ag
   ·rename_i aD gH;obtain⟨n,m,rfl,rfl,uq,ai,hm,⟨ag⟩⟩:=ag;have ae:=ag w.heap.size h.holds.pK h.holds.oF;obtain⟨inf,qA,fa,g8,hY,ka,xE⟩:=(aE _ _ gH).inf;refine hV (by simp) (v:=.slice (some ⟨w.heap.size,0,none⟩) n m) (w':=w.alloc (.cells (rowOf aD.zero (m*aD.size)).toArray e (0,0))) ?_ ⟨_,.val _,_,_,_,rfl,rfl,h.mM _,ae,.inr ⟨rfl,λ_ _ h=>h,λb o ai=>ai.mono (λ_ _ h=>h) (λx ab=>by simp[ab])⟩⟩;have eW:((aD.bytes:Nat):Int)*(m:Int)<=281474976710656:=by
     have aa:((aD.bytes*m:Nat):Int)<=281474976710656:=by omega
     simpa using aa
    have:=run_make (P:=X.P) w t e inf qA hu fa ka k4 jc (n:Int) (m:Int) (by omega) (by omega) (by rw[hY];exact eW) (by omega);simp only[execOp,oJ,rI,bZ,this,bK,cG,oz];have aw:madeCells qA.cells (m*inf.size)=(rowOf aD.zero (m*aD.size)).toArray:=by rw[g8,<-xE];simp[vx]
    rw[aw]
   ·exact ag.elim
  ·exact ag.elim
 case call c=>
  obtain⟨callee,args,argTypes⟩:=c;cases callee with
  |value f=>
   simp only[sP,ba]at ag;split at ag
   ·rename_i g first cap vs vD g7
    have Wx:kz G args.toList=some vs:=by rw[<-g7];exact uw λy aN=>kF y (by simp only[Op.operands,Call.operands];simp;right;simpa using aN)
    have Wy:=l9 (by simp[Op.operands,Call.operands]) vD;obtain⟨cL,db,Mr,post,Wz,cM,ap,ae⟩:=ag.elim ⟨h.holds.d,h.holds.ch⟩;have aw:=qw az Wx;have dA:args.map a.eval=vs.toArray:=by apply fM;simpa using aw
    have eK:∀ {n:Next} {w':World},(callFunc g (first.toList++vs++cap.toList).toArray).run X.P w=.ok n w'->(execOp a.eval ⟨dst,.call { callee:=.value f,args,argTypes },ty,pos,after,guard⟩).run X.P w=.ok n w':=λal=>by simp only[execOp,resolve,Wy,Deferred.ofValue,bZ,cG,bK,dA,invoke];rw[show first++vs.toArray++cap=(first.toList++vs++cap.toList).toArray from by apply fM;simp];exact al
    have N6:∀ {I':aS} {M':List ay},(∀ b o,I b=some o->I' b=some o)->(soft=true\/∀ x∈M,I' x.num=some x.obj\/x∈M')->(soft=true/\N4 F (.call { callee:=.value f,args,argTypes }) C C I I' M M')\/(C=C/\(∀ b o,I b=some o->I' b=some o)/\∀ b o,gO I M b o->gO I' M' b o):=λU aa=>by
     rcases aa with aa | aa;·exact .inl ⟨aa,⟨λt x y s off e _=>(by cases e),λt x y ad e _=>(by cases e),λ_=>⟨rfl,U⟩⟩⟩
     ·exact .inr ⟨rfl,U,λb o ai=>ai.move U aa⟩
    rcases h.call (KC:=λv I' M'=>(∀ b o,I b=some o->I' b=some o)/\(soft=true\/∀ x∈M,I' x.num=some x.obj\/x∈M')/\K (Go.V.put dst (.val v) F) C I' M') (.Ia cL db Mr post Wz ap λv I' M' bo ah aG=>⟨λb o ai=>bo _ _ (cM _ _ ai),(ae v I' M' bo ah aG).1,(ae v I' M' bo ah aG).2⟩)with⟨nB,xF⟩ | ⟨v,w',I',M',al,⟨U,aa,ae⟩,gj⟩;·refine NE (by simp) (f:=g) (args:=(first.toList++vs++cap.toList).toArray) (eK (nB _ _)) ?_;refine xF.mono ?_;rintro e w'⟨v,I',M',rfl,⟨U,aa,ae⟩,al⟩;exact⟨v,rfl,v,.val v,C,I',M',rfl,rfl,al,ae,N6 U aa⟩
    ·exact hV (by simp) (eK al) ⟨v,.val v,C,I',M',rfl,rfl,gj,ae,N6 U aa⟩
   ·exact ag.elim
  |invoke r m=>exact ag.elim
  |builtin b=>
   cases b
   case append=>
    simp only[sP,ba]at ag;cases soft with
    |false=>exact ag.elim| true=>simp only[bh]at ag;obtain⟨ag⟩:=ag G kF;refine qm (λbS w'=>?_) (ag β a w Q h);rintro⟨v,x,I',M',U,aa,af,aR,Iy⟩;exact⟨v,x,C,I',M',U,aa,af,aR,.inl ⟨rfl,⟨λt x y s off e _=>(by cases e),λt x y ad e _=>(by cases e),λ_=>⟨rfl,λb o h=>by rw[Iy];exact h⟩⟩⟩⟩
   case copy=>
    simp only[sP,ba]at ag;cases soft with
    |false=>exact ag.elim| true=>simp only[bh]at ag;obtain⟨ag⟩:=ag G kF;refine qm (λbS w'=>?_) (ag β a w Q h);rintro⟨v,x,I',M',U,aa,af,aR,Iy⟩;exact⟨v,x,C,I',M',U,aa,af,aR,.inl ⟨rfl,⟨λt x y s off e _=>(by cases e),λt x y ad e _=>(by cases e),λ_=>⟨rfl,λb o h=>by rw[Iy];exact h⟩⟩⟩⟩
   all_goals exact ag.elim
 all_goals exact ag.elim
def qD(x y:c6):Prop:=∀ β u,dZ β x u->dZ β y u
def qD.refl(x:c6):qD x x:=λ_ _ h=>h
def qD.trans{x y z:c6}(h:qD x y)(a':qD y z):qD x z:=fun β u hu=>a' β u (h β u hu)
structure sS(ops:List Oper):Prop where
 lt:∀ j e,kE ops j e->e<j
 own:∀ (j:Nat) (o:Oper) (d:Nat),ops[j]?=some o->o.dst=some d->d ∉ looks ops o
 Iz:∀ (i j:Nat) (fp kD:Oper) (d:Nat),i≠j->ops[i]?=some fp->ops[j]?=some kD->fp.dst=some d->kD.dst≠some d
 ord:∀ (i j:Nat) (fp kD:Oper) (d:Nat),i≠j->ops[i]?=some fp->ops[j]?=some kD->fp.dst=some d->d∈looks ops kD->mQ ops i j\/mQ ops j i
def N7(h:zD ops=true):sS ops:=by
 have key:∀ (j:Nat) (kD:Oper),ops[j]?=some kD->_:=λj kD an=>by have aK:j<ops.length:=(iI.1 an).1;have U:=gi.1 h j (l3.2 aK);simp only[an,b3]at U;exact U
 refine⟨?_,?_,?_,?_⟩
 ·rintro j e⟨o,je,aq,oQ,ai,rfl⟩;have U:=gi.1 (key j o aq).1 je (by simpa using oQ);rw[ai]at U;simpa using U
 ·intro j o d aq ah;have U:=(key j o aq).2.1;rw[ah]at U;simpa using U
 ·intro i j fp kD d bB hi an ah gZ;have aK:i<ops.length:=(iI.1 hi).1;have U:=gi.1 (key j kD an).2.2 i (l3.2 aK);rw[fX bB]at U;simp only[hi,ah,ud,b3]at U;rw[gZ]at U;simp at U
 ·intro i j fp kD d bB hi an ah ar;have aK:i<ops.length:=(iI.1 hi).1;have U:=gi.1 (key j kD an).2.2 i (l3.2 aK);rw[fX bB]at U;simp only[hi,ah,ud,b3,j7]at U;rcases U.2 with aa | aa | aa
  ·have:(looks ops kD).contains d=true:=by simpa using ar
   rw[this]at aa;cases aa
  ·exact .inl (vN aa)
  ·exact .inr (vN aa)
def hl(ops:List Oper)(i:Nat):Option Nat:=(ops[i]?).bind (·.dst)
def jf(L:Nat->Prop)(p i:Nat):Prop:=p.testBit i=true/\¬ L i
def vO(ops:List Oper)(o:Oper)(F:Fr):Prop:=match o.guard with
 |none=>True| some (j,b)=>∃ d,hl ops j=some d/\F d=.lit b
def EY(ops:List Oper)(o:Oper)(F:Fr):Prop:=∃ j b d,o.guard=some (j,b)/\hl ops j=some d/\(F d=.lit (!b)\/∃ vs,F d=.val (.tuple vs))
def IA{o:Oper}{j d:Nat}{b:Bool}(aA:o.guard=some (j,b))(ah:hl ops j=some d):d∈looks ops o:=by unfold looks Oper.looksAt;refine zp _ ?_;rw[aA];simp only[Option.mem_toList];simpa[hl]using ah
def IB{o:Oper}{t:Nat}(h:Operand.tmp t∈o.op.operands):t∈looks ops o:=
 zq _ (List.mem_filterMap.2 ⟨.tmp t,by simpa using h,rfl⟩)
def N8{o:Oper}{F:Fr}{β:Nat->Nat}(h:vO ops o F)(cr:∀ t∈looks ops o,dZ β (F t) (a.tmps.getD t undef)):Region.wanted o (yielded ops.toArray a.tmps)=true:=by
 unfold vO at h;unfold Region.wanted;cases aA:o.guard with
 |none=>rfl| some BD=>obtain⟨j,b⟩:=BD;rw[aA]at h;obtain⟨d,ah,ar⟩:=h;have U:=cr d (IA aA ah);rw[ar]at U;have aN:=BC (ops:=ops.toArray) (j:=j) (d:=d) (by simpa[hl]using ah) a.tmps;simp[aN,zz U]
def N9{o:Oper}{F:Fr}{β:Nat->Nat}(h:EY ops o F)(cr:∀ t∈looks ops o,dZ β (F t) (a.tmps.getD t undef)):Region.wanted o (yielded ops.toArray a.tmps)=false:=by
 obtain⟨j,b,d,aA,ah,ar⟩:=h;unfold Region.wanted;have U:=cr d (IA aA ah);have aN:=BC (ops:=ops.toArray) (j:=j) (d:=d) (by simpa[hl]using ah) a.tmps;rw[aA];rcases ar with ar | ⟨vs,ar⟩
 ·rw[ar]at U;simp[aN,zz U]
 ·rw[ar]at U;have xH:yielded ops.toArray a.tmps j=none:=by
   rw[aN];cases oK:a.tmps[d]? with
   |none=>rfl| some v=>simp only[dZ,mL,oK,j6]at U;subst U;rfl
  simp[xH]
def N'{o:Oper}{F:Fr}{run skip:Fr->Prop}(h:EV ops o F run skip):∃ jE,(∀ t,qD (F t) (jE t))/\((vO ops o jE/\run jE)\/(EY ops o jE/\skip jE)):=by
 unfold EV at h;cases aA:o.guard with
 |none=>rw[aA]at h;exact⟨F,λt=>.refl _,.inl ⟨by simp[vO,aA],h⟩⟩
 |some BD=>
  obtain⟨j,b⟩:=BD;rw[aA]at h;simp only at h;split at h;·exact h.elim
  ·rename_i d ah;have gZ:hl ops j=some d:=ah;split at h
   ·rename_i c aL;refine⟨F,λt=>.refl _,?_⟩;cases hZ:(c == b)with
    |true=>
     rw[hZ]at h;have hZ:c=b:=by simpa using hZ
     subst hZ;exact .inl ⟨by simp only[vO,aA];exact⟨d,gZ,aL⟩,h⟩
    |false=>
     rw[hZ]at h;have EZ:c=!b:=by cases c<;>cases b<;>simp_all
     subst EZ;exact .inr ⟨⟨j,b,d,aA,gZ,.inl aL⟩,h⟩
   ·rename_i c aL;obtain⟨U,aa⟩:=h;have gr:∀ x,c=x->∀ t,qD (F t) (fG F d (.lit x) t):=λx ab t=>by
     unfold fG;by_cases e:t=d;·subst e;subst ab;simp only[oE,bh,aL];exact λ_ _ h=>h
     ·simp only[fX e,ba];exact .refl _
    have self:∀ x,fG F d (.lit x) d=.lit x:=λx=>by simp[fG]
    by_cases hZ:c=b;·exact⟨_,gr b hZ,.inl ⟨by simp only[vO,aA];exact⟨d,gZ,self b⟩,U hZ⟩⟩
    ·have EZ:c=!b:=by cases c<;>cases b<;>simp_all
     exact⟨_,gr _ EZ,.inr ⟨⟨j,b,d,aA,gZ,.inl (self _)⟩,aa EZ⟩⟩
   ·rename_i vs aL;exact⟨F,λt=>.refl _,.inr ⟨⟨j,b,d,aA,gZ,.inr ⟨vs,aL⟩⟩,h⟩⟩
   ·exact h.elim
structure WA(X:cD)(ops:List Oper)(im':Nat->Bool)(L:Nat->Prop)(p:Nat)(b5:List (Nat×Nat))(β:Nat->Nat)(a:Act)(F:Fr)(C:c2)(I:aS)(M:List ay)(gk:Nat->c6)(fA:Nat->Fr)(q:Nat)(o:Oper):Prop where
 quiet:zB o.op=true
 gr:∀ d,o.dst=some d->qD (gk q) (F d)
 b:∀ t∈looks ops o,∀ i,jf L p i->mQ ops i q->hl ops i=some t->qD (gk i) (fA q t)
 a:∀ t∈looks ops o,(∀ i,jf L p i->mQ ops i q->hl ops i≠some t)->dZ β (fA q t) (a.tmps.getD t undef)
 r:(vO ops o (fA q)/\cb X o.op (c0 (fA q)) C I (sQ (im' q) M) (λx=>x=gk q) False/\∀ t x,o.op=.load t x->(q,EW (c0 (fA q) x))∈b5)\/(EY ops o (fA q)/\gk q=.val undef)
structure Inv(X:cD)(ops:List Oper)(im':Nat->Bool)(L:Nat->Prop)(β:Nat->Nat)(a:Act)(w:World)(F:Fr)(C:c2)(I:aS)(M:List ay)(p:Nat)(b5:List (Nat×Nat))(gk:Nat->c6)(fA:Nat->Fr):Prop where
 rel:cp X β a w (λ_=>.k2) C I M
 sub:∀ i,L i->p.testBit i=true
 sT:xJ ops L
 oR:xJ ops (λi=>p.testBit i=true)
 T:∀ t,(∀ i,jf L p i->hl ops i≠some t)->dZ β (F t) (a.tmps.getD t undef)
 vP:∀ q,jf L p q->∃ o,ops[q]?=some o/\WA X ops im' L p b5 β a F C I M gk fA q o
def kG{p q i:Nat}:(p ||| 2^q).testBit i=true ↔ p.testBit i=true\/i=q:=by simp only[Ew,j7,Es,e0];exact⟨λh=>h.imp id Eq.symm,λh=>h.imp id Eq.symm⟩
section
variable{X:cD}{ops:List Oper}{im':Nat->Bool}{L:Nat->Prop}{β:Nat->Nat}{a:Act}{w:World}{F:Fr}{C:c2}{I:aS}{M:List ay}{p:Nat}{b5:List (Nat×Nat)}{gk:Nat->c6}{fA:Nat->Fr}{q:Nat}{o:Oper}
def BQ(h:ops[q]?=some o):hl ops q=o.dst:=by simp[hl,h]
def BR{i d:Nat}(h:hl ops i=some d):∃ fp,ops[i]?=some fp/\fp.dst=some d:=by unfold hl at h;exact H3.1 h
def Inv.ahead(cT:sS ops)(Oa:xJ ops (λi=>p.testBit i=true))(aO:ops[q]?=some o)(jF:p.testBit q=false){i t:Nat}(hi:p.testBit i=true)(av:t∈looks ops o)(ah:hl ops i=some t):mQ ops i q:=by
 obtain⟨fp,gR,nJ⟩:=BR ah;have bB:i≠q:=λe=>by rw[e,jF]at hi;cases hi
 rcases cT.ord i q fp o t bB gR aO nJ av with h | h
 ·exact h
 ·have:=h.mem Oa (λe he=>Oa i e hi he);rw[jF]at this;cases this
def Inv.WB(cT:sS ops)(h:Inv X ops im' L β a w F C I M p b5 gk fA)(aO:ops[q]?=some o)(jF:p.testBit q=false)(bs:∀ e,kE ops q e->L e):∀ t∈looks ops o,dZ β (F t) (a.tmps.getD t undef):=λt av=>h.T t λi hi ah=>
 hi.2 ((Inv.ahead cT h.oR aO jF hi.1 av ah).mem h.sT bs)
def E0{x:c6}{t:Nat}(h:dst≠some t):put dst x F t=F t:=by
 cases dst with
 |none=>rfl| some d=>have:t≠d:=λe=>h (by rw[e]);simp only[put,fG,fX this,ba]
def put_eq{x:c6}{t:Nat}:put (some t) x F t=x:=by simp[put,fG]
def E1{t:Nat}(h:dst≠some t):(a.put dst v).tmps.getD t undef=a.tmps.getD t undef:=by
 cases dst with
 |none=>rfl| some d=>have:d≠t:=λe=>h (by rw[e]);simp only[Act.put,mL,zn,cA this]
def IC{t:Nat}(h:t<a.tmps.size):(a.put (some t) v).tmps.getD t undef=v:=by rw[Nt a t t v h,cK rfl]
def Inv.record(cT:sS ops)(h:Inv X ops im' L β a w F C I M p b5 gk fA)(aO:ops[q]?=some o)(jF:p.testBit q=false)(vM:∀ e,kE ops q e->p.testBit e=true)(E2:zB o.op=true)
  {jE:Fr} (qE:∀ t,qD (F t) (jE t)) {x:c6} {ID:List (Nat×Nat)} (rH:∀ s∈b5,s∈ID) (al:(vO ops o jE/\cb X o.op (c0 jE) C I (sQ (im' q) M) (λy=>y=x) False/\∀ t y,o.op=.load t y->(q,EW (c0 jE y))∈ID)\/(EY ops o jE/\x=.val undef)) :
  Inv X ops im' L β a w (put o.dst x jE) C I M (p ||| 2^q) ID (λi=>if i=q then x else gk i) (λi=>if i=q then jE else fA i):=by
 have oS:¬ L q:=λe=>by have:=h.sub q e;rw[jF]at this;cases this
 have nK:∀ {i},jf L (p ||| 2^q) i->i≠q->jf L p i:=λhi bB=>⟨(kG.1 hi.1).resolve_right bB,hi.2⟩;have ux:∀ {i},jf L p i->jf L (p ||| 2^q) i:=λhi=>⟨kG.2 (.inl hi.1),hi.2⟩;have WC:jf L (p ||| 2^q) q:=⟨kG.2 (.inr rfl),oS⟩;have WD:∀ {i},jf L p i->¬ mQ ops q i:=fun {i} hi ai=>by have:=ai.mem h.oR (λe he=>h.oR i e hi.1 he);rw[jF]at this;cases this
 refine⟨h.rel,λi hi=>kG.2 (.inl (h.sub i hi)),h.sT,?_,?_,?_⟩
 ·intro j e an he;rcases kG.1 an with an | rfl
  ·exact kG.2 (.inl (h.oR j e an he))
  ·exact kG.2 (.inl (vM e he))
 ·intro t av;have U:o.dst≠some t:=λe=>av q WC (by rw[BQ aO,e]);rw[E0 U];exact qE t _ _ (h.T t λi hi=>av i (ux hi))
 ·intro i hi;by_cases mR:i=q
  ·subst mR;refine⟨o,aO,⟨E2,?_,?_,?_,?_⟩⟩
   ·intro d ah;rw[ah,put_eq];simp only[cK];exact .refl _
   ·intro t av j an ai sU;have BS:j≠i:=λe=>by subst e;have:=ai.mem h.oR vM;rw[jF]at this;cases this
    simp only[cA BS,cK];obtain⟨kD,WE,pP⟩:=h.vP j (nK an BS);exact(pP.gr t (by rw[<-BQ WE];exact sU)).trans (qE t)
   ·intro t av d';simp only[cK];refine qE t _ _ (h.T t λj an sU=>d' j (ux an) (Inv.ahead cT h.oR aO jF an.1 av sU) sU)
   ·simpa using al
  ·obtain⟨fp,gR,pP⟩:=h.vP i (nK hi mR);refine⟨fp,gR,⟨pP.quiet,?_,?_,?_,?_⟩⟩
   ·intro d ah;simp only[cA mR];rw[E0 (cT.Iz i q fp o d mR gR aO ah)];exact(pP.gr d ah).trans (qE d)
   ·intro t av j an ai sU;have BT:j≠q:=λe=>by subst e;exact WD (nK hi mR) ai
    simp only[cA mR,cA BT];exact pP.b t av j (nK an BT) ai sU
   ·intro t av d';simp only[cA mR];exact pP.a t av λj an=>d' j (ux an)
   ·simp only[cA mR];exact pP.r.imp (λ⟨U,aa,af⟩=>⟨U,aa,λt x aw=>rH _ (af t x aw)⟩) id
def Inv.exec{vJ:Act->World->Prop}(aE:cE X.P X.E)(cT:sS ops)(fz:∀ d,o.dst=some d->d<X.n)(h:Inv X ops im' L β a w F C I M p b5 gk fA)(aO:ops[q]?=some o)(aG:jf L p q)(bs:∀ e,kE ops q e->L e)
  (e9:∀ bS,Inv X ops im' (λi=>L i\/i=q) β bS w F C I M p b5 gk fA->vJ bS w):wpOpIn (fN X) 0 X.P ops.toArray Q q vJ a w:=by
 obtain⟨o',oT,pP⟩:=h.vP q aG;rw[aO]at oT;cases oT;have zE:∀ {i},mQ ops i q->¬ jf L p i:=λai hi=>hi.2 (ai.mem h.sT bs);have jg:∀ t∈looks ops o,dZ β (fA q t) (a.tmps.getD t undef):=λt av=>pP.a t av λi hi ai=>(zE ai hi).elim;have after:∀ v,dZ β (gk q) v->Inv X ops im' (λi=>L i\/i=q) β (a.put o.dst v) w F C I M p b5 gk fA:=λv ag=>by
  have nK:∀ {i},jf (λi=>L i\/i=q) p i->jf L p i/\i≠q:=λhi=>⟨⟨hi.1,λe=>hi.2 (.inl e)⟩,λe=>hi.2 (.inr e)⟩;have ux:∀ {i},jf L p i->i≠q->jf (λi=>L i\/i=q) p i:=λhi bB=>⟨hi.1,λe=>e.elim hi.2 bB⟩;refine⟨h.rel.put fz (x:=.k2) trivial |> λh=>h.refine λ_=>trivial,?_,?_,h.oR,?_,?_⟩
  ·rintro i (hi | rfl)
   ·exact h.sub i hi
   ·exact aG.1
  ·rintro j e (an | rfl) he
   ·exact .inl (h.sT j e an he)
   ·exact .inl (bs e he)
  ·intro t av;by_cases ah:o.dst=some t
   ·have aK:t<a.tmps.size:=by rw[h.rel.size];exact fz t ah
    rw[ah,IC aK];exact pP.gr t ah _ _ ag
   ·rw[E1 ah];refine h.T t λi hi nJ=>?_;by_cases mR:i=q
    ·subst mR;rw[BQ aO]at nJ;exact ah nJ
    ·exact av i (ux hi mR) nJ
  ·intro i hi;obtain⟨cw,mR⟩:=nK hi;obtain⟨fp,gR,qF⟩:=h.vP i cw;refine⟨fp,gR,⟨qF.quiet,qF.gr,λt av j an=>qF.b t av j (nK an).1,?_,qF.r⟩⟩;intro t av d';by_cases ah:o.dst=some t
   ·have aK:t<a.tmps.size:=by rw[h.rel.size];exact fz t ah
    rw[ah,IC aK];have ai:mQ ops q i:=by
     rcases cT.ord q i o fp t (qo mR) aO gR ah av with ai | ai;·exact ai
     ·exact(zE ai cw).elim
    exact qF.b t av q aG ai (by rw[BQ aO,ah]) _ _ ag
   ·rw[E1 ah];refine qF.a t av λj an ai sU=>?_;by_cases BT:j=q
    ·subst BT;rw[BQ aO]at sU;exact ah sU
    ·exact d' j (ux an BT) ai sU
 have BU:ops.toArray[q]?=some o:=by simpa using aO
 unfold wpOpIn;simp only[BU];rcases pP.r with⟨eK,WG,-⟩ | ⟨BV,ab⟩
 ·rw[N8 eK jg,cK rfl];let G:Fr:=λt=>if t∈looks ops o then fA q t else .k2
  have kF:∀ t,dZ β (G t) (a.tmps.getD t undef):=λt=>by
   by_cases av:t∈looks ops o;·simp only[G,cK av];exact jg t av
   ·simp only[G,cA av];trivial
  have IE:∀ y∈o.op.operands,c0 G y=c0 (fA q) y:=λy aN=>by
   cases y with
   |tmp t=>simp only[c0,G,cK (IB aN)]| const v=>cases v<;>rfl
   |global g=>rfl| func f=>rfl
  have WH:=N3 WG IE (C':=C) (I':=I) (M':=M) λ_ _ _=>⟨λ_ _ _=>rfl,λ_ _ _ h=>Wm h⟩;obtain⟨dst,op,ty,pos,WI,guard⟩:=o;have cJ:∀ c,op≠.defer c:=λc e=>by have:=pP.quiet;rw[e]at this;cases this
  rcases NK aE (h.rel.refine kF) op ty dst pos WI guard WH with U | ⟨v,x,nL,ab,rfl⟩;·exact U.elim
  ·exact hV cJ nL (e9 _ (after v ab))
 ·rw[N9 BV jg];simp only[jw,j8];exact⟨λ_ _=>trivial,e9 _ (after undef (by rw[ab];rfl))⟩
end
section
variable{X:cD}{ops:List Oper}{im':Nat->Bool}{L:Nat->Prop}{β:Nat->Nat}{a:Act}{w:World}{F:Fr}{C:c2}{I:aS}{M:List ay}{p:Nat}{b5:List (Nat×Nat)}{gk:Nat->c6}{fA:Nat->Fr}{q:Nat}{o:Oper}
def Inv.refine(h:Inv X ops im' L β a w F C I M p b5 gk fA){jE:Fr}(qE:∀ t,qD (F t) (jE t)):Inv X ops im' L β a w jE C I M p b5 gk fA:=
 ⟨h.rel,h.sub,h.sT,h.oR,λt av=>qE t _ _ (h.T t av),λi hi=>by
  obtain⟨fp,gR,aG⟩:=h.vP i hi;exact⟨fp,gR,⟨aG.quiet,λd ah=>(aG.gr d ah).trans (qE d),aG.b,aG.a,aG.r⟩⟩⟩
def Inv.step(cT:sS ops)(fz:∀ d,o.dst=some d->d<X.n)(h:Inv X ops im' L β a w F C I M p b5 gk fA)(aO:ops[q]?=some o)(jF:p.testBit q=false)(bs:∀ e,kE ops q e->L e)
 {x:c6} {C':c2} {I':aS} {M':List ay} (ab:dZ β x v) (al:cp X β a w' (λ_=>.k2) C' I' M')
  (hm:∀ i fp eF,jf L p i->ops[i]?=some fp->nG fp.op=true->(i,eF)∈b5->(∀ s,eF=s+1->C' s=C s)/\(eF=0->∀ b o,gO I (sQ (im' i) M) b o->gO I' (sQ (im' i) M') b o)) :
  Inv X ops im' (λi=>L i\/i=q) β (a.put o.dst v) w' (put o.dst x F) C' I' M' (p ||| 2^q) b5 gk fA:=by
 have nK:∀ {i},jf (λi=>L i\/i=q) (p ||| 2^q) i->jf L p i:=λhi=>⟨(kG.1 hi.1).resolve_right (λe=>hi.2 (.inr e)),λe=>hi.2 (.inl e)⟩;have ux:∀ {i},jf L p i->jf (λi=>L i\/i=q) (p ||| 2^q) i:=fun {i} hi=>⟨kG.2 (.inl hi.1),λe=>e.elim hi.2 (λe=>by
  subst e;have:=hi.1;rw[jF]at this;cases this)⟩
 refine⟨al.put fz (x:=.k2) trivial |> λh=>h.refine λ_=>trivial,?_,?_,?_,?_,?_⟩
 ·rintro i (hi | rfl)
  ·exact kG.2 (.inl (h.sub i hi))
  ·exact kG.2 (.inr rfl)
 ·rintro j e (an | rfl) he
  ·exact .inl (h.sT j e an he)
  ·exact .inl (bs e he)
 ·intro j e an he;rcases kG.1 an with an | rfl
  ·exact kG.2 (.inl (h.oR j e an he))
  ·exact kG.2 (.inl (h.sub e (bs e he)))
 ·intro t av;by_cases ah:o.dst=some t
  ·have aK:t<a.tmps.size:=by rw[h.rel.size];exact fz t ah
   rw[ah,IC aK,put_eq];exact ab
  ·rw[E1 ah,E0 ah];exact h.T t λi hi=>av i (ux hi)
 ·intro i hi;have cw:=nK hi;obtain⟨fp,gR,qF⟩:=h.vP i cw;have mR:i≠q:=λe=>by subst e;have:=cw.1;rw[jF]at this;cases this
  refine⟨fp,gR,⟨qF.quiet,?_,λt av j an=>qF.b t av j (nK an),?_,?_⟩⟩;·intro d ah;rw[E0 (cT.Iz i q fp o d mR gR aO ah)];exact qF.gr d ah
  ·intro t av d';have ah:o.dst≠some t:=λah=>by
    rcases cT.ord q i o fp t (qo mR) aO gR ah av with ai | ai;·have:=ai.mem h.oR (λe he=>h.oR i e cw.1 he);rw[jF]at this;cases this
    ·exact cw.2 (ai.mem h.sT bs)
   rw[E1 ah];exact qF.a t av λj an=>d' j (ux an)
  ·refine qF.r.imp (λ⟨U,aa,af⟩=>⟨U,N3 aa (λ_ _=>rfl) λt x ar=>?_,af⟩) id;have aR:=af t x ar;have bC:=hm i fp _ cw gR (by rw[ar];rfl) aR;refine⟨λs off e=>?_,λbB=>bC.2 ?_⟩
   ·exact bC.1 s (by rw[e];rfl)
   ·generalize c0 (fA i) x=WJ at bB;cases WJ with
    |ref s off=>exact(bB s off rfl).elim| _=>rfl
def xL(X:cD)(ops:List Oper)(im':Nat->Bool)(K:fo)(L:Nat->Prop)(a:Act)(w:World):Prop:=
 ∃ β F C I M p b5 gk fA n,Inv X ops im' L β a w F C I M p b5 gk fA/\nI X ops im' n p b5 F C I M K
def BW{k:Bool}{i:Nat}:i∈nH ops p k ↔ ∃ o,ops[i]?=some o/\p.testBit i=false/\zB o.op=k/\(∀ e,kE ops i e->p.testBit e=true):=by
 unfold nH;rw[Bt,l3];have BX:∀ {o},ops[i]?=some o->(BN o p=true ↔ ∀ e,kE ops i e->p.testBit e=true):=fun {o} aq=>by
  unfold BN;rw[gi];constructor;·rintro h e⟨o',je,oT,oQ,ai,rfl⟩;rw[aq]at oT;cases oT;have:=h je (by simpa using oQ);rw[ai]at this;simpa using this
  ·intro h je oQ;cases ai:Region.binds .any je with
   |false=>simp| true=>simp[h je.on ⟨o,je,aq,by simpa using oQ,ai,rfl⟩]
 constructor
 ·rintro⟨aK,h⟩;cases aq:ops[i]? with
  |none=>rw[aq]at h;cases h| some o=>rw[aq]at h;simp only[b3,nw,beq_iff_eq]at h;exact⟨o,rfl,h.1,h.2.1,(BX aq).1 h.2.2⟩
 ·rintro⟨o,aq,U,aa,af⟩;refine⟨(iI.1 aq).1,?_⟩;rw[aq];simp only[U,aa,(BX aq).2 af,H8,Br,Bool.and_self]
def Ob{P:Nat->Prop}:∀ {l:List Nat},Iv P l->∀ i∈l,P i
 |[],_,i,hi=>by cases hi
 |[j],h,i,hi=>by rw[iY]at hi;subst hi;exact h
 |j::k::l,h,i,hi=>by
  rcases eg.1 hi with rfl | hi;·exact h.1
  ·exact Ob (l:=k::l) h.2 i hi
def WK(i:Nat)(op:Op)(ρ:Operand->c6)(b5:List (Nat×Nat)):∀ s∈b5,s∈BP i op ρ b5:=λs ap=>by
 unfold BP;split
 ·exact .tail _ ap
 ·exact ap
def WL{i:Nat}{ρ:Operand->c6}{b5:List (Nat×Nat)}:∀ t x,op=.load t x->(i,EW (ρ x))∈BP i op ρ b5:=λt x aw=>by subst aw;unfold BP;exact .head _
def xL.advance(cT:sS ops){K:fo}:∀ (n:Nat) {p b5 F gk fA},Inv X ops im' L β a w F C I M p b5 gk fA->nI X ops im' n p b5 F C I M K -> ∃ p b5 F gk fA n,Inv X ops im' L β a w F C I M p b5 gk fA/\nH ops p true=[]/\nI X ops im' (n+1) p b5 F C I M K
 |0,_,_,_,_,_,_,ag=>ag.elim
 |n+1,p,b5,F,gk,fA,bF,ag=>by
  cases al:nH ops p true with
  |nil=>exact⟨p,b5,F,gk,fA,n,bF,al,ag⟩
  |cons q l=>
   have gF:q∈nH ops p true:=by rw[al];simp
   obtain⟨o,aO,jF,E2,vM⟩:=BW.1 gF;have kB:=ag;unfold nI at kB;rw[al]at kB;simp only[aO]at kB;obtain⟨jE,qE,⟨eK,U⟩ | ⟨BV,U⟩⟩:=N' kB;·obtain⟨x,aa,af⟩:=Ws (Wo U);exact xL.advance cT n (bF.record cT aO jF vM E2 qE (WK _ _ _ _) (.inl ⟨eK,af,WL⟩)) aa
   ·exact xL.advance cT n (bF.record cT aO jF vM E2 qE (λ_ h=>h) (.inr ⟨BV,rfl⟩)) U
def mem_ready{i:Nat}(cI:cX.size=ops.length):i∈Region.ready .any ops.toArray cX ↔ ∃ o,ops[i]?=some o/\¬ cX.getD i false=true/\∀ e,kE ops i e->cX.getD e false=true:=by
 unfold Region.ready;rw[Bt,l3];simp only[rs,xp,b3,nw];have BX:∀ {o},ops[i]?=some o->((o.after.all λe=>!Region.binds .any e||cX.getD e.on false)=true ↔ ∀ e,kE ops i e->cX.getD e false=true):=fun {o} aq=>by
  rw[Array.all_eq_true_iff_forall_mem];constructor;·rintro h e⟨o',je,oT,oQ,ai,rfl⟩;rw[aq]at oT;cases oT;have:=h je oQ;rw[ai]at this;simpa using this
  ·intro h je oQ;cases ai:Region.binds .any je with
   |false=>simp| true=>simp[h je.on ⟨o,je,aq,oQ,ai,rfl⟩]
 have Oc:i<ops.length->(cX.getD i true=false ↔ ¬ cX.getD i false=true):=λhi=>by
  have:i<cX.size:=by omega
  simp[Array.getD,this]
 constructor
 ·rintro⟨aK,U,aa⟩;cases aq:ops[i]? with
  |none=>rw[aq]at aa;cases aa| some o=>rw[aq]at aa;exact⟨o,rfl,(Oc aK).1 U,(BX aq).1 aa⟩
 ·rintro⟨o,aq,U,aa⟩;have aK:=(iI.1 aq).1;refine⟨aK,(Oc aK).2 U,?_⟩;rw[aq];exact(BX aq).2 aa
def Od{i:Nat}(hi:i<cX.size):(λj=>(cX.setIfInBounds i true).getD j false=true)=λj=>cX.getD j false=true\/j=i:=by
 funext j;simp only[mL,zn,eq_iff_iff];by_cases e:i=j
 ·subst e;simp[hi]
 ·simp only[cA e];constructor
  ·exact .inl
  ·rintro(h | h)
   ·exact h
   ·exact(e h.symm).elim
def todo(ops:List Oper)(cX:Array Bool):Nat:=((List.range ops.length).filter λi=>!cX.getD i false).length
def E3{i:Nat}(hi:i<ops.length)(cI:cX.size=ops.length)(ax:¬ cX.getD i false=true):todo ops (cX.setIfInBounds i true)<todo ops cX:=by
 unfold todo;have key:∀ l:List Nat,l.Nodup->i∈l->((l.filter λj=>!(cX.setIfInBounds i true).getD j false).length<(l.filter λj=>!cX.getD j false).length):=by
  have same:∀ j,j≠i->(cX.setIfInBounds i true).getD j false=cX.getD j false:=λj an=>by simp only[mL,zn,cA (qo an)]
  have self:(cX.setIfInBounds i true).getD i false=true:=by
   have:i<cX.size:=by omega
   simp[mL,zn,this]
  have E4:cX.getD i false=false:=by simpa using ax
  intro l
  induction l with
  |nil=>intro _ h;cases h
  |cons j l be=>
   intro cJ hm;rw[lA]at cJ;by_cases e:j=i
   ·subst e;have:l.filter (λk=>!(cX.setIfInBounds j true).getD k false)=l.filter (λk=>!cX.getD k false):=
     List.filter_congr λk ae=>by rw[same k (λe=>cJ.1 (e ▸ ae))]
    simp only[Ev,self,E4,this];simp
   ·have pQ:i∈l:=by
     rcases eg.1 hm with h | h;·exact(e h.symm).elim
     ·exact h
    have:=be cJ.2 pQ;simp only[Ev,same j e];split;·simp only[e1];omega
    ·exact this
 exact key _ List.nodup_range (l3.2 hi)
def WM(aE:cE X.P X.E)(cT:sS ops)(fz:∀ o∈ops,∀ d,o.dst=some d->d<X.n){K:fo}(rF:∀ a w,Sat X K a w->Q .normal a w):∀ (ed:Nat) (cX:Array Bool) (a:Act) (w:World),
  cX.size=ops.length->todo ops cX<=ed->xL X ops im' K (λi=>cX.getD i false=true) a w->wpAnyIn (fN X) 0 X.P .any ops.toArray Q ed cX a w:=by
 intro ed
 induction ed with
 |zero=>
  rintro cX a w cI az⟨β,F,C,I,M,p,b5,gk,fA,n,bF,ag⟩;have nM:Region.ready .any ops.toArray cX=[]:=by
   cases al:Region.ready .any ops.toArray cX with
   |nil=>rfl| cons i l=>obtain⟨o,aq,ax,_⟩:=(mem_ready cI).1 (by rw[al];simp:i∈Region.ready .any ops.toArray cX);have:=E3 (iI.1 aq).1 cI ax;omega
  refine⟨nM,?_⟩;obtain⟨p,b5,F,gk,fA,n,bF,iN,ag⟩:=xL.advance cT n bF ag;have BY:∀ i,p.testBit i=true->cX.getD i false=true:=λi=>by
   induction i using Nat.strongRecOn with
   |ind i be=>intro aG;refine zo λax=>?_;obtain⟨o,aq,_⟩:=bF.vP i ⟨aG,ax⟩;have:i∈Region.ready .any ops.toArray cX:=(mem_ready cI).2 ⟨o,aq,ax,λe he=>be e (cT.lt i e he) (bF.oR i e aG he)⟩;rw[nM]at this;cases this
  have uy:nH ops p false=[]:=by
   cases al:nH ops p false with
   |nil=>rfl| cons i l=>obtain⟨o,aq,aG,_,ah⟩:=BW.1 (by rw[al];simp:i∈nH ops p false);have:i∈Region.ready .any ops.toArray cX:=(mem_ready cI).2 ⟨o,aq,λbA=>(by have eo:=bF.sub i bA;rw[aG]at eo;exact Bool.noConfusion eo),λe he=>BY e (ah e he)⟩;rw[nM]at this;cases this
  unfold nI at ag;rw[iN,uy]at ag;exact rF _ _ ⟨F,C,I,M,⟨β,bF.rel.refine λt=>bF.T t λi hi=>(hi.2 (BY i hi.1)).elim⟩,ag⟩
 |succ ed be=>
  rintro cX a w cI az⟨β,F,C,I,M,p,b5,gk,fA,n,bF,ag⟩;obtain⟨p,b5,F,gk,fA,n,bF,iN,ag⟩:=xL.advance cT n bF ag;refine⟨λnM=>?_,λq aO=>?_⟩
  ·have BY:∀ i,p.testBit i=true->cX.getD i false=true:=λi=>by
    induction i using Nat.strongRecOn with
    |ind i be=>intro aG;refine zo λax=>?_;obtain⟨o,aq,_⟩:=bF.vP i ⟨aG,ax⟩;have:i∈Region.ready .any ops.toArray cX:=(mem_ready cI).2 ⟨o,aq,ax,λe he=>be e (cT.lt i e he) (bF.oR i e aG he)⟩;rw[nM]at this;cases this
   have uy:nH ops p false=[]:=by
    cases al:nH ops p false with
    |nil=>rfl| cons i l=>obtain⟨o,aq,aG,_,ah⟩:=BW.1 (by rw[al];simp:i∈nH ops p false);have:i∈Region.ready .any ops.toArray cX:=(mem_ready cI).2 ⟨o,aq,λbA=>(by have eo:=bF.sub i bA;rw[aG]at eo;exact Bool.noConfusion eo),λe he=>BY e (ah e he)⟩;rw[nM]at this;cases this
   unfold nI at ag;rw[iN,uy]at ag;exact rF _ _ ⟨F,C,I,M,⟨β,bF.rel.refine λt=>bF.T t λi hi=>(hi.2 (BY i hi.1)).elim⟩,ag⟩
  ·obtain⟨o,aq,ax,ah⟩:=(mem_ready cI).1 aO;have aK:=(iI.1 aq).1;have oU:=fz o (xq aq);have fj:=Od (cX:=cX) (i:=q) (by omega);have next:∀ bS w',xL X ops im' K (λi=>cX.getD i false=true\/i=q) bS w'->wpAnyIn (fN X) 0 X.P .any ops.toArray Q ed (cX.setIfInBounds q true) bS w':=λbS w' h=>by refine be _ bS w' (by simpa using cI) ?_ (by rw[fj];exact h);have:=E3 aK cI ax;omega
   cases jF:p.testBit q with
   |true=>
    exact bF.exec aE cT oU aq ⟨jF,ax⟩ ah λbS h=>next bS w ⟨β,F,C,I,M,p,b5,gk,fA,n+1,h,ag⟩
   |false=>
    have IF:∀ e,kE ops q e->p.testBit e=true:=λe he=>bF.sub e (ah e he);have WN:zB o.op=false:=by
     cases WO:zB o.op with
     |false=>rfl| true=>have:q∈nH ops p true:=BW.2 ⟨o,aq,jF,WO,IF⟩;rw[iN]at this;cases this
    have gF:q∈nH ops p false:=BW.2 ⟨o,aq,jF,WN,IF⟩;unfold nI at ag;rw[iN]at ag;simp only at ag;split at ag;·rename_i uy;rw[uy]at gF;cases gF
    ·rename_i i0 dC uy;rw[uy]at gF;have ai:=Ob ag q gF;simp only[aq]at ai;obtain⟨jE,qE,ai⟩:=N' ai;have cM:=bF.refine qE;have nO:=cM.WB cT aq jF ah;have BU:ops.toArray[q]?=some o:=by simpa using aq
     unfold wpOpIn;simp only[BU];rcases ai with⟨eK,ai⟩ | ⟨BV,ai⟩
     ·rw[N8 eK nO,cK rfl];cases IG:NU ((jD ops).getD q 0) p with
      |true=>
       rw[IG]at ai;simp only[sP,bh]at ai;have gS:∀ i,p.testBit i=true->cX.getD i false=true:=λi hi=>by
        have U:=cf IG;have aa:(p &&& (jD ops).getD q 0).testBit i=true:=by rw[U];exact hi
        rw[Nat.testBit_and,b3]at aa;exact(vN aa.2).mem bF.sT ah
       have a1:Rel X a w jE C I M:=⟨β,cM.rel.refine λt=>cM.T t λi hi=>(hi.2 (gS i hi.1)).elim⟩;refine qm (λbS w'=>?_) (zy aE oU a1 ai);rintro⟨dE,C',I',M',⟨l6,gj⟩,ae⟩;have WQ:∀ i,¬ jf (λi=>cX.getD i false=true\/i=q) (p ||| 2^q) i:=λi hi=>by
        rcases kG.1 hi.1 with U | U;·exact hi.2 (.inl (gS i U))
        ·exact hi.2 (.inr U)
       refine next bS w' ⟨l6,dE,C',I',M',p ||| 2^q,b5,gk,fA,n,⟨gj.refine λ_=>trivial,?_,?_,?_,λt _=>gj.aj t,λi hi=>(WQ i hi).elim⟩,ae⟩
       ·rintro i (hi | rfl)
        ·exact kG.2 (.inl (bF.sub i hi))
        ·exact kG.2 (.inr rfl)
       ·rintro j e (an | rfl) he
        ·exact .inl (bF.sT j e an he)
        ·exact .inl (ah e he)
       ·intro j e an he;rcases kG.1 an with an | rfl
        ·exact kG.2 (.inl (bF.oR j e an he))
        ·exact kG.2 (.inl (IF e he))
      |false=>
       rw[IG]at ai;let G:Fr:=λt=>if t∈looks ops o then jE t else .k2
       have kF:∀ t,dZ β (G t) (a.tmps.getD t undef):=λt=>by
        by_cases av:t∈looks ops o;·simp only[G,cK av];exact nO t av
        ·simp only[G,cA av];trivial
       have IE:∀ y∈o.op.operands,c0 G y=c0 jE y:=λy aN=>by
        cases y with
        |tmp t=>simp only[c0,G,cK (IB aN)]| const v=>cases v<;>rfl
        |global g=>rfl| func f=>rfl
       refine qm (λbS w'=>?_) (Wv aE (cM.rel.refine kF) IE ai);rintro⟨v,x,C',I',M',rfl,ab,gj,ae,hm⟩;refine next _ _ ⟨β,_,C',I',M',p ||| 2^q,b5,gk,fA,n,cM.step cT oU aq jF ah ab (gj.refine λ_=>trivial) ?_,ae⟩
       rcases hm with⟨EU,uz⟩ | ⟨rfl,bo,dR⟩
       rotate_left
       ·exact λ_ _ _ _ _ _ _=>⟨λ_ _=>rfl,λ_=>NY dR bo⟩
       have zE:∀ {i},jf (λi=>cX.getD i false=true) p i->((jD ops).getD q 0).testBit i=true->False:=λhi ai=>hi.2 ((vN ai).mem bF.sT ah);intro i fp eF hi gR ev gF;have d':∀ {s:Nat},zC ((jD ops).getD q 0) s b5=true->eF≠s:=fun {s} h e=>by
        rcases NV h gF with U | U;·exact zE hi U
        ·exact U e
       rcases(j7 _ _).mp EU with WR | WS
       ·have U:=gi.1 WR i (l3.2 (iI.1 gR).1);rw[hi.1,gR]at U;simp only[oB,ud,j7,nw]at U;rcases U with U | U
        ·exact(zE hi U).elim
        ·rw[U]at ev;cases ev
       rcases(j7 _ _).mp WS with zF | vQ
       ·unfold NX at zF;split at zF
        ·rename_i t0 sV Oe cv;split at zF
         ·rename_i dJ ahT aw;obtain⟨⟨dO,fB⟩,bL⟩:=uz.1 _ _ _ _ _ cv aw;exact⟨λcq e=>dO cq (λaB=>d' zF (by rw[e,aB])),λ_=>NY bL fB⟩
         ·cases zF
        ·cases zF
       rcases(j7 _ _).mp vQ with vQ | uA
       ·unfold NW at vQ;split at vQ
        ·rename_i t0 sV Oe cv;split at vQ
         ·rename_i WT aw;exact⟨λ_ _=>by rw[(uz.2.1 _ _ _ _ cv aw).1],λe=>(d' vQ e).elim⟩
         ·cases vQ
        ·cases vQ
       unfold N1 at uA;rw[b3]at uA;obtain⟨WU,uA⟩:=uA;have WV:im' i=true:=by
        have U:=gi.1 WU i (l3.2 (iI.1 gR).1);rw[hi.1,gR]at U;simp only[oB,ud,j7,nw]at U;rcases U with U | U | U;·exact(zE hi U).elim
        ·exact U
        ·rw[U]at ev;cases ev
       have bo:C'=C/\∀ b o,I b=some o->I' b=some o:=by
        unfold N0 at uA;split at uA
        ·rename_i t0 sV Oe cv;split at uA
         ·rename_i WT aw;exact uz.2.1 _ _ _ _ cv aw
         ·cases uA
        ·rename_i cv;exact uz.2.2 (λt x y e=>by rw[cv]at e;cases e)
        ·rename_i cv;exact uz.2.2 (λt x y e=>by rw[cv]at e;cases e)
        ·cases uA
       exact⟨λ_ _=>by rw[bo.1],λ_=>by rw[WV];exact Wn bo.2⟩
     ·rw[N9 BV nO];simp only[jw,j8];refine⟨λ_ _=>trivial,next _ _ ⟨β,_,C,I,M,p ||| 2^q,b5,gk,fA,n,cM.step cT oU aq jF ah (x:=.val undef) rfl cM.rel (λ_ _ _ _ _ _ _=>⟨λ_ _=>rfl,λ_ _ _ h=>h⟩),ai⟩⟩
end
def cW.Of{X:cD}{id:Nat}{F:Fr}{C:c2}{I:aS}{M:List ay}{K:jC}(aE:cE X.P X.E)(hm:X.P.follows .mixedOrders=true)(aL:zD A.toList=true)(ax:vH X.n A=true)
  {im':Nat->Bool} (h:nI X A.toList im' (A.size+1) 0 [] F C I M (K .normal)):cW X (.region id A true) F C I M K:=by
 refine⟨λa w ⟨β,a1⟩=>wpIn_region_any hm ?_⟩;have qG:cp X β a { w with drawn:=w.drawn+1 } F C I M:=a1.world rfl;have c7:∀ i,(Array.replicate A.size false).getD i false=false:=λi=>by
  by_cases hi:i<A.size<;>simp[mL,hi]
 have qH:∀ {i},¬ (Array.replicate A.size false).getD i false=true:=fun {i}=>by rw[c7];simp
 have key:=WM (K:=K .normal) (Q:=kC X K) aE (N7 aL) (EL ax) (λ_ _ h=>h) A.size (Array.replicate A.size false) a { w with drawn:=w.drawn+1 } (by simp) ?_ ⟨β,F,C,I,M,0,[],λ_=>.k2,λ_ _=>.k2,A.size+1,⟨qG.refine λ_=>trivial,λi hi=>(qH hi).elim,λj e an=>(qH an).elim,λj e an=>by simp at an,λt _=>qG.aj t,λi hi=>by simp[jf]at hi⟩,h⟩
 ·simpa using key
 ·unfold todo;refine jx (Er _ _) (by simp)
def cW.WW{X:cD}{id:Nat}{F:Fr}{C:c2}{I:aS}{M:List ay}{K:jC}(aE:cE X.P X.E)(hm:X.P.follows .mixedOrders=true)(aL:zD A.toList=true)(ax:vH X.n A=true)
  {im':Nat->Bool} (au:ι->ur) (inv:ι->Prop) (ag:nI X A.toList im' (A.toList.length+1) 0 [] F C I M (nE X.bW au inv)) (a2:∀ i,inv i->K .normal (oL (au i).bj) (oM (au i).cl) (au i).c5 (au i).dv):cW X (.region id A true) F C I M K:=by
 obtain⟨h⟩:=cW.Of (im':=im') (K:=λe=>match e with
  | .normal=>nE X.bW au inv| e=>K e) aE hm aL ax ag
 refine⟨λa w a1=>wpIn_mono (h a w a1) ?_⟩;intro e a w ap;cases e with
 |normal=>obtain⟨dE,C',I',M',⟨β,al⟩,⟨j,pO,hw,cr,nC⟩⟩:=ap;exact⟨_,_,_,_,⟨β,(al.a3 cr nC).hh hw⟩,a2 j pO⟩
 |_=>exact ap
def cW.draw{X:cD}{id:Nat}{F:Fr}{C:c2}{I:aS}{M:List ay}{K:jC}(aE:cE X.P X.E)(hm:X.P.follows .mixedOrders=true)(aL:zD A.toList=true)(ax:vH X.n A=true)(h:nI X A.toList (λ_=>false) (A.size+1) 0 [] F C I M (K .normal)):cW X (.region id A true) F C I M K:=.Of aE hm aL ax h
def cW.WX{X:cD}{id:Nat}{F:Fr}{C:c2}{I:aS}{M:List ay}{K:jC}(aE:cE X.P X.E)(hm:X.P.follows .mixedOrders=true)(aL:zD A.toList=true)(ax:vH X.n A=true)
 (au:ι->ur) (inv:ι->Prop) (ag:nI X A.toList (λ_=>false) (A.toList.length+1) 0 [] F C I M (nE X.bW au inv)) (a2:∀ i,inv i->K .normal (oL (au i).bj) (oM (au i).cl) (au i).c5 (au i).dv):cW X (.region id A true) F C I M K:=.WW aE hm aL ax au inv ag a2
end Go.V
