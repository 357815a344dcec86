/- Part 1 of what the proofs of this seat share: the executor, data in memory, walks.
-/
import Derived.WalkKit
import Derived.RangeFuncRecord
import Derived.OrdersIn
import Derived.Lib.UnsafeStr
set_option linter.all false
namespace Go.V
open Go
theorem Z{p:Prop}(h:p:=by omega):p:=h
theorem am{p:Prop}(h:p:=by simp):p:=h
theorem bv{p:Prop}(h:p:=by decide):p:=h
theorem ce{p:Prop}(h:p:=by simp only;omega):p:=h
theorem ci{p:Prop}(h:p:=by cases h):p:=h
theorem co{p:Prop}(h:p:=by simp[Op.operands]):p:=h
theorem d0{p:Prop}(h:p:=by kernel_rfl):p:=h
theorem d4{p:Prop}(h:p:=by simp;omega):p:=h
theorem d5{p:Prop}(h:p:=by grind):p:=h
theorem d6{p:Prop}(h:p:=by exact eN (l₁:=(⟨b9,.cells (nF (q,0,ht t.ns[j].k t.ns[q].k)).toArray 378 (0,0)⟩:aA)::(u.M g++[⟨b6,.cells t.ns[j].cells.toArray 88 (0,0)⟩])) (l₂:=[⟨c0,.cells (cd aS ((n-1)*3+1) [.int .i64 ((i+1:Nat):Int)]).toArray 378 (0,0)⟩])):p:=h
theorem d7{p:Prop}(h:p:=by simp at h):p:=h
theorem d8{p:Prop}(h:p:=by simp[Op.operands,Call.operands]):p:=h
theorem d9{p:Prop}(h:p:=by rw[mT,bB];show 0+i*1+1<=_;omega):p:=h
theorem fd{p:Prop}(h:p:=by simp only[aV];exact⟨a,a7,rfl⟩):p:=h
theorem f0{p:Prop}(h:p:=by rw[dn,gM];exact oG P i (by omega) r):p:=h
theorem f7{p:Prop}(h:p:=by rw[aD];simp):p:=h
theorem f8{p:Prop}(h:p:=by rw[wrap_i64 ⟨by omega,by omega⟩];omega):p:=h
theorem f9{p:Prop}(h:p:=by simp[ab]):p:=h
theorem gc{p:Prop}(h:p:=by simp[aT.ar]):p:=h
theorem gt{p:Prop}(h:p:=by show IntKind.i64.wrap ((dd.n:Int)-1)=_;rw[wrap_i64 ⟨by omega,by omega⟩];omega):p:=h
theorem ii{p:Prop}(h:p:=by rw[aD];simp[Op.operands]):p:=h
theorem io{p:Prop}(h:p:=by simp only[aV]):p:=h
theorem ip{p:Prop}(h:p:=by simp[eC]):p:=h
theorem i3{p:Prop}(h:p:=by show n-1<=fl;omega):p:=h
theorem i4{p:Prop}(h:p:=by rw[h.2.2];exact ab):p:=h
theorem i5{p:Prop}(h:p:=by simpa using h):p:=h
theorem i6{p:Prop}(h:p:=by simpa using hi):p:=h
theorem i7{p:Prop}(h:p:=by unfold maxLen;simp only;omega):p:=h
theorem i9{p:Prop}(h:p:=by simp[Op.operands,Call.operands];grind):p:=h
theorem jp{p:Prop}(h:p:=by have:=h.holds.d _ gd;simp only at this;rw[e,this]at iQ;cases iQ):p:=h
theorem lm{p:Prop}(h:p:=by simpa using ah):p:=h
theorem lw{p:Prop}(h:p:=by simp only[aV];rfl):p:=h
theorem md{p:Prop}(h:p:=by rw[bB];simp only;omega):p:=h
theorem mt{p:Prop}(h:p:=by show IntKind.i64.wrap ((todo.n:Int)-1)=_;rw[wrap_i64 ⟨by omega,by omega⟩];omega):p:=h
theorem ol{p:Prop}(h:p:=by simp[aT.ar,aw]):p:=h
theorem pp{p:Prop}(h:p:=by simpa using az):p:=h
theorem qr{p:Prop}(h:p:=by cases ai):p:=h
theorem rg{p:Prop}(h:p:=by show IntKind.i64.wrap ((out.n:Int)-1)=_;rw[wrap_i64 ⟨by omega,by omega⟩,hX]):p:=h
theorem rt{p:Prop}(h:p:=by simp only[maxLen];omega):p:=h
theorem rx{p:Prop}(h:p:=by simpa using aa):p:=h
theorem t7{p:Prop}(h:p:=by unfold maxLen;exact b1):p:=h
theorem t8{p:Prop}(h:p:=by show j<(t.ns.map al.aW).length;rw[bB];exact ah):p:=h
theorem t9{p:Prop}(h:p:=by rw[fE];simpa using u6):p:=h
theorem v4{p:Prop}(h:p:=by rw[bB,fT];omega):p:=h
theorem v6{p:Prop}(h:p:=by simpa using aJ):p:=h
theorem wf{p:Prop}(h:p:=by simpa using ad):p:=h
theorem wl{p:Prop}(h:p:=by cases ab):p:=h
theorem wn{p:Prop}(h:p:=by simp only[lJ,e5,cF];exact⟨r,af,rfl⟩):p:=h
theorem wp{p:Prop}(h:p:=by simp only[binOp];simp[he w]):p:=h
theorem wr{p:Prop}(h:p:=by simp[ck.ar,ck.ai]):p:=h
theorem wt{p:Prop}(h:p:=by simpa using ib):p:=h
theorem ww{p:Prop}(h:p:=by show n+1<=_;simp only[maxLen];omega):p:=h
theorem AC{p:Prop}(h:p:=by show _+(pH t.ns[j]).length<=_;omega):p:=h
theorem Do{p:Prop}(h:p:=by rw[hw,hu,FL];rfl):p:=h
theorem Fd{p:Prop}(h:p:=by simp[pj,binOp,Op.intBits]):p:=h
theorem FS{p:Prop}(h:p:=by simp only[cn,ep,hj];omega):p:=h
theorem GE{p:Prop}(h:p:=by rw[ml];simp):p:=h
theorem H1{p:Prop}(h:p:=by show(out.n+1)*96<=_;omega):p:=h
theorem Id{p:Prop}(h:p:=by have dT:=fc;rw[xX]at dT;exact dT _):p:=h
theorem In{p:Prop}(h:p:=by simp[pj,binOp,Op.intCmp]):p:=h
theorem IO{p:Prop}(h:p:=by show _<_;simp only;omega):p:=h
theorem LE{p:Prop}(h:p:=by simp only[aV];exact⟨_,j5,rfl⟩):p:=h
theorem LT{p:Prop}(h:p:=by simp only[bT,dy IK,lF];exact bK _):p:=h
theorem Pi{p:Prop}(h:p:=by rw[h.2.1];exact ab):p:=h
theorem ST{p:Prop}(h:p:=by exact .cons _ (.cons_cons _ (.cons _ (.refl _)))):p:=h
theorem UV{p:Prop}(h:p:=by rcases aD with rfl | rfl<;>(unfold eqGuard;rfl)):p:=h
theorem WF{p:Prop}(h:p:=by unfold nothing ga;simp):p:=h
theorem WP{p:Prop}(h:p:=by simp[aa]):p:=h
theorem aa'{p:Prop}(h:p:=by show(_+1)*2<=_;simp only;omega):p:=h
theorem abs{p:Prop}(h:p:=by simp[he]):p:=h
theorem ab3{p:Prop}(h:p:=by simp only[cp,US,bY,binOp,run_equal_bool hu,db]):p:=h
theorem ab'{p:Prop}(h:p:=by simp[pj,binOp,Op.intArith,af]):p:=h
theorem acl{p:Prop}(h:p:=by simp only[Op.operands,Array.mem_append];grind):p:=h
theorem act{p:Prop}(h:p:=by have:=gm.bb.cap;omega):p:=h
theorem ac'{p:Prop}(h:p:=by simp only[cp,pj,bY,binOp,Op.intCmp];simp;rfl):p:=h
theorem adc{p:Prop}(h:p:=by simp only[cp,N0,bY,binOp,Op.stringOp,db,UT]):p:=h
theorem ad'{p:Prop}(h:p:=by rw[hw]at aE;cases aE):p:=h
theorem ae'{p:Prop}(h:p:=by show 8*d.aF<=_;omega):p:=h
theorem af'{p:Prop}(h:p:=by rw[T',fT];show min bl L.length*2=bl*2;omega):p:=h
theorem ag'{p:Prop}(h:p:=by rw[dK];rfl):p:=h
theorem ah'{p:Prop}(h:p:=by rw[<-fj,c2];rfl):p:=h
theorem aig{p:Prop}(h:p:=by rw[iy];exact bH):p:=h
theorem ai'{p:Prop}(h:p:=by rw[oJ];omega):p:=h
theorem aj'{p:Prop}(h:p:=by simp only at aa ad |-;omega):p:=h
theorem ak'{p:Prop}(h:p:=by rw[dK]):p:=h
theorem al'{p:Prop}(h:p:=by rw[bB];omega):p:=h
theorem am'{p:Prop}(h:p:=by rw[yP af aI]at qA;exact qA.inv.2 _ (xd vF)):p:=h
theorem an'{p:Prop}(h:p:=by simp only[qt];omega):p:=h
theorem ao'{p:Prop}(h:p:=by obtain⟨-,b,-,rfl⟩:=h;exact .tail _ ab):p:=h
theorem ap'{p:Prop}(h:p:=by cases ae):p:=h
theorem aq'{p:Prop}(h:p:=by simp only[bB];omega):p:=h
theorem arg{p:Prop}(h:p:=by show _+(rs ay t.ns[j]).length<=_;omega):p:=h
theorem ar'{p:Prop}(h:p:=by simp only[aV,bO];exact⟨[],rfl,rfl⟩):p:=h
theorem ask{p:Prop}(h:p:=by show _+2<=_;omega):p:=h
theorem as'{p:Prop}(h:p:=by rw[gX];simp;omega):p:=h
theorem at8{p:Prop}(h:p:=by show(os.n+1)*8<=_;omega):p:=h
theorem at9{p:Prop}(h:p:=by assumption):p:=h
theorem au'{p:Prop}(h:p:=by simp[aG]):p:=h
theorem av'{p:Prop}(h:p:=by rw[fP,fr,kK];rfl):p:=h
theorem aw'{p:Prop}(h:p:=by rw[lN,ah];decide):p:=h
theorem axP{p:Prop}(h:p:=by simp[execOp,ao,asBool]):p:=h
theorem axT{p:Prop}(h:p:=by show(n+1)*24<=_;omega):p:=h
theorem ax'{p:Prop}(h:p:=by unfold ga;omega):p:=h
theorem ayx{p:Prop}(h:p:=by rw[bc];exact .head _):p:=h
theorem ay6{p:Prop}(h:p:=by simp[ck.ar,ab]):p:=h
theorem ay7{p:Prop}(h:p:=by show 8*t.n<=_;omega):p:=h
theorem ay8{p:Prop}(h:p:=by simp at aa bg;omega):p:=h
theorem ay9{p:Prop}(h:p:=by simp[MapKept.IsKey]):p:=h
theorem ay'{p:Prop}(h:p:=by rw[mK];decide):p:=h
theorem aza{p:Prop}(h:p:=by rw[cn];omega):p:=h
theorem azb{p:Prop}(h:p:=by simp[maxLen]):p:=h
def bJ:=@Nat.le_of_ble_eq_true
def bY:=@Result.andThen_ok
def cC:=@Bool.and_eq_true
def cT:=@of_decide_eq_true
def ea:=@Nat.eq_of_beq_eq_true
def b0:=@List.map_cons
def gk:=@List.take_succ_eq_append_getElem
def e2:=@List.drop_eq_getElem_cons
def cR:=@List.map_append
def c1:=@List.mem_append
def cp:=@Sem.run_bind
def cc:=@Nat.le_refl
def eL:=@List.mem_singleton
def ep:=@List.length_cons
def c3:=@List.mem_map
def db:=@Sem.run_pure
def cD:=@cond_false
def er:=@List.mem_cons
def cF:=@cond_true
def iP:=@List.getElem?_eq_some_iff
def fN:=@List.all_eq_true
def iv:=@List.mem_append_left
def l4:=@Array.getElem?_eq_some_iff
def hC:=@Int.toNat_natCast
def h3:=@decide_eq_true_eq
def bS:=@if_neg
def nh:=@World.putObj_heap_other
def b2:=@if_pos
def p8:=@Array.getD_eq_getD_getElem?
def kr:=@Option.some.injEq
def lE:=@Bool.false_eq_true
def l5:=@List.getElem?_take
def kt:=@List.foldl_cons
def lF:=@Option.getD_some
def kW:=@Option.map_some
def j9:=@List.mem_range
def lG:=@List.nodup_cons
def oq:=@List.getElem?_drop
def p':=@Nat.mul_le_mul_right
def jU:=@Nat.le_trans
def r6:=@List.mem_append_right
def nj:=@Bool.or_eq_true
def r7:=@List.mem_of_getElem?
def nV:=@List.mem_filter
def ur:=@Option.map_eq_some_iff
def pf:=@Nat.min_eq_left
def s5:=@List.size_toArray
def r8:=@Bool.eq_iff_iff
def uu:=@List.nodup_append
def lH:=@Array.ext'
def pg:=@Nat.add_zero
def uv:=@Option.getD_none
def uw:=@Option.map_none
def s6:=@Oper.wpIn_mono
def A0:=@List.getElem?_toArray
def xo:=@Bool.not_eq_true'
def F1:=@Array.getElem?_setIfInBounds
def ux:=@Nat.add_assoc
def F2:=@Classical.byContradiction
def Df:=@List.range_eq_range'
def mB:=@if_false
def F3:=@List.getElem?_cons_succ
def JI:=@Option.ne_none_iff_exists'
def A1:=@Nat.lt_succ_self
def xp:=@List.all_cons
def yY:=@Bool.false_or
def A2:=@List.nodup_nil
def F4:=@List.filter_congr
def NM:=@Array.getElem?_eq_getElem
def JJ:=@Nat.lt_of_lt_of_le
def F5:=@List.mapM_cons
def r9:=@Ne.symm
def s7:=@if_true
def NN:=@Array.foldl_toList
def NO:=@Option.isSome_none
def UJ:=@Array.mapM_eq_mapM_toList
def JK:=@Oper.semAt_eq
def NP:=@List.range'_succ
def JL:=@Nat.add_comm
def JM:=@Nat.succ_mul
variable{a:Act}{c:Code}{foot:List Nat}{P:Program}{f off T sz hD e n m fZ cP ek ez g' kX l6 nk ot ph r' uy xq A3 F6:Nat}{args vs z:List Value}{v:Value}{w' w:World}{dst:Option Nat}{cs:Array Value}{an:Nat×Nat}{R:Ending->World->Prop}{next:Act->World->Prop}{aR:Addr}{gl:IntKind}{other:Prop}{ops:List Oper}{sb:Fence}{Q:Exit->Act->World->Prop}{fn:Func}{soft hg:Bool}{op:Op}{dC:Array Bool}{A:Array Oper}{ι:Type}
inductive F7 where
 |other | int (k:IntKind) | bool | string | slice (e:Nat) | array (n e:Nat) | struct (et:List (Nat×Nat)) | map (k e:Nat) | pointer (e:Nat)
 deriving DecidableEq
def fo:TypeDesc->F7
 | .int k=>.int k| .bool=>.bool| .string=>.string| .slice e=>.slice e| .array n e=>.array n e| .struct et=>.struct (et.toList.map λf=>(f.type,f.offset))| .map k e=>.map k e| .pointer e=>.pointer e| _=>.other
def F7.agg:F7->Bool
 | .struct _ | .array ..=>true| _=>false
structure dH where
 size:Nat
 bytes:Nat
 zero:List Value
 bL:F7
structure j'(P:Program)(t:Nat)(i:dH):Prop where
 inf:∃ inf z,P.info? t=some inf/\inf.size=i.size/\inf.bytes=i.bytes/\inf.zero=some z/\z.cells.toList=i.zero
 fp:∃ d,P.underlying t=some d/\fo d=i.bL
 one:∀ v∈i.zero,v.oneCell'=true
 len:i.zero.length=i.size
 JN:i.bL.agg=false->i.size=1
abbrev Env:=Nat->Option dH
def cU(P:Program)(E:Env):Prop:=∀ t i,E t=some i->j' P t i
inductive dx where
 |val(v:Value)| lit (b:Bool)| ref (s off:Nat)| nl
abbrev Fr:=Nat->dx
abbrev de:=Nat->Option (List Value)
abbrev aH:=Nat->Option Obj
structure aA where
 num:Nat
 obj:Obj
abbrev fz:=Fr->de->aH->List aA->Prop
def gS(F:Fr)(d:Nat)(x:dx):Fr:=λt=>bif Nat.beq t d then x else F t
def jl(C:de)(d:Nat)(x:Option (List Value)):de:=λt=>bif Nat.beq t d then x else C t
def qa(F:Fr)(d:Nat):Fr:=λt=>match F t with
 | .ref s o=>bif Nat.beq s d then .nl else .ref s o| x=>x
def put(o:Option Nat)(x:dx)(F:Fr):Fr:=match o with
 |some d=>gS F d x| none=>F
def dr(F:Fr):Operand->dx
 | .tmp t=>F t| .const (.bool b)=>.lit b| .const v=>.val v| .global g=>.val (.pointer (some ⟨g,0,none⟩))| .func f=>.val (.func (.func f) #[] #[])
def dz(ρ:Operand->dx)(x:Operand):dx:=match ρ x with
 | .lit b=>.val (.bool b)| y=>y
abbrev bG(F:Fr):Operand->dx:=dz (dr F)
def pack(agg:Bool)(vs:List Value):Value:=bif agg then .agg vs.toArray else vs.headD undef
def cd(cs:List Value)(off:Nat)(vs:List Value):List Value:=cs.take off++vs++cs.drop (off+vs.length)
def fH(vs:List Value):Bool:=vs.all (·.oneCell')
def JO(c:Bool):dx->dx->dx
 | .val (.bool x),.val (.bool y)=>.val (.bool (bif c then x else y))| .val x,.val y=>.val (bif c then x else y)| _,_=>.nl
def NQ(op:BinOp)(x y:Int):Option Bool:=match op with
 | .eql=>some (decide (x=y))| .neq=>some (!decide (x=y))| .lss=>some (decide (x<y))| .leq=>some (decide (x<=y))| .gtr=>some (decide (y<x))| .geq=>some (decide (y<=x))| _=>none
def A4(op:BinOp)(k:IntKind)(x y:Int):Option Int:=
 let a:=BitVec.ofInt k.bits x
 let b:=BitVec.ofInt k.bits y
 match op with
 | .and=>some (k.wrap (a &&& b).toNat)| .or=>some (k.wrap (a ||| b).toNat)| .xor=>some (k.wrap (a ^^^ b).toNat)| .andNot=>some (k.wrap (a &&& ~~~b).toNat)| _=>none
def h4(I:aH)(M:List aA)(b:Nat)(o:Obj):Prop:=I b=some o\/∃ x∈M,x.num=b/\x.obj=o
def c6(I:aH)(M:List aA)(a:Addr)(n:Nat)(vs:List Value):Prop:=
 a.spot=none/\∃ cs T an,h4 I M a.block (.cells cs T an)/\(cs.toList.drop a.off).take n=vs/\vs.length=n
inductive aU(I:aH)(M:List aA)(a:Addr)(n:Nat)(K:List Value->Prop):Prop
 |mk(vs:List Value)(h:c6 I M a n vs)(k:K vs)
inductive b4(M:List aA)(a:Addr)(vs:List Value)(K:List aA->Prop):Prop
 |mk(a9 post:List aA)(cs:Array Value)(T:Nat)(bc:M=a9++⟨a.block,.cells cs T (0,0)⟩::post)(av:a.spot=none)(ag:a.off+vs.length<=cs.size)(aa:fH vs=true)(k:K (a9++⟨a.block,.cells (cd cs.toList a.off vs).toArray T (0,0)⟩::post))
inductive bQ(I:aH)(M:List aA)(K:Nat->Prop):Prop
 |mk(k:∀ b,I b=none->(∀ x∈M,x.num≠b)->K b)
inductive bt(a:Option Addr)(n sz:Nat)(k:Int)(K:Addr->Prop):Prop
 |mk(aR:Addr)(j:Nat)(a7:a=some aR)(ae:k=(j:Int))(ah:j<n)(h:K (aR.add (j*sz)))
inductive cw(n:Nat)(k:Int)(K:Nat->Prop):Prop
 |mk(j:Nat)(ae:k=(j:Int))(ah:j<n)(h:K j)
inductive s8(s:ByteArray)(k:Int)(K:UInt8->Prop):Prop
 |mk(j:Nat)(ae:k=(j:Int))(ah:j<s.size)(h:K s[j])
inductive be(k:IntKind)(n:Int)(K:Int->Prop):Prop
 |mk(r:Int)(h:k.wrap n=r)(bd:K r)
inductive xr(y:Int)(K:Prop):Prop
 |mk(h:y≠0)(bd:K)
inductive sc(y:Int)(K:Nat->Prop):Prop
 |mk(j:Nat)(h:y=(j:Int))(bd:K j)
inductive aZ(c:Bool)(X Y:Prop):Prop
 |mk(h:c=true->X)(bd:c=false->Y)
inductive pi(l c:Int)(bytes:Nat)(K:Nat->Nat->Prop):Prop
 |mk(n m:Nat)(az:l=(n:Int))(ao:c=(m:Int))(h:n<=m)(ag:bytes*m<=140737488355328)(hm:m<=9223372036854775807)(k:K n m)
inductive NR(c:Nat)(hi mx:Int)(K:Nat->Nat->Prop):Prop
 |mk(h m:Nat)(gB:hi=(h:Int))(ih:mx=(m:Int))(aa:h<=m)(ad:m<=c)(k:K h m)
inductive kY(n c:Nat)(lo hi:Option Int)(K:Nat->Nat->Prop):Prop
 |mk(l h:Nat)(fg:lo.getD 0=(l:Int))(gB:hi.getD n=(h:Int))(aa:l<=h)(ad:h<=c)(k:K l h)
structure eJ(I:aH)(M:List aA)(w:World):Prop where
 i:∀ b o,I b=some o->w.heap[b]?=some o
 m:∀ x∈M,w.heap[x.num]?=some x.obj
 d:∀ x∈M,I x.num=none
 cu:(M.map (·.num)).Nodup
def ou(w w':World):Prop:=w'.os=w.os/\w'.output=w.output
def ou.refl(w:World):ou w w:=⟨rfl,rfl⟩
def ou.trans{a b c:World}(h:ou a b)(bd:ou b c):ou a c:=⟨bd.1.trans h.1,bd.2.trans h.2⟩
structure Kept(I:aH)(M:List aA)(w:World)(I':aH)(M':List aA)(w':World):Prop where
 le:∀ b o,I b=some o->I' b=some o
 uz:∀ b o,I' b=some o->I b=some o\/w.heap.size<=b
 vU:∀ x∈M',(∃ y∈M,y.num=x.num)\/w.heap.size<=x.num
 dI:∀ b,b<w.heap.size->(∀ y∈M,y.num≠b)->w'.heap[b]?=w.heap[b]?
 out:ou w w'
 sz:w.heap.size<=w'.heap.size
def NS(P:Program)(f:Nat):Prop:=∀ (args:Array Value) (w:World),(callFunc f args).run P w=.ok (.enter f args) w
def vV(P:Program)(f:Nat)(args:List Value)(I:aH)(M:List aA)(post:Value->aH->List aA->Prop):Prop:=
 NS P f/\∀ w,eJ I M w->Calls P f args.toArray w λe w'=>∃ v I' M',e=.returned v/\post v I' M'/\eJ I' M' w'/\Kept I M w I' M' w'
def agx(P:Program)(f:Nat)(args:List Value)(I:aH)(M:List aA)(post:Value->aH->List aA->Prop):Prop:=
 ∀ w,eJ I M w->∃ v w' I' M',(callFunc f args.toArray).run P w=.ok (.value v) w'/\post v I' M'/\eJ I' M' w'/\Kept I M w I' M' w'
def Spec(P:Program)(f:Nat)(args:List Value)(I:aH)(M:List aA)(post:Value->aH->List aA->Prop):Prop:=vV P f args I M post\/agx P f args I M post
def ins(I:aH)(b:Nat)(o:Obj):aH:=λx=>bif Nat.beq x b then some o else I x
inductive hS(foot:List Nat):aH->List aA->aH->List aA->Prop
 |refl{I M}:hS foot I M I M| sub {I M M1 I' M'} (h:List.Sublist M1 M) (k:hS foot I M1 I' M'):hS foot I M I' M'| perm {I M M1 I' M'} (h:M.Perm M1) (k:hS foot I M1 I' M'):hS foot I M I' M'| kZ {I M I' M' b o post} (h:M=⟨b,o⟩::post) (aE:b ∉ foot) (k:hS foot (ins I b o) post I' M'):hS foot I M I' M'
structure l7(I:aH)(M:List aA):Prop where
 d:∀ x∈M,I x.num=none
 cu:(M.map (·.num)).Nodup
inductive a8(foot:List Nat)(P:Program)(f:Nat)(args:List Value)(I:aH)(M:List aA)(K:Value->aH->List aA->Prop):Prop
 |mk(eA Mr:List aA)(post:Value->aH->List aA->Prop)(bc:M.Perm (eA++Mr))(av:Spec P f args I eA post)(k:∀ v I' M',(∀ b o,I b=some o->I' b=some o)->post v I' M'->K v I' (M'++Mr))| Dg (eA Mr:List aA) (post:Value->aH->List aA->Prop) (bc:M.Perm (eA++Mr)) (av:Spec P f args I eA post) (k:∀ v I' M',(∀ b o,I b=some o->I' b=some o)->(∀ x∈M'++Mr,I' x.num=none)->post v I' M'->K v I' (M'++Mr))| sd (I1:aH) (eA Mr:List aA) (post:Value->aH->List aA->Prop) (hw:hS foot I M I1 (eA++Mr)) (av:Spec P f args I1 eA post) (k:∀ v I' M',(∀ b o,I1 b=some o->I' b=some o)->(∀ x∈M'++Mr,I' x.num=none)->post v I' M'->K v I' (M'++Mr))| vW (h:l7 I M->a8 foot P f args I M K)
def a8.elim{I:aH}{M:List aA}{K:Value->aH->List aA->Prop}(eY:l7 I M)(h:a8 foot P f args I M K) :
  ∃ (I1:aH) (eA Mr:List aA) (post:Value->aH->List aA->Prop),hS foot I M I1 (eA++Mr)/\Spec P f args I1 eA post/\∀ v I' M',(∀ b o,I1 b=some o->I' b=some o)->(∀ x∈M'++Mr,I' x.num=none)->post v I' M'->K v I' (M'++Mr):=by
 induction h with
 |mk eA Mr post bc av k=>exact⟨I,eA,Mr,post,.perm bc .refl,av,λv I' M' aa _ ad=>k v I' M' aa ad⟩| Dg eA Mr post bc av k=>exact⟨I,eA,Mr,post,.perm bc .refl,av,k⟩| sd I1 eA Mr post hw av k=>exact⟨I1,eA,Mr,post,hw,av,k⟩| vW h aQ=>exact aQ eY
structure cN where
 P:Program
 E:Env
 gC:List Nat
 n:Nat
 B:Nat
 ax:World
 dA:aH
 foot:List Nat
 ro:Option Nat
def g2(X:cN):Fence:={ Fence.wide with round:=X.ro }
def e9(β:Nat->Nat):dx->Value->Prop
 | .val v,u=>u=v| .lit b,u=>u=.bool b| .ref s off,u=>u=.pointer (some ⟨β s,off,none⟩)| .nl,_=>True
structure xt(X:cN)(w:World)(I:aH)(M:List aA)(b:Nat)(cs:List Value):Prop where
 bl:∃ T,w.heap[b]?=some (.cells cs.toArray T (0,0))
 dJ:X.B<=b
 jV:I b=none
 e3:∀ x∈M,x.num≠b
structure vX(X:cN)(w:World)(I:aH)(M:List aA)(r:Nat):Prop where
 bl:w.heap[r]?=some (.deferred (some []))
 dJ:X.B<=r
 jV:I r=none
 e3:∀ x∈M,x.num≠r
def xu(r:Nat):Deferred:={ target:=.collected r,args:=#[] }
def Marks(X:cN)(a:Act)(w:World)(I:aH)(M:List aA):Prop:=∃ bb:List Nat,a.defers=bb.map xu/\bb.Nodup/\∀ r∈bb,vX X w I M r
structure cM(X:cN)(β:Nat->Nat)(a:Act)(w:World)(F:Fr)(C:de)(I:aH)(M:List aA):Prop where
 size:a.tmps.size=X.n
 defers:Marks X a w I M
 holds:eJ I M w
 an:∀ t,e9 β (F t) (a.tmps.getD t undef)
 cm:∀ s cs,C s=some cs->xt X w I M (β s) cs
 inj:∀ s cq,C s≠none->C cq≠none->β s=β cq->s=cq
 h5:∀ b o,X.dA b=some o->I b=some o
 hE:∀ b o,I b=some o->X.dA b=some o\/X.B<=b
 own:∀ x∈M,x.num∈X.foot\/X.B<=x.num
 dI:∀ b,b<X.B->b ∉ X.foot->w.heap[b]?=X.ax.heap[b]?
 out:ou X.ax w
 sz:X.B<=w.heap.size
 fA:∀ x∈X.foot,x<X.B
def Rel(X:cN)(a:Act)(w:World)(F:Fr)(C:de)(I:aH)(M:List aA):Prop:=∃ β,cM X β a w F C I M
def Sat(X:cN)(K:fz)(a:Act)(w:World):Prop:=∃ F C I M,Rel X a w F C I M/\K F C I M
inductive bC(X:cN)(o:Oper)(F:Fr)(C:de)(I:aH)(M:List aA)(K:fz):Prop
 |mk(h:∀ a w Q,Rel X a w F C I M->o.wpIn (g2 X) 0 X.P a w (Sat X K) Q)
def jW(ρ:Operand->dx):List Operand->Option (List Value)
 |[]=>some []
 |x::xs=>match dz ρ x,jW ρ xs with
  | .val v,some vs=>some (v::vs)| _,_=>none
abbrev mC(F:Fr):List Operand->Option (List Value):=jW (dr F)
def qY(place:Nat->Option (Nat×Nat))(cells:List Value):List (Nat×Value)->Option (List Value)
 |[]=>some cells
 |(i,v)::bm=>match place i with
  |none=>none| some (off,size)=>bif Nat.beq v.cells.size size&&Nat.ble (off+size) cells.length then qY place (cd cells off v.cells.toList) bm else none
def s9(ρ:Operand->dx):List (Nat×Operand)->Option (List (Nat×Value))
 |[]=>some []
 |(i,x)::xs=>match dz ρ x,s9 ρ xs with
  | .val v,some vs=>some ((i,v)::vs)| _,_=>none
abbrev xv(F:Fr):List (Nat×Operand)->Option (List (Nat×Value)):=s9 (dr F)
def places(E:Env)(et:List (Nat×Nat))(i:Nat):Option (Nat×Nat):=match et[i]? with
 |some (fA,off)=>match E fA with
  |some iw=>some (off,iw.size)| none=>none
 |none=>none
def F8(E:Env)(et:List (Nat×Nat)):Bool:=et.all λf=>(E f.1).isSome
def rowOf(zero:List Value)(n:Nat):List Value:=(List.range n).map λi=>zero[i%zero.length]!
def s'(zero:List Value)(n:Nat):rowOf zero n=(madeCells zero.toArray n).toList:=by simp[rowOf,madeCells]
def IntKind.lI:IntKind->IntKind->Bool
 | .i8,.i8 | .i16,.i16 | .i32,.i32 | .i64,.i64 | .u8,.u8 | .u16,.u16 | .u32,.u32 | .u64,.u64=>true| _,_=>false
def lJ(op:BinOp)(cS:Option dH)(x y:dx)(K:Value->Prop)(other:Prop):Prop:=
 match x,y with
 | .val (.int k a),.val (.int e4 b)=>
  match op with
  | .shl=>sc b λj=>be k (a*2^(min j k.bits)) λr=>K (.int k r)
  | .shr=>sc b λj=>K (.int k (a.fdiv (2^(min j k.bits))))
  |op=>bif IntKind.lI k e4 then
    (match op with
    | .add=>be k (a+b) λr=>K (.int k r)
    | .sub=>be k (a-b) λr=>K (.int k r)
    | .mul=>be k (a*b) λr=>K (.int k r)
    | .quo=>xr b (be k (a.tdiv b) λr=>K (.int k r))| .rem=>xr b (K (.int k (a.tmod b)))
    | .and | .or | .xor | .andNot=>(match A4 op k a b with
     |some r=>K (.int k r)| none=>False)
    |op=>(match NQ op a b with
     |some r=>K (.bool r)| none=>False))
   else False
 | .val (.string a),.val (.string b)=>
  match op with
  | .eql=>K (.bool (decide (a=b)))| .neq=>K (.bool (!decide (a=b)))| _=>other
 | .val (.bool a),.val (.bool b)=>
  match cS with
  |some { bL:=.bool,.. }=>
   (match op with
   | .eql=>K (.bool (a == b))| .neq=>K (.bool (!(a == b)))| _=>other)
  |_=>other
 |_,_=>other
inductive fL(P:Program)(op:BinOp)(t:Nat)(x y:Operand)(p q:dx)(K:Value->Prop)(other:Prop):Prop
 |mk(mD f' v:Value)(aI:p=.val mD)(aO:q=.val f')(h:∀ w,(do eqGuard op t x y mD f';binOp op t mD f':Sem Value).run P w=.ok v w)(k:K v)| other (h:other)
def cK(X:cN)(op:Op)(ρ:Operand->dx)(C:de)(I:aH)(M:List aA)(V:dx->Prop)(other:Prop):Prop:=
 match op with
 | .move x | .assign x=>V (ρ x)
 | .pick c a b=>
  match ρ c with
  | .lit c=>V (bif c then ρ a else ρ b)| .val (.bool c)=>V (JO c (dz ρ a) (dz ρ b))| _=>False
 | .unOp op _ x=>
  match op,ρ x with
  | .not,.lit b=>V (.lit (!b))| .not,.val (.bool b)=>V (.val (.bool (!b)))| .neg,.val (.int k n)=>be k (0-n) λr=>V (.val (.int k r))
  |_,_=>other
 | .binOp op t x y _=>lJ op (X.E t) (dz ρ x) (dz ρ y) (λv=>V (.val v)) (fL X.P op t x y (dz ρ x) (dz ρ y) (λv=>V (.val v)) other)
 | .load t x=>
  match X.E t with
  |some i=>
   (match ρ x with
   | .ref s off=>
    (match C s with
    |some cs=>bif Nat.ble (off+i.size) cs.length then V (.val (pack i.bL.agg ((cs.drop off).take i.size)))else False| none=>False)
   | .val (.pointer (some a))=>aU I M a i.size λvs=>V (.val (pack i.bL.agg vs))
   |_=>False)
  |none=>False
 | .nilCheck x=>
  match ρ x with
  | .ref s off=>V (.ref s off)| .val (.pointer (some a))=>V (.val (.pointer (some a)))| _=>other
 | .fieldAddr t x i=>
  match X.E t with
  |some { bL:=.struct et,.. }=>
   (match et[i]? with
   |some (fA,off)=>
    (match X.E fA,ρ x with
    |some iw,.ref s o'=>bif Nat.beq iw.size 0 then False else V (.ref s (o'+off))| some iw,.val (.pointer (some a))=>bif Nat.beq iw.size 0 then False else V (.val (.pointer (some (a.add off))))| _,_=>False)
   |none=>False)
  |_=>False
 | .field t x i=>
  match X.E t,dz ρ x with
  |some { bL:=.struct et,.. },.val (.agg cs)=>
   (match et[i]? with
   |some (fA,off)=>
    (match X.E fA with
    |some iw=>bif Nat.ble (off+iw.size) cs.size then V (.val (pack iw.bL.agg ((cs.toList.drop off).take iw.size)))else False| none=>False)
   |none=>False)
  |_,_=>False
 | .indexAddr t x i=>
  match X.E t,dz ρ i with
  |some { bL:=.slice e,.. },.val (.int _ k)=>
   (match X.E e,dz ρ x with
   |some aB,.val (.slice a n _)=>bt a n aB.size k λaR=>V (.val (.pointer (some aR)))
   |_,_=>False)
  |some { bL:=.array n e,.. },.val (.int _ k)=>
   (match X.E e,ρ x with
   |some aB,.ref s o'=>cw n k λj=>V (.ref s (o'+j*aB.size))
   |some aB,.val (.pointer (some a))=>cw n k λj=>V (.val (.pointer (some (a.add (j*aB.size)))))
   |_,_=>False)
  |_,_=>False
 | .index t x i=>
  match X.E t,dz ρ x,dz ρ i with
  |some { bL:=.string,.. },.val (.string s),.val (.int _ k)=>s8 s k λb=>V (.val (.int .u8 b.toNat))
  |some { bL:=.array n e,.. },.val (.agg cs),.val (.int _ k)=>
   (match X.E e with
   |some aB=>bif Nat.beq (n*aB.size) cs.size then cw n k λj=>V (.val (pack aB.bL.agg ((cs.toList.drop (j*aB.size)).take aB.size)))else False
   |none=>False)
  |_,_,_=>False
 | .build t parts=>
  match X.E t,s9 ρ parts.toList with
  |some i,some vs=>
   (match i.bL with
   | .struct et=>bif F8 X.E et then(match qY (places X.E et) i.zero vs with
    |some cells=>V (.val (.agg cells.toArray))| none=>False)else False
   | .array _ e=>(match X.E e with
    |some aB=>(match qY (λj=>some (j*aB.size,aB.size)) i.zero vs with
     |some cells=>V (.val (.agg cells.toArray))| none=>False)
    |none=>False)
   |_=>False)
  |_,_=>False
 | .makeFunc fn first captured=>
  match jW ρ first.toList,jW ρ captured.toList with
  |some et,some cs=>V (.val (.func fn et.toArray cs.toArray))| _,_=>False
 | .slice t x lo hi mx=>
  match X.E t,dz ρ x,mx.map (dz ρ)with
  |some { bL:=.slice e,.. },.val (.slice a n c),none=>
   (match X.E e,lo.map (dz ρ),hi.map (dz ρ)with
   |some aB,none,none=>V (.val (.slice a n c))| some aB,none,some (.val (.int _ h))=>kY n c none (some h) λ_ h=>V (.val (.slice a h c))
   |some aB,some (.val (.int _ l)),none=>kY n n (some l) none λl _=>V (.val (.slice (if c=l then a else a.map (·.add (l*aB.size))) (n-l) (c-l)))
   |some aB,some (.val (.int _ l)),some (.val (.int _ h))=>kY n c (some l) (some h) λl h=>V (.val (.slice (if c=l then a else a.map (·.add (l*aB.size))) (h-l) (c-l)))
   |_,_,_=>False)
  |some { bL:=.string,.. },.val (.string s),none=>
   (match lo.map (dz ρ),hi.map (dz ρ)with
   |none,none=>V (.val (.string s))| none,some (.val (.int _ h))=>kY s.size s.size none (some h) λ_ h=>V (.val (.string (s.extract 0 h)))
   |some (.val (.int _ l)),none=>kY s.size s.size (some l) none λl _=>V (.val (.string (s.extract l s.size)))
   |some (.val (.int _ l)),some (.val (.int _ h))=>kY s.size s.size (some l) (some h) λl h=>V (.val (.string (s.extract l h)))
   |_,_=>False)
  |some { bL:=.slice e,.. },.val (.slice a _ c),some (.val (.int _ m))=>
   (match X.E e,lo.map (dz ρ),hi.map (dz ρ)with
   |some aB,none,some (.val (.int _ h))=>NR c h m λh m=>V (.val (.slice (if m=0 then a else a.map (·.add (0*aB.size))) (h-0) (m-0)))
   |_,_,_=>other)
  |_,_,_=>other
 | .extract x i=>
  match dz ρ x with
  | .val (.tuple vs)=>(match vs.toList[i]? with
   |some v=>V (.val v)| none=>False)
  |_=>False
 | .convert s d x=>
  match X.E s,X.E d,dz ρ x with
  |some _,some { bL:=.int k,.. },.val (.int _ n)=>be k n λr=>V (.val (.int k r))
  |_,_,_=>other
 | .call { callee:=.builtin .len,args,argTypes }=>
  match argTypes.toList,jW ρ args.toList with
  |[t],some [v]=>
   (match X.E t,v with
   |some { bL:=.slice _,.. },.slice _ n _=>V (.val (.int .i64 n))| some { bL:=.string,.. },.string s=>V (.val (.int .i64 s.size))| some { bL:=.array n _,.. },_=>V (.val (.int .i64 n))| _,_=>other)
  |_,_=>other
 | .call { callee:=.builtin .cap,args,argTypes }=>
  match argTypes.toList,jW ρ args.toList with
  |[t],some [v]=>
   (match X.E t,v with
   |some { bL:=.slice _,.. },.slice _ _ c=>V (.val (.int .i64 c))| _,_=>other)
  |_,_=>other
 | .call { callee:=.builtin .max,args,.. }=>
  match jW ρ args.toList with
  |some [.int k a,.int _ b]=>V (.val (.int k (max a b)))| _=>other
 | .call { callee:=.builtin .min,args,.. }=>
  match jW ρ args.toList with
  |some [.int k a,.int _ b]=>V (.val (.int k (min a b)))| _=>other
 | .call { callee:=.builtin .unsafeSliceData,args,.. }=>
  match jW ρ args.toList with
  |some [.slice none _ _]=>V (.val (.pointer none))| some [.slice (some a) _ c]=>xr c (V (.val (.pointer (some a))))| _=>other
 |_=>other
def gb(X:cN)(o:Oper)(F:Fr)(C:de)(I:aH)(M:List aA)(K:fz):Prop:=
 match o.op with
 | .box t x=>
  match o.dst,bG F x with
  |some d,.val v=>
   bif X.gC.contains d then bQ I M λb=>K (gS (qa F d) d (.val (.pointer (some ⟨b,0,none⟩)))) (jl C d none) I (⟨b,.cells v.cells t (0,0)⟩::M)
   else K (gS (qa F d) d (.ref d 0)) (jl C d (some v.cells.toList)) I M
  |_,_=>False
 | .alloc t=>
  match o.dst,X.E t with
  |some d,some i=>
   bif X.gC.contains d then bQ I M λb=>K (gS (qa F d) d (.val (.pointer (some ⟨b,0,none⟩)))) (jl C d none) I (⟨b,.cells i.zero.toArray t (0,0)⟩::M)
   else K (gS (qa F d) d (.ref d 0)) (jl C d (some i.zero)) I M
  |_,_=>False
 | .store t x y=>
  match o.dst,X.E t,bG F y with
  |none,some i,.val v=>
   (match dr F x with
   | .ref s off=>
    (match C s with
    |some cs=>bif Nat.ble (off+i.size) cs.length&&(Nat.beq v.cells.size i.size&&fH v.cells.toList)then K F (jl C s (some (cd cs off v.cells.toList))) I M else False| none=>False)
   | .val (.pointer (some a))=>bif Nat.beq v.cells.size i.size then b4 M a v.cells.toList λM'=>K F C I M' else False
   |_=>False)
  |_,_,_=>False
 | .buildSlice t len parts=>
  match X.E t,xv F parts.toList with
  |some { bL:=.slice e,.. },some vs=>
   (match X.E e with
   |some aB=>
    bif Nat.ble (len*aB.size) 16777216&&Nat.blt 0 (len*aB.size)then
     (match qY (λj=>some (j*aB.size,aB.size)) (rowOf aB.zero (len*aB.size)) vs with
     |some cells=>bQ I M λb=>K (put o.dst (.val (.slice (some ⟨b,0,none⟩) len len)) F) C I (⟨b,.cells cells.toArray e (0,0)⟩::M)
     |none=>False)
    else(match len,vs with
     |0,[]=>bQ I M λb=>K (put o.dst (.val (.slice (some ⟨b,0,none⟩) 0 0)) F) C I (⟨b,.cells #[] e (0,0)⟩::M)
     |_,_=>False)
   |none=>False)
  |_,_=>False
 | .makeSlice t l c=>
  match X.E t,bG F l,bG F c with
  |some { bL:=.slice e,.. },.val (.int _ l),.val (.int _ c)=>
   (match X.E e with
   |some aB=>pi l c aB.bytes λn m=>bQ I M λb=>K (put o.dst (.val (.slice (some ⟨b,0,none⟩) n m)) F) C I (⟨b,.cells (rowOf aB.zero (m*aB.size)).toArray e (0,0)⟩::M)
   |none=>False)
  |_,_,_=>False
 | .call { callee:=.value f,args,.. }=>
  match bG F f,mC F args.toList with
  | .val (.func (.func g) first cap),some vs=>a8 X.foot X.P g (first.toList++vs++cap.toList) I M λv I' M'=>K (put o.dst (.val v) F) C I' M'
  |_,_=>bC X o F C I M K
 |op=>cK X op (dr F) C I M (λx=>K (put o.dst x F) C I M) (bC X o F C I M K)
inductive b5(c b:Bool)(Y N:Prop):Prop
 |mk(h:c=b->Y)(bd:c=!b->N)
def nW(X:cN)(ops:List Oper):List Oper->Fr->de->aH->List aA->fz->Prop
 |[],F,C,I,M,K=>K F C I M
 |o::bm,F,C,I,M,K=>
  match o.guard with
  |none=>gb X o F C I M λF C I M=>nW X ops bm F C I M K
  |some (j,b)=>
   match(ops[j]?).bind (·.dst)with
   |none=>False
   |some d=>
    match F d with
    | .lit c=>bif c == b then gb X o F C I M λF C I M=>nW X ops bm F C I M K else nW X ops bm (put o.dst (.val undef) F) C I M K
    | .val (.bool c)=>b5 c b (gb X o (gS F d (.lit b)) C I M λF C I M=>nW X ops bm F C I M K) (nW X ops bm (put o.dst (.val undef) (gS F d (.lit !b))) C I M K)| .val (.tuple _)=>nW X ops bm (put o.dst (.val undef) F) C I M K| _=>False
def hF{a b:Nat}(h:¬ a=b):Nat.beq a b=false:=by
 cases ag:Nat.beq a b with
 |false=>rfl| true=>exact absurd (ea ag) h
def ta(a:Nat):Nat.beq a a=true:=Nat.beq_refl a
def F9(w:World)(o:Obj){i:Nat}(h:i<w.heap.size):(w.alloc o).heap[i]?=w.heap[i]?:=by show(w.heap.push o)[i]?=_;simp[Array.getElem?_push,Nat.ne_of_lt h]
def NT(w:World)(o:Obj):(w.alloc o).heap[w.heap.size]?=some o:=by show(w.heap.push o)[w.heap.size]?=_;simp
section
variable{X:cN}{β:Nat->Nat}{a:Act}{w:World}{F:Fr}{C:de}{I:aH}{M:List aA}{o:Oper}{Q:Exit->Act->World->Prop}{next:Act->World->Prop}{K:fz}
def xw(h:∀ t,e9 β (F t) (a.tmps.getD t undef))(x:Operand):e9 β (dr F x) (a.eval x):=by
 cases x with
 |tmp t=>exact h t| const v=>cases v<;>exact rfl
 |global g=>exact rfl| func f=>exact rfl
def df(h:∀ t,e9 β (F t) (a.tmps.getD t undef)){x:Operand}(ab:bG F x=.val v):a.eval x=v:=by
 have aa:=xw h x;unfold bG dz at ab;split at ab
 ·rename_i b ag;rw[ag]at aa;cases ab;exact aa
 ·rw[ab]at aa;exact aa
def uA(h:∀ t,e9 β (F t) (a.tmps.getD t undef)){x:Operand}(ab:dr F x=.val v):a.eval x=v:=by have aa:=xw h x;rw[ab]at aa;exact aa
def NU(h:∀ t,e9 β (F t) (a.tmps.getD t undef)){x:Operand}{b:Bool}(ab:dr F x=.lit b):a.eval x=.bool b:=by have aa:=xw h x;rw[ab]at aa;exact aa
def A5(h:∀ t,e9 β (F t) (a.tmps.getD t undef)){x:Operand}{s:Nat}(ab:dr F x=.ref s off):a.eval x=.pointer (some ⟨β s,off,none⟩):=by have aa:=xw h x;rw[ab]at aa;exact aa
def UK(h:∀ t,e9 β (F t) (a.tmps.getD t undef))(x:Operand):e9 β (bG F x) (a.eval x):=by
 have aa:=xw h x;unfold bG dz;split
 ·rename_i b ag;rw[ag]at aa;exact aa
 ·exact aa
def tb(h:∀ t,e9 β (F t) (a.tmps.getD t undef)):∀ {xs:List Operand} {vs:List Value},mC F xs=some vs->xs.map a.eval=vs
 |[],vs,ab=>by simp[mC,jW]at ab;simp[ab]
 |x::xs,vs,ab=>by
  unfold mC jW at ab;split at ab;·rename_i v tc aa ad;cases ab;simp[df h aa,tb h ad]
  ·cases ab
def JP(h:∀ t,e9 β (F t) (a.tmps.getD t undef)):∀ {xs:List (Nat×Operand)} {vs:List (Nat×Value)},xv F xs=some vs->(xs.map λ(i,x)=>(i,a.eval x))=vs
 |[],vs,ab=>by simp[xv,s9]at ab;simp[ab]
 |(i,x)::xs,vs,ab=>by
  unfold xv s9 at ab;split at ab;·rename_i v tc aa ad;cases ab;simp[df h aa,JP h ad]
  ·cases ab
def ix(b':∀ c,o.op≠.defer c)(h:(execOp a.eval o).run X.P w=.ok (.value v) w')(ae:next (a.put o.dst v) w'):o.wpIn (g2 X) 0 X.P a w next Q:=
 ⟨λ_ _=>trivial,by rw[JK _ _ _ b',h];exact ae⟩
def Dh(b':∀ c,o.op≠.defer c)(h:(execOp a.eval o).run X.P w=.ok .skip w')(ae:next (a.put o.dst undef) w'):o.wpIn (g2 X) 0 X.P a w next Q:=
 ⟨λ_ _=>trivial,by rw[JK _ _ _ b',h];exact ae⟩
def UL(a:Act)(d t:Nat)(v:Value)(ai:d<a.tmps.size):(a.put (some d) v).tmps.getD t undef=if t=d then v else a.tmps.getD t undef:=by
 simp only[Act.put,p8,F1];by_cases h:t=d
 ·subst h;simp[ai]
 ·simp[h,r9 h]
def NV(h:∀ t,e9 β (F t) (a.tmps.getD t undef)){d:Nat}{x:dx}(ai:d<a.tmps.size)(ab:e9 β x v)(t:Nat):e9 β (gS F d x t) ((a.put (some d) v).tmps.getD t undef):=by
 rw[UL a d t v ai];unfold gS;by_cases aa:t=d
 ·subst aa;simp only[ta,cF,s7];exact ab
 ·have:Nat.beq t d=false:=hF aa;simp only[this,cD,bS aa];exact h t
def UM(w:World)(g:Nat)(cs:Array Value):ou w (w.setRow g cs):=by
 unfold World.setRow
 first | exact⟨rfl,rfl⟩ | (split<;>exact⟨rfl,rfl⟩)
def JQ(w:World)(g:Nat)(o:Obj):ou w (w.putObj g o):=by unfold World.putObj;exact⟨rfl,rfl⟩
def Marks.mono(h:Marks X a w I M){I':aH}{M':List aA}(hm:∀ r,vX X w I M r->vX X w' I' M' r):Marks X a w' I' M':=by obtain⟨bb,aa,ad,aj⟩:=h;exact⟨bb,aa,ad,λr af=>hm r (aj r af)⟩
def cM.put(h:cM X β a w F C I M)(ai:∀ d,dst=some d->d<X.n){x:dx}(ab:e9 β x v):cM X β (a.put dst v) w (put dst x F) C I M:=by
 cases dst with
 |none=>exact h
 |some d=>
  refine { h with size:=?_,defers:=h.defers,an:=?_ };·simp[Act.put,h.size]
  ·exact NV h.an (by rw[h.size];exact ai d rfl) ab
def eJ.heap(h:eJ I M w)(dg:w'.heap=w.heap):eJ I M w':=
 { i:=by rw[dg];exact h.i,m:=by rw[dg];exact h.m,d:=h.d,cu:=h.cu }
def cM.world(h:cM X β a w F C I M)(dg:w'.heap=w.heap)(aD:ou w w':=by exact⟨rfl,rfl⟩):cM X β a w' F C I M:=
 { h with
  holds:={ i:=by rw[dg];exact h.holds.i,m:=by rw[dg];exact h.holds.m,d:=h.holds.d,cu:=h.holds.cu }
  defers:=h.defers.mono λr af=>{ af with bl:=by rw[dg];exact af.bl }
  cm:=λs cs av=>{ h.cm s cs av with bl:=by rw[dg];exact(h.cm s cs av).bl }
  dI:=by rw[dg];exact h.dI
  out:=h.out.trans aD
  sz:=by rw[dg];exact h.sz }
def eJ.alloc(h:eJ I M w)(o:Obj):eJ I M (w.alloc o) where
 i b x ag:=by have aa:=h.i b x ag;rw[F9 w o (l4.1 aa).1];exact aa
 m x ab:=by have aa:=h.m x ab;rw[F9 w o (l4.1 aa).1];exact aa
 d:=h.d
 cu:=h.cu
def eJ.lt(h:eJ I M w){x:aA}(ab:x∈M):x.num<w.heap.size:=(l4.1 (h.m x ab)).1
def eJ.Di(h:eJ I M w){b:Nat}{o:Obj}(ag:I b=some o):b<w.heap.size:=(l4.1 (h.i b o ag)).1
def eJ.se(h:eJ I M w):I w.heap.size=none:=by
 cases ag:I w.heap.size with
 |none=>rfl| some o=>exact absurd (h.Di ag) (Nat.lt_irrefl _)
def eJ.qZ(h:eJ I M w):∀ x∈M,x.num≠w.heap.size:=λx ab e=>by have:=h.lt ab;omega
def eJ.cons(h:eJ I M w)(o:Obj):eJ I (⟨w.heap.size,o⟩::M) (w.alloc o) where
 i:=(h.alloc o).i
 m x ab:=by
  rcases er.1 ab with rfl | ab;·exact NT w o
  ·exact(h.alloc o).m x ab
 d x ab:=by
  rcases er.1 ab with rfl | ab;·exact h.se
  ·exact h.d x ab
 cu:=by simp only[b0,lG];refine⟨λhm=>?_,h.cu⟩;obtain⟨x,ab,e⟩:=c3.1 hm;exact h.qZ x ab e
def xt.alloc{b:Nat}{cs:List Value}(h:xt X w I M b cs)(o:Obj):xt X (w.alloc o) I M b cs where
 bl:=by obtain⟨T,a6⟩:=h.bl;exact⟨T,by rw[F9 w o (l4.1 a6).1];exact a6⟩
 dJ:=h.dJ
 jV:=h.jV
 e3:=h.e3
def xt.lt{b:Nat}{cs:List Value}(h:xt X w I M b cs):b<w.heap.size:=by obtain⟨T,a6⟩:=h.bl;exact(l4.1 a6).1
def xt.NW{b:Nat}{cs:List Value}(h:xt X w I M b cs)(o:Obj):xt X (w.alloc o) I (⟨w.heap.size,o⟩::M) b cs where
 bl:=(h.alloc o).bl
 dJ:=h.dJ
 jV:=h.jV
 e3 x ab:=by
  rcases er.1 ab with rfl | ab
  ·exact λe=>by have:=h.lt;simp only at e;omega
  ·exact h.e3 x ab
def vX.alloc{r:Nat}(h:vX X w I M r)(o:Obj):vX X (w.alloc o) I M r:=
 { h with bl:=by rw[F9 w o (l4.1 h.bl).1];exact h.bl }
def vX.NW{r:Nat}(h:vX X w I M r)(o:Obj):vX X (w.alloc o) I (⟨w.heap.size,o⟩::M) r:=by
 refine { h.alloc o with e3:=λx ab=>?_ };rcases er.1 ab with rfl | ab
 ·have aa:=(l4.1 h.bl).1;simp only;omega
 ·exact h.e3 x ab
def NX(h:∀ b,b<X.B->b ∉ X.foot->w.heap[b]?=X.ax.heap[b]?)(dk:X.B<=w.heap.size)(o:Obj):∀ b,b<X.B->b ∉ X.foot->(w.alloc o).heap[b]?=X.ax.heap[b]?:=λb ag aE=>by rw[F9 w o Z];exact h b ag aE
def cM.nX(h:cM X β a w F C I M)(o:Obj):cM X β a (w.alloc o) F C I (⟨w.heap.size,o⟩::M) where
 size:=h.size
 defers:=h.defers.mono λr af=>af.NW o
 holds:=h.holds.cons o
 an:=h.an
 cm s cs av:=(h.cm s cs av).NW o
 inj:=h.inj
 h5:=h.h5
 hE:=h.hE
 own x ab:=by
  rcases er.1 ab with rfl | ab;·exact .inr h.sz
  ·exact h.own x ab
 dI:=NX h.dI h.sz o
 out:=h.out
 sz:=by have:=h.sz;simp;omega
 fA:=h.fA
def cM.NY(h:cM X β a w F C I M)(d:Nat):cM X β a w (qa F d) (jl C d none) I M where
 size:=h.size
 defers:=h.defers
 holds:=h.holds
 an t:=by
  have aa:=h.an t;unfold qa;cases bw:F t with
  |ref s off=>
   rw[bw]at aa;simp only;cases Nat.beq s d;·exact aa
   ·trivial
  |_=>rw[bw]at aa;exact aa
 cm s cs av:=by
  unfold jl at av;cases ag:Nat.beq s d with
  |true=>simp[ag]at av| false=>simp[ag]at av;exact h.cm s cs av
 inj s cq aa ad:=h.inj s cq (λe=>aa (by simp[jl,e])) (λe=>ad (by simp[jl,e]))
 h5:=h.h5
 hE:=h.hE
 own:=h.own
 dI:=h.dI
 out:=h.out
 sz:=h.sz
 fA:=h.fA
def cM.UN(h:cM X β a w F C I M)(d:Nat)(ai:d<X.n)(cs:List Value)(T:Nat) :
  ∃ ov,cM X ov (a.put (some d) (.pointer (some ⟨w.heap.size,0,none⟩))) (w.alloc (.cells cs.toArray T (0,0))) (gS (qa F d) d (.ref d 0)) (jl C d (some cs)) I M:=by
 have ax:=h.NY d;let ov:Nat->Nat:=λs=>if s=d then w.heap.size else β s
 refine⟨ov,?_⟩;have xx:∀ t,e9 ov (qa F d t) (a.tmps.getD t undef):=λt=>by
  have aa:=ax.an t;cases bw:qa F d t with
  |ref s off=>
   rw[bw]at aa;have av:s≠d:=by
    intro e;subst e;unfold qa at bw;split at bw
    ·rename_i cq NZ mE;cases ag:Nat.beq cq s with
     |true=>simp[ag]at bw| false=>simp[ag]at bw;obtain⟨rfl,_⟩:=bw;simp at ag
    ·rename_i bz;exact bz _ _ bw
   simp only[e9,ov,bS av];exact aa
  |_=>rw[bw]at aa;exact aa
 exact {
  size:=by simp[Act.put,h.size]
  defers:=h.defers.mono λr af=>af.alloc _
  holds:=h.holds.alloc _
  an:=NV xx (by rw[h.size];exact ai) (by simp[e9,ov])
  cm:=λs cs' av=>by
   by_cases e:s=d;·subst e;simp[jl]at av;subst av;simp only[ov,b2 rfl];exact { bl:=⟨T,NT w _⟩,dJ:=h.sz,jV:=h.holds.se,e3:=h.holds.qZ }
   ·have ag:Nat.beq s d=false:=hF e;simp[jl,ag]at av;simp only[ov,bS e];exact(h.cm s cs' av).alloc _
  inj:=λs cq aa ad he=>by
   by_cases e:s=d<;>by_cases c2:cq=d
   ·rw[e,c2]
   ·exfalso;have ag:Nat.beq cq d=false:=hF c2;simp[jl,ag]at ad;obtain⟨c,ao⟩:=JI.1 ad;have:=(h.cm cq c ao).lt;simp only[ov,b2 e,bS c2]at he;omega
   ·exfalso;have ag:Nat.beq s d=false:=hF e;simp[jl,ag]at aa;obtain⟨c,ao⟩:=JI.1 aa;have:=(h.cm s c ao).lt;simp only[ov,bS e,b2 c2]at he;omega
   ·have ag:Nat.beq s d=false:=hF e;have ha:Nat.beq cq d=false:=hF c2;simp[jl,ag]at aa;simp[jl,ha]at ad;simp only[ov,bS e,bS c2]at he;exact h.inj s cq aa ad he
  h5:=h.h5
  hE:=h.hE
  own:=h.own
  dI:=NX h.dI h.sz _
  out:=h.out
  sz:=by have:=h.sz;simp;omega
  fA:=h.fA }
theorem eM(a:Addr)(h:a.spot=none)(j:Nat):a.add j=⟨a.block,a.off+j,none⟩:=by
 obtain⟨b,o,s⟩:=a;simp only at h;subst h;unfold Addr.add;split<;>simp_all
def td{b:Nat}(aw:w.heap[b]?=some (.cells cs T an))(j:Nat):w.cell? ⟨b,j,none⟩=cs[j]?:=by simp[World.cell?,aw]
variable{P:Program}{t:Nat}{i:dH}
def j'.run_sizeOf(h:j' P t i)(w:World):(sizeOf t).run P w=.ok i.size w:=by obtain⟨inf,z,aa,ad,_⟩:=h.inf;simp[sizeOf,typeInfo,aa,ad]
def j'.F'(h:j' P t i)(w:World):∃ z,(zeroValue t).run P w=.ok z w/\z.cells.toList=i.zero:=by obtain⟨inf,z,aa,ad,aj,aJ,bD⟩:=h.inf;exact⟨z,by simp[zeroValue,typeInfo,aa,aJ],bD⟩
def j'.agy(h:j' P t i)(w:World):∃ d,(underlying t).run P w=.ok d w/\fo d=i.bL:=by obtain⟨d,aa,ad⟩:=h.fp;exact⟨d,run_underlying aa w,ad⟩
def j'.UO(h:j' P t i)(w:World):(isAgg t).run P w=.ok i.bL.agg w:=by
 obtain⟨d,aa,ad⟩:=h.agy w;rw[<-ad];unfold isAgg;simp only[cp,aa,bY];cases d<;>rfl
def agz(az:vs.length=1):vs=[vs.headD undef]:=by
 match vs,az with
 |[v],_=>rfl
def JR(h:j' P t i){a:Addr}(av:a.spot=none)(aw:w.heap[a.block]?=some (.cells cs T an))
  (ak:(cs.toList.drop a.off).take i.size=vs) (az:vs.length=i.size):(loadVar t a).run P w=.ok (pack i.bL.agg vs) w:=by
 have ao:∀ j v,vs[j]?=some v->w.cell? (a.add j)=some v:=by
  intro j v ah;rw[eM a av,td aw];rw[<-ak,l5]at ah;split at ah;·rw[oq]at ah;simpa using ah
  ·cases ah
 unfold loadVar;simp only[cp,h.UO,bY];cases Ga:i.bL.agg with
 |true=>simp only[s7,cp,h.run_sizeOf,bY,<-az];rw[run_loadCells_list w a vs ao];simp[pack]| false=>have aa:=h.JN Ga;rw[aa]at az;have ij:=agz az;have:=ao 0 (vs.headD undef) (by rw[ij];simp);have a7:a.add 0=a:=rfl;rw[a7]at this;simp[this,pack]
def yZ(h:fH vs=true):∀ v∈vs,v.oneCell'=true:=by simpa[fH]using h
def JS(h:j' P t i){a:Addr}(av:a.spot=none)(aw:w.heap[a.block]?=some (.cells cs T (0,0)))(dk:v.cells.size=i.size)(ag:a.off+v.cells.toList.length<=cs.size)(aa:fH v.cells.toList=true) :
  (storeVar t a v).run P w=.ok () (w.setRow a.block (cd cs.toList a.off v.cells.toList).toArray):=by
 obtain⟨b,o,s⟩:=a;simp only at av aw ag;subst av;unfold storeVar;simp only[cp,h.run_sizeOf,bY,dk,ne_eq,not_true,mB,Sem.run_ite];have:=run_storeCells_at (P:=P) b o T v.cells.toList 0 cs w aw (by simpa using ag) (yZ aa);simp only[pg]at this;simp only[cd];simpa using this
def cM.UP(h:cM X β a w F C I M){s:Nat}{cs:List Value}(av:C s=some cs)(cs':List Value):cM X β a (w.setRow (β s) cs'.toArray) F (jl C s (some cs')) I M:=by
 have ag:=h.cm s cs av;obtain⟨T,a6⟩:=ag.bl;exact {
  size:=h.size
  defers:=h.defers.mono λr af=>by refine { af with bl:=?_ };rw[setRow_other _ _ _ _ (λe=>by have aa:=af.bl;rw[e,a6]at aa;cases aa)];exact af.bl
  holds:={
   i:=λb o iQ=>by rw[setRow_other _ _ _ _ (λe=>by rw[e,ag.jV]at iQ;cases iQ)];exact h.holds.i b o iQ
   m:=λx ab=>by rw[setRow_other _ _ _ _ (ag.e3 x ab)];exact h.holds.m x ab
   d:=h.holds.d
   cu:=h.holds.cu }
  an:=h.an
  cm:=λcq c' ow=>by
   by_cases e:cq=s;·subst e;simp[jl,ta]at ow;subst ow;exact { bl:=⟨T,setRow_heap _ _ _ _ _ _ a6⟩,dJ:=ag.dJ,jV:=ag.jV,e3:=ag.e3 }
   ·simp[jl,hF e]at ow;have ha:=h.cm cq c' ow;obtain⟨l8,Gb⟩:=ha.bl;refine { bl:=⟨l8,?_⟩,dJ:=ha.dJ,jV:=ha.jV,e3:=ha.e3 };rw[setRow_other _ _ _ _ (λc2=>e (h.inj cq s (by simp[ow]) (by simp[av]) c2))];exact Gb
  inj:=λs1 s2 aa ad=>h.inj s1 s2 (λe=>by
    unfold jl at aa;cases aO:Nat.beq s1 s with
    |true=>have:=ea aO;subst this;rw[av]at e;cases e| false=>rw[aO]at aa;exact aa e) (λe=>by
    unfold jl at ad;cases aO:Nat.beq s2 s with
    |true=>have:=ea aO;subst this;rw[av]at e;cases e| false=>rw[aO]at ad;exact ad e)
  h5:=h.h5
  hE:=h.hE
  own:=h.own
  dI:=λb ha aE=>by rw[setRow_other _ _ _ _ (λe=>by have:=ag.dJ;omega)];exact h.dI b ha aE
  out:=h.out.trans (UM _ _ _)
  sz:=by have:=h.sz;simpa using this
  fA:=h.fA }
def cM.xy(h:cM X β a w F C I M){a9 post:List aA}{g:Nat}{cs':Array Value}(bc:M=a9++⟨g,.cells cs T (0,0)⟩::post) :
  cM X β a (w.setRow g cs') F C I (a9++⟨g,.cells cs' T (0,0)⟩::post):=by
 subst bc;have gd:(⟨g,.cells cs T (0,0)⟩:aA)∈a9++⟨g,.cells cs T (0,0)⟩::post:=by simp
 have aw:w.heap[g]?=some (.cells cs T (0,0)):=h.holds.m _ gd;have b':=h.holds.cu;simp only[cR,b0]at b';have bz:∀ x,x∈a9\/x∈post->x.num≠g:=by
  intro x ab e;rw[uu]at b';obtain⟨_,ad,aj⟩:=b';rcases ab with ab | ab;·exact aj x.num (c3.2 ⟨x,ab,rfl⟩) g am e
  ·rw[lG]at ad;exact ad.1 (c3.2 ⟨x,ab,e⟩)
 have mem:∀ x,x∈a9++(⟨g,.cells cs' T (0,0)⟩:aA)::post->x=⟨g,.cells cs' T (0,0)⟩\/(x∈a9\/x∈post):=by
  intro x ab;simp only[c1,er]at ab;rcases ab with ab | ab | ab;·exact .inr (.inl ab)
  ·exact .inl ab
  ·exact .inr (.inr ab)
 have back:∀ x,x∈a9\/x∈post->x∈a9++(⟨g,.cells cs T (0,0)⟩:aA)::post:=by
  intro x ab;simp only[c1,er];rcases ab with ab | ab;·exact .inl ab
  ·exact .inr (.inr ab)
 exact {
  size:=h.size
  defers:=h.defers.mono λr af=>by
   have A6:g≠r:=af.e3 _ gd;refine { af with bl:=?_,e3:=λx ab=>?_ };·rw[setRow_other _ _ _ _ (r9 A6)];exact af.bl
   ·rcases mem x ab with rfl | ab
    ·exact A6
    ·exact af.e3 x (back x ab)
  holds:={
   i:=λb o iQ=>by rw[setRow_other _ _ _ _ (λe=>jp)];exact h.holds.i b o iQ
   m:=λx ab=>by
    rcases mem x ab with rfl | ab;·exact setRow_heap _ _ _ _ _ _ aw
    ·rw[setRow_other _ _ _ _ (bz x ab)];exact h.holds.m x (back x ab)
   d:=λx ab=>by
    rcases mem x ab with rfl | ab;·exact h.holds.d ⟨g,.cells cs T (0,0)⟩ gd
    ·exact h.holds.d x (back x ab)
   cu:=by simpa[cR]using b' }
  an:=h.an
  cm:=λs c av=>by
   have ag:=h.cm s c av;obtain⟨l8,Gb⟩:=ag.bl;have Gc:g≠β s:=ag.e3 _ gd;refine { bl:=⟨l8,?_⟩,dJ:=ag.dJ,jV:=ag.jV,e3:=λx ab=>?_ };·rw[setRow_other _ _ _ _ (r9 Gc)];exact Gb
   ·rcases mem x ab with rfl | ab
    ·exact Gc
    ·exact ag.e3 x (back x ab)
  inj:=h.inj
  h5:=h.h5
  hE:=h.hE
  own:=λx ab=>by
   rcases mem x ab with rfl | ab;·exact h.own ⟨g,.cells cs T (0,0)⟩ gd
   ·exact h.own x (back x ab)
  dI:=λb ag aE=>by
   rw[setRow_other _ _ _ _ (λe=>by
    rcases h.own _ gd with aa | aa;·simp only at aa;exact aE (e ▸ aa)
    ·simp only at aa;omega)]
   exact h.dI b ag aE
  out:=h.out.trans (UM _ _ _)
  sz:=by have:=h.sz;simpa using this
  fA:=h.fA }
def h4.heap(h:eJ I M w){b:Nat}{o:Obj}(ae:h4 I M b o):w.heap[b]?=some o:=by
 rcases ae with ae | ⟨x,ab,rfl,rfl⟩
 ·exact h.i b o ae
 ·exact h.m x ab
def agA{aS:List Value}{x:Value}{xs:List Value}(h:off+1+xs.length<=aS.length):cd (aS.set off x) (off+1) xs=cd aS off (x::xs):=by
 unfold cd;rw[List.take_set,List.drop_set,b2 Z,gk (by omega:off<aS.length)];have e:(List.take off aS++[aS[off]' Z]).set off x=List.take off aS++[x]:=by rw[List.set_append,bS d4];simp[pf (by omega:off<=aS.length)]
 rw[e];simp[ux,JL 1]
def UQ(off:Nat):∀ (xs:List Value) (k:Nat) (aS:List Value),off+k+xs.length<=aS.length -> (xs.zipIdx k).foldl (λ(cs:Array Value) (p:Value×Nat)=>cs.setIfInBounds (off+p.2) p.1) aS.toArray=(cd aS (off+k) xs).toArray
 |[],k,aS,_=>by simp[cd]
 |x::xs,k,aS,az=>by simp only[ep]at az;simp only[List.zipIdx_cons,kt];rw[List.setIfInBounds_toArray,UQ off xs (k+1) _ d4];rw[show off+(k+1)=off+k+1 from by omega,agA Z]
def fill_eq(place:Nat->Option (Nat×Nat)):∀ (vs:List (Nat×Value)) (cells r:List Value),qY place cells vs=some r->Instr.fill place cells.toArray vs=some r.toArray
 |[],cells,r,h=>by simp[qY]at h;simp[Instr.fill,h]
 |(i,v)::bm,cells,r,h=>by
  unfold qY at h;unfold Instr.fill;split at h;·cases h
  ·rename_i off size aI;simp only[aI];cases ao:(Nat.beq v.cells.size size&&Nat.ble (off+size) cells.length)with
   |false=>rw[ao]at h;cases h
   |true=>
    rw[ao]at h;simp only[cF]at h;rw[cC]at ao;have aa:=ea ao.1;have ad:=bJ ao.2;have aK:decide (v.cells.size≠size)=false:=by simp[aa]
    have ba:decide (off+v.cells.size > cells.toArray.size)=false:=by simp;omega
    rw[aK,ba];simp only[Bool.or_false,lE,mB];have aQ:=fill_eq place bm _ r h;rw[<-aQ];congr 1;have:=UQ off v.cells.toList 0 cells d4;simp only[pg]at this;rw[<-this,<-NN];simp
end
def hS.le{I I':aH}{M M':List aA}(h:hS foot I M I' M')(k0:eJ I M w):(∀ b o,I b=some o->I' b=some o)/\eJ I' M' w /\
  (∀ b o,I' b=some o->I b=some o\/∃ x∈M,x.num=b/\x.obj=o/\b ∉ foot)/\(∀ x∈M',x∈M):=by
 induction h with
 |refl=>exact⟨λ_ _ h=>h,k0,λ_ _ h=>.inl h,λ_ h=>h⟩
 | @sub I M M1 I' M' av k aQ=>
  have aa:eJ I M1 w:=⟨k0.i,λx ab=>k0.m x (av.subset ab),λx ab=>k0.d x (av.subset ab),(av.map _).nodup k0.cu⟩;obtain⟨cP,ek,ez,g'⟩:=aQ aa;refine⟨cP,ek,λb o ag=>?_,λx ab=>av.subset (g' x ab)⟩;rcases ez b o ag with h | ⟨x,ab,h⟩;·exact .inl h
  ·exact .inr ⟨x,av.subset ab,h⟩
 | @perm I M M1 I' M' aI k aQ=>
  have aa:eJ I M1 w:=⟨k0.i,λx ab=>k0.m x (aI.mem_iff.2 ab),λx ab=>k0.d x (aI.mem_iff.2 ab),(aI.map _).nodup_iff.1 k0.cu⟩;obtain⟨cP,ek,ez,g'⟩:=aQ aa;refine⟨cP,ek,λb o ag=>?_,λx ab=>aI.mem_iff.2 (g' x ab)⟩;rcases ez b o ag with h | ⟨x,ab,h⟩;·exact .inl h
  ·exact .inr ⟨x,aI.mem_iff.2 ab,h⟩
 | @kZ I M I' M' b o post bc aE k aQ=>
  subst bc;have b':=k0.cu;simp only[b0,lG]at b';have ag:=k0.d ⟨b,o⟩ am;simp only at ag;have aa:eJ (ins I b o) post w:={
   i:=λik o' h=>by
    unfold ins at h;by_cases e:ik=b;·subst e;simp only[ta,cF,kr]at h;subst h;exact k0.m ⟨ik,o⟩ am
    ·simp only[hF e,cD]at h;exact k0.i _ _ h
   m:=λx ab=>k0.m x f9
   d:=λx ab=>by unfold ins;have e:x.num≠b:=λe=>b'.1 (c3.2 ⟨x,ab,e⟩);simp only[hF e,cD];exact k0.d x f9
   cu:=b'.2 }
  obtain⟨cP,ek,ez,g'⟩:=aQ aa;refine⟨λik o' h=>cP ik o' ?_,ek,λik o' h=>?_,λx ab=>by simp[g' x ab]⟩
  ·unfold ins;by_cases e:ik=b
   ·subst e;rw[ag]at h;cases h
   ·simp only[hF e,cD];exact h
  ·rcases ez ik o' h with h | ⟨x,ab,h⟩
   ·unfold ins at h;by_cases e:ik=b
    ·subst e;simp only[ta,cF,kr]at h;exact .inr ⟨⟨ik,o⟩,am,rfl,h,aE⟩
    ·simp only[hF e,cD]at h;exact .inl h
   ·exact .inr ⟨x,f9,h⟩
def cM.hT{X:cN}{β:Nat->Nat}{F:Fr}{C:de}{I I':aH}{M M':List aA}(h:cM X β a w F C I M)(hw:hS X.foot I M I' M'):cM X β a w F C I' M':=by
 obtain⟨cP,ek,ez,g'⟩:=hw.le h.holds;exact { h with
  holds:=ek
  defers:=h.defers.mono λr af=>by
   refine { af with jV:=?_,e3:=λx ab=>af.e3 x (g' x ab) };cases bE:I' r with
   |none=>rfl
   |some o=>
    exfalso;rcases ez _ _ bE with aa | ⟨x,ab,aa,_⟩;·rw[af.jV]at aa;cases aa
    ·exact af.e3 x ab aa
  cm:=λs cs av=>{ h.cm s cs av with
   jV:=by
    cases bE:I' (β s)with
    |none=>rfl
    |some o=>
     exfalso;rcases ez _ _ bE with aa | ⟨x,ab,aa,_⟩;·rw[(h.cm s cs av).jV]at aa;cases aa
     ·exact(h.cm s cs av).e3 x ab aa
   e3:=λx ab=>(h.cm s cs av).e3 x (g' x ab) }
  h5:=λb o ag=>cP b o (h.h5 b o ag)
  hE:=λb o ag=>by
   rcases ez b o ag with aa | ⟨x,ab,rfl,_,aE⟩;·exact h.hE b o aa
   ·exact .inr ((h.own x ab).resolve_left aE)
  own:=λx ab=>h.own x (g' x ab) }
section
variable{X:cN}{β:Nat->Nat}{a:Act}{w:World}{F:Fr}{C:de}{I:aH}{M:List aA}{o:Oper}{Q:Exit->Act->World->Prop}{K:fz}
def UR(h:cM X β a w F C I M)(ai:∀ d,o.dst=some d->d<X.n)(b':∀ c,o.op≠.defer c){x:dx}(af:(execOp a.eval o).run X.P w=.ok (.value v) w)(ab:e9 β x v)(ae:K (put o.dst x F) C I M):o.wpIn (g2 X) 0 X.P a w (Sat X K) Q:=
 ix b' af ⟨_,_,_,_,⟨β,h.put ai ab⟩,ae⟩
def vY(h:cM X β a w F C I M)(ai:∀ d,o.dst=some d->d<X.n)(b':∀ c,o.op≠.defer c)(af:(execOp a.eval o).run X.P w=.ok (.value v) w)(ae:K (put o.dst (.val v) F) C I M):o.wpIn (g2 X) 0 X.P a w (Sat X K) Q:=
 UR (x:=.val v) h ai b' af rfl ae
def q0(k:IntKind)(n:Int)(w:World)(P:Program):(asIntOf (.int k n)).run P w=.ok (k,n) w:=rfl
def IntKind.Dj{k e4:IntKind}(h:IntKind.lI k e4=true):k=e4:=by cases k<;>cases e4<;>first | rfl | cases h
def pj(op:BinOp)(t:Nat)(x y:Operand)(k e4:IntKind)(n m:Int)(P:Program)(w:World):(eqGuard op t x y (.int k n) (.int e4 m)).run P w=.ok () w:=by
 unfold eqGuard;cases op<;>rfl
def N0(op:BinOp)(t:Nat)(x y:Operand)(n m:ByteArray)(P:Program)(w:World):(eqGuard op t x y (.string n) (.string m)).run P w=.ok () w:=by
 unfold eqGuard;cases op<;>rfl
def US(op:BinOp)(t:Nat)(x y:Operand)(n m:Bool)(P:Program)(w:World):(eqGuard op t x y (.bool n) (.bool m)).run P w=.ok () w:=by
 unfold eqGuard;cases op<;>rfl
theorem UT(a b:ByteArray):(a.toList == b.toList)=decide (a=b):=by
 rw[r8];simp only[beq_iff_eq,h3];constructor
 ·intro h;have aa:a.data.toList=b.data.toList:=by rw[ByteArray.toList_eq,ByteArray.toList_eq]at h;exact h
  cases a;simp_all
 grind
def run_equal_bool{t:Nat}(hu:P.underlying t=some .bool)(a b:Bool)(w:World):(Op.equal t (.bool a) (.bool b)).run P w=.ok (a == b) w:=by
 have key:∀ d,(Op.equalIn (d+1) t (.bool a) (.bool b)).run P w=.ok (a == b) w:=λd=>by simp only[Op.equalIn,cp,run_underlying hu,bY,db]
 exact key 9999
theorem agB(aL:cU X.P X.E)(op:BinOp)(t:Nat)(x y:Operand)(u v:dx)(l9 xz:Value)(ab:u=.val l9)(aG:v=.val xz)(UU:Value->Prop)(other:Prop)
  (h:lJ op (X.E t) u v UU other):other\/∃ r,(∀ w,(do eqGuard op t x y l9 xz;binOp op t l9 xz:Sem Value).run X.P w=.ok r w)/\UU r:=by
 subst ab;subst aG;unfold lJ at h;split at h
 ·rename_i k a e4 b aK ba;cases aK;cases ba
  right
  split at h;·obtain⟨j,rfl,⟨r,af,ae⟩⟩:=h;refine⟨_,λw=>?_,ae⟩;simp only[cp,pj,bY,binOp,Op.shift];rw[bS Z];simp[af]
  ·obtain⟨j,rfl,ae⟩:=h;refine⟨_,λw=>?_,ae⟩;rfl
  ·rename_i gw qb;cases e5:IntKind.lI k e4 with
   |false=>grind
   |true=>
    rw[e5]at h;have iR:=IntKind.Dj e5;subst iR;simp only[cF]at h;cases op<;>simp only at h
    case add=>obtain⟨r,af,ae⟩:=h;exact⟨_,λw=>ab',ae⟩
    case sub=>obtain⟨r,af,ae⟩:=h;exact⟨_,λw=>ab',ae⟩
    case mul=>obtain⟨r,af,ae⟩:=h;exact⟨_,λw=>ab',ae⟩
    case quo=>obtain⟨ax,r,af,ae⟩:=h;exact⟨_,λw=>by simp[pj,binOp,Op.intDiv,ax,af],ae⟩
    case rem=>obtain⟨ax,ae⟩:=h;exact⟨_,λw=>by simp[pj,binOp,Op.intDiv,ax],ae⟩
    case and=>exact⟨_,λw=>Fd,h⟩
    case or=>exact⟨_,λw=>Fd,h⟩
    case xor=>exact⟨_,λw=>Fd,h⟩
    case andNot=>exact⟨_,λw=>Fd,h⟩
    grind
    grind
    case eql=>exact⟨_,λw=>ac',h⟩
    case neq=>exact⟨_,λw=>ac',h⟩
    case lss=>exact⟨_,λw=>In,h⟩
    case leq=>exact⟨_,λw=>In,h⟩
    case gtr=>exact⟨_,λw=>In,h⟩
    case geq=>exact⟨_,λw=>In,h⟩
 ·rename_i a b aK ba;cases aK;cases ba;split at h
  ·exact .inr ⟨_,λw=>adc,h⟩
  ·exact .inr ⟨_,λw=>adc,h⟩
  grind
 ·rename_i a b aK ba;cases aK;cases ba;split at h
  ·rename_i cS sz hD z au;obtain⟨d,hu,ai⟩:=(aL _ _ au).fp;have fO:d=.bool:=by cases d<;>simp_all[fo]
   subst fO;split at h;·exact .inr ⟨_,λw=>ab3,h⟩
   ·exact .inr ⟨_,λw=>ab3,h⟩
   grind
  grind
 grind
def N1{args:Array Value}(h:Calls P f args w R)(n:Nat):CallsIn (g2 X) n P f args w R:=by have aa:=(callsIn_wide (n:=n)).2 h;exact⟨trivial,λcs af=>aa.2 cs (room_wide _)⟩
theorem eJ.part(h:eJ I M w){eA Mr:List aA}(bc:M.Perm (eA++Mr)):eJ I eA w:=by
 have ka:∀ x,x∈M ↔ x∈eA\/x∈Mr:=λx=>by grind
 have b':((eA++Mr).map (·.num)).Nodup:=(bc.map (·.num)).nodup_iff.1 h.cu;rw[cR,uu]at b';exact⟨h.i,λx ab=>h.m x d5,λx ab=>h.d x d5,b'.1⟩
theorem cM.after(h:cM X β a w F C I M){eA Mr M':List aA}{I':aH}(bc:M.Perm (eA++Mr))(q1:eJ I' M' w')(dj:Kept I eA w I' M' w'):cM X β a w' F C I' (M'++Mr):=by
 have ka:∀ x,x∈M ↔ x∈eA\/x∈Mr:=λx=>by grind
 have b':((eA++Mr).map (·.num)).Nodup:=(bc.map (·.num)).nodup_iff.1 h.holds.cu;rw[cR,uu]at b';have agC:∀ x∈Mr,∀ y∈eA,y.num≠x.num:=λx ab y aG=>b'.2.2 y.num d5 x.num d5;have agD:∀ x∈Mr,w'.heap[x.num]?=w.heap[x.num]?:=λx ab=>
  dj.dI x.num (h.holds.lt d5) (agC x ab)
 exact {
  size:=h.size
  defers:=h.defers.mono λr af=>by
   have a1:=(l4.1 af.bl).1;refine { bl:=?_,dJ:=af.dJ,jV:=?_,e3:=λx ab=>?_ };·rw[dj.dI _ a1 (λy aG=>af.e3 y d5)];exact af.bl
   ·cases bE:I' r with
    |none=>rfl
    |some o=>
     exfalso;rcases dj.uz _ _ bE with aa | aa;·rw[af.jV]at aa;cases aa
     ·omega
   ·rcases c1.1 ab with ab | ab
    ·rcases dj.vU x ab with⟨z,bg,Dk⟩ | aa
     ·rw[<-Dk];exact af.e3 z d5
     ·omega
    ·exact af.e3 x d5
  holds:={
   i:=q1.i
   m:=λx ab=>by
    rcases c1.1 ab with ab | ab;·exact q1.m x ab
    ·rw[agD x ab];exact h.holds.m x d5
   d:=λx ab=>by
    rcases c1.1 ab with ab | ab;·exact q1.d x ab
    ·cases bE:I' x.num with
     |none=>rfl
     |some o=>
      exfalso;rcases dj.uz _ _ bE with aa | aa
      ·have:=h.holds.d x d5;grind
      ·have:=h.holds.lt ((ka x).2 (.inr ab));omega
   cu:=by
    rw[cR,uu];refine⟨q1.cu,b'.2.1,λp aI q aO e=>?_⟩;obtain⟨x,ab,rfl⟩:=c3.1 aI;obtain⟨y,aG,rfl⟩:=c3.1 aO;rcases dj.vU x ab with⟨z,bg,Dk⟩ | aa
    grind
    ·have:=h.holds.lt ((ka y).2 (.inr aG));omega }
  an:=h.an
  cm:=λs cs av=>by
   have ag:=h.cm s cs av;obtain⟨T,a6⟩:=ag.bl;refine { bl:=⟨T,?_⟩,dJ:=ag.dJ,jV:=?_,e3:=λx ab=>?_ };·rw[dj.dI _ ag.lt (λy aG=>ag.e3 y d5)];exact a6
   ·cases bE:I' (β s)with
    |none=>rfl
    |some o=>
     exfalso;rcases dj.uz _ _ bE with aa | aa;·rw[ag.jV]at aa;cases aa
     grind
   ·rcases c1.1 ab with ab | ab
    ·rcases dj.vU x ab with⟨z,bg,Dk⟩ | aa
     ·rw[<-Dk];exact ag.e3 z d5
     grind
    ·exact ag.e3 x d5
  inj:=h.inj
  h5:=λb o ag=>dj.le b o (h.h5 b o ag)
  hE:=λb o ag=>by
   rcases dj.uz b o ag with aa | aa;·exact h.hE b o aa
   ·exact .inr (jU h.sz aa)
  own:=λx ab=>by
   rcases c1.1 ab with ab | ab
   ·rcases dj.vU x ab with⟨z,bg,Dk⟩ | aa
    ·rw[<-Dk];exact h.own z d5
    ·exact .inr (jU h.sz aa)
   ·exact h.own x d5
  dI:=λb ag aE=>by
   rw[dj.dI b (JJ ag h.sz) (λy aG e=>by
    rcases h.own y d5 with aa | aa
    grind
    ·omega)]
   exact h.dI b ag aE
  out:=h.out.trans dj.out
  sz:=jU h.sz dj.sz
  fA:=h.fA }
def cM.call(h:cM X β a w F C I M){KC:Value->aH->List aA->Prop}(ao:a8 X.foot P f args I M KC) :
  (NS P f/\Calls P f args.toArray w λe w'=>∃ v I' M',e=.returned v/\KC v I' M'/\cM X β a w' F C I' M')\/(∃ v w' I' M',(callFunc f args.toArray).run P w=.ok (.value v) w'/\KC v I' M'/\cM X β a w' F C I' M'):=by
 obtain⟨I1,eA,Mr,post,k1,⟨qc,av⟩ | av,ae⟩:=ao.elim ⟨h.holds.d,h.holds.cu⟩<;>have h:=h.hT k1<;>have bc:=List.Perm.refl (eA++Mr)
 ·refine .inl ⟨qc,?_⟩;refine(av w (h.holds.part bc)).mono ?_;rintro e w'⟨v,I',M',rfl,aI,q1,dj⟩;have a7:=h.after bc q1 dj;exact⟨v,I',M'++Mr,rfl,ae v I' M' dj.le a7.holds.d aI,a7⟩
 ·obtain⟨v,w',I',M',af,aI,q1,dj⟩:=av w (h.holds.part bc);have a7:=h.after bc q1 dj;exact .inr ⟨v,w',I',M'++Mr,af,ae v I' M' dj.le a7.holds.d aI,a7⟩
theorem UW{args:Array Value}(b':∀ c,o.op≠.defer c)(af:(execOp a.eval o).run X.P w=.ok (.enter f args) w)
  (ao:Calls X.P f args w λe w'=>∃ v,e=.returned v/\next (a.put o.dst v) w'):o.wpIn (g2 X) 0 X.P a w next Q:=by
 refine⟨λ_ _=>trivial,?_⟩;rw[JK _ _ _ b',af];refine⟨(λh=>ci),?_⟩;refine(N1 ao _).mono ?_
 grind
def UX(z:Value)(fe:List Value)(h:z.cells.toList=fe)(n:Nat):(Array.range n).map (z.cells[· % z.cells.size]!)=(rowOf fe n).toArray:=by subst h;apply lH;simp[s',madeCells]
theorem j'.struct{t:Nat}{et:List (Nat×Nat)}(h:j' P t ⟨sz,hD,z,.struct et⟩):∃ fields,P.underlying t=some (.struct fields)/\et=fields.toList.map λf=>(f.type,f.offset):=by
 obtain⟨d,aa,ad⟩:=h.fp;cases d<;>simp[fo]at ad
 grind
def j'.slice{t:Nat}(h:j' P t ⟨sz,hD,z,.slice e⟩):P.underlying t=some (.slice e):=by
 obtain⟨d,aa,ad⟩:=h.fp;cases d<;>simp[fo]at ad
 rw[aa,ad]
theorem j'.array{t:Nat}(h:j' P t ⟨sz,hD,z,.array n e⟩):P.underlying t=some (.array n e):=by
 obtain⟨d,aa,ad⟩:=h.fp;cases d<;>simp[fo]at ad
 grind
def j'.string{t:Nat}(h:j' P t ⟨sz,hD,z,.string⟩):P.underlying t=some .string:=by
 obtain⟨d,aa,ad⟩:=h.fp;cases d<;>simp[fo]at ad
 exact aa
def j'.int{P:Program}{t sz hD:Nat}{z:List Value}{k:IntKind}(h:j' P t ⟨sz,hD,z,.int k⟩):P.underlying t=some (.int k):=by
 obtain⟨d,aa,ad⟩:=h.fp;cases d<;>simp[fo]at ad
 rw[aa,ad]
theorem UY{fields:Array Field}{i fA:Nat}(h:(fields.toList.map λf=>(f.type,f.offset))[i]?=some (fA,off)):∃ f,fields[i]?=some f/\f.type=fA/\f.offset=off:=by
 grind
theorem N2{t:Nat}{i:dH}(h:j' P t i)(bn:off+i.size<=cs.size)(w:World):(part t cs off).run P w=.ok (pack i.bL.agg ((cs.toList.drop off).take i.size)) w:=by
 unfold part;simp only[cp,h.UO,bY];cases Ga:i.bL.agg with
 |true=>
  simp only[s7,cp,h.run_sizeOf,bY,db,pack,cF];congr 2
  grind
 |false=>
  have aa:=h.JN Ga;rw[aa]at bn |-;have a1:off<cs.size:=by omega
  simp only[lE,mB,NM a1,db,pack,cD];congr 1;rw[e2 Z];simp
def agE{t:Nat}{aB:dH}(au:P.underlying t=some (.slice e))(he:j' P e aB){c:Nat}{j:Nat}(ah:j<n)(w:World) :
  (Instr.indexAt t (.slice (some aR) n c) (.int gl j)).run P w=.ok (.pointer (some (aR.add (j*aB.size)))) w:=by
 unfold Instr.indexAt;simp only[cp,q0,bY,run_underlying au,db];rw[b2 ⟨Z,Z⟩];simp[he.run_sizeOf]
def UZ{t:Nat}{aB:dH}(au:P.underlying t=some (.array m e))(he:j' P e aB){j:Nat}(ah:j<m)(w:World) :
  (Instr.indexAt t (.pointer (some aR)) (.int gl j)).run P w=.ok (.pointer (some (aR.add (j*aB.size)))) w:=by
 unfold Instr.indexAt;simp only[cp,q0,bY,run_underlying au,db,Instr.sureAddr];rw[b2 ⟨Z,Z⟩];simp[he.run_sizeOf]
def U0{P:Program}{E:Env}(aL:cU P E)(w:World):∀ (fields:List Field),F8 E (fields.map λf=>(f.type,f.offset))=true -> ∃ l:List (Nat×Nat),(fields.mapM λf=>(do pure (f.offset,<-sizeOf f.type):Sem (Nat×Nat))).run P w=.ok l w/\∀ i,l[i]?=places E (fields.map λf=>(f.type,f.offset)) i
 |[],_=>⟨[],rfl,λi=>by rfl⟩
 |f::et,h=>by
  simp only[F8,b0,xp,cC]at h;obtain⟨iw,sf⟩:=Option.isSome_iff_exists.1 h.1;obtain⟨l,aa,ad⟩:=U0 aL w et h.2;refine⟨(f.offset,iw.size)::l,?_,λi=>?_⟩;·simp only[F5,cp,(aL _ _ sf).run_sizeOf,bY,db];rw[aa];rfl
  ·cases i with
   |zero=>simp[places,sf]| succ i=>simp only[F3,ad];rfl
theorem U1(aL:cU X.P X.E)(h:cM X β a w F C I M){y0:dx->Prop}(op:Op)(ty:TypeId)(dst:Option Tmp)(pos:String)(after:Array Edge)(guard:Option (Nat×Bool))(ak:cK X op (dr F) C I M y0 other) :
  other\/∃ v x,(execOp a.eval ⟨dst,op,ty,pos,after,guard⟩).run X.P w=.ok (.value v) w/\e9 β x v/\y0 x:=by
 have done:∀ {v x},(execOp a.eval ⟨dst,op,ty,pos,after,guard⟩).run X.P w=.ok (.value v) w->e9 β x v->y0 x->other\/∃ v x,(execOp a.eval ⟨dst,op,ty,pos,after,guard⟩).run X.P w=.ok (.value v) w/\e9 β x v/\y0 x:=
  λaa ad aj=>.inr ⟨_,_,aa,ad,aj⟩
 have hG:∀ {v},(execOp a.eval ⟨dst,op,ty,pos,after,guard⟩).run X.P w=.ok (.value v) w->y0 (.val v)->other\/∃ v x,(execOp a.eval ⟨dst,op,ty,pos,after,guard⟩).run X.P w=.ok (.value v) w/\e9 β x v/\y0 x:=
  fun {v} aa aj=>.inr ⟨v,.val v,aa,rfl,aj⟩
 have aE:=h.an;cases op
 case move x=>exact done (by rfl) (xw aE x) ak
 case assign x=>exact done (by rfl) (xw aE x) ak
 case pick c p q=>
  simp only[cK]at ak;split at ak
  ·rename_i b ag;have ao:=NU aE ag;cases b
   ·exact done axP (xw aE q) ak
   ·exact done axP (xw aE p) ak
  ·rename_i b ag;have ao:=uA aE ag;refine done (v:=if b then a.eval p else a.eval q) (x:=JO b (bG F p) (bG F q)) axP ?_ ak;have aa:=UK aE p;have ad:=UK aE q;unfold JO;split
   grind
   grind
   ·trivial
  grind
 case unOp op t x=>
  simp only[cK]at ak;split at ak;·rename_i b ag;exact done (v:=.bool (!b)) (x:=.lit (!b)) (by simp[execOp,NU aE ag,Op.unary]) rfl ak
  ·rename_i b ag;exact hG (v:=.bool (!b)) (by simp[execOp,uA aE ag,Op.unary]) ak
  ·rename_i k n ag;obtain⟨r,af,ae⟩:=ak;exact hG (v:=.int k r) (by simp only[execOp,uA aE ag,Op.unary,Op.intArith,af];simp) ae
  grind
 case binOp op t x y ty'=>
  simp only[cK]at ak;by_cases ab:∃ l9 xz,bG F x=.val l9/\bG F y=.val xz
  ·obtain⟨l9,xz,ab,aG⟩:=ab;have fin:∀ r,(∀ w,(do eqGuard op t x y l9 xz;binOp op t l9 xz:Sem Value).run X.P w=.ok r w)->y0 (.val r)->(other\/∃ v l',(execOp a.eval ⟨dst,.binOp op t x y ty',ty,pos,after,guard⟩).run X.P w=.ok (.value v) w/\e9 β l' v/\y0 l'):=λr af ae=>by refine hG (v:=r) ?_ ae;have:=af w;rw[<-df aE ab,<-df aE aG]at this;simp only[execOp];simp only[cp]at this |-;simp_all
   rcases agB aL op t x y _ _ l9 xz ab aG _ _ ak with(⟨mD,f',r,aI,aO,af,ae⟩ | aa) | ⟨r,af,ae⟩
   grind
   grind
   grind
  ·unfold lJ at ak;split at ak
   grind
   grind
   grind
   ·rcases ak with⟨mD,f',r,aI,aO,af,ae⟩ | aa
    grind
    grind
 case load t x=>
  simp only[cK]at ak;split at ak
  ·rename_i i hi;split at ak
   ·rename_i s off ab;have kb:=A5 aE ab;split at ak
    ·rename_i cs av;cases bn:Nat.ble (off+i.size) cs.length with
     |false=>grind| true=>rw[bn]at ak;have gf:=bJ bn;obtain⟨T,a6⟩:=(h.cm s cs av).bl;refine hG (v:=pack i.bL.agg ((cs.drop off).take i.size)) ?_ ak;have:=JR (aL _ _ hi) (a:=⟨β s,off,none⟩) rfl a6 (vs:=(cs.drop off).take i.size) am d4;simp[execOp,Instr.loadAt,Instr.sureAddr,kb,this]
    grind
   ·rename_i aR ab;have kb:=uA aE ab;obtain⟨vs,⟨di,cs,T,an,fh,ij,az⟩,ae⟩:=ak;refine hG (v:=pack i.bL.agg vs) ?_ ae;have:=JR (aL _ _ hi) di (fh.heap h.holds) ij az;simp[execOp,Instr.loadAt,Instr.sureAddr,kb,this]
   grind
  grind
 case nilCheck x=>
  simp only[cK]at ak;split at ak;·rename_i s off ab;exact done (v:=.pointer (some ⟨β s,off,none⟩)) (x:=.ref s off) (by simp[execOp,A5 aE ab]) rfl ak
  ·rename_i aR ab;exact hG (v:=.pointer (some aR)) (by simp[execOp,uA aE ab]) ak
  grind
 case fieldAddr t x i=>
  simp only[cK]at ak;split at ak
  ·rename_i sz hD z et au;obtain⟨fields,hu,rfl⟩:=(aL _ _ au).struct;split at ak
   ·rename_i fA off sg;obtain⟨f,vZ,rfl,rfl⟩:=UY sg;split at ak
    ·rename_i iw s o' sf ab;cases bg:Nat.beq iw.size 0 with
     |true=>grind
     |false=>
      rw[bg]at ak;have gL:iw.size≠0:=λe=>by simp_all
      refine done (v:=.pointer (some ⟨β s,o'+f.offset,none⟩)) (x:=.ref s (o'+f.offset)) ?_ rfl ak;simp[execOp,Instr.fieldAt,run_underlying hu,vZ,A5 aE ab,Instr.sureAddr,fieldPlace,(aL _ _ sf).run_sizeOf,gL,eM]
    ·rename_i iw aR sf ab;cases bg:Nat.beq iw.size 0 with
     |true=>grind
     |false=>
      rw[bg]at ak;have gL:iw.size≠0:=λe=>by simp_all
      refine hG (v:=.pointer (some (aR.add f.offset))) ?_ ak;simp[execOp,Instr.fieldAt,run_underlying hu,vZ,uA aE ab,Instr.sureAddr,fieldPlace,(aL _ _ sf).run_sizeOf,gL]
    grind
   grind
  grind
 case field t x i=>
  simp only[cK]at ak;split at ak
  ·rename_i sz hD z et cs au ab;obtain⟨fields,hu,rfl⟩:=(aL _ _ au).struct;split at ak
   ·rename_i fA off sg;obtain⟨f,vZ,rfl,rfl⟩:=UY sg;split at ak
    ·rename_i iw sf;cases bg:Nat.ble (f.offset+iw.size) cs.size with
     |false=>grind| true=>rw[bg]at ak;refine hG ?_ ak;simp[execOp,Instr.field,run_underlying hu,vZ,df aE ab,asAgg,N2 (aL _ _ sf) (bJ bg)]
    grind
   grind
  grind
 case indexAddr t x i=>
  simp only[cK]at ak;split at ak
  ·rename_i sz hD z e gl k au hi;have hu:=(aL _ _ au).slice;split at ak
   ·rename_i aB bN n c hp ab;obtain⟨aR,j,rfl,rfl,ah,ae⟩:=ak;refine hG ?_ ae;simp[execOp,df aE ab,df aE hi,agE hu (aL _ _ hp) ah]
   grind
  ·rename_i sz hD z n e gl k au hi;have hu:=(aL _ _ au).array;split at ak
   ·rename_i aB s o' hp ab;obtain⟨j,rfl,ah,ae⟩:=ak;refine done (v:=.pointer (some ⟨β s,o'+j*aB.size,none⟩)) (x:=.ref s (o'+j*aB.size)) ?_ rfl ae;simp[execOp,A5 aE ab,df aE hi,UZ hu (aL _ _ hp) ah,eM]
   ·rename_i aB aR hp ab;obtain⟨j,rfl,ah,ae⟩:=ak;refine hG ?_ ae;simp[execOp,uA aE ab,df aE hi,UZ hu (aL _ _ hp) ah]
   grind
  grind
 case index t x i=>
  simp only[cK]at ak;split at ak;·rename_i sz hD z s gl k au ab hi;have hu:=(aL _ _ au).string;obtain⟨j,rfl,ah,ae⟩:=ak;refine hG ?_ ae;simp only[execOp,df aE ab,df aE hi,Instr.index,cp,q0,bY,run_underlying hu];simp_all
  ·rename_i sz hD z n e cs gl k au ab hi;have hu:=(aL _ _ au).array;split at ak
   ·rename_i aB hp;cases bg:Nat.beq (n*aB.size) cs.size with
    |false=>grind
    |true=>
     rw[bg]at ak;obtain⟨j,rfl,ah,ae⟩:=ak;have gL:=ea bg;refine hG ?_ ae;have bn:j*aB.size+aB.size<=cs.size:=by rw[<-gL,<-JM];exact p' _ ah
     simp only[execOp,df aE ab,df aE hi,Instr.index,cp,q0,bY,run_underlying hu];rw[b2 ⟨Z,Z⟩];simp[(aL _ _ hp).run_sizeOf,N2 (aL _ _ hp) bn]
   grind
  grind
 case build t parts=>
  simp only[cK]at ak;split at ak
  ·rename_i i vs hi ij;have aI:=JP aE ij;have y1:(parts.map λ(i,x)=>(i,a.eval x)).toList=vs:=by simpa using aI
   obtain⟨z,bg,Dl⟩:=(aL _ _ hi).F' w;have Dm:z.cells=i.zero.toArray:=by grind
   split at ak
   ·rename_i et ox;cases bf:F8 X.E et with
    |false=>grind
    |true=>
     rw[bf]at ak;simp only[cF]at ak;split at ak
     ·rename_i cells A7;obtain⟨sz,hD,agF,bL⟩:=i;simp only at ox;subst ox;obtain⟨fields,hu,rfl⟩:=(aL _ _ hi).struct;obtain⟨l,az,sh⟩:=U0 aL w fields.toList bf;refine hG ?_ ak;have hm:(fields.mapM λf=>(do pure (f.offset,<-sizeOf f.type):Sem (Nat×Nat))).run X.P w=.ok l.toArray w:=by rw[UJ,Sem.run_map,az];rfl
      have xA:=fill_eq _ _ _ _ A7;have awx:(λj=>l.toArray[j]?)=places X.E (fields.toList.map λf=>(f.type,f.offset)):=by
       grind
      simp only[execOp,Instr.build,cp,bg,bY,run_underlying hu,Dm,y1];simp_all
     grind
   ·rename_i n e ox;split at ak
    ·rename_i aB hp;split at ak
     ·rename_i cells A7;obtain⟨sz,hD,agF,bL⟩:=i;simp only at ox;subst ox;have hu:=(aL _ _ hi).array;refine hG ?_ ak;have xA:=fill_eq _ _ _ _ A7;simp only[execOp,Instr.build,cp,bg,bY,run_underlying hu,Dm,y1,(aL _ _ hp).run_sizeOf,xA,db]
     grind
    grind
   grind
  grind
 case makeFunc fn first captured=>
  simp only[cK]at ak;split at ak
  ·rename_i et cs aa ad;have aK:=tb aE aa;have ba:=tb aE ad;refine hG ?_ ak;have eu:first.map a.eval=et.toArray:=by grind
   have q2:captured.map a.eval=cs.toArray:=by grind
   simp[execOp,Instr.makeFunc,eu,q2]
  grind
 case slice t x lo hi mx=>
  simp only[cK]at ak;split at ak
  ·rename_i sz hD z e bN n c au ab ih;have N3:mx=none:=by simpa using ih
   subst N3;have hu:=(aL _ _ au).slice;have kb:=df aE ab;split at ak
   ·rename_i aB hp fg gB;have uB:lo=none:=by simpa using fg
    have A8:hi=none:=by simpa using gB
    subst uB;subst A8;refine hG ?_ ak;have aK:(if c=0 then bN else bN.map (·.add (0*aB.size)))=bN:=by split<;>cases bN<;>simp[Addr.add]
    simp[execOp,Instr.sliceAt,Instr.slice,Instr.sliceBounds,kb,run_underlying hu,(aL _ _ hp).run_sizeOf,Addr.add]
   ·rename_i aB gl k2 hp fg gB;have uB:lo=none:=by simpa using fg
    subst uB;obtain⟨JT,rfl,dg⟩:=ur.1 gB;obtain⟨l,ad,v0,rfl,bn,si,ae⟩:=ak;refine hG ?_ ae;simp only[execOp,Instr.sliceAt,Instr.slice,Instr.sliceBounds,Instr.sliceBound,kb,cp,run_underlying hu,bY,(aL _ _ hp).run_sizeOf,db,kW,uw,df aE dg,q0];rw[b2 ⟨Z,Z⟩];simp[Addr.add]
   ·rename_i aB gl hb hp fg gB;have A8:hi=none:=by simpa using gB
    subst A8;obtain⟨N4,rfl,dg⟩:=ur.1 fg;obtain⟨l,ad,rfl,A9,bn,si,ae⟩:=ak;simp only[uv]at *;refine hG ?_ ae;simp only[execOp,Instr.sliceAt,Instr.slice,Instr.sliceBounds,Instr.sliceBound,kb,cp,run_underlying hu,bY,(aL _ _ hp).run_sizeOf,db,kW,uw,df aE dg,q0];rw[b2 ⟨Z,Z⟩];simp
   ·rename_i aB gl hb agG k2 hp fg gB;obtain⟨N4,rfl,dg⟩:=ur.1 fg;obtain⟨JT,rfl,A'⟩:=ur.1 gB;obtain⟨l,ad,rfl,rfl,bn,si,ae⟩:=ak;refine hG ?_ ae;simp only[execOp,Instr.sliceAt,Instr.slice,Instr.sliceBounds,Instr.sliceBound,kb,cp,run_underlying hu,bY,(aL _ _ hp).run_sizeOf,db,kW,uw,df aE dg,df aE A',q0];rw[b2 ⟨Z,Z⟩];simp only[db,bY,hC];rw[b2 ⟨Z,Z⟩];simp
   grind
  ·rename_i sz hD z s au ab ih;have N3:mx=none:=by simpa using ih
   subst N3;have hu:=(aL _ _ au).string;have kb:=df aE ab;split at ak
   ·rename_i fg gB;have uB:lo=none:=by simpa using fg
    have A8:hi=none:=by simpa using gB
    subst uB;subst A8;refine hG ?_ ak;have aK:s.extract 0 s.size=s:=by simp
    simp[execOp,Instr.sliceAt,Instr.slice,Instr.sliceBounds,kb,run_underlying hu]
   ·rename_i gl k2 fg gB;have uB:lo=none:=by simpa using fg
    subst uB;obtain⟨JT,rfl,dg⟩:=ur.1 gB;obtain⟨l,ad,v0,rfl,bn,si,ae⟩:=ak;refine hG ?_ ae;simp only[execOp,Instr.sliceAt,Instr.slice,Instr.sliceBounds,Instr.sliceBound,kb,cp,run_underlying hu,bY,db,kW,uw,df aE dg];simp only[NO,lE,mB,cp,db,bY,q0];simp_all
   ·rename_i gl hb fg gB;have A8:hi=none:=by simpa using gB
    subst A8;obtain⟨N4,rfl,dg⟩:=ur.1 fg;obtain⟨l,ad,rfl,A9,bn,si,ae⟩:=ak;simp only[uv]at *;refine hG ?_ ae;simp only[execOp,Instr.sliceAt,Instr.slice,Instr.sliceBounds,Instr.sliceBound,kb,cp,run_underlying hu,bY,db,kW,uw,df aE dg];simp only[NO,lE,mB,cp,db,bY,q0];simp_all
   ·rename_i gl hb agG k2 fg gB;obtain⟨N4,rfl,dg⟩:=ur.1 fg;obtain⟨JT,rfl,A'⟩:=ur.1 gB;obtain⟨l,ad,rfl,rfl,bn,si,ae⟩:=ak;refine hG ?_ ae;simp only[execOp,Instr.sliceAt,Instr.slice,Instr.sliceBounds,Instr.sliceBound,kb,cp,run_underlying hu,bY,db,kW,uw,df aE dg,df aE A'];simp only[NO,lE,mB,cp,db,bY,q0];rw[b2 ⟨Z,Z⟩];simp_all
   grind
  ·rename_i sz hD z e bN n c awy Ba au ab ih;obtain⟨awz,rfl,agH⟩:=ur.1 ih;have hu:=(aL _ _ au).slice;have kb:=df aE ab;split at ak
   ·rename_i aB gl k2 hp fg gB;have uB:lo=none:=by simpa using fg
    subst uB;obtain⟨JT,rfl,dg⟩:=ur.1 gB;obtain⟨l,m,rfl,rfl,bn,si,ae⟩:=ak;refine hG ?_ ae;simp only[execOp,Instr.sliceAt,Instr.slice,Instr.sliceBounds,Instr.sliceBound,kb,cp,run_underlying hu,bY,(aL _ _ hp).run_sizeOf,db,kW,uw,df aE dg,df aE agH,q0];rw[b2 ⟨Z,Z⟩];simp only[db,bY,hC];rw[b2 ⟨Z,Z⟩];rfl
   grind
  grind
 case extract x i=>
  simp only[cK]at ak;split at ak
  ·rename_i vs ab;split at ak
   ·rename_i v hi;refine hG ?_ ak;have cz:vs[i]?=some v:=by grind
    simp[execOp,Instr.extract,df aE ab,cz]
   grind
  grind
 case convert s d x=>
  simp only[cK]at ak;split at ak;·rename_i awA sz hD z k e4 n av au ab;have hu:=(aL _ _ au).int;obtain⟨ds,fI,_⟩:=(aL _ _ av).fp;obtain⟨r,af,ae⟩:=ak;refine hG ?_ ae;simp only[execOp,convert,df aE ab,cp,run_underlying fI,run_underlying hu,bY];simp only[Conv.intToInt,af,db,bY]
  grind
 case call c=>
  obtain⟨callee,args,argTypes⟩:=c;cases callee with
  |value f=>exact .inl ak| invoke r m=>exact .inl ak
  |builtin b=>
   cases b
   case len=>
    simp only[cK]at ak;split at ak
    ·rename_i t v aa ad;have aK:=tb aE ad;have eu:args.map a.eval=#[v]:=by grind
     have au:argTypes=#[t]:=by grind
     subst au;split at ak;·rename_i sz hD z e aR n c a6;have hu:=(aL _ _ a6).slice;refine hG ?_ ak;simp[execOp,resolve,invoke,builtin,Builtin.len_,eu,run_underlying hu,goInt]
     ·rename_i sz hD z s a6;have hu:=(aL _ _ a6).string;refine hG ?_ ak;simp[execOp,resolve,invoke,builtin,Builtin.len_,eu,run_underlying hu,goInt]
     ·rename_i sz hD z n e a6;have hu:=(aL _ _ a6).array;refine hG ?_ ak;simp[execOp,resolve,invoke,builtin,Builtin.len_,eu,run_underlying hu,goInt]
     grind
    grind
   case cap=>
    simp only[cK]at ak;split at ak
    ·rename_i t v aa ad;have aK:=tb aE ad;have eu:args.map a.eval=#[v]:=by grind
     have au:argTypes=#[t]:=by grind
     subst au;split at ak;·rename_i sz hD z e aR n c a6;have hu:=(aL _ _ a6).slice;refine hG ?_ ak;simp[execOp,resolve,invoke,builtin,Builtin.cap_,eu,run_underlying hu,goInt]
     grind
    grind
   case max=>
    simp only[cK]at ak;split at ak
    ·rename_i k p e4 q ad;have aK:=tb aE ad;have eu:args.map a.eval=#[.int k p,.int e4 q]:=by grind
     refine hG ?_ ak;have hm:(if q > p then q else p)=max p q:=by split<;>omega
     simp only[execOp,resolve,invoke,builtin,Builtin.max_,Builtin.max2,eu,cp,db,bY,List.foldlM_cons,List.foldlM_nil,hm]
    grind
   case min=>
    simp only[cK]at ak;split at ak
    ·rename_i k p e4 q ad;have aK:=tb aE ad;have eu:args.map a.eval=#[.int k p,.int e4 q]:=by grind
     refine hG ?_ ak;have hm:(if q<p then q else p)=min p q:=by split<;>omega
     simp only[execOp,resolve,invoke,builtin,Builtin.min_,Builtin.min2,eu,cp,db,bY,List.foldlM_cons,List.foldlM_nil,hm]
    grind
   case unsafeSliceData=>
    simp only[cK]at ak;split at ak
    ·rename_i n c ad;have aK:=tb aE ad;have eu:args.map a.eval=#[.slice none n c]:=by grind
     refine hG ?_ ak;simp only[execOp,resolve,invoke,builtin,eu,cp,db,bY,Lib.run_unsafeSliceData_nil]
    ·rename_i aR n c ad;obtain⟨aj,ak⟩:=ak;have aK:=tb aE ad;have eu:args.map a.eval=#[.slice (some aR) n c]:=by grind
     refine hG ?_ ak;simp only[execOp,resolve,invoke,builtin,eu,cp,db,bY,Lib.run_unsafeSliceData_row _ _ _ _ _ _ (show c≠0 by omega)]
    grind
   all_goals exact .inl ak
 all_goals exact .inl ak
theorem Dn(aL:cU X.P X.E)(ai:∀ d,o.dst=some d->d<X.n)(h:Rel X a w F C I M)(ak:gb X o F C I M K):o.wpIn (g2 X) 0 X.P a w (Sat X K) Q:=by
 have aM:=h;obtain⟨β,h⟩:=h;obtain⟨dst,op,ty,pos,after,guard⟩:=o;have other:bC X ⟨dst,op,ty,pos,after,guard⟩ F C I M K->(⟨dst,op,ty,pos,after,guard⟩:Oper).wpIn (g2 X) 0 X.P a w (Sat X K) Q:=λ⟨h⟩=>h a w Q aM;have aE:=h.an;have quiet:cK X op (dr F) C I M (λx=>K (Go.V.put dst x F) C I M) (bC X ⟨dst,op,ty,pos,after,guard⟩ F C I M K)->(∀ c,op≠.defer c)->(⟨dst,op,ty,pos,after,guard⟩:Oper).wpIn (g2 X) 0 X.P a w (Sat X K) Q:=λaO b'=>by
  rcases U1 aL h op ty dst pos after guard aO with aa | ⟨v,x,af,ab,ae⟩
  grind
  ·exact UR (o:=⟨dst,op,ty,pos,after,guard⟩) h ai b' af ab ae
 cases op
 case box t x=>
  simp only[gb]at ak;split at ak
  ·rename_i d v ab;have kb:=df aE ab;have af:(execOp a.eval ⟨some d,.box t x,ty,pos,after,guard⟩).run X.P w=.ok (.value (.pointer (some ⟨w.heap.size,0,none⟩))) (w.alloc (.cells v.cells t (0,0))):=by simp[execOp,Instr.box,newVar,newRow,kb]
   have jm:d<X.n:=ai d rfl;cases kc:X.gC.contains d with
   |true=>rw[kc]at ak;obtain⟨ak⟩:=ak;have ae:=ak w.heap.size h.holds.se h.holds.qZ;have aa:=(h.nX (.cells v.cells t (0,0))).NY d;exact ix am af ⟨_,_,_,_,⟨β,cM.put aa (dst:=some d) (x:=.val (.pointer (some ⟨w.heap.size,0,none⟩))) Z rfl⟩,ae⟩
   |false=>rw[kc]at ak;obtain⟨ov,aa⟩:=h.UN d jm v.cells.toList t;exact ix am af ⟨_,_,_,_,⟨ov,Z⟩,ak⟩
  grind
 case alloc t=>
  simp only[gb]at ak;split at ak
  ·rename_i d i hi;obtain⟨z,bg,Dl⟩:=(aL _ _ hi).F' w;have Dm:z.cells=i.zero.toArray:=by grind
   have af:(execOp a.eval ⟨some d,.alloc t,ty,pos,after,guard⟩).run X.P w=.ok (.value (.pointer (some ⟨w.heap.size,0,none⟩))) (w.alloc (.cells i.zero.toArray t (0,0))):=by simp[execOp,Instr.alloc,newVar,newRow,bg,Dm]
   have jm:d<X.n:=ai d rfl;cases kc:X.gC.contains d with
   |true=>rw[kc]at ak;obtain⟨ak⟩:=ak;have ae:=ak w.heap.size h.holds.se h.holds.qZ;have aa:=(h.nX (.cells i.zero.toArray t (0,0))).NY d;exact ix am af ⟨_,_,_,_,⟨β,cM.put aa (dst:=some d) (x:=.val (.pointer (some ⟨w.heap.size,0,none⟩))) Z rfl⟩,ae⟩
   |false=>rw[kc]at ak;obtain⟨ov,aa⟩:=h.UN d jm i.zero t;exact ix am af ⟨_,_,_,_,⟨ov,aa⟩,ak⟩
  grind
 case store t x y=>
  simp only[gb]at ak;split at ak
  ·rename_i i v hi aG;have te:=df aE aG;split at ak
   ·rename_i s off ab;have kb:=A5 aE ab;split at ak
    ·rename_i cs av;cases bn:(Nat.ble (off+i.size) cs.length&&(Nat.beq v.cells.size i.size&&fH v.cells.toList))with
     |false=>grind| true=>rw[bn]at ak;simp only[cC]at bn;obtain⟨bn,dk,qd⟩:=bn;have gf:=bJ bn;have Bb:=ea dk;obtain⟨T,a6⟩:=(h.cm s cs av).bl;have:=JS (aL _ _ hi) (a:=⟨β s,off,none⟩) (v:=v) rfl a6 Bb d4 qd;refine Dh am (w':=w.setRow (β s) (cd cs off v.cells.toList).toArray) ?_ ⟨_,_,_,_,⟨β,h.UP av (cd cs off v.cells.toList)⟩,ak⟩;simp only[execOp,Instr.storeAt,kb,te,Instr.sureAddr,cp,db,bY];simp_all
    grind
   ·rename_i aR ab;have kb:=uA aE ab;cases dk:Nat.beq v.cells.size i.size with
    |false=>grind| true=>rw[dk]at ak;obtain⟨a9,post,cs,T,bc,di,ag,qd,ae⟩:=ak;have Bb:=ea dk;have aw:w.heap[aR.block]?=some (.cells cs T (0,0)):=h.holds.m ⟨aR.block,.cells cs T (0,0)⟩ d5;have:=JS (aL _ _ hi) (v:=v) di aw Bb ag qd;refine Dh am (w':=w.setRow aR.block (cd cs.toList aR.off v.cells.toList).toArray) ?_ ⟨_,_,_,_,⟨β,h.xy bc⟩,ae⟩;simp only[execOp,Instr.storeAt,kb,te,Instr.sureAddr,cp,db,bY];simp_all
   grind
  grind
 case buildSlice t len parts=>
  simp only[gb]at ak;split at ak
  ·rename_i sz hD z e vs au ij;have hu:=(aL _ _ au).slice;have aI:=JP aE ij;have y1:(parts.map λ(i,x)=>(i,a.eval x)).toList=vs:=by simpa using aI
   split at ak
   ·rename_i aB hp;cases bg:(Nat.ble (len*aB.size) 16777216&&Nat.blt 0 (len*aB.size))with
    |false=>
     rw[bg]at ak;simp only[cD]at ak;split at ak
     ·rename_i agI;obtain⟨ak⟩:=ak;have ae:=ak w.heap.size h.holds.se h.holds.qZ;refine ix am (v:=.slice (some ⟨w.heap.size,0,none⟩) 0 0) (w':=w.alloc (.cells #[] e (0,0))) ?_ ⟨_,_,_,_,⟨β,(h.nX _).put (x:=.val (.slice (some ⟨w.heap.size,0,none⟩) 0 0)) ai rfl⟩,ae⟩;simp only[execOp,Instr.buildSlice,cp,bY,run_underlying hu,(aL _ _ hp).run_sizeOf,y1];have eB:∀ f:Nat->Value,Array.map f (Array.range 0)=#[]:=λf=>by apply Array.ext<;>simp
      simp[newRow,Instr.fill,eB]
     grind
    |true=>
     rw[bg]at ak;simp only[cF]at ak;rw[cC]at bg;have bn:=bJ bg.1;have lK:0<len*aB.size:=by simpa using bg.2
     split at ak;·rename_i cells A7;obtain⟨tf,Bc,Dl⟩:=(aL _ _ hp).F' w;obtain⟨ak⟩:=ak;have ae:=ak w.heap.size h.holds.se h.holds.qZ;refine ix am (v:=.slice (some ⟨w.heap.size,0,none⟩) len len) (w':=w.alloc (.cells cells.toArray e (0,0))) ?_ ⟨_,_,_,_,⟨β,(h.nX _).put (x:=.val (.slice (some ⟨w.heap.size,0,none⟩) len len)) ai rfl⟩,ae⟩;have xA:=fill_eq _ _ _ _ A7;simp only[execOp,Instr.buildSlice,cp,bY,run_underlying hu,(aL _ _ hp).run_sizeOf];rw[bS Z];simp only[bS (show ¬ len*aB.size=0 by omega),cp,Bc,bY,db,y1,UX tf aB.zero Dl,xA];simp[newRow,World.alloc_eq]
     grind
   grind
  grind
 case makeSlice t l c=>
  simp only[gb]at ak;split at ak
  ·rename_i sz hD z e ft eF cr c' au az ao;have hu:=(aL _ _ au).slice;split at ak
   ·rename_i aB hp;obtain⟨n,m,rfl,rfl,nn,ag,hm,⟨ak⟩⟩:=ak;have ae:=ak w.heap.size h.holds.se h.holds.qZ;obtain⟨inf,tf,fq,iy,iz,k3,Bd⟩:=(aL _ _ hp).inf;refine ix am (v:=.slice (some ⟨w.heap.size,0,none⟩) n m) (w':=w.alloc (.cells (rowOf aB.zero (m*aB.size)).toArray e (0,0))) ?_ ⟨_,_,_,_,⟨β,(h.nX _).put (x:=.val (.slice (some ⟨w.heap.size,0,none⟩) n m)) ai rfl⟩,ae⟩;have il:((aB.bytes:Nat):Int)*(m:Int)<=281474976710656:=by omega
    have:=run_make (P:=X.P) w t e inf tf hu fq k3 ft cr (n:Int) (m:Int) Z Z d5 Z;simp only[execOp,df aE az,df aE ao,cp,this,bY,db,hC];have aK:madeCells tf.cells (m*inf.size)=(rowOf aB.zero (m*aB.size)).toArray:=by rw[iy,<-Bd];simp[s']
    rw[aK]
   grind
  grind
 case call c=>
  obtain⟨callee,args,argTypes⟩:=c;cases callee with
  |value f=>
   simp only[gb]at ak;split at ak
   ·rename_i g first cap vs y2 ij
    have aK:=tb aE ij;have eu:args.map a.eval=vs.toArray:=by grind
    have e':∀ {n:Next} {w':World},(callFunc g (first.toList++vs++cap.toList).toArray).run X.P w=.ok n w'->(execOp a.eval ⟨dst,.call { callee:=.value f,args,argTypes },ty,pos,after,guard⟩).run X.P w=.ok n w':=λaf=>by simp only[execOp,resolve,df aE y2,Deferred.ofValue,cp,db,bY,eu,invoke];rw[show first++vs.toArray++cap=(first.toList++vs++cap.toList).toArray from by simp];exact af
    rcases h.call ak with⟨qc,Be⟩ | ⟨v,w',I',M',af,ae,fB⟩;·refine UW am (f:=g) (args:=(first.toList++vs++cap.toList).toArray) (e' (qc _ _)) ?_;refine Be.mono ?_;rintro e w'⟨v,I',M',rfl,ae,af⟩;exact⟨v,rfl,_,_,_,_,⟨β,af.put (x:=.val v) ai rfl⟩,ae⟩
    ·exact ix am (e' af) ⟨_,_,_,_,⟨β,fB.put (x:=.val v) ai rfl⟩,ae⟩
   grind
  |invoke r m=>exact quiet ak am
  |builtin b=>
   cases b
   all_goals exact quiet ak am
 case defer c=>exact other ak
 all_goals exact quiet ak am
end
section
variable{X:cN}{β:Nat->Nat}{a:Act}{w:World}{F:Fr}{C:de}{I:aH}{M:List aA}{o:Oper}{Q:Exit->Act->World->Prop}{K:fz}
theorem Dp{a:Act}{d:Nat}{c:Bool}(h:a.tmps.getD d undef=.bool c):a.tmps[d]?=some (.bool c):=by
 rw[p8]at h;cases ai:a.tmps[d]? with
 |none=>rw[ai]at h;cases h| some v=>grind
theorem Gd{ops:Array Oper}{j d:Nat}(ai:(ops[j]?).bind (·.dst)=some d)(tmps:Array Value):yielded ops tmps j=match tmps[d]? with
  |some (.bool b)=>some b| _=>none:=by
 unfold yielded
 grind
def cM.refine(h:cM X β a w F C I M){c7:Fr}(bw:∀ t,e9 β (c7 t) (a.tmps.getD t undef)):cM X β a w c7 C I M:={ h with an:=bw }
theorem U2(aL:cU X.P X.E)(ops:Array Oper)(kd:∀ a w,Sat X K a w->Q .normal a w):∀ (l:List Oper) (k:Nat),(∀ j,l[j]?=ops[k+j]?)->(∀ o∈l,∀ d,o.dst=some d->d<X.n) -> ∀ {F C I M a w},Rel X a w F C I M->nW X ops.toList l F C I M K->wpOpsIn (g2 X) 0 X.P ops Q (List.range' k l.length) a w
 |[],k,_,_,F,C,I,M,a,w,aM,ak=>kd _ _ ⟨F,C,I,M,aM,ak⟩
 |o::bm,k,az,ai,F,C,I,M,a,w,aM,ak=>by
  have ax:ops[k]?=some o:=by simpa using(az 0).symm
  have pk:∀ j,bm[j]?=ops[k+1+j]?:=λj=>by have:=az (j+1);grind
  have fO:∀ o∈bm,∀ d,o.dst=some d->d<X.n:=λo aD=>ai o (by simp[aD]);have y3:=ai o am;have aQ:=@U2 aL ops kd bm (k+1) pk fO;simp only[ep,NP,wpOpsIn,ax];have run:∀ {F C I M},Rel X a w F C I M->gb X o F C I M (λF C I M=>nW X ops.toList bm F C I M K)->o.wpIn (g2 X) 0 X.P a w (wpOpsIn (g2 X) 0 X.P ops Q (List.range' (k+1) bm.length)) Q:=λaM ak=>
   s6 (λbN w' ⟨c7,C',I',M',af,ae⟩=>aQ af ae) (Dn aL y3 aM ak)
  have skip:∀ {F C I M},Rel X a w F C I M->nW X ops.toList bm (put o.dst (.val undef) F) C I M K->(∀ f,o.about X.P w a.eval=some f->(g2 X).fn f)/\wpOpsIn (g2 X) 0 X.P ops Q (List.range' (k+1) bm.length) (a.put o.dst undef) w:=λ⟨β,af⟩ ak=>
   ⟨λ_ _=>trivial,aQ ⟨β,af.put (x:=.val undef) y3 rfl⟩ ak⟩
  unfold nW at ak;cases aw:o.guard with
  |none=>
   rw[aw]at ak;have hw:Region.wanted o (yielded ops a.tmps)=true:=by simp[Region.wanted,aw]
   grind
  |some Ge=>
   obtain⟨j,b⟩:=Ge;rw[aw]at ak;simp only at ak;cases ah:(ops.toList[j]?).bind (·.dst)with
   |none=>grind
   |some d=>
    rw[ah]at ak;simp only at ak;have jA:(ops[j]?).bind (·.dst)=some d:=by grind
    have aG:=Gd jA a.tmps;obtain⟨β,af⟩:=aM;have bw:=af.an d;split at ak
    ·rename_i c ao;rw[ao]at bw;have Gf:=Dp bw;have Gg:Region.wanted o (yielded ops a.tmps)=(c == b):=by simp[Region.wanted,aw,aG,Gf]
     rw[Gg];cases lL:(c == b)with
     |true=>rw[lL]at ak;simp only[s7];exact run ⟨β,af⟩ ak| false=>rw[lL]at ak;simp only[lE,mB];exact skip ⟨β,af⟩ ak
    ·rename_i c ao;rw[ao]at bw;have Gf:=Dp bw;have Gg:Region.wanted o (yielded ops a.tmps)=(c == b):=by simp[Region.wanted,aw,aG,Gf]
     rw[Gg];obtain⟨N5,ma⟩:=ak;have set:∀ x:Bool,c=x->Rel X a w (gS F d (.lit x)) C I M:=λx ab=>⟨β,af.refine λt=>by
      unfold gS;by_cases e:t=d;·subst e;simp only[ta,cF];rw[<-ab];exact bw
      ·simp only[hF e,cD];exact af.an t⟩
     by_cases lL:c=b
     grind
     ·have ad:c=!b:=by cases c<;>cases b<;>simp_all
      grind
    ·rename_i vs ao;rw[ao]at bw;have v3:yielded ops a.tmps j=none:=by
      rw[aG];cases jB:a.tmps[d]? with
      |none=>rfl
      |some v=>
       simp only[e9,p8,jB,lF]at bw
       grind
     have Gg:Region.wanted o (yielded ops a.tmps)=false:=by simp[Region.wanted,aw,v3]
     rw[Gg];simp only[lE,mB];exact skip ⟨β,af⟩ ak
    grind
end
inductive y4:dx->dx->Prop
 |refl{x}:y4 x x| lit {b}:y4 (.lit b) (.val (.bool b))| nl {x}:y4 x .nl
def q3:List (Nat×dx)->Fr
 |[],_=>.nl|(t,x)::l,s=>bif Nat.beq s t then x else q3 l s
def q4:List (Nat×List Value)->de
 |[],_=>none|(t,x)::l,s=>bif Nat.beq s t then some x else q4 l s
inductive k4(F:Fr):List (Nat×dx)->Prop
 |nil:k4 F []| cons {t x l} (h:y4 (F t) x) (k:k4 F l):k4 F ((t,x)::l)
inductive y5(C:de):List (Nat×List Value)->Prop
 |nil:y5 C []| cons {t x l} (h:C t=some x) (k:y5 C l):y5 C ((t,x)::l)
def agJ{β:Nat->Nat}{x y:dx}(h:y4 x y)(ab:e9 β x v):e9 β y v:=by
 cases h with
 |refl=>exact ab| lit=>exact ab| nl=>trivial
def k4.ok{β:Nat->Nat}{F:Fr}(h:∀ t,e9 β (F t) (a.tmps.getD t undef)){l:List (Nat×dx)}(az:k4 F l)(t:Nat):e9 β (q3 l t) (a.tmps.getD t undef):=by
 induction az with
 |nil=>trivial
 | @cons bi x l ab k aQ=>
  unfold q3;by_cases e:t=bi;·subst e;simp only[ta,cF];exact agJ ab (h t)
  ·simp only[hF e,cD];exact aQ
theorem y5.ok{C:de}{l:List (Nat×List Value)}(az:y5 C l){s:Nat}{cs:List Value}(h:q4 l s=some cs):C s=some cs:=by
 induction az with
 |nil=>cases h
 | @cons bi x l ab k aQ=>
  unfold q4 at h;by_cases e:s=bi
  grind
  ·simp only[hF e,cD]at h;exact aQ h
def cM.dJ{X:cN}{β:Nat->Nat}{F:Fr}{C:de}{I:aH}{M:List aA}(h:cM X β a w F C I M){bp:List (Nat×dx)}{cl:List (Nat×List Value)}(bw:k4 F bp)(gg:y5 C cl):cM X β a w (q3 bp) (q4 cl) I M:=
 { h with
  an:=bw.ok h.an
  cm:=λs cs av=>h.cm s cs (gg.ok av)
  inj:=λs cq aa ad=>by
   obtain⟨fP,aK⟩:=JI.1 aa;obtain⟨fr,ba⟩:=JI.1 ad;exact h.inj s cq (by rw[gg.ok aK];simp) (by rw[gg.ok ba];simp) }
inductive sj where
 |normal| exit (id:Nat)| goto (l:Nat)| ret
abbrev jC:=sj->fz
def uC(N:fz)(K:jC):jC
 | .normal=>N| .exit id=>K (.exit id)| .goto l=>K (.goto l)| .ret=>K .ret
def U3(id:Nat)(K:jC):jC
 | .normal=>K .normal| .exit j=>bif Nat.beq j id then K .normal else K (.exit j)| .goto l=>K (.goto l)| .ret=>K .ret
def mF(X:cN)(K:jC):Exit->Act->World->Prop
 | .normal,a,w=>Sat X (K .normal) a w| .exit id,a,w=>Sat X (K (.exit id)) a w| .goto l,a,w=>Sat X (K (.goto l)) a w| .ret,a,w=>Sat X (K .ret) a w| .panic _,_,_=>False| .outgrown,_,_=>False
abbrev Body:=Fr->de->aH->List aA->jC->Prop
structure xB where
 bp:List (Nat×dx)
 cl:List (Nat×List Value):=[]
 cO:aH
 c5:List aA:=[]
inductive qe{ι:Type}(foot:List Nat)(a2:ι->xB)(p:ι->Prop)(F:Fr)(C:de)(I:aH)(M:List aA):Prop
 |mk(j:ι)(aI:p j)(hw:hS foot I M (a2 j).cO (a2 j).c5)(bw:k4 F (a2 j).bp)(gg:y5 C (a2 j).cl)
def N6(body:Body)(K:jC):Nat->fz
 |0=>λ_ _ _ _=>False
 |n+1=>λF C I M=>body F C I M (uC (N6 body K n) K)
inductive du(foot:List Nat)(body:Body)(F:Fr)(C:de)(I:aH)(M:List aA)(K:jC):Prop
 |inv {ι:Type} (a2:ι->xB) (inv:ι->Prop) (μ:ι->Nat) (start:qe foot a2 inv F C I M) (round:∀ i,inv i->body (q3 (a2 i).bp) (q4 (a2 i).cl) (a2 i).cO (a2 i).c5 (uC (qe foot a2 λj=>inv j/\μ j<μ i) K))| agK (n:Nat) (h:N6 body K n F C I M)| uD {ι:Type} (a2:ι->xB) (inv:ι->Prop) (μ:ι->Nat) (start:l7 I M->qe foot a2 inv F C I M) (round:∀ i,inv i->body (q3 (a2 i).bp) (q4 (a2 i).cl) (a2 i).cO (a2 i).c5 (uC (λF C I M=>l7 I M->qe foot a2 (λj=>inv j/\μ j<μ i) F C I M) K))
inductive cY(X:cN)(c:Code)(F:Fr)(C:de)(I:aH)(M:List aA)(K:jC):Prop
 |mk(h:∀ a w,Rel X a w F C I M->c.wpIn (g2 X) 0 X.P (mF X K) a w)
inductive agL(foot:List Nat)(F:Fr)(C:de)(I:aH)(M:List aA)(K:fz):Prop
 |go(h:K F C I M)| agM (l:xB) (hw:hS foot I M l.cO l.c5) (bw:k4 F l.bp) (gg:y5 C l.cl) (h:K (q3 l.bp) (q4 l.cl) l.cO l.c5)
def V(X:cN):Code->Fr->de->aH->List aA->jC->Prop
 | .skip,F,C,I,M,K=>K .normal F C I M| .label l,F,C,I,M,K=>bif Nat.ble 2 l then agL X.foot F C I M (K .normal)else K .normal F C I M| .ret,F,C,I,M,K=>K .ret F C I M| .exit id,F,C,I,M,K=>K (.exit id) F C I M| .goto l,F,C,I,M,K=>K (.goto l) F C I M| .seq x y,F,C,I,M,K=>V X x F C I M (uC (λF C I M=>V X y F C I M K) K)| .block id c,F,C,I,M,K=>V X c F C I M (U3 id K)
 | .cond c x y,F,C,I,M,K=>
  match dr F c with
  | .lit b=>bif b then V X x F C I M K else V X y F C I M K| .val (.bool b)=>aZ b (V X x F C I M K) (V X y F C I M K)| _=>False
 | .loop c,F,C,I,M,K=>du X.foot (V X c) F C I M K| .region _ ops false,F,C,I,M,K=>nW X ops.toList ops.toList F C I M (K .normal)| .region id ops true,F,C,I,M,K=>cY X (.region id ops true) F C I M K| .rangeFunc f ps fi body,F,C,I,M,K=>cY X (.rangeFunc f ps fi body) F C I M K| .scope c,F,C,I,M,K=>cY X (.scope c) F C I M K| .refuse _,_,_,_,_,_=>False
def xC(n:Nat)(ops:Array Oper):Bool:=ops.toList.all λo=>match o.dst with
 |some d=>Nat.blt d n| none=>true
def codeOk(n:Nat):Code->Bool
 | .seq x y=>codeOk n x&&codeOk n y| .block _ c=>codeOk n c| .cond _ x y=>codeOk n x&&codeOk n y| .loop c=>codeOk n c| .region _ ops _=>xC n ops| _=>true
theorem JU{ops:Array Oper}(h:xC n ops=true):∀ o∈ops.toList,∀ d,o.dst=some d->d<n:=by intro o aD d ai;have:=fN.1 h o aD;simp_all
def mF.then{X:cN}{N:fz}{K:jC}(aC:∀ a w,Sat X N a w->next a w):∀ e a w,mF X (uC N K) e a w->Exit.then next (mF X K) e a w:=by
 intro e a w h;cases e<;>first | exact aC _ _ h | exact h
def JV(J:Nat->Act->World->Prop)(agN:J m a w)
  (round:∀ m a w,J m a w->c.wpIn sb n P (Exit.then (λbN w'=>∃ m',m'<m/\J m' bN w') Q) a w):(Code.loop c).wpIn sb n P Q a w:=by
 intro b k cs iS ag af;have key:∀ j a w,J j a w->∃ e bN w',Q e bN w'/\ArrivesIn (Machine.fenced P sb) P (lone (b.atR a (.code c::.inLoop c::k)) cs w) b k cs e bN w':=by
  intro j
  induction j using Nat.strongRecOn with
  |_ j aQ=>
   intro a w bE;obtain⟨e,jX,jY,aO,iT⟩:=round j a w bE b (.inLoop c::k) cs iS ag af;cases e with
   |normal=>obtain⟨m',a1,agO⟩:=aO;obtain⟨Gh,Gi,Gj,Gk,Gl⟩:=aQ m' a1 jX jY agO;exact⟨Gh,Gi,Gj,Gk,.of_steps (StepsIn.trans iT (.one (fenced_calm ag af rfl) stepR_inLoop)) Gl⟩
   |exit id=>exact⟨_,jX,jY,aO,.pass (x:=.inLoop c) rfl am iT⟩| goto l=>exact⟨_,jX,jY,aO,.pass (x:=.inLoop c) rfl am iT⟩| ret=>exact⟨_,jX,jY,aO,.pass (x:=.inLoop c) rfl am iT⟩| panic Gm=>exact⟨_,jX,jY,aO,.pass (x:=.inLoop c) rfl am iT⟩| outgrown=>exact⟨_,jX,jY,aO,.pass (x:=.inLoop c) rfl am iT⟩
 obtain⟨e,bN,w',aO,iT⟩:=key _ a w agN;exact⟨e,bN,w',aO,.of_steps (.one (fenced_calm ag af rfl) stepR_loop) iT⟩
theorem q5{X:cN}(aL:cU X.P X.E):∀ (c:Code) {F C I M K a w},codeOk X.n c=true->Rel X a w F C I M->V X c F C I M K->c.wpIn (g2 X) 0 X.P (mF X K) a w
 | .skip,F,C,I,M,K,a,w,_,aM,ak=>wpIn_skip ⟨F,C,I,M,aM,ak⟩
 | .label l,F,C,I,M,K,a,w,_,aM,ak=>by
  refine wpIn_label ?_;simp only[V]at ak;cases az:Nat.ble 2 l with
  |false=>rw[az]at ak;exact⟨F,C,I,M,aM,ak⟩
  |true=>
   rw[az]at ak;simp only[cF]at ak;cases ak with
   |go h=>exact⟨F,C,I,M,aM,h⟩| agM l hw bw gg h=>obtain⟨β,af⟩:=aM;exact⟨_,_,_,_,⟨β,(af.dJ bw gg).hT hw⟩,h⟩
 | .ret,F,C,I,M,K,a,w,_,aM,ak=>wpIn_ret ⟨F,C,I,M,aM,ak⟩| .exit id,F,C,I,M,K,a,w,_,aM,ak=>wpIn_exit ⟨F,C,I,M,aM,ak⟩| .goto l,F,C,I,M,K,a,w,_,aM,ak=>wpIn_goto ⟨F,C,I,M,aM,ak⟩| .seq x y,F,C,I,M,K,a,w,bf,aM,ak=>by simp only[codeOk,cC]at bf;refine wpIn_seq (wpIn_mono (q5 aL x bf.1 aM ak) (mF.then ?_));rintro a w⟨c7,C',I',M',af,ae⟩;exact q5 aL y bf.2 af ae
 | .block id c,F,C,I,M,K,a,w,bf,aM,ak=>by
  refine wpIn_block (wpIn_mono (q5 aL c bf aM ak) ?_);intro e a w h;cases e with
  |exit j=>
   simp only[mF,U3]at h;simp only[Exit.inBlock];by_cases e:j=id;·subst e;simp only[ta,cF]at h;rw[b2 rfl];exact h
   ·simp only[hF e,cD]at h;rw[bS e];exact h
  |_=>exact h
 | .cond c x y,F,C,I,M,K,a,w,bf,aM,ak=>by
  simp only[codeOk,cC]at bf;obtain⟨β,af⟩:=aM;simp only[V]at ak;split at ak
  ·rename_i b ag;have ao:=NU af.an ag;refine wpIn_cond ao ?_;cases b
   ·exact q5 aL y bf.2 ⟨β,af⟩ ak
   ·exact q5 aL x bf.1 ⟨β,af⟩ ak
  ·rename_i b ag;have ao:=uA af.an ag;refine wpIn_cond ao ?_;obtain⟨aa,ad⟩:=ak;cases b
   ·exact q5 aL y bf.2 ⟨β,af⟩ (ad rfl)
   ·exact q5 aL x bf.1 ⟨β,af⟩ (aa rfl)
  grind
 | .loop c,F,C,I,M,K,a,w,bf,aM,ak=>by
  have aQ:=@q5 X aL c;simp only[V]at ak;have hinv:∀ {ι:Type} (a2:ι->xB) (inv:ι->Prop) (μ:ι->Nat) (start:l7 I M->qe X.foot a2 inv F C I M)
    (round:∀ i,inv i->V X c (q3 (a2 i).bp) (q4 (a2 i).cl) (a2 i).cO (a2 i).c5 (uC (λF C I M=>l7 I M->qe X.foot a2 (λj=>inv j/\μ j<μ i) F C I M) K)),(Code.loop c).wpIn (g2 X) 0 X.P (mF X K) a w:=by
   intro ι a2 inv μ start round;let J (m:Nat) (a:Act) (w:World):Prop:=∃ i,inv i/\μ i=m/\Rel X a w (q3 (a2 i).bp) (q4 (a2 i).cl) (a2 i).cO (a2 i).c5
   have y6:∀ {p:ι->Prop} {a w},(∀ i,p i->inv i)->Sat X (λF C I M=>l7 I M->qe X.foot a2 p F C I M) a w->∃ i,p i/\J (μ i) a w:=by rintro p a w aI⟨F,C,I,M,⟨β,af⟩,eY⟩;obtain⟨j,sk,hw,bw,gg⟩:=eY ⟨af.holds.d,af.holds.cu⟩;exact⟨j,sk,j,aI j sk,rfl,β,(af.dJ bw gg).hT hw⟩
   obtain⟨i0,_,xD⟩:=y6 (λ_ h=>h) ⟨F,C,I,M,aM,start⟩;refine JV J xD ?_;rintro m a w⟨i,hi,rfl,af⟩;refine wpIn_mono (aQ bf af (round i hi)) ?_;intro e a w h;cases e with
   |normal=>obtain⟨j,⟨ah,a1⟩,a4⟩:=y6 d5 h;exact⟨_,a1,a4⟩
   |_=>exact h
  cases ak with
  | @inv ι a2 inv μ start round=>
   let J (m:Nat) (a:Act) (w:World):Prop:=∃ i,inv i/\μ i=m/\Rel X a w (q3 (a2 i).bp) (q4 (a2 i).cl) (a2 i).cO (a2 i).c5
   have y6:∀ {p:ι->Prop} {a w},(∀ i,p i->inv i)->Sat X (qe X.foot a2 p) a w->∃ i,p i/\J (μ i) a w:=by rintro p a w aI⟨F,C,I,M,⟨β,af⟩,⟨j,sk,hw,bw,gg⟩⟩;exact⟨j,sk,j,aI j sk,rfl,β,(af.dJ bw gg).hT hw⟩
   obtain⟨i0,_,xD⟩:=y6 (λ_ h=>h) ⟨F,C,I,M,aM,start⟩;refine JV J xD ?_;rintro m a w⟨i,hi,rfl,af⟩;refine wpIn_mono (aQ bf af (round i hi)) ?_;intro e a w h;cases e with
   |normal=>obtain⟨j,⟨ah,a1⟩,a4⟩:=y6 d5 h;exact⟨_,a1,a4⟩
   |_=>exact h
  |uD a2 inv μ start round=>exact hinv a2 inv μ start round
  |agK n h=>
   refine JV (λm a w=>Sat X (N6 (V X c) K m) a w) ⟨F,C,I,M,aM,h⟩ ?_;rintro m a w⟨F,C,I,M,af,ae⟩;cases m with
   |zero=>exact ae.elim
   |succ m=>
    refine wpIn_mono (aQ bf af ae) ?_;intro e a w h;cases e with
    |normal=>exact⟨m,A1 m,h⟩| _=>exact h
 | .region id ops false,F,C,I,M,K,a,w,bf,aM,ak=>by refine wpIn_region ?_;have:=U2 (K:=K .normal) (Q:=mF X K) aL ops (λ_ _ h=>h) ops.toList 0 am (JU bf) aM ak;simpa[Df]using this
 | .region id ops true,F,C,I,M,K,a,w,bf,aM,⟨ak⟩=>ak a w aM| .rangeFunc f ps fi body,F,C,I,M,K,a,w,bf,aM,⟨ak⟩=>ak a w aM| .scope c,F,C,I,M,K,a,w,bf,aM,⟨ak⟩=>ak a w aM| .refuse _,F,C,I,M,K,a,w,bf,aM,ak=>ak.elim
def xE(args:List Value):Fr:=λt=>match args[t]? with
 |some v=>.val v| none=>.nl
def po(X:cN)(F:Fr)(C:de)(I:aH)(M:List aA):List ResultVar->(List Value->Prop)->Prop
 |[],K=>K []
 | .tmp t::l,K=>match bG F (.tmp t)with
  | .val v=>po X F C I M l λvs=>K (v::vs)
  |_=>False
 | .cell t ty::l,K=>match dr F (.tmp t),X.E ty with
  | .ref s off,some i=>(match C s with
   |some cs=>bif Nat.ble (off+i.size) cs.length then po X F C I M l λvs=>K (pack i.bL.agg ((cs.drop off).take i.size)::vs)else False
   |none=>False)
  | .val (.pointer (some a)),some i=>aU I M a i.size λws=>po X F C I M l λvs=>K (pack i.bL.agg ws::vs)
  |_,_=>False
inductive v5(foot:List Nat)(I:aH)(M:List aA)(post:aH->List aA->Prop):Prop
 |mk(I':aH)(M':List aA)(hw:hS foot I M I' M')(h:post I' M')
def v7(X:cN)(bb:List ResultVar)(post:Value->aH->List aA->Prop):jC:=λex F C I M=>
 let done:Prop:=po X F C I M bb λvs=>match vs with
  |[v]=>v5 X.foot I M (post v)| vs=>v5 X.foot I M (post (.tuple vs.toArray))
 match ex with
 | .normal=>done| .ret=>done| _=>False
def Dq(tmps:Array Value):ResultVar->Sem Value
 | .tmp t=>pure (tmps.getD t undef)| .cell a t=>do loadVar t (<-asAddr (tmps.getD a undef))
def agP(fn:Func)(tmps:Array Value):results fn tmps=(do let vs <-fn.results.mapM (Dq tmps);pure (if h:vs.size=1 then vs[0]else .tuple vs)):=by rfl
theorem JW{X:cN}(aL:cU X.P X.E){β:Nat->Nat}{a:Act}{w:World}{F:Fr}{C:de}{I:aH}{M:List aA}(h:cM X β a w F C I M):∀ {bb:List ResultVar} {K:List Value->Prop},po X F C I M bb K -> ∃ vs,K vs/\(bb.mapM (Dq a.tmps)).run X.P w=.ok vs w
 |[],K,ak=>⟨[],ak,rfl⟩
 | .tmp t::l,K,ak=>by
  unfold po at ak;split at ak;·rename_i v aa;have aK:a.tmps.getD t undef=v:=df h.an aa;obtain⟨vs,ae,ba⟩:=JW aL h ak;refine⟨_,ae,?_⟩;simp only[F5,Dq,cp,db,bY,ba,aK]
  grind
 | .cell t ty::l,K,ak=>by
  unfold po at ak;split at ak
  ·rename_i s off i aa hi;have aK:a.tmps.getD t undef=.pointer (some ⟨β s,off,none⟩):=A5 h.an aa;split at ak
   ·rename_i cs av;cases bn:Nat.ble (off+i.size) cs.length with
    |false=>grind| true=>rw[bn]at ak;obtain⟨vs,ae,ba⟩:=JW aL h ak;have gf:=bJ bn;obtain⟨T,a6⟩:=(h.cm s cs av).bl;have cA:=JR (aL _ _ hi) (a:=⟨β s,off,none⟩) rfl a6 (vs:=(cs.drop off).take i.size) am d4;refine⟨_,ae,?_⟩;simp only[F5,Dq,cp,db,bY,ba,aK,asAddr,cA]
   grind
  ·rename_i aR i aa hi;have aK:a.tmps.getD t undef=.pointer (some aR):=uA h.an aa;obtain⟨ws,⟨di,cs,T,an,fh,ij,az⟩,ak⟩:=ak;obtain⟨vs,ae,ba⟩:=JW aL h ak;have cA:=JR (aL _ _ hi) di (fh.heap h.holds) ij az;refine⟨_,ae,?_⟩;simp only[F5,Dq,cp,db,bY,ba,aK,asAddr,cA]
  grind
def agQ{X:cN}(aL:cU X.P X.E){β:Nat->Nat}{F:Fr}{C:de}{I:aH}{M:List aA}(h:cM X β a w F C I M){K:List Value->Prop}(ak:po X F C I M fn.results.toList K) :
  ∃ vs,K vs/\(results fn a.tmps).run X.P w=.ok (match vs with | [v]=>v | vs=>.tuple vs.toArray) w:=by
 obtain⟨vs,ae,e⟩:=JW aL h ak;refine⟨vs,ae,?_⟩;rw[agP];have aK:(fn.results.mapM (Dq a.tmps)).run X.P w=.ok vs.toArray w:=by rw[UJ,Sem.run_map,e];rfl
 simp only[cp,aK,bY,db]
 match vs with
 |[]=>rfl| [v]=>rfl| u::v::l=>simp
theorem U4{sb:Fence}{n:Nat}{P:Program}{fn:Func}{tmps:Array Value}{R:Ending->World->Prop}:∀ (bb:List Nat) (w:World),bb.Nodup->(∀ r∈bb,w.heap[r]?=some (.deferred (some []))) -> (∀ w':World,w'.heap.size=w.heap.size->(∀ b,b ∉ bb->w'.heap[b]?=w.heap[b]?)->ou w w'->∃ v,(results fn tmps).run P w'=.ok v w'/\R (.returned v) w')->LeavesInM sb n P fn tmps R (bb.map xu) .returning w
 |[],w,_,_,h=>h w rfl am (.refl _)
 |r::bb,w,b',af,h=>by
  rw[lG]at b';refine⟨am,.inl ⟨r,_,rfl,run_takeDeferred (af r am),?_⟩⟩;refine U4 bb _ b'.2 (λv8 fB=>?_) λw' av ag aD=>h w' (by simp_all) (λb Dr=>?_) ((JQ _ _ _).trans aD)
  ·have bz:v8≠r:=λe=>b'.1 (e ▸ fB);rw[nh bz]
   grind
  ·simp only[er,not_or]at Dr;rw[ag b Dr.2,nh Dr.1]
theorem cM.take{X:cN}{β:Nat->Nat}{F:Fr}{C:de}{I:aH}{M:List aA}(h:cM X β a w F C I M){bb:List Nat}(dB:∀ r∈bb,vX X w I M r)(av:w'.heap.size=w.heap.size)(ag:∀ b,b ∉ bb->w'.heap[b]?=w.heap[b]?)(aD:ou w w') :
  cM X β { a with defers:=[] } w' F C I M:=by
 exact {
  size:=h.size
  defers:=⟨[],rfl,A2,am⟩
  holds:={
   i:=λb o iQ=>by rw[ag b (λaf=>by have:=(dB b af).jV;grind)];exact h.holds.i b o iQ
   m:=λx ab=>by rw[ag _ (λaf=>(dB _ af).e3 x ab rfl)];exact h.holds.m x ab
   d:=h.holds.d
   cu:=h.holds.cu }
  an:=h.an
  cm:=λs cs lM=>by have sm:=h.cm s cs lM;obtain⟨T,a6⟩:=sm.bl;refine { sm with bl:=⟨T,?_⟩ };rw[ag _ (λaf=>by have:=(dB _ af).bl;grind)];exact a6
  inj:=h.inj
  h5:=h.h5
  hE:=h.hE
  own:=h.own
  dI:=λb a1 aE=>by rw[ag _ (λaf=>by have:=(dB _ af).dJ;omega)];exact h.dI b a1 aE
  out:=h.out.trans aD
  sz:=by rw[av];exact h.sz
  fA:=h.fA }
def mF.ret{X:cN}(aL:cU X.P X.E){post:Value->aH->List aA->Prop}
  (aM:∀ v I M (w:World) (a:Act) (F:Fr) (C:de),Rel X a w F C I M->post v I M->R (.returned v) w):∀ e a w,mF X (v7 X fn.results.toList post) e a w->bodyPostM (g2 X) 0 X.P fn R e a w:=by
 have main:∀ a w,Sat X (v7 X fn.results.toList post .ret) a w->LeavesInM (g2 X) 0 X.P fn a.tmps R a.defers .returning w:=by
  rintro a w⟨F,C,I,M,⟨β,af⟩,ae⟩;simp only[v7]at ae;obtain⟨bb,ai,b',hm⟩:=af.defers;rw[ai];refine U4 bb w b' (λr eb=>(hm r eb).bl) λw' av ag aD=>?_;have fB:=af.take hm av ag aD;obtain⟨vs,aI,e'⟩:=agQ aL fB ae;refine⟨_,e',?_⟩
  match vs,aI with
  |[],⟨I',M',hw,aI⟩=>exact aM _ I' M' w' _ F C ⟨β,fB.hT hw⟩ aI| [v],⟨I',M',hw,aI⟩=>exact aM _ I' M' w' _ F C ⟨β,fB.hT hw⟩ aI| u::v::l,⟨I',M',hw,aI⟩=>exact aM _ I' M' w' _ F C ⟨β,fB.hT hw⟩ aI
 intro e a w h;cases e with
 |normal=>exact main a w h| ret=>exact main a w h| exit id=>obtain⟨F,C,I,M,_,ae⟩:=h;exact ae.elim
 |goto l=>obtain⟨F,C,I,M,_,ae⟩:=h;exact ae.elim
 |panic _=>exact h.elim| outgrown=>exact h.elim
theorem agR(aE:P.funcs[f]?=some fn)(ag:fn.body.isSome=true)(aC:(fn.name == "runtime.NumGoroutine")=false):NS P f:=by
 intro args w;have ha:fn.body.isNone=false:=by cases h:fn.body<;>simp_all
 simp only[callFunc,cp,run_program,bY,aE,aC,lE,mB,ha];rfl
theorem N7{E:Env}(gC:List Nat)(aL:cU P E)(aE:P.funcs[f]?=some fn)(ag:fn.body=some c)(aC:(fn.name == "runtime.NumGoroutine")=false)
 (bf:(codeOk fn.ntmps c&&Nat.ble args.length fn.ntmps)=true) {I:aH} {M:List aA} {post:Value->aH->List aA->Prop}
  (h:∀ B ax a w,Rel ⟨P,E,gC,fn.ntmps,B,ax,I,M.map (·.num),none⟩ a w (xE args) (λ_=>none) I M->c.wpIn (g2 ⟨P,E,gC,fn.ntmps,B,ax,I,M.map (·.num),none⟩) 0 P (mF ⟨P,E,gC,fn.ntmps,B,ax,I,M.map (·.num),none⟩ (v7 ⟨P,E,gC,fn.ntmps,B,ax,I,M.map (·.num),none⟩ fn.results.toList post)) a w) :
  vV P f args I M post:=by
 rw[cC]at bf;have cQ:=bJ bf.2;refine⟨agR aE d5 aC,λw k0=>?_⟩;let X:cN:=⟨P,E,gC,fn.ntmps,w.heap.size,w,I,M.map (·.num),none⟩
 have Gn:Rel X { tmps:=args.toArray++Array.replicate (fn.ntmps-args.toArray.size) undef,defers:=[] } w (xE args) (λ_=>none) I M:=⟨λ_=>0,{
  size:=by grind
  defers:=⟨[],rfl,A2,am⟩
  holds:=k0
  an:=λt=>by
   unfold xE;cases au:args[t]? with
   |none=>trivial
   |some v=>
    have a1:t<args.length:=(iP.1 au).1;simp only[e9,p8]
    grind
  cm:=λs cs av=>by cases av
  inj:=λs cq aa=>by simp at aa
  h5:=λb o ag=>ag
  hE:=λb o ag=>.inl ag
  own:=λx ab=>.inl d5
  dI:=λb ag aE=>rfl
  out:=.refl _
  sz:=cc _
  fA:=λx ab=>by
   obtain⟨y,aG,rfl⟩:=c3.1 ab;exact(l4.1 (k0.m y aG)).1 }⟩
 have JX:=h w.heap.size w _ _ Gn;refine(callsIn_wide (n:=0)).1 ?_;have agS:g2 X=Fence.wide:=rfl;rw[agS]at JX;refine callsIn_of_wp_marks aE ag trivial (wpIn_mono JX (mF.ret (X:=X) aL ?_));rintro v I' M' w' bN c7 C'⟨β,af⟩aI;refine⟨v,I',M',rfl,aI,af.holds,?_⟩;exact {
  le:=af.h5
  uz:=af.hE
  vU:=λx ab=>by
   rcases af.own x ab with aa | aa
   grind
   grind
  dI:=λb ag bz=>af.dI b ag d5
  out:=af.out
  sz:=af.sz }
def Bf{E:Env}(gC:List Nat)(aL:cU P E)(aE:P.funcs[f]?=some fn)(ag:fn.body=some c)(aC:(fn.name == "runtime.NumGoroutine")=false)
 (bf:(codeOk fn.ntmps c&&Nat.ble args.length fn.ntmps)=true) {I:aH} {M:List aA} {post:Value->aH->List aA->Prop}
  (h:∀ B ax,V ⟨P,E,gC,fn.ntmps,B,ax,I,M.map (·.num),none⟩ c (xE args) (λ_=>none) I M (v7 ⟨P,E,gC,fn.ntmps,B,ax,I,M.map (·.num),none⟩ fn.results.toList post)) :
  vV P f args I M post:=
 N7 gC aL aE ag aC bf λB ax a w af=>by rw[cC]at bf;exact q5 aL c bf.1 af (h B ax)
def bU{E:Env}(gC:List Nat)(aL:cU P E)(aE:P.funcs[f]?=some fn)(ag:fn.body=some c)(aC:(fn.name == "runtime.NumGoroutine")=false)
 (bf:(codeOk fn.ntmps c&&Nat.ble args.length fn.ntmps)=true) {I:aH} {M:List aA} {post:Value->aH->List aA->Prop}
  (h:∀ B ax,V ⟨P,E,gC,fn.ntmps,B,ax,I,M.map (·.num),none⟩ c (xE args) (λ_=>none) I M (v7 ⟨P,E,gC,fn.ntmps,B,ax,I,M.map (·.num),none⟩ fn.results.toList post)) :
  Spec P f args I M post:=.inl (Bf gC aL aE ag aC bf h)
def JY(X:cN)(bb:List ResultVar)(post:Value->aH->List aA->Prop):jC:=λex F C I M=>
 let done:Prop:=po X F C I M bb λvs=>match vs with
  |[v]=>l7 I M->v5 X.foot I M (post v)| vs=>l7 I M->v5 X.foot I M (post (.tuple vs.toArray))
 match ex with
 | .normal=>done| .ret=>done| _=>False
theorem JZ{X:cN}{F:Fr}{C:de}{I:aH}{M:List aA}:∀ {bb:List ResultVar} {K h6:List Value->Prop},(∀ vs,K vs->h6 vs)->po X F C I M bb K->po X F C I M bb h6
 |[],K,h6,h,ak=>h _ ak
 | .tmp t::l,K,h6,h,ak=>by
  unfold po at ak |-;split at ak;·exact JZ (λvs=>h _) ak
  omega
 | .cell t ty::l,K,h6,h,ak=>by
  unfold po at ak |-;split at ak
  ·rename_i s off i aa hi;split at ak
   ·rename_i cs av;cases bn:Nat.ble (off+i.size) cs.length with
    |false=>grind| true=>rw[bn]at ak;exact JZ (λvs=>h _) ak
   omega
  ·obtain⟨ws,a',ak⟩:=ak;exact⟨ws,a',JZ (λvs=>h _) ak⟩
  omega
theorem mF.agT{X:cN}{bb:List ResultVar}{post:Value->aH->List aA->Prop}:∀ e a w,mF X (JY X bb post) e a w->mF X (v7 X bb post) e a w:=by
 have one:∀ a w,Sat X (JY X bb post .ret) a w->Sat X (v7 X bb post .ret) a w:=by
  rintro a w⟨F,C,I,M,⟨β,af⟩,h⟩;refine⟨F,C,I,M,⟨β,af⟩,JZ (λvs ak=>?_) h⟩;have eY:l7 I M:=⟨af.holds.d,af.holds.cu⟩
  grind
 intro e a w h;cases e with
 |normal=>exact one a w h| ret=>exact one a w h| exit id=>obtain⟨F,C,I,M,af,ae⟩:=h;exact ae.elim
 |goto l=>obtain⟨F,C,I,M,af,ae⟩:=h;exact ae.elim
 |panic _=>exact h| outgrown=>exact h
def agU{E:Env}(gC:List Nat)(aL:cU P E)(aE:P.funcs[f]?=some fn)(ag:fn.body=some c)(aC:(fn.name == "runtime.NumGoroutine")=false)
 (bf:(codeOk fn.ntmps c&&Nat.ble args.length fn.ntmps)=true) {I:aH} {M:List aA} {post:Value->aH->List aA->Prop}
  (h:∀ B ax,V ⟨P,E,gC,fn.ntmps,B,ax,I,M.map (·.num),none⟩ c (xE args) (λ_=>none) I M (JY ⟨P,E,gC,fn.ntmps,B,ax,I,M.map (·.num),none⟩ fn.results.toList post)) :
  vV P f args I M post:=
 N7 gC aL aE ag aC bf λB ax a w af=>by rw[cC]at bf;exact wpIn_mono (q5 aL c bf.1 af (h B ax)) mF.agT
def xF{E:Env}(gC:List Nat)(aL:cU P E)(aE:P.funcs[f]?=some fn)(ag:fn.body=some c)(aC:(fn.name == "runtime.NumGoroutine")=false)
 (bf:(codeOk fn.ntmps c&&Nat.ble args.length fn.ntmps)=true) {I:aH} {M:List aA} {post:Value->aH->List aA->Prop}
  (h:∀ B ax,V ⟨P,E,gC,fn.ntmps,B,ax,I,M.map (·.num),none⟩ c (xE args) (λ_=>none) I M (JY ⟨P,E,gC,fn.ntmps,B,ax,I,M.map (·.num),none⟩ fn.results.toList post)) :
  Spec P f args I M post:=.inl (agU gC aL aE ag aC bf h)
def N8:Value->Value->Bool
 | .bool a,.bool b=>a == b| .int k n,.int e4 m=>IntKind.lI k e4&&decide (n=m)| .string s,.string t=>decide (s.data.toList=t.data.toList)| .pointer none,.pointer none=>true| .slice none 0 0,.slice none 0 0=>true| .map none,.map none=>true| .nilFunc,.nilFunc=>true| .nilIface,.nilIface=>true| _,_=>false
theorem agV:∀ {a b:Value},N8 a b=true->a=b:=by
 intro a b h;unfold N8 at h;split at h
 grind
 ·simp only[cC,h3]at h;rw[IntKind.Dj h.1,h.2]
 ·rename_i s t;simp only[h3]at h;have:s=t:=by cases s;simp_all
  rw[this]
 all_goals first | rfl | cases h
def J0:List Value->List Value->Bool
 |[],[]=>true| a::as,b::ch=>N8 a b&&J0 as ch| _,_=>false
def U5:∀ {a b:List Value},J0 a b=true->a=b
 |[],[],_=>rfl| a::as,b::ch,h=>by simp only[J0,cC]at h;rw[agV h.1,U5 h.2]
 |[],_::_,h=>by cases h
 |_::_,[],h=>by cases h
def N9(P:Program)(t:Nat)(i:dH):Bool:=
 (match P.info? t with
 |some inf=>decide (inf.size=i.size)&&decide (inf.bytes=i.bytes)&&(match inf.zero with
  |some z=>J0 z.cells.toList i.zero| none=>false)
 |none=>false) &&
 (match P.underlying t with
 |some d=>decide (fo d=i.bL)| none=>false)&&fH i.zero&&decide (i.zero.length=i.size)&&(i.bL.agg||decide (i.size=1))
theorem agW{t:Nat}{i:dH}(h:N9 P t i=true):j' P t i:=by
 simp only[N9,cC]at h;obtain⟨⟨⟨⟨aa,ad⟩,aj⟩,aJ⟩,bD⟩:=h;refine⟨?_,?_,yZ aj,cT aJ,λa7=>?_⟩
 ·split at aa
  ·rename_i inf hi;simp only[cC,h3]at aa;obtain⟨⟨aK,ba⟩,cA⟩:=aa;split at cA
   ·rename_i z bg;exact⟨inf,z,hi,aK,ba,bg,U5 cA⟩
   ·cases cA
  ·cases aa
 grind
 grind
theorem agX{E:Env}(n:Nat)(aC:∀ t,n<=t->E t=none)(h:((List.range n).all λt=>match E t with
  |some i=>N9 P t i| none=>true)=true):cU P E:=by
 intro t i hi;by_cases au:t<n
 ·have:=fN.1 h t (j9.2 au);rw[hi]at this;exact agW this
 grind
end Go.V
namespace Go.V
variable{a:Act}{c:Code}{foot:List Nat}{P:Program}{f off T sz hD e n m fZ cP ek ez g' kX l6 nk ot ph r' uy xq A3 F6:Nat}{args vs z:List Value}{v:Value}{w' w:World}{dst:Option Nat}{cs:Array Value}{an:Nat×Nat}{R:Ending->World->Prop}{next:Act->World->Prop}{aR:Addr}{gl:IntKind}{other:Prop}{ops:List Oper}{sb:Fence}{Q:Exit->Act->World->Prop}{fn:Func}{soft hg:Bool}{op:Op}{dC:Array Bool}{A:Array Oper}{ι:Type}
def xG{F:Fr}:k4 F [(fZ,F fZ),(cP,F cP)]:=.cons .refl (.cons .refl (.nil))
def fQ{F:Fr}:k4 F [(fZ,F fZ),(cP,F cP),(ek,F ek)]:=.cons .refl (.cons .refl (.cons .refl (.nil)))
def dM{F:Fr}:k4 F [(fZ,F fZ),(cP,F cP),(ek,F ek),(ez,F ez)]:=.cons .refl (.cons .refl (.cons .refl (.cons .refl (.nil))))
def hh{F:Fr}:k4 F [(fZ,F fZ),(cP,F cP),(ek,F ek),(ez,F ez),(g',F g')]:=.cons .refl (.cons .refl (.cons .refl (.cons .refl (.cons .refl (.nil)))))
def y7{F:Fr}:k4 F [(fZ,F fZ),(cP,F cP),(ek,F ek),(ez,F ez),(g',F g'),(kX,F kX)]:=.cons .refl (.cons .refl (.cons .refl (.cons .refl (.cons .refl (.cons .refl (.nil))))))
def q6{F:Fr}:k4 F [(fZ,F fZ),(cP,F cP),(ek,F ek),(ez,F ez),(g',F g'),(kX,F kX),(l6,F l6)]:=.cons .refl (.cons .refl (.cons .refl (.cons .refl (.cons .refl (.cons .refl (.cons .refl (.nil)))))))
def ku{F:Fr}:k4 F [(fZ,F fZ),(cP,F cP),(ek,F ek),(ez,F ez),(g',F g'),(kX,F kX),(l6,F l6),(nk,F nk)]:=.cons .refl (.cons .refl (.cons .refl (.cons .refl (.cons .refl (.cons .refl (.cons .refl (.cons .refl (.nil))))))))
def mG{F:Fr}:k4 F [(fZ,F fZ),(cP,F cP),(ek,F ek),(ez,F ez),(g',F g'),(kX,F kX),(l6,F l6),(nk,F nk),(ot,F ot)]:=.cons .refl (.cons .refl (.cons .refl (.cons .refl (.cons .refl (.cons .refl (.cons .refl (.cons .refl (.cons .refl (.nil)))))))))
def N'{F:Fr}:k4 F [(fZ,F fZ),(cP,F cP),(ek,F ek),(ez,F ez),(g',F g'),(kX,F kX),(l6,F l6),(nk,F nk),(ot,F ot),(ph,F ph)]:=.cons .refl (.cons .refl (.cons .refl (.cons .refl (.cons .refl (.cons .refl (.cons .refl (.cons .refl (.cons .refl (.cons .refl (.nil))))))))))
def Gp{F:Fr}:k4 F [(fZ,F fZ),(cP,F cP),(ek,F ek),(ez,F ez),(g',F g'),(kX,F kX),(l6,F l6),(nk,F nk),(ot,F ot),(ph,F ph),(r',F r')]:=.cons .refl (.cons .refl (.cons .refl (.cons .refl (.cons .refl (.cons .refl (.cons .refl (.cons .refl (.cons .refl (.cons .refl (.cons .refl (.nil)))))))))))
def awB{F:Fr}:k4 F [(fZ,F fZ),(cP,F cP),(ek,F ek),(ez,F ez),(g',F g'),(kX,F kX),(l6,F l6),(nk,F nk),(ot,F ot),(ph,F ph),(r',F r'),(uy,F uy)]:=.cons .refl (.cons .refl (.cons .refl (.cons .refl (.cons .refl (.cons .refl (.cons .refl (.cons .refl (.cons .refl (.cons .refl (.cons .refl (.cons .refl (.nil))))))))))))
def U6{F:Fr}:k4 F [(fZ,F fZ),(cP,F cP),(ek,F ek),(ez,F ez),(g',F g'),(kX,F kX),(l6,F l6),(nk,F nk),(ot,F ot),(ph,F ph),(r',F r'),(uy,F uy),(xq,F xq)]:=.cons .refl (.cons .refl (.cons .refl (.cons .refl (.cons .refl (.cons .refl (.cons .refl (.cons .refl (.cons .refl (.cons .refl (.cons .refl (.cons .refl (.cons .refl (.nil)))))))))))))
def Gq{F:Fr}:k4 F [(fZ,F fZ),(cP,F cP),(ek,F ek),(ez,F ez),(g',F g'),(kX,F kX),(l6,F l6),(nk,F nk),(ot,F ot),(ph,F ph),(r',F r'),(uy,F uy),(xq,F xq),(A3,F A3)]:=.cons .refl (.cons .refl (.cons .refl (.cons .refl (.cons .refl (.cons .refl (.cons .refl (.cons .refl (.cons .refl (.cons .refl (.cons .refl (.cons .refl (.cons .refl (.cons .refl (.nil))))))))))))))
def agY{F:Fr}:k4 F [(fZ,F fZ),(cP,F cP),(ek,F ek),(ez,F ez),(g',F g'),(kX,F kX),(l6,F l6),(nk,F nk),(ot,F ot),(ph,F ph),(r',F r'),(uy,F uy),(xq,F xq),(A3,F A3),(F6,F F6)]:=.cons .refl (.cons .refl (.cons .refl (.cons .refl (.cons .refl (.cons .refl (.cons .refl (.cons .refl (.cons .refl (.cons .refl (.cons .refl (.cons .refl (.cons .refl (.cons .refl (.cons .refl (.nil)))))))))))))))
def awC{F:Fr}{U7:Nat}:k4 F [(fZ,F fZ),(cP,F cP),(ek,F ek),(ez,F ez),(g',F g'),(kX,F kX),(l6,F l6),(nk,F nk),(ot,F ot),(ph,F ph),(r',F r'),(uy,F uy),(xq,F xq),(A3,F A3),(F6,F F6),(U7,F U7)]:=.cons .refl (.cons .refl (.cons .refl (.cons .refl (.cons .refl (.cons .refl (.cons .refl (.cons .refl (.cons .refl (.cons .refl (.cons .refl (.cons .refl (.cons .refl (.cons .refl (.cons .refl (.cons .refl (.nil))))))))))))))))
def Ds:Op->Bool
 | .move _ | .assign _ | .pick .. | .unOp .. | .binOp .. | .load .. | .nilCheck _ | .fieldAddr .. | .field .. | .indexAddr .. | .index .. | .build .. | .makeFunc .. | .slice .. | .extract .. | .convert ..=>true| .call { callee:=.builtin .len,.. }=>true| .call { callee:=.builtin .cap,.. }=>true| .call { callee:=.builtin .max,.. }=>true| .call { callee:=.builtin .min,.. }=>true| .call { callee:=.builtin .unsafeSliceData,.. }=>true| _=>false
def qf:Op->Bool
 | .load ..=>true| _=>false
def Gr(o:Oper)(p:Nat):Bool:=o.after.toList.all λe=>!Region.binds .any e||p.testBit e.on
def qg(ops:List Oper)(p:Nat)(k:Bool):List Nat:=(List.range ops.length).filter λi=>match ops[i]? with
 |some o=>!p.testBit i&&((Ds o.op == k)&&Gr o p)| none=>false
def J1(a5:List Nat)(o:Oper):Nat:=o.after.toList.foldl (λs e=>bif Region.binds .any e then s ||| 2^e.on ||| a5.getD e.on 0 else s) 0
def k5(ops:List Oper):List Nat:=ops.foldl (λa5 o=>a5++[J1 a5 o]) []
def Oa(P:Nat->Prop):List Nat->Prop
 |[]=>True| [i]=>P i| i::l=>P i/\Oa P l
inductive ev(soft:Bool)(foot:List Nat)(P:Program)(f:Nat)(args:List Value)(I:aH)(M:List aA)(K:Value->aH->List aA->Prop):Prop
 |mk(post:Value->aH->List aA->Prop)(av:Spec P f args I [] post)(k:∀ v I' M',(∀ b o,I b=some o->I' b=some o)->post v I' M'->K v I' (M'++M))| oy (eA Mr:List aA) (post:Value->aH->List aA->Prop) (bc:M.Perm (eA++Mr)) (av:Spec P f args I eA post) (v9:∀ v I' M',post v I' M'->∀ x∈eA,x∈M') (k:∀ v I' M',(∀ b o,I b=some o->I' b=some o)->post v I' M'->K v I' (M'++Mr))| Dg (post:Value->aH->List aA->Prop) (av:Spec P f args I [] post) (k:∀ v I' M',(∀ b o,I b=some o->I' b=some o)->(∀ x∈M'++M,I' x.num=none)->post v I' M'->K v I' (M'++M))| agZ (eA Mr:List aA) (post:Value->aH->List aA->Prop) (bc:M.Perm (eA++Mr)) (av:Spec P f args I eA post) (v9:∀ v I' M',post v I' M'->∀ x∈eA,x∈M') (k:∀ v I' M',(∀ b o,I b=some o->I' b=some o)->(∀ x∈M'++Mr,I' x.num=none)->post v I' M'->K v I' (M'++Mr))| Ob (b:Nat) (o:Obj) (eA Mr:List aA) (post:Value->aH->List aA->Prop) (bc:M.Perm (⟨b,o⟩::(eA++Mr))) (aE:b ∉ foot) (av:Spec P f args (ins I b o) eA post) (v9:∀ v I' M',post v I' M'->∀ x∈eA,x∈M') (k:∀ v I' M',(∀ c p,ins I b o c=some p->I' c=some p)->(∀ x∈M'++Mr,I' x.num=none)->post v I' M'->K v I' (M'++Mr))| vW (h:l7 I M->ev soft foot P f args I M K)| uE (J2:soft=true) (eA Mr:List aA) (post:Value->aH->List aA->Prop) (bc:M.Perm (eA++Mr)) (av:Spec P f args I eA post) (k:∀ v I' M',(∀ b o,I b=some o->I' b=some o)->post v I' M'->K v I' (M'++Mr))
theorem ev.elim{I:aH}{M:List aA}{K:Value->aH->List aA->Prop}(eY:l7 I M)(h:ev soft foot P f args I M K) :
  ∃ (I1:aH) (eA Mr:List aA) (post:Value->aH->List aA->Prop),hS foot I M I1 (eA++Mr)/\(∀ b o,I b=some o->I1 b=some o)/\Spec P f args I1 eA post /\
   ∀ v I' M',(∀ b o,I1 b=some o->I' b=some o)->(∀ x∈M'++Mr,I' x.num=none)->post v I' M'->(soft=true\/∀ x∈M,I' x.num=some x.obj\/x∈M'++Mr)/\K v I' (M'++Mr):=by
 have awD:∀ {eA Mr:List aA} {post:Value->aH->List aA->Prop} {I':aH},M.Perm (eA++Mr)->(∀ v I' M',post v I' M'->∀ x∈eA,x∈M')->∀ v M',post v I' M'->∀ x∈M,I' x.num=some x.obj\/x∈M'++Mr:=λbc v9 v M' ad x ab=>by
  grind
 induction h with
 |mk post av k=>exact⟨I,[],M,post,.refl,am,av,d5⟩| oy eA Mr post bc av v9 k=>exact⟨I,eA,Mr,post,.perm bc .refl,am,av,d5⟩| Dg post av k=>exact⟨I,[],M,post,.refl,am,av,d5⟩| agZ eA Mr post bc av v9 k=>exact⟨I,eA,Mr,post,.perm bc .refl,am,av,d5⟩
 |Ob b o eA Mr post bc aE av v9 k=>
  have ag:I b=none:=eY.d ⟨b,o⟩ (bc.mem_iff.2 (.head _));have awE:ins I b o b=some o:=by unfold ins;simp
  refine⟨ins I b o,eA,Mr,post,.perm bc (.kZ rfl aE .refl),λc p ao=>?_,av,λv I' M' aa aj ad=>⟨.inr λx ab=>?_,d5⟩⟩
  ·unfold ins;by_cases e:c=b
   grind
   ·rw[hF e];exact ao
  grind
 |vW h aQ=>grind| uE J2 eA Mr post bc av k=>exact⟨I,eA,Mr,post,.perm bc .refl,am,av,d5⟩
def J3(ops:List Oper)(o:Oper)(F:Fr)(run skip:Fr->Prop):Prop:=
 match o.guard with
 |none=>run F
 |some (j,b)=>
  match(ops[j]?).bind (·.dst)with
  |none=>False
  |some d=>
   match F d with
   | .lit c=>bif c == b then run F else skip F| .val (.bool c)=>b5 c b (run (gS F d (.lit b))) (skip (gS F d (.lit !b)))| .val (.tuple _)=>skip F| _=>False
def U8(gT p:Nat):Bool:=Nat.beq (p &&& gT) p
def ag0(ops:List Oper)(gT p:Nat):Bool:=(List.range ops.length).all λq=>!p.testBit q||(gT.testBit q||match ops[q]? with
 |some o=>!qf o.op| none=>true)
inductive kv(X:cN)(o:Oper)(F:Fr)(C:de)(I:aH)(M:List aA)(K:dx->aH->List aA->Prop):Prop
 |mk (h:∀ β a w Q,cM X β a w F C I M->o.wpIn (g2 X) 0 X.P a w (λbN w'=>∃ v x I' M',bN=a.put o.dst v/\e9 β x v/\cM X β a w' F C I' M'/\K x I' M'/\I'=I) Q)
def v'(X:cN)(ag1 soft:Bool)(o:Oper)(F:Fr)(C:de)(I:aH)(M:List aA)(K:fz):Prop:=
 bif ag1 then gb X o F C I M K else
 match o.op with
 | .call { callee:=.value f,args,.. }=>
  match bG F f,mC F args.toList with
  | .val (.func (.func g) first cap),some vs=>ev soft X.foot X.P g (first.toList++vs++cap.toList) I M λv I' M'=>K (put o.dst (.val v) F) C I' M'
  |_,_=>False
 | .alloc t=>
  match o.dst,X.E t with
  |some d,some i=>bQ I M λb=>K (gS F d (.val (.pointer (some ⟨b,0,none⟩)))) C I (⟨b,.cells i.zero.toArray t (0,0)⟩::M)
  |_,_=>False
 | .buildSlice _ _ _=>gb X o F C I M K| .makeSlice _ _ _=>gb X o F C I M K| .store _ _ _=>bif soft then gb X o F C I M K else False| .call { callee:=.builtin .append,.. }=>bif soft then ∀ G:Fr,(∀ y∈o.op.operands,dr G y=dr F y)->kv X o G C I M λx I' M'=>K (put o.dst x F) C I' M' else False
 | .call { callee:=.builtin .copy,.. }=>bif soft then ∀ G:Fr,(∀ y∈o.op.operands,dr G y=dr F y)->kv X o G C I M λx I' M'=>K (put o.dst x F) C I' M' else False
 |_=>False
def J4:dx->Nat
 | .ref s _=>s+1| _=>0
def Gs(i:Nat)(op:Op)(ρ:Operand->dx)(cm:List (Nat×Nat)):List (Nat×Nat):=match op with
 | .load _ x=>(i,J4 (ρ x))::cm| _=>cm
def Bg(gT s:Nat):List (Nat×Nat)->Bool
 |[]=>true|(i,t)::cm=>(gT.testBit i || !Nat.beq s t)&&Bg gT s cm
theorem U9{gT s i t:Nat}:∀ {cm:List (Nat×Nat)},Bg gT s cm=true->(i,t)∈cm->gT.testBit i=true\/t≠s
 |(j,u)::cm,h,hm=>by
  unfold Bg at h;rw[cC,nj]at h;rcases er.1 hm with e | hm
  ·cases e;rcases h.1 with aa | aa
   grind
   ·right
    rintro rfl;simp at aa
  ·exact U9 h.2 hm
def U'(gT:Nat)(op:Op)(ρ:Operand->dx)(cm:List (Nat×Nat)):Bool:=match op with
 | .store _ x _=>(match ρ x with
  | .val (.pointer (some _))=>Bg gT 0 cm| _=>false)
 | .call { callee:=.value _,.. }=>Bg gT 0 cm| _=>false
def Va(gT:Nat)(op:Op)(ρ:Operand->dx)(cm:List (Nat×Nat)):Bool:=match op with
 | .store _ x _=>(match ρ x with
  | .ref s _=>Bg gT (s+1) cm| _=>false)
 |_=>false
def wa(hg:Bool)(M:List aA):List aA:=bif hg then []else M
def ag2{I:aH}{M:List aA}{b:Nat}{o:Obj}(h:h4 I (wa hg M) b o):h4 I M b o:=by
 cases hg with
 |false=>exact h
 |true=>
  rcases h with h | ⟨x,ab,_⟩;·exact .inl h
  ·cases ab
def Vb{I I':aH}{M M':List aA}(h:∀ b o,h4 I M b o->h4 I' M' b o)(bd:∀ b o,I b=some o->I' b=some o):∀ b o,h4 I (wa hg M) b o->h4 I' (wa hg M') b o:=λb o ag=>by
 cases hg with
 |false=>exact h b o ag
 |true=>
  rcases ag with ag | ⟨x,ab,_⟩;·exact .inl (bd _ _ ag)
  ·cases ab
def ag3{I I':aH}{M M':List aA}(bd:∀ b o,I b=some o->I' b=some o):∀ b o,h4 I (wa true M) b o->h4 I' (wa true M') b o:=λb o ag=>by
 rcases ag with ag | ⟨x,ab,_⟩
 ·exact .inl (bd _ _ ag)
 ·cases ab
def Vc(X:cN)(hg:Bool)(op:Op)(ρ:Operand->dx)(C:de)(I:aH)(M:List aA)(V:dx->Prop)(other:Prop):Prop:=match hg with
 |false=>cK X op ρ C I M V other| true=>cK X op ρ C I [] V other
def ag4{X:cN}{ρ:Operand->dx}{C:de}{I:aH}{M:List aA}{V:dx->Prop}(h:Vc X hg op ρ C I M V other):cK X op ρ C I (wa hg M) V other:=by
 cases hg with
 |false=>exact h| true=>exact h
def ag5(ops:List Oper)(hg:Nat->Bool)(gT p:Nat):Bool:=(List.range ops.length).all λq=>!p.testBit q||(gT.testBit q||(hg q||match ops[q]? with
 |some o=>!qf o.op| none=>true))
def Vd(op:Op)(ρ:Operand->dx):Bool:=match op with
 | .store _ x _=>(match ρ x with
  | .val (.pointer (some _))=>true| _=>false)
 | .call { callee:=.builtin .append,.. }=>true| .call { callee:=.builtin .copy,.. }=>true| _=>false
def Ve(ops:List Oper)(hg:Nat->Bool)(gT p:Nat)(op:Op)(ρ:Operand->dx):Bool:=ag5 ops hg gT p&&Vd op ρ
def pq(X:cN)(ops:List Oper)(hg:Nat->Bool):Nat->Nat->List (Nat×Nat)->Fr->de->aH->List aA->fz->Prop
 |0,_,_,_,_,_,_,_=>False
 |n+1,p,cm,F,C,I,M,K=>
  match qg ops p true with
  |i::_=>
   (match ops[i]? with
   |some o=>J3 ops o F (λF=>Vc X (hg i) o.op (dr F) C I M (λx=>pq X ops hg n (p ||| 2^i) (Gs i o.op (dr F) cm) (put o.dst x F) C I M K) False) (λF=>pq X ops hg n (p ||| 2^i) cm (put o.dst (.val undef) F) C I M K)| none=>False)
  |[]=>
   match qg ops p false with
   |[]=>K F C I M
   |i0::fC=>Oa (λi=>match ops[i]? with
     |some o=>J3 ops o F (λF=>v' X (U8 ((k5 ops).getD i 0) p) (ag0 ops ((k5 ops).getD i 0) p||(Va ((k5 ops).getD i 0) o.op (dr F) cm||(U' ((k5 ops).getD i 0) o.op (dr F) cm||Ve ops hg ((k5 ops).getD i 0) p o.op (dr F)))) o F C I M λF C I M=>pq X ops hg n (p ||| 2^i) cm F C I M K) (λF=>pq X ops hg n (p ||| 2^i) cm (put o.dst (.val undef) F) C I M K)| none=>False) (i0::fC)
def looks(ops:List Oper)(o:Oper):List Nat:=o.looksAt ops.toArray
def Bh(ops:List Oper):Bool:=
 let b:=k5 ops
 (List.range ops.length).all λj=>match ops[j]? with
  |none=>true
  |some np=>
   (np.after.toList.all λe=>!Region.binds .any e||Nat.blt e.on j) &&
   ((match np.dst with
    |some d=>!(looks ops np).contains d| none=>true) &&
   ((List.range ops.length).all (λi=>Nat.beq i j||match ops[i]? with
    |none=>true
    |some gD=>match gD.dst with
     |none=>true| some d=>!(np.dst == some d)&&(!(looks ops np).contains d||((b.getD j 0).testBit i||(b.getD i 0).testBit j)))))
def mH(ops:List Oper)(j e:Nat):Prop:=∃ o lN,ops[j]?=some o/\lN∈o.after/\Region.binds .any lN=true/\lN.on=e
inductive pt(ops:List Oper):Nat->Nat->Prop
 |one{i j}(h:mH ops j i):pt ops i j| trans {i j k} (h:mH ops j k) (bd:pt ops i k):pt ops i j
def Bi(ops:List Oper)(S:Nat->Prop):Prop:=∀ j e,S j->mH ops j e->S e
theorem pt.mem{S:Nat->Prop}(cy:Bi ops S){i j:Nat}(h:pt ops i j)(ah:∀ e,mH ops j e->S e):S i:=by
 induction h with
 |one h=>grind| trans h _ aQ=>exact aQ λe he=>cy _ e (ah _ h) he
theorem ag6{a5:List Nat}{o:Oper}{i:Nat}(h:(J1 a5 o).testBit i=true):∃ e∈o.after,Region.binds .any e=true/\(e.on=i\/(a5.getD e.on 0).testBit i=true):=by
 have key:∀ (l:List Edge) (s:Nat),(l.foldl (λs e=>bif Region.binds .any e then s ||| 2^e.on ||| a5.getD e.on 0 else s) s).testBit i=true->s.testBit i=true\/∃ e∈l,Region.binds .any e=true/\(e.on=i\/(a5.getD e.on 0).testBit i=true):=by
  intro l
  induction l with
  |nil=>simp
  |cons e l aQ=>
   grind
 rcases key _ 0 h with aa | ⟨e,he,ad⟩
 grind
 grind
theorem Vf(ops:List Oper):∀ (l:List Oper) (a9:List Oper) (a5:List Nat),ops=a9++l->a5.length=a9.length->(∀ j i,(a5.getD j 0).testBit i=true->pt ops i j) -> ∀ j i,((l.foldl (λa5 o=>a5++[J1 a5 o]) a5).getD j 0).testBit i=true->pt ops i j
 |[],a9,a5,_,_,mI=>mI
 |o::l,a9,a5,xH,cQ,mI=>by
  simp only[kt];refine Vf ops l (a9++[o]) _ (by simp[xH]) (by simp[cQ]) ?_;intro j i h;by_cases ah:j<a5.length
  grind
  ·by_cases jA:j=a5.length
   ·subst jA;have bd:(J1 a5 o).testBit i=true:=by grind
    obtain⟨e,he,ag,ad⟩:=ag6 bd;have aD:ops[a5.length]?=some o:=by grind
    have Bj:mH ops a5.length e.on:=⟨o,e,aD,he,ag,rfl⟩;rcases ad with rfl | ad;·exact .one Bj
    ·exact .trans Bj (mI _ _ ad)
   grind
def y8{j i:Nat}(h:((k5 ops).getD j 0).testBit i=true):pt ops i j:=
 Vf ops ops [] [] rfl rfl am j i h
section
variable{X:cN}{C C':de}{I I':aH}{M M':List aA}
def xI{ρ jD:Operand->dx}:∀ {xs:List Operand},(∀ y∈xs,jD y=ρ y)->jW jD xs=jW ρ xs
 |[],_=>rfl| x::xs,h=>by have aa:=h x am;have ad:=xI (xs:=xs) λy aG=>h y au';simp only[jW,dz,aa,ad]
theorem Oc{ρ jD:Operand->dx}:∀ {xs:List (Nat×Operand)},(∀ y∈xs.map (·.2),jD y=ρ y)->s9 jD xs=s9 ρ xs
 |[],_=>rfl|(i,x)::xs,h=>by have aa:=h x am;have ad:=Oc (xs:=xs) λy aG=>h y d5;simp only[s9,dz,aa,ad]
theorem Vg{ρ jD:Operand->dx}{V:dx->Prop}(h:cK X op ρ C I M V False)(iU:∀ y∈op.operands,jD y=ρ y)
  (az:∀ t x,op=.load t x->(∀ s off,ρ x=.ref s off->C' s=C s)/\((∀ s off,ρ x≠.ref s off)->∀ b o,h4 I M b o->h4 I' M' b o)):cK X op jD C' I' M' V False:=by
 cases op
 case load t x=>
  obtain⟨ao,ae⟩:=az t x rfl;have aa:=iU x co;simp only[cK,aa]at h |-;cases aL:X.E t with
  |none=>grind
  |some i=>
   rw[aL]at h
   try simp only at h |-
   cases ab:ρ x with
   |ref s off=>
    rw[ab]at h
    try simp only at h |-
    grind
   |val v=>
    rw[ab]at h
    try simp only at h |-
    split at h
    grind
    ·rename_i a e;cases e;obtain⟨vs,⟨ad,cs,T,an,aj,aJ⟩,bD⟩:=h;exact⟨vs,⟨ad,cs,T,an,d5,aJ⟩,bD⟩
    omega
   |lit b=>grind| nl=>grind
 case build t ps=>
  have aa:=Oc (ρ:=ρ) (jD:=jD) (xs:=ps.toList) λy aG=>iU y (by simpa[Op.operands]using aG);simp only[cK,aa]at h |-;exact h
 case makeFunc fn first captured=>
  have aa:=xI (ρ:=ρ) (jD:=jD) (xs:=first.toList) λy aG=>iU y acl;have ad:=xI (ρ:=ρ) (jD:=jD) (xs:=captured.toList) λy aG=>iU y acl;simp only[cK,aa,ad]at h |-;exact h
 case slice t x lo hi mx=>
  have aa:=iU x co;have ad:lo.map (dz jD)=lo.map (dz ρ):=by
   cases lo with
   |none=>rfl| some y=>have:=iU y co;simp[dz,this]
  have aj:hi.map (dz jD)=hi.map (dz ρ):=by
   cases hi with
   |none=>rfl| some y=>have:=iU y co;simp[dz,this]
  have aJ:mx.map (dz jD)=mx.map (dz ρ):=by
   cases mx with
   |none=>rfl| some y=>have:=iU y co;simp[dz,this]
  simp only[cK,ad,aj,aJ,dz,aa]at h |-;exact h
 case call c=>
  obtain⟨callee,args,argTypes⟩:=c;cases callee with
  |value f=>exact h| invoke r m=>exact h
  |builtin b=>
   cases b
   case len=>
    have aa:=xI (ρ:=ρ) (jD:=jD) (xs:=args.toList) λy aG=>iU y i9;simp only[cK,aa]at h |-;exact h
   case cap=>
    have aa:=xI (ρ:=ρ) (jD:=jD) (xs:=args.toList) λy aG=>iU y i9;simp only[cK,aa]at h |-;exact h
   case max=>
    have aa:=xI (ρ:=ρ) (jD:=jD) (xs:=args.toList) λy aG=>iU y i9;simp only[cK,aa]at h |-;exact h
   case min=>
    have aa:=xI (ρ:=ρ) (jD:=jD) (xs:=args.toList) λy aG=>iU y i9;simp only[cK,aa]at h |-;exact h
   case unsafeSliceData=>
    have aa:=xI (ρ:=ρ) (jD:=jD) (xs:=args.toList) λy aG=>iU y i9;simp only[cK,aa]at h |-;exact h
   all_goals exact h
 all_goals first
  |exact h|(rename_i x;have aa:=iU x co;simp only[cK,dz,aa]at h |-;exact h)|(rename_i x y;have aa:=iU x co;have ad:=iU y co;simp only[cK,dz,aa,ad]at h |-;exact h)|(rename_i x y z;have aa:=iU x co;have ad:=iU y co;have aj:=iU z co;simp only[cK,dz,aa,ad,aj]at h |-;exact h)|(rename_i x y;have aa:=iU x co;simp only[cK,dz,aa]at h |-;exact h)|(rename_i x y;have aa:=iU y co;simp only[cK,dz,aa]at h |-;exact h)|(rename_i x y z;have aa:=iU x co;have ad:=iU y co;simp only[cK,dz,aa,ad]at h |-;exact h)|(rename_i x y z;have aa:=iU y co;have ad:=iU z co;simp only[cK,dz,aa,ad]at h |-;exact h)|(rename_i o x y z u;have aa:=iU y co;have ad:=iU z co;simp only[cK,dz,aa,ad]at h |-;exact h)|(rename_i x y z u;have aa:=iU z co;have ad:=iU y co;simp only[cK,dz,aa,ad]at h |-;exact h)
end
section
variable{X:cN}{C:de}{I:aH}{M:List aA}
theorem ag7{op:BinOp}{cS:Option dH}{x y:dx}{V:Value->Prop}{O:Prop}(h:lJ op cS x y V O) :
  (∃ r,V r/\∀ q7,lJ op cS x y (λz=>z=r) q7)\/(O/\∀ (Od:Value->Prop) (q7:Prop),q7->lJ op cS x y Od q7):=by
 unfold lJ at h;split at h
 ·left
  split at h;·obtain⟨j,ah,⟨r,af,ae⟩⟩:=h;exact⟨_,ae,λq7=>by unfold lJ;exact⟨j,ah,⟨r,af,rfl⟩⟩⟩
  ·obtain⟨j,ah,ae⟩:=h;exact⟨_,ae,λq7=>by unfold lJ;exact⟨j,ah,rfl⟩⟩
  ·rename_i _ _ k a e4 b _ gw qb;cases e5:IntKind.lI k e4 with
   |false=>grind
   |true=>
    rw[e5]at h;simp only[cF]at h;cases op<;>simp only at h
    case add=>obtain⟨r,af,ae⟩:=h;exact⟨_,ae,λq7=>wn⟩
    case sub=>obtain⟨r,af,ae⟩:=h;exact⟨_,ae,λq7=>wn⟩
    case mul=>obtain⟨r,af,ae⟩:=h;exact⟨_,ae,λq7=>wn⟩
    case quo=>obtain⟨ax,⟨r,af,ae⟩⟩:=h;exact⟨_,ae,λq7=>by simp only[lJ,e5,cF];exact⟨ax,⟨r,af,rfl⟩⟩⟩
    case rem=>obtain⟨ax,ae⟩:=h;exact⟨_,ae,λq7=>by simp only[lJ,e5,cF];first | exact⟨ax,rfl⟩ | exact⟨ax,trivial⟩⟩
    case shl=>grind
    case shr=>grind
    all_goals exact⟨_,h,λq7=>by simp only[lJ,e5,cF];rfl⟩
 ·cases op<;>first
  |exact .inl ⟨_,h,λ_=>rfl⟩| exact .inr ⟨h,λ_ _ aD=>aD⟩
 ·split at h
  ·cases op<;>first
   |exact .inl ⟨_,h,λ_=>rfl⟩| exact .inr ⟨h,λ_ _ aD=>aD⟩
  ·rename_i aC;refine .inr ⟨h,λOd q7 aD=>?_⟩;cases cS with
   |none=>exact aD
   |some i=>
    obtain⟨s,b,z,bL⟩:=i;cases bL<;>first
     |exact aD| exact(aC _ _ _ rfl).elim
 ·rename_i aa ad aj;refine .inr ⟨h,λOd q7 aD=>?_⟩;unfold lJ;split<;>first
   |exact aD| exact(aa _ _ _ _ rfl rfl).elim| exact(ad _ _ rfl rfl).elim| exact(aj _ _ rfl rfl).elim
theorem ag8{ρ:Operand->dx}{V:dx->Prop}(h:cK X op ρ C I M V False):∃ x,V x/\cK X op ρ C I M (λy=>y=x) False:=by
 cases op
 case move x=>exact⟨_,h,rfl⟩
 case assign x=>exact⟨_,h,rfl⟩
 case pick c p q=>
  simp only[cK]at h |-
  grind
 case unOp op t x=>
  simp only[cK]at h |-;split at h
  grind
  grind
  ·obtain⟨r,af,ae⟩:=h;exact⟨_,ae,⟨r,af,rfl⟩⟩
  grind
 case binOp op t x y ty=>
  simp only[cK]at h |-;rcases ag7 h with⟨r,aa,ad⟩ | ⟨⟨mD,f',r,aI,aO,af,ae⟩ | aa,ad⟩;·refine⟨_,aa,?_⟩;simp_all
  ·exact⟨_,ae,ad _ _ (.mk mD f' r aI aO af rfl)⟩
  grind
 case load t x=>
  simp only[cK]at h |-;split at h
  ·split at h
   grind
   ·obtain⟨vs,af,ae⟩:=h;exact⟨_,ae,⟨vs,af,rfl⟩⟩
   grind
  grind
 case nilCheck x=>
  simp only[cK]at h |-
  grind
 case fieldAddr t x i=>
  simp only[cK]at h |-;split at h
  grind
  grind
 case field t x i=>
  simp only[cK]at h |-;split at h
  grind
  grind
 case indexAddr t x i=>
  simp only[cK]at h |-;split at h
  ·split at h
   ·obtain⟨aR,j,aa,ad,aj,ae⟩:=h;exact⟨_,ae,⟨aR,j,aa,ad,aj,rfl⟩⟩
   grind
  ·split at h
   ·obtain⟨j,ad,aj,ae⟩:=h;exact⟨_,ae,⟨j,ad,aj,rfl⟩⟩
   ·obtain⟨j,ad,aj,ae⟩:=h;exact⟨_,ae,⟨j,ad,aj,rfl⟩⟩
   grind
  grind
 case index t x i=>
  simp only[cK]at h |-;split at h;·obtain⟨j,ad,aj,ae⟩:=h;exact⟨_,ae,⟨j,ad,aj,rfl⟩⟩
  ·split at h
   ·rename_i n e cs gl k au ab hi _ aB hp;cases bg:Nat.beq (n*aB.size) cs.size with
    |false=>grind| true=>rw[bg]at h;obtain⟨j,ad,aj,ae⟩:=h;exact⟨_,ae,⟨j,ad,aj,rfl⟩⟩
   grind
  grind
 case build t ps=>
  simp only[cK]at h |-;split at h
  ·split at h
   grind
   grind
   grind
  grind
 case makeFunc fn first captured=>
  simp only[cK]at h |-
  grind
 case slice t x lo hi mx=>
  simp only[cK]at h |-;split at h
  ·split at h
   grind
   ·obtain⟨l,m,aa,ad,aj,aJ,ae⟩:=h;exact⟨_,ae,⟨l,m,aa,ad,aj,aJ,rfl⟩⟩
   ·obtain⟨l,m,aa,ad,aj,aJ,ae⟩:=h;exact⟨_,ae,⟨l,m,aa,ad,aj,aJ,rfl⟩⟩
   ·obtain⟨l,m,aa,ad,aj,aJ,ae⟩:=h;exact⟨_,ae,⟨l,m,aa,ad,aj,aJ,rfl⟩⟩
   grind
  ·split at h
   grind
   ·obtain⟨l,m,aa,ad,aj,aJ,ae⟩:=h;exact⟨_,ae,⟨l,m,aa,ad,aj,aJ,rfl⟩⟩
   ·obtain⟨l,m,aa,ad,aj,aJ,ae⟩:=h;exact⟨_,ae,⟨l,m,aa,ad,aj,aJ,rfl⟩⟩
   ·obtain⟨l,m,aa,ad,aj,aJ,ae⟩:=h;exact⟨_,ae,⟨l,m,aa,ad,aj,aJ,rfl⟩⟩
   grind
  ·split at h
   ·obtain⟨l,m,aa,ad,aj,aJ,ae⟩:=h;exact⟨_,ae,⟨l,m,aa,ad,aj,aJ,rfl⟩⟩
   grind
  grind
 case extract x i=>
  simp only[cK]at h |-
  grind
 case convert s d x=>
  simp only[cK]at h |-;split at h;·obtain⟨r,af,ae⟩:=h;exact⟨_,ae,⟨r,af,rfl⟩⟩
  grind
 case call c=>
  obtain⟨callee,args,argTypes⟩:=c;cases callee with
  |value f=>exact h.elim| invoke r m=>exact h.elim
  |builtin b=>
   cases b
   case len=>
    simp only[cK]at h |-
    grind
   case cap=>
    simp only[cK]at h |-
    grind
   case max=>
    simp only[cK]at h |-
    grind
   case min=>
    simp only[cK]at h |-
    grind
   case unsafeSliceData=>
    simp only[cK]at h |-;split at h
    grind
    ·obtain⟨aa,ad⟩:=h;exact⟨_,ad,⟨aa,rfl⟩⟩
    grind
   all_goals exact h.elim
 all_goals exact h.elim
end
def h4.mono{I I':aH}{M M':List aA}{b:Nat}{o:Obj}(h:h4 I M b o)(bE:∀ b o,I b=some o->I' b=some o)(bc:∀ x∈M,x∈M'):h4 I' M' b o:=by
 rcases h with h | ⟨x,ab,aa,ad⟩
 ·exact .inl (bE _ _ h)
 ·exact .inr ⟨x,bc x ab,aa,ad⟩
def h4.move{I I':aH}{M M':List aA}{b:Nat}{o:Obj}(h:h4 I M b o)(bE:∀ b o,I b=some o->I' b=some o)(bc:∀ x∈M,I' x.num=some x.obj\/x∈M'):h4 I' M' b o:=by
 rcases h with h | ⟨x,ab,rfl,rfl⟩
 ·exact .inl (bE _ _ h)
 ·rcases bc x ab with h | h
  ·exact .inl h
  ·exact .inr ⟨x,h,rfl,rfl⟩
def Vh(F:Fr)(op:Op)(C C':de)(I I':aH)(M M':List aA):Prop:=(∀ t x y s off,op=.store t x y->dr F x=.ref s off->((∀ cq,cq≠s->C' cq=C cq)/\∀ b o,I b=some o->I' b=some o)/\∀ b o,h4 I M b o->h4 I' M' b o)/\(∀ t x y aR,op=.store t x y->dr F x=.val (.pointer (some aR))->C'=C/\∀ b o,I b=some o->I' b=some o)/\((∀ t x y,op≠.store t x y)->C'=C/\∀ b o,I b=some o->I' b=some o)
def ag9(X:cN)(β:Nat->Nat)(G F:Fr)(C:de)(I:aH)(M:List aA)(aha:Bool)(op:Op)(dst:Option Nat)(a:Act)(K:fz)(bN:Act)(w':World):Prop:=
 ∃ v x C' I' M',bN=a.put dst v/\e9 β x v/\cM X β a w' G C' I' M'/\K (put dst x F) C' I' M'/\((aha=true/\Vh F op C C' I I' M M')\/(C'=C/\(∀ b o,I b=some o->I' b=some o)/\∀ b o,h4 I M b o->h4 I' M' b o))
theorem ahb{X:cN}{β:Nat->Nat}{F G:Fr}{C:de}{I:aH}{M:List aA}{o:Oper}{K:fz}(aL:cU X.P X.E)
  (h:cM X β a w G C I M) (g3:∀ y∈o.op.operands,dr G y=dr F y) (ak:v' X false soft o F C I M K):o.wpIn (g2 X) 0 X.P a w (ag9 X β G F C I M soft o.op o.dst a K) Q:=by
 obtain⟨dst,op,ty,pos,after,guard⟩:=o;have aE:=h.an;have oz:∀ {y:Operand} {v:Value},y∈op.operands->bG F y=.val v->a.eval y=v:=fun {y v} aG he=>df aE (by simp only[bG,dz,g3 y aG];exact he);cases op
 case alloc t=>
  simp only[v',cD]at ak;split at ak
  ·rename_i d i hi;obtain⟨z,bg,Dl⟩:=(aL _ _ hi).F' w;have Dm:z.cells=i.zero.toArray:=by grind
   obtain⟨ak⟩:=ak;have ae:=ak w.heap.size h.holds.se h.holds.qZ;refine ix am (v:=.pointer (some ⟨w.heap.size,0,none⟩)) (w':=w.alloc (.cells i.zero.toArray t (0,0))) ?_ ⟨_,.val _,_,_,_,rfl,rfl,h.nX _,ae,.inr ⟨rfl,am,λb o ag=>ag.mono am d5⟩⟩;simp[execOp,Instr.alloc,newVar,newRow,bg,Dm]
  grind
 case store t x y=>
  simp only[v',cD]at ak;cases soft with
  |false=>exact ak.elim
  |true=>
   simp only[cF,gb]at ak;split at ak
   ·rename_i i v hi aG;have te:=oz co aG;split at ak
    ·rename_i s off ab;have kb:=A5 aE ((g3 x co).trans ab);split at ak
     ·rename_i cs av;cases bn:(Nat.ble (off+i.size) cs.length&&(Nat.beq v.cells.size i.size&&fH v.cells.toList))with
      |false=>grind| true=>rw[bn]at ak;simp only[cC]at bn;obtain⟨bn,dk,qd⟩:=bn;have gf:=bJ bn;have Bb:=ea dk;obtain⟨T,a6⟩:=(h.cm s cs av).bl;have:=JS (aL _ _ hi) (a:=⟨β s,off,none⟩) (v:=v) rfl a6 Bb d4 qd;refine Dh am (w':=w.setRow (β s) (cd cs off v.cells.toList).toArray) ?_ ⟨undef,.nl,_,_,_,rfl,trivial,h.UP av (cd cs off v.cells.toList),ak,.inl ⟨rfl,λbi l' Oe cq NZ aK ba=>(by cases aK;rw[ab]at ba;cases ba;refine⟨⟨λs2 bz=>?_,am⟩,am⟩;unfold jl;rw[hF bz];rfl),d5,am⟩⟩;simp only[execOp,Instr.storeAt,kb,te,Instr.sureAddr,cp,db,bY];simp_all
     grind
    ·rename_i aR ab;have kb:=uA aE ((g3 x co).trans ab);cases dk:Nat.beq v.cells.size i.size with
     |false=>grind| true=>rw[dk]at ak;obtain⟨a9,post,cs,T,bc,di,ag,qd,ae⟩:=ak;have Bb:=ea dk;have aw:w.heap[aR.block]?=some (.cells cs T (0,0)):=h.holds.m ⟨aR.block,.cells cs T (0,0)⟩ d5;have:=JS (aL _ _ hi) (v:=v) di aw Bb ag qd;refine Dh am (w':=w.setRow aR.block (cd cs.toList aR.off v.cells.toList).toArray) ?_ ⟨undef,.nl,_,_,_,rfl,trivial,h.xy bc,ae,.inl ⟨rfl,d5,am,am⟩⟩;simp only[execOp,Instr.storeAt,kb,te,Instr.sureAddr,cp,db,bY];simp_all
    grind
   grind
 case buildSlice t len parts=>
  simp only[v',cD,gb]at ak;have ahc:xv G parts.toList=xv F parts.toList:=Oc λy aG=>g3 y (by simpa[Op.operands]using aG);rw[<-ahc]at ak;split at ak
  ·rename_i sz hD z e vs au ij;have hu:=(aL _ _ au).slice;have aI:=JP aE ij;have y1:(parts.map λ(i,x)=>(i,a.eval x)).toList=vs:=by simpa using aI
   split at ak
   ·rename_i aB hp;cases bg:(Nat.ble (len*aB.size) 16777216&&Nat.blt 0 (len*aB.size))with
    |false=>
     rw[bg]at ak;simp only[cD]at ak;split at ak
     ·rename_i agI;obtain⟨ak⟩:=ak;have ae:=ak w.heap.size h.holds.se h.holds.qZ;refine ix am (v:=.slice (some ⟨w.heap.size,0,none⟩) 0 0) (w':=w.alloc (.cells #[] e (0,0))) ?_ ⟨_,.val _,_,_,_,rfl,rfl,h.nX _,ae,.inr ⟨rfl,am,λb o ag=>ag.mono am d5⟩⟩;simp only[execOp,Instr.buildSlice,cp,bY,run_underlying hu,(aL _ _ hp).run_sizeOf,y1];have eB:∀ f:Nat->Value,Array.map f (Array.range 0)=#[]:=λf=>by apply Array.ext<;>simp
      simp[newRow,Instr.fill,eB]
     grind
    |true=>
     rw[bg]at ak;simp only[cF]at ak;rw[cC]at bg;have bn:=bJ bg.1;have lK:0<len*aB.size:=by simpa using bg.2
     split at ak;·rename_i cells A7;obtain⟨tf,Bc,Dl⟩:=(aL _ _ hp).F' w;obtain⟨ak⟩:=ak;have ae:=ak w.heap.size h.holds.se h.holds.qZ;refine ix am (v:=.slice (some ⟨w.heap.size,0,none⟩) len len) (w':=w.alloc (.cells cells.toArray e (0,0))) ?_ ⟨_,.val _,_,_,_,rfl,rfl,h.nX _,ae,.inr ⟨rfl,am,λb o ag=>ag.mono am d5⟩⟩;have xA:=fill_eq _ _ _ _ A7;simp only[execOp,Instr.buildSlice,cp,bY,run_underlying hu,(aL _ _ hp).run_sizeOf];rw[bS Z];simp only[bS (show ¬ len*aB.size=0 by omega),cp,Bc,bY,db,y1,UX tf aB.zero Dl,xA];simp[newRow,World.alloc_eq]
     grind
   grind
  grind
 case makeSlice t l c=>
  simp only[v',cD,gb]at ak;split at ak
  ·rename_i sz hD z e ft eF cr c' au az ao;have hu:=(aL _ _ au).slice;have pk:=oz co az;have y9:=oz co ao;split at ak
   ·rename_i aB hp;obtain⟨n,m,rfl,rfl,nn,ag,hm,⟨ak⟩⟩:=ak;have ae:=ak w.heap.size h.holds.se h.holds.qZ;obtain⟨inf,tf,fq,iy,iz,k3,Bd⟩:=(aL _ _ hp).inf;refine ix am (v:=.slice (some ⟨w.heap.size,0,none⟩) n m) (w':=w.alloc (.cells (rowOf aB.zero (m*aB.size)).toArray e (0,0))) ?_ ⟨_,.val _,_,_,_,rfl,rfl,h.nX _,ae,.inr ⟨rfl,am,λb o ag=>ag.mono am d5⟩⟩;have il:((aB.bytes:Nat):Int)*(m:Int)<=281474976710656:=by omega
    have:=run_make (P:=X.P) w t e inf tf hu fq k3 ft cr (n:Int) (m:Int) Z Z d5 Z;simp only[execOp,pk,y9,cp,this,bY,db,hC];have aK:madeCells tf.cells (m*inf.size)=(rowOf aB.zero (m*aB.size)).toArray:=by rw[iy,<-Bd];simp[s']
    rw[aK]
   grind
  grind
 case call c=>
  obtain⟨callee,args,argTypes⟩:=c;cases callee with
  |value f=>
   simp only[v',cD]at ak;split at ak
   ·rename_i g first cap vs y2 ij
    have ahd:mC G args.toList=some vs:=by rw[<-ij];exact xI λy aG=>g3 y (by simp only[Op.operands,Call.operands];grind)
    have ahe:=oz d8 y2;obtain⟨I1,eA,Mr,post,ahf,c8,av,ae⟩:=ak.elim ⟨h.holds.d,h.holds.cu⟩;have aK:=tb aE ahd;have eu:args.map a.eval=vs.toArray:=by grind
    have e':∀ {n:Next} {w':World},(callFunc g (first.toList++vs++cap.toList).toArray).run X.P w=.ok n w'->(execOp a.eval ⟨dst,.call { callee:=.value f,args,argTypes },ty,pos,after,guard⟩).run X.P w=.ok n w':=λaf=>by simp only[execOp,resolve,ahe,Deferred.ofValue,cp,db,bY,eu,invoke];rw[show first++vs.toArray++cap=(first.toList++vs++cap.toList).toArray from by simp];exact af
    have J5:∀ {I':aH} {M':List aA},(∀ b o,I b=some o->I' b=some o)->(soft=true\/∀ x∈M,I' x.num=some x.obj\/x∈M')->(soft=true/\Vh F (.call { callee:=.value f,args,argTypes }) C C I I' M M')\/(C=C/\(∀ b o,I b=some o->I' b=some o)/\∀ b o,h4 I M b o->h4 I' M' b o):=λaa ad=>by
     rcases ad with ad | ad;·exact .inl ⟨ad,⟨am,am,d5⟩⟩
     ·exact .inr ⟨rfl,aa,λb o ag=>ag.move aa ad⟩
    rcases h.call (KC:=λv I' M'=>(∀ b o,I b=some o->I' b=some o)/\(soft=true\/∀ x∈M,I' x.num=some x.obj\/x∈M')/\K (Go.V.put dst (.val v) F) C I' M') (.sd I1 eA Mr post ahf av λv I' M' bn ai aI=>⟨d5,d5,d5⟩)with⟨qc,Be⟩ | ⟨v,w',I',M',af,⟨aa,ad,ae⟩,fB⟩;·refine UW am (f:=g) (args:=(first.toList++vs++cap.toList).toArray) (e' (qc _ _)) ?_;refine Be.mono ?_;rintro e w'⟨v,I',M',rfl,⟨aa,ad,ae⟩,af⟩;exact⟨v,rfl,v,.val v,C,I',M',rfl,rfl,af,ae,J5 aa ad⟩
    ·exact ix am (e' af) ⟨v,.val v,C,I',M',rfl,rfl,fB,ae,J5 aa ad⟩
   grind
  |invoke r m=>exact ak.elim
  |builtin b=>
   cases b
   case append=>
    simp only[v',cD]at ak;cases soft with
    |false=>exact ak.elim| true=>simp only[cF]at ak;obtain⟨ak⟩:=ak G g3;refine s6 (λbN w'=>?_) (ak β a w Q h);rintro⟨v,x,I',M',aa,ad,aj,aJ,ahg⟩;exact⟨v,x,C,I',M',aa,ad,aj,aJ,.inl ⟨rfl,⟨am,am,d5⟩⟩⟩
   case copy=>
    simp only[v',cD]at ak;cases soft with
    |false=>exact ak.elim| true=>simp only[cF]at ak;obtain⟨ak⟩:=ak G g3;refine s6 (λbN w'=>?_) (ak β a w Q h);rintro⟨v,x,I',M',aa,ad,aj,aJ,ahg⟩;exact⟨v,x,C,I',M',aa,ad,aj,aJ,.inl ⟨rfl,⟨am,am,d5⟩⟩⟩
   all_goals exact ak.elim
 all_goals exact ak.elim
def tg(x y:dx):Prop:=∀ β u,e9 β x u->e9 β y u
def tg.refl(x:dx):tg x x:=λ_ _ h=>h
def tg.trans{x y z:dx}(h:tg x y)(bd:tg y z):tg x z:=fun β u hu=>bd β u (h β u hu)
structure wb(ops:List Oper):Prop where
 lt:∀ j e,mH ops j e->e<j
 own:∀ (j:Nat) (o:Oper) (d:Nat),ops[j]?=some o->o.dst=some d->d ∉ looks ops o
 Of:∀ (i j:Nat) (gD np:Oper) (d:Nat),i≠j->ops[i]?=some gD->ops[j]?=some np->gD.dst=some d->np.dst≠some d
 ord:∀ (i j:Nat) (gD np:Oper) (d:Nat),i≠j->ops[i]?=some gD->ops[j]?=some np->gD.dst=some d->d∈looks ops np->pt ops i j\/pt ops j i
theorem Vi(h:Bh ops=true):wb ops:=by
 have key:∀ (j:Nat) (np:Oper),ops[j]?=some np->_:=λj np ah=>by have a1:j<ops.length:=(iP.1 ah).1;have aa:=fN.1 h j (j9.2 a1);simp only[ah,cC]at aa;exact aa
 refine⟨?_,?_,?_,?_⟩
 ·rintro j e⟨o,lN,aD,wc,ag,rfl⟩;have aa:=fN.1 (key j o aD).1 lN d5;simp_all
 grind
 ·intro i j gD np d bz hi ah ai fO;have a1:i<ops.length:=(iP.1 hi).1;have aa:=fN.1 (key j np ah).2.2 i (j9.2 a1);simp_all
 ·intro i j gD np d bz hi ah ai az;have a1:i<ops.length:=(iP.1 hi).1;have aa:=fN.1 (key j np ah).2.2 i (j9.2 a1);rw[hF bz]at aa;simp only[hi,ai,yY,cC,nj]at aa;rcases aa.2 with ad | ad | ad
  grind
  ·exact .inl (y8 ad)
  ·exact .inr (y8 ad)
def iV(ops:List Oper)(i:Nat):Option Nat:=(ops[i]?).bind (·.dst)
def kw(L:Nat->Prop)(p i:Nat):Prop:=p.testBit i=true/\¬ L i
def y'(ops:List Oper)(o:Oper)(F:Fr):Prop:=match o.guard with
 |none=>True| some (j,b)=>∃ d,iV ops j=some d/\F d=.lit b
def J6(ops:List Oper)(o:Oper)(F:Fr):Prop:=∃ j b d,o.guard=some (j,b)/\iV ops j=some d/\(F d=.lit (!b)\/∃ vs,F d=.val (.tuple vs))
def Og{o:Oper}{j d:Nat}{b:Bool}(aw:o.guard=some (j,b))(ai:iV ops j=some d):d∈looks ops o:=by unfold looks Oper.looksAt;refine r6 _ ?_;rw[aw];simp only[Option.mem_toList];simpa[iV]using ai
theorem Oh{o:Oper}{t:Nat}(h:Operand.tmp t∈o.op.operands):t∈looks ops o:=
 iv _ (List.mem_filterMap.2 ⟨.tmp t,d5,rfl⟩)
def Vj{o:Oper}{F:Fr}{β:Nat->Nat}(h:y' ops o F)(bw:∀ t∈looks ops o,e9 β (F t) (a.tmps.getD t undef)):Region.wanted o (yielded ops.toArray a.tmps)=true:=by
 unfold y' at h;unfold Region.wanted;cases aw:o.guard with
 |none=>rfl| some Ge=>obtain⟨j,b⟩:=Ge;rw[aw]at h;obtain⟨d,ai,az⟩:=h;have aa:=bw d (Og aw ai);rw[az]at aa;have aG:=Gd (ops:=ops.toArray) (j:=j) (d:=d) (by simpa[iV]using ai) a.tmps;simp[aG,Dp aa]
theorem Vk{o:Oper}{F:Fr}{β:Nat->Nat}(h:J6 ops o F)(bw:∀ t∈looks ops o,e9 β (F t) (a.tmps.getD t undef)):Region.wanted o (yielded ops.toArray a.tmps)=false:=by
 obtain⟨j,b,d,aw,ai,az⟩:=h;unfold Region.wanted;have aa:=bw d (Og aw ai);have aG:=Gd (ops:=ops.toArray) (j:=j) (d:=d) (by simpa[iV]using ai) a.tmps;rw[aw];rcases az with az | ⟨vs,az⟩
 ·rw[az]at aa;simp[aG,Dp aa]
 ·rw[az]at aa;have v3:yielded ops.toArray a.tmps j=none:=by
   rw[aG];cases jB:a.tmps[d]? with
   |none=>rfl
   |some v=>
    simp only[e9,p8,jB,lF]at aa
    grind
  grind
theorem Vl{o:Oper}{F:Fr}{run skip:Fr->Prop}(h:J3 ops o F run skip):∃ k6,(∀ t,tg (F t) (k6 t))/\((y' ops o k6/\run k6)\/(J6 ops o k6/\skip k6)):=by
 unfold J3 at h;cases aw:o.guard with
 |none=>rw[aw]at h;exact⟨F,λt=>.refl _,.inl ⟨by simp[y',aw],h⟩⟩
 |some Ge=>
  obtain⟨j,b⟩:=Ge;rw[aw]at h;simp only at h;split at h
  grind
  ·rename_i d ai;have fO:iV ops j=some d:=ai;split at h
   ·rename_i c ao;refine⟨F,λt=>.refl _,?_⟩;cases lL:(c == b)with
    |true=>
     rw[lL]at h;have lL:c=b:=by grind
     subst lL;exact .inl ⟨by simp only[y',aw];grind,h⟩
    |false=>
     rw[lL]at h;have J7:c=!b:=by cases c<;>cases b<;>simp_all
     subst J7;exact .inr ⟨⟨j,b,d,aw,fO,.inl ao⟩,h⟩
   ·rename_i c ao;obtain⟨aa,ad⟩:=h;have hg:∀ x,c=x->∀ t,tg (F t) (gS F d (.lit x) t):=λx ab t=>by
     unfold gS;by_cases e:t=d;·subst e;subst ab;simp only[ta,cF,ao];exact λ_ _ h=>h
     ·simp only[hF e,cD];exact .refl _
    have self:∀ x,gS F d (.lit x) d=.lit x:=λx=>by simp[gS]
    by_cases lL:c=b;·exact⟨_,hg b lL,.inl ⟨by simp only[y',aw];grind,aa lL⟩⟩
    ·have J7:c=!b:=by cases c<;>cases b<;>simp_all
     exact⟨_,hg _ J7,.inr ⟨⟨j,b,d,aw,fO,.inl (self _)⟩,ad J7⟩⟩
   ·rename_i vs ao;exact⟨F,λt=>.refl _,.inr ⟨⟨j,b,d,aw,fO,d5⟩,h⟩⟩
   grind
structure ahh(X:cN)(ops:List Oper)(im':Nat->Bool)(L:Nat->Prop)(p:Nat)(cm:List (Nat×Nat))(β:Nat->Nat)(a:Act)(F:Fr)(C:de)(I:aH)(M:List aA)(hH:Nat->dx)(gU:Nat->Fr)(q:Nat)(o:Oper):Prop where
 quiet:Ds o.op=true
 hg:∀ d,o.dst=some d->tg (hH q) (F d)
 b:∀ t∈looks ops o,∀ i,kw L p i->pt ops i q->iV ops i=some t->tg (hH i) (gU q t)
 a:∀ t∈looks ops o,(∀ i,kw L p i->pt ops i q->iV ops i≠some t)->e9 β (gU q t) (a.tmps.getD t undef)
 r:(y' ops o (gU q)/\cK X o.op (dr (gU q)) C I (wa (im' q) M) (λx=>x=hH q) False/\∀ t x,o.op=.load t x->(q,J4 (dr (gU q) x))∈cm)\/(J6 ops o (gU q)/\hH q=.val undef)
structure Inv(X:cN)(ops:List Oper)(im':Nat->Bool)(L:Nat->Prop)(β:Nat->Nat)(a:Act)(w:World)(F:Fr)(C:de)(I:aH)(M:List aA)(p:Nat)(cm:List (Nat×Nat))(hH:Nat->dx)(gU:Nat->Fr):Prop where
 rel:cM X β a w (λ_=>.nl) C I M
 sub:∀ i,L i->p.testBit i=true
 we:Bi ops L
 q8:Bi ops (λi=>p.testBit i=true)
 T:∀ t,(∀ i,kw L p i->iV ops i≠some t)->e9 β (F t) (a.tmps.getD t undef)
 za:∀ q,kw L p q->∃ o,ops[q]?=some o/\ahh X ops im' L p cm β a F C I M hH gU q o
theorem pu{p q i:Nat}:(p ||| 2^q).testBit i=true ↔ p.testBit i=true\/i=q:=by
 grind
section
variable{X:cN}{ops:List Oper}{im':Nat->Bool}{L:Nat->Prop}{β:Nat->Nat}{a:Act}{w:World}{F:Fr}{C:de}{I:aH}{M:List aA}{p:Nat}{cm:List (Nat×Nat)}{hH:Nat->dx}{gU:Nat->Fr}{q:Nat}{o:Oper}
def Gt(h:ops[q]?=some o):iV ops q=o.dst:=by simp[iV,h]
theorem Gu{i d:Nat}(h:iV ops i=some d):∃ gD,ops[i]?=some gD/\gD.dst=some d:=by
 unfold iV at h
 grind
theorem Inv.ahead(dh:wb ops)(Vm:Bi ops (λi=>p.testBit i=true))(aO:ops[q]?=some o)(qh:p.testBit q=false){i t:Nat}(hi:p.testBit i=true)(au:t∈looks ops o)(ai:iV ops i=some t):pt ops i q:=by
 obtain⟨gD,h7,sp⟩:=Gu ai;have bz:i≠q:=λe=>by grind
 rcases dh.ord i q gD o t bz h7 aO sp au with h | h
 ·exact h
 ·have:=h.mem Vm (λe he=>Vm i e hi he)
  grind
def Inv.ahi(dh:wb ops)(h:Inv X ops im' L β a w F C I M p cm hH gU)(aO:ops[q]?=some o)(qh:p.testBit q=false)(bo:∀ e,mH ops q e->L e):∀ t∈looks ops o,e9 β (F t) (a.tmps.getD t undef):=λt au=>h.T t λi hi ai=>
 hi.2 ((Inv.ahead dh h.q8 aO qh hi.1 au ai).mem h.we bo)
def J8{x:dx}{t:Nat}(h:dst≠some t):put dst x F t=F t:=by
 cases dst with
 |none=>rfl| some d=>have:t≠d:=λe=>h (by rw[e]);simp only[put,gS,hF this,cD]
def put_eq{x:dx}{t:Nat}:put (some t) x F t=x:=by simp[put,gS]
def J9{t:Nat}(h:dst≠some t):(a.put dst v).tmps.getD t undef=a.tmps.getD t undef:=by
 cases dst with
 |none=>rfl| some d=>have:d≠t:=λe=>h (by rw[e]);simp only[Act.put,p8,F1,bS this]
def Oi{t:Nat}(h:t<a.tmps.size):(a.put (some t) v).tmps.getD t undef=v:=by rw[UL a t t v h,b2 rfl]
theorem Inv.record(dh:wb ops)(h:Inv X ops im' L β a w F C I M p cm hH gU)(aO:ops[q]?=some o)(qh:p.testBit q=false)(Bj:∀ e,mH ops q e->p.testBit e=true)(J':Ds o.op=true)
  {k6:Fr} (th:∀ t,tg (F t) (k6 t)) {x:dx} {Oj:List (Nat×Nat)} (sm:∀ s∈cm,s∈Oj) (af:(y' ops o k6/\cK X o.op (dr k6) C I (wa (im' q) M) (λy=>y=x) False/\∀ t y,o.op=.load t y->(q,J4 (dr k6 y))∈Oj)\/(J6 ops o k6/\x=.val undef)) :
  Inv X ops im' L β a w (put o.dst x k6) C I M (p ||| 2^q) Oj (λi=>if i=q then x else hH i) (λi=>if i=q then k6 else gU i):=by
 have q9:¬ L q:=λe=>by have:=h.sub q e;grind
 have q':∀ {i},kw L (p ||| 2^q) i->i≠q->kw L p i:=λhi bz=>⟨(pu.1 hi.1).resolve_right bz,hi.2⟩;have Bk:∀ {i},kw L p i->kw L (p ||| 2^q) i:=λhi=>⟨pu.2 (.inl hi.1),hi.2⟩;have ahj:kw L (p ||| 2^q) q:=⟨pu.2 (.inr rfl),q9⟩;have awF:∀ {i},kw L p i->¬ pt ops q i:=fun {i} hi ag=>by
  have:=ag.mem h.q8 (λe he=>h.q8 i e hi.1 he)
  grind
 refine⟨h.rel,λi hi=>pu.2 (.inl (h.sub i hi)),h.we,?_,?_,?_⟩
 ·intro j e ah he;rcases pu.1 ah with ah | rfl
  ·exact pu.2 (.inl (h.q8 j e ah he))
  grind
 ·intro t au;have aa:o.dst≠some t:=λe=>au q ahj (by rw[Gt aO,e]);rw[J8 aa];exact th t _ _ (h.T t λi hi=>au i (Bk hi))
 ·intro i hi;by_cases ra:i=q
  ·subst ra;refine⟨o,aO,⟨J',?_,?_,?_,?_⟩⟩
   ·intro d ai;rw[ai,put_eq];simp only[b2];exact .refl _
   ·intro t au j ah ag zb;have Ka:j≠i:=λe=>by
     subst e;have:=ag.mem h.q8 Bj
     grind
    simp only[bS Ka,b2];obtain⟨np,ahk,mJ⟩:=h.za j (q' ah Ka);exact(mJ.hg t (by rw[<-Gt ahk];exact zb)).trans (th t)
   ·intro t au ed;simp only[b2];refine th t _ _ (h.T t λj ah zb=>ed j (Bk ah) (Inv.ahead dh h.q8 aO qh ah.1 au zb) zb)
   grind
  ·obtain⟨gD,h7,mJ⟩:=h.za i (q' hi ra);refine⟨gD,h7,⟨mJ.quiet,?_,?_,?_,?_⟩⟩
   ·intro d ai;simp only[bS ra];rw[J8 (dh.Of i q gD o d ra h7 aO ai)];exact(mJ.hg d ai).trans (th d)
   ·intro t au j ah ag zb;have Kb:j≠q:=λe=>by grind
    simp only[bS ra,bS Kb];exact mJ.b t au j (q' ah Kb) ag zb
   ·intro t au ed;simp only[bS ra];exact mJ.a t au λj ah=>ed j (Bk ah)
   ·simp only[bS ra];exact mJ.r.imp d5 id
theorem Inv.exec{h6:Act->World->Prop}(aL:cU X.P X.E)(dh:wb ops)(jm:∀ d,o.dst=some d->d<X.n)(h:Inv X ops im' L β a w F C I M p cm hH gU)(aO:ops[q]?=some o)(aI:kw L p q)(bo:∀ e,mH ops q e->L e)
  (dj:∀ bN,Inv X ops im' (λi=>L i\/i=q) β bN w F C I M p cm hH gU->h6 bN w):wpOpIn (g2 X) 0 X.P ops.toArray Q q h6 a w:=by
 obtain⟨o',wg,mJ⟩:=h.za q aI;rw[aO]at wg;cases wg;have Vn:∀ {i},pt ops i q->¬ kw L p i:=λag hi=>hi.2 (ag.mem h.we bo);have dD:∀ t∈looks ops o,e9 β (gU q t) (a.tmps.getD t undef):=λt au=>mJ.a t au λi hi ag=>(Vn ag hi).elim;have after:∀ v,e9 β (hH q) v->Inv X ops im' (λi=>L i\/i=q) β (a.put o.dst v) w F C I M p cm hH gU:=λv ak=>by
  have q':∀ {i},kw (λi=>L i\/i=q) p i->kw L p i/\i≠q:=λhi=>⟨⟨hi.1,λe=>hi.2 (.inl e)⟩,λe=>hi.2 (.inr e)⟩;have Bk:∀ {i},kw L p i->i≠q->kw (λi=>L i\/i=q) p i:=λhi bz=>⟨hi.1,λe=>e.elim hi.2 bz⟩;refine⟨h.rel.put jm (x:=.nl) trivial |> λh=>h.refine λ_=>trivial,?_,?_,h.q8,?_,?_⟩
  ·rintro i (hi | rfl)
   ·exact h.sub i hi
   ·exact aI.1
  ·rintro j e (ah | rfl) he
   ·exact .inl (h.we j e ah he)
   grind
  ·intro t au;by_cases ai:o.dst=some t
   ·have a1:t<a.tmps.size:=by rw[h.rel.size];grind
    rw[ai,Oi a1];exact mJ.hg t ai _ _ ak
   ·rw[J9 ai];refine h.T t λi hi sp=>?_;by_cases ra:i=q
    ·subst ra;rw[Gt aO]at sp;grind
    grind
  ·intro i hi;obtain⟨cz,ra⟩:=q' hi;obtain⟨gD,h7,sq⟩:=h.za i cz;refine⟨gD,h7,⟨sq.quiet,sq.hg,λt au j ah=>sq.b t au j (q' ah).1,?_,sq.r⟩⟩;intro t au ed;by_cases ai:o.dst=some t
   ·have a1:t<a.tmps.size:=by rw[h.rel.size];grind
    rw[ai,Oi a1];have ag:pt ops q i:=by
     rcases dh.ord q i o gD t (r9 ra) aO h7 ai au with ag | ag;·exact ag
     grind
    exact sq.b t au q aI ag (by rw[Gt aO,ai]) _ _ ak
   ·rw[J9 ai];refine sq.a t au λj ah ag zb=>?_;by_cases Kb:j=q
    ·subst Kb;rw[Gt aO]at zb;grind
    grind
 have Gv:ops.toArray[q]?=some o:=by grind
 unfold wpOpIn;simp only[Gv];rcases mJ.r with⟨e',Vo,-⟩ | ⟨Kc,ab⟩
 ·rw[Vj e' dD,b2 rfl];let G:Fr:=λt=>if t∈looks ops o then gU q t else .nl
  have g3:∀ t,e9 β (G t) (a.tmps.getD t undef):=λt=>by
   by_cases au:t∈looks ops o
   grind
   ·simp only[G,bS au];trivial
  have Ok:∀ y∈o.op.operands,dr G y=dr (gU q) y:=λy aG=>by
   cases y with
   |tmp t=>simp only[dr,G,b2 (Oh aG)]| const v=>cases v<;>rfl
   |global g=>rfl| func f=>rfl
  have ahl:=Vg Vo Ok (C':=C) (I':=I) (M':=M) λ_ _ _=>⟨am,λ_ _ _ h=>ag2 h⟩;obtain⟨dst,op,ty,pos,ahm,guard⟩:=o;have b':∀ c,op≠.defer c:=λc e=>by have:=mJ.quiet;rw[e]at this;cases this
  rcases U1 aL (h.rel.refine g3) op ty dst pos ahm guard ahl with aa | ⟨v,x,jn,ab,rfl⟩
  grind
  ·exact ix b' jn d5
 ·rw[Vk Kc dD];simp only[lE,mB];exact⟨λ_ _=>trivial,dj _ (after undef (by rw[ab];rfl))⟩
end
section
variable{X:cN}{ops:List Oper}{im':Nat->Bool}{L:Nat->Prop}{β:Nat->Nat}{a:Act}{w:World}{F:Fr}{C:de}{I:aH}{M:List aA}{p:Nat}{cm:List (Nat×Nat)}{hH:Nat->dx}{gU:Nat->Fr}{q:Nat}{o:Oper}
def Inv.refine(h:Inv X ops im' L β a w F C I M p cm hH gU){k6:Fr}(th:∀ t,tg (F t) (k6 t)):Inv X ops im' L β a w k6 C I M p cm hH gU:=
 ⟨h.rel,h.sub,h.we,h.q8,λt au=>th t _ _ (h.T t au),λi hi=>by
  obtain⟨gD,h7,aI⟩:=h.za i hi;exact⟨gD,h7,⟨aI.quiet,λd ai=>(aI.hg d ai).trans (th d),aI.b,aI.a,aI.r⟩⟩⟩
theorem Inv.step(dh:wb ops)(jm:∀ d,o.dst=some d->d<X.n)(h:Inv X ops im' L β a w F C I M p cm hH gU)(aO:ops[q]?=some o)(qh:p.testBit q=false)(bo:∀ e,mH ops q e->L e)
 {x:dx} {C':de} {I':aH} {M':List aA} (ab:e9 β x v) (af:cM X β a w' (λ_=>.nl) C' I' M')
  (hm:∀ i gD iW,kw L p i->ops[i]?=some gD->qf gD.op=true->(i,iW)∈cm->(∀ s,iW=s+1->C' s=C s)/\(iW=0->∀ b o,h4 I (wa (im' i) M) b o->h4 I' (wa (im' i) M') b o)) :
  Inv X ops im' (λi=>L i\/i=q) β (a.put o.dst v) w' (put o.dst x F) C' I' M' (p ||| 2^q) cm hH gU:=by
 have q':∀ {i},kw (λi=>L i\/i=q) (p ||| 2^q) i->kw L p i:=λhi=>⟨(pu.1 hi.1).resolve_right (λe=>hi.2 (.inr e)),λe=>hi.2 (.inl e)⟩;have Bk:∀ {i},kw L p i->kw (λi=>L i\/i=q) (p ||| 2^q) i:=fun {i} hi=>⟨pu.2 (.inl hi.1),λe=>e.elim hi.2 (λe=>by
  subst e;have:=hi.1
  grind)⟩
 refine⟨af.put jm (x:=.nl) trivial |> λh=>h.refine λ_=>trivial,?_,?_,?_,?_,?_⟩
 ·rintro i (hi | rfl)
  ·exact pu.2 (.inl (h.sub i hi))
  simp
 ·rintro j e (ah | rfl) he
  ·exact .inl (h.we j e ah he)
  grind
 ·intro j e ah he;rcases pu.1 ah with ah | rfl
  ·exact pu.2 (.inl (h.q8 j e ah he))
  ·exact pu.2 (.inl (h.sub e (bo e he)))
 ·intro t au;by_cases ai:o.dst=some t
  ·have a1:t<a.tmps.size:=by rw[h.rel.size];grind
   rw[ai,Oi a1,put_eq];exact ab
  ·rw[J9 ai,J8 ai];exact h.T t λi hi=>au i (Bk hi)
 ·intro i hi;have cz:=q' hi;obtain⟨gD,h7,sq⟩:=h.za i cz;have ra:i≠q:=λe=>by
   subst e;have:=cz.1
   grind
  refine⟨gD,h7,⟨sq.quiet,?_,λt au j ah=>sq.b t au j (q' ah),?_,?_⟩⟩;·intro d ai;rw[J8 (dh.Of i q gD o d ra h7 aO ai)];exact sq.hg d ai
  ·intro t au ed;have ai:o.dst≠some t:=λai=>by
    rcases dh.ord q i o gD t (r9 ra) aO h7 ai au with ag | ag
    ·have:=ag.mem h.q8 (λe he=>h.q8 i e cz.1 he)
     grind
    ·exact cz.2 (ag.mem h.we bo)
   rw[J9 ai];exact sq.a t au λj ah=>ed j (Bk ah)
  ·refine sq.r.imp (λ⟨aa,ad,aj⟩=>⟨aa,Vg ad am λt x az=>?_,aj⟩) id;have aJ:=aj t x az;have bD:=hm i gD _ cz h7 (by rw[az];rfl) aJ;refine⟨λs off e=>?_,λbz=>bD.2 ?_⟩
   ·exact bD.1 s (by rw[e];rfl)
   ·generalize dr (gU i) x=ahn at bz;cases ahn with
    |ref s off=>grind| _=>rfl
def Bl(X:cN)(ops:List Oper)(im':Nat->Bool)(K:fz)(L:Nat->Prop)(a:Act)(w:World):Prop:=
 ∃ β F C I M p cm hH gU n,Inv X ops im' L β a w F C I M p cm hH gU/\pq X ops im' n p cm F C I M K
theorem Gw{k:Bool}{i:Nat}:i∈qg ops p k ↔ ∃ o,ops[i]?=some o/\p.testBit i=false/\Ds o.op=k/\(∀ e,mH ops i e->p.testBit e=true):=by
 unfold qg;rw[nV,j9];have aho:∀ {o},ops[i]?=some o->(Gr o p=true ↔ ∀ e,mH ops i e->p.testBit e=true):=fun {o} aD=>by
  unfold Gr;rw[fN];constructor
  ·rintro h e⟨o',lN,wg,wc,ag,rfl⟩
   grind
  ·intro h lN wc;cases ag:Region.binds .any lN with
   |false=>simp| true=>simp[h lN.on ⟨o,lN,aD,d5,ag,rfl⟩]
 grind
def Vp{P:Nat->Prop}:∀ {l:List Nat},Oa P l->∀ i∈l,P i
 |[],_,i,hi=>by cases hi
 |[j],h,i,hi=>by rw[eL]at hi;subst hi;exact h
 |j::k::l,h,i,hi=>by
  rcases er.1 hi with rfl | hi;·exact h.1
  ·exact Vp (l:=k::l) h.2 i hi
theorem ahp(i:Nat)(op:Op)(ρ:Operand->dx)(cm:List (Nat×Nat)):∀ s∈cm,s∈Gs i op ρ cm:=λs av=>by
 unfold Gs
 grind
def ahq{i:Nat}{ρ:Operand->dx}{cm:List (Nat×Nat)}:∀ t x,op=.load t x->(i,J4 (ρ x))∈Gs i op ρ cm:=λt x aK=>by subst aK;unfold Gs;simp
theorem Bl.advance(dh:wb ops){K:fz}:∀ (n:Nat) {p cm F hH gU},Inv X ops im' L β a w F C I M p cm hH gU->pq X ops im' n p cm F C I M K -> ∃ p cm F hH gU n,Inv X ops im' L β a w F C I M p cm hH gU/\qg ops p true=[]/\pq X ops im' (n+1) p cm F C I M K
 |0,_,_,_,_,_,_,ak=>ak.elim
 |n+1,p,cm,F,hH,gU,bE,ak=>by
  cases af:qg ops p true with
  |nil=>grind
  |cons q l=>
   have ka:q∈qg ops p true:=by grind
   obtain⟨o,aO,qh,J',Bj⟩:=Gw.1 ka;have k2:=ak;unfold pq at k2;rw[af]at k2;simp only[aO]at k2;obtain⟨k6,th,⟨e',aa⟩ | ⟨Kc,aa⟩⟩:=Vl k2;·obtain⟨x,ad,aj⟩:=ag8 (ag4 aa);exact Bl.advance dh n (bE.record dh aO qh Bj J' th (ahp _ _ _ _) (.inl ⟨e',aj,ahq⟩)) ad
   ·exact Bl.advance dh n (bE.record dh aO qh Bj J' th (λ_ h=>h) d5) aa
theorem mem_ready{i:Nat}(dk:dC.size=ops.length):i∈Region.ready .any ops.toArray dC ↔ ∃ o,ops[i]?=some o/\¬ dC.getD i false=true/\∀ e,mH ops i e->dC.getD e false=true:=by
 unfold Region.ready;rw[nV,j9];simp only[s5,A0,cC,xo];have aho:∀ {o},ops[i]?=some o->((o.after.all λe=>!Region.binds .any e||dC.getD e.on false)=true ↔ ∀ e,mH ops i e->dC.getD e false=true):=fun {o} aD=>by
  rw[Array.all_eq_true_iff_forall_mem];constructor
  ·rintro h e⟨o',lN,wg,wc,ag,rfl⟩
   grind
  ·intro h lN wc;cases ag:Region.binds .any lN with
   |false=>simp| true=>simp[h lN.on ⟨o,lN,aD,wc,ag,rfl⟩]
 grind
theorem Vq{i:Nat}(hi:i<dC.size):(λj=>(dC.setIfInBounds i true).getD j false=true)=λj=>dC.getD j false=true\/j=i:=by
 funext j;simp only[p8,F1,eq_iff_iff]
 grind
def todo(ops:List Oper)(dC:Array Bool):Nat:=((List.range ops.length).filter λi=>!dC.getD i false).length
theorem Kd{i:Nat}(hi:i<ops.length)(dk:dC.size=ops.length)(aC:¬ dC.getD i false=true):todo ops (dC.setIfInBounds i true)<todo ops dC:=by
 unfold todo;have key:∀ l:List Nat,l.Nodup->i∈l->((l.filter λj=>!(dC.setIfInBounds i true).getD j false).length<(l.filter λj=>!dC.getD j false).length):=by
  have same:∀ j,j≠i->(dC.setIfInBounds i true).getD j false=dC.getD j false:=λj ah=>by simp only[p8,F1,bS (r9 ah)]
  have self:(dC.setIfInBounds i true).getD i false=true:=by simp_all
  have zc:dC.getD i false=false:=by grind
  intro l
  induction l with
  |nil=>simp
  |cons j l aQ=>
   intro b' hm;rw[lG]at b';by_cases e:j=i
   ·subst e;have:l.filter (λk=>!(dC.setIfInBounds j true).getD k false)=l.filter (λk=>!dC.getD k false):=
     F4 λk ae=>by grind
    grind
   grind
 grind
theorem ahr(aL:cU X.P X.E)(dh:wb ops)(jm:∀ o∈ops,∀ d,o.dst=some d->d<X.n){K:fz}(kd:∀ a w,Sat X K a w->Q .normal a w):∀ (jo:Nat) (dC:Array Bool) (a:Act) (w:World),
  dC.size=ops.length->todo ops dC<=jo->Bl X ops im' K (λi=>dC.getD i false=true) a w->wpAnyIn (g2 X) 0 X.P .any ops.toArray Q jo dC a w:=by
 intro jo
 induction jo with
 |zero=>
  rintro dC a w dk aE⟨β,F,C,I,M,p,cm,hH,gU,n,bE,ak⟩;have nq:Region.ready .any ops.toArray dC=[]:=by
   cases af:Region.ready .any ops.toArray dC with
   |nil=>rfl| cons i l=>obtain⟨o,aD,aC,_⟩:=(mem_ready dk).1 (by grind:i∈Region.ready .any ops.toArray dC);have:=Kd (iP.1 aD).1 dk aC;omega
  refine⟨nq,?_⟩;obtain⟨p,cm,F,hH,gU,n,bE,h8,ak⟩:=Bl.advance dh n bE ak;have Ol:∀ i,p.testBit i=true->dC.getD i false=true:=λi=>by
   induction i using Nat.strongRecOn with
   |ind i aQ=>
    intro aI;refine F2 λaC=>?_;obtain⟨o,aD,_⟩:=bE.za i ⟨aI,aC⟩;have:i∈Region.ready .any ops.toArray dC:=(mem_ready dk).2 ⟨o,aD,aC,λe he=>aQ e (dh.lt i e he) (bE.q8 i e aI he)⟩
    grind
  have mK:qg ops p false=[]:=by
   cases af:qg ops p false with
   |nil=>rfl
   |cons i l=>
    obtain⟨o,aD,aI,_,ai⟩:=Gw.1 (by grind:i∈qg ops p false);have:i∈Region.ready .any ops.toArray dC:=(mem_ready dk).2 ⟨o,aD,λdg=>(by have eZ:=bE.sub i dg;grind),d5⟩
    grind
  unfold pq at ak;rw[h8,mK]at ak;exact kd _ _ ⟨F,C,I,M,⟨β,bE.rel.refine λt=>bE.T t λi hi=>(hi.2 (Ol i hi.1)).elim⟩,ak⟩
 |succ jo aQ=>
  rintro dC a w dk aE⟨β,F,C,I,M,p,cm,hH,gU,n,bE,ak⟩;obtain⟨p,cm,F,hH,gU,n,bE,h8,ak⟩:=Bl.advance dh n bE ak;refine⟨λnq=>?_,λq aO=>?_⟩
  ·have Ol:∀ i,p.testBit i=true->dC.getD i false=true:=λi=>by
    induction i using Nat.strongRecOn with
    |ind i aQ=>
     intro aI;refine F2 λaC=>?_;obtain⟨o,aD,_⟩:=bE.za i ⟨aI,aC⟩;have:i∈Region.ready .any ops.toArray dC:=(mem_ready dk).2 ⟨o,aD,aC,λe he=>aQ e (dh.lt i e he) (bE.q8 i e aI he)⟩
     grind
   have mK:qg ops p false=[]:=by
    cases af:qg ops p false with
    |nil=>rfl
    |cons i l=>
     obtain⟨o,aD,aI,_,ai⟩:=Gw.1 (by grind:i∈qg ops p false);have:i∈Region.ready .any ops.toArray dC:=(mem_ready dk).2 ⟨o,aD,λdg=>(by have eZ:=bE.sub i dg;grind),d5⟩
     grind
   unfold pq at ak;rw[h8,mK]at ak;exact kd _ _ ⟨F,C,I,M,⟨β,bE.rel.refine λt=>bE.T t λi hi=>(hi.2 (Ol i hi.1)).elim⟩,ak⟩
  ·obtain⟨o,aD,aC,ai⟩:=(mem_ready dk).1 aO;have a1:=(iP.1 aD).1;have uF:=jm o (r7 aD);have g4:=Vq (dC:=dC) (i:=q) Z;have next:∀ bN w',Bl X ops im' K (λi=>dC.getD i false=true\/i=q) bN w'->wpAnyIn (g2 X) 0 X.P .any ops.toArray Q jo (dC.setIfInBounds q true) bN w':=λbN w' h=>by refine aQ _ bN w' d5 ?_ d5;have:=Kd a1 dk aC;omega
   cases qh:p.testBit q with
   |true=>
    exact bE.exec aL dh uF aD ⟨qh,aC⟩ ai λbN h=>next bN w ⟨β,F,C,I,M,p,cm,hH,gU,n+1,h,ak⟩
   |false=>
    have Ke:∀ e,mH ops q e->p.testBit e=true:=λe he=>bE.sub e (ai e he);have ahs:Ds o.op=false:=by
     cases aht:Ds o.op with
     |false=>rfl
     |true=>
      have:q∈qg ops p true:=Gw.2 ⟨o,aD,qh,aht,Ke⟩
      grind
    have ka:q∈qg ops p false:=Gw.2 ⟨o,aD,qh,ahs,Ke⟩;unfold pq at ak;rw[h8]at ak;simp only at ak;split at ak
    grind
    ·rename_i i0 fC mK;rw[mK]at ka;have ag:=Vp ak q ka;simp only[aD]at ag;obtain⟨k6,th,ag⟩:=Vl ag;have c8:=bE.refine th;have mb:=c8.ahi dh aD qh ai;have Gv:ops.toArray[q]?=some o:=by grind
     unfold wpOpIn;simp only[Gv];rcases ag with⟨e',ag⟩ | ⟨Kc,ag⟩
     ·rw[Vj e' mb,b2 rfl];cases Om:U8 ((k5 ops).getD q 0) p with
      |true=>
       rw[Om]at ag;simp only[v',cF]at ag;have eG:∀ i,p.testBit i=true->dC.getD i false=true:=λi hi=>by
        have aa:=ea Om;have ad:(p &&& (k5 ops).getD q 0).testBit i=true:=by grind
        rw[Nat.testBit_and,cC]at ad;exact(y8 ad.2).mem bE.we ai
       have aM:Rel X a w k6 C I M:=⟨β,c8.rel.refine λt=>c8.T t λi hi=>(hi.2 (eG i hi.1)).elim⟩;refine s6 (λbN w'=>?_) (Dn aL uF aM ag);rintro⟨c7,C',I',M',⟨ov,fB⟩,ae⟩;have awG:∀ i,¬ kw (λi=>dC.getD i false=true\/i=q) (p ||| 2^q) i:=λi hi=>by
        rcases pu.1 hi.1 with aa | aa;·exact hi.2 d5
        ·exact hi.2 (.inr aa)
       refine next bN w' ⟨ov,c7,C',I',M',p ||| 2^q,cm,hH,gU,n,⟨fB.refine λ_=>trivial,?_,?_,?_,λt _=>fB.an t,d5⟩,ae⟩
       ·rintro i (hi | rfl)
        ·exact pu.2 (.inl (bE.sub i hi))
        simp
       ·rintro j e (ah | rfl) he
        ·exact .inl (bE.we j e ah he)
        grind
       ·intro j e ah he;rcases pu.1 ah with ah | rfl
        ·exact pu.2 (.inl (bE.q8 j e ah he))
        grind
      |false=>
       rw[Om]at ag;let G:Fr:=λt=>if t∈looks ops o then k6 t else .nl
       have g3:∀ t,e9 β (G t) (a.tmps.getD t undef):=λt=>by
        by_cases au:t∈looks ops o
        grind
        ·simp only[G,bS au];trivial
       have Ok:∀ y∈o.op.operands,dr G y=dr k6 y:=λy aG=>by
        cases y with
        |tmp t=>simp only[dr,G,b2 (Oh aG)]| const v=>cases v<;>rfl
        |global g=>rfl| func f=>rfl
       refine s6 (λbN w'=>?_) (ahb aL (c8.rel.refine g3) Ok ag);rintro⟨v,x,C',I',M',rfl,ab,fB,ae,hm⟩;refine next _ _ ⟨β,_,C',I',M',p ||| 2^q,cm,hH,gU,n,c8.step dh uF aD qh ai ab (fB.refine λ_=>trivial) ?_,ae⟩
       rcases hm with⟨J2,nr⟩ | ⟨rfl,bn,fh⟩
       rotate_left
       ·exact λ_ _ _ _ _ _ _=>⟨am,λ_=>Vb fh bn⟩
       have Vn:∀ {i},kw (λi=>dC.getD i false=true) p i->((k5 ops).getD q 0).testBit i=true->False:=λhi ag=>hi.2 ((y8 ag).mem bE.we ai);intro i gD iW hi h7 fg ka;have ed:∀ {s:Nat},Bg ((k5 ops).getD q 0) s cm=true->iW≠s:=fun {s} h e=>by
        rcases U9 h ka with aa | aa
        grind
        omega
       rcases(nj _ _).mp J2 with ahu | ahv
       ·have aa:=fN.1 ahu i (j9.2 (iP.1 h7).1);rw[hi.1,h7]at aa
        grind
       rcases(nj _ _).mp ahv with On | Gx
       ·unfold Va at On;split at On
        ·rename_i t0 wh Vr eB;split at On
         ·rename_i cf awH aK;obtain⟨⟨eQ,hq⟩,cZ⟩:=nr.1 _ _ _ _ _ eB aK;exact⟨d5,λ_=>Vb cZ hq⟩
         grind
        grind
       rcases(nj _ _).mp Gx with Gx | Bm
       ·unfold U' at Gx;split at Gx
        ·rename_i t0 wh Vr eB;split at Gx
         ·rename_i ahw aK;exact⟨λ_ _=>by rw[(nr.2.1 _ _ _ _ eB aK).1],d5⟩
         grind
        ·rename_i eB;exact⟨λ_ _=>by rw[(nr.2.2 d5).1],d5⟩
        grind
       unfold Ve at Bm;rw[cC]at Bm;obtain⟨ahx,Bm⟩:=Bm;have ahy:im' i=true:=by
        have aa:=fN.1 ahx i (j9.2 (iP.1 h7).1);rw[hi.1,h7]at aa
        grind
       have bn:C'=C/\∀ b o,I b=some o->I' b=some o:=by
        unfold Vd at Bm;split at Bm
        ·rename_i t0 wh Vr eB;split at Bm
         ·rename_i ahw aK;exact nr.2.1 _ _ _ _ eB aK
         grind
        ·rename_i eB;exact nr.2.2 d5
        ·rename_i eB;exact nr.2.2 d5
        grind
       exact⟨d5,λ_=>by rw[ahy];exact ag3 bn.2⟩
     ·rw[Vk Kc mb];simp only[lE,mB];refine⟨λ_ _=>trivial,next _ _ ⟨β,_,C,I,M,p ||| 2^q,cm,hH,gU,n,c8.step dh uF aD qh ai (x:=.val undef) rfl c8.rel am,ag⟩⟩
end
theorem cY.Oo{X:cN}{id:Nat}{F:Fr}{C:de}{I:aH}{M:List aA}{K:jC}(aL:cU X.P X.E)(hm:X.P.follows .mixedOrders=true)(ao:Bh A.toList=true)(aC:xC X.n A=true)
  {im':Nat->Bool} (h:pq X A.toList im' (A.size+1) 0 [] F C I M (K .normal)):cY X (.region id A true) F C I M K:=by
 refine⟨λa w ⟨β,aM⟩=>wpIn_region_any hm ?_⟩;have rc:cM X β a { w with drawn:=w.drawn+1 } F C I M:=aM.world rfl;have bZ:∀ i,(Array.replicate A.size false).getD i false=false:=λi=>by
  by_cases hi:i<A.size<;>simp[p8,hi]
 have pw:∀ {i},¬ (Array.replicate A.size false).getD i false=true:=fun {i}=>by grind
 have key:=ahr (K:=K .normal) (Q:=mF X K) aL (Vi ao) (JU aC) (λ_ _ h=>h) A.size (Array.replicate A.size false) a { w with drawn:=w.drawn+1 } am ?_ ⟨β,F,C,I,M,0,[],λ_=>.nl,λ_ _=>.nl,A.size+1,⟨rc.refine λ_=>trivial,d5,λj e ah=>(pw ah).elim,λj e ah=>by simp at ah,λt _=>rc.an t,λi hi=>by simp[kw]at hi⟩,h⟩;omega
 ·unfold todo
  grind
def cY.Vs{X:cN}{id:Nat}{F:Fr}{C:de}{I:aH}{M:List aA}{K:jC}(aL:cU X.P X.E)(hm:X.P.follows .mixedOrders=true)(ao:Bh A.toList=true)(aC:xC X.n A=true)
  {im':Nat->Bool} (a2:ι->xB) (inv:ι->Prop) (ak:pq X A.toList im' (A.toList.length+1) 0 [] F C I M (qe X.foot a2 inv)) (bm:∀ i,inv i->K .normal (q3 (a2 i).bp) (q4 (a2 i).cl) (a2 i).cO (a2 i).c5):cY X (.region id A true) F C I M K:=by
 obtain⟨h⟩:=cY.Oo (im':=im') (K:=λe=>match e with
  | .normal=>qe X.foot a2 inv| e=>K e) aL hm ao aC ak
 refine⟨λa w aM=>wpIn_mono (h a w aM) ?_⟩;intro e a w av;cases e with
 |normal=>obtain⟨c7,C',I',M',⟨β,af⟩,⟨j,sk,hw,bw,gg⟩⟩:=av;exact⟨_,_,_,_,⟨β,(af.dJ bw gg).hT hw⟩,bm j sk⟩
 |_=>exact av
def cY.draw{X:cN}{id:Nat}{F:Fr}{C:de}{I:aH}{M:List aA}{K:jC}(aL:cU X.P X.E)(hm:X.P.follows .mixedOrders=true)(ao:Bh A.toList=true)(aC:xC X.n A=true)(h:pq X A.toList (λ_=>false) (A.size+1) 0 [] F C I M (K .normal)):cY X (.region id A true) F C I M K:=.Oo aL hm ao aC h
def cY.Bn{X:cN}{id:Nat}{F:Fr}{C:de}{I:aH}{M:List aA}{K:jC}(aL:cU X.P X.E)(hm:X.P.follows .mixedOrders=true)(ao:Bh A.toList=true)(aC:xC X.n A=true)
 (a2:ι->xB) (inv:ι->Prop) (ak:pq X A.toList (λ_=>false) (A.toList.length+1) 0 [] F C I M (qe X.foot a2 inv)) (bm:∀ i,inv i->K .normal (q3 (a2 i).bp) (q4 (a2 i).cl) (a2 i).cO (a2 i).c5):cY X (.region id A true) F C I M K:=.Vs aL hm ao aC a2 inv ak bm
def cY.Oq{X:cN}{id:Nat}{F:Fr}{C:de}{I:aH}{M:List aA}{K:jC}(hg:Nat->Bool)(aL:cU X.P X.E)(hm:X.P.follows .mixedOrders=true)(ao:Bh A.toList=true)(aC:xC X.n A=true)(h:pq X A.toList hg (A.size+1) 0 [] F C I M (K .normal)):cY X (.region id A true) F C I M K:=.Oo aL hm ao aC h
def Vt(J:Nat->Nat->Act->World->Prop)
  (first:c.wpIn sb n P (λe bN w'=>match e with
   | .goto l=>∃ m,J l m bN w'| e=>Q e bN w') a w)
  (pass:∀ l m a w,J l m a w->∃ bm,findLabel c l=some bm/\bm.wpIn sb n P (λe bN w'=>match e with
   | .goto eF=>∃ m',m'<m/\J eF m' bN w'| e=>Q e bN w') a w):(Code.scope c).wpIn sb n P Q a w:=by
 intro b k cs iS ag af;have cf:step P (lone (b.atR a (.code (.scope c)::k)) cs w)=.next (lone (b.atR a (.code c::.inScope c::k)) cs w):=
  step_lone_go (by simp[stepG,stepG.exec,Frame.atR])
 have s1:∀ a w,step P (lone (b.atR a (.inScope c::k)) cs w)=.next (lone (b.atR a k) cs w):=λa w=>
  step_lone_go (by simp[stepG,stepG.exec,Frame.atR])
 have ab:∀ id,exitTo id (.inScope c::k)=exitTo id k:=λid=>by simp[exitTo]
 have fin:∀ {m:Machine} {e:Exit} {jX:Act} {jY:World},(∀ l,e≠.goto l)->ArrivesIn (Machine.fenced P sb) P m b (.inScope c::k) cs e jX jY->ArrivesIn (Machine.fenced P sb) P m b k cs e jX jY:=by
  intro m e jX jY bz iT;cases e with
  |normal=>exact StepsIn.trans iT (.one (fenced_calm ag af rfl) (s1 _ _))| exit id=>exact⟨λe4 ae=>iT.1 e4 (by rw[ab];exact ae),λfB ae=>iT.2 fB (by rw[ab];exact ae)⟩| goto l=>exact(bz l rfl).elim| ret=>exact iT| panic Gm=>exact iT| outgrown=>exact iT
 have key:∀ m l a w,J l m a w->∀ bm,findLabel c l=some bm->∃ e bN w',Q e bN w'/\ArrivesIn (Machine.fenced P sb) P (lone (b.atR a (.code bm::.inScope c::k)) cs w) b k cs e bN w':=by
  intro m
  induction m using Nat.strongRecOn with
  |_ m aQ=>
   intro l a w a4 bm re;obtain⟨Dt,aE,hw⟩:=pass l m a w a4;rw[re]at aE;cases aE;obtain⟨e,jX,jY,aO,iT⟩:=hw b (.inScope c::k) cs iS ag af;cases e with
   |goto eF=>
    obtain⟨m',a1,Du⟩:=aO;obtain⟨Dt,wi,_⟩:=pass eF m' jX jY Du;have aw:gotoIn eF (.inScope c::k)=some (.code Dt::.inScope c::k):=by simp[gotoIn,wi]
    obtain⟨Gh,Gi,Gj,Gk,Gl⟩:=aQ m' a1 eF jX jY Du Dt wi;exact⟨Gh,Gi,Gj,Gk,.of_steps (iT.1 _ aw) Gl⟩
   |normal=>exact⟨_,jX,jY,aO,fin am iT⟩| exit id=>exact⟨_,jX,jY,aO,fin am iT⟩| ret=>exact⟨_,jX,jY,aO,fin am iT⟩| panic Gm=>exact⟨_,jX,jY,aO,fin am iT⟩| outgrown=>exact⟨_,jX,jY,aO,fin am iT⟩
 have ax:(lone (b.atR a (.code (.scope c)::k)) cs w).fenced P sb:=fenced_calm ag af rfl;obtain⟨e,jX,jY,aO,iT⟩:=first b (.inScope c::k) cs iS ag af
 cases e with
 |goto eF=>
  obtain⟨m',Du⟩:=aO;obtain⟨Dt,wi,_⟩:=pass eF m' jX jY Du;have aw:gotoIn eF (.inScope c::k)=some (.code Dt::.inScope c::k):=by simp[gotoIn,wi]
  obtain⟨Gh,Gi,Gj,Gk,Gl⟩:=key m' eF jX jY Du Dt wi;exact⟨Gh,Gi,Gj,Gk,.of_steps (.head ax cf (iT.1 _ aw)) Gl⟩
 |normal=>exact⟨_,jX,jY,aO,.of_steps (.one ax cf) (fin am iT)⟩| exit id=>exact⟨_,jX,jY,aO,.of_steps (.one ax cf) (fin am iT)⟩| ret=>exact⟨_,jX,jY,aO,.of_steps (.one ax cf) (fin am iT)⟩| panic Gm=>exact⟨_,jX,jY,aO,.of_steps (.one ax cf) (fin am iT)⟩| outgrown=>exact⟨_,jX,jY,aO,.of_steps (.one ax cf) (fin am iT)⟩
def Ot(N:Nat->fz)(K:jC):jC
 | .goto l=>N l| e=>K e
def cY.scope{X:cN}{F:Fr}{C:de}{I:aH}{M:List aA}{K:jC}(aL:cU X.P X.E)(bf:codeOk X.n c=true)(a2:ι->xB)(br:ι->Nat)(inv:ι->Prop)(μ:ι->Nat)(bm:Nat->Code)(re:∀ i,inv i->findLabel c (br i)=some (bm (br i))/\codeOk X.n (bm (br i))=true)(first:V X c F C I M (Ot (λl=>qe X.foot a2 λj=>inv j/\br j=l) K))(pass:∀ i,inv i->V X (bm (br i)) (q3 (a2 i).bp) (q4 (a2 i).cl) (a2 i).cO (a2 i).c5 (Ot (λl=>qe X.foot a2 λj=>(inv j/\br j=l)/\μ j<μ i) K)) :
  cY X (.scope c) F C I M K:=by
 refine⟨λa w aM=>?_⟩;let J (l m:Nat) (a:Act) (w:World):Prop:=∃ i,inv i/\br i=l/\μ i=m/\Rel X a w (q3 (a2 i).bp) (q4 (a2 i).cl) (a2 i).cO (a2 i).c5
 have y6:∀ {p:ι->Prop} {l:Nat} {a w},(∀ i,p i->inv i/\br i=l)->Sat X (qe X.foot a2 p) a w->∃ i,p i/\J l (μ i) a w:=by rintro p l a w aI⟨F,C,I,M,⟨β,af⟩,⟨j,sk,hw,bw,gg⟩⟩;exact⟨j,sk,j,(aI j sk).1,(aI j sk).2,rfl,β,(af.dJ bw gg).hT hw⟩
 refine Vt J (wpIn_mono (q5 aL c bf aM first) ?_) ?_
 ·intro e a w h;cases e with
  |goto l=>obtain⟨j,ah,a4⟩:=y6 (p:=λj=>inv j/\br j=l) (l:=l) (λ_ h=>h) h;exact⟨_,a4⟩
  |_=>exact h
 ·rintro l m a w⟨i,hi,rfl,rfl,af⟩;obtain⟨aa,ad⟩:=re i hi;refine⟨_,aa,wpIn_mono (q5 aL _ ad af (pass i hi)) ?_⟩;intro e a w h;cases e with
  |goto eF=>obtain⟨j,ah,a4⟩:=y6 (p:=λj=>(inv j/\br j=eF)/\μ j<μ i) (l:=eF) (λ_ h=>h.1) h;exact⟨_,ah.2,a4⟩
  |_=>exact h
end Go.V
