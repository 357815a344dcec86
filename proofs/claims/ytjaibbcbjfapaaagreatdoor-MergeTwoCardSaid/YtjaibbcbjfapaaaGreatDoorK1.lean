/- Part 1 of what the proofs of this seat share: the executor, data in memory, walks.
-/
import Derived.WalkKit
import Derived.RangeFuncRecord
import Derived.OrdersIn
import Derived.Lib.UnsafeStr
set_option linter.all false
namespace Go.V
open Go
theorem Z{p:Prop}(h:p:=by omega):p:=h
theorem am{p:Prop}(h:p:=by simp):p:=h
theorem bv{p:Prop}(h:p:=by decide):p:=h
theorem ce{p:Prop}(h:p:=by simp only;omega):p:=h
theorem ci{p:Prop}(h:p:=by cases h):p:=h
theorem co{p:Prop}(h:p:=by simp[Op.operands]):p:=h
theorem d4{p:Prop}(h:p:=by kernel_rfl):p:=h
theorem d5{p:Prop}(h:p:=by simp at h):p:=h
theorem d6{p:Prop}(h:p:=by grind):p:=h
theorem d7{p:Prop}(h:p:=by simp;omega):p:=h
theorem d8{p:Prop}(h:p:=by exact eM (l₁:=(⟨b9,.cells (nU (q,0,hK t.ns[j].k t.ns[q].k)).toArray 378 (0,0)⟩:aD)::(u.M g++[⟨b6,.cells t.ns[j].cells.toArray 88 (0,0)⟩])) (l₂:=[⟨c9,.cells (cp aR ((n-1)*3+1) [.int .i64 ((i+1:Nat):Int)]).toArray 378 (0,0)⟩])):p:=h
theorem d9{p:Prop}(h:p:=by simp[Op.operands,Call.operands]):p:=h
theorem fd{p:Prop}(h:p:=by rw[nY,bA];show 0+i*1+1<=_;omega):p:=h
theorem f0{p:Prop}(h:p:=by simp[ae]):p:=h
theorem f7{p:Prop}(h:p:=by simp only[aY];exact⟨a,a8,rfl⟩):p:=h
theorem f8{p:Prop}(h:p:=by rw[dg,gm];exact nO P i (by omega) r):p:=h
theorem f9{p:Prop}(h:p:=by rw[aG];simp):p:=h
theorem gc{p:Prop}(h:p:=by rw[wrap_i64 ⟨by omega,by omega⟩];omega):p:=h
theorem gt{p:Prop}(h:p:=by simp[aO.aq]):p:=h
theorem ii{p:Prop}(h:p:=by show IntKind.i64.wrap ((dr.n:Int)-1)=_;rw[wrap_i64 ⟨by omega,by omega⟩];omega):p:=h
theorem io{p:Prop}(h:p:=by rw[aG];simp[Op.operands]):p:=h
theorem ip{p:Prop}(h:p:=by rw[ht,ai];decide):p:=h
theorem i3{p:Prop}(h:p:=by rw[h.2.2];exact ae):p:=h
theorem i4{p:Prop}(h:p:=by simp only[aY]):p:=h
theorem i5{p:Prop}(h:p:=by simp only[maxLen];omega):p:=h
theorem i6{p:Prop}(h:p:=by show n-1<=fv;omega):p:=h
theorem i7{p:Prop}(h:p:=by simpa using hi):p:=h
theorem i9{p:Prop}(h:p:=by simpa using h):p:=h
theorem jp{p:Prop}(h:p:=by unfold maxLen;simp only;omega):p:=h
theorem lm{p:Prop}(h:p:=by simp[aO.aq,az]):p:=h
theorem lw{p:Prop}(h:p:=by simp[Op.operands,Call.operands];grind):p:=h
theorem md{p:Prop}(h:p:=by have:=h.holds.d _ gj;simp only at this;rw[e,this]at jf;cases jf):p:=h
theorem mt{p:Prop}(h:p:=by simpa using ai):p:=h
theorem ol{p:Prop}(h:p:=by simpa using aa):p:=h
theorem pp{p:Prop}(h:p:=by simp only[aY];rfl):p:=h
theorem qr{p:Prop}(h:p:=by rw[bA];simp only;omega):p:=h
theorem rg{p:Prop}(h:p:=by show IntKind.i64.wrap ((todo.n:Int)-1)=_;rw[wrap_i64 ⟨by omega,by omega⟩];omega):p:=h
theorem rt{p:Prop}(h:p:=by simpa using ay):p:=h
theorem rx{p:Prop}(h:p:=by simp only[mF];rw[show letter s[i]=false from h,show digit s[i]=false from ab];rfl):p:=h
theorem t7{p:Prop}(h:p:=by cases aj):p:=h
theorem t8{p:Prop}(h:p:=by show IntKind.i64.wrap ((out.n:Int)-1)=_;rw[wrap_i64 ⟨by omega,by omega⟩,gK]):p:=h
theorem t9{p:Prop}(h:p:=by unfold maxLen;exact b1):p:=h
theorem v4{p:Prop}(h:p:=by show j<(t.ns.map ak.aW).length;rw[bA];exact ai):p:=h
theorem v6{p:Prop}(h:p:=by rw[e5];simpa using va):p:=h
theorem wn{p:Prop}(h:p:=by simp only[bP,du Cw,kX];exact bD _):p:=h
theorem wp{p:Prop}(h:p:=by rw[bA,fF];omega):p:=h
theorem wt{p:Prop}(h:p:=by cases ae):p:=h
theorem ww{p:Prop}(h:p:=by show(out.n+1)*96<=_;omega):p:=h
theorem AC{p:Prop}(h:p:=by simpa using aL):p:=h
theorem Do{p:Prop}(h:p:=by rw[dE]):p:=h
theorem Fd{p:Prop}(h:p:=by rw[mh,ah]):p:=h
theorem FS{p:Prop}(h:p:=by simp only[l0,eR,cD];exact⟨r,ag,rfl⟩):p:=h
theorem GE{p:Prop}(h:p:=by simp only[binOp];simp[he w]):p:=h
theorem H1{p:Prop}(h:p:=by simp[cu.aq,cu.aj]):p:=h
theorem Id{p:Prop}(h:p:=by simpa using ir):p:=h
theorem In{p:Prop}(h:p:=by simpa using ab):p:=h
theorem IO{p:Prop}(h:p:=by show n+1<=_;simp only[maxLen];omega):p:=h
theorem LE{p:Prop}(h:p:=by show _+(pX t.ns[j]).length<=_;omega):p:=h
theorem LT{p:Prop}(h:p:=by rw[hw,hu,Dv];rfl):p:=h
theorem Pi{p:Prop}(h:p:=by simp[pG,binOp,Op.intBits]):p:=h
theorem ST{p:Prop}(h:p:=by simp only[ct,ey,hl];omega):p:=h
theorem UV{p:Prop}(h:p:=by rw[ng];simp):p:=h
theorem WF{p:Prop}(h:p:=by have dW:=eL;rw[x6]at dW;exact dW _):p:=h
theorem WP{p:Prop}(h:p:=by show 8*t.n<=_;omega):p:=h
theorem aa'{p:Prop}(h:p:=by simp[pG,binOp,Op.intCmp]):p:=h
theorem abs{p:Prop}(h:p:=by simp only[mF];rw[show digit s[i]=true from ab];simp):p:=h
theorem ab'{p:Prop}(h:p:=by simp only[mF];rw[show letter s[i]=true from h];simp):p:=h
theorem acl{p:Prop}(h:p:=by show _<_;simp only;omega):p:=h
theorem act{p:Prop}(h:p:=by simp only[aY];exact⟨_,kq,rfl⟩):p:=h
theorem ac'{p:Prop}(h:p:=by simp only[aO.val];omega):p:=h
theorem adc{p:Prop}(h:p:=by exact .cons _ (.cons_cons _ (.cons _ (.refl _)))):p:=h
theorem ad'{p:Prop}(h:p:=by rcases aG with rfl | rfl<;>(unfold eqGuard;rfl)):p:=h
theorem ae'{p:Prop}(h:p:=by unfold nothing eC;simp):p:=h
theorem af'{p:Prop}(h:p:=by show(_+1)*2<=_;simp only;omega):p:=h
theorem ag'{p:Prop}(h:p:=by simp[he]):p:=h
theorem ah'{p:Prop}(h:p:=by simp[ab]):p:=h
theorem aig{p:Prop}(h:p:=by cases af):p:=h
theorem ai'{p:Prop}(h:p:=by simp[af]):p:=h
theorem aj'{p:Prop}(h:p:=by simp only[cz,Vp,cd,binOp,run_equal_bool hu,dn]):p:=h
theorem ak'{p:Prop}(h:p:=by simp[pG,binOp,Op.intArith,ag]):p:=h
theorem al'{p:Prop}(h:p:=by simp only[Op.operands,Array.mem_append];grind):p:=h
theorem am'{p:Prop}(h:p:=by have:=gB.a'.cap;omega):p:=h
theorem an'{p:Prop}(h:p:=by simp only[cz,pG,cd,binOp,Op.intCmp];simp;rfl):p:=h
theorem ao'{p:Prop}(h:p:=by simp only[cz,Oq,cd,binOp,Op.stringOp,dn,Vq]):p:=h
theorem ap'{p:Prop}(h:p:=by rw[hw]at aC;cases aC):p:=h
theorem aq'{p:Prop}(h:p:=by show 8*d.aA<=_;omega):p:=h
theorem arg{p:Prop}(h:p:=by rw[UM,fF];show min bF L.length*2=bF*2;omega):p:=h
theorem ar'{p:Prop}(h:p:=by rw[dE];rfl):p:=h
theorem ask{p:Prop}(h:p:=by rw[<-eZ,cY];rfl):p:=h
theorem as'{p:Prop}(h:p:=by rw[hs];exact b8):p:=h
theorem at8{p:Prop}(h:p:=by rw[o7];omega):p:=h
theorem at9{p:Prop}(h:p:=by simp only at aa ab |-;omega):p:=h
theorem au'{p:Prop}(h:p:=by rw[bA];omega):p:=h
theorem av'{p:Prop}(h:p:=by rw[y6 ag aK]at nh;exact nh.inv.2 _ (AW r5)):p:=h
theorem aw'{p:Prop}(h:p:=by simp only[qE];omega):p:=h
theorem axv{p:Prop}(h:p:=by obtain⟨-,b,-,rfl⟩:=h;exact .tail _ ae):p:=h
theorem axz{p:Prop}(h:p:=by simp only[bA];omega):p:=h
theorem ax'{p:Prop}(h:p:=by rw[h.2.1];exact ae):p:=h
theorem ayc{p:Prop}(h:p:=by show _+(rE aB t.ns[j]).length<=_;omega):p:=h
theorem ayH{p:Prop}(h:p:=by simp only[aY,bQ];exact⟨[],rfl,rfl⟩):p:=h
theorem ayI{p:Prop}(h:p:=by show _+2<=_;omega):p:=h
theorem ayJ{p:Prop}(h:p:=by rw[g'];simp;omega):p:=h
theorem ayK{p:Prop}(h:p:=by unfold eC oB;simp):p:=h
theorem ayL{p:Prop}(h:p:=by show(dk.n+1)*8<=_;omega):p:=h
theorem ayM{p:Prop}(h:p:=by show(os.n+1)*8<=_;omega):p:=h
theorem ayN{p:Prop}(h:p:=by assumption):p:=h
theorem ayO{p:Prop}(h:p:=by simp[aF]):p:=h
theorem ayP{p:Prop}(h:p:=by simp[aa]):p:=h
theorem ayQ{p:Prop}(h:p:=by simp[ki]):p:=h
theorem ayR{p:Prop}(h:p:=by rw[fg,e1,js];rfl):p:=h
theorem ayS{p:Prop}(h:p:=by rw[ak.cq];decide):p:=h
theorem ayT{p:Prop}(h:p:=by simp[execOp,ar,asBool]):p:=h
theorem ayU{p:Prop}(h:p:=by simp[maxLen]):p:=h
theorem ayV{p:Prop}(h:p:=by show(n+1)*24<=_;omega):p:=h
theorem ayW{p:Prop}(h:p:=by unfold eC;omega):p:=h
theorem ayX{p:Prop}(h:p:=by rw[bd];exact .head _):p:=h
theorem ayY{p:Prop}(h:p:=by simpa using bB):p:=h
theorem ayZ{p:Prop}(h:p:=by simp[cu.aq,ae]):p:=h
theorem ay0{p:Prop}(h:p:=by simp at aa bg;omega):p:=h
theorem ay1{p:Prop}(h:p:=by simp[MapKept.IsKey]):p:=h
theorem ay2{p:Prop}(h:p:=by unfold maxLen;omega):p:=h
theorem ay3{p:Prop}(h:p:=by rw[ct];omega):p:=h
def bJ:=@Nat.le_of_ble_eq_true
def cd:=@Result.andThen_ok
def cv:=@of_decide_eq_true
def cH:=@Bool.and_eq_true
def cJ:=@List.map_append
def ei:=@Nat.eq_of_beq_eq_true
def gi:=@List.take_succ_eq_append_getElem
def e9:=@List.drop_eq_getElem_cons
def ch:=@List.map_cons
def cW:=@List.mem_append
def cz:=@Sem.run_bind
def ep:=@List.mem_singleton
def cf:=@Nat.le_refl
def c6:=@List.mem_map
def ey:=@List.length_cons
def cw:=@cond_false
def dn:=@Sem.run_pure
def cD:=@cond_true
def ez:=@List.mem_cons
def jd:=@List.getElem?_eq_some_iff
def fV:=@List.all_eq_true
def gN:=@decide_eq_true_eq
def iy:=@List.mem_append_left
def lW:=@Array.getElem?_eq_some_iff
def h2:=@Int.toNat_natCast
def bK:=@if_neg
def bY:=@if_pos
def nB:=@World.putObj_heap_other
def ql:=@Array.getD_eq_getD_getElem?
def lv:=@List.getElem?_take
def kW:=@Option.some.injEq
def lX:=@Bool.false_eq_true
def kX:=@Option.getD_some
def kw:=@List.foldl_cons
def oJ:=@Nat.mul_le_mul_right
def nC:=@List.getElem?_drop
def lx:=@Option.map_some
def kx:=@List.mem_range
def iO:=@Nat.le_trans
def mw:=@List.nodup_cons
def my:=@Bool.eq_iff_iff
def sf:=@List.mem_append_right
def s9:=@Option.map_eq_some_iff
def nD:=@Bool.or_eq_true
def sg:=@List.mem_of_getElem?
def n8:=@List.mem_filter
def q6:=@List.size_toArray
def pE:=@Nat.min_eq_left
def uw:=@List.nodup_append
def lY:=@Array.ext'
def pF:=@Nat.add_zero
def ux:=@Option.getD_none
def vX:=@Bool.not_eq_true'
def uy:=@Option.map_none
def s':=@Oper.wpIn_mono
def Bi:=@List.getElem?_toArray
def Gj:=@Array.getElem?_setIfInBounds
def uz:=@Nat.add_assoc
def Gk:=@Classical.byContradiction
def DI:=@List.range_eq_range'
def mV:=@if_false
def Gl:=@List.getElem?_cons_succ
def JZ:=@Option.ne_none_iff_exists'
def Bj:=@Nat.lt_succ_self
def xD:=@List.all_cons
def zg:=@Bool.false_or
def Gm:=@List.filter_congr
def Ob:=@Array.getElem?_eq_getElem
def DJ:=@List.nodup_nil
def J0:=@Nat.lt_of_lt_of_le
def Gn:=@List.mapM_cons
def sh:=@Ne.symm
def ta:=@if_true
def Oc:=@Array.foldl_toList
def Od:=@Option.isSome_none
def Vg:=@Array.mapM_eq_mapM_toList
def J1:=@Oper.semAt_eq
def Oe:=@List.range'_succ
def J2:=@Nat.add_comm
def J3:=@Nat.succ_mul
variable{a:Act}{c:Code}{foot:List Nat}{P:Program}{f off T sz h3 e n m fO cO en ev hj ly mz nE oK qm si uA xE Bk Gp:Nat}{args vs z:List Value}{v:Value}{w' w:World}{dst:Option Nat}{cs:Array Value}{ap:Nat×Nat}{R:Ending->World->Prop}{next:Act->World->Prop}{ad:Addr}{gw:IntKind}{other:Prop}{ops:List Oper}{sj:Fence}{Q:Exit->Act->World->Prop}{fn:Func}{soft hr:Bool}{op:Op}{dO:Array Bool}{A:Array Oper}{ι:Type}
inductive Gq where
 |other | int (k:IntKind) | bool | string | slice (e:Nat) | array (n e:Nat) | struct (dv:List (Nat×Nat)) | map (k e:Nat) | pointer (e:Nat)
 deriving DecidableEq
def fz:TypeDesc->Gq
 | .int k=>.int k| .bool=>.bool| .string=>.string| .slice e=>.slice e| .array n e=>.array n e| .struct dv=>.struct (dv.toList.map λf=>(f.type,f.offset))| .map k e=>.map k e| .pointer e=>.pointer e| _=>.other
def Gq.agg:Gq->Bool
 | .struct _ | .array ..=>true| _=>false
structure dV where
 size:Nat
 bytes:Nat
 zero:List Value
 bM:Gq
structure ky(P:Program)(t:Nat)(i:dV):Prop where
 inf:∃ inf z,P.info? t=some inf/\inf.size=i.size/\inf.bytes=i.bytes/\inf.zero=some z/\z.cells.toList=i.zero
 fA:∃ d,P.underlying t=some d/\fz d=i.bM
 one:∀ v∈i.zero,v.oneCell'=true
 len:i.zero.length=i.size
 J4:i.bM.agg=false->i.size=1
abbrev Env:=Nat->Option dV
def cX(P:Program)(E:Env):Prop:=∀ t i,E t=some i->ky P t i
inductive dK where
 |val(v:Value)| lit (b:Bool)| ref (s off:Nat)| nF
abbrev Fr:=Nat->dK
abbrev dB:=Nat->Option (List Value)
abbrev aI:=Nat->Option Obj
structure aD where
 num:Nat
 obj:Obj
abbrev gx:=Fr->dB->aI->List aD->Prop
def g0(F:Fr)(d:Nat)(x:dK):Fr:=λt=>bif Nat.beq t d then x else F t
def jC(C:dB)(d:Nat)(x:Option (List Value)):dB:=λt=>bif Nat.beq t d then x else C t
def qn(F:Fr)(d:Nat):Fr:=λt=>match F t with
 | .ref s o=>bif Nat.beq s d then .nF else .ref s o| x=>x
def put(o:Option Nat)(x:dK)(F:Fr):Fr:=match o with
 |some d=>g0 F d x| none=>F
def dG(F:Fr):Operand->dK
 | .tmp t=>F t| .const (.bool b)=>.lit b| .const v=>.val v| .global g=>.val (.pointer (some ⟨g,0,none⟩))| .func f=>.val (.func (.func f) #[] #[])
def dL(ρ:Operand->dK)(x:Operand):dK:=match ρ x with
 | .lit b=>.val (.bool b)| y=>y
abbrev bI(F:Fr):Operand->dK:=dL (dG F)
def pack(agg:Bool)(vs:List Value):Value:=bif agg then .agg vs.toArray else vs.headD undef
def cp(cs:List Value)(off:Nat)(vs:List Value):List Value:=cs.take off++vs++cs.drop (off+vs.length)
def fG(vs:List Value):Bool:=vs.all (·.oneCell')
def J5(c:Bool):dK->dK->dK
 | .val (.bool x),.val (.bool y)=>.val (.bool (bif c then x else y))| .val x,.val y=>.val (bif c then x else y)| _,_=>.nF
def Of(op:BinOp)(x y:Int):Option Bool:=match op with
 | .eql=>some (decide (x=y))| .neq=>some (!decide (x=y))| .lss=>some (decide (x<y))| .leq=>some (decide (x<=y))| .gtr=>some (decide (y<x))| .geq=>some (decide (y<=x))| _=>none
def Bl(op:BinOp)(k:IntKind)(x y:Int):Option Int:=
 let a:=BitVec.ofInt k.bits x
 let b:=BitVec.ofInt k.bits y
 match op with
 | .and=>some (k.wrap (a &&& b).toNat)| .or=>some (k.wrap (a ||| b).toNat)| .xor=>some (k.wrap (a ^^^ b).toNat)| .andNot=>some (k.wrap (a &&& ~~~b).toNat)| _=>none
def ij(I:aI)(M:List aD)(b:Nat)(o:Obj):Prop:=I b=some o\/∃ x∈M,x.num=b/\x.obj=o
def cG(I:aI)(M:List aD)(a:Addr)(n:Nat)(vs:List Value):Prop:=
 a.spot=none/\∃ cs T ap,ij I M a.block (.cells cs T ap)/\(cs.toList.drop a.off).take n=vs/\vs.length=n
inductive aJ(I:aI)(M:List aD)(a:Addr)(n:Nat)(K:List Value->Prop):Prop
 |mk(vs:List Value)(h:cG I M a n vs)(k:K vs)
inductive b'(M:List aD)(a:Addr)(vs:List Value)(K:List aD->Prop):Prop
 |mk(ba post:List aD)(cs:Array Value)(T:Nat)(bd:M=ba++⟨a.block,.cells cs T (0,0)⟩::post)(aw:a.spot=none)(ah:a.off+vs.length<=cs.size)(aa:fG vs=true)(k:K (ba++⟨a.block,.cells (cp cs.toList a.off vs).toArray T (0,0)⟩::post))
inductive bN(I:aI)(M:List aD)(K:Nat->Prop):Prop
 |mk(k:∀ b,I b=none->(∀ x∈M,x.num≠b)->K b)
inductive bi(a:Option Addr)(n sz:Nat)(k:Int)(K:Addr->Prop):Prop
 |mk(ad:Addr)(j:Nat)(a8:a=some ad)(af:k=(j:Int))(ai:j<n)(h:K (ad.add (j*sz)))
inductive cj(n:Nat)(k:Int)(K:Nat->Prop):Prop
 |mk(j:Nat)(af:k=(j:Int))(ai:j<n)(h:K j)
inductive oL(s:ByteArray)(k:Int)(K:UInt8->Prop):Prop
 |mk(j:Nat)(af:k=(j:Int))(ai:j<s.size)(h:K s[j])
inductive a3(k:IntKind)(n:Int)(K:Int->Prop):Prop
 |mk(r:Int)(h:k.wrap n=r)(bu:K r)
inductive h4(y:Int)(K:Prop):Prop
 |mk(h:y≠0)(bu:K)
inductive sk(y:Int)(K:Nat->Prop):Prop
 |mk(j:Nat)(h:y=(j:Int))(bu:K j)
inductive aS(c:Bool)(X Y:Prop):Prop
 |mk(h:c=true->X)(bu:c=false->Y)
inductive n9(l c:Int)(bytes:Nat)(K:Nat->Nat->Prop):Prop
 |mk(n m:Nat)(ay:l=(n:Int))(ar:c=(m:Int))(h:n<=m)(ah:bytes*m<=140737488355328)(hm:m<=9223372036854775807)(k:K n m)
inductive Og(c:Nat)(hi mx:Int)(K:Nat->Nat->Prop):Prop
 |mk(h m:Nat)(gO:hi=(h:Int))(iz:mx=(m:Int))(aa:h<=m)(ab:m<=c)(k:K h m)
inductive j7(n c:Nat)(lo hi:Option Int)(K:Nat->Nat->Prop):Prop
 |mk(l h:Nat)(ft:lo.getD 0=(l:Int))(gO:hi.getD n=(h:Int))(aa:l<=h)(ab:h<=c)(k:K l h)
structure eJ(I:aI)(M:List aD)(w:World):Prop where
 i:∀ b o,I b=some o->w.heap[b]?=some o
 m:∀ x∈M,w.heap[x.num]?=some x.obj
 d:∀ x∈M,I x.num=none
 bO:(M.map (·.num)).Nodup
def oM(w w':World):Prop:=w'.os=w.os/\w'.output=w.output
def oM.refl(w:World):oM w w:=⟨rfl,rfl⟩
def oM.trans{a b c:World}(h:oM a b)(bu:oM b c):oM a c:=⟨bu.1.trans h.1,bu.2.trans h.2⟩
structure Kept(I:aI)(M:List aD)(w:World)(I':aI)(M':List aD)(w':World):Prop where
 le:∀ b o,I b=some o->I' b=some o
 uB:∀ b o,I' b=some o->I b=some o\/w.heap.size<=b
 vY:∀ x∈M',(∃ y∈M,y.num=x.num)\/w.heap.size<=x.num
 dR:∀ b,b<w.heap.size->(∀ y∈M,y.num≠b)->w'.heap[b]?=w.heap[b]?
 out:oM w w'
 sz:w.heap.size<=w'.heap.size
def Oh(P:Program)(f:Nat):Prop:=∀ (args:Array Value) (w:World),(callFunc f args).run P w=.ok (.enter f args) w
def vZ(P:Program)(f:Nat)(args:List Value)(I:aI)(M:List aD)(post:Value->aI->List aD->Prop):Prop:=
 Oh P f/\∀ w,eJ I M w->Calls P f args.toArray w λe w'=>∃ v I' M',e=.returned v/\post v I' M'/\eJ I' M' w'/\Kept I M w I' M' w'
def agG(P:Program)(f:Nat)(args:List Value)(I:aI)(M:List aD)(post:Value->aI->List aD->Prop):Prop:=
 ∀ w,eJ I M w->∃ v w' I' M',(callFunc f args.toArray).run P w=.ok (.value v) w'/\post v I' M'/\eJ I' M' w'/\Kept I M w I' M' w'
def Spec(P:Program)(f:Nat)(args:List Value)(I:aI)(M:List aD)(post:Value->aI->List aD->Prop):Prop:=vZ P f args I M post\/agG P f args I M post
def ins(I:aI)(b:Nat)(o:Obj):aI:=λx=>bif Nat.beq x b then some o else I x
inductive h5(foot:List Nat):aI->List aD->aI->List aD->Prop
 |refl{I M}:h5 foot I M I M| sub {I M M1 I' M'} (h:List.Sublist M1 M) (k:h5 foot I M1 I' M'):h5 foot I M I' M'| perm {I M M1 I' M'} (h:M.Perm M1) (k:h5 foot I M1 I' M'):h5 foot I M I' M'| nG {I M I' M' b o post} (h:M=⟨b,o⟩::post) (aC:b ∉ foot) (k:h5 foot (ins I b o) post I' M'):h5 foot I M I' M'
structure mA(I:aI)(M:List aD):Prop where
 d:∀ x∈M,I x.num=none
 bO:(M.map (·.num)).Nodup
inductive a9(foot:List Nat)(P:Program)(f:Nat)(args:List Value)(I:aI)(M:List aD)(K:Value->aI->List aD->Prop):Prop
 |mk(eE Mr:List aD)(post:Value->aI->List aD->Prop)(bd:M.Perm (eE++Mr))(aw:Spec P f args I eE post)(k:∀ v I' M',(∀ b o,I b=some o->I' b=some o)->post v I' M'->K v I' (M'++Mr))| DK (eE Mr:List aD) (post:Value->aI->List aD->Prop) (bd:M.Perm (eE++Mr)) (aw:Spec P f args I eE post) (k:∀ v I' M',(∀ b o,I b=some o->I' b=some o)->(∀ x∈M'++Mr,I' x.num=none)->post v I' M'->K v I' (M'++Mr))| xF (I1:aI) (eE Mr:List aD) (post:Value->aI->List aD->Prop) (hw:h5 foot I M I1 (eE++Mr)) (aw:Spec P f args I1 eE post) (k:∀ v I' M',(∀ b o,I1 b=some o->I' b=some o)->(∀ x∈M'++Mr,I' x.num=none)->post v I' M'->K v I' (M'++Mr))| v0 (h:mA I M->a9 foot P f args I M K)
def a9.elim{I:aI}{M:List aD}{K:Value->aI->List aD->Prop}(ew:mA I M)(h:a9 foot P f args I M K) :
  ∃ (I1:aI) (eE Mr:List aD) (post:Value->aI->List aD->Prop),h5 foot I M I1 (eE++Mr)/\Spec P f args I1 eE post/\∀ v I' M',(∀ b o,I1 b=some o->I' b=some o)->(∀ x∈M'++Mr,I' x.num=none)->post v I' M'->K v I' (M'++Mr):=by
 induction h with
 |mk eE Mr post bd aw k=>exact⟨I,eE,Mr,post,.perm bd .refl,aw,λv I' M' aa _ ab=>k v I' M' aa ab⟩| DK eE Mr post bd aw k=>exact⟨I,eE,Mr,post,.perm bd .refl,aw,k⟩| xF I1 eE Mr post hw aw k=>exact⟨I1,eE,Mr,post,hw,aw,k⟩| v0 h aX=>exact aX ew
structure c3 where
 P:Program
 E:Env
 gP:List Nat
 n:Nat
 B:Nat
 ax:World
 dU:aI
 foot:List Nat
 ro:Option Nat
def hb(X:c3):Fence:={ Fence.wide with round:=X.ro }
def fj(β:Nat->Nat):dK->Value->Prop
 | .val v,u=>u=v| .lit b,u=>u=.bool b| .ref s off,u=>u=.pointer (some ⟨β s,off,none⟩)| .nF,_=>True
structure xG(X:c3)(w:World)(I:aI)(M:List aD)(b:Nat)(cs:List Value):Prop where
 bF:∃ T,w.heap[b]?=some (.cells cs.toArray T (0,0))
 da:X.B<=b
 j8:I b=none
 fe:∀ x∈M,x.num≠b
structure v3(X:c3)(w:World)(I:aI)(M:List aD)(r:Nat):Prop where
 bF:w.heap[r]?=some (.deferred (some []))
 da:X.B<=r
 j8:I r=none
 fe:∀ x∈M,x.num≠r
def xH(r:Nat):Deferred:={ target:=.collected r,args:=#[] }
def Marks(X:c3)(a:Act)(w:World)(I:aI)(M:List aD):Prop:=∃ a':List Nat,a.defers=a'.map xH/\a'.Nodup/\∀ r∈a',v3 X w I M r
structure cT(X:c3)(β:Nat->Nat)(a:Act)(w:World)(F:Fr)(C:dB)(I:aI)(M:List aD):Prop where
 size:a.tmps.size=X.n
 defers:Marks X a w I M
 holds:eJ I M w
 ap:∀ t,fj β (F t) (a.tmps.getD t undef)
 cx:∀ s cs,C s=some cs->xG X w I M (β s) cs
 inj:∀ s cr,C s≠none->C cr≠none->β s=β cr->s=cr
 ik:∀ b o,X.dU b=some o->I b=some o
 hS:∀ b o,I b=some o->X.dU b=some o\/X.B<=b
 own:∀ x∈M,x.num∈X.foot\/X.B<=x.num
 dR:∀ b,b<X.B->b ∉ X.foot->w.heap[b]?=X.ax.heap[b]?
 out:oM X.ax w
 sz:X.B<=w.heap.size
 fH:∀ x∈X.foot,x<X.B
def Rel(X:c3)(a:Act)(w:World)(F:Fr)(C:dB)(I:aI)(M:List aD):Prop:=∃ β,cT X β a w F C I M
def Sat(X:c3)(K:gx)(a:Act)(w:World):Prop:=∃ F C I M,Rel X a w F C I M/\K F C I M
inductive bz(X:c3)(o:Oper)(F:Fr)(C:dB)(I:aI)(M:List aD)(K:gx):Prop
 |mk(h:∀ a w Q,Rel X a w F C I M->o.wpIn (hb X) 0 X.P a w (Sat X K) Q)
def j9(ρ:Operand->dK):List Operand->Option (List Value)
 |[]=>some []
 |x::xs=>match dL ρ x,j9 ρ xs with
  | .val v,some vs=>some (v::vs)| _,_=>none
abbrev mW(F:Fr):List Operand->Option (List Value):=j9 (dG F)
def tb(place:Nat->Option (Nat×Nat))(cells:List Value):List (Nat×Value)->Option (List Value)
 |[]=>some cells
 |(i,v)::bq=>match place i with
  |none=>none| some (off,size)=>bif Nat.beq v.cells.size size&&Nat.ble (off+size) cells.length then tb place (cp cells off v.cells.toList) bq else none
def tc(ρ:Operand->dK):List (Nat×Operand)->Option (List (Nat×Value))
 |[]=>some []
 |(i,x)::xs=>match dL ρ x,tc ρ xs with
  | .val v,some vs=>some ((i,v)::vs)| _,_=>none
abbrev Bm(F:Fr):List (Nat×Operand)->Option (List (Nat×Value)):=tc (dG F)
def places(E:Env)(dv:List (Nat×Nat))(i:Nat):Option (Nat×Nat):=match dv[i]? with
 |some (fH,off)=>match E fH with
  |some iP=>some (off,iP.size)| none=>none
 |none=>none
def Gr(E:Env)(dv:List (Nat×Nat)):Bool:=dv.all λf=>(E f.1).isSome
def rowOf(zero:List Value)(n:Nat):List Value:=(List.range n).map λi=>zero[i%zero.length]!
def td(zero:List Value)(n:Nat):rowOf zero n=(madeCells zero.toArray n).toList:=by simp[rowOf,madeCells]
def IntKind.lZ:IntKind->IntKind->Bool
 | .i8,.i8 | .i16,.i16 | .i32,.i32 | .i64,.i64 | .u8,.u8 | .u16,.u16 | .u32,.u32 | .u64,.u64=>true| _,_=>false
def l0(op:BinOp)(dd:Option dV)(x y:dK)(K:Value->Prop)(other:Prop):Prop:=
 match x,y with
 | .val (.int k a),.val (.int fI b)=>
  match op with
  | .shl=>sk b λj=>a3 k (a*2^(min j k.bits)) λr=>K (.int k r)
  | .shr=>sk b λj=>K (.int k (a.fdiv (2^(min j k.bits))))
  |op=>bif IntKind.lZ k fI then
    (match op with
    | .add=>a3 k (a+b) λr=>K (.int k r)
    | .sub=>a3 k (a-b) λr=>K (.int k r)
    | .mul=>a3 k (a*b) λr=>K (.int k r)
    | .quo=>h4 b (a3 k (a.tdiv b) λr=>K (.int k r))| .rem=>h4 b (K (.int k (a.tmod b)))
    | .and | .or | .xor | .andNot=>(match Bl op k a b with
     |some r=>K (.int k r)| none=>False)
    |op=>(match Of op a b with
     |some r=>K (.bool r)| none=>False))
   else False
 | .val (.string a),.val (.string b)=>
  match op with
  | .eql=>K (.bool (decide (a=b)))| .neq=>K (.bool (!decide (a=b)))| _=>other
 | .val (.bool a),.val (.bool b)=>
  match dd with
  |some { bM:=.bool,.. }=>
   (match op with
   | .eql=>K (.bool (a == b))| .neq=>K (.bool (!(a == b)))| _=>other)
  |_=>other
 |_,_=>other
inductive fm(P:Program)(op:BinOp)(t:Nat)(x y:Operand)(p q:dK)(K:Value->Prop)(other:Prop):Prop
 |mk(mX gd v:Value)(aK:p=.val mX)(aM:q=.val gd)(h:∀ w,(do eqGuard op t x y mX gd;binOp op t mX gd:Sem Value).run P w=.ok v w)(k:K v)| other (h:other)
def cP(X:c3)(op:Op)(ρ:Operand->dK)(C:dB)(I:aI)(M:List aD)(V:dK->Prop)(other:Prop):Prop:=
 match op with
 | .move x | .assign x=>V (ρ x)
 | .pick c a b=>
  match ρ c with
  | .lit c=>V (bif c then ρ a else ρ b)| .val (.bool c)=>V (J5 c (dL ρ a) (dL ρ b))| _=>False
 | .unOp op _ x=>
  match op,ρ x with
  | .not,.lit b=>V (.lit (!b))| .not,.val (.bool b)=>V (.val (.bool (!b)))| .neg,.val (.int k n)=>a3 k (0-n) λr=>V (.val (.int k r))
  |_,_=>other
 | .binOp op t x y _=>l0 op (X.E t) (dL ρ x) (dL ρ y) (λv=>V (.val v)) (fm X.P op t x y (dL ρ x) (dL ρ y) (λv=>V (.val v)) other)
 | .load t x=>
  match X.E t with
  |some i=>
   (match ρ x with
   | .ref s off=>
    (match C s with
    |some cs=>bif Nat.ble (off+i.size) cs.length then V (.val (pack i.bM.agg ((cs.drop off).take i.size)))else False| none=>False)
   | .val (.pointer (some a))=>aJ I M a i.size λvs=>V (.val (pack i.bM.agg vs))
   |_=>False)
  |none=>False
 | .nilCheck x=>
  match ρ x with
  | .ref s off=>V (.ref s off)| .val (.pointer (some a))=>V (.val (.pointer (some a)))| _=>other
 | .fieldAddr t x i=>
  match X.E t with
  |some { bM:=.struct dv,.. }=>
   (match dv[i]? with
   |some (fH,off)=>
    (match X.E fH,ρ x with
    |some iP,.ref s o'=>bif Nat.beq iP.size 0 then False else V (.ref s (o'+off))| some iP,.val (.pointer (some a))=>bif Nat.beq iP.size 0 then False else V (.val (.pointer (some (a.add off))))| _,_=>False)
   |none=>False)
  |_=>False
 | .field t x i=>
  match X.E t,dL ρ x with
  |some { bM:=.struct dv,.. },.val (.agg cs)=>
   (match dv[i]? with
   |some (fH,off)=>
    (match X.E fH with
    |some iP=>bif Nat.ble (off+iP.size) cs.size then V (.val (pack iP.bM.agg ((cs.toList.drop off).take iP.size)))else False| none=>False)
   |none=>False)
  |_,_=>False
 | .indexAddr t x i=>
  match X.E t,dL ρ i with
  |some { bM:=.slice e,.. },.val (.int _ k)=>
   (match X.E e,dL ρ x with
   |some aH,.val (.slice a n _)=>bi a n aH.size k λad=>V (.val (.pointer (some ad)))
   |_,_=>False)
  |some { bM:=.array n e,.. },.val (.int _ k)=>
   (match X.E e,ρ x with
   |some aH,.ref s o'=>cj n k λj=>V (.ref s (o'+j*aH.size))
   |some aH,.val (.pointer (some a))=>cj n k λj=>V (.val (.pointer (some (a.add (j*aH.size)))))
   |_,_=>False)
  |_,_=>False
 | .index t x i=>
  match X.E t,dL ρ x,dL ρ i with
  |some { bM:=.string,.. },.val (.string s),.val (.int _ k)=>oL s k λb=>V (.val (.int .u8 b.toNat))
  |some { bM:=.array n e,.. },.val (.agg cs),.val (.int _ k)=>
   (match X.E e with
   |some aH=>bif Nat.beq (n*aH.size) cs.size then cj n k λj=>V (.val (pack aH.bM.agg ((cs.toList.drop (j*aH.size)).take aH.size)))else False
   |none=>False)
  |_,_,_=>False
 | .build t parts=>
  match X.E t,tc ρ parts.toList with
  |some i,some vs=>
   (match i.bM with
   | .struct dv=>bif Gr X.E dv then(match tb (places X.E dv) i.zero vs with
    |some cells=>V (.val (.agg cells.toArray))| none=>False)else False
   | .array _ e=>(match X.E e with
    |some aH=>(match tb (λj=>some (j*aH.size,aH.size)) i.zero vs with
     |some cells=>V (.val (.agg cells.toArray))| none=>False)
    |none=>False)
   |_=>False)
  |_,_=>False
 | .makeFunc fn first captured=>
  match j9 ρ first.toList,j9 ρ captured.toList with
  |some dv,some cs=>V (.val (.func fn dv.toArray cs.toArray))| _,_=>False
 | .slice t x lo hi mx=>
  match X.E t,dL ρ x,mx.map (dL ρ)with
  |some { bM:=.slice e,.. },.val (.slice a n c),none=>
   (match X.E e,lo.map (dL ρ),hi.map (dL ρ)with
   |some aH,none,none=>V (.val (.slice a n c))| some aH,none,some (.val (.int _ h))=>j7 n c none (some h) λ_ h=>V (.val (.slice a h c))
   |some aH,some (.val (.int _ l)),none=>j7 n n (some l) none λl _=>V (.val (.slice (if c=l then a else a.map (·.add (l*aH.size))) (n-l) (c-l)))
   |some aH,some (.val (.int _ l)),some (.val (.int _ h))=>j7 n c (some l) (some h) λl h=>V (.val (.slice (if c=l then a else a.map (·.add (l*aH.size))) (h-l) (c-l)))
   |_,_,_=>False)
  |some { bM:=.string,.. },.val (.string s),none=>
   (match lo.map (dL ρ),hi.map (dL ρ)with
   |none,none=>V (.val (.string s))| none,some (.val (.int _ h))=>j7 s.size s.size none (some h) λ_ h=>V (.val (.string (s.extract 0 h)))
   |some (.val (.int _ l)),none=>j7 s.size s.size (some l) none λl _=>V (.val (.string (s.extract l s.size)))
   |some (.val (.int _ l)),some (.val (.int _ h))=>j7 s.size s.size (some l) (some h) λl h=>V (.val (.string (s.extract l h)))
   |_,_=>False)
  |some { bM:=.slice e,.. },.val (.slice a _ c),some (.val (.int _ m))=>
   (match X.E e,lo.map (dL ρ),hi.map (dL ρ)with
   |some aH,none,some (.val (.int _ h))=>Og c h m λh m=>V (.val (.slice (if m=0 then a else a.map (·.add (0*aH.size))) (h-0) (m-0)))
   |_,_,_=>other)
  |_,_,_=>other
 | .extract x i=>
  match dL ρ x with
  | .val (.tuple vs)=>(match vs.toList[i]? with
   |some v=>V (.val v)| none=>False)
  |_=>False
 | .convert s d x=>
  match X.E s,X.E d,dL ρ x with
  |some _,some { bM:=.int k,.. },.val (.int _ n)=>a3 k n λr=>V (.val (.int k r))
  |_,_,_=>other
 | .call { callee:=.builtin .len,args,argTypes }=>
  match argTypes.toList,j9 ρ args.toList with
  |[t],some [v]=>
   (match X.E t,v with
   |some { bM:=.slice _,.. },.slice _ n _=>V (.val (.int .i64 n))| some { bM:=.string,.. },.string s=>V (.val (.int .i64 s.size))| some { bM:=.array n _,.. },_=>V (.val (.int .i64 n))| _,_=>other)
  |_,_=>other
 | .call { callee:=.builtin .cap,args,argTypes }=>
  match argTypes.toList,j9 ρ args.toList with
  |[t],some [v]=>
   (match X.E t,v with
   |some { bM:=.slice _,.. },.slice _ _ c=>V (.val (.int .i64 c))| _,_=>other)
  |_,_=>other
 | .call { callee:=.builtin .max,args,.. }=>
  match j9 ρ args.toList with
  |some [.int k a,.int _ b]=>V (.val (.int k (max a b)))| _=>other
 | .call { callee:=.builtin .min,args,.. }=>
  match j9 ρ args.toList with
  |some [.int k a,.int _ b]=>V (.val (.int k (min a b)))| _=>other
 | .call { callee:=.builtin .unsafeSliceData,args,.. }=>
  match j9 ρ args.toList with
  |some [.slice none _ _]=>V (.val (.pointer none))| some [.slice (some a) _ c]=>h4 c (V (.val (.pointer (some a))))| _=>other
 |_=>other
def g1(X:c3)(o:Oper)(F:Fr)(C:dB)(I:aI)(M:List aD)(K:gx):Prop:=
 match o.op with
 | .box t x=>
  match o.dst,bI F x with
  |some d,.val v=>
   bif X.gP.contains d then bN I M λb=>K (g0 (qn F d) d (.val (.pointer (some ⟨b,0,none⟩)))) (jC C d none) I (⟨b,.cells v.cells t (0,0)⟩::M)
   else K (g0 (qn F d) d (.ref d 0)) (jC C d (some v.cells.toList)) I M
  |_,_=>False
 | .alloc t=>
  match o.dst,X.E t with
  |some d,some i=>
   bif X.gP.contains d then bN I M λb=>K (g0 (qn F d) d (.val (.pointer (some ⟨b,0,none⟩)))) (jC C d none) I (⟨b,.cells i.zero.toArray t (0,0)⟩::M)
   else K (g0 (qn F d) d (.ref d 0)) (jC C d (some i.zero)) I M
  |_,_=>False
 | .store t x y=>
  match o.dst,X.E t,bI F y with
  |none,some i,.val v=>
   (match dG F x with
   | .ref s off=>
    (match C s with
    |some cs=>bif Nat.ble (off+i.size) cs.length&&(Nat.beq v.cells.size i.size&&fG v.cells.toList)then K F (jC C s (some (cp cs off v.cells.toList))) I M else False| none=>False)
   | .val (.pointer (some a))=>bif Nat.beq v.cells.size i.size then b' M a v.cells.toList λM'=>K F C I M' else False
   |_=>False)
  |_,_,_=>False
 | .buildSlice t len parts=>
  match X.E t,Bm F parts.toList with
  |some { bM:=.slice e,.. },some vs=>
   (match X.E e with
   |some aH=>
    bif Nat.ble (len*aH.size) 16777216&&Nat.blt 0 (len*aH.size)then
     (match tb (λj=>some (j*aH.size,aH.size)) (rowOf aH.zero (len*aH.size)) vs with
     |some cells=>bN I M λb=>K (put o.dst (.val (.slice (some ⟨b,0,none⟩) len len)) F) C I (⟨b,.cells cells.toArray e (0,0)⟩::M)
     |none=>False)
    else(match len,vs with
     |0,[]=>bN I M λb=>K (put o.dst (.val (.slice (some ⟨b,0,none⟩) 0 0)) F) C I (⟨b,.cells #[] e (0,0)⟩::M)
     |_,_=>False)
   |none=>False)
  |_,_=>False
 | .makeSlice t l c=>
  match X.E t,bI F l,bI F c with
  |some { bM:=.slice e,.. },.val (.int _ l),.val (.int _ c)=>
   (match X.E e with
   |some aH=>n9 l c aH.bytes λn m=>bN I M λb=>K (put o.dst (.val (.slice (some ⟨b,0,none⟩) n m)) F) C I (⟨b,.cells (rowOf aH.zero (m*aH.size)).toArray e (0,0)⟩::M)
   |none=>False)
  |_,_,_=>False
 | .call { callee:=.value f,args,.. }=>
  match bI F f,mW F args.toList with
  | .val (.func (.func g) first cap),some vs=>a9 X.foot X.P g (first.toList++vs++cap.toList) I M λv I' M'=>K (put o.dst (.val v) F) C I' M'
  |_,_=>bz X o F C I M K
 |op=>cP X op (dG F) C I M (λx=>K (put o.dst x F) C I M) (bz X o F C I M K)
inductive bZ(c b:Bool)(Y N:Prop):Prop
 |mk(h:c=b->Y)(bu:c=!b->N)
def uC(X:c3)(ops:List Oper):List Oper->Fr->dB->aI->List aD->gx->Prop
 |[],F,C,I,M,K=>K F C I M
 |o::bq,F,C,I,M,K=>
  match o.guard with
  |none=>g1 X o F C I M λF C I M=>uC X ops bq F C I M K
  |some (j,b)=>
   match(ops[j]?).bind (·.dst)with
   |none=>False
   |some d=>
    match F d with
    | .lit c=>bif c == b then g1 X o F C I M λF C I M=>uC X ops bq F C I M K else uC X ops bq (put o.dst (.val undef) F) C I M K
    | .val (.bool c)=>bZ c b (g1 X o (g0 F d (.lit b)) C I M λF C I M=>uC X ops bq F C I M K) (uC X ops bq (put o.dst (.val undef) (g0 F d (.lit !b))) C I M K)| .val (.tuple _)=>uC X ops bq (put o.dst (.val undef) F) C I M K| _=>False
def hT{a b:Nat}(h:¬ a=b):Nat.beq a b=false:=by
 cases ah:Nat.beq a b with
 |false=>rfl| true=>exact absurd (ei ah) h
def te(a:Nat):Nat.beq a a=true:=Nat.beq_refl a
def Gs(w:World)(o:Obj){i:Nat}(h:i<w.heap.size):(w.alloc o).heap[i]?=w.heap[i]?:=by show(w.heap.push o)[i]?=_;simp[Array.getElem?_push,Nat.ne_of_lt h]
def Oi(w:World)(o:Obj):(w.alloc o).heap[w.heap.size]?=some o:=by show(w.heap.push o)[w.heap.size]?=_;simp
section
variable{X:c3}{β:Nat->Nat}{a:Act}{w:World}{F:Fr}{C:dB}{I:aI}{M:List aD}{o:Oper}{Q:Exit->Act->World->Prop}{next:Act->World->Prop}{K:gx}
def xI(h:∀ t,fj β (F t) (a.tmps.getD t undef))(x:Operand):fj β (dG F x) (a.eval x):=by
 cases x with
 |tmp t=>exact h t| const v=>cases v<;>exact rfl
 |global g=>exact rfl| func f=>exact rfl
def dt(h:∀ t,fj β (F t) (a.tmps.getD t undef)){x:Operand}(ae:bI F x=.val v):a.eval x=v:=by
 have aa:=xI h x;unfold bI dL at ae;split at ae
 ·rename_i b ah;rw[ah]at aa;cases ae;exact aa
 ·rw[ae]at aa;exact aa
def uD(h:∀ t,fj β (F t) (a.tmps.getD t undef)){x:Operand}(ae:dG F x=.val v):a.eval x=v:=by have aa:=xI h x;rw[ae]at aa;exact aa
def Oj(h:∀ t,fj β (F t) (a.tmps.getD t undef)){x:Operand}{b:Bool}(ae:dG F x=.lit b):a.eval x=.bool b:=by have aa:=xI h x;rw[ae]at aa;exact aa
def Bn(h:∀ t,fj β (F t) (a.tmps.getD t undef)){x:Operand}{s:Nat}(ae:dG F x=.ref s off):a.eval x=.pointer (some ⟨β s,off,none⟩):=by have aa:=xI h x;rw[ae]at aa;exact aa
def Vh(h:∀ t,fj β (F t) (a.tmps.getD t undef))(x:Operand):fj β (bI F x) (a.eval x):=by
 have aa:=xI h x;unfold bI dL;split
 ·rename_i b ah;rw[ah]at aa;exact aa
 ·exact aa
def tf(h:∀ t,fj β (F t) (a.tmps.getD t undef)):∀ {xs:List Operand} {vs:List Value},mW F xs=some vs->xs.map a.eval=vs
 |[],vs,ae=>by simp[mW,j9]at ae;simp[ae]
 |x::xs,vs,ae=>by
  unfold mW j9 at ae;split at ae;·rename_i v tg aa ab;cases ae;simp[dt h aa,tf h ab]
  ·cases ae
def J6(h:∀ t,fj β (F t) (a.tmps.getD t undef)):∀ {xs:List (Nat×Operand)} {vs:List (Nat×Value)},Bm F xs=some vs->(xs.map λ(i,x)=>(i,a.eval x))=vs
 |[],vs,ae=>by simp[Bm,tc]at ae;simp[ae]
 |(i,x)::xs,vs,ae=>by
  unfold Bm tc at ae;split at ae;·rename_i v tg aa ab;cases ae;simp[dt h aa,J6 h ab]
  ·cases ae
def iQ(bW:∀ c,o.op≠.defer c)(h:(execOp a.eval o).run X.P w=.ok (.value v) w')(af:next (a.put o.dst v) w'):o.wpIn (hb X) 0 X.P a w next Q:=
 ⟨λ_ _=>trivial,by rw[J1 _ _ _ bW,h];exact af⟩
def DL(bW:∀ c,o.op≠.defer c)(h:(execOp a.eval o).run X.P w=.ok .skip w')(af:next (a.put o.dst undef) w'):o.wpIn (hb X) 0 X.P a w next Q:=
 ⟨λ_ _=>trivial,by rw[J1 _ _ _ bW,h];exact af⟩
def Vi(a:Act)(d t:Nat)(v:Value)(aj:d<a.tmps.size):(a.put (some d) v).tmps.getD t undef=if t=d then v else a.tmps.getD t undef:=by
 simp only[Act.put,ql,Gj];by_cases h:t=d
 ·subst h;simp[aj]
 ·simp[h,sh h]
def Ok(h:∀ t,fj β (F t) (a.tmps.getD t undef)){d:Nat}{x:dK}(aj:d<a.tmps.size)(ae:fj β x v)(t:Nat):fj β (g0 F d x t) ((a.put (some d) v).tmps.getD t undef):=by
 rw[Vi a d t v aj];unfold g0;by_cases aa:t=d
 ·subst aa;simp only[te,cD,ta];exact ae
 ·have:Nat.beq t d=false:=hT aa;simp only[this,cw,bK aa];exact h t
def Vj(w:World)(g:Nat)(cs:Array Value):oM w (w.setRow g cs):=by
 unfold World.setRow
 first | exact⟨rfl,rfl⟩ | (split<;>exact⟨rfl,rfl⟩)
def J7(w:World)(g:Nat)(o:Obj):oM w (w.putObj g o):=by unfold World.putObj;exact⟨rfl,rfl⟩
def Marks.mono(h:Marks X a w I M){I':aI}{M':List aD}(hm:∀ r,v3 X w I M r->v3 X w' I' M' r):Marks X a w' I' M':=by obtain⟨a',aa,ab,al⟩:=h;exact⟨a',aa,ab,λr ag=>hm r (al r ag)⟩
def cT.put(h:cT X β a w F C I M)(aj:∀ d,dst=some d->d<X.n){x:dK}(ae:fj β x v):cT X β (a.put dst v) w (put dst x F) C I M:=by
 cases dst with
 |none=>exact h
 |some d=>
  refine { h with size:=?_,defers:=h.defers,ap:=?_ };·simp[Act.put,h.size]
  ·exact Ok h.ap (by rw[h.size];exact aj d rfl) ae
def eJ.heap(h:eJ I M w)(cU:w'.heap=w.heap):eJ I M w':=
 { i:=by rw[cU];exact h.i,m:=by rw[cU];exact h.m,d:=h.d,bO:=h.bO }
def cT.world(h:cT X β a w F C I M)(cU:w'.heap=w.heap)(aG:oM w w':=by exact⟨rfl,rfl⟩):cT X β a w' F C I M:=
 { h with
  holds:={ i:=by rw[cU];exact h.holds.i,m:=by rw[cU];exact h.holds.m,d:=h.holds.d,bO:=h.holds.bO }
  defers:=h.defers.mono λr ag=>{ ag with bF:=by rw[cU];exact ag.bF }
  cx:=λs cs aw=>{ h.cx s cs aw with bF:=by rw[cU];exact(h.cx s cs aw).bF }
  dR:=by rw[cU];exact h.dR
  out:=h.out.trans aG
  sz:=by rw[cU];exact h.sz }
def eJ.alloc(h:eJ I M w)(o:Obj):eJ I M (w.alloc o) where
 i b x ah:=by have aa:=h.i b x ah;rw[Gs w o (lW.1 aa).1];exact aa
 m x ae:=by have aa:=h.m x ae;rw[Gs w o (lW.1 aa).1];exact aa
 d:=h.d
 bO:=h.bO
def eJ.lt(h:eJ I M w){x:aD}(ae:x∈M):x.num<w.heap.size:=(lW.1 (h.m x ae)).1
def eJ.DM(h:eJ I M w){b:Nat}{o:Obj}(ah:I b=some o):b<w.heap.size:=(lW.1 (h.i b o ah)).1
def eJ.sm(h:eJ I M w):I w.heap.size=none:=by
 cases ah:I w.heap.size with
 |none=>rfl| some o=>exact absurd (h.DM ah) (Nat.lt_irrefl _)
def eJ.q7(h:eJ I M w):∀ x∈M,x.num≠w.heap.size:=λx ae e=>by have:=h.lt ae;omega
def eJ.cons(h:eJ I M w)(o:Obj):eJ I (⟨w.heap.size,o⟩::M) (w.alloc o) where
 i:=(h.alloc o).i
 m x ae:=by
  rcases ez.1 ae with rfl | ae;·exact Oi w o
  ·exact(h.alloc o).m x ae
 d x ae:=by
  rcases ez.1 ae with rfl | ae;·exact h.sm
  ·exact h.d x ae
 bO:=by simp only[ch,mw];refine⟨λhm=>?_,h.bO⟩;obtain⟨x,ae,e⟩:=c6.1 hm;exact h.q7 x ae e
def xG.alloc{b:Nat}{cs:List Value}(h:xG X w I M b cs)(o:Obj):xG X (w.alloc o) I M b cs where
 bF:=by obtain⟨T,bm⟩:=h.bF;exact⟨T,by rw[Gs w o (lW.1 bm).1];exact bm⟩
 da:=h.da
 j8:=h.j8
 fe:=h.fe
def xG.lt{b:Nat}{cs:List Value}(h:xG X w I M b cs):b<w.heap.size:=by obtain⟨T,bm⟩:=h.bF;exact(lW.1 bm).1
def xG.Ol{b:Nat}{cs:List Value}(h:xG X w I M b cs)(o:Obj):xG X (w.alloc o) I (⟨w.heap.size,o⟩::M) b cs where
 bF:=(h.alloc o).bF
 da:=h.da
 j8:=h.j8
 fe x ae:=by
  rcases ez.1 ae with rfl | ae
  ·exact λe=>by have:=h.lt;simp only at e;omega
  ·exact h.fe x ae
def v3.alloc{r:Nat}(h:v3 X w I M r)(o:Obj):v3 X (w.alloc o) I M r:=
 { h with bF:=by rw[Gs w o (lW.1 h.bF).1];exact h.bF }
def v3.Ol{r:Nat}(h:v3 X w I M r)(o:Obj):v3 X (w.alloc o) I (⟨w.heap.size,o⟩::M) r:=by
 refine { h.alloc o with fe:=λx ae=>?_ };rcases ez.1 ae with rfl | ae
 ·have aa:=(lW.1 h.bF).1;simp only;omega
 ·exact h.fe x ae
def Om(h:∀ b,b<X.B->b ∉ X.foot->w.heap[b]?=X.ax.heap[b]?)(dy:X.B<=w.heap.size)(o:Obj):∀ b,b<X.B->b ∉ X.foot->(w.alloc o).heap[b]?=X.ax.heap[b]?:=λb ah aC=>by rw[Gs w o Z];exact h b ah aC
def cT.n'(h:cT X β a w F C I M)(o:Obj):cT X β a (w.alloc o) F C I (⟨w.heap.size,o⟩::M) where
 size:=h.size
 defers:=h.defers.mono λr ag=>ag.Ol o
 holds:=h.holds.cons o
 ap:=h.ap
 cx s cs aw:=(h.cx s cs aw).Ol o
 inj:=h.inj
 ik:=h.ik
 hS:=h.hS
 own x ae:=by
  rcases ez.1 ae with rfl | ae;·exact .inr h.sz
  ·exact h.own x ae
 dR:=Om h.dR h.sz o
 out:=h.out
 sz:=by have:=h.sz;simp;omega
 fH:=h.fH
def cT.On(h:cT X β a w F C I M)(d:Nat):cT X β a w (qn F d) (jC C d none) I M where
 size:=h.size
 defers:=h.defers
 holds:=h.holds
 ap t:=by
  have aa:=h.ap t;unfold qn;cases bC:F t with
  |ref s off=>
   rw[bC]at aa;simp only;cases Nat.beq s d;·exact aa
   ·trivial
  |_=>rw[bC]at aa;exact aa
 cx s cs aw:=by
  unfold jC at aw;cases ah:Nat.beq s d with
  |true=>simp[ah]at aw| false=>simp[ah]at aw;exact h.cx s cs aw
 inj s cr aa ab:=h.inj s cr (λe=>aa (by simp[jC,e])) (λe=>ab (by simp[jC,e]))
 ik:=h.ik
 hS:=h.hS
 own:=h.own
 dR:=h.dR
 out:=h.out
 sz:=h.sz
 fH:=h.fH
def cT.Vk(h:cT X β a w F C I M)(d:Nat)(aj:d<X.n)(cs:List Value)(T:Nat) :
  ∃ oN,cT X oN (a.put (some d) (.pointer (some ⟨w.heap.size,0,none⟩))) (w.alloc (.cells cs.toArray T (0,0))) (g0 (qn F d) d (.ref d 0)) (jC C d (some cs)) I M:=by
 have ax:=h.On d;let oN:Nat->Nat:=λs=>if s=d then w.heap.size else β s
 refine⟨oN,?_⟩;have xJ:∀ t,fj oN (qn F d t) (a.tmps.getD t undef):=λt=>by
  have aa:=ax.ap t;cases bC:qn F d t with
  |ref s off=>
   rw[bC]at aa;have aw:s≠d:=by
    intro e;subst e;unfold qn at bC;split at bC
    ·rename_i cr Oo mY;cases ah:Nat.beq cr s with
     |true=>simp[ah]at bC| false=>simp[ah]at bC;obtain⟨rfl,_⟩:=bC;simp at ah
    ·rename_i bH;exact bH _ _ bC
   simp only[fj,oN,bK aw];exact aa
  |_=>rw[bC]at aa;exact aa
 exact {
  size:=by simp[Act.put,h.size]
  defers:=h.defers.mono λr ag=>ag.alloc _
  holds:=h.holds.alloc _
  ap:=Ok xJ (by rw[h.size];exact aj) (by simp[fj,oN])
  cx:=λs cs' aw=>by
   by_cases e:s=d;·subst e;simp[jC]at aw;subst aw;simp only[oN,bY rfl];exact { bF:=⟨T,Oi w _⟩,da:=h.sz,j8:=h.holds.sm,fe:=h.holds.q7 }
   ·have ah:Nat.beq s d=false:=hT e;simp[jC,ah]at aw;simp only[oN,bK e];exact(h.cx s cs' aw).alloc _
  inj:=λs cr aa ab he=>by
   by_cases e:s=d<;>by_cases cY:cr=d
   ·rw[e,cY]
   ·exfalso;have ah:Nat.beq cr d=false:=hT cY;simp[jC,ah]at ab;obtain⟨c,ar⟩:=JZ.1 ab;have:=(h.cx cr c ar).lt;simp only[oN,bY e,bK cY]at he;omega
   ·exfalso;have ah:Nat.beq s d=false:=hT e;simp[jC,ah]at aa;obtain⟨c,ar⟩:=JZ.1 aa;have:=(h.cx s c ar).lt;simp only[oN,bK e,bY cY]at he;omega
   ·have ah:Nat.beq s d=false:=hT e;have g2:Nat.beq cr d=false:=hT cY;simp[jC,ah]at aa;simp[jC,g2]at ab;simp only[oN,bK e,bK cY]at he;exact h.inj s cr aa ab he
  ik:=h.ik
  hS:=h.hS
  own:=h.own
  dR:=Om h.dR h.sz _
  out:=h.out
  sz:=by have:=h.sz;simp;omega
  fH:=h.fH }
theorem eK(a:Addr)(h:a.spot=none)(j:Nat):a.add j=⟨a.block,a.off+j,none⟩:=by
 obtain⟨b,o,s⟩:=a;simp only at h;subst h;unfold Addr.add;split<;>simp_all
def th{b:Nat}(az:w.heap[b]?=some (.cells cs T ap))(j:Nat):w.cell? ⟨b,j,none⟩=cs[j]?:=by simp[World.cell?,az]
variable{P:Program}{t:Nat}{i:dV}
def ky.run_sizeOf(h:ky P t i)(w:World):(sizeOf t).run P w=.ok i.size w:=by obtain⟨inf,z,aa,ab,_⟩:=h.inf;simp[sizeOf,typeInfo,aa,ab]
def ky.Gt(h:ky P t i)(w:World):∃ z,(zeroValue t).run P w=.ok z w/\z.cells.toList=i.zero:=by obtain⟨inf,z,aa,ab,al,aL,bB⟩:=h.inf;exact⟨z,by simp[zeroValue,typeInfo,aa,aL],bB⟩
def ky.agH(h:ky P t i)(w:World):∃ d,(underlying t).run P w=.ok d w/\fz d=i.bM:=by obtain⟨d,aa,ab⟩:=h.fA;exact⟨d,run_underlying aa w,ab⟩
def ky.Vl(h:ky P t i)(w:World):(isAgg t).run P w=.ok i.bM.agg w:=by
 obtain⟨d,aa,ab⟩:=h.agH w;rw[<-ab];unfold isAgg;simp only[cz,aa,cd];cases d<;>rfl
def agI(ay:vs.length=1):vs=[vs.headD undef]:=by
 match vs,ay with
 |[v],_=>rfl
def J8(h:ky P t i){a:Addr}(aw:a.spot=none)(az:w.heap[a.block]?=some (.cells cs T ap))
  (an:(cs.toList.drop a.off).take i.size=vs) (ay:vs.length=i.size):(loadVar t a).run P w=.ok (pack i.bM.agg vs) w:=by
 have ar:∀ j v,vs[j]?=some v->w.cell? (a.add j)=some v:=by
  intro j v ai;rw[eK a aw,th az];rw[<-an,lv]at ai;split at ai;·rw[nC]at ai;simpa using ai
  ·cases ai
 unfold loadVar;simp only[cz,h.Vl,cd];cases Gu:i.bM.agg with
 |true=>simp only[ta,cz,h.run_sizeOf,cd,<-ay];rw[run_loadCells_list w a vs ar];simp[pack]| false=>have aa:=h.J4 Gu;rw[aa]at ay;have je:=agI ay;have:=ar 0 (vs.headD undef) (by rw[je];simp);have a8:a.add 0=a:=rfl;rw[a8]at this;simp[this,pack]
def zh(h:fG vs=true):∀ v∈vs,v.oneCell'=true:=by simpa[fG]using h
def J9(h:ky P t i){a:Addr}(aw:a.spot=none)(az:w.heap[a.block]?=some (.cells cs T (0,0)))(dy:v.cells.size=i.size)(ah:a.off+v.cells.toList.length<=cs.size)(aa:fG v.cells.toList=true) :
  (storeVar t a v).run P w=.ok () (w.setRow a.block (cp cs.toList a.off v.cells.toList).toArray):=by
 obtain⟨b,o,s⟩:=a;simp only at aw az ah;subst aw;unfold storeVar;simp only[cz,h.run_sizeOf,cd,dy,ne_eq,not_true,mV,Sem.run_ite];have:=run_storeCells_at (P:=P) b o T v.cells.toList 0 cs w az (by simpa using ah) (zh aa);simp only[pF]at this;simp only[cp];simpa using this
def cT.Vm(h:cT X β a w F C I M){s:Nat}{cs:List Value}(aw:C s=some cs)(cs':List Value):cT X β a (w.setRow (β s) cs'.toArray) F (jC C s (some cs')) I M:=by
 have ah:=h.cx s cs aw;obtain⟨T,bm⟩:=ah.bF;exact {
  size:=h.size
  defers:=h.defers.mono λr ag=>by refine { ag with bF:=?_ };rw[setRow_other _ _ _ _ (λe=>by have aa:=ag.bF;rw[e,bm]at aa;cases aa)];exact ag.bF
  holds:={
   i:=λb o jf=>by rw[setRow_other _ _ _ _ (λe=>by rw[e,ah.j8]at jf;cases jf)];exact h.holds.i b o jf
   m:=λx ae=>by rw[setRow_other _ _ _ _ (ah.fe x ae)];exact h.holds.m x ae
   d:=h.holds.d
   bO:=h.holds.bO }
  ap:=h.ap
  cx:=λcr c' oO=>by
   by_cases e:cr=s;·subst e;simp[jC,te]at oO;subst oO;exact { bF:=⟨T,setRow_heap _ _ _ _ _ _ bm⟩,da:=ah.da,j8:=ah.j8,fe:=ah.fe }
   ·simp[jC,hT e]at oO;have g2:=h.cx cr c' oO;obtain⟨mB,Gv⟩:=g2.bF;refine { bF:=⟨mB,?_⟩,da:=g2.da,j8:=g2.j8,fe:=g2.fe };rw[setRow_other _ _ _ _ (λcY=>e (h.inj cr s (by simp[oO]) (by simp[aw]) cY))];exact Gv
  inj:=λs1 s2 aa ab=>h.inj s1 s2 (λe=>by
    unfold jC at aa;cases aM:Nat.beq s1 s with
    |true=>have:=ei aM;subst this;rw[aw]at e;cases e| false=>rw[aM]at aa;exact aa e) (λe=>by
    unfold jC at ab;cases aM:Nat.beq s2 s with
    |true=>have:=ei aM;subst this;rw[aw]at e;cases e| false=>rw[aM]at ab;exact ab e)
  ik:=h.ik
  hS:=h.hS
  own:=h.own
  dR:=λb g2 aC=>by rw[setRow_other _ _ _ _ (λe=>by have:=ah.da;omega)];exact h.dR b g2 aC
  out:=h.out.trans (Vj _ _ _)
  sz:=by have:=h.sz;simpa using this
  fH:=h.fH }
def cT.xK(h:cT X β a w F C I M){ba post:List aD}{g:Nat}{cs':Array Value}(bd:M=ba++⟨g,.cells cs T (0,0)⟩::post) :
  cT X β a (w.setRow g cs') F C I (ba++⟨g,.cells cs' T (0,0)⟩::post):=by
 subst bd;have gj:(⟨g,.cells cs T (0,0)⟩:aD)∈ba++⟨g,.cells cs T (0,0)⟩::post:=by simp
 have az:w.heap[g]?=some (.cells cs T (0,0)):=h.holds.m _ gj;have bW:=h.holds.bO;simp only[cJ,ch]at bW;have bH:∀ x,x∈ba\/x∈post->x.num≠g:=by
  intro x ae e;rw[uw]at bW;obtain⟨_,ab,al⟩:=bW;rcases ae with ae | ae;·exact al x.num (c6.2 ⟨x,ae,rfl⟩) g am e
  ·rw[mw]at ab;exact ab.1 (c6.2 ⟨x,ae,e⟩)
 have mem:∀ x,x∈ba++(⟨g,.cells cs' T (0,0)⟩:aD)::post->x=⟨g,.cells cs' T (0,0)⟩\/(x∈ba\/x∈post):=by
  intro x ae;simp only[cW,ez]at ae;rcases ae with ae | ae | ae;·exact .inr (.inl ae)
  ·exact .inl ae
  ·exact .inr (.inr ae)
 have back:∀ x,x∈ba\/x∈post->x∈ba++(⟨g,.cells cs T (0,0)⟩:aD)::post:=by
  intro x ae;simp only[cW,ez];rcases ae with ae | ae;·exact .inl ae
  ·exact .inr (.inr ae)
 exact {
  size:=h.size
  defers:=h.defers.mono λr ag=>by
   have Bo:g≠r:=ag.fe _ gj;refine { ag with bF:=?_,fe:=λx ae=>?_ };·rw[setRow_other _ _ _ _ (sh Bo)];exact ag.bF
   ·rcases mem x ae with rfl | ae
    ·exact Bo
    ·exact ag.fe x (back x ae)
  holds:={
   i:=λb o jf=>by rw[setRow_other _ _ _ _ (λe=>md)];exact h.holds.i b o jf
   m:=λx ae=>by
    rcases mem x ae with rfl | ae;·exact setRow_heap _ _ _ _ _ _ az
    ·rw[setRow_other _ _ _ _ (bH x ae)];exact h.holds.m x (back x ae)
   d:=λx ae=>by
    rcases mem x ae with rfl | ae;·exact h.holds.d ⟨g,.cells cs T (0,0)⟩ gj
    ·exact h.holds.d x (back x ae)
   bO:=by simpa[cJ]using bW }
  ap:=h.ap
  cx:=λs c aw=>by
   have ah:=h.cx s c aw;obtain⟨mB,Gv⟩:=ah.bF;have sp:g≠β s:=ah.fe _ gj;refine { bF:=⟨mB,?_⟩,da:=ah.da,j8:=ah.j8,fe:=λx ae=>?_ };·rw[setRow_other _ _ _ _ (sh sp)];exact Gv
   ·rcases mem x ae with rfl | ae
    ·exact sp
    ·exact ah.fe x (back x ae)
  inj:=h.inj
  ik:=h.ik
  hS:=h.hS
  own:=λx ae=>by
   rcases mem x ae with rfl | ae;·exact h.own ⟨g,.cells cs T (0,0)⟩ gj
   ·exact h.own x (back x ae)
  dR:=λb ah aC=>by
   rw[setRow_other _ _ _ _ (λe=>by
    rcases h.own _ gj with aa | aa;·simp only at aa;exact aC (e ▸ aa)
    ·simp only at aa;omega)]
   exact h.dR b ah aC
  out:=h.out.trans (Vj _ _ _)
  sz:=by have:=h.sz;simpa using this
  fH:=h.fH }
def ij.heap(h:eJ I M w){b:Nat}{o:Obj}(af:ij I M b o):w.heap[b]?=some o:=by
 rcases af with af | ⟨x,ae,rfl,rfl⟩
 ·exact h.i b o af
 ·exact h.m x ae
def agJ{aR:List Value}{x:Value}{xs:List Value}(h:off+1+xs.length<=aR.length):cp (aR.set off x) (off+1) xs=cp aR off (x::xs):=by
 unfold cp;rw[List.take_set,List.drop_set,bY Z,gi (by omega:off<aR.length)];have e:(List.take off aR++[aR[off]' Z]).set off x=List.take off aR++[x]:=by rw[List.set_append,bK d7];simp[pE (by omega:off<=aR.length)]
 rw[e];simp[uz,J2 1]
def Vn(off:Nat):∀ (xs:List Value) (k:Nat) (aR:List Value),off+k+xs.length<=aR.length -> (xs.zipIdx k).foldl (λ(cs:Array Value) (p:Value×Nat)=>cs.setIfInBounds (off+p.2) p.1) aR.toArray=(cp aR (off+k) xs).toArray
 |[],k,aR,_=>by simp[cp]
 |x::xs,k,aR,ay=>by simp only[ey]at ay;simp only[List.zipIdx_cons,kw];rw[List.setIfInBounds_toArray,Vn off xs (k+1) _ d7];rw[show off+(k+1)=off+k+1 from by omega,agJ Z]
def fill_eq(place:Nat->Option (Nat×Nat)):∀ (vs:List (Nat×Value)) (cells r:List Value),tb place cells vs=some r->Instr.fill place cells.toArray vs=some r.toArray
 |[],cells,r,h=>by simp[tb]at h;simp[Instr.fill,h]
 |(i,v)::bq,cells,r,h=>by
  unfold tb at h;unfold Instr.fill;split at h;·cases h
  ·rename_i off size aK;simp only[aK];cases ar:(Nat.beq v.cells.size size&&Nat.ble (off+size) cells.length)with
   |false=>rw[ar]at h;cases h
   |true=>
    rw[ar]at h;simp only[cD]at h;rw[cH]at ar;have aa:=ei ar.1;have ab:=bJ ar.2;have aN:decide (v.cells.size≠size)=false:=by simp[aa]
    have bc:decide (off+v.cells.size > cells.toArray.size)=false:=by simp;omega
    rw[aN,bc];simp only[Bool.or_false,lX,mV];have aX:=fill_eq place bq _ r h;rw[<-aX];congr 1;have:=Vn off v.cells.toList 0 cells d7;simp only[pF]at this;rw[<-this,<-Oc];simp
end
def h5.le{I I':aI}{M M':List aD}(h:h5 foot I M I' M')(lz:eJ I M w):(∀ b o,I b=some o->I' b=some o)/\eJ I' M' w /\
  (∀ b o,I' b=some o->I b=some o\/∃ x∈M,x.num=b/\x.obj=o/\b ∉ foot)/\(∀ x∈M',x∈M):=by
 induction h with
 |refl=>exact⟨λ_ _ h=>h,lz,λ_ _ h=>.inl h,λ_ h=>h⟩
 | @sub I M M1 I' M' aw k aX=>
  have aa:eJ I M1 w:=⟨lz.i,λx ae=>lz.m x (aw.subset ae),λx ae=>lz.d x (aw.subset ae),(aw.map _).nodup lz.bO⟩;obtain⟨cO,en,ev,hj⟩:=aX aa;refine⟨cO,en,λb o ah=>?_,λx ae=>aw.subset (hj x ae)⟩;rcases ev b o ah with h | ⟨x,ae,h⟩;·exact .inl h
  ·exact .inr ⟨x,aw.subset ae,h⟩
 | @perm I M M1 I' M' aK k aX=>
  have aa:eJ I M1 w:=⟨lz.i,λx ae=>lz.m x (aK.mem_iff.2 ae),λx ae=>lz.d x (aK.mem_iff.2 ae),(aK.map _).nodup_iff.1 lz.bO⟩;obtain⟨cO,en,ev,hj⟩:=aX aa;refine⟨cO,en,λb o ah=>?_,λx ae=>aK.mem_iff.2 (hj x ae)⟩;rcases ev b o ah with h | ⟨x,ae,h⟩;·exact .inl h
  ·exact .inr ⟨x,aK.mem_iff.2 ae,h⟩
 | @nG I M I' M' b o post bd aC k aX=>
  subst bd;have bW:=lz.bO;simp only[ch,mw]at bW;have ah:=lz.d ⟨b,o⟩ am;simp only at ah;have aa:eJ (ins I b o) post w:={
   i:=λil o' h=>by
    unfold ins at h;by_cases e:il=b;·subst e;simp only[te,cD,kW]at h;subst h;exact lz.m ⟨il,o⟩ am
    ·simp only[hT e,cw]at h;exact lz.i _ _ h
   m:=λx ae=>lz.m x f0
   d:=λx ae=>by unfold ins;have e:x.num≠b:=λe=>bW.1 (c6.2 ⟨x,ae,e⟩);simp only[hT e,cw];exact lz.d x f0
   bO:=bW.2 }
  obtain⟨cO,en,ev,hj⟩:=aX aa;refine⟨λil o' h=>cO il o' ?_,en,λil o' h=>?_,λx ae=>by simp[hj x ae]⟩
  ·unfold ins;by_cases e:il=b
   ·subst e;rw[ah]at h;cases h
   ·simp only[hT e,cw];exact h
  ·rcases ev il o' h with h | ⟨x,ae,h⟩
   ·unfold ins at h;by_cases e:il=b
    ·subst e;simp only[te,cD,kW]at h;exact .inr ⟨⟨il,o⟩,am,rfl,h,aC⟩
    ·simp only[hT e,cw]at h;exact .inl h
   ·exact .inr ⟨x,f0,h⟩
def cT.h6{X:c3}{β:Nat->Nat}{F:Fr}{C:dB}{I I':aI}{M M':List aD}(h:cT X β a w F C I M)(hw:h5 X.foot I M I' M'):cT X β a w F C I' M':=by
 obtain⟨cO,en,ev,hj⟩:=hw.le h.holds;exact { h with
  holds:=en
  defers:=h.defers.mono λr ag=>by
   refine { ag with j8:=?_,fe:=λx ae=>ag.fe x (hj x ae) };cases bG:I' r with
   |none=>rfl
   |some o=>
    exfalso;rcases ev _ _ bG with aa | ⟨x,ae,aa,_⟩;·rw[ag.j8]at aa;cases aa
    ·exact ag.fe x ae aa
  cx:=λs cs aw=>{ h.cx s cs aw with
   j8:=by
    cases bG:I' (β s)with
    |none=>rfl
    |some o=>
     exfalso;rcases ev _ _ bG with aa | ⟨x,ae,aa,_⟩;·rw[(h.cx s cs aw).j8]at aa;cases aa
     ·exact(h.cx s cs aw).fe x ae aa
   fe:=λx ae=>(h.cx s cs aw).fe x (hj x ae) }
  ik:=λb o ah=>cO b o (h.ik b o ah)
  hS:=λb o ah=>by
   rcases ev b o ah with aa | ⟨x,ae,rfl,_,aC⟩;·exact h.hS b o aa
   ·exact .inr ((h.own x ae).resolve_left aC)
  own:=λx ae=>h.own x (hj x ae) }
section
variable{X:c3}{β:Nat->Nat}{a:Act}{w:World}{F:Fr}{C:dB}{I:aI}{M:List aD}{o:Oper}{Q:Exit->Act->World->Prop}{K:gx}
def Vo(h:cT X β a w F C I M)(aj:∀ d,o.dst=some d->d<X.n)(bW:∀ c,o.op≠.defer c){x:dK}(ag:(execOp a.eval o).run X.P w=.ok (.value v) w)(ae:fj β x v)(af:K (put o.dst x F) C I M):o.wpIn (hb X) 0 X.P a w (Sat X K) Q:=
 iQ bW ag ⟨_,_,_,_,⟨β,h.put aj ae⟩,af⟩
def v5(h:cT X β a w F C I M)(aj:∀ d,o.dst=some d->d<X.n)(bW:∀ c,o.op≠.defer c)(ag:(execOp a.eval o).run X.P w=.ok (.value v) w)(af:K (put o.dst (.val v) F) C I M):o.wpIn (hb X) 0 X.P a w (Sat X K) Q:=
 Vo (x:=.val v) h aj bW ag rfl af
def q8(k:IntKind)(n:Int)(w:World)(P:Program):(asIntOf (.int k n)).run P w=.ok (k,n) w:=rfl
def IntKind.DN{k fI:IntKind}(h:IntKind.lZ k fI=true):k=fI:=by cases k<;>cases fI<;>first | rfl | cases h
def pG(op:BinOp)(t:Nat)(x y:Operand)(k fI:IntKind)(n m:Int)(P:Program)(w:World):(eqGuard op t x y (.int k n) (.int fI m)).run P w=.ok () w:=by
 unfold eqGuard;cases op<;>rfl
def Oq(op:BinOp)(t:Nat)(x y:Operand)(n m:ByteArray)(P:Program)(w:World):(eqGuard op t x y (.string n) (.string m)).run P w=.ok () w:=by
 unfold eqGuard;cases op<;>rfl
def Vp(op:BinOp)(t:Nat)(x y:Operand)(n m:Bool)(P:Program)(w:World):(eqGuard op t x y (.bool n) (.bool m)).run P w=.ok () w:=by
 unfold eqGuard;cases op<;>rfl
theorem Vq(a b:ByteArray):(a.toList == b.toList)=decide (a=b):=by
 rw[my];simp only[beq_iff_eq,gN];constructor
 ·intro h;have aa:a.data.toList=b.data.toList:=by rw[ByteArray.toList_eq,ByteArray.toList_eq]at h;exact h
  cases a;simp_all
 grind
def run_equal_bool{t:Nat}(hu:P.underlying t=some .bool)(a b:Bool)(w:World):(Op.equal t (.bool a) (.bool b)).run P w=.ok (a == b) w:=by
 have key:∀ d,(Op.equalIn (d+1) t (.bool a) (.bool b)).run P w=.ok (a == b) w:=λd=>by simp only[Op.equalIn,cz,run_underlying hu,cd,dn]
 exact key 9999
theorem agK(aQ:cX X.P X.E)(op:BinOp)(t:Nat)(x y:Operand)(u v:dK)(mC xL:Value)(ae:u=.val mC)(aF:v=.val xL)(Vr:Value->Prop)(other:Prop)
  (h:l0 op (X.E t) u v Vr other):other\/∃ r,(∀ w,(do eqGuard op t x y mC xL;binOp op t mC xL:Sem Value).run X.P w=.ok r w)/\Vr r:=by
 subst ae;subst aF;unfold l0 at h;split at h
 ·rename_i k a fI b aN bc;cases aN;cases bc
  right
  split at h;·obtain⟨j,rfl,⟨r,ag,af⟩⟩:=h;refine⟨_,λw=>?_,af⟩;simp only[cz,pG,cd,binOp,Op.shift];rw[bK Z];simp[ag]
  ·obtain⟨j,rfl,af⟩:=h;refine⟨_,λw=>?_,af⟩;rfl
  ·rename_i gf qo;cases eR:IntKind.lZ k fI with
   |false=>grind
   |true=>
    rw[eR]at h;have h7:=IntKind.DN eR;subst h7;simp only[cD]at h;cases op<;>simp only at h
    case add=>obtain⟨r,ag,af⟩:=h;exact⟨_,λw=>ak',af⟩
    case sub=>obtain⟨r,ag,af⟩:=h;exact⟨_,λw=>ak',af⟩
    case mul=>obtain⟨r,ag,af⟩:=h;exact⟨_,λw=>ak',af⟩
    case quo=>obtain⟨ax,r,ag,af⟩:=h;exact⟨_,λw=>by simp[pG,binOp,Op.intDiv,ax,ag],af⟩
    case rem=>obtain⟨ax,af⟩:=h;exact⟨_,λw=>by simp[pG,binOp,Op.intDiv,ax],af⟩
    case and=>exact⟨_,λw=>Pi,h⟩
    case or=>exact⟨_,λw=>Pi,h⟩
    case xor=>exact⟨_,λw=>Pi,h⟩
    case andNot=>exact⟨_,λw=>Pi,h⟩
    grind
    grind
    case eql=>exact⟨_,λw=>an',h⟩
    case neq=>exact⟨_,λw=>an',h⟩
    case lss=>exact⟨_,λw=>aa',h⟩
    case leq=>exact⟨_,λw=>aa',h⟩
    case gtr=>exact⟨_,λw=>aa',h⟩
    case geq=>exact⟨_,λw=>aa',h⟩
 ·rename_i a b aN bc;cases aN;cases bc;split at h
  ·exact .inr ⟨_,λw=>ao',h⟩
  ·exact .inr ⟨_,λw=>ao',h⟩
  grind
 ·rename_i a b aN bc;cases aN;cases bc;split at h
  ·rename_i dd sz h3 z au;obtain⟨d,hu,aj⟩:=(aQ _ _ au).fA;have fW:d=.bool:=by cases d<;>simp_all[fz]
   subst fW;split at h;·exact .inr ⟨_,λw=>aj',h⟩
   ·exact .inr ⟨_,λw=>aj',h⟩
   grind
  grind
 grind
def Ot{args:Array Value}(h:Calls P f args w R)(n:Nat):CallsIn (hb X) n P f args w R:=by have aa:=(callsIn_wide (n:=n)).2 h;exact⟨trivial,λcs ag=>aa.2 cs (room_wide _)⟩
theorem eJ.part(h:eJ I M w){eE Mr:List aD}(bd:M.Perm (eE++Mr)):eJ I eE w:=by
 have jD:∀ x,x∈M ↔ x∈eE\/x∈Mr:=λx=>by grind
 have bW:((eE++Mr).map (·.num)).Nodup:=(bd.map (·.num)).nodup_iff.1 h.bO;rw[cJ,uw]at bW;exact⟨h.i,λx ae=>h.m x d6,λx ae=>h.d x d6,bW.1⟩
theorem cT.after(h:cT X β a w F C I M){eE Mr M':List aD}{I':aI}(bd:M.Perm (eE++Mr))(q9:eJ I' M' w')(c7:Kept I eE w I' M' w'):cT X β a w' F C I' (M'++Mr):=by
 have jD:∀ x,x∈M ↔ x∈eE\/x∈Mr:=λx=>by grind
 have bW:((eE++Mr).map (·.num)).Nodup:=(bd.map (·.num)).nodup_iff.1 h.holds.bO;rw[cJ,uw]at bW;have agL:∀ x∈Mr,∀ y∈eE,y.num≠x.num:=λx ae y aF=>bW.2.2 y.num d6 x.num d6;have agM:∀ x∈Mr,w'.heap[x.num]?=w.heap[x.num]?:=λx ae=>
  c7.dR x.num (h.holds.lt d6) (agL x ae)
 exact {
  size:=h.size
  defers:=h.defers.mono λr ag=>by
   have aV:=(lW.1 ag.bF).1;refine { bF:=?_,da:=ag.da,j8:=?_,fe:=λx ae=>?_ };·rw[c7.dR _ aV (λy aF=>ag.fe y d6)];exact ag.bF
   ·cases bG:I' r with
    |none=>rfl
    |some o=>
     exfalso;rcases c7.uB _ _ bG with aa | aa;·rw[ag.j8]at aa;cases aa
     ·omega
   ·rcases cW.1 ae with ae | ae
    ·rcases c7.vY x ae with⟨z,bg,DO⟩ | aa
     ·rw[<-DO];exact ag.fe z d6
     ·omega
    ·exact ag.fe x d6
  holds:={
   i:=q9.i
   m:=λx ae=>by
    rcases cW.1 ae with ae | ae;·exact q9.m x ae
    ·rw[agM x ae];exact h.holds.m x d6
   d:=λx ae=>by
    rcases cW.1 ae with ae | ae;·exact q9.d x ae
    ·cases bG:I' x.num with
     |none=>rfl
     |some o=>
      exfalso;rcases c7.uB _ _ bG with aa | aa
      ·have:=h.holds.d x d6;grind
      ·have:=h.holds.lt ((jD x).2 (.inr ae));omega
   bO:=by
    rw[cJ,uw];refine⟨q9.bO,bW.2.1,λp aK q aM e=>?_⟩;obtain⟨x,ae,rfl⟩:=c6.1 aK;obtain⟨y,aF,rfl⟩:=c6.1 aM;rcases c7.vY x ae with⟨z,bg,DO⟩ | aa
    grind
    ·have:=h.holds.lt ((jD y).2 (.inr aF));omega }
  ap:=h.ap
  cx:=λs cs aw=>by
   have ah:=h.cx s cs aw;obtain⟨T,bm⟩:=ah.bF;refine { bF:=⟨T,?_⟩,da:=ah.da,j8:=?_,fe:=λx ae=>?_ };·rw[c7.dR _ ah.lt (λy aF=>ah.fe y d6)];exact bm
   ·cases bG:I' (β s)with
    |none=>rfl
    |some o=>
     exfalso;rcases c7.uB _ _ bG with aa | aa;·rw[ah.j8]at aa;cases aa
     grind
   ·rcases cW.1 ae with ae | ae
    ·rcases c7.vY x ae with⟨z,bg,DO⟩ | aa
     ·rw[<-DO];exact ah.fe z d6
     grind
    ·exact ah.fe x d6
  inj:=h.inj
  ik:=λb o ah=>c7.le b o (h.ik b o ah)
  hS:=λb o ah=>by
   rcases c7.uB b o ah with aa | aa;·exact h.hS b o aa
   ·exact .inr (iO h.sz aa)
  own:=λx ae=>by
   rcases cW.1 ae with ae | ae
   ·rcases c7.vY x ae with⟨z,bg,DO⟩ | aa
    ·rw[<-DO];exact h.own z d6
    ·exact .inr (iO h.sz aa)
   ·exact h.own x d6
  dR:=λb ah aC=>by
   rw[c7.dR b (J0 ah h.sz) (λy aF e=>by
    rcases h.own y d6 with aa | aa
    grind
    ·omega)]
   exact h.dR b ah aC
  out:=h.out.trans c7.out
  sz:=iO h.sz c7.sz
  fH:=h.fH }
def cT.call(h:cT X β a w F C I M){KC:Value->aI->List aD->Prop}(ar:a9 X.foot P f args I M KC) :
  (Oh P f/\Calls P f args.toArray w λe w'=>∃ v I' M',e=.returned v/\KC v I' M'/\cT X β a w' F C I' M')\/(∃ v w' I' M',(callFunc f args.toArray).run P w=.ok (.value v) w'/\KC v I' M'/\cT X β a w' F C I' M'):=by
 obtain⟨I1,eE,Mr,post,hG,⟨qp,aw⟩ | aw,af⟩:=ar.elim ⟨h.holds.d,h.holds.bO⟩<;>have h:=h.h6 hG<;>have bd:=List.Perm.refl (eE++Mr)
 ·refine .inl ⟨qp,?_⟩;refine(aw w (h.holds.part bd)).mono ?_;rintro e w'⟨v,I',M',rfl,aK,q9,c7⟩;have a8:=h.after bd q9 c7;exact⟨v,I',M'++Mr,rfl,af v I' M' c7.le a8.holds.d aK,a8⟩
 ·obtain⟨v,w',I',M',ag,aK,q9,c7⟩:=aw w (h.holds.part bd);have a8:=h.after bd q9 c7;exact .inr ⟨v,w',I',M'++Mr,ag,af v I' M' c7.le a8.holds.d aK,a8⟩
theorem Vs{args:Array Value}(bW:∀ c,o.op≠.defer c)(ag:(execOp a.eval o).run X.P w=.ok (.enter f args) w)
  (ar:Calls X.P f args w λe w'=>∃ v,e=.returned v/\next (a.put o.dst v) w'):o.wpIn (hb X) 0 X.P a w next Q:=by
 refine⟨λ_ _=>trivial,?_⟩;rw[J1 _ _ _ bW,ag];refine⟨(λh=>ci),?_⟩;refine(Ot ar _).mono ?_
 grind
def Vt(z:Value)(fo:List Value)(h:z.cells.toList=fo)(n:Nat):(Array.range n).map (z.cells[· % z.cells.size]!)=(rowOf fo n).toArray:=by subst h;apply lY;simp[td,madeCells]
theorem ky.struct{t:Nat}{dv:List (Nat×Nat)}(h:ky P t ⟨sz,h3,z,.struct dv⟩):∃ fields,P.underlying t=some (.struct fields)/\dv=fields.toList.map λf=>(f.type,f.offset):=by
 obtain⟨d,aa,ab⟩:=h.fA;cases d<;>simp[fz]at ab
 grind
def ky.slice{t:Nat}(h:ky P t ⟨sz,h3,z,.slice e⟩):P.underlying t=some (.slice e):=by
 obtain⟨d,aa,ab⟩:=h.fA;cases d<;>simp[fz]at ab
 rw[aa,ab]
theorem ky.array{t:Nat}(h:ky P t ⟨sz,h3,z,.array n e⟩):P.underlying t=some (.array n e):=by
 obtain⟨d,aa,ab⟩:=h.fA;cases d<;>simp[fz]at ab
 grind
def ky.string{t:Nat}(h:ky P t ⟨sz,h3,z,.string⟩):P.underlying t=some .string:=by
 obtain⟨d,aa,ab⟩:=h.fA;cases d<;>simp[fz]at ab
 exact aa
def ky.int{P:Program}{t sz h3:Nat}{z:List Value}{k:IntKind}(h:ky P t ⟨sz,h3,z,.int k⟩):P.underlying t=some (.int k):=by
 obtain⟨d,aa,ab⟩:=h.fA;cases d<;>simp[fz]at ab
 rw[aa,ab]
theorem Vu{fields:Array Field}{i fH:Nat}(h:(fields.toList.map λf=>(f.type,f.offset))[i]?=some (fH,off)):∃ f,fields[i]?=some f/\f.type=fH/\f.offset=off:=by
 grind
theorem Ou{t:Nat}{i:dV}(h:ky P t i)(bo:off+i.size<=cs.size)(w:World):(part t cs off).run P w=.ok (pack i.bM.agg ((cs.toList.drop off).take i.size)) w:=by
 unfold part;simp only[cz,h.Vl,cd];cases Gu:i.bM.agg with
 |true=>
  simp only[ta,cz,h.run_sizeOf,cd,dn,pack,cD];congr 2
  grind
 |false=>
  have aa:=h.J4 Gu;rw[aa]at bo |-;have aV:off<cs.size:=by omega
  simp only[lX,mV,Ob aV,dn,pack,cw];congr 1;rw[e9 Z];simp
def agN{t:Nat}{aH:dV}(au:P.underlying t=some (.slice e))(he:ky P e aH){c:Nat}{j:Nat}(ai:j<n)(w:World) :
  (Instr.indexAt t (.slice (some ad) n c) (.int gw j)).run P w=.ok (.pointer (some (ad.add (j*aH.size)))) w:=by
 unfold Instr.indexAt;simp only[cz,q8,cd,run_underlying au,dn];rw[bY ⟨Z,Z⟩];simp[he.run_sizeOf]
def Vv{t:Nat}{aH:dV}(au:P.underlying t=some (.array m e))(he:ky P e aH){j:Nat}(ai:j<m)(w:World) :
  (Instr.indexAt t (.pointer (some ad)) (.int gw j)).run P w=.ok (.pointer (some (ad.add (j*aH.size)))) w:=by
 unfold Instr.indexAt;simp only[cz,q8,cd,run_underlying au,dn,Instr.sureAddr];rw[bY ⟨Z,Z⟩];simp[he.run_sizeOf]
def Vw{P:Program}{E:Env}(aQ:cX P E)(w:World):∀ (fields:List Field),Gr E (fields.map λf=>(f.type,f.offset))=true -> ∃ l:List (Nat×Nat),(fields.mapM λf=>(do pure (f.offset,<-sizeOf f.type):Sem (Nat×Nat))).run P w=.ok l w/\∀ i,l[i]?=places E (fields.map λf=>(f.type,f.offset)) i
 |[],_=>⟨[],rfl,λi=>by rfl⟩
 |f::dv,h=>by
  simp only[Gr,ch,xD,cH]at h;obtain⟨iP,sq⟩:=Option.isSome_iff_exists.1 h.1;obtain⟨l,aa,ab⟩:=Vw aQ w dv h.2;refine⟨(f.offset,iP.size)::l,?_,λi=>?_⟩;·simp only[Gn,cz,(aQ _ _ sq).run_sizeOf,cd,dn];rw[aa];rfl
  ·cases i with
   |zero=>simp[places,sq]| succ i=>simp only[Gl,ab];rfl
theorem Vx(aQ:cX X.P X.E)(h:cT X β a w F C I M){zi:dK->Prop}(op:Op)(ty:TypeId)(dst:Option Tmp)(pos:String)(after:Array Edge)(guard:Option (Nat×Bool))(an:cP X op (dG F) C I M zi other) :
  other\/∃ v x,(execOp a.eval ⟨dst,op,ty,pos,after,guard⟩).run X.P w=.ok (.value v) w/\fj β x v/\zi x:=by
 have done:∀ {v x},(execOp a.eval ⟨dst,op,ty,pos,after,guard⟩).run X.P w=.ok (.value v) w->fj β x v->zi x->other\/∃ v x,(execOp a.eval ⟨dst,op,ty,pos,after,guard⟩).run X.P w=.ok (.value v) w/\fj β x v/\zi x:=
  λaa ab al=>.inr ⟨_,_,aa,ab,al⟩
 have hU:∀ {v},(execOp a.eval ⟨dst,op,ty,pos,after,guard⟩).run X.P w=.ok (.value v) w->zi (.val v)->other\/∃ v x,(execOp a.eval ⟨dst,op,ty,pos,after,guard⟩).run X.P w=.ok (.value v) w/\fj β x v/\zi x:=
  fun {v} aa al=>.inr ⟨v,.val v,aa,rfl,al⟩
 have aC:=h.ap;cases op
 case move x=>exact done (by rfl) (xI aC x) an
 case assign x=>exact done (by rfl) (xI aC x) an
 case pick c p q=>
  simp only[cP]at an;split at an
  ·rename_i b ah;have ar:=Oj aC ah;cases b
   ·exact done ayT (xI aC q) an
   ·exact done ayT (xI aC p) an
  ·rename_i b ah;have ar:=uD aC ah;refine done (v:=if b then a.eval p else a.eval q) (x:=J5 b (bI F p) (bI F q)) ayT ?_ an;have aa:=Vh aC p;have ab:=Vh aC q;unfold J5;split
   grind
   grind
   ·trivial
  grind
 case unOp op t x=>
  simp only[cP]at an;split at an;·rename_i b ah;exact done (v:=.bool (!b)) (x:=.lit (!b)) (by simp[execOp,Oj aC ah,Op.unary]) rfl an
  ·rename_i b ah;exact hU (v:=.bool (!b)) (by simp[execOp,uD aC ah,Op.unary]) an
  ·rename_i k n ah;obtain⟨r,ag,af⟩:=an;exact hU (v:=.int k r) (by simp only[execOp,uD aC ah,Op.unary,Op.intArith,ag];simp) af
  grind
 case binOp op t x y ty'=>
  simp only[cP]at an;by_cases ae:∃ mC xL,bI F x=.val mC/\bI F y=.val xL
  ·obtain⟨mC,xL,ae,aF⟩:=ae;have fin:∀ r,(∀ w,(do eqGuard op t x y mC xL;binOp op t mC xL:Sem Value).run X.P w=.ok r w)->zi (.val r)->(other\/∃ v mD,(execOp a.eval ⟨dst,.binOp op t x y ty',ty,pos,after,guard⟩).run X.P w=.ok (.value v) w/\fj β mD v/\zi mD):=λr ag af=>by refine hU (v:=r) ?_ af;have:=ag w;rw[<-dt aC ae,<-dt aC aF]at this;simp only[execOp];simp only[cz]at this |-;simp_all
   rcases agK aQ op t x y _ _ mC xL ae aF _ _ an with(⟨mX,gd,r,aK,aM,ag,af⟩ | aa) | ⟨r,ag,af⟩
   grind
   grind
   grind
  ·unfold l0 at an;split at an
   grind
   grind
   grind
   ·rcases an with⟨mX,gd,r,aK,aM,ag,af⟩ | aa
    grind
    grind
 case load t x=>
  simp only[cP]at an;split at an
  ·rename_i i hi;split at an
   ·rename_i s off ae;have kz:=Bn aC ae;split at an
    ·rename_i cs aw;cases bo:Nat.ble (off+i.size) cs.length with
     |false=>grind| true=>rw[bo]at an;have g3:=bJ bo;obtain⟨T,bm⟩:=(h.cx s cs aw).bF;refine hU (v:=pack i.bM.agg ((cs.drop off).take i.size)) ?_ an;have:=J8 (aQ _ _ hi) (a:=⟨β s,off,none⟩) rfl bm (vs:=(cs.drop off).take i.size) am d7;simp[execOp,Instr.loadAt,Instr.sureAddr,kz,this]
    grind
   ·rename_i ad ae;have kz:=uD aC ae;obtain⟨vs,⟨de,cs,T,ap,eF,je,ay⟩,af⟩:=an;refine hU (v:=pack i.bM.agg vs) ?_ af;have:=J8 (aQ _ _ hi) de (eF.heap h.holds) je ay;simp[execOp,Instr.loadAt,Instr.sureAddr,kz,this]
   grind
  grind
 case nilCheck x=>
  simp only[cP]at an;split at an;·rename_i s off ae;exact done (v:=.pointer (some ⟨β s,off,none⟩)) (x:=.ref s off) (by simp[execOp,Bn aC ae]) rfl an
  ·rename_i ad ae;exact hU (v:=.pointer (some ad)) (by simp[execOp,uD aC ae]) an
  grind
 case fieldAddr t x i=>
  simp only[cP]at an;split at an
  ·rename_i sz h3 z dv au;obtain⟨fields,hu,rfl⟩:=(aQ _ _ au).struct;split at an
   ·rename_i fH off sr;obtain⟨f,v7,rfl,rfl⟩:=Vu sr;split at an
    ·rename_i iP s o' sq ae;cases bg:Nat.beq iP.size 0 with
     |true=>grind
     |false=>
      rw[bg]at an;have gU:iP.size≠0:=λe=>by simp_all
      refine done (v:=.pointer (some ⟨β s,o'+f.offset,none⟩)) (x:=.ref s (o'+f.offset)) ?_ rfl an;simp[execOp,Instr.fieldAt,run_underlying hu,v7,Bn aC ae,Instr.sureAddr,fieldPlace,(aQ _ _ sq).run_sizeOf,gU,eK]
    ·rename_i iP ad sq ae;cases bg:Nat.beq iP.size 0 with
     |true=>grind
     |false=>
      rw[bg]at an;have gU:iP.size≠0:=λe=>by simp_all
      refine hU (v:=.pointer (some (ad.add f.offset))) ?_ an;simp[execOp,Instr.fieldAt,run_underlying hu,v7,uD aC ae,Instr.sureAddr,fieldPlace,(aQ _ _ sq).run_sizeOf,gU]
    grind
   grind
  grind
 case field t x i=>
  simp only[cP]at an;split at an
  ·rename_i sz h3 z dv cs au ae;obtain⟨fields,hu,rfl⟩:=(aQ _ _ au).struct;split at an
   ·rename_i fH off sr;obtain⟨f,v7,rfl,rfl⟩:=Vu sr;split at an
    ·rename_i iP sq;cases bg:Nat.ble (f.offset+iP.size) cs.size with
     |false=>grind| true=>rw[bg]at an;refine hU ?_ an;simp[execOp,Instr.field,run_underlying hu,v7,dt aC ae,asAgg,Ou (aQ _ _ sq) (bJ bg)]
    grind
   grind
  grind
 case indexAddr t x i=>
  simp only[cP]at an;split at an
  ·rename_i sz h3 z e gw k au hi;have hu:=(aQ _ _ au).slice;split at an
   ·rename_i aH bT n c hH ae;obtain⟨ad,j,rfl,rfl,ai,af⟩:=an;refine hU ?_ af;simp[execOp,dt aC ae,dt aC hi,agN hu (aQ _ _ hH) ai]
   grind
  ·rename_i sz h3 z n e gw k au hi;have hu:=(aQ _ _ au).array;split at an
   ·rename_i aH s o' hH ae;obtain⟨j,rfl,ai,af⟩:=an;refine done (v:=.pointer (some ⟨β s,o'+j*aH.size,none⟩)) (x:=.ref s (o'+j*aH.size)) ?_ rfl af;simp[execOp,Bn aC ae,dt aC hi,Vv hu (aQ _ _ hH) ai,eK]
   ·rename_i aH ad hH ae;obtain⟨j,rfl,ai,af⟩:=an;refine hU ?_ af;simp[execOp,uD aC ae,dt aC hi,Vv hu (aQ _ _ hH) ai]
   grind
  grind
 case index t x i=>
  simp only[cP]at an;split at an;·rename_i sz h3 z s gw k au ae hi;have hu:=(aQ _ _ au).string;obtain⟨j,rfl,ai,af⟩:=an;refine hU ?_ af;simp only[execOp,dt aC ae,dt aC hi,Instr.index,cz,q8,cd,run_underlying hu];simp_all
  ·rename_i sz h3 z n e cs gw k au ae hi;have hu:=(aQ _ _ au).array;split at an
   ·rename_i aH hH;cases bg:Nat.beq (n*aH.size) cs.size with
    |false=>grind
    |true=>
     rw[bg]at an;obtain⟨j,rfl,ai,af⟩:=an;have gU:=ei bg;refine hU ?_ af;have bo:j*aH.size+aH.size<=cs.size:=by rw[<-gU,<-J3];exact oJ _ ai
     simp only[execOp,dt aC ae,dt aC hi,Instr.index,cz,q8,cd,run_underlying hu];rw[bY ⟨Z,Z⟩];simp[(aQ _ _ hH).run_sizeOf,Ou (aQ _ _ hH) bo]
   grind
  grind
 case build t parts=>
  simp only[cP]at an;split at an
  ·rename_i i vs hi je;have aK:=J6 aC je;have zj:(parts.map λ(i,x)=>(i,a.eval x)).toList=vs:=by simpa using aK
   obtain⟨z,bg,DP⟩:=(aQ _ _ hi).Gt w;have DQ:z.cells=i.zero.toArray:=by grind
   split at an
   ·rename_i dv oP;cases bl:Gr X.E dv with
    |false=>grind
    |true=>
     rw[bl]at an;simp only[cD]at an;split at an
     ·rename_i cells Bp;obtain⟨sz,h3,agO,bM⟩:=i;simp only at oP;subst oP;obtain⟨fields,hu,rfl⟩:=(aQ _ _ hi).struct;obtain⟨l,ay,oa⟩:=Vw aQ w fields.toList bl;refine hU ?_ an;have hm:(fields.mapM λf=>(do pure (f.offset,<-sizeOf f.type):Sem (Nat×Nat))).run X.P w=.ok l.toArray w:=by rw[Vg,Sem.run_map,ay];rfl
      have xM:=fill_eq _ _ _ _ Bp;have awf:(λj=>l.toArray[j]?)=places X.E (fields.toList.map λf=>(f.type,f.offset)):=by
       grind
      simp only[execOp,Instr.build,cz,bg,cd,run_underlying hu,DQ,zj];simp_all
     grind
   ·rename_i n e oP;split at an
    ·rename_i aH hH;split at an
     ·rename_i cells Bp;obtain⟨sz,h3,agO,bM⟩:=i;simp only at oP;subst oP;have hu:=(aQ _ _ hi).array;refine hU ?_ an;have xM:=fill_eq _ _ _ _ Bp;simp only[execOp,Instr.build,cz,bg,cd,run_underlying hu,DQ,zj,(aQ _ _ hH).run_sizeOf,xM,dn]
     grind
    grind
   grind
  grind
 case makeFunc fn first captured=>
  simp only[cP]at an;split at an
  ·rename_i dv cs aa ab;have aN:=tf aC aa;have bc:=tf aC ab;refine hU ?_ an;have eA:first.map a.eval=dv.toArray:=by grind
   have q':captured.map a.eval=cs.toArray:=by grind
   simp[execOp,Instr.makeFunc,eA,q']
  grind
 case slice t x lo hi mx=>
  simp only[cP]at an;split at an
  ·rename_i sz h3 z e bT n c au ae iz;have Ov:mx=none:=by simpa using iz
   subst Ov;have hu:=(aQ _ _ au).slice;have kz:=dt aC ae;split at an
   ·rename_i aH hH ft gO;have uE:lo=none:=by simpa using ft
    have Bq:hi=none:=by simpa using gO
    subst uE;subst Bq;refine hU ?_ an;have aN:(if c=0 then bT else bT.map (·.add (0*aH.size)))=bT:=by split<;>cases bT<;>simp[Addr.add]
    simp[execOp,Instr.sliceAt,Instr.slice,Instr.sliceBounds,kz,run_underlying hu,(aQ _ _ hH).run_sizeOf,Addr.add]
   ·rename_i aH gw jS hH ft gO;have uE:lo=none:=by simpa using ft
    subst uE;obtain⟨v8,rfl,cU⟩:=s9.1 gO;obtain⟨l,ab,Br,rfl,bo,DR,af⟩:=an;refine hU ?_ af;simp only[execOp,Instr.sliceAt,Instr.slice,Instr.sliceBounds,Instr.sliceBound,kz,cz,run_underlying hu,cd,(aQ _ _ hH).run_sizeOf,dn,lx,uy,dt aC cU,q8];rw[bY ⟨Z,Z⟩];simp[Addr.add]
   ·rename_i aH gw hk hH ft gO;have Bq:hi=none:=by simpa using gO
    subst Bq;obtain⟨Ow,rfl,cU⟩:=s9.1 ft;obtain⟨l,ab,rfl,Bs,bo,DR,af⟩:=an;simp only[ux]at *;refine hU ?_ af;simp only[execOp,Instr.sliceAt,Instr.slice,Instr.sliceBounds,Instr.sliceBound,kz,cz,run_underlying hu,cd,(aQ _ _ hH).run_sizeOf,dn,lx,uy,dt aC cU,q8];rw[bY ⟨Z,Z⟩];simp
   ·rename_i aH gw hk agP jS hH ft gO;obtain⟨Ow,rfl,cU⟩:=s9.1 ft;obtain⟨v8,rfl,Bt⟩:=s9.1 gO;obtain⟨l,ab,rfl,rfl,bo,DR,af⟩:=an;refine hU ?_ af;simp only[execOp,Instr.sliceAt,Instr.slice,Instr.sliceBounds,Instr.sliceBound,kz,cz,run_underlying hu,cd,(aQ _ _ hH).run_sizeOf,dn,lx,uy,dt aC cU,dt aC Bt,q8];rw[bY ⟨Z,Z⟩];simp only[dn,cd,h2];rw[bY ⟨Z,Z⟩];simp
   grind
  ·rename_i sz h3 z s au ae iz;have Ov:mx=none:=by simpa using iz
   subst Ov;have hu:=(aQ _ _ au).string;have kz:=dt aC ae;split at an
   ·rename_i ft gO;have uE:lo=none:=by simpa using ft
    have Bq:hi=none:=by simpa using gO
    subst uE;subst Bq;refine hU ?_ an;have aN:s.extract 0 s.size=s:=by simp
    simp[execOp,Instr.sliceAt,Instr.slice,Instr.sliceBounds,kz,run_underlying hu]
   ·rename_i gw jS ft gO;have uE:lo=none:=by simpa using ft
    subst uE;obtain⟨v8,rfl,cU⟩:=s9.1 gO;obtain⟨l,ab,Br,rfl,bo,DR,af⟩:=an;refine hU ?_ af;simp only[execOp,Instr.sliceAt,Instr.slice,Instr.sliceBounds,Instr.sliceBound,kz,cz,run_underlying hu,cd,dn,lx,uy,dt aC cU];simp only[Od,lX,mV,cz,dn,cd,q8];simp_all
   ·rename_i gw hk ft gO;have Bq:hi=none:=by simpa using gO
    subst Bq;obtain⟨Ow,rfl,cU⟩:=s9.1 ft;obtain⟨l,ab,rfl,Bs,bo,DR,af⟩:=an;simp only[ux]at *;refine hU ?_ af;simp only[execOp,Instr.sliceAt,Instr.slice,Instr.sliceBounds,Instr.sliceBound,kz,cz,run_underlying hu,cd,dn,lx,uy,dt aC cU];simp only[Od,lX,mV,cz,dn,cd,q8];simp_all
   ·rename_i gw hk agP jS ft gO;obtain⟨Ow,rfl,cU⟩:=s9.1 ft;obtain⟨v8,rfl,Bt⟩:=s9.1 gO;obtain⟨l,ab,rfl,rfl,bo,DR,af⟩:=an;refine hU ?_ af;simp only[execOp,Instr.sliceAt,Instr.slice,Instr.sliceBounds,Instr.sliceBound,kz,cz,run_underlying hu,cd,dn,lx,uy,dt aC cU,dt aC Bt];simp only[Od,lX,mV,cz,dn,cd,q8];rw[bY ⟨Z,Z⟩];simp_all
   grind
  ·rename_i sz h3 z e bT n c awg Bu au ae iz;obtain⟨awh,rfl,agQ⟩:=s9.1 iz;have hu:=(aQ _ _ au).slice;have kz:=dt aC ae;split at an
   ·rename_i aH gw jS hH ft gO;have uE:lo=none:=by simpa using ft
    subst uE;obtain⟨v8,rfl,cU⟩:=s9.1 gO;obtain⟨l,m,rfl,rfl,bo,DR,af⟩:=an;refine hU ?_ af;simp only[execOp,Instr.sliceAt,Instr.slice,Instr.sliceBounds,Instr.sliceBound,kz,cz,run_underlying hu,cd,(aQ _ _ hH).run_sizeOf,dn,lx,uy,dt aC cU,dt aC agQ,q8];rw[bY ⟨Z,Z⟩];simp only[dn,cd,h2];rw[bY ⟨Z,Z⟩];rfl
   grind
  grind
 case extract x i=>
  simp only[cP]at an;split at an
  ·rename_i vs ae;split at an
   ·rename_i v hi;refine hU ?_ an;have ck:vs[i]?=some v:=by grind
    simp[execOp,Instr.extract,dt aC ae,ck]
   grind
  grind
 case convert s d x=>
  simp only[cP]at an;split at an;·rename_i awi sz h3 z k fI n aw au ae;have hu:=(aQ _ _ au).int;obtain⟨ds,fP,_⟩:=(aQ _ _ aw).fA;obtain⟨r,ag,af⟩:=an;refine hU ?_ af;simp only[execOp,convert,dt aC ae,cz,run_underlying fP,run_underlying hu,cd];simp only[Conv.intToInt,ag,dn,cd]
  grind
 case call c=>
  obtain⟨callee,args,argTypes⟩:=c;cases callee with
  |value f=>exact .inl an| invoke r m=>exact .inl an
  |builtin b=>
   cases b
   case len=>
    simp only[cP]at an;split at an
    ·rename_i t v aa ab;have aN:=tf aC ab;have eA:args.map a.eval=#[v]:=by grind
     have au:argTypes=#[t]:=by grind
     subst au;split at an;·rename_i sz h3 z e ad n c bm;have hu:=(aQ _ _ bm).slice;refine hU ?_ an;simp[execOp,resolve,invoke,builtin,Builtin.len_,eA,run_underlying hu,goInt]
     ·rename_i sz h3 z s bm;have hu:=(aQ _ _ bm).string;refine hU ?_ an;simp[execOp,resolve,invoke,builtin,Builtin.len_,eA,run_underlying hu,goInt]
     ·rename_i sz h3 z n e bm;have hu:=(aQ _ _ bm).array;refine hU ?_ an;simp[execOp,resolve,invoke,builtin,Builtin.len_,eA,run_underlying hu,goInt]
     grind
    grind
   case cap=>
    simp only[cP]at an;split at an
    ·rename_i t v aa ab;have aN:=tf aC ab;have eA:args.map a.eval=#[v]:=by grind
     have au:argTypes=#[t]:=by grind
     subst au;split at an;·rename_i sz h3 z e ad n c bm;have hu:=(aQ _ _ bm).slice;refine hU ?_ an;simp[execOp,resolve,invoke,builtin,Builtin.cap_,eA,run_underlying hu,goInt]
     grind
    grind
   case max=>
    simp only[cP]at an;split at an
    ·rename_i k p fI q ab;have aN:=tf aC ab;have eA:args.map a.eval=#[.int k p,.int fI q]:=by grind
     refine hU ?_ an;have hm:(if q > p then q else p)=max p q:=by split<;>omega
     simp only[execOp,resolve,invoke,builtin,Builtin.max_,Builtin.max2,eA,cz,dn,cd,List.foldlM_cons,List.foldlM_nil,hm]
    grind
   case min=>
    simp only[cP]at an;split at an
    ·rename_i k p fI q ab;have aN:=tf aC ab;have eA:args.map a.eval=#[.int k p,.int fI q]:=by grind
     refine hU ?_ an;have hm:(if q<p then q else p)=min p q:=by split<;>omega
     simp only[execOp,resolve,invoke,builtin,Builtin.min_,Builtin.min2,eA,cz,dn,cd,List.foldlM_cons,List.foldlM_nil,hm]
    grind
   case unsafeSliceData=>
    simp only[cP]at an;split at an
    ·rename_i n c ab;have aN:=tf aC ab;have eA:args.map a.eval=#[.slice none n c]:=by grind
     refine hU ?_ an;simp only[execOp,resolve,invoke,builtin,eA,cz,dn,cd,Lib.run_unsafeSliceData_nil]
    ·rename_i ad n c ab;obtain⟨al,an⟩:=an;have aN:=tf aC ab;have eA:args.map a.eval=#[.slice (some ad) n c]:=by grind
     refine hU ?_ an;simp only[execOp,resolve,invoke,builtin,eA,cz,dn,cd,Lib.run_unsafeSliceData_row _ _ _ _ _ _ (show c≠0 by omega)]
    grind
   all_goals exact .inl an
 all_goals exact .inl an
theorem DS(aQ:cX X.P X.E)(aj:∀ d,o.dst=some d->d<X.n)(h:Rel X a w F C I M)(an:g1 X o F C I M K):o.wpIn (hb X) 0 X.P a w (Sat X K) Q:=by
 have aZ:=h;obtain⟨β,h⟩:=h;obtain⟨dst,op,ty,pos,after,guard⟩:=o;have other:bz X ⟨dst,op,ty,pos,after,guard⟩ F C I M K->(⟨dst,op,ty,pos,after,guard⟩:Oper).wpIn (hb X) 0 X.P a w (Sat X K) Q:=λ⟨h⟩=>h a w Q aZ;have aC:=h.ap;have quiet:cP X op (dG F) C I M (λx=>K (Go.V.put dst x F) C I M) (bz X ⟨dst,op,ty,pos,after,guard⟩ F C I M K)->(∀ c,op≠.defer c)->(⟨dst,op,ty,pos,after,guard⟩:Oper).wpIn (hb X) 0 X.P a w (Sat X K) Q:=λaM bW=>by
  rcases Vx aQ h op ty dst pos after guard aM with aa | ⟨v,x,ag,ae,af⟩
  grind
  ·exact Vo (o:=⟨dst,op,ty,pos,after,guard⟩) h aj bW ag ae af
 cases op
 case box t x=>
  simp only[g1]at an;split at an
  ·rename_i d v ae;have kz:=dt aC ae;have ag:(execOp a.eval ⟨some d,.box t x,ty,pos,after,guard⟩).run X.P w=.ok (.value (.pointer (some ⟨w.heap.size,0,none⟩))) (w.alloc (.cells v.cells t (0,0))):=by simp[execOp,Instr.box,newVar,newRow,kz]
   have jE:d<X.n:=aj d rfl;cases kA:X.gP.contains d with
   |true=>rw[kA]at an;obtain⟨an⟩:=an;have af:=an w.heap.size h.holds.sm h.holds.q7;have aa:=(h.n' (.cells v.cells t (0,0))).On d;exact iQ am ag ⟨_,_,_,_,⟨β,cT.put aa (dst:=some d) (x:=.val (.pointer (some ⟨w.heap.size,0,none⟩))) Z rfl⟩,af⟩
   |false=>rw[kA]at an;obtain⟨oN,aa⟩:=h.Vk d jE v.cells.toList t;exact iQ am ag ⟨_,_,_,_,⟨oN,Z⟩,an⟩
  grind
 case alloc t=>
  simp only[g1]at an;split at an
  ·rename_i d i hi;obtain⟨z,bg,DP⟩:=(aQ _ _ hi).Gt w;have DQ:z.cells=i.zero.toArray:=by grind
   have ag:(execOp a.eval ⟨some d,.alloc t,ty,pos,after,guard⟩).run X.P w=.ok (.value (.pointer (some ⟨w.heap.size,0,none⟩))) (w.alloc (.cells i.zero.toArray t (0,0))):=by simp[execOp,Instr.alloc,newVar,newRow,bg,DQ]
   have jE:d<X.n:=aj d rfl;cases kA:X.gP.contains d with
   |true=>rw[kA]at an;obtain⟨an⟩:=an;have af:=an w.heap.size h.holds.sm h.holds.q7;have aa:=(h.n' (.cells i.zero.toArray t (0,0))).On d;exact iQ am ag ⟨_,_,_,_,⟨β,cT.put aa (dst:=some d) (x:=.val (.pointer (some ⟨w.heap.size,0,none⟩))) Z rfl⟩,af⟩
   |false=>rw[kA]at an;obtain⟨oN,aa⟩:=h.Vk d jE i.zero t;exact iQ am ag ⟨_,_,_,_,⟨oN,aa⟩,an⟩
  grind
 case store t x y=>
  simp only[g1]at an;split at an
  ·rename_i i v hi aF;have ti:=dt aC aF;split at an
   ·rename_i s off ae;have kz:=Bn aC ae;split at an
    ·rename_i cs aw;cases bo:(Nat.ble (off+i.size) cs.length&&(Nat.beq v.cells.size i.size&&fG v.cells.toList))with
     |false=>grind| true=>rw[bo]at an;simp only[cH]at bo;obtain⟨bo,dy,oQ⟩:=bo;have g3:=bJ bo;have Bv:=ei dy;obtain⟨T,bm⟩:=(h.cx s cs aw).bF;have:=J9 (aQ _ _ hi) (a:=⟨β s,off,none⟩) (v:=v) rfl bm Bv d7 oQ;refine DL am (w':=w.setRow (β s) (cp cs off v.cells.toList).toArray) ?_ ⟨_,_,_,_,⟨β,h.Vm aw (cp cs off v.cells.toList)⟩,an⟩;simp only[execOp,Instr.storeAt,kz,ti,Instr.sureAddr,cz,dn,cd];simp_all
    grind
   ·rename_i ad ae;have kz:=uD aC ae;cases dy:Nat.beq v.cells.size i.size with
    |false=>grind| true=>rw[dy]at an;obtain⟨ba,post,cs,T,bd,de,ah,oQ,af⟩:=an;have Bv:=ei dy;have az:w.heap[ad.block]?=some (.cells cs T (0,0)):=h.holds.m ⟨ad.block,.cells cs T (0,0)⟩ d6;have:=J9 (aQ _ _ hi) (v:=v) de az Bv ah oQ;refine DL am (w':=w.setRow ad.block (cp cs.toList ad.off v.cells.toList).toArray) ?_ ⟨_,_,_,_,⟨β,h.xK bd⟩,af⟩;simp only[execOp,Instr.storeAt,kz,ti,Instr.sureAddr,cz,dn,cd];simp_all
   grind
  grind
 case buildSlice t len parts=>
  simp only[g1]at an;split at an
  ·rename_i sz h3 z e vs au je;have hu:=(aQ _ _ au).slice;have aK:=J6 aC je;have zj:(parts.map λ(i,x)=>(i,a.eval x)).toList=vs:=by simpa using aK
   split at an
   ·rename_i aH hH;cases bg:(Nat.ble (len*aH.size) 16777216&&Nat.blt 0 (len*aH.size))with
    |false=>
     rw[bg]at an;simp only[cw]at an;split at an
     ·rename_i agR;obtain⟨an⟩:=an;have af:=an w.heap.size h.holds.sm h.holds.q7;refine iQ am (v:=.slice (some ⟨w.heap.size,0,none⟩) 0 0) (w':=w.alloc (.cells #[] e (0,0))) ?_ ⟨_,_,_,_,⟨β,(h.n' _).put (x:=.val (.slice (some ⟨w.heap.size,0,none⟩) 0 0)) aj rfl⟩,af⟩;simp only[execOp,Instr.buildSlice,cz,cd,run_underlying hu,(aQ _ _ hH).run_sizeOf,zj];have dC:∀ f:Nat->Value,Array.map f (Array.range 0)=#[]:=λf=>by apply Array.ext<;>simp
      simp[newRow,Instr.fill,dC]
     grind
    |true=>
     rw[bg]at an;simp only[cD]at an;rw[cH]at bg;have bo:=bJ bg.1;have kB:0<len*aH.size:=by simpa using bg.2
     split at an;·rename_i cells Bp;obtain⟨tj,Bw,DP⟩:=(aQ _ _ hH).Gt w;obtain⟨an⟩:=an;have af:=an w.heap.size h.holds.sm h.holds.q7;refine iQ am (v:=.slice (some ⟨w.heap.size,0,none⟩) len len) (w':=w.alloc (.cells cells.toArray e (0,0))) ?_ ⟨_,_,_,_,⟨β,(h.n' _).put (x:=.val (.slice (some ⟨w.heap.size,0,none⟩) len len)) aj rfl⟩,af⟩;have xM:=fill_eq _ _ _ _ Bp;simp only[execOp,Instr.buildSlice,cz,cd,run_underlying hu,(aQ _ _ hH).run_sizeOf];rw[bK Z];simp only[bK (show ¬ len*aH.size=0 by omega),cz,Bw,cd,dn,zj,Vt tj aH.zero DP,xM];simp[newRow,World.alloc_eq]
     grind
   grind
  grind
 case makeSlice t l c=>
  simp only[g1]at an;split at an
  ·rename_i sz h3 z e ff e' b5 c' au ay ar;have hu:=(aQ _ _ au).slice;split at an
   ·rename_i aH hH;obtain⟨n,m,rfl,rfl,kY,ah,hm,⟨an⟩⟩:=an;have af:=an w.heap.size h.holds.sm h.holds.q7;obtain⟨inf,tj,fp,hs,h8,j',Bx⟩:=(aQ _ _ hH).inf;refine iQ am (v:=.slice (some ⟨w.heap.size,0,none⟩) n m) (w':=w.alloc (.cells (rowOf aH.zero (m*aH.size)).toArray e (0,0))) ?_ ⟨_,_,_,_,⟨β,(h.n' _).put (x:=.val (.slice (some ⟨w.heap.size,0,none⟩) n m)) aj rfl⟩,af⟩;have iR:((aH.bytes:Nat):Int)*(m:Int)<=281474976710656:=by omega
    have:=run_make (P:=X.P) w t e inf tj hu fp j' ff b5 (n:Int) (m:Int) Z Z d6 Z;simp only[execOp,dt aC ay,dt aC ar,cz,this,cd,dn,h2];have aN:madeCells tj.cells (m*inf.size)=(rowOf aH.zero (m*aH.size)).toArray:=by rw[hs,<-Bx];simp[td]
    rw[aN]
   grind
  grind
 case call c=>
  obtain⟨callee,args,argTypes⟩:=c;cases callee with
  |value f=>
   simp only[g1]at an;split at an
   ·rename_i g first cap vs zk je
    have aN:=tf aC je;have eA:args.map a.eval=vs.toArray:=by grind
    have fk:∀ {n:Next} {w':World},(callFunc g (first.toList++vs++cap.toList).toArray).run X.P w=.ok n w'->(execOp a.eval ⟨dst,.call { callee:=.value f,args,argTypes },ty,pos,after,guard⟩).run X.P w=.ok n w':=λag=>by simp only[execOp,resolve,dt aC zk,Deferred.ofValue,cz,dn,cd,eA,invoke];rw[show first++vs.toArray++cap=(first.toList++vs++cap.toList).toArray from by simp];exact ag
    rcases h.call an with⟨qp,By⟩ | ⟨v,w',I',M',ag,af,g4⟩;·refine Vs am (f:=g) (args:=(first.toList++vs++cap.toList).toArray) (fk (qp _ _)) ?_;refine By.mono ?_;rintro e w'⟨v,I',M',rfl,af,ag⟩;exact⟨v,rfl,_,_,_,_,⟨β,ag.put (x:=.val v) aj rfl⟩,af⟩
    ·exact iQ am (fk ag) ⟨_,_,_,_,⟨β,g4.put (x:=.val v) aj rfl⟩,af⟩
   grind
  |invoke r m=>exact quiet an am
  |builtin b=>
   cases b
   all_goals exact quiet an am
 case defer c=>exact other an
 all_goals exact quiet an am
end
section
variable{X:c3}{β:Nat->Nat}{a:Act}{w:World}{F:Fr}{C:dB}{I:aI}{M:List aD}{o:Oper}{Q:Exit->Act->World->Prop}{K:gx}
theorem DT{a:Act}{d:Nat}{c:Bool}(h:a.tmps.getD d undef=.bool c):a.tmps[d]?=some (.bool c):=by
 rw[ql]at h;cases aj:a.tmps[d]? with
 |none=>rw[aj]at h;cases h| some v=>grind
theorem Gw{ops:Array Oper}{j d:Nat}(aj:(ops[j]?).bind (·.dst)=some d)(tmps:Array Value):yielded ops tmps j=match tmps[d]? with
  |some (.bool b)=>some b| _=>none:=by
 unfold yielded
 grind
def cT.refine(h:cT X β a w F C I M){df:Fr}(bC:∀ t,fj β (df t) (a.tmps.getD t undef)):cT X β a w df C I M:={ h with ap:=bC }
theorem Vy(aQ:cX X.P X.E)(ops:Array Oper)(kC:∀ a w,Sat X K a w->Q .normal a w):∀ (l:List Oper) (k:Nat),(∀ j,l[j]?=ops[k+j]?)->(∀ o∈l,∀ d,o.dst=some d->d<X.n) -> ∀ {F C I M a w},Rel X a w F C I M->uC X ops.toList l F C I M K->wpOpsIn (hb X) 0 X.P ops Q (List.range' k l.length) a w
 |[],k,_,_,F,C,I,M,a,w,aZ,an=>kC _ _ ⟨F,C,I,M,aZ,an⟩
 |o::bq,k,ay,aj,F,C,I,M,a,w,aZ,an=>by
  have ax:ops[k]?=some o:=by simpa using(ay 0).symm
  have ra:∀ j,bq[j]?=ops[k+1+j]?:=λj=>by have:=ay (j+1);grind
  have fW:∀ o∈bq,∀ d,o.dst=some d->d<X.n:=λo aG=>aj o (by simp[aG]);have zl:=aj o am;have aX:=@Vy aQ ops kC bq (k+1) ra fW;simp only[ey,Oe,wpOpsIn,ax];have run:∀ {F C I M},Rel X a w F C I M->g1 X o F C I M (λF C I M=>uC X ops.toList bq F C I M K)->o.wpIn (hb X) 0 X.P a w (wpOpsIn (hb X) 0 X.P ops Q (List.range' (k+1) bq.length)) Q:=λaZ an=>
   s' (λbT w' ⟨df,C',I',M',ag,af⟩=>aX ag af) (DS aQ zl aZ an)
  have skip:∀ {F C I M},Rel X a w F C I M->uC X ops.toList bq (put o.dst (.val undef) F) C I M K->(∀ f,o.about X.P w a.eval=some f->(hb X).fn f)/\wpOpsIn (hb X) 0 X.P ops Q (List.range' (k+1) bq.length) (a.put o.dst undef) w:=λ⟨β,ag⟩ an=>
   ⟨λ_ _=>trivial,aX ⟨β,ag.put (x:=.val undef) zl rfl⟩ an⟩
  unfold uC at an;cases az:o.guard with
  |none=>
   rw[az]at an;have hw:Region.wanted o (yielded ops a.tmps)=true:=by simp[Region.wanted,az]
   grind
  |some Gx=>
   obtain⟨j,b⟩:=Gx;rw[az]at an;simp only at an;cases ai:(ops.toList[j]?).bind (·.dst)with
   |none=>grind
   |some d=>
    rw[ai]at an;simp only at an;have jT:(ops[j]?).bind (·.dst)=some d:=by grind
    have aF:=Gw jT a.tmps;obtain⟨β,ag⟩:=aZ;have bC:=ag.ap d;split at an
    ·rename_i c ar;rw[ar]at bC;have Bz:=DT bC;have Gy:Region.wanted o (yielded ops a.tmps)=(c == b):=by simp[Region.wanted,az,aF,Bz]
     rw[Gy];cases l1:(c == b)with
     |true=>rw[l1]at an;simp only[ta];exact run ⟨β,ag⟩ an| false=>rw[l1]at an;simp only[lX,mV];exact skip ⟨β,ag⟩ an
    ·rename_i c ar;rw[ar]at bC;have Bz:=DT bC;have Gy:Region.wanted o (yielded ops a.tmps)=(c == b):=by simp[Region.wanted,az,aF,Bz]
     rw[Gy];obtain⟨Ox,jg⟩:=an;have set:∀ x:Bool,c=x->Rel X a w (g0 F d (.lit x)) C I M:=λx ae=>⟨β,ag.refine λt=>by
      unfold g0;by_cases e:t=d;·subst e;simp only[te,cD];rw[<-ae];exact bC
      ·simp only[hT e,cw];exact ag.ap t⟩
     by_cases l1:c=b
     grind
     ·have ab:c=!b:=by cases c<;>cases b<;>simp_all
      grind
    ·rename_i vs ar;rw[ar]at bC;have v9:yielded ops a.tmps j=none:=by
      rw[aF];cases jF:a.tmps[d]? with
      |none=>rfl
      |some v=>
       simp only[fj,ql,jF,kX]at bC
       grind
     have Gy:Region.wanted o (yielded ops a.tmps)=false:=by simp[Region.wanted,az,v9]
     rw[Gy];simp only[lX,mV];exact skip ⟨β,ag⟩ an
    grind
end
inductive zm:dK->dK->Prop
 |refl{x}:zm x x| lit {b}:zm (.lit b) (.val (.bool b))| nF {x}:zm x .nF
def qq:List (Nat×dK)->Fr
 |[],_=>.nF|(t,x)::l,s=>bif Nat.beq s t then x else qq l s
def qs:List (Nat×List Value)->dB
 |[],_=>none|(t,x)::l,s=>bif Nat.beq s t then some x else qs l s
inductive lA(F:Fr):List (Nat×dK)->Prop
 |nil:lA F []| cons {t x l} (h:zm (F t) x) (k:lA F l):lA F ((t,x)::l)
inductive zn(C:dB):List (Nat×List Value)->Prop
 |nil:zn C []| cons {t x l} (h:C t=some x) (k:zn C l):zn C ((t,x)::l)
def agS{β:Nat->Nat}{x y:dK}(h:zm x y)(ae:fj β x v):fj β y v:=by
 cases h with
 |refl=>exact ae| lit=>exact ae| nF=>trivial
def lA.ok{β:Nat->Nat}{F:Fr}(h:∀ t,fj β (F t) (a.tmps.getD t undef)){l:List (Nat×dK)}(ay:lA F l)(t:Nat):fj β (qq l t) (a.tmps.getD t undef):=by
 induction ay with
 |nil=>trivial
 | @cons be x l ae k aX=>
  unfold qq;by_cases e:t=be;·subst e;simp only[te,cD];exact agS ae (h t)
  ·simp only[hT e,cw];exact aX
theorem zn.ok{C:dB}{l:List (Nat×List Value)}(ay:zn C l){s:Nat}{cs:List Value}(h:qs l s=some cs):C s=some cs:=by
 induction ay with
 |nil=>cases h
 | @cons be x l ae k aX=>
  unfold qs at h;by_cases e:s=be
  grind
  ·simp only[hT e,cw]at h;exact aX h
def cT.da{X:c3}{β:Nat->Nat}{F:Fr}{C:dB}{I:aI}{M:List aD}(h:cT X β a w F C I M){bn:List (Nat×dK)}{cl:List (Nat×List Value)}(bC:lA F bn)(gk:zn C cl):cT X β a w (qq bn) (qs cl) I M:=
 { h with
  ap:=bC.ok h.ap
  cx:=λs cs aw=>h.cx s cs (gk.ok aw)
  inj:=λs cr aa ab=>by
   obtain⟨fg,aN⟩:=JZ.1 aa;obtain⟨e1,bc⟩:=JZ.1 ab;exact h.inj s cr (by rw[gk.ok aN];simp) (by rw[gk.ok bc];simp) }
inductive tk where
 |normal| exit (id:Nat)| goto (l:Nat)| ret
abbrev ka:=tk->gx
def zo(N:gx)(K:ka):ka
 | .normal=>N| .exit id=>K (.exit id)| .goto l=>K (.goto l)| .ret=>K .ret
def Vz(id:Nat)(K:ka):ka
 | .normal=>K .normal| .exit j=>bif Nat.beq j id then K .normal else K (.exit j)| .goto l=>K (.goto l)| .ret=>K .ret
def mZ(X:c3)(K:ka):Exit->Act->World->Prop
 | .normal,a,w=>Sat X (K .normal) a w| .exit id,a,w=>Sat X (K (.exit id)) a w| .goto l,a,w=>Sat X (K (.goto l)) a w| .ret,a,w=>Sat X (K .ret) a w| .panic _,_,_=>False| .outgrown,_,_=>False
abbrev Body:=Fr->dB->aI->List aD->ka->Prop
structure v' where
 bn:List (Nat×dK)
 cl:List (Nat×List Value):=[]
 cm:aI
 cK:List aD:=[]
inductive pH{ι:Type}(foot:List Nat)(a2:ι->v')(p:ι->Prop)(F:Fr)(C:dB)(I:aI)(M:List aD):Prop
 |mk(j:ι)(aK:p j)(hw:h5 foot I M (a2 j).cm (a2 j).cK)(bC:lA F (a2 j).bn)(gk:zn C (a2 j).cl)
def Oy(body:Body)(K:ka):Nat->gx
 |0=>λ_ _ _ _=>False
 |n+1=>λF C I M=>body F C I M (zo (Oy body K n) K)
inductive c2(foot:List Nat)(body:Body)(F:Fr)(C:dB)(I:aI)(M:List aD)(K:ka):Prop
 |inv {ι:Type} (a2:ι->v') (inv:ι->Prop) (μ:ι->Nat) (start:pH foot a2 inv F C I M) (round:∀ i,inv i->body (qq (a2 i).bn) (qs (a2 i).cl) (a2 i).cm (a2 i).cK (zo (pH foot a2 λj=>inv j/\μ j<μ i) K))| agT (n:Nat) (h:Oy body K n F C I M)| rc {ι:Type} (a2:ι->v') (inv:ι->Prop) (μ:ι->Nat) (start:mA I M->pH foot a2 inv F C I M) (round:∀ i,inv i->body (qq (a2 i).bn) (qs (a2 i).cl) (a2 i).cm (a2 i).cK (zo (λF C I M=>mA I M->pH foot a2 (λj=>inv j/\μ j<μ i) F C I M) K))
inductive cN(X:c3)(c:Code)(F:Fr)(C:dB)(I:aI)(M:List aD)(K:ka):Prop
 |mk(h:∀ a w,Rel X a w F C I M->c.wpIn (hb X) 0 X.P (mZ X K) a w)
inductive agU(foot:List Nat)(F:Fr)(C:dB)(I:aI)(M:List aD)(K:gx):Prop
 |go(h:K F C I M)| agV (l:v') (hw:h5 foot I M l.cm l.cK) (bC:lA F l.bn) (gk:zn C l.cl) (h:K (qq l.bn) (qs l.cl) l.cm l.cK)
def V(X:c3):Code->Fr->dB->aI->List aD->ka->Prop
 | .skip,F,C,I,M,K=>K .normal F C I M| .label l,F,C,I,M,K=>bif Nat.ble 2 l then agU X.foot F C I M (K .normal)else K .normal F C I M| .ret,F,C,I,M,K=>K .ret F C I M| .exit id,F,C,I,M,K=>K (.exit id) F C I M| .goto l,F,C,I,M,K=>K (.goto l) F C I M| .seq x y,F,C,I,M,K=>V X x F C I M (zo (λF C I M=>V X y F C I M K) K)| .block id c,F,C,I,M,K=>V X c F C I M (Vz id K)
 | .cond c x y,F,C,I,M,K=>
  match dG F c with
  | .lit b=>bif b then V X x F C I M K else V X y F C I M K| .val (.bool b)=>aS b (V X x F C I M K) (V X y F C I M K)| _=>False
 | .loop c,F,C,I,M,K=>c2 X.foot (V X c) F C I M K| .region _ ops false,F,C,I,M,K=>uC X ops.toList ops.toList F C I M (K .normal)| .region id ops true,F,C,I,M,K=>cN X (.region id ops true) F C I M K| .rangeFunc f ps fu body,F,C,I,M,K=>cN X (.rangeFunc f ps fu body) F C I M K| .scope c,F,C,I,M,K=>cN X (.scope c) F C I M K| .refuse _,_,_,_,_,_=>False
def wa(n:Nat)(ops:Array Oper):Bool:=ops.toList.all λo=>match o.dst with
 |some d=>Nat.blt d n| none=>true
def codeOk(n:Nat):Code->Bool
 | .seq x y=>codeOk n x&&codeOk n y| .block _ c=>codeOk n c| .cond _ x y=>codeOk n x&&codeOk n y| .loop c=>codeOk n c| .region _ ops _=>wa n ops| _=>true
theorem J'{ops:Array Oper}(h:wa n ops=true):∀ o∈ops.toList,∀ d,o.dst=some d->d<n:=by intro o aG d aj;have:=fV.1 h o aG;simp_all
def mZ.then{X:c3}{N:gx}{K:ka}(aE:∀ a w,Sat X N a w->next a w):∀ e a w,mZ X (zo N K) e a w->Exit.then next (mZ X K) e a w:=by
 intro e a w h;cases e<;>first | exact aE _ _ h | exact h
def Ka(J:Nat->Act->World->Prop)(agW:J m a w)
  (round:∀ m a w,J m a w->c.wpIn sj n P (Exit.then (λbT w'=>∃ m',m'<m/\J m' bT w') Q) a w):(Code.loop c).wpIn sj n P Q a w:=by
 intro b k cs iA ah ag;have key:∀ j a w,J j a w->∃ e bT w',Q e bT w'/\ArrivesIn (Machine.fenced P sj) P (lone (b.atR a (.code c::.inLoop c::k)) cs w) b k cs e bT w':=by
  intro j
  induction j using Nat.strongRecOn with
  |_ j aX=>
   intro a w bG;obtain⟨e,kb,kc,aM,jh⟩:=round j a w bG b (.inLoop c::k) cs iA ah ag;cases e with
   |normal=>obtain⟨m',aV,agX⟩:=aM;obtain⟨Gz,GA,GB,GC,GD⟩:=aX m' aV kb kc agX;exact⟨Gz,GA,GB,GC,.of_steps (StepsIn.trans jh (.one (fenced_calm ah ag rfl) stepR_inLoop)) GD⟩
   |exit id=>exact⟨_,kb,kc,aM,.pass (x:=.inLoop c) rfl am jh⟩| goto l=>exact⟨_,kb,kc,aM,.pass (x:=.inLoop c) rfl am jh⟩| ret=>exact⟨_,kb,kc,aM,.pass (x:=.inLoop c) rfl am jh⟩| panic GF=>exact⟨_,kb,kc,aM,.pass (x:=.inLoop c) rfl am jh⟩| outgrown=>exact⟨_,kb,kc,aM,.pass (x:=.inLoop c) rfl am jh⟩
 obtain⟨e,bT,w',aM,jh⟩:=key _ a w agW;exact⟨e,bT,w',aM,.of_steps (.one (fenced_calm ah ag rfl) stepR_loop) jh⟩
theorem re{X:c3}(aQ:cX X.P X.E):∀ (c:Code) {F C I M K a w},codeOk X.n c=true->Rel X a w F C I M->V X c F C I M K->c.wpIn (hb X) 0 X.P (mZ X K) a w
 | .skip,F,C,I,M,K,a,w,_,aZ,an=>wpIn_skip ⟨F,C,I,M,aZ,an⟩
 | .label l,F,C,I,M,K,a,w,_,aZ,an=>by
  refine wpIn_label ?_;simp only[V]at an;cases ay:Nat.ble 2 l with
  |false=>rw[ay]at an;exact⟨F,C,I,M,aZ,an⟩
  |true=>
   rw[ay]at an;simp only[cD]at an;cases an with
   |go h=>exact⟨F,C,I,M,aZ,h⟩| agV l hw bC gk h=>obtain⟨β,ag⟩:=aZ;exact⟨_,_,_,_,⟨β,(ag.da bC gk).h6 hw⟩,h⟩
 | .ret,F,C,I,M,K,a,w,_,aZ,an=>wpIn_ret ⟨F,C,I,M,aZ,an⟩| .exit id,F,C,I,M,K,a,w,_,aZ,an=>wpIn_exit ⟨F,C,I,M,aZ,an⟩| .goto l,F,C,I,M,K,a,w,_,aZ,an=>wpIn_goto ⟨F,C,I,M,aZ,an⟩| .seq x y,F,C,I,M,K,a,w,bl,aZ,an=>by simp only[codeOk,cH]at bl;refine wpIn_seq (wpIn_mono (re aQ x bl.1 aZ an) (mZ.then ?_));rintro a w⟨df,C',I',M',ag,af⟩;exact re aQ y bl.2 ag af
 | .block id c,F,C,I,M,K,a,w,bl,aZ,an=>by
  refine wpIn_block (wpIn_mono (re aQ c bl aZ an) ?_);intro e a w h;cases e with
  |exit j=>
   simp only[mZ,Vz]at h;simp only[Exit.inBlock];by_cases e:j=id;·subst e;simp only[te,cD]at h;rw[bY rfl];exact h
   ·simp only[hT e,cw]at h;rw[bK e];exact h
  |_=>exact h
 | .cond c x y,F,C,I,M,K,a,w,bl,aZ,an=>by
  simp only[codeOk,cH]at bl;obtain⟨β,ag⟩:=aZ;simp only[V]at an;split at an
  ·rename_i b ah;have ar:=Oj ag.ap ah;refine wpIn_cond ar ?_;cases b
   ·exact re aQ y bl.2 ⟨β,ag⟩ an
   ·exact re aQ x bl.1 ⟨β,ag⟩ an
  ·rename_i b ah;have ar:=uD ag.ap ah;refine wpIn_cond ar ?_;obtain⟨aa,ab⟩:=an;cases b
   ·exact re aQ y bl.2 ⟨β,ag⟩ (ab rfl)
   ·exact re aQ x bl.1 ⟨β,ag⟩ (aa rfl)
  grind
 | .loop c,F,C,I,M,K,a,w,bl,aZ,an=>by
  have aX:=@re X aQ c;simp only[V]at an;have hinv:∀ {ι:Type} (a2:ι->v') (inv:ι->Prop) (μ:ι->Nat) (start:mA I M->pH X.foot a2 inv F C I M)
    (round:∀ i,inv i->V X c (qq (a2 i).bn) (qs (a2 i).cl) (a2 i).cm (a2 i).cK (zo (λF C I M=>mA I M->pH X.foot a2 (λj=>inv j/\μ j<μ i) F C I M) K)),(Code.loop c).wpIn (hb X) 0 X.P (mZ X K) a w:=by
   intro ι a2 inv μ start round;let J (m:Nat) (a:Act) (w:World):Prop:=∃ i,inv i/\μ i=m/\Rel X a w (qq (a2 i).bn) (qs (a2 i).cl) (a2 i).cm (a2 i).cK
   have zp:∀ {p:ι->Prop} {a w},(∀ i,p i->inv i)->Sat X (λF C I M=>mA I M->pH X.foot a2 p F C I M) a w->∃ i,p i/\J (μ i) a w:=by rintro p a w aK⟨F,C,I,M,⟨β,ag⟩,ew⟩;obtain⟨j,ss,hw,bC,gk⟩:=ew ⟨ag.holds.d,ag.holds.bO⟩;exact⟨j,ss,j,aK j ss,rfl,β,(ag.da bC gk).h6 hw⟩
   obtain⟨i0,_,xN⟩:=zp (λ_ h=>h) ⟨F,C,I,M,aZ,start⟩;refine Ka J xN ?_;rintro m a w⟨i,hi,rfl,ag⟩;refine wpIn_mono (aX bl ag (round i hi)) ?_;intro e a w h;cases e with
   |normal=>obtain⟨j,⟨ai,aV⟩,a6⟩:=zp d6 h;exact⟨_,aV,a6⟩
   |_=>exact h
  cases an with
  | @inv ι a2 inv μ start round=>
   let J (m:Nat) (a:Act) (w:World):Prop:=∃ i,inv i/\μ i=m/\Rel X a w (qq (a2 i).bn) (qs (a2 i).cl) (a2 i).cm (a2 i).cK
   have zp:∀ {p:ι->Prop} {a w},(∀ i,p i->inv i)->Sat X (pH X.foot a2 p) a w->∃ i,p i/\J (μ i) a w:=by rintro p a w aK⟨F,C,I,M,⟨β,ag⟩,⟨j,ss,hw,bC,gk⟩⟩;exact⟨j,ss,j,aK j ss,rfl,β,(ag.da bC gk).h6 hw⟩
   obtain⟨i0,_,xN⟩:=zp (λ_ h=>h) ⟨F,C,I,M,aZ,start⟩;refine Ka J xN ?_;rintro m a w⟨i,hi,rfl,ag⟩;refine wpIn_mono (aX bl ag (round i hi)) ?_;intro e a w h;cases e with
   |normal=>obtain⟨j,⟨ai,aV⟩,a6⟩:=zp d6 h;exact⟨_,aV,a6⟩
   |_=>exact h
  |rc a2 inv μ start round=>exact hinv a2 inv μ start round
  |agT n h=>
   refine Ka (λm a w=>Sat X (Oy (V X c) K m) a w) ⟨F,C,I,M,aZ,h⟩ ?_;rintro m a w⟨F,C,I,M,ag,af⟩;cases m with
   |zero=>exact af.elim
   |succ m=>
    refine wpIn_mono (aX bl ag af) ?_;intro e a w h;cases e with
    |normal=>exact⟨m,Bj m,h⟩| _=>exact h
 | .region id ops false,F,C,I,M,K,a,w,bl,aZ,an=>by refine wpIn_region ?_;have:=Vy (K:=K .normal) (Q:=mZ X K) aQ ops (λ_ _ h=>h) ops.toList 0 am (J' bl) aZ an;simpa[DI]using this
 | .region id ops true,F,C,I,M,K,a,w,bl,aZ,⟨an⟩=>an a w aZ| .rangeFunc f ps fu body,F,C,I,M,K,a,w,bl,aZ,⟨an⟩=>an a w aZ| .scope c,F,C,I,M,K,a,w,bl,aZ,⟨an⟩=>an a w aZ| .refuse _,F,C,I,M,K,a,w,bl,aZ,an=>an.elim
def xO(args:List Value):Fr:=λt=>match args[t]? with
 |some v=>.val v| none=>.nF
def pI(X:c3)(F:Fr)(C:dB)(I:aI)(M:List aD):List ResultVar->(List Value->Prop)->Prop
 |[],K=>K []
 | .tmp t::l,K=>match bI F (.tmp t)with
  | .val v=>pI X F C I M l λvs=>K (v::vs)
  |_=>False
 | .cell t ty::l,K=>match dG F (.tmp t),X.E ty with
  | .ref s off,some i=>(match C s with
   |some cs=>bif Nat.ble (off+i.size) cs.length then pI X F C I M l λvs=>K (pack i.bM.agg ((cs.drop off).take i.size)::vs)else False
   |none=>False)
  | .val (.pointer (some a)),some i=>aJ I M a i.size λws=>pI X F C I M l λvs=>K (pack i.bM.agg ws::vs)
  |_,_=>False
inductive wb(foot:List Nat)(I:aI)(M:List aD)(post:aI->List aD->Prop):Prop
 |mk(I':aI)(M':List aD)(hw:h5 foot I M I' M')(h:post I' M')
def wc(X:c3)(a':List ResultVar)(post:Value->aI->List aD->Prop):ka:=λex F C I M=>
 let done:Prop:=pI X F C I M a' λvs=>match vs with
  |[v]=>wb X.foot I M (post v)| vs=>wb X.foot I M (post (.tuple vs.toArray))
 match ex with
 | .normal=>done| .ret=>done| _=>False
def DU(tmps:Array Value):ResultVar->Sem Value
 | .tmp t=>pure (tmps.getD t undef)| .cell a t=>do loadVar t (<-asAddr (tmps.getD a undef))
def agY(fn:Func)(tmps:Array Value):results fn tmps=(do let vs <-fn.results.mapM (DU tmps);pure (if h:vs.size=1 then vs[0]else .tuple vs)):=by rfl
theorem Kb{X:c3}(aQ:cX X.P X.E){β:Nat->Nat}{a:Act}{w:World}{F:Fr}{C:dB}{I:aI}{M:List aD}(h:cT X β a w F C I M):∀ {a':List ResultVar} {K:List Value->Prop},pI X F C I M a' K -> ∃ vs,K vs/\(a'.mapM (DU a.tmps)).run X.P w=.ok vs w
 |[],K,an=>⟨[],an,rfl⟩
 | .tmp t::l,K,an=>by
  unfold pI at an;split at an;·rename_i v aa;have aN:a.tmps.getD t undef=v:=dt h.ap aa;obtain⟨vs,af,bc⟩:=Kb aQ h an;refine⟨_,af,?_⟩;simp only[Gn,DU,cz,dn,cd,bc,aN]
  grind
 | .cell t ty::l,K,an=>by
  unfold pI at an;split at an
  ·rename_i s off i aa hi;have aN:a.tmps.getD t undef=.pointer (some ⟨β s,off,none⟩):=Bn h.ap aa;split at an
   ·rename_i cs aw;cases bo:Nat.ble (off+i.size) cs.length with
    |false=>grind| true=>rw[bo]at an;obtain⟨vs,af,bc⟩:=Kb aQ h an;have g3:=bJ bo;obtain⟨T,bm⟩:=(h.cx s cs aw).bF;have cy:=J8 (aQ _ _ hi) (a:=⟨β s,off,none⟩) rfl bm (vs:=(cs.drop off).take i.size) am d7;refine⟨_,af,?_⟩;simp only[Gn,DU,cz,dn,cd,bc,aN,asAddr,cy]
   grind
  ·rename_i ad i aa hi;have aN:a.tmps.getD t undef=.pointer (some ad):=uD h.ap aa;obtain⟨ws,⟨de,cs,T,ap,eF,je,ay⟩,an⟩:=an;obtain⟨vs,af,bc⟩:=Kb aQ h an;have cy:=J8 (aQ _ _ hi) de (eF.heap h.holds) je ay;refine⟨_,af,?_⟩;simp only[Gn,DU,cz,dn,cd,bc,aN,asAddr,cy]
  grind
def agZ{X:c3}(aQ:cX X.P X.E){β:Nat->Nat}{F:Fr}{C:dB}{I:aI}{M:List aD}(h:cT X β a w F C I M){K:List Value->Prop}(an:pI X F C I M fn.results.toList K) :
  ∃ vs,K vs/\(results fn a.tmps).run X.P w=.ok (match vs with | [v]=>v | vs=>.tuple vs.toArray) w:=by
 obtain⟨vs,af,e⟩:=Kb aQ h an;refine⟨vs,af,?_⟩;rw[agY];have aN:(fn.results.mapM (DU a.tmps)).run X.P w=.ok vs.toArray w:=by rw[Vg,Sem.run_map,e];rfl
 simp only[cz,aN,cd,dn]
 match vs with
 |[]=>rfl| [v]=>rfl| u::v::l=>simp
theorem VA{sj:Fence}{n:Nat}{P:Program}{fn:Func}{tmps:Array Value}{R:Ending->World->Prop}:∀ (a':List Nat) (w:World),a'.Nodup->(∀ r∈a',w.heap[r]?=some (.deferred (some []))) -> (∀ w':World,w'.heap.size=w.heap.size->(∀ b,b ∉ a'->w'.heap[b]?=w.heap[b]?)->oM w w'->∃ v,(results fn tmps).run P w'=.ok v w'/\R (.returned v) w')->LeavesInM sj n P fn tmps R (a'.map xH) .returning w
 |[],w,_,_,h=>h w rfl am (.refl _)
 |r::a',w,bW,ag,h=>by
  rw[mw]at bW;refine⟨am,.inl ⟨r,_,rfl,run_takeDeferred (ag r am),?_⟩⟩;refine VA a' _ bW.2 (λGG g4=>?_) λw' aw ah aG=>h w' (by simp_all) (λb DV=>?_) ((J7 _ _ _).trans aG)
  ·have bH:GG≠r:=λe=>bW.1 (e ▸ g4);rw[nB bH]
   grind
  ·simp only[ez,not_or]at DV;rw[ah b DV.2,nB DV.1]
theorem cT.take{X:c3}{β:Nat->Nat}{F:Fr}{C:dB}{I:aI}{M:List aD}(h:cT X β a w F C I M){a':List Nat}(dM:∀ r∈a',v3 X w I M r)(aw:w'.heap.size=w.heap.size)(ah:∀ b,b ∉ a'->w'.heap[b]?=w.heap[b]?)(aG:oM w w') :
  cT X β { a with defers:=[] } w' F C I M:=by
 exact {
  size:=h.size
  defers:=⟨[],rfl,DJ,am⟩
  holds:={
   i:=λb o jf=>by rw[ah b (λag=>by have:=(dM b ag).j8;grind)];exact h.holds.i b o jf
   m:=λx ae=>by rw[ah _ (λag=>(dM _ ag).fe x ae rfl)];exact h.holds.m x ae
   d:=h.holds.d
   bO:=h.holds.bO }
  ap:=h.ap
  cx:=λs cs l2=>by have we:=h.cx s cs l2;obtain⟨T,bm⟩:=we.bF;refine { we with bF:=⟨T,?_⟩ };rw[ah _ (λag=>by have:=(dM _ ag).bF;grind)];exact bm
  inj:=h.inj
  ik:=h.ik
  hS:=h.hS
  own:=h.own
  dR:=λb aV aC=>by rw[ah _ (λag=>by have:=(dM _ ag).da;omega)];exact h.dR b aV aC
  out:=h.out.trans aG
  sz:=by rw[aw];exact h.sz
  fH:=h.fH }
def mZ.ret{X:c3}(aQ:cX X.P X.E){post:Value->aI->List aD->Prop}
  (aZ:∀ v I M (w:World) (a:Act) (F:Fr) (C:dB),Rel X a w F C I M->post v I M->R (.returned v) w):∀ e a w,mZ X (wc X fn.results.toList post) e a w->bodyPostM (hb X) 0 X.P fn R e a w:=by
 have main:∀ a w,Sat X (wc X fn.results.toList post .ret) a w->LeavesInM (hb X) 0 X.P fn a.tmps R a.defers .returning w:=by
  rintro a w⟨F,C,I,M,⟨β,ag⟩,af⟩;simp only[wc]at af;obtain⟨a',aj,bW,hm⟩:=ag.defers;rw[aj];refine VA a' w bW (λr dD=>(hm r dD).bF) λw' aw ah aG=>?_;have g4:=ag.take hm aw ah aG;obtain⟨vs,aK,fk⟩:=agZ aQ g4 af;refine⟨_,fk,?_⟩
  match vs,aK with
  |[],⟨I',M',hw,aK⟩=>exact aZ _ I' M' w' _ F C ⟨β,g4.h6 hw⟩ aK| [v],⟨I',M',hw,aK⟩=>exact aZ _ I' M' w' _ F C ⟨β,g4.h6 hw⟩ aK| u::v::l,⟨I',M',hw,aK⟩=>exact aZ _ I' M' w' _ F C ⟨β,g4.h6 hw⟩ aK
 intro e a w h;cases e with
 |normal=>exact main a w h| ret=>exact main a w h| exit id=>obtain⟨F,C,I,M,_,af⟩:=h;exact af.elim
 |goto l=>obtain⟨F,C,I,M,_,af⟩:=h;exact af.elim
 |panic _=>exact h.elim| outgrown=>exact h.elim
theorem ag0(aC:P.funcs[f]?=some fn)(ah:fn.body.isSome=true)(aE:(fn.name == "runtime.NumGoroutine")=false):Oh P f:=by
 intro args w;have g2:fn.body.isNone=false:=by cases h:fn.body<;>simp_all
 simp only[callFunc,cz,run_program,cd,aC,aE,lX,mV,g2];rfl
theorem Oz{E:Env}(gP:List Nat)(aQ:cX P E)(aC:P.funcs[f]?=some fn)(ah:fn.body=some c)(aE:(fn.name == "runtime.NumGoroutine")=false)
 (bl:(codeOk fn.ntmps c&&Nat.ble args.length fn.ntmps)=true) {I:aI} {M:List aD} {post:Value->aI->List aD->Prop}
  (h:∀ B ax a w,Rel ⟨P,E,gP,fn.ntmps,B,ax,I,M.map (·.num),none⟩ a w (xO args) (λ_=>none) I M->c.wpIn (hb ⟨P,E,gP,fn.ntmps,B,ax,I,M.map (·.num),none⟩) 0 P (mZ ⟨P,E,gP,fn.ntmps,B,ax,I,M.map (·.num),none⟩ (wc ⟨P,E,gP,fn.ntmps,B,ax,I,M.map (·.num),none⟩ fn.results.toList post)) a w) :
  vZ P f args I M post:=by
 rw[cH]at bl;have c0:=bJ bl.2;refine⟨ag0 aC d6 aE,λw lz=>?_⟩;let X:c3:=⟨P,E,gP,fn.ntmps,w.heap.size,w,I,M.map (·.num),none⟩
 have GH:Rel X { tmps:=args.toArray++Array.replicate (fn.ntmps-args.toArray.size) undef,defers:=[] } w (xO args) (λ_=>none) I M:=⟨λ_=>0,{
  size:=by grind
  defers:=⟨[],rfl,DJ,am⟩
  holds:=lz
  ap:=λt=>by
   unfold xO;cases au:args[t]? with
   |none=>trivial
   |some v=>
    have aV:t<args.length:=(jd.1 au).1;simp only[fj,ql]
    grind
  cx:=λs cs aw=>by cases aw
  inj:=λs cr aa=>by simp at aa
  ik:=λb o ah=>ah
  hS:=λb o ah=>.inl ah
  own:=λx ae=>.inl d6
  dR:=λb ah aC=>rfl
  out:=.refl _
  sz:=cf _
  fH:=λx ae=>by
   obtain⟨y,aF,rfl⟩:=c6.1 ae;exact(lW.1 (lz.m y aF)).1 }⟩
 have Kc:=h w.heap.size w _ _ GH;refine(callsIn_wide (n:=0)).1 ?_;have ag1:hb X=Fence.wide:=rfl;rw[ag1]at Kc;refine callsIn_of_wp_marks aC ah trivial (wpIn_mono Kc (mZ.ret (X:=X) aQ ?_));rintro v I' M' w' bT df C'⟨β,ag⟩aK;refine⟨v,I',M',rfl,aK,ag.holds,?_⟩;exact {
  le:=ag.ik
  uB:=ag.hS
  vY:=λx ae=>by
   rcases ag.own x ae with aa | aa
   grind
   grind
  dR:=λb ah bH=>ag.dR b ah d6
  out:=ag.out
  sz:=ag.sz }
def BA{E:Env}(gP:List Nat)(aQ:cX P E)(aC:P.funcs[f]?=some fn)(ah:fn.body=some c)(aE:(fn.name == "runtime.NumGoroutine")=false)
 (bl:(codeOk fn.ntmps c&&Nat.ble args.length fn.ntmps)=true) {I:aI} {M:List aD} {post:Value->aI->List aD->Prop}
  (h:∀ B ax,V ⟨P,E,gP,fn.ntmps,B,ax,I,M.map (·.num),none⟩ c (xO args) (λ_=>none) I M (wc ⟨P,E,gP,fn.ntmps,B,ax,I,M.map (·.num),none⟩ fn.results.toList post)) :
  vZ P f args I M post:=
 Oz gP aQ aC ah aE bl λB ax a w ag=>by rw[cH]at bl;exact re aQ c bl.1 ag (h B ax)
def bR{E:Env}(gP:List Nat)(aQ:cX P E)(aC:P.funcs[f]?=some fn)(ah:fn.body=some c)(aE:(fn.name == "runtime.NumGoroutine")=false)
 (bl:(codeOk fn.ntmps c&&Nat.ble args.length fn.ntmps)=true) {I:aI} {M:List aD} {post:Value->aI->List aD->Prop}
  (h:∀ B ax,V ⟨P,E,gP,fn.ntmps,B,ax,I,M.map (·.num),none⟩ c (xO args) (λ_=>none) I M (wc ⟨P,E,gP,fn.ntmps,B,ax,I,M.map (·.num),none⟩ fn.results.toList post)) :
  Spec P f args I M post:=.inl (BA gP aQ aC ah aE bl h)
def Kd(X:c3)(a':List ResultVar)(post:Value->aI->List aD->Prop):ka:=λex F C I M=>
 let done:Prop:=pI X F C I M a' λvs=>match vs with
  |[v]=>mA I M->wb X.foot I M (post v)| vs=>mA I M->wb X.foot I M (post (.tuple vs.toArray))
 match ex with
 | .normal=>done| .ret=>done| _=>False
theorem Ke{X:c3}{F:Fr}{C:dB}{I:aI}{M:List aD}:∀ {a':List ResultVar} {K nH:List Value->Prop},(∀ vs,K vs->nH vs)->pI X F C I M a' K->pI X F C I M a' nH
 |[],K,nH,h,an=>h _ an
 | .tmp t::l,K,nH,h,an=>by
  unfold pI at an |-;split at an;·exact Ke (λvs=>h _) an
  omega
 | .cell t ty::l,K,nH,h,an=>by
  unfold pI at an |-;split at an
  ·rename_i s off i aa hi;split at an
   ·rename_i cs aw;cases bo:Nat.ble (off+i.size) cs.length with
    |false=>grind| true=>rw[bo]at an;exact Ke (λvs=>h _) an
   omega
  ·obtain⟨ws,bb,an⟩:=an;exact⟨ws,bb,Ke (λvs=>h _) an⟩
  omega
theorem mZ.ag2{X:c3}{a':List ResultVar}{post:Value->aI->List aD->Prop}:∀ e a w,mZ X (Kd X a' post) e a w->mZ X (wc X a' post) e a w:=by
 have one:∀ a w,Sat X (Kd X a' post .ret) a w->Sat X (wc X a' post .ret) a w:=by
  rintro a w⟨F,C,I,M,⟨β,ag⟩,h⟩;refine⟨F,C,I,M,⟨β,ag⟩,Ke (λvs an=>?_) h⟩;have ew:mA I M:=⟨ag.holds.d,ag.holds.bO⟩
  grind
 intro e a w h;cases e with
 |normal=>exact one a w h| ret=>exact one a w h| exit id=>obtain⟨F,C,I,M,ag,af⟩:=h;exact af.elim
 |goto l=>obtain⟨F,C,I,M,ag,af⟩:=h;exact af.elim
 |panic _=>exact h| outgrown=>exact h
def ag3{E:Env}(gP:List Nat)(aQ:cX P E)(aC:P.funcs[f]?=some fn)(ah:fn.body=some c)(aE:(fn.name == "runtime.NumGoroutine")=false)
 (bl:(codeOk fn.ntmps c&&Nat.ble args.length fn.ntmps)=true) {I:aI} {M:List aD} {post:Value->aI->List aD->Prop}
  (h:∀ B ax,V ⟨P,E,gP,fn.ntmps,B,ax,I,M.map (·.num),none⟩ c (xO args) (λ_=>none) I M (Kd ⟨P,E,gP,fn.ntmps,B,ax,I,M.map (·.num),none⟩ fn.results.toList post)) :
  vZ P f args I M post:=
 Oz gP aQ aC ah aE bl λB ax a w ag=>by rw[cH]at bl;exact wpIn_mono (re aQ c bl.1 ag (h B ax)) mZ.ag2
def wg{E:Env}(gP:List Nat)(aQ:cX P E)(aC:P.funcs[f]?=some fn)(ah:fn.body=some c)(aE:(fn.name == "runtime.NumGoroutine")=false)
 (bl:(codeOk fn.ntmps c&&Nat.ble args.length fn.ntmps)=true) {I:aI} {M:List aD} {post:Value->aI->List aD->Prop}
  (h:∀ B ax,V ⟨P,E,gP,fn.ntmps,B,ax,I,M.map (·.num),none⟩ c (xO args) (λ_=>none) I M (Kd ⟨P,E,gP,fn.ntmps,B,ax,I,M.map (·.num),none⟩ fn.results.toList post)) :
  Spec P f args I M post:=.inl (ag3 gP aQ aC ah aE bl h)
def OA:Value->Value->Bool
 | .bool a,.bool b=>a == b| .int k n,.int fI m=>IntKind.lZ k fI&&decide (n=m)| .string s,.string t=>decide (s.data.toList=t.data.toList)| .pointer none,.pointer none=>true| .slice none 0 0,.slice none 0 0=>true| .map none,.map none=>true| .nilFunc,.nilFunc=>true| .nilIface,.nilIface=>true| _,_=>false
theorem ag4:∀ {a b:Value},OA a b=true->a=b:=by
 intro a b h;unfold OA at h;split at h
 grind
 ·simp only[cH,gN]at h;rw[IntKind.DN h.1,h.2]
 ·rename_i s t;simp only[gN]at h;have:s=t:=by cases s;simp_all
  rw[this]
 all_goals first | rfl | cases h
def Kf:List Value->List Value->Bool
 |[],[]=>true| a::as,b::cE=>OA a b&&Kf as cE| _,_=>false
def VB:∀ {a b:List Value},Kf a b=true->a=b
 |[],[],_=>rfl| a::as,b::cE,h=>by simp only[Kf,cH]at h;rw[ag4 h.1,VB h.2]
 |[],_::_,h=>by cases h
 |_::_,[],h=>by cases h
def OB(P:Program)(t:Nat)(i:dV):Bool:=
 (match P.info? t with
 |some inf=>decide (inf.size=i.size)&&decide (inf.bytes=i.bytes)&&(match inf.zero with
  |some z=>Kf z.cells.toList i.zero| none=>false)
 |none=>false) &&
 (match P.underlying t with
 |some d=>decide (fz d=i.bM)| none=>false)&&fG i.zero&&decide (i.zero.length=i.size)&&(i.bM.agg||decide (i.size=1))
theorem ag5{t:Nat}{i:dV}(h:OB P t i=true):ky P t i:=by
 simp only[OB,cH]at h;obtain⟨⟨⟨⟨aa,ab⟩,al⟩,aL⟩,bB⟩:=h;refine⟨?_,?_,zh al,cv aL,λa8=>?_⟩
 ·split at aa
  ·rename_i inf hi;simp only[cH,gN]at aa;obtain⟨⟨aN,bc⟩,cy⟩:=aa;split at cy
   ·rename_i z bg;exact⟨inf,z,hi,aN,bc,bg,VB cy⟩
   ·cases cy
  ·cases aa
 grind
 grind
theorem ag6{E:Env}(n:Nat)(aE:∀ t,n<=t->E t=none)(h:((List.range n).all λt=>match E t with
  |some i=>OB P t i| none=>true)=true):cX P E:=by
 intro t i hi;by_cases au:t<n
 ·have:=fV.1 h t (kx.2 au);rw[hi]at this;exact ag5 this
 grind
end Go.V
namespace Go.V
variable{a:Act}{c:Code}{foot:List Nat}{P:Program}{f off T sz h3 e n m fO cO en ev hj ly mz nE oK qm si uA xE Bk Gp:Nat}{args vs z:List Value}{v:Value}{w' w:World}{dst:Option Nat}{cs:Array Value}{ap:Nat×Nat}{R:Ending->World->Prop}{next:Act->World->Prop}{ad:Addr}{gw:IntKind}{other:Prop}{ops:List Oper}{sj:Fence}{Q:Exit->Act->World->Prop}{fn:Func}{soft hr:Bool}{op:Op}{dO:Array Bool}{A:Array Oper}{ι:Type}
def tl{F:Fr}:lA F [(fO,F fO),(cO,F cO)]:=.cons .refl (.cons .refl (.nil))
def e2{F:Fr}:lA F [(fO,F fO),(cO,F cO),(en,F en)]:=.cons .refl (.cons .refl (.cons .refl (.nil)))
def dS{F:Fr}:lA F [(fO,F fO),(cO,F cO),(en,F en),(ev,F ev)]:=.cons .refl (.cons .refl (.cons .refl (.cons .refl (.nil))))
def fh{F:Fr}:lA F [(fO,F fO),(cO,F cO),(en,F en),(ev,F ev),(hj,F hj)]:=.cons .refl (.cons .refl (.cons .refl (.cons .refl (.cons .refl (.nil)))))
def uF{F:Fr}:lA F [(fO,F fO),(cO,F cO),(en,F en),(ev,F ev),(hj,F hj),(ly,F ly)]:=.cons .refl (.cons .refl (.cons .refl (.cons .refl (.cons .refl (.cons .refl (.nil))))))
def pJ{F:Fr}:lA F [(fO,F fO),(cO,F cO),(en,F en),(ev,F ev),(hj,F hj),(ly,F ly),(mz,F mz)]:=.cons .refl (.cons .refl (.cons .refl (.cons .refl (.cons .refl (.cons .refl (.cons .refl (.nil)))))))
def kd{F:Fr}:lA F [(fO,F fO),(cO,F cO),(en,F en),(ev,F ev),(hj,F hj),(ly,F ly),(mz,F mz),(nE,F nE)]:=.cons .refl (.cons .refl (.cons .refl (.cons .refl (.cons .refl (.cons .refl (.cons .refl (.cons .refl (.nil))))))))
def l3{F:Fr}:lA F [(fO,F fO),(cO,F cO),(en,F en),(ev,F ev),(hj,F hj),(ly,F ly),(mz,F mz),(nE,F nE),(oK,F oK)]:=.cons .refl (.cons .refl (.cons .refl (.cons .refl (.cons .refl (.cons .refl (.cons .refl (.cons .refl (.cons .refl (.nil)))))))))
def OC{F:Fr}:lA F [(fO,F fO),(cO,F cO),(en,F en),(ev,F ev),(hj,F hj),(ly,F ly),(mz,F mz),(nE,F nE),(oK,F oK),(qm,F qm)]:=.cons .refl (.cons .refl (.cons .refl (.cons .refl (.cons .refl (.cons .refl (.cons .refl (.cons .refl (.cons .refl (.cons .refl (.nil))))))))))
def GI{F:Fr}:lA F [(fO,F fO),(cO,F cO),(en,F en),(ev,F ev),(hj,F hj),(ly,F ly),(mz,F mz),(nE,F nE),(oK,F oK),(qm,F qm),(si,F si)]:=.cons .refl (.cons .refl (.cons .refl (.cons .refl (.cons .refl (.cons .refl (.cons .refl (.cons .refl (.cons .refl (.cons .refl (.cons .refl (.nil)))))))))))
def awj{F:Fr}:lA F [(fO,F fO),(cO,F cO),(en,F en),(ev,F ev),(hj,F hj),(ly,F ly),(mz,F mz),(nE,F nE),(oK,F oK),(qm,F qm),(si,F si),(uA,F uA)]:=.cons .refl (.cons .refl (.cons .refl (.cons .refl (.cons .refl (.cons .refl (.cons .refl (.cons .refl (.cons .refl (.cons .refl (.cons .refl (.cons .refl (.nil))))))))))))
def VC{F:Fr}:lA F [(fO,F fO),(cO,F cO),(en,F en),(ev,F ev),(hj,F hj),(ly,F ly),(mz,F mz),(nE,F nE),(oK,F oK),(qm,F qm),(si,F si),(uA,F uA),(xE,F xE)]:=.cons .refl (.cons .refl (.cons .refl (.cons .refl (.cons .refl (.cons .refl (.cons .refl (.cons .refl (.cons .refl (.cons .refl (.cons .refl (.cons .refl (.cons .refl (.nil)))))))))))))
def GJ{F:Fr}:lA F [(fO,F fO),(cO,F cO),(en,F en),(ev,F ev),(hj,F hj),(ly,F ly),(mz,F mz),(nE,F nE),(oK,F oK),(qm,F qm),(si,F si),(uA,F uA),(xE,F xE),(Bk,F Bk)]:=.cons .refl (.cons .refl (.cons .refl (.cons .refl (.cons .refl (.cons .refl (.cons .refl (.cons .refl (.cons .refl (.cons .refl (.cons .refl (.cons .refl (.cons .refl (.cons .refl (.nil))))))))))))))
def ag7{F:Fr}:lA F [(fO,F fO),(cO,F cO),(en,F en),(ev,F ev),(hj,F hj),(ly,F ly),(mz,F mz),(nE,F nE),(oK,F oK),(qm,F qm),(si,F si),(uA,F uA),(xE,F xE),(Bk,F Bk),(Gp,F Gp)]:=.cons .refl (.cons .refl (.cons .refl (.cons .refl (.cons .refl (.cons .refl (.cons .refl (.cons .refl (.cons .refl (.cons .refl (.cons .refl (.cons .refl (.cons .refl (.cons .refl (.cons .refl (.nil)))))))))))))))
def awk{F:Fr}{VD:Nat}:lA F [(fO,F fO),(cO,F cO),(en,F en),(ev,F ev),(hj,F hj),(ly,F ly),(mz,F mz),(nE,F nE),(oK,F oK),(qm,F qm),(si,F si),(uA,F uA),(xE,F xE),(Bk,F Bk),(Gp,F Gp),(VD,F VD)]:=.cons .refl (.cons .refl (.cons .refl (.cons .refl (.cons .refl (.cons .refl (.cons .refl (.cons .refl (.cons .refl (.cons .refl (.cons .refl (.cons .refl (.cons .refl (.cons .refl (.cons .refl (.cons .refl (.nil))))))))))))))))
def DW:Op->Bool
 | .move _ | .assign _ | .pick .. | .unOp .. | .binOp .. | .load .. | .nilCheck _ | .fieldAddr .. | .field .. | .indexAddr .. | .index .. | .build .. | .makeFunc .. | .slice .. | .extract .. | .convert ..=>true| .call { callee:=.builtin .len,.. }=>true| .call { callee:=.builtin .cap,.. }=>true| .call { callee:=.builtin .max,.. }=>true| .call { callee:=.builtin .min,.. }=>true| .call { callee:=.builtin .unsafeSliceData,.. }=>true| _=>false
def qt:Op->Bool
 | .load ..=>true| _=>false
def GK(o:Oper)(p:Nat):Bool:=o.after.toList.all λe=>!Region.binds .any e||p.testBit e.on
def qu(ops:List Oper)(p:Nat)(k:Bool):List Nat:=(List.range ops.length).filter λi=>match ops[i]? with
 |some o=>!p.testBit i&&((DW o.op == k)&&GK o p)| none=>false
def Kg(a7:List Nat)(o:Oper):Nat:=o.after.toList.foldl (λs e=>bif Region.binds .any e then s ||| 2^e.on ||| a7.getD e.on 0 else s) 0
def lB(ops:List Oper):List Nat:=ops.foldl (λa7 o=>a7++[Kg a7 o]) []
def OD(P:Nat->Prop):List Nat->Prop
 |[]=>True| [i]=>P i| i::l=>P i/\OD P l
inductive er(soft:Bool)(foot:List Nat)(P:Program)(f:Nat)(args:List Value)(I:aI)(M:List aD)(K:Value->aI->List aD->Prop):Prop
 |mk(post:Value->aI->List aD->Prop)(aw:Spec P f args I [] post)(k:∀ v I' M',(∀ b o,I b=some o->I' b=some o)->post v I' M'->K v I' (M'++M))| oR (eE Mr:List aD) (post:Value->aI->List aD->Prop) (bd:M.Perm (eE++Mr)) (aw:Spec P f args I eE post) (wh:∀ v I' M',post v I' M'->∀ x∈eE,x∈M') (k:∀ v I' M',(∀ b o,I b=some o->I' b=some o)->post v I' M'->K v I' (M'++Mr))| DK (post:Value->aI->List aD->Prop) (aw:Spec P f args I [] post) (k:∀ v I' M',(∀ b o,I b=some o->I' b=some o)->(∀ x∈M'++M,I' x.num=none)->post v I' M'->K v I' (M'++M))| ag8 (eE Mr:List aD) (post:Value->aI->List aD->Prop) (bd:M.Perm (eE++Mr)) (aw:Spec P f args I eE post) (wh:∀ v I' M',post v I' M'->∀ x∈eE,x∈M') (k:∀ v I' M',(∀ b o,I b=some o->I' b=some o)->(∀ x∈M'++Mr,I' x.num=none)->post v I' M'->K v I' (M'++Mr))| OE (b:Nat) (o:Obj) (eE Mr:List aD) (post:Value->aI->List aD->Prop) (bd:M.Perm (⟨b,o⟩::(eE++Mr))) (aC:b ∉ foot) (aw:Spec P f args (ins I b o) eE post) (wh:∀ v I' M',post v I' M'->∀ x∈eE,x∈M') (k:∀ v I' M',(∀ c p,ins I b o c=some p->I' c=some p)->(∀ x∈M'++Mr,I' x.num=none)->post v I' M'->K v I' (M'++Mr))| v0 (h:mA I M->er soft foot P f args I M K)| uG (Kh:soft=true) (eE Mr:List aD) (post:Value->aI->List aD->Prop) (bd:M.Perm (eE++Mr)) (aw:Spec P f args I eE post) (k:∀ v I' M',(∀ b o,I b=some o->I' b=some o)->post v I' M'->K v I' (M'++Mr))
theorem er.elim{I:aI}{M:List aD}{K:Value->aI->List aD->Prop}(ew:mA I M)(h:er soft foot P f args I M K) :
  ∃ (I1:aI) (eE Mr:List aD) (post:Value->aI->List aD->Prop),h5 foot I M I1 (eE++Mr)/\(∀ b o,I b=some o->I1 b=some o)/\Spec P f args I1 eE post /\
   ∀ v I' M',(∀ b o,I1 b=some o->I' b=some o)->(∀ x∈M'++Mr,I' x.num=none)->post v I' M'->(soft=true\/∀ x∈M,I' x.num=some x.obj\/x∈M'++Mr)/\K v I' (M'++Mr):=by
 have awl:∀ {eE Mr:List aD} {post:Value->aI->List aD->Prop} {I':aI},M.Perm (eE++Mr)->(∀ v I' M',post v I' M'->∀ x∈eE,x∈M')->∀ v M',post v I' M'->∀ x∈M,I' x.num=some x.obj\/x∈M'++Mr:=λbd wh v M' ab x ae=>by
  grind
 induction h with
 |mk post aw k=>exact⟨I,[],M,post,.refl,am,aw,d6⟩| oR eE Mr post bd aw wh k=>exact⟨I,eE,Mr,post,.perm bd .refl,am,aw,d6⟩| DK post aw k=>exact⟨I,[],M,post,.refl,am,aw,d6⟩| ag8 eE Mr post bd aw wh k=>exact⟨I,eE,Mr,post,.perm bd .refl,am,aw,d6⟩
 |OE b o eE Mr post bd aC aw wh k=>
  have ah:I b=none:=ew.d ⟨b,o⟩ (bd.mem_iff.2 (.head _));have awm:ins I b o b=some o:=by unfold ins;simp
  refine⟨ins I b o,eE,Mr,post,.perm bd (.nG rfl aC .refl),λc p ar=>?_,aw,λv I' M' aa al ab=>⟨.inr λx ae=>?_,d6⟩⟩
  ·unfold ins;by_cases e:c=b
   grind
   ·rw[hT e];exact ar
  grind
 |v0 h aX=>grind| uG Kh eE Mr post bd aw k=>exact⟨I,eE,Mr,post,.perm bd .refl,am,aw,d6⟩
def Ki(ops:List Oper)(o:Oper)(F:Fr)(run skip:Fr->Prop):Prop:=
 match o.guard with
 |none=>run F
 |some (j,b)=>
  match(ops[j]?).bind (·.dst)with
  |none=>False
  |some d=>
   match F d with
   | .lit c=>bif c == b then run F else skip F| .val (.bool c)=>bZ c b (run (g0 F d (.lit b))) (skip (g0 F d (.lit !b)))| .val (.tuple _)=>skip F| _=>False
def VE(g5 p:Nat):Bool:=Nat.beq (p &&& g5) p
def ag9(ops:List Oper)(g5 p:Nat):Bool:=(List.range ops.length).all λq=>!p.testBit q||(g5.testBit q||match ops[q]? with
 |some o=>!qt o.op| none=>true)
inductive kZ(X:c3)(o:Oper)(F:Fr)(C:dB)(I:aI)(M:List aD)(K:dK->aI->List aD->Prop):Prop
 |mk (h:∀ β a w Q,cT X β a w F C I M->o.wpIn (hb X) 0 X.P a w (λbT w'=>∃ v x I' M',bT=a.put o.dst v/\fj β x v/\cT X β a w' F C I' M'/\K x I' M'/\I'=I) Q)
def wi(X:c3)(aha soft:Bool)(o:Oper)(F:Fr)(C:dB)(I:aI)(M:List aD)(K:gx):Prop:=
 bif aha then g1 X o F C I M K else
 match o.op with
 | .call { callee:=.value f,args,.. }=>
  match bI F f,mW F args.toList with
  | .val (.func (.func g) first cap),some vs=>er soft X.foot X.P g (first.toList++vs++cap.toList) I M λv I' M'=>K (put o.dst (.val v) F) C I' M'
  |_,_=>False
 | .alloc t=>
  match o.dst,X.E t with
  |some d,some i=>bN I M λb=>K (g0 F d (.val (.pointer (some ⟨b,0,none⟩)))) C I (⟨b,.cells i.zero.toArray t (0,0)⟩::M)
  |_,_=>False
 | .buildSlice _ _ _=>g1 X o F C I M K| .makeSlice _ _ _=>g1 X o F C I M K| .store _ _ _=>bif soft then g1 X o F C I M K else False| .call { callee:=.builtin .append,.. }=>bif soft then ∀ G:Fr,(∀ y∈o.op.operands,dG G y=dG F y)->kZ X o G C I M λx I' M'=>K (put o.dst x F) C I' M' else False
 | .call { callee:=.builtin .copy,.. }=>bif soft then ∀ G:Fr,(∀ y∈o.op.operands,dG G y=dG F y)->kZ X o G C I M λx I' M'=>K (put o.dst x F) C I' M' else False
 |_=>False
def Kj:dK->Nat
 | .ref s _=>s+1| _=>0
def GL(i:Nat)(op:Op)(ρ:Operand->dK)(cx:List (Nat×Nat)):List (Nat×Nat):=match op with
 | .load _ x=>(i,Kj (ρ x))::cx| _=>cx
def BB(g5 s:Nat):List (Nat×Nat)->Bool
 |[]=>true|(i,t)::cx=>(g5.testBit i || !Nat.beq s t)&&BB g5 s cx
theorem VF{g5 s i t:Nat}:∀ {cx:List (Nat×Nat)},BB g5 s cx=true->(i,t)∈cx->g5.testBit i=true\/t≠s
 |(j,u)::cx,h,hm=>by
  unfold BB at h;rw[cH,nD]at h;rcases ez.1 hm with e | hm
  ·cases e;rcases h.1 with aa | aa
   grind
   ·right
    rintro rfl;simp at aa
  ·exact VF h.2 hm
def VG(g5:Nat)(op:Op)(ρ:Operand->dK)(cx:List (Nat×Nat)):Bool:=match op with
 | .store _ x _=>(match ρ x with
  | .val (.pointer (some _))=>BB g5 0 cx| _=>false)
 | .call { callee:=.value _,.. }=>BB g5 0 cx| _=>false
def VH(g5:Nat)(op:Op)(ρ:Operand->dK)(cx:List (Nat×Nat)):Bool:=match op with
 | .store _ x _=>(match ρ x with
  | .ref s _=>BB g5 (s+1) cx| _=>false)
 |_=>false
def wj(hr:Bool)(M:List aD):List aD:=bif hr then []else M
def ahb{I:aI}{M:List aD}{b:Nat}{o:Obj}(h:ij I (wj hr M) b o):ij I M b o:=by
 cases hr with
 |false=>exact h
 |true=>
  rcases h with h | ⟨x,ae,_⟩;·exact .inl h
  ·cases ae
def VI{I I':aI}{M M':List aD}(h:∀ b o,ij I M b o->ij I' M' b o)(bu:∀ b o,I b=some o->I' b=some o):∀ b o,ij I (wj hr M) b o->ij I' (wj hr M') b o:=λb o ah=>by
 cases hr with
 |false=>exact h b o ah
 |true=>
  rcases ah with ah | ⟨x,ae,_⟩;·exact .inl (bu _ _ ah)
  ·cases ae
def ahc{I I':aI}{M M':List aD}(bu:∀ b o,I b=some o->I' b=some o):∀ b o,ij I (wj true M) b o->ij I' (wj true M') b o:=λb o ah=>by
 rcases ah with ah | ⟨x,ae,_⟩
 ·exact .inl (bu _ _ ah)
 ·cases ae
def VJ(X:c3)(hr:Bool)(op:Op)(ρ:Operand->dK)(C:dB)(I:aI)(M:List aD)(V:dK->Prop)(other:Prop):Prop:=match hr with
 |false=>cP X op ρ C I M V other| true=>cP X op ρ C I [] V other
def ahd{X:c3}{ρ:Operand->dK}{C:dB}{I:aI}{M:List aD}{V:dK->Prop}(h:VJ X hr op ρ C I M V other):cP X op ρ C I (wj hr M) V other:=by
 cases hr with
 |false=>exact h| true=>exact h
def ahe(ops:List Oper)(hr:Nat->Bool)(g5 p:Nat):Bool:=(List.range ops.length).all λq=>!p.testBit q||(g5.testBit q||(hr q||match ops[q]? with
 |some o=>!qt o.op| none=>true))
def VK(op:Op)(ρ:Operand->dK):Bool:=match op with
 | .store _ x _=>(match ρ x with
  | .val (.pointer (some _))=>true| _=>false)
 | .call { callee:=.builtin .append,.. }=>true| .call { callee:=.builtin .copy,.. }=>true| _=>false
def VL(ops:List Oper)(hr:Nat->Bool)(g5 p:Nat)(op:Op)(ρ:Operand->dK):Bool:=ahe ops hr g5 p&&VK op ρ
def oS(X:c3)(ops:List Oper)(hr:Nat->Bool):Nat->Nat->List (Nat×Nat)->Fr->dB->aI->List aD->gx->Prop
 |0,_,_,_,_,_,_,_=>False
 |n+1,p,cx,F,C,I,M,K=>
  match qu ops p true with
  |i::_=>
   (match ops[i]? with
   |some o=>Ki ops o F (λF=>VJ X (hr i) o.op (dG F) C I M (λx=>oS X ops hr n (p ||| 2^i) (GL i o.op (dG F) cx) (put o.dst x F) C I M K) False) (λF=>oS X ops hr n (p ||| 2^i) cx (put o.dst (.val undef) F) C I M K)| none=>False)
  |[]=>
   match qu ops p false with
   |[]=>K F C I M
   |i0::fJ=>OD (λi=>match ops[i]? with
     |some o=>Ki ops o F (λF=>wi X (VE ((lB ops).getD i 0) p) (ag9 ops ((lB ops).getD i 0) p||(VH ((lB ops).getD i 0) o.op (dG F) cx||(VG ((lB ops).getD i 0) o.op (dG F) cx||VL ops hr ((lB ops).getD i 0) p o.op (dG F)))) o F C I M λF C I M=>oS X ops hr n (p ||| 2^i) cx F C I M K) (λF=>oS X ops hr n (p ||| 2^i) cx (put o.dst (.val undef) F) C I M K)| none=>False) (i0::fJ)
def looks(ops:List Oper)(o:Oper):List Nat:=o.looksAt ops.toArray
def zq(ops:List Oper):Bool:=
 let b:=lB ops
 (List.range ops.length).all λj=>match ops[j]? with
  |none=>true
  |some nI=>
   (nI.after.toList.all λe=>!Region.binds .any e||Nat.blt e.on j) &&
   ((match nI.dst with
    |some d=>!(looks ops nI).contains d| none=>true) &&
   ((List.range ops.length).all (λi=>Nat.beq i j||match ops[i]? with
    |none=>true
    |some gQ=>match gQ.dst with
     |none=>true| some d=>!(nI.dst == some d)&&(!(looks ops nI).contains d||((b.getD j 0).testBit i||(b.getD i 0).testBit j)))))
def m0(ops:List Oper)(j e:Nat):Prop:=∃ o ht,ops[j]?=some o/\ht∈o.after/\Region.binds .any ht=true/\ht.on=e
inductive pK(ops:List Oper):Nat->Nat->Prop
 |one{i j}(h:m0 ops j i):pK ops i j| trans {i j k} (h:m0 ops j k) (bu:pK ops i k):pK ops i j
def BC(ops:List Oper)(S:Nat->Prop):Prop:=∀ j e,S j->m0 ops j e->S e
theorem pK.mem{S:Nat->Prop}(cQ:BC ops S){i j:Nat}(h:pK ops i j)(ai:∀ e,m0 ops j e->S e):S i:=by
 induction h with
 |one h=>grind| trans h _ aX=>exact aX λe he=>cQ _ e (ai _ h) he
theorem ahf{a7:List Nat}{o:Oper}{i:Nat}(h:(Kg a7 o).testBit i=true):∃ e∈o.after,Region.binds .any e=true/\(e.on=i\/(a7.getD e.on 0).testBit i=true):=by
 have key:∀ (l:List Edge) (s:Nat),(l.foldl (λs e=>bif Region.binds .any e then s ||| 2^e.on ||| a7.getD e.on 0 else s) s).testBit i=true->s.testBit i=true\/∃ e∈l,Region.binds .any e=true/\(e.on=i\/(a7.getD e.on 0).testBit i=true):=by
  intro l
  induction l with
  |nil=>simp
  |cons e l aX=>
   grind
 rcases key _ 0 h with aa | ⟨e,he,ab⟩
 grind
 grind
theorem VM(ops:List Oper):∀ (l:List Oper) (ba:List Oper) (a7:List Nat),ops=ba++l->a7.length=ba.length->(∀ j i,(a7.getD j 0).testBit i=true->pK ops i j) -> ∀ j i,((l.foldl (λa7 o=>a7++[Kg a7 o]) a7).getD j 0).testBit i=true->pK ops i j
 |[],ba,a7,_,_,m1=>m1
 |o::l,ba,a7,xP,c0,m1=>by
  simp only[kw];refine VM ops l (ba++[o]) _ (by simp[xP]) (by simp[c0]) ?_;intro j i h;by_cases ai:j<a7.length
  grind
  ·by_cases jT:j=a7.length
   ·subst jT;have bu:(Kg a7 o).testBit i=true:=by grind
    obtain⟨e,he,ah,ab⟩:=ahf bu;have aG:ops[a7.length]?=some o:=by grind
    have BD:m0 ops a7.length e.on:=⟨o,e,aG,he,ah,rfl⟩;rcases ab with rfl | ab;·exact .one BD
    ·exact .trans BD (m1 _ _ ab)
   grind
def zr{j i:Nat}(h:((lB ops).getD j 0).testBit i=true):pK ops i j:=
 VM ops ops [] [] rfl rfl am j i h
section
variable{X:c3}{C C':dB}{I I':aI}{M M':List aD}
def xQ{ρ jU:Operand->dK}:∀ {xs:List Operand},(∀ y∈xs,jU y=ρ y)->j9 jU xs=j9 ρ xs
 |[],_=>rfl| x::xs,h=>by have aa:=h x am;have ab:=xQ (xs:=xs) λy aF=>h y ayO;simp only[j9,dL,aa,ab]
theorem OF{ρ jU:Operand->dK}:∀ {xs:List (Nat×Operand)},(∀ y∈xs.map (·.2),jU y=ρ y)->tc jU xs=tc ρ xs
 |[],_=>rfl|(i,x)::xs,h=>by have aa:=h x am;have ab:=OF (xs:=xs) λy aF=>h y d6;simp only[tc,dL,aa,ab]
theorem VN{ρ jU:Operand->dK}{V:dK->Prop}(h:cP X op ρ C I M V False)(ji:∀ y∈op.operands,jU y=ρ y)
  (ay:∀ t x,op=.load t x->(∀ s off,ρ x=.ref s off->C' s=C s)/\((∀ s off,ρ x≠.ref s off)->∀ b o,ij I M b o->ij I' M' b o)):cP X op jU C' I' M' V False:=by
 cases op
 case load t x=>
  obtain⟨ar,af⟩:=ay t x rfl;have aa:=ji x co;simp only[cP,aa]at h |-;cases aQ:X.E t with
  |none=>grind
  |some i=>
   rw[aQ]at h
   try simp only at h |-
   cases ae:ρ x with
   |ref s off=>
    rw[ae]at h
    try simp only at h |-
    grind
   |val v=>
    rw[ae]at h
    try simp only at h |-
    split at h
    grind
    ·rename_i a e;cases e;obtain⟨vs,⟨ab,cs,T,ap,al,aL⟩,bB⟩:=h;exact⟨vs,⟨ab,cs,T,ap,d6,aL⟩,bB⟩
    omega
   |lit b=>grind| nF=>grind
 case build t ps=>
  have aa:=OF (ρ:=ρ) (jU:=jU) (xs:=ps.toList) λy aF=>ji y (by simpa[Op.operands]using aF);simp only[cP,aa]at h |-;exact h
 case makeFunc fn first captured=>
  have aa:=xQ (ρ:=ρ) (jU:=jU) (xs:=first.toList) λy aF=>ji y al';have ab:=xQ (ρ:=ρ) (jU:=jU) (xs:=captured.toList) λy aF=>ji y al';simp only[cP,aa,ab]at h |-;exact h
 case slice t x lo hi mx=>
  have aa:=ji x co;have ab:lo.map (dL jU)=lo.map (dL ρ):=by
   cases lo with
   |none=>rfl| some y=>have:=ji y co;simp[dL,this]
  have al:hi.map (dL jU)=hi.map (dL ρ):=by
   cases hi with
   |none=>rfl| some y=>have:=ji y co;simp[dL,this]
  have aL:mx.map (dL jU)=mx.map (dL ρ):=by
   cases mx with
   |none=>rfl| some y=>have:=ji y co;simp[dL,this]
  simp only[cP,ab,al,aL,dL,aa]at h |-;exact h
 case call c=>
  obtain⟨callee,args,argTypes⟩:=c;cases callee with
  |value f=>exact h| invoke r m=>exact h
  |builtin b=>
   cases b
   case len=>
    have aa:=xQ (ρ:=ρ) (jU:=jU) (xs:=args.toList) λy aF=>ji y lw;simp only[cP,aa]at h |-;exact h
   case cap=>
    have aa:=xQ (ρ:=ρ) (jU:=jU) (xs:=args.toList) λy aF=>ji y lw;simp only[cP,aa]at h |-;exact h
   case max=>
    have aa:=xQ (ρ:=ρ) (jU:=jU) (xs:=args.toList) λy aF=>ji y lw;simp only[cP,aa]at h |-;exact h
   case min=>
    have aa:=xQ (ρ:=ρ) (jU:=jU) (xs:=args.toList) λy aF=>ji y lw;simp only[cP,aa]at h |-;exact h
   case unsafeSliceData=>
    have aa:=xQ (ρ:=ρ) (jU:=jU) (xs:=args.toList) λy aF=>ji y lw;simp only[cP,aa]at h |-;exact h
   all_goals exact h
 all_goals first
  |exact h|(rename_i x;have aa:=ji x co;simp only[cP,dL,aa]at h |-;exact h)|(rename_i x y;have aa:=ji x co;have ab:=ji y co;simp only[cP,dL,aa,ab]at h |-;exact h)|(rename_i x y z;have aa:=ji x co;have ab:=ji y co;have al:=ji z co;simp only[cP,dL,aa,ab,al]at h |-;exact h)|(rename_i x y;have aa:=ji x co;simp only[cP,dL,aa]at h |-;exact h)|(rename_i x y;have aa:=ji y co;simp only[cP,dL,aa]at h |-;exact h)|(rename_i x y z;have aa:=ji x co;have ab:=ji y co;simp only[cP,dL,aa,ab]at h |-;exact h)|(rename_i x y z;have aa:=ji y co;have ab:=ji z co;simp only[cP,dL,aa,ab]at h |-;exact h)|(rename_i o x y z u;have aa:=ji y co;have ab:=ji z co;simp only[cP,dL,aa,ab]at h |-;exact h)|(rename_i x y z u;have aa:=ji z co;have ab:=ji y co;simp only[cP,dL,aa,ab]at h |-;exact h)
end
section
variable{X:c3}{C:dB}{I:aI}{M:List aD}
theorem ahg{op:BinOp}{dd:Option dV}{x y:dK}{V:Value->Prop}{O:Prop}(h:l0 op dd x y V O) :
  (∃ r,V r/\∀ rf,l0 op dd x y (λz=>z=r) rf)\/(O/\∀ (OG:Value->Prop) (rf:Prop),rf->l0 op dd x y OG rf):=by
 unfold l0 at h;split at h
 ·left
  split at h;·obtain⟨j,ai,⟨r,ag,af⟩⟩:=h;exact⟨_,af,λrf=>by unfold l0;exact⟨j,ai,⟨r,ag,rfl⟩⟩⟩
  ·obtain⟨j,ai,af⟩:=h;exact⟨_,af,λrf=>by unfold l0;exact⟨j,ai,rfl⟩⟩
  ·rename_i _ _ k a fI b _ gf qo;cases eR:IntKind.lZ k fI with
   |false=>grind
   |true=>
    rw[eR]at h;simp only[cD]at h;cases op<;>simp only at h
    case add=>obtain⟨r,ag,af⟩:=h;exact⟨_,af,λrf=>FS⟩
    case sub=>obtain⟨r,ag,af⟩:=h;exact⟨_,af,λrf=>FS⟩
    case mul=>obtain⟨r,ag,af⟩:=h;exact⟨_,af,λrf=>FS⟩
    case quo=>obtain⟨ax,⟨r,ag,af⟩⟩:=h;exact⟨_,af,λrf=>by simp only[l0,eR,cD];exact⟨ax,⟨r,ag,rfl⟩⟩⟩
    case rem=>obtain⟨ax,af⟩:=h;exact⟨_,af,λrf=>by simp only[l0,eR,cD];first | exact⟨ax,rfl⟩ | exact⟨ax,trivial⟩⟩
    case shl=>grind
    case shr=>grind
    all_goals exact⟨_,h,λrf=>by simp only[l0,eR,cD];rfl⟩
 ·cases op<;>first
  |exact .inl ⟨_,h,λ_=>rfl⟩| exact .inr ⟨h,λ_ _ aG=>aG⟩
 ·split at h
  ·cases op<;>first
   |exact .inl ⟨_,h,λ_=>rfl⟩| exact .inr ⟨h,λ_ _ aG=>aG⟩
  ·rename_i aE;refine .inr ⟨h,λOG rf aG=>?_⟩;cases dd with
   |none=>exact aG
   |some i=>
    obtain⟨s,b,z,bM⟩:=i;cases bM<;>first
     |exact aG| exact(aE _ _ _ rfl).elim
 ·rename_i aa ab al;refine .inr ⟨h,λOG rf aG=>?_⟩;unfold l0;split<;>first
   |exact aG| exact(aa _ _ _ _ rfl rfl).elim| exact(ab _ _ rfl rfl).elim| exact(al _ _ rfl rfl).elim
theorem ahh{ρ:Operand->dK}{V:dK->Prop}(h:cP X op ρ C I M V False):∃ x,V x/\cP X op ρ C I M (λy=>y=x) False:=by
 cases op
 case move x=>exact⟨_,h,rfl⟩
 case assign x=>exact⟨_,h,rfl⟩
 case pick c p q=>
  simp only[cP]at h |-
  grind
 case unOp op t x=>
  simp only[cP]at h |-;split at h
  grind
  grind
  ·obtain⟨r,ag,af⟩:=h;exact⟨_,af,⟨r,ag,rfl⟩⟩
  grind
 case binOp op t x y ty=>
  simp only[cP]at h |-;rcases ahg h with⟨r,aa,ab⟩ | ⟨⟨mX,gd,r,aK,aM,ag,af⟩ | aa,ab⟩;·refine⟨_,aa,?_⟩;simp_all
  ·exact⟨_,af,ab _ _ (.mk mX gd r aK aM ag rfl)⟩
  grind
 case load t x=>
  simp only[cP]at h |-;split at h
  ·split at h
   grind
   ·obtain⟨vs,ag,af⟩:=h;exact⟨_,af,⟨vs,ag,rfl⟩⟩
   grind
  grind
 case nilCheck x=>
  simp only[cP]at h |-
  grind
 case fieldAddr t x i=>
  simp only[cP]at h |-;split at h
  grind
  grind
 case field t x i=>
  simp only[cP]at h |-;split at h
  grind
  grind
 case indexAddr t x i=>
  simp only[cP]at h |-;split at h
  ·split at h
   ·obtain⟨ad,j,aa,ab,al,af⟩:=h;exact⟨_,af,⟨ad,j,aa,ab,al,rfl⟩⟩
   grind
  ·split at h
   ·obtain⟨j,ab,al,af⟩:=h;exact⟨_,af,⟨j,ab,al,rfl⟩⟩
   ·obtain⟨j,ab,al,af⟩:=h;exact⟨_,af,⟨j,ab,al,rfl⟩⟩
   grind
  grind
 case index t x i=>
  simp only[cP]at h |-;split at h;·obtain⟨j,ab,al,af⟩:=h;exact⟨_,af,⟨j,ab,al,rfl⟩⟩
  ·split at h
   ·rename_i n e cs gw k au ae hi _ aH hH;cases bg:Nat.beq (n*aH.size) cs.size with
    |false=>grind| true=>rw[bg]at h;obtain⟨j,ab,al,af⟩:=h;exact⟨_,af,⟨j,ab,al,rfl⟩⟩
   grind
  grind
 case build t ps=>
  simp only[cP]at h |-;split at h
  ·split at h
   grind
   grind
   grind
  grind
 case makeFunc fn first captured=>
  simp only[cP]at h |-
  grind
 case slice t x lo hi mx=>
  simp only[cP]at h |-;split at h
  ·split at h
   grind
   ·obtain⟨l,m,aa,ab,al,aL,af⟩:=h;exact⟨_,af,⟨l,m,aa,ab,al,aL,rfl⟩⟩
   ·obtain⟨l,m,aa,ab,al,aL,af⟩:=h;exact⟨_,af,⟨l,m,aa,ab,al,aL,rfl⟩⟩
   ·obtain⟨l,m,aa,ab,al,aL,af⟩:=h;exact⟨_,af,⟨l,m,aa,ab,al,aL,rfl⟩⟩
   grind
  ·split at h
   grind
   ·obtain⟨l,m,aa,ab,al,aL,af⟩:=h;exact⟨_,af,⟨l,m,aa,ab,al,aL,rfl⟩⟩
   ·obtain⟨l,m,aa,ab,al,aL,af⟩:=h;exact⟨_,af,⟨l,m,aa,ab,al,aL,rfl⟩⟩
   ·obtain⟨l,m,aa,ab,al,aL,af⟩:=h;exact⟨_,af,⟨l,m,aa,ab,al,aL,rfl⟩⟩
   grind
  ·split at h
   ·obtain⟨l,m,aa,ab,al,aL,af⟩:=h;exact⟨_,af,⟨l,m,aa,ab,al,aL,rfl⟩⟩
   grind
  grind
 case extract x i=>
  simp only[cP]at h |-
  grind
 case convert s d x=>
  simp only[cP]at h |-;split at h;·obtain⟨r,ag,af⟩:=h;exact⟨_,af,⟨r,ag,rfl⟩⟩
  grind
 case call c=>
  obtain⟨callee,args,argTypes⟩:=c;cases callee with
  |value f=>exact h.elim| invoke r m=>exact h.elim
  |builtin b=>
   cases b
   case len=>
    simp only[cP]at h |-
    grind
   case cap=>
    simp only[cP]at h |-
    grind
   case max=>
    simp only[cP]at h |-
    grind
   case min=>
    simp only[cP]at h |-
    grind
   case unsafeSliceData=>
    simp only[cP]at h |-;split at h
    grind
    ·obtain⟨aa,ab⟩:=h;exact⟨_,ab,⟨aa,rfl⟩⟩
    grind
   all_goals exact h.elim
 all_goals exact h.elim
end
def ij.mono{I I':aI}{M M':List aD}{b:Nat}{o:Obj}(h:ij I M b o)(bG:∀ b o,I b=some o->I' b=some o)(bd:∀ x∈M,x∈M'):ij I' M' b o:=by
 rcases h with h | ⟨x,ae,aa,ab⟩
 ·exact .inl (bG _ _ h)
 ·exact .inr ⟨x,bd x ae,aa,ab⟩
def ij.move{I I':aI}{M M':List aD}{b:Nat}{o:Obj}(h:ij I M b o)(bG:∀ b o,I b=some o->I' b=some o)(bd:∀ x∈M,I' x.num=some x.obj\/x∈M'):ij I' M' b o:=by
 rcases h with h | ⟨x,ae,rfl,rfl⟩
 ·exact .inl (bG _ _ h)
 ·rcases bd x ae with h | h
  ·exact .inl h
  ·exact .inr ⟨x,h,rfl,rfl⟩
def VO(F:Fr)(op:Op)(C C':dB)(I I':aI)(M M':List aD):Prop:=(∀ t x y s off,op=.store t x y->dG F x=.ref s off->((∀ cr,cr≠s->C' cr=C cr)/\∀ b o,I b=some o->I' b=some o)/\∀ b o,ij I M b o->ij I' M' b o)/\(∀ t x y ad,op=.store t x y->dG F x=.val (.pointer (some ad))->C'=C/\∀ b o,I b=some o->I' b=some o)/\((∀ t x y,op≠.store t x y)->C'=C/\∀ b o,I b=some o->I' b=some o)
def ahi(X:c3)(β:Nat->Nat)(G F:Fr)(C:dB)(I:aI)(M:List aD)(ahj:Bool)(op:Op)(dst:Option Nat)(a:Act)(K:gx)(bT:Act)(w':World):Prop:=
 ∃ v x C' I' M',bT=a.put dst v/\fj β x v/\cT X β a w' G C' I' M'/\K (put dst x F) C' I' M'/\((ahj=true/\VO F op C C' I I' M M')\/(C'=C/\(∀ b o,I b=some o->I' b=some o)/\∀ b o,ij I M b o->ij I' M' b o))
theorem ahk{X:c3}{β:Nat->Nat}{F G:Fr}{C:dB}{I:aI}{M:List aD}{o:Oper}{K:gx}(aQ:cX X.P X.E)
  (h:cT X β a w G C I M) (hc:∀ y∈o.op.operands,dG G y=dG F y) (an:wi X false soft o F C I M K):o.wpIn (hb X) 0 X.P a w (ahi X β G F C I M soft o.op o.dst a K) Q:=by
 obtain⟨dst,op,ty,pos,after,guard⟩:=o;have aC:=h.ap;have oT:∀ {y:Operand} {v:Value},y∈op.operands->bI F y=.val v->a.eval y=v:=fun {y v} aF he=>dt aC (by simp only[bI,dL,hc y aF];exact he);cases op
 case alloc t=>
  simp only[wi,cw]at an;split at an
  ·rename_i d i hi;obtain⟨z,bg,DP⟩:=(aQ _ _ hi).Gt w;have DQ:z.cells=i.zero.toArray:=by grind
   obtain⟨an⟩:=an;have af:=an w.heap.size h.holds.sm h.holds.q7;refine iQ am (v:=.pointer (some ⟨w.heap.size,0,none⟩)) (w':=w.alloc (.cells i.zero.toArray t (0,0))) ?_ ⟨_,.val _,_,_,_,rfl,rfl,h.n' _,af,.inr ⟨rfl,am,λb o ah=>ah.mono am d6⟩⟩;simp[execOp,Instr.alloc,newVar,newRow,bg,DQ]
  grind
 case store t x y=>
  simp only[wi,cw]at an;cases soft with
  |false=>exact an.elim
  |true=>
   simp only[cD,g1]at an;split at an
   ·rename_i i v hi aF;have ti:=oT co aF;split at an
    ·rename_i s off ae;have kz:=Bn aC ((hc x co).trans ae);split at an
     ·rename_i cs aw;cases bo:(Nat.ble (off+i.size) cs.length&&(Nat.beq v.cells.size i.size&&fG v.cells.toList))with
      |false=>grind| true=>rw[bo]at an;simp only[cH]at bo;obtain⟨bo,dy,oQ⟩:=bo;have g3:=bJ bo;have Bv:=ei dy;obtain⟨T,bm⟩:=(h.cx s cs aw).bF;have:=J9 (aQ _ _ hi) (a:=⟨β s,off,none⟩) (v:=v) rfl bm Bv d7 oQ;refine DL am (w':=w.setRow (β s) (cp cs off v.cells.toList).toArray) ?_ ⟨undef,.nF,_,_,_,rfl,trivial,h.Vm aw (cp cs off v.cells.toList),an,.inl ⟨rfl,λbe mD OH cr Oo aN bc=>(by cases aN;rw[ae]at bc;cases bc;refine⟨⟨λs2 bH=>?_,am⟩,am⟩;unfold jC;rw[hT bH];rfl),d6,am⟩⟩;simp only[execOp,Instr.storeAt,kz,ti,Instr.sureAddr,cz,dn,cd];simp_all
     grind
    ·rename_i ad ae;have kz:=uD aC ((hc x co).trans ae);cases dy:Nat.beq v.cells.size i.size with
     |false=>grind| true=>rw[dy]at an;obtain⟨ba,post,cs,T,bd,de,ah,oQ,af⟩:=an;have Bv:=ei dy;have az:w.heap[ad.block]?=some (.cells cs T (0,0)):=h.holds.m ⟨ad.block,.cells cs T (0,0)⟩ d6;have:=J9 (aQ _ _ hi) (v:=v) de az Bv ah oQ;refine DL am (w':=w.setRow ad.block (cp cs.toList ad.off v.cells.toList).toArray) ?_ ⟨undef,.nF,_,_,_,rfl,trivial,h.xK bd,af,.inl ⟨rfl,d6,am,am⟩⟩;simp only[execOp,Instr.storeAt,kz,ti,Instr.sureAddr,cz,dn,cd];simp_all
    grind
   grind
 case buildSlice t len parts=>
  simp only[wi,cw,g1]at an;have ahl:Bm G parts.toList=Bm F parts.toList:=OF λy aF=>hc y (by simpa[Op.operands]using aF);rw[<-ahl]at an;split at an
  ·rename_i sz h3 z e vs au je;have hu:=(aQ _ _ au).slice;have aK:=J6 aC je;have zj:(parts.map λ(i,x)=>(i,a.eval x)).toList=vs:=by simpa using aK
   split at an
   ·rename_i aH hH;cases bg:(Nat.ble (len*aH.size) 16777216&&Nat.blt 0 (len*aH.size))with
    |false=>
     rw[bg]at an;simp only[cw]at an;split at an
     ·rename_i agR;obtain⟨an⟩:=an;have af:=an w.heap.size h.holds.sm h.holds.q7;refine iQ am (v:=.slice (some ⟨w.heap.size,0,none⟩) 0 0) (w':=w.alloc (.cells #[] e (0,0))) ?_ ⟨_,.val _,_,_,_,rfl,rfl,h.n' _,af,.inr ⟨rfl,am,λb o ah=>ah.mono am d6⟩⟩;simp only[execOp,Instr.buildSlice,cz,cd,run_underlying hu,(aQ _ _ hH).run_sizeOf,zj];have dC:∀ f:Nat->Value,Array.map f (Array.range 0)=#[]:=λf=>by apply Array.ext<;>simp
      simp[newRow,Instr.fill,dC]
     grind
    |true=>
     rw[bg]at an;simp only[cD]at an;rw[cH]at bg;have bo:=bJ bg.1;have kB:0<len*aH.size:=by simpa using bg.2
     split at an;·rename_i cells Bp;obtain⟨tj,Bw,DP⟩:=(aQ _ _ hH).Gt w;obtain⟨an⟩:=an;have af:=an w.heap.size h.holds.sm h.holds.q7;refine iQ am (v:=.slice (some ⟨w.heap.size,0,none⟩) len len) (w':=w.alloc (.cells cells.toArray e (0,0))) ?_ ⟨_,.val _,_,_,_,rfl,rfl,h.n' _,af,.inr ⟨rfl,am,λb o ah=>ah.mono am d6⟩⟩;have xM:=fill_eq _ _ _ _ Bp;simp only[execOp,Instr.buildSlice,cz,cd,run_underlying hu,(aQ _ _ hH).run_sizeOf];rw[bK Z];simp only[bK (show ¬ len*aH.size=0 by omega),cz,Bw,cd,dn,zj,Vt tj aH.zero DP,xM];simp[newRow,World.alloc_eq]
     grind
   grind
  grind
 case makeSlice t l c=>
  simp only[wi,cw,g1]at an;split at an
  ·rename_i sz h3 z e ff e' b5 c' au ay ar;have hu:=(aQ _ _ au).slice;have ra:=oT co ay;have zs:=oT co ar;split at an
   ·rename_i aH hH;obtain⟨n,m,rfl,rfl,kY,ah,hm,⟨an⟩⟩:=an;have af:=an w.heap.size h.holds.sm h.holds.q7;obtain⟨inf,tj,fp,hs,h8,j',Bx⟩:=(aQ _ _ hH).inf;refine iQ am (v:=.slice (some ⟨w.heap.size,0,none⟩) n m) (w':=w.alloc (.cells (rowOf aH.zero (m*aH.size)).toArray e (0,0))) ?_ ⟨_,.val _,_,_,_,rfl,rfl,h.n' _,af,.inr ⟨rfl,am,λb o ah=>ah.mono am d6⟩⟩;have iR:((aH.bytes:Nat):Int)*(m:Int)<=281474976710656:=by omega
    have:=run_make (P:=X.P) w t e inf tj hu fp j' ff b5 (n:Int) (m:Int) Z Z d6 Z;simp only[execOp,ra,zs,cz,this,cd,dn,h2];have aN:madeCells tj.cells (m*inf.size)=(rowOf aH.zero (m*aH.size)).toArray:=by rw[hs,<-Bx];simp[td]
    rw[aN]
   grind
  grind
 case call c=>
  obtain⟨callee,args,argTypes⟩:=c;cases callee with
  |value f=>
   simp only[wi,cw]at an;split at an
   ·rename_i g first cap vs zk je
    have ahm:mW G args.toList=some vs:=by rw[<-je];exact xQ λy aF=>hc y (by simp only[Op.operands,Call.operands];grind)
    have ahn:=oT d9 zk;obtain⟨I1,eE,Mr,post,aho,di,aw,af⟩:=an.elim ⟨h.holds.d,h.holds.bO⟩;have aN:=tf aC ahm;have eA:args.map a.eval=vs.toArray:=by grind
    have fk:∀ {n:Next} {w':World},(callFunc g (first.toList++vs++cap.toList).toArray).run X.P w=.ok n w'->(execOp a.eval ⟨dst,.call { callee:=.value f,args,argTypes },ty,pos,after,guard⟩).run X.P w=.ok n w':=λag=>by simp only[execOp,resolve,ahn,Deferred.ofValue,cz,dn,cd,eA,invoke];rw[show first++vs.toArray++cap=(first.toList++vs++cap.toList).toArray from by simp];exact ag
    have Kk:∀ {I':aI} {M':List aD},(∀ b o,I b=some o->I' b=some o)->(soft=true\/∀ x∈M,I' x.num=some x.obj\/x∈M')->(soft=true/\VO F (.call { callee:=.value f,args,argTypes }) C C I I' M M')\/(C=C/\(∀ b o,I b=some o->I' b=some o)/\∀ b o,ij I M b o->ij I' M' b o):=λaa ab=>by
     rcases ab with ab | ab;·exact .inl ⟨ab,⟨am,am,d6⟩⟩
     ·exact .inr ⟨rfl,aa,λb o ah=>ah.move aa ab⟩
    rcases h.call (KC:=λv I' M'=>(∀ b o,I b=some o->I' b=some o)/\(soft=true\/∀ x∈M,I' x.num=some x.obj\/x∈M')/\K (Go.V.put dst (.val v) F) C I' M') (.xF I1 eE Mr post aho aw λv I' M' bo aj aK=>⟨d6,d6,d6⟩)with⟨qp,By⟩ | ⟨v,w',I',M',ag,⟨aa,ab,af⟩,g4⟩;·refine Vs am (f:=g) (args:=(first.toList++vs++cap.toList).toArray) (fk (qp _ _)) ?_;refine By.mono ?_;rintro e w'⟨v,I',M',rfl,⟨aa,ab,af⟩,ag⟩;exact⟨v,rfl,v,.val v,C,I',M',rfl,rfl,ag,af,Kk aa ab⟩
    ·exact iQ am (fk ag) ⟨v,.val v,C,I',M',rfl,rfl,g4,af,Kk aa ab⟩
   grind
  |invoke r m=>exact an.elim
  |builtin b=>
   cases b
   case append=>
    simp only[wi,cw]at an;cases soft with
    |false=>exact an.elim| true=>simp only[cD]at an;obtain⟨an⟩:=an G hc;refine s' (λbT w'=>?_) (an β a w Q h);rintro⟨v,x,I',M',aa,ab,al,aL,ahp⟩;exact⟨v,x,C,I',M',aa,ab,al,aL,.inl ⟨rfl,⟨am,am,d6⟩⟩⟩
   case copy=>
    simp only[wi,cw]at an;cases soft with
    |false=>exact an.elim| true=>simp only[cD]at an;obtain⟨an⟩:=an G hc;refine s' (λbT w'=>?_) (an β a w Q h);rintro⟨v,x,I',M',aa,ab,al,aL,ahp⟩;exact⟨v,x,C,I',M',aa,ab,al,aL,.inl ⟨rfl,⟨am,am,d6⟩⟩⟩
   all_goals exact an.elim
 all_goals exact an.elim
def tm(x y:dK):Prop:=∀ β u,fj β x u->fj β y u
def tm.refl(x:dK):tm x x:=λ_ _ h=>h
def tm.trans{x y z:dK}(h:tm x y)(bu:tm y z):tm x z:=fun β u hu=>bu β u (h β u hu)
structure wk(ops:List Oper):Prop where
 lt:∀ j e,m0 ops j e->e<j
 own:∀ (j:Nat) (o:Oper) (d:Nat),ops[j]?=some o->o.dst=some d->d ∉ looks ops o
 OI:∀ (i j:Nat) (gQ nI:Oper) (d:Nat),i≠j->ops[i]?=some gQ->ops[j]?=some nI->gQ.dst=some d->nI.dst≠some d
 ord:∀ (i j:Nat) (gQ nI:Oper) (d:Nat),i≠j->ops[i]?=some gQ->ops[j]?=some nI->gQ.dst=some d->d∈looks ops nI->pK ops i j\/pK ops j i
theorem VP(h:zq ops=true):wk ops:=by
 have key:∀ (j:Nat) (nI:Oper),ops[j]?=some nI->_:=λj nI ai=>by have aV:j<ops.length:=(jd.1 ai).1;have aa:=fV.1 h j (kx.2 aV);simp only[ai,cH]at aa;exact aa
 refine⟨?_,?_,?_,?_⟩
 ·rintro j e⟨o,ht,aG,wm,ah,rfl⟩;have aa:=fV.1 (key j o aG).1 ht d6;simp_all
 grind
 ·intro i j gQ nI d bH hi ai aj fW;have aV:i<ops.length:=(jd.1 hi).1;have aa:=fV.1 (key j nI ai).2.2 i (kx.2 aV);simp_all
 ·intro i j gQ nI d bH hi ai aj ay;have aV:i<ops.length:=(jd.1 hi).1;have aa:=fV.1 (key j nI ai).2.2 i (kx.2 aV);rw[hT bH]at aa;simp only[hi,aj,zg,cH,nD]at aa;rcases aa.2 with ab | ab | ab
  grind
  ·exact .inl (zr ab)
  ·exact .inr (zr ab)
def jj(ops:List Oper)(i:Nat):Option Nat:=(ops[i]?).bind (·.dst)
def k0(L:Nat->Prop)(p i:Nat):Prop:=p.testBit i=true/\¬ L i
def zt(ops:List Oper)(o:Oper)(F:Fr):Prop:=match o.guard with
 |none=>True| some (j,b)=>∃ d,jj ops j=some d/\F d=.lit b
def Kl(ops:List Oper)(o:Oper)(F:Fr):Prop:=∃ j b d,o.guard=some (j,b)/\jj ops j=some d/\(F d=.lit (!b)\/∃ vs,F d=.val (.tuple vs))
def OJ{o:Oper}{j d:Nat}{b:Bool}(az:o.guard=some (j,b))(aj:jj ops j=some d):d∈looks ops o:=by unfold looks Oper.looksAt;refine sf _ ?_;rw[az];simp only[Option.mem_toList];simpa[jj]using aj
theorem OK{o:Oper}{t:Nat}(h:Operand.tmp t∈o.op.operands):t∈looks ops o:=
 iy _ (List.mem_filterMap.2 ⟨.tmp t,d6,rfl⟩)
def VQ{o:Oper}{F:Fr}{β:Nat->Nat}(h:zt ops o F)(bC:∀ t∈looks ops o,fj β (F t) (a.tmps.getD t undef)):Region.wanted o (yielded ops.toArray a.tmps)=true:=by
 unfold zt at h;unfold Region.wanted;cases az:o.guard with
 |none=>rfl| some Gx=>obtain⟨j,b⟩:=Gx;rw[az]at h;obtain⟨d,aj,ay⟩:=h;have aa:=bC d (OJ az aj);rw[ay]at aa;have aF:=Gw (ops:=ops.toArray) (j:=j) (d:=d) (by simpa[jj]using aj) a.tmps;simp[aF,DT aa]
theorem VR{o:Oper}{F:Fr}{β:Nat->Nat}(h:Kl ops o F)(bC:∀ t∈looks ops o,fj β (F t) (a.tmps.getD t undef)):Region.wanted o (yielded ops.toArray a.tmps)=false:=by
 obtain⟨j,b,d,az,aj,ay⟩:=h;unfold Region.wanted;have aa:=bC d (OJ az aj);have aF:=Gw (ops:=ops.toArray) (j:=j) (d:=d) (by simpa[jj]using aj) a.tmps;rw[az];rcases ay with ay | ⟨vs,ay⟩
 ·rw[ay]at aa;simp[aF,DT aa]
 ·rw[ay]at aa;have v9:yielded ops.toArray a.tmps j=none:=by
   rw[aF];cases jF:a.tmps[d]? with
   |none=>rfl
   |some v=>
    simp only[fj,ql,jF,kX]at aa
    grind
  grind
theorem VS{o:Oper}{F:Fr}{run skip:Fr->Prop}(h:Ki ops o F run skip):∃ lC,(∀ t,tm (F t) (lC t))/\((zt ops o lC/\run lC)\/(Kl ops o lC/\skip lC)):=by
 unfold Ki at h;cases az:o.guard with
 |none=>rw[az]at h;exact⟨F,λt=>.refl _,.inl ⟨by simp[zt,az],h⟩⟩
 |some Gx=>
  obtain⟨j,b⟩:=Gx;rw[az]at h;simp only at h;split at h
  grind
  ·rename_i d aj;have fW:jj ops j=some d:=aj;split at h
   ·rename_i c ar;refine⟨F,λt=>.refl _,?_⟩;cases l1:(c == b)with
    |true=>
     rw[l1]at h;have l1:c=b:=by grind
     subst l1;exact .inl ⟨by simp only[zt,az];grind,h⟩
    |false=>
     rw[l1]at h;have Km:c=!b:=by cases c<;>cases b<;>simp_all
     subst Km;exact .inr ⟨⟨j,b,d,az,fW,.inl ar⟩,h⟩
   ·rename_i c ar;obtain⟨aa,ab⟩:=h;have hr:∀ x,c=x->∀ t,tm (F t) (g0 F d (.lit x) t):=λx ae t=>by
     unfold g0;by_cases e:t=d;·subst e;subst ae;simp only[te,cD,ar];exact λ_ _ h=>h
     ·simp only[hT e,cw];exact .refl _
    have self:∀ x,g0 F d (.lit x) d=.lit x:=λx=>by simp[g0]
    by_cases l1:c=b;·exact⟨_,hr b l1,.inl ⟨by simp only[zt,az];grind,aa l1⟩⟩
    ·have Km:c=!b:=by cases c<;>cases b<;>simp_all
     exact⟨_,hr _ Km,.inr ⟨⟨j,b,d,az,fW,.inl (self _)⟩,ab Km⟩⟩
   ·rename_i vs ar;exact⟨F,λt=>.refl _,.inr ⟨⟨j,b,d,az,fW,d6⟩,h⟩⟩
   grind
structure ahq(X:c3)(ops:List Oper)(im':Nat->Bool)(L:Nat->Prop)(p:Nat)(cx:List (Nat×Nat))(β:Nat->Nat)(a:Act)(F:Fr)(C:dB)(I:aI)(M:List aD)(hV:Nat->dK)(g6:Nat->Fr)(q:Nat)(o:Oper):Prop where
 quiet:DW o.op=true
 hr:∀ d,o.dst=some d->tm (hV q) (F d)
 b:∀ t∈looks ops o,∀ i,k0 L p i->pK ops i q->jj ops i=some t->tm (hV i) (g6 q t)
 a:∀ t∈looks ops o,(∀ i,k0 L p i->pK ops i q->jj ops i≠some t)->fj β (g6 q t) (a.tmps.getD t undef)
 r:(zt ops o (g6 q)/\cP X o.op (dG (g6 q)) C I (wj (im' q) M) (λx=>x=hV q) False/\∀ t x,o.op=.load t x->(q,Kj (dG (g6 q) x))∈cx)\/(Kl ops o (g6 q)/\hV q=.val undef)
structure Inv(X:c3)(ops:List Oper)(im':Nat->Bool)(L:Nat->Prop)(β:Nat->Nat)(a:Act)(w:World)(F:Fr)(C:dB)(I:aI)(M:List aD)(p:Nat)(cx:List (Nat×Nat))(hV:Nat->dK)(g6:Nat->Fr):Prop where
 rel:cT X β a w (λ_=>.nF) C I M
 sub:∀ i,L i->p.testBit i=true
 wo:BC ops L
 rh:BC ops (λi=>p.testBit i=true)
 T:∀ t,(∀ i,k0 L p i->jj ops i≠some t)->fj β (F t) (a.tmps.getD t undef)
 zu:∀ q,k0 L p q->∃ o,ops[q]?=some o/\ahq X ops im' L p cx β a F C I M hV g6 q o
theorem pL{p q i:Nat}:(p ||| 2^q).testBit i=true ↔ p.testBit i=true\/i=q:=by
 grind
section
variable{X:c3}{ops:List Oper}{im':Nat->Bool}{L:Nat->Prop}{β:Nat->Nat}{a:Act}{w:World}{F:Fr}{C:dB}{I:aI}{M:List aD}{p:Nat}{cx:List (Nat×Nat)}{hV:Nat->dK}{g6:Nat->Fr}{q:Nat}{o:Oper}
def GM(h:ops[q]?=some o):jj ops q=o.dst:=by simp[jj,h]
theorem GN{i d:Nat}(h:jj ops i=some d):∃ gQ,ops[i]?=some gQ/\gQ.dst=some d:=by
 unfold jj at h
 grind
theorem Inv.ahead(dH:wk ops)(VT:BC ops (λi=>p.testBit i=true))(aM:ops[q]?=some o)(qv:p.testBit q=false){i t:Nat}(hi:p.testBit i=true)(au:t∈looks ops o)(aj:jj ops i=some t):pK ops i q:=by
 obtain⟨gQ,im,st⟩:=GN aj;have bH:i≠q:=λe=>by grind
 rcases dH.ord i q gQ o t bH im aM st au with h | h
 ·exact h
 ·have:=h.mem VT (λe he=>VT i e hi he)
  grind
def Inv.ahr(dH:wk ops)(h:Inv X ops im' L β a w F C I M p cx hV g6)(aM:ops[q]?=some o)(qv:p.testBit q=false)(bj:∀ e,m0 ops q e->L e):∀ t∈looks ops o,fj β (F t) (a.tmps.getD t undef):=λt au=>h.T t λi hi aj=>
 hi.2 ((Inv.ahead dH h.rh aM qv hi.1 au aj).mem h.wo bj)
def Kn{x:dK}{t:Nat}(h:dst≠some t):put dst x F t=F t:=by
 cases dst with
 |none=>rfl| some d=>have:t≠d:=λe=>h (by rw[e]);simp only[put,g0,hT this,cw]
def put_eq{x:dK}{t:Nat}:put (some t) x F t=x:=by simp[put,g0]
def Ko{t:Nat}(h:dst≠some t):(a.put dst v).tmps.getD t undef=a.tmps.getD t undef:=by
 cases dst with
 |none=>rfl| some d=>have:d≠t:=λe=>h (by rw[e]);simp only[Act.put,ql,Gj,bK this]
def OL{t:Nat}(h:t<a.tmps.size):(a.put (some t) v).tmps.getD t undef=v:=by rw[Vi a t t v h,bY rfl]
theorem Inv.record(dH:wk ops)(h:Inv X ops im' L β a w F C I M p cx hV g6)(aM:ops[q]?=some o)(qv:p.testBit q=false)(BD:∀ e,m0 ops q e->p.testBit e=true)(Kp:DW o.op=true)
  {lC:Fr} (tn:∀ t,tm (F t) (lC t)) {x:dK} {OM:List (Nat×Nat)} (we:∀ s∈cx,s∈OM) (ag:(zt ops o lC/\cP X o.op (dG lC) C I (wj (im' q) M) (λy=>y=x) False/\∀ t y,o.op=.load t y->(q,Kj (dG lC y))∈OM)\/(Kl ops o lC/\x=.val undef)) :
  Inv X ops im' L β a w (put o.dst x lC) C I M (p ||| 2^q) OM (λi=>if i=q then x else hV i) (λi=>if i=q then lC else g6 i):=by
 have ri:¬ L q:=λe=>by have:=h.sub q e;grind
 have rj:∀ {i},k0 L (p ||| 2^q) i->i≠q->k0 L p i:=λhi bH=>⟨(pL.1 hi.1).resolve_right bH,hi.2⟩;have BE:∀ {i},k0 L p i->k0 L (p ||| 2^q) i:=λhi=>⟨pL.2 (.inl hi.1),hi.2⟩;have ahs:k0 L (p ||| 2^q) q:=⟨pL.2 (.inr rfl),ri⟩;have awn:∀ {i},k0 L p i->¬ pK ops q i:=fun {i} hi ah=>by
  have:=ah.mem h.rh (λe he=>h.rh i e hi.1 he)
  grind
 refine⟨h.rel,λi hi=>pL.2 (.inl (h.sub i hi)),h.wo,?_,?_,?_⟩
 ·intro j e ai he;rcases pL.1 ai with ai | rfl
  ·exact pL.2 (.inl (h.rh j e ai he))
  grind
 ·intro t au;have aa:o.dst≠some t:=λe=>au q ahs (by rw[GM aM,e]);rw[Kn aa];exact tn t _ _ (h.T t λi hi=>au i (BE hi))
 ·intro i hi;by_cases rk:i=q
  ·subst rk;refine⟨o,aM,⟨Kp,?_,?_,?_,?_⟩⟩
   ·intro d aj;rw[aj,put_eq];simp only[bY];exact .refl _
   ·intro t au j ai ah zv;have Kq:j≠i:=λe=>by
     subst e;have:=ah.mem h.rh BD
     grind
    simp only[bK Kq,bY];obtain⟨nI,aht,m3⟩:=h.zu j (rj ai Kq);exact(m3.hr t (by rw[<-GM aht];exact zv)).trans (tn t)
   ·intro t au eV;simp only[bY];refine tn t _ _ (h.T t λj ai zv=>eV j (BE ai) (Inv.ahead dH h.rh aM qv ai.1 au zv) zv)
   grind
  ·obtain⟨gQ,im,m3⟩:=h.zu i (rj hi rk);refine⟨gQ,im,⟨m3.quiet,?_,?_,?_,?_⟩⟩
   ·intro d aj;simp only[bK rk];rw[Kn (dH.OI i q gQ o d rk im aM aj)];exact(m3.hr d aj).trans (tn d)
   ·intro t au j ai ah zv;have Kr:j≠q:=λe=>by grind
    simp only[bK rk,bK Kr];exact m3.b t au j (rj ai Kr) ah zv
   ·intro t au eV;simp only[bK rk];exact m3.a t au λj ai=>eV j (BE ai)
   ·simp only[bK rk];exact m3.r.imp d6 id
theorem Inv.exec{nH:Act->World->Prop}(aQ:cX X.P X.E)(dH:wk ops)(jE:∀ d,o.dst=some d->d<X.n)(h:Inv X ops im' L β a w F C I M p cx hV g6)(aM:ops[q]?=some o)(aK:k0 L p q)(bj:∀ e,m0 ops q e->L e)
  (c7:∀ bT,Inv X ops im' (λi=>L i\/i=q) β bT w F C I M p cx hV g6->nH bT w):wpOpIn (hb X) 0 X.P ops.toArray Q q nH a w:=by
 obtain⟨o',wq,m3⟩:=h.zu q aK;rw[aM]at wq;cases wq;have VU:∀ {i},pK ops i q->¬ k0 L p i:=λah hi=>hi.2 (ah.mem h.wo bj);have dz:∀ t∈looks ops o,fj β (g6 q t) (a.tmps.getD t undef):=λt au=>m3.a t au λi hi ah=>(VU ah hi).elim;have after:∀ v,fj β (hV q) v->Inv X ops im' (λi=>L i\/i=q) β (a.put o.dst v) w F C I M p cx hV g6:=λv an=>by
  have rj:∀ {i},k0 (λi=>L i\/i=q) p i->k0 L p i/\i≠q:=λhi=>⟨⟨hi.1,λe=>hi.2 (.inl e)⟩,λe=>hi.2 (.inr e)⟩;have BE:∀ {i},k0 L p i->i≠q->k0 (λi=>L i\/i=q) p i:=λhi bH=>⟨hi.1,λe=>e.elim hi.2 bH⟩;refine⟨h.rel.put jE (x:=.nF) trivial |> λh=>h.refine λ_=>trivial,?_,?_,h.rh,?_,?_⟩
  ·rintro i (hi | rfl)
   ·exact h.sub i hi
   ·exact aK.1
  ·rintro j e (ai | rfl) he
   ·exact .inl (h.wo j e ai he)
   grind
  ·intro t au;by_cases aj:o.dst=some t
   ·have aV:t<a.tmps.size:=by rw[h.rel.size];grind
    rw[aj,OL aV];exact m3.hr t aj _ _ an
   ·rw[Ko aj];refine h.T t λi hi st=>?_;by_cases rk:i=q
    ·subst rk;rw[GM aM]at st;grind
    grind
  ·intro i hi;obtain⟨ck,rk⟩:=rj hi;obtain⟨gQ,im,su⟩:=h.zu i ck;refine⟨gQ,im,⟨su.quiet,su.hr,λt au j ai=>su.b t au j (rj ai).1,?_,su.r⟩⟩;intro t au eV;by_cases aj:o.dst=some t
   ·have aV:t<a.tmps.size:=by rw[h.rel.size];grind
    rw[aj,OL aV];have ah:pK ops q i:=by
     rcases dH.ord q i o gQ t (sh rk) aM im aj au with ah | ah;·exact ah
     grind
    exact su.b t au q aK ah (by rw[GM aM,aj]) _ _ an
   ·rw[Ko aj];refine su.a t au λj ai ah zv=>?_;by_cases Kr:j=q
    ·subst Kr;rw[GM aM]at zv;grind
    grind
 have zw:ops.toArray[q]?=some o:=by grind
 unfold wpOpIn;simp only[zw];rcases m3.r with⟨fk,VV,-⟩ | ⟨Ks,ae⟩
 ·rw[VQ fk dz,bY rfl];let G:Fr:=λt=>if t∈looks ops o then g6 q t else .nF
  have hc:∀ t,fj β (G t) (a.tmps.getD t undef):=λt=>by
   by_cases au:t∈looks ops o
   grind
   ·simp only[G,bK au];trivial
  have ON:∀ y∈o.op.operands,dG G y=dG (g6 q) y:=λy aF=>by
   cases y with
   |tmp t=>simp only[dG,G,bY (OK aF)]| const v=>cases v<;>rfl
   |global g=>rfl| func f=>rfl
  have ahu:=VN VV ON (C':=C) (I':=I) (M':=M) λ_ _ _=>⟨am,λ_ _ _ h=>ahb h⟩;obtain⟨dst,op,ty,pos,ahv,guard⟩:=o;have bW:∀ c,op≠.defer c:=λc e=>by have:=m3.quiet;rw[e]at this;cases this
  rcases Vx aQ (h.rel.refine hc) op ty dst pos ahv guard ahu with aa | ⟨v,x,hv,ae,rfl⟩
  grind
  ·exact iQ bW hv d6
 ·rw[VR Ks dz];simp only[lX,mV];exact⟨λ_ _=>trivial,c7 _ (after undef (by rw[ae];rfl))⟩
end
section
variable{X:c3}{ops:List Oper}{im':Nat->Bool}{L:Nat->Prop}{β:Nat->Nat}{a:Act}{w:World}{F:Fr}{C:dB}{I:aI}{M:List aD}{p:Nat}{cx:List (Nat×Nat)}{hV:Nat->dK}{g6:Nat->Fr}{q:Nat}{o:Oper}
def Inv.refine(h:Inv X ops im' L β a w F C I M p cx hV g6){lC:Fr}(tn:∀ t,tm (F t) (lC t)):Inv X ops im' L β a w lC C I M p cx hV g6:=
 ⟨h.rel,h.sub,h.wo,h.rh,λt au=>tn t _ _ (h.T t au),λi hi=>by
  obtain⟨gQ,im,aK⟩:=h.zu i hi;exact⟨gQ,im,⟨aK.quiet,λd aj=>(aK.hr d aj).trans (tn d),aK.b,aK.a,aK.r⟩⟩⟩
theorem Inv.step(dH:wk ops)(jE:∀ d,o.dst=some d->d<X.n)(h:Inv X ops im' L β a w F C I M p cx hV g6)(aM:ops[q]?=some o)(qv:p.testBit q=false)(bj:∀ e,m0 ops q e->L e)
 {x:dK} {C':dB} {I':aI} {M':List aD} (ae:fj β x v) (ag:cT X β a w' (λ_=>.nF) C' I' M')
  (hm:∀ i gQ gI,k0 L p i->ops[i]?=some gQ->qt gQ.op=true->(i,gI)∈cx->(∀ s,gI=s+1->C' s=C s)/\(gI=0->∀ b o,ij I (wj (im' i) M) b o->ij I' (wj (im' i) M') b o)) :
  Inv X ops im' (λi=>L i\/i=q) β (a.put o.dst v) w' (put o.dst x F) C' I' M' (p ||| 2^q) cx hV g6:=by
 have rj:∀ {i},k0 (λi=>L i\/i=q) (p ||| 2^q) i->k0 L p i:=λhi=>⟨(pL.1 hi.1).resolve_right (λe=>hi.2 (.inr e)),λe=>hi.2 (.inl e)⟩;have BE:∀ {i},k0 L p i->k0 (λi=>L i\/i=q) (p ||| 2^q) i:=fun {i} hi=>⟨pL.2 (.inl hi.1),λe=>e.elim hi.2 (λe=>by
  subst e;have:=hi.1
  grind)⟩
 refine⟨ag.put jE (x:=.nF) trivial |> λh=>h.refine λ_=>trivial,?_,?_,?_,?_,?_⟩
 ·rintro i (hi | rfl)
  ·exact pL.2 (.inl (h.sub i hi))
  simp
 ·rintro j e (ai | rfl) he
  ·exact .inl (h.wo j e ai he)
  grind
 ·intro j e ai he;rcases pL.1 ai with ai | rfl
  ·exact pL.2 (.inl (h.rh j e ai he))
  ·exact pL.2 (.inl (h.sub e (bj e he)))
 ·intro t au;by_cases aj:o.dst=some t
  ·have aV:t<a.tmps.size:=by rw[h.rel.size];grind
   rw[aj,OL aV,put_eq];exact ae
  ·rw[Ko aj,Kn aj];exact h.T t λi hi=>au i (BE hi)
 ·intro i hi;have ck:=rj hi;obtain⟨gQ,im,su⟩:=h.zu i ck;have rk:i≠q:=λe=>by
   subst e;have:=ck.1
   grind
  refine⟨gQ,im,⟨su.quiet,?_,λt au j ai=>su.b t au j (rj ai),?_,?_⟩⟩;·intro d aj;rw[Kn (dH.OI i q gQ o d rk im aM aj)];exact su.hr d aj
  ·intro t au eV;have aj:o.dst≠some t:=λaj=>by
    rcases dH.ord q i o gQ t (sh rk) aM im aj au with ah | ah
    ·have:=ah.mem h.rh (λe he=>h.rh i e ck.1 he)
     grind
    ·exact ck.2 (ah.mem h.wo bj)
   rw[Ko aj];exact su.a t au λj ai=>eV j (BE ai)
  ·refine su.r.imp (λ⟨aa,ab,al⟩=>⟨aa,VN ab am λt x ay=>?_,al⟩) id;have aL:=al t x ay;have bB:=hm i gQ _ ck im (by rw[ay];rfl) aL;refine⟨λs off e=>?_,λbH=>bB.2 ?_⟩
   ·exact bB.1 s (by rw[e];rfl)
   ·generalize dG (g6 i) x=ahw at bH;cases ahw with
    |ref s off=>grind| _=>rfl
def BF(X:c3)(ops:List Oper)(im':Nat->Bool)(K:gx)(L:Nat->Prop)(a:Act)(w:World):Prop:=
 ∃ β F C I M p cx hV g6 n,Inv X ops im' L β a w F C I M p cx hV g6/\oS X ops im' n p cx F C I M K
theorem GO{k:Bool}{i:Nat}:i∈qu ops p k ↔ ∃ o,ops[i]?=some o/\p.testBit i=false/\DW o.op=k/\(∀ e,m0 ops i e->p.testBit e=true):=by
 unfold qu;rw[n8,kx];have ahx:∀ {o},ops[i]?=some o->(GK o p=true ↔ ∀ e,m0 ops i e->p.testBit e=true):=fun {o} aG=>by
  unfold GK;rw[fV];constructor
  ·rintro h e⟨o',ht,wq,wm,ah,rfl⟩
   grind
  ·intro h ht wm;cases ah:Region.binds .any ht with
   |false=>simp| true=>simp[h ht.on ⟨o,ht,aG,d6,ah,rfl⟩]
 grind
def VW{P:Nat->Prop}:∀ {l:List Nat},OD P l->∀ i∈l,P i
 |[],_,i,hi=>by cases hi
 |[j],h,i,hi=>by rw[ep]at hi;subst hi;exact h
 |j::k::l,h,i,hi=>by
  rcases ez.1 hi with rfl | hi;·exact h.1
  ·exact VW (l:=k::l) h.2 i hi
theorem ahy(i:Nat)(op:Op)(ρ:Operand->dK)(cx:List (Nat×Nat)):∀ s∈cx,s∈GL i op ρ cx:=λs aw=>by
 unfold GL
 grind
def ahz{i:Nat}{ρ:Operand->dK}{cx:List (Nat×Nat)}:∀ t x,op=.load t x->(i,Kj (ρ x))∈GL i op ρ cx:=λt x aN=>by subst aN;unfold GL;simp
theorem BF.advance(dH:wk ops){K:gx}:∀ (n:Nat) {p cx F hV g6},Inv X ops im' L β a w F C I M p cx hV g6->oS X ops im' n p cx F C I M K -> ∃ p cx F hV g6 n,Inv X ops im' L β a w F C I M p cx hV g6/\qu ops p true=[]/\oS X ops im' (n+1) p cx F C I M K
 |0,_,_,_,_,_,_,an=>an.elim
 |n+1,p,cx,F,hV,g6,bG,an=>by
  cases ag:qu ops p true with
  |nil=>grind
  |cons q l=>
   have jD:q∈qu ops p true:=by grind
   obtain⟨o,aM,qv,Kp,BD⟩:=GO.1 jD;have jS:=an;unfold oS at jS;rw[ag]at jS;simp only[aM]at jS;obtain⟨lC,tn,⟨fk,aa⟩ | ⟨Ks,aa⟩⟩:=VS jS;·obtain⟨x,ab,al⟩:=ahh (ahd aa);exact BF.advance dH n (bG.record dH aM qv BD Kp tn (ahy _ _ _ _) (.inl ⟨fk,al,ahz⟩)) ab
   ·exact BF.advance dH n (bG.record dH aM qv BD Kp tn (λ_ h=>h) d6) aa
theorem mem_ready{i:Nat}(dy:dO.size=ops.length):i∈Region.ready .any ops.toArray dO ↔ ∃ o,ops[i]?=some o/\¬ dO.getD i false=true/\∀ e,m0 ops i e->dO.getD e false=true:=by
 unfold Region.ready;rw[n8,kx];simp only[q6,Bi,cH,vX];have ahx:∀ {o},ops[i]?=some o->((o.after.all λe=>!Region.binds .any e||dO.getD e.on false)=true ↔ ∀ e,m0 ops i e->dO.getD e false=true):=fun {o} aG=>by
  rw[Array.all_eq_true_iff_forall_mem];constructor
  ·rintro h e⟨o',ht,wq,wm,ah,rfl⟩
   grind
  ·intro h ht wm;cases ah:Region.binds .any ht with
   |false=>simp| true=>simp[h ht.on ⟨o,ht,aG,wm,ah,rfl⟩]
 grind
theorem VX{i:Nat}(hi:i<dO.size):(λj=>(dO.setIfInBounds i true).getD j false=true)=λj=>dO.getD j false=true\/j=i:=by
 funext j;simp only[ql,Gj,eq_iff_iff]
 grind
def todo(ops:List Oper)(dO:Array Bool):Nat:=((List.range ops.length).filter λi=>!dO.getD i false).length
theorem Kt{i:Nat}(hi:i<ops.length)(dy:dO.size=ops.length)(aE:¬ dO.getD i false=true):todo ops (dO.setIfInBounds i true)<todo ops dO:=by
 unfold todo;have key:∀ l:List Nat,l.Nodup->i∈l->((l.filter λj=>!(dO.setIfInBounds i true).getD j false).length<(l.filter λj=>!dO.getD j false).length):=by
  have same:∀ j,j≠i->(dO.setIfInBounds i true).getD j false=dO.getD j false:=λj ai=>by simp only[ql,Gj,bK (sh ai)]
  have self:(dO.setIfInBounds i true).getD i false=true:=by simp_all
  have xR:dO.getD i false=false:=by grind
  intro l
  induction l with
  |nil=>simp
  |cons j l aX=>
   intro bW hm;rw[mw]at bW;by_cases e:j=i
   ·subst e;have:l.filter (λk=>!(dO.setIfInBounds j true).getD k false)=l.filter (λk=>!dO.getD k false):=
     Gm λk af=>by grind
    grind
   grind
 grind
theorem ahA(aQ:cX X.P X.E)(dH:wk ops)(jE:∀ o∈ops,∀ d,o.dst=some d->d<X.n){K:gx}(kC:∀ a w,Sat X K a w->Q .normal a w):∀ (fK:Nat) (dO:Array Bool) (a:Act) (w:World),
  dO.size=ops.length->todo ops dO<=fK->BF X ops im' K (λi=>dO.getD i false=true) a w->wpAnyIn (hb X) 0 X.P .any ops.toArray Q fK dO a w:=by
 intro fK
 induction fK with
 |zero=>
  rintro dO a w dy aC⟨β,F,C,I,M,p,cx,hV,g6,n,bG,an⟩;have nJ:Region.ready .any ops.toArray dO=[]:=by
   cases ag:Region.ready .any ops.toArray dO with
   |nil=>rfl| cons i l=>obtain⟨o,aG,aE,_⟩:=(mem_ready dy).1 (by grind:i∈Region.ready .any ops.toArray dO);have:=Kt (jd.1 aG).1 dy aE;omega
  refine⟨nJ,?_⟩;obtain⟨p,cx,F,hV,g6,n,bG,hI,an⟩:=BF.advance dH n bG an;have OO:∀ i,p.testBit i=true->dO.getD i false=true:=λi=>by
   induction i using Nat.strongRecOn with
   |ind i aX=>
    intro aK;refine Gk λaE=>?_;obtain⟨o,aG,_⟩:=bG.zu i ⟨aK,aE⟩;have:i∈Region.ready .any ops.toArray dO:=(mem_ready dy).2 ⟨o,aG,aE,λe he=>aX e (dH.lt i e he) (bG.rh i e aK he)⟩
    grind
  have rl:qu ops p false=[]:=by
   cases ag:qu ops p false with
   |nil=>rfl
   |cons i l=>
    obtain⟨o,aG,aK,_,aj⟩:=GO.1 (by grind:i∈qu ops p false);have:i∈Region.ready .any ops.toArray dO:=(mem_ready dy).2 ⟨o,aG,λcU=>(by have eB:=bG.sub i cU;grind),d6⟩
    grind
  unfold oS at an;rw[hI,rl]at an;exact kC _ _ ⟨F,C,I,M,⟨β,bG.rel.refine λt=>bG.T t λi hi=>(hi.2 (OO i hi.1)).elim⟩,an⟩
 |succ fK aX=>
  rintro dO a w dy aC⟨β,F,C,I,M,p,cx,hV,g6,n,bG,an⟩;obtain⟨p,cx,F,hV,g6,n,bG,hI,an⟩:=BF.advance dH n bG an;refine⟨λnJ=>?_,λq aM=>?_⟩
  ·have OO:∀ i,p.testBit i=true->dO.getD i false=true:=λi=>by
    induction i using Nat.strongRecOn with
    |ind i aX=>
     intro aK;refine Gk λaE=>?_;obtain⟨o,aG,_⟩:=bG.zu i ⟨aK,aE⟩;have:i∈Region.ready .any ops.toArray dO:=(mem_ready dy).2 ⟨o,aG,aE,λe he=>aX e (dH.lt i e he) (bG.rh i e aK he)⟩
     grind
   have rl:qu ops p false=[]:=by
    cases ag:qu ops p false with
    |nil=>rfl
    |cons i l=>
     obtain⟨o,aG,aK,_,aj⟩:=GO.1 (by grind:i∈qu ops p false);have:i∈Region.ready .any ops.toArray dO:=(mem_ready dy).2 ⟨o,aG,λcU=>(by have eB:=bG.sub i cU;grind),d6⟩
     grind
   unfold oS at an;rw[hI,rl]at an;exact kC _ _ ⟨F,C,I,M,⟨β,bG.rel.refine λt=>bG.T t λi hi=>(hi.2 (OO i hi.1)).elim⟩,an⟩
  ·obtain⟨o,aG,aE,aj⟩:=(mem_ready dy).1 aM;have aV:=(jd.1 aG).1;have uH:=jE o (sg aG);have gy:=VX (dO:=dO) (i:=q) Z;have next:∀ bT w',BF X ops im' K (λi=>dO.getD i false=true\/i=q) bT w'->wpAnyIn (hb X) 0 X.P .any ops.toArray Q fK (dO.setIfInBounds q true) bT w':=λbT w' h=>by refine aX _ bT w' d6 ?_ d6;have:=Kt aV dy aE;omega
   cases qv:p.testBit q with
   |true=>
    exact bG.exec aQ dH uH aG ⟨qv,aE⟩ aj λbT h=>next bT w ⟨β,F,C,I,M,p,cx,hV,g6,n+1,h,an⟩
   |false=>
    have Ku:∀ e,m0 ops q e->p.testBit e=true:=λe he=>bG.sub e (aj e he);have ahB:DW o.op=false:=by
     cases ahC:DW o.op with
     |false=>rfl
     |true=>
      have:q∈qu ops p true:=GO.2 ⟨o,aG,qv,ahC,Ku⟩
      grind
    have jD:q∈qu ops p false:=GO.2 ⟨o,aG,qv,ahB,Ku⟩;unfold oS at an;rw[hI]at an;simp only at an;split at an
    grind
    ·rename_i i0 fJ rl;rw[rl]at jD;have ah:=VW an q jD;simp only[aG]at ah;obtain⟨lC,tn,ah⟩:=VS ah;have di:=bG.refine tn;have lD:=di.ahr dH aG qv aj;have zw:ops.toArray[q]?=some o:=by grind
     unfold wpOpIn;simp only[zw];rcases ah with⟨fk,ah⟩ | ⟨Ks,ah⟩
     ·rw[VQ fk lD,bY rfl];cases OP:VE ((lB ops).getD q 0) p with
      |true=>
       rw[OP]at ah;simp only[wi,cD]at ah;have eG:∀ i,p.testBit i=true->dO.getD i false=true:=λi hi=>by
        have aa:=ei OP;have ab:(p &&& (lB ops).getD q 0).testBit i=true:=by grind
        rw[Nat.testBit_and,cH]at ab;exact(zr ab.2).mem bG.wo aj
       have aZ:Rel X a w lC C I M:=⟨β,di.rel.refine λt=>di.T t λi hi=>(hi.2 (eG i hi.1)).elim⟩;refine s' (λbT w'=>?_) (DS aQ uH aZ ah);rintro⟨df,C',I',M',⟨oN,g4⟩,af⟩;have awo:∀ i,¬ k0 (λi=>dO.getD i false=true\/i=q) (p ||| 2^q) i:=λi hi=>by
        rcases pL.1 hi.1 with aa | aa;·exact hi.2 d6
        ·exact hi.2 (.inr aa)
       refine next bT w' ⟨oN,df,C',I',M',p ||| 2^q,cx,hV,g6,n,⟨g4.refine λ_=>trivial,?_,?_,?_,λt _=>g4.ap t,d6⟩,af⟩
       ·rintro i (hi | rfl)
        ·exact pL.2 (.inl (bG.sub i hi))
        simp
       ·rintro j e (ai | rfl) he
        ·exact .inl (bG.wo j e ai he)
        grind
       ·intro j e ai he;rcases pL.1 ai with ai | rfl
        ·exact pL.2 (.inl (bG.rh j e ai he))
        grind
      |false=>
       rw[OP]at ah;let G:Fr:=λt=>if t∈looks ops o then lC t else .nF
       have hc:∀ t,fj β (G t) (a.tmps.getD t undef):=λt=>by
        by_cases au:t∈looks ops o
        grind
        ·simp only[G,bK au];trivial
       have ON:∀ y∈o.op.operands,dG G y=dG lC y:=λy aF=>by
        cases y with
        |tmp t=>simp only[dG,G,bY (OK aF)]| const v=>cases v<;>rfl
        |global g=>rfl| func f=>rfl
       refine s' (λbT w'=>?_) (ahk aQ (di.rel.refine hc) ON ah);rintro⟨v,x,C',I',M',rfl,ae,g4,af,hm⟩;refine next _ _ ⟨β,_,C',I',M',p ||| 2^q,cx,hV,g6,n,di.step dH uH aG qv aj ae (g4.refine λ_=>trivial) ?_,af⟩
       rcases hm with⟨Kh,nK⟩ | ⟨rfl,bo,eF⟩
       rotate_left
       ·exact λ_ _ _ _ _ _ _=>⟨am,λ_=>VI eF bo⟩
       have VU:∀ {i},k0 (λi=>dO.getD i false=true) p i->((lB ops).getD q 0).testBit i=true->False:=λhi ah=>hi.2 ((zr ah).mem bG.wo aj);intro i gQ gI hi im ft jD;have eV:∀ {s:Nat},BB ((lB ops).getD q 0) s cx=true->gI≠s:=fun {s} h e=>by
        rcases VF h jD with aa | aa
        grind
        omega
       rcases(nD _ _).mp Kh with ahD | ahE
       ·have aa:=fV.1 ahD i (kx.2 (jd.1 im).1);rw[hi.1,im]at aa
        grind
       rcases(nD _ _).mp ahE with OQ | GP
       ·unfold VH at OQ;split at OQ
        ·rename_i t0 wu VY dC;split at OQ
         ·rename_i b0 awp aN;obtain⟨⟨eW,hJ⟩,c8⟩:=nK.1 _ _ _ _ _ dC aN;exact⟨d6,λ_=>VI c8 hJ⟩
         grind
        grind
       rcases(nD _ _).mp GP with GP | BG
       ·unfold VG at GP;split at GP
        ·rename_i t0 wu VY dC;split at GP
         ·rename_i ahF aN;exact⟨λ_ _=>by rw[(nK.2.1 _ _ _ _ dC aN).1],d6⟩
         grind
        ·rename_i dC;exact⟨λ_ _=>by rw[(nK.2.2 d6).1],d6⟩
        grind
       unfold VL at BG;rw[cH]at BG;obtain⟨ahG,BG⟩:=BG;have ahH:im' i=true:=by
        have aa:=fV.1 ahG i (kx.2 (jd.1 im).1);rw[hi.1,im]at aa
        grind
       have bo:C'=C/\∀ b o,I b=some o->I' b=some o:=by
        unfold VK at BG;split at BG
        ·rename_i t0 wu VY dC;split at BG
         ·rename_i ahF aN;exact nK.2.1 _ _ _ _ dC aN
         grind
        ·rename_i dC;exact nK.2.2 d6
        ·rename_i dC;exact nK.2.2 d6
        grind
       exact⟨d6,λ_=>by rw[ahH];exact ahc bo.2⟩
     ·rw[VR Ks lD];simp only[lX,mV];refine⟨λ_ _=>trivial,next _ _ ⟨β,_,C,I,M,p ||| 2^q,cx,hV,g6,n,di.step dH uH aG qv aj (x:=.val undef) rfl di.rel am,ah⟩⟩
end
theorem cN.OR{X:c3}{id:Nat}{F:Fr}{C:dB}{I:aI}{M:List aD}{K:ka}(aQ:cX X.P X.E)(hm:X.P.follows .mixedOrders=true)(ar:zq A.toList=true)(aE:wa X.n A=true)
  {im':Nat->Bool} (h:oS X A.toList im' (A.size+1) 0 [] F C I M (K .normal)):cN X (.region id A true) F C I M K:=by
 refine⟨λa w ⟨β,aZ⟩=>wpIn_region_any hm ?_⟩;have rm:cT X β a { w with drawn:=w.drawn+1 } F C I M:=aZ.world rfl;have ca:∀ i,(Array.replicate A.size false).getD i false=false:=λi=>by
  by_cases hi:i<A.size<;>simp[ql,hi]
 have pM:∀ {i},¬ (Array.replicate A.size false).getD i false=true:=fun {i}=>by grind
 have key:=ahA (K:=K .normal) (Q:=mZ X K) aQ (VP ar) (J' aE) (λ_ _ h=>h) A.size (Array.replicate A.size false) a { w with drawn:=w.drawn+1 } am ?_ ⟨β,F,C,I,M,0,[],λ_=>.nF,λ_ _=>.nF,A.size+1,⟨rm.refine λ_=>trivial,d6,λj e ai=>(pM ai).elim,λj e ai=>by simp at ai,λt _=>rm.ap t,λi hi=>by simp[k0]at hi⟩,h⟩;omega
 ·unfold todo
  grind
def cN.OS{X:c3}{id:Nat}{F:Fr}{C:dB}{I:aI}{M:List aD}{K:ka}(aQ:cX X.P X.E)(hm:X.P.follows .mixedOrders=true)(ar:zq A.toList=true)(aE:wa X.n A=true)
  {im':Nat->Bool} (a2:ι->v') (inv:ι->Prop) (an:oS X A.toList im' (A.toList.length+1) 0 [] F C I M (pH X.foot a2 inv)) (bq:∀ i,inv i->K .normal (qq (a2 i).bn) (qs (a2 i).cl) (a2 i).cm (a2 i).cK):cN X (.region id A true) F C I M K:=by
 obtain⟨h⟩:=cN.OR (im':=im') (K:=λe=>match e with
  | .normal=>pH X.foot a2 inv| e=>K e) aQ hm ar aE an
 refine⟨λa w aZ=>wpIn_mono (h a w aZ) ?_⟩;intro e a w aw;cases e with
 |normal=>obtain⟨df,C',I',M',⟨β,ag⟩,⟨j,ss,hw,bC,gk⟩⟩:=aw;exact⟨_,_,_,_,⟨β,(ag.da bC gk).h6 hw⟩,bq j ss⟩
 |_=>exact aw
def cN.draw{X:c3}{id:Nat}{F:Fr}{C:dB}{I:aI}{M:List aD}{K:ka}(aQ:cX X.P X.E)(hm:X.P.follows .mixedOrders=true)(ar:zq A.toList=true)(aE:wa X.n A=true)(h:oS X A.toList (λ_=>false) (A.size+1) 0 [] F C I M (K .normal)):cN X (.region id A true) F C I M K:=.OR aQ hm ar aE h
def cN.BH{X:c3}{id:Nat}{F:Fr}{C:dB}{I:aI}{M:List aD}{K:ka}(aQ:cX X.P X.E)(hm:X.P.follows .mixedOrders=true)(ar:zq A.toList=true)(aE:wa X.n A=true)
 (a2:ι->v') (inv:ι->Prop) (an:oS X A.toList (λ_=>false) (A.toList.length+1) 0 [] F C I M (pH X.foot a2 inv)) (bq:∀ i,inv i->K .normal (qq (a2 i).bn) (qs (a2 i).cl) (a2 i).cm (a2 i).cK):cN X (.region id A true) F C I M K:=.OS aQ hm ar aE a2 inv an bq
def cN.VZ{X:c3}{id:Nat}{F:Fr}{C:dB}{I:aI}{M:List aD}{K:ka}(aQ:cX X.P X.E)(hm:X.P.follows .mixedOrders=true)(ar:zq A.toList=true)(aE:wa X.n A=true)
 (a2:ι->v') (inv:ι->Prop) (an:oS X A.toList (λ_=>true) (A.toList.length+1) 0 [] F C I M (pH X.foot a2 inv)) (bq:∀ i,inv i->K .normal (qq (a2 i).bn) (qs (a2 i).cl) (a2 i).cm (a2 i).cK):cN X (.region id A true) F C I M K:=.OS aQ hm ar aE a2 inv an bq
def cN.OT{X:c3}{id:Nat}{F:Fr}{C:dB}{I:aI}{M:List aD}{K:ka}(hr:Nat->Bool)(aQ:cX X.P X.E)(hm:X.P.follows .mixedOrders=true)(ar:zq A.toList=true)(aE:wa X.n A=true)(h:oS X A.toList hr (A.size+1) 0 [] F C I M (K .normal)):cN X (.region id A true) F C I M K:=.OR aQ hm ar aE h
def V0(J:Nat->Nat->Act->World->Prop)
  (first:c.wpIn sj n P (λe bT w'=>match e with
   | .goto l=>∃ m,J l m bT w'| e=>Q e bT w') a w)
  (pass:∀ l m a w,J l m a w->∃ bq,findLabel c l=some bq/\bq.wpIn sj n P (λe bT w'=>match e with
   | .goto e'=>∃ m',m'<m/\J e' m' bT w'| e=>Q e bT w') a w):(Code.scope c).wpIn sj n P Q a w:=by
 intro b k cs iA ah ag;have b0:step P (lone (b.atR a (.code (.scope c)::k)) cs w)=.next (lone (b.atR a (.code c::.inScope c::k)) cs w):=
  step_lone_go (by simp[stepG,stepG.exec,Frame.atR])
 have s1:∀ a w,step P (lone (b.atR a (.inScope c::k)) cs w)=.next (lone (b.atR a k) cs w):=λa w=>
  step_lone_go (by simp[stepG,stepG.exec,Frame.atR])
 have ae:∀ id,exitTo id (.inScope c::k)=exitTo id k:=λid=>by simp[exitTo]
 have fin:∀ {m:Machine} {e:Exit} {kb:Act} {kc:World},(∀ l,e≠.goto l)->ArrivesIn (Machine.fenced P sj) P m b (.inScope c::k) cs e kb kc->ArrivesIn (Machine.fenced P sj) P m b k cs e kb kc:=by
  intro m e kb kc bH jh;cases e with
  |normal=>exact StepsIn.trans jh (.one (fenced_calm ah ag rfl) (s1 _ _))| exit id=>exact⟨λfI af=>jh.1 fI (by rw[ae];exact af),λg4 af=>jh.2 g4 (by rw[ae];exact af)⟩| goto l=>exact(bH l rfl).elim| ret=>exact jh| panic GF=>exact jh| outgrown=>exact jh
 have key:∀ m l a w,J l m a w->∀ bq,findLabel c l=some bq->∃ e bT w',Q e bT w'/\ArrivesIn (Machine.fenced P sj) P (lone (b.atR a (.code bq::.inScope c::k)) cs w) b k cs e bT w':=by
  intro m
  induction m using Nat.strongRecOn with
  |_ m aX=>
   intro l a w a6 bq rn;obtain⟨DX,aC,hw⟩:=pass l m a w a6;rw[rn]at aC;cases aC;obtain⟨e,kb,kc,aM,jh⟩:=hw b (.inScope c::k) cs iA ah ag;cases e with
   |goto e'=>
    obtain⟨m',aV,BI⟩:=aM;obtain⟨DX,to,_⟩:=pass e' m' kb kc BI;have az:gotoIn e' (.inScope c::k)=some (.code DX::.inScope c::k):=by simp[gotoIn,to]
    obtain⟨Gz,GA,GB,GC,GD⟩:=aX m' aV e' kb kc BI DX to;exact⟨Gz,GA,GB,GC,.of_steps (jh.1 _ az) GD⟩
   |normal=>exact⟨_,kb,kc,aM,fin am jh⟩| exit id=>exact⟨_,kb,kc,aM,fin am jh⟩| ret=>exact⟨_,kb,kc,aM,fin am jh⟩| panic GF=>exact⟨_,kb,kc,aM,fin am jh⟩| outgrown=>exact⟨_,kb,kc,aM,fin am jh⟩
 have ax:(lone (b.atR a (.code (.scope c)::k)) cs w).fenced P sj:=fenced_calm ah ag rfl;obtain⟨e,kb,kc,aM,jh⟩:=first b (.inScope c::k) cs iA ah ag
 cases e with
 |goto e'=>
  obtain⟨m',BI⟩:=aM;obtain⟨DX,to,_⟩:=pass e' m' kb kc BI;have az:gotoIn e' (.inScope c::k)=some (.code DX::.inScope c::k):=by simp[gotoIn,to]
  obtain⟨Gz,GA,GB,GC,GD⟩:=key m' e' kb kc BI DX to;exact⟨Gz,GA,GB,GC,.of_steps (.head ax b0 (jh.1 _ az)) GD⟩
 |normal=>exact⟨_,kb,kc,aM,.of_steps (.one ax b0) (fin am jh)⟩| exit id=>exact⟨_,kb,kc,aM,.of_steps (.one ax b0) (fin am jh)⟩| ret=>exact⟨_,kb,kc,aM,.of_steps (.one ax b0) (fin am jh)⟩| panic GF=>exact⟨_,kb,kc,aM,.of_steps (.one ax b0) (fin am jh)⟩| outgrown=>exact⟨_,kb,kc,aM,.of_steps (.one ax b0) (fin am jh)⟩
def OU(N:Nat->gx)(K:ka):ka
 | .goto l=>N l| e=>K e
def cN.scope{X:c3}{F:Fr}{C:dB}{I:aI}{M:List aD}{K:ka}(aQ:cX X.P X.E)(bl:codeOk X.n c=true)(a2:ι->v')(bs:ι->Nat)(inv:ι->Prop)(μ:ι->Nat)(bq:Nat->Code)(rn:∀ i,inv i->findLabel c (bs i)=some (bq (bs i))/\codeOk X.n (bq (bs i))=true)(first:V X c F C I M (OU (λl=>pH X.foot a2 λj=>inv j/\bs j=l) K))(pass:∀ i,inv i->V X (bq (bs i)) (qq (a2 i).bn) (qs (a2 i).cl) (a2 i).cm (a2 i).cK (OU (λl=>pH X.foot a2 λj=>(inv j/\bs j=l)/\μ j<μ i) K)) :
  cN X (.scope c) F C I M K:=by
 refine⟨λa w aZ=>?_⟩;let J (l m:Nat) (a:Act) (w:World):Prop:=∃ i,inv i/\bs i=l/\μ i=m/\Rel X a w (qq (a2 i).bn) (qs (a2 i).cl) (a2 i).cm (a2 i).cK
 have zp:∀ {p:ι->Prop} {l:Nat} {a w},(∀ i,p i->inv i/\bs i=l)->Sat X (pH X.foot a2 p) a w->∃ i,p i/\J l (μ i) a w:=by rintro p l a w aK⟨F,C,I,M,⟨β,ag⟩,⟨j,ss,hw,bC,gk⟩⟩;exact⟨j,ss,j,(aK j ss).1,(aK j ss).2,rfl,β,(ag.da bC gk).h6 hw⟩
 refine V0 J (wpIn_mono (re aQ c bl aZ first) ?_) ?_
 ·intro e a w h;cases e with
  |goto l=>obtain⟨j,ai,a6⟩:=zp (p:=λj=>inv j/\bs j=l) (l:=l) (λ_ h=>h) h;exact⟨_,a6⟩
  |_=>exact h
 ·rintro l m a w⟨i,hi,rfl,rfl,ag⟩;obtain⟨aa,ab⟩:=rn i hi;refine⟨_,aa,wpIn_mono (re aQ _ ab ag (pass i hi)) ?_⟩;intro e a w h;cases e with
  |goto e'=>obtain⟨j,ai,a6⟩:=zp (p:=λj=>(inv j/\bs j=e')/\μ j<μ i) (l:=e') (λ_ h=>h.1) h;exact⟨_,ai.2,a6⟩
  |_=>exact h
end Go.V
