/- Part 2 of what the proofs of this seat share: the executor, data in memory, walks.
-/
import Derived.Test.YtbcembbdimcdlaaGreatDoorK1
import Derived.Lib.UnsafeStr
import Derived.Test.YtbcembbdimcdlaaGreatDoorProg
import Derived.KernelRfl
set_option linter.all false
set_option maxRecDepth 100000
namespace Go.V
open Go
def cS:=@List.getD_eq_getElem?_getD
def cP:=@List.length_append
def cC:=@List.getElem_mem
def cD:=@List.length_map
def dX:=@List.append_nil
def iT:=@List.eq_nil_of_length_eq_zero
def dz:=@Nat.zero_add
def fw:=@List.nil_sublist
def gI:=@List.mem_singleton
def gr:=@List.length_take
def jT:=@List.drop_eq_nil_of_le
def mW:=@List.sublist_append_right
def ow:=@decide_eq_false_iff_not
def pT:=@List.getElem?_append_left
def o5:=@List.getElem?_eq_none
def ox:=@List.mem_append_left
def kM:=@Bool.or_eq_true
def kN:=@List.nil_append
def o6:=@Bool.or_eq_false_iff
def nG:=@List.flatMap_cons
def jh:=@List.map_nil
def pU:=@List.take_succ_cons
def iU:=@Nat.mul_one
def o7:=@Bool.not_eq_true'
def o8:=@List.getElem?_set
def ji:=@Nat.add_mul
def tW:=@List.mem_append_right
def nH:=@List.take_zero
def vt:=@List.getElem_cons_zero
def sO:=@List.length_drop
def sP:=@List.map_toArray
def DT:=@List.take_append_of_le_length
def vu:=@List.size_toArray
def Gr:=@List.set_eq_take_append_cons_drop
def yr:=@Array.length_toList
def oy:=@Nat.one_mul
def sQ:=@List.drop_zero
def rI:=@Bool.not_true
def DU:=@Classical.byContradiction
def BG:=@List.getElem?_toArray
def vv:=@List.take_take
def BH:=@List.mem_of_getElem?
def ys:=@List.ext_getElem
def DV:=@World.putObj_heap_same
def yt:=@List.mem_filter
def wO:=@Bool.false_or
def yu:=@List.take_left
def yv:=@List.drop_take
def Gs:=@List.length_filter_le
def zJ:=@List.drop_drop
def DW:=@List.ext_getElem?
def N0:=@Array.eq_empty_of_size_eq_zero
def J1:=@List.getElem_cons_succ
def Ux:=@Std.Legacy.Range.forIn_eq_forIn_range'
def DX:=@Bool.not_false
def Gt:=@beq_self_eq_true
def J2:=@Nat.testBit_two_pow
def BI:=@Nat.zero_mul
def N1:=@Option.bind_eq_some_iff
def N2:=@ByteArray.size_extract
def J3:=@List.filter_cons
def Gu:=@List.map_take
def Uy:=@List.drop_length_add_append
def N3:=@List.map_replicate
def Gv:=@List.set_set
def J4:=@Nat.testBit_or
def Uz:=@Lib.run_firstCells_string
def N4:=@List.filter_congr
def J5:=@List.map_drop
def N5:=@List.take_length
def J6:=@List.map_set
variable{soft ic:Bool}{P:Program}{f x y p s:Operand}{M M' Mr:List aI}{K:List aI->Prop}{I':aR}{op:Op}{ρ:Operand->dQ}{C:d'}{other:Prop}{ops:List Oper}{dh mq aG:ec}{β:Nat->Nat}{a:Option Addr}{w w':World}{Q:Exit->Act->World->Prop}{dst:Option Nat}{v:Value}{lW:Fr}{dP:Array Bool}{A:Array Oper}{ι α:Type}{c g m u e c' vw it size:Nat}{vs xs bU:List Value}{ad:Addr}{cs:Array Value}
def DY:Op->Bool
 | .move _ | .assign _ | .pick .. | .unOp .. | .binOp .. | .load .. | .nilCheck _ | .fieldAddr .. | .field .. | .indexAddr .. | .index .. | .build .. | .makeFunc .. | .slice .. | .extract .. | .convert ..=>true| .call { callee:=.builtin .len,.. }=>true| .call { callee:=.builtin .cap,.. }=>true| .call { callee:=.builtin .max,.. }=>true| .call { callee:=.builtin .min,.. }=>true| .call { callee:=.builtin .unsafeSliceData,.. }=>true| _=>false
def qB:Op->Bool
 | .load ..=>true| _=>false
def Gw(o:Oper)(p:Nat):Bool:=o.after.toList.all λe=>!Region.binds .any e||p.testBit e.on
def qC(ops:List Oper)(p:Nat)(k:Bool):List Nat:=(List.range ops.length).filter λi=>match ops[i]? with
 |some o=>!p.testBit i&&((DY o.op == k)&&Gw o p)| none=>false
def Gx(aZ:List Nat)(o:Oper):Nat:=o.after.toList.foldl (λs e=>bif Region.binds .any e then s ||| 2^e.on ||| aZ.getD e.on 0 else s) 0
def lx(ops:List Oper):List Nat:=ops.foldl (λaZ o=>aZ++[Gx aZ o]) []
def N6(P:Nat->Prop):List Nat->Prop
 |[]=>True| [i]=>P i| i::l=>P i/\N6 P l
inductive g7(soft:Bool)(cu:List Nat)(P:Program)(f:Nat)(args:List Value)(I:aR)(M:List aI)(K:Value->aR->List aI->Prop):Prop
 |mk(post:Value->aR->List aI->Prop)(ar:Spec P f args I [] post)(k:∀ v I' M',(∀ b o,I b=some o->I' b=some o)->post v I' M'->K v I' (M'++M))| pV (dW Mr:List aI) (post:Value->aR->List aI->Prop) (a2:M.Perm (dW++Mr)) (ar:Spec P f args I dW post) (rJ:∀ v I' M',post v I' M'->∀ x∈dW,x∈M') (k:∀ v I' M',(∀ b o,I b=some o->I' b=some o)->post v I' M'->K v I' (M'++Mr))| NK (post:Value->aR->List aI->Prop) (ar:Spec P f args I [] post) (k:∀ v I' M',(∀ b o,I b=some o->I' b=some o)->(∀ x∈M'++M,I' x.num=none)->post v I' M'->K v I' (M'++M))| aeE (dW Mr:List aI) (post:Value->aR->List aI->Prop) (a2:M.Perm (dW++Mr)) (ar:Spec P f args I dW post) (rJ:∀ v I' M',post v I' M'->∀ x∈dW,x∈M') (k:∀ v I' M',(∀ b o,I b=some o->I' b=some o)->(∀ x∈M'++Mr,I' x.num=none)->post v I' M'->K v I' (M'++Mr))| aeF (b:Nat) (o:Obj) (dW Mr:List aI) (post:Value->aR->List aI->Prop) (a2:M.Perm (⟨b,o⟩::(dW++Mr))) (aC:b ∉ cu) (ar:Spec P f args (ins I b o) dW post) (rJ:∀ v I' M',post v I' M'->∀ x∈dW,x∈M') (k:∀ v I' M',(∀ c p,ins I b o c=some p->I' c=some p)->(∀ x∈M'++Mr,I' x.num=none)->post v I' M'->K v I' (M'++Mr))| DH (h:tL I M->g7 soft cu P f args I M K)| UA (J7:soft=true) (dW Mr:List aI) (post:Value->aR->List aI->Prop) (a2:M.Perm (dW++Mr)) (ar:Spec P f args I dW post) (k:∀ v I' M',(∀ b o,I b=some o->I' b=some o)->post v I' M'->K v I' (M'++Mr))
def g7.elim{cu:List Nat}{f:Nat}{args:List Value}{I:aR}{K:Value->aR->List aI->Prop}(hH:tL I M)(h:g7 soft cu P f args I M K) :
  ∃ (dO:aR) (dW Mr:List aI) (post:Value->aR->List aI->Prop),jP cu I M dO (dW++Mr)/\(∀ b o,I b=some o->dO b=some o)/\Spec P f args dO dW post /\
   ∀ v I' M',(∀ b o,dO b=some o->I' b=some o)->(∀ x∈M'++Mr,I' x.num=none)->post v I' M'->(soft=true\/∀ x∈M,I' x.num=some x.obj\/x∈M'++Mr)/\K v I' (M'++Mr):=by
 have UB:∀ {dW Mr:List aI} {post:Value->aR->List aI->Prop} {I':aR},M.Perm (dW++Mr)->(∀ v I' M',post v I' M'->∀ x∈dW,x∈M')->∀ v M',post v I' M'->∀ x∈M,I' x.num=some x.obj\/x∈M'++Mr:=λa2 rJ v M' aa x ab=>by
  right
  rcases dV.1 (a2.mem_iff.1 ab)with ab | ab;·exact dV.2 (.inl (rJ v _ M' aa x ab))
  ·exact dV.2 (.inr ab)
 induction h with
 |mk post ar k=>exact⟨I,[],M,post,.refl,λ_ _ h=>h,ar,λv I' M' U _ aa=>⟨.inr λx ab=>.inr (by simp[ab]),k v I' M' U aa⟩⟩| pV dW Mr post a2 ar rJ k=>exact⟨I,dW,Mr,post,.perm a2 .refl,λ_ _ h=>h,ar,λv I' M' U _ aa=>⟨.inr (UB a2 rJ v M' aa),k v I' M' U aa⟩⟩| NK post ar k=>exact⟨I,[],M,post,.refl,λ_ _ h=>h,ar,λv I' M' U af aa=>⟨.inr λx ab=>.inr (by simp[ab]),k v I' M' U af aa⟩⟩| aeE dW Mr post a2 ar rJ k=>exact⟨I,dW,Mr,post,.perm a2 .refl,λ_ _ h=>h,ar,λv I' M' U af aa=>⟨.inr (UB a2 rJ v M' aa),k v I' M' U af aa⟩⟩
 |aeF b o dW Mr post a2 aC ar rJ k=>
  have ah:I b=none:=hH.d ⟨b,o⟩ (a2.mem_iff.2 (.head _));have aeG:ins I b o b=some o:=by unfold ins;rw[rB];rfl
  refine⟨ins I b o,dW,Mr,post,.perm a2 (.rA rfl aC .refl),λc p aN=>?_,ar,λv I' M' U af aa=>⟨.inr λx ab=>?_,k v I' M' U af aa⟩⟩
  ·unfold ins;by_cases e:c=b
   ·subst e;rw[ah]at aN;cases aN
   ·rw[hy e];exact aN
  ·rcases eL.1 (a2.mem_iff.1 ab)with rfl | ab
   ·exact .inl (U _ _ aeG)
   ·right
    rcases dV.1 ab with ab | ab;·exact dV.2 (.inl (rJ v I' M' aa x ab))
    ·exact dV.2 (.inr ab)
 |DH h a7=>exact a7 hH| UA J7 dW Mr post a2 ar k=>exact⟨I,dW,Mr,post,.perm a2 .refl,λ_ _ h=>h,ar,λv I' M' U _ aa=>⟨.inl J7,k v I' M' U aa⟩⟩
def J8(ops:List Oper)(o:Oper)(F:Fr)(run skip:Fr->Prop):Prop:=
 match o.guard with
 |none=>run F
 |some (j,b)=>
  match(ops[j]?).bind (·.dst)with
  |none=>False
  |some d=>
   match F d with
   | .lit c=>bif c == b then run F else skip F| .val (.bool c)=>b2 c b (run (g3 F d (.lit b))) (skip (g3 F d (.lit !b)))| .val (.tuple _)=>skip F| _=>False
def UC(hr p:Nat):Bool:=Nat.beq (p &&& hr) p
def aeH(ops:List Oper)(hr p:Nat):Bool:=(List.range ops.length).all λq=>!p.testBit q||(hr.testBit q||match ops[q]? with
 |some o=>!qB o.op| none=>true)
inductive qD(X:c7)(o:Oper)(F:Fr)(C:d')(I:aR)(M:List aI)(K:dQ->aR->List aI->Prop):Prop
 |mk (h:∀ β a w Q,cR X β a w F C I M->o.wpIn (hq X) 0 X.P a w (λa' w'=>∃ v x I' M',a'=a.put o.dst v/\e2 β x v/\cR X β a w' F C I' M'/\K x I' M'/\I'=I) Q)
def wP(X:c7)(aeI soft:Bool)(o:Oper)(F:Fr)(C:d')(I:aR)(M:List aI)(K:gp):Prop:=
 bif aeI then g6 X o F C I M K else
 match o.op with
 | .call { callee:=.value f,args,.. }=>
  match bG F f,mR F args.toList with
  | .val (.func (.func g) first cap),some vs=>g7 soft X.cu X.P g (first.toList++vs++cap.toList) I M λv I' M'=>K (put o.dst (.val v) F) C I' M'
  |_,_=>False
 | .alloc t=>
  match o.dst,X.E t with
  |some d,some i=>cv I M λb=>K (g3 F d (.val (.pointer (some ⟨b,0,none⟩)))) C I (⟨b,.cells i.zero.toArray t (0,0)⟩::M)
  |_,_=>False
 | .buildSlice _ _ _=>g6 X o F C I M K| .makeSlice _ _ _=>g6 X o F C I M K| .store _ _ _=>bif soft then g6 X o F C I M K else False| .call { callee:=.builtin .append,.. }=>bif soft then ∀ G:Fr,(∀ y∈o.op.operands,dD G y=dD F y)->qD X o G C I M λx I' M'=>K (put o.dst x F) C I' M' else False
 | .call { callee:=.builtin .copy,.. }=>bif soft then ∀ G:Fr,(∀ y∈o.op.operands,dD G y=dD F y)->qD X o G C I M λx I' M'=>K (put o.dst x F) C I' M' else False
 |_=>False
def J9:dQ->Nat
 | .ref s _=>s+1| _=>0
def Gy(i:Nat)(op:Op)(ρ:Operand->dQ)(cw:List (Nat×Nat)):List (Nat×Nat):=match op with
 | .load _ x=>(i,J9 (ρ x))::cw| _=>cw
def DZ(hr s:Nat):List (Nat×Nat)->Bool
 |[]=>true|(i,t)::cw=>(hr.testBit i || !Nat.beq s t)&&DZ hr s cw
def UD{hr s i t:Nat}:∀ {cw:List (Nat×Nat)},DZ hr s cw=true->(i,t)∈cw->hr.testBit i=true\/t≠s
 |(j,u)::cw,h,hm=>by
  unfold DZ at h;rw[cp,kM]at h;rcases eL.1 hm with e | hm
  ·cases e;rcases h.1 with U | U
   ·exact .inl U
   ·right
    rintro rfl;simp at U
  ·exact UD h.2 hm
def UE(hr:Nat)(op:Op)(ρ:Operand->dQ)(cw:List (Nat×Nat)):Bool:=match op with
 | .store _ x _=>(match ρ x with
  | .val (.pointer (some _))=>DZ hr 0 cw| _=>false)
 |_=>false
def UF(hr:Nat)(op:Op)(ρ:Operand->dQ)(cw:List (Nat×Nat)):Bool:=match op with
 | .store _ x _=>(match ρ x with
  | .ref s _=>DZ hr (s+1) cw| _=>false)
 |_=>false
def wQ(ic:Bool)(M:List aI):List aI:=bif ic then []else M
def aeJ{I:aR}{b:Nat}{o:Obj}(h:ix I (wQ ic M) b o):ix I M b o:=by
 cases ic with
 |false=>exact h
 |true=>
  rcases h with h | ⟨x,ab,_⟩;·exact .inl h
  ·cases ab
def UG{I:aR}(h:∀ b o,ix I M b o->ix I' M' b o)(be:∀ b o,I b=some o->I' b=some o):∀ b o,ix I (wQ ic M) b o->ix I' (wQ ic M') b o:=λb o ah=>by
 cases ic with
 |false=>exact h b o ah
 |true=>
  rcases ah with ah | ⟨x,ab,_⟩;·exact .inl (be _ _ ah)
  ·cases ab
def aeK{I:aR}(be:∀ b o,I b=some o->I' b=some o):∀ b o,ix I (wQ true M) b o->ix I' (wQ true M') b o:=λb o ah=>by
 rcases ah with ah | ⟨x,ab,_⟩
 ·exact .inl (be _ _ ah)
 ·cases ab
def UH(X:c7)(ic:Bool)(op:Op)(ρ:Operand->dQ)(C:d')(I:aR)(M:List aI)(V:dQ->Prop)(other:Prop):Prop:=match ic with
 |false=>cM X op ρ C I M V other| true=>cM X op ρ C I [] V other
def aeL{X:c7}{I:aR}{V:dQ->Prop}(h:UH X ic op ρ C I M V other):cM X op ρ C I (wQ ic M) V other:=by
 cases ic with
 |false=>exact h| true=>exact h
def aeM(ops:List Oper)(ic:Nat->Bool)(hr p:Nat):Bool:=(List.range ops.length).all λq=>!p.testBit q||(hr.testBit q||(ic q||match ops[q]? with
 |some o=>!qB o.op| none=>true))
def UI(op:Op)(ρ:Operand->dQ):Bool:=match op with
 | .store _ x _=>(match ρ x with
  | .val (.pointer (some _))=>true| _=>false)
 | .call { callee:=.builtin .append,.. }=>true| .call { callee:=.builtin .copy,.. }=>true| _=>false
def UJ(ops:List Oper)(ic:Nat->Bool)(hr p:Nat)(op:Op)(ρ:Operand->dQ):Bool:=aeM ops ic hr p&&UI op ρ
def qE(X:c7)(ops:List Oper)(ic:Nat->Bool):Nat->Nat->List (Nat×Nat)->Fr->d'->aR->List aI->gp->Prop
 |0,_,_,_,_,_,_,_=>False
 |n+1,p,cw,F,C,I,M,K=>
  match qC ops p true with
  |i::_=>
   (match ops[i]? with
   |some o=>J8 ops o F (λF=>UH X (ic i) o.op (dD F) C I M (λx=>qE X ops ic n (p ||| 2^i) (Gy i o.op (dD F) cw) (put o.dst x F) C I M K) False) (λF=>qE X ops ic n (p ||| 2^i) cw (put o.dst (.val undef) F) C I M K)| none=>False)
  |[]=>
   match qC ops p false with
   |[]=>K F C I M
   |i0::dJ=>N6 (λi=>match ops[i]? with
     |some o=>J8 ops o F (λF=>wP X (UC ((lx ops).getD i 0) p) (aeH ops ((lx ops).getD i 0) p||(UF ((lx ops).getD i 0) o.op (dD F) cw||(UE ((lx ops).getD i 0) o.op (dD F) cw||UJ ops ic ((lx ops).getD i 0) p o.op (dD F)))) o F C I M λF C I M=>qE X ops ic n (p ||| 2^i) cw F C I M K) (λF=>qE X ops ic n (p ||| 2^i) cw (put o.dst (.val undef) F) C I M K)| none=>False) (i0::dJ)
def looks(ops:List Oper)(o:Oper):List Nat:=o.looksAt ops.toArray
def D1(ops:List Oper):Bool:=
 let b:=lx ops
 (List.range ops.length).all λj=>match ops[j]? with
  |none=>true
  |some mX=>
   (mX.after.toList.all λe=>!Region.binds .any e||Nat.blt e.on j) &&
   ((match mX.dst with
    |some d=>!(looks ops mX).contains d| none=>true) &&
   ((List.range ops.length).all (λi=>Nat.beq i j||match ops[i]? with
    |none=>true
    |some gJ=>match gJ.dst with
     |none=>true| some d=>!(mX.dst == some d)&&(!(looks ops mX).contains d||((b.getD j 0).testBit i||(b.getD i 0).testBit j)))))
def mY(ops:List Oper)(j e:Nat):Prop:=∃ o nI,ops[j]?=some o/\nI∈o.after/\Region.binds .any nI=true/\nI.on=e
inductive pW(ops:List Oper):Nat->Nat->Prop
 |one{i j}(h:mY ops j i):pW ops i j| trans {i j k} (h:mY ops j k) (be:pW ops i k):pW ops i j
def BJ(ops:List Oper)(S:Nat->Prop):Prop:=∀ j e,S j->mY ops j e->S e
def pW.mem{S:Nat->Prop}(ga:BJ ops S){i j:Nat}(h:pW ops i j)(aj:∀ e,mY ops j e->S e):S i:=by
 induction h with
 |one h=>exact aj _ h| trans h _ a7=>exact a7 λe he=>ga _ e (aj _ h) he
def aeN{aZ:List Nat}{o:Oper}{i:Nat}(h:(Gx aZ o).testBit i=true):∃ e∈o.after,Region.binds .any e=true/\(e.on=i\/(aZ.getD e.on 0).testBit i=true):=by
 have key:∀ (l:List Edge) (s:Nat),(l.foldl (λs e=>bif Region.binds .any e then s ||| 2^e.on ||| aZ.getD e.on 0 else s) s).testBit i=true->s.testBit i=true\/∃ e∈l,Region.binds .any e=true/\(e.on=i\/(aZ.getD e.on 0).testBit i=true):=by
  intro l
  induction l with
  |nil=>intro s h;exact .inl h
  |cons e l a7=>
   intro s h;simp only[pP]at h;rcases a7 _ h with U | ⟨bA,tX,aa⟩
   ·cases ah:Region.binds .any e with
    |false=>rw[ah]at U;exact .inl U
    |true=>
     rw[ah]at U;simp only[bh,J4,kM,J2,e5]at U;rcases U with(U | U) | U;·exact .inl U
     ·exact .inr ⟨e,by simp,ah,.inl U⟩
     ·exact .inr ⟨e,by simp,ah,.inr U⟩
   ·exact .inr ⟨bA,by simp[tX],aa⟩
 rcases key _ 0 h with U | ⟨e,he,aa⟩
 ·simp at U
 ·exact⟨e,by simpa using he,aa⟩
def UK(ops:List Oper):∀ (l:List Oper) (a8:List Oper) (aZ:List Nat),ops=a8++l->aZ.length=a8.length->(∀ j i,(aZ.getD j 0).testBit i=true->pW ops i j) -> ∀ j i,((l.foldl (λaZ o=>aZ++[Gx aZ o]) aZ).getD j 0).testBit i=true->pW ops i j
 |[],a8,aZ,_,_,mr=>mr
 |o::l,a8,aZ,wR,b3,mr=>by
  simp only[pP];refine UK ops l (a8++[o]) _ (by simp[wR]) (by simp[b3]) ?_;intro j i h;by_cases aj:j<aZ.length;·exact mr j i (by simpa[cS,pT aj]using h)
  ·by_cases jS:j=aZ.length
   ·subst jS;have be:(Gx aZ o).testBit i=true:=by simpa[cS]using h
    obtain⟨e,he,ah,aa⟩:=aeN be;have au:ops[aZ.length]?=some o:=by rw[wR,b3];simp
    have zK:mY ops aZ.length e.on:=⟨o,e,au,he,ah,rfl⟩;rcases aa with rfl | aa;·exact .one zK
    ·exact .trans zK (mr _ _ aa)
   ·have:(aZ++[Gx aZ o]).getD j 0=0:=by rw[cS,o5 (by simp;omega)];rfl
    rw[this]at h;simp at h
def zL{j i:Nat}(h:((lx ops).getD j 0).testBit i=true):pW ops i j:=
 UK ops ops [] [] rfl rfl (λj i h=>by simp at h) j i h
section
variable{X:c7}{C C':d'}{I I':aR}{M M':List aI}
def yw{ρ jU:Operand->dQ}:∀ {xs:List Operand},(∀ y∈xs,jU y=ρ y)->kg jU xs=kg ρ xs
 |[],_=>rfl| x::xs,h=>by have U:=h x (by simp);have aa:=yw (xs:=xs) λy aH=>h y (by simp[aH]);simp only[kg,dR,U,aa]
def N7{ρ jU:Operand->dQ}:∀ {xs:List (Nat×Operand)},(∀ y∈xs.map (·.2),jU y=ρ y)->tN jU xs=tN ρ xs
 |[],_=>rfl|(i,x)::xs,h=>by have U:=h x (by simp);have aa:=N7 (xs:=xs) λy aH=>h y (by simp only[dv,eL];exact .inr aH);simp only[tN,dR,U,aa]
def UL{jU:Operand->dQ}{V:dQ->Prop}(h:cM X op ρ C I M V False)(jj:∀ y∈op.operands,jU y=ρ y)
  (ap:∀ t x,op=.load t x->(∀ s off,ρ x=.ref s off->C' s=C s)/\((∀ s off,ρ x≠.ref s off)->∀ b o,ix I M b o->ix I' M' b o)):cM X op jU C' I' M' V False:=by
 cases op
 case load t x=>
  obtain⟨aN,ae⟩:=ap t x rfl;have U:=jj x (by simp[Op.operands]);simp only[cM,U]at h |-;cases aO:X.E t with
  |none=>rw[aO]at h;exact h.elim
  |some i=>
   rw[aO]at h
   try simp only at h |-
   cases ab:ρ x with
   |ref s off=>
    rw[ab]at h
    try simp only at h |-
    rw[aN s off ab];exact h
   |val v=>
    rw[ab]at h
    try simp only at h |-
    split at h;·rename_i e;cases e
    ·rename_i a e;cases e;obtain⟨vs,⟨aa,cs,T,al,af,aP⟩,bq⟩:=h;exact⟨vs,⟨aa,cs,T,al,ae (λs off e=>by rw[ab]at e;cases e) _ _ af,aP⟩,bq⟩
    ·exact h.elim
   |lit b=>rw[ab]at h;exact h.elim| nC=>rw[ab]at h;exact h.elim
 case build t ps=>
  have U:=N7 (ρ:=ρ) (jU:=jU) (xs:=ps.toList) λy aH=>jj y (by simpa[Op.operands]using aH);simp only[cM,U]at h |-;exact h
 case makeFunc fn first captured=>
  have U:=yw (ρ:=ρ) (jU:=jU) (xs:=first.toList) λy aH=>jj y (by simp only[Op.operands,Array.mem_append];exact .inl (by simpa using aH));have aa:=yw (ρ:=ρ) (jU:=jU) (xs:=captured.toList) λy aH=>jj y (by simp only[Op.operands,Array.mem_append];exact .inr (by simpa using aH));simp only[cM,U,aa]at h |-;exact h
 case slice t x lo hi mx=>
  have U:=jj x (by simp[Op.operands]);have aa:lo.map (dR jU)=lo.map (dR ρ):=by
   cases lo with
   |none=>rfl| some y=>have:=jj y (by simp[Op.operands]);simp[dR,this]
  have af:hi.map (dR jU)=hi.map (dR ρ):=by
   cases hi with
   |none=>rfl| some y=>have:=jj y (by simp[Op.operands]);simp[dR,this]
  have aP:mx.map (dR jU)=mx.map (dR ρ):=by
   cases mx with
   |none=>rfl| some y=>have:=jj y (by simp[Op.operands]);simp[dR,this]
  simp only[cM,aa,af,aP,dR,U]at h |-;exact h
 case call c=>
  obtain⟨callee,args,argTypes⟩:=c;cases callee with
  |value f=>exact h| invoke r m=>exact h
  |builtin b=>
   cases b
   case len=>
    have U:=yw (ρ:=ρ) (jU:=jU) (xs:=args.toList) λy aH=>jj y (by simp[Op.operands,Call.operands];simpa using aH);simp only[cM,U]at h |-;exact h
   case cap=>
    have U:=yw (ρ:=ρ) (jU:=jU) (xs:=args.toList) λy aH=>jj y (by simp[Op.operands,Call.operands];simpa using aH);simp only[cM,U]at h |-;exact h
   case max=>
    have U:=yw (ρ:=ρ) (jU:=jU) (xs:=args.toList) λy aH=>jj y (by simp[Op.operands,Call.operands];simpa using aH);simp only[cM,U]at h |-;exact h
   case min=>
    have U:=yw (ρ:=ρ) (jU:=jU) (xs:=args.toList) λy aH=>jj y (by simp[Op.operands,Call.operands];simpa using aH);simp only[cM,U]at h |-;exact h
   case unsafeSliceData=>
    have U:=yw (ρ:=ρ) (jU:=jU) (xs:=args.toList) λy aH=>jj y (by simp[Op.operands,Call.operands];simpa using aH);simp only[cM,U]at h |-;exact h
   all_goals exact h
 all_goals first
  |exact h|(rename_i x;have U:=jj x (by simp[Op.operands]);simp only[cM,dR,U]at h |-;exact h)|(rename_i x y;have U:=jj x (by simp[Op.operands]);have aa:=jj y (by simp[Op.operands]);simp only[cM,dR,U,aa]at h |-;exact h)|(rename_i x y z;have U:=jj x (by simp[Op.operands]);have aa:=jj y (by simp[Op.operands]);have af:=jj z (by simp[Op.operands]);simp only[cM,dR,U,aa,af]at h |-;exact h)|(rename_i x y;have U:=jj x (by simp[Op.operands]);simp only[cM,dR,U]at h |-;exact h)|(rename_i x y;have U:=jj y (by simp[Op.operands]);simp only[cM,dR,U]at h |-;exact h)|(rename_i x y z;have U:=jj x (by simp[Op.operands]);have aa:=jj y (by simp[Op.operands]);simp only[cM,dR,U,aa]at h |-;exact h)|(rename_i x y z;have U:=jj y (by simp[Op.operands]);have aa:=jj z (by simp[Op.operands]);simp only[cM,dR,U,aa]at h |-;exact h)|(rename_i o x y z u;have U:=jj y (by simp[Op.operands]);have aa:=jj z (by simp[Op.operands]);simp only[cM,dR,U,aa]at h |-;exact h)|(rename_i x y z u;have U:=jj z (by simp[Op.operands]);have aa:=jj y (by simp[Op.operands]);simp only[cM,dR,U,aa]at h |-;exact h)
end
section
variable{X:c7}{C:d'}{I:aR}{M:List aI}
def aeO{op:BinOp}{dh:Option ec}{x y:dQ}{V:Value->Prop}{O:Prop}(h:lT op dh x y V O) :
  (∃ r,V r/\∀ rK,lT op dh x y (λz=>z=r) rK)\/(O/\∀ (N8:Value->Prop) (rK:Prop),rK->lT op dh x y N8 rK):=by
 unfold lT at h;split at h
 ·left
  split at h;·obtain⟨j,aj,⟨r,ai,ae⟩⟩:=h;exact⟨_,ae,λrK=>by unfold lT;exact⟨j,aj,⟨r,ai,rfl⟩⟩⟩
  ·obtain⟨j,aj,ae⟩:=h;exact⟨_,ae,λrK=>by unfold lT;exact⟨j,aj,rfl⟩⟩
  ·rename_i _ _ k a ed b _ gj mU;cases gq:IntKind.mT k ed with
   |false=>rw[gq]at h;exact h.elim
   |true=>
    rw[gq]at h;simp only[bh]at h;cases op<;>simp only at h
    case add=>obtain⟨r,ai,ae⟩:=h;exact⟨_,ae,λrK=>by simp only[lT,gq,bh];exact⟨r,ai,rfl⟩⟩
    case sub=>obtain⟨r,ai,ae⟩:=h;exact⟨_,ae,λrK=>by simp only[lT,gq,bh];exact⟨r,ai,rfl⟩⟩
    case mul=>obtain⟨r,ai,ae⟩:=h;exact⟨_,ae,λrK=>by simp only[lT,gq,bh];exact⟨r,ai,rfl⟩⟩
    case quo=>obtain⟨ao,⟨r,ai,ae⟩⟩:=h;exact⟨_,ae,λrK=>by simp only[lT,gq,bh];exact⟨ao,⟨r,ai,rfl⟩⟩⟩
    case rem=>obtain⟨ao,ae⟩:=h;exact⟨_,ae,λrK=>by simp only[lT,gq,bh];first | exact⟨ao,rfl⟩ | exact⟨ao,trivial⟩⟩
    case shl=>exact(gj rfl).elim
    case shr=>exact(mU rfl).elim
    all_goals exact⟨_,h,λrK=>by simp only[lT,gq,bh];rfl⟩
 ·cases op<;>first
  |exact .inl ⟨_,h,λ_=>rfl⟩| exact .inr ⟨h,λ_ _ au=>au⟩
 ·split at h
  ·cases op<;>first
   |exact .inl ⟨_,h,λ_=>rfl⟩| exact .inr ⟨h,λ_ _ au=>au⟩
  ·rename_i aw;refine .inr ⟨h,λN8 rK au=>?_⟩;cases dh with
   |none=>exact au
   |some i=>
    obtain⟨s,b,z,bO⟩:=i;cases bO<;>first
     |exact au| exact(aw _ _ _ rfl).elim
 ·rename_i U aa af;refine .inr ⟨h,λN8 rK au=>?_⟩;unfold lT;split<;>first
   |exact au| exact(U _ _ _ _ rfl rfl).elim| exact(aa _ _ rfl rfl).elim| exact(af _ _ rfl rfl).elim
def aeP{V:dQ->Prop}(h:cM X op ρ C I M V False):∃ x,V x/\cM X op ρ C I M (λy=>y=x) False:=by
 cases op
 case move x=>exact⟨_,h,rfl⟩
 case assign x=>exact⟨_,h,rfl⟩
 case pick c p q=>
  simp only[cM]at h |-;split at h;·exact⟨_,h,rfl⟩
  ·exact⟨_,h,rfl⟩
  ·exact h.elim
 case unOp op t x=>
  simp only[cM]at h |-;split at h;·exact⟨_,h,rfl⟩
  ·exact⟨_,h,rfl⟩
  ·obtain⟨r,ai,ae⟩:=h;exact⟨_,ae,⟨r,ai,rfl⟩⟩
  ·exact h.elim
 case binOp op t x y ty=>
  simp only[cM]at h |-;rcases aeO h with⟨r,U,aa⟩ | ⟨⟨qv,fN,r,aD,ay,ai,ae⟩ | U,aa⟩
  ·refine⟨_,U,?_⟩;have:(λv=>dQ.val v=dQ.val r)=(λz=>z=r):=by funext v;simp
   rw[this];exact aa _
  ·exact⟨_,ae,aa _ _ (.mk qv fN r aD ay ai rfl)⟩
  ·exact U.elim
 case load t x=>
  simp only[cM]at h |-;split at h
  ·split at h
   ·split at h
    ·rename_i i hi _ s off ar _ cs aN;cases bn:Nat.ble (off+i.size) cs.length with
     |false=>rw[bn]at h;exact h.elim| true=>rw[bn]at h;exact⟨_,h,rfl⟩
    ·exact h.elim
   ·obtain⟨vs,ai,ae⟩:=h;exact⟨_,ae,⟨vs,ai,rfl⟩⟩
   ·exact h.elim
  ·exact h.elim
 case nilCheck x=>
  simp only[cM]at h |-;split at h;·exact⟨_,h,rfl⟩
  ·exact⟨_,h,rfl⟩
  ·exact h.elim
 case fieldAddr t x i=>
  simp only[cM]at h |-;split at h
  ·split at h
   ·split at h
    ·rename_i hI s o' pR ab;cases a9:Nat.beq hI.size 0 with
     |true=>rw[a9]at h;exact h.elim| false=>rw[a9]at h;exact⟨_,h,rfl⟩
    ·rename_i hI s pR ab;cases a9:Nat.beq hI.size 0 with
     |true=>rw[a9]at h;exact h.elim| false=>rw[a9]at h;exact⟨_,h,rfl⟩
    ·exact h.elim
   ·exact h.elim
  ·exact h.elim
 case field t x i=>
  simp only[cM]at h |-;split at h
  ·split at h
   ·split at h
    ·rename_i sz h0 z cE cs av ab _ mS off jR _ hI pR;cases bn:Nat.ble (off+hI.size) cs.size with
     |false=>rw[bn]at h;exact h.elim| true=>rw[bn]at h;exact⟨_,h,rfl⟩
    ·exact h.elim
   ·exact h.elim
  ·exact h.elim
 case indexAddr t x i=>
  simp only[cM]at h |-;split at h
  ·split at h
   ·obtain⟨ad,j,U,aa,af,ae⟩:=h;exact⟨_,ae,⟨ad,j,U,aa,af,rfl⟩⟩
   ·exact h.elim
  ·split at h
   ·obtain⟨j,aa,af,ae⟩:=h;exact⟨_,ae,⟨j,aa,af,rfl⟩⟩
   ·obtain⟨j,aa,af,ae⟩:=h;exact⟨_,ae,⟨j,aa,af,rfl⟩⟩
   ·exact h.elim
  ·exact h.elim
 case index t x i=>
  simp only[cM]at h |-;split at h;·obtain⟨j,aa,af,ae⟩:=h;exact⟨_,ae,⟨j,aa,af,rfl⟩⟩
  ·split at h
   ·rename_i n e cs fY k av ab hi _ aG hQ;cases a9:Nat.beq (n*aG.size) cs.size with
    |false=>rw[a9]at h;exact h.elim| true=>rw[a9]at h;obtain⟨j,aa,af,ae⟩:=h;exact⟨_,ae,⟨j,aa,af,rfl⟩⟩
   ·exact h.elim
  ·exact h.elim
 case build t ps=>
  simp only[cM]at h |-;split at h
  ·split at h
   ·rename_i i vs av iS _ cE ot;cases aD:DI X.E cE with
    |false=>rw[aD]at h;exact h.elim
    |true=>
     rw[aD]at h;simp only[bh]at h |-;split at h;·exact⟨_,h,rfl⟩
     ·exact h.elim
   ·split at h
    ·split at h
     ·exact⟨_,h,rfl⟩
     ·exact h.elim
    ·exact h.elim
   ·exact h.elim
  ·exact h.elim
 case makeFunc fn first captured=>
  simp only[cM]at h |-;split at h;·exact⟨_,h,rfl⟩
  ·exact h.elim
 case slice t x lo hi mx=>
  simp only[cM]at h |-;split at h
  ·split at h
   ·exact⟨_,h,rfl⟩
   ·obtain⟨l,m,U,aa,af,aP,ae⟩:=h;exact⟨_,ae,⟨l,m,U,aa,af,aP,rfl⟩⟩
   ·obtain⟨l,m,U,aa,af,aP,ae⟩:=h;exact⟨_,ae,⟨l,m,U,aa,af,aP,rfl⟩⟩
   ·obtain⟨l,m,U,aa,af,aP,ae⟩:=h;exact⟨_,ae,⟨l,m,U,aa,af,aP,rfl⟩⟩
   ·exact h.elim
  ·split at h
   ·exact⟨_,h,rfl⟩
   ·obtain⟨l,m,U,aa,af,aP,ae⟩:=h;exact⟨_,ae,⟨l,m,U,aa,af,aP,rfl⟩⟩
   ·obtain⟨l,m,U,aa,af,aP,ae⟩:=h;exact⟨_,ae,⟨l,m,U,aa,af,aP,rfl⟩⟩
   ·obtain⟨l,m,U,aa,af,aP,ae⟩:=h;exact⟨_,ae,⟨l,m,U,aa,af,aP,rfl⟩⟩
   ·exact h.elim
  ·split at h
   ·obtain⟨l,m,U,aa,af,aP,ae⟩:=h;exact⟨_,ae,⟨l,m,U,aa,af,aP,rfl⟩⟩
   ·exact h.elim
  ·exact h.elim
 case extract x i=>
  simp only[cM]at h |-;split at h
  ·split at h
   ·exact⟨_,h,rfl⟩
   ·exact h.elim
  ·exact h.elim
 case convert s d x=>
  simp only[cM]at h |-;split at h;·obtain⟨r,ai,ae⟩:=h;exact⟨_,ae,⟨r,ai,rfl⟩⟩
  ·exact h.elim
 case call c=>
  obtain⟨callee,args,argTypes⟩:=c;cases callee with
  |value f=>exact h.elim| invoke r m=>exact h.elim
  |builtin b=>
   cases b
   case len=>
    simp only[cM]at h |-;split at h
    ·split at h
     ·exact⟨_,h,rfl⟩
     ·exact⟨_,h,rfl⟩
     ·exact⟨_,h,rfl⟩
     ·exact h.elim
    ·exact h.elim
   case cap=>
    simp only[cM]at h |-;split at h
    ·split at h
     ·exact⟨_,h,rfl⟩
     ·exact h.elim
    ·exact h.elim
   case max=>
    simp only[cM]at h |-;split at h;·exact⟨_,h,rfl⟩
    ·exact h.elim
   case min=>
    simp only[cM]at h |-;split at h;·exact⟨_,h,rfl⟩
    ·exact h.elim
   case unsafeSliceData=>
    simp only[cM]at h |-;split at h;·exact⟨_,h,rfl⟩
    ·obtain⟨U,aa⟩:=h;exact⟨_,aa,⟨U,rfl⟩⟩
    ·exact h.elim
   all_goals exact h.elim
 all_goals exact h.elim
end
def ix.mono{I:aR}{b:Nat}{o:Obj}(h:ix I M b o)(bL:∀ b o,I b=some o->I' b=some o)(a2:∀ x∈M,x∈M'):ix I' M' b o:=by
 rcases h with h | ⟨x,ab,U,aa⟩
 ·exact .inl (bL _ _ h)
 ·exact .inr ⟨x,a2 x ab,U,aa⟩
def ix.move{I:aR}{b:Nat}{o:Obj}(h:ix I M b o)(bL:∀ b o,I b=some o->I' b=some o)(a2:∀ x∈M,I' x.num=some x.obj\/x∈M'):ix I' M' b o:=by
 rcases h with h | ⟨x,ab,rfl,rfl⟩
 ·exact .inl (bL _ _ h)
 ·rcases a2 x ab with h | h
  ·exact .inl h
  ·exact .inr ⟨x,h,rfl,rfl⟩
def UM(F:Fr)(op:Op)(C C':d')(I I':aR)(M M':List aI):Prop:=(∀ t x y s off,op=.store t x y->dD F x=.ref s off->((∀ ct,ct≠s->C' ct=C ct)/\∀ b o,I b=some o->I' b=some o)/\∀ b o,ix I M b o->ix I' M' b o)/\(∀ t x y ad,op=.store t x y->dD F x=.val (.pointer (some ad))->C'=C/\∀ b o,I b=some o->I' b=some o)/\((∀ t x y,op≠.store t x y)->C'=C/\∀ b o,I b=some o->I' b=some o)
def aeQ(X:c7)(β:Nat->Nat)(G F:Fr)(C:d')(I:aR)(M:List aI)(aeR:Bool)(op:Op)(dst:Option Nat)(a:Act)(K:gp)(a':Act)(w':World):Prop:=
 ∃ v x C' I' M',a'=a.put dst v/\e2 β x v/\cR X β a w' G C' I' M'/\K (put dst x F) C' I' M'/\((aeR=true/\UM F op C C' I I' M M')\/(C'=C/\(∀ b o,I b=some o->I' b=some o)/\∀ b o,ix I M b o->ix I' M' b o))
def aeS{X:c7}{a:Act}{F G:Fr}{I:aR}{o:Oper}{K:gp}(aO:c6 X.P X.E)
  (h:cR X β a w G C I M) (kp:∀ y∈o.op.operands,dD G y=dD F y) (ak:wP X false soft o F C I M K):o.wpIn (hq X) 0 X.P a w (aeQ X β G F C I M soft o.op o.dst a K) Q:=by
 obtain⟨dst,op,ty,pos,after,guard⟩:=o;have aC:=h.al;have o9:∀ {y:Operand} {v:Value},y∈op.operands->bG F y=.val v->a.eval y=v:=fun {y v} aH he=>dk aC (by simp only[bG,dR,kp y aH];exact he);cases op
 case alloc t=>
  simp only[wP,bf]at ak;split at ak
  ·rename_i d i hi;obtain⟨z,a9,yl⟩:=(aO _ _ hi).Gb w;have DM:z.cells=i.zero.toArray:=by rw[<-yl]
   obtain⟨ak⟩:=ak;have ae:=ak w.heap.size h.holds.sH h.holds.rC;refine je (by simp) (v:=.pointer (some ⟨w.heap.size,0,none⟩)) (w':=w.alloc (.cells i.zero.toArray t (0,0))) ?_ ⟨_,.val _,_,_,_,rfl,rfl,h.oq _,ae,.inr ⟨rfl,λ_ _ h=>h,λb o ah=>ah.mono (λ_ _ h=>h) (λx ab=>by simp[ab])⟩⟩;simp[execOp,Instr.alloc,newVar,newRow,a9,DM,Bo]
  ·exact ak.elim
 case store t x y=>
  simp only[wP,bf]at ak;cases soft with
  |false=>exact ak.elim
  |true=>
   simp only[bh,g6]at ak;split at ak
   ·rename_i i v hi aH;have wL:=o9 (by simp[Op.operands]) aH;split at ak
    ·rename_i s off ab;have kK:=Bs aC ((kp x (by simp[Op.operands])).trans ab);split at ak
     ·rename_i cs ar;cases bn:(Nat.ble (off+i.size) cs.length&&(Nat.beq v.cells.size i.size&&gU v.cells.toList))with
      |false=>rw[bn]at ak;exact ak.elim
      |true=>
       rw[bn]at ak;simp only[cp]at bn;obtain⟨bn,c8,kh⟩:=bn;have qx:=b0 bn;have Bz:=cK c8;obtain⟨T,bM⟩:=(h.cw s cs ar).an;have:=JQ (aO _ _ hi) (a:=⟨β s,off,none⟩) (v:=v) rfl bM Bz (by simp;omega) kh;refine DJ (by simp) (w':=w.setRow (β s) (bK cs off v.cells.toList).toArray) ?_ ⟨undef,.nC,_,_,_,rfl,trivial,h.Ud ar (bK cs off v.cells.toList),ak,.inl ⟨rfl,λdt lr UN ct JO az aF=>(by
        cases az;rw[ab]at aF;cases aF;refine⟨⟨λs2 bH=>?_,λ_ _ h=>h⟩,λ_ _ h=>h⟩;unfold jy;rw[hy bH];rfl),λdt lr UN Ka az aF=>(by
        cases az;rw[ab]at aF;cases aF),λjA=>absurd rfl (jA _ _ _)⟩⟩
       simp only[execOp,Instr.storeAt,kK,wL,Instr.sureAddr,cy,dc,cc];simp only[ND]at this;rw[this];rfl
     ·exact ak.elim
    ·rename_i ad ab;have kK:=vn aC ((kp x (by simp[Op.operands])).trans ab);cases c8:Nat.beq v.cells.size i.size with
     |false=>rw[c8]at ak;exact ak.elim| true=>rw[c8]at ak;obtain⟨a8,post,cs,T,a2,cg,ah,kh,ae⟩:=ak;have Bz:=cK c8;have aA:w.heap[ad.block]?=some (.cells cs T (0,0)):=h.holds.m ⟨ad.block,.cells cs T (0,0)⟩ (by rw[a2];simp);have:=JQ (aO _ _ hi) (v:=v) cg aA Bz ah kh;refine DJ (by simp) (w':=w.setRow ad.block (bK cs.toList ad.off v.cells.toList).toArray) ?_ ⟨undef,.nC,_,_,_,rfl,trivial,h.yj a2,ae,.inl ⟨rfl,λdt lr UN ct JO az aF=>(by cases az;rw[ab]at aF;cases aF),λ_ _ _ _ _ _=>⟨rfl,λ_ _ h=>h⟩,λjA=>absurd rfl (jA _ _ _)⟩⟩;simp only[execOp,Instr.storeAt,kK,wL,Instr.sureAddr,cy,dc,cc];rw[this];rfl
    ·exact ak.elim
   ·exact ak.elim
 case buildSlice t len parts=>
  simp only[wP,bf,g6]at ak;have aeT:Br G parts.toList=Br F parts.toList:=N7 λy aH=>kp y (by simpa[Op.operands]using aH);rw[<-aeT]at ak;split at ak
  ·rename_i sz h0 z e vs av iS;have hu:=(aO _ _ av).slice;have aD:=JM aC iS;have zC:(parts.map λ(i,x)=>(i,a.eval x)).toList=vs:=by simpa using aD
   split at ak
   ·rename_i aG hQ;cases a9:(Nat.ble (len*aG.size) 16777216&&Nat.blt 0 (len*aG.size))with
    |false=>
     rw[a9]at ak;simp only[bf]at ak;split at ak
     ·rename_i aeo;obtain⟨ak⟩:=ak;have ae:=ak w.heap.size h.holds.sH h.holds.rC;refine je (by simp) (v:=.slice (some ⟨w.heap.size,0,none⟩) 0 0) (w':=w.alloc (.cells #[] e (0,0))) ?_ ⟨_,.val _,_,_,_,rfl,rfl,h.oq _,ae,.inr ⟨rfl,λ_ _ h=>h,λb o ah=>ah.mono (λ_ _ h=>h) (λx ab=>by simp[ab])⟩⟩;simp only[execOp,Instr.buildSlice,cy,cc,run_underlying hu,(aO _ _ hQ).run_sizeOf,zC];have cJ:∀ f:Nat->Value,Array.map f (Array.range 0)=#[]:=λf=>by apply Array.ext<;>simp
      simp[newRow,Bo,Instr.fill,cJ]
     ·exact ak.elim
    |true=>
     rw[a9]at ak;simp only[bh]at ak;rw[cp]at a9;have bn:=b0 a9.1;have ki:0<len*aG.size:=by simpa using a9.2
     split at ak;·rename_i cells sJ;obtain⟨tU,BA,yl⟩:=(aO _ _ hQ).Gb w;obtain⟨ak⟩:=ak;have ae:=ak w.heap.size h.holds.sH h.holds.rC;refine je (by simp) (v:=.slice (some ⟨w.heap.size,0,none⟩) len len) (w':=w.alloc (.cells cells.toArray e (0,0))) ?_ ⟨_,.val _,_,_,_,rfl,rfl,h.oq _,ae,.inr ⟨rfl,λ_ _ h=>h,λb o ah=>ah.mono (λ_ _ h=>h) (λx ab=>by simp[ab])⟩⟩;have tT:=fill_eq _ _ _ _ sJ;simp only[execOp,Instr.buildSlice,cy,cc,run_underlying hu,(aO _ _ hQ).run_sizeOf];rw[ca (by omega)];simp only[ca (show ¬ len*aG.size=0 by omega),cy,BA,cc,dc,zC,Ul tU aG.zero yl,tT];simp[newRow,Bo]
     ·exact ak.elim
   ·exact ak.elim
  ·exact ak.elim
 case makeSlice t l c=>
  simp only[wP,bf,g6]at ak;split at ak
  ·rename_i sz h0 z e hK l' iz c' av ap aN;have hu:=(aO _ _ av).slice;have ou:=o9 (by simp[Op.operands]) ap;have vx:=o9 (by simp[Op.operands]) aN;split at ak
   ·rename_i aG hQ;obtain⟨n,m,rfl,rfl,sL,ah,hm,⟨ak⟩⟩:=ak;have ae:=ak w.heap.size h.holds.sH h.holds.rC;obtain⟨inf,tU,e9,hz,iA,kj,BB⟩:=(aO _ _ hQ).inf;refine je (by simp) (v:=.slice (some ⟨w.heap.size,0,none⟩) n m) (w':=w.alloc (.cells (rowOf aG.zero (m*aG.size)).toArray e (0,0))) ?_ ⟨_,.val _,_,_,_,rfl,rfl,h.oq _,ae,.inr ⟨rfl,λ_ _ h=>h,λb o ah=>ah.mono (λ_ _ h=>h) (λx ab=>by simp[ab])⟩⟩;have hL:((aG.bytes:Nat):Int)*(m:Int)<=281474976710656:=by
     have aa:((aG.bytes*m:Nat):Int)<=281474976710656:=by omega
     simpa using aa
    have:=run_make (P:=X.P) w t e inf tU hu e9 kj hK iz (n:Int) (m:Int) (by omega) (by omega) (by rw[iA];exact hL) (by omega);simp only[execOp,ou,vx,cy,this,cc,dc,kH];have az:madeCells tU.cells (m*inf.size)=(rowOf aG.zero (m*aG.size)).toArray:=by rw[hz,<-BB];simp[vl]
    rw[az]
   ·exact ak.elim
  ·exact ak.elim
 case call c=>
  obtain⟨callee,args,argTypes⟩:=c;cases callee with
  |value f=>
   simp only[wP,bf]at ak;split at ak
   ·rename_i g first cap vs zD iS
    have aeU:mR G args.toList=some vs:=by rw[<-iS];exact yw λy aH=>kp y (by simp only[Op.operands,Call.operands];simp;right;simpa using aH)
    have aeV:=o9 (by simp[Op.operands,Call.operands]) zD;obtain⟨dO,dW,Mr,post,aeW,dd,ar,ae⟩:=ak.elim ⟨h.holds.d,h.holds.cd⟩;have az:=tO aC aeU;have eA:args.map a.eval=vs.toArray:=by apply g2;simpa using az
    have e':∀ {n:Next} {w':World},(callFunc g (first.toList++vs++cap.toList).toArray).run X.P w=.ok n w'->(execOp a.eval ⟨dst,.call { callee:=.value f,args,argTypes },ty,pos,after,guard⟩).run X.P w=.ok n w':=λai=>by simp only[execOp,resolve,aeV,Deferred.ofValue,cy,dc,cc,eA,invoke];rw[show first++vs.toArray++cap=(first.toList++vs++cap.toList).toArray from by apply g2;simp];exact ai
    have UO:∀ {I':aR} {M':List aI},(∀ b o,I b=some o->I' b=some o)->(soft=true\/∀ x∈M,I' x.num=some x.obj\/x∈M')->(soft=true/\UM F (.call { callee:=.value f,args,argTypes }) C C I I' M M')\/(C=C/\(∀ b o,I b=some o->I' b=some o)/\∀ b o,ix I M b o->ix I' M' b o):=λU aa=>by
     rcases aa with aa | aa;·exact .inl ⟨aa,⟨λt x y s off e _=>(by cases e),λt x y ad e _=>(by cases e),λ_=>⟨rfl,U⟩⟩⟩
     ·exact .inr ⟨rfl,U,λb o ah=>ah.move U aa⟩
    rcases h.call (KC:=λv I' M'=>(∀ b o,I b=some o->I' b=some o)/\(soft=true\/∀ x∈M,I' x.num=some x.obj\/x∈M')/\K (Go.V.put dst (.val v) F) C I' M') (.F' dO dW Mr post aeW ar λv I' M' bn ag aD=>⟨λb o ah=>bn _ _ (dd _ _ ah),(ae v I' M' bn ag aD).1,(ae v I' M' bn ag aD).2⟩)with⟨qw,BC⟩ | ⟨v,w',I',M',ai,⟨U,aa,ae⟩,hR⟩;·refine Uk (by simp) (f:=g) (args:=(first.toList++vs++cap.toList).toArray) (e' (qw _ _)) ?_;refine BC.mono ?_;rintro e w'⟨v,I',M',rfl,⟨U,aa,ae⟩,ai⟩;exact⟨v,rfl,v,.val v,C,I',M',rfl,rfl,ai,ae,UO U aa⟩
    ·exact je (by simp) (e' ai) ⟨v,.val v,C,I',M',rfl,rfl,hR,ae,UO U aa⟩
   ·exact ak.elim
  |invoke r m=>exact ak.elim
  |builtin b=>
   cases b
   case append=>
    simp only[wP,bf]at ak;cases soft with
    |false=>exact ak.elim| true=>simp only[bh]at ak;obtain⟨ak⟩:=ak G kp;refine tK (λa' w'=>?_) (ak β a w Q h);rintro⟨v,x,I',M',U,aa,af,aP,N9⟩;exact⟨v,x,C,I',M',U,aa,af,aP,.inl ⟨rfl,⟨λt x y s off e _=>(by cases e),λt x y ad e _=>(by cases e),λ_=>⟨rfl,λb o h=>by rw[N9];exact h⟩⟩⟩⟩
   case copy=>
    simp only[wP,bf]at ak;cases soft with
    |false=>exact ak.elim| true=>simp only[bh]at ak;obtain⟨ak⟩:=ak G kp;refine tK (λa' w'=>?_) (ak β a w Q h);rintro⟨v,x,I',M',U,aa,af,aP,N9⟩;exact⟨v,x,C,I',M',U,aa,af,aP,.inl ⟨rfl,⟨λt x y s off e _=>(by cases e),λt x y ad e _=>(by cases e),λ_=>⟨rfl,λb o h=>by rw[N9];exact h⟩⟩⟩⟩
   all_goals exact ak.elim
 all_goals exact ak.elim
def tY(x y:dQ):Prop:=∀ β u,e2 β x u->e2 β y u
def tY.refl(x:dQ):tY x x:=λ_ _ h=>h
def tY.trans{x y z:dQ}(h:tY x y)(be:tY y z):tY x z:=fun β u hu=>be β u (h β u hu)
structure wS(ops:List Oper):Prop where
 lt:∀ j e,mY ops j e->e<j
 own:∀ (j:Nat) (o:Oper) (d:Nat),ops[j]?=some o->o.dst=some d->d ∉ looks ops o
 N':∀ (i j:Nat) (gJ mX:Oper) (d:Nat),i≠j->ops[i]?=some gJ->ops[j]?=some mX->gJ.dst=some d->mX.dst≠some d
 ord:∀ (i j:Nat) (gJ mX:Oper) (d:Nat),i≠j->ops[i]?=some gJ->ops[j]?=some mX->gJ.dst=some d->d∈looks ops mX->pW ops i j\/pW ops j i
def UP(h:D1 ops=true):wS ops:=by
 have key:∀ (j:Nat) (mX:Oper),ops[j]?=some mX->_:=λj mX aj=>by have aS:j<ops.length:=(kc.1 aj).1;have U:=gh.1 h j (kI.2 aS);simp only[aj,cp]at U;exact U
 refine⟨?_,?_,?_,?_⟩
 ·rintro j e⟨o,nI,au,rL,ah,rfl⟩;have U:=gh.1 (key j o au).1 nI (by simpa using rL);rw[ah]at U;simpa using U
 ·intro j o d au ag;have U:=(key j o au).2.1;rw[ag]at U;simpa using U
 ·intro i j gJ mX d bH hi aj ag iI;have aS:i<ops.length:=(kc.1 hi).1;have U:=gh.1 (key j mX aj).2.2 i (kI.2 aS);rw[hy bH]at U;simp only[hi,ag,wO,cp]at U;rw[iI]at U;simp at U
 ·intro i j gJ mX d bH hi aj ag ap;have aS:i<ops.length:=(kc.1 hi).1;have U:=gh.1 (key j mX aj).2.2 i (kI.2 aS);rw[hy bH]at U;simp only[hi,ag,wO,cp,kM]at U;rcases U.2 with aa | aa | aa
  ·have:(looks ops mX).contains d=true:=by simpa using ap
   rw[this]at aa;cases aa
  ·exact .inl (zL aa)
  ·exact .inr (zL aa)
def jk(ops:List Oper)(i:Nat):Option Nat:=(ops[i]?).bind (·.dst)
def k4(L:Nat->Prop)(p i:Nat):Prop:=p.testBit i=true/\¬ L i
def zM(ops:List Oper)(o:Oper)(F:Fr):Prop:=match o.guard with
 |none=>True| some (j,b)=>∃ d,jk ops j=some d/\F d=.lit b
def Kb(ops:List Oper)(o:Oper)(F:Fr):Prop:=∃ j b d,o.guard=some (j,b)/\jk ops j=some d/\(F d=.lit (!b)\/∃ vs,F d=.val (.tuple vs))
def Oa{o:Oper}{j d:Nat}{b:Bool}(aA:o.guard=some (j,b))(ag:jk ops j=some d):d∈looks ops o:=by unfold looks Oper.looksAt;refine tW _ ?_;rw[aA];simp only[Option.mem_toList];simpa[jk]using ag
def Ob{o:Oper}{t:Nat}(h:Operand.tmp t∈o.op.operands):t∈looks ops o:=
 ox _ (List.mem_filterMap.2 ⟨.tmp t,by simpa using h,rfl⟩)
def UQ{o:Oper}{F:Fr}{a:Act}(h:zM ops o F)(bB:∀ t∈looks ops o,e2 β (F t) (a.tmps.getD t undef)):Region.wanted o (yielded ops.toArray a.tmps)=true:=by
 unfold zM at h;unfold Region.wanted;cases aA:o.guard with
 |none=>rfl| some Gf=>obtain⟨j,b⟩:=Gf;rw[aA]at h;obtain⟨d,ag,ap⟩:=h;have U:=bB d (Oa aA ag);rw[ap]at U;have aH:=Ge (ops:=ops.toArray) (j:=j) (d:=d) (by simpa[jk]using ag) a.tmps;simp[aH,DP U]
def UR{o:Oper}{F:Fr}{a:Act}(h:Kb ops o F)(bB:∀ t∈looks ops o,e2 β (F t) (a.tmps.getD t undef)):Region.wanted o (yielded ops.toArray a.tmps)=false:=by
 obtain⟨j,b,d,aA,ag,ap⟩:=h;unfold Region.wanted;have U:=bB d (Oa aA ag);have aH:=Ge (ops:=ops.toArray) (j:=j) (d:=d) (by simpa[jk]using ag) a.tmps;rw[aA];rcases ap with ap | ⟨vs,ap⟩
 ·rw[ap]at U;simp[aH,DP U]
 ·rw[ap]at U;have BD:yielded ops.toArray a.tmps j=none:=by
   rw[aH];cases ml:a.tmps[d]? with
   |none=>rfl| some v=>simp only[e2,pN,ml,ib]at U;subst U;rfl
  simp[BD]
def US{o:Oper}{F:Fr}{run skip:Fr->Prop}(h:J8 ops o F run skip):∃ lW,(∀ t,tY (F t) (lW t))/\((zM ops o lW/\run lW)\/(Kb ops o lW/\skip lW)):=by
 unfold J8 at h;cases aA:o.guard with
 |none=>rw[aA]at h;exact⟨F,λt=>.refl _,.inl ⟨by simp[zM,aA],h⟩⟩
 |some Gf=>
  obtain⟨j,b⟩:=Gf;rw[aA]at h;simp only at h;split at h;·exact h.elim
  ·rename_i d ag;have iI:jk ops j=some d:=ag;split at h
   ·rename_i c aN;refine⟨F,λt=>.refl _,?_⟩;cases jz:(c == b)with
    |true=>
     rw[jz]at h;have jz:c=b:=by simpa using jz
     subst jz;exact .inl ⟨by simp only[zM,aA];exact⟨d,iI,aN⟩,h⟩
    |false=>
     rw[jz]at h;have Kc:c=!b:=by cases c<;>cases b<;>simp_all
     subst Kc;exact .inr ⟨⟨j,b,d,aA,iI,.inl aN⟩,h⟩
   ·rename_i c aN;obtain⟨U,aa⟩:=h;have ic:∀ x,c=x->∀ t,tY (F t) (g3 F d (.lit x) t):=λx ab t=>by
     unfold g3;by_cases e:t=d;·subst e;subst ab;simp only[rB,bh,aN];exact λ_ _ h=>h
     ·simp only[hy e,bf];exact .refl _
    have self:∀ x,g3 F d (.lit x) d=.lit x:=λx=>by simp[g3]
    by_cases jz:c=b;·exact⟨_,ic b jz,.inl ⟨by simp only[zM,aA];exact⟨d,iI,self b⟩,U jz⟩⟩
    ·have Kc:c=!b:=by cases c<;>cases b<;>simp_all
     exact⟨_,ic _ Kc,.inr ⟨⟨j,b,d,aA,iI,.inl (self _)⟩,aa Kc⟩⟩
   ·rename_i vs aN;exact⟨F,λt=>.refl _,.inr ⟨⟨j,b,d,aA,iI,.inr ⟨vs,aN⟩⟩,h⟩⟩
   ·exact h.elim
structure aeX(X:c7)(ops:List Oper)(im':Nat->Bool)(L:Nat->Prop)(p:Nat)(cw:List (Nat×Nat))(β:Nat->Nat)(a:Act)(F:Fr)(C:d')(I:aR)(M:List aI)(hT:Nat->dQ)(gX:Nat->Fr)(q:Nat)(o:Oper):Prop where
 quiet:DY o.op=true
 ic:∀ d,o.dst=some d->tY (hT q) (F d)
 b:∀ t∈looks ops o,∀ i,k4 L p i->pW ops i q->jk ops i=some t->tY (hT i) (gX q t)
 a:∀ t∈looks ops o,(∀ i,k4 L p i->pW ops i q->jk ops i≠some t)->e2 β (gX q t) (a.tmps.getD t undef)
 r:(zM ops o (gX q)/\cM X o.op (dD (gX q)) C I (wQ (im' q) M) (λx=>x=hT q) False/\∀ t x,o.op=.load t x->(q,J9 (dD (gX q) x))∈cw)\/(Kb ops o (gX q)/\hT q=.val undef)
structure Inv(X:c7)(ops:List Oper)(im':Nat->Bool)(L:Nat->Prop)(β:Nat->Nat)(a:Act)(w:World)(F:Fr)(C:d')(I:aR)(M:List aI)(p:Nat)(cw:List (Nat×Nat))(hT:Nat->dQ)(gX:Nat->Fr):Prop where
 rel:cR X β a w (λ_=>.nC) C I M
 sub:∀ i,L i->p.testBit i=true
 wT:BJ ops L
 rM:BJ ops (λi=>p.testBit i=true)
 T:∀ t,(∀ i,k4 L p i->jk ops i≠some t)->e2 β (F t) (a.tmps.getD t undef)
 zN:∀ q,k4 L p q->∃ o,ops[q]?=some o/\aeX X ops im' L p cw β a F C I M hT gX q o
def mZ{p q i:Nat}:(p ||| 2^q).testBit i=true ↔ p.testBit i=true\/i=q:=by simp only[J4,kM,J2,e5];exact⟨λh=>h.imp id Eq.symm,λh=>h.imp id Eq.symm⟩
section
variable{X:c7}{ops:List Oper}{im':Nat->Bool}{L:Nat->Prop}{β:Nat->Nat}{a:Act}{w:World}{F:Fr}{C:d'}{I:aR}{M:List aI}{p:Nat}{cw:List (Nat×Nat)}{hT:Nat->dQ}{gX:Nat->Fr}{q:Nat}{o:Oper}
def Gz(h:ops[q]?=some o):jk ops q=o.dst:=by simp[jk,h]
def GA{i d:Nat}(h:jk ops i=some d):∃ gJ,ops[i]?=some gJ/\gJ.dst=some d:=by unfold jk at h;exact N1.1 h
def Inv.ahead(dE:wS ops)(UT:BJ ops (λi=>p.testBit i=true))(ay:ops[q]?=some o)(ly:p.testBit q=false){i t:Nat}(hi:p.testBit i=true)(av:t∈looks ops o)(ag:jk ops i=some t):pW ops i q:=by
 obtain⟨gJ,iB,qF⟩:=GA ag;have bH:i≠q:=λe=>by rw[e,ly]at hi;cases hi
 rcases dE.ord i q gJ o t bH iB ay qF av with h | h
 ·exact h
 ·have:=h.mem UT (λe he=>UT i e hi he);rw[ly]at this;cases this
def Inv.aeY(dE:wS ops)(h:Inv X ops im' L β a w F C I M p cw hT gX)(ay:ops[q]?=some o)(ly:p.testBit q=false)(bu:∀ e,mY ops q e->L e):∀ t∈looks ops o,e2 β (F t) (a.tmps.getD t undef):=λt av=>h.T t λi hi ag=>
 hi.2 ((Inv.ahead dE h.rM ay ly hi.1 av ag).mem h.wT bu)
def Kd{x:dQ}{t:Nat}(h:dst≠some t):put dst x F t=F t:=by
 cases dst with
 |none=>rfl| some d=>have:t≠d:=λe=>h (by rw[e]);simp only[put,g3,hy this,bf]
def put_eq{x:dQ}{t:Nat}:put (some t) x F t=x:=by simp[put,g3]
def Ke{t:Nat}(h:dst≠some t):(a.put dst v).tmps.getD t undef=a.tmps.getD t undef:=by
 cases dst with
 |none=>rfl| some d=>have:d≠t:=λe=>h (by rw[e]);simp only[Act.put,pN,DF,ca this]
def Oc{t:Nat}(h:t<a.tmps.size):(a.put (some t) v).tmps.getD t undef=v:=by rw[T9 a t t v h,cG rfl]
def Inv.record(dE:wS ops)(h:Inv X ops im' L β a w F C I M p cw hT gX)(ay:ops[q]?=some o)(ly:p.testBit q=false)(zK:∀ e,mY ops q e->p.testBit e=true)(Kf:DY o.op=true)
 (tZ:∀ t,tY (F t) (lW t)) {x:dQ} {Od:List (Nat×Nat)} (rH:∀ s∈cw,s∈Od) (ai:(zM ops o lW/\cM X o.op (dD lW) C I (wQ (im' q) M) (λy=>y=x) False/\∀ t y,o.op=.load t y->(q,J9 (dD lW y))∈Od)\/(Kb ops o lW/\x=.val undef)) :
  Inv X ops im' L β a w (put o.dst x lW) C I M (p ||| 2^q) Od (λi=>if i=q then x else hT i) (λi=>if i=q then lW else gX i):=by
 have rN:¬ L q:=λe=>by have:=h.sub q e;rw[ly]at this;cases this
 have qG:∀ {i},k4 L (p ||| 2^q) i->i≠q->k4 L p i:=λhi bH=>⟨(mZ.1 hi.1).resolve_right bH,hi.2⟩;have yx:∀ {i},k4 L p i->k4 L (p ||| 2^q) i:=λhi=>⟨mZ.2 (.inl hi.1),hi.2⟩;have aeZ:k4 L (p ||| 2^q) q:=⟨mZ.2 (.inr rfl),rN⟩;have ae0:∀ {i},k4 L p i->¬ pW ops q i:=fun {i} hi ah=>by have:=ah.mem h.rM (λe he=>h.rM i e hi.1 he);rw[ly]at this;cases this
 refine⟨h.rel,λi hi=>mZ.2 (.inl (h.sub i hi)),h.wT,?_,?_,?_⟩
 ·intro j e aj he;rcases mZ.1 aj with aj | rfl
  ·exact mZ.2 (.inl (h.rM j e aj he))
  ·exact mZ.2 (.inl (zK e he))
 ·intro t av;have U:o.dst≠some t:=λe=>av q aeZ (by rw[Gz ay,e]);rw[Kd U];exact tZ t _ _ (h.T t λi hi=>av i (yx hi))
 ·intro i hi;by_cases pX:i=q
  ·subst pX;refine⟨o,ay,⟨Kf,?_,?_,?_,?_⟩⟩
   ·intro d ag;rw[ag,put_eq];simp only[cG];exact .refl _
   ·intro t av j aj ah wU;have Kg:j≠i:=λe=>by subst e;have:=ah.mem h.rM zK;rw[ly]at this;cases this
    simp only[ca Kg,cG];obtain⟨mX,ae1,sR⟩:=h.zN j (qG aj Kg);exact(sR.ic t (by rw[<-Gz ae1];exact wU)).trans (tZ t)
   ·intro t av ee;simp only[cG];refine tZ t _ _ (h.T t λj aj wU=>ee j (yx aj) (Inv.ahead dE h.rM ay ly aj.1 av wU) wU)
   ·simpa using ai
  ·obtain⟨gJ,iB,sR⟩:=h.zN i (qG hi pX);refine⟨gJ,iB,⟨sR.quiet,?_,?_,?_,?_⟩⟩
   ·intro d ag;simp only[ca pX];rw[Kd (dE.N' i q gJ o d pX iB ay ag)];exact(sR.ic d ag).trans (tZ d)
   ·intro t av j aj ah wU;have GB:j≠q:=λe=>by subst e;exact ae0 (qG hi pX) ah
    simp only[ca pX,ca GB];exact sR.b t av j (qG aj GB) ah wU
   ·intro t av ee;simp only[ca pX];exact sR.a t av λj aj=>ee j (yx aj)
   ·simp only[ca pX];exact sR.r.imp (λ⟨U,aa,af⟩=>⟨U,aa,λt x az=>rH _ (af t x az)⟩) id
def Inv.exec{zI:Act->World->Prop}(aO:c6 X.P X.E)(dE:wS ops)(dy:∀ d,o.dst=some d->d<X.n)(h:Inv X ops im' L β a w F C I M p cw hT gX)(ay:ops[q]?=some o)(aD:k4 L p q)(bu:∀ e,mY ops q e->L e)
  (fv:∀ a',Inv X ops im' (λi=>L i\/i=q) β a' w F C I M p cw hT gX->zI a' w):wpOpIn (hq X) 0 X.P ops.toArray Q q zI a w:=by
 obtain⟨o',lX,sR⟩:=h.zN q aD;rw[ay]at lX;cases lX;have D2:∀ {i},pW ops i q->¬ k4 L p i:=λah hi=>hi.2 (ah.mem h.wT bu);have h5:∀ t∈looks ops o,e2 β (gX q t) (a.tmps.getD t undef):=λt av=>sR.a t av λi hi ah=>(D2 ah hi).elim;have after:∀ v,e2 β (hT q) v->Inv X ops im' (λi=>L i\/i=q) β (a.put o.dst v) w F C I M p cw hT gX:=λv ak=>by
  have qG:∀ {i},k4 (λi=>L i\/i=q) p i->k4 L p i/\i≠q:=λhi=>⟨⟨hi.1,λe=>hi.2 (.inl e)⟩,λe=>hi.2 (.inr e)⟩;have yx:∀ {i},k4 L p i->i≠q->k4 (λi=>L i\/i=q) p i:=λhi bH=>⟨hi.1,λe=>e.elim hi.2 bH⟩;refine⟨h.rel.put dy (x:=.nC) trivial |> λh=>h.refine λ_=>trivial,?_,?_,h.rM,?_,?_⟩
  ·rintro i (hi | rfl)
   ·exact h.sub i hi
   ·exact aD.1
  ·rintro j e (aj | rfl) he
   ·exact .inl (h.wT j e aj he)
   ·exact .inl (bu e he)
  ·intro t av;by_cases ag:o.dst=some t
   ·have aS:t<a.tmps.size:=by rw[h.rel.size];exact dy t ag
    rw[ag,Oc aS];exact sR.ic t ag _ _ ak
   ·rw[Ke ag];refine h.T t λi hi qF=>?_;by_cases pX:i=q
    ·subst pX;rw[Gz ay]at qF;exact ag qF
    ·exact av i (yx hi pX) qF
  ·intro i hi;obtain⟨di,pX⟩:=qG hi;obtain⟨gJ,iB,t'⟩:=h.zN i di;refine⟨gJ,iB,⟨t'.quiet,t'.ic,λt av j aj=>t'.b t av j (qG aj).1,?_,t'.r⟩⟩;intro t av ee;by_cases ag:o.dst=some t
   ·have aS:t<a.tmps.size:=by rw[h.rel.size];exact dy t ag
    rw[ag,Oc aS];have ah:pW ops q i:=by
     rcases dE.ord q i o gJ t (sC pX) ay iB ag av with ah | ah;·exact ah
     ·exact(D2 ah di).elim
    exact t'.b t av q aD ah (by rw[Gz ay,ag]) _ _ ak
   ·rw[Ke ag];refine t'.a t av λj aj ah wU=>?_;by_cases GB:j=q
    ·subst GB;rw[Gz ay]at wU;exact ag wU
    ·exact ee j (yx aj GB) ah wU
 have GC:ops.toArray[q]?=some o:=by simpa using ay
 unfold wpOpIn;simp only[GC];rcases sR.r with⟨e',UU,-⟩ | ⟨GD,ab⟩
 ·rw[UQ e' h5,cG rfl];let G:Fr:=λt=>if t∈looks ops o then gX q t else .nC
  have kp:∀ t,e2 β (G t) (a.tmps.getD t undef):=λt=>by
   by_cases av:t∈looks ops o;·simp only[G,cG av];exact h5 t av
   ·simp only[G,ca av];trivial
  have Oe:∀ y∈o.op.operands,dD G y=dD (gX q) y:=λy aH=>by
   cases y with
   |tmp t=>simp only[dD,G,cG (Ob aH)]| const v=>cases v<;>rfl
   |global g=>rfl| func f=>rfl
  have ae2:=UL UU Oe (C':=C) (I':=I) (M':=M) λ_ _ _=>⟨λ_ _ _=>rfl,λ_ _ _ h=>aeJ h⟩;obtain⟨dst,op,ty,pos,ae3,guard⟩:=o;have cf:∀ c,op≠.defer c:=λc e=>by have:=sR.quiet;rw[e]at this;cases this
  rcases Uq aO (h.rel.refine kp) op ty dst pos ae3 guard ae2 with U | ⟨v,x,jV,ab,rfl⟩;·exact U.elim
  ·exact je cf jV (fv _ (after v ab))
 ·rw[UR GD h5];simp only[lq,mh];exact⟨λ_ _=>trivial,fv _ (after undef (by rw[ab];rfl))⟩
end
section
variable{X:c7}{ops:List Oper}{im':Nat->Bool}{L:Nat->Prop}{β:Nat->Nat}{a:Act}{w:World}{F:Fr}{C:d'}{I:aR}{M:List aI}{p:Nat}{cw:List (Nat×Nat)}{hT:Nat->dQ}{gX:Nat->Fr}{q:Nat}{o:Oper}
def Inv.refine(h:Inv X ops im' L β a w F C I M p cw hT gX)(tZ:∀ t,tY (F t) (lW t)):Inv X ops im' L β a w lW C I M p cw hT gX:=
 ⟨h.rel,h.sub,h.wT,h.rM,λt av=>tZ t _ _ (h.T t av),λi hi=>by
  obtain⟨gJ,iB,aD⟩:=h.zN i hi;exact⟨gJ,iB,⟨aD.quiet,λd ag=>(aD.ic d ag).trans (tZ d),aD.b,aD.a,aD.r⟩⟩⟩
def Inv.step(dE:wS ops)(dy:∀ d,o.dst=some d->d<X.n)(h:Inv X ops im' L β a w F C I M p cw hT gX)(ay:ops[q]?=some o)(ly:p.testBit q=false)(bu:∀ e,mY ops q e->L e)
 {x:dQ} {C':d'} (ab:e2 β x v) (ai:cR X β a w' (λ_=>.nC) C' I' M')
  (hm:∀ i gJ fk,k4 L p i->ops[i]?=some gJ->qB gJ.op=true->(i,fk)∈cw->(∀ s,fk=s+1->C' s=C s)/\(fk=0->∀ b o,ix I (wQ (im' i) M) b o->ix I' (wQ (im' i) M') b o)) :
  Inv X ops im' (λi=>L i\/i=q) β (a.put o.dst v) w' (put o.dst x F) C' I' M' (p ||| 2^q) cw hT gX:=by
 have qG:∀ {i},k4 (λi=>L i\/i=q) (p ||| 2^q) i->k4 L p i:=λhi=>⟨(mZ.1 hi.1).resolve_right (λe=>hi.2 (.inr e)),λe=>hi.2 (.inl e)⟩;have yx:∀ {i},k4 L p i->k4 (λi=>L i\/i=q) (p ||| 2^q) i:=fun {i} hi=>⟨mZ.2 (.inl hi.1),λe=>e.elim hi.2 (λe=>by
  subst e;have:=hi.1;rw[ly]at this;cases this)⟩
 refine⟨ai.put dy (x:=.nC) trivial |> λh=>h.refine λ_=>trivial,?_,?_,?_,?_,?_⟩
 ·rintro i (hi | rfl)
  ·exact mZ.2 (.inl (h.sub i hi))
  ·exact mZ.2 (.inr rfl)
 ·rintro j e (aj | rfl) he
  ·exact .inl (h.wT j e aj he)
  ·exact .inl (bu e he)
 ·intro j e aj he;rcases mZ.1 aj with aj | rfl
  ·exact mZ.2 (.inl (h.rM j e aj he))
  ·exact mZ.2 (.inl (h.sub e (bu e he)))
 ·intro t av;by_cases ag:o.dst=some t
  ·have aS:t<a.tmps.size:=by rw[h.rel.size];exact dy t ag
   rw[ag,Oc aS,put_eq];exact ab
  ·rw[Ke ag,Kd ag];exact h.T t λi hi=>av i (yx hi)
 ·intro i hi;have di:=qG hi;obtain⟨gJ,iB,t'⟩:=h.zN i di;have pX:i≠q:=λe=>by subst e;have:=di.1;rw[ly]at this;cases this
  refine⟨gJ,iB,⟨t'.quiet,?_,λt av j aj=>t'.b t av j (qG aj),?_,?_⟩⟩;·intro d ag;rw[Kd (dE.N' i q gJ o d pX iB ay ag)];exact t'.ic d ag
  ·intro t av ee;have ag:o.dst≠some t:=λag=>by
    rcases dE.ord q i o gJ t (sC pX) ay iB ag av with ah | ah;·have:=ah.mem h.rM (λe he=>h.rM i e di.1 he);rw[ly]at this;cases this
    ·exact di.2 (ah.mem h.wT bu)
   rw[Ke ag];exact t'.a t av λj aj=>ee j (yx aj)
  ·refine t'.r.imp (λ⟨U,aa,af⟩=>⟨U,UL aa (λ_ _=>rfl) λt x ap=>?_,af⟩) id;have aP:=af t x ap;have bq:=hm i gJ _ di iB (by rw[ap];rfl) aP;refine⟨λs off e=>?_,λbH=>bq.2 ?_⟩
   ·exact bq.1 s (by rw[e];rfl)
   ·generalize dD (gX i) x=ae4 at bH;cases ae4 with
    |ref s off=>exact(bH s off rfl).elim| _=>rfl
def BK(X:c7)(ops:List Oper)(im':Nat->Bool)(K:gp)(L:Nat->Prop)(a:Act)(w:World):Prop:=
 ∃ β F C I M p cw hT gX n,Inv X ops im' L β a w F C I M p cw hT gX/\qE X ops im' n p cw F C I M K
def GF{k:Bool}{i:Nat}:i∈qC ops p k ↔ ∃ o,ops[i]?=some o/\p.testBit i=false/\DY o.op=k/\(∀ e,mY ops i e->p.testBit e=true):=by
 unfold qC;rw[yt,kI];have GG:∀ {o},ops[i]?=some o->(Gw o p=true ↔ ∀ e,mY ops i e->p.testBit e=true):=fun {o} au=>by
  unfold Gw;rw[gh];constructor;·rintro h e⟨o',nI,lX,rL,ah,rfl⟩;rw[au]at lX;cases lX;have:=h nI (by simpa using rL);rw[ah]at this;simpa using this
  ·intro h nI rL;cases ah:Region.binds .any nI with
   |false=>simp| true=>simp[h nI.on ⟨o,nI,au,by simpa using rL,ah,rfl⟩]
 constructor
 ·rintro⟨aS,h⟩;cases au:ops[i]? with
  |none=>rw[au]at h;cases h| some o=>rw[au]at h;simp only[cp,o7,beq_iff_eq]at h;exact⟨o,rfl,h.1,h.2.1,(GG au).1 h.2.2⟩
 ·rintro⟨o,au,U,aa,af⟩;refine⟨(kc.1 au).1,?_⟩;rw[au];simp only[U,aa,(GG au).2 af,DX,Gt,Bool.and_self]
def UW{P:Nat->Prop}:∀ {l:List Nat},N6 P l->∀ i∈l,P i
 |[],_,i,hi=>by cases hi
 |[j],h,i,hi=>by rw[gI]at hi;subst hi;exact h
 |j::k::l,h,i,hi=>by
  rcases eL.1 hi with rfl | hi;·exact h.1
  ·exact UW (l:=k::l) h.2 i hi
def ae5(i:Nat)(op:Op)(ρ:Operand->dQ)(cw:List (Nat×Nat)):∀ s∈cw,s∈Gy i op ρ cw:=λs ar=>by
 unfold Gy;split
 ·exact .tail _ ar
 ·exact ar
def ae6{i:Nat}{cw:List (Nat×Nat)}:∀ t x,op=.load t x->(i,J9 (ρ x))∈Gy i op ρ cw:=λt x az=>by subst az;unfold Gy;exact .head _
def BK.advance(dE:wS ops){K:gp}:∀ (n:Nat) {p cw F hT gX},Inv X ops im' L β a w F C I M p cw hT gX->qE X ops im' n p cw F C I M K -> ∃ p cw F hT gX n,Inv X ops im' L β a w F C I M p cw hT gX/\qC ops p true=[]/\qE X ops im' (n+1) p cw F C I M K
 |0,_,_,_,_,_,_,ak=>ak.elim
 |n+1,p,cw,F,hT,gX,bL,ak=>by
  cases ai:qC ops p true with
  |nil=>exact⟨p,cw,F,hT,gX,n,bL,ai,ak⟩
  |cons q l=>
   have gW:q∈qC ops p true:=by rw[ai];simp
   obtain⟨o,ay,ly,Kf,zK⟩:=GF.1 gW;have ls:=ak;unfold qE at ls;rw[ai]at ls;simp only[ay]at ls;obtain⟨lW,tZ,⟨e',U⟩ | ⟨GD,U⟩⟩:=US ls;·obtain⟨x,aa,af⟩:=aeP (aeL U);exact BK.advance dE n (bL.record dE ay ly zK Kf tZ (ae5 _ _ _ _) (.inl ⟨e',af,ae6⟩)) aa
   ·exact BK.advance dE n (bL.record dE ay ly zK Kf tZ (λ_ h=>h) (.inr ⟨GD,rfl⟩)) U
def mem_ready{i:Nat}(c8:dP.size=ops.length):i∈Region.ready .any ops.toArray dP ↔ ∃ o,ops[i]?=some o/\¬ dP.getD i false=true/\∀ e,mY ops i e->dP.getD e false=true:=by
 unfold Region.ready;rw[yt,kI];simp only[vu,BG,cp,o7];have GG:∀ {o},ops[i]?=some o->((o.after.all λe=>!Region.binds .any e||dP.getD e.on false)=true ↔ ∀ e,mY ops i e->dP.getD e false=true):=fun {o} au=>by
  rw[Array.all_eq_true_iff_forall_mem];constructor;·rintro h e⟨o',nI,lX,rL,ah,rfl⟩;rw[au]at lX;cases lX;have:=h nI rL;rw[ah]at this;simpa using this
  ·intro h nI rL;cases ah:Region.binds .any nI with
   |false=>simp| true=>simp[h nI.on ⟨o,nI,au,rL,ah,rfl⟩]
 have UX:i<ops.length->(dP.getD i true=false ↔ ¬ dP.getD i false=true):=λhi=>by
  have:i<dP.size:=by omega
  simp[Array.getD,this]
 constructor
 ·rintro⟨aS,U,aa⟩;cases au:ops[i]? with
  |none=>rw[au]at aa;cases aa| some o=>rw[au]at aa;exact⟨o,rfl,(UX aS).1 U,(GG au).1 aa⟩
 ·rintro⟨o,au,U,aa⟩;have aS:=(kc.1 au).1;refine⟨aS,(UX aS).2 U,?_⟩;rw[au];exact(GG au).2 aa
def UY{i:Nat}(hi:i<dP.size):(λj=>(dP.setIfInBounds i true).getD j false=true)=λj=>dP.getD j false=true\/j=i:=by
 funext j;simp only[pN,DF,eq_iff_iff];by_cases e:i=j
 ·subst e;simp[hi]
 ·simp only[ca e];constructor
  ·exact .inl
  ·rintro(h | h)
   ·exact h
   ·exact(e h.symm).elim
def todo(ops:List Oper)(dP:Array Bool):Nat:=((List.range ops.length).filter λi=>!dP.getD i false).length
def Kh{i:Nat}(hi:i<ops.length)(c8:dP.size=ops.length)(aw:¬ dP.getD i false=true):todo ops (dP.setIfInBounds i true)<todo ops dP:=by
 unfold todo;have key:∀ l:List Nat,l.Nodup->i∈l->((l.filter λj=>!(dP.setIfInBounds i true).getD j false).length<(l.filter λj=>!dP.getD j false).length):=by
  have same:∀ j,j≠i->(dP.setIfInBounds i true).getD j false=dP.getD j false:=λj aj=>by simp only[pN,DF,ca (sC aj)]
  have self:(dP.setIfInBounds i true).getD i false=true:=by
   have:i<dP.size:=by omega
   simp[pN,DF,this]
  have Ki:dP.getD i false=false:=by simpa using aw
  intro l
  induction l with
  |nil=>intro _ h;cases h
  |cons j l a7=>
   intro cf hm;rw[nB]at cf;by_cases e:j=i
   ·subst e;have:l.filter (λk=>!(dP.setIfInBounds j true).getD k false)=l.filter (λk=>!dP.getD k false):=
     N4 λk ae=>by rw[same k (λe=>cf.1 (e ▸ ae))]
    simp only[J3,self,Ki,this];simp
   ·have qH:i∈l:=by
     rcases eL.1 hm with h | h;·exact(e h.symm).elim
     ·exact h
    have:=a7 cf.2 qH;simp only[J3,same j e];split;·simp only[eQ];omega
    ·exact this
 exact key _ List.nodup_range (kI.2 hi)
def ae7(aO:c6 X.P X.E)(dE:wS ops)(dy:∀ o∈ops,∀ d,o.dst=some d->d<X.n){K:gp}(vp:∀ a w,Sat X K a w->Q .normal a w):∀ (eZ:Nat) (dP:Array Bool) (a:Act) (w:World),
  dP.size=ops.length->todo ops dP<=eZ->BK X ops im' K (λi=>dP.getD i false=true) a w->wpAnyIn (hq X) 0 X.P .any ops.toArray Q eZ dP a w:=by
 intro eZ
 induction eZ with
 |zero=>
  rintro dP a w c8 aC⟨β,F,C,I,M,p,cw,hT,gX,n,bL,ak⟩;have nJ:Region.ready .any ops.toArray dP=[]:=by
   cases ai:Region.ready .any ops.toArray dP with
   |nil=>rfl| cons i l=>obtain⟨o,au,aw,_⟩:=(mem_ready c8).1 (by rw[ai];simp:i∈Region.ready .any ops.toArray dP);have:=Kh (kc.1 au).1 c8 aw;omega
  refine⟨nJ,?_⟩;obtain⟨p,cw,F,hT,gX,n,bL,jW,ak⟩:=BK.advance dE n bL ak;have GH:∀ i,p.testBit i=true->dP.getD i false=true:=λi=>by
   induction i using Nat.strongRecOn with
   |ind i a7=>intro aD;refine DU λaw=>?_;obtain⟨o,au,_⟩:=bL.zN i ⟨aD,aw⟩;have:i∈Region.ready .any ops.toArray dP:=(mem_ready c8).2 ⟨o,au,aw,λe he=>a7 e (dE.lt i e he) (bL.rM i e aD he)⟩;rw[nJ]at this;cases this
  have pY:qC ops p false=[]:=by
   cases ai:qC ops p false with
   |nil=>rfl| cons i l=>obtain⟨o,au,aD,_,ag⟩:=GF.1 (by rw[ai];simp:i∈qC ops p false);have:i∈Region.ready .any ops.toArray dP:=(mem_ready c8).2 ⟨o,au,λbl=>(by have eh:=bL.sub i bl;rw[aD]at eh;exact Bool.noConfusion eh),λe he=>GH e (ag e he)⟩;rw[nJ]at this;cases this
  unfold qE at ak;rw[jW,pY]at ak;exact vp _ _ ⟨F,C,I,M,⟨β,bL.rel.refine λt=>bL.T t λi hi=>(hi.2 (GH i hi.1)).elim⟩,ak⟩
 |succ eZ a7=>
  rintro dP a w c8 aC⟨β,F,C,I,M,p,cw,hT,gX,n,bL,ak⟩;obtain⟨p,cw,F,hT,gX,n,bL,jW,ak⟩:=BK.advance dE n bL ak;refine⟨λnJ=>?_,λq ay=>?_⟩
  ·have GH:∀ i,p.testBit i=true->dP.getD i false=true:=λi=>by
    induction i using Nat.strongRecOn with
    |ind i a7=>intro aD;refine DU λaw=>?_;obtain⟨o,au,_⟩:=bL.zN i ⟨aD,aw⟩;have:i∈Region.ready .any ops.toArray dP:=(mem_ready c8).2 ⟨o,au,aw,λe he=>a7 e (dE.lt i e he) (bL.rM i e aD he)⟩;rw[nJ]at this;cases this
   have pY:qC ops p false=[]:=by
    cases ai:qC ops p false with
    |nil=>rfl| cons i l=>obtain⟨o,au,aD,_,ag⟩:=GF.1 (by rw[ai];simp:i∈qC ops p false);have:i∈Region.ready .any ops.toArray dP:=(mem_ready c8).2 ⟨o,au,λbl=>(by have eh:=bL.sub i bl;rw[aD]at eh;exact Bool.noConfusion eh),λe he=>GH e (ag e he)⟩;rw[nJ]at this;cases this
   unfold qE at ak;rw[jW,pY]at ak;exact vp _ _ ⟨F,C,I,M,⟨β,bL.rel.refine λt=>bL.T t λi hi=>(hi.2 (GH i hi.1)).elim⟩,ak⟩
  ·obtain⟨o,au,aw,ag⟩:=(mem_ready c8).1 ay;have aS:=(kc.1 au).1;have pb:=dy o (BH au);have iC:=UY (dP:=dP) (i:=q) (by omega);have next:∀ a' w',BK X ops im' K (λi=>dP.getD i false=true\/i=q) a' w'->wpAnyIn (hq X) 0 X.P .any ops.toArray Q eZ (dP.setIfInBounds q true) a' w':=λa' w' h=>by refine a7 _ a' w' (by simpa using c8) ?_ (by rw[iC];exact h);have:=Kh aS c8 aw;omega
   cases ly:p.testBit q with
   |true=>
    exact bL.exec aO dE pb au ⟨ly,aw⟩ ag λa' h=>next a' w ⟨β,F,C,I,M,p,cw,hT,gX,n+1,h,ak⟩
   |false=>
    have Of:∀ e,mY ops q e->p.testBit e=true:=λe he=>bL.sub e (ag e he);have ae8:DY o.op=false:=by
     cases ae9:DY o.op with
     |false=>rfl| true=>have:q∈qC ops p true:=GF.2 ⟨o,au,ly,ae9,Of⟩;rw[jW]at this;cases this
    have gW:q∈qC ops p false:=GF.2 ⟨o,au,ly,ae8,Of⟩;unfold qE at ak;rw[jW]at ak;simp only at ak;split at ak;·rename_i pY;rw[pY]at gW;cases gW
    ·rename_i i0 dJ pY;rw[pY]at gW;have ah:=UW ak q gW;simp only[au]at ah;obtain⟨lW,tZ,ah⟩:=US ah;have dd:=bL.refine tZ;have qI:=dd.aeY dE au ly ag;have GC:ops.toArray[q]?=some o:=by simpa using au
     unfold wpOpIn;simp only[GC];rcases ah with⟨e',ah⟩ | ⟨GD,ah⟩
     ·rw[UQ e' qI,cG rfl];cases Og:UC ((lx ops).getD q 0) p with
      |true=>
       rw[Og]at ah;simp only[wP,bh]at ah;have ej:∀ i,p.testBit i=true->dP.getD i false=true:=λi hi=>by
        have U:=cK Og;have aa:(p &&& (lx ops).getD q 0).testBit i=true:=by rw[U];exact hi
        rw[Nat.testBit_and,cp]at aa;exact(zL aa.2).mem bL.wT ag
       have a4:Rel X a w lW C I M:=⟨β,dd.rel.refine λt=>dd.T t λi hi=>(hi.2 (ej i hi.1)).elim⟩;refine tK (λa' w'=>?_) (DO aO pb a4 ah);rintro⟨eD,C',I',M',⟨o2,hR⟩,ae⟩;have afa:∀ i,¬ k4 (λi=>dP.getD i false=true\/i=q) (p ||| 2^q) i:=λi hi=>by
        rcases mZ.1 hi.1 with U | U;·exact hi.2 (.inl (ej i U))
        ·exact hi.2 (.inr U)
       refine next a' w' ⟨o2,eD,C',I',M',p ||| 2^q,cw,hT,gX,n,⟨hR.refine λ_=>trivial,?_,?_,?_,λt _=>hR.al t,λi hi=>(afa i hi).elim⟩,ae⟩
       ·rintro i (hi | rfl)
        ·exact mZ.2 (.inl (bL.sub i hi))
        ·exact mZ.2 (.inr rfl)
       ·rintro j e (aj | rfl) he
        ·exact .inl (bL.wT j e aj he)
        ·exact .inl (ag e he)
       ·intro j e aj he;rcases mZ.1 aj with aj | rfl
        ·exact mZ.2 (.inl (bL.rM j e aj he))
        ·exact mZ.2 (.inl (Of e he))
      |false=>
       rw[Og]at ah;let G:Fr:=λt=>if t∈looks ops o then lW t else .nC
       have kp:∀ t,e2 β (G t) (a.tmps.getD t undef):=λt=>by
        by_cases av:t∈looks ops o;·simp only[G,cG av];exact qI t av
        ·simp only[G,ca av];trivial
       have Oe:∀ y∈o.op.operands,dD G y=dD lW y:=λy aH=>by
        cases y with
        |tmp t=>simp only[dD,G,cG (Ob aH)]| const v=>cases v<;>rfl
        |global g=>rfl| func f=>rfl
       refine tK (λa' w'=>?_) (aeS aO (dd.rel.refine kp) Oe ah);rintro⟨v,x,C',I',M',rfl,ab,hR,ae,hm⟩;refine next _ _ ⟨β,_,C',I',M',p ||| 2^q,cw,hT,gX,n,dd.step dE pb au ly ag ab (hR.refine λ_=>trivial) ?_,ae⟩
       rcases hm with⟨J7,yy⟩ | ⟨rfl,bn,cY⟩
       rotate_left
       ·exact λ_ _ _ _ _ _ _=>⟨λ_ _=>rfl,λ_=>UG cY bn⟩
       have D2:∀ {i},k4 (λi=>dP.getD i false=true) p i->((lx ops).getD q 0).testBit i=true->False:=λhi ah=>hi.2 ((zL ah).mem bL.wT ag);intro i gJ fk hi iB eH gW;have ee:∀ {s:Nat},DZ ((lx ops).getD q 0) s cw=true->fk≠s:=fun {s} h e=>by
        rcases UD h gW with U | U;·exact D2 hi U
        ·exact U e
       rcases(kM _ _).mp J7 with afb | afc
       ·have U:=gh.1 afb i (kI.2 (kc.1 iB).1);rw[hi.1,iB]at U;simp only[rI,wO,kM,o7]at U;rcases U with U | U
        ·exact(D2 hi U).elim
        ·rw[U]at eH;cases eH
       rcases(kM _ _).mp afc with D3 | zO
       ·unfold UF at D3;split at D3
        ·rename_i t0 wV UZ cJ;split at D3
         ·rename_i eO ar7 az;obtain⟨⟨eJ,hs⟩,cU⟩:=yy.1 _ _ _ _ _ cJ az;exact⟨λct e=>eJ ct (λaF=>ee D3 (by rw[e,aF])),λ_=>UG cU hs⟩
         ·cases D3
        ·cases D3
       rcases(kM _ _).mp zO with zO | yz
       ·unfold UE at zO;split at zO
        ·rename_i t0 wV UZ cJ;split at zO
         ·rename_i afd az;exact⟨λ_ _=>by rw[(yy.2.1 _ _ _ _ cJ az).1],λe=>(ee zO e).elim⟩
         ·cases zO
        ·cases zO
       unfold UJ at yz;rw[cp]at yz;obtain⟨afe,yz⟩:=yz;have aff:im' i=true:=by
        have U:=gh.1 afe i (kI.2 (kc.1 iB).1);rw[hi.1,iB]at U;simp only[rI,wO,kM,o7]at U;rcases U with U | U | U;·exact(D2 hi U).elim
        ·exact U
        ·rw[U]at eH;cases eH
       have bn:C'=C/\∀ b o,I b=some o->I' b=some o:=by
        unfold UI at yz;split at yz
        ·rename_i t0 wV UZ cJ;split at yz
         ·rename_i afd az;exact yy.2.1 _ _ _ _ cJ az
         ·cases yz
        ·rename_i cJ;exact yy.2.2 (λt x y e=>by rw[cJ]at e;cases e)
        ·rename_i cJ;exact yy.2.2 (λt x y e=>by rw[cJ]at e;cases e)
        ·cases yz
       exact⟨λ_ _=>by rw[bn.1],λ_=>by rw[aff];exact aeK bn.2⟩
     ·rw[UR GD qI];simp only[lq,mh];refine⟨λ_ _=>trivial,next _ _ ⟨β,_,C,I,M,p ||| 2^q,cw,hT,gX,n,dd.step dE pb au ly ag (x:=.val undef) rfl dd.rel (λ_ _ _ _ _ _ _=>⟨λ_ _=>rfl,λ_ _ _ h=>h⟩),ah⟩⟩
end
def c4.U0{X:c7}{id:Nat}{F:Fr}{I:aR}{K:lv}(aO:c6 X.P X.E)(hm:X.P.follows .mixedOrders=true)(aN:D1 A.toList=true)(aw:zG X.n A=true)
  {im':Nat->Bool} (h:qE X A.toList im' (A.size+1) 0 [] F C I M (K .normal)):c4 X (.region id A true) F C I M K:=by
 refine⟨λa w ⟨β,a4⟩=>wpIn_region_any hm ?_⟩;have wW:cR X β a { w with drawn:=w.drawn+1 } F C I M:=a4.world rfl;have cT:∀ i,(Array.replicate A.size false).getD i false=false:=λi=>by
  by_cases hi:i<A.size<;>simp[pN,hi]
 have ua:∀ {i},¬ (Array.replicate A.size false).getD i false=true:=fun {i}=>by rw[cT];simp
 have key:=ae7 (K:=K .normal) (Q:=mV X K) aO (UP aN) (JU aw) (λ_ _ h=>h) A.size (Array.replicate A.size false) a { w with drawn:=w.drawn+1 } (by simp) ?_ ⟨β,F,C,I,M,0,[],λ_=>.nC,λ_ _=>.nC,A.size+1,⟨wW.refine λ_=>trivial,λi hi=>(ua hi).elim,λj e aj=>(ua aj).elim,λj e aj=>by simp at aj,λt _=>wW.al t,λi hi=>by simp[k4]at hi⟩,h⟩
 ·simpa using key
 ·unfold todo;refine jN (Gs _ _) (by simp)
def c4.afg{X:c7}{id:Nat}{F:Fr}{I:aR}{K:lv}(aO:c6 X.P X.E)(hm:X.P.follows .mixedOrders=true)(aN:D1 A.toList=true)(aw:zG X.n A=true)
  {im':Nat->Bool} (aB:ι->yo) (inv:ι->Prop) (ak:qE X A.toList im' (A.toList.length+1) 0 [] F C I M (qy X.cu aB inv)) (bd:∀ i,inv i->K .normal (rE (aB i).bx) (rF (aB i).cl) (aB i).c2 (aB i).du):c4 X (.region id A true) F C I M K:=by
 obtain⟨h⟩:=c4.U0 (im':=im') (K:=λe=>match e with
  | .normal=>qy X.cu aB inv| e=>K e) aO hm aN aw ak
 refine⟨λa w a4=>wpIn_mono (h a w a4) ?_⟩;intro e a w ar;cases e with
 |normal=>obtain⟨eD,C',I',M',⟨β,ai⟩,⟨j,sN,hw,bB,ov⟩⟩:=ar;exact⟨_,_,_,_,⟨β,(ai.aW bB ov).iH hw⟩,bd j sN⟩
 |_=>exact ar
def c4.draw{X:c7}{id:Nat}{F:Fr}{I:aR}{K:lv}(aO:c6 X.P X.E)(hm:X.P.follows .mixedOrders=true)(aN:D1 A.toList=true)(aw:zG X.n A=true)(h:qE X A.toList (λ_=>false) (A.size+1) 0 [] F C I M (K .normal)):c4 X (.region id A true) F C I M K:=.U0 aO hm aN aw h
def c4.Kj{X:c7}{id:Nat}{F:Fr}{I:aR}{K:lv}(aO:c6 X.P X.E)(hm:X.P.follows .mixedOrders=true)(aN:D1 A.toList=true)(aw:zG X.n A=true)
 (aB:ι->yo) (inv:ι->Prop) (ak:qE X A.toList (λ_=>false) (A.toList.length+1) 0 [] F C I M (qy X.cu aB inv)) (bd:∀ i,inv i->K .normal (rE (aB i).bx) (rF (aB i).cl) (aB i).c2 (aB i).du):c4 X (.region id A true) F C I M K:=.afg aO hm aN aw aB inv ak bd
def U1{sM:Fence}{n:Nat}{a:Act}{c:Code}(J:Nat->Nat->Act->World->Prop)
  (first:c.wpIn sM n P (λe a' w'=>match e with
   | .goto l=>∃ m,J l m a' w'| e=>Q e a' w') a w)
  (pass:∀ l m a w,J l m a w->∃ bd,findLabel c l=some bd/\bd.wpIn sM n P (λe a' w'=>match e with
   | .goto l'=>∃ m',m'<m/\J l' m' a' w'| e=>Q e a' w') a w):(Code.scope c).wpIn sM n P Q a w:=by
 intro b k cs mm ah ai;have eO:step P (lone (b.atR a (.code (.scope c)::k)) cs w)=.next (lone (b.atR a (.code c::.inScope c::k)) cs w):=
  step_lone_go (by simp[stepG,stepG.exec,Frame.atR])
 have s1:∀ a w,step P (lone (b.atR a (.inScope c::k)) cs w)=.next (lone (b.atR a k) cs w):=λa w=>
  step_lone_go (by simp[stepG,stepG.exec,Frame.atR])
 have ab:∀ id,exitTo id (.inScope c::k)=exitTo id k:=λid=>by simp[exitTo]
 have fin:∀ {m:Machine} {e:Exit} {kk:Act} {kl:World},(∀ l,e≠.goto l)->ArrivesIn (Machine.fenced P sM) P m b (.inScope c::k) cs e kk kl->ArrivesIn (Machine.fenced P sM) P m b k cs e kk kl:=by
  intro m e kk kl bH jg;cases e with
  |normal=>exact StepsIn.trans jg (.one (fenced_calm ah ai rfl) (s1 _ _))| exit id=>exact⟨λed ae=>jg.1 ed (by rw[ab];exact ae),λhR ae=>jg.2 hR (by rw[ab];exact ae)⟩| goto l=>exact(bH l rfl).elim| ret=>exact jg| panic qz=>exact jg| outgrown=>exact jg
 have key:∀ m l a w,J l m a w->∀ bd,findLabel c l=some bd->∃ e a' w',Q e a' w'/\ArrivesIn (Machine.fenced P sM) P (lone (b.atR a (.code bd::.inScope c::k)) cs w) b k cs e a' w':=by
  intro m
  induction m using Nat.strongRecOn with
  |_ m a7=>
   intro l a w bZ bd zP;obtain⟨D4,aC,hw⟩:=pass l m a w bZ;rw[zP]at aC;cases aC;obtain⟨e,kk,kl,ay,jg⟩:=hw b (.inScope c::k) cs mm ah ai;cases e with
   |goto l'=>
    obtain⟨m',aS,GI⟩:=ay;obtain⟨D4,wX,_⟩:=pass l' m' kk kl GI;have aA:gotoIn l' (.inScope c::k)=some (.code D4::.inScope c::k):=by simp[gotoIn,wX]
    obtain⟨Gh,Gi,Gj,Gk,Gl⟩:=a7 m' aS l' kk kl GI D4 wX;exact⟨Gh,Gi,Gj,Gk,.of_steps (jg.1 _ aA) Gl⟩
   |normal=>exact⟨_,kk,kl,ay,fin (by simp) jg⟩| exit id=>exact⟨_,kk,kl,ay,fin (by simp) jg⟩| ret=>exact⟨_,kk,kl,ay,fin (by simp) jg⟩| panic qz=>exact⟨_,kk,kl,ay,fin (by simp) jg⟩| outgrown=>exact⟨_,kk,kl,ay,fin (by simp) jg⟩
 have ao:(lone (b.atR a (.code (.scope c)::k)) cs w).fenced P sM:=fenced_calm ah ai rfl;obtain⟨e,kk,kl,ay,jg⟩:=first b (.inScope c::k) cs mm ah ai
 cases e with
 |goto l'=>
  obtain⟨m',GI⟩:=ay;obtain⟨D4,wX,_⟩:=pass l' m' kk kl GI;have aA:gotoIn l' (.inScope c::k)=some (.code D4::.inScope c::k):=by simp[gotoIn,wX]
  obtain⟨Gh,Gi,Gj,Gk,Gl⟩:=key m' l' kk kl GI D4 wX;exact⟨Gh,Gi,Gj,Gk,.of_steps (.head ao eO (jg.1 _ aA)) Gl⟩
 |normal=>exact⟨_,kk,kl,ay,.of_steps (.one ao eO) (fin (by simp) jg)⟩| exit id=>exact⟨_,kk,kl,ay,.of_steps (.one ao eO) (fin (by simp) jg)⟩| ret=>exact⟨_,kk,kl,ay,.of_steps (.one ao eO) (fin (by simp) jg)⟩| panic qz=>exact⟨_,kk,kl,ay,.of_steps (.one ao eO) (fin (by simp) jg)⟩| outgrown=>exact⟨_,kk,kl,ay,.of_steps (.one ao eO) (fin (by simp) jg)⟩
def Oh(N:Nat->gp)(K:lv):lv
 | .goto l=>N l| e=>K e
def c4.scope{X:c7}{c:Code}{F:Fr}{I:aR}{K:lv}(aO:c6 X.P X.E)(bb:codeOk X.n c=true)(aB:ι->yo)(wY:ι->Nat)(inv:ι->Prop)(μ:ι->Nat)(bd:Nat->Code)(zP:∀ i,inv i->findLabel c (wY i)=some (bd (wY i))/\codeOk X.n (bd (wY i))=true)(first:V X c F C I M (Oh (λl=>qy X.cu aB λj=>inv j/\wY j=l) K))(pass:∀ i,inv i->V X (bd (wY i)) (rE (aB i).bx) (rF (aB i).cl) (aB i).c2 (aB i).du (Oh (λl=>qy X.cu aB λj=>(inv j/\wY j=l)/\μ j<μ i) K)) :
  c4 X (.scope c) F C I M K:=by
 refine⟨λa w a4=>?_⟩;let J (l m:Nat) (a:Act) (w:World):Prop:=∃ i,inv i/\wY i=l/\μ i=m/\Rel X a w (rE (aB i).bx) (rF (aB i).cl) (aB i).c2 (aB i).du
 have zH:∀ {p:ι->Prop} {l:Nat} {a w},(∀ i,p i->inv i/\wY i=l)->Sat X (qy X.cu aB p) a w->∃ i,p i/\J l (μ i) a w:=by rintro p l a w aD⟨F,C,I,M,⟨β,ai⟩,⟨j,sN,hw,bB,ov⟩⟩;exact⟨j,sN,j,(aD j sN).1,(aD j sN).2,rfl,β,(ai.aW bB ov).iH hw⟩
 refine U1 J (wpIn_mono (rG aO c bb a4 first) ?_) ?_
 ·intro e a w h;cases e with
  |goto l=>obtain⟨j,aj,bZ⟩:=zH (p:=λj=>inv j/\wY j=l) (l:=l) (λ_ h=>h) h;exact⟨_,bZ⟩
  |_=>exact h
 ·rintro l m a w⟨i,hi,rfl,rfl,ai⟩;obtain⟨U,aa⟩:=zP i hi;refine⟨_,U,wpIn_mono (rG aO _ aa ai (pass i hi)) ?_⟩;intro e a w h;cases e with
  |goto l'=>obtain⟨j,aj,bZ⟩:=zH (p:=λj=>(inv j/\wY j=l')/\μ j<μ i) (l:=l') (λ_ h=>h.1) h;exact⟨_,aj.2,bZ⟩
  |_=>exact h
def GJ(P:Program)(l:Nat)(args:List Value)(I:aR)(M:List aI)(post:Value->aR->List aI->Prop):Prop:=
 ∀ w,eI I M w->∃ f tmps assign body,(Instr.yield l args.toArray).run P w=.ok (.round l f tmps assign body) w /\ RoundIn Fence.wide 0 P l f tmps assign body w λe w'=>∃ v I' M',e=.returned v/\post v I' M'/\eI I' M' w'/\Kept I M w I' M' w'
inductive Kk(P:Program)(l:Nat)(args:List Value)(I:aR)(M:List aI)(K:Value->aR->List aI->Prop):Prop
 |mk(dW Mr:List aI)(post:Value->aR->List aI->Prop)(a2:M.Perm (dW++Mr))(ar:GJ P l args I dW post)(k:∀ v I' M',(∀ b o,I b=some o->I' b=some o)->post v I' M'->K v I' (M'++Mr))
def bs.yield{X:c7}{o:Oper}{F:Fr}{I:aR}{K:gp}{args:Array Operand}{ts:Array TypeId}{l:Nat}(au:o.op=.call { callee:=.value f,args,argTypes:=ts })(ag:∀ d,o.dst=some d->d<X.n)(aC:bG F f=.val (.func (.yield l) #[] #[]))(iS:mR F args.toList=some vs)
  (h:Kk X.P l vs I M λv I' M'=>K (put o.dst (.val v) F) C I' M'):bs X o F C I M K:=by
 refine⟨λa w Q ⟨β,a4⟩=>?_⟩;obtain⟨dW,Mr,post,a2,ar,ae⟩:=h;obtain⟨fn,tmps,assign,body,aH,ai⟩:=ar w (a4.holds.part a2);have az:=tO a4.al iS;have eA:args.map a.eval=vs.toArray:=by apply g2;simpa using az
 have aF:=dk a4.al aC;obtain⟨dst,op,ty,pos,after,guard⟩:=o;simp only at au;subst au;refine⟨λ_ _=>trivial,?_⟩;rw[JJ _ _ _ (by simp)];have e':(execOp a.eval ⟨dst,.call { callee:=.value f,args,argTypes:=ts },ty,pos,after,guard⟩).run X.P w=.ok (.round l fn tmps assign body) w:=by simp only[execOp,resolve,aF,Deferred.ofValue,cy,dc,cc,eA,invoke];simpa using aH
 rw[e',Oper.uponIn_round];refine⟨(λh=>by cases h),?_⟩;have hR:RoundIn (hq X) (0-1) X.P l fn tmps assign body w _:=ai;refine hR.mono ?_;rintro e w'⟨v,I',M',rfl,aD,rD,fv⟩;exact⟨_,_,_,_,⟨β,(a4.after a2 rD fv).put (x:=.val v) ag rfl⟩,ae v I' M' fv.le aD⟩
def Iter(P:Program)(g:Nat)(cap:List Value)(I:aR)(pZ:List (List Value)):Prop:=
 ∀ (l:Nat) (R:Nat->aR->List aI->Prop) (vy:aR->List aI->Prop),(∀ k (ae:k<pZ.length) I' M',(∀ b o,I b=some o->I' b=some o)->R k I' M'->GJ P l pZ[k] I' M' λv GK oz=>(v=.bool true/\R (k+1) GK oz)\/(v=.bool false/\vy GK oz)) -> ∀ er M0,(∀ b o,I b=some o->er b=some o)->R 0 er M0->yf P g (.func (.yield l) #[] #[]::cap) er M0 λ_ I' M'=>R pZ.length I' M'\/vy I' M'
def GL:List Nat->List Value->Fr->Fr
 |t::ps,v::vs,F=>GL ps vs (g3 F t (.val v))| _,_,F=>F
def afh(cu:List Nat)(N:aR->List aI->Prop)(vy:vq->aR->List aI->Prop):lv:=λex F C I M=>match ex with
 | .normal=>wM cu I M N| ex=>wM cu I M (vy ex)
def D5:vq->Option Code
 | .normal=>none| .exit id=>some (.exit id)| .goto l=>some (.goto l)| .ret=>some .ret
section
variable{X:c7}{β:Nat->Nat}{a:Act}{w:World}{F:Fr}{C:d'}{I:aR}{M:List aI}
def U2:∀ (ps:List Nat) (vs:List Value) (F:Fr) (tmps:Array Value),(∀ t∈ps,t<tmps.size)->(∀ t,e2 β (F t) (tmps.getD t undef)) ->
  let r:=(ps.zip vs).foldl (λ(tmps:Array Value) (p:Nat×Value)=>tmps.setIfInBounds p.1 p.2) tmps
  r.size=tmps.size/\∀ t,e2 β (GL ps vs F t) (r.getD t undef)
 |[],vs,F,tmps,_,h=>⟨rfl,h⟩| t::ps,[],F,tmps,_,h=>⟨rfl,h⟩
 |t::ps,v::vs,F,tmps,aD,h=>by
  have U:∀ s,e2 β (g3 F t (.val v) s) ((tmps.setIfInBounds t v).getD s undef):=λs=>by have:=NN (β:=β) (F:=F) (a:=⟨tmps,[]⟩) h (d:=t) (x:=.val v) (v:=v) (aD t (by simp)) rfl s;exact this
  have a7:=U2 ps vs (g3 F t (.val v)) (tmps.setIfInBounds t v) (λs ar=>by simpa using aD s (by simp[ar])) U;simp only[List.zip_cons_cons,pP,GL];exact⟨by simpa using a7.1,a7.2⟩
def cR.U3(h:cR X β a w F C I M):cR X β { a with defers:=yh w.heap.size::a.defers } (w.alloc (.deferred (some []))) F C I M where
 size:=h.size
 defers:=by
  obtain⟨bg,U,aa,af⟩:=h.defers;refine⟨w.heap.size::bg,by simp[U],?_,?_⟩;·rw[nB];refine⟨λhm=>?_,aa⟩;have:=(lS.1 (af _ hm).an).1;omega
  ·intro r ai;rcases eL.1 ai with rfl | ai
   ·exact⟨NL w _,h.sz,h.holds.sH,h.holds.rC⟩
   ·exact(af r ai).alloc _
 holds:=h.holds.alloc _
 al:=h.al
 cw s cs ar:=(h.cw s cs ar).alloc _
 inj:=h.inj
 iy:=h.iy
 h2:=h.h2
 own:=h.own
 dg:=NP h.dg h.sz _
 out:=h.out
 sz:=by have:=h.sz;simp;omega
def cR.GM{n:Nat}{o o':Obj}(h:cR X β a w F C I (⟨n,o⟩::M)):cR X β a (w.putObj n o') F C I M:=by
 have fT:(⟨n,o⟩:aI)∈(⟨n,o⟩:aI)::M:=by simp
 have cf:=h.holds.cd;simp only[dv,nB]at cf;exact {
  size:=h.size
  defers:=h.defers.mono λr ai=>by have bH:n≠r:=ai.e3 _ fT;refine { ai with an:=?_,e3:=λx ab=>ai.e3 x (by simp[ab]) };rw[nz (sC bH)];exact ai.an
  holds:={
   i:=λb o jQ=>by rw[nz (λe=>by have:=h.holds.d _ fT;simp only at this;rw[e,this]at jQ;cases jQ)];exact h.holds.i b o jQ
   m:=λx ab=>by rw[nz (λe=>cf.1 (dC.2 ⟨x,ab,e⟩))];exact h.holds.m x (by simp[ab])
   d:=λx ab=>h.holds.d x (by simp[ab])
   cd:=cf.2 }
  al:=h.al
  cw:=λs cs ar=>by have ah:=h.cw s cs ar;have bH:n≠β s:=ah.e3 _ fT;obtain⟨T,bM⟩:=ah.an;refine { ah with an:=⟨T,?_⟩,e3:=λx ab=>ah.e3 x (by simp[ab]) };rw[nz (sC bH)];exact bM
  inj:=h.inj
  iy:=h.iy
  h2:=h.h2
  own:=λx ab=>h.own x (by simp[ab])
  dg:=λb ah aC=>by
   rw[nz (λe=>by
    rcases h.own _ fT with U | U;·simp only at U;exact aC (e ▸ U)
    ·simp only at U;omega)]
   exact h.dg b ah aC
  out:=h.out.trans (JN _ _ _)
  sz:=by have:=h.sz;simpa using this }
def c4.range{K:lv}{ps:Array Nat}{fD body:Code}{cap:Array Value}{pZ:List (List Value)}(aO:c6 X.P X.E)(mm:X.ro=none)(bb:(codeOk X.n fD&&(codeOk X.n body&&ps.toList.all (λt=>Nat.blt t X.n)))=true)(afi:bG F f=.val (.func (.func g) #[] cap)){dO:aR}{M1:List aI}(Oi:jP X.cu I M dO M1)(afj:Iter X.P g cap.toList dO pZ)(b3:∀ vs∈pZ,vs.length=ps.size)(R:Nat->aR->List aI->Prop)(vy:vq->aR->List aI->Prop)(start:R 0 dO M1)(round:∀ k (ae:k<pZ.length) I' M',(∀ b o,dO b=some o->I' b=some o)->R k I' M'->∀ l B ao jX,V ⟨X.P,X.E,X.g5,X.n,B,ao,I',M'.map (·.num),some l⟩ fD (GL ps.toList pZ[k] F) (λ_=>none) I' M' (BE (λF C I M=>V ⟨X.P,X.E,X.g5,X.n,B,jX,I',M'.map (·.num),some l⟩ body F C I M (afh (M'.map (·.num)) (R (k+1)) vy)) (λ_ _ _ _ _=>False)))(done:∀ I' M',(∀ b o,dO b=some o->I' b=some o)->R pZ.length I' M'->K .normal F C I' M')(stop:∀ ex I' M',(∀ b o,dO b=some o->I' b=some o)->vy ex I' M'->ex≠.normal/\K ex F C I' M') :
  c4 X (.rangeFunc f ps fD body) F C I M K:=by
 refine⟨λa w ⟨β,lY⟩=>?_⟩;have a4:=lY.iH Oi;simp only[cp]at bb;obtain⟨wZ,gy,ub⟩:=bb;refine wpIn_rangeFunc λfn _=>?_;let g8 (s:LoopState) (qG:Option Code):Loop:={ state:=s,pending:=qG,fn:=fn,tmps:=a.tmps,params:=ps,assign:=fD,body:=body,defers:=w.heap.size }
 let l:=w.heap.size+1
 let jY:World:=(w.alloc (.deferred (some []))).alloc (.loop (g8 .ready none))
 have BL:=a4.U3.oq (.loop (g8 .ready none));have ap:(w.alloc (.deferred (some []))).heap.size=l:=by simp[l]
 rw[ap]at BL;let Oj (k:Nat) (I':aR) (M':List aI):Prop:=∃ ey,M'=⟨l,.loop (g8 .ready none)⟩::ey/\R k I' ey
 let U4 (I':aR) (M':List aI):Prop:=∃ ex c ey,D5 ex=some c/\M'=⟨l,.loop (g8 .done (some c))⟩::ey/\vy ex I' ey
 have aH:∀ k (ae:k<pZ.length) I' M',(∀ b o,dO b=some o->I' b=some o)->Oj k I' M'->GJ X.P l pZ[k] I' M' λv GK oz=>(v=.bool true/\Oj (k+1) GK oz)\/(v=.bool false/\U4 GK oz):=by
  rintro k ae I' _ bn⟨ey,rfl,afk⟩W hP;have GN:W.heap[l]?=some (.loop (g8 .ready none)):=hP.m ⟨l,.loop (g8 .ready none)⟩ (by simp);have aS:l<W.heap.size:=(lS.1 GN).1;have cf:=hP.cd;simp only[dv,nB]at cf;have U5:I' l=none:=hP.d ⟨l,.loop (g8 .ready none)⟩ (by simp);refine⟨_,_,_,_,run_yield GN (by simpa using b3 _ (cC ae)),?_⟩;have Ok:((g8 LoopState.ready none).params.zip pZ[k].toArray).foldl (λtmps (x:Nat×Value)=>match x with | (t,a)=>tmps.setIfInBounds t a) (g8 LoopState.ready none).tmps=(ps.toList.zip pZ[k]).foldl (λ(tmps:Array Value) (p:Nat×Value)=>tmps.setIfInBounds p.1 p.2) a.tmps:=by rw[<-NE];simp[g8]
  have Ol:=U2 (β:=β) ps.toList pZ[k] F a.tmps (λt av=>by
   have:=gh.1 ub t av;rw[a4.size];exact b0 this) a4.al
  rw[<-Ok]at Ol;refine roundIn_of_wpIn (F:=Fence.wide) (n:=0) trivial ?_;let w0:c7:=⟨X.P,X.E,X.g5,X.n,W.heap.size,W,I',ey.map (·.num),some l⟩
  let jX:=W.putObj l (.loop (g8 .busy none))
  let GO:c7:=⟨X.P,X.E,X.g5,X.n,W.heap.size,jX,I',ey.map (·.num),some l⟩
  have ak:=round k ae I' ey bn afk l W.heap.size W jX;have Gn:cR w0 β { tmps:=((g8 LoopState.ready none).params.zip pZ[k].toArray).foldl (λtmps (x:Nat×Value)=>match x with | (t,a)=>tmps.setIfInBounds t a) (g8 LoopState.ready none).tmps,defers:=[] } W (GL ps.toList pZ[k] F) (λ_=>none) I' ey:={
   size:=Ol.1.trans a4.size
   defers:=⟨[],rfl,Bp,λr ai=>by cases ai⟩
   holds:=⟨hP.i,λx ab=>hP.m x (by simp[ab]),λx ab=>hP.d x (by simp[ab]),cf.2⟩
   al:=Ol.2
   cw:=λs cs ar=>by cases ar
   inj:=λs ct U=>by simp at U
   iy:=λb o ah=>ah
   h2:=λb o ah=>.inl ah
   own:=λx ab=>.inl (dC.2 ⟨x,ab,rfl⟩)
   dg:=λb ah aC=>rfl
   out:=.refl _
   sz:=bY _ }
  have JX:=rG (X:=w0) aO fD wZ ⟨β,Gn⟩ ak;refine wpIn_mono (Q:=mV w0 _) JX ?_;intro e bz iV ar;cases e with
  |exit id=>obtain⟨_,_,_,_,_,ae⟩:=ar;exact ae.elim
  |goto id=>obtain⟨_,_,_,_,_,ae⟩:=ar;exact ae.elim
  |ret=>obtain⟨_,_,_,_,_,ae⟩:=ar;exact ae.elim
  |panic qz=>exact ar.elim| outgrown=>exact ar.elim
  |normal=>
   obtain⟨lW,afl,fE,kq,⟨U6,jW⟩,yn⟩:=ar;have zQ:iV.heap[l]?=some (.loop (g8 .ready none)):=by rw[jW.dg l aS cf.1];exact GN
   refine⟨_,run_beginRound zQ rfl,?_⟩;have afm:fE l=none:=by
    cases bL:fE l with
    |none=>rfl
    |some o=>
     rcases jW.h2 _ _ bL with U | U;·rw[show w0.er=I' from rfl,U5]at U;cases U
     ·exact absurd U (Nat.not_le.2 aS)
   have afn:∀ x∈kq,x.num≠l:=λx ab e=>by
    rcases jW.own x ab with U | U;·rw[e]at U;exact cf.1 U
    ·rw[e]at U;exact absurd U (Nat.not_le.2 aS)
   have pY:cR GO U6 bz (iV.putObj l (.loop (g8 .busy none))) lW afl fE kq:={
    size:=jW.size
    defers:=by obtain⟨bg,aV,a3,bW⟩:=jW.defers;refine⟨bg,aV,a3,λr fj=>?_⟩;have ai:=bW r fj;refine { an:=?_,aW:=ai.aW,kf:=ai.kf,e3:=ai.e3 };rw[nz (λe=>by have U:=ai.an;rw[e,zQ]at U;cases U)];exact ai.an
    holds:={
     i:=λb o jQ=>by rw[nz (λe=>by rw[e,afm]at jQ;cases jQ)];exact jW.holds.i b o jQ
     m:=λx ab=>by rw[nz (afn x ab)];exact jW.holds.m x ab
     d:=jW.holds.d
     cd:=jW.holds.cd }
    al:=jW.al
    cw:=λs cs ar=>by have ah:=jW.cw s cs ar;obtain⟨T,bM⟩:=ah.an;refine { an:=⟨T,?_⟩,aW:=ah.aW,kf:=ah.kf,e3:=ah.e3 };rw[nz (λe=>by rw[e,zQ]at bM;cases bM)];exact bM
    inj:=jW.inj
    iy:=jW.iy
    h2:=jW.h2
    own:=jW.own
    dg:=λb ah aC=>by
     by_cases e:b=l;·subst e;rw[DV (lS.1 zQ).1];exact(DV aS).symm
     ·rw[nz e];show _=(W.putObj l (.loop (g8 .busy none))).heap[b]?;rw[nz e];exact jW.dg b ah aC
    out:=⟨jW.out.1,jW.out.2⟩
    sz:=by have:=jW.sz;simpa using this }
   have afo:=rG (X:=GO) aO body gy ⟨U6,pY⟩ yn;refine wpIn_mono (Q:=mV GO _) afo ?_;have fin:∀ (cj:Act) (pc:World) (w1:Fr) (w2:d') (ie:aR) (kr:List aI) (jump:Option Code),Rel GO cj pc w1 w2 ie kr->∃ kt,(Instr.endRound l jump).run X.P pc=.ok (.bool jump.isNone) kt /\
     eI ie (⟨l,.loop (g8 (if jump.isNone then .ready else .done) jump)⟩::kr) kt/\Kept I' (⟨l,.loop (g8 .ready none)⟩::ey) W ie (⟨l,.loop (g8 (if jump.isNone then .ready else .done) jump)⟩::kr) kt:=by
    rintro cj pc w1 w2 ie kr jump⟨zR,af⟩;have BM:pc.heap[l]?=some (.loop (g8 .busy none)):=by rw[af.dg l aS cf.1];exact DV aS
    have U7:ie l=none:=by
     cases bL:ie l with
     |none=>rfl
     |some o=>
      rcases af.h2 _ _ bL with U | U;·rw[show GO.er=I' from rfl,U5]at U;cases U
      ·exact absurd U (Nat.not_le.2 aS)
    have U8:∀ x∈kr,x.num≠l:=λx ab e=>by
     rcases af.own x ab with U | U;·rw[e]at U;exact cf.1 U
     ·rw[e]at U;exact absurd U (Nat.not_le.2 aS)
    refine⟨_,run_endRound jump BM,?_,?_⟩
    ·exact {
      i:=λb o jQ=>by rw[nz (λe=>by rw[e,U7]at jQ;cases jQ)];exact af.holds.i b o jQ
      m:=λx ab=>by
       rcases eL.1 ab with rfl | ab;·exact DV (lS.1 BM).1
       ·rw[nz (U8 x ab)];exact af.holds.m x ab
      d:=λx ab=>by
       rcases eL.1 ab with rfl | ab;·exact U7
       ·exact af.holds.d x ab
      cd:=by
       simp only[dv,nB];refine⟨λhm=>?_,af.holds.cd⟩;obtain⟨x,ab,e⟩:=dC.1 hm;exact U8 x ab e }
    ·exact {
      le:=af.iy
      vk:=af.h2
      wH:=λx ab=>by
       rcases eL.1 ab with rfl | ab;·exact .inl ⟨⟨l,.loop (g8 .ready none)⟩,by simp,rfl⟩
       ·rcases af.own x ab with U | U
        ·obtain⟨y,aH,e⟩:=dC.1 U;exact .inl ⟨y,by simp[aH],e⟩
        ·exact .inr U
      dg:=λb ah bH=>by
       have qJ:b≠l:=λe=>bH ⟨l,.loop (g8 .ready none)⟩ (by simp) e.symm;rw[nz qJ,af.dg b ah (λhm=>by
        obtain⟨y,aH,e⟩:=dC.1 hm;exact bH y (by simp[aH]) e)]
       exact nz qJ
      out:=⟨af.out.1,af.out.2⟩
      sz:=by have:=af.sz;simpa using this }
   intro e cj pc w3;cases e with
   |normal=>obtain⟨w1,w2,ie,kr,⟨zR,af⟩,⟨ms,lZ,BN,aD⟩⟩:=w3;obtain⟨kt,aP,bq,bj⟩:=fin cj pc w1 w2 ms lZ none ⟨zR,af.iH BN⟩;exact⟨_,kt,aP,_,_,_,rfl,.inl ⟨rfl,_,rfl,aD⟩,bq,bj⟩
   |exit id=>obtain⟨w1,w2,ie,kr,⟨zR,af⟩,⟨ms,lZ,BN,aD⟩⟩:=w3;obtain⟨kt,aP,bq,bj⟩:=fin cj pc w1 w2 ms lZ (some (.exit id)) ⟨zR,af.iH BN⟩;exact⟨_,kt,aP,_,_,_,rfl,.inr ⟨rfl,.exit id,_,_,rfl,rfl,aD⟩,bq,bj⟩
   |goto id=>obtain⟨w1,w2,ie,kr,⟨zR,af⟩,⟨ms,lZ,BN,aD⟩⟩:=w3;obtain⟨kt,aP,bq,bj⟩:=fin cj pc w1 w2 ms lZ (some (.goto id)) ⟨zR,af.iH BN⟩;exact⟨_,kt,aP,_,_,_,rfl,.inr ⟨rfl,.goto id,_,_,rfl,rfl,aD⟩,bq,bj⟩
   |ret=>obtain⟨w1,w2,ie,kr,⟨zR,af⟩,⟨ms,lZ,BN,aD⟩⟩:=w3;obtain⟨kt,aP,bq,bj⟩:=fin cj pc w1 w2 ms lZ (some .ret) ⟨zR,af.iH BN⟩;exact⟨_,kt,aP,_,_,_,rfl,.inr ⟨rfl,.ret,_,_,rfl,rfl,aD⟩,bq,bj⟩
   |panic qz=>exact w3.elim| outgrown=>exact w3.elim
 obtain⟨qw,BC⟩:=afj l Oj U4 aH dO (⟨l,.loop (g8 .ready none)⟩::M1) (λ_ _ h=>h) ⟨M1,rfl,start⟩;have m0:=BC jY BL.holds;have aF:=dk a4.al afi;refine⟨l,[yh w.heap.size],jY,{ target:=.fn (.func g) cap,args:=#[.func (.yield l) #[] #[]] },jY,g,(.func (.yield l) #[] #[]::cap.toList).toArray,jY,?_,?_,λ_ _=>trivial,?_,(λh=>by cases h),?_⟩
 ·have Om:(hq X).round=none:=mm;rw[Om];exact run_enterLoop_outer fn a.tmps ps fD body
 ·show(Deferred.ofValue (a.eval f) (#[Operand.const (.func (.yield l) #[] #[])].map a.eval)).run X.P jY=_;rw[aF];simp[Deferred.ofValue,Act.eval]
 ·simp only[invoke];rw[show #[Value.func (.yield l) #[] #[]]++cap=(.func (.yield l) #[] #[]::cap.toList).toArray from by apply g2;simp];exact qw _ _
 ·refine(NS (X:=X) m0 _).mono ?_;rintro e pc⟨v,I',M',rfl,aD,rD,fv⟩;have w4:=BL.after (Mr:=[]) (by simp) rD fv;rw[dX]at w4;have bn:=fv.le;rcases aD with⟨ey,rfl,afp⟩ | ⟨ex,c,ey,aN,rfl,afq⟩
  ·refine⟨none,_,run_endLoop (rD.m ⟨l,.loop (g8 .ready none)⟩ (by simp)) (by simp[g8]),?_⟩;exact⟨F,C,I',ey,⟨β,w4.GM⟩,done I' ey bn afp⟩
  ·refine⟨some c,_,run_endLoop (rD.m ⟨l,.loop (g8 .done (some c))⟩ (by simp)) (by simp[g8]),?_⟩;obtain⟨bH,ae⟩:=stop ex I' ey bn afq;cases ex with
   |normal=>exact(bH rfl).elim| exit id=>cases aN;exact wpIn_exit ⟨F,C,I',ey,⟨β,w4.GM⟩,ae⟩| goto id=>cases aN;exact wpIn_goto ⟨F,C,I',ey,⟨β,w4.GM⟩,ae⟩| ret=>cases aN;exact wpIn_ret ⟨F,C,I',ey,⟨β,w4.GM⟩,ae⟩
end
structure a5 where
 a:Option Nat
 n:Nat
 c:Nat
 aQ:List Value
def a5.val(o:a5):Value:=.slice (o.a.map λg=>⟨g,0,none⟩) o.n o.c
def a5.aL(o:a5)(e:Nat):List aI:=match o.a with
 |some g=>[⟨g,.cells o.aQ.toArray e (0,0)⟩]| none=>[]
structure a5.ok(o:a5)(size:Nat)(xs:List Value):Prop where
 len:xs.length=o.n*size
 nil:o.a=none->o.n=0/\o.c=0
 cap:∀ g,o.a=some g->o.aQ.length=o.c*size/\o.n<=o.c/\o.c<=maxLen/\o.aQ.take (o.n*size)=xs
section
variable{P:Program}{w:World}
def U9(t u ty e:Nat)(i:TypeInfo)(z:Value)(av:P.underlying t=some (.slice e)){m1:TypeDesc}(hu:P.underlying u=some m1)(p0:∀ k,m1≠.int k)(hi:P.info? e=some i)(a9:i.zero=some z)(qK:z.cells.size=i.size)
  {os:a5} (bb:os.ok i.size xs) (aA:∀ g,os.a=some g->w.heap[g]?=some (.cells os.aQ.toArray e (0,0)))
  {x:Value} (hm:0<m) (ap:bU.length=m*i.size) (U:∀ v∈bU,v.oneCell'=true)
  (b3:∀ w',(Builtin.lenOf x).run P w'=.ok m w') (gb:∀ w':World,w'.heap=w.heap->(Builtin.firstCells i.size m x).run P w'=.ok bU.toArray w')
  (b1:os.n+m<=maxLen) (cb:(os.n+m)*i.bytes<=140737488355328) :
  ∃ (g c:Nat) (aQ:List Value) (w':World),(Builtin.append_ #[t,u] ty #[os.val,x]).run P w=.ok (.slice (some ⟨g,0,none⟩) (os.n+m) c) w'/\aQ.length=c*i.size/\os.n+m<=c/\c<=maxLen/\aQ.take ((os.n+m)*i.size)=xs++bU /\
   ((os.a=some g/\w'=w.setRow g aQ.toArray)\/(g=w.heap.size/\w'=w.drew.alloc (.cells aQ.toArray e (0,0)))):=by
 obtain⟨a,n,c,aQ⟩:=os;have D6:(xs++bU).length=(n+m)*i.size:=by rw[cP,bb.len,ap,ji]
 have Kl:∀ dg,(xs++bU++(Builtin.zeroCells z.cells (grownCap w (n+m) dg e-(n+m))).toList).length=grownCap w (n+m) dg e*i.size/\n+m<=grownCap w (n+m) dg e/\grownCap w (n+m) dg e<=maxLen /\
   (xs++bU++(Builtin.zeroCells z.cells (grownCap w (n+m) dg e-(n+m))).toList).take ((n+m)*i.size)=xs++bU:=by
  intro dg;have cm:=grownCap_ge w (n+m) dg e;have l0:grownCap w (n+m) dg e<=maxLen:=grownCap_le_maxLen w (n+m) dg e b1;refine⟨?_,cm,l0,?_⟩;·rw[cP,D6,yr,size_zeroCells,qK,<-ji];congr 1;omega
  ·rw[<-D6];exact yu
 have GP:(match m1 with | .int _=>true | _=>false)=false:=by cases m1<;>first | rfl | exact(p0 _ rfl).elim
 have oA:n+m<=9223372036854775807:=by simp only[maxLen]at b1;exact b1
 cases a with
 |none=>
  obtain⟨mu,zS⟩:=bb.nil rfl;simp only at mu zS;subst mu;subst zS;have ab:xs=[]:=iT (by simpa using bb.len);subst ab;simp only[dz,kN]at *;have ao:0<m:=hm;have aw:m≠0:=by omega
  have BO:¬ (9223372036854775807<(m:Int)):=by omega
  have BP:¬ (281474976710656<Builtin.nextslicecap m 0*i.bytes):=by rw[nextslicecap_zero ao];omega
  have aC:=gb w.drew rfl;obtain⟨aV,a3,bW,fx⟩:=Kl 0;refine⟨w.heap.size,grownCap w m 0 e,_,w.drew.alloc (.cells (bU++(Builtin.zeroCells z.cells (grownCap w m 0 e-m)).toList).toArray e),?_,aV,a3,bW,fx,.inr ⟨rfl,rfl⟩⟩;simp[a5.val,Builtin.append_,run_underlying av,run_underlying hu,sizeOf,typeInfo,zeroValue,hi,a9,b3,aw,BO,BP,Question.forced,run_firstCells_none,aC,newRow,grownCap];congr 2;apply g2;simp
 |some g=>
  obtain⟨fF,oB,l0,nK⟩:=bb.cap g rfl;have On:=aA g rfl;simp only at fF oB l0 nK On;by_cases rO:n+m<=c
  ·have g9:n*i.size+bU.length<=aQ.length:=by rw[ap,fF,<-ji];exact qs _ rO
   have dT:=run_storeCells_at P g (n*i.size) e bU 0 aQ.toArray w On (by simpa using g9) U;simp only[oo]at dT;refine⟨g,c,aQ.take (n*i.size)++bU++aQ.drop (n*i.size+bU.length),_,?_,?_,rO,l0,?_,.inl ⟨rfl,rfl⟩⟩;·have aC:=gb w rfl;simp[a5.val,Builtin.append_,run_underlying av,run_underlying hu,sizeOf,typeInfo,hi,b3,rO,aC,Addr.add_lit,dT]
   ·simp only[cP,gr,sO];omega
   ·rw[nK,<-D6];exact yu
  ·have aw:¬ (n+m<=c):=by omega
   have BO:¬ (9223372036854775807<((n:Int)+(m:Int))):=by omega
   have BP:¬ (281474976710656<Builtin.nextslicecap (n+m) c*i.bytes):=by have:=growslice_fits (by omega:c<n+m) cb;omega
   have aC:=gb w.drew rfl;have BQ:∀ j v,xs[j]?=some v->w.drew.cell? ((⟨g,0,none⟩:Addr).add j)=some v:=by
    intro j v aj;have Oo:w.drew.heap[g]?=some (.cells aQ.toArray e (0,0)):=On;rw[eo _ rfl,tQ Oo];rw[<-nK,lp]at aj;split at aj;·simpa using aj
    ·cases aj
   have Oq:=run_firstCells_some (P:=P) w.drew i.size n ⟨g,0,none⟩ n c xs bb.len BQ;obtain⟨aV,a3,bW,fx⟩:=Kl c;refine⟨w.heap.size,grownCap w (n+m) c e,_,w.drew.alloc (.cells (xs++bU++(Builtin.zeroCells z.cells (grownCap w (n+m) c e-(n+m))).toList).toArray e),?_,aV,a3,bW,fx,.inr ⟨rfl,rfl⟩⟩;simp[a5.val,Builtin.append_,run_underlying av,run_underlying hu,sizeOf,typeInfo,zeroValue,hi,a9,b3,aw,BO,BP,Question.forced,aC,Oq,newRow,grownCap];congr 2;apply g2;simp
end
section
variable{X:c7}{β:Nat->Nat}{a:Act}{w:World}{F:Fr}{C:d'}{I:aR}{M:List aI}{o:Oper}{K:gp}
def Ot(aO:c6 X.P X.E){t:Nat}(au:o.op=.call { callee:=.builtin .append,args:=#[s,x],argTypes:=#[t,u] })(ag:∀ d,o.dst=some d->d<X.n)
 (av:X.E t=some dh) (cL:dh.bO=.slice e) (hu:X.E u=some mq) (fZ:∀ k,mq.bO≠.int k) (he:X.E e=some aG)
  (os:a5) (bb:os.ok aG.size xs) (ar:bG F s=.val os.val)
  {p1:Value} (ab:bG F x=.val p1) (hm:0<m) (ap:bU.length=m*aG.size) (U:gU bU=true)
  (b3:∀ w',(Builtin.lenOf p1).run X.P w'=.ok m w') (gb:∀ w,eI I M w->(Builtin.firstCells aG.size m p1).run X.P w=.ok bU.toArray w)
 (a2:M.Perm (os.aL e++Mr)) (b1:os.n+m<=maxLen) (cb:(os.n+m)*aG.bytes<=140737488355328)
  (k:∀ (g c:Nat) (aQ:List Value),I g=none->aQ.length=c*aG.size->os.n+m<=c->c<=maxLen->aQ.take ((os.n+m)*aG.size)=xs++bU ->
   K (put o.dst (.val (.slice (some ⟨g,0,none⟩) (os.n+m) c)) F) C I (⟨g,.cells aQ.toArray e (0,0)⟩::Mr)):bs X o F C I M K:=by
 refine⟨λa w Q ⟨β,lY⟩=>?_⟩;have a4:cR X β a w F C I (os.aL e++Mr):=lY.iH (.perm a2 .refl);obtain⟨inf,z,hi,e9,hz,iA,kj⟩:=(aO _ _ he).inf;obtain⟨d,fy,fz⟩:=(aO _ _ hu).fp;obtain⟨hM,mv,kO⟩:=(aO _ _ av).fp;have qL:hM=.slice e:=by rw[cL]at kO;cases hM<;>simp_all[fo]
 subst qL;have qK:z.cells.size=inf.size:=by rw[e9,<-(aO _ _ he).len,<-kj];simp
 rw[<-e9]at bb ap gb;obtain⟨g,c,aQ,w',e',aV,a3,bW,fx,p2⟩:=U9 (P:=X.P) (w:=w) t u o.type e inf z mv fy (λk bA=>fZ k (by rw[<-fz,bA];rfl)) hi iA qK bb (λg aA=>a4.holds.m ⟨g,.cells os.aQ.toArray e (0,0)⟩ (by simp[a5.aL,aA])) (x:=p1) hm ap (zA U) b3 (λw' vz=>gb w' (lY.holds.heap vz)) b1 (by rw[hz];exact cb);rw[e9]at aV fx;have BR:I g=none:=by
  rcases p2 with⟨aA,_⟩ | ⟨rfl,_⟩;·exact a4.holds.d ⟨g,.cells os.aQ.toArray e (0,0)⟩ (by simp[a5.aL,aA])
  ·cases bL:I w.heap.size with
   |none=>rfl| some nL=>have:=a4.holds.i _ _ bL;simp at this
 have es:=dk a4.al ar;have ex:=dk a4.al ab;refine je (by rw[au];simp) (v:=.slice (some ⟨g,0,none⟩) (os.n+m) c) (w':=w') ?_ ⟨_,_,_,_,⟨β,cR.put (x:=.val (.slice (some ⟨g,0,none⟩) (os.n+m) c)) ?_ ag rfl⟩,k g c aQ BR aV a3 bW fx⟩
 ·unfold execOp;simp only[au,resolve,invoke,builtin,cy,dc,cc,sP,dv,jh,es,ex,e']
 ·rcases p2 with⟨aA,rfl⟩ | ⟨rfl,rfl⟩
  ·have ah:os.aL e=[⟨g,.cells os.aQ.toArray e (0,0)⟩]:=by simp[a5.aL,aA]
   rw[ah]at a4;exact a4.yj (a8:=[]) (post:=Mr) rfl
  ·have aa:cR X β a w.drew F C I (os.aL e++Mr):=a4.world rfl;have af:=aa.oq (.cells aQ.toArray e (0,0));refine af.iH (.sub ?_ .refl);exact List.Sublist.cons_cons _ (mW _ _)
def bs.append(aO:c6 X.P X.E){t:Nat}(au:o.op=.call { callee:=.builtin .append,args:=#[s,x],argTypes:=#[t,t] })(ag:∀ d,o.dst=some d->d<X.n)
 (av:X.E t=some dh) (cL:dh.bO=.slice e) (he:X.E e=some aG)
  (os:a5) (bb:os.ok aG.size xs) (ar:bG F s=.val os.val)
 (ab:bG F x=.val (.slice (some ad) m c')) (hm:0<m) (aw:cq I M ad (m*aG.size) bU) (U:gU bU=true)
 (a2:M.Perm (os.aL e++Mr)) (b1:os.n+m<=maxLen) (cb:(os.n+m)*aG.bytes<=140737488355328)
  (k:∀ (g c:Nat) (aQ:List Value),aQ.length=c*aG.size->os.n+m<=c->c<=maxLen->aQ.take ((os.n+m)*aG.size)=xs++bU ->
   K (put o.dst (.val (.slice (some ⟨g,0,none⟩) (os.n+m) c)) F) C I (⟨g,.cells aQ.toArray e (0,0)⟩::Mr)):bs X o F C I M K:=by
 refine Ot aO au ag av cL av (λk=>by rw[cL];simp) he os bb ar ab hm ?_ U (λ_=>rfl) (λw hw=>?_) a2 b1 cb (λg c aQ _=>k g c aQ)
 ·obtain⟨_,_,_,_,_,_,h⟩:=aw;exact h
 ·obtain⟨cg,cs,T,al,cY,ak,ap⟩:=aw;refine run_firstCells_some (P:=X.P) w aG.size m ad m c' bU ap λj v aj=>?_;rw[eo _ cg,tQ (cY.heap hw)];rw[<-ak,lp]at aj;split at aj
  ·rw[om]at aj;simpa using aj
  ·cases aj
def bs.U'(aO:c6 X.P X.E){t:Nat}(au:o.op=.call { callee:=.builtin .append,args:=#[s,x],argTypes:=#[t,t] })(ag:∀ d,o.dst=some d->d<X.n)
 (av:X.E t=some dh) (cL:dh.bO=.slice e) (he:X.E e=some aG)
  (os:a5) (bb:os.ok aG.size xs) (ar:bG F s=.val os.val)
 (ab:bG F x=.val (.slice (some ad) m c')) (hm:0<m) (aw:cq I M ad (m*aG.size) bU) (U:gU bU=true)
 (a2:M.Perm (os.aL e++Mr)) (b1:os.n+m<=maxLen) (cb:(os.n+m)*aG.bytes<=140737488355328)
  (k:∀ (g c:Nat) (aQ:List Value),I g=none->aQ.length=c*aG.size->os.n+m<=c->c<=maxLen->aQ.take ((os.n+m)*aG.size)=xs++bU ->
   K (put o.dst (.val (.slice (some ⟨g,0,none⟩) (os.n+m) c)) F) C I (⟨g,.cells aQ.toArray e (0,0)⟩::Mr)):bs X o F C I M K:=by
 refine Ot aO au ag av cL av (λk=>by rw[cL];simp) he os bb ar ab hm ?_ U (λ_=>rfl) (λw hw=>?_) a2 b1 cb k
 ·obtain⟨_,_,_,_,_,_,h⟩:=aw;exact h
 ·obtain⟨cg,cs,T,al,cY,ak,ap⟩:=aw;refine run_firstCells_some (P:=X.P) w aG.size m ad m c' bU ap λj v aj=>?_;rw[eo _ cg,tQ (cY.heap hw)];rw[<-ak,lp]at aj;split at aj
  ·rw[om]at aj;simpa using aj
  ·cases aj
def lz(s:ByteArray):List Value:=s.data.toList.map λb=>.int .u8 b.toNat
def bs.afr(aO:c6 X.P X.E){t:Nat}(au:o.op=.call { callee:=.builtin .append,args:=#[s,x],argTypes:=#[t,u] })(ag:∀ d,o.dst=some d->d<X.n)
 (av:X.E t=some dh) (cL:dh.bO=.slice e) (hu:X.E u=some mq) (fZ:mq.bO=.string) (he:X.E e=some aG) (c8:aG.size=1)
  (os:a5) (bb:os.ok aG.size xs) (ar:bG F s=.val os.val)
  {str:ByteArray} (ab:bG F x=.val (.string str)) (hm:0<str.size)
 (a2:M.Perm (os.aL e++Mr)) (b1:os.n+str.size<=maxLen) (cb:(os.n+str.size)*aG.bytes<=140737488355328)
  (k:∀ (g c:Nat) (aQ:List Value),aQ.length=c*aG.size->os.n+str.size<=c->c<=maxLen->aQ.take ((os.n+str.size)*aG.size)=xs++lz str ->
   K (put o.dst (.val (.slice (some ⟨g,0,none⟩) (os.n+str.size) c)) F) C I (⟨g,.cells aQ.toArray e (0,0)⟩::Mr)):bs X o F C I M K:=by
 refine Ot aO au ag av cL hu (λk=>by rw[fZ];simp) he os bb ar ab hm ?_ ?_ (λ_=>rfl) (λw hw=>?_) a2 b1 cb (λg c aQ _=>k g c aQ)
 ·simp[lz,c8]
 ·refine gh.2 λv ak=>?_;obtain⟨b,_,rfl⟩:=dC.1 ak;rfl
 ·simp only[Builtin.firstCells,dc];congr 1;apply g2;have az:str.extract 0 str.size=str:=by apply wG;simp[JH]
  simp[lz,az]
end
section
variable{X:c7}{F:Fr}{C:d'}{I:aR}{M:List aI}{o:Oper}{K:gp}
def Va{t:Nat}(av:P.underlying t=some (.array 4 e)){k:IntKind}(he:P.underlying e=some (.int k)){inf:TypeInfo}(hi:P.info? e=some inf)(ar:inf.size=1)(fX bz bJ cj sS b1 cb c9:Int)(w:World) :
  (Op.equal t (.agg #[.int k fX,.int k bz,.int k bJ,.int k cj]) (.agg #[.int k sS,.int k b1,.int k cb,.int k c9])).run P w=.ok (fX == sS&&(bz == b1&&(bJ == cb&&cj == c9))) w:=by
 have Vb:∀ (xs:Array Value) (i:Nat) (v:Value) (w:World),xs[i]?=some v->(part e xs i).run P w=.ok v w:=λxs i v w h=>by
  have Gc:(isAgg e).run P w=.ok false w:=by unfold isAgg;simp[run_underlying he]
  unfold part;simp[Gc,sizeOf,typeInfo,hi,ar,h]
 have hint:∀ (d:Nat) (x y:Int) (w:World),(Op.equalIn (d+1) e (.int k x) (.int k y)).run P w=.ok (x == y) w:=λd x y w=>by simp[Op.equalIn,run_underlying he]
 have key:∀ m,(∀ (x y:Int) (w:World),(Op.equalIn m e (.int k x) (.int k y)).run P w=.ok (x == y) w)->(Op.equalIn (m+1) t (.agg #[.int k fX,.int k bz,.int k bJ,.int k cj]) (.agg #[.int k sS,.int k b1,.int k cb,.int k c9])).run P w=.ok (fX == sS&&(bz == b1&&(bJ == cb&&cj == c9))) w:=λm hint=>by
  rw[Op.equalIn];simp only[cy,run_underlying av,cc,sizeOf,typeInfo,hi,run_program,dc,ar];simp only[Ux];have ai:List.range' 0 ([:4]:Std.Legacy.Range).size=[0,1,2,3]:=by decide
  rw[ai];have pa:=λ(i:Nat) (v:Value) (w:World)=>Vb #[.int k fX,.int k bz,.int k bJ,.int k cj] i v w;have Km:=λ(i:Nat) (v:Value) (w:World)=>Vb #[.int k sS,.int k b1,.int k cb,.int k c9] i v w;simp only[List.forIn_cons,List.forIn_nil,cy];rw[pa (0*1) (.int k fX) w rfl];simp only[cc,cy];rw[Km (0*1) (.int k sS) w rfl];simp only[cc,cy];rw[hint];simp only[cc];cases(fX == sS);·simp
  simp only[rI,lq,mh,dc,cc,cy];rw[pa (1*1) (.int k bz) w rfl];simp only[cc,cy];rw[Km (1*1) (.int k b1) w rfl];simp only[cc,cy];rw[hint];simp only[cc];cases(bz == b1);·simp
  simp only[rI,lq,mh,dc,cc,cy];rw[pa (2*1) (.int k bJ) w rfl];simp only[cc,cy];rw[Km (2*1) (.int k cb) w rfl];simp only[cc,cy];rw[hint];simp only[cc];cases(bJ == cb);·simp
  simp only[rI,lq,mh,dc,cc,cy];rw[pa (3*1) (.int k cj) w rfl];simp only[cc,cy];rw[Km (3*1) (.int k c9) w rfl];simp only[cc,cy];rw[hint];simp only[cc];cases(cj == c9);·simp
  simp
 exact key 9999 (hint 9998)
def fM.Vc{E:Env}(aO:c6 P E){t:Nat}(av:E t=some dh)(cL:dh.bO=.array 4 e)(he:E e=some aG){k:IntKind}(mw:aG.bO=.int k)(aA:P.eqGuardType P.depth t=false){fX bz bJ cj sS b1 cb c9:Int}{V:Value->Prop}
  (h:V (.bool (fX == sS&&(bz == b1&&(bJ == cb&&cj == c9))))):fM P .eql t x y (.val (.agg #[.int k fX,.int k bz,.int k bJ,.int k cj])) (.val (.agg #[.int k sS,.int k b1,.int k cb,.int k c9])) V other:=by
 obtain⟨d,fy,fz⟩:=(aO _ _ av).fp;obtain⟨qM,Ou,Ov⟩:=(aO _ _ he).fp;obtain⟨inf,z,hi,e9,_⟩:=(aO _ _ he).inf;have U:d=.array 4 e:=by rw[cL]at fz;cases d<;>simp_all[fo]
 have aa:qM=.int k:=by rw[mw]at Ov;cases qM<;>simp_all[fo]
 subst U;subst aa;have gj:inf.size=1:=by rw[e9];exact(aO _ _ he).JK (by rw[mw];rfl)
 refine .mk _ _ _ rfl rfl (λw=>?_) h;simp only[cy,run_eqGuard_agg (hm:=aA),cc,binOp,Va fy Ou hi gj,dc]
def fM.concat{t:Nat}{a b:ByteArray}(ar:a.size+b.size<=9223372036854775807){V:Value->Prop}(h:V (.string (a++b))):fM P .add t x y (.val (.string a)) (.val (.string b)) V other:=by refine .mk _ _ _ rfl rfl (λw=>?_) h;simp only[cy,NR,cc,binOp,run_string_add_sum _ _ _ ar,dc]
end
section
variable{X:c7}{β:Nat->Nat}{a:Act}{w:World}{F:Fr}{C:d'}{I:aR}{M:List aI}{o:Oper}{K:gp}
def cR.Vd{n:Nat}{nL:Obj}(h:cR X β a w F C I (⟨n,nL⟩::M))(ar:w'.heap.size=w.heap.size)(ah:∀ b,b≠n->w'.heap[b]?=w.heap[b]?)(au:o1 w w'):cR X β a w' F C I M:=by
 have fT:(⟨n,nL⟩:aI)∈(⟨n,nL⟩:aI)::M:=by simp
 have cf:=h.holds.cd;simp only[dv,nB]at cf;exact {
  size:=h.size
  defers:=h.defers.mono λr ai=>by have bH:n≠r:=ai.e3 _ fT;refine { ai with an:=?_,e3:=λx ab=>ai.e3 x (by simp[ab]) };rw[ah r (sC bH)];exact ai.an
  holds:={
   i:=λb o jQ=>by rw[ah b (λe=>by have:=h.holds.d _ fT;simp only at this;rw[e,this]at jQ;cases jQ)];exact h.holds.i b o jQ
   m:=λx ab=>by rw[ah _ (λe=>cf.1 (dC.2 ⟨x,ab,e⟩))];exact h.holds.m x (by simp[ab])
   d:=λx ab=>h.holds.d x (by simp[ab])
   cd:=cf.2 }
  al:=h.al
  cw:=λs cs mo=>by have rH:=h.cw s cs mo;have bH:n≠β s:=rH.e3 _ fT;obtain⟨T,bM⟩:=rH.an;refine { rH with an:=⟨T,?_⟩,e3:=λx ab=>rH.e3 x (by simp[ab]) };rw[ah _ (sC bH)];exact bM
  inj:=h.inj
  iy:=h.iy
  h2:=h.h2
  own:=λx ab=>h.own x (by simp[ab])
  dg:=λb aS aC=>by
   rw[ah b (λe=>by
    rcases h.own _ fT with U | U;·simp only at U;exact aC (e ▸ U)
    ·simp only at U;omega)]
   exact h.dg b aS aC
  out:=h.out.trans au
  sz:=by rw[ar];exact h.sz }
def afs(w:World)(p:Addr)(n:Nat):(w.freeze p n).heap.size=w.heap.size:=by
 unfold World.freeze;split<;>simp
def aft(w:World)(p:Addr)(n:Nat):o1 w (w.freeze p n):=by
 unfold World.freeze;split<;>exact⟨rfl,rfl⟩
def afu(w:World)(p:Addr)(n b:Nat)(h:b≠p.block):(w.freeze p n).heap[b]?=w.heap[b]?:=by
 unfold World.freeze;split
 ·rfl
 ·simp only[Array.getElem?_modify];rw[ca (sC h)]
def bs.Ow(aO:c6 X.P X.E){n:Operand}(au:o.op=.call { callee:=.builtin .unsafeString,args:=#[p,n],argTypes:=#[vw,it] })(ag:∀ d,o.dst=some d->d<X.n)
 (av:X.E vw=some dh) (cL:dh.bO=.pointer e) (he:X.E e=some aG) (mw:aG.size=1)
 {l:List UInt8} (aD:bG F p=.val (.pointer (some ⟨g,0,none⟩))) (aw:bG F n=.val (.int .i64 l.length)) (ao:l≠[]) (Ox:l.length<=9223372036854775807)
 (a2:M.Perm (⟨g,.cells cs e (0,0)⟩::Mr)) (mo:cs.toList.take l.length=l.map λb=>.int .u8 b.toNat)
  (h:K (put o.dst (.val (.string ⟨l.toArray⟩)) F) C I Mr):bs X o F C I M K:=by
 refine⟨λa w Q ⟨β,lY⟩=>?_⟩;have a4:cR X β a w F C I (⟨g,.cells cs e (0,0)⟩::Mr):=lY.iH (.perm a2 .refl);have aA:w.heap[g]?=some (.cells cs e (0,0)):=a4.holds.m ⟨g,.cells cs e (0,0)⟩ (by simp);obtain⟨d,fy,fz⟩:=(aO _ _ av).fp;have U:d=.pointer e:=by rw[cL]at fz;cases d<;>simp_all[fo]
 subst U;obtain⟨inf,z,hi,e9,_⟩:=(aO _ _ he).inf;have aN:X.P.cellsOf e=1:=by simp[Program.cellsOf,hi,e9,mw]
 have b3:l.length<=cs.size:=by have:=congrArg List.length mo;simp only[gr,cD,yr]at this;omega
 have e':=Lib.run_unsafeString_row (P:=X.P) w vw it o.type e fy aN g cs.size (by simp[World.shape?,aA]) l ao b3 Ox (λj x aj=>by
  rw[eo _ rfl,tQ aA];have aa:(cs.toList.take l.length)[j]?=some (.int .u8 x.toNat):=by rw[mo];simp[aj]
  rw[lp]at aa;split at aa;·simpa using aa
  ·cases aa)
 have vA:=dk a4.al aD;have eT:=dk a4.al aw;refine je (by rw[au];simp) (v:=.string ⟨l.toArray⟩) (w':=w.freeze ⟨g,0,none⟩ l.length) ?_ ⟨_,_,_,_,⟨β,cR.put (x:=.val (.string ⟨l.toArray⟩)) (a4.Vd (afs _ _ _) (λb ah=>afu _ _ _ _ ah) (aft _ _ _)) ag rfl⟩,h⟩;unfold execOp;simp only[au,resolve,invoke,builtin,cy,dc,cc,sP,dv,jh,vA,eT,e']
def bs.Ve{n:Operand}(au:o.op=.call { callee:=.builtin .unsafeString,args:=#[p,n],argTypes:=#[vw,it] })(ag:∀ d,o.dst=some d->d<X.n)
  {q:Option Addr} (aD:bG F p=.val (.pointer q)) (aw:bG F n=.val (.int .i64 0)) (h:K (put o.dst (.val (.string .empty)) F) C I M):bs X o F C I M K:=by
 refine⟨λa w Q ⟨β,a4⟩=>?_⟩;have vA:=dk a4.al aD;have eT:=dk a4.al aw;refine wJ a4 ag (by rw[au];simp) ?_ h;unfold execOp;simp only[au,resolve,invoke,builtin,cy,dc,cc,sP,dv,jh,vA,eT,Lib.run_unsafeString_none]
def bs.Vf(aO:c6 X.P X.E){t:Nat}(au:o.op=.call { callee:=.builtin .copy,args:=#[x,y],argTypes:=#[t,u] })(ag:∀ d,o.dst=some d->d<X.n)
 (av:X.E t=some dh) (cL:dh.bO=.slice e) (he:X.E e=some aG) (mw:aG.size=1)
 {off dl Vg:Nat} {s:ByteArray} {T:Nat} (ab:bG F x=.val (.slice (some ⟨g,off,none⟩) dl Vg)) (aH:bG F y=.val (.string s)) (bn:s.size<=dl) (g9:off+s.size<=cs.size)
 (a2:M.Perm (⟨g,.cells cs T (0,0)⟩::Mr))
  (h:K (put o.dst (.val (.int .i64 s.size)) F) C I (⟨g,.cells (bK cs.toList off (lz s)).toArray T (0,0)⟩::Mr)):bs X o F C I M K:=by
 refine⟨λa w Q ⟨β,lY⟩=>?_⟩;have a4:cR X β a w F C I (⟨g,.cells cs T (0,0)⟩::Mr):=lY.iH (.perm a2 .refl);have aA:w.heap[g]?=some (.cells cs T (0,0)):=a4.holds.m ⟨g,.cells cs T (0,0)⟩ (by simp);obtain⟨d,fy,fz⟩:=(aO _ _ av).fp;have U:d=.slice e:=by rw[cL]at fz;cases d<;>simp_all[fo]
 subst U;obtain⟨inf,z,hi,e9,_⟩:=(aO _ _ he).inf;have ap:(lz s).length=s.size:=by simp[lz]
 have U:∀ v∈lz s,v.oneCell'=true:=λv ak=>by obtain⟨b,_,rfl⟩:=dC.1 ak;rfl
 have dT:=run_storeCells_at X.P g off T (lz s) 0 cs w aA (by rw[ap];simpa using g9) U;simp only[oo]at dT;have yA:Nat.min s.size dl=s.size:=pO bn;have aC:(Builtin.firstCells inf.size s.size (.string s)).run X.P w=.ok (lz s).toArray w:=Uz w inf.size s;have ex:=dk a4.al ab;have pd:=dk a4.al aH;have rP:=a4.yj (a8:=[]) (post:=Mr) (cs':=(bK cs.toList off (lz s)).toArray) rfl;refine je (by rw[au];simp) (v:=.int .i64 s.size) (w':=w.setRow g (bK cs.toList off (lz s)).toArray) ?_ ⟨_,_,_,_,⟨β,cR.put (x:=.val (.int .i64 s.size)) rP ag rfl⟩,h⟩;have e':(Builtin.copy_ #[t,u] o.type #[.slice (some ⟨g,off,none⟩) dl Vg,.string s]).run X.P w=.ok (.int .i64 s.size) (w.setRow g (bK cs.toList off (lz s)).toArray):=by simp[Builtin.copy_,run_underlying fy,Builtin.lenOf,yA,sizeOf,typeInfo,hi,aC,dT,bK,goInt]
 unfold execOp;simp only[au,resolve,invoke,builtin,cy,dc,cc,sP,dv,jh,ex,pd,e']
end
structure dA(I:aR)(a:Option Addr)(n c size b:Nat)(vs:List Value):Prop where
 len:vs.length=n*size
 cap:n<=c/\n*b<=140737488355328
 rd:n=0\/∃ ad,a=some ad/\ad.spot=none/\∃ cs T al,I ad.block=some (.cells cs T al)/\(cs.toList.drop ad.off).take (n*size)=vs
def dA.mono{I:aR}{n b:Nat}(h:dA I a n c size b vs)(bL:∀ b o,I b=some o->I' b=some o):dA I' a n c size b vs:=
 ⟨h.len,h.cap,h.rd.imp id λ⟨ad,U,aa,cs,T,al,af,aP⟩=>⟨ad,U,aa,cs,T,al,bL _ _ af,aP⟩⟩
def dA.idx{I:aR}{n b:Nat}(h:dA I a n c size b vs){j:Nat}(aj:j<n) :
  ∃ ad,a=some ad/\∀ M,cq I M (ad.add (j*size)) size ((vs.drop (j*size)).take size):=by
 obtain⟨ap,_,ao | ⟨ad,aE,ar,cs,T,al,bL,ak⟩⟩:=h
 ·omega
 ·refine⟨ad,aE,λM=>?_⟩;have bn:j*size+size<=n*size:=by have:=qs size (show j+1<=n from aj);rw[ji,oy]at this;exact this
  refine⟨by rw[eo _ ar],cs,T,al,.inl (by rw[eo _ ar];exact bL),?_,?_⟩;·rw[eo _ ar,<-ak,yv,zJ,vv];congr 1;omega
  ·rw[gr,sO,ap];omega
def dA.one{I:aR}{n b:Nat}{f:α->Value}{l:List α}(h:dA I a n c 1 b (l.map f)){j:Nat}(aj:j<n)(jS:j<l.length) :
  ∃ ad,a=some ad/\∀ M,cq I M (ad.add (j*1)) 1 [f l[j]]:=by
 obtain⟨ad,U,aa⟩:=h.idx aj;refine⟨ad,U,λM=>?_⟩;have:=aa M;rw[iU,<-J5,<-Gu,e8 jS,pU,nH]at this;rw[iU];exact this
def yB{α:Type}(f:α->List Value)(size:Nat)(aC:∀ x,(f x).length=size):∀ (l:List α) (j:Nat) (aj:j<l.length),((l.flatMap f).drop (j*size)).take size=f l[j]
 |x::l,0,_=>by simp only[nG,BI,sQ,vt];rw[<-aC x];exact yu
 |x::l,j+1,aj=>by have a7:=yB f size aC l j (by simpa using aj);simp only[nG,J1];rw[<-a7,show(j+1)*size=(f x).length+j*size from by rw[aC,ji];omega,Uy]
def fb{α:Type}(f:α->List Value)(size:Nat)(aC:∀ x,(f x).length=size):∀ (l:List α),(l.flatMap f).length=l.length*size
 |[]=>by simp
 |x::l=>by simp[fb f size aC l,aC x,ji];omega
def dA.row{I:aR}{n b:Nat}{f:α->List Value}(aC:∀ x,(f x).length=size){l:List α}(h:dA I a n c size b (l.flatMap f)){j:Nat}(aj:j<n)(jS:j<l.length) :
  ∃ ad,a=some ad/\∀ M,cq I M (ad.add (j*size)) size (f l[j]):=by
 obtain⟨ad,U,aa⟩:=h.idx aj;refine⟨ad,U,λM=>?_⟩;have:=aa M;rwa [yB f size aC l j jS]at this
def cq.part{I:aR}{a:Addr}{n k:Nat}(h:cq I M a n vs)(ae:k+m<=n):cq I M (a.add k) m ((vs.drop k).take m):=by
 obtain⟨ar,cs,T,al,U,aa,af⟩:=h;refine⟨by rw[eo _ ar],cs,T,al,by rw[eo _ ar];exact U,?_,?_⟩
 ·rw[eo _ ar,<-aa,yv,zJ,vv];congr 1;omega
 ·rw[gr,sO,af];omega
structure aM where
 k:Int
 eO:Int
 s1:Int
 s2:Int
 eU:Int
 t:ByteArray
 lo:Int
 hi:Int
 iW:Option Addr
 kn:Nat
 iz:Nat
 ax:List Int
def aM.cells(d:aM):List Value:=[.int .u8 d.k,.int .u64 d.eO,.int .u64 d.s1,.int .u64 d.s2,.int .u64 d.eU,.string d.t,.int .i64 d.lo,.int .i64 d.hi,.slice d.iW d.kn d.iz]
def aM.val(d:aM):Value:=.agg #[.int .u8 d.k,.int .u64 d.eO,.int .u64 d.s1,.int .u64 d.s2,.int .u64 d.eU,.string d.t,.int .i64 d.lo,.int .i64 d.hi,.slice d.iW d.kn d.iz]
def my(x:Int):Prop:=-9223372036854775808<=x/\x<=9223372036854775807
def gY(x:Int):Prop:=0<=x/\x<18446744073709551616
structure aM.ok(I:aR)(d:aM):Prop where
 k:0<=d.k/\d.k<256
 eO:gY d.eO
 s1:gY d.s1
 s2:gY d.s2
 eU:gY d.eU
 t:d.t.size<=9223372036854775807
 lo:my d.lo
 hi:my d.hi
 bg:dA I d.iW d.kn d.iz 1 8 (d.ax.map (.int .i64 ·))
 ax:∀ x∈d.ax,my x
def aM.de(d:aM):d.cells.length=9:=rfl
def aM.ok.kn{I:aR}{d:aM}(h:d.ok I):d.ax.length=d.kn:=by have:=h.bg.len;simpa using this
structure bN where
 ns:List aM
 a:Option Addr
 n:Nat
 c:Nat
 bF:Int
def bN.cells(t:bN):List Value:=[.slice t.a t.n t.c,.int .i64 t.bF]
def bN.val(t:bN):Value:=.agg #[.slice t.a t.n t.c,.int .i64 t.bF]
structure bN.ok(I:aR)(t:bN):Prop where
 bg:dA I t.a t.n t.c 9 96 (t.ns.flatMap aM.cells)
 ns:∀ d∈t.ns,d.ok I
 bF:my t.bF
def bN.ok.n{I:aR}{t:bN}(h:t.ok I):t.ns.length=t.n:=by have:=h.bg.len;rw[fb _ 9 aM.de]at this;omega
structure bI where
 name:ByteArray
 t:bN
def bI.cells(d:bI):List Value:=[.string d.name,.slice d.t.a d.t.n d.t.c,.int .i64 d.t.bF]
structure bI.ok(I:aR)(d:bI):Prop where
 name:d.name.size<=140737488355328
 t:d.t.ok I
def bI.de(d:bI):d.cells.length=3:=rfl
structure dn where
 ds:List bI
 a:Option Addr
 n:Nat
 c:Nat
def dn.val(g:dn):Value:=.agg #[.slice g.a g.n g.c]
structure dn.ok(I:aR)(g:dn):Prop where
 bg:dA I g.a g.n g.c 3 48 (g.ds.flatMap bI.cells)
 ds:∀ d∈g.ds,d.ok I
def dn.ok.n{I:aR}{g:dn}(h:g.ok I):g.ds.length=g.n:=by have:=h.bg.len;rw[fb _ 3 bI.de]at this;omega
def aM.ok.mono{I:aR}{d:aM}(h:d.ok I)(bL:∀ b o,I b=some o->I' b=some o):d.ok I':={ h with bg:=h.bg.mono bL }
def bN.ok.mono{I:aR}{t:bN}(h:t.ok I)(bL:∀ b o,I b=some o->I' b=some o):t.ok I':=⟨h.bg.mono bL,λd ag=>(h.ns d ag).mono bL,h.bF⟩
def bI.ok.mono{I:aR}{d:bI}(h:d.ok I)(bL:∀ b o,I b=some o->I' b=some o):d.ok I':=⟨h.name,h.t.mono bL⟩
def dn.ok.mono{I:aR}{g:dn}(h:g.ok I)(bL:∀ b o,I b=some o->I' b=some o):g.ok I':=⟨h.bg.mono bL,λd ag=>(h.ds d ag).mono bL⟩
def wrap_i64{x:Int}(h:my x):IntKind.i64.wrap x=x:=by obtain⟨U,aa⟩:=h;unfold IntKind.wrap;simp only[IntKind.bits,IntKind.signed];simp;omega
open Go Go.Proofs
def aX(t n:Nat)(a b:Option ec):Option ec:=bif Nat.blt t n then a else b
def uc(n:Nat):Option ec:=some ⟨1,8,[.pointer none],.pointer n⟩
def k5(n:Nat):Option ec:=some ⟨1,24,[.slice none 0 0],.slice n⟩
def h6:Option ec:=none
def b5:Option ec:=some ⟨1,8,[.nilFunc],.other⟩
def Oy:Option ec:=some ⟨1,8,[.int .i64 0],.int .i64⟩
def Kn:Option ec:=some ⟨1,1,[.int .u8 0],.int .u8⟩
def Oz:Option ec:=some ⟨1,8,[.int .u64 0],.int .u64⟩
def Vh:Option ec:=some ⟨1,8,[.pointer none],.struct [(17,0)]⟩
def Vi:Option ec:=some ⟨1,4,[.int .i32 0],.int .i32⟩
def Vj:Option ec:=some ⟨1,24,[.slice none 0 0],.struct [(22,0)]⟩
def Vk:Option ec:=some ⟨2,32,[.slice none 0 0,.int .i64 0],.struct [(26,0),(3,1)]⟩
def Vl:Option ec:=some ⟨4,32,[.int .u64 0,.int .u64 0,.int .u64 0,.int .u64 0],.array 4 54⟩
def Vm:Option ec:=some ⟨9,96,[.int .u8 0,.int .u64 0,.int .u64 0,.int .u64 0,.int .u64 0,.string ⟨#[]⟩,.int .i64 0,.int .i64 0,.slice none 0 0],.struct [(5,0),(56,1),(9,5),(3,6),(3,7),(57,8)]⟩
def Vn:Option ec:=some ⟨2,32,[.int .i64 0,.slice none 0 0],.struct [(3,0),(57,1)]⟩
def Vo:Option ec:=some ⟨4,16,[.int .i64 0,.int .i32 0,.int .u8 0,.int .u8 0],.struct [(2,0),(21,1),(5,2),(5,3)]⟩
def Vp:Option ec:=some ⟨3,24,[.int .i64 0,.int .i64 0,.int .i64 0],.struct [(3,0),(3,1),(3,2)]⟩
def Vq:Option ec:=some ⟨64,512,List.replicate 64 (.int .u64 0),.array 64 54⟩
def Vr:Option ec:=some ⟨8,160,[.slice none 0 0,.int .i64 0,.int .i64 0,.slice none 0 0,.slice none 0 0,.slice none 0 0,.slice none 0 0,.slice none 0 0],.struct [(223,0),(3,1),(3,2),(26,3),(224,4),(22,5),(223,6),(223,7)]⟩
def Ko:Option ec:=some ⟨2,16,[.int .i64 0,.int .i64 0],.struct [(3,0),(3,1)]⟩
def Vs:Option ec:=some ⟨1,24,[.slice none 0 0],.struct [(26,0)]⟩
def Vt:Option ec:=some ⟨5,96,[.int .u8 0,.string ⟨#[]⟩,.slice none 0 0,.slice none 0 0,.slice none 0 0],.struct [(5,0),(9,1),(57,2),(57,3),(204,4)]⟩
def Vu:Option ec:=some ⟨3,3,[.bool false,.bool false,.bool false],.struct [(4,0),(4,1),(4,2)]⟩
def Vv:Option ec:=some ⟨3,24,[.int .i64 0,.int .i64 0,.bool false],.struct [(3,0),(3,1),(4,2)]⟩
def Vw:Option ec:=some ⟨6,64,[.string ⟨#[]⟩,.string ⟨#[]⟩,.int .u8 0,.map none,.int .i64 0,.int .i64 0],.struct [(9,0),(9,1),(5,2),(371,3),(3,4),(31,5)]⟩
def k6:Env:=λt=>bif Nat.blt t 397 then(aX t 198 (aX t 99 (aX t 49 (aX t 24 (aX t 12 (aX t 6 (aX t 3 (aX t 1 h6 (aX t 2 b5 Oy)) (aX t 4 Oy (aX t 5 (some ⟨1,1,[.bool false],.bool⟩) Kn))) (aX t 9 (aX t 7 Kn (some ⟨4,24,[.int .i64 0,.int .i64 0,.bool false,.int .u8 0],.struct [(2,0),(3,1),(4,2),(6,3)]⟩)) (some ⟨1,16,[.string ⟨#[]⟩],.string⟩))) (aX t 18 (aX t 15 (aX t 13 Oz (some ⟨2,24,[.string ⟨#[]⟩,.int .u64 0],.struct [(9,0),(12,1)]⟩)) (aX t 16 (uc 386) (aX t 17 (uc 389) (uc 396)))) (aX t 21 (aX t 19 Vh (aX t 20 Vh (some ⟨1,16,[.nilIface],.other⟩))) (aX t 22 Vi (aX t 23 (k5 38) Vj))))) (aX t 36 (aX t 30 (aX t 27 (aX t 25 Vj (aX t 26 b5 (k5 59))) (aX t 28 Vk (aX t 29 Vk b5))) (aX t 33 (aX t 31 (uc 98) (aX t 32 Oy h6)) b5)) (aX t 42 (aX t 39 (aX t 37 Oz (some ⟨3,48,[.string ⟨#[]⟩,.slice none 0 0,.int .i64 0],.struct [(9,0),(28,1)]⟩)) (aX t 40 (k5 110) (some ⟨3,40,[.bool false,.int .i64 0,.slice none 0 0],.struct [(4,0),(3,1),(39,2)]⟩))) (aX t 45 (aX t 43 h6 b5) (aX t 47 (aX t 46 b5 h6) b5))))) (aX t 74 (aX t 61 (aX t 55 (aX t 52 (aX t 50 b5 (aX t 51 b5 (uc 122))) (aX t 53 h6 (aX t 54 b5 Oz))) (aX t 58 (aX t 56 Vl (aX t 57 Vl (k5 3))) (aX t 59 Vm (aX t 60 Vm b5)))) (aX t 67 (aX t 64 (aX t 62 h6 b5) (aX t 65 b5 (aX t 66 b5 (k5 71)))) (aX t 70 (aX t 68 b5 (aX t 69 h6 b5)) (aX t 72 (some ⟨5,48,[.int .u8 0,.int .u8 0,.int .i64 0,.slice none 0 0,.int .i64 0],.struct [(5,0),(5,1),(3,2),(57,3),(3,4)]⟩) (aX t 73 b5 Vn))))) (aX t 86 (aX t 80 (aX t 77 (aX t 75 Vn b5) b5) (aX t 83 (aX t 81 b5 (aX t 82 h6 b5)) (aX t 84 b5 (aX t 85 (k5 74) b5)))) (aX t 92 (aX t 89 (aX t 87 h6 b5) b5) (aX t 95 (aX t 93 b5 (aX t 94 b5 (k5 9))) (aX t 97 (aX t 96 b5 (k5 104)) (some ⟨5,112,[.string ⟨#[]⟩,.slice none 0 0,.slice none 0 0,.slice none 0 0,.slice none 0 0],.struct [(9,0),(94,1),(57,2),(26,3),(96,4)]⟩))))))) (aX t 148 (aX t 123 (aX t 111 (aX t 105 (aX t 102 b5 (aX t 103 b5 (aX t 104 b5 (k5 106)))) (aX t 108 (aX t 106 Vo (aX t 107 Vo b5)) (aX t 109 b5 (some ⟨3,32,[.string ⟨#[]⟩,.int .i64 0,.int .i64 0],.struct [(9,0),(3,1),(3,2)]⟩)))) (aX t 117 (aX t 114 (aX t 112 b5 (aX t 113 (k5 28) b5)) b5) (aX t 120 b5 (aX t 121 (k5 189) (some ⟨4,88,[.string ⟨#[]⟩,.slice none 0 0,.slice none 0 0,.slice none 0 0],.struct [(9,0),(24,1),(112,2),(120,3)]⟩))))) (aX t 135 (aX t 129 (aX t 126 (aX t 124 Vp (aX t 125 Vp b5)) b5) b5) (aX t 141 (aX t 138 b5 (aX t 139 b5 (aX t 140 (k5 57) h6))) (aX t 144 (aX t 142 b5 (aX t 143 b5 (k5 4))) b5)))) (aX t 173 (aX t 160 (aX t 154 b5 (aX t 157 (aX t 155 b5 (aX t 156 (some ⟨1,8,[.map none],.map 9 3⟩) h6)) b5)) (aX t 166 (aX t 163 (aX t 161 h6 (aX t 162 b5 h6)) (aX t 164 b5 (aX t 165 h6 b5))) (aX t 169 b5 (aX t 171 (aX t 170 (some ⟨10,80,[.nilFunc,.nilFunc,.nilFunc,.nilFunc,.nilFunc,.nilFunc,.nilFunc,.nilFunc,.nilFunc,.nilFunc],.array 10 168⟩) b5) b5)))) (aX t 185 (aX t 179 (aX t 176 (aX t 174 b5 (aX t 175 b5 Vq)) (aX t 177 Vq (some ⟨66,528,[.int .i64 0,.int .u64 0,.int .u64 0,.int .u64 0,.int .u64 0,.int .u64 0,.int .u64 0,.int .u64 0,.int .u64 0,.int .u64 0,.int .u64 0,.int .u64 0,.int .u64 0,.int .u64 0,.int .u64 0,.int .u64 0,.int .u64 0,.int .u64 0,.int .u64 0,.int .u64 0,.int .u64 0,.int .u64 0,.int .u64 0,.int .u64 0,.int .u64 0,.int .u64 0,.int .u64 0,.int .u64 0,.int .u64 0,.int .u64 0,.int .u64 0,.int .u64 0,.int .u64 0,.int .u64 0,.int .u64 0,.int .u64 0,.int .u64 0,.int .u64 0,.int .u64 0,.int .u64 0,.int .u64 0,.int .u64 0,.int .u64 0,.int .u64 0,.int .u64 0,.int .u64 0,.int .u64 0,.int .u64 0,.int .u64 0,.int .u64 0,.int .u64 0,.int .u64 0,.int .u64 0,.int .u64 0,.int .u64 0,.int .u64 0,.int .u64 0,.int .u64 0,.int .u64 0,.int .u64 0,.int .u64 0,.int .u64 0,.int .u64 0,.int .u64 0,.int .u64 0,.int .u64 0],.struct [(3,0),(176,1),(54,65)]⟩))) (aX t 182 (aX t 180 h6 b5) b5)) (aX t 191 (aX t 188 b5 (aX t 189 b5 (aX t 190 (k5 190) (k5 124)))) (aX t 194 b5 (aX t 196 b5 (aX t 197 b5 (k5 254))))))))) (aX t 297 (aX t 247 (aX t 222 (aX t 210 (aX t 204 (aX t 201 (aX t 199 h6 b5) (aX t 202 b5 (aX t 203 b5 (uc 206)))) (aX t 207 (aX t 205 (k5 5) (some ⟨2,32,[.pointer none,.slice none 0 0],.struct [(203,0),(204,1)]⟩)) (aX t 208 b5 (some ⟨1,16,[.nilIface],.other⟩)))) (aX t 216 (aX t 213 (aX t 211 h6 b5) (aX t 214 h6 b5)) (aX t 219 b5 (aX t 220 (uc 226) (aX t 221 h6 b5))))) (aX t 234 (aX t 228 (aX t 225 (aX t 223 b5 (aX t 224 (k5 274) (k5 279))) (aX t 226 Vr (aX t 227 Vr b5))) (aX t 231 (aX t 229 b5 (aX t 230 h6 b5)) b5)) (aX t 240 (aX t 237 (aX t 235 (k5 293) (aX t 236 h6 b5)) (aX t 238 h6 b5)) (aX t 243 (aX t 241 b5 (aX t 242 b5 Ko)) (aX t 245 (aX t 244 Ko (k5 243)) b5))))) (aX t 272 (aX t 259 (aX t 253 (aX t 250 (aX t 248 (some ⟨2,16,[.int .i64 0,.int .i64 0],.array 2 3⟩) (aX t 249 (some ⟨20,160,List.replicate 20 (.int .i64 0),.array 10 247⟩) b5)) (aX t 251 b5 (aX t 252 b5 (k5 143)))) (aX t 256 (aX t 254 Ko (aX t 255 Ko b5)) b5)) (aX t 265 (aX t 262 (aX t 260 (uc 5) (aX t 261 h6 b5)) (aX t 263 Vs (aX t 264 Vs b5))) (aX t 268 (aX t 266 (some ⟨10,80,[.nilFunc,.nilFunc,.nilFunc,.nilFunc,.nilFunc,.nilFunc,.nilFunc,.nilFunc,.nilFunc,.nilFunc],.array 10 264⟩) (aX t 267 b5 (uc 263))) b5))) (aX t 284 (aX t 278 (aX t 275 (aX t 273 b5 (some ⟨10,88,[.int .u8 0,.int .i64 0,.int .i64 0,.string ⟨#[]⟩,.int .u64 0,.int .u64 0,.int .u64 0,.int .u64 0,.int .i64 0,.int .i64 0],.struct [(5,0),(3,1),(3,2),(9,3),(56,4),(3,8),(3,9)]⟩)) (aX t 276 b5 (aX t 277 h6 b5))) (aX t 281 (aX t 279 Vt (aX t 280 Vt h6)) b5)) (aX t 290 (aX t 287 (aX t 285 (uc 279) b5) b5) (aX t 293 (aX t 291 b5 (aX t 292 b5 Vu)) (aX t 295 (aX t 294 Vu b5) (aX t 296 b5 Vv))))))) (aX t 347 (aX t 322 (aX t 309 (aX t 303 (aX t 300 (aX t 298 Vv (aX t 299 (k5 297) (uc 297))) (aX t 301 b5 (aX t 302 b5 (some ⟨3,48,[.string ⟨#[]⟩,.string ⟨#[]⟩,.string ⟨#[]⟩],.struct [(9,0),(9,1),(9,2)]⟩)))) (aX t 306 (aX t 304 (some ⟨30,480,List.replicate 30 (.string ⟨#[]⟩),.array 10 302⟩) (aX t 305 b5 (some ⟨1,8,[.pointer none],.other⟩))) b5)) (aX t 315 (aX t 312 b5 (aX t 313 b5 (aX t 314 h6 b5))) (aX t 318 (aX t 316 b5 (aX t 317 (some ⟨10,80,[.nilFunc,.nilFunc,.nilFunc,.nilFunc,.nilFunc,.nilFunc,.nilFunc,.nilFunc,.nilFunc,.nilFunc],.array 10 315⟩) b5)) b5))) (aX t 334 (aX t 328 b5 (aX t 331 (aX t 329 (some ⟨1,8,[.map none],.map 5 332⟩) b5) (aX t 332 b5 (aX t 333 b5 h6)))) (aX t 340 (aX t 337 (aX t 335 h6 b5) (aX t 338 (k5 339) (aX t 339 b5 (some ⟨2,2,[.int .u8 0,.int .u8 0],.array 2 5⟩)))) (aX t 343 (aX t 341 (some ⟨3,32,[.int .i64 0,.int .i64 0,.string ⟨#[]⟩],.struct [(3,0),(3,1),(9,2)]⟩) (aX t 342 (some ⟨9,96,[.int .i64 0,.int .i64 0,.string ⟨#[]⟩,.int .i64 0,.int .i64 0,.string ⟨#[]⟩,.int .i64 0,.int .i64 0,.string ⟨#[]⟩],.array 3 340⟩) (some ⟨24,24,List.replicate 24 (.int .u8 0),.array 24 5⟩))) (aX t 345 b5 (aX t 346 h6 b5)))))) (aX t 372 (aX t 359 (aX t 353 b5 (aX t 356 b5 (aX t 357 (some ⟨20,160,List.replicate 20 (.int .u64 0),.array 20 54⟩) (aX t 358 (some ⟨1,4,[.int .u32 0],.int .u32⟩) (some ⟨65,65,List.replicate 65 (.int .u8 0),.array 65 5⟩))))) (aX t 365 (aX t 362 (aX t 360 b5 (aX t 361 h6 b5)) (aX t 363 b5 (aX t 364 h6 b5))) (aX t 368 (aX t 366 h6 b5) (aX t 370 (aX t 369 (uc 373) b5) (aX t 371 b5 (some ⟨1,8,[.map none],.map 5 5⟩)))))) (aX t 384 (aX t 378 (aX t 375 (aX t 373 Vw (aX t 374 Vw h6)) b5) (aX t 381 (aX t 379 (some ⟨64,64,List.replicate 64 (.int .u8 0),.array 64 5⟩) (aX t 380 (some ⟨32,32,List.replicate 32 (.int .u8 0),.array 32 5⟩) b5)) (aX t 382 b5 (aX t 383 b5 h6)))) (aX t 390 (aX t 387 (aX t 385 b5 (some ⟨4,40,[.pointer none,.pointer none,.pointer none,.string ⟨#[]⟩],.struct [(17,0),(17,1),(17,2),(9,3)]⟩)) (aX t 388 (some ⟨0,0,[],.array 0 16⟩) (some ⟨0,0,[],.struct [(387,0)]⟩))) (aX t 393 (aX t 391 Kn (aX t 392 Kn b5)) (aX t 395 Vi (some ⟨11,48,[.int .u64 0,.int .u64 0,.int .u32 0,.int .u8 0,.int .u8 0,.int .u8 0,.int .u8 0,.nilFunc,.pointer none,.int .i32 0,.int .i32 0],.struct [(12,0),(12,1),(357,2),(390,3),(5,4),(5,5),(391,6),(392,7),(259,8),(393,9),(394,10)]⟩)))))))))else none
def aU:c6 Tryz.prog k6:=aeC 397 (λt h=>by
 have be:Nat.blt t 397=false:=by
  cases ah:Nat.blt t 397 with
  |false=>rfl| true=>exact absurd (b0 ah) (by omega)
 simp only[k6,be,bf]) (by kernel_rfl)
def letter(c:UInt8):Bool:=decide (97<=c.toNat/\c.toNat<=122)||(decide (65<=c.toNat/\c.toNat<=90)||decide (c.toNat=95))
def digit(c:UInt8):Bool:=decide (48<=c.toNat/\c.toNat<=57)
def Vx(I:aR)(c:UInt8):Spec Tryz.prog 186 [.int .u8 c.toNat] I [] (λv I' M'=>v=.bool (letter c)/\I'=I/\M'=[]):=by
 refine b4 [] aU Tryz.func186 rfl rfl rfl ?_;intro B ao
 repeat' (refine b2.mk (λh=>?_) (λh=>?_))
 all_goals
  refine⟨_,_,.refl,?_⟩;refine⟨?_,rfl,rfl⟩;simp_all[letter]
  all_goals first
   |omega|(rw[pQ];simp;omega)
def afv(I:aR)(c:UInt8):Spec Tryz.prog 187 [.int .u8 c.toNat] I [] (λv I' M'=>v=.bool (digit c)/\I'=I/\M'=[]):=by
 refine b4 [] aU Tryz.func187 rfl rfl rfl ?_;intro B ao
 repeat' (refine b2.mk (λh=>?_) (λh=>?_))
 all_goals
  refine⟨_,_,.refl,?_⟩;refine⟨?_,rfl,rfl⟩;simp_all[digit]
  all_goals first
   |omega|(rw[pQ];simp;omega)
def BS(s:ByteArray):s.data.toList.length=s.size:=yr
def afw(I:aR)(s:ByteArray)(ar:s.size<=140737488355328):Spec Tryz.prog 224 [.string s] I [] (λv I' M'=>v=.string s/\I'=I/\M'=[]):=by
 refine b4 [] aU Tryz.func224 rfl rfl rfl ?_;intro B ao;refine aJ.mk (λh=>?_) (λh=>?_)
 ·refine⟨_,_,.refl,?_,rfl,rfl⟩;have U:s.size=0:=by simpa using h
  have:s=.empty:=by apply wG;exact N0 U
  rw[this];rfl
 ·have U:s.size≠0:=by simpa using h
  refine nE.mk s.size s.size rfl rfl (bY _) (by show 1*s.size<=_;omega) (by omega) ?_;refine cv.mk λb ah BT=>?_;refine bs.Vf aU rfl (by simp) (e:=5) rfl rfl rfl rfl rfl rfl (bY _) ?_ (.refl _) ?_;·simp[vl,madeCells]
  refine bk.mk ⟨b,0,none⟩ 0 rfl rfl (by omega) ?_;refine bs.Ow aU rfl (by simp) (e:=5) rfl rfl rfl rfl (g:=b) (l:=s.data.toList) rfl ?_ ?_ ?_ (.refl _) ?_ ?_;·show dQ.val (.int .i64 (s.size:Int))=dQ.val (.int .i64 (s.data.toList.length:Int));rw[BS]
  ·intro e;have:=congrArg List.length e;rw[BS]at this;exact U this
  ·rw[BS];omega
  ·rw[BS];have ap:(lz s).length=s.size:=by simp[lz]
   simp only[bK];rw[nH,kN,DT (by rw[ap];exact bY _),<-ap,N5];rfl
  ·exact⟨_,_,.refl,rfl,rfl,rfl⟩
def Vy(I:aR)(s:ByteArray)(ar:s.size<=140737488355328):Spec Tryz.prog 188 [.string s] I [] (λv I' M'=>v=.string s/\I'=I/\M'=[]):=by refine b4 [] aU Tryz.func188 rfl rfl rfl ?_;intro B ao;refine a0.mk [] [] _ (.refl _) (afw I s ar) ?_;rintro v I' M' -⟨rfl,rfl,rfl⟩;exact⟨_,_,.refl,rfl,rfl,rfl⟩
def ud(c:UInt8):Bool:=letter c||digit c
def ue(s:ByteArray):Nat:=match s.data.toList with
 |[]=>0| c::r=>bif letter c then 1+(r.takeWhile ud).length else 0
def Vz{α:Type}(p:α->Bool):∀ (l:List α) (i:Nat),i<=l.length->(∀ j (h:j<l.length),j<i->p l[j]=true)->(∀ (h:i<l.length),p l[i]=false)->(l.takeWhile p).length=i
 |[],i,h,_,_=>by simp at h;simp[h]
 |x::l,0,_,_,h=>by have:=h (by simp);simp only[vt]at this;simp[this]
 |x::l,i+1,hi,U,aa=>by have ab:=U 0 (by simp) (by omega);simp only[vt]at ab;have a7:=Vz p l i (by simpa using hi) (λj aj Kg=>by have:=U (j+1) (by simpa using aj) (by omega);simpa using this) (λh=>by have:=aa (by simpa using h);simpa using this);simp[ab,a7]
def afx{s:ByteArray}(ao:0<s.size)(ap:letter s[0]=true){i:Nat}(U:1<=i)(hi:i<=s.size)(aE:∀ j (h:j<s.size),1<=j->j<i->ud s[j]=true)(ah:∀ (h:i<s.size),ud s[i]=false):ue s=i:=by
 have get:∀ j (h:j<s.size),s[j]=s.data.toList[j]'(by rw[BS];exact h):=λj h=>rfl;unfold ue;have b3:=BS s;cases ag:s.data.toList with
 |nil=>rw[ag]at b3;simp at b3;omega
 |cons c r=>
  have g:∀ j (h:j<s.size),s[j]=(c::r)[j]'(by rw[<-ag,b3];exact h):=λj h=>by rw[get j h];simp only[ag]
  rw[ag]at b3;have aN:letter c=true:=by rw[g 0 ao]at ap;simpa using ap
  simp only[aN,bh];simp only[eQ]at b3;rw[Vz ud r (i-1) (by omega) (λj aj Kg=>by
   have af:j+1<s.size:=by omega
   have:=aE (j+1) af (by omega) (by omega);rw[g (j+1) af]at this;simpa using this) (λh=>by
   have af:i<s.size:=by omega
   have:=ah af;rw[g i af]at this;have e:i=(i-1)+1:=by omega
   rw[List.getElem_cons]at this;rw[dif_neg (by omega)]at this;exact this)]
  omega
def afy(I:aR)(s:ByteArray)(ar:s.size<=140737488355328):Spec Tryz.prog 142 [.string s] I [] (λv I' M'=>v=.string (s.extract 0 (ue s))/\I'=I/\M'=[]):=by
 refine b4 [] aU Tryz.func142 rfl rfl rfl ?_;intro B ao;have cJ:∀ {s:ByteArray},ue s=0->s.extract 0 (ue s)=⟨#[]⟩:=λh=>by rw[h];apply wG;simp[JH]
 refine b2.mk (λh=>?_) (λh=>?_)
 ·have U:s≠⟨#[]⟩:=by simpa using h
  have ki:0<s.size:=by refine Nat.pos_of_ne_zero λe=>U ?_;apply wG;exact N0 e
  refine ye.mk 0 rfl ki ?_;refine a0.mk [] [] _ (.refl _) (Vx I s[0]) ?_;rintro v I' M' -⟨rfl,rfl,rfl⟩;refine aJ.mk (λh=>?_) (λh=>?_)
  ·have ap:letter s[0]=false:=by simpa using h
   refine⟨_,_,.refl,?_,rfl,rfl⟩;rw[cJ]
   ·unfold ue;cases ag:s.data.toList with
    |nil=>rfl
    |cons c r=>
     have:s[0]=c:=by show s.data.toList[0]=c;simp only[ag];rfl
     rw[this]at ap;simp[ap]
  ·have ap:letter s[0]=true:=by simpa using h
   refine dG.inv (ι:=Nat) (λi=>{ bx:=[(0,.val (.string s)),(3,.val (.int .i64 i))],c2:=I' }) (λi=>1<=i/\i<=s.size/\∀ j (h:j<s.size),1<=j->j<i->ud s[j]=true) (λi=>s.size-i) ?_ ?_;·exact⟨1,⟨by omega,by omega,λj _ U aa=>by omega⟩,.refl,yq,.nil⟩
   ·rintro i⟨e9,hz,iA⟩;have next:∀ (aS:i<s.size),ud s[i]=true->(1<=i+1/\i+1<=s.size/\∀ k (h:k<s.size),1<=k->k<i+1->ud s[k]=true)/\s.size-(i+1)<s.size-i:=λaS aN=>
     ⟨⟨by omega,by omega,λj aj U aa=>by
      by_cases e:j=i;·subst e;exact aN
      ·exact iA j aj U (by omega)⟩,by omega⟩
    have out:(∀ (h:i<s.size),ud s[i]=false)->s.extract 0 i=s.extract 0 (ue s):=λaw=>by rw[afx ki ap e9 hz iA aw]
    have c8:(s.extract 0 i).size<=140737488355328:=by rw[N2];omega
    have gu:IntKind.i64.wrap ((i:Int)+1)=((i+1:Nat):Int):=by rw[wrap_i64 ⟨by omega,by omega⟩];omega
    refine b2.mk (λh=>?_) (λh=>?_)
    ·have aS:i<s.size:=by simpa using h
     refine ye.mk i rfl aS ?_;refine a0.mk [] [] _ (.refl _) (Vx I' s[i]) ?_;rintro v I' M' -⟨rfl,rfl,rfl⟩;refine b2.mk (λh=>?_) (λh=>?_)
     ·refine ye.mk i rfl aS ?_;refine a0.mk [] [] _ (.refl _) (afv _ s[i]) ?_;rintro v I' M' -⟨rfl,rfl,rfl⟩;refine aJ.mk (λaa=>?_) (λaa=>?_)
      ·refine bc.mk _ gu ?_;exact⟨i+1,next aS (by simp only[ud];rw[show digit s[i]=true from aa];simp),.refl,yq,.nil⟩
      ·refine jO.mk 0 i rfl rfl (by omega) (by omega) ?_;refine a0.mk [] [] _ (.refl _) (Vy _ _ c8) ?_;rintro v I' M' -⟨rfl,rfl,rfl⟩;refine⟨_,_,.refl,?_,rfl,rfl⟩;rw[<-out λ_=>by simp only[ud];rw[show letter s[i]=false from h,show digit s[i]=false from aa];rfl]
     ·refine bc.mk _ gu ?_;exact⟨i+1,next aS (by simp only[ud];rw[show letter s[i]=true from h];simp),.refl,yq,.nil⟩
    ·have cm:¬ i<s.size:=by simpa using h
     refine jO.mk 0 i rfl rfl (by omega) (by omega) ?_;refine a0.mk [] [] _ (.refl _) (Vy _ _ c8) ?_;rintro v I' M' -⟨rfl,rfl,rfl⟩;refine⟨_,_,.refl,?_,rfl,rfl⟩;rw[<-out λh=>(cm h).elim]
 ·have U:s=⟨#[]⟩:=by simpa using h
  subst U;refine⟨_,_,.refl,?_,rfl,rfl⟩;rw[cJ];rfl
def m3(s:ByteArray):Bool:=decide (s≠⟨#[]⟩)&&(decide (s.size<=32)&&decide (ue s=s.size))
def afz(s:ByteArray):ue s<=s.size:=by
 unfold ue;have ap:=BS s;cases ag:s.data.toList with
 |nil=>simp
 |cons c r=>
  rw[ag]at ap;simp only[eQ]at ap;simp only;cases letter c;·simp
  ·simp only[bh];have:=(List.takeWhile_sublist (p:=ud) (l:=r)).length_le;omega
def OA(I:aR)(s:ByteArray):Spec Tryz.prog 95 [.string s] I [] (λv I' M'=>v=.bool (m3 s)/\I'=I/\M'=[]):=by
 refine b4 [] aU Tryz.func95 rfl rfl rfl ?_;intro B ao;refine b2.mk (λU=>?_) (λU=>?_)
 ·refine b2.mk (λaa=>?_) (λaa=>?_)
  ·have qN:s.size<=32:=by simp at aa;omega
   refine a0.mk [] [] _ (.refl _) (afy I s (by omega)) ?_;rintro v I' M' -⟨rfl,rfl,rfl⟩;refine⟨_,_,.refl,?_,rfl,rfl⟩;have bn:=afz s;have az:(s.extract 0 (ue s)).size=ue s:=by rw[N2];omega
   simp_all[m3]
   all_goals omega
  ·refine⟨_,_,.refl,?_,rfl,rfl⟩;simp_all[m3]
   all_goals omega
 ·refine⟨_,_,.refl,?_,rfl,rfl⟩;simp_all[m3]
def oC:List Int:=[0,0,0,0,0,0,0,0,2,-1,2,-1,1,1,1,1,1,1,1,1]
def uf(k:Nat):Int:=oC.getD (k*2) 0
def p3(k:Nat):Int:=oC.getD (k*2+1) 0
def pe(I:aR):Prop:=∃ T al,I 0=some (.cells (oC.map (Value.int .i64)).toArray T al)
def pe.rd{I:aR}(h:pe I)(M:List aI){j:Nat}(aj:j<20):cq I M (Addr.add ⟨0,0,none⟩ j) 1 [.int .i64 (oC.getD j 0)]:=by
 obtain⟨T,al,h⟩:=h;rw[eo _ rfl];refine⟨rfl,_,T,al,.inl h,?_,rfl⟩;simp only[dz];have:∀ j:Fin 20,(((oC.map (Value.int .i64)).toArray.toList.drop j.val).take 1)=[Value.int .i64 (oC.getD j.val 0)]:=by
  intro j;have U:j.val<(oC.map (Value.int .i64)).length:=by simp[oC]
  rw[ND,e8 U,pU,nH];have aa:j.val<oC.length:=by simp[oC]
  simp[cS,aa]
 exact this ⟨j,aj⟩
def pe.afA{I:aR}(h:pe I)(M:List aI){i j:Nat}(aj:i+j<20):cq I M ((Addr.add ⟨0,0,none⟩ i).add j) 1 [.int .i64 (oC.getD (i+j) 0)]:=by
 have e:(Addr.add ⟨0,0,none⟩ i).add j=Addr.add ⟨0,0,none⟩ (i+j):=by rw[eo ⟨_,0,none⟩ rfl i,eo _ rfl j,eo _ rfl (i+j)];simp
 rw[e];exact h.rd M aj
def aM.oD(d:aM):Bool:=d.eO == 0&&(d.s1 == 0&&(d.s2 == 0&&d.eU == 0))
def fits(d:aM)(n:Int):Bool:=
 bif decide (10<=d.k)then false else
 bif decide (n<uf d.k.toNat)||(decide (0<=p3 d.k.toNat)&&decide (p3 d.k.toNat<n))then false else
 bif decide (d.k=1)then decide (d.t=⟨#[]⟩)&&(decide (d.lo=0)&&decide (d.hi=0))else
 bif decide (d.k=2)then(!(decide (d.t=⟨#[]⟩)||decide (255<d.t.size)))&&(d.oD&&(decide (d.lo=0)&&decide (d.hi=0)))else
 bif decide (d.k=3)||decide (d.k=9)then m3 d.t&&(d.oD&&(decide (d.lo=0)&&decide (d.hi=0)))else
 bif decide (d.k=6)then(!(decide (d.lo<0)||(decide (99<d.lo)||(decide (d.hi≠-1)&&(decide (d.hi<d.lo)||decide (99<d.hi))))))&&(d.oD&&decide (d.t=⟨#[]⟩))else
 d.oD&&(decide (d.t=⟨#[]⟩)&&(decide (d.lo=0)&&decide (d.hi=0)))
set_option maxHeartbeats 4000000 in
def VA{I:aR}(aN:pe I){d:aM}(ag:d.ok I)(n:Int):Spec Tryz.prog 110 [d.val,.int .i64 n] I [] (λv I' M'=>v=.bool (fits d n)/\I'=I/\M'=[]):=by
 refine b4 [] aU Tryz.func110 rfl rfl rfl ?_;intro B ao;have ae:=ag.k;refine bc.mk d.k (by unfold IntKind.wrap;simp[IntKind.bits,IntKind.signed];omega) ?_;refine aJ.mk (λh=>?_) (λh=>?_)
 ·refine⟨_,_,.refl,?_,rfl,rfl⟩;simp at h;simp[fits,h]
 ·have rQ:d.k<10:=by simpa using h
  have aj:d.k=((d.k.toNat:Nat):Int):=by omega
  have VB:d.k.toNat<10:=by omega
  refine c4.draw aU rfl rfl rfl ?_;refine ez.mk d.k.toNat aj VB ?_;refine ez.mk 0 rfl (by omega) ?_;refine aK.mk [.int .i64 (uf d.k.toNat)] (aN.rd _ (j:=d.k.toNat*2) (by omega)) ?_;refine ez.mk d.k.toNat aj VB ?_;refine ez.mk 1 rfl (by omega) ?_;refine aK.mk [.int .i64 (p3 d.k.toNat)] (aN.afA _ (i:=d.k.toNat*2) (j:=1) (by omega)) ?_
  repeat' first
   |refine b2.mk (λh=>?_) (λh=>?_)| refine aJ.mk (λh=>?_) (λh=>?_)| refine fM.Vc aU (e:=54) rfl rfl rfl rfl (by kernel_rfl) ?_|(refine a0.mk [] [] _ (.refl _) (OA _ _) ?_;rintro v I' M' -⟨rfl,rfl,rfl⟩)
  all_goals refine⟨_,_,.refl,?_⟩
  all_goals refine⟨?_,rfl,rfl⟩
  all_goals clear aN ag aj
  all_goals (first | (simp_all[fits,aM.oD];done) | (simp_all[fits,aM.oD];omega) | (simp_all[fits,aM.oD];rw[pQ];simp;omega))
def k7(i:Nat):List Int->List Bool->Option (List Bool)
 |[],s=>some s| k::ks,s=>bif decide (k<0)||(decide ((i:Int)<=k)||s.getD k.toNat false)then none else k7 i ks (s.set k.toNat true)
def jB:Nat->List aM->List Bool->Option (List Bool)
 |_,[],s=>some s
 |i,d::ds,s=>bif fits d d.ax.length then(match k7 i d.ax s with
  |some ct=>jB (i+1) ds ct| none=>none)else none
def rR(bF:Int):Nat->List Bool->Bool
 |_,[]=>true| i,b::s=>bif b == decide ((i:Int)=bF)then false else rR bF (i+1) s
def right(t:bN):Bool:=decide (0<=t.bF)&&(decide (t.bF<t.ns.length)&&(match jB 0 t.ns (List.replicate t.ns.length false)with
 |some s=>rR t.bF 0 s| none=>false))
def BU(v:Value)(n:Nat):rowOf [v] n=List.replicate n v:=by
 apply ys
 ·simp[vl,madeCells]
 ·intro i U aa;simp[vl,madeCells,Nat.mod_one]
def zT(b:Nat)(s:List Bool):aI:=⟨b,.cells (s.map Value.bool).toArray 4 (0,0)⟩
def VC{I:aR}{b:Nat}{s:List Bool}(a2:zT b s∈M){j:Nat}(aj:j<s.length):cq I M ((⟨b,0,none⟩:Addr).add (j*1)) 1 [.bool s[j]]:=by
 rw[eo _ rfl];refine⟨rfl,_,4,(0,0),.inr ⟨_,a2,rfl,rfl⟩,?_,rfl⟩;have U:j<(s.map Value.bool).length:=by simpa using aj
 simp only[dz,iU];rw[e8 U,pU,nH];simp
def afB(s:List Bool)(j:Nat)(aj:j<s.length)(b:Bool):bK (s.map Value.bool) j [.bool b]=(s.set j b).map Value.bool:=by unfold bK;rw[J6,Gr];simp[aj]
def cz.add{b o k:Nat}(a8 post:List aI)(cs:Array Value)(T:Nat)(a2:M=a8++⟨b,.cells cs T (0,0)⟩::post)(ah:o+k+vs.length<=cs.size)(U:gU vs=true)
  (h:K (a8++⟨b,.cells (bK cs.toList (o+k) vs).toArray T (0,0)⟩::post)):cz M ((⟨b,o,none⟩:Addr).add k) vs K:=by
 rw[eo _ rfl];exact .mk a8 post cs T a2 rfl ah U h
def cz.jl{b o k:Nat}(a8 post:List aI)(cs:List Value)(T:Nat)(a2:M=a8++⟨b,.cells cs.toArray T (0,0)⟩::post)(ah:Nat.ble (o+k+vs.length) cs.length=true)(U:gU vs=true)(cs':List Value)(he:bK cs (o+k) vs=cs')(h:K (a8++⟨b,.cells cs'.toArray T (0,0)⟩::post)):cz M ((⟨b,o,none⟩:Addr).add k) vs K:=
 cz.add a8 post _ _ a2 (by simpa using b0 ah) U (by rw[<-he]at h;exact h)
def w5{I:aR}(aN:pe I){t:bN}(av:t.ok I):Spec Tryz.prog 62 [t.val] I [] (λv I' M'=>v=.bool (right t)/\I'=I/\M'=[]):=by
 refine b4 [] aU Tryz.func62 rfl rfl rfl ?_;intro B ao;have aw:=av.n;have ig:=av.bg.cap;refine b2.mk (λU=>?_) (λU=>?_)
 ·refine aJ.mk (λaa=>?_) (λaa=>?_)
  ·refine⟨_,_,.refl,?_,rfl,rfl⟩;simp at aa;have:¬ t.bF<t.ns.length:=by omega
   simp[right,this]
  ·have aV:0<=t.bF:=by simpa using U
   have a3:t.bF<t.ns.length:=by simp at aa;omega
   refine nE.mk t.n t.n rfl rfl (bY _) (by show 1*t.n<=_;omega) (by omega) ?_;refine cv.mk λb ah BT=>?_;refine dG.inv (ι:=Nat×List Bool) (λx=>{ bx:=[(1,.ref 1 0),(3,.val (.slice (some ⟨b,0,none⟩) t.n t.n)),(26,.val (.slice t.a t.n t.c)),(27,.val (.int .i64 t.n)),(28,.val (.int .i64 x.1))],cl:=[(1,t.cells)],c2:=I,du:=[zT b x.2] }) (λx=>x.1<=t.n/\x.2.length=t.n/\jB 0 t.ns (List.replicate t.ns.length false)=jB x.1 (t.ns.drop x.1) x.2) (λx=>t.n-x.1) ?_ ?_;·refine⟨(0,List.replicate t.n false),⟨by omega,by simp,by simp[aw]⟩,?_,hS,.cons rfl .nil⟩;show jP _ _ [⟨b,.cells (rowOf [Value.bool false] (t.n*1)).toArray 4 (0,0)⟩] _ [zT b (List.replicate t.n false)];rw[BU,iU];simp only[zT,N3];exact .refl
   ·rintro⟨i,s⟩⟨e9,hz,iA⟩;simp only at e9 hz iA;refine aJ.mk (λh=>?_) (λh=>?_)
    ·have aS:i<t.n:=by simpa using h
     have b':i<t.ns.length:=by omega
     obtain⟨ad,bP,bu⟩:=av.bg.row aM.de aS b';have hN:=av.ns t.ns[i] (cC b');have cY:=hN.kn;have k8:t.ns.drop i=t.ns[i]::t.ns.drop (i+1):=e8 b';refine bk.mk ad i bP rfl aS ?_;refine aK.mk t.ns[i].cells (bu _) ?_;refine a0.mk [] [zT b s] _ (.refl _) (VA aN hN t.ns[i].kn) ?_;rintro v I' M' -⟨rfl,rfl,rfl⟩;refine aJ.mk (λaf=>?_) (λaf=>?_)
     ·refine⟨_,_,.sub (fw _) .refl,?_,rfl,rfl⟩;have aC:fits t.ns[i] t.ns[i].ax.length=false:=by rw[cY];simpa using af
      have:right t=false:=by unfold right;rw[iA,k8];simp[jB,aC]
      rw[this]
     ·have aC:fits t.ns[i] t.ns[i].ax.length=true:=by rw[cY];simpa using af
      refine dG.inv (ι:=Nat×List Bool) (λx=>{ bx:=[(1,.ref 1 0),(3,.val (.slice (some ⟨b,0,none⟩) t.n t.n)),(4,.val (.int .i64 i)),(26,.val (.slice t.a t.n t.c)),(27,.val (.int .i64 t.n)),(28,.val (.int .i64 i)),(40,.val (.slice t.ns[i].iW t.ns[i].kn t.ns[i].iz)),(41,.val (.int .i64 t.ns[i].kn)),(42,.val (.int .i64 x.1))],cl:=[(1,t.cells)],c2:=I',du:=[zT b x.2] }) (λx=>x.1<=t.ns[i].kn/\x.2.length=t.n/\k7 i t.ns[i].ax s=k7 i (t.ns[i].ax.drop x.1) x.2) (λx=>t.ns[i].kn-x.1) ?_ ?_;·exact⟨(0,s),⟨by omega,hz,rfl⟩,.refl,lV,.cons rfl .nil⟩
      ·rintro⟨j,ct⟩⟨qO,m4,D7⟩;simp only at qO m4 D7;refine aJ.mk (λh=>?_) (λh=>?_)
       ·have gz:j<t.ns[i].kn:=by simpa using h
        have pf:j<t.ns[i].ax.length:=by omega
        obtain⟨eK,fG,e0⟩:=hN.bg.one gz pf;refine bk.mk eK j fG rfl gz ?_;refine aK.mk [.int .i64 t.ns[i].ax[j]] (e0 _) ?_;have fH:t.ns[i].ax.drop j=t.ns[i].ax[j]::t.ns[i].ax.drop (j+1):=e8 pf;have bad:(decide (t.ns[i].ax[j]<0)||(decide ((i:Int)<=t.ns[i].ax[j])||ct.getD t.ns[i].ax[j].toNat false))=true->right t=false:=λah=>by unfold right;rw[iA,k8];simp only[jB,aC,bh,D7,fH,k7,ah];simp
        refine b2.mk (λaP=>?_) (λaP=>?_)
        ·refine b2.mk (λbq=>?_) (λbq=>?_)
         ·simp only[ow,Int.not_lt,Int.not_le]at aP bq;have cZ:t.ns[i].ax[j]=((t.ns[i].ax[j].toNat:Nat):Int):=by omega
          have ep:t.ns[i].ax[j].toNat<t.n:=by omega
          have sT:t.ns[i].ax[j].toNat<ct.length:=by omega
          refine bk.mk ⟨b,0,none⟩ t.ns[i].ax[j].toNat rfl cZ ep ?_;refine aK.mk [.bool ct[t.ns[i].ax[j].toNat]] (VC (by simp) sT) ?_;refine aJ.mk (λbj=>?_) (λbj=>?_);·refine⟨_,_,.sub (fw _) .refl,?_,rfl,rfl⟩;rw[bad];simp[cS,sT,bj]
          ·refine bk.mk ⟨b,0,none⟩ t.ns[i].ax[j].toNat rfl cZ ep ?_;refine cz.add [] [] _ 4 rfl ?_ rfl ?_
           ·simp only[vu,cD];show 0+t.ns[i].ax[j].toNat*1+1<=_;omega
           have gu:IntKind.i64.wrap ((j:Int)+1)=((j+1:Nat):Int):=by rw[wrap_i64 ⟨by omega,by have:=hN.bg.cap;omega⟩];omega
           refine bc.mk _ gu ?_;refine⟨(j+1,ct.set t.ns[i].ax[j].toNat true),⟨⟨by omega,by simp[m4],?_⟩,by show _<_;simp only;omega⟩,?_,lV,.cons rfl .nil⟩
           ·simp only;rw[D7,fH];have ay:(decide (t.ns[i].ax[j]<0)||(decide ((i:Int)<=t.ns[i].ax[j])||ct.getD t.ns[i].ax[j].toNat false))=false:=by
             have az:¬ t.ns[i].ax[j]<0:=by omega
             have aF:¬ (i:Int)<=t.ns[i].ax[j]:=by omega
             simp[az,aF,cS,sT,show ct[t.ns[i].ax[j].toNat]=false from bj]
            simp only[k7,ay,bf]
           ·have e:=afB ct t.ns[i].ax[j].toNat sT true;simp only[zT];rw[<-e];simp only[dz,iU];exact .refl
         ·refine⟨_,_,.sub (fw _) .refl,?_,rfl,rfl⟩;rw[bad];simp at bq;simp[bq]
        ·refine⟨_,_,.sub (fw _) .refl,?_,rfl,rfl⟩;rw[bad];simp at aP;simp[aP]
       ·have gz:¬ j<t.ns[i].kn:=by simpa using h
        have BV:t.ns[i].ax.drop j=[]:=jT (by omega);have gu:IntKind.i64.wrap ((i:Int)+1)=((i+1:Nat):Int):=by rw[wrap_i64 ⟨by omega,by omega⟩];omega
        refine bc.mk _ gu ?_;refine⟨(i+1,ct),⟨⟨by omega,m4,?_⟩,by show _<_;simp only;omega⟩,.refl,hS,.cons rfl .nil⟩;simp only;rw[iA,k8];simp only[jB,aC,bh,D7,BV,k7]
    ·have cm:¬ i<t.n:=by simpa using h
     have dy:t.ns.drop i=[]:=jT (by omega);have ej:jB 0 t.ns (List.replicate t.ns.length false)=some s:=by rw[iA,dy];rfl
     have ai:right t=rR t.bF 0 s:=by unfold right;rw[ej];simp[aV,a3]
     refine dG.inv (ι:=Nat) (λm=>{ bx:=[(1,.ref 1 0),(64,.val (.slice (some ⟨b,0,none⟩) t.n t.n)),(65,.val (.int .i64 t.n)),(66,.val (.int .i64 m))],cl:=[(1,t.cells)],c2:=I,du:=[zT b s] }) (λm=>m<=t.n/\rR t.bF 0 s=rR t.bF m (s.drop m)) (λm=>t.n-m) ?_ ?_;·exact⟨0,⟨by omega,rfl⟩,.refl,fO,.cons rfl .nil⟩
     ·rintro m⟨D8,sU⟩;refine aJ.mk (λh=>?_) (λh=>?_)
      ·have l1:m<t.n:=by simpa using h
       have rS:m<s.length:=by omega
       have m5:s.drop m=s[m]::s.drop (m+1):=e8 rS;refine bk.mk ⟨b,0,none⟩ m rfl rfl l1 ?_;refine aK.mk [.bool s[m]] (VC (by simp) rS) ?_;refine aJ.mk (λeh=>?_) (λeh=>?_)
       ·refine⟨_,_,.sub (fw _) .refl,?_,rfl,rfl⟩;have:right t=false:=by rw[ai,sU,m5];simp only[rR,show(s[m] == decide ((m:Int)=t.bF))=true from eh,bh]
        rw[this]
       ·have gu:IntKind.i64.wrap ((m:Int)+1)=((m+1:Nat):Int):=by rw[wrap_i64 ⟨by omega,by omega⟩];omega
        refine bc.mk _ gu ?_;refine⟨m+1,⟨⟨by omega,?_⟩,by omega⟩,.refl,fO,.cons rfl .nil⟩;rw[sU,m5];simp only[rR,show(s[m] == decide ((m:Int)=t.bF))=false from eh,bf]
      ·have l1:¬ m<t.n:=by simpa using h
       have m5:s.drop m=[]:=jT (by omega);refine⟨_,_,.sub (fw _) .refl,?_,rfl,rfl⟩;rw[ai,sU,m5];rfl
 ·refine⟨_,_,.refl,?_,rfl,rfl⟩;have:¬ 0<=t.bF:=by simp at U;omega
  simp[right,this]
def jm(b:Nat)(s:List Int):aI:=⟨b,.cells (s.map (Value.int .i64)).toArray 3 (0,0)⟩
def OB{I:aR}{b:Nat}{s:List Int}(a2:jm b s∈M){j:Nat}(aj:j<s.length):cq I M ((⟨b,0,none⟩:Addr).add (j*1)) 1 [.int .i64 s[j]]:=by
 rw[eo _ rfl];refine⟨rfl,_,3,(0,0),.inr ⟨_,a2,rfl,rfl⟩,?_,rfl⟩;have U:j<(s.map (Value.int .i64)).length:=by simpa using aj
 simp only[dz,iU];rw[e8 U,pU,nH];simp
def Kp{I:aR}{b:Nat}{s:List Int}{v:Int}{j:Nat}(aj:j<s.length)(ak:s[j]=v)(a2:jm b s∈M):cq I M ((⟨b,0,none⟩:Addr).add (j*1)) 1 [.int .i64 v]:=ak ▸ OB a2 aj
def OC(s:List Int)(j:Nat)(aj:j<s.length)(b:Int):bK (s.map (Value.int .i64)) j [.int .i64 b]=(s.set j b).map (Value.int .i64):=by unfold bK;rw[J6,Gr];simp[aj]
def afC{I:aR}(aN:pe I){t:bN}(av:t.ok I):Spec Tryz.prog 39 [t.val] I [] (λv I' M'=>v=.int .i64 (bif right t then(t.n:Int)else 0)/\I'=I/\M'=[]):=by
 refine b4 [] aU Tryz.func39 rfl rfl rfl ?_;intro B ao;refine a0.mk [] [] _ (.refl _) (w5 aN av) ?_;rintro v I' M' -⟨rfl,rfl,rfl⟩;refine aJ.mk (λh=>?_) (λh=>?_)
 ·refine⟨_,_,.refl,?_,rfl,rfl⟩;rw[show right t=false by simpa using h];rfl
 ·refine⟨_,_,.refl,?_,rfl,rfl⟩;rw[show right t=true by simpa using h];rfl
def VD{i:Nat}:∀ {ks:List Int} {s ct:List Bool},k7 i ks s=some ct->∀ k∈ks,0<=k/\k<i
 |[],s,ct,_,k,ae=>by cases ae
 |x::ks,s,ct,h,k,ae=>by
  unfold k7 at h;cases ah:(decide (x<0)||(decide ((i:Int)<=x)||s.getD x.toNat false))with
  |true=>rw[ah]at h;cases h
  |false=>
   rw[ah]at h;simp only[o6,ow]at ah;rcases eL.1 ae with rfl | ae;·omega
   ·exact VD h k ae
def VE:∀ {i:Nat} {ds:List aM} {s ct:List Bool},jB i ds s=some ct->∀ j (h:j<ds.length),∀ k∈ds[j].ax,0<=k/\k<(i+j:Nat)
 |i,[],s,ct,_,j,aj,_,_=>by cases aj
 |i,d::ds,s,ct,h,j,aj,k,ae=>by
  unfold jB at h;cases aC:fits d d.ax.length with
  |false=>rw[aC]at h;cases h
  |true=>
   rw[aC]at h;simp only[bh]at h;cases au:k7 i d.ax s with
   |none=>rw[au]at h;cases h
   |some s1=>
    rw[au]at h;cases j with
    |zero=>exact VD au k (by simpa using ae)| succ j=>have:=VE h j (by simpa using aj) k (by simpa using ae);omega
def mz{t:bN}(h:right t=true):∀ j (aj:j<t.ns.length),∀ k∈t.ns[j].ax,0<=k/\k<j:=by
 unfold right at h;simp only[cp]at h;obtain⟨_,_,h⟩:=h;split at h
 ·rename_i s ar;intro j aj k ae;have:=VE ar j aj k ae;omega
 ·cases h
def yC{t:bN}(h:right t=true):0<=t.bF/\t.bF<t.ns.length:=by unfold right at h;simp only[cp,e5]at h;exact⟨h.1,h.2.1⟩
def BW(hA:List Int):List Int->Int->Int
 |[],m=>m| k::ks,m=>BW hA ks (max m (hA.getD k.toNat 0))
def yD:Nat->List aM->List Int->List Int
 |_,[],hA=>hA| i,d::ds,hA=>yD (i+1) ds (hA.set i (BW hA d.ax 0+1))
def depth(t:bN):Int:=bif right t then(yD 0 t.ns (List.replicate t.ns.length 0)).getD t.bF.toNat 0 else 0
def afD{I:aR}(aN:pe I){t:bN}(av:t.ok I):Spec Tryz.prog 43 [t.val] I [] (λv I' M'=>v=.int .i64 (depth t)/\I'=I/\M'=[]):=by
 refine b4 [] aU Tryz.func43 rfl rfl rfl ?_;intro B ao;have aw:=av.n;have ig:=av.bg.cap;refine a0.mk [] [] _ (.refl _) (w5 aN av) ?_;rintro v I' M' -⟨rfl,rfl,rfl⟩;refine aJ.mk (λh=>?_) (λh=>?_)
 ·refine⟨_,_,.refl,?_,rfl,rfl⟩;simp[depth,show right t=false by simpa using h]
 ·have ai:right t=true:=by simpa using h
  have fc:=mz ai;obtain⟨aV,a3⟩:=yC ai;refine nE.mk t.n t.n rfl rfl (bY _) (by show 8*t.n<=_;omega) (by omega) ?_;refine cv.mk λb ah BT=>?_;refine dG.inv (ι:=Nat×List Int) (λx=>{ bx:=[(1,.ref 1 0),(3,.val (.slice (some ⟨b,0,none⟩) t.n t.n)),(16,.val (.slice t.a t.n t.c)),(17,.val (.int .i64 t.n)),(18,.val (.int .i64 x.1))],cl:=[(1,t.cells)],c2:=I',du:=[jm b x.2] }) (λx=>x.1<=t.n/\x.2.length=t.n/\(∀ j,0<=x.2.getD j 0/\x.2.getD j 0<=x.1)/\(∀ j,x.1<=j->x.2.getD j 0=0)/\yD 0 t.ns (List.replicate t.ns.length 0)=yD x.1 (t.ns.drop x.1) x.2) (λx=>t.n-x.1) ?_ ?_
  ·have z:∀ j,(List.replicate t.n (0:Int)).getD j 0=0:=λj=>by
    by_cases aj:j<t.n<;>simp[cS,aj]
   refine⟨(0,List.replicate t.n 0),⟨by omega,by simp,λj=>by rw[z];simp,λj _=>z j,by simp[aw]⟩,?_,hS,.cons rfl .nil⟩;show jP _ _ [⟨b,.cells (rowOf [Value.int .i64 0] (t.n*1)).toArray 3 (0,0)⟩] _ [jm b (List.replicate t.n 0)];rw[BU,iU];simp only[jm,N3];exact .refl
  ·rintro⟨i,hA⟩⟨e9,hz,iA,kj,BB⟩;simp only at e9 hz iA kj BB;refine aJ.mk (λh=>?_) (λh=>?_)
   ·have aS:i<t.n:=by simpa using h
    have b':i<t.ns.length:=by omega
    obtain⟨ad,bP,bu⟩:=av.bg.row aM.de aS b';have hN:=av.ns t.ns[i] (cC b');have cY:=hN.kn;have k8:t.ns.drop i=t.ns[i]::t.ns.drop (i+1):=e8 b';refine bk.mk ad i bP rfl aS ?_;refine aK.mk t.ns[i].cells (bu _) ?_;refine dG.inv (ι:=Nat×Int) (λx=>{ bx:=[(1,.ref 1 0),(3,.val (.slice (some ⟨b,0,none⟩) t.n t.n)),(4,.val (.int .i64 i)),(16,.val (.slice t.a t.n t.c)),(17,.val (.int .i64 t.n)),(18,.val (.int .i64 i)),(24,.val (.slice t.ns[i].iW t.ns[i].kn t.ns[i].iz)),(25,.val (.int .i64 t.ns[i].kn)),(26,.val (.int .i64 x.1))],cl:=[(1,t.cells)],c2:=I',du:=[jm b (hA.set i x.2)] }) (λx=>x.1<=t.ns[i].kn/\0<=x.2/\x.2<=i/\BW hA t.ns[i].ax 0=BW hA (t.ns[i].ax.drop x.1) x.2) (λx=>t.ns[i].kn-x.1) ?_ ?_
    ·refine⟨(0,0),⟨by omega,by omega,by simp,rfl⟩,?_,lV,.cons rfl .nil⟩;have e:hA.set i 0=hA:=by
      have U:=kj i (bY _);rw[cS]at U;apply DW;intro j;rw[o8];split
      ·rename_i e;subst e;have:i<hA.length:=by omega
       simp[this]at U |-;exact U.symm
      ·rfl
     simp only;rw[e];exact .refl
    ·rintro⟨j,m⟩⟨qO,m4,D7,OD⟩;simp only at qO m4 D7 OD;refine aJ.mk (λh=>?_) (λh=>?_)
     ·have gz:j<t.ns[i].kn:=by simpa using h
      have pf:j<t.ns[i].ax.length:=by omega
      obtain⟨eK,fG,e0⟩:=hN.bg.one gz pf;have fH:t.ns[i].ax.drop j=t.ns[i].ax[j]::t.ns[i].ax.drop (j+1):=e8 pf;have ae:=fc i b' t.ns[i].ax[j] (cC pf);have cZ:t.ns[i].ax[j]=((t.ns[i].ax[j].toNat:Nat):Int):=by omega
      have ep:t.ns[i].ax[j].toNat<t.n:=by omega
      refine bk.mk eK j fG rfl gz ?_;refine aK.mk [.int .i64 t.ns[i].ax[j]] (e0 _) ?_;refine c4.draw aU rfl rfl rfl ?_;have eP:i<(hA.set i m).length:=by simp;omega
      have sT:t.ns[i].ax[j].toNat<(hA.set i m).length:=by simp;omega
      have OE:(hA.set i m)[i]=m:=by simp
      have gq:(hA.set i m)[t.ns[i].ax[j].toNat]=hA.getD t.ns[i].ax[j].toNat 0:=by
       have bH:i≠t.ns[i].ax[j].toNat:=by omega
       have fI:t.ns[i].ax[j].toNat<hA.length:=by omega
       rw[List.getElem_set,ca bH];simp[cS,fI]
      refine bk.mk ⟨b,0,none⟩ i rfl rfl aS ?_;refine aK.mk [.int .i64 m] (Kp eP OE (by simp)) ?_;refine bk.mk ⟨b,0,none⟩ t.ns[i].ax[j].toNat rfl cZ ep ?_;refine aK.mk [.int .i64 (hA.getD t.ns[i].ax[j].toNat 0)] (Kp sT gq (by simp)) ?_;refine bk.mk ⟨b,0,none⟩ i rfl rfl aS ?_;refine cz.add [] [] _ 3 rfl ?_ rfl ?_;·simp only[vu,cD];show 0+i*1+1<=_;simp;omega
      have gu:IntKind.i64.wrap ((j:Int)+1)=((j+1:Nat):Int):=by rw[wrap_i64 ⟨by omega,by have:=hN.bg.cap;omega⟩];omega
      refine bc.mk _ gu ?_;have ar8:=iA t.ns[i].ax[j].toNat;refine⟨(j+1,max m (hA.getD t.ns[i].ax[j].toNat 0)),⟨⟨by omega,by simp only;omega,by simp only;omega,?_⟩,by show _<_;simp only;omega⟩,?_,lV,.cons rfl .nil⟩;·simp only;rw[OD,fH];rfl
      ·have e:=OC (hA.set i m) i eP (max m (hA.getD t.ns[i].ax[j].toNat 0));simp only[jm];rw[Gv]at e;rw[<-e];simp only[dz,iU];exact .refl
     ·have gz:¬ j<t.ns[i].kn:=by simpa using h
      have BV:t.ns[i].ax.drop j=[]:=jT (by omega);have hm:BW hA t.ns[i].ax 0=m:=by rw[OD,BV];rfl
      have eP:i<(hA.set i m).length:=by simp;omega
      have OE:(hA.set i m)[i]=m:=by simp
      have afE:IntKind.i64.wrap (m+1)=m+1:=wrap_i64 ⟨by omega,by omega⟩;have gu:IntKind.i64.wrap ((i:Int)+1)=((i+1:Nat):Int):=by rw[wrap_i64 ⟨by omega,by omega⟩];omega
      refine bk.mk ⟨b,0,none⟩ i rfl rfl aS ?_;refine aK.mk [.int .i64 m] (Kp eP OE (by simp)) ?_;refine bc.mk _ afE ?_;refine bk.mk ⟨b,0,none⟩ i rfl rfl aS ?_;refine cz.add [] [] _ 3 rfl ?_ rfl ?_;·simp only[vu,cD];show 0+i*1+1<=_;omega
      refine bc.mk _ gu ?_;refine⟨(i+1,hA.set i (m+1)),⟨⟨by omega,by simp[hz],?_,?_,?_⟩,by show _<_;simp only;omega⟩,?_,hS,.cons rfl .nil⟩
      ·intro q;have afF:=iA q;simp only[cS,o8]at afF |-;split
       ·rename_i e;subst e;have:i<hA.length:=by omega
        simp[this];omega
       ·omega
      ·intro q ay;have VF:=kj q (by omega);simp only at ay;simp only[cS,o8]at VF |-;rw[ca (by omega)];exact VF
      ·simp only;rw[BB,k8];simp only[yD,hm]
      ·have e:=OC (hA.set i m) i eP (m+1);simp only[jm];rw[Gv]at e;rw[<-e];simp only[dz,iU];exact .refl
   ·have cm:¬ i<t.n:=by simpa using h
    have dy:t.ns.drop i=[]:=jT (by omega);have ej:yD 0 t.ns (List.replicate t.ns.length 0)=hA:=by rw[BB,dy];rfl
    have rT:t.bF=((t.bF.toNat:Nat):Int):=by omega
    have ek:t.bF.toNat<hA.length:=by omega
    refine bk.mk ⟨b,0,none⟩ t.bF.toNat rfl rT (by omega) ?_;refine aK.mk [.int .i64 hA[t.bF.toNat]] (Kp ek rfl (by simp)) ?_;refine⟨_,_,.sub (fw _) .refl,?_,rfl,rfl⟩;have:depth t=hA[t.bF.toNat]:=by unfold depth;rw[ai,ej];simp[cS,ek]
    rw[this];rfl
def l2(t:bN):Bool:=decide (t.n<=1024)&&(right t&&decide (depth t<=32))
def VG{I:aR}(aN:pe I){t:bN}(av:t.ok I):Spec Tryz.prog 60 [t.val] I [] (λv I' M'=>v=.bool (l2 t)/\I'=I/\M'=[]):=by
 refine b4 [] aU Tryz.func60 rfl rfl rfl ?_;intro B ao;refine b2.mk (λU=>?_) (λU=>?_)
 ·refine a0.mk [] [] _ (.refl _) (w5 aN av) ?_;rintro v I' M' -⟨rfl,rfl,rfl⟩;refine b2.mk (λaa=>?_) (λaa=>?_)
  ·refine a0.mk [] [] _ (.refl _) (afD aN av) ?_;rintro v I' M' -⟨rfl,rfl,rfl⟩;refine⟨_,_,.refl,?_,rfl,rfl⟩;have yE:t.n<=1024:=by simp at U;omega
   simp[l2,yE,aa]
  ·refine⟨_,_,.refl,?_,rfl,rfl⟩;have qN:right t=false:=aa;simp[l2,qN]
 ·refine⟨_,_,.refl,?_,rfl,rfl⟩;have yE:¬ t.n<=1024:=by simp at U;omega
  simp[l2,yE]
end Go.V
