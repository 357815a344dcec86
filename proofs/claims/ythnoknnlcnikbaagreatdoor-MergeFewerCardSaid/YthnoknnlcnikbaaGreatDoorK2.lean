/- Part 2 of what the proofs of this seat share: the executor, data in memory, walks.
-/
import Derived.Test.YthnoknnlcnikbaaGreatDoorK1
import Derived.Lib.UnsafeStr
import Derived.Test.YthnoknnlcnikbaaGreatDoorProg
import Derived.KernelRfl
set_option linter.all false
set_option maxRecDepth 100000
namespace Go.V
open Go
def bM:=@List.getD_eq_getElem?_getD
def bE:=@List.length_map
def bJ:=@List.getElem_mem
def cm:=@List.length_append
def dt:=@List.getElem?_eq_getElem
def eC:=@List.mem_singleton
def dD:=@List.append_nil
def iD:=@List.eq_nil_of_length_eq_zero
def dp:=@Nat.zero_add
def fC:=@List.nil_sublist
def fR:=@List.length_take
def im:=@List.mem_append_left
def mT:=@List.sublist_append_right
def hX:=@List.nil_append
def jf:=@List.flatMap_cons
def mr:=@List.drop_eq_nil_of_le
def qu:=@List.getElem?_append_left
def gP:=@Nat.mul_one
def hH:=@List.map_nil
def kq:=@Bool.or_eq_true
def qv:=@List.getElem?_eq_none
def sE:=@decide_eq_false_iff_not
def rv:=@List.mem_of_getElem?
def sF:=@List.mem_append_right
def tw:=@List.getElem_cons_zero
def ry:=@List.take_succ_cons
def oH:=@List.ext_getElem
def n4:=@List.mem_filter
def qw:=@List.length_drop
def rz:=@List.map_toArray
def BG:=@List.take_append_of_le_length
def lT:=@Nat.add_mul
def tx:=@Bool.not_eq_true'
def tz:=@List.size_toArray
def qx:=@List.take_zero
def GQ:=@List.set_eq_take_append_cons_drop
def x4:=@Array.length_toList
def oI:=@Nat.one_mul
def qy:=@List.map_set
def tA:=@List.drop_zero
def BH:=@List.getElem?_toArray
def x5:=@List.filter_cons
def DQ:=@World.putObj_heap_same
def uT:=@Bool.false_or
def GR:=@Classical.byContradiction
def wv:=@List.take_left
def DR:=@List.length_filter_le
def BI:=@List.map_replicate
def wx:=@Bool.not_true
def GS:=@List.getElem_cons_succ
def BJ:=@List.nodup_range
def zA:=@List.take_take
def O0:=@Array.eq_empty_of_size_eq_zero
def KO:=@Option.bind_eq_some_iff
def DS:=@List.take_length
def zB:=@Nat.zero_mul
def GU:=@List.filter_congr
def Wb:=@Std.Legacy.Range.forIn_eq_forIn_range'
def DT:=@List.drop_take
def DU:=@List.drop_drop
def GV:=@beq_self_eq_true
def KP:=@Nat.testBit_two_pow
def Wc:=@List.drop_length_add_append
def KQ:=@Nat.testBit_or
def Wd:=@Lib.run_firstCells_string
def O1:=@List.getElem_cons
def KR:=@List.map_drop
def KS:=@List.map_take
variable{soft hI:Bool}{P:Program}{f x y p s:Operand}{M M' M1 Mr:List aF}{K:List aF->Prop}{I' I1:aJ}{op:Op}{ρ:Operand->dH}{C:dO}{other:Prop}{ops:List Oper}{c6 lU aG:dR}{β:Nat->Nat}{a:Option Addr}{w w':World}{Q:Exit->Act->World->Prop}{dst:Option Nat}{v:Value}{lV:Fr}{dE:Array Bool}{A:Array Oper}{ι α:Type}{c g m u e c' uU it size:Nat}{vs xs b3:List Value}{ps:Array Nat}{fj body:Code}{cap cs:Array Value}{aP:Addr}
def DV:Op->Bool
 | .move _ | .assign _ | .pick .. | .unOp .. | .binOp .. | .load .. | .nilCheck _ | .fieldAddr .. | .field .. | .indexAddr .. | .index .. | .build .. | .makeFunc .. | .slice .. | .extract .. | .convert ..=>true| .call { callee:=.builtin .len,.. }=>true| .call { callee:=.builtin .cap,.. }=>true| .call { callee:=.builtin .max,.. }=>true| .call { callee:=.builtin .min,.. }=>true| .call { callee:=.builtin .unsafeSliceData,.. }=>true| _=>false
def qz:Op->Bool
 | .load ..=>true| _=>false
def GW(o:Oper)(p:Nat):Bool:=o.after.toList.all λe=>!Region.binds .any e||p.testBit e.on
def qA(ops:List Oper)(p:Nat)(k:Bool):List Nat:=(List.range ops.length).filter λi=>match ops[i]? with
 |some o=>!p.testBit i&&((DV o.op == k)&&GW o p)| none=>false
def GX(aZ:List Nat)(o:Oper):Nat:=o.after.toList.foldl (λs e=>bif Region.binds .any e then s ||| 2^e.on ||| aZ.getD e.on 0 else s) 0
def ll(ops:List Oper):List Nat:=ops.foldl (λaZ o=>aZ++[GX aZ o]) []
def O2(P:Nat->Prop):List Nat->Prop
 |[]=>True| [i]=>P i| i::l=>P i/\O2 P l
inductive eH(soft:Bool)(foot:List Nat)(P:Program)(f:Nat)(args:List Value)(I:aJ)(M:List aF)(K:Value->aJ->List aF->Prop):Prop
 |mk(post:Value->aJ->List aF->Prop)(av:Spec P f args I [] post)(k:∀ v I' M',(∀ b o,I b=some o->I' b=some o)->post v I' M'->K v I' (M'++M))| oJ (dW Mr:List aF) (post:Value->aJ->List aF->Prop) (bb:M.Perm (dW++Mr)) (av:Spec P f args I dW post) (nB:∀ v I' M',post v I' M'->∀ x∈dW,x∈M') (k:∀ v I' M',(∀ b o,I b=some o->I' b=some o)->post v I' M'->K v I' (M'++Mr))| DG (post:Value->aJ->List aF->Prop) (av:Spec P f args I [] post) (k:∀ v I' M',(∀ b o,I b=some o->I' b=some o)->(∀ x∈M'++M,I' x.num=none)->post v I' M'->K v I' (M'++M))| ahX (dW Mr:List aF) (post:Value->aJ->List aF->Prop) (bb:M.Perm (dW++Mr)) (av:Spec P f args I dW post) (nB:∀ v I' M',post v I' M'->∀ x∈dW,x∈M') (k:∀ v I' M',(∀ b o,I b=some o->I' b=some o)->(∀ x∈M'++Mr,I' x.num=none)->post v I' M'->K v I' (M'++Mr))| O3 (b:Nat) (o:Obj) (dW Mr:List aF) (post:Value->aJ->List aF->Prop) (bb:M.Perm (⟨b,o⟩::(dW++Mr))) (aB:b ∉ foot) (av:Spec P f args (ins I b o) dW post) (nB:∀ v I' M',post v I' M'->∀ x∈dW,x∈M') (k:∀ v I' M',(∀ c p,ins I b o c=some p->I' c=some p)->(∀ x∈M'++Mr,I' x.num=none)->post v I' M'->K v I' (M'++Mr))| wi (h:mj I M->eH soft foot P f args I M K)| uV (GY:soft=true) (dW Mr:List aF) (post:Value->aJ->List aF->Prop) (bb:M.Perm (dW++Mr)) (av:Spec P f args I dW post) (k:∀ v I' M',(∀ b o,I b=some o->I' b=some o)->post v I' M'->K v I' (M'++Mr))
def eH.elim{foot:List Nat}{f:Nat}{args:List Value}{I:aJ}{K:Value->aJ->List aF->Prop}(eS:mj I M)(h:eH soft foot P f args I M K) :
  ∃ (I1:aJ) (dW Mr:List aF) (post:Value->aJ->List aF->Prop),h6 foot I M I1 (dW++Mr)/\(∀ b o,I b=some o->I1 b=some o)/\Spec P f args I1 dW post /\
   ∀ v I' M',(∀ b o,I1 b=some o->I' b=some o)->(∀ x∈M'++Mr,I' x.num=none)->post v I' M'->(soft=true\/∀ x∈M,I' x.num=some x.obj\/x∈M'++Mr)/\K v I' (M'++Mr):=by
 have We:∀ {dW Mr:List aF} {post:Value->aJ->List aF->Prop} {I':aJ},M.Perm (dW++Mr)->(∀ v I' M',post v I' M'->∀ x∈dW,x∈M')->∀ v M',post v I' M'->∀ x∈M,I' x.num=some x.obj\/x∈M'++Mr:=λbb nB v M' ab x ad=>by
  right
  rcases cC.1 (bb.mem_iff.1 ad)with ad | ad;·exact cC.2 (.inl (nB v _ M' ab x ad))
  ·exact cC.2 (.inr ad)
 induction h with
 |mk post av k=>exact⟨I,[],M,post,.refl,λ_ _ h=>h,av,λv I' M' aa _ ab=>⟨.inr λx ad=>.inr (by simp[ad]),k v I' M' aa ab⟩⟩| oJ dW Mr post bb av nB k=>exact⟨I,dW,Mr,post,.perm bb .refl,λ_ _ h=>h,av,λv I' M' aa _ ab=>⟨.inr (We bb nB v M' ab),k v I' M' aa ab⟩⟩| DG post av k=>exact⟨I,[],M,post,.refl,λ_ _ h=>h,av,λv I' M' aa ai ab=>⟨.inr λx ad=>.inr (by simp[ad]),k v I' M' aa ai ab⟩⟩| ahX dW Mr post bb av nB k=>exact⟨I,dW,Mr,post,.perm bb .refl,λ_ _ h=>h,av,λv I' M' aa ai ab=>⟨.inr (We bb nB v M' ab),k v I' M' aa ai ab⟩⟩
 |O3 b o dW Mr post bb aB av nB k=>
  have ag:I b=none:=eS.d ⟨b,o⟩ (bb.mem_iff.2 (.head _));have ahY:ins I b o b=some o:=by unfold ins;rw[rj];rfl
  refine⟨ins I b o,dW,Mr,post,.perm bb (.n1 rfl aB .refl),λc p ao=>?_,av,λv I' M' aa ai ab=>⟨.inr λx ad=>?_,k v I' M' aa ai ab⟩⟩
  ·unfold ins;by_cases e:c=b
   ·subst e;rw[ag]at ao;cases ao
   ·rw[hF e];exact ao
  ·rcases eA.1 (bb.mem_iff.1 ad)with rfl | ad
   ·exact .inl (aa _ _ ahY)
   ·right
    rcases cC.1 ad with ad | ad;·exact cC.2 (.inl (nB v I' M' ab x ad))
    ·exact cC.2 (.inr ad)
 |wi h aN=>exact aN eS| uV GY dW Mr post bb av k=>exact⟨I,dW,Mr,post,.perm bb .refl,λ_ _ h=>h,av,λv I' M' aa _ ab=>⟨.inl GY,k v I' M' aa ab⟩⟩
def KT(ops:List Oper)(o:Oper)(F:Fr)(run skip:Fr->Prop):Prop:=
 match o.guard with
 |none=>run F
 |some (j,b)=>
  match(ops[j]?).bind (·.dst)with
  |none=>False
  |some d=>
   match F d with
   | .lit c=>bif c == b then run F else skip F| .val (.bool c)=>cT c b (run (gY F d (.lit b))) (skip (gY F d (.lit !b)))| .val (.tuple _)=>skip F| _=>False
def Wf(g0 p:Nat):Bool:=Nat.beq (p &&& g0) p
def ahZ(ops:List Oper)(g0 p:Nat):Bool:=(List.range ops.length).all λq=>!p.testBit q||(g0.testBit q||match ops[q]? with
 |some o=>!qz o.op| none=>true)
inductive kM(X:c1)(o:Oper)(F:Fr)(C:dO)(I:aJ)(M:List aF)(K:dH->aJ->List aF->Prop):Prop
 |mk (h:∀ β a w Q,cL X β a w F C I M->o.wpIn (g8 X) 0 X.P a w (λbN w'=>∃ v x I' M',bN=a.put o.dst v/\e5 β x v/\cL X β a w' F C I' M'/\K x I' M'/\I'=I) Q)
def wy(X:c1)(ah0 soft:Bool)(o:Oper)(F:Fr)(C:dO)(I:aJ)(M:List aF)(K:gr):Prop:=
 bif ah0 then gZ X o F C I M K else
 match o.op with
 | .call { callee:=.value f,args,.. }=>
  match bH F f,mO F args.toList with
  | .val (.func (.func g) first cap),some vs=>eH soft X.foot X.P g (first.toList++vs++cap.toList) I M λv I' M'=>K (put o.dst (.val v) F) C I' M'
  |_,_=>False
 | .alloc t=>
  match o.dst,X.E t with
  |some d,some i=>bZ I M λb=>K (gY F d (.val (.pointer (some ⟨b,0,none⟩)))) C I (⟨b,.cells i.zero.toArray t (0,0)⟩::M)
  |_,_=>False
 | .buildSlice _ _ _=>gZ X o F C I M K| .makeSlice _ _ _=>gZ X o F C I M K| .store _ _ _=>bif soft then gZ X o F C I M K else False| .call { callee:=.builtin .append,.. }=>bif soft then ∀ G:Fr,(∀ y∈o.op.operands,dn G y=dn F y)->kM X o G C I M λx I' M'=>K (put o.dst x F) C I' M' else False
 | .call { callee:=.builtin .copy,.. }=>bif soft then ∀ G:Fr,(∀ y∈o.op.operands,dn G y=dn F y)->kM X o G C I M λx I' M'=>K (put o.dst x F) C I' M' else False
 |_=>False
def KU:dH->Nat
 | .ref s _=>s+1| _=>0
def GZ(i:Nat)(op:Op)(ρ:Operand->dH)(cr:List (Nat×Nat)):List (Nat×Nat):=match op with
 | .load _ x=>(i,KU (ρ x))::cr| _=>cr
def BK(g0 s:Nat):List (Nat×Nat)->Bool
 |[]=>true|(i,t)::cr=>(g0.testBit i || !Nat.beq s t)&&BK g0 s cr
def Wg{g0 s i t:Nat}:∀ {cr:List (Nat×Nat)},BK g0 s cr=true->(i,t)∈cr->g0.testBit i=true\/t≠s
 |(j,u)::cr,h,hm=>by
  unfold BK at h;rw[cw,kq]at h;rcases eA.1 hm with e | hm
  ·cases e;rcases h.1 with aa | aa
   ·exact .inl aa
   ·right
    rintro rfl;simp at aa
  ·exact Wg h.2 hm
def Wh(g0:Nat)(op:Op)(ρ:Operand->dH)(cr:List (Nat×Nat)):Bool:=match op with
 | .store _ x _=>(match ρ x with
  | .val (.pointer (some _))=>BK g0 0 cr| _=>false)
 | .call { callee:=.value _,.. }=>BK g0 0 cr| _=>false
def Wi(g0:Nat)(op:Op)(ρ:Operand->dH)(cr:List (Nat×Nat)):Bool:=match op with
 | .store _ x _=>(match ρ x with
  | .ref s _=>BK g0 (s+1) cr| _=>false)
 |_=>false
def wz(hI:Bool)(M:List aF):List aF:=bif hI then []else M
def ah1{I:aJ}{b:Nat}{o:Obj}(h:ih I (wz hI M) b o):ih I M b o:=by
 cases hI with
 |false=>exact h
 |true=>
  rcases h with h | ⟨x,ad,_⟩;·exact .inl h
  ·cases ad
def Wj{I:aJ}(h:∀ b o,ih I M b o->ih I' M' b o)(bj:∀ b o,I b=some o->I' b=some o):∀ b o,ih I (wz hI M) b o->ih I' (wz hI M') b o:=λb o ag=>by
 cases hI with
 |false=>exact h b o ag
 |true=>
  rcases ag with ag | ⟨x,ad,_⟩;·exact .inl (bj _ _ ag)
  ·cases ad
def ah2{I:aJ}(bj:∀ b o,I b=some o->I' b=some o):∀ b o,ih I (wz true M) b o->ih I' (wz true M') b o:=λb o ag=>by
 rcases ag with ag | ⟨x,ad,_⟩
 ·exact .inl (bj _ _ ag)
 ·cases ad
def Wk(X:c1)(hI:Bool)(op:Op)(ρ:Operand->dH)(C:dO)(I:aJ)(M:List aF)(V:dH->Prop)(other:Prop):Prop:=match hI with
 |false=>cK X op ρ C I M V other| true=>cK X op ρ C I [] V other
def ah3{X:c1}{I:aJ}{V:dH->Prop}(h:Wk X hI op ρ C I M V other):cK X op ρ C I (wz hI M) V other:=by
 cases hI with
 |false=>exact h| true=>exact h
def ah4(ops:List Oper)(hI:Nat->Bool)(g0 p:Nat):Bool:=(List.range ops.length).all λq=>!p.testBit q||(g0.testBit q||(hI q||match ops[q]? with
 |some o=>!qz o.op| none=>true))
def Wl(op:Op)(ρ:Operand->dH):Bool:=match op with
 | .store _ x _=>(match ρ x with
  | .val (.pointer (some _))=>true| _=>false)
 | .call { callee:=.builtin .append,.. }=>true| .call { callee:=.builtin .copy,.. }=>true| _=>false
def Wm(ops:List Oper)(hI:Nat->Bool)(g0 p:Nat)(op:Op)(ρ:Operand->dH):Bool:=ah4 ops hI g0 p&&Wl op ρ
def pH(X:c1)(ops:List Oper)(hI:Nat->Bool):Nat->Nat->List (Nat×Nat)->Fr->dO->aJ->List aF->gr->Prop
 |0,_,_,_,_,_,_,_=>False
 |n+1,p,cr,F,C,I,M,K=>
  match qA ops p true with
  |i::_=>
   (match ops[i]? with
   |some o=>KT ops o F (λF=>Wk X (hI i) o.op (dn F) C I M (λx=>pH X ops hI n (p ||| 2^i) (GZ i o.op (dn F) cr) (put o.dst x F) C I M K) False) (λF=>pH X ops hI n (p ||| 2^i) cr (put o.dst (.val undef) F) C I M K)| none=>False)
  |[]=>
   match qA ops p false with
   |[]=>K F C I M
   |i0::fG=>O2 (λi=>match ops[i]? with
     |some o=>KT ops o F (λF=>wy X (Wf ((ll ops).getD i 0) p) (ahZ ops ((ll ops).getD i 0) p||(Wi ((ll ops).getD i 0) o.op (dn F) cr||(Wh ((ll ops).getD i 0) o.op (dn F) cr||Wm ops hI ((ll ops).getD i 0) p o.op (dn F)))) o F C I M λF C I M=>pH X ops hI n (p ||| 2^i) cr F C I M K) (λF=>pH X ops hI n (p ||| 2^i) cr (put o.dst (.val undef) F) C I M K)| none=>False) (i0::fG)
def looks(ops:List Oper)(o:Oper):List Nat:=o.looksAt ops.toArray
def BL(ops:List Oper):Bool:=
 let b:=ll ops
 (List.range ops.length).all λj=>match ops[j]? with
  |none=>true
  |some mU=>
   (mU.after.toList.all λe=>!Region.binds .any e||Nat.blt e.on j) &&
   ((match mU.dst with
    |some d=>!(looks ops mU).contains d| none=>true) &&
   ((List.range ops.length).all (λi=>Nat.beq i j||match ops[i]? with
    |none=>true
    |some gK=>match gK.dst with
     |none=>true| some d=>!(mU.dst == some d)&&(!(looks ops mU).contains d||((b.getD j 0).testBit i||(b.getD i 0).testBit j)))))
def mV(ops:List Oper)(j e:Nat):Prop:=∃ o kN,ops[j]?=some o/\kN∈o.after/\Region.binds .any kN=true/\kN.on=e
inductive pI(ops:List Oper):Nat->Nat->Prop
 |one{i j}(h:mV ops j i):pI ops i j| trans {i j k} (h:mV ops j k) (bj:pI ops i k):pI ops i j
def BM(ops:List Oper)(S:Nat->Prop):Prop:=∀ j e,S j->mV ops j e->S e
def pI.mem{S:Nat->Prop}(cv:BM ops S){i j:Nat}(h:pI ops i j)(ak:∀ e,mV ops j e->S e):S i:=by
 induction h with
 |one h=>exact ak _ h| trans h _ aN=>exact aN λe he=>cv _ e (ak _ h) he
def ah5{aZ:List Nat}{o:Oper}{i:Nat}(h:(GX aZ o).testBit i=true):∃ e∈o.after,Region.binds .any e=true/\(e.on=i\/(aZ.getD e.on 0).testBit i=true):=by
 have key:∀ (l:List Edge) (s:Nat),(l.foldl (λs e=>bif Region.binds .any e then s ||| 2^e.on ||| aZ.getD e.on 0 else s) s).testBit i=true->s.testBit i=true\/∃ e∈l,Region.binds .any e=true/\(e.on=i\/(aZ.getD e.on 0).testBit i=true):=by
  intro l
  induction l with
  |nil=>intro s h;exact .inl h
  |cons e l aN=>
   intro s h;simp only[kl]at h;rcases aN _ h with aa | ⟨cU,rA,ab⟩
   ·cases ag:Region.binds .any e with
    |false=>rw[ag]at aa;exact .inl aa
    |true=>
     rw[ag]at aa;simp only[cp,KQ,kq,KP,hS]at aa;rcases aa with(aa | aa) | aa;·exact .inl aa
     ·exact .inr ⟨e,by simp,ag,.inl aa⟩
     ·exact .inr ⟨e,by simp,ag,.inr aa⟩
   ·exact .inr ⟨cU,by simp[rA],ab⟩
 rcases key _ 0 h with aa | ⟨e,he,ab⟩
 ·simp at aa
 ·exact⟨e,by simpa using he,ab⟩
def Wn(ops:List Oper):∀ (l:List Oper) (a9:List Oper) (aZ:List Nat),ops=a9++l->aZ.length=a9.length->(∀ j i,(aZ.getD j 0).testBit i=true->pI ops i j) -> ∀ j i,((l.foldl (λaZ o=>aZ++[GX aZ o]) aZ).getD j 0).testBit i=true->pI ops i j
 |[],a9,aZ,_,_,ms=>ms
 |o::l,a9,aZ,wA,cQ,ms=>by
  simp only[kl];refine Wn ops l (a9++[o]) _ (by simp[wA]) (by simp[cQ]) ?_;intro j i h;by_cases ak:j<aZ.length;·exact ms j i (by simpa[bM,qu ak]using h)
  ·by_cases jM:j=aZ.length
   ·subst jM;have bj:(GX aZ o).testBit i=true:=by simpa[bM]using h
    obtain⟨e,he,ag,ab⟩:=ah5 bj;have aC:ops[aZ.length]?=some o:=by rw[wA,cQ];simp
    have zC:mV ops aZ.length e.on:=⟨o,e,aC,he,ag,rfl⟩;rcases ab with rfl | ab;·exact .one zC
    ·exact .trans zC (ms _ _ ab)
   ·have:(aZ++[GX aZ o]).getD j 0=0:=by rw[bM,qv (by simp;omega)];rfl
    rw[this]at h;simp at h
def zD{j i:Nat}(h:((ll ops).getD j 0).testBit i=true):pI ops i j:=
 Wn ops ops [] [] rfl rfl (λj i h=>by simp at h) j i h
section
variable{X:c1}{C C':dO}{I I':aJ}{M M':List aF}
def x6{ρ jP:Operand->dH}:∀ {xs:List Operand},(∀ y∈xs,jP y=ρ y)->j2 jP xs=j2 ρ xs
 |[],_=>rfl| x::xs,h=>by have aa:=h x (by simp);have ab:=x6 (xs:=xs) λy aE=>h y (by simp[aE]);simp only[j2,dB,aa,ab]
def O4{ρ jP:Operand->dH}:∀ {xs:List (Nat×Operand)},(∀ y∈xs.map (·.2),jP y=ρ y)->to jP xs=to ρ xs
 |[],_=>rfl|(i,x)::xs,h=>by have aa:=h x (by simp);have ab:=O4 (xs:=xs) λy aE=>h y (by simp only[ca,eA];exact .inr aE);simp only[to,dB,aa,ab]
def Wo{jP:Operand->dH}{V:dH->Prop}(h:cK X op ρ C I M V False)(jg:∀ y∈op.operands,jP y=ρ y)
  (aA:∀ t x,op=.load t x->(∀ s off,ρ x=.ref s off->C' s=C s)/\((∀ s off,ρ x≠.ref s off)->∀ b o,ih I M b o->ih I' M' b o)):cK X op jP C' I' M' V False:=by
 cases op
 case load t x=>
  obtain⟨ao,ae⟩:=aA t x rfl;have aa:=jg x (by simp[Op.operands]);simp only[cK,aa]at h |-;cases aO:X.E t with
  |none=>rw[aO]at h;exact h.elim
  |some i=>
   rw[aO]at h
   try simp only at h |-
   cases ad:ρ x with
   |ref s off=>
    rw[ad]at h
    try simp only at h |-
    rw[ao s off ad];exact h
   |val v=>
    rw[ad]at h
    try simp only at h |-
    split at h;·rename_i e;cases e
    ·rename_i a e;cases e;obtain⟨vs,⟨ab,cs,T,an,ai,aL⟩,bq⟩:=h;exact⟨vs,⟨ab,cs,T,an,ae (λs off e=>by rw[ad]at e;cases e) _ _ ai,aL⟩,bq⟩
    ·exact h.elim
   |lit b=>rw[ad]at h;exact h.elim| ny=>rw[ad]at h;exact h.elim
 case build t ps=>
  have aa:=O4 (ρ:=ρ) (jP:=jP) (xs:=ps.toList) λy aE=>jg y (by simpa[Op.operands]using aE);simp only[cK,aa]at h |-;exact h
 case makeFunc fn first captured=>
  have aa:=x6 (ρ:=ρ) (jP:=jP) (xs:=first.toList) λy aE=>jg y (by simp only[Op.operands,Array.mem_append];exact .inl (by simpa using aE));have ab:=x6 (ρ:=ρ) (jP:=jP) (xs:=captured.toList) λy aE=>jg y (by simp only[Op.operands,Array.mem_append];exact .inr (by simpa using aE));simp only[cK,aa,ab]at h |-;exact h
 case slice t x lo hi mx=>
  have aa:=jg x (by simp[Op.operands]);have ab:lo.map (dB jP)=lo.map (dB ρ):=by
   cases lo with
   |none=>rfl| some y=>have:=jg y (by simp[Op.operands]);simp[dB,this]
  have ai:hi.map (dB jP)=hi.map (dB ρ):=by
   cases hi with
   |none=>rfl| some y=>have:=jg y (by simp[Op.operands]);simp[dB,this]
  have aL:mx.map (dB jP)=mx.map (dB ρ):=by
   cases mx with
   |none=>rfl| some y=>have:=jg y (by simp[Op.operands]);simp[dB,this]
  simp only[cK,ab,ai,aL,dB,aa]at h |-;exact h
 case call c=>
  obtain⟨callee,args,argTypes⟩:=c;cases callee with
  |value f=>exact h| invoke r m=>exact h
  |builtin b=>
   cases b
   case len=>
    have aa:=x6 (ρ:=ρ) (jP:=jP) (xs:=args.toList) λy aE=>jg y (by simp[Op.operands,Call.operands];simpa using aE);simp only[cK,aa]at h |-;exact h
   case cap=>
    have aa:=x6 (ρ:=ρ) (jP:=jP) (xs:=args.toList) λy aE=>jg y (by simp[Op.operands,Call.operands];simpa using aE);simp only[cK,aa]at h |-;exact h
   case max=>
    have aa:=x6 (ρ:=ρ) (jP:=jP) (xs:=args.toList) λy aE=>jg y (by simp[Op.operands,Call.operands];simpa using aE);simp only[cK,aa]at h |-;exact h
   case min=>
    have aa:=x6 (ρ:=ρ) (jP:=jP) (xs:=args.toList) λy aE=>jg y (by simp[Op.operands,Call.operands];simpa using aE);simp only[cK,aa]at h |-;exact h
   case unsafeSliceData=>
    have aa:=x6 (ρ:=ρ) (jP:=jP) (xs:=args.toList) λy aE=>jg y (by simp[Op.operands,Call.operands];simpa using aE);simp only[cK,aa]at h |-;exact h
   all_goals exact h
 all_goals first
  |exact h|(rename_i x;have aa:=jg x (by simp[Op.operands]);simp only[cK,dB,aa]at h |-;exact h)|(rename_i x y;have aa:=jg x (by simp[Op.operands]);have ab:=jg y (by simp[Op.operands]);simp only[cK,dB,aa,ab]at h |-;exact h)|(rename_i x y z;have aa:=jg x (by simp[Op.operands]);have ab:=jg y (by simp[Op.operands]);have ai:=jg z (by simp[Op.operands]);simp only[cK,dB,aa,ab,ai]at h |-;exact h)|(rename_i x y;have aa:=jg x (by simp[Op.operands]);simp only[cK,dB,aa]at h |-;exact h)|(rename_i x y;have aa:=jg y (by simp[Op.operands]);simp only[cK,dB,aa]at h |-;exact h)|(rename_i x y z;have aa:=jg x (by simp[Op.operands]);have ab:=jg y (by simp[Op.operands]);simp only[cK,dB,aa,ab]at h |-;exact h)|(rename_i x y z;have aa:=jg y (by simp[Op.operands]);have ab:=jg z (by simp[Op.operands]);simp only[cK,dB,aa,ab]at h |-;exact h)|(rename_i o x y z u;have aa:=jg y (by simp[Op.operands]);have ab:=jg z (by simp[Op.operands]);simp only[cK,dB,aa,ab]at h |-;exact h)|(rename_i x y z u;have aa:=jg z (by simp[Op.operands]);have ab:=jg y (by simp[Op.operands]);simp only[cK,dB,aa,ab]at h |-;exact h)
end
section
variable{X:c1}{C:dO}{I:aJ}{M:List aF}
def ah6{op:BinOp}{c6:Option dR}{x y:dH}{V:Value->Prop}{O:Prop}(h:lQ op c6 x y V O) :
  (∃ r,V r/\∀ rB,lQ op c6 x y (λz=>z=r) rB)\/(O/\∀ (O5:Value->Prop) (rB:Prop),rB->lQ op c6 x y O5 rB):=by
 unfold lQ at h;split at h
 ·left
  split at h;·obtain⟨j,ak,⟨r,af,ae⟩⟩:=h;exact⟨_,ae,λrB=>by unfold lQ;exact⟨j,ak,⟨r,af,rfl⟩⟩⟩
  ·obtain⟨j,ak,ae⟩:=h;exact⟨_,ae,λrB=>by unfold lQ;exact⟨j,ak,rfl⟩⟩
  ·rename_i _ _ k a fu b _ gj oG;cases e0:IntKind.lP k fu with
   |false=>rw[e0]at h;exact h.elim
   |true=>
    rw[e0]at h;simp only[cp]at h;cases op<;>simp only at h
    case add=>obtain⟨r,af,ae⟩:=h;exact⟨_,ae,λrB=>by simp only[lQ,e0,cp];exact⟨r,af,rfl⟩⟩
    case sub=>obtain⟨r,af,ae⟩:=h;exact⟨_,ae,λrB=>by simp only[lQ,e0,cp];exact⟨r,af,rfl⟩⟩
    case mul=>obtain⟨r,af,ae⟩:=h;exact⟨_,ae,λrB=>by simp only[lQ,e0,cp];exact⟨r,af,rfl⟩⟩
    case quo=>obtain⟨aw,⟨r,af,ae⟩⟩:=h;exact⟨_,ae,λrB=>by simp only[lQ,e0,cp];exact⟨aw,⟨r,af,rfl⟩⟩⟩
    case rem=>obtain⟨aw,ae⟩:=h;exact⟨_,ae,λrB=>by simp only[lQ,e0,cp];first | exact⟨aw,rfl⟩ | exact⟨aw,trivial⟩⟩
    case shl=>exact(gj rfl).elim
    case shr=>exact(oG rfl).elim
    all_goals exact⟨_,h,λrB=>by simp only[lQ,e0,cp];rfl⟩
 ·cases op<;>first
  |exact .inl ⟨_,h,λ_=>rfl⟩| exact .inr ⟨h,λ_ _ aC=>aC⟩
 ·split at h
  ·cases op<;>first
   |exact .inl ⟨_,h,λ_=>rfl⟩| exact .inr ⟨h,λ_ _ aC=>aC⟩
  ·rename_i aD;refine .inr ⟨h,λO5 rB aC=>?_⟩;cases c6 with
   |none=>exact aC
   |some i=>
    obtain⟨s,b,z,bQ⟩:=i;cases bQ<;>first
     |exact aC| exact(aD _ _ _ rfl).elim
 ·rename_i aa ab ai;refine .inr ⟨h,λO5 rB aC=>?_⟩;unfold lQ;split<;>first
   |exact aC| exact(aa _ _ _ _ rfl rfl).elim| exact(ab _ _ rfl rfl).elim| exact(ai _ _ rfl rfl).elim
def ah7{V:dH->Prop}(h:cK X op ρ C I M V False):∃ x,V x/\cK X op ρ C I M (λy=>y=x) False:=by
 cases op
 case move x=>exact⟨_,h,rfl⟩
 case assign x=>exact⟨_,h,rfl⟩
 case pick c p q=>
  simp only[cK]at h |-;split at h;·exact⟨_,h,rfl⟩
  ·exact⟨_,h,rfl⟩
  ·exact h.elim
 case unOp op t x=>
  simp only[cK]at h |-;split at h;·exact⟨_,h,rfl⟩
  ·exact⟨_,h,rfl⟩
  ·obtain⟨r,af,ae⟩:=h;exact⟨_,ae,⟨r,af,rfl⟩⟩
  ·exact h.elim
 case binOp op t x y ty=>
  simp only[cK]at h |-;rcases ah6 h with⟨r,aa,ab⟩ | ⟨⟨lg,fP,r,aH,aM,af,ae⟩ | aa,ab⟩
  ·refine⟨_,aa,?_⟩;have:(λv=>dH.val v=dH.val r)=(λz=>z=r):=by funext v;simp
   rw[this];exact ab _
  ·exact⟨_,ae,ab _ _ (.mk lg fP r aH aM af rfl)⟩
  ·exact aa.elim
 case load t x=>
  simp only[cK]at h |-;split at h
  ·split at h
   ·split at h
    ·rename_i i hi _ s off av _ cs ao;cases bk:Nat.ble (off+i.size) cs.length with
     |false=>rw[bk]at h;exact h.elim| true=>rw[bk]at h;exact⟨_,h,rfl⟩
    ·exact h.elim
   ·obtain⟨vs,af,ae⟩:=h;exact⟨_,ae,⟨vs,af,rfl⟩⟩
   ·exact h.elim
  ·exact h.elim
 case nilCheck x=>
  simp only[cK]at h |-;split at h;·exact⟨_,h,rfl⟩
  ·exact⟨_,h,rfl⟩
  ·exact h.elim
 case fieldAddr t x i=>
  simp only[cK]at h |-;split at h
  ·split at h
   ·split at h
    ·rename_i hv s o' pF ad;cases bd:Nat.beq hv.size 0 with
     |true=>rw[bd]at h;exact h.elim| false=>rw[bd]at h;exact⟨_,h,rfl⟩
    ·rename_i hv s pF ad;cases bd:Nat.beq hv.size 0 with
     |true=>rw[bd]at h;exact h.elim| false=>rw[bd]at h;exact⟨_,h,rfl⟩
    ·exact h.elim
   ·exact h.elim
  ·exact h.elim
 case field t x i=>
  simp only[cK]at h |-;split at h
  ·split at h
   ·split at h
    ·rename_i sz hT z cO cs au ad _ fy off rm _ hv pF;cases bk:Nat.ble (off+hv.size) cs.size with
     |false=>rw[bk]at h;exact h.elim| true=>rw[bk]at h;exact⟨_,h,rfl⟩
    ·exact h.elim
   ·exact h.elim
  ·exact h.elim
 case indexAddr t x i=>
  simp only[cK]at h |-;split at h
  ·split at h
   ·obtain⟨aP,j,aa,ab,ai,ae⟩:=h;exact⟨_,ae,⟨aP,j,aa,ab,ai,rfl⟩⟩
   ·exact h.elim
  ·split at h
   ·obtain⟨j,ab,ai,ae⟩:=h;exact⟨_,ae,⟨j,ab,ai,rfl⟩⟩
   ·obtain⟨j,ab,ai,ae⟩:=h;exact⟨_,ae,⟨j,ab,ai,rfl⟩⟩
   ·exact h.elim
  ·exact h.elim
 case index t x i=>
  simp only[cK]at h |-;split at h;·obtain⟨j,ab,ai,ae⟩:=h;exact⟨_,ae,⟨j,ab,ai,rfl⟩⟩
  ·split at h
   ·rename_i n e cs gq k au ad hi _ aG hG;cases bd:Nat.beq (n*aG.size) cs.size with
    |false=>rw[bd]at h;exact h.elim| true=>rw[bd]at h;obtain⟨j,ab,ai,ae⟩:=h;exact⟨_,ae,⟨j,ab,ai,rfl⟩⟩
   ·exact h.elim
  ·exact h.elim
 case build t ps=>
  simp only[cK]at h |-;split at h
  ·split at h
   ·rename_i i vs au iK _ cO n3;cases aH:DH X.E cO with
    |false=>rw[aH]at h;exact h.elim
    |true=>
     rw[aH]at h;simp only[cp]at h |-;split at h;·exact⟨_,h,rfl⟩
     ·exact h.elim
   ·split at h
    ·split at h
     ·exact⟨_,h,rfl⟩
     ·exact h.elim
    ·exact h.elim
   ·exact h.elim
  ·exact h.elim
 case makeFunc fn first captured=>
  simp only[cK]at h |-;split at h;·exact⟨_,h,rfl⟩
  ·exact h.elim
 case slice t x lo hi mx=>
  simp only[cK]at h |-;split at h
  ·split at h
   ·exact⟨_,h,rfl⟩
   ·obtain⟨l,m,aa,ab,ai,aL,ae⟩:=h;exact⟨_,ae,⟨l,m,aa,ab,ai,aL,rfl⟩⟩
   ·obtain⟨l,m,aa,ab,ai,aL,ae⟩:=h;exact⟨_,ae,⟨l,m,aa,ab,ai,aL,rfl⟩⟩
   ·obtain⟨l,m,aa,ab,ai,aL,ae⟩:=h;exact⟨_,ae,⟨l,m,aa,ab,ai,aL,rfl⟩⟩
   ·exact h.elim
  ·split at h
   ·exact⟨_,h,rfl⟩
   ·obtain⟨l,m,aa,ab,ai,aL,ae⟩:=h;exact⟨_,ae,⟨l,m,aa,ab,ai,aL,rfl⟩⟩
   ·obtain⟨l,m,aa,ab,ai,aL,ae⟩:=h;exact⟨_,ae,⟨l,m,aa,ab,ai,aL,rfl⟩⟩
   ·obtain⟨l,m,aa,ab,ai,aL,ae⟩:=h;exact⟨_,ae,⟨l,m,aa,ab,ai,aL,rfl⟩⟩
   ·exact h.elim
  ·split at h
   ·obtain⟨l,m,aa,ab,ai,aL,ae⟩:=h;exact⟨_,ae,⟨l,m,aa,ab,ai,aL,rfl⟩⟩
   ·exact h.elim
  ·exact h.elim
 case extract x i=>
  simp only[cK]at h |-;split at h
  ·split at h
   ·exact⟨_,h,rfl⟩
   ·exact h.elim
  ·exact h.elim
 case convert s d x=>
  simp only[cK]at h |-;split at h;·obtain⟨r,af,ae⟩:=h;exact⟨_,ae,⟨r,af,rfl⟩⟩
  ·exact h.elim
 case call c=>
  obtain⟨callee,args,argTypes⟩:=c;cases callee with
  |value f=>exact h.elim| invoke r m=>exact h.elim
  |builtin b=>
   cases b
   case len=>
    simp only[cK]at h |-;split at h
    ·split at h
     ·exact⟨_,h,rfl⟩
     ·exact⟨_,h,rfl⟩
     ·exact⟨_,h,rfl⟩
     ·exact h.elim
    ·exact h.elim
   case cap=>
    simp only[cK]at h |-;split at h
    ·split at h
     ·exact⟨_,h,rfl⟩
     ·exact h.elim
    ·exact h.elim
   case max=>
    simp only[cK]at h |-;split at h;·exact⟨_,h,rfl⟩
    ·exact h.elim
   case min=>
    simp only[cK]at h |-;split at h;·exact⟨_,h,rfl⟩
    ·exact h.elim
   case unsafeSliceData=>
    simp only[cK]at h |-;split at h;·exact⟨_,h,rfl⟩
    ·obtain⟨aa,ab⟩:=h;exact⟨_,ab,⟨aa,rfl⟩⟩
    ·exact h.elim
   all_goals exact h.elim
 all_goals exact h.elim
end
def ih.mono{I:aJ}{b:Nat}{o:Obj}(h:ih I M b o)(bB:∀ b o,I b=some o->I' b=some o)(bb:∀ x∈M,x∈M'):ih I' M' b o:=by
 rcases h with h | ⟨x,ad,aa,ab⟩
 ·exact .inl (bB _ _ h)
 ·exact .inr ⟨x,bb x ad,aa,ab⟩
def ih.move{I:aJ}{b:Nat}{o:Obj}(h:ih I M b o)(bB:∀ b o,I b=some o->I' b=some o)(bb:∀ x∈M,I' x.num=some x.obj\/x∈M'):ih I' M' b o:=by
 rcases h with h | ⟨x,ad,rfl,rfl⟩
 ·exact .inl (bB _ _ h)
 ·rcases bb x ad with h | h
  ·exact .inl h
  ·exact .inr ⟨x,h,rfl,rfl⟩
def Wp(F:Fr)(op:Op)(C C':dO)(I I':aJ)(M M':List aF):Prop:=(∀ t x y s off,op=.store t x y->dn F x=.ref s off->((∀ cn,cn≠s->C' cn=C cn)/\∀ b o,I b=some o->I' b=some o)/\∀ b o,ih I M b o->ih I' M' b o)/\(∀ t x y aP,op=.store t x y->dn F x=.val (.pointer (some aP))->C'=C/\∀ b o,I b=some o->I' b=some o)/\((∀ t x y,op≠.store t x y)->C'=C/\∀ b o,I b=some o->I' b=some o)
def ah8(X:c1)(β:Nat->Nat)(G F:Fr)(C:dO)(I:aJ)(M:List aF)(ah9:Bool)(op:Op)(dst:Option Nat)(a:Act)(K:gr)(bN:Act)(w':World):Prop:=
 ∃ v x C' I' M',bN=a.put dst v/\e5 β x v/\cL X β a w' G C' I' M'/\K (put dst x F) C' I' M'/\((ah9=true/\Wp F op C C' I I' M M')\/(C'=C/\(∀ b o,I b=some o->I' b=some o)/\∀ b o,ih I M b o->ih I' M' b o))
def aia{X:c1}{a:Act}{F G:Fr}{I:aJ}{o:Oper}{K:gr}(aO:cX X.P X.E)
  (h:cL X β a w G C I M) (g9:∀ y∈o.op.operands,dn G y=dn F y) (aj:wy X false soft o F C I M K):o.wpIn (g8 X) 0 X.P a w (ah8 X β G F C I M soft o.op o.dst a K) Q:=by
 obtain⟨dst,op,ty,pos,after,guard⟩:=o;have aB:=h.an;have oK:∀ {y:Operand} {v:Value},y∈op.operands->bH F y=.val v->a.eval y=v:=fun {y v} aE he=>dh aB (by simp only[bH,dB,g9 y aE];exact he);cases op
 case alloc t=>
  simp only[wy,cb]at aj;split at aj
  ·rename_i d i hi;obtain⟨z,bd,xX⟩:=(aO _ _ hi).Gz w;have DL:z.cells=i.zero.toArray:=by rw[<-xX]
   obtain⟨aj⟩:=aj;have ae:=aj w.heap.size h.holds.sA h.holds.rk;refine iJ (by simp) (v:=.pointer (some ⟨w.heap.size,0,none⟩)) (w':=w.alloc (.cells i.zero.toArray t (0,0))) ?_ ⟨_,.val _,_,_,_,rfl,rfl,h.n2 _,ae,.inr ⟨rfl,λ_ _ h=>h,λb o ag=>ag.mono (λ_ _ h=>h) (λx ad=>by simp[ad])⟩⟩;simp[execOp,Instr.alloc,newVar,newRow,bd,DL,Bp]
  ·exact aj.elim
 case store t x y=>
  simp only[wy,cb]at aj;cases soft with
  |false=>exact aj.elim
  |true=>
   simp only[cp,gZ]at aj;split at aj
   ·rename_i i v hi aE;have tt:=oK (by simp[Op.operands]) aE;split at aj
    ·rename_i s off ad;have kn:=Bs aB ((g9 x (by simp[Op.operands])).trans ad);split at aj
     ·rename_i cs av;cases bk:(Nat.ble (off+i.size) cs.length&&(Nat.beq v.cells.size i.size&&fJ v.cells.toList))with
      |false=>rw[bk]at aj;exact aj.elim
      |true=>
       rw[bk]at aj;simp only[cw]at bk;obtain⟨bk,dk,qs⟩:=bk;have gl:=bK bk;have BB:=dJ dk;obtain⟨T,bl⟩:=(h.cr s cs av).aY;have:=KD (aO _ _ hi) (a:=⟨β s,off,none⟩) (v:=v) rfl bl BB (by simp;omega) qs;refine DI (by simp) (w':=w.setRow (β s) (cq cs off v.cells.toList).toArray) ?_ ⟨undef,.ny,_,_,_,rfl,trivial,h.VT av (cq cs off v.cells.toList),aj,.inl ⟨rfl,λbf lj G0 cn KA aK a7=>(by
        cases aK;rw[ad]at a7;cases a7;refine⟨⟨λs2 bD=>?_,λ_ _ h=>h⟩,λ_ _ h=>h⟩;unfold jv;rw[hF bD];rfl),λbf lj G0 zE aK a7=>(by
        cases aK;rw[ad]at a7;cases a7),λkO=>absurd rfl (kO _ _ _)⟩⟩
       simp only[execOp,Instr.storeAt,kn,tt,Instr.sureAddr,cu,c7,bY];simp only[OE]at this;rw[this];rfl
     ·exact aj.elim
    ·rename_i aP ad;have kn:=uO aB ((g9 x (by simp[Op.operands])).trans ad);cases dk:Nat.beq v.cells.size i.size with
     |false=>rw[dk]at aj;exact aj.elim| true=>rw[dk]at aj;obtain⟨a9,post,cs,T,bb,de,ag,qs,ae⟩:=aj;have BB:=dJ dk;have ax:w.heap[aP.block]?=some (.cells cs T (0,0)):=h.holds.m ⟨aP.block,.cells cs T (0,0)⟩ (by rw[bb];simp);have:=KD (aO _ _ hi) (v:=v) de ax BB ag qs;refine DI (by simp) (w':=w.setRow aP.block (cq cs.toList aP.off v.cells.toList).toArray) ?_ ⟨undef,.ny,_,_,_,rfl,trivial,h.xU bb,ae,.inl ⟨rfl,λbf lj G0 cn KA aK a7=>(by cases aK;rw[ad]at a7;cases a7),λ_ _ _ _ _ _=>⟨rfl,λ_ _ h=>h⟩,λkO=>absurd rfl (kO _ _ _)⟩⟩;simp only[execOp,Instr.storeAt,kn,tt,Instr.sureAddr,cu,c7,bY];rw[this];rfl
    ·exact aj.elim
   ·exact aj.elim
 case buildSlice t len parts=>
  simp only[wy,cb,gZ]at aj;have aib:Br G parts.toList=Br F parts.toList:=O4 λy aE=>g9 y (by simpa[Op.operands]using aE);rw[<-aib]at aj;split at aj
  ·rename_i sz hT z e vs au iK;have hu:=(aO _ _ au).slice;have aH:=Ky aB iK;have zr:(parts.map λ(i,x)=>(i,a.eval x)).toList=vs:=by simpa using aH
   split at aj
   ·rename_i aG hG;cases bd:(Nat.ble (len*aG.size) 16777216&&Nat.blt 0 (len*aG.size))with
    |false=>
     rw[bd]at aj;simp only[cb]at aj;split at aj
     ·rename_i ahH;obtain⟨aj⟩:=aj;have ae:=aj w.heap.size h.holds.sA h.holds.rk;refine iJ (by simp) (v:=.slice (some ⟨w.heap.size,0,none⟩) 0 0) (w':=w.alloc (.cells #[] e (0,0))) ?_ ⟨_,.val _,_,_,_,rfl,rfl,h.n2 _,ae,.inr ⟨rfl,λ_ _ h=>h,λb o ag=>ag.mono (λ_ _ h=>h) (λx ad=>by simp[ad])⟩⟩;simp only[execOp,Instr.buildSlice,cu,bY,run_underlying hu,(aO _ _ hG).run_sizeOf,zr];have di:∀ f:Nat->Value,Array.map f (Array.range 0)=#[]:=λf=>by apply Array.ext<;>simp
      simp[newRow,Bp,Instr.fill,di]
     ·exact aj.elim
    |true=>
     rw[bd]at aj;simp only[cp]at aj;rw[cw]at bd;have bk:=bK bd.1;have mo:0<len*aG.size:=by simpa using bd.2
     split at aj;·rename_i cells Bv;obtain⟨tu,BC,xX⟩:=(aO _ _ hG).Gz w;obtain⟨aj⟩:=aj;have ae:=aj w.heap.size h.holds.sA h.holds.rk;refine iJ (by simp) (v:=.slice (some ⟨w.heap.size,0,none⟩) len len) (w':=w.alloc (.cells cells.toArray e (0,0))) ?_ ⟨_,.val _,_,_,_,rfl,rfl,h.n2 _,ae,.inr ⟨rfl,λ_ _ h=>h,λb o ag=>ag.mono (λ_ _ h=>h) (λx ad=>by simp[ad])⟩⟩;have wo:=fill_eq _ _ _ _ Bv;simp only[execOp,Instr.buildSlice,cu,bY,run_underlying hu,(aO _ _ hG).run_sizeOf];rw[bP (by omega)];simp only[bP (show ¬ len*aG.size=0 by omega),cu,BC,bY,c7,zr,V1 tu aG.zero xX,wo];simp[newRow,Bp]
     ·exact aj.elim
   ·exact aj.elim
  ·exact aj.elim
 case makeSlice t l c=>
  simp only[wy,cb,gZ]at aj;split at aj
  ·rename_i sz hT z e fz dC cx c' au aA ao;have hu:=(aO _ _ au).slice;have rp:=oK (by simp[Op.operands]) aA;have zF:=oK (by simp[Op.operands]) ao;split at aj
   ·rename_i aG hG;obtain⟨n,m,rfl,rfl,mq,ag,hm,⟨aj⟩⟩:=aj;have ae:=aj w.heap.size h.holds.sA h.holds.rk;obtain⟨inf,tu,fv,hW,ik,j4,BD⟩:=(aO _ _ hG).inf;refine iJ (by simp) (v:=.slice (some ⟨w.heap.size,0,none⟩) n m) (w':=w.alloc (.cells (rowOf aG.zero (m*aG.size)).toArray e (0,0))) ?_ ⟨_,.val _,_,_,_,rfl,rfl,h.n2 _,ae,.inr ⟨rfl,λ_ _ h=>h,λb o ag=>ag.mono (λ_ _ h=>h) (λx ad=>by simp[ad])⟩⟩;have iC:((aG.bytes:Nat):Int)*(m:Int)<=281474976710656:=by
     have ab:((aG.bytes*m:Nat):Int)<=281474976710656:=by omega
     simpa using ab
    have:=run_make (P:=X.P) w t e inf tu hu fv j4 fz cx (n:Int) (m:Int) (by omega) (by omega) (by rw[ik];exact iC) (by omega);simp only[execOp,rp,zF,cu,this,bY,c7,gN];have aK:madeCells tu.cells (m*inf.size)=(rowOf aG.zero (m*aG.size)).toArray:=by rw[hW,<-BD];simp[tp]
    rw[aK]
   ·exact aj.elim
  ·exact aj.elim
 case call c=>
  obtain⟨callee,args,argTypes⟩:=c;cases callee with
  |value f=>
   simp only[wy,cb]at aj;split at aj
   ·rename_i g first cap vs zs iK
    have aic:mO G args.toList=some vs:=by rw[<-iK];exact x6 λy aE=>g9 y (by simp only[Op.operands,Call.operands];simp;right;simpa using aE)
    have aid:=oK (by simp[Op.operands,Call.operands]) zs;obtain⟨I1,dW,Mr,post,aie,db,av,ae⟩:=aj.elim ⟨h.holds.d,h.holds.bX⟩;have aK:=tq aB aic;have eB:args.map a.eval=vs.toArray:=by apply gX;simpa using aK
    have e':∀ {n:Next} {w':World},(callFunc g (first.toList++vs++cap.toList).toArray).run X.P w=.ok n w'->(execOp a.eval ⟨dst,.call { callee:=.value f,args,argTypes },ty,pos,after,guard⟩).run X.P w=.ok n w':=λaf=>by simp only[execOp,resolve,aid,Deferred.ofValue,cu,c7,bY,eB,invoke];rw[show first++vs.toArray++cap=(first.toList++vs++cap.toList).toArray from by apply gX;simp];exact af
    have KV:∀ {I':aJ} {M':List aF},(∀ b o,I b=some o->I' b=some o)->(soft=true\/∀ x∈M,I' x.num=some x.obj\/x∈M')->(soft=true/\Wp F (.call { callee:=.value f,args,argTypes }) C C I I' M M')\/(C=C/\(∀ b o,I b=some o->I' b=some o)/\∀ b o,ih I M b o->ih I' M' b o):=λaa ab=>by
     rcases ab with ab | ab;·exact .inl ⟨ab,⟨λt x y s off e _=>(by cases e),λt x y aP e _=>(by cases e),λ_=>⟨rfl,aa⟩⟩⟩
     ·exact .inr ⟨rfl,aa,λb o ag=>ag.move aa ab⟩
    rcases h.call (KC:=λv I' M'=>(∀ b o,I b=some o->I' b=some o)/\(soft=true\/∀ x∈M,I' x.num=some x.obj\/x∈M')/\K (Go.V.put dst (.val v) F) C I' M') (.zo I1 dW Mr post aie av λv I' M' bk ah aH=>⟨λb o ag=>bk _ _ (db _ _ ag),(ae v I' M' bk ah aH).1,(ae v I' M' bk ah aH).2⟩)with⟨qq,BE⟩ | ⟨v,w',I',M',af,⟨aa,ab,ae⟩,fA⟩;·refine V0 (by simp) (f:=g) (args:=(first.toList++vs++cap.toList).toArray) (e' (qq _ _)) ?_;refine BE.mono ?_;rintro e w'⟨v,I',M',rfl,⟨aa,ab,ae⟩,af⟩;exact⟨v,rfl,v,.val v,C,I',M',rfl,rfl,af,ae,KV aa ab⟩
    ·exact iJ (by simp) (e' af) ⟨v,.val v,C,I',M',rfl,rfl,fA,ae,KV aa ab⟩
   ·exact aj.elim
  |invoke r m=>exact aj.elim
  |builtin b=>
   cases b
   case append=>
    simp only[wy,cb]at aj;cases soft with
    |false=>exact aj.elim| true=>simp only[cp]at aj;obtain⟨aj⟩:=aj G g9;refine tk (λbN w'=>?_) (aj β a w Q h);rintro⟨v,x,I',M',aa,ab,ai,aL,O6⟩;exact⟨v,x,C,I',M',aa,ab,ai,aL,.inl ⟨rfl,⟨λt x y s off e _=>(by cases e),λt x y aP e _=>(by cases e),λ_=>⟨rfl,λb o h=>by rw[O6];exact h⟩⟩⟩⟩
   case copy=>
    simp only[wy,cb]at aj;cases soft with
    |false=>exact aj.elim| true=>simp only[cp]at aj;obtain⟨aj⟩:=aj G g9;refine tk (λbN w'=>?_) (aj β a w Q h);rintro⟨v,x,I',M',aa,ab,ai,aL,O6⟩;exact⟨v,x,C,I',M',aa,ab,ai,aL,.inl ⟨rfl,⟨λt x y s off e _=>(by cases e),λt x y aP e _=>(by cases e),λ_=>⟨rfl,λb o h=>by rw[O6];exact h⟩⟩⟩⟩
   all_goals exact aj.elim
 all_goals exact aj.elim
def tB(x y:dH):Prop:=∀ β u,e5 β x u->e5 β y u
def tB.refl(x:dH):tB x x:=λ_ _ h=>h
def tB.trans{x y z:dH}(h:tB x y)(bj:tB y z):tB x z:=fun β u hu=>bj β u (h β u hu)
structure wB(ops:List Oper):Prop where
 lt:∀ j e,mV ops j e->e<j
 own:∀ (j:Nat) (o:Oper) (d:Nat),ops[j]?=some o->o.dst=some d->d ∉ looks ops o
 O7:∀ (i j:Nat) (gK mU:Oper) (d:Nat),i≠j->ops[i]?=some gK->ops[j]?=some mU->gK.dst=some d->mU.dst≠some d
 ord:∀ (i j:Nat) (gK mU:Oper) (d:Nat),i≠j->ops[i]?=some gK->ops[j]?=some mU->gK.dst=some d->d∈looks ops mU->pI ops i j\/pI ops j i
def Wq(h:BL ops=true):wB ops:=by
 have key:∀ (j:Nat) (mU:Oper),ops[j]?=some mU->_:=λj mU ak=>by have a4:j<ops.length:=(iz.1 ak).1;have aa:=fV.1 h j (j0.2 a4);simp only[ak,cw]at aa;exact aa
 refine⟨?_,?_,?_,?_⟩
 ·rintro j e⟨o,kN,aC,rC,ag,rfl⟩;have aa:=fV.1 (key j o aC).1 kN (by simpa using rC);rw[ag]at aa;simpa using aa
 ·intro j o d aC ah;have aa:=(key j o aC).2.1;rw[ah]at aa;simpa using aa
 ·intro i j gK mU d bD hi ak ah fE;have a4:i<ops.length:=(iz.1 hi).1;have aa:=fV.1 (key j mU ak).2.2 i (j0.2 a4);rw[hF bD]at aa;simp only[hi,ah,uT,cw]at aa;rw[fE]at aa;simp at aa
 ·intro i j gK mU d bD hi ak ah aA;have a4:i<ops.length:=(iz.1 hi).1;have aa:=fV.1 (key j mU ak).2.2 i (j0.2 a4);rw[hF bD]at aa;simp only[hi,ah,uT,cw,kq]at aa;rcases aa.2 with ab | ab | ab
  ·have:(looks ops mU).contains d=true:=by simpa using aA
   rw[this]at ab;cases ab
  ·exact .inl (zD ab)
  ·exact .inr (zD ab)
def jh(ops:List Oper)(i:Nat):Option Nat:=(ops[i]?).bind (·.dst)
def kP(L:Nat->Prop)(p i:Nat):Prop:=p.testBit i=true/\¬ L i
def zG(ops:List Oper)(o:Oper)(F:Fr):Prop:=match o.guard with
 |none=>True| some (j,b)=>∃ d,jh ops j=some d/\F d=.lit b
def KW(ops:List Oper)(o:Oper)(F:Fr):Prop:=∃ j b d,o.guard=some (j,b)/\jh ops j=some d/\(F d=.lit (!b)\/∃ vs,F d=.val (.tuple vs))
def O8{o:Oper}{j d:Nat}{b:Bool}(ax:o.guard=some (j,b))(ah:jh ops j=some d):d∈looks ops o:=by unfold looks Oper.looksAt;refine sF _ ?_;rw[ax];simp only[Option.mem_toList];simpa[jh]using ah
def O9{o:Oper}{t:Nat}(h:Operand.tmp t∈o.op.operands):t∈looks ops o:=
 im _ (List.mem_filterMap.2 ⟨.tmp t,by simpa using h,rfl⟩)
def Wr{o:Oper}{F:Fr}{a:Act}(h:zG ops o F)(bs:∀ t∈looks ops o,e5 β (F t) (a.tmps.getD t undef)):Region.wanted o (yielded ops.toArray a.tmps)=true:=by
 unfold zG at h;unfold Region.wanted;cases ax:o.guard with
 |none=>rfl| some GD=>obtain⟨j,b⟩:=GD;rw[ax]at h;obtain⟨d,ah,aA⟩:=h;have aa:=bs d (O8 ax ah);rw[aA]at aa;have aE:=GC (ops:=ops.toArray) (j:=j) (d:=d) (by simpa[jh]using ah) a.tmps;simp[aE,DN aa]
def Ws{o:Oper}{F:Fr}{a:Act}(h:KW ops o F)(bs:∀ t∈looks ops o,e5 β (F t) (a.tmps.getD t undef)):Region.wanted o (yielded ops.toArray a.tmps)=false:=by
 obtain⟨j,b,d,ax,ah,aA⟩:=h;unfold Region.wanted;have aa:=bs d (O8 ax ah);have aE:=GC (ops:=ops.toArray) (j:=j) (d:=d) (by simpa[jh]using ah) a.tmps;rw[ax];rcases aA with aA | ⟨vs,aA⟩
 ·rw[aA]at aa;simp[aE,DN aa]
 ·rw[aA]at aa;have uQ:yielded ops.toArray a.tmps j=none:=by
   rw[aE];cases jO:a.tmps[d]? with
   |none=>rfl| some v=>simp only[e5,pB,jO,kK]at aa;subst aa;rfl
  simp[uQ]
def Wt{o:Oper}{F:Fr}{run skip:Fr->Prop}(h:KT ops o F run skip):∃ lV,(∀ t,tB (F t) (lV t))/\((zG ops o lV/\run lV)\/(KW ops o lV/\skip lV)):=by
 unfold KT at h;cases ax:o.guard with
 |none=>rw[ax]at h;exact⟨F,λt=>.refl _,.inl ⟨by simp[zG,ax],h⟩⟩
 |some GD=>
  obtain⟨j,b⟩:=GD;rw[ax]at h;simp only at h;split at h;·exact h.elim
  ·rename_i d ah;have fE:jh ops j=some d:=ah;split at h
   ·rename_i c ao;refine⟨F,λt=>.refl _,?_⟩;cases jN:(c == b)with
    |true=>
     rw[jN]at h;have jN:c=b:=by simpa using jN
     subst jN;exact .inl ⟨by simp only[zG,ax];exact⟨d,fE,ao⟩,h⟩
    |false=>
     rw[jN]at h;have KX:c=!b:=by cases c<;>cases b<;>simp_all
     subst KX;exact .inr ⟨⟨j,b,d,ax,fE,.inl ao⟩,h⟩
   ·rename_i c ao;obtain⟨aa,ab⟩:=h;have hI:∀ x,c=x->∀ t,tB (F t) (gY F d (.lit x) t):=λx ad t=>by
     unfold gY;by_cases e:t=d;·subst e;subst ad;simp only[rj,cp,ao];exact λ_ _ h=>h
     ·simp only[hF e,cb];exact .refl _
    have self:∀ x,gY F d (.lit x) d=.lit x:=λx=>by simp[gY]
    by_cases jN:c=b;·exact⟨_,hI b jN,.inl ⟨by simp only[zG,ax];exact⟨d,fE,self b⟩,aa jN⟩⟩
    ·have KX:c=!b:=by cases c<;>cases b<;>simp_all
     exact⟨_,hI _ KX,.inr ⟨⟨j,b,d,ax,fE,.inl (self _)⟩,ab KX⟩⟩
   ·rename_i vs ao;exact⟨F,λt=>.refl _,.inr ⟨⟨j,b,d,ax,fE,.inr ⟨vs,ao⟩⟩,h⟩⟩
   ·exact h.elim
structure aif(X:c1)(ops:List Oper)(im':Nat->Bool)(L:Nat->Prop)(p:Nat)(cr:List (Nat×Nat))(β:Nat->Nat)(a:Act)(F:Fr)(C:dO)(I:aJ)(M:List aF)(hJ:Nat->dH)(gQ:Nat->Fr)(q:Nat)(o:Oper):Prop where
 quiet:DV o.op=true
 hI:∀ d,o.dst=some d->tB (hJ q) (F d)
 b:∀ t∈looks ops o,∀ i,kP L p i->pI ops i q->jh ops i=some t->tB (hJ i) (gQ q t)
 a:∀ t∈looks ops o,(∀ i,kP L p i->pI ops i q->jh ops i≠some t)->e5 β (gQ q t) (a.tmps.getD t undef)
 r:(zG ops o (gQ q)/\cK X o.op (dn (gQ q)) C I (wz (im' q) M) (λx=>x=hJ q) False/\∀ t x,o.op=.load t x->(q,KU (dn (gQ q) x))∈cr)\/(KW ops o (gQ q)/\hJ q=.val undef)
structure Inv(X:c1)(ops:List Oper)(im':Nat->Bool)(L:Nat->Prop)(β:Nat->Nat)(a:Act)(w:World)(F:Fr)(C:dO)(I:aJ)(M:List aF)(p:Nat)(cr:List (Nat×Nat))(hJ:Nat->dH)(gQ:Nat->Fr):Prop where
 rel:cL X β a w (λ_=>.ny) C I M
 sub:∀ i,L i->p.testBit i=true
 wC:BM ops L
 rD:BM ops (λi=>p.testBit i=true)
 T:∀ t,(∀ i,kP L p i->jh ops i≠some t)->e5 β (F t) (a.tmps.getD t undef)
 zH:∀ q,kP L p q->∃ o,ops[q]?=some o/\aif X ops im' L p cr β a F C I M hJ gQ q o
def mW{p q i:Nat}:(p ||| 2^q).testBit i=true ↔ p.testBit i=true\/i=q:=by simp only[KQ,kq,KP,hS];exact⟨λh=>h.imp id Eq.symm,λh=>h.imp id Eq.symm⟩
section
variable{X:c1}{ops:List Oper}{im':Nat->Bool}{L:Nat->Prop}{β:Nat->Nat}{a:Act}{w:World}{F:Fr}{C:dO}{I:aJ}{M:List aF}{p:Nat}{cr:List (Nat×Nat)}{hJ:Nat->dH}{gQ:Nat->Fr}{q:Nat}{o:Oper}
def G1(h:ops[q]?=some o):jh ops q=o.dst:=by simp[jh,h]
def G2{i d:Nat}(h:jh ops i=some d):∃ gK,ops[i]?=some gK/\gK.dst=some d:=by unfold jh at h;exact KO.1 h
def Inv.ahead(dw:wB ops)(Wu:BM ops (λi=>p.testBit i=true))(aM:ops[q]?=some o)(lp:p.testBit q=false){i t:Nat}(hi:p.testBit i=true)(au:t∈looks ops o)(ah:jh ops i=some t):pI ops i q:=by
 obtain⟨gK,iq,qB⟩:=G2 ah;have bD:i≠q:=λe=>by rw[e,lp]at hi;cases hi
 rcases dw.ord i q gK o t bD iq aM qB au with h | h
 ·exact h
 ·have:=h.mem Wu (λe he=>Wu i e hi he);rw[lp]at this;cases this
def Inv.aih(dw:wB ops)(h:Inv X ops im' L β a w F C I M p cr hJ gQ)(aM:ops[q]?=some o)(lp:p.testBit q=false)(bt:∀ e,mV ops q e->L e):∀ t∈looks ops o,e5 β (F t) (a.tmps.getD t undef):=λt au=>h.T t λi hi ah=>
 hi.2 ((Inv.ahead dw h.rD aM lp hi.1 au ah).mem h.wC bt)
def KY{x:dH}{t:Nat}(h:dst≠some t):put dst x F t=F t:=by
 cases dst with
 |none=>rfl| some d=>have:t≠d:=λe=>h (by rw[e]);simp only[put,gY,hF this,cb]
def put_eq{x:dH}{t:Nat}:put (some t) x F t=x:=by simp[put,gY]
def KZ{t:Nat}(h:dst≠some t):(a.put dst v).tmps.getD t undef=a.tmps.getD t undef:=by
 cases dst with
 |none=>rfl| some d=>have:d≠t:=λe=>h (by rw[e]);simp only[Act.put,pB,DD,bP this]
def O'{t:Nat}(h:t<a.tmps.size):(a.put (some t) v).tmps.getD t undef=v:=by rw[VP a t t v h,bT rfl]
def Inv.record(dw:wB ops)(h:Inv X ops im' L β a w F C I M p cr hJ gQ)(aM:ops[q]?=some o)(lp:p.testBit q=false)(zC:∀ e,mV ops q e->p.testBit e=true)(K0:DV o.op=true)
 (tC:∀ t,tB (F t) (lV t)) {x:dH} {Pa:List (Nat×Nat)} (uS:∀ s∈cr,s∈Pa) (af:(zG ops o lV/\cK X o.op (dn lV) C I (wz (im' q) M) (λy=>y=x) False/\∀ t y,o.op=.load t y->(q,KU (dn lV y))∈Pa)\/(KW ops o lV/\x=.val undef)) :
  Inv X ops im' L β a w (put o.dst x lV) C I M (p ||| 2^q) Pa (λi=>if i=q then x else hJ i) (λi=>if i=q then lV else gQ i):=by
 have rE:¬ L q:=λe=>by have:=h.sub q e;rw[lp]at this;cases this
 have qC:∀ {i},kP L (p ||| 2^q) i->i≠q->kP L p i:=λhi bD=>⟨(mW.1 hi.1).resolve_right bD,hi.2⟩;have x7:∀ {i},kP L p i->kP L (p ||| 2^q) i:=λhi=>⟨mW.2 (.inl hi.1),hi.2⟩;have aii:kP L (p ||| 2^q) q:=⟨mW.2 (.inr rfl),rE⟩;have aij:∀ {i},kP L p i->¬ pI ops q i:=fun {i} hi ag=>by have:=ag.mem h.rD (λe he=>h.rD i e hi.1 he);rw[lp]at this;cases this
 refine⟨h.rel,λi hi=>mW.2 (.inl (h.sub i hi)),h.wC,?_,?_,?_⟩
 ·intro j e ak he;rcases mW.1 ak with ak | rfl
  ·exact mW.2 (.inl (h.rD j e ak he))
  ·exact mW.2 (.inl (zC e he))
 ·intro t au;have aa:o.dst≠some t:=λe=>au q aii (by rw[G1 aM,e]);rw[KY aa];exact tC t _ _ (h.T t λi hi=>au i (x7 hi))
 ·intro i hi;by_cases pJ:i=q
  ·subst pJ;refine⟨o,aM,⟨K0,?_,?_,?_,?_⟩⟩
   ·intro d ah;rw[ah,put_eq];simp only[bT];exact .refl _
   ·intro t au j ak ag wD;have K1:j≠i:=λe=>by subst e;have:=ag.mem h.rD zC;rw[lp]at this;cases this
    simp only[bP K1,bT];obtain⟨mU,aik,mX⟩:=h.zH j (qC ak K1);exact(mX.hI t (by rw[<-G1 aik];exact wD)).trans (tC t)
   ·intro t au eD;simp only[bT];refine tC t _ _ (h.T t λj ak wD=>eD j (x7 ak) (Inv.ahead dw h.rD aM lp ak.1 au wD) wD)
   ·simpa using af
  ·obtain⟨gK,iq,mX⟩:=h.zH i (qC hi pJ);refine⟨gK,iq,⟨mX.quiet,?_,?_,?_,?_⟩⟩
   ·intro d ah;simp only[bP pJ];rw[KY (dw.O7 i q gK o d pJ iq aM ah)];exact(mX.hI d ah).trans (tC d)
   ·intro t au j ak ag wD;have G3:j≠q:=λe=>by subst e;exact aij (qC hi pJ) ag
    simp only[bP pJ,bP G3];exact mX.b t au j (qC ak G3) ag wD
   ·intro t au eD;simp only[bP pJ];exact mX.a t au λj ak=>eD j (x7 ak)
   ·simp only[bP pJ];exact mX.r.imp (λ⟨aa,ab,ai⟩=>⟨aa,ab,λt x aK=>uS _ (ai t x aK)⟩) id
def Inv.exec{zy:Act->World->Prop}(aO:cX X.P X.E)(dw:wB ops)(h8:∀ d,o.dst=some d->d<X.n)(h:Inv X ops im' L β a w F C I M p cr hJ gQ)(aM:ops[q]?=some o)(aH:kP L p q)(bt:∀ e,mV ops q e->L e)
  (eG:∀ bN,Inv X ops im' (λi=>L i\/i=q) β bN w F C I M p cr hJ gQ->zy bN w):wpOpIn (g8 X) 0 X.P ops.toArray Q q zy a w:=by
 obtain⟨o',rF,mX⟩:=h.zH q aH;rw[aM]at rF;cases rF;have DW:∀ {i},pI ops i q->¬ kP L p i:=λag hi=>hi.2 (ag.mem h.wC bt);have dI:∀ t∈looks ops o,e5 β (gQ q t) (a.tmps.getD t undef):=λt au=>mX.a t au λi hi ag=>(DW ag hi).elim;have after:∀ v,e5 β (hJ q) v->Inv X ops im' (λi=>L i\/i=q) β (a.put o.dst v) w F C I M p cr hJ gQ:=λv aj=>by
  have qC:∀ {i},kP (λi=>L i\/i=q) p i->kP L p i/\i≠q:=λhi=>⟨⟨hi.1,λe=>hi.2 (.inl e)⟩,λe=>hi.2 (.inr e)⟩;have x7:∀ {i},kP L p i->i≠q->kP (λi=>L i\/i=q) p i:=λhi bD=>⟨hi.1,λe=>e.elim hi.2 bD⟩;refine⟨h.rel.put h8 (x:=.ny) trivial |> λh=>h.refine λ_=>trivial,?_,?_,h.rD,?_,?_⟩
  ·rintro i (hi | rfl)
   ·exact h.sub i hi
   ·exact aH.1
  ·rintro j e (ak | rfl) he
   ·exact .inl (h.wC j e ak he)
   ·exact .inl (bt e he)
  ·intro t au;by_cases ah:o.dst=some t
   ·have a4:t<a.tmps.size:=by rw[h.rel.size];exact h8 t ah
    rw[ah,O' a4];exact mX.hI t ah _ _ aj
   ·rw[KZ ah];refine h.T t λi hi qB=>?_;by_cases pJ:i=q
    ·subst pJ;rw[G1 aM]at qB;exact ah qB
    ·exact au i (x7 hi pJ) qB
  ·intro i hi;obtain⟨cG,pJ⟩:=qC hi;obtain⟨gK,iq,sG⟩:=h.zH i cG;refine⟨gK,iq,⟨sG.quiet,sG.hI,λt au j ak=>sG.b t au j (qC ak).1,?_,sG.r⟩⟩;intro t au eD;by_cases ah:o.dst=some t
   ·have a4:t<a.tmps.size:=by rw[h.rel.size];exact h8 t ah
    rw[ah,O' a4];have ag:pI ops q i:=by
     rcases dw.ord q i o gK t (su pJ) aM iq ah au with ag | ag;·exact ag
     ·exact(DW ag cG).elim
    exact sG.b t au q aH ag (by rw[G1 aM,ah]) _ _ aj
   ·rw[KZ ah];refine sG.a t au λj ak ag wD=>?_;by_cases G3:j=q
    ·subst G3;rw[G1 aM]at wD;exact ah wD
    ·exact eD j (x7 ak G3) ag wD
 have G4:ops.toArray[q]?=some o:=by simpa using aM
 unfold wpOpIn;simp only[G4];rcases mX.r with⟨e',Wv,-⟩ | ⟨G5,ad⟩
 ·rw[Wr e' dI,bT rfl];let G:Fr:=λt=>if t∈looks ops o then gQ q t else .ny
  have g9:∀ t,e5 β (G t) (a.tmps.getD t undef):=λt=>by
   by_cases au:t∈looks ops o;·simp only[G,bT au];exact dI t au
   ·simp only[G,bP au];trivial
  have Pb:∀ y∈o.op.operands,dn G y=dn (gQ q) y:=λy aE=>by
   cases y with
   |tmp t=>simp only[dn,G,bT (O9 aE)]| const v=>cases v<;>rfl
   |global g=>rfl| func f=>rfl
  have ail:=Wo Wv Pb (C':=C) (I':=I) (M':=M) λ_ _ _=>⟨λ_ _ _=>rfl,λ_ _ _ h=>ah1 h⟩;obtain⟨dst,op,ty,pos,aim,guard⟩:=o;have bV:∀ c,op≠.defer c:=λc e=>by have:=mX.quiet;rw[e]at this;cases this
  rcases V5 aO (h.rel.refine g9) op ty dst pos aim guard ail with aa | ⟨v,x,jw,ad,rfl⟩;·exact aa.elim
  ·exact iJ bV jw (eG _ (after v ad))
 ·rw[Ws G5 dI];simp only[k',mh];exact⟨λ_ _=>trivial,eG _ (after undef (by rw[ad];rfl))⟩
end
section
variable{X:c1}{ops:List Oper}{im':Nat->Bool}{L:Nat->Prop}{β:Nat->Nat}{a:Act}{w:World}{F:Fr}{C:dO}{I:aJ}{M:List aF}{p:Nat}{cr:List (Nat×Nat)}{hJ:Nat->dH}{gQ:Nat->Fr}{q:Nat}{o:Oper}
def Inv.refine(h:Inv X ops im' L β a w F C I M p cr hJ gQ)(tC:∀ t,tB (F t) (lV t)):Inv X ops im' L β a w lV C I M p cr hJ gQ:=
 ⟨h.rel,h.sub,h.wC,h.rD,λt au=>tC t _ _ (h.T t au),λi hi=>by
  obtain⟨gK,iq,aH⟩:=h.zH i hi;exact⟨gK,iq,⟨aH.quiet,λd ah=>(aH.hI d ah).trans (tC d),aH.b,aH.a,aH.r⟩⟩⟩
def Inv.step(dw:wB ops)(h8:∀ d,o.dst=some d->d<X.n)(h:Inv X ops im' L β a w F C I M p cr hJ gQ)(aM:ops[q]?=some o)(lp:p.testBit q=false)(bt:∀ e,mV ops q e->L e)
 {x:dH} {C':dO} (ad:e5 β x v) (af:cL X β a w' (λ_=>.ny) C' I' M')
  (hm:∀ i gK fL,kP L p i->ops[i]?=some gK->qz gK.op=true->(i,fL)∈cr->(∀ s,fL=s+1->C' s=C s)/\(fL=0->∀ b o,ih I (wz (im' i) M) b o->ih I' (wz (im' i) M') b o)) :
  Inv X ops im' (λi=>L i\/i=q) β (a.put o.dst v) w' (put o.dst x F) C' I' M' (p ||| 2^q) cr hJ gQ:=by
 have qC:∀ {i},kP (λi=>L i\/i=q) (p ||| 2^q) i->kP L p i:=λhi=>⟨(mW.1 hi.1).resolve_right (λe=>hi.2 (.inr e)),λe=>hi.2 (.inl e)⟩;have x7:∀ {i},kP L p i->kP (λi=>L i\/i=q) (p ||| 2^q) i:=fun {i} hi=>⟨mW.2 (.inl hi.1),λe=>e.elim hi.2 (λe=>by
  subst e;have:=hi.1;rw[lp]at this;cases this)⟩
 refine⟨af.put h8 (x:=.ny) trivial |> λh=>h.refine λ_=>trivial,?_,?_,?_,?_,?_⟩
 ·rintro i (hi | rfl)
  ·exact mW.2 (.inl (h.sub i hi))
  ·exact mW.2 (.inr rfl)
 ·rintro j e (ak | rfl) he
  ·exact .inl (h.wC j e ak he)
  ·exact .inl (bt e he)
 ·intro j e ak he;rcases mW.1 ak with ak | rfl
  ·exact mW.2 (.inl (h.rD j e ak he))
  ·exact mW.2 (.inl (h.sub e (bt e he)))
 ·intro t au;by_cases ah:o.dst=some t
  ·have a4:t<a.tmps.size:=by rw[h.rel.size];exact h8 t ah
   rw[ah,O' a4,put_eq];exact ad
  ·rw[KZ ah,KY ah];exact h.T t λi hi=>au i (x7 hi)
 ·intro i hi;have cG:=qC hi;obtain⟨gK,iq,sG⟩:=h.zH i cG;have pJ:i≠q:=λe=>by subst e;have:=cG.1;rw[lp]at this;cases this
  refine⟨gK,iq,⟨sG.quiet,?_,λt au j ak=>sG.b t au j (qC ak),?_,?_⟩⟩;·intro d ah;rw[KY (dw.O7 i q gK o d pJ iq aM ah)];exact sG.hI d ah
  ·intro t au eD;have ah:o.dst≠some t:=λah=>by
    rcases dw.ord q i o gK t (su pJ) aM iq ah au with ag | ag;·have:=ag.mem h.rD (λe he=>h.rD i e cG.1 he);rw[lp]at this;cases this
    ·exact cG.2 (ag.mem h.wC bt)
   rw[KZ ah];exact sG.a t au λj ak=>eD j (x7 ak)
  ·refine sG.r.imp (λ⟨aa,ab,ai⟩=>⟨aa,Wo ab (λ_ _=>rfl) λt x aA=>?_,ai⟩) id;have aL:=ai t x aA;have bq:=hm i gK _ cG iq (by rw[aA];rfl) aL;refine⟨λs off e=>?_,λbD=>bq.2 ?_⟩
   ·exact bq.1 s (by rw[e];rfl)
   ·generalize dn (gQ i) x=ain at bD;cases ain with
    |ref s off=>exact(bD s off rfl).elim| _=>rfl
def BN(X:c1)(ops:List Oper)(im':Nat->Bool)(K:gr)(L:Nat->Prop)(a:Act)(w:World):Prop:=
 ∃ β F C I M p cr hJ gQ n,Inv X ops im' L β a w F C I M p cr hJ gQ/\pH X ops im' n p cr F C I M K
def G6{k:Bool}{i:Nat}:i∈qA ops p k ↔ ∃ o,ops[i]?=some o/\p.testBit i=false/\DV o.op=k/\(∀ e,mV ops i e->p.testBit e=true):=by
 unfold qA;rw[n4,j0];have G7:∀ {o},ops[i]?=some o->(GW o p=true ↔ ∀ e,mV ops i e->p.testBit e=true):=fun {o} aC=>by
  unfold GW;rw[fV];constructor;·rintro h e⟨o',kN,rF,rC,ag,rfl⟩;rw[aC]at rF;cases rF;have:=h kN (by simpa using rC);rw[ag]at this;simpa using this
  ·intro h kN rC;cases ag:Region.binds .any kN with
   |false=>simp| true=>simp[h kN.on ⟨o,kN,aC,by simpa using rC,ag,rfl⟩]
 constructor
 ·rintro⟨a4,h⟩;cases aC:ops[i]? with
  |none=>rw[aC]at h;cases h| some o=>rw[aC]at h;simp only[cw,tx,beq_iff_eq]at h;exact⟨o,rfl,h.1,h.2.1,(G7 aC).1 h.2.2⟩
 ·rintro⟨o,aC,aa,ab,ai⟩;refine⟨(iz.1 aC).1,?_⟩;rw[aC];simp only[aa,ab,(G7 aC).2 ai,Bool.not_false,GV,Bool.and_self]
def Ww{P:Nat->Prop}:∀ {l:List Nat},O2 P l->∀ i∈l,P i
 |[],_,i,hi=>by cases hi
 |[j],h,i,hi=>by rw[eC]at hi;subst hi;exact h
 |j::k::l,h,i,hi=>by
  rcases eA.1 hi with rfl | hi;·exact h.1
  ·exact Ww (l:=k::l) h.2 i hi
def aio(i:Nat)(op:Op)(ρ:Operand->dH)(cr:List (Nat×Nat)):∀ s∈cr,s∈GZ i op ρ cr:=λs av=>by
 unfold GZ;split
 ·exact .tail _ av
 ·exact av
def aip{i:Nat}{cr:List (Nat×Nat)}:∀ t x,op=.load t x->(i,KU (ρ x))∈GZ i op ρ cr:=λt x aK=>by subst aK;unfold GZ;exact .head _
def BN.advance(dw:wB ops){K:gr}:∀ (n:Nat) {p cr F hJ gQ},Inv X ops im' L β a w F C I M p cr hJ gQ->pH X ops im' n p cr F C I M K -> ∃ p cr F hJ gQ n,Inv X ops im' L β a w F C I M p cr hJ gQ/\qA ops p true=[]/\pH X ops im' (n+1) p cr F C I M K
 |0,_,_,_,_,_,_,aj=>aj.elim
 |n+1,p,cr,F,hJ,gQ,bB,aj=>by
  cases af:qA ops p true with
  |nil=>exact⟨p,cr,F,hJ,gQ,n,bB,af,aj⟩
  |cons q l=>
   have gk:q∈qA ops p true:=by rw[af];simp
   obtain⟨o,aM,lp,K0,zC⟩:=G6.1 gk;have j3:=aj;unfold pH at j3;rw[af]at j3;simp only[aM]at j3;obtain⟨lV,tC,⟨e',aa⟩ | ⟨G5,aa⟩⟩:=Wt j3;·obtain⟨x,ab,ai⟩:=ah7 (ah3 aa);exact BN.advance dw n (bB.record dw aM lp zC K0 tC (aio _ _ _ _) (.inl ⟨e',ai,aip⟩)) ab
   ·exact BN.advance dw n (bB.record dw aM lp zC K0 tC (λ_ h=>h) (.inr ⟨G5,rfl⟩)) aa
def mem_ready{i:Nat}(dk:dE.size=ops.length):i∈Region.ready .any ops.toArray dE ↔ ∃ o,ops[i]?=some o/\¬ dE.getD i false=true/\∀ e,mV ops i e->dE.getD e false=true:=by
 unfold Region.ready;rw[n4,j0];simp only[tz,BH,cw,tx];have G7:∀ {o},ops[i]?=some o->((o.after.all λe=>!Region.binds .any e||dE.getD e.on false)=true ↔ ∀ e,mV ops i e->dE.getD e false=true):=fun {o} aC=>by
  rw[Array.all_eq_true_iff_forall_mem];constructor;·rintro h e⟨o',kN,rF,rC,ag,rfl⟩;rw[aC]at rF;cases rF;have:=h kN rC;rw[ag]at this;simpa using this
  ·intro h kN rC;cases ag:Region.binds .any kN with
   |false=>simp| true=>simp[h kN.on ⟨o,kN,aC,rC,ag,rfl⟩]
 have Wx:i<ops.length->(dE.getD i true=false ↔ ¬ dE.getD i false=true):=λhi=>by
  have:i<dE.size:=by omega
  simp[Array.getD,this]
 constructor
 ·rintro⟨a4,aa,ab⟩;cases aC:ops[i]? with
  |none=>rw[aC]at ab;cases ab| some o=>rw[aC]at ab;exact⟨o,rfl,(Wx a4).1 aa,(G7 aC).1 ab⟩
 ·rintro⟨o,aC,aa,ab⟩;have a4:=(iz.1 aC).1;refine⟨a4,(Wx a4).2 aa,?_⟩;rw[aC];exact(G7 aC).2 ab
def Wy{i:Nat}(hi:i<dE.size):(λj=>(dE.setIfInBounds i true).getD j false=true)=λj=>dE.getD j false=true\/j=i:=by
 funext j;simp only[pB,DD,eq_iff_iff];by_cases e:i=j
 ·subst e;simp[hi]
 ·simp only[bP e];constructor
  ·exact .inl
  ·rintro(h | h)
   ·exact h
   ·exact(e h.symm).elim
def todo(ops:List Oper)(dE:Array Bool):Nat:=((List.range ops.length).filter λi=>!dE.getD i false).length
def K2{i:Nat}(hi:i<ops.length)(dk:dE.size=ops.length)(aD:¬ dE.getD i false=true):todo ops (dE.setIfInBounds i true)<todo ops dE:=by
 unfold todo;have key:∀ l:List Nat,l.Nodup->i∈l->((l.filter λj=>!(dE.setIfInBounds i true).getD j false).length<(l.filter λj=>!dE.getD j false).length):=by
  have same:∀ j,j≠i->(dE.setIfInBounds i true).getD j false=dE.getD j false:=λj ak=>by simp only[pB,DD,bP (su ak)]
  have self:(dE.setIfInBounds i true).getD i false=true:=by
   have:i<dE.size:=by omega
   simp[pB,DD,this]
  have x8:dE.getD i false=false:=by simpa using aD
  intro l
  induction l with
  |nil=>intro _ h;cases h
  |cons j l aN=>
   intro bV hm;rw[mg]at bV;by_cases e:j=i
   ·subst e;have:l.filter (λk=>!(dE.setIfInBounds j true).getD k false)=l.filter (λk=>!dE.getD k false):=
     GU λk ae=>by rw[same k (λe=>bV.1 (e ▸ ae))]
    simp only[x5,self,x8,this];simp
   ·have sH:i∈l:=by
     rcases eA.1 hm with h | h;·exact(e h.symm).elim
     ·exact h
    have:=aN bV.2 sH;simp only[x5,same j e];split;·simp only[eo];omega
    ·exact this
 exact key _ BJ (j0.2 hi)
def aiq(aO:cX X.P X.E)(dw:wB ops)(h8:∀ o∈ops,∀ d,o.dst=some d->d<X.n){K:gr}(nA:∀ a w,Sat X K a w->Q .normal a w):∀ (eg:Nat) (dE:Array Bool) (a:Act) (w:World),
  dE.size=ops.length->todo ops dE<=eg->BN X ops im' K (λi=>dE.getD i false=true) a w->wpAnyIn (g8 X) 0 X.P .any ops.toArray Q eg dE a w:=by
 intro eg
 induction eg with
 |zero=>
  rintro dE a w dk aB⟨β,F,C,I,M,p,cr,hJ,gQ,n,bB,aj⟩;have lq:Region.ready .any ops.toArray dE=[]:=by
   cases af:Region.ready .any ops.toArray dE with
   |nil=>rfl| cons i l=>obtain⟨o,aC,aD,_⟩:=(mem_ready dk).1 (by rw[af];simp:i∈Region.ready .any ops.toArray dE);have:=K2 (iz.1 aC).1 dk aD;omega
  refine⟨lq,?_⟩;obtain⟨p,cr,F,hJ,gQ,n,bB,h9,aj⟩:=BN.advance dw n bB aj;have G8:∀ i,p.testBit i=true->dE.getD i false=true:=λi=>by
   induction i using Nat.strongRecOn with
   |ind i aN=>intro aH;refine GR λaD=>?_;obtain⟨o,aC,_⟩:=bB.zH i ⟨aH,aD⟩;have:i∈Region.ready .any ops.toArray dE:=(mem_ready dk).2 ⟨o,aC,aD,λe he=>aN e (dw.lt i e he) (bB.rD i e aH he)⟩;rw[lq]at this;cases this
  have tD:qA ops p false=[]:=by
   cases af:qA ops p false with
   |nil=>rfl| cons i l=>obtain⟨o,aC,aH,_,ah⟩:=G6.1 (by rw[af];simp:i∈qA ops p false);have:i∈Region.ready .any ops.toArray dE:=(mem_ready dk).2 ⟨o,aC,λc4=>(by have dZ:=bB.sub i c4;rw[aH]at dZ;exact Bool.noConfusion dZ),λe he=>G8 e (ah e he)⟩;rw[lq]at this;cases this
  unfold pH at aj;rw[h9,tD]at aj;exact nA _ _ ⟨F,C,I,M,⟨β,bB.rel.refine λt=>bB.T t λi hi=>(hi.2 (G8 i hi.1)).elim⟩,aj⟩
 |succ eg aN=>
  rintro dE a w dk aB⟨β,F,C,I,M,p,cr,hJ,gQ,n,bB,aj⟩;obtain⟨p,cr,F,hJ,gQ,n,bB,h9,aj⟩:=BN.advance dw n bB aj;refine⟨λlq=>?_,λq aM=>?_⟩
  ·have G8:∀ i,p.testBit i=true->dE.getD i false=true:=λi=>by
    induction i using Nat.strongRecOn with
    |ind i aN=>intro aH;refine GR λaD=>?_;obtain⟨o,aC,_⟩:=bB.zH i ⟨aH,aD⟩;have:i∈Region.ready .any ops.toArray dE:=(mem_ready dk).2 ⟨o,aC,aD,λe he=>aN e (dw.lt i e he) (bB.rD i e aH he)⟩;rw[lq]at this;cases this
   have tD:qA ops p false=[]:=by
    cases af:qA ops p false with
    |nil=>rfl| cons i l=>obtain⟨o,aC,aH,_,ah⟩:=G6.1 (by rw[af];simp:i∈qA ops p false);have:i∈Region.ready .any ops.toArray dE:=(mem_ready dk).2 ⟨o,aC,λc4=>(by have dZ:=bB.sub i c4;rw[aH]at dZ;exact Bool.noConfusion dZ),λe he=>G8 e (ah e he)⟩;rw[lq]at this;cases this
   unfold pH at aj;rw[h9,tD]at aj;exact nA _ _ ⟨F,C,I,M,⟨β,bB.rel.refine λt=>bB.T t λi hi=>(hi.2 (G8 i hi.1)).elim⟩,aj⟩
  ·obtain⟨o,aC,aD,ah⟩:=(mem_ready dk).1 aM;have a4:=(iz.1 aC).1;have uW:=h8 o (rv aC);have g1:=Wy (dE:=dE) (i:=q) (by omega);have next:∀ bN w',BN X ops im' K (λi=>dE.getD i false=true\/i=q) bN w'->wpAnyIn (g8 X) 0 X.P .any ops.toArray Q eg (dE.setIfInBounds q true) bN w':=λbN w' h=>by refine aN _ bN w' (by simpa using dk) ?_ (by rw[g1];exact h);have:=K2 a4 dk aD;omega
   cases lp:p.testBit q with
   |true=>
    exact bB.exec aO dw uW aC ⟨lp,aD⟩ ah λbN h=>next bN w ⟨β,F,C,I,M,p,cr,hJ,gQ,n+1,h,aj⟩
   |false=>
    have G9:∀ e,mV ops q e->p.testBit e=true:=λe he=>bB.sub e (ah e he);have air:DV o.op=false:=by
     cases ais:DV o.op with
     |false=>rfl| true=>have:q∈qA ops p true:=G6.2 ⟨o,aC,lp,ais,G9⟩;rw[h9]at this;cases this
    have gk:q∈qA ops p false:=G6.2 ⟨o,aC,lp,air,G9⟩;unfold pH at aj;rw[h9]at aj;simp only at aj;split at aj;·rename_i tD;rw[tD]at gk;cases gk
    ·rename_i i0 fG tD;rw[tD]at gk;have ag:=Ww aj q gk;simp only[aC]at ag;obtain⟨lV,tC,ag⟩:=Wt ag;have db:=bB.refine tC;have lW:=db.aih dw aC lp ah;have G4:ops.toArray[q]?=some o:=by simpa using aC
     unfold wpOpIn;simp only[G4];rcases ag with⟨e',ag⟩ | ⟨G5,ag⟩
     ·rw[Wr e' lW,bT rfl];cases Pc:Wf ((ll ops).getD q 0) p with
      |true=>
       rw[Pc]at ag;simp only[wy,cp]at ag;have eI:∀ i,p.testBit i=true->dE.getD i false=true:=λi hi=>by
        have aa:=dJ Pc;have ab:(p &&& (ll ops).getD q 0).testBit i=true:=by rw[aa];exact hi
        rw[Nat.testBit_and,cw]at ab;exact(zD ab.2).mem bB.wC ah
       have aX:Rel X a w lV C I M:=⟨β,db.rel.refine λt=>db.T t λi hi=>(hi.2 (eI i hi.1)).elim⟩;refine tk (λbN w'=>?_) (DM aO uW aX ag);rintro⟨c9,C',I',M',⟨oC,fA⟩,ae⟩;have ait:∀ i,¬ kP (λi=>dE.getD i false=true\/i=q) (p ||| 2^q) i:=λi hi=>by
        rcases mW.1 hi.1 with aa | aa;·exact hi.2 (.inl (eI i aa))
        ·exact hi.2 (.inr aa)
       refine next bN w' ⟨oC,c9,C',I',M',p ||| 2^q,cr,hJ,gQ,n,⟨fA.refine λ_=>trivial,?_,?_,?_,λt _=>fA.an t,λi hi=>(ait i hi).elim⟩,ae⟩
       ·rintro i (hi | rfl)
        ·exact mW.2 (.inl (bB.sub i hi))
        ·exact mW.2 (.inr rfl)
       ·rintro j e (ak | rfl) he
        ·exact .inl (bB.wC j e ak he)
        ·exact .inl (ah e he)
       ·intro j e ak he;rcases mW.1 ak with ak | rfl
        ·exact mW.2 (.inl (bB.rD j e ak he))
        ·exact mW.2 (.inl (G9 e he))
      |false=>
       rw[Pc]at ag;let G:Fr:=λt=>if t∈looks ops o then lV t else .ny
       have g9:∀ t,e5 β (G t) (a.tmps.getD t undef):=λt=>by
        by_cases au:t∈looks ops o;·simp only[G,bT au];exact lW t au
        ·simp only[G,bP au];trivial
       have Pb:∀ y∈o.op.operands,dn G y=dn lV y:=λy aE=>by
        cases y with
        |tmp t=>simp only[dn,G,bT (O9 aE)]| const v=>cases v<;>rfl
        |global g=>rfl| func f=>rfl
       refine tk (λbN w'=>?_) (aia aO (db.rel.refine g9) Pb ag);rintro⟨v,x,C',I',M',rfl,ad,fA,ae,hm⟩;refine next _ _ ⟨β,_,C',I',M',p ||| 2^q,cr,hJ,gQ,n,db.step dw uW aC lp ah ad (fA.refine λ_=>trivial) ?_,ae⟩
       rcases hm with⟨GY,nC⟩ | ⟨rfl,bk,fh⟩
       rotate_left
       ·exact λ_ _ _ _ _ _ _=>⟨λ_ _=>rfl,λ_=>Wj fh bk⟩
       have DW:∀ {i},kP (λi=>dE.getD i false=true) p i->((ll ops).getD q 0).testBit i=true->False:=λhi ag=>hi.2 ((zD ag).mem bB.wC ah);intro i gK fL hi iq eZ gk;have eD:∀ {s:Nat},BK ((ll ops).getD q 0) s cr=true->fL≠s:=fun {s} h e=>by
        rcases Wg h gk with aa | aa;·exact DW hi aa
        ·exact aa e
       rcases(kq _ _).mp GY with aiu | aiv
       ·have aa:=fV.1 aiu i (j0.2 (iz.1 iq).1);rw[hi.1,iq]at aa;simp only[wx,uT,kq,tx]at aa;rcases aa with aa | aa
        ·exact(DW hi aa).elim
        ·rw[aa]at eZ;cases eZ
       rcases(kq _ _).mp aiv with DX | x9
       ·unfold Wi at DX;split at DX
        ·rename_i t0 wE Wz di;split at DX
         ·rename_i cz awT aK;obtain⟨⟨eK,g'⟩,cR⟩:=nC.1 _ _ _ _ _ di aK;exact⟨λcn e=>eK cn (λa7=>eD DX (by rw[e,a7])),λ_=>Wj cR g'⟩
         ·cases DX
        ·cases DX
       rcases(kq _ _).mp x9 with x9 | x'
       ·unfold Wh at x9;split at x9
        ·rename_i t0 wE Wz di;split at x9
         ·rename_i aiw aK;exact⟨λ_ _=>by rw[(nC.2.1 _ _ _ _ di aK).1],λe=>(eD x9 e).elim⟩
         ·cases x9
        ·rename_i di;exact⟨λ_ _=>by rw[(nC.2.2 (λt x y e=>by rw[di]at e;cases e)).1],λe=>(eD x9 e).elim⟩
        ·cases x9
       unfold Wm at x';rw[cw]at x';obtain⟨aix,x'⟩:=x';have aiy:im' i=true:=by
        have aa:=fV.1 aix i (j0.2 (iz.1 iq).1);rw[hi.1,iq]at aa;simp only[wx,uT,kq,tx]at aa;rcases aa with aa | aa | aa;·exact(DW hi aa).elim
        ·exact aa
        ·rw[aa]at eZ;cases eZ
       have bk:C'=C/\∀ b o,I b=some o->I' b=some o:=by
        unfold Wl at x';split at x'
        ·rename_i t0 wE Wz di;split at x'
         ·rename_i aiw aK;exact nC.2.1 _ _ _ _ di aK
         ·cases x'
        ·rename_i di;exact nC.2.2 (λt x y e=>by rw[di]at e;cases e)
        ·rename_i di;exact nC.2.2 (λt x y e=>by rw[di]at e;cases e)
        ·cases x'
       exact⟨λ_ _=>by rw[bk.1],λ_=>by rw[aiy];exact ah2 bk.2⟩
     ·rw[Ws G5 lW];simp only[k',mh];refine⟨λ_ _=>trivial,next _ _ ⟨β,_,C,I,M,p ||| 2^q,cr,hJ,gQ,n,db.step dw uW aC lp ah (x:=.val undef) rfl db.rel (λ_ _ _ _ _ _ _=>⟨λ_ _=>rfl,λ_ _ _ h=>h⟩),ag⟩⟩
end
def c2.Pd{X:c1}{id:Nat}{F:Fr}{I:aJ}{K:kp}(aO:cX X.P X.E)(hm:X.P.follows .mixedOrders=true)(ao:BL A.toList=true)(aD:xZ X.n A=true)
  {im':Nat->Bool} (h:pH X A.toList im' (A.size+1) 0 [] F C I M (K .normal)):c2 X (.region id A true) F C I M K:=by
 refine⟨λa w ⟨β,aX⟩=>wpIn_region_any hm ?_⟩;have rG:cL X β a { w with drawn:=w.drawn+1 } F C I M:=aX.world rfl;have b8:∀ i,(Array.replicate A.size false).getD i false=false:=λi=>by
  by_cases hi:i<A.size<;>simp[pB,hi]
 have oL:∀ {i},¬ (Array.replicate A.size false).getD i false=true:=fun {i}=>by rw[b8];simp
 have key:=aiq (K:=K .normal) (Q:=mQ X K) aO (Wq ao) (KH aD) (λ_ _ h=>h) A.size (Array.replicate A.size false) a { w with drawn:=w.drawn+1 } (by simp) ?_ ⟨β,F,C,I,M,0,[],λ_=>.ny,λ_ _=>.ny,A.size+1,⟨rG.refine λ_=>trivial,λi hi=>(oL hi).elim,λj e ak=>(oL ak).elim,λj e ak=>by simp at ak,λt _=>rG.an t,λi hi=>by simp[kP]at hi⟩,h⟩
 ·simpa using key
 ·unfold todo;refine ja (DR _ _) (by simp)
def c2.WA{X:c1}{id:Nat}{F:Fr}{I:aJ}{K:kp}(aO:cX X.P X.E)(hm:X.P.follows .mixedOrders=true)(ao:BL A.toList=true)(aD:xZ X.n A=true)
  {im':Nat->Bool} (aI:ι->xY) (inv:ι->Prop) (aj:pH X A.toList im' (A.toList.length+1) 0 [] F C I M (qt X.foot aI inv)) (bo:∀ i,inv i->K .normal (rq (aI i).bp) (rr (aI i).cl) (aI i).cP (aI i).da):c2 X (.region id A true) F C I M K:=by
 obtain⟨h⟩:=c2.Pd (im':=im') (K:=λe=>match e with
  | .normal=>qt X.foot aI inv| e=>K e) aO hm ao aD aj
 refine⟨λa w aX=>wpIn_mono (h a w aX) ?_⟩;intro e a w av;cases e with
 |normal=>obtain⟨c9,C',I',M',⟨β,af⟩,⟨j,sD,hw,bs,j5⟩⟩:=av;exact⟨_,_,_,_,⟨β,(af.bC bs j5).h7 hw⟩,bo j sD⟩
 |_=>exact av
def c2.draw{X:c1}{id:Nat}{F:Fr}{I:aJ}{K:kp}(aO:cX X.P X.E)(hm:X.P.follows .mixedOrders=true)(ao:BL A.toList=true)(aD:xZ X.n A=true)(h:pH X A.toList (λ_=>false) (A.size+1) 0 [] F C I M (K .normal)):c2 X (.region id A true) F C I M K:=.Pd aO hm ao aD h
def c2.BO{X:c1}{id:Nat}{F:Fr}{I:aJ}{K:kp}(aO:cX X.P X.E)(hm:X.P.follows .mixedOrders=true)(ao:BL A.toList=true)(aD:xZ X.n A=true)
 (aI:ι->xY) (inv:ι->Prop) (aj:pH X A.toList (λ_=>false) (A.toList.length+1) 0 [] F C I M (qt X.foot aI inv)) (bo:∀ i,inv i->K .normal (rq (aI i).bp) (rr (aI i).cl) (aI i).cP (aI i).da):c2 X (.region id A true) F C I M K:=.WA aO hm ao aD aI inv aj bo
def c2.Pe{X:c1}{id:Nat}{F:Fr}{I:aJ}{K:kp}(hI:Nat->Bool)(aO:cX X.P X.E)(hm:X.P.follows .mixedOrders=true)(ao:BL A.toList=true)(aD:xZ X.n A=true)(h:pH X A.toList hI (A.size+1) 0 [] F C I M (K .normal)):c2 X (.region id A true) F C I M K:=.Pd aO hm ao aD h
def WB{sC:Fence}{n:Nat}{a:Act}{c:Code}(J:Nat->Nat->Act->World->Prop)
  (first:c.wpIn sC n P (λe bN w'=>match e with
   | .goto l=>∃ m,J l m bN w'| e=>Q e bN w') a w)
  (pass:∀ l m a w,J l m a w->∃ bo,findLabel c l=some bo/\bo.wpIn sC n P (λe bN w'=>match e with
   | .goto dC=>∃ m',m'<m/\J dC m' bN w'| e=>Q e bN w') a w):(Code.scope c).wpIn sC n P Q a w:=by
 intro b k cs jd ag af;have cz:step P (lone (b.atR a (.code (.scope c)::k)) cs w)=.next (lone (b.atR a (.code c::.inScope c::k)) cs w):=
  step_lone_go (by simp[stepG,stepG.exec,Frame.atR])
 have s1:∀ a w,step P (lone (b.atR a (.inScope c::k)) cs w)=.next (lone (b.atR a k) cs w):=λa w=>
  step_lone_go (by simp[stepG,stepG.exec,Frame.atR])
 have ad:∀ id,exitTo id (.inScope c::k)=exitTo id k:=λid=>by simp[exitTo]
 have fin:∀ {m:Machine} {e:Exit} {j6:Act} {j7:World},(∀ l,e≠.goto l)->ArrivesIn (Machine.fenced P sC) P m b (.inScope c::k) cs e j6 j7->ArrivesIn (Machine.fenced P sC) P m b k cs e j6 j7:=by
  intro m e j6 j7 bD je;cases e with
  |normal=>exact StepsIn.trans je (.one (fenced_calm ag af rfl) (s1 _ _))| exit id=>exact⟨λfu ae=>je.1 fu (by rw[ad];exact ae),λfA ae=>je.2 fA (by rw[ad];exact ae)⟩| goto l=>exact(bD l rfl).elim| ret=>exact je| panic DO=>exact je| outgrown=>exact je
 have key:∀ m l a w,J l m a w->∀ bo,findLabel c l=some bo->∃ e bN w',Q e bN w'/\ArrivesIn (Machine.fenced P sC) P (lone (b.atR a (.code bo::.inScope c::k)) cs w) b k cs e bN w':=by
  intro m
  induction m using Nat.strongRecOn with
  |_ m aN=>
   intro l a w a8 bo rH;obtain⟨DY,aB,hw⟩:=pass l m a w a8;rw[rH]at aB;cases aB;obtain⟨e,j6,j7,aM,je⟩:=hw b (.inScope c::k) cs jd ag af;cases e with
   |goto dC=>
    obtain⟨m',a4,BP⟩:=aM;obtain⟨DY,wF,_⟩:=pass dC m' j6 j7 BP;have ax:gotoIn dC (.inScope c::k)=some (.code DY::.inScope c::k):=by simp[gotoIn,wF]
    obtain⟨GH,GI,GJ,GK,GL⟩:=aN m' a4 dC j6 j7 BP DY wF;exact⟨GH,GI,GJ,GK,.of_steps (je.1 _ ax) GL⟩
   |normal=>exact⟨_,j6,j7,aM,fin (by simp) je⟩| exit id=>exact⟨_,j6,j7,aM,fin (by simp) je⟩| ret=>exact⟨_,j6,j7,aM,fin (by simp) je⟩| panic DO=>exact⟨_,j6,j7,aM,fin (by simp) je⟩| outgrown=>exact⟨_,j6,j7,aM,fin (by simp) je⟩
 have aw:(lone (b.atR a (.code (.scope c)::k)) cs w).fenced P sC:=fenced_calm ag af rfl;obtain⟨e,j6,j7,aM,je⟩:=first b (.inScope c::k) cs jd ag af
 cases e with
 |goto dC=>
  obtain⟨m',BP⟩:=aM;obtain⟨DY,wF,_⟩:=pass dC m' j6 j7 BP;have ax:gotoIn dC (.inScope c::k)=some (.code DY::.inScope c::k):=by simp[gotoIn,wF]
  obtain⟨GH,GI,GJ,GK,GL⟩:=key m' dC j6 j7 BP DY wF;exact⟨GH,GI,GJ,GK,.of_steps (.head aw cz (je.1 _ ax)) GL⟩
 |normal=>exact⟨_,j6,j7,aM,.of_steps (.one aw cz) (fin (by simp) je)⟩| exit id=>exact⟨_,j6,j7,aM,.of_steps (.one aw cz) (fin (by simp) je)⟩| ret=>exact⟨_,j6,j7,aM,.of_steps (.one aw cz) (fin (by simp) je)⟩| panic DO=>exact⟨_,j6,j7,aM,.of_steps (.one aw cz) (fin (by simp) je)⟩| outgrown=>exact⟨_,j6,j7,aM,.of_steps (.one aw cz) (fin (by simp) je)⟩
def Pf(N:Nat->gr)(K:kp):kp
 | .goto l=>N l| e=>K e
def c2.scope{X:c1}{c:Code}{F:Fr}{I:aJ}{K:kp}(aO:cX X.P X.E)(bi:codeOk X.n c=true)(aI:ι->xY)(bw:ι->Nat)(inv:ι->Prop)(μ:ι->Nat)(bo:Nat->Code)(rH:∀ i,inv i->findLabel c (bw i)=some (bo (bw i))/\codeOk X.n (bo (bw i))=true)(first:V X c F C I M (Pf (λl=>qt X.foot aI λj=>inv j/\bw j=l) K))(pass:∀ i,inv i->V X (bo (bw i)) (rq (aI i).bp) (rr (aI i).cl) (aI i).cP (aI i).da (Pf (λl=>qt X.foot aI λj=>(inv j/\bw j=l)/\μ j<μ i) K)) :
  c2 X (.scope c) F C I M K:=by
 refine⟨λa w aX=>?_⟩;let J (l m:Nat) (a:Act) (w:World):Prop:=∃ i,inv i/\bw i=l/\μ i=m/\Rel X a w (rq (aI i).bp) (rr (aI i).cl) (aI i).cP (aI i).da
 have zx:∀ {p:ι->Prop} {l:Nat} {a w},(∀ i,p i->inv i/\bw i=l)->Sat X (qt X.foot aI p) a w->∃ i,p i/\J l (μ i) a w:=by rintro p l a w aH⟨F,C,I,M,⟨β,af⟩,⟨j,sD,hw,bs,j5⟩⟩;exact⟨j,sD,j,(aH j sD).1,(aH j sD).2,rfl,β,(af.bC bs j5).h7 hw⟩
 refine WB J (wpIn_mono (rs aO c bi aX first) ?_) ?_
 ·intro e a w h;cases e with
  |goto l=>obtain⟨j,ak,a8⟩:=zx (p:=λj=>inv j/\bw j=l) (l:=l) (λ_ h=>h) h;exact⟨_,a8⟩
  |_=>exact h
 ·rintro l m a w⟨i,hi,rfl,rfl,af⟩;obtain⟨aa,ab⟩:=rH i hi;refine⟨_,aa,wpIn_mono (rs aO _ ab af (pass i hi)) ?_⟩;intro e a w h;cases e with
  |goto dC=>obtain⟨j,ak,a8⟩:=zx (p:=λj=>(inv j/\bw j=dC)/\μ j<μ i) (l:=dC) (λ_ h=>h.1) h;exact⟨_,ak.2,a8⟩
  |_=>exact h
def DZ(P:Program)(l:Nat)(args:List Value)(I:aJ)(M:List aF)(post:Value->aJ->List aF->Prop):Prop:=
 ∀ w,eN I M w->∃ f tmps assign body,(Instr.yield l args.toArray).run P w=.ok (.round l f tmps assign body) w /\ RoundIn Fence.wide 0 P l f tmps assign body w λe w'=>∃ v I' M',e=.returned v/\post v I' M'/\eN I' M' w'/\Kept I M w I' M' w'
inductive BQ(P:Program)(l:Nat)(args:List Value)(I:aJ)(M:List aF)(K:Value->aJ->List aF->Prop):Prop
 |mk(dW Mr:List aF)(post:Value->aJ->List aF->Prop)(bb:M.Perm (dW++Mr))(av:DZ P l args I dW post)(k:∀ v I' M',(∀ b o,I b=some o->I' b=some o)->post v I' M'->K v I' (M'++Mr))
def bF.yield{X:c1}{o:Oper}{F:Fr}{I:aJ}{K:gr}{args:Array Operand}{e7:Array TypeId}{l:Nat}(aC:o.op=.call { callee:=.value f,args,argTypes:=e7 })(ah:∀ d,o.dst=some d->d<X.n)(aB:bH F f=.val (.func (.yield l) #[] #[]))(iK:mO F args.toList=some vs)
  (h:BQ X.P l vs I M λv I' M'=>K (put o.dst (.val v) F) C I' M'):bF X o F C I M K:=by
 refine⟨λa w Q ⟨β,aX⟩=>?_⟩;obtain⟨dW,Mr,post,bb,av,ae⟩:=h;obtain⟨fn,tmps,assign,body,aE,af⟩:=av w (aX.holds.part bb);have aK:=tq aX.an iK;have eB:args.map a.eval=vs.toArray:=by apply gX;simpa using aK
 have a7:=dh aX.an aB;obtain⟨dst,op,ty,pos,after,guard⟩:=o;simp only at aC;subst aC;refine⟨λ_ _=>trivial,?_⟩;rw[Ku _ _ _ (by simp)];have e':(execOp a.eval ⟨dst,.call { callee:=.value f,args,argTypes:=e7 },ty,pos,after,guard⟩).run X.P w=.ok (.round l fn tmps assign body) w:=by simp only[execOp,resolve,a7,Deferred.ofValue,cu,c7,bY,eB,invoke];simpa using aE
 rw[e',Oper.uponIn_round];refine⟨(λh=>by cases h),?_⟩;have fA:RoundIn (g8 X) (0-1) X.P l fn tmps assign body w _:=af;refine fA.mono ?_;rintro e w'⟨v,I',M',rfl,aH,rl,eG⟩;exact⟨_,_,_,_,⟨β,(aX.after bb rl eG).put (x:=.val v) ah rfl⟩,ae v I' M' eG.le aH⟩
def WC(A:(Nat->aJ->List aF->Prop)->Prop)(P:Program)(g:Nat)(cap:List Value)(I:aJ)(n:Nat)(Q:Nat->List Value->aJ->Prop):Prop:=
 ∀ (l:Nat) (R:Nat->aJ->List aF->Prop) (lr:aJ->List aF->Prop),A R -> (∀ k (ae:k<n) vs I' M',(∀ b o,I b=some o->I' b=some o)->Q k vs I'->R k I' M'->DZ P l vs I' M' λv zI kQ=>(v=.bool true/\R (k+1) zI kQ)\/(v=.bool false/\lr zI kQ)) -> ∀ dS M0,(∀ b o,I b=some o->dS b=some o)->R 0 dS M0->wh P g (.func (.yield l) #[] #[]::cap) dS M0 λ_ I' M'=>R n I' M'\/lr I' M'
def tE(R:Nat->aJ->List aF->Prop):Prop:=∀ k I I' M,(∀ b o,I b=some o->I' b=some o)->R k I M->R k I' M
def tE.cons(x:aF)(S:Nat->aJ->List aF->Prop)(h:tE S):tE λk I M=>∃ dy,M=x::dy/\S k I dy:=by rintro k I I' M bB⟨dy,e,cv⟩;exact⟨dy,e,h k I I' dy bB cv⟩
abbrev WD:=WC tE
def Iter(P:Program)(g:Nat)(cap:List Value)(I:aJ)(uX:List (List Value)):Prop:=
 ∀ (l:Nat) (R:Nat->aJ->List aF->Prop) (lr:aJ->List aF->Prop),(∀ k (ae:k<uX.length) I' M',(∀ b o,I b=some o->I' b=some o)->R k I' M'->DZ P l uX[k] I' M' λv zI kQ=>(v=.bool true/\R (k+1) zI kQ)\/(v=.bool false/\lr zI kQ)) -> ∀ dS M0,(∀ b o,I b=some o->dS b=some o)->R 0 dS M0->wh P g (.func (.yield l) #[] #[]::cap) dS M0 λ_ I' M'=>R uX.length I' M'\/lr I' M'
def D1:List Nat->List Value->Fr->Fr
 |t::ps,v::vs,F=>D1 ps vs (gY F t (.val v))| _,_,F=>F
def WE(foot:List Nat)(N:aJ->List aF->Prop)(lr:tv->aJ->List aF->Prop):kp:=λex F C I M=>match ex with
 | .normal=>wq foot I M N| ex=>wq foot I M (lr ex)
def D2:tv->Option Code
 | .normal=>none| .exit id=>some (.exit id)| .goto l=>some (.goto l)| .ret=>some .ret
section
variable{X:c1}{β:Nat->Nat}{a:Act}{w:World}{F:Fr}{C:dO}{I:aJ}{M:List aF}
def WG:∀ (ps:List Nat) (vs:List Value) (F:Fr) (tmps:Array Value),(∀ t∈ps,t<tmps.size)->(∀ t,e5 β (F t) (tmps.getD t undef)) ->
  let r:=(ps.zip vs).foldl (λ(tmps:Array Value) (p:Nat×Value)=>tmps.setIfInBounds p.1 p.2) tmps
  r.size=tmps.size/\∀ t,e5 β (D1 ps vs F t) (r.getD t undef)
 |[],vs,F,tmps,_,h=>⟨rfl,h⟩| t::ps,[],F,tmps,_,h=>⟨rfl,h⟩
 |t::ps,v::vs,F,tmps,aH,h=>by
  have aa:∀ s,e5 β (gY F t (.val v) s) ((tmps.setIfInBounds t v).getD s undef):=λs=>by have:=OM (β:=β) (F:=F) (a:=⟨tmps,[]⟩) h (d:=t) (x:=.val v) (v:=v) (aH t (by simp)) rfl s;exact this
  have aN:=WG ps vs (gY F t (.val v)) (tmps.setIfInBounds t v) (λs av=>by simpa using aH s (by simp[av])) aa;simp only[List.zip_cons_cons,kl,D1];exact⟨by simpa using aN.1,aN.2⟩
def cL.WH(h:cL X β a w F C I M):cL X β { a with defers:=xR w.heap.size::a.defers } (w.alloc (.deferred (some []))) F C I M where
 size:=h.size
 defers:=by
  obtain⟨ba,aa,ab,ai⟩:=h.defers;refine⟨w.heap.size::ba,by simp[aa],?_,?_⟩;·rw[mg];refine⟨λhm=>?_,ab⟩;have:=(k8.1 (ai _ hm).aY).1;omega
  ·intro r af;rcases eA.1 af with rfl | af
   ·exact⟨OK w _,h.sz,h.holds.sA,h.holds.rk⟩
   ·exact(ai r af).alloc _
 holds:=h.holds.alloc _
 an:=h.an
 cr s cs av:=(h.cr s cs av).alloc _
 inj:=h.inj
 ij:=h.ij
 hU:=h.hU
 own:=h.own
 dK:=OO h.dK h.sz _
 out:=h.out
 sz:=by have:=h.sz;simp;omega
 fy:=h.fy
def cL.G'{n:Nat}{o o':Obj}(h:cL X β a w F C I (⟨n,o⟩::M)):cL X β a (w.putObj n o') F C I M:=by
 have fQ:(⟨n,o⟩:aF)∈(⟨n,o⟩:aF)::M:=by simp
 have bV:=h.holds.bX;simp only[ca,mg]at bV;exact {
  size:=h.size
  defers:=h.defers.mono λr af=>by have bD:n≠r:=af.e6 _ fQ;refine { af with aY:=?_,e6:=λx ad=>af.e6 x (by simp[ad]) };rw[nv (su bD)];exact af.aY
  holds:={
   i:=λb o iL=>by rw[nv (λe=>by have:=h.holds.d _ fQ;simp only at this;rw[e,this]at iL;cases iL)];exact h.holds.i b o iL
   m:=λx ad=>by rw[nv (λe=>bV.1 (c0.2 ⟨x,ad,e⟩))];exact h.holds.m x (by simp[ad])
   d:=λx ad=>h.holds.d x (by simp[ad])
   bX:=bV.2 }
  an:=h.an
  cr:=λs cs av=>by have ag:=h.cr s cs av;have bD:n≠β s:=ag.e6 _ fQ;obtain⟨T,bl⟩:=ag.aY;refine { ag with aY:=⟨T,?_⟩,e6:=λx ad=>ag.e6 x (by simp[ad]) };rw[nv (su bD)];exact bl
  inj:=h.inj
  ij:=h.ij
  hU:=h.hU
  own:=λx ad=>h.own x (by simp[ad])
  dK:=λb ag aB=>by
   rw[nv (λe=>by
    rcases h.own _ fQ with aa | aa;·simp only at aa;exact aB (e ▸ aa)
    ·simp only at aa;omega)]
   exact h.dK b ag aB
  out:=h.out.trans (Kz _ _ _)
  sz:=by have:=h.sz;simpa using this
  fy:=h.fy }
def c2.Ha{K:kp}{n:Nat}{Q:Nat->List Value->aJ->Prop}{A:(Nat->aJ->List aF->Prop)->Prop}(dI:∀ x S,A S->A λk I M=>∃ dy,M=x::dy/\S k I dy)(aO:cX X.P X.E)(jd:X.ro=none)(bi:(codeOk X.n fj&&(codeOk X.n body&&ps.toList.all (λt=>Nat.blt t X.n)))=true)(Pg:bH F f=.val (.func (.func g) #[] cap))(Hb:h6 X.foot I M I1 M1)(uY:WC A X.P g cap.toList I1 n Q)(cQ:∀ k vs I,k<n->Q k vs I->vs.length=ps.size)(R:Nat->aJ->List aF->Prop)(lr:tv->aJ->List aF->Prop)(uZ:A R)(start:R 0 I1 M1)(round:∀ k (ae:k<n) vs I' M',(∀ b o,I1 b=some o->I' b=some o)->Q k vs I'->R k I' M'->∀ l B aw hx,V ⟨X.P,X.E,X.gJ,X.n,B,aw,I',M'.map (·.num),some l⟩ fj (D1 ps.toList vs F) (λ_=>none) I' M' (zw (λF C I M=>V ⟨X.P,X.E,X.gJ,X.n,B,hx,I',M'.map (·.num),some l⟩ body F C I M (WE (M'.map (·.num)) (R (k+1)) lr)) (λ_ _ _ _ _=>False)))(done:∀ I' M',(∀ b o,I1 b=some o->I' b=some o)->R n I' M'->K .normal F C I' M')(stop:∀ ex I' M',(∀ b o,I1 b=some o->I' b=some o)->lr ex I' M'->ex≠.normal/\K ex F C I' M') :
  c2 X (.rangeFunc f ps fj body) F C I M K:=by
 refine⟨λa w ⟨β,iM⟩=>?_⟩;have aX:=iM.h7 Hb;simp only[cw]at bi;obtain⟨ya,ji,zJ⟩:=bi;refine wpIn_rangeFunc λfn _=>?_;let gm (s:LoopState) (qC:Option Code):Loop:={ state:=s,pending:=qC,fn:=fn,tmps:=a.tmps,params:=ps,assign:=fj,body:=body,defers:=w.heap.size }
 let l:=w.heap.size+1
 let mY:World:=(w.alloc (.deferred (some []))).alloc (.loop (gm .ready none))
 have BR:=aX.WH.n2 (.loop (gm .ready none));have aA:(w.alloc (.deferred (some []))).heap.size=l:=by simp[l]
 rw[aA]at BR;let yb (k:Nat) (I':aJ) (M':List aF):Prop:=∃ dy,M'=⟨l,.loop (gm .ready none)⟩::dy/\R k I' dy
 let WI (I':aJ) (M':List aF):Prop:=∃ ex c dy,D2 ex=some c/\M'=⟨l,.loop (gm .done (some c))⟩::dy/\lr ex I' dy
 have aE:∀ k (ae:k<n) vs I' M',(∀ b o,I1 b=some o->I' b=some o)->Q k vs I'->yb k I' M'->DZ X.P l vs I' M' λv zI kQ=>(v=.bool true/\yb (k+1) zI kQ)\/(v=.bool false/\WI zI kQ):=by
  rintro k ae vs I' _ bk nA⟨dy,rfl,aiz⟩W iB;have Hc:W.heap[l]?=some (.loop (gm .ready none)):=iB.m ⟨l,.loop (gm .ready none)⟩ (by simp);have a4:l<W.heap.size:=(k8.1 Hc).1;have bV:=iB.bX;simp only[ca,mg]at bV;have WJ:I' l=none:=iB.d ⟨l,.loop (gm .ready none)⟩ (by simp);refine⟨_,_,_,_,run_yield Hc (by simpa using cQ _ _ _ ae nA),?_⟩;have ir:((gm LoopState.ready none).params.zip vs.toArray).foldl (λtmps (x:Nat×Value)=>match x with | (t,a)=>tmps.setIfInBounds t a) (gm LoopState.ready none).tmps=(ps.toList.zip vs).foldl (λ(tmps:Array Value) (p:Nat×Value)=>tmps.setIfInBounds p.1 p.2) a.tmps:=by rw[<-OF];simp[gm]
  have Ph:=WG (β:=β) ps.toList vs F a.tmps (λt au=>by
   have:=fV.1 zJ t au;rw[aX.size];exact bK this) aX.an
  rw[<-ir]at Ph;refine roundIn_of_wpIn (F:=Fence.wide) (n:=0) trivial ?_;let wG:c1:=⟨X.P,X.E,X.gJ,X.n,W.heap.size,W,I',dy.map (·.num),some l⟩
  let hx:=W.putObj l (.loop (gm .busy none))
  let Hd:c1:=⟨X.P,X.E,X.gJ,X.n,W.heap.size,hx,I',dy.map (·.num),some l⟩
  have aj:=round k ae vs I' dy bk nA aiz l W.heap.size W hx;have GN:cL wG β { tmps:=((gm LoopState.ready none).params.zip vs.toArray).foldl (λtmps (x:Nat×Value)=>match x with | (t,a)=>tmps.setIfInBounds t a) (gm LoopState.ready none).tmps,defers:=[] } W (D1 ps.toList vs F) (λ_=>none) I' dy:={
   size:=Ph.1.trans aX.size
   defers:=⟨[],rfl,DF,λr af=>by cases af⟩
   holds:=⟨iB.i,λx ad=>iB.m x (by simp[ad]),λx ad=>iB.d x (by simp[ad]),bV.2⟩
   an:=Ph.2
   cr:=λs cs av=>by cases av
   inj:=λs cn aa=>by simp at aa
   ij:=λb o ag=>ag
   hU:=λb o ag=>.inl ag
   own:=λx ad=>.inl (c0.2 ⟨x,ad,rfl⟩)
   dK:=λb ag aB=>rfl
   out:=.refl _
   sz:=b2 _
   fy:=λx ad=>by
    obtain⟨y,aE,rfl⟩:=c0.1 ad;exact(k8.1 (iB.m y (by simp[aE]))).1 }
  have KK:=rs (X:=wG) aO fj ya ⟨β,GN⟩ aj;refine wpIn_mono (Q:=mQ wG _) KK ?_;intro e cN jx av;cases e with
  |exit id=>obtain⟨_,_,_,_,_,ae⟩:=av;exact ae.elim
  |goto id=>obtain⟨_,_,_,_,_,ae⟩:=av;exact ae.elim
  |ret=>obtain⟨_,_,_,_,_,ae⟩:=av;exact ae.elim
  |panic DO=>exact av.elim| outgrown=>exact av.elim
  |normal=>
   obtain⟨lV,aiA,eE,oM,⟨WK,h9⟩,KF⟩:=av;have u0:jx.heap[l]?=some (.loop (gm .ready none)):=by rw[h9.dK l a4 bV.1];exact Hc
   refine⟨_,run_beginRound u0 rfl,?_⟩;have aiB:eE l=none:=by
    cases bB:eE l with
    |none=>rfl
    |some o=>
     rcases h9.hU _ _ bB with aa | aa;·rw[show wG.dS=I' from rfl,WJ]at aa;cases aa
     ·exact absurd aa (Nat.not_le.2 a4)
   have aiC:∀ x∈oM,x.num≠l:=λx ad e=>by
    rcases h9.own x ad with aa | aa;·rw[e]at aa;exact bV.1 aa
    ·rw[e]at aa;exact absurd aa (Nat.not_le.2 a4)
   have tD:cL Hd WK cN (jx.putObj l (.loop (gm .busy none))) lV aiA eE oM:={
    size:=h9.size
    defers:=by obtain⟨ba,a',bg,b5⟩:=h9.defers;refine⟨ba,a',bg,λr en=>?_⟩;have af:=b5 r en;refine { aY:=?_,bC:=af.bC,j1:=af.j1,e6:=af.e6 };rw[nv (λe=>by have aa:=af.aY;rw[e,u0]at aa;cases aa)];exact af.aY
    holds:={
     i:=λb o iL=>by rw[nv (λe=>by rw[e,aiB]at iL;cases iL)];exact h9.holds.i b o iL
     m:=λx ad=>by rw[nv (aiC x ad)];exact h9.holds.m x ad
     d:=h9.holds.d
     bX:=h9.holds.bX }
    an:=h9.an
    cr:=λs cs av=>by have ag:=h9.cr s cs av;obtain⟨T,bl⟩:=ag.aY;refine { aY:=⟨T,?_⟩,bC:=ag.bC,j1:=ag.j1,e6:=ag.e6 };rw[nv (λe=>by rw[e,u0]at bl;cases bl)];exact bl
    inj:=h9.inj
    ij:=h9.ij
    hU:=h9.hU
    own:=h9.own
    dK:=λb ag aB=>by
     by_cases e:b=l;·subst e;rw[DQ (k8.1 u0).1];exact(DQ a4).symm
     ·rw[nv e];show _=(W.putObj l (.loop (gm .busy none))).heap[b]?;rw[nv e];exact h9.dK b ag aB
    out:=⟨h9.out.1,h9.out.2⟩
    sz:=by have:=h9.sz;simpa using this
    fy:=h9.fy }
   have aiD:=rs (X:=Hd) aO body ji ⟨WK,tD⟩ KF;refine wpIn_mono (Q:=mQ Hd _) aiD ?_;have fin:∀ (ek:Act) (oN:World) (wH:Fr) (wI:dO) (ls:aJ) (rI:List aF) (jump:Option Code),Rel Hd ek oN wH wI ls rI->∃ j8,(Instr.endRound l jump).run X.P oN=.ok (.bool jump.isNone) j8 /\
     eN ls (⟨l,.loop (gm (if jump.isNone then .ready else .done) jump)⟩::rI) j8/\Kept I' (⟨l,.loop (gm .ready none)⟩::dy) W ls (⟨l,.loop (gm (if jump.isNone then .ready else .done) jump)⟩::rI) j8:=by
    rintro ek oN wH wI ls rI jump⟨zK,ai⟩;have u1:oN.heap[l]?=some (.loop (gm .busy none)):=by rw[ai.dK l a4 bV.1];exact DQ a4
    have WL:ls l=none:=by
     cases bB:ls l with
     |none=>rfl
     |some o=>
      rcases ai.hU _ _ bB with aa | aa;·rw[show Hd.dS=I' from rfl,WJ]at aa;cases aa
      ·exact absurd aa (Nat.not_le.2 a4)
    have WM:∀ x∈rI,x.num≠l:=λx ad e=>by
     rcases ai.own x ad with aa | aa;·rw[e]at aa;exact bV.1 aa
     ·rw[e]at aa;exact absurd aa (Nat.not_le.2 a4)
    refine⟨_,run_endRound jump u1,?_,?_⟩
    ·exact {
      i:=λb o iL=>by rw[nv (λe=>by rw[e,WL]at iL;cases iL)];exact ai.holds.i b o iL
      m:=λx ad=>by
       rcases eA.1 ad with rfl | ad;·exact DQ (k8.1 u1).1
       ·rw[nv (WM x ad)];exact ai.holds.m x ad
      d:=λx ad=>by
       rcases eA.1 ad with rfl | ad;·exact WL
       ·exact ai.holds.d x ad
      bX:=by
       simp only[ca,mg];refine⟨λhm=>?_,ai.holds.bX⟩;obtain⟨x,ad,e⟩:=c0.1 hm;exact WM x ad e }
    ·exact {
      le:=ai.ij
      uM:=ai.hU
      wg:=λx ad=>by
       rcases eA.1 ad with rfl | ad;·exact .inl ⟨⟨l,.loop (gm .ready none)⟩,by simp,rfl⟩
       ·rcases ai.own x ad with aa | aa
        ·obtain⟨y,aE,e⟩:=c0.1 aa;exact .inl ⟨y,by simp[aE],e⟩
        ·exact .inr aa
      dK:=λb ag bD=>by
       have kR:b≠l:=λe=>bD ⟨l,.loop (gm .ready none)⟩ (by simp) e.symm;rw[nv kR,ai.dK b ag (λhm=>by
        obtain⟨y,aE,e⟩:=c0.1 hm;exact bD y (by simp[aE]) e)]
       exact nv kR
      out:=⟨ai.out.1,ai.out.2⟩
      sz:=by have:=ai.sz;simpa using this }
   intro e ek oN zL;cases e with
   |normal=>obtain⟨wH,wI,ls,rI,⟨zK,ai⟩,⟨qD,qE,BS,aH⟩⟩:=zL;obtain⟨j8,aL,bq,b'⟩:=fin ek oN wH wI qD qE none ⟨zK,ai.h7 BS⟩;exact⟨_,j8,aL,_,_,_,rfl,.inl ⟨rfl,_,rfl,aH⟩,bq,b'⟩
   |exit id=>obtain⟨wH,wI,ls,rI,⟨zK,ai⟩,⟨qD,qE,BS,aH⟩⟩:=zL;obtain⟨j8,aL,bq,b'⟩:=fin ek oN wH wI qD qE (some (.exit id)) ⟨zK,ai.h7 BS⟩;exact⟨_,j8,aL,_,_,_,rfl,.inr ⟨rfl,.exit id,_,_,rfl,rfl,aH⟩,bq,b'⟩
   |goto id=>obtain⟨wH,wI,ls,rI,⟨zK,ai⟩,⟨qD,qE,BS,aH⟩⟩:=zL;obtain⟨j8,aL,bq,b'⟩:=fin ek oN wH wI qD qE (some (.goto id)) ⟨zK,ai.h7 BS⟩;exact⟨_,j8,aL,_,_,_,rfl,.inr ⟨rfl,.goto id,_,_,rfl,rfl,aH⟩,bq,b'⟩
   |ret=>obtain⟨wH,wI,ls,rI,⟨zK,ai⟩,⟨qD,qE,BS,aH⟩⟩:=zL;obtain⟨j8,aL,bq,b'⟩:=fin ek oN wH wI qD qE (some .ret) ⟨zK,ai.h7 BS⟩;exact⟨_,j8,aL,_,_,_,rfl,.inr ⟨rfl,.ret,_,_,rfl,rfl,aH⟩,bq,b'⟩
   |panic DO=>exact zL.elim| outgrown=>exact zL.elim
 obtain⟨qq,BE⟩:=uY l yb WI (dI _ _ uZ) aE I1 (⟨l,.loop (gm .ready none)⟩::M1) (λ_ _ h=>h) ⟨M1,rfl,start⟩;have mZ:=BE mY BR.holds;have a7:=dh aX.an Pg;refine⟨l,[xR w.heap.size],mY,{ target:=.fn (.func g) cap,args:=#[.func (.yield l) #[] #[]] },mY,g,(.func (.yield l) #[] #[]::cap.toList).toArray,mY,?_,?_,λ_ _=>trivial,?_,(λh=>by cases h),?_⟩
 ·have Pj:(g8 X).round=none:=jd;rw[Pj];exact run_enterLoop_outer fn a.tmps ps fj body
 ·show(Deferred.ofValue (a.eval f) (#[Operand.const (.func (.yield l) #[] #[])].map a.eval)).run X.P mY=_;rw[a7];simp[Deferred.ofValue,Act.eval]
 ·simp only[invoke];rw[show #[Value.func (.yield l) #[] #[]]++cap=(.func (.yield l) #[] #[]::cap.toList).toArray from by apply gX;simp];exact qq _ _
 ·refine(OR (X:=X) mZ _).mono ?_;rintro e oN⟨v,I',M',rfl,aH,rl,eG⟩;have sI:=BR.after (Mr:=[]) (by simp) rl eG;rw[dD]at sI;have bk:=eG.le;rcases aH with⟨dy,rfl,aiE⟩ | ⟨ex,c,dy,ao,rfl,aiF⟩
  ·refine⟨none,_,run_endLoop (rl.m ⟨l,.loop (gm .ready none)⟩ (by simp)) (by simp[gm]),?_⟩;exact⟨F,C,I',dy,⟨β,sI.G'⟩,done I' dy bk aiE⟩
  ·refine⟨some c,_,run_endLoop (rl.m ⟨l,.loop (gm .done (some c))⟩ (by simp)) (by simp[gm]),?_⟩;obtain⟨bD,ae⟩:=stop ex I' dy bk aiF;cases ex with
   |normal=>exact(bD rfl).elim| exit id=>cases ao;exact wpIn_exit ⟨F,C,I',dy,⟨β,sI.G'⟩,ae⟩| goto id=>cases ao;exact wpIn_goto ⟨F,C,I',dy,⟨β,sI.G'⟩,ae⟩| ret=>cases ao;exact wpIn_ret ⟨F,C,I',dy,⟨β,sI.G'⟩,ae⟩
def c2.range{K:kp}{uX:List (List Value)}(aO:cX X.P X.E)(jd:X.ro=none)(bi:(codeOk X.n fj&&(codeOk X.n body&&ps.toList.all (λt=>Nat.blt t X.n)))=true)(Pg:bH F f=.val (.func (.func g) #[] cap))(Hb:h6 X.foot I M I1 M1)(uY:Iter X.P g cap.toList I1 uX)(cQ:∀ vs∈uX,vs.length=ps.size)(R:Nat->aJ->List aF->Prop)(lr:tv->aJ->List aF->Prop)(start:R 0 I1 M1)(round:∀ k (ae:k<uX.length) I' M',(∀ b o,I1 b=some o->I' b=some o)->R k I' M'->∀ l B aw hx,V ⟨X.P,X.E,X.gJ,X.n,B,aw,I',M'.map (·.num),some l⟩ fj (D1 ps.toList uX[k] F) (λ_=>none) I' M' (zw (λF C I M=>V ⟨X.P,X.E,X.gJ,X.n,B,hx,I',M'.map (·.num),some l⟩ body F C I M (WE (M'.map (·.num)) (R (k+1)) lr)) (λ_ _ _ _ _=>False)))(done:∀ I' M',(∀ b o,I1 b=some o->I' b=some o)->R uX.length I' M'->K .normal F C I' M')(stop:∀ ex I' M',(∀ b o,I1 b=some o->I' b=some o)->lr ex I' M'->ex≠.normal/\K ex F C I' M') :
  c2 X (.rangeFunc f ps fj body) F C I M K:=by
 refine c2.Ha (A:=λ_=>True) (Q:=λk vs _=>uX[k]?=some vs) (λ_ _ _=>trivial) aO jd bi Pg Hb (n:=uX.length) ?_ (λk vs _ _ h=>cQ vs (rv h)) R lr trivial start (λk ae vs I' M' bk h aX=>?_) done stop
 ·intro l R lr _ h;exact uY l R lr λk ae I' M' bk aX=>h k ae _ I' M' bk (dt ae) aX
 ·obtain⟨_,rfl⟩:=iz.1 h;exact round k ae I' M' bk aX
end
structure aQ where
 a:Option Nat
 n:Nat
 c:Nat
 aU:List Value
def aQ.val(o:aQ):Value:=.slice (o.a.map λg=>⟨g,0,none⟩) o.n o.c
def aQ.ar(o:aQ)(e:Nat):List aF:=match o.a with
 |some g=>[⟨g,.cells o.aU.toArray e (0,0)⟩]| none=>[]
structure aQ.ok(o:aQ)(size:Nat)(xs:List Value):Prop where
 len:xs.length=o.n*size
 nil:o.a=none->o.n=0/\o.c=0
 cap:∀ g,o.a=some g->o.aU.length=o.c*size/\o.n<=o.c/\o.c<=maxLen/\o.aU.take (o.n*size)=xs
section
variable{P:Program}{w:World}
def Pk(t u ty e:Nat)(i:TypeInfo)(z:Value)(au:P.underlying t=some (.slice e)){mu:TypeDesc}(hu:P.underlying u=some mu)(n5:∀ k,mu≠.int k)(hi:P.info? e=some i)(bd:i.zero=some z)(qF:z.cells.size=i.size)
  {os:aQ} (bi:os.ok i.size xs) (ax:∀ g,os.a=some g->w.heap[g]?=some (.cells os.aU.toArray e (0,0)))
  {x:Value} (hm:0<m) (aA:b3.length=m*i.size) (aa:∀ v∈b3,v.oneCell'=true)
  (cQ:∀ w',(Builtin.lenOf x).run P w'=.ok m w') (eV:∀ w':World,w'.heap=w.heap->(Builtin.firstCells i.size m x).run P w'=.ok b3.toArray w')
  (b1:os.n+m<=maxLen) (bW:(os.n+m)*i.bytes<=140737488355328) :
  ∃ (g c:Nat) (aU:List Value) (w':World),(Builtin.append_ #[t,u] ty #[os.val,x]).run P w=.ok (.slice (some ⟨g,0,none⟩) (os.n+m) c) w'/\aU.length=c*i.size/\os.n+m<=c/\c<=maxLen/\aU.take ((os.n+m)*i.size)=xs++b3 /\
   ((os.a=some g/\w'=w.setRow g aU.toArray)\/(g=w.heap.size/\w'=w.drew.alloc (.cells aU.toArray e (0,0)))):=by
 obtain⟨a,n,c,aU⟩:=os;have D3:(xs++b3).length=(n+m)*i.size:=by rw[cm,bi.len,aA,lT]
 have K3:∀ dK,(xs++b3++(Builtin.zeroCells z.cells (grownCap w (n+m) dK e-(n+m))).toList).length=grownCap w (n+m) dK e*i.size/\n+m<=grownCap w (n+m) dK e/\grownCap w (n+m) dK e<=maxLen /\
   (xs++b3++(Builtin.zeroCells z.cells (grownCap w (n+m) dK e-(n+m))).toList).take ((n+m)*i.size)=xs++b3:=by
  intro dK;have c8:=grownCap_ge w (n+m) dK e;have lX:grownCap w (n+m) dK e<=maxLen:=grownCap_le_maxLen w (n+m) dK e b1;refine⟨?_,c8,lX,?_⟩;·rw[cm,D3,x4,size_zeroCells,qF,<-lT];congr 1;omega
  ·rw[<-D3];exact wv
 have He:(match mu with | .int _=>true | _=>false)=false:=by cases mu<;>first | rfl | exact(n5 _ rfl).elim
 have iN:n+m<=9223372036854775807:=by simp only[maxLen]at b1;exact b1
 cases a with
 |none=>
  obtain⟨qG,zM⟩:=bi.nil rfl;simp only at qG zM;subst qG;subst zM;have ad:xs=[]:=iD (by simpa using bi.len);subst ad;simp only[dp,hX]at *;have aw:0<m:=hm;have aD:m≠0:=by omega
  have BT:¬ (9223372036854775807<(m:Int)):=by omega
  have BU:¬ (281474976710656<Builtin.nextslicecap m 0*i.bytes):=by rw[nextslicecap_zero aw];omega
  have aB:=eV w.drew rfl;obtain⟨a',bg,b5,gf⟩:=K3 0;refine⟨w.heap.size,grownCap w m 0 e,_,w.drew.alloc (.cells (b3++(Builtin.zeroCells z.cells (grownCap w m 0 e-m)).toList).toArray e),?_,a',bg,b5,gf,.inr ⟨rfl,rfl⟩⟩;simp[aQ.val,Builtin.append_,run_underlying au,run_underlying hu,sizeOf,typeInfo,zeroValue,hi,bd,cQ,aD,BT,BU,Question.forced,run_firstCells_none,aB,newRow,grownCap];congr 2;apply gX;simp
 |some g=>
  obtain⟨dm,m0,lX,m1⟩:=bi.cap g rfl;have Pl:=ax g rfl;simp only at dm m0 lX m1 Pl;by_cases u2:n+m<=c
  ·have iu:n*i.size+b3.length<=aU.length:=by rw[aA,dm,<-lT];exact qn _ u2
   have fa:=run_storeCells_at P g (n*i.size) e b3 0 aU.toArray w Pl (by simpa using iu) aa;simp only[pD]at fa;refine⟨g,c,aU.take (n*i.size)++b3++aU.drop (n*i.size+b3.length),_,?_,?_,u2,lX,?_,.inl ⟨rfl,rfl⟩⟩;·have aB:=eV w rfl;simp[aQ.val,Builtin.append_,run_underlying au,run_underlying hu,sizeOf,typeInfo,hi,cQ,u2,aB,Addr.add_lit,fa]
   ·simp only[cm,fR,qw];omega
   ·rw[m1,<-D3];exact wv
  ·have aD:¬ (n+m<=c):=by omega
   have BT:¬ (9223372036854775807<((n:Int)+(m:Int))):=by omega
   have BU:¬ (281474976710656<Builtin.nextslicecap (n+m) c*i.bytes):=by have:=growslice_fits (by omega:c<n+m) bW;omega
   have aB:=eV w.drew rfl;have BV:∀ j v,xs[j]?=some v->w.drew.cell? ((⟨g,0,none⟩:Addr).add j)=some v:=by
    intro j v ak;have u3:w.drew.heap[g]?=some (.cells aU.toArray e (0,0)):=Pl;rw[eO _ rfl,ts u3];rw[<-m1,k9]at ak;split at ak;·simpa using ak
    ·cases ak
   have Pm:=run_firstCells_some (P:=P) w.drew i.size n ⟨g,0,none⟩ n c xs bi.len BV;obtain⟨a',bg,b5,gf⟩:=K3 c;refine⟨w.heap.size,grownCap w (n+m) c e,_,w.drew.alloc (.cells (xs++b3++(Builtin.zeroCells z.cells (grownCap w (n+m) c e-(n+m))).toList).toArray e),?_,a',bg,b5,gf,.inr ⟨rfl,rfl⟩⟩;simp[aQ.val,Builtin.append_,run_underlying au,run_underlying hu,sizeOf,typeInfo,zeroValue,hi,bd,cQ,aD,BT,BU,Question.forced,aB,Pm,newRow,grownCap];congr 2;apply gX;simp
end
section
variable{X:c1}{β:Nat->Nat}{a:Act}{w:World}{F:Fr}{C:dO}{I:aJ}{M:List aF}{o:Oper}{K:gr}
def Pn(aO:cX X.P X.E){t:Nat}(aC:o.op=.call { callee:=.builtin .append,args:=#[s,x],argTypes:=#[t,u] })(ah:∀ d,o.dst=some d->d<X.n)
 (au:X.E t=some c6) (dz:c6.bQ=.slice e) (hu:X.E u=some lU) (fK:∀ k,lU.bQ≠.int k) (he:X.E e=some aG)
  (os:aQ) (bi:os.ok aG.size xs) (av:bH F s=.val os.val)
  {pK:Value} (ad:bH F x=.val pK) (hm:0<m) (aA:b3.length=m*aG.size) (aa:fJ b3=true)
  (cQ:∀ w',(Builtin.lenOf pK).run X.P w'=.ok m w') (eV:∀ w,eN I M w->(Builtin.firstCells aG.size m pK).run X.P w=.ok b3.toArray w)
 (bb:M.Perm (os.ar e++Mr)) (b1:os.n+m<=maxLen) (bW:(os.n+m)*aG.bytes<=140737488355328)
  (k:∀ (g c:Nat) (aU:List Value),I g=none->aU.length=c*aG.size->os.n+m<=c->c<=maxLen->aU.take ((os.n+m)*aG.size)=xs++b3 ->
   K (put o.dst (.val (.slice (some ⟨g,0,none⟩) (os.n+m) c)) F) C I (⟨g,.cells aU.toArray e (0,0)⟩::Mr)):bF X o F C I M K:=by
 refine⟨λa w Q ⟨β,iM⟩=>?_⟩;have aX:cL X β a w F C I (os.ar e++Mr):=iM.h7 (.perm bb .refl);obtain⟨inf,z,hi,fv,hW,ik,j4⟩:=(aO _ _ he).inf;obtain⟨d,fM,fk⟩:=(aO _ _ hu).ft;obtain⟨g2,iO,kS⟩:=(aO _ _ au).ft;have oO:g2=.slice e:=by rw[dz]at kS;cases g2<;>simp_all[fs]
 subst oO;have qF:z.cells.size=inf.size:=by rw[fv,<-(aO _ _ he).len,<-j4];simp
 rw[<-fv]at bi aA eV;obtain⟨g,c,aU,w',e',a',bg,b5,gf,n6⟩:=Pk (P:=X.P) (w:=w) t u o.type e inf z iO fM (λk cU=>fK k (by rw[<-fk,cU];rfl)) hi ik qF bi (λg ax=>aX.holds.m ⟨g,.cells os.aU.toArray e (0,0)⟩ (by simp[aQ.ar,ax])) (x:=pK) hm aA (zp aa) cQ (λw' yc=>eV w' (iM.holds.heap yc)) b1 (by rw[hW];exact bW);rw[fv]at a' gf;have zN:I g=none:=by
  rcases n6 with⟨ax,_⟩ | ⟨rfl,_⟩;·exact aX.holds.d ⟨g,.cells os.aU.toArray e (0,0)⟩ (by simp[aQ.ar,ax])
  ·cases bB:I w.heap.size with
   |none=>rfl| some nD=>have:=aX.holds.i _ _ bB;simp at this
 have es:=dh aX.an av;have ex:=dh aX.an ad;refine iJ (by rw[aC];simp) (v:=.slice (some ⟨g,0,none⟩) (os.n+m) c) (w':=w') ?_ ⟨_,_,_,_,⟨β,cL.put (x:=.val (.slice (some ⟨g,0,none⟩) (os.n+m) c)) ?_ ah rfl⟩,k g c aU zN a' bg b5 gf⟩
 ·unfold execOp;simp only[aC,resolve,invoke,builtin,cu,c7,bY,rz,ca,hH,es,ex,e']
 ·rcases n6 with⟨ax,rfl⟩ | ⟨rfl,rfl⟩
  ·have ag:os.ar e=[⟨g,.cells os.aU.toArray e (0,0)⟩]:=by simp[aQ.ar,ax]
   rw[ag]at aX;exact aX.xU (a9:=[]) (post:=Mr) rfl
  ·have ab:cL X β a w.drew F C I (os.ar e++Mr):=aX.world rfl;have ai:=ab.n2 (.cells aU.toArray e (0,0));refine ai.h7 (.sub ?_ .refl);exact List.Sublist.cons_cons _ (mT _ _)
def bF.append(aO:cX X.P X.E){t:Nat}(aC:o.op=.call { callee:=.builtin .append,args:=#[s,x],argTypes:=#[t,t] })(ah:∀ d,o.dst=some d->d<X.n)
 (au:X.E t=some c6) (dz:c6.bQ=.slice e) (he:X.E e=some aG)
  (os:aQ) (bi:os.ok aG.size xs) (av:bH F s=.val os.val)
 (ad:bH F x=.val (.slice (some aP) m c')) (hm:0<m) (aD:cY I M aP (m*aG.size) b3) (aa:fJ b3=true)
 (bb:M.Perm (os.ar e++Mr)) (b1:os.n+m<=maxLen) (bW:(os.n+m)*aG.bytes<=140737488355328)
  (k:∀ (g c:Nat) (aU:List Value),aU.length=c*aG.size->os.n+m<=c->c<=maxLen->aU.take ((os.n+m)*aG.size)=xs++b3 ->
   K (put o.dst (.val (.slice (some ⟨g,0,none⟩) (os.n+m) c)) F) C I (⟨g,.cells aU.toArray e (0,0)⟩::Mr)):bF X o F C I M K:=by
 refine Pn aO aC ah au dz au (λk=>by rw[dz];simp) he os bi av ad hm ?_ aa (λ_=>rfl) (λw hw=>?_) bb b1 bW (λg c aU _=>k g c aU)
 ·obtain⟨_,_,_,_,_,_,h⟩:=aD;exact h
 ·obtain⟨de,cs,T,an,fh,aj,aA⟩:=aD;refine run_firstCells_some (P:=X.P) w aG.size m aP m c' b3 aA λj v ak=>?_;rw[eO _ de,ts (fh.heap hw)];rw[<-aj,k9]at ak;split at ak
  ·rw[nw]at ak;simpa using ak
  ·cases ak
def bF.WN(aO:cX X.P X.E){t:Nat}(aC:o.op=.call { callee:=.builtin .append,args:=#[s,x],argTypes:=#[t,t] })(ah:∀ d,o.dst=some d->d<X.n)
 (au:X.E t=some c6) (dz:c6.bQ=.slice e) (he:X.E e=some aG)
  (os:aQ) (bi:os.ok aG.size xs) (av:bH F s=.val os.val)
 (ad:bH F x=.val (.slice (some aP) m c')) (hm:0<m) (aD:cY I M aP (m*aG.size) b3) (aa:fJ b3=true)
 (bb:M.Perm (os.ar e++Mr)) (b1:os.n+m<=maxLen) (bW:(os.n+m)*aG.bytes<=140737488355328)
  (k:∀ (g c:Nat) (aU:List Value),I g=none->aU.length=c*aG.size->os.n+m<=c->c<=maxLen->aU.take ((os.n+m)*aG.size)=xs++b3 ->
   K (put o.dst (.val (.slice (some ⟨g,0,none⟩) (os.n+m) c)) F) C I (⟨g,.cells aU.toArray e (0,0)⟩::Mr)):bF X o F C I M K:=by
 refine Pn aO aC ah au dz au (λk=>by rw[dz];simp) he os bi av ad hm ?_ aa (λ_=>rfl) (λw hw=>?_) bb b1 bW k
 ·obtain⟨_,_,_,_,_,_,h⟩:=aD;exact h
 ·obtain⟨de,cs,T,an,fh,aj,aA⟩:=aD;refine run_firstCells_some (P:=X.P) w aG.size m aP m c' b3 aA λj v ak=>?_;rw[eO _ de,ts (fh.heap hw)];rw[<-aj,k9]at ak;split at ak
  ·rw[nw]at ak;simpa using ak
  ·cases ak
def lu(s:ByteArray):List Value:=s.data.toList.map λb=>.int .u8 b.toNat
def bF.aiG(aO:cX X.P X.E){t:Nat}(aC:o.op=.call { callee:=.builtin .append,args:=#[s,x],argTypes:=#[t,u] })(ah:∀ d,o.dst=some d->d<X.n)
 (au:X.E t=some c6) (dz:c6.bQ=.slice e) (hu:X.E u=some lU) (fK:lU.bQ=.string) (he:X.E e=some aG) (dk:aG.size=1)
  (os:aQ) (bi:os.ok aG.size xs) (av:bH F s=.val os.val)
  {str:ByteArray} (ad:bH F x=.val (.string str)) (hm:0<str.size)
 (bb:M.Perm (os.ar e++Mr)) (b1:os.n+str.size<=maxLen) (bW:(os.n+str.size)*aG.bytes<=140737488355328)
  (k:∀ (g c:Nat) (aU:List Value),aU.length=c*aG.size->os.n+str.size<=c->c<=maxLen->aU.take ((os.n+str.size)*aG.size)=xs++lu str ->
   K (put o.dst (.val (.slice (some ⟨g,0,none⟩) (os.n+str.size) c)) F) C I (⟨g,.cells aU.toArray e (0,0)⟩::Mr)):bF X o F C I M K:=by
 refine Pn aO aC ah au dz hu (λk=>by rw[fK];simp) he os bi av ad hm ?_ ?_ (λ_=>rfl) (λw hw=>?_) bb b1 bW (λg c aU _=>k g c aU)
 ·simp[lu,dk]
 ·refine fV.2 λv aj=>?_;obtain⟨b,_,rfl⟩:=c0.1 aj;rfl
 ·simp only[Builtin.firstCells,c7];congr 1;apply gX;have aK:str.extract 0 str.size=str:=by apply we;simp[Ks]
  simp[lu,aK]
end
section
variable{X:c1}{F:Fr}{C:dO}{I:aJ}{M:List aF}{o:Oper}{K:gr}
def WO{t:Nat}(au:P.underlying t=some (.array 4 e)){k:IntKind}(he:P.underlying e=some (.int k)){inf:TypeInfo}(hi:P.info? e=some inf)(av:inf.size=1)(gd cN ej ek qH b1 bW dA:Int)(w:World) :
  (Op.equal t (.agg #[.int k gd,.int k cN,.int k ej,.int k ek]) (.agg #[.int k qH,.int k b1,.int k bW,.int k dA])).run P w=.ok (gd == qH&&(cN == b1&&(ej == bW&&ek == dA))) w:=by
 have WQ:∀ (xs:Array Value) (i:Nat) (v:Value) (w:World),xs[i]?=some v->(part e xs i).run P w=.ok v w:=λxs i v w h=>by
  have GA:(isAgg e).run P w=.ok false w:=by unfold isAgg;simp[run_underlying he]
  unfold part;simp[GA,sizeOf,typeInfo,hi,av,h]
 have hint:∀ (d:Nat) (x y:Int) (w:World),(Op.equalIn (d+1) e (.int k x) (.int k y)).run P w=.ok (x == y) w:=λd x y w=>by simp[Op.equalIn,run_underlying he]
 have key:∀ m,(∀ (x y:Int) (w:World),(Op.equalIn m e (.int k x) (.int k y)).run P w=.ok (x == y) w)->(Op.equalIn (m+1) t (.agg #[.int k gd,.int k cN,.int k ej,.int k ek]) (.agg #[.int k qH,.int k b1,.int k bW,.int k dA])).run P w=.ok (gd == qH&&(cN == b1&&(ej == bW&&ek == dA))) w:=λm hint=>by
  rw[Op.equalIn];simp only[cu,run_underlying au,bY,sizeOf,typeInfo,hi,run_program,c7,av];simp only[Wb];have af:List.range' 0 ([:4]:Std.Legacy.Range).size=[0,1,2,3]:=by decide
  rw[af];have pa:=λ(i:Nat) (v:Value) (w:World)=>WQ #[.int k gd,.int k cN,.int k ej,.int k ek] i v w;have K4:=λ(i:Nat) (v:Value) (w:World)=>WQ #[.int k qH,.int k b1,.int k bW,.int k dA] i v w;simp only[List.forIn_cons,List.forIn_nil,cu];rw[pa (0*1) (.int k gd) w rfl];simp only[bY,cu];rw[K4 (0*1) (.int k qH) w rfl];simp only[bY,cu];rw[hint];simp only[bY];cases(gd == qH);·simp
  simp only[wx,k',mh,c7,bY,cu];rw[pa (1*1) (.int k cN) w rfl];simp only[bY,cu];rw[K4 (1*1) (.int k b1) w rfl];simp only[bY,cu];rw[hint];simp only[bY];cases(cN == b1);·simp
  simp only[wx,k',mh,c7,bY,cu];rw[pa (2*1) (.int k ej) w rfl];simp only[bY,cu];rw[K4 (2*1) (.int k bW) w rfl];simp only[bY,cu];rw[hint];simp only[bY];cases(ej == bW);·simp
  simp only[wx,k',mh,c7,bY,cu];rw[pa (3*1) (.int k ek) w rfl];simp only[bY,cu];rw[K4 (3*1) (.int k dA) w rfl];simp only[bY,cu];rw[hint];simp only[bY];cases(ek == dA);·simp
  simp
 exact key 9999 (hint 9998)
def fW.Po{E:Env}(aO:cX P E){t:Nat}(au:E t=some c6)(dz:c6.bQ=.array 4 e)(he:E e=some aG){k:IntKind}(kr:aG.bQ=.int k)(ax:P.eqGuardType P.depth t=false){gd cN ej ek qH b1 bW dA:Int}{V:Value->Prop}
  (h:V (.bool (gd == qH&&(cN == b1&&(ej == bW&&ek == dA))))):fW P .eql t x y (.val (.agg #[.int k gd,.int k cN,.int k ej,.int k ek])) (.val (.agg #[.int k qH,.int k b1,.int k bW,.int k dA])) V other:=by
 obtain⟨d,fM,fk⟩:=(aO _ _ au).ft;obtain⟨qI,Pp,Pq⟩:=(aO _ _ he).ft;obtain⟨inf,z,hi,fv,_⟩:=(aO _ _ he).inf;have aa:d=.array 4 e:=by rw[dz]at fk;cases d<;>simp_all[fs]
 have ab:qI=.int k:=by rw[kr]at Pq;cases qI<;>simp_all[fs]
 subst aa;subst ab;have gj:inf.size=1:=by rw[fv];exact(aO _ _ he).Kw (by rw[kr];rfl)
 refine .mk _ _ _ rfl rfl (λw=>?_) h;simp only[cu,run_eqGuard_agg (hm:=ax),bY,binOp,WO fM Pp hi gj,c7]
def fW.concat{t:Nat}{a b:ByteArray}(av:a.size+b.size<=9223372036854775807){V:Value->Prop}(h:V (.string (a++b))):fW P .add t x y (.val (.string a)) (.val (.string b)) V other:=by refine .mk _ _ _ rfl rfl (λw=>?_) h;simp only[cu,OQ,bY,binOp,run_string_add_sum _ _ _ av,c7]
end
section
variable{X:c1}{β:Nat->Nat}{a:Act}{w:World}{F:Fr}{C:dO}{I:aJ}{M:List aF}{o:Oper}{K:gr}
def cL.WR{n:Nat}{nD:Obj}(h:cL X β a w F C I (⟨n,nD⟩::M))(av:w'.heap.size=w.heap.size)(ag:∀ b,b≠n->w'.heap[b]?=w.heap[b]?)(aC:oB w w'):cL X β a w' F C I M:=by
 have fQ:(⟨n,nD⟩:aF)∈(⟨n,nD⟩:aF)::M:=by simp
 have bV:=h.holds.bX;simp only[ca,mg]at bV;exact {
  size:=h.size
  defers:=h.defers.mono λr af=>by have bD:n≠r:=af.e6 _ fQ;refine { af with aY:=?_,e6:=λx ad=>af.e6 x (by simp[ad]) };rw[ag r (su bD)];exact af.aY
  holds:={
   i:=λb o iL=>by rw[ag b (λe=>by have:=h.holds.d _ fQ;simp only at this;rw[e,this]at iL;cases iL)];exact h.holds.i b o iL
   m:=λx ad=>by rw[ag _ (λe=>bV.1 (c0.2 ⟨x,ad,e⟩))];exact h.holds.m x (by simp[ad])
   d:=λx ad=>h.holds.d x (by simp[ad])
   bX:=bV.2 }
  an:=h.an
  cr:=λs cs lS=>by have uS:=h.cr s cs lS;have bD:n≠β s:=uS.e6 _ fQ;obtain⟨T,bl⟩:=uS.aY;refine { uS with aY:=⟨T,?_⟩,e6:=λx ad=>uS.e6 x (by simp[ad]) };rw[ag _ (su bD)];exact bl
  inj:=h.inj
  ij:=h.ij
  hU:=h.hU
  own:=λx ad=>h.own x (by simp[ad])
  dK:=λb a4 aB=>by
   rw[ag b (λe=>by
    rcases h.own _ fQ with aa | aa;·simp only at aa;exact aB (e ▸ aa)
    ·simp only at aa;omega)]
   exact h.dK b a4 aB
  out:=h.out.trans aC
  sz:=by rw[av];exact h.sz
  fy:=h.fy }
def aiH(w:World)(p:Addr)(n:Nat):(w.freeze p n).heap.size=w.heap.size:=by
 unfold World.freeze;split<;>simp
def aiI(w:World)(p:Addr)(n:Nat):oB w (w.freeze p n):=by
 unfold World.freeze;split<;>exact⟨rfl,rfl⟩
def aiJ(w:World)(p:Addr)(n b:Nat)(h:b≠p.block):(w.freeze p n).heap[b]?=w.heap[b]?:=by
 unfold World.freeze;split
 ·rfl
 ·simp only[Array.getElem?_modify];rw[bP (su h)]
def bF.Pr(aO:cX X.P X.E){n:Operand}(aC:o.op=.call { callee:=.builtin .unsafeString,args:=#[p,n],argTypes:=#[uU,it] })(ah:∀ d,o.dst=some d->d<X.n)
 (au:X.E uU=some c6) (dz:c6.bQ=.pointer e) (he:X.E e=some aG) (kr:aG.size=1)
 {l:List UInt8} (aH:bH F p=.val (.pointer (some ⟨g,0,none⟩))) (aD:bH F n=.val (.int .i64 l.length)) (aw:l≠[]) (Ps:l.length<=9223372036854775807)
 (bb:M.Perm (⟨g,.cells cs e (0,0)⟩::Mr)) (lS:cs.toList.take l.length=l.map λb=>.int .u8 b.toNat)
  (h:K (put o.dst (.val (.string ⟨l.toArray⟩)) F) C I Mr):bF X o F C I M K:=by
 refine⟨λa w Q ⟨β,iM⟩=>?_⟩;have aX:cL X β a w F C I (⟨g,.cells cs e (0,0)⟩::Mr):=iM.h7 (.perm bb .refl);have ax:w.heap[g]?=some (.cells cs e (0,0)):=aX.holds.m ⟨g,.cells cs e (0,0)⟩ (by simp);obtain⟨d,fM,fk⟩:=(aO _ _ au).ft;have aa:d=.pointer e:=by rw[dz]at fk;cases d<;>simp_all[fs]
 subst aa;obtain⟨inf,z,hi,fv,_⟩:=(aO _ _ he).inf;have ao:X.P.cellsOf e=1:=by simp[Program.cellsOf,hi,fv,kr]
 have cQ:l.length<=cs.size:=by have:=congrArg List.length lS;simp only[fR,bE,x4]at this;omega
 have e':=Lib.run_unsafeString_row (P:=X.P) w uU it o.type e fM ao g cs.size (by simp[World.shape?,ax]) l aw cQ Ps (λj x ak=>by
  rw[eO _ rfl,ts ax];have ab:(cs.toList.take l.length)[j]?=some (.int .u8 x.toNat):=by rw[lS];simp[ak]
  rw[k9]at ab;split at ab;·simpa using ab
  ·cases ab)
 have Pt:=dh aX.an aH;have e8:=dh aX.an aD;refine iJ (by rw[aC];simp) (v:=.string ⟨l.toArray⟩) (w':=w.freeze ⟨g,0,none⟩ l.length) ?_ ⟨_,_,_,_,⟨β,cL.put (x:=.val (.string ⟨l.toArray⟩)) (aX.WR (aiH _ _ _) (λb ag=>aiJ _ _ _ _ ag) (aiI _ _ _)) ah rfl⟩,h⟩;unfold execOp;simp only[aC,resolve,invoke,builtin,cu,c7,bY,rz,ca,hH,Pt,e8,e']
def bF.WS{n:Operand}(aC:o.op=.call { callee:=.builtin .unsafeString,args:=#[p,n],argTypes:=#[uU,it] })(ah:∀ d,o.dst=some d->d<X.n)
  {q:Option Addr} (aH:bH F p=.val (.pointer q)) (aD:bH F n=.val (.int .i64 0)) (h:K (put o.dst (.val (.string .empty)) F) C I M):bF X o F C I M K:=by
 refine⟨λa w Q ⟨β,aX⟩=>?_⟩;have Pt:=dh aX.an aH;have e8:=dh aX.an aD;refine wk aX ah (by rw[aC];simp) ?_ h;unfold execOp;simp only[aC,resolve,invoke,builtin,cu,c7,bY,rz,ca,hH,Pt,e8,Lib.run_unsafeString_none]
def bF.WT(aO:cX X.P X.E){t:Nat}(aC:o.op=.call { callee:=.builtin .copy,args:=#[x,y],argTypes:=#[t,u] })(ah:∀ d,o.dst=some d->d<X.n)
 (au:X.E t=some c6) (dz:c6.bQ=.slice e) (he:X.E e=some aG) (kr:aG.size=1)
 {off dl WU:Nat} {s:ByteArray} {T:Nat} (ad:bH F x=.val (.slice (some ⟨g,off,none⟩) dl WU)) (aE:bH F y=.val (.string s)) (bk:s.size<=dl) (iu:off+s.size<=cs.size)
 (bb:M.Perm (⟨g,.cells cs T (0,0)⟩::Mr))
  (h:K (put o.dst (.val (.int .i64 s.size)) F) C I (⟨g,.cells (cq cs.toList off (lu s)).toArray T (0,0)⟩::Mr)):bF X o F C I M K:=by
 refine⟨λa w Q ⟨β,iM⟩=>?_⟩;have aX:cL X β a w F C I (⟨g,.cells cs T (0,0)⟩::Mr):=iM.h7 (.perm bb .refl);have ax:w.heap[g]?=some (.cells cs T (0,0)):=aX.holds.m ⟨g,.cells cs T (0,0)⟩ (by simp);obtain⟨d,fM,fk⟩:=(aO _ _ au).ft;have aa:d=.slice e:=by rw[dz]at fk;cases d<;>simp_all[fs]
 subst aa;obtain⟨inf,z,hi,fv,_⟩:=(aO _ _ he).inf;have aA:(lu s).length=s.size:=by simp[lu]
 have aa:∀ v∈lu s,v.oneCell'=true:=λv aj=>by obtain⟨b,_,rfl⟩:=c0.1 aj;rfl
 have fa:=run_storeCells_at X.P g off T (lu s) 0 cs w ax (by rw[aA];simpa using iu) aa;simp only[pD]at fa;have aiK:Nat.min s.size dl=s.size:=pC bk;have aB:(Builtin.firstCells inf.size s.size (.string s)).run X.P w=.ok (lu s).toArray w:=Wd w inf.size s;have ex:=dh aX.an ad;have oP:=dh aX.an aE;have m3:=aX.xU (a9:=[]) (post:=Mr) (cs':=(cq cs.toList off (lu s)).toArray) rfl;refine iJ (by rw[aC];simp) (v:=.int .i64 s.size) (w':=w.setRow g (cq cs.toList off (lu s)).toArray) ?_ ⟨_,_,_,_,⟨β,cL.put (x:=.val (.int .i64 s.size)) m3 ah rfl⟩,h⟩;have e':(Builtin.copy_ #[t,u] o.type #[.slice (some ⟨g,off,none⟩) dl WU,.string s]).run X.P w=.ok (.int .i64 s.size) (w.setRow g (cq cs.toList off (lu s)).toArray):=by simp[Builtin.copy_,run_underlying fM,Builtin.lenOf,aiK,sizeOf,typeInfo,hi,aB,fa,cq,goInt]
 unfold execOp;simp only[aC,resolve,invoke,builtin,cu,c7,bY,rz,ca,hH,ex,oP,e']
end
structure cD(I:aJ)(a:Option Addr)(n c size b:Nat)(vs:List Value):Prop where
 len:vs.length=n*size
 cap:n<=c/\n*b<=140737488355328
 rd:n=0\/∃ aP,a=some aP/\aP.spot=none/\∃ cs T an,I aP.block=some (.cells cs T an)/\(cs.toList.drop aP.off).take (n*size)=vs
def cD.mono{I:aJ}{n b:Nat}(h:cD I a n c size b vs)(bB:∀ b o,I b=some o->I' b=some o):cD I' a n c size b vs:=
 ⟨h.len,h.cap,h.rd.imp id λ⟨aP,aa,ab,cs,T,an,ai,aL⟩=>⟨aP,aa,ab,cs,T,an,bB _ _ ai,aL⟩⟩
def cD.idx{I:aJ}{n b:Nat}(h:cD I a n c size b vs){j:Nat}(ak:j<n) :
  ∃ aP,a=some aP/\∀ M,cY I M (aP.add (j*size)) size ((vs.drop (j*size)).take size):=by
 obtain⟨aA,_,aw | ⟨aP,a6,av,cs,T,an,bB,aj⟩⟩:=h
 ·omega
 ·refine⟨aP,a6,λM=>?_⟩;have bk:j*size+size<=n*size:=by have:=qn size (show j+1<=n from ak);rw[lT,oI]at this;exact this
  refine⟨by rw[eO _ av],cs,T,an,.inl (by rw[eO _ av];exact bB),?_,?_⟩;·rw[eO _ av,<-aj,DT,DU,zA];congr 1;omega
  ·rw[fR,qw,aA];omega
def cD.one{I:aJ}{n b:Nat}{f:α->Value}{l:List α}(h:cD I a n c 1 b (l.map f)){j:Nat}(ak:j<n)(jM:j<l.length) :
  ∃ aP,a=some aP/\∀ M,cY I M (aP.add (j*1)) 1 [f l[j]]:=by
 obtain⟨aP,aa,ab⟩:=h.idx ak;refine⟨aP,aa,λM=>?_⟩;have:=ab M;rw[gP,<-KR,<-KS,fi jM,ry,qx]at this;rw[gP];exact this
def D4{α:Type}(f:α->List Value)(size:Nat)(aB:∀ x,(f x).length=size):∀ (l:List α) (j:Nat) (ak:j<l.length),((l.flatMap f).drop (j*size)).take size=f l[j]
 |x::l,0,_=>by simp only[jf,zB,tA,tw];rw[<-aB x];exact wv
 |x::l,j+1,ak=>by have aN:=D4 f size aB l j (by simpa using ak);simp only[jf,GS];rw[<-aN,show(j+1)*size=(f x).length+j*size from by rw[aB,lT];omega,Wc]
def gL{α:Type}(f:α->List Value)(size:Nat)(aB:∀ x,(f x).length=size):∀ (l:List α),(l.flatMap f).length=l.length*size
 |[]=>by simp
 |x::l=>by simp[gL f size aB l,aB x,lT];omega
def cD.row{I:aJ}{n b:Nat}{f:α->List Value}(aB:∀ x,(f x).length=size){l:List α}(h:cD I a n c size b (l.flatMap f)){j:Nat}(ak:j<n)(jM:j<l.length) :
  ∃ aP,a=some aP/\∀ M,cY I M (aP.add (j*size)) size (f l[j]):=by
 obtain⟨aP,aa,ab⟩:=h.idx ak;refine⟨aP,aa,λM=>?_⟩;have:=ab M;rwa [D4 f size aB l j jM]at this
def cY.part{I:aJ}{a:Addr}{n k:Nat}(h:cY I M a n vs)(ae:k+m<=n):cY I M (a.add k) m ((vs.drop k).take m):=by
 obtain⟨av,cs,T,an,aa,ab,ai⟩:=h;refine⟨by rw[eO _ av],cs,T,an,by rw[eO _ av];exact aa,?_,?_⟩
 ·rw[eO _ av,<-ab,DT,DU,zA];congr 1;omega
 ·rw[fR,qw,ai];omega
structure al where
 k:Int
 cz:Int
 s1:Int
 s2:Int
 cV:Int
 t:ByteArray
 lo:Int
 hi:Int
 cf:Option Addr
 az:Nat
 cx:Nat
 aq:List Int
def al.cells(d:al):List Value:=[.int .u8 d.k,.int .u64 d.cz,.int .u64 d.s1,.int .u64 d.s2,.int .u64 d.cV,.string d.t,.int .i64 d.lo,.int .i64 d.hi,.slice d.cf d.az d.cx]
def al.val(d:al):Value:=.agg #[.int .u8 d.k,.int .u64 d.cz,.int .u64 d.s1,.int .u64 d.s2,.int .u64 d.cV,.string d.t,.int .i64 d.lo,.int .i64 d.hi,.slice d.cf d.az d.cx]
def ha(x:Int):Prop:=-9223372036854775808<=x/\x<=9223372036854775807
def fl(x:Int):Prop:=0<=x/\x<18446744073709551616
structure al.ok(I:aJ)(d:al):Prop where
 k:0<=d.k/\d.k<256
 cz:fl d.cz
 s1:fl d.s1
 s2:fl d.s2
 cV:fl d.cV
 t:d.t.size<=9223372036854775807
 lo:ha d.lo
 hi:ha d.hi
 ba:cD I d.cf d.az d.cx 1 8 (d.aq.map (.int .i64 ·))
 aq:∀ x∈d.aq,ha x
def al.cH(d:al):d.cells.length=9:=rfl
def al.ok.az{I:aJ}{d:al}(h:d.ok I):d.aq.length=d.az:=by have:=h.ba.len;simpa using this
structure bn where
 ns:List al
 a:Option Addr
 n:Nat
 c:Nat
 br:Int
def bn.cells(t:bn):List Value:=[.slice t.a t.n t.c,.int .i64 t.br]
def bn.val(t:bn):Value:=.agg #[.slice t.a t.n t.c,.int .i64 t.br]
structure bn.ok(I:aJ)(t:bn):Prop where
 ba:cD I t.a t.n t.c 9 96 (t.ns.flatMap al.cells)
 ns:∀ d∈t.ns,d.ok I
 br:ha t.br
def bn.ok.n{I:aJ}{t:bn}(h:t.ok I):t.ns.length=t.n:=by have:=h.ba.len;rw[gL _ 9 al.cH]at this;omega
structure a0 where
 name:ByteArray
 t:bn
def a0.cells(d:a0):List Value:=[.string d.name,.slice d.t.a d.t.n d.t.c,.int .i64 d.t.br]
structure a0.ok(I:aJ)(d:a0):Prop where
 name:d.name.size<=140737488355328
 t:d.t.ok I
def a0.cH(d:a0):d.cells.length=3:=rfl
structure cg where
 ds:List a0
 a:Option Addr
 n:Nat
 c:Nat
def cg.val(g:cg):Value:=.agg #[.slice g.a g.n g.c]
structure cg.ok(I:aJ)(g:cg):Prop where
 ba:cD I g.a g.n g.c 3 48 (g.ds.flatMap a0.cells)
 ds:∀ d∈g.ds,d.ok I
def cg.ok.n{I:aJ}{g:cg}(h:g.ok I):g.ds.length=g.n:=by have:=h.ba.len;rw[gL _ 3 a0.cH]at this;omega
def al.ok.mono{I:aJ}{d:al}(h:d.ok I)(bB:∀ b o,I b=some o->I' b=some o):d.ok I':={ h with ba:=h.ba.mono bB }
def bn.ok.mono{I:aJ}{t:bn}(h:t.ok I)(bB:∀ b o,I b=some o->I' b=some o):t.ok I':=⟨h.ba.mono bB,λd ah=>(h.ns d ah).mono bB,h.br⟩
def a0.ok.mono{I:aJ}{d:a0}(h:d.ok I)(bB:∀ b o,I b=some o->I' b=some o):d.ok I':=⟨h.name,h.t.mono bB⟩
def cg.ok.mono{I:aJ}{g:cg}(h:g.ok I)(bB:∀ b o,I b=some o->I' b=some o):g.ok I':=⟨h.ba.mono bB,λd ah=>(h.ds d ah).mono bB⟩
def wrap_i64{x:Int}(h:ha x):IntKind.i64.wrap x=x:=by obtain⟨aa,ab⟩:=h;unfold IntKind.wrap;simp only[IntKind.bits,IntKind.signed];simp;omega
open Go Go.Proofs
def a2(t n:Nat)(a b:Option dR):Option dR:=bif Nat.blt t n then a else b
def u4(n:Nat):Option dR:=some ⟨1,8,[.pointer none],.pointer n⟩
def kt(n:Nat):Option dR:=some ⟨1,24,[.slice none 0 0],.slice n⟩
def hY:Option dR:=none
def bR:Option dR:=some ⟨1,8,[.nilFunc],.other⟩
def Pu:Option dR:=some ⟨1,8,[.int .i64 0],.int .i64⟩
def K5:Option dR:=some ⟨1,1,[.int .u8 0],.int .u8⟩
def WV:Option dR:=some ⟨1,16,[.string ⟨#[]⟩],.string⟩
def Pv:Option dR:=some ⟨1,8,[.int .u64 0],.int .u64⟩
def WW:Option dR:=some ⟨2,24,[.string ⟨#[]⟩,.int .u64 0],.struct [(9,0),(12,1)]⟩
def WX:Option dR:=some ⟨1,4,[.int .i32 0],.int .i32⟩
def WY:Option dR:=some ⟨1,24,[.slice none 0 0],.struct [(28,0)]⟩
def WZ:Option dR:=some ⟨5,48,[.int .u8 0,.int .u8 0,.int .i64 0,.slice none 0 0,.int .i64 0],.struct [(5,0),(5,1),(3,2),(38,3),(3,4)]⟩
def Pw:Option dR:=some ⟨2,32,[.int .i64 0,.slice none 0 0],.struct [(3,0),(38,1)]⟩
def W0:Option dR:=some ⟨9,96,[.int .u8 0,.int .u64 0,.int .u64 0,.int .u64 0,.int .u64 0,.string ⟨#[]⟩,.int .i64 0,.int .i64 0,.slice none 0 0],.struct [(5,0),(62,1),(9,5),(3,6),(3,7),(38,8)]⟩
def W1:Option dR:=some ⟨3,40,[.bool false,.int .i64 0,.slice none 0 0],.struct [(4,0),(3,1),(100,2)]⟩
def W2:Option dR:=some ⟨5,112,[.string ⟨#[]⟩,.slice none 0 0,.slice none 0 0,.slice none 0 0,.slice none 0 0],.struct [(9,0),(165,1),(38,2),(54,3),(167,4)]⟩
def W3:Option dR:=some ⟨8,160,[.slice none 0 0,.int .i64 0,.int .i64 0,.slice none 0 0,.slice none 0 0,.slice none 0 0,.slice none 0 0,.slice none 0 0],.struct [(180,0),(3,1),(3,2),(54,3),(181,4),(28,5),(180,6),(180,7)]⟩
def W4:Option dR:=some ⟨66,528,[.int .i64 0,.int .u64 0,.int .u64 0,.int .u64 0,.int .u64 0,.int .u64 0,.int .u64 0,.int .u64 0,.int .u64 0,.int .u64 0,.int .u64 0,.int .u64 0,.int .u64 0,.int .u64 0,.int .u64 0,.int .u64 0,.int .u64 0,.int .u64 0,.int .u64 0,.int .u64 0,.int .u64 0,.int .u64 0,.int .u64 0,.int .u64 0,.int .u64 0,.int .u64 0,.int .u64 0,.int .u64 0,.int .u64 0,.int .u64 0,.int .u64 0,.int .u64 0,.int .u64 0,.int .u64 0,.int .u64 0,.int .u64 0,.int .u64 0,.int .u64 0,.int .u64 0,.int .u64 0,.int .u64 0,.int .u64 0,.int .u64 0,.int .u64 0,.int .u64 0,.int .u64 0,.int .u64 0,.int .u64 0,.int .u64 0,.int .u64 0,.int .u64 0,.int .u64 0,.int .u64 0,.int .u64 0,.int .u64 0,.int .u64 0,.int .u64 0,.int .u64 0,.int .u64 0,.int .u64 0,.int .u64 0,.int .u64 0,.int .u64 0,.int .u64 0,.int .u64 0,.int .u64 0],.struct [(3,0),(203,1),(60,65)]⟩
def W5:Option dR:=some ⟨1,24,[.slice none 0 0],.struct [(54,0)]⟩
def Px:Option dR:=some ⟨2,16,[.int .i64 0,.int .i64 0],.struct [(3,0),(3,1)]⟩
def Py:Option dR:=some ⟨3,3,[.bool false,.bool false,.bool false],.struct [(4,0),(4,1),(4,2)]⟩
def W6:Option dR:=some ⟨2,32,[.pointer none,.slice none 0 0],.struct [(318,0),(37,1)]⟩
def W7:Option dR:=some ⟨4,40,[.pointer none,.pointer none,.pointer none,.string ⟨#[]⟩],.struct [(17,0),(17,1),(17,2),(9,3)]⟩
def sJ:Env:=λt=>bif Nat.blt t 437 then(a2 t 218 (a2 t 109 (a2 t 54 (a2 t 27 (a2 t 13 (a2 t 6 (a2 t 3 (a2 t 1 hY (a2 t 2 bR Pu)) (a2 t 4 Pu (a2 t 5 (some ⟨1,1,[.bool false],.bool⟩) K5))) (a2 t 9 (a2 t 7 K5 (some ⟨4,24,[.int .i64 0,.int .i64 0,.bool false,.int .u8 0],.struct [(2,0),(3,1),(4,2),(6,3)]⟩)) (a2 t 11 WV (a2 t 12 WV Pv)))) (a2 t 20 (a2 t 16 (a2 t 14 WW (a2 t 15 WW (u4 426))) (a2 t 18 (a2 t 17 (u4 429) (u4 436)) (some ⟨1,8,[.pointer none],.struct [(17,0)]⟩))) (a2 t 23 (a2 t 21 (some ⟨1,16,[.nilIface],.other⟩) (a2 t 22 WX bR)) (a2 t 25 bR (a2 t 26 (some ⟨4,32,[.int .i64 0,.int .i64 0,.int .i64 0,.int .i64 0],.array 4 3⟩) (kt 25)))))) (a2 t 40 (a2 t 33 (a2 t 30 (a2 t 28 bR (a2 t 29 (kt 59) WY)) (a2 t 31 WY (a2 t 32 bR Pu))) (a2 t 36 (a2 t 34 hY bR) (a2 t 38 (a2 t 37 bR (kt 5)) (a2 t 39 (kt 3) WZ)))) (a2 t 47 (a2 t 43 (a2 t 41 WZ (a2 t 42 bR (kt 40))) (a2 t 45 bR (a2 t 46 hY bR))) (a2 t 50 (a2 t 48 bR (a2 t 49 hY bR)) bR)))) (a2 t 81 (a2 t 67 (a2 t 60 (a2 t 57 (a2 t 55 (kt 82) (some ⟨2,32,[.slice none 0 0,.int .i64 0],.struct [(54,0),(3,1)]⟩)) (a2 t 58 bR (some ⟨3,48,[.string ⟨#[]⟩,.slice none 0 0,.int .i64 0],.struct [(9,0),(56,1)]⟩))) (a2 t 63 (a2 t 61 Pv (some ⟨4,32,[.int .u64 0,.int .u64 0,.int .u64 0,.int .u64 0],.array 4 60⟩)) (a2 t 65 (a2 t 64 hY bR) bR))) (a2 t 74 (a2 t 70 (a2 t 68 bR (a2 t 69 bR (kt 56))) bR) (a2 t 77 (a2 t 75 (kt 77) (a2 t 76 bR Pw)) (a2 t 79 (a2 t 78 Pw hY) bR)))) (a2 t 95 (a2 t 88 (a2 t 84 (a2 t 82 W0 (a2 t 83 W0 bR)) (a2 t 86 bR (a2 t 87 hY bR))) (a2 t 91 (a2 t 89 bR (a2 t 90 (some ⟨5,56,[.string ⟨#[]⟩,.string ⟨#[]⟩,.int .u8 0,.bool false,.string ⟨#[]⟩],.struct [(9,0),(9,1),(5,2),(4,3),(9,4)]⟩) (kt 89))) bR)) (a2 t 102 (a2 t 98 (a2 t 96 bR (a2 t 97 bR (u4 169))) (a2 t 100 (a2 t 99 hY bR) (a2 t 101 (kt 175) W1))) (a2 t 105 (a2 t 103 W1 (a2 t 104 hY bR)) (a2 t 107 bR (a2 t 108 bR hY))))))) (a2 t 163 (a2 t 136 (a2 t 122 (a2 t 115 bR (a2 t 118 (a2 t 116 (kt 117) (a2 t 117 bR Pw)) bR)) (a2 t 129 bR (a2 t 132 bR (a2 t 134 (a2 t 133 (some ⟨4,32,[.nilFunc,.nilFunc,.nilFunc,.nilFunc],.array 4 131⟩) bR) bR)))) (a2 t 149 bR (a2 t 156 (a2 t 152 bR (a2 t 154 bR (a2 t 155 bR (some ⟨1,8,[.map none],.map 9 3⟩)))) (a2 t 159 (a2 t 157 hY bR) (a2 t 161 (a2 t 160 bR hY) bR))))) (a2 t 190 (a2 t 176 (a2 t 169 (a2 t 166 (a2 t 164 bR (a2 t 165 bR (kt 9))) (a2 t 167 bR (a2 t 168 (kt 188) W2))) (a2 t 172 (a2 t 170 W2 bR) (a2 t 174 bR (some ⟨3,32,[.string ⟨#[]⟩,.int .i64 0,.int .i64 0],.struct [(9,0),(3,1),(3,2)]⟩)))) (a2 t 183 (a2 t 179 (a2 t 177 (u4 183) (a2 t 178 hY bR)) (a2 t 181 (a2 t 180 bR (kt 247)) (a2 t 182 (kt 282) W3))) (a2 t 186 (a2 t 184 W3 bR) (a2 t 188 (some ⟨4,16,[.int .i64 0,.int .i32 0,.int .u8 0,.int .u8 0],.struct [(2,0),(21,1),(5,2),(5,3)]⟩) (a2 t 189 (kt 187) (kt 38)))))) (a2 t 204 (a2 t 197 (a2 t 193 bR (a2 t 195 (a2 t 194 (kt 4) bR) bR)) (a2 t 200 bR (a2 t 202 bR (some ⟨64,512,List.replicate 64 (.int .u64 0),.array 64 60⟩)))) (a2 t 211 (a2 t 207 (a2 t 205 W4 (a2 t 206 W4 hY)) bR) (a2 t 214 (a2 t 212 (kt 268) (a2 t 213 hY bR)) (a2 t 216 (a2 t 215 bR W5) (a2 t 217 W5 bR)))))))) (a2 t 327 (a2 t 272 (a2 t 245 (a2 t 231 (a2 t 224 (a2 t 221 (a2 t 219 (some ⟨10,80,[.nilFunc,.nilFunc,.nilFunc,.nilFunc,.nilFunc,.nilFunc,.nilFunc,.nilFunc,.nilFunc,.nilFunc],.array 10 217⟩) (a2 t 220 bR (u4 216))) (a2 t 222 bR (a2 t 223 hY bR))) (a2 t 227 bR (a2 t 229 (a2 t 228 bR hY) bR))) (a2 t 238 (a2 t 234 bR (a2 t 236 bR (a2 t 237 bR (some ⟨10,80,[.nilFunc,.nilFunc,.nilFunc,.nilFunc,.nilFunc,.nilFunc,.nilFunc,.nilFunc,.nilFunc,.nilFunc],.array 10 236⟩)))) bR)) (a2 t 258 (a2 t 251 (a2 t 248 (a2 t 246 bR (some ⟨10,88,[.int .u8 0,.int .i64 0,.int .i64 0,.string ⟨#[]⟩,.int .u64 0,.int .u64 0,.int .u64 0,.int .u64 0,.int .i64 0,.int .i64 0],.struct [(5,0),(3,1),(3,2),(9,3),(62,4),(3,8),(3,9)]⟩)) (a2 t 249 bR (a2 t 250 (kt 193) bR))) (a2 t 254 (a2 t 252 bR (a2 t 253 bR hY)) (a2 t 256 bR (a2 t 257 bR (some ⟨2,16,[.int .i64 0,.int .i64 0],.array 2 3⟩))))) (a2 t 265 (a2 t 261 (a2 t 259 (some ⟨20,160,List.replicate 20 (.int .i64 0),.array 10 257⟩) (a2 t 260 (kt 311) hY)) (a2 t 263 (a2 t 262 bR hY) bR)) (a2 t 268 (a2 t 266 bR (a2 t 267 bR Px)) (a2 t 270 (a2 t 269 Px bR) bR))))) (a2 t 299 (a2 t 285 (a2 t 278 (a2 t 275 (a2 t 273 bR (a2 t 274 hY bR)) bR) (a2 t 281 (a2 t 279 bR (a2 t 280 hY bR)) (a2 t 283 (some ⟨5,96,[.int .u8 0,.string ⟨#[]⟩,.slice none 0 0,.slice none 0 0,.slice none 0 0],.struct [(5,0),(9,1),(38,2),(38,3),(37,4)]⟩) (a2 t 284 hY bR)))) (a2 t 292 (a2 t 288 (a2 t 286 bR (a2 t 287 bR (u4 282))) bR) (a2 t 295 bR (a2 t 297 Px (a2 t 298 (kt 296) bR))))) (a2 t 313 (a2 t 306 (a2 t 302 bR (a2 t 304 (a2 t 303 (kt 337) hY) bR)) (a2 t 309 bR (a2 t 311 (a2 t 310 bR Py) (a2 t 312 Py bR)))) (a2 t 320 (a2 t 316 bR (a2 t 318 bR (a2 t 319 (u4 320) W6))) (a2 t 323 (a2 t 321 W6 (some ⟨1,16,[.nilIface],.other⟩)) (a2 t 325 (a2 t 324 hY bR) bR)))))) (a2 t 382 (a2 t 354 (a2 t 340 (a2 t 333 (a2 t 330 bR (a2 t 331 hY bR)) (a2 t 336 bR (a2 t 338 (a2 t 337 bR Py) (a2 t 339 hY bR)))) (a2 t 347 (a2 t 343 bR (a2 t 345 bR (a2 t 346 (some ⟨10,80,[.nilFunc,.nilFunc,.nilFunc,.nilFunc,.nilFunc,.nilFunc,.nilFunc,.nilFunc,.nilFunc,.nilFunc],.array 10 344⟩) bR))) (a2 t 350 (a2 t 348 (u4 5) (a2 t 349 bR (some ⟨1,8,[.map none],.map 5 353⟩))) bR))) (a2 t 368 (a2 t 361 (a2 t 357 hY (a2 t 359 bR (some ⟨3,24,[.int .i64 0,.int .i64 0,.bool false],.struct [(3,0),(3,1),(4,2)]⟩))) (a2 t 364 (a2 t 362 (kt 360) (a2 t 363 (u4 360) bR)) (a2 t 366 (a2 t 365 bR (some ⟨3,48,[.string ⟨#[]⟩,.string ⟨#[]⟩,.string ⟨#[]⟩],.struct [(9,0),(9,1),(9,2)]⟩)) (a2 t 367 (some ⟨30,480,List.replicate 30 (.string ⟨#[]⟩),.array 10 365⟩) bR)))) (a2 t 375 (a2 t 371 (a2 t 369 (some ⟨1,8,[.pointer none],.other⟩) bR) bR) (a2 t 378 (a2 t 376 hY bR) (a2 t 380 (a2 t 379 hY bR) (a2 t 381 hY bR)))))) (a2 t 409 (a2 t 395 (a2 t 388 (a2 t 385 (a2 t 383 bR (a2 t 384 bR (kt 386))) (a2 t 386 bR (a2 t 387 (some ⟨2,2,[.int .u8 0,.int .u8 0],.array 2 5⟩) bR))) (a2 t 391 (a2 t 389 bR (a2 t 390 bR (some ⟨3,32,[.int .i64 0,.int .i64 0,.string ⟨#[]⟩],.struct [(3,0),(3,1),(9,2)]⟩))) (a2 t 393 (a2 t 392 (some ⟨9,96,[.int .i64 0,.int .i64 0,.string ⟨#[]⟩,.int .i64 0,.int .i64 0,.string ⟨#[]⟩,.int .i64 0,.int .i64 0,.string ⟨#[]⟩],.array 3 390⟩) (u4 399)) bR))) (a2 t 402 (a2 t 398 (a2 t 396 bR (a2 t 397 bR (some ⟨1,8,[.map none],.map 5 5⟩))) (a2 t 400 (some ⟨6,64,[.string ⟨#[]⟩,.string ⟨#[]⟩,.int .u8 0,.map none,.int .i64 0,.int .i64 0],.struct [(9,0),(9,1),(5,2),(397,3),(3,4),(32,5)]⟩) (a2 t 401 hY bR))) (a2 t 405 (a2 t 403 bR (a2 t 404 bR Pv)) bR))) (a2 t 423 (a2 t 416 (a2 t 412 (a2 t 410 bR (a2 t 411 (some ⟨64,64,List.replicate 64 (.int .u8 0),.array 64 5⟩) bR)) (a2 t 414 (a2 t 413 (some ⟨1,4,[.int .u32 0],.int .u32⟩) hY) (a2 t 415 bR (some ⟨24,24,List.replicate 24 (.int .u8 0),.array 24 5⟩)))) (a2 t 419 (a2 t 417 bR (a2 t 418 hY bR)) (a2 t 421 (a2 t 420 bR (some ⟨20,160,List.replicate 20 (.int .u64 0),.array 20 60⟩)) (a2 t 422 (some ⟨65,65,List.replicate 65 (.int .u8 0),.array 65 5⟩) bR)))) (a2 t 430 (a2 t 426 (a2 t 424 bR (a2 t 425 (some ⟨32,32,List.replicate 32 (.int .u8 0),.array 32 5⟩) W7)) (a2 t 428 (a2 t 427 W7 (some ⟨0,0,[],.array 0 16⟩)) (some ⟨0,0,[],.struct [(427,0)]⟩))) (a2 t 433 (a2 t 431 K5 (a2 t 432 K5 bR)) (a2 t 435 WX (some ⟨11,48,[.int .u64 0,.int .u64 0,.int .u32 0,.int .u8 0,.int .u8 0,.int .u8 0,.int .u8 0,.nilFunc,.pointer none,.int .i32 0,.int .i32 0],.struct [(12,0),(12,1),(412,2),(430,3),(5,4),(5,5),(431,6),(432,7),(347,8),(433,9),(434,10)]⟩)))))))))else none
def a3:cX Tryz.prog sJ:=ahV 437 (λt h=>by
 have bj:Nat.blt t 437=false:=by
  cases ag:Nat.blt t 437 with
  |false=>rfl| true=>exact absurd (bK ag) (by omega)
 simp only[sJ,bj,cb]) (by kernel_rfl)
def letter(c:UInt8):Bool:=decide (97<=c.toNat/\c.toNat<=122)||(decide (65<=c.toNat/\c.toNat<=90)||decide (c.toNat=95))
def digit(c:UInt8):Bool:=decide (48<=c.toNat/\c.toNat<=57)
def W8(I:aJ)(c:UInt8):Spec Tryz.prog 231 [.int .u8 c.toNat] I [] (λv I' M'=>v=.bool (letter c)/\I'=I/\M'=[]):=by
 refine b0 [] a3 Tryz.func231 rfl rfl rfl ?_;intro B aw
 repeat' (refine cT.mk (λh=>?_) (λh=>?_))
 all_goals
  refine⟨_,_,.refl,?_⟩;refine⟨?_,rfl,rfl⟩;simp_all[letter]
  all_goals first
   |omega|(rw[tj];simp;omega)
def aiL(I:aJ)(c:UInt8):Spec Tryz.prog 232 [.int .u8 c.toNat] I [] (λv I' M'=>v=.bool (digit c)/\I'=I/\M'=[]):=by
 refine b0 [] a3 Tryz.func232 rfl rfl rfl ?_;intro B aw
 repeat' (refine cT.mk (λh=>?_) (λh=>?_))
 all_goals
  refine⟨_,_,.refl,?_⟩;refine⟨?_,rfl,rfl⟩;simp_all[digit]
  all_goals first
   |omega|(rw[tj];simp;omega)
def BW(s:ByteArray):s.data.toList.length=s.size:=x4
def aiM(I:aJ)(s:ByteArray)(av:s.size<=140737488355328):Spec Tryz.prog 277 [.string s] I [] (λv I' M'=>v=.string s/\I'=I/\M'=[]):=by
 refine b0 [] a3 Tryz.func277 rfl rfl rfl ?_;intro B aw;refine a5.mk (λh=>?_) (λh=>?_)
 ·refine⟨_,_,.refl,?_,rfl,rfl⟩;have aa:s.size=0:=by simpa using h
  have:s=.empty:=by apply we;exact O0 aa
  rw[this];rfl
 ·have aa:s.size≠0:=by simpa using h
  refine pE.mk s.size s.size rfl rfl (b2 _) (by show 1*s.size<=_;omega) (by omega) ?_;refine bZ.mk λb ag wJ=>?_;refine bF.WT a3 rfl (by simp) (e:=5) rfl rfl rfl rfl rfl rfl (b2 _) ?_ (.refl _) ?_;·simp[tp,madeCells]
  refine bA.mk ⟨b,0,none⟩ 0 rfl rfl (by omega) ?_;refine bF.Pr a3 rfl (by simp) (e:=5) rfl rfl rfl rfl (g:=b) (l:=s.data.toList) rfl ?_ ?_ ?_ (.refl _) ?_ ?_;·show dH.val (.int .i64 (s.size:Int))=dH.val (.int .i64 (s.data.toList.length:Int));rw[BW]
  ·intro e;have:=congrArg List.length e;rw[BW]at this;exact aa this
  ·rw[BW];omega
  ·rw[BW];have aA:(lu s).length=s.size:=by simp[lu]
   simp only[cq];rw[qx,hX,BG (by rw[aA];exact b2 _),<-aA,DS];rfl
  ·exact⟨_,_,.refl,rfl,rfl,rfl⟩
def W9(I:aJ)(s:ByteArray)(av:s.size<=140737488355328):Spec Tryz.prog 233 [.string s] I [] (λv I' M'=>v=.string s/\I'=I/\M'=[]):=by refine b0 [] a3 Tryz.func233 rfl rfl rfl ?_;intro B aw;refine bc.mk [] [] _ (.refl _) (aiM I s av) ?_;rintro v I' M' -⟨rfl,rfl,rfl⟩;exact⟨_,_,.refl,rfl,rfl,rfl⟩
def tF(c:UInt8):Bool:=letter c||digit c
def tG(s:ByteArray):Nat:=match s.data.toList with
 |[]=>0| c::r=>bif letter c then 1+(r.takeWhile tF).length else 0
def W'{α:Type}(p:α->Bool):∀ (l:List α) (i:Nat),i<=l.length->(∀ j (h:j<l.length),j<i->p l[j]=true)->(∀ (h:i<l.length),p l[i]=false)->(l.takeWhile p).length=i
 |[],i,h,_,_=>by simp at h;simp[h]
 |x::l,0,_,_,h=>by have:=h (by simp);simp only[tw]at this;simp[this]
 |x::l,i+1,hi,aa,ab=>by have ad:=aa 0 (by simp) (by omega);simp only[tw]at ad;have aN:=W' p l i (by simpa using hi) (λj ak K1=>by have:=aa (j+1) (by simpa using ak) (by omega);simpa using this) (λh=>by have:=ab (by simpa using h);simpa using this);simp[ad,aN]
def aiN{s:ByteArray}(aw:0<s.size)(aA:letter s[0]=true){i:Nat}(aa:1<=i)(hi:i<=s.size)(a6:∀ j (h:j<s.size),1<=j->j<i->tF s[j]=true)(ag:∀ (h:i<s.size),tF s[i]=false):tG s=i:=by
 have get:∀ j (h:j<s.size),s[j]=s.data.toList[j]'(by rw[BW];exact h):=λj h=>rfl;unfold tG;have cQ:=BW s;cases ah:s.data.toList with
 |nil=>rw[ah]at cQ;simp at cQ;omega
 |cons c r=>
  have g:∀ j (h:j<s.size),s[j]=(c::r)[j]'(by rw[<-ah,cQ];exact h):=λj h=>by rw[get j h];simp only[ah]
  rw[ah]at cQ;have ao:letter c=true:=by rw[g 0 aw]at aA;simpa using aA
  simp only[ao,cp];simp only[eo]at cQ;rw[W' tF r (i-1) (by omega) (λj ak K1=>by
   have ai:j+1<s.size:=by omega
   have:=a6 (j+1) ai (by omega) (by omega);rw[g (j+1) ai]at this;simpa using this) (λh=>by
   have ai:i<s.size:=by omega
   have:=ag ai;rw[g i ai]at this;have e:i=(i-1)+1:=by omega
   rw[O1]at this;rw[dif_neg (by omega)]at this;exact this)]
  omega
def aiO(I:aJ)(s:ByteArray)(av:s.size<=140737488355328):Spec Tryz.prog 181 [.string s] I [] (λv I' M'=>v=.string (s.extract 0 (tG s))/\I'=I/\M'=[]):=by
 refine b0 [] a3 Tryz.func181 rfl rfl rfl ?_;intro B aw;have di:∀ {s:ByteArray},tG s=0->s.extract 0 (tG s)=⟨#[]⟩:=λh=>by rw[h];apply we;simp[Ks]
 refine cT.mk (λh=>?_) (λh=>?_)
 ·have aa:s≠⟨#[]⟩:=by simpa using h
  have mo:0<s.size:=by refine Nat.pos_of_ne_zero λe=>aa ?_;apply we;exact O0 e
  refine tm.mk 0 rfl mo ?_;refine bc.mk [] [] _ (.refl _) (W8 I s[0]) ?_;rintro v I' M' -⟨rfl,rfl,rfl⟩;refine a5.mk (λh=>?_) (λh=>?_)
  ·have aA:letter s[0]=false:=by simpa using h
   refine⟨_,_,.refl,?_,rfl,rfl⟩;rw[di]
   ·unfold tG;cases ah:s.data.toList with
    |nil=>rfl
    |cons c r=>
     have:s[0]=c:=by show s.data.toList[0]=c;simp only[ah];rfl
     rw[this]at aA;simp[aA]
  ·have aA:letter s[0]=true:=by simpa using h
   refine dx.inv (ι:=Nat) (λi=>{ bp:=[(0,.val (.string s)),(3,.val (.int .i64 i))],cP:=I' }) (λi=>1<=i/\i<=s.size/\∀ j (h:j<s.size),1<=j->j<i->tF s[j]=true) (λi=>s.size-i) ?_ ?_;·exact⟨1,⟨by omega,by omega,λj _ aa ab=>by omega⟩,.refl,x3,.nil⟩
   ·rintro i⟨fv,hW,ik⟩;have next:∀ (a4:i<s.size),tF s[i]=true->(1<=i+1/\i+1<=s.size/\∀ k (h:k<s.size),1<=k->k<i+1->tF s[k]=true)/\s.size-(i+1)<s.size-i:=λa4 ao=>
     ⟨⟨by omega,by omega,λj ak aa ab=>by
      by_cases e:j=i;·subst e;exact ao
      ·exact ik j ak aa (by omega)⟩,by omega⟩
    have out:(∀ (h:i<s.size),tF s[i]=false)->s.extract 0 i=s.extract 0 (tG s):=λaD=>by rw[aiN mo aA fv hW ik aD]
    have dk:(s.extract 0 i).size<=140737488355328:=by rw[ByteArray.size_extract];omega
    have gR:IntKind.i64.wrap ((i:Int)+1)=((i+1:Nat):Int):=by rw[wrap_i64 ⟨by omega,by omega⟩];omega
    refine cT.mk (λh=>?_) (λh=>?_)
    ·have a4:i<s.size:=by simpa using h
     refine tm.mk i rfl a4 ?_;refine bc.mk [] [] _ (.refl _) (W8 I' s[i]) ?_;rintro v I' M' -⟨rfl,rfl,rfl⟩;refine cT.mk (λh=>?_) (λh=>?_)
     ·refine tm.mk i rfl a4 ?_;refine bc.mk [] [] _ (.refl _) (aiL _ s[i]) ?_;rintro v I' M' -⟨rfl,rfl,rfl⟩;refine a5.mk (λab=>?_) (λab=>?_)
      ·refine be.mk _ gR ?_;exact⟨i+1,next a4 (by simp only[tF];rw[show digit s[i]=true from ab];simp),.refl,x3,.nil⟩
      ·refine lf.mk 0 i rfl rfl (by omega) (by omega) ?_;refine bc.mk [] [] _ (.refl _) (W9 _ _ dk) ?_;rintro v I' M' -⟨rfl,rfl,rfl⟩;refine⟨_,_,.refl,?_,rfl,rfl⟩;rw[<-out λ_=>by simp only[tF];rw[show letter s[i]=false from h,show digit s[i]=false from ab];rfl]
     ·refine be.mk _ gR ?_;exact⟨i+1,next a4 (by simp only[tF];rw[show letter s[i]=true from h];simp),.refl,x3,.nil⟩
    ·have c8:¬ i<s.size:=by simpa using h
     refine lf.mk 0 i rfl rfl (by omega) (by omega) ?_;refine bc.mk [] [] _ (.refl _) (W9 _ _ dk) ?_;rintro v I' M' -⟨rfl,rfl,rfl⟩;refine⟨_,_,.refl,?_,rfl,rfl⟩;rw[<-out λh=>(c8 h).elim]
 ·have aa:s=⟨#[]⟩:=by simpa using h
  subst aa;refine⟨_,_,.refl,?_,rfl,rfl⟩;rw[di];rfl
def nE(s:ByteArray):Bool:=decide (s≠⟨#[]⟩)&&(decide (s.size<=32)&&decide (tG s=s.size))
def aiP(s:ByteArray):tG s<=s.size:=by
 unfold tG;have aA:=BW s;cases ah:s.data.toList with
 |nil=>simp
 |cons c r=>
  rw[ah]at aA;simp only[eo]at aA;simp only;cases letter c;·simp
  ·simp only[cp];have:=(List.takeWhile_sublist (p:=tF) (l:=r)).length_le;omega
def Pz(I:aJ)(s:ByteArray):Spec Tryz.prog 117 [.string s] I [] (λv I' M'=>v=.bool (nE s)/\I'=I/\M'=[]):=by
 refine b0 [] a3 Tryz.func117 rfl rfl rfl ?_;intro B aw;refine cT.mk (λaa=>?_) (λaa=>?_)
 ·refine cT.mk (λab=>?_) (λab=>?_)
  ·have m4:s.size<=32:=by simp at ab;omega
   refine bc.mk [] [] _ (.refl _) (aiO I s (by omega)) ?_;rintro v I' M' -⟨rfl,rfl,rfl⟩;refine⟨_,_,.refl,?_,rfl,rfl⟩;have bk:=aiP s;have aK:(s.extract 0 (tG s)).size=tG s:=by rw[ByteArray.size_extract];omega
   simp_all[nE]
   all_goals omega
  ·refine⟨_,_,.refl,?_,rfl,rfl⟩;simp_all[nE]
   all_goals omega
 ·refine⟨_,_,.refl,?_,rfl,rfl⟩;simp_all[nE]
def jy:List Int:=[0,0,0,0,0,0,0,0,2,-1,2,-1,1,1,1,1,1,1,1,1]
def oQ(k:Nat):Int:=jy.getD (k*2) 0
def nF(k:Nat):Int:=jy.getD (k*2+1) 0
def m5(I:aJ):Prop:=∃ T an,I 0=some (.cells (jy.map (Value.int .i64)).toArray T an)
def m5.rd{I:aJ}(h:m5 I)(M:List aF){j:Nat}(ak:j<20):cY I M (Addr.add ⟨0,0,none⟩ j) 1 [.int .i64 (jy.getD j 0)]:=by
 obtain⟨T,an,h⟩:=h;rw[eO _ rfl];refine⟨rfl,_,T,an,.inl h,?_,rfl⟩;simp only[dp];have:∀ j:Fin 20,(((jy.map (Value.int .i64)).toArray.toList.drop j.val).take 1)=[Value.int .i64 (jy.getD j.val 0)]:=by
  intro j;have aa:j.val<(jy.map (Value.int .i64)).length:=by simp[jy]
  rw[OE,fi aa,ry,qx];have ab:j.val<jy.length:=by simp[jy]
  simp[bM,ab]
 exact this ⟨j,ak⟩
def m5.K6{I:aJ}(h:m5 I)(M:List aF){i j:Nat}(ak:i+j<20):cY I M ((Addr.add ⟨0,0,none⟩ i).add j) 1 [.int .i64 (jy.getD (i+j) 0)]:=by
 have e:(Addr.add ⟨0,0,none⟩ i).add j=Addr.add ⟨0,0,none⟩ (i+j):=by rw[eO ⟨_,0,none⟩ rfl i,eO _ rfl j,eO _ rfl (i+j)];simp
 rw[e];exact h.rd M ak
def al.kT(d:al):Bool:=d.cz == 0&&(d.s1 == 0&&(d.s2 == 0&&d.cV == 0))
def fits(d:al)(n:Int):Bool:=
 bif decide (10<=d.k)then false else
 bif decide (n<oQ d.k.toNat)||(decide (0<=nF d.k.toNat)&&decide (nF d.k.toNat<n))then false else
 bif decide (d.k=1)then decide (d.t=⟨#[]⟩)&&(decide (d.lo=0)&&decide (d.hi=0))else
 bif decide (d.k=2)then(!(decide (d.t=⟨#[]⟩)||decide (255<d.t.size)))&&(d.kT&&(decide (d.lo=0)&&decide (d.hi=0)))else
 bif decide (d.k=3)||decide (d.k=9)then nE d.t&&(d.kT&&(decide (d.lo=0)&&decide (d.hi=0)))else
 bif decide (d.k=6)then(!(decide (d.lo<0)||(decide (99<d.lo)||(decide (d.hi≠-1)&&(decide (d.hi<d.lo)||decide (99<d.hi))))))&&(d.kT&&decide (d.t=⟨#[]⟩))else
 d.kT&&(decide (d.t=⟨#[]⟩)&&(decide (d.lo=0)&&decide (d.hi=0)))
set_option maxHeartbeats 4000000 in
def PA{I:aJ}(ao:m5 I){d:al}(ah:d.ok I)(n:Int):Spec Tryz.prog 160 [d.val,.int .i64 n] I [] (λv I' M'=>v=.bool (fits d n)/\I'=I/\M'=[]):=by
 refine b0 [] a3 Tryz.func160 rfl rfl rfl ?_;intro B aw;have ae:=ah.k;refine be.mk d.k (by unfold IntKind.wrap;simp[IntKind.bits,IntKind.signed];omega) ?_;refine a5.mk (λh=>?_) (λh=>?_)
 ·refine⟨_,_,.refl,?_,rfl,rfl⟩;simp at h;simp[fits,h]
 ·have pL:d.k<10:=by simpa using h
  have ak:d.k=((d.k.toNat:Nat):Int):=by omega
  have Xa:d.k.toNat<10:=by omega
  refine c2.draw a3 rfl rfl rfl ?_;refine cA.mk d.k.toNat ak Xa ?_;refine cA.mk 0 rfl (by omega) ?_;refine aV.mk [.int .i64 (oQ d.k.toNat)] (ao.rd _ (j:=d.k.toNat*2) (by omega)) ?_;refine cA.mk d.k.toNat ak Xa ?_;refine cA.mk 1 rfl (by omega) ?_;refine aV.mk [.int .i64 (nF d.k.toNat)] (ao.K6 _ (i:=d.k.toNat*2) (j:=1) (by omega)) ?_
  repeat' first
   |refine cT.mk (λh=>?_) (λh=>?_)| refine a5.mk (λh=>?_) (λh=>?_)| refine fW.Po a3 (e:=60) rfl rfl rfl rfl (by kernel_rfl) ?_|(refine bc.mk [] [] _ (.refl _) (Pz _ _) ?_;rintro v I' M' -⟨rfl,rfl,rfl⟩)
  all_goals refine⟨_,_,.refl,?_⟩
  all_goals refine⟨?_,rfl,rfl⟩
  all_goals clear ao ah ak
  all_goals (first | (simp_all[fits,al.kT];done) | (simp_all[fits,al.kT];omega) | (simp_all[fits,al.kT];rw[tj];simp;omega))
def kU(i:Nat):List Int->List Bool->Option (List Bool)
 |[],s=>some s| k::ks,s=>bif decide (k<0)||(decide ((i:Int)<=k)||s.getD k.toNat false)then none else kU i ks (s.set k.toNat true)
def jz:Nat->List al->List Bool->Option (List Bool)
 |_,[],s=>some s
 |i,d::ds,s=>bif fits d d.aq.length then(match kU i d.aq s with
  |some cn=>jz (i+1) ds cn| none=>none)else none
def rJ(br:Int):Nat->List Bool->Bool
 |_,[]=>true| i,b::s=>bif b == decide ((i:Int)=br)then false else rJ br (i+1) s
def right(t:bn):Bool:=decide (0<=t.br)&&(decide (t.br<t.ns.length)&&(match jz 0 t.ns (List.replicate t.ns.length false)with
 |some s=>rJ t.br 0 s| none=>false))
def BX(v:Value)(n:Nat):rowOf [v] n=List.replicate n v:=by
 apply oH
 ·simp[tp,madeCells]
 ·intro i aa ab;simp[tp,madeCells,Nat.mod_one]
def zO(b:Nat)(s:List Bool):aF:=⟨b,.cells (s.map Value.bool).toArray 4 (0,0)⟩
def Xb{I:aJ}{b:Nat}{s:List Bool}(bb:zO b s∈M){j:Nat}(ak:j<s.length):cY I M ((⟨b,0,none⟩:Addr).add (j*1)) 1 [.bool s[j]]:=by
 rw[eO _ rfl];refine⟨rfl,_,4,(0,0),.inr ⟨_,bb,rfl,rfl⟩,?_,rfl⟩;have aa:j<(s.map Value.bool).length:=by simpa using ak
 simp only[dp,gP];rw[fi aa,ry,qx];simp
def aiQ(s:List Bool)(j:Nat)(ak:j<s.length)(b:Bool):cq (s.map Value.bool) j [.bool b]=(s.set j b).map Value.bool:=by unfold cq;rw[qy,GQ];simp[ak]
def cd.add{b o k:Nat}(a9 post:List aF)(cs:Array Value)(T:Nat)(bb:M=a9++⟨b,.cells cs T (0,0)⟩::post)(ag:o+k+vs.length<=cs.size)(aa:fJ vs=true)
  (h:K (a9++⟨b,.cells (cq cs.toList (o+k) vs).toArray T (0,0)⟩::post)):cd M ((⟨b,o,none⟩:Addr).add k) vs K:=by
 rw[eO _ rfl];exact .mk a9 post cs T bb rfl ag aa h
def cd.iP{b o k:Nat}(a9 post:List aF)(cs:List Value)(T:Nat)(bb:M=a9++⟨b,.cells cs.toArray T (0,0)⟩::post)(ag:Nat.ble (o+k+vs.length) cs.length=true)(aa:fJ vs=true)(cs':List Value)(he:cq cs (o+k) vs=cs')(h:K (a9++⟨b,.cells cs'.toArray T (0,0)⟩::post)):cd M ((⟨b,o,none⟩:Addr).add k) vs K:=
 cd.add a9 post _ _ bb (by simpa using bK ag) aa (by rw[<-he]at h;exact h)
def oR{I:aJ}(ao:m5 I){t:bn}(au:t.ok I):Spec Tryz.prog 96 [t.val] I [] (λv I' M'=>v=.bool (right t)/\I'=I/\M'=[]):=by
 refine b0 [] a3 Tryz.func96 rfl rfl rfl ?_;intro B aw;have aD:=au.n;have hy:=au.ba.cap;refine cT.mk (λaa=>?_) (λaa=>?_)
 ·refine a5.mk (λab=>?_) (λab=>?_)
  ·refine⟨_,_,.refl,?_,rfl,rfl⟩;simp at ab;have:¬ t.br<t.ns.length:=by omega
   simp[right,this]
  ·have a':0<=t.br:=by simpa using aa
   have bg:t.br<t.ns.length:=by simp at ab;omega
   refine pE.mk t.n t.n rfl rfl (b2 _) (by show 1*t.n<=_;omega) (by omega) ?_;refine bZ.mk λb ag wJ=>?_;refine dx.inv (ι:=Nat×List Bool) (λx=>{ bp:=[(1,.ref 1 0),(3,.val (.slice (some ⟨b,0,none⟩) t.n t.n)),(26,.val (.slice t.a t.n t.c)),(27,.val (.int .i64 t.n)),(28,.val (.int .i64 x.1))],cl:=[(1,t.cells)],cP:=I,da:=[zO b x.2] }) (λx=>x.1<=t.n/\x.2.length=t.n/\jz 0 t.ns (List.replicate t.ns.length false)=jz x.1 (t.ns.drop x.1) x.2) (λx=>t.n-x.1) ?_ ?_;·refine⟨(0,List.replicate t.n false),⟨by omega,by simp,by simp[aD]⟩,?_,il,.cons rfl .nil⟩;show h6 _ _ [⟨b,.cells (rowOf [Value.bool false] (t.n*1)).toArray 4 (0,0)⟩] _ [zO b (List.replicate t.n false)];rw[BX,gP];simp only[zO,BI];exact .refl
   ·rintro⟨i,s⟩⟨fv,hW,ik⟩;simp only at fv hW ik;refine a5.mk (λh=>?_) (λh=>?_)
    ·have a4:i<t.n:=by simpa using h
     have cJ:i<t.ns.length:=by omega
     obtain⟨aP,bI,bt⟩:=au.ba.row al.cH a4 cJ;have gu:=au.ns t.ns[i] (bJ cJ);have fh:=gu.az;have lY:t.ns.drop i=t.ns[i]::t.ns.drop (i+1):=fi cJ;refine bA.mk aP i bI rfl a4 ?_;refine aV.mk t.ns[i].cells (bt _) ?_;refine bc.mk [] [zO b s] _ (.refl _) (PA ao gu t.ns[i].az) ?_;rintro v I' M' -⟨rfl,rfl,rfl⟩;refine a5.mk (λai=>?_) (λai=>?_)
     ·refine⟨_,_,.sub (fC _) .refl,?_,rfl,rfl⟩;have aB:fits t.ns[i] t.ns[i].aq.length=false:=by rw[fh];simpa using ai
      have:right t=false:=by unfold right;rw[ik,lY];simp[jz,aB]
      rw[this]
     ·have aB:fits t.ns[i] t.ns[i].aq.length=true:=by rw[fh];simpa using ai
      refine dx.inv (ι:=Nat×List Bool) (λx=>{ bp:=[(1,.ref 1 0),(3,.val (.slice (some ⟨b,0,none⟩) t.n t.n)),(4,.val (.int .i64 i)),(26,.val (.slice t.a t.n t.c)),(27,.val (.int .i64 t.n)),(28,.val (.int .i64 i)),(40,.val (.slice t.ns[i].cf t.ns[i].az t.ns[i].cx)),(41,.val (.int .i64 t.ns[i].az)),(42,.val (.int .i64 x.1))],cl:=[(1,t.cells)],cP:=I',da:=[zO b x.2] }) (λx=>x.1<=t.ns[i].az/\x.2.length=t.n/\kU i t.ns[i].aq s=kU i (t.ns[i].aq.drop x.1) x.2) (λx=>t.ns[i].az-x.1) ?_ ?_;·exact⟨(0,s),⟨by omega,hW,rfl⟩,.refl,mS,.cons rfl .nil⟩
      ·rintro⟨j,cn⟩⟨K7,tH,D5⟩;simp only at K7 tH D5;refine a5.mk (λh=>?_) (λh=>?_)
       ·have gn:j<t.ns[i].az:=by simpa using h
        have oS:j<t.ns[i].aq.length:=by omega
        obtain⟨gv,fm,fe⟩:=gu.ba.one gn oS;refine bA.mk gv j fm rfl gn ?_;refine aV.mk [.int .i64 t.ns[i].aq[j]] (fe _) ?_;have jQ:t.ns[i].aq.drop j=t.ns[i].aq[j]::t.ns[i].aq.drop (j+1):=fi oS;have bad:(decide (t.ns[i].aq[j]<0)||(decide ((i:Int)<=t.ns[i].aq[j])||cn.getD t.ns[i].aq[j].toNat false))=true->right t=false:=λag=>by unfold right;rw[ik,lY];simp only[jz,aB,cp,D5,jQ,kU,ag];simp
        refine cT.mk (λaL=>?_) (λaL=>?_)
        ·refine cT.mk (λbq=>?_) (λbq=>?_)
         ·simp only[sE,Int.not_lt,Int.not_le]at aL bq;have lv:t.ns[i].aq[j]=((t.ns[i].aq[j].toNat:Nat):Int):=by omega
          have cW:t.ns[i].aq[j].toNat<t.n:=by omega
          have yd:t.ns[i].aq[j].toNat<cn.length:=by omega
          refine bA.mk ⟨b,0,none⟩ t.ns[i].aq[j].toNat rfl lv cW ?_;refine aV.mk [.bool cn[t.ns[i].aq[j].toNat]] (Xb (by simp) yd) ?_;refine a5.mk (λb'=>?_) (λb'=>?_);·refine⟨_,_,.sub (fC _) .refl,?_,rfl,rfl⟩;rw[bad];simp[bM,yd,b']
          ·refine bA.mk ⟨b,0,none⟩ t.ns[i].aq[j].toNat rfl lv cW ?_;refine cd.add [] [] _ 4 rfl ?_ rfl ?_
           ·simp only[tz,bE];show 0+t.ns[i].aq[j].toNat*1+1<=_;omega
           have gR:IntKind.i64.wrap ((j:Int)+1)=((j+1:Nat):Int):=by rw[wrap_i64 ⟨by omega,by have:=gu.ba.cap;omega⟩];omega
           refine be.mk _ gR ?_;refine⟨(j+1,cn.set t.ns[i].aq[j].toNat true),⟨⟨by omega,by simp[tH],?_⟩,by show _<_;simp only;omega⟩,?_,mS,.cons rfl .nil⟩
           ·simp only;rw[D5,jQ];have aM:(decide (t.ns[i].aq[j]<0)||(decide ((i:Int)<=t.ns[i].aq[j])||cn.getD t.ns[i].aq[j].toNat false))=false:=by
             have aK:¬ t.ns[i].aq[j]<0:=by omega
             have a7:¬ (i:Int)<=t.ns[i].aq[j]:=by omega
             simp[aK,a7,bM,yd,show cn[t.ns[i].aq[j].toNat]=false from b']
            simp only[kU,aM,cb]
           ·have e:=aiQ cn t.ns[i].aq[j].toNat yd true;simp only[zO];rw[<-e];simp only[dp,gP];exact .refl
         ·refine⟨_,_,.sub (fC _) .refl,?_,rfl,rfl⟩;rw[bad];simp at bq;simp[bq]
        ·refine⟨_,_,.sub (fC _) .refl,?_,rfl,rfl⟩;rw[bad];simp at aL;simp[aL]
       ·have gn:¬ j<t.ns[i].az:=by simpa using h
        have BY:t.ns[i].aq.drop j=[]:=mr (by omega);have gR:IntKind.i64.wrap ((i:Int)+1)=((i+1:Nat):Int):=by rw[wrap_i64 ⟨by omega,by omega⟩];omega
        refine be.mk _ gR ?_;refine⟨(i+1,cn),⟨⟨by omega,tH,?_⟩,by show _<_;simp only;omega⟩,.refl,il,.cons rfl .nil⟩;simp only;rw[ik,lY];simp only[jz,aB,cp,D5,BY,kU]
    ·have c8:¬ i<t.n:=by simpa using h
     have h8:t.ns.drop i=[]:=mr (by omega);have eI:jz 0 t.ns (List.replicate t.ns.length false)=some s:=by rw[ik,h8];rfl
     have af:right t=rJ t.br 0 s:=by unfold right;rw[eI];simp[a',bg]
     refine dx.inv (ι:=Nat) (λm=>{ bp:=[(1,.ref 1 0),(64,.val (.slice (some ⟨b,0,none⟩) t.n t.n)),(65,.val (.int .i64 t.n)),(66,.val (.int .i64 m))],cl:=[(1,t.cells)],cP:=I,da:=[zO b s] }) (λm=>m<=t.n/\rJ t.br 0 s=rJ t.br m (s.drop m)) (λm=>t.n-m) ?_ ?_;·exact⟨0,⟨by omega,rfl⟩,.refl,dY,.cons rfl .nil⟩
     ·rintro m⟨awU,D6⟩;refine a5.mk (λh=>?_) (λh=>?_)
      ·have hn:m<t.n:=by simpa using h
       have rK:m<s.length:=by omega
       have rL:s.drop m=s[m]::s.drop (m+1):=fi rK;refine bA.mk ⟨b,0,none⟩ m rfl rfl hn ?_;refine aV.mk [.bool s[m]] (Xb (by simp) rK) ?_;refine a5.mk (λdZ=>?_) (λdZ=>?_)
       ·refine⟨_,_,.sub (fC _) .refl,?_,rfl,rfl⟩;have:right t=false:=by rw[af,D6,rL];simp only[rJ,show(s[m] == decide ((m:Int)=t.br))=true from dZ,cp]
        rw[this]
       ·have gR:IntKind.i64.wrap ((m:Int)+1)=((m+1:Nat):Int):=by rw[wrap_i64 ⟨by omega,by omega⟩];omega
        refine be.mk _ gR ?_;refine⟨m+1,⟨⟨by omega,?_⟩,by omega⟩,.refl,dY,.cons rfl .nil⟩;rw[D6,rL];simp only[rJ,show(s[m] == decide ((m:Int)=t.br))=false from dZ,cb]
      ·have hn:¬ m<t.n:=by simpa using h
       have rL:s.drop m=[]:=mr (by omega);refine⟨_,_,.sub (fC _) .refl,?_,rfl,rfl⟩;rw[af,D6,rL];rfl
 ·refine⟨_,_,.refl,?_,rfl,rfl⟩;have:¬ 0<=t.br:=by simp at aa;omega
  simp[right,this]
end Go.V
