/- Part 2 of what the proofs of this seat share: the executor, data in memory, walks.
-/
import Derived.Test.YtmncamccjfmbpaaGreatDoorK1
import Derived.Lib.UnsafeStr
import Derived.Test.YtmncamccjfmbpaaGreatDoorProg
import Derived.KernelRfl
set_option linter.all false
set_option maxRecDepth 100000
namespace Go.V
open Go
def bz:=@List.getD_eq_getElem?_getD
def bx:=@List.getElem_mem
def da:=@List.getElem?_eq_getElem
def bF:=@List.length_map
def cm:=@List.length_append
def ek:=@List.mem_singleton
def ef:=@List.append_nil
def db:=@Nat.zero_add
def iK:=@List.eq_nil_of_length_eq_zero
def fp:=@List.nil_sublist
def jH:=@List.drop_eq_nil_of_le
def jr:=@List.mem_append_left
def mb:=@List.sublist_append_right
def e0:=@Nat.mul_one
def hU:=@List.length_take
def iq:=@List.nil_append
def kr:=@List.flatMap_cons
def iX:=@List.mem_filter
def hr:=@List.map_nil
def q':=@List.getElem?_append_left
def kQ:=@Bool.or_eq_true
def qa:=@List.getElem?_eq_none
def sb:=@decide_eq_false_iff_not
def ra:=@List.mem_append_right
def qb:=@List.take_succ_cons
def ow:=@List.size_toArray
def rc:=@List.mem_of_getElem?
def nU:=@List.ext_getElem
def ox:=@List.filter_cons
def uq:=@List.getElem_cons_zero
def A9:=@List.take_append_of_le_length
def lL:=@Nat.add_mul
def sc:=@List.map_toArray
def ta:=@Bool.not_eq_true'
def tb:=@List.length_drop
def re:=@List.take_zero
def F3:=@List.set_eq_take_append_cons_drop
def oy:=@Nat.one_mul
def xm:=@List.map_replicate
def yW:=@Array.length_toList
def A':=@List.getElem?_toArray
def Ba:=@List.length_filter_le
def sd:=@List.map_set
def Dg:=@World.putObj_heap_same
def ur:=@Bool.false_or
def F4:=@Classical.byContradiction
def uu:=@Bool.not_true
def vM:=@List.drop_zero
def yX:=@List.nodup_range
def F5:=@List.getElem_cons_succ
def yY:=@List.take_left
def N4:=@Array.eq_empty_of_size_eq_zero
def JI:=@Option.bind_eq_some_iff
def Dh:=@List.take_length
def Bb:=@List.take_take
def yZ:=@Nat.zero_mul
def F6:=@List.filter_congr
def UJ:=@Std.Legacy.Range.forIn_eq_forIn_range'
def Di:=@List.drop_drop
def F7:=@beq_self_eq_true
def JJ:=@Nat.testBit_two_pow
def F8:=@List.drop_take
def UK:=@List.drop_length_add_append
def JK:=@Nat.testBit_or
def UL:=@Lib.run_firstCells_string
variable{soft hs:Bool}{P:Program}{f x y p s:Operand}{M M' M1 Mr:List aD}{K:List aD->Prop}{I' I1:aI}{op:Op}{ρ:Operand->dA}{C:dB}{other:Prop}{ops:List Oper}{c7 lM aF:dD}{β:Nat->Nat}{a:Option Addr}{w w':World}{Q:Exit->Act->World->Prop}{dst:Option Nat}{v:Value}{lN:Fr}{du:Array Bool}{A:Array Oper}{ι α:Type}{c g m u e c' uv it size:Nat}{vs xs b8:List Value}{ps:Array Nat}{fe body:Code}{cap cs:Array Value}{aS:Addr}
def Dj:Op->Bool
 | .move _ | .assign _ | .pick .. | .unOp .. | .binOp .. | .load .. | .nilCheck _ | .fieldAddr .. | .field .. | .indexAddr .. | .index .. | .build .. | .makeFunc .. | .slice .. | .extract .. | .convert ..=>true| .call { callee:=.builtin .len,.. }=>true| .call { callee:=.builtin .cap,.. }=>true| .call { callee:=.builtin .max,.. }=>true| .call { callee:=.builtin .min,.. }=>true| .call { callee:=.builtin .unsafeSliceData,.. }=>true| _=>false
def qc:Op->Bool
 | .load ..=>true| _=>false
def F9(o:Oper)(p:Nat):Bool:=o.after.toList.all λe=>!Region.binds .any e||p.testBit e.on
def qd(ops:List Oper)(p:Nat)(k:Bool):List Nat:=(List.range ops.length).filter λi=>match ops[i]? with
 |some o=>!p.testBit i&&((Dj o.op == k)&&F9 o p)| none=>false
def F'(a6:List Nat)(o:Oper):Nat:=o.after.toList.foldl (λs e=>bif Region.binds .any e then s ||| 2^e.on ||| a6.getD e.on 0 else s) 0
def lh(ops:List Oper):List Nat:=ops.foldl (λa6 o=>a6++[F' a6 o]) []
def N5(P:Nat->Prop):List Nat->Prop
 |[]=>True| [i]=>P i| i::l=>P i/\N5 P l
inductive eL(soft:Bool)(foot:List Nat)(P:Program)(f:Nat)(args:List Value)(I:aI)(M:List aD)(K:Value->aI->List aD->Prop):Prop
 |mk(post:Value->aI->List aD->Prop)(ar:Spec P f args I [] post)(k:∀ v I' M',(∀ b o,I b=some o->I' b=some o)->post v I' M'->K v I' (M'++M))| oz (ep Mr:List aD) (post:Value->aI->List aD->Prop) (a':M.Perm (ep++Mr)) (ar:Spec P f args I ep post) (nr:∀ v I' M',post v I' M'->∀ x∈ep,x∈M') (k:∀ v I' M',(∀ b o,I b=some o->I' b=some o)->post v I' M'->K v I' (M'++Mr))| yI (post:Value->aI->List aD->Prop) (ar:Spec P f args I [] post) (k:∀ v I' M',(∀ b o,I b=some o->I' b=some o)->(∀ x∈M'++M,I' x.num=none)->post v I' M'->K v I' (M'++M))| afz (ep Mr:List aD) (post:Value->aI->List aD->Prop) (a':M.Perm (ep++Mr)) (ar:Spec P f args I ep post) (nr:∀ v I' M',post v I' M'->∀ x∈ep,x∈M') (k:∀ v I' M',(∀ b o,I b=some o->I' b=some o)->(∀ x∈M'++Mr,I' x.num=none)->post v I' M'->K v I' (M'++Mr))| afA (b:Nat) (o:Obj) (ep Mr:List aD) (post:Value->aI->List aD->Prop) (a':M.Perm (⟨b,o⟩::(ep++Mr))) (aA:b ∉ foot) (ar:Spec P f args (ins I b o) ep post) (nr:∀ v I' M',post v I' M'->∀ x∈ep,x∈M') (k:∀ v I' M',(∀ c p,ins I b o c=some p->I' c=some p)->(∀ x∈M'++Mr,I' x.num=none)->post v I' M'->K v I' (M'++Mr))| FM (h:l8 I M->eL soft foot P f args I M K)| uw (Ga:soft=true) (ep Mr:List aD) (post:Value->aI->List aD->Prop) (a':M.Perm (ep++Mr)) (ar:Spec P f args I ep post) (k:∀ v I' M',(∀ b o,I b=some o->I' b=some o)->post v I' M'->K v I' (M'++Mr))
def eL.elim{foot:List Nat}{f:Nat}{args:List Value}{I:aI}{K:Value->aI->List aD->Prop}(fC:l8 I M)(h:eL soft foot P f args I M K) :
  ∃ (I1:aI) (ep Mr:List aD) (post:Value->aI->List aD->Prop),h7 foot I M I1 (ep++Mr)/\(∀ b o,I b=some o->I1 b=some o)/\Spec P f args I1 ep post /\
   ∀ v I' M',(∀ b o,I1 b=some o->I' b=some o)->(∀ x∈M'++Mr,I' x.num=none)->post v I' M'->(soft=true\/∀ x∈M,I' x.num=some x.obj\/x∈M'++Mr)/\K v I' (M'++Mr):=by
 have UM:∀ {ep Mr:List aD} {post:Value->aI->List aD->Prop} {I':aI},M.Perm (ep++Mr)->(∀ v I' M',post v I' M'->∀ x∈ep,x∈M')->∀ v M',post v I' M'->∀ x∈M,I' x.num=some x.obj\/x∈M'++Mr:=λa' nr v M' ab x ad=>by
  right
  rcases cE.1 (a'.mem_iff.1 ad)with ad | ad;·exact cE.2 (.inl (nr v _ M' ab x ad))
  ·exact cE.2 (.inr ad)
 induction h with
 |mk post ar k=>exact⟨I,[],M,post,.refl,λ_ _ h=>h,ar,λv I' M' aa _ ab=>⟨.inr λx ad=>.inr (by simp[ad]),k v I' M' aa ab⟩⟩| oz ep Mr post a' ar nr k=>exact⟨I,ep,Mr,post,.perm a' .refl,λ_ _ h=>h,ar,λv I' M' aa _ ab=>⟨.inr (UM a' nr v M' ab),k v I' M' aa ab⟩⟩| yI post ar k=>exact⟨I,[],M,post,.refl,λ_ _ h=>h,ar,λv I' M' aa ak ab=>⟨.inr λx ad=>.inr (by simp[ad]),k v I' M' aa ak ab⟩⟩| afz ep Mr post a' ar nr k=>exact⟨I,ep,Mr,post,.perm a' .refl,λ_ _ h=>h,ar,λv I' M' aa ak ab=>⟨.inr (UM a' nr v M' ab),k v I' M' aa ak ab⟩⟩
 |afA b o ep Mr post a' aA ar nr k=>
  have ag:I b=none:=fC.d ⟨b,o⟩ (a'.mem_iff.2 (.head _));have Bc:ins I b o b=some o:=by unfold ins;rw[q0];rfl
  refine⟨ins I b o,ep,Mr,post,.perm a' (.kN rfl aA .refl),λc p ap=>?_,ar,λv I' M' aa ak ab=>⟨.inr λx ad=>?_,k v I' M' aa ak ab⟩⟩
  ·unfold ins;by_cases e:c=b
   ·subst e;rw[ag]at ap;cases ap
   ·rw[hp e];exact ap
  ·rcases ee.1 (a'.mem_iff.1 ad)with rfl | ad
   ·exact .inl (aa _ _ Bc)
   ·right
    rcases cE.1 ad with ad | ad;·exact cE.2 (.inl (nr v I' M' ab x ad))
    ·exact cE.2 (.inr ad)
 |FM h aN=>exact aN fC| uw Ga ep Mr post a' ar k=>exact⟨I,ep,Mr,post,.perm a' .refl,λ_ _ h=>h,ar,λv I' M' aa _ ab=>⟨.inl Ga,k v I' M' aa ab⟩⟩
def JL(ops:List Oper)(o:Oper)(F:Fr)(run skip:Fr->Prop):Prop:=
 match o.guard with
 |none=>run F
 |some (j,b)=>
  match(ops[j]?).bind (·.dst)with
  |none=>False
  |some d=>
   match F d with
   | .lit c=>bif c == b then run F else skip F| .val (.bool c)=>cq c b (run (fY F d (.lit b))) (skip (fY F d (.lit !b)))| .val (.tuple _)=>skip F| _=>False
def UN(gV p:Nat):Bool:=Nat.beq (p &&& gV) p
def afB(ops:List Oper)(gV p:Nat):Bool:=(List.range ops.length).all λq=>!p.testBit q||(gV.testBit q||match ops[q]? with
 |some o=>!qc o.op| none=>true)
inductive qe(X:cV)(o:Oper)(F:Fr)(C:dB)(I:aI)(M:List aD)(K:dA->aI->List aD->Prop):Prop
 |mk (h:∀ β a w Q,cH X β a w F C I M->o.wpIn (g3 X) 0 X.P a w (λbM w'=>∃ v x I' M',bM=a.put o.dst v/\eU β x v/\cH X β a w' F C I' M'/\K x I' M'/\I'=I) Q)
def vN(X:cV)(afC soft:Bool)(o:Oper)(F:Fr)(C:dB)(I:aI)(M:List aD)(K:gd):Prop:=
 bif afC then gT X o F C I M K else
 match o.op with
 | .call { callee:=.value f,args,.. }=>
  match bE F f,mH F args.toList with
  | .val (.func (.func g) first cap),some vs=>eL soft X.foot X.P g (first.toList++vs++cap.toList) I M λv I' M'=>K (put o.dst (.val v) F) C I' M'
  |_,_=>False
 | .alloc t=>
  match o.dst,X.E t with
  |some d,some i=>bX I M λb=>K (fY F d (.val (.pointer (some ⟨b,0,none⟩)))) C I (⟨b,.cells i.zero.toArray t (0,0)⟩::M)
  |_,_=>False
 | .buildSlice _ _ _=>gT X o F C I M K| .makeSlice _ _ _=>gT X o F C I M K| .store _ _ _=>bif soft then gT X o F C I M K else False| .call { callee:=.builtin .append,.. }=>bif soft then ∀ G:Fr,(∀ y∈o.op.operands,di G y=di F y)->qe X o G C I M λx I' M'=>K (put o.dst x F) C I' M' else False
 | .call { callee:=.builtin .copy,.. }=>bif soft then ∀ G:Fr,(∀ y∈o.op.operands,di G y=di F y)->qe X o G C I M λx I' M'=>K (put o.dst x F) C I' M' else False
 |_=>False
def JM:dA->Nat
 | .ref s _=>s+1| _=>0
def Gb(i:Nat)(op:Op)(ρ:Operand->dA)(cf:List (Nat×Nat)):List (Nat×Nat):=match op with
 | .load _ x=>(i,JM (ρ x))::cf| _=>cf
def Bd(gV s:Nat):List (Nat×Nat)->Bool
 |[]=>true|(i,t)::cf=>(gV.testBit i || !Nat.beq s t)&&Bd gV s cf
def UO{gV s i t:Nat}:∀ {cf:List (Nat×Nat)},Bd gV s cf=true->(i,t)∈cf->gV.testBit i=true\/t≠s
 |(j,u)::cf,h,hm=>by
  unfold Bd at h;rw[cB,kQ]at h;rcases ee.1 hm with e | hm
  ·cases e;rcases h.1 with aa | aa
   ·exact .inl aa
   ·right
    rintro rfl;simp at aa
  ·exact UO h.2 hm
def UP(gV:Nat)(op:Op)(ρ:Operand->dA)(cf:List (Nat×Nat)):Bool:=match op with
 | .store _ x _=>(match ρ x with
  | .val (.pointer (some _))=>Bd gV 0 cf| _=>false)
 | .call { callee:=.value _,.. }=>Bd gV 0 cf| _=>false
def UQ(gV:Nat)(op:Op)(ρ:Operand->dA)(cf:List (Nat×Nat)):Bool:=match op with
 | .store _ x _=>(match ρ x with
  | .ref s _=>Bd gV (s+1) cf| _=>false)
 |_=>false
def vO(hs:Bool)(M:List aD):List aD:=bif hs then []else M
def afD{I:aI}{b:Nat}{o:Obj}(h:h6 I (vO hs M) b o):h6 I M b o:=by
 cases hs with
 |false=>exact h
 |true=>
  rcases h with h | ⟨x,ad,_⟩;·exact .inl h
  ·cases ad
def UR{I:aI}(h:∀ b o,h6 I M b o->h6 I' M' b o)(bd:∀ b o,I b=some o->I' b=some o):∀ b o,h6 I (vO hs M) b o->h6 I' (vO hs M') b o:=λb o ag=>by
 cases hs with
 |false=>exact h b o ag
 |true=>
  rcases ag with ag | ⟨x,ad,_⟩;·exact .inl (bd _ _ ag)
  ·cases ad
def afE{I:aI}(bd:∀ b o,I b=some o->I' b=some o):∀ b o,h6 I (vO true M) b o->h6 I' (vO true M') b o:=λb o ag=>by
 rcases ag with ag | ⟨x,ad,_⟩
 ·exact .inl (bd _ _ ag)
 ·cases ad
def US(X:cV)(hs:Bool)(op:Op)(ρ:Operand->dA)(C:dB)(I:aI)(M:List aD)(V:dA->Prop)(other:Prop):Prop:=match hs with
 |false=>cF X op ρ C I M V other| true=>cF X op ρ C I [] V other
def afF{X:cV}{I:aI}{V:dA->Prop}(h:US X hs op ρ C I M V other):cF X op ρ C I (vO hs M) V other:=by
 cases hs with
 |false=>exact h| true=>exact h
def afG(ops:List Oper)(hs:Nat->Bool)(gV p:Nat):Bool:=(List.range ops.length).all λq=>!p.testBit q||(gV.testBit q||(hs q||match ops[q]? with
 |some o=>!qc o.op| none=>true))
def UT(op:Op)(ρ:Operand->dA):Bool:=match op with
 | .store _ x _=>(match ρ x with
  | .val (.pointer (some _))=>true| _=>false)
 | .call { callee:=.builtin .append,.. }=>true| .call { callee:=.builtin .copy,.. }=>true| _=>false
def UU(ops:List Oper)(hs:Nat->Bool)(gV p:Nat)(op:Op)(ρ:Operand->dA):Bool:=afG ops hs gV p&&UT op ρ
def pw(X:cV)(ops:List Oper)(hs:Nat->Bool):Nat->Nat->List (Nat×Nat)->Fr->dB->aI->List aD->gd->Prop
 |0,_,_,_,_,_,_,_=>False
 |n+1,p,cf,F,C,I,M,K=>
  match qd ops p true with
  |i::_=>
   (match ops[i]? with
   |some o=>JL ops o F (λF=>US X (hs i) o.op (di F) C I M (λx=>pw X ops hs n (p ||| 2^i) (Gb i o.op (di F) cf) (put o.dst x F) C I M K) False) (λF=>pw X ops hs n (p ||| 2^i) cf (put o.dst (.val undef) F) C I M K)| none=>False)
  |[]=>
   match qd ops p false with
   |[]=>K F C I M
   |i0::fq=>N5 (λi=>match ops[i]? with
     |some o=>JL ops o F (λF=>vN X (UN ((lh ops).getD i 0) p) (afB ops ((lh ops).getD i 0) p||(UQ ((lh ops).getD i 0) o.op (di F) cf||(UP ((lh ops).getD i 0) o.op (di F) cf||UU ops hs ((lh ops).getD i 0) p o.op (di F)))) o F C I M λF C I M=>pw X ops hs n (p ||| 2^i) cf F C I M K) (λF=>pw X ops hs n (p ||| 2^i) cf (put o.dst (.val undef) F) C I M K)| none=>False) (i0::fq)
def looks(ops:List Oper)(o:Oper):List Nat:=o.looksAt ops.toArray
def Be(ops:List Oper):Bool:=
 let b:=lh ops
 (List.range ops.length).all λj=>match ops[j]? with
  |none=>true
  |some mK=>
   (mK.after.toList.all λe=>!Region.binds .any e||Nat.blt e.on j) &&
   ((match mK.dst with
    |some d=>!(looks ops mK).contains d| none=>true) &&
   ((List.range ops.length).all (λi=>Nat.beq i j||match ops[i]? with
    |none=>true
    |some gA=>match gA.dst with
     |none=>true| some d=>!(mK.dst == some d)&&(!(looks ops mK).contains d||((b.getD j 0).testBit i||(b.getD i 0).testBit j)))))
def mL(ops:List Oper)(j e:Nat):Prop:=∃ o nt,ops[j]?=some o/\nt∈o.after/\Region.binds .any nt=true/\nt.on=e
inductive px(ops:List Oper):Nat->Nat->Prop
 |one{i j}(h:mL ops j i):px ops i j| trans {i j k} (h:mL ops j k) (bd:px ops i k):px ops i j
def Bf(ops:List Oper)(S:Nat->Prop):Prop:=∀ j e,S j->mL ops j e->S e
def px.mem{S:Nat->Prop}(cR:Bf ops S){i j:Nat}(h:px ops i j)(ai:∀ e,mL ops j e->S e):S i:=by
 induction h with
 |one h=>exact ai _ h| trans h _ aN=>exact aN λe he=>cR _ e (ai _ h) he
def afH{a6:List Nat}{o:Oper}{i:Nat}(h:(F' a6 o).testBit i=true):∃ e∈o.after,Region.binds .any e=true/\(e.on=i\/(a6.getD e.on 0).testBit i=true):=by
 have key:∀ (l:List Edge) (s:Nat),(l.foldl (λs e=>bif Region.binds .any e then s ||| 2^e.on ||| a6.getD e.on 0 else s) s).testBit i=true->s.testBit i=true\/∃ e∈l,Region.binds .any e=true/\(e.on=i\/(a6.getD e.on 0).testBit i=true):=by
  intro l
  induction l with
  |nil=>intro s h;exact .inl h
  |cons e l aN=>
   intro s h;simp only[jn]at h;rcases aN _ h with aa | ⟨cW,rf,ab⟩
   ·cases ag:Region.binds .any e with
    |false=>rw[ag]at aa;exact .inl aa
    |true=>
     rw[ag]at aa;simp only[ca,JK,kQ,JJ,hR]at aa;rcases aa with(aa | aa) | aa;·exact .inl aa
     ·exact .inr ⟨e,by simp,ag,.inl aa⟩
     ·exact .inr ⟨e,by simp,ag,.inr aa⟩
   ·exact .inr ⟨cW,by simp[rf],ab⟩
 rcases key _ 0 h with aa | ⟨e,he,ab⟩
 ·simp at aa
 ·exact⟨e,by simpa using he,ab⟩
def UW(ops:List Oper):∀ (l:List Oper) (a9:List Oper) (a6:List Nat),ops=a9++l->a6.length=a9.length->(∀ j i,(a6.getD j 0).testBit i=true->px ops i j) -> ∀ j i,((l.foldl (λa6 o=>a6++[F' a6 o]) a6).getD j 0).testBit i=true->px ops i j
 |[],a9,a6,_,_,mc=>mc
 |o::l,a9,a6,vP,c2,mc=>by
  simp only[jn];refine UW ops l (a9++[o]) _ (by simp[vP]) (by simp[c2]) ?_;intro j i h;by_cases ai:j<a6.length;·exact mc j i (by simpa[bz,q' ai]using h)
  ·by_cases im:j=a6.length
   ·subst im;have bd:(F' a6 o).testBit i=true:=by simpa[bz]using h
    obtain⟨e,he,ag,ab⟩:=afH bd;have aH:ops[a6.length]?=some o:=by rw[vP,c2];simp
    have y0:mL ops a6.length e.on:=⟨o,e,aH,he,ag,rfl⟩;rcases ab with rfl | ab;·exact .one y0
    ·exact .trans y0 (mc _ _ ab)
   ·have:(a6++[F' a6 o]).getD j 0=0:=by rw[bz,qa (by simp;omega)];rfl
    rw[this]at h;simp at h
def y1{j i:Nat}(h:((lh ops).getD j 0).testBit i=true):px ops i j:=
 UW ops ops [] [] rfl rfl (λj i h=>by simp at h) j i h
section
variable{X:cV}{C C':dB}{I I':aI}{M M':List aD}
def xn{ρ jI:Operand->dA}:∀ {xs:List Operand},(∀ y∈xs,jI y=ρ y)->jX jI xs=jX ρ xs
 |[],_=>rfl| x::xs,h=>by have aa:=h x (by simp);have ab:=xn (xs:=xs) λy aE=>h y (by simp[aE]);simp only[jX,dw,aa,ab]
def N6{ρ jI:Operand->dA}:∀ {xs:List (Nat×Operand)},(∀ y∈xs.map (·.2),jI y=ρ y)->s4 jI xs=s4 ρ xs
 |[],_=>rfl|(i,x)::xs,h=>by have aa:=h x (by simp);have ab:=N6 (xs:=xs) λy aE=>h y (by simp only[cb,ee];exact .inr aE);simp only[s4,dw,aa,ab]
def UX{jI:Operand->dA}{V:dA->Prop}(h:cF X op ρ C I M V False)(iY:∀ y∈op.operands,jI y=ρ y)
  (ay:∀ t x,op=.load t x->(∀ s off,ρ x=.ref s off->C' s=C s)/\((∀ s off,ρ x≠.ref s off)->∀ b o,h6 I M b o->h6 I' M' b o)):cF X op jI C' I' M' V False:=by
 cases op
 case load t x=>
  obtain⟨ap,ae⟩:=ay t x rfl;have aa:=iY x (by simp[Op.operands]);simp only[cF,aa]at h |-;cases aM:X.E t with
  |none=>rw[aM]at h;exact h.elim
  |some i=>
   rw[aM]at h
   try simp only at h |-
   cases ad:ρ x with
   |ref s off=>
    rw[ad]at h
    try simp only at h |-
    rw[ap s off ad];exact h
   |val v=>
    rw[ad]at h
    try simp only at h |-
    split at h;·rename_i e;cases e
    ·rename_i a e;cases e;obtain⟨vs,⟨ab,cs,T,al,ak,aJ⟩,bB⟩:=h;exact⟨vs,⟨ab,cs,T,al,ae (λs off e=>by rw[ad]at e;cases e) _ _ ak,aJ⟩,bB⟩
    ·exact h.elim
   |lit b=>rw[ad]at h;exact h.elim| nl=>rw[ad]at h;exact h.elim
 case build t ps=>
  have aa:=N6 (ρ:=ρ) (jI:=jI) (xs:=ps.toList) λy aE=>iY y (by simpa[Op.operands]using aE);simp only[cF,aa]at h |-;exact h
 case makeFunc fn first captured=>
  have aa:=xn (ρ:=ρ) (jI:=jI) (xs:=first.toList) λy aE=>iY y (by simp only[Op.operands,Array.mem_append];exact .inl (by simpa using aE));have ab:=xn (ρ:=ρ) (jI:=jI) (xs:=captured.toList) λy aE=>iY y (by simp only[Op.operands,Array.mem_append];exact .inr (by simpa using aE));simp only[cF,aa,ab]at h |-;exact h
 case slice t x lo hi mx=>
  have aa:=iY x (by simp[Op.operands]);have ab:lo.map (dw jI)=lo.map (dw ρ):=by
   cases lo with
   |none=>rfl| some y=>have:=iY y (by simp[Op.operands]);simp[dw,this]
  have ak:hi.map (dw jI)=hi.map (dw ρ):=by
   cases hi with
   |none=>rfl| some y=>have:=iY y (by simp[Op.operands]);simp[dw,this]
  have aJ:mx.map (dw jI)=mx.map (dw ρ):=by
   cases mx with
   |none=>rfl| some y=>have:=iY y (by simp[Op.operands]);simp[dw,this]
  simp only[cF,ab,ak,aJ,dw,aa]at h |-;exact h
 case call c=>
  obtain⟨callee,args,argTypes⟩:=c;cases callee with
  |value f=>exact h| invoke r m=>exact h
  |builtin b=>
   cases b
   case len=>
    have aa:=xn (ρ:=ρ) (jI:=jI) (xs:=args.toList) λy aE=>iY y (by simp[Op.operands,Call.operands];simpa using aE);simp only[cF,aa]at h |-;exact h
   case cap=>
    have aa:=xn (ρ:=ρ) (jI:=jI) (xs:=args.toList) λy aE=>iY y (by simp[Op.operands,Call.operands];simpa using aE);simp only[cF,aa]at h |-;exact h
   case max=>
    have aa:=xn (ρ:=ρ) (jI:=jI) (xs:=args.toList) λy aE=>iY y (by simp[Op.operands,Call.operands];simpa using aE);simp only[cF,aa]at h |-;exact h
   case min=>
    have aa:=xn (ρ:=ρ) (jI:=jI) (xs:=args.toList) λy aE=>iY y (by simp[Op.operands,Call.operands];simpa using aE);simp only[cF,aa]at h |-;exact h
   case unsafeSliceData=>
    have aa:=xn (ρ:=ρ) (jI:=jI) (xs:=args.toList) λy aE=>iY y (by simp[Op.operands,Call.operands];simpa using aE);simp only[cF,aa]at h |-;exact h
   all_goals exact h
 all_goals first
  |exact h|(rename_i x;have aa:=iY x (by simp[Op.operands]);simp only[cF,dw,aa]at h |-;exact h)|(rename_i x y;have aa:=iY x (by simp[Op.operands]);have ab:=iY y (by simp[Op.operands]);simp only[cF,dw,aa,ab]at h |-;exact h)|(rename_i x y z;have aa:=iY x (by simp[Op.operands]);have ab:=iY y (by simp[Op.operands]);have ak:=iY z (by simp[Op.operands]);simp only[cF,dw,aa,ab,ak]at h |-;exact h)|(rename_i x y;have aa:=iY x (by simp[Op.operands]);simp only[cF,dw,aa]at h |-;exact h)|(rename_i x y;have aa:=iY y (by simp[Op.operands]);simp only[cF,dw,aa]at h |-;exact h)|(rename_i x y z;have aa:=iY x (by simp[Op.operands]);have ab:=iY y (by simp[Op.operands]);simp only[cF,dw,aa,ab]at h |-;exact h)|(rename_i x y z;have aa:=iY y (by simp[Op.operands]);have ab:=iY z (by simp[Op.operands]);simp only[cF,dw,aa,ab]at h |-;exact h)|(rename_i o x y z u;have aa:=iY y (by simp[Op.operands]);have ab:=iY z (by simp[Op.operands]);simp only[cF,dw,aa,ab]at h |-;exact h)|(rename_i x y z u;have aa:=iY z (by simp[Op.operands]);have ab:=iY y (by simp[Op.operands]);simp only[cF,dw,aa,ab]at h |-;exact h)
end
section
variable{X:cV}{C:dB}{I:aI}{M:List aD}
def afI{op:BinOp}{c7:Option dD}{x y:dA}{V:Value->Prop}{O:Prop}(h:lK op c7 x y V O) :
  (∃ r,V r/\∀ rh,lK op c7 x y (λz=>z=r) rh)\/(O/\∀ (N7:Value->Prop) (rh:Prop),rh->lK op c7 x y N7 rh):=by
 unfold lK at h;split at h
 ·left
  split at h;·obtain⟨j,ai,⟨r,af,ae⟩⟩:=h;exact⟨_,ae,λrh=>by unfold lK;exact⟨j,ai,⟨r,af,rfl⟩⟩⟩
  ·obtain⟨j,ai,ae⟩:=h;exact⟨_,ae,λrh=>by unfold lK;exact⟨j,ai,rfl⟩⟩
  ·rename_i _ _ k a eZ b _ fo ik;cases fc:IntKind.mI k eZ with
   |false=>rw[fc]at h;exact h.elim
   |true=>
    rw[fc]at h;simp only[ca]at h;cases op<;>simp only at h
    case add=>obtain⟨r,af,ae⟩:=h;exact⟨_,ae,λrh=>by simp only[lK,fc,ca];exact⟨r,af,rfl⟩⟩
    case sub=>obtain⟨r,af,ae⟩:=h;exact⟨_,ae,λrh=>by simp only[lK,fc,ca];exact⟨r,af,rfl⟩⟩
    case mul=>obtain⟨r,af,ae⟩:=h;exact⟨_,ae,λrh=>by simp only[lK,fc,ca];exact⟨r,af,rfl⟩⟩
    case quo=>obtain⟨az,⟨r,af,ae⟩⟩:=h;exact⟨_,ae,λrh=>by simp only[lK,fc,ca];exact⟨az,⟨r,af,rfl⟩⟩⟩
    case rem=>obtain⟨az,ae⟩:=h;exact⟨_,ae,λrh=>by simp only[lK,fc,ca];first | exact⟨az,rfl⟩ | exact⟨az,trivial⟩⟩
    case shl=>exact(fo rfl).elim
    case shr=>exact(ik rfl).elim
    all_goals exact⟨_,h,λrh=>by simp only[lK,fc,ca];rfl⟩
 ·cases op<;>first
  |exact .inl ⟨_,h,λ_=>rfl⟩| exact .inr ⟨h,λ_ _ aH=>aH⟩
 ·split at h
  ·cases op<;>first
   |exact .inl ⟨_,h,λ_=>rfl⟩| exact .inr ⟨h,λ_ _ aH=>aH⟩
  ·rename_i aB;refine .inr ⟨h,λN7 rh aH=>?_⟩;cases c7 with
   |none=>exact aH
   |some i=>
    obtain⟨s,b,z,bL⟩:=i;cases bL<;>first
     |exact aH| exact(aB _ _ _ rfl).elim
 ·rename_i aa ab ak;refine .inr ⟨h,λN7 rh aH=>?_⟩;unfold lK;split<;>first
   |exact aH| exact(aa _ _ _ _ rfl rfl).elim| exact(ab _ _ rfl rfl).elim| exact(ak _ _ rfl rfl).elim
def afJ{V:dA->Prop}(h:cF X op ρ C I M V False):∃ x,V x/\cF X op ρ C I M (λy=>y=x) False:=by
 cases op
 case move x=>exact⟨_,h,rfl⟩
 case assign x=>exact⟨_,h,rfl⟩
 case pick c p q=>
  simp only[cF]at h |-;split at h;·exact⟨_,h,rfl⟩
  ·exact⟨_,h,rfl⟩
  ·exact h.elim
 case unOp op t x=>
  simp only[cF]at h |-;split at h;·exact⟨_,h,rfl⟩
  ·exact⟨_,h,rfl⟩
  ·obtain⟨r,af,ae⟩:=h;exact⟨_,ae,⟨r,af,rfl⟩⟩
  ·exact h.elim
 case binOp op t x y ty=>
  simp only[cF]at h |-;rcases afI h with⟨r,aa,ab⟩ | ⟨⟨l9,fD,r,aC,aP,af,ae⟩ | aa,ab⟩
  ·refine⟨_,aa,?_⟩;have:(λv=>dA.val v=dA.val r)=(λz=>z=r):=by funext v;simp
   rw[this];exact ab _
  ·exact⟨_,ae,ab _ _ (.mk l9 fD r aC aP af rfl)⟩
  ·exact aa.elim
 case load t x=>
  simp only[cF]at h |-;split at h
  ·split at h
   ·split at h
    ·rename_i i hi _ s off ar _ cs ap;cases bp:Nat.ble (off+i.size) cs.length with
     |false=>rw[bp]at h;exact h.elim| true=>rw[bp]at h;exact⟨_,h,rfl⟩
    ·exact h.elim
   ·obtain⟨vs,af,ae⟩:=h;exact⟨_,ae,⟨vs,af,rfl⟩⟩
   ·exact h.elim
  ·exact h.elim
 case nilCheck x=>
  simp only[cF]at h |-;split at h;·exact⟨_,h,rfl⟩
  ·exact⟨_,h,rfl⟩
  ·exact h.elim
 case fieldAddr t x i=>
  simp only[cF]at h |-;split at h
  ·split at h
   ·split at h
    ·rename_i hh s o' lb ad;cases bb:Nat.beq hh.size 0 with
     |true=>rw[bb]at h;exact h.elim| false=>rw[bb]at h;exact⟨_,h,rfl⟩
    ·rename_i hh s lb ad;cases bb:Nat.beq hh.size 0 with
     |true=>rw[bb]at h;exact h.elim| false=>rw[bb]at h;exact⟨_,h,rfl⟩
    ·exact h.elim
   ·exact h.elim
  ·exact h.elim
 case field t x i=>
  simp only[cF]at h |-;split at h
  ·split at h
   ·split at h
    ·rename_i sz hC z cN cs av ad _ fm off q3 _ hh lb;cases bp:Nat.ble (off+hh.size) cs.size with
     |false=>rw[bp]at h;exact h.elim| true=>rw[bp]at h;exact⟨_,h,rfl⟩
    ·exact h.elim
   ·exact h.elim
  ·exact h.elim
 case indexAddr t x i=>
  simp only[cF]at h |-;split at h
  ·split at h
   ·obtain⟨aS,j,aa,ab,ak,ae⟩:=h;exact⟨_,ae,⟨aS,j,aa,ab,ak,rfl⟩⟩
   ·exact h.elim
  ·split at h
   ·obtain⟨j,ab,ak,ae⟩:=h;exact⟨_,ae,⟨j,ab,ak,rfl⟩⟩
   ·obtain⟨j,ab,ak,ae⟩:=h;exact⟨_,ae,⟨j,ab,ak,rfl⟩⟩
   ·exact h.elim
  ·exact h.elim
 case index t x i=>
  simp only[cF]at h |-;split at h;·obtain⟨j,ab,ak,ae⟩:=h;exact⟨_,ae,⟨j,ab,ak,rfl⟩⟩
  ·split at h
   ·rename_i n e cs gb k av ad hi _ aF hq;cases bb:Nat.beq (n*aF.size) cs.size with
    |false=>rw[bb]at h;exact h.elim| true=>rw[bb]at h;obtain⟨j,ab,ak,ae⟩:=h;exact⟨_,ae,⟨j,ab,ak,rfl⟩⟩
   ·exact h.elim
  ·exact h.elim
 case build t ps=>
  simp only[cF]at h |-;split at h
  ·split at h
   ·rename_i i vs av iH _ cN nT;cases aC:C7 X.E cN with
    |false=>rw[aC]at h;exact h.elim
    |true=>
     rw[aC]at h;simp only[ca]at h |-;split at h;·exact⟨_,h,rfl⟩
     ·exact h.elim
   ·split at h
    ·split at h
     ·exact⟨_,h,rfl⟩
     ·exact h.elim
    ·exact h.elim
   ·exact h.elim
  ·exact h.elim
 case makeFunc fn first captured=>
  simp only[cF]at h |-;split at h;·exact⟨_,h,rfl⟩
  ·exact h.elim
 case slice t x lo hi mx=>
  simp only[cF]at h |-;split at h
  ·split at h
   ·exact⟨_,h,rfl⟩
   ·obtain⟨l,m,aa,ab,ak,aJ,ae⟩:=h;exact⟨_,ae,⟨l,m,aa,ab,ak,aJ,rfl⟩⟩
   ·obtain⟨l,m,aa,ab,ak,aJ,ae⟩:=h;exact⟨_,ae,⟨l,m,aa,ab,ak,aJ,rfl⟩⟩
   ·obtain⟨l,m,aa,ab,ak,aJ,ae⟩:=h;exact⟨_,ae,⟨l,m,aa,ab,ak,aJ,rfl⟩⟩
   ·exact h.elim
  ·split at h
   ·exact⟨_,h,rfl⟩
   ·obtain⟨l,m,aa,ab,ak,aJ,ae⟩:=h;exact⟨_,ae,⟨l,m,aa,ab,ak,aJ,rfl⟩⟩
   ·obtain⟨l,m,aa,ab,ak,aJ,ae⟩:=h;exact⟨_,ae,⟨l,m,aa,ab,ak,aJ,rfl⟩⟩
   ·obtain⟨l,m,aa,ab,ak,aJ,ae⟩:=h;exact⟨_,ae,⟨l,m,aa,ab,ak,aJ,rfl⟩⟩
   ·exact h.elim
  ·split at h
   ·obtain⟨l,m,aa,ab,ak,aJ,ae⟩:=h;exact⟨_,ae,⟨l,m,aa,ab,ak,aJ,rfl⟩⟩
   ·exact h.elim
  ·exact h.elim
 case extract x i=>
  simp only[cF]at h |-;split at h
  ·split at h
   ·exact⟨_,h,rfl⟩
   ·exact h.elim
  ·exact h.elim
 case convert s d x=>
  simp only[cF]at h |-;split at h;·obtain⟨r,af,ae⟩:=h;exact⟨_,ae,⟨r,af,rfl⟩⟩
  ·exact h.elim
 case call c=>
  obtain⟨callee,args,argTypes⟩:=c;cases callee with
  |value f=>exact h.elim| invoke r m=>exact h.elim
  |builtin b=>
   cases b
   case len=>
    simp only[cF]at h |-;split at h
    ·split at h
     ·exact⟨_,h,rfl⟩
     ·exact⟨_,h,rfl⟩
     ·exact⟨_,h,rfl⟩
     ·exact h.elim
    ·exact h.elim
   case cap=>
    simp only[cF]at h |-;split at h
    ·split at h
     ·exact⟨_,h,rfl⟩
     ·exact h.elim
    ·exact h.elim
   case max=>
    simp only[cF]at h |-;split at h;·exact⟨_,h,rfl⟩
    ·exact h.elim
   case min=>
    simp only[cF]at h |-;split at h;·exact⟨_,h,rfl⟩
    ·exact h.elim
   case unsafeSliceData=>
    simp only[cF]at h |-;split at h;·exact⟨_,h,rfl⟩
    ·obtain⟨aa,ab⟩:=h;exact⟨_,ab,⟨aa,rfl⟩⟩
    ·exact h.elim
   all_goals exact h.elim
 all_goals exact h.elim
end
def h6.mono{I:aI}{b:Nat}{o:Obj}(h:h6 I M b o)(bt:∀ b o,I b=some o->I' b=some o)(a':∀ x∈M,x∈M'):h6 I' M' b o:=by
 rcases h with h | ⟨x,ad,aa,ab⟩
 ·exact .inl (bt _ _ h)
 ·exact .inr ⟨x,a' x ad,aa,ab⟩
def h6.move{I:aI}{b:Nat}{o:Obj}(h:h6 I M b o)(bt:∀ b o,I b=some o->I' b=some o)(a':∀ x∈M,I' x.num=some x.obj\/x∈M'):h6 I' M' b o:=by
 rcases h with h | ⟨x,ad,rfl,rfl⟩
 ·exact .inl (bt _ _ h)
 ·rcases a' x ad with h | h
  ·exact .inl h
  ·exact .inr ⟨x,h,rfl,rfl⟩
def UY(F:Fr)(op:Op)(C C':dB)(I I':aI)(M M':List aD):Prop:=(∀ t x y s off,op=.store t x y->di F x=.ref s off->((∀ b3,b3≠s->C' b3=C b3)/\∀ b o,I b=some o->I' b=some o)/\∀ b o,h6 I M b o->h6 I' M' b o)/\(∀ t x y aS,op=.store t x y->di F x=.val (.pointer (some aS))->C'=C/\∀ b o,I b=some o->I' b=some o)/\((∀ t x y,op≠.store t x y)->C'=C/\∀ b o,I b=some o->I' b=some o)
def afK(X:cV)(β:Nat->Nat)(G F:Fr)(C:dB)(I:aI)(M:List aD)(afL:Bool)(op:Op)(dst:Option Nat)(a:Act)(K:gd)(bM:Act)(w':World):Prop:=
 ∃ v x C' I' M',bM=a.put dst v/\eU β x v/\cH X β a w' G C' I' M'/\K (put dst x F) C' I' M'/\((afL=true/\UY F op C C' I I' M M')\/(C'=C/\(∀ b o,I b=some o->I' b=some o)/\∀ b o,h6 I M b o->h6 I' M' b o))
def afM{X:cV}{a:Act}{F G:Fr}{I:aI}{o:Oper}{K:gd}(aM:cU X.P X.E)
  (h:cH X β a w G C I M) (iZ:∀ y∈o.op.operands,di G y=di F y) (ah:vN X false soft o F C I M K):o.wpIn (g3 X) 0 X.P a w (afK X β G F C I M soft o.op o.dst a K) Q:=by
 obtain⟨dst,op,ty,pos,after,guard⟩:=o;have aA:=h.al;have oA:∀ {y:Operand} {v:Value},y∈op.operands->bE F y=.val v->a.eval y=v:=fun {y v} aE he=>dc aA (by simp only[bE,dw,iZ y aE];exact he);cases op
 case alloc t=>
  simp only[vN,b']at ah;split at ah
  ·rename_i d i hi;obtain⟨z,bb,xg⟩:=(aM _ _ hi).FO w;have Db:z.cells=i.zero.toArray:=by rw[<-xg]
   obtain⟨ah⟩:=ah;have ae:=ah w.heap.size h.holds.r8 h.holds.q1;refine iV (by simp) (v:=.pointer (some ⟨w.heap.size,0,none⟩)) (w':=w.alloc (.cells i.zero.toArray t (0,0))) ?_ ⟨_,.val _,_,_,_,rfl,rfl,h.nS _,ae,.inr ⟨rfl,λ_ _ h=>h,λb o ag=>ag.mono (λ_ _ h=>h) (λx ad=>by simp[ad])⟩⟩;simp[execOp,Instr.alloc,newVar,newRow,bb,Db,AS]
  ·exact ah.elim
 case store t x y=>
  simp only[vN,b']at ah;cases soft with
  |false=>exact ah.elim
  |true=>
   simp only[ca,gT]at ah;split at ah
   ·rename_i i v hi aE;have s8:=oA (by simp[Op.operands]) aE;split at ah
    ·rename_i s off ad;have km:=AW aA ((iZ x (by simp[Op.operands])).trans ad);split at ah
     ·rename_i cs ar;cases bp:(Nat.ble (off+i.size) cs.length&&(Nat.beq v.cells.size i.size&&gm v.cells.toList))with
      |false=>rw[bp]at ah;exact ah.elim
      |true=>
       rw[bp]at ah;simp only[cB]at bp;obtain⟨bp,dj,pq⟩:=bp;have kP:=bJ bp;have A3:=dQ dj;obtain⟨T,bs⟩:=(h.cf s cs ar).dU;have:=Jz (aM _ _ hi) (a:=⟨β s,off,none⟩) (v:=v) rfl bs A3 (by simp;omega) pq;refine C8 (by simp) (w':=w.setRow (β s) (ck cs off v.cells.toList).toArray) ?_ ⟨undef,.nl,_,_,_,rfl,trivial,h.Uq ar (ck cs off v.cells.toList),ah,.inl ⟨rfl,λbm ld Gc b3 Jx aG a7=>(by
        cases aG;rw[ad]at a7;cases a7;refine⟨⟨λs2 bn=>?_,λ_ _ h=>h⟩,λ_ _ h=>h⟩;unfold jo;rw[hp bn];rfl),λbm ld Gc y2 aG a7=>(by
        cases aG;rw[ad]at a7;cases a7),λme=>absurd rfl (me _ _ _)⟩⟩
       simp only[execOp,Instr.storeAt,km,s8,Instr.sureAddr,cj,c0,bV];simp only[NJ]at this;rw[this];rfl
     ·exact ah.elim
    ·rename_i aS ad;have km:=uj aA ((iZ x (by simp[Op.operands])).trans ad);cases dj:Nat.beq v.cells.size i.size with
     |false=>rw[dj]at ah;exact ah.elim| true=>rw[dj]at ah;obtain⟨a9,post,cs,T,a',dK,ag,pq,ae⟩:=ah;have A3:=dQ dj;have au:w.heap[aS.block]?=some (.cells cs T (0,0)):=h.holds.m ⟨aS.block,.cells cs T (0,0)⟩ (by rw[a'];simp);have:=Jz (aM _ _ hi) (v:=v) dK au A3 ag pq;refine C8 (by simp) (w':=w.setRow aS.block (ck cs.toList aS.off v.cells.toList).toArray) ?_ ⟨undef,.nl,_,_,_,rfl,trivial,h.xe a',ae,.inl ⟨rfl,λbm ld Gc b3 Jx aG a7=>(by cases aG;rw[ad]at a7;cases a7),λ_ _ _ _ _ _=>⟨rfl,λ_ _ h=>h⟩,λme=>absurd rfl (me _ _ _)⟩⟩;simp only[execOp,Instr.storeAt,km,s8,Instr.sureAddr,cj,c0,bV];rw[this];rfl
    ·exact ah.elim
   ·exact ah.elim
 case buildSlice t len parts=>
  simp only[vN,b',gT]at ah;have afN:AV G parts.toList=AV F parts.toList:=N6 λy aE=>iZ y (by simpa[Op.operands]using aE);rw[<-afN]at ah;split at ah
  ·rename_i sz hC z e vs av iH;have hu:=(aM _ _ av).slice;have aC:=Jv aA iH;have yM:(parts.map λ(i,x)=>(i,a.eval x)).toList=vs:=by simpa using aC
   split at ah
   ·rename_i aF hq;cases bb:(Nat.ble (len*aF.size) 16777216&&Nat.blt 0 (len*aF.size))with
    |false=>
     rw[bb]at ah;simp only[b']at ah;split at ah
     ·rename_i afi;obtain⟨ah⟩:=ah;have ae:=ah w.heap.size h.holds.r8 h.holds.q1;refine iV (by simp) (v:=.slice (some ⟨w.heap.size,0,none⟩) 0 0) (w':=w.alloc (.cells #[] e (0,0))) ?_ ⟨_,.val _,_,_,_,rfl,rfl,h.nS _,ae,.inr ⟨rfl,λ_ _ h=>h,λb o ag=>ag.mono (λ_ _ h=>h) (λx ad=>by simp[ad])⟩⟩;simp only[execOp,Instr.buildSlice,cj,bV,run_underlying hu,(aM _ _ hq).run_sizeOf,yM];have dF:∀ f:Nat->Value,Array.map f (Array.range 0)=#[]:=λf=>by apply Array.ext<;>simp
      simp[newRow,AS,Instr.fill,dF]
     ·exact ah.elim
    |true=>
     rw[bb]at ah;simp only[ca]at ah;rw[cB]at bb;have bp:=bJ bb.1;have ot:0<len*aF.size:=by simpa using bb.2
     split at ah;·rename_i cells xh;obtain⟨s9,A4,xg⟩:=(aM _ _ hq).FO w;obtain⟨ah⟩:=ah;have ae:=ah w.heap.size h.holds.r8 h.holds.q1;refine iV (by simp) (v:=.slice (some ⟨w.heap.size,0,none⟩) len len) (w':=w.alloc (.cells cells.toArray e (0,0))) ?_ ⟨_,.val _,_,_,_,rfl,rfl,h.nS _,ae,.inr ⟨rfl,λ_ _ h=>h,λb o ag=>ag.mono (λ_ _ h=>h) (λx ad=>by simp[ad])⟩⟩;have vI:=fill_eq _ _ _ _ xh;simp only[execOp,Instr.buildSlice,cj,bV,run_underlying hu,(aM _ _ hq).run_sizeOf];rw[bU (by omega)];simp only[bU (show ¬ len*aF.size=0 by omega),cj,A4,bV,c0,yM,Uy s9 aF.zero xg,vI];simp[newRow,AS]
     ·exact ah.elim
   ·exact ah.elim
  ·exact ah.elim
 case makeSlice t l c=>
  simp only[vN,b',gT]at ah;split at ah
  ·rename_i sz hC z e gy dL dq c' av ay ap;have hu:=(aM _ _ av).slice;have ou:=oA (by simp[Op.operands]) ay;have y3:=oA (by simp[Op.operands]) ap;split at ah
   ·rename_i aF hq;obtain⟨n,m,rfl,rfl,h9,ag,hm,⟨ah⟩⟩:=ah;have ae:=ah w.heap.size h.holds.r8 h.holds.q1;obtain⟨inf,s9,fh,iJ,il,ko,A5⟩:=(aM _ _ hq).inf;refine iV (by simp) (v:=.slice (some ⟨w.heap.size,0,none⟩) n m) (w':=w.alloc (.cells (rowOf aF.zero (m*aF.size)).toArray e (0,0))) ?_ ⟨_,.val _,_,_,_,rfl,rfl,h.nS _,ae,.inr ⟨rfl,λ_ _ h=>h,λb o ag=>ag.mono (λ_ _ h=>h) (λx ad=>by simp[ad])⟩⟩;have gU:((aF.bytes:Nat):Int)*(m:Int)<=281474976710656:=by
     have ab:((aF.bytes*m:Nat):Int)<=281474976710656:=by omega
     simpa using ab
    have:=run_make (P:=X.P) w t e inf s9 hu fh ko gy dq (n:Int) (m:Int) (by omega) (by omega) (by rw[il];exact gU) (by omega);simp only[execOp,ou,y3,cj,this,bV,c0,gl];have aG:madeCells s9.cells (m*inf.size)=(rowOf aF.zero (m*aF.size)).toArray:=by rw[iJ,<-A5];simp[vF]
    rw[aG]
   ·exact ah.elim
  ·exact ah.elim
 case call c=>
  obtain⟨callee,args,argTypes⟩:=c;cases callee with
  |value f=>
   simp only[vN,b']at ah;split at ah
   ·rename_i g first cap vs nn iH
    have afO:mH G args.toList=some vs:=by rw[<-iH];exact xn λy aE=>iZ y (by simp only[Op.operands,Call.operands];simp;right;simpa using aE)
    have afP:=oA (by simp[Op.operands,Call.operands]) nn;obtain⟨I1,ep,Mr,post,afQ,cn,ar,ae⟩:=ah.elim ⟨h.holds.d,h.holds.cd⟩;have aG:=s5 aA afO;have ej:args.map a.eval=vs.toArray:=by apply gS;simpa using aG
    have e9:∀ {n:Next} {w':World},(callFunc g (first.toList++vs++cap.toList).toArray).run X.P w=.ok n w'->(execOp a.eval ⟨dst,.call { callee:=.value f,args,argTypes },ty,pos,after,guard⟩).run X.P w=.ok n w':=λaf=>by simp only[execOp,resolve,afP,Deferred.ofValue,cj,c0,bV,ej,invoke];rw[show first++vs.toArray++cap=(first.toList++vs++cap.toList).toArray from by apply gS;simp];exact af
    have JN:∀ {I':aI} {M':List aD},(∀ b o,I b=some o->I' b=some o)->(soft=true\/∀ x∈M,I' x.num=some x.obj\/x∈M')->(soft=true/\UY F (.call { callee:=.value f,args,argTypes }) C C I I' M M')\/(C=C/\(∀ b o,I b=some o->I' b=some o)/\∀ b o,h6 I M b o->h6 I' M' b o):=λaa ab=>by
     rcases ab with ab | ab;·exact .inl ⟨ab,⟨λt x y s off e _=>(by cases e),λt x y aS e _=>(by cases e),λ_=>⟨rfl,aa⟩⟩⟩
     ·exact .inr ⟨rfl,aa,λb o ag=>ag.move aa ab⟩
    rcases h.call (KC:=λv I' M'=>(∀ b o,I b=some o->I' b=some o)/\(soft=true\/∀ x∈M,I' x.num=some x.obj\/x∈M')/\K (Go.V.put dst (.val v) F) C I' M') (.C6 I1 ep Mr post afQ ar λv I' M' bp aj aC=>⟨λb o ag=>bp _ _ (cn _ _ ag),(ae v I' M' bp aj aC).1,(ae v I' M' bp aj aC).2⟩)with⟨p7,A6⟩ | ⟨v,w',I',M',af,⟨aa,ab,ae⟩,eY⟩;·refine Ux (by simp) (f:=g) (args:=(first.toList++vs++cap.toList).toArray) (e9 (p7 _ _)) ?_;refine A6.mono ?_;rintro e w'⟨v,I',M',rfl,⟨aa,ab,ae⟩,af⟩;exact⟨v,rfl,v,.val v,C,I',M',rfl,rfl,af,ae,JN aa ab⟩
    ·exact iV (by simp) (e9 af) ⟨v,.val v,C,I',M',rfl,rfl,eY,ae,JN aa ab⟩
   ·exact ah.elim
  |invoke r m=>exact ah.elim
  |builtin b=>
   cases b
   case append=>
    simp only[vN,b']at ah;cases soft with
    |false=>exact ah.elim| true=>simp only[ca]at ah;obtain⟨ah⟩:=ah G iZ;refine sZ (λbM w'=>?_) (ah β a w Q h);rintro⟨v,x,I',M',aa,ab,ak,aJ,N8⟩;exact⟨v,x,C,I',M',aa,ab,ak,aJ,.inl ⟨rfl,⟨λt x y s off e _=>(by cases e),λt x y aS e _=>(by cases e),λ_=>⟨rfl,λb o h=>by rw[N8];exact h⟩⟩⟩⟩
   case copy=>
    simp only[vN,b']at ah;cases soft with
    |false=>exact ah.elim| true=>simp only[ca]at ah;obtain⟨ah⟩:=ah G iZ;refine sZ (λbM w'=>?_) (ah β a w Q h);rintro⟨v,x,I',M',aa,ab,ak,aJ,N8⟩;exact⟨v,x,C,I',M',aa,ab,ak,aJ,.inl ⟨rfl,⟨λt x y s off e _=>(by cases e),λt x y aS e _=>(by cases e),λ_=>⟨rfl,λb o h=>by rw[N8];exact h⟩⟩⟩⟩
   all_goals exact ah.elim
 all_goals exact ah.elim
def tc(x y:dA):Prop:=∀ β u,eU β x u->eU β y u
def tc.refl(x:dA):tc x x:=λ_ _ h=>h
def tc.trans{x y z:dA}(h:tc x y)(bd:tc y z):tc x z:=fun β u hu=>bd β u (h β u hu)
structure vQ(ops:List Oper):Prop where
 lt:∀ j e,mL ops j e->e<j
 own:∀ (j:Nat) (o:Oper) (d:Nat),ops[j]?=some o->o.dst=some d->d ∉ looks ops o
 N9:∀ (i j:Nat) (gA mK:Oper) (d:Nat),i≠j->ops[i]?=some gA->ops[j]?=some mK->gA.dst=some d->mK.dst≠some d
 ord:∀ (i j:Nat) (gA mK:Oper) (d:Nat),i≠j->ops[i]?=some gA->ops[j]?=some mK->gA.dst=some d->d∈looks ops mK->px ops i j\/px ops j i
def UZ(h:Be ops=true):vQ ops:=by
 have key:∀ (j:Nat) (mK:Oper),ops[j]?=some mK->_:=λj mK ai=>by have aV:j<ops.length:=(h5.1 ai).1;have aa:=fx.1 h j (g'.2 aV);simp only[ai,cB]at aa;exact aa
 refine⟨?_,?_,?_,?_⟩
 ·rintro j e⟨o,nt,aH,ri,ag,rfl⟩;have aa:=fx.1 (key j o aH).1 nt (by simpa using ri);rw[ag]at aa;simpa using aa
 ·intro j o d aH aj;have aa:=(key j o aH).2.1;rw[aj]at aa;simpa using aa
 ·intro i j gA mK d bn hi ai aj fy;have aV:i<ops.length:=(h5.1 hi).1;have aa:=fx.1 (key j mK ai).2.2 i (g'.2 aV);rw[hp bn]at aa;simp only[hi,aj,ur,cB]at aa;rw[fy]at aa;simp at aa
 ·intro i j gA mK d bn hi ai aj ay;have aV:i<ops.length:=(h5.1 hi).1;have aa:=fx.1 (key j mK ai).2.2 i (g'.2 aV);rw[hp bn]at aa;simp only[hi,aj,ur,cB,kQ]at aa;rcases aa.2 with ab | ab | ab
  ·have:(looks ops mK).contains d=true:=by simpa using ay
   rw[this]at ab;cases ab
  ·exact .inl (y1 ab)
  ·exact .inr (y1 ab)
def i'(ops:List Oper)(i:Nat):Option Nat:=(ops[i]?).bind (·.dst)
def kR(L:Nat->Prop)(p i:Nat):Prop:=p.testBit i=true/\¬ L i
def y4(ops:List Oper)(o:Oper)(F:Fr):Prop:=match o.guard with
 |none=>True| some (j,b)=>∃ d,i' ops j=some d/\F d=.lit b
def JO(ops:List Oper)(o:Oper)(F:Fr):Prop:=∃ j b d,o.guard=some (j,b)/\i' ops j=some d/\(F d=.lit (!b)\/∃ vs,F d=.val (.tuple vs))
def N'{o:Oper}{j d:Nat}{b:Bool}(au:o.guard=some (j,b))(aj:i' ops j=some d):d∈looks ops o:=by unfold looks Oper.looksAt;refine ra _ ?_;rw[au];simp only[Option.mem_toList];simpa[i']using aj
def Oa{o:Oper}{t:Nat}(h:Operand.tmp t∈o.op.operands):t∈looks ops o:=
 jr _ (List.mem_filterMap.2 ⟨.tmp t,by simpa using h,rfl⟩)
def U0{o:Oper}{F:Fr}{a:Act}(h:y4 ops o F)(bG:∀ t∈looks ops o,eU β (F t) (a.tmps.getD t undef)):Region.wanted o (yielded ops.toArray a.tmps)=true:=by
 unfold y4 at h;unfold Region.wanted;cases au:o.guard with
 |none=>rfl| some FT=>obtain⟨j,b⟩:=FT;rw[au]at h;obtain⟨d,aj,ay⟩:=h;have aa:=bG d (N' au aj);rw[ay]at aa;have aE:=FR (ops:=ops.toArray) (j:=j) (d:=d) (by simpa[i']using aj) a.tmps;simp[aE,Dd aa]
def U1{o:Oper}{F:Fr}{a:Act}(h:JO ops o F)(bG:∀ t∈looks ops o,eU β (F t) (a.tmps.getD t undef)):Region.wanted o (yielded ops.toArray a.tmps)=false:=by
 obtain⟨j,b,d,au,aj,ay⟩:=h;unfold Region.wanted;have aa:=bG d (N' au aj);have aE:=FR (ops:=ops.toArray) (j:=j) (d:=d) (by simpa[i']using aj) a.tmps;rw[au];rcases ay with ay | ⟨vs,ay⟩
 ·rw[ay]at aa;simp[aE,Dd aa]
 ·rw[ay]at aa;have um:yielded ops.toArray a.tmps j=none:=by
   rw[aE];cases kp:a.tmps[d]? with
   |none=>rfl| some v=>simp only[eU,pj,kp,jV]at aa;subst aa;rfl
  simp[um]
def U2{o:Oper}{F:Fr}{run skip:Fr->Prop}(h:JL ops o F run skip):∃ lN,(∀ t,tc (F t) (lN t))/\((y4 ops o lN/\run lN)\/(JO ops o lN/\skip lN)):=by
 unfold JL at h;cases au:o.guard with
 |none=>rw[au]at h;exact⟨F,λt=>.refl _,.inl ⟨by simp[y4,au],h⟩⟩
 |some FT=>
  obtain⟨j,b⟩:=FT;rw[au]at h;simp only at h;split at h;·exact h.elim
  ·rename_i d aj;have fy:i' ops j=some d:=aj;split at h
   ·rename_i c ap;refine⟨F,λt=>.refl _,?_⟩;cases jG:(c == b)with
    |true=>
     rw[jG]at h;have jG:c=b:=by simpa using jG
     subst jG;exact .inl ⟨by simp only[y4,au];exact⟨d,fy,ap⟩,h⟩
    |false=>
     rw[jG]at h;have JP:c=!b:=by cases c<;>cases b<;>simp_all
     subst JP;exact .inr ⟨⟨j,b,d,au,fy,.inl ap⟩,h⟩
   ·rename_i c ap;obtain⟨aa,ab⟩:=h;have hs:∀ x,c=x->∀ t,tc (F t) (fY F d (.lit x) t):=λx ad t=>by
     unfold fY;by_cases e:t=d;·subst e;subst ad;simp only[q0,ca,ap];exact λ_ _ h=>h
     ·simp only[hp e,b'];exact .refl _
    have self:∀ x,fY F d (.lit x) d=.lit x:=λx=>by simp[fY]
    by_cases jG:c=b;·exact⟨_,hs b jG,.inl ⟨by simp only[y4,au];exact⟨d,fy,self b⟩,aa jG⟩⟩
    ·have JP:c=!b:=by cases c<;>cases b<;>simp_all
     exact⟨_,hs _ JP,.inr ⟨⟨j,b,d,au,fy,.inl (self _)⟩,ab JP⟩⟩
   ·rename_i vs ap;exact⟨F,λt=>.refl _,.inr ⟨⟨j,b,d,au,fy,.inr ⟨vs,ap⟩⟩,h⟩⟩
   ·exact h.elim
structure afR(X:cV)(ops:List Oper)(im':Nat->Bool)(L:Nat->Prop)(p:Nat)(cf:List (Nat×Nat))(β:Nat->Nat)(a:Act)(F:Fr)(C:dB)(I:aI)(M:List aD)(ht:Nat->dA)(gK:Nat->Fr)(q:Nat)(o:Oper):Prop where
 quiet:Dj o.op=true
 hs:∀ d,o.dst=some d->tc (ht q) (F d)
 b:∀ t∈looks ops o,∀ i,kR L p i->px ops i q->i' ops i=some t->tc (ht i) (gK q t)
 a:∀ t∈looks ops o,(∀ i,kR L p i->px ops i q->i' ops i≠some t)->eU β (gK q t) (a.tmps.getD t undef)
 r:(y4 ops o (gK q)/\cF X o.op (di (gK q)) C I (vO (im' q) M) (λx=>x=ht q) False/\∀ t x,o.op=.load t x->(q,JM (di (gK q) x))∈cf)\/(JO ops o (gK q)/\ht q=.val undef)
structure Inv(X:cV)(ops:List Oper)(im':Nat->Bool)(L:Nat->Prop)(β:Nat->Nat)(a:Act)(w:World)(F:Fr)(C:dB)(I:aI)(M:List aD)(p:Nat)(cf:List (Nat×Nat))(ht:Nat->dA)(gK:Nat->Fr):Prop where
 rel:cH X β a w (λ_=>.nl) C I M
 sub:∀ i,L i->p.testBit i=true
 vR:Bf ops L
 rj:Bf ops (λi=>p.testBit i=true)
 T:∀ t,(∀ i,kR L p i->i' ops i≠some t)->eU β (F t) (a.tmps.getD t undef)
 y5:∀ q,kR L p q->∃ o,ops[q]?=some o/\afR X ops im' L p cf β a F C I M ht gK q o
def mM{p q i:Nat}:(p ||| 2^q).testBit i=true ↔ p.testBit i=true\/i=q:=by simp only[JK,kQ,JJ,hR];exact⟨λh=>h.imp id Eq.symm,λh=>h.imp id Eq.symm⟩
section
variable{X:cV}{ops:List Oper}{im':Nat->Bool}{L:Nat->Prop}{β:Nat->Nat}{a:Act}{w:World}{F:Fr}{C:dB}{I:aI}{M:List aD}{p:Nat}{cf:List (Nat×Nat)}{ht:Nat->dA}{gK:Nat->Fr}{q:Nat}{o:Oper}
def Gd(h:ops[q]?=some o):i' ops q=o.dst:=by simp[i',h]
def Ge{i d:Nat}(h:i' ops i=some d):∃ gA,ops[i]?=some gA/\gA.dst=some d:=by unfold i' at h;exact JI.1 h
def Inv.ahead(dr:vQ ops)(U3:Bf ops (λi=>p.testBit i=true))(aP:ops[q]?=some o)(lj:p.testBit q=false){i t:Nat}(hi:p.testBit i=true)(av:t∈looks ops o)(aj:i' ops i=some t):px ops i q:=by
 obtain⟨gA,h',qf⟩:=Ge aj;have bn:i≠q:=λe=>by rw[e,lj]at hi;cases hi
 rcases dr.ord i q gA o t bn h' aP qf av with h | h
 ·exact h
 ·have:=h.mem U3 (λe he=>U3 i e hi he);rw[lj]at this;cases this
def Inv.afS(dr:vQ ops)(h:Inv X ops im' L β a w F C I M p cf ht gK)(aP:ops[q]?=some o)(lj:p.testBit q=false)(bl:∀ e,mL ops q e->L e):∀ t∈looks ops o,eU β (F t) (a.tmps.getD t undef):=λt av=>h.T t λi hi aj=>
 hi.2 ((Inv.ahead dr h.rj aP lj hi.1 av aj).mem h.vR bl)
def JQ{x:dA}{t:Nat}(h:dst≠some t):put dst x F t=F t:=by
 cases dst with
 |none=>rfl| some d=>have:t≠d:=λe=>h (by rw[e]);simp only[put,fY,hp this,b']
def put_eq{x:dA}{t:Nat}:put (some t) x F t=x:=by simp[put,fY]
def JR{t:Nat}(h:dst≠some t):(a.put dst v).tmps.getD t undef=a.tmps.getD t undef:=by
 cases dst with
 |none=>rfl| some d=>have:d≠t:=λe=>h (by rw[e]);simp only[Act.put,pj,C3,bU this]
def Ob{t:Nat}(h:t<a.tmps.size):(a.put (some t) v).tmps.getD t undef=v:=by rw[Um a t t v h,bQ rfl]
def Inv.record(dr:vQ ops)(h:Inv X ops im' L β a w F C I M p cf ht gK)(aP:ops[q]?=some o)(lj:p.testBit q=false)(y0:∀ e,mL ops q e->p.testBit e=true)(JS:Dj o.op=true)
 (td:∀ t,tc (F t) (lN t)) {x:dA} {Oc:List (Nat×Nat)} (q9:∀ s∈cf,s∈Oc) (af:(y4 ops o lN/\cF X o.op (di lN) C I (vO (im' q) M) (λy=>y=x) False/\∀ t y,o.op=.load t y->(q,JM (di lN y))∈Oc)\/(JO ops o lN/\x=.val undef)) :
  Inv X ops im' L β a w (put o.dst x lN) C I M (p ||| 2^q) Oc (λi=>if i=q then x else ht i) (λi=>if i=q then lN else gK i):=by
 have rk:¬ L q:=λe=>by have:=h.sub q e;rw[lj]at this;cases this
 have qg:∀ {i},kR L (p ||| 2^q) i->i≠q->kR L p i:=λhi bn=>⟨(mM.1 hi.1).resolve_right bn,hi.2⟩;have xo:∀ {i},kR L p i->kR L (p ||| 2^q) i:=λhi=>⟨mM.2 (.inl hi.1),hi.2⟩;have afT:kR L (p ||| 2^q) q:=⟨mM.2 (.inr rfl),rk⟩;have afU:∀ {i},kR L p i->¬ px ops q i:=fun {i} hi ag=>by have:=ag.mem h.rj (λe he=>h.rj i e hi.1 he);rw[lj]at this;cases this
 refine⟨h.rel,λi hi=>mM.2 (.inl (h.sub i hi)),h.vR,?_,?_,?_⟩
 ·intro j e ai he;rcases mM.1 ai with ai | rfl
  ·exact mM.2 (.inl (h.rj j e ai he))
  ·exact mM.2 (.inl (y0 e he))
 ·intro t av;have aa:o.dst≠some t:=λe=>av q afT (by rw[Gd aP,e]);rw[JQ aa];exact td t _ _ (h.T t λi hi=>av i (xo hi))
 ·intro i hi;by_cases nu:i=q
  ·subst nu;refine⟨o,aP,⟨JS,?_,?_,?_,?_⟩⟩
   ·intro d aj;rw[aj,put_eq];simp only[bQ];exact .refl _
   ·intro t av j ai ag vS;have JT:j≠i:=λe=>by subst e;have:=ag.mem h.rj y0;rw[lj]at this;cases this
    simp only[bU JT,bQ];obtain⟨mK,afV,mN⟩:=h.y5 j (qg ai JT);exact(mN.hs t (by rw[<-Gd afV];exact vS)).trans (td t)
   ·intro t av dY;simp only[bQ];refine td t _ _ (h.T t λj ai vS=>dY j (xo ai) (Inv.ahead dr h.rj aP lj ai.1 av vS) vS)
   ·simpa using af
  ·obtain⟨gA,h',mN⟩:=h.y5 i (qg hi nu);refine⟨gA,h',⟨mN.quiet,?_,?_,?_,?_⟩⟩
   ·intro d aj;simp only[bU nu];rw[JQ (dr.N9 i q gA o d nu h' aP aj)];exact(mN.hs d aj).trans (td d)
   ·intro t av j ai ag vS;have Gf:j≠q:=λe=>by subst e;exact afU (qg hi nu) ag
    simp only[bU nu,bU Gf];exact mN.b t av j (qg ai Gf) ag vS
   ·intro t av dY;simp only[bU nu];exact mN.a t av λj ai=>dY j (xo ai)
   ·simp only[bU nu];exact mN.r.imp (λ⟨aa,ab,ak⟩=>⟨aa,ab,λt x aG=>q9 _ (ak t x aG)⟩) id
def Inv.exec{yU:Act->World->Prop}(aM:cU X.P X.E)(dr:vQ ops)(hj:∀ d,o.dst=some d->d<X.n)(h:Inv X ops im' L β a w F C I M p cf ht gK)(aP:ops[q]?=some o)(aC:kR L p q)(bl:∀ e,mL ops q e->L e)
  (dX:∀ bM,Inv X ops im' (λi=>L i\/i=q) β bM w F C I M p cf ht gK->yU bM w):wpOpIn (g3 X) 0 X.P ops.toArray Q q yU a w:=by
 obtain⟨o',rl,mN⟩:=h.y5 q aC;rw[aP]at rl;cases rl;have Dk:∀ {i},px ops i q->¬ kR L p i:=λag hi=>hi.2 (ag.mem h.vR bl);have dH:∀ t∈looks ops o,eU β (gK q t) (a.tmps.getD t undef):=λt av=>mN.a t av λi hi ag=>(Dk ag hi).elim;have after:∀ v,eU β (ht q) v->Inv X ops im' (λi=>L i\/i=q) β (a.put o.dst v) w F C I M p cf ht gK:=λv ah=>by
  have qg:∀ {i},kR (λi=>L i\/i=q) p i->kR L p i/\i≠q:=λhi=>⟨⟨hi.1,λe=>hi.2 (.inl e)⟩,λe=>hi.2 (.inr e)⟩;have xo:∀ {i},kR L p i->i≠q->kR (λi=>L i\/i=q) p i:=λhi bn=>⟨hi.1,λe=>e.elim hi.2 bn⟩;refine⟨h.rel.put hj (x:=.nl) trivial |> λh=>h.refine λ_=>trivial,?_,?_,h.rj,?_,?_⟩
  ·rintro i (hi | rfl)
   ·exact h.sub i hi
   ·exact aC.1
  ·rintro j e (ai | rfl) he
   ·exact .inl (h.vR j e ai he)
   ·exact .inl (bl e he)
  ·intro t av;by_cases aj:o.dst=some t
   ·have aV:t<a.tmps.size:=by rw[h.rel.size];exact hj t aj
    rw[aj,Ob aV];exact mN.hs t aj _ _ ah
   ·rw[JR aj];refine h.T t λi hi qf=>?_;by_cases nu:i=q
    ·subst nu;rw[Gd aP]at qf;exact aj qf
    ·exact av i (xo hi nu) qf
  ·intro i hi;obtain⟨cX,nu⟩:=qg hi;obtain⟨gA,h',se⟩:=h.y5 i cX;refine⟨gA,h',⟨se.quiet,se.hs,λt av j ai=>se.b t av j (qg ai).1,?_,se.r⟩⟩;intro t av dY;by_cases aj:o.dst=some t
   ·have aV:t<a.tmps.size:=by rw[h.rel.size];exact hj t aj
    rw[aj,Ob aV];have ag:px ops q i:=by
     rcases dr.ord q i o gA t (po nu) aP h' aj av with ag | ag;·exact ag
     ·exact(Dk ag cX).elim
    exact se.b t av q aC ag (by rw[Gd aP,aj]) _ _ ah
   ·rw[JR aj];refine se.a t av λj ai ag vS=>?_;by_cases Gf:j=q
    ·subst Gf;rw[Gd aP]at vS;exact aj vS
    ·exact dY j (xo ai Gf) ag vS
 have Gg:ops.toArray[q]?=some o:=by simpa using aP
 unfold wpOpIn;simp only[Gg];rcases mN.r with⟨e9,Bg,-⟩ | ⟨Gh,ad⟩
 ·rw[U0 e9 dH,bQ rfl];let G:Fr:=λt=>if t∈looks ops o then gK q t else .nl
  have iZ:∀ t,eU β (G t) (a.tmps.getD t undef):=λt=>by
   by_cases av:t∈looks ops o;·simp only[G,bQ av];exact dH t av
   ·simp only[G,bU av];trivial
  have Od:∀ y∈o.op.operands,di G y=di (gK q) y:=λy aE=>by
   cases y with
   |tmp t=>simp only[di,G,bQ (Oa aE)]| const v=>cases v<;>rfl
   |global g=>rfl| func f=>rfl
  have afW:=UX Bg Od (C':=C) (I':=I) (M':=M) λ_ _ _=>⟨λ_ _ _=>rfl,λ_ _ _ h=>afD h⟩;obtain⟨dst,op,ty,pos,afX,guard⟩:=o;have bI:∀ c,op≠.defer c:=λc e=>by have:=mN.quiet;rw[e]at this;cases this
  rcases UC aM (h.rel.refine iZ) op ty dst pos afX guard afW with aa | ⟨v,x,gL,ad,rfl⟩;·exact aa.elim
  ·exact iV bI gL (dX _ (after v ad))
 ·rw[U1 Gh dH];simp only[k7,l5];exact⟨λ_ _=>trivial,dX _ (after undef (by rw[ad];rfl))⟩
end
section
variable{X:cV}{ops:List Oper}{im':Nat->Bool}{L:Nat->Prop}{β:Nat->Nat}{a:Act}{w:World}{F:Fr}{C:dB}{I:aI}{M:List aD}{p:Nat}{cf:List (Nat×Nat)}{ht:Nat->dA}{gK:Nat->Fr}{q:Nat}{o:Oper}
def Inv.refine(h:Inv X ops im' L β a w F C I M p cf ht gK)(td:∀ t,tc (F t) (lN t)):Inv X ops im' L β a w lN C I M p cf ht gK:=
 ⟨h.rel,h.sub,h.vR,h.rj,λt av=>td t _ _ (h.T t av),λi hi=>by
  obtain⟨gA,h',aC⟩:=h.y5 i hi;exact⟨gA,h',⟨aC.quiet,λd aj=>(aC.hs d aj).trans (td d),aC.b,aC.a,aC.r⟩⟩⟩
def Inv.step(dr:vQ ops)(hj:∀ d,o.dst=some d->d<X.n)(h:Inv X ops im' L β a w F C I M p cf ht gK)(aP:ops[q]?=some o)(lj:p.testBit q=false)(bl:∀ e,mL ops q e->L e)
 {x:dA} {C':dB} (ad:eU β x v) (af:cH X β a w' (λ_=>.nl) C' I' M')
  (hm:∀ i gA fO,kR L p i->ops[i]?=some gA->qc gA.op=true->(i,fO)∈cf->(∀ s,fO=s+1->C' s=C s)/\(fO=0->∀ b o,h6 I (vO (im' i) M) b o->h6 I' (vO (im' i) M') b o)) :
  Inv X ops im' (λi=>L i\/i=q) β (a.put o.dst v) w' (put o.dst x F) C' I' M' (p ||| 2^q) cf ht gK:=by
 have qg:∀ {i},kR (λi=>L i\/i=q) (p ||| 2^q) i->kR L p i:=λhi=>⟨(mM.1 hi.1).resolve_right (λe=>hi.2 (.inr e)),λe=>hi.2 (.inl e)⟩;have xo:∀ {i},kR L p i->kR (λi=>L i\/i=q) (p ||| 2^q) i:=fun {i} hi=>⟨mM.2 (.inl hi.1),λe=>e.elim hi.2 (λe=>by
  subst e;have:=hi.1;rw[lj]at this;cases this)⟩
 refine⟨af.put hj (x:=.nl) trivial |> λh=>h.refine λ_=>trivial,?_,?_,?_,?_,?_⟩
 ·rintro i (hi | rfl)
  ·exact mM.2 (.inl (h.sub i hi))
  ·exact mM.2 (.inr rfl)
 ·rintro j e (ai | rfl) he
  ·exact .inl (h.vR j e ai he)
  ·exact .inl (bl e he)
 ·intro j e ai he;rcases mM.1 ai with ai | rfl
  ·exact mM.2 (.inl (h.rj j e ai he))
  ·exact mM.2 (.inl (h.sub e (bl e he)))
 ·intro t av;by_cases aj:o.dst=some t
  ·have aV:t<a.tmps.size:=by rw[h.rel.size];exact hj t aj
   rw[aj,Ob aV,put_eq];exact ad
  ·rw[JR aj,JQ aj];exact h.T t λi hi=>av i (xo hi)
 ·intro i hi;have cX:=qg hi;obtain⟨gA,h',se⟩:=h.y5 i cX;have nu:i≠q:=λe=>by subst e;have:=cX.1;rw[lj]at this;cases this
  refine⟨gA,h',⟨se.quiet,?_,λt av j ai=>se.b t av j (qg ai),?_,?_⟩⟩;·intro d aj;rw[JQ (dr.N9 i q gA o d nu h' aP aj)];exact se.hs d aj
  ·intro t av dY;have aj:o.dst≠some t:=λaj=>by
    rcases dr.ord q i o gA t (po nu) aP h' aj av with ag | ag;·have:=ag.mem h.rj (λe he=>h.rj i e cX.1 he);rw[lj]at this;cases this
    ·exact cX.2 (ag.mem h.vR bl)
   rw[JR aj];exact se.a t av λj ai=>dY j (xo ai)
  ·refine se.r.imp (λ⟨aa,ab,ak⟩=>⟨aa,UX ab (λ_ _=>rfl) λt x ay=>?_,ak⟩) id;have aJ:=ak t x ay;have bB:=hm i gA _ cX h' (by rw[ay];rfl) aJ;refine⟨λs off e=>?_,λbn=>bB.2 ?_⟩
   ·exact bB.1 s (by rw[e];rfl)
   ·generalize di (gK i) x=afY at bn;cases afY with
    |ref s off=>exact(bn s off rfl).elim| _=>rfl
def Bh(X:cV)(ops:List Oper)(im':Nat->Bool)(K:gd)(L:Nat->Prop)(a:Act)(w:World):Prop:=
 ∃ β F C I M p cf ht gK n,Inv X ops im' L β a w F C I M p cf ht gK/\pw X ops im' n p cf F C I M K
def Gi{k:Bool}{i:Nat}:i∈qd ops p k ↔ ∃ o,ops[i]?=some o/\p.testBit i=false/\Dj o.op=k/\(∀ e,mL ops i e->p.testBit e=true):=by
 unfold qd;rw[iX,g'];have Gj:∀ {o},ops[i]?=some o->(F9 o p=true ↔ ∀ e,mL ops i e->p.testBit e=true):=fun {o} aH=>by
  unfold F9;rw[fx];constructor;·rintro h e⟨o',nt,rl,ri,ag,rfl⟩;rw[aH]at rl;cases rl;have:=h nt (by simpa using ri);rw[ag]at this;simpa using this
  ·intro h nt ri;cases ag:Region.binds .any nt with
   |false=>simp| true=>simp[h nt.on ⟨o,nt,aH,by simpa using ri,ag,rfl⟩]
 constructor
 ·rintro⟨aV,h⟩;cases aH:ops[i]? with
  |none=>rw[aH]at h;cases h| some o=>rw[aH]at h;simp only[cB,ta,beq_iff_eq]at h;exact⟨o,rfl,h.1,h.2.1,(Gj aH).1 h.2.2⟩
 ·rintro⟨o,aH,aa,ab,ak⟩;refine⟨(h5.1 aH).1,?_⟩;rw[aH];simp only[aa,ab,(Gj aH).2 ak,Bool.not_false,F7,Bool.and_self]
def U4{P:Nat->Prop}:∀ {l:List Nat},N5 P l->∀ i∈l,P i
 |[],_,i,hi=>by cases hi
 |[j],h,i,hi=>by rw[ek]at hi;subst hi;exact h
 |j::k::l,h,i,hi=>by
  rcases ee.1 hi with rfl | hi;·exact h.1
  ·exact U4 (l:=k::l) h.2 i hi
def afZ(i:Nat)(op:Op)(ρ:Operand->dA)(cf:List (Nat×Nat)):∀ s∈cf,s∈Gb i op ρ cf:=λs ar=>by
 unfold Gb;split
 ·exact .tail _ ar
 ·exact ar
def af0{i:Nat}{cf:List (Nat×Nat)}:∀ t x,op=.load t x->(i,JM (ρ x))∈Gb i op ρ cf:=λt x aG=>by subst aG;unfold Gb;exact .head _
def Bh.advance(dr:vQ ops){K:gd}:∀ (n:Nat) {p cf F ht gK},Inv X ops im' L β a w F C I M p cf ht gK->pw X ops im' n p cf F C I M K -> ∃ p cf F ht gK n,Inv X ops im' L β a w F C I M p cf ht gK/\qd ops p true=[]/\pw X ops im' (n+1) p cf F C I M K
 |0,_,_,_,_,_,_,ah=>ah.elim
 |n+1,p,cf,F,ht,gK,bt,ah=>by
  cases af:qd ops p true with
  |nil=>exact⟨p,cf,F,ht,gK,n,bt,af,ah⟩
  |cons q l=>
   have e6:q∈qd ops p true:=by rw[af];simp
   obtain⟨o,aP,lj,JS,y0⟩:=Gi.1 e6;have jZ:=ah;unfold pw at jZ;rw[af]at jZ;simp only[aP]at jZ;obtain⟨lN,td,⟨e9,aa⟩ | ⟨Gh,aa⟩⟩:=U2 jZ;·obtain⟨x,ab,ak⟩:=afJ (afF aa);exact Bh.advance dr n (bt.record dr aP lj y0 JS td (afZ _ _ _ _) (.inl ⟨e9,ak,af0⟩)) ab
   ·exact Bh.advance dr n (bt.record dr aP lj y0 JS td (λ_ h=>h) (.inr ⟨Gh,rfl⟩)) aa
def mem_ready{i:Nat}(dj:du.size=ops.length):i∈Region.ready .any ops.toArray du ↔ ∃ o,ops[i]?=some o/\¬ du.getD i false=true/\∀ e,mL ops i e->du.getD e false=true:=by
 unfold Region.ready;rw[iX,g'];simp only[ow,A',cB,ta];have Gj:∀ {o},ops[i]?=some o->((o.after.all λe=>!Region.binds .any e||du.getD e.on false)=true ↔ ∀ e,mL ops i e->du.getD e false=true):=fun {o} aH=>by
  rw[Array.all_eq_true_iff_forall_mem];constructor;·rintro h e⟨o',nt,rl,ri,ag,rfl⟩;rw[aH]at rl;cases rl;have:=h nt ri;rw[ag]at this;simpa using this
  ·intro h nt ri;cases ag:Region.binds .any nt with
   |false=>simp| true=>simp[h nt.on ⟨o,nt,aH,ri,ag,rfl⟩]
 have U5:i<ops.length->(du.getD i true=false ↔ ¬ du.getD i false=true):=λhi=>by
  have:i<du.size:=by omega
  simp[Array.getD,this]
 constructor
 ·rintro⟨aV,aa,ab⟩;cases aH:ops[i]? with
  |none=>rw[aH]at ab;cases ab| some o=>rw[aH]at ab;exact⟨o,rfl,(U5 aV).1 aa,(Gj aH).1 ab⟩
 ·rintro⟨o,aH,aa,ab⟩;have aV:=(h5.1 aH).1;refine⟨aV,(U5 aV).2 aa,?_⟩;rw[aH];exact(Gj aH).2 ab
def U6{i:Nat}(hi:i<du.size):(λj=>(du.setIfInBounds i true).getD j false=true)=λj=>du.getD j false=true\/j=i:=by
 funext j;simp only[pj,C3,eq_iff_iff];by_cases e:i=j
 ·subst e;simp[hi]
 ·simp only[bU e];constructor
  ·exact .inl
  ·rintro(h | h)
   ·exact h
   ·exact(e h.symm).elim
def todo(ops:List Oper)(du:Array Bool):Nat:=((List.range ops.length).filter λi=>!du.getD i false).length
def JU{i:Nat}(hi:i<ops.length)(dj:du.size=ops.length)(aB:¬ du.getD i false=true):todo ops (du.setIfInBounds i true)<todo ops du:=by
 unfold todo;have key:∀ l:List Nat,l.Nodup->i∈l->((l.filter λj=>!(du.setIfInBounds i true).getD j false).length<(l.filter λj=>!du.getD j false).length):=by
  have same:∀ j,j≠i->(du.setIfInBounds i true).getD j false=du.getD j false:=λj ai=>by simp only[pj,C3,bU (po ai)]
  have self:(du.setIfInBounds i true).getD i false=true:=by
   have:i<du.size:=by omega
   simp[pj,C3,this]
  have Bi:du.getD i false=false:=by simpa using aB
  intro l
  induction l with
  |nil=>intro _ h;cases h
  |cons j l aN=>
   intro bI hm;rw[kM]at bI;by_cases e:j=i
   ·subst e;have:l.filter (λk=>!(du.setIfInBounds j true).getD k false)=l.filter (λk=>!du.getD k false):=
     F6 λk ae=>by rw[same k (λe=>bI.1 (e ▸ ae))]
    simp only[ox,self,Bi,this];simp
   ·have sf:i∈l:=by
     rcases ee.1 hm with h | h;·exact(e h.symm).elim
     ·exact h
    have:=aN bI.2 sf;simp only[ox,same j e];split;·simp only[dx];omega
    ·exact this
 exact key _ yX (g'.2 hi)
def af1(aM:cU X.P X.E)(dr:vQ ops)(hj:∀ o∈ops,∀ d,o.dst=some d->d<X.n){K:gd}(q5:∀ a w,Sat X K a w->Q .normal a w):∀ (e1:Nat) (du:Array Bool) (a:Act) (w:World),
  du.size=ops.length->todo ops du<=e1->Bh X ops im' K (λi=>du.getD i false=true) a w->wpAnyIn (g3 X) 0 X.P .any ops.toArray Q e1 du a w:=by
 intro e1
 induction e1 with
 |zero=>
  rintro du a w dj aA⟨β,F,C,I,M,p,cf,ht,gK,n,bt,ah⟩;have oB:Region.ready .any ops.toArray du=[]:=by
   cases af:Region.ready .any ops.toArray du with
   |nil=>rfl| cons i l=>obtain⟨o,aH,aB,_⟩:=(mem_ready dj).1 (by rw[af];simp:i∈Region.ready .any ops.toArray du);have:=JU (h5.1 aH).1 dj aB;omega
  refine⟨oB,?_⟩;obtain⟨p,cf,F,ht,gK,n,bt,ir,ah⟩:=Bh.advance dr n bt ah;have Gk:∀ i,p.testBit i=true->du.getD i false=true:=λi=>by
   induction i using Nat.strongRecOn with
   |ind i aN=>intro aC;refine F4 λaB=>?_;obtain⟨o,aH,_⟩:=bt.y5 i ⟨aC,aB⟩;have:i∈Region.ready .any ops.toArray du:=(mem_ready dj).2 ⟨o,aH,aB,λe he=>aN e (dr.lt i e he) (bt.rj i e aC he)⟩;rw[oB]at this;cases this
  have rm:qd ops p false=[]:=by
   cases af:qd ops p false with
   |nil=>rfl| cons i l=>obtain⟨o,aH,aC,_,aj⟩:=Gi.1 (by rw[af];simp:i∈qd ops p false);have:i∈Region.ready .any ops.toArray du:=(mem_ready dj).2 ⟨o,aH,λcv=>(by have dZ:=bt.sub i cv;rw[aC]at dZ;exact Bool.noConfusion dZ),λe he=>Gk e (aj e he)⟩;rw[oB]at this;cases this
  unfold pw at ah;rw[ir,rm]at ah;exact q5 _ _ ⟨F,C,I,M,⟨β,bt.rel.refine λt=>bt.T t λi hi=>(hi.2 (Gk i hi.1)).elim⟩,ah⟩
 |succ e1 aN=>
  rintro du a w dj aA⟨β,F,C,I,M,p,cf,ht,gK,n,bt,ah⟩;obtain⟨p,cf,F,ht,gK,n,bt,ir,ah⟩:=Bh.advance dr n bt ah;refine⟨λoB=>?_,λq aP=>?_⟩
  ·have Gk:∀ i,p.testBit i=true->du.getD i false=true:=λi=>by
    induction i using Nat.strongRecOn with
    |ind i aN=>intro aC;refine F4 λaB=>?_;obtain⟨o,aH,_⟩:=bt.y5 i ⟨aC,aB⟩;have:i∈Region.ready .any ops.toArray du:=(mem_ready dj).2 ⟨o,aH,aB,λe he=>aN e (dr.lt i e he) (bt.rj i e aC he)⟩;rw[oB]at this;cases this
   have rm:qd ops p false=[]:=by
    cases af:qd ops p false with
    |nil=>rfl| cons i l=>obtain⟨o,aH,aC,_,aj⟩:=Gi.1 (by rw[af];simp:i∈qd ops p false);have:i∈Region.ready .any ops.toArray du:=(mem_ready dj).2 ⟨o,aH,λcv=>(by have dZ:=bt.sub i cv;rw[aC]at dZ;exact Bool.noConfusion dZ),λe he=>Gk e (aj e he)⟩;rw[oB]at this;cases this
   unfold pw at ah;rw[ir,rm]at ah;exact q5 _ _ ⟨F,C,I,M,⟨β,bt.rel.refine λt=>bt.T t λi hi=>(hi.2 (Gk i hi.1)).elim⟩,ah⟩
  ·obtain⟨o,aH,aB,aj⟩:=(mem_ready dj).1 aP;have aV:=(h5.1 aH).1;have ux:=hj o (rc aH);have gW:=U6 (du:=du) (i:=q) (by omega);have next:∀ bM w',Bh X ops im' K (λi=>du.getD i false=true\/i=q) bM w'->wpAnyIn (g3 X) 0 X.P .any ops.toArray Q e1 (du.setIfInBounds q true) bM w':=λbM w' h=>by refine aN _ bM w' (by simpa using dj) ?_ (by rw[gW];exact h);have:=JU aV dj aB;omega
   cases lj:p.testBit q with
   |true=>
    exact bt.exec aM dr ux aH ⟨lj,aB⟩ aj λbM h=>next bM w ⟨β,F,C,I,M,p,cf,ht,gK,n+1,h,ah⟩
   |false=>
    have Gl:∀ e,mL ops q e->p.testBit e=true:=λe he=>bt.sub e (aj e he);have af2:Dj o.op=false:=by
     cases af3:Dj o.op with
     |false=>rfl| true=>have:q∈qd ops p true:=Gi.2 ⟨o,aH,lj,af3,Gl⟩;rw[ir]at this;cases this
    have e6:q∈qd ops p false:=Gi.2 ⟨o,aH,lj,af2,Gl⟩;unfold pw at ah;rw[ir]at ah;simp only at ah;split at ah;·rename_i rm;rw[rm]at e6;cases e6
    ·rename_i i0 fq rm;rw[rm]at e6;have ag:=U4 ah q e6;simp only[aH]at ag;obtain⟨lN,td,ag⟩:=U2 ag;have cn:=bt.refine td;have kt:=cn.afS dr aH lj aj;have Gg:ops.toArray[q]?=some o:=by simpa using aH
     unfold wpOpIn;simp only[Gg];rcases ag with⟨e9,ag⟩ | ⟨Gh,ag⟩
     ·rw[U0 e9 kt,bQ rfl];cases Oe:UN ((lh ops).getD q 0) p with
      |true=>
       rw[Oe]at ag;simp only[vN,ca]at ag;have gq:∀ i,p.testBit i=true->du.getD i false=true:=λi hi=>by
        have aa:=dQ Oe;have ab:(p &&& (lh ops).getD q 0).testBit i=true:=by rw[aa];exact hi
        rw[Nat.testBit_and,cB]at ab;exact(y1 ab.2).mem bt.vR aj
       have aW:Rel X a w lN C I M:=⟨β,cn.rel.refine λt=>cn.T t λi hi=>(hi.2 (gq i hi.1)).elim⟩;refine sZ (λbM w'=>?_) (Dc aM ux aW ag);rintro⟨dk,C',I',M',⟨oi,eY⟩,ae⟩;have af4:∀ i,¬ kR (λi=>du.getD i false=true\/i=q) (p ||| 2^q) i:=λi hi=>by
        rcases mM.1 hi.1 with aa | aa;·exact hi.2 (.inl (gq i aa))
        ·exact hi.2 (.inr aa)
       refine next bM w' ⟨oi,dk,C',I',M',p ||| 2^q,cf,ht,gK,n,⟨eY.refine λ_=>trivial,?_,?_,?_,λt _=>eY.al t,λi hi=>(af4 i hi).elim⟩,ae⟩
       ·rintro i (hi | rfl)
        ·exact mM.2 (.inl (bt.sub i hi))
        ·exact mM.2 (.inr rfl)
       ·rintro j e (ai | rfl) he
        ·exact .inl (bt.vR j e ai he)
        ·exact .inl (aj e he)
       ·intro j e ai he;rcases mM.1 ai with ai | rfl
        ·exact mM.2 (.inl (bt.rj j e ai he))
        ·exact mM.2 (.inl (Gl e he))
      |false=>
       rw[Oe]at ag;let G:Fr:=λt=>if t∈looks ops o then lN t else .nl
       have iZ:∀ t,eU β (G t) (a.tmps.getD t undef):=λt=>by
        by_cases av:t∈looks ops o;·simp only[G,bQ av];exact kt t av
        ·simp only[G,bU av];trivial
       have Od:∀ y∈o.op.operands,di G y=di lN y:=λy aE=>by
        cases y with
        |tmp t=>simp only[di,G,bQ (Oa aE)]| const v=>cases v<;>rfl
        |global g=>rfl| func f=>rfl
       refine sZ (λbM w'=>?_) (afM aM (cn.rel.refine iZ) Od ag);rintro⟨v,x,C',I',M',rfl,ad,eY,ae,hm⟩;refine next _ _ ⟨β,_,C',I',M',p ||| 2^q,cf,ht,gK,n,cn.step dr ux aH lj aj ad (eY.refine λ_=>trivial) ?_,ae⟩
       rcases hm with⟨Ga,nv⟩ | ⟨rfl,bp,e8⟩
       rotate_left
       ·exact λ_ _ _ _ _ _ _=>⟨λ_ _=>rfl,λ_=>UR e8 bp⟩
       have Dk:∀ {i},kR (λi=>du.getD i false=true) p i->((lh ops).getD q 0).testBit i=true->False:=λhi ag=>hi.2 ((y1 ag).mem bt.vR aj);intro i gA fO hi h' eT e6;have dY:∀ {s:Nat},Bd ((lh ops).getD q 0) s cf=true->fO≠s:=fun {s} h e=>by
        rcases UO h e6 with aa | aa;·exact Dk hi aa
        ·exact aa e
       rcases(kQ _ _).mp Ga with af5 | af6
       ·have aa:=fx.1 af5 i (g'.2 (h5.1 h').1);rw[hi.1,h']at aa;simp only[uu,ur,kQ,ta]at aa;rcases aa with aa | aa
        ·exact(Dk hi aa).elim
        ·rw[aa]at eT;cases eT
       rcases(kQ _ _).mp af6 with Dl | xp
       ·unfold UQ at Dl;split at Dl
        ·rename_i t0 sg U7 dF;split at Dl
         ·rename_i cz at6 aG;obtain⟨⟨ez,hc⟩,cJ⟩:=nv.1 _ _ _ _ _ dF aG;exact⟨λb3 e=>ez b3 (λa7=>dY Dl (by rw[e,a7])),λ_=>UR cJ hc⟩
         ·cases Dl
        ·cases Dl
       rcases(kQ _ _).mp xp with xp | xq
       ·unfold UP at xp;split at xp
        ·rename_i t0 sg U7 dF;split at xp
         ·rename_i af7 aG;exact⟨λ_ _=>by rw[(nv.2.1 _ _ _ _ dF aG).1],λe=>(dY xp e).elim⟩
         ·cases xp
        ·rename_i dF;exact⟨λ_ _=>by rw[(nv.2.2 (λt x y e=>by rw[dF]at e;cases e)).1],λe=>(dY xp e).elim⟩
        ·cases xp
       unfold UU at xq;rw[cB]at xq;obtain⟨af8,xq⟩:=xq;have af9:im' i=true:=by
        have aa:=fx.1 af8 i (g'.2 (h5.1 h').1);rw[hi.1,h']at aa;simp only[uu,ur,kQ,ta]at aa;rcases aa with aa | aa | aa;·exact(Dk hi aa).elim
        ·exact aa
        ·rw[aa]at eT;cases eT
       have bp:C'=C/\∀ b o,I b=some o->I' b=some o:=by
        unfold UT at xq;split at xq
        ·rename_i t0 sg U7 dF;split at xq
         ·rename_i af7 aG;exact nv.2.1 _ _ _ _ dF aG
         ·cases xq
        ·rename_i dF;exact nv.2.2 (λt x y e=>by rw[dF]at e;cases e)
        ·rename_i dF;exact nv.2.2 (λt x y e=>by rw[dF]at e;cases e)
        ·cases xq
       exact⟨λ_ _=>by rw[bp.1],λ_=>by rw[af9];exact afE bp.2⟩
     ·rw[U1 Gh kt];simp only[k7,l5];refine⟨λ_ _=>trivial,next _ _ ⟨β,_,C,I,M,p ||| 2^q,cf,ht,gK,n,cn.step dr ux aH lj aj (x:=.val undef) rfl cn.rel (λ_ _ _ _ _ _ _=>⟨λ_ _=>rfl,λ_ _ _ h=>h⟩),ag⟩⟩
end
def cY.Of{X:cV}{id:Nat}{F:Fr}{I:aI}{K:j0}(aM:cU X.P X.E)(hm:X.P.follows .mixedOrders=true)(ap:Be A.toList=true)(aB:xj X.n A=true)
  {im':Nat->Bool} (h:pw X A.toList im' (A.size+1) 0 [] F C I M (K .normal)):cY X (.region id A true) F C I M K:=by
 refine⟨λa w ⟨β,aW⟩=>wpIn_region_any hm ?_⟩;have rn:cH X β a { w with drawn:=w.drawn+1 } F C I M:=aW.world rfl;have b4:∀ i,(Array.replicate A.size false).getD i false=false:=λi=>by
  by_cases hi:i<A.size<;>simp[pj,hi]
 have nw:∀ {i},¬ (Array.replicate A.size false).getD i false=true:=fun {i}=>by rw[b4];simp
 have key:=af1 (K:=K .normal) (Q:=mJ X K) aM (UZ ap) (JB aB) (λ_ _ h=>h) A.size (Array.replicate A.size false) a { w with drawn:=w.drawn+1 } (by simp) ?_ ⟨β,F,C,I,M,0,[],λ_=>.nl,λ_ _=>.nl,A.size+1,⟨rn.refine λ_=>trivial,λi hi=>(nw hi).elim,λj e ai=>(nw ai).elim,λj e ai=>by simp at ai,λt _=>rn.al t,λi hi=>by simp[kR]at hi⟩,h⟩
 ·simpa using key
 ·unfold todo;refine k9 (Ba _ _) (by simp)
def cY.aga{X:cV}{id:Nat}{F:Fr}{I:aI}{K:j0}(aM:cU X.P X.E)(hm:X.P.follows .mixedOrders=true)(ap:Be A.toList=true)(aB:xj X.n A=true)
  {im':Nat->Bool} (aY:ι->vJ) (inv:ι->Prop) (ah:pw X A.toList im' (A.toList.length+1) 0 [] F C I M (pt X.foot aY inv)) (bi:∀ i,inv i->K .normal (q6 (aY i).bj) (q7 (aY i).cl) (aY i).cI (aY i).c1):cY X (.region id A true) F C I M K:=by
 obtain⟨h⟩:=cY.Of (im':=im') (K:=λe=>match e with
  | .normal=>pt X.foot aY inv| e=>K e) aM hm ap aB ah
 refine⟨λa w aW=>wpIn_mono (h a w aW) ?_⟩;intro e a w ar;cases e with
 |normal=>obtain⟨dk,C',I',M',⟨β,af⟩,⟨j,p8,hw,bG,lg⟩⟩:=ar;exact⟨_,_,_,_,⟨β,(af.cQ bG lg).hS hw⟩,bi j p8⟩
 |_=>exact ar
def cY.draw{X:cV}{id:Nat}{F:Fr}{I:aI}{K:j0}(aM:cU X.P X.E)(hm:X.P.follows .mixedOrders=true)(ap:Be A.toList=true)(aB:xj X.n A=true)(h:pw X A.toList (λ_=>false) (A.size+1) 0 [] F C I M (K .normal)):cY X (.region id A true) F C I M K:=.Of aM hm ap aB h
def cY.Gm{X:cV}{id:Nat}{F:Fr}{I:aI}{K:j0}(aM:cU X.P X.E)(hm:X.P.follows .mixedOrders=true)(ap:Be A.toList=true)(aB:xj X.n A=true)
 (aY:ι->vJ) (inv:ι->Prop) (ah:pw X A.toList (λ_=>false) (A.toList.length+1) 0 [] F C I M (pt X.foot aY inv)) (bi:∀ i,inv i->K .normal (q6 (aY i).bj) (q7 (aY i).cl) (aY i).cI (aY i).c1):cY X (.region id A true) F C I M K:=.aga aM hm ap aB aY inv ah bi
def cY.agb{X:cV}{id:Nat}{F:Fr}{I:aI}{K:j0}(hs:Nat->Bool)(aM:cU X.P X.E)(hm:X.P.follows .mixedOrders=true)(ap:Be A.toList=true)(aB:xj X.n A=true)(h:pw X A.toList hs (A.size+1) 0 [] F C I M (K .normal)):cY X (.region id A true) F C I M K:=.Of aM hm ap aB h
def U8{r9:Fence}{n:Nat}{a:Act}{c:Code}(J:Nat->Nat->Act->World->Prop)
  (first:c.wpIn r9 n P (λe bM w'=>match e with
   | .goto l=>∃ m,J l m bM w'| e=>Q e bM w') a w)
  (pass:∀ l m a w,J l m a w->∃ bi,findLabel c l=some bi/\bi.wpIn r9 n P (λe bM w'=>match e with
   | .goto dL=>∃ m',m'<m/\J dL m' bM w'| e=>Q e bM w') a w):(Code.scope c).wpIn r9 n P Q a w:=by
 intro b k cs gp ag af;have cz:step P (lone (b.atR a (.code (.scope c)::k)) cs w)=.next (lone (b.atR a (.code c::.inScope c::k)) cs w):=
  step_lone_go (by simp[stepG,stepG.exec,Frame.atR])
 have s1:∀ a w,step P (lone (b.atR a (.inScope c::k)) cs w)=.next (lone (b.atR a k) cs w):=λa w=>
  step_lone_go (by simp[stepG,stepG.exec,Frame.atR])
 have ad:∀ id,exitTo id (.inScope c::k)=exitTo id k:=λid=>by simp[exitTo]
 have fin:∀ {m:Machine} {e:Exit} {j1:Act} {j2:World},(∀ l,e≠.goto l)->ArrivesIn (Machine.fenced P r9) P m b (.inScope c::k) cs e j1 j2->ArrivesIn (Machine.fenced P r9) P m b k cs e j1 j2:=by
  intro m e j1 j2 bn iW;cases e with
  |normal=>exact StepsIn.trans iW (.one (fenced_calm ag af rfl) (s1 _ _))| exit id=>exact⟨λeZ ae=>iW.1 eZ (by rw[ad];exact ae),λeY ae=>iW.2 eY (by rw[ad];exact ae)⟩| goto l=>exact(bn l rfl).elim| ret=>exact iW| panic F0=>exact iW| outgrown=>exact iW
 have key:∀ m l a w,J l m a w->∀ bi,findLabel c l=some bi->∃ e bM w',Q e bM w'/\ArrivesIn (Machine.fenced P r9) P (lone (b.atR a (.code bi::.inScope c::k)) cs w) b k cs e bM w':=by
  intro m
  induction m using Nat.strongRecOn with
  |_ m aN=>
   intro l a w bk bi te;obtain⟨Dm,aA,hw⟩:=pass l m a w bk;rw[te]at aA;cases aA;obtain⟨e,j1,j2,aP,iW⟩:=hw b (.inScope c::k) cs gp ag af;cases e with
   |goto dL=>
    obtain⟨m',aV,xr⟩:=aP;obtain⟨Dm,vT,_⟩:=pass dL m' j1 j2 xr;have au:gotoIn dL (.inScope c::k)=some (.code Dm::.inScope c::k):=by simp[gotoIn,vT]
    obtain⟨FV,FW,FX,FY,FZ⟩:=aN m' aV dL j1 j2 xr Dm vT;exact⟨FV,FW,FX,FY,.of_steps (iW.1 _ au) FZ⟩
   |normal=>exact⟨_,j1,j2,aP,fin (by simp) iW⟩| exit id=>exact⟨_,j1,j2,aP,fin (by simp) iW⟩| ret=>exact⟨_,j1,j2,aP,fin (by simp) iW⟩| panic F0=>exact⟨_,j1,j2,aP,fin (by simp) iW⟩| outgrown=>exact⟨_,j1,j2,aP,fin (by simp) iW⟩
 have az:(lone (b.atR a (.code (.scope c)::k)) cs w).fenced P r9:=fenced_calm ag af rfl;obtain⟨e,j1,j2,aP,iW⟩:=first b (.inScope c::k) cs gp ag af
 cases e with
 |goto dL=>
  obtain⟨m',xr⟩:=aP;obtain⟨Dm,vT,_⟩:=pass dL m' j1 j2 xr;have au:gotoIn dL (.inScope c::k)=some (.code Dm::.inScope c::k):=by simp[gotoIn,vT]
  obtain⟨FV,FW,FX,FY,FZ⟩:=key m' dL j1 j2 xr Dm vT;exact⟨FV,FW,FX,FY,.of_steps (.head az cz (iW.1 _ au)) FZ⟩
 |normal=>exact⟨_,j1,j2,aP,.of_steps (.one az cz) (fin (by simp) iW)⟩| exit id=>exact⟨_,j1,j2,aP,.of_steps (.one az cz) (fin (by simp) iW)⟩| ret=>exact⟨_,j1,j2,aP,.of_steps (.one az cz) (fin (by simp) iW)⟩| panic F0=>exact⟨_,j1,j2,aP,.of_steps (.one az cz) (fin (by simp) iW)⟩| outgrown=>exact⟨_,j1,j2,aP,.of_steps (.one az cz) (fin (by simp) iW)⟩
def JV(N:Nat->gd)(K:j0):j0
 | .goto l=>N l| e=>K e
def cY.scope{X:cV}{c:Code}{F:Fr}{I:aI}{K:j0}(aM:cU X.P X.E)(bu:codeOk X.n c=true)(aY:ι->vJ)(bh:ι->Nat)(inv:ι->Prop)(μ:ι->Nat)(bi:Nat->Code)(te:∀ i,inv i->findLabel c (bh i)=some (bi (bh i))/\codeOk X.n (bi (bh i))=true)(first:V X c F C I M (JV (λl=>pt X.foot aY λj=>inv j/\bh j=l) K))(pass:∀ i,inv i->V X (bi (bh i)) (q6 (aY i).bj) (q7 (aY i).cl) (aY i).cI (aY i).c1 (JV (λl=>pt X.foot aY λj=>(inv j/\bh j=l)/\μ j<μ i) K)) :
  cY X (.scope c) F C I M K:=by
 refine⟨λa w aW=>?_⟩;let J (l m:Nat) (a:Act) (w:World):Prop:=∃ i,inv i/\bh i=l/\μ i=m/\Rel X a w (q6 (aY i).bj) (q7 (aY i).cl) (aY i).cI (aY i).c1
 have yS:∀ {p:ι->Prop} {l:Nat} {a w},(∀ i,p i->inv i/\bh i=l)->Sat X (pt X.foot aY p) a w->∃ i,p i/\J l (μ i) a w:=by rintro p l a w aC⟨F,C,I,M,⟨β,af⟩,⟨j,p8,hw,bG,lg⟩⟩;exact⟨j,p8,j,(aC j p8).1,(aC j p8).2,rfl,β,(af.cQ bG lg).hS hw⟩
 refine U8 J (wpIn_mono (q8 aM c bu aW first) ?_) ?_
 ·intro e a w h;cases e with
  |goto l=>obtain⟨j,ai,bk⟩:=yS (p:=λj=>inv j/\bh j=l) (l:=l) (λ_ h=>h) h;exact⟨_,bk⟩
  |_=>exact h
 ·rintro l m a w⟨i,hi,rfl,rfl,af⟩;obtain⟨aa,ab⟩:=te i hi;refine⟨_,aa,wpIn_mono (q8 aM _ ab af (pass i hi)) ?_⟩;intro e a w h;cases e with
  |goto dL=>obtain⟨j,ai,bk⟩:=yS (p:=λj=>(inv j/\bh j=dL)/\μ j<μ i) (l:=dL) (λ_ h=>h.1) h;exact⟨_,ai.2,bk⟩
  |_=>exact h
def Dn(P:Program)(l:Nat)(args:List Value)(I:aI)(M:List aD)(post:Value->aI->List aD->Prop):Prop:=
 ∀ w,ey I M w->∃ f tmps assign body,(Instr.yield l args.toArray).run P w=.ok (.round l f tmps assign body) w /\ RoundIn Fence.wide 0 P l f tmps assign body w λe w'=>∃ v I' M',e=.returned v/\post v I' M'/\ey I' M' w'/\Kept I M w I' M' w'
inductive y6(P:Program)(l:Nat)(args:List Value)(I:aI)(M:List aD)(K:Value->aI->List aD->Prop):Prop
 |mk(ep Mr:List aD)(post:Value->aI->List aD->Prop)(a':M.Perm (ep++Mr))(ar:Dn P l args I ep post)(k:∀ v I' M',(∀ b o,I b=some o->I' b=some o)->post v I' M'->K v I' (M'++Mr))
def bw.yield{X:cV}{o:Oper}{F:Fr}{I:aI}{K:gd}{args:Array Operand}{fJ:Array TypeId}{l:Nat}(aH:o.op=.call { callee:=.value f,args,argTypes:=fJ })(aj:∀ d,o.dst=some d->d<X.n)(aA:bE F f=.val (.func (.yield l) #[] #[]))(iH:mH F args.toList=some vs)
  (h:y6 X.P l vs I M λv I' M'=>K (put o.dst (.val v) F) C I' M'):bw X o F C I M K:=by
 refine⟨λa w Q ⟨β,aW⟩=>?_⟩;obtain⟨ep,Mr,post,a',ar,ae⟩:=h;obtain⟨fn,tmps,assign,body,aE,af⟩:=ar w (aW.holds.part a');have aG:=s5 aW.al iH;have ej:args.map a.eval=vs.toArray:=by apply gS;simpa using aG
 have a7:=dc aW.al aA;obtain⟨dst,op,ty,pos,after,guard⟩:=o;simp only at aH;subst aH;refine⟨λ_ _=>trivial,?_⟩;rw[Js _ _ _ (by simp)];have e9:(execOp a.eval ⟨dst,.call { callee:=.value f,args,argTypes:=fJ },ty,pos,after,guard⟩).run X.P w=.ok (.round l fn tmps assign body) w:=by simp only[execOp,resolve,a7,Deferred.ofValue,cj,c0,bV,ej,invoke];simpa using aE
 rw[e9,Oper.uponIn_round];refine⟨(λh=>by cases h),?_⟩;have eY:RoundIn (g3 X) (0-1) X.P l fn tmps assign body w _:=af;refine eY.mono ?_;rintro e w'⟨v,I',M',rfl,aC,q2,dX⟩;exact⟨_,_,_,_,⟨β,(aW.after a' q2 dX).put (x:=.val v) aj rfl⟩,ae v I' M' dX.le aC⟩
def U9(A:(Nat->aI->List aD->Prop)->Prop)(P:Program)(g:Nat)(cap:List Value)(I:aI)(n:Nat)(Q:Nat->List Value->aI->Prop):Prop:=
 ∀ (l:Nat) (R:Nat->aI->List aD->Prop) (kS:aI->List aD->Prop),A R -> (∀ k (ae:k<n) vs I' M',(∀ b o,I b=some o->I' b=some o)->Q k vs I'->R k I' M'->Dn P l vs I' M' λv y7 mf=>(v=.bool true/\R (k+1) y7 mf)\/(v=.bool false/\kS y7 mf)) -> ∀ dp M0,(∀ b o,I b=some o->dp b=some o)->R 0 dp M0->vD P g (.func (.yield l) #[] #[]::cap) dp M0 λ_ I' M'=>R n I' M'\/kS I' M'
def vU(R:Nat->aI->List aD->Prop):Prop:=∀ k I I' M,(∀ b o,I b=some o->I' b=some o)->R k I M->R k I' M
def vU.cons(x:aD)(S:Nat->aI->List aD->Prop)(h:vU S):vU λk I M=>∃ df,M=x::df/\S k I df:=by rintro k I I' M bt⟨df,e,cR⟩;exact⟨df,e,h k I I' df bt cR⟩
abbrev U':=U9 vU
def Iter(P:Program)(g:Nat)(cap:List Value)(I:aI)(uy:List (List Value)):Prop:=
 ∀ (l:Nat) (R:Nat->aI->List aD->Prop) (kS:aI->List aD->Prop),(∀ k (ae:k<uy.length) I' M',(∀ b o,I b=some o->I' b=some o)->R k I' M'->Dn P l uy[k] I' M' λv y7 mf=>(v=.bool true/\R (k+1) y7 mf)\/(v=.bool false/\kS y7 mf)) -> ∀ dp M0,(∀ b o,I b=some o->dp b=some o)->R 0 dp M0->vD P g (.func (.yield l) #[] #[]::cap) dp M0 λ_ I' M'=>R uy.length I' M'\/kS I' M'
def Dp:List Nat->List Value->Fr->Fr
 |t::ps,v::vs,F=>Dp ps vs (fY F t (.val v))| _,_,F=>F
def Va(foot:List Nat)(N:aI->List aD->Prop)(kS:s'->aI->List aD->Prop):j0:=λex F C I M=>match ex with
 | .normal=>vL foot I M N| ex=>vL foot I M (kS ex)
def Dq:s'->Option Code
 | .normal=>none| .exit id=>some (.exit id)| .goto l=>some (.goto l)| .ret=>some .ret
section
variable{X:cV}{β:Nat->Nat}{a:Act}{w:World}{F:Fr}{C:dB}{I:aI}{M:List aD}
def Vb:∀ (ps:List Nat) (vs:List Value) (F:Fr) (tmps:Array Value),(∀ t∈ps,t<tmps.size)->(∀ t,eU β (F t) (tmps.getD t undef)) ->
  let r:=(ps.zip vs).foldl (λ(tmps:Array Value) (p:Nat×Value)=>tmps.setIfInBounds p.1 p.2) tmps
  r.size=tmps.size/\∀ t,eU β (Dp ps vs F t) (r.getD t undef)
 |[],vs,F,tmps,_,h=>⟨rfl,h⟩| t::ps,[],F,tmps,_,h=>⟨rfl,h⟩
 |t::ps,v::vs,F,tmps,aC,h=>by
  have aa:∀ s,eU β (fY F t (.val v) s) ((tmps.setIfInBounds t v).getD s undef):=λs=>by have:=NQ (β:=β) (F:=F) (a:=⟨tmps,[]⟩) h (d:=t) (x:=.val v) (v:=v) (aC t (by simp)) rfl s;exact this
  have aN:=Vb ps vs (fY F t (.val v)) (tmps.setIfInBounds t v) (λs ar=>by simpa using aC s (by simp[ar])) aa;simp only[List.zip_cons_cons,jn,Dp];exact⟨by simpa using aN.1,aN.2⟩
def cH.Vc(h:cH X β a w F C I M):cH X β { a with defers:=w9 w.heap.size::a.defers } (w.alloc (.deferred (some []))) F C I M where
 size:=h.size
 defers:=by
  obtain⟨a0,aa,ab,ak⟩:=h.defers;refine⟨w.heap.size::a0,by simp[aa],?_,?_⟩;·rw[kM];refine⟨λhm=>?_,ab⟩;have:=(lJ.1 (ak _ hm).dU).1;omega
  ·intro r af;rcases ee.1 af with rfl | af
   ·exact⟨NO w _,h.sz,h.holds.r8,h.holds.q1⟩
   ·exact(ak r af).alloc _
 holds:=h.holds.alloc _
 al:=h.al
 cf s cs ar:=(h.cf s cs ar).alloc _
 inj:=h.inj
 h8:=h.h8
 hD:=h.hD
 own:=h.own
 dE:=NS h.dE h.sz _
 out:=h.out
 sz:=by have:=h.sz;simp;omega
 fm:=h.fm
def cH.Gn{n:Nat}{o o':Obj}(h:cH X β a w F C I (⟨n,o⟩::M)):cH X β a (w.putObj n o') F C I M:=by
 have f':(⟨n,o⟩:aD)∈(⟨n,o⟩:aD)::M:=by simp
 have bI:=h.holds.cd;simp only[cb,kM]at bI;exact {
  size:=h.size
  defers:=h.defers.mono λr af=>by have bn:n≠r:=af.eX _ f';refine { af with dU:=?_,eX:=λx ad=>af.eX x (by simp[ad]) };rw[nh (po bn)];exact af.dU
  holds:={
   i:=λb o jY=>by rw[nh (λe=>by have:=h.holds.d _ f';simp only at this;rw[e,this]at jY;cases jY)];exact h.holds.i b o jY
   m:=λx ad=>by rw[nh (λe=>bI.1 (cC.2 ⟨x,ad,e⟩))];exact h.holds.m x (by simp[ad])
   d:=λx ad=>h.holds.d x (by simp[ad])
   cd:=bI.2 }
  al:=h.al
  cf:=λs cs ar=>by have ag:=h.cf s cs ar;have bn:n≠β s:=ag.eX _ f';obtain⟨T,bs⟩:=ag.dU;refine { ag with dU:=⟨T,?_⟩,eX:=λx ad=>ag.eX x (by simp[ad]) };rw[nh (po bn)];exact bs
  inj:=h.inj
  h8:=h.h8
  hD:=h.hD
  own:=λx ad=>h.own x (by simp[ad])
  dE:=λb ag aA=>by
   rw[nh (λe=>by
    rcases h.own _ f' with aa | aa;·simp only at aa;exact aA (e ▸ aa)
    ·simp only at aa;omega)]
   exact h.dE b ag aA
  out:=h.out.trans (Jw _ _ _)
  sz:=by have:=h.sz;simpa using this
  fm:=h.fm }
def cY.JW{K:j0}{n:Nat}{Q:Nat->List Value->aI->Prop}{A:(Nat->aI->List aD->Prop)->Prop}(dH:∀ x S,A S->A λk I M=>∃ df,M=x::df/\S k I df)(aM:cU X.P X.E)(gp:X.ro=none)(bu:(codeOk X.n fe&&(codeOk X.n body&&ps.toList.all (λt=>Nat.blt t X.n)))=true)(Og:bE F f=.val (.func (.func g) #[] cap))(Oh:h7 X.foot I M I1 M1)(Bj:U9 A X.P g cap.toList I1 n Q)(c2:∀ k vs I,k<n->Q k vs I->vs.length=ps.size)(R:Nat->aI->List aD->Prop)(kS:s'->aI->List aD->Prop)(xt:A R)(start:R 0 I1 M1)(round:∀ k (ae:k<n) vs I' M',(∀ b o,I1 b=some o->I' b=some o)->Q k vs I'->R k I' M'->∀ l B az g5,V ⟨X.P,X.E,X.gx,X.n,B,az,I',M'.map (·.num),some l⟩ fe (Dp ps.toList vs F) (λ_=>none) I' M' (yR (λF C I M=>V ⟨X.P,X.E,X.gx,X.n,B,g5,I',M'.map (·.num),some l⟩ body F C I M (Va (M'.map (·.num)) (R (k+1)) kS)) (λ_ _ _ _ _=>False)))(done:∀ I' M',(∀ b o,I1 b=some o->I' b=some o)->R n I' M'->K .normal F C I' M')(stop:∀ ex I' M',(∀ b o,I1 b=some o->I' b=some o)->kS ex I' M'->ex≠.normal/\K ex F C I' M') :
  cY X (.rangeFunc f ps fe body) F C I M K:=by
 refine⟨λa w ⟨β,iu⟩=>?_⟩;have aW:=iu.hS Oh;simp only[cB]at bu;obtain⟨xu,mg,Gp⟩:=bu;refine wpIn_rangeFunc λfn _=>?_;let gB (s:LoopState) (qg:Option Code):Loop:={ state:=s,pending:=qg,fn:=fn,tmps:=a.tmps,params:=ps,assign:=fe,body:=body,defers:=w.heap.size }
 let l:=w.heap.size+1
 let ku:World:=(w.alloc (.deferred (some []))).alloc (.loop (gB .ready none))
 have Bk:=aW.Vc.nS (.loop (gB .ready none));have ay:(w.alloc (.deferred (some []))).heap.size=l:=by simp[l]
 rw[ay]at Bk;let xv (k:Nat) (I':aI) (M':List aD):Prop:=∃ df,M'=⟨l,.loop (gB .ready none)⟩::df/\R k I' df
 let Vd (I':aI) (M':List aD):Prop:=∃ ex c df,Dq ex=some c/\M'=⟨l,.loop (gB .done (some c))⟩::df/\kS ex I' df
 have aE:∀ k (ae:k<n) vs I' M',(∀ b o,I1 b=some o->I' b=some o)->Q k vs I'->xv k I' M'->Dn X.P l vs I' M' λv y7 mf=>(v=.bool true/\xv (k+1) y7 mf)\/(v=.bool false/\Vd y7 mf):=by
  rintro k ae vs I' _ bp q5⟨df,rfl,agc⟩W hT;have Gq:W.heap[l]?=some (.loop (gB .ready none)):=hT.m ⟨l,.loop (gB .ready none)⟩ (by simp);have aV:l<W.heap.size:=(lJ.1 Gq).1;have bI:=hT.cd;simp only[cb,kM]at bI;have Ve:I' l=none:=hT.d ⟨l,.loop (gB .ready none)⟩ (by simp);refine⟨_,_,_,_,run_yield Gq (by simpa using c2 _ _ _ ae q5),?_⟩;have rp:((gB LoopState.ready none).params.zip vs.toArray).foldl (λtmps (x:Nat×Value)=>match x with | (t,a)=>tmps.setIfInBounds t a) (gB LoopState.ready none).tmps=(ps.toList.zip vs).foldl (λ(tmps:Array Value) (p:Nat×Value)=>tmps.setIfInBounds p.1 p.2) a.tmps:=by rw[<-NK];simp[gB]
  have Oi:=Vb (β:=β) ps.toList vs F a.tmps (λt av=>by
   have:=fx.1 Gp t av;rw[aW.size];exact bJ this) aW.al
  rw[<-rp]at Oi;refine roundIn_of_wpIn (F:=Fence.wide) (n:=0) trivial ?_;let vV:cV:=⟨X.P,X.E,X.gx,X.n,W.heap.size,W,I',df.map (·.num),some l⟩
  let g5:=W.putObj l (.loop (gB .busy none))
  let Gr:cV:=⟨X.P,X.E,X.gx,X.n,W.heap.size,g5,I',df.map (·.num),some l⟩
  have ah:=round k ae vs I' df bp q5 agc l W.heap.size W g5;have F1:cH vV β { tmps:=((gB LoopState.ready none).params.zip vs.toArray).foldl (λtmps (x:Nat×Value)=>match x with | (t,a)=>tmps.setIfInBounds t a) (gB LoopState.ready none).tmps,defers:=[] } W (Dp ps.toList vs F) (λ_=>none) I' df:={
   size:=Oi.1.trans aW.size
   defers:=⟨[],rfl,yH,λr af=>by cases af⟩
   holds:=⟨hT.i,λx ad=>hT.m x (by simp[ad]),λx ad=>hT.d x (by simp[ad]),bI.2⟩
   al:=Oi.2
   cf:=λs cs ar=>by cases ar
   inj:=λs b3 aa=>by simp at aa
   h8:=λb o ag=>ag
   hD:=λb o ag=>.inl ag
   own:=λx ad=>.inl (cC.2 ⟨x,ad,rfl⟩)
   dE:=λb ag aA=>rfl
   out:=.refl _
   sz:=cc _
   fm:=λx ad=>by
    obtain⟨y,aE,rfl⟩:=cC.1 ad;exact(lJ.1 (hT.m y (by simp[aE]))).1 }
  have JE:=q8 (X:=vV) aM fe xu ⟨β,F1⟩ ah;refine wpIn_mono (Q:=mJ vV _) JE ?_;intro e cL hV ar;cases e with
  |exit id=>obtain⟨_,_,_,_,_,ae⟩:=ar;exact ae.elim
  |goto id=>obtain⟨_,_,_,_,_,ae⟩:=ar;exact ae.elim
  |ret=>obtain⟨_,_,_,_,_,ae⟩:=ar;exact ae.elim
  |panic F0=>exact ar.elim| outgrown=>exact ar.elim
  |normal=>
   obtain⟨lN,agd,dv,sh,⟨Vf,ir⟩,JA⟩:=ar;have xw:hV.heap[l]?=some (.loop (gB .ready none)):=by rw[ir.dE l aV bI.1];exact Gq
   refine⟨_,run_beginRound xw rfl,?_⟩;have age:dv l=none:=by
    cases bt:dv l with
    |none=>rfl
    |some o=>
     rcases ir.hD _ _ bt with aa | aa;·rw[show vV.dp=I' from rfl,Ve]at aa;cases aa
     ·exact absurd aa (Nat.not_le.2 aV)
   have agf:∀ x∈sh,x.num≠l:=λx ad e=>by
    rcases ir.own x ad with aa | aa;·rw[e]at aa;exact bI.1 aa
    ·rw[e]at aa;exact absurd aa (Nat.not_le.2 aV)
   have rm:cH Gr Vf cL (hV.putObj l (.loop (gB .busy none))) lN agd dv sh:={
    size:=ir.size
    defers:=by obtain⟨a0,a8,ba,bP⟩:=ir.defers;refine⟨a0,a8,ba,λr fz=>?_⟩;have af:=bP r fz;refine { dU:=?_,cQ:=af.cQ,jW:=af.jW,eX:=af.eX };rw[nh (λe=>by have aa:=af.dU;rw[e,xw]at aa;cases aa)];exact af.dU
    holds:={
     i:=λb o jY=>by rw[nh (λe=>by rw[e,age]at jY;cases jY)];exact ir.holds.i b o jY
     m:=λx ad=>by rw[nh (agf x ad)];exact ir.holds.m x ad
     d:=ir.holds.d
     cd:=ir.holds.cd }
    al:=ir.al
    cf:=λs cs ar=>by have ag:=ir.cf s cs ar;obtain⟨T,bs⟩:=ag.dU;refine { dU:=⟨T,?_⟩,cQ:=ag.cQ,jW:=ag.jW,eX:=ag.eX };rw[nh (λe=>by rw[e,xw]at bs;cases bs)];exact bs
    inj:=ir.inj
    h8:=ir.h8
    hD:=ir.hD
    own:=ir.own
    dE:=λb ag aA=>by
     by_cases e:b=l;·subst e;rw[Dg (lJ.1 xw).1];exact(Dg aV).symm
     ·rw[nh e];show _=(W.putObj l (.loop (gB .busy none))).heap[b]?;rw[nh e];exact ir.dE b ag aA
    out:=⟨ir.out.1,ir.out.2⟩
    sz:=by have:=ir.sz;simpa using this
    fm:=ir.fm }
   have agh:=q8 (X:=Gr) aM body mg ⟨Vf,rm⟩ JA;refine wpIn_mono (Q:=mJ Gr _) agh ?_;have fin:∀ (ei:Act) (mh:World) (vW:Fr) (vX:dB) (hW:aI) (rq:List aD) (jump:Option Code),Rel Gr ei mh vW vX hW rq->∃ iL,(Instr.endRound l jump).run X.P mh=.ok (.bool jump.isNone) iL /\
     ey hW (⟨l,.loop (gB (if jump.isNone then .ready else .done) jump)⟩::rq) iL/\Kept I' (⟨l,.loop (gB .ready none)⟩::df) W hW (⟨l,.loop (gB (if jump.isNone then .ready else .done) jump)⟩::rq) iL:=by
    rintro ei mh vW vX hW rq jump⟨y8,ak⟩;have y9:mh.heap[l]?=some (.loop (gB .busy none)):=by rw[ak.dE l aV bI.1];exact Dg aV
    have Vg:hW l=none:=by
     cases bt:hW l with
     |none=>rfl
     |some o=>
      rcases ak.hD _ _ bt with aa | aa;·rw[show Gr.dp=I' from rfl,Ve]at aa;cases aa
      ·exact absurd aa (Nat.not_le.2 aV)
    have Vh:∀ x∈rq,x.num≠l:=λx ad e=>by
     rcases ak.own x ad with aa | aa;·rw[e]at aa;exact bI.1 aa
     ·rw[e]at aa;exact absurd aa (Nat.not_le.2 aV)
    refine⟨_,run_endRound jump y9,?_,?_⟩
    ·exact {
      i:=λb o jY=>by rw[nh (λe=>by rw[e,Vg]at jY;cases jY)];exact ak.holds.i b o jY
      m:=λx ad=>by
       rcases ee.1 ad with rfl | ad;·exact Dg (lJ.1 y9).1
       ·rw[nh (Vh x ad)];exact ak.holds.m x ad
      d:=λx ad=>by
       rcases ee.1 ad with rfl | ad;·exact Vg
       ·exact ak.holds.d x ad
      cd:=by
       simp only[cb,kM];refine⟨λhm=>?_,ak.holds.cd⟩;obtain⟨x,ad,e⟩:=cC.1 hm;exact Vh x ad e }
    ·exact {
      le:=ak.h8
      uh:=ak.hD
      vC:=λx ad=>by
       rcases ee.1 ad with rfl | ad;·exact .inl ⟨⟨l,.loop (gB .ready none)⟩,by simp,rfl⟩
       ·rcases ak.own x ad with aa | aa
        ·obtain⟨y,aE,e⟩:=cC.1 aa;exact .inl ⟨y,by simp[aE],e⟩
        ·exact .inr aa
      dE:=λb ag bn=>by
       have mO:b≠l:=λe=>bn ⟨l,.loop (gB .ready none)⟩ (by simp) e.symm;rw[nh mO,ak.dE b ag (λhm=>by
        obtain⟨y,aE,e⟩:=cC.1 hm;exact bn y (by simp[aE]) e)]
       exact nh mO
      out:=⟨ak.out.1,ak.out.2⟩
      sz:=by have:=ak.sz;simpa using this }
   intro e ei mh y';cases e with
   |normal=>obtain⟨vW,vX,hW,rq,⟨y8,ak⟩,⟨rr,py,Bl,aC⟩⟩:=y';obtain⟨iL,aJ,bB,b5⟩:=fin ei mh vW vX rr py none ⟨y8,ak.hS Bl⟩;exact⟨_,iL,aJ,_,_,_,rfl,.inl ⟨rfl,_,rfl,aC⟩,bB,b5⟩
   |exit id=>obtain⟨vW,vX,hW,rq,⟨y8,ak⟩,⟨rr,py,Bl,aC⟩⟩:=y';obtain⟨iL,aJ,bB,b5⟩:=fin ei mh vW vX rr py (some (.exit id)) ⟨y8,ak.hS Bl⟩;exact⟨_,iL,aJ,_,_,_,rfl,.inr ⟨rfl,.exit id,_,_,rfl,rfl,aC⟩,bB,b5⟩
   |goto id=>obtain⟨vW,vX,hW,rq,⟨y8,ak⟩,⟨rr,py,Bl,aC⟩⟩:=y';obtain⟨iL,aJ,bB,b5⟩:=fin ei mh vW vX rr py (some (.goto id)) ⟨y8,ak.hS Bl⟩;exact⟨_,iL,aJ,_,_,_,rfl,.inr ⟨rfl,.goto id,_,_,rfl,rfl,aC⟩,bB,b5⟩
   |ret=>obtain⟨vW,vX,hW,rq,⟨y8,ak⟩,⟨rr,py,Bl,aC⟩⟩:=y';obtain⟨iL,aJ,bB,b5⟩:=fin ei mh vW vX rr py (some .ret) ⟨y8,ak.hS Bl⟩;exact⟨_,iL,aJ,_,_,_,rfl,.inr ⟨rfl,.ret,_,_,rfl,rfl,aC⟩,bB,b5⟩
   |panic F0=>exact y'.elim| outgrown=>exact y'.elim
 obtain⟨p7,A6⟩:=Bj l xv Vd (dH _ _ xt) aE I1 (⟨l,.loop (gB .ready none)⟩::M1) (λ_ _ h=>h) ⟨M1,rfl,start⟩;have mP:=A6 ku Bk.holds;have a7:=dc aW.al Og;refine⟨l,[w9 w.heap.size],ku,{ target:=.fn (.func g) cap,args:=#[.func (.yield l) #[] #[]] },ku,g,(.func (.yield l) #[] #[]::cap.toList).toArray,ku,?_,?_,λ_ _=>trivial,?_,(λh=>by cases h),?_⟩
 ·have Oj:(g3 X).round=none:=gp;rw[Oj];exact run_enterLoop_outer fn a.tmps ps fe body
 ·show(Deferred.ofValue (a.eval f) (#[Operand.const (.func (.yield l) #[] #[])].map a.eval)).run X.P ku=_;rw[a7];simp[Deferred.ofValue,Act.eval]
 ·simp only[invoke];rw[show #[Value.func (.yield l) #[] #[]]++cap=(.func (.yield l) #[] #[]::cap.toList).toArray from by apply gS;simp];exact p7 _ _
 ·refine(NV (X:=X) mP _).mono ?_;rintro e mh⟨v,I',M',rfl,aC,q2,dX⟩;have si:=Bk.after (Mr:=[]) (by simp) q2 dX;rw[ef]at si;have bp:=dX.le;rcases aC with⟨df,rfl,Vi⟩ | ⟨ex,c,df,ap,rfl,agi⟩
  ·refine⟨none,_,run_endLoop (q2.m ⟨l,.loop (gB .ready none)⟩ (by simp)) (by simp[gB]),?_⟩;exact⟨F,C,I',df,⟨β,si.Gn⟩,done I' df bp Vi⟩
  ·refine⟨some c,_,run_endLoop (q2.m ⟨l,.loop (gB .done (some c))⟩ (by simp)) (by simp[gB]),?_⟩;obtain⟨bn,ae⟩:=stop ex I' df bp agi;cases ex with
   |normal=>exact(bn rfl).elim| exit id=>cases ap;exact wpIn_exit ⟨F,C,I',df,⟨β,si.Gn⟩,ae⟩| goto id=>cases ap;exact wpIn_goto ⟨F,C,I',df,⟨β,si.Gn⟩,ae⟩| ret=>cases ap;exact wpIn_ret ⟨F,C,I',df,⟨β,si.Gn⟩,ae⟩
def cY.range{K:j0}{uy:List (List Value)}(aM:cU X.P X.E)(gp:X.ro=none)(bu:(codeOk X.n fe&&(codeOk X.n body&&ps.toList.all (λt=>Nat.blt t X.n)))=true)(Og:bE F f=.val (.func (.func g) #[] cap))(Oh:h7 X.foot I M I1 M1)(Bj:Iter X.P g cap.toList I1 uy)(c2:∀ vs∈uy,vs.length=ps.size)(R:Nat->aI->List aD->Prop)(kS:s'->aI->List aD->Prop)(start:R 0 I1 M1)(round:∀ k (ae:k<uy.length) I' M',(∀ b o,I1 b=some o->I' b=some o)->R k I' M'->∀ l B az g5,V ⟨X.P,X.E,X.gx,X.n,B,az,I',M'.map (·.num),some l⟩ fe (Dp ps.toList uy[k] F) (λ_=>none) I' M' (yR (λF C I M=>V ⟨X.P,X.E,X.gx,X.n,B,g5,I',M'.map (·.num),some l⟩ body F C I M (Va (M'.map (·.num)) (R (k+1)) kS)) (λ_ _ _ _ _=>False)))(done:∀ I' M',(∀ b o,I1 b=some o->I' b=some o)->R uy.length I' M'->K .normal F C I' M')(stop:∀ ex I' M',(∀ b o,I1 b=some o->I' b=some o)->kS ex I' M'->ex≠.normal/\K ex F C I' M') :
  cY X (.rangeFunc f ps fe body) F C I M K:=by
 refine cY.JW (A:=λ_=>True) (Q:=λk vs _=>uy[k]?=some vs) (λ_ _ _=>trivial) aM gp bu Og Oh (n:=uy.length) ?_ (λk vs _ _ h=>c2 vs (rc h)) R kS trivial start (λk ae vs I' M' bp h aW=>?_) done stop
 ·intro l R kS _ h;exact Bj l R kS λk ae I' M' bp aW=>h k ae _ I' M' bp (da ae) aW
 ·obtain⟨_,rfl⟩:=h5.1 h;exact round k ae I' M' bp aW
end
structure aX where
 a:Option Nat
 n:Nat
 c:Nat
 aR:List Value
def aX.val(o:aX):Value:=.slice (o.a.map λg=>⟨g,0,none⟩) o.n o.c
def aX.aq(o:aX)(e:Nat):List aD:=match o.a with
 |some g=>[⟨g,.cells o.aR.toArray e (0,0)⟩]| none=>[]
structure aX.ok(o:aX)(size:Nat)(xs:List Value):Prop where
 len:xs.length=o.n*size
 nil:o.a=none->o.n=0/\o.c=0
 cap:∀ g,o.a=some g->o.aR.length=o.c*size/\o.n<=o.c/\o.c<=maxLen/\o.aR.take (o.n*size)=xs
section
variable{P:Program}{w:World}
def Ok(t u ty e:Nat)(i:TypeInfo)(z:Value)(av:P.underlying t=some (.slice e)){mi:TypeDesc}(hu:P.underlying u=some mi)(nV:∀ k,mi≠.int k)(hi:P.info? e=some i)(bb:i.zero=some z)(qh:z.cells.size=i.size)
  {os:aX} (bu:os.ok i.size xs) (au:∀ g,os.a=some g->w.heap[g]?=some (.cells os.aR.toArray e (0,0)))
  {x:Value} (hm:0<m) (ay:b8.length=m*i.size) (aa:∀ v∈b8,v.oneCell'=true)
  (c2:∀ w',(Builtin.lenOf x).run P w'=.ok m w') (e4:∀ w':World,w'.heap=w.heap->(Builtin.firstCells i.size m x).run P w'=.ok b8.toArray w')
  (b1:os.n+m<=maxLen) (b0:(os.n+m)*i.bytes<=140737488355328) :
  ∃ (g c:Nat) (aR:List Value) (w':World),(Builtin.append_ #[t,u] ty #[os.val,x]).run P w=.ok (.slice (some ⟨g,0,none⟩) (os.n+m) c) w'/\aR.length=c*i.size/\os.n+m<=c/\c<=maxLen/\aR.take ((os.n+m)*i.size)=xs++b8 /\
   ((os.a=some g/\w'=w.setRow g aR.toArray)\/(g=w.heap.size/\w'=w.drew.alloc (.cells aR.toArray e (0,0)))):=by
 obtain⟨a,n,c,aR⟩:=os;have Dr:(xs++b8).length=(n+m)*i.size:=by rw[cm,bu.len,ay,lL]
 have JX:∀ dE,(xs++b8++(Builtin.zeroCells z.cells (grownCap w (n+m) dE e-(n+m))).toList).length=grownCap w (n+m) dE e*i.size/\n+m<=grownCap w (n+m) dE e/\grownCap w (n+m) dE e<=maxLen /\
   (xs++b8++(Builtin.zeroCells z.cells (grownCap w (n+m) dE e-(n+m))).toList).take ((n+m)*i.size)=xs++b8:=by
  intro dE;have cA:=grownCap_ge w (n+m) dE e;have kv:grownCap w (n+m) dE e<=maxLen:=grownCap_le_maxLen w (n+m) dE e b1;refine⟨?_,cA,kv,?_⟩;·rw[cm,Dr,yW,size_zeroCells,qh,<-lL];congr 1;omega
  ·rw[<-Dr];exact yY
 have Gs:(match mi with | .int _=>true | _=>false)=false:=by cases mi<;>first | rfl | exact(nV _ rfl).elim
 have hk:n+m<=9223372036854775807:=by simp only[maxLen]at b1;exact b1
 cases a with
 |none=>
  obtain⟨uz,za⟩:=bu.nil rfl;simp only at uz za;subst uz;subst za;have ad:xs=[]:=iK (by simpa using bu.len);subst ad;simp only[db,iq]at *;have az:0<m:=hm;have aB:m≠0:=by omega
  have Bm:¬ (9223372036854775807<(m:Int)):=by omega
  have Bn:¬ (281474976710656<Builtin.nextslicecap m 0*i.bytes):=by rw[nextslicecap_zero az];omega
  have aA:=e4 w.drew rfl;obtain⟨a8,ba,bP,fr⟩:=JX 0;refine⟨w.heap.size,grownCap w m 0 e,_,w.drew.alloc (.cells (b8++(Builtin.zeroCells z.cells (grownCap w m 0 e-m)).toList).toArray e),?_,a8,ba,bP,fr,.inr ⟨rfl,rfl⟩⟩;simp[aX.val,Builtin.append_,run_underlying av,run_underlying hu,sizeOf,typeInfo,zeroValue,hi,bb,c2,aB,Bm,Bn,Question.forced,run_firstCells_none,aA,newRow,grownCap];congr 2;apply gS;simp
 |some g=>
  obtain⟨d',mQ,kv,mR⟩:=bu.cap g rfl;have Ol:=au g rfl;simp only at d' mQ kv mR Ol;by_cases uA:n+m<=c
  ·have js:n*i.size+b8.length<=aR.length:=by rw[ay,d',<-lL];exact vA _ uA
   have eu:=run_storeCells_at P g (n*i.size) e b8 0 aR.toArray w Ol (by simpa using js) aa;simp only[pk]at eu;refine⟨g,c,aR.take (n*i.size)++b8++aR.drop (n*i.size+b8.length),_,?_,?_,uA,kv,?_,.inl ⟨rfl,rfl⟩⟩;·have aA:=e4 w rfl;simp[aX.val,Builtin.append_,run_underlying av,run_underlying hu,sizeOf,typeInfo,hi,c2,uA,aA,Addr.add_lit,eu]
   ·simp only[cm,hU,tb];omega
   ·rw[mR,<-Dr];exact yY
  ·have aB:¬ (n+m<=c):=by omega
   have Bm:¬ (9223372036854775807<((n:Int)+(m:Int))):=by omega
   have Bn:¬ (281474976710656<Builtin.nextslicecap (n+m) c*i.bytes):=by have:=growslice_fits (by omega:c<n+m) b0;omega
   have aA:=e4 w.drew rfl;have agj:∀ j v,xs[j]?=some v->w.drew.cell? ((⟨g,0,none⟩:Addr).add j)=some v:=by
    intro j v ai;have oC:w.drew.heap[g]?=some (.cells aR.toArray e (0,0)):=Ol;rw[eP _ rfl,s7 oC];rw[<-mR,k6]at ai;split at ai;·simpa using ai
    ·cases ai
   have Om:=run_firstCells_some (P:=P) w.drew i.size n ⟨g,0,none⟩ n c xs bu.len agj;obtain⟨a8,ba,bP,fr⟩:=JX c;refine⟨w.heap.size,grownCap w (n+m) c e,_,w.drew.alloc (.cells (xs++b8++(Builtin.zeroCells z.cells (grownCap w (n+m) c e-(n+m))).toList).toArray e),?_,a8,ba,bP,fr,.inr ⟨rfl,rfl⟩⟩;simp[aX.val,Builtin.append_,run_underlying av,run_underlying hu,sizeOf,typeInfo,zeroValue,hi,bb,c2,aB,Bm,Bn,Question.forced,aA,Om,newRow,grownCap];congr 2;apply gS;simp
end
section
variable{X:cV}{β:Nat->Nat}{a:Act}{w:World}{F:Fr}{C:dB}{I:aI}{M:List aD}{o:Oper}{K:gd}
def On(aM:cU X.P X.E){t:Nat}(aH:o.op=.call { callee:=.builtin .append,args:=#[s,x],argTypes:=#[t,u] })(aj:∀ d,o.dst=some d->d<X.n)
 (av:X.E t=some c7) (dR:c7.bL=.slice e) (hu:X.E u=some lM) (fE:∀ k,lM.bL≠.int k) (he:X.E e=some aF)
  (os:aX) (bu:os.ok aF.size xs) (ar:bE F s=.val os.val)
  {pz:Value} (ad:bE F x=.val pz) (hm:0<m) (ay:b8.length=m*aF.size) (aa:gm b8=true)
  (c2:∀ w',(Builtin.lenOf pz).run X.P w'=.ok m w') (e4:∀ w,ey I M w->(Builtin.firstCells aF.size m pz).run X.P w=.ok b8.toArray w)
 (a':M.Perm (os.aq e++Mr)) (b1:os.n+m<=maxLen) (b0:(os.n+m)*aF.bytes<=140737488355328)
  (k:∀ (g c:Nat) (aR:List Value),I g=none->aR.length=c*aF.size->os.n+m<=c->c<=maxLen->aR.take ((os.n+m)*aF.size)=xs++b8 ->
   K (put o.dst (.val (.slice (some ⟨g,0,none⟩) (os.n+m) c)) F) C I (⟨g,.cells aR.toArray e (0,0)⟩::Mr)):bw X o F C I M K:=by
 refine⟨λa w Q ⟨β,iu⟩=>?_⟩;have aW:cH X β a w F C I (os.aq e++Mr):=iu.hS (.perm a' .refl);obtain⟨inf,z,hi,fh,iJ,il,ko⟩:=(aM _ _ he).inf;obtain⟨d,fF,fi⟩:=(aM _ _ hu).fl;obtain⟨fK,jJ,j4⟩:=(aM _ _ av).fl;have qi:fK=.slice e:=by rw[dR]at j4;cases fK<;>simp_all[fk]
 subst qi;have qh:z.cells.size=inf.size:=by rw[fh,<-(aM _ _ he).len,<-ko];simp
 rw[<-fh]at bu ay e4;obtain⟨g,c,aR,w',e9,a8,ba,bP,fr,lk⟩:=Ok (P:=X.P) (w:=w) t u o.type e inf z jJ fF (λk cW=>fE k (by rw[<-fi,cW];rfl)) hi il qh bu (λg au=>aW.holds.m ⟨g,.cells os.aR.toArray e (0,0)⟩ (by simp[aX.aq,au])) (x:=pz) hm ay (yJ aa) c2 (λw' xx=>e4 w' (iu.holds.heap xx)) b1 (by rw[iJ];exact b0);rw[fh]at a8 fr;have zb:I g=none:=by
  rcases lk with⟨au,_⟩ | ⟨rfl,_⟩;·exact aW.holds.d ⟨g,.cells os.aR.toArray e (0,0)⟩ (by simp[aX.aq,au])
  ·cases bt:I w.heap.size with
   |none=>rfl| some nx=>have:=aW.holds.i _ _ bt;simp at this
 have es:=dc aW.al ar;have ex:=dc aW.al ad;refine iV (by rw[aH];simp) (v:=.slice (some ⟨g,0,none⟩) (os.n+m) c) (w':=w') ?_ ⟨_,_,_,_,⟨β,cH.put (x:=.val (.slice (some ⟨g,0,none⟩) (os.n+m) c)) ?_ aj rfl⟩,k g c aR zb a8 ba bP fr⟩
 ·unfold execOp;simp only[aH,resolve,invoke,builtin,cj,c0,bV,sc,cb,hr,es,ex,e9]
 ·rcases lk with⟨au,rfl⟩ | ⟨rfl,rfl⟩
  ·have ag:os.aq e=[⟨g,.cells os.aR.toArray e (0,0)⟩]:=by simp[aX.aq,au]
   rw[ag]at aW;exact aW.xe (a9:=[]) (post:=Mr) rfl
  ·have ab:cH X β a w.drew F C I (os.aq e++Mr):=aW.world rfl;have ak:=ab.nS (.cells aR.toArray e (0,0));refine ak.hS (.sub ?_ .refl);exact List.Sublist.cons_cons _ (mb _ _)
def bw.append(aM:cU X.P X.E){t:Nat}(aH:o.op=.call { callee:=.builtin .append,args:=#[s,x],argTypes:=#[t,t] })(aj:∀ d,o.dst=some d->d<X.n)
 (av:X.E t=some c7) (dR:c7.bL=.slice e) (he:X.E e=some aF)
  (os:aX) (bu:os.ok aF.size xs) (ar:bE F s=.val os.val)
 (ad:bE F x=.val (.slice (some aS) m c')) (hm:0<m) (aB:cM I M aS (m*aF.size) b8) (aa:gm b8=true)
 (a':M.Perm (os.aq e++Mr)) (b1:os.n+m<=maxLen) (b0:(os.n+m)*aF.bytes<=140737488355328)
  (k:∀ (g c:Nat) (aR:List Value),aR.length=c*aF.size->os.n+m<=c->c<=maxLen->aR.take ((os.n+m)*aF.size)=xs++b8 ->
   K (put o.dst (.val (.slice (some ⟨g,0,none⟩) (os.n+m) c)) F) C I (⟨g,.cells aR.toArray e (0,0)⟩::Mr)):bw X o F C I M K:=by
 refine On aM aH aj av dR av (λk=>by rw[dR];simp) he os bu ar ad hm ?_ aa (λ_=>rfl) (λw hw=>?_) a' b1 b0 (λg c aR _=>k g c aR)
 ·obtain⟨_,_,_,_,_,_,h⟩:=aB;exact h
 ·obtain⟨dK,cs,T,al,e8,ah,ay⟩:=aB;refine run_firstCells_some (P:=X.P) w aF.size m aS m c' b8 ay λj v ai=>?_;rw[eP _ dK,s7 (e8.heap hw)];rw[<-ah,k6]at ai;split at ai
  ·rw[nj]at ai;simpa using ai
  ·cases ai
def bw.Gt(aM:cU X.P X.E){t:Nat}(aH:o.op=.call { callee:=.builtin .append,args:=#[s,x],argTypes:=#[t,t] })(aj:∀ d,o.dst=some d->d<X.n)
 (av:X.E t=some c7) (dR:c7.bL=.slice e) (he:X.E e=some aF)
  (os:aX) (bu:os.ok aF.size xs) (ar:bE F s=.val os.val)
 (ad:bE F x=.val (.slice (some aS) m c')) (hm:0<m) (aB:cM I M aS (m*aF.size) b8) (aa:gm b8=true)
 (a':M.Perm (os.aq e++Mr)) (b1:os.n+m<=maxLen) (b0:(os.n+m)*aF.bytes<=140737488355328)
  (k:∀ (g c:Nat) (aR:List Value),I g=none->aR.length=c*aF.size->os.n+m<=c->c<=maxLen->aR.take ((os.n+m)*aF.size)=xs++b8 ->
   K (put o.dst (.val (.slice (some ⟨g,0,none⟩) (os.n+m) c)) F) C I (⟨g,.cells aR.toArray e (0,0)⟩::Mr)):bw X o F C I M K:=by
 refine On aM aH aj av dR av (λk=>by rw[dR];simp) he os bu ar ad hm ?_ aa (λ_=>rfl) (λw hw=>?_) a' b1 b0 k
 ·obtain⟨_,_,_,_,_,_,h⟩:=aB;exact h
 ·obtain⟨dK,cs,T,al,e8,ah,ay⟩:=aB;refine run_firstCells_some (P:=X.P) w aF.size m aS m c' b8 ay λj v ai=>?_;rw[eP _ dK,s7 (e8.heap hw)];rw[<-ah,k6]at ai;split at ai
  ·rw[nj]at ai;simpa using ai
  ·cases ai
def ll(s:ByteArray):List Value:=s.data.toList.map λb=>.int .u8 b.toNat
def bw.agk(aM:cU X.P X.E){t:Nat}(aH:o.op=.call { callee:=.builtin .append,args:=#[s,x],argTypes:=#[t,u] })(aj:∀ d,o.dst=some d->d<X.n)
 (av:X.E t=some c7) (dR:c7.bL=.slice e) (hu:X.E u=some lM) (fE:lM.bL=.string) (he:X.E e=some aF) (dj:aF.size=1)
  (os:aX) (bu:os.ok aF.size xs) (ar:bE F s=.val os.val)
  {str:ByteArray} (ad:bE F x=.val (.string str)) (hm:0<str.size)
 (a':M.Perm (os.aq e++Mr)) (b1:os.n+str.size<=maxLen) (b0:(os.n+str.size)*aF.bytes<=140737488355328)
  (k:∀ (g c:Nat) (aR:List Value),aR.length=c*aF.size->os.n+str.size<=c->c<=maxLen->aR.take ((os.n+str.size)*aF.size)=xs++ll str ->
   K (put o.dst (.val (.slice (some ⟨g,0,none⟩) (os.n+str.size) c)) F) C I (⟨g,.cells aR.toArray e (0,0)⟩::Mr)):bw X o F C I M K:=by
 refine On aM aH aj av dR hu (λk=>by rw[fE];simp) he os bu ar ad hm ?_ ?_ (λ_=>rfl) (λw hw=>?_) a' b1 b0 (λg c aR _=>k g c aR)
 ·simp[ll,dj]
 ·refine fx.2 λv ah=>?_;obtain⟨b,_,rfl⟩:=cC.1 ah;rfl
 ·simp only[Builtin.firstCells,c0];congr 1;apply gS;have aG:str.extract 0 str.size=str:=by apply vB;simp[Jq]
  simp[ll,aG]
end
section
variable{X:cV}{F:Fr}{C:dB}{I:aI}{M:List aD}{o:Oper}{K:gd}
def Vj{t:Nat}(av:P.underlying t=some (.array 4 e)){k:IntKind}(he:P.underlying e=some (.int k)){inf:TypeInfo}(hi:P.info? e=some inf)(ar:inf.size=1)(fB cL dW ei oD b1 b0 cD:Int)(w:World) :
  (Op.equal t (.agg #[.int k fB,.int k cL,.int k dW,.int k ei]) (.agg #[.int k oD,.int k b1,.int k b0,.int k cD])).run P w=.ok (fB == oD&&(cL == b1&&(dW == b0&&ei == cD))) w:=by
 have JY:∀ (xs:Array Value) (i:Nat) (v:Value) (w:World),xs[i]?=some v->(part e xs i).run P w=.ok v w:=λxs i v w h=>by
  have FP:(isAgg e).run P w=.ok false w:=by unfold isAgg;simp[run_underlying he]
  unfold part;simp[FP,sizeOf,typeInfo,hi,ar,h]
 have hint:∀ (d:Nat) (x y:Int) (w:World),(Op.equalIn (d+1) e (.int k x) (.int k y)).run P w=.ok (x == y) w:=λd x y w=>by simp[Op.equalIn,run_underlying he]
 have key:∀ m,(∀ (x y:Int) (w:World),(Op.equalIn m e (.int k x) (.int k y)).run P w=.ok (x == y) w)->(Op.equalIn (m+1) t (.agg #[.int k fB,.int k cL,.int k dW,.int k ei]) (.agg #[.int k oD,.int k b1,.int k b0,.int k cD])).run P w=.ok (fB == oD&&(cL == b1&&(dW == b0&&ei == cD))) w:=λm hint=>by
  rw[Op.equalIn];simp only[cj,run_underlying av,bV,sizeOf,typeInfo,hi,run_program,c0,ar];simp only[UJ];have af:List.range' 0 ([:4]:Std.Legacy.Range).size=[0,1,2,3]:=by decide
  rw[af];have pa:=λ(i:Nat) (v:Value) (w:World)=>JY #[.int k fB,.int k cL,.int k dW,.int k ei] i v w;have JZ:=λ(i:Nat) (v:Value) (w:World)=>JY #[.int k oD,.int k b1,.int k b0,.int k cD] i v w;simp only[List.forIn_cons,List.forIn_nil,cj];rw[pa (0*1) (.int k fB) w rfl];simp only[bV,cj];rw[JZ (0*1) (.int k oD) w rfl];simp only[bV,cj];rw[hint];simp only[bV];cases(fB == oD);·simp
  simp only[uu,k7,l5,c0,bV,cj];rw[pa (1*1) (.int k cL) w rfl];simp only[bV,cj];rw[JZ (1*1) (.int k b1) w rfl];simp only[bV,cj];rw[hint];simp only[bV];cases(cL == b1);·simp
  simp only[uu,k7,l5,c0,bV,cj];rw[pa (2*1) (.int k dW) w rfl];simp only[bV,cj];rw[JZ (2*1) (.int k b0) w rfl];simp only[bV,cj];rw[hint];simp only[bV];cases(dW == b0);·simp
  simp only[uu,k7,l5,c0,bV,cj];rw[pa (3*1) (.int k ei) w rfl];simp only[bV,cj];rw[JZ (3*1) (.int k cD) w rfl];simp only[bV,cj];rw[hint];simp only[bV];cases(ei == cD);·simp
  simp
 exact key 9999 (hint 9998)
def gn.Oo{E:Env}(aM:cU P E){t:Nat}(av:E t=some c7)(dR:c7.bL=.array 4 e)(he:E e=some aF){k:IntKind}(kw:aF.bL=.int k)(au:P.eqGuardType P.depth t=false){fB cL dW ei oD b1 b0 cD:Int}{V:Value->Prop}
  (h:V (.bool (fB == oD&&(cL == b1&&(dW == b0&&ei == cD))))):gn P .eql t x y (.val (.agg #[.int k fB,.int k cL,.int k dW,.int k ei])) (.val (.agg #[.int k oD,.int k b1,.int k b0,.int k cD])) V other:=by
 obtain⟨d,fF,fi⟩:=(aM _ _ av).fl;obtain⟨qj,Oq,Ot⟩:=(aM _ _ he).fl;obtain⟨inf,z,hi,fh,_⟩:=(aM _ _ he).inf;have aa:d=.array 4 e:=by rw[dR]at fi;cases d<;>simp_all[fk]
 have ab:qj=.int k:=by rw[kw]at Ot;cases qj<;>simp_all[fk]
 subst aa;subst ab;have fo:inf.size=1:=by rw[fh];exact(aM _ _ he).Jt (by rw[kw];rfl)
 refine .mk _ _ _ rfl rfl (λw=>?_) h;simp only[cj,run_eqGuard_agg (hm:=au),bV,binOp,Vj fF Oq hi fo,c0]
def gn.concat{t:Nat}{a b:ByteArray}(ar:a.size+b.size<=9223372036854775807){V:Value->Prop}(h:V (.string (a++b))):gn P .add t x y (.val (.string a)) (.val (.string b)) V other:=by refine .mk _ _ _ rfl rfl (λw=>?_) h;simp only[cj,NU,bV,binOp,run_string_add_sum _ _ _ ar,c0]
end
section
variable{X:cV}{β:Nat->Nat}{a:Act}{w:World}{F:Fr}{C:dB}{I:aI}{M:List aD}{o:Oper}{K:gd}
def cH.Vk{n:Nat}{nx:Obj}(h:cH X β a w F C I (⟨n,nx⟩::M))(ar:w'.heap.size=w.heap.size)(ag:∀ b,b≠n->w'.heap[b]?=w.heap[b]?)(aH:oh w w'):cH X β a w' F C I M:=by
 have f':(⟨n,nx⟩:aD)∈(⟨n,nx⟩:aD)::M:=by simp
 have bI:=h.holds.cd;simp only[cb,kM]at bI;exact {
  size:=h.size
  defers:=h.defers.mono λr af=>by have bn:n≠r:=af.eX _ f';refine { af with dU:=?_,eX:=λx ad=>af.eX x (by simp[ad]) };rw[ag r (po bn)];exact af.dU
  holds:={
   i:=λb o jY=>by rw[ag b (λe=>by have:=h.holds.d _ f';simp only at this;rw[e,this]at jY;cases jY)];exact h.holds.i b o jY
   m:=λx ad=>by rw[ag _ (λe=>bI.1 (cC.2 ⟨x,ad,e⟩))];exact h.holds.m x (by simp[ad])
   d:=λx ad=>h.holds.d x (by simp[ad])
   cd:=bI.2 }
  al:=h.al
  cf:=λs cs nq=>by have q9:=h.cf s cs nq;have bn:n≠β s:=q9.eX _ f';obtain⟨T,bs⟩:=q9.dU;refine { q9 with dU:=⟨T,?_⟩,eX:=λx ad=>q9.eX x (by simp[ad]) };rw[ag _ (po bn)];exact bs
  inj:=h.inj
  h8:=h.h8
  hD:=h.hD
  own:=λx ad=>h.own x (by simp[ad])
  dE:=λb aV aA=>by
   rw[ag b (λe=>by
    rcases h.own _ f' with aa | aa;·simp only at aa;exact aA (e ▸ aa)
    ·simp only at aa;omega)]
   exact h.dE b aV aA
  out:=h.out.trans aH
  sz:=by rw[ar];exact h.sz
  fm:=h.fm }
def agl(w:World)(p:Addr)(n:Nat):(w.freeze p n).heap.size=w.heap.size:=by
 unfold World.freeze;split<;>simp
def agm(w:World)(p:Addr)(n:Nat):oh w (w.freeze p n):=by
 unfold World.freeze;split<;>exact⟨rfl,rfl⟩
def agn(w:World)(p:Addr)(n b:Nat)(h:b≠p.block):(w.freeze p n).heap[b]?=w.heap[b]?:=by
 unfold World.freeze;split
 ·rfl
 ·simp only[Array.getElem?_modify];rw[bU (po h)]
def bw.Ou(aM:cU X.P X.E){n:Operand}(aH:o.op=.call { callee:=.builtin .unsafeString,args:=#[p,n],argTypes:=#[uv,it] })(aj:∀ d,o.dst=some d->d<X.n)
 (av:X.E uv=some c7) (dR:c7.bL=.pointer e) (he:X.E e=some aF) (kw:aF.size=1)
 {l:List UInt8} (aC:bE F p=.val (.pointer (some ⟨g,0,none⟩))) (aB:bE F n=.val (.int .i64 l.length)) (az:l≠[]) (Ov:l.length<=9223372036854775807)
 (a':M.Perm (⟨g,.cells cs e (0,0)⟩::Mr)) (nq:cs.toList.take l.length=l.map λb=>.int .u8 b.toNat)
  (h:K (put o.dst (.val (.string ⟨l.toArray⟩)) F) C I Mr):bw X o F C I M K:=by
 refine⟨λa w Q ⟨β,iu⟩=>?_⟩;have aW:cH X β a w F C I (⟨g,.cells cs e (0,0)⟩::Mr):=iu.hS (.perm a' .refl);have au:w.heap[g]?=some (.cells cs e (0,0)):=aW.holds.m ⟨g,.cells cs e (0,0)⟩ (by simp);obtain⟨d,fF,fi⟩:=(aM _ _ av).fl;have aa:d=.pointer e:=by rw[dR]at fi;cases d<;>simp_all[fk]
 subst aa;obtain⟨inf,z,hi,fh,_⟩:=(aM _ _ he).inf;have ap:X.P.cellsOf e=1:=by simp[Program.cellsOf,hi,fh,kw]
 have c2:l.length<=cs.size:=by have:=congrArg List.length nq;simp only[hU,bF,yW]at this;omega
 have e9:=Lib.run_unsafeString_row (P:=X.P) w uv it o.type e fF ap g cs.size (by simp[World.shape?,au]) l az c2 Ov (λj x ai=>by
  rw[eP _ rfl,s7 au];have ab:(cs.toList.take l.length)[j]?=some (.int .u8 x.toNat):=by rw[nq];simp[ai]
  rw[k6]at ab;split at ab;·simpa using ab
  ·cases ab)
 have Ow:=dc aW.al aC;have e5:=dc aW.al aB;refine iV (by rw[aH];simp) (v:=.string ⟨l.toArray⟩) (w':=w.freeze ⟨g,0,none⟩ l.length) ?_ ⟨_,_,_,_,⟨β,cH.put (x:=.val (.string ⟨l.toArray⟩)) (aW.Vk (agl _ _ _) (λb ag=>agn _ _ _ _ ag) (agm _ _ _)) aj rfl⟩,h⟩;unfold execOp;simp only[aH,resolve,invoke,builtin,cj,c0,bV,sc,cb,hr,Ow,e5,e9]
def bw.Vl{n:Operand}(aH:o.op=.call { callee:=.builtin .unsafeString,args:=#[p,n],argTypes:=#[uv,it] })(aj:∀ d,o.dst=some d->d<X.n)
  {q:Option Addr} (aC:bE F p=.val (.pointer q)) (aB:bE F n=.val (.int .i64 0)) (h:K (put o.dst (.val (.string .empty)) F) C I M):bw X o F C I M K:=by
 refine⟨λa w Q ⟨β,aW⟩=>?_⟩;have Ow:=dc aW.al aC;have e5:=dc aW.al aB;refine vG aW aj (by rw[aH];simp) ?_ h;unfold execOp;simp only[aH,resolve,invoke,builtin,cj,c0,bV,sc,cb,hr,Ow,e5,Lib.run_unsafeString_none]
def bw.Vm(aM:cU X.P X.E){t:Nat}(aH:o.op=.call { callee:=.builtin .copy,args:=#[x,y],argTypes:=#[t,u] })(aj:∀ d,o.dst=some d->d<X.n)
 (av:X.E t=some c7) (dR:c7.bL=.slice e) (he:X.E e=some aF) (kw:aF.size=1)
 {off dl Gu:Nat} {s:ByteArray} {T:Nat} (ad:bE F x=.val (.slice (some ⟨g,off,none⟩) dl Gu)) (aE:bE F y=.val (.string s)) (bp:s.size<=dl) (js:off+s.size<=cs.size)
 (a':M.Perm (⟨g,.cells cs T (0,0)⟩::Mr))
  (h:K (put o.dst (.val (.int .i64 s.size)) F) C I (⟨g,.cells (ck cs.toList off (ll s)).toArray T (0,0)⟩::Mr)):bw X o F C I M K:=by
 refine⟨λa w Q ⟨β,iu⟩=>?_⟩;have aW:cH X β a w F C I (⟨g,.cells cs T (0,0)⟩::Mr):=iu.hS (.perm a' .refl);have au:w.heap[g]?=some (.cells cs T (0,0)):=aW.holds.m ⟨g,.cells cs T (0,0)⟩ (by simp);obtain⟨d,fF,fi⟩:=(aM _ _ av).fl;have aa:d=.slice e:=by rw[dR]at fi;cases d<;>simp_all[fk]
 subst aa;obtain⟨inf,z,hi,fh,_⟩:=(aM _ _ he).inf;have ay:(ll s).length=s.size:=by simp[ll]
 have aa:∀ v∈ll s,v.oneCell'=true:=λv ah=>by obtain⟨b,_,rfl⟩:=cC.1 ah;rfl
 have eu:=run_storeCells_at X.P g off T (ll s) 0 cs w au (by rw[ay];simpa using js) aa;simp only[pk]at eu;have ago:Nat.min s.size dl=s.size:=ud bp;have aA:(Builtin.firstCells inf.size s.size (.string s)).run X.P w=.ok (ll s).toArray w:=UL w inf.size s;have ex:=dc aW.al ad;have oE:=dc aW.al aE;have lp:=aW.xe (a9:=[]) (post:=Mr) (cs':=(ck cs.toList off (ll s)).toArray) rfl;refine iV (by rw[aH];simp) (v:=.int .i64 s.size) (w':=w.setRow g (ck cs.toList off (ll s)).toArray) ?_ ⟨_,_,_,_,⟨β,cH.put (x:=.val (.int .i64 s.size)) lp aj rfl⟩,h⟩;have e9:(Builtin.copy_ #[t,u] o.type #[.slice (some ⟨g,off,none⟩) dl Gu,.string s]).run X.P w=.ok (.int .i64 s.size) (w.setRow g (ck cs.toList off (ll s)).toArray):=by simp[Builtin.copy_,run_underlying fF,Builtin.lenOf,ago,sizeOf,typeInfo,hi,aA,eu,ck,goInt]
 unfold execOp;simp only[aH,resolve,invoke,builtin,cj,c0,bV,sc,cb,hr,ex,oE,e9]
end
structure c3(I:aI)(a:Option Addr)(n c size b:Nat)(vs:List Value):Prop where
 len:vs.length=n*size
 cap:n<=c/\n*b<=140737488355328
 rd:n=0\/∃ aS,a=some aS/\aS.spot=none/\∃ cs T al,I aS.block=some (.cells cs T al)/\(cs.toList.drop aS.off).take (n*size)=vs
def c3.mono{I:aI}{n b:Nat}(h:c3 I a n c size b vs)(bt:∀ b o,I b=some o->I' b=some o):c3 I' a n c size b vs:=
 ⟨h.len,h.cap,h.rd.imp id λ⟨aS,aa,ab,cs,T,al,ak,aJ⟩=>⟨aS,aa,ab,cs,T,al,bt _ _ ak,aJ⟩⟩
def c3.idx{I:aI}{n b:Nat}(h:c3 I a n c size b vs){j:Nat}(ai:j<n) :
  ∃ aS,a=some aS/\∀ M,cM I M (aS.add (j*size)) size ((vs.drop (j*size)).take size):=by
 obtain⟨ay,_,az | ⟨aS,a2,ar,cs,T,al,bt,ah⟩⟩:=h
 ·omega
 ·refine⟨aS,a2,λM=>?_⟩;have bp:j*size+size<=n*size:=by have:=vA size (show j+1<=n from ai);rw[lL,oy]at this;exact this
  refine⟨by rw[eP _ ar],cs,T,al,.inl (by rw[eP _ ar];exact bt),?_,?_⟩;·rw[eP _ ar,<-ah,F8,Di,Bb];congr 1;omega
  ·rw[hU,tb,ay];omega
def c3.one{I:aI}{n b:Nat}{f:α->Value}{l:List α}(h:c3 I a n c 1 b (l.map f)){j:Nat}(ai:j<n)(im:j<l.length) :
  ∃ aS,a=some aS/\∀ M,cM I M (aS.add (j*1)) 1 [f l[j]]:=by
 obtain⟨aS,aa,ab⟩:=h.idx ai;refine⟨aS,aa,λM=>?_⟩;have:=ab M;rw[e0,<-List.map_drop,<-List.map_take,eR im,qb,re]at this;rw[e0];exact this
def Ds{α:Type}(f:α->List Value)(size:Nat)(aA:∀ x,(f x).length=size):∀ (l:List α) (j:Nat) (ai:j<l.length),((l.flatMap f).drop (j*size)).take size=f l[j]
 |x::l,0,_=>by simp only[kr,yZ,vM,uq];rw[<-aA x];exact yY
 |x::l,j+1,ai=>by have aN:=Ds f size aA l j (by simpa using ai);simp only[kr,F5];rw[<-aN,show(j+1)*size=(f x).length+j*size from by rw[aA,lL];omega,UK]
def iv{α:Type}(f:α->List Value)(size:Nat)(aA:∀ x,(f x).length=size):∀ (l:List α),(l.flatMap f).length=l.length*size
 |[]=>by simp
 |x::l=>by simp[iv f size aA l,aA x,lL];omega
def c3.row{I:aI}{n b:Nat}{f:α->List Value}(aA:∀ x,(f x).length=size){l:List α}(h:c3 I a n c size b (l.flatMap f)){j:Nat}(ai:j<n)(im:j<l.length) :
  ∃ aS,a=some aS/\∀ M,cM I M (aS.add (j*size)) size (f l[j]):=by
 obtain⟨aS,aa,ab⟩:=h.idx ai;refine⟨aS,aa,λM=>?_⟩;have:=ab M;rwa [Ds f size aA l j im]at this
def cM.part{I:aI}{a:Addr}{n k:Nat}(h:cM I M a n vs)(ae:k+m<=n):cM I M (a.add k) m ((vs.drop k).take m):=by
 obtain⟨ar,cs,T,al,aa,ab,ak⟩:=h;refine⟨by rw[eP _ ar],cs,T,al,by rw[eP _ ar];exact aa,?_,?_⟩
 ·rw[eP _ ar,<-ab,F8,Di,Bb];congr 1;omega
 ·rw[hU,tb,ak];omega
structure an where
 k:Int
 cz:Int
 s1:Int
 s2:Int
 cZ:Int
 t:ByteArray
 lo:Int
 hi:Int
 dy:Option Addr
 aL:Nat
 dq:Nat
 ax:List Int
def an.cells(d:an):List Value:=[.int .u8 d.k,.int .u64 d.cz,.int .u64 d.s1,.int .u64 d.s2,.int .u64 d.cZ,.string d.t,.int .i64 d.lo,.int .i64 d.hi,.slice d.dy d.aL d.dq]
def an.val(d:an):Value:=.agg #[.int .u8 d.k,.int .u64 d.cz,.int .u64 d.s1,.int .u64 d.s2,.int .u64 d.cZ,.string d.t,.int .i64 d.lo,.int .i64 d.hi,.slice d.dy d.aL d.dq]
def iM(x:Int):Prop:=-9223372036854775808<=x/\x<=9223372036854775807
def g6(x:Int):Prop:=0<=x/\x<18446744073709551616
structure an.ok(I:aI)(d:an):Prop where
 k:0<=d.k/\d.k<256
 cz:g6 d.cz
 s1:g6 d.s1
 s2:g6 d.s2
 cZ:g6 d.cZ
 t:d.t.size<=9223372036854775807
 lo:iM d.lo
 hi:iM d.hi
 a0:c3 I d.dy d.aL d.dq 1 8 (d.ax.map (.int .i64 ·))
 ax:∀ x∈d.ax,iM x
def an.cS(d:an):d.cells.length=9:=rfl
def an.ok.aL{I:aI}{d:an}(h:d.ok I):d.ax.length=d.aL:=by have:=h.a0.len;simpa using this
structure bR where
 ns:List an
 a:Option Addr
 n:Nat
 c:Nat
 bA:Int
def bR.cells(t:bR):List Value:=[.slice t.a t.n t.c,.int .i64 t.bA]
def bR.val(t:bR):Value:=.agg #[.slice t.a t.n t.c,.int .i64 t.bA]
structure bR.ok(I:aI)(t:bR):Prop where
 a0:c3 I t.a t.n t.c 9 96 (t.ns.flatMap an.cells)
 ns:∀ d∈t.ns,d.ok I
 bA:iM t.bA
def bR.ok.n{I:aI}{t:bR}(h:t.ok I):t.ns.length=t.n:=by have:=h.a0.len;rw[iv _ 9 an.cS]at this;omega
structure aQ where
 name:ByteArray
 t:bR
def aQ.cells(d:aQ):List Value:=[.string d.name,.slice d.t.a d.t.n d.t.c,.int .i64 d.t.bA]
structure aQ.ok(I:aI)(d:aQ):Prop where
 name:d.name.size<=140737488355328
 t:d.t.ok I
def aQ.cS(d:aQ):d.cells.length=3:=rfl
structure cx where
 ds:List aQ
 a:Option Addr
 n:Nat
 c:Nat
def cx.val(g:cx):Value:=.agg #[.slice g.a g.n g.c]
structure cx.ok(I:aI)(g:cx):Prop where
 a0:c3 I g.a g.n g.c 3 48 (g.ds.flatMap aQ.cells)
 ds:∀ d∈g.ds,d.ok I
def cx.ok.n{I:aI}{g:cx}(h:g.ok I):g.ds.length=g.n:=by have:=h.a0.len;rw[iv _ 3 aQ.cS]at this;omega
def an.ok.mono{I:aI}{d:an}(h:d.ok I)(bt:∀ b o,I b=some o->I' b=some o):d.ok I':={ h with a0:=h.a0.mono bt }
def bR.ok.mono{I:aI}{t:bR}(h:t.ok I)(bt:∀ b o,I b=some o->I' b=some o):t.ok I':=⟨h.a0.mono bt,λd aj=>(h.ns d aj).mono bt,h.bA⟩
def aQ.ok.mono{I:aI}{d:aQ}(h:d.ok I)(bt:∀ b o,I b=some o->I' b=some o):d.ok I':=⟨h.name,h.t.mono bt⟩
def cx.ok.mono{I:aI}{g:cx}(h:g.ok I)(bt:∀ b o,I b=some o->I' b=some o):g.ok I':=⟨h.a0.mono bt,λd aj=>(h.ds d aj).mono bt⟩
def wrap_i64{x:Int}(h:iM x):IntKind.i64.wrap x=x:=by obtain⟨aa,ab⟩:=h;unfold IntKind.wrap;simp only[IntKind.bits,IntKind.signed];simp;omega
open Go Go.Proofs
def a3(t n:Nat)(a b:Option dD):Option dD:=bif Nat.blt t n then a else b
def uB(n:Nat):Option dD:=some ⟨1,8,[.pointer none],.pointer n⟩
def kT(n:Nat):Option dD:=some ⟨1,24,[.slice none 0 0],.slice n⟩
def hX:Option dD:=none
def bT:Option dD:=some ⟨1,8,[.nilFunc],.other⟩
def Ox:Option dD:=some ⟨1,8,[.int .i64 0],.int .i64⟩
def J0:Option dD:=some ⟨1,1,[.int .u8 0],.int .u8⟩
def Oy:Option dD:=some ⟨1,8,[.int .u64 0],.int .u64⟩
def Vn:Option dD:=some ⟨1,8,[.pointer none],.struct [(17,0)]⟩
def Oz:Option dD:=some ⟨1,16,[.nilIface],.other⟩
def Vo:Option dD:=some ⟨1,4,[.int .i32 0],.int .i32⟩
def Vp:Option dD:=some ⟨2,32,[.slice none 0 0,.int .i64 0],.struct [(29,0),(3,1)]⟩
def Vq:Option dD:=some ⟨5,48,[.int .u8 0,.int .u8 0,.int .i64 0,.slice none 0 0,.int .i64 0],.struct [(5,0),(5,1),(3,2),(55,3),(3,4)]⟩
def OA:Option dD:=some ⟨2,32,[.int .i64 0,.slice none 0 0],.struct [(3,0),(55,1)]⟩
def Vr:Option dD:=some ⟨4,32,[.int .u64 0,.int .u64 0,.int .u64 0,.int .u64 0],.array 4 62⟩
def Vs:Option dD:=some ⟨9,96,[.int .u8 0,.int .u64 0,.int .u64 0,.int .u64 0,.int .u64 0,.string ⟨#[]⟩,.int .i64 0,.int .i64 0,.slice none 0 0],.struct [(5,0),(64,1),(9,5),(3,6),(3,7),(55,8)]⟩
def Vt:Option dD:=some ⟨3,40,[.bool false,.int .i64 0,.slice none 0 0],.struct [(4,0),(3,1),(149,2)]⟩
def Vu:Option dD:=some ⟨64,512,List.replicate 64 (.int .u64 0),.array 64 62⟩
def Vv:Option dD:=some ⟨4,16,[.int .i64 0,.int .i32 0,.int .u8 0,.int .u8 0],.struct [(2,0),(21,1),(5,2),(5,3)]⟩
def Vw:Option dD:=some ⟨2,32,[.pointer none,.slice none 0 0],.struct [(205,0),(50,1)]⟩
def Vx:Option dD:=some ⟨3,32,[.string ⟨#[]⟩,.int .i64 0,.int .i64 0],.struct [(9,0),(3,1),(3,2)]⟩
def Vy:Option dD:=some ⟨10,88,[.int .u8 0,.int .i64 0,.int .i64 0,.string ⟨#[]⟩,.int .u64 0,.int .u64 0,.int .u64 0,.int .u64 0,.int .i64 0,.int .i64 0],.struct [(5,0),(3,1),(3,2),(9,3),(64,4),(3,8),(3,9)]⟩
def J1:Option dD:=some ⟨2,16,[.int .i64 0,.int .i64 0],.struct [(3,0),(3,1)]⟩
def OB:Option dD:=some ⟨3,3,[.bool false,.bool false,.bool false],.struct [(4,0),(4,1),(4,2)]⟩
def Vz:Option dD:=some ⟨5,96,[.int .u8 0,.string ⟨#[]⟩,.slice none 0 0,.slice none 0 0,.slice none 0 0],.struct [(5,0),(9,1),(55,2),(55,3),(50,4)]⟩
def VA:Option dD:=some ⟨6,64,[.string ⟨#[]⟩,.string ⟨#[]⟩,.int .u8 0,.map none,.int .i64 0,.int .i64 0],.struct [(9,0),(9,1),(5,2),(370,3),(3,4),(27,5)]⟩
def qk:Env:=λt=>bif Nat.blt t 408 then(a3 t 204 (a3 t 102 (a3 t 51 (a3 t 25 (a3 t 12 (a3 t 6 (a3 t 3 (a3 t 1 hX (a3 t 2 bT Ox)) (a3 t 4 Ox (a3 t 5 (some ⟨1,1,[.bool false],.bool⟩) J0))) (a3 t 9 (a3 t 7 J0 (some ⟨4,24,[.int .i64 0,.int .i64 0,.bool false,.int .u8 0],.struct [(2,0),(3,1),(4,2),(6,3)]⟩)) (some ⟨1,16,[.string ⟨#[]⟩],.string⟩))) (a3 t 18 (a3 t 15 (a3 t 13 Oy (some ⟨2,24,[.string ⟨#[]⟩,.int .u64 0],.struct [(9,0),(12,1)]⟩)) (a3 t 16 (uB 397) (a3 t 17 (uB 400) (uB 407)))) (a3 t 21 (a3 t 19 Vn (a3 t 20 Vn Oz)) (a3 t 23 (a3 t 22 Vo (kT 35)) (some ⟨1,24,[.slice none 0 0],.struct [(22,0)]⟩))))) (a3 t 38 (a3 t 31 (a3 t 28 (a3 t 26 bT (a3 t 27 bT Ox)) (a3 t 29 bT (a3 t 30 (kT 66) Vp))) (a3 t 34 (a3 t 32 Vp (a3 t 33 hX bT)) (a3 t 36 (some ⟨3,48,[.string ⟨#[]⟩,.slice none 0 0,.int .i64 0],.struct [(9,0),(31,1)]⟩) (a3 t 37 bT hX)))) (a3 t 44 (a3 t 41 bT (a3 t 42 bT (a3 t 43 (some ⟨4,32,[.int .i64 0,.int .i64 0,.int .i64 0,.int .i64 0],.array 4 3⟩) (kT 42)))) (a3 t 47 (a3 t 45 bT (a3 t 46 bT hX)) (a3 t 49 bT (a3 t 50 bT (kT 5))))))) (a3 t 76 (a3 t 63 (a3 t 57 (a3 t 54 (a3 t 52 (kT 57) (a3 t 53 bT hX)) (a3 t 55 bT (a3 t 56 (kT 3) Vq))) (a3 t 60 (a3 t 58 Vq (a3 t 59 bT OA)) (a3 t 61 OA (a3 t 62 bT Oy)))) (a3 t 69 (a3 t 66 (a3 t 64 Vr (a3 t 65 Vr Vs)) (a3 t 67 Vs bT)) (a3 t 72 bT (a3 t 74 bT (a3 t 75 hX bT))))) (a3 t 89 (a3 t 82 bT (a3 t 85 (a3 t 83 (kT 60) bT) bT)) (a3 t 95 (a3 t 92 (a3 t 90 (kT 31) bT) (a3 t 93 bT (some ⟨1,24,[.slice none 0 0],.struct [(29,0)]⟩))) (a3 t 98 (a3 t 96 bT (a3 t 97 (some ⟨10,80,[.nilFunc,.nilFunc,.nilFunc,.nilFunc,.nilFunc,.nilFunc,.nilFunc,.nilFunc,.nilFunc,.nilFunc],.array 10 95⟩) bT)) (a3 t 100 (a3 t 99 (uB 94) bT) bT)))))) (a3 t 153 (a3 t 127 (a3 t 114 (a3 t 108 (a3 t 105 (a3 t 103 (some ⟨1,8,[.map none],.map 9 3⟩) (a3 t 104 hX bT)) (a3 t 106 bT (a3 t 107 bT hX))) (a3 t 111 bT (a3 t 112 bT (a3 t 113 (uB 186) hX)))) bT) (a3 t 140 (a3 t 133 (a3 t 130 (a3 t 128 (kT 129) (a3 t 129 bT OA)) bT) (a3 t 136 (a3 t 134 bT (a3 t 135 (kT 55) hX)) (a3 t 138 bT (a3 t 139 (kT 4) bT)))) (a3 t 146 bT (a3 t 149 bT (a3 t 151 (a3 t 150 (kT 222) Vt) (a3 t 152 Vt hX)))))) (a3 t 178 (a3 t 165 (a3 t 159 (a3 t 156 (a3 t 154 bT (a3 t 155 bT Vu)) (a3 t 157 Vu (some ⟨66,528,[.int .i64 0,.int .u64 0,.int .u64 0,.int .u64 0,.int .u64 0,.int .u64 0,.int .u64 0,.int .u64 0,.int .u64 0,.int .u64 0,.int .u64 0,.int .u64 0,.int .u64 0,.int .u64 0,.int .u64 0,.int .u64 0,.int .u64 0,.int .u64 0,.int .u64 0,.int .u64 0,.int .u64 0,.int .u64 0,.int .u64 0,.int .u64 0,.int .u64 0,.int .u64 0,.int .u64 0,.int .u64 0,.int .u64 0,.int .u64 0,.int .u64 0,.int .u64 0,.int .u64 0,.int .u64 0,.int .u64 0,.int .u64 0,.int .u64 0,.int .u64 0,.int .u64 0,.int .u64 0,.int .u64 0,.int .u64 0,.int .u64 0,.int .u64 0,.int .u64 0,.int .u64 0,.int .u64 0,.int .u64 0,.int .u64 0,.int .u64 0,.int .u64 0,.int .u64 0,.int .u64 0,.int .u64 0,.int .u64 0,.int .u64 0,.int .u64 0,.int .u64 0,.int .u64 0,.int .u64 0,.int .u64 0,.int .u64 0,.int .u64 0,.int .u64 0,.int .u64 0,.int .u64 0],.struct [(3,0),(156,1),(62,65)]⟩))) (a3 t 162 (a3 t 160 hX bT) bT)) (a3 t 171 bT (a3 t 174 (a3 t 172 bT (a3 t 173 bT (uB 180))) (a3 t 176 (a3 t 175 hX bT) (a3 t 177 bT (kT 243)))))) (a3 t 191 (a3 t 184 (a3 t 181 (a3 t 179 (kT 307) (some ⟨8,160,[.slice none 0 0,.int .i64 0,.int .i64 0,.slice none 0 0,.slice none 0 0,.slice none 0 0,.slice none 0 0,.slice none 0 0],.struct [(177,0),(3,1),(3,2),(29,3),(178,4),(22,5),(177,6),(177,7)]⟩)) (a3 t 182 bT (a3 t 183 (kT 9) bT))) (a3 t 187 (a3 t 185 (kT 193) (some ⟨5,112,[.string ⟨#[]⟩,.slice none 0 0,.slice none 0 0,.slice none 0 0,.slice none 0 0],.struct [(9,0),(182,1),(55,2),(29,3),(184,4)]⟩)) bT)) (a3 t 197 (a3 t 194 (a3 t 192 Vv (a3 t 193 Vv (kT 192))) (a3 t 195 bT (a3 t 196 bT (kT 255)))) (a3 t 200 (a3 t 198 hX bT) bT)))))) (a3 t 306 (a3 t 255 (a3 t 229 (a3 t 216 (a3 t 210 (a3 t 207 (a3 t 205 bT (a3 t 206 (uB 207) Vw)) (a3 t 208 Vw (a3 t 209 bT Oz))) (a3 t 213 (a3 t 211 Oz (a3 t 212 hX bT)) bT)) (a3 t 222 (a3 t 219 (a3 t 217 bT (a3 t 218 hX bT)) (a3 t 220 bT (a3 t 221 bT Vx))) (a3 t 225 (a3 t 223 Vx (a3 t 224 (kT 270) hX)) (a3 t 227 (a3 t 226 bT hX) bT)))) (a3 t 242 (a3 t 235 (a3 t 232 (a3 t 230 bT (a3 t 231 bT (some ⟨2,16,[.int .i64 0,.int .i64 0],.array 2 3⟩))) (a3 t 233 (some ⟨20,160,List.replicate 20 (.int .i64 0),.array 10 231⟩) bT)) (a3 t 238 bT (a3 t 240 (a3 t 239 bT hX) bT))) (a3 t 248 (a3 t 245 (a3 t 243 Vy (a3 t 244 Vy bT)) (a3 t 246 bT (a3 t 247 bT (some ⟨10,80,[.nilFunc,.nilFunc,.nilFunc,.nilFunc,.nilFunc,.nilFunc,.nilFunc,.nilFunc,.nilFunc,.nilFunc],.array 10 246⟩)))) (a3 t 251 bT (a3 t 253 bT (a3 t 254 (kT 138) J1)))))) (a3 t 280 (a3 t 267 (a3 t 261 (a3 t 258 (a3 t 256 J1 bT) bT) (a3 t 264 (a3 t 262 bT (a3 t 263 (uB 5) hX)) bT)) (a3 t 273 (a3 t 270 (a3 t 268 bT (a3 t 269 bT OB)) (a3 t 271 OB bT)) (a3 t 276 (a3 t 274 hX bT) bT))) (a3 t 293 (a3 t 286 (a3 t 283 (a3 t 281 (kT 319) (a3 t 282 hX bT)) (a3 t 284 bT (some ⟨3,24,[.int .i64 0,.int .i64 0,.bool false],.struct [(3,0),(3,1),(4,2)]⟩))) (a3 t 289 (a3 t 287 (kT 285) (a3 t 288 (uB 285) bT)) (a3 t 291 (a3 t 290 bT (some ⟨3,48,[.string ⟨#[]⟩,.string ⟨#[]⟩,.string ⟨#[]⟩],.struct [(9,0),(9,1),(9,2)]⟩)) (a3 t 292 (some ⟨30,480,List.replicate 30 (.string ⟨#[]⟩),.array 10 290⟩) bT)))) (a3 t 299 (a3 t 296 (a3 t 294 (some ⟨1,8,[.pointer none],.other⟩) (a3 t 295 bT J1)) (a3 t 297 J1 (a3 t 298 (kT 296) bT))) (a3 t 302 (a3 t 300 bT (a3 t 301 bT (some ⟨10,80,[.nilFunc,.nilFunc,.nilFunc,.nilFunc,.nilFunc,.nilFunc,.nilFunc,.nilFunc,.nilFunc,.nilFunc],.array 10 300⟩))) bT))))) (a3 t 357 (a3 t 331 (a3 t 318 (a3 t 312 (a3 t 309 (a3 t 307 Vz (a3 t 308 Vz hX)) (a3 t 310 bT (a3 t 311 bT (uB 307)))) bT) (a3 t 324 (a3 t 321 (a3 t 319 bT (a3 t 320 OB hX)) bT) (a3 t 327 bT (a3 t 329 (a3 t 328 (some ⟨1,8,[.map none],.map 5 331⟩) bT) bT)))) (a3 t 344 (a3 t 337 (a3 t 334 (a3 t 332 bT hX) (a3 t 335 bT (a3 t 336 hX bT))) (a3 t 340 (a3 t 338 hX bT) (a3 t 342 bT (a3 t 343 (kT 344) bT)))) (a3 t 350 (a3 t 347 (a3 t 345 (some ⟨2,2,[.int .u8 0,.int .u8 0],.array 2 5⟩) (a3 t 346 (some ⟨3,32,[.int .i64 0,.int .i64 0,.string ⟨#[]⟩],.struct [(3,0),(3,1),(9,2)]⟩) (some ⟨9,96,[.int .i64 0,.int .i64 0,.string ⟨#[]⟩,.int .i64 0,.int .i64 0,.string ⟨#[]⟩,.int .i64 0,.int .i64 0,.string ⟨#[]⟩],.array 3 345⟩))) bT) (a3 t 353 (a3 t 351 bT (a3 t 352 bT Oy)) bT)))) (a3 t 382 (a3 t 369 (a3 t 363 (a3 t 360 (a3 t 358 hX bT) (a3 t 361 hX (a3 t 362 bT hX))) (a3 t 366 bT (a3 t 367 bT (a3 t 368 (uB 372) bT)))) (a3 t 375 (a3 t 372 (a3 t 370 bT (a3 t 371 (some ⟨1,8,[.map none],.map 5 5⟩) VA)) (a3 t 373 VA (a3 t 374 hX bT))) (a3 t 378 (a3 t 376 bT (a3 t 377 bT (some ⟨64,64,List.replicate 64 (.int .u8 0),.array 64 5⟩))) bT))) (a3 t 395 (a3 t 388 (a3 t 385 (a3 t 383 bT (a3 t 384 (some ⟨24,24,List.replicate 24 (.int .u8 0),.array 24 5⟩) bT)) (a3 t 386 hX bT)) (a3 t 391 (a3 t 389 (some ⟨20,160,List.replicate 20 (.int .u64 0),.array 20 62⟩) (a3 t 390 (some ⟨1,4,[.int .u32 0],.int .u32⟩) (some ⟨65,65,List.replicate 65 (.int .u8 0),.array 65 5⟩))) (a3 t 393 (a3 t 392 bT hX) bT))) (a3 t 401 (a3 t 398 (a3 t 396 (some ⟨32,32,List.replicate 32 (.int .u8 0),.array 32 5⟩) (some ⟨4,40,[.pointer none,.pointer none,.pointer none,.string ⟨#[]⟩],.struct [(17,0),(17,1),(17,2),(9,3)]⟩)) (a3 t 399 (some ⟨0,0,[],.array 0 16⟩) (some ⟨0,0,[],.struct [(398,0)]⟩))) (a3 t 404 (a3 t 402 J0 (a3 t 403 J0 bT)) (a3 t 406 Vo (some ⟨11,48,[.int .u64 0,.int .u64 0,.int .u32 0,.int .u8 0,.int .u8 0,.int .u8 0,.int .u8 0,.nilFunc,.pointer none,.int .i32 0,.int .i32 0],.struct [(12,0),(12,1),(389,2),(401,3),(5,4),(5,5),(402,6),(403,7),(262,8),(404,9),(405,10)]⟩)))))))))else none
def a5:cU Tryz.prog qk:=afx 408 (λt h=>by
 have bd:Nat.blt t 408=false:=by
  cases ag:Nat.blt t 408 with
  |false=>rfl| true=>exact absurd (bJ ag) (by omega)
 simp only[qk,bd,b']) (by kernel_rfl)
def letter(c:UInt8):Bool:=decide (97<=c.toNat/\c.toNat<=122)||(decide (65<=c.toNat/\c.toNat<=90)||decide (c.toNat=95))
def digit(c:UInt8):Bool:=decide (48<=c.toNat/\c.toNat<=57)
def VB(I:aI)(c:UInt8):Spec Tryz.prog 166 [.int .u8 c.toNat] I [] (λv I' M'=>v=.bool (letter c)/\I'=I/\M'=[]):=by
 refine bZ [] a5 Tryz.func166 rfl rfl rfl ?_;intro B az
 repeat' (refine cq.mk (λh=>?_) (λh=>?_))
 all_goals
  refine⟨_,_,.refl,?_⟩;refine⟨?_,rfl,rfl⟩;simp_all[letter]
  all_goals first
   |omega|(rw[r6];simp;omega)
def agp(I:aI)(c:UInt8):Spec Tryz.prog 167 [.int .u8 c.toNat] I [] (λv I' M'=>v=.bool (digit c)/\I'=I/\M'=[]):=by
 refine bZ [] a5 Tryz.func167 rfl rfl rfl ?_;intro B az
 repeat' (refine cq.mk (λh=>?_) (λh=>?_))
 all_goals
  refine⟨_,_,.refl,?_⟩;refine⟨?_,rfl,rfl⟩;simp_all[digit]
  all_goals first
   |omega|(rw[r6];simp;omega)
def Bo(s:ByteArray):s.data.toList.length=s.size:=yW
def agq(I:aI)(s:ByteArray)(ar:s.size<=140737488355328):Spec Tryz.prog 202 [.string s] I [] (λv I' M'=>v=.string s/\I'=I/\M'=[]):=by
 refine bZ [] a5 Tryz.func202 rfl rfl rfl ?_;intro B az;refine aZ.mk (λh=>?_) (λh=>?_)
 ·refine⟨_,_,.refl,?_,rfl,rfl⟩;have aa:s.size=0:=by simpa using h
  have:s=.empty:=by apply vB;exact N4 aa
  rw[this];rfl
 ·have aa:s.size≠0:=by simpa using h
  refine mG.mk s.size s.size rfl rfl (cc _) (by show 1*s.size<=_;omega) (by omega) ?_;refine bX.mk λb ag sj=>?_;refine bw.Vm a5 rfl (by simp) (e:=5) rfl rfl rfl rfl rfl rfl (cc _) ?_ (.refl _) ?_;·simp[vF,madeCells]
  refine bf.mk ⟨b,0,none⟩ 0 rfl rfl (by omega) ?_;refine bw.Ou a5 rfl (by simp) (e:=5) rfl rfl rfl rfl (g:=b) (l:=s.data.toList) rfl ?_ ?_ ?_ (.refl _) ?_ ?_;·show dA.val (.int .i64 (s.size:Int))=dA.val (.int .i64 (s.data.toList.length:Int));rw[Bo]
  ·intro e;have:=congrArg List.length e;rw[Bo]at this;exact aa this
  ·rw[Bo];omega
  ·rw[Bo];have ay:(ll s).length=s.size:=by simp[ll]
   simp only[ck];rw[re,iq,A9 (by rw[ay];exact cc _),<-ay,Dh];rfl
  ·exact⟨_,_,.refl,rfl,rfl,rfl⟩
def VC(I:aI)(s:ByteArray)(ar:s.size<=140737488355328):Spec Tryz.prog 168 [.string s] I [] (λv I' M'=>v=.string s/\I'=I/\M'=[]):=by refine bZ [] a5 Tryz.func168 rfl rfl rfl ?_;intro B az;refine bc.mk [] [] _ (.refl _) (agq I s ar) ?_;rintro v I' M' -⟨rfl,rfl,rfl⟩;exact⟨_,_,.refl,rfl,rfl,rfl⟩
def tf(c:UInt8):Bool:=letter c||digit c
def tg(s:ByteArray):Nat:=match s.data.toList with
 |[]=>0| c::r=>bif letter c then 1+(r.takeWhile tf).length else 0
def VD{α:Type}(p:α->Bool):∀ (l:List α) (i:Nat),i<=l.length->(∀ j (h:j<l.length),j<i->p l[j]=true)->(∀ (h:i<l.length),p l[i]=false)->(l.takeWhile p).length=i
 |[],i,h,_,_=>by simp at h;simp[h]
 |x::l,0,_,_,h=>by have:=h (by simp);simp only[uq]at this;simp[this]
 |x::l,i+1,hi,aa,ab=>by have ad:=aa 0 (by simp) (by omega);simp only[uq]at ad;have aN:=VD p l i (by simpa using hi) (λj ai JT=>by have:=aa (j+1) (by simpa using ai) (by omega);simpa using this) (λh=>by have:=ab (by simpa using h);simpa using this);simp[ad,aN]
def agr{s:ByteArray}(az:0<s.size)(ay:letter s[0]=true){i:Nat}(aa:1<=i)(hi:i<=s.size)(a2:∀ j (h:j<s.size),1<=j->j<i->tf s[j]=true)(ag:∀ (h:i<s.size),tf s[i]=false):tg s=i:=by
 have get:∀ j (h:j<s.size),s[j]=s.data.toList[j]'(by rw[Bo];exact h):=λj h=>rfl;unfold tg;have c2:=Bo s;cases aj:s.data.toList with
 |nil=>rw[aj]at c2;simp at c2;omega
 |cons c r=>
  have g:∀ j (h:j<s.size),s[j]=(c::r)[j]'(by rw[<-aj,c2];exact h):=λj h=>by rw[get j h];simp only[aj]
  rw[aj]at c2;have ap:letter c=true:=by rw[g 0 az]at ay;simpa using ay
  simp only[ap,ca];simp only[dx]at c2;rw[VD tf r (i-1) (by omega) (λj ai JT=>by
   have ak:j+1<s.size:=by omega
   have:=a2 (j+1) ak (by omega) (by omega);rw[g (j+1) ak]at this;simpa using this) (λh=>by
   have ak:i<s.size:=by omega
   have:=ag ak;rw[g i ak]at this;have e:i=(i-1)+1:=by omega
   rw[List.getElem_cons]at this;rw[dif_neg (by omega)]at this;exact this)]
  omega
def ags(I:aI)(s:ByteArray)(ar:s.size<=140737488355328):Spec Tryz.prog 118 [.string s] I [] (λv I' M'=>v=.string (s.extract 0 (tg s))/\I'=I/\M'=[]):=by
 refine bZ [] a5 Tryz.func118 rfl rfl rfl ?_;intro B az;have dF:∀ {s:ByteArray},tg s=0->s.extract 0 (tg s)=⟨#[]⟩:=λh=>by rw[h];apply vB;simp[Jq]
 refine cq.mk (λh=>?_) (λh=>?_)
 ·have aa:s≠⟨#[]⟩:=by simpa using h
  have ot:0<s.size:=by refine Nat.pos_of_ne_zero λe=>aa ?_;apply vB;exact N4 e
  refine AU.mk 0 rfl ot ?_;refine bc.mk [] [] _ (.refl _) (VB I s[0]) ?_;rintro v I' M' -⟨rfl,rfl,rfl⟩;refine aZ.mk (λh=>?_) (λh=>?_)
  ·have ay:letter s[0]=false:=by simpa using h
   refine⟨_,_,.refl,?_,rfl,rfl⟩;rw[dF]
   ·unfold tg;cases aj:s.data.toList with
    |nil=>rfl
    |cons c r=>
     have:s[0]=c:=by show s.data.toList[0]=c;simp only[aj];rfl
     rw[this]at ay;simp[ay]
  ·have ay:letter s[0]=true:=by simpa using h
   refine de.inv (ι:=Nat) (λi=>{ bj:=[(0,.val (.string s)),(3,.val (.int .i64 i))],cI:=I' }) (λi=>1<=i/\i<=s.size/\∀ j (h:j<s.size),1<=j->j<i->tf s[j]=true) (λi=>s.size-i) ?_ ?_;·exact⟨1,⟨by omega,by omega,λj _ aa ab=>by omega⟩,.refl,xl,.nil⟩
   ·rintro i⟨fh,iJ,il⟩;have next:∀ (aV:i<s.size),tf s[i]=true->(1<=i+1/\i+1<=s.size/\∀ k (h:k<s.size),1<=k->k<i+1->tf s[k]=true)/\s.size-(i+1)<s.size-i:=λaV ap=>
     ⟨⟨by omega,by omega,λj ai aa ab=>by
      by_cases e:j=i;·subst e;exact ap
      ·exact il j ai aa (by omega)⟩,by omega⟩
    have out:(∀ (h:i<s.size),tf s[i]=false)->s.extract 0 i=s.extract 0 (tg s):=λaB=>by rw[agr ot ay fh iJ il aB]
    have dj:(s.extract 0 i).size<=140737488355328:=by rw[ByteArray.size_extract];omega
    have fP:IntKind.i64.wrap ((i:Int)+1)=((i+1:Nat):Int):=by rw[wrap_i64 ⟨by omega,by omega⟩];omega
    refine cq.mk (λh=>?_) (λh=>?_)
    ·have aV:i<s.size:=by simpa using h
     refine AU.mk i rfl aV ?_;refine bc.mk [] [] _ (.refl _) (VB I' s[i]) ?_;rintro v I' M' -⟨rfl,rfl,rfl⟩;refine cq.mk (λh=>?_) (λh=>?_)
     ·refine AU.mk i rfl aV ?_;refine bc.mk [] [] _ (.refl _) (agp _ s[i]) ?_;rintro v I' M' -⟨rfl,rfl,rfl⟩;refine aZ.mk (λab=>?_) (λab=>?_)
      ·refine bg.mk _ fP ?_;exact⟨i+1,next aV (by simp only[tf];rw[show digit s[i]=true from ab];simp),.refl,xl,.nil⟩
      ·refine l7.mk 0 i rfl rfl (by omega) (by omega) ?_;refine bc.mk [] [] _ (.refl _) (VC _ _ dj) ?_;rintro v I' M' -⟨rfl,rfl,rfl⟩;refine⟨_,_,.refl,?_,rfl,rfl⟩;rw[<-out λ_=>by simp only[tf];rw[show letter s[i]=false from h,show digit s[i]=false from ab];rfl]
     ·refine bg.mk _ fP ?_;exact⟨i+1,next aV (by simp only[tf];rw[show letter s[i]=true from h];simp),.refl,xl,.nil⟩
    ·have cA:¬ i<s.size:=by simpa using h
     refine l7.mk 0 i rfl rfl (by omega) (by omega) ?_;refine bc.mk [] [] _ (.refl _) (VC _ _ dj) ?_;rintro v I' M' -⟨rfl,rfl,rfl⟩;refine⟨_,_,.refl,?_,rfl,rfl⟩;rw[<-out λh=>(cA h).elim]
 ·have aa:s=⟨#[]⟩:=by simpa using h
  subst aa;refine⟨_,_,.refl,?_,rfl,rfl⟩;rw[dF];rfl
def ny(s:ByteArray):Bool:=decide (s≠⟨#[]⟩)&&(decide (s.size<=32)&&decide (tg s=s.size))
def agt(s:ByteArray):tg s<=s.size:=by
 unfold tg;have ay:=Bo s;cases aj:s.data.toList with
 |nil=>simp
 |cons c r=>
  rw[aj]at ay;simp only[dx]at ay;simp only;cases letter c;·simp
  ·simp only[ca];have:=(List.takeWhile_sublist (p:=tf) (l:=r)).length_le;omega
def OC(I:aI)(s:ByteArray):Spec Tryz.prog 65 [.string s] I [] (λv I' M'=>v=.bool (ny s)/\I'=I/\M'=[]):=by
 refine bZ [] a5 Tryz.func65 rfl rfl rfl ?_;intro B az;refine cq.mk (λaa=>?_) (λaa=>?_)
 ·refine cq.mk (λab=>?_) (λab=>?_)
  ·have lO:s.size<=32:=by simp at ab;omega
   refine bc.mk [] [] _ (.refl _) (ags I s (by omega)) ?_;rintro v I' M' -⟨rfl,rfl,rfl⟩;refine⟨_,_,.refl,?_,rfl,rfl⟩;have bp:=agt s;have aG:(s.extract 0 (tg s)).size=tg s:=by rw[ByteArray.size_extract];omega
   simp_all[ny]
   all_goals omega
  ·refine⟨_,_,.refl,?_,rfl,rfl⟩;simp_all[ny]
   all_goals omega
 ·refine⟨_,_,.refl,?_,rfl,rfl⟩;simp_all[ny]
def lq:List Int:=[0,0,0,0,0,0,0,0,2,-1,2,-1,1,1,1,1,1,1,1,1]
def uC(k:Nat):Int:=lq.getD (k*2) 0
def sk(k:Nat):Int:=lq.getD (k*2+1) 0
def mS(I:aI):Prop:=∃ T al,I 0=some (.cells (lq.map (Value.int .i64)).toArray T al)
def mS.rd{I:aI}(h:mS I)(M:List aD){j:Nat}(ai:j<20):cM I M (Addr.add ⟨0,0,none⟩ j) 1 [.int .i64 (lq.getD j 0)]:=by
 obtain⟨T,al,h⟩:=h;rw[eP _ rfl];refine⟨rfl,_,T,al,.inl h,?_,rfl⟩;simp only[db];have:∀ j:Fin 20,(((lq.map (Value.int .i64)).toArray.toList.drop j.val).take 1)=[Value.int .i64 (lq.getD j.val 0)]:=by
  intro j;have aa:j.val<(lq.map (Value.int .i64)).length:=by simp[lq]
  rw[NJ,eR aa,qb,re];have ab:j.val<lq.length:=by simp[lq]
  simp[bz,ab]
 exact this ⟨j,ai⟩
def mS.agu{I:aI}(h:mS I)(M:List aD){i j:Nat}(ai:i+j<20):cM I M ((Addr.add ⟨0,0,none⟩ i).add j) 1 [.int .i64 (lq.getD (i+j) 0)]:=by
 have e:(Addr.add ⟨0,0,none⟩ i).add j=Addr.add ⟨0,0,none⟩ (i+j):=by rw[eP ⟨_,0,none⟩ rfl i,eP _ rfl j,eP _ rfl (i+j)];simp
 rw[e];exact h.rd M ai
def an.rs(d:an):Bool:=d.cz == 0&&(d.s1 == 0&&(d.s2 == 0&&d.cZ == 0))
def fits(d:an)(n:Int):Bool:=
 bif decide (10<=d.k)then false else
 bif decide (n<uC d.k.toNat)||(decide (0<=sk d.k.toNat)&&decide (sk d.k.toNat<n))then false else
 bif decide (d.k=1)then decide (d.t=⟨#[]⟩)&&(decide (d.lo=0)&&decide (d.hi=0))else
 bif decide (d.k=2)then(!(decide (d.t=⟨#[]⟩)||decide (255<d.t.size)))&&(d.rs&&(decide (d.lo=0)&&decide (d.hi=0)))else
 bif decide (d.k=3)||decide (d.k=9)then ny d.t&&(d.rs&&(decide (d.lo=0)&&decide (d.hi=0)))else
 bif decide (d.k=6)then(!(decide (d.lo<0)||(decide (99<d.lo)||(decide (d.hi≠-1)&&(decide (d.hi<d.lo)||decide (99<d.hi))))))&&(d.rs&&decide (d.t=⟨#[]⟩))else
 d.rs&&(decide (d.t=⟨#[]⟩)&&(decide (d.lo=0)&&decide (d.hi=0)))
set_option maxHeartbeats 4000000 in
def VE{I:aI}(ap:mS I){d:an}(aj:d.ok I)(n:Int):Spec Tryz.prog 109 [d.val,.int .i64 n] I [] (λv I' M'=>v=.bool (fits d n)/\I'=I/\M'=[]):=by
 refine bZ [] a5 Tryz.func109 rfl rfl rfl ?_;intro B az;have ae:=aj.k;refine bg.mk d.k (by unfold IntKind.wrap;simp[IntKind.bits,IntKind.signed];omega) ?_;refine aZ.mk (λh=>?_) (λh=>?_)
 ·refine⟨_,_,.refl,?_,rfl,rfl⟩;simp at h;simp[fits,h]
 ·have ql:d.k<10:=by simpa using h
  have ai:d.k=((d.k.toNat:Nat):Int):=by omega
  have VF:d.k.toNat<10:=by omega
  refine cY.draw a5 rfl rfl rfl ?_;refine eD.mk d.k.toNat ai VF ?_;refine eD.mk 0 rfl (by omega) ?_;refine aO.mk [.int .i64 (uC d.k.toNat)] (ap.rd _ (j:=d.k.toNat*2) (by omega)) ?_;refine eD.mk d.k.toNat ai VF ?_;refine eD.mk 1 rfl (by omega) ?_;refine aO.mk [.int .i64 (sk d.k.toNat)] (ap.agu _ (i:=d.k.toNat*2) (j:=1) (by omega)) ?_
  repeat' first
   |refine cq.mk (λh=>?_) (λh=>?_)| refine aZ.mk (λh=>?_) (λh=>?_)| refine gn.Oo a5 (e:=62) rfl rfl rfl rfl (by kernel_rfl) ?_|(refine bc.mk [] [] _ (.refl _) (OC _ _) ?_;rintro v I' M' -⟨rfl,rfl,rfl⟩)
  all_goals refine⟨_,_,.refl,?_⟩
  all_goals refine⟨?_,rfl,rfl⟩
  all_goals clear ap aj ai
  all_goals (first | (simp_all[fits,an.rs];done) | (simp_all[fits,an.rs];omega) | (simp_all[fits,an.rs];rw[r6];simp;omega))
def kU(i:Nat):List Int->List Bool->Option (List Bool)
 |[],s=>some s| k::ks,s=>bif decide (k<0)||(decide ((i:Int)<=k)||s.getD k.toNat false)then none else kU i ks (s.set k.toNat true)
def jt:Nat->List an->List Bool->Option (List Bool)
 |_,[],s=>some s
 |i,d::ds,s=>bif fits d d.ax.length then(match kU i d.ax s with
  |some b3=>jt (i+1) ds b3| none=>none)else none
def ru(bA:Int):Nat->List Bool->Bool
 |_,[]=>true| i,b::s=>bif b == decide ((i:Int)=bA)then false else ru bA (i+1) s
def right(t:bR):Bool:=decide (0<=t.bA)&&(decide (t.bA<t.ns.length)&&(match jt 0 t.ns (List.replicate t.ns.length false)with
 |some s=>ru t.bA 0 s| none=>false))
def th(v:Value)(n:Nat):rowOf [v] n=List.replicate n v:=by
 apply nU
 ·simp[vF,madeCells]
 ·intro i aa ab;simp[vF,madeCells,Nat.mod_one]
def iw(b:Nat)(s:List Bool):aD:=⟨b,.cells (s.map Value.bool).toArray 4 (0,0)⟩
def Gv{I:aI}{b:Nat}{s:List Bool}(a':iw b s∈M){j:Nat}(ai:j<s.length):cM I M ((⟨b,0,none⟩:Addr).add (j*1)) 1 [.bool s[j]]:=by
 rw[eP _ rfl];refine⟨rfl,_,4,(0,0),.inr ⟨_,a',rfl,rfl⟩,?_,rfl⟩;have aa:j<(s.map Value.bool).length:=by simpa using ai
 simp only[db,e0];rw[eR aa,qb,re];simp
def Dt(s:List Bool)(j:Nat)(ai:j<s.length)(b:Bool):ck (s.map Value.bool) j [.bool b]=(s.set j b).map Value.bool:=by unfold ck;rw[sd,F3];simp[ai]
def b2.add{b o k:Nat}(a9 post:List aD)(cs:Array Value)(T:Nat)(a':M=a9++⟨b,.cells cs T (0,0)⟩::post)(ag:o+k+vs.length<=cs.size)(aa:gm vs=true)
  (h:K (a9++⟨b,.cells (ck cs.toList (o+k) vs).toArray T (0,0)⟩::post)):b2 M ((⟨b,o,none⟩:Addr).add k) vs K:=by
 rw[eP _ rfl];exact .mk a9 post cs T a' rfl ag aa h
def b2.ix{b o k:Nat}(a9 post:List aD)(cs:List Value)(T:Nat)(a':M=a9++⟨b,.cells cs.toArray T (0,0)⟩::post)(ag:Nat.ble (o+k+vs.length) cs.length=true)(aa:gm vs=true)(cs':List Value)(he:ck cs (o+k) vs=cs')(h:K (a9++⟨b,.cells cs'.toArray T (0,0)⟩::post)):b2 M ((⟨b,o,none⟩:Addr).add k) vs K:=
 b2.add a9 post _ _ a' (by simpa using bJ ag) aa (by rw[<-he]at h;exact h)
def qm{I:aI}(ap:mS I){t:bR}(av:t.ok I):Spec Tryz.prog 60 [t.val] I [] (λv I' M'=>v=.bool (right t)/\I'=I/\M'=[]):=by
 refine bZ [] a5 Tryz.func60 rfl rfl rfl ?_;intro B az;have aB:=av.n;have ju:=av.a0.cap;refine cq.mk (λaa=>?_) (λaa=>?_)
 ·refine aZ.mk (λab=>?_) (λab=>?_)
  ·refine⟨_,_,.refl,?_,rfl,rfl⟩;simp at ab;have:¬ t.bA<t.ns.length:=by omega
   simp[right,this]
  ·have a8:0<=t.bA:=by simpa using aa
   have ba:t.bA<t.ns.length:=by simp at ab;omega
   refine mG.mk t.n t.n rfl rfl (cc _) (by show 1*t.n<=_;omega) (by omega) ?_;refine bX.mk λb ag sj=>?_;refine de.inv (ι:=Nat×List Bool) (λx=>{ bj:=[(1,.ref 1 0),(3,.val (.slice (some ⟨b,0,none⟩) t.n t.n)),(26,.val (.slice t.a t.n t.c)),(27,.val (.int .i64 t.n)),(28,.val (.int .i64 x.1))],cl:=[(1,t.cells)],cI:=I,c1:=[iw b x.2] }) (λx=>x.1<=t.n/\x.2.length=t.n/\jt 0 t.ns (List.replicate t.ns.length false)=jt x.1 (t.ns.drop x.1) x.2) (λx=>t.n-x.1) ?_ ?_;·refine⟨(0,List.replicate t.n false),⟨by omega,by simp,by simp[aB]⟩,?_,gf,.cons rfl .nil⟩;show h7 _ _ [⟨b,.cells (rowOf [Value.bool false] (t.n*1)).toArray 4 (0,0)⟩] _ [iw b (List.replicate t.n false)];rw[th,e0];simp only[iw,xm];exact .refl
   ·rintro⟨i,s⟩⟨fh,iJ,il⟩;simp only at fh iJ il;refine aZ.mk (λh=>?_) (λh=>?_)
    ·have aV:i<t.n:=by simpa using h
     have ch:i<t.ns.length:=by omega
     obtain⟨aS,bH,bl⟩:=av.a0.row an.cS aV ch;have hH:=av.ns t.ns[i] (bx ch);have e8:=hH.aL;have ja:t.ns.drop i=t.ns[i]::t.ns.drop (i+1):=eR ch;refine bf.mk aS i bH rfl aV ?_;refine aO.mk t.ns[i].cells (bl _) ?_;refine bc.mk [] [iw b s] _ (.refl _) (VE ap hH t.ns[i].aL) ?_;rintro v I' M' -⟨rfl,rfl,rfl⟩;refine aZ.mk (λak=>?_) (λak=>?_)
     ·refine⟨_,_,.sub (fp _) .refl,?_,rfl,rfl⟩;have aA:fits t.ns[i] t.ns[i].ax.length=false:=by rw[e8];simpa using ak
      have:right t=false:=by unfold right;rw[il,ja];simp[jt,aA]
      rw[this]
     ·have aA:fits t.ns[i] t.ns[i].ax.length=true:=by rw[e8];simpa using ak
      refine de.inv (ι:=Nat×List Bool) (λx=>{ bj:=[(1,.ref 1 0),(3,.val (.slice (some ⟨b,0,none⟩) t.n t.n)),(4,.val (.int .i64 i)),(26,.val (.slice t.a t.n t.c)),(27,.val (.int .i64 t.n)),(28,.val (.int .i64 i)),(40,.val (.slice t.ns[i].dy t.ns[i].aL t.ns[i].dq)),(41,.val (.int .i64 t.ns[i].aL)),(42,.val (.int .i64 x.1))],cl:=[(1,t.cells)],cI:=I',c1:=[iw b x.2] }) (λx=>x.1<=t.ns[i].aL/\x.2.length=t.n/\kU i t.ns[i].ax s=kU i (t.ns[i].ax.drop x.1) x.2) (λx=>t.ns[i].aL-x.1) ?_ ?_;·exact⟨(0,s),⟨by omega,iJ,rfl⟩,.refl,j3,.cons rfl .nil⟩
      ·rintro⟨j,b3⟩⟨J2,ti,Du⟩;simp only at J2 ti Du;refine aZ.mk (λh=>?_) (λh=>?_)
       ·have eM:j<t.ns[i].aL:=by simpa using h
        have iy:j<t.ns[i].ax.length:=by omega
        obtain⟨gg,fs,e'⟩:=hH.a0.one eM iy;refine bf.mk gg j fs rfl eM ?_;refine aO.mk [.int .i64 t.ns[i].ax[j]] (e' _) ?_;have lr:t.ns[i].ax.drop j=t.ns[i].ax[j]::t.ns[i].ax.drop (j+1):=eR iy;have bad:(decide (t.ns[i].ax[j]<0)||(decide ((i:Int)<=t.ns[i].ax[j])||b3.getD t.ns[i].ax[j].toNat false))=true->right t=false:=λag=>by unfold right;rw[il,ja];simp only[jt,aA,ca,Du,lr,kU,ag];simp
        refine cq.mk (λaJ=>?_) (λaJ=>?_)
        ·refine cq.mk (λbB=>?_) (λbB=>?_)
         ·simp only[sb,Int.not_lt,Int.not_le]at aJ bB;have lP:t.ns[i].ax[j]=((t.ns[i].ax[j].toNat:Nat):Int):=by omega
          have cy:t.ns[i].ax[j].toNat<t.n:=by omega
          have mj:t.ns[i].ax[j].toNat<b3.length:=by omega
          refine bf.mk ⟨b,0,none⟩ t.ns[i].ax[j].toNat rfl lP cy ?_;refine aO.mk [.bool b3[t.ns[i].ax[j].toNat]] (Gv (by simp) mj) ?_;refine aZ.mk (λb5=>?_) (λb5=>?_);·refine⟨_,_,.sub (fp _) .refl,?_,rfl,rfl⟩;rw[bad];simp[bz,mj,b5]
          ·refine bf.mk ⟨b,0,none⟩ t.ns[i].ax[j].toNat rfl lP cy ?_;refine b2.add [] [] _ 4 rfl ?_ rfl ?_
           ·simp only[ow,bF];show 0+t.ns[i].ax[j].toNat*1+1<=_;omega
           have fP:IntKind.i64.wrap ((j:Int)+1)=((j+1:Nat):Int):=by rw[wrap_i64 ⟨by omega,by have:=hH.a0.cap;omega⟩];omega
           refine bg.mk _ fP ?_;refine⟨(j+1,b3.set t.ns[i].ax[j].toNat true),⟨⟨by omega,by simp[ti],?_⟩,by show _<_;simp only;omega⟩,?_,j3,.cons rfl .nil⟩
           ·simp only;rw[Du,lr];have aP:(decide (t.ns[i].ax[j]<0)||(decide ((i:Int)<=t.ns[i].ax[j])||b3.getD t.ns[i].ax[j].toNat false))=false:=by
             have aG:¬ t.ns[i].ax[j]<0:=by omega
             have a7:¬ (i:Int)<=t.ns[i].ax[j]:=by omega
             simp[aG,a7,bz,mj,show b3[t.ns[i].ax[j].toNat]=false from b5]
            simp only[kU,aP,b']
           ·have e:=Dt b3 t.ns[i].ax[j].toNat mj true;simp only[iw];rw[<-e];simp only[db,e0];exact .refl
         ·refine⟨_,_,.sub (fp _) .refl,?_,rfl,rfl⟩;rw[bad];simp at bB;simp[bB]
        ·refine⟨_,_,.sub (fp _) .refl,?_,rfl,rfl⟩;rw[bad];simp at aJ;simp[aJ]
       ·have eM:¬ j<t.ns[i].aL:=by simpa using h
        have Bp:t.ns[i].ax.drop j=[]:=jH (by omega);have fP:IntKind.i64.wrap ((i:Int)+1)=((i+1:Nat):Int):=by rw[wrap_i64 ⟨by omega,by omega⟩];omega
        refine bg.mk _ fP ?_;refine⟨(i+1,b3),⟨⟨by omega,ti,?_⟩,by show _<_;simp only;omega⟩,.refl,gf,.cons rfl .nil⟩;simp only;rw[il,ja];simp only[jt,aA,ca,Du,Bp,kU]
    ·have cA:¬ i<t.n:=by simpa using h
     have hj:t.ns.drop i=[]:=jH (by omega);have gq:jt 0 t.ns (List.replicate t.ns.length false)=some s:=by rw[il,hj];rfl
     have af:right t=ru t.bA 0 s:=by unfold right;rw[gq];simp[a8,ba]
     refine de.inv (ι:=Nat) (λm=>{ bj:=[(1,.ref 1 0),(64,.val (.slice (some ⟨b,0,none⟩) t.n t.n)),(65,.val (.int .i64 t.n)),(66,.val (.int .i64 m))],cl:=[(1,t.cells)],cI:=I,c1:=[iw b s] }) (λm=>m<=t.n/\ru t.bA 0 s=ru t.bA m (s.drop m)) (λm=>t.n-m) ?_ ?_;·exact⟨0,⟨by omega,rfl⟩,.refl,eE,.cons rfl .nil⟩
     ·rintro m⟨VG,ml⟩;refine aZ.mk (λh=>?_) (λh=>?_)
      ·have jb:m<t.n:=by simpa using h
       have rv:m<s.length:=by omega
       have ry:s.drop m=s[m]::s.drop (m+1):=eR rv;refine bf.mk ⟨b,0,none⟩ m rfl rfl jb ?_;refine aO.mk [.bool s[m]] (Gv (by simp) rv) ?_;refine aZ.mk (λdZ=>?_) (λdZ=>?_)
       ·refine⟨_,_,.sub (fp _) .refl,?_,rfl,rfl⟩;have:right t=false:=by rw[af,ml,ry];simp only[ru,show(s[m] == decide ((m:Int)=t.bA))=true from dZ,ca]
        rw[this]
       ·have fP:IntKind.i64.wrap ((m:Int)+1)=((m+1:Nat):Int):=by rw[wrap_i64 ⟨by omega,by omega⟩];omega
        refine bg.mk _ fP ?_;refine⟨m+1,⟨⟨by omega,?_⟩,by omega⟩,.refl,eE,.cons rfl .nil⟩;rw[ml,ry];simp only[ru,show(s[m] == decide ((m:Int)=t.bA))=false from dZ,b']
      ·have jb:¬ m<t.n:=by simpa using h
       have ry:s.drop m=[]:=jH (by omega);refine⟨_,_,.sub (fp _) .refl,?_,rfl,rfl⟩;rw[af,ml,ry];rfl
 ·refine⟨_,_,.refl,?_,rfl,rfl⟩;have:¬ 0<=t.bA:=by simp at aa;omega
  simp[right,this]
end Go.V
