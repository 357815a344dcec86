/- Part 2 of what the proofs of this seat share: the executor, data in memory, walks.
-/
import Derived.Test.YtmncamccjfmbpaaGreatDoorK1
import Derived.Lib.UnsafeStr
import Derived.Test.YtmncamccjfmbpaaGreatDoorProg
import Derived.KernelRfl
set_option linter.all false
set_option maxRecDepth 100000
namespace Go.V
open Go
def cv:=@List.getD_eq_getElem?_getD
def bO:=@List.length_map
def b9:=@List.getElem_mem
def cL:=@List.length_append
def dX:=@List.getElem?_eq_getElem
def eK:=@List.mem_singleton
def im:=@List.eq_nil_of_length_eq_zero
def c9:=@Nat.zero_add
def ee:=@List.append_nil
def fu:=@List.length_take
def gn:=@List.nil_sublist
def h2:=@List.mem_append_left
def lr:=@List.sublist_append_right
def ls:=@List.drop_eq_nil_of_le
def jO:=@List.flatMap_cons
def oL:=@List.getElem?_append_left
def jq:=@List.nil_append
def jP:=@Bool.or_eq_true
def gV:=@Nat.mul_one
def nQ:=@List.mem_append_right
def oM:=@List.getElem_cons_zero
def pM:=@decide_eq_false_iff_not
def h3:=@List.map_nil
def pN:=@List.getElem?_eq_none
def oN:=@List.take_succ_cons
def nR:=@List.mem_filter
def ke:=@Nat.add_mul
def qC:=@Bool.not_eq_true'
def nS:=@List.take_zero
def qD:=@List.ext_getElem
def rE:=@List.size_toArray
def BT:=@List.set_eq_take_append_cons_drop
def rF:=@List.length_drop
def vF:=@List.mem_of_getElem?
def sV:=@List.map_toArray
def BU:=@List.take_append_of_le_length
def xR:=@List.getElem?_toArray
def zA:=@World.putObj_heap_same
def xS:=@Array.length_toList
def oO:=@Nat.one_mul
def rG:=@Bool.false_or
def BV:=@Classical.byContradiction
def sW:=@Bool.not_true
def xT:=@List.filter_cons
def BW:=@List.length_filter_le
def vG:=@List.take_left
def IS:=@Array.eq_empty_of_size_eq_zero
def ug:=@List.map_set
def xU:=@List.take_take
def xV:=@List.drop_zero
def Fa:=@List.getElem_cons_succ
def BX:=@List.map_replicate
def vH:=@Nat.zero_mul
def BY:=@List.filter_congr
def Ph:=@Std.Legacy.Range.forIn_eq_forIn_range'
def zB:=@List.drop_take
def BZ:=@beq_self_eq_true
def B0:=@List.nodup_range
def Fb:=@Nat.testBit_two_pow
def IT:=@Option.bind_eq_some_iff
def Fc:=@List.take_length
def Pj:=@List.drop_length_add_append
def Fe:=@Nat.testBit_or
def Pk:=@Lib.run_firstCells_string
def Ff:=@List.drop_drop
variable{soft g2:Bool}{P:Program}{f x y p s:Operand}{M M' M1 Mr:List aE}{K:List aE->Prop}{I' cT:aM}{op:Op}{ρ:Operand->dd}{C:dp}{other:Prop}{ops:List Oper}{c8 lu aB:dt}{β:Nat->Nat}{a:Option Addr}{w w':World}{Q:Exit->Act->World->Prop}{dst:Option Nat}{v:Value}{kf:Fr}{cU:Array Bool}{A:Array Oper}{ι α:Type}{c g m u e c' rH it size:Nat}{vs xs cq:List Value}{ps:Array Nat}{et body:Code}{cap cs:Array Value}{aV:Addr}
def zC:Op->Bool
 | .move _ | .assign _ | .pick .. | .unOp .. | .binOp .. | .load .. | .nilCheck _ | .fieldAddr .. | .field .. | .indexAddr .. | .index .. | .build .. | .makeFunc .. | .slice .. | .extract .. | .convert ..=>true| .call { callee:=.builtin .len,.. }=>true| .call { callee:=.builtin .cap,.. }=>true| .call { callee:=.builtin .max,.. }=>true| .call { callee:=.builtin .min,.. }=>true| .call { callee:=.builtin .unsafeSliceData,.. }=>true| _=>false
def nT:Op->Bool
 | .load ..=>true| _=>false
def B1(o:Oper)(p:Nat):Bool:=o.after.toList.all λe=>!Region.binds .any e||p.testBit e.on
def nU(ops:List Oper)(p:Nat)(k:Bool):List Nat:=(List.range ops.length).filter λi=>match ops[i]? with
 |some o=>!p.testBit i&&((zC o.op == k)&&B1 o p)| none=>false
def B2(aP:List Nat)(o:Oper):Nat:=o.after.toList.foldl (λs e=>bif Region.binds .any e then s ||| 2^e.on ||| aP.getD e.on 0 else s) 0
def jQ(ops:List Oper):List Nat:=ops.foldl (λaP o=>aP++[B2 aP o]) []
def IU(P:Nat->Prop):List Nat->Prop
 |[]=>True| [i]=>P i| i::l=>P i/\IU P l
inductive fv(soft:Bool)(foot:List Nat)(P:Program)(f:Nat)(args:List Value)(I:aM)(M:List aE)(K:Value->aM->List aE->Prop):Prop
 |mk(post:Value->aM->List aE->Prop)(ar:Spec P f args I [] post)(k:∀ v I' M',(∀ b o,I b=some o->I' b=some o)->post v I' M'->K v I' (M'++M))| mD (dH Mr:List aE) (post:Value->aM->List aE->Prop) (a3:M.Perm (dH++Mr)) (ar:Spec P f args I dH post) (oP:∀ v I' M',post v I' M'->∀ x∈dH,x∈M') (k:∀ v I' M',(∀ b o,I b=some o->I' b=some o)->post v I' M'->K v I' (M'++Mr))| IA (post:Value->aM->List aE->Prop) (ar:Spec P f args I [] post) (k:∀ v I' M',(∀ b o,I b=some o->I' b=some o)->(∀ x∈M'++M,I' x.num=none)->post v I' M'->K v I' (M'++M))| YL (dH Mr:List aE) (post:Value->aM->List aE->Prop) (a3:M.Perm (dH++Mr)) (ar:Spec P f args I dH post) (oP:∀ v I' M',post v I' M'->∀ x∈dH,x∈M') (k:∀ v I' M',(∀ b o,I b=some o->I' b=some o)->(∀ x∈M'++Mr,I' x.num=none)->post v I' M'->K v I' (M'++Mr))| YM (b:Nat) (o:Obj) (dH Mr:List aE) (post:Value->aM->List aE->Prop) (a3:M.Perm (⟨b,o⟩::(dH++Mr))) (az:b ∉ foot) (ar:Spec P f args (ins I b o) dH post) (oP:∀ v I' M',post v I' M'->∀ x∈dH,x∈M') (k:∀ v I' M',(∀ c p,ins I b o c=some p->I' c=some p)->(∀ x∈M'++Mr,I' x.num=none)->post v I' M'->K v I' (M'++Mr))| zo (h:lX I M->fv soft foot P f args I M K)| rI (Fg:soft=true) (dH Mr:List aE) (post:Value->aM->List aE->Prop) (a3:M.Perm (dH++Mr)) (ar:Spec P f args I dH post) (k:∀ v I' M',(∀ b o,I b=some o->I' b=some o)->post v I' M'->K v I' (M'++Mr))
def fv.elim{foot:List Nat}{f:Nat}{args:List Value}{I:aM}{K:Value->aM->List aE->Prop}(e8:lX I M)(h:fv soft foot P f args I M K) :
  ∃ (cT:aM) (dH Mr:List aE) (post:Value->aM->List aE->Prop),hY foot I M cT (dH++Mr)/\(∀ b o,I b=some o->cT b=some o)/\Spec P f args cT dH post /\
   ∀ v I' M',(∀ b o,cT b=some o->I' b=some o)->(∀ x∈M'++Mr,I' x.num=none)->post v I' M'->(soft=true\/∀ x∈M,I' x.num=some x.obj\/x∈M'++Mr)/\K v I' (M'++Mr):=by
 have Pl:∀ {dH Mr:List aE} {post:Value->aM->List aE->Prop} {I':aM},M.Perm (dH++Mr)->(∀ v I' M',post v I' M'->∀ x∈dH,x∈M')->∀ v M',post v I' M'->∀ x∈M,I' x.num=some x.obj\/x∈M'++Mr:=λa3 oP v M' ad x ab=>by
  right
  rcases cO.1 (a3.mem_iff.1 ab)with ab | ab;·exact cO.2 (.inl (oP v _ M' ad x ab))
  ·exact cO.2 (.inr ab)
 induction h with
 |mk post ar k=>exact⟨I,[],M,post,.refl,λ_ _ h=>h,ar,λv I' M' aa _ ad=>⟨.inr λx ab=>.inr (by simp[ab]),k v I' M' aa ad⟩⟩| mD dH Mr post a3 ar oP k=>exact⟨I,dH,Mr,post,.perm a3 .refl,λ_ _ h=>h,ar,λv I' M' aa _ ad=>⟨.inr (Pl a3 oP v M' ad),k v I' M' aa ad⟩⟩| IA post ar k=>exact⟨I,[],M,post,.refl,λ_ _ h=>h,ar,λv I' M' aa al ad=>⟨.inr λx ab=>.inr (by simp[ab]),k v I' M' aa al ad⟩⟩| YL dH Mr post a3 ar oP k=>exact⟨I,dH,Mr,post,.perm a3 .refl,λ_ _ h=>h,ar,λv I' M' aa al ad=>⟨.inr (Pl a3 oP v M' ad),k v I' M' aa al ad⟩⟩
 |YM b o dH Mr post a3 az ar oP k=>
  have ah:I b=none:=e8.d ⟨b,o⟩ (a3.mem_iff.2 (.head _));have YN:ins I b o b=some o:=by unfold ins;rw[oC];rfl
  refine⟨ins I b o,dH,Mr,post,.perm a3 (.vt rfl az .refl),λc p au=>?_,ar,λv I' M' aa al ad=>⟨.inr λx ab=>?_,k v I' M' aa al ad⟩⟩
  ·unfold ins;by_cases e:c=b
   ·subst e;rw[ah]at au;cases au
   ·rw[g0 e];exact au
  ·rcases dW.1 (a3.mem_iff.1 ab)with rfl | ab
   ·exact .inl (aa _ _ YN)
   ·right
    rcases cO.1 ab with ab | ab;·exact cO.2 (.inl (oP v I' M' ad x ab))
    ·exact cO.2 (.inr ab)
 |zo h aR=>exact aR e8| rI Fg dH Mr post a3 ar k=>exact⟨I,dH,Mr,post,.perm a3 .refl,λ_ _ h=>h,ar,λv I' M' aa _ ad=>⟨.inl Fg,k v I' M' aa ad⟩⟩
def Fh(ops:List Oper)(o:Oper)(F:Fr)(run skip:Fr->Prop):Prop:=
 match o.guard with
 |none=>run F
 |some (j,b)=>
  match(ops[j]?).bind (·.dst)with
  |none=>False
  |some d=>
   match F d with
   | .lit c=>bif c == b then run F else skip F| .val (.bool c)=>cP c b (run (fM F d (.lit b))) (skip (fM F d (.lit !b)))| .val (.tuple _)=>skip F| _=>False
def Pm(fQ p:Nat):Bool:=Nat.beq (p &&& fQ) p
def YO(ops:List Oper)(fQ p:Nat):Bool:=(List.range ops.length).all λq=>!p.testBit q||(fQ.testBit q||match ops[q]? with
 |some o=>!nT o.op| none=>true)
inductive sX(X:cB)(o:Oper)(F:Fr)(C:dp)(I:aM)(M:List aE)(K:dd->aM->List aE->Prop):Prop
 |mk (h:∀ β a w Q,cg X β a w F C I M->o.wpIn (f' X) 0 X.P a w (λbF w'=>∃ v x I' M',bF=a.put o.dst v/\eb β x v/\cg X β a w' F C I' M'/\K x I' M'/\I'=I) Q)
def sY(X:cB)(YP soft:Bool)(o:Oper)(F:Fr)(C:dp)(I:aM)(M:List aE)(K:fD):Prop:=
 bif YP then fP X o F C I M K else
 match o.op with
 | .call { callee:=.value f,args,.. }=>
  match bt F f,kO F args.toList with
  | .val (.func (.func g) first cap),some vs=>fv soft X.foot X.P g (first.toList++vs++cap.toList) I M λv I' M'=>K (put o.dst (.val v) F) C I' M'
  |_,_=>False
 | .alloc t=>
  match o.dst,X.E t with
  |some d,some i=>cJ I M λb=>K (fM F d (.val (.pointer (some ⟨b,0,none⟩)))) C I (⟨b,.cells i.zero.toArray t (0,0)⟩::M)
  |_,_=>False
 | .buildSlice _ _ _=>fP X o F C I M K| .makeSlice _ _ _=>fP X o F C I M K| .store _ _ _=>bif soft then fP X o F C I M K else False| .call { callee:=.builtin .append,.. }=>bif soft then ∀ G:Fr,(∀ y∈o.op.operands,cR G y=cR F y)->sX X o G C I M λx I' M'=>K (put o.dst x F) C I' M' else False
 | .call { callee:=.builtin .copy,.. }=>bif soft then ∀ G:Fr,(∀ y∈o.op.operands,cR G y=cR F y)->sX X o G C I M λx I' M'=>K (put o.dst x F) C I' M' else False
 |_=>False
def Fi:dd->Nat
 | .ref s _=>s+1| _=>0
def B3(i:Nat)(op:Op)(ρ:Operand->dd)(bR:List (Nat×Nat)):List (Nat×Nat):=match op with
 | .load _ x=>(i,Fi (ρ x))::bR| _=>bR
def xW(fQ s:Nat):List (Nat×Nat)->Bool
 |[]=>true|(i,t)::bR=>(fQ.testBit i || !Nat.beq s t)&&xW fQ s bR
def Pn{fQ s i t:Nat}:∀ {bR:List (Nat×Nat)},xW fQ s bR=true->(i,t)∈bR->fQ.testBit i=true\/t≠s
 |(j,u)::bR,h,hm=>by
  unfold xW at h;rw[b',jP]at h;rcases dW.1 hm with e | hm
  ·cases e;rcases h.1 with aa | aa
   ·exact .inl aa
   ·right
    rintro rfl;simp at aa
  ·exact Pn h.2 hm
def Po(fQ:Nat)(op:Op)(ρ:Operand->dd)(bR:List (Nat×Nat)):Bool:=match op with
 | .store _ x _=>(match ρ x with
  | .val (.pointer (some _))=>xW fQ 0 bR| _=>false)
 | .call { callee:=.value _,.. }=>xW fQ 0 bR| _=>false
def Pp(fQ:Nat)(op:Op)(ρ:Operand->dd)(bR:List (Nat×Nat)):Bool:=match op with
 | .store _ x _=>(match ρ x with
  | .ref s _=>xW fQ (s+1) bR| _=>false)
 |_=>false
def sZ(g2:Bool)(M:List aE):List aE:=bif g2 then []else M
def YQ{I:aM}{b:Nat}{o:Obj}(h:g8 I (sZ g2 M) b o):g8 I M b o:=by
 cases g2 with
 |false=>exact h
 |true=>
  rcases h with h | ⟨x,ab,_⟩;·exact .inl h
  ·cases ab
def Pq{I:aM}(h:∀ b o,g8 I M b o->g8 I' M' b o)(bq:∀ b o,I b=some o->I' b=some o):∀ b o,g8 I (sZ g2 M) b o->g8 I' (sZ g2 M') b o:=λb o ah=>by
 cases g2 with
 |false=>exact h b o ah
 |true=>
  rcases ah with ah | ⟨x,ab,_⟩;·exact .inl (bq _ _ ah)
  ·cases ab
def YR{I:aM}(bq:∀ b o,I b=some o->I' b=some o):∀ b o,g8 I (sZ true M) b o->g8 I' (sZ true M') b o:=λb o ah=>by
 rcases ah with ah | ⟨x,ab,_⟩
 ·exact .inl (bq _ _ ah)
 ·cases ab
def Pr(X:cB)(g2:Bool)(op:Op)(ρ:Operand->dd)(C:dp)(I:aM)(M:List aE)(V:dd->Prop)(other:Prop):Prop:=match g2 with
 |false=>b5 X op ρ C I M V other| true=>b5 X op ρ C I [] V other
def YS{X:cB}{I:aM}{V:dd->Prop}(h:Pr X g2 op ρ C I M V other):b5 X op ρ C I (sZ g2 M) V other:=by
 cases g2 with
 |false=>exact h| true=>exact h
def YT(ops:List Oper)(g2:Nat->Bool)(fQ p:Nat):Bool:=(List.range ops.length).all λq=>!p.testBit q||(fQ.testBit q||(g2 q||match ops[q]? with
 |some o=>!nT o.op| none=>true))
def Ps(op:Op)(ρ:Operand->dd):Bool:=match op with
 | .store _ x _=>(match ρ x with
  | .val (.pointer (some _))=>true| _=>false)
 | .call { callee:=.builtin .append,.. }=>true| .call { callee:=.builtin .copy,.. }=>true| _=>false
def Pt(ops:List Oper)(g2:Nat->Bool)(fQ p:Nat)(op:Op)(ρ:Operand->dd):Bool:=YT ops g2 fQ p&&Ps op ρ
def nV(X:cB)(ops:List Oper)(g2:Nat->Bool):Nat->Nat->List (Nat×Nat)->Fr->dp->aM->List aE->fD->Prop
 |0,_,_,_,_,_,_,_=>False
 |n+1,p,bR,F,C,I,M,K=>
  match nU ops p true with
  |i::_=>
   (match ops[i]? with
   |some o=>Fh ops o F (λF=>Pr X (g2 i) o.op (cR F) C I M (λx=>nV X ops g2 n (p ||| 2^i) (B3 i o.op (cR F) bR) (put o.dst x F) C I M K) False) (λF=>nV X ops g2 n (p ||| 2^i) bR (put o.dst (.val undef) F) C I M K)| none=>False)
  |[]=>
   match nU ops p false with
   |[]=>K F C I M
   |i0::eL=>IU (λi=>match ops[i]? with
     |some o=>Fh ops o F (λF=>sY X (Pm ((jQ ops).getD i 0) p) (YO ops ((jQ ops).getD i 0) p||(Pp ((jQ ops).getD i 0) o.op (cR F) bR||(Po ((jQ ops).getD i 0) o.op (cR F) bR||Pt ops g2 ((jQ ops).getD i 0) p o.op (cR F)))) o F C I M λF C I M=>nV X ops g2 n (p ||| 2^i) bR F C I M K) (λF=>nV X ops g2 n (p ||| 2^i) bR (put o.dst (.val undef) F) C I M K)| none=>False) (i0::eL)
def looks(ops:List Oper)(o:Oper):List Nat:=o.looksAt ops.toArray
def zD(ops:List Oper):Bool:=
 let b:=jQ ops
 (List.range ops.length).all λj=>match ops[j]? with
  |none=>true
  |some kR=>
   (kR.after.toList.all λe=>!Region.binds .any e||Nat.blt e.on j) &&
   ((match kR.dst with
    |some d=>!(looks ops kR).contains d| none=>true) &&
   ((List.range ops.length).all (λi=>Nat.beq i j||match ops[i]? with
    |none=>true
    |some fw=>match fw.dst with
     |none=>true| some d=>!(kR.dst == some d)&&(!(looks ops kR).contains d||((b.getD j 0).testBit i||(b.getD i 0).testBit j)))))
def kS(ops:List Oper)(j e:Nat):Prop:=∃ o lv,ops[j]?=some o/\lv∈o.after/\Region.binds .any lv=true/\lv.on=e
inductive nf(ops:List Oper):Nat->Nat->Prop
 |one{i j}(h:kS ops j i):nf ops i j| trans {i j k} (h:kS ops j k) (bq:nf ops i k):nf ops i j
def xX(ops:List Oper)(S:Nat->Prop):Prop:=∀ j e,S j->kS ops j e->S e
def nf.mem{S:Nat->Prop}(ej:xX ops S){i j:Nat}(h:nf ops i j)(ai:∀ e,kS ops j e->S e):S i:=by
 induction h with
 |one h=>exact ai _ h| trans h _ aR=>exact aR λe he=>ej _ e (ai _ h) he
def YU{aP:List Nat}{o:Oper}{i:Nat}(h:(B2 aP o).testBit i=true):∃ e∈o.after,Region.binds .any e=true/\(e.on=i\/(aP.getD e.on 0).testBit i=true):=by
 have key:∀ (l:List Edge) (s:Nat),(l.foldl (λs e=>bif Region.binds .any e then s ||| 2^e.on ||| aP.getD e.on 0 else s) s).testBit i=true->s.testBit i=true\/∃ e∈l,Region.binds .any e=true/\(e.on=i\/(aP.getD e.on 0).testBit i=true):=by
  intro l
  induction l with
  |nil=>intro s h;exact .inl h
  |cons e l aR=>
   intro s h;simp only[iY]at h;rcases aR _ h with aa | ⟨cM,qE,ad⟩
   ·cases ah:Region.binds .any e with
    |false=>rw[ah]at aa;exact .inl aa
    |true=>
     rw[ah]at aa;simp only[bZ,Fe,jP,Fb,hk]at aa;rcases aa with(aa | aa) | aa;·exact .inl aa
     ·exact .inr ⟨e,by simp,ah,.inl aa⟩
     ·exact .inr ⟨e,by simp,ah,.inr aa⟩
   ·exact .inr ⟨cM,by simp[qE],ad⟩
 rcases key _ 0 h with aa | ⟨e,he,ad⟩
 ·simp at aa
 ·exact⟨e,by simpa using he,ad⟩
def Pu(ops:List Oper):∀ (l:List Oper) (a5:List Oper) (aP:List Nat),ops=a5++l->aP.length=a5.length->(∀ j i,(aP.getD j 0).testBit i=true->nf ops i j) -> ∀ j i,((l.foldl (λaP o=>aP++[B2 aP o]) aP).getD j 0).testBit i=true->nf ops i j
 |[],a5,aP,_,_,kD=>kD
 |o::l,a5,aP,s0,cu,kD=>by
  simp only[iY];refine Pu ops l (a5++[o]) _ (by simp[s0]) (by simp[cu]) ?_;intro j i h;by_cases ai:j<aP.length;·exact kD j i (by simpa[cv,oL ai]using h)
  ·by_cases jL:j=aP.length
   ·subst jL;have bq:(B2 aP o).testBit i=true:=by simpa[cv]using h
    obtain⟨e,he,ah,ad⟩:=YU bq;have aC:ops[aP.length]?=some o:=by rw[s0,cu];simp
    have vI:kS ops aP.length e.on:=⟨o,e,aC,he,ah,rfl⟩;rcases ad with rfl | ad;·exact .one vI
    ·exact .trans vI (kD _ _ ad)
   ·have:(aP++[B2 aP o]).getD j 0=0:=by rw[cv,pN (by simp;omega)];rfl
    rw[this]at h;simp at h
def vJ{j i:Nat}(h:((jQ ops).getD j 0).testBit i=true):nf ops i j:=
 Pu ops ops [] [] rfl rfl (λj i h=>by simp at h) j i h
section
variable{X:cB}{C C':dp}{I I':aM}{M M':List aE}
def uh{ρ iq:Operand->dd}:∀ {xs:List Operand},(∀ y∈xs,iq y=ρ y)->iD iq xs=iD ρ xs
 |[],_=>rfl| x::xs,h=>by have aa:=h x (by simp);have ad:=uh (xs:=xs) λy aD=>h y (by simp[aD]);simp only[iD,cY,aa,ad]
def IV{ρ iq:Operand->dd}:∀ {xs:List (Nat×Operand)},(∀ y∈xs.map (·.2),iq y=ρ y)->qu iq xs=qu ρ xs
 |[],_=>rfl|(i,x)::xs,h=>by have aa:=h x (by simp);have ad:=IV (xs:=xs) λy aD=>h y (by simp only[cc,dW];exact .inr aD);simp only[qu,cY,aa,ad]
def Pv{iq:Operand->dd}{V:dd->Prop}(h:b5 X op ρ C I M V False)(hJ:∀ y∈op.operands,iq y=ρ y)
  (av:∀ t x,op=.load t x->(∀ s off,ρ x=.ref s off->C' s=C s)/\((∀ s off,ρ x≠.ref s off)->∀ b o,g8 I M b o->g8 I' M' b o)):b5 X op iq C' I' M' V False:=by
 cases op
 case load t x=>
  obtain⟨au,ae⟩:=av t x rfl;have aa:=hJ x (by simp[Op.operands]);simp only[b5,aa]at h |-;cases aG:X.E t with
  |none=>rw[aG]at h;exact h.elim
  |some i=>
   rw[aG]at h
   try simp only at h |-
   cases ab:ρ x with
   |ref s off=>
    rw[ab]at h
    try simp only at h |-
    rw[au s off ab];exact h
   |val v=>
    rw[ab]at h
    try simp only at h |-
    split at h;·rename_i e;cases e
    ·rename_i a e;cases e;obtain⟨vs,⟨ad,cs,T,ak,al,aL⟩,bG⟩:=h;exact⟨vs,⟨ad,cs,T,ak,ae (λs off e=>by rw[ab]at e;cases e) _ _ al,aL⟩,bG⟩
    ·exact h.elim
   |lit b=>rw[ab]at h;exact h.elim| ll=>rw[ab]at h;exact h.elim
 case build t ps=>
  have aa:=IV (ρ:=ρ) (iq:=iq) (xs:=ps.toList) λy aD=>hJ y (by simpa[Op.operands]using aD);simp only[b5,aa]at h |-;exact h
 case makeFunc fn first captured=>
  have aa:=uh (ρ:=ρ) (iq:=iq) (xs:=first.toList) λy aD=>hJ y (by simp only[Op.operands,Array.mem_append];exact .inl (by simpa using aD));have ad:=uh (ρ:=ρ) (iq:=iq) (xs:=captured.toList) λy aD=>hJ y (by simp only[Op.operands,Array.mem_append];exact .inr (by simpa using aD));simp only[b5,aa,ad]at h |-;exact h
 case slice t x lo hi mx=>
  have aa:=hJ x (by simp[Op.operands]);have ad:lo.map (cY iq)=lo.map (cY ρ):=by
   cases lo with
   |none=>rfl| some y=>have:=hJ y (by simp[Op.operands]);simp[cY,this]
  have al:hi.map (cY iq)=hi.map (cY ρ):=by
   cases hi with
   |none=>rfl| some y=>have:=hJ y (by simp[Op.operands]);simp[cY,this]
  have aL:mx.map (cY iq)=mx.map (cY ρ):=by
   cases mx with
   |none=>rfl| some y=>have:=hJ y (by simp[Op.operands]);simp[cY,this]
  simp only[b5,ad,al,aL,cY,aa]at h |-;exact h
 case call c=>
  obtain⟨callee,args,argTypes⟩:=c;cases callee with
  |value f=>exact h| invoke r m=>exact h
  |builtin b=>
   cases b
   case len=>
    have aa:=uh (ρ:=ρ) (iq:=iq) (xs:=args.toList) λy aD=>hJ y (by simp[Op.operands,Call.operands];simpa using aD);simp only[b5,aa]at h |-;exact h
   case cap=>
    have aa:=uh (ρ:=ρ) (iq:=iq) (xs:=args.toList) λy aD=>hJ y (by simp[Op.operands,Call.operands];simpa using aD);simp only[b5,aa]at h |-;exact h
   case max=>
    have aa:=uh (ρ:=ρ) (iq:=iq) (xs:=args.toList) λy aD=>hJ y (by simp[Op.operands,Call.operands];simpa using aD);simp only[b5,aa]at h |-;exact h
   case min=>
    have aa:=uh (ρ:=ρ) (iq:=iq) (xs:=args.toList) λy aD=>hJ y (by simp[Op.operands,Call.operands];simpa using aD);simp only[b5,aa]at h |-;exact h
   case unsafeSliceData=>
    have aa:=uh (ρ:=ρ) (iq:=iq) (xs:=args.toList) λy aD=>hJ y (by simp[Op.operands,Call.operands];simpa using aD);simp only[b5,aa]at h |-;exact h
   all_goals exact h
 all_goals first
  |exact h|(rename_i x;have aa:=hJ x (by simp[Op.operands]);simp only[b5,cY,aa]at h |-;exact h)|(rename_i x y;have aa:=hJ x (by simp[Op.operands]);have ad:=hJ y (by simp[Op.operands]);simp only[b5,cY,aa,ad]at h |-;exact h)|(rename_i x y z;have aa:=hJ x (by simp[Op.operands]);have ad:=hJ y (by simp[Op.operands]);have al:=hJ z (by simp[Op.operands]);simp only[b5,cY,aa,ad,al]at h |-;exact h)|(rename_i x y;have aa:=hJ x (by simp[Op.operands]);simp only[b5,cY,aa]at h |-;exact h)|(rename_i x y;have aa:=hJ y (by simp[Op.operands]);simp only[b5,cY,aa]at h |-;exact h)|(rename_i x y z;have aa:=hJ x (by simp[Op.operands]);have ad:=hJ y (by simp[Op.operands]);simp only[b5,cY,aa,ad]at h |-;exact h)|(rename_i x y z;have aa:=hJ y (by simp[Op.operands]);have ad:=hJ z (by simp[Op.operands]);simp only[b5,cY,aa,ad]at h |-;exact h)|(rename_i o x y z u;have aa:=hJ y (by simp[Op.operands]);have ad:=hJ z (by simp[Op.operands]);simp only[b5,cY,aa,ad]at h |-;exact h)|(rename_i x y z u;have aa:=hJ z (by simp[Op.operands]);have ad:=hJ y (by simp[Op.operands]);simp only[b5,cY,aa,ad]at h |-;exact h)
end
section
variable{X:cB}{C:dp}{I:aM}{M:List aE}
def YV{op:BinOp}{c8:Option dt}{x y:dd}{V:Value->Prop}{O:Prop}(h:kc op c8 x y V O) :
  (∃ r,V r/\∀ oQ,kc op c8 x y (λz=>z=r) oQ)\/(O/\∀ (IW:Value->Prop) (oQ:Prop),oQ->kc op c8 x y IW oQ):=by
 unfold kc at h;split at h
 ·left
  split at h;·obtain⟨j,ai,⟨r,af,ae⟩⟩:=h;exact⟨_,ae,λoQ=>by unfold kc;exact⟨j,ai,⟨r,af,rfl⟩⟩⟩
  ·obtain⟨j,ai,ae⟩:=h;exact⟨_,ae,λoQ=>by unfold kc;exact⟨j,ai,rfl⟩⟩
  ·rename_i _ _ k a eS b _ fc mC;cases ei:IntKind.kP k eS with
   |false=>rw[ei]at h;exact h.elim
   |true=>
    rw[ei]at h;simp only[bZ]at h;cases op<;>simp only at h
    case add=>obtain⟨r,af,ae⟩:=h;exact⟨_,ae,λoQ=>by simp only[kc,ei,bZ];exact⟨r,af,rfl⟩⟩
    case sub=>obtain⟨r,af,ae⟩:=h;exact⟨_,ae,λoQ=>by simp only[kc,ei,bZ];exact⟨r,af,rfl⟩⟩
    case mul=>obtain⟨r,af,ae⟩:=h;exact⟨_,ae,λoQ=>by simp only[kc,ei,bZ];exact⟨r,af,rfl⟩⟩
    case quo=>obtain⟨ay,⟨r,af,ae⟩⟩:=h;exact⟨_,ae,λoQ=>by simp only[kc,ei,bZ];exact⟨ay,⟨r,af,rfl⟩⟩⟩
    case rem=>obtain⟨ay,ae⟩:=h;exact⟨_,ae,λoQ=>by simp only[kc,ei,bZ];first | exact⟨ay,rfl⟩ | exact⟨ay,trivial⟩⟩
    case shl=>exact(fc rfl).elim
    case shr=>exact(mC rfl).elim
    all_goals exact⟨_,h,λoQ=>by simp only[kc,ei,bZ];rfl⟩
 ·cases op<;>first
  |exact .inl ⟨_,h,λ_=>rfl⟩| exact .inr ⟨h,λ_ _ aC=>aC⟩
 ·split at h
  ·cases op<;>first
   |exact .inl ⟨_,h,λ_=>rfl⟩| exact .inr ⟨h,λ_ _ aC=>aC⟩
  ·rename_i aJ;refine .inr ⟨h,λIW oQ aC=>?_⟩;cases c8 with
   |none=>exact aC
   |some i=>
    obtain⟨s,b,z,bE⟩:=i;cases bE<;>first
     |exact aC| exact(aJ _ _ _ rfl).elim
 ·rename_i aa ad al;refine .inr ⟨h,λIW oQ aC=>?_⟩;unfold kc;split<;>first
   |exact aC| exact(aa _ _ _ _ rfl rfl).elim| exact(ad _ _ rfl rfl).elim| exact(al _ _ rfl rfl).elim
def YW{V:dd->Prop}(h:b5 X op ρ C I M V False):∃ x,V x/\b5 X op ρ C I M (λy=>y=x) False:=by
 cases op
 case move x=>exact⟨_,h,rfl⟩
 case assign x=>exact⟨_,h,rfl⟩
 case pick c p q=>
  simp only[b5]at h |-;split at h;·exact⟨_,h,rfl⟩
  ·exact⟨_,h,rfl⟩
  ·exact h.elim
 case unOp op t x=>
  simp only[b5]at h |-;split at h;·exact⟨_,h,rfl⟩
  ·exact⟨_,h,rfl⟩
  ·obtain⟨r,af,ae⟩:=h;exact⟨_,ae,⟨r,af,rfl⟩⟩
  ·exact h.elim
 case binOp op t x y ty=>
  simp only[b5]at h |-;rcases YV h with⟨r,aa,ad⟩ | ⟨⟨xy,e9,r,aO,aK,af,ae⟩ | aa,ad⟩
  ·refine⟨_,aa,?_⟩;have:(λv=>dd.val v=dd.val r)=(λz=>z=r):=by funext v;simp
   rw[this];exact ad _
  ·exact⟨_,ae,ad _ _ (.mk xy e9 r aO aK af rfl)⟩
  ·exact aa.elim
 case load t x=>
  simp only[b5]at h |-;split at h
  ·split at h
   ·split at h
    ·rename_i i hi _ s off ar _ cs au;cases bg:Nat.ble (off+i.size) cs.length with
     |false=>rw[bg]at h;exact h.elim| true=>rw[bg]at h;exact⟨_,h,rfl⟩
    ·exact h.elim
   ·obtain⟨vs,af,ae⟩:=h;exact⟨_,ae,⟨vs,af,rfl⟩⟩
   ·exact h.elim
  ·exact h.elim
 case nilCheck x=>
  simp only[b5]at h |-;split at h;·exact⟨_,h,rfl⟩
  ·exact⟨_,h,rfl⟩
  ·exact h.elim
 case fieldAddr t x i=>
  simp only[b5]at h |-;split at h
  ·split at h
   ·split at h
    ·rename_i gu s o' nc ab;cases a':Nat.beq gu.size 0 with
     |true=>rw[a']at h;exact h.elim| false=>rw[a']at h;exact⟨_,h,rfl⟩
    ·rename_i gu s nc ab;cases a':Nat.beq gu.size 0 with
     |true=>rw[a']at h;exact h.elim| false=>rw[a']at h;exact⟨_,h,rfl⟩
    ·exact h.elim
   ·exact h.elim
  ·exact h.elim
 case field t x i=>
  simp only[b5]at h |-;split at h
  ·split at h
   ·split at h
    ·rename_i sz gS z cb cs aw ab _ eI off oF _ gu nc;cases bg:Nat.ble (off+gu.size) cs.size with
     |false=>rw[bg]at h;exact h.elim| true=>rw[bg]at h;exact⟨_,h,rfl⟩
    ·exact h.elim
   ·exact h.elim
  ·exact h.elim
 case indexAddr t x i=>
  simp only[b5]at h |-;split at h
  ·split at h
   ·obtain⟨aV,j,aa,ad,al,ae⟩:=h;exact⟨_,ae,⟨aV,j,aa,ad,al,rfl⟩⟩
   ·exact h.elim
  ·split at h
   ·obtain⟨j,ad,al,ae⟩:=h;exact⟨_,ae,⟨j,ad,al,rfl⟩⟩
   ·obtain⟨j,ad,al,ae⟩:=h;exact⟨_,ae,⟨j,ad,al,rfl⟩⟩
   ·exact h.elim
  ·exact h.elim
 case index t x i=>
  simp only[b5]at h |-;split at h;·obtain⟨j,ad,al,ae⟩:=h;exact⟨_,ae,⟨j,ad,al,rfl⟩⟩
  ·split at h
   ·rename_i n e cs fg k aw ab hi _ aB gF;cases a':Nat.beq (n*aB.size) cs.size with
    |false=>rw[a']at h;exact h.elim| true=>rw[a']at h;obtain⟨j,ad,al,ae⟩:=h;exact⟨_,ae,⟨j,ad,al,rfl⟩⟩
   ·exact h.elim
  ·exact h.elim
 case build t ps=>
  simp only[b5]at h |-;split at h
  ·split at h
   ·rename_i i vs aw hr _ cb lY;cases aO:zp X.E cb with
    |false=>rw[aO]at h;exact h.elim
    |true=>
     rw[aO]at h;simp only[bZ]at h |-;split at h;·exact⟨_,h,rfl⟩
     ·exact h.elim
   ·split at h
    ·split at h
     ·exact⟨_,h,rfl⟩
     ·exact h.elim
    ·exact h.elim
   ·exact h.elim
  ·exact h.elim
 case makeFunc fn first captured=>
  simp only[b5]at h |-;split at h;·exact⟨_,h,rfl⟩
  ·exact h.elim
 case slice t x lo hi mx=>
  simp only[b5]at h |-;split at h
  ·split at h
   ·exact⟨_,h,rfl⟩
   ·obtain⟨l,m,aa,ad,al,aL,ae⟩:=h;exact⟨_,ae,⟨l,m,aa,ad,al,aL,rfl⟩⟩
   ·obtain⟨l,m,aa,ad,al,aL,ae⟩:=h;exact⟨_,ae,⟨l,m,aa,ad,al,aL,rfl⟩⟩
   ·obtain⟨l,m,aa,ad,al,aL,ae⟩:=h;exact⟨_,ae,⟨l,m,aa,ad,al,aL,rfl⟩⟩
   ·exact h.elim
  ·split at h
   ·exact⟨_,h,rfl⟩
   ·obtain⟨l,m,aa,ad,al,aL,ae⟩:=h;exact⟨_,ae,⟨l,m,aa,ad,al,aL,rfl⟩⟩
   ·obtain⟨l,m,aa,ad,al,aL,ae⟩:=h;exact⟨_,ae,⟨l,m,aa,ad,al,aL,rfl⟩⟩
   ·obtain⟨l,m,aa,ad,al,aL,ae⟩:=h;exact⟨_,ae,⟨l,m,aa,ad,al,aL,rfl⟩⟩
   ·exact h.elim
  ·split at h
   ·obtain⟨l,m,aa,ad,al,aL,ae⟩:=h;exact⟨_,ae,⟨l,m,aa,ad,al,aL,rfl⟩⟩
   ·exact h.elim
  ·exact h.elim
 case extract x i=>
  simp only[b5]at h |-;split at h
  ·split at h
   ·exact⟨_,h,rfl⟩
   ·exact h.elim
  ·exact h.elim
 case convert s d x=>
  simp only[b5]at h |-;split at h;·obtain⟨r,af,ae⟩:=h;exact⟨_,ae,⟨r,af,rfl⟩⟩
  ·exact h.elim
 case call c=>
  obtain⟨callee,args,argTypes⟩:=c;cases callee with
  |value f=>exact h.elim| invoke r m=>exact h.elim
  |builtin b=>
   cases b
   case len=>
    simp only[b5]at h |-;split at h
    ·split at h
     ·exact⟨_,h,rfl⟩
     ·exact⟨_,h,rfl⟩
     ·exact⟨_,h,rfl⟩
     ·exact h.elim
    ·exact h.elim
   case cap=>
    simp only[b5]at h |-;split at h
    ·split at h
     ·exact⟨_,h,rfl⟩
     ·exact h.elim
    ·exact h.elim
   case max=>
    simp only[b5]at h |-;split at h;·exact⟨_,h,rfl⟩
    ·exact h.elim
   case min=>
    simp only[b5]at h |-;split at h;·exact⟨_,h,rfl⟩
    ·exact h.elim
   case unsafeSliceData=>
    simp only[b5]at h |-;split at h;·exact⟨_,h,rfl⟩
    ·obtain⟨aa,ad⟩:=h;exact⟨_,ad,⟨aa,rfl⟩⟩
    ·exact h.elim
   all_goals exact h.elim
 all_goals exact h.elim
end
def g8.mono{I:aM}{b:Nat}{o:Obj}(h:g8 I M b o)(bC:∀ b o,I b=some o->I' b=some o)(a3:∀ x∈M,x∈M'):g8 I' M' b o:=by
 rcases h with h | ⟨x,ab,aa,ad⟩
 ·exact .inl (bC _ _ h)
 ·exact .inr ⟨x,a3 x ab,aa,ad⟩
def g8.move{I:aM}{b:Nat}{o:Obj}(h:g8 I M b o)(bC:∀ b o,I b=some o->I' b=some o)(a3:∀ x∈M,I' x.num=some x.obj\/x∈M'):g8 I' M' b o:=by
 rcases h with h | ⟨x,ab,rfl,rfl⟩
 ·exact .inl (bC _ _ h)
 ·rcases a3 x ab with h | h
  ·exact .inl h
  ·exact .inr ⟨x,h,rfl,rfl⟩
def Pw(F:Fr)(op:Op)(C C':dp)(I I':aM)(M M':List aE):Prop:=(∀ t x y s off,op=.store t x y->cR F x=.ref s off->((∀ bP,bP≠s->C' bP=C bP)/\∀ b o,I b=some o->I' b=some o)/\∀ b o,g8 I M b o->g8 I' M' b o)/\(∀ t x y aV,op=.store t x y->cR F x=.val (.pointer (some aV))->C'=C/\∀ b o,I b=some o->I' b=some o)/\((∀ t x y,op≠.store t x y)->C'=C/\∀ b o,I b=some o->I' b=some o)
def YX(X:cB)(β:Nat->Nat)(G F:Fr)(C:dp)(I:aM)(M:List aE)(YY:Bool)(op:Op)(dst:Option Nat)(a:Act)(K:fD)(bF:Act)(w':World):Prop:=
 ∃ v x C' I' M',bF=a.put dst v/\eb β x v/\cg X β a w' G C' I' M'/\K (put dst x F) C' I' M'/\((YY=true/\Pw F op C C' I I' M M')\/(C'=C/\(∀ b o,I b=some o->I' b=some o)/\∀ b o,g8 I M b o->g8 I' M' b o))
def YZ{X:cB}{a:Act}{F G:Fr}{I:aM}{o:Oper}{K:fD}(aG:cw X.P X.E)
  (h:cg X β a w G C I M) (oR:∀ y∈o.op.operands,cR G y=cR F y) (ag:sY X false soft o F C I M K):o.wpIn (f' X) 0 X.P a w (YX X β G F C I M soft o.op o.dst a K) Q:=by
 obtain⟨dst,op,ty,pos,after,guard⟩:=o;have az:=h.ak;have mE:∀ {y:Operand} {v:Value},y∈op.operands->bt F y=.val v->a.eval y=v:=fun {y v} aD he=>cS az (by simp only[bt,cY,oR y aD];exact he);cases op
 case alloc t=>
  simp only[sY,b0]at ag;split at ag
  ·rename_i d i hi;obtain⟨z,a',uc⟩:=(aG _ _ hi).BD w;have zt:z.cells=i.zero.toArray:=by rw[<-uc]
   obtain⟨ag⟩:=ag;have ae:=ag w.heap.size h.holds.pH h.holds.oD;refine iE (by simp) (v:=.pointer (some ⟨w.heap.size,0,none⟩)) (w':=w.alloc (.cells i.zero.toArray t (0,0))) ?_ ⟨_,.val _,_,_,_,rfl,rfl,h.nb _,ae,.inr ⟨rfl,λ_ _ h=>h,λb o ah=>ah.mono (λ_ _ h=>h) (λx ab=>by simp[ab])⟩⟩;simp[execOp,Instr.alloc,newVar,newRow,a',zt,xu]
  ·exact ag.elim
 case store t x y=>
  simp only[sY,b0]at ag;cases soft with
  |false=>exact ag.elim
  |true=>
   simp only[bZ,fP]at ag;split at ag
   ·rename_i i v hi aD;have qy:=mE (by simp[Op.operands]) aD;split at ag
    ·rename_i s off ab;have i':=xz az ((oR x (by simp[Op.operands])).trans ab);split at ag
     ·rename_i cs ar;cases bg:(Nat.ble (off+i.size) cs.length&&(Nat.beq v.cells.size i.size&&fN v.cells.toList))with
      |false=>rw[bg]at ag;exact ag.elim
      |true=>
       rw[bg]at ag;simp only[b']at bg;obtain⟨bg,cx,pJ⟩:=bg;have pI:=bH bg;have xJ:=dr cx;obtain⟨T,bl⟩:=(h.bR s cs ar).ec;have:=E0 (aG _ _ hi) (a:=⟨β s,off,none⟩) (v:=v) rfl bl xJ (by simp;omega) pJ;refine zq (by simp) (w':=w.setRow (β s) (bQ cs off v.cells.toList).toArray) ?_ ⟨undef,.ll,_,_,_,rfl,trivial,h.OY ar (bQ cs off v.cells.toList),ag,.inl ⟨rfl,λbj jJ Px bP EY aA a0=>(by
        cases aA;rw[ab]at a0;cases a0;refine⟨⟨λs2 bs=>?_,λ_ _ h=>h⟩,λ_ _ h=>h⟩;unfold hX;rw[g0 bs];rfl),λbj jJ Px Py aA a0=>(by
        cases aA;rw[ab]at a0;cases a0),λl1=>absurd rfl (l1 _ _ _)⟩⟩
       simp only[execOp,Instr.storeAt,i',qy,Instr.sureAddr,bV,cH,bN];simp only[Iv]at this;rw[this];rfl
     ·exact ag.elim
    ·rename_i aV ab;have i':=rA az ((oR x (by simp[Op.operands])).trans ab);cases cx:Nat.beq v.cells.size i.size with
     |false=>rw[cx]at ag;exact ag.elim| true=>rw[cx]at ag;obtain⟨a5,post,cs,T,a3,cZ,ah,pJ,ae⟩:=ag;have xJ:=dr cx;have ax:w.heap[aV.block]?=some (.cells cs T (0,0)):=h.holds.m ⟨aV.block,.cells cs T (0,0)⟩ (by rw[a3];simp);have:=E0 (aG _ _ hi) (v:=v) cZ ax xJ ah pJ;refine zq (by simp) (w':=w.setRow aV.block (bQ cs.toList aV.off v.cells.toList).toArray) ?_ ⟨undef,.ll,_,_,_,rfl,trivial,h.vu a3,ae,.inl ⟨rfl,λbj jJ Px bP EY aA a0=>(by cases aA;rw[ab]at a0;cases a0),λ_ _ _ _ _ _=>⟨rfl,λ_ _ h=>h⟩,λl1=>absurd rfl (l1 _ _ _)⟩⟩;simp only[execOp,Instr.storeAt,i',qy,Instr.sureAddr,bV,cH,bN];rw[this];rfl
    ·exact ag.elim
   ·exact ag.elim
 case buildSlice t len parts=>
  simp only[sY,b0,fP]at ag;have Y0:xx G parts.toList=xx F parts.toList:=IV λy aD=>oR y (by simpa[Op.operands]using aD);rw[<-Y0]at ag;split at ag
  ·rename_i sz gS z e vs aw hr;have hu:=(aG _ _ aw).slice;have aO:=EW az hr;have vw:(parts.map λ(i,x)=>(i,a.eval x)).toList=vs:=by simpa using aO
   split at ag
   ·rename_i aB gF;cases a':(Nat.ble (len*aB.size) 16777216&&Nat.blt 0 (len*aB.size))with
    |false=>
     rw[a']at ag;simp only[b0]at ag;split at ag
     ·rename_i Yu;obtain⟨ag⟩:=ag;have ae:=ag w.heap.size h.holds.pH h.holds.oD;refine iE (by simp) (v:=.slice (some ⟨w.heap.size,0,none⟩) 0 0) (w':=w.alloc (.cells #[] e (0,0))) ?_ ⟨_,.val _,_,_,_,rfl,rfl,h.nb _,ae,.inr ⟨rfl,λ_ _ h=>h,λb o ah=>ah.mono (λ_ _ h=>h) (λx ab=>by simp[ab])⟩⟩;simp only[execOp,Instr.buildSlice,bV,bN,run_underlying hu,(aG _ _ gF).run_sizeOf,vw];have c1:∀ f:Nat->Value,Array.map f (Array.range 0)=#[]:=λf=>by apply Array.ext<;>simp
      simp[newRow,xu,Instr.fill,c1]
     ·exact ag.elim
    |true=>
     rw[a']at ag;simp only[bZ]at ag;rw[b']at a';have bg:=bH a'.1;have lp:0<len*aB.size:=by simpa using a'.2
     split at ag;·rename_i cells xD;obtain⟨qz,xK,uc⟩:=(aG _ _ gF).BD w;obtain⟨ag⟩:=ag;have ae:=ag w.heap.size h.holds.pH h.holds.oD;refine iE (by simp) (v:=.slice (some ⟨w.heap.size,0,none⟩) len len) (w':=w.alloc (.cells cells.toArray e (0,0))) ?_ ⟨_,.val _,_,_,_,rfl,rfl,h.nb _,ae,.inr ⟨rfl,λ_ _ h=>h,λb o ah=>ah.mono (λ_ _ h=>h) (λx ab=>by simp[ab])⟩⟩;have sS:=fill_eq _ _ _ _ xD;simp only[execOp,Instr.buildSlice,bV,bN,run_underlying hu,(aG _ _ gF).run_sizeOf];rw[ca (by omega)];simp only[ca (show ¬ len*aB.size=0 by omega),bV,xK,bN,cH,vw,O6 qz aB.zero uc,sS];simp[newRow,xu]
     ·exact ag.elim
   ·exact ag.elim
  ·exact ag.elim
 case makeSlice t l c=>
  simp only[sY,b0,fP]at ag;split at ag
  ·rename_i sz gS z e eC ed c5 c' aw av au;have hu:=(aG _ _ aw).slice;have jm:=mE (by simp[Op.operands]) av;have zE:=mE (by simp[Op.operands]) au;split at ag
   ·rename_i aB gF;obtain⟨n,m,rfl,rfl,nN,ah,hm,⟨ag⟩⟩:=ag;have ae:=ag w.heap.size h.holds.pH h.holds.oD;obtain⟨inf,qz,fq,h0,ik,kC,xL⟩:=(aG _ _ gF).inf;refine iE (by simp) (v:=.slice (some ⟨w.heap.size,0,none⟩) n m) (w':=w.alloc (.cells (rowOf aB.zero (m*aB.size)).toArray e (0,0))) ?_ ⟨_,.val _,_,_,_,rfl,rfl,h.nb _,ae,.inr ⟨rfl,λ_ _ h=>h,λb o ah=>ah.mono (λ_ _ h=>h) (λx ab=>by simp[ab])⟩⟩;have iG:((aB.bytes:Nat):Int)*(m:Int)<=281474976710656:=by
     have ad:((aB.bytes*m:Nat):Int)<=281474976710656:=by omega
     simpa using ad
    have:=run_make (P:=X.P) w t e inf qz hu fq kC eC c5 (n:Int) (m:Int) (by omega) (by omega) (by rw[ik];exact iG) (by omega);simp only[execOp,jm,zE,bV,this,bN,cH,kx];have aA:madeCells qz.cells (m*inf.size)=(rowOf aB.zero (m*aB.size)).toArray:=by rw[h0,<-xL];simp[qv]
    rw[aA]
   ·exact ag.elim
  ·exact ag.elim
 case call c=>
  obtain⟨callee,args,argTypes⟩:=c;cases callee with
  |value f=>
   simp only[sY,b0]at ag;split at ag
   ·rename_i g first cap vs vx hr
    have Y1:kO G args.toList=some vs:=by rw[<-hr];exact uh λy aD=>oR y (by simp only[Op.operands,Call.operands];simp;right;simpa using aD)
    have Y2:=mE (by simp[Op.operands,Call.operands]) vx;obtain⟨cT,dH,Mr,post,Y3,dg,ar,ae⟩:=ag.elim ⟨h.holds.d,h.holds.bX⟩;have aA:=qw az Y1;have dD:args.map a.eval=vs.toArray:=by apply fZ;simpa using aA
    have eT:∀ {n:Next} {w':World},(callFunc g (first.toList++vs++cap.toList).toArray).run X.P w=.ok n w'->(execOp a.eval ⟨dst,.call { callee:=.value f,args,argTypes },ty,pos,after,guard⟩).run X.P w=.ok n w':=λaf=>by simp only[execOp,resolve,Y2,Deferred.ofValue,bV,cH,bN,dD,invoke];rw[show first++vs.toArray++cap=(first.toList++vs++cap.toList).toArray from by apply fZ;simp];exact af
    have Pz:∀ {I':aM} {M':List aE},(∀ b o,I b=some o->I' b=some o)->(soft=true\/∀ x∈M,I' x.num=some x.obj\/x∈M')->(soft=true/\Pw F (.call { callee:=.value f,args,argTypes }) C C I I' M M')\/(C=C/\(∀ b o,I b=some o->I' b=some o)/\∀ b o,g8 I M b o->g8 I' M' b o):=λaa ad=>by
     rcases ad with ad | ad;·exact .inl ⟨ad,⟨λt x y s off e _=>(by cases e),λt x y aV e _=>(by cases e),λ_=>⟨rfl,aa⟩⟩⟩
     ·exact .inr ⟨rfl,aa,λb o ah=>ah.move aa ad⟩
    rcases h.call (KC:=λv I' M'=>(∀ b o,I b=some o->I' b=some o)/\(soft=true\/∀ x∈M,I' x.num=some x.obj\/x∈M')/\K (Go.V.put dst (.val v) F) C I' M') (.BB cT dH Mr post Y3 ar λv I' M' bg aj aO=>⟨λb o ah=>bg _ _ (dg _ _ ah),(ae v I' M' bg aj aO).1,(ae v I' M' bg aj aO).2⟩)with⟨nM,xM⟩ | ⟨v,w',I',M',af,⟨aa,ad,ae⟩,gw⟩;·refine O5 (by simp) (f:=g) (args:=(first.toList++vs++cap.toList).toArray) (eT (nM _ _)) ?_;refine xM.mono ?_;rintro e w'⟨v,I',M',rfl,⟨aa,ad,ae⟩,af⟩;exact⟨v,rfl,v,.val v,C,I',M',rfl,rfl,af,ae,Pz aa ad⟩
    ·exact iE (by simp) (eT af) ⟨v,.val v,C,I',M',rfl,rfl,gw,ae,Pz aa ad⟩
   ·exact ag.elim
  |invoke r m=>exact ag.elim
  |builtin b=>
   cases b
   case append=>
    simp only[sY,b0]at ag;cases soft with
    |false=>exact ag.elim| true=>simp only[bZ]at ag;obtain⟨ag⟩:=ag G oR;refine rs (λbF w'=>?_) (ag β a w Q h);rintro⟨v,x,I',M',aa,ad,al,aL,IX⟩;exact⟨v,x,C,I',M',aa,ad,al,aL,.inl ⟨rfl,⟨λt x y s off e _=>(by cases e),λt x y aV e _=>(by cases e),λ_=>⟨rfl,λb o h=>by rw[IX];exact h⟩⟩⟩⟩
   case copy=>
    simp only[sY,b0]at ag;cases soft with
    |false=>exact ag.elim| true=>simp only[bZ]at ag;obtain⟨ag⟩:=ag G oR;refine rs (λbF w'=>?_) (ag β a w Q h);rintro⟨v,x,I',M',aa,ad,al,aL,IX⟩;exact⟨v,x,C,I',M',aa,ad,al,aL,.inl ⟨rfl,⟨λt x y s off e _=>(by cases e),λt x y aV e _=>(by cases e),λ_=>⟨rfl,λb o h=>by rw[IX];exact h⟩⟩⟩⟩
   all_goals exact ag.elim
 all_goals exact ag.elim
def qF(x y:dd):Prop:=∀ β u,eb β x u->eb β y u
def qF.refl(x:dd):qF x x:=λ_ _ h=>h
def qF.trans{x y z:dd}(h:qF x y)(bq:qF y z):qF x z:=fun β u hu=>bq β u (h β u hu)
structure s3(ops:List Oper):Prop where
 lt:∀ j e,kS ops j e->e<j
 own:∀ (j:Nat) (o:Oper) (d:Nat),ops[j]?=some o->o.dst=some d->d ∉ looks ops o
 IY:∀ (i j:Nat) (fw kR:Oper) (d:Nat),i≠j->ops[i]?=some fw->ops[j]?=some kR->fw.dst=some d->kR.dst≠some d
 ord:∀ (i j:Nat) (fw kR:Oper) (d:Nat),i≠j->ops[i]?=some fw->ops[j]?=some kR->fw.dst=some d->d∈looks ops kR->nf ops i j\/nf ops j i
def PA(h:zD ops=true):s3 ops:=by
 have key:∀ (j:Nat) (kR:Oper),ops[j]?=some kR->_:=λj kR ai=>by have aW:j<ops.length:=(ih.1 ai).1;have aa:=fL.1 h j (kb.2 aW);simp only[ai,b']at aa;exact aa
 refine⟨?_,?_,?_,?_⟩
 ·rintro j e⟨o,lv,aC,oS,ah,rfl⟩;have aa:=fL.1 (key j o aC).1 lv (by simpa using oS);rw[ah]at aa;simpa using aa
 ·intro j o d aC aj;have aa:=(key j o aC).2.1;rw[aj]at aa;simpa using aa
 ·intro i j fw kR d bs hi ai aj eJ;have aW:i<ops.length:=(ih.1 hi).1;have aa:=fL.1 (key j kR ai).2.2 i (kb.2 aW);rw[g0 bs]at aa;simp only[hi,aj,rG,b']at aa;rw[eJ]at aa;simp at aa
 ·intro i j fw kR d bs hi ai aj av;have aW:i<ops.length:=(ih.1 hi).1;have aa:=fL.1 (key j kR ai).2.2 i (kb.2 aW);rw[g0 bs]at aa;simp only[hi,aj,rG,b',jP]at aa;rcases aa.2 with ad | ad | ad
  ·have:(looks ops kR).contains d=true:=by simpa using av
   rw[this]at ad;cases ad
  ·exact .inl (vJ ad)
  ·exact .inr (vJ ad)
def hK(ops:List Oper)(i:Nat):Option Nat:=(ops[i]?).bind (·.dst)
def jr(L:Nat->Prop)(p i:Nat):Prop:=p.testBit i=true/\¬ L i
def vK(ops:List Oper)(o:Oper)(F:Fr):Prop:=match o.guard with
 |none=>True| some (j,b)=>∃ d,hK ops j=some d/\F d=.lit b
def Fj(ops:List Oper)(o:Oper)(F:Fr):Prop:=∃ j b d,o.guard=some (j,b)/\hK ops j=some d/\(F d=.lit (!b)\/∃ vs,F d=.val (.tuple vs))
def IZ{o:Oper}{j d:Nat}{b:Bool}(ax:o.guard=some (j,b))(aj:hK ops j=some d):d∈looks ops o:=by unfold looks Oper.looksAt;refine nQ _ ?_;rw[ax];simp only[Option.mem_toList];simpa[hK]using aj
def I0{o:Oper}{t:Nat}(h:Operand.tmp t∈o.op.operands):t∈looks ops o:=
 h2 _ (List.mem_filterMap.2 ⟨.tmp t,by simpa using h,rfl⟩)
def PB{o:Oper}{F:Fr}{a:Act}(h:vK ops o F)(bf:∀ t∈looks ops o,eb β (F t) (a.tmps.getD t undef)):Region.wanted o (yielded ops.toArray a.tmps)=true:=by
 unfold vK at h;unfold Region.wanted;cases ax:o.guard with
 |none=>rfl| some BH=>obtain⟨j,b⟩:=BH;rw[ax]at h;obtain⟨d,aj,av⟩:=h;have aa:=bf d (IZ ax aj);rw[av]at aa;have aD:=BG (ops:=ops.toArray) (j:=j) (d:=d) (by simpa[hK]using aj) a.tmps;simp[aD,zw aa]
def PC{o:Oper}{F:Fr}{a:Act}(h:Fj ops o F)(bf:∀ t∈looks ops o,eb β (F t) (a.tmps.getD t undef)):Region.wanted o (yielded ops.toArray a.tmps)=false:=by
 obtain⟨j,b,d,ax,aj,av⟩:=h;unfold Region.wanted;have aa:=bf d (IZ ax aj);have aD:=BG (ops:=ops.toArray) (j:=j) (d:=d) (by simpa[hK]using aj) a.tmps;rw[ax];rcases av with av | ⟨vs,av⟩
 ·rw[av]at aa;simp[aD,zw aa]
 ·rw[av]at aa;have xN:yielded ops.toArray a.tmps j=none:=by
   rw[aD];cases jn:a.tmps[d]? with
   |none=>rfl| some v=>simp only[eb,m9,jn,jG]at aa;subst aa;rfl
  simp[xN]
def PD{o:Oper}{F:Fr}{run skip:Fr->Prop}(h:Fh ops o F run skip):∃ kf,(∀ t,qF (F t) (kf t))/\((vK ops o kf/\run kf)\/(Fj ops o kf/\skip kf)):=by
 unfold Fh at h;cases ax:o.guard with
 |none=>rw[ax]at h;exact⟨F,λt=>.refl _,.inl ⟨by simp[vK,ax],h⟩⟩
 |some BH=>
  obtain⟨j,b⟩:=BH;rw[ax]at h;simp only at h;split at h;·exact h.elim
  ·rename_i d aj;have eJ:hK ops j=some d:=aj;split at h
   ·rename_i c au;refine⟨F,λt=>.refl _,?_⟩;cases il:(c == b)with
    |true=>
     rw[il]at h;have il:c=b:=by simpa using il
     subst il;exact .inl ⟨by simp only[vK,ax];exact⟨d,eJ,au⟩,h⟩
    |false=>
     rw[il]at h;have Fk:c=!b:=by cases c<;>cases b<;>simp_all
     subst Fk;exact .inr ⟨⟨j,b,d,ax,eJ,.inl au⟩,h⟩
   ·rename_i c au;obtain⟨aa,ad⟩:=h;have g2:∀ x,c=x->∀ t,qF (F t) (fM F d (.lit x) t):=λx ab t=>by
     unfold fM;by_cases e:t=d;·subst e;subst ab;simp only[oC,bZ,au];exact λ_ _ h=>h
     ·simp only[g0 e,b0];exact .refl _
    have self:∀ x,fM F d (.lit x) d=.lit x:=λx=>by simp[fM]
    by_cases il:c=b;·exact⟨_,g2 b il,.inl ⟨by simp only[vK,ax];exact⟨d,eJ,self b⟩,aa il⟩⟩
    ·have Fk:c=!b:=by cases c<;>cases b<;>simp_all
     exact⟨_,g2 _ Fk,.inr ⟨⟨j,b,d,ax,eJ,.inl (self _)⟩,ad Fk⟩⟩
   ·rename_i vs au;exact⟨F,λt=>.refl _,.inr ⟨⟨j,b,d,ax,eJ,.inr ⟨vs,au⟩⟩,h⟩⟩
   ·exact h.elim
structure Y4(X:cB)(ops:List Oper)(im':Nat->Bool)(L:Nat->Prop)(p:Nat)(bR:List (Nat×Nat))(β:Nat->Nat)(a:Act)(F:Fr)(C:dp)(I:aM)(M:List aE)(gG:Nat->dd)(fE:Nat->Fr)(q:Nat)(o:Oper):Prop where
 quiet:zC o.op=true
 g2:∀ d,o.dst=some d->qF (gG q) (F d)
 b:∀ t∈looks ops o,∀ i,jr L p i->nf ops i q->hK ops i=some t->qF (gG i) (fE q t)
 a:∀ t∈looks ops o,(∀ i,jr L p i->nf ops i q->hK ops i≠some t)->eb β (fE q t) (a.tmps.getD t undef)
 r:(vK ops o (fE q)/\b5 X o.op (cR (fE q)) C I (sZ (im' q) M) (λx=>x=gG q) False/\∀ t x,o.op=.load t x->(q,Fi (cR (fE q) x))∈bR)\/(Fj ops o (fE q)/\gG q=.val undef)
structure Inv(X:cB)(ops:List Oper)(im':Nat->Bool)(L:Nat->Prop)(β:Nat->Nat)(a:Act)(w:World)(F:Fr)(C:dp)(I:aM)(M:List aE)(p:Nat)(bR:List (Nat×Nat))(gG:Nat->dd)(fE:Nat->Fr):Prop where
 rel:cg X β a w (λ_=>.ll) C I M
 sub:∀ i,L i->p.testBit i=true
 s4:xX ops L
 oT:xX ops (λi=>p.testBit i=true)
 T:∀ t,(∀ i,jr L p i->hK ops i≠some t)->eb β (F t) (a.tmps.getD t undef)
 vL:∀ q,jr L p q->∃ o,ops[q]?=some o/\Y4 X ops im' L p bR β a F C I M gG fE q o
def kT{p q i:Nat}:(p ||| 2^q).testBit i=true ↔ p.testBit i=true\/i=q:=by simp only[Fe,jP,Fb,hk];exact⟨λh=>h.imp id Eq.symm,λh=>h.imp id Eq.symm⟩
section
variable{X:cB}{ops:List Oper}{im':Nat->Bool}{L:Nat->Prop}{β:Nat->Nat}{a:Act}{w:World}{F:Fr}{C:dp}{I:aM}{M:List aE}{p:Nat}{bR:List (Nat×Nat)}{gG:Nat->dd}{fE:Nat->Fr}{q:Nat}{o:Oper}
def B4(h:ops[q]?=some o):hK ops q=o.dst:=by simp[hK,h]
def B5{i d:Nat}(h:hK ops i=some d):∃ fw,ops[i]?=some fw/\fw.dst=some d:=by unfold hK at h;exact IT.1 h
def Inv.ahead(c3:s3 ops)(PE:xX ops (λi=>p.testBit i=true))(aK:ops[q]?=some o)(jR:p.testBit q=false){i t:Nat}(hi:p.testBit i=true)(aw:t∈looks ops o)(aj:hK ops i=some t):nf ops i q:=by
 obtain⟨fw,hb,nW⟩:=B5 aj;have bs:i≠q:=λe=>by rw[e,jR]at hi;cases hi
 rcases c3.ord i q fw o t bs hb aK nW aw with h | h
 ·exact h
 ·have:=h.mem PE (λe he=>PE i e hi he);rw[jR]at this;cases this
def Inv.Y5(c3:s3 ops)(h:Inv X ops im' L β a w F C I M p bR gG fE)(aK:ops[q]?=some o)(jR:p.testBit q=false)(bB:∀ e,kS ops q e->L e):∀ t∈looks ops o,eb β (F t) (a.tmps.getD t undef):=λt aw=>h.T t λi hi aj=>
 hi.2 ((Inv.ahead c3 h.oT aK jR hi.1 aw aj).mem h.s4 bB)
def Fl{x:dd}{t:Nat}(h:dst≠some t):put dst x F t=F t:=by
 cases dst with
 |none=>rfl| some d=>have:t≠d:=λe=>h (by rw[e]);simp only[put,fM,g0 this,b0]
def put_eq{x:dd}{t:Nat}:put (some t) x F t=x:=by simp[put,fM]
def Fm{t:Nat}(h:dst≠some t):(a.put dst v).tmps.getD t undef=a.tmps.getD t undef:=by
 cases dst with
 |none=>rfl| some d=>have:d≠t:=λe=>h (by rw[e]);simp only[Act.put,m9,zk,ca this]
def I1{t:Nat}(h:t<a.tmps.size):(a.put (some t) v).tmps.getD t undef=v:=by rw[OU a t t v h,ck rfl]
def Inv.record(c3:s3 ops)(h:Inv X ops im' L β a w F C I M p bR gG fE)(aK:ops[q]?=some o)(jR:p.testBit q=false)(vI:∀ e,kS ops q e->p.testBit e=true)(Fo:zC o.op=true)
 (qG:∀ t,qF (F t) (kf t)) {x:dd} {I2:List (Nat×Nat)} (rD:∀ s∈bR,s∈I2) (af:(vK ops o kf/\b5 X o.op (cR kf) C I (sZ (im' q) M) (λy=>y=x) False/\∀ t y,o.op=.load t y->(q,Fi (cR kf y))∈I2)\/(Fj ops o kf/\x=.val undef)) :
  Inv X ops im' L β a w (put o.dst x kf) C I M (p ||| 2^q) I2 (λi=>if i=q then x else gG i) (λi=>if i=q then kf else fE i):=by
 have oU:¬ L q:=λe=>by have:=h.sub q e;rw[jR]at this;cases this
 have nX:∀ {i},jr L (p ||| 2^q) i->i≠q->jr L p i:=λhi bs=>⟨(kT.1 hi.1).resolve_right bs,hi.2⟩;have ui:∀ {i},jr L p i->jr L (p ||| 2^q) i:=λhi=>⟨kT.2 (.inl hi.1),hi.2⟩;have Y6:jr L (p ||| 2^q) q:=⟨kT.2 (.inr rfl),oU⟩;have Y7:∀ {i},jr L p i->¬ nf ops q i:=fun {i} hi ah=>by have:=ah.mem h.oT (λe he=>h.oT i e hi.1 he);rw[jR]at this;cases this
 refine⟨h.rel,λi hi=>kT.2 (.inl (h.sub i hi)),h.s4,?_,?_,?_⟩
 ·intro j e ai he;rcases kT.1 ai with ai | rfl
  ·exact kT.2 (.inl (h.oT j e ai he))
  ·exact kT.2 (.inl (vI e he))
 ·intro t aw;have aa:o.dst≠some t:=λe=>aw q Y6 (by rw[B4 aK,e]);rw[Fl aa];exact qG t _ _ (h.T t λi hi=>aw i (ui hi))
 ·intro i hi;by_cases ng:i=q
  ·subst ng;refine⟨o,aK,⟨Fo,?_,?_,?_,?_⟩⟩
   ·intro d aj;rw[aj,put_eq];simp only[ck];exact .refl _
   ·intro t aw j ai ah s5;have Fp:j≠i:=λe=>by subst e;have:=ah.mem h.oT vI;rw[jR]at this;cases this
    simp only[ca Fp,ck];obtain⟨kR,Y8,nh⟩:=h.vL j (nX ai Fp);exact(nh.g2 t (by rw[<-B4 Y8];exact s5)).trans (qG t)
   ·intro t aw dR;simp only[ck];refine qG t _ _ (h.T t λj ai s5=>dR j (ui ai) (Inv.ahead c3 h.oT aK jR ai.1 aw s5) s5)
   ·simpa using af
  ·obtain⟨fw,hb,nh⟩:=h.vL i (nX hi ng);refine⟨fw,hb,⟨nh.quiet,?_,?_,?_,?_⟩⟩
   ·intro d aj;simp only[ca ng];rw[Fl (c3.IY i q fw o d ng hb aK aj)];exact(nh.g2 d aj).trans (qG d)
   ·intro t aw j ai ah s5;have B6:j≠q:=λe=>by subst e;exact Y7 (nX hi ng) ah
    simp only[ca ng,ca B6];exact nh.b t aw j (nX ai B6) ah s5
   ·intro t aw dR;simp only[ca ng];exact nh.a t aw λj ai=>dR j (ui ai)
   ·simp only[ca ng];exact nh.r.imp (λ⟨aa,ad,al⟩=>⟨aa,ad,λt x aA=>rD _ (al t x aA)⟩) id
def Inv.exec{vE:Act->World->Prop}(aG:cw X.P X.E)(c3:s3 ops)(g':∀ d,o.dst=some d->d<X.n)(h:Inv X ops im' L β a w F C I M p bR gG fE)(aK:ops[q]?=some o)(aO:jr L p q)(bB:∀ e,kS ops q e->L e)
  (eB:∀ bF,Inv X ops im' (λi=>L i\/i=q) β bF w F C I M p bR gG fE->vE bF w):wpOpIn (f' X) 0 X.P ops.toArray Q q vE a w:=by
 obtain⟨o',oV,nh⟩:=h.vL q aO;rw[aK]at oV;cases oV;have zF:∀ {i},nf ops i q->¬ jr L p i:=λah hi=>hi.2 (ah.mem h.s4 bB);have dk:∀ t∈looks ops o,eb β (fE q t) (a.tmps.getD t undef):=λt aw=>nh.a t aw λi hi ah=>(zF ah hi).elim;have after:∀ v,eb β (gG q) v->Inv X ops im' (λi=>L i\/i=q) β (a.put o.dst v) w F C I M p bR gG fE:=λv ag=>by
  have nX:∀ {i},jr (λi=>L i\/i=q) p i->jr L p i/\i≠q:=λhi=>⟨⟨hi.1,λe=>hi.2 (.inl e)⟩,λe=>hi.2 (.inr e)⟩;have ui:∀ {i},jr L p i->i≠q->jr (λi=>L i\/i=q) p i:=λhi bs=>⟨hi.1,λe=>e.elim hi.2 bs⟩;refine⟨h.rel.put g' (x:=.ll) trivial |> λh=>h.refine λ_=>trivial,?_,?_,h.oT,?_,?_⟩
  ·rintro i (hi | rfl)
   ·exact h.sub i hi
   ·exact aO.1
  ·rintro j e (ai | rfl) he
   ·exact .inl (h.s4 j e ai he)
   ·exact .inl (bB e he)
  ·intro t aw;by_cases aj:o.dst=some t
   ·have aW:t<a.tmps.size:=by rw[h.rel.size];exact g' t aj
    rw[aj,I1 aW];exact nh.g2 t aj _ _ ag
   ·rw[Fm aj];refine h.T t λi hi nW=>?_;by_cases ng:i=q
    ·subst ng;rw[B4 aK]at nW;exact aj nW
    ·exact aw i (ui hi ng) nW
  ·intro i hi;obtain⟨ct,ng⟩:=nX hi;obtain⟨fw,hb,qH⟩:=h.vL i ct;refine⟨fw,hb,⟨qH.quiet,qH.g2,λt aw j ai=>qH.b t aw j (nX ai).1,?_,qH.r⟩⟩;intro t aw dR;by_cases aj:o.dst=some t
   ·have aW:t<a.tmps.size:=by rw[h.rel.size];exact g' t aj
    rw[aj,I1 aW];have ah:nf ops q i:=by
     rcases c3.ord q i o fw t (pE ng) aK hb aj aw with ah | ah;·exact ah
     ·exact(zF ah ct).elim
    exact qH.b t aw q aO ah (by rw[B4 aK,aj]) _ _ ag
   ·rw[Fm aj];refine qH.a t aw λj ai ah s5=>?_;by_cases B6:j=q
    ·subst B6;rw[B4 aK]at s5;exact aj s5
    ·exact dR j (ui ai B6) ah s5
 have B7:ops.toArray[q]?=some o:=by simpa using aK
 unfold wpOpIn;simp only[B7];rcases nh.r with⟨eT,PF,-⟩ | ⟨B8,ab⟩
 ·rw[PB eT dk,ck rfl];let G:Fr:=λt=>if t∈looks ops o then fE q t else .ll
  have oR:∀ t,eb β (G t) (a.tmps.getD t undef):=λt=>by
   by_cases aw:t∈looks ops o;·simp only[G,ck aw];exact dk t aw
   ·simp only[G,ca aw];trivial
  have I3:∀ y∈o.op.operands,cR G y=cR (fE q) y:=λy aD=>by
   cases y with
   |tmp t=>simp only[cR,G,ck (I0 aD)]| const v=>cases v<;>rfl
   |global g=>rfl| func f=>rfl
  have Y9:=Pv PF I3 (C':=C) (I':=I) (M':=M) λ_ _ _=>⟨λ_ _ _=>rfl,λ_ _ _ h=>YQ h⟩;obtain⟨dst,op,ty,pos,Y',guard⟩:=o;have bJ:∀ c,op≠.defer c:=λc e=>by have:=nh.quiet;rw[e]at this;cases this
  rcases O' aG (h.rel.refine oR) op ty dst pos Y' guard Y9 with aa | ⟨v,x,kE,ab,rfl⟩;·exact aa.elim
  ·exact iE bJ kE (eB _ (after v ab))
 ·rw[PC B8 dk];simp only[jF,ky];exact⟨λ_ _=>trivial,eB _ (after undef (by rw[ab];rfl))⟩
end
section
variable{X:cB}{ops:List Oper}{im':Nat->Bool}{L:Nat->Prop}{β:Nat->Nat}{a:Act}{w:World}{F:Fr}{C:dp}{I:aM}{M:List aE}{p:Nat}{bR:List (Nat×Nat)}{gG:Nat->dd}{fE:Nat->Fr}{q:Nat}{o:Oper}
def Inv.refine(h:Inv X ops im' L β a w F C I M p bR gG fE)(qG:∀ t,qF (F t) (kf t)):Inv X ops im' L β a w kf C I M p bR gG fE:=
 ⟨h.rel,h.sub,h.s4,h.oT,λt aw=>qG t _ _ (h.T t aw),λi hi=>by
  obtain⟨fw,hb,aO⟩:=h.vL i hi;exact⟨fw,hb,⟨aO.quiet,λd aj=>(aO.g2 d aj).trans (qG d),aO.b,aO.a,aO.r⟩⟩⟩
def Inv.step(c3:s3 ops)(g':∀ d,o.dst=some d->d<X.n)(h:Inv X ops im' L β a w F C I M p bR gG fE)(aK:ops[q]?=some o)(jR:p.testBit q=false)(bB:∀ e,kS ops q e->L e)
 {x:dd} {C':dp} (ab:eb β x v) (af:cg X β a w' (λ_=>.ll) C' I' M')
  (hm:∀ i fw fa,jr L p i->ops[i]?=some fw->nT fw.op=true->(i,fa)∈bR->(∀ s,fa=s+1->C' s=C s)/\(fa=0->∀ b o,g8 I (sZ (im' i) M) b o->g8 I' (sZ (im' i) M') b o)) :
  Inv X ops im' (λi=>L i\/i=q) β (a.put o.dst v) w' (put o.dst x F) C' I' M' (p ||| 2^q) bR gG fE:=by
 have nX:∀ {i},jr (λi=>L i\/i=q) (p ||| 2^q) i->jr L p i:=λhi=>⟨(kT.1 hi.1).resolve_right (λe=>hi.2 (.inr e)),λe=>hi.2 (.inl e)⟩;have ui:∀ {i},jr L p i->jr (λi=>L i\/i=q) (p ||| 2^q) i:=fun {i} hi=>⟨kT.2 (.inl hi.1),λe=>e.elim hi.2 (λe=>by
  subst e;have:=hi.1;rw[jR]at this;cases this)⟩
 refine⟨af.put g' (x:=.ll) trivial |> λh=>h.refine λ_=>trivial,?_,?_,?_,?_,?_⟩
 ·rintro i (hi | rfl)
  ·exact kT.2 (.inl (h.sub i hi))
  ·exact kT.2 (.inr rfl)
 ·rintro j e (ai | rfl) he
  ·exact .inl (h.s4 j e ai he)
  ·exact .inl (bB e he)
 ·intro j e ai he;rcases kT.1 ai with ai | rfl
  ·exact kT.2 (.inl (h.oT j e ai he))
  ·exact kT.2 (.inl (h.sub e (bB e he)))
 ·intro t aw;by_cases aj:o.dst=some t
  ·have aW:t<a.tmps.size:=by rw[h.rel.size];exact g' t aj
   rw[aj,I1 aW,put_eq];exact ab
  ·rw[Fm aj,Fl aj];exact h.T t λi hi=>aw i (ui hi)
 ·intro i hi;have ct:=nX hi;obtain⟨fw,hb,qH⟩:=h.vL i ct;have ng:i≠q:=λe=>by subst e;have:=ct.1;rw[jR]at this;cases this
  refine⟨fw,hb,⟨qH.quiet,?_,λt aw j ai=>qH.b t aw j (nX ai),?_,?_⟩⟩;·intro d aj;rw[Fl (c3.IY i q fw o d ng hb aK aj)];exact qH.g2 d aj
  ·intro t aw dR;have aj:o.dst≠some t:=λaj=>by
    rcases c3.ord q i o fw t (pE ng) aK hb aj aw with ah | ah;·have:=ah.mem h.oT (λe he=>h.oT i e ct.1 he);rw[jR]at this;cases this
    ·exact ct.2 (ah.mem h.s4 bB)
   rw[Fm aj];exact qH.a t aw λj ai=>dR j (ui ai)
  ·refine qH.r.imp (λ⟨aa,ad,al⟩=>⟨aa,Pv ad (λ_ _=>rfl) λt x av=>?_,al⟩) id;have aL:=al t x av;have bG:=hm i fw _ ct hb (by rw[av];rfl) aL;refine⟨λs off e=>?_,λbs=>bG.2 ?_⟩
   ·exact bG.1 s (by rw[e];rfl)
   ·generalize cR (fE i) x=Za at bs;cases Za with
    |ref s off=>exact(bs s off rfl).elim| _=>rfl
def xY(X:cB)(ops:List Oper)(im':Nat->Bool)(K:fD)(L:Nat->Prop)(a:Act)(w:World):Prop:=
 ∃ β F C I M p bR gG fE n,Inv X ops im' L β a w F C I M p bR gG fE/\nV X ops im' n p bR F C I M K
def B9{k:Bool}{i:Nat}:i∈nU ops p k ↔ ∃ o,ops[i]?=some o/\p.testBit i=false/\zC o.op=k/\(∀ e,kS ops i e->p.testBit e=true):=by
 unfold nU;rw[nR,kb];have B':∀ {o},ops[i]?=some o->(B1 o p=true ↔ ∀ e,kS ops i e->p.testBit e=true):=fun {o} aC=>by
  unfold B1;rw[fL];constructor;·rintro h e⟨o',lv,oV,oS,ah,rfl⟩;rw[aC]at oV;cases oV;have:=h lv (by simpa using oS);rw[ah]at this;simpa using this
  ·intro h lv oS;cases ah:Region.binds .any lv with
   |false=>simp| true=>simp[h lv.on ⟨o,lv,aC,by simpa using oS,ah,rfl⟩]
 constructor
 ·rintro⟨aW,h⟩;cases aC:ops[i]? with
  |none=>rw[aC]at h;cases h| some o=>rw[aC]at h;simp only[b',qC,beq_iff_eq]at h;exact⟨o,rfl,h.1,h.2.1,(B' aC).1 h.2.2⟩
 ·rintro⟨o,aC,aa,ad,al⟩;refine⟨(ih.1 aC).1,?_⟩;rw[aC];simp only[aa,ad,(B' aC).2 al,Bool.not_false,BZ,Bool.and_self]
def PG{P:Nat->Prop}:∀ {l:List Nat},IU P l->∀ i∈l,P i
 |[],_,i,hi=>by cases hi
 |[j],h,i,hi=>by rw[eK]at hi;subst hi;exact h
 |j::k::l,h,i,hi=>by
  rcases dW.1 hi with rfl | hi;·exact h.1
  ·exact PG (l:=k::l) h.2 i hi
def Zb(i:Nat)(op:Op)(ρ:Operand->dd)(bR:List (Nat×Nat)):∀ s∈bR,s∈B3 i op ρ bR:=λs ar=>by
 unfold B3;split
 ·exact .tail _ ar
 ·exact ar
def Zc{i:Nat}{bR:List (Nat×Nat)}:∀ t x,op=.load t x->(i,Fi (ρ x))∈B3 i op ρ bR:=λt x aA=>by subst aA;unfold B3;exact .head _
def xY.advance(c3:s3 ops){K:fD}:∀ (n:Nat) {p bR F gG fE},Inv X ops im' L β a w F C I M p bR gG fE->nV X ops im' n p bR F C I M K -> ∃ p bR F gG fE n,Inv X ops im' L β a w F C I M p bR gG fE/\nU ops p true=[]/\nV X ops im' (n+1) p bR F C I M K
 |0,_,_,_,_,_,_,ag=>ag.elim
 |n+1,p,bR,F,gG,fE,bC,ag=>by
  cases af:nU ops p true with
  |nil=>exact⟨p,bR,F,gG,fE,n,bC,af,ag⟩
  |cons q l=>
   have gE:q∈nU ops p true:=by rw[af];simp
   obtain⟨o,aK,jR,Fo,vI⟩:=B9.1 gE;have jK:=ag;unfold nV at jK;rw[af]at jK;simp only[aK]at jK;obtain⟨kf,qG,⟨eT,aa⟩ | ⟨B8,aa⟩⟩:=PD jK;·obtain⟨x,ad,al⟩:=YW (YS aa);exact xY.advance c3 n (bC.record c3 aK jR vI Fo qG (Zb _ _ _ _) (.inl ⟨eT,al,Zc⟩)) ad
   ·exact xY.advance c3 n (bC.record c3 aK jR vI Fo qG (λ_ h=>h) (.inr ⟨B8,rfl⟩)) aa
def mem_ready{i:Nat}(cx:cU.size=ops.length):i∈Region.ready .any ops.toArray cU ↔ ∃ o,ops[i]?=some o/\¬ cU.getD i false=true/\∀ e,kS ops i e->cU.getD e false=true:=by
 unfold Region.ready;rw[nR,kb];simp only[rE,xR,b',qC];have B':∀ {o},ops[i]?=some o->((o.after.all λe=>!Region.binds .any e||cU.getD e.on false)=true ↔ ∀ e,kS ops i e->cU.getD e false=true):=fun {o} aC=>by
  rw[Array.all_eq_true_iff_forall_mem];constructor;·rintro h e⟨o',lv,oV,oS,ah,rfl⟩;rw[aC]at oV;cases oV;have:=h lv oS;rw[ah]at this;simpa using this
  ·intro h lv oS;cases ah:Region.binds .any lv with
   |false=>simp| true=>simp[h lv.on ⟨o,lv,aC,oS,ah,rfl⟩]
 have PH:i<ops.length->(cU.getD i true=false ↔ ¬ cU.getD i false=true):=λhi=>by
  have:i<cU.size:=by omega
  simp[Array.getD,this]
 constructor
 ·rintro⟨aW,aa,ad⟩;cases aC:ops[i]? with
  |none=>rw[aC]at ad;cases ad| some o=>rw[aC]at ad;exact⟨o,rfl,(PH aW).1 aa,(B' aC).1 ad⟩
 ·rintro⟨o,aC,aa,ad⟩;have aW:=(ih.1 aC).1;refine⟨aW,(PH aW).2 aa,?_⟩;rw[aC];exact(B' aC).2 ad
def PI{i:Nat}(hi:i<cU.size):(λj=>(cU.setIfInBounds i true).getD j false=true)=λj=>cU.getD j false=true\/j=i:=by
 funext j;simp only[m9,zk,eq_iff_iff];by_cases e:i=j
 ·subst e;simp[hi]
 ·simp only[ca e];constructor
  ·exact .inl
  ·rintro(h | h)
   ·exact h
   ·exact(e h.symm).elim
def todo(ops:List Oper)(cU:Array Bool):Nat:=((List.range ops.length).filter λi=>!cU.getD i false).length
def Fq{i:Nat}(hi:i<ops.length)(cx:cU.size=ops.length)(aJ:¬ cU.getD i false=true):todo ops (cU.setIfInBounds i true)<todo ops cU:=by
 unfold todo;have key:∀ l:List Nat,l.Nodup->i∈l->((l.filter λj=>!(cU.setIfInBounds i true).getD j false).length<(l.filter λj=>!cU.getD j false).length):=by
  have same:∀ j,j≠i->(cU.setIfInBounds i true).getD j false=cU.getD j false:=λj ai=>by simp only[m9,zk,ca (pE ai)]
  have self:(cU.setIfInBounds i true).getD i false=true:=by
   have:i<cU.size:=by omega
   simp[m9,zk,this]
  have PJ:cU.getD i false=false:=by simpa using aJ
  intro l
  induction l with
  |nil=>intro _ h;cases h
  |cons j l aR=>
   intro bJ hm;rw[kN]at bJ;by_cases e:j=i
   ·subst e;have:l.filter (λk=>!(cU.setIfInBounds j true).getD k false)=l.filter (λk=>!cU.getD k false):=
     BY λk ae=>by rw[same k (λe=>bJ.1 (e ▸ ae))]
    simp only[xT,self,PJ,this];simp
   ·have nY:i∈l:=by
     rcases dW.1 hm with h | h;·exact(e h.symm).elim
     ·exact h
    have:=aR bJ.2 nY;simp only[xT,same j e];split;·simp only[ea];omega
    ·exact this
 exact key _ B0 (kb.2 hi)
def Zd(aG:cw X.P X.E)(c3:s3 ops)(g':∀ o∈ops,∀ d,o.dst=some d->d<X.n){K:fD}(oH:∀ a w,Sat X K a w->Q .normal a w):∀ (eg:Nat) (cU:Array Bool) (a:Act) (w:World),
  cU.size=ops.length->todo ops cU<=eg->xY X ops im' K (λi=>cU.getD i false=true) a w->wpAnyIn (f' X) 0 X.P .any ops.toArray Q eg cU a w:=by
 intro eg
 induction eg with
 |zero=>
  rintro cU a w cx az⟨β,F,C,I,M,p,bR,gG,fE,n,bC,ag⟩;have lx:Region.ready .any ops.toArray cU=[]:=by
   cases af:Region.ready .any ops.toArray cU with
   |nil=>rfl| cons i l=>obtain⟨o,aC,aJ,_⟩:=(mem_ready cx).1 (by rw[af];simp:i∈Region.ready .any ops.toArray cU);have:=Fq (ih.1 aC).1 cx aJ;omega
  refine⟨lx,?_⟩;obtain⟨p,bR,F,gG,fE,n,bC,gH,ag⟩:=xY.advance c3 n bC ag;have Ca:∀ i,p.testBit i=true->cU.getD i false=true:=λi=>by
   induction i using Nat.strongRecOn with
   |ind i aR=>intro aO;refine BV λaJ=>?_;obtain⟨o,aC,_⟩:=bC.vL i ⟨aO,aJ⟩;have:i∈Region.ready .any ops.toArray cU:=(mem_ready cx).2 ⟨o,aC,aJ,λe he=>aR e (c3.lt i e he) (bC.oT i e aO he)⟩;rw[lx]at this;cases this
  have nZ:nU ops p false=[]:=by
   cases af:nU ops p false with
   |nil=>rfl| cons i l=>obtain⟨o,aC,aO,_,aj⟩:=B9.1 (by rw[af];simp:i∈nU ops p false);have:i∈Region.ready .any ops.toArray cU:=(mem_ready cx).2 ⟨o,aC,λcK=>(by have eM:=bC.sub i cK;rw[aO]at eM;exact Bool.noConfusion eM),λe he=>Ca e (aj e he)⟩;rw[lx]at this;cases this
  unfold nV at ag;rw[gH,nZ]at ag;exact oH _ _ ⟨F,C,I,M,⟨β,bC.rel.refine λt=>bC.T t λi hi=>(hi.2 (Ca i hi.1)).elim⟩,ag⟩
 |succ eg aR=>
  rintro cU a w cx az⟨β,F,C,I,M,p,bR,gG,fE,n,bC,ag⟩;obtain⟨p,bR,F,gG,fE,n,bC,gH,ag⟩:=xY.advance c3 n bC ag;refine⟨λlx=>?_,λq aK=>?_⟩
  ·have Ca:∀ i,p.testBit i=true->cU.getD i false=true:=λi=>by
    induction i using Nat.strongRecOn with
    |ind i aR=>intro aO;refine BV λaJ=>?_;obtain⟨o,aC,_⟩:=bC.vL i ⟨aO,aJ⟩;have:i∈Region.ready .any ops.toArray cU:=(mem_ready cx).2 ⟨o,aC,aJ,λe he=>aR e (c3.lt i e he) (bC.oT i e aO he)⟩;rw[lx]at this;cases this
   have nZ:nU ops p false=[]:=by
    cases af:nU ops p false with
    |nil=>rfl| cons i l=>obtain⟨o,aC,aO,_,aj⟩:=B9.1 (by rw[af];simp:i∈nU ops p false);have:i∈Region.ready .any ops.toArray cU:=(mem_ready cx).2 ⟨o,aC,λcK=>(by have eM:=bC.sub i cK;rw[aO]at eM;exact Bool.noConfusion eM),λe he=>Ca e (aj e he)⟩;rw[lx]at this;cases this
   unfold nV at ag;rw[gH,nZ]at ag;exact oH _ _ ⟨F,C,I,M,⟨β,bC.rel.refine λt=>bC.T t λi hi=>(hi.2 (Ca i hi.1)).elim⟩,ag⟩
  ·obtain⟨o,aC,aJ,aj⟩:=(mem_ready cx).1 aK;have aW:=(ih.1 aC).1;have rJ:=g' o (vF aC);have fR:=PI (cU:=cU) (i:=q) (by omega);have next:∀ bF w',xY X ops im' K (λi=>cU.getD i false=true\/i=q) bF w'->wpAnyIn (f' X) 0 X.P .any ops.toArray Q eg (cU.setIfInBounds q true) bF w':=λbF w' h=>by refine aR _ bF w' (by simpa using cx) ?_ (by rw[fR];exact h);have:=Fq aW cx aJ;omega
   cases jR:p.testBit q with
   |true=>
    exact bC.exec aG c3 rJ aC ⟨jR,aJ⟩ aj λbF h=>next bF w ⟨β,F,C,I,M,p,bR,gG,fE,n+1,h,ag⟩
   |false=>
    have Cb:∀ e,kS ops q e->p.testBit e=true:=λe he=>bC.sub e (aj e he);have Ze:zC o.op=false:=by
     cases Zf:zC o.op with
     |false=>rfl| true=>have:q∈nU ops p true:=B9.2 ⟨o,aC,jR,Zf,Cb⟩;rw[gH]at this;cases this
    have gE:q∈nU ops p false:=B9.2 ⟨o,aC,jR,Ze,Cb⟩;unfold nV at ag;rw[gH]at ag;simp only at ag;split at ag;·rename_i nZ;rw[nZ]at gE;cases gE
    ·rename_i i0 eL nZ;rw[nZ]at gE;have ah:=PG ag q gE;simp only[aC]at ah;obtain⟨kf,qG,ah⟩:=PD ah;have dg:=bC.refine qG;have kg:=dg.Y5 c3 aC jR aj;have B7:ops.toArray[q]?=some o:=by simpa using aC
     unfold wpOpIn;simp only[B7];rcases ah with⟨eT,ah⟩ | ⟨B8,ah⟩
     ·rw[PB eT kg,ck rfl];cases I4:Pm ((jQ ops).getD q 0) p with
      |true=>
       rw[I4]at ah;simp only[sY,bZ]at ah;have dN:∀ i,p.testBit i=true->cU.getD i false=true:=λi hi=>by
        have aa:=dr I4;have ad:(p &&& (jQ ops).getD q 0).testBit i=true:=by rw[aa];exact hi
        rw[Nat.testBit_and,b']at ad;exact(vJ ad.2).mem bC.s4 aj
       have aX:Rel X a w kf C I M:=⟨β,dg.rel.refine λt=>dg.T t λi hi=>(hi.2 (dN i hi.1)).elim⟩;refine rs (λbF w'=>?_) (zv aG rJ aX ah);rintro⟨F',C',I',M',⟨mw,gw⟩,ae⟩;have Zg:∀ i,¬ jr (λi=>cU.getD i false=true\/i=q) (p ||| 2^q) i:=λi hi=>by
        rcases kT.1 hi.1 with aa | aa;·exact hi.2 (.inl (dN i aa))
        ·exact hi.2 (.inr aa)
       refine next bF w' ⟨mw,F',C',I',M',p ||| 2^q,bR,gG,fE,n,⟨gw.refine λ_=>trivial,?_,?_,?_,λt _=>gw.ak t,λi hi=>(Zg i hi).elim⟩,ae⟩
       ·rintro i (hi | rfl)
        ·exact kT.2 (.inl (bC.sub i hi))
        ·exact kT.2 (.inr rfl)
       ·rintro j e (ai | rfl) he
        ·exact .inl (bC.s4 j e ai he)
        ·exact .inl (aj e he)
       ·intro j e ai he;rcases kT.1 ai with ai | rfl
        ·exact kT.2 (.inl (bC.oT j e ai he))
        ·exact kT.2 (.inl (Cb e he))
      |false=>
       rw[I4]at ah;let G:Fr:=λt=>if t∈looks ops o then kf t else .ll
       have oR:∀ t,eb β (G t) (a.tmps.getD t undef):=λt=>by
        by_cases aw:t∈looks ops o;·simp only[G,ck aw];exact kg t aw
        ·simp only[G,ca aw];trivial
       have I3:∀ y∈o.op.operands,cR G y=cR kf y:=λy aD=>by
        cases y with
        |tmp t=>simp only[cR,G,ck (I0 aD)]| const v=>cases v<;>rfl
        |global g=>rfl| func f=>rfl
       refine rs (λbF w'=>?_) (YZ aG (dg.rel.refine oR) I3 ah);rintro⟨v,x,C',I',M',rfl,ab,gw,ae,hm⟩;refine next _ _ ⟨β,_,C',I',M',p ||| 2^q,bR,gG,fE,n,dg.step c3 rJ aC jR aj ab (gw.refine λ_=>trivial) ?_,ae⟩
       rcases hm with⟨Fg,ly⟩ | ⟨rfl,bg,e'⟩
       rotate_left
       ·exact λ_ _ _ _ _ _ _=>⟨λ_ _=>rfl,λ_=>Pq e' bg⟩
       have zF:∀ {i},jr (λi=>cU.getD i false=true) p i->((jQ ops).getD q 0).testBit i=true->False:=λhi ah=>hi.2 ((vJ ah).mem bC.s4 aj);intro i fw fa hi hb dG gE;have dR:∀ {s:Nat},xW ((jQ ops).getD q 0) s bR=true->fa≠s:=fun {s} h e=>by
        rcases Pn h gE with aa | aa;·exact zF hi aa
        ·exact aa e
       rcases(jP _ _).mp Fg with Zh | Zi
       ·have aa:=fL.1 Zh i (kb.2 (ih.1 hb).1);rw[hi.1,hb]at aa;simp only[sW,rG,jP,qC]at aa;rcases aa with aa | aa
        ·exact(zF hi aa).elim
        ·rw[aa]at dG;cases dG
       rcases(jP _ _).mp Zi with zG | uj
       ·unfold Pp at zG;split at zG
        ·rename_i t0 s6 PK c1;split at zG
         ·rename_i b3 alg aA;obtain⟨⟨dS,gI⟩,ch⟩:=ly.1 _ _ _ _ _ c1 aA;exact⟨λbP e=>dS bP (λa0=>dR zG (by rw[e,a0])),λ_=>Pq ch gI⟩
         ·cases zG
        ·cases zG
       rcases(jP _ _).mp uj with uj | uk
       ·unfold Po at uj;split at uj
        ·rename_i t0 s6 PK c1;split at uj
         ·rename_i Zj aA;exact⟨λ_ _=>by rw[(ly.2.1 _ _ _ _ c1 aA).1],λe=>(dR uj e).elim⟩
         ·cases uj
        ·rename_i c1;exact⟨λ_ _=>by rw[(ly.2.2 (λt x y e=>by rw[c1]at e;cases e)).1],λe=>(dR uj e).elim⟩
        ·cases uj
       unfold Pt at uk;rw[b']at uk;obtain⟨Zk,uk⟩:=uk;have Zl:im' i=true:=by
        have aa:=fL.1 Zk i (kb.2 (ih.1 hb).1);rw[hi.1,hb]at aa;simp only[sW,rG,jP,qC]at aa;rcases aa with aa | aa | aa;·exact(zF hi aa).elim
        ·exact aa
        ·rw[aa]at dG;cases dG
       have bg:C'=C/\∀ b o,I b=some o->I' b=some o:=by
        unfold Ps at uk;split at uk
        ·rename_i t0 s6 PK c1;split at uk
         ·rename_i Zj aA;exact ly.2.1 _ _ _ _ c1 aA
         ·cases uk
        ·rename_i c1;exact ly.2.2 (λt x y e=>by rw[c1]at e;cases e)
        ·rename_i c1;exact ly.2.2 (λt x y e=>by rw[c1]at e;cases e)
        ·cases uk
       exact⟨λ_ _=>by rw[bg.1],λ_=>by rw[Zl];exact YR bg.2⟩
     ·rw[PC B8 kg];simp only[jF,ky];refine⟨λ_ _=>trivial,next _ _ ⟨β,_,C,I,M,p ||| 2^q,bR,gG,fE,n,dg.step c3 rJ aC jR aj (x:=.val undef) rfl dg.rel (λ_ _ _ _ _ _ _=>⟨λ_ _=>rfl,λ_ _ _ h=>h⟩),ah⟩⟩
end
def dh.PL{X:cB}{id:Nat}{F:Fr}{I:aM}{K:jo}(aG:cw X.P X.E)(hm:X.P.follows .mixedOrders=true)(au:zD A.toList=true)(aJ:vC X.n A=true)
  {im':Nat->Bool} (h:nV X A.toList im' (A.size+1) 0 [] F C I M (K .normal)):dh X (.region id A true) F C I M K:=by
 refine⟨λa w ⟨β,aX⟩=>wpIn_region_any hm ?_⟩;have s7:cg X β a { w with drawn:=w.drawn+1 } F C I M:=aX.world rfl;have ek:∀ i,(Array.replicate A.size false).getD i false=false:=λi=>by
  by_cases hi:i<A.size<;>simp[m9,hi]
 have oW:∀ {i},¬ (Array.replicate A.size false).getD i false=true:=fun {i}=>by rw[ek];simp
 have key:=Zd (K:=K .normal) (Q:=kQ X K) aG (PA au) (E3 aJ) (λ_ _ h=>h) A.size (Array.replicate A.size false) a { w with drawn:=w.drawn+1 } (by simp) ?_ ⟨β,F,C,I,M,0,[],λ_=>.ll,λ_ _=>.ll,A.size+1,⟨s7.refine λ_=>trivial,λi hi=>(oW hi).elim,λj e ai=>(oW ai).elim,λj e ai=>by simp at ai,λt _=>s7.ak t,λi hi=>by simp[jr]at hi⟩,h⟩
 ·simpa using key
 ·unfold todo;refine lj (BW _ _) (by simp)
def dh.Zm{X:cB}{id:Nat}{F:Fr}{I:aM}{K:jo}(aG:cw X.P X.E)(hm:X.P.follows .mixedOrders=true)(au:zD A.toList=true)(aJ:vC X.n A=true)
  {im':Nat->Bool} (aN:ι->ud) (inv:ι->Prop) (ag:nV X A.toList im' (A.toList.length+1) 0 [] F C I M (nO X.foot aN inv)) (bc:∀ i,inv i->K .normal (oI (aN i).bn) (oJ (aN i).cl) (aN i).c2 (aN i).dx):dh X (.region id A true) F C I M K:=by
 obtain⟨h⟩:=dh.PL (im':=im') (K:=λe=>match e with
  | .normal=>nO X.foot aN inv| e=>K e) aG hm au aJ ag
 refine⟨λa w aX=>wpIn_mono (h a w aX) ?_⟩;intro e a w ar;cases e with
 |normal=>obtain⟨F',C',I',M',⟨β,af⟩,⟨j,pL,hw,bf,l0⟩⟩:=ar;exact⟨_,_,_,_,⟨β,(af.c4 bf l0).hs hw⟩,bc j pL⟩
 |_=>exact ar
def dh.draw{X:cB}{id:Nat}{F:Fr}{I:aM}{K:jo}(aG:cw X.P X.E)(hm:X.P.follows .mixedOrders=true)(au:zD A.toList=true)(aJ:vC X.n A=true)(h:nV X A.toList (λ_=>false) (A.size+1) 0 [] F C I M (K .normal)):dh X (.region id A true) F C I M K:=.PL aG hm au aJ h
def dh.I5{X:cB}{id:Nat}{F:Fr}{I:aM}{K:jo}(aG:cw X.P X.E)(hm:X.P.follows .mixedOrders=true)(au:zD A.toList=true)(aJ:vC X.n A=true)
 (aN:ι->ud) (inv:ι->Prop) (ag:nV X A.toList (λ_=>false) (A.toList.length+1) 0 [] F C I M (nO X.foot aN inv)) (bc:∀ i,inv i->K .normal (oI (aN i).bn) (oJ (aN i).cl) (aN i).c2 (aN i).dx):dh X (.region id A true) F C I M K:=.Zm aG hm au aJ aN inv ag bc
def PM{pK:Fence}{n:Nat}{a:Act}{c:Code}(J:Nat->Nat->Act->World->Prop)
  (first:c.wpIn pK n P (λe bF w'=>match e with
   | .goto l=>∃ m,J l m bF w'| e=>Q e bF w') a w)
  (pass:∀ l m a w,J l m a w->∃ bc,findLabel c l=some bc/\bc.wpIn pK n P (λe bF w'=>match e with
   | .goto ed=>∃ m',m'<m/\J ed m' bF w'| e=>Q e bF w') a w):(Code.scope c).wpIn pK n P Q a w:=by
 intro b k cs jN ah af;have b3:step P (lone (b.atR a (.code (.scope c)::k)) cs w)=.next (lone (b.atR a (.code c::.inScope c::k)) cs w):=
  step_lone_go (by simp[stepG,stepG.exec,Frame.atR])
 have s1:∀ a w,step P (lone (b.atR a (.inScope c::k)) cs w)=.next (lone (b.atR a k) cs w):=λa w=>
  step_lone_go (by simp[stepG,stepG.exec,Frame.atR])
 have ab:∀ id,exitTo id (.inScope c::k)=exitTo id k:=λid=>by simp[exitTo]
 have fin:∀ {m:Machine} {e:Exit} {iH:Act} {iI:World},(∀ l,e≠.goto l)->ArrivesIn (Machine.fenced P pK) P m b (.inScope c::k) cs e iH iI->ArrivesIn (Machine.fenced P pK) P m b k cs e iH iI:=by
  intro m e iH iI bs hI;cases e with
  |normal=>exact StepsIn.trans hI (.one (fenced_calm ah af rfl) (s1 _ _))| exit id=>exact⟨λeS ae=>hI.1 eS (by rw[ab];exact ae),λgw ae=>hI.2 gw (by rw[ab];exact ae)⟩| goto l=>exact(bs l rfl).elim| ret=>exact hI| panic BO=>exact hI| outgrown=>exact hI
 have key:∀ m l a w,J l m a w->∀ bc,findLabel c l=some bc->∃ e bF w',Q e bF w'/\ArrivesIn (Machine.fenced P pK) P (lone (b.atR a (.code bc::.inScope c::k)) cs w) b k cs e bF w':=by
  intro m
  induction m using Nat.strongRecOn with
  |_ m aR=>
   intro l a w bL bc qI;obtain⟨zH,az,hw⟩:=pass l m a w bL;rw[qI]at az;cases az;obtain⟨e,iH,iI,aK,hI⟩:=hw b (.inScope c::k) cs jN ah af;cases e with
   |goto ed=>
    obtain⟨m',aW,zI⟩:=aK;obtain⟨zH,pO,_⟩:=pass ed m' iH iI zI;have ax:gotoIn ed (.inScope c::k)=some (.code zH::.inScope c::k):=by simp[gotoIn,pO]
    obtain⟨BJ,BK,BL,BM,BN⟩:=aR m' aW ed iH iI zI zH pO;exact⟨BJ,BK,BL,BM,.of_steps (hI.1 _ ax) BN⟩
   |normal=>exact⟨_,iH,iI,aK,fin (by simp) hI⟩| exit id=>exact⟨_,iH,iI,aK,fin (by simp) hI⟩| ret=>exact⟨_,iH,iI,aK,fin (by simp) hI⟩| panic BO=>exact⟨_,iH,iI,aK,fin (by simp) hI⟩| outgrown=>exact⟨_,iH,iI,aK,fin (by simp) hI⟩
 have ay:(lone (b.atR a (.code (.scope c)::k)) cs w).fenced P pK:=fenced_calm ah af rfl;obtain⟨e,iH,iI,aK,hI⟩:=first b (.inScope c::k) cs jN ah af
 cases e with
 |goto ed=>
  obtain⟨m',zI⟩:=aK;obtain⟨zH,pO,_⟩:=pass ed m' iH iI zI;have ax:gotoIn ed (.inScope c::k)=some (.code zH::.inScope c::k):=by simp[gotoIn,pO]
  obtain⟨BJ,BK,BL,BM,BN⟩:=key m' ed iH iI zI zH pO;exact⟨BJ,BK,BL,BM,.of_steps (.head ay b3 (hI.1 _ ax)) BN⟩
 |normal=>exact⟨_,iH,iI,aK,.of_steps (.one ay b3) (fin (by simp) hI)⟩| exit id=>exact⟨_,iH,iI,aK,.of_steps (.one ay b3) (fin (by simp) hI)⟩| ret=>exact⟨_,iH,iI,aK,.of_steps (.one ay b3) (fin (by simp) hI)⟩| panic BO=>exact⟨_,iH,iI,aK,.of_steps (.one ay b3) (fin (by simp) hI)⟩| outgrown=>exact⟨_,iH,iI,aK,.of_steps (.one ay b3) (fin (by simp) hI)⟩
def I6(N:Nat->fD)(K:jo):jo
 | .goto l=>N l| e=>K e
def dh.scope{X:cB}{c:Code}{F:Fr}{I:aM}{K:jo}(aG:cw X.P X.E)(bo:codeOk X.n c=true)(aN:ι->ud)(bS:ι->Nat)(inv:ι->Prop)(μ:ι->Nat)(bc:Nat->Code)(qI:∀ i,inv i->findLabel c (bS i)=some (bc (bS i))/\codeOk X.n (bc (bS i))=true)(first:V X c F C I M (I6 (λl=>nO X.foot aN λj=>inv j/\bS j=l) K))(pass:∀ i,inv i->V X (bc (bS i)) (oI (aN i).bn) (oJ (aN i).cl) (aN i).c2 (aN i).dx (I6 (λl=>nO X.foot aN λj=>(inv j/\bS j=l)/\μ j<μ i) K)) :
  dh X (.scope c) F C I M K:=by
 refine⟨λa w aX=>?_⟩;let J (l m:Nat) (a:Act) (w:World):Prop:=∃ i,inv i/\bS i=l/\μ i=m/\Rel X a w (oI (aN i).bn) (oJ (aN i).cl) (aN i).c2 (aN i).dx
 have vD:∀ {p:ι->Prop} {l:Nat} {a w},(∀ i,p i->inv i/\bS i=l)->Sat X (nO X.foot aN p) a w->∃ i,p i/\J l (μ i) a w:=by rintro p l a w aO⟨F,C,I,M,⟨β,af⟩,⟨j,pL,hw,bf,l0⟩⟩;exact⟨j,pL,j,(aO j pL).1,(aO j pL).2,rfl,β,(af.c4 bf l0).hs hw⟩
 refine PM J (wpIn_mono (oK aG c bo aX first) ?_) ?_
 ·intro e a w h;cases e with
  |goto l=>obtain⟨j,ai,bL⟩:=vD (p:=λj=>inv j/\bS j=l) (l:=l) (λ_ h=>h) h;exact⟨_,bL⟩
  |_=>exact h
 ·rintro l m a w⟨i,hi,rfl,rfl,af⟩;obtain⟨aa,ad⟩:=qI i hi;refine⟨_,aa,wpIn_mono (oK aG _ ad af (pass i hi)) ?_⟩;intro e a w h;cases e with
  |goto ed=>obtain⟨j,ai,bL⟩:=vD (p:=λj=>(inv j/\bS j=ed)/\μ j<μ i) (l:=ed) (λ_ h=>h.1) h;exact⟨_,ai.2,bL⟩
  |_=>exact h
def zJ(P:Program)(l:Nat)(args:List Value)(I:aM)(M:List aE)(post:Value->aM->List aE->Prop):Prop:=
 ∀ w,dT I M w->∃ f tmps assign body,(Instr.yield l args.toArray).run P w=.ok (.round l f tmps assign body) w /\ RoundIn Fence.wide 0 P l f tmps assign body w λe w'=>∃ v I' M',e=.returned v/\post v I' M'/\dT I' M' w'/\Kept I M w I' M' w'
inductive Fs(P:Program)(l:Nat)(args:List Value)(I:aM)(M:List aE)(K:Value->aM->List aE->Prop):Prop
 |mk(dH Mr:List aE)(post:Value->aM->List aE->Prop)(a3:M.Perm (dH++Mr))(ar:zJ P l args I dH post)(k:∀ v I' M',(∀ b o,I b=some o->I' b=some o)->post v I' M'->K v I' (M'++Mr))
def br.yield{X:cB}{o:Oper}{F:Fr}{I:aM}{K:fD}{args:Array Operand}{eX:Array TypeId}{l:Nat}(aC:o.op=.call { callee:=.value f,args,argTypes:=eX })(aj:∀ d,o.dst=some d->d<X.n)(az:bt F f=.val (.func (.yield l) #[] #[]))(hr:kO F args.toList=some vs)
  (h:Fs X.P l vs I M λv I' M'=>K (put o.dst (.val v) F) C I' M'):br X o F C I M K:=by
 refine⟨λa w Q ⟨β,aX⟩=>?_⟩;obtain⟨dH,Mr,post,a3,ar,ae⟩:=h;obtain⟨fn,tmps,assign,body,aD,af⟩:=ar w (aX.holds.part a3);have aA:=qw aX.ak hr;have dD:args.map a.eval=vs.toArray:=by apply fZ;simpa using aA
 have a0:=cS aX.ak az;obtain⟨dst,op,ty,pos,after,guard⟩:=o;simp only at aC;subst aC;refine⟨λ_ _=>trivial,?_⟩;rw[ET _ _ _ (by simp)];have eT:(execOp a.eval ⟨dst,.call { callee:=.value f,args,argTypes:=eX },ty,pos,after,guard⟩).run X.P w=.ok (.round l fn tmps assign body) w:=by simp only[execOp,resolve,a0,Deferred.ofValue,bV,cH,bN,dD,invoke];simpa using aD
 rw[eT,Oper.uponIn_round];refine⟨(λh=>by cases h),?_⟩;have gw:RoundIn (f' X) (0-1) X.P l fn tmps assign body w _:=af;refine gw.mono ?_;rintro e w'⟨v,I',M',rfl,aO,oE,eB⟩;exact⟨_,_,_,_,⟨β,(aX.after a3 oE eB).put (x:=.val v) aj rfl⟩,ae v I' M' eB.le aO⟩
def Zn(A:(Nat->aM->List aE->Prop)->Prop)(P:Program)(g:Nat)(cap:List Value)(I:aM)(n:Nat)(Q:Nat->List Value->aM->Prop):Prop:=
 ∀ (l:Nat) (R:Nat->aM->List aE->Prop) (kU:aM->List aE->Prop),A R -> (∀ k (ae:k<n) vs I' M',(∀ b o,I b=some o->I' b=some o)->Q k vs I'->R k I' M'->zJ P l vs I' M' λv vM jS=>(v=.bool true/\R (k+1) vM jS)\/(v=.bool false/\kU vM jS)) -> ∀ dj M0,(∀ b o,I b=some o->dj b=some o)->R 0 dj M0->sN P g (.func (.yield l) #[] #[]::cap) dj M0 λ_ I' M'=>R n I' M'\/kU I' M'
def Iter(P:Program)(g:Nat)(cap:List Value)(I:aM)(rK:List (List Value)):Prop:=
 ∀ (l:Nat) (R:Nat->aM->List aE->Prop) (kU:aM->List aE->Prop),(∀ k (ae:k<rK.length) I' M',(∀ b o,I b=some o->I' b=some o)->R k I' M'->zJ P l rK[k] I' M' λv vM jS=>(v=.bool true/\R (k+1) vM jS)\/(v=.bool false/\kU vM jS)) -> ∀ dj M0,(∀ b o,I b=some o->dj b=some o)->R 0 dj M0->sN P g (.func (.yield l) #[] #[]::cap) dj M0 λ_ I' M'=>R rK.length I' M'\/kU I' M'
def zK:List Nat->List Value->Fr->Fr
 |t::ps,v::vs,F=>zK ps vs (fM F t (.val v))| _,_,F=>F
def PN(foot:List Nat)(N:aM->List aE->Prop)(kU:qA->aM->List aE->Prop):jo:=λex F C I M=>match ex with
 | .normal=>sT foot I M N| ex=>sT foot I M (kU ex)
def zL:qA->Option Code
 | .normal=>none| .exit id=>some (.exit id)| .goto l=>some (.goto l)| .ret=>some .ret
section
variable{X:cB}{β:Nat->Nat}{a:Act}{w:World}{F:Fr}{C:dp}{I:aM}{M:List aE}
def PO:∀ (ps:List Nat) (vs:List Value) (F:Fr) (tmps:Array Value),(∀ t∈ps,t<tmps.size)->(∀ t,eb β (F t) (tmps.getD t undef)) ->
  let r:=(ps.zip vs).foldl (λ(tmps:Array Value) (p:Nat×Value)=>tmps.setIfInBounds p.1 p.2) tmps
  r.size=tmps.size/\∀ t,eb β (zK ps vs F t) (r.getD t undef)
 |[],vs,F,tmps,_,h=>⟨rfl,h⟩| t::ps,[],F,tmps,_,h=>⟨rfl,h⟩
 |t::ps,v::vs,F,tmps,aO,h=>by
  have aa:∀ s,eb β (fM F t (.val v) s) ((tmps.setIfInBounds t v).getD s undef):=λs=>by have:=ID (β:=β) (F:=F) (a:=⟨tmps,[]⟩) h (d:=t) (x:=.val v) (v:=v) (aO t (by simp)) rfl s;exact this
  have aR:=PO ps vs (fM F t (.val v)) (tmps.setIfInBounds t v) (λs ar=>by simpa using aO s (by simp[ar])) aa;simp only[List.zip_cons_cons,iY,zK];exact⟨by simpa using aR.1,aR.2⟩
def cg.PP(h:cg X β a w F C I M):cg X β { a with defers:=tY w.heap.size::a.defers } (w.alloc (.deferred (some []))) F C I M where
 size:=h.size
 defers:=by
  obtain⟨bb,aa,ad,al⟩:=h.defers;refine⟨w.heap.size::bb,by simp[aa],?_,?_⟩;·rw[kN];refine⟨λhm=>?_,ad⟩;have:=(j9.1 (al _ hm).ec).1;omega
  ·intro r af;rcases dW.1 af with rfl | af
   ·exact⟨IB w _,h.sz,h.holds.pH,h.holds.oD⟩
   ·exact(al r af).alloc _
 holds:=h.holds.alloc _
 ak:=h.ak
 bR s cs ar:=(h.bR s cs ar).alloc _
 inj:=h.inj
 g9:=h.g9
 gT:=h.gT
 own:=h.own
 dA:=IF h.dA h.sz _
 out:=h.out
 sz:=by have:=h.sz;simp;omega
 eI:=h.eI
def cg.Cc{n:Nat}{o o':Obj}(h:cg X β a w F C I (⟨n,o⟩::M)):cg X β a (w.putObj n o') F C I M:=by
 have ga:(⟨n,o⟩:aE)∈(⟨n,o⟩:aE)::M:=by simp
 have bJ:=h.holds.bX;simp only[cc,kN]at bJ;exact {
  size:=h.size
  defers:=h.defers.mono λr af=>by have bs:n≠r:=af.ef _ ga;refine { af with ec:=?_,ef:=λx ab=>af.ef x (by simp[ab]) };rw[lh (pE bs)];exact af.ec
  holds:={
   i:=λb o iF=>by rw[lh (λe=>by have:=h.holds.d _ ga;simp only at this;rw[e,this]at iF;cases iF)];exact h.holds.i b o iF
   m:=λx ab=>by rw[lh (λe=>bJ.1 (cG.2 ⟨x,ab,e⟩))];exact h.holds.m x (by simp[ab])
   d:=λx ab=>h.holds.d x (by simp[ab])
   bX:=bJ.2 }
  ak:=h.ak
  bR:=λs cs ar=>by have ah:=h.bR s cs ar;have bs:n≠β s:=ah.ef _ ga;obtain⟨T,bl⟩:=ah.ec;refine { ah with ec:=⟨T,?_⟩,ef:=λx ab=>ah.ef x (by simp[ab]) };rw[lh (pE bs)];exact bl
  inj:=h.inj
  g9:=h.g9
  gT:=h.gT
  own:=λx ab=>h.own x (by simp[ab])
  dA:=λb ah az=>by
   rw[lh (λe=>by
    rcases h.own _ ga with aa | aa;·simp only at aa;exact az (e ▸ aa)
    ·simp only at aa;omega)]
   exact h.dA b ah az
  out:=h.out.trans (EX _ _ _)
  sz:=by have:=h.sz;simpa using this
  eI:=h.eI }
def dh.Zo{K:jo}{n:Nat}{Q:Nat->List Value->aM->Prop}{A:(Nat->aM->List aE->Prop)->Prop}(dk:∀ x S,A S->A λk I M=>∃ dB,M=x::dB/\S k I dB)(aG:cw X.P X.E)(jN:X.ro=none)(bo:(codeOk X.n et&&(codeOk X.n body&&ps.toList.all (λt=>Nat.blt t X.n)))=true)(I7:bt F f=.val (.func (.func g) #[] cap))(I8:hY X.foot I M cT M1)(I9:Zn A X.P g cap.toList cT n Q)(cu:∀ k vs I,k<n->Q k vs I->vs.length=ps.size)(R:Nat->aM->List aE->Prop)(kU:qA->aM->List aE->Prop)(Zp:A R)(start:R 0 cT M1)(round:∀ k (ae:k<n) vs I' M',(∀ b o,cT b=some o->I' b=some o)->Q k vs I'->R k I' M'->∀ l B ay iK,V ⟨X.P,X.E,X.fs,X.n,B,ay,I',M'.map (·.num),some l⟩ et (zK ps.toList vs F) (λ_=>none) I' M' (vB (λF C I M=>V ⟨X.P,X.E,X.fs,X.n,B,iK,I',M'.map (·.num),some l⟩ body F C I M (PN (M'.map (·.num)) (R (k+1)) kU)) (λ_ _ _ _ _=>False)))(done:∀ I' M',(∀ b o,cT b=some o->I' b=some o)->R n I' M'->K .normal F C I' M')(stop:∀ ex I' M',(∀ b o,cT b=some o->I' b=some o)->kU ex I' M'->ex≠.normal/\K ex F C I' M') :
  dh X (.rangeFunc f ps et body) F C I M K:=by
 refine⟨λa w ⟨β,kh⟩=>?_⟩;have aX:=kh.hs I8;simp only[b']at bo;obtain⟨um,hc,zM⟩:=bo;refine wpIn_rangeFunc λfn _=>?_;let hd (s:LoopState) (nX:Option Code):Loop:={ state:=s,pending:=nX,fn:=fn,tmps:=a.tmps,params:=ps,assign:=et,body:=body,defers:=w.heap.size }
 let l:=w.heap.size+1
 let kV:World:=(w.alloc (.deferred (some []))).alloc (.loop (hd .ready none))
 have xZ:=aX.PP.nb (.loop (hd .ready none));have av:(w.alloc (.deferred (some []))).heap.size=l:=by simp[l]
 rw[av]at xZ;let Ja (k:Nat) (I':aM) (M':List aE):Prop:=∃ dB,M'=⟨l,.loop (hd .ready none)⟩::dB/\R k I' dB
 let PQ (I':aM) (M':List aE):Prop:=∃ ex c dB,zL ex=some c/\M'=⟨l,.loop (hd .done (some c))⟩::dB/\kU ex I' dB
 have aD:∀ k (ae:k<n) vs I' M',(∀ b o,cT b=some o->I' b=some o)->Q k vs I'->Ja k I' M'->zJ X.P l vs I' M' λv vM jS=>(v=.bool true/\Ja (k+1) vM jS)\/(v=.bool false/\PQ vM jS):=by
  rintro k ae vs I' _ bg oH⟨dB,rfl,Zq⟩W hZ;have Cd:W.heap[l]?=some (.loop (hd .ready none)):=hZ.m ⟨l,.loop (hd .ready none)⟩ (by simp);have aW:l<W.heap.size:=(j9.1 Cd).1;have bJ:=hZ.bX;simp only[cc,kN]at bJ;have PR:I' l=none:=hZ.d ⟨l,.loop (hd .ready none)⟩ (by simp);refine⟨_,_,_,_,run_yield Cd (by simpa using cu _ _ _ ae oH),?_⟩;have Ce:((hd LoopState.ready none).params.zip vs.toArray).foldl (λtmps (x:Nat×Value)=>match x with | (t,a)=>tmps.setIfInBounds t a) (hd LoopState.ready none).tmps=(ps.toList.zip vs).foldl (λ(tmps:Array Value) (p:Nat×Value)=>tmps.setIfInBounds p.1 p.2) a.tmps:=by rw[<-Iw];simp[hd]
  have Jb:=PO (β:=β) ps.toList vs F a.tmps (λt aw=>by
   have:=fL.1 zM t aw;rw[aX.size];exact bH this) aX.ak
  rw[<-Ce]at Jb;refine roundIn_of_wpIn (F:=Fence.wide) (n:=0) trivial ?_;let s8:cB:=⟨X.P,X.E,X.fs,X.n,W.heap.size,W,I',dB.map (·.num),some l⟩
  let iK:=W.putObj l (.loop (hd .busy none))
  let Cf:cB:=⟨X.P,X.E,X.fs,X.n,W.heap.size,iK,I',dB.map (·.num),some l⟩
  have ag:=round k ae vs I' dB bg oH Zq l W.heap.size W iK;have BQ:cg s8 β { tmps:=((hd LoopState.ready none).params.zip vs.toArray).foldl (λtmps (x:Nat×Value)=>match x with | (t,a)=>tmps.setIfInBounds t a) (hd LoopState.ready none).tmps,defers:=[] } W (zK ps.toList vs F) (λ_=>none) I' dB:={
   size:=Jb.1.trans aX.size
   defers:=⟨[],rfl,zm,λr af=>by cases af⟩
   holds:=⟨hZ.i,λx ab=>hZ.m x (by simp[ab]),λx ab=>hZ.d x (by simp[ab]),bJ.2⟩
   ak:=Jb.2
   bR:=λs cs ar=>by cases ar
   inj:=λs bP aa=>by simp at aa
   g9:=λb o ah=>ah
   gT:=λb o ah=>.inl ah
   own:=λx ab=>.inl (cG.2 ⟨x,ab,rfl⟩)
   dA:=λb ah az=>rfl
   out:=.refl _
   sz:=cI _
   eI:=λx ab=>by
    obtain⟨y,aD,rfl⟩:=cG.1 ab;exact(j9.1 (hZ.m y (by simp[aD]))).1 }
  have E6:=oK (X:=s8) aG et um ⟨β,BQ⟩ ag;refine wpIn_mono (Q:=kQ s8 _) E6 ?_;intro e cf h4 ar;cases e with
  |exit id=>obtain⟨_,_,_,_,_,ae⟩:=ar;exact ae.elim
  |goto id=>obtain⟨_,_,_,_,_,ae⟩:=ar;exact ae.elim
  |ret=>obtain⟨_,_,_,_,_,ae⟩:=ar;exact ae.elim
  |panic BO=>exact ar.elim| outgrown=>exact ar.elim
  |normal=>
   obtain⟨kf,Zr,eE,s9,⟨PS,gH⟩,E2⟩:=ar;have s':h4.heap[l]?=some (.loop (hd .ready none)):=by rw[gH.dA l aW bJ.1];exact Cd
   refine⟨_,run_beginRound s' rfl,?_⟩;have Zs:eE l=none:=by
    cases bC:eE l with
    |none=>rfl
    |some o=>
     rcases gH.gT _ _ bC with aa | aa;·rw[show s8.dj=I' from rfl,PR]at aa;cases aa
     ·exact absurd aa (Nat.not_le.2 aW)
   have Zt:∀ x∈s9,x.num≠l:=λx ab e=>by
    rcases gH.own x ab with aa | aa;·rw[e]at aa;exact bJ.1 aa
    ·rw[e]at aa;exact absurd aa (Nat.not_le.2 aW)
   have nZ:cg Cf PS cf (h4.putObj l (.loop (hd .busy none))) kf Zr eE s9:={
    size:=gH.size
    defers:=by obtain⟨bb,a1,ba,b4⟩:=gH.defers;refine⟨bb,a1,ba,λr eD=>?_⟩;have af:=b4 r eD;refine { ec:=?_,c4:=af.c4,iC:=af.iC,ef:=af.ef };rw[lh (λe=>by have aa:=af.ec;rw[e,s']at aa;cases aa)];exact af.ec
    holds:={
     i:=λb o iF=>by rw[lh (λe=>by rw[e,Zs]at iF;cases iF)];exact gH.holds.i b o iF
     m:=λx ab=>by rw[lh (Zt x ab)];exact gH.holds.m x ab
     d:=gH.holds.d
     bX:=gH.holds.bX }
    ak:=gH.ak
    bR:=λs cs ar=>by have ah:=gH.bR s cs ar;obtain⟨T,bl⟩:=ah.ec;refine { ec:=⟨T,?_⟩,c4:=ah.c4,iC:=ah.iC,ef:=ah.ef };rw[lh (λe=>by rw[e,s']at bl;cases bl)];exact bl
    inj:=gH.inj
    g9:=gH.g9
    gT:=gH.gT
    own:=gH.own
    dA:=λb ah az=>by
     by_cases e:b=l;·subst e;rw[zA (j9.1 s').1];exact(zA aW).symm
     ·rw[lh e];show _=(W.putObj l (.loop (hd .busy none))).heap[b]?;rw[lh e];exact gH.dA b ah az
    out:=⟨gH.out.1,gH.out.2⟩
    sz:=by have:=gH.sz;simpa using this
    eI:=gH.eI }
   have Zu:=oK (X:=Cf) aG body hc ⟨PS,nZ⟩ E2;refine wpIn_mono (Q:=kQ Cf _) Zu ?_;have fin:∀ (dM:Act) (mF:World) (ta:Fr) (tb:dp) (ki:aM) (pP:List aE) (jump:Option Code),Rel Cf dM mF ta tb ki pP->∃ iL,(Instr.endRound l jump).run X.P mF=.ok (.bool jump.isNone) iL /\
     dT ki (⟨l,.loop (hd (if jump.isNone then .ready else .done) jump)⟩::pP) iL/\Kept I' (⟨l,.loop (hd .ready none)⟩::dB) W ki (⟨l,.loop (hd (if jump.isNone then .ready else .done) jump)⟩::pP) iL:=by
    rintro dM mF ta tb ki pP jump⟨vN,al⟩;have x0:mF.heap[l]?=some (.loop (hd .busy none)):=by rw[al.dA l aW bJ.1];exact zA aW
    have PT:ki l=none:=by
     cases bC:ki l with
     |none=>rfl
     |some o=>
      rcases al.gT _ _ bC with aa | aa;·rw[show Cf.dj=I' from rfl,PR]at aa;cases aa
      ·exact absurd aa (Nat.not_le.2 aW)
    have PU:∀ x∈pP,x.num≠l:=λx ab e=>by
     rcases al.own x ab with aa | aa;·rw[e]at aa;exact bJ.1 aa
     ·rw[e]at aa;exact absurd aa (Nat.not_le.2 aW)
    refine⟨_,run_endRound jump x0,?_,?_⟩
    ·exact {
      i:=λb o iF=>by rw[lh (λe=>by rw[e,PT]at iF;cases iF)];exact al.holds.i b o iF
      m:=λx ab=>by
       rcases dW.1 ab with rfl | ab;·exact zA (j9.1 x0).1
       ·rw[lh (PU x ab)];exact al.holds.m x ab
      d:=λx ab=>by
       rcases dW.1 ab with rfl | ab;·exact PT
       ·exact al.holds.d x ab
      bX:=by
       simp only[cc,kN];refine⟨λhm=>?_,al.holds.bX⟩;obtain⟨x,ab,e⟩:=cG.1 hm;exact PU x ab e }
    ·exact {
      le:=al.g9
      ry:=al.gT
      sM:=λx ab=>by
       rcases dW.1 ab with rfl | ab;·exact .inl ⟨⟨l,.loop (hd .ready none)⟩,by simp,rfl⟩
       ·rcases al.own x ab with aa | aa
        ·obtain⟨y,aD,e⟩:=cG.1 aa;exact .inl ⟨y,by simp[aD],e⟩
        ·exact .inr aa
      dA:=λb ah bs=>by
       have l2:b≠l:=λe=>bs ⟨l,.loop (hd .ready none)⟩ (by simp) e.symm;rw[lh l2,al.dA b ah (λhm=>by
        obtain⟨y,aD,e⟩:=cG.1 hm;exact bs y (by simp[aD]) e)]
       exact lh l2
      out:=⟨al.out.1,al.out.2⟩
      sz:=by have:=al.sz;simpa using this }
   intro e dM mF vO;cases e with
   |normal=>obtain⟨ta,tb,ki,pP,⟨vN,al⟩,⟨qJ,oX,x1,aO⟩⟩:=vO;obtain⟨iL,aL,bG,cr⟩:=fin dM mF ta tb qJ oX none ⟨vN,al.hs x1⟩;exact⟨_,iL,aL,_,_,_,rfl,.inl ⟨rfl,_,rfl,aO⟩,bG,cr⟩
   |exit id=>obtain⟨ta,tb,ki,pP,⟨vN,al⟩,⟨qJ,oX,x1,aO⟩⟩:=vO;obtain⟨iL,aL,bG,cr⟩:=fin dM mF ta tb qJ oX (some (.exit id)) ⟨vN,al.hs x1⟩;exact⟨_,iL,aL,_,_,_,rfl,.inr ⟨rfl,.exit id,_,_,rfl,rfl,aO⟩,bG,cr⟩
   |goto id=>obtain⟨ta,tb,ki,pP,⟨vN,al⟩,⟨qJ,oX,x1,aO⟩⟩:=vO;obtain⟨iL,aL,bG,cr⟩:=fin dM mF ta tb qJ oX (some (.goto id)) ⟨vN,al.hs x1⟩;exact⟨_,iL,aL,_,_,_,rfl,.inr ⟨rfl,.goto id,_,_,rfl,rfl,aO⟩,bG,cr⟩
   |ret=>obtain⟨ta,tb,ki,pP,⟨vN,al⟩,⟨qJ,oX,x1,aO⟩⟩:=vO;obtain⟨iL,aL,bG,cr⟩:=fin dM mF ta tb qJ oX (some .ret) ⟨vN,al.hs x1⟩;exact⟨_,iL,aL,_,_,_,rfl,.inr ⟨rfl,.ret,_,_,rfl,rfl,aO⟩,bG,cr⟩
   |panic BO=>exact vO.elim| outgrown=>exact vO.elim
 obtain⟨nM,xM⟩:=I9 l Ja PQ (dk _ _ Zp) aD cT (⟨l,.loop (hd .ready none)⟩::M1) (λ_ _ h=>h) ⟨M1,rfl,start⟩;have kW:=xM kV xZ.holds;have a0:=cS aX.ak I7;refine⟨l,[tY w.heap.size],kV,{ target:=.fn (.func g) cap,args:=#[.func (.yield l) #[] #[]] },kV,g,(.func (.yield l) #[] #[]::cap.toList).toArray,kV,?_,?_,λ_ _=>trivial,?_,(λh=>by cases h),?_⟩
 ·have Jc:(f' X).round=none:=jN;rw[Jc];exact run_enterLoop_outer fn a.tmps ps et body
 ·show(Deferred.ofValue (a.eval f) (#[Operand.const (.func (.yield l) #[] #[])].map a.eval)).run X.P kV=_;rw[a0];simp[Deferred.ofValue,Act.eval]
 ·simp only[invoke];rw[show #[Value.func (.yield l) #[] #[]]++cap=(.func (.yield l) #[] #[]::cap.toList).toArray from by apply fZ;simp];exact nM _ _
 ·refine(II (X:=X) kW _).mono ?_;rintro e mF⟨v,I',M',rfl,aO,oE,eB⟩;have pQ:=xZ.after (Mr:=[]) (by simp) oE eB;rw[ee]at pQ;have bg:=eB.le;rcases aO with⟨dB,rfl,Zv⟩ | ⟨ex,c,dB,au,rfl,Zw⟩
  ·refine⟨none,_,run_endLoop (oE.m ⟨l,.loop (hd .ready none)⟩ (by simp)) (by simp[hd]),?_⟩;exact⟨F,C,I',dB,⟨β,pQ.Cc⟩,done I' dB bg Zv⟩
  ·refine⟨some c,_,run_endLoop (oE.m ⟨l,.loop (hd .done (some c))⟩ (by simp)) (by simp[hd]),?_⟩;obtain⟨bs,ae⟩:=stop ex I' dB bg Zw;cases ex with
   |normal=>exact(bs rfl).elim| exit id=>cases au;exact wpIn_exit ⟨F,C,I',dB,⟨β,pQ.Cc⟩,ae⟩| goto id=>cases au;exact wpIn_goto ⟨F,C,I',dB,⟨β,pQ.Cc⟩,ae⟩| ret=>cases au;exact wpIn_ret ⟨F,C,I',dB,⟨β,pQ.Cc⟩,ae⟩
def dh.range{K:jo}{rK:List (List Value)}(aG:cw X.P X.E)(jN:X.ro=none)(bo:(codeOk X.n et&&(codeOk X.n body&&ps.toList.all (λt=>Nat.blt t X.n)))=true)(I7:bt F f=.val (.func (.func g) #[] cap))(I8:hY X.foot I M cT M1)(I9:Iter X.P g cap.toList cT rK)(cu:∀ vs∈rK,vs.length=ps.size)(R:Nat->aM->List aE->Prop)(kU:qA->aM->List aE->Prop)(start:R 0 cT M1)(round:∀ k (ae:k<rK.length) I' M',(∀ b o,cT b=some o->I' b=some o)->R k I' M'->∀ l B ay iK,V ⟨X.P,X.E,X.fs,X.n,B,ay,I',M'.map (·.num),some l⟩ et (zK ps.toList rK[k] F) (λ_=>none) I' M' (vB (λF C I M=>V ⟨X.P,X.E,X.fs,X.n,B,iK,I',M'.map (·.num),some l⟩ body F C I M (PN (M'.map (·.num)) (R (k+1)) kU)) (λ_ _ _ _ _=>False)))(done:∀ I' M',(∀ b o,cT b=some o->I' b=some o)->R rK.length I' M'->K .normal F C I' M')(stop:∀ ex I' M',(∀ b o,cT b=some o->I' b=some o)->kU ex I' M'->ex≠.normal/\K ex F C I' M') :
  dh X (.rangeFunc f ps et body) F C I M K:=by
 refine dh.Zo (A:=λ_=>True) (Q:=λk vs _=>rK[k]?=some vs) (λ_ _ _=>trivial) aG jN bo I7 I8 (n:=rK.length) ?_ (λk vs _ _ h=>cu vs (vF h)) R kU trivial start (λk ae vs I' M' bg h aX=>?_) done stop
 ·intro l R kU _ h;exact I9 l R kU λk ae I' M' bg aX=>h k ae _ I' M' bg (dX ae) aX
 ·obtain⟨_,rfl⟩:=ih.1 h;exact round k ae I' M' bg aX
end
structure aU where
 a:Option Nat
 n:Nat
 c:Nat
 aS:List Value
def aU.val(o:aU):Value:=.slice (o.a.map λg=>⟨g,0,none⟩) o.n o.c
def aU.aq(o:aU)(e:Nat):List aE:=match o.a with
 |some g=>[⟨g,.cells o.aS.toArray e (0,0)⟩]| none=>[]
structure aU.ok(o:aU)(size:Nat)(xs:List Value):Prop where
 len:xs.length=o.n*size
 nil:o.a=none->o.n=0/\o.c=0
 cap:∀ g,o.a=some g->o.aS.length=o.c*size/\o.n<=o.c/\o.c<=maxLen/\o.aS.take (o.n*size)=xs
section
variable{P:Program}{w:World}
def PV(t u ty e:Nat)(i:TypeInfo)(z:Value)(aw:P.underlying t=some (.slice e)){l3:TypeDesc}(hu:P.underlying u=some l3)(mG:∀ k,l3≠.int k)(hi:P.info? e=some i)(a':i.zero=some z)(uo:z.cells.size=i.size)
  {os:aU} (bo:os.ok i.size xs) (ax:∀ g,os.a=some g->w.heap[g]?=some (.cells os.aS.toArray e (0,0)))
  {x:Value} (hm:0<m) (av:cq.length=m*i.size) (aa:∀ v∈cq,v.oneCell'=true)
  (cu:∀ w',(Builtin.lenOf x).run P w'=.ok m w') (eZ:∀ w':World,w'.heap=w.heap->(Builtin.firstCells i.size m x).run P w'=.ok cq.toArray w')
  (b1:os.n+m<=maxLen) (cd:(os.n+m)*i.bytes<=140737488355328) :
  ∃ (g c:Nat) (aS:List Value) (w':World),(Builtin.append_ #[t,u] ty #[os.val,x]).run P w=.ok (.slice (some ⟨g,0,none⟩) (os.n+m) c) w'/\aS.length=c*i.size/\os.n+m<=c/\c<=maxLen/\aS.take ((os.n+m)*i.size)=xs++cq /\
   ((os.a=some g/\w'=w.setRow g aS.toArray)\/(g=w.heap.size/\w'=w.drew.alloc (.cells aS.toArray e (0,0)))):=by
 obtain⟨a,n,c,aS⟩:=os;have Jd:(xs++cq).length=(n+m)*i.size:=by rw[cL,bo.len,av,ke]
 have PW:∀ dA,(xs++cq++(Builtin.zeroCells z.cells (grownCap w (n+m) dA e-(n+m))).toList).length=grownCap w (n+m) dA e*i.size/\n+m<=grownCap w (n+m) dA e/\grownCap w (n+m) dA e<=maxLen /\
   (xs++cq++(Builtin.zeroCells z.cells (grownCap w (n+m) dA e-(n+m))).toList).take ((n+m)*i.size)=xs++cq:=by
  intro dA;have cV:=grownCap_ge w (n+m) dA e;have kX:grownCap w (n+m) dA e<=maxLen:=grownCap_le_maxLen w (n+m) dA e b1;refine⟨?_,cV,kX,?_⟩;·rw[cL,Jd,xS,size_zeroCells,uo,<-ke];congr 1;omega
  ·rw[<-Jd];exact vG
 have Cg:(match l3 with | .int _=>true | _=>false)=false:=by cases l3<;>first | rfl | exact(mG _ rfl).elim
 have mH:n+m<=9223372036854775807:=by simp only[maxLen]at b1;exact b1
 cases a with
 |none=>
  obtain⟨pR,vP⟩:=bo.nil rfl;simp only at pR vP;subst pR;subst vP;have ab:xs=[]:=im (by simpa using bo.len);subst ab;simp only[c9,jq]at *;have ay:0<m:=hm;have aJ:m≠0:=by omega
  have Ch:¬ (9223372036854775807<(m:Int)):=by omega
  have Ci:¬ (281474976710656<Builtin.nextslicecap m 0*i.bytes):=by rw[nextslicecap_zero ay];omega
  have az:=eZ w.drew rfl;obtain⟨a1,ba,b4,gx⟩:=PW 0;refine⟨w.heap.size,grownCap w m 0 e,_,w.drew.alloc (.cells (cq++(Builtin.zeroCells z.cells (grownCap w m 0 e-m)).toList).toArray e),?_,a1,ba,b4,gx,.inr ⟨rfl,rfl⟩⟩;simp[aU.val,Builtin.append_,run_underlying aw,run_underlying hu,sizeOf,typeInfo,zeroValue,hi,a',cu,aJ,Ch,Ci,Question.forced,run_firstCells_none,az,newRow,grownCap];congr 2;apply fZ;simp
 |some g=>
  obtain⟨ez,l4,kX,uq⟩:=bo.cap g rfl;have Je:=ax g rfl;simp only at ez l4 kX uq Je;by_cases ur:n+m<=c
  ·have gJ:n*i.size+cq.length<=aS.length:=by rw[av,ez,<-ke];exact mq _ ur
   have hL:=run_storeCells_at P g (n*i.size) e cq 0 aS.toArray w Je (by simpa using gJ) aa;simp only[ms]at hL;refine⟨g,c,aS.take (n*i.size)++cq++aS.drop (n*i.size+cq.length),_,?_,?_,ur,kX,?_,.inl ⟨rfl,rfl⟩⟩;·have az:=eZ w rfl;simp[aU.val,Builtin.append_,run_underlying aw,run_underlying hu,sizeOf,typeInfo,hi,cu,ur,az,Addr.add_lit,hL]
   ·simp only[cL,fu,rF];omega
   ·rw[uq,<-Jd];exact vG
  ·have aJ:¬ (n+m<=c):=by omega
   have Ch:¬ (9223372036854775807<((n:Int)+(m:Int))):=by omega
   have Ci:¬ (281474976710656<Builtin.nextslicecap (n+m) c*i.bytes):=by have:=growslice_fits (by omega:c<n+m) cd;omega
   have az:=eZ w.drew rfl;have x2:∀ j v,xs[j]?=some v->w.drew.cell? ((⟨g,0,none⟩:Addr).add j)=some v:=by
    intro j v ai;have Zx:w.drew.heap[g]?=some (.cells aS.toArray e (0,0)):=Je;rw[dY _ rfl,sP Zx];rw[<-uq,j']at ai;split at ai;·simpa using ai
    ·cases ai
   have Zy:=run_firstCells_some (P:=P) w.drew i.size n ⟨g,0,none⟩ n c xs bo.len x2;obtain⟨a1,ba,b4,gx⟩:=PW c;refine⟨w.heap.size,grownCap w (n+m) c e,_,w.drew.alloc (.cells (xs++cq++(Builtin.zeroCells z.cells (grownCap w (n+m) c e-(n+m))).toList).toArray e),?_,a1,ba,b4,gx,.inr ⟨rfl,rfl⟩⟩;simp[aU.val,Builtin.append_,run_underlying aw,run_underlying hu,sizeOf,typeInfo,zeroValue,hi,a',cu,aJ,Ch,Ci,Question.forced,az,Zy,newRow,grownCap];congr 2;apply fZ;simp
end
section
variable{X:cB}{β:Nat->Nat}{a:Act}{w:World}{F:Fr}{C:dp}{I:aM}{M:List aE}{o:Oper}{K:fD}
def Jf(aG:cw X.P X.E){t:Nat}(aC:o.op=.call { callee:=.builtin .append,args:=#[s,x],argTypes:=#[t,u] })(aj:∀ d,o.dst=some d->d<X.n)
 (aw:X.E t=some c8) (dQ:c8.bE=.slice e) (hu:X.E u=some lu) (fh:∀ k,lu.bE≠.int k) (he:X.E e=some aB)
  (os:aU) (bo:os.ok aB.size xs) (ar:bt F s=.val os.val)
  {rL:Value} (ab:bt F x=.val rL) (hm:0<m) (av:cq.length=m*aB.size) (aa:fN cq=true)
  (cu:∀ w',(Builtin.lenOf rL).run X.P w'=.ok m w') (eZ:∀ w,dT I M w->(Builtin.firstCells aB.size m rL).run X.P w=.ok cq.toArray w)
 (a3:M.Perm (os.aq e++Mr)) (b1:os.n+m<=maxLen) (cd:(os.n+m)*aB.bytes<=140737488355328)
  (k:∀ (g c:Nat) (aS:List Value),I g=none->aS.length=c*aB.size->os.n+m<=c->c<=maxLen->aS.take ((os.n+m)*aB.size)=xs++cq ->
   K (put o.dst (.val (.slice (some ⟨g,0,none⟩) (os.n+m) c)) F) C I (⟨g,.cells aS.toArray e (0,0)⟩::Mr)):br X o F C I M K:=by
 refine⟨λa w Q ⟨β,kh⟩=>?_⟩;have aX:cg X β a w F C I (os.aq e++Mr):=kh.hs (.perm a3 .refl);obtain⟨inf,z,hi,fq,h0,ik,kC⟩:=(aG _ _ he).inf;obtain⟨d,e0,eF⟩:=(aG _ _ hu).eW;obtain⟨ht,lz,nj⟩:=(aG _ _ aw).eW;have rM:ht=.slice e:=by rw[dQ]at nj;cases ht<;>simp_all[eR]
 subst rM;have uo:z.cells.size=inf.size:=by rw[fq,<-(aG _ _ he).len,<-kC];simp
 rw[<-fq]at bo av eZ;obtain⟨g,c,aS,w',eT,a1,ba,b4,gx,n1⟩:=PV (P:=X.P) (w:=w) t u o.type e inf z lz e0 (λk cM=>fh k (by rw[<-eF,cM];rfl)) hi ik uo bo (λg ax=>aX.holds.m ⟨g,.cells os.aS.toArray e (0,0)⟩ (by simp[aU.aq,ax])) (x:=rL) hm av (xA aa) cu (λw' Cj=>eZ w' (kh.holds.heap Cj)) b1 (by rw[h0];exact cd);rw[fq]at a1 gx;have Jg:I g=none:=by
  rcases n1 with⟨ax,_⟩ | ⟨rfl,_⟩;·exact aX.holds.d ⟨g,.cells os.aS.toArray e (0,0)⟩ (by simp[aU.aq,ax])
  ·cases bC:I w.heap.size with
   |none=>rfl| some mI=>have:=aX.holds.i _ _ bC;simp at this
 have es:=cS aX.ak ar;have ex:=cS aX.ak ab;refine iE (by rw[aC];simp) (v:=.slice (some ⟨g,0,none⟩) (os.n+m) c) (w':=w') ?_ ⟨_,_,_,_,⟨β,cg.put (x:=.val (.slice (some ⟨g,0,none⟩) (os.n+m) c)) ?_ aj rfl⟩,k g c aS Jg a1 ba b4 gx⟩
 ·unfold execOp;simp only[aC,resolve,invoke,builtin,bV,cH,bN,sV,cc,h3,es,ex,eT]
 ·rcases n1 with⟨ax,rfl⟩ | ⟨rfl,rfl⟩
  ·have ah:os.aq e=[⟨g,.cells os.aS.toArray e (0,0)⟩]:=by simp[aU.aq,ax]
   rw[ah]at aX;exact aX.vu (a5:=[]) (post:=Mr) rfl
  ·have ad:cg X β a w.drew F C I (os.aq e++Mr):=aX.world rfl;have al:=ad.nb (.cells aS.toArray e (0,0));refine al.hs (.sub ?_ .refl);exact List.Sublist.cons_cons _ (lr _ _)
def br.append(aG:cw X.P X.E){t:Nat}(aC:o.op=.call { callee:=.builtin .append,args:=#[s,x],argTypes:=#[t,t] })(aj:∀ d,o.dst=some d->d<X.n)
 (aw:X.E t=some c8) (dQ:c8.bE=.slice e) (he:X.E e=some aB)
  (os:aU) (bo:os.ok aB.size xs) (ar:bt F s=.val os.val)
 (ab:bt F x=.val (.slice (some aV) m c')) (hm:0<m) (aJ:c7 I M aV (m*aB.size) cq) (aa:fN cq=true)
 (a3:M.Perm (os.aq e++Mr)) (b1:os.n+m<=maxLen) (cd:(os.n+m)*aB.bytes<=140737488355328)
  (k:∀ (g c:Nat) (aS:List Value),aS.length=c*aB.size->os.n+m<=c->c<=maxLen->aS.take ((os.n+m)*aB.size)=xs++cq ->
   K (put o.dst (.val (.slice (some ⟨g,0,none⟩) (os.n+m) c)) F) C I (⟨g,.cells aS.toArray e (0,0)⟩::Mr)):br X o F C I M K:=by
 refine Jf aG aC aj aw dQ aw (λk=>by rw[dQ];simp) he os bo ar ab hm ?_ aa (λ_=>rfl) (λw hw=>?_) a3 b1 cd (λg c aS _=>k g c aS)
 ·obtain⟨_,_,_,_,_,_,h⟩:=aJ;exact h
 ·obtain⟨cZ,cs,T,ak,e',ag,av⟩:=aJ;refine run_firstCells_some (P:=X.P) w aB.size m aV m c' cq av λj v ai=>?_;rw[dY _ cZ,sP (e'.heap hw)];rw[<-ag,j']at ai;split at ai
  ·rw[na]at ai;simpa using ai
  ·cases ai
def br.PX(aG:cw X.P X.E){t:Nat}(aC:o.op=.call { callee:=.builtin .append,args:=#[s,x],argTypes:=#[t,t] })(aj:∀ d,o.dst=some d->d<X.n)
 (aw:X.E t=some c8) (dQ:c8.bE=.slice e) (he:X.E e=some aB)
  (os:aU) (bo:os.ok aB.size xs) (ar:bt F s=.val os.val)
 (ab:bt F x=.val (.slice (some aV) m c')) (hm:0<m) (aJ:c7 I M aV (m*aB.size) cq) (aa:fN cq=true)
 (a3:M.Perm (os.aq e++Mr)) (b1:os.n+m<=maxLen) (cd:(os.n+m)*aB.bytes<=140737488355328)
  (k:∀ (g c:Nat) (aS:List Value),I g=none->aS.length=c*aB.size->os.n+m<=c->c<=maxLen->aS.take ((os.n+m)*aB.size)=xs++cq ->
   K (put o.dst (.val (.slice (some ⟨g,0,none⟩) (os.n+m) c)) F) C I (⟨g,.cells aS.toArray e (0,0)⟩::Mr)):br X o F C I M K:=by
 refine Jf aG aC aj aw dQ aw (λk=>by rw[dQ];simp) he os bo ar ab hm ?_ aa (λ_=>rfl) (λw hw=>?_) a3 b1 cd k
 ·obtain⟨_,_,_,_,_,_,h⟩:=aJ;exact h
 ·obtain⟨cZ,cs,T,ak,e',ag,av⟩:=aJ;refine run_firstCells_some (P:=X.P) w aB.size m aV m c' cq av λj v ai=>?_;rw[dY _ cZ,sP (e'.heap hw)];rw[<-ag,j']at ai;split at ai
  ·rw[na]at ai;simpa using ai
  ·cases ai
def jT(s:ByteArray):List Value:=s.data.toList.map λb=>.int .u8 b.toNat
def br.Zz(aG:cw X.P X.E){t:Nat}(aC:o.op=.call { callee:=.builtin .append,args:=#[s,x],argTypes:=#[t,u] })(aj:∀ d,o.dst=some d->d<X.n)
 (aw:X.E t=some c8) (dQ:c8.bE=.slice e) (hu:X.E u=some lu) (fh:lu.bE=.string) (he:X.E e=some aB) (cx:aB.size=1)
  (os:aU) (bo:os.ok aB.size xs) (ar:bt F s=.val os.val)
  {str:ByteArray} (ab:bt F x=.val (.string str)) (hm:0<str.size)
 (a3:M.Perm (os.aq e++Mr)) (b1:os.n+str.size<=maxLen) (cd:(os.n+str.size)*aB.bytes<=140737488355328)
  (k:∀ (g c:Nat) (aS:List Value),aS.length=c*aB.size->os.n+str.size<=c->c<=maxLen->aS.take ((os.n+str.size)*aB.size)=xs++jT str ->
   K (put o.dst (.val (.slice (some ⟨g,0,none⟩) (os.n+str.size) c)) F) C I (⟨g,.cells aS.toArray e (0,0)⟩::Mr)):br X o F C I M K:=by
 refine Jf aG aC aj aw dQ hu (λk=>by rw[fh];simp) he os bo ar ab hm ?_ ?_ (λ_=>rfl) (λw hw=>?_) a3 b1 cd (λg c aS _=>k g c aS)
 ·simp[jT,cx]
 ·refine fL.2 λv ag=>?_;obtain⟨b,_,rfl⟩:=cG.1 ag;rfl
 ·simp only[Builtin.firstCells,cH];congr 1;apply fZ;have aA:str.extract 0 str.size=str:=by apply sL;simp[ER]
  simp[jT,aA]
end
section
variable{X:cB}{F:Fr}{C:dp}{I:aM}{M:List aE}{o:Oper}{K:fD}
def PY{t:Nat}(aw:P.underlying t=some (.array 4 e)){k:IntKind}(he:P.underlying e=some (.int k)){inf:TypeInfo}(hi:P.info? e=some inf)(ar:inf.size=1)(e7 cf dw dM pS b1 cd fF:Int)(w:World) :
  (Op.equal t (.agg #[.int k e7,.int k cf,.int k dw,.int k dM]) (.agg #[.int k pS,.int k b1,.int k cd,.int k fF])).run P w=.ok (e7 == pS&&(cf == b1&&(dw == cd&&dM == fF))) w:=by
 have PZ:∀ (xs:Array Value) (i:Nat) (v:Value) (w:World),xs[i]?=some v->(part e xs i).run P w=.ok v w:=λxs i v w h=>by
  have BE:(isAgg e).run P w=.ok false w:=by unfold isAgg;simp[run_underlying he]
  unfold part;simp[BE,sizeOf,typeInfo,hi,ar,h]
 have hint:∀ (d:Nat) (x y:Int) (w:World),(Op.equalIn (d+1) e (.int k x) (.int k y)).run P w=.ok (x == y) w:=λd x y w=>by simp[Op.equalIn,run_underlying he]
 have key:∀ m,(∀ (x y:Int) (w:World),(Op.equalIn m e (.int k x) (.int k y)).run P w=.ok (x == y) w)->(Op.equalIn (m+1) t (.agg #[.int k e7,.int k cf,.int k dw,.int k dM]) (.agg #[.int k pS,.int k b1,.int k cd,.int k fF])).run P w=.ok (e7 == pS&&(cf == b1&&(dw == cd&&dM == fF))) w:=λm hint=>by
  rw[Op.equalIn];simp only[bV,run_underlying aw,bN,sizeOf,typeInfo,hi,run_program,cH,ar];simp only[Ph];have af:List.range' 0 ([:4]:Std.Legacy.Range).size=[0,1,2,3]:=by decide
  rw[af];have pa:=λ(i:Nat) (v:Value) (w:World)=>PZ #[.int k e7,.int k cf,.int k dw,.int k dM] i v w;have Ft:=λ(i:Nat) (v:Value) (w:World)=>PZ #[.int k pS,.int k b1,.int k cd,.int k fF] i v w;simp only[List.forIn_cons,List.forIn_nil,bV];rw[pa (0*1) (.int k e7) w rfl];simp only[bN,bV];rw[Ft (0*1) (.int k pS) w rfl];simp only[bN,bV];rw[hint];simp only[bN];cases(e7 == pS);·simp
  simp only[sW,jF,ky,cH,bN,bV];rw[pa (1*1) (.int k cf) w rfl];simp only[bN,bV];rw[Ft (1*1) (.int k b1) w rfl];simp only[bN,bV];rw[hint];simp only[bN];cases(cf == b1);·simp
  simp only[sW,jF,ky,cH,bN,bV];rw[pa (2*1) (.int k dw) w rfl];simp only[bN,bV];rw[Ft (2*1) (.int k cd) w rfl];simp only[bN,bV];rw[hint];simp only[bN];cases(dw == cd);·simp
  simp only[sW,jF,ky,cH,bN,bV];rw[pa (3*1) (.int k dM) w rfl];simp only[bN,bV];rw[Ft (3*1) (.int k fF) w rfl];simp only[bN,bV];rw[hint];simp only[bN];cases(dM == fF);·simp
  simp
 exact key 9999 (hint 9998)
def ft.P0{E:Env}(aG:cw P E){t:Nat}(aw:E t=some c8)(dQ:c8.bE=.array 4 e)(he:E e=some aB){k:IntKind}(kF:aB.bE=.int k)(ax:P.eqGuardType P.depth t=false){e7 cf dw dM pS b1 cd fF:Int}{V:Value->Prop}
  (h:V (.bool (e7 == pS&&(cf == b1&&(dw == cd&&dM == fF))))):ft P .eql t x y (.val (.agg #[.int k e7,.int k cf,.int k dw,.int k dM])) (.val (.agg #[.int k pS,.int k b1,.int k cd,.int k fF])) V other:=by
 obtain⟨d,e0,eF⟩:=(aG _ _ aw).eW;obtain⟨n2,Jh,Ji⟩:=(aG _ _ he).eW;obtain⟨inf,z,hi,fq,_⟩:=(aG _ _ he).inf;have aa:d=.array 4 e:=by rw[dQ]at eF;cases d<;>simp_all[eR]
 have ad:n2=.int k:=by rw[kF]at Ji;cases n2<;>simp_all[eR]
 subst aa;subst ad;have fc:inf.size=1:=by rw[fq];exact(aG _ _ he).EU (by rw[kF];rfl)
 refine .mk _ _ _ rfl rfl (λw=>?_) h;simp only[bV,run_eqGuard_agg (hm:=ax),bN,binOp,PY e0 Jh hi fc,cH]
def ft.concat{t:Nat}{a b:ByteArray}(ar:a.size+b.size<=9223372036854775807){V:Value->Prop}(h:V (.string (a++b))):ft P .add t x y (.val (.string a)) (.val (.string b)) V other:=by refine .mk _ _ _ rfl rfl (λw=>?_) h;simp only[bV,IH,bN,binOp,run_string_add_sum _ _ _ ar,cH]
end
section
variable{X:cB}{β:Nat->Nat}{a:Act}{w:World}{F:Fr}{C:dp}{I:aM}{M:List aE}{o:Oper}{K:fD}
def cg.P1{n:Nat}{mI:Obj}(h:cg X β a w F C I (⟨n,mI⟩::M))(ar:w'.heap.size=w.heap.size)(ah:∀ b,b≠n->w'.heap[b]?=w.heap[b]?)(aC:mv w w'):cg X β a w' F C I M:=by
 have ga:(⟨n,mI⟩:aE)∈(⟨n,mI⟩:aE)::M:=by simp
 have bJ:=h.holds.bX;simp only[cc,kN]at bJ;exact {
  size:=h.size
  defers:=h.defers.mono λr af=>by have bs:n≠r:=af.ef _ ga;refine { af with ec:=?_,ef:=λx ab=>af.ef x (by simp[ab]) };rw[ah r (pE bs)];exact af.ec
  holds:={
   i:=λb o iF=>by rw[ah b (λe=>by have:=h.holds.d _ ga;simp only at this;rw[e,this]at iF;cases iF)];exact h.holds.i b o iF
   m:=λx ab=>by rw[ah _ (λe=>bJ.1 (cG.2 ⟨x,ab,e⟩))];exact h.holds.m x (by simp[ab])
   d:=λx ab=>h.holds.d x (by simp[ab])
   bX:=bJ.2 }
  ak:=h.ak
  bR:=λs cs lq=>by have rD:=h.bR s cs lq;have bs:n≠β s:=rD.ef _ ga;obtain⟨T,bl⟩:=rD.ec;refine { rD with ec:=⟨T,?_⟩,ef:=λx ab=>rD.ef x (by simp[ab]) };rw[ah _ (pE bs)];exact bl
  inj:=h.inj
  g9:=h.g9
  gT:=h.gT
  own:=λx ab=>h.own x (by simp[ab])
  dA:=λb aW az=>by
   rw[ah b (λe=>by
    rcases h.own _ ga with aa | aa;·simp only at aa;exact az (e ▸ aa)
    ·simp only at aa;omega)]
   exact h.dA b aW az
  out:=h.out.trans aC
  sz:=by rw[ar];exact h.sz
  eI:=h.eI }
def ZA(w:World)(p:Addr)(n:Nat):(w.freeze p n).heap.size=w.heap.size:=by
 unfold World.freeze;split<;>simp
def ZB(w:World)(p:Addr)(n:Nat):mv w (w.freeze p n):=by
 unfold World.freeze;split<;>exact⟨rfl,rfl⟩
def ZC(w:World)(p:Addr)(n b:Nat)(h:b≠p.block):(w.freeze p n).heap[b]?=w.heap[b]?:=by
 unfold World.freeze;split
 ·rfl
 ·simp only[Array.getElem?_modify];rw[ca (pE h)]
def br.Jj(aG:cw X.P X.E){n:Operand}(aC:o.op=.call { callee:=.builtin .unsafeString,args:=#[p,n],argTypes:=#[rH,it] })(aj:∀ d,o.dst=some d->d<X.n)
 (aw:X.E rH=some c8) (dQ:c8.bE=.pointer e) (he:X.E e=some aB) (kF:aB.size=1)
 {l:List UInt8} (aO:bt F p=.val (.pointer (some ⟨g,0,none⟩))) (aJ:bt F n=.val (.int .i64 l.length)) (ay:l≠[]) (Jk:l.length<=9223372036854775807)
 (a3:M.Perm (⟨g,.cells cs e (0,0)⟩::Mr)) (lq:cs.toList.take l.length=l.map λb=>.int .u8 b.toNat)
  (h:K (put o.dst (.val (.string ⟨l.toArray⟩)) F) C I Mr):br X o F C I M K:=by
 refine⟨λa w Q ⟨β,kh⟩=>?_⟩;have aX:cg X β a w F C I (⟨g,.cells cs e (0,0)⟩::Mr):=kh.hs (.perm a3 .refl);have ax:w.heap[g]?=some (.cells cs e (0,0)):=aX.holds.m ⟨g,.cells cs e (0,0)⟩ (by simp);obtain⟨d,e0,eF⟩:=(aG _ _ aw).eW;have aa:d=.pointer e:=by rw[dQ]at eF;cases d<;>simp_all[eR]
 subst aa;obtain⟨inf,z,hi,fq,_⟩:=(aG _ _ he).inf;have au:X.P.cellsOf e=1:=by simp[Program.cellsOf,hi,fq,kF]
 have cu:l.length<=cs.size:=by have:=congrArg List.length lq;simp only[fu,bO,xS]at this;omega
 have eT:=Lib.run_unsafeString_row (P:=X.P) w rH it o.type e e0 au g cs.size (by simp[World.shape?,ax]) l ay cu Jk (λj x ai=>by
  rw[dY _ rfl,sP ax];have ad:(cs.toList.take l.length)[j]?=some (.int .u8 x.toNat):=by rw[lq];simp[ai]
  rw[j']at ad;split at ad;·simpa using ad
  ·cases ad)
 have Jl:=cS aX.ak aO;have en:=cS aX.ak aJ;refine iE (by rw[aC];simp) (v:=.string ⟨l.toArray⟩) (w':=w.freeze ⟨g,0,none⟩ l.length) ?_ ⟨_,_,_,_,⟨β,cg.put (x:=.val (.string ⟨l.toArray⟩)) (aX.P1 (ZA _ _ _) (λb ah=>ZC _ _ _ _ ah) (ZB _ _ _)) aj rfl⟩,h⟩;unfold execOp;simp only[aC,resolve,invoke,builtin,bV,cH,bN,sV,cc,h3,Jl,en,eT]
def br.P2{n:Operand}(aC:o.op=.call { callee:=.builtin .unsafeString,args:=#[p,n],argTypes:=#[rH,it] })(aj:∀ d,o.dst=some d->d<X.n)
  {q:Option Addr} (aO:bt F p=.val (.pointer q)) (aJ:bt F n=.val (.int .i64 0)) (h:K (put o.dst (.val (.string .empty)) F) C I M):br X o F C I M K:=by
 refine⟨λa w Q ⟨β,aX⟩=>?_⟩;have Jl:=cS aX.ak aO;have en:=cS aX.ak aJ;refine sQ aX aj (by rw[aC];simp) ?_ h;unfold execOp;simp only[aC,resolve,invoke,builtin,bV,cH,bN,sV,cc,h3,Jl,en,Lib.run_unsafeString_none]
def br.P3(aG:cw X.P X.E){t:Nat}(aC:o.op=.call { callee:=.builtin .copy,args:=#[x,y],argTypes:=#[t,u] })(aj:∀ d,o.dst=some d->d<X.n)
 (aw:X.E t=some c8) (dQ:c8.bE=.slice e) (he:X.E e=some aB) (kF:aB.size=1)
 {off dl P4:Nat} {s:ByteArray} {T:Nat} (ab:bt F x=.val (.slice (some ⟨g,off,none⟩) dl P4)) (aD:bt F y=.val (.string s)) (bg:s.size<=dl) (gJ:off+s.size<=cs.size)
 (a3:M.Perm (⟨g,.cells cs T (0,0)⟩::Mr))
  (h:K (put o.dst (.val (.int .i64 s.size)) F) C I (⟨g,.cells (bQ cs.toList off (jT s)).toArray T (0,0)⟩::Mr)):br X o F C I M K:=by
 refine⟨λa w Q ⟨β,kh⟩=>?_⟩;have aX:cg X β a w F C I (⟨g,.cells cs T (0,0)⟩::Mr):=kh.hs (.perm a3 .refl);have ax:w.heap[g]?=some (.cells cs T (0,0)):=aX.holds.m ⟨g,.cells cs T (0,0)⟩ (by simp);obtain⟨d,e0,eF⟩:=(aG _ _ aw).eW;have aa:d=.slice e:=by rw[dQ]at eF;cases d<;>simp_all[eR]
 subst aa;obtain⟨inf,z,hi,fq,_⟩:=(aG _ _ he).inf;have av:(jT s).length=s.size:=by simp[jT]
 have aa:∀ v∈jT s,v.oneCell'=true:=λv ag=>by obtain⟨b,_,rfl⟩:=cG.1 ag;rfl
 have hL:=run_storeCells_at X.P g off T (jT s) 0 cs w ax (by rw[av];simpa using gJ) aa;simp only[ms]at hL;have ZD:Nat.min s.size dl=s.size:=oA bg;have az:(Builtin.firstCells inf.size s.size (.string s)).run X.P w=.ok (jT s).toArray w:=Pk w inf.size s;have ex:=cS aX.ak ab;have mJ:=cS aX.ak aD;have oY:=aX.vu (a5:=[]) (post:=Mr) (cs':=(bQ cs.toList off (jT s)).toArray) rfl;refine iE (by rw[aC];simp) (v:=.int .i64 s.size) (w':=w.setRow g (bQ cs.toList off (jT s)).toArray) ?_ ⟨_,_,_,_,⟨β,cg.put (x:=.val (.int .i64 s.size)) oY aj rfl⟩,h⟩;have eT:(Builtin.copy_ #[t,u] o.type #[.slice (some ⟨g,off,none⟩) dl P4,.string s]).run X.P w=.ok (.int .i64 s.size) (w.setRow g (bQ cs.toList off (jT s)).toArray):=by simp[Builtin.copy_,run_underlying e0,Builtin.lenOf,ZD,sizeOf,typeInfo,hi,az,hL,bQ,goInt]
 unfold execOp;simp only[aC,resolve,invoke,builtin,bV,cH,bN,sV,cc,h3,ex,mJ,eT]
end
structure dZ(I:aM)(a:Option Addr)(n c size b:Nat)(vs:List Value):Prop where
 len:vs.length=n*size
 cap:n<=c/\n*b<=140737488355328
 rd:n=0\/∃ aV,a=some aV/\aV.spot=none/\∃ cs T ak,I aV.block=some (.cells cs T ak)/\(cs.toList.drop aV.off).take (n*size)=vs
def dZ.mono{I:aM}{n b:Nat}(h:dZ I a n c size b vs)(bC:∀ b o,I b=some o->I' b=some o):dZ I' a n c size b vs:=
 ⟨h.len,h.cap,h.rd.imp id λ⟨aV,aa,ad,cs,T,ak,al,aL⟩=>⟨aV,aa,ad,cs,T,ak,bC _ _ al,aL⟩⟩
def dZ.idx{I:aM}{n b:Nat}(h:dZ I a n c size b vs){j:Nat}(ai:j<n) :
  ∃ aV,a=some aV/\∀ M,c7 I M (aV.add (j*size)) size ((vs.drop (j*size)).take size):=by
 obtain⟨av,_,ay | ⟨aV,aY,ar,cs,T,ak,bC,ag⟩⟩:=h
 ·omega
 ·refine⟨aV,aY,λM=>?_⟩;have bg:j*size+size<=n*size:=by have:=mq size (show j+1<=n from ai);rw[ke,oO]at this;exact this
  refine⟨by rw[dY _ ar],cs,T,ak,.inl (by rw[dY _ ar];exact bC),?_,?_⟩;·rw[dY _ ar,<-ag,zB,Ff,xU];congr 1;omega
  ·rw[fu,rF,av];omega
def dZ.one{I:aM}{n b:Nat}{f:α->Value}{l:List α}(h:dZ I a n c 1 b (l.map f)){j:Nat}(ai:j<n)(jL:j<l.length) :
  ∃ aV,a=some aV/\∀ M,c7 I M (aV.add (j*1)) 1 [f l[j]]:=by
 obtain⟨aV,aa,ad⟩:=h.idx ai;refine⟨aV,aa,λM=>?_⟩;have:=ad M;rw[gV,<-List.map_drop,<-List.map_take,e6 jL,oN,nS]at this;rw[gV];exact this
def zN{α:Type}(f:α->List Value)(size:Nat)(az:∀ x,(f x).length=size):∀ (l:List α) (j:Nat) (ai:j<l.length),((l.flatMap f).drop (j*size)).take size=f l[j]
 |x::l,0,_=>by simp only[jO,vH,xV,oM];rw[<-az x];exact vG
 |x::l,j+1,ai=>by have aR:=zN f size az l j (by simpa using ai);simp only[jO,Fa];rw[<-aR,show(j+1)*size=(f x).length+j*size from by rw[az,ke];omega,Pj]
def hM{α:Type}(f:α->List Value)(size:Nat)(az:∀ x,(f x).length=size):∀ (l:List α),(l.flatMap f).length=l.length*size
 |[]=>by simp
 |x::l=>by simp[hM f size az l,az x,ke];omega
def dZ.row{I:aM}{n b:Nat}{f:α->List Value}(az:∀ x,(f x).length=size){l:List α}(h:dZ I a n c size b (l.flatMap f)){j:Nat}(ai:j<n)(jL:j<l.length) :
  ∃ aV,a=some aV/\∀ M,c7 I M (aV.add (j*size)) size (f l[j]):=by
 obtain⟨aV,aa,ad⟩:=h.idx ai;refine⟨aV,aa,λM=>?_⟩;have:=ad M;rwa [zN f size az l j jL]at this
def c7.part{I:aM}{a:Addr}{n k:Nat}(h:c7 I M a n vs)(ae:k+m<=n):c7 I M (a.add k) m ((vs.drop k).take m):=by
 obtain⟨ar,cs,T,ak,aa,ad,al⟩:=h;refine⟨by rw[dY _ ar],cs,T,ak,by rw[dY _ ar];exact aa,?_,?_⟩
 ·rw[dY _ ar,<-ad,zB,Ff,xU];congr 1;omega
 ·rw[fu,rF,al];omega
structure an where
 k:Int
 b3:Int
 s1:Int
 s2:Int
 cm:Int
 t:ByteArray
 lo:Int
 hi:Int
 cW:Option Addr
 aT:Nat
 c5:Nat
 ap:List Int
def an.cells(d:an):List Value:=[.int .u8 d.k,.int .u64 d.b3,.int .u64 d.s1,.int .u64 d.s2,.int .u64 d.cm,.string d.t,.int .i64 d.lo,.int .i64 d.hi,.slice d.cW d.aT d.c5]
def an.val(d:an):Value:=.agg #[.int .u8 d.k,.int .u64 d.b3,.int .u64 d.s1,.int .u64 d.s2,.int .u64 d.cm,.string d.t,.int .i64 d.lo,.int .i64 d.hi,.slice d.cW d.aT d.c5]
def gy(x:Int):Prop:=-9223372036854775808<=x/\x<=9223372036854775807
def gb(x:Int):Prop:=0<=x/\x<18446744073709551616
structure an.ok(I:aM)(d:an):Prop where
 k:0<=d.k/\d.k<256
 b3:gb d.b3
 s1:gb d.s1
 s2:gb d.s2
 cm:gb d.cm
 t:d.t.size<=9223372036854775807
 lo:gy d.lo
 hi:gy d.hi
 bb:dZ I d.cW d.aT d.c5 1 8 (d.ap.map (.int .i64 ·))
 ap:∀ x∈d.ap,gy x
def an.da(d:an):d.cells.length=9:=rfl
def an.ok.aT{I:aM}{d:an}(h:d.ok I):d.ap.length=d.aT:=by have:=h.bb.len;simpa using this
structure bw where
 ns:List an
 a:Option Addr
 n:Nat
 c:Nat
 bm:Int
def bw.cells(t:bw):List Value:=[.slice t.a t.n t.c,.int .i64 t.bm]
def bw.val(t:bw):Value:=.agg #[.slice t.a t.n t.c,.int .i64 t.bm]
structure bw.ok(I:aM)(t:bw):Prop where
 bb:dZ I t.a t.n t.c 9 96 (t.ns.flatMap an.cells)
 ns:∀ d∈t.ns,d.ok I
 bm:gy t.bm
def bw.ok.n{I:aM}{t:bw}(h:t.ok I):t.ns.length=t.n:=by have:=h.bb.len;rw[hM _ 9 an.da]at this;omega
structure a2 where
 name:ByteArray
 t:bw
def a2.cells(d:a2):List Value:=[.string d.name,.slice d.t.a d.t.n d.t.c,.int .i64 d.t.bm]
structure a2.ok(I:aM)(d:a2):Prop where
 name:d.name.size<=140737488355328
 t:d.t.ok I
def a2.da(d:a2):d.cells.length=3:=rfl
structure eo where
 ds:List a2
 a:Option Addr
 n:Nat
 c:Nat
def eo.val(g:eo):Value:=.agg #[.slice g.a g.n g.c]
structure eo.ok(I:aM)(g:eo):Prop where
 bb:dZ I g.a g.n g.c 3 48 (g.ds.flatMap a2.cells)
 ds:∀ d∈g.ds,d.ok I
def eo.ok.n{I:aM}{g:eo}(h:g.ok I):g.ds.length=g.n:=by have:=h.bb.len;rw[hM _ 3 a2.da]at this;omega
def an.ok.mono{I:aM}{d:an}(h:d.ok I)(bC:∀ b o,I b=some o->I' b=some o):d.ok I':={ h with bb:=h.bb.mono bC }
def bw.ok.mono{I:aM}{t:bw}(h:t.ok I)(bC:∀ b o,I b=some o->I' b=some o):t.ok I':=⟨h.bb.mono bC,λd aj=>(h.ns d aj).mono bC,h.bm⟩
def a2.ok.mono{I:aM}{d:a2}(h:d.ok I)(bC:∀ b o,I b=some o->I' b=some o):d.ok I':=⟨h.name,h.t.mono bC⟩
def eo.ok.mono{I:aM}{g:eo}(h:g.ok I)(bC:∀ b o,I b=some o->I' b=some o):g.ok I':=⟨h.bb.mono bC,λd aj=>(h.ds d aj).mono bC⟩
def wrap_i64{x:Int}(h:gy x):IntKind.i64.wrap x=x:=by obtain⟨aa,ad⟩:=h;unfold IntKind.wrap;simp only[IntKind.bits,IntKind.signed];simp;omega
open Go Go.Proofs
def aQ(t n:Nat)(a b:Option dt):Option dt:=bif Nat.blt t n then a else b
def rN(n:Nat):Option dt:=some ⟨1,8,[.pointer none],.pointer n⟩
def js(n:Nat):Option dt:=some ⟨1,24,[.slice none 0 0],.slice n⟩
def g3:Option dt:=none
def bI:Option dt:=some ⟨1,8,[.nilFunc],.other⟩
def Jm:Option dt:=some ⟨1,8,[.int .i64 0],.int .i64⟩
def Fu:Option dt:=some ⟨1,1,[.int .u8 0],.int .u8⟩
def Jn:Option dt:=some ⟨1,8,[.int .u64 0],.int .u64⟩
def P5:Option dt:=some ⟨1,8,[.pointer none],.struct [(17,0)]⟩
def Jo:Option dt:=some ⟨1,16,[.nilIface],.other⟩
def P6:Option dt:=some ⟨1,4,[.int .i32 0],.int .i32⟩
def P7:Option dt:=some ⟨2,32,[.slice none 0 0,.int .i64 0],.struct [(29,0),(3,1)]⟩
def P8:Option dt:=some ⟨5,48,[.int .u8 0,.int .u8 0,.int .i64 0,.slice none 0 0,.int .i64 0],.struct [(5,0),(5,1),(3,2),(55,3),(3,4)]⟩
def Jp:Option dt:=some ⟨2,32,[.int .i64 0,.slice none 0 0],.struct [(3,0),(55,1)]⟩
def P9:Option dt:=some ⟨4,32,[.int .u64 0,.int .u64 0,.int .u64 0,.int .u64 0],.array 4 62⟩
def P':Option dt:=some ⟨9,96,[.int .u8 0,.int .u64 0,.int .u64 0,.int .u64 0,.int .u64 0,.string ⟨#[]⟩,.int .i64 0,.int .i64 0,.slice none 0 0],.struct [(5,0),(64,1),(9,5),(3,6),(3,7),(55,8)]⟩
def Qa:Option dt:=some ⟨3,40,[.bool false,.int .i64 0,.slice none 0 0],.struct [(4,0),(3,1),(149,2)]⟩
def Qb:Option dt:=some ⟨64,512,List.replicate 64 (.int .u64 0),.array 64 62⟩
def Qc:Option dt:=some ⟨4,16,[.int .i64 0,.int .i32 0,.int .u8 0,.int .u8 0],.struct [(2,0),(21,1),(5,2),(5,3)]⟩
def Qd:Option dt:=some ⟨2,32,[.pointer none,.slice none 0 0],.struct [(205,0),(50,1)]⟩
def Qe:Option dt:=some ⟨3,32,[.string ⟨#[]⟩,.int .i64 0,.int .i64 0],.struct [(9,0),(3,1),(3,2)]⟩
def Qf:Option dt:=some ⟨10,88,[.int .u8 0,.int .i64 0,.int .i64 0,.string ⟨#[]⟩,.int .u64 0,.int .u64 0,.int .u64 0,.int .u64 0,.int .i64 0,.int .i64 0],.struct [(5,0),(3,1),(3,2),(9,3),(64,4),(3,8),(3,9)]⟩
def Fv:Option dt:=some ⟨2,16,[.int .i64 0,.int .i64 0],.struct [(3,0),(3,1)]⟩
def Jq:Option dt:=some ⟨3,3,[.bool false,.bool false,.bool false],.struct [(4,0),(4,1),(4,2)]⟩
def Qg:Option dt:=some ⟨5,96,[.int .u8 0,.string ⟨#[]⟩,.slice none 0 0,.slice none 0 0,.slice none 0 0],.struct [(5,0),(9,1),(55,2),(55,3),(50,4)]⟩
def Qh:Option dt:=some ⟨6,64,[.string ⟨#[]⟩,.string ⟨#[]⟩,.int .u8 0,.map none,.int .i64 0,.int .i64 0],.struct [(9,0),(9,1),(5,2),(370,3),(3,4),(27,5)]⟩
def pT:Env:=λt=>bif Nat.blt t 408 then(aQ t 204 (aQ t 102 (aQ t 51 (aQ t 25 (aQ t 12 (aQ t 6 (aQ t 3 (aQ t 1 g3 (aQ t 2 bI Jm)) (aQ t 4 Jm (aQ t 5 (some ⟨1,1,[.bool false],.bool⟩) Fu))) (aQ t 9 (aQ t 7 Fu (some ⟨4,24,[.int .i64 0,.int .i64 0,.bool false,.int .u8 0],.struct [(2,0),(3,1),(4,2),(6,3)]⟩)) (some ⟨1,16,[.string ⟨#[]⟩],.string⟩))) (aQ t 18 (aQ t 15 (aQ t 13 Jn (some ⟨2,24,[.string ⟨#[]⟩,.int .u64 0],.struct [(9,0),(12,1)]⟩)) (aQ t 16 (rN 397) (aQ t 17 (rN 400) (rN 407)))) (aQ t 21 (aQ t 19 P5 (aQ t 20 P5 Jo)) (aQ t 23 (aQ t 22 P6 (js 35)) (some ⟨1,24,[.slice none 0 0],.struct [(22,0)]⟩))))) (aQ t 38 (aQ t 31 (aQ t 28 (aQ t 26 bI (aQ t 27 bI Jm)) (aQ t 29 bI (aQ t 30 (js 66) P7))) (aQ t 34 (aQ t 32 P7 (aQ t 33 g3 bI)) (aQ t 36 (some ⟨3,48,[.string ⟨#[]⟩,.slice none 0 0,.int .i64 0],.struct [(9,0),(31,1)]⟩) (aQ t 37 bI g3)))) (aQ t 44 (aQ t 41 bI (aQ t 42 bI (aQ t 43 (some ⟨4,32,[.int .i64 0,.int .i64 0,.int .i64 0,.int .i64 0],.array 4 3⟩) (js 42)))) (aQ t 47 (aQ t 45 bI (aQ t 46 bI g3)) (aQ t 49 bI (aQ t 50 bI (js 5))))))) (aQ t 76 (aQ t 63 (aQ t 57 (aQ t 54 (aQ t 52 (js 57) (aQ t 53 bI g3)) (aQ t 55 bI (aQ t 56 (js 3) P8))) (aQ t 60 (aQ t 58 P8 (aQ t 59 bI Jp)) (aQ t 61 Jp (aQ t 62 bI Jn)))) (aQ t 69 (aQ t 66 (aQ t 64 P9 (aQ t 65 P9 P')) (aQ t 67 P' bI)) (aQ t 72 bI (aQ t 74 bI (aQ t 75 g3 bI))))) (aQ t 89 (aQ t 82 bI (aQ t 85 (aQ t 83 (js 60) bI) bI)) (aQ t 95 (aQ t 92 (aQ t 90 (js 31) bI) (aQ t 93 bI (some ⟨1,24,[.slice none 0 0],.struct [(29,0)]⟩))) (aQ t 98 (aQ t 96 bI (aQ t 97 (some ⟨10,80,[.nilFunc,.nilFunc,.nilFunc,.nilFunc,.nilFunc,.nilFunc,.nilFunc,.nilFunc,.nilFunc,.nilFunc],.array 10 95⟩) bI)) (aQ t 100 (aQ t 99 (rN 94) bI) bI)))))) (aQ t 153 (aQ t 127 (aQ t 114 (aQ t 108 (aQ t 105 (aQ t 103 (some ⟨1,8,[.map none],.map 9 3⟩) (aQ t 104 g3 bI)) (aQ t 106 bI (aQ t 107 bI g3))) (aQ t 111 bI (aQ t 112 bI (aQ t 113 (rN 186) g3)))) bI) (aQ t 140 (aQ t 133 (aQ t 130 (aQ t 128 (js 129) (aQ t 129 bI Jp)) bI) (aQ t 136 (aQ t 134 bI (aQ t 135 (js 55) g3)) (aQ t 138 bI (aQ t 139 (js 4) bI)))) (aQ t 146 bI (aQ t 149 bI (aQ t 151 (aQ t 150 (js 222) Qa) (aQ t 152 Qa g3)))))) (aQ t 178 (aQ t 165 (aQ t 159 (aQ t 156 (aQ t 154 bI (aQ t 155 bI Qb)) (aQ t 157 Qb (some ⟨66,528,[.int .i64 0,.int .u64 0,.int .u64 0,.int .u64 0,.int .u64 0,.int .u64 0,.int .u64 0,.int .u64 0,.int .u64 0,.int .u64 0,.int .u64 0,.int .u64 0,.int .u64 0,.int .u64 0,.int .u64 0,.int .u64 0,.int .u64 0,.int .u64 0,.int .u64 0,.int .u64 0,.int .u64 0,.int .u64 0,.int .u64 0,.int .u64 0,.int .u64 0,.int .u64 0,.int .u64 0,.int .u64 0,.int .u64 0,.int .u64 0,.int .u64 0,.int .u64 0,.int .u64 0,.int .u64 0,.int .u64 0,.int .u64 0,.int .u64 0,.int .u64 0,.int .u64 0,.int .u64 0,.int .u64 0,.int .u64 0,.int .u64 0,.int .u64 0,.int .u64 0,.int .u64 0,.int .u64 0,.int .u64 0,.int .u64 0,.int .u64 0,.int .u64 0,.int .u64 0,.int .u64 0,.int .u64 0,.int .u64 0,.int .u64 0,.int .u64 0,.int .u64 0,.int .u64 0,.int .u64 0,.int .u64 0,.int .u64 0,.int .u64 0,.int .u64 0,.int .u64 0,.int .u64 0],.struct [(3,0),(156,1),(62,65)]⟩))) (aQ t 162 (aQ t 160 g3 bI) bI)) (aQ t 171 bI (aQ t 174 (aQ t 172 bI (aQ t 173 bI (rN 180))) (aQ t 176 (aQ t 175 g3 bI) (aQ t 177 bI (js 243)))))) (aQ t 191 (aQ t 184 (aQ t 181 (aQ t 179 (js 307) (some ⟨8,160,[.slice none 0 0,.int .i64 0,.int .i64 0,.slice none 0 0,.slice none 0 0,.slice none 0 0,.slice none 0 0,.slice none 0 0],.struct [(177,0),(3,1),(3,2),(29,3),(178,4),(22,5),(177,6),(177,7)]⟩)) (aQ t 182 bI (aQ t 183 (js 9) bI))) (aQ t 187 (aQ t 185 (js 193) (some ⟨5,112,[.string ⟨#[]⟩,.slice none 0 0,.slice none 0 0,.slice none 0 0,.slice none 0 0],.struct [(9,0),(182,1),(55,2),(29,3),(184,4)]⟩)) bI)) (aQ t 197 (aQ t 194 (aQ t 192 Qc (aQ t 193 Qc (js 192))) (aQ t 195 bI (aQ t 196 bI (js 255)))) (aQ t 200 (aQ t 198 g3 bI) bI)))))) (aQ t 306 (aQ t 255 (aQ t 229 (aQ t 216 (aQ t 210 (aQ t 207 (aQ t 205 bI (aQ t 206 (rN 207) Qd)) (aQ t 208 Qd (aQ t 209 bI Jo))) (aQ t 213 (aQ t 211 Jo (aQ t 212 g3 bI)) bI)) (aQ t 222 (aQ t 219 (aQ t 217 bI (aQ t 218 g3 bI)) (aQ t 220 bI (aQ t 221 bI Qe))) (aQ t 225 (aQ t 223 Qe (aQ t 224 (js 270) g3)) (aQ t 227 (aQ t 226 bI g3) bI)))) (aQ t 242 (aQ t 235 (aQ t 232 (aQ t 230 bI (aQ t 231 bI (some ⟨2,16,[.int .i64 0,.int .i64 0],.array 2 3⟩))) (aQ t 233 (some ⟨20,160,List.replicate 20 (.int .i64 0),.array 10 231⟩) bI)) (aQ t 238 bI (aQ t 240 (aQ t 239 bI g3) bI))) (aQ t 248 (aQ t 245 (aQ t 243 Qf (aQ t 244 Qf bI)) (aQ t 246 bI (aQ t 247 bI (some ⟨10,80,[.nilFunc,.nilFunc,.nilFunc,.nilFunc,.nilFunc,.nilFunc,.nilFunc,.nilFunc,.nilFunc,.nilFunc],.array 10 246⟩)))) (aQ t 251 bI (aQ t 253 bI (aQ t 254 (js 138) Fv)))))) (aQ t 280 (aQ t 267 (aQ t 261 (aQ t 258 (aQ t 256 Fv bI) bI) (aQ t 264 (aQ t 262 bI (aQ t 263 (rN 5) g3)) bI)) (aQ t 273 (aQ t 270 (aQ t 268 bI (aQ t 269 bI Jq)) (aQ t 271 Jq bI)) (aQ t 276 (aQ t 274 g3 bI) bI))) (aQ t 293 (aQ t 286 (aQ t 283 (aQ t 281 (js 319) (aQ t 282 g3 bI)) (aQ t 284 bI (some ⟨3,24,[.int .i64 0,.int .i64 0,.bool false],.struct [(3,0),(3,1),(4,2)]⟩))) (aQ t 289 (aQ t 287 (js 285) (aQ t 288 (rN 285) bI)) (aQ t 291 (aQ t 290 bI (some ⟨3,48,[.string ⟨#[]⟩,.string ⟨#[]⟩,.string ⟨#[]⟩],.struct [(9,0),(9,1),(9,2)]⟩)) (aQ t 292 (some ⟨30,480,List.replicate 30 (.string ⟨#[]⟩),.array 10 290⟩) bI)))) (aQ t 299 (aQ t 296 (aQ t 294 (some ⟨1,8,[.pointer none],.other⟩) (aQ t 295 bI Fv)) (aQ t 297 Fv (aQ t 298 (js 296) bI))) (aQ t 302 (aQ t 300 bI (aQ t 301 bI (some ⟨10,80,[.nilFunc,.nilFunc,.nilFunc,.nilFunc,.nilFunc,.nilFunc,.nilFunc,.nilFunc,.nilFunc,.nilFunc],.array 10 300⟩))) bI))))) (aQ t 357 (aQ t 331 (aQ t 318 (aQ t 312 (aQ t 309 (aQ t 307 Qg (aQ t 308 Qg g3)) (aQ t 310 bI (aQ t 311 bI (rN 307)))) bI) (aQ t 324 (aQ t 321 (aQ t 319 bI (aQ t 320 Jq g3)) bI) (aQ t 327 bI (aQ t 329 (aQ t 328 (some ⟨1,8,[.map none],.map 5 331⟩) bI) bI)))) (aQ t 344 (aQ t 337 (aQ t 334 (aQ t 332 bI g3) (aQ t 335 bI (aQ t 336 g3 bI))) (aQ t 340 (aQ t 338 g3 bI) (aQ t 342 bI (aQ t 343 (js 344) bI)))) (aQ t 350 (aQ t 347 (aQ t 345 (some ⟨2,2,[.int .u8 0,.int .u8 0],.array 2 5⟩) (aQ t 346 (some ⟨3,32,[.int .i64 0,.int .i64 0,.string ⟨#[]⟩],.struct [(3,0),(3,1),(9,2)]⟩) (some ⟨9,96,[.int .i64 0,.int .i64 0,.string ⟨#[]⟩,.int .i64 0,.int .i64 0,.string ⟨#[]⟩,.int .i64 0,.int .i64 0,.string ⟨#[]⟩],.array 3 345⟩))) bI) (aQ t 353 (aQ t 351 bI (aQ t 352 bI Jn)) bI)))) (aQ t 382 (aQ t 369 (aQ t 363 (aQ t 360 (aQ t 358 g3 bI) (aQ t 361 g3 (aQ t 362 bI g3))) (aQ t 366 bI (aQ t 367 bI (aQ t 368 (rN 372) bI)))) (aQ t 375 (aQ t 372 (aQ t 370 bI (aQ t 371 (some ⟨1,8,[.map none],.map 5 5⟩) Qh)) (aQ t 373 Qh (aQ t 374 g3 bI))) (aQ t 378 (aQ t 376 bI (aQ t 377 bI (some ⟨64,64,List.replicate 64 (.int .u8 0),.array 64 5⟩))) bI))) (aQ t 395 (aQ t 388 (aQ t 385 (aQ t 383 bI (aQ t 384 (some ⟨24,24,List.replicate 24 (.int .u8 0),.array 24 5⟩) bI)) (aQ t 386 g3 bI)) (aQ t 391 (aQ t 389 (some ⟨20,160,List.replicate 20 (.int .u64 0),.array 20 62⟩) (aQ t 390 (some ⟨1,4,[.int .u32 0],.int .u32⟩) (some ⟨65,65,List.replicate 65 (.int .u8 0),.array 65 5⟩))) (aQ t 393 (aQ t 392 bI g3) bI))) (aQ t 401 (aQ t 398 (aQ t 396 (some ⟨32,32,List.replicate 32 (.int .u8 0),.array 32 5⟩) (some ⟨4,40,[.pointer none,.pointer none,.pointer none,.string ⟨#[]⟩],.struct [(17,0),(17,1),(17,2),(9,3)]⟩)) (aQ t 399 (some ⟨0,0,[],.array 0 16⟩) (some ⟨0,0,[],.struct [(398,0)]⟩))) (aQ t 404 (aQ t 402 Fu (aQ t 403 Fu bI)) (aQ t 406 P6 (some ⟨11,48,[.int .u64 0,.int .u64 0,.int .u32 0,.int .u8 0,.int .u8 0,.int .u8 0,.int .u8 0,.nilFunc,.pointer none,.int .i32 0,.int .i32 0],.struct [(12,0),(12,1),(389,2),(401,3),(5,4),(5,5),(402,6),(403,7),(262,8),(404,9),(405,10)]⟩)))))))))else none
def a4:cw Tryz.prog pT:=YJ 408 (λt h=>by
 have bq:Nat.blt t 408=false:=by
  cases ah:Nat.blt t 408 with
  |false=>rfl| true=>exact absurd (bH ah) (by omega)
 simp only[pT,bq,b0]) (by kernel_rfl)
def letter(c:UInt8):Bool:=decide (97<=c.toNat/\c.toNat<=122)||(decide (65<=c.toNat/\c.toNat<=90)||decide (c.toNat=95))
def digit(c:UInt8):Bool:=decide (48<=c.toNat/\c.toNat<=57)
def Qi(I:aM)(c:UInt8):Spec Tryz.prog 166 [.int .u8 c.toNat] I [] (λv I' M'=>v=.bool (letter c)/\I'=I/\M'=[]):=by
 refine cp [] a4 Tryz.func166 rfl rfl rfl ?_;intro B ay
 repeat' (refine cP.mk (λh=>?_) (λh=>?_))
 all_goals
  refine⟨_,_,.refl,?_⟩;refine⟨?_,rfl,rfl⟩;simp_all[letter]
  all_goals first
   |omega|(rw[rq];simp;omega)
def ZE(I:aM)(c:UInt8):Spec Tryz.prog 167 [.int .u8 c.toNat] I [] (λv I' M'=>v=.bool (digit c)/\I'=I/\M'=[]):=by
 refine cp [] a4 Tryz.func167 rfl rfl rfl ?_;intro B ay
 repeat' (refine cP.mk (λh=>?_) (λh=>?_))
 all_goals
  refine⟨_,_,.refl,?_⟩;refine⟨?_,rfl,rfl⟩;simp_all[digit]
  all_goals first
   |omega|(rw[rq];simp;omega)
def x3(s:ByteArray):s.data.toList.length=s.size:=xS
def ZF(I:aM)(s:ByteArray)(ar:s.size<=140737488355328):Spec Tryz.prog 202 [.string s] I [] (λv I' M'=>v=.string s/\I'=I/\M'=[]):=by
 refine cp [] a4 Tryz.func202 rfl rfl rfl ?_;intro B ay;refine a9.mk (λh=>?_) (λh=>?_)
 ·refine⟨_,_,.refl,?_,rfl,rfl⟩;have aa:s.size=0:=by simpa using h
  have:s=.empty:=by apply sL;exact IS aa
  rw[this];rfl
 ·have aa:s.size≠0:=by simpa using h
  refine oB.mk s.size s.size rfl rfl (cI _) (by show 1*s.size<=_;omega) (by omega) ?_;refine cJ.mk λb ah uu=>?_;refine br.P3 a4 rfl (by simp) (e:=5) rfl rfl rfl rfl rfl rfl (cI _) ?_ (.refl _) ?_;·simp[qv,madeCells]
  refine bu.mk ⟨b,0,none⟩ 0 rfl rfl (by omega) ?_;refine br.Jj a4 rfl (by simp) (e:=5) rfl rfl rfl rfl (g:=b) (l:=s.data.toList) rfl ?_ ?_ ?_ (.refl _) ?_ ?_;·show dd.val (.int .i64 (s.size:Int))=dd.val (.int .i64 (s.data.toList.length:Int));rw[x3]
  ·intro e;have:=congrArg List.length e;rw[x3]at this;exact aa this
  ·rw[x3];omega
  ·rw[x3];have av:(jT s).length=s.size:=by simp[jT]
   simp only[bQ];rw[nS,jq,BU (by rw[av];exact cI _),<-av,Fc];rfl
  ·exact⟨_,_,.refl,rfl,rfl,rfl⟩
def Qj(I:aM)(s:ByteArray)(ar:s.size<=140737488355328):Spec Tryz.prog 168 [.string s] I [] (λv I' M'=>v=.string s/\I'=I/\M'=[]):=by refine cp [] a4 Tryz.func168 rfl rfl rfl ?_;intro B ay;refine bd.mk [] [] _ (.refl _) (ZF I s ar) ?_;rintro v I' M' -⟨rfl,rfl,rfl⟩;exact⟨_,_,.refl,rfl,rfl,rfl⟩
def qK(c:UInt8):Bool:=letter c||digit c
def qL(s:ByteArray):Nat:=match s.data.toList with
 |[]=>0| c::r=>bif letter c then 1+(r.takeWhile qK).length else 0
def Qk{α:Type}(p:α->Bool):∀ (l:List α) (i:Nat),i<=l.length->(∀ j (h:j<l.length),j<i->p l[j]=true)->(∀ (h:i<l.length),p l[i]=false)->(l.takeWhile p).length=i
 |[],i,h,_,_=>by simp at h;simp[h]
 |x::l,0,_,_,h=>by have:=h (by simp);simp only[oM]at this;simp[this]
 |x::l,i+1,hi,aa,ad=>by have ab:=aa 0 (by simp) (by omega);simp only[oM]at ab;have aR:=Qk p l i (by simpa using hi) (λj ai Fp=>by have:=aa (j+1) (by simpa using ai) (by omega);simpa using this) (λh=>by have:=ad (by simpa using h);simpa using this);simp[ab,aR]
def ZG{s:ByteArray}(ay:0<s.size)(av:letter s[0]=true){i:Nat}(aa:1<=i)(hi:i<=s.size)(aY:∀ j (h:j<s.size),1<=j->j<i->qK s[j]=true)(ah:∀ (h:i<s.size),qK s[i]=false):qL s=i:=by
 have get:∀ j (h:j<s.size),s[j]=s.data.toList[j]'(by rw[x3];exact h):=λj h=>rfl;unfold qL;have cu:=x3 s;cases aj:s.data.toList with
 |nil=>rw[aj]at cu;simp at cu;omega
 |cons c r=>
  have g:∀ j (h:j<s.size),s[j]=(c::r)[j]'(by rw[<-aj,cu];exact h):=λj h=>by rw[get j h];simp only[aj]
  rw[aj]at cu;have au:letter c=true:=by rw[g 0 ay]at av;simpa using av
  simp only[au,bZ];simp only[ea]at cu;rw[Qk qK r (i-1) (by omega) (λj ai Fp=>by
   have al:j+1<s.size:=by omega
   have:=aY (j+1) al (by omega) (by omega);rw[g (j+1) al]at this;simpa using this) (λh=>by
   have al:i<s.size:=by omega
   have:=ah al;rw[g i al]at this;have e:i=(i-1)+1:=by omega
   rw[List.getElem_cons]at this;rw[dif_neg (by omega)]at this;exact this)]
  omega
def ZH(I:aM)(s:ByteArray)(ar:s.size<=140737488355328):Spec Tryz.prog 118 [.string s] I [] (λv I' M'=>v=.string (s.extract 0 (qL s))/\I'=I/\M'=[]):=by
 refine cp [] a4 Tryz.func118 rfl rfl rfl ?_;intro B ay;have c1:∀ {s:ByteArray},qL s=0->s.extract 0 (qL s)=⟨#[]⟩:=λh=>by rw[h];apply sL;simp[ER]
 refine cP.mk (λh=>?_) (λh=>?_)
 ·have aa:s≠⟨#[]⟩:=by simpa using h
  have lp:0<s.size:=by refine Nat.pos_of_ne_zero λe=>aa ?_;apply sL;exact IS e
  refine xw.mk 0 rfl lp ?_;refine bd.mk [] [] _ (.refl _) (Qi I s[0]) ?_;rintro v I' M' -⟨rfl,rfl,rfl⟩;refine a9.mk (λh=>?_) (λh=>?_)
  ·have av:letter s[0]=false:=by simpa using h
   refine⟨_,_,.refl,?_,rfl,rfl⟩;rw[c1]
   ·unfold qL;cases aj:s.data.toList with
    |nil=>rfl
    |cons c r=>
     have:s[0]=c:=by show s.data.toList[0]=c;simp only[aj];rfl
     rw[this]at av;simp[av]
  ·have av:letter s[0]=true:=by simpa using h
   refine dI.inv (ι:=Nat) (λi=>{ bn:=[(0,.val (.string s)),(3,.val (.int .i64 i))],c2:=I' }) (λi=>1<=i/\i<=s.size/\∀ j (h:j<s.size),1<=j->j<i->qK s[j]=true) (λi=>s.size-i) ?_ ?_;·exact⟨1,⟨by omega,by omega,λj _ aa ad=>by omega⟩,.refl,uf,.nil⟩
   ·rintro i⟨fq,h0,ik⟩;have next:∀ (aW:i<s.size),qK s[i]=true->(1<=i+1/\i+1<=s.size/\∀ k (h:k<s.size),1<=k->k<i+1->qK s[k]=true)/\s.size-(i+1)<s.size-i:=λaW au=>
     ⟨⟨by omega,by omega,λj ai aa ad=>by
      by_cases e:j=i;·subst e;exact au
      ·exact ik j ai aa (by omega)⟩,by omega⟩
    have out:(∀ (h:i<s.size),qK s[i]=false)->s.extract 0 i=s.extract 0 (qL s):=λaJ=>by rw[ZG lp av fq h0 ik aJ]
    have cx:(s.extract 0 i).size<=140737488355328:=by rw[ByteArray.size_extract];omega
    have fG:IntKind.i64.wrap ((i:Int)+1)=((i+1:Nat):Int):=by rw[wrap_i64 ⟨by omega,by omega⟩];omega
    refine cP.mk (λh=>?_) (λh=>?_)
    ·have aW:i<s.size:=by simpa using h
     refine xw.mk i rfl aW ?_;refine bd.mk [] [] _ (.refl _) (Qi I' s[i]) ?_;rintro v I' M' -⟨rfl,rfl,rfl⟩;refine cP.mk (λh=>?_) (λh=>?_)
     ·refine xw.mk i rfl aW ?_;refine bd.mk [] [] _ (.refl _) (ZE _ s[i]) ?_;rintro v I' M' -⟨rfl,rfl,rfl⟩;refine a9.mk (λad=>?_) (λad=>?_)
      ·refine bi.mk _ fG ?_;exact⟨i+1,next aW (by simp only[qK];rw[show digit s[i]=true from ad];simp),.refl,uf,.nil⟩
      ·refine kA.mk 0 i rfl rfl (by omega) (by omega) ?_;refine bd.mk [] [] _ (.refl _) (Qj _ _ cx) ?_;rintro v I' M' -⟨rfl,rfl,rfl⟩;refine⟨_,_,.refl,?_,rfl,rfl⟩;rw[<-out λ_=>by simp only[qK];rw[show letter s[i]=false from h,show digit s[i]=false from ad];rfl]
     ·refine bi.mk _ fG ?_;exact⟨i+1,next aW (by simp only[qK];rw[show letter s[i]=true from h];simp),.refl,uf,.nil⟩
    ·have cV:¬ i<s.size:=by simpa using h
     refine kA.mk 0 i rfl rfl (by omega) (by omega) ?_;refine bd.mk [] [] _ (.refl _) (Qj _ _ cx) ?_;rintro v I' M' -⟨rfl,rfl,rfl⟩;refine⟨_,_,.refl,?_,rfl,rfl⟩;rw[<-out λh=>(cV h).elim]
 ·have aa:s=⟨#[]⟩:=by simpa using h
  subst aa;refine⟨_,_,.refl,?_,rfl,rfl⟩;rw[c1];rfl
def mK(s:ByteArray):Bool:=decide (s≠⟨#[]⟩)&&(decide (s.size<=32)&&decide (qL s=s.size))
def ZI(s:ByteArray):qL s<=s.size:=by
 unfold qL;have av:=x3 s;cases aj:s.data.toList with
 |nil=>simp
 |cons c r=>
  rw[aj]at av;simp only[ea]at av;simp only;cases letter c;·simp
  ·simp only[bZ];have:=(List.takeWhile_sublist (p:=qK) (l:=r)).length_le;omega
def Jr(I:aM)(s:ByteArray):Spec Tryz.prog 65 [.string s] I [] (λv I' M'=>v=.bool (mK s)/\I'=I/\M'=[]):=by
 refine cp [] a4 Tryz.func65 rfl rfl rfl ?_;intro B ay;refine cP.mk (λaa=>?_) (λaa=>?_)
 ·refine cP.mk (λad=>?_) (λad=>?_)
  ·have mL:s.size<=32:=by simp at ad;omega
   refine bd.mk [] [] _ (.refl _) (ZH I s (by omega)) ?_;rintro v I' M' -⟨rfl,rfl,rfl⟩;refine⟨_,_,.refl,?_,rfl,rfl⟩;have bg:=ZI s;have aA:(s.extract 0 (qL s)).size=qL s:=by rw[ByteArray.size_extract];omega
   simp_all[mK]
   all_goals omega
  ·refine⟨_,_,.refl,?_,rfl,rfl⟩;simp_all[mK]
   all_goals omega
 ·refine⟨_,_,.refl,?_,rfl,rfl⟩;simp_all[mK]
def jU:List Int:=[0,0,0,0,0,0,0,0,2,-1,2,-1,1,1,1,1,1,1,1,1]
def rO(k:Nat):Int:=jU.getD (k*2) 0
def pU(k:Nat):Int:=jU.getD (k*2+1) 0
def oZ(I:aM):Prop:=∃ T ak,I 0=some (.cells (jU.map (Value.int .i64)).toArray T ak)
def oZ.rd{I:aM}(h:oZ I)(M:List aE){j:Nat}(ai:j<20):c7 I M (Addr.add ⟨0,0,none⟩ j) 1 [.int .i64 (jU.getD j 0)]:=by
 obtain⟨T,ak,h⟩:=h;rw[dY _ rfl];refine⟨rfl,_,T,ak,.inl h,?_,rfl⟩;simp only[c9];have:∀ j:Fin 20,(((jU.map (Value.int .i64)).toArray.toList.drop j.val).take 1)=[Value.int .i64 (jU.getD j.val 0)]:=by
  intro j;have aa:j.val<(jU.map (Value.int .i64)).length:=by simp[jU]
  rw[Iv,e6 aa,oN,nS];have ad:j.val<jU.length:=by simp[jU]
  simp[cv,ad]
 exact this ⟨j,ai⟩
def oZ.ZJ{I:aM}(h:oZ I)(M:List aE){i j:Nat}(ai:i+j<20):c7 I M ((Addr.add ⟨0,0,none⟩ i).add j) 1 [.int .i64 (jU.getD (i+j) 0)]:=by
 have e:(Addr.add ⟨0,0,none⟩ i).add j=Addr.add ⟨0,0,none⟩ (i+j):=by rw[dY ⟨_,0,none⟩ rfl i,dY _ rfl j,dY _ rfl (i+j)];simp
 rw[e];exact h.rd M ai
def an.o0(d:an):Bool:=d.b3 == 0&&(d.s1 == 0&&(d.s2 == 0&&d.cm == 0))
def fits(d:an)(n:Int):Bool:=
 bif decide (10<=d.k)then false else
 bif decide (n<rO d.k.toNat)||(decide (0<=pU d.k.toNat)&&decide (pU d.k.toNat<n))then false else
 bif decide (d.k=1)then decide (d.t=⟨#[]⟩)&&(decide (d.lo=0)&&decide (d.hi=0))else
 bif decide (d.k=2)then(!(decide (d.t=⟨#[]⟩)||decide (255<d.t.size)))&&(d.o0&&(decide (d.lo=0)&&decide (d.hi=0)))else
 bif decide (d.k=3)||decide (d.k=9)then mK d.t&&(d.o0&&(decide (d.lo=0)&&decide (d.hi=0)))else
 bif decide (d.k=6)then(!(decide (d.lo<0)||(decide (99<d.lo)||(decide (d.hi≠-1)&&(decide (d.hi<d.lo)||decide (99<d.hi))))))&&(d.o0&&decide (d.t=⟨#[]⟩))else
 d.o0&&(decide (d.t=⟨#[]⟩)&&(decide (d.lo=0)&&decide (d.hi=0)))
set_option maxHeartbeats 4000000 in
def Js{I:aM}(au:oZ I){d:an}(aj:d.ok I)(n:Int):Spec Tryz.prog 109 [d.val,.int .i64 n] I [] (λv I' M'=>v=.bool (fits d n)/\I'=I/\M'=[]):=by
 refine cp [] a4 Tryz.func109 rfl rfl rfl ?_;intro B ay;have ae:=aj.k;refine bi.mk d.k (by unfold IntKind.wrap;simp[IntKind.bits,IntKind.signed];omega) ?_;refine a9.mk (λh=>?_) (λh=>?_)
 ·refine⟨_,_,.refl,?_,rfl,rfl⟩;simp at h;simp[fits,h]
 ·have rP:d.k<10:=by simpa using h
  have ai:d.k=((d.k.toNat:Nat):Int):=by omega
  have Ql:d.k.toNat<10:=by omega
  refine dh.draw a4 rfl rfl rfl ?_;refine dP.mk d.k.toNat ai Ql ?_;refine dP.mk 0 rfl (by omega) ?_;refine aZ.mk [.int .i64 (rO d.k.toNat)] (au.rd _ (j:=d.k.toNat*2) (by omega)) ?_;refine dP.mk d.k.toNat ai Ql ?_;refine dP.mk 1 rfl (by omega) ?_;refine aZ.mk [.int .i64 (pU d.k.toNat)] (au.ZJ _ (i:=d.k.toNat*2) (j:=1) (by omega)) ?_
  repeat' first
   |refine cP.mk (λh=>?_) (λh=>?_)| refine a9.mk (λh=>?_) (λh=>?_)| refine ft.P0 a4 (e:=62) rfl rfl rfl rfl (by kernel_rfl) ?_|(refine bd.mk [] [] _ (.refl _) (Jr _ _) ?_;rintro v I' M' -⟨rfl,rfl,rfl⟩)
  all_goals refine⟨_,_,.refl,?_⟩
  all_goals refine⟨?_,rfl,rfl⟩
  all_goals clear au aj ai
  all_goals (first | (simp_all[fits,an.o0];done) | (simp_all[fits,an.o0];omega) | (simp_all[fits,an.o0];rw[rq];simp;omega))
def jt(i:Nat):List Int->List Bool->Option (List Bool)
 |[],s=>some s| k::ks,s=>bif decide (k<0)||(decide ((i:Int)<=k)||s.getD k.toNat false)then none else jt i ks (s.set k.toNat true)
def h5:Nat->List an->List Bool->Option (List Bool)
 |_,[],s=>some s
 |i,d::ds,s=>bif fits d d.ap.length then(match jt i d.ap s with
  |some bP=>h5 (i+1) ds bP| none=>none)else none
def o1(bm:Int):Nat->List Bool->Bool
 |_,[]=>true| i,b::s=>bif b == decide ((i:Int)=bm)then false else o1 bm (i+1) s
def right(t:bw):Bool:=decide (0<=t.bm)&&(decide (t.bm<t.ns.length)&&(match h5 0 t.ns (List.replicate t.ns.length false)with
 |some s=>o1 t.bm 0 s| none=>false))
def Ck(v:Value)(n:Nat):rowOf [v] n=List.replicate n v:=by
 apply qD
 ·simp[qv,madeCells]
 ·intro i aa ad;simp[qv,madeCells,Nat.mod_one]
def vQ(b:Nat)(s:List Bool):aE:=⟨b,.cells (s.map Value.bool).toArray 4 (0,0)⟩
def Qm{I:aM}{b:Nat}{s:List Bool}(a3:vQ b s∈M){j:Nat}(ai:j<s.length):c7 I M ((⟨b,0,none⟩:Addr).add (j*1)) 1 [.bool s[j]]:=by
 rw[dY _ rfl];refine⟨rfl,_,4,(0,0),.inr ⟨_,a3,rfl,rfl⟩,?_,rfl⟩;have aa:j<(s.map Value.bool).length:=by simpa using ai
 simp only[c9,gV];rw[e6 aa,oN,nS];simp
def ZK(s:List Bool)(j:Nat)(ai:j<s.length)(b:Bool):bQ (s.map Value.bool) j [.bool b]=(s.set j b).map Value.bool:=by unfold bQ;rw[ug,BT];simp[ai]
def cn.add{b o k:Nat}(a5 post:List aE)(cs:Array Value)(T:Nat)(a3:M=a5++⟨b,.cells cs T (0,0)⟩::post)(ah:o+k+vs.length<=cs.size)(aa:fN vs=true)
  (h:K (a5++⟨b,.cells (bQ cs.toList (o+k) vs).toArray T (0,0)⟩::post)):cn M ((⟨b,o,none⟩:Addr).add k) vs K:=by
 rw[dY _ rfl];exact .mk a5 post cs T a3 rfl ah aa h
def cn.iM{b o k:Nat}(a5 post:List aE)(cs:List Value)(T:Nat)(a3:M=a5++⟨b,.cells cs.toArray T (0,0)⟩::post)(ah:Nat.ble (o+k+vs.length) cs.length=true)(aa:fN vs=true)(cs':List Value)(he:bQ cs (o+k) vs=cs')(h:K (a5++⟨b,.cells cs'.toArray T (0,0)⟩::post)):cn M ((⟨b,o,none⟩:Addr).add k) vs K:=
 cn.add a5 post _ _ a3 (by simpa using bH ah) aa (by rw[<-he]at h;exact h)
def rQ{I:aM}(au:oZ I){t:bw}(aw:t.ok I):Spec Tryz.prog 60 [t.val] I [] (λv I' M'=>v=.bool (right t)/\I'=I/\M'=[]):=by
 refine cp [] a4 Tryz.func60 rfl rfl rfl ?_;intro B ay;have aJ:=aw.n;have iN:=aw.bb.cap;refine cP.mk (λaa=>?_) (λaa=>?_)
 ·refine a9.mk (λad=>?_) (λad=>?_)
  ·refine⟨_,_,.refl,?_,rfl,rfl⟩;simp at ad;have:¬ t.bm<t.ns.length:=by omega
   simp[right,this]
  ·have a1:0<=t.bm:=by simpa using aa
   have ba:t.bm<t.ns.length:=by simp at ad;omega
   refine oB.mk t.n t.n rfl rfl (cI _) (by show 1*t.n<=_;omega) (by omega) ?_;refine cJ.mk λb ah uu=>?_;refine dI.inv (ι:=Nat×List Bool) (λx=>{ bn:=[(1,.ref 1 0),(3,.val (.slice (some ⟨b,0,none⟩) t.n t.n)),(26,.val (.slice t.a t.n t.c)),(27,.val (.int .i64 t.n)),(28,.val (.int .i64 x.1))],cl:=[(1,t.cells)],c2:=I,dx:=[vQ b x.2] }) (λx=>x.1<=t.n/\x.2.length=t.n/\h5 0 t.ns (List.replicate t.ns.length false)=h5 x.1 (t.ns.drop x.1) x.2) (λx=>t.n-x.1) ?_ ?_;·refine⟨(0,List.replicate t.n false),⟨by omega,by simp,by simp[aJ]⟩,?_,iJ,.cons rfl .nil⟩;show hY _ _ [⟨b,.cells (rowOf [Value.bool false] (t.n*1)).toArray 4 (0,0)⟩] _ [vQ b (List.replicate t.n false)];rw[Ck,gV];simp only[vQ,BX];exact .refl
   ·rintro⟨i,s⟩⟨fq,h0,ik⟩;simp only at fq h0 ik;refine a9.mk (λh=>?_) (λh=>?_)
    ·have aW:i<t.n:=by simpa using h
     have cy:i<t.ns.length:=by omega
     obtain⟨aV,bU,bB⟩:=aw.bb.row an.da aW cy;have fS:=aw.ns t.ns[i] (b9 cy);have e':=fS.aT;have kj:t.ns.drop i=t.ns[i]::t.ns.drop (i+1):=e6 cy;refine bu.mk aV i bU rfl aW ?_;refine aZ.mk t.ns[i].cells (bB _) ?_;refine bd.mk [] [vQ b s] _ (.refl _) (Js au fS t.ns[i].aT) ?_;rintro v I' M' -⟨rfl,rfl,rfl⟩;refine a9.mk (λal=>?_) (λal=>?_)
     ·refine⟨_,_,.sub (gn _) .refl,?_,rfl,rfl⟩;have az:fits t.ns[i] t.ns[i].ap.length=false:=by rw[e'];simpa using al
      have:right t=false:=by unfold right;rw[ik,kj];simp[h5,az]
      rw[this]
     ·have az:fits t.ns[i] t.ns[i].ap.length=true:=by rw[e'];simpa using al
      refine dI.inv (ι:=Nat×List Bool) (λx=>{ bn:=[(1,.ref 1 0),(3,.val (.slice (some ⟨b,0,none⟩) t.n t.n)),(4,.val (.int .i64 i)),(26,.val (.slice t.a t.n t.c)),(27,.val (.int .i64 t.n)),(28,.val (.int .i64 i)),(40,.val (.slice t.ns[i].cW t.ns[i].aT t.ns[i].c5)),(41,.val (.int .i64 t.ns[i].aT)),(42,.val (.int .i64 x.1))],cl:=[(1,t.cells)],c2:=I',dx:=[vQ b x.2] }) (λx=>x.1<=t.ns[i].aT/\x.2.length=t.n/\jt i t.ns[i].ap s=jt i (t.ns[i].ap.drop x.1) x.2) (λx=>t.ns[i].aT-x.1) ?_ ?_;·exact⟨(0,s),⟨by omega,h0,rfl⟩,.refl,nP,.cons rfl .nil⟩
      ·rintro⟨j,bP⟩⟨Fw,vR,zO⟩;simp only at Fw vR zO;refine a9.mk (λh=>?_) (λh=>?_)
       ·have fx:j<t.ns[i].aT:=by simpa using h
        have mM:j<t.ns[i].ap.length:=by omega
        obtain⟨gp,fe,e1⟩:=fS.bb.one fx mM;refine bu.mk gp j fe rfl fx ?_;refine aZ.mk [.int .i64 t.ns[i].ap[j]] (e1 _) ?_;have ir:t.ns[i].ap.drop j=t.ns[i].ap[j]::t.ns[i].ap.drop (j+1):=e6 mM;have bad:(decide (t.ns[i].ap[j]<0)||(decide ((i:Int)<=t.ns[i].ap[j])||bP.getD t.ns[i].ap[j].toNat false))=true->right t=false:=λah=>by unfold right;rw[ik,kj];simp only[h5,az,bZ,zO,ir,jt,ah];simp
        refine cP.mk (λaL=>?_) (λaL=>?_)
        ·refine cP.mk (λbG=>?_) (λbG=>?_)
         ·simp only[pM,Int.not_lt,Int.not_le]at aL bG;have jV:t.ns[i].ap[j]=((t.ns[i].ap[j].toNat:Nat):Int):=by omega
          have c0:t.ns[i].ap[j].toNat<t.n:=by omega
          have uv:t.ns[i].ap[j].toNat<bP.length:=by omega
          refine bu.mk ⟨b,0,none⟩ t.ns[i].ap[j].toNat rfl jV c0 ?_;refine aZ.mk [.bool bP[t.ns[i].ap[j].toNat]] (Qm (by simp) uv) ?_;refine a9.mk (λcr=>?_) (λcr=>?_);·refine⟨_,_,.sub (gn _) .refl,?_,rfl,rfl⟩;rw[bad];simp[cv,uv,cr]
          ·refine bu.mk ⟨b,0,none⟩ t.ns[i].ap[j].toNat rfl jV c0 ?_;refine cn.add [] [] _ 4 rfl ?_ rfl ?_
           ·simp only[rE,bO];show 0+t.ns[i].ap[j].toNat*1+1<=_;omega
           have fG:IntKind.i64.wrap ((j:Int)+1)=((j+1:Nat):Int):=by rw[wrap_i64 ⟨by omega,by have:=fS.bb.cap;omega⟩];omega
           refine bi.mk _ fG ?_;refine⟨(j+1,bP.set t.ns[i].ap[j].toNat true),⟨⟨by omega,by simp[vR],?_⟩,by show _<_;simp only;omega⟩,?_,nP,.cons rfl .nil⟩
           ·simp only;rw[zO,ir];have aK:(decide (t.ns[i].ap[j]<0)||(decide ((i:Int)<=t.ns[i].ap[j])||bP.getD t.ns[i].ap[j].toNat false))=false:=by
             have aA:¬ t.ns[i].ap[j]<0:=by omega
             have a0:¬ (i:Int)<=t.ns[i].ap[j]:=by omega
             simp[aA,a0,cv,uv,show bP[t.ns[i].ap[j].toNat]=false from cr]
            simp only[jt,aK,b0]
           ·have e:=ZK bP t.ns[i].ap[j].toNat uv true;simp only[vQ];rw[<-e];simp only[c9,gV];exact .refl
         ·refine⟨_,_,.sub (gn _) .refl,?_,rfl,rfl⟩;rw[bad];simp at bG;simp[bG]
        ·refine⟨_,_,.sub (gn _) .refl,?_,rfl,rfl⟩;rw[bad];simp at aL;simp[aL]
       ·have fx:¬ j<t.ns[i].aT:=by simpa using h
        have x4:t.ns[i].ap.drop j=[]:=ls (by omega);have fG:IntKind.i64.wrap ((i:Int)+1)=((i+1:Nat):Int):=by rw[wrap_i64 ⟨by omega,by omega⟩];omega
        refine bi.mk _ fG ?_;refine⟨(i+1,bP),⟨⟨by omega,vR,?_⟩,by show _<_;simp only;omega⟩,.refl,iJ,.cons rfl .nil⟩;simp only;rw[ik,kj];simp only[h5,az,bZ,zO,x4,jt]
    ·have cV:¬ i<t.n:=by simpa using h
     have g':t.ns.drop i=[]:=ls (by omega);have dN:h5 0 t.ns (List.replicate t.ns.length false)=some s:=by rw[ik,g'];rfl
     have af:right t=o1 t.bm 0 s:=by unfold right;rw[dN];simp[a1,ba]
     refine dI.inv (ι:=Nat) (λm=>{ bn:=[(1,.ref 1 0),(64,.val (.slice (some ⟨b,0,none⟩) t.n t.n)),(65,.val (.int .i64 t.n)),(66,.val (.int .i64 m))],cl:=[(1,t.cells)],c2:=I,dx:=[vQ b s] }) (λm=>m<=t.n/\o1 t.bm 0 s=o1 t.bm m (s.drop m)) (λm=>t.n-m) ?_ ?_;·exact⟨0,⟨by omega,rfl⟩,.refl,fr,.cons rfl .nil⟩
     ·rintro m⟨alh,uw⟩;refine a9.mk (λh=>?_) (λh=>?_)
      ·have kk:m<t.n:=by simpa using h
       have o2:m<s.length:=by omega
       have o3:s.drop m=s[m]::s.drop (m+1):=e6 o2;refine bu.mk ⟨b,0,none⟩ m rfl rfl kk ?_;refine aZ.mk [.bool s[m]] (Qm (by simp) o2) ?_;refine a9.mk (λeM=>?_) (λeM=>?_)
       ·refine⟨_,_,.sub (gn _) .refl,?_,rfl,rfl⟩;have:right t=false:=by rw[af,uw,o3];simp only[o1,show(s[m] == decide ((m:Int)=t.bm))=true from eM,bZ]
        rw[this]
       ·have fG:IntKind.i64.wrap ((m:Int)+1)=((m+1:Nat):Int):=by rw[wrap_i64 ⟨by omega,by omega⟩];omega
        refine bi.mk _ fG ?_;refine⟨m+1,⟨⟨by omega,?_⟩,by omega⟩,.refl,fr,.cons rfl .nil⟩;rw[uw,o3];simp only[o1,show(s[m] == decide ((m:Int)=t.bm))=false from eM,b0]
      ·have kk:¬ m<t.n:=by simpa using h
       have o3:s.drop m=[]:=ls (by omega);refine⟨_,_,.sub (gn _) .refl,?_,rfl,rfl⟩;rw[af,uw,o3];rfl
 ·refine⟨_,_,.refl,?_,rfl,rfl⟩;have:¬ 0<=t.bm:=by simp at aa;omega
  simp[right,this]
end Go.V
