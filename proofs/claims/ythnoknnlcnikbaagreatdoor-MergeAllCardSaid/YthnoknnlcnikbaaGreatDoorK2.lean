/- Part 2 of what the proofs of this seat share: the executor, data in memory, walks.
-/
import Derived.Test.YthnoknnlcnikbaaGreatDoorK1
import Derived.Lib.UnsafeStr
import Derived.Test.YthnoknnlcnikbaaGreatDoorProg
import Derived.KernelRfl
set_option linter.all false
set_option maxRecDepth 100000
namespace Go.V
open Go
def bS:=@List.getD_eq_getElem?_getD
def bx:=@List.length_map
def bJ:=@List.getElem_mem
def dg:=@List.getElem?_eq_getElem
def cr:=@List.length_append
def dF:=@List.append_nil
def eN:=@List.mem_singleton
def du:=@Nat.zero_add
def jl:=@List.eq_nil_of_length_eq_zero
def fO:=@List.length_take
def gd:=@List.nil_sublist
def iR:=@List.mem_append_left
def mT:=@List.sublist_append_right
def iS:=@List.flatMap_cons
def lW:=@List.drop_eq_nil_of_le
def hX:=@List.nil_append
def hy:=@List.map_nil
def gM:=@Nat.mul_one
def ri:=@List.getElem?_append_left
def lp:=@Bool.or_eq_true
def qn:=@List.getElem?_eq_none
def st:=@decide_eq_false_iff_not
def rj:=@List.mem_append_right
def rk:=@List.mem_of_getElem?
def tp:=@List.getElem_cons_zero
def rl:=@List.take_succ_cons
def oH:=@List.ext_getElem
def n4:=@List.mem_filter
def pF:=@List.length_drop
def rm:=@List.map_toArray
def BV:=@List.take_append_of_le_length
def lX:=@Nat.add_mul
def tq:=@Bool.not_eq_true'
def tr:=@List.size_toArray
def qo:=@List.take_zero
def qp:=@List.drop_zero
def GX:=@List.set_eq_take_append_cons_drop
def xS:=@Array.length_toList
def oI:=@Nat.one_mul
def BW:=@List.getElem?_toArray
def rn:=@List.map_set
def xT:=@List.filter_cons
def D3:=@World.putObj_heap_same
def uM:=@Bool.false_or
def GY:=@Classical.byContradiction
def we:=@List.take_left
def BX:=@List.map_replicate
def wg:=@Bool.not_true
def GZ:=@List.getElem_cons_succ
def BY:=@List.nodup_range
def G0:=@List.length_filter_le
def zA:=@List.drop_drop
def zB:=@List.take_take
def O3:=@Array.eq_empty_of_size_eq_zero
def KR:=@Option.bind_eq_some_iff
def D4:=@List.take_length
def zC:=@Nat.zero_mul
def G1:=@List.filter_congr
def V7:=@Std.Legacy.Range.forIn_eq_forIn_range'
def D5:=@List.drop_take
def G2:=@beq_self_eq_true
def KS:=@Nat.testBit_two_pow
def G3:=@List.map_drop
def G4:=@List.map_take
def V8:=@List.drop_length_add_append
def KT:=@Nat.testBit_or
def V9:=@Lib.run_firstCells_string
def O4:=@List.getElem_cons
variable{soft hK:Bool}{P:Program}{f x y p s:Operand}{M M' M1 Mr:List aE}{K:List aE->Prop}{I' I1:aH}{op:Op}{ρ:Operand->dH}{C:dN}{other:Prop}{ops:List Oper}{db lY aF:ea}{β:Nat->Nat}{a:Option Addr}{w w':World}{Q:Exit->Act->World->Prop}{dst:Option Nat}{v:Value}{lZ:Fr}{dG:Array Bool}{A:Array Oper}{ι α:Type}{c g m u e c' uN it size:Nat}{vs xs cb:List Value}{ps:Array Nat}{fk body:Code}{cap cs:Array Value}{aM:Addr}
def D6:Op->Bool
 | .move _ | .assign _ | .pick .. | .unOp .. | .binOp .. | .load .. | .nilCheck _ | .fieldAddr .. | .field .. | .indexAddr .. | .index .. | .build .. | .makeFunc .. | .slice .. | .extract .. | .convert ..=>true| .call { callee:=.builtin .len,.. }=>true| .call { callee:=.builtin .cap,.. }=>true| .call { callee:=.builtin .max,.. }=>true| .call { callee:=.builtin .min,.. }=>true| .call { callee:=.builtin .unsafeSliceData,.. }=>true| _=>false
def qq:Op->Bool
 | .load ..=>true| _=>false
def G5(o:Oper)(p:Nat):Bool:=o.after.toList.all λe=>!Region.binds .any e||p.testBit e.on
def qs(ops:List Oper)(p:Nat)(k:Bool):List Nat:=(List.range ops.length).filter λi=>match ops[i]? with
 |some o=>!p.testBit i&&((D6 o.op == k)&&G5 o p)| none=>false
def G6(a2:List Nat)(o:Oper):Nat:=o.after.toList.foldl (λs e=>bif Region.binds .any e then s ||| 2^e.on ||| a2.getD e.on 0 else s) 0
def lq(ops:List Oper):List Nat:=ops.foldl (λa2 o=>a2++[G6 a2 o]) []
def O5(P:Nat->Prop):List Nat->Prop
 |[]=>True| [i]=>P i| i::l=>P i/\O5 P l
inductive eJ(soft:Bool)(foot:List Nat)(P:Program)(f:Nat)(args:List Value)(I:aH)(M:List aE)(K:Value->aH->List aE->Prop):Prop
 |mk(post:Value->aH->List aE->Prop)(av:Spec P f args I [] post)(k:∀ v I' M',(∀ b o,I b=some o->I' b=some o)->post v I' M'->K v I' (M'++M))| oJ (eE Mr:List aE) (post:Value->aH->List aE->Prop) (ba:M.Perm (eE++Mr)) (av:Spec P f args I eE post) (rp:∀ v I' M',post v I' M'->∀ x∈eE,x∈M') (k:∀ v I' M',(∀ b o,I b=some o->I' b=some o)->post v I' M'->K v I' (M'++Mr))| xD (post:Value->aH->List aE->Prop) (av:Spec P f args I [] post) (k:∀ v I' M',(∀ b o,I b=some o->I' b=some o)->(∀ x∈M'++M,I' x.num=none)->post v I' M'->K v I' (M'++M))| ag9 (eE Mr:List aE) (post:Value->aH->List aE->Prop) (ba:M.Perm (eE++Mr)) (av:Spec P f args I eE post) (rp:∀ v I' M',post v I' M'->∀ x∈eE,x∈M') (k:∀ v I' M',(∀ b o,I b=some o->I' b=some o)->(∀ x∈M'++Mr,I' x.num=none)->post v I' M'->K v I' (M'++Mr))| O6 (b:Nat) (o:Obj) (eE Mr:List aE) (post:Value->aH->List aE->Prop) (ba:M.Perm (⟨b,o⟩::(eE++Mr))) (aB:b ∉ foot) (av:Spec P f args (ins I b o) eE post) (rp:∀ v I' M',post v I' M'->∀ x∈eE,x∈M') (k:∀ v I' M',(∀ c p,ins I b o c=some p->I' c=some p)->(∀ x∈M'++Mr,I' x.num=none)->post v I' M'->K v I' (M'++Mr))| pC (h:mm I M->eJ soft foot P f args I M K)| uO (G7:soft=true) (eE Mr:List aE) (post:Value->aH->List aE->Prop) (ba:M.Perm (eE++Mr)) (av:Spec P f args I eE post) (k:∀ v I' M',(∀ b o,I b=some o->I' b=some o)->post v I' M'->K v I' (M'++Mr))
def eJ.elim{foot:List Nat}{f:Nat}{args:List Value}{I:aH}{K:Value->aH->List aE->Prop}(eF:mm I M)(h:eJ soft foot P f args I M K) :
  ∃ (I1:aH) (eE Mr:List aE) (post:Value->aH->List aE->Prop),hc foot I M I1 (eE++Mr)/\(∀ b o,I b=some o->I1 b=some o)/\Spec P f args I1 eE post /\
   ∀ v I' M',(∀ b o,I1 b=some o->I' b=some o)->(∀ x∈M'++Mr,I' x.num=none)->post v I' M'->(soft=true\/∀ x∈M,I' x.num=some x.obj\/x∈M'++Mr)/\K v I' (M'++Mr):=by
 have V':∀ {eE Mr:List aE} {post:Value->aH->List aE->Prop} {I':aH},M.Perm (eE++Mr)->(∀ v I' M',post v I' M'->∀ x∈eE,x∈M')->∀ v M',post v I' M'->∀ x∈M,I' x.num=some x.obj\/x∈M'++Mr:=λba rp v M' ad x ab=>by
  right
  rcases cv.1 (ba.mem_iff.1 ab)with ab | ab;·exact cv.2 (.inl (rp v _ M' ad x ab))
  ·exact cv.2 (.inr ab)
 induction h with
 |mk post av k=>exact⟨I,[],M,post,.refl,λ_ _ h=>h,av,λv I' M' aa _ ad=>⟨.inr λx ab=>.inr (by simp[ab]),k v I' M' aa ad⟩⟩| oJ eE Mr post ba av rp k=>exact⟨I,eE,Mr,post,.perm ba .refl,λ_ _ h=>h,av,λv I' M' aa _ ad=>⟨.inr (V' ba rp v M' ad),k v I' M' aa ad⟩⟩| xD post av k=>exact⟨I,[],M,post,.refl,λ_ _ h=>h,av,λv I' M' aa ak ad=>⟨.inr λx ab=>.inr (by simp[ab]),k v I' M' aa ak ad⟩⟩| ag9 eE Mr post ba av rp k=>exact⟨I,eE,Mr,post,.perm ba .refl,λ_ _ h=>h,av,λv I' M' aa ak ad=>⟨.inr (V' ba rp v M' ad),k v I' M' aa ak ad⟩⟩
 |O6 b o eE Mr post ba aB av rp k=>
  have ag:I b=none:=eF.d ⟨b,o⟩ (ba.mem_iff.2 (.head _));have aha:ins I b o b=some o:=by unfold ins;rw[q6];rfl
  refine⟨ins I b o,eE,Mr,post,.perm ba (.mP rfl aB .refl),λc p ao=>?_,av,λv I' M' aa ak ad=>⟨.inr λx ab=>?_,k v I' M' aa ak ad⟩⟩
  ·unfold ins;by_cases e:c=b
   ·subst e;rw[ag]at ao;cases ao
   ·rw[hI e];exact ao
  ·rcases eI.1 (ba.mem_iff.1 ab)with rfl | ab
   ·exact .inl (aa _ _ aha)
   ·right
    rcases cv.1 ab with ab | ab;·exact cv.2 (.inl (rp v I' M' ad x ab))
    ·exact cv.2 (.inr ab)
 |pC h aQ=>exact aQ eF| uO G7 eE Mr post ba av k=>exact⟨I,eE,Mr,post,.perm ba .refl,λ_ _ h=>h,av,λv I' M' aa _ ad=>⟨.inl G7,k v I' M' aa ad⟩⟩
def KU(ops:List Oper)(o:Oper)(F:Fr)(run skip:Fr->Prop):Prop:=
 match o.guard with
 |none=>run F
 |some (j,b)=>
  match(ops[j]?).bind (·.dst)with
  |none=>False
  |some d=>
   match F d with
   | .lit c=>bif c == b then run F else skip F| .val (.bool c)=>bX c b (run (gY F d (.lit b))) (skip (gY F d (.lit !b)))| .val (.tuple _)=>skip F| _=>False
def Wa(g1 p:Nat):Bool:=Nat.beq (p &&& g1) p
def ahb(ops:List Oper)(g1 p:Nat):Bool:=(List.range ops.length).all λq=>!p.testBit q||(g1.testBit q||match ops[q]? with
 |some o=>!qq o.op| none=>true)
inductive jC(X:c3)(o:Oper)(F:Fr)(C:dN)(I:aH)(M:List aE)(K:dH->aH->List aE->Prop):Prop
 |mk (h:∀ β a w Q,cN X β a w F C I M->o.wpIn (g8 X) 0 X.P a w (λbL w'=>∃ v x I' M',bL=a.put o.dst v/\e4 β x v/\cN X β a w' F C I' M'/\K x I' M'/\I'=I) Q)
def wh(X:c3)(ahc soft:Bool)(o:Oper)(F:Fr)(C:dN)(I:aH)(M:List aE)(K:gl):Prop:=
 bif ahc then gZ X o F C I M K else
 match o.op with
 | .call { callee:=.value f,args,.. }=>
  match bH F f,mQ F args.toList with
  | .val (.func (.func g) first cap),some vs=>eJ soft X.foot X.P g (first.toList++vs++cap.toList) I M λv I' M'=>K (put o.dst (.val v) F) C I' M'
  |_,_=>False
 | .alloc t=>
  match o.dst,X.E t with
  |some d,some i=>bW I M λb=>K (gY F d (.val (.pointer (some ⟨b,0,none⟩)))) C I (⟨b,.cells i.zero.toArray t (0,0)⟩::M)
  |_,_=>False
 | .buildSlice _ _ _=>gZ X o F C I M K| .makeSlice _ _ _=>gZ X o F C I M K| .store _ _ _=>bif soft then gZ X o F C I M K else False| .call { callee:=.builtin .append,.. }=>bif soft then ∀ G:Fr,(∀ y∈o.op.operands,dq G y=dq F y)->jC X o G C I M λx I' M'=>K (put o.dst x F) C I' M' else False
 | .call { callee:=.builtin .copy,.. }=>bif soft then ∀ G:Fr,(∀ y∈o.op.operands,dq G y=dq F y)->jC X o G C I M λx I' M'=>K (put o.dst x F) C I' M' else False
 |_=>False
def KV:dH->Nat
 | .ref s _=>s+1| _=>0
def G8(i:Nat)(op:Op)(ρ:Operand->dH)(cm:List (Nat×Nat)):List (Nat×Nat):=match op with
 | .load _ x=>(i,KV (ρ x))::cm| _=>cm
def BZ(g1 s:Nat):List (Nat×Nat)->Bool
 |[]=>true|(i,t)::cm=>(g1.testBit i || !Nat.beq s t)&&BZ g1 s cm
def Wb{g1 s i t:Nat}:∀ {cm:List (Nat×Nat)},BZ g1 s cm=true->(i,t)∈cm->g1.testBit i=true\/t≠s
 |(j,u)::cm,h,hm=>by
  unfold BZ at h;rw[cB,lp]at h;rcases eI.1 hm with e | hm
  ·cases e;rcases h.1 with aa | aa
   ·exact .inl aa
   ·right
    rintro rfl;simp at aa
  ·exact Wb h.2 hm
def Wc(g1:Nat)(op:Op)(ρ:Operand->dH)(cm:List (Nat×Nat)):Bool:=match op with
 | .store _ x _=>(match ρ x with
  | .val (.pointer (some _))=>BZ g1 0 cm| _=>false)
 | .call { callee:=.value _,.. }=>BZ g1 0 cm| _=>false
def Wd(g1:Nat)(op:Op)(ρ:Operand->dH)(cm:List (Nat×Nat)):Bool:=match op with
 | .store _ x _=>(match ρ x with
  | .ref s _=>BZ g1 (s+1) cm| _=>false)
 |_=>false
def wi(hK:Bool)(M:List aE):List aE:=bif hK then []else M
def ahd{I:aH}{b:Nat}{o:Obj}(h:ik I (wi hK M) b o):ik I M b o:=by
 cases hK with
 |false=>exact h
 |true=>
  rcases h with h | ⟨x,ab,_⟩;·exact .inl h
  ·cases ab
def We{I:aH}(h:∀ b o,ik I M b o->ik I' M' b o)(bq:∀ b o,I b=some o->I' b=some o):∀ b o,ik I (wi hK M) b o->ik I' (wi hK M') b o:=λb o ag=>by
 cases hK with
 |false=>exact h b o ag
 |true=>
  rcases ag with ag | ⟨x,ab,_⟩;·exact .inl (bq _ _ ag)
  ·cases ab
def ahe{I:aH}(bq:∀ b o,I b=some o->I' b=some o):∀ b o,ik I (wi true M) b o->ik I' (wi true M') b o:=λb o ag=>by
 rcases ag with ag | ⟨x,ab,_⟩
 ·exact .inl (bq _ _ ag)
 ·cases ab
def Wf(X:c3)(hK:Bool)(op:Op)(ρ:Operand->dH)(C:dN)(I:aH)(M:List aE)(V:dH->Prop)(other:Prop):Prop:=match hK with
 |false=>cK X op ρ C I M V other| true=>cK X op ρ C I [] V other
def ahf{X:c3}{I:aH}{V:dH->Prop}(h:Wf X hK op ρ C I M V other):cK X op ρ C I (wi hK M) V other:=by
 cases hK with
 |false=>exact h| true=>exact h
def ahg(ops:List Oper)(hK:Nat->Bool)(g1 p:Nat):Bool:=(List.range ops.length).all λq=>!p.testBit q||(g1.testBit q||(hK q||match ops[q]? with
 |some o=>!qq o.op| none=>true))
def Wg(op:Op)(ρ:Operand->dH):Bool:=match op with
 | .store _ x _=>(match ρ x with
  | .val (.pointer (some _))=>true| _=>false)
 | .call { callee:=.builtin .append,.. }=>true| .call { callee:=.builtin .copy,.. }=>true| _=>false
def Wh(ops:List Oper)(hK:Nat->Bool)(g1 p:Nat)(op:Op)(ρ:Operand->dH):Bool:=ahg ops hK g1 p&&Wg op ρ
def pG(X:c3)(ops:List Oper)(hK:Nat->Bool):Nat->Nat->List (Nat×Nat)->Fr->dN->aH->List aE->gl->Prop
 |0,_,_,_,_,_,_,_=>False
 |n+1,p,cm,F,C,I,M,K=>
  match qs ops p true with
  |i::_=>
   (match ops[i]? with
   |some o=>KU ops o F (λF=>Wf X (hK i) o.op (dq F) C I M (λx=>pG X ops hK n (p ||| 2^i) (G8 i o.op (dq F) cm) (put o.dst x F) C I M K) False) (λF=>pG X ops hK n (p ||| 2^i) cm (put o.dst (.val undef) F) C I M K)| none=>False)
  |[]=>
   match qs ops p false with
   |[]=>K F C I M
   |i0::fH=>O5 (λi=>match ops[i]? with
     |some o=>KU ops o F (λF=>wh X (Wa ((lq ops).getD i 0) p) (ahb ops ((lq ops).getD i 0) p||(Wd ((lq ops).getD i 0) o.op (dq F) cm||(Wc ((lq ops).getD i 0) o.op (dq F) cm||Wh ops hK ((lq ops).getD i 0) p o.op (dq F)))) o F C I M λF C I M=>pG X ops hK n (p ||| 2^i) cm F C I M K) (λF=>pG X ops hK n (p ||| 2^i) cm (put o.dst (.val undef) F) C I M K)| none=>False) (i0::fH)
def looks(ops:List Oper)(o:Oper):List Nat:=o.looksAt ops.toArray
def B0(ops:List Oper):Bool:=
 let b:=lq ops
 (List.range ops.length).all λj=>match ops[j]? with
  |none=>true
  |some mU=>
   (mU.after.toList.all λe=>!Region.binds .any e||Nat.blt e.on j) &&
   ((match mU.dst with
    |some d=>!(looks ops mU).contains d| none=>true) &&
   ((List.range ops.length).all (λi=>Nat.beq i j||match ops[i]? with
    |none=>true
    |some gD=>match gD.dst with
     |none=>true| some d=>!(mU.dst == some d)&&(!(looks ops mU).contains d||((b.getD j 0).testBit i||(b.getD i 0).testBit j)))))
def mV(ops:List Oper)(j e:Nat):Prop:=∃ o kO,ops[j]?=some o/\kO∈o.after/\Region.binds .any kO=true/\kO.on=e
inductive pH(ops:List Oper):Nat->Nat->Prop
 |one{i j}(h:mV ops j i):pH ops i j| trans {i j k} (h:mV ops j k) (bq:pH ops i k):pH ops i j
def B1(ops:List Oper)(S:Nat->Prop):Prop:=∀ j e,S j->mV ops j e->S e
def pH.mem{S:Nat->Prop}(cc:B1 ops S){i j:Nat}(h:pH ops i j)(ai:∀ e,mV ops j e->S e):S i:=by
 induction h with
 |one h=>exact ai _ h| trans h _ aQ=>exact aQ λe he=>cc _ e (ai _ h) he
def ahh{a2:List Nat}{o:Oper}{i:Nat}(h:(G6 a2 o).testBit i=true):∃ e∈o.after,Region.binds .any e=true/\(e.on=i\/(a2.getD e.on 0).testBit i=true):=by
 have key:∀ (l:List Edge) (s:Nat),(l.foldl (λs e=>bif Region.binds .any e then s ||| 2^e.on ||| a2.getD e.on 0 else s) s).testBit i=true->s.testBit i=true\/∃ e∈l,Region.binds .any e=true/\(e.on=i\/(a2.getD e.on 0).testBit i=true):=by
  intro l
  induction l with
  |nil=>intro s h;exact .inl h
  |cons e l aQ=>
   intro s h;simp only[km]at h;rcases aQ _ h with aa | ⟨cZ,rq,ad⟩
   ·cases ag:Region.binds .any e with
    |false=>rw[ag]at aa;exact .inl aa
    |true=>
     rw[ag]at aa;simp only[cF,KT,lp,KS,h6]at aa;rcases aa with(aa | aa) | aa;·exact .inl aa
     ·exact .inr ⟨e,by simp,ag,.inl aa⟩
     ·exact .inr ⟨e,by simp,ag,.inr aa⟩
   ·exact .inr ⟨cZ,by simp[rq],ad⟩
 rcases key _ 0 h with aa | ⟨e,he,ad⟩
 ·simp at aa
 ·exact⟨e,by simpa using he,ad⟩
def Wi(ops:List Oper):∀ (l:List Oper) (a9:List Oper) (a2:List Nat),ops=a9++l->a2.length=a9.length->(∀ j i,(a2.getD j 0).testBit i=true->pH ops i j) -> ∀ j i,((l.foldl (λa2 o=>a2++[G6 a2 o]) a2).getD j 0).testBit i=true->pH ops i j
 |[],a9,a2,_,_,mv=>mv
 |o::l,a9,a2,wj,cS,mv=>by
  simp only[km];refine Wi ops l (a9++[o]) _ (by simp[wj]) (by simp[cS]) ?_;intro j i h;by_cases ai:j<a2.length;·exact mv j i (by simpa[bS,ri ai]using h)
  ·by_cases jS:j=a2.length
   ·subst jS;have bq:(G6 a2 o).testBit i=true:=by simpa[bS]using h
    obtain⟨e,he,ag,ad⟩:=ahh bq;have aA:ops[a2.length]?=some o:=by rw[wj,cS];simp
    have zD:mV ops a2.length e.on:=⟨o,e,aA,he,ag,rfl⟩;rcases ad with rfl | ad;·exact .one zD
    ·exact .trans zD (mv _ _ ad)
   ·have:(a2++[G6 a2 o]).getD j 0=0:=by rw[bS,qn (by simp;omega)];rfl
    rw[this]at h;simp at h
def zE{j i:Nat}(h:((lq ops).getD j 0).testBit i=true):pH ops i j:=
 Wi ops ops [] [] rfl rfl (λj i h=>by simp at h) j i h
section
variable{X:c3}{C C':dN}{I I':aH}{M M':List aE}
def xU{ρ jV:Operand->dH}:∀ {xs:List Operand},(∀ y∈xs,jV y=ρ y)->ka jV xs=ka ρ xs
 |[],_=>rfl| x::xs,h=>by have aa:=h x (by simp);have ad:=xU (xs:=xs) λy aC=>h y (by simp[aC]);simp only[ka,dE,aa,ad]
def O7{ρ jV:Operand->dH}:∀ {xs:List (Nat×Operand)},(∀ y∈xs.map (·.2),jV y=ρ y)->th jV xs=th ρ xs
 |[],_=>rfl|(i,x)::xs,h=>by have aa:=h x (by simp);have ad:=O7 (xs:=xs) λy aC=>h y (by simp only[b5,eI];exact .inr aC);simp only[th,dE,aa,ad]
def Wj{jV:Operand->dH}{V:dH->Prop}(h:cK X op ρ C I M V False)(jm:∀ y∈op.operands,jV y=ρ y)
  (ax:∀ t x,op=.load t x->(∀ s off,ρ x=.ref s off->C' s=C s)/\((∀ s off,ρ x≠.ref s off)->∀ b o,ik I M b o->ik I' M' b o)):cK X op jV C' I' M' V False:=by
 cases op
 case load t x=>
  obtain⟨ao,ae⟩:=ax t x rfl;have aa:=jm x (by simp[Op.operands]);simp only[cK,aa]at h |-;cases aN:X.E t with
  |none=>rw[aN]at h;exact h.elim
  |some i=>
   rw[aN]at h
   try simp only at h |-
   cases ab:ρ x with
   |ref s off=>
    rw[ab]at h
    try simp only at h |-
    rw[ao s off ab];exact h
   |val v=>
    rw[ab]at h
    try simp only at h |-
    split at h;·rename_i e;cases e
    ·rename_i a e;cases e;obtain⟨vs,⟨ad,cs,T,an,ak,aK⟩,bz⟩:=h;exact⟨vs,⟨ad,cs,T,an,ae (λs off e=>by rw[ab]at e;cases e) _ _ ak,aK⟩,bz⟩
    ·exact h.elim
   |lit b=>rw[ab]at h;exact h.elim| nC=>rw[ab]at h;exact h.elim
 case build t ps=>
  have aa:=O7 (ρ:=ρ) (jV:=jV) (xs:=ps.toList) λy aC=>jm y (by simpa[Op.operands]using aC);simp only[cK,aa]at h |-;exact h
 case makeFunc fn first captured=>
  have aa:=xU (ρ:=ρ) (jV:=jV) (xs:=first.toList) λy aC=>jm y (by simp only[Op.operands,Array.mem_append];exact .inl (by simpa using aC));have ad:=xU (ρ:=ρ) (jV:=jV) (xs:=captured.toList) λy aC=>jm y (by simp only[Op.operands,Array.mem_append];exact .inr (by simpa using aC));simp only[cK,aa,ad]at h |-;exact h
 case slice t x lo hi mx=>
  have aa:=jm x (by simp[Op.operands]);have ad:lo.map (dE jV)=lo.map (dE ρ):=by
   cases lo with
   |none=>rfl| some y=>have:=jm y (by simp[Op.operands]);simp[dE,this]
  have ak:hi.map (dE jV)=hi.map (dE ρ):=by
   cases hi with
   |none=>rfl| some y=>have:=jm y (by simp[Op.operands]);simp[dE,this]
  have aK:mx.map (dE jV)=mx.map (dE ρ):=by
   cases mx with
   |none=>rfl| some y=>have:=jm y (by simp[Op.operands]);simp[dE,this]
  simp only[cK,ad,ak,aK,dE,aa]at h |-;exact h
 case call c=>
  obtain⟨callee,args,argTypes⟩:=c;cases callee with
  |value f=>exact h| invoke r m=>exact h
  |builtin b=>
   cases b
   case len=>
    have aa:=xU (ρ:=ρ) (jV:=jV) (xs:=args.toList) λy aC=>jm y (by simp[Op.operands,Call.operands];simpa using aC);simp only[cK,aa]at h |-;exact h
   case cap=>
    have aa:=xU (ρ:=ρ) (jV:=jV) (xs:=args.toList) λy aC=>jm y (by simp[Op.operands,Call.operands];simpa using aC);simp only[cK,aa]at h |-;exact h
   case max=>
    have aa:=xU (ρ:=ρ) (jV:=jV) (xs:=args.toList) λy aC=>jm y (by simp[Op.operands,Call.operands];simpa using aC);simp only[cK,aa]at h |-;exact h
   case min=>
    have aa:=xU (ρ:=ρ) (jV:=jV) (xs:=args.toList) λy aC=>jm y (by simp[Op.operands,Call.operands];simpa using aC);simp only[cK,aa]at h |-;exact h
   case unsafeSliceData=>
    have aa:=xU (ρ:=ρ) (jV:=jV) (xs:=args.toList) λy aC=>jm y (by simp[Op.operands,Call.operands];simpa using aC);simp only[cK,aa]at h |-;exact h
   all_goals exact h
 all_goals first
  |exact h|(rename_i x;have aa:=jm x (by simp[Op.operands]);simp only[cK,dE,aa]at h |-;exact h)|(rename_i x y;have aa:=jm x (by simp[Op.operands]);have ad:=jm y (by simp[Op.operands]);simp only[cK,dE,aa,ad]at h |-;exact h)|(rename_i x y z;have aa:=jm x (by simp[Op.operands]);have ad:=jm y (by simp[Op.operands]);have ak:=jm z (by simp[Op.operands]);simp only[cK,dE,aa,ad,ak]at h |-;exact h)|(rename_i x y;have aa:=jm x (by simp[Op.operands]);simp only[cK,dE,aa]at h |-;exact h)|(rename_i x y;have aa:=jm y (by simp[Op.operands]);simp only[cK,dE,aa]at h |-;exact h)|(rename_i x y z;have aa:=jm x (by simp[Op.operands]);have ad:=jm y (by simp[Op.operands]);simp only[cK,dE,aa,ad]at h |-;exact h)|(rename_i x y z;have aa:=jm y (by simp[Op.operands]);have ad:=jm z (by simp[Op.operands]);simp only[cK,dE,aa,ad]at h |-;exact h)|(rename_i o x y z u;have aa:=jm y (by simp[Op.operands]);have ad:=jm z (by simp[Op.operands]);simp only[cK,dE,aa,ad]at h |-;exact h)|(rename_i x y z u;have aa:=jm z (by simp[Op.operands]);have ad:=jm y (by simp[Op.operands]);simp only[cK,dE,aa,ad]at h |-;exact h)
end
section
variable{X:c3}{C:dN}{I:aH}{M:List aE}
def ahi{op:BinOp}{db:Option ea}{x y:dH}{V:Value->Prop}{O:Prop}(h:lT op db x y V O) :
  (∃ r,V r/\∀ rr,lT op db x y (λz=>z=r) rr)\/(O/\∀ (O8:Value->Prop) (rr:Prop),rr->lT op db x y O8 rr):=by
 unfold lT at h;split at h
 ·left
  split at h;·obtain⟨j,ai,⟨r,af,ae⟩⟩:=h;exact⟨_,ae,λrr=>by unfold lT;exact⟨j,ai,⟨r,af,rfl⟩⟩⟩
  ·obtain⟨j,ai,ae⟩:=h;exact⟨_,ae,λrr=>by unfold lT;exact⟨j,ai,rfl⟩⟩
  ·rename_i _ _ k a fL b _ gg oG;cases e0:IntKind.lS k fL with
   |false=>rw[e0]at h;exact h.elim
   |true=>
    rw[e0]at h;simp only[cF]at h;cases op<;>simp only at h
    case add=>obtain⟨r,af,ae⟩:=h;exact⟨_,ae,λrr=>by simp only[lT,e0,cF];exact⟨r,af,rfl⟩⟩
    case sub=>obtain⟨r,af,ae⟩:=h;exact⟨_,ae,λrr=>by simp only[lT,e0,cF];exact⟨r,af,rfl⟩⟩
    case mul=>obtain⟨r,af,ae⟩:=h;exact⟨_,ae,λrr=>by simp only[lT,e0,cF];exact⟨r,af,rfl⟩⟩
    case quo=>obtain⟨ay,⟨r,af,ae⟩⟩:=h;exact⟨_,ae,λrr=>by simp only[lT,e0,cF];exact⟨ay,⟨r,af,rfl⟩⟩⟩
    case rem=>obtain⟨ay,ae⟩:=h;exact⟨_,ae,λrr=>by simp only[lT,e0,cF];first | exact⟨ay,rfl⟩ | exact⟨ay,trivial⟩⟩
    case shl=>exact(gg rfl).elim
    case shr=>exact(oG rfl).elim
    all_goals exact⟨_,h,λrr=>by simp only[lT,e0,cF];rfl⟩
 ·cases op<;>first
  |exact .inl ⟨_,h,λ_=>rfl⟩| exact .inr ⟨h,λ_ _ aA=>aA⟩
 ·split at h
  ·cases op<;>first
   |exact .inl ⟨_,h,λ_=>rfl⟩| exact .inr ⟨h,λ_ _ aA=>aA⟩
  ·rename_i aD;refine .inr ⟨h,λO8 rr aA=>?_⟩;cases db with
   |none=>exact aA
   |some i=>
    obtain⟨s,b,z,bP⟩:=i;cases bP<;>first
     |exact aA| exact(aD _ _ _ rfl).elim
 ·rename_i aa ad ak;refine .inr ⟨h,λO8 rr aA=>?_⟩;unfold lT;split<;>first
   |exact aA| exact(aa _ _ _ _ rfl rfl).elim| exact(ad _ _ rfl rfl).elim| exact(ak _ _ rfl rfl).elim
def ahj{V:dH->Prop}(h:cK X op ρ C I M V False):∃ x,V x/\cK X op ρ C I M (λy=>y=x) False:=by
 cases op
 case move x=>exact⟨_,h,rfl⟩
 case assign x=>exact⟨_,h,rfl⟩
 case pick c p q=>
  simp only[cK]at h |-;split at h;·exact⟨_,h,rfl⟩
  ·exact⟨_,h,rfl⟩
  ·exact h.elim
 case unOp op t x=>
  simp only[cK]at h |-;split at h;·exact⟨_,h,rfl⟩
  ·exact⟨_,h,rfl⟩
  ·obtain⟨r,af,ae⟩:=h;exact⟨_,ae,⟨r,af,rfl⟩⟩
  ·exact h.elim
 case binOp op t x y ty=>
  simp only[cK]at h |-;rcases ahi h with⟨r,aa,ad⟩ | ⟨⟨mo,gb,r,aJ,aL,af,ae⟩ | aa,ad⟩
  ·refine⟨_,aa,?_⟩;have:(λv=>dH.val v=dH.val r)=(λz=>z=r):=by funext v;simp
   rw[this];exact ad _
  ·exact⟨_,ae,ad _ _ (.mk mo gb r aJ aL af rfl)⟩
  ·exact aa.elim
 case load t x=>
  simp only[cK]at h |-;split at h
  ·split at h
   ·split at h
    ·rename_i i hi _ s off av _ cs ao;cases bf:Nat.ble (off+i.size) cs.length with
     |false=>rw[bf]at h;exact h.elim| true=>rw[bf]at h;exact⟨_,h,rfl⟩
    ·exact h.elim
   ·obtain⟨vs,af,ae⟩:=h;exact⟨_,ae,⟨vs,af,rfl⟩⟩
   ·exact h.elim
  ·exact h.elim
 case nilCheck x=>
  simp only[cK]at h |-;split at h;·exact⟨_,h,rfl⟩
  ·exact⟨_,h,rfl⟩
  ·exact h.elim
 case fieldAddr t x i=>
  simp only[cK]at h |-;split at h
  ·split at h
   ·split at h
    ·rename_i hv s o' pD ab;cases bb:Nat.beq hv.size 0 with
     |true=>rw[bb]at h;exact h.elim| false=>rw[bb]at h;exact⟨_,h,rfl⟩
    ·rename_i hv s pD ab;cases bb:Nat.beq hv.size 0 with
     |true=>rw[bb]at h;exact h.elim| false=>rw[bb]at h;exact⟨_,h,rfl⟩
    ·exact h.elim
   ·exact h.elim
  ·exact h.elim
 case field t x i=>
  simp only[cK]at h |-;split at h
  ·split at h
   ·split at h
    ·rename_i sz hS z cV cs aq ab _ fx off q9 _ hv pD;cases bf:Nat.ble (off+hv.size) cs.size with
     |false=>rw[bf]at h;exact h.elim| true=>rw[bf]at h;exact⟨_,h,rfl⟩
    ·exact h.elim
   ·exact h.elim
  ·exact h.elim
 case indexAddr t x i=>
  simp only[cK]at h |-;split at h
  ·split at h
   ·obtain⟨aM,j,aa,ad,ak,ae⟩:=h;exact⟨_,ae,⟨aM,j,aa,ad,ak,rfl⟩⟩
   ·exact h.elim
  ·split at h
   ·obtain⟨j,ad,ak,ae⟩:=h;exact⟨_,ae,⟨j,ad,ak,rfl⟩⟩
   ·obtain⟨j,ad,ak,ae⟩:=h;exact⟨_,ae,⟨j,ad,ak,rfl⟩⟩
   ·exact h.elim
  ·exact h.elim
 case index t x i=>
  simp only[cK]at h |-;split at h;·obtain⟨j,ad,ak,ae⟩:=h;exact⟨_,ae,⟨j,ad,ak,rfl⟩⟩
  ·split at h
   ·rename_i n e cs gk k aq ab hi _ aF hJ;cases bb:Nat.beq (n*aF.size) cs.size with
    |false=>rw[bb]at h;exact h.elim| true=>rw[bb]at h;obtain⟨j,ad,ak,ae⟩:=h;exact⟨_,ae,⟨j,ad,ak,rfl⟩⟩
   ·exact h.elim
  ·exact h.elim
 case build t ps=>
  simp only[cK]at h |-;split at h
  ·split at h
   ·rename_i i vs aq iO _ cV n3;cases aJ:DT X.E cV with
    |false=>rw[aJ]at h;exact h.elim
    |true=>
     rw[aJ]at h;simp only[cF]at h |-;split at h;·exact⟨_,h,rfl⟩
     ·exact h.elim
   ·split at h
    ·split at h
     ·exact⟨_,h,rfl⟩
     ·exact h.elim
    ·exact h.elim
   ·exact h.elim
  ·exact h.elim
 case makeFunc fn first captured=>
  simp only[cK]at h |-;split at h;·exact⟨_,h,rfl⟩
  ·exact h.elim
 case slice t x lo hi mx=>
  simp only[cK]at h |-;split at h
  ·split at h
   ·exact⟨_,h,rfl⟩
   ·obtain⟨l,m,aa,ad,ak,aK,ae⟩:=h;exact⟨_,ae,⟨l,m,aa,ad,ak,aK,rfl⟩⟩
   ·obtain⟨l,m,aa,ad,ak,aK,ae⟩:=h;exact⟨_,ae,⟨l,m,aa,ad,ak,aK,rfl⟩⟩
   ·obtain⟨l,m,aa,ad,ak,aK,ae⟩:=h;exact⟨_,ae,⟨l,m,aa,ad,ak,aK,rfl⟩⟩
   ·exact h.elim
  ·split at h
   ·exact⟨_,h,rfl⟩
   ·obtain⟨l,m,aa,ad,ak,aK,ae⟩:=h;exact⟨_,ae,⟨l,m,aa,ad,ak,aK,rfl⟩⟩
   ·obtain⟨l,m,aa,ad,ak,aK,ae⟩:=h;exact⟨_,ae,⟨l,m,aa,ad,ak,aK,rfl⟩⟩
   ·obtain⟨l,m,aa,ad,ak,aK,ae⟩:=h;exact⟨_,ae,⟨l,m,aa,ad,ak,aK,rfl⟩⟩
   ·exact h.elim
  ·split at h
   ·obtain⟨l,m,aa,ad,ak,aK,ae⟩:=h;exact⟨_,ae,⟨l,m,aa,ad,ak,aK,rfl⟩⟩
   ·exact h.elim
  ·exact h.elim
 case extract x i=>
  simp only[cK]at h |-;split at h
  ·split at h
   ·exact⟨_,h,rfl⟩
   ·exact h.elim
  ·exact h.elim
 case convert s d x=>
  simp only[cK]at h |-;split at h;·obtain⟨r,af,ae⟩:=h;exact⟨_,ae,⟨r,af,rfl⟩⟩
  ·exact h.elim
 case call c=>
  obtain⟨callee,args,argTypes⟩:=c;cases callee with
  |value f=>exact h.elim| invoke r m=>exact h.elim
  |builtin b=>
   cases b
   case len=>
    simp only[cK]at h |-;split at h
    ·split at h
     ·exact⟨_,h,rfl⟩
     ·exact⟨_,h,rfl⟩
     ·exact⟨_,h,rfl⟩
     ·exact h.elim
    ·exact h.elim
   case cap=>
    simp only[cK]at h |-;split at h
    ·split at h
     ·exact⟨_,h,rfl⟩
     ·exact h.elim
    ·exact h.elim
   case max=>
    simp only[cK]at h |-;split at h;·exact⟨_,h,rfl⟩
    ·exact h.elim
   case min=>
    simp only[cK]at h |-;split at h;·exact⟨_,h,rfl⟩
    ·exact h.elim
   case unsafeSliceData=>
    simp only[cK]at h |-;split at h;·exact⟨_,h,rfl⟩
    ·obtain⟨aa,ad⟩:=h;exact⟨_,ad,⟨aa,rfl⟩⟩
    ·exact h.elim
   all_goals exact h.elim
 all_goals exact h.elim
end
def ik.mono{I:aH}{b:Nat}{o:Obj}(h:ik I M b o)(bA:∀ b o,I b=some o->I' b=some o)(ba:∀ x∈M,x∈M'):ik I' M' b o:=by
 rcases h with h | ⟨x,ab,aa,ad⟩
 ·exact .inl (bA _ _ h)
 ·exact .inr ⟨x,ba x ab,aa,ad⟩
def ik.move{I:aH}{b:Nat}{o:Obj}(h:ik I M b o)(bA:∀ b o,I b=some o->I' b=some o)(ba:∀ x∈M,I' x.num=some x.obj\/x∈M'):ik I' M' b o:=by
 rcases h with h | ⟨x,ab,rfl,rfl⟩
 ·exact .inl (bA _ _ h)
 ·rcases ba x ab with h | h
  ·exact .inl h
  ·exact .inr ⟨x,h,rfl,rfl⟩
def Wk(F:Fr)(op:Op)(C C':dN)(I I':aH)(M M':List aE):Prop:=(∀ t x y s off,op=.store t x y->dq F x=.ref s off->((∀ cg,cg≠s->C' cg=C cg)/\∀ b o,I b=some o->I' b=some o)/\∀ b o,ik I M b o->ik I' M' b o)/\(∀ t x y aM,op=.store t x y->dq F x=.val (.pointer (some aM))->C'=C/\∀ b o,I b=some o->I' b=some o)/\((∀ t x y,op≠.store t x y)->C'=C/\∀ b o,I b=some o->I' b=some o)
def ahk(X:c3)(β:Nat->Nat)(G F:Fr)(C:dN)(I:aH)(M:List aE)(ahl:Bool)(op:Op)(dst:Option Nat)(a:Act)(K:gl)(bL:Act)(w':World):Prop:=
 ∃ v x C' I' M',bL=a.put dst v/\e4 β x v/\cN X β a w' G C' I' M'/\K (put dst x F) C' I' M'/\((ahl=true/\Wk F op C C' I I' M M')\/(C'=C/\(∀ b o,I b=some o->I' b=some o)/\∀ b o,ik I M b o->ik I' M' b o))
def ahm{X:c3}{a:Act}{F G:Fr}{I:aH}{o:Oper}{K:gl}(aN:cW X.P X.E)
  (h:cN X β a w G C I M) (fA:∀ y∈o.op.operands,dq G y=dq F y) (aj:wh X false soft o F C I M K):o.wpIn (g8 X) 0 X.P a w (ahk X β G F C I M soft o.op o.dst a K) Q:=by
 obtain⟨dst,op,ty,pos,after,guard⟩:=o;have aB:=h.an;have oK:∀ {y:Operand} {v:Value},y∈op.operands->bH F y=.val v->a.eval y=v:=fun {y v} aC he=>dj aB (by simp only[bH,dE,fA y aC];exact he);cases op
 case alloc t=>
  simp only[wh,cE]at aj;split at aj
  ·rename_i d i hi;obtain⟨z,bb,xL⟩:=(aN _ _ hi).GF w;have DX:z.cells=i.zero.toArray:=by rw[<-xL]
   obtain⟨aj⟩:=aj;have ae:=aj w.heap.size h.holds.sp h.holds.q7;refine iN (by simp) (v:=.pointer (some ⟨w.heap.size,0,none⟩)) (w':=w.alloc (.cells i.zero.toArray t (0,0))) ?_ ⟨_,.val _,_,_,_,rfl,rfl,h.n2 _,ae,.inr ⟨rfl,λ_ _ h=>h,λb o ag=>ag.mono (λ_ _ h=>h) (λx ab=>by simp[ab])⟩⟩;simp[execOp,Instr.alloc,newVar,newRow,bb,DX,BD]
  ·exact aj.elim
 case store t x y=>
  simp only[wh,cE]at aj;cases soft with
  |false=>exact aj.elim
  |true=>
   simp only[cF,gZ]at aj;split at aj
   ·rename_i i v hi aC;have tm:=oK (by simp[Op.operands]) aC;split at aj
    ·rename_i s off ab;have ko:=BG aB ((fA x (by simp[Op.operands])).trans ab);split at aj
     ·rename_i cs av;cases bf:(Nat.ble (off+i.size) cs.length&&(Nat.beq v.cells.size i.size&&fK v.cells.toList))with
      |false=>rw[bf]at aj;exact aj.elim
      |true=>
       rw[bf]at aj;simp only[cB]at bf;obtain⟨bf,dn,qk⟩:=bf;have g0:=bK bf;have BQ:=ed dn;obtain⟨T,be⟩:=(h.cm s cs av).bF;have:=KG (aN _ _ hi) (a:=⟨β s,off,none⟩) (v:=v) rfl be BQ (by simp;omega) qk;refine DU (by simp) (w':=w.setRow (β s) (cj cs off v.cells.toList).toArray) ?_ ⟨undef,.nC,_,_,_,rfl,trivial,h.VP av (cj cs off v.cells.toList),aj,.inl ⟨rfl,λbn lj G9 cg KE aI a6=>(by
        cases aI;rw[ab]at a6;cases a6;refine⟨⟨λs2 bt=>?_,λ_ _ h=>h⟩,λ_ _ h=>h⟩;unfold jB;rw[hI bt];rfl),λbn lj G9 ts aI a6=>(by
        cases aI;rw[ab]at a6;cases a6),λjn=>absurd rfl (jn _ _ _)⟩⟩
       simp only[execOp,Instr.storeAt,ko,tm,Instr.sureAddr,cp,da,bZ];simp only[OI]at this;rw[this];rfl
     ·exact aj.elim
    ·rename_i aM ab;have ko:=uH aB ((fA x (by simp[Op.operands])).trans ab);cases dn:Nat.beq v.cells.size i.size with
     |false=>rw[dn]at aj;exact aj.elim| true=>rw[dn]at aj;obtain⟨a9,post,cs,T,ba,c9,ag,qk,ae⟩:=aj;have BQ:=ed dn;have aw:w.heap[aM.block]?=some (.cells cs T (0,0)):=h.holds.m ⟨aM.block,.cells cs T (0,0)⟩ (by rw[ba];simp);have:=KG (aN _ _ hi) (v:=v) c9 aw BQ ag qk;refine DU (by simp) (w':=w.setRow aM.block (cj cs.toList aM.off v.cells.toList).toArray) ?_ ⟨undef,.nC,_,_,_,rfl,trivial,h.xI ba,ae,.inl ⟨rfl,λbn lj G9 cg KE aI a6=>(by cases aI;rw[ab]at a6;cases a6),λ_ _ _ _ _ _=>⟨rfl,λ_ _ h=>h⟩,λjn=>absurd rfl (jn _ _ _)⟩⟩;simp only[execOp,Instr.storeAt,ko,tm,Instr.sureAddr,cp,da,bZ];rw[this];rfl
    ·exact aj.elim
   ·exact aj.elim
 case buildSlice t len parts=>
  simp only[wh,cE,gZ]at aj;have ahn:BF G parts.toList=BF F parts.toList:=O7 λy aC=>fA y (by simpa[Op.operands]using aC);rw[<-ahn]at aj;split at aj
  ·rename_i sz hS z e vs aq iO;have hu:=(aN _ _ aq).slice;have aJ:=KB aB iO;have q':(parts.map λ(i,x)=>(i,a.eval x)).toList=vs:=by simpa using aJ
   split at aj
   ·rename_i aF hJ;cases bb:(Nat.ble (len*aF.size) 16777216&&Nat.blt 0 (len*aF.size))with
    |false=>
     rw[bb]at aj;simp only[cE]at aj;split at aj
     ·rename_i agS;obtain⟨aj⟩:=aj;have ae:=aj w.heap.size h.holds.sp h.holds.q7;refine iN (by simp) (v:=.slice (some ⟨w.heap.size,0,none⟩) 0 0) (w':=w.alloc (.cells #[] e (0,0))) ?_ ⟨_,.val _,_,_,_,rfl,rfl,h.n2 _,ae,.inr ⟨rfl,λ_ _ h=>h,λb o ag=>ag.mono (λ_ _ h=>h) (λx ab=>by simp[ab])⟩⟩;simp only[execOp,Instr.buildSlice,cp,bZ,run_underlying hu,(aN _ _ hJ).run_sizeOf,q'];have dy:∀ f:Nat->Value,Array.map f (Array.range 0)=#[]:=λf=>by apply Array.ext<;>simp
      simp[newRow,BD,Instr.fill,dy]
     ·exact aj.elim
    |true=>
     rw[bb]at aj;simp only[cF]at aj;rw[cB]at bb;have bf:=bK bb.1;have ms:0<len*aF.size:=by simpa using bb.2
     split at aj;·rename_i cells BK;obtain⟨tn,BR,xL⟩:=(aN _ _ hJ).GF w;obtain⟨aj⟩:=aj;have ae:=aj w.heap.size h.holds.sp h.holds.q7;refine iN (by simp) (v:=.slice (some ⟨w.heap.size,0,none⟩) len len) (w':=w.alloc (.cells cells.toArray e (0,0))) ?_ ⟨_,.val _,_,_,_,rfl,rfl,h.n2 _,ae,.inr ⟨rfl,λ_ _ h=>h,λb o ag=>ag.mono (λ_ _ h=>h) (λx ab=>by simp[ab])⟩⟩;have wa:=fill_eq _ _ _ _ BK;simp only[execOp,Instr.buildSlice,cp,bZ,run_underlying hu,(aN _ _ hJ).run_sizeOf];rw[bN (by omega)];simp only[bN (show ¬ len*aF.size=0 by omega),cp,BR,bZ,da,q',VW tn aF.zero xL,wa];simp[newRow,BD]
     ·exact aj.elim
   ·exact aj.elim
  ·exact aj.elim
 case makeSlice t l c=>
  simp only[wh,cE,gZ]at aj;split at aj
  ·rename_i sz hS z e fy eu ch c' aq ax ao;have hu:=(aN _ _ aq).slice;have ql:=oK (by simp[Op.operands]) ax;have zF:=oK (by simp[Op.operands]) ao;split at aj
   ·rename_i aF hJ;obtain⟨n,m,rfl,rfl,mu,ag,hm,⟨aj⟩⟩:=aj;have ae:=aj w.heap.size h.holds.sp h.holds.q7;obtain⟨inf,tn,ft,hW,im,kb,BS⟩:=(aN _ _ hJ).inf;refine iN (by simp) (v:=.slice (some ⟨w.heap.size,0,none⟩) n m) (w':=w.alloc (.cells (rowOf aF.zero (m*aF.size)).toArray e (0,0))) ?_ ⟨_,.val _,_,_,_,rfl,rfl,h.n2 _,ae,.inr ⟨rfl,λ_ _ h=>h,λb o ag=>ag.mono (λ_ _ h=>h) (λx ab=>by simp[ab])⟩⟩;have iQ:((aF.bytes:Nat):Int)*(m:Int)<=281474976710656:=by
     have ad:((aF.bytes*m:Nat):Int)<=281474976710656:=by omega
     simpa using ad
    have:=run_make (P:=X.P) w t e inf tn hu ft kb fy ch (n:Int) (m:Int) (by omega) (by omega) (by rw[im];exact iQ) (by omega);simp only[execOp,ql,zF,cp,this,bZ,da,hH];have aI:madeCells tn.cells (m*inf.size)=(rowOf aF.zero (m*aF.size)).toArray:=by rw[hW,<-BS];simp[ti]
    rw[aI]
   ·exact aj.elim
  ·exact aj.elim
 case call c=>
  obtain⟨callee,args,argTypes⟩:=c;cases callee with
  |value f=>
   simp only[wh,cE]at aj;split at aj
   ·rename_i g first cap vs zs iO
    have aho:mQ G args.toList=some vs:=by rw[<-iO];exact xU λy aC=>fA y (by simp only[Op.operands,Call.operands];simp;right;simpa using aC)
    have ahp:=oK (by simp[Op.operands,Call.operands]) zs;obtain⟨I1,eE,Mr,post,ahq,de,av,ae⟩:=aj.elim ⟨h.holds.d,h.holds.b3⟩;have aI:=tj aB aho;have ez:args.map a.eval=vs.toArray:=by apply gX;simpa using aI
    have fb:∀ {n:Next} {w':World},(callFunc g (first.toList++vs++cap.toList).toArray).run X.P w=.ok n w'->(execOp a.eval ⟨dst,.call { callee:=.value f,args,argTypes },ty,pos,after,guard⟩).run X.P w=.ok n w':=λaf=>by simp only[execOp,resolve,ahp,Deferred.ofValue,cp,da,bZ,ez,invoke];rw[show first++vs.toArray++cap=(first.toList++vs++cap.toList).toArray from by apply gX;simp];exact af
    have KW:∀ {I':aH} {M':List aE},(∀ b o,I b=some o->I' b=some o)->(soft=true\/∀ x∈M,I' x.num=some x.obj\/x∈M')->(soft=true/\Wk F (.call { callee:=.value f,args,argTypes }) C C I I' M M')\/(C=C/\(∀ b o,I b=some o->I' b=some o)/\∀ b o,ik I M b o->ik I' M' b o):=λaa ad=>by
     rcases ad with ad | ad;·exact .inl ⟨ad,⟨λt x y s off e _=>(by cases e),λt x y aM e _=>(by cases e),λ_=>⟨rfl,aa⟩⟩⟩
     ·exact .inr ⟨rfl,aa,λb o ag=>ag.move aa ad⟩
    rcases h.call (KC:=λv I' M'=>(∀ b o,I b=some o->I' b=some o)/\(soft=true\/∀ x∈M,I' x.num=some x.obj\/x∈M')/\K (Go.V.put dst (.val v) F) C I' M') (.uF I1 eE Mr post ahq av λv I' M' bf ah aJ=>⟨λb o ag=>bf _ _ (de _ _ ag),(ae v I' M' bf ah aJ).1,(ae v I' M' bf ah aJ).2⟩)with⟨qj,BT⟩ | ⟨v,w',I',M',af,⟨aa,ad,ae⟩,gL⟩;·refine VV (by simp) (f:=g) (args:=(first.toList++vs++cap.toList).toArray) (fb (qj _ _)) ?_;refine BT.mono ?_;rintro e w'⟨v,I',M',rfl,⟨aa,ad,ae⟩,af⟩;exact⟨v,rfl,v,.val v,C,I',M',rfl,rfl,af,ae,KW aa ad⟩
    ·exact iN (by simp) (fb af) ⟨v,.val v,C,I',M',rfl,rfl,gL,ae,KW aa ad⟩
   ·exact aj.elim
  |invoke r m=>exact aj.elim
  |builtin b=>
   cases b
   case append=>
    simp only[wh,cE]at aj;cases soft with
    |false=>exact aj.elim| true=>simp only[cF]at aj;obtain⟨aj⟩:=aj G fA;refine td (λbL w'=>?_) (aj β a w Q h);rintro⟨v,x,I',M',aa,ad,ak,aK,O9⟩;exact⟨v,x,C,I',M',aa,ad,ak,aK,.inl ⟨rfl,⟨λt x y s off e _=>(by cases e),λt x y aM e _=>(by cases e),λ_=>⟨rfl,λb o h=>by rw[O9];exact h⟩⟩⟩⟩
   case copy=>
    simp only[wh,cE]at aj;cases soft with
    |false=>exact aj.elim| true=>simp only[cF]at aj;obtain⟨aj⟩:=aj G fA;refine td (λbL w'=>?_) (aj β a w Q h);rintro⟨v,x,I',M',aa,ad,ak,aK,O9⟩;exact⟨v,x,C,I',M',aa,ad,ak,aK,.inl ⟨rfl,⟨λt x y s off e _=>(by cases e),λt x y aM e _=>(by cases e),λ_=>⟨rfl,λb o h=>by rw[O9];exact h⟩⟩⟩⟩
   all_goals exact aj.elim
 all_goals exact aj.elim
def tt(x y:dH):Prop:=∀ β u,e4 β x u->e4 β y u
def tt.refl(x:dH):tt x x:=λ_ _ h=>h
def tt.trans{x y z:dH}(h:tt x y)(bq:tt y z):tt x z:=fun β u hu=>bq β u (h β u hu)
structure wk(ops:List Oper):Prop where
 lt:∀ j e,mV ops j e->e<j
 own:∀ (j:Nat) (o:Oper) (d:Nat),ops[j]?=some o->o.dst=some d->d ∉ looks ops o
 O':∀ (i j:Nat) (gD mU:Oper) (d:Nat),i≠j->ops[i]?=some gD->ops[j]?=some mU->gD.dst=some d->mU.dst≠some d
 ord:∀ (i j:Nat) (gD mU:Oper) (d:Nat),i≠j->ops[i]?=some gD->ops[j]?=some mU->gD.dst=some d->d∈looks ops mU->pH ops i j\/pH ops j i
def Wl(h:B0 ops=true):wk ops:=by
 have key:∀ (j:Nat) (mU:Oper),ops[j]?=some mU->_:=λj mU ai=>by have aZ:j<ops.length:=(hG.1 ai).1;have aa:=fS.1 h j (j9.2 aZ);simp only[ai,cB]at aa;exact aa
 refine⟨?_,?_,?_,?_⟩
 ·rintro j e⟨o,kO,aA,rs,ag,rfl⟩;have aa:=fS.1 (key j o aA).1 kO (by simpa using rs);rw[ag]at aa;simpa using aa
 ·intro j o d aA ah;have aa:=(key j o aA).2.1;rw[ah]at aa;simpa using aa
 ·intro i j gD mU d bt hi ai ah fE;have aZ:i<ops.length:=(hG.1 hi).1;have aa:=fS.1 (key j mU ai).2.2 i (j9.2 aZ);rw[hI bt]at aa;simp only[hi,ah,uM,cB]at aa;rw[fE]at aa;simp at aa
 ·intro i j gD mU d bt hi ai ah ax;have aZ:i<ops.length:=(hG.1 hi).1;have aa:=fS.1 (key j mU ai).2.2 i (j9.2 aZ);rw[hI bt]at aa;simp only[hi,ah,uM,cB,lp]at aa;rcases aa.2 with ad | ad | ad
  ·have:(looks ops mU).contains d=true:=by simpa using ax
   rw[this]at ad;cases ad
  ·exact .inl (zE ad)
  ·exact .inr (zE ad)
def jo(ops:List Oper)(i:Nat):Option Nat:=(ops[i]?).bind (·.dst)
def kP(L:Nat->Prop)(p i:Nat):Prop:=p.testBit i=true/\¬ L i
def zG(ops:List Oper)(o:Oper)(F:Fr):Prop:=match o.guard with
 |none=>True| some (j,b)=>∃ d,jo ops j=some d/\F d=.lit b
def KX(ops:List Oper)(o:Oper)(F:Fr):Prop:=∃ j b d,o.guard=some (j,b)/\jo ops j=some d/\(F d=.lit (!b)\/∃ vs,F d=.val (.tuple vs))
def Pa{o:Oper}{j d:Nat}{b:Bool}(aw:o.guard=some (j,b))(ah:jo ops j=some d):d∈looks ops o:=by unfold looks Oper.looksAt;refine rj _ ?_;rw[aw];simp only[Option.mem_toList];simpa[jo]using ah
def Pb{o:Oper}{t:Nat}(h:Operand.tmp t∈o.op.operands):t∈looks ops o:=
 iR _ (List.mem_filterMap.2 ⟨.tmp t,by simpa using h,rfl⟩)
def Wm{o:Oper}{F:Fr}{a:Act}(h:zG ops o F)(bE:∀ t∈looks ops o,e4 β (F t) (a.tmps.getD t undef)):Region.wanted o (yielded ops.toArray a.tmps)=true:=by
 unfold zG at h;unfold Region.wanted;cases aw:o.guard with
 |none=>rfl| some GJ=>obtain⟨j,b⟩:=GJ;rw[aw]at h;obtain⟨d,ah,ax⟩:=h;have aa:=bE d (Pa aw ah);rw[ax]at aa;have aC:=GI (ops:=ops.toArray) (j:=j) (d:=d) (by simpa[jo]using ah) a.tmps;simp[aC,D1 aa]
def Wn{o:Oper}{F:Fr}{a:Act}(h:KX ops o F)(bE:∀ t∈looks ops o,e4 β (F t) (a.tmps.getD t undef)):Region.wanted o (yielded ops.toArray a.tmps)=false:=by
 obtain⟨j,b,d,aw,ah,ax⟩:=h;unfold Region.wanted;have aa:=bE d (Pa aw ah);have aC:=GI (ops:=ops.toArray) (j:=j) (d:=d) (by simpa[jo]using ah) a.tmps;rw[aw];rcases ax with ax | ⟨vs,ax⟩
 ·rw[ax]at aa;simp[aC,D1 aa]
 ·rw[ax]at aa;have sq:yielded ops.toArray a.tmps j=none:=by
   rw[aC];cases jU:a.tmps[d]? with
   |none=>rfl| some v=>simp only[e4,pz,jU,kL]at aa;subst aa;rfl
  simp[sq]
def Wo{o:Oper}{F:Fr}{run skip:Fr->Prop}(h:KU ops o F run skip):∃ lZ,(∀ t,tt (F t) (lZ t))/\((zG ops o lZ/\run lZ)\/(KX ops o lZ/\skip lZ)):=by
 unfold KU at h;cases aw:o.guard with
 |none=>rw[aw]at h;exact⟨F,λt=>.refl _,.inl ⟨by simp[zG,aw],h⟩⟩
 |some GJ=>
  obtain⟨j,b⟩:=GJ;rw[aw]at h;simp only at h;split at h;·exact h.elim
  ·rename_i d ah;have fE:jo ops j=some d:=ah;split at h
   ·rename_i c ao;refine⟨F,λt=>.refl _,?_⟩;cases jT:(c == b)with
    |true=>
     rw[jT]at h;have jT:c=b:=by simpa using jT
     subst jT;exact .inl ⟨by simp only[zG,aw];exact⟨d,fE,ao⟩,h⟩
    |false=>
     rw[jT]at h;have KY:c=!b:=by cases c<;>cases b<;>simp_all
     subst KY;exact .inr ⟨⟨j,b,d,aw,fE,.inl ao⟩,h⟩
   ·rename_i c ao;obtain⟨aa,ad⟩:=h;have hK:∀ x,c=x->∀ t,tt (F t) (gY F d (.lit x) t):=λx ab t=>by
     unfold gY;by_cases e:t=d;·subst e;subst ab;simp only[q6,cF,ao];exact λ_ _ h=>h
     ·simp only[hI e,cE];exact .refl _
    have self:∀ x,gY F d (.lit x) d=.lit x:=λx=>by simp[gY]
    by_cases jT:c=b;·exact⟨_,hK b jT,.inl ⟨by simp only[zG,aw];exact⟨d,fE,self b⟩,aa jT⟩⟩
    ·have KY:c=!b:=by cases c<;>cases b<;>simp_all
     exact⟨_,hK _ KY,.inr ⟨⟨j,b,d,aw,fE,.inl (self _)⟩,ad KY⟩⟩
   ·rename_i vs ao;exact⟨F,λt=>.refl _,.inr ⟨⟨j,b,d,aw,fE,.inr ⟨vs,ao⟩⟩,h⟩⟩
   ·exact h.elim
structure ahr(X:c3)(ops:List Oper)(im':Nat->Bool)(L:Nat->Prop)(p:Nat)(cm:List (Nat×Nat))(β:Nat->Nat)(a:Act)(F:Fr)(C:dN)(I:aH)(M:List aE)(hL:Nat->dH)(gN:Nat->Fr)(q:Nat)(o:Oper):Prop where
 quiet:D6 o.op=true
 hK:∀ d,o.dst=some d->tt (hL q) (F d)
 b:∀ t∈looks ops o,∀ i,kP L p i->pH ops i q->jo ops i=some t->tt (hL i) (gN q t)
 a:∀ t∈looks ops o,(∀ i,kP L p i->pH ops i q->jo ops i≠some t)->e4 β (gN q t) (a.tmps.getD t undef)
 r:(zG ops o (gN q)/\cK X o.op (dq (gN q)) C I (wi (im' q) M) (λx=>x=hL q) False/\∀ t x,o.op=.load t x->(q,KV (dq (gN q) x))∈cm)\/(KX ops o (gN q)/\hL q=.val undef)
structure Inv(X:c3)(ops:List Oper)(im':Nat->Bool)(L:Nat->Prop)(β:Nat->Nat)(a:Act)(w:World)(F:Fr)(C:dN)(I:aH)(M:List aE)(p:Nat)(cm:List (Nat×Nat))(hL:Nat->dH)(gN:Nat->Fr):Prop where
 rel:cN X β a w (λ_=>.nC) C I M
 sub:∀ i,L i->p.testBit i=true
 wm:B1 ops L
 ru:B1 ops (λi=>p.testBit i=true)
 T:∀ t,(∀ i,kP L p i->jo ops i≠some t)->e4 β (F t) (a.tmps.getD t undef)
 zH:∀ q,kP L p q->∃ o,ops[q]?=some o/\ahr X ops im' L p cm β a F C I M hL gN q o
def mW{p q i:Nat}:(p ||| 2^q).testBit i=true ↔ p.testBit i=true\/i=q:=by simp only[KT,lp,KS,h6];exact⟨λh=>h.imp id Eq.symm,λh=>h.imp id Eq.symm⟩
section
variable{X:c3}{ops:List Oper}{im':Nat->Bool}{L:Nat->Prop}{β:Nat->Nat}{a:Act}{w:World}{F:Fr}{C:dN}{I:aH}{M:List aE}{p:Nat}{cm:List (Nat×Nat)}{hL:Nat->dH}{gN:Nat->Fr}{q:Nat}{o:Oper}
def G'(h:ops[q]?=some o):jo ops q=o.dst:=by simp[jo,h]
def Ha{i d:Nat}(h:jo ops i=some d):∃ gD,ops[i]?=some gD/\gD.dst=some d:=by unfold jo at h;exact KR.1 h
def Inv.ahead(dx:wk ops)(Wp:B1 ops (λi=>p.testBit i=true))(aL:ops[q]?=some o)(lr:p.testBit q=false){i t:Nat}(hi:p.testBit i=true)(aq:t∈looks ops o)(ah:jo ops i=some t):pH ops i q:=by
 obtain⟨gD,iq,qt⟩:=Ha ah;have bt:i≠q:=λe=>by rw[e,lr]at hi;cases hi
 rcases dx.ord i q gD o t bt iq aL qt aq with h | h
 ·exact h
 ·have:=h.mem Wp (λe he=>Wp i e hi he);rw[lr]at this;cases this
def Inv.ahs(dx:wk ops)(h:Inv X ops im' L β a w F C I M p cm hL gN)(aL:ops[q]?=some o)(lr:p.testBit q=false)(bp:∀ e,mV ops q e->L e):∀ t∈looks ops o,e4 β (F t) (a.tmps.getD t undef):=λt aq=>h.T t λi hi ah=>
 hi.2 ((Inv.ahead dx h.ru aL lr hi.1 aq ah).mem h.wm bp)
def KZ{x:dH}{t:Nat}(h:dst≠some t):put dst x F t=F t:=by
 cases dst with
 |none=>rfl| some d=>have:t≠d:=λe=>h (by rw[e]);simp only[put,gY,hI this,cE]
def put_eq{x:dH}{t:Nat}:put (some t) x F t=x:=by simp[put,gY]
def K0{t:Nat}(h:dst≠some t):(a.put dst v).tmps.getD t undef=a.tmps.getD t undef:=by
 cases dst with
 |none=>rfl| some d=>have:d≠t:=λe=>h (by rw[e]);simp only[Act.put,pz,DR,bN this]
def Pc{t:Nat}(h:t<a.tmps.size):(a.put (some t) v).tmps.getD t undef=v:=by rw[VL a t t v h,bT rfl]
def Inv.record(dx:wk ops)(h:Inv X ops im' L β a w F C I M p cm hL gN)(aL:ops[q]?=some o)(lr:p.testBit q=false)(zD:∀ e,mV ops q e->p.testBit e=true)(K1:D6 o.op=true)
 (tu:∀ t,tt (F t) (lZ t)) {x:dH} {Pd:List (Nat×Nat)} (uK:∀ s∈cm,s∈Pd) (af:(zG ops o lZ/\cK X o.op (dq lZ) C I (wi (im' q) M) (λy=>y=x) False/\∀ t y,o.op=.load t y->(q,KV (dq lZ y))∈Pd)\/(KX ops o lZ/\x=.val undef)) :
  Inv X ops im' L β a w (put o.dst x lZ) C I M (p ||| 2^q) Pd (λi=>if i=q then x else hL i) (λi=>if i=q then lZ else gN i):=by
 have rv:¬ L q:=λe=>by have:=h.sub q e;rw[lr]at this;cases this
 have qu:∀ {i},kP L (p ||| 2^q) i->i≠q->kP L p i:=λhi bt=>⟨(mW.1 hi.1).resolve_right bt,hi.2⟩;have xV:∀ {i},kP L p i->kP L (p ||| 2^q) i:=λhi=>⟨mW.2 (.inl hi.1),hi.2⟩;have aht:kP L (p ||| 2^q) q:=⟨mW.2 (.inr rfl),rv⟩;have ahu:∀ {i},kP L p i->¬ pH ops q i:=fun {i} hi ag=>by have:=ag.mem h.ru (λe he=>h.ru i e hi.1 he);rw[lr]at this;cases this
 refine⟨h.rel,λi hi=>mW.2 (.inl (h.sub i hi)),h.wm,?_,?_,?_⟩
 ·intro j e ai he;rcases mW.1 ai with ai | rfl
  ·exact mW.2 (.inl (h.ru j e ai he))
  ·exact mW.2 (.inl (zD e he))
 ·intro t aq;have aa:o.dst≠some t:=λe=>aq q aht (by rw[G' aL,e]);rw[KZ aa];exact tu t _ _ (h.T t λi hi=>aq i (xV hi))
 ·intro i hi;by_cases pI:i=q
  ·subst pI;refine⟨o,aL,⟨K1,?_,?_,?_,?_⟩⟩
   ·intro d ah;rw[ah,put_eq];simp only[bT];exact .refl _
   ·intro t aq j ai ag wo;have K2:j≠i:=λe=>by subst e;have:=ag.mem h.ru zD;rw[lr]at this;cases this
    simp only[bN K2,bT];obtain⟨mU,ahv,mX⟩:=h.zH j (qu ai K2);exact(mX.hK t (by rw[<-G' ahv];exact wo)).trans (tu t)
   ·intro t aq eK;simp only[bT];refine tu t _ _ (h.T t λj ai wo=>eK j (xV ai) (Inv.ahead dx h.ru aL lr ai.1 aq wo) wo)
   ·simpa using af
  ·obtain⟨gD,iq,mX⟩:=h.zH i (qu hi pI);refine⟨gD,iq,⟨mX.quiet,?_,?_,?_,?_⟩⟩
   ·intro d ah;simp only[bN pI];rw[KZ (dx.O' i q gD o d pI iq aL ah)];exact(mX.hK d ah).trans (tu d)
   ·intro t aq j ai ag wo;have Hb:j≠q:=λe=>by subst e;exact ahu (qu hi pI) ag
    simp only[bN pI,bN Hb];exact mX.b t aq j (qu ai Hb) ag wo
   ·intro t aq eK;simp only[bN pI];exact mX.a t aq λj ai=>eK j (xV ai)
   ·simp only[bN pI];exact mX.r.imp (λ⟨aa,ad,ak⟩=>⟨aa,ad,λt x aI=>uK _ (ak t x aI)⟩) id
def Inv.exec{zy:Act->World->Prop}(aN:cW X.P X.E)(dx:wk ops)(h8:∀ d,o.dst=some d->d<X.n)(h:Inv X ops im' L β a w F C I M p cm hL gN)(aL:ops[q]?=some o)(aJ:kP L p q)(bp:∀ e,mV ops q e->L e)
  (ek:∀ bL,Inv X ops im' (λi=>L i\/i=q) β bL w F C I M p cm hL gN->zy bL w):wpOpIn (g8 X) 0 X.P ops.toArray Q q zy a w:=by
 obtain⟨o',ry,mX⟩:=h.zH q aJ;rw[aL]at ry;cases ry;have D7:∀ {i},pH ops i q->¬ kP L p i:=λag hi=>hi.2 (ag.mem h.wm bp);have dI:∀ t∈looks ops o,e4 β (gN q t) (a.tmps.getD t undef):=λt aq=>mX.a t aq λi hi ag=>(D7 ag hi).elim;have after:∀ v,e4 β (hL q) v->Inv X ops im' (λi=>L i\/i=q) β (a.put o.dst v) w F C I M p cm hL gN:=λv aj=>by
  have qu:∀ {i},kP (λi=>L i\/i=q) p i->kP L p i/\i≠q:=λhi=>⟨⟨hi.1,λe=>hi.2 (.inl e)⟩,λe=>hi.2 (.inr e)⟩;have xV:∀ {i},kP L p i->i≠q->kP (λi=>L i\/i=q) p i:=λhi bt=>⟨hi.1,λe=>e.elim hi.2 bt⟩;refine⟨h.rel.put h8 (x:=.nC) trivial |> λh=>h.refine λ_=>trivial,?_,?_,h.ru,?_,?_⟩
  ·rintro i (hi | rfl)
   ·exact h.sub i hi
   ·exact aJ.1
  ·rintro j e (ai | rfl) he
   ·exact .inl (h.wm j e ai he)
   ·exact .inl (bp e he)
  ·intro t aq;by_cases ah:o.dst=some t
   ·have aZ:t<a.tmps.size:=by rw[h.rel.size];exact h8 t ah
    rw[ah,Pc aZ];exact mX.hK t ah _ _ aj
   ·rw[K0 ah];refine h.T t λi hi qt=>?_;by_cases pI:i=q
    ·subst pI;rw[G' aL]at qt;exact ah qt
    ·exact aq i (xV hi pI) qt
  ·intro i hi;obtain⟨cC,pI⟩:=qu hi;obtain⟨gD,iq,su⟩:=h.zH i cC;refine⟨gD,iq,⟨su.quiet,su.hK,λt aq j ai=>su.b t aq j (qu ai).1,?_,su.r⟩⟩;intro t aq eK;by_cases ah:o.dst=some t
   ·have aZ:t<a.tmps.size:=by rw[h.rel.size];exact h8 t ah
    rw[ah,Pc aZ];have ag:pH ops q i:=by
     rcases dx.ord q i o gD t (si pI) aL iq ah aq with ag | ag;·exact ag
     ·exact(D7 ag cC).elim
    exact su.b t aq q aJ ag (by rw[G' aL,ah]) _ _ aj
   ·rw[K0 ah];refine su.a t aq λj ai ag wo=>?_;by_cases Hb:j=q
    ·subst Hb;rw[G' aL]at wo;exact ah wo
    ·exact eK j (xV ai Hb) ag wo
 have Hc:ops.toArray[q]?=some o:=by simpa using aL
 unfold wpOpIn;simp only[Hc];rcases mX.r with⟨fb,Wq,-⟩ | ⟨xW,ab⟩
 ·rw[Wm fb dI,bT rfl];let G:Fr:=λt=>if t∈looks ops o then gN q t else .nC
  have fA:∀ t,e4 β (G t) (a.tmps.getD t undef):=λt=>by
   by_cases aq:t∈looks ops o;·simp only[G,bT aq];exact dI t aq
   ·simp only[G,bN aq];trivial
  have Pe:∀ y∈o.op.operands,dq G y=dq (gN q) y:=λy aC=>by
   cases y with
   |tmp t=>simp only[dq,G,bT (Pb aC)]| const v=>cases v<;>rfl
   |global g=>rfl| func f=>rfl
  have ahw:=Wj Wq Pe (C':=C) (I':=I) (M':=M) λ_ _ _=>⟨λ_ _ _=>rfl,λ_ _ _ h=>ahd h⟩;obtain⟨dst,op,ty,pos,ahx,guard⟩:=o;have bU:∀ c,op≠.defer c:=λc e=>by have:=mX.quiet;rw[e]at this;cases this
  rcases V0 aN (h.rel.refine fA) op ty dst pos ahx guard ahw with aa | ⟨v,x,jD,ab,rfl⟩;·exact aa.elim
  ·exact iN bU jD (ek _ (after v ab))
 ·rw[Wn xW dI];simp only[ld,mj];exact⟨λ_ _=>trivial,ek _ (after undef (by rw[ab];rfl))⟩
end
section
variable{X:c3}{ops:List Oper}{im':Nat->Bool}{L:Nat->Prop}{β:Nat->Nat}{a:Act}{w:World}{F:Fr}{C:dN}{I:aH}{M:List aE}{p:Nat}{cm:List (Nat×Nat)}{hL:Nat->dH}{gN:Nat->Fr}{q:Nat}{o:Oper}
def Inv.refine(h:Inv X ops im' L β a w F C I M p cm hL gN)(tu:∀ t,tt (F t) (lZ t)):Inv X ops im' L β a w lZ C I M p cm hL gN:=
 ⟨h.rel,h.sub,h.wm,h.ru,λt aq=>tu t _ _ (h.T t aq),λi hi=>by
  obtain⟨gD,iq,aJ⟩:=h.zH i hi;exact⟨gD,iq,⟨aJ.quiet,λd ah=>(aJ.hK d ah).trans (tu d),aJ.b,aJ.a,aJ.r⟩⟩⟩
def Inv.step(dx:wk ops)(h8:∀ d,o.dst=some d->d<X.n)(h:Inv X ops im' L β a w F C I M p cm hL gN)(aL:ops[q]?=some o)(lr:p.testBit q=false)(bp:∀ e,mV ops q e->L e)
 {x:dH} {C':dN} (ab:e4 β x v) (af:cN X β a w' (λ_=>.nC) C' I' M')
  (hm:∀ i gD fU,kP L p i->ops[i]?=some gD->qq gD.op=true->(i,fU)∈cm->(∀ s,fU=s+1->C' s=C s)/\(fU=0->∀ b o,ik I (wi (im' i) M) b o->ik I' (wi (im' i) M') b o)) :
  Inv X ops im' (λi=>L i\/i=q) β (a.put o.dst v) w' (put o.dst x F) C' I' M' (p ||| 2^q) cm hL gN:=by
 have qu:∀ {i},kP (λi=>L i\/i=q) (p ||| 2^q) i->kP L p i:=λhi=>⟨(mW.1 hi.1).resolve_right (λe=>hi.2 (.inr e)),λe=>hi.2 (.inl e)⟩;have xV:∀ {i},kP L p i->kP (λi=>L i\/i=q) (p ||| 2^q) i:=fun {i} hi=>⟨mW.2 (.inl hi.1),λe=>e.elim hi.2 (λe=>by
  subst e;have:=hi.1;rw[lr]at this;cases this)⟩
 refine⟨af.put h8 (x:=.nC) trivial |> λh=>h.refine λ_=>trivial,?_,?_,?_,?_,?_⟩
 ·rintro i (hi | rfl)
  ·exact mW.2 (.inl (h.sub i hi))
  ·exact mW.2 (.inr rfl)
 ·rintro j e (ai | rfl) he
  ·exact .inl (h.wm j e ai he)
  ·exact .inl (bp e he)
 ·intro j e ai he;rcases mW.1 ai with ai | rfl
  ·exact mW.2 (.inl (h.ru j e ai he))
  ·exact mW.2 (.inl (h.sub e (bp e he)))
 ·intro t aq;by_cases ah:o.dst=some t
  ·have aZ:t<a.tmps.size:=by rw[h.rel.size];exact h8 t ah
   rw[ah,Pc aZ,put_eq];exact ab
  ·rw[K0 ah,KZ ah];exact h.T t λi hi=>aq i (xV hi)
 ·intro i hi;have cC:=qu hi;obtain⟨gD,iq,su⟩:=h.zH i cC;have pI:i≠q:=λe=>by subst e;have:=cC.1;rw[lr]at this;cases this
  refine⟨gD,iq,⟨su.quiet,?_,λt aq j ai=>su.b t aq j (qu ai),?_,?_⟩⟩;·intro d ah;rw[KZ (dx.O' i q gD o d pI iq aL ah)];exact su.hK d ah
  ·intro t aq eK;have ah:o.dst≠some t:=λah=>by
    rcases dx.ord q i o gD t (si pI) aL iq ah aq with ag | ag;·have:=ag.mem h.ru (λe he=>h.ru i e cC.1 he);rw[lr]at this;cases this
    ·exact cC.2 (ag.mem h.wm bp)
   rw[K0 ah];exact su.a t aq λj ai=>eK j (xV ai)
  ·refine su.r.imp (λ⟨aa,ad,ak⟩=>⟨aa,Wj ad (λ_ _=>rfl) λt x ax=>?_,ak⟩) id;have aK:=ak t x ax;have bz:=hm i gD _ cC iq (by rw[ax];rfl) aK;refine⟨λs off e=>?_,λbt=>bz.2 ?_⟩
   ·exact bz.1 s (by rw[e];rfl)
   ·generalize dq (gN i) x=ahy at bt;cases ahy with
    |ref s off=>exact(bt s off rfl).elim| _=>rfl
def B2(X:c3)(ops:List Oper)(im':Nat->Bool)(K:gl)(L:Nat->Prop)(a:Act)(w:World):Prop:=
 ∃ β F C I M p cm hL gN n,Inv X ops im' L β a w F C I M p cm hL gN/\pG X ops im' n p cm F C I M K
def Hd{k:Bool}{i:Nat}:i∈qs ops p k ↔ ∃ o,ops[i]?=some o/\p.testBit i=false/\D6 o.op=k/\(∀ e,mV ops i e->p.testBit e=true):=by
 unfold qs;rw[n4,j9];have He:∀ {o},ops[i]?=some o->(G5 o p=true ↔ ∀ e,mV ops i e->p.testBit e=true):=fun {o} aA=>by
  unfold G5;rw[fS];constructor;·rintro h e⟨o',kO,ry,rs,ag,rfl⟩;rw[aA]at ry;cases ry;have:=h kO (by simpa using rs);rw[ag]at this;simpa using this
  ·intro h kO rs;cases ag:Region.binds .any kO with
   |false=>simp| true=>simp[h kO.on ⟨o,kO,aA,by simpa using rs,ag,rfl⟩]
 constructor
 ·rintro⟨aZ,h⟩;cases aA:ops[i]? with
  |none=>rw[aA]at h;cases h| some o=>rw[aA]at h;simp only[cB,tq,beq_iff_eq]at h;exact⟨o,rfl,h.1,h.2.1,(He aA).1 h.2.2⟩
 ·rintro⟨o,aA,aa,ad,ak⟩;refine⟨(hG.1 aA).1,?_⟩;rw[aA];simp only[aa,ad,(He aA).2 ak,Bool.not_false,G2,Bool.and_self]
def Wr{P:Nat->Prop}:∀ {l:List Nat},O5 P l->∀ i∈l,P i
 |[],_,i,hi=>by cases hi
 |[j],h,i,hi=>by rw[eN]at hi;subst hi;exact h
 |j::k::l,h,i,hi=>by
  rcases eI.1 hi with rfl | hi;·exact h.1
  ·exact Wr (l:=k::l) h.2 i hi
def ahz(i:Nat)(op:Op)(ρ:Operand->dH)(cm:List (Nat×Nat)):∀ s∈cm,s∈G8 i op ρ cm:=λs av=>by
 unfold G8;split
 ·exact .tail _ av
 ·exact av
def ahA{i:Nat}{cm:List (Nat×Nat)}:∀ t x,op=.load t x->(i,KV (ρ x))∈G8 i op ρ cm:=λt x aI=>by subst aI;unfold G8;exact .head _
def B2.advance(dx:wk ops){K:gl}:∀ (n:Nat) {p cm F hL gN},Inv X ops im' L β a w F C I M p cm hL gN->pG X ops im' n p cm F C I M K -> ∃ p cm F hL gN n,Inv X ops im' L β a w F C I M p cm hL gN/\qs ops p true=[]/\pG X ops im' (n+1) p cm F C I M K
 |0,_,_,_,_,_,_,aj=>aj.elim
 |n+1,p,cm,F,hL,gN,bA,aj=>by
  cases af:qs ops p true with
  |nil=>exact⟨p,cm,F,hL,gN,n,bA,af,aj⟩
  |cons q l=>
   have gh:q∈qs ops p true:=by rw[af];simp
   obtain⟨o,aL,lr,K1,zD⟩:=Hd.1 gh;have lk:=aj;unfold pG at lk;rw[af]at lk;simp only[aL]at lk;obtain⟨lZ,tu,⟨fb,aa⟩ | ⟨xW,aa⟩⟩:=Wo lk;·obtain⟨x,ad,ak⟩:=ahj (ahf aa);exact B2.advance dx n (bA.record dx aL lr zD K1 tu (ahz _ _ _ _) (.inl ⟨fb,ak,ahA⟩)) ad
   ·exact B2.advance dx n (bA.record dx aL lr zD K1 tu (λ_ h=>h) (.inr ⟨xW,rfl⟩)) aa
def mem_ready{i:Nat}(dn:dG.size=ops.length):i∈Region.ready .any ops.toArray dG ↔ ∃ o,ops[i]?=some o/\¬ dG.getD i false=true/\∀ e,mV ops i e->dG.getD e false=true:=by
 unfold Region.ready;rw[n4,j9];simp only[tr,BW,cB,tq];have He:∀ {o},ops[i]?=some o->((o.after.all λe=>!Region.binds .any e||dG.getD e.on false)=true ↔ ∀ e,mV ops i e->dG.getD e false=true):=fun {o} aA=>by
  rw[Array.all_eq_true_iff_forall_mem];constructor;·rintro h e⟨o',kO,ry,rs,ag,rfl⟩;rw[aA]at ry;cases ry;have:=h kO rs;rw[ag]at this;simpa using this
  ·intro h kO rs;cases ag:Region.binds .any kO with
   |false=>simp| true=>simp[h kO.on ⟨o,kO,aA,rs,ag,rfl⟩]
 have Ws:i<ops.length->(dG.getD i true=false ↔ ¬ dG.getD i false=true):=λhi=>by
  have:i<dG.size:=by omega
  simp[Array.getD,this]
 constructor
 ·rintro⟨aZ,aa,ad⟩;cases aA:ops[i]? with
  |none=>rw[aA]at ad;cases ad| some o=>rw[aA]at ad;exact⟨o,rfl,(Ws aZ).1 aa,(He aA).1 ad⟩
 ·rintro⟨o,aA,aa,ad⟩;have aZ:=(hG.1 aA).1;refine⟨aZ,(Ws aZ).2 aa,?_⟩;rw[aA];exact(He aA).2 ad
def Wt{i:Nat}(hi:i<dG.size):(λj=>(dG.setIfInBounds i true).getD j false=true)=λj=>dG.getD j false=true\/j=i:=by
 funext j;simp only[pz,DR,eq_iff_iff];by_cases e:i=j
 ·subst e;simp[hi]
 ·simp only[bN e];constructor
  ·exact .inl
  ·rintro(h | h)
   ·exact h
   ·exact(e h.symm).elim
def todo(ops:List Oper)(dG:Array Bool):Nat:=((List.range ops.length).filter λi=>!dG.getD i false).length
def K3{i:Nat}(hi:i<ops.length)(dn:dG.size=ops.length)(aD:¬ dG.getD i false=true):todo ops (dG.setIfInBounds i true)<todo ops dG:=by
 unfold todo;have key:∀ l:List Nat,l.Nodup->i∈l->((l.filter λj=>!(dG.setIfInBounds i true).getD j false).length<(l.filter λj=>!dG.getD j false).length):=by
  have same:∀ j,j≠i->(dG.setIfInBounds i true).getD j false=dG.getD j false:=λj ai=>by simp only[pz,DR,bN (si ai)]
  have self:(dG.setIfInBounds i true).getD i false=true:=by
   have:i<dG.size:=by omega
   simp[pz,DR,this]
  have xX:dG.getD i false=false:=by simpa using aD
  intro l
  induction l with
  |nil=>intro _ h;cases h
  |cons j l aQ=>
   intro bU hm;rw[lf]at bU;by_cases e:j=i
   ·subst e;have:l.filter (λk=>!(dG.setIfInBounds j true).getD k false)=l.filter (λk=>!dG.getD k false):=
     G1 λk ae=>by rw[same k (λe=>bU.1 (e ▸ ae))]
    simp only[xT,self,xX,this];simp
   ·have sv:i∈l:=by
     rcases eI.1 hm with h | h;·exact(e h.symm).elim
     ·exact h
    have:=aQ bU.2 sv;simp only[xT,same j e];split;·simp only[et];omega
    ·exact this
 exact key _ BY (j9.2 hi)
def ahB(aN:cW X.P X.E)(dx:wk ops)(h8:∀ o∈ops,∀ d,o.dst=some d->d<X.n){K:gl}(kM:∀ a w,Sat X K a w->Q .normal a w):∀ (fc:Nat) (dG:Array Bool) (a:Act) (w:World),
  dG.size=ops.length->todo ops dG<=fc->B2 X ops im' K (λi=>dG.getD i false=true) a w->wpAnyIn (g8 X) 0 X.P .any ops.toArray Q fc dG a w:=by
 intro fc
 induction fc with
 |zero=>
  rintro dG a w dn aB⟨β,F,C,I,M,p,cm,hL,gN,n,bA,aj⟩;have mw:Region.ready .any ops.toArray dG=[]:=by
   cases af:Region.ready .any ops.toArray dG with
   |nil=>rfl| cons i l=>obtain⟨o,aA,aD,_⟩:=(mem_ready dn).1 (by rw[af];simp:i∈Region.ready .any ops.toArray dG);have:=K3 (hG.1 aA).1 dn aD;omega
  refine⟨mw,?_⟩;obtain⟨p,cm,F,hL,gN,n,bA,h9,aj⟩:=B2.advance dx n bA aj;have Hf:∀ i,p.testBit i=true->dG.getD i false=true:=λi=>by
   induction i using Nat.strongRecOn with
   |ind i aQ=>intro aJ;refine GY λaD=>?_;obtain⟨o,aA,_⟩:=bA.zH i ⟨aJ,aD⟩;have:i∈Region.ready .any ops.toArray dG:=(mem_ready dn).2 ⟨o,aA,aD,λe he=>aQ e (dx.lt i e he) (bA.ru i e aJ he)⟩;rw[mw]at this;cases this
  have tv:qs ops p false=[]:=by
   cases af:qs ops p false with
   |nil=>rfl| cons i l=>obtain⟨o,aA,aJ,_,ah⟩:=Hd.1 (by rw[af];simp:i∈qs ops p false);have:i∈Region.ready .any ops.toArray dG:=(mem_ready dn).2 ⟨o,aA,λcG=>(by have ep:=bA.sub i cG;rw[aJ]at ep;exact Bool.noConfusion ep),λe he=>Hf e (ah e he)⟩;rw[mw]at this;cases this
  unfold pG at aj;rw[h9,tv]at aj;exact kM _ _ ⟨F,C,I,M,⟨β,bA.rel.refine λt=>bA.T t λi hi=>(hi.2 (Hf i hi.1)).elim⟩,aj⟩
 |succ fc aQ=>
  rintro dG a w dn aB⟨β,F,C,I,M,p,cm,hL,gN,n,bA,aj⟩;obtain⟨p,cm,F,hL,gN,n,bA,h9,aj⟩:=B2.advance dx n bA aj;refine⟨λmw=>?_,λq aL=>?_⟩
  ·have Hf:∀ i,p.testBit i=true->dG.getD i false=true:=λi=>by
    induction i using Nat.strongRecOn with
    |ind i aQ=>intro aJ;refine GY λaD=>?_;obtain⟨o,aA,_⟩:=bA.zH i ⟨aJ,aD⟩;have:i∈Region.ready .any ops.toArray dG:=(mem_ready dn).2 ⟨o,aA,aD,λe he=>aQ e (dx.lt i e he) (bA.ru i e aJ he)⟩;rw[mw]at this;cases this
   have tv:qs ops p false=[]:=by
    cases af:qs ops p false with
    |nil=>rfl| cons i l=>obtain⟨o,aA,aJ,_,ah⟩:=Hd.1 (by rw[af];simp:i∈qs ops p false);have:i∈Region.ready .any ops.toArray dG:=(mem_ready dn).2 ⟨o,aA,λcG=>(by have ep:=bA.sub i cG;rw[aJ]at ep;exact Bool.noConfusion ep),λe he=>Hf e (ah e he)⟩;rw[mw]at this;cases this
   unfold pG at aj;rw[h9,tv]at aj;exact kM _ _ ⟨F,C,I,M,⟨β,bA.rel.refine λt=>bA.T t λi hi=>(hi.2 (Hf i hi.1)).elim⟩,aj⟩
  ·obtain⟨o,aA,aD,ah⟩:=(mem_ready dn).1 aL;have aZ:=(hG.1 aA).1;have uP:=h8 o (rk aA);have g2:=Wt (dG:=dG) (i:=q) (by omega);have next:∀ bL w',B2 X ops im' K (λi=>dG.getD i false=true\/i=q) bL w'->wpAnyIn (g8 X) 0 X.P .any ops.toArray Q fc (dG.setIfInBounds q true) bL w':=λbL w' h=>by refine aQ _ bL w' (by simpa using dn) ?_ (by rw[g2];exact h);have:=K3 aZ dn aD;omega
   cases lr:p.testBit q with
   |true=>
    exact bA.exec aN dx uP aA ⟨lr,aD⟩ ah λbL h=>next bL w ⟨β,F,C,I,M,p,cm,hL,gN,n+1,h,aj⟩
   |false=>
    have Hg:∀ e,mV ops q e->p.testBit e=true:=λe he=>bA.sub e (ah e he);have ahC:D6 o.op=false:=by
     cases ahD:D6 o.op with
     |false=>rfl| true=>have:q∈qs ops p true:=Hd.2 ⟨o,aA,lr,ahD,Hg⟩;rw[h9]at this;cases this
    have gh:q∈qs ops p false:=Hd.2 ⟨o,aA,lr,ahC,Hg⟩;unfold pG at aj;rw[h9]at aj;simp only at aj;split at aj;·rename_i tv;rw[tv]at gh;cases gh
    ·rename_i i0 fH tv;rw[tv]at gh;have ag:=Wr aj q gh;simp only[aA]at ag;obtain⟨lZ,tu,ag⟩:=Wo ag;have de:=bA.refine tu;have l0:=de.ahs dx aA lr ah;have Hc:ops.toArray[q]?=some o:=by simpa using aA
     unfold wpOpIn;simp only[Hc];rcases ag with⟨fb,ag⟩ | ⟨xW,ag⟩
     ·rw[Wm fb l0,bT rfl];cases Pf:Wa ((lq ops).getD q 0) p with
      |true=>
       rw[Pf]at ag;simp only[wh,cF]at ag;have eO:∀ i,p.testBit i=true->dG.getD i false=true:=λi hi=>by
        have aa:=ed Pf;have ad:(p &&& (lq ops).getD q 0).testBit i=true:=by rw[aa];exact hi
        rw[Nat.testBit_and,cB]at ad;exact(zE ad.2).mem bA.wm ah
       have aV:Rel X a w lZ C I M:=⟨β,de.rel.refine λt=>de.T t λi hi=>(hi.2 (eO i hi.1)).elim⟩;refine td (λbL w'=>?_) (DZ aN uP aV ag);rintro⟨dc,C',I',M',⟨oC,gL⟩,ae⟩;have ahE:∀ i,¬ kP (λi=>dG.getD i false=true\/i=q) (p ||| 2^q) i:=λi hi=>by
        rcases mW.1 hi.1 with aa | aa;·exact hi.2 (.inl (eO i aa))
        ·exact hi.2 (.inr aa)
       refine next bL w' ⟨oC,dc,C',I',M',p ||| 2^q,cm,hL,gN,n,⟨gL.refine λ_=>trivial,?_,?_,?_,λt _=>gL.an t,λi hi=>(ahE i hi).elim⟩,ae⟩
       ·rintro i (hi | rfl)
        ·exact mW.2 (.inl (bA.sub i hi))
        ·exact mW.2 (.inr rfl)
       ·rintro j e (ai | rfl) he
        ·exact .inl (bA.wm j e ai he)
        ·exact .inl (ah e he)
       ·intro j e ai he;rcases mW.1 ai with ai | rfl
        ·exact mW.2 (.inl (bA.ru j e ai he))
        ·exact mW.2 (.inl (Hg e he))
      |false=>
       rw[Pf]at ag;let G:Fr:=λt=>if t∈looks ops o then lZ t else .nC
       have fA:∀ t,e4 β (G t) (a.tmps.getD t undef):=λt=>by
        by_cases aq:t∈looks ops o;·simp only[G,bT aq];exact l0 t aq
        ·simp only[G,bN aq];trivial
       have Pe:∀ y∈o.op.operands,dq G y=dq lZ y:=λy aC=>by
        cases y with
        |tmp t=>simp only[dq,G,bT (Pb aC)]| const v=>cases v<;>rfl
        |global g=>rfl| func f=>rfl
       refine td (λbL w'=>?_) (ahm aN (de.rel.refine fA) Pe ag);rintro⟨v,x,C',I',M',rfl,ab,gL,ae,hm⟩;refine next _ _ ⟨β,_,C',I',M',p ||| 2^q,cm,hL,gN,n,de.step dx uP aA lr ah ab (gL.refine λ_=>trivial) ?_,ae⟩
       rcases hm with⟨G7,nE⟩ | ⟨rfl,bf,fj⟩
       rotate_left
       ·exact λ_ _ _ _ _ _ _=>⟨λ_ _=>rfl,λ_=>We fj bf⟩
       have D7:∀ {i},kP (λi=>dG.getD i false=true) p i->((lq ops).getD q 0).testBit i=true->False:=λhi ag=>hi.2 ((zE ag).mem bA.wm ah);intro i gD fU hi iq e6 gh;have eK:∀ {s:Nat},BZ ((lq ops).getD q 0) s cm=true->fU≠s:=fun {s} h e=>by
        rcases Wb h gh with aa | aa;·exact D7 hi aa
        ·exact aa e
       rcases(lp _ _).mp G7 with ahF | ahG
       ·have aa:=fS.1 ahF i (j9.2 (hG.1 iq).1);rw[hi.1,iq]at aa;simp only[wg,uM,lp,tq]at aa;rcases aa with aa | aa
        ·exact(D7 hi aa).elim
        ·rw[aa]at e6;cases e6
       rcases(lp _ _).mp ahG with D8 | xY
       ·unfold Wd at D8;split at D8
        ·rename_i t0 uQ Pg dy;split at D8
         ·rename_i cx avh aI;obtain⟨⟨eT,hM⟩,c4⟩:=nE.1 _ _ _ _ _ dy aI;exact⟨λcg e=>eT cg (λa6=>eK D8 (by rw[e,a6])),λ_=>We c4 hM⟩
         ·cases D8
        ·cases D8
       rcases(lp _ _).mp xY with xY | xZ
       ·unfold Wc at xY;split at xY
        ·rename_i t0 uQ Pg dy;split at xY
         ·rename_i ahH aI;exact⟨λ_ _=>by rw[(nE.2.1 _ _ _ _ dy aI).1],λe=>(eK xY e).elim⟩
         ·cases xY
        ·rename_i dy;exact⟨λ_ _=>by rw[(nE.2.2 (λt x y e=>by rw[dy]at e;cases e)).1],λe=>(eK xY e).elim⟩
        ·cases xY
       unfold Wh at xZ;rw[cB]at xZ;obtain⟨ahI,xZ⟩:=xZ;have ahJ:im' i=true:=by
        have aa:=fS.1 ahI i (j9.2 (hG.1 iq).1);rw[hi.1,iq]at aa;simp only[wg,uM,lp,tq]at aa;rcases aa with aa | aa | aa;·exact(D7 hi aa).elim
        ·exact aa
        ·rw[aa]at e6;cases e6
       have bf:C'=C/\∀ b o,I b=some o->I' b=some o:=by
        unfold Wg at xZ;split at xZ
        ·rename_i t0 uQ Pg dy;split at xZ
         ·rename_i ahH aI;exact nE.2.1 _ _ _ _ dy aI
         ·cases xZ
        ·rename_i dy;exact nE.2.2 (λt x y e=>by rw[dy]at e;cases e)
        ·rename_i dy;exact nE.2.2 (λt x y e=>by rw[dy]at e;cases e)
        ·cases xZ
       exact⟨λ_ _=>by rw[bf.1],λ_=>by rw[ahJ];exact ahe bf.2⟩
     ·rw[Wn xW l0];simp only[ld,mj];refine⟨λ_ _=>trivial,next _ _ ⟨β,_,C,I,M,p ||| 2^q,cm,hL,gN,n,de.step dx uP aA lr ah (x:=.val undef) rfl de.rel (λ_ _ _ _ _ _ _=>⟨λ_ _=>rfl,λ_ _ _ h=>h⟩),ag⟩⟩
end
def cT.Ph{X:c3}{id:Nat}{F:Fr}{I:aH}{K:kq}(aN:cW X.P X.E)(hm:X.P.follows .mixedOrders=true)(ao:B0 A.toList=true)(aD:xN X.n A=true)
  {im':Nat->Bool} (h:pG X A.toList im' (A.size+1) 0 [] F C I M (K .normal)):cT X (.region id A true) F C I M K:=by
 refine⟨λa w ⟨β,aV⟩=>wpIn_region_any hm ?_⟩;have rz:cN X β a { w with drawn:=w.drawn+1 } F C I M:=aV.world rfl;have bY:∀ i,(Array.replicate A.size false).getD i false=false:=λi=>by
  by_cases hi:i<A.size<;>simp[pz,hi]
 have oL:∀ {i},¬ (Array.replicate A.size false).getD i false=true:=fun {i}=>by rw[bY];simp
 have key:=ahB (K:=K .normal) (Q:=mS X K) aN (Wl ao) (KJ aD) (λ_ _ h=>h) A.size (Array.replicate A.size false) a { w with drawn:=w.drawn+1 } (by simp) ?_ ⟨β,F,C,I,M,0,[],λ_=>.nC,λ_ _=>.nC,A.size+1,⟨rz.refine λ_=>trivial,λi hi=>(oL hi).elim,λj e ai=>(oL ai).elim,λj e ai=>by simp at ai,λt _=>rz.an t,λi hi=>by simp[kP]at hi⟩,h⟩
 ·simpa using key
 ·unfold todo;refine jg (G0 _ _) (by simp)
def cT.Wu{X:c3}{id:Nat}{F:Fr}{I:aH}{K:kq}(aN:cW X.P X.E)(hm:X.P.follows .mixedOrders=true)(ao:B0 A.toList=true)(aD:xN X.n A=true)
  {im':Nat->Bool} (a0:ι->xM) (inv:ι->Prop) (aj:pG X A.toList im' (A.toList.length+1) 0 [] F C I M (qm X.foot a0 inv)) (bl:∀ i,inv i->K .normal (rc (a0 i).bo) (re (a0 i).cl) (a0 i).cH (a0 i).dd):cT X (.region id A true) F C I M K:=by
 obtain⟨h⟩:=cT.Ph (im':=im') (K:=λe=>match e with
  | .normal=>qm X.foot a0 inv| e=>K e) aN hm ao aD aj
 refine⟨λa w aV=>wpIn_mono (h a w aV) ?_⟩;intro e a w av;cases e with
 |normal=>obtain⟨dc,C',I',M',⟨β,af⟩,⟨j,ss,hw,bE,gi⟩⟩:=av;exact⟨_,_,_,_,⟨β,(af.cX bE gi).h7 hw⟩,bl j ss⟩
 |_=>exact av
def cT.draw{X:c3}{id:Nat}{F:Fr}{I:aH}{K:kq}(aN:cW X.P X.E)(hm:X.P.follows .mixedOrders=true)(ao:B0 A.toList=true)(aD:xN X.n A=true)(h:pG X A.toList (λ_=>false) (A.size+1) 0 [] F C I M (K .normal)):cT X (.region id A true) F C I M K:=.Ph aN hm ao aD h
def cT.x0{X:c3}{id:Nat}{F:Fr}{I:aH}{K:kq}(aN:cW X.P X.E)(hm:X.P.follows .mixedOrders=true)(ao:B0 A.toList=true)(aD:xN X.n A=true)
 (a0:ι->xM) (inv:ι->Prop) (aj:pG X A.toList (λ_=>false) (A.toList.length+1) 0 [] F C I M (qm X.foot a0 inv)) (bl:∀ i,inv i->K .normal (rc (a0 i).bo) (re (a0 i).cl) (a0 i).cH (a0 i).dd):cT X (.region id A true) F C I M K:=.Wu aN hm ao aD a0 inv aj bl
def cT.Hh{X:c3}{id:Nat}{F:Fr}{I:aH}{K:kq}(hK:Nat->Bool)(aN:cW X.P X.E)(hm:X.P.follows .mixedOrders=true)(ao:B0 A.toList=true)(aD:xN X.n A=true)(h:pG X A.toList hK (A.size+1) 0 [] F C I M (K .normal)):cT X (.region id A true) F C I M K:=.Ph aN hm ao aD h
def Wv{sr:Fence}{n:Nat}{a:Act}{c:Code}(J:Nat->Nat->Act->World->Prop)
  (first:c.wpIn sr n P (λe bL w'=>match e with
   | .goto l=>∃ m,J l m bL w'| e=>Q e bL w') a w)
  (pass:∀ l m a w,J l m a w->∃ bl,findLabel c l=some bl/\bl.wpIn sr n P (λe bL w'=>match e with
   | .goto eu=>∃ m',m'<m/\J eu m' bL w'| e=>Q e bL w') a w):(Code.scope c).wpIn sr n P Q a w:=by
 intro b k cs jj ag af;have cx:step P (lone (b.atR a (.code (.scope c)::k)) cs w)=.next (lone (b.atR a (.code c::.inScope c::k)) cs w):=
  step_lone_go (by simp[stepG,stepG.exec,Frame.atR])
 have s1:∀ a w,step P (lone (b.atR a (.inScope c::k)) cs w)=.next (lone (b.atR a k) cs w):=λa w=>
  step_lone_go (by simp[stepG,stepG.exec,Frame.atR])
 have ab:∀ id,exitTo id (.inScope c::k)=exitTo id k:=λid=>by simp[exitTo]
 have fin:∀ {m:Machine} {e:Exit} {kc:Act} {kd:World},(∀ l,e≠.goto l)->ArrivesIn (Machine.fenced P sr) P m b (.inScope c::k) cs e kc kd->ArrivesIn (Machine.fenced P sr) P m b k cs e kc kd:=by
  intro m e kc kd bt jk;cases e with
  |normal=>exact StepsIn.trans jk (.one (fenced_calm ag af rfl) (s1 _ _))| exit id=>exact⟨λfL ae=>jk.1 fL (by rw[ab];exact ae),λgL ae=>jk.2 gL (by rw[ab];exact ae)⟩| goto l=>exact(bt l rfl).elim| ret=>exact jk| panic GR=>exact jk| outgrown=>exact jk
 have key:∀ m l a w,J l m a w->∀ bl,findLabel c l=some bl->∃ e bL w',Q e bL w'/\ArrivesIn (Machine.fenced P sr) P (lone (b.atR a (.code bl::.inScope c::k)) cs w) b k cs e bL w':=by
  intro m
  induction m using Nat.strongRecOn with
  |_ m aQ=>
   intro l a w a5 bl pJ;obtain⟨D9,aB,hw⟩:=pass l m a w a5;rw[pJ]at aB;cases aB;obtain⟨e,kc,kd,aL,jk⟩:=hw b (.inScope c::k) cs jj ag af;cases e with
   |goto eu=>
    obtain⟨m',aZ,B3⟩:=aL;obtain⟨D9,wq,_⟩:=pass eu m' kc kd B3;have aw:gotoIn eu (.inScope c::k)=some (.code D9::.inScope c::k):=by simp[gotoIn,wq]
    obtain⟨GM,GN,GO,GP,GQ⟩:=aQ m' aZ eu kc kd B3 D9 wq;exact⟨GM,GN,GO,GP,.of_steps (jk.1 _ aw) GQ⟩
   |normal=>exact⟨_,kc,kd,aL,fin (by simp) jk⟩| exit id=>exact⟨_,kc,kd,aL,fin (by simp) jk⟩| ret=>exact⟨_,kc,kd,aL,fin (by simp) jk⟩| panic GR=>exact⟨_,kc,kd,aL,fin (by simp) jk⟩| outgrown=>exact⟨_,kc,kd,aL,fin (by simp) jk⟩
 have ay:(lone (b.atR a (.code (.scope c)::k)) cs w).fenced P sr:=fenced_calm ag af rfl;obtain⟨e,kc,kd,aL,jk⟩:=first b (.inScope c::k) cs jj ag af
 cases e with
 |goto eu=>
  obtain⟨m',B3⟩:=aL;obtain⟨D9,wq,_⟩:=pass eu m' kc kd B3;have aw:gotoIn eu (.inScope c::k)=some (.code D9::.inScope c::k):=by simp[gotoIn,wq]
  obtain⟨GM,GN,GO,GP,GQ⟩:=key m' eu kc kd B3 D9 wq;exact⟨GM,GN,GO,GP,.of_steps (.head ay cx (jk.1 _ aw)) GQ⟩
 |normal=>exact⟨_,kc,kd,aL,.of_steps (.one ay cx) (fin (by simp) jk)⟩| exit id=>exact⟨_,kc,kd,aL,.of_steps (.one ay cx) (fin (by simp) jk)⟩| ret=>exact⟨_,kc,kd,aL,.of_steps (.one ay cx) (fin (by simp) jk)⟩| panic GR=>exact⟨_,kc,kd,aL,.of_steps (.one ay cx) (fin (by simp) jk)⟩| outgrown=>exact⟨_,kc,kd,aL,.of_steps (.one ay cx) (fin (by simp) jk)⟩
def Pj(N:Nat->gl)(K:kq):kq
 | .goto l=>N l| e=>K e
def cT.scope{X:c3}{c:Code}{F:Fr}{I:aH}{K:kq}(aN:cW X.P X.E)(bg:codeOk X.n c=true)(a0:ι->xM)(bs:ι->Nat)(inv:ι->Prop)(μ:ι->Nat)(bl:Nat->Code)(pJ:∀ i,inv i->findLabel c (bs i)=some (bl (bs i))/\codeOk X.n (bl (bs i))=true)(first:V X c F C I M (Pj (λl=>qm X.foot a0 λj=>inv j/\bs j=l) K))(pass:∀ i,inv i->V X (bl (bs i)) (rc (a0 i).bo) (re (a0 i).cl) (a0 i).cH (a0 i).dd (Pj (λl=>qm X.foot a0 λj=>(inv j/\bs j=l)/\μ j<μ i) K)) :
  cT X (.scope c) F C I M K:=by
 refine⟨λa w aV=>?_⟩;let J (l m:Nat) (a:Act) (w:World):Prop:=∃ i,inv i/\bs i=l/\μ i=m/\Rel X a w (rc (a0 i).bo) (re (a0 i).cl) (a0 i).cH (a0 i).dd
 have zx:∀ {p:ι->Prop} {l:Nat} {a w},(∀ i,p i->inv i/\bs i=l)->Sat X (qm X.foot a0 p) a w->∃ i,p i/\J l (μ i) a w:=by rintro p l a w aJ⟨F,C,I,M,⟨β,af⟩,⟨j,ss,hw,bE,gi⟩⟩;exact⟨j,ss,j,(aJ j ss).1,(aJ j ss).2,rfl,β,(af.cX bE gi).h7 hw⟩
 refine Wv J (wpIn_mono (rf aN c bg aV first) ?_) ?_
 ·intro e a w h;cases e with
  |goto l=>obtain⟨j,ai,a5⟩:=zx (p:=λj=>inv j/\bs j=l) (l:=l) (λ_ h=>h) h;exact⟨_,a5⟩
  |_=>exact h
 ·rintro l m a w⟨i,hi,rfl,rfl,af⟩;obtain⟨aa,ad⟩:=pJ i hi;refine⟨_,aa,wpIn_mono (rf aN _ ad af (pass i hi)) ?_⟩;intro e a w h;cases e with
  |goto eu=>obtain⟨j,ai,a5⟩:=zx (p:=λj=>(inv j/\bs j=eu)/\μ j<μ i) (l:=eu) (λ_ h=>h.1) h;exact⟨_,ai.2,a5⟩
  |_=>exact h
def D'(P:Program)(l:Nat)(args:List Value)(I:aH)(M:List aE)(post:Value->aH->List aE->Prop):Prop:=
 ∀ w,eM I M w->∃ f tmps assign body,(Instr.yield l args.toArray).run P w=.ok (.round l f tmps assign body) w /\ RoundIn Fence.wide 0 P l f tmps assign body w λe w'=>∃ v I' M',e=.returned v/\post v I' M'/\eM I' M' w'/\Kept I M w I' M' w'
inductive B4(P:Program)(l:Nat)(args:List Value)(I:aH)(M:List aE)(K:Value->aH->List aE->Prop):Prop
 |mk(eE Mr:List aE)(post:Value->aH->List aE->Prop)(ba:M.Perm (eE++Mr))(av:D' P l args I eE post)(k:∀ v I' M',(∀ b o,I b=some o->I' b=some o)->post v I' M'->K v I' (M'++Mr))
def bD.yield{X:c3}{o:Oper}{F:Fr}{I:aH}{K:gl}{args:Array Operand}{dC:Array TypeId}{l:Nat}(aA:o.op=.call { callee:=.value f,args,argTypes:=dC })(ah:∀ d,o.dst=some d->d<X.n)(aB:bH F f=.val (.func (.yield l) #[] #[]))(iO:mQ F args.toList=some vs)
  (h:B4 X.P l vs I M λv I' M'=>K (put o.dst (.val v) F) C I' M'):bD X o F C I M K:=by
 refine⟨λa w Q ⟨β,aV⟩=>?_⟩;obtain⟨eE,Mr,post,ba,av,ae⟩:=h;obtain⟨fn,tmps,assign,body,aC,af⟩:=av w (aV.holds.part ba);have aI:=tj aV.an iO;have ez:args.map a.eval=vs.toArray:=by apply gX;simpa using aI
 have a6:=dj aV.an aB;obtain⟨dst,op,ty,pos,after,guard⟩:=o;simp only at aA;subst aA;refine⟨λ_ _=>trivial,?_⟩;rw[Kx _ _ _ (by simp)];have fb:(execOp a.eval ⟨dst,.call { callee:=.value f,args,argTypes:=dC },ty,pos,after,guard⟩).run X.P w=.ok (.round l fn tmps assign body) w:=by simp only[execOp,resolve,a6,Deferred.ofValue,cp,da,bZ,ez,invoke];simpa using aC
 rw[fb,Oper.uponIn_round];refine⟨(λh=>by cases h),?_⟩;have gL:RoundIn (g8 X) (0-1) X.P l fn tmps assign body w _:=af;refine gL.mono ?_;rintro e w'⟨v,I',M',rfl,aJ,q8,ek⟩;exact⟨_,_,_,_,⟨β,(aV.after ba q8 ek).put (x:=.val v) ah rfl⟩,ae v I' M' ek.le aJ⟩
def Ww(A:(Nat->aH->List aE->Prop)->Prop)(P:Program)(g:Nat)(cap:List Value)(I:aH)(n:Nat)(Q:Nat->List Value->aH->Prop):Prop:=
 ∀ (l:Nat) (R:Nat->aH->List aE->Prop) (ls:aH->List aE->Prop),A R -> (∀ k (ae:k<n) vs I' M',(∀ b o,I b=some o->I' b=some o)->Q k vs I'->R k I' M'->D' P l vs I' M' λv zI kQ=>(v=.bool true/\R (k+1) zI kQ)\/(v=.bool false/\ls zI kQ)) -> ∀ dQ M0,(∀ b o,I b=some o->dQ b=some o)->R 0 dQ M0->v7 P g (.func (.yield l) #[] #[]::cap) dQ M0 λ_ I' M'=>R n I' M'\/ls I' M'
def wu(R:Nat->aH->List aE->Prop):Prop:=∀ k I I' M,(∀ b o,I b=some o->I' b=some o)->R k I M->R k I' M
def wu.cons(x:aE)(S:Nat->aH->List aE->Prop)(h:wu S):wu λk I M=>∃ dD,M=x::dD/\S k I dD:=by rintro k I I' M bA⟨dD,e,cc⟩;exact⟨dD,e,h k I I' dD bA cc⟩
abbrev Wx:=Ww wu
def Iter(P:Program)(g:Nat)(cap:List Value)(I:aH)(uR:List (List Value)):Prop:=
 ∀ (l:Nat) (R:Nat->aH->List aE->Prop) (ls:aH->List aE->Prop),(∀ k (ae:k<uR.length) I' M',(∀ b o,I b=some o->I' b=some o)->R k I' M'->D' P l uR[k] I' M' λv zI kQ=>(v=.bool true/\R (k+1) zI kQ)\/(v=.bool false/\ls zI kQ)) -> ∀ dQ M0,(∀ b o,I b=some o->dQ b=some o)->R 0 dQ M0->v7 P g (.func (.yield l) #[] #[]::cap) dQ M0 λ_ I' M'=>R uR.length I' M'\/ls I' M'
def Ea:List Nat->List Value->Fr->Fr
 |t::ps,v::vs,F=>Ea ps vs (gY F t (.val v))| _,_,F=>F
def Wy(foot:List Nat)(N:aH->List aE->Prop)(ls:to->aH->List aE->Prop):kq:=λex F C I M=>match ex with
 | .normal=>wb foot I M N| ex=>wb foot I M (ls ex)
def Eb:to->Option Code
 | .normal=>none| .exit id=>some (.exit id)| .goto l=>some (.goto l)| .ret=>some .ret
section
variable{X:c3}{β:Nat->Nat}{a:Act}{w:World}{F:Fr}{C:dN}{I:aH}{M:List aE}
def Wz:∀ (ps:List Nat) (vs:List Value) (F:Fr) (tmps:Array Value),(∀ t∈ps,t<tmps.size)->(∀ t,e4 β (F t) (tmps.getD t undef)) ->
  let r:=(ps.zip vs).foldl (λ(tmps:Array Value) (p:Nat×Value)=>tmps.setIfInBounds p.1 p.2) tmps
  r.size=tmps.size/\∀ t,e4 β (Ea ps vs F t) (r.getD t undef)
 |[],vs,F,tmps,_,h=>⟨rfl,h⟩| t::ps,[],F,tmps,_,h=>⟨rfl,h⟩
 |t::ps,v::vs,F,tmps,aJ,h=>by
  have aa:∀ s,e4 β (gY F t (.val v) s) ((tmps.setIfInBounds t v).getD s undef):=λs=>by have:=OQ (β:=β) (F:=F) (a:=⟨tmps,[]⟩) h (d:=t) (x:=.val v) (v:=v) (aJ t (by simp)) rfl s;exact this
  have aQ:=Wz ps vs (gY F t (.val v)) (tmps.setIfInBounds t v) (λs av=>by simpa using aJ s (by simp[av])) aa;simp only[List.zip_cons_cons,km,Ea];exact⟨by simpa using aQ.1,aQ.2⟩
def cN.WA(h:cN X β a w F C I M):cN X β { a with defers:=xF w.heap.size::a.defers } (w.alloc (.deferred (some []))) F C I M where
 size:=h.size
 defers:=by
  obtain⟨a',aa,ad,ak⟩:=h.defers;refine⟨w.heap.size::a',by simp[aa],?_,?_⟩;·rw[lf];refine⟨λhm=>?_,ad⟩;have:=(lR.1 (ak _ hm).bF).1;omega
  ·intro r af;rcases eI.1 af with rfl | af
   ·exact⟨OO w _,h.sz,h.holds.sp,h.holds.q7⟩
   ·exact(ak r af).alloc _
 holds:=h.holds.alloc _
 an:=h.an
 cm s cs av:=(h.cm s cs av).alloc _
 inj:=h.inj
 il:=h.il
 hT:=h.hT
 own:=h.own
 dO:=OS h.dO h.sz _
 out:=h.out
 sz:=by have:=h.sz;simp;omega
 fx:=h.fx
def cN.Hi{n:Nat}{o o':Obj}(h:cN X β a w F C I (⟨n,o⟩::M)):cN X β a (w.putObj n o') F C I M:=by
 have fM:(⟨n,o⟩:aE)∈(⟨n,o⟩:aE)::M:=by simp
 have bU:=h.holds.b3;simp only[b5,lf]at bU;exact {
  size:=h.size
  defers:=h.defers.mono λr af=>by have bt:n≠r:=af.e7 _ fM;refine { af with bF:=?_,e7:=λx ab=>af.e7 x (by simp[ab]) };rw[nA (si bt)];exact af.bF
  holds:={
   i:=λb o iP=>by rw[nA (λe=>by have:=h.holds.d _ fM;simp only at this;rw[e,this]at iP;cases iP)];exact h.holds.i b o iP
   m:=λx ab=>by rw[nA (λe=>bU.1 (cP.2 ⟨x,ab,e⟩))];exact h.holds.m x (by simp[ab])
   d:=λx ab=>h.holds.d x (by simp[ab])
   b3:=bU.2 }
  an:=h.an
  cm:=λs cs av=>by have ag:=h.cm s cs av;have bt:n≠β s:=ag.e7 _ fM;obtain⟨T,be⟩:=ag.bF;refine { ag with bF:=⟨T,?_⟩,e7:=λx ab=>ag.e7 x (by simp[ab]) };rw[nA (si bt)];exact be
  inj:=h.inj
  il:=h.il
  hT:=h.hT
  own:=λx ab=>h.own x (by simp[ab])
  dO:=λb ag aB=>by
   rw[nA (λe=>by
    rcases h.own _ fM with aa | aa;·simp only at aa;exact aB (e ▸ aa)
    ·simp only at aa;omega)]
   exact h.dO b ag aB
  out:=h.out.trans (KD _ _ _)
  sz:=by have:=h.sz;simpa using this
  fx:=h.fx }
def cT.K4{K:kq}{n:Nat}{Q:Nat->List Value->aH->Prop}{A:(Nat->aH->List aE->Prop)->Prop}(dI:∀ x S,A S->A λk I M=>∃ dD,M=x::dD/\S k I dD)(aN:cW X.P X.E)(jj:X.ro=none)(bg:(codeOk X.n fk&&(codeOk X.n body&&ps.toList.all (λt=>Nat.blt t X.n)))=true)(Pk:bH F f=.val (.func (.func g) #[] cap))(x1:hc X.foot I M I1 M1)(x2:Ww A X.P g cap.toList I1 n Q)(cS:∀ k vs I,k<n->Q k vs I->vs.length=ps.size)(R:Nat->aH->List aE->Prop)(ls:to->aH->List aE->Prop)(uS:A R)(start:R 0 I1 M1)(round:∀ k (ae:k<n) vs I' M',(∀ b o,I1 b=some o->I' b=some o)->Q k vs I'->R k I' M'->∀ l B ay hg,V ⟨X.P,X.E,X.gC,X.n,B,ay,I',M'.map (·.num),some l⟩ fk (Ea ps.toList vs F) (λ_=>none) I' M' (zw (λF C I M=>V ⟨X.P,X.E,X.gC,X.n,B,hg,I',M'.map (·.num),some l⟩ body F C I M (Wy (M'.map (·.num)) (R (k+1)) ls)) (λ_ _ _ _ _=>False)))(done:∀ I' M',(∀ b o,I1 b=some o->I' b=some o)->R n I' M'->K .normal F C I' M')(stop:∀ ex I' M',(∀ b o,I1 b=some o->I' b=some o)->ls ex I' M'->ex≠.normal/\K ex F C I' M') :
  cT X (.rangeFunc f ps fk body) F C I M K:=by
 refine⟨λa w ⟨β,iT⟩=>?_⟩;have aV:=iT.h7 x1;simp only[cB]at bg;obtain⟨x3,iE,zJ⟩:=bg;refine wpIn_rangeFunc λfn _=>?_;let gE (s:LoopState) (qu:Option Code):Loop:={ state:=s,pending:=qu,fn:=fn,tmps:=a.tmps,params:=ps,assign:=fk,body:=body,defers:=w.heap.size }
 let l:=w.heap.size+1
 let mY:World:=(w.alloc (.deferred (some []))).alloc (.loop (gE .ready none))
 have B5:=aV.WA.n2 (.loop (gE .ready none));have ax:(w.alloc (.deferred (some []))).heap.size=l:=by simp[l]
 rw[ax]at B5;let x4 (k:Nat) (I':aH) (M':List aE):Prop:=∃ dD,M'=⟨l,.loop (gE .ready none)⟩::dD/\R k I' dD
 let WB (I':aH) (M':List aE):Prop:=∃ ex c dD,Eb ex=some c/\M'=⟨l,.loop (gE .done (some c))⟩::dD/\ls ex I' dD
 have aC:∀ k (ae:k<n) vs I' M',(∀ b o,I1 b=some o->I' b=some o)->Q k vs I'->x4 k I' M'->D' X.P l vs I' M' λv zI kQ=>(v=.bool true/\x4 (k+1) zI kQ)\/(v=.bool false/\WB zI kQ):=by
  rintro k ae vs I' _ bf kM⟨dD,rfl,ahK⟩W iD;have Hj:W.heap[l]?=some (.loop (gE .ready none)):=iD.m ⟨l,.loop (gE .ready none)⟩ (by simp);have aZ:l<W.heap.size:=(lR.1 Hj).1;have bU:=iD.b3;simp only[b5,lf]at bU;have WC:I' l=none:=iD.d ⟨l,.loop (gE .ready none)⟩ (by simp);refine⟨_,_,_,_,run_yield Hj (by simpa using cS _ _ _ ae kM),?_⟩;have ir:((gE LoopState.ready none).params.zip vs.toArray).foldl (λtmps (x:Nat×Value)=>match x with | (t,a)=>tmps.setIfInBounds t a) (gE LoopState.ready none).tmps=(ps.toList.zip vs).foldl (λ(tmps:Array Value) (p:Nat×Value)=>tmps.setIfInBounds p.1 p.2) a.tmps:=by rw[<-OJ];simp[gE]
  have Hk:=Wz (β:=β) ps.toList vs F a.tmps (λt aq=>by
   have:=fS.1 zJ t aq;rw[aV.size];exact bK this) aV.an
  rw[<-ir]at Hk;refine roundIn_of_wpIn (F:=Fence.wide) (n:=0) trivial ?_;let wv:c3:=⟨X.P,X.E,X.gC,X.n,W.heap.size,W,I',dD.map (·.num),some l⟩
  let hg:=W.putObj l (.loop (gE .busy none))
  let Hl:c3:=⟨X.P,X.E,X.gC,X.n,W.heap.size,hg,I',dD.map (·.num),some l⟩
  have aj:=round k ae vs I' dD bf kM ahK l W.heap.size W hg;have GU:cN wv β { tmps:=((gE LoopState.ready none).params.zip vs.toArray).foldl (λtmps (x:Nat×Value)=>match x with | (t,a)=>tmps.setIfInBounds t a) (gE LoopState.ready none).tmps,defers:=[] } W (Ea ps.toList vs F) (λ_=>none) I' dD:={
   size:=Hk.1.trans aV.size
   defers:=⟨[],rfl,zp,λr af=>by cases af⟩
   holds:=⟨iD.i,λx ab=>iD.m x (by simp[ab]),λx ab=>iD.d x (by simp[ab]),bU.2⟩
   an:=Hk.2
   cm:=λs cs av=>by cases av
   inj:=λs cg aa=>by simp at aa
   il:=λb o ag=>ag
   hT:=λb o ag=>.inl ag
   own:=λx ab=>.inl (cP.2 ⟨x,ab,rfl⟩)
   dO:=λb ag aB=>rfl
   out:=.refl _
   sz:=b' _
   fx:=λx ab=>by
    obtain⟨y,aC,rfl⟩:=cP.1 ab;exact(lR.1 (iD.m y (by simp[aC]))).1 }
  have KM:=rf (X:=wv) aN fk x3 ⟨β,GU⟩ aj;refine wpIn_mono (Q:=mS wv _) KM ?_;intro e cQ jE av;cases e with
  |exit id=>obtain⟨_,_,_,_,_,ae⟩:=av;exact ae.elim
  |goto id=>obtain⟨_,_,_,_,_,ae⟩:=av;exact ae.elim
  |ret=>obtain⟨_,_,_,_,_,ae⟩:=av;exact ae.elim
  |panic GR=>exact av.elim| outgrown=>exact av.elim
  |normal=>
   obtain⟨lZ,ahL,eA,oM,⟨WD,h9⟩,KI⟩:=av;have rA:jE.heap[l]?=some (.loop (gE .ready none)):=by rw[h9.dO l aZ bU.1];exact Hj
   refine⟨_,run_beginRound rA rfl,?_⟩;have ahM:eA l=none:=by
    cases bA:eA l with
    |none=>rfl
    |some o=>
     rcases h9.hT _ _ bA with aa | aa;·rw[show wv.dQ=I' from rfl,WC]at aa;cases aa
     ·exact absurd aa (Nat.not_le.2 aZ)
   have ahN:∀ x∈oM,x.num≠l:=λx ab e=>by
    rcases h9.own x ab with aa | aa;·rw[e]at aa;exact bU.1 aa
    ·rw[e]at aa;exact absurd aa (Nat.not_le.2 aZ)
   have tv:cN Hl WD cQ (jE.putObj l (.loop (gE .busy none))) lZ ahL eA oM:={
    size:=h9.size
    defers:=by obtain⟨a',bc,bi,ca⟩:=h9.defers;refine⟨a',bc,bi,λr en=>?_⟩;have af:=ca r en;refine { bF:=?_,cX:=af.cX,j':=af.j',e7:=af.e7 };rw[nA (λe=>by have aa:=af.bF;rw[e,rA]at aa;cases aa)];exact af.bF
    holds:={
     i:=λb o iP=>by rw[nA (λe=>by rw[e,ahM]at iP;cases iP)];exact h9.holds.i b o iP
     m:=λx ab=>by rw[nA (ahN x ab)];exact h9.holds.m x ab
     d:=h9.holds.d
     b3:=h9.holds.b3 }
    an:=h9.an
    cm:=λs cs av=>by have ag:=h9.cm s cs av;obtain⟨T,be⟩:=ag.bF;refine { bF:=⟨T,?_⟩,cX:=ag.cX,j':=ag.j',e7:=ag.e7 };rw[nA (λe=>by rw[e,rA]at be;cases be)];exact be
    inj:=h9.inj
    il:=h9.il
    hT:=h9.hT
    own:=h9.own
    dO:=λb ag aB=>by
     by_cases e:b=l;·subst e;rw[D3 (lR.1 rA).1];exact(D3 aZ).symm
     ·rw[nA e];show _=(W.putObj l (.loop (gE .busy none))).heap[b]?;rw[nA e];exact h9.dO b ag aB
    out:=⟨h9.out.1,h9.out.2⟩
    sz:=by have:=h9.sz;simpa using this
    fx:=h9.fx }
   have ahO:=rf (X:=Hl) aN body iE ⟨WD,tv⟩ KI;refine wpIn_mono (Q:=mS Hl _) ahO ?_;have fin:∀ (eD:Act) (oN:World) (wx:Fr) (wy:dN) (lu:aH) (rB:List aE) (jump:Option Code),Rel Hl eD oN wx wy lu rB->∃ ke,(Instr.endRound l jump).run X.P oN=.ok (.bool jump.isNone) ke /\
     eM lu (⟨l,.loop (gE (if jump.isNone then .ready else .done) jump)⟩::rB) ke/\Kept I' (⟨l,.loop (gE .ready none)⟩::dD) W lu (⟨l,.loop (gE (if jump.isNone then .ready else .done) jump)⟩::rB) ke:=by
    rintro eD oN wx wy lu rB jump⟨zK,ak⟩;have pK:oN.heap[l]?=some (.loop (gE .busy none)):=by rw[ak.dO l aZ bU.1];exact D3 aZ
    have WE:lu l=none:=by
     cases bA:lu l with
     |none=>rfl
     |some o=>
      rcases ak.hT _ _ bA with aa | aa;·rw[show Hl.dQ=I' from rfl,WC]at aa;cases aa
      ·exact absurd aa (Nat.not_le.2 aZ)
    have WG:∀ x∈rB,x.num≠l:=λx ab e=>by
     rcases ak.own x ab with aa | aa;·rw[e]at aa;exact bU.1 aa
     ·rw[e]at aa;exact absurd aa (Nat.not_le.2 aZ)
    refine⟨_,run_endRound jump pK,?_,?_⟩
    ·exact {
      i:=λb o iP=>by rw[nA (λe=>by rw[e,WE]at iP;cases iP)];exact ak.holds.i b o iP
      m:=λx ab=>by
       rcases eI.1 ab with rfl | ab;·exact D3 (lR.1 pK).1
       ·rw[nA (WG x ab)];exact ak.holds.m x ab
      d:=λx ab=>by
       rcases eI.1 ab with rfl | ab;·exact WE
       ·exact ak.holds.d x ab
      b3:=by
       simp only[b5,lf];refine⟨λhm=>?_,ak.holds.b3⟩;obtain⟨x,ab,e⟩:=cP.1 hm;exact WG x ab e }
    ·exact {
      le:=ak.il
      uE:=ak.hT
      v5:=λx ab=>by
       rcases eI.1 ab with rfl | ab;·exact .inl ⟨⟨l,.loop (gE .ready none)⟩,by simp,rfl⟩
       ·rcases ak.own x ab with aa | aa
        ·obtain⟨y,aC,e⟩:=cP.1 aa;exact .inl ⟨y,by simp[aC],e⟩
        ·exact .inr aa
      dO:=λb ag bt=>by
       have kR:b≠l:=λe=>bt ⟨l,.loop (gE .ready none)⟩ (by simp) e.symm;rw[nA kR,ak.dO b ag (λhm=>by
        obtain⟨y,aC,e⟩:=cP.1 hm;exact bt y (by simp[aC]) e)]
       exact nA kR
      out:=⟨ak.out.1,ak.out.2⟩
      sz:=by have:=ak.sz;simpa using this }
   intro e eD oN zL;cases e with
   |normal=>obtain⟨wx,wy,lu,rB,⟨zK,ak⟩,⟨qv,qw,B6,aJ⟩⟩:=zL;obtain⟨ke,aK,bz,cu⟩:=fin eD oN wx wy qv qw none ⟨zK,ak.h7 B6⟩;exact⟨_,ke,aK,_,_,_,rfl,.inl ⟨rfl,_,rfl,aJ⟩,bz,cu⟩
   |exit id=>obtain⟨wx,wy,lu,rB,⟨zK,ak⟩,⟨qv,qw,B6,aJ⟩⟩:=zL;obtain⟨ke,aK,bz,cu⟩:=fin eD oN wx wy qv qw (some (.exit id)) ⟨zK,ak.h7 B6⟩;exact⟨_,ke,aK,_,_,_,rfl,.inr ⟨rfl,.exit id,_,_,rfl,rfl,aJ⟩,bz,cu⟩
   |goto id=>obtain⟨wx,wy,lu,rB,⟨zK,ak⟩,⟨qv,qw,B6,aJ⟩⟩:=zL;obtain⟨ke,aK,bz,cu⟩:=fin eD oN wx wy qv qw (some (.goto id)) ⟨zK,ak.h7 B6⟩;exact⟨_,ke,aK,_,_,_,rfl,.inr ⟨rfl,.goto id,_,_,rfl,rfl,aJ⟩,bz,cu⟩
   |ret=>obtain⟨wx,wy,lu,rB,⟨zK,ak⟩,⟨qv,qw,B6,aJ⟩⟩:=zL;obtain⟨ke,aK,bz,cu⟩:=fin eD oN wx wy qv qw (some .ret) ⟨zK,ak.h7 B6⟩;exact⟨_,ke,aK,_,_,_,rfl,.inr ⟨rfl,.ret,_,_,rfl,rfl,aJ⟩,bz,cu⟩
   |panic GR=>exact zL.elim| outgrown=>exact zL.elim
 obtain⟨qj,BT⟩:=x2 l x4 WB (dI _ _ uS) aC I1 (⟨l,.loop (gE .ready none)⟩::M1) (λ_ _ h=>h) ⟨M1,rfl,start⟩;have mZ:=BT mY B5.holds;have a6:=dj aV.an Pk;refine⟨l,[xF w.heap.size],mY,{ target:=.fn (.func g) cap,args:=#[.func (.yield l) #[] #[]] },mY,g,(.func (.yield l) #[] #[]::cap.toList).toArray,mY,?_,?_,λ_ _=>trivial,?_,(λh=>by cases h),?_⟩
 ·have Pl:(g8 X).round=none:=jj;rw[Pl];exact run_enterLoop_outer fn a.tmps ps fk body
 ·show(Deferred.ofValue (a.eval f) (#[Operand.const (.func (.yield l) #[] #[])].map a.eval)).run X.P mY=_;rw[a6];simp[Deferred.ofValue,Act.eval]
 ·simp only[invoke];rw[show #[Value.func (.yield l) #[] #[]]++cap=(.func (.yield l) #[] #[]::cap.toList).toArray from by apply gX;simp];exact qj _ _
 ·refine(OV (X:=X) mZ _).mono ?_;rintro e oN⟨v,I',M',rfl,aJ,q8,ek⟩;have sw:=B5.after (Mr:=[]) (by simp) q8 ek;rw[dF]at sw;have bf:=ek.le;rcases aJ with⟨dD,rfl,ahP⟩ | ⟨ex,c,dD,ao,rfl,ahQ⟩
  ·refine⟨none,_,run_endLoop (q8.m ⟨l,.loop (gE .ready none)⟩ (by simp)) (by simp[gE]),?_⟩;exact⟨F,C,I',dD,⟨β,sw.Hi⟩,done I' dD bf ahP⟩
  ·refine⟨some c,_,run_endLoop (q8.m ⟨l,.loop (gE .done (some c))⟩ (by simp)) (by simp[gE]),?_⟩;obtain⟨bt,ae⟩:=stop ex I' dD bf ahQ;cases ex with
   |normal=>exact(bt rfl).elim| exit id=>cases ao;exact wpIn_exit ⟨F,C,I',dD,⟨β,sw.Hi⟩,ae⟩| goto id=>cases ao;exact wpIn_goto ⟨F,C,I',dD,⟨β,sw.Hi⟩,ae⟩| ret=>cases ao;exact wpIn_ret ⟨F,C,I',dD,⟨β,sw.Hi⟩,ae⟩
def cT.range{K:kq}{uR:List (List Value)}(aN:cW X.P X.E)(jj:X.ro=none)(bg:(codeOk X.n fk&&(codeOk X.n body&&ps.toList.all (λt=>Nat.blt t X.n)))=true)(Pk:bH F f=.val (.func (.func g) #[] cap))(x1:hc X.foot I M I1 M1)(x2:Iter X.P g cap.toList I1 uR)(cS:∀ vs∈uR,vs.length=ps.size)(R:Nat->aH->List aE->Prop)(ls:to->aH->List aE->Prop)(start:R 0 I1 M1)(round:∀ k (ae:k<uR.length) I' M',(∀ b o,I1 b=some o->I' b=some o)->R k I' M'->∀ l B ay hg,V ⟨X.P,X.E,X.gC,X.n,B,ay,I',M'.map (·.num),some l⟩ fk (Ea ps.toList uR[k] F) (λ_=>none) I' M' (zw (λF C I M=>V ⟨X.P,X.E,X.gC,X.n,B,hg,I',M'.map (·.num),some l⟩ body F C I M (Wy (M'.map (·.num)) (R (k+1)) ls)) (λ_ _ _ _ _=>False)))(done:∀ I' M',(∀ b o,I1 b=some o->I' b=some o)->R uR.length I' M'->K .normal F C I' M')(stop:∀ ex I' M',(∀ b o,I1 b=some o->I' b=some o)->ls ex I' M'->ex≠.normal/\K ex F C I' M') :
  cT X (.rangeFunc f ps fk body) F C I M K:=by
 refine cT.K4 (A:=λ_=>True) (Q:=λk vs _=>uR[k]?=some vs) (λ_ _ _=>trivial) aN jj bg Pk x1 (n:=uR.length) ?_ (λk vs _ _ h=>cS vs (rk h)) R ls trivial start (λk ae vs I' M' bf h aV=>?_) done stop
 ·intro l R ls _ h;exact x2 l R ls λk ae I' M' bf aV=>h k ae _ I' M' bf (dg ae) aV
 ·obtain⟨_,rfl⟩:=hG.1 h;exact round k ae I' M' bf aV
end
structure aR where
 a:Option Nat
 n:Nat
 c:Nat
 aS:List Value
def aR.val(o:aR):Value:=.slice (o.a.map λg=>⟨g,0,none⟩) o.n o.c
def aR.ar(o:aR)(e:Nat):List aE:=match o.a with
 |some g=>[⟨g,.cells o.aS.toArray e (0,0)⟩]| none=>[]
structure aR.ok(o:aR)(size:Nat)(xs:List Value):Prop where
 len:xs.length=o.n*size
 nil:o.a=none->o.n=0/\o.c=0
 cap:∀ g,o.a=some g->o.aS.length=o.c*size/\o.n<=o.c/\o.c<=maxLen/\o.aS.take (o.n*size)=xs
section
variable{P:Program}{w:World}
def Pm(t u ty e:Nat)(i:TypeInfo)(z:Value)(aq:P.underlying t=some (.slice e)){my:TypeDesc}(hu:P.underlying u=some my)(n5:∀ k,my≠.int k)(hi:P.info? e=some i)(bb:i.zero=some z)(qx:z.cells.size=i.size)
  {os:aR} (bg:os.ok i.size xs) (aw:∀ g,os.a=some g->w.heap[g]?=some (.cells os.aS.toArray e (0,0)))
  {x:Value} (hm:0<m) (ax:cb.length=m*i.size) (aa:∀ v∈cb,v.oneCell'=true)
  (cS:∀ w',(Builtin.lenOf x).run P w'=.ok m w') (e8:∀ w':World,w'.heap=w.heap->(Builtin.firstCells i.size m x).run P w'=.ok cb.toArray w')
  (b1:os.n+m<=maxLen) (b8:(os.n+m)*i.bytes<=140737488355328) :
  ∃ (g c:Nat) (aS:List Value) (w':World),(Builtin.append_ #[t,u] ty #[os.val,x]).run P w=.ok (.slice (some ⟨g,0,none⟩) (os.n+m) c) w'/\aS.length=c*i.size/\os.n+m<=c/\c<=maxLen/\aS.take ((os.n+m)*i.size)=xs++cb /\
   ((os.a=some g/\w'=w.setRow g aS.toArray)\/(g=w.heap.size/\w'=w.drew.alloc (.cells aS.toArray e (0,0)))):=by
 obtain⟨a,n,c,aS⟩:=os;have Ec:(xs++cb).length=(n+m)*i.size:=by rw[cr,bg.len,ax,lX]
 have K5:∀ dO,(xs++cb++(Builtin.zeroCells z.cells (grownCap w (n+m) dO e-(n+m))).toList).length=grownCap w (n+m) dO e*i.size/\n+m<=grownCap w (n+m) dO e/\grownCap w (n+m) dO e<=maxLen /\
   (xs++cb++(Builtin.zeroCells z.cells (grownCap w (n+m) dO e-(n+m))).toList).take ((n+m)*i.size)=xs++cb:=by
  intro dO;have c0:=grownCap_ge w (n+m) dO e;have l1:grownCap w (n+m) dO e<=maxLen:=grownCap_le_maxLen w (n+m) dO e b1;refine⟨?_,c0,l1,?_⟩;·rw[cr,Ec,xS,size_zeroCells,qx,<-lX];congr 1;omega
  ·rw[<-Ec];exact we
 have Hm:(match my with | .int _=>true | _=>false)=false:=by cases my<;>first | rfl | exact(n5 _ rfl).elim
 have jF:n+m<=9223372036854775807:=by simp only[maxLen]at b1;exact b1
 cases a with
 |none=>
  obtain⟨qy,zM⟩:=bg.nil rfl;simp only at qy zM;subst qy;subst zM;have ab:xs=[]:=jl (by simpa using bg.len);subst ab;simp only[du,hX]at *;have ay:0<m:=hm;have aD:m≠0:=by omega
  have B7:¬ (9223372036854775807<(m:Int)):=by omega
  have B8:¬ (281474976710656<Builtin.nextslicecap m 0*i.bytes):=by rw[nextslicecap_zero ay];omega
  have aB:=e8 w.drew rfl;obtain⟨bc,bi,ca,gf⟩:=K5 0;refine⟨w.heap.size,grownCap w m 0 e,_,w.drew.alloc (.cells (cb++(Builtin.zeroCells z.cells (grownCap w m 0 e-m)).toList).toArray e),?_,bc,bi,ca,gf,.inr ⟨rfl,rfl⟩⟩;simp[aR.val,Builtin.append_,run_underlying aq,run_underlying hu,sizeOf,typeInfo,zeroValue,hi,bb,cS,aD,B7,B8,Question.forced,run_firstCells_none,aB,newRow,grownCap];congr 2;apply gX;simp
 |some g=>
  obtain⟨dz,m0,l1,m1⟩:=bg.cap g rfl;have Pn:=aw g rfl;simp only at dz m0 l1 m1 Pn;by_cases uT:n+m<=c
  ·have iu:n*i.size+cb.length<=aS.length:=by rw[ax,dz,<-lX];exact qg _ uT
   have fu:=run_storeCells_at P g (n*i.size) e cb 0 aS.toArray w Pn (by simpa using iu) aa;simp only[oz]at fu;refine⟨g,c,aS.take (n*i.size)++cb++aS.drop (n*i.size+cb.length),_,?_,?_,uT,l1,?_,.inl ⟨rfl,rfl⟩⟩;·have aB:=e8 w rfl;simp[aR.val,Builtin.append_,run_underlying aq,run_underlying hu,sizeOf,typeInfo,hi,cS,uT,aB,Addr.add_lit,fu]
   ·simp only[cr,fO,pF];omega
   ·rw[m1,<-Ec];exact we
  ·have aD:¬ (n+m<=c):=by omega
   have B7:¬ (9223372036854775807<((n:Int)+(m:Int))):=by omega
   have B8:¬ (281474976710656<Builtin.nextslicecap (n+m) c*i.bytes):=by have:=growslice_fits (by omega:c<n+m) b8;omega
   have aB:=e8 w.drew rfl;have B9:∀ j v,xs[j]?=some v->w.drew.cell? ((⟨g,0,none⟩:Addr).add j)=some v:=by
    intro j v ai;have uU:w.drew.heap[g]?=some (.cells aS.toArray e (0,0)):=Pn;rw[eS _ rfl,tl uU];rw[<-m1,lb]at ai;split at ai;·simpa using ai
    ·cases ai
   have Po:=run_firstCells_some (P:=P) w.drew i.size n ⟨g,0,none⟩ n c xs bg.len B9;obtain⟨bc,bi,ca,gf⟩:=K5 c;refine⟨w.heap.size,grownCap w (n+m) c e,_,w.drew.alloc (.cells (xs++cb++(Builtin.zeroCells z.cells (grownCap w (n+m) c e-(n+m))).toList).toArray e),?_,bc,bi,ca,gf,.inr ⟨rfl,rfl⟩⟩;simp[aR.val,Builtin.append_,run_underlying aq,run_underlying hu,sizeOf,typeInfo,zeroValue,hi,bb,cS,aD,B7,B8,Question.forced,aB,Po,newRow,grownCap];congr 2;apply gX;simp
end
section
variable{X:c3}{β:Nat->Nat}{a:Act}{w:World}{F:Fr}{C:dN}{I:aH}{M:List aE}{o:Oper}{K:gl}
def Pp(aN:cW X.P X.E){t:Nat}(aA:o.op=.call { callee:=.builtin .append,args:=#[s,x],argTypes:=#[t,u] })(ah:∀ d,o.dst=some d->d<X.n)
 (aq:X.E t=some db) (dk:db.bP=.slice e) (hu:X.E u=some lY) (fN:∀ k,lY.bP≠.int k) (he:X.E e=some aF)
  (os:aR) (bg:os.ok aF.size xs) (av:bH F s=.val os.val)
  {pL:Value} (ab:bH F x=.val pL) (hm:0<m) (ax:cb.length=m*aF.size) (aa:fK cb=true)
  (cS:∀ w',(Builtin.lenOf pL).run X.P w'=.ok m w') (e8:∀ w,eM I M w->(Builtin.firstCells aF.size m pL).run X.P w=.ok cb.toArray w)
 (ba:M.Perm (os.ar e++Mr)) (b1:os.n+m<=maxLen) (b8:(os.n+m)*aF.bytes<=140737488355328)
  (k:∀ (g c:Nat) (aS:List Value),I g=none->aS.length=c*aF.size->os.n+m<=c->c<=maxLen->aS.take ((os.n+m)*aF.size)=xs++cb ->
   K (put o.dst (.val (.slice (some ⟨g,0,none⟩) (os.n+m) c)) F) C I (⟨g,.cells aS.toArray e (0,0)⟩::Mr)):bD X o F C I M K:=by
 refine⟨λa w Q ⟨β,iT⟩=>?_⟩;have aV:cN X β a w F C I (os.ar e++Mr):=iT.h7 (.perm ba .refl);obtain⟨inf,z,hi,ft,hW,im,kb⟩:=(aN _ _ he).inf;obtain⟨d,fP,fl⟩:=(aN _ _ hu).fs;obtain⟨g3,iU,kS⟩:=(aN _ _ aq).fs;have oO:g3=.slice e:=by rw[dk]at kS;cases g3<;>simp_all[fr]
 subst oO;have qx:z.cells.size=inf.size:=by rw[ft,<-(aN _ _ he).len,<-kb];simp
 rw[<-ft]at bg ax e8;obtain⟨g,c,aS,w',fb,bc,bi,ca,gf,n6⟩:=Pm (P:=X.P) (w:=w) t u o.type e inf z iU fP (λk cZ=>fN k (by rw[<-fl,cZ];rfl)) hi im qx bg (λg aw=>aV.holds.m ⟨g,.cells os.aS.toArray e (0,0)⟩ (by simp[aR.ar,aw])) (x:=pL) hm ax (zq aa) cS (λw' x5=>e8 w' (iT.holds.heap x5)) b1 (by rw[hW];exact b8);rw[ft]at bc gf;have zN:I g=none:=by
  rcases n6 with⟨aw,_⟩ | ⟨rfl,_⟩;·exact aV.holds.d ⟨g,.cells os.aS.toArray e (0,0)⟩ (by simp[aR.ar,aw])
  ·cases bA:I w.heap.size with
   |none=>rfl| some nF=>have:=aV.holds.i _ _ bA;simp at this
 have es:=dj aV.an av;have ex:=dj aV.an ab;refine iN (by rw[aA];simp) (v:=.slice (some ⟨g,0,none⟩) (os.n+m) c) (w':=w') ?_ ⟨_,_,_,_,⟨β,cN.put (x:=.val (.slice (some ⟨g,0,none⟩) (os.n+m) c)) ?_ ah rfl⟩,k g c aS zN bc bi ca gf⟩
 ·unfold execOp;simp only[aA,resolve,invoke,builtin,cp,da,bZ,rm,b5,hy,es,ex,fb]
 ·rcases n6 with⟨aw,rfl⟩ | ⟨rfl,rfl⟩
  ·have ag:os.ar e=[⟨g,.cells os.aS.toArray e (0,0)⟩]:=by simp[aR.ar,aw]
   rw[ag]at aV;exact aV.xI (a9:=[]) (post:=Mr) rfl
  ·have ad:cN X β a w.drew F C I (os.ar e++Mr):=aV.world rfl;have ak:=ad.n2 (.cells aS.toArray e (0,0));refine ak.h7 (.sub ?_ .refl);exact List.Sublist.cons_cons _ (mT _ _)
def bD.append(aN:cW X.P X.E){t:Nat}(aA:o.op=.call { callee:=.builtin .append,args:=#[s,x],argTypes:=#[t,t] })(ah:∀ d,o.dst=some d->d<X.n)
 (aq:X.E t=some db) (dk:db.bP=.slice e) (he:X.E e=some aF)
  (os:aR) (bg:os.ok aF.size xs) (av:bH F s=.val os.val)
 (ab:bH F x=.val (.slice (some aM) m c')) (hm:0<m) (aD:cR I M aM (m*aF.size) cb) (aa:fK cb=true)
 (ba:M.Perm (os.ar e++Mr)) (b1:os.n+m<=maxLen) (b8:(os.n+m)*aF.bytes<=140737488355328)
  (k:∀ (g c:Nat) (aS:List Value),aS.length=c*aF.size->os.n+m<=c->c<=maxLen->aS.take ((os.n+m)*aF.size)=xs++cb ->
   K (put o.dst (.val (.slice (some ⟨g,0,none⟩) (os.n+m) c)) F) C I (⟨g,.cells aS.toArray e (0,0)⟩::Mr)):bD X o F C I M K:=by
 refine Pp aN aA ah aq dk aq (λk=>by rw[dk];simp) he os bg av ab hm ?_ aa (λ_=>rfl) (λw hw=>?_) ba b1 b8 (λg c aS _=>k g c aS)
 ·obtain⟨_,_,_,_,_,_,h⟩:=aD;exact h
 ·obtain⟨c9,cs,T,an,fj,aj,ax⟩:=aD;refine run_firstCells_some (P:=X.P) w aF.size m aM m c' cb ax λj v ai=>?_;rw[eS _ c9,tl (fj.heap hw)];rw[<-aj,lb]at ai;split at ai
  ·rw[mO]at ai;simpa using ai
  ·cases ai
def bD.WH(aN:cW X.P X.E){t:Nat}(aA:o.op=.call { callee:=.builtin .append,args:=#[s,x],argTypes:=#[t,t] })(ah:∀ d,o.dst=some d->d<X.n)
 (aq:X.E t=some db) (dk:db.bP=.slice e) (he:X.E e=some aF)
  (os:aR) (bg:os.ok aF.size xs) (av:bH F s=.val os.val)
 (ab:bH F x=.val (.slice (some aM) m c')) (hm:0<m) (aD:cR I M aM (m*aF.size) cb) (aa:fK cb=true)
 (ba:M.Perm (os.ar e++Mr)) (b1:os.n+m<=maxLen) (b8:(os.n+m)*aF.bytes<=140737488355328)
  (k:∀ (g c:Nat) (aS:List Value),I g=none->aS.length=c*aF.size->os.n+m<=c->c<=maxLen->aS.take ((os.n+m)*aF.size)=xs++cb ->
   K (put o.dst (.val (.slice (some ⟨g,0,none⟩) (os.n+m) c)) F) C I (⟨g,.cells aS.toArray e (0,0)⟩::Mr)):bD X o F C I M K:=by
 refine Pp aN aA ah aq dk aq (λk=>by rw[dk];simp) he os bg av ab hm ?_ aa (λ_=>rfl) (λw hw=>?_) ba b1 b8 k
 ·obtain⟨_,_,_,_,_,_,h⟩:=aD;exact h
 ·obtain⟨c9,cs,T,an,fj,aj,ax⟩:=aD;refine run_firstCells_some (P:=X.P) w aF.size m aM m c' cb ax λj v ai=>?_;rw[eS _ c9,tl (fj.heap hw)];rw[<-aj,lb]at ai;split at ai
  ·rw[mO]at ai;simpa using ai
  ·cases ai
def lv(s:ByteArray):List Value:=s.data.toList.map λb=>.int .u8 b.toNat
def bD.ahR(aN:cW X.P X.E){t:Nat}(aA:o.op=.call { callee:=.builtin .append,args:=#[s,x],argTypes:=#[t,u] })(ah:∀ d,o.dst=some d->d<X.n)
 (aq:X.E t=some db) (dk:db.bP=.slice e) (hu:X.E u=some lY) (fN:lY.bP=.string) (he:X.E e=some aF) (dn:aF.size=1)
  (os:aR) (bg:os.ok aF.size xs) (av:bH F s=.val os.val)
  {str:ByteArray} (ab:bH F x=.val (.string str)) (hm:0<str.size)
 (ba:M.Perm (os.ar e++Mr)) (b1:os.n+str.size<=maxLen) (b8:(os.n+str.size)*aF.bytes<=140737488355328)
  (k:∀ (g c:Nat) (aS:List Value),aS.length=c*aF.size->os.n+str.size<=c->c<=maxLen->aS.take ((os.n+str.size)*aF.size)=xs++lv str ->
   K (put o.dst (.val (.slice (some ⟨g,0,none⟩) (os.n+str.size) c)) F) C I (⟨g,.cells aS.toArray e (0,0)⟩::Mr)):bD X o F C I M K:=by
 refine Pp aN aA ah aq dk hu (λk=>by rw[fN];simp) he os bg av ab hm ?_ ?_ (λ_=>rfl) (λw hw=>?_) ba b1 b8 (λg c aS _=>k g c aS)
 ·simp[lv,dn]
 ·refine fS.2 λv aj=>?_;obtain⟨b,_,rfl⟩:=cP.1 aj;rfl
 ·simp only[Builtin.firstCells,da];congr 1;apply gX;have aI:str.extract 0 str.size=str:=by apply v3;simp[Kv]
  simp[lv,aI]
end
section
variable{X:c3}{F:Fr}{C:dN}{I:aH}{M:List aE}{o:Oper}{K:gl}
def WI{t:Nat}(aq:P.underlying t=some (.array 4 e)){k:IntKind}(he:P.underlying e=some (.int k)){inf:TypeInfo}(hi:P.info? e=some inf)(av:inf.size=1)(ga cQ ef eD qz b1 b8 ev:Int)(w:World) :
  (Op.equal t (.agg #[.int k ga,.int k cQ,.int k ef,.int k eD]) (.agg #[.int k qz,.int k b1,.int k b8,.int k ev])).run P w=.ok (ga == qz&&(cQ == b1&&(ef == b8&&eD == ev))) w:=by
 have WJ:∀ (xs:Array Value) (i:Nat) (v:Value) (w:World),xs[i]?=some v->(part e xs i).run P w=.ok v w:=λxs i v w h=>by
  have GG:(isAgg e).run P w=.ok false w:=by unfold isAgg;simp[run_underlying he]
  unfold part;simp[GG,sizeOf,typeInfo,hi,av,h]
 have hint:∀ (d:Nat) (x y:Int) (w:World),(Op.equalIn (d+1) e (.int k x) (.int k y)).run P w=.ok (x == y) w:=λd x y w=>by simp[Op.equalIn,run_underlying he]
 have key:∀ m,(∀ (x y:Int) (w:World),(Op.equalIn m e (.int k x) (.int k y)).run P w=.ok (x == y) w)->(Op.equalIn (m+1) t (.agg #[.int k ga,.int k cQ,.int k ef,.int k eD]) (.agg #[.int k qz,.int k b1,.int k b8,.int k ev])).run P w=.ok (ga == qz&&(cQ == b1&&(ef == b8&&eD == ev))) w:=λm hint=>by
  rw[Op.equalIn];simp only[cp,run_underlying aq,bZ,sizeOf,typeInfo,hi,run_program,da,av];simp only[V7];have af:List.range' 0 ([:4]:Std.Legacy.Range).size=[0,1,2,3]:=by decide
  rw[af];have pa:=λ(i:Nat) (v:Value) (w:World)=>WJ #[.int k ga,.int k cQ,.int k ef,.int k eD] i v w;have K6:=λ(i:Nat) (v:Value) (w:World)=>WJ #[.int k qz,.int k b1,.int k b8,.int k ev] i v w;simp only[List.forIn_cons,List.forIn_nil,cp];rw[pa (0*1) (.int k ga) w rfl];simp only[bZ,cp];rw[K6 (0*1) (.int k qz) w rfl];simp only[bZ,cp];rw[hint];simp only[bZ];cases(ga == qz);·simp
  simp only[wg,ld,mj,da,bZ,cp];rw[pa (1*1) (.int k cQ) w rfl];simp only[bZ,cp];rw[K6 (1*1) (.int k b1) w rfl];simp only[bZ,cp];rw[hint];simp only[bZ];cases(cQ == b1);·simp
  simp only[wg,ld,mj,da,bZ,cp];rw[pa (2*1) (.int k ef) w rfl];simp only[bZ,cp];rw[K6 (2*1) (.int k b8) w rfl];simp only[bZ,cp];rw[hint];simp only[bZ];cases(ef == b8);·simp
  simp only[wg,ld,mj,da,bZ,cp];rw[pa (3*1) (.int k eD) w rfl];simp only[bZ,cp];rw[K6 (3*1) (.int k ev) w rfl];simp only[bZ,cp];rw[hint];simp only[bZ];cases(eD == ev);·simp
  simp
 exact key 9999 (hint 9998)
def fT.Pq{E:Env}(aN:cW P E){t:Nat}(aq:E t=some db)(dk:db.bP=.array 4 e)(he:E e=some aF){k:IntKind}(kt:aF.bP=.int k)(aw:P.eqGuardType P.depth t=false){ga cQ ef eD qz b1 b8 ev:Int}{V:Value->Prop}
  (h:V (.bool (ga == qz&&(cQ == b1&&(ef == b8&&eD == ev))))):fT P .eql t x y (.val (.agg #[.int k ga,.int k cQ,.int k ef,.int k eD])) (.val (.agg #[.int k qz,.int k b1,.int k b8,.int k ev])) V other:=by
 obtain⟨d,fP,fl⟩:=(aN _ _ aq).fs;obtain⟨qA,Pr,Ps⟩:=(aN _ _ he).fs;obtain⟨inf,z,hi,ft,_⟩:=(aN _ _ he).inf;have aa:d=.array 4 e:=by rw[dk]at fl;cases d<;>simp_all[fr]
 have ad:qA=.int k:=by rw[kt]at Ps;cases qA<;>simp_all[fr]
 subst aa;subst ad;have gg:inf.size=1:=by rw[ft];exact(aN _ _ he).Kz (by rw[kt];rfl)
 refine .mk _ _ _ rfl rfl (λw=>?_) h;simp only[cp,run_eqGuard_agg (hm:=aw),bZ,binOp,WI fP Pr hi gg,da]
def fT.concat{t:Nat}{a b:ByteArray}(av:a.size+b.size<=9223372036854775807){V:Value->Prop}(h:V (.string (a++b))):fT P .add t x y (.val (.string a)) (.val (.string b)) V other:=by refine .mk _ _ _ rfl rfl (λw=>?_) h;simp only[cp,OU,bZ,binOp,run_string_add_sum _ _ _ av,da]
end
section
variable{X:c3}{β:Nat->Nat}{a:Act}{w:World}{F:Fr}{C:dN}{I:aH}{M:List aE}{o:Oper}{K:gl}
def cN.WK{n:Nat}{nF:Obj}(h:cN X β a w F C I (⟨n,nF⟩::M))(av:w'.heap.size=w.heap.size)(ag:∀ b,b≠n->w'.heap[b]?=w.heap[b]?)(aA:oB w w'):cN X β a w' F C I M:=by
 have fM:(⟨n,nF⟩:aE)∈(⟨n,nF⟩:aE)::M:=by simp
 have bU:=h.holds.b3;simp only[b5,lf]at bU;exact {
  size:=h.size
  defers:=h.defers.mono λr af=>by have bt:n≠r:=af.e7 _ fM;refine { af with bF:=?_,e7:=λx ab=>af.e7 x (by simp[ab]) };rw[ag r (si bt)];exact af.bF
  holds:={
   i:=λb o iP=>by rw[ag b (λe=>by have:=h.holds.d _ fM;simp only at this;rw[e,this]at iP;cases iP)];exact h.holds.i b o iP
   m:=λx ab=>by rw[ag _ (λe=>bU.1 (cP.2 ⟨x,ab,e⟩))];exact h.holds.m x (by simp[ab])
   d:=λx ab=>h.holds.d x (by simp[ab])
   b3:=bU.2 }
  an:=h.an
  cm:=λs cs kr=>by have uK:=h.cm s cs kr;have bt:n≠β s:=uK.e7 _ fM;obtain⟨T,be⟩:=uK.bF;refine { uK with bF:=⟨T,?_⟩,e7:=λx ab=>uK.e7 x (by simp[ab]) };rw[ag _ (si bt)];exact be
  inj:=h.inj
  il:=h.il
  hT:=h.hT
  own:=λx ab=>h.own x (by simp[ab])
  dO:=λb aZ aB=>by
   rw[ag b (λe=>by
    rcases h.own _ fM with aa | aa;·simp only at aa;exact aB (e ▸ aa)
    ·simp only at aa;omega)]
   exact h.dO b aZ aB
  out:=h.out.trans aA
  sz:=by rw[av];exact h.sz
  fx:=h.fx }
def ahS(w:World)(p:Addr)(n:Nat):(w.freeze p n).heap.size=w.heap.size:=by
 unfold World.freeze;split<;>simp
def ahT(w:World)(p:Addr)(n:Nat):oB w (w.freeze p n):=by
 unfold World.freeze;split<;>exact⟨rfl,rfl⟩
def ahU(w:World)(p:Addr)(n b:Nat)(h:b≠p.block):(w.freeze p n).heap[b]?=w.heap[b]?:=by
 unfold World.freeze;split
 ·rfl
 ·simp only[Array.getElem?_modify];rw[bN (si h)]
def bD.Pt(aN:cW X.P X.E){n:Operand}(aA:o.op=.call { callee:=.builtin .unsafeString,args:=#[p,n],argTypes:=#[uN,it] })(ah:∀ d,o.dst=some d->d<X.n)
 (aq:X.E uN=some db) (dk:db.bP=.pointer e) (he:X.E e=some aF) (kt:aF.size=1)
 {l:List UInt8} (aJ:bH F p=.val (.pointer (some ⟨g,0,none⟩))) (aD:bH F n=.val (.int .i64 l.length)) (ay:l≠[]) (Pu:l.length<=9223372036854775807)
 (ba:M.Perm (⟨g,.cells cs e (0,0)⟩::Mr)) (kr:cs.toList.take l.length=l.map λb=>.int .u8 b.toNat)
  (h:K (put o.dst (.val (.string ⟨l.toArray⟩)) F) C I Mr):bD X o F C I M K:=by
 refine⟨λa w Q ⟨β,iT⟩=>?_⟩;have aV:cN X β a w F C I (⟨g,.cells cs e (0,0)⟩::Mr):=iT.h7 (.perm ba .refl);have aw:w.heap[g]?=some (.cells cs e (0,0)):=aV.holds.m ⟨g,.cells cs e (0,0)⟩ (by simp);obtain⟨d,fP,fl⟩:=(aN _ _ aq).fs;have aa:d=.pointer e:=by rw[dk]at fl;cases d<;>simp_all[fr]
 subst aa;obtain⟨inf,z,hi,ft,_⟩:=(aN _ _ he).inf;have ao:X.P.cellsOf e=1:=by simp[Program.cellsOf,hi,ft,kt]
 have cS:l.length<=cs.size:=by have:=congrArg List.length kr;simp only[fO,bx,xS]at this;omega
 have fb:=Lib.run_unsafeString_row (P:=X.P) w uN it o.type e fP ao g cs.size (by simp[World.shape?,aw]) l ay cS Pu (λj x ai=>by
  rw[eS _ rfl,tl aw];have ad:(cs.toList.take l.length)[j]?=some (.int .u8 x.toNat):=by rw[kr];simp[ai]
  rw[lb]at ad;split at ad;·simpa using ad
  ·cases ad)
 have Pv:=dj aV.an aJ;have e9:=dj aV.an aD;refine iN (by rw[aA];simp) (v:=.string ⟨l.toArray⟩) (w':=w.freeze ⟨g,0,none⟩ l.length) ?_ ⟨_,_,_,_,⟨β,cN.put (x:=.val (.string ⟨l.toArray⟩)) (aV.WK (ahS _ _ _) (λb ag=>ahU _ _ _ _ ag) (ahT _ _ _)) ah rfl⟩,h⟩;unfold execOp;simp only[aA,resolve,invoke,builtin,cp,da,bZ,rm,b5,hy,Pv,e9,fb]
def bD.WL{n:Operand}(aA:o.op=.call { callee:=.builtin .unsafeString,args:=#[p,n],argTypes:=#[uN,it] })(ah:∀ d,o.dst=some d->d<X.n)
  {q:Option Addr} (aJ:bH F p=.val (.pointer q)) (aD:bH F n=.val (.int .i64 0)) (h:K (put o.dst (.val (.string .empty)) F) C I M):bD X o F C I M K:=by
 refine⟨λa w Q ⟨β,aV⟩=>?_⟩;have Pv:=dj aV.an aJ;have e9:=dj aV.an aD;refine v9 aV ah (by rw[aA];simp) ?_ h;unfold execOp;simp only[aA,resolve,invoke,builtin,cp,da,bZ,rm,b5,hy,Pv,e9,Lib.run_unsafeString_none]
def bD.WM(aN:cW X.P X.E){t:Nat}(aA:o.op=.call { callee:=.builtin .copy,args:=#[x,y],argTypes:=#[t,u] })(ah:∀ d,o.dst=some d->d<X.n)
 (aq:X.E t=some db) (dk:db.bP=.slice e) (he:X.E e=some aF) (kt:aF.size=1)
 {off dl WN:Nat} {s:ByteArray} {T:Nat} (ab:bH F x=.val (.slice (some ⟨g,off,none⟩) dl WN)) (aC:bH F y=.val (.string s)) (bf:s.size<=dl) (iu:off+s.size<=cs.size)
 (ba:M.Perm (⟨g,.cells cs T (0,0)⟩::Mr))
  (h:K (put o.dst (.val (.int .i64 s.size)) F) C I (⟨g,.cells (cj cs.toList off (lv s)).toArray T (0,0)⟩::Mr)):bD X o F C I M K:=by
 refine⟨λa w Q ⟨β,iT⟩=>?_⟩;have aV:cN X β a w F C I (⟨g,.cells cs T (0,0)⟩::Mr):=iT.h7 (.perm ba .refl);have aw:w.heap[g]?=some (.cells cs T (0,0)):=aV.holds.m ⟨g,.cells cs T (0,0)⟩ (by simp);obtain⟨d,fP,fl⟩:=(aN _ _ aq).fs;have aa:d=.slice e:=by rw[dk]at fl;cases d<;>simp_all[fr]
 subst aa;obtain⟨inf,z,hi,ft,_⟩:=(aN _ _ he).inf;have ax:(lv s).length=s.size:=by simp[lv]
 have aa:∀ v∈lv s,v.oneCell'=true:=λv aj=>by obtain⟨b,_,rfl⟩:=cP.1 aj;rfl
 have fu:=run_storeCells_at X.P g off T (lv s) 0 cs w aw (by rw[ax];simpa using iu) aa;simp only[oz]at fu;have ahV:Nat.min s.size dl=s.size:=pA bf;have aB:(Builtin.firstCells inf.size s.size (.string s)).run X.P w=.ok (lv s).toArray w:=V9 w inf.size s;have ex:=dj aV.an ab;have oP:=dj aV.an aC;have m3:=aV.xI (a9:=[]) (post:=Mr) (cs':=(cj cs.toList off (lv s)).toArray) rfl;refine iN (by rw[aA];simp) (v:=.int .i64 s.size) (w':=w.setRow g (cj cs.toList off (lv s)).toArray) ?_ ⟨_,_,_,_,⟨β,cN.put (x:=.val (.int .i64 s.size)) m3 ah rfl⟩,h⟩;have fb:(Builtin.copy_ #[t,u] o.type #[.slice (some ⟨g,off,none⟩) dl WN,.string s]).run X.P w=.ok (.int .i64 s.size) (w.setRow g (cj cs.toList off (lv s)).toArray):=by simp[Builtin.copy_,run_underlying fP,Builtin.lenOf,ahV,sizeOf,typeInfo,hi,aB,fu,cj,goInt]
 unfold execOp;simp only[aA,resolve,invoke,builtin,cp,da,bZ,rm,b5,hy,ex,oP,fb]
end
structure cI(I:aH)(a:Option Addr)(n c size b:Nat)(vs:List Value):Prop where
 len:vs.length=n*size
 cap:n<=c/\n*b<=140737488355328
 rd:n=0\/∃ aM,a=some aM/\aM.spot=none/\∃ cs T an,I aM.block=some (.cells cs T an)/\(cs.toList.drop aM.off).take (n*size)=vs
def cI.mono{I:aH}{n b:Nat}(h:cI I a n c size b vs)(bA:∀ b o,I b=some o->I' b=some o):cI I' a n c size b vs:=
 ⟨h.len,h.cap,h.rd.imp id λ⟨aM,aa,ad,cs,T,an,ak,aK⟩=>⟨aM,aa,ad,cs,T,an,bA _ _ ak,aK⟩⟩
def cI.idx{I:aH}{n b:Nat}(h:cI I a n c size b vs){j:Nat}(ai:j<n) :
  ∃ aM,a=some aM/\∀ M,cR I M (aM.add (j*size)) size ((vs.drop (j*size)).take size):=by
 obtain⟨ax,_,ay | ⟨aM,a7,av,cs,T,an,bA,aj⟩⟩:=h
 ·omega
 ·refine⟨aM,a7,λM=>?_⟩;have bf:j*size+size<=n*size:=by have:=qg size (show j+1<=n from ai);rw[lX,oI]at this;exact this
  refine⟨by rw[eS _ av],cs,T,an,.inl (by rw[eS _ av];exact bA),?_,?_⟩;·rw[eS _ av,<-aj,D5,zA,zB];congr 1;omega
  ·rw[fO,pF,ax];omega
def cI.one{I:aH}{n b:Nat}{f:α->Value}{l:List α}(h:cI I a n c 1 b (l.map f)){j:Nat}(ai:j<n)(jS:j<l.length) :
  ∃ aM,a=some aM/\∀ M,cR I M (aM.add (j*1)) 1 [f l[j]]:=by
 obtain⟨aM,aa,ad⟩:=h.idx ai;refine⟨aM,aa,λM=>?_⟩;have:=ad M;rw[gM,<-G3,<-G4,fg jS,rl,qo]at this;rw[gM];exact this
def Ed{α:Type}(f:α->List Value)(size:Nat)(aB:∀ x,(f x).length=size):∀ (l:List α) (j:Nat) (ai:j<l.length),((l.flatMap f).drop (j*size)).take size=f l[j]
 |x::l,0,_=>by simp only[iS,zC,qp,tp];rw[<-aB x];exact we
 |x::l,j+1,ai=>by have aQ:=Ed f size aB l j (by simpa using ai);simp only[iS,GZ];rw[<-aQ,show(j+1)*size=(f x).length+j*size from by rw[aB,lX];omega,V8]
def gO{α:Type}(f:α->List Value)(size:Nat)(aB:∀ x,(f x).length=size):∀ (l:List α),(l.flatMap f).length=l.length*size
 |[]=>by simp
 |x::l=>by simp[gO f size aB l,aB x,lX];omega
def cI.row{I:aH}{n b:Nat}{f:α->List Value}(aB:∀ x,(f x).length=size){l:List α}(h:cI I a n c size b (l.flatMap f)){j:Nat}(ai:j<n)(jS:j<l.length) :
  ∃ aM,a=some aM/\∀ M,cR I M (aM.add (j*size)) size (f l[j]):=by
 obtain⟨aM,aa,ad⟩:=h.idx ai;refine⟨aM,aa,λM=>?_⟩;have:=ad M;rwa [Ed f size aB l j jS]at this
def cR.part{I:aH}{a:Addr}{n k:Nat}(h:cR I M a n vs)(ae:k+m<=n):cR I M (a.add k) m ((vs.drop k).take m):=by
 obtain⟨av,cs,T,an,aa,ad,ak⟩:=h;refine⟨by rw[eS _ av],cs,T,an,by rw[eS _ av];exact aa,?_,?_⟩
 ·rw[eS _ av,<-ad,D5,zA,zB];congr 1;omega
 ·rw[fO,pF,ak];omega
structure al where
 k:Int
 cx:Int
 s1:Int
 s2:Int
 cY:Int
 t:ByteArray
 lo:Int
 hi:Int
 b0:Option Addr
 aG:Nat
 ch:Nat
 au:List Int
def al.cells(d:al):List Value:=[.int .u8 d.k,.int .u64 d.cx,.int .u64 d.s1,.int .u64 d.s2,.int .u64 d.cY,.string d.t,.int .i64 d.lo,.int .i64 d.hi,.slice d.b0 d.aG d.ch]
def al.val(d:al):Value:=.agg #[.int .u8 d.k,.int .u64 d.cx,.int .u64 d.s1,.int .u64 d.s2,.int .u64 d.cY,.string d.t,.int .i64 d.lo,.int .i64 d.hi,.slice d.b0 d.aG d.ch]
def hz(x:Int):Prop:=-9223372036854775808<=x/\x<=9223372036854775807
def fm(x:Int):Prop:=0<=x/\x<18446744073709551616
structure al.ok(I:aH)(d:al):Prop where
 k:0<=d.k/\d.k<256
 cx:fm d.cx
 s1:fm d.s1
 s2:fm d.s2
 cY:fm d.cY
 t:d.t.size<=9223372036854775807
 lo:hz d.lo
 hi:hz d.hi
 a':cI I d.b0 d.aG d.ch 1 8 (d.au.map (.int .i64 ·))
 au:∀ x∈d.au,hz x
def al.cL(d:al):d.cells.length=9:=rfl
def al.ok.aG{I:aH}{d:al}(h:d.ok I):d.au.length=d.aG:=by have:=h.a'.len;simpa using this
structure bk where
 ns:List al
 a:Option Addr
 n:Nat
 c:Nat
 bC:Int
def bk.cells(t:bk):List Value:=[.slice t.a t.n t.c,.int .i64 t.bC]
def bk.val(t:bk):Value:=.agg #[.slice t.a t.n t.c,.int .i64 t.bC]
structure bk.ok(I:aH)(t:bk):Prop where
 a':cI I t.a t.n t.c 9 96 (t.ns.flatMap al.cells)
 ns:∀ d∈t.ns,d.ok I
 bC:hz t.bC
def bk.ok.n{I:aH}{t:bk}(h:t.ok I):t.ns.length=t.n:=by have:=h.a'.len;rw[gO _ 9 al.cL]at this;omega
structure a3 where
 name:ByteArray
 t:bk
def a3.cells(d:a3):List Value:=[.string d.name,.slice d.t.a d.t.n d.t.c,.int .i64 d.t.bC]
structure a3.ok(I:aH)(d:a3):Prop where
 name:d.name.size<=140737488355328
 t:d.t.ok I
def a3.cL(d:a3):d.cells.length=3:=rfl
structure cU where
 ds:List a3
 a:Option Addr
 n:Nat
 c:Nat
def cU.val(g:cU):Value:=.agg #[.slice g.a g.n g.c]
structure cU.ok(I:aH)(g:cU):Prop where
 a':cI I g.a g.n g.c 3 48 (g.ds.flatMap a3.cells)
 ds:∀ d∈g.ds,d.ok I
def cU.ok.n{I:aH}{g:cU}(h:g.ok I):g.ds.length=g.n:=by have:=h.a'.len;rw[gO _ 3 a3.cL]at this;omega
def al.ok.mono{I:aH}{d:al}(h:d.ok I)(bA:∀ b o,I b=some o->I' b=some o):d.ok I':={ h with a':=h.a'.mono bA }
def bk.ok.mono{I:aH}{t:bk}(h:t.ok I)(bA:∀ b o,I b=some o->I' b=some o):t.ok I':=⟨h.a'.mono bA,λd ah=>(h.ns d ah).mono bA,h.bC⟩
def a3.ok.mono{I:aH}{d:a3}(h:d.ok I)(bA:∀ b o,I b=some o->I' b=some o):d.ok I':=⟨h.name,h.t.mono bA⟩
def cU.ok.mono{I:aH}{g:cU}(h:g.ok I)(bA:∀ b o,I b=some o->I' b=some o):g.ok I':=⟨h.a'.mono bA,λd ah=>(h.ds d ah).mono bA⟩
def wrap_i64{x:Int}(h:hz x):IntKind.i64.wrap x=x:=by obtain⟨aa,ad⟩:=h;unfold IntKind.wrap;simp only[IntKind.bits,IntKind.signed];simp;omega
open Go Go.Proofs
def a1(t n:Nat)(a b:Option ea):Option ea:=bif Nat.blt t n then a else b
def uV(n:Nat):Option ea:=some ⟨1,8,[.pointer none],.pointer n⟩
def ku(n:Nat):Option ea:=some ⟨1,24,[.slice none 0 0],.slice n⟩
def hY:Option ea:=none
def bQ:Option ea:=some ⟨1,8,[.nilFunc],.other⟩
def Pw:Option ea:=some ⟨1,8,[.int .i64 0],.int .i64⟩
def K7:Option ea:=some ⟨1,1,[.int .u8 0],.int .u8⟩
def WO:Option ea:=some ⟨1,16,[.string ⟨#[]⟩],.string⟩
def Px:Option ea:=some ⟨1,8,[.int .u64 0],.int .u64⟩
def WQ:Option ea:=some ⟨2,24,[.string ⟨#[]⟩,.int .u64 0],.struct [(9,0),(12,1)]⟩
def WR:Option ea:=some ⟨1,4,[.int .i32 0],.int .i32⟩
def WS:Option ea:=some ⟨1,24,[.slice none 0 0],.struct [(28,0)]⟩
def WT:Option ea:=some ⟨5,48,[.int .u8 0,.int .u8 0,.int .i64 0,.slice none 0 0,.int .i64 0],.struct [(5,0),(5,1),(3,2),(38,3),(3,4)]⟩
def Py:Option ea:=some ⟨2,32,[.int .i64 0,.slice none 0 0],.struct [(3,0),(38,1)]⟩
def WU:Option ea:=some ⟨9,96,[.int .u8 0,.int .u64 0,.int .u64 0,.int .u64 0,.int .u64 0,.string ⟨#[]⟩,.int .i64 0,.int .i64 0,.slice none 0 0],.struct [(5,0),(62,1),(9,5),(3,6),(3,7),(38,8)]⟩
def WV:Option ea:=some ⟨3,40,[.bool false,.int .i64 0,.slice none 0 0],.struct [(4,0),(3,1),(100,2)]⟩
def WW:Option ea:=some ⟨5,112,[.string ⟨#[]⟩,.slice none 0 0,.slice none 0 0,.slice none 0 0,.slice none 0 0],.struct [(9,0),(165,1),(38,2),(54,3),(167,4)]⟩
def WX:Option ea:=some ⟨8,160,[.slice none 0 0,.int .i64 0,.int .i64 0,.slice none 0 0,.slice none 0 0,.slice none 0 0,.slice none 0 0,.slice none 0 0],.struct [(180,0),(3,1),(3,2),(54,3),(181,4),(28,5),(180,6),(180,7)]⟩
def WY:Option ea:=some ⟨66,528,[.int .i64 0,.int .u64 0,.int .u64 0,.int .u64 0,.int .u64 0,.int .u64 0,.int .u64 0,.int .u64 0,.int .u64 0,.int .u64 0,.int .u64 0,.int .u64 0,.int .u64 0,.int .u64 0,.int .u64 0,.int .u64 0,.int .u64 0,.int .u64 0,.int .u64 0,.int .u64 0,.int .u64 0,.int .u64 0,.int .u64 0,.int .u64 0,.int .u64 0,.int .u64 0,.int .u64 0,.int .u64 0,.int .u64 0,.int .u64 0,.int .u64 0,.int .u64 0,.int .u64 0,.int .u64 0,.int .u64 0,.int .u64 0,.int .u64 0,.int .u64 0,.int .u64 0,.int .u64 0,.int .u64 0,.int .u64 0,.int .u64 0,.int .u64 0,.int .u64 0,.int .u64 0,.int .u64 0,.int .u64 0,.int .u64 0,.int .u64 0,.int .u64 0,.int .u64 0,.int .u64 0,.int .u64 0,.int .u64 0,.int .u64 0,.int .u64 0,.int .u64 0,.int .u64 0,.int .u64 0,.int .u64 0,.int .u64 0,.int .u64 0,.int .u64 0,.int .u64 0,.int .u64 0],.struct [(3,0),(203,1),(60,65)]⟩
def WZ:Option ea:=some ⟨1,24,[.slice none 0 0],.struct [(54,0)]⟩
def Pz:Option ea:=some ⟨2,16,[.int .i64 0,.int .i64 0],.struct [(3,0),(3,1)]⟩
def PA:Option ea:=some ⟨3,3,[.bool false,.bool false,.bool false],.struct [(4,0),(4,1),(4,2)]⟩
def W0:Option ea:=some ⟨2,32,[.pointer none,.slice none 0 0],.struct [(318,0),(37,1)]⟩
def W1:Option ea:=some ⟨4,40,[.pointer none,.pointer none,.pointer none,.string ⟨#[]⟩],.struct [(17,0),(17,1),(17,2),(9,3)]⟩
def sy:Env:=λt=>bif Nat.blt t 437 then(a1 t 218 (a1 t 109 (a1 t 54 (a1 t 27 (a1 t 13 (a1 t 6 (a1 t 3 (a1 t 1 hY (a1 t 2 bQ Pw)) (a1 t 4 Pw (a1 t 5 (some ⟨1,1,[.bool false],.bool⟩) K7))) (a1 t 9 (a1 t 7 K7 (some ⟨4,24,[.int .i64 0,.int .i64 0,.bool false,.int .u8 0],.struct [(2,0),(3,1),(4,2),(6,3)]⟩)) (a1 t 11 WO (a1 t 12 WO Px)))) (a1 t 20 (a1 t 16 (a1 t 14 WQ (a1 t 15 WQ (uV 426))) (a1 t 18 (a1 t 17 (uV 429) (uV 436)) (some ⟨1,8,[.pointer none],.struct [(17,0)]⟩))) (a1 t 23 (a1 t 21 (some ⟨1,16,[.nilIface],.other⟩) (a1 t 22 WR bQ)) (a1 t 25 bQ (a1 t 26 (some ⟨4,32,[.int .i64 0,.int .i64 0,.int .i64 0,.int .i64 0],.array 4 3⟩) (ku 25)))))) (a1 t 40 (a1 t 33 (a1 t 30 (a1 t 28 bQ (a1 t 29 (ku 59) WS)) (a1 t 31 WS (a1 t 32 bQ Pw))) (a1 t 36 (a1 t 34 hY bQ) (a1 t 38 (a1 t 37 bQ (ku 5)) (a1 t 39 (ku 3) WT)))) (a1 t 47 (a1 t 43 (a1 t 41 WT (a1 t 42 bQ (ku 40))) (a1 t 45 bQ (a1 t 46 hY bQ))) (a1 t 50 (a1 t 48 bQ (a1 t 49 hY bQ)) bQ)))) (a1 t 81 (a1 t 67 (a1 t 60 (a1 t 57 (a1 t 55 (ku 82) (some ⟨2,32,[.slice none 0 0,.int .i64 0],.struct [(54,0),(3,1)]⟩)) (a1 t 58 bQ (some ⟨3,48,[.string ⟨#[]⟩,.slice none 0 0,.int .i64 0],.struct [(9,0),(56,1)]⟩))) (a1 t 63 (a1 t 61 Px (some ⟨4,32,[.int .u64 0,.int .u64 0,.int .u64 0,.int .u64 0],.array 4 60⟩)) (a1 t 65 (a1 t 64 hY bQ) bQ))) (a1 t 74 (a1 t 70 (a1 t 68 bQ (a1 t 69 bQ (ku 56))) bQ) (a1 t 77 (a1 t 75 (ku 77) (a1 t 76 bQ Py)) (a1 t 79 (a1 t 78 Py hY) bQ)))) (a1 t 95 (a1 t 88 (a1 t 84 (a1 t 82 WU (a1 t 83 WU bQ)) (a1 t 86 bQ (a1 t 87 hY bQ))) (a1 t 91 (a1 t 89 bQ (a1 t 90 (some ⟨5,56,[.string ⟨#[]⟩,.string ⟨#[]⟩,.int .u8 0,.bool false,.string ⟨#[]⟩],.struct [(9,0),(9,1),(5,2),(4,3),(9,4)]⟩) (ku 89))) bQ)) (a1 t 102 (a1 t 98 (a1 t 96 bQ (a1 t 97 bQ (uV 169))) (a1 t 100 (a1 t 99 hY bQ) (a1 t 101 (ku 175) WV))) (a1 t 105 (a1 t 103 WV (a1 t 104 hY bQ)) (a1 t 107 bQ (a1 t 108 bQ hY))))))) (a1 t 163 (a1 t 136 (a1 t 122 (a1 t 115 bQ (a1 t 118 (a1 t 116 (ku 117) (a1 t 117 bQ Py)) bQ)) (a1 t 129 bQ (a1 t 132 bQ (a1 t 134 (a1 t 133 (some ⟨4,32,[.nilFunc,.nilFunc,.nilFunc,.nilFunc],.array 4 131⟩) bQ) bQ)))) (a1 t 149 bQ (a1 t 156 (a1 t 152 bQ (a1 t 154 bQ (a1 t 155 bQ (some ⟨1,8,[.map none],.map 9 3⟩)))) (a1 t 159 (a1 t 157 hY bQ) (a1 t 161 (a1 t 160 bQ hY) bQ))))) (a1 t 190 (a1 t 176 (a1 t 169 (a1 t 166 (a1 t 164 bQ (a1 t 165 bQ (ku 9))) (a1 t 167 bQ (a1 t 168 (ku 188) WW))) (a1 t 172 (a1 t 170 WW bQ) (a1 t 174 bQ (some ⟨3,32,[.string ⟨#[]⟩,.int .i64 0,.int .i64 0],.struct [(9,0),(3,1),(3,2)]⟩)))) (a1 t 183 (a1 t 179 (a1 t 177 (uV 183) (a1 t 178 hY bQ)) (a1 t 181 (a1 t 180 bQ (ku 247)) (a1 t 182 (ku 282) WX))) (a1 t 186 (a1 t 184 WX bQ) (a1 t 188 (some ⟨4,16,[.int .i64 0,.int .i32 0,.int .u8 0,.int .u8 0],.struct [(2,0),(21,1),(5,2),(5,3)]⟩) (a1 t 189 (ku 187) (ku 38)))))) (a1 t 204 (a1 t 197 (a1 t 193 bQ (a1 t 195 (a1 t 194 (ku 4) bQ) bQ)) (a1 t 200 bQ (a1 t 202 bQ (some ⟨64,512,List.replicate 64 (.int .u64 0),.array 64 60⟩)))) (a1 t 211 (a1 t 207 (a1 t 205 WY (a1 t 206 WY hY)) bQ) (a1 t 214 (a1 t 212 (ku 268) (a1 t 213 hY bQ)) (a1 t 216 (a1 t 215 bQ WZ) (a1 t 217 WZ bQ)))))))) (a1 t 327 (a1 t 272 (a1 t 245 (a1 t 231 (a1 t 224 (a1 t 221 (a1 t 219 (some ⟨10,80,[.nilFunc,.nilFunc,.nilFunc,.nilFunc,.nilFunc,.nilFunc,.nilFunc,.nilFunc,.nilFunc,.nilFunc],.array 10 217⟩) (a1 t 220 bQ (uV 216))) (a1 t 222 bQ (a1 t 223 hY bQ))) (a1 t 227 bQ (a1 t 229 (a1 t 228 bQ hY) bQ))) (a1 t 238 (a1 t 234 bQ (a1 t 236 bQ (a1 t 237 bQ (some ⟨10,80,[.nilFunc,.nilFunc,.nilFunc,.nilFunc,.nilFunc,.nilFunc,.nilFunc,.nilFunc,.nilFunc,.nilFunc],.array 10 236⟩)))) bQ)) (a1 t 258 (a1 t 251 (a1 t 248 (a1 t 246 bQ (some ⟨10,88,[.int .u8 0,.int .i64 0,.int .i64 0,.string ⟨#[]⟩,.int .u64 0,.int .u64 0,.int .u64 0,.int .u64 0,.int .i64 0,.int .i64 0],.struct [(5,0),(3,1),(3,2),(9,3),(62,4),(3,8),(3,9)]⟩)) (a1 t 249 bQ (a1 t 250 (ku 193) bQ))) (a1 t 254 (a1 t 252 bQ (a1 t 253 bQ hY)) (a1 t 256 bQ (a1 t 257 bQ (some ⟨2,16,[.int .i64 0,.int .i64 0],.array 2 3⟩))))) (a1 t 265 (a1 t 261 (a1 t 259 (some ⟨20,160,List.replicate 20 (.int .i64 0),.array 10 257⟩) (a1 t 260 (ku 311) hY)) (a1 t 263 (a1 t 262 bQ hY) bQ)) (a1 t 268 (a1 t 266 bQ (a1 t 267 bQ Pz)) (a1 t 270 (a1 t 269 Pz bQ) bQ))))) (a1 t 299 (a1 t 285 (a1 t 278 (a1 t 275 (a1 t 273 bQ (a1 t 274 hY bQ)) bQ) (a1 t 281 (a1 t 279 bQ (a1 t 280 hY bQ)) (a1 t 283 (some ⟨5,96,[.int .u8 0,.string ⟨#[]⟩,.slice none 0 0,.slice none 0 0,.slice none 0 0],.struct [(5,0),(9,1),(38,2),(38,3),(37,4)]⟩) (a1 t 284 hY bQ)))) (a1 t 292 (a1 t 288 (a1 t 286 bQ (a1 t 287 bQ (uV 282))) bQ) (a1 t 295 bQ (a1 t 297 Pz (a1 t 298 (ku 296) bQ))))) (a1 t 313 (a1 t 306 (a1 t 302 bQ (a1 t 304 (a1 t 303 (ku 337) hY) bQ)) (a1 t 309 bQ (a1 t 311 (a1 t 310 bQ PA) (a1 t 312 PA bQ)))) (a1 t 320 (a1 t 316 bQ (a1 t 318 bQ (a1 t 319 (uV 320) W0))) (a1 t 323 (a1 t 321 W0 (some ⟨1,16,[.nilIface],.other⟩)) (a1 t 325 (a1 t 324 hY bQ) bQ)))))) (a1 t 382 (a1 t 354 (a1 t 340 (a1 t 333 (a1 t 330 bQ (a1 t 331 hY bQ)) (a1 t 336 bQ (a1 t 338 (a1 t 337 bQ PA) (a1 t 339 hY bQ)))) (a1 t 347 (a1 t 343 bQ (a1 t 345 bQ (a1 t 346 (some ⟨10,80,[.nilFunc,.nilFunc,.nilFunc,.nilFunc,.nilFunc,.nilFunc,.nilFunc,.nilFunc,.nilFunc,.nilFunc],.array 10 344⟩) bQ))) (a1 t 350 (a1 t 348 (uV 5) (a1 t 349 bQ (some ⟨1,8,[.map none],.map 5 353⟩))) bQ))) (a1 t 368 (a1 t 361 (a1 t 357 hY (a1 t 359 bQ (some ⟨3,24,[.int .i64 0,.int .i64 0,.bool false],.struct [(3,0),(3,1),(4,2)]⟩))) (a1 t 364 (a1 t 362 (ku 360) (a1 t 363 (uV 360) bQ)) (a1 t 366 (a1 t 365 bQ (some ⟨3,48,[.string ⟨#[]⟩,.string ⟨#[]⟩,.string ⟨#[]⟩],.struct [(9,0),(9,1),(9,2)]⟩)) (a1 t 367 (some ⟨30,480,List.replicate 30 (.string ⟨#[]⟩),.array 10 365⟩) bQ)))) (a1 t 375 (a1 t 371 (a1 t 369 (some ⟨1,8,[.pointer none],.other⟩) bQ) bQ) (a1 t 378 (a1 t 376 hY bQ) (a1 t 380 (a1 t 379 hY bQ) (a1 t 381 hY bQ)))))) (a1 t 409 (a1 t 395 (a1 t 388 (a1 t 385 (a1 t 383 bQ (a1 t 384 bQ (ku 386))) (a1 t 386 bQ (a1 t 387 (some ⟨2,2,[.int .u8 0,.int .u8 0],.array 2 5⟩) bQ))) (a1 t 391 (a1 t 389 bQ (a1 t 390 bQ (some ⟨3,32,[.int .i64 0,.int .i64 0,.string ⟨#[]⟩],.struct [(3,0),(3,1),(9,2)]⟩))) (a1 t 393 (a1 t 392 (some ⟨9,96,[.int .i64 0,.int .i64 0,.string ⟨#[]⟩,.int .i64 0,.int .i64 0,.string ⟨#[]⟩,.int .i64 0,.int .i64 0,.string ⟨#[]⟩],.array 3 390⟩) (uV 399)) bQ))) (a1 t 402 (a1 t 398 (a1 t 396 bQ (a1 t 397 bQ (some ⟨1,8,[.map none],.map 5 5⟩))) (a1 t 400 (some ⟨6,64,[.string ⟨#[]⟩,.string ⟨#[]⟩,.int .u8 0,.map none,.int .i64 0,.int .i64 0],.struct [(9,0),(9,1),(5,2),(397,3),(3,4),(32,5)]⟩) (a1 t 401 hY bQ))) (a1 t 405 (a1 t 403 bQ (a1 t 404 bQ Px)) bQ))) (a1 t 423 (a1 t 416 (a1 t 412 (a1 t 410 bQ (a1 t 411 (some ⟨64,64,List.replicate 64 (.int .u8 0),.array 64 5⟩) bQ)) (a1 t 414 (a1 t 413 (some ⟨1,4,[.int .u32 0],.int .u32⟩) hY) (a1 t 415 bQ (some ⟨24,24,List.replicate 24 (.int .u8 0),.array 24 5⟩)))) (a1 t 419 (a1 t 417 bQ (a1 t 418 hY bQ)) (a1 t 421 (a1 t 420 bQ (some ⟨20,160,List.replicate 20 (.int .u64 0),.array 20 60⟩)) (a1 t 422 (some ⟨65,65,List.replicate 65 (.int .u8 0),.array 65 5⟩) bQ)))) (a1 t 430 (a1 t 426 (a1 t 424 bQ (a1 t 425 (some ⟨32,32,List.replicate 32 (.int .u8 0),.array 32 5⟩) W1)) (a1 t 428 (a1 t 427 W1 (some ⟨0,0,[],.array 0 16⟩)) (some ⟨0,0,[],.struct [(427,0)]⟩))) (a1 t 433 (a1 t 431 K7 (a1 t 432 K7 bQ)) (a1 t 435 WR (some ⟨11,48,[.int .u64 0,.int .u64 0,.int .u32 0,.int .u8 0,.int .u8 0,.int .u8 0,.int .u8 0,.nilFunc,.pointer none,.int .i32 0,.int .i32 0],.struct [(12,0),(12,1),(412,2),(430,3),(5,4),(5,5),(431,6),(432,7),(347,8),(433,9),(434,10)]⟩)))))))))else none
def aY:cW Tryz.prog sy:=ag7 437 (λt h=>by
 have bq:Nat.blt t 437=false:=by
  cases ag:Nat.blt t 437 with
  |false=>rfl| true=>exact absurd (bK ag) (by omega)
 simp only[sy,bq,cE]) (by kernel_rfl)
def letter(c:UInt8):Bool:=decide (97<=c.toNat/\c.toNat<=122)||(decide (65<=c.toNat/\c.toNat<=90)||decide (c.toNat=95))
def digit(c:UInt8):Bool:=decide (48<=c.toNat/\c.toNat<=57)
def W2(I:aH)(c:UInt8):Spec Tryz.prog 231 [.int .u8 c.toNat] I [] (λv I' M'=>v=.bool (letter c)/\I'=I/\M'=[]):=by
 refine bV [] aY Tryz.func231 rfl rfl rfl ?_;intro B ay
 repeat' (refine bX.mk (λh=>?_) (λh=>?_))
 all_goals
  refine⟨_,_,.refl,?_⟩;refine⟨?_,rfl,rfl⟩;simp_all[letter]
  all_goals first
   |omega|(rw[tc];simp;omega)
def ahW(I:aH)(c:UInt8):Spec Tryz.prog 232 [.int .u8 c.toNat] I [] (λv I' M'=>v=.bool (digit c)/\I'=I/\M'=[]):=by
 refine bV [] aY Tryz.func232 rfl rfl rfl ?_;intro B ay
 repeat' (refine bX.mk (λh=>?_) (λh=>?_))
 all_goals
  refine⟨_,_,.refl,?_⟩;refine⟨?_,rfl,rfl⟩;simp_all[digit]
  all_goals first
   |omega|(rw[tc];simp;omega)
def B'(s:ByteArray):s.data.toList.length=s.size:=xS
def ahX(I:aH)(s:ByteArray)(av:s.size<=140737488355328):Spec Tryz.prog 277 [.string s] I [] (λv I' M'=>v=.string s/\I'=I/\M'=[]):=by
 refine bV [] aY Tryz.func277 rfl rfl rfl ?_;intro B ay;refine aX.mk (λh=>?_) (λh=>?_)
 ·refine⟨_,_,.refl,?_,rfl,rfl⟩;have aa:s.size=0:=by simpa using h
  have:s=.empty:=by apply v3;exact O3 aa
  rw[this];rfl
 ·have aa:s.size≠0:=by simpa using h
  refine pB.mk s.size s.size rfl rfl (b' _) (by show 1*s.size<=_;omega) (by omega) ?_;refine bW.mk λb ag wz=>?_;refine bD.WM aY rfl (by simp) (e:=5) rfl rfl rfl rfl rfl rfl (b' _) ?_ (.refl _) ?_;·simp[ti,madeCells]
  refine bm.mk ⟨b,0,none⟩ 0 rfl rfl (by omega) ?_;refine bD.Pt aY rfl (by simp) (e:=5) rfl rfl rfl rfl (g:=b) (l:=s.data.toList) rfl ?_ ?_ ?_ (.refl _) ?_ ?_;·show dH.val (.int .i64 (s.size:Int))=dH.val (.int .i64 (s.data.toList.length:Int));rw[B']
  ·intro e;have:=congrArg List.length e;rw[B']at this;exact aa this
  ·rw[B'];omega
  ·rw[B'];have ax:(lv s).length=s.size:=by simp[lv]
   simp only[cj];rw[qo,hX,BV (by rw[ax];exact b' _),<-ax,D4];rfl
  ·exact⟨_,_,.refl,rfl,rfl,rfl⟩
def W3(I:aH)(s:ByteArray)(av:s.size<=140737488355328):Spec Tryz.prog 233 [.string s] I [] (λv I' M'=>v=.string s/\I'=I/\M'=[]):=by refine bV [] aY Tryz.func233 rfl rfl rfl ?_;intro B ay;refine a8.mk [] [] _ (.refl _) (ahX I s av) ?_;rintro v I' M' -⟨rfl,rfl,rfl⟩;exact⟨_,_,.refl,rfl,rfl,rfl⟩
def tw(c:UInt8):Bool:=letter c||digit c
def tx(s:ByteArray):Nat:=match s.data.toList with
 |[]=>0| c::r=>bif letter c then 1+(r.takeWhile tw).length else 0
def W4{α:Type}(p:α->Bool):∀ (l:List α) (i:Nat),i<=l.length->(∀ j (h:j<l.length),j<i->p l[j]=true)->(∀ (h:i<l.length),p l[i]=false)->(l.takeWhile p).length=i
 |[],i,h,_,_=>by simp at h;simp[h]
 |x::l,0,_,_,h=>by have:=h (by simp);simp only[tp]at this;simp[this]
 |x::l,i+1,hi,aa,ad=>by have ab:=aa 0 (by simp) (by omega);simp only[tp]at ab;have aQ:=W4 p l i (by simpa using hi) (λj ai K2=>by have:=aa (j+1) (by simpa using ai) (by omega);simpa using this) (λh=>by have:=ad (by simpa using h);simpa using this);simp[ab,aQ]
def ahY{s:ByteArray}(ay:0<s.size)(ax:letter s[0]=true){i:Nat}(aa:1<=i)(hi:i<=s.size)(a7:∀ j (h:j<s.size),1<=j->j<i->tw s[j]=true)(ag:∀ (h:i<s.size),tw s[i]=false):tx s=i:=by
 have get:∀ j (h:j<s.size),s[j]=s.data.toList[j]'(by rw[B'];exact h):=λj h=>rfl;unfold tx;have cS:=B' s;cases ah:s.data.toList with
 |nil=>rw[ah]at cS;simp at cS;omega
 |cons c r=>
  have g:∀ j (h:j<s.size),s[j]=(c::r)[j]'(by rw[<-ah,cS];exact h):=λj h=>by rw[get j h];simp only[ah]
  rw[ah]at cS;have ao:letter c=true:=by rw[g 0 ay]at ax;simpa using ax
  simp only[ao,cF];simp only[et]at cS;rw[W4 tw r (i-1) (by omega) (λj ai K2=>by
   have ak:j+1<s.size:=by omega
   have:=a7 (j+1) ak (by omega) (by omega);rw[g (j+1) ak]at this;simpa using this) (λh=>by
   have ak:i<s.size:=by omega
   have:=ag ak;rw[g i ak]at this;have e:i=(i-1)+1:=by omega
   rw[O4]at this;rw[dif_neg (by omega)]at this;exact this)]
  omega
def ahZ(I:aH)(s:ByteArray)(av:s.size<=140737488355328):Spec Tryz.prog 181 [.string s] I [] (λv I' M'=>v=.string (s.extract 0 (tx s))/\I'=I/\M'=[]):=by
 refine bV [] aY Tryz.func181 rfl rfl rfl ?_;intro B ay;have dy:∀ {s:ByteArray},tx s=0->s.extract 0 (tx s)=⟨#[]⟩:=λh=>by rw[h];apply v3;simp[Kv]
 refine bX.mk (λh=>?_) (λh=>?_)
 ·have aa:s≠⟨#[]⟩:=by simpa using h
  have ms:0<s.size:=by refine Nat.pos_of_ne_zero λe=>aa ?_;apply v3;exact O3 e
  refine tf.mk 0 rfl ms ?_;refine a8.mk [] [] _ (.refl _) (W2 I s[0]) ?_;rintro v I' M' -⟨rfl,rfl,rfl⟩;refine aX.mk (λh=>?_) (λh=>?_)
  ·have ax:letter s[0]=false:=by simpa using h
   refine⟨_,_,.refl,?_,rfl,rfl⟩;rw[dy]
   ·unfold tx;cases ah:s.data.toList with
    |nil=>rfl
    |cons c r=>
     have:s[0]=c:=by show s.data.toList[0]=c;simp only[ah];rfl
     rw[this]at ax;simp[ax]
  ·have ax:letter s[0]=true:=by simpa using h
   refine dt.inv (ι:=Nat) (λi=>{ bo:=[(0,.val (.string s)),(3,.val (.int .i64 i))],cH:=I' }) (λi=>1<=i/\i<=s.size/\∀ j (h:j<s.size),1<=j->j<i->tw s[j]=true) (λi=>s.size-i) ?_ ?_;·exact⟨1,⟨by omega,by omega,λj _ aa ad=>by omega⟩,.refl,xR,.nil⟩
   ·rintro i⟨ft,hW,im⟩;have next:∀ (aZ:i<s.size),tw s[i]=true->(1<=i+1/\i+1<=s.size/\∀ k (h:k<s.size),1<=k->k<i+1->tw s[k]=true)/\s.size-(i+1)<s.size-i:=λaZ ao=>
     ⟨⟨by omega,by omega,λj ai aa ad=>by
      by_cases e:j=i;·subst e;exact ao
      ·exact im j ai aa (by omega)⟩,by omega⟩
    have out:(∀ (h:i<s.size),tw s[i]=false)->s.extract 0 i=s.extract 0 (tx s):=λaD=>by rw[ahY ms ax ft hW im aD]
    have dn:(s.extract 0 i).size<=140737488355328:=by rw[ByteArray.size_extract];omega
    have gP:IntKind.i64.wrap ((i:Int)+1)=((i+1:Nat):Int):=by rw[wrap_i64 ⟨by omega,by omega⟩];omega
    refine bX.mk (λh=>?_) (λh=>?_)
    ·have aZ:i<s.size:=by simpa using h
     refine tf.mk i rfl aZ ?_;refine a8.mk [] [] _ (.refl _) (W2 I' s[i]) ?_;rintro v I' M' -⟨rfl,rfl,rfl⟩;refine bX.mk (λh=>?_) (λh=>?_)
     ·refine tf.mk i rfl aZ ?_;refine a8.mk [] [] _ (.refl _) (ahW _ s[i]) ?_;rintro v I' M' -⟨rfl,rfl,rfl⟩;refine aX.mk (λad=>?_) (λad=>?_)
      ·refine bd.mk _ gP ?_;exact⟨i+1,next aZ (by simp only[tw];rw[show digit s[i]=true from ad];simp),.refl,xR,.nil⟩
      ·refine jR.mk 0 i rfl rfl (by omega) (by omega) ?_;refine a8.mk [] [] _ (.refl _) (W3 _ _ dn) ?_;rintro v I' M' -⟨rfl,rfl,rfl⟩;refine⟨_,_,.refl,?_,rfl,rfl⟩;rw[<-out λ_=>by simp only[tw];rw[show letter s[i]=false from h,show digit s[i]=false from ad];rfl]
     ·refine bd.mk _ gP ?_;exact⟨i+1,next aZ (by simp only[tw];rw[show letter s[i]=true from h];simp),.refl,xR,.nil⟩
    ·have c0:¬ i<s.size:=by simpa using h
     refine jR.mk 0 i rfl rfl (by omega) (by omega) ?_;refine a8.mk [] [] _ (.refl _) (W3 _ _ dn) ?_;rintro v I' M' -⟨rfl,rfl,rfl⟩;refine⟨_,_,.refl,?_,rfl,rfl⟩;rw[<-out λh=>(c0 h).elim]
 ·have aa:s=⟨#[]⟩:=by simpa using h
  subst aa;refine⟨_,_,.refl,?_,rfl,rfl⟩;rw[dy];rfl
def nG(s:ByteArray):Bool:=decide (s≠⟨#[]⟩)&&(decide (s.size<=32)&&decide (tx s=s.size))
def ah0(s:ByteArray):tx s<=s.size:=by
 unfold tx;have ax:=B' s;cases ah:s.data.toList with
 |nil=>simp
 |cons c r=>
  rw[ah]at ax;simp only[et]at ax;simp only;cases letter c;·simp
  ·simp only[cF];have:=(List.takeWhile_sublist (p:=tw) (l:=r)).length_le;omega
def PB(I:aH)(s:ByteArray):Spec Tryz.prog 117 [.string s] I [] (λv I' M'=>v=.bool (nG s)/\I'=I/\M'=[]):=by
 refine bV [] aY Tryz.func117 rfl rfl rfl ?_;intro B ay;refine bX.mk (λaa=>?_) (λaa=>?_)
 ·refine bX.mk (λad=>?_) (λad=>?_)
  ·have oQ:s.size<=32:=by simp at ad;omega
   refine a8.mk [] [] _ (.refl _) (ahZ I s (by omega)) ?_;rintro v I' M' -⟨rfl,rfl,rfl⟩;refine⟨_,_,.refl,?_,rfl,rfl⟩;have bf:=ah0 s;have aI:(s.extract 0 (tx s)).size=tx s:=by rw[ByteArray.size_extract];omega
   simp_all[nG]
   all_goals omega
  ·refine⟨_,_,.refl,?_,rfl,rfl⟩;simp_all[nG]
   all_goals omega
 ·refine⟨_,_,.refl,?_,rfl,rfl⟩;simp_all[nG]
def jG:List Int:=[0,0,0,0,0,0,0,0,2,-1,2,-1,1,1,1,1,1,1,1,1]
def oR(k:Nat):Int:=jG.getD (k*2) 0
def nH(k:Nat):Int:=jG.getD (k*2+1) 0
def m4(I:aH):Prop:=∃ T an,I 0=some (.cells (jG.map (Value.int .i64)).toArray T an)
def m4.rd{I:aH}(h:m4 I)(M:List aE){j:Nat}(ai:j<20):cR I M (Addr.add ⟨0,0,none⟩ j) 1 [.int .i64 (jG.getD j 0)]:=by
 obtain⟨T,an,h⟩:=h;rw[eS _ rfl];refine⟨rfl,_,T,an,.inl h,?_,rfl⟩;simp only[du];have:∀ j:Fin 20,(((jG.map (Value.int .i64)).toArray.toList.drop j.val).take 1)=[Value.int .i64 (jG.getD j.val 0)]:=by
  intro j;have aa:j.val<(jG.map (Value.int .i64)).length:=by simp[jG]
  rw[OI,fg aa,rl,qo];have ad:j.val<jG.length:=by simp[jG]
  simp[bS,ad]
 exact this ⟨j,ai⟩
def m4.K8{I:aH}(h:m4 I)(M:List aE){i j:Nat}(ai:i+j<20):cR I M ((Addr.add ⟨0,0,none⟩ i).add j) 1 [.int .i64 (jG.getD (i+j) 0)]:=by
 have e:(Addr.add ⟨0,0,none⟩ i).add j=Addr.add ⟨0,0,none⟩ (i+j):=by rw[eS ⟨_,0,none⟩ rfl i,eS _ rfl j,eS _ rfl (i+j)];simp
 rw[e];exact h.rd M ai
def al.kT(d:al):Bool:=d.cx == 0&&(d.s1 == 0&&(d.s2 == 0&&d.cY == 0))
def fits(d:al)(n:Int):Bool:=
 bif decide (10<=d.k)then false else
 bif decide (n<oR d.k.toNat)||(decide (0<=nH d.k.toNat)&&decide (nH d.k.toNat<n))then false else
 bif decide (d.k=1)then decide (d.t=⟨#[]⟩)&&(decide (d.lo=0)&&decide (d.hi=0))else
 bif decide (d.k=2)then(!(decide (d.t=⟨#[]⟩)||decide (255<d.t.size)))&&(d.kT&&(decide (d.lo=0)&&decide (d.hi=0)))else
 bif decide (d.k=3)||decide (d.k=9)then nG d.t&&(d.kT&&(decide (d.lo=0)&&decide (d.hi=0)))else
 bif decide (d.k=6)then(!(decide (d.lo<0)||(decide (99<d.lo)||(decide (d.hi≠-1)&&(decide (d.hi<d.lo)||decide (99<d.hi))))))&&(d.kT&&decide (d.t=⟨#[]⟩))else
 d.kT&&(decide (d.t=⟨#[]⟩)&&(decide (d.lo=0)&&decide (d.hi=0)))
set_option maxHeartbeats 4000000 in
def PC{I:aH}(ao:m4 I){d:al}(ah:d.ok I)(n:Int):Spec Tryz.prog 160 [d.val,.int .i64 n] I [] (λv I' M'=>v=.bool (fits d n)/\I'=I/\M'=[]):=by
 refine bV [] aY Tryz.func160 rfl rfl rfl ?_;intro B ay;have ae:=ah.k;refine bd.mk d.k (by unfold IntKind.wrap;simp[IntKind.bits,IntKind.signed];omega) ?_;refine aX.mk (λh=>?_) (λh=>?_)
 ·refine⟨_,_,.refl,?_,rfl,rfl⟩;simp at h;simp[fits,h]
 ·have qB:d.k<10:=by simpa using h
  have ai:d.k=((d.k.toNat:Nat):Int):=by omega
  have W5:d.k.toNat<10:=by omega
  refine cT.draw aY rfl rfl rfl ?_;refine cw.mk d.k.toNat ai W5 ?_;refine cw.mk 0 rfl (by omega) ?_;refine aO.mk [.int .i64 (oR d.k.toNat)] (ao.rd _ (j:=d.k.toNat*2) (by omega)) ?_;refine cw.mk d.k.toNat ai W5 ?_;refine cw.mk 1 rfl (by omega) ?_;refine aO.mk [.int .i64 (nH d.k.toNat)] (ao.K8 _ (i:=d.k.toNat*2) (j:=1) (by omega)) ?_
  repeat' first
   |refine bX.mk (λh=>?_) (λh=>?_)| refine aX.mk (λh=>?_) (λh=>?_)| refine fT.Pq aY (e:=60) rfl rfl rfl rfl (by kernel_rfl) ?_|(refine a8.mk [] [] _ (.refl _) (PB _ _) ?_;rintro v I' M' -⟨rfl,rfl,rfl⟩)
  all_goals refine⟨_,_,.refl,?_⟩
  all_goals refine⟨?_,rfl,rfl⟩
  all_goals clear ao ah ai
  all_goals (first | (simp_all[fits,al.kT];done) | (simp_all[fits,al.kT];omega) | (simp_all[fits,al.kT];rw[tc];simp;omega))
def kU(i:Nat):List Int->List Bool->Option (List Bool)
 |[],s=>some s| k::ks,s=>bif decide (k<0)||(decide ((i:Int)<=k)||s.getD k.toNat false)then none else kU i ks (s.set k.toNat true)
def jH:Nat->List al->List Bool->Option (List Bool)
 |_,[],s=>some s
 |i,d::ds,s=>bif fits d d.au.length then(match kU i d.au s with
  |some cg=>jH (i+1) ds cg| none=>none)else none
def rC(bC:Int):Nat->List Bool->Bool
 |_,[]=>true| i,b::s=>bif b == decide ((i:Int)=bC)then false else rC bC (i+1) s
def right(t:bk):Bool:=decide (0<=t.bC)&&(decide (t.bC<t.ns.length)&&(match jH 0 t.ns (List.replicate t.ns.length false)with
 |some s=>rC t.bC 0 s| none=>false))
def Ca(v:Value)(n:Nat):rowOf [v] n=List.replicate n v:=by
 apply oH
 ·simp[ti,madeCells]
 ·intro i aa ad;simp[ti,madeCells,Nat.mod_one]
def zO(b:Nat)(s:List Bool):aE:=⟨b,.cells (s.map Value.bool).toArray 4 (0,0)⟩
def W6{I:aH}{b:Nat}{s:List Bool}(ba:zO b s∈M){j:Nat}(ai:j<s.length):cR I M ((⟨b,0,none⟩:Addr).add (j*1)) 1 [.bool s[j]]:=by
 rw[eS _ rfl];refine⟨rfl,_,4,(0,0),.inr ⟨_,ba,rfl,rfl⟩,?_,rfl⟩;have aa:j<(s.map Value.bool).length:=by simpa using ai
 simp only[du,gM];rw[fg aa,rl,qo];simp
def ah1(s:List Bool)(j:Nat)(ai:j<s.length)(b:Bool):cj (s.map Value.bool) j [.bool b]=(s.set j b).map Value.bool:=by unfold cj;rw[rn,GX];simp[ai]
def ck.add{b o k:Nat}(a9 post:List aE)(cs:Array Value)(T:Nat)(ba:M=a9++⟨b,.cells cs T (0,0)⟩::post)(ag:o+k+vs.length<=cs.size)(aa:fK vs=true)
  (h:K (a9++⟨b,.cells (cj cs.toList (o+k) vs).toArray T (0,0)⟩::post)):ck M ((⟨b,o,none⟩:Addr).add k) vs K:=by
 rw[eS _ rfl];exact .mk a9 post cs T ba rfl ag aa h
def ck.iV{b o k:Nat}(a9 post:List aE)(cs:List Value)(T:Nat)(ba:M=a9++⟨b,.cells cs.toArray T (0,0)⟩::post)(ag:Nat.ble (o+k+vs.length) cs.length=true)(aa:fK vs=true)(cs':List Value)(he:cj cs (o+k) vs=cs')(h:K (a9++⟨b,.cells cs'.toArray T (0,0)⟩::post)):ck M ((⟨b,o,none⟩:Addr).add k) vs K:=
 ck.add a9 post _ _ ba (by simpa using bK ag) aa (by rw[<-he]at h;exact h)
def n7{I:aH}(ao:m4 I){t:bk}(aq:t.ok I):Spec Tryz.prog 96 [t.val] I [] (λv I' M'=>v=.bool (right t)/\I'=I/\M'=[]):=by
 refine bV [] aY Tryz.func96 rfl rfl rfl ?_;intro B ay;have aD:=aq.n;have hA:=aq.a'.cap;refine bX.mk (λaa=>?_) (λaa=>?_)
 ·refine aX.mk (λad=>?_) (λad=>?_)
  ·refine⟨_,_,.refl,?_,rfl,rfl⟩;simp at ad;have:¬ t.bC<t.ns.length:=by omega
   simp[right,this]
  ·have bc:0<=t.bC:=by simpa using aa
   have bi:t.bC<t.ns.length:=by simp at ad;omega
   refine pB.mk t.n t.n rfl rfl (b' _) (by show 1*t.n<=_;omega) (by omega) ?_;refine bW.mk λb ag wz=>?_;refine dt.inv (ι:=Nat×List Bool) (λx=>{ bo:=[(1,.ref 1 0),(3,.val (.slice (some ⟨b,0,none⟩) t.n t.n)),(26,.val (.slice t.a t.n t.c)),(27,.val (.int .i64 t.n)),(28,.val (.int .i64 x.1))],cl:=[(1,t.cells)],cH:=I,dd:=[zO b x.2] }) (λx=>x.1<=t.n/\x.2.length=t.n/\jH 0 t.ns (List.replicate t.ns.length false)=jH x.1 (t.ns.drop x.1) x.2) (λx=>t.n-x.1) ?_ ?_;·refine⟨(0,List.replicate t.n false),⟨by omega,by simp,by simp[aD]⟩,?_,hx,.cons rfl .nil⟩;show hc _ _ [⟨b,.cells (rowOf [Value.bool false] (t.n*1)).toArray 4 (0,0)⟩] _ [zO b (List.replicate t.n false)];rw[Ca,gM];simp only[zO,BX];exact .refl
   ·rintro⟨i,s⟩⟨ft,hW,im⟩;simp only at ft hW im;refine aX.mk (λh=>?_) (λh=>?_)
    ·have aZ:i<t.n:=by simpa using h
     have cy:i<t.ns.length:=by omega
     obtain⟨aM,bB,bp⟩:=aq.a'.row al.cL aZ cy;have gm:=aq.ns t.ns[i] (bJ cy);have fj:=gm.aG;have l2:t.ns.drop i=t.ns[i]::t.ns.drop (i+1):=fg cy;refine bm.mk aM i bB rfl aZ ?_;refine aO.mk t.ns[i].cells (bp _) ?_;refine a8.mk [] [zO b s] _ (.refl _) (PC ao gm t.ns[i].aG) ?_;rintro v I' M' -⟨rfl,rfl,rfl⟩;refine aX.mk (λak=>?_) (λak=>?_)
     ·refine⟨_,_,.sub (gd _) .refl,?_,rfl,rfl⟩;have aB:fits t.ns[i] t.ns[i].au.length=false:=by rw[fj];simpa using ak
      have:right t=false:=by unfold right;rw[im,l2];simp[jH,aB]
      rw[this]
     ·have aB:fits t.ns[i] t.ns[i].au.length=true:=by rw[fj];simpa using ak
      refine dt.inv (ι:=Nat×List Bool) (λx=>{ bo:=[(1,.ref 1 0),(3,.val (.slice (some ⟨b,0,none⟩) t.n t.n)),(4,.val (.int .i64 i)),(26,.val (.slice t.a t.n t.c)),(27,.val (.int .i64 t.n)),(28,.val (.int .i64 i)),(40,.val (.slice t.ns[i].b0 t.ns[i].aG t.ns[i].ch)),(41,.val (.int .i64 t.ns[i].aG)),(42,.val (.int .i64 x.1))],cl:=[(1,t.cells)],cH:=I',dd:=[zO b x.2] }) (λx=>x.1<=t.ns[i].aG/\x.2.length=t.n/\kU i t.ns[i].au s=kU i (t.ns[i].au.drop x.1) x.2) (λx=>t.ns[i].aG-x.1) ?_ ?_;·exact⟨(0,s),⟨by omega,hW,rfl⟩,.refl,lV,.cons rfl .nil⟩
      ·rintro⟨j,cg⟩⟨K9,tz,Ee⟩;simp only at K9 tz Ee;refine aX.mk (λh=>?_) (λh=>?_)
       ·have fB:j<t.ns[i].aG:=by simpa using h
        have oS:j<t.ns[i].au.length:=by omega
        obtain⟨gn,fo,fh⟩:=gm.a'.one fB oS;refine bm.mk gn j fo rfl fB ?_;refine aO.mk [.int .i64 t.ns[i].au[j]] (fh _) ?_;have jW:t.ns[i].au.drop j=t.ns[i].au[j]::t.ns[i].au.drop (j+1):=fg oS;have bad:(decide (t.ns[i].au[j]<0)||(decide ((i:Int)<=t.ns[i].au[j])||cg.getD t.ns[i].au[j].toNat false))=true->right t=false:=λag=>by unfold right;rw[im,l2];simp only[jH,aB,cF,Ee,jW,kU,ag];simp
        refine bX.mk (λaK=>?_) (λaK=>?_)
        ·refine bX.mk (λbz=>?_) (λbz=>?_)
         ·simp only[st,Int.not_lt,Int.not_le]at aK bz;have lx:t.ns[i].au[j]=((t.ns[i].au[j].toNat:Nat):Int):=by omega
          have c7:t.ns[i].au[j].toNat<t.n:=by omega
          have x6:t.ns[i].au[j].toNat<cg.length:=by omega
          refine bm.mk ⟨b,0,none⟩ t.ns[i].au[j].toNat rfl lx c7 ?_;refine aO.mk [.bool cg[t.ns[i].au[j].toNat]] (W6 (by simp) x6) ?_;refine aX.mk (λcu=>?_) (λcu=>?_);·refine⟨_,_,.sub (gd _) .refl,?_,rfl,rfl⟩;rw[bad];simp[bS,x6,cu]
          ·refine bm.mk ⟨b,0,none⟩ t.ns[i].au[j].toNat rfl lx c7 ?_;refine ck.add [] [] _ 4 rfl ?_ rfl ?_
           ·simp only[tr,bx];show 0+t.ns[i].au[j].toNat*1+1<=_;omega
           have gP:IntKind.i64.wrap ((j:Int)+1)=((j+1:Nat):Int):=by rw[wrap_i64 ⟨by omega,by have:=gm.a'.cap;omega⟩];omega
           refine bd.mk _ gP ?_;refine⟨(j+1,cg.set t.ns[i].au[j].toNat true),⟨⟨by omega,by simp[tz],?_⟩,by show _<_;simp only;omega⟩,?_,lV,.cons rfl .nil⟩
           ·simp only;rw[Ee,jW];have aL:(decide (t.ns[i].au[j]<0)||(decide ((i:Int)<=t.ns[i].au[j])||cg.getD t.ns[i].au[j].toNat false))=false:=by
             have aI:¬ t.ns[i].au[j]<0:=by omega
             have a6:¬ (i:Int)<=t.ns[i].au[j]:=by omega
             simp[aI,a6,bS,x6,show cg[t.ns[i].au[j].toNat]=false from cu]
            simp only[kU,aL,cE]
           ·have e:=ah1 cg t.ns[i].au[j].toNat x6 true;simp only[zO];rw[<-e];simp only[du,gM];exact .refl
         ·refine⟨_,_,.sub (gd _) .refl,?_,rfl,rfl⟩;rw[bad];simp at bz;simp[bz]
        ·refine⟨_,_,.sub (gd _) .refl,?_,rfl,rfl⟩;rw[bad];simp at aK;simp[aK]
       ·have fB:¬ j<t.ns[i].aG:=by simpa using h
        have Cb:t.ns[i].au.drop j=[]:=lW (by omega);have gP:IntKind.i64.wrap ((i:Int)+1)=((i+1:Nat):Int):=by rw[wrap_i64 ⟨by omega,by omega⟩];omega
        refine bd.mk _ gP ?_;refine⟨(i+1,cg),⟨⟨by omega,tz,?_⟩,by show _<_;simp only;omega⟩,.refl,hx,.cons rfl .nil⟩;simp only;rw[im,l2];simp only[jH,aB,cF,Ee,Cb,kU]
    ·have c0:¬ i<t.n:=by simpa using h
     have h8:t.ns.drop i=[]:=lW (by omega);have eO:jH 0 t.ns (List.replicate t.ns.length false)=some s:=by rw[im,h8];rfl
     have af:right t=rC t.bC 0 s:=by unfold right;rw[eO];simp[bc,bi]
     refine dt.inv (ι:=Nat) (λm=>{ bo:=[(1,.ref 1 0),(64,.val (.slice (some ⟨b,0,none⟩) t.n t.n)),(65,.val (.int .i64 t.n)),(66,.val (.int .i64 m))],cl:=[(1,t.cells)],cH:=I,dd:=[zO b s] }) (λm=>m<=t.n/\rC t.bC 0 s=rC t.bC m (s.drop m)) (λm=>t.n-m) ?_ ?_;·exact⟨0,⟨by omega,rfl⟩,.refl,ee,.cons rfl .nil⟩
     ·rintro m⟨avi,Ef⟩;refine aX.mk (λh=>?_) (λh=>?_)
      ·have hh:m<t.n:=by simpa using h
       have rD:m<s.length:=by omega
       have rE:s.drop m=s[m]::s.drop (m+1):=fg rD;refine bm.mk ⟨b,0,none⟩ m rfl rfl hh ?_;refine aO.mk [.bool s[m]] (W6 (by simp) rD) ?_;refine aX.mk (λep=>?_) (λep=>?_)
       ·refine⟨_,_,.sub (gd _) .refl,?_,rfl,rfl⟩;have:right t=false:=by rw[af,Ef,rE];simp only[rC,show(s[m] == decide ((m:Int)=t.bC))=true from ep,cF]
        rw[this]
       ·have gP:IntKind.i64.wrap ((m:Int)+1)=((m+1:Nat):Int):=by rw[wrap_i64 ⟨by omega,by omega⟩];omega
        refine bd.mk _ gP ?_;refine⟨m+1,⟨⟨by omega,?_⟩,by omega⟩,.refl,ee,.cons rfl .nil⟩;rw[Ef,rE];simp only[rC,show(s[m] == decide ((m:Int)=t.bC))=false from ep,cE]
      ·have hh:¬ m<t.n:=by simpa using h
       have rE:s.drop m=[]:=lW (by omega);refine⟨_,_,.sub (gd _) .refl,?_,rfl,rfl⟩;rw[af,Ef,rE];rfl
 ·refine⟨_,_,.refl,?_,rfl,rfl⟩;have:¬ 0<=t.bC:=by simp at aa;omega
  simp[right,this]
end Go.V
