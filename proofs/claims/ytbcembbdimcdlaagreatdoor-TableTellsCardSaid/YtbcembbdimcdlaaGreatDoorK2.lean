/- Part 2 of what the proofs of this seat share: the executor, data in memory, walks.
-/
import Derived.Test.YtbcembbdimcdlaaGreatDoorK1
import Derived.Lib.UnsafeStr
import Derived.Test.YtbcembbdimcdlaaGreatDoorProg
import Derived.KernelRfl
set_option linter.all false
set_option maxRecDepth 100000
namespace Go.V
open Go
def b5:=@List.length_append
def dI:=@List.getD_eq_getElem?_getD
def cZ:=@List.getElem_mem
def c8:=@List.append_nil
def dx:=@List.length_map
def eG:=@List.nil_sublist
def dK:=@Nat.zero_add
def hJ:=@List.drop_eq_nil_of_le
def lC:=@List.sublist_append_right
def nB:=@List.eq_nil_of_length_eq_zero
def iu:=@List.mem_singleton
def oX:=@List.getElem?_append_left
def oY:=@decide_eq_false_iff_not
def nC:=@Bool.or_eq_false_iff
def n9:=@List.mem_append_left
def lD:=@List.nil_append
def h4:=@Nat.mul_one
def mV:=@List.length_take
def pX:=@List.take_succ_cons
def r3:=@List.mem_append_right
def iJ:=@Nat.add_mul
def pY:=@Bool.not_eq_true'
def pZ:=@List.flatMap_cons
def qY:=@List.size_toArray
def qZ:=@List.getElem?_set
def nE:=@Bool.not_true
def oZ:=@List.drop_zero
def r4:=@Bool.or_eq_true
def s4:=@List.map_toArray
def yl:=@List.getElem?_eq_none
def r5:=@List.take_zero
def p0:=@List.map_nil
def ET:=@Array.eq_empty_of_size_eq_zero
def Ae:=@List.getElem_cons_zero
def Co:=@Classical.byContradiction
def EU:=@List.take_append_of_le_length
def ym:=@Array.length_toList
def o0:=@Nat.one_mul
def Af:=@List.getElem?_toArray
def Ib:=@List.set_eq_take_append_cons_drop
def Ag:=@List.mem_of_getElem?
def Cp:=@World.putObj_heap_same
def tZ:=@Bool.false_or
def Cq:=@List.length_filter_le
def LX:=@Std.Legacy.Range.forIn_eq_forIn_range'
def yn:=@List.filter_cons
def yo:=@List.length_drop
def yp:=@List.ext_getElem
def yq:=@List.mem_filter
def EV:=@List.getElem_cons_succ
def EW:=@ByteArray.size_extract
def yr:=@List.take_take
def Cr:=@List.ext_getElem?
def EX:=@Nat.testBit_two_pow
def Cs:=@beq_self_eq_true
def Ah:=@Bool.not_false
def Ai:=@List.drop_take
def Aj:=@List.drop_drop
def LY:=@Option.bind_eq_some_iff
def Ic:=@List.map_replicate
def Ie:=@List.filter_congr
def EY:=@List.take_left
def If:=@List.take_length
def R9:=@List.drop_length_add_append
def EZ:=@Nat.zero_mul
def Ig:=@Nat.testBit_or
def R':=@Lib.run_firstCells_string
def LZ:=@List.getElem_set
def L0:=@Nat.testBit_and
def L1:=@List.forIn_cons
def Ih:=@List.map_set
def Ii:=@List.set_set
variable{soft hl:Bool}{P:Program}{f x y p s:Operand}{M M' Mr:List aE}{K:List aE->Prop}{I':aH}{op:Op}{ρ:Operand->dD}{C:dM}{other:Prop}{ops:List Oper}{dn l0 aJ:dU}{β:Nat->Nat}{a:Option Addr}{w w':World}{Q:Exit->Act->World->Prop}{dst:Option Nat}{v:Value}{lE:Fr}{dy:Array Bool}{A:Array Oper}{c g m u e c' t' it size:Nat}{vs xs bV:List Value}{ad:Addr}{cs:Array Value}{α:Type}
def Ct:Op->Bool
 | .move _ | .assign _ | .pick .. | .unOp .. | .binOp .. | .load .. | .nilCheck _ | .fieldAddr .. | .field .. | .indexAddr .. | .index .. | .build .. | .makeFunc .. | .slice .. | .extract .. | .convert ..=>true| .call { callee:=.builtin .len,.. }=>true| .call { callee:=.builtin .cap,.. }=>true| .call { callee:=.builtin .max,.. }=>true| .call { callee:=.builtin .min,.. }=>true| .call { callee:=.builtin .unsafeSliceData,.. }=>true| _=>false
def p1:Op->Bool
 | .load ..=>true| _=>false
def E0(o:Oper)(p:Nat):Bool:=o.after.toList.all λe=>!Region.binds .any e||p.testBit e.on
def p2(ops:List Oper)(p:Nat)(k:Bool):List Nat:=(List.range ops.length).filter λi=>match ops[i]? with
 |some o=>!p.testBit i&&((Ct o.op == k)&&E0 o p)| none=>false
def E1(bF:List Nat)(o:Oper):Nat:=o.after.toList.foldl (λs e=>bif Region.binds .any e then s ||| 2^e.on ||| bF.getD e.on 0 else s) 0
def kT(ops:List Oper):List Nat:=ops.foldl (λbF o=>bF++[E1 bF o]) []
def L2(P:Nat->Prop):List Nat->Prop
 |[]=>True| [i]=>P i| i::l=>P i/\L2 P l
inductive kU(soft:Bool)(b6:List Nat)(P:Program)(f:Nat)(args:List Value)(I:aH)(M:List aE)(K:Value->aH->List aE->Prop):Prop
 |mk(post:Value->aH->List aE->Prop)(ap:Spec P f args I [] post)(k:∀ v I' M',(∀ b o,I b=some o->I' b=some o)->post v I' M'->K v I' (M'++M))| Sa (dE Mr:List aE) (post:Value->aH->List aE->Prop) (bb:M.Perm (dE++Mr)) (ap:Spec P f args I dE post) (q0:∀ v I' M',post v I' M'->∀ x∈dE,x∈M') (k:∀ v I' M',(∀ b o,I b=some o->I' b=some o)->post v I' M'->K v I' (M'++Mr))| LD (post:Value->aH->List aE->Prop) (ap:Spec P f args I [] post) (k:∀ v I' M',(∀ b o,I b=some o->I' b=some o)->(∀ x∈M'++M,I' x.num=none)->post v I' M'->K v I' (M'++M))| abw (dE Mr:List aE) (post:Value->aH->List aE->Prop) (bb:M.Perm (dE++Mr)) (ap:Spec P f args I dE post) (q0:∀ v I' M',post v I' M'->∀ x∈dE,x∈M') (k:∀ v I' M',(∀ b o,I b=some o->I' b=some o)->(∀ x∈M'++Mr,I' x.num=none)->post v I' M'->K v I' (M'++Mr))| abx (b:Nat) (o:Obj) (dE Mr:List aE) (post:Value->aH->List aE->Prop) (bb:M.Perm (⟨b,o⟩::(dE++Mr))) (aF:b ∉ b6) (ap:Spec P f args (ins I b o) dE post) (q0:∀ v I' M',post v I' M'->∀ x∈dE,x∈M') (k:∀ v I' M',(∀ c p,ins I b o c=some p->I' c=some p)->(∀ x∈M'++Mr,I' x.num=none)->post v I' M'->K v I' (M'++Mr))| zX (h:sR I M->kU soft b6 P f args I M K)| Sb (Ij:soft=true) (dE Mr:List aE) (post:Value->aH->List aE->Prop) (bb:M.Perm (dE++Mr)) (ap:Spec P f args I dE post) (k:∀ v I' M',(∀ b o,I b=some o->I' b=some o)->post v I' M'->K v I' (M'++Mr))
def kU.elim{b6:List Nat}{f:Nat}{args:List Value}{I:aH}{K:Value->aH->List aE->Prop}(gv:sR I M)(h:kU soft b6 P f args I M K) :
  ∃ (dm:aH) (dE Mr:List aE) (post:Value->aH->List aE->Prop),h1 b6 I M dm (dE++Mr)/\(∀ b o,I b=some o->dm b=some o)/\Spec P f args dm dE post /\
   ∀ v I' M',(∀ b o,dm b=some o->I' b=some o)->(∀ x∈M'++Mr,I' x.num=none)->post v I' M'->(soft=true\/∀ x∈M,I' x.num=some x.obj\/x∈M'++Mr)/\K v I' (M'++Mr):=by
 have Sc:∀ {dE Mr:List aE} {post:Value->aH->List aE->Prop} {I':aH},M.Perm (dE++Mr)->(∀ v I' M',post v I' M'->∀ x∈dE,x∈M')->∀ v M',post v I' M'->∀ x∈M,I' x.num=some x.obj\/x∈M'++Mr:=λbb q0 v M' aa x ab=>by
  right
  rcases dW.1 (bb.mem_iff.1 ab)with ab | ab;·exact dW.2 (.inl (q0 v _ M' aa x ab))
  ·exact dW.2 (.inr ab)
 induction h with
 |mk post ap k=>exact⟨I,[],M,post,.refl,λ_ _ h=>h,ap,λv I' M' U _ aa=>⟨.inr λx ab=>.inr (by simp[ab]),k v I' M' U aa⟩⟩| Sa dE Mr post bb ap q0 k=>exact⟨I,dE,Mr,post,.perm bb .refl,λ_ _ h=>h,ap,λv I' M' U _ aa=>⟨.inr (Sc bb q0 v M' aa),k v I' M' U aa⟩⟩| LD post ap k=>exact⟨I,[],M,post,.refl,λ_ _ h=>h,ap,λv I' M' U ae aa=>⟨.inr λx ab=>.inr (by simp[ab]),k v I' M' U ae aa⟩⟩| abw dE Mr post bb ap q0 k=>exact⟨I,dE,Mr,post,.perm bb .refl,λ_ _ h=>h,ap,λv I' M' U ae aa=>⟨.inr (Sc bb q0 v M' aa),k v I' M' U ae aa⟩⟩
 |abx b o dE Mr post bb aF ap q0 k=>
  have ag:I b=none:=gv.d ⟨b,o⟩ (bb.mem_iff.2 (.head _));have aby:ins I b o b=some o:=by unfold ins;rw[qS];rfl
  refine⟨ins I b o,dE,Mr,post,.perm bb (.oT rfl aF .refl),λc p aN=>?_,ap,λv I' M' U ae aa=>⟨.inr λx ab=>?_,k v I' M' U ae aa⟩⟩
  ·unfold ins;by_cases e:c=b
   ·subst e;rw[ag]at aN;cases aN
   ·rw[gS e];exact aN
  ·rcases et.1 (bb.mem_iff.1 ab)with rfl | ab
   ·exact .inl (U _ _ aby)
   ·right
    rcases dW.1 ab with ab | ab;·exact dW.2 (.inl (q0 v I' M' aa x ab))
    ·exact dW.2 (.inr ab)
 |zX h bc=>exact bc gv| Sb Ij dE Mr post bb ap k=>exact⟨I,dE,Mr,post,.perm bb .refl,λ_ _ h=>h,ap,λv I' M' U _ aa=>⟨.inl Ij,k v I' M' U aa⟩⟩
def Ik(ops:List Oper)(o:Oper)(F:Fr)(run skip:Fr->Prop):Prop:=
 match o.guard with
 |none=>run F
 |some (j,b)=>
  match(ops[j]?).bind (·.dst)with
  |none=>False
  |some d=>
   match F d with
   | .lit c=>bif c == b then run F else skip F| .val (.bool c)=>bP c b (run (gH F d (.lit b))) (skip (gH F d (.lit !b)))| .val (.tuple _)=>skip F| _=>False
def Sd(gL p:Nat):Bool:=Nat.beq (p &&& gL) p
def abz(ops:List Oper)(gL p:Nat):Bool:=(List.range ops.length).all λq=>!p.testBit q||(gL.testBit q||match ops[q]? with
 |some o=>!p1 o.op| none=>true)
inductive n'(X:cW)(o:Oper)(F:Fr)(C:dM)(I:aH)(M:List aE)(K:dD->aH->List aE->Prop):Prop
 |mk (h:∀ β a w Q,cH X β a w F C I M->o.wpIn (gR X) 0 X.P a w (λbX w'=>∃ v x I' M',bX=a.put o.dst v/\eO β x v/\cH X β a w' F C I' M'/\K x I' M'/\I'=I) Q)
def vt(X:cW)(abA soft:Bool)(o:Oper)(F:Fr)(C:dM)(I:aH)(M:List aE)(K:gg):Prop:=
 bif abA then gK X o F C I M K else
 match o.op with
 | .call { callee:=.value f,args,.. }=>
  match bw F f,mq F args.toList with
  | .val (.func (.func g) first cap),some vs=>kU soft X.b6 X.P g (first.toList++vs++cap.toList) I M λv I' M'=>K (put o.dst (.val v) F) C I' M'
  |_,_=>False
 | .alloc t=>
  match o.dst,X.E t with
  |some d,some i=>cw I M λb=>K (gH F d (.val (.pointer (some ⟨b,0,none⟩)))) C I (⟨b,.cells i.zero.toArray t (0,0)⟩::M)
  |_,_=>False
 | .buildSlice _ _ _=>gK X o F C I M K| .makeSlice _ _ _=>gK X o F C I M K| .store _ _ _=>bif soft then gK X o F C I M K else False| .call { callee:=.builtin .append,.. }=>bif soft then ∀ G:Fr,(∀ y∈o.op.operands,dk G y=dk F y)->n' X o G C I M λx I' M'=>K (put o.dst x F) C I' M' else False
 | .call { callee:=.builtin .copy,.. }=>bif soft then ∀ G:Fr,(∀ y∈o.op.operands,dk G y=dk F y)->n' X o G C I M λx I' M'=>K (put o.dst x F) C I' M' else False
 |_=>False
def Il:dD->Nat
 | .ref s _=>s+1| _=>0
def E2(i:Nat)(op:Op)(ρ:Operand->dD)(cp:List (Nat×Nat)):List (Nat×Nat):=match op with
 | .load _ x=>(i,Il (ρ x))::cp| _=>cp
def Ak(gL s:Nat):List (Nat×Nat)->Bool
 |[]=>true|(i,t)::cp=>(gL.testBit i || !Nat.beq s t)&&Ak gL s cp
def Se{gL s i t:Nat}:∀ {cp:List (Nat×Nat)},Ak gL s cp=true->(i,t)∈cp->gL.testBit i=true\/t≠s
 |(j,u)::cp,h,hm=>by
  unfold Ak at h;rw[cA,r4]at h;rcases et.1 hm with e | hm
  ·cases e;rcases h.1 with U | U
   ·exact .inl U
   ·right
    rintro rfl;simp at U
  ·exact Se h.2 hm
def Sf(gL:Nat)(op:Op)(ρ:Operand->dD)(cp:List (Nat×Nat)):Bool:=match op with
 | .store _ x _=>(match ρ x with
  | .val (.pointer (some _))=>Ak gL 0 cp| _=>false)
 | .call { callee:=.value _,.. }=>Ak gL 0 cp| _=>false
def Sg(gL:Nat)(op:Op)(ρ:Operand->dD)(cp:List (Nat×Nat)):Bool:=match op with
 | .store _ x _=>(match ρ x with
  | .ref s _=>Ak gL (s+1) cp| _=>false)
 |_=>false
def vu(hl:Bool)(M:List aE):List aE:=bif hl then []else M
def abB{I:aH}{b:Nat}{o:Obj}(h:il I (vu hl M) b o):il I M b o:=by
 cases hl with
 |false=>exact h
 |true=>
  rcases h with h | ⟨x,ab,_⟩;·exact .inl h
  ·cases ab
def Sh{I:aH}(h:∀ b o,il I M b o->il I' M' b o)(bh:∀ b o,I b=some o->I' b=some o):∀ b o,il I (vu hl M) b o->il I' (vu hl M') b o:=λb o ag=>by
 cases hl with
 |false=>exact h b o ag
 |true=>
  rcases ag with ag | ⟨x,ab,_⟩;·exact .inl (bh _ _ ag)
  ·cases ab
def abC{I:aH}(bh:∀ b o,I b=some o->I' b=some o):∀ b o,il I (vu true M) b o->il I' (vu true M') b o:=λb o ag=>by
 rcases ag with ag | ⟨x,ab,_⟩
 ·exact .inl (bh _ _ ag)
 ·cases ab
def Si(X:cW)(hl:Bool)(op:Op)(ρ:Operand->dD)(C:dM)(I:aH)(M:List aE)(V:dD->Prop)(other:Prop):Prop:=match hl with
 |false=>cD X op ρ C I M V other| true=>cD X op ρ C I [] V other
def abD{X:cW}{I:aH}{V:dD->Prop}(h:Si X hl op ρ C I M V other):cD X op ρ C I (vu hl M) V other:=by
 cases hl with
 |false=>exact h| true=>exact h
def abE(ops:List Oper)(hl:Nat->Bool)(gL p:Nat):Bool:=(List.range ops.length).all λq=>!p.testBit q||(gL.testBit q||(hl q||match ops[q]? with
 |some o=>!p1 o.op| none=>true))
def Sj(op:Op)(ρ:Operand->dD):Bool:=match op with
 | .store _ x _=>(match ρ x with
  | .val (.pointer (some _))=>true| _=>false)
 | .call { callee:=.builtin .append,.. }=>true| .call { callee:=.builtin .copy,.. }=>true| _=>false
def Sk(ops:List Oper)(hl:Nat->Bool)(gL p:Nat)(op:Op)(ρ:Operand->dD):Bool:=abE ops hl gL p&&Sj op ρ
def q1(X:cW)(ops:List Oper)(hl:Nat->Bool):Nat->Nat->List (Nat×Nat)->Fr->dM->aH->List aE->gg->Prop
 |0,_,_,_,_,_,_,_=>False
 |n+1,p,cp,F,C,I,M,K=>
  match p2 ops p true with
  |i::_=>
   (match ops[i]? with
   |some o=>Ik ops o F (λF=>Si X (hl i) o.op (dk F) C I M (λx=>q1 X ops hl n (p ||| 2^i) (E2 i o.op (dk F) cp) (put o.dst x F) C I M K) False) (λF=>q1 X ops hl n (p ||| 2^i) cp (put o.dst (.val undef) F) C I M K)| none=>False)
  |[]=>
   match p2 ops p false with
   |[]=>K F C I M
   |i0::gi=>L2 (λi=>match ops[i]? with
     |some o=>Ik ops o F (λF=>vt X (Sd ((kT ops).getD i 0) p) (abz ops ((kT ops).getD i 0) p||(Sg ((kT ops).getD i 0) o.op (dk F) cp||(Sf ((kT ops).getD i 0) o.op (dk F) cp||Sk ops hl ((kT ops).getD i 0) p o.op (dk F)))) o F C I M λF C I M=>q1 X ops hl n (p ||| 2^i) cp F C I M K) (λF=>q1 X ops hl n (p ||| 2^i) cp (put o.dst (.val undef) F) C I M K)| none=>False) (i0::gi)
def looks(ops:List Oper)(o:Oper):List Nat:=o.looksAt ops.toArray
def E3(ops:List Oper):Bool:=
 let b:=kT ops
 (List.range ops.length).all λj=>match ops[j]? with
  |none=>true
  |some mv=>
   (mv.after.toList.all λe=>!Region.binds .any e||Nat.blt e.on j) &&
   ((match mv.dst with
    |some d=>!(looks ops mv).contains d| none=>true) &&
   ((List.range ops.length).all (λi=>Nat.beq i j||match ops[i]? with
    |none=>true
    |some gj=>match gj.dst with
     |none=>true| some d=>!(mv.dst == some d)&&(!(looks ops mv).contains d||((b.getD j 0).testBit i||(b.getD i 0).testBit j)))))
def mw(ops:List Oper)(j e:Nat):Prop:=∃ o kt,ops[j]?=some o/\kt∈o.after/\Region.binds .any kt=true/\kt.on=e
inductive o1(ops:List Oper):Nat->Nat->Prop
 |one{i j}(h:mw ops j i):o1 ops i j| trans {i j k} (h:mw ops j k) (bh:o1 ops i k):o1 ops i j
def Al(ops:List Oper)(S:Nat->Prop):Prop:=∀ j e,S j->mw ops j e->S e
def o1.mem{S:Nat->Prop}(gk:Al ops S){i j:Nat}(h:o1 ops i j)(ak:∀ e,mw ops j e->S e):S i:=by
 induction h with
 |one h=>exact ak _ h| trans h _ bc=>exact bc λe he=>gk _ e (ak _ h) he
def abF{bF:List Nat}{o:Oper}{i:Nat}(h:(E1 bF o).testBit i=true):∃ e∈o.after,Region.binds .any e=true/\(e.on=i\/(bF.getD e.on 0).testBit i=true):=by
 have key:∀ (l:List Edge) (s:Nat),(l.foldl (λs e=>bif Region.binds .any e then s ||| 2^e.on ||| bF.getD e.on 0 else s) s).testBit i=true->s.testBit i=true\/∃ e∈l,Region.binds .any e=true/\(e.on=i\/(bF.getD e.on 0).testBit i=true):=by
  intro l
  induction l with
  |nil=>intro s h;exact .inl h
  |cons e l bc=>
   intro s h;simp only[Ez]at h;rcases bc _ h with U | ⟨a4,r6,aa⟩
   ·cases ag:Region.binds .any e with
    |false=>rw[ag]at U;exact .inl U
    |true=>
     rw[ag]at U;simp only[bg,Ig,r4,EX,e7]at U;rcases U with(U | U) | U;·exact .inl U
     ·exact .inr ⟨e,by simp,ag,.inl U⟩
     ·exact .inr ⟨e,by simp,ag,.inr U⟩
   ·exact .inr ⟨a4,by simp[r6],aa⟩
 rcases key _ 0 h with U | ⟨e,he,aa⟩
 ·simp at U
 ·exact⟨e,by simpa using he,aa⟩
def Sl(ops:List Oper):∀ (l:List Oper) (a9:List Oper) (bF:List Nat),ops=a9++l->bF.length=a9.length->(∀ j i,(bF.getD j 0).testBit i=true->o1 ops i j) -> ∀ j i,((l.foldl (λbF o=>bF++[E1 bF o]) bF).getD j 0).testBit i=true->o1 ops i j
 |[],a9,bF,_,_,Im=>Im
 |o::l,a9,bF,vv,bY,Im=>by
  simp only[Ez];refine Sl ops l (a9++[o]) _ (by simp[vv]) (by simp[bY]) ?_;intro j i h;by_cases ak:j<bF.length;·exact Im j i (by simpa[dI,oX ak]using h)
  ·by_cases gx:j=bF.length
   ·subst gx;have bh:(E1 bF o).testBit i=true:=by simpa[dI]using h
    obtain⟨e,he,ag,aa⟩:=abF bh;have ar:ops[bF.length]?=some o:=by rw[vv,bY];simp
    have ys:mw ops bF.length e.on:=⟨o,e,ar,he,ag,rfl⟩;rcases aa with rfl | aa;·exact .one ys
    ·exact .trans ys (Im _ _ aa)
   ·have:(bF++[E1 bF o]).getD j 0=0:=by rw[dI,yl (by simp;omega)];rfl
    rw[this]at h;simp at h
def yt{j i:Nat}(h:((kT ops).getD j 0).testBit i=true):o1 ops i j:=
 Sl ops ops [] [] rfl rfl (λj i h=>by simp at h) j i h
section
variable{X:cW}{C C':dM}{I I':aH}{M M':List aE}
def xa{ρ jq:Operand->dD}:∀ {xs:List Operand},(∀ y∈xs,jq y=ρ y)->jG jq xs=jG ρ xs
 |[],_=>rfl| x::xs,h=>by have U:=h x (by simp);have aa:=xa (xs:=xs) λy aG=>h y (by simp[aG]);simp only[jG,dB,U,aa]
def L3{ρ jq:Operand->dD}:∀ {xs:List (Nat×Operand)},(∀ y∈xs.map (·.2),jq y=ρ y)->sT jq xs=sT ρ xs
 |[],_=>rfl|(i,x)::xs,h=>by have U:=h x (by simp);have aa:=L3 (xs:=xs) λy aG=>h y (by simp only[ek,et];exact .inr aG);simp only[sT,dB,U,aa]
def Sm{jq:Operand->dD}{V:dD->Prop}(h:cD X op ρ C I M V False)(iK:∀ y∈op.operands,jq y=ρ y)
  (aw:∀ t x,op=.load t x->(∀ s off,ρ x=.ref s off->C' s=C s)/\((∀ s off,ρ x≠.ref s off)->∀ b o,il I M b o->il I' M' b o)):cD X op jq C' I' M' V False:=by
 cases op
 case load t x=>
  obtain⟨aN,af⟩:=aw t x rfl;have U:=iK x (by simp[Op.operands]);simp only[cD,U]at h |-;cases aP:X.E t with
  |none=>rw[aP]at h;exact h.elim
  |some i=>
   rw[aP]at h
   try simp only at h |-
   cases ab:ρ x with
   |ref s off=>
    rw[ab]at h
    try simp only at h |-
    rw[aN s off ab];exact h
   |val v=>
    rw[ab]at h
    try simp only at h |-
    split at h;·rename_i e;cases e
    ·rename_i a e;cases e;obtain⟨vs,⟨aa,cs,T,aj,ae,aR⟩,bn⟩:=h;exact⟨vs,⟨aa,cs,T,aj,af (λs off e=>by rw[ab]at e;cases e) _ _ ae,aR⟩,bn⟩
    ·exact h.elim
   |lit b=>rw[ab]at h;exact h.elim| mT=>rw[ab]at h;exact h.elim
 case build t ps=>
  have U:=L3 (ρ:=ρ) (jq:=jq) (xs:=ps.toList) λy aG=>iK y (by simpa[Op.operands]using aG);simp only[cD,U]at h |-;exact h
 case makeFunc fn first captured=>
  have U:=xa (ρ:=ρ) (jq:=jq) (xs:=first.toList) λy aG=>iK y (by simp only[Op.operands,Array.mem_append];exact .inl (by simpa using aG));have aa:=xa (ρ:=ρ) (jq:=jq) (xs:=captured.toList) λy aG=>iK y (by simp only[Op.operands,Array.mem_append];exact .inr (by simpa using aG));simp only[cD,U,aa]at h |-;exact h
 case slice t x lo hi mx=>
  have U:=iK x (by simp[Op.operands]);have aa:lo.map (dB jq)=lo.map (dB ρ):=by
   cases lo with
   |none=>rfl| some y=>have:=iK y (by simp[Op.operands]);simp[dB,this]
  have ae:hi.map (dB jq)=hi.map (dB ρ):=by
   cases hi with
   |none=>rfl| some y=>have:=iK y (by simp[Op.operands]);simp[dB,this]
  have aR:mx.map (dB jq)=mx.map (dB ρ):=by
   cases mx with
   |none=>rfl| some y=>have:=iK y (by simp[Op.operands]);simp[dB,this]
  simp only[cD,aa,ae,aR,dB,U]at h |-;exact h
 case call c=>
  obtain⟨callee,args,argTypes⟩:=c;cases callee with
  |value f=>exact h| invoke r m=>exact h
  |builtin b=>
   cases b
   case len=>
    have U:=xa (ρ:=ρ) (jq:=jq) (xs:=args.toList) λy aG=>iK y (by simp[Op.operands,Call.operands];simpa using aG);simp only[cD,U]at h |-;exact h
   case cap=>
    have U:=xa (ρ:=ρ) (jq:=jq) (xs:=args.toList) λy aG=>iK y (by simp[Op.operands,Call.operands];simpa using aG);simp only[cD,U]at h |-;exact h
   case max=>
    have U:=xa (ρ:=ρ) (jq:=jq) (xs:=args.toList) λy aG=>iK y (by simp[Op.operands,Call.operands];simpa using aG);simp only[cD,U]at h |-;exact h
   case min=>
    have U:=xa (ρ:=ρ) (jq:=jq) (xs:=args.toList) λy aG=>iK y (by simp[Op.operands,Call.operands];simpa using aG);simp only[cD,U]at h |-;exact h
   case unsafeSliceData=>
    have U:=xa (ρ:=ρ) (jq:=jq) (xs:=args.toList) λy aG=>iK y (by simp[Op.operands,Call.operands];simpa using aG);simp only[cD,U]at h |-;exact h
   all_goals exact h
 all_goals first
  |exact h|(rename_i x;have U:=iK x (by simp[Op.operands]);simp only[cD,dB,U]at h |-;exact h)|(rename_i x y;have U:=iK x (by simp[Op.operands]);have aa:=iK y (by simp[Op.operands]);simp only[cD,dB,U,aa]at h |-;exact h)|(rename_i x y z;have U:=iK x (by simp[Op.operands]);have aa:=iK y (by simp[Op.operands]);have ae:=iK z (by simp[Op.operands]);simp only[cD,dB,U,aa,ae]at h |-;exact h)|(rename_i x y;have U:=iK x (by simp[Op.operands]);simp only[cD,dB,U]at h |-;exact h)|(rename_i x y;have U:=iK y (by simp[Op.operands]);simp only[cD,dB,U]at h |-;exact h)|(rename_i x y z;have U:=iK x (by simp[Op.operands]);have aa:=iK y (by simp[Op.operands]);simp only[cD,dB,U,aa]at h |-;exact h)|(rename_i x y z;have U:=iK y (by simp[Op.operands]);have aa:=iK z (by simp[Op.operands]);simp only[cD,dB,U,aa]at h |-;exact h)|(rename_i o x y z u;have U:=iK y (by simp[Op.operands]);have aa:=iK z (by simp[Op.operands]);simp only[cD,dB,U,aa]at h |-;exact h)|(rename_i x y z u;have U:=iK z (by simp[Op.operands]);have aa:=iK y (by simp[Op.operands]);simp only[cD,dB,U,aa]at h |-;exact h)
end
section
variable{X:cW}{C:dM}{I:aH}{M:List aE}
def abG{op:BinOp}{dn:Option dU}{x y:dD}{V:Value->Prop}{O:Prop}(h:lz op dn x y V O) :
  (∃ r,V r/\∀ q2,lz op dn x y (λz=>z=r) q2)\/(O/\∀ (L4:Value->Prop) (q2:Prop),q2->lz op dn x y L4 q2):=by
 unfold lz at h;split at h
 ·left
  split at h;·obtain⟨j,ak,⟨r,ao,af⟩⟩:=h;exact⟨_,af,λq2=>by unfold lz;exact⟨j,ak,⟨r,ao,rfl⟩⟩⟩
  ·obtain⟨j,ak,af⟩:=h;exact⟨_,af,λq2=>by unfold lz;exact⟨j,ak,rfl⟩⟩
  ·rename_i _ _ k a c7 b _ gT ko;cases hH:IntKind.ms k c7 with
   |false=>rw[hH]at h;exact h.elim
   |true=>
    rw[hH]at h;simp only[bg]at h;cases op<;>simp only at h
    case add=>obtain⟨r,ao,af⟩:=h;exact⟨_,af,λq2=>by simp only[lz,hH,bg];exact⟨r,ao,rfl⟩⟩
    case sub=>obtain⟨r,ao,af⟩:=h;exact⟨_,af,λq2=>by simp only[lz,hH,bg];exact⟨r,ao,rfl⟩⟩
    case mul=>obtain⟨r,ao,af⟩:=h;exact⟨_,af,λq2=>by simp only[lz,hH,bg];exact⟨r,ao,rfl⟩⟩
    case quo=>obtain⟨aq,⟨r,ao,af⟩⟩:=h;exact⟨_,af,λq2=>by simp only[lz,hH,bg];exact⟨aq,⟨r,ao,rfl⟩⟩⟩
    case rem=>obtain⟨aq,af⟩:=h;exact⟨_,af,λq2=>by simp only[lz,hH,bg];first | exact⟨aq,rfl⟩ | exact⟨aq,trivial⟩⟩
    case shl=>exact(gT rfl).elim
    case shr=>exact(ko rfl).elim
    all_goals exact⟨_,h,λq2=>by simp only[lz,hH,bg];rfl⟩
 ·cases op<;>first
  |exact .inl ⟨_,h,λ_=>rfl⟩| exact .inr ⟨h,λ_ _ ar=>ar⟩
 ·split at h
  ·cases op<;>first
   |exact .inl ⟨_,h,λ_=>rfl⟩| exact .inr ⟨h,λ_ _ ar=>ar⟩
  ·rename_i an;refine .inr ⟨h,λL4 q2 ar=>?_⟩;cases dn with
   |none=>exact ar
   |some i=>
    obtain⟨s,b,z,bK⟩:=i;cases bK<;>first
     |exact ar| exact(an _ _ _ rfl).elim
 ·rename_i U aa ae;refine .inr ⟨h,λL4 q2 ar=>?_⟩;unfold lz;split<;>first
   |exact ar| exact(U _ _ _ _ rfl rfl).elim| exact(aa _ _ rfl rfl).elim| exact(ae _ _ rfl rfl).elim
def abH{V:dD->Prop}(h:cD X op ρ C I M V False):∃ x,V x/\cD X op ρ C I M (λy=>y=x) False:=by
 cases op
 case move x=>exact⟨_,h,rfl⟩
 case assign x=>exact⟨_,h,rfl⟩
 case pick c p q=>
  simp only[cD]at h |-;split at h;·exact⟨_,h,rfl⟩
  ·exact⟨_,h,rfl⟩
  ·exact h.elim
 case unOp op t x=>
  simp only[cD]at h |-;split at h;·exact⟨_,h,rfl⟩
  ·exact⟨_,h,rfl⟩
  ·obtain⟨r,ao,af⟩:=h;exact⟨_,af,⟨r,ao,rfl⟩⟩
  ·exact h.elim
 case binOp op t x y ty=>
  simp only[cD]at h |-;rcases abG h with⟨r,U,aa⟩ | ⟨⟨hg,ft,r,aK,az,ao,af⟩ | U,aa⟩
  ·refine⟨_,U,?_⟩;have:(λv=>dD.val v=dD.val r)=(λz=>z=r):=by funext v;simp
   rw[this];exact aa _
  ·exact⟨_,af,aa _ _ (.mk hg ft r aK az ao rfl)⟩
  ·exact U.elim
 case load t x=>
  simp only[cD]at h |-;split at h
  ·split at h
   ·split at h
    ·rename_i i hi _ s off ap _ cs aN;cases bk:Nat.ble (off+i.size) cs.length with
     |false=>rw[bk]at h;exact h.elim| true=>rw[bk]at h;exact⟨_,h,rfl⟩
    ·exact h.elim
   ·obtain⟨vs,ao,af⟩:=h;exact⟨_,af,⟨vs,ao,rfl⟩⟩
   ·exact h.elim
  ·exact h.elim
 case nilCheck x=>
  simp only[cD]at h |-;split at h;·exact⟨_,h,rfl⟩
  ·exact⟨_,h,rfl⟩
  ·exact h.elim
 case fieldAddr t x i=>
  simp only[cD]at h |-;split at h
  ·split at h
   ·split at h
    ·rename_i g9 s o' mU ab;cases a1:Nat.beq g9.size 0 with
     |true=>rw[a1]at h;exact h.elim| false=>rw[a1]at h;exact⟨_,h,rfl⟩
    ·rename_i g9 s mU ab;cases a1:Nat.beq g9.size 0 with
     |true=>rw[a1]at h;exact h.elim| false=>rw[a1]at h;exact⟨_,h,rfl⟩
    ·exact h.elim
   ·exact h.elim
  ·exact h.elim
 case field t x i=>
  simp only[cD]at h |-;split at h
  ·split at h
   ·split at h
    ·rename_i sz hs z cb cs au ab _ mr off hh _ g9 mU;cases bk:Nat.ble (off+g9.size) cs.size with
     |false=>rw[bk]at h;exact h.elim| true=>rw[bk]at h;exact⟨_,h,rfl⟩
    ·exact h.elim
   ·exact h.elim
  ·exact h.elim
 case indexAddr t x i=>
  simp only[cD]at h |-;split at h
  ·split at h
   ·obtain⟨ad,j,U,aa,ae,af⟩:=h;exact⟨_,af,⟨ad,j,U,aa,ae,rfl⟩⟩
   ·exact h.elim
  ·split at h
   ·obtain⟨j,aa,ae,af⟩:=h;exact⟨_,af,⟨j,aa,ae,rfl⟩⟩
   ·obtain⟨j,aa,ae,af⟩:=h;exact⟨_,af,⟨j,aa,ae,rfl⟩⟩
   ·exact h.elim
  ·exact h.elim
 case index t x i=>
  simp only[cD]at h |-;split at h;·obtain⟨j,aa,ae,af⟩:=h;exact⟨_,af,⟨j,aa,ae,rfl⟩⟩
  ·split at h
   ·rename_i n e cs fD k au ab hi _ aJ hj;cases a1:Nat.beq (n*aJ.size) cs.size with
    |false=>rw[a1]at h;exact h.elim| true=>rw[a1]at h;obtain⟨j,aa,ae,af⟩:=h;exact⟨_,af,⟨j,aa,ae,rfl⟩⟩
   ·exact h.elim
  ·exact h.elim
 case build t ps=>
  simp only[cD]at h |-;split at h
  ·split at h
   ·rename_i i vs au im _ cb nw;cases aK:Ce X.E cb with
    |false=>rw[aK]at h;exact h.elim
    |true=>
     rw[aK]at h;simp only[bg]at h |-;split at h;·exact⟨_,h,rfl⟩
     ·exact h.elim
   ·split at h
    ·split at h
     ·exact⟨_,h,rfl⟩
     ·exact h.elim
    ·exact h.elim
   ·exact h.elim
  ·exact h.elim
 case makeFunc fn first captured=>
  simp only[cD]at h |-;split at h;·exact⟨_,h,rfl⟩
  ·exact h.elim
 case slice t x lo hi mx=>
  simp only[cD]at h |-;split at h
  ·split at h
   ·exact⟨_,h,rfl⟩
   ·obtain⟨l,m,U,aa,ae,aR,af⟩:=h;exact⟨_,af,⟨l,m,U,aa,ae,aR,rfl⟩⟩
   ·obtain⟨l,m,U,aa,ae,aR,af⟩:=h;exact⟨_,af,⟨l,m,U,aa,ae,aR,rfl⟩⟩
   ·obtain⟨l,m,U,aa,ae,aR,af⟩:=h;exact⟨_,af,⟨l,m,U,aa,ae,aR,rfl⟩⟩
   ·exact h.elim
  ·split at h
   ·exact⟨_,h,rfl⟩
   ·obtain⟨l,m,U,aa,ae,aR,af⟩:=h;exact⟨_,af,⟨l,m,U,aa,ae,aR,rfl⟩⟩
   ·obtain⟨l,m,U,aa,ae,aR,af⟩:=h;exact⟨_,af,⟨l,m,U,aa,ae,aR,rfl⟩⟩
   ·obtain⟨l,m,U,aa,ae,aR,af⟩:=h;exact⟨_,af,⟨l,m,U,aa,ae,aR,rfl⟩⟩
   ·exact h.elim
  ·split at h
   ·obtain⟨l,m,U,aa,ae,aR,af⟩:=h;exact⟨_,af,⟨l,m,U,aa,ae,aR,rfl⟩⟩
   ·exact h.elim
  ·exact h.elim
 case extract x i=>
  simp only[cD]at h |-;split at h
  ·split at h
   ·exact⟨_,h,rfl⟩
   ·exact h.elim
  ·exact h.elim
 case convert s d x=>
  simp only[cD]at h |-;split at h;·obtain⟨r,ao,af⟩:=h;exact⟨_,af,⟨r,ao,rfl⟩⟩
  ·exact h.elim
 case call c=>
  obtain⟨callee,args,argTypes⟩:=c;cases callee with
  |value f=>exact h.elim| invoke r m=>exact h.elim
  |builtin b=>
   cases b
   case len=>
    simp only[cD]at h |-;split at h
    ·split at h
     ·exact⟨_,h,rfl⟩
     ·exact⟨_,h,rfl⟩
     ·exact⟨_,h,rfl⟩
     ·exact h.elim
    ·exact h.elim
   case cap=>
    simp only[cD]at h |-;split at h
    ·split at h
     ·exact⟨_,h,rfl⟩
     ·exact h.elim
    ·exact h.elim
   case max=>
    simp only[cD]at h |-;split at h;·exact⟨_,h,rfl⟩
    ·exact h.elim
   case min=>
    simp only[cD]at h |-;split at h;·exact⟨_,h,rfl⟩
    ·exact h.elim
   case unsafeSliceData=>
    simp only[cD]at h |-;split at h;·exact⟨_,h,rfl⟩
    ·obtain⟨U,aa⟩:=h;exact⟨_,aa,⟨U,rfl⟩⟩
    ·exact h.elim
   all_goals exact h.elim
 all_goals exact h.elim
end
def il.mono{I:aH}{b:Nat}{o:Obj}(h:il I M b o)(bx:∀ b o,I b=some o->I' b=some o)(bb:∀ x∈M,x∈M'):il I' M' b o:=by
 rcases h with h | ⟨x,ab,U,aa⟩
 ·exact .inl (bx _ _ h)
 ·exact .inr ⟨x,bb x ab,U,aa⟩
def il.move{I:aH}{b:Nat}{o:Obj}(h:il I M b o)(bx:∀ b o,I b=some o->I' b=some o)(bb:∀ x∈M,I' x.num=some x.obj\/x∈M'):il I' M' b o:=by
 rcases h with h | ⟨x,ab,rfl,rfl⟩
 ·exact .inl (bx _ _ h)
 ·rcases bb x ab with h | h
  ·exact .inl h
  ·exact .inr ⟨x,h,rfl,rfl⟩
def Sn(F:Fr)(op:Op)(C C':dM)(I I':aH)(M M':List aE):Prop:=(∀ t x y s off,op=.store t x y->dk F x=.ref s off->((∀ cB,cB≠s->C' cB=C cB)/\∀ b o,I b=some o->I' b=some o)/\∀ b o,il I M b o->il I' M' b o)/\(∀ t x y ad,op=.store t x y->dk F x=.val (.pointer (some ad))->C'=C/\∀ b o,I b=some o->I' b=some o)/\((∀ t x y,op≠.store t x y)->C'=C/\∀ b o,I b=some o->I' b=some o)
def abI(X:cW)(β:Nat->Nat)(G F:Fr)(C:dM)(I:aH)(M:List aE)(abJ:Bool)(op:Op)(dst:Option Nat)(a:Act)(K:gg)(bX:Act)(w':World):Prop:=
 ∃ v x C' I' M',bX=a.put dst v/\eO β x v/\cH X β a w' G C' I' M'/\K (put dst x F) C' I' M'/\((abJ=true/\Sn F op C C' I I' M M')\/(C'=C/\(∀ b o,I b=some o->I' b=some o)/\∀ b o,il I M b o->il I' M' b o))
def abK{X:cW}{a:Act}{F G:Fr}{I:aH}{o:Oper}{K:gg}(aP:cY X.P X.E)
  (h:cH X β a w G C I M) (hy:∀ y∈o.op.operands,dk G y=dk F y) (ai:vt X false soft o F C I M K):o.wpIn (gR X) 0 X.P a w (abI X β G F C I M soft o.op o.dst a K) Q:=by
 obtain⟨dst,op,ty,pos,after,guard⟩:=o;have aF:=h.aj;have oa:∀ {y:Operand} {v:Value},y∈op.operands->bw F y=.val v->a.eval y=v:=fun {y v} aG he=>dq aF (by simp only[bw,dB,hy y aG];exact he);cases op
 case alloc t=>
  simp only[vt,bd]at ai;split at ai
  ·rename_i d i hi;obtain⟨z,a1,w5⟩:=(aP _ _ hi).EE w;have Cj:z.cells=i.zero.toArray:=by rw[<-w5]
   obtain⟨ai⟩:=ai;have af:=ai w.heap.size h.holds.rZ h.holds.qT;refine i' (by simp) (v:=.pointer (some ⟨w.heap.size,0,none⟩)) (w':=w.alloc (.cells i.zero.toArray t (0,0))) ?_ ⟨_,.val _,_,_,_,rfl,rfl,h.nu _,af,.inr ⟨rfl,λ_ _ h=>h,λb o ag=>ag.mono (λ_ _ h=>h) (λx ab=>by simp[ab])⟩⟩;simp[execOp,Instr.alloc,newVar,newRow,a1,Cj,zT]
  ·exact ai.elim
 case store t x y=>
  simp only[vt,bd]at ai;cases soft with
  |false=>exact ai.elim
  |true=>
   simp only[bg,gK]at ai;split at ai
   ·rename_i i v hi aG;have yg:=oa (by simp[Op.operands]) aG;split at ai
    ·rename_i s off ab;have g1:=zZ aF ((hy x (by simp[Op.operands])).trans ab);split at ai
     ·rename_i cs ap;cases bk:(Nat.ble (off+i.size) cs.length&&(Nat.beq v.cells.size i.size&&gI v.cells.toList))with
      |false=>rw[bk]at ai;exact ai.elim
      |true=>
       rw[bk]at ai;simp only[cA]at bk;obtain⟨bk,cr,h3⟩:=bk;have z4:=bN bk;have z7:=cM cr;obtain⟨T,bS⟩:=(h.cp s cs ap).av;have:=HY (aP _ _ hi) (a:=⟨β s,off,none⟩) (v:=v) rfl bS z7 (by simp;omega) h3;refine Cg (by simp) (w':=w.setRow (β s) (bO cs off v.cells.toList).toArray) ?_ ⟨undef,.mT,_,_,_,rfl,trivial,h.RP ap (bO cs off v.cells.toList),ai,.inl ⟨rfl,λe9 n7 So cB HW aC ay=>(by
        cases aC;rw[ab]at ay;cases ay;refine⟨⟨λs2 bu=>?_,λ_ _ h=>h⟩,λ_ _ h=>h⟩;unfold iZ;rw[gS bu];rfl),λe9 n7 So Sp aC ay=>(by
        cases aC;rw[ab]at ay;cases ay),λjr=>absurd rfl (jr _ _ _)⟩⟩
       simp only[execOp,Instr.storeAt,g1,yg,Instr.sureAddr,ca,c5,bR];simp only[Lz]at this;rw[this];rfl
     ·exact ai.elim
    ·rename_i ad ab;have g1:=tT aF ((hy x (by simp[Op.operands])).trans ab);cases cr:Nat.beq v.cells.size i.size with
     |false=>rw[cr]at ai;exact ai.elim| true=>rw[cr]at ai;obtain⟨a9,post,cs,T,bb,bZ,ag,h3,af⟩:=ai;have z7:=cM cr;have aB:w.heap[ad.block]?=some (.cells cs T (0,0)):=h.holds.m ⟨ad.block,.cells cs T (0,0)⟩ (by rw[bb];simp);have:=HY (aP _ _ hi) (v:=v) bZ aB z7 ag h3;refine Cg (by simp) (w':=w.setRow ad.block (bO cs.toList ad.off v.cells.toList).toArray) ?_ ⟨undef,.mT,_,_,_,rfl,trivial,h.yb bb,af,.inl ⟨rfl,λe9 n7 So cB HW aC ay=>(by cases aC;rw[ab]at ay;cases ay),λ_ _ _ _ _ _=>⟨rfl,λ_ _ h=>h⟩,λjr=>absurd rfl (jr _ _ _)⟩⟩;simp only[execOp,Instr.storeAt,g1,yg,Instr.sureAddr,ca,c5,bR];rw[this];rfl
    ·exact ai.elim
   ·exact ai.elim
 case buildSlice t len parts=>
  simp only[vt,bd,gK]at ai;have abL:zY G parts.toList=zY F parts.toList:=L3 λy aG=>hy y (by simpa[Op.operands]using aG);rw[<-abL]at ai;split at ai
  ·rename_i sz hs z e vs au im;have hu:=(aP _ _ au).slice;have aK:=HU aF im;have vm:(parts.map λ(i,x)=>(i,a.eval x)).toList=vs:=by simpa using aK
   split at ai
   ·rename_i aJ hj;cases a1:(Nat.ble (len*aJ.size) 16777216&&Nat.blt 0 (len*aJ.size))with
    |false=>
     rw[a1]at ai;simp only[bd]at ai;split at ai
     ·rename_i abh;obtain⟨ai⟩:=ai;have af:=ai w.heap.size h.holds.rZ h.holds.qT;refine i' (by simp) (v:=.slice (some ⟨w.heap.size,0,none⟩) 0 0) (w':=w.alloc (.cells #[] e (0,0))) ?_ ⟨_,.val _,_,_,_,rfl,rfl,h.nu _,af,.inr ⟨rfl,λ_ _ h=>h,λb o ag=>ag.mono (λ_ _ h=>h) (λx ab=>by simp[ab])⟩⟩;simp only[execOp,Instr.buildSlice,ca,bR,run_underlying hu,(aP _ _ hj).run_sizeOf,vm];have cd:∀ f:Nat->Value,Array.map f (Array.range 0)=#[]:=λf=>by apply Array.ext<;>simp
      simp[newRow,zT,Instr.fill,cd]
     ·exact ai.elim
    |true=>
     rw[a1]at ai;simp only[bg]at ai;rw[cA]at a1;have bk:=bN a1.1;have kP:0<len*aJ.size:=by simpa using a1.2
     split at ai;·rename_i cells r0;obtain⟨sV,z8,w5⟩:=(aP _ _ hj).EE w;obtain⟨ai⟩:=ai;have af:=ai w.heap.size h.holds.rZ h.holds.qT;refine i' (by simp) (v:=.slice (some ⟨w.heap.size,0,none⟩) len len) (w':=w.alloc (.cells cells.toArray e (0,0))) ?_ ⟨_,.val _,_,_,_,rfl,rfl,h.nu _,af,.inr ⟨rfl,λ_ _ h=>h,λb o ag=>ag.mono (λ_ _ h=>h) (λx ab=>by simp[ab])⟩⟩;have z5:=fill_eq _ _ _ _ r0;simp only[execOp,Instr.buildSlice,ca,bR,run_underlying hu,(aP _ _ hj).run_sizeOf];rw[cG (by omega)];simp only[cG (show ¬ len*aJ.size=0 by omega),ca,z8,bR,c5,vm,RX sV aJ.zero w5,z5];simp[newRow,zT]
     ·exact ai.elim
   ·exact ai.elim
  ·exact ai.elim
 case makeSlice t l c=>
  simp only[vt,bd,gK]at ai;split at ai
  ·rename_i sz hs z e EH dg hk c' au aw aN;have hu:=(aP _ _ au).slice;have pW:=oa (by simp[Op.operands]) aw;have ua:=oa (by simp[Op.operands]) aN;split at ai
   ·rename_i aJ hj;obtain⟨n,m,rfl,rfl,vn,ag,hm,⟨ai⟩⟩:=ai;have af:=ai w.heap.size h.holds.rZ h.holds.qT;obtain⟨inf,sV,eA,gw,gW,iG,tV⟩:=(aP _ _ hj).inf;refine i' (by simp) (v:=.slice (some ⟨w.heap.size,0,none⟩) n m) (w':=w.alloc (.cells (rowOf aJ.zero (m*aJ.size)).toArray e (0,0))) ?_ ⟨_,.val _,_,_,_,rfl,rfl,h.nu _,af,.inr ⟨rfl,λ_ _ h=>h,λb o ag=>ag.mono (λ_ _ h=>h) (λx ab=>by simp[ab])⟩⟩;have kq:((aJ.bytes:Nat):Int)*(m:Int)<=281474976710656:=by
     have aa:((aJ.bytes*m:Nat):Int)<=281474976710656:=by omega
     simpa using aa
    have:=run_make (P:=X.P) w t e inf sV hu eA iG EH hk (n:Int) (m:Int) (by omega) (by omega) (by rw[gW];exact kq) (by omega);simp only[execOp,pW,ua,ca,this,bR,c5,mm];have aC:madeCells sV.cells (m*inf.size)=(rowOf aJ.zero (m*aJ.size)).toArray:=by rw[gw,<-tV];simp[Cf]
    rw[aC]
   ·exact ai.elim
  ·exact ai.elim
 case call c=>
  obtain⟨callee,args,argTypes⟩:=c;cases callee with
  |value f=>
   simp only[vt,bd]at ai;split at ai
   ·rename_i g first cap vs yh im
    have abM:mq G args.toList=some vs:=by rw[<-im];exact xa λy aG=>hy y (by simp only[Op.operands,Call.operands];simp;right;simpa using aG)
    have abN:=oa (by simp[Op.operands,Call.operands]) yh;obtain⟨dm,dE,Mr,post,abO,dF,ap,af⟩:=ai.elim ⟨h.holds.d,h.holds.cn⟩;have aC:=sU aF abM;have eb:args.map a.eval=vs.toArray:=by apply gG;simpa using aC
    have fw:∀ {n:Next} {w':World},(callFunc g (first.toList++vs++cap.toList).toArray).run X.P w=.ok n w'->(execOp a.eval ⟨dst,.call { callee:=.value f,args,argTypes },ty,pos,after,guard⟩).run X.P w=.ok n w':=λao=>by simp only[execOp,resolve,abN,Deferred.ofValue,ca,c5,bR,eb,invoke];rw[show first++vs.toArray++cap=(first.toList++vs++cap.toList).toArray from by apply gG;simp];exact ao
    have Sq:∀ {I':aH} {M':List aE},(∀ b o,I b=some o->I' b=some o)->(soft=true\/∀ x∈M,I' x.num=some x.obj\/x∈M')->(soft=true/\Sn F (.call { callee:=.value f,args,argTypes }) C C I I' M M')\/(C=C/\(∀ b o,I b=some o->I' b=some o)/\∀ b o,il I M b o->il I' M' b o):=λU aa=>by
     rcases aa with aa | aa;·exact .inl ⟨aa,⟨λt x y s off e _=>(by cases e),λt x y ad e _=>(by cases e),λ_=>⟨rfl,U⟩⟩⟩
     ·exact .inr ⟨rfl,U,λb o ag=>ag.move U aa⟩
    rcases h.call (KC:=λv I' M'=>(∀ b o,I b=some o->I' b=some o)/\(soft=true\/∀ x∈M,I' x.num=some x.obj\/x∈M')/\K (Go.V.put dst (.val v) F) C I' M') (.zW dm dE Mr post abO ap λv I' M' bk ah aK=>⟨λb o ag=>bk _ _ (dF _ _ ag),(af v I' M' bk ah aK).1,(af v I' M' bk ah aK).2⟩)with⟨pU,z9⟩ | ⟨v,w',I',M',ao,⟨U,aa,af⟩,gh⟩;·refine RW (by simp) (f:=g) (args:=(first.toList++vs++cap.toList).toArray) (fw (pU _ _)) ?_;refine z9.mono ?_;rintro e w'⟨v,I',M',rfl,⟨U,aa,af⟩,ao⟩;exact⟨v,rfl,v,.val v,C,I',M',rfl,rfl,ao,af,Sq U aa⟩
    ·exact i' (by simp) (fw ao) ⟨v,.val v,C,I',M',rfl,rfl,gh,af,Sq U aa⟩
   ·exact ai.elim
  |invoke r m=>exact ai.elim
  |builtin b=>
   cases b
   case append=>
    simp only[vt,bd]at ai;cases soft with
    |false=>exact ai.elim| true=>simp only[bg]at ai;obtain⟨ai⟩:=ai G hy;refine sO (λbX w'=>?_) (ai β a w Q h);rintro⟨v,x,I',M',U,aa,ae,aR,L5⟩;exact⟨v,x,C,I',M',U,aa,ae,aR,.inl ⟨rfl,⟨λt x y s off e _=>(by cases e),λt x y ad e _=>(by cases e),λ_=>⟨rfl,λb o h=>by rw[L5];exact h⟩⟩⟩⟩
   case copy=>
    simp only[vt,bd]at ai;cases soft with
    |false=>exact ai.elim| true=>simp only[bg]at ai;obtain⟨ai⟩:=ai G hy;refine sO (λbX w'=>?_) (ai β a w Q h);rintro⟨v,x,I',M',U,aa,ae,aR,L5⟩;exact⟨v,x,C,I',M',U,aa,ae,aR,.inl ⟨rfl,⟨λt x y s off e _=>(by cases e),λt x y ad e _=>(by cases e),λ_=>⟨rfl,λb o h=>by rw[L5];exact h⟩⟩⟩⟩
   all_goals exact ai.elim
 all_goals exact ai.elim
def s5(x y:dD):Prop:=∀ β u,eO β x u->eO β y u
def s5.refl(x:dD):s5 x x:=λ_ _ h=>h
def s5.trans{x y z:dD}(h:s5 x y)(bh:s5 y z):s5 x z:=fun β u hu=>bh β u (h β u hu)
structure vw(ops:List Oper):Prop where
 lt:∀ j e,mw ops j e->e<j
 own:∀ (j:Nat) (o:Oper) (d:Nat),ops[j]?=some o->o.dst=some d->d ∉ looks ops o
 L6:∀ (i j:Nat) (gj mv:Oper) (d:Nat),i≠j->ops[i]?=some gj->ops[j]?=some mv->gj.dst=some d->mv.dst≠some d
 ord:∀ (i j:Nat) (gj mv:Oper) (d:Nat),i≠j->ops[i]?=some gj->ops[j]?=some mv->gj.dst=some d->d∈looks ops mv->o1 ops i j\/o1 ops j i
def Sr(h:E3 ops=true):vw ops:=by
 have key:∀ (j:Nat) (mv:Oper),ops[j]?=some mv->_:=λj mv ak=>by have aO:j<ops.length:=(iY.1 ak).1;have U:=g0.1 h j (j2.2 aO);simp only[ak,cA]at U;exact U
 refine⟨?_,?_,?_,?_⟩
 ·rintro j e⟨o,kt,ar,q3,ag,rfl⟩;have U:=g0.1 (key j o ar).1 kt (by simpa using q3);rw[ag]at U;simpa using U
 ·intro j o d ar ah;have U:=(key j o ar).2.1;rw[ah]at U;simpa using U
 ·intro i j gj mv d bu hi ak ah hI;have aO:i<ops.length:=(iY.1 hi).1;have U:=g0.1 (key j mv ak).2.2 i (j2.2 aO);rw[gS bu]at U;simp only[hi,ah,tZ,cA]at U;rw[hI]at U;simp at U
 ·intro i j gj mv d bu hi ak ah aw;have aO:i<ops.length:=(iY.1 hi).1;have U:=g0.1 (key j mv ak).2.2 i (j2.2 aO);rw[gS bu]at U;simp only[hi,ah,tZ,cA,r4]at U;rcases U.2 with aa | aa | aa
  ·have:(looks ops mv).contains d=true:=by simpa using aw
   rw[this]at aa;cases aa
  ·exact .inl (yt aa)
  ·exact .inr (yt aa)
def iL(ops:List Oper)(i:Nat):Option Nat:=(ops[i]?).bind (·.dst)
def ku(L:Nat->Prop)(p i:Nat):Prop:=p.testBit i=true/\¬ L i
def yu(ops:List Oper)(o:Oper)(F:Fr):Prop:=match o.guard with
 |none=>True| some (j,b)=>∃ d,iL ops j=some d/\F d=.lit b
def Io(ops:List Oper)(o:Oper)(F:Fr):Prop:=∃ j b d,o.guard=some (j,b)/\iL ops j=some d/\(F d=.lit (!b)\/∃ vs,F d=.val (.tuple vs))
def L7{o:Oper}{j d:Nat}{b:Bool}(aB:o.guard=some (j,b))(ah:iL ops j=some d):d∈looks ops o:=by unfold looks Oper.looksAt;refine r3 _ ?_;rw[aB];simp only[Option.mem_toList];simpa[iL]using ah
def L8{o:Oper}{t:Nat}(h:Operand.tmp t∈o.op.operands):t∈looks ops o:=
 n9 _ (List.mem_filterMap.2 ⟨.tmp t,by simpa using h,rfl⟩)
def Ss{o:Oper}{F:Fr}{a:Act}(h:yu ops o F)(c6:∀ t∈looks ops o,eO β (F t) (a.tmps.getD t undef)):Region.wanted o (yielded ops.toArray a.tmps)=true:=by
 unfold yu at h;unfold Region.wanted;cases aB:o.guard with
 |none=>rfl| some EJ=>obtain⟨j,b⟩:=EJ;rw[aB]at h;obtain⟨d,ah,aw⟩:=h;have U:=c6 d (L7 aB ah);rw[aw]at U;have aG:=EI (ops:=ops.toArray) (j:=j) (d:=d) (by simpa[iL]using ah) a.tmps;simp[aG,Cl U]
def St{o:Oper}{F:Fr}{a:Act}(h:Io ops o F)(c6:∀ t∈looks ops o,eO β (F t) (a.tmps.getD t undef)):Region.wanted o (yielded ops.toArray a.tmps)=false:=by
 obtain⟨j,b,d,aB,ah,aw⟩:=h;unfold Region.wanted;have U:=c6 d (L7 aB ah);have aG:=EI (ops:=ops.toArray) (j:=j) (d:=d) (by simpa[iL]using ah) a.tmps;rw[aB];rcases aw with aw | ⟨vs,aw⟩
 ·rw[aw]at U;simp[aG,Cl U]
 ·rw[aw]at U;have z':yielded ops.toArray a.tmps j=none:=by
   rw[aG];cases kr:a.tmps[d]? with
   |none=>rfl| some v=>simp only[eO,oS,kr,j1]at U;subst U;rfl
  simp[z']
def Su{o:Oper}{F:Fr}{run skip:Fr->Prop}(h:Ik ops o F run skip):∃ lE,(∀ t,s5 (F t) (lE t))/\((yu ops o lE/\run lE)\/(Io ops o lE/\skip lE)):=by
 unfold Ik at h;cases aB:o.guard with
 |none=>rw[aB]at h;exact⟨F,λt=>.refl _,.inl ⟨by simp[yu,aB],h⟩⟩
 |some EJ=>
  obtain⟨j,b⟩:=EJ;rw[aB]at h;simp only at h;split at h;·exact h.elim
  ·rename_i d ah;have hI:iL ops j=some d:=ah;split at h
   ·rename_i c aN;refine⟨F,λt=>.refl _,?_⟩;cases iH:(c == b)with
    |true=>
     rw[iH]at h;have iH:c=b:=by simpa using iH
     subst iH;exact .inl ⟨by simp only[yu,aB];exact⟨d,hI,aN⟩,h⟩
    |false=>
     rw[iH]at h;have Ip:c=!b:=by cases c<;>cases b<;>simp_all
     subst Ip;exact .inr ⟨⟨j,b,d,aB,hI,.inl aN⟩,h⟩
   ·rename_i c aN;obtain⟨U,aa⟩:=h;have hl:∀ x,c=x->∀ t,s5 (F t) (gH F d (.lit x) t):=λx ab t=>by
     unfold gH;by_cases e:t=d;·subst e;subst ab;simp only[qS,bg,aN];exact λ_ _ h=>h
     ·simp only[gS e,bd];exact .refl _
    have self:∀ x,gH F d (.lit x) d=.lit x:=λx=>by simp[gH]
    by_cases iH:c=b;·exact⟨_,hl b iH,.inl ⟨by simp only[yu,aB];exact⟨d,hI,self b⟩,U iH⟩⟩
    ·have Ip:c=!b:=by cases c<;>cases b<;>simp_all
     exact⟨_,hl _ Ip,.inr ⟨⟨j,b,d,aB,hI,.inl (self _)⟩,aa Ip⟩⟩
   ·rename_i vs aN;exact⟨F,λt=>.refl _,.inr ⟨⟨j,b,d,aB,hI,.inr ⟨vs,aN⟩⟩,h⟩⟩
   ·exact h.elim
structure abP(X:cW)(ops:List Oper)(iv:Nat->Bool)(L:Nat->Prop)(p:Nat)(cp:List (Nat×Nat))(β:Nat->Nat)(a:Act)(F:Fr)(C:dM)(I:aH)(M:List aE)(hn:Nat->dD)(gy:Nat->Fr)(q:Nat)(o:Oper):Prop where
 quiet:Ct o.op=true
 hl:∀ d,o.dst=some d->s5 (hn q) (F d)
 b:∀ t∈looks ops o,∀ i,ku L p i->o1 ops i q->iL ops i=some t->s5 (hn i) (gy q t)
 a:∀ t∈looks ops o,(∀ i,ku L p i->o1 ops i q->iL ops i≠some t)->eO β (gy q t) (a.tmps.getD t undef)
 r:(yu ops o (gy q)/\cD X o.op (dk (gy q)) C I (vu (iv q) M) (λx=>x=hn q) False/\∀ t x,o.op=.load t x->(q,Il (dk (gy q) x))∈cp)\/(Io ops o (gy q)/\hn q=.val undef)
structure Inv(X:cW)(ops:List Oper)(iv:Nat->Bool)(L:Nat->Prop)(β:Nat->Nat)(a:Act)(w:World)(F:Fr)(C:dM)(I:aH)(M:List aE)(p:Nat)(cp:List (Nat×Nat))(hn:Nat->dD)(gy:Nat->Fr):Prop where
 rel:cH X β a w (λ_=>.mT) C I M
 sub:∀ i,L i->p.testBit i=true
 vx:Al ops L
 q4:Al ops (λi=>p.testBit i=true)
 T:∀ t,(∀ i,ku L p i->iL ops i≠some t)->eO β (F t) (a.tmps.getD t undef)
 yv:∀ q,ku L p q->∃ o,ops[q]?=some o/\abP X ops iv L p cp β a F C I M hn gy q o
def my{p q i:Nat}:(p ||| 2^q).testBit i=true ↔ p.testBit i=true\/i=q:=by simp only[Ig,r4,EX,e7];exact⟨λh=>h.imp id Eq.symm,λh=>h.imp id Eq.symm⟩
section
variable{X:cW}{ops:List Oper}{iv:Nat->Bool}{L:Nat->Prop}{β:Nat->Nat}{a:Act}{w:World}{F:Fr}{C:dM}{I:aH}{M:List aE}{p:Nat}{cp:List (Nat×Nat)}{hn:Nat->dD}{gy:Nat->Fr}{q:Nat}{o:Oper}
def E4(h:ops[q]?=some o):iL ops q=o.dst:=by simp[iL,h]
def E5{i d:Nat}(h:iL ops i=some d):∃ gj,ops[i]?=some gj/\gj.dst=some d:=by unfold iL at h;exact LY.1 h
def Inv.ahead(dr:vw ops)(p3:Al ops (λi=>p.testBit i=true))(az:ops[q]?=some o)(kV:p.testBit q=false){i t:Nat}(hi:p.testBit i=true)(au:t∈looks ops o)(ah:iL ops i=some t):o1 ops i q:=by
 obtain⟨gj,hT,p4⟩:=E5 ah;have bu:i≠q:=λe=>by rw[e,kV]at hi;cases hi
 rcases dr.ord i q gj o t bu hT az p4 au with h | h
 ·exact h
 ·have:=h.mem p3 (λe he=>p3 i e hi he);rw[kV]at this;cases this
def Inv.abQ(dr:vw ops)(h:Inv X ops iv L β a w F C I M p cp hn gy)(az:ops[q]?=some o)(kV:p.testBit q=false)(bl:∀ e,mw ops q e->L e):∀ t∈looks ops o,eO β (F t) (a.tmps.getD t undef):=λt au=>h.T t λi hi ah=>
 hi.2 ((Inv.ahead dr h.q4 az kV hi.1 au ah).mem h.vx bl)
def Iq{x:dD}{t:Nat}(h:dst≠some t):put dst x F t=F t:=by
 cases dst with
 |none=>rfl| some d=>have:t≠d:=λe=>h (by rw[e]);simp only[put,gH,gS this,bd]
def put_eq{x:dD}{t:Nat}:put (some t) x F t=x:=by simp[put,gH]
def Ir{t:Nat}(h:dst≠some t):(a.put dst v).tmps.getD t undef=a.tmps.getD t undef:=by
 cases dst with
 |none=>rfl| some d=>have:d≠t:=λe=>h (by rw[e]);simp only[Act.put,oS,Cb,cG this]
def L9{t:Nat}(h:t<a.tmps.size):(a.put (some t) v).tmps.getD t undef=v:=by rw[RK a t t v h,dd rfl]
def Inv.record(dr:vw ops)(h:Inv X ops iv L β a w F C I M p cp hn gy)(az:ops[q]?=some o)(kV:p.testBit q=false)(ys:∀ e,mw ops q e->p.testBit e=true)(Is:Ct o.op=true)
 (s6:∀ t,s5 (F t) (lE t)) {x:dD} {L':List (Nat×Nat)} (tX:∀ s∈cp,s∈L') (ao:(yu ops o lE/\cD X o.op (dk lE) C I (vu (iv q) M) (λy=>y=x) False/\∀ t y,o.op=.load t y->(q,Il (dk lE y))∈L')\/(Io ops o lE/\x=.val undef)) :
  Inv X ops iv L β a w (put o.dst x lE) C I M (p ||| 2^q) L' (λi=>if i=q then x else hn i) (λi=>if i=q then lE else gy i):=by
 have q5:¬ L q:=λe=>by have:=h.sub q e;rw[kV]at this;cases this
 have p5:∀ {i},ku L (p ||| 2^q) i->i≠q->ku L p i:=λhi bu=>⟨(my.1 hi.1).resolve_right bu,hi.2⟩;have xb:∀ {i},ku L p i->ku L (p ||| 2^q) i:=λhi=>⟨my.2 (.inl hi.1),hi.2⟩;have abR:ku L (p ||| 2^q) q:=⟨my.2 (.inr rfl),q5⟩;have abS:∀ {i},ku L p i->¬ o1 ops q i:=fun {i} hi ag=>by have:=ag.mem h.q4 (λe he=>h.q4 i e hi.1 he);rw[kV]at this;cases this
 refine⟨h.rel,λi hi=>my.2 (.inl (h.sub i hi)),h.vx,?_,?_,?_⟩
 ·intro j e ak he;rcases my.1 ak with ak | rfl
  ·exact my.2 (.inl (h.q4 j e ak he))
  ·exact my.2 (.inl (ys e he))
 ·intro t au;have U:o.dst≠some t:=λe=>au q abR (by rw[E4 az,e]);rw[Iq U];exact s6 t _ _ (h.T t λi hi=>au i (xb hi))
 ·intro i hi;by_cases o2:i=q
  ·subst o2;refine⟨o,az,⟨Is,?_,?_,?_,?_⟩⟩
   ·intro d ah;rw[ah,put_eq];simp only[dd];exact .refl _
   ·intro t au j ak ag vy;have It:j≠i:=λe=>by subst e;have:=ag.mem h.q4 ys;rw[kV]at this;cases this
    simp only[cG It,dd];obtain⟨mv,abT,r7⟩:=h.yv j (p5 ak It);exact(r7.hl t (by rw[<-E4 abT];exact vy)).trans (s6 t)
   ·intro t au ea;simp only[dd];refine s6 t _ _ (h.T t λj ak vy=>ea j (xb ak) (Inv.ahead dr h.q4 az kV ak.1 au vy) vy)
   ·simpa using ao
  ·obtain⟨gj,hT,r7⟩:=h.yv i (p5 hi o2);refine⟨gj,hT,⟨r7.quiet,?_,?_,?_,?_⟩⟩
   ·intro d ah;simp only[cG o2];rw[Iq (dr.L6 i q gj o d o2 hT az ah)];exact(r7.hl d ah).trans (s6 d)
   ·intro t au j ak ag vy;have E6:j≠q:=λe=>by subst e;exact abS (p5 hi o2) ag
    simp only[cG o2,cG E6];exact r7.b t au j (p5 ak E6) ag vy
   ·intro t au ea;simp only[cG o2];exact r7.a t au λj ak=>ea j (xb ak)
   ·simp only[cG o2];exact r7.r.imp (λ⟨U,aa,ae⟩=>⟨U,aa,λt x aC=>tX _ (ae t x aC)⟩) id
def Inv.exec{tY:Act->World->Prop}(aP:cY X.P X.E)(dr:vw ops)(fv:∀ d,o.dst=some d->d<X.n)(h:Inv X ops iv L β a w F C I M p cp hn gy)(az:ops[q]?=some o)(aK:ku L p q)(bl:∀ e,mw ops q e->L e)
  (fl:∀ bX,Inv X ops iv (λi=>L i\/i=q) β bX w F C I M p cp hn gy->tY bX w):wpOpIn (gR X) 0 X.P ops.toArray Q q tY a w:=by
 obtain⟨o',kW,r7⟩:=h.yv q aK;rw[az]at kW;cases kW;have Cu:∀ {i},o1 ops i q->¬ ku L p i:=λag hi=>hi.2 (ag.mem h.vx bl);have eH:∀ t∈looks ops o,eO β (gy q t) (a.tmps.getD t undef):=λt au=>r7.a t au λi hi ag=>(Cu ag hi).elim;have after:∀ v,eO β (hn q) v->Inv X ops iv (λi=>L i\/i=q) β (a.put o.dst v) w F C I M p cp hn gy:=λv ai=>by
  have p5:∀ {i},ku (λi=>L i\/i=q) p i->ku L p i/\i≠q:=λhi=>⟨⟨hi.1,λe=>hi.2 (.inl e)⟩,λe=>hi.2 (.inr e)⟩;have xb:∀ {i},ku L p i->i≠q->ku (λi=>L i\/i=q) p i:=λhi bu=>⟨hi.1,λe=>e.elim hi.2 bu⟩;refine⟨h.rel.put fv (x:=.mT) trivial |> λh=>h.refine λ_=>trivial,?_,?_,h.q4,?_,?_⟩
  ·rintro i (hi | rfl)
   ·exact h.sub i hi
   ·exact aK.1
  ·rintro j e (ak | rfl) he
   ·exact .inl (h.vx j e ak he)
   ·exact .inl (bl e he)
  ·intro t au;by_cases ah:o.dst=some t
   ·have aO:t<a.tmps.size:=by rw[h.rel.size];exact fv t ah
    rw[ah,L9 aO];exact r7.hl t ah _ _ ai
   ·rw[Ir ah];refine h.T t λi hi p4=>?_;by_cases o2:i=q
    ·subst o2;rw[E4 az]at p4;exact ah p4
    ·exact au i (xb hi o2) p4
  ·intro i hi;obtain⟨dw,o2⟩:=p5 hi;obtain⟨gj,hT,s7⟩:=h.yv i dw;refine⟨gj,hT,⟨s7.quiet,s7.hl,λt au j ak=>s7.b t au j (p5 ak).1,?_,s7.r⟩⟩;intro t au ea;by_cases ah:o.dst=some t
   ·have aO:t<a.tmps.size:=by rw[h.rel.size];exact fv t ah
    rw[ah,L9 aO];have ag:o1 ops q i:=by
     rcases dr.ord q i o gj t (sP o2) az hT ah au with ag | ag;·exact ag
     ·exact(Cu ag dw).elim
    exact s7.b t au q aK ag (by rw[E4 az,ah]) _ _ ai
   ·rw[Ir ah];refine s7.a t au λj ak ag vy=>?_;by_cases E6:j=q
    ·subst E6;rw[E4 az]at vy;exact ah vy
    ·exact ea j (xb ak E6) ag vy
 have E7:ops.toArray[q]?=some o:=by simpa using az
 unfold wpOpIn;simp only[E7];rcases r7.r with⟨fw,abU,-⟩ | ⟨E8,ab⟩
 ·rw[Ss fw eH,dd rfl];let G:Fr:=λt=>if t∈looks ops o then gy q t else .mT
  have hy:∀ t,eO β (G t) (a.tmps.getD t undef):=λt=>by
   by_cases au:t∈looks ops o;·simp only[G,dd au];exact eH t au
   ·simp only[G,cG au];trivial
  have Ma:∀ y∈o.op.operands,dk G y=dk (gy q) y:=λy aG=>by
   cases y with
   |tmp t=>simp only[dk,G,dd (L8 aG)]| const v=>cases v<;>rfl
   |global g=>rfl| func f=>rfl
  have abV:=Sm abU Ma (C':=C) (I':=I) (M':=M) λ_ _ _=>⟨λ_ _ _=>rfl,λ_ _ _ h=>abB h⟩;obtain⟨dst,op,ty,pos,abW,guard⟩:=o;have cq:∀ c,op≠.defer c:=λc e=>by have:=r7.quiet;rw[e]at this;cases this
  rcases R1 aP (h.rel.refine hy) op ty dst pos abW guard abV with U | ⟨v,x,jJ,ab,rfl⟩;·exact U.elim
  ·exact i' cq jJ (fl _ (after v ab))
 ·rw[St E8 eH];simp only[j0,kO];exact⟨λ_ _=>trivial,fl _ (after undef (by rw[ab];rfl))⟩
end
section
variable{X:cW}{ops:List Oper}{iv:Nat->Bool}{L:Nat->Prop}{β:Nat->Nat}{a:Act}{w:World}{F:Fr}{C:dM}{I:aH}{M:List aE}{p:Nat}{cp:List (Nat×Nat)}{hn:Nat->dD}{gy:Nat->Fr}{q:Nat}{o:Oper}
def Inv.refine(h:Inv X ops iv L β a w F C I M p cp hn gy)(s6:∀ t,s5 (F t) (lE t)):Inv X ops iv L β a w lE C I M p cp hn gy:=
 ⟨h.rel,h.sub,h.vx,h.q4,λt au=>s6 t _ _ (h.T t au),λi hi=>by
  obtain⟨gj,hT,aK⟩:=h.yv i hi;exact⟨gj,hT,⟨aK.quiet,λd ah=>(aK.hl d ah).trans (s6 d),aK.b,aK.a,aK.r⟩⟩⟩
def Inv.step(dr:vw ops)(fv:∀ d,o.dst=some d->d<X.n)(h:Inv X ops iv L β a w F C I M p cp hn gy)(az:ops[q]?=some o)(kV:p.testBit q=false)(bl:∀ e,mw ops q e->L e)
 {x:dD} {C':dM} (ab:eO β x v) (ao:cH X β a w' (λ_=>.mT) C' I' M')
  (hm:∀ i gj eo,ku L p i->ops[i]?=some gj->p1 gj.op=true->(i,eo)∈cp->(∀ s,eo=s+1->C' s=C s)/\(eo=0->∀ b o,il I (vu (iv i) M) b o->il I' (vu (iv i) M') b o)) :
  Inv X ops iv (λi=>L i\/i=q) β (a.put o.dst v) w' (put o.dst x F) C' I' M' (p ||| 2^q) cp hn gy:=by
 have p5:∀ {i},ku (λi=>L i\/i=q) (p ||| 2^q) i->ku L p i:=λhi=>⟨(my.1 hi.1).resolve_right (λe=>hi.2 (.inr e)),λe=>hi.2 (.inl e)⟩;have xb:∀ {i},ku L p i->ku (λi=>L i\/i=q) (p ||| 2^q) i:=fun {i} hi=>⟨my.2 (.inl hi.1),λe=>e.elim hi.2 (λe=>by
  subst e;have:=hi.1;rw[kV]at this;cases this)⟩
 refine⟨ao.put fv (x:=.mT) trivial |> λh=>h.refine λ_=>trivial,?_,?_,?_,?_,?_⟩
 ·rintro i (hi | rfl)
  ·exact my.2 (.inl (h.sub i hi))
  ·exact my.2 (.inr rfl)
 ·rintro j e (ak | rfl) he
  ·exact .inl (h.vx j e ak he)
  ·exact .inl (bl e he)
 ·intro j e ak he;rcases my.1 ak with ak | rfl
  ·exact my.2 (.inl (h.q4 j e ak he))
  ·exact my.2 (.inl (h.sub e (bl e he)))
 ·intro t au;by_cases ah:o.dst=some t
  ·have aO:t<a.tmps.size:=by rw[h.rel.size];exact fv t ah
   rw[ah,L9 aO,put_eq];exact ab
  ·rw[Ir ah,Iq ah];exact h.T t λi hi=>au i (xb hi)
 ·intro i hi;have dw:=p5 hi;obtain⟨gj,hT,s7⟩:=h.yv i dw;have o2:i≠q:=λe=>by subst e;have:=dw.1;rw[kV]at this;cases this
  refine⟨gj,hT,⟨s7.quiet,?_,λt au j ak=>s7.b t au j (p5 ak),?_,?_⟩⟩;·intro d ah;rw[Iq (dr.L6 i q gj o d o2 hT az ah)];exact s7.hl d ah
  ·intro t au ea;have ah:o.dst≠some t:=λah=>by
    rcases dr.ord q i o gj t (sP o2) az hT ah au with ag | ag;·have:=ag.mem h.q4 (λe he=>h.q4 i e dw.1 he);rw[kV]at this;cases this
    ·exact dw.2 (ag.mem h.vx bl)
   rw[Ir ah];exact s7.a t au λj ak=>ea j (xb ak)
  ·refine s7.r.imp (λ⟨U,aa,ae⟩=>⟨U,Sm aa (λ_ _=>rfl) λt x aw=>?_,ae⟩) id;have aR:=ae t x aw;have bn:=hm i gj _ dw hT (by rw[aw];rfl) aR;refine⟨λs off e=>?_,λbu=>bn.2 ?_⟩
   ·exact bn.1 s (by rw[e];rfl)
   ·generalize dk (gy i) x=abX at bu;cases abX with
    |ref s off=>exact(bu s off rfl).elim| _=>rfl
def Am(X:cW)(ops:List Oper)(iv:Nat->Bool)(K:gg)(L:Nat->Prop)(a:Act)(w:World):Prop:=
 ∃ β F C I M p cp hn gy n,Inv X ops iv L β a w F C I M p cp hn gy/\q1 X ops iv n p cp F C I M K
def E9{k:Bool}{i:Nat}:i∈p2 ops p k ↔ ∃ o,ops[i]?=some o/\p.testBit i=false/\Ct o.op=k/\(∀ e,mw ops i e->p.testBit e=true):=by
 unfold p2;rw[yq,j2];have E':∀ {o},ops[i]?=some o->(E0 o p=true ↔ ∀ e,mw ops i e->p.testBit e=true):=fun {o} ar=>by
  unfold E0;rw[g0];constructor;·rintro h e⟨o',kt,kW,q3,ag,rfl⟩;rw[ar]at kW;cases kW;have:=h kt (by simpa using q3);rw[ag]at this;simpa using this
  ·intro h kt q3;cases ag:Region.binds .any kt with
   |false=>simp| true=>simp[h kt.on ⟨o,kt,ar,by simpa using q3,ag,rfl⟩]
 constructor
 ·rintro⟨aO,h⟩;cases ar:ops[i]? with
  |none=>rw[ar]at h;cases h| some o=>rw[ar]at h;simp only[cA,pY,beq_iff_eq]at h;exact⟨o,rfl,h.1,h.2.1,(E' ar).1 h.2.2⟩
 ·rintro⟨o,ar,U,aa,ae⟩;refine⟨(iY.1 ar).1,?_⟩;rw[ar];simp only[U,aa,(E' ar).2 ae,Ah,Cs,Bool.and_self]
def Sv{P:Nat->Prop}:∀ {l:List Nat},L2 P l->∀ i∈l,P i
 |[],_,i,hi=>by cases hi
 |[j],h,i,hi=>by rw[iu]at hi;subst hi;exact h
 |j::k::l,h,i,hi=>by
  rcases et.1 hi with rfl | hi;·exact h.1
  ·exact Sv (l:=k::l) h.2 i hi
def abY(i:Nat)(op:Op)(ρ:Operand->dD)(cp:List (Nat×Nat)):∀ s∈cp,s∈E2 i op ρ cp:=λs ap=>by
 unfold E2;split
 ·exact .tail _ ap
 ·exact ap
def abZ{i:Nat}{cp:List (Nat×Nat)}:∀ t x,op=.load t x->(i,Il (ρ x))∈E2 i op ρ cp:=λt x aC=>by subst aC;unfold E2;exact .head _
def Am.advance(dr:vw ops){K:gg}:∀ (n:Nat) {p cp F hn gy},Inv X ops iv L β a w F C I M p cp hn gy->q1 X ops iv n p cp F C I M K -> ∃ p cp F hn gy n,Inv X ops iv L β a w F C I M p cp hn gy/\p2 ops p true=[]/\q1 X ops iv (n+1) p cp F C I M K
 |0,_,_,_,_,_,_,ai=>ai.elim
 |n+1,p,cp,F,hn,gy,bx,ai=>by
  cases ao:p2 ops p true with
  |nil=>exact⟨p,cp,F,hn,gy,n,bx,ao,ai⟩
  |cons q l=>
   have gU:q∈p2 ops p true:=by rw[ao];simp
   obtain⟨o,az,kV,Is,ys⟩:=E9.1 gU;have ny:=ai;unfold q1 at ny;rw[ao]at ny;simp only[az]at ny;obtain⟨lE,s6,⟨fw,U⟩ | ⟨E8,U⟩⟩:=Su ny;·obtain⟨x,aa,ae⟩:=abH (abD U);exact Am.advance dr n (bx.record dr az kV ys Is s6 (abY _ _ _ _) (.inl ⟨fw,ae,abZ⟩)) aa
   ·exact Am.advance dr n (bx.record dr az kV ys Is s6 (λ_ h=>h) (.inr ⟨E8,rfl⟩)) U
def mem_ready{i:Nat}(cr:dy.size=ops.length):i∈Region.ready .any ops.toArray dy ↔ ∃ o,ops[i]?=some o/\¬ dy.getD i false=true/\∀ e,mw ops i e->dy.getD e false=true:=by
 unfold Region.ready;rw[yq,j2];simp only[qY,Af,cA,pY];have E':∀ {o},ops[i]?=some o->((o.after.all λe=>!Region.binds .any e||dy.getD e.on false)=true ↔ ∀ e,mw ops i e->dy.getD e false=true):=fun {o} ar=>by
  rw[Array.all_eq_true_iff_forall_mem];constructor;·rintro h e⟨o',kt,kW,q3,ag,rfl⟩;rw[ar]at kW;cases kW;have:=h kt q3;rw[ag]at this;simpa using this
  ·intro h kt q3;cases ag:Region.binds .any kt with
   |false=>simp| true=>simp[h kt.on ⟨o,kt,ar,q3,ag,rfl⟩]
 have Sw:i<ops.length->(dy.getD i true=false ↔ ¬ dy.getD i false=true):=λhi=>by
  have:i<dy.size:=by omega
  simp[Array.getD,this]
 constructor
 ·rintro⟨aO,U,aa⟩;cases ar:ops[i]? with
  |none=>rw[ar]at aa;cases aa| some o=>rw[ar]at aa;exact⟨o,rfl,(Sw aO).1 U,(E' ar).1 aa⟩
 ·rintro⟨o,ar,U,aa⟩;have aO:=(iY.1 ar).1;refine⟨aO,(Sw aO).2 U,?_⟩;rw[ar];exact(E' ar).2 aa
def Sx{i:Nat}(hi:i<dy.size):(λj=>(dy.setIfInBounds i true).getD j false=true)=λj=>dy.getD j false=true\/j=i:=by
 funext j;simp only[oS,Cb,eq_iff_iff];by_cases e:i=j
 ·subst e;simp[hi]
 ·simp only[cG e];constructor
  ·exact .inl
  ·rintro(h | h)
   ·exact h
   ·exact(e h.symm).elim
def todo(ops:List Oper)(dy:Array Bool):Nat:=((List.range ops.length).filter λi=>!dy.getD i false).length
def Iu{i:Nat}(hi:i<ops.length)(cr:dy.size=ops.length)(an:¬ dy.getD i false=true):todo ops (dy.setIfInBounds i true)<todo ops dy:=by
 unfold todo;have key:∀ l:List Nat,l.Nodup->i∈l->((l.filter λj=>!(dy.setIfInBounds i true).getD j false).length<(l.filter λj=>!dy.getD j false).length):=by
  have same:∀ j,j≠i->(dy.setIfInBounds i true).getD j false=dy.getD j false:=λj ak=>by simp only[oS,Cb,cG (sP ak)]
  have self:(dy.setIfInBounds i true).getD i false=true:=by
   have:i<dy.size:=by omega
   simp[oS,Cb,this]
  have o3:dy.getD i false=false:=by simpa using an
  intro l
  induction l with
  |nil=>intro _ h;cases h
  |cons j l bc=>
   intro cq hm;rw[mo]at cq;by_cases e:j=i
   ·subst e;have:l.filter (λk=>!(dy.setIfInBounds j true).getD k false)=l.filter (λk=>!dy.getD k false):=
     Ie λk af=>by rw[same k (λe=>cq.1 (e ▸ af))]
    simp only[yn,self,o3,this];simp
   ·have jK:i∈l:=by
     rcases et.1 hm with h | h;·exact(e h.symm).elim
     ·exact h
    have:=bc cq.2 jK;simp only[yn,same j e];split;·simp only[dL];omega
    ·exact this
 exact key _ List.nodup_range (j2.2 hi)
def ab0(aP:cY X.P X.E)(dr:vw ops)(fv:∀ o∈ops,∀ d,o.dst=some d->d<X.n){K:gg}(n8:∀ a w,Sat X K a w->Q .normal a w):∀ (eI:Nat) (dy:Array Bool) (a:Act) (w:World),
  dy.size=ops.length->todo ops dy<=eI->Am X ops iv K (λi=>dy.getD i false=true) a w->wpAnyIn (gR X) 0 X.P .any ops.toArray Q eI dy a w:=by
 intro eI
 induction eI with
 |zero=>
  rintro dy a w cr aF⟨β,F,C,I,M,p,cp,hn,gy,n,bx,ai⟩;have ob:Region.ready .any ops.toArray dy=[]:=by
   cases ao:Region.ready .any ops.toArray dy with
   |nil=>rfl| cons i l=>obtain⟨o,ar,an,_⟩:=(mem_ready cr).1 (by rw[ao];simp:i∈Region.ready .any ops.toArray dy);have:=Iu (iY.1 ar).1 cr an;omega
  refine⟨ob,?_⟩;obtain⟨p,cp,F,hn,gy,n,bx,h5,ai⟩:=Am.advance dr n bx ai;have Fa:∀ i,p.testBit i=true->dy.getD i false=true:=λi=>by
   induction i using Nat.strongRecOn with
   |ind i bc=>intro aK;refine Co λan=>?_;obtain⟨o,ar,_⟩:=bx.yv i ⟨aK,an⟩;have:i∈Region.ready .any ops.toArray dy:=(mem_ready cr).2 ⟨o,ar,an,λe he=>bc e (dr.lt i e he) (bx.q4 i e aK he)⟩;rw[ob]at this;cases this
  have mW:p2 ops p false=[]:=by
   cases ao:p2 ops p false with
   |nil=>rfl| cons i l=>obtain⟨o,ar,aK,_,ah⟩:=E9.1 (by rw[ao];simp:i∈p2 ops p false);have:i∈Region.ready .any ops.toArray dy:=(mem_ready cr).2 ⟨o,ar,λbC=>(by have eh:=bx.sub i bC;rw[aK]at eh;exact Bool.noConfusion eh),λe he=>Fa e (ah e he)⟩;rw[ob]at this;cases this
  unfold q1 at ai;rw[h5,mW]at ai;exact n8 _ _ ⟨F,C,I,M,⟨β,bx.rel.refine λt=>bx.T t λi hi=>(hi.2 (Fa i hi.1)).elim⟩,ai⟩
 |succ eI bc=>
  rintro dy a w cr aF⟨β,F,C,I,M,p,cp,hn,gy,n,bx,ai⟩;obtain⟨p,cp,F,hn,gy,n,bx,h5,ai⟩:=Am.advance dr n bx ai;refine⟨λob=>?_,λq az=>?_⟩
  ·have Fa:∀ i,p.testBit i=true->dy.getD i false=true:=λi=>by
    induction i using Nat.strongRecOn with
    |ind i bc=>intro aK;refine Co λan=>?_;obtain⟨o,ar,_⟩:=bx.yv i ⟨aK,an⟩;have:i∈Region.ready .any ops.toArray dy:=(mem_ready cr).2 ⟨o,ar,an,λe he=>bc e (dr.lt i e he) (bx.q4 i e aK he)⟩;rw[ob]at this;cases this
   have mW:p2 ops p false=[]:=by
    cases ao:p2 ops p false with
    |nil=>rfl| cons i l=>obtain⟨o,ar,aK,_,ah⟩:=E9.1 (by rw[ao];simp:i∈p2 ops p false);have:i∈Region.ready .any ops.toArray dy:=(mem_ready cr).2 ⟨o,ar,λbC=>(by have eh:=bx.sub i bC;rw[aK]at eh;exact Bool.noConfusion eh),λe he=>Fa e (ah e he)⟩;rw[ob]at this;cases this
   unfold q1 at ai;rw[h5,mW]at ai;exact n8 _ _ ⟨F,C,I,M,⟨β,bx.rel.refine λt=>bx.T t λi hi=>(hi.2 (Fa i hi.1)).elim⟩,ai⟩
  ·obtain⟨o,ar,an,ah⟩:=(mem_ready cr).1 az;have aO:=(iY.1 ar).1;have oc:=fv o (Ag ar);have mz:=Sx (dy:=dy) (i:=q) (by omega);have next:∀ bX w',Am X ops iv K (λi=>dy.getD i false=true\/i=q) bX w'->wpAnyIn (gR X) 0 X.P .any ops.toArray Q eI (dy.setIfInBounds q true) bX w':=λbX w' h=>by refine bc _ bX w' (by simpa using cr) ?_ (by rw[mz];exact h);have:=Iu aO cr an;omega
   cases kV:p.testBit q with
   |true=>
    exact bx.exec aP dr oc ar ⟨kV,an⟩ ah λbX h=>next bX w ⟨β,F,C,I,M,p,cp,hn,gy,n+1,h,ai⟩
   |false=>
    have Mb:∀ e,mw ops q e->p.testBit e=true:=λe he=>bx.sub e (ah e he);have ab1:Ct o.op=false:=by
     cases q6:Ct o.op with
     |false=>rfl| true=>have:q∈p2 ops p true:=E9.2 ⟨o,ar,kV,q6,Mb⟩;rw[h5]at this;cases this
    have gU:q∈p2 ops p false:=E9.2 ⟨o,ar,kV,ab1,Mb⟩;unfold q1 at ai;rw[h5]at ai;simp only at ai;split at ai;·rename_i mW;rw[mW]at gU;cases gU
    ·rename_i i0 gi mW;rw[mW]at gU;have ag:=Sv ai q gU;simp only[ar]at ag;obtain⟨lE,s6,ag⟩:=Su ag;have dF:=bx.refine s6;have jL:=dF.abQ dr ar kV ah;have E7:ops.toArray[q]?=some o:=by simpa using ar
     unfold wpOpIn;simp only[E7];rcases ag with⟨fw,ag⟩ | ⟨E8,ag⟩
     ·rw[Ss fw jL,dd rfl];cases Mc:Sd ((kT ops).getD q 0) p with
      |true=>
       rw[Mc]at ag;simp only[vt,bg]at ag;have eT:∀ i,p.testBit i=true->dy.getD i false=true:=λi hi=>by
        have U:=cM Mc;have aa:(p &&& (kT ops).getD q 0).testBit i=true:=by rw[U];exact hi
        rw[L0,cA]at aa;exact(yt aa.2).mem bx.vx ah
       have a8:Rel X a w lE C I M:=⟨β,dF.rel.refine λt=>dF.T t λi hi=>(hi.2 (eT i hi.1)).elim⟩;refine sO (λbX w'=>?_) (Ck aP oc a8 ag);rintro⟨en,C',I',M',⟨n4,gh⟩,af⟩;have ab2:∀ i,¬ ku (λi=>dy.getD i false=true\/i=q) (p ||| 2^q) i:=λi hi=>by
        rcases my.1 hi.1 with U | U;·exact hi.2 (.inl (eT i U))
        ·exact hi.2 (.inr U)
       refine next bX w' ⟨n4,en,C',I',M',p ||| 2^q,cp,hn,gy,n,⟨gh.refine λ_=>trivial,?_,?_,?_,λt _=>gh.aj t,λi hi=>(ab2 i hi).elim⟩,af⟩
       ·rintro i (hi | rfl)
        ·exact my.2 (.inl (bx.sub i hi))
        ·exact my.2 (.inr rfl)
       ·rintro j e (ak | rfl) he
        ·exact .inl (bx.vx j e ak he)
        ·exact .inl (ah e he)
       ·intro j e ak he;rcases my.1 ak with ak | rfl
        ·exact my.2 (.inl (bx.q4 j e ak he))
        ·exact my.2 (.inl (Mb e he))
      |false=>
       rw[Mc]at ag;let G:Fr:=λt=>if t∈looks ops o then lE t else .mT
       have hy:∀ t,eO β (G t) (a.tmps.getD t undef):=λt=>by
        by_cases au:t∈looks ops o;·simp only[G,dd au];exact jL t au
        ·simp only[G,cG au];trivial
       have Ma:∀ y∈o.op.operands,dk G y=dk lE y:=λy aG=>by
        cases y with
        |tmp t=>simp only[dk,G,dd (L8 aG)]| const v=>cases v<;>rfl
        |global g=>rfl| func f=>rfl
       refine sO (λbX w'=>?_) (abK aP (dF.rel.refine hy) Ma ag);rintro⟨v,x,C',I',M',rfl,ab,gh,af,hm⟩;refine next _ _ ⟨β,_,C',I',M',p ||| 2^q,cp,hn,gy,n,dF.step dr oc ar kV ah ab (gh.refine λ_=>trivial) ?_,af⟩
       rcases hm with⟨Ij,vz⟩ | ⟨rfl,bk,eg⟩
       rotate_left
       ·exact λ_ _ _ _ _ _ _=>⟨λ_ _=>rfl,λ_=>Sh eg bk⟩
       have Cu:∀ {i},ku (λi=>dy.getD i false=true) p i->((kT ops).getD q 0).testBit i=true->False:=λhi ag=>hi.2 ((yt ag).mem bx.vx ah);intro i gj eo hi hT eS gU;have ea:∀ {s:Nat},Ak ((kT ops).getD q 0) s cp=true->eo≠s:=fun {s} h e=>by
        rcases Se h gU with U | U;·exact Cu hi U
        ·exact U e
       rcases(r4 _ _).mp Ij with ab3 | ab4
       ·have U:=g0.1 ab3 i (j2.2 (iY.1 hT).1);rw[hi.1,hT]at U;simp only[nE,tZ,r4,pY]at U;rcases U with U | U
        ·exact(Cu hi U).elim
        ·rw[U]at eS;cases eS
       rcases(r4 _ _).mp ab4 with Cv | xc
       ·unfold Sg at Cv;split at Cv
        ·rename_i t0 vA Sy cd;split at Cv
         ·rename_i fY anz aC;obtain⟨⟨db,eB⟩,cR⟩:=vz.1 _ _ _ _ _ cd aC;exact⟨λcB e=>db cB (λay=>ea Cv (by rw[e,ay])),λ_=>Sh cR eB⟩
         ·cases Cv
        ·cases Cv
       rcases(r4 _ _).mp xc with xc | xd
       ·unfold Sf at xc;split at xc
        ·rename_i t0 vA Sy cd;split at xc
         ·rename_i ab5 aC;exact⟨λ_ _=>by rw[(vz.2.1 _ _ _ _ cd aC).1],λe=>(ea xc e).elim⟩
         ·cases xc
        ·rename_i cd;exact⟨λ_ _=>by rw[(vz.2.2 (λt x y e=>by rw[cd]at e;cases e)).1],λe=>(ea xc e).elim⟩
        ·cases xc
       unfold Sk at xd;rw[cA]at xd;obtain⟨ab6,xd⟩:=xd;have ab7:iv i=true:=by
        have U:=g0.1 ab6 i (j2.2 (iY.1 hT).1);rw[hi.1,hT]at U;simp only[nE,tZ,r4,pY]at U;rcases U with U | U | U;·exact(Cu hi U).elim
        ·exact U
        ·rw[U]at eS;cases eS
       have bk:C'=C/\∀ b o,I b=some o->I' b=some o:=by
        unfold Sj at xd;split at xd
        ·rename_i t0 vA Sy cd;split at xd
         ·rename_i ab5 aC;exact vz.2.1 _ _ _ _ cd aC
         ·cases xd
        ·rename_i cd;exact vz.2.2 (λt x y e=>by rw[cd]at e;cases e)
        ·rename_i cd;exact vz.2.2 (λt x y e=>by rw[cd]at e;cases e)
        ·cases xd
       exact⟨λ_ _=>by rw[bk.1],λ_=>by rw[ab7];exact abC bk.2⟩
     ·rw[St E8 jL];simp only[j0,kO];refine⟨λ_ _=>trivial,next _ _ ⟨β,_,C,I,M,p ||| 2^q,cp,hn,gy,n,dF.step dr oc ar kV ah (x:=.val undef) rfl dF.rel (λ_ _ _ _ _ _ _=>⟨λ_ _=>rfl,λ_ _ _ h=>h⟩),ag⟩⟩
end
def cU.Sz{X:cW}{id:Nat}{F:Fr}{I:aH}{K:lA}(aP:cY X.P X.E)(hm:X.P.follows .mixedOrders=true)(aN:E3 A.toList=true)(an:Ad X.n A=true)
  {iv:Nat->Bool} (h:q1 X A.toList iv (A.size+1) 0 [] F C I M (K .normal)):cU X (.region id A true) F C I M K:=by
 refine⟨λa w ⟨β,a8⟩=>wpIn_region_any hm ?_⟩;have vB:cH X β a { w with drawn:=w.drawn+1 } F C I M:=a8.world rfl;have bQ:∀ i,(Array.replicate A.size false).getD i false=false:=λi=>by
  by_cases hi:i<A.size<;>simp[oS,hi]
 have ub:∀ {i},¬ (Array.replicate A.size false).getD i false=true:=fun {i}=>by rw[bQ];simp
 have key:=ab0 (K:=K .normal) (Q:=mu X K) aP (Sr aN) (H3 an) (λ_ _ h=>h) A.size (Array.replicate A.size false) a { w with drawn:=w.drawn+1 } (by simp) ?_ ⟨β,F,C,I,M,0,[],λ_=>.mT,λ_ _=>.mT,A.size+1,⟨vB.refine λ_=>trivial,λi hi=>(ub hi).elim,λj e ak=>(ub ak).elim,λj e ak=>by simp at ak,λt _=>vB.aj t,λi hi=>by simp[ku]at hi⟩,h⟩
 ·simpa using key
 ·unfold todo;refine jD (Cq _ _) (by simp)
def cU.draw{X:cW}{id:Nat}{F:Fr}{I:aH}{K:lA}(aP:cY X.P X.E)(hm:X.P.follows .mixedOrders=true)(aN:E3 A.toList=true)(an:Ad X.n A=true)(h:q1 X A.toList (λ_=>false) (A.size+1) 0 [] F C I M (K .normal)):cU X (.region id A true) F C I M K:=.Sz aP hm aN an h
def cU.ab8{X:cW}{id:Nat}{F:Fr}{I:aH}{K:lA}(hl:Nat->Bool)(aP:cY X.P X.E)(hm:X.P.follows .mixedOrders=true)(aN:E3 A.toList=true)(an:Ad X.n A=true)(h:q1 X A.toList hl (A.size+1) 0 [] F C I M (K .normal)):cU X (.region id A true) F C I M K:=.Sz aP hm aN an h
def SA{r1:Fence}{n:Nat}{a:Act}{c:Code}(J:Nat->Nat->Act->World->Prop)
  (first:c.wpIn r1 n P (λe bX w'=>match e with
   | .goto l=>∃ m,J l m bX w'| e=>Q e bX w') a w)
  (pass:∀ l m a w,J l m a w->∃ a6,findLabel c l=some a6/\a6.wpIn r1 n P (λe bX w'=>match e with
   | .goto dg=>∃ m',m'<m/\J dg m' bX w'| e=>Q e bX w') a w):(Code.scope c).wpIn r1 n P Q a w:=by
 intro b k cs kR ag ao;have fY:step P (lone (b.atR a (.code (.scope c)::k)) cs w)=.next (lone (b.atR a (.code c::.inScope c::k)) cs w):=
  step_lone_go (by simp[stepG,stepG.exec,Frame.atR])
 have s1:∀ a w,step P (lone (b.atR a (.inScope c::k)) cs w)=.next (lone (b.atR a k) cs w):=λa w=>
  step_lone_go (by simp[stepG,stepG.exec,Frame.atR])
 have ab:∀ id,exitTo id (.inScope c::k)=exitTo id k:=λid=>by simp[exitTo]
 have fin:∀ {m:Machine} {e:Exit} {jH:Act} {jI:World},(∀ l,e≠.goto l)->ArrivesIn (Machine.fenced P r1) P m b (.inScope c::k) cs e jH jI->ArrivesIn (Machine.fenced P r1) P m b k cs e jH jI:=by
  intro m e jH jI bu iI;cases e with
  |normal=>exact StepsIn.trans iI (.one (fenced_calm ag ao rfl) (s1 _ _))| exit id=>exact⟨λc7 af=>iI.1 c7 (by rw[ab];exact af),λgh af=>iI.2 gh (by rw[ab];exact af)⟩| goto l=>exact(bu l rfl).elim| ret=>exact iI| panic s3=>exact iI| outgrown=>exact iI
 have key:∀ m l a w,J l m a w->∀ a6,findLabel c l=some a6->∃ e bX w',Q e bX w'/\ArrivesIn (Machine.fenced P r1) P (lone (b.atR a (.code a6::.inScope c::k)) cs w) b k cs e bX w':=by
  intro m
  induction m using Nat.strongRecOn with
  |_ m bc=>
   intro l a w cm a6 vC;obtain⟨Cw,aF,hw⟩:=pass l m a w cm;rw[vC]at aF;cases aF;obtain⟨e,jH,jI,az,iI⟩:=hw b (.inScope c::k) cs kR ag ao;cases e with
   |goto dg=>
    obtain⟨m',aO,Fb⟩:=az;obtain⟨Cw,yw,_⟩:=pass dg m' jH jI Fb;have aB:gotoIn dg (.inScope c::k)=some (.code Cw::.inScope c::k):=by simp[gotoIn,yw]
    obtain⟨EL,EM,EN,EO,EP⟩:=bc m' aO dg jH jI Fb Cw yw;exact⟨EL,EM,EN,EO,.of_steps (iI.1 _ aB) EP⟩
   |normal=>exact⟨_,jH,jI,az,fin (by simp) iI⟩| exit id=>exact⟨_,jH,jI,az,fin (by simp) iI⟩| ret=>exact⟨_,jH,jI,az,fin (by simp) iI⟩| panic s3=>exact⟨_,jH,jI,az,fin (by simp) iI⟩| outgrown=>exact⟨_,jH,jI,az,fin (by simp) iI⟩
 have aq:(lone (b.atR a (.code (.scope c)::k)) cs w).fenced P r1:=fenced_calm ag ao rfl;obtain⟨e,jH,jI,az,iI⟩:=first b (.inScope c::k) cs kR ag ao
 cases e with
 |goto dg=>
  obtain⟨m',Fb⟩:=az;obtain⟨Cw,yw,_⟩:=pass dg m' jH jI Fb;have aB:gotoIn dg (.inScope c::k)=some (.code Cw::.inScope c::k):=by simp[gotoIn,yw]
  obtain⟨EL,EM,EN,EO,EP⟩:=key m' dg jH jI Fb Cw yw;exact⟨EL,EM,EN,EO,.of_steps (.head aq fY (iI.1 _ aB)) EP⟩
 |normal=>exact⟨_,jH,jI,az,.of_steps (.one aq fY) (fin (by simp) iI)⟩| exit id=>exact⟨_,jH,jI,az,.of_steps (.one aq fY) (fin (by simp) iI)⟩| ret=>exact⟨_,jH,jI,az,.of_steps (.one aq fY) (fin (by simp) iI)⟩| panic s3=>exact⟨_,jH,jI,az,.of_steps (.one aq fY) (fin (by simp) iI)⟩| outgrown=>exact⟨_,jH,jI,az,.of_steps (.one aq fY) (fin (by simp) iI)⟩
def Md(N:Nat->gg)(K:lA):lA
 | .goto l=>N l| e=>K e
def cU.scope{X:cW}{c:Code}{F:Fr}{I:aH}{K:lA}(aP:cY X.P X.E)(a5:codeOk X.n c=true){ι:Type}(aA:ι->Ab)(vD:ι->Nat)(inv:ι->Prop)(μ:ι->Nat)(a6:Nat->Code)(vC:∀ i,inv i->findLabel c (vD i)=some (a6 (vD i))/\codeOk X.n (a6 (vD i))=true)(first:V X c F C I M (Md (λl=>sZ X.b6 aA λj=>inv j/\vD j=l) K))(pass:∀ i,inv i->V X (a6 (vD i)) (sW (aA i).cc) (sX (aA i).cl) (aA i).ck (aA i).de (Md (λl=>sZ X.b6 aA λj=>(inv j/\vD j=l)/\μ j<μ i) K)) :
  cU X (.scope c) F C I M K:=by
 refine⟨λa w a8=>?_⟩;let J (l m:Nat) (a:Act) (w:World):Prop:=∃ i,inv i/\vD i=l/\μ i=m/\Rel X a w (sW (aA i).cc) (sX (aA i).cl) (aA i).ck (aA i).de
 have yk:∀ {p:ι->Prop} {l:Nat} {a w},(∀ i,p i->inv i/\vD i=l)->Sat X (sZ X.b6 aA p) a w->∃ i,p i/\J l (μ i) a w:=by rintro p l a w aK⟨F,C,I,M,⟨β,ao⟩,⟨j,tW,hw,c6,eu⟩⟩;exact⟨j,tW,j,(aK j tW).1,(aK j tW).2,rfl,β,(ao.a0 c6 eu).ir hw⟩
 refine SA J (wpIn_mono (qW aP c a5 a8 first) ?_) ?_
 ·intro e a w h;cases e with
  |goto l=>obtain⟨j,ak,cm⟩:=yk (p:=λj=>inv j/\vD j=l) (l:=l) (λ_ h=>h) h;exact⟨_,cm⟩
  |_=>exact h
 ·rintro l m a w⟨i,hi,rfl,rfl,ao⟩;obtain⟨U,aa⟩:=vC i hi;refine⟨_,U,wpIn_mono (qW aP _ aa ao (pass i hi)) ?_⟩;intro e a w h;cases e with
  |goto dg=>obtain⟨j,ak,cm⟩:=yk (p:=λj=>(inv j/\vD j=dg)/\μ j<μ i) (l:=dg) (λ_ h=>h.1) h;exact⟨_,ak.2,cm⟩
  |_=>exact h
def Fc(P:Program)(l:Nat)(args:List Value)(I:aH)(M:List aE)(post:Value->aH->List aE->Prop):Prop:=
 ∀ w,ef I M w->∃ f tmps assign body,(Instr.yield l args.toArray).run P w=.ok (.round l f tmps assign body) w /\ RoundIn Fence.wide 0 P l f tmps assign body w λe w'=>∃ v I' M',e=.returned v/\post v I' M'/\ef I' M' w'/\Kept I M w I' M' w'
inductive Iv(P:Program)(l:Nat)(args:List Value)(I:aH)(M:List aE)(K:Value->aH->List aE->Prop):Prop
 |mk(dE Mr:List aE)(post:Value->aH->List aE->Prop)(bb:M.Perm (dE++Mr))(ap:Fc P l args I dE post)(k:∀ v I' M',(∀ b o,I b=some o->I' b=some o)->post v I' M'->K v I' (M'++Mr))
def bp.yield{X:cW}{o:Oper}{F:Fr}{I:aH}{K:gg}{args:Array Operand}{ts:Array TypeId}{l:Nat}(ar:o.op=.call { callee:=.value f,args,argTypes:=ts })(ah:∀ d,o.dst=some d->d<X.n)(aF:bw F f=.val (.func (.yield l) #[] #[]))(im:mq F args.toList=some vs)
  (h:Iv X.P l vs I M λv I' M'=>K (put o.dst (.val v) F) C I' M'):bp X o F C I M K:=by
 refine⟨λa w Q ⟨β,a8⟩=>?_⟩;obtain⟨dE,Mr,post,bb,ap,af⟩:=h;obtain⟨fn,tmps,assign,body,aG,ao⟩:=ap w (a8.holds.part bb);have aC:=sU a8.aj im;have eb:args.map a.eval=vs.toArray:=by apply gG;simpa using aC
 have ay:=dq a8.aj aF;obtain⟨dst,op,ty,pos,after,guard⟩:=o;simp only at ar;subst ar;refine⟨λ_ _=>trivial,?_⟩;rw[HO _ _ _ (by simp)];have fw:(execOp a.eval ⟨dst,.call { callee:=.value f,args,argTypes:=ts },ty,pos,after,guard⟩).run X.P w=.ok (.round l fn tmps assign body) w:=by simp only[execOp,resolve,ay,Deferred.ofValue,ca,c5,bR,eb,invoke];simpa using aG
 rw[fw,Oper.uponIn_round];refine⟨(λh=>by cases h),?_⟩;have gh:RoundIn (gR X) (0-1) X.P l fn tmps assign body w _:=ao;refine gh.mono ?_;rintro e w'⟨v,I',M',rfl,aK,qU,fl⟩;exact⟨_,_,_,_,⟨β,(a8.after bb qU fl).put (x:=.val v) ah rfl⟩,af v I' M' fl.le aK⟩
def Iter(P:Program)(g:Nat)(cap:List Value)(I:aH)(o4:List (List Value)):Prop:=
 ∀ (l:Nat) (R:Nat->aH->List aE->Prop) (uc:aH->List aE->Prop),(∀ k (af:k<o4.length) I' M',(∀ b o,I b=some o->I' b=some o)->R k I' M'->Fc P l o4[k] I' M' λv Fe mA=>(v=.bool true/\R (k+1) Fe mA)\/(v=.bool false/\uc Fe mA)) -> ∀ dN M0,(∀ b o,I b=some o->dN b=some o)->R 0 dN M0->wZ P g (.func (.yield l) #[] #[]::cap) dN M0 λ_ I' M'=>R o4.length I' M'\/uc I' M'
def Ff:List Nat->List Value->Fr->Fr
 |t::ps,v::vs,F=>Ff ps vs (gH F t (.val v))| _,_,F=>F
def ab9(b6:List Nat)(N:aH->List aE->Prop)(uc:sY->aH->List aE->Prop):lA:=λex F C I M=>match ex with
 | .normal=>vp b6 I M N| ex=>vp b6 I M (uc ex)
def Cx:sY->Option Code
 | .normal=>none| .exit id=>some (.exit id)| .goto l=>some (.goto l)| .ret=>some .ret
section
variable{X:cW}{β:Nat->Nat}{a:Act}{w:World}{F:Fr}{C:dM}{I:aH}{M:List aE}
def SB:∀ (ps:List Nat) (vs:List Value) (F:Fr) (tmps:Array Value),(∀ t∈ps,t<tmps.size)->(∀ t,eO β (F t) (tmps.getD t undef)) ->
  let r:=(ps.zip vs).foldl (λ(tmps:Array Value) (p:Nat×Value)=>tmps.setIfInBounds p.1 p.2) tmps
  r.size=tmps.size/\∀ t,eO β (Ff ps vs F t) (r.getD t undef)
 |[],vs,F,tmps,_,h=>⟨rfl,h⟩| t::ps,[],F,tmps,_,h=>⟨rfl,h⟩
 |t::ps,v::vs,F,tmps,aK,h=>by
  have U:∀ s,eO β (gH F t (.val v) s) ((tmps.setIfInBounds t v).getD s undef):=λs=>by have:=LH (β:=β) (F:=F) (a:=⟨tmps,[]⟩) h (d:=t) (x:=.val v) (v:=v) (aK t (by simp)) rfl s;exact this
  have bc:=SB ps vs (gH F t (.val v)) (tmps.setIfInBounds t v) (λs ap=>by simpa using aK s (by simp[ap])) U;simp only[List.zip_cons_cons,Ez,Ff];exact⟨by simpa using bc.1,bc.2⟩
def cH.SC(h:cH X β a w F C I M):cH X β { a with defers:=w1 w.heap.size::a.defers } (w.alloc (.deferred (some []))) F C I M where
 size:=h.size
 defers:=by
  obtain⟨a2,U,aa,ae⟩:=h.defers;refine⟨w.heap.size::a2,by simp[U],?_,?_⟩;·rw[mo];refine⟨λhm=>?_,aa⟩;have:=(lv.1 (ae _ hm).av).1;omega
  ·intro r ao;rcases et.1 ao with rfl | ao
   ·exact⟨LF w _,h.sz,h.holds.rZ,h.holds.qT⟩
   ·exact(ae r ao).alloc _
 holds:=h.holds.alloc _
 aj:=h.aj
 cp s cs ap:=(h.cp s cs ap).alloc _
 inj:=h.inj
 hS:=h.hS
 ht:=h.ht
 own:=h.own
 c2:=LJ h.c2 h.sz _
 out:=h.out
 sz:=by have:=h.sz;simp;omega
def cH.Fg{n:Nat}{o o':Obj}(h:cH X β a w F C I (⟨n,o⟩::M)):cH X β a (w.putObj n o') F C I M:=by
 have fE:(⟨n,o⟩:aE)∈(⟨n,o⟩:aE)::M:=by simp
 have cq:=h.holds.cn;simp only[ek,mo]at cq;exact {
  size:=h.size
  defers:=h.defers.mono λr ao=>by have bu:n≠r:=ao.eQ _ fE;refine { ao with av:=?_,eQ:=λx ab=>ao.eQ x (by simp[ab]) };rw[mS (sP bu)];exact ao.av
  holds:={
   i:=λb o jm=>by rw[mS (λe=>by have:=h.holds.d _ fE;simp only at this;rw[e,this]at jm;cases jm)];exact h.holds.i b o jm
   m:=λx ab=>by rw[mS (λe=>cq.1 (dp.2 ⟨x,ab,e⟩))];exact h.holds.m x (by simp[ab])
   d:=λx ab=>h.holds.d x (by simp[ab])
   cn:=cq.2 }
  aj:=h.aj
  cp:=λs cs ap=>by have ag:=h.cp s cs ap;have bu:n≠β s:=ag.eQ _ fE;obtain⟨T,bS⟩:=ag.av;refine { ag with av:=⟨T,?_⟩,eQ:=λx ab=>ag.eQ x (by simp[ab]) };rw[mS (sP bu)];exact bS
  inj:=h.inj
  hS:=h.hS
  ht:=h.ht
  own:=λx ab=>h.own x (by simp[ab])
  c2:=λb ag aF=>by
   rw[mS (λe=>by
    rcases h.own _ fE with U | U;·simp only at U;exact aF (e ▸ U)
    ·simp only at U;omega)]
   exact h.c2 b ag aF
  out:=h.out.trans (HV _ _ _)
  sz:=by have:=h.sz;simpa using this }
def cU.range{K:lA}{ps:Array Nat}{fm body:Code}{cap:Array Value}{o4:List (List Value)}(aP:cY X.P X.E)(kR:X.ro=none)(a5:(codeOk X.n fm&&(codeOk X.n body&&ps.toList.all (λt=>Nat.blt t X.n)))=true)(aca:bw F f=.val (.func (.func g) #[] cap)){dm:aH}{M1:List aE}(Fh:h1 X.b6 I M dm M1)(Iw:Iter X.P g cap.toList dm o4)(bY:∀ vs∈o4,vs.length=ps.size)(R:Nat->aH->List aE->Prop)(uc:sY->aH->List aE->Prop)(start:R 0 dm M1)(round:∀ k (af:k<o4.length) I' M',(∀ b o,dm b=some o->I' b=some o)->R k I' M'->∀ l B aq mX,V ⟨X.P,X.E,X.gJ,X.n,B,aq,I',M'.map (·.num),some l⟩ fm (Ff ps.toList o4[k] F) (λ_=>none) I' M' (Aa (λF C I M=>V ⟨X.P,X.E,X.gJ,X.n,B,mX,I',M'.map (·.num),some l⟩ body F C I M (ab9 (M'.map (·.num)) (R (k+1)) uc)) (λ_ _ _ _ _=>False)))(done:∀ I' M',(∀ b o,dm b=some o->I' b=some o)->R o4.length I' M'->K .normal F C I' M')(stop:∀ ex I' M',(∀ b o,dm b=some o->I' b=some o)->uc ex I' M'->ex≠.normal/\K ex F C I' M') :
  cU X (.rangeFunc f ps fm body) F C I M K:=by
 refine⟨λa w ⟨β,lF⟩=>?_⟩;have a8:=lF.ir Fh;simp only[cA]at a5;obtain⟨yx,j5,An⟩:=a5;refine wpIn_rangeFunc λfn _=>?_;let ep (s:LoopState) (p5:Option Code):Loop:={ state:=s,pending:=p5,fn:=fn,tmps:=a.tmps,params:=ps,assign:=fm,body:=body,defers:=w.heap.size }
 let l:=w.heap.size+1
 let kX:World:=(w.alloc (.deferred (some []))).alloc (.loop (ep .ready none))
 have Ao:=a8.SC.nu (.loop (ep .ready none));have aw:(w.alloc (.deferred (some []))).heap.size=l:=by simp[l]
 rw[aw]at Ao;let Me (k:Nat) (I':aH) (M':List aE):Prop:=∃ eJ,M'=⟨l,.loop (ep .ready none)⟩::eJ/\R k I' eJ
 let SD (I':aH) (M':List aE):Prop:=∃ ex c eJ,Cx ex=some c/\M'=⟨l,.loop (ep .done (some c))⟩::eJ/\uc ex I' eJ
 have aG:∀ k (af:k<o4.length) I' M',(∀ b o,dm b=some o->I' b=some o)->Me k I' M'->Fc X.P l o4[k] I' M' λv Fe mA=>(v=.bool true/\Me (k+1) Fe mA)\/(v=.bool false/\SD Fe mA):=by
  rintro k af I' _ bk⟨eJ,rfl,acb⟩W gV;have Fi:W.heap[l]?=some (.loop (ep .ready none)):=gV.m ⟨l,.loop (ep .ready none)⟩ (by simp);have aO:l<W.heap.size:=(lv.1 Fi).1;have cq:=gV.cn;simp only[ek,mo]at cq;have SE:I' l=none:=gV.d ⟨l,.loop (ep .ready none)⟩ (by simp);refine⟨_,_,_,_,run_yield Fi (by simpa using bY _ (cZ af)),?_⟩;have Mf:((ep LoopState.ready none).params.zip o4[k].toArray).foldl (λtmps (x:Nat×Value)=>match x with | (t,a)=>tmps.setIfInBounds t a) (ep LoopState.ready none).tmps=(ps.toList.zip o4[k]).foldl (λ(tmps:Array Value) (p:Nat×Value)=>tmps.setIfInBounds p.1 p.2) a.tmps:=by rw[<-LA];simp[ep]
  have od:=SB (β:=β) ps.toList o4[k] F a.tmps (λt au=>by
   have:=g0.1 An t au;rw[a8.size];exact bN this) a8.aj
  rw[<-Mf]at od;refine roundIn_of_wpIn (F:=Fence.wide) (n:=0) trivial ?_;let vE:cW:=⟨X.P,X.E,X.gJ,X.n,W.heap.size,W,I',eJ.map (·.num),some l⟩
  let mX:=W.putObj l (.loop (ep .busy none))
  let Fj:cW:=⟨X.P,X.E,X.gJ,X.n,W.heap.size,mX,I',eJ.map (·.num),some l⟩
  have ai:=round k af I' eJ bk acb l W.heap.size W mX;have ER:cH vE β { tmps:=((ep LoopState.ready none).params.zip o4[k].toArray).foldl (λtmps (x:Nat×Value)=>match x with | (t,a)=>tmps.setIfInBounds t a) (ep LoopState.ready none).tmps,defers:=[] } W (Ff ps.toList o4[k] F) (λ_=>none) I' eJ:={
   size:=od.1.trans a8.size
   defers:=⟨[],rfl,zU,λr ao=>by cases ao⟩
   holds:=⟨gV.i,λx ab=>gV.m x (by simp[ab]),λx ab=>gV.d x (by simp[ab]),cq.2⟩
   aj:=od.2
   cp:=λs cs ap=>by cases ap
   inj:=λs cB U=>by simp at U
   hS:=λb o ag=>ag
   ht:=λb o ag=>.inl ag
   own:=λx ab=>.inl (dp.2 ⟨x,ab,rfl⟩)
   c2:=λb ag aF=>rfl
   out:=.refl _
   sz:=b1 _ }
  have H7:=qW (X:=vE) aP fm yx ⟨β,ER⟩ ai;refine wpIn_mono (Q:=mu vE _) H7 ?_;intro e cg iM ap;cases e with
  |exit id=>obtain⟨_,_,_,_,_,af⟩:=ap;exact af.elim
  |goto id=>obtain⟨_,_,_,_,_,af⟩:=ap;exact af.elim
  |ret=>obtain⟨_,_,_,_,_,af⟩:=ap;exact af.elim
  |panic s3=>exact ap.elim| outgrown=>exact ap.elim
  |normal=>
   obtain⟨lE,o5,eU,kY,⟨SF,h5⟩,w7⟩:=ap;have vF:iM.heap[l]?=some (.loop (ep .ready none)):=by rw[h5.c2 l aO cq.1];exact Fi
   refine⟨_,run_beginRound vF rfl,?_⟩;have acc:eU l=none:=by
    cases bx:eU l with
    |none=>rfl
    |some o=>
     rcases h5.ht _ _ bx with U | U;·rw[show vE.dN=I' from rfl,SE]at U;cases U
     ·exact absurd U (Nat.not_le.2 aO)
   have acd:∀ x∈kY,x.num≠l:=λx ab e=>by
    rcases h5.own x ab with U | U;·rw[e]at U;exact cq.1 U
    ·rw[e]at U;exact absurd U (Nat.not_le.2 aO)
   have mW:cH Fj SF cg (iM.putObj l (.loop (ep .busy none))) lE o5 eU kY:={
    size:=h5.size
    defers:=by obtain⟨a2,aV,aX,bq⟩:=h5.defers;refine⟨a2,aV,aX,λr hx=>?_⟩;have ao:=bq r hx;refine { av:=?_,a0:=ao.a0,jF:=ao.jF,eQ:=ao.eQ };rw[mS (λe=>by have U:=ao.av;rw[e,vF]at U;cases U)];exact ao.av
    holds:={
     i:=λb o jm=>by rw[mS (λe=>by rw[e,acc]at jm;cases jm)];exact h5.holds.i b o jm
     m:=λx ab=>by rw[mS (acd x ab)];exact h5.holds.m x ab
     d:=h5.holds.d
     cn:=h5.holds.cn }
    aj:=h5.aj
    cp:=λs cs ap=>by have ag:=h5.cp s cs ap;obtain⟨T,bS⟩:=ag.av;refine { av:=⟨T,?_⟩,a0:=ag.a0,jF:=ag.jF,eQ:=ag.eQ };rw[mS (λe=>by rw[e,vF]at bS;cases bS)];exact bS
    inj:=h5.inj
    hS:=h5.hS
    ht:=h5.ht
    own:=h5.own
    c2:=λb ag aF=>by
     by_cases e:b=l;·subst e;rw[Cp (lv.1 vF).1];exact(Cp aO).symm
     ·rw[mS e];show _=(W.putObj l (.loop (ep .busy none))).heap[b]?;rw[mS e];exact h5.c2 b ag aF
    out:=⟨h5.out.1,h5.out.2⟩
    sz:=by have:=h5.sz;simpa using this }
   have ace:=qW (X:=Fj) aP body j5 ⟨SF,mW⟩ w7;refine wpIn_mono (Q:=mu Fj _) ace ?_;have fin:∀ (dC:Act) (oe:World) (vG:Fr) (g':dM) (g2:aH) (lG:List aE) (jump:Option Code),Rel Fj dC oe vG g' g2 lG->∃ jM,(Instr.endRound l jump).run X.P oe=.ok (.bool jump.isNone) jM /\
     ef g2 (⟨l,.loop (ep (if jump.isNone then .ready else .done) jump)⟩::lG) jM/\Kept I' (⟨l,.loop (ep .ready none)⟩::eJ) W g2 (⟨l,.loop (ep (if jump.isNone then .ready else .done) jump)⟩::lG) jM:=by
    rintro dC oe vG g' g2 lG jump⟨yy,ae⟩;have Ap:oe.heap[l]?=some (.loop (ep .busy none)):=by rw[ae.c2 l aO cq.1];exact Cp aO
    have SG:g2 l=none:=by
     cases bx:g2 l with
     |none=>rfl
     |some o=>
      rcases ae.ht _ _ bx with U | U;·rw[show Fj.dN=I' from rfl,SE]at U;cases U
      ·exact absurd U (Nat.not_le.2 aO)
    have SH:∀ x∈lG,x.num≠l:=λx ab e=>by
     rcases ae.own x ab with U | U;·rw[e]at U;exact cq.1 U
     ·rw[e]at U;exact absurd U (Nat.not_le.2 aO)
    refine⟨_,run_endRound jump Ap,?_,?_⟩
    ·exact {
      i:=λb o jm=>by rw[mS (λe=>by rw[e,SG]at jm;cases jm)];exact ae.holds.i b o jm
      m:=λx ab=>by
       rcases et.1 ab with rfl | ab;·exact Cp (lv.1 Ap).1
       ·rw[mS (SH x ab)];exact ae.holds.m x ab
      d:=λx ab=>by
       rcases et.1 ab with rfl | ab;·exact SG
       ·exact ae.holds.d x ab
      cn:=by
       simp only[ek,mo];refine⟨λhm=>?_,ae.holds.cn⟩;obtain⟨x,ab,e⟩:=dp.1 hm;exact SH x ab e }
    ·exact {
      le:=ae.hS
      tR:=ae.ht
      vk:=λx ab=>by
       rcases et.1 ab with rfl | ab;·exact .inl ⟨⟨l,.loop (ep .ready none)⟩,by simp,rfl⟩
       ·rcases ae.own x ab with U | U
        ·obtain⟨y,aG,e⟩:=dp.1 U;exact .inl ⟨y,by simp[aG],e⟩
        ·exact .inr U
      c2:=λb ag bu=>by
       have l1:b≠l:=λe=>bu ⟨l,.loop (ep .ready none)⟩ (by simp) e.symm;rw[mS l1,ae.c2 b ag (λhm=>by
        obtain⟨y,aG,e⟩:=dp.1 hm;exact bu y (by simp[aG]) e)]
       exact mS l1
      out:=⟨ae.out.1,ae.out.2⟩
      sz:=by have:=ae.sz;simpa using this }
   intro e dC oe vH;cases e with
   |normal=>obtain⟨vG,g',g2,lG,⟨yy,ae⟩,⟨j6,nF,Aq,aK⟩⟩:=vH;obtain⟨jM,aR,bn,b2⟩:=fin dC oe vG g' j6 nF none ⟨yy,ae.ir Aq⟩;exact⟨_,jM,aR,_,_,_,rfl,.inl ⟨rfl,_,rfl,aK⟩,bn,b2⟩
   |exit id=>obtain⟨vG,g',g2,lG,⟨yy,ae⟩,⟨j6,nF,Aq,aK⟩⟩:=vH;obtain⟨jM,aR,bn,b2⟩:=fin dC oe vG g' j6 nF (some (.exit id)) ⟨yy,ae.ir Aq⟩;exact⟨_,jM,aR,_,_,_,rfl,.inr ⟨rfl,.exit id,_,_,rfl,rfl,aK⟩,bn,b2⟩
   |goto id=>obtain⟨vG,g',g2,lG,⟨yy,ae⟩,⟨j6,nF,Aq,aK⟩⟩:=vH;obtain⟨jM,aR,bn,b2⟩:=fin dC oe vG g' j6 nF (some (.goto id)) ⟨yy,ae.ir Aq⟩;exact⟨_,jM,aR,_,_,_,rfl,.inr ⟨rfl,.goto id,_,_,rfl,rfl,aK⟩,bn,b2⟩
   |ret=>obtain⟨vG,g',g2,lG,⟨yy,ae⟩,⟨j6,nF,Aq,aK⟩⟩:=vH;obtain⟨jM,aR,bn,b2⟩:=fin dC oe vG g' j6 nF (some .ret) ⟨yy,ae.ir Aq⟩;exact⟨_,jM,aR,_,_,_,rfl,.inr ⟨rfl,.ret,_,_,rfl,rfl,aK⟩,bn,b2⟩
   |panic s3=>exact vH.elim| outgrown=>exact vH.elim
 obtain⟨pU,z9⟩:=Iw l Me SD aG dm (⟨l,.loop (ep .ready none)⟩::M1) (λ_ _ h=>h) ⟨M1,rfl,start⟩;have mB:=z9 kX Ao.holds;have ay:=dq a8.aj aca;refine⟨l,[w1 w.heap.size],kX,{ target:=.fn (.func g) cap,args:=#[.func (.yield l) #[] #[]] },kX,g,(.func (.yield l) #[] #[]::cap.toList).toArray,kX,?_,?_,λ_ _=>trivial,?_,(λh=>by cases h),?_⟩
 ·have Mg:(gR X).round=none:=kR;rw[Mg];exact run_enterLoop_outer fn a.tmps ps fm body
 ·show(Deferred.ofValue (a.eval f) (#[Operand.const (.func (.yield l) #[] #[])].map a.eval)).run X.P kX=_;rw[ay];simp[Deferred.ofValue,Act.eval]
 ·simp only[invoke];rw[show #[Value.func (.yield l) #[] #[]]++cap=(.func (.yield l) #[] #[]::cap.toList).toArray from by apply gG;simp];exact pU _ _
 ·refine(LM (X:=X) mB _).mono ?_;rintro e oe⟨v,I',M',rfl,aK,qU,fl⟩;have yz:=Ao.after (Mr:=[]) (by simp) qU fl;rw[c8]at yz;have bk:=fl.le;rcases aK with⟨eJ,rfl,Fk⟩ | ⟨ex,c,eJ,aN,rfl,acf⟩
  ·refine⟨none,_,run_endLoop (qU.m ⟨l,.loop (ep .ready none)⟩ (by simp)) (by simp[ep]),?_⟩;exact⟨F,C,I',eJ,⟨β,yz.Fg⟩,done I' eJ bk Fk⟩
  ·refine⟨some c,_,run_endLoop (qU.m ⟨l,.loop (ep .done (some c))⟩ (by simp)) (by simp[ep]),?_⟩;obtain⟨bu,af⟩:=stop ex I' eJ bk acf;cases ex with
   |normal=>exact(bu rfl).elim| exit id=>cases aN;exact wpIn_exit ⟨F,C,I',eJ,⟨β,yz.Fg⟩,af⟩| goto id=>cases aN;exact wpIn_goto ⟨F,C,I',eJ,⟨β,yz.Fg⟩,af⟩| ret=>cases aN;exact wpIn_ret ⟨F,C,I',eJ,⟨β,yz.Fg⟩,af⟩
end
structure a' where
 a:Option Nat
 n:Nat
 c:Nat
 aS:List Value
def a'.val(o:a'):Value:=.slice (o.a.map λg=>⟨g,0,none⟩) o.n o.c
def a'.aQ(o:a')(e:Nat):List aE:=match o.a with
 |some g=>[⟨g,.cells o.aS.toArray e (0,0)⟩]| none=>[]
structure a'.ok(o:a')(size:Nat)(xs:List Value):Prop where
 len:xs.length=o.n*size
 nil:o.a=none->o.n=0/\o.c=0
 cap:∀ g,o.a=some g->o.aS.length=o.c*size/\o.n<=o.c/\o.c<=maxLen/\o.aS.take (o.n*size)=xs
section
variable{P:Program}{w:World}
def SI(t u ty e:Nat)(i:TypeInfo)(z:Value)(au:P.underlying t=some (.slice e)){mC:TypeDesc}(hu:P.underlying u=some mC)(o6:∀ k,mC≠.int k)(hi:P.info? e=some i)(a1:i.zero=some z)(p6:z.cells.size=i.size)
  {os:a'} (a5:os.ok i.size xs) (aB:∀ g,os.a=some g->w.heap[g]?=some (.cells os.aS.toArray e (0,0)))
  {x:Value} (hm:0<m) (aw:bV.length=m*i.size) (U:∀ v∈bV,v.oneCell'=true)
  (bY:∀ w',(Builtin.lenOf x).run P w'=.ok m w') (fx:∀ w':World,w'.heap=w.heap->(Builtin.firstCells i.size m x).run P w'=.ok bV.toArray w')
  (b':os.n+m<=maxLen) (ch:(os.n+m)*i.bytes<=140737488355328) :
  ∃ (g c:Nat) (aS:List Value) (w':World),(Builtin.append_ #[t,u] ty #[os.val,x]).run P w=.ok (.slice (some ⟨g,0,none⟩) (os.n+m) c) w'/\aS.length=c*i.size/\os.n+m<=c/\c<=maxLen/\aS.take ((os.n+m)*i.size)=xs++bV /\
   ((os.a=some g/\w'=w.setRow g aS.toArray)\/(g=w.heap.size/\w'=w.drew.alloc (.cells aS.toArray e (0,0)))):=by
 obtain⟨a,n,c,aS⟩:=os;have Cy:(xs++bV).length=(n+m)*i.size:=by rw[b5,a5.len,aw,iJ]
 have Ix:∀ c2,(xs++bV++(Builtin.zeroCells z.cells (grownCap w (n+m) c2 e-(n+m))).toList).length=grownCap w (n+m) c2 e*i.size/\n+m<=grownCap w (n+m) c2 e/\grownCap w (n+m) c2 e<=maxLen /\
   (xs++bV++(Builtin.zeroCells z.cells (grownCap w (n+m) c2 e-(n+m))).toList).take ((n+m)*i.size)=xs++bV:=by
  intro c2;have cI:=grownCap_ge w (n+m) c2 e;have kv:grownCap w (n+m) c2 e<=maxLen:=grownCap_le_maxLen w (n+m) c2 e b';refine⟨?_,cI,kv,?_⟩;·rw[b5,Cy,ym,size_zeroCells,p6,<-iJ];congr 1;omega
  ·rw[<-Cy];exact EY
 have Fl:(match mC with | .int _=>true | _=>false)=false:=by cases mC<;>first | rfl | exact(o6 _ rfl).elim
 have mD:n+m<=9223372036854775807:=by simp only[maxLen]at b';exact b'
 cases a with
 |none=>
  obtain⟨jN,Cz⟩:=a5.nil rfl;simp only at jN Cz;subst jN;subst Cz;have ab:xs=[]:=nB (by simpa using a5.len);subst ab;simp only[dK,lD]at *;have aq:0<m:=hm;have an:m≠0:=by omega
  have Ar:¬ (9223372036854775807<(m:Int)):=by omega
  have As:¬ (281474976710656<Builtin.nextslicecap m 0*i.bytes):=by rw[nextslicecap_zero aq];omega
  have aF:=fx w.drew rfl;obtain⟨aV,aX,bq,eK⟩:=Ix 0;refine⟨w.heap.size,grownCap w m 0 e,_,w.drew.alloc (.cells (bV++(Builtin.zeroCells z.cells (grownCap w m 0 e-m)).toList).toArray e),?_,aV,aX,bq,eK,.inr ⟨rfl,rfl⟩⟩;simp[a'.val,Builtin.append_,run_underlying au,run_underlying hu,sizeOf,typeInfo,zeroValue,hi,a1,bY,an,Ar,As,Question.forced,run_firstCells_none,aF,newRow,grownCap];congr 2;apply gG;simp
 |some g=>
  obtain⟨ed,nG,kv,mE⟩:=a5.cap g rfl;have Mh:=aB g rfl;simp only at ed nG kv mE Mh;by_cases q7:n+m<=c
  ·have fP:n*i.size+bV.length<=aS.length:=by rw[aw,ed,<-iJ];exact rV _ q7
   have cf:=run_storeCells_at P g (n*i.size) e bV 0 aS.toArray w Mh (by simpa using fP) U;simp only[rW]at cf;refine⟨g,c,aS.take (n*i.size)++bV++aS.drop (n*i.size+bV.length),_,?_,?_,q7,kv,?_,.inl ⟨rfl,rfl⟩⟩;·have aF:=fx w rfl;simp[a'.val,Builtin.append_,run_underlying au,run_underlying hu,sizeOf,typeInfo,hi,bY,q7,aF,Addr.add_lit,cf]
   ·simp only[b5,mV,yo];omega
   ·rw[mE,<-Cy];exact EY
  ·have an:¬ (n+m<=c):=by omega
   have Ar:¬ (9223372036854775807<((n:Int)+(m:Int))):=by omega
   have As:¬ (281474976710656<Builtin.nextslicecap (n+m) c*i.bytes):=by have:=growslice_fits (by omega:c<n+m) ch;omega
   have aF:=fx w.drew rfl;have acg:∀ j v,xs[j]?=some v->w.drew.cell? ((⟨g,0,none⟩:Addr).add j)=some v:=by
    intro j v ak;have CA:w.drew.heap[g]?=some (.cells aS.toArray e (0,0)):=Mh;rw[ei _ rfl,tU CA];rw[<-mE,lW]at ak;split at ak;·simpa using ak
    ·cases ak
   have og:=run_firstCells_some (P:=P) w.drew i.size n ⟨g,0,none⟩ n c xs a5.len acg;obtain⟨aV,aX,bq,eK⟩:=Ix c;refine⟨w.heap.size,grownCap w (n+m) c e,_,w.drew.alloc (.cells (xs++bV++(Builtin.zeroCells z.cells (grownCap w (n+m) c e-(n+m))).toList).toArray e),?_,aV,aX,bq,eK,.inr ⟨rfl,rfl⟩⟩;simp[a'.val,Builtin.append_,run_underlying au,run_underlying hu,sizeOf,typeInfo,zeroValue,hi,a1,bY,an,Ar,As,Question.forced,aF,og,newRow,grownCap];congr 2;apply gG;simp
end
section
variable{X:cW}{β:Nat->Nat}{a:Act}{w:World}{F:Fr}{C:dM}{I:aH}{M:List aE}{o:Oper}{K:gg}
def Mi(aP:cY X.P X.E){t:Nat}(ar:o.op=.call { callee:=.builtin .append,args:=#[s,x],argTypes:=#[t,u] })(ah:∀ d,o.dst=some d->d<X.n)
 (au:X.E t=some dn) (cO:dn.bK=.slice e) (hu:X.E u=some l0) (fu:∀ k,l0.bK≠.int k) (he:X.E e=some aJ)
  (os:a') (a5:os.ok aJ.size xs) (ap:bw F s=.val os.val)
  {o7:Value} (ab:bw F x=.val o7) (hm:0<m) (aw:bV.length=m*aJ.size) (U:gI bV=true)
  (bY:∀ w',(Builtin.lenOf o7).run X.P w'=.ok m w') (fx:∀ w,ef I M w->(Builtin.firstCells aJ.size m o7).run X.P w=.ok bV.toArray w)
 (bb:M.Perm (os.aQ e++Mr)) (b':os.n+m<=maxLen) (ch:(os.n+m)*aJ.bytes<=140737488355328)
  (k:∀ (g c:Nat) (aS:List Value),I g=none->aS.length=c*aJ.size->os.n+m<=c->c<=maxLen->aS.take ((os.n+m)*aJ.size)=xs++bV ->
   K (put o.dst (.val (.slice (some ⟨g,0,none⟩) (os.n+m) c)) F) C I (⟨g,.cells aS.toArray e (0,0)⟩::Mr)):bp X o F C I M K:=by
 refine⟨λa w Q ⟨β,lF⟩=>?_⟩;have a8:cH X β a w F C I (os.aQ e++Mr):=lF.ir (.perm bb .refl);obtain⟨inf,z,hi,eA,gw,gW,iG⟩:=(aP _ _ he).inf;obtain⟨d,fy,eX⟩:=(aP _ _ hu).fk;obtain⟨kw,nH,js⟩:=(aP _ _ au).fk;have p7:kw=.slice e:=by rw[cO]at js;cases kw<;>simp_all[fj]
 subst p7;have p6:z.cells.size=inf.size:=by rw[eA,<-(aP _ _ he).len,<-iG];simp
 rw[<-eA]at a5 aw fx;obtain⟨g,c,aS,w',fw,aV,aX,bq,eK,mY⟩:=SI (P:=X.P) (w:=w) t u o.type e inf z nH fy (λk a4=>fu k (by rw[<-eX,a4];rfl)) hi gW p6 a5 (λg aB=>a8.holds.m ⟨g,.cells os.aS.toArray e (0,0)⟩ (by simp[a'.aQ,aB])) (x:=o7) hm aw (z1 U) bY (λw' ud=>fx w' (lF.holds.heap ud)) b' (by rw[gw];exact ch);rw[eA]at aV eK;have At:I g=none:=by
  rcases mY with⟨aB,_⟩ | ⟨rfl,_⟩;·exact a8.holds.d ⟨g,.cells os.aS.toArray e (0,0)⟩ (by simp[a'.aQ,aB])
  ·cases bx:I w.heap.size with
   |none=>rfl| some mZ=>have:=a8.holds.i _ _ bx;simp at this
 have es:=dq a8.aj ap;have ex:=dq a8.aj ab;refine i' (by rw[ar];simp) (v:=.slice (some ⟨g,0,none⟩) (os.n+m) c) (w':=w') ?_ ⟨_,_,_,_,⟨β,cH.put (x:=.val (.slice (some ⟨g,0,none⟩) (os.n+m) c)) ?_ ah rfl⟩,k g c aS At aV aX bq eK⟩
 ·unfold execOp;simp only[ar,resolve,invoke,builtin,ca,c5,bR,s4,ek,p0,es,ex,fw]
 ·rcases mY with⟨aB,rfl⟩ | ⟨rfl,rfl⟩
  ·have ag:os.aQ e=[⟨g,.cells os.aS.toArray e (0,0)⟩]:=by simp[a'.aQ,aB]
   rw[ag]at a8;exact a8.yb (a9:=[]) (post:=Mr) rfl
  ·have aa:cH X β a w.drew F C I (os.aQ e++Mr):=a8.world rfl;have ae:=aa.nu (.cells aS.toArray e (0,0));refine ae.ir (.sub ?_ .refl);exact List.Sublist.cons_cons _ (lC _ _)
def bp.append(aP:cY X.P X.E){t:Nat}(ar:o.op=.call { callee:=.builtin .append,args:=#[s,x],argTypes:=#[t,t] })(ah:∀ d,o.dst=some d->d<X.n)
 (au:X.E t=some dn) (cO:dn.bK=.slice e) (he:X.E e=some aJ)
  (os:a') (a5:os.ok aJ.size xs) (ap:bw F s=.val os.val)
 (ab:bw F x=.val (.slice (some ad) m c')) (hm:0<m) (an:bD I M ad (m*aJ.size) bV) (U:gI bV=true)
 (bb:M.Perm (os.aQ e++Mr)) (b':os.n+m<=maxLen) (ch:(os.n+m)*aJ.bytes<=140737488355328)
  (k:∀ (g c:Nat) (aS:List Value),aS.length=c*aJ.size->os.n+m<=c->c<=maxLen->aS.take ((os.n+m)*aJ.size)=xs++bV ->
   K (put o.dst (.val (.slice (some ⟨g,0,none⟩) (os.n+m) c)) F) C I (⟨g,.cells aS.toArray e (0,0)⟩::Mr)):bp X o F C I M K:=by
 refine Mi aP ar ah au cO au (λk=>by rw[cO];simp) he os a5 ap ab hm ?_ U (λ_=>rfl) (λw hw=>?_) bb b' ch (λg c aS _=>k g c aS)
 ·obtain⟨_,_,_,_,_,_,h⟩:=an;exact h
 ·obtain⟨bZ,cs,T,aj,eg,ai,aw⟩:=an;refine run_firstCells_some (P:=X.P) w aJ.size m ad m c' bV aw λj v ak=>?_;rw[ei _ bZ,tU (eg.heap hw)];rw[<-ai,lW]at ak;split at ak
  ·rw[qO]at ak;simpa using ak
  ·cases ak
def bp.yA(aP:cY X.P X.E){t:Nat}(ar:o.op=.call { callee:=.builtin .append,args:=#[s,x],argTypes:=#[t,t] })(ah:∀ d,o.dst=some d->d<X.n)
 (au:X.E t=some dn) (cO:dn.bK=.slice e) (he:X.E e=some aJ)
  (os:a') (a5:os.ok aJ.size xs) (ap:bw F s=.val os.val)
 (ab:bw F x=.val (.slice (some ad) m c')) (hm:0<m) (an:bD I M ad (m*aJ.size) bV) (U:gI bV=true)
 (bb:M.Perm (os.aQ e++Mr)) (b':os.n+m<=maxLen) (ch:(os.n+m)*aJ.bytes<=140737488355328)
  (k:∀ (g c:Nat) (aS:List Value),I g=none->aS.length=c*aJ.size->os.n+m<=c->c<=maxLen->aS.take ((os.n+m)*aJ.size)=xs++bV ->
   K (put o.dst (.val (.slice (some ⟨g,0,none⟩) (os.n+m) c)) F) C I (⟨g,.cells aS.toArray e (0,0)⟩::Mr)):bp X o F C I M K:=by
 refine Mi aP ar ah au cO au (λk=>by rw[cO];simp) he os a5 ap ab hm ?_ U (λ_=>rfl) (λw hw=>?_) bb b' ch k
 ·obtain⟨_,_,_,_,_,_,h⟩:=an;exact h
 ·obtain⟨bZ,cs,T,aj,eg,ai,aw⟩:=an;refine run_firstCells_some (P:=X.P) w aJ.size m ad m c' bV aw λj v ak=>?_;rw[ei _ bZ,tU (eg.heap hw)];rw[<-ai,lW]at ak;split at ak
  ·rw[qO]at ak;simpa using ak
  ·cases ak
def kZ(s:ByteArray):List Value:=s.data.toList.map λb=>.int .u8 b.toNat
def bp.ach(aP:cY X.P X.E){t:Nat}(ar:o.op=.call { callee:=.builtin .append,args:=#[s,x],argTypes:=#[t,u] })(ah:∀ d,o.dst=some d->d<X.n)
 (au:X.E t=some dn) (cO:dn.bK=.slice e) (hu:X.E u=some l0) (fu:l0.bK=.string) (he:X.E e=some aJ) (cr:aJ.size=1)
  (os:a') (a5:os.ok aJ.size xs) (ap:bw F s=.val os.val)
  {str:ByteArray} (ab:bw F x=.val (.string str)) (hm:0<str.size)
 (bb:M.Perm (os.aQ e++Mr)) (b':os.n+str.size<=maxLen) (ch:(os.n+str.size)*aJ.bytes<=140737488355328)
  (k:∀ (g c:Nat) (aS:List Value),aS.length=c*aJ.size->os.n+str.size<=c->c<=maxLen->aS.take ((os.n+str.size)*aJ.size)=xs++kZ str ->
   K (put o.dst (.val (.slice (some ⟨g,0,none⟩) (os.n+str.size) c)) F) C I (⟨g,.cells aS.toArray e (0,0)⟩::Mr)):bp X o F C I M K:=by
 refine Mi aP ar ah au cO hu (λk=>by rw[fu];simp) he os a5 ap ab hm ?_ ?_ (λ_=>rfl) (λw hw=>?_) bb b' ch (λg c aS _=>k g c aS)
 ·simp[kZ,cr]
 ·refine g0.2 λv ai=>?_;obtain⟨b,_,rfl⟩:=dp.1 ai;rfl
 ·simp only[Builtin.firstCells,c5];congr 1;apply gG;have aC:str.extract 0 str.size=str:=by apply qP;simp[Cc]
  simp[kZ,aC]
end
section
variable{X:cW}{F:Fr}{C:dM}{I:aH}{M:List aE}{o:Oper}{K:gg}
def aci{t:Nat}(au:P.underlying t=some (.array 4 e)){k:IntKind}(he:P.underlying e=some (.int k)){inf:TypeInfo}(hi:P.info? e=some inf)(ap:inf.size=1)(d' cg dv dC kx b' ch dS:Int)(w:World) :
  (Op.equal t (.agg #[.int k d',.int k cg,.int k dv,.int k dC]) (.agg #[.int k kx,.int k b',.int k ch,.int k dS])).run P w=.ok (d' == kx&&(cg == b'&&(dv == ch&&dC == dS))) w:=by
 have Fm:∀ (xs:Array Value) (i:Nat) (v:Value) (w:World),xs[i]?=some v->(part e xs i).run P w=.ok v w:=λxs i v w h=>by
  have z0:(isAgg e).run P w=.ok false w:=by unfold isAgg;simp[run_underlying he]
  unfold part;simp[z0,sizeOf,typeInfo,hi,ap,h]
 have hint:∀ (d:Nat) (x y:Int) (w:World),(Op.equalIn (d+1) e (.int k x) (.int k y)).run P w=.ok (x == y) w:=λd x y w=>by simp[Op.equalIn,run_underlying he]
 have key:∀ m,(∀ (x y:Int) (w:World),(Op.equalIn m e (.int k x) (.int k y)).run P w=.ok (x == y) w)->(Op.equalIn (m+1) t (.agg #[.int k d',.int k cg,.int k dv,.int k dC]) (.agg #[.int k kx,.int k b',.int k ch,.int k dS])).run P w=.ok (d' == kx&&(cg == b'&&(dv == ch&&dC == dS))) w:=λm hint=>by
  rw[Op.equalIn];simp only[ca,run_underlying au,bR,sizeOf,typeInfo,hi,run_program,c5,ap];simp only[LX];have ao:List.range' 0 ([:4]:Std.Legacy.Range).size=[0,1,2,3]:=by decide
  rw[ao];have pa:=λ(i:Nat) (v:Value) (w:World)=>Fm #[.int k d',.int k cg,.int k dv,.int k dC] i v w;have Au:=λ(i:Nat) (v:Value) (w:World)=>Fm #[.int k kx,.int k b',.int k ch,.int k dS] i v w;simp only[L1,List.forIn_nil,ca];rw[pa (0*1) (.int k d') w rfl];simp only[bR,ca];rw[Au (0*1) (.int k kx) w rfl];simp only[bR,ca];rw[hint];simp only[bR];cases(d' == kx);·simp
  simp only[nE,j0,kO,c5,bR,ca];rw[pa (1*1) (.int k cg) w rfl];simp only[bR,ca];rw[Au (1*1) (.int k b') w rfl];simp only[bR,ca];rw[hint];simp only[bR];cases(cg == b');·simp
  simp only[nE,j0,kO,c5,bR,ca];rw[pa (2*1) (.int k dv) w rfl];simp only[bR,ca];rw[Au (2*1) (.int k ch) w rfl];simp only[bR,ca];rw[hint];simp only[bR];cases(dv == ch);·simp
  simp only[nE,j0,kO,c5,bR,ca];rw[pa (3*1) (.int k dC) w rfl];simp only[bR,ca];rw[Au (3*1) (.int k dS) w rfl];simp only[bR,ca];rw[hint];simp only[bR];cases(dC == dS);·simp
  simp
 exact key 9999 (hint 9998)
def cC.Mj{E:Env}(aP:cY P E){t:Nat}(au:E t=some dn)(cO:dn.bK=.array 4 e)(he:E e=some aJ){k:IntKind}(k0:aJ.bK=.int k)(aB:P.eqGuardType P.depth t=false){d' cg dv dC kx b' ch dS:Int}{V:Value->Prop}
  (h:V (.bool (d' == kx&&(cg == b'&&(dv == ch&&dC == dS))))):cC P .eql t x y (.val (.agg #[.int k d',.int k cg,.int k dv,.int k dC])) (.val (.agg #[.int k kx,.int k b',.int k ch,.int k dS])) V other:=by
 obtain⟨d,fy,eX⟩:=(aP _ _ au).fk;obtain⟨p8,Fo,Mk⟩:=(aP _ _ he).fk;obtain⟨inf,z,hi,eA,_⟩:=(aP _ _ he).inf;have U:d=.array 4 e:=by rw[cO]at eX;cases d<;>simp_all[fj]
 have aa:p8=.int k:=by rw[k0]at Mk;cases p8<;>simp_all[fj]
 subst U;subst aa;have gT:inf.size=1:=by rw[eA];exact(aP _ _ he).HQ (by rw[k0];rfl)
 refine .mk _ _ _ rfl rfl (λw=>?_) h;simp only[ca,run_eqGuard_agg (hm:=aB),bR,binOp,aci fy Fo hi gT,c5]
def cC.concat{t:Nat}{a b:ByteArray}(ap:a.size+b.size<=9223372036854775807){V:Value->Prop}(h:V (.string (a++b))):cC P .add t x y (.val (.string a)) (.val (.string b)) V other:=by refine .mk _ _ _ rfl rfl (λw=>?_) h;simp only[ca,LL,bR,binOp,run_string_add_sum _ _ _ ap,c5]
end
section
variable{X:cW}{β:Nat->Nat}{a:Act}{w:World}{F:Fr}{C:dM}{I:aH}{M:List aE}{o:Oper}{K:gg}
def cH.SJ{n:Nat}{mZ:Obj}(h:cH X β a w F C I (⟨n,mZ⟩::M))(ap:w'.heap.size=w.heap.size)(ag:∀ b,b≠n->w'.heap[b]?=w.heap[b]?)(ar:n3 w w'):cH X β a w' F C I M:=by
 have fE:(⟨n,mZ⟩:aE)∈(⟨n,mZ⟩:aE)::M:=by simp
 have cq:=h.holds.cn;simp only[ek,mo]at cq;exact {
  size:=h.size
  defers:=h.defers.mono λr ao=>by have bu:n≠r:=ao.eQ _ fE;refine { ao with av:=?_,eQ:=λx ab=>ao.eQ x (by simp[ab]) };rw[ag r (sP bu)];exact ao.av
  holds:={
   i:=λb o jm=>by rw[ag b (λe=>by have:=h.holds.d _ fE;simp only at this;rw[e,this]at jm;cases jm)];exact h.holds.i b o jm
   m:=λx ab=>by rw[ag _ (λe=>cq.1 (dp.2 ⟨x,ab,e⟩))];exact h.holds.m x (by simp[ab])
   d:=λx ab=>h.holds.d x (by simp[ab])
   cn:=cq.2 }
  aj:=h.aj
  cp:=λs cs lZ=>by have tX:=h.cp s cs lZ;have bu:n≠β s:=tX.eQ _ fE;obtain⟨T,bS⟩:=tX.av;refine { tX with av:=⟨T,?_⟩,eQ:=λx ab=>tX.eQ x (by simp[ab]) };rw[ag _ (sP bu)];exact bS
  inj:=h.inj
  hS:=h.hS
  ht:=h.ht
  own:=λx ab=>h.own x (by simp[ab])
  c2:=λb aO aF=>by
   rw[ag b (λe=>by
    rcases h.own _ fE with U | U;·simp only at U;exact aF (e ▸ U)
    ·simp only at U;omega)]
   exact h.c2 b aO aF
  out:=h.out.trans ar
  sz:=by rw[ap];exact h.sz }
def acj(w:World)(p:Addr)(n:Nat):(w.freeze p n).heap.size=w.heap.size:=by
 unfold World.freeze;split<;>simp
def ack(w:World)(p:Addr)(n:Nat):n3 w (w.freeze p n):=by
 unfold World.freeze;split<;>exact⟨rfl,rfl⟩
def acm(w:World)(p:Addr)(n b:Nat)(h:b≠p.block):(w.freeze p n).heap[b]?=w.heap[b]?:=by
 unfold World.freeze;split
 ·rfl
 ·simp only[Array.getElem?_modify];rw[cG (sP h)]
def bp.Ml(aP:cY X.P X.E){n:Operand}(ar:o.op=.call { callee:=.builtin .unsafeString,args:=#[p,n],argTypes:=#[t',it] })(ah:∀ d,o.dst=some d->d<X.n)
 (au:X.E t'=some dn) (cO:dn.bK=.pointer e) (he:X.E e=some aJ) (k0:aJ.size=1)
 {l:List UInt8} (aK:bw F p=.val (.pointer (some ⟨g,0,none⟩))) (an:bw F n=.val (.int .i64 l.length)) (aq:l≠[]) (Mm:l.length<=9223372036854775807)
 (bb:M.Perm (⟨g,.cells cs e (0,0)⟩::Mr)) (lZ:cs.toList.take l.length=l.map λb=>.int .u8 b.toNat)
  (h:K (put o.dst (.val (.string ⟨l.toArray⟩)) F) C I Mr):bp X o F C I M K:=by
 refine⟨λa w Q ⟨β,lF⟩=>?_⟩;have a8:cH X β a w F C I (⟨g,.cells cs e (0,0)⟩::Mr):=lF.ir (.perm bb .refl);have aB:w.heap[g]?=some (.cells cs e (0,0)):=a8.holds.m ⟨g,.cells cs e (0,0)⟩ (by simp);obtain⟨d,fy,eX⟩:=(aP _ _ au).fk;have U:d=.pointer e:=by rw[cO]at eX;cases d<;>simp_all[fj]
 subst U;obtain⟨inf,z,hi,eA,_⟩:=(aP _ _ he).inf;have aN:X.P.cellsOf e=1:=by simp[Program.cellsOf,hi,eA,k0]
 have bY:l.length<=cs.size:=by have:=congrArg List.length lZ;simp only[mV,dx,ym]at this;omega
 have fw:=Lib.run_unsafeString_row (P:=X.P) w t' it o.type e fy aN g cs.size (by simp[World.shape?,aB]) l aq bY Mm (λj x ak=>by
  rw[ei _ rfl,tU aB];have aa:(cs.toList.take l.length)[j]?=some (.int .u8 x.toNat):=by rw[lZ];simp[ak]
  rw[lW]at aa;split at aa;·simpa using aa
  ·cases aa)
 have Mn:=dq a8.aj aK;have e':=dq a8.aj an;refine i' (by rw[ar];simp) (v:=.string ⟨l.toArray⟩) (w':=w.freeze ⟨g,0,none⟩ l.length) ?_ ⟨_,_,_,_,⟨β,cH.put (x:=.val (.string ⟨l.toArray⟩)) (a8.SJ (acj _ _ _) (λb ag=>acm _ _ _ _ ag) (ack _ _ _)) ah rfl⟩,h⟩;unfold execOp;simp only[ar,resolve,invoke,builtin,ca,c5,bR,s4,ek,p0,Mn,e',fw]
def bp.SK{n:Operand}(ar:o.op=.call { callee:=.builtin .unsafeString,args:=#[p,n],argTypes:=#[t',it] })(ah:∀ d,o.dst=some d->d<X.n)
  {q:Option Addr} (aK:bw F p=.val (.pointer q)) (an:bw F n=.val (.int .i64 0)) (h:K (put o.dst (.val (.string .empty)) F) C I M):bp X o F C I M K:=by
 refine⟨λa w Q ⟨β,a8⟩=>?_⟩;have Mn:=dq a8.aj aK;have e':=dq a8.aj an;refine yc a8 ah (by rw[ar];simp) ?_ h;unfold execOp;simp only[ar,resolve,invoke,builtin,ca,c5,bR,s4,ek,p0,Mn,e',Lib.run_unsafeString_none]
def bp.SL(aP:cY X.P X.E){t:Nat}(ar:o.op=.call { callee:=.builtin .copy,args:=#[x,y],argTypes:=#[t,u] })(ah:∀ d,o.dst=some d->d<X.n)
 (au:X.E t=some dn) (cO:dn.bK=.slice e) (he:X.E e=some aJ) (k0:aJ.size=1)
 {off dl SM:Nat} {s:ByteArray} {T:Nat} (ab:bw F x=.val (.slice (some ⟨g,off,none⟩) dl SM)) (aG:bw F y=.val (.string s)) (bk:s.size<=dl) (fP:off+s.size<=cs.size)
 (bb:M.Perm (⟨g,.cells cs T (0,0)⟩::Mr))
  (h:K (put o.dst (.val (.int .i64 s.size)) F) C I (⟨g,.cells (bO cs.toList off (kZ s)).toArray T (0,0)⟩::Mr)):bp X o F C I M K:=by
 refine⟨λa w Q ⟨β,lF⟩=>?_⟩;have a8:cH X β a w F C I (⟨g,.cells cs T (0,0)⟩::Mr):=lF.ir (.perm bb .refl);have aB:w.heap[g]?=some (.cells cs T (0,0)):=a8.holds.m ⟨g,.cells cs T (0,0)⟩ (by simp);obtain⟨d,fy,eX⟩:=(aP _ _ au).fk;have U:d=.slice e:=by rw[cO]at eX;cases d<;>simp_all[fj]
 subst U;obtain⟨inf,z,hi,eA,_⟩:=(aP _ _ he).inf;have aw:(kZ s).length=s.size:=by simp[kZ]
 have U:∀ v∈kZ s,v.oneCell'=true:=λv ai=>by obtain⟨b,_,rfl⟩:=dp.1 ai;rfl
 have cf:=run_storeCells_at X.P g off T (kZ s) 0 cs w aB (by rw[aw];simpa using fP) U;simp only[rW]at cf;have xe:Nat.min s.size dl=s.size:=Ey bk;have aF:(Builtin.firstCells inf.size s.size (.string s)).run X.P w=.ok (kZ s).toArray w:=R' w inf.size s;have ex:=dq a8.aj ab;have ue:=dq a8.aj aG;have q8:=a8.yb (a9:=[]) (post:=Mr) (cs':=(bO cs.toList off (kZ s)).toArray) rfl;refine i' (by rw[ar];simp) (v:=.int .i64 s.size) (w':=w.setRow g (bO cs.toList off (kZ s)).toArray) ?_ ⟨_,_,_,_,⟨β,cH.put (x:=.val (.int .i64 s.size)) q8 ah rfl⟩,h⟩;have fw:(Builtin.copy_ #[t,u] o.type #[.slice (some ⟨g,off,none⟩) dl SM,.string s]).run X.P w=.ok (.int .i64 s.size) (w.setRow g (bO cs.toList off (kZ s)).toArray):=by simp[Builtin.copy_,run_underlying fy,Builtin.lenOf,xe,sizeOf,typeInfo,hi,aF,cf,bO,goInt]
 unfold execOp;simp only[ar,resolve,invoke,builtin,ca,c5,bR,s4,ek,p0,ex,ue,fw]
end
structure dX(I:aH)(a:Option Addr)(n c size b:Nat)(vs:List Value):Prop where
 len:vs.length=n*size
 cap:n<=c/\n*b<=140737488355328
 rd:n=0\/∃ ad,a=some ad/\ad.spot=none/\∃ cs T aj,I ad.block=some (.cells cs T aj)/\(cs.toList.drop ad.off).take (n*size)=vs
def dX.mono{I:aH}{n b:Nat}(h:dX I a n c size b vs)(bx:∀ b o,I b=some o->I' b=some o):dX I' a n c size b vs:=
 ⟨h.len,h.cap,h.rd.imp id λ⟨ad,U,aa,cs,T,aj,ae,aR⟩=>⟨ad,U,aa,cs,T,aj,bx _ _ ae,aR⟩⟩
def dX.idx{I:aH}{n b:Nat}(h:dX I a n c size b vs){j:Nat}(ak:j<n) :
  ∃ ad,a=some ad/\∀ M,bD I M (ad.add (j*size)) size ((vs.drop (j*size)).take size):=by
 obtain⟨aw,_,aq | ⟨ad,ax,ap,cs,T,aj,bx,ai⟩⟩:=h
 ·omega
 ·refine⟨ad,ax,λM=>?_⟩;have bk:j*size+size<=n*size:=by have:=rV size (show j+1<=n from ak);rw[iJ,o0]at this;exact this
  refine⟨by rw[ei _ ap],cs,T,aj,.inl (by rw[ei _ ap];exact bx),?_,?_⟩;·rw[ei _ ap,<-ai,Ai,Aj,yr];congr 1;omega
  ·rw[mV,yo,aw];omega
def dX.one{I:aH}{n b:Nat}{f:α->Value}{l:List α}(h:dX I a n c 1 b (l.map f)){j:Nat}(ak:j<n)(gx:j<l.length) :
  ∃ ad,a=some ad/\∀ M,bD I M (ad.add (j*1)) 1 [f l[j]]:=by
 obtain⟨ad,U,aa⟩:=h.idx ak;refine⟨ad,U,λM=>?_⟩;have:=aa M;rw[h4,<-List.map_drop,<-List.map_take,eE gx,pX,r5]at this;rw[h4];exact this
def yB{α:Type}(f:α->List Value)(size:Nat)(aF:∀ x,(f x).length=size):∀ (l:List α) (j:Nat) (ak:j<l.length),((l.flatMap f).drop (j*size)).take size=f l[j]
 |x::l,0,_=>by simp only[pZ,EZ,oZ,Ae];rw[<-aF x];exact EY
 |x::l,j+1,ak=>by have bc:=yB f size aF l j (by simpa using ak);simp only[pZ,EV];rw[<-bc,show(j+1)*size=(f x).length+j*size from by rw[aF,iJ];omega,R9]
def g3{α:Type}(f:α->List Value)(size:Nat)(aF:∀ x,(f x).length=size):∀ (l:List α),(l.flatMap f).length=l.length*size
 |[]=>by simp
 |x::l=>by simp[g3 f size aF l,aF x,iJ];omega
def dX.row{I:aH}{n b:Nat}{f:α->List Value}(aF:∀ x,(f x).length=size){l:List α}(h:dX I a n c size b (l.flatMap f)){j:Nat}(ak:j<n)(gx:j<l.length) :
  ∃ ad,a=some ad/\∀ M,bD I M (ad.add (j*size)) size (f l[j]):=by
 obtain⟨ad,U,aa⟩:=h.idx ak;refine⟨ad,U,λM=>?_⟩;have:=aa M;rwa [yB f size aF l j gx]at this
def bD.part{I:aH}{a:Addr}{n k:Nat}(h:bD I M a n vs)(af:k+m<=n):bD I M (a.add k) m ((vs.drop k).take m):=by
 obtain⟨ap,cs,T,aj,U,aa,ae⟩:=h;refine⟨by rw[ei _ ap],cs,T,aj,by rw[ei _ ap];exact U,?_,?_⟩
 ·rw[ei _ ap,<-aa,Ai,Aj,yr];congr 1;omega
 ·rw[mV,yo,ae];omega
structure a3 where
 k:Int
 fY:Int
 s1:Int
 s2:Int
 gM:Int
 t:ByteArray
 lo:Int
 hi:Int
 hK:Option Addr
 kn:Nat
 hk:Nat
 aM:List Int
def a3.cells(d:a3):List Value:=[.int .u8 d.k,.int .u64 d.fY,.int .u64 d.s1,.int .u64 d.s2,.int .u64 d.gM,.string d.t,.int .i64 d.lo,.int .i64 d.hi,.slice d.hK d.kn d.hk]
def a3.val(d:a3):Value:=.agg #[.int .u8 d.k,.int .u64 d.fY,.int .u64 d.s1,.int .u64 d.s2,.int .u64 d.gM,.string d.t,.int .i64 d.lo,.int .i64 d.hi,.slice d.hK d.kn d.hk]
def mF(x:Int):Prop:=-9223372036854775808<=x/\x<=9223372036854775807
def fo(x:Int):Prop:=0<=x/\x<18446744073709551616
structure a3.ok(I:aH)(d:a3):Prop where
 k:0<=d.k/\d.k<256
 fY:fo d.fY
 s1:fo d.s1
 s2:fo d.s2
 gM:fo d.gM
 t:d.t.size<=9223372036854775807
 lo:mF d.lo
 hi:mF d.hi
 a2:dX I d.hK d.kn d.hk 1 8 (d.aM.map (.int .i64 ·))
 aM:∀ x∈d.aM,mF x
def a3.da(d:a3):d.cells.length=9:=rfl
def a3.ok.kn{I:aH}{d:a3}(h:d.ok I):d.aM.length=d.kn:=by have:=h.a2.len;simpa using this
structure bB where
 ns:List a3
 a:Option Addr
 n:Nat
 c:Nat
 bJ:Int
def bB.cells(t:bB):List Value:=[.slice t.a t.n t.c,.int .i64 t.bJ]
def bB.val(t:bB):Value:=.agg #[.slice t.a t.n t.c,.int .i64 t.bJ]
structure bB.ok(I:aH)(t:bB):Prop where
 a2:dX I t.a t.n t.c 9 96 (t.ns.flatMap a3.cells)
 ns:∀ d∈t.ns,d.ok I
 bJ:mF t.bJ
def bB.ok.n{I:aH}{t:bB}(h:t.ok I):t.ns.length=t.n:=by have:=h.a2.len;rw[g3 _ 9 a3.da]at this;omega
structure bm where
 name:ByteArray
 t:bB
def bm.cells(d:bm):List Value:=[.string d.name,.slice d.t.a d.t.n d.t.c,.int .i64 d.t.bJ]
structure bm.ok(I:aH)(d:bm):Prop where
 name:d.name.size<=140737488355328
 t:d.t.ok I
def bm.da(d:bm):d.cells.length=3:=rfl
structure cE where
 ds:List bm
 a:Option Addr
 n:Nat
 c:Nat
def cE.val(g:cE):Value:=.agg #[.slice g.a g.n g.c]
structure cE.ok(I:aH)(g:cE):Prop where
 a2:dX I g.a g.n g.c 3 48 (g.ds.flatMap bm.cells)
 ds:∀ d∈g.ds,d.ok I
def cE.ok.n{I:aH}{g:cE}(h:g.ok I):g.ds.length=g.n:=by have:=h.a2.len;rw[g3 _ 3 bm.da]at this;omega
def a3.ok.mono{I:aH}{d:a3}(h:d.ok I)(bx:∀ b o,I b=some o->I' b=some o):d.ok I':={ h with a2:=h.a2.mono bx }
def bB.ok.mono{I:aH}{t:bB}(h:t.ok I)(bx:∀ b o,I b=some o->I' b=some o):t.ok I':=⟨h.a2.mono bx,λd ah=>(h.ns d ah).mono bx,h.bJ⟩
def bm.ok.mono{I:aH}{d:bm}(h:d.ok I)(bx:∀ b o,I b=some o->I' b=some o):d.ok I':=⟨h.name,h.t.mono bx⟩
def cE.ok.mono{I:aH}{g:cE}(h:g.ok I)(bx:∀ b o,I b=some o->I' b=some o):g.ok I':=⟨h.a2.mono bx,λd ah=>(h.ds d ah).mono bx⟩
def wrap_i64{x:Int}(h:mF x):IntKind.i64.wrap x=x:=by obtain⟨U,aa⟩:=h;unfold IntKind.wrap;simp only[IntKind.bits,IntKind.signed];simp;omega
open Go Go.Proofs
def aY(t n:Nat)(a b:Option dU):Option dU:=bif Nat.blt t n then a else b
def s8(n:Nat):Option dU:=some ⟨1,8,[.pointer none],.pointer n⟩
def ky(n:Nat):Option dU:=some ⟨1,24,[.slice none 0 0],.slice n⟩
def hz:Option dU:=none
def bT:Option dU:=some ⟨1,8,[.nilFunc],.other⟩
def Mo:Option dU:=some ⟨1,8,[.int .i64 0],.int .i64⟩
def Iy:Option dU:=some ⟨1,1,[.int .u8 0],.int .u8⟩
def Mp:Option dU:=some ⟨1,8,[.int .u64 0],.int .u64⟩
def SN:Option dU:=some ⟨1,8,[.pointer none],.struct [(17,0)]⟩
def SO:Option dU:=some ⟨1,4,[.int .i32 0],.int .i32⟩
def SP:Option dU:=some ⟨1,24,[.slice none 0 0],.struct [(22,0)]⟩
def SQ:Option dU:=some ⟨2,32,[.slice none 0 0,.int .i64 0],.struct [(26,0),(3,1)]⟩
def SR:Option dU:=some ⟨4,32,[.int .u64 0,.int .u64 0,.int .u64 0,.int .u64 0],.array 4 54⟩
def SS:Option dU:=some ⟨9,96,[.int .u8 0,.int .u64 0,.int .u64 0,.int .u64 0,.int .u64 0,.string ⟨#[]⟩,.int .i64 0,.int .i64 0,.slice none 0 0],.struct [(5,0),(56,1),(9,5),(3,6),(3,7),(57,8)]⟩
def SU:Option dU:=some ⟨2,32,[.int .i64 0,.slice none 0 0],.struct [(3,0),(57,1)]⟩
def SV:Option dU:=some ⟨4,16,[.int .i64 0,.int .i32 0,.int .u8 0,.int .u8 0],.struct [(2,0),(21,1),(5,2),(5,3)]⟩
def SW:Option dU:=some ⟨3,24,[.int .i64 0,.int .i64 0,.int .i64 0],.struct [(3,0),(3,1),(3,2)]⟩
def SX:Option dU:=some ⟨64,512,List.replicate 64 (.int .u64 0),.array 64 54⟩
def SY:Option dU:=some ⟨8,160,[.slice none 0 0,.int .i64 0,.int .i64 0,.slice none 0 0,.slice none 0 0,.slice none 0 0,.slice none 0 0,.slice none 0 0],.struct [(223,0),(3,1),(3,2),(26,3),(224,4),(22,5),(223,6),(223,7)]⟩
def Iz:Option dU:=some ⟨2,16,[.int .i64 0,.int .i64 0],.struct [(3,0),(3,1)]⟩
def SZ:Option dU:=some ⟨1,24,[.slice none 0 0],.struct [(26,0)]⟩
def S0:Option dU:=some ⟨5,96,[.int .u8 0,.string ⟨#[]⟩,.slice none 0 0,.slice none 0 0,.slice none 0 0],.struct [(5,0),(9,1),(57,2),(57,3),(204,4)]⟩
def S1:Option dU:=some ⟨3,3,[.bool false,.bool false,.bool false],.struct [(4,0),(4,1),(4,2)]⟩
def S2:Option dU:=some ⟨3,24,[.int .i64 0,.int .i64 0,.bool false],.struct [(3,0),(3,1),(4,2)]⟩
def S3:Option dU:=some ⟨6,64,[.string ⟨#[]⟩,.string ⟨#[]⟩,.int .u8 0,.map none,.int .i64 0,.int .i64 0],.struct [(9,0),(9,1),(5,2),(371,3),(3,4),(31,5)]⟩
def nI:Env:=λt=>bif Nat.blt t 397 then(aY t 198 (aY t 99 (aY t 49 (aY t 24 (aY t 12 (aY t 6 (aY t 3 (aY t 1 hz (aY t 2 bT Mo)) (aY t 4 Mo (aY t 5 (some ⟨1,1,[.bool false],.bool⟩) Iy))) (aY t 9 (aY t 7 Iy (some ⟨4,24,[.int .i64 0,.int .i64 0,.bool false,.int .u8 0],.struct [(2,0),(3,1),(4,2),(6,3)]⟩)) (some ⟨1,16,[.string ⟨#[]⟩],.string⟩))) (aY t 18 (aY t 15 (aY t 13 Mp (some ⟨2,24,[.string ⟨#[]⟩,.int .u64 0],.struct [(9,0),(12,1)]⟩)) (aY t 16 (s8 386) (aY t 17 (s8 389) (s8 396)))) (aY t 21 (aY t 19 SN (aY t 20 SN (some ⟨1,16,[.nilIface],.other⟩))) (aY t 22 SO (aY t 23 (ky 38) SP))))) (aY t 36 (aY t 30 (aY t 27 (aY t 25 SP (aY t 26 bT (ky 59))) (aY t 28 SQ (aY t 29 SQ bT))) (aY t 33 (aY t 31 (s8 98) (aY t 32 Mo hz)) bT)) (aY t 42 (aY t 39 (aY t 37 Mp (some ⟨3,48,[.string ⟨#[]⟩,.slice none 0 0,.int .i64 0],.struct [(9,0),(28,1)]⟩)) (aY t 40 (ky 110) (some ⟨3,40,[.bool false,.int .i64 0,.slice none 0 0],.struct [(4,0),(3,1),(39,2)]⟩))) (aY t 45 (aY t 43 hz bT) (aY t 47 (aY t 46 bT hz) bT))))) (aY t 74 (aY t 61 (aY t 55 (aY t 52 (aY t 50 bT (aY t 51 bT (s8 122))) (aY t 53 hz (aY t 54 bT Mp))) (aY t 58 (aY t 56 SR (aY t 57 SR (ky 3))) (aY t 59 SS (aY t 60 SS bT)))) (aY t 67 (aY t 64 (aY t 62 hz bT) (aY t 65 bT (aY t 66 bT (ky 71)))) (aY t 70 (aY t 68 bT (aY t 69 hz bT)) (aY t 72 (some ⟨5,48,[.int .u8 0,.int .u8 0,.int .i64 0,.slice none 0 0,.int .i64 0],.struct [(5,0),(5,1),(3,2),(57,3),(3,4)]⟩) (aY t 73 bT SU))))) (aY t 86 (aY t 80 (aY t 77 (aY t 75 SU bT) bT) (aY t 83 (aY t 81 bT (aY t 82 hz bT)) (aY t 84 bT (aY t 85 (ky 74) bT)))) (aY t 92 (aY t 89 (aY t 87 hz bT) bT) (aY t 95 (aY t 93 bT (aY t 94 bT (ky 9))) (aY t 97 (aY t 96 bT (ky 104)) (some ⟨5,112,[.string ⟨#[]⟩,.slice none 0 0,.slice none 0 0,.slice none 0 0,.slice none 0 0],.struct [(9,0),(94,1),(57,2),(26,3),(96,4)]⟩))))))) (aY t 148 (aY t 123 (aY t 111 (aY t 105 (aY t 102 bT (aY t 103 bT (aY t 104 bT (ky 106)))) (aY t 108 (aY t 106 SV (aY t 107 SV bT)) (aY t 109 bT (some ⟨3,32,[.string ⟨#[]⟩,.int .i64 0,.int .i64 0],.struct [(9,0),(3,1),(3,2)]⟩)))) (aY t 117 (aY t 114 (aY t 112 bT (aY t 113 (ky 28) bT)) bT) (aY t 120 bT (aY t 121 (ky 189) (some ⟨4,88,[.string ⟨#[]⟩,.slice none 0 0,.slice none 0 0,.slice none 0 0],.struct [(9,0),(24,1),(112,2),(120,3)]⟩))))) (aY t 135 (aY t 129 (aY t 126 (aY t 124 SW (aY t 125 SW bT)) bT) bT) (aY t 141 (aY t 138 bT (aY t 139 bT (aY t 140 (ky 57) hz))) (aY t 144 (aY t 142 bT (aY t 143 bT (ky 4))) bT)))) (aY t 173 (aY t 160 (aY t 154 bT (aY t 157 (aY t 155 bT (aY t 156 (some ⟨1,8,[.map none],.map 9 3⟩) hz)) bT)) (aY t 166 (aY t 163 (aY t 161 hz (aY t 162 bT hz)) (aY t 164 bT (aY t 165 hz bT))) (aY t 169 bT (aY t 171 (aY t 170 (some ⟨10,80,[.nilFunc,.nilFunc,.nilFunc,.nilFunc,.nilFunc,.nilFunc,.nilFunc,.nilFunc,.nilFunc,.nilFunc],.array 10 168⟩) bT) bT)))) (aY t 185 (aY t 179 (aY t 176 (aY t 174 bT (aY t 175 bT SX)) (aY t 177 SX (some ⟨66,528,[.int .i64 0,.int .u64 0,.int .u64 0,.int .u64 0,.int .u64 0,.int .u64 0,.int .u64 0,.int .u64 0,.int .u64 0,.int .u64 0,.int .u64 0,.int .u64 0,.int .u64 0,.int .u64 0,.int .u64 0,.int .u64 0,.int .u64 0,.int .u64 0,.int .u64 0,.int .u64 0,.int .u64 0,.int .u64 0,.int .u64 0,.int .u64 0,.int .u64 0,.int .u64 0,.int .u64 0,.int .u64 0,.int .u64 0,.int .u64 0,.int .u64 0,.int .u64 0,.int .u64 0,.int .u64 0,.int .u64 0,.int .u64 0,.int .u64 0,.int .u64 0,.int .u64 0,.int .u64 0,.int .u64 0,.int .u64 0,.int .u64 0,.int .u64 0,.int .u64 0,.int .u64 0,.int .u64 0,.int .u64 0,.int .u64 0,.int .u64 0,.int .u64 0,.int .u64 0,.int .u64 0,.int .u64 0,.int .u64 0,.int .u64 0,.int .u64 0,.int .u64 0,.int .u64 0,.int .u64 0,.int .u64 0,.int .u64 0,.int .u64 0,.int .u64 0,.int .u64 0,.int .u64 0],.struct [(3,0),(176,1),(54,65)]⟩))) (aY t 182 (aY t 180 hz bT) bT)) (aY t 191 (aY t 188 bT (aY t 189 bT (aY t 190 (ky 190) (ky 124)))) (aY t 194 bT (aY t 196 bT (aY t 197 bT (ky 254))))))))) (aY t 297 (aY t 247 (aY t 222 (aY t 210 (aY t 204 (aY t 201 (aY t 199 hz bT) (aY t 202 bT (aY t 203 bT (s8 206)))) (aY t 207 (aY t 205 (ky 5) (some ⟨2,32,[.pointer none,.slice none 0 0],.struct [(203,0),(204,1)]⟩)) (aY t 208 bT (some ⟨1,16,[.nilIface],.other⟩)))) (aY t 216 (aY t 213 (aY t 211 hz bT) (aY t 214 hz bT)) (aY t 219 bT (aY t 220 (s8 226) (aY t 221 hz bT))))) (aY t 234 (aY t 228 (aY t 225 (aY t 223 bT (aY t 224 (ky 274) (ky 279))) (aY t 226 SY (aY t 227 SY bT))) (aY t 231 (aY t 229 bT (aY t 230 hz bT)) bT)) (aY t 240 (aY t 237 (aY t 235 (ky 293) (aY t 236 hz bT)) (aY t 238 hz bT)) (aY t 243 (aY t 241 bT (aY t 242 bT Iz)) (aY t 245 (aY t 244 Iz (ky 243)) bT))))) (aY t 272 (aY t 259 (aY t 253 (aY t 250 (aY t 248 (some ⟨2,16,[.int .i64 0,.int .i64 0],.array 2 3⟩) (aY t 249 (some ⟨20,160,List.replicate 20 (.int .i64 0),.array 10 247⟩) bT)) (aY t 251 bT (aY t 252 bT (ky 143)))) (aY t 256 (aY t 254 Iz (aY t 255 Iz bT)) bT)) (aY t 265 (aY t 262 (aY t 260 (s8 5) (aY t 261 hz bT)) (aY t 263 SZ (aY t 264 SZ bT))) (aY t 268 (aY t 266 (some ⟨10,80,[.nilFunc,.nilFunc,.nilFunc,.nilFunc,.nilFunc,.nilFunc,.nilFunc,.nilFunc,.nilFunc,.nilFunc],.array 10 264⟩) (aY t 267 bT (s8 263))) bT))) (aY t 284 (aY t 278 (aY t 275 (aY t 273 bT (some ⟨10,88,[.int .u8 0,.int .i64 0,.int .i64 0,.string ⟨#[]⟩,.int .u64 0,.int .u64 0,.int .u64 0,.int .u64 0,.int .i64 0,.int .i64 0],.struct [(5,0),(3,1),(3,2),(9,3),(56,4),(3,8),(3,9)]⟩)) (aY t 276 bT (aY t 277 hz bT))) (aY t 281 (aY t 279 S0 (aY t 280 S0 hz)) bT)) (aY t 290 (aY t 287 (aY t 285 (s8 279) bT) bT) (aY t 293 (aY t 291 bT (aY t 292 bT S1)) (aY t 295 (aY t 294 S1 bT) (aY t 296 bT S2))))))) (aY t 347 (aY t 322 (aY t 309 (aY t 303 (aY t 300 (aY t 298 S2 (aY t 299 (ky 297) (s8 297))) (aY t 301 bT (aY t 302 bT (some ⟨3,48,[.string ⟨#[]⟩,.string ⟨#[]⟩,.string ⟨#[]⟩],.struct [(9,0),(9,1),(9,2)]⟩)))) (aY t 306 (aY t 304 (some ⟨30,480,List.replicate 30 (.string ⟨#[]⟩),.array 10 302⟩) (aY t 305 bT (some ⟨1,8,[.pointer none],.other⟩))) bT)) (aY t 315 (aY t 312 bT (aY t 313 bT (aY t 314 hz bT))) (aY t 318 (aY t 316 bT (aY t 317 (some ⟨10,80,[.nilFunc,.nilFunc,.nilFunc,.nilFunc,.nilFunc,.nilFunc,.nilFunc,.nilFunc,.nilFunc,.nilFunc],.array 10 315⟩) bT)) bT))) (aY t 334 (aY t 328 bT (aY t 331 (aY t 329 (some ⟨1,8,[.map none],.map 5 332⟩) bT) (aY t 332 bT (aY t 333 bT hz)))) (aY t 340 (aY t 337 (aY t 335 hz bT) (aY t 338 (ky 339) (aY t 339 bT (some ⟨2,2,[.int .u8 0,.int .u8 0],.array 2 5⟩)))) (aY t 343 (aY t 341 (some ⟨3,32,[.int .i64 0,.int .i64 0,.string ⟨#[]⟩],.struct [(3,0),(3,1),(9,2)]⟩) (aY t 342 (some ⟨9,96,[.int .i64 0,.int .i64 0,.string ⟨#[]⟩,.int .i64 0,.int .i64 0,.string ⟨#[]⟩,.int .i64 0,.int .i64 0,.string ⟨#[]⟩],.array 3 340⟩) (some ⟨24,24,List.replicate 24 (.int .u8 0),.array 24 5⟩))) (aY t 345 bT (aY t 346 hz bT)))))) (aY t 372 (aY t 359 (aY t 353 bT (aY t 356 bT (aY t 357 (some ⟨20,160,List.replicate 20 (.int .u64 0),.array 20 54⟩) (aY t 358 (some ⟨1,4,[.int .u32 0],.int .u32⟩) (some ⟨65,65,List.replicate 65 (.int .u8 0),.array 65 5⟩))))) (aY t 365 (aY t 362 (aY t 360 bT (aY t 361 hz bT)) (aY t 363 bT (aY t 364 hz bT))) (aY t 368 (aY t 366 hz bT) (aY t 370 (aY t 369 (s8 373) bT) (aY t 371 bT (some ⟨1,8,[.map none],.map 5 5⟩)))))) (aY t 384 (aY t 378 (aY t 375 (aY t 373 S3 (aY t 374 S3 hz)) bT) (aY t 381 (aY t 379 (some ⟨64,64,List.replicate 64 (.int .u8 0),.array 64 5⟩) (aY t 380 (some ⟨32,32,List.replicate 32 (.int .u8 0),.array 32 5⟩) bT)) (aY t 382 bT (aY t 383 bT hz)))) (aY t 390 (aY t 387 (aY t 385 bT (some ⟨4,40,[.pointer none,.pointer none,.pointer none,.string ⟨#[]⟩],.struct [(17,0),(17,1),(17,2),(9,3)]⟩)) (aY t 388 (some ⟨0,0,[],.array 0 16⟩) (some ⟨0,0,[],.struct [(387,0)]⟩))) (aY t 393 (aY t 391 Iy (aY t 392 Iy bT)) (aY t 395 SO (some ⟨11,48,[.int .u64 0,.int .u64 0,.int .u32 0,.int .u8 0,.int .u8 0,.int .u8 0,.int .u8 0,.nilFunc,.pointer none,.int .i32 0,.int .i32 0],.struct [(12,0),(12,1),(357,2),(390,3),(5,4),(5,5),(391,6),(392,7),(259,8),(393,9),(394,10)]⟩)))))))))else none
def aT:cY Tryz.prog nI:=abv 397 (λt h=>by
 have bh:Nat.blt t 397=false:=by
  cases ag:Nat.blt t 397 with
  |false=>rfl| true=>exact absurd (bN ag) (by omega)
 simp only[nI,bh,bd]) (by kernel_rfl)
def letter(c:UInt8):Bool:=decide (97<=c.toNat/\c.toNat<=122)||(decide (65<=c.toNat/\c.toNat<=90)||decide (c.toNat=95))
def digit(c:UInt8):Bool:=decide (48<=c.toNat/\c.toNat<=57)
def S4(I:aH)(c:UInt8):Spec Tryz.prog 186 [.int .u8 c.toNat] I [] (λv I' M'=>v=.bool (letter c)/\I'=I/\M'=[]):=by
 refine bU [] aT Tryz.func186 rfl rfl rfl ?_;intro B aq
 repeat' (refine bP.mk (λh=>?_) (λh=>?_))
 all_goals
  refine⟨_,_,.refl,?_⟩;refine⟨?_,rfl,rfl⟩;simp_all[letter]
  all_goals first
   |omega|(rw[pQ];simp;omega)
def acn(I:aH)(c:UInt8):Spec Tryz.prog 187 [.int .u8 c.toNat] I [] (λv I' M'=>v=.bool (digit c)/\I'=I/\M'=[]):=by
 refine bU [] aT Tryz.func187 rfl rfl rfl ?_;intro B aq
 repeat' (refine bP.mk (λh=>?_) (λh=>?_))
 all_goals
  refine⟨_,_,.refl,?_⟩;refine⟨?_,rfl,rfl⟩;simp_all[digit]
  all_goals first
   |omega|(rw[pQ];simp;omega)
def Av(s:ByteArray):s.data.toList.length=s.size:=ym
def aco(I:aH)(s:ByteArray)(ap:s.size<=140737488355328):Spec Tryz.prog 224 [.string s] I [] (λv I' M'=>v=.string s/\I'=I/\M'=[]):=by
 refine bU [] aT Tryz.func224 rfl rfl rfl ?_;intro B aq;refine aI.mk (λh=>?_) (λh=>?_)
 ·refine⟨_,_,.refl,?_,rfl,rfl⟩;have U:s.size=0:=by simpa using h
  have:s=.empty:=by apply qP;exact ET U
  rw[this];rfl
 ·have U:s.size≠0:=by simpa using h
  refine qR.mk s.size s.size rfl rfl (b1 _) (by show 1*s.size<=_;omega) (by omega) ?_;refine cw.mk λb ag r8=>?_;refine bp.SL aT rfl (by simp) (e:=5) rfl rfl rfl rfl rfl rfl (b1 _) ?_ (.refl _) ?_;·simp[Cf,madeCells]
  refine a7.mk ⟨b,0,none⟩ 0 rfl rfl (by omega) ?_;refine bp.Ml aT rfl (by simp) (e:=5) rfl rfl rfl rfl (g:=b) (l:=s.data.toList) rfl ?_ ?_ ?_ (.refl _) ?_ ?_;·show dD.val (.int .i64 (s.size:Int))=dD.val (.int .i64 (s.data.toList.length:Int));rw[Av]
  ·intro e;have:=congrArg List.length e;rw[Av]at this;exact U this
  ·rw[Av];omega
  ·rw[Av];have aw:(kZ s).length=s.size:=by simp[kZ]
   simp only[bO];rw[r5,lD,EU (by rw[aw];exact b1 _),<-aw,If];rfl
  ·exact⟨_,_,.refl,rfl,rfl,rfl⟩
def S5(I:aH)(s:ByteArray)(ap:s.size<=140737488355328):Spec Tryz.prog 188 [.string s] I [] (λv I' M'=>v=.string s/\I'=I/\M'=[]):=by refine bU [] aT Tryz.func188 rfl rfl rfl ?_;intro B aq;refine aZ.mk [] [] _ (.refl _) (aco I s ap) ?_;rintro v I' M' -⟨rfl,rfl,rfl⟩;exact⟨_,_,.refl,rfl,rfl,rfl⟩
def l2(c:UInt8):Bool:=letter c||digit c
def l3(s:ByteArray):Nat:=match s.data.toList with
 |[]=>0| c::r=>bif letter c then 1+(r.takeWhile l2).length else 0
def S6{α:Type}(p:α->Bool):∀ (l:List α) (i:Nat),i<=l.length->(∀ j (h:j<l.length),j<i->p l[j]=true)->(∀ (h:i<l.length),p l[i]=false)->(l.takeWhile p).length=i
 |[],i,h,_,_=>by simp at h;simp[h]
 |x::l,0,_,_,h=>by have:=h (by simp);simp only[Ae]at this;simp[this]
 |x::l,i+1,hi,U,aa=>by have ab:=U 0 (by simp) (by omega);simp only[Ae]at ab;have bc:=S6 p l i (by simpa using hi) (λj ak It=>by have:=U (j+1) (by simpa using ak) (by omega);simpa using this) (λh=>by have:=aa (by simpa using h);simpa using this);simp[ab,bc]
def S7{s:ByteArray}(aq:0<s.size)(aw:letter s[0]=true){i:Nat}(U:1<=i)(hi:i<=s.size)(ax:∀ j (h:j<s.size),1<=j->j<i->l2 s[j]=true)(ag:∀ (h:i<s.size),l2 s[i]=false):l3 s=i:=by
 have get:∀ j (h:j<s.size),s[j]=s.data.toList[j]'(by rw[Av];exact h):=λj h=>rfl;unfold l3;have bY:=Av s;cases ah:s.data.toList with
 |nil=>rw[ah]at bY;simp at bY;omega
 |cons c r=>
  have g:∀ j (h:j<s.size),s[j]=(c::r)[j]'(by rw[<-ah,bY];exact h):=λj h=>by rw[get j h];simp only[ah]
  rw[ah]at bY;have aN:letter c=true:=by rw[g 0 aq]at aw;simpa using aw
  simp only[aN,bg];simp only[dL]at bY;rw[S6 l2 r (i-1) (by omega) (λj ak It=>by
   have ae:j+1<s.size:=by omega
   have:=ax (j+1) ae (by omega) (by omega);rw[g (j+1) ae]at this;simpa using this) (λh=>by
   have ae:i<s.size:=by omega
   have:=ag ae;rw[g i ae]at this;have e:i=(i-1)+1:=by omega
   rw[List.getElem_cons]at this;rw[dif_neg (by omega)]at this;exact this)]
  omega
def acp(I:aH)(s:ByteArray)(ap:s.size<=140737488355328):Spec Tryz.prog 142 [.string s] I [] (λv I' M'=>v=.string (s.extract 0 (l3 s))/\I'=I/\M'=[]):=by
 refine bU [] aT Tryz.func142 rfl rfl rfl ?_;intro B aq;have cd:∀ {s:ByteArray},l3 s=0->s.extract 0 (l3 s)=⟨#[]⟩:=λh=>by rw[h];apply qP;simp[Cc]
 refine bP.mk (λh=>?_) (λh=>?_)
 ·have U:s≠⟨#[]⟩:=by simpa using h
  have kP:0<s.size:=by refine Nat.pos_of_ne_zero λe=>U ?_;apply qP;exact ET e
  refine qQ.mk 0 rfl kP ?_;refine aZ.mk [] [] _ (.refl _) (S4 I s[0]) ?_;rintro v I' M' -⟨rfl,rfl,rfl⟩;refine aI.mk (λh=>?_) (λh=>?_)
  ·have aw:letter s[0]=false:=by simpa using h
   refine⟨_,_,.refl,?_,rfl,rfl⟩;rw[cd]
   ·unfold l3;cases ah:s.data.toList with
    |nil=>rfl
    |cons c r=>
     have:s[0]=c:=by show s.data.toList[0]=c;simp only[ah];rfl
     rw[this]at aw;simp[aw]
  ·have aw:letter s[0]=true:=by simpa using h
   refine cx.inv (ι:=Nat) (λi=>{ cc:=[(0,.val (.string s)),(3,.val (.int .i64 i))],ck:=I' }) (λi=>1<=i/\i<=s.size/\∀ j (h:j<s.size),1<=j->j<i->l2 s[j]=true) (λi=>s.size-i) ?_ ?_;·exact⟨1,⟨by omega,by omega,λj _ U aa=>by omega⟩,.refl,kS,.nil⟩
   ·rintro i⟨eA,gw,gW⟩;have next:∀ (aO:i<s.size),l2 s[i]=true->(1<=i+1/\i+1<=s.size/\∀ k (h:k<s.size),1<=k->k<i+1->l2 s[k]=true)/\s.size-(i+1)<s.size-i:=λaO aN=>
     ⟨⟨by omega,by omega,λj ak U aa=>by
      by_cases e:j=i;·subst e;exact aN
      ·exact gW j ak U (by omega)⟩,by omega⟩
    have out:(∀ (h:i<s.size),l2 s[i]=false)->s.extract 0 i=s.extract 0 (l3 s):=λan=>by rw[S7 kP aw eA gw gW an]
    have cr:(s.extract 0 i).size<=140737488355328:=by rw[EW];omega
    have e3:IntKind.i64.wrap ((i:Int)+1)=((i+1:Nat):Int):=by rw[wrap_i64 ⟨by omega,by omega⟩];omega
    refine bP.mk (λh=>?_) (λh=>?_)
    ·have aO:i<s.size:=by simpa using h
     refine qQ.mk i rfl aO ?_;refine aZ.mk [] [] _ (.refl _) (S4 I' s[i]) ?_;rintro v I' M' -⟨rfl,rfl,rfl⟩;refine bP.mk (λh=>?_) (λh=>?_)
     ·refine qQ.mk i rfl aO ?_;refine aZ.mk [] [] _ (.refl _) (acn _ s[i]) ?_;rintro v I' M' -⟨rfl,rfl,rfl⟩;refine aI.mk (λaa=>?_) (λaa=>?_)
      ·refine aW.mk _ e3 ?_;exact⟨i+1,next aO (by simp only[l2];rw[show digit s[i]=true from aa];simp),.refl,kS,.nil⟩
      ·refine jl.mk 0 i rfl rfl (by omega) (by omega) ?_;refine aZ.mk [] [] _ (.refl _) (S5 _ _ cr) ?_;rintro v I' M' -⟨rfl,rfl,rfl⟩;refine⟨_,_,.refl,?_,rfl,rfl⟩;rw[<-out λ_=>by simp only[l2];rw[show letter s[i]=false from h,show digit s[i]=false from aa];rfl]
     ·refine aW.mk _ e3 ?_;exact⟨i+1,next aO (by simp only[l2];rw[show letter s[i]=true from h];simp),.refl,kS,.nil⟩
    ·have cI:¬ i<s.size:=by simpa using h
     refine jl.mk 0 i rfl rfl (by omega) (by omega) ?_;refine aZ.mk [] [] _ (.refl _) (S5 _ _ cr) ?_;rintro v I' M' -⟨rfl,rfl,rfl⟩;refine⟨_,_,.refl,?_,rfl,rfl⟩;rw[<-out λh=>(cI h).elim]
 ·have U:s=⟨#[]⟩:=by simpa using h
  subst U;refine⟨_,_,.refl,?_,rfl,rfl⟩;rw[cd];rfl
def hA(s:ByteArray):Bool:=decide (s≠⟨#[]⟩)&&(decide (s.size<=32)&&decide (l3 s=s.size))
def S8(s:ByteArray):l3 s<=s.size:=by
 unfold l3;have aw:=Av s;cases ah:s.data.toList with
 |nil=>simp
 |cons c r=>
  rw[ah]at aw;simp only[dL]at aw;simp only;cases letter c;·simp
  ·simp only[bg];have:=(List.takeWhile_sublist (p:=l2) (l:=r)).length_le;omega
def Mq(I:aH)(s:ByteArray):Spec Tryz.prog 95 [.string s] I [] (λv I' M'=>v=.bool (hA s)/\I'=I/\M'=[]):=by
 refine bU [] aT Tryz.func95 rfl rfl rfl ?_;intro B aq;refine bP.mk (λU=>?_) (λU=>?_)
 ·refine bP.mk (λaa=>?_) (λaa=>?_)
  ·have k1:s.size<=32:=by simp at aa;omega
   refine aZ.mk [] [] _ (.refl _) (acp I s (by omega)) ?_;rintro v I' M' -⟨rfl,rfl,rfl⟩;refine⟨_,_,.refl,?_,rfl,rfl⟩;have bk:=S8 s;have aC:(s.extract 0 (l3 s)).size=l3 s:=by rw[EW];omega
   simp_all[hA]
   all_goals omega
  ·refine⟨_,_,.refl,?_,rfl,rfl⟩;simp_all[hA]
   all_goals omega
 ·refine⟨_,_,.refl,?_,rfl,rfl⟩;simp_all[hA]
def m0:List Int:=[0,0,0,0,0,0,0,0,2,-1,2,-1,1,1,1,1,1,1,1,1]
def s9(k:Nat):Int:=m0.getD (k*2) 0
def p9(k:Nat):Int:=m0.getD (k*2+1) 0
def nJ(I:aH):Prop:=∃ T aj,I 0=some (.cells (m0.map (Value.int .i64)).toArray T aj)
def nJ.rd{I:aH}(h:nJ I)(M:List aE){j:Nat}(ak:j<20):bD I M (Addr.add ⟨0,0,none⟩ j) 1 [.int .i64 (m0.getD j 0)]:=by
 obtain⟨T,aj,h⟩:=h;rw[ei _ rfl];refine⟨rfl,_,T,aj,.inl h,?_,rfl⟩;simp only[dK];have:∀ j:Fin 20,(((m0.map (Value.int .i64)).toArray.toList.drop j.val).take 1)=[Value.int .i64 (m0.getD j.val 0)]:=by
  intro j;have U:j.val<(m0.map (Value.int .i64)).length:=by simp[m0]
  rw[Lz,eE U,pX,r5];have aa:j.val<m0.length:=by simp[m0]
  simp[dI,aa]
 exact this ⟨j,ak⟩
def nJ.acq{I:aH}(h:nJ I)(M:List aE){i j:Nat}(ak:i+j<20):bD I M ((Addr.add ⟨0,0,none⟩ i).add j) 1 [.int .i64 (m0.getD (i+j) 0)]:=by
 have e:(Addr.add ⟨0,0,none⟩ i).add j=Addr.add ⟨0,0,none⟩ (i+j):=by rw[ei ⟨_,0,none⟩ rfl i,ei _ rfl j,ei _ rfl (i+j)];simp
 rw[e];exact h.rd M ak
def a3.p'(d:a3):Bool:=d.fY == 0&&(d.s1 == 0&&(d.s2 == 0&&d.gM == 0))
def fits(d:a3)(n:Int):Bool:=
 bif decide (10<=d.k)then false else
 bif decide (n<s9 d.k.toNat)||(decide (0<=p9 d.k.toNat)&&decide (p9 d.k.toNat<n))then false else
 bif decide (d.k=1)then decide (d.t=⟨#[]⟩)&&(decide (d.lo=0)&&decide (d.hi=0))else
 bif decide (d.k=2)then(!(decide (d.t=⟨#[]⟩)||decide (255<d.t.size)))&&(d.p'&&(decide (d.lo=0)&&decide (d.hi=0)))else
 bif decide (d.k=3)||decide (d.k=9)then hA d.t&&(d.p'&&(decide (d.lo=0)&&decide (d.hi=0)))else
 bif decide (d.k=6)then(!(decide (d.lo<0)||(decide (99<d.lo)||(decide (d.hi≠-1)&&(decide (d.hi<d.lo)||decide (99<d.hi))))))&&(d.p'&&decide (d.t=⟨#[]⟩))else
 d.p'&&(decide (d.t=⟨#[]⟩)&&(decide (d.lo=0)&&decide (d.hi=0)))
set_option maxHeartbeats 4000000 in
def S9{I:aH}(aN:nJ I){d:a3}(ah:d.ok I)(n:Int):Spec Tryz.prog 110 [d.val,.int .i64 n] I [] (λv I' M'=>v=.bool (fits d n)/\I'=I/\M'=[]):=by
 refine bU [] aT Tryz.func110 rfl rfl rfl ?_;intro B aq;have af:=ah.k;refine aW.mk d.k (by unfold IntKind.wrap;simp[IntKind.bits,IntKind.signed];omega) ?_;refine aI.mk (λh=>?_) (λh=>?_)
 ·refine⟨_,_,.refl,?_,rfl,rfl⟩;simp at h;simp[fits,h]
 ·have o8:d.k<10:=by simpa using h
  have ak:d.k=((d.k.toNat:Nat):Int):=by omega
  have S':d.k.toNat<10:=by omega
  refine cU.draw aT rfl rfl rfl ?_;refine eN.mk d.k.toNat ak S' ?_;refine eN.mk 0 rfl (by omega) ?_;refine aD.mk [.int .i64 (s9 d.k.toNat)] (aN.rd _ (j:=d.k.toNat*2) (by omega)) ?_;refine eN.mk d.k.toNat ak S' ?_;refine eN.mk 1 rfl (by omega) ?_;refine aD.mk [.int .i64 (p9 d.k.toNat)] (aN.acq _ (i:=d.k.toNat*2) (j:=1) (by omega)) ?_
  repeat' first
   |refine bP.mk (λh=>?_) (λh=>?_)| refine aI.mk (λh=>?_) (λh=>?_)| refine cC.Mj aT (e:=54) rfl rfl rfl rfl (by kernel_rfl) ?_|(refine aZ.mk [] [] _ (.refl _) (Mq _ _) ?_;rintro v I' M' -⟨rfl,rfl,rfl⟩)
  all_goals refine⟨_,_,.refl,?_⟩
  all_goals refine⟨?_,rfl,rfl⟩
  all_goals clear aN ah ak
  all_goals (first | (simp_all[fits,a3.p'];done) | (simp_all[fits,a3.p'];omega) | (simp_all[fits,a3.p'];rw[pQ];simp;omega))
def jO(i:Nat):List Int->List Bool->Option (List Bool)
 |[],s=>some s| k::ks,s=>bif decide (k<0)||(decide ((i:Int)<=k)||s.getD k.toNat false)then none else jO i ks (s.set k.toNat true)
def hB:Nat->List a3->List Bool->Option (List Bool)
 |_,[],s=>some s
 |i,d::ds,s=>bif fits d d.aM.length then(match jO i d.aM s with
  |some cB=>hB (i+1) ds cB| none=>none)else none
def o9(bJ:Int):Nat->List Bool->Bool
 |_,[]=>true| i,b::s=>bif b == decide ((i:Int)=bJ)then false else o9 bJ (i+1) s
def right(t:bB):Bool:=decide (0<=t.bJ)&&(decide (t.bJ<t.ns.length)&&(match hB 0 t.ns (List.replicate t.ns.length false)with
 |some s=>o9 t.bJ 0 s| none=>false))
def yC(v:Value)(n:Nat):rowOf [v] n=List.replicate n v:=by
 apply yp
 ·simp[Cf,madeCells]
 ·intro i U aa;simp[Cf,madeCells,Nat.mod_one]
def yD(b:Nat)(s:List Bool):aE:=⟨b,.cells (s.map Value.bool).toArray 4 (0,0)⟩
def Ta{I:aH}{b:Nat}{s:List Bool}(bb:yD b s∈M){j:Nat}(ak:j<s.length):bD I M ((⟨b,0,none⟩:Addr).add (j*1)) 1 [.bool s[j]]:=by
 rw[ei _ rfl];refine⟨rfl,_,4,(0,0),.inr ⟨_,bb,rfl,rfl⟩,?_,rfl⟩;have U:j<(s.map Value.bool).length:=by simpa using ak
 simp only[dK,h4];rw[eE U,pX,r5];simp
def acr(s:List Bool)(j:Nat)(ak:j<s.length)(b:Bool):bO (s.map Value.bool) j [.bool b]=(s.set j b).map Value.bool:=by unfold bO;rw[Ih,Ib];simp[ak]
def cV.add{b o k:Nat}(a9 post:List aE)(cs:Array Value)(T:Nat)(bb:M=a9++⟨b,.cells cs T (0,0)⟩::post)(ag:o+k+vs.length<=cs.size)(U:gI vs=true)
  (h:K (a9++⟨b,.cells (bO cs.toList (o+k) vs).toArray T (0,0)⟩::post)):cV M ((⟨b,o,none⟩:Addr).add k) vs K:=by
 rw[ei _ rfl];exact .mk a9 post cs T bb rfl ag U h
def cV.oh{b o k:Nat}(a9 post:List aE)(cs:List Value)(T:Nat)(bb:M=a9++⟨b,.cells cs.toArray T (0,0)⟩::post)(ag:Nat.ble (o+k+vs.length) cs.length=true)(U:gI vs=true)(cs':List Value)(he:bO cs (o+k) vs=cs')(h:K (a9++⟨b,.cells cs'.toArray T (0,0)⟩::post)):cV M ((⟨b,o,none⟩:Addr).add k) vs K:=
 cV.add a9 post _ _ bb (by simpa using bN ag) U (by rw[<-he]at h;exact h)
def CB{I:aH}(aN:nJ I){t:bB}(au:t.ok I):Spec Tryz.prog 62 [t.val] I [] (λv I' M'=>v=.bool (right t)/\I'=I/\M'=[]):=by
 refine bU [] aT Tryz.func62 rfl rfl rfl ?_;intro B aq;have an:=au.n;have k2:=au.a2.cap;refine bP.mk (λU=>?_) (λU=>?_)
 ·refine aI.mk (λaa=>?_) (λaa=>?_)
  ·refine⟨_,_,.refl,?_,rfl,rfl⟩;simp at aa;have:¬ t.bJ<t.ns.length:=by omega
   simp[right,this]
  ·have aV:0<=t.bJ:=by simpa using U
   have aX:t.bJ<t.ns.length:=by simp at aa;omega
   refine qR.mk t.n t.n rfl rfl (b1 _) (by show 1*t.n<=_;omega) (by omega) ?_;refine cw.mk λb ag r8=>?_;refine cx.inv (ι:=Nat×List Bool) (λx=>{ cc:=[(1,.ref 1 0),(3,.val (.slice (some ⟨b,0,none⟩) t.n t.n)),(26,.val (.slice t.a t.n t.c)),(27,.val (.int .i64 t.n)),(28,.val (.int .i64 x.1))],cl:=[(1,t.cells)],ck:=I,de:=[yD b x.2] }) (λx=>x.1<=t.n/\x.2.length=t.n/\hB 0 t.ns (List.replicate t.ns.length false)=hB x.1 (t.ns.drop x.1) x.2) (λx=>t.n-x.1) ?_ ?_;·refine⟨(0,List.replicate t.n false),⟨by omega,by simp,by simp[an]⟩,?_,ja,.cons rfl .nil⟩;show h1 _ _ [⟨b,.cells (rowOf [Value.bool false] (t.n*1)).toArray 4 (0,0)⟩] _ [yD b (List.replicate t.n false)];rw[yC,h4];simp only[yD,Ic];exact .refl
   ·rintro⟨i,s⟩⟨eA,gw,gW⟩;simp only at eA gw gW;refine aI.mk (λh=>?_) (λh=>?_)
    ·have aO:i<t.n:=by simpa using h
     have bG:i<t.ns.length:=by omega
     obtain⟨ad,bI,bl⟩:=au.a2.row a3.da aO bG;have fQ:=au.ns t.ns[i] (cZ bG);have eg:=fQ.kn;have fp:t.ns.drop i=t.ns[i]::t.ns.drop (i+1):=eE bG;refine a7.mk ad i bI rfl aO ?_;refine aD.mk t.ns[i].cells (bl _) ?_;refine aZ.mk [] [yD b s] _ (.refl _) (S9 aN fQ t.ns[i].kn) ?_;rintro v I' M' -⟨rfl,rfl,rfl⟩;refine aI.mk (λae=>?_) (λae=>?_)
     ·refine⟨_,_,.sub (eG _) .refl,?_,rfl,rfl⟩;have aF:fits t.ns[i] t.ns[i].aM.length=false:=by rw[eg];simpa using ae
      have:right t=false:=by unfold right;rw[gW,fp];simp[hB,aF]
      rw[this]
     ·have aF:fits t.ns[i] t.ns[i].aM.length=true:=by rw[eg];simpa using ae
      refine cx.inv (ι:=Nat×List Bool) (λx=>{ cc:=[(1,.ref 1 0),(3,.val (.slice (some ⟨b,0,none⟩) t.n t.n)),(4,.val (.int .i64 i)),(26,.val (.slice t.a t.n t.c)),(27,.val (.int .i64 t.n)),(28,.val (.int .i64 i)),(40,.val (.slice t.ns[i].hK t.ns[i].kn t.ns[i].hk)),(41,.val (.int .i64 t.ns[i].kn)),(42,.val (.int .i64 x.1))],cl:=[(1,t.cells)],ck:=I',de:=[yD b x.2] }) (λx=>x.1<=t.ns[i].kn/\x.2.length=t.n/\jO i t.ns[i].aM s=jO i (t.ns[i].aM.drop x.1) x.2) (λx=>t.ns[i].kn-x.1) ?_ ?_;·exact⟨(0,s),⟨by omega,gw,rfl⟩,.refl,vr,.cons rfl .nil⟩
      ·rintro⟨j,cB⟩⟨pb,q9,yE⟩;simp only at pb q9 yE;refine aI.mk (λh=>?_) (λh=>?_)
       ·have fq:j<t.ns[i].kn:=by simpa using h
        have j7:j<t.ns[i].aM.length:=by omega
        obtain⟨dh,ev,dV⟩:=fQ.a2.one fq j7;refine a7.mk dh j ev rfl fq ?_;refine aD.mk [.int .i64 t.ns[i].aM[j]] (dV _) ?_;have hL:t.ns[i].aM.drop j=t.ns[i].aM[j]::t.ns[i].aM.drop (j+1):=eE j7;have bad:(decide (t.ns[i].aM[j]<0)||(decide ((i:Int)<=t.ns[i].aM[j])||cB.getD t.ns[i].aM[j].toNat false))=true->right t=false:=λag=>by unfold right;rw[gW,fp];simp only[hB,aF,bg,yE,hL,jO,ag];simp
        refine bP.mk (λaR=>?_) (λaR=>?_)
        ·refine bP.mk (λbn=>?_) (λbn=>?_)
         ·simp only[oY,Int.not_lt,Int.not_le]at aR bn;have dY:t.ns[i].aM[j]=((t.ns[i].aM[j].toNat:Nat):Int):=by omega
          have fz:t.ns[i].aM[j].toNat<t.n:=by omega
          have kz:t.ns[i].aM[j].toNat<cB.length:=by omega
          refine a7.mk ⟨b,0,none⟩ t.ns[i].aM[j].toNat rfl dY fz ?_;refine aD.mk [.bool cB[t.ns[i].aM[j].toNat]] (Ta (by simp) kz) ?_;refine aI.mk (λb2=>?_) (λb2=>?_);·refine⟨_,_,.sub (eG _) .refl,?_,rfl,rfl⟩;rw[bad];simp[dI,kz,b2]
          ·refine a7.mk ⟨b,0,none⟩ t.ns[i].aM[j].toNat rfl dY fz ?_;refine cV.add [] [] _ 4 rfl ?_ rfl ?_
           ·simp only[qY,dx];show 0+t.ns[i].aM[j].toNat*1+1<=_;omega
           have e3:IntKind.i64.wrap ((j:Int)+1)=((j+1:Nat):Int):=by rw[wrap_i64 ⟨by omega,by have:=fQ.a2.cap;omega⟩];omega
           refine aW.mk _ e3 ?_;refine⟨(j+1,cB.set t.ns[i].aM[j].toNat true),⟨⟨by omega,by simp[q9],?_⟩,by show _<_;simp only;omega⟩,?_,vr,.cons rfl .nil⟩
           ·simp only;rw[yE,hL];have az:(decide (t.ns[i].aM[j]<0)||(decide ((i:Int)<=t.ns[i].aM[j])||cB.getD t.ns[i].aM[j].toNat false))=false:=by
             have aC:¬ t.ns[i].aM[j]<0:=by omega
             have ay:¬ (i:Int)<=t.ns[i].aM[j]:=by omega
             simp[aC,ay,dI,kz,show cB[t.ns[i].aM[j].toNat]=false from b2]
            simp only[jO,az,bd]
           ·have e:=acr cB t.ns[i].aM[j].toNat kz true;simp only[yD];rw[<-e];simp only[dK,h4];exact .refl
         ·refine⟨_,_,.sub (eG _) .refl,?_,rfl,rfl⟩;rw[bad];simp at bn;simp[bn]
        ·refine⟨_,_,.sub (eG _) .refl,?_,rfl,rfl⟩;rw[bad];simp at aR;simp[aR]
       ·have fq:¬ j<t.ns[i].kn:=by simpa using h
        have uf:t.ns[i].aM.drop j=[]:=hJ (by omega);have e3:IntKind.i64.wrap ((i:Int)+1)=((i+1:Nat):Int):=by rw[wrap_i64 ⟨by omega,by omega⟩];omega
        refine aW.mk _ e3 ?_;refine⟨(i+1,cB),⟨⟨by omega,q9,?_⟩,by show _<_;simp only;omega⟩,.refl,ja,.cons rfl .nil⟩;simp only;rw[gW,fp];simp only[hB,aF,bg,yE,uf,jO]
    ·have cI:¬ i<t.n:=by simpa using h
     have fv:t.ns.drop i=[]:=hJ (by omega);have eT:hB 0 t.ns (List.replicate t.ns.length false)=some s:=by rw[gW,fv];rfl
     have ao:right t=o9 t.bJ 0 s:=by unfold right;rw[eT];simp[aV,aX]
     refine cx.inv (ι:=Nat) (λm=>{ cc:=[(1,.ref 1 0),(64,.val (.slice (some ⟨b,0,none⟩) t.n t.n)),(65,.val (.int .i64 t.n)),(66,.val (.int .i64 m))],cl:=[(1,t.cells)],ck:=I,de:=[yD b s] }) (λm=>m<=t.n/\o9 t.bJ 0 s=o9 t.bJ m (s.drop m)) (λm=>t.n-m) ?_ ?_;·exact⟨0,⟨by omega,rfl⟩,.refl,ec,.cons rfl .nil⟩
     ·rintro m⟨vI,pc⟩;refine aI.mk (λh=>?_) (λh=>?_)
      ·have xf:m<t.n:=by simpa using h
       have Tb:m<s.length:=by omega
       have nK:s.drop m=s[m]::s.drop (m+1):=eE Tb;refine a7.mk ⟨b,0,none⟩ m rfl rfl xf ?_;refine aD.mk [.bool s[m]] (Ta (by simp) Tb) ?_;refine aI.mk (λeh=>?_) (λeh=>?_)
       ·refine⟨_,_,.sub (eG _) .refl,?_,rfl,rfl⟩;have:right t=false:=by rw[ao,pc,nK];simp only[o9,show(s[m] == decide ((m:Int)=t.bJ))=true from eh,bg]
        rw[this]
       ·have e3:IntKind.i64.wrap ((m:Int)+1)=((m+1:Nat):Int):=by rw[wrap_i64 ⟨by omega,by omega⟩];omega
        refine aW.mk _ e3 ?_;refine⟨m+1,⟨⟨by omega,?_⟩,by omega⟩,.refl,ec,.cons rfl .nil⟩;rw[pc,nK];simp only[o9,show(s[m] == decide ((m:Int)=t.bJ))=false from eh,bd]
      ·have xf:¬ m<t.n:=by simpa using h
       have nK:s.drop m=[]:=hJ (by omega);refine⟨_,_,.sub (eG _) .refl,?_,rfl,rfl⟩;rw[ao,pc,nK];rfl
 ·refine⟨_,_,.refl,?_,rfl,rfl⟩;have:¬ 0<=t.bJ:=by simp at U;omega
  simp[right,this]
def mG(b:Nat)(s:List Int):aE:=⟨b,.cells (s.map (Value.int .i64)).toArray 3 (0,0)⟩
def Ms{I:aH}{b:Nat}{s:List Int}(bb:mG b s∈M){j:Nat}(ak:j<s.length):bD I M ((⟨b,0,none⟩:Addr).add (j*1)) 1 [.int .i64 s[j]]:=by
 rw[ei _ rfl];refine⟨rfl,_,3,(0,0),.inr ⟨_,bb,rfl,rfl⟩,?_,rfl⟩;have U:j<(s.map (Value.int .i64)).length:=by simpa using ak
 simp only[dK,h4];rw[eE U,pX,r5];simp
def yF{I:aH}{b:Nat}{s:List Int}{v:Int}{j:Nat}(ak:j<s.length)(ai:s[j]=v)(bb:mG b s∈M):bD I M ((⟨b,0,none⟩:Addr).add (j*1)) 1 [.int .i64 v]:=ai ▸ Ms bb ak
def Fp(s:List Int)(j:Nat)(ak:j<s.length)(b:Int):bO (s.map (Value.int .i64)) j [.int .i64 b]=(s.set j b).map (Value.int .i64):=by unfold bO;rw[Ih,Ib];simp[ak]
def acs{I:aH}(aN:nJ I){t:bB}(au:t.ok I):Spec Tryz.prog 39 [t.val] I [] (λv I' M'=>v=.int .i64 (bif right t then(t.n:Int)else 0)/\I'=I/\M'=[]):=by
 refine bU [] aT Tryz.func39 rfl rfl rfl ?_;intro B aq;refine aZ.mk [] [] _ (.refl _) (CB aN au) ?_;rintro v I' M' -⟨rfl,rfl,rfl⟩;refine aI.mk (λh=>?_) (λh=>?_)
 ·refine⟨_,_,.refl,?_,rfl,rfl⟩;rw[show right t=false by simpa using h];rfl
 ·refine⟨_,_,.refl,?_,rfl,rfl⟩;rw[show right t=true by simpa using h];rfl
def Tc{i:Nat}:∀ {ks:List Int} {s cB:List Bool},jO i ks s=some cB->∀ k∈ks,0<=k/\k<i
 |[],s,cB,_,k,af=>by cases af
 |x::ks,s,cB,h,k,af=>by
  unfold jO at h;cases ag:(decide (x<0)||(decide ((i:Int)<=x)||s.getD x.toNat false))with
  |true=>rw[ag]at h;cases h
  |false=>
   rw[ag]at h;simp only[nC,oY]at ag;rcases et.1 af with rfl | af;·omega
   ·exact Tc h k af
def Td:∀ {i:Nat} {ds:List a3} {s cB:List Bool},hB i ds s=some cB->∀ j (h:j<ds.length),∀ k∈ds[j].aM,0<=k/\k<(i+j:Nat)
 |i,[],s,cB,_,j,ak,_,_=>by cases ak
 |i,d::ds,s,cB,h,j,ak,k,af=>by
  unfold hB at h;cases aF:fits d d.aM.length with
  |false=>rw[aF]at h;cases h
  |true=>
   rw[aF]at h;simp only[bg]at h;cases ar:jO i d.aM s with
   |none=>rw[ar]at h;cases h
   |some s1=>
    rw[ar]at h;cases j with
    |zero=>exact Tc ar k (by simpa using af)| succ j=>have:=Td h j (by simpa using ak) k (by simpa using af);omega
def r9{t:bB}(h:right t=true):∀ j (ak:j<t.ns.length),∀ k∈t.ns[j].aM,0<=k/\k<j:=by
 unfold right at h;simp only[cA]at h;obtain⟨_,_,h⟩:=h;split at h
 ·rename_i s ap;intro j ak k af;have:=Td ap j ak k af;omega
 ·cases h
def CC{t:bB}(h:right t=true):0<=t.bJ/\t.bJ<t.ns.length:=by unfold right at h;simp only[cA,e7]at h;exact⟨h.1,h.2.1⟩
def yG(ee:List Int):List Int->Int->Int
 |[],m=>m| k::ks,m=>yG ee ks (max m (ee.getD k.toNat 0))
def q':Nat->List a3->List Int->List Int
 |_,[],ee=>ee| i,d::ds,ee=>q' (i+1) ds (ee.set i (yG ee d.aM 0+1))
def depth(t:bB):Int:=bif right t then(q' 0 t.ns (List.replicate t.ns.length 0)).getD t.bJ.toNat 0 else 0
def acu{I:aH}(aN:nJ I){t:bB}(au:t.ok I):Spec Tryz.prog 43 [t.val] I [] (λv I' M'=>v=.int .i64 (depth t)/\I'=I/\M'=[]):=by
 refine bU [] aT Tryz.func43 rfl rfl rfl ?_;intro B aq;have an:=au.n;have k2:=au.a2.cap;refine aZ.mk [] [] _ (.refl _) (CB aN au) ?_;rintro v I' M' -⟨rfl,rfl,rfl⟩;refine aI.mk (λh=>?_) (λh=>?_)
 ·refine⟨_,_,.refl,?_,rfl,rfl⟩;simp[depth,show right t=false by simpa using h]
 ·have ao:right t=true:=by simpa using h
  have hM:=r9 ao;obtain⟨aV,aX⟩:=CC ao;refine qR.mk t.n t.n rfl rfl (b1 _) (by show 8*t.n<=_;omega) (by omega) ?_;refine cw.mk λb ag r8=>?_;refine cx.inv (ι:=Nat×List Int) (λx=>{ cc:=[(1,.ref 1 0),(3,.val (.slice (some ⟨b,0,none⟩) t.n t.n)),(16,.val (.slice t.a t.n t.c)),(17,.val (.int .i64 t.n)),(18,.val (.int .i64 x.1))],cl:=[(1,t.cells)],ck:=I',de:=[mG b x.2] }) (λx=>x.1<=t.n/\x.2.length=t.n/\(∀ j,0<=x.2.getD j 0/\x.2.getD j 0<=x.1)/\(∀ j,x.1<=j->x.2.getD j 0=0)/\q' 0 t.ns (List.replicate t.ns.length 0)=q' x.1 (t.ns.drop x.1) x.2) (λx=>t.n-x.1) ?_ ?_
  ·have z:∀ j,(List.replicate t.n (0:Int)).getD j 0=0:=λj=>by
    by_cases ak:j<t.n<;>simp[dI,ak]
   refine⟨(0,List.replicate t.n 0),⟨by omega,by simp,λj=>by rw[z];simp,λj _=>z j,by simp[an]⟩,?_,ja,.cons rfl .nil⟩;show h1 _ _ [⟨b,.cells (rowOf [Value.int .i64 0] (t.n*1)).toArray 3 (0,0)⟩] _ [mG b (List.replicate t.n 0)];rw[yC,h4];simp only[mG,Ic];exact .refl
  ·rintro⟨i,ee⟩⟨eA,gw,gW,iG,tV⟩;simp only at eA gw gW iG tV;refine aI.mk (λh=>?_) (λh=>?_)
   ·have aO:i<t.n:=by simpa using h
    have bG:i<t.ns.length:=by omega
    obtain⟨ad,bI,bl⟩:=au.a2.row a3.da aO bG;have fQ:=au.ns t.ns[i] (cZ bG);have eg:=fQ.kn;have fp:t.ns.drop i=t.ns[i]::t.ns.drop (i+1):=eE bG;refine a7.mk ad i bI rfl aO ?_;refine aD.mk t.ns[i].cells (bl _) ?_;refine cx.inv (ι:=Nat×Int) (λx=>{ cc:=[(1,.ref 1 0),(3,.val (.slice (some ⟨b,0,none⟩) t.n t.n)),(4,.val (.int .i64 i)),(16,.val (.slice t.a t.n t.c)),(17,.val (.int .i64 t.n)),(18,.val (.int .i64 i)),(24,.val (.slice t.ns[i].hK t.ns[i].kn t.ns[i].hk)),(25,.val (.int .i64 t.ns[i].kn)),(26,.val (.int .i64 x.1))],cl:=[(1,t.cells)],ck:=I',de:=[mG b (ee.set i x.2)] }) (λx=>x.1<=t.ns[i].kn/\0<=x.2/\x.2<=i/\yG ee t.ns[i].aM 0=yG ee (t.ns[i].aM.drop x.1) x.2) (λx=>t.ns[i].kn-x.1) ?_ ?_
    ·refine⟨(0,0),⟨by omega,by omega,by simp,rfl⟩,?_,vr,.cons rfl .nil⟩;have e:ee.set i 0=ee:=by
      have U:=iG i (b1 _);rw[dI]at U;apply Cr;intro j;rw[qZ];split
      ·rename_i e;subst e;have:i<ee.length:=by omega
       simp[this]at U |-;exact U.symm
      ·rfl
     simp only;rw[e];exact .refl
    ·rintro⟨j,m⟩⟨pb,q9,yE,Aw⟩;simp only at pb q9 yE Aw;refine aI.mk (λh=>?_) (λh=>?_)
     ·have fq:j<t.ns[i].kn:=by simpa using h
      have j7:j<t.ns[i].aM.length:=by omega
      obtain⟨dh,ev,dV⟩:=fQ.a2.one fq j7;have hL:t.ns[i].aM.drop j=t.ns[i].aM[j]::t.ns[i].aM.drop (j+1):=eE j7;have af:=hM i bG t.ns[i].aM[j] (cZ j7);have dY:t.ns[i].aM[j]=((t.ns[i].aM[j].toNat:Nat):Int):=by omega
      have fz:t.ns[i].aM[j].toNat<t.n:=by omega
      refine a7.mk dh j ev rfl fq ?_;refine aD.mk [.int .i64 t.ns[i].aM[j]] (dV _) ?_;refine cU.draw aT rfl rfl rfl ?_;have eP:i<(ee.set i m).length:=by simp;omega
      have kz:t.ns[i].aM[j].toNat<(ee.set i m).length:=by simp;omega
      have Ax:(ee.set i m)[i]=m:=by simp
      have hH:(ee.set i m)[t.ns[i].aM[j].toNat]=ee.getD t.ns[i].aM[j].toNat 0:=by
       have bu:i≠t.ns[i].aM[j].toNat:=by omega
       have ew:t.ns[i].aM[j].toNat<ee.length:=by omega
       rw[LZ,cG bu];simp[dI,ew]
      refine a7.mk ⟨b,0,none⟩ i rfl rfl aO ?_;refine aD.mk [.int .i64 m] (yF eP Ax (by simp)) ?_;refine a7.mk ⟨b,0,none⟩ t.ns[i].aM[j].toNat rfl dY fz ?_;refine aD.mk [.int .i64 (ee.getD t.ns[i].aM[j].toNat 0)] (yF kz hH (by simp)) ?_;refine a7.mk ⟨b,0,none⟩ i rfl rfl aO ?_;refine cV.add [] [] _ 3 rfl ?_ rfl ?_;·simp only[qY,dx];show 0+i*1+1<=_;simp;omega
      have e3:IntKind.i64.wrap ((j:Int)+1)=((j+1:Nat):Int):=by rw[wrap_i64 ⟨by omega,by have:=fQ.a2.cap;omega⟩];omega
      refine aW.mk _ e3 ?_;have acv:=gW t.ns[i].aM[j].toNat;refine⟨(j+1,max m (ee.getD t.ns[i].aM[j].toNat 0)),⟨⟨by omega,by simp only;omega,by simp only;omega,?_⟩,by show _<_;simp only;omega⟩,?_,vr,.cons rfl .nil⟩;·simp only;rw[Aw,hL];rfl
      ·have e:=Fp (ee.set i m) i eP (max m (ee.getD t.ns[i].aM[j].toNat 0));simp only[mG];rw[Ii]at e;rw[<-e];simp only[dK,h4];exact .refl
     ·have fq:¬ j<t.ns[i].kn:=by simpa using h
      have uf:t.ns[i].aM.drop j=[]:=hJ (by omega);have hm:yG ee t.ns[i].aM 0=m:=by rw[Aw,uf];rfl
      have eP:i<(ee.set i m).length:=by simp;omega
      have Ax:(ee.set i m)[i]=m:=by simp
      have Mt:IntKind.i64.wrap (m+1)=m+1:=wrap_i64 ⟨by omega,by omega⟩;have e3:IntKind.i64.wrap ((i:Int)+1)=((i+1:Nat):Int):=by rw[wrap_i64 ⟨by omega,by omega⟩];omega
      refine a7.mk ⟨b,0,none⟩ i rfl rfl aO ?_;refine aD.mk [.int .i64 m] (yF eP Ax (by simp)) ?_;refine aW.mk _ Mt ?_;refine a7.mk ⟨b,0,none⟩ i rfl rfl aO ?_;refine cV.add [] [] _ 3 rfl ?_ rfl ?_;·simp only[qY,dx];show 0+i*1+1<=_;omega
      refine aW.mk _ e3 ?_;refine⟨(i+1,ee.set i (m+1)),⟨⟨by omega,by simp[gw],?_,?_,?_⟩,by show _<_;simp only;omega⟩,?_,ja,.cons rfl .nil⟩
      ·intro q;have Mu:=gW q;simp only[dI,qZ]at Mu |-;split
       ·rename_i e;subst e;have:i<ee.length:=by omega
        simp[this];omega
       ·omega
      ·intro q az;have Fq:=iG q (by omega);simp only at az;simp only[dI,qZ]at Fq |-;rw[cG (by omega)];exact Fq
      ·simp only;rw[tV,fp];simp only[q',hm]
      ·have e:=Fp (ee.set i m) i eP (m+1);simp only[mG];rw[Ii]at e;rw[<-e];simp only[dK,h4];exact .refl
   ·have cI:¬ i<t.n:=by simpa using h
    have fv:t.ns.drop i=[]:=hJ (by omega);have eT:q' 0 t.ns (List.replicate t.ns.length 0)=ee:=by rw[tV,fv];rfl
    have h6:t.bJ=((t.bJ.toNat:Nat):Int):=by omega
    have hN:t.bJ.toNat<ee.length:=by omega
    refine a7.mk ⟨b,0,none⟩ t.bJ.toNat rfl h6 (by omega) ?_;refine aD.mk [.int .i64 ee[t.bJ.toNat]] (yF hN rfl (by simp)) ?_;refine⟨_,_,.sub (eG _) .refl,?_,rfl,rfl⟩;have:depth t=ee[t.bJ.toNat]:=by unfold depth;rw[ao,eT];simp[dI,hN]
    rw[this];rfl
def fF(t:bB):Bool:=decide (t.n<=1024)&&(right t&&decide (depth t<=32))
def IA{I:aH}(aN:nJ I){t:bB}(au:t.ok I):Spec Tryz.prog 60 [t.val] I [] (λv I' M'=>v=.bool (fF t)/\I'=I/\M'=[]):=by
 refine bU [] aT Tryz.func60 rfl rfl rfl ?_;intro B aq;refine bP.mk (λU=>?_) (λU=>?_)
 ·refine aZ.mk [] [] _ (.refl _) (CB aN au) ?_;rintro v I' M' -⟨rfl,rfl,rfl⟩;refine bP.mk (λaa=>?_) (λaa=>?_)
  ·refine aZ.mk [] [] _ (.refl _) (acu aN au) ?_;rintro v I' M' -⟨rfl,rfl,rfl⟩;refine⟨_,_,.refl,?_,rfl,rfl⟩;have hO:t.n<=1024:=by simp at U;omega
   simp[fF,hO,aa]
  ·refine⟨_,_,.refl,?_,rfl,rfl⟩;have k1:right t=false:=aa;simp[fF,k1]
 ·refine⟨_,_,.refl,?_,rfl,rfl⟩;have hO:¬ t.n<=1024:=by simp at U;omega
  simp[fF,hO]
end Go.V
