/- Part 2 of what the proofs of this seat share: the executor, data in memory, walks.
-/
import Derived.Test.YtmncamccjfmbpaaGreatDoorK1
import Derived.Lib.UnsafeStr
import Derived.Test.YtmncamccjfmbpaaGreatDoorProg
import Derived.KernelRfl
set_option linter.all false
set_option maxRecDepth 100000
namespace Go.V
open Go
def bt:=@List.getD_eq_getElem?_getD
def bi:=@List.getElem_mem
def b3:=@List.length_append
def bE:=@List.length_map
def db:=@List.getElem?_eq_getElem
def ec:=@List.mem_singleton
def cX:=@Nat.zero_add
def iq:=@List.eq_nil_of_length_eq_zero
def ed:=@List.append_nil
def fk:=@List.nil_sublist
def iD:=@List.mem_append_left
def ki:=@List.drop_eq_nil_of_le
def mw:=@List.sublist_append_right
def hT:=@List.length_take
def fa:=@Nat.mul_one
def jT:=@List.flatMap_cons
def iE:=@List.mem_filter
def iF:=@List.nil_append
def hx:=@List.map_nil
def rE:=@List.getElem?_append_left
def oY:=@List.mem_append_right
def qz:=@decide_eq_false_iff_not
def lC:=@List.ext_getElem
def k6:=@Bool.or_eq_true
def qA:=@List.getElem?_eq_none
def qB:=@List.take_succ_cons
def oZ:=@List.size_toArray
def rF:=@List.mem_of_getElem?
def o0:=@List.filter_cons
def uW:=@List.getElem_cons_zero
def BO:=@List.take_append_of_le_length
def D8:=@List.set_eq_take_append_cons_drop
def l8:=@Nat.add_mul
def sG:=@List.map_toArray
def tC:=@Bool.not_eq_true'
def tD:=@List.length_drop
def rG:=@List.take_zero
def o1:=@List.map_set
def o2:=@Nat.one_mul
def xY:=@List.map_replicate
def zu:=@Array.length_toList
def BP:=@List.getElem?_toArray
def BQ:=@List.length_filter_le
def tE:=@Bool.not_true
def xZ:=@List.nodup_range
def D9:=@World.putObj_heap_same
def uX:=@Bool.false_or
def GW:=@Classical.byContradiction
def wu:=@List.drop_zero
def GX:=@List.getElem_cons_succ
def zv:=@List.take_left
def Pj:=@Array.eq_empty_of_size_eq_zero
def KJ:=@Option.bind_eq_some_iff
def D':=@List.take_length
def BR:=@List.take_take
def zw:=@Nat.zero_mul
def GY:=@List.filter_congr
def V5:=@Std.Legacy.Range.forIn_eq_forIn_range'
def GZ:=@beq_self_eq_true
def KK:=@Nat.testBit_two_pow
def G0:=@List.drop_take
def G1:=@List.drop_drop
def V6:=@List.drop_length_add_append
def KL:=@Nat.testBit_or
def V7:=@Lib.run_firstCells_string
variable{soft hG:Bool}{P:Program}{f x y p s:Operand}{M M' M1 Mr:List aE}{K:List aE->Prop}{I' I1:aM}{op:Op}{ρ:Operand->dD}{C:dF}{other:Prop}{ops:List Oper}{c7 l9 aI:dH}{β:Nat->Nat}{a:Option Addr}{w w':World}{Q:Exit->Act->World->Prop}{dst:Option Nat}{v:Value}{l':Fr}{dy:Array Bool}{A:Array Oper}{ι α:Type}{c g m u e c' uY it size:Nat}{vs xs ch:List Value}{ps:Array Nat}{fp body:Code}{cap cs:Array Value}{aU:Addr}
def Ea:Op->Bool
 | .move _ | .assign _ | .pick .. | .unOp .. | .binOp .. | .load .. | .nilCheck _ | .fieldAddr .. | .field .. | .indexAddr .. | .index .. | .build .. | .makeFunc .. | .slice .. | .extract .. | .convert ..=>true| .call { callee:=.builtin .len,.. }=>true| .call { callee:=.builtin .cap,.. }=>true| .call { callee:=.builtin .max,.. }=>true| .call { callee:=.builtin .min,.. }=>true| .call { callee:=.builtin .unsafeSliceData,.. }=>true| _=>false
def qC:Op->Bool
 | .load ..=>true| _=>false
def G2(o:Oper)(p:Nat):Bool:=o.after.toList.all λe=>!Region.binds .any e||p.testBit e.on
def qD(ops:List Oper)(p:Nat)(k:Bool):List Nat:=(List.range ops.length).filter λi=>match ops[i]? with
 |some o=>!p.testBit i&&((Ea o.op == k)&&G2 o p)| none=>false
def G3(aZ:List Nat)(o:Oper):Nat:=o.after.toList.foldl (λs e=>bif Region.binds .any e then s ||| 2^e.on ||| aZ.getD e.on 0 else s) 0
def lD(ops:List Oper):List Nat:=ops.foldl (λaZ o=>aZ++[G3 aZ o]) []
def Pk(P:Nat->Prop):List Nat->Prop
 |[]=>True| [i]=>P i| i::l=>P i/\Pk P l
inductive eR(soft:Bool)(foot:List Nat)(P:Program)(f:Nat)(args:List Value)(I:aM)(M:List aE)(K:Value->aM->List aE->Prop):Prop
 |mk(post:Value->aM->List aE->Prop)(au:Spec P f args I [] post)(k:∀ v I' M',(∀ b o,I b=some o->I' b=some o)->post v I' M'->K v I' (M'++M))| o3 (ey Mr:List aE) (post:Value->aM->List aE->Prop) (a':M.Perm (ey++Mr)) (au:Spec P f args I ey post) (nS:∀ v I' M',post v I' M'->∀ x∈ey,x∈M') (k:∀ v I' M',(∀ b o,I b=some o->I' b=some o)->post v I' M'->K v I' (M'++Mr))| zi (post:Value->aM->List aE->Prop) (au:Spec P f args I [] post) (k:∀ v I' M',(∀ b o,I b=some o->I' b=some o)->(∀ x∈M'++M,I' x.num=none)->post v I' M'->K v I' (M'++M))| ahk (ey Mr:List aE) (post:Value->aM->List aE->Prop) (a':M.Perm (ey++Mr)) (au:Spec P f args I ey post) (nS:∀ v I' M',post v I' M'->∀ x∈ey,x∈M') (k:∀ v I' M',(∀ b o,I b=some o->I' b=some o)->(∀ x∈M'++Mr,I' x.num=none)->post v I' M'->K v I' (M'++Mr))| ahl (b:Nat) (o:Obj) (ey Mr:List aE) (post:Value->aM->List aE->Prop) (a':M.Perm (⟨b,o⟩::(ey++Mr))) (aA:b ∉ foot) (au:Spec P f args (ins I b o) ey post) (nS:∀ v I' M',post v I' M'->∀ x∈ey,x∈M') (k:∀ v I' M',(∀ c p,ins I b o c=some p->I' c=some p)->(∀ x∈M'++Mr,I' x.num=none)->post v I' M'->K v I' (M'++Mr))| GD (h:mu I M->eR soft foot P f args I M K)| uZ (G4:soft=true) (ey Mr:List aE) (post:Value->aM->List aE->Prop) (a':M.Perm (ey++Mr)) (au:Spec P f args I ey post) (k:∀ v I' M',(∀ b o,I b=some o->I' b=some o)->post v I' M'->K v I' (M'++Mr))
def eR.elim{foot:List Nat}{f:Nat}{args:List Value}{I:aM}{K:Value->aM->List aE->Prop}(fJ:mu I M)(h:eR soft foot P f args I M K) :
  ∃ (I1:aM) (ey Mr:List aE) (post:Value->aM->List aE->Prop),il foot I M I1 (ey++Mr)/\(∀ b o,I b=some o->I1 b=some o)/\Spec P f args I1 ey post /\
   ∀ v I' M',(∀ b o,I1 b=some o->I' b=some o)->(∀ x∈M'++Mr,I' x.num=none)->post v I' M'->(soft=true\/∀ x∈M,I' x.num=some x.obj\/x∈M'++Mr)/\K v I' (M'++Mr):=by
 have V8:∀ {ey Mr:List aE} {post:Value->aM->List aE->Prop} {I':aM},M.Perm (ey++Mr)->(∀ v I' M',post v I' M'->∀ x∈ey,x∈M')->∀ v M',post v I' M'->∀ x∈M,I' x.num=some x.obj\/x∈M'++Mr:=λa' nS v M' ab x ad=>by
  right
  rcases cF.1 (a'.mem_iff.1 ad)with ad | ad;·exact cF.2 (.inl (nS v _ M' ab x ad))
  ·exact cF.2 (.inr ad)
 induction h with
 |mk post au k=>exact⟨I,[],M,post,.refl,λ_ _ h=>h,au,λv I' M' aa _ ab=>⟨.inr λx ad=>.inr (by simp[ad]),k v I' M' aa ab⟩⟩| o3 ey Mr post a' au nS k=>exact⟨I,ey,Mr,post,.perm a' .refl,λ_ _ h=>h,au,λv I' M' aa _ ab=>⟨.inr (V8 a' nS v M' ab),k v I' M' aa ab⟩⟩| zi post au k=>exact⟨I,[],M,post,.refl,λ_ _ h=>h,au,λv I' M' aa aj ab=>⟨.inr λx ad=>.inr (by simp[ad]),k v I' M' aa aj ab⟩⟩| ahk ey Mr post a' au nS k=>exact⟨I,ey,Mr,post,.perm a' .refl,λ_ _ h=>h,au,λv I' M' aa aj ab=>⟨.inr (V8 a' nS v M' ab),k v I' M' aa aj ab⟩⟩
 |ahl b o ey Mr post a' aA au nS k=>
  have ag:I b=none:=fJ.d ⟨b,o⟩ (a'.mem_iff.2 (.head _));have Eb:ins I b o b=some o:=by unfold ins;rw[rq];rfl
  refine⟨ins I b o,ey,Mr,post,.perm a' (.k3 rfl aA .refl),λc p an=>?_,au,λv I' M' aa aj ab=>⟨.inr λx ad=>?_,k v I' M' aa aj ab⟩⟩
  ·unfold ins;by_cases e:c=b
   ·subst e;rw[ag]at an;cases an
   ·rw[hE e];exact an
  ·rcases eg.1 (a'.mem_iff.1 ad)with rfl | ad
   ·exact .inl (aa _ _ Eb)
   ·right
    rcases cF.1 ad with ad | ad;·exact cF.2 (.inl (nS v I' M' ab x ad))
    ·exact cF.2 (.inr ad)
 |GD h aF=>exact aF fJ| uZ G4 ey Mr post a' au k=>exact⟨I,ey,Mr,post,.perm a' .refl,λ_ _ h=>h,au,λv I' M' aa _ ab=>⟨.inl G4,k v I' M' aa ab⟩⟩
def KM(ops:List Oper)(o:Oper)(F:Fr)(run skip:Fr->Prop):Prop:=
 match o.guard with
 |none=>run F
 |some (j,b)=>
  match(ops[j]?).bind (·.dst)with
  |none=>False
  |some d=>
   match F d with
   | .lit c=>bif c == b then run F else skip F| .val (.bool c)=>cj c b (run (ga F d (.lit b))) (skip (ga F d (.lit !b)))| .val (.tuple _)=>skip F| _=>False
def V9(g1 p:Nat):Bool:=Nat.beq (p &&& g1) p
def ahm(ops:List Oper)(g1 p:Nat):Bool:=(List.range ops.length).all λq=>!p.testBit q||(g1.testBit q||match ops[q]? with
 |some o=>!qC o.op| none=>true)
inductive qE(X:cV)(o:Oper)(F:Fr)(C:dF)(I:aM)(M:List aE)(K:dD->aM->List aE->Prop):Prop
 |mk (h:∀ β a w Q,cN X β a w F C I M->o.wpIn (g' X) 0 X.P a w (λbO w'=>∃ v x I' M',bO=a.put o.dst v/\e3 β x v/\cN X β a w' F C I' M'/\K x I' M'/\I'=I) Q)
def wv(X:cV)(ahn soft:Bool)(o:Oper)(F:Fr)(C:dF)(I:aM)(M:List aE)(K:gm):Prop:=
 bif ahn then gZ X o F C I M K else
 match o.op with
 | .call { callee:=.value f,args,.. }=>
  match bF F f,m1 F args.toList with
  | .val (.func (.func g) first cap),some vs=>eR soft X.foot X.P g (first.toList++vs++cap.toList) I M λv I' M'=>K (put o.dst (.val v) F) C I' M'
  |_,_=>False
 | .alloc t=>
  match o.dst,X.E t with
  |some d,some i=>b' I M λb=>K (ga F d (.val (.pointer (some ⟨b,0,none⟩)))) C I (⟨b,.cells i.zero.toArray t (0,0)⟩::M)
  |_,_=>False
 | .buildSlice _ _ _=>gZ X o F C I M K| .makeSlice _ _ _=>gZ X o F C I M K| .store _ _ _=>bif soft then gZ X o F C I M K else False| .call { callee:=.builtin .append,.. }=>bif soft then ∀ G:Fr,(∀ y∈o.op.operands,dq G y=dq F y)->qE X o G C I M λx I' M'=>K (put o.dst x F) C I' M' else False
 | .call { callee:=.builtin .copy,.. }=>bif soft then ∀ G:Fr,(∀ y∈o.op.operands,dq G y=dq F y)->qE X o G C I M λx I' M'=>K (put o.dst x F) C I' M' else False
 |_=>False
def KN:dD->Nat
 | .ref s _=>s+1| _=>0
def G5(i:Nat)(op:Op)(ρ:Operand->dD)(cm:List (Nat×Nat)):List (Nat×Nat):=match op with
 | .load _ x=>(i,KN (ρ x))::cm| _=>cm
def BS(g1 s:Nat):List (Nat×Nat)->Bool
 |[]=>true|(i,t)::cm=>(g1.testBit i || !Nat.beq s t)&&BS g1 s cm
def V'{g1 s i t:Nat}:∀ {cm:List (Nat×Nat)},BS g1 s cm=true->(i,t)∈cm->g1.testBit i=true\/t≠s
 |(j,u)::cm,h,hm=>by
  unfold BS at h;rw[cz,k6]at h;rcases eg.1 hm with e | hm
  ·cases e;rcases h.1 with aa | aa
   ·exact .inl aa
   ·right
    rintro rfl;simp at aa
  ·exact V' h.2 hm
def Wa(g1:Nat)(op:Op)(ρ:Operand->dD)(cm:List (Nat×Nat)):Bool:=match op with
 | .store _ x _=>(match ρ x with
  | .val (.pointer (some _))=>BS g1 0 cm| _=>false)
 | .call { callee:=.value _,.. }=>BS g1 0 cm| _=>false
def Wb(g1:Nat)(op:Op)(ρ:Operand->dD)(cm:List (Nat×Nat)):Bool:=match op with
 | .store _ x _=>(match ρ x with
  | .ref s _=>BS g1 (s+1) cm| _=>false)
 |_=>false
def wx(hG:Bool)(M:List aE):List aE:=bif hG then []else M
def aho{I:aM}{b:Nat}{o:Obj}(h:ik I (wx hG M) b o):ik I M b o:=by
 cases hG with
 |false=>exact h
 |true=>
  rcases h with h | ⟨x,ad,_⟩;·exact .inl h
  ·cases ad
def Wc{I:aM}(h:∀ b o,ik I M b o->ik I' M' b o)(bc:∀ b o,I b=some o->I' b=some o):∀ b o,ik I (wx hG M) b o->ik I' (wx hG M') b o:=λb o ag=>by
 cases hG with
 |false=>exact h b o ag
 |true=>
  rcases ag with ag | ⟨x,ad,_⟩;·exact .inl (bc _ _ ag)
  ·cases ad
def ahp{I:aM}(bc:∀ b o,I b=some o->I' b=some o):∀ b o,ik I (wx true M) b o->ik I' (wx true M') b o:=λb o ag=>by
 rcases ag with ag | ⟨x,ad,_⟩
 ·exact .inl (bc _ _ ag)
 ·cases ad
def Wd(X:cV)(hG:Bool)(op:Op)(ρ:Operand->dD)(C:dF)(I:aM)(M:List aE)(V:dD->Prop)(other:Prop):Prop:=match hG with
 |false=>cH X op ρ C I M V other| true=>cH X op ρ C I [] V other
def ahq{X:cV}{I:aM}{V:dD->Prop}(h:Wd X hG op ρ C I M V other):cH X op ρ C I (wx hG M) V other:=by
 cases hG with
 |false=>exact h| true=>exact h
def ahr(ops:List Oper)(hG:Nat->Bool)(g1 p:Nat):Bool:=(List.range ops.length).all λq=>!p.testBit q||(g1.testBit q||(hG q||match ops[q]? with
 |some o=>!qC o.op| none=>true))
def We(op:Op)(ρ:Operand->dD):Bool:=match op with
 | .store _ x _=>(match ρ x with
  | .val (.pointer (some _))=>true| _=>false)
 | .call { callee:=.builtin .append,.. }=>true| .call { callee:=.builtin .copy,.. }=>true| _=>false
def Wf(ops:List Oper)(hG:Nat->Bool)(g1 p:Nat)(op:Op)(ρ:Operand->dD):Bool:=ahr ops hG g1 p&&We op ρ
def pR(X:cV)(ops:List Oper)(hG:Nat->Bool):Nat->Nat->List (Nat×Nat)->Fr->dF->aM->List aE->gm->Prop
 |0,_,_,_,_,_,_,_=>False
 |n+1,p,cm,F,C,I,M,K=>
  match qD ops p true with
  |i::_=>
   (match ops[i]? with
   |some o=>KM ops o F (λF=>Wd X (hG i) o.op (dq F) C I M (λx=>pR X ops hG n (p ||| 2^i) (G5 i o.op (dq F) cm) (put o.dst x F) C I M K) False) (λF=>pR X ops hG n (p ||| 2^i) cm (put o.dst (.val undef) F) C I M K)| none=>False)
  |[]=>
   match qD ops p false with
   |[]=>K F C I M
   |i0::fA=>Pk (λi=>match ops[i]? with
     |some o=>KM ops o F (λF=>wv X (V9 ((lD ops).getD i 0) p) (ahm ops ((lD ops).getD i 0) p||(Wb ((lD ops).getD i 0) o.op (dq F) cm||(Wa ((lD ops).getD i 0) o.op (dq F) cm||Wf ops hG ((lD ops).getD i 0) p o.op (dq F)))) o F C I M λF C I M=>pR X ops hG n (p ||| 2^i) cm F C I M K) (λF=>pR X ops hG n (p ||| 2^i) cm (put o.dst (.val undef) F) C I M K)| none=>False) (i0::fA)
def looks(ops:List Oper)(o:Oper):List Nat:=o.looksAt ops.toArray
def BT(ops:List Oper):Bool:=
 let b:=lD ops
 (List.range ops.length).all λj=>match ops[j]? with
  |none=>true
  |some m8=>
   (m8.after.toList.all λe=>!Region.binds .any e||Nat.blt e.on j) &&
   ((match m8.dst with
    |some d=>!(looks ops m8).contains d| none=>true) &&
   ((List.range ops.length).all (λi=>Nat.beq i j||match ops[i]? with
    |none=>true
    |some gI=>match gI.dst with
     |none=>true| some d=>!(m8.dst == some d)&&(!(looks ops m8).contains d||((b.getD j 0).testBit i||(b.getD i 0).testBit j)))))
def m9(ops:List Oper)(j e:Nat):Prop:=∃ o nT,ops[j]?=some o/\nT∈o.after/\Region.binds .any nT=true/\nT.on=e
inductive pS(ops:List Oper):Nat->Nat->Prop
 |one{i j}(h:m9 ops j i):pS ops i j| trans {i j k} (h:m9 ops j k) (bc:pS ops i k):pS ops i j
def BU(ops:List Oper)(S:Nat->Prop):Prop:=∀ j e,S j->m9 ops j e->S e
def pS.mem{S:Nat->Prop}(cB:BU ops S){i j:Nat}(h:pS ops i j)(ai:∀ e,m9 ops j e->S e):S i:=by
 induction h with
 |one h=>exact ai _ h| trans h _ aF=>exact aF λe he=>cB _ e (ai _ h) he
def ahs{aZ:List Nat}{o:Oper}{i:Nat}(h:(G3 aZ o).testBit i=true):∃ e∈o.after,Region.binds .any e=true/\(e.on=i\/(aZ.getD e.on 0).testBit i=true):=by
 have key:∀ (l:List Edge) (s:Nat),(l.foldl (λs e=>bif Region.binds .any e then s ||| 2^e.on ||| aZ.getD e.on 0 else s) s).testBit i=true->s.testBit i=true\/∃ e∈l,Region.binds .any e=true/\(e.on=i\/(aZ.getD e.on 0).testBit i=true):=by
  intro l
  induction l with
  |nil=>intro s h;exact .inl h
  |cons e l aF=>
   intro s h;simp only[jE]at h;rcases aF _ h with aa | ⟨cQ,rH,ab⟩
   ·cases ag:Region.binds .any e with
    |false=>rw[ag]at aa;exact .inl aa
    |true=>
     rw[ag]at aa;simp only[cb,KL,k6,KK,hq]at aa;rcases aa with(aa | aa) | aa;·exact .inl aa
     ·exact .inr ⟨e,by simp,ag,.inl aa⟩
     ·exact .inr ⟨e,by simp,ag,.inr aa⟩
   ·exact .inr ⟨cQ,by simp[rH],ab⟩
 rcases key _ 0 h with aa | ⟨e,he,ab⟩
 ·simp at aa
 ·exact⟨e,by simpa using he,ab⟩
def Wg(ops:List Oper):∀ (l:List Oper) (a9:List Oper) (aZ:List Nat),ops=a9++l->aZ.length=a9.length->(∀ j i,(aZ.getD j 0).testBit i=true->pS ops i j) -> ∀ j i,((l.foldl (λaZ o=>aZ++[G3 aZ o]) aZ).getD j 0).testBit i=true->pS ops i j
 |[],a9,aZ,_,_,my=>my
 |o::l,a9,aZ,wy,c1,my=>by
  simp only[jE];refine Wg ops l (a9++[o]) _ (by simp[wy]) (by simp[c1]) ?_;intro j i h;by_cases ai:j<aZ.length;·exact my j i (by simpa[bt,rE ai]using h)
  ·by_cases iC:j=aZ.length
   ·subst iC;have bc:(G3 aZ o).testBit i=true:=by simpa[bt]using h
    obtain⟨e,he,ag,ab⟩:=ahs bc;have aK:ops[aZ.length]?=some o:=by rw[wy,c1];simp
    have zx:m9 ops aZ.length e.on:=⟨o,e,aK,he,ag,rfl⟩;rcases ab with rfl | ab;·exact .one zx
    ·exact .trans zx (my _ _ ab)
   ·have:(aZ++[G3 aZ o]).getD j 0=0:=by rw[bt,qA (by simp;omega)];rfl
    rw[this]at h;simp at h
def zy{j i:Nat}(h:((lD ops).getD j 0).testBit i=true):pS ops i j:=
 Wg ops ops [] [] rfl rfl (λj i h=>by simp at h) j i h
section
variable{X:cV}{C C':dF}{I I':aM}{M M':List aE}
def x0{ρ jU:Operand->dD}:∀ {xs:List Operand},(∀ y∈xs,jU y=ρ y)->kb jU xs=kb ρ xs
 |[],_=>rfl| x::xs,h=>by have aa:=h x (by simp);have ab:=x0 (xs:=xs) λy aH=>h y (by simp[aH]);simp only[kb,dC,aa,ab]
def Pl{ρ jU:Operand->dD}:∀ {xs:List (Nat×Operand)},(∀ y∈xs.map (·.2),jU y=ρ y)->tt jU xs=tt ρ xs
 |[],_=>rfl|(i,x)::xs,h=>by have aa:=h x (by simp);have ab:=Pl (xs:=xs) λy aH=>h y (by simp only[bX,eg];exact .inr aH);simp only[tt,dC,aa,ab]
def Wh{jU:Operand->dD}{V:dD->Prop}(h:cH X op ρ C I M V False)(jj:∀ y∈op.operands,jU y=ρ y)
  (ay:∀ t x,op=.load t x->(∀ s off,ρ x=.ref s off->C' s=C s)/\((∀ s off,ρ x≠.ref s off)->∀ b o,ik I M b o->ik I' M' b o)):cH X op jU C' I' M' V False:=by
 cases op
 case load t x=>
  obtain⟨an,ae⟩:=ay t x rfl;have aa:=jj x (by simp[Op.operands]);simp only[cH,aa]at h |-;cases aQ:X.E t with
  |none=>rw[aQ]at h;exact h.elim
  |some i=>
   rw[aQ]at h
   try simp only at h |-
   cases ad:ρ x with
   |ref s off=>
    rw[ad]at h
    try simp only at h |-
    rw[an s off ad];exact h
   |val v=>
    rw[ad]at h
    try simp only at h |-
    split at h;·rename_i e;cases e
    ·rename_i a e;cases e;obtain⟨vs,⟨ab,cs,T,ao,aj,aG⟩,bx⟩:=h;exact⟨vs,⟨ab,cs,T,ao,ae (λs off e=>by rw[ad]at e;cases e) _ _ aj,aG⟩,bx⟩
    ·exact h.elim
   |lit b=>rw[ad]at h;exact h.elim| nO=>rw[ad]at h;exact h.elim
 case build t ps=>
  have aa:=Pl (ρ:=ρ) (jU:=jU) (xs:=ps.toList) λy aH=>jj y (by simpa[Op.operands]using aH);simp only[cH,aa]at h |-;exact h
 case makeFunc fn first captured=>
  have aa:=x0 (ρ:=ρ) (jU:=jU) (xs:=first.toList) λy aH=>jj y (by simp only[Op.operands,Array.mem_append];exact .inl (by simpa using aH));have ab:=x0 (ρ:=ρ) (jU:=jU) (xs:=captured.toList) λy aH=>jj y (by simp only[Op.operands,Array.mem_append];exact .inr (by simpa using aH));simp only[cH,aa,ab]at h |-;exact h
 case slice t x lo hi mx=>
  have aa:=jj x (by simp[Op.operands]);have ab:lo.map (dC jU)=lo.map (dC ρ):=by
   cases lo with
   |none=>rfl| some y=>have:=jj y (by simp[Op.operands]);simp[dC,this]
  have aj:hi.map (dC jU)=hi.map (dC ρ):=by
   cases hi with
   |none=>rfl| some y=>have:=jj y (by simp[Op.operands]);simp[dC,this]
  have aG:mx.map (dC jU)=mx.map (dC ρ):=by
   cases mx with
   |none=>rfl| some y=>have:=jj y (by simp[Op.operands]);simp[dC,this]
  simp only[cH,ab,aj,aG,dC,aa]at h |-;exact h
 case call c=>
  obtain⟨callee,args,argTypes⟩:=c;cases callee with
  |value f=>exact h| invoke r m=>exact h
  |builtin b=>
   cases b
   case len=>
    have aa:=x0 (ρ:=ρ) (jU:=jU) (xs:=args.toList) λy aH=>jj y (by simp[Op.operands,Call.operands];simpa using aH);simp only[cH,aa]at h |-;exact h
   case cap=>
    have aa:=x0 (ρ:=ρ) (jU:=jU) (xs:=args.toList) λy aH=>jj y (by simp[Op.operands,Call.operands];simpa using aH);simp only[cH,aa]at h |-;exact h
   case max=>
    have aa:=x0 (ρ:=ρ) (jU:=jU) (xs:=args.toList) λy aH=>jj y (by simp[Op.operands,Call.operands];simpa using aH);simp only[cH,aa]at h |-;exact h
   case min=>
    have aa:=x0 (ρ:=ρ) (jU:=jU) (xs:=args.toList) λy aH=>jj y (by simp[Op.operands,Call.operands];simpa using aH);simp only[cH,aa]at h |-;exact h
   case unsafeSliceData=>
    have aa:=x0 (ρ:=ρ) (jU:=jU) (xs:=args.toList) λy aH=>jj y (by simp[Op.operands,Call.operands];simpa using aH);simp only[cH,aa]at h |-;exact h
   all_goals exact h
 all_goals first
  |exact h|(rename_i x;have aa:=jj x (by simp[Op.operands]);simp only[cH,dC,aa]at h |-;exact h)|(rename_i x y;have aa:=jj x (by simp[Op.operands]);have ab:=jj y (by simp[Op.operands]);simp only[cH,dC,aa,ab]at h |-;exact h)|(rename_i x y z;have aa:=jj x (by simp[Op.operands]);have ab:=jj y (by simp[Op.operands]);have aj:=jj z (by simp[Op.operands]);simp only[cH,dC,aa,ab,aj]at h |-;exact h)|(rename_i x y;have aa:=jj x (by simp[Op.operands]);simp only[cH,dC,aa]at h |-;exact h)|(rename_i x y;have aa:=jj y (by simp[Op.operands]);simp only[cH,dC,aa]at h |-;exact h)|(rename_i x y z;have aa:=jj x (by simp[Op.operands]);have ab:=jj y (by simp[Op.operands]);simp only[cH,dC,aa,ab]at h |-;exact h)|(rename_i x y z;have aa:=jj y (by simp[Op.operands]);have ab:=jj z (by simp[Op.operands]);simp only[cH,dC,aa,ab]at h |-;exact h)|(rename_i o x y z u;have aa:=jj y (by simp[Op.operands]);have ab:=jj z (by simp[Op.operands]);simp only[cH,dC,aa,ab]at h |-;exact h)|(rename_i x y z u;have aa:=jj z (by simp[Op.operands]);have ab:=jj y (by simp[Op.operands]);simp only[cH,dC,aa,ab]at h |-;exact h)
end
section
variable{X:cV}{C:dF}{I:aM}{M:List aE}
def aht{op:BinOp}{c7:Option dH}{x y:dD}{V:Value->Prop}{O:Prop}(h:l7 op c7 x y V O) :
  (∃ r,V r/\∀ rI,l7 op c7 x y (λz=>z=r) rI)\/(O/\∀ (Pm:Value->Prop) (rI:Prop),rI->l7 op c7 x y Pm rI):=by
 unfold l7 at h;split at h
 ·left
  split at h;·obtain⟨j,ai,⟨r,af,ae⟩⟩:=h;exact⟨_,ae,λrI=>by unfold l7;exact⟨j,ai,⟨r,af,rfl⟩⟩⟩
  ·obtain⟨j,ai,ae⟩:=h;exact⟨_,ae,λrI=>by unfold l7;exact⟨j,ai,rfl⟩⟩
  ·rename_i _ _ k a e9 b _ fz iA;cases eX:IntKind.m3 k e9 with
   |false=>rw[eX]at h;exact h.elim
   |true=>
    rw[eX]at h;simp only[cb]at h;cases op<;>simp only at h
    case add=>obtain⟨r,af,ae⟩:=h;exact⟨_,ae,λrI=>by simp only[l7,eX,cb];exact⟨r,af,rfl⟩⟩
    case sub=>obtain⟨r,af,ae⟩:=h;exact⟨_,ae,λrI=>by simp only[l7,eX,cb];exact⟨r,af,rfl⟩⟩
    case mul=>obtain⟨r,af,ae⟩:=h;exact⟨_,ae,λrI=>by simp only[l7,eX,cb];exact⟨r,af,rfl⟩⟩
    case quo=>obtain⟨az,⟨r,af,ae⟩⟩:=h;exact⟨_,ae,λrI=>by simp only[l7,eX,cb];exact⟨az,⟨r,af,rfl⟩⟩⟩
    case rem=>obtain⟨az,ae⟩:=h;exact⟨_,ae,λrI=>by simp only[l7,eX,cb];first | exact⟨az,rfl⟩ | exact⟨az,trivial⟩⟩
    case shl=>exact(fz rfl).elim
    case shr=>exact(iA rfl).elim
    all_goals exact⟨_,h,λrI=>by simp only[l7,eX,cb];rfl⟩
 ·cases op<;>first
  |exact .inl ⟨_,h,λ_=>rfl⟩| exact .inr ⟨h,λ_ _ aK=>aK⟩
 ·split at h
  ·cases op<;>first
   |exact .inl ⟨_,h,λ_=>rfl⟩| exact .inr ⟨h,λ_ _ aK=>aK⟩
  ·rename_i aC;refine .inr ⟨h,λPm rI aK=>?_⟩;cases c7 with
   |none=>exact aK
   |some i=>
    obtain⟨s,b,z,bM⟩:=i;cases bM<;>first
     |exact aK| exact(aC _ _ _ rfl).elim
 ·rename_i aa ab aj;refine .inr ⟨h,λPm rI aK=>?_⟩;unfold l7;split<;>first
   |exact aK| exact(aa _ _ _ _ rfl rfl).elim| exact(ab _ _ rfl rfl).elim| exact(aj _ _ rfl rfl).elim
def ahu{V:dD->Prop}(h:cH X op ρ C I M V False):∃ x,V x/\cH X op ρ C I M (λy=>y=x) False:=by
 cases op
 case move x=>exact⟨_,h,rfl⟩
 case assign x=>exact⟨_,h,rfl⟩
 case pick c p q=>
  simp only[cH]at h |-;split at h;·exact⟨_,h,rfl⟩
  ·exact⟨_,h,rfl⟩
  ·exact h.elim
 case unOp op t x=>
  simp only[cH]at h |-;split at h;·exact⟨_,h,rfl⟩
  ·exact⟨_,h,rfl⟩
  ·obtain⟨r,af,ae⟩:=h;exact⟨_,ae,⟨r,af,rfl⟩⟩
  ·exact h.elim
 case binOp op t x y ty=>
  simp only[cH]at h |-;rcases aht h with⟨r,aa,ab⟩ | ⟨⟨m4,eA,r,aB,aN,af,ae⟩ | aa,ab⟩
  ·refine⟨_,aa,?_⟩;have:(λv=>dD.val v=dD.val r)=(λz=>z=r):=by funext v;simp
   rw[this];exact ab _
  ·exact⟨_,ae,ab _ _ (.mk m4 eA r aB aN af rfl)⟩
  ·exact aa.elim
 case load t x=>
  simp only[cH]at h |-;split at h
  ·split at h
   ·split at h
    ·rename_i i hi _ s off au _ cs an;cases bq:Nat.ble (off+i.size) cs.length with
     |false=>rw[bq]at h;exact h.elim| true=>rw[bq]at h;exact⟨_,h,rfl⟩
    ·exact h.elim
   ·obtain⟨vs,af,ae⟩:=h;exact⟨_,ae,⟨vs,af,rfl⟩⟩
   ·exact h.elim
  ·exact h.elim
 case nilCheck x=>
  simp only[cH]at h |-;split at h;·exact⟨_,h,rfl⟩
  ·exact⟨_,h,rfl⟩
  ·exact h.elim
 case fieldAddr t x i=>
  simp only[cH]at h |-;split at h
  ·split at h
   ·split at h
    ·rename_i hr s o' m5 ad;cases bb:Nat.beq hr.size 0 with
     |true=>rw[bb]at h;exact h.elim| false=>rw[bb]at h;exact⟨_,h,rfl⟩
    ·rename_i hr s m5 ad;cases bb:Nat.beq hr.size 0 with
     |true=>rw[bb]at h;exact h.elim| false=>rw[bb]at h;exact⟨_,h,rfl⟩
    ·exact h.elim
   ·exact h.elim
  ·exact h.elim
 case field t x i=>
  simp only[cH]at h |-;split at h
  ·split at h
   ·split at h
    ·rename_i sz hQ z cR cs ax ad _ fy off ru _ hr m5;cases bq:Nat.ble (off+hr.size) cs.size with
     |false=>rw[bq]at h;exact h.elim| true=>rw[bq]at h;exact⟨_,h,rfl⟩
    ·exact h.elim
   ·exact h.elim
  ·exact h.elim
 case indexAddr t x i=>
  simp only[cH]at h |-;split at h
  ·split at h
   ·obtain⟨aU,j,aa,ab,aj,ae⟩:=h;exact⟨_,ae,⟨aU,j,aa,ab,aj,rfl⟩⟩
   ·exact h.elim
  ·split at h
   ·obtain⟨j,ab,aj,ae⟩:=h;exact⟨_,ae,⟨j,ab,aj,rfl⟩⟩
   ·obtain⟨j,ab,aj,ae⟩:=h;exact⟨_,ae,⟨j,ab,aj,rfl⟩⟩
   ·exact h.elim
  ·exact h.elim
 case index t x i=>
  simp only[cH]at h |-;split at h;·obtain⟨j,ab,aj,ae⟩:=h;exact⟨_,ae,⟨j,ab,aj,rfl⟩⟩
  ·split at h
   ·rename_i n e cs gl k ax ad hi _ aI hF;cases bb:Nat.beq (n*aI.size) cs.size with
    |false=>rw[bb]at h;exact h.elim| true=>rw[bb]at h;obtain⟨j,ab,aj,ae⟩:=h;exact⟨_,ae,⟨j,ab,aj,rfl⟩⟩
   ·exact h.elim
  ·exact h.elim
 case build t ps=>
  simp only[cH]at h |-;split at h
  ·split at h
   ·rename_i i vs ax iU _ cR og;cases aB:DY X.E cR with
    |false=>rw[aB]at h;exact h.elim
    |true=>
     rw[aB]at h;simp only[cb]at h |-;split at h;·exact⟨_,h,rfl⟩
     ·exact h.elim
   ·split at h
    ·split at h
     ·exact⟨_,h,rfl⟩
     ·exact h.elim
    ·exact h.elim
   ·exact h.elim
  ·exact h.elim
 case makeFunc fn first captured=>
  simp only[cH]at h |-;split at h;·exact⟨_,h,rfl⟩
  ·exact h.elim
 case slice t x lo hi mx=>
  simp only[cH]at h |-;split at h
  ·split at h
   ·exact⟨_,h,rfl⟩
   ·obtain⟨l,m,aa,ab,aj,aG,ae⟩:=h;exact⟨_,ae,⟨l,m,aa,ab,aj,aG,rfl⟩⟩
   ·obtain⟨l,m,aa,ab,aj,aG,ae⟩:=h;exact⟨_,ae,⟨l,m,aa,ab,aj,aG,rfl⟩⟩
   ·obtain⟨l,m,aa,ab,aj,aG,ae⟩:=h;exact⟨_,ae,⟨l,m,aa,ab,aj,aG,rfl⟩⟩
   ·exact h.elim
  ·split at h
   ·exact⟨_,h,rfl⟩
   ·obtain⟨l,m,aa,ab,aj,aG,ae⟩:=h;exact⟨_,ae,⟨l,m,aa,ab,aj,aG,rfl⟩⟩
   ·obtain⟨l,m,aa,ab,aj,aG,ae⟩:=h;exact⟨_,ae,⟨l,m,aa,ab,aj,aG,rfl⟩⟩
   ·obtain⟨l,m,aa,ab,aj,aG,ae⟩:=h;exact⟨_,ae,⟨l,m,aa,ab,aj,aG,rfl⟩⟩
   ·exact h.elim
  ·split at h
   ·obtain⟨l,m,aa,ab,aj,aG,ae⟩:=h;exact⟨_,ae,⟨l,m,aa,ab,aj,aG,rfl⟩⟩
   ·exact h.elim
  ·exact h.elim
 case extract x i=>
  simp only[cH]at h |-;split at h
  ·split at h
   ·exact⟨_,h,rfl⟩
   ·exact h.elim
  ·exact h.elim
 case convert s d x=>
  simp only[cH]at h |-;split at h;·obtain⟨r,af,ae⟩:=h;exact⟨_,ae,⟨r,af,rfl⟩⟩
  ·exact h.elim
 case call c=>
  obtain⟨callee,args,argTypes⟩:=c;cases callee with
  |value f=>exact h.elim| invoke r m=>exact h.elim
  |builtin b=>
   cases b
   case len=>
    simp only[cH]at h |-;split at h
    ·split at h
     ·exact⟨_,h,rfl⟩
     ·exact⟨_,h,rfl⟩
     ·exact⟨_,h,rfl⟩
     ·exact h.elim
    ·exact h.elim
   case cap=>
    simp only[cH]at h |-;split at h
    ·split at h
     ·exact⟨_,h,rfl⟩
     ·exact h.elim
    ·exact h.elim
   case max=>
    simp only[cH]at h |-;split at h;·exact⟨_,h,rfl⟩
    ·exact h.elim
   case min=>
    simp only[cH]at h |-;split at h;·exact⟨_,h,rfl⟩
    ·exact h.elim
   case unsafeSliceData=>
    simp only[cH]at h |-;split at h;·exact⟨_,h,rfl⟩
    ·obtain⟨aa,ab⟩:=h;exact⟨_,ab,⟨aa,rfl⟩⟩
    ·exact h.elim
   all_goals exact h.elim
 all_goals exact h.elim
end
def ik.mono{I:aM}{b:Nat}{o:Obj}(h:ik I M b o)(bz:∀ b o,I b=some o->I' b=some o)(a':∀ x∈M,x∈M'):ik I' M' b o:=by
 rcases h with h | ⟨x,ad,aa,ab⟩
 ·exact .inl (bz _ _ h)
 ·exact .inr ⟨x,a' x ad,aa,ab⟩
def ik.move{I:aM}{b:Nat}{o:Obj}(h:ik I M b o)(bz:∀ b o,I b=some o->I' b=some o)(a':∀ x∈M,I' x.num=some x.obj\/x∈M'):ik I' M' b o:=by
 rcases h with h | ⟨x,ad,rfl,rfl⟩
 ·exact .inl (bz _ _ h)
 ·rcases a' x ad with h | h
  ·exact .inl h
  ·exact .inr ⟨x,h,rfl,rfl⟩
def Wi(F:Fr)(op:Op)(C C':dF)(I I':aM)(M M':List aE):Prop:=(∀ t x y s off,op=.store t x y->dq F x=.ref s off->((∀ cf,cf≠s->C' cf=C cf)/\∀ b o,I b=some o->I' b=some o)/\∀ b o,ik I M b o->ik I' M' b o)/\(∀ t x y aU,op=.store t x y->dq F x=.val (.pointer (some aU))->C'=C/\∀ b o,I b=some o->I' b=some o)/\((∀ t x y,op≠.store t x y)->C'=C/\∀ b o,I b=some o->I' b=some o)
def ahv(X:cV)(β:Nat->Nat)(G F:Fr)(C:dF)(I:aM)(M:List aE)(ahw:Bool)(op:Op)(dst:Option Nat)(a:Act)(K:gm)(bO:Act)(w':World):Prop:=
 ∃ v x C' I' M',bO=a.put dst v/\e3 β x v/\cN X β a w' G C' I' M'/\K (put dst x F) C' I' M'/\((ahw=true/\Wi F op C C' I I' M M')\/(C'=C/\(∀ b o,I b=some o->I' b=some o)/\∀ b o,ik I M b o->ik I' M' b o))
def ahx{X:cV}{a:Act}{F G:Fr}{I:aM}{o:Oper}{K:gm}(aQ:cU X.P X.E)
  (h:cN X β a w G C I M) (jk:∀ y∈o.op.operands,dq G y=dq F y) (ah:wv X false soft o F C I M K):o.wpIn (g' X) 0 X.P a w (ahv X β G F C I M soft o.op o.dst a K) Q:=by
 obtain⟨dst,op,ty,pos,after,guard⟩:=o;have aA:=h.ao;have o4:∀ {y:Operand} {v:Value},y∈op.operands->bF F y=.val v->a.eval y=v:=fun {y v} aH he=>df aA (by simp only[bF,dC,jk y aH];exact he);cases op
 case alloc t=>
  simp only[wv,b5]at ah;split at ah
  ·rename_i d i hi;obtain⟨z,bb,xT⟩:=(aQ _ _ hi).GG w;have D3:z.cells=i.zero.toArray:=by rw[<-xT]
   obtain⟨ah⟩:=ah;have ae:=ah w.heap.size h.holds.sE h.holds.rr;refine jg (by simp) (v:=.pointer (some ⟨w.heap.size,0,none⟩)) (w':=w.alloc (.cells i.zero.toArray t (0,0))) ?_ ⟨_,.val _,_,_,_,rfl,rfl,h.oe _,ae,.inr ⟨rfl,λ_ _ h=>h,λb o ag=>ag.mono (λ_ _ h=>h) (λx ad=>by simp[ad])⟩⟩;simp[execOp,Instr.alloc,newVar,newRow,bb,D3,Bx]
  ·exact ah.elim
 case store t x y=>
  simp only[wv,b5]at ah;cases soft with
  |false=>exact ah.elim
  |true=>
   simp only[cb,gZ]at ah;split at ah
   ·rename_i i v hi aH;have tx:=o4 (by simp[Op.operands]) aH;split at ah
    ·rename_i s off ad;have kC:=BB aA ((jk x (by simp[Op.operands])).trans ad);split at ah
     ·rename_i cs au;cases bq:(Nat.ble (off+i.size) cs.length&&(Nat.beq v.cells.size i.size&&gA v.cells.toList))with
      |false=>rw[bq]at ah;exact ah.elim
      |true=>
       rw[bq]at ah;simp only[cz]at bq;obtain⟨bq,da,oW⟩:=bq;have jh:=bI bq;have BI:=dR da;obtain⟨T,bp⟩:=(h.cm s cs au).dX;have:=Kz (aQ _ _ hi) (a:=⟨β s,off,none⟩) (v:=v) rfl bp BI (by simp;omega) oW;refine DZ (by simp) (w':=w.setRow (β s) (ck cs off v.cells.toList).toArray) ?_ ⟨undef,.nO,_,_,_,rfl,trivial,h.VM au (ck cs off v.cells.toList),ah,.inl ⟨rfl,λbo lz G6 cf Kx aJ a4=>(by
        cases aJ;rw[ad]at a4;cases a4;refine⟨⟨λs2 bs=>?_,λ_ _ h=>h⟩,λ_ _ h=>h⟩;unfold jF;rw[hE bs];rfl),λbo lz G6 zz aJ a4=>(by
        cases aJ;rw[ad]at a4;cases a4),λrJ=>absurd rfl (rJ _ _ _)⟩⟩
       simp only[execOp,Instr.storeAt,kC,tx,Instr.sureAddr,ct,c3,bY];simp only[OZ]at this;rw[this];rfl
     ·exact ah.elim
    ·rename_i aU ad;have kC:=uR aA ((jk x (by simp[Op.operands])).trans ad);cases da:Nat.beq v.cells.size i.size with
     |false=>rw[da]at ah;exact ah.elim| true=>rw[da]at ah;obtain⟨a9,post,cs,T,a',dO,ag,oW,ae⟩:=ah;have BI:=dR da;have av:w.heap[aU.block]?=some (.cells cs T (0,0)):=h.holds.m ⟨aU.block,.cells cs T (0,0)⟩ (by rw[a'];simp);have:=Kz (aQ _ _ hi) (v:=v) dO av BI ag oW;refine DZ (by simp) (w':=w.setRow aU.block (ck cs.toList aU.off v.cells.toList).toArray) ?_ ⟨undef,.nO,_,_,_,rfl,trivial,h.xQ a',ae,.inl ⟨rfl,λbo lz G6 cf Kx aJ a4=>(by cases aJ;rw[ad]at a4;cases a4),λ_ _ _ _ _ _=>⟨rfl,λ_ _ h=>h⟩,λrJ=>absurd rfl (rJ _ _ _)⟩⟩;simp only[execOp,Instr.storeAt,kC,tx,Instr.sureAddr,ct,c3,bY];rw[this];rfl
    ·exact ah.elim
   ·exact ah.elim
 case buildSlice t len parts=>
  simp only[wv,b5,gZ]at ah;have ahy:BA G parts.toList=BA F parts.toList:=Pl λy aH=>jk y (by simpa[Op.operands]using aH);rw[<-ahy]at ah;split at ah
  ·rename_i sz hQ z e vs ax iU;have hu:=(aQ _ _ ax).slice;have aB:=Kv aA iU;have zl:(parts.map λ(i,x)=>(i,a.eval x)).toList=vs:=by simpa using aB
   split at ah
   ·rename_i aI hF;cases bb:(Nat.ble (len*aI.size) 16777216&&Nat.blt 0 (len*aI.size))with
    |false=>
     rw[bb]at ah;simp only[b5]at ah;split at ah
     ·rename_i ag3;obtain⟨ah⟩:=ah;have ae:=ah w.heap.size h.holds.sE h.holds.rr;refine jg (by simp) (v:=.slice (some ⟨w.heap.size,0,none⟩) 0 0) (w':=w.alloc (.cells #[] e (0,0))) ?_ ⟨_,.val _,_,_,_,rfl,rfl,h.oe _,ae,.inr ⟨rfl,λ_ _ h=>h,λb o ag=>ag.mono (λ_ _ h=>h) (λx ad=>by simp[ad])⟩⟩;simp only[execOp,Instr.buildSlice,ct,bY,run_underlying hu,(aQ _ _ hF).run_sizeOf,zl];have dd:∀ f:Nat->Value,Array.map f (Array.range 0)=#[]:=λf=>by apply Array.ext<;>simp
      simp[newRow,Bx,Instr.fill,dd]
     ·exact ah.elim
    |true=>
     rw[bb]at ah;simp only[cb]at ah;rw[cz]at bb;have bq:=bI bb.1;have m6:0<len*aI.size:=by simpa using bb.2
     split at ah;·rename_i cells xU;obtain⟨tz,BJ,xT⟩:=(aQ _ _ hF).GG w;obtain⟨ah⟩:=ah;have ae:=ah w.heap.size h.holds.sE h.holds.rr;refine jg (by simp) (v:=.slice (some ⟨w.heap.size,0,none⟩) len len) (w':=w.alloc (.cells cells.toArray e (0,0))) ?_ ⟨_,.val _,_,_,_,rfl,rfl,h.oe _,ae,.inr ⟨rfl,λ_ _ h=>h,λb o ag=>ag.mono (λ_ _ h=>h) (λx ad=>by simp[ad])⟩⟩;have wk:=fill_eq _ _ _ _ xU;simp only[execOp,Instr.buildSlice,ct,bY,run_underlying hu,(aQ _ _ hF).run_sizeOf];rw[bS (by omega)];simp only[bS (show ¬ len*aI.size=0 by omega),ct,BJ,bY,c3,zl,VU tz aI.zero xT,wk];simp[newRow,Bx]
     ·exact ah.elim
   ·exact ah.elim
  ·exact ah.elim
 case makeSlice t l c=>
  simp only[wv,b5,gZ]at ah;split at ah
  ·rename_i sz hQ z e gH eB du c' ax ay an;have hu:=(aQ _ _ ax).slice;have oh:=o4 (by simp[Op.operands]) ay;have zA:=o4 (by simp[Op.operands]) an;split at ah
   ·rename_i aI hF;obtain⟨n,m,rfl,rfl,h7,ag,hm,⟨ah⟩⟩:=ah;have ae:=ah w.heap.size h.holds.sE h.holds.rr;obtain⟨inf,tz,ft,iW,iB,kE,BK⟩:=(aQ _ _ hF).inf;refine jg (by simp) (v:=.slice (some ⟨w.heap.size,0,none⟩) n m) (w':=w.alloc (.cells (rowOf aI.zero (m*aI.size)).toArray e (0,0))) ?_ ⟨_,.val _,_,_,_,rfl,rfl,h.oe _,ae,.inr ⟨rfl,λ_ _ h=>h,λb o ag=>ag.mono (λ_ _ h=>h) (λx ad=>by simp[ad])⟩⟩;have gS:((aI.bytes:Nat):Int)*(m:Int)<=281474976710656:=by
     have ab:((aI.bytes*m:Nat):Int)<=281474976710656:=by omega
     simpa using ab
    have:=run_make (P:=X.P) w t e inf tz hu ft kE gH du (n:Int) (m:Int) (by omega) (by omega) (by rw[iB];exact gS) (by omega);simp only[execOp,oh,zA,ct,this,bY,c3,gz];have aJ:madeCells tz.cells (m*inf.size)=(rowOf aI.zero (m*aI.size)).toArray:=by rw[iW,<-BK];simp[wg]
    rw[aJ]
   ·exact ah.elim
  ·exact ah.elim
 case call c=>
  obtain⟨callee,args,argTypes⟩:=c;cases callee with
  |value f=>
   simp only[wv,b5]at ah;split at ah
   ·rename_i g first cap vs nP iU
    have ahz:m1 G args.toList=some vs:=by rw[<-iU];exact x0 λy aH=>jk y (by simp only[Op.operands,Call.operands];simp;right;simpa using aH)
    have ahA:=o4 (by simp[Op.operands,Call.operands]) nP;obtain⟨I1,ey,Mr,post,ahB,cu,au,ae⟩:=ah.elim ⟨h.holds.d,h.holds.ca⟩;have aJ:=tu aA ahz;have er:args.map a.eval=vs.toArray:=by apply gY;simpa using aJ
    have fj:∀ {n:Next} {w':World},(callFunc g (first.toList++vs++cap.toList).toArray).run X.P w=.ok n w'->(execOp a.eval ⟨dst,.call { callee:=.value f,args,argTypes },ty,pos,after,guard⟩).run X.P w=.ok n w':=λaf=>by simp only[execOp,resolve,ahA,Deferred.ofValue,ct,c3,bY,er,invoke];rw[show first++vs.toArray++cap=(first.toList++vs++cap.toList).toArray from by apply gY;simp];exact af
    have KO:∀ {I':aM} {M':List aE},(∀ b o,I b=some o->I' b=some o)->(soft=true\/∀ x∈M,I' x.num=some x.obj\/x∈M')->(soft=true/\Wi F (.call { callee:=.value f,args,argTypes }) C C I I' M M')\/(C=C/\(∀ b o,I b=some o->I' b=some o)/\∀ b o,ik I M b o->ik I' M' b o):=λaa ab=>by
     rcases ab with ab | ab;·exact .inl ⟨ab,⟨λt x y s off e _=>(by cases e),λt x y aU e _=>(by cases e),λ_=>⟨rfl,aa⟩⟩⟩
     ·exact .inr ⟨rfl,aa,λb o ag=>ag.move aa ab⟩
    rcases h.call (KC:=λv I' M'=>(∀ b o,I b=some o->I' b=some o)/\(soft=true\/∀ x∈M,I' x.num=some x.obj\/x∈M')/\K (Go.V.put dst (.val v) F) C I' M') (.DX I1 ey Mr post ahB au λv I' M' bq ak aB=>⟨λb o ag=>bq _ _ (cu _ _ ag),(ae v I' M' bq ak aB).1,(ae v I' M' bq ak aB).2⟩)with⟨qw,BL⟩ | ⟨v,w',I',M',af,⟨aa,ab,ae⟩,e6⟩;·refine VT (by simp) (f:=g) (args:=(first.toList++vs++cap.toList).toArray) (fj (qw _ _)) ?_;refine BL.mono ?_;rintro e w'⟨v,I',M',rfl,⟨aa,ab,ae⟩,af⟩;exact⟨v,rfl,v,.val v,C,I',M',rfl,rfl,af,ae,KO aa ab⟩
    ·exact jg (by simp) (fj af) ⟨v,.val v,C,I',M',rfl,rfl,e6,ae,KO aa ab⟩
   ·exact ah.elim
  |invoke r m=>exact ah.elim
  |builtin b=>
   cases b
   case append=>
    simp only[wv,b5]at ah;cases soft with
    |false=>exact ah.elim| true=>simp only[cb]at ah;obtain⟨ah⟩:=ah G jk;refine tq (λbO w'=>?_) (ah β a w Q h);rintro⟨v,x,I',M',aa,ab,aj,aG,Pn⟩;exact⟨v,x,C,I',M',aa,ab,aj,aG,.inl ⟨rfl,⟨λt x y s off e _=>(by cases e),λt x y aU e _=>(by cases e),λ_=>⟨rfl,λb o h=>by rw[Pn];exact h⟩⟩⟩⟩
   case copy=>
    simp only[wv,b5]at ah;cases soft with
    |false=>exact ah.elim| true=>simp only[cb]at ah;obtain⟨ah⟩:=ah G jk;refine tq (λbO w'=>?_) (ah β a w Q h);rintro⟨v,x,I',M',aa,ab,aj,aG,Pn⟩;exact⟨v,x,C,I',M',aa,ab,aj,aG,.inl ⟨rfl,⟨λt x y s off e _=>(by cases e),λt x y aU e _=>(by cases e),λ_=>⟨rfl,λb o h=>by rw[Pn];exact h⟩⟩⟩⟩
   all_goals exact ah.elim
 all_goals exact ah.elim
def tF(x y:dD):Prop:=∀ β u,e3 β x u->e3 β y u
def tF.refl(x:dD):tF x x:=λ_ _ h=>h
def tF.trans{x y z:dD}(h:tF x y)(bc:tF y z):tF x z:=fun β u hu=>bc β u (h β u hu)
structure wz(ops:List Oper):Prop where
 lt:∀ j e,m9 ops j e->e<j
 own:∀ (j:Nat) (o:Oper) (d:Nat),ops[j]?=some o->o.dst=some d->d ∉ looks ops o
 Po:∀ (i j:Nat) (gI m8:Oper) (d:Nat),i≠j->ops[i]?=some gI->ops[j]?=some m8->gI.dst=some d->m8.dst≠some d
 ord:∀ (i j:Nat) (gI m8:Oper) (d:Nat),i≠j->ops[i]?=some gI->ops[j]?=some m8->gI.dst=some d->d∈looks ops m8->pS ops i j\/pS ops j i
def Wj(h:BT ops=true):wz ops:=by
 have key:∀ (j:Nat) (m8:Oper),ops[j]?=some m8->_:=λj m8 ai=>by have a1:j<ops.length:=(ij.1 ai).1;have aa:=fi.1 h j (g8.2 a1);simp only[ai,cz]at aa;exact aa
 refine⟨?_,?_,?_,?_⟩
 ·rintro j e⟨o,nT,aK,rK,ag,rfl⟩;have aa:=fi.1 (key j o aK).1 nT (by simpa using rK);rw[ag]at aa;simpa using aa
 ·intro j o d aK ak;have aa:=(key j o aK).2.1;rw[ak]at aa;simpa using aa
 ·intro i j gI m8 d bs hi ai ak fD;have a1:i<ops.length:=(ij.1 hi).1;have aa:=fi.1 (key j m8 ai).2.2 i (g8.2 a1);rw[hE bs]at aa;simp only[hi,ak,uX,cz]at aa;rw[fD]at aa;simp at aa
 ·intro i j gI m8 d bs hi ai ak ay;have a1:i<ops.length:=(ij.1 hi).1;have aa:=fi.1 (key j m8 ai).2.2 i (g8.2 a1);rw[hE bs]at aa;simp only[hi,ak,uX,cz,k6]at aa;rcases aa.2 with ab | ab | ab
  ·have:(looks ops m8).contains d=true:=by simpa using ay
   rw[this]at ab;cases ab
  ·exact .inl (zy ab)
  ·exact .inr (zy ab)
def jl(ops:List Oper)(i:Nat):Option Nat:=(ops[i]?).bind (·.dst)
def k7(L:Nat->Prop)(p i:Nat):Prop:=p.testBit i=true/\¬ L i
def zB(ops:List Oper)(o:Oper)(F:Fr):Prop:=match o.guard with
 |none=>True| some (j,b)=>∃ d,jl ops j=some d/\F d=.lit b
def KP(ops:List Oper)(o:Oper)(F:Fr):Prop:=∃ j b d,o.guard=some (j,b)/\jl ops j=some d/\(F d=.lit (!b)\/∃ vs,F d=.val (.tuple vs))
def Pp{o:Oper}{j d:Nat}{b:Bool}(av:o.guard=some (j,b))(ak:jl ops j=some d):d∈looks ops o:=by unfold looks Oper.looksAt;refine oY _ ?_;rw[av];simp only[Option.mem_toList];simpa[jl]using ak
def Pq{o:Oper}{t:Nat}(h:Operand.tmp t∈o.op.operands):t∈looks ops o:=
 iD _ (List.mem_filterMap.2 ⟨.tmp t,by simpa using h,rfl⟩)
def Wk{o:Oper}{F:Fr}{a:Act}(h:zB ops o F)(bG:∀ t∈looks ops o,e3 β (F t) (a.tmps.getD t undef)):Region.wanted o (yielded ops.toArray a.tmps)=true:=by
 unfold zB at h;unfold Region.wanted;cases av:o.guard with
 |none=>rfl| some GL=>obtain⟨j,b⟩:=GL;rw[av]at h;obtain⟨d,ak,ay⟩:=h;have aa:=bG d (Pp av ak);rw[ay]at aa;have aH:=GK (ops:=ops.toArray) (j:=j) (d:=d) (by simpa[jl]using ak) a.tmps;simp[aH,D5 aa]
def Wl{o:Oper}{F:Fr}{a:Act}(h:KP ops o F)(bG:∀ t∈looks ops o,e3 β (F t) (a.tmps.getD t undef)):Region.wanted o (yielded ops.toArray a.tmps)=false:=by
 obtain⟨j,b,d,av,ak,ay⟩:=h;unfold Region.wanted;have aa:=bG d (Pp av ak);have aH:=GK (ops:=ops.toArray) (j:=j) (d:=d) (by simpa[jl]using ak) a.tmps;rw[av];rcases ay with ay | ⟨vs,ay⟩
 ·rw[ay]at aa;simp[aH,D5 aa]
 ·rw[ay]at aa;have uT:yielded ops.toArray a.tmps j=none:=by
   rw[aH];cases kF:a.tmps[d]? with
   |none=>rfl| some v=>simp only[e3,pM,kF,j']at aa;subst aa;rfl
  simp[uT]
def Wm{o:Oper}{F:Fr}{run skip:Fr->Prop}(h:KM ops o F run skip):∃ l',(∀ t,tF (F t) (l' t))/\((zB ops o l'/\run l')\/(KP ops o l'/\skip l')):=by
 unfold KM at h;cases av:o.guard with
 |none=>rw[av]at h;exact⟨F,λt=>.refl _,.inl ⟨by simp[zB,av],h⟩⟩
 |some GL=>
  obtain⟨j,b⟩:=GL;rw[av]at h;simp only at h;split at h;·exact h.elim
  ·rename_i d ak;have fD:jl ops j=some d:=ak;split at h
   ·rename_i c an;refine⟨F,λt=>.refl _,?_⟩;cases jS:(c == b)with
    |true=>
     rw[jS]at h;have jS:c=b:=by simpa using jS
     subst jS;exact .inl ⟨by simp only[zB,av];exact⟨d,fD,an⟩,h⟩
    |false=>
     rw[jS]at h;have KQ:c=!b:=by cases c<;>cases b<;>simp_all
     subst KQ;exact .inr ⟨⟨j,b,d,av,fD,.inl an⟩,h⟩
   ·rename_i c an;obtain⟨aa,ab⟩:=h;have hG:∀ x,c=x->∀ t,tF (F t) (ga F d (.lit x) t):=λx ad t=>by
     unfold ga;by_cases e:t=d;·subst e;subst ad;simp only[rq,cb,an];exact λ_ _ h=>h
     ·simp only[hE e,b5];exact .refl _
    have self:∀ x,ga F d (.lit x) d=.lit x:=λx=>by simp[ga]
    by_cases jS:c=b;·exact⟨_,hG b jS,.inl ⟨by simp only[zB,av];exact⟨d,fD,self b⟩,aa jS⟩⟩
    ·have KQ:c=!b:=by cases c<;>cases b<;>simp_all
     exact⟨_,hG _ KQ,.inr ⟨⟨j,b,d,av,fD,.inl (self _)⟩,ab KQ⟩⟩
   ·rename_i vs an;exact⟨F,λt=>.refl _,.inr ⟨⟨j,b,d,av,fD,.inr ⟨vs,an⟩⟩,h⟩⟩
   ·exact h.elim
structure ahC(X:cV)(ops:List Oper)(im':Nat->Bool)(L:Nat->Prop)(p:Nat)(cm:List (Nat×Nat))(β:Nat->Nat)(a:Act)(F:Fr)(C:dF)(I:aM)(M:List aE)(hH:Nat->dD)(gT:Nat->Fr)(q:Nat)(o:Oper):Prop where
 quiet:Ea o.op=true
 hG:∀ d,o.dst=some d->tF (hH q) (F d)
 b:∀ t∈looks ops o,∀ i,k7 L p i->pS ops i q->jl ops i=some t->tF (hH i) (gT q t)
 a:∀ t∈looks ops o,(∀ i,k7 L p i->pS ops i q->jl ops i≠some t)->e3 β (gT q t) (a.tmps.getD t undef)
 r:(zB ops o (gT q)/\cH X o.op (dq (gT q)) C I (wx (im' q) M) (λx=>x=hH q) False/\∀ t x,o.op=.load t x->(q,KN (dq (gT q) x))∈cm)\/(KP ops o (gT q)/\hH q=.val undef)
structure Inv(X:cV)(ops:List Oper)(im':Nat->Bool)(L:Nat->Prop)(β:Nat->Nat)(a:Act)(w:World)(F:Fr)(C:dF)(I:aM)(M:List aE)(p:Nat)(cm:List (Nat×Nat))(hH:Nat->dD)(gT:Nat->Fr):Prop where
 rel:cN X β a w (λ_=>.nO) C I M
 sub:∀ i,L i->p.testBit i=true
 wA:BU ops L
 rL:BU ops (λi=>p.testBit i=true)
 T:∀ t,(∀ i,k7 L p i->jl ops i≠some t)->e3 β (F t) (a.tmps.getD t undef)
 zC:∀ q,k7 L p q->∃ o,ops[q]?=some o/\ahC X ops im' L p cm β a F C I M hH gT q o
def na{p q i:Nat}:(p ||| 2^q).testBit i=true ↔ p.testBit i=true\/i=q:=by simp only[KL,k6,KK,hq];exact⟨λh=>h.imp id Eq.symm,λh=>h.imp id Eq.symm⟩
section
variable{X:cV}{ops:List Oper}{im':Nat->Bool}{L:Nat->Prop}{β:Nat->Nat}{a:Act}{w:World}{F:Fr}{C:dF}{I:aM}{M:List aE}{p:Nat}{cm:List (Nat×Nat)}{hH:Nat->dD}{gT:Nat->Fr}{q:Nat}{o:Oper}
def G7(h:ops[q]?=some o):jl ops q=o.dst:=by simp[jl,h]
def G8{i d:Nat}(h:jl ops i=some d):∃ gI,ops[i]?=some gI/\gI.dst=some d:=by unfold jl at h;exact KJ.1 h
def Inv.ahead(dk:wz ops)(Wn:BU ops (λi=>p.testBit i=true))(aN:ops[q]?=some o)(lE:p.testBit q=false){i t:Nat}(hi:p.testBit i=true)(ax:t∈looks ops o)(ak:jl ops i=some t):pS ops i q:=by
 obtain⟨gI,ir,qF⟩:=G8 ak;have bs:i≠q:=λe=>by rw[e,lE]at hi;cases hi
 rcases dk.ord i q gI o t bs ir aN qF ax with h | h
 ·exact h
 ·have:=h.mem Wn (λe he=>Wn i e hi he);rw[lE]at this;cases this
def Inv.ahD(dk:wz ops)(h:Inv X ops im' L β a w F C I M p cm hH gT)(aN:ops[q]?=some o)(lE:p.testBit q=false)(bm:∀ e,m9 ops q e->L e):∀ t∈looks ops o,e3 β (F t) (a.tmps.getD t undef):=λt ax=>h.T t λi hi ak=>
 hi.2 ((Inv.ahead dk h.rL aN lE hi.1 ax ak).mem h.wA bm)
def KR{x:dD}{t:Nat}(h:dst≠some t):put dst x F t=F t:=by
 cases dst with
 |none=>rfl| some d=>have:t≠d:=λe=>h (by rw[e]);simp only[put,ga,hE this,b5]
def put_eq{x:dD}{t:Nat}:put (some t) x F t=x:=by simp[put,ga]
def KS{t:Nat}(h:dst≠some t):(a.put dst v).tmps.getD t undef=a.tmps.getD t undef:=by
 cases dst with
 |none=>rfl| some d=>have:d≠t:=λe=>h (by rw[e]);simp only[Act.put,pM,DT,bS this]
def Pr{t:Nat}(h:t<a.tmps.size):(a.put (some t) v).tmps.getD t undef=v:=by rw[VI a t t v h,bN rfl]
def Inv.record(dk:wz ops)(h:Inv X ops im' L β a w F C I M p cm hH gT)(aN:ops[q]?=some o)(lE:p.testBit q=false)(zx:∀ e,m9 ops q e->p.testBit e=true)(KT:Ea o.op=true)
 (tG:∀ t,tF (F t) (l' t)) {x:dD} {Ps:List (Nat×Nat)} (rD:∀ s∈cm,s∈Ps) (af:(zB ops o l'/\cH X o.op (dq l') C I (wx (im' q) M) (λy=>y=x) False/\∀ t y,o.op=.load t y->(q,KN (dq l' y))∈Ps)\/(KP ops o l'/\x=.val undef)) :
  Inv X ops im' L β a w (put o.dst x l') C I M (p ||| 2^q) Ps (λi=>if i=q then x else hH i) (λi=>if i=q then l' else gT i):=by
 have rM:¬ L q:=λe=>by have:=h.sub q e;rw[lE]at this;cases this
 have qG:∀ {i},k7 L (p ||| 2^q) i->i≠q->k7 L p i:=λhi bs=>⟨(na.1 hi.1).resolve_right bs,hi.2⟩;have x1:∀ {i},k7 L p i->k7 L (p ||| 2^q) i:=λhi=>⟨na.2 (.inl hi.1),hi.2⟩;have ahE:k7 L (p ||| 2^q) q:=⟨na.2 (.inr rfl),rM⟩;have ahF:∀ {i},k7 L p i->¬ pS ops q i:=fun {i} hi ag=>by have:=ag.mem h.rL (λe he=>h.rL i e hi.1 he);rw[lE]at this;cases this
 refine⟨h.rel,λi hi=>na.2 (.inl (h.sub i hi)),h.wA,?_,?_,?_⟩
 ·intro j e ai he;rcases na.1 ai with ai | rfl
  ·exact na.2 (.inl (h.rL j e ai he))
  ·exact na.2 (.inl (zx e he))
 ·intro t ax;have aa:o.dst≠some t:=λe=>ax q ahE (by rw[G7 aN,e]);rw[KR aa];exact tG t _ _ (h.T t λi hi=>ax i (x1 hi))
 ·intro i hi;by_cases nU:i=q
  ·subst nU;refine⟨o,aN,⟨KT,?_,?_,?_,?_⟩⟩
   ·intro d ak;rw[ak,put_eq];simp only[bN];exact .refl _
   ·intro t ax j ai ag wB;have KU:j≠i:=λe=>by subst e;have:=ag.mem h.rL zx;rw[lE]at this;cases this
    simp only[bS KU,bN];obtain⟨m8,ahG,nb⟩:=h.zC j (qG ai KU);exact(nb.hG t (by rw[<-G7 ahG];exact wB)).trans (tG t)
   ·intro t ax dN;simp only[bN];refine tG t _ _ (h.T t λj ai wB=>dN j (x1 ai) (Inv.ahead dk h.rL aN lE ai.1 ax wB) wB)
   ·simpa using af
  ·obtain⟨gI,ir,nb⟩:=h.zC i (qG hi nU);refine⟨gI,ir,⟨nb.quiet,?_,?_,?_,?_⟩⟩
   ·intro d ak;simp only[bS nU];rw[KR (dk.Po i q gI o d nU ir aN ak)];exact(nb.hG d ak).trans (tG d)
   ·intro t ax j ai ag wB;have G9:j≠q:=λe=>by subst e;exact ahF (qG hi nU) ag
    simp only[bS nU,bS G9];exact nb.b t ax j (qG ai G9) ag wB
   ·intro t ax dN;simp only[bS nU];exact nb.a t ax λj ai=>dN j (x1 ai)
   ·simp only[bS nU];exact nb.r.imp (λ⟨aa,ab,aj⟩=>⟨aa,ab,λt x aJ=>rD _ (aj t x aJ)⟩) id
def Inv.exec{zs:Act->World->Prop}(aQ:cU X.P X.E)(dk:wz ops)(hs:∀ d,o.dst=some d->d<X.n)(h:Inv X ops im' L β a w F C I M p cm hH gT)(aN:ops[q]?=some o)(aB:k7 L p q)(bm:∀ e,m9 ops q e->L e)
  (eG:∀ bO,Inv X ops im' (λi=>L i\/i=q) β bO w F C I M p cm hH gT->zs bO w):wpOpIn (g' X) 0 X.P ops.toArray Q q zs a w:=by
 obtain⟨o',rN,nb⟩:=h.zC q aB;rw[aN]at rN;cases rN;have Ec:∀ {i},pS ops i q->¬ k7 L p i:=λag hi=>hi.2 (ag.mem h.wA bm);have dv:∀ t∈looks ops o,e3 β (gT q t) (a.tmps.getD t undef):=λt ax=>nb.a t ax λi hi ag=>(Ec ag hi).elim;have after:∀ v,e3 β (hH q) v->Inv X ops im' (λi=>L i\/i=q) β (a.put o.dst v) w F C I M p cm hH gT:=λv ah=>by
  have qG:∀ {i},k7 (λi=>L i\/i=q) p i->k7 L p i/\i≠q:=λhi=>⟨⟨hi.1,λe=>hi.2 (.inl e)⟩,λe=>hi.2 (.inr e)⟩;have x1:∀ {i},k7 L p i->i≠q->k7 (λi=>L i\/i=q) p i:=λhi bs=>⟨hi.1,λe=>e.elim hi.2 bs⟩;refine⟨h.rel.put hs (x:=.nO) trivial |> λh=>h.refine λ_=>trivial,?_,?_,h.rL,?_,?_⟩
  ·rintro i (hi | rfl)
   ·exact h.sub i hi
   ·exact aB.1
  ·rintro j e (ai | rfl) he
   ·exact .inl (h.wA j e ai he)
   ·exact .inl (bm e he)
  ·intro t ax;by_cases ak:o.dst=some t
   ·have a1:t<a.tmps.size:=by rw[h.rel.size];exact hs t ak
    rw[ak,Pr a1];exact nb.hG t ak _ _ ah
   ·rw[KS ak];refine h.T t λi hi qF=>?_;by_cases nU:i=q
    ·subst nU;rw[G7 aN]at qF;exact ak qF
    ·exact ax i (x1 hi nU) qF
  ·intro i hi;obtain⟨cZ,nU⟩:=qG hi;obtain⟨gI,ir,sH⟩:=h.zC i cZ;refine⟨gI,ir,⟨sH.quiet,sH.hG,λt ax j ai=>sH.b t ax j (qG ai).1,?_,sH.r⟩⟩;intro t ax dN;by_cases ak:o.dst=some t
   ·have a1:t<a.tmps.size:=by rw[h.rel.size];exact hs t ak
    rw[ak,Pr a1];have ag:pS ops q i:=by
     rcases dk.ord q i o gI t (pN nU) aN ir ak ax with ag | ag;·exact ag
     ·exact(Ec ag cZ).elim
    exact sH.b t ax q aB ag (by rw[G7 aN,ak]) _ _ ah
   ·rw[KS ak];refine sH.a t ax λj ai ag wB=>?_;by_cases G9:j=q
    ·subst G9;rw[G7 aN]at wB;exact ak wB
    ·exact dN j (x1 ai G9) ag wB
 have G':ops.toArray[q]?=some o:=by simpa using aN
 unfold wpOpIn;simp only[G'];rcases nb.r with⟨fj,BV,-⟩ | ⟨Ha,ad⟩
 ·rw[Wk fj dv,bN rfl];let G:Fr:=λt=>if t∈looks ops o then gT q t else .nO
  have jk:∀ t,e3 β (G t) (a.tmps.getD t undef):=λt=>by
   by_cases ax:t∈looks ops o;·simp only[G,bN ax];exact dv t ax
   ·simp only[G,bS ax];trivial
  have Pt:∀ y∈o.op.operands,dq G y=dq (gT q) y:=λy aH=>by
   cases y with
   |tmp t=>simp only[dq,G,bN (Pq aH)]| const v=>cases v<;>rfl
   |global g=>rfl| func f=>rfl
  have ahH:=Wh BV Pt (C':=C) (I':=I) (M':=M) λ_ _ _=>⟨λ_ _ _=>rfl,λ_ _ _ h=>aho h⟩;obtain⟨dst,op,ty,pos,ahI,guard⟩:=o;have bH:∀ c,op≠.defer c:=λc e=>by have:=nb.quiet;rw[e]at this;cases this
  rcases VY aQ (h.rel.refine jk) op ty dst pos ahI guard ahH with aa | ⟨v,x,hy,ad,rfl⟩;·exact aa.elim
  ·exact jg bH hy (eG _ (after v ad))
 ·rw[Wl Ha dv];simp only[lv,l6];exact⟨λ_ _=>trivial,eG _ (after undef (by rw[ad];rfl))⟩
end
section
variable{X:cV}{ops:List Oper}{im':Nat->Bool}{L:Nat->Prop}{β:Nat->Nat}{a:Act}{w:World}{F:Fr}{C:dF}{I:aM}{M:List aE}{p:Nat}{cm:List (Nat×Nat)}{hH:Nat->dD}{gT:Nat->Fr}{q:Nat}{o:Oper}
def Inv.refine(h:Inv X ops im' L β a w F C I M p cm hH gT)(tG:∀ t,tF (F t) (l' t)):Inv X ops im' L β a w l' C I M p cm hH gT:=
 ⟨h.rel,h.sub,h.wA,h.rL,λt ax=>tG t _ _ (h.T t ax),λi hi=>by
  obtain⟨gI,ir,aB⟩:=h.zC i hi;exact⟨gI,ir,⟨aB.quiet,λd ak=>(aB.hG d ak).trans (tG d),aB.b,aB.a,aB.r⟩⟩⟩
def Inv.step(dk:wz ops)(hs:∀ d,o.dst=some d->d<X.n)(h:Inv X ops im' L β a w F C I M p cm hH gT)(aN:ops[q]?=some o)(lE:p.testBit q=false)(bm:∀ e,m9 ops q e->L e)
 {x:dD} {C':dF} (ad:e3 β x v) (af:cN X β a w' (λ_=>.nO) C' I' M')
  (hm:∀ i gI fV,k7 L p i->ops[i]?=some gI->qC gI.op=true->(i,fV)∈cm->(∀ s,fV=s+1->C' s=C s)/\(fV=0->∀ b o,ik I (wx (im' i) M) b o->ik I' (wx (im' i) M') b o)) :
  Inv X ops im' (λi=>L i\/i=q) β (a.put o.dst v) w' (put o.dst x F) C' I' M' (p ||| 2^q) cm hH gT:=by
 have qG:∀ {i},k7 (λi=>L i\/i=q) (p ||| 2^q) i->k7 L p i:=λhi=>⟨(na.1 hi.1).resolve_right (λe=>hi.2 (.inr e)),λe=>hi.2 (.inl e)⟩;have x1:∀ {i},k7 L p i->k7 (λi=>L i\/i=q) (p ||| 2^q) i:=fun {i} hi=>⟨na.2 (.inl hi.1),λe=>e.elim hi.2 (λe=>by
  subst e;have:=hi.1;rw[lE]at this;cases this)⟩
 refine⟨af.put hs (x:=.nO) trivial |> λh=>h.refine λ_=>trivial,?_,?_,?_,?_,?_⟩
 ·rintro i (hi | rfl)
  ·exact na.2 (.inl (h.sub i hi))
  ·exact na.2 (.inr rfl)
 ·rintro j e (ai | rfl) he
  ·exact .inl (h.wA j e ai he)
  ·exact .inl (bm e he)
 ·intro j e ai he;rcases na.1 ai with ai | rfl
  ·exact na.2 (.inl (h.rL j e ai he))
  ·exact na.2 (.inl (h.sub e (bm e he)))
 ·intro t ax;by_cases ak:o.dst=some t
  ·have a1:t<a.tmps.size:=by rw[h.rel.size];exact hs t ak
   rw[ak,Pr a1,put_eq];exact ad
  ·rw[KS ak,KR ak];exact h.T t λi hi=>ax i (x1 hi)
 ·intro i hi;have cZ:=qG hi;obtain⟨gI,ir,sH⟩:=h.zC i cZ;have nU:i≠q:=λe=>by subst e;have:=cZ.1;rw[lE]at this;cases this
  refine⟨gI,ir,⟨sH.quiet,?_,λt ax j ai=>sH.b t ax j (qG ai),?_,?_⟩⟩;·intro d ak;rw[KR (dk.Po i q gI o d nU ir aN ak)];exact sH.hG d ak
  ·intro t ax dN;have ak:o.dst≠some t:=λak=>by
    rcases dk.ord q i o gI t (pN nU) aN ir ak ax with ag | ag;·have:=ag.mem h.rL (λe he=>h.rL i e cZ.1 he);rw[lE]at this;cases this
    ·exact cZ.2 (ag.mem h.wA bm)
   rw[KS ak];exact sH.a t ax λj ai=>dN j (x1 ai)
  ·refine sH.r.imp (λ⟨aa,ab,aj⟩=>⟨aa,Wh ab (λ_ _=>rfl) λt x ay=>?_,aj⟩) id;have aG:=aj t x ay;have bx:=hm i gI _ cZ ir (by rw[ay];rfl) aG;refine⟨λs off e=>?_,λbs=>bx.2 ?_⟩
   ·exact bx.1 s (by rw[e];rfl)
   ·generalize dq (gT i) x=ahJ at bs;cases ahJ with
    |ref s off=>exact(bs s off rfl).elim| _=>rfl
def BW(X:cV)(ops:List Oper)(im':Nat->Bool)(K:gm)(L:Nat->Prop)(a:Act)(w:World):Prop:=
 ∃ β F C I M p cm hH gT n,Inv X ops im' L β a w F C I M p cm hH gT/\pR X ops im' n p cm F C I M K
def Hb{k:Bool}{i:Nat}:i∈qD ops p k ↔ ∃ o,ops[i]?=some o/\p.testBit i=false/\Ea o.op=k/\(∀ e,m9 ops i e->p.testBit e=true):=by
 unfold qD;rw[iE,g8];have u0:∀ {o},ops[i]?=some o->(G2 o p=true ↔ ∀ e,m9 ops i e->p.testBit e=true):=fun {o} aK=>by
  unfold G2;rw[fi];constructor;·rintro h e⟨o',nT,rN,rK,ag,rfl⟩;rw[aK]at rN;cases rN;have:=h nT (by simpa using rK);rw[ag]at this;simpa using this
  ·intro h nT rK;cases ag:Region.binds .any nT with
   |false=>simp| true=>simp[h nT.on ⟨o,nT,aK,by simpa using rK,ag,rfl⟩]
 constructor
 ·rintro⟨a1,h⟩;cases aK:ops[i]? with
  |none=>rw[aK]at h;cases h| some o=>rw[aK]at h;simp only[cz,tC,beq_iff_eq]at h;exact⟨o,rfl,h.1,h.2.1,(u0 aK).1 h.2.2⟩
 ·rintro⟨o,aK,aa,ab,aj⟩;refine⟨(ij.1 aK).1,?_⟩;rw[aK];simp only[aa,ab,(u0 aK).2 aj,Bool.not_false,GZ,Bool.and_self]
def Wo{P:Nat->Prop}:∀ {l:List Nat},Pk P l->∀ i∈l,P i
 |[],_,i,hi=>by cases hi
 |[j],h,i,hi=>by rw[ec]at hi;subst hi;exact h
 |j::k::l,h,i,hi=>by
  rcases eg.1 hi with rfl | hi;·exact h.1
  ·exact Wo (l:=k::l) h.2 i hi
def ahK(i:Nat)(op:Op)(ρ:Operand->dD)(cm:List (Nat×Nat)):∀ s∈cm,s∈G5 i op ρ cm:=λs au=>by
 unfold G5;split
 ·exact .tail _ au
 ·exact au
def ahL{i:Nat}{cm:List (Nat×Nat)}:∀ t x,op=.load t x->(i,KN (ρ x))∈G5 i op ρ cm:=λt x aJ=>by subst aJ;unfold G5;exact .head _
def BW.advance(dk:wz ops){K:gm}:∀ (n:Nat) {p cm F hH gT},Inv X ops im' L β a w F C I M p cm hH gT->pR X ops im' n p cm F C I M K -> ∃ p cm F hH gT n,Inv X ops im' L β a w F C I M p cm hH gT/\qD ops p true=[]/\pR X ops im' (n+1) p cm F C I M K
 |0,_,_,_,_,_,_,ah=>ah.elim
 |n+1,p,cm,F,hH,gT,bz,ah=>by
  cases af:qD ops p true with
  |nil=>exact⟨p,cm,F,hH,gT,n,bz,af,ah⟩
  |cons q l=>
   have fo:q∈qD ops p true:=by rw[af];simp
   obtain⟨o,aN,lE,KT,zx⟩:=Hb.1 fo;have kd:=ah;unfold pR at kd;rw[af]at kd;simp only[aN]at kd;obtain⟨l',tG,⟨fj,aa⟩ | ⟨Ha,aa⟩⟩:=Wm kd;·obtain⟨x,ab,aj⟩:=ahu (ahq aa);exact BW.advance dk n (bz.record dk aN lE zx KT tG (ahK _ _ _ _) (.inl ⟨fj,aj,ahL⟩)) ab
   ·exact BW.advance dk n (bz.record dk aN lE zx KT tG (λ_ h=>h) (.inr ⟨Ha,rfl⟩)) aa
def mem_ready{i:Nat}(da:dy.size=ops.length):i∈Region.ready .any ops.toArray dy ↔ ∃ o,ops[i]?=some o/\¬ dy.getD i false=true/\∀ e,m9 ops i e->dy.getD e false=true:=by
 unfold Region.ready;rw[iE,g8];simp only[oZ,BP,cz,tC];have u0:∀ {o},ops[i]?=some o->((o.after.all λe=>!Region.binds .any e||dy.getD e.on false)=true ↔ ∀ e,m9 ops i e->dy.getD e false=true):=fun {o} aK=>by
  rw[Array.all_eq_true_iff_forall_mem];constructor;·rintro h e⟨o',nT,rN,rK,ag,rfl⟩;rw[aK]at rN;cases rN;have:=h nT rK;rw[ag]at this;simpa using this
  ·intro h nT rK;cases ag:Region.binds .any nT with
   |false=>simp| true=>simp[h nT.on ⟨o,nT,aK,rK,ag,rfl⟩]
 have Wp:i<ops.length->(dy.getD i true=false ↔ ¬ dy.getD i false=true):=λhi=>by
  have:i<dy.size:=by omega
  simp[Array.getD,this]
 constructor
 ·rintro⟨a1,aa,ab⟩;cases aK:ops[i]? with
  |none=>rw[aK]at ab;cases ab| some o=>rw[aK]at ab;exact⟨o,rfl,(Wp a1).1 aa,(u0 aK).1 ab⟩
 ·rintro⟨o,aK,aa,ab⟩;have a1:=(ij.1 aK).1;refine⟨a1,(Wp a1).2 aa,?_⟩;rw[aK];exact(u0 aK).2 ab
def Wq{i:Nat}(hi:i<dy.size):(λj=>(dy.setIfInBounds i true).getD j false=true)=λj=>dy.getD j false=true\/j=i:=by
 funext j;simp only[pM,DT,eq_iff_iff];by_cases e:i=j
 ·subst e;simp[hi]
 ·simp only[bS e];constructor
  ·exact .inl
  ·rintro(h | h)
   ·exact h
   ·exact(e h.symm).elim
def todo(ops:List Oper)(dy:Array Bool):Nat:=((List.range ops.length).filter λi=>!dy.getD i false).length
def KV{i:Nat}(hi:i<ops.length)(da:dy.size=ops.length)(aC:¬ dy.getD i false=true):todo ops (dy.setIfInBounds i true)<todo ops dy:=by
 unfold todo;have key:∀ l:List Nat,l.Nodup->i∈l->((l.filter λj=>!(dy.setIfInBounds i true).getD j false).length<(l.filter λj=>!dy.getD j false).length):=by
  have same:∀ j,j≠i->(dy.setIfInBounds i true).getD j false=dy.getD j false:=λj ai=>by simp only[pM,DT,bS (pN ai)]
  have self:(dy.setIfInBounds i true).getD i false=true:=by
   have:i<dy.size:=by omega
   simp[pM,DT,this]
  have BX:dy.getD i false=false:=by simpa using aC
  intro l
  induction l with
  |nil=>intro _ h;cases h
  |cons j l aF=>
   intro bH hm;rw[l5]at bH;by_cases e:j=i
   ·subst e;have:l.filter (λk=>!(dy.setIfInBounds j true).getD k false)=l.filter (λk=>!dy.getD k false):=
     GY λk ae=>by rw[same k (λe=>bH.1 (e ▸ ae))]
    simp only[o0,self,BX,this];simp
   ·have sI:i∈l:=by
     rcases eg.1 hm with h | h;·exact(e h.symm).elim
     ·exact h
    have:=aF bH.2 sI;simp only[o0,same j e];split;·simp only[c2];omega
    ·exact this
 exact key _ xZ (g8.2 hi)
def ahM(aQ:cU X.P X.E)(dk:wz ops)(hs:∀ o∈ops,∀ d,o.dst=some d->d<X.n){K:gm}(ry:∀ a w,Sat X K a w->Q .normal a w):∀ (fb:Nat) (dy:Array Bool) (a:Act) (w:World),
  dy.size=ops.length->todo ops dy<=fb->BW X ops im' K (λi=>dy.getD i false=true) a w->wpAnyIn (g' X) 0 X.P .any ops.toArray Q fb dy a w:=by
 intro fb
 induction fb with
 |zero=>
  rintro dy a w da aA⟨β,F,C,I,M,p,cm,hH,gT,n,bz,ah⟩;have nV:Region.ready .any ops.toArray dy=[]:=by
   cases af:Region.ready .any ops.toArray dy with
   |nil=>rfl| cons i l=>obtain⟨o,aK,aC,_⟩:=(mem_ready da).1 (by rw[af];simp:i∈Region.ready .any ops.toArray dy);have:=KV (ij.1 aK).1 da aC;omega
  refine⟨nV,?_⟩;obtain⟨p,cm,F,hH,gT,n,bz,hU,ah⟩:=BW.advance dk n bz ah;have Hc:∀ i,p.testBit i=true->dy.getD i false=true:=λi=>by
   induction i using Nat.strongRecOn with
   |ind i aF=>intro aB;refine GW λaC=>?_;obtain⟨o,aK,_⟩:=bz.zC i ⟨aB,aC⟩;have:i∈Region.ready .any ops.toArray dy:=(mem_ready da).2 ⟨o,aK,aC,λe he=>aF e (dk.lt i e he) (bz.rL i e aB he)⟩;rw[nV]at this;cases this
  have rO:qD ops p false=[]:=by
   cases af:qD ops p false with
   |nil=>rfl| cons i l=>obtain⟨o,aK,aB,_,ak⟩:=Hb.1 (by rw[af];simp:i∈qD ops p false);have:i∈Region.ready .any ops.toArray dy:=(mem_ready da).2 ⟨o,aK,λcW=>(by have ek:=bz.sub i cW;rw[aB]at ek;exact Bool.noConfusion ek),λe he=>Hc e (ak e he)⟩;rw[nV]at this;cases this
  unfold pR at ah;rw[hU,rO]at ah;exact ry _ _ ⟨F,C,I,M,⟨β,bz.rel.refine λt=>bz.T t λi hi=>(hi.2 (Hc i hi.1)).elim⟩,ah⟩
 |succ fb aF=>
  rintro dy a w da aA⟨β,F,C,I,M,p,cm,hH,gT,n,bz,ah⟩;obtain⟨p,cm,F,hH,gT,n,bz,hU,ah⟩:=BW.advance dk n bz ah;refine⟨λnV=>?_,λq aN=>?_⟩
  ·have Hc:∀ i,p.testBit i=true->dy.getD i false=true:=λi=>by
    induction i using Nat.strongRecOn with
    |ind i aF=>intro aB;refine GW λaC=>?_;obtain⟨o,aK,_⟩:=bz.zC i ⟨aB,aC⟩;have:i∈Region.ready .any ops.toArray dy:=(mem_ready da).2 ⟨o,aK,aC,λe he=>aF e (dk.lt i e he) (bz.rL i e aB he)⟩;rw[nV]at this;cases this
   have rO:qD ops p false=[]:=by
    cases af:qD ops p false with
    |nil=>rfl| cons i l=>obtain⟨o,aK,aB,_,ak⟩:=Hb.1 (by rw[af];simp:i∈qD ops p false);have:i∈Region.ready .any ops.toArray dy:=(mem_ready da).2 ⟨o,aK,λcW=>(by have ek:=bz.sub i cW;rw[aB]at ek;exact Bool.noConfusion ek),λe he=>Hc e (ak e he)⟩;rw[nV]at this;cases this
   unfold pR at ah;rw[hU,rO]at ah;exact ry _ _ ⟨F,C,I,M,⟨β,bz.rel.refine λt=>bz.T t λi hi=>(hi.2 (Hc i hi.1)).elim⟩,ah⟩
  ·obtain⟨o,aK,aC,ak⟩:=(mem_ready da).1 aN;have a1:=(ij.1 aK).1;have sJ:=hs o (rF aK);have g2:=Wq (dy:=dy) (i:=q) (by omega);have next:∀ bO w',BW X ops im' K (λi=>dy.getD i false=true\/i=q) bO w'->wpAnyIn (g' X) 0 X.P .any ops.toArray Q fb (dy.setIfInBounds q true) bO w':=λbO w' h=>by refine aF _ bO w' (by simpa using da) ?_ (by rw[g2];exact h);have:=KV a1 da aC;omega
   cases lE:p.testBit q with
   |true=>
    exact bz.exec aQ dk sJ aK ⟨lE,aC⟩ ak λbO h=>next bO w ⟨β,F,C,I,M,p,cm,hH,gT,n+1,h,ah⟩
   |false=>
    have Hd:∀ e,m9 ops q e->p.testBit e=true:=λe he=>bz.sub e (ak e he);have KW:Ea o.op=false:=by
     cases ahN:Ea o.op with
     |false=>rfl| true=>have:q∈qD ops p true:=Hb.2 ⟨o,aK,lE,ahN,Hd⟩;rw[hU]at this;cases this
    have fo:q∈qD ops p false:=Hb.2 ⟨o,aK,lE,KW,Hd⟩;unfold pR at ah;rw[hU]at ah;simp only at ah;split at ah;·rename_i rO;rw[rO]at fo;cases fo
    ·rename_i i0 fA rO;rw[rO]at fo;have ag:=Wo ah q fo;simp only[aK]at ag;obtain⟨l',tG,ag⟩:=Wm ag;have cu:=bz.refine tG;have kG:=cu.ahD dk aK lE ak;have G':ops.toArray[q]?=some o:=by simpa using aK
     unfold wpOpIn;simp only[G'];rcases ag with⟨fj,ag⟩ | ⟨Ha,ag⟩
     ·rw[Wk fj kG,bN rfl];cases Pu:V9 ((lD ops).getD q 0) p with
      |true=>
       rw[Pu]at ag;simp only[wv,cb]at ag;have gU:∀ i,p.testBit i=true->dy.getD i false=true:=λi hi=>by
        have aa:=dR Pu;have ab:(p &&& (lD ops).getD q 0).testBit i=true:=by rw[aa];exact hi
        rw[Nat.testBit_and,cz]at ab;exact(zy ab.2).mem bz.wA ak
       have aV:Rel X a w l' C I M:=⟨β,cu.rel.refine λt=>cu.T t λi hi=>(hi.2 (gU i hi.1)).elim⟩;refine tq (λbO w'=>?_) (D4 aQ sJ aV ag);rintro⟨dr,C',I',M',⟨oR,e6⟩,ae⟩;have ahO:∀ i,¬ k7 (λi=>dy.getD i false=true\/i=q) (p ||| 2^q) i:=λi hi=>by
        rcases na.1 hi.1 with aa | aa;·exact hi.2 (.inl (gU i aa))
        ·exact hi.2 (.inr aa)
       refine next bO w' ⟨oR,dr,C',I',M',p ||| 2^q,cm,hH,gT,n,⟨e6.refine λ_=>trivial,?_,?_,?_,λt _=>e6.ao t,λi hi=>(ahO i hi).elim⟩,ae⟩
       ·rintro i (hi | rfl)
        ·exact na.2 (.inl (bz.sub i hi))
        ·exact na.2 (.inr rfl)
       ·rintro j e (ai | rfl) he
        ·exact .inl (bz.wA j e ai he)
        ·exact .inl (ak e he)
       ·intro j e ai he;rcases na.1 ai with ai | rfl
        ·exact na.2 (.inl (bz.rL j e ai he))
        ·exact na.2 (.inl (Hd e he))
      |false=>
       rw[Pu]at ag;let G:Fr:=λt=>if t∈looks ops o then l' t else .nO
       have jk:∀ t,e3 β (G t) (a.tmps.getD t undef):=λt=>by
        by_cases ax:t∈looks ops o;·simp only[G,bN ax];exact kG t ax
        ·simp only[G,bS ax];trivial
       have Pt:∀ y∈o.op.operands,dq G y=dq l' y:=λy aH=>by
        cases y with
        |tmp t=>simp only[dq,G,bN (Pq aH)]| const v=>cases v<;>rfl
        |global g=>rfl| func f=>rfl
       refine tq (λbO w'=>?_) (ahx aQ (cu.rel.refine jk) Pt ag);rintro⟨v,x,C',I',M',rfl,ad,e6,ae,hm⟩;refine next _ _ ⟨β,_,C',I',M',p ||| 2^q,cm,hH,gT,n,cu.step dk sJ aK lE ak ad (e6.refine λ_=>trivial) ?_,ae⟩
       rcases hm with⟨G4,nW⟩ | ⟨rfl,bq,ff⟩
       rotate_left
       ·exact λ_ _ _ _ _ _ _=>⟨λ_ _=>rfl,λ_=>Wc ff bq⟩
       have Ec:∀ {i},k7 (λi=>dy.getD i false=true) p i->((lD ops).getD q 0).testBit i=true->False:=λhi ag=>hi.2 ((zy ag).mem bz.wA ak);intro i gI fV hi ir e2 fo;have dN:∀ {s:Nat},BS ((lD ops).getD q 0) s cm=true->fV≠s:=fun {s} h e=>by
        rcases V' h fo with aa | aa;·exact Ec hi aa
        ·exact aa e
       rcases(k6 _ _).mp G4 with ahP | ahQ
       ·have aa:=fi.1 ahP i (g8.2 (ij.1 ir).1);rw[hi.1,ir]at aa;simp only[tE,uX,k6,tC]at aa;rcases aa with aa | aa
        ·exact(Ec hi aa).elim
        ·rw[aa]at e2;cases e2
       rcases(k6 _ _).mp ahQ with Ed | x2
       ·unfold Wb at Ed;split at Ed
        ·rename_i t0 sK Wr dd;split at Ed
         ·rename_i cC awm aJ;obtain⟨⟨en,gD⟩,cE⟩:=nW.1 _ _ _ _ _ dd aJ;exact⟨λcf e=>en cf (λa4=>dN Ed (by rw[e,a4])),λ_=>Wc cE gD⟩
         ·cases Ed
        ·cases Ed
       rcases(k6 _ _).mp x2 with x2 | x3
       ·unfold Wa at x2;split at x2
        ·rename_i t0 sK Wr dd;split at x2
         ·rename_i ahR aJ;exact⟨λ_ _=>by rw[(nW.2.1 _ _ _ _ dd aJ).1],λe=>(dN x2 e).elim⟩
         ·cases x2
        ·rename_i dd;exact⟨λ_ _=>by rw[(nW.2.2 (λt x y e=>by rw[dd]at e;cases e)).1],λe=>(dN x2 e).elim⟩
        ·cases x2
       unfold Wf at x3;rw[cz]at x3;obtain⟨ahS,x3⟩:=x3;have ahT:im' i=true:=by
        have aa:=fi.1 ahS i (g8.2 (ij.1 ir).1);rw[hi.1,ir]at aa;simp only[tE,uX,k6,tC]at aa;rcases aa with aa | aa | aa;·exact(Ec hi aa).elim
        ·exact aa
        ·rw[aa]at e2;cases e2
       have bq:C'=C/\∀ b o,I b=some o->I' b=some o:=by
        unfold We at x3;split at x3
        ·rename_i t0 sK Wr dd;split at x3
         ·rename_i ahR aJ;exact nW.2.1 _ _ _ _ dd aJ
         ·cases x3
        ·rename_i dd;exact nW.2.2 (λt x y e=>by rw[dd]at e;cases e)
        ·rename_i dd;exact nW.2.2 (λt x y e=>by rw[dd]at e;cases e)
        ·cases x3
       exact⟨λ_ _=>by rw[bq.1],λ_=>by rw[ahT];exact ahp bq.2⟩
     ·rw[Wl Ha kG];simp only[lv,l6];refine⟨λ_ _=>trivial,next _ _ ⟨β,_,C,I,M,p ||| 2^q,cm,hH,gT,n,cu.step dk sJ aK lE ak (x:=.val undef) rfl cu.rel (λ_ _ _ _ _ _ _=>⟨λ_ _=>rfl,λ_ _ _ h=>h⟩),ag⟩⟩
end
def c4.Pv{X:cV}{id:Nat}{F:Fr}{I:aM}{K:ke}(aQ:cU X.P X.E)(hm:X.P.follows .mixedOrders=true)(an:BT A.toList=true)(aC:xW X.n A=true)
  {im':Nat->Bool} (h:pR X A.toList im' (A.size+1) 0 [] F C I M (K .normal)):c4 X (.region id A true) F C I M K:=by
 refine⟨λa w ⟨β,aV⟩=>wpIn_region_any hm ?_⟩;have rP:cN X β a { w with drawn:=w.drawn+1 } F C I M:=aV.world rfl;have cc:∀ i,(Array.replicate A.size false).getD i false=false:=λi=>by
  by_cases hi:i<A.size<;>simp[pM,hi]
 have rQ:∀ {i},¬ (Array.replicate A.size false).getD i false=true:=fun {i}=>by rw[cc];simp
 have key:=ahM (K:=K .normal) (Q:=m7 X K) aQ (Wj an) (KB aC) (λ_ _ h=>h) A.size (Array.replicate A.size false) a { w with drawn:=w.drawn+1 } (by simp) ?_ ⟨β,F,C,I,M,0,[],λ_=>.nO,λ_ _=>.nO,A.size+1,⟨rP.refine λ_=>trivial,λi hi=>(rQ hi).elim,λj e ai=>(rQ ai).elim,λj e ai=>by simp at ai,λt _=>rP.ao t,λi hi=>by simp[k7]at hi⟩,h⟩
 ·simpa using key
 ·unfold todo;refine jf (BQ _ _) (by simp)
def c4.ahU{X:cV}{id:Nat}{F:Fr}{I:aM}{K:ke}(aQ:cU X.P X.E)(hm:X.P.follows .mixedOrders=true)(an:BT A.toList=true)(aC:xW X.n A=true)
  {im':Nat->Bool} (aX:ι->wm) (inv:ι->Prop) (ah:pR X A.toList im' (A.toList.length+1) 0 [] F C I M (pP X.foot aX inv)) (bk:∀ i,inv i->K .normal (rz (aX i).bj) (rA (aX i).cl) (aX i).cI (aX i).de):c4 X (.region id A true) F C I M K:=by
 obtain⟨h⟩:=c4.Pv (im':=im') (K:=λe=>match e with
  | .normal=>pP X.foot aX inv| e=>K e) aQ hm an aC ah
 refine⟨λa w aV=>wpIn_mono (h a w aV) ?_⟩;intro e a w au;cases e with
 |normal=>obtain⟨dr,C',I',M',⟨β,af⟩,⟨j,qy,hw,bG,lB⟩⟩:=au;exact⟨_,_,_,_,⟨β,(af.cS bG lB).h5 hw⟩,bk j qy⟩
 |_=>exact au
def c4.draw{X:cV}{id:Nat}{F:Fr}{I:aM}{K:ke}(aQ:cU X.P X.E)(hm:X.P.follows .mixedOrders=true)(an:BT A.toList=true)(aC:xW X.n A=true)(h:pR X A.toList (λ_=>false) (A.size+1) 0 [] F C I M (K .normal)):c4 X (.region id A true) F C I M K:=.Pv aQ hm an aC h
def c4.KX{X:cV}{id:Nat}{F:Fr}{I:aM}{K:ke}(aQ:cU X.P X.E)(hm:X.P.follows .mixedOrders=true)(an:BT A.toList=true)(aC:xW X.n A=true)
 (aX:ι->wm) (inv:ι->Prop) (ah:pR X A.toList (λ_=>false) (A.toList.length+1) 0 [] F C I M (pP X.foot aX inv)) (bk:∀ i,inv i->K .normal (rz (aX i).bj) (rA (aX i).cl) (aX i).cI (aX i).de):c4 X (.region id A true) F C I M K:=.ahU aQ hm an aC aX inv ah bk
def c4.ahV{X:cV}{id:Nat}{F:Fr}{I:aM}{K:ke}(hG:Nat->Bool)(aQ:cU X.P X.E)(hm:X.P.follows .mixedOrders=true)(an:BT A.toList=true)(aC:xW X.n A=true)(h:pR X A.toList hG (A.size+1) 0 [] F C I M (K .normal)):c4 X (.region id A true) F C I M K:=.Pv aQ hm an aC h
def Ws{sF:Fence}{n:Nat}{a:Act}{c:Code}(J:Nat->Nat->Act->World->Prop)
  (first:c.wpIn sF n P (λe bO w'=>match e with
   | .goto l=>∃ m,J l m bO w'| e=>Q e bO w') a w)
  (pass:∀ l m a w,J l m a w->∃ bk,findLabel c l=some bk/\bk.wpIn sF n P (λe bO w'=>match e with
   | .goto eB=>∃ m',m'<m/\J eB m' bO w'| e=>Q e bO w') a w):(Code.scope c).wpIn sF n P Q a w:=by
 intro b k cs g0 ag af;have cC:step P (lone (b.atR a (.code (.scope c)::k)) cs w)=.next (lone (b.atR a (.code c::.inScope c::k)) cs w):=
  step_lone_go (by simp[stepG,stepG.exec,Frame.atR])
 have s1:∀ a w,step P (lone (b.atR a (.inScope c::k)) cs w)=.next (lone (b.atR a k) cs w):=λa w=>
  step_lone_go (by simp[stepG,stepG.exec,Frame.atR])
 have ad:∀ id,exitTo id (.inScope c::k)=exitTo id k:=λid=>by simp[exitTo]
 have fin:∀ {m:Machine} {e:Exit} {kf:Act} {kg:World},(∀ l,e≠.goto l)->ArrivesIn (Machine.fenced P sF) P m b (.inScope c::k) cs e kf kg->ArrivesIn (Machine.fenced P sF) P m b k cs e kf kg:=by
  intro m e kf kg bs ji;cases e with
  |normal=>exact StepsIn.trans ji (.one (fenced_calm ag af rfl) (s1 _ _))| exit id=>exact⟨λe9 ae=>ji.1 e9 (by rw[ad];exact ae),λe6 ae=>ji.2 e6 (by rw[ad];exact ae)⟩| goto l=>exact(bs l rfl).elim| ret=>exact ji| panic GS=>exact ji| outgrown=>exact ji
 have key:∀ m l a w,J l m a w->∀ bk,findLabel c l=some bk->∃ e bO w',Q e bO w'/\ArrivesIn (Machine.fenced P sF) P (lone (b.atR a (.code bk::.inScope c::k)) cs w) b k cs e bO w':=by
  intro m
  induction m using Nat.strongRecOn with
  |_ m aF=>
   intro l a w bl bk tH;obtain⟨Ee,aA,hw⟩:=pass l m a w bl;rw[tH]at aA;cases aA;obtain⟨e,kf,kg,aN,ji⟩:=hw b (.inScope c::k) cs g0 ag af;cases e with
   |goto eB=>
    obtain⟨m',a1,x4⟩:=aN;obtain⟨Ee,wC,_⟩:=pass eB m' kf kg x4;have av:gotoIn eB (.inScope c::k)=some (.code Ee::.inScope c::k):=by simp[gotoIn,wC]
    obtain⟨GN,GO,GP,GQ,GR⟩:=aF m' a1 eB kf kg x4 Ee wC;exact⟨GN,GO,GP,GQ,.of_steps (ji.1 _ av) GR⟩
   |normal=>exact⟨_,kf,kg,aN,fin (by simp) ji⟩| exit id=>exact⟨_,kf,kg,aN,fin (by simp) ji⟩| ret=>exact⟨_,kf,kg,aN,fin (by simp) ji⟩| panic GS=>exact⟨_,kf,kg,aN,fin (by simp) ji⟩| outgrown=>exact⟨_,kf,kg,aN,fin (by simp) ji⟩
 have az:(lone (b.atR a (.code (.scope c)::k)) cs w).fenced P sF:=fenced_calm ag af rfl;obtain⟨e,kf,kg,aN,ji⟩:=first b (.inScope c::k) cs g0 ag af
 cases e with
 |goto eB=>
  obtain⟨m',x4⟩:=aN;obtain⟨Ee,wC,_⟩:=pass eB m' kf kg x4;have av:gotoIn eB (.inScope c::k)=some (.code Ee::.inScope c::k):=by simp[gotoIn,wC]
  obtain⟨GN,GO,GP,GQ,GR⟩:=key m' eB kf kg x4 Ee wC;exact⟨GN,GO,GP,GQ,.of_steps (.head az cC (ji.1 _ av)) GR⟩
 |normal=>exact⟨_,kf,kg,aN,.of_steps (.one az cC) (fin (by simp) ji)⟩| exit id=>exact⟨_,kf,kg,aN,.of_steps (.one az cC) (fin (by simp) ji)⟩| ret=>exact⟨_,kf,kg,aN,.of_steps (.one az cC) (fin (by simp) ji)⟩| panic GS=>exact⟨_,kf,kg,aN,.of_steps (.one az cC) (fin (by simp) ji)⟩| outgrown=>exact⟨_,kf,kg,aN,.of_steps (.one az cC) (fin (by simp) ji)⟩
def KY(N:Nat->gm)(K:ke):ke
 | .goto l=>N l| e=>K e
def c4.scope{X:cV}{c:Code}{F:Fr}{I:aM}{K:ke}(aQ:cU X.P X.E)(bw:codeOk X.n c=true)(aX:ι->wm)(bh:ι->Nat)(inv:ι->Prop)(μ:ι->Nat)(bk:Nat->Code)(tH:∀ i,inv i->findLabel c (bh i)=some (bk (bh i))/\codeOk X.n (bk (bh i))=true)(first:V X c F C I M (KY (λl=>pP X.foot aX λj=>inv j/\bh j=l) K))(pass:∀ i,inv i->V X (bk (bh i)) (rz (aX i).bj) (rA (aX i).cl) (aX i).cI (aX i).de (KY (λl=>pP X.foot aX λj=>(inv j/\bh j=l)/\μ j<μ i) K)) :
  c4 X (.scope c) F C I M K:=by
 refine⟨λa w aV=>?_⟩;let J (l m:Nat) (a:Act) (w:World):Prop:=∃ i,inv i/\bh i=l/\μ i=m/\Rel X a w (rz (aX i).bj) (rA (aX i).cl) (aX i).cI (aX i).de
 have zq:∀ {p:ι->Prop} {l:Nat} {a w},(∀ i,p i->inv i/\bh i=l)->Sat X (pP X.foot aX p) a w->∃ i,p i/\J l (μ i) a w:=by rintro p l a w aB⟨F,C,I,M,⟨β,af⟩,⟨j,qy,hw,bG,lB⟩⟩;exact⟨j,qy,j,(aB j qy).1,(aB j qy).2,rfl,β,(af.cS bG lB).h5 hw⟩
 refine Ws J (wpIn_mono (rB aQ c bw aV first) ?_) ?_
 ·intro e a w h;cases e with
  |goto l=>obtain⟨j,ai,bl⟩:=zq (p:=λj=>inv j/\bh j=l) (l:=l) (λ_ h=>h) h;exact⟨_,bl⟩
  |_=>exact h
 ·rintro l m a w⟨i,hi,rfl,rfl,af⟩;obtain⟨aa,ab⟩:=tH i hi;refine⟨_,aa,wpIn_mono (rB aQ _ ab af (pass i hi)) ?_⟩;intro e a w h;cases e with
  |goto eB=>obtain⟨j,ai,bl⟩:=zq (p:=λj=>(inv j/\bh j=eB)/\μ j<μ i) (l:=eB) (λ_ h=>h.1) h;exact⟨_,ai.2,bl⟩
  |_=>exact h
def Ef(P:Program)(l:Nat)(args:List Value)(I:aM)(M:List aE)(post:Value->aM->List aE->Prop):Prop:=
 ∀ w,eF I M w->∃ f tmps assign body,(Instr.yield l args.toArray).run P w=.ok (.round l f tmps assign body) w /\ RoundIn Fence.wide 0 P l f tmps assign body w λe w'=>∃ v I' M',e=.returned v/\post v I' M'/\eF I' M' w'/\Kept I M w I' M' w'
inductive zD(P:Program)(l:Nat)(args:List Value)(I:aM)(M:List aE)(K:Value->aM->List aE->Prop):Prop
 |mk(ey Mr:List aE)(post:Value->aM->List aE->Prop)(a':M.Perm (ey++Mr))(au:Ef P l args I ey post)(k:∀ v I' M',(∀ b o,I b=some o->I' b=some o)->post v I' M'->K v I' (M'++Mr))
def bB.yield{X:cV}{o:Oper}{F:Fr}{I:aM}{K:gm}{args:Array Operand}{fT:Array TypeId}{l:Nat}(aK:o.op=.call { callee:=.value f,args,argTypes:=fT })(ak:∀ d,o.dst=some d->d<X.n)(aA:bF F f=.val (.func (.yield l) #[] #[]))(iU:m1 F args.toList=some vs)
  (h:zD X.P l vs I M λv I' M'=>K (put o.dst (.val v) F) C I' M'):bB X o F C I M K:=by
 refine⟨λa w Q ⟨β,aV⟩=>?_⟩;obtain⟨ey,Mr,post,a',au,ae⟩:=h;obtain⟨fn,tmps,assign,body,aH,af⟩:=au w (aV.holds.part a');have aJ:=tu aV.ao iU;have er:args.map a.eval=vs.toArray:=by apply gY;simpa using aJ
 have a4:=df aV.ao aA;obtain⟨dst,op,ty,pos,after,guard⟩:=o;simp only at aK;subst aK;refine⟨λ_ _=>trivial,?_⟩;rw[Ks _ _ _ (by simp)];have fj:(execOp a.eval ⟨dst,.call { callee:=.value f,args,argTypes:=fT },ty,pos,after,guard⟩).run X.P w=.ok (.round l fn tmps assign body) w:=by simp only[execOp,resolve,a4,Deferred.ofValue,ct,c3,bY,er,invoke];simpa using aH
 rw[fj,Oper.uponIn_round];refine⟨(λh=>by cases h),?_⟩;have e6:RoundIn (g' X) (0-1) X.P l fn tmps assign body w _:=af;refine e6.mono ?_;rintro e w'⟨v,I',M',rfl,aB,rs,eG⟩;exact⟨_,_,_,_,⟨β,(aV.after a' rs eG).put (x:=.val v) ak rfl⟩,ae v I' M' eG.le aB⟩
def Wt(A:(Nat->aM->List aE->Prop)->Prop)(P:Program)(g:Nat)(cap:List Value)(I:aM)(n:Nat)(Q:Nat->List Value->aM->Prop):Prop:=
 ∀ (l:Nat) (R:Nat->aM->List aE->Prop) (k8:aM->List aE->Prop),A R -> (∀ k (ae:k<n) vs I' M',(∀ b o,I b=some o->I' b=some o)->Q k vs I'->R k I' M'->Ef P l vs I' M' λv zE mz=>(v=.bool true/\R (k+1) zE mz)\/(v=.bool false/\k8 zE mz)) -> ∀ dt M0,(∀ b o,I b=some o->dt b=some o)->R 0 dt M0->wc P g (.func (.yield l) #[] #[]::cap) dt M0 λ_ I' M'=>R n I' M'\/k8 I' M'
def tI(R:Nat->aM->List aE->Prop):Prop:=∀ k I I' M,(∀ b o,I b=some o->I' b=some o)->R k I M->R k I' M
def tI.cons(x:aE)(S:Nat->aM->List aE->Prop)(h:tI S):tI λk I M=>∃ dm,M=x::dm/\S k I dm:=by rintro k I I' M bz⟨dm,e,cB⟩;exact⟨dm,e,h k I I' dm bz cB⟩
abbrev Wu:=Wt tI
def Iter(P:Program)(g:Nat)(cap:List Value)(I:aM)(u1:List (List Value)):Prop:=
 ∀ (l:Nat) (R:Nat->aM->List aE->Prop) (k8:aM->List aE->Prop),(∀ k (ae:k<u1.length) I' M',(∀ b o,I b=some o->I' b=some o)->R k I' M'->Ef P l u1[k] I' M' λv zE mz=>(v=.bool true/\R (k+1) zE mz)\/(v=.bool false/\k8 zE mz)) -> ∀ dt M0,(∀ b o,I b=some o->dt b=some o)->R 0 dt M0->wc P g (.func (.yield l) #[] #[]::cap) dt M0 λ_ I' M'=>R u1.length I' M'\/k8 I' M'
def Eg:List Nat->List Value->Fr->Fr
 |t::ps,v::vs,F=>Eg ps vs (ga F t (.val v))| _,_,F=>F
def Wv(foot:List Nat)(N:aM->List aE->Prop)(k8:tA->aM->List aE->Prop):ke:=λex F C I M=>match ex with
 | .normal=>wq foot I M N| ex=>wq foot I M (k8 ex)
def Eh:tA->Option Code
 | .normal=>none| .exit id=>some (.exit id)| .goto l=>some (.goto l)| .ret=>some .ret
section
variable{X:cV}{β:Nat->Nat}{a:Act}{w:World}{F:Fr}{C:dF}{I:aM}{M:List aE}
def Ww:∀ (ps:List Nat) (vs:List Value) (F:Fr) (tmps:Array Value),(∀ t∈ps,t<tmps.size)->(∀ t,e3 β (F t) (tmps.getD t undef)) ->
  let r:=(ps.zip vs).foldl (λ(tmps:Array Value) (p:Nat×Value)=>tmps.setIfInBounds p.1 p.2) tmps
  r.size=tmps.size/\∀ t,e3 β (Eg ps vs F t) (r.getD t undef)
 |[],vs,F,tmps,_,h=>⟨rfl,h⟩| t::ps,[],F,tmps,_,h=>⟨rfl,h⟩
 |t::ps,v::vs,F,tmps,aB,h=>by
  have aa:∀ s,e3 β (ga F t (.val v) s) ((tmps.setIfInBounds t v).getD s undef):=λs=>by have:=O6 (β:=β) (F:=F) (a:=⟨tmps,[]⟩) h (d:=t) (x:=.val v) (v:=v) (aB t (by simp)) rfl s;exact this
  have aF:=Ww ps vs (ga F t (.val v)) (tmps.setIfInBounds t v) (λs au=>by simpa using aB s (by simp[au])) aa;simp only[List.zip_cons_cons,jE,Eg];exact⟨by simpa using aF.1,aF.2⟩
def cN.Wx(h:cN X β a w F C I M):cN X β { a with defers:=xN w.heap.size::a.defers } (w.alloc (.deferred (some []))) F C I M where
 size:=h.size
 defers:=by
  obtain⟨a2,aa,ab,aj⟩:=h.defers;refine⟨w.heap.size::a2,by simp[aa],?_,?_⟩;·rw[l5];refine⟨λhm=>?_,ab⟩;have:=(l4.1 (aj _ hm).dX).1;omega
  ·intro r af;rcases eg.1 af with rfl | af
   ·exact⟨O4 w _,h.sz,h.holds.sE,h.holds.rr⟩
   ·exact(aj r af).alloc _
 holds:=h.holds.alloc _
 ao:=h.ao
 cm s cs au:=(h.cm s cs au).alloc _
 inj:=h.inj
 im:=h.im
 hR:=h.hR
 own:=h.own
 dI:=O8 h.dI h.sz _
 out:=h.out
 sz:=by have:=h.sz;simp;omega
 fy:=h.fy
def cN.He{n:Nat}{o o':Obj}(h:cN X β a w F C I (⟨n,o⟩::M)):cN X β a (w.putObj n o') F C I M:=by
 have fK:(⟨n,o⟩:aE)∈(⟨n,o⟩:aE)::M:=by simp
 have bH:=h.holds.ca;simp only[bX,l5]at bH;exact {
  size:=h.size
  defers:=h.defers.mono λr af=>by have bs:n≠r:=af.e5 _ fK;refine { af with dX:=?_,e5:=λx ad=>af.e5 x (by simp[ad]) };rw[nM (pN bs)];exact af.dX
  holds:={
   i:=λb o kc=>by rw[nM (λe=>by have:=h.holds.d _ fK;simp only at this;rw[e,this]at kc;cases kc)];exact h.holds.i b o kc
   m:=λx ad=>by rw[nM (λe=>bH.1 (cA.2 ⟨x,ad,e⟩))];exact h.holds.m x (by simp[ad])
   d:=λx ad=>h.holds.d x (by simp[ad])
   ca:=bH.2 }
  ao:=h.ao
  cm:=λs cs au=>by have ag:=h.cm s cs au;have bs:n≠β s:=ag.e5 _ fK;obtain⟨T,bp⟩:=ag.dX;refine { ag with dX:=⟨T,?_⟩,e5:=λx ad=>ag.e5 x (by simp[ad]) };rw[nM (pN bs)];exact bp
  inj:=h.inj
  im:=h.im
  hR:=h.hR
  own:=λx ad=>h.own x (by simp[ad])
  dI:=λb ag aA=>by
   rw[nM (λe=>by
    rcases h.own _ fK with aa | aa;·simp only at aa;exact aA (e ▸ aa)
    ·simp only at aa;omega)]
   exact h.dI b ag aA
  out:=h.out.trans (Kw _ _ _)
  sz:=by have:=h.sz;simpa using this
  fy:=h.fy }
def c4.Hf{K:ke}{n:Nat}{Q:Nat->List Value->aM->Prop}{A:(Nat->aM->List aE->Prop)->Prop}(dv:∀ x S,A S->A λk I M=>∃ dm,M=x::dm/\S k I dm)(aQ:cU X.P X.E)(g0:X.ro=none)(bw:(codeOk X.n fp&&(codeOk X.n body&&ps.toList.all (λt=>Nat.blt t X.n)))=true)(Pw:bF F f=.val (.func (.func g) #[] cap))(Px:il X.foot I M I1 M1)(BY:Wt A X.P g cap.toList I1 n Q)(c1:∀ k vs I,k<n->Q k vs I->vs.length=ps.size)(R:Nat->aM->List aE->Prop)(k8:tA->aM->List aE->Prop)(x5:A R)(start:R 0 I1 M1)(round:∀ k (ae:k<n) vs I' M',(∀ b o,I1 b=some o->I' b=some o)->Q k vs I'->R k I' M'->∀ l B az iG,V ⟨X.P,X.E,X.gG,X.n,B,az,I',M'.map (·.num),some l⟩ fp (Eg ps.toList vs F) (λ_=>none) I' M' (zp (λF C I M=>V ⟨X.P,X.E,X.gG,X.n,B,iG,I',M'.map (·.num),some l⟩ body F C I M (Wv (M'.map (·.num)) (R (k+1)) k8)) (λ_ _ _ _ _=>False)))(done:∀ I' M',(∀ b o,I1 b=some o->I' b=some o)->R n I' M'->K .normal F C I' M')(stop:∀ ex I' M',(∀ b o,I1 b=some o->I' b=some o)->k8 ex I' M'->ex≠.normal/\K ex F C I' M') :
  c4 X (.rangeFunc f ps fp body) F C I M K:=by
 refine⟨λa w ⟨β,iH⟩=>?_⟩;have aV:=iH.h5 Px;simp only[cz]at bw;obtain⟨x6,mA,Hg⟩:=bw;refine wpIn_rangeFunc λfn _=>?_;let gJ (s:LoopState) (qG:Option Code):Loop:={ state:=s,pending:=qG,fn:=fn,tmps:=a.tmps,params:=ps,assign:=fp,body:=body,defers:=w.heap.size }
 let l:=w.heap.size+1
 let kH:World:=(w.alloc (.deferred (some []))).alloc (.loop (gJ .ready none))
 have BZ:=aV.Wx.oe (.loop (gJ .ready none));have ay:(w.alloc (.deferred (some []))).heap.size=l:=by simp[l]
 rw[ay]at BZ;let x7 (k:Nat) (I':aM) (M':List aE):Prop:=∃ dm,M'=⟨l,.loop (gJ .ready none)⟩::dm/\R k I' dm
 let Wy (I':aM) (M':List aE):Prop:=∃ ex c dm,Eh ex=some c/\M'=⟨l,.loop (gJ .done (some c))⟩::dm/\k8 ex I' dm
 have aH:∀ k (ae:k<n) vs I' M',(∀ b o,I1 b=some o->I' b=some o)->Q k vs I'->x7 k I' M'->Ef X.P l vs I' M' λv zE mz=>(v=.bool true/\x7 (k+1) zE mz)\/(v=.bool false/\Wy zE mz):=by
  rintro k ae vs I' _ bq ry⟨dm,rfl,ahW⟩W h6;have Hh:W.heap[l]?=some (.loop (gJ .ready none)):=h6.m ⟨l,.loop (gJ .ready none)⟩ (by simp);have a1:l<W.heap.size:=(l4.1 Hh).1;have bH:=h6.ca;simp only[bX,l5]at bH;have Wz:I' l=none:=h6.d ⟨l,.loop (gJ .ready none)⟩ (by simp);refine⟨_,_,_,_,run_yield Hh (by simpa using c1 _ _ _ ae ry),?_⟩;have nX:((gJ LoopState.ready none).params.zip vs.toArray).foldl (λtmps (x:Nat×Value)=>match x with | (t,a)=>tmps.setIfInBounds t a) (gJ LoopState.ready none).tmps=(ps.toList.zip vs).foldl (λ(tmps:Array Value) (p:Nat×Value)=>tmps.setIfInBounds p.1 p.2) a.tmps:=by rw[<-O0];simp[gJ]
  have Py:=Ww (β:=β) ps.toList vs F a.tmps (λt ax=>by
   have:=fi.1 Hg t ax;rw[aV.size];exact bI this) aV.ao
  rw[<-nX]at Py;refine roundIn_of_wpIn (F:=Fence.wide) (n:=0) trivial ?_;let wD:cV:=⟨X.P,X.E,X.gG,X.n,W.heap.size,W,I',dm.map (·.num),some l⟩
  let iG:=W.putObj l (.loop (gJ .busy none))
  let Hi:cV:=⟨X.P,X.E,X.gG,X.n,W.heap.size,iG,I',dm.map (·.num),some l⟩
  have ah:=round k ae vs I' dm bq ry ahW l W.heap.size W iG;have GU:cN wD β { tmps:=((gJ LoopState.ready none).params.zip vs.toArray).foldl (λtmps (x:Nat×Value)=>match x with | (t,a)=>tmps.setIfInBounds t a) (gJ LoopState.ready none).tmps,defers:=[] } W (Eg ps.toList vs F) (λ_=>none) I' dm:={
   size:=Py.1.trans aV.size
   defers:=⟨[],rfl,DU,λr af=>by cases af⟩
   holds:=⟨h6.i,λx ad=>h6.m x (by simp[ad]),λx ad=>h6.d x (by simp[ad]),bH.2⟩
   ao:=Py.2
   cm:=λs cs au=>by cases au
   inj:=λs cf aa=>by simp at aa
   im:=λb o ag=>ag
   hR:=λb o ag=>.inl ag
   own:=λx ad=>.inl (cA.2 ⟨x,ad,rfl⟩)
   dI:=λb ag aA=>rfl
   out:=.refl _
   sz:=b2 _
   fy:=λx ad=>by
    obtain⟨y,aH,rfl⟩:=cA.1 ad;exact(l4.1 (h6.m y (by simp[aH]))).1 }
  have KF:=rB (X:=wD) aQ fp x6 ⟨β,GU⟩ ah;refine wpIn_mono (Q:=m7 wD _) KF ?_;intro e cM h8 au;cases e with
  |exit id=>obtain⟨_,_,_,_,_,ae⟩:=au;exact ae.elim
  |goto id=>obtain⟨_,_,_,_,_,ae⟩:=au;exact ae.elim
  |ret=>obtain⟨_,_,_,_,_,ae⟩:=au;exact ae.elim
  |panic GS=>exact au.elim| outgrown=>exact au.elim
  |normal=>
   obtain⟨l',ahX,dz,sL,⟨WA,hU⟩,KA⟩:=au;have x8:h8.heap[l]?=some (.loop (gJ .ready none)):=by rw[hU.dI l a1 bH.1];exact Hh
   refine⟨_,run_beginRound x8 rfl,?_⟩;have ahY:dz l=none:=by
    cases bz:dz l with
    |none=>rfl
    |some o=>
     rcases hU.hR _ _ bz with aa | aa;·rw[show wD.dt=I' from rfl,Wz]at aa;cases aa
     ·exact absurd aa (Nat.not_le.2 a1)
   have ahZ:∀ x∈sL,x.num≠l:=λx ad e=>by
    rcases hU.own x ad with aa | aa;·rw[e]at aa;exact bH.1 aa
    ·rw[e]at aa;exact absurd aa (Nat.not_le.2 a1)
   have rO:cN Hi WA cM (h8.putObj l (.loop (gJ .busy none))) l' ahX dz sL:={
    size:=hU.size
    defers:=by obtain⟨a2,a8,ba,bR⟩:=hU.defers;refine⟨a2,a8,ba,λr fE=>?_⟩;have af:=bR r fE;refine { dX:=?_,cS:=af.cS,ka:=af.ka,e5:=af.e5 };rw[nM (λe=>by have aa:=af.dX;rw[e,x8]at aa;cases aa)];exact af.dX
    holds:={
     i:=λb o kc=>by rw[nM (λe=>by rw[e,ahY]at kc;cases kc)];exact hU.holds.i b o kc
     m:=λx ad=>by rw[nM (ahZ x ad)];exact hU.holds.m x ad
     d:=hU.holds.d
     ca:=hU.holds.ca }
    ao:=hU.ao
    cm:=λs cs au=>by have ag:=hU.cm s cs au;obtain⟨T,bp⟩:=ag.dX;refine { dX:=⟨T,?_⟩,cS:=ag.cS,ka:=ag.ka,e5:=ag.e5 };rw[nM (λe=>by rw[e,x8]at bp;cases bp)];exact bp
    inj:=hU.inj
    im:=hU.im
    hR:=hU.hR
    own:=hU.own
    dI:=λb ag aA=>by
     by_cases e:b=l;·subst e;rw[D9 (l4.1 x8).1];exact(D9 a1).symm
     ·rw[nM e];show _=(W.putObj l (.loop (gJ .busy none))).heap[b]?;rw[nM e];exact hU.dI b ag aA
    out:=⟨hU.out.1,hU.out.2⟩
    sz:=by have:=hU.sz;simpa using this
    fy:=hU.fy }
   have ah0:=rB (X:=Hi) aQ body mA ⟨WA,rO⟩ KA;refine wpIn_mono (Q:=m7 Hi _) ah0 ?_;have fin:∀ (eh:Act) (mB:World) (wE:Fr) (wF:dF) (h9:aM) (rR:List aE) (jump:Option Code),Rel Hi eh mB wE wF h9 rR->∃ iX,(Instr.endRound l jump).run X.P mB=.ok (.bool jump.isNone) iX /\
     eF h9 (⟨l,.loop (gJ (if jump.isNone then .ready else .done) jump)⟩::rR) iX/\Kept I' (⟨l,.loop (gJ .ready none)⟩::dm) W h9 (⟨l,.loop (gJ (if jump.isNone then .ready else .done) jump)⟩::rR) iX:=by
    rintro eh mB wE wF h9 rR jump⟨zF,aj⟩;have zG:mB.heap[l]?=some (.loop (gJ .busy none)):=by rw[aj.dI l a1 bH.1];exact D9 a1
    have WB:h9 l=none:=by
     cases bz:h9 l with
     |none=>rfl
     |some o=>
      rcases aj.hR _ _ bz with aa | aa;·rw[show Hi.dt=I' from rfl,Wz]at aa;cases aa
      ·exact absurd aa (Nat.not_le.2 a1)
    have WC:∀ x∈rR,x.num≠l:=λx ad e=>by
     rcases aj.own x ad with aa | aa;·rw[e]at aa;exact bH.1 aa
     ·rw[e]at aa;exact absurd aa (Nat.not_le.2 a1)
    refine⟨_,run_endRound jump zG,?_,?_⟩
    ·exact {
      i:=λb o kc=>by rw[nM (λe=>by rw[e,WB]at kc;cases kc)];exact aj.holds.i b o kc
      m:=λx ad=>by
       rcases eg.1 ad with rfl | ad;·exact D9 (l4.1 zG).1
       ·rw[nM (WC x ad)];exact aj.holds.m x ad
      d:=λx ad=>by
       rcases eg.1 ad with rfl | ad;·exact WB
       ·exact aj.holds.d x ad
      ca:=by
       simp only[bX,l5];refine⟨λhm=>?_,aj.holds.ca⟩;obtain⟨x,ad,e⟩:=cA.1 hm;exact WC x ad e }
    ·exact {
      le:=aj.im
      uP:=aj.hR
      wb:=λx ad=>by
       rcases eg.1 ad with rfl | ad;·exact .inl ⟨⟨l,.loop (gJ .ready none)⟩,by simp,rfl⟩
       ·rcases aj.own x ad with aa | aa
        ·obtain⟨y,aH,e⟩:=cA.1 aa;exact .inl ⟨y,by simp[aH],e⟩
        ·exact .inr aa
      dI:=λb ag bs=>by
       have nc:b≠l:=λe=>bs ⟨l,.loop (gJ .ready none)⟩ (by simp) e.symm;rw[nM nc,aj.dI b ag (λhm=>by
        obtain⟨y,aH,e⟩:=cA.1 hm;exact bs y (by simp[aH]) e)]
       exact nM nc
      out:=⟨aj.out.1,aj.out.2⟩
      sz:=by have:=aj.sz;simpa using this }
   intro e eh mB zH;cases e with
   |normal=>obtain⟨wE,wF,h9,rR,⟨zF,aj⟩,⟨rS,pT,B0,aB⟩⟩:=zH;obtain⟨iX,aG,bx,bZ⟩:=fin eh mB wE wF rS pT none ⟨zF,aj.h5 B0⟩;exact⟨_,iX,aG,_,_,_,rfl,.inl ⟨rfl,_,rfl,aB⟩,bx,bZ⟩
   |exit id=>obtain⟨wE,wF,h9,rR,⟨zF,aj⟩,⟨rS,pT,B0,aB⟩⟩:=zH;obtain⟨iX,aG,bx,bZ⟩:=fin eh mB wE wF rS pT (some (.exit id)) ⟨zF,aj.h5 B0⟩;exact⟨_,iX,aG,_,_,_,rfl,.inr ⟨rfl,.exit id,_,_,rfl,rfl,aB⟩,bx,bZ⟩
   |goto id=>obtain⟨wE,wF,h9,rR,⟨zF,aj⟩,⟨rS,pT,B0,aB⟩⟩:=zH;obtain⟨iX,aG,bx,bZ⟩:=fin eh mB wE wF rS pT (some (.goto id)) ⟨zF,aj.h5 B0⟩;exact⟨_,iX,aG,_,_,_,rfl,.inr ⟨rfl,.goto id,_,_,rfl,rfl,aB⟩,bx,bZ⟩
   |ret=>obtain⟨wE,wF,h9,rR,⟨zF,aj⟩,⟨rS,pT,B0,aB⟩⟩:=zH;obtain⟨iX,aG,bx,bZ⟩:=fin eh mB wE wF rS pT (some .ret) ⟨zF,aj.h5 B0⟩;exact⟨_,iX,aG,_,_,_,rfl,.inr ⟨rfl,.ret,_,_,rfl,rfl,aB⟩,bx,bZ⟩
   |panic GS=>exact zH.elim| outgrown=>exact zH.elim
 obtain⟨qw,BL⟩:=BY l x7 Wy (dv _ _ x5) aH I1 (⟨l,.loop (gJ .ready none)⟩::M1) (λ_ _ h=>h) ⟨M1,rfl,start⟩;have nd:=BL kH BZ.holds;have a4:=df aV.ao Pw;refine⟨l,[xN w.heap.size],kH,{ target:=.fn (.func g) cap,args:=#[.func (.yield l) #[] #[]] },kH,g,(.func (.yield l) #[] #[]::cap.toList).toArray,kH,?_,?_,λ_ _=>trivial,?_,(λh=>by cases h),?_⟩
 ·have Pz:(g' X).round=none:=g0;rw[Pz];exact run_enterLoop_outer fn a.tmps ps fp body
 ·show(Deferred.ofValue (a.eval f) (#[Operand.const (.func (.yield l) #[] #[])].map a.eval)).run X.P kH=_;rw[a4];simp[Deferred.ofValue,Act.eval]
 ·simp only[invoke];rw[show #[Value.func (.yield l) #[] #[]]++cap=(.func (.yield l) #[] #[]::cap.toList).toArray from by apply gY;simp];exact qw _ _
 ·refine(Pa (X:=X) nd _).mono ?_;rintro e mB⟨v,I',M',rfl,aB,rs,eG⟩;have sM:=BZ.after (Mr:=[]) (by simp) rs eG;rw[ed]at sM;have bq:=eG.le;rcases aB with⟨dm,rfl,WD⟩ | ⟨ex,c,dm,an,rfl,ah1⟩
  ·refine⟨none,_,run_endLoop (rs.m ⟨l,.loop (gJ .ready none)⟩ (by simp)) (by simp[gJ]),?_⟩;exact⟨F,C,I',dm,⟨β,sM.He⟩,done I' dm bq WD⟩
  ·refine⟨some c,_,run_endLoop (rs.m ⟨l,.loop (gJ .done (some c))⟩ (by simp)) (by simp[gJ]),?_⟩;obtain⟨bs,ae⟩:=stop ex I' dm bq ah1;cases ex with
   |normal=>exact(bs rfl).elim| exit id=>cases an;exact wpIn_exit ⟨F,C,I',dm,⟨β,sM.He⟩,ae⟩| goto id=>cases an;exact wpIn_goto ⟨F,C,I',dm,⟨β,sM.He⟩,ae⟩| ret=>cases an;exact wpIn_ret ⟨F,C,I',dm,⟨β,sM.He⟩,ae⟩
def c4.range{K:ke}{u1:List (List Value)}(aQ:cU X.P X.E)(g0:X.ro=none)(bw:(codeOk X.n fp&&(codeOk X.n body&&ps.toList.all (λt=>Nat.blt t X.n)))=true)(Pw:bF F f=.val (.func (.func g) #[] cap))(Px:il X.foot I M I1 M1)(BY:Iter X.P g cap.toList I1 u1)(c1:∀ vs∈u1,vs.length=ps.size)(R:Nat->aM->List aE->Prop)(k8:tA->aM->List aE->Prop)(start:R 0 I1 M1)(round:∀ k (ae:k<u1.length) I' M',(∀ b o,I1 b=some o->I' b=some o)->R k I' M'->∀ l B az iG,V ⟨X.P,X.E,X.gG,X.n,B,az,I',M'.map (·.num),some l⟩ fp (Eg ps.toList u1[k] F) (λ_=>none) I' M' (zp (λF C I M=>V ⟨X.P,X.E,X.gG,X.n,B,iG,I',M'.map (·.num),some l⟩ body F C I M (Wv (M'.map (·.num)) (R (k+1)) k8)) (λ_ _ _ _ _=>False)))(done:∀ I' M',(∀ b o,I1 b=some o->I' b=some o)->R u1.length I' M'->K .normal F C I' M')(stop:∀ ex I' M',(∀ b o,I1 b=some o->I' b=some o)->k8 ex I' M'->ex≠.normal/\K ex F C I' M') :
  c4 X (.rangeFunc f ps fp body) F C I M K:=by
 refine c4.Hf (A:=λ_=>True) (Q:=λk vs _=>u1[k]?=some vs) (λ_ _ _=>trivial) aQ g0 bw Pw Px (n:=u1.length) ?_ (λk vs _ _ h=>c1 vs (rF h)) R k8 trivial start (λk ae vs I' M' bq h aV=>?_) done stop
 ·intro l R k8 _ h;exact BY l R k8 λk ae I' M' bq aV=>h k ae _ I' M' bq (db ae) aV
 ·obtain⟨_,rfl⟩:=ij.1 h;exact round k ae I' M' bq aV
end
structure aY where
 a:Option Nat
 n:Nat
 c:Nat
 aS:List Value
def aY.val(o:aY):Value:=.slice (o.a.map λg=>⟨g,0,none⟩) o.n o.c
def aY.ar(o:aY)(e:Nat):List aE:=match o.a with
 |some g=>[⟨g,.cells o.aS.toArray e (0,0)⟩]| none=>[]
structure aY.ok(o:aY)(size:Nat)(xs:List Value):Prop where
 len:xs.length=o.n*size
 nil:o.a=none->o.n=0/\o.c=0
 cap:∀ g,o.a=some g->o.aS.length=o.c*size/\o.n<=o.c/\o.c<=maxLen/\o.aS.take (o.n*size)=xs
section
variable{P:Program}{w:World}
def PA(t u ty e:Nat)(i:TypeInfo)(z:Value)(ax:P.underlying t=some (.slice e)){mC:TypeDesc}(hu:P.underlying u=some mC)(oi:∀ k,mC≠.int k)(hi:P.info? e=some i)(bb:i.zero=some z)(qH:z.cells.size=i.size)
  {os:aY} (bw:os.ok i.size xs) (av:∀ g,os.a=some g->w.heap[g]?=some (.cells os.aS.toArray e (0,0)))
  {x:Value} (hm:0<m) (ay:ch.length=m*i.size) (aa:∀ v∈ch,v.oneCell'=true)
  (c1:∀ w',(Builtin.lenOf x).run P w'=.ok m w') (fg:∀ w':World,w'.heap=w.heap->(Builtin.firstCells i.size m x).run P w'=.ok ch.toArray w')
  (b1:os.n+m<=maxLen) (bT:(os.n+m)*i.bytes<=140737488355328) :
  ∃ (g c:Nat) (aS:List Value) (w':World),(Builtin.append_ #[t,u] ty #[os.val,x]).run P w=.ok (.slice (some ⟨g,0,none⟩) (os.n+m) c) w'/\aS.length=c*i.size/\os.n+m<=c/\c<=maxLen/\aS.take ((os.n+m)*i.size)=xs++ch /\
   ((os.a=some g/\w'=w.setRow g aS.toArray)\/(g=w.heap.size/\w'=w.drew.alloc (.cells aS.toArray e (0,0)))):=by
 obtain⟨a,n,c,aS⟩:=os;have Ei:(xs++ch).length=(n+m)*i.size:=by rw[b3,bw.len,ay,l8]
 have KZ:∀ dI,(xs++ch++(Builtin.zeroCells z.cells (grownCap w (n+m) dI e-(n+m))).toList).length=grownCap w (n+m) dI e*i.size/\n+m<=grownCap w (n+m) dI e/\grownCap w (n+m) dI e<=maxLen /\
   (xs++ch++(Builtin.zeroCells z.cells (grownCap w (n+m) dI e-(n+m))).toList).take ((n+m)*i.size)=xs++ch:=by
  intro dI;have cJ:=grownCap_ge w (n+m) dI e;have iY:grownCap w (n+m) dI e<=maxLen:=grownCap_le_maxLen w (n+m) dI e b1;refine⟨?_,cJ,iY,?_⟩;·rw[b3,Ei,zu,size_zeroCells,qH,<-l8];congr 1;omega
  ·rw[<-Ei];exact zv
 have Hj:(match mC with | .int _=>true | _=>false)=false:=by cases mC<;>first | rfl | exact(oi _ rfl).elim
 have hb:n+m<=9223372036854775807:=by simp only[maxLen]at b1;exact b1
 cases a with
 |none=>
  obtain⟨u2,zI⟩:=bw.nil rfl;simp only at u2 zI;subst u2;subst zI;have ad:xs=[]:=iq (by simpa using bw.len);subst ad;simp only[cX,iF]at *;have az:0<m:=hm;have aC:m≠0:=by omega
  have B1:¬ (9223372036854775807<(m:Int)):=by omega
  have B2:¬ (281474976710656<Builtin.nextslicecap m 0*i.bytes):=by rw[nextslicecap_zero az];omega
  have aA:=fg w.drew rfl;obtain⟨a8,ba,bR,fq⟩:=KZ 0;refine⟨w.heap.size,grownCap w m 0 e,_,w.drew.alloc (.cells (ch++(Builtin.zeroCells z.cells (grownCap w m 0 e-m)).toList).toArray e),?_,a8,ba,bR,fq,.inr ⟨rfl,rfl⟩⟩;simp[aY.val,Builtin.append_,run_underlying ax,run_underlying hu,sizeOf,typeInfo,zeroValue,hi,bb,c1,aC,B1,B2,Question.forced,run_firstCells_none,aA,newRow,grownCap];congr 2;apply gY;simp
 |some g=>
  obtain⟨dK,nf,iY,ng⟩:=bw.cap g rfl;have PB:=av g rfl;simp only at dK nf iY ng PB;by_cases u3:n+m<=c
  ·have jH:n*i.size+ch.length<=aS.length:=by rw[ay,dK,<-l8];exact v' _ u3
   have dS:=run_storeCells_at P g (n*i.size) e ch 0 aS.toArray w PB (by simpa using jH) aa;simp only[qt]at dS;refine⟨g,c,aS.take (n*i.size)++ch++aS.drop (n*i.size+ch.length),_,?_,?_,u3,iY,?_,.inl ⟨rfl,rfl⟩⟩;·have aA:=fg w rfl;simp[aY.val,Builtin.append_,run_underlying ax,run_underlying hu,sizeOf,typeInfo,hi,c1,u3,aA,Addr.add_lit,dS]
   ·simp only[b3,hT,tD];omega
   ·rw[ng,<-Ei];exact zv
  ·have aC:¬ (n+m<=c):=by omega
   have B1:¬ (9223372036854775807<((n:Int)+(m:Int))):=by omega
   have B2:¬ (281474976710656<Builtin.nextslicecap (n+m) c*i.bytes):=by have:=growslice_fits (by omega:c<n+m) bT;omega
   have aA:=fg w.drew rfl;have ah2:∀ j v,xs[j]?=some v->w.drew.cell? ((⟨g,0,none⟩:Addr).add j)=some v:=by
    intro j v ai;have o5:w.drew.heap[g]?=some (.cells aS.toArray e (0,0)):=PB;rw[eU _ rfl,tw o5];rw[<-ng,lu]at ai;split at ai;·simpa using ai
    ·cases ai
   have PC:=run_firstCells_some (P:=P) w.drew i.size n ⟨g,0,none⟩ n c xs bw.len ah2;obtain⟨a8,ba,bR,fq⟩:=KZ c;refine⟨w.heap.size,grownCap w (n+m) c e,_,w.drew.alloc (.cells (xs++ch++(Builtin.zeroCells z.cells (grownCap w (n+m) c e-(n+m))).toList).toArray e),?_,a8,ba,bR,fq,.inr ⟨rfl,rfl⟩⟩;simp[aY.val,Builtin.append_,run_underlying ax,run_underlying hu,sizeOf,typeInfo,zeroValue,hi,bb,c1,aC,B1,B2,Question.forced,aA,PC,newRow,grownCap];congr 2;apply gY;simp
end
section
variable{X:cV}{β:Nat->Nat}{a:Act}{w:World}{F:Fr}{C:dF}{I:aM}{M:List aE}{o:Oper}{K:gm}
def PD(aQ:cU X.P X.E){t:Nat}(aK:o.op=.call { callee:=.builtin .append,args:=#[s,x],argTypes:=#[t,u] })(ak:∀ d,o.dst=some d->d<X.n)
 (ax:X.E t=some c7) (dT:c7.bM=.slice e) (hu:X.E u=some l9) (fL:∀ k,l9.bM≠.int k) (he:X.E e=some aI)
  (os:aY) (bw:os.ok aI.size xs) (au:bF F s=.val os.val)
  {pU:Value} (ad:bF F x=.val pU) (hm:0<m) (ay:ch.length=m*aI.size) (aa:gA ch=true)
  (c1:∀ w',(Builtin.lenOf pU).run X.P w'=.ok m w') (fg:∀ w,eF I M w->(Builtin.firstCells aI.size m pU).run X.P w=.ok ch.toArray w)
 (a':M.Perm (os.ar e++Mr)) (b1:os.n+m<=maxLen) (bT:(os.n+m)*aI.bytes<=140737488355328)
  (k:∀ (g c:Nat) (aS:List Value),I g=none->aS.length=c*aI.size->os.n+m<=c->c<=maxLen->aS.take ((os.n+m)*aI.size)=xs++ch ->
   K (put o.dst (.val (.slice (some ⟨g,0,none⟩) (os.n+m) c)) F) C I (⟨g,.cells aS.toArray e (0,0)⟩::Mr)):bB X o F C I M K:=by
 refine⟨λa w Q ⟨β,iH⟩=>?_⟩;have aV:cN X β a w F C I (os.ar e++Mr):=iH.h5 (.perm a' .refl);obtain⟨inf,z,hi,ft,iW,iB,kE⟩:=(aQ _ _ he).inf;obtain⟨d,fM,fu⟩:=(aQ _ _ hu).fx;obtain⟨gp,jV,kj⟩:=(aQ _ _ ax).fx;have qI:gp=.slice e:=by rw[dT]at kj;cases gp<;>simp_all[fw]
 subst qI;have qH:z.cells.size=inf.size:=by rw[ft,<-(aQ _ _ he).len,<-kE];simp
 rw[<-ft]at bw ay fg;obtain⟨g,c,aS,w',fj,a8,ba,bR,fq,k9⟩:=PA (P:=X.P) (w:=w) t u o.type e inf z jV fM (λk cQ=>fL k (by rw[<-fu,cQ];rfl)) hi iB qH bw (λg av=>aV.holds.m ⟨g,.cells os.aS.toArray e (0,0)⟩ (by simp[aY.ar,av])) (x:=pU) hm ay (zj aa) c1 (λw' x9=>fg w' (iH.holds.heap x9)) b1 (by rw[iW];exact bT);rw[ft]at a8 fq;have zJ:I g=none:=by
  rcases k9 with⟨av,_⟩ | ⟨rfl,_⟩;·exact aV.holds.d ⟨g,.cells os.aS.toArray e (0,0)⟩ (by simp[aY.ar,av])
  ·cases bz:I w.heap.size with
   |none=>rfl| some nY=>have:=aV.holds.i _ _ bz;simp at this
 have es:=df aV.ao au;have ex:=df aV.ao ad;refine jg (by rw[aK];simp) (v:=.slice (some ⟨g,0,none⟩) (os.n+m) c) (w':=w') ?_ ⟨_,_,_,_,⟨β,cN.put (x:=.val (.slice (some ⟨g,0,none⟩) (os.n+m) c)) ?_ ak rfl⟩,k g c aS zJ a8 ba bR fq⟩
 ·unfold execOp;simp only[aK,resolve,invoke,builtin,ct,c3,bY,sG,bX,hx,es,ex,fj]
 ·rcases k9 with⟨av,rfl⟩ | ⟨rfl,rfl⟩
  ·have ag:os.ar e=[⟨g,.cells os.aS.toArray e (0,0)⟩]:=by simp[aY.ar,av]
   rw[ag]at aV;exact aV.xQ (a9:=[]) (post:=Mr) rfl
  ·have ab:cN X β a w.drew F C I (os.ar e++Mr):=aV.world rfl;have aj:=ab.oe (.cells aS.toArray e (0,0));refine aj.h5 (.sub ?_ .refl);exact List.Sublist.cons_cons _ (mw _ _)
def bB.append(aQ:cU X.P X.E){t:Nat}(aK:o.op=.call { callee:=.builtin .append,args:=#[s,x],argTypes:=#[t,t] })(ak:∀ d,o.dst=some d->d<X.n)
 (ax:X.E t=some c7) (dT:c7.bM=.slice e) (he:X.E e=some aI)
  (os:aY) (bw:os.ok aI.size xs) (au:bF F s=.val os.val)
 (ad:bF F x=.val (.slice (some aU) m c')) (hm:0<m) (aC:cO I M aU (m*aI.size) ch) (aa:gA ch=true)
 (a':M.Perm (os.ar e++Mr)) (b1:os.n+m<=maxLen) (bT:(os.n+m)*aI.bytes<=140737488355328)
  (k:∀ (g c:Nat) (aS:List Value),aS.length=c*aI.size->os.n+m<=c->c<=maxLen->aS.take ((os.n+m)*aI.size)=xs++ch ->
   K (put o.dst (.val (.slice (some ⟨g,0,none⟩) (os.n+m) c)) F) C I (⟨g,.cells aS.toArray e (0,0)⟩::Mr)):bB X o F C I M K:=by
 refine PD aQ aK ak ax dT ax (λk=>by rw[dT];simp) he os bw au ad hm ?_ aa (λ_=>rfl) (λw hw=>?_) a' b1 bT (λg c aS _=>k g c aS)
 ·obtain⟨_,_,_,_,_,_,h⟩:=aC;exact h
 ·obtain⟨dO,cs,T,ao,ff,ah,ay⟩:=aC;refine run_firstCells_some (P:=X.P) w aI.size m aU m c' ch ay λj v ai=>?_;rw[eU _ dO,tw (ff.heap hw)];rw[<-ah,lu]at ai;split at ai
  ·rw[od]at ai;simpa using ai
  ·cases ai
def bB.Hk(aQ:cU X.P X.E){t:Nat}(aK:o.op=.call { callee:=.builtin .append,args:=#[s,x],argTypes:=#[t,t] })(ak:∀ d,o.dst=some d->d<X.n)
 (ax:X.E t=some c7) (dT:c7.bM=.slice e) (he:X.E e=some aI)
  (os:aY) (bw:os.ok aI.size xs) (au:bF F s=.val os.val)
 (ad:bF F x=.val (.slice (some aU) m c')) (hm:0<m) (aC:cO I M aU (m*aI.size) ch) (aa:gA ch=true)
 (a':M.Perm (os.ar e++Mr)) (b1:os.n+m<=maxLen) (bT:(os.n+m)*aI.bytes<=140737488355328)
  (k:∀ (g c:Nat) (aS:List Value),I g=none->aS.length=c*aI.size->os.n+m<=c->c<=maxLen->aS.take ((os.n+m)*aI.size)=xs++ch ->
   K (put o.dst (.val (.slice (some ⟨g,0,none⟩) (os.n+m) c)) F) C I (⟨g,.cells aS.toArray e (0,0)⟩::Mr)):bB X o F C I M K:=by
 refine PD aQ aK ak ax dT ax (λk=>by rw[dT];simp) he os bw au ad hm ?_ aa (λ_=>rfl) (λw hw=>?_) a' b1 bT k
 ·obtain⟨_,_,_,_,_,_,h⟩:=aC;exact h
 ·obtain⟨dO,cs,T,ao,ff,ah,ay⟩:=aC;refine run_firstCells_some (P:=X.P) w aI.size m aU m c' ch ay λj v ai=>?_;rw[eU _ dO,tw (ff.heap hw)];rw[<-ah,lu]at ai;split at ai
  ·rw[od]at ai;simpa using ai
  ·cases ai
def lF(s:ByteArray):List Value:=s.data.toList.map λb=>.int .u8 b.toNat
def bB.ah3(aQ:cU X.P X.E){t:Nat}(aK:o.op=.call { callee:=.builtin .append,args:=#[s,x],argTypes:=#[t,u] })(ak:∀ d,o.dst=some d->d<X.n)
 (ax:X.E t=some c7) (dT:c7.bM=.slice e) (hu:X.E u=some l9) (fL:l9.bM=.string) (he:X.E e=some aI) (da:aI.size=1)
  (os:aY) (bw:os.ok aI.size xs) (au:bF F s=.val os.val)
  {str:ByteArray} (ad:bF F x=.val (.string str)) (hm:0<str.size)
 (a':M.Perm (os.ar e++Mr)) (b1:os.n+str.size<=maxLen) (bT:(os.n+str.size)*aI.bytes<=140737488355328)
  (k:∀ (g c:Nat) (aS:List Value),aS.length=c*aI.size->os.n+str.size<=c->c<=maxLen->aS.take ((os.n+str.size)*aI.size)=xs++lF str ->
   K (put o.dst (.val (.slice (some ⟨g,0,none⟩) (os.n+str.size) c)) F) C I (⟨g,.cells aS.toArray e (0,0)⟩::Mr)):bB X o F C I M K:=by
 refine PD aQ aK ak ax dT hu (λk=>by rw[fL];simp) he os bw au ad hm ?_ ?_ (λ_=>rfl) (λw hw=>?_) a' b1 bT (λg c aS _=>k g c aS)
 ·simp[lF,da]
 ·refine fi.2 λv ah=>?_;obtain⟨b,_,rfl⟩:=cA.1 ah;rfl
 ·simp only[Builtin.firstCells,c3];congr 1;apply gY;have aJ:str.extract 0 str.size=str:=by apply wa;simp[Kq]
  simp[lF,aJ]
end
section
variable{X:cV}{F:Fr}{C:dF}{I:aM}{M:List aE}{o:Oper}{K:gm}
def WE{t:Nat}(ax:P.underlying t=some (.array 4 e)){k:IntKind}(he:P.underlying e=some (.int k)){inf:TypeInfo}(hi:P.info? e=some inf)(au:inf.size=1)(fI cM d' eh o6 b1 bT cw:Int)(w:World) :
  (Op.equal t (.agg #[.int k fI,.int k cM,.int k d',.int k eh]) (.agg #[.int k o6,.int k b1,.int k bT,.int k cw])).run P w=.ok (fI == o6&&(cM == b1&&(d' == bT&&eh == cw))) w:=by
 have K0:∀ (xs:Array Value) (i:Nat) (v:Value) (w:World),xs[i]?=some v->(part e xs i).run P w=.ok v w:=λxs i v w h=>by
  have GH:(isAgg e).run P w=.ok false w:=by unfold isAgg;simp[run_underlying he]
  unfold part;simp[GH,sizeOf,typeInfo,hi,au,h]
 have hint:∀ (d:Nat) (x y:Int) (w:World),(Op.equalIn (d+1) e (.int k x) (.int k y)).run P w=.ok (x == y) w:=λd x y w=>by simp[Op.equalIn,run_underlying he]
 have key:∀ m,(∀ (x y:Int) (w:World),(Op.equalIn m e (.int k x) (.int k y)).run P w=.ok (x == y) w)->(Op.equalIn (m+1) t (.agg #[.int k fI,.int k cM,.int k d',.int k eh]) (.agg #[.int k o6,.int k b1,.int k bT,.int k cw])).run P w=.ok (fI == o6&&(cM == b1&&(d' == bT&&eh == cw))) w:=λm hint=>by
  rw[Op.equalIn];simp only[ct,run_underlying ax,bY,sizeOf,typeInfo,hi,run_program,c3,au];simp only[V5];have af:List.range' 0 ([:4]:Std.Legacy.Range).size=[0,1,2,3]:=by decide
  rw[af];have pa:=λ(i:Nat) (v:Value) (w:World)=>K0 #[.int k fI,.int k cM,.int k d',.int k eh] i v w;have K1:=λ(i:Nat) (v:Value) (w:World)=>K0 #[.int k o6,.int k b1,.int k bT,.int k cw] i v w;simp only[List.forIn_cons,List.forIn_nil,ct];rw[pa (0*1) (.int k fI) w rfl];simp only[bY,ct];rw[K1 (0*1) (.int k o6) w rfl];simp only[bY,ct];rw[hint];simp only[bY];cases(fI == o6);·simp
  simp only[tE,lv,l6,c3,bY,ct];rw[pa (1*1) (.int k cM) w rfl];simp only[bY,ct];rw[K1 (1*1) (.int k b1) w rfl];simp only[bY,ct];rw[hint];simp only[bY];cases(cM == b1);·simp
  simp only[tE,lv,l6,c3,bY,ct];rw[pa (2*1) (.int k d') w rfl];simp only[bY,ct];rw[K1 (2*1) (.int k bT) w rfl];simp only[bY,ct];rw[hint];simp only[bY];cases(d' == bT);·simp
  simp only[tE,lv,l6,c3,bY,ct];rw[pa (3*1) (.int k eh) w rfl];simp only[bY,ct];rw[K1 (3*1) (.int k cw) w rfl];simp only[bY,ct];rw[hint];simp only[bY];cases(eh == cw);·simp
  simp
 exact key 9999 (hint 9998)
def gB.PE{E:Env}(aQ:cU P E){t:Nat}(ax:E t=some c7)(dT:c7.bM=.array 4 e)(he:E e=some aI){k:IntKind}(kI:aI.bM=.int k)(av:P.eqGuardType P.depth t=false){fI cM d' eh o6 b1 bT cw:Int}{V:Value->Prop}
  (h:V (.bool (fI == o6&&(cM == b1&&(d' == bT&&eh == cw))))):gB P .eql t x y (.val (.agg #[.int k fI,.int k cM,.int k d',.int k eh])) (.val (.agg #[.int k o6,.int k b1,.int k bT,.int k cw])) V other:=by
 obtain⟨d,fM,fu⟩:=(aQ _ _ ax).fx;obtain⟨qJ,PF,PG⟩:=(aQ _ _ he).fx;obtain⟨inf,z,hi,ft,_⟩:=(aQ _ _ he).inf;have aa:d=.array 4 e:=by rw[dT]at fu;cases d<;>simp_all[fw]
 have ab:qJ=.int k:=by rw[kI]at PG;cases qJ<;>simp_all[fw]
 subst aa;subst ab;have fz:inf.size=1:=by rw[ft];exact(aQ _ _ he).Kt (by rw[kI];rfl)
 refine .mk _ _ _ rfl rfl (λw=>?_) h;simp only[ct,run_eqGuard_agg (hm:=av),bY,binOp,WE fM PF hi fz,c3]
def gB.concat{t:Nat}{a b:ByteArray}(au:a.size+b.size<=9223372036854775807){V:Value->Prop}(h:V (.string (a++b))):gB P .add t x y (.val (.string a)) (.val (.string b)) V other:=by refine .mk _ _ _ rfl rfl (λw=>?_) h;simp only[ct,O',bY,binOp,run_string_add_sum _ _ _ au,c3]
end
section
variable{X:cV}{β:Nat->Nat}{a:Act}{w:World}{F:Fr}{C:dF}{I:aM}{M:List aE}{o:Oper}{K:gm}
def cN.WG{n:Nat}{nY:Obj}(h:cN X β a w F C I (⟨n,nY⟩::M))(au:w'.heap.size=w.heap.size)(ag:∀ b,b≠n->w'.heap[b]?=w.heap[b]?)(aK:oQ w w'):cN X β a w' F C I M:=by
 have fK:(⟨n,nY⟩:aE)∈(⟨n,nY⟩:aE)::M:=by simp
 have bH:=h.holds.ca;simp only[bX,l5]at bH;exact {
  size:=h.size
  defers:=h.defers.mono λr af=>by have bs:n≠r:=af.e5 _ fK;refine { af with dX:=?_,e5:=λx ad=>af.e5 x (by simp[ad]) };rw[ag r (pN bs)];exact af.dX
  holds:={
   i:=λb o kc=>by rw[ag b (λe=>by have:=h.holds.d _ fK;simp only at this;rw[e,this]at kc;cases kc)];exact h.holds.i b o kc
   m:=λx ad=>by rw[ag _ (λe=>bH.1 (cA.2 ⟨x,ad,e⟩))];exact h.holds.m x (by simp[ad])
   d:=λx ad=>h.holds.d x (by simp[ad])
   ca:=bH.2 }
  ao:=h.ao
  cm:=λs cs nR=>by have rD:=h.cm s cs nR;have bs:n≠β s:=rD.e5 _ fK;obtain⟨T,bp⟩:=rD.dX;refine { rD with dX:=⟨T,?_⟩,e5:=λx ad=>rD.e5 x (by simp[ad]) };rw[ag _ (pN bs)];exact bp
  inj:=h.inj
  im:=h.im
  hR:=h.hR
  own:=λx ad=>h.own x (by simp[ad])
  dI:=λb a1 aA=>by
   rw[ag b (λe=>by
    rcases h.own _ fK with aa | aa;·simp only at aa;exact aA (e ▸ aa)
    ·simp only at aa;omega)]
   exact h.dI b a1 aA
  out:=h.out.trans aK
  sz:=by rw[au];exact h.sz
  fy:=h.fy }
def ah4(w:World)(p:Addr)(n:Nat):(w.freeze p n).heap.size=w.heap.size:=by
 unfold World.freeze;split<;>simp
def ah5(w:World)(p:Addr)(n:Nat):oQ w (w.freeze p n):=by
 unfold World.freeze;split<;>exact⟨rfl,rfl⟩
def ah6(w:World)(p:Addr)(n b:Nat)(h:b≠p.block):(w.freeze p n).heap[b]?=w.heap[b]?:=by
 unfold World.freeze;split
 ·rfl
 ·simp only[Array.getElem?_modify];rw[bS (pN h)]
def bB.PH(aQ:cU X.P X.E){n:Operand}(aK:o.op=.call { callee:=.builtin .unsafeString,args:=#[p,n],argTypes:=#[uY,it] })(ak:∀ d,o.dst=some d->d<X.n)
 (ax:X.E uY=some c7) (dT:c7.bM=.pointer e) (he:X.E e=some aI) (kI:aI.size=1)
 {l:List UInt8} (aB:bF F p=.val (.pointer (some ⟨g,0,none⟩))) (aC:bF F n=.val (.int .i64 l.length)) (az:l≠[]) (PI:l.length<=9223372036854775807)
 (a':M.Perm (⟨g,.cells cs e (0,0)⟩::Mr)) (nR:cs.toList.take l.length=l.map λb=>.int .u8 b.toNat)
  (h:K (put o.dst (.val (.string ⟨l.toArray⟩)) F) C I Mr):bB X o F C I M K:=by
 refine⟨λa w Q ⟨β,iH⟩=>?_⟩;have aV:cN X β a w F C I (⟨g,.cells cs e (0,0)⟩::Mr):=iH.h5 (.perm a' .refl);have av:w.heap[g]?=some (.cells cs e (0,0)):=aV.holds.m ⟨g,.cells cs e (0,0)⟩ (by simp);obtain⟨d,fM,fu⟩:=(aQ _ _ ax).fx;have aa:d=.pointer e:=by rw[dT]at fu;cases d<;>simp_all[fw]
 subst aa;obtain⟨inf,z,hi,ft,_⟩:=(aQ _ _ he).inf;have an:X.P.cellsOf e=1:=by simp[Program.cellsOf,hi,ft,kI]
 have c1:l.length<=cs.size:=by have:=congrArg List.length nR;simp only[hT,bE,zu]at this;omega
 have fj:=Lib.run_unsafeString_row (P:=X.P) w uY it o.type e fM an g cs.size (by simp[World.shape?,av]) l az c1 PI (λj x ai=>by
  rw[eU _ rfl,tw av];have ab:(cs.toList.take l.length)[j]?=some (.int .u8 x.toNat):=by rw[nR];simp[ai]
  rw[lu]at ab;split at ab;·simpa using ab
  ·cases ab)
 have PJ:=df aV.ao aB;have fh:=df aV.ao aC;refine jg (by rw[aK];simp) (v:=.string ⟨l.toArray⟩) (w':=w.freeze ⟨g,0,none⟩ l.length) ?_ ⟨_,_,_,_,⟨β,cN.put (x:=.val (.string ⟨l.toArray⟩)) (aV.WG (ah4 _ _ _) (λb ag=>ah6 _ _ _ _ ag) (ah5 _ _ _)) ak rfl⟩,h⟩;unfold execOp;simp only[aK,resolve,invoke,builtin,ct,c3,bY,sG,bX,hx,PJ,fh,fj]
def bB.WH{n:Operand}(aK:o.op=.call { callee:=.builtin .unsafeString,args:=#[p,n],argTypes:=#[uY,it] })(ak:∀ d,o.dst=some d->d<X.n)
  {q:Option Addr} (aB:bF F p=.val (.pointer q)) (aC:bF F n=.val (.int .i64 0)) (h:K (put o.dst (.val (.string .empty)) F) C I M):bB X o F C I M K:=by
 refine⟨λa w Q ⟨β,aV⟩=>?_⟩;have PJ:=df aV.ao aB;have fh:=df aV.ao aC;refine wi aV ak (by rw[aK];simp) ?_ h;unfold execOp;simp only[aK,resolve,invoke,builtin,ct,c3,bY,sG,bX,hx,PJ,fh,Lib.run_unsafeString_none]
def bB.WI(aQ:cU X.P X.E){t:Nat}(aK:o.op=.call { callee:=.builtin .copy,args:=#[x,y],argTypes:=#[t,u] })(ak:∀ d,o.dst=some d->d<X.n)
 (ax:X.E t=some c7) (dT:c7.bM=.slice e) (he:X.E e=some aI) (kI:aI.size=1)
 {off dl Hl:Nat} {s:ByteArray} {T:Nat} (ad:bF F x=.val (.slice (some ⟨g,off,none⟩) dl Hl)) (aH:bF F y=.val (.string s)) (bq:s.size<=dl) (jH:off+s.size<=cs.size)
 (a':M.Perm (⟨g,.cells cs T (0,0)⟩::Mr))
  (h:K (put o.dst (.val (.int .i64 s.size)) F) C I (⟨g,.cells (ck cs.toList off (lF s)).toArray T (0,0)⟩::Mr)):bB X o F C I M K:=by
 refine⟨λa w Q ⟨β,iH⟩=>?_⟩;have aV:cN X β a w F C I (⟨g,.cells cs T (0,0)⟩::Mr):=iH.h5 (.perm a' .refl);have av:w.heap[g]?=some (.cells cs T (0,0)):=aV.holds.m ⟨g,.cells cs T (0,0)⟩ (by simp);obtain⟨d,fM,fu⟩:=(aQ _ _ ax).fx;have aa:d=.slice e:=by rw[dT]at fu;cases d<;>simp_all[fw]
 subst aa;obtain⟨inf,z,hi,ft,_⟩:=(aQ _ _ he).inf;have ay:(lF s).length=s.size:=by simp[lF]
 have aa:∀ v∈lF s,v.oneCell'=true:=λv ah=>by obtain⟨b,_,rfl⟩:=cA.1 ah;rfl
 have dS:=run_storeCells_at X.P g off T (lF s) 0 cs w av (by rw[ay];simpa using jH) aa;simp only[qt]at dS;have ah7:Nat.min s.size dl=s.size:=uL bq;have aA:(Builtin.firstCells inf.size s.size (.string s)).run X.P w=.ok (lF s).toArray w:=V7 w inf.size s;have ex:=df aV.ao ad;have o7:=df aV.ao aH;have lG:=aV.xQ (a9:=[]) (post:=Mr) (cs':=(ck cs.toList off (lF s)).toArray) rfl;refine jg (by rw[aK];simp) (v:=.int .i64 s.size) (w':=w.setRow g (ck cs.toList off (lF s)).toArray) ?_ ⟨_,_,_,_,⟨β,cN.put (x:=.val (.int .i64 s.size)) lG ak rfl⟩,h⟩;have fj:(Builtin.copy_ #[t,u] o.type #[.slice (some ⟨g,off,none⟩) dl Hl,.string s]).run X.P w=.ok (.int .i64 s.size) (w.setRow g (ck cs.toList off (lF s)).toArray):=by simp[Builtin.copy_,run_underlying fM,Builtin.lenOf,ah7,sizeOf,typeInfo,hi,aA,dS,ck,goInt]
 unfold execOp;simp only[aK,resolve,invoke,builtin,ct,c3,bY,sG,bX,hx,ex,o7,fj]
end
structure dh(I:aM)(a:Option Addr)(n c size b:Nat)(vs:List Value):Prop where
 len:vs.length=n*size
 cap:n<=c/\n*b<=140737488355328
 rd:n=0\/∃ aU,a=some aU/\aU.spot=none/\∃ cs T ao,I aU.block=some (.cells cs T ao)/\(cs.toList.drop aU.off).take (n*size)=vs
def dh.mono{I:aM}{n b:Nat}(h:dh I a n c size b vs)(bz:∀ b o,I b=some o->I' b=some o):dh I' a n c size b vs:=
 ⟨h.len,h.cap,h.rd.imp id λ⟨aU,aa,ab,cs,T,ao,aj,aG⟩=>⟨aU,aa,ab,cs,T,ao,bz _ _ aj,aG⟩⟩
def dh.idx{I:aM}{n b:Nat}(h:dh I a n c size b vs){j:Nat}(ai:j<n) :
  ∃ aU,a=some aU/\∀ M,cO I M (aU.add (j*size)) size ((vs.drop (j*size)).take size):=by
 obtain⟨ay,_,az | ⟨aU,a6,au,cs,T,ao,bz,ah⟩⟩:=h
 ·omega
 ·refine⟨aU,a6,λM=>?_⟩;have bq:j*size+size<=n*size:=by have:=v' size (show j+1<=n from ai);rw[l8,o2]at this;exact this
  refine⟨by rw[eU _ au],cs,T,ao,.inl (by rw[eU _ au];exact bz),?_,?_⟩;·rw[eU _ au,<-ah,G0,G1,BR];congr 1;omega
  ·rw[hT,tD,ay];omega
def dh.one{I:aM}{n b:Nat}{f:α->Value}{l:List α}(h:dh I a n c 1 b (l.map f)){j:Nat}(ai:j<n)(iC:j<l.length) :
  ∃ aU,a=some aU/\∀ M,cO I M (aU.add (j*1)) 1 [f l[j]]:=by
 obtain⟨aU,aa,ab⟩:=h.idx ai;refine⟨aU,aa,λM=>?_⟩;have:=ab M;rw[fa,<-List.map_drop,<-List.map_take,e1 iC,qB,rG]at this;rw[fa];exact this
def Ej{α:Type}(f:α->List Value)(size:Nat)(aA:∀ x,(f x).length=size):∀ (l:List α) (j:Nat) (ai:j<l.length),((l.flatMap f).drop (j*size)).take size=f l[j]
 |x::l,0,_=>by simp only[jT,zw,wu,uW];rw[<-aA x];exact zv
 |x::l,j+1,ai=>by have aF:=Ej f size aA l j (by simpa using ai);simp only[jT,GX];rw[<-aF,show(j+1)*size=(f x).length+j*size from by rw[aA,l8];omega,V6]
def jm{α:Type}(f:α->List Value)(size:Nat)(aA:∀ x,(f x).length=size):∀ (l:List α),(l.flatMap f).length=l.length*size
 |[]=>by simp
 |x::l=>by simp[jm f size aA l,aA x,l8];omega
def dh.row{I:aM}{n b:Nat}{f:α->List Value}(aA:∀ x,(f x).length=size){l:List α}(h:dh I a n c size b (l.flatMap f)){j:Nat}(ai:j<n)(iC:j<l.length) :
  ∃ aU,a=some aU/\∀ M,cO I M (aU.add (j*size)) size (f l[j]):=by
 obtain⟨aU,aa,ab⟩:=h.idx ai;refine⟨aU,aa,λM=>?_⟩;have:=ab M;rwa [Ej f size aA l j iC]at this
def cO.part{I:aM}{a:Addr}{n k:Nat}(h:cO I M a n vs)(ae:k+m<=n):cO I M (a.add k) m ((vs.drop k).take m):=by
 obtain⟨au,cs,T,ao,aa,ab,aj⟩:=h;refine⟨by rw[eU _ au],cs,T,ao,by rw[eU _ au];exact aa,?_,?_⟩
 ·rw[eU _ au,<-ab,G0,G1,BR];congr 1;omega
 ·rw[hT,tD,aj];omega
structure ap where
 k:Int
 cC:Int
 s1:Int
 s2:Int
 c0:Int
 t:ByteArray
 lo:Int
 hi:Int
 dE:Option Addr
 aO:Nat
 du:Nat
 aw:List Int
def ap.cells(d:ap):List Value:=[.int .u8 d.k,.int .u64 d.cC,.int .u64 d.s1,.int .u64 d.s2,.int .u64 d.c0,.string d.t,.int .i64 d.lo,.int .i64 d.hi,.slice d.dE d.aO d.du]
def ap.val(d:ap):Value:=.agg #[.int .u8 d.k,.int .u64 d.cC,.int .u64 d.s1,.int .u64 d.s2,.int .u64 d.c0,.string d.t,.int .i64 d.lo,.int .i64 d.hi,.slice d.dE d.aO d.du]
def iZ(x:Int):Prop:=-9223372036854775808<=x/\x<=9223372036854775807
def hc(x:Int):Prop:=0<=x/\x<18446744073709551616
structure ap.ok(I:aM)(d:ap):Prop where
 k:0<=d.k/\d.k<256
 cC:hc d.cC
 s1:hc d.s1
 s2:hc d.s2
 c0:hc d.c0
 t:d.t.size<=9223372036854775807
 lo:iZ d.lo
 hi:iZ d.hi
 a2:dh I d.dE d.aO d.du 1 8 (d.aw.map (.int .i64 ·))
 aw:∀ x∈d.aw,iZ x
def ap.cT(d:ap):d.cells.length=9:=rfl
def ap.ok.aO{I:aM}{d:ap}(h:d.ok I):d.aw.length=d.aO:=by have:=h.a2.len;simpa using this
structure bP where
 ns:List ap
 a:Option Addr
 n:Nat
 c:Nat
 bA:Int
def bP.cells(t:bP):List Value:=[.slice t.a t.n t.c,.int .i64 t.bA]
def bP.val(t:bP):Value:=.agg #[.slice t.a t.n t.c,.int .i64 t.bA]
structure bP.ok(I:aM)(t:bP):Prop where
 a2:dh I t.a t.n t.c 9 96 (t.ns.flatMap ap.cells)
 ns:∀ d∈t.ns,d.ok I
 bA:iZ t.bA
def bP.ok.n{I:aM}{t:bP}(h:t.ok I):t.ns.length=t.n:=by have:=h.a2.len;rw[jm _ 9 ap.cT]at this;omega
structure aP where
 name:ByteArray
 t:bP
def aP.cells(d:aP):List Value:=[.string d.name,.slice d.t.a d.t.n d.t.c,.int .i64 d.t.bA]
structure aP.ok(I:aM)(d:aP):Prop where
 name:d.name.size<=140737488355328
 t:d.t.ok I
def aP.cT(d:aP):d.cells.length=3:=rfl
structure cD where
 ds:List aP
 a:Option Addr
 n:Nat
 c:Nat
def cD.val(g:cD):Value:=.agg #[.slice g.a g.n g.c]
structure cD.ok(I:aM)(g:cD):Prop where
 a2:dh I g.a g.n g.c 3 48 (g.ds.flatMap aP.cells)
 ds:∀ d∈g.ds,d.ok I
def cD.ok.n{I:aM}{g:cD}(h:g.ok I):g.ds.length=g.n:=by have:=h.a2.len;rw[jm _ 3 aP.cT]at this;omega
def ap.ok.mono{I:aM}{d:ap}(h:d.ok I)(bz:∀ b o,I b=some o->I' b=some o):d.ok I':={ h with a2:=h.a2.mono bz }
def bP.ok.mono{I:aM}{t:bP}(h:t.ok I)(bz:∀ b o,I b=some o->I' b=some o):t.ok I':=⟨h.a2.mono bz,λd ak=>(h.ns d ak).mono bz,h.bA⟩
def aP.ok.mono{I:aM}{d:aP}(h:d.ok I)(bz:∀ b o,I b=some o->I' b=some o):d.ok I':=⟨h.name,h.t.mono bz⟩
def cD.ok.mono{I:aM}{g:cD}(h:g.ok I)(bz:∀ b o,I b=some o->I' b=some o):g.ok I':=⟨h.a2.mono bz,λd ak=>(h.ds d ak).mono bz⟩
def wrap_i64{x:Int}(h:iZ x):IntKind.i64.wrap x=x:=by obtain⟨aa,ab⟩:=h;unfold IntKind.wrap;simp only[IntKind.bits,IntKind.signed];simp;omega
open Go Go.Proofs
def a5(t n:Nat)(a b:Option dH):Option dH:=bif Nat.blt t n then a else b
def u4(n:Nat):Option dH:=some ⟨1,8,[.pointer none],.pointer n⟩
def k'(n:Nat):Option dH:=some ⟨1,24,[.slice none 0 0],.slice n⟩
def h':Option dH:=none
def bW:Option dH:=some ⟨1,8,[.nilFunc],.other⟩
def PK:Option dH:=some ⟨1,8,[.int .i64 0],.int .i64⟩
def K2:Option dH:=some ⟨1,1,[.int .u8 0],.int .u8⟩
def PL:Option dH:=some ⟨1,8,[.int .u64 0],.int .u64⟩
def WJ:Option dH:=some ⟨1,8,[.pointer none],.struct [(17,0)]⟩
def PM:Option dH:=some ⟨1,16,[.nilIface],.other⟩
def WK:Option dH:=some ⟨1,4,[.int .i32 0],.int .i32⟩
def WL:Option dH:=some ⟨2,32,[.slice none 0 0,.int .i64 0],.struct [(29,0),(3,1)]⟩
def WM:Option dH:=some ⟨5,48,[.int .u8 0,.int .u8 0,.int .i64 0,.slice none 0 0,.int .i64 0],.struct [(5,0),(5,1),(3,2),(55,3),(3,4)]⟩
def PN:Option dH:=some ⟨2,32,[.int .i64 0,.slice none 0 0],.struct [(3,0),(55,1)]⟩
def WN:Option dH:=some ⟨4,32,[.int .u64 0,.int .u64 0,.int .u64 0,.int .u64 0],.array 4 62⟩
def WO:Option dH:=some ⟨9,96,[.int .u8 0,.int .u64 0,.int .u64 0,.int .u64 0,.int .u64 0,.string ⟨#[]⟩,.int .i64 0,.int .i64 0,.slice none 0 0],.struct [(5,0),(64,1),(9,5),(3,6),(3,7),(55,8)]⟩
def WQ:Option dH:=some ⟨3,40,[.bool false,.int .i64 0,.slice none 0 0],.struct [(4,0),(3,1),(149,2)]⟩
def WR:Option dH:=some ⟨64,512,List.replicate 64 (.int .u64 0),.array 64 62⟩
def WS:Option dH:=some ⟨4,16,[.int .i64 0,.int .i32 0,.int .u8 0,.int .u8 0],.struct [(2,0),(21,1),(5,2),(5,3)]⟩
def WT:Option dH:=some ⟨2,32,[.pointer none,.slice none 0 0],.struct [(205,0),(50,1)]⟩
def WU:Option dH:=some ⟨3,32,[.string ⟨#[]⟩,.int .i64 0,.int .i64 0],.struct [(9,0),(3,1),(3,2)]⟩
def WV:Option dH:=some ⟨10,88,[.int .u8 0,.int .i64 0,.int .i64 0,.string ⟨#[]⟩,.int .u64 0,.int .u64 0,.int .u64 0,.int .u64 0,.int .i64 0,.int .i64 0],.struct [(5,0),(3,1),(3,2),(9,3),(64,4),(3,8),(3,9)]⟩
def K3:Option dH:=some ⟨2,16,[.int .i64 0,.int .i64 0],.struct [(3,0),(3,1)]⟩
def PO:Option dH:=some ⟨3,3,[.bool false,.bool false,.bool false],.struct [(4,0),(4,1),(4,2)]⟩
def WW:Option dH:=some ⟨5,96,[.int .u8 0,.string ⟨#[]⟩,.slice none 0 0,.slice none 0 0,.slice none 0 0],.struct [(5,0),(9,1),(55,2),(55,3),(50,4)]⟩
def WX:Option dH:=some ⟨6,64,[.string ⟨#[]⟩,.string ⟨#[]⟩,.int .u8 0,.map none,.int .i64 0,.int .i64 0],.struct [(9,0),(9,1),(5,2),(370,3),(3,4),(27,5)]⟩
def qK:Env:=λt=>bif Nat.blt t 408 then(a5 t 204 (a5 t 102 (a5 t 51 (a5 t 25 (a5 t 12 (a5 t 6 (a5 t 3 (a5 t 1 h' (a5 t 2 bW PK)) (a5 t 4 PK (a5 t 5 (some ⟨1,1,[.bool false],.bool⟩) K2))) (a5 t 9 (a5 t 7 K2 (some ⟨4,24,[.int .i64 0,.int .i64 0,.bool false,.int .u8 0],.struct [(2,0),(3,1),(4,2),(6,3)]⟩)) (some ⟨1,16,[.string ⟨#[]⟩],.string⟩))) (a5 t 18 (a5 t 15 (a5 t 13 PL (some ⟨2,24,[.string ⟨#[]⟩,.int .u64 0],.struct [(9,0),(12,1)]⟩)) (a5 t 16 (u4 397) (a5 t 17 (u4 400) (u4 407)))) (a5 t 21 (a5 t 19 WJ (a5 t 20 WJ PM)) (a5 t 23 (a5 t 22 WK (k' 35)) (some ⟨1,24,[.slice none 0 0],.struct [(22,0)]⟩))))) (a5 t 38 (a5 t 31 (a5 t 28 (a5 t 26 bW (a5 t 27 bW PK)) (a5 t 29 bW (a5 t 30 (k' 66) WL))) (a5 t 34 (a5 t 32 WL (a5 t 33 h' bW)) (a5 t 36 (some ⟨3,48,[.string ⟨#[]⟩,.slice none 0 0,.int .i64 0],.struct [(9,0),(31,1)]⟩) (a5 t 37 bW h')))) (a5 t 44 (a5 t 41 bW (a5 t 42 bW (a5 t 43 (some ⟨4,32,[.int .i64 0,.int .i64 0,.int .i64 0,.int .i64 0],.array 4 3⟩) (k' 42)))) (a5 t 47 (a5 t 45 bW (a5 t 46 bW h')) (a5 t 49 bW (a5 t 50 bW (k' 5))))))) (a5 t 76 (a5 t 63 (a5 t 57 (a5 t 54 (a5 t 52 (k' 57) (a5 t 53 bW h')) (a5 t 55 bW (a5 t 56 (k' 3) WM))) (a5 t 60 (a5 t 58 WM (a5 t 59 bW PN)) (a5 t 61 PN (a5 t 62 bW PL)))) (a5 t 69 (a5 t 66 (a5 t 64 WN (a5 t 65 WN WO)) (a5 t 67 WO bW)) (a5 t 72 bW (a5 t 74 bW (a5 t 75 h' bW))))) (a5 t 89 (a5 t 82 bW (a5 t 85 (a5 t 83 (k' 60) bW) bW)) (a5 t 95 (a5 t 92 (a5 t 90 (k' 31) bW) (a5 t 93 bW (some ⟨1,24,[.slice none 0 0],.struct [(29,0)]⟩))) (a5 t 98 (a5 t 96 bW (a5 t 97 (some ⟨10,80,[.nilFunc,.nilFunc,.nilFunc,.nilFunc,.nilFunc,.nilFunc,.nilFunc,.nilFunc,.nilFunc,.nilFunc],.array 10 95⟩) bW)) (a5 t 100 (a5 t 99 (u4 94) bW) bW)))))) (a5 t 153 (a5 t 127 (a5 t 114 (a5 t 108 (a5 t 105 (a5 t 103 (some ⟨1,8,[.map none],.map 9 3⟩) (a5 t 104 h' bW)) (a5 t 106 bW (a5 t 107 bW h'))) (a5 t 111 bW (a5 t 112 bW (a5 t 113 (u4 186) h')))) bW) (a5 t 140 (a5 t 133 (a5 t 130 (a5 t 128 (k' 129) (a5 t 129 bW PN)) bW) (a5 t 136 (a5 t 134 bW (a5 t 135 (k' 55) h')) (a5 t 138 bW (a5 t 139 (k' 4) bW)))) (a5 t 146 bW (a5 t 149 bW (a5 t 151 (a5 t 150 (k' 222) WQ) (a5 t 152 WQ h')))))) (a5 t 178 (a5 t 165 (a5 t 159 (a5 t 156 (a5 t 154 bW (a5 t 155 bW WR)) (a5 t 157 WR (some ⟨66,528,[.int .i64 0,.int .u64 0,.int .u64 0,.int .u64 0,.int .u64 0,.int .u64 0,.int .u64 0,.int .u64 0,.int .u64 0,.int .u64 0,.int .u64 0,.int .u64 0,.int .u64 0,.int .u64 0,.int .u64 0,.int .u64 0,.int .u64 0,.int .u64 0,.int .u64 0,.int .u64 0,.int .u64 0,.int .u64 0,.int .u64 0,.int .u64 0,.int .u64 0,.int .u64 0,.int .u64 0,.int .u64 0,.int .u64 0,.int .u64 0,.int .u64 0,.int .u64 0,.int .u64 0,.int .u64 0,.int .u64 0,.int .u64 0,.int .u64 0,.int .u64 0,.int .u64 0,.int .u64 0,.int .u64 0,.int .u64 0,.int .u64 0,.int .u64 0,.int .u64 0,.int .u64 0,.int .u64 0,.int .u64 0,.int .u64 0,.int .u64 0,.int .u64 0,.int .u64 0,.int .u64 0,.int .u64 0,.int .u64 0,.int .u64 0,.int .u64 0,.int .u64 0,.int .u64 0,.int .u64 0,.int .u64 0,.int .u64 0,.int .u64 0,.int .u64 0,.int .u64 0,.int .u64 0],.struct [(3,0),(156,1),(62,65)]⟩))) (a5 t 162 (a5 t 160 h' bW) bW)) (a5 t 171 bW (a5 t 174 (a5 t 172 bW (a5 t 173 bW (u4 180))) (a5 t 176 (a5 t 175 h' bW) (a5 t 177 bW (k' 243)))))) (a5 t 191 (a5 t 184 (a5 t 181 (a5 t 179 (k' 307) (some ⟨8,160,[.slice none 0 0,.int .i64 0,.int .i64 0,.slice none 0 0,.slice none 0 0,.slice none 0 0,.slice none 0 0,.slice none 0 0],.struct [(177,0),(3,1),(3,2),(29,3),(178,4),(22,5),(177,6),(177,7)]⟩)) (a5 t 182 bW (a5 t 183 (k' 9) bW))) (a5 t 187 (a5 t 185 (k' 193) (some ⟨5,112,[.string ⟨#[]⟩,.slice none 0 0,.slice none 0 0,.slice none 0 0,.slice none 0 0],.struct [(9,0),(182,1),(55,2),(29,3),(184,4)]⟩)) bW)) (a5 t 197 (a5 t 194 (a5 t 192 WS (a5 t 193 WS (k' 192))) (a5 t 195 bW (a5 t 196 bW (k' 255)))) (a5 t 200 (a5 t 198 h' bW) bW)))))) (a5 t 306 (a5 t 255 (a5 t 229 (a5 t 216 (a5 t 210 (a5 t 207 (a5 t 205 bW (a5 t 206 (u4 207) WT)) (a5 t 208 WT (a5 t 209 bW PM))) (a5 t 213 (a5 t 211 PM (a5 t 212 h' bW)) bW)) (a5 t 222 (a5 t 219 (a5 t 217 bW (a5 t 218 h' bW)) (a5 t 220 bW (a5 t 221 bW WU))) (a5 t 225 (a5 t 223 WU (a5 t 224 (k' 270) h')) (a5 t 227 (a5 t 226 bW h') bW)))) (a5 t 242 (a5 t 235 (a5 t 232 (a5 t 230 bW (a5 t 231 bW (some ⟨2,16,[.int .i64 0,.int .i64 0],.array 2 3⟩))) (a5 t 233 (some ⟨20,160,List.replicate 20 (.int .i64 0),.array 10 231⟩) bW)) (a5 t 238 bW (a5 t 240 (a5 t 239 bW h') bW))) (a5 t 248 (a5 t 245 (a5 t 243 WV (a5 t 244 WV bW)) (a5 t 246 bW (a5 t 247 bW (some ⟨10,80,[.nilFunc,.nilFunc,.nilFunc,.nilFunc,.nilFunc,.nilFunc,.nilFunc,.nilFunc,.nilFunc,.nilFunc],.array 10 246⟩)))) (a5 t 251 bW (a5 t 253 bW (a5 t 254 (k' 138) K3)))))) (a5 t 280 (a5 t 267 (a5 t 261 (a5 t 258 (a5 t 256 K3 bW) bW) (a5 t 264 (a5 t 262 bW (a5 t 263 (u4 5) h')) bW)) (a5 t 273 (a5 t 270 (a5 t 268 bW (a5 t 269 bW PO)) (a5 t 271 PO bW)) (a5 t 276 (a5 t 274 h' bW) bW))) (a5 t 293 (a5 t 286 (a5 t 283 (a5 t 281 (k' 319) (a5 t 282 h' bW)) (a5 t 284 bW (some ⟨3,24,[.int .i64 0,.int .i64 0,.bool false],.struct [(3,0),(3,1),(4,2)]⟩))) (a5 t 289 (a5 t 287 (k' 285) (a5 t 288 (u4 285) bW)) (a5 t 291 (a5 t 290 bW (some ⟨3,48,[.string ⟨#[]⟩,.string ⟨#[]⟩,.string ⟨#[]⟩],.struct [(9,0),(9,1),(9,2)]⟩)) (a5 t 292 (some ⟨30,480,List.replicate 30 (.string ⟨#[]⟩),.array 10 290⟩) bW)))) (a5 t 299 (a5 t 296 (a5 t 294 (some ⟨1,8,[.pointer none],.other⟩) (a5 t 295 bW K3)) (a5 t 297 K3 (a5 t 298 (k' 296) bW))) (a5 t 302 (a5 t 300 bW (a5 t 301 bW (some ⟨10,80,[.nilFunc,.nilFunc,.nilFunc,.nilFunc,.nilFunc,.nilFunc,.nilFunc,.nilFunc,.nilFunc,.nilFunc],.array 10 300⟩))) bW))))) (a5 t 357 (a5 t 331 (a5 t 318 (a5 t 312 (a5 t 309 (a5 t 307 WW (a5 t 308 WW h')) (a5 t 310 bW (a5 t 311 bW (u4 307)))) bW) (a5 t 324 (a5 t 321 (a5 t 319 bW (a5 t 320 PO h')) bW) (a5 t 327 bW (a5 t 329 (a5 t 328 (some ⟨1,8,[.map none],.map 5 331⟩) bW) bW)))) (a5 t 344 (a5 t 337 (a5 t 334 (a5 t 332 bW h') (a5 t 335 bW (a5 t 336 h' bW))) (a5 t 340 (a5 t 338 h' bW) (a5 t 342 bW (a5 t 343 (k' 344) bW)))) (a5 t 350 (a5 t 347 (a5 t 345 (some ⟨2,2,[.int .u8 0,.int .u8 0],.array 2 5⟩) (a5 t 346 (some ⟨3,32,[.int .i64 0,.int .i64 0,.string ⟨#[]⟩],.struct [(3,0),(3,1),(9,2)]⟩) (some ⟨9,96,[.int .i64 0,.int .i64 0,.string ⟨#[]⟩,.int .i64 0,.int .i64 0,.string ⟨#[]⟩,.int .i64 0,.int .i64 0,.string ⟨#[]⟩],.array 3 345⟩))) bW) (a5 t 353 (a5 t 351 bW (a5 t 352 bW PL)) bW)))) (a5 t 382 (a5 t 369 (a5 t 363 (a5 t 360 (a5 t 358 h' bW) (a5 t 361 h' (a5 t 362 bW h'))) (a5 t 366 bW (a5 t 367 bW (a5 t 368 (u4 372) bW)))) (a5 t 375 (a5 t 372 (a5 t 370 bW (a5 t 371 (some ⟨1,8,[.map none],.map 5 5⟩) WX)) (a5 t 373 WX (a5 t 374 h' bW))) (a5 t 378 (a5 t 376 bW (a5 t 377 bW (some ⟨64,64,List.replicate 64 (.int .u8 0),.array 64 5⟩))) bW))) (a5 t 395 (a5 t 388 (a5 t 385 (a5 t 383 bW (a5 t 384 (some ⟨24,24,List.replicate 24 (.int .u8 0),.array 24 5⟩) bW)) (a5 t 386 h' bW)) (a5 t 391 (a5 t 389 (some ⟨20,160,List.replicate 20 (.int .u64 0),.array 20 62⟩) (a5 t 390 (some ⟨1,4,[.int .u32 0],.int .u32⟩) (some ⟨65,65,List.replicate 65 (.int .u8 0),.array 65 5⟩))) (a5 t 393 (a5 t 392 bW h') bW))) (a5 t 401 (a5 t 398 (a5 t 396 (some ⟨32,32,List.replicate 32 (.int .u8 0),.array 32 5⟩) (some ⟨4,40,[.pointer none,.pointer none,.pointer none,.string ⟨#[]⟩],.struct [(17,0),(17,1),(17,2),(9,3)]⟩)) (a5 t 399 (some ⟨0,0,[],.array 0 16⟩) (some ⟨0,0,[],.struct [(398,0)]⟩))) (a5 t 404 (a5 t 402 K2 (a5 t 403 K2 bW)) (a5 t 406 WK (some ⟨11,48,[.int .u64 0,.int .u64 0,.int .u32 0,.int .u8 0,.int .u8 0,.int .u8 0,.int .u8 0,.nilFunc,.pointer none,.int .i32 0,.int .i32 0],.struct [(12,0),(12,1),(389,2),(401,3),(5,4),(5,5),(402,6),(403,7),(262,8),(404,9),(405,10)]⟩)))))))))else none
def a7:cU Tryz.prog qK:=ahi 408 (λt h=>by
 have bc:Nat.blt t 408=false:=by
  cases ag:Nat.blt t 408 with
  |false=>rfl| true=>exact absurd (bI ag) (by omega)
 simp only[qK,bc,b5]) (by kernel_rfl)
def letter(c:UInt8):Bool:=decide (97<=c.toNat/\c.toNat<=122)||(decide (65<=c.toNat/\c.toNat<=90)||decide (c.toNat=95))
def digit(c:UInt8):Bool:=decide (48<=c.toNat/\c.toNat<=57)
def WY(I:aM)(c:UInt8):Spec Tryz.prog 166 [.int .u8 c.toNat] I [] (λv I' M'=>v=.bool (letter c)/\I'=I/\M'=[]):=by
 refine cg [] a7 Tryz.func166 rfl rfl rfl ?_;intro B az
 repeat' (refine cj.mk (λh=>?_) (λh=>?_))
 all_goals
  refine⟨_,_,.refl,?_⟩;refine⟨?_,rfl,rfl⟩;simp_all[letter]
  all_goals first
   |omega|(rw[sC];simp;omega)
def ah8(I:aM)(c:UInt8):Spec Tryz.prog 167 [.int .u8 c.toNat] I [] (λv I' M'=>v=.bool (digit c)/\I'=I/\M'=[]):=by
 refine cg [] a7 Tryz.func167 rfl rfl rfl ?_;intro B az
 repeat' (refine cj.mk (λh=>?_) (λh=>?_))
 all_goals
  refine⟨_,_,.refl,?_⟩;refine⟨?_,rfl,rfl⟩;simp_all[digit]
  all_goals first
   |omega|(rw[sC];simp;omega)
def B3(s:ByteArray):s.data.toList.length=s.size:=zu
def ah9(I:aM)(s:ByteArray)(au:s.size<=140737488355328):Spec Tryz.prog 202 [.string s] I [] (λv I' M'=>v=.string s/\I'=I/\M'=[]):=by
 refine cg [] a7 Tryz.func202 rfl rfl rfl ?_;intro B az;refine a3.mk (λh=>?_) (λh=>?_)
 ·refine⟨_,_,.refl,?_,rfl,rfl⟩;have aa:s.size=0:=by simpa using h
  have:s=.empty:=by apply wa;exact Pj aa
  rw[this];rfl
 ·have aa:s.size≠0:=by simpa using h
  refine m0.mk s.size s.size rfl rfl (b2 _) (by show 1*s.size<=_;omega) (by omega) ?_;refine b'.mk λb ag sN=>?_;refine bB.WI a7 rfl (by simp) (e:=5) rfl rfl rfl rfl rfl rfl (b2 _) ?_ (.refl _) ?_;·simp[wg,madeCells]
  refine bf.mk ⟨b,0,none⟩ 0 rfl rfl (by omega) ?_;refine bB.PH a7 rfl (by simp) (e:=5) rfl rfl rfl rfl (g:=b) (l:=s.data.toList) rfl ?_ ?_ ?_ (.refl _) ?_ ?_;·show dD.val (.int .i64 (s.size:Int))=dD.val (.int .i64 (s.data.toList.length:Int));rw[B3]
  ·intro e;have:=congrArg List.length e;rw[B3]at this;exact aa this
  ·rw[B3];omega
  ·rw[B3];have ay:(lF s).length=s.size:=by simp[lF]
   simp only[ck];rw[rG,iF,BO (by rw[ay];exact b2 _),<-ay,D'];rfl
  ·exact⟨_,_,.refl,rfl,rfl,rfl⟩
def WZ(I:aM)(s:ByteArray)(au:s.size<=140737488355328):Spec Tryz.prog 168 [.string s] I [] (λv I' M'=>v=.string s/\I'=I/\M'=[]):=by refine cg [] a7 Tryz.func168 rfl rfl rfl ?_;intro B az;refine bd.mk [] [] _ (.refl _) (ah9 I s au) ?_;rintro v I' M' -⟨rfl,rfl,rfl⟩;exact⟨_,_,.refl,rfl,rfl,rfl⟩
def tJ(c:UInt8):Bool:=letter c||digit c
def tK(s:ByteArray):Nat:=match s.data.toList with
 |[]=>0| c::r=>bif letter c then 1+(r.takeWhile tJ).length else 0
def W0{α:Type}(p:α->Bool):∀ (l:List α) (i:Nat),i<=l.length->(∀ j (h:j<l.length),j<i->p l[j]=true)->(∀ (h:i<l.length),p l[i]=false)->(l.takeWhile p).length=i
 |[],i,h,_,_=>by simp at h;simp[h]
 |x::l,0,_,_,h=>by have:=h (by simp);simp only[uW]at this;simp[this]
 |x::l,i+1,hi,aa,ab=>by have ad:=aa 0 (by simp) (by omega);simp only[uW]at ad;have aF:=W0 p l i (by simpa using hi) (λj ai KU=>by have:=aa (j+1) (by simpa using ai) (by omega);simpa using this) (λh=>by have:=ab (by simpa using h);simpa using this);simp[ad,aF]
def aia{s:ByteArray}(az:0<s.size)(ay:letter s[0]=true){i:Nat}(aa:1<=i)(hi:i<=s.size)(a6:∀ j (h:j<s.size),1<=j->j<i->tJ s[j]=true)(ag:∀ (h:i<s.size),tJ s[i]=false):tK s=i:=by
 have get:∀ j (h:j<s.size),s[j]=s.data.toList[j]'(by rw[B3];exact h):=λj h=>rfl;unfold tK;have c1:=B3 s;cases ak:s.data.toList with
 |nil=>rw[ak]at c1;simp at c1;omega
 |cons c r=>
  have g:∀ j (h:j<s.size),s[j]=(c::r)[j]'(by rw[<-ak,c1];exact h):=λj h=>by rw[get j h];simp only[ak]
  rw[ak]at c1;have an:letter c=true:=by rw[g 0 az]at ay;simpa using ay
  simp only[an,cb];simp only[c2]at c1;rw[W0 tJ r (i-1) (by omega) (λj ai KU=>by
   have aj:j+1<s.size:=by omega
   have:=a6 (j+1) aj (by omega) (by omega);rw[g (j+1) aj]at this;simpa using this) (λh=>by
   have aj:i<s.size:=by omega
   have:=ag aj;rw[g i aj]at this;have e:i=(i-1)+1:=by omega
   rw[List.getElem_cons]at this;rw[dif_neg (by omega)]at this;exact this)]
  omega
def aib(I:aM)(s:ByteArray)(au:s.size<=140737488355328):Spec Tryz.prog 118 [.string s] I [] (λv I' M'=>v=.string (s.extract 0 (tK s))/\I'=I/\M'=[]):=by
 refine cg [] a7 Tryz.func118 rfl rfl rfl ?_;intro B az;have dd:∀ {s:ByteArray},tK s=0->s.extract 0 (tK s)=⟨#[]⟩:=λh=>by rw[h];apply wa;simp[Kq]
 refine cj.mk (λh=>?_) (λh=>?_)
 ·have aa:s≠⟨#[]⟩:=by simpa using h
  have m6:0<s.size:=by refine Nat.pos_of_ne_zero λe=>aa ?_;apply wa;exact Pj e
  refine Bz.mk 0 rfl m6 ?_;refine bd.mk [] [] _ (.refl _) (WY I s[0]) ?_;rintro v I' M' -⟨rfl,rfl,rfl⟩;refine a3.mk (λh=>?_) (λh=>?_)
  ·have ay:letter s[0]=false:=by simpa using h
   refine⟨_,_,.refl,?_,rfl,rfl⟩;rw[dd]
   ·unfold tK;cases ak:s.data.toList with
    |nil=>rfl
    |cons c r=>
     have:s[0]=c:=by show s.data.toList[0]=c;simp only[ak];rfl
     rw[this]at ay;simp[ay]
  ·have ay:letter s[0]=true:=by simpa using h
   refine dg.inv (ι:=Nat) (λi=>{ bj:=[(0,.val (.string s)),(3,.val (.int .i64 i))],cI:=I' }) (λi=>1<=i/\i<=s.size/\∀ j (h:j<s.size),1<=j->j<i->tJ s[j]=true) (λi=>s.size-i) ?_ ?_;·exact⟨1,⟨by omega,by omega,λj _ aa ab=>by omega⟩,.refl,uV,.nil⟩
   ·rintro i⟨ft,iW,iB⟩;have next:∀ (a1:i<s.size),tJ s[i]=true->(1<=i+1/\i+1<=s.size/\∀ k (h:k<s.size),1<=k->k<i+1->tJ s[k]=true)/\s.size-(i+1)<s.size-i:=λa1 an=>
     ⟨⟨by omega,by omega,λj ai aa ab=>by
      by_cases e:j=i;·subst e;exact an
      ·exact iB j ai aa (by omega)⟩,by omega⟩
    have out:(∀ (h:i<s.size),tJ s[i]=false)->s.extract 0 i=s.extract 0 (tK s):=λaC=>by rw[aia m6 ay ft iW iB aC]
    have da:(s.extract 0 i).size<=140737488355328:=by rw[ByteArray.size_extract];omega
    have gq:IntKind.i64.wrap ((i:Int)+1)=((i+1:Nat):Int):=by rw[wrap_i64 ⟨by omega,by omega⟩];omega
    refine cj.mk (λh=>?_) (λh=>?_)
    ·have a1:i<s.size:=by simpa using h
     refine Bz.mk i rfl a1 ?_;refine bd.mk [] [] _ (.refl _) (WY I' s[i]) ?_;rintro v I' M' -⟨rfl,rfl,rfl⟩;refine cj.mk (λh=>?_) (λh=>?_)
     ·refine Bz.mk i rfl a1 ?_;refine bd.mk [] [] _ (.refl _) (ah8 _ s[i]) ?_;rintro v I' M' -⟨rfl,rfl,rfl⟩;refine a3.mk (λab=>?_) (λab=>?_)
      ·refine bg.mk _ gq ?_;exact⟨i+1,next a1 (by simp only[tJ];rw[show digit s[i]=true from ab];simp),.refl,uV,.nil⟩
      ·refine ms.mk 0 i rfl rfl (by omega) (by omega) ?_;refine bd.mk [] [] _ (.refl _) (WZ _ _ da) ?_;rintro v I' M' -⟨rfl,rfl,rfl⟩;refine⟨_,_,.refl,?_,rfl,rfl⟩;rw[<-out λ_=>by simp only[tJ];rw[show letter s[i]=false from h,show digit s[i]=false from ab];rfl]
     ·refine bg.mk _ gq ?_;exact⟨i+1,next a1 (by simp only[tJ];rw[show letter s[i]=true from h];simp),.refl,uV,.nil⟩
    ·have cJ:¬ i<s.size:=by simpa using h
     refine ms.mk 0 i rfl rfl (by omega) (by omega) ?_;refine bd.mk [] [] _ (.refl _) (WZ _ _ da) ?_;rintro v I' M' -⟨rfl,rfl,rfl⟩;refine⟨_,_,.refl,?_,rfl,rfl⟩;rw[<-out λh=>(cJ h).elim]
 ·have aa:s=⟨#[]⟩:=by simpa using h
  subst aa;refine⟨_,_,.refl,?_,rfl,rfl⟩;rw[dd];rfl
def jW(s:ByteArray):Bool:=decide (s≠⟨#[]⟩)&&(decide (s.size<=32)&&decide (tK s=s.size))
def aic(s:ByteArray):tK s<=s.size:=by
 unfold tK;have ay:=B3 s;cases ak:s.data.toList with
 |nil=>simp
 |cons c r=>
  rw[ak]at ay;simp only[c2]at ay;simp only;cases letter c;·simp
  ·simp only[cb];have:=(List.takeWhile_sublist (p:=tJ) (l:=r)).length_le;omega
def PP(I:aM)(s:ByteArray):Spec Tryz.prog 65 [.string s] I [] (λv I' M'=>v=.bool (jW s)/\I'=I/\M'=[]):=by
 refine cg [] a7 Tryz.func65 rfl rfl rfl ?_;intro B az;refine cj.mk (λaa=>?_) (λaa=>?_)
 ·refine cj.mk (λab=>?_) (λab=>?_)
  ·have ma:s.size<=32:=by simp at ab;omega
   refine bd.mk [] [] _ (.refl _) (aib I s (by omega)) ?_;rintro v I' M' -⟨rfl,rfl,rfl⟩;refine⟨_,_,.refl,?_,rfl,rfl⟩;have bq:=aic s;have aJ:(s.extract 0 (tK s)).size=tK s:=by rw[ByteArray.size_extract];omega
   simp_all[jW]
   all_goals omega
  ·refine⟨_,_,.refl,?_,rfl,rfl⟩;simp_all[jW]
   all_goals omega
 ·refine⟨_,_,.refl,?_,rfl,rfl⟩;simp_all[jW]
def kJ:List Int:=[0,0,0,0,0,0,0,0,2,-1,2,-1,1,1,1,1,1,1,1,1]
def oj(k:Nat):Int:=kJ.getD (k*2) 0
def rT(k:Nat):Int:=kJ.getD (k*2+1) 0
def nh(I:aM):Prop:=∃ T ao,I 0=some (.cells (kJ.map (Value.int .i64)).toArray T ao)
def nh.rd{I:aM}(h:nh I)(M:List aE){j:Nat}(ai:j<20):cO I M (Addr.add ⟨0,0,none⟩ j) 1 [.int .i64 (kJ.getD j 0)]:=by
 obtain⟨T,ao,h⟩:=h;rw[eU _ rfl];refine⟨rfl,_,T,ao,.inl h,?_,rfl⟩;simp only[cX];have:∀ j:Fin 20,(((kJ.map (Value.int .i64)).toArray.toList.drop j.val).take 1)=[Value.int .i64 (kJ.getD j.val 0)]:=by
  intro j;have aa:j.val<(kJ.map (Value.int .i64)).length:=by simp[kJ]
  rw[OZ,e1 aa,qB,rG];have ab:j.val<kJ.length:=by simp[kJ]
  simp[bt,ab]
 exact this ⟨j,ai⟩
def nh.aid{I:aM}(h:nh I)(M:List aE){i j:Nat}(ai:i+j<20):cO I M ((Addr.add ⟨0,0,none⟩ i).add j) 1 [.int .i64 (kJ.getD (i+j) 0)]:=by
 have e:(Addr.add ⟨0,0,none⟩ i).add j=Addr.add ⟨0,0,none⟩ (i+j):=by rw[eU ⟨_,0,none⟩ rfl i,eU _ rfl j,eU _ rfl (i+j)];simp
 rw[e];exact h.rd M ai
def ap.qL(d:ap):Bool:=d.cC == 0&&(d.s1 == 0&&(d.s2 == 0&&d.c0 == 0))
def fits(d:ap)(n:Int):Bool:=
 bif decide (10<=d.k)then false else
 bif decide (n<oj d.k.toNat)||(decide (0<=rT d.k.toNat)&&decide (rT d.k.toNat<n))then false else
 bif decide (d.k=1)then decide (d.t=⟨#[]⟩)&&(decide (d.lo=0)&&decide (d.hi=0))else
 bif decide (d.k=2)then(!(decide (d.t=⟨#[]⟩)||decide (255<d.t.size)))&&(d.qL&&(decide (d.lo=0)&&decide (d.hi=0)))else
 bif decide (d.k=3)||decide (d.k=9)then jW d.t&&(d.qL&&(decide (d.lo=0)&&decide (d.hi=0)))else
 bif decide (d.k=6)then(!(decide (d.lo<0)||(decide (99<d.lo)||(decide (d.hi≠-1)&&(decide (d.hi<d.lo)||decide (99<d.hi))))))&&(d.qL&&decide (d.t=⟨#[]⟩))else
 d.qL&&(decide (d.t=⟨#[]⟩)&&(decide (d.lo=0)&&decide (d.hi=0)))
set_option maxHeartbeats 4000000 in
def W1{I:aM}(an:nh I){d:ap}(ak:d.ok I)(n:Int):Spec Tryz.prog 109 [d.val,.int .i64 n] I [] (λv I' M'=>v=.bool (fits d n)/\I'=I/\M'=[]):=by
 refine cg [] a7 Tryz.func109 rfl rfl rfl ?_;intro B az;have ae:=ak.k;refine bg.mk d.k (by unfold IntKind.wrap;simp[IntKind.bits,IntKind.signed];omega) ?_;refine a3.mk (λh=>?_) (λh=>?_)
 ·refine⟨_,_,.refl,?_,rfl,rfl⟩;simp at h;simp[fits,h]
 ·have rU:d.k<10:=by simpa using h
  have ai:d.k=((d.k.toNat:Nat):Int):=by omega
  have W2:d.k.toNat<10:=by omega
  refine c4.draw a7 rfl rfl rfl ?_;refine eH.mk d.k.toNat ai W2 ?_;refine eH.mk 0 rfl (by omega) ?_;refine aR.mk [.int .i64 (oj d.k.toNat)] (an.rd _ (j:=d.k.toNat*2) (by omega)) ?_;refine eH.mk d.k.toNat ai W2 ?_;refine eH.mk 1 rfl (by omega) ?_;refine aR.mk [.int .i64 (rT d.k.toNat)] (an.aid _ (i:=d.k.toNat*2) (j:=1) (by omega)) ?_
  repeat' first
   |refine cj.mk (λh=>?_) (λh=>?_)| refine a3.mk (λh=>?_) (λh=>?_)| refine gB.PE a7 (e:=62) rfl rfl rfl rfl (by kernel_rfl) ?_|(refine bd.mk [] [] _ (.refl _) (PP _ _) ?_;rintro v I' M' -⟨rfl,rfl,rfl⟩)
  all_goals refine⟨_,_,.refl,?_⟩
  all_goals refine⟨?_,rfl,rfl⟩
  all_goals clear an ak ai
  all_goals (first | (simp_all[fits,ap.qL];done) | (simp_all[fits,ap.qL];omega) | (simp_all[fits,ap.qL];rw[sC];simp;omega))
def la(i:Nat):List Int->List Bool->Option (List Bool)
 |[],s=>some s| k::ks,s=>bif decide (k<0)||(decide ((i:Int)<=k)||s.getD k.toNat false)then none else la i ks (s.set k.toNat true)
def jI:Nat->List ap->List Bool->Option (List Bool)
 |_,[],s=>some s
 |i,d::ds,s=>bif fits d d.aw.length then(match la i d.aw s with
  |some cf=>jI (i+1) ds cf| none=>none)else none
def rV(bA:Int):Nat->List Bool->Bool
 |_,[]=>true| i,b::s=>bif b == decide ((i:Int)=bA)then false else rV bA (i+1) s
def right(t:bP):Bool:=decide (0<=t.bA)&&(decide (t.bA<t.ns.length)&&(match jI 0 t.ns (List.replicate t.ns.length false)with
 |some s=>rV t.bA 0 s| none=>false))
def tL(v:Value)(n:Nat):rowOf [v] n=List.replicate n v:=by
 apply lC
 ·simp[wg,madeCells]
 ·intro i aa ab;simp[wg,madeCells,Nat.mod_one]
def iI(b:Nat)(s:List Bool):aE:=⟨b,.cells (s.map Value.bool).toArray 4 (0,0)⟩
def Hm{I:aM}{b:Nat}{s:List Bool}(a':iI b s∈M){j:Nat}(ai:j<s.length):cO I M ((⟨b,0,none⟩:Addr).add (j*1)) 1 [.bool s[j]]:=by
 rw[eU _ rfl];refine⟨rfl,_,4,(0,0),.inr ⟨_,a',rfl,rfl⟩,?_,rfl⟩;have aa:j<(s.map Value.bool).length:=by simpa using ai
 simp only[cX,fa];rw[e1 aa,qB,rG];simp
def Ek(s:List Bool)(j:Nat)(ai:j<s.length)(b:Bool):ck (s.map Value.bool) j [.bool b]=(s.set j b).map Value.bool:=by unfold ck;rw[o1,D8];simp[ai]
def b8.add{b o k:Nat}(a9 post:List aE)(cs:Array Value)(T:Nat)(a':M=a9++⟨b,.cells cs T (0,0)⟩::post)(ag:o+k+vs.length<=cs.size)(aa:gA vs=true)
  (h:K (a9++⟨b,.cells (ck cs.toList (o+k) vs).toArray T (0,0)⟩::post)):b8 M ((⟨b,o,none⟩:Addr).add k) vs K:=by
 rw[eU _ rfl];exact .mk a9 post cs T a' rfl ag aa h
def b8.iJ{b o k:Nat}(a9 post:List aE)(cs:List Value)(T:Nat)(a':M=a9++⟨b,.cells cs.toArray T (0,0)⟩::post)(ag:Nat.ble (o+k+vs.length) cs.length=true)(aa:gA vs=true)(cs':List Value)(he:ck cs (o+k) vs=cs')(h:K (a9++⟨b,.cells cs'.toArray T (0,0)⟩::post)):b8 M ((⟨b,o,none⟩:Addr).add k) vs K:=
 b8.add a9 post _ _ a' (by simpa using bI ag) aa (by rw[<-he]at h;exact h)
def qM{I:aM}(an:nh I){t:bP}(ax:t.ok I):Spec Tryz.prog 60 [t.val] I [] (λv I' M'=>v=.bool (right t)/\I'=I/\M'=[]):=by
 refine cg [] a7 Tryz.func60 rfl rfl rfl ?_;intro B az;have aC:=ax.n;have jJ:=ax.a2.cap;refine cj.mk (λaa=>?_) (λaa=>?_)
 ·refine a3.mk (λab=>?_) (λab=>?_)
  ·refine⟨_,_,.refl,?_,rfl,rfl⟩;simp at ab;have:¬ t.bA<t.ns.length:=by omega
   simp[right,this]
  ·have a8:0<=t.bA:=by simpa using aa
   have ba:t.bA<t.ns.length:=by simp at ab;omega
   refine m0.mk t.n t.n rfl rfl (b2 _) (by show 1*t.n<=_;omega) (by omega) ?_;refine b'.mk λb ag sN=>?_;refine dg.inv (ι:=Nat×List Bool) (λx=>{ bj:=[(1,.ref 1 0),(3,.val (.slice (some ⟨b,0,none⟩) t.n t.n)),(26,.val (.slice t.a t.n t.c)),(27,.val (.int .i64 t.n)),(28,.val (.int .i64 x.1))],cl:=[(1,t.cells)],cI:=I,de:=[iI b x.2] }) (λx=>x.1<=t.n/\x.2.length=t.n/\jI 0 t.ns (List.replicate t.ns.length false)=jI x.1 (t.ns.drop x.1) x.2) (λx=>t.n-x.1) ?_ ?_;·refine⟨(0,List.replicate t.n false),⟨by omega,by simp,by simp[aC]⟩,?_,hv,.cons rfl .nil⟩;show il _ _ [⟨b,.cells (rowOf [Value.bool false] (t.n*1)).toArray 4 (0,0)⟩] _ [iI b (List.replicate t.n false)];rw[tL,fa];simp only[iI,xY];exact .refl
   ·rintro⟨i,s⟩⟨ft,iW,iB⟩;simp only at ft iW iB;refine a3.mk (λh=>?_) (λh=>?_)
    ·have a1:i<t.n:=by simpa using h
     have cq:i<t.ns.length:=by omega
     obtain⟨aU,bK,bm⟩:=ax.a2.row ap.cT a1 cq;have hV:=ax.ns t.ns[i] (bi cq);have ff:=hV.aO;have jn:t.ns.drop i=t.ns[i]::t.ns.drop (i+1):=e1 cq;refine bf.mk aU i bK rfl a1 ?_;refine aR.mk t.ns[i].cells (bm _) ?_;refine bd.mk [] [iI b s] _ (.refl _) (W1 an hV t.ns[i].aO) ?_;rintro v I' M' -⟨rfl,rfl,rfl⟩;refine a3.mk (λaj=>?_) (λaj=>?_)
     ·refine⟨_,_,.sub (fk _) .refl,?_,rfl,rfl⟩;have aA:fits t.ns[i] t.ns[i].aw.length=false:=by rw[ff];simpa using aj
      have:right t=false:=by unfold right;rw[iB,jn];simp[jI,aA]
      rw[this]
     ·have aA:fits t.ns[i] t.ns[i].aw.length=true:=by rw[ff];simpa using aj
      refine dg.inv (ι:=Nat×List Bool) (λx=>{ bj:=[(1,.ref 1 0),(3,.val (.slice (some ⟨b,0,none⟩) t.n t.n)),(4,.val (.int .i64 i)),(26,.val (.slice t.a t.n t.c)),(27,.val (.int .i64 t.n)),(28,.val (.int .i64 i)),(40,.val (.slice t.ns[i].dE t.ns[i].aO t.ns[i].du)),(41,.val (.int .i64 t.ns[i].aO)),(42,.val (.int .i64 x.1))],cl:=[(1,t.cells)],cI:=I',de:=[iI b x.2] }) (λx=>x.1<=t.ns[i].aO/\x.2.length=t.n/\la i t.ns[i].aw s=la i (t.ns[i].aw.drop x.1) x.2) (λx=>t.ns[i].aO-x.1) ?_ ?_;·exact⟨(0,s),⟨by omega,iW,rfl⟩,.refl,kh,.cons rfl .nil⟩
      ·rintro⟨j,cf⟩⟨K4,tM,El⟩;simp only at K4 tM El;refine a3.mk (λh=>?_) (λh=>?_)
       ·have ez:j<t.ns[i].aO:=by simpa using h
        have iK:j<t.ns[i].aw.length:=by omega
        obtain⟨gr,fB,eY⟩:=hV.a2.one ez iK;refine bf.mk gr j fB rfl ez ?_;refine aR.mk [.int .i64 t.ns[i].aw[j]] (eY _) ?_;have jo:t.ns[i].aw.drop j=t.ns[i].aw[j]::t.ns[i].aw.drop (j+1):=e1 iK;have bad:(decide (t.ns[i].aw[j]<0)||(decide ((i:Int)<=t.ns[i].aw[j])||cf.getD t.ns[i].aw[j].toNat false))=true->right t=false:=λag=>by unfold right;rw[iB,jn];simp only[jI,aA,cb,El,jo,la,ag];simp
        refine cj.mk (λaG=>?_) (λaG=>?_)
        ·refine cj.mk (λbx=>?_) (λbx=>?_)
         ·simp only[qz,Int.not_lt,Int.not_le]at aG bx;have lb:t.ns[i].aw[j]=((t.ns[i].aw[j].toNat:Nat):Int):=by omega
          have cv:t.ns[i].aw[j].toNat<t.n:=by omega
          have mD:t.ns[i].aw[j].toNat<cf.length:=by omega
          refine bf.mk ⟨b,0,none⟩ t.ns[i].aw[j].toNat rfl lb cv ?_;refine aR.mk [.bool cf[t.ns[i].aw[j].toNat]] (Hm (by simp) mD) ?_;refine a3.mk (λbZ=>?_) (λbZ=>?_);·refine⟨_,_,.sub (fk _) .refl,?_,rfl,rfl⟩;rw[bad];simp[bt,mD,bZ]
          ·refine bf.mk ⟨b,0,none⟩ t.ns[i].aw[j].toNat rfl lb cv ?_;refine b8.add [] [] _ 4 rfl ?_ rfl ?_
           ·simp only[oZ,bE];show 0+t.ns[i].aw[j].toNat*1+1<=_;omega
           have gq:IntKind.i64.wrap ((j:Int)+1)=((j+1:Nat):Int):=by rw[wrap_i64 ⟨by omega,by have:=hV.a2.cap;omega⟩];omega
           refine bg.mk _ gq ?_;refine⟨(j+1,cf.set t.ns[i].aw[j].toNat true),⟨⟨by omega,by simp[tM],?_⟩,by show _<_;simp only;omega⟩,?_,kh,.cons rfl .nil⟩
           ·simp only;rw[El,jo];have aN:(decide (t.ns[i].aw[j]<0)||(decide ((i:Int)<=t.ns[i].aw[j])||cf.getD t.ns[i].aw[j].toNat false))=false:=by
             have aJ:¬ t.ns[i].aw[j]<0:=by omega
             have a4:¬ (i:Int)<=t.ns[i].aw[j]:=by omega
             simp[aJ,a4,bt,mD,show cf[t.ns[i].aw[j].toNat]=false from bZ]
            simp only[la,aN,b5]
           ·have e:=Ek cf t.ns[i].aw[j].toNat mD true;simp only[iI];rw[<-e];simp only[cX,fa];exact .refl
         ·refine⟨_,_,.sub (fk _) .refl,?_,rfl,rfl⟩;rw[bad];simp at bx;simp[bx]
        ·refine⟨_,_,.sub (fk _) .refl,?_,rfl,rfl⟩;rw[bad];simp at aG;simp[aG]
       ·have ez:¬ j<t.ns[i].aO:=by simpa using h
        have B4:t.ns[i].aw.drop j=[]:=ki (by omega);have gq:IntKind.i64.wrap ((i:Int)+1)=((i+1:Nat):Int):=by rw[wrap_i64 ⟨by omega,by omega⟩];omega
        refine bg.mk _ gq ?_;refine⟨(i+1,cf),⟨⟨by omega,tM,?_⟩,by show _<_;simp only;omega⟩,.refl,hv,.cons rfl .nil⟩;simp only;rw[iB,jn];simp only[jI,aA,cb,El,B4,la]
    ·have cJ:¬ i<t.n:=by simpa using h
     have hs:t.ns.drop i=[]:=ki (by omega);have gU:jI 0 t.ns (List.replicate t.ns.length false)=some s:=by rw[iB,hs];rfl
     have af:right t=rV t.bA 0 s:=by unfold right;rw[gU];simp[a8,ba]
     refine dg.inv (ι:=Nat) (λm=>{ bj:=[(1,.ref 1 0),(64,.val (.slice (some ⟨b,0,none⟩) t.n t.n)),(65,.val (.int .i64 t.n)),(66,.val (.int .i64 m))],cl:=[(1,t.cells)],cI:=I,de:=[iI b s] }) (λm=>m<=t.n/\rV t.bA 0 s=rV t.bA m (s.drop m)) (λm=>t.n-m) ?_ ?_;·exact⟨0,⟨by omega,rfl⟩,.refl,ej,.cons rfl .nil⟩
     ·rintro m⟨K5,mE⟩;refine a3.mk (λh=>?_) (λh=>?_)
      ·have jq:m<t.n:=by simpa using h
       have rW:m<s.length:=by omega
       have rX:s.drop m=s[m]::s.drop (m+1):=e1 rW;refine bf.mk ⟨b,0,none⟩ m rfl rfl jq ?_;refine aR.mk [.bool s[m]] (Hm (by simp) rW) ?_;refine a3.mk (λek=>?_) (λek=>?_)
       ·refine⟨_,_,.sub (fk _) .refl,?_,rfl,rfl⟩;have:right t=false:=by rw[af,mE,rX];simp only[rV,show(s[m] == decide ((m:Int)=t.bA))=true from ek,cb]
        rw[this]
       ·have gq:IntKind.i64.wrap ((m:Int)+1)=((m+1:Nat):Int):=by rw[wrap_i64 ⟨by omega,by omega⟩];omega
        refine bg.mk _ gq ?_;refine⟨m+1,⟨⟨by omega,?_⟩,by omega⟩,.refl,ej,.cons rfl .nil⟩;rw[mE,rX];simp only[rV,show(s[m] == decide ((m:Int)=t.bA))=false from ek,b5]
      ·have jq:¬ m<t.n:=by simpa using h
       have rX:s.drop m=[]:=ki (by omega);refine⟨_,_,.sub (fk _) .refl,?_,rfl,rfl⟩;rw[af,mE,rX];rfl
 ·refine⟨_,_,.refl,?_,rfl,rfl⟩;have:¬ 0<=t.bA:=by simp at aa;omega
  simp[right,this]
end Go.V
