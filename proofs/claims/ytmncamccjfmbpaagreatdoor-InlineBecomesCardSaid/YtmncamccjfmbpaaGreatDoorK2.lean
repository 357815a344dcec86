/- Part 2 of what the proofs of this seat share: the executor, data in memory, walks.
-/
import Derived.Test.YtmncamccjfmbpaaGreatDoorK1
import Derived.Lib.UnsafeStr
import Derived.Test.YtmncamccjfmbpaaGreatDoorProg
import Derived.KernelRfl
set_option linter.all false
set_option maxRecDepth 100000
namespace Go.V
open Go
def bA:=@List.getD_eq_getElem?_getD
def br:=@List.getElem_mem
def dg:=@List.getElem?_eq_getElem
def bI:=@List.length_map
def ch:=@List.length_append
def ed:=@List.mem_singleton
def c8:=@Nat.zero_add
def iy:=@List.eq_nil_of_length_eq_zero
def ee:=@List.append_nil
def fO:=@List.nil_sublist
def hY:=@List.mem_append_left
def kr:=@List.drop_eq_nil_of_le
def l':=@List.sublist_append_right
def hx:=@List.length_take
def e2:=@Nat.mul_one
def iz:=@List.nil_append
def j6:=@List.flatMap_cons
def ja:=@List.mem_filter
def hy:=@List.map_nil
def rj:=@List.getElem?_append_left
def kQ:=@Bool.or_eq_true
def qg:=@List.mem_append_right
def mT:=@List.ext_getElem
def ss:=@decide_eq_false_iff_not
def rk:=@List.getElem?_eq_none
def qh:=@List.take_succ_cons
def oC:=@List.size_toArray
def st:=@List.mem_of_getElem?
def uE:=@List.getElem_cons_zero
def pu:=@List.filter_cons
def Bt:=@List.take_append_of_le_length
def DG:=@List.set_eq_take_append_cons_drop
def lO:=@Nat.add_mul
def su:=@List.map_toArray
def to:=@Bool.not_eq_true'
def tp:=@List.length_drop
def rl:=@List.take_zero
def pw:=@List.map_set
def oD:=@Nat.one_mul
def xI:=@List.map_replicate
def zd:=@Array.length_toList
def Bu:=@List.getElem?_toArray
def Bv:=@List.length_filter_le
def xJ:=@List.nodup_range
def DH:=@World.putObj_heap_same
def uF:=@Bool.false_or
def Gt:=@Classical.byContradiction
def uG:=@Bool.not_true
def vW:=@List.drop_zero
def Gu:=@List.getElem_cons_succ
def ze:=@List.take_left
def OH:=@Array.eq_empty_of_size_eq_zero
def J6:=@Option.bind_eq_some_iff
def DI:=@List.take_length
def Bw:=@List.take_take
def zf:=@Nat.zero_mul
def Gv:=@List.filter_congr
def Vp:=@Std.Legacy.Range.forIn_eq_forIn_range'
def Gw:=@beq_self_eq_true
def J7:=@Nat.testBit_two_pow
def Gx:=@List.drop_take
def Gy:=@List.drop_drop
def Vq:=@List.drop_length_add_append
def J8:=@Nat.testBit_or
def Vr:=@Lib.run_firstCells_string
variable{soft hz:Bool}{P:Program}{f x y p s:Operand}{M M' M1 Mr:List aD}{K:List aD->Prop}{I' I1:aJ}{op:Op}{ρ:Operand->dA}{C:dC}{other:Prop}{ops:List Oper}{c7 lP aF:dG}{β:Nat->Nat}{a:Option Addr}{w w':World}{Q:Exit->Act->World->Prop}{dst:Option Nat}{v:Value}{lQ:Fr}{du:Array Bool}{A:Array Oper}{ι α:Type}{c g m u e c' uH it size:Nat}{vs xs b8:List Value}{ps:Array Nat}{fg body:Code}{cap cs:Array Value}{aS:Addr}
def DJ:Op->Bool
 | .move _ | .assign _ | .pick .. | .unOp .. | .binOp .. | .load .. | .nilCheck _ | .fieldAddr .. | .field .. | .indexAddr .. | .index .. | .build .. | .makeFunc .. | .slice .. | .extract .. | .convert ..=>true| .call { callee:=.builtin .len,.. }=>true| .call { callee:=.builtin .cap,.. }=>true| .call { callee:=.builtin .max,.. }=>true| .call { callee:=.builtin .min,.. }=>true| .call { callee:=.builtin .unsafeSliceData,.. }=>true| _=>false
def qi:Op->Bool
 | .load ..=>true| _=>false
def Gz(o:Oper)(p:Nat):Bool:=o.after.toList.all λe=>!Region.binds .any e||p.testBit e.on
def qj(ops:List Oper)(p:Nat)(k:Bool):List Nat:=(List.range ops.length).filter λi=>match ops[i]? with
 |some o=>!p.testBit i&&((DJ o.op == k)&&Gz o p)| none=>false
def GA(a5:List Nat)(o:Oper):Nat:=o.after.toList.foldl (λs e=>bif Region.binds .any e then s ||| 2^e.on ||| a5.getD e.on 0 else s) 0
def lg(ops:List Oper):List Nat:=ops.foldl (λa5 o=>a5++[GA a5 o]) []
def OI(P:Nat->Prop):List Nat->Prop
 |[]=>True| [i]=>P i| i::l=>P i/\OI P l
inductive d'(soft:Bool)(foot:List Nat)(P:Program)(f:Nat)(args:List Value)(I:aJ)(M:List aD)(K:Value->aJ->List aD->Prop):Prop
 |mk(post:Value->aJ->List aD->Prop)(ar:Spec P f args I [] post)(k:∀ v I' M',(∀ b o,I b=some o->I' b=some o)->post v I' M'->K v I' (M'++M))| oE (eo Mr:List aD) (post:Value->aJ->List aD->Prop) (a':M.Perm (eo++Mr)) (ar:Spec P f args I eo post) (ny:∀ v I' M',post v I' M'->∀ x∈eo,x∈M') (k:∀ v I' M',(∀ b o,I b=some o->I' b=some o)->post v I' M'->K v I' (M'++Mr))| y1 (post:Value->aJ->List aD->Prop) (ar:Spec P f args I [] post) (k:∀ v I' M',(∀ b o,I b=some o->I' b=some o)->(∀ x∈M'++M,I' x.num=none)->post v I' M'->K v I' (M'++M))| agf (eo Mr:List aD) (post:Value->aJ->List aD->Prop) (a':M.Perm (eo++Mr)) (ar:Spec P f args I eo post) (ny:∀ v I' M',post v I' M'->∀ x∈eo,x∈M') (k:∀ v I' M',(∀ b o,I b=some o->I' b=some o)->(∀ x∈M'++Mr,I' x.num=none)->post v I' M'->K v I' (M'++Mr))| agh (b:Nat) (o:Obj) (eo Mr:List aD) (post:Value->aJ->List aD->Prop) (a':M.Perm (⟨b,o⟩::(eo++Mr))) (aA:b ∉ foot) (ar:Spec P f args (ins I b o) eo post) (ny:∀ v I' M',post v I' M'->∀ x∈eo,x∈M') (k:∀ v I' M',(∀ c p,ins I b o c=some p->I' c=some p)->(∀ x∈M'++Mr,I' x.num=none)->post v I' M'->K v I' (M'++Mr))| Gb (h:l7 I M->d' soft foot P f args I M K)| uI (GB:soft=true) (eo Mr:List aD) (post:Value->aJ->List aD->Prop) (a':M.Perm (eo++Mr)) (ar:Spec P f args I eo post) (k:∀ v I' M',(∀ b o,I b=some o->I' b=some o)->post v I' M'->K v I' (M'++Mr))
def d'.elim{foot:List Nat}{f:Nat}{args:List Value}{I:aJ}{K:Value->aJ->List aD->Prop}(fD:l7 I M)(h:d' soft foot P f args I M K) :
  ∃ (I1:aJ) (eo Mr:List aD) (post:Value->aJ->List aD->Prop),ic foot I M I1 (eo++Mr)/\(∀ b o,I b=some o->I1 b=some o)/\Spec P f args I1 eo post /\
   ∀ v I' M',(∀ b o,I1 b=some o->I' b=some o)->(∀ x∈M'++Mr,I' x.num=none)->post v I' M'->(soft=true\/∀ x∈M,I' x.num=some x.obj\/x∈M'++Mr)/\K v I' (M'++Mr):=by
 have Vs:∀ {eo Mr:List aD} {post:Value->aJ->List aD->Prop} {I':aJ},M.Perm (eo++Mr)->(∀ v I' M',post v I' M'->∀ x∈eo,x∈M')->∀ v M',post v I' M'->∀ x∈M,I' x.num=some x.obj\/x∈M'++Mr:=λa' ny v M' ab x ad=>by
  right
  rcases cB.1 (a'.mem_iff.1 ad)with ad | ad;·exact cB.2 (.inl (ny v _ M' ab x ad))
  ·exact cB.2 (.inr ad)
 induction h with
 |mk post ar k=>exact⟨I,[],M,post,.refl,λ_ _ h=>h,ar,λv I' M' aa _ ab=>⟨.inr λx ad=>.inr (by simp[ad]),k v I' M' aa ab⟩⟩| oE eo Mr post a' ar ny k=>exact⟨I,eo,Mr,post,.perm a' .refl,λ_ _ h=>h,ar,λv I' M' aa _ ab=>⟨.inr (Vs a' ny v M' ab),k v I' M' aa ab⟩⟩| y1 post ar k=>exact⟨I,[],M,post,.refl,λ_ _ h=>h,ar,λv I' M' aa aj ab=>⟨.inr λx ad=>.inr (by simp[ad]),k v I' M' aa aj ab⟩⟩| agf eo Mr post a' ar ny k=>exact⟨I,eo,Mr,post,.perm a' .refl,λ_ _ h=>h,ar,λv I' M' aa aj ab=>⟨.inr (Vs a' ny v M' ab),k v I' M' aa aj ab⟩⟩
 |agh b o eo Mr post a' aA ar ny k=>
  have ag:I b=none:=fD.d ⟨b,o⟩ (a'.mem_iff.2 (.head _));have J9:ins I b o b=some o:=by unfold ins;rw[q5];rfl
  refine⟨ins I b o,eo,Mr,post,.perm a' (.kN rfl aA .refl),λc p an=>?_,ar,λv I' M' aa aj ab=>⟨.inr λx ad=>?_,k v I' M' aa aj ab⟩⟩
  ·unfold ins;by_cases e:c=b
   ·subst e;rw[ag]at an;cases an
   ·rw[hs e];exact an
  ·rcases ec.1 (a'.mem_iff.1 ad)with rfl | ad
   ·exact .inl (aa _ _ J9)
   ·right
    rcases cB.1 ad with ad | ad;·exact cB.2 (.inl (ny v I' M' ab x ad))
    ·exact cB.2 (.inr ad)
 |Gb h aL=>exact aL fD| uI GB eo Mr post a' ar k=>exact⟨I,eo,Mr,post,.perm a' .refl,λ_ _ h=>h,ar,λv I' M' aa _ ab=>⟨.inl GB,k v I' M' aa ab⟩⟩
def J'(ops:List Oper)(o:Oper)(F:Fr)(run skip:Fr->Prop):Prop:=
 match o.guard with
 |none=>run F
 |some (j,b)=>
  match(ops[j]?).bind (·.dst)with
  |none=>False
  |some d=>
   match F d with
   | .lit c=>bif c == b then run F else skip F| .val (.bool c)=>ct c b (run (fZ F d (.lit b))) (skip (fZ F d (.lit !b)))| .val (.tuple _)=>skip F| _=>False
def Vt(gZ p:Nat):Bool:=Nat.beq (p &&& gZ) p
def agi(ops:List Oper)(gZ p:Nat):Bool:=(List.range ops.length).all λq=>!p.testBit q||(gZ.testBit q||match ops[q]? with
 |some o=>!qi o.op| none=>true)
inductive qk(X:cU)(o:Oper)(F:Fr)(C:dC)(I:aJ)(M:List aD)(K:dA->aJ->List aD->Prop):Prop
 |mk (h:∀ β a w Q,cK X β a w F C I M->o.wpIn (g8 X) 0 X.P a w (λbO w'=>∃ v x I' M',bO=a.put o.dst v/\eT β x v/\cK X β a w' F C I' M'/\K x I' M'/\I'=I) Q)
def vX(X:cU)(agj soft:Bool)(o:Oper)(F:Fr)(C:dC)(I:aJ)(M:List aD)(K:gi):Prop:=
 bif agj then gW X o F C I M K else
 match o.op with
 | .call { callee:=.value f,args,.. }=>
  match bE F f,mP F args.toList with
  | .val (.func (.func g) first cap),some vs=>d' soft X.foot X.P g (first.toList++vs++cap.toList) I M λv I' M'=>K (put o.dst (.val v) F) C I' M'
  |_,_=>False
 | .alloc t=>
  match o.dst,X.E t with
  |some d,some i=>bX I M λb=>K (fZ F d (.val (.pointer (some ⟨b,0,none⟩)))) C I (⟨b,.cells i.zero.toArray t (0,0)⟩::M)
  |_,_=>False
 | .buildSlice _ _ _=>gW X o F C I M K| .makeSlice _ _ _=>gW X o F C I M K| .store _ _ _=>bif soft then gW X o F C I M K else False| .call { callee:=.builtin .append,.. }=>bif soft then ∀ G:Fr,(∀ y∈o.op.operands,dk G y=dk F y)->qk X o G C I M λx I' M'=>K (put o.dst x F) C I' M' else False
 | .call { callee:=.builtin .copy,.. }=>bif soft then ∀ G:Fr,(∀ y∈o.op.operands,dk G y=dk F y)->qk X o G C I M λx I' M'=>K (put o.dst x F) C I' M' else False
 |_=>False
def Ka:dA->Nat
 | .ref s _=>s+1| _=>0
def GC(i:Nat)(op:Op)(ρ:Operand->dA)(cf:List (Nat×Nat)):List (Nat×Nat):=match op with
 | .load _ x=>(i,Ka (ρ x))::cf| _=>cf
def Bx(gZ s:Nat):List (Nat×Nat)->Bool
 |[]=>true|(i,t)::cf=>(gZ.testBit i || !Nat.beq s t)&&Bx gZ s cf
def Vu{gZ s i t:Nat}:∀ {cf:List (Nat×Nat)},Bx gZ s cf=true->(i,t)∈cf->gZ.testBit i=true\/t≠s
 |(j,u)::cf,h,hm=>by
  unfold Bx at h;rw[cz,kQ]at h;rcases ec.1 hm with e | hm
  ·cases e;rcases h.1 with aa | aa
   ·exact .inl aa
   ·right
    rintro rfl;simp at aa
  ·exact Vu h.2 hm
def Vv(gZ:Nat)(op:Op)(ρ:Operand->dA)(cf:List (Nat×Nat)):Bool:=match op with
 | .store _ x _=>(match ρ x with
  | .val (.pointer (some _))=>Bx gZ 0 cf| _=>false)
 | .call { callee:=.value _,.. }=>Bx gZ 0 cf| _=>false
def Vw(gZ:Nat)(op:Op)(ρ:Operand->dA)(cf:List (Nat×Nat)):Bool:=match op with
 | .store _ x _=>(match ρ x with
  | .ref s _=>Bx gZ (s+1) cf| _=>false)
 |_=>false
def vY(hz:Bool)(M:List aD):List aD:=bif hz then []else M
def agk{I:aJ}{b:Nat}{o:Obj}(h:ib I (vY hz M) b o):ib I M b o:=by
 cases hz with
 |false=>exact h
 |true=>
  rcases h with h | ⟨x,ad,_⟩;·exact .inl h
  ·cases ad
def Vx{I:aJ}(h:∀ b o,ib I M b o->ib I' M' b o)(bc:∀ b o,I b=some o->I' b=some o):∀ b o,ib I (vY hz M) b o->ib I' (vY hz M') b o:=λb o ag=>by
 cases hz with
 |false=>exact h b o ag
 |true=>
  rcases ag with ag | ⟨x,ad,_⟩;·exact .inl (bc _ _ ag)
  ·cases ad
def agl{I:aJ}(bc:∀ b o,I b=some o->I' b=some o):∀ b o,ib I (vY true M) b o->ib I' (vY true M') b o:=λb o ag=>by
 rcases ag with ag | ⟨x,ad,_⟩
 ·exact .inl (bc _ _ ag)
 ·cases ad
def Vy(X:cU)(hz:Bool)(op:Op)(ρ:Operand->dA)(C:dC)(I:aJ)(M:List aD)(V:dA->Prop)(other:Prop):Prop:=match hz with
 |false=>cG X op ρ C I M V other| true=>cG X op ρ C I [] V other
def agm{X:cU}{I:aJ}{V:dA->Prop}(h:Vy X hz op ρ C I M V other):cG X op ρ C I (vY hz M) V other:=by
 cases hz with
 |false=>exact h| true=>exact h
def agn(ops:List Oper)(hz:Nat->Bool)(gZ p:Nat):Bool:=(List.range ops.length).all λq=>!p.testBit q||(gZ.testBit q||(hz q||match ops[q]? with
 |some o=>!qi o.op| none=>true))
def Vz(op:Op)(ρ:Operand->dA):Bool:=match op with
 | .store _ x _=>(match ρ x with
  | .val (.pointer (some _))=>true| _=>false)
 | .call { callee:=.builtin .append,.. }=>true| .call { callee:=.builtin .copy,.. }=>true| _=>false
def VA(ops:List Oper)(hz:Nat->Bool)(gZ p:Nat)(op:Op)(ρ:Operand->dA):Bool:=agn ops hz gZ p&&Vz op ρ
def px(X:cU)(ops:List Oper)(hz:Nat->Bool):Nat->Nat->List (Nat×Nat)->Fr->dC->aJ->List aD->gi->Prop
 |0,_,_,_,_,_,_,_=>False
 |n+1,p,cf,F,C,I,M,K=>
  match qj ops p true with
  |i::_=>
   (match ops[i]? with
   |some o=>J' ops o F (λF=>Vy X (hz i) o.op (dk F) C I M (λx=>px X ops hz n (p ||| 2^i) (GC i o.op (dk F) cf) (put o.dst x F) C I M K) False) (λF=>px X ops hz n (p ||| 2^i) cf (put o.dst (.val undef) F) C I M K)| none=>False)
  |[]=>
   match qj ops p false with
   |[]=>K F C I M
   |i0::fs=>OI (λi=>match ops[i]? with
     |some o=>J' ops o F (λF=>vX X (Vt ((lg ops).getD i 0) p) (agi ops ((lg ops).getD i 0) p||(Vw ((lg ops).getD i 0) o.op (dk F) cf||(Vv ((lg ops).getD i 0) o.op (dk F) cf||VA ops hz ((lg ops).getD i 0) p o.op (dk F)))) o F C I M λF C I M=>px X ops hz n (p ||| 2^i) cf F C I M K) (λF=>px X ops hz n (p ||| 2^i) cf (put o.dst (.val undef) F) C I M K)| none=>False) (i0::fs)
def looks(ops:List Oper)(o:Oper):List Nat:=o.looksAt ops.toArray
def By(ops:List Oper):Bool:=
 let b:=lg ops
 (List.range ops.length).all λj=>match ops[j]? with
  |none=>true
  |some mU=>
   (mU.after.toList.all λe=>!Region.binds .any e||Nat.blt e.on j) &&
   ((match mU.dst with
    |some d=>!(looks ops mU).contains d| none=>true) &&
   ((List.range ops.length).all (λi=>Nat.beq i j||match ops[i]? with
    |none=>true
    |some gF=>match gF.dst with
     |none=>true| some d=>!(mU.dst == some d)&&(!(looks ops mU).contains d||((b.getD j 0).testBit i||(b.getD i 0).testBit j)))))
def mV(ops:List Oper)(j e:Nat):Prop:=∃ o nz,ops[j]?=some o/\nz∈o.after/\Region.binds .any nz=true/\nz.on=e
inductive py(ops:List Oper):Nat->Nat->Prop
 |one{i j}(h:mV ops j i):py ops i j| trans {i j k} (h:mV ops j k) (bc:py ops i k):py ops i j
def Bz(ops:List Oper)(S:Nat->Prop):Prop:=∀ j e,S j->mV ops j e->S e
def py.mem{S:Nat->Prop}(cO:Bz ops S){i j:Nat}(h:py ops i j)(ai:∀ e,mV ops j e->S e):S i:=by
 induction h with
 |one h=>exact ai _ h| trans h _ aL=>exact aL λe he=>cO _ e (ai _ h) he
def ago{a5:List Nat}{o:Oper}{i:Nat}(h:(GA a5 o).testBit i=true):∃ e∈o.after,Region.binds .any e=true/\(e.on=i\/(a5.getD e.on 0).testBit i=true):=by
 have key:∀ (l:List Edge) (s:Nat),(l.foldl (λs e=>bif Region.binds .any e then s ||| 2^e.on ||| a5.getD e.on 0 else s) s).testBit i=true->s.testBit i=true\/∃ e∈l,Region.binds .any e=true/\(e.on=i\/(a5.getD e.on 0).testBit i=true):=by
  intro l
  induction l with
  |nil=>intro s h;exact .inl h
  |cons e l aL=>
   intro s h;simp only[js]at h;rcases aL _ h with aa | ⟨cX,rm,ab⟩
   ·cases ag:Region.binds .any e with
    |false=>rw[ag]at aa;exact .inl aa
    |true=>
     rw[ag]at aa;simp only[b5,J8,kQ,J7,hV]at aa;rcases aa with(aa | aa) | aa;·exact .inl aa
     ·exact .inr ⟨e,by simp,ag,.inl aa⟩
     ·exact .inr ⟨e,by simp,ag,.inr aa⟩
   ·exact .inr ⟨cX,by simp[rm],ab⟩
 rcases key _ 0 h with aa | ⟨e,he,ab⟩
 ·simp at aa
 ·exact⟨e,by simpa using he,ab⟩
def VB(ops:List Oper):∀ (l:List Oper) (a9:List Oper) (a5:List Nat),ops=a9++l->a5.length=a9.length->(∀ j i,(a5.getD j 0).testBit i=true->py ops i j) -> ∀ j i,((l.foldl (λa5 o=>a5++[GA a5 o]) a5).getD j 0).testBit i=true->py ops i j
 |[],a9,a5,_,_,ma=>ma
 |o::l,a9,a5,vZ,c2,ma=>by
  simp only[js];refine VB ops l (a9++[o]) _ (by simp[vZ]) (by simp[c2]) ?_;intro j i h;by_cases ai:j<a5.length;·exact ma j i (by simpa[bA,rj ai]using h)
  ·by_cases ix:j=a5.length
   ·subst ix;have bc:(GA a5 o).testBit i=true:=by simpa[bA]using h
    obtain⟨e,he,ag,ab⟩:=ago bc;have aH:ops[a5.length]?=some o:=by rw[vZ,c2];simp
    have zg:mV ops a5.length e.on:=⟨o,e,aH,he,ag,rfl⟩;rcases ab with rfl | ab;·exact .one zg
    ·exact .trans zg (ma _ _ ab)
   ·have:(a5++[GA a5 o]).getD j 0=0:=by rw[bA,rk (by simp;omega)];rfl
    rw[this]at h;simp at h
def zh{j i:Nat}(h:((lg ops).getD j 0).testBit i=true):py ops i j:=
 VB ops ops [] [] rfl rfl (λj i h=>by simp at h) j i h
section
variable{X:cU}{C C':dC}{I I':aJ}{M M':List aD}
def xK{ρ jK:Operand->dA}:∀ {xs:List Operand},(∀ y∈xs,jK y=ρ y)->j0 jK xs=j0 ρ xs
 |[],_=>rfl| x::xs,h=>by have aa:=h x (by simp);have ab:=xK (xs:=xs) λy aE=>h y (by simp[aE]);simp only[j0,dy,aa,ab]
def OJ{ρ jK:Operand->dA}:∀ {xs:List (Nat×Operand)},(∀ y∈xs.map (·.2),jK y=ρ y)->th jK xs=th ρ xs
 |[],_=>rfl|(i,x)::xs,h=>by have aa:=h x (by simp);have ab:=OJ (xs:=xs) λy aE=>h y (by simp only[b0,ec];exact .inr aE);simp only[th,dy,aa,ab]
def VC{jK:Operand->dA}{V:dA->Prop}(h:cG X op ρ C I M V False)(jb:∀ y∈op.operands,jK y=ρ y)
  (ay:∀ t x,op=.load t x->(∀ s off,ρ x=.ref s off->C' s=C s)/\((∀ s off,ρ x≠.ref s off)->∀ b o,ib I M b o->ib I' M' b o)):cG X op jK C' I' M' V False:=by
 cases op
 case load t x=>
  obtain⟨an,ae⟩:=ay t x rfl;have aa:=jb x (by simp[Op.operands]);simp only[cG,aa]at h |-;cases aO:X.E t with
  |none=>rw[aO]at h;exact h.elim
  |some i=>
   rw[aO]at h
   try simp only at h |-
   cases ad:ρ x with
   |ref s off=>
    rw[ad]at h
    try simp only at h |-
    rw[an s off ad];exact h
   |val v=>
    rw[ad]at h
    try simp only at h |-
    split at h;·rename_i e;cases e
    ·rename_i a e;cases e;obtain⟨vs,⟨ab,cs,T,al,aj,aI⟩,bB⟩:=h;exact⟨vs,⟨ab,cs,T,al,ae (λs off e=>by rw[ad]at e;cases e) _ _ aj,aI⟩,bB⟩
    ·exact h.elim
   |lit b=>rw[ad]at h;exact h.elim| nu=>rw[ad]at h;exact h.elim
 case build t ps=>
  have aa:=OJ (ρ:=ρ) (jK:=jK) (xs:=ps.toList) λy aE=>jb y (by simpa[Op.operands]using aE);simp only[cG,aa]at h |-;exact h
 case makeFunc fn first captured=>
  have aa:=xK (ρ:=ρ) (jK:=jK) (xs:=first.toList) λy aE=>jb y (by simp only[Op.operands,Array.mem_append];exact .inl (by simpa using aE));have ab:=xK (ρ:=ρ) (jK:=jK) (xs:=captured.toList) λy aE=>jb y (by simp only[Op.operands,Array.mem_append];exact .inr (by simpa using aE));simp only[cG,aa,ab]at h |-;exact h
 case slice t x lo hi mx=>
  have aa:=jb x (by simp[Op.operands]);have ab:lo.map (dy jK)=lo.map (dy ρ):=by
   cases lo with
   |none=>rfl| some y=>have:=jb y (by simp[Op.operands]);simp[dy,this]
  have aj:hi.map (dy jK)=hi.map (dy ρ):=by
   cases hi with
   |none=>rfl| some y=>have:=jb y (by simp[Op.operands]);simp[dy,this]
  have aI:mx.map (dy jK)=mx.map (dy ρ):=by
   cases mx with
   |none=>rfl| some y=>have:=jb y (by simp[Op.operands]);simp[dy,this]
  simp only[cG,ab,aj,aI,dy,aa]at h |-;exact h
 case call c=>
  obtain⟨callee,args,argTypes⟩:=c;cases callee with
  |value f=>exact h| invoke r m=>exact h
  |builtin b=>
   cases b
   case len=>
    have aa:=xK (ρ:=ρ) (jK:=jK) (xs:=args.toList) λy aE=>jb y (by simp[Op.operands,Call.operands];simpa using aE);simp only[cG,aa]at h |-;exact h
   case cap=>
    have aa:=xK (ρ:=ρ) (jK:=jK) (xs:=args.toList) λy aE=>jb y (by simp[Op.operands,Call.operands];simpa using aE);simp only[cG,aa]at h |-;exact h
   case max=>
    have aa:=xK (ρ:=ρ) (jK:=jK) (xs:=args.toList) λy aE=>jb y (by simp[Op.operands,Call.operands];simpa using aE);simp only[cG,aa]at h |-;exact h
   case min=>
    have aa:=xK (ρ:=ρ) (jK:=jK) (xs:=args.toList) λy aE=>jb y (by simp[Op.operands,Call.operands];simpa using aE);simp only[cG,aa]at h |-;exact h
   case unsafeSliceData=>
    have aa:=xK (ρ:=ρ) (jK:=jK) (xs:=args.toList) λy aE=>jb y (by simp[Op.operands,Call.operands];simpa using aE);simp only[cG,aa]at h |-;exact h
   all_goals exact h
 all_goals first
  |exact h|(rename_i x;have aa:=jb x (by simp[Op.operands]);simp only[cG,dy,aa]at h |-;exact h)|(rename_i x y;have aa:=jb x (by simp[Op.operands]);have ab:=jb y (by simp[Op.operands]);simp only[cG,dy,aa,ab]at h |-;exact h)|(rename_i x y z;have aa:=jb x (by simp[Op.operands]);have ab:=jb y (by simp[Op.operands]);have aj:=jb z (by simp[Op.operands]);simp only[cG,dy,aa,ab,aj]at h |-;exact h)|(rename_i x y;have aa:=jb x (by simp[Op.operands]);simp only[cG,dy,aa]at h |-;exact h)|(rename_i x y;have aa:=jb y (by simp[Op.operands]);simp only[cG,dy,aa]at h |-;exact h)|(rename_i x y z;have aa:=jb x (by simp[Op.operands]);have ab:=jb y (by simp[Op.operands]);simp only[cG,dy,aa,ab]at h |-;exact h)|(rename_i x y z;have aa:=jb y (by simp[Op.operands]);have ab:=jb z (by simp[Op.operands]);simp only[cG,dy,aa,ab]at h |-;exact h)|(rename_i o x y z u;have aa:=jb y (by simp[Op.operands]);have ab:=jb z (by simp[Op.operands]);simp only[cG,dy,aa,ab]at h |-;exact h)|(rename_i x y z u;have aa:=jb z (by simp[Op.operands]);have ab:=jb y (by simp[Op.operands]);simp only[cG,dy,aa,ab]at h |-;exact h)
end
section
variable{X:cU}{C:dC}{I:aJ}{M:List aD}
def agp{op:BinOp}{c7:Option dG}{x y:dA}{V:Value->Prop}{O:Prop}(h:lN op c7 x y V O) :
  (∃ r,V r/\∀ rn,lN op c7 x y (λz=>z=r) rn)\/(O/\∀ (OK:Value->Prop) (rn:Prop),rn->lN op c7 x y OK rn):=by
 unfold lN at h;split at h
 ·left
  split at h;·obtain⟨j,ai,⟨r,af,ae⟩⟩:=h;exact⟨_,ae,λrn=>by unfold lN;exact⟨j,ai,⟨r,af,rfl⟩⟩⟩
  ·obtain⟨j,ai,ae⟩:=h;exact⟨_,ae,λrn=>by unfold lN;exact⟨j,ai,rfl⟩⟩
  ·rename_i _ _ k a eZ b _ fq iv;cases ff:IntKind.mQ k eZ with
   |false=>rw[ff]at h;exact h.elim
   |true=>
    rw[ff]at h;simp only[b5]at h;cases op<;>simp only at h
    case add=>obtain⟨r,af,ae⟩:=h;exact⟨_,ae,λrn=>by simp only[lN,ff,b5];exact⟨r,af,rfl⟩⟩
    case sub=>obtain⟨r,af,ae⟩:=h;exact⟨_,ae,λrn=>by simp only[lN,ff,b5];exact⟨r,af,rfl⟩⟩
    case mul=>obtain⟨r,af,ae⟩:=h;exact⟨_,ae,λrn=>by simp only[lN,ff,b5];exact⟨r,af,rfl⟩⟩
    case quo=>obtain⟨az,⟨r,af,ae⟩⟩:=h;exact⟨_,ae,λrn=>by simp only[lN,ff,b5];exact⟨az,⟨r,af,rfl⟩⟩⟩
    case rem=>obtain⟨az,ae⟩:=h;exact⟨_,ae,λrn=>by simp only[lN,ff,b5];first | exact⟨az,rfl⟩ | exact⟨az,trivial⟩⟩
    case shl=>exact(fq rfl).elim
    case shr=>exact(iv rfl).elim
    all_goals exact⟨_,h,λrn=>by simp only[lN,ff,b5];rfl⟩
 ·cases op<;>first
  |exact .inl ⟨_,h,λ_=>rfl⟩| exact .inr ⟨h,λ_ _ aH=>aH⟩
 ·split at h
  ·cases op<;>first
   |exact .inl ⟨_,h,λ_=>rfl⟩| exact .inr ⟨h,λ_ _ aH=>aH⟩
  ·rename_i aB;refine .inr ⟨h,λOK rn aH=>?_⟩;cases c7 with
   |none=>exact aH
   |some i=>
    obtain⟨s,b,z,bL⟩:=i;cases bL<;>first
     |exact aH| exact(aB _ _ _ rfl).elim
 ·rename_i aa ab aj;refine .inr ⟨h,λOK rn aH=>?_⟩;unfold lN;split<;>first
   |exact aH| exact(aa _ _ _ _ rfl rfl).elim| exact(ab _ _ rfl rfl).elim| exact(aj _ _ rfl rfl).elim
def agq{V:dA->Prop}(h:cG X op ρ C I M V False):∃ x,V x/\cG X op ρ C I M (λy=>y=x) False:=by
 cases op
 case move x=>exact⟨_,h,rfl⟩
 case assign x=>exact⟨_,h,rfl⟩
 case pick c p q=>
  simp only[cG]at h |-;split at h;·exact⟨_,h,rfl⟩
  ·exact⟨_,h,rfl⟩
  ·exact h.elim
 case unOp op t x=>
  simp only[cG]at h |-;split at h;·exact⟨_,h,rfl⟩
  ·exact⟨_,h,rfl⟩
  ·obtain⟨r,af,ae⟩:=h;exact⟨_,ae,⟨r,af,rfl⟩⟩
  ·exact h.elim
 case binOp op t x y ty=>
  simp only[cG]at h |-;rcases agp h with⟨r,aa,ab⟩ | ⟨⟨mR,e0,r,aC,aR,af,ae⟩ | aa,ab⟩
  ·refine⟨_,aa,?_⟩;have:(λv=>dA.val v=dA.val r)=(λz=>z=r):=by funext v;simp
   rw[this];exact ab _
  ·exact⟨_,ae,ab _ _ (.mk mR e0 r aC aR af rfl)⟩
  ·exact aa.elim
 case load t x=>
  simp only[cG]at h |-;split at h
  ·split at h
   ·split at h
    ·rename_i i hi _ s off ar _ cs an;cases bm:Nat.ble (off+i.size) cs.length with
     |false=>rw[bm]at h;exact h.elim| true=>rw[bm]at h;exact⟨_,h,rfl⟩
    ·exact h.elim
   ·obtain⟨vs,af,ae⟩:=h;exact⟨_,ae,⟨vs,af,rfl⟩⟩
   ·exact h.elim
  ·exact h.elim
 case nilCheck x=>
  simp only[cG]at h |-;split at h;·exact⟨_,h,rfl⟩
  ·exact⟨_,h,rfl⟩
  ·exact h.elim
 case fieldAddr t x i=>
  simp only[cG]at h |-;split at h
  ·split at h
   ·split at h
    ·rename_i hj s o' km ad;cases bb:Nat.beq hj.size 0 with
     |true=>rw[bb]at h;exact h.elim| false=>rw[bb]at h;exact⟨_,h,rfl⟩
    ·rename_i hj s km ad;cases bb:Nat.beq hj.size 0 with
     |true=>rw[bb]at h;exact h.elim| false=>rw[bb]at h;exact⟨_,h,rfl⟩
    ·exact h.elim
   ·exact h.elim
  ·exact h.elim
 case field t x i=>
  simp only[cG]at h |-;split at h
  ·split at h
   ·split at h
    ·rename_i sz hH z cQ cs av ad _ fp off q8 _ hj km;cases bm:Nat.ble (off+hj.size) cs.size with
     |false=>rw[bm]at h;exact h.elim| true=>rw[bm]at h;exact⟨_,h,rfl⟩
    ·exact h.elim
   ·exact h.elim
  ·exact h.elim
 case indexAddr t x i=>
  simp only[cG]at h |-;split at h
  ·split at h
   ·obtain⟨aS,j,aa,ab,aj,ae⟩:=h;exact⟨_,ae,⟨aS,j,aa,ab,aj,rfl⟩⟩
   ·exact h.elim
  ·split at h
   ·obtain⟨j,ab,aj,ae⟩:=h;exact⟨_,ae,⟨j,ab,aj,rfl⟩⟩
   ·obtain⟨j,ab,aj,ae⟩:=h;exact⟨_,ae,⟨j,ab,aj,rfl⟩⟩
   ·exact h.elim
  ·exact h.elim
 case index t x i=>
  simp only[cG]at h |-;split at h;·obtain⟨j,ab,aj,ae⟩:=h;exact⟨_,ae,⟨j,ab,aj,rfl⟩⟩
  ·split at h
   ·rename_i n e cs gh k av ad hi _ aF ht;cases bb:Nat.beq (n*aF.size) cs.size with
    |false=>rw[bb]at h;exact h.elim| true=>rw[bb]at h;obtain⟨j,ab,aj,ae⟩:=h;exact⟨_,ae,⟨j,ab,aj,rfl⟩⟩
   ·exact h.elim
  ·exact h.elim
 case build t ps=>
  simp only[cG]at h |-;split at h
  ·split at h
   ·rename_i i vs av iL _ cQ nZ;cases aC:Dy X.E cQ with
    |false=>rw[aC]at h;exact h.elim
    |true=>
     rw[aC]at h;simp only[b5]at h |-;split at h;·exact⟨_,h,rfl⟩
     ·exact h.elim
   ·split at h
    ·split at h
     ·exact⟨_,h,rfl⟩
     ·exact h.elim
    ·exact h.elim
   ·exact h.elim
  ·exact h.elim
 case makeFunc fn first captured=>
  simp only[cG]at h |-;split at h;·exact⟨_,h,rfl⟩
  ·exact h.elim
 case slice t x lo hi mx=>
  simp only[cG]at h |-;split at h
  ·split at h
   ·exact⟨_,h,rfl⟩
   ·obtain⟨l,m,aa,ab,aj,aI,ae⟩:=h;exact⟨_,ae,⟨l,m,aa,ab,aj,aI,rfl⟩⟩
   ·obtain⟨l,m,aa,ab,aj,aI,ae⟩:=h;exact⟨_,ae,⟨l,m,aa,ab,aj,aI,rfl⟩⟩
   ·obtain⟨l,m,aa,ab,aj,aI,ae⟩:=h;exact⟨_,ae,⟨l,m,aa,ab,aj,aI,rfl⟩⟩
   ·exact h.elim
  ·split at h
   ·exact⟨_,h,rfl⟩
   ·obtain⟨l,m,aa,ab,aj,aI,ae⟩:=h;exact⟨_,ae,⟨l,m,aa,ab,aj,aI,rfl⟩⟩
   ·obtain⟨l,m,aa,ab,aj,aI,ae⟩:=h;exact⟨_,ae,⟨l,m,aa,ab,aj,aI,rfl⟩⟩
   ·obtain⟨l,m,aa,ab,aj,aI,ae⟩:=h;exact⟨_,ae,⟨l,m,aa,ab,aj,aI,rfl⟩⟩
   ·exact h.elim
  ·split at h
   ·obtain⟨l,m,aa,ab,aj,aI,ae⟩:=h;exact⟨_,ae,⟨l,m,aa,ab,aj,aI,rfl⟩⟩
   ·exact h.elim
  ·exact h.elim
 case extract x i=>
  simp only[cG]at h |-;split at h
  ·split at h
   ·exact⟨_,h,rfl⟩
   ·exact h.elim
  ·exact h.elim
 case convert s d x=>
  simp only[cG]at h |-;split at h;·obtain⟨r,af,ae⟩:=h;exact⟨_,ae,⟨r,af,rfl⟩⟩
  ·exact h.elim
 case call c=>
  obtain⟨callee,args,argTypes⟩:=c;cases callee with
  |value f=>exact h.elim| invoke r m=>exact h.elim
  |builtin b=>
   cases b
   case len=>
    simp only[cG]at h |-;split at h
    ·split at h
     ·exact⟨_,h,rfl⟩
     ·exact⟨_,h,rfl⟩
     ·exact⟨_,h,rfl⟩
     ·exact h.elim
    ·exact h.elim
   case cap=>
    simp only[cG]at h |-;split at h
    ·split at h
     ·exact⟨_,h,rfl⟩
     ·exact h.elim
    ·exact h.elim
   case max=>
    simp only[cG]at h |-;split at h;·exact⟨_,h,rfl⟩
    ·exact h.elim
   case min=>
    simp only[cG]at h |-;split at h;·exact⟨_,h,rfl⟩
    ·exact h.elim
   case unsafeSliceData=>
    simp only[cG]at h |-;split at h;·exact⟨_,h,rfl⟩
    ·obtain⟨aa,ab⟩:=h;exact⟨_,ab,⟨aa,rfl⟩⟩
    ·exact h.elim
   all_goals exact h.elim
 all_goals exact h.elim
end
def ib.mono{I:aJ}{b:Nat}{o:Obj}(h:ib I M b o)(bw:∀ b o,I b=some o->I' b=some o)(a':∀ x∈M,x∈M'):ib I' M' b o:=by
 rcases h with h | ⟨x,ad,aa,ab⟩
 ·exact .inl (bw _ _ h)
 ·exact .inr ⟨x,a' x ad,aa,ab⟩
def ib.move{I:aJ}{b:Nat}{o:Obj}(h:ib I M b o)(bw:∀ b o,I b=some o->I' b=some o)(a':∀ x∈M,I' x.num=some x.obj\/x∈M'):ib I' M' b o:=by
 rcases h with h | ⟨x,ad,rfl,rfl⟩
 ·exact .inl (bw _ _ h)
 ·rcases a' x ad with h | h
  ·exact .inl h
  ·exact .inr ⟨x,h,rfl,rfl⟩
def VD(F:Fr)(op:Op)(C C':dC)(I I':aJ)(M M':List aD):Prop:=(∀ t x y s off,op=.store t x y->dk F x=.ref s off->((∀ b3,b3≠s->C' b3=C b3)/\∀ b o,I b=some o->I' b=some o)/\∀ b o,ib I M b o->ib I' M' b o)/\(∀ t x y aS,op=.store t x y->dk F x=.val (.pointer (some aS))->C'=C/\∀ b o,I b=some o->I' b=some o)/\((∀ t x y,op≠.store t x y)->C'=C/\∀ b o,I b=some o->I' b=some o)
def agr(X:cU)(β:Nat->Nat)(G F:Fr)(C:dC)(I:aJ)(M:List aD)(ags:Bool)(op:Op)(dst:Option Nat)(a:Act)(K:gi)(bO:Act)(w':World):Prop:=
 ∃ v x C' I' M',bO=a.put dst v/\eT β x v/\cK X β a w' G C' I' M'/\K (put dst x F) C' I' M'/\((ags=true/\VD F op C C' I I' M M')\/(C'=C/\(∀ b o,I b=some o->I' b=some o)/\∀ b o,ib I M b o->ib I' M' b o))
def agt{X:cU}{a:Act}{F G:Fr}{I:aJ}{o:Oper}{K:gi}(aO:cT X.P X.E)
  (h:cK X β a w G C I M) (jc:∀ y∈o.op.operands,dk G y=dk F y) (ah:vX X false soft o F C I M K):o.wpIn (g8 X) 0 X.P a w (agr X β G F C I M soft o.op o.dst a K) Q:=by
 obtain⟨dst,op,ty,pos,after,guard⟩:=o;have aA:=h.al;have oF:∀ {y:Operand} {v:Value},y∈op.operands->bE F y=.val v->a.eval y=v:=fun {y v} aE he=>dd aA (by simp only[bE,dy,jc y aE];exact he);cases op
 case alloc t=>
  simp only[vX,b']at ah;split at ah
  ·rename_i d i hi;obtain⟨z,bb,xC⟩:=(aO _ _ hi).Gd w;have DC:z.cells=i.zero.toArray:=by rw[<-xC]
   obtain⟨ah⟩:=ah;have ae:=ah w.heap.size h.holds.sq h.holds.q6;refine iY (by simp) (v:=.pointer (some ⟨w.heap.size,0,none⟩)) (w':=w.alloc (.cells i.zero.toArray t (0,0))) ?_ ⟨_,.val _,_,_,_,rfl,rfl,h.nY _,ae,.inr ⟨rfl,λ_ _ h=>h,λb o ag=>ag.mono (λ_ _ h=>h) (λx ad=>by simp[ad])⟩⟩;simp[execOp,Instr.alloc,newVar,newRow,bb,DC,Ba]
  ·exact ah.elim
 case store t x y=>
  simp only[vX,b']at ah;cases soft with
  |false=>exact ah.elim
  |true=>
   simp only[b5,gW]at ah;split at ah
   ·rename_i i v hi aE;have tl:=oF (by simp[Op.operands]) aE;split at ah
    ·rename_i s off ad;have kn:=Be aA ((jc x (by simp[Op.operands])).trans ad);split at ah
     ·rename_i cs ar;cases bm:(Nat.ble (off+i.size) cs.length&&(Nat.beq v.cells.size i.size&&gv v.cells.toList))with
      |false=>rw[bm]at ah;exact ah.elim
      |true=>
       rw[bm]at ah;simp only[cz]at bm;obtain⟨bm,df,oz⟩:=bm;have kP:=bJ bm;have Bm:=dP df;obtain⟨T,bu⟩:=(h.cf s cs ar).dU;have:=JX (aO _ _ hi) (a:=⟨β s,off,none⟩) (v:=v) rfl bu Bm (by simp;omega) oz;refine Dz (by simp) (w':=w.setRow (β s) (cm cs off v.cells.toList).toArray) ?_ ⟨undef,.nu,_,_,_,rfl,trivial,h.U7 ar (cm cs off v.cells.toList),ah,.inl ⟨rfl,λbq lb GD b3 JV aG a7=>(by
        cases aG;rw[ad]at a7;cases a7;refine⟨⟨λs2 bt=>?_,λ_ _ h=>h⟩,λ_ _ h=>h⟩;unfold jt;rw[hs bt];rfl),λbq lb GD zi aG a7=>(by
        cases aG;rw[ad]at a7;cases a7),λrp=>absurd rfl (rp _ _ _)⟩⟩
       simp only[execOp,Instr.storeAt,kn,tl,Instr.sureAddr,ck,c3,bV];simp only[Ok]at this;rw[this];rfl
     ·exact ah.elim
    ·rename_i aS ad;have kn:=uA aA ((jc x (by simp[Op.operands])).trans ad);cases df:Nat.beq v.cells.size i.size with
     |false=>rw[df]at ah;exact ah.elim| true=>rw[df]at ah;obtain⟨a9,post,cs,T,a',dL,ag,oz,ae⟩:=ah;have Bm:=dP df;have au:w.heap[aS.block]?=some (.cells cs T (0,0)):=h.holds.m ⟨aS.block,.cells cs T (0,0)⟩ (by rw[a'];simp);have:=JX (aO _ _ hi) (v:=v) dL au Bm ag oz;refine Dz (by simp) (w':=w.setRow aS.block (cm cs.toList aS.off v.cells.toList).toArray) ?_ ⟨undef,.nu,_,_,_,rfl,trivial,h.xA a',ae,.inl ⟨rfl,λbq lb GD b3 JV aG a7=>(by cases aG;rw[ad]at a7;cases a7),λ_ _ _ _ _ _=>⟨rfl,λ_ _ h=>h⟩,λrp=>absurd rfl (rp _ _ _)⟩⟩;simp only[execOp,Instr.storeAt,kn,tl,Instr.sureAddr,ck,c3,bV];rw[this];rfl
    ·exact ah.elim
   ·exact ah.elim
 case buildSlice t len parts=>
  simp only[vX,b',gW]at ah;have agu:Bd G parts.toList=Bd F parts.toList:=OJ λy aE=>jc y (by simpa[Op.operands]using aE);rw[<-agu]at ah;split at ah
  ·rename_i sz hH z e vs av iL;have hu:=(aO _ _ av).slice;have aC:=JT aA iL;have y5:(parts.map λ(i,x)=>(i,a.eval x)).toList=vs:=by simpa using aC
   split at ah
   ·rename_i aF ht;cases bb:(Nat.ble (len*aF.size) 16777216&&Nat.blt 0 (len*aF.size))with
    |false=>
     rw[bb]at ah;simp only[b']at ah;split at ah
     ·rename_i afY;obtain⟨ah⟩:=ah;have ae:=ah w.heap.size h.holds.sq h.holds.q6;refine iY (by simp) (v:=.slice (some ⟨w.heap.size,0,none⟩) 0 0) (w':=w.alloc (.cells #[] e (0,0))) ?_ ⟨_,.val _,_,_,_,rfl,rfl,h.nY _,ae,.inr ⟨rfl,λ_ _ h=>h,λb o ag=>ag.mono (λ_ _ h=>h) (λx ad=>by simp[ad])⟩⟩;simp only[execOp,Instr.buildSlice,ck,bV,run_underlying hu,(aO _ _ ht).run_sizeOf,y5];have db:∀ f:Nat->Value,Array.map f (Array.range 0)=#[]:=λf=>by apply Array.ext<;>simp
      simp[newRow,Ba,Instr.fill,db]
     ·exact ah.elim
    |true=>
     rw[bb]at ah;simp only[b5]at ah;rw[cz]at bb;have bm:=bJ bb.1;have oA:0<len*aF.size:=by simpa using bb.2
     split at ah;·rename_i cells Bh;obtain⟨tm,Bn,xC⟩:=(aO _ _ ht).Gd w;obtain⟨ah⟩:=ah;have ae:=ah w.heap.size h.holds.sq h.holds.q6;refine iY (by simp) (v:=.slice (some ⟨w.heap.size,0,none⟩) len len) (w':=w.alloc (.cells cells.toArray e (0,0))) ?_ ⟨_,.val _,_,_,_,rfl,rfl,h.nY _,ae,.inr ⟨rfl,λ_ _ h=>h,λb o ag=>ag.mono (λ_ _ h=>h) (λx ad=>by simp[ad])⟩⟩;have vS:=fill_eq _ _ _ _ Bh;simp only[execOp,Instr.buildSlice,ck,bV,run_underlying hu,(aO _ _ ht).run_sizeOf];rw[bR (by omega)];simp only[bR (show ¬ len*aF.size=0 by omega),ck,Bn,bV,c3,y5,Ve tm aF.zero xC,vS];simp[newRow,Ba]
     ·exact ah.elim
   ·exact ah.elim
  ·exact ah.elim
 case makeSlice t l c=>
  simp only[vX,b',gW]at ah;split at ah
  ·rename_i sz hH z e gD ev dp c' av ay an;have hu:=(aO _ _ av).slice;have po:=oF (by simp[Op.operands]) ay;have zj:=oF (by simp[Op.operands]) an;split at ah
   ·rename_i aF ht;obtain⟨n,m,rfl,rfl,hv,ag,hm,⟨ah⟩⟩:=ah;have ae:=ah w.heap.size h.holds.sq h.holds.q6;obtain⟨inf,tm,fr,iN,iw,kp,Bo⟩:=(aO _ _ ht).inf;refine iY (by simp) (v:=.slice (some ⟨w.heap.size,0,none⟩) n m) (w':=w.alloc (.cells (rowOf aF.zero (m*aF.size)).toArray e (0,0))) ?_ ⟨_,.val _,_,_,_,rfl,rfl,h.nY _,ae,.inr ⟨rfl,λ_ _ h=>h,λb o ag=>ag.mono (λ_ _ h=>h) (λx ad=>by simp[ad])⟩⟩;have gY:((aF.bytes:Nat):Int)*(m:Int)<=281474976710656:=by
     have ab:((aF.bytes*m:Nat):Int)<=281474976710656:=by omega
     simpa using ab
    have:=run_make (P:=X.P) w t e inf tm hu fr kp gD dp (n:Int) (m:Int) (by omega) (by omega) (by rw[iw];exact gY) (by omega);simp only[execOp,po,zj,ck,this,bV,c3,g6];have aG:madeCells tm.cells (m*inf.size)=(rowOf aF.zero (m*aF.size)).toArray:=by rw[iN,<-Bo];simp[vP]
    rw[aG]
   ·exact ah.elim
  ·exact ah.elim
 case call c=>
  obtain⟨callee,args,argTypes⟩:=c;cases callee with
  |value f=>
   simp only[vX,b']at ah;split at ah
   ·rename_i g first cap vs nv iL
    have agv:mP G args.toList=some vs:=by rw[<-iL];exact xK λy aE=>jc y (by simp only[Op.operands,Call.operands];simp;right;simpa using aE)
    have agw:=oF (by simp[Op.operands,Call.operands]) nv;obtain⟨I1,eo,Mr,post,agx,cH,ar,ae⟩:=ah.elim ⟨h.holds.d,h.holds.cd⟩;have aG:=ti aA agv;have ej:args.map a.eval=vs.toArray:=by apply gV;simpa using aG
    have fa:∀ {n:Next} {w':World},(callFunc g (first.toList++vs++cap.toList).toArray).run X.P w=.ok n w'->(execOp a.eval ⟨dst,.call { callee:=.value f,args,argTypes },ty,pos,after,guard⟩).run X.P w=.ok n w':=λaf=>by simp only[execOp,resolve,agw,Deferred.ofValue,ck,c3,bV,ej,invoke];rw[show first++vs.toArray++cap=(first.toList++vs++cap.toList).toArray from by apply gV;simp];exact af
    have Kb:∀ {I':aJ} {M':List aD},(∀ b o,I b=some o->I' b=some o)->(soft=true\/∀ x∈M,I' x.num=some x.obj\/x∈M')->(soft=true/\VD F (.call { callee:=.value f,args,argTypes }) C C I I' M M')\/(C=C/\(∀ b o,I b=some o->I' b=some o)/\∀ b o,ib I M b o->ib I' M' b o):=λaa ab=>by
     rcases ab with ab | ab;·exact .inl ⟨ab,⟨λt x y s off e _=>(by cases e),λt x y aS e _=>(by cases e),λ_=>⟨rfl,aa⟩⟩⟩
     ·exact .inr ⟨rfl,aa,λb o ag=>ag.move aa ab⟩
    rcases h.call (KC:=λv I' M'=>(∀ b o,I b=some o->I' b=some o)/\(soft=true\/∀ x∈M,I' x.num=some x.obj\/x∈M')/\K (Go.V.put dst (.val v) F) C I' M') (.Dx I1 eo Mr post agx ar λv I' M' bm ak aC=>⟨λb o ag=>bm _ _ (cH _ _ ag),(ae v I' M' bm ak aC).1,(ae v I' M' bm ak aC).2⟩)with⟨qe,Bp⟩ | ⟨v,w',I',M',af,⟨aa,ab,ae⟩,eY⟩;·refine Vd (by simp) (f:=g) (args:=(first.toList++vs++cap.toList).toArray) (fa (qe _ _)) ?_;refine Bp.mono ?_;rintro e w'⟨v,I',M',rfl,⟨aa,ab,ae⟩,af⟩;exact⟨v,rfl,v,.val v,C,I',M',rfl,rfl,af,ae,Kb aa ab⟩
    ·exact iY (by simp) (fa af) ⟨v,.val v,C,I',M',rfl,rfl,eY,ae,Kb aa ab⟩
   ·exact ah.elim
  |invoke r m=>exact ah.elim
  |builtin b=>
   cases b
   case append=>
    simp only[vX,b']at ah;cases soft with
    |false=>exact ah.elim| true=>simp only[b5]at ah;obtain⟨ah⟩:=ah G jc;refine te (λbO w'=>?_) (ah β a w Q h);rintro⟨v,x,I',M',aa,ab,aj,aI,OL⟩;exact⟨v,x,C,I',M',aa,ab,aj,aI,.inl ⟨rfl,⟨λt x y s off e _=>(by cases e),λt x y aS e _=>(by cases e),λ_=>⟨rfl,λb o h=>by rw[OL];exact h⟩⟩⟩⟩
   case copy=>
    simp only[vX,b']at ah;cases soft with
    |false=>exact ah.elim| true=>simp only[b5]at ah;obtain⟨ah⟩:=ah G jc;refine te (λbO w'=>?_) (ah β a w Q h);rintro⟨v,x,I',M',aa,ab,aj,aI,OL⟩;exact⟨v,x,C,I',M',aa,ab,aj,aI,.inl ⟨rfl,⟨λt x y s off e _=>(by cases e),λt x y aS e _=>(by cases e),λ_=>⟨rfl,λb o h=>by rw[OL];exact h⟩⟩⟩⟩
   all_goals exact ah.elim
 all_goals exact ah.elim
def tq(x y:dA):Prop:=∀ β u,eT β x u->eT β y u
def tq.refl(x:dA):tq x x:=λ_ _ h=>h
def tq.trans{x y z:dA}(h:tq x y)(bc:tq y z):tq x z:=fun β u hu=>bc β u (h β u hu)
structure v0(ops:List Oper):Prop where
 lt:∀ j e,mV ops j e->e<j
 own:∀ (j:Nat) (o:Oper) (d:Nat),ops[j]?=some o->o.dst=some d->d ∉ looks ops o
 OM:∀ (i j:Nat) (gF mU:Oper) (d:Nat),i≠j->ops[i]?=some gF->ops[j]?=some mU->gF.dst=some d->mU.dst≠some d
 ord:∀ (i j:Nat) (gF mU:Oper) (d:Nat),i≠j->ops[i]?=some gF->ops[j]?=some mU->gF.dst=some d->d∈looks ops mU->py ops i j\/py ops j i
def VE(h:By ops=true):v0 ops:=by
 have key:∀ (j:Nat) (mU:Oper),ops[j]?=some mU->_:=λj mU ai=>by have aX:j<ops.length:=(ia.1 ai).1;have aa:=fy.1 h j (g7.2 aX);simp only[ai,cz]at aa;exact aa
 refine⟨?_,?_,?_,?_⟩
 ·rintro j e⟨o,nz,aH,rq,ag,rfl⟩;have aa:=fy.1 (key j o aH).1 nz (by simpa using rq);rw[ag]at aa;simpa using aa
 ·intro j o d aH ak;have aa:=(key j o aH).2.1;rw[ak]at aa;simpa using aa
 ·intro i j gF mU d bt hi ai ak fz;have aX:i<ops.length:=(ia.1 hi).1;have aa:=fy.1 (key j mU ai).2.2 i (g7.2 aX);rw[hs bt]at aa;simp only[hi,ak,uF,cz]at aa;rw[fz]at aa;simp at aa
 ·intro i j gF mU d bt hi ai ak ay;have aX:i<ops.length:=(ia.1 hi).1;have aa:=fy.1 (key j mU ai).2.2 i (g7.2 aX);rw[hs bt]at aa;simp only[hi,ak,uF,cz,kQ]at aa;rcases aa.2 with ab | ab | ab
  ·have:(looks ops mU).contains d=true:=by simpa using ay
   rw[this]at ab;cases ab
  ·exact .inl (zh ab)
  ·exact .inr (zh ab)
def jd(ops:List Oper)(i:Nat):Option Nat:=(ops[i]?).bind (·.dst)
def kR(L:Nat->Prop)(p i:Nat):Prop:=p.testBit i=true/\¬ L i
def zk(ops:List Oper)(o:Oper)(F:Fr):Prop:=match o.guard with
 |none=>True| some (j,b)=>∃ d,jd ops j=some d/\F d=.lit b
def Kc(ops:List Oper)(o:Oper)(F:Fr):Prop:=∃ j b d,o.guard=some (j,b)/\jd ops j=some d/\(F d=.lit (!b)\/∃ vs,F d=.val (.tuple vs))
def ON{o:Oper}{j d:Nat}{b:Bool}(au:o.guard=some (j,b))(ak:jd ops j=some d):d∈looks ops o:=by unfold looks Oper.looksAt;refine qg _ ?_;rw[au];simp only[Option.mem_toList];simpa[jd]using ak
def OO{o:Oper}{t:Nat}(h:Operand.tmp t∈o.op.operands):t∈looks ops o:=
 hY _ (List.mem_filterMap.2 ⟨.tmp t,by simpa using h,rfl⟩)
def VF{o:Oper}{F:Fr}{a:Act}(h:zk ops o F)(bG:∀ t∈looks ops o,eT β (F t) (a.tmps.getD t undef)):Region.wanted o (yielded ops.toArray a.tmps)=true:=by
 unfold zk at h;unfold Region.wanted;cases au:o.guard with
 |none=>rfl| some Gi=>obtain⟨j,b⟩:=Gi;rw[au]at h;obtain⟨d,ak,ay⟩:=h;have aa:=bG d (ON au ak);rw[ay]at aa;have aE:=Gh (ops:=ops.toArray) (j:=j) (d:=d) (by simpa[jd]using ak) a.tmps;simp[aE,DE aa]
def VG{o:Oper}{F:Fr}{a:Act}(h:Kc ops o F)(bG:∀ t∈looks ops o,eT β (F t) (a.tmps.getD t undef)):Region.wanted o (yielded ops.toArray a.tmps)=false:=by
 obtain⟨j,b,d,au,ak,ay⟩:=h;unfold Region.wanted;have aa:=bG d (ON au ak);have aE:=Gh (ops:=ops.toArray) (j:=j) (d:=d) (by simpa[jd]using ak) a.tmps;rw[au];rcases ay with ay | ⟨vs,ay⟩
 ·rw[ay]at aa;simp[aE,DE aa]
 ·rw[ay]at aa;have uC:yielded ops.toArray a.tmps j=none:=by
   rw[aE];cases kq:a.tmps[d]? with
   |none=>rfl| some v=>simp only[eT,pi,kq,kk]at aa;subst aa;rfl
  simp[uC]
def VH{o:Oper}{F:Fr}{run skip:Fr->Prop}(h:J' ops o F run skip):∃ lQ,(∀ t,tq (F t) (lQ t))/\((zk ops o lQ/\run lQ)\/(Kc ops o lQ/\skip lQ)):=by
 unfold J' at h;cases au:o.guard with
 |none=>rw[au]at h;exact⟨F,λt=>.refl _,.inl ⟨by simp[zk,au],h⟩⟩
 |some Gi=>
  obtain⟨j,b⟩:=Gi;rw[au]at h;simp only at h;split at h;·exact h.elim
  ·rename_i d ak;have fz:jd ops j=some d:=ak;split at h
   ·rename_i c an;refine⟨F,λt=>.refl _,?_⟩;cases jI:(c == b)with
    |true=>
     rw[jI]at h;have jI:c=b:=by simpa using jI
     subst jI;exact .inl ⟨by simp only[zk,au];exact⟨d,fz,an⟩,h⟩
    |false=>
     rw[jI]at h;have Kd:c=!b:=by cases c<;>cases b<;>simp_all
     subst Kd;exact .inr ⟨⟨j,b,d,au,fz,.inl an⟩,h⟩
   ·rename_i c an;obtain⟨aa,ab⟩:=h;have hz:∀ x,c=x->∀ t,tq (F t) (fZ F d (.lit x) t):=λx ad t=>by
     unfold fZ;by_cases e:t=d;·subst e;subst ad;simp only[q5,b5,an];exact λ_ _ h=>h
     ·simp only[hs e,b'];exact .refl _
    have self:∀ x,fZ F d (.lit x) d=.lit x:=λx=>by simp[fZ]
    by_cases jI:c=b;·exact⟨_,hz b jI,.inl ⟨by simp only[zk,au];exact⟨d,fz,self b⟩,aa jI⟩⟩
    ·have Kd:c=!b:=by cases c<;>cases b<;>simp_all
     exact⟨_,hz _ Kd,.inr ⟨⟨j,b,d,au,fz,.inl (self _)⟩,ab Kd⟩⟩
   ·rename_i vs an;exact⟨F,λt=>.refl _,.inr ⟨⟨j,b,d,au,fz,.inr ⟨vs,an⟩⟩,h⟩⟩
   ·exact h.elim
structure agy(X:cU)(ops:List Oper)(im':Nat->Bool)(L:Nat->Prop)(p:Nat)(cf:List (Nat×Nat))(β:Nat->Nat)(a:Act)(F:Fr)(C:dC)(I:aJ)(M:List aD)(hA:Nat->dA)(gQ:Nat->Fr)(q:Nat)(o:Oper):Prop where
 quiet:DJ o.op=true
 hz:∀ d,o.dst=some d->tq (hA q) (F d)
 b:∀ t∈looks ops o,∀ i,kR L p i->py ops i q->jd ops i=some t->tq (hA i) (gQ q t)
 a:∀ t∈looks ops o,(∀ i,kR L p i->py ops i q->jd ops i≠some t)->eT β (gQ q t) (a.tmps.getD t undef)
 r:(zk ops o (gQ q)/\cG X o.op (dk (gQ q)) C I (vY (im' q) M) (λx=>x=hA q) False/\∀ t x,o.op=.load t x->(q,Ka (dk (gQ q) x))∈cf)\/(Kc ops o (gQ q)/\hA q=.val undef)
structure Inv(X:cU)(ops:List Oper)(im':Nat->Bool)(L:Nat->Prop)(β:Nat->Nat)(a:Act)(w:World)(F:Fr)(C:dC)(I:aJ)(M:List aD)(p:Nat)(cf:List (Nat×Nat))(hA:Nat->dA)(gQ:Nat->Fr):Prop where
 rel:cK X β a w (λ_=>.nu) C I M
 sub:∀ i,L i->p.testBit i=true
 v3:Bz ops L
 rr:Bz ops (λi=>p.testBit i=true)
 T:∀ t,(∀ i,kR L p i->jd ops i≠some t)->eT β (F t) (a.tmps.getD t undef)
 zl:∀ q,kR L p q->∃ o,ops[q]?=some o/\agy X ops im' L p cf β a F C I M hA gQ q o
def mW{p q i:Nat}:(p ||| 2^q).testBit i=true ↔ p.testBit i=true\/i=q:=by simp only[J8,kQ,J7,hV];exact⟨λh=>h.imp id Eq.symm,λh=>h.imp id Eq.symm⟩
section
variable{X:cU}{ops:List Oper}{im':Nat->Bool}{L:Nat->Prop}{β:Nat->Nat}{a:Act}{w:World}{F:Fr}{C:dC}{I:aJ}{M:List aD}{p:Nat}{cf:List (Nat×Nat)}{hA:Nat->dA}{gQ:Nat->Fr}{q:Nat}{o:Oper}
def GF(h:ops[q]?=some o):jd ops q=o.dst:=by simp[jd,h]
def GG{i d:Nat}(h:jd ops i=some d):∃ gF,ops[i]?=some gF/\gF.dst=some d:=by unfold jd at h;exact J6.1 h
def Inv.ahead(cW:v0 ops)(VI:Bz ops (λi=>p.testBit i=true))(aR:ops[q]?=some o)(lh:p.testBit q=false){i t:Nat}(hi:p.testBit i=true)(av:t∈looks ops o)(ak:jd ops i=some t):py ops i q:=by
 obtain⟨gF,ig,ql⟩:=GG ak;have bt:i≠q:=λe=>by rw[e,lh]at hi;cases hi
 rcases cW.ord i q gF o t bt ig aR ql av with h | h
 ·exact h
 ·have:=h.mem VI (λe he=>VI i e hi he);rw[lh]at this;cases this
def Inv.agz(cW:v0 ops)(h:Inv X ops im' L β a w F C I M p cf hA gQ)(aR:ops[q]?=some o)(lh:p.testBit q=false)(bl:∀ e,mV ops q e->L e):∀ t∈looks ops o,eT β (F t) (a.tmps.getD t undef):=λt av=>h.T t λi hi ak=>
 hi.2 ((Inv.ahead cW h.rr aR lh hi.1 av ak).mem h.v3 bl)
def Ke{x:dA}{t:Nat}(h:dst≠some t):put dst x F t=F t:=by
 cases dst with
 |none=>rfl| some d=>have:t≠d:=λe=>h (by rw[e]);simp only[put,fZ,hs this,b']
def put_eq{x:dA}{t:Nat}:put (some t) x F t=x:=by simp[put,fZ]
def Kf{t:Nat}(h:dst≠some t):(a.put dst v).tmps.getD t undef=a.tmps.getD t undef:=by
 cases dst with
 |none=>rfl| some d=>have:d≠t:=λe=>h (by rw[e]);simp only[Act.put,pi,Dt,bR this]
def OP{t:Nat}(h:t<a.tmps.size):(a.put (some t) v).tmps.getD t undef=v:=by rw[U3 a t t v h,bN rfl]
def Inv.record(cW:v0 ops)(h:Inv X ops im' L β a w F C I M p cf hA gQ)(aR:ops[q]?=some o)(lh:p.testBit q=false)(zg:∀ e,mV ops q e->p.testBit e=true)(Kg:DJ o.op=true)
 (tr:∀ t,tq (F t) (lQ t)) {x:dA} {OQ:List (Nat×Nat)} (rh:∀ s∈cf,s∈OQ) (af:(zk ops o lQ/\cG X o.op (dk lQ) C I (vY (im' q) M) (λy=>y=x) False/\∀ t y,o.op=.load t y->(q,Ka (dk lQ y))∈OQ)\/(Kc ops o lQ/\x=.val undef)) :
  Inv X ops im' L β a w (put o.dst x lQ) C I M (p ||| 2^q) OQ (λi=>if i=q then x else hA i) (λi=>if i=q then lQ else gQ i):=by
 have rs:¬ L q:=λe=>by have:=h.sub q e;rw[lh]at this;cases this
 have qm:∀ {i},kR L (p ||| 2^q) i->i≠q->kR L p i:=λhi bt=>⟨(mW.1 hi.1).resolve_right bt,hi.2⟩;have xL:∀ {i},kR L p i->kR L (p ||| 2^q) i:=λhi=>⟨mW.2 (.inl hi.1),hi.2⟩;have agA:kR L (p ||| 2^q) q:=⟨mW.2 (.inr rfl),rs⟩;have agB:∀ {i},kR L p i->¬ py ops q i:=fun {i} hi ag=>by have:=ag.mem h.rr (λe he=>h.rr i e hi.1 he);rw[lh]at this;cases this
 refine⟨h.rel,λi hi=>mW.2 (.inl (h.sub i hi)),h.v3,?_,?_,?_⟩
 ·intro j e ai he;rcases mW.1 ai with ai | rfl
  ·exact mW.2 (.inl (h.rr j e ai he))
  ·exact mW.2 (.inl (zg e he))
 ·intro t av;have aa:o.dst≠some t:=λe=>av q agA (by rw[GF aR,e]);rw[Ke aa];exact tr t _ _ (h.T t λi hi=>av i (xL hi))
 ·intro i hi;by_cases nA:i=q
  ·subst nA;refine⟨o,aR,⟨Kg,?_,?_,?_,?_⟩⟩
   ·intro d ak;rw[ak,put_eq];simp only[bN];exact .refl _
   ·intro t av j ai ag v5;have Kh:j≠i:=λe=>by subst e;have:=ag.mem h.rr zg;rw[lh]at this;cases this
    simp only[bR Kh,bN];obtain⟨mU,agC,mX⟩:=h.zl j (qm ai Kh);exact(mX.hz t (by rw[<-GF agC];exact v5)).trans (tr t)
   ·intro t av ea;simp only[bN];refine tr t _ _ (h.T t λj ai v5=>ea j (xL ai) (Inv.ahead cW h.rr aR lh ai.1 av v5) v5)
   ·simpa using af
  ·obtain⟨gF,ig,mX⟩:=h.zl i (qm hi nA);refine⟨gF,ig,⟨mX.quiet,?_,?_,?_,?_⟩⟩
   ·intro d ak;simp only[bR nA];rw[Ke (cW.OM i q gF o d nA ig aR ak)];exact(mX.hz d ak).trans (tr d)
   ·intro t av j ai ag v5;have GH:j≠q:=λe=>by subst e;exact agB (qm hi nA) ag
    simp only[bR nA,bR GH];exact mX.b t av j (qm ai GH) ag v5
   ·intro t av ea;simp only[bR nA];exact mX.a t av λj ai=>ea j (xL ai)
   ·simp only[bR nA];exact mX.r.imp (λ⟨aa,ab,aj⟩=>⟨aa,ab,λt x aG=>rh _ (aj t x aG)⟩) id
def Inv.exec{zb:Act->World->Prop}(aO:cT X.P X.E)(cW:v0 ops)(hk:∀ d,o.dst=some d->d<X.n)(h:Inv X ops im' L β a w F C I M p cf hA gQ)(aR:ops[q]?=some o)(aC:kR L p q)(bl:∀ e,mV ops q e->L e)
  (dZ:∀ bO,Inv X ops im' (λi=>L i\/i=q) β bO w F C I M p cf hA gQ->zb bO w):wpOpIn (g8 X) 0 X.P ops.toArray Q q zb a w:=by
 obtain⟨o',ru,mX⟩:=h.zl q aC;rw[aR]at ru;cases ru;have DK:∀ {i},py ops i q->¬ kR L p i:=λag hi=>hi.2 (ag.mem h.v3 bl);have dJ:∀ t∈looks ops o,eT β (gQ q t) (a.tmps.getD t undef):=λt av=>mX.a t av λi hi ag=>(DK ag hi).elim;have after:∀ v,eT β (hA q) v->Inv X ops im' (λi=>L i\/i=q) β (a.put o.dst v) w F C I M p cf hA gQ:=λv ah=>by
  have qm:∀ {i},kR (λi=>L i\/i=q) p i->kR L p i/\i≠q:=λhi=>⟨⟨hi.1,λe=>hi.2 (.inl e)⟩,λe=>hi.2 (.inr e)⟩;have xL:∀ {i},kR L p i->i≠q->kR (λi=>L i\/i=q) p i:=λhi bt=>⟨hi.1,λe=>e.elim hi.2 bt⟩;refine⟨h.rel.put hk (x:=.nu) trivial |> λh=>h.refine λ_=>trivial,?_,?_,h.rr,?_,?_⟩
  ·rintro i (hi | rfl)
   ·exact h.sub i hi
   ·exact aC.1
  ·rintro j e (ai | rfl) he
   ·exact .inl (h.v3 j e ai he)
   ·exact .inl (bl e he)
  ·intro t av;by_cases ak:o.dst=some t
   ·have aX:t<a.tmps.size:=by rw[h.rel.size];exact hk t ak
    rw[ak,OP aX];exact mX.hz t ak _ _ ah
   ·rw[Kf ak];refine h.T t λi hi ql=>?_;by_cases nA:i=q
    ·subst nA;rw[GF aR]at ql;exact ak ql
    ·exact av i (xL hi nA) ql
  ·intro i hi;obtain⟨cZ,nA⟩:=qm hi;obtain⟨gF,ig,sv⟩:=h.zl i cZ;refine⟨gF,ig,⟨sv.quiet,sv.hz,λt av j ai=>sv.b t av j (qm ai).1,?_,sv.r⟩⟩;intro t av ea;by_cases ak:o.dst=some t
   ·have aX:t<a.tmps.size:=by rw[h.rel.size];exact hk t ak
    rw[ak,OP aX];have ag:py ops q i:=by
     rcases cW.ord q i o gF t (pj nA) aR ig ak av with ag | ag;·exact ag
     ·exact(DK ag cZ).elim
    exact sv.b t av q aC ag (by rw[GF aR,ak]) _ _ ah
   ·rw[Kf ak];refine sv.a t av λj ai ag v5=>?_;by_cases GH:j=q
    ·subst GH;rw[GF aR]at v5;exact ak v5
    ·exact ea j (xL ai GH) ag v5
 have GI:ops.toArray[q]?=some o:=by simpa using aR
 unfold wpOpIn;simp only[GI];rcases mX.r with⟨fa,BA,-⟩ | ⟨GJ,ad⟩
 ·rw[VF fa dJ,bN rfl];let G:Fr:=λt=>if t∈looks ops o then gQ q t else .nu
  have jc:∀ t,eT β (G t) (a.tmps.getD t undef):=λt=>by
   by_cases av:t∈looks ops o;·simp only[G,bN av];exact dJ t av
   ·simp only[G,bR av];trivial
  have OR:∀ y∈o.op.operands,dk G y=dk (gQ q) y:=λy aE=>by
   cases y with
   |tmp t=>simp only[dk,G,bN (OO aE)]| const v=>cases v<;>rfl
   |global g=>rfl| func f=>rfl
  have agD:=VC BA OR (C':=C) (I':=I) (M':=M) λ_ _ _=>⟨λ_ _ _=>rfl,λ_ _ _ h=>agk h⟩;obtain⟨dst,op,ty,pos,agE,guard⟩:=o;have bF:∀ c,op≠.defer c:=λc e=>by have:=mX.quiet;rw[e]at this;cases this
  rcases Vi aO (h.rel.refine jc) op ty dst pos agE guard agD with aa | ⟨v,x,hZ,ad,rfl⟩;·exact aa.elim
  ·exact iY bF hZ (dZ _ (after v ad))
 ·rw[VG GJ dJ];simp only[k8,lM];exact⟨λ_ _=>trivial,dZ _ (after undef (by rw[ad];rfl))⟩
end
section
variable{X:cU}{ops:List Oper}{im':Nat->Bool}{L:Nat->Prop}{β:Nat->Nat}{a:Act}{w:World}{F:Fr}{C:dC}{I:aJ}{M:List aD}{p:Nat}{cf:List (Nat×Nat)}{hA:Nat->dA}{gQ:Nat->Fr}{q:Nat}{o:Oper}
def Inv.refine(h:Inv X ops im' L β a w F C I M p cf hA gQ)(tr:∀ t,tq (F t) (lQ t)):Inv X ops im' L β a w lQ C I M p cf hA gQ:=
 ⟨h.rel,h.sub,h.v3,h.rr,λt av=>tr t _ _ (h.T t av),λi hi=>by
  obtain⟨gF,ig,aC⟩:=h.zl i hi;exact⟨gF,ig,⟨aC.quiet,λd ak=>(aC.hz d ak).trans (tr d),aC.b,aC.a,aC.r⟩⟩⟩
def Inv.step(cW:v0 ops)(hk:∀ d,o.dst=some d->d<X.n)(h:Inv X ops im' L β a w F C I M p cf hA gQ)(aR:ops[q]?=some o)(lh:p.testBit q=false)(bl:∀ e,mV ops q e->L e)
 {x:dA} {C':dC} (ad:eT β x v) (af:cK X β a w' (λ_=>.nu) C' I' M')
  (hm:∀ i gF fP,kR L p i->ops[i]?=some gF->qi gF.op=true->(i,fP)∈cf->(∀ s,fP=s+1->C' s=C s)/\(fP=0->∀ b o,ib I (vY (im' i) M) b o->ib I' (vY (im' i) M') b o)) :
  Inv X ops im' (λi=>L i\/i=q) β (a.put o.dst v) w' (put o.dst x F) C' I' M' (p ||| 2^q) cf hA gQ:=by
 have qm:∀ {i},kR (λi=>L i\/i=q) (p ||| 2^q) i->kR L p i:=λhi=>⟨(mW.1 hi.1).resolve_right (λe=>hi.2 (.inr e)),λe=>hi.2 (.inl e)⟩;have xL:∀ {i},kR L p i->kR (λi=>L i\/i=q) (p ||| 2^q) i:=fun {i} hi=>⟨mW.2 (.inl hi.1),λe=>e.elim hi.2 (λe=>by
  subst e;have:=hi.1;rw[lh]at this;cases this)⟩
 refine⟨af.put hk (x:=.nu) trivial |> λh=>h.refine λ_=>trivial,?_,?_,?_,?_,?_⟩
 ·rintro i (hi | rfl)
  ·exact mW.2 (.inl (h.sub i hi))
  ·exact mW.2 (.inr rfl)
 ·rintro j e (ai | rfl) he
  ·exact .inl (h.v3 j e ai he)
  ·exact .inl (bl e he)
 ·intro j e ai he;rcases mW.1 ai with ai | rfl
  ·exact mW.2 (.inl (h.rr j e ai he))
  ·exact mW.2 (.inl (h.sub e (bl e he)))
 ·intro t av;by_cases ak:o.dst=some t
  ·have aX:t<a.tmps.size:=by rw[h.rel.size];exact hk t ak
   rw[ak,OP aX,put_eq];exact ad
  ·rw[Kf ak,Ke ak];exact h.T t λi hi=>av i (xL hi)
 ·intro i hi;have cZ:=qm hi;obtain⟨gF,ig,sv⟩:=h.zl i cZ;have nA:i≠q:=λe=>by subst e;have:=cZ.1;rw[lh]at this;cases this
  refine⟨gF,ig,⟨sv.quiet,?_,λt av j ai=>sv.b t av j (qm ai),?_,?_⟩⟩;·intro d ak;rw[Ke (cW.OM i q gF o d nA ig aR ak)];exact sv.hz d ak
  ·intro t av ea;have ak:o.dst≠some t:=λak=>by
    rcases cW.ord q i o gF t (pj nA) aR ig ak av with ag | ag;·have:=ag.mem h.rr (λe he=>h.rr i e cZ.1 he);rw[lh]at this;cases this
    ·exact cZ.2 (ag.mem h.v3 bl)
   rw[Kf ak];exact sv.a t av λj ai=>ea j (xL ai)
  ·refine sv.r.imp (λ⟨aa,ab,aj⟩=>⟨aa,VC ab (λ_ _=>rfl) λt x ay=>?_,aj⟩) id;have aI:=aj t x ay;have bB:=hm i gF _ cZ ig (by rw[ay];rfl) aI;refine⟨λs off e=>?_,λbt=>bB.2 ?_⟩
   ·exact bB.1 s (by rw[e];rfl)
   ·generalize dk (gQ i) x=agF at bt;cases agF with
    |ref s off=>exact(bt s off rfl).elim| _=>rfl
def BB(X:cU)(ops:List Oper)(im':Nat->Bool)(K:gi)(L:Nat->Prop)(a:Act)(w:World):Prop:=
 ∃ β F C I M p cf hA gQ n,Inv X ops im' L β a w F C I M p cf hA gQ/\px X ops im' n p cf F C I M K
def GK{k:Bool}{i:Nat}:i∈qj ops p k ↔ ∃ o,ops[i]?=some o/\p.testBit i=false/\DJ o.op=k/\(∀ e,mV ops i e->p.testBit e=true):=by
 unfold qj;rw[ja,g7];have GL:∀ {o},ops[i]?=some o->(Gz o p=true ↔ ∀ e,mV ops i e->p.testBit e=true):=fun {o} aH=>by
  unfold Gz;rw[fy];constructor;·rintro h e⟨o',nz,ru,rq,ag,rfl⟩;rw[aH]at ru;cases ru;have:=h nz (by simpa using rq);rw[ag]at this;simpa using this
  ·intro h nz rq;cases ag:Region.binds .any nz with
   |false=>simp| true=>simp[h nz.on ⟨o,nz,aH,by simpa using rq,ag,rfl⟩]
 constructor
 ·rintro⟨aX,h⟩;cases aH:ops[i]? with
  |none=>rw[aH]at h;cases h| some o=>rw[aH]at h;simp only[cz,to,beq_iff_eq]at h;exact⟨o,rfl,h.1,h.2.1,(GL aH).1 h.2.2⟩
 ·rintro⟨o,aH,aa,ab,aj⟩;refine⟨(ia.1 aH).1,?_⟩;rw[aH];simp only[aa,ab,(GL aH).2 aj,Bool.not_false,Gw,Bool.and_self]
def VJ{P:Nat->Prop}:∀ {l:List Nat},OI P l->∀ i∈l,P i
 |[],_,i,hi=>by cases hi
 |[j],h,i,hi=>by rw[ed]at hi;subst hi;exact h
 |j::k::l,h,i,hi=>by
  rcases ec.1 hi with rfl | hi;·exact h.1
  ·exact VJ (l:=k::l) h.2 i hi
def agG(i:Nat)(op:Op)(ρ:Operand->dA)(cf:List (Nat×Nat)):∀ s∈cf,s∈GC i op ρ cf:=λs ar=>by
 unfold GC;split
 ·exact .tail _ ar
 ·exact ar
def agH{i:Nat}{cf:List (Nat×Nat)}:∀ t x,op=.load t x->(i,Ka (ρ x))∈GC i op ρ cf:=λt x aG=>by subst aG;unfold GC;exact .head _
def BB.advance(cW:v0 ops){K:gi}:∀ (n:Nat) {p cf F hA gQ},Inv X ops im' L β a w F C I M p cf hA gQ->px X ops im' n p cf F C I M K -> ∃ p cf F hA gQ n,Inv X ops im' L β a w F C I M p cf hA gQ/\qj ops p true=[]/\px X ops im' (n+1) p cf F C I M K
 |0,_,_,_,_,_,_,ah=>ah.elim
 |n+1,p,cf,F,hA,gQ,bw,ah=>by
  cases af:qj ops p true with
  |nil=>exact⟨p,cf,F,hA,gQ,n,bw,af,ah⟩
  |cons q l=>
   have eX:q∈qj ops p true:=by rw[af];simp
   obtain⟨o,aR,lh,Kg,zg⟩:=GK.1 eX;have j2:=ah;unfold px at j2;rw[af]at j2;simp only[aR]at j2;obtain⟨lQ,tr,⟨fa,aa⟩ | ⟨GJ,aa⟩⟩:=VH j2;·obtain⟨x,ab,aj⟩:=agq (agm aa);exact BB.advance cW n (bw.record cW aR lh zg Kg tr (agG _ _ _ _) (.inl ⟨fa,aj,agH⟩)) ab
   ·exact BB.advance cW n (bw.record cW aR lh zg Kg tr (λ_ h=>h) (.inr ⟨GJ,rfl⟩)) aa
def mem_ready{i:Nat}(df:du.size=ops.length):i∈Region.ready .any ops.toArray du ↔ ∃ o,ops[i]?=some o/\¬ du.getD i false=true/\∀ e,mV ops i e->du.getD e false=true:=by
 unfold Region.ready;rw[ja,g7];simp only[oC,Bu,cz,to];have GL:∀ {o},ops[i]?=some o->((o.after.all λe=>!Region.binds .any e||du.getD e.on false)=true ↔ ∀ e,mV ops i e->du.getD e false=true):=fun {o} aH=>by
  rw[Array.all_eq_true_iff_forall_mem];constructor;·rintro h e⟨o',nz,ru,rq,ag,rfl⟩;rw[aH]at ru;cases ru;have:=h nz rq;rw[ag]at this;simpa using this
  ·intro h nz rq;cases ag:Region.binds .any nz with
   |false=>simp| true=>simp[h nz.on ⟨o,nz,aH,rq,ag,rfl⟩]
 have VK:i<ops.length->(du.getD i true=false ↔ ¬ du.getD i false=true):=λhi=>by
  have:i<du.size:=by omega
  simp[Array.getD,this]
 constructor
 ·rintro⟨aX,aa,ab⟩;cases aH:ops[i]? with
  |none=>rw[aH]at ab;cases ab| some o=>rw[aH]at ab;exact⟨o,rfl,(VK aX).1 aa,(GL aH).1 ab⟩
 ·rintro⟨o,aH,aa,ab⟩;have aX:=(ia.1 aH).1;refine⟨aX,(VK aX).2 aa,?_⟩;rw[aH];exact(GL aH).2 ab
def VL{i:Nat}(hi:i<du.size):(λj=>(du.setIfInBounds i true).getD j false=true)=λj=>du.getD j false=true\/j=i:=by
 funext j;simp only[pi,Dt,eq_iff_iff];by_cases e:i=j
 ·subst e;simp[hi]
 ·simp only[bR e];constructor
  ·exact .inl
  ·rintro(h | h)
   ·exact h
   ·exact(e h.symm).elim
def todo(ops:List Oper)(du:Array Bool):Nat:=((List.range ops.length).filter λi=>!du.getD i false).length
def Ki{i:Nat}(hi:i<ops.length)(df:du.size=ops.length)(aB:¬ du.getD i false=true):todo ops (du.setIfInBounds i true)<todo ops du:=by
 unfold todo;have key:∀ l:List Nat,l.Nodup->i∈l->((l.filter λj=>!(du.setIfInBounds i true).getD j false).length<(l.filter λj=>!du.getD j false).length):=by
  have same:∀ j,j≠i->(du.setIfInBounds i true).getD j false=du.getD j false:=λj ai=>by simp only[pi,Dt,bR (pj ai)]
  have self:(du.setIfInBounds i true).getD i false=true:=by
   have:i<du.size:=by omega
   simp[pi,Dt,this]
  have BC:du.getD i false=false:=by simpa using aB
  intro l
  induction l with
  |nil=>intro _ h;cases h
  |cons j l aL=>
   intro bF hm;rw[lL]at bF;by_cases e:j=i
   ·subst e;have:l.filter (λk=>!(du.setIfInBounds j true).getD k false)=l.filter (λk=>!du.getD k false):=
     Gv λk ae=>by rw[same k (λe=>bF.1 (e ▸ ae))]
    simp only[pu,self,BC,this];simp
   ·have sw:i∈l:=by
     rcases ec.1 hm with h | h;·exact(e h.symm).elim
     ·exact h
    have:=aL bF.2 sw;simp only[pu,same j e];split;·simp only[dx];omega
    ·exact this
 exact key _ xJ (g7.2 hi)
def agI(aO:cT X.P X.E)(cW:v0 ops)(hk:∀ o∈ops,∀ d,o.dst=some d->d<X.n){K:gi}(q':∀ a w,Sat X K a w->Q .normal a w):∀ (e3:Nat) (du:Array Bool) (a:Act) (w:World),
  du.size=ops.length->todo ops du<=e3->BB X ops im' K (λi=>du.getD i false=true) a w->wpAnyIn (g8 X) 0 X.P .any ops.toArray Q e3 du a w:=by
 intro e3
 induction e3 with
 |zero=>
  rintro du a w df aA⟨β,F,C,I,M,p,cf,hA,gQ,n,bw,ah⟩;have oG:Region.ready .any ops.toArray du=[]:=by
   cases af:Region.ready .any ops.toArray du with
   |nil=>rfl| cons i l=>obtain⟨o,aH,aB,_⟩:=(mem_ready df).1 (by rw[af];simp:i∈Region.ready .any ops.toArray du);have:=Ki (ia.1 aH).1 df aB;omega
  refine⟨oG,?_⟩;obtain⟨p,cf,F,hA,gQ,n,bw,h0,ah⟩:=BB.advance cW n bw ah;have GM:∀ i,p.testBit i=true->du.getD i false=true:=λi=>by
   induction i using Nat.strongRecOn with
   |ind i aL=>intro aC;refine Gt λaB=>?_;obtain⟨o,aH,_⟩:=bw.zl i ⟨aC,aB⟩;have:i∈Region.ready .any ops.toArray du:=(mem_ready df).2 ⟨o,aH,aB,λe he=>aL e (cW.lt i e he) (bw.rr i e aC he)⟩;rw[oG]at this;cases this
  have pz:qj ops p false=[]:=by
   cases af:qj ops p false with
   |nil=>rfl| cons i l=>obtain⟨o,aH,aC,_,ak⟩:=GK.1 (by rw[af];simp:i∈qj ops p false);have:i∈Region.ready .any ops.toArray du:=(mem_ready df).2 ⟨o,aH,λcS=>(by have ef:=bw.sub i cS;rw[aC]at ef;exact Bool.noConfusion ef),λe he=>GM e (ak e he)⟩;rw[oG]at this;cases this
  unfold px at ah;rw[h0,pz]at ah;exact q' _ _ ⟨F,C,I,M,⟨β,bw.rel.refine λt=>bw.T t λi hi=>(hi.2 (GM i hi.1)).elim⟩,ah⟩
 |succ e3 aL=>
  rintro du a w df aA⟨β,F,C,I,M,p,cf,hA,gQ,n,bw,ah⟩;obtain⟨p,cf,F,hA,gQ,n,bw,h0,ah⟩:=BB.advance cW n bw ah;refine⟨λoG=>?_,λq aR=>?_⟩
  ·have GM:∀ i,p.testBit i=true->du.getD i false=true:=λi=>by
    induction i using Nat.strongRecOn with
    |ind i aL=>intro aC;refine Gt λaB=>?_;obtain⟨o,aH,_⟩:=bw.zl i ⟨aC,aB⟩;have:i∈Region.ready .any ops.toArray du:=(mem_ready df).2 ⟨o,aH,aB,λe he=>aL e (cW.lt i e he) (bw.rr i e aC he)⟩;rw[oG]at this;cases this
   have pz:qj ops p false=[]:=by
    cases af:qj ops p false with
    |nil=>rfl| cons i l=>obtain⟨o,aH,aC,_,ak⟩:=GK.1 (by rw[af];simp:i∈qj ops p false);have:i∈Region.ready .any ops.toArray du:=(mem_ready df).2 ⟨o,aH,λcS=>(by have ef:=bw.sub i cS;rw[aC]at ef;exact Bool.noConfusion ef),λe he=>GM e (ak e he)⟩;rw[oG]at this;cases this
   unfold px at ah;rw[h0,pz]at ah;exact q' _ _ ⟨F,C,I,M,⟨β,bw.rel.refine λt=>bw.T t λi hi=>(hi.2 (GM i hi.1)).elim⟩,ah⟩
  ·obtain⟨o,aH,aB,ak⟩:=(mem_ready df).1 aR;have aX:=(ia.1 aH).1;have qn:=hk o (st aH);have g0:=VL (du:=du) (i:=q) (by omega);have next:∀ bO w',BB X ops im' K (λi=>du.getD i false=true\/i=q) bO w'->wpAnyIn (g8 X) 0 X.P .any ops.toArray Q e3 (du.setIfInBounds q true) bO w':=λbO w' h=>by refine aL _ bO w' (by simpa using df) ?_ (by rw[g0];exact h);have:=Ki aX df aB;omega
   cases lh:p.testBit q with
   |true=>
    exact bw.exec aO cW qn aH ⟨lh,aB⟩ ak λbO h=>next bO w ⟨β,F,C,I,M,p,cf,hA,gQ,n+1,h,ah⟩
   |false=>
    have GN:∀ e,mV ops q e->p.testBit e=true:=λe he=>bw.sub e (ak e he);have OS:DJ o.op=false:=by
     cases agJ:DJ o.op with
     |false=>rfl| true=>have:q∈qj ops p true:=GK.2 ⟨o,aH,lh,agJ,GN⟩;rw[h0]at this;cases this
    have eX:q∈qj ops p false:=GK.2 ⟨o,aH,lh,OS,GN⟩;unfold px at ah;rw[h0]at ah;simp only at ah;split at ah;·rename_i pz;rw[pz]at eX;cases eX
    ·rename_i i0 fs pz;rw[pz]at eX;have ag:=VJ ah q eX;simp only[aH]at ag;obtain⟨lQ,tr,ag⟩:=VH ag;have cH:=bw.refine tr;have kt:=cH.agz cW aH lh ak;have GI:ops.toArray[q]?=some o:=by simpa using aH
     unfold wpOpIn;simp only[GI];rcases ag with⟨fa,ag⟩ | ⟨GJ,ag⟩
     ·rw[VF fa kt,bN rfl];cases OT:Vt ((lg ops).getD q 0) p with
      |true=>
       rw[OT]at ag;simp only[vX,b5]at ag;have gR:∀ i,p.testBit i=true->du.getD i false=true:=λi hi=>by
        have aa:=dP OT;have ab:(p &&& (lg ops).getD q 0).testBit i=true:=by rw[aa];exact hi
        rw[Nat.testBit_and,cz]at ab;exact(zh ab.2).mem bw.v3 ak
       have aV:Rel X a w lQ C I M:=⟨β,cH.rel.refine λt=>cH.T t λi hi=>(hi.2 (gR i hi.1)).elim⟩;refine te (λbO w'=>?_) (DD aO qn aV ag);rintro⟨dm,C',I',M',⟨ou,eY⟩,ae⟩;have agK:∀ i,¬ kR (λi=>du.getD i false=true\/i=q) (p ||| 2^q) i:=λi hi=>by
        rcases mW.1 hi.1 with aa | aa;·exact hi.2 (.inl (gR i aa))
        ·exact hi.2 (.inr aa)
       refine next bO w' ⟨ou,dm,C',I',M',p ||| 2^q,cf,hA,gQ,n,⟨eY.refine λ_=>trivial,?_,?_,?_,λt _=>eY.al t,λi hi=>(agK i hi).elim⟩,ae⟩
       ·rintro i (hi | rfl)
        ·exact mW.2 (.inl (bw.sub i hi))
        ·exact mW.2 (.inr rfl)
       ·rintro j e (ai | rfl) he
        ·exact .inl (bw.v3 j e ai he)
        ·exact .inl (ak e he)
       ·intro j e ai he;rcases mW.1 ai with ai | rfl
        ·exact mW.2 (.inl (bw.rr j e ai he))
        ·exact mW.2 (.inl (GN e he))
      |false=>
       rw[OT]at ag;let G:Fr:=λt=>if t∈looks ops o then lQ t else .nu
       have jc:∀ t,eT β (G t) (a.tmps.getD t undef):=λt=>by
        by_cases av:t∈looks ops o;·simp only[G,bN av];exact kt t av
        ·simp only[G,bR av];trivial
       have OR:∀ y∈o.op.operands,dk G y=dk lQ y:=λy aE=>by
        cases y with
        |tmp t=>simp only[dk,G,bN (OO aE)]| const v=>cases v<;>rfl
        |global g=>rfl| func f=>rfl
       refine te (λbO w'=>?_) (agt aO (cH.rel.refine jc) OR ag);rintro⟨v,x,C',I',M',rfl,ad,eY,ae,hm⟩;refine next _ _ ⟨β,_,C',I',M',p ||| 2^q,cf,hA,gQ,n,cH.step cW qn aH lh ak ad (eY.refine λ_=>trivial) ?_,ae⟩
       rcases hm with⟨GB,nB⟩ | ⟨rfl,bm,e'⟩
       rotate_left
       ·exact λ_ _ _ _ _ _ _=>⟨λ_ _=>rfl,λ_=>Vx e' bm⟩
       have DK:∀ {i},kR (λi=>du.getD i false=true) p i->((lg ops).getD q 0).testBit i=true->False:=λhi ag=>hi.2 ((zh ag).mem bw.v3 ak);intro i gF fP hi ig eS eX;have ea:∀ {s:Nat},Bx ((lg ops).getD q 0) s cf=true->fP≠s:=fun {s} h e=>by
        rcases Vu h eX with aa | aa;·exact DK hi aa
        ·exact aa e
       rcases(kQ _ _).mp GB with agL | agM
       ·have aa:=fy.1 agL i (g7.2 (ia.1 ig).1);rw[hi.1,ig]at aa;simp only[uG,uF,kQ,to]at aa;rcases aa with aa | aa
        ·exact(DK hi aa).elim
        ·rw[aa]at eS;cases eS
       rcases(kQ _ _).mp agM with DL | xM
       ·unfold Vw at DL;split at DL
        ·rename_i t0 sy VM db;split at DL
         ·rename_i cx auQ aG;obtain⟨⟨eg,gG⟩,cy⟩:=nB.1 _ _ _ _ _ db aG;exact⟨λb3 e=>eg b3 (λa7=>ea DL (by rw[e,a7])),λ_=>Vx cy gG⟩
         ·cases DL
        ·cases DL
       rcases(kQ _ _).mp xM with xM | xN
       ·unfold Vv at xM;split at xM
        ·rename_i t0 sy VM db;split at xM
         ·rename_i agN aG;exact⟨λ_ _=>by rw[(nB.2.1 _ _ _ _ db aG).1],λe=>(ea xM e).elim⟩
         ·cases xM
        ·rename_i db;exact⟨λ_ _=>by rw[(nB.2.2 (λt x y e=>by rw[db]at e;cases e)).1],λe=>(ea xM e).elim⟩
        ·cases xM
       unfold VA at xN;rw[cz]at xN;obtain⟨agO,xN⟩:=xN;have agP:im' i=true:=by
        have aa:=fy.1 agO i (g7.2 (ia.1 ig).1);rw[hi.1,ig]at aa;simp only[uG,uF,kQ,to]at aa;rcases aa with aa | aa | aa;·exact(DK hi aa).elim
        ·exact aa
        ·rw[aa]at eS;cases eS
       have bm:C'=C/\∀ b o,I b=some o->I' b=some o:=by
        unfold Vz at xN;split at xN
        ·rename_i t0 sy VM db;split at xN
         ·rename_i agN aG;exact nB.2.1 _ _ _ _ db aG
         ·cases xN
        ·rename_i db;exact nB.2.2 (λt x y e=>by rw[db]at e;cases e)
        ·rename_i db;exact nB.2.2 (λt x y e=>by rw[db]at e;cases e)
        ·cases xN
       exact⟨λ_ _=>by rw[bm.1],λ_=>by rw[agP];exact agl bm.2⟩
     ·rw[VG GJ kt];simp only[k8,lM];refine⟨λ_ _=>trivial,next _ _ ⟨β,_,C,I,M,p ||| 2^q,cf,hA,gQ,n,cH.step cW qn aH lh ak (x:=.val undef) rfl cH.rel (λ_ _ _ _ _ _ _=>⟨λ_ _=>rfl,λ_ _ _ h=>h⟩),ag⟩⟩
end
def cV.OU{X:cU}{id:Nat}{F:Fr}{I:aJ}{K:j3}(aO:cT X.P X.E)(hm:X.P.follows .mixedOrders=true)(an:By A.toList=true)(aB:xF X.n A=true)
  {im':Nat->Bool} (h:px X A.toList im' (A.size+1) 0 [] F C I M (K .normal)):cV X (.region id A true) F C I M K:=by
 refine⟨λa w ⟨β,aV⟩=>wpIn_region_any hm ?_⟩;have rv:cK X β a { w with drawn:=w.drawn+1 } F C I M:=aV.world rfl;have cc:∀ i,(Array.replicate A.size false).getD i false=false:=λi=>by
  by_cases hi:i<A.size<;>simp[pi,hi]
 have ry:∀ {i},¬ (Array.replicate A.size false).getD i false=true:=fun {i}=>by rw[cc];simp
 have key:=agI (K:=K .normal) (Q:=mS X K) aO (VE an) (JZ aB) (λ_ _ h=>h) A.size (Array.replicate A.size false) a { w with drawn:=w.drawn+1 } (by simp) ?_ ⟨β,F,C,I,M,0,[],λ_=>.nu,λ_ _=>.nu,A.size+1,⟨rv.refine λ_=>trivial,λi hi=>(ry hi).elim,λj e ai=>(ry ai).elim,λj e ai=>by simp at ai,λt _=>rv.al t,λi hi=>by simp[kR]at hi⟩,h⟩
 ·simpa using key
 ·unfold todo;refine k' (Bv _ _) (by simp)
def cV.agQ{X:cU}{id:Nat}{F:Fr}{I:aJ}{K:j3}(aO:cT X.P X.E)(hm:X.P.follows .mixedOrders=true)(an:By A.toList=true)(aB:xF X.n A=true)
  {im':Nat->Bool} (aZ:ι->vT) (inv:ι->Prop) (ah:px X A.toList im' (A.toList.length+1) 0 [] F C I M (pq X.foot aZ inv)) (bj:∀ i,inv i->K .normal (ra (aZ i).bi) (rc (aZ i).cl) (aZ i).cD (aZ i).c0):cV X (.region id A true) F C I M K:=by
 obtain⟨h⟩:=cV.OU (im':=im') (K:=λe=>match e with
  | .normal=>pq X.foot aZ inv| e=>K e) aO hm an aB ah
 refine⟨λa w aV=>wpIn_mono (h a w aV) ?_⟩;intro e a w ar;cases e with
 |normal=>obtain⟨dm,C',I',M',⟨β,af⟩,⟨j,qf,hw,bG,lf⟩⟩:=ar;exact⟨_,_,_,_,⟨β,(af.cR bG lf).hW hw⟩,bj j qf⟩
 |_=>exact ar
def cV.draw{X:cU}{id:Nat}{F:Fr}{I:aJ}{K:j3}(aO:cT X.P X.E)(hm:X.P.follows .mixedOrders=true)(an:By A.toList=true)(aB:xF X.n A=true)(h:px X A.toList (λ_=>false) (A.size+1) 0 [] F C I M (K .normal)):cV X (.region id A true) F C I M K:=.OU aO hm an aB h
def cV.BD{X:cU}{id:Nat}{F:Fr}{I:aJ}{K:j3}(aO:cT X.P X.E)(hm:X.P.follows .mixedOrders=true)(an:By A.toList=true)(aB:xF X.n A=true)
 (aZ:ι->vT) (inv:ι->Prop) (ah:px X A.toList (λ_=>false) (A.toList.length+1) 0 [] F C I M (pq X.foot aZ inv)) (bj:∀ i,inv i->K .normal (ra (aZ i).bi) (rc (aZ i).cl) (aZ i).cD (aZ i).c0):cV X (.region id A true) F C I M K:=.agQ aO hm an aB aZ inv ah bj
def cV.agR{X:cU}{id:Nat}{F:Fr}{I:aJ}{K:j3}(hz:Nat->Bool)(aO:cT X.P X.E)(hm:X.P.follows .mixedOrders=true)(an:By A.toList=true)(aB:xF X.n A=true)(h:px X A.toList hz (A.size+1) 0 [] F C I M (K .normal)):cV X (.region id A true) F C I M K:=.OU aO hm an aB h
def VN{sr:Fence}{n:Nat}{a:Act}{c:Code}(J:Nat->Nat->Act->World->Prop)
  (first:c.wpIn sr n P (λe bO w'=>match e with
   | .goto l=>∃ m,J l m bO w'| e=>Q e bO w') a w)
  (pass:∀ l m a w,J l m a w->∃ bj,findLabel c l=some bj/\bj.wpIn sr n P (λe bO w'=>match e with
   | .goto ev=>∃ m',m'<m/\J ev m' bO w'| e=>Q e bO w') a w):(Code.scope c).wpIn sr n P Q a w:=by
 intro b k cs gj ag af;have cx:step P (lone (b.atR a (.code (.scope c)::k)) cs w)=.next (lone (b.atR a (.code c::.inScope c::k)) cs w):=
  step_lone_go (by simp[stepG,stepG.exec,Frame.atR])
 have s1:∀ a w,step P (lone (b.atR a (.inScope c::k)) cs w)=.next (lone (b.atR a k) cs w):=λa w=>
  step_lone_go (by simp[stepG,stepG.exec,Frame.atR])
 have ad:∀ id,exitTo id (.inScope c::k)=exitTo id k:=λid=>by simp[exitTo]
 have fin:∀ {m:Machine} {e:Exit} {j4:Act} {j5:World},(∀ l,e≠.goto l)->ArrivesIn (Machine.fenced P sr) P m b (.inScope c::k) cs e j4 j5->ArrivesIn (Machine.fenced P sr) P m b k cs e j4 j5:=by
  intro m e j4 j5 bt iZ;cases e with
  |normal=>exact StepsIn.trans iZ (.one (fenced_calm ag af rfl) (s1 _ _))| exit id=>exact⟨λeZ ae=>iZ.1 eZ (by rw[ad];exact ae),λeY ae=>iZ.2 eY (by rw[ad];exact ae)⟩| goto l=>exact(bt l rfl).elim| ret=>exact iZ| panic Gq=>exact iZ| outgrown=>exact iZ
 have key:∀ m l a w,J l m a w->∀ bj,findLabel c l=some bj->∃ e bO w',Q e bO w'/\ArrivesIn (Machine.fenced P sr) P (lone (b.atR a (.code bj::.inScope c::k)) cs w) b k cs e bO w':=by
  intro m
  induction m using Nat.strongRecOn with
  |_ m aL=>
   intro l a w bk bj ts;obtain⟨DM,aA,hw⟩:=pass l m a w bk;rw[ts]at aA;cases aA;obtain⟨e,j4,j5,aR,iZ⟩:=hw b (.inScope c::k) cs gj ag af;cases e with
   |goto ev=>
    obtain⟨m',aX,xO⟩:=aR;obtain⟨DM,v7,_⟩:=pass ev m' j4 j5 xO;have au:gotoIn ev (.inScope c::k)=some (.code DM::.inScope c::k):=by simp[gotoIn,v7]
    obtain⟨Gk,Gl,Gm,Gn,Gp⟩:=aL m' aX ev j4 j5 xO DM v7;exact⟨Gk,Gl,Gm,Gn,.of_steps (iZ.1 _ au) Gp⟩
   |normal=>exact⟨_,j4,j5,aR,fin (by simp) iZ⟩| exit id=>exact⟨_,j4,j5,aR,fin (by simp) iZ⟩| ret=>exact⟨_,j4,j5,aR,fin (by simp) iZ⟩| panic Gq=>exact⟨_,j4,j5,aR,fin (by simp) iZ⟩| outgrown=>exact⟨_,j4,j5,aR,fin (by simp) iZ⟩
 have az:(lone (b.atR a (.code (.scope c)::k)) cs w).fenced P sr:=fenced_calm ag af rfl;obtain⟨e,j4,j5,aR,iZ⟩:=first b (.inScope c::k) cs gj ag af
 cases e with
 |goto ev=>
  obtain⟨m',xO⟩:=aR;obtain⟨DM,v7,_⟩:=pass ev m' j4 j5 xO;have au:gotoIn ev (.inScope c::k)=some (.code DM::.inScope c::k):=by simp[gotoIn,v7]
  obtain⟨Gk,Gl,Gm,Gn,Gp⟩:=key m' ev j4 j5 xO DM v7;exact⟨Gk,Gl,Gm,Gn,.of_steps (.head az cx (iZ.1 _ au)) Gp⟩
 |normal=>exact⟨_,j4,j5,aR,.of_steps (.one az cx) (fin (by simp) iZ)⟩| exit id=>exact⟨_,j4,j5,aR,.of_steps (.one az cx) (fin (by simp) iZ)⟩| ret=>exact⟨_,j4,j5,aR,.of_steps (.one az cx) (fin (by simp) iZ)⟩| panic Gq=>exact⟨_,j4,j5,aR,.of_steps (.one az cx) (fin (by simp) iZ)⟩| outgrown=>exact⟨_,j4,j5,aR,.of_steps (.one az cx) (fin (by simp) iZ)⟩
def Kj(N:Nat->gi)(K:j3):j3
 | .goto l=>N l| e=>K e
def cV.scope{X:cU}{c:Code}{F:Fr}{I:aJ}{K:j3}(aO:cT X.P X.E)(bx:codeOk X.n c=true)(aZ:ι->vT)(bh:ι->Nat)(inv:ι->Prop)(μ:ι->Nat)(bj:Nat->Code)(ts:∀ i,inv i->findLabel c (bh i)=some (bj (bh i))/\codeOk X.n (bj (bh i))=true)(first:V X c F C I M (Kj (λl=>pq X.foot aZ λj=>inv j/\bh j=l) K))(pass:∀ i,inv i->V X (bj (bh i)) (ra (aZ i).bi) (rc (aZ i).cl) (aZ i).cD (aZ i).c0 (Kj (λl=>pq X.foot aZ λj=>(inv j/\bh j=l)/\μ j<μ i) K)) :
  cV X (.scope c) F C I M K:=by
 refine⟨λa w aV=>?_⟩;let J (l m:Nat) (a:Act) (w:World):Prop:=∃ i,inv i/\bh i=l/\μ i=m/\Rel X a w (ra (aZ i).bi) (rc (aZ i).cl) (aZ i).cD (aZ i).c0
 have y':∀ {p:ι->Prop} {l:Nat} {a w},(∀ i,p i->inv i/\bh i=l)->Sat X (pq X.foot aZ p) a w->∃ i,p i/\J l (μ i) a w:=by rintro p l a w aC⟨F,C,I,M,⟨β,af⟩,⟨j,qf,hw,bG,lf⟩⟩;exact⟨j,qf,j,(aC j qf).1,(aC j qf).2,rfl,β,(af.cR bG lf).hW hw⟩
 refine VN J (wpIn_mono (re aO c bx aV first) ?_) ?_
 ·intro e a w h;cases e with
  |goto l=>obtain⟨j,ai,bk⟩:=y' (p:=λj=>inv j/\bh j=l) (l:=l) (λ_ h=>h) h;exact⟨_,bk⟩
  |_=>exact h
 ·rintro l m a w⟨i,hi,rfl,rfl,af⟩;obtain⟨aa,ab⟩:=ts i hi;refine⟨_,aa,wpIn_mono (re aO _ ab af (pass i hi)) ?_⟩;intro e a w h;cases e with
  |goto ev=>obtain⟨j,ai,bk⟩:=y' (p:=λj=>(inv j/\bh j=ev)/\μ j<μ i) (l:=ev) (λ_ h=>h.1) h;exact⟨_,ai.2,bk⟩
  |_=>exact h
def DN(P:Program)(l:Nat)(args:List Value)(I:aJ)(M:List aD)(post:Value->aJ->List aD->Prop):Prop:=
 ∀ w,eE I M w->∃ f tmps assign body,(Instr.yield l args.toArray).run P w=.ok (.round l f tmps assign body) w /\ RoundIn Fence.wide 0 P l f tmps assign body w λe w'=>∃ v I' M',e=.returned v/\post v I' M'/\eE I' M' w'/\Kept I M w I' M' w'
inductive zm(P:Program)(l:Nat)(args:List Value)(I:aJ)(M:List aD)(K:Value->aJ->List aD->Prop):Prop
 |mk(eo Mr:List aD)(post:Value->aJ->List aD->Prop)(a':M.Perm (eo++Mr))(ar:DN P l args I eo post)(k:∀ v I' M',(∀ b o,I b=some o->I' b=some o)->post v I' M'->K v I' (M'++Mr))
def bz.yield{X:cU}{o:Oper}{F:Fr}{I:aJ}{K:gi}{args:Array Operand}{fK:Array TypeId}{l:Nat}(aH:o.op=.call { callee:=.value f,args,argTypes:=fK })(ak:∀ d,o.dst=some d->d<X.n)(aA:bE F f=.val (.func (.yield l) #[] #[]))(iL:mP F args.toList=some vs)
  (h:zm X.P l vs I M λv I' M'=>K (put o.dst (.val v) F) C I' M'):bz X o F C I M K:=by
 refine⟨λa w Q ⟨β,aV⟩=>?_⟩;obtain⟨eo,Mr,post,a',ar,ae⟩:=h;obtain⟨fn,tmps,assign,body,aE,af⟩:=ar w (aV.holds.part a');have aG:=ti aV.al iL;have ej:args.map a.eval=vs.toArray:=by apply gV;simpa using aG
 have a7:=dd aV.al aA;obtain⟨dst,op,ty,pos,after,guard⟩:=o;simp only at aH;subst aH;refine⟨λ_ _=>trivial,?_⟩;rw[JQ _ _ _ (by simp)];have fa:(execOp a.eval ⟨dst,.call { callee:=.value f,args,argTypes:=fK },ty,pos,after,guard⟩).run X.P w=.ok (.round l fn tmps assign body) w:=by simp only[execOp,resolve,a7,Deferred.ofValue,ck,c3,bV,ej,invoke];simpa using aE
 rw[fa,Oper.uponIn_round];refine⟨(λh=>by cases h),?_⟩;have eY:RoundIn (g8 X) (0-1) X.P l fn tmps assign body w _:=af;refine eY.mono ?_;rintro e w'⟨v,I',M',rfl,aC,q7,dZ⟩;exact⟨_,_,_,_,⟨β,(aV.after a' q7 dZ).put (x:=.val v) ak rfl⟩,ae v I' M' dZ.le aC⟩
def VO(A:(Nat->aJ->List aD->Prop)->Prop)(P:Program)(g:Nat)(cap:List Value)(I:aJ)(n:Nat)(Q:Nat->List Value->aJ->Prop):Prop:=
 ∀ (l:Nat) (R:Nat->aJ->List aD->Prop) (kS:aJ->List aD->Prop),A R -> (∀ k (ae:k<n) vs I' M',(∀ b o,I b=some o->I' b=some o)->Q k vs I'->R k I' M'->DN P l vs I' M' λv zn mb=>(v=.bool true/\R (k+1) zn mb)\/(v=.bool false/\kS zn mb)) -> ∀ dn M0,(∀ b o,I b=some o->dn b=some o)->R 0 dn M0->vN P g (.func (.yield l) #[] #[]::cap) dn M0 λ_ I' M'=>R n I' M'\/kS I' M'
def v8(R:Nat->aJ->List aD->Prop):Prop:=∀ k I I' M,(∀ b o,I b=some o->I' b=some o)->R k I M->R k I' M
def v8.cons(x:aD)(S:Nat->aJ->List aD->Prop)(h:v8 S):v8 λk I M=>∃ dq,M=x::dq/\S k I dq:=by rintro k I I' M bw⟨dq,e,cO⟩;exact⟨dq,e,h k I I' dq bw cO⟩
abbrev VP:=VO v8
def Iter(P:Program)(g:Nat)(cap:List Value)(I:aJ)(uJ:List (List Value)):Prop:=
 ∀ (l:Nat) (R:Nat->aJ->List aD->Prop) (kS:aJ->List aD->Prop),(∀ k (ae:k<uJ.length) I' M',(∀ b o,I b=some o->I' b=some o)->R k I' M'->DN P l uJ[k] I' M' λv zn mb=>(v=.bool true/\R (k+1) zn mb)\/(v=.bool false/\kS zn mb)) -> ∀ dn M0,(∀ b o,I b=some o->dn b=some o)->R 0 dn M0->vN P g (.func (.yield l) #[] #[]::cap) dn M0 λ_ I' M'=>R uJ.length I' M'\/kS I' M'
def DO:List Nat->List Value->Fr->Fr
 |t::ps,v::vs,F=>DO ps vs (fZ F t (.val v))| _,_,F=>F
def VQ(foot:List Nat)(N:aJ->List aD->Prop)(kS:tn->aJ->List aD->Prop):j3:=λex F C I M=>match ex with
 | .normal=>vV foot I M N| ex=>vV foot I M (kS ex)
def DP:tn->Option Code
 | .normal=>none| .exit id=>some (.exit id)| .goto l=>some (.goto l)| .ret=>some .ret
section
variable{X:cU}{β:Nat->Nat}{a:Act}{w:World}{F:Fr}{C:dC}{I:aJ}{M:List aD}
def VR:∀ (ps:List Nat) (vs:List Value) (F:Fr) (tmps:Array Value),(∀ t∈ps,t<tmps.size)->(∀ t,eT β (F t) (tmps.getD t undef)) ->
  let r:=(ps.zip vs).foldl (λ(tmps:Array Value) (p:Nat×Value)=>tmps.setIfInBounds p.1 p.2) tmps
  r.size=tmps.size/\∀ t,eT β (DO ps vs F t) (r.getD t undef)
 |[],vs,F,tmps,_,h=>⟨rfl,h⟩| t::ps,[],F,tmps,_,h=>⟨rfl,h⟩
 |t::ps,v::vs,F,tmps,aC,h=>by
  have aa:∀ s,eT β (fZ F t (.val v) s) ((tmps.setIfInBounds t v).getD s undef):=λs=>by have:=Ou (β:=β) (F:=F) (a:=⟨tmps,[]⟩) h (d:=t) (x:=.val v) (v:=v) (aC t (by simp)) rfl s;exact this
  have aL:=VR ps vs (fZ F t (.val v)) (tmps.setIfInBounds t v) (λs ar=>by simpa using aC s (by simp[ar])) aa;simp only[List.zip_cons_cons,js,DO];exact⟨by simpa using aL.1,aL.2⟩
def cK.VS(h:cK X β a w F C I M):cK X β { a with defers:=xx w.heap.size::a.defers } (w.alloc (.deferred (some []))) F C I M where
 size:=h.size
 defers:=by
  obtain⟨a0,aa,ab,aj⟩:=h.defers;refine⟨w.heap.size::a0,by simp[aa],?_,?_⟩;·rw[lL];refine⟨λhm=>?_,ab⟩;have:=(lK.1 (aj _ hm).dU).1;omega
  ·intro r af;rcases ec.1 af with rfl | af
   ·exact⟨Oq w _,h.sz,h.holds.sq,h.holds.q6⟩
   ·exact(aj r af).alloc _
 holds:=h.holds.alloc _
 al:=h.al
 cf s cs ar:=(h.cf s cs ar).alloc _
 inj:=h.inj
 ie:=h.ie
 hI:=h.hI
 own:=h.own
 dH:=Ow h.dH h.sz _
 out:=h.out
 sz:=by have:=h.sz;simp;omega
 fp:=h.fp
def cK.GO{n:Nat}{o o':Obj}(h:cK X β a w F C I (⟨n,o⟩::M)):cK X β a (w.putObj n o') F C I M:=by
 have gx:(⟨n,o⟩:aD)∈(⟨n,o⟩:aD)::M:=by simp
 have bF:=h.holds.cd;simp only[b0,lL]at bF;exact {
  size:=h.size
  defers:=h.defers.mono λr af=>by have bt:n≠r:=af.eW _ gx;refine { af with dU:=?_,eW:=λx ad=>af.eW x (by simp[ad]) };rw[nr (pj bt)];exact af.dU
  holds:={
   i:=λb o j1=>by rw[nr (λe=>by have:=h.holds.d _ gx;simp only at this;rw[e,this]at j1;cases j1)];exact h.holds.i b o j1
   m:=λx ad=>by rw[nr (λe=>bF.1 (cN.2 ⟨x,ad,e⟩))];exact h.holds.m x (by simp[ad])
   d:=λx ad=>h.holds.d x (by simp[ad])
   cd:=bF.2 }
  al:=h.al
  cf:=λs cs ar=>by have ag:=h.cf s cs ar;have bt:n≠β s:=ag.eW _ gx;obtain⟨T,bu⟩:=ag.dU;refine { ag with dU:=⟨T,?_⟩,eW:=λx ad=>ag.eW x (by simp[ad]) };rw[nr (pj bt)];exact bu
  inj:=h.inj
  ie:=h.ie
  hI:=h.hI
  own:=λx ad=>h.own x (by simp[ad])
  dH:=λb ag aA=>by
   rw[nr (λe=>by
    rcases h.own _ gx with aa | aa;·simp only at aa;exact aA (e ▸ aa)
    ·simp only at aa;omega)]
   exact h.dH b ag aA
  out:=h.out.trans (JU _ _ _)
  sz:=by have:=h.sz;simpa using this
  fp:=h.fp }
def cV.Kk{K:j3}{n:Nat}{Q:Nat->List Value->aJ->Prop}{A:(Nat->aJ->List aD->Prop)->Prop}(dJ:∀ x S,A S->A λk I M=>∃ dq,M=x::dq/\S k I dq)(aO:cT X.P X.E)(gj:X.ro=none)(bx:(codeOk X.n fg&&(codeOk X.n body&&ps.toList.all (λt=>Nat.blt t X.n)))=true)(OV:bE F f=.val (.func (.func g) #[] cap))(OW:ic X.foot I M I1 M1)(BE:VO A X.P g cap.toList I1 n Q)(c2:∀ k vs I,k<n->Q k vs I->vs.length=ps.size)(R:Nat->aJ->List aD->Prop)(kS:tn->aJ->List aD->Prop)(xP:A R)(start:R 0 I1 M1)(round:∀ k (ae:k<n) vs I' M',(∀ b o,I1 b=some o->I' b=some o)->Q k vs I'->R k I' M'->∀ l B az iO,V ⟨X.P,X.E,X.gC,X.n,B,az,I',M'.map (·.num),some l⟩ fg (DO ps.toList vs F) (λ_=>none) I' M' (y9 (λF C I M=>V ⟨X.P,X.E,X.gC,X.n,B,iO,I',M'.map (·.num),some l⟩ body F C I M (VQ (M'.map (·.num)) (R (k+1)) kS)) (λ_ _ _ _ _=>False)))(done:∀ I' M',(∀ b o,I1 b=some o->I' b=some o)->R n I' M'->K .normal F C I' M')(stop:∀ ex I' M',(∀ b o,I1 b=some o->I' b=some o)->kS ex I' M'->ex≠.normal/\K ex F C I' M') :
  cV X (.rangeFunc f ps fg body) F C I M K:=by
 refine⟨λa w ⟨β,iA⟩=>?_⟩;have aV:=iA.hW OW;simp only[cz]at bx;obtain⟨xQ,mc,GP⟩:=bx;refine wpIn_rangeFunc λfn _=>?_;let gH (s:LoopState) (qm:Option Code):Loop:={ state:=s,pending:=qm,fn:=fn,tmps:=a.tmps,params:=ps,assign:=fg,body:=body,defers:=w.heap.size }
 let l:=w.heap.size+1
 let ku:World:=(w.alloc (.deferred (some []))).alloc (.loop (gH .ready none))
 have BF:=aV.VS.nY (.loop (gH .ready none));have ay:(w.alloc (.deferred (some []))).heap.size=l:=by simp[l]
 rw[ay]at BF;let xR (k:Nat) (I':aJ) (M':List aD):Prop:=∃ dq,M'=⟨l,.loop (gH .ready none)⟩::dq/\R k I' dq
 let VT (I':aJ) (M':List aD):Prop:=∃ ex c dq,DP ex=some c/\M'=⟨l,.loop (gH .done (some c))⟩::dq/\kS ex I' dq
 have aE:∀ k (ae:k<n) vs I' M',(∀ b o,I1 b=some o->I' b=some o)->Q k vs I'->xR k I' M'->DN X.P l vs I' M' λv zn mb=>(v=.bool true/\xR (k+1) zn mb)\/(v=.bool false/\VT zn mb):=by
  rintro k ae vs I' _ bm q'⟨dq,rfl,agS⟩W hX;have GQ:W.heap[l]?=some (.loop (gH .ready none)):=hX.m ⟨l,.loop (gH .ready none)⟩ (by simp);have aX:l<W.heap.size:=(lK.1 GQ).1;have bF:=hX.cd;simp only[b0,lL]at bF;have VU:I' l=none:=hX.d ⟨l,.loop (gH .ready none)⟩ (by simp);refine⟨_,_,_,_,run_yield GQ (by simpa using c2 _ _ _ ae q'),?_⟩;have rz:((gH LoopState.ready none).params.zip vs.toArray).foldl (λtmps (x:Nat×Value)=>match x with | (t,a)=>tmps.setIfInBounds t a) (gH LoopState.ready none).tmps=(ps.toList.zip vs).foldl (λ(tmps:Array Value) (p:Nat×Value)=>tmps.setIfInBounds p.1 p.2) a.tmps:=by rw[<-Ol];simp[gH]
  have OX:=VR (β:=β) ps.toList vs F a.tmps (λt av=>by
   have:=fy.1 GP t av;rw[aV.size];exact bJ this) aV.al
  rw[<-rz]at OX;refine roundIn_of_wpIn (F:=Fence.wide) (n:=0) trivial ?_;let v9:cU:=⟨X.P,X.E,X.gC,X.n,W.heap.size,W,I',dq.map (·.num),some l⟩
  let iO:=W.putObj l (.loop (gH .busy none))
  let GR:cU:=⟨X.P,X.E,X.gC,X.n,W.heap.size,iO,I',dq.map (·.num),some l⟩
  have ah:=round k ae vs I' dq bm q' agS l W.heap.size W iO;have Gr:cK v9 β { tmps:=((gH LoopState.ready none).params.zip vs.toArray).foldl (λtmps (x:Nat×Value)=>match x with | (t,a)=>tmps.setIfInBounds t a) (gH LoopState.ready none).tmps,defers:=[] } W (DO ps.toList vs F) (λ_=>none) I' dq:={
   size:=OX.1.trans aV.size
   defers:=⟨[],rfl,Du,λr af=>by cases af⟩
   holds:=⟨hX.i,λx ad=>hX.m x (by simp[ad]),λx ad=>hX.d x (by simp[ad]),bF.2⟩
   al:=OX.2
   cf:=λs cs ar=>by cases ar
   inj:=λs b3 aa=>by simp at aa
   ie:=λb o ag=>ag
   hI:=λb o ag=>.inl ag
   own:=λx ad=>.inl (cN.2 ⟨x,ad,rfl⟩)
   dH:=λb ag aA=>rfl
   out:=.refl _
   sz:=ca _
   fp:=λx ad=>by
    obtain⟨y,aE,rfl⟩:=cN.1 ad;exact(lK.1 (hX.m y (by simp[aE]))).1 }
  have J2:=re (X:=v9) aO fg xQ ⟨β,Gr⟩ ah;refine wpIn_mono (Q:=mS v9 _) J2 ?_;intro e cC h1 ar;cases e with
  |exit id=>obtain⟨_,_,_,_,_,ae⟩:=ar;exact ae.elim
  |goto id=>obtain⟨_,_,_,_,_,ae⟩:=ar;exact ae.elim
  |ret=>obtain⟨_,_,_,_,_,ae⟩:=ar;exact ae.elim
  |panic Gq=>exact ar.elim| outgrown=>exact ar.elim
  |normal=>
   obtain⟨lQ,agT,dI,sA,⟨VV,h0⟩,JY⟩:=ar;have xS:h1.heap[l]?=some (.loop (gH .ready none)):=by rw[h0.dH l aX bF.1];exact GQ
   refine⟨_,run_beginRound xS rfl,?_⟩;have agU:dI l=none:=by
    cases bw:dI l with
    |none=>rfl
    |some o=>
     rcases h0.hI _ _ bw with aa | aa;·rw[show v9.dn=I' from rfl,VU]at aa;cases aa
     ·exact absurd aa (Nat.not_le.2 aX)
   have agV:∀ x∈sA,x.num≠l:=λx ad e=>by
    rcases h0.own x ad with aa | aa;·rw[e]at aa;exact bF.1 aa
    ·rw[e]at aa;exact absurd aa (Nat.not_le.2 aX)
   have pz:cK GR VV cC (h1.putObj l (.loop (gH .busy none))) lQ agT dI sA:={
    size:=h0.size
    defers:=by obtain⟨a0,a8,ba,bQ⟩:=h0.defers;refine⟨a0,a8,ba,λr fJ=>?_⟩;have af:=bQ r fJ;refine { dU:=?_,cR:=af.cR,jZ:=af.jZ,eW:=af.eW };rw[nr (λe=>by have aa:=af.dU;rw[e,xS]at aa;cases aa)];exact af.dU
    holds:={
     i:=λb o j1=>by rw[nr (λe=>by rw[e,agU]at j1;cases j1)];exact h0.holds.i b o j1
     m:=λx ad=>by rw[nr (agV x ad)];exact h0.holds.m x ad
     d:=h0.holds.d
     cd:=h0.holds.cd }
    al:=h0.al
    cf:=λs cs ar=>by have ag:=h0.cf s cs ar;obtain⟨T,bu⟩:=ag.dU;refine { dU:=⟨T,?_⟩,cR:=ag.cR,jZ:=ag.jZ,eW:=ag.eW };rw[nr (λe=>by rw[e,xS]at bu;cases bu)];exact bu
    inj:=h0.inj
    ie:=h0.ie
    hI:=h0.hI
    own:=h0.own
    dH:=λb ag aA=>by
     by_cases e:b=l;·subst e;rw[DH (lK.1 xS).1];exact(DH aX).symm
     ·rw[nr e];show _=(W.putObj l (.loop (gH .busy none))).heap[b]?;rw[nr e];exact h0.dH b ag aA
    out:=⟨h0.out.1,h0.out.2⟩
    sz:=by have:=h0.sz;simpa using this
    fp:=h0.fp }
   have agW:=re (X:=GR) aO body mc ⟨VV,pz⟩ JY;refine wpIn_mono (Q:=mS GR _) agW ?_;have fin:∀ (dT:Act) (me:World) (v':Fr) (wa:dC) (h2:aJ) (rA:List aD) (jump:Option Code),Rel GR dT me v' wa h2 rA->∃ iP,(Instr.endRound l jump).run X.P me=.ok (.bool jump.isNone) iP /\
     eE h2 (⟨l,.loop (gH (if jump.isNone then .ready else .done) jump)⟩::rA) iP/\Kept I' (⟨l,.loop (gH .ready none)⟩::dq) W h2 (⟨l,.loop (gH (if jump.isNone then .ready else .done) jump)⟩::rA) iP:=by
    rintro dT me v' wa h2 rA jump⟨zo,aj⟩;have zp:me.heap[l]?=some (.loop (gH .busy none)):=by rw[aj.dH l aX bF.1];exact DH aX
    have VW:h2 l=none:=by
     cases bw:h2 l with
     |none=>rfl
     |some o=>
      rcases aj.hI _ _ bw with aa | aa;·rw[show GR.dn=I' from rfl,VU]at aa;cases aa
      ·exact absurd aa (Nat.not_le.2 aX)
    have VX:∀ x∈rA,x.num≠l:=λx ad e=>by
     rcases aj.own x ad with aa | aa;·rw[e]at aa;exact bF.1 aa
     ·rw[e]at aa;exact absurd aa (Nat.not_le.2 aX)
    refine⟨_,run_endRound jump zp,?_,?_⟩
    ·exact {
      i:=λb o j1=>by rw[nr (λe=>by rw[e,VW]at j1;cases j1)];exact aj.holds.i b o j1
      m:=λx ad=>by
       rcases ec.1 ad with rfl | ad;·exact DH (lK.1 zp).1
       ·rw[nr (VX x ad)];exact aj.holds.m x ad
      d:=λx ad=>by
       rcases ec.1 ad with rfl | ad;·exact VW
       ·exact aj.holds.d x ad
      cd:=by
       simp only[b0,lL];refine⟨λhm=>?_,aj.holds.cd⟩;obtain⟨x,ad,e⟩:=cN.1 hm;exact VX x ad e }
    ·exact {
      le:=aj.ie
      uy:=aj.hI
      vM:=λx ad=>by
       rcases ec.1 ad with rfl | ad;·exact .inl ⟨⟨l,.loop (gH .ready none)⟩,by simp,rfl⟩
       ·rcases aj.own x ad with aa | aa
        ·obtain⟨y,aE,e⟩:=cN.1 aa;exact .inl ⟨y,by simp[aE],e⟩
        ·exact .inr aa
      dH:=λb ag bt=>by
       have mf:b≠l:=λe=>bt ⟨l,.loop (gH .ready none)⟩ (by simp) e.symm;rw[nr mf,aj.dH b ag (λhm=>by
        obtain⟨y,aE,e⟩:=cN.1 hm;exact bt y (by simp[aE]) e)]
       exact nr mf
      out:=⟨aj.out.1,aj.out.2⟩
      sz:=by have:=aj.sz;simpa using this }
   intro e dT me zq;cases e with
   |normal=>obtain⟨v',wa,h2,rA,⟨zo,aj⟩,⟨rB,pA,BG,aC⟩⟩:=zq;obtain⟨iP,aI,bB,b4⟩:=fin dT me v' wa rB pA none ⟨zo,aj.hW BG⟩;exact⟨_,iP,aI,_,_,_,rfl,.inl ⟨rfl,_,rfl,aC⟩,bB,b4⟩
   |exit id=>obtain⟨v',wa,h2,rA,⟨zo,aj⟩,⟨rB,pA,BG,aC⟩⟩:=zq;obtain⟨iP,aI,bB,b4⟩:=fin dT me v' wa rB pA (some (.exit id)) ⟨zo,aj.hW BG⟩;exact⟨_,iP,aI,_,_,_,rfl,.inr ⟨rfl,.exit id,_,_,rfl,rfl,aC⟩,bB,b4⟩
   |goto id=>obtain⟨v',wa,h2,rA,⟨zo,aj⟩,⟨rB,pA,BG,aC⟩⟩:=zq;obtain⟨iP,aI,bB,b4⟩:=fin dT me v' wa rB pA (some (.goto id)) ⟨zo,aj.hW BG⟩;exact⟨_,iP,aI,_,_,_,rfl,.inr ⟨rfl,.goto id,_,_,rfl,rfl,aC⟩,bB,b4⟩
   |ret=>obtain⟨v',wa,h2,rA,⟨zo,aj⟩,⟨rB,pA,BG,aC⟩⟩:=zq;obtain⟨iP,aI,bB,b4⟩:=fin dT me v' wa rB pA (some .ret) ⟨zo,aj.hW BG⟩;exact⟨_,iP,aI,_,_,_,rfl,.inr ⟨rfl,.ret,_,_,rfl,rfl,aC⟩,bB,b4⟩
   |panic Gq=>exact zq.elim| outgrown=>exact zq.elim
 obtain⟨qe,Bp⟩:=BE l xR VT (dJ _ _ xP) aE I1 (⟨l,.loop (gH .ready none)⟩::M1) (λ_ _ h=>h) ⟨M1,rfl,start⟩;have mY:=Bp ku BF.holds;have a7:=dd aV.al OV;refine⟨l,[xx w.heap.size],ku,{ target:=.fn (.func g) cap,args:=#[.func (.yield l) #[] #[]] },ku,g,(.func (.yield l) #[] #[]::cap.toList).toArray,ku,?_,?_,λ_ _=>trivial,?_,(λh=>by cases h),?_⟩
 ·have OY:(g8 X).round=none:=gj;rw[OY];exact run_enterLoop_outer fn a.tmps ps fg body
 ·show(Deferred.ofValue (a.eval f) (#[Operand.const (.func (.yield l) #[] #[])].map a.eval)).run X.P ku=_;rw[a7];simp[Deferred.ofValue,Act.eval]
 ·simp only[invoke];rw[show #[Value.func (.yield l) #[] #[]]++cap=(.func (.yield l) #[] #[]::cap.toList).toArray from by apply gV;simp];exact qe _ _
 ·refine(Oz (X:=X) mY _).mono ?_;rintro e me⟨v,I',M',rfl,aC,q7,dZ⟩;have pB:=BF.after (Mr:=[]) (by simp) q7 dZ;rw[ee]at pB;have bm:=dZ.le;rcases aC with⟨dq,rfl,VY⟩ | ⟨ex,c,dq,an,rfl,agX⟩
  ·refine⟨none,_,run_endLoop (q7.m ⟨l,.loop (gH .ready none)⟩ (by simp)) (by simp[gH]),?_⟩;exact⟨F,C,I',dq,⟨β,pB.GO⟩,done I' dq bm VY⟩
  ·refine⟨some c,_,run_endLoop (q7.m ⟨l,.loop (gH .done (some c))⟩ (by simp)) (by simp[gH]),?_⟩;obtain⟨bt,ae⟩:=stop ex I' dq bm agX;cases ex with
   |normal=>exact(bt rfl).elim| exit id=>cases an;exact wpIn_exit ⟨F,C,I',dq,⟨β,pB.GO⟩,ae⟩| goto id=>cases an;exact wpIn_goto ⟨F,C,I',dq,⟨β,pB.GO⟩,ae⟩| ret=>cases an;exact wpIn_ret ⟨F,C,I',dq,⟨β,pB.GO⟩,ae⟩
def cV.range{K:j3}{uJ:List (List Value)}(aO:cT X.P X.E)(gj:X.ro=none)(bx:(codeOk X.n fg&&(codeOk X.n body&&ps.toList.all (λt=>Nat.blt t X.n)))=true)(OV:bE F f=.val (.func (.func g) #[] cap))(OW:ic X.foot I M I1 M1)(BE:Iter X.P g cap.toList I1 uJ)(c2:∀ vs∈uJ,vs.length=ps.size)(R:Nat->aJ->List aD->Prop)(kS:tn->aJ->List aD->Prop)(start:R 0 I1 M1)(round:∀ k (ae:k<uJ.length) I' M',(∀ b o,I1 b=some o->I' b=some o)->R k I' M'->∀ l B az iO,V ⟨X.P,X.E,X.gC,X.n,B,az,I',M'.map (·.num),some l⟩ fg (DO ps.toList uJ[k] F) (λ_=>none) I' M' (y9 (λF C I M=>V ⟨X.P,X.E,X.gC,X.n,B,iO,I',M'.map (·.num),some l⟩ body F C I M (VQ (M'.map (·.num)) (R (k+1)) kS)) (λ_ _ _ _ _=>False)))(done:∀ I' M',(∀ b o,I1 b=some o->I' b=some o)->R uJ.length I' M'->K .normal F C I' M')(stop:∀ ex I' M',(∀ b o,I1 b=some o->I' b=some o)->kS ex I' M'->ex≠.normal/\K ex F C I' M') :
  cV X (.rangeFunc f ps fg body) F C I M K:=by
 refine cV.Kk (A:=λ_=>True) (Q:=λk vs _=>uJ[k]?=some vs) (λ_ _ _=>trivial) aO gj bx OV OW (n:=uJ.length) ?_ (λk vs _ _ h=>c2 vs (st h)) R kS trivial start (λk ae vs I' M' bm h aV=>?_) done stop
 ·intro l R kS _ h;exact BE l R kS λk ae I' M' bm aV=>h k ae _ I' M' bm (dg ae) aV
 ·obtain⟨_,rfl⟩:=ia.1 h;exact round k ae I' M' bm aV
end
structure aY where
 a:Option Nat
 n:Nat
 c:Nat
 aT:List Value
def aY.val(o:aY):Value:=.slice (o.a.map λg=>⟨g,0,none⟩) o.n o.c
def aY.aq(o:aY)(e:Nat):List aD:=match o.a with
 |some g=>[⟨g,.cells o.aT.toArray e (0,0)⟩]| none=>[]
structure aY.ok(o:aY)(size:Nat)(xs:List Value):Prop where
 len:xs.length=o.n*size
 nil:o.a=none->o.n=0/\o.c=0
 cap:∀ g,o.a=some g->o.aT.length=o.c*size/\o.n<=o.c/\o.c<=maxLen/\o.aT.take (o.n*size)=xs
section
variable{P:Program}{w:World}
def OZ(t u ty e:Nat)(i:TypeInfo)(z:Value)(av:P.underlying t=some (.slice e)){mg:TypeDesc}(hu:P.underlying u=some mg)(n1:∀ k,mg≠.int k)(hi:P.info? e=some i)(bb:i.zero=some z)(qo:z.cells.size=i.size)
  {os:aY} (bx:os.ok i.size xs) (au:∀ g,os.a=some g->w.heap[g]?=some (.cells os.aT.toArray e (0,0)))
  {x:Value} (hm:0<m) (ay:b8.length=m*i.size) (aa:∀ v∈b8,v.oneCell'=true)
  (c2:∀ w',(Builtin.lenOf x).run P w'=.ok m w') (e7:∀ w':World,w'.heap=w.heap->(Builtin.firstCells i.size m x).run P w'=.ok b8.toArray w')
  (b1:os.n+m<=maxLen) (bW:(os.n+m)*i.bytes<=140737488355328) :
  ∃ (g c:Nat) (aT:List Value) (w':World),(Builtin.append_ #[t,u] ty #[os.val,x]).run P w=.ok (.slice (some ⟨g,0,none⟩) (os.n+m) c) w'/\aT.length=c*i.size/\os.n+m<=c/\c<=maxLen/\aT.take ((os.n+m)*i.size)=xs++b8 /\
   ((os.a=some g/\w'=w.setRow g aT.toArray)\/(g=w.heap.size/\w'=w.drew.alloc (.cells aT.toArray e (0,0)))):=by
 obtain⟨a,n,c,aT⟩:=os;have DQ:(xs++b8).length=(n+m)*i.size:=by rw[ch,bx.len,ay,lO]
 have Kl:∀ dH,(xs++b8++(Builtin.zeroCells z.cells (grownCap w (n+m) dH e-(n+m))).toList).length=grownCap w (n+m) dH e*i.size/\n+m<=grownCap w (n+m) dH e/\grownCap w (n+m) dH e<=maxLen /\
   (xs++b8++(Builtin.zeroCells z.cells (grownCap w (n+m) dH e-(n+m))).toList).take ((n+m)*i.size)=xs++b8:=by
  intro dH;have cI:=grownCap_ge w (n+m) dH e;have kv:grownCap w (n+m) dH e<=maxLen:=grownCap_le_maxLen w (n+m) dH e b1;refine⟨?_,cI,kv,?_⟩;·rw[ch,DQ,zd,size_zeroCells,qo,<-lO];congr 1;omega
  ·rw[<-DQ];exact ze
 have GS:(match mg with | .int _=>true | _=>false)=false:=by cases mg<;>first | rfl | exact(n1 _ rfl).elim
 have ho:n+m<=9223372036854775807:=by simp only[maxLen]at b1;exact b1
 cases a with
 |none=>
  obtain⟨uK,zr⟩:=bx.nil rfl;simp only at uK zr;subst uK;subst zr;have ad:xs=[]:=iy (by simpa using bx.len);subst ad;simp only[c8,iz]at *;have az:0<m:=hm;have aB:m≠0:=by omega
  have BH:¬ (9223372036854775807<(m:Int)):=by omega
  have BI:¬ (281474976710656<Builtin.nextslicecap m 0*i.bytes):=by rw[nextslicecap_zero az];omega
  have aA:=e7 w.drew rfl;obtain⟨a8,ba,bQ,ft⟩:=Kl 0;refine⟨w.heap.size,grownCap w m 0 e,_,w.drew.alloc (.cells (b8++(Builtin.zeroCells z.cells (grownCap w m 0 e-m)).toList).toArray e),?_,a8,ba,bQ,ft,.inr ⟨rfl,rfl⟩⟩;simp[aY.val,Builtin.append_,run_underlying av,run_underlying hu,sizeOf,typeInfo,zeroValue,hi,bb,c2,aB,BH,BI,Question.forced,run_firstCells_none,aA,newRow,grownCap];congr 2;apply gV;simp
 |some g=>
  obtain⟨dX,mZ,kv,m0⟩:=bx.cap g rfl;have O0:=au g rfl;simp only at dX mZ kv m0 O0;by_cases uL:n+m<=c
  ·have jv:n*i.size+b8.length<=aT.length:=by rw[ay,dX,<-lO];exact vK _ uL
   have er:=run_storeCells_at P g (n*i.size) e b8 0 aT.toArray w O0 (by simpa using jv) aa;simp only[qb]at er;refine⟨g,c,aT.take (n*i.size)++b8++aT.drop (n*i.size+b8.length),_,?_,?_,uL,kv,?_,.inl ⟨rfl,rfl⟩⟩;·have aA:=e7 w rfl;simp[aY.val,Builtin.append_,run_underlying av,run_underlying hu,sizeOf,typeInfo,hi,c2,uL,aA,Addr.add_lit,er]
   ·simp only[ch,hx,tp];omega
   ·rw[m0,<-DQ];exact ze
  ·have aB:¬ (n+m<=c):=by omega
   have BH:¬ (9223372036854775807<((n:Int)+(m:Int))):=by omega
   have BI:¬ (281474976710656<Builtin.nextslicecap (n+m) c*i.bytes):=by have:=growslice_fits (by omega:c<n+m) bW;omega
   have aA:=e7 w.drew rfl;have agY:∀ j v,xs[j]?=some v->w.drew.cell? ((⟨g,0,none⟩:Addr).add j)=some v:=by
    intro j v ai;have oH:w.drew.heap[g]?=some (.cells aT.toArray e (0,0)):=O0;rw[eP _ rfl,tk oH];rw[<-m0,k7]at ai;split at ai;·simpa using ai
    ·cases ai
   have O1:=run_firstCells_some (P:=P) w.drew i.size n ⟨g,0,none⟩ n c xs bx.len agY;obtain⟨a8,ba,bQ,ft⟩:=Kl c;refine⟨w.heap.size,grownCap w (n+m) c e,_,w.drew.alloc (.cells (xs++b8++(Builtin.zeroCells z.cells (grownCap w (n+m) c e-(n+m))).toList).toArray e),?_,a8,ba,bQ,ft,.inr ⟨rfl,rfl⟩⟩;simp[aY.val,Builtin.append_,run_underlying av,run_underlying hu,sizeOf,typeInfo,zeroValue,hi,bb,c2,aB,BH,BI,Question.forced,aA,O1,newRow,grownCap];congr 2;apply gV;simp
end
section
variable{X:cU}{β:Nat->Nat}{a:Act}{w:World}{F:Fr}{C:dC}{I:aJ}{M:List aD}{o:Oper}{K:gi}
def O2(aO:cT X.P X.E){t:Nat}(aH:o.op=.call { callee:=.builtin .append,args:=#[s,x],argTypes:=#[t,u] })(ak:∀ d,o.dst=some d->d<X.n)
 (av:X.E t=some c7) (dR:c7.bL=.slice e) (hu:X.E u=some lP) (fE:∀ k,lP.bL≠.int k) (he:X.E e=some aF)
  (os:aY) (bx:os.ok aF.size xs) (ar:bE F s=.val os.val)
  {pC:Value} (ad:bE F x=.val pC) (hm:0<m) (ay:b8.length=m*aF.size) (aa:gv b8=true)
  (c2:∀ w',(Builtin.lenOf pC).run X.P w'=.ok m w') (e7:∀ w,eE I M w->(Builtin.firstCells aF.size m pC).run X.P w=.ok b8.toArray w)
 (a':M.Perm (os.aq e++Mr)) (b1:os.n+m<=maxLen) (bW:(os.n+m)*aF.bytes<=140737488355328)
  (k:∀ (g c:Nat) (aT:List Value),I g=none->aT.length=c*aF.size->os.n+m<=c->c<=maxLen->aT.take ((os.n+m)*aF.size)=xs++b8 ->
   K (put o.dst (.val (.slice (some ⟨g,0,none⟩) (os.n+m) c)) F) C I (⟨g,.cells aT.toArray e (0,0)⟩::Mr)):bz X o F C I M K:=by
 refine⟨λa w Q ⟨β,iA⟩=>?_⟩;have aV:cK X β a w F C I (os.aq e++Mr):=iA.hW (.perm a' .refl);obtain⟨inf,z,hi,fr,iN,iw,kp⟩:=(aO _ _ he).inf;obtain⟨d,fF,fk⟩:=(aO _ _ hu).fo;obtain⟨fL,jL,j7⟩:=(aO _ _ av).fo;have qp:fL=.slice e:=by rw[dR]at j7;cases fL<;>simp_all[fm]
 subst qp;have qo:z.cells.size=inf.size:=by rw[fr,<-(aO _ _ he).len,<-kp];simp
 rw[<-fr]at bx ay e7;obtain⟨g,c,aT,w',fa,a8,ba,bQ,ft,lj⟩:=OZ (P:=X.P) (w:=w) t u o.type e inf z jL fF (λk cX=>fE k (by rw[<-fk,cX];rfl)) hi iw qo bx (λg au=>aV.holds.m ⟨g,.cells os.aT.toArray e (0,0)⟩ (by simp[aY.aq,au])) (x:=pC) hm ay (y2 aa) c2 (λw' xT=>e7 w' (iA.holds.heap xT)) b1 (by rw[iN];exact bW);rw[fr]at a8 ft;have zs:I g=none:=by
  rcases lj with⟨au,_⟩ | ⟨rfl,_⟩;·exact aV.holds.d ⟨g,.cells os.aT.toArray e (0,0)⟩ (by simp[aY.aq,au])
  ·cases bw:I w.heap.size with
   |none=>rfl| some nC=>have:=aV.holds.i _ _ bw;simp at this
 have es:=dd aV.al ar;have ex:=dd aV.al ad;refine iY (by rw[aH];simp) (v:=.slice (some ⟨g,0,none⟩) (os.n+m) c) (w':=w') ?_ ⟨_,_,_,_,⟨β,cK.put (x:=.val (.slice (some ⟨g,0,none⟩) (os.n+m) c)) ?_ ak rfl⟩,k g c aT zs a8 ba bQ ft⟩
 ·unfold execOp;simp only[aH,resolve,invoke,builtin,ck,c3,bV,su,b0,hy,es,ex,fa]
 ·rcases lj with⟨au,rfl⟩ | ⟨rfl,rfl⟩
  ·have ag:os.aq e=[⟨g,.cells os.aT.toArray e (0,0)⟩]:=by simp[aY.aq,au]
   rw[ag]at aV;exact aV.xA (a9:=[]) (post:=Mr) rfl
  ·have ab:cK X β a w.drew F C I (os.aq e++Mr):=aV.world rfl;have aj:=ab.nY (.cells aT.toArray e (0,0));refine aj.hW (.sub ?_ .refl);exact List.Sublist.cons_cons _ (l' _ _)
def bz.append(aO:cT X.P X.E){t:Nat}(aH:o.op=.call { callee:=.builtin .append,args:=#[s,x],argTypes:=#[t,t] })(ak:∀ d,o.dst=some d->d<X.n)
 (av:X.E t=some c7) (dR:c7.bL=.slice e) (he:X.E e=some aF)
  (os:aY) (bx:os.ok aF.size xs) (ar:bE F s=.val os.val)
 (ad:bE F x=.val (.slice (some aS) m c')) (hm:0<m) (aB:cF I M aS (m*aF.size) b8) (aa:gv b8=true)
 (a':M.Perm (os.aq e++Mr)) (b1:os.n+m<=maxLen) (bW:(os.n+m)*aF.bytes<=140737488355328)
  (k:∀ (g c:Nat) (aT:List Value),aT.length=c*aF.size->os.n+m<=c->c<=maxLen->aT.take ((os.n+m)*aF.size)=xs++b8 ->
   K (put o.dst (.val (.slice (some ⟨g,0,none⟩) (os.n+m) c)) F) C I (⟨g,.cells aT.toArray e (0,0)⟩::Mr)):bz X o F C I M K:=by
 refine O2 aO aH ak av dR av (λk=>by rw[dR];simp) he os bx ar ad hm ?_ aa (λ_=>rfl) (λw hw=>?_) a' b1 bW (λg c aT _=>k g c aT)
 ·obtain⟨_,_,_,_,_,_,h⟩:=aB;exact h
 ·obtain⟨dL,cs,T,al,e',ah,ay⟩:=aB;refine run_firstCells_some (P:=X.P) w aF.size m aS m c' b8 ay λj v ai=>?_;rw[eP _ dL,tk (e'.heap hw)];rw[<-ah,k7]at ai;split at ai
  ·rw[nX]at ai;simpa using ai
  ·cases ai
def bz.GU(aO:cT X.P X.E){t:Nat}(aH:o.op=.call { callee:=.builtin .append,args:=#[s,x],argTypes:=#[t,t] })(ak:∀ d,o.dst=some d->d<X.n)
 (av:X.E t=some c7) (dR:c7.bL=.slice e) (he:X.E e=some aF)
  (os:aY) (bx:os.ok aF.size xs) (ar:bE F s=.val os.val)
 (ad:bE F x=.val (.slice (some aS) m c')) (hm:0<m) (aB:cF I M aS (m*aF.size) b8) (aa:gv b8=true)
 (a':M.Perm (os.aq e++Mr)) (b1:os.n+m<=maxLen) (bW:(os.n+m)*aF.bytes<=140737488355328)
  (k:∀ (g c:Nat) (aT:List Value),I g=none->aT.length=c*aF.size->os.n+m<=c->c<=maxLen->aT.take ((os.n+m)*aF.size)=xs++b8 ->
   K (put o.dst (.val (.slice (some ⟨g,0,none⟩) (os.n+m) c)) F) C I (⟨g,.cells aT.toArray e (0,0)⟩::Mr)):bz X o F C I M K:=by
 refine O2 aO aH ak av dR av (λk=>by rw[dR];simp) he os bx ar ad hm ?_ aa (λ_=>rfl) (λw hw=>?_) a' b1 bW k
 ·obtain⟨_,_,_,_,_,_,h⟩:=aB;exact h
 ·obtain⟨dL,cs,T,al,e',ah,ay⟩:=aB;refine run_firstCells_some (P:=X.P) w aF.size m aS m c' b8 ay λj v ai=>?_;rw[eP _ dL,tk (e'.heap hw)];rw[<-ah,k7]at ai;split at ai
  ·rw[nX]at ai;simpa using ai
  ·cases ai
def lk(s:ByteArray):List Value:=s.data.toList.map λb=>.int .u8 b.toNat
def bz.agZ(aO:cT X.P X.E){t:Nat}(aH:o.op=.call { callee:=.builtin .append,args:=#[s,x],argTypes:=#[t,u] })(ak:∀ d,o.dst=some d->d<X.n)
 (av:X.E t=some c7) (dR:c7.bL=.slice e) (hu:X.E u=some lP) (fE:lP.bL=.string) (he:X.E e=some aF) (df:aF.size=1)
  (os:aY) (bx:os.ok aF.size xs) (ar:bE F s=.val os.val)
  {str:ByteArray} (ad:bE F x=.val (.string str)) (hm:0<str.size)
 (a':M.Perm (os.aq e++Mr)) (b1:os.n+str.size<=maxLen) (bW:(os.n+str.size)*aF.bytes<=140737488355328)
  (k:∀ (g c:Nat) (aT:List Value),aT.length=c*aF.size->os.n+str.size<=c->c<=maxLen->aT.take ((os.n+str.size)*aF.size)=xs++lk str ->
   K (put o.dst (.val (.slice (some ⟨g,0,none⟩) (os.n+str.size) c)) F) C I (⟨g,.cells aT.toArray e (0,0)⟩::Mr)):bz X o F C I M K:=by
 refine O2 aO aH ak av dR hu (λk=>by rw[fE];simp) he os bx ar ad hm ?_ ?_ (λ_=>rfl) (λw hw=>?_) a' b1 bW (λg c aT _=>k g c aT)
 ·simp[lk,df]
 ·refine fy.2 λv ah=>?_;obtain⟨b,_,rfl⟩:=cN.1 ah;rfl
 ·simp only[Builtin.firstCells,c3];congr 1;apply gV;have aG:str.extract 0 str.size=str:=by apply vL;simp[JO]
  simp[lk,aG]
end
section
variable{X:cU}{F:Fr}{C:dC}{I:aJ}{M:List aD}{o:Oper}{K:gi}
def VZ{t:Nat}(av:P.underlying t=some (.array 4 e)){k:IntKind}(he:P.underlying e=some (.int k)){inf:TypeInfo}(hi:P.info? e=some inf)(ar:inf.size=1)(fC cC dQ dT oI b1 bW cY:Int)(w:World) :
  (Op.equal t (.agg #[.int k fC,.int k cC,.int k dQ,.int k dT]) (.agg #[.int k oI,.int k b1,.int k bW,.int k cY])).run P w=.ok (fC == oI&&(cC == b1&&(dQ == bW&&dT == cY))) w:=by
 have Km:∀ (xs:Array Value) (i:Nat) (v:Value) (w:World),xs[i]?=some v->(part e xs i).run P w=.ok v w:=λxs i v w h=>by
  have Ge:(isAgg e).run P w=.ok false w:=by unfold isAgg;simp[run_underlying he]
  unfold part;simp[Ge,sizeOf,typeInfo,hi,ar,h]
 have hint:∀ (d:Nat) (x y:Int) (w:World),(Op.equalIn (d+1) e (.int k x) (.int k y)).run P w=.ok (x == y) w:=λd x y w=>by simp[Op.equalIn,run_underlying he]
 have key:∀ m,(∀ (x y:Int) (w:World),(Op.equalIn m e (.int k x) (.int k y)).run P w=.ok (x == y) w)->(Op.equalIn (m+1) t (.agg #[.int k fC,.int k cC,.int k dQ,.int k dT]) (.agg #[.int k oI,.int k b1,.int k bW,.int k cY])).run P w=.ok (fC == oI&&(cC == b1&&(dQ == bW&&dT == cY))) w:=λm hint=>by
  rw[Op.equalIn];simp only[ck,run_underlying av,bV,sizeOf,typeInfo,hi,run_program,c3,ar];simp only[Vp];have af:List.range' 0 ([:4]:Std.Legacy.Range).size=[0,1,2,3]:=by decide
  rw[af];have pa:=λ(i:Nat) (v:Value) (w:World)=>Km #[.int k fC,.int k cC,.int k dQ,.int k dT] i v w;have Kn:=λ(i:Nat) (v:Value) (w:World)=>Km #[.int k oI,.int k b1,.int k bW,.int k cY] i v w;simp only[List.forIn_cons,List.forIn_nil,ck];rw[pa (0*1) (.int k fC) w rfl];simp only[bV,ck];rw[Kn (0*1) (.int k oI) w rfl];simp only[bV,ck];rw[hint];simp only[bV];cases(fC == oI);·simp
  simp only[uG,k8,lM,c3,bV,ck];rw[pa (1*1) (.int k cC) w rfl];simp only[bV,ck];rw[Kn (1*1) (.int k b1) w rfl];simp only[bV,ck];rw[hint];simp only[bV];cases(cC == b1);·simp
  simp only[uG,k8,lM,c3,bV,ck];rw[pa (2*1) (.int k dQ) w rfl];simp only[bV,ck];rw[Kn (2*1) (.int k bW) w rfl];simp only[bV,ck];rw[hint];simp only[bV];cases(dQ == bW);·simp
  simp only[uG,k8,lM,c3,bV,ck];rw[pa (3*1) (.int k dT) w rfl];simp only[bV,ck];rw[Kn (3*1) (.int k cY) w rfl];simp only[bV,ck];rw[hint];simp only[bV];cases(dT == cY);·simp
  simp
 exact key 9999 (hint 9998)
def gw.O3{E:Env}(aO:cT P E){t:Nat}(av:E t=some c7)(dR:c7.bL=.array 4 e)(he:E e=some aF){k:IntKind}(kw:aF.bL=.int k)(au:P.eqGuardType P.depth t=false){fC cC dQ dT oI b1 bW cY:Int}{V:Value->Prop}
  (h:V (.bool (fC == oI&&(cC == b1&&(dQ == bW&&dT == cY))))):gw P .eql t x y (.val (.agg #[.int k fC,.int k cC,.int k dQ,.int k dT])) (.val (.agg #[.int k oI,.int k b1,.int k bW,.int k cY])) V other:=by
 obtain⟨d,fF,fk⟩:=(aO _ _ av).fo;obtain⟨qq,O4,O5⟩:=(aO _ _ he).fo;obtain⟨inf,z,hi,fr,_⟩:=(aO _ _ he).inf;have aa:d=.array 4 e:=by rw[dR]at fk;cases d<;>simp_all[fm]
 have ab:qq=.int k:=by rw[kw]at O5;cases qq<;>simp_all[fm]
 subst aa;subst ab;have fq:inf.size=1:=by rw[fr];exact(aO _ _ he).JR (by rw[kw];rfl)
 refine .mk _ _ _ rfl rfl (λw=>?_) h;simp only[ck,run_eqGuard_agg (hm:=au),bV,binOp,VZ fF O4 hi fq,c3]
def gw.concat{t:Nat}{a b:ByteArray}(ar:a.size+b.size<=9223372036854775807){V:Value->Prop}(h:V (.string (a++b))):gw P .add t x y (.val (.string a)) (.val (.string b)) V other:=by refine .mk _ _ _ rfl rfl (λw=>?_) h;simp only[ck,Oy,bV,binOp,run_string_add_sum _ _ _ ar,c3]
end
section
variable{X:cU}{β:Nat->Nat}{a:Act}{w:World}{F:Fr}{C:dC}{I:aJ}{M:List aD}{o:Oper}{K:gi}
def cK.V0{n:Nat}{nC:Obj}(h:cK X β a w F C I (⟨n,nC⟩::M))(ar:w'.heap.size=w.heap.size)(ag:∀ b,b≠n->w'.heap[b]?=w.heap[b]?)(aH:ot w w'):cK X β a w' F C I M:=by
 have gx:(⟨n,nC⟩:aD)∈(⟨n,nC⟩:aD)::M:=by simp
 have bF:=h.holds.cd;simp only[b0,lL]at bF;exact {
  size:=h.size
  defers:=h.defers.mono λr af=>by have bt:n≠r:=af.eW _ gx;refine { af with dU:=?_,eW:=λx ad=>af.eW x (by simp[ad]) };rw[ag r (pj bt)];exact af.dU
  holds:={
   i:=λb o j1=>by rw[ag b (λe=>by have:=h.holds.d _ gx;simp only at this;rw[e,this]at j1;cases j1)];exact h.holds.i b o j1
   m:=λx ad=>by rw[ag _ (λe=>bF.1 (cN.2 ⟨x,ad,e⟩))];exact h.holds.m x (by simp[ad])
   d:=λx ad=>h.holds.d x (by simp[ad])
   cd:=bF.2 }
  al:=h.al
  cf:=λs cs nx=>by have rh:=h.cf s cs nx;have bt:n≠β s:=rh.eW _ gx;obtain⟨T,bu⟩:=rh.dU;refine { rh with dU:=⟨T,?_⟩,eW:=λx ad=>rh.eW x (by simp[ad]) };rw[ag _ (pj bt)];exact bu
  inj:=h.inj
  ie:=h.ie
  hI:=h.hI
  own:=λx ad=>h.own x (by simp[ad])
  dH:=λb aX aA=>by
   rw[ag b (λe=>by
    rcases h.own _ gx with aa | aa;·simp only at aa;exact aA (e ▸ aa)
    ·simp only at aa;omega)]
   exact h.dH b aX aA
  out:=h.out.trans aH
  sz:=by rw[ar];exact h.sz
  fp:=h.fp }
def ag0(w:World)(p:Addr)(n:Nat):(w.freeze p n).heap.size=w.heap.size:=by
 unfold World.freeze;split<;>simp
def ag1(w:World)(p:Addr)(n:Nat):ot w (w.freeze p n):=by
 unfold World.freeze;split<;>exact⟨rfl,rfl⟩
def ag2(w:World)(p:Addr)(n b:Nat)(h:b≠p.block):(w.freeze p n).heap[b]?=w.heap[b]?:=by
 unfold World.freeze;split
 ·rfl
 ·simp only[Array.getElem?_modify];rw[bR (pj h)]
def bz.O6(aO:cT X.P X.E){n:Operand}(aH:o.op=.call { callee:=.builtin .unsafeString,args:=#[p,n],argTypes:=#[uH,it] })(ak:∀ d,o.dst=some d->d<X.n)
 (av:X.E uH=some c7) (dR:c7.bL=.pointer e) (he:X.E e=some aF) (kw:aF.size=1)
 {l:List UInt8} (aC:bE F p=.val (.pointer (some ⟨g,0,none⟩))) (aB:bE F n=.val (.int .i64 l.length)) (az:l≠[]) (O7:l.length<=9223372036854775807)
 (a':M.Perm (⟨g,.cells cs e (0,0)⟩::Mr)) (nx:cs.toList.take l.length=l.map λb=>.int .u8 b.toNat)
  (h:K (put o.dst (.val (.string ⟨l.toArray⟩)) F) C I Mr):bz X o F C I M K:=by
 refine⟨λa w Q ⟨β,iA⟩=>?_⟩;have aV:cK X β a w F C I (⟨g,.cells cs e (0,0)⟩::Mr):=iA.hW (.perm a' .refl);have au:w.heap[g]?=some (.cells cs e (0,0)):=aV.holds.m ⟨g,.cells cs e (0,0)⟩ (by simp);obtain⟨d,fF,fk⟩:=(aO _ _ av).fo;have aa:d=.pointer e:=by rw[dR]at fk;cases d<;>simp_all[fm]
 subst aa;obtain⟨inf,z,hi,fr,_⟩:=(aO _ _ he).inf;have an:X.P.cellsOf e=1:=by simp[Program.cellsOf,hi,fr,kw]
 have c2:l.length<=cs.size:=by have:=congrArg List.length nx;simp only[hx,bI,zd]at this;omega
 have fa:=Lib.run_unsafeString_row (P:=X.P) w uH it o.type e fF an g cs.size (by simp[World.shape?,au]) l az c2 O7 (λj x ai=>by
  rw[eP _ rfl,tk au];have ab:(cs.toList.take l.length)[j]?=some (.int .u8 x.toNat):=by rw[nx];simp[ai]
  rw[k7]at ab;split at ab;·simpa using ab
  ·cases ab)
 have O8:=dd aV.al aC;have e8:=dd aV.al aB;refine iY (by rw[aH];simp) (v:=.string ⟨l.toArray⟩) (w':=w.freeze ⟨g,0,none⟩ l.length) ?_ ⟨_,_,_,_,⟨β,cK.put (x:=.val (.string ⟨l.toArray⟩)) (aV.V0 (ag0 _ _ _) (λb ag=>ag2 _ _ _ _ ag) (ag1 _ _ _)) ak rfl⟩,h⟩;unfold execOp;simp only[aH,resolve,invoke,builtin,ck,c3,bV,su,b0,hy,O8,e8,fa]
def bz.V1{n:Operand}(aH:o.op=.call { callee:=.builtin .unsafeString,args:=#[p,n],argTypes:=#[uH,it] })(ak:∀ d,o.dst=some d->d<X.n)
  {q:Option Addr} (aC:bE F p=.val (.pointer q)) (aB:bE F n=.val (.int .i64 0)) (h:K (put o.dst (.val (.string .empty)) F) C I M):bz X o F C I M K:=by
 refine⟨λa w Q ⟨β,aV⟩=>?_⟩;have O8:=dd aV.al aC;have e8:=dd aV.al aB;refine vQ aV ak (by rw[aH];simp) ?_ h;unfold execOp;simp only[aH,resolve,invoke,builtin,ck,c3,bV,su,b0,hy,O8,e8,Lib.run_unsafeString_none]
def bz.V2(aO:cT X.P X.E){t:Nat}(aH:o.op=.call { callee:=.builtin .copy,args:=#[x,y],argTypes:=#[t,u] })(ak:∀ d,o.dst=some d->d<X.n)
 (av:X.E t=some c7) (dR:c7.bL=.slice e) (he:X.E e=some aF) (kw:aF.size=1)
 {off dl DR:Nat} {s:ByteArray} {T:Nat} (ad:bE F x=.val (.slice (some ⟨g,off,none⟩) dl DR)) (aE:bE F y=.val (.string s)) (bm:s.size<=dl) (jv:off+s.size<=cs.size)
 (a':M.Perm (⟨g,.cells cs T (0,0)⟩::Mr))
  (h:K (put o.dst (.val (.int .i64 s.size)) F) C I (⟨g,.cells (cm cs.toList off (lk s)).toArray T (0,0)⟩::Mr)):bz X o F C I M K:=by
 refine⟨λa w Q ⟨β,iA⟩=>?_⟩;have aV:cK X β a w F C I (⟨g,.cells cs T (0,0)⟩::Mr):=iA.hW (.perm a' .refl);have au:w.heap[g]?=some (.cells cs T (0,0)):=aV.holds.m ⟨g,.cells cs T (0,0)⟩ (by simp);obtain⟨d,fF,fk⟩:=(aO _ _ av).fo;have aa:d=.slice e:=by rw[dR]at fk;cases d<;>simp_all[fm]
 subst aa;obtain⟨inf,z,hi,fr,_⟩:=(aO _ _ he).inf;have ay:(lk s).length=s.size:=by simp[lk]
 have aa:∀ v∈lk s,v.oneCell'=true:=λv ah=>by obtain⟨b,_,rfl⟩:=cN.1 ah;rfl
 have er:=run_storeCells_at X.P g off T (lk s) 0 cs w au (by rw[ay];simpa using jv) aa;simp only[qb]at er;have ag3:Nat.min s.size dl=s.size:=uu bm;have aA:(Builtin.firstCells inf.size s.size (.string s)).run X.P w=.ok (lk s).toArray w:=Vr w inf.size s;have ex:=dd aV.al ad;have oJ:=dd aV.al aE;have ll:=aV.xA (a9:=[]) (post:=Mr) (cs':=(cm cs.toList off (lk s)).toArray) rfl;refine iY (by rw[aH];simp) (v:=.int .i64 s.size) (w':=w.setRow g (cm cs.toList off (lk s)).toArray) ?_ ⟨_,_,_,_,⟨β,cK.put (x:=.val (.int .i64 s.size)) ll ak rfl⟩,h⟩;have fa:(Builtin.copy_ #[t,u] o.type #[.slice (some ⟨g,off,none⟩) dl DR,.string s]).run X.P w=.ok (.int .i64 s.size) (w.setRow g (cm cs.toList off (lk s)).toArray):=by simp[Builtin.copy_,run_underlying fF,Builtin.lenOf,ag3,sizeOf,typeInfo,hi,aA,er,cm,goInt]
 unfold execOp;simp only[aH,resolve,invoke,builtin,ck,c3,bV,su,b0,hy,ex,oJ,fa]
end
structure de(I:aJ)(a:Option Addr)(n c size b:Nat)(vs:List Value):Prop where
 len:vs.length=n*size
 cap:n<=c/\n*b<=140737488355328
 rd:n=0\/∃ aS,a=some aS/\aS.spot=none/\∃ cs T al,I aS.block=some (.cells cs T al)/\(cs.toList.drop aS.off).take (n*size)=vs
def de.mono{I:aJ}{n b:Nat}(h:de I a n c size b vs)(bw:∀ b o,I b=some o->I' b=some o):de I' a n c size b vs:=
 ⟨h.len,h.cap,h.rd.imp id λ⟨aS,aa,ab,cs,T,al,aj,aI⟩=>⟨aS,aa,ab,cs,T,al,bw _ _ aj,aI⟩⟩
def de.idx{I:aJ}{n b:Nat}(h:de I a n c size b vs){j:Nat}(ai:j<n) :
  ∃ aS,a=some aS/\∀ M,cF I M (aS.add (j*size)) size ((vs.drop (j*size)).take size):=by
 obtain⟨ay,_,az | ⟨aS,a4,ar,cs,T,al,bw,ah⟩⟩:=h
 ·omega
 ·refine⟨aS,a4,λM=>?_⟩;have bm:j*size+size<=n*size:=by have:=vK size (show j+1<=n from ai);rw[lO,oD]at this;exact this
  refine⟨by rw[eP _ ar],cs,T,al,.inl (by rw[eP _ ar];exact bw),?_,?_⟩;·rw[eP _ ar,<-ah,Gx,Gy,Bw];congr 1;omega
  ·rw[hx,tp,ay];omega
def de.one{I:aJ}{n b:Nat}{f:α->Value}{l:List α}(h:de I a n c 1 b (l.map f)){j:Nat}(ai:j<n)(ix:j<l.length) :
  ∃ aS,a=some aS/\∀ M,cF I M (aS.add (j*1)) 1 [f l[j]]:=by
 obtain⟨aS,aa,ab⟩:=h.idx ai;refine⟨aS,aa,λM=>?_⟩;have:=ab M;rw[e2,<-List.map_drop,<-List.map_take,eV ix,qh,rl]at this;rw[e2];exact this
def DS{α:Type}(f:α->List Value)(size:Nat)(aA:∀ x,(f x).length=size):∀ (l:List α) (j:Nat) (ai:j<l.length),((l.flatMap f).drop (j*size)).take size=f l[j]
 |x::l,0,_=>by simp only[j6,zf,vW,uE];rw[<-aA x];exact ze
 |x::l,j+1,ai=>by have aL:=DS f size aA l j (by simpa using ai);simp only[j6,Gu];rw[<-aL,show(j+1)*size=(f x).length+j*size from by rw[aA,lO];omega,Vq]
def iQ{α:Type}(f:α->List Value)(size:Nat)(aA:∀ x,(f x).length=size):∀ (l:List α),(l.flatMap f).length=l.length*size
 |[]=>by simp
 |x::l=>by simp[iQ f size aA l,aA x,lO];omega
def de.row{I:aJ}{n b:Nat}{f:α->List Value}(aA:∀ x,(f x).length=size){l:List α}(h:de I a n c size b (l.flatMap f)){j:Nat}(ai:j<n)(ix:j<l.length) :
  ∃ aS,a=some aS/\∀ M,cF I M (aS.add (j*size)) size (f l[j]):=by
 obtain⟨aS,aa,ab⟩:=h.idx ai;refine⟨aS,aa,λM=>?_⟩;have:=ab M;rwa [DS f size aA l j ix]at this
def cF.part{I:aJ}{a:Addr}{n k:Nat}(h:cF I M a n vs)(ae:k+m<=n):cF I M (a.add k) m ((vs.drop k).take m):=by
 obtain⟨ar,cs,T,al,aa,ab,aj⟩:=h;refine⟨by rw[eP _ ar],cs,T,al,by rw[eP _ ar];exact aa,?_,?_⟩
 ·rw[eP _ ar,<-ab,Gx,Gy,Bw];congr 1;omega
 ·rw[hx,tp,aj];omega
structure ao where
 k:Int
 cx:Int
 s1:Int
 s2:Int
 c1:Int
 t:ByteArray
 lo:Int
 hi:Int
 dB:Option Addr
 aN:Nat
 dp:Nat
 aw:List Int
def ao.cells(d:ao):List Value:=[.int .u8 d.k,.int .u64 d.cx,.int .u64 d.s1,.int .u64 d.s2,.int .u64 d.c1,.string d.t,.int .i64 d.lo,.int .i64 d.hi,.slice d.dB d.aN d.dp]
def ao.val(d:ao):Value:=.agg #[.int .u8 d.k,.int .u64 d.cx,.int .u64 d.s1,.int .u64 d.s2,.int .u64 d.c1,.string d.t,.int .i64 d.lo,.int .i64 d.hi,.slice d.dB d.aN d.dp]
def iR(x:Int):Prop:=-9223372036854775808<=x/\x<=9223372036854775807
def g'(x:Int):Prop:=0<=x/\x<18446744073709551616
structure ao.ok(I:aJ)(d:ao):Prop where
 k:0<=d.k/\d.k<256
 cx:g' d.cx
 s1:g' d.s1
 s2:g' d.s2
 c1:g' d.c1
 t:d.t.size<=9223372036854775807
 lo:iR d.lo
 hi:iR d.hi
 a0:de I d.dB d.aN d.dp 1 8 (d.aw.map (.int .i64 ·))
 aw:∀ x∈d.aw,iR x
def ao.cP(d:ao):d.cells.length=9:=rfl
def ao.ok.aN{I:aJ}{d:ao}(h:d.ok I):d.aw.length=d.aN:=by have:=h.a0.len;simpa using this
structure bS where
 ns:List ao
 a:Option Addr
 n:Nat
 c:Nat
 bn:Int
def bS.cells(t:bS):List Value:=[.slice t.a t.n t.c,.int .i64 t.bn]
def bS.val(t:bS):Value:=.agg #[.slice t.a t.n t.c,.int .i64 t.bn]
structure bS.ok(I:aJ)(t:bS):Prop where
 a0:de I t.a t.n t.c 9 96 (t.ns.flatMap ao.cells)
 ns:∀ d∈t.ns,d.ok I
 bn:iR t.bn
def bS.ok.n{I:aJ}{t:bS}(h:t.ok I):t.ns.length=t.n:=by have:=h.a0.len;rw[iQ _ 9 ao.cP]at this;omega
structure aP where
 name:ByteArray
 t:bS
def aP.cells(d:aP):List Value:=[.string d.name,.slice d.t.a d.t.n d.t.c,.int .i64 d.t.bn]
structure aP.ok(I:aJ)(d:aP):Prop where
 name:d.name.size<=140737488355328
 t:d.t.ok I
def aP.cP(d:aP):d.cells.length=3:=rfl
structure cv where
 ds:List aP
 a:Option Addr
 n:Nat
 c:Nat
def cv.val(g:cv):Value:=.agg #[.slice g.a g.n g.c]
structure cv.ok(I:aJ)(g:cv):Prop where
 a0:de I g.a g.n g.c 3 48 (g.ds.flatMap aP.cells)
 ds:∀ d∈g.ds,d.ok I
def cv.ok.n{I:aJ}{g:cv}(h:g.ok I):g.ds.length=g.n:=by have:=h.a0.len;rw[iQ _ 3 aP.cP]at this;omega
def ao.ok.mono{I:aJ}{d:ao}(h:d.ok I)(bw:∀ b o,I b=some o->I' b=some o):d.ok I':={ h with a0:=h.a0.mono bw }
def bS.ok.mono{I:aJ}{t:bS}(h:t.ok I)(bw:∀ b o,I b=some o->I' b=some o):t.ok I':=⟨h.a0.mono bw,λd ak=>(h.ns d ak).mono bw,h.bn⟩
def aP.ok.mono{I:aJ}{d:aP}(h:d.ok I)(bw:∀ b o,I b=some o->I' b=some o):d.ok I':=⟨h.name,h.t.mono bw⟩
def cv.ok.mono{I:aJ}{g:cv}(h:g.ok I)(bw:∀ b o,I b=some o->I' b=some o):g.ok I':=⟨h.a0.mono bw,λd ak=>(h.ds d ak).mono bw⟩
def wrap_i64{x:Int}(h:iR x):IntKind.i64.wrap x=x:=by obtain⟨aa,ab⟩:=h;unfold IntKind.wrap;simp only[IntKind.bits,IntKind.signed];simp;omega
open Go Go.Proofs
def a3(t n:Nat)(a b:Option dG):Option dG:=bif Nat.blt t n then a else b
def uM(n:Nat):Option dG:=some ⟨1,8,[.pointer none],.pointer n⟩
def kT(n:Nat):Option dG:=some ⟨1,24,[.slice none 0 0],.slice n⟩
def h3:Option dG:=none
def bU:Option dG:=some ⟨1,8,[.nilFunc],.other⟩
def O9:Option dG:=some ⟨1,8,[.int .i64 0],.int .i64⟩
def Ko:Option dG:=some ⟨1,1,[.int .u8 0],.int .u8⟩
def O':Option dG:=some ⟨1,8,[.int .u64 0],.int .u64⟩
def V3:Option dG:=some ⟨1,8,[.pointer none],.struct [(17,0)]⟩
def Pa:Option dG:=some ⟨1,16,[.nilIface],.other⟩
def V4:Option dG:=some ⟨1,4,[.int .i32 0],.int .i32⟩
def V5:Option dG:=some ⟨2,32,[.slice none 0 0,.int .i64 0],.struct [(29,0),(3,1)]⟩
def V6:Option dG:=some ⟨5,48,[.int .u8 0,.int .u8 0,.int .i64 0,.slice none 0 0,.int .i64 0],.struct [(5,0),(5,1),(3,2),(55,3),(3,4)]⟩
def Pb:Option dG:=some ⟨2,32,[.int .i64 0,.slice none 0 0],.struct [(3,0),(55,1)]⟩
def V7:Option dG:=some ⟨4,32,[.int .u64 0,.int .u64 0,.int .u64 0,.int .u64 0],.array 4 62⟩
def V8:Option dG:=some ⟨9,96,[.int .u8 0,.int .u64 0,.int .u64 0,.int .u64 0,.int .u64 0,.string ⟨#[]⟩,.int .i64 0,.int .i64 0,.slice none 0 0],.struct [(5,0),(64,1),(9,5),(3,6),(3,7),(55,8)]⟩
def V9:Option dG:=some ⟨3,40,[.bool false,.int .i64 0,.slice none 0 0],.struct [(4,0),(3,1),(149,2)]⟩
def V':Option dG:=some ⟨64,512,List.replicate 64 (.int .u64 0),.array 64 62⟩
def Wa:Option dG:=some ⟨4,16,[.int .i64 0,.int .i32 0,.int .u8 0,.int .u8 0],.struct [(2,0),(21,1),(5,2),(5,3)]⟩
def Wb:Option dG:=some ⟨2,32,[.pointer none,.slice none 0 0],.struct [(205,0),(50,1)]⟩
def Wc:Option dG:=some ⟨3,32,[.string ⟨#[]⟩,.int .i64 0,.int .i64 0],.struct [(9,0),(3,1),(3,2)]⟩
def Wd:Option dG:=some ⟨10,88,[.int .u8 0,.int .i64 0,.int .i64 0,.string ⟨#[]⟩,.int .u64 0,.int .u64 0,.int .u64 0,.int .u64 0,.int .i64 0,.int .i64 0],.struct [(5,0),(3,1),(3,2),(9,3),(64,4),(3,8),(3,9)]⟩
def Kp:Option dG:=some ⟨2,16,[.int .i64 0,.int .i64 0],.struct [(3,0),(3,1)]⟩
def Pc:Option dG:=some ⟨3,3,[.bool false,.bool false,.bool false],.struct [(4,0),(4,1),(4,2)]⟩
def We:Option dG:=some ⟨5,96,[.int .u8 0,.string ⟨#[]⟩,.slice none 0 0,.slice none 0 0,.slice none 0 0],.struct [(5,0),(9,1),(55,2),(55,3),(50,4)]⟩
def Wf:Option dG:=some ⟨6,64,[.string ⟨#[]⟩,.string ⟨#[]⟩,.int .u8 0,.map none,.int .i64 0,.int .i64 0],.struct [(9,0),(9,1),(5,2),(370,3),(3,4),(27,5)]⟩
def qs:Env:=λt=>bif Nat.blt t 408 then(a3 t 204 (a3 t 102 (a3 t 51 (a3 t 25 (a3 t 12 (a3 t 6 (a3 t 3 (a3 t 1 h3 (a3 t 2 bU O9)) (a3 t 4 O9 (a3 t 5 (some ⟨1,1,[.bool false],.bool⟩) Ko))) (a3 t 9 (a3 t 7 Ko (some ⟨4,24,[.int .i64 0,.int .i64 0,.bool false,.int .u8 0],.struct [(2,0),(3,1),(4,2),(6,3)]⟩)) (some ⟨1,16,[.string ⟨#[]⟩],.string⟩))) (a3 t 18 (a3 t 15 (a3 t 13 O' (some ⟨2,24,[.string ⟨#[]⟩,.int .u64 0],.struct [(9,0),(12,1)]⟩)) (a3 t 16 (uM 397) (a3 t 17 (uM 400) (uM 407)))) (a3 t 21 (a3 t 19 V3 (a3 t 20 V3 Pa)) (a3 t 23 (a3 t 22 V4 (kT 35)) (some ⟨1,24,[.slice none 0 0],.struct [(22,0)]⟩))))) (a3 t 38 (a3 t 31 (a3 t 28 (a3 t 26 bU (a3 t 27 bU O9)) (a3 t 29 bU (a3 t 30 (kT 66) V5))) (a3 t 34 (a3 t 32 V5 (a3 t 33 h3 bU)) (a3 t 36 (some ⟨3,48,[.string ⟨#[]⟩,.slice none 0 0,.int .i64 0],.struct [(9,0),(31,1)]⟩) (a3 t 37 bU h3)))) (a3 t 44 (a3 t 41 bU (a3 t 42 bU (a3 t 43 (some ⟨4,32,[.int .i64 0,.int .i64 0,.int .i64 0,.int .i64 0],.array 4 3⟩) (kT 42)))) (a3 t 47 (a3 t 45 bU (a3 t 46 bU h3)) (a3 t 49 bU (a3 t 50 bU (kT 5))))))) (a3 t 76 (a3 t 63 (a3 t 57 (a3 t 54 (a3 t 52 (kT 57) (a3 t 53 bU h3)) (a3 t 55 bU (a3 t 56 (kT 3) V6))) (a3 t 60 (a3 t 58 V6 (a3 t 59 bU Pb)) (a3 t 61 Pb (a3 t 62 bU O')))) (a3 t 69 (a3 t 66 (a3 t 64 V7 (a3 t 65 V7 V8)) (a3 t 67 V8 bU)) (a3 t 72 bU (a3 t 74 bU (a3 t 75 h3 bU))))) (a3 t 89 (a3 t 82 bU (a3 t 85 (a3 t 83 (kT 60) bU) bU)) (a3 t 95 (a3 t 92 (a3 t 90 (kT 31) bU) (a3 t 93 bU (some ⟨1,24,[.slice none 0 0],.struct [(29,0)]⟩))) (a3 t 98 (a3 t 96 bU (a3 t 97 (some ⟨10,80,[.nilFunc,.nilFunc,.nilFunc,.nilFunc,.nilFunc,.nilFunc,.nilFunc,.nilFunc,.nilFunc,.nilFunc],.array 10 95⟩) bU)) (a3 t 100 (a3 t 99 (uM 94) bU) bU)))))) (a3 t 153 (a3 t 127 (a3 t 114 (a3 t 108 (a3 t 105 (a3 t 103 (some ⟨1,8,[.map none],.map 9 3⟩) (a3 t 104 h3 bU)) (a3 t 106 bU (a3 t 107 bU h3))) (a3 t 111 bU (a3 t 112 bU (a3 t 113 (uM 186) h3)))) bU) (a3 t 140 (a3 t 133 (a3 t 130 (a3 t 128 (kT 129) (a3 t 129 bU Pb)) bU) (a3 t 136 (a3 t 134 bU (a3 t 135 (kT 55) h3)) (a3 t 138 bU (a3 t 139 (kT 4) bU)))) (a3 t 146 bU (a3 t 149 bU (a3 t 151 (a3 t 150 (kT 222) V9) (a3 t 152 V9 h3)))))) (a3 t 178 (a3 t 165 (a3 t 159 (a3 t 156 (a3 t 154 bU (a3 t 155 bU V')) (a3 t 157 V' (some ⟨66,528,[.int .i64 0,.int .u64 0,.int .u64 0,.int .u64 0,.int .u64 0,.int .u64 0,.int .u64 0,.int .u64 0,.int .u64 0,.int .u64 0,.int .u64 0,.int .u64 0,.int .u64 0,.int .u64 0,.int .u64 0,.int .u64 0,.int .u64 0,.int .u64 0,.int .u64 0,.int .u64 0,.int .u64 0,.int .u64 0,.int .u64 0,.int .u64 0,.int .u64 0,.int .u64 0,.int .u64 0,.int .u64 0,.int .u64 0,.int .u64 0,.int .u64 0,.int .u64 0,.int .u64 0,.int .u64 0,.int .u64 0,.int .u64 0,.int .u64 0,.int .u64 0,.int .u64 0,.int .u64 0,.int .u64 0,.int .u64 0,.int .u64 0,.int .u64 0,.int .u64 0,.int .u64 0,.int .u64 0,.int .u64 0,.int .u64 0,.int .u64 0,.int .u64 0,.int .u64 0,.int .u64 0,.int .u64 0,.int .u64 0,.int .u64 0,.int .u64 0,.int .u64 0,.int .u64 0,.int .u64 0,.int .u64 0,.int .u64 0,.int .u64 0,.int .u64 0,.int .u64 0,.int .u64 0],.struct [(3,0),(156,1),(62,65)]⟩))) (a3 t 162 (a3 t 160 h3 bU) bU)) (a3 t 171 bU (a3 t 174 (a3 t 172 bU (a3 t 173 bU (uM 180))) (a3 t 176 (a3 t 175 h3 bU) (a3 t 177 bU (kT 243)))))) (a3 t 191 (a3 t 184 (a3 t 181 (a3 t 179 (kT 307) (some ⟨8,160,[.slice none 0 0,.int .i64 0,.int .i64 0,.slice none 0 0,.slice none 0 0,.slice none 0 0,.slice none 0 0,.slice none 0 0],.struct [(177,0),(3,1),(3,2),(29,3),(178,4),(22,5),(177,6),(177,7)]⟩)) (a3 t 182 bU (a3 t 183 (kT 9) bU))) (a3 t 187 (a3 t 185 (kT 193) (some ⟨5,112,[.string ⟨#[]⟩,.slice none 0 0,.slice none 0 0,.slice none 0 0,.slice none 0 0],.struct [(9,0),(182,1),(55,2),(29,3),(184,4)]⟩)) bU)) (a3 t 197 (a3 t 194 (a3 t 192 Wa (a3 t 193 Wa (kT 192))) (a3 t 195 bU (a3 t 196 bU (kT 255)))) (a3 t 200 (a3 t 198 h3 bU) bU)))))) (a3 t 306 (a3 t 255 (a3 t 229 (a3 t 216 (a3 t 210 (a3 t 207 (a3 t 205 bU (a3 t 206 (uM 207) Wb)) (a3 t 208 Wb (a3 t 209 bU Pa))) (a3 t 213 (a3 t 211 Pa (a3 t 212 h3 bU)) bU)) (a3 t 222 (a3 t 219 (a3 t 217 bU (a3 t 218 h3 bU)) (a3 t 220 bU (a3 t 221 bU Wc))) (a3 t 225 (a3 t 223 Wc (a3 t 224 (kT 270) h3)) (a3 t 227 (a3 t 226 bU h3) bU)))) (a3 t 242 (a3 t 235 (a3 t 232 (a3 t 230 bU (a3 t 231 bU (some ⟨2,16,[.int .i64 0,.int .i64 0],.array 2 3⟩))) (a3 t 233 (some ⟨20,160,List.replicate 20 (.int .i64 0),.array 10 231⟩) bU)) (a3 t 238 bU (a3 t 240 (a3 t 239 bU h3) bU))) (a3 t 248 (a3 t 245 (a3 t 243 Wd (a3 t 244 Wd bU)) (a3 t 246 bU (a3 t 247 bU (some ⟨10,80,[.nilFunc,.nilFunc,.nilFunc,.nilFunc,.nilFunc,.nilFunc,.nilFunc,.nilFunc,.nilFunc,.nilFunc],.array 10 246⟩)))) (a3 t 251 bU (a3 t 253 bU (a3 t 254 (kT 138) Kp)))))) (a3 t 280 (a3 t 267 (a3 t 261 (a3 t 258 (a3 t 256 Kp bU) bU) (a3 t 264 (a3 t 262 bU (a3 t 263 (uM 5) h3)) bU)) (a3 t 273 (a3 t 270 (a3 t 268 bU (a3 t 269 bU Pc)) (a3 t 271 Pc bU)) (a3 t 276 (a3 t 274 h3 bU) bU))) (a3 t 293 (a3 t 286 (a3 t 283 (a3 t 281 (kT 319) (a3 t 282 h3 bU)) (a3 t 284 bU (some ⟨3,24,[.int .i64 0,.int .i64 0,.bool false],.struct [(3,0),(3,1),(4,2)]⟩))) (a3 t 289 (a3 t 287 (kT 285) (a3 t 288 (uM 285) bU)) (a3 t 291 (a3 t 290 bU (some ⟨3,48,[.string ⟨#[]⟩,.string ⟨#[]⟩,.string ⟨#[]⟩],.struct [(9,0),(9,1),(9,2)]⟩)) (a3 t 292 (some ⟨30,480,List.replicate 30 (.string ⟨#[]⟩),.array 10 290⟩) bU)))) (a3 t 299 (a3 t 296 (a3 t 294 (some ⟨1,8,[.pointer none],.other⟩) (a3 t 295 bU Kp)) (a3 t 297 Kp (a3 t 298 (kT 296) bU))) (a3 t 302 (a3 t 300 bU (a3 t 301 bU (some ⟨10,80,[.nilFunc,.nilFunc,.nilFunc,.nilFunc,.nilFunc,.nilFunc,.nilFunc,.nilFunc,.nilFunc,.nilFunc],.array 10 300⟩))) bU))))) (a3 t 357 (a3 t 331 (a3 t 318 (a3 t 312 (a3 t 309 (a3 t 307 We (a3 t 308 We h3)) (a3 t 310 bU (a3 t 311 bU (uM 307)))) bU) (a3 t 324 (a3 t 321 (a3 t 319 bU (a3 t 320 Pc h3)) bU) (a3 t 327 bU (a3 t 329 (a3 t 328 (some ⟨1,8,[.map none],.map 5 331⟩) bU) bU)))) (a3 t 344 (a3 t 337 (a3 t 334 (a3 t 332 bU h3) (a3 t 335 bU (a3 t 336 h3 bU))) (a3 t 340 (a3 t 338 h3 bU) (a3 t 342 bU (a3 t 343 (kT 344) bU)))) (a3 t 350 (a3 t 347 (a3 t 345 (some ⟨2,2,[.int .u8 0,.int .u8 0],.array 2 5⟩) (a3 t 346 (some ⟨3,32,[.int .i64 0,.int .i64 0,.string ⟨#[]⟩],.struct [(3,0),(3,1),(9,2)]⟩) (some ⟨9,96,[.int .i64 0,.int .i64 0,.string ⟨#[]⟩,.int .i64 0,.int .i64 0,.string ⟨#[]⟩,.int .i64 0,.int .i64 0,.string ⟨#[]⟩],.array 3 345⟩))) bU) (a3 t 353 (a3 t 351 bU (a3 t 352 bU O')) bU)))) (a3 t 382 (a3 t 369 (a3 t 363 (a3 t 360 (a3 t 358 h3 bU) (a3 t 361 h3 (a3 t 362 bU h3))) (a3 t 366 bU (a3 t 367 bU (a3 t 368 (uM 372) bU)))) (a3 t 375 (a3 t 372 (a3 t 370 bU (a3 t 371 (some ⟨1,8,[.map none],.map 5 5⟩) Wf)) (a3 t 373 Wf (a3 t 374 h3 bU))) (a3 t 378 (a3 t 376 bU (a3 t 377 bU (some ⟨64,64,List.replicate 64 (.int .u8 0),.array 64 5⟩))) bU))) (a3 t 395 (a3 t 388 (a3 t 385 (a3 t 383 bU (a3 t 384 (some ⟨24,24,List.replicate 24 (.int .u8 0),.array 24 5⟩) bU)) (a3 t 386 h3 bU)) (a3 t 391 (a3 t 389 (some ⟨20,160,List.replicate 20 (.int .u64 0),.array 20 62⟩) (a3 t 390 (some ⟨1,4,[.int .u32 0],.int .u32⟩) (some ⟨65,65,List.replicate 65 (.int .u8 0),.array 65 5⟩))) (a3 t 393 (a3 t 392 bU h3) bU))) (a3 t 401 (a3 t 398 (a3 t 396 (some ⟨32,32,List.replicate 32 (.int .u8 0),.array 32 5⟩) (some ⟨4,40,[.pointer none,.pointer none,.pointer none,.string ⟨#[]⟩],.struct [(17,0),(17,1),(17,2),(9,3)]⟩)) (a3 t 399 (some ⟨0,0,[],.array 0 16⟩) (some ⟨0,0,[],.struct [(398,0)]⟩))) (a3 t 404 (a3 t 402 Ko (a3 t 403 Ko bU)) (a3 t 406 V4 (some ⟨11,48,[.int .u64 0,.int .u64 0,.int .u32 0,.int .u8 0,.int .u8 0,.int .u8 0,.int .u8 0,.nilFunc,.pointer none,.int .i32 0,.int .i32 0],.struct [(12,0),(12,1),(389,2),(401,3),(5,4),(5,5),(402,6),(403,7),(262,8),(404,9),(405,10)]⟩)))))))))else none
def a6:cT Tryz.prog qs:=agd 408 (λt h=>by
 have bc:Nat.blt t 408=false:=by
  cases ag:Nat.blt t 408 with
  |false=>rfl| true=>exact absurd (bJ ag) (by omega)
 simp only[qs,bc,b']) (by kernel_rfl)
def letter(c:UInt8):Bool:=decide (97<=c.toNat/\c.toNat<=122)||(decide (65<=c.toNat/\c.toNat<=90)||decide (c.toNat=95))
def digit(c:UInt8):Bool:=decide (48<=c.toNat/\c.toNat<=57)
def Wg(I:aJ)(c:UInt8):Spec Tryz.prog 166 [.int .u8 c.toNat] I [] (λv I' M'=>v=.bool (letter c)/\I'=I/\M'=[]):=by
 refine cb [] a6 Tryz.func166 rfl rfl rfl ?_;intro B az
 repeat' (refine ct.mk (λh=>?_) (λh=>?_))
 all_goals
  refine⟨_,_,.refl,?_⟩;refine⟨?_,rfl,rfl⟩;simp_all[letter]
  all_goals first
   |omega|(rw[sm];simp;omega)
def ag4(I:aJ)(c:UInt8):Spec Tryz.prog 167 [.int .u8 c.toNat] I [] (λv I' M'=>v=.bool (digit c)/\I'=I/\M'=[]):=by
 refine cb [] a6 Tryz.func167 rfl rfl rfl ?_;intro B az
 repeat' (refine ct.mk (λh=>?_) (λh=>?_))
 all_goals
  refine⟨_,_,.refl,?_⟩;refine⟨?_,rfl,rfl⟩;simp_all[digit]
  all_goals first
   |omega|(rw[sm];simp;omega)
def BJ(s:ByteArray):s.data.toList.length=s.size:=zd
def ag5(I:aJ)(s:ByteArray)(ar:s.size<=140737488355328):Spec Tryz.prog 202 [.string s] I [] (λv I' M'=>v=.string s/\I'=I/\M'=[]):=by
 refine cb [] a6 Tryz.func202 rfl rfl rfl ?_;intro B az;refine a2.mk (λh=>?_) (λh=>?_)
 ·refine⟨_,_,.refl,?_,rfl,rfl⟩;have aa:s.size=0:=by simpa using h
  have:s=.empty:=by apply vL;exact OH aa
  rw[this];rfl
 ·have aa:s.size≠0:=by simpa using h
  refine mO.mk s.size s.size rfl rfl (ca _) (by show 1*s.size<=_;omega) (by omega) ?_;refine bX.mk λb ag sB=>?_;refine bz.V2 a6 rfl (by simp) (e:=5) rfl rfl rfl rfl rfl rfl (ca _) ?_ (.refl _) ?_;·simp[vP,madeCells]
  refine bd.mk ⟨b,0,none⟩ 0 rfl rfl (by omega) ?_;refine bz.O6 a6 rfl (by simp) (e:=5) rfl rfl rfl rfl (g:=b) (l:=s.data.toList) rfl ?_ ?_ ?_ (.refl _) ?_ ?_;·show dA.val (.int .i64 (s.size:Int))=dA.val (.int .i64 (s.data.toList.length:Int));rw[BJ]
  ·intro e;have:=congrArg List.length e;rw[BJ]at this;exact aa this
  ·rw[BJ];omega
  ·rw[BJ];have ay:(lk s).length=s.size:=by simp[lk]
   simp only[cm];rw[rl,iz,Bt (by rw[ay];exact ca _),<-ay,DI];rfl
  ·exact⟨_,_,.refl,rfl,rfl,rfl⟩
def Wh(I:aJ)(s:ByteArray)(ar:s.size<=140737488355328):Spec Tryz.prog 168 [.string s] I [] (λv I' M'=>v=.string s/\I'=I/\M'=[]):=by refine cb [] a6 Tryz.func168 rfl rfl rfl ?_;intro B az;refine be.mk [] [] _ (.refl _) (ag5 I s ar) ?_;rintro v I' M' -⟨rfl,rfl,rfl⟩;exact⟨_,_,.refl,rfl,rfl,rfl⟩
def tt(c:UInt8):Bool:=letter c||digit c
def tu(s:ByteArray):Nat:=match s.data.toList with
 |[]=>0| c::r=>bif letter c then 1+(r.takeWhile tt).length else 0
def Wi{α:Type}(p:α->Bool):∀ (l:List α) (i:Nat),i<=l.length->(∀ j (h:j<l.length),j<i->p l[j]=true)->(∀ (h:i<l.length),p l[i]=false)->(l.takeWhile p).length=i
 |[],i,h,_,_=>by simp at h;simp[h]
 |x::l,0,_,_,h=>by have:=h (by simp);simp only[uE]at this;simp[this]
 |x::l,i+1,hi,aa,ab=>by have ad:=aa 0 (by simp) (by omega);simp only[uE]at ad;have aL:=Wi p l i (by simpa using hi) (λj ai Kh=>by have:=aa (j+1) (by simpa using ai) (by omega);simpa using this) (λh=>by have:=ab (by simpa using h);simpa using this);simp[ad,aL]
def ag6{s:ByteArray}(az:0<s.size)(ay:letter s[0]=true){i:Nat}(aa:1<=i)(hi:i<=s.size)(a4:∀ j (h:j<s.size),1<=j->j<i->tt s[j]=true)(ag:∀ (h:i<s.size),tt s[i]=false):tu s=i:=by
 have get:∀ j (h:j<s.size),s[j]=s.data.toList[j]'(by rw[BJ];exact h):=λj h=>rfl;unfold tu;have c2:=BJ s;cases ak:s.data.toList with
 |nil=>rw[ak]at c2;simp at c2;omega
 |cons c r=>
  have g:∀ j (h:j<s.size),s[j]=(c::r)[j]'(by rw[<-ak,c2];exact h):=λj h=>by rw[get j h];simp only[ak]
  rw[ak]at c2;have an:letter c=true:=by rw[g 0 az]at ay;simpa using ay
  simp only[an,b5];simp only[dx]at c2;rw[Wi tt r (i-1) (by omega) (λj ai Kh=>by
   have aj:j+1<s.size:=by omega
   have:=a4 (j+1) aj (by omega) (by omega);rw[g (j+1) aj]at this;simpa using this) (λh=>by
   have aj:i<s.size:=by omega
   have:=ag aj;rw[g i aj]at this;have e:i=(i-1)+1:=by omega
   rw[List.getElem_cons]at this;rw[dif_neg (by omega)]at this;exact this)]
  omega
def ag7(I:aJ)(s:ByteArray)(ar:s.size<=140737488355328):Spec Tryz.prog 118 [.string s] I [] (λv I' M'=>v=.string (s.extract 0 (tu s))/\I'=I/\M'=[]):=by
 refine cb [] a6 Tryz.func118 rfl rfl rfl ?_;intro B az;have db:∀ {s:ByteArray},tu s=0->s.extract 0 (tu s)=⟨#[]⟩:=λh=>by rw[h];apply vL;simp[JO]
 refine ct.mk (λh=>?_) (λh=>?_)
 ·have aa:s≠⟨#[]⟩:=by simpa using h
  have oA:0<s.size:=by refine Nat.pos_of_ne_zero λe=>aa ?_;apply vL;exact OH e
  refine Bc.mk 0 rfl oA ?_;refine be.mk [] [] _ (.refl _) (Wg I s[0]) ?_;rintro v I' M' -⟨rfl,rfl,rfl⟩;refine a2.mk (λh=>?_) (λh=>?_)
  ·have ay:letter s[0]=false:=by simpa using h
   refine⟨_,_,.refl,?_,rfl,rfl⟩;rw[db]
   ·unfold tu;cases ak:s.data.toList with
    |nil=>rfl
    |cons c r=>
     have:s[0]=c:=by show s.data.toList[0]=c;simp only[ak];rfl
     rw[this]at ay;simp[ay]
  ·have ay:letter s[0]=true:=by simpa using h
   refine di.inv (ι:=Nat) (λi=>{ bi:=[(0,.val (.string s)),(3,.val (.int .i64 i))],cD:=I' }) (λi=>1<=i/\i<=s.size/\∀ j (h:j<s.size),1<=j->j<i->tt s[j]=true) (λi=>s.size-i) ?_ ?_;·exact⟨1,⟨by omega,by omega,λj _ aa ab=>by omega⟩,.refl,xH,.nil⟩
   ·rintro i⟨fr,iN,iw⟩;have next:∀ (aX:i<s.size),tt s[i]=true->(1<=i+1/\i+1<=s.size/\∀ k (h:k<s.size),1<=k->k<i+1->tt s[k]=true)/\s.size-(i+1)<s.size-i:=λaX an=>
     ⟨⟨by omega,by omega,λj ai aa ab=>by
      by_cases e:j=i;·subst e;exact an
      ·exact iw j ai aa (by omega)⟩,by omega⟩
    have out:(∀ (h:i<s.size),tt s[i]=false)->s.extract 0 i=s.extract 0 (tu s):=λaB=>by rw[ag6 oA ay fr iN iw aB]
    have df:(s.extract 0 i).size<=140737488355328:=by rw[ByteArray.size_extract];omega
    have fQ:IntKind.i64.wrap ((i:Int)+1)=((i+1:Nat):Int):=by rw[wrap_i64 ⟨by omega,by omega⟩];omega
    refine ct.mk (λh=>?_) (λh=>?_)
    ·have aX:i<s.size:=by simpa using h
     refine Bc.mk i rfl aX ?_;refine be.mk [] [] _ (.refl _) (Wg I' s[i]) ?_;rintro v I' M' -⟨rfl,rfl,rfl⟩;refine ct.mk (λh=>?_) (λh=>?_)
     ·refine Bc.mk i rfl aX ?_;refine be.mk [] [] _ (.refl _) (ag4 _ s[i]) ?_;rintro v I' M' -⟨rfl,rfl,rfl⟩;refine a2.mk (λab=>?_) (λab=>?_)
      ·refine bg.mk _ fQ ?_;exact⟨i+1,next aX (by simp only[tt];rw[show digit s[i]=true from ab];simp),.refl,xH,.nil⟩
      ·refine l6.mk 0 i rfl rfl (by omega) (by omega) ?_;refine be.mk [] [] _ (.refl _) (Wh _ _ df) ?_;rintro v I' M' -⟨rfl,rfl,rfl⟩;refine⟨_,_,.refl,?_,rfl,rfl⟩;rw[<-out λ_=>by simp only[tt];rw[show letter s[i]=false from h,show digit s[i]=false from ab];rfl]
     ·refine bg.mk _ fQ ?_;exact⟨i+1,next aX (by simp only[tt];rw[show letter s[i]=true from h];simp),.refl,xH,.nil⟩
    ·have cI:¬ i<s.size:=by simpa using h
     refine l6.mk 0 i rfl rfl (by omega) (by omega) ?_;refine be.mk [] [] _ (.refl _) (Wh _ _ df) ?_;rintro v I' M' -⟨rfl,rfl,rfl⟩;refine⟨_,_,.refl,?_,rfl,rfl⟩;rw[<-out λh=>(cI h).elim]
 ·have aa:s=⟨#[]⟩:=by simpa using h
  subst aa;refine⟨_,_,.refl,?_,rfl,rfl⟩;rw[db];rfl
def nD(s:ByteArray):Bool:=decide (s≠⟨#[]⟩)&&(decide (s.size<=32)&&decide (tu s=s.size))
def ag8(s:ByteArray):tu s<=s.size:=by
 unfold tu;have ay:=BJ s;cases ak:s.data.toList with
 |nil=>simp
 |cons c r=>
  rw[ak]at ay;simp only[dx]at ay;simp only;cases letter c;·simp
  ·simp only[b5];have:=(List.takeWhile_sublist (p:=tt) (l:=r)).length_le;omega
def Pd(I:aJ)(s:ByteArray):Spec Tryz.prog 65 [.string s] I [] (λv I' M'=>v=.bool (nD s)/\I'=I/\M'=[]):=by
 refine cb [] a6 Tryz.func65 rfl rfl rfl ?_;intro B az;refine ct.mk (λaa=>?_) (λaa=>?_)
 ·refine ct.mk (λab=>?_) (λab=>?_)
  ·have oK:s.size<=32:=by simp at ab;omega
   refine be.mk [] [] _ (.refl _) (ag7 I s (by omega)) ?_;rintro v I' M' -⟨rfl,rfl,rfl⟩;refine⟨_,_,.refl,?_,rfl,rfl⟩;have bm:=ag8 s;have aG:(s.extract 0 (tu s)).size=tu s:=by rw[ByteArray.size_extract];omega
   simp_all[nD]
   all_goals omega
  ·refine⟨_,_,.refl,?_,rfl,rfl⟩;simp_all[nD]
   all_goals omega
 ·refine⟨_,_,.refl,?_,rfl,rfl⟩;simp_all[nD]
def lp:List Int:=[0,0,0,0,0,0,0,0,2,-1,2,-1,1,1,1,1,1,1,1,1]
def uN(k:Nat):Int:=lp.getD (k*2) 0
def sC(k:Nat):Int:=lp.getD (k*2+1) 0
def m1(I:aJ):Prop:=∃ T al,I 0=some (.cells (lp.map (Value.int .i64)).toArray T al)
def m1.rd{I:aJ}(h:m1 I)(M:List aD){j:Nat}(ai:j<20):cF I M (Addr.add ⟨0,0,none⟩ j) 1 [.int .i64 (lp.getD j 0)]:=by
 obtain⟨T,al,h⟩:=h;rw[eP _ rfl];refine⟨rfl,_,T,al,.inl h,?_,rfl⟩;simp only[c8];have:∀ j:Fin 20,(((lp.map (Value.int .i64)).toArray.toList.drop j.val).take 1)=[Value.int .i64 (lp.getD j.val 0)]:=by
  intro j;have aa:j.val<(lp.map (Value.int .i64)).length:=by simp[lp]
  rw[Ok,eV aa,qh,rl];have ab:j.val<lp.length:=by simp[lp]
  simp[bA,ab]
 exact this ⟨j,ai⟩
def m1.ag9{I:aJ}(h:m1 I)(M:List aD){i j:Nat}(ai:i+j<20):cF I M ((Addr.add ⟨0,0,none⟩ i).add j) 1 [.int .i64 (lp.getD (i+j) 0)]:=by
 have e:(Addr.add ⟨0,0,none⟩ i).add j=Addr.add ⟨0,0,none⟩ (i+j):=by rw[eP ⟨_,0,none⟩ rfl i,eP _ rfl j,eP _ rfl (i+j)];simp
 rw[e];exact h.rd M ai
def ao.rC(d:ao):Bool:=d.cx == 0&&(d.s1 == 0&&(d.s2 == 0&&d.c1 == 0))
def fits(d:ao)(n:Int):Bool:=
 bif decide (10<=d.k)then false else
 bif decide (n<uN d.k.toNat)||(decide (0<=sC d.k.toNat)&&decide (sC d.k.toNat<n))then false else
 bif decide (d.k=1)then decide (d.t=⟨#[]⟩)&&(decide (d.lo=0)&&decide (d.hi=0))else
 bif decide (d.k=2)then(!(decide (d.t=⟨#[]⟩)||decide (255<d.t.size)))&&(d.rC&&(decide (d.lo=0)&&decide (d.hi=0)))else
 bif decide (d.k=3)||decide (d.k=9)then nD d.t&&(d.rC&&(decide (d.lo=0)&&decide (d.hi=0)))else
 bif decide (d.k=6)then(!(decide (d.lo<0)||(decide (99<d.lo)||(decide (d.hi≠-1)&&(decide (d.hi<d.lo)||decide (99<d.hi))))))&&(d.rC&&decide (d.t=⟨#[]⟩))else
 d.rC&&(decide (d.t=⟨#[]⟩)&&(decide (d.lo=0)&&decide (d.hi=0)))
set_option maxHeartbeats 4000000 in
def Wj{I:aJ}(an:m1 I){d:ao}(ak:d.ok I)(n:Int):Spec Tryz.prog 109 [d.val,.int .i64 n] I [] (λv I' M'=>v=.bool (fits d n)/\I'=I/\M'=[]):=by
 refine cb [] a6 Tryz.func109 rfl rfl rfl ?_;intro B az;have ae:=ak.k;refine bg.mk d.k (by unfold IntKind.wrap;simp[IntKind.bits,IntKind.signed];omega) ?_;refine a2.mk (λh=>?_) (λh=>?_)
 ·refine⟨_,_,.refl,?_,rfl,rfl⟩;simp at h;simp[fits,h]
 ·have sD:d.k<10:=by simpa using h
  have ai:d.k=((d.k.toNat:Nat):Int):=by omega
  have Wk:d.k.toNat<10:=by omega
  refine cV.draw a6 rfl rfl rfl ?_;refine eG.mk d.k.toNat ai Wk ?_;refine eG.mk 0 rfl (by omega) ?_;refine aM.mk [.int .i64 (uN d.k.toNat)] (an.rd _ (j:=d.k.toNat*2) (by omega)) ?_;refine eG.mk d.k.toNat ai Wk ?_;refine eG.mk 1 rfl (by omega) ?_;refine aM.mk [.int .i64 (sC d.k.toNat)] (an.ag9 _ (i:=d.k.toNat*2) (j:=1) (by omega)) ?_
  repeat' first
   |refine ct.mk (λh=>?_) (λh=>?_)| refine a2.mk (λh=>?_) (λh=>?_)| refine gw.O3 a6 (e:=62) rfl rfl rfl rfl (by kernel_rfl) ?_|(refine be.mk [] [] _ (.refl _) (Pd _ _) ?_;rintro v I' M' -⟨rfl,rfl,rfl⟩)
  all_goals refine⟨_,_,.refl,?_⟩
  all_goals refine⟨?_,rfl,rfl⟩
  all_goals clear an ak ai
  all_goals (first | (simp_all[fits,ao.rC];done) | (simp_all[fits,ao.rC];omega) | (simp_all[fits,ao.rC];rw[sm];simp;omega))
def kU(i:Nat):List Int->List Bool->Option (List Bool)
 |[],s=>some s| k::ks,s=>bif decide (k<0)||(decide ((i:Int)<=k)||s.getD k.toNat false)then none else kU i ks (s.set k.toNat true)
def jw:Nat->List ao->List Bool->Option (List Bool)
 |_,[],s=>some s
 |i,d::ds,s=>bif fits d d.aw.length then(match kU i d.aw s with
  |some b3=>jw (i+1) ds b3| none=>none)else none
def rD(bn:Int):Nat->List Bool->Bool
 |_,[]=>true| i,b::s=>bif b == decide ((i:Int)=bn)then false else rD bn (i+1) s
def right(t:bS):Bool:=decide (0<=t.bn)&&(decide (t.bn<t.ns.length)&&(match jw 0 t.ns (List.replicate t.ns.length false)with
 |some s=>rD t.bn 0 s| none=>false))
def tv(v:Value)(n:Nat):rowOf [v] n=List.replicate n v:=by
 apply mT
 ·simp[vP,madeCells]
 ·intro i aa ab;simp[vP,madeCells,Nat.mod_one]
def iB(b:Nat)(s:List Bool):aD:=⟨b,.cells (s.map Value.bool).toArray 4 (0,0)⟩
def GV{I:aJ}{b:Nat}{s:List Bool}(a':iB b s∈M){j:Nat}(ai:j<s.length):cF I M ((⟨b,0,none⟩:Addr).add (j*1)) 1 [.bool s[j]]:=by
 rw[eP _ rfl];refine⟨rfl,_,4,(0,0),.inr ⟨_,a',rfl,rfl⟩,?_,rfl⟩;have aa:j<(s.map Value.bool).length:=by simpa using ai
 simp only[c8,e2];rw[eV aa,qh,rl];simp
def DT(s:List Bool)(j:Nat)(ai:j<s.length)(b:Bool):cm (s.map Value.bool) j [.bool b]=(s.set j b).map Value.bool:=by unfold cm;rw[pw,DG];simp[ai]
def b2.add{b o k:Nat}(a9 post:List aD)(cs:Array Value)(T:Nat)(a':M=a9++⟨b,.cells cs T (0,0)⟩::post)(ag:o+k+vs.length<=cs.size)(aa:gv vs=true)
  (h:K (a9++⟨b,.cells (cm cs.toList (o+k) vs).toArray T (0,0)⟩::post)):b2 M ((⟨b,o,none⟩:Addr).add k) vs K:=by
 rw[eP _ rfl];exact .mk a9 post cs T a' rfl ag aa h
def b2.iC{b o k:Nat}(a9 post:List aD)(cs:List Value)(T:Nat)(a':M=a9++⟨b,.cells cs.toArray T (0,0)⟩::post)(ag:Nat.ble (o+k+vs.length) cs.length=true)(aa:gv vs=true)(cs':List Value)(he:cm cs (o+k) vs=cs')(h:K (a9++⟨b,.cells cs'.toArray T (0,0)⟩::post)):b2 M ((⟨b,o,none⟩:Addr).add k) vs K:=
 b2.add a9 post _ _ a' (by simpa using bJ ag) aa (by rw[<-he]at h;exact h)
def qt{I:aJ}(an:m1 I){t:bS}(av:t.ok I):Spec Tryz.prog 60 [t.val] I [] (λv I' M'=>v=.bool (right t)/\I'=I/\M'=[]):=by
 refine cb [] a6 Tryz.func60 rfl rfl rfl ?_;intro B az;have aB:=av.n;have jx:=av.a0.cap;refine ct.mk (λaa=>?_) (λaa=>?_)
 ·refine a2.mk (λab=>?_) (λab=>?_)
  ·refine⟨_,_,.refl,?_,rfl,rfl⟩;simp at ab;have:¬ t.bn<t.ns.length:=by omega
   simp[right,this]
  ·have a8:0<=t.bn:=by simpa using aa
   have ba:t.bn<t.ns.length:=by simp at ab;omega
   refine mO.mk t.n t.n rfl rfl (ca _) (by show 1*t.n<=_;omega) (by omega) ?_;refine bX.mk λb ag sB=>?_;refine di.inv (ι:=Nat×List Bool) (λx=>{ bi:=[(1,.ref 1 0),(3,.val (.slice (some ⟨b,0,none⟩) t.n t.n)),(26,.val (.slice t.a t.n t.c)),(27,.val (.int .i64 t.n)),(28,.val (.int .i64 x.1))],cl:=[(1,t.cells)],cD:=I,c0:=[iB b x.2] }) (λx=>x.1<=t.n/\x.2.length=t.n/\jw 0 t.ns (List.replicate t.ns.length false)=jw x.1 (t.ns.drop x.1) x.2) (λx=>t.n-x.1) ?_ ?_;·refine⟨(0,List.replicate t.n false),⟨by omega,by simp,by simp[aB]⟩,?_,hn,.cons rfl .nil⟩;show ic _ _ [⟨b,.cells (rowOf [Value.bool false] (t.n*1)).toArray 4 (0,0)⟩] _ [iB b (List.replicate t.n false)];rw[tv,e2];simp only[iB,xI];exact .refl
   ·rintro⟨i,s⟩⟨fr,iN,iw⟩;simp only at fr iN iw;refine a2.mk (λh=>?_) (λh=>?_)
    ·have aX:i<t.n:=by simpa using h
     have cj:i<t.ns.length:=by omega
     obtain⟨aS,bH,bl⟩:=av.a0.row ao.cP aX cj;have hK:=av.ns t.ns[i] (br cj);have e':=hK.aN;have j8:t.ns.drop i=t.ns[i]::t.ns.drop (i+1):=eV cj;refine bd.mk aS i bH rfl aX ?_;refine aM.mk t.ns[i].cells (bl _) ?_;refine be.mk [] [iB b s] _ (.refl _) (Wj an hK t.ns[i].aN) ?_;rintro v I' M' -⟨rfl,rfl,rfl⟩;refine a2.mk (λaj=>?_) (λaj=>?_)
     ·refine⟨_,_,.sub (fO _) .refl,?_,rfl,rfl⟩;have aA:fits t.ns[i] t.ns[i].aw.length=false:=by rw[e'];simpa using aj
      have:right t=false:=by unfold right;rw[iw,j8];simp[jw,aA]
      rw[this]
     ·have aA:fits t.ns[i] t.ns[i].aw.length=true:=by rw[e'];simpa using aj
      refine di.inv (ι:=Nat×List Bool) (λx=>{ bi:=[(1,.ref 1 0),(3,.val (.slice (some ⟨b,0,none⟩) t.n t.n)),(4,.val (.int .i64 i)),(26,.val (.slice t.a t.n t.c)),(27,.val (.int .i64 t.n)),(28,.val (.int .i64 i)),(40,.val (.slice t.ns[i].dB t.ns[i].aN t.ns[i].dp)),(41,.val (.int .i64 t.ns[i].aN)),(42,.val (.int .i64 x.1))],cl:=[(1,t.cells)],cD:=I',c0:=[iB b x.2] }) (λx=>x.1<=t.ns[i].aN/\x.2.length=t.n/\kU i t.ns[i].aw s=kU i (t.ns[i].aw.drop x.1) x.2) (λx=>t.ns[i].aN-x.1) ?_ ?_;·exact⟨(0,s),⟨by omega,iN,rfl⟩,.refl,i',.cons rfl .nil⟩
      ·rintro⟨j,b3⟩⟨Kq,tw,DU⟩;simp only at Kq tw DU;refine a2.mk (λh=>?_) (λh=>?_)
       ·have eM:j<t.ns[i].aN:=by simpa using h
        have iD:j<t.ns[i].aw.length:=by omega
        obtain⟨gk,fu,fb⟩:=hK.a0.one eM iD;refine bd.mk gk j fu rfl eM ?_;refine aM.mk [.int .i64 t.ns[i].aw[j]] (fb _) ?_;have j9:t.ns[i].aw.drop j=t.ns[i].aw[j]::t.ns[i].aw.drop (j+1):=eV iD;have bad:(decide (t.ns[i].aw[j]<0)||(decide ((i:Int)<=t.ns[i].aw[j])||b3.getD t.ns[i].aw[j].toNat false))=true->right t=false:=λag=>by unfold right;rw[iw,j8];simp only[jw,aA,b5,DU,j9,kU,ag];simp
        refine ct.mk (λaI=>?_) (λaI=>?_)
        ·refine ct.mk (λbB=>?_) (λbB=>?_)
         ·simp only[ss,Int.not_lt,Int.not_le]at aI bB;have kV:t.ns[i].aw[j]=((t.ns[i].aw[j].toNat:Nat):Int):=by omega
          have cA:t.ns[i].aw[j].toNat<t.n:=by omega
          have mh:t.ns[i].aw[j].toNat<b3.length:=by omega
          refine bd.mk ⟨b,0,none⟩ t.ns[i].aw[j].toNat rfl kV cA ?_;refine aM.mk [.bool b3[t.ns[i].aw[j].toNat]] (GV (by simp) mh) ?_;refine a2.mk (λb4=>?_) (λb4=>?_);·refine⟨_,_,.sub (fO _) .refl,?_,rfl,rfl⟩;rw[bad];simp[bA,mh,b4]
          ·refine bd.mk ⟨b,0,none⟩ t.ns[i].aw[j].toNat rfl kV cA ?_;refine b2.add [] [] _ 4 rfl ?_ rfl ?_
           ·simp only[oC,bI];show 0+t.ns[i].aw[j].toNat*1+1<=_;omega
           have fQ:IntKind.i64.wrap ((j:Int)+1)=((j+1:Nat):Int):=by rw[wrap_i64 ⟨by omega,by have:=hK.a0.cap;omega⟩];omega
           refine bg.mk _ fQ ?_;refine⟨(j+1,b3.set t.ns[i].aw[j].toNat true),⟨⟨by omega,by simp[tw],?_⟩,by show _<_;simp only;omega⟩,?_,i',.cons rfl .nil⟩
           ·simp only;rw[DU,j9];have aR:(decide (t.ns[i].aw[j]<0)||(decide ((i:Int)<=t.ns[i].aw[j])||b3.getD t.ns[i].aw[j].toNat false))=false:=by
             have aG:¬ t.ns[i].aw[j]<0:=by omega
             have a7:¬ (i:Int)<=t.ns[i].aw[j]:=by omega
             simp[aG,a7,bA,mh,show b3[t.ns[i].aw[j].toNat]=false from b4]
            simp only[kU,aR,b']
           ·have e:=DT b3 t.ns[i].aw[j].toNat mh true;simp only[iB];rw[<-e];simp only[c8,e2];exact .refl
         ·refine⟨_,_,.sub (fO _) .refl,?_,rfl,rfl⟩;rw[bad];simp at bB;simp[bB]
        ·refine⟨_,_,.sub (fO _) .refl,?_,rfl,rfl⟩;rw[bad];simp at aI;simp[aI]
       ·have eM:¬ j<t.ns[i].aN:=by simpa using h
        have BK:t.ns[i].aw.drop j=[]:=kr (by omega);have fQ:IntKind.i64.wrap ((i:Int)+1)=((i+1:Nat):Int):=by rw[wrap_i64 ⟨by omega,by omega⟩];omega
        refine bg.mk _ fQ ?_;refine⟨(i+1,b3),⟨⟨by omega,tw,?_⟩,by show _<_;simp only;omega⟩,.refl,hn,.cons rfl .nil⟩;simp only;rw[iw,j8];simp only[jw,aA,b5,DU,BK,kU]
    ·have cI:¬ i<t.n:=by simpa using h
     have hk:t.ns.drop i=[]:=kr (by omega);have gR:jw 0 t.ns (List.replicate t.ns.length false)=some s:=by rw[iw,hk];rfl
     have af:right t=rD t.bn 0 s:=by unfold right;rw[gR];simp[a8,ba]
     refine di.inv (ι:=Nat) (λm=>{ bi:=[(1,.ref 1 0),(64,.val (.slice (some ⟨b,0,none⟩) t.n t.n)),(65,.val (.int .i64 t.n)),(66,.val (.int .i64 m))],cl:=[(1,t.cells)],cD:=I,c0:=[iB b s] }) (λm=>m<=t.n/\rD t.bn 0 s=rD t.bn m (s.drop m)) (λm=>t.n-m) ?_ ?_;·exact⟨0,⟨by omega,rfl⟩,.refl,ew,.cons rfl .nil⟩
     ·rintro m⟨Kr,mi⟩;refine a2.mk (λh=>?_) (λh=>?_)
      ·have je:m<t.n:=by simpa using h
       have rE:m<s.length:=by omega
       have rF:s.drop m=s[m]::s.drop (m+1):=eV rE;refine bd.mk ⟨b,0,none⟩ m rfl rfl je ?_;refine aM.mk [.bool s[m]] (GV (by simp) rE) ?_;refine a2.mk (λef=>?_) (λef=>?_)
       ·refine⟨_,_,.sub (fO _) .refl,?_,rfl,rfl⟩;have:right t=false:=by rw[af,mi,rF];simp only[rD,show(s[m] == decide ((m:Int)=t.bn))=true from ef,b5]
        rw[this]
       ·have fQ:IntKind.i64.wrap ((m:Int)+1)=((m+1:Nat):Int):=by rw[wrap_i64 ⟨by omega,by omega⟩];omega
        refine bg.mk _ fQ ?_;refine⟨m+1,⟨⟨by omega,?_⟩,by omega⟩,.refl,ew,.cons rfl .nil⟩;rw[mi,rF];simp only[rD,show(s[m] == decide ((m:Int)=t.bn))=false from ef,b']
      ·have je:¬ m<t.n:=by simpa using h
       have rF:s.drop m=[]:=kr (by omega);refine⟨_,_,.sub (fO _) .refl,?_,rfl,rfl⟩;rw[af,mi,rF];rfl
 ·refine⟨_,_,.refl,?_,rfl,rfl⟩;have:¬ 0<=t.bn:=by simp at aa;omega
  simp[right,this]
end Go.V
